/- Of BookResumes. -/
import Derived.Test.YtdjdcpieiedfgaaGreatDoorZBookResumesAC
import Derived.ProofKit
import Derived.OpenShut
import Derived.WideKeyArgs
import Derived.JoinedCond
namespace Go.Fs
open Go.Proofs Tryz
namespace L7
open C7
def S8(l:List Int):Nat:=(l.filter fun n=>decide (n=2)).length
theorem aCH(l:List Int):S8 l≤l.length:=bOJ _ _
theorem aQF(l:List Ch):dA l≤3*l.length:=by
 induction l with
 |nil=>simp[dA]
 |cons c l ih=>
  have:aAL c.parts≤3:=bOJ _ _;simp only[dA,bNT,List.sum_cons,bMX]at ih ⊢
  omega
theorem VH{l:List Ch}{i:Nat}{x:Ch}(hx:l[i]?= some x):((dA (l.take (i+1)):Nat):Int)=((dA (l.take i)+S8 (x.parts.l.take 3):Nat):Int):=by
 rw[bMZ,hx];simp[dA,aAL,S8,Pt.l]
theorem aYS{x:Ch}{k:Nat}{n:Int}(hx:kP x=true)(hn:x.parts.l[k]?= some n):0≤n∧n≤2:=by
 simp only[kP,bMS,TT,bNQ]at hx;have:=hx.2 n (n5 hn);simpa [hC]using this
theorem aJB{l:List Int}{k u:Nat}{n:Int}(hn:l[k]?= some n)(h:0≤n∧n≤2):((u+S8 (l.take (k+1)):Nat):Int)=((u+S8 (l.take k):Nat):Int)+n / 2:=by
 rw[bMZ,hn];simp only[S8,bNU,bOE,LE];by_cases h2:n=2
 ·subst h2;simp;omega
 ·simp[h2];omega
theorem aUB{y:bA}(h:(decide ((7:Int)<y.chairs.length)||decide ((5:Int)<y.claims.length))=true):aZ y=3:=by
 simp only[bNZ,GT]at h;unfold aZ;rw[bNK Yd]
theorem OE{y:bA}(h:(decide ((7:Int)<y.chairs.length)||decide ((5:Int)<y.claims.length))=false):¬(7<y.chairs.length∨5<y.claims.length):=by
 simp only[bOH,bMY]at h;omega
theorem bJE{y:bA}(h:(decide ((7:Int)<y.chairs.length)||decide ((5:Int)<y.claims.length))=false)(h2:((!hC y.fit 0 9|| !y.chairs.all kP)|| !y.claims.all mJ)=true):aZ y=1:=by
 unfold aZ;rw[bNA (OE h),bNK]
 revert h2;unfold zR
 generalize hC y.fit 0 9=a,y.chairs.all kP=b,y.claims.all mJ=c;cases a<;>cases b<;>cases c<;>decide
theorem XQ{y:bA}(h2:((!hC y.fit 0 9|| !y.chairs.all kP)|| !y.claims.all mJ)=false):zR y=true:=by
 revert h2;unfold zR
 generalize hC y.fit 0 9=a,y.chairs.all kP=b,y.claims.all mJ=c;cases a<;>cases b<;>cases c<;>decide
theorem bKU{y:bA}(h:(decide ((7:Int)<y.chairs.length)||decide ((5:Int)<y.claims.length))=false)(h2:((!hC y.fit 0 9|| !y.chairs.all kP)|| !y.claims.all mJ)=false):y.chairs.length≤7∧∀x∈y.chairs,kP x=true:=by
 have h3:=XQ h2;simp only[zR,bMS,bNQ]at h3;have:=OE h;exact⟨Yd,h3.1.2⟩
theorem bEB{y:bA}(h:(decide ((7:Int)<y.chairs.length)||decide ((5:Int)<y.claims.length))=false)(h2:((!hC y.fit 0 9|| !y.chairs.all kP)|| !y.claims.all mJ)=false)(h3:(8:Int)<dA y.chairs):aZ y=3:=by
 unfold aZ;rw[bNA (OE h),bNA (by rw[XQ h2];simp),bNK Yd]
theorem aXQ{y:bA}(h:(decide ((7:Int)<y.chairs.length)||decide ((5:Int)<y.claims.length))=false)(h2:((!hC y.fit 0 9|| !y.chairs.all kP)|| !y.claims.all mJ)=false)(h3:¬(8:Int)<dA y.chairs):aZ y=0:=by
 unfold aZ;rw[bNA (OE h),bNA (by rw[XQ h2];simp),bNA Yd]
theorem aNX{p:Pt}{k:Nat}{m:Int}(h:p.l[k]?= some m):([qI p.a,qI p.b,qI p.c]:List Γ)[k*1]?= some (qI m):=by
 rw[bPK,show([qI p.a,qI p.b,qI p.c]:List Γ)=p.l.map (Value.int .i64)from rfl,bOD,h];rfl
theorem B2(yv:Γ)(y:bA)(D:aC)(hy:iY D yv y):Fn prog 86 #[yv] D (fun _ v=>v=qI (aZ y)):=by
 have V:=hy;obtain⟨cv,qv,rfl,hc,hq⟩:=hy;refine Zw 60 func86 rfl fun h0=>aA<|Zz rfl fun q1 E1 hN I=>Zf rfl<|aJ<|Zv rfl nA rfl I lN<|Zay rfl<|Zf rfl<|bO<|Za1<|aA<|Zj rfl iF rfl ?_;refine Zh 0 rfl pL rfl I rfl<|Zai rfl U37 rfl hc rfl<|Was ?_;refine' dL 5 (s:=16) (p:=21) rfl (fun Y=>?_) (fun Y=>?_) ?_;rotate_left
 ·refine Zk rfl mR rfl<|Zi 2 rfl J4 rfl I rfl<|eE rfl U38 rfl hq rfl rfl ⟨_,rfl,rfl⟩<|Ww ?_;exact aN 4
 ·refine Wf ?_;exact aN 4
 refine Zf rfl<|aF<|Zaf rfl (fun hc1=>?_) fun hc1=>?_
 ·refine Wk ?_;exact aE rfl fun D hD=>by show Value.int _ _=_;rw[aUB hc1]
 ·refine aA<|Zj rfl N4 rfl<|Zh 1 rfl aI rfl I rfl<|Zd rfl (fun D1 hO=>fC _ _ _ _)<|Wbg ?_;refine' dL 5 (s:=27) (p:=32) rfl (fun Z=>?_) (fun Z=>?_) ?_;rotate_left
  ·refine Zk rfl iF rfl<|Zi 0 rfl pL rfl I rfl<|Ze rfl (fun U hB=>NH _ _ _ kP _ (Sl.at A3.up hB Ym Yf) (.of fun x U=>IR x U) rfl)<|Wal ?_;exact aN 4
  ·refine Wf ?_;exact aN 4
  refine Za rfl ?_;refine' dL 6 (s:=33) (p:=39) rfl (fun hE=>?_) (fun hE=>?_) ?_;rotate_left
  ·refine Zk rfl mR rfl<|Zi 2 rfl J4 rfl I rfl<|Zb rfl<|Ze rfl (fun D3 R=>OW _ _ _ mJ _ (Sl.at R2.up R Ym Yf) ⟨_,[_],[],rfl,fun r U hl=>aQW _ y r U (V.up ((R _ Yf).trans hl))⟩ rfl)<|Wal ?_;exact aN 5
  ·refine Zg rfl<|Wf ?_;exact aN 5
  refine Zf rfl<|aF<|Zaf rfl (fun hc2=>?_) fun hc2=>?_
  ·refine Wk ?_;exact aE rfl fun D hD=>by show Value.int _ _=_;rw[bJE hc1 hc2]
  ·obtain⟨hP,hok⟩:=bKU hc1 hc2;refine bG<|Za4<|Zaz<|aA<|Zf rfl<|bC<|Zj rfl iF rfl<|Zh 0 rfl pL rfl I rfl<|Zai rfl U37 rfl hc rfl<|Za rfl<|aF<|Za1 ?_;refine bM (γ:=Nat) (fun i=>y.chairs.length-i) (fun i=>i≤y.chairs.length) (fun i=>[(43,qI (i:Int)),(4,qI (dA (y.chairs.take i):Int))]) [(42,_),(41,_),(2,_)] (fun i=>[E1,D]) 0 Yd ⟨Ya,(by simp[dA];rfl),bSM⟩ cF (aK) ?_
   rintro i h1;refine aA<|Zan rfl<|bO<|Zae rfl (fun hc3=>?_) fun hc3=>?_
   ·have hi:i<y.chairs.length:=Yd
    obtain⟨x,hx⟩:=cT y.chairs i;have hxo:=hok x (n5 hx);have hub:=aQF (y.chairs.take i);have hut:(y.chairs.take i).length≤i:=bPW _ _;refine aQ<|Za3<|Za1<|aA<|Zx rfl U37 mK rfl hc rfl hx fun b1 o1 hF hH hK hI=>?_;obtain rfl:hF=[qI _,qI _,qI _,qI _]:=hH;refine Zv rfl OO rfl hI mK<|Zah rfl Q3 rfl fun q2=>Zab rfl mK ζ<|aJ<|Zj rfl R1 rfl<|eN rfl rE oO rfl Mm0 rfl rfl n4 rfl bSM<|Za rfl<|aF<|Za1<|bM (γ:=Nat) (fun k=>3-k) (fun k=>k≤3) (fun k=>[(49,qI (k:Int)),(4,qI ((dA (y.chairs.take i)+S8 (x.parts.l.take k):Nat):Int))]) [(48,_),(47,_),(6,_),(46,_),(45,_),(44,_),(43,_),(42,_),(41,_),(2,_)] (fun k=>[E1,D]) 0 Yd ⟨Ya,(by simp[S8];rfl),bSM⟩ cF (aK) ?_
    rintro k h2;refine aA<|Zan rfl<|bO<|Zae rfl (fun hc4=>?_) fun hc4=>?_
    ·have hR:k<3:=Yd
     obtain⟨n,hn⟩:∃n,x.parts.l[k]?= some n:=⟨_,bMU (by simp[Pt.l];omega)⟩
     have hJ:=aYS hxo hn;have hkl:=aCH (x.parts.l.take k);have hkt:(x.parts.l.take k).length≤k:=bPW _ _;refine aQ<|Za3<|Za1<|aA<|FS (l:=x.parts.l) rfl U210 aI aH rfl rfl Yd Yd hn rfl bSM<|Zf rfl<|aF<|aO<|Za rfl<|Za rfl<|j4 rfl rfl rfl Yd Yd Ye rfl bSM<|Zad rfl ?_;refine Wan ?_;exact Zn 12 (k+1) ⟨Ya,(by rw[aJB hn hJ];rfl),bSM⟩ rfl Mm5
    ·obtain rfl:k=3:=Yd
     refine Za6<|Za2<|Za2<|Za7<|Wb ?_;exact Zn 12 (i+1) ⟨Ya,(by rw[VH hx];rfl),bSM⟩ rfl (List.Sublist.cons _ Mm5)
   ·obtain rfl:i=y.chairs.length:=Yd
    rw[bNR];refine Za6<|Za2<|Za2<|Za7<|Zaz<|bZ<|Za rfl<|Zaq rfl<|aF<|Zae rfl (fun O=>?_) fun O=>?_
    ·refine Wci ?_;exact aE rfl fun D hD=>by show Value.int _ _=_;rw[bEB hc1 hc2 O]
    ·refine aQ<|aA<|We ?_;exact aE rfl fun D hD=>by show Value.int _ _=_;rw[aXQ hc1 hc2 O]
def wT(p:Pt):Prop:=(0≤p.a∧p.a≤1)∧(0≤p.b∧p.b≤1)∧(0≤p.c∧p.c≤1)
def T5(p q:Pt):Bool:=(!iE p&& !iE q)&&iE ⟨max p.a q.a,max p.b q.b,max p.c q.c⟩
def U6(f:Int)(x z:Ch):Bool:=hC (x.size-z.size) (-f) f
theorem aAH(p q:Pt):T5 p q=T5 q p:=by
 unfold T5;rw[Int.max_comm p.a,Int.max_comm p.b,Int.max_comm p.c,Bool.and_comm (!iE p)]
theorem aKP(f:Int)(x z:Ch):U6 f x z=U6 f z x:=by
 unfold U6 hC;rw[bPT];simp only[bMS,GT];omega
theorem aVE(p q:Pt)(D:aC)(hp:wT p)(hq:wT q):Fn prog 247 #[bKZ p,bKZ q] D (fun _ v=>v=.bool (T5 p q)):=by
 refine Zw 32 func247 rfl fun h0=>aA<|Zz rfl fun q1 E1 V I=>Zz rfl fun q2 E2 Y O=>Zf rfl<|aJ<|cK rfl rE rfl I Yc Yae n4 rfl bSM<|Zd rfl (fun D1 Z=>zI p _)<|Wbg ?_;refine' bX 4 (s:=8) (p:=12) rfl (fun R=>?_) (fun R=>?_) ?_;rotate_left
 ·refine cK rfl rE rfl O Yc Yae n4 rfl ⟨_,rfl,rfl⟩<|Ze rfl (fun D2 hB=>zI q _)<|Wbr ?_;exact aN 3
 ·refine Wc ?_;exact aN 3
 refine Za rfl ?_;refine' bX 18 (s:=13) (p:=31) rfl (fun U=>?_) (fun U=>?_) ?_;rotate_left
 ·refine cA rfl U210 aH rfl rfl Yt Yt rfl ⟨_,rfl,rfl⟩<|iL rfl aI rfl I Yf rfl n4 rfl ⟨_,rfl,rfl⟩<|cA rfl U210 aH rfl rfl Yt Yt rfl ⟨_,rfl,rfl⟩<|iL rfl aI rfl O Yf rfl n4 rfl ⟨_,rfl,rfl⟩<|aAN rfl rfl rfl hp.1 hq.1 rfl ⟨_,rfl,rfl⟩<|cA rfl U210 aH rfl rfl Yt Yt rfl ⟨_,rfl,rfl⟩<|iL rfl aI rfl I Yf rfl n4 rfl ⟨_,rfl,rfl⟩<|cA rfl U210 aH rfl rfl Yt Yt rfl ⟨_,rfl,rfl⟩<|iL rfl aI rfl O Yf rfl n4 rfl ⟨_,rfl,rfl⟩<|aAN rfl rfl rfl hp.2.1 hq.2.1 rfl ⟨_,rfl,rfl⟩<|cA rfl U210 aH rfl rfl Yt Yt rfl ⟨_,rfl,rfl⟩<|iL rfl aI rfl I Yf rfl n4 rfl ⟨_,rfl,rfl⟩ ?_;refine cA rfl U210 aH rfl rfl Yt Yt rfl ⟨_,rfl,rfl⟩<|iL rfl aI rfl O Yf rfl n4 rfl ⟨_,rfl,rfl⟩<|aAN rfl rfl rfl hp.2.2 hq.2.2 rfl ⟨_,rfl,rfl⟩<|M8 (cs:=[qI (max p.a q.a),qI (max p.b q.b),qI (max p.c q.c)]) rfl U210 aH m7 rfl rfl rfl ⟨_,rfl,rfl⟩<|Ze rfl (fun D3 hE=>zI ⟨max p.a q.a,max p.b q.b,max p.c q.c⟩ _)<|Zak rfl ?_;exact aN 17
 ·refine Wah ?_;refine Wo ?_;exact aN 17
 refine We ?_;exact aE rfl fun D hD=>rfl
theorem DM(yv:Γ)(y:bA)(a b:Nat)(x z:Ch)(D:aC)(hy:iY D yv y)(hf:0≤y.fit∧y.fit≤9)(hx:y.chairs[a]?= some x)(hz:y.chairs[b]?= some z)(hxs:0≤x.size∧x.size≤9)(hzs:0≤z.size∧z.size≤9):Fn prog 147 #[yv,qI (a:Int),qI (b:Int)] D (fun _ v=>v=.bool (U6 y.fit x z)):=by
 obtain⟨cv,qv,rfl,hc,hq⟩:=hy;refine Zw 26 func147 rfl fun h0=>aA<|Zz rfl fun q1 E1 hF I=>Zf rfl<|bO<|bN [] 6 20 257988<|Zj rfl iF rfl<|Zh 0 rfl pL rfl I rfl<|Za rfl<|Zx rfl U37 mK rfl hc rfl hx fun b1 o1 O R hB U=>?_;obtain rfl:O=[qI _,qI _,qI _,qI _]:=R;refine Zj rfl s5 rfl<|Zh 0 rfl aI rfl U rfl<|Zj rfl iF rfl<|Zh 0 rfl pL rfl I rfl<|Za rfl<|Zx rfl U37 mK rfl hc rfl hz fun b2 o2 V Y hE Z=>?_;obtain rfl:V=[qI _,qI _,qI _,qI _]:=Y;refine Zj rfl s5 rfl<|Zh 0 rfl aI rfl Z rfl<|Zav rfl<|Zj rfl N4 rfl<|Zh 1 rfl aI rfl I rfl<|aED rfl rfl Ye rfl bSM<|Zj rfl N4 rfl<|Zh 1 rfl aI rfl I rfl<|Zd rfl (fun D1 hH=>fC _ _ _ _)<|We ?_;exact aE rfl fun D hD=>rfl
def jJ(p:Nat→Bool):Nat→Nat
 |0=>0
 |n+1=>if p n=true then jJ p n|||2^n else jJ p n
theorem oJ(p:Nat→Bool):∀n i,(jJ p n).testBit i=(decide (i<n)&&p i)
 |0,i=>by simp[jJ]
 |n+1,i=>by
  unfold jJ;split
  ·rename_i h;rw[Nat.testBit_or,oJ p n i,Nat.testBit_two_pow];by_cases hi:n=i
   ·subst hi;simp[h]
   ·have:(i<n+1)=(i<n):=by rw[eq_iff_iff];omega
    simp[hi,this]
  ·rename_i h;rw[oJ p n i];by_cases hi:n=i
   ·subst hi;simp[h]
   ·have:(i<n+1)=(i<n):=by rw[eq_iff_iff];omega
    simp[this]
theorem k9(p:Nat→Bool)(n:Nat):jJ p n<2^n:=by
 apply Nat.lt_pow_two_of_testBit;intro i hi;rw[oJ];have:¬i<n:=Yd
 simp[this]
def lS(t:List Pt)(i:Nat):Bool:=match t[i]? with|some p=> !iE p|none=>false
def kI(y:bA)(t:List Pt)(i k:Nat):Bool:=match t[i]?,t[k]?,y.chairs[i]?,y.chairs[k]? with
 |some p,some q,some x,some z=>(decide ((k:Int)≠i)&&U6 y.fit x z)&&T5 p q
 |_,_,_,_=>false
theorem QY{y:bA}{t:List Pt}{i k:Nat}{z q:Pt}{x1 x2:Ch}(hz:t[i]?= some z)(hq:t[k]?= some q)(hx1:y.chairs[i]?= some x1)(hx2:y.chairs[k]?= some x2):kI y t i k=((decide ((k:Int)≠i)&&U6 y.fit x1 x2)&&T5 z q):=by
 unfold kI;rw[hz,hq,hx1,hx2]
def gP(y:bA)(t:List Pt)(i k:Nat):List Nat:=(List.range 7).map fun j=>if j<i then jJ (kI y t j) t.length else if j=i then jJ (kI y t i) k else 0
structure Sc where
 whole:Nat
 broken:Nat
 fits:List Nat
deriving DecidableEq
def dF(y:bA)(t:List Pt):Sc:=⟨whole t,jJ (lS t) t.length,(List.range 7).map fun j=>jJ (kI y t j) t.length⟩
def CY(w b:Nat)(rows:List Nat):List Γ:=qI (w:Int)::qI (b:Int)::rows.map fun(n:Nat)=>Value.int .i64 (n:Int)
def XF(s:Sc):Γ:=.agg (CY s.whole s.broken s.fits).toArray
theorem aOB(w b:Nat)(rows:List Nat):∀u∈CY w b rows,cell1 u=true:=by
 intro u hu;unfold CY at hu;simp only[LT,bMR]at hu;rcases hu with rfl|rfl|⟨n,_,rfl⟩<;>rfl
theorem bEL{y:bA}{t:List Pt}{j:Nat}(h:t.length≤j):jJ (kI y t j) t.length=0:=by
 apply Nat.eq_of_testBit_eq;intro i;rw[oJ,Nat.zero_testBit];have:kI y t j i=false:=by unfold kI;rw[bPU h]
 simp[this]
theorem aLT{y:bA}{t:List Pt}:gP y t t.length 0=(dF y t).fits:=by
 show gP y t t.length 0=(List.range 7).map fun j=>jJ (kI y t j) t.length
 unfold gP;apply bSL;intro j _;by_cases h:j<t.length
 ·rw[bNK h]
 ·rw[bNA h,bEL Yd];split<;>rfl
theorem aDS{y:bA}{t:List Pt}{i:Nat}:gP y t i t.length=gP y t (i+1) 0:=by
 unfold gP;apply bSL;intro j _;by_cases h:j<i
 ·rw[bNK h,bNK Yd]
 ·rw[bNA h];by_cases h2:j=i
  ·subst h2;rw[bNK rfl,bNK Yd]
  ·rw[bNA h2,bNA Yd];split<;>rfl
theorem bGF{y:bA}{t:List Pt}{i k:Nat}(h:kI y t i k=false):gP y t i k=gP y t i (k+1):=by
 unfold gP;have:jJ (kI y t i) (k+1)=jJ (kI y t i) k:=by rw[jJ,bNA (by simp[h])]
 rw[this]
theorem bDZ{y:bA}{t:List Pt}{i k:Nat}(h:i<7):(gP y t i k)[i]?= some (jJ (kI y t i) k):=by
 unfold gP;rw[bOD,bRI h];simp
theorem bHS{rows:List Nat}{i n:Nat}(w b:Nat)(h:rows[i]?= some n):(CY w b rows)[2+i*1]?= some (qI (n:Int)):=by
 rw[bPK,Nat.add_comm];unfold CY;rw[List.getElem?_cons_succ,List.getElem?_cons_succ,bOD,h];rfl
theorem zW{t:List Pt}{i:Nat}{z:Pt}(hz:t[i]?= some z):whole (t.take (i+1))=whole (t.take i)+if iE z=true then 1 else 0:=by
 unfold whole;rw[bMZ,hz,bNU,bOE,LE];cases h:iE z<;>simp[h]
theorem aCM{t:List Pt}{i:Nat}{z:Pt}(hz:t[i]?= some z):lS t i= !iE z:=by unfold lS;rw[hz]
theorem LI{y:bA}{t:List Pt}{i k:Nat}{z:Pt}(hz:t[i]?= some z)(hw:iE z=true):jJ (kI y t i) k=0:=by
 apply Nat.eq_of_testBit_eq;intro j;rw[oJ,Nat.zero_testBit];have:kI y t i j=false:=by
  unfold kI;rw[hz]
  split
  ·rename_i I _ _ _;obtain rfl:=bNS I;simp[T5,hw]
  ·rfl
 simp[this]
theorem aSK{y:bA}{t:List Pt}{i:Nat}{z:Pt}(hz:t[i]?= some z)(hw:iE z=true):
  (CY (whole (t.take i)) (jJ (lS t) i) (gP y t i 0)).take 0++[qI ((whole (t.take i):Int)+1)]++(CY (whole (t.take i)) (jJ (lS t) i) (gP y t i 0)).drop (0+ [Value.int .i64 ((whole (t.take i):Int)+1)].length)=CY (whole (t.take (i+1))) (jJ (lS t) (i+1)) (gP y t (i+1) 0):=by
 have h1:((whole (t.take (i+1)):Nat):Int)=(whole (t.take i):Int)+1:=by rw[zW hz,bNK hw];simp
 have h2:jJ (lS t) (i+1)=jJ (lS t) i:=by rw[jJ,bNA (by rw[aCM hz,hw];simp)]
 have h3:gP y t (i+1) 0=gP y t i 0:=by
  rw[←aDS];unfold gP;rw[LI hz hw,LI hz hw]
 rw[h2,h3];unfold CY;rw[h1];rfl
theorem bCO{y:bA}{t:List Pt}{i:Nat}{z:Pt}(hz:t[i]?= some z)(hw:iE z=false):
  (CY (whole (t.take i)) (jJ (lS t) i) (gP y t i 0)).take 1++[qI ((jJ (lS t) i|||2^i:Nat):Int)]++(CY (whole (t.take i)) (jJ (lS t) i) (gP y t i 0)).drop (1+ [Value.int .i64 ((jJ (lS t) i|||2^i:Nat):Int)].length)=CY (whole (t.take (i+1))) (jJ (lS t) (i+1)) (gP y t i 0):=by
 have h1:whole (t.take (i+1))=whole (t.take i):=by rw[zW hz,bNA (by simp[hw])];rfl
 have h2:jJ (lS t) (i+1)=jJ (lS t) i|||2^i:=by rw[jJ,bNK (by rw[aCM hz,hw];rfl)]
 rw[h1,h2];rfl
theorem bJP{y:bA}{t:List Pt}{i k w b:Nat}(hi:i<7)(h:kI y t i k=true):
  (CY w b (gP y t i k)).take (2+i*1)++[qI ((jJ (kI y t i) k|||2^k:Nat):Int)]++(CY w b (gP y t i k)).drop (2+i*1+ [Value.int .i64 ((jJ (kI y t i) k|||2^k:Nat):Int)].length)=CY w b (gP y t i (k+1)):=by
 have h2:jJ (kI y t i) (k+1)=jJ (kI y t i) k|||2^k:=by rw[jJ,bNK h]
 have e:i=0∨i=1∨i=2∨i=3∨i=4∨i=5∨i=6:=Yd
 rw[←h2];rcases e with rfl|rfl|rfl|rfl|rfl|rfl|rfl<;>rfl
theorem aNM(yv tv:Γ)(y:bA)(t:List Pt)(D:aC)(hy:iY D yv y)(ht:Sl D RP 3 tv t)(hlen:t.length=y.chairs.length)(h7:t.length≤7)(hb:∀p∈t,wT p)(hf:0≤y.fit∧y.fit≤9)(hs:∀c∈y.chairs,0≤c.size∧c.size≤9):Fn prog 174 #[yv,tv] D (fun _ v=>v=XF (dF y t)):=by
 have I:=hy;obtain⟨cv,qv,rfl,hc,hq⟩:=hy;have hl:=ht.len;refine Zw 61 func174 rfl fun h0=>aA<|Zz rfl fun q1 E1 hK O=>Zah rfl wQ rfl fun q2=>bC<|Za rfl<|Zai rfl U303 rfl ht rfl<|Za rfl<|aF<|Za1<|gT (γ:=Nat) (fun i=>t.length-i) (fun i=>i≤t.length) (fun i=>[(11,qI (i:Int))]) [(10,_),(9,_),(4,_),(2,_),(1,_)] (fun i=>[(q2,qC (CY (whole (t.take i)) (jJ (lS t) i) (gP y t i 0)) 307)]) (fun i=>[E1,D]) 0 Yd ⟨Ya,bSM⟩ cF Mm5 (aK) ?_;rintro i h1;refine aA<|Zan rfl<|bO<|Zae rfl (fun hc1=>?_) fun hc1=>?_
 ·have hi:i<t.length:=Yd
  obtain⟨z,hz⟩:=cT t i;obtain⟨x1,hx1⟩:=cT y.chairs i;have hwl:whole (t.take i)≤(t.take i).length:=bOJ _ _;have hwt:(t.take i).length≤i:=bPW _ _;have hbl:=k9 (lS t) i;have hN:2^i≤2^7:=bOW Yd Yd;refine aQ<|Za3<|Za1<|aA<|Za rfl<|Zx rfl U303 oO rfl ht rfl hz fun b1 o1 R U hI V=>?_;obtain rfl:R=[qI _,qI _,qI _]:=U;refine cK rfl rE rfl V Yc Yae n4 rfl bSM<|Zah rfl m7 rfl fun q3=>Zf rfl<|Zab rfl oO ζ<|bC<|bL rfl rE rfl Mm0 Yae n4 rfl bSM<|Zd rfl (fun D1 hO=>zI z _)<|aF<|Zaf rfl (fun hc2=>?_) fun hc2=>?_
  ·refine aA<|Zj rfl P0 rfl<|Zp rfl aI rfl Mm1 rfl<|Zad rfl<|Zj rfl P0 rfl<|cR (ws:=CY (whole (t.take (i+1))) (jJ (lS t) (i+1)) (gP y t (i+1) 0)) rfl rfl rfl rfl aH (.tail ζ) (by simp[CY]) (aSK hz hc2) Yk bSM<|aF<|Za6<|Za2<|Za7<|Zaz<|aO ?_;refine Zad rfl<|Za rfl<|Zao ?_;exact Zn 15 (i+1) ⟨Ya,bSM⟩ rfl (List.Sublist.cons _ Mm5)
  ·refine aQ<|Za3<|bN [] 2 7 12<|Zj rfl AT rfl<|Zp rfl aI rfl Mm1 rfl<|Za rfl<|GC rfl rfl rfl Yd rfl bSM<|MS rfl rfl rfl Yd Yd rfl bSM<|Zj rfl AT rfl<|cR (ws:=CY (whole (t.take (i+1))) (jJ (lS t) (i+1)) (gP y t i 0)) rfl rfl rfl rfl aH (.tail ζ) (by simp[CY]) (bCO hz hc2) Yk bSM<|aJ<|Za rfl ?_;refine Zai rfl U303 rfl ht rfl<|Za rfl<|aF<|Za1<|gT (γ:=Nat) (fun k=>t.length-k) (fun k=>k≤t.length) (fun k=>[(30,qI (k:Int))]) [(29,_),(28,_),(27,_),(26,_),(25,_),(24,_),(23,_),(22,_),(17,_),(16,_),(5,_),(6,_),(15,_),(14,_),(13,_),(12,_),(11,_),(10,_),(9,_),(4,_),(2,_),(1,_)] (fun k=>[(q3,qC [qI z.a,qI z.b,qI z.c] 210),(q2,qC (CY (whole (t.take (i+1))) (jJ (lS t) (i+1)) (gP y t i k)) 307)]) (fun k=>[E1,D]) 0 Yd ⟨Ya,bSM⟩ cF Mm5 (aK) ?_;rintro k h2;refine aA<|Zan rfl<|bO<|Zae rfl (fun hc3=>?_) (fun hc3=>?_)
   ·have hk:k<t.length:=Yd
    obtain⟨q,hq⟩:=cT t k;obtain⟨x2,hx2⟩:=cT y.chairs k;have hbk:=k9 (kI y t i) k;have hP:2^k≤2^7:=bOW Yd Yd;refine aQ<|Za3<|Za1<|aA<|Za rfl<|Zx rfl U303 oO rfl ht rfl hq fun b2 o2 Y Z hJ hB=>?_;obtain rfl:Y=[qI _,qI _,qI _]:=Z;refine cK rfl rE rfl hB Yc Yae n4 rfl bSM<|Zah rfl m7 rfl fun q4=>Zf rfl<|Zab rfl oO ζ<|aJ<|Za rfl<|Za rfl<|Zax rfl<|Za rfl ?_;refine' bX 5 (s:=38) (p:=43) rfl (fun hE=>?_) (fun hE=>?_) ?_;rotate_left
    ·refine cK rfl nA rfl O Yc lN n4 rfl ⟨_,rfl,rfl⟩<|Zb rfl<|Zb rfl<|Ze rfl (fun D2 hF=>DM _ y i k x1 x2 _ (I.up (hF _ Yf)) hf hx1 hx2 (hs _ (n5 hx1)) (hs _ (n5 hx2)))<|Zak rfl ?_;exact aN 4
    ·refine Zg rfl<|Wc ?_;exact aN 4
    refine Za rfl ?_;refine' bX 4 (s:=44) (p:=48) rfl (fun hH=>?_) (fun hH=>?_) ?_;rotate_left
    ·refine bL rfl rE rfl Mm1 Yae n4 rfl ⟨_,rfl,rfl⟩<|bL rfl rE rfl Mm0 Yae n4 rfl ⟨_,rfl,rfl⟩<|Ze rfl (fun D3 hR=>aVE z q _ (hb _ (n5 hz)) (hb _ (n5 hq)))<|Zak rfl ?_;exact aN 3
    ·refine Wc ?_;exact aN 3
    refine aF<|Zaf rfl (fun hc4=>?_) fun hc4=>?_
    ·have hfit:kI y t i k=true:=by rw[QY hz hq hx1 hx2];exact hc4
     refine bN [] 3 10 178<|Za rfl<|Zj rfl O5 rfl<|eT rfl U305 aH rfl rfl Yd Yd rfl bSM<|bD rfl aI rfl Mm2 (bHS _ _ (bDZ Yd)) n4 rfl bSM<|Za rfl<|GC rfl rfl rfl Yd rfl bSM<|MS rfl rfl rfl Yd Yd rfl bSM<|Zj rfl O5 rfl<|eT rfl U305 aH rfl rfl Yd Yd rfl bSM<|cR (ws:=CY (whole (t.take (i+1))) (jJ (lS t) (i+1)) (gP y t i (k+1))) rfl rfl rfl rfl aH (.tail (.tail ζ)) (by simp[CY,gP];omega) (bJP Yd hfit) Yk bSM<|Zao ?_;refine Wb ?_;exact Zn 25 (k+1) ⟨Ya,bSM⟩ rfl (List.Sublist.cons _ Mm5)
    ·have hfit:kI y t i k=false:=by rw[QY hz hq hx1 hx2];exact hc4
     refine Wbs ?_;rw[bGF hfit];exact Zn 16 (k+1) ⟨Ya,bSM⟩ rfl (List.Sublist.cons _ Mm5)
   ·obtain rfl:k=t.length:=Yd
    rw[aDS];refine Za6<|Za2<|Za2<|Za7<|Wb ?_;exact Zn 21 (i+1) ⟨Ya,bSM⟩ rfl (List.Sublist.cons _ Mm5)
 ·obtain rfl:i=t.length:=Yd
  refine Za6<|Za2<|Za2<|Za7<|Zaz<|aA<|Zag rfl uK rfl Mm0 iD<|Zac rfl iD ζ (aOB _ _ _)<|aG ?_;exact Zo [_] rfl ⟨⟨_,_,_,rfl,Mm0,Or.inr ⟨uK,(by first|exact iD|(simp only[bOM,aP, *];exact iD)),rfl⟩⟩,bSM⟩ fun D hD=>by rw[aLT,bNR];rfl
end L7
end Go.Fs
namespace Go.Fs.C7
def rC(M:List (Nat×Nat)):List Nat:=M.flatMap fun p=>[p.1,p.2]
theorem lQ{M:List (Nat×Nat)}{x:Nat}:x∈rC M ↔∃p∈M,x=p.1∨x=p.2:=by
 unfold rC;simp
structure RH(f:Nat→Nat→Bool)(S:Nat→Bool)(M:List (Nat×Nat)):Prop where
 fit:∀p∈M,S p.1=true∧S p.2=true∧f p.1 p.2=true
 nd:(rC M).Nodup
structure IS(f:Nat→Nat→Bool)(S:Nat→Bool)(k:Nat):Prop where
 ex:∃M,RH f S M∧M.length=k
 le:∀M,RH f S M→M.length≤k
theorem RH.nil{f:Nat→Nat→Bool}{S:Nat→Bool}:RH f S []:=⟨Yf,by simp[rC]⟩
theorem RH.mono{f:Nat→Nat→Bool}{S T:Nat→Bool}{M:List (Nat×Nat)}(h:RH f S M)(hs:∀x,S x=true→T x=true):RH f T M:=
 ⟨fun p hp=>⟨hs _ (h.fit p hp).1,hs _ (h.fit p hp).2.1,(h.fit p hp).2.2⟩,h.nd⟩
theorem IS.empty{f:Nat→Nat→Bool}{S:Nat→Bool}(h:∀x,S x=false):IS f S 0:=
 ⟨⟨[],RH.nil,rfl⟩,fun M hM=>by
  cases M with
  |nil=>exact bNJ _
  |cons p l=>have:=(hM.fit p bMV).1;rw[h]at this;cases this⟩
theorem aVI{M M':List (Nat×Nat)}(h:M'.Sublist M):(rC M').Sublist (rC M):=by
 unfold rC;induction h with
 |slnil=>exact bSB _
 |cons a _ ih=>rw[bNW];exact ih.trans (List.sublist_append_right _ _)
 |cons_cons a _ ih=>rw[bNW,bNW];exact(bSB _).append ih
def kR(S:Nat→Bool)(a:Nat):Nat→Bool:=fun x=>S x&&decide (x≠a)
theorem dN{S:Nat→Bool}{a x:Nat}:kR S a x=true ↔ S x=true∧x≠a:=by simp[kR]
theorem RH.drop{f:Nat→Nat→Bool}{S:Nat→Bool}{M:List (Nat×Nat)}{a:Nat}(h:RH f S M)(ha:a∉rC M):RH f (kR S a) M:=
 ⟨fun p hp=>⟨dN.2 ⟨(h.fit p hp).1,fun e=>ha (lQ.2 ⟨p,hp,bNI e.symm⟩)⟩,dN.2 ⟨(h.fit p hp).2.1,fun e=>ha (lQ.2 ⟨p,hp,bNC e.symm⟩)⟩,(h.fit p hp).2.2⟩,h.nd⟩
theorem RH.split{f:Nat→Nat→Bool}{S:Nat→Bool}{M:List (Nat×Nat)}{p:Nat×Nat}(h:RH f S M)(hp:p∈M):
  p.1≠p.2∧RH f (kR (kR S p.1) p.2) (M.erase p)∧(M.erase p).length+1=M.length:=by
 have hperm:=List.perm_cons_erase hp;have hnd:(rC (p::M.erase p)).Nodup:=((List.Perm.flatMap_right (fun p:Nat×Nat=>[p.1,p.2]) hperm).nodup_iff).1 h.nd;unfold rC at hnd;rw[bNW,bNF]at hnd;obtain⟨h1,h2,h3⟩:=hnd;have hne:p.1≠p.2:=Xae
 have hl:=List.length_erase_of_mem hp;have hpos:=List.length_pos_of_mem hp;refine⟨hne,⟨fun q hq=>?_,h2⟩,Yd⟩;have hq':=h.fit q (List.mem_of_mem_erase hq);have I:∀z,z=p.1∨z=p.2→∀x,x=q.1∨x=q.2→x≠z:=by
  intro z hz x hx e;have:=h3 z (by simpa using hz) x (lQ.2 ⟨q,hq,hx⟩);exact this e.symm
 refine⟨dN.2 ⟨dN.2 ⟨hq'.1,I _ (bNI rfl) _ (bNI rfl)⟩,I _ (bNC rfl) _ (bNI rfl)⟩,dN.2 ⟨dN.2 ⟨hq'.2.1,I _ (bNI rfl) _ (bNC rfl)⟩,I _ (bNC rfl) _ (bNC rfl)⟩,hq'.2.2⟩
theorem RH.cons{f:Nat→Nat→Bool}{S:Nat→Bool}{M:List (Nat×Nat)}{a b:Nat}(h:RH f (kR (kR S a) b) M)(ha:S a=true)(hb:S b=true)(hne:a≠b)(hf:f a b=true):RH f S ((a,b)::M):=by
 refine⟨fun p hp=>?_,?_⟩
 ·rcases LT.1 hp with rfl|hp
  ·exact⟨ha,hb,hf⟩
  ·obtain⟨h1,h2,h3⟩:=h.fit p hp;exact⟨(dN.1 (dN.1 h1).1).1,(dN.1 (dN.1 h2).1).1,h3⟩
 ·have hout:∀z,z=a∨z=b→z∉rC M:=by
   intro z hz hm;obtain⟨p,hp,hx⟩:=lQ.1 hm;obtain⟨h1,h2,_⟩:=h.fit p hp;have h1':=dN.1 h1;have h2':=dN.1 h2;have h1'':=dN.1 h1'.1;have h2'':=dN.1 h2'.1;rcases hz with rfl|rfl<;>rcases hx with hx|hx
   ·exact h1''.2 hx.symm
   ·exact h2''.2 hx.symm
   ·exact h1'.2 hx.symm
   ·exact h2'.2 hx.symm
  unfold rC;rw[bNW];refine bNF.2 ⟨by simpa using hne,h.nd,fun x hx y hy e=>?_⟩;subst e;exact hout x Xag hy
theorem aYE{f:Nat→Nat→Bool}(hsym:∀a b,f a b=f b a){S:Nat→Bool}{a:Nat}(ha:S a=true){n:Nat}(hn:∀x,S x=true→x<n){U:Nat}(h0:IS f (kR S a) U){g:Nat→Nat}(hg:∀b,S b=true→b≠a→f a b=true→IS f (kR (kR S a) b) (g b)):
  IS f S (((List.range n).filter fun b=>(S b&&decide (b≠a))&&f a b).foldl (fun m b=>max m (1+g b)) U):=by
 have hle:∀(l:List Nat) (m:Nat),m≤l.foldl (fun m b=>max m (1+g b)) m∧∀b∈l,1+g b≤l.foldl (fun m b=>max m (1+g b)) m:=by
  intro l;induction l with
  |nil=>intro m;exact⟨bNJ _,Yf⟩
  |cons x l ih=>
   intro m;rw[bNX];obtain⟨i1,i2⟩:=ih (max m (1+g x));refine⟨Yd,fun b hb=>?_⟩;rcases LT.1 hb with rfl|hb
   ·omega
   ·exact i2 b hb
 have hex:∀(l:List Nat) (m:Nat),l.foldl (fun m b=>max m (1+g b)) m=m∨∃b∈l,l.foldl (fun m b=>max m (1+g b)) m=1+g b:=by
  intro l;induction l with
  |nil=>intro m;exact bNI rfl
  |cons x l ih=>
   intro m;rw[bNX];rcases ih (max m (1+g x))with h|⟨b,hb,h⟩
   ·rw[h];by_cases hm:m≤1+g x
    ·exact bNC ⟨x,bMV,Yd⟩
    ·exact bNI Yd
   ·exact bNC ⟨b,bMT _ hb,h⟩
 refine⟨?_,fun M hM=>?_⟩
 ·rcases hex ((List.range n).filter fun b=>(S b&&decide (b≠a))&&f a b) U with h|⟨b,hb,h⟩
  ·obtain⟨M,hM,he⟩:=h0.ex;exact⟨M,hM.mono fun x hx=>(dN.1 hx).1,by rw[h,he]⟩
  ·rw[bQF]at hb;simp only[bMS,GT]at hb;obtain⟨_,⟨I,O⟩,R⟩:=hb;obtain⟨M,hM,he⟩:=(hg b I O R).ex;exact⟨(a,b)::M,hM.cons ha I (fun e=>O e.symm) R,by rw[h,bMX,he];omega⟩
 ·obtain⟨i1,i2⟩:=hle ((List.range n).filter fun b=>(S b&&decide (b≠a))&&f a b) U;by_cases hin:a∈rC M
  ·obtain⟨p,hp,hx⟩:=lQ.1 hin;obtain⟨hne,hMe,hlen⟩:=hM.split hp;obtain⟨p1,p2⟩:=p;obtain⟨V,Y,Z⟩:=hM.fit _ hp;simp only at hx hne hMe V Y Z;rcases hx with rfl|rfl
   ·have:=(hg p2 Y (fun e=>hne e.symm) Z).le _ hMe;have:=i2 p2 (bQF.2 ⟨bOQ.2 (hn _ Y),by simp[Y,Z];exact fun e=>hne e.symm⟩)
    omega
   ·have hMe':RH f (kR (kR S a) p1) (M.erase (p1,a)):=hMe.mono fun x hx=>by
     have h1:=dN.1 hx;have h2:=dN.1 h1.1;exact dN.2 ⟨dN.2 ⟨h2.1,h1.2⟩,h2.2⟩
    have hf':f a p1=true:=by rw[hsym];exact Z
    have:=(hg p1 V hne hf').le _ hMe';have:=i2 p1 (bQF.2 ⟨bOQ.2 (hn _ V),by simp[V,hf'];exact hne⟩)
    omega
  ·have:=h0.le _ (hM.drop hin);omega
def prs(n:Nat):Nat→Nat→List (List (Nat×Nat))
 |0,_=>[[]]
 |k+1,w=>if w.testBit (n-(k+1))then prs n k w else
   prs n k w++((List.range n).filter fun b=>decide (n-(k+1)<b)&& !w.testBit b).flatMap fun b=>(prs n k (w|||2^b)).map fun l=>(n-(k+1),b)::l
structure Y5(n a w:Nat)(l:List (Nat×Nat)):Prop where
 at_:∀p∈l,a≤p.1∧p.1<p.2∧p.2<n∧w.testBit p.1=false∧w.testBit p.2=false
 nd:(rC l).Nodup
theorem RF(w b x:Nat):(w|||2^b).testBit x=(w.testBit x||decide (b=x)):=by
 rw[Nat.testBit_or,Nat.testBit_two_pow]
theorem Y5.weak{n a a' w w':Nat}{l:List (Nat×Nat)}(h:Y5 n a w l)(ha:a'≤a)(hw:∀x,w'.testBit x=true→w.testBit x=true):Y5 n a' w' l:=by
 have key:∀x,w.testBit x=false→w'.testBit x=false:=fun x hx=>by
  cases e:w'.testBit x with
  |false=>rfl
  |true=>rw[hw _ e]at hx;cases hx
 refine⟨fun p hp=>?_,h.nd⟩;obtain⟨h1,h2,h3,h4,h5⟩:=h.at_ p hp;exact⟨Yd,h2,h3,key _ h4,key _ h5⟩
theorem x3{n:Nat}:∀(k w:Nat),k≤n→∀l∈prs n k w,Y5 n (n-k) w l
 |0,w,_,l,hl=>by
  obtain rfl:l=[]:=by simpa [prs]using hl
  exact⟨Yf,by simp[rC]⟩
 |k+1,w,hk,l,hl=>by
  unfold prs at hl;split at hl
  ·exact(x3 k w Yd l hl).weak Yd fun x h=>h
  ·rename_i hw;rcases bNH.1 hl with hl|hl
   ·exact(x3 k w Yd l hl).weak Yd fun x h=>h
   ·obtain⟨b,hb,hl⟩:=bQT.1 hl;obtain⟨l',hl',rfl⟩:=bMR.1 hl;rw[bQF,bOQ]at hb;simp only[bMS,GT,bPQ]at hb;obtain⟨hbn,hab,hbw⟩:=hb;have ih:=x3 k (w|||2^b) Yd l' hl';have hw':w.testBit (n-(k+1))=false:=by simpa using hw
    have out:∀x∈rC l',n-(k+1)<x∧x≠b:=fun x hx=>by
     obtain⟨p,hp,hxp⟩:=lQ.1 hx;obtain⟨h1,h2,h3,h4,h5⟩:=ih.at_ p hp;rw[RF]at h4 h5;simp only[bOH,bMY]at h4 h5;rcases hxp with rfl|rfl
     ·exact⟨Yd,fun e=>h4.2 e.symm⟩
     ·exact⟨Yd,fun e=>h5.2 e.symm⟩
    refine⟨fun p hp=>?_,?_⟩
    ·rcases LT.1 hp with rfl|hp
     ·exact⟨bNJ _,hab,hbn,hw',hbw⟩
     ·obtain⟨h1,h2,h3,h4,h5⟩:=ih.at_ p hp;rw[RF]at h4 h5;simp only[bOH]at h4 h5;exact⟨Yd,h2,h3,h4.1,h5.1⟩
    ·unfold rC;rw[bNW];refine bNF.2 ⟨Yaq,ih.nd,fun x hx y hy e=>?_⟩
     subst e;have:=out x hy;simp only[LT,n4,bOZ]at hx;omega
theorem CN{n:Nat}:∀(k w:Nat),k≤n→∀M,Y5 n (n-k) w M→∃l∈prs n k w,∀p∈M,p∈l
 |0,w,_,M,hM=>by
  refine⟨[],by simp[prs],fun p hp=>?_⟩;have:=hM.at_ p hp;omega
 |k+1,w,hk,M,hM=>by
  have free:n-(k+1)∉rC M→∃l∈prs n k w,∀p∈M,p∈l:=fun hout=>
   CN k w Yd M ⟨fun p hp=>by
    obtain⟨h1,h2⟩:=hM.at_ p hp;have:p.1≠n-(k+1):=fun e=>hout (lQ.2 ⟨p,hp,bNI e.symm⟩)
    exact⟨Yd,h2⟩,hM.nd⟩
  unfold prs;split
  ·rename_i hw;refine free fun hin=>?_
   obtain⟨p,hp,hx⟩:=lQ.1 hin;obtain⟨h1,h2,h3,h4,h5⟩:=hM.at_ p hp;rcases hx with hx|hx
   ·rw[←hx,hw]at h4;cases h4
   ·rw[←hx,hw]at h5;cases h5
  ·by_cases hin:n-(k+1)∈rC M
   ·obtain⟨p,hp,hx⟩:=lQ.1 hin;obtain⟨h1,h2,h3,h4,h5⟩:=hM.at_ p hp;have hx1:p.1=n-(k+1):=Yd
    have hperm:=List.perm_cons_erase hp;have hnd:(rC (p::M.erase p)).Nodup:=((List.Perm.flatMap_right (fun p:Nat×Nat=>[p.1,p.2]) hperm).nodup_iff).1 hM.nd;unfold rC at hnd;rw[bNW,bNF]at hnd;obtain⟨_,O,I⟩:=hnd;have apart:∀q∈M.erase p,∀z,z=q.1∨z=q.2→z≠p.1∧z≠p.2:=fun q hq z hz=>
     ⟨fun e=>I p.1 Yf z (lQ.2 ⟨q,hq,hz⟩) e.symm,fun e=>I p.2 Yf z (lQ.2 ⟨q,hq,hz⟩) e.symm⟩
    obtain⟨l,hl,hsub⟩:=CN (n:=n) k (w|||2^p.2) Yd (M.erase p) ⟨fun q hq=>by
     obtain⟨g1,g2,g3,g4,R⟩:=hM.at_ q (List.mem_of_mem_erase hq);have U:=apart q hq q.1 (bNI rfl);have a2:=apart q hq q.2 (bNC rfl);refine⟨Yd,g2,g3,?_,?_⟩
     ·rw[RF,g4];simpa using fun e=>U.2 e.symm
     ·rw[RF,R];simpa using fun e=>a2.2 e.symm,O⟩
    refine⟨p::l,GE _ (bQT.2 ⟨p.2,bQF.2 ⟨bOQ.2 h3,?_⟩,bMR.2 ⟨l,hl,?_⟩⟩),fun q hq=>?_⟩
    ·rw[←hx1,h5];simpa using h2
    ·rw[←hx1]
    ·by_cases e:q=p
     ·subst e;exact bMV
     ·exact bMT _ (hsub q ((List.mem_erase_of_ne e).2 hq))
   ·obtain⟨l,hl,hs⟩:=free hin;exact⟨l,bNE _ hl,hs⟩
theorem rW{α:Type}[DecidableEq α]:∀{l m:List α},l.Nodup→(∀x∈l,x∈m)→l.length≤m.length
 | [],m,_,_=>bRC _
 |x::l,m,hn,hs=>by
  have hx:=hs x bMV;have h1:=bOT.1 hn;have:=rW (l:=l) (m:=m.erase x) h1.2 fun y hy=>(List.mem_erase_of_ne fun e:y=x=>h1.1 (e▸hy)).2 (hs y (bMT _ hy))
  have h2:=List.length_erase_of_mem hx;have h3:=List.length_pos_of_mem hx;simp only[bMX];omega
theorem UE{M:List (Nat×Nat)}(h:(rC M).Nodup):M.Nodup:=by
 induction M with
 |nil=>exact bPA
 |cons p M ih=>
  unfold rC at h;rw[bNW,bNF]at h;refine bOT.2 ⟨fun hp=>?_,ih h.2.1⟩;exact h.2.2 p.1 Yf p.1 (lQ.2 ⟨p,hp,bNI rfl⟩) rfl
theorem LV(M:List (Nat×Nat)):(rC (M.map fun p=>(min p.1 p.2,max p.1 p.2))).Perm (rC M):=by
 induction M with
 |nil=>exact List.Perm.refl _
 |cons p M ih=>
  unfold rC at ih ⊢
  rw[bNT,bNW,bNW];refine List.Perm.append ?_ ih;rcases Nat.le_total p.1 p.2 with h|h
  ·rw[bQI h,Nat.max_eq_right h]
  ·rw[Nat.min_eq_right h,Nat.max_eq_left h];exact List.Perm.swap ..
def aJM(f:Nat→Nat→Bool)(l:List (Nat×Nat)):Nat:=(l.filter fun p=>f p.1 p.2).length
theorem aUD{f:Nat→Nat→Bool}(hsym:∀a b,f a b=f b a){S:Nat→Bool}{n k:Nat}(hS:∀a b,f a b=true→S a=true∧S b=true)(hn:∀x,S x=true→x<n)(hk:IS f S k):
  ((prs n n 0).map (aJM f)).foldl max 0=k:=by
 have hle:∀(l:List Nat) (m c:Nat),m≤c→(∀x∈l,x≤c)→l.foldl max m≤c:=by
  intro l;induction l with
  |nil=>intro m c h _;exact h
  |cons x l ih=>intro m c h hx;rw[bNX];exact ih _ _ (by have:=hx x bMV;omega) fun y hy=>hx y (bMT _ hy)
 have hge:∀(l:List Nat) (m:Nat),m≤l.foldl max m∧∀x∈l,x≤l.foldl max m:=by
  intro l;induction l with
  |nil=>intro m;exact⟨bNJ _,Yf⟩
  |cons x l ih=>
   intro m;rw[bNX];obtain⟨I,i2⟩:=ih (max m x);refine⟨Yd,fun y hy=>?_⟩;rcases LT.1 hy with rfl|hy
   ·omega
   ·exact i2 y hy
 apply Nat.le_antisymm
 ·refine hle _ _ _ (bRC _) fun x hx=>?_
  obtain⟨l,hl,rfl⟩:=bMR.1 hx;have ok:=x3 n 0 (bNJ _) l hl;refine hk.le (l.filter fun p=>f p.1 p.2) ⟨fun p hp=>?_,ok.nd.sublist (aVI List.filter_sublist)⟩;have:=(bQF.1 hp).2;exact⟨(hS _ _ this).1,(hS _ _ this).2,this⟩
 ·obtain⟨M,hM,rfl⟩:=hk.ex;have hne:∀p∈M,p.1≠p.2:=fun p hp=>(hM.split hp).1
  obtain⟨l,hl,hs⟩:=CN n 0 (bNJ _) (M.map fun p=>(min p.1 p.2,max p.1 p.2)) ⟨fun p hp=>by
   obtain⟨q,hq,rfl⟩:=bMR.1 hp;have h1:=hn _ (hM.fit q hq).1;have h2:=hn _ (hM.fit q hq).2.1;have h3:=hne q hq;exact⟨Yd,Yn,Yn,Yf,Yf⟩,by
    exact(LV M).nodup_iff.2 hM.nd⟩
  refine bPD ?_ ((hge _ 0).2 (aJM f l) (bMR.2 ⟨l,hl,rfl⟩));have hnd:(M.map fun p=>(min p.1 p.2,max p.1 p.2)).Nodup:=UE (by
    exact(LV M).nodup_iff.2 hM.nd)
  have:=rW hnd (m:=l.filter fun p=>f p.1 p.2) fun p hp=>by
   refine bQF.2 ⟨hs p hp,?_⟩;obtain⟨q,hq,rfl⟩:=bMR.1 hp;have hf:=(hM.fit q hq).2.2;rcases Nat.le_total q.1 q.2 with h|h
   ·simp only[bQI h,Nat.max_eq_right h];exact hf
   ·simp only[Nat.min_eq_right h,Nat.max_eq_left h];rw[hsym];exact hf
  simpa [aJM]using this
theorem AH{m a:Nat}(h:m.testBit a=true):pP m (2^a)<m:=by
 have h1:=N0 m (2^a);have h2:pP m (2^a)≠m:=fun e=>by
  have:=S0 m (2^a) a;rw[e,h,Nat.testBit_two_pow_self]at this;cases this
 omega
theorem FL(m a i:Nat):(pP m (2^a)).testBit i=(m.testBit i&& !decide (a=i)):=by
 rw[S0,Nat.testBit_two_pow]
def low(m:Nat):Nat:=((List.range m).find? fun i=>m.testBit i).getD 0
theorem yV{m:Nat}(h:m≠0):m.testBit (low m)=true∧∀i,i<low m→m.testBit i=false:=by
 obtain⟨i,hi⟩:=Nat.exists_testBit_of_ne_zero h;have him:i<m:=bPO Nat.lt_two_pow_self (Nat.ge_two_pow_of_testBit hi);unfold low;cases hf:(List.range m).find? fun i=>m.testBit i with
 |none=>
  have:=List.find?_eq_none.1 hf i (bOQ.2 him);exact absurd hi this
 |some j=>
  have h1:=List.find?_some hf;refine⟨h1,fun k hk=>?_⟩;simp only[bQL]at hk;obtain⟨_,I,O,hab,hno⟩:=List.find?_eq_some_iff_append.1 hf;have hjm:j<m:=bOQ.1 (List.mem_of_find?_eq_some hf);have hlen:I.length=j:=by
   have h2:(List.range m)[I.length]?= some j:=by rw[hab,bPY (bNJ _)];simp
   have hl:I.length<m:=by
    have:=bNB List.length hab;simp at this;omega
   rw[bRI hl]at h2;exact bNS h2
  have hkm:(List.range m)[k]?= some k:=bRI Yd;rw[hab,bPH Yd]at hkm;have:=hno k (n5 hkm);simpa using this
def fB(F:List Nat)(a b:Nat):Bool:=(F.getD a 0).testBit b
def vS(F:List Nat)(rest a:Nat)(nu:Nat→Nat)(m b:Nat):Nat:=if(rest&&&F.getD a 0).testBit b=true then max m (1+nu (pP rest (2^b)))else m
def aWR(F:List Nat)(n:Nat):Nat→Nat→Nat
 |0,_=>0
 |k+1,m=>if m=0 then 0 else(List.range n).foldl (vS F (pP m (2^low m)) (low m) (aWR F n k)) (aWR F n k (pP m (2^low m)))
def BH(F:List Nat)(n m:Nat):Nat:=aWR F n m m
theorem wF{α β:Type}{f g:β→α→β}:∀{l:List α} {b:β},(∀b,∀a∈l,f b a=g b a)→l.foldl f b=l.foldl g b
 | [],_,_=>rfl
 |x::l,b,h=>by
  rw[bNX,bNX,h b x bMV];exact wF fun b a ha=>h b a (bMT _ ha)
theorem m8{F:List Nat}{n:Nat}:∀(k m l:Nat),m≤k→m≤l→aWR F n k m=aWR F n l m
 |0,m,l,h,_=>by
  obtain rfl:m=0:=Yd
  cases l<;>simp[aWR]
 |k+1,m,0,_,h=>by
  obtain rfl:m=0:=Yd
  simp[aWR]
 |k+1,m,l+1,h,h'=>by
  simp only[aWR];by_cases hm:m=0
  ·rw[bNK hm,bNK hm]
  ·rw[bNA hm,bNA hm];have hlt:=AH (yV hm).1;have e0:=m8 (F:=F) (n:=n) k (pP m (2^low m)) l Yd Yd;rw[e0];refine wF fun b a _=>?_
   unfold vS;split
   ·have:=N0 (pP m (2^low m)) (2^a);rw[m8 k (pP (pP m (2^low m)) (2^a)) l Yd Yd]
   ·rfl
theorem WB{F:List Nat}{n:Nat}:BH F n 0=0:=rfl
theorem PX{F:List Nat}{n m:Nat}(h:m≠0):BH F n m=(List.range n).foldl (vS F (pP m (2^low m)) (low m) (BH F n)) (BH F n (pP m (2^low m))):=by
 have hlt:=AH (yV h).1;obtain⟨k,rfl⟩:∃k,m=k+1:=⟨m-1,Yd⟩
 show aWR F n (k+1) (k+1)=_;rw[aWR,bNA h];rw[m8 k (pP (k+1) (2^low (k+1))) (pP (k+1) (2^low (k+1))) Yd (bNJ _)];refine wF fun b a _=>?_
 unfold vS;split
 ·have:=N0 (pP (k+1) (2^low (k+1))) (2^a);rw[m8 k (pP (pP (k+1) (2^low (k+1))) (2^a)) _ Yd (bNJ _)];rfl
 ·rfl
theorem xQ{α β:Type}{f:β→α→β}{p:α→Bool}:∀{l:List α} {b:β},(l.filter p).foldl f b=l.foldl (fun b a=>if p a=true then f b a else b) b
 | [],_=>rfl
 |x::l,b=>by
  rw[bPP,bNX];split
  ·rw[bNX];exact xQ
  ·exact xQ
theorem ZO{F:List Nat}{n:Nat}(hsym:∀a b,fB F a b=fB F b a):∀(k m:Nat),m≤k→(∀x,m.testBit x=true→x<n)→IS (fB F) m.testBit (BH F n m)
 |k,m,hk,hn=>by
  by_cases hm:m=0
  ·subst hm;exact IS.empty fun x=>Nat.zero_testBit x
  ·have hlow:=yV hm;have hlt:=AH hlow.1;obtain⟨k',rfl⟩:∃k',k=k'+1:=⟨k-1,Yd⟩
   have I:∀m a:Nat,(pP m (2^a)).testBit=kR m.testBit a:=fun m a=>by
    funext x;rw[FL];unfold kR
    by_cases h:a=x
    ·subst h;simp
    ·have h':x≠a:=fun e=>h e.symm
     simp[h,h']
   have i0:=ZO hsym k' (pP m (2^low m)) Yd fun x hx=>hn x (by rw[FL]at hx;simp at hx;exact hx.1)
   rw[I]at i0;have ig:∀b,m.testBit b=true→b≠low m→fB F (low m) b=true→IS (fB F) (kR (kR m.testBit (low m)) b) (BH F n (pP (pP m (2^low m)) (2^b))):=fun b _ _ _=>by
    have:=N0 (pP m (2^low m)) (2^b);have O:=ZO hsym k' (pP (pP m (2^low m)) (2^b)) Yd fun x hx=>hn x (by rw[FL,FL]at hx;simp at hx;exact hx.1.1)
    rw[I,I]at O;exact O
   have key:=aYE hsym hlow.1 hn i0 ig;rw[xQ]at key;rw[PX hm];have:(List.range n).foldl (vS F (pP m (2^low m)) (low m) (BH F n)) (BH F n (pP m (2^low m)))=(List.range n).foldl (fun k b=>if((m.testBit b&&decide (b≠low m))&&fB F (low m) b)=true then max k (1+BH F n (pP (pP m (2^low m)) (2^b)))else k) (BH F n (pP m (2^low m))):=by
    refine wF fun k b _=>?_
    unfold vS;rw[Nat.testBit_and,I];rfl
   rw[this];exact key
theorem aGB{F:List Nat}{rest a:Nat}{nu:Nat→Nat}:∀(l:List Nat) (m:Nat),l.foldl (vS F rest a nu) m=m∨∃b∈l,(rest&&&F.getD a 0).testBit b=true∧l.foldl (vS F rest a nu) m=1+nu (pP rest (2^b))
 | [],m=>bNI rfl
 |x::l,m=>by
  rw[bNX];rcases aGB l (vS F rest a nu m x)with h|⟨b,hb,hbit,h⟩
  ·rw[h];unfold vS;split
   ·rename_i hx;by_cases hm:m≤1+nu (pP rest (2^x))
    ·exact bNC ⟨x,bMV,hx,Yd⟩
    ·exact bNI Yd
   ·exact bNI rfl
  ·exact bNC ⟨b,bMT _ hb,hbit,h⟩
theorem aEC{m b:Nat}(h:m≠0):pP (pP m (2^low m)) (2^b)<m:=Nat.lt_of_le_of_lt (N0 _ _) (AH (yV h).1)

def Y0:List Int→List Pt
 |a::b::c::l=>⟨a,b,c⟩::Y0 l
 |_=>[]
def kF(l:List Ch):List Int:=l.flatMap fun c=>c.parts.l
def oE(l:List Pt):List Int:=l.flatMap Pt.l
theorem vI(p:Pt)(l:List Pt):oE (p::l)=p.a::p.b::p.c::oE l:=rfl
theorem aQO(l:List Pt):Y0 (oE l)=l:=by
 induction l with
 |nil=>rfl
 |cons p l ih=>rw[vI,Y0,ih]
theorem qH(l:List Ch):(kF l).length=3*l.length:=by
 induction l with
 |nil=>rfl
 |cons c l ih=>unfold kF at ih ⊢;rw[bNW,LE,ih,bMX];simp[Pt.l];omega
theorem RA(l:List Pt):(oE l).length=3*l.length:=by
 induction l with
 |nil=>rfl
 |cons c l ih=>rw[vI];simp only[bMX,ih];omega
theorem QJ:∀(n:Nat) (l:List Int),l.length=3*n→oE (Y0 l)=l∧(Y0 l).length=n
 |0,l,h=>by
  obtain rfl:l=[]:=bQC.1 Yd;exact⟨rfl,rfl⟩
 |n+1,l,h=>by
  match l,h with
  |a::b::c::l,h=>
   obtain⟨h1,h2⟩:=QJ n l (by simp only[bMX]at h;omega);rw[Y0,vI];exact⟨by rw[h1],by rw[bMX,h2]⟩
def PN(y:bA):List (List Pt):=(C1.cB (kF y.chairs)).map Y0
theorem yJ:∀{l t:List Int},t∈C1.cB l ↔ t.length=l.length∧∀x∈l.zip t,xI x.1 x.2=true∧True
 | [],t=>by simp[C1.cB]
 |p::l,t=>by
  have ih:=fun t=> @yJ l t
  cases t with
  |nil=>simp[C1.cB]
  |cons x t=>
   have:x::t∈C1.cB (p::l) ↔ ((p=2∨p=x)∧(x=0∨x=1))∧t∈C1.cB l:=by
    rw[show C1.cB (p::l)=(if p=2∨p=0 then(C1.cB l).map (0:: ·)else [])++(if p=2∨p=1 then(C1.cB l).map (1:: ·)else [])from rfl,bNH];constructor
    ·rintro(h|h)
     ·split at h
      ·rename_i hp;obtain⟨s,hs,he⟩:=bMR.1 h;obtain⟨rfl,rfl⟩:=List.cons.inj he;exact⟨⟨hp,bNI rfl⟩,hs⟩
      ·cases h
     ·split at h
      ·rename_i hp;obtain⟨s,hs,he⟩:=bMR.1 h;obtain⟨rfl,rfl⟩:=List.cons.inj he;exact⟨⟨hp,bNC rfl⟩,hs⟩
      ·cases h
    ·rintro⟨⟨hp,rfl|rfl⟩,ht⟩
     ·exact bNI (by rw[bNK hp];exact bMR.2 ⟨t,ht,rfl⟩)
     ·exact bNC (by rw[bNK hp];exact bMR.2 ⟨t,ht,rfl⟩)
   rw[this,ih];simp only[bMX,bQO,LT,and_true,forall_eq_or_imp,Nat.add_right_cancel_iff];have:xI p x=true ↔ (p=2∨p=x)∧(x=0∨x=1):=by
    unfold xI;simp only[bMS,bS,bNZ,GT];constructor
    ·rintro⟨h1,h2⟩;exact⟨h2.imp id Eq.symm,Yd⟩
    ·rintro⟨h1,h2⟩;exact⟨Yd,h1.imp id Eq.symm⟩
   rw[this];constructor
   ·rintro⟨h1,h2,h3⟩;exact⟨h2,h1,h3⟩
   ·rintro⟨h2,h1,h3⟩;exact⟨h1,h2,h3⟩
theorem HY:∀{l:List Ch} {t:List Pt},t.length=l.length→(∀x∈(kF l).zip (oE t),xI x.1 x.2=true)=((l.zip t).all fun x=>T9 x.1.parts x.2)
 | [],[],_=>by simp[kF,oE]
 |c::l,p::t,h=>by
  have ih:=HY (l:=l) (t:=t) Yaw;rw[bQO,bQU,bMS,←ih];rw[vI,show kF (c::l)=c.parts.a::c.parts.b::c.parts.c::kF l from rfl];simp only[bQO,LT,forall_eq_or_imp,T9,Pt.l,List.zip_nil_left,bQU,List.all_nil,bSE,bMS,and_assoc]
theorem SB{y:bA}{t:List Pt}:t∈PN y ↔ eJ y t=true:=by
 unfold PN eJ;rw[bMR,bMS,GT];constructor
 ·rintro⟨s,hs,rfl⟩;obtain⟨h1,h2⟩:=yJ.1 hs;rw[qH]at h1;obtain⟨g1,g2⟩:=QJ _ _ h1;refine⟨g2,?_⟩;rw[←HY g2,g1];exact fun x hx=>(h2 x hx).1
 ·rintro⟨h1,h2⟩;refine⟨oE t,yJ.2 ⟨by rw[qH,RA,h1],fun x hx=>⟨?_,bSM⟩⟩,aQO t⟩;rw[←HY h1]at h2;exact h2 x hx
end Go.Fs.C7
namespace Go.Fs
open Go.Proofs Tryz
namespace L7
open C7
def IM(n:Nat)(M:List (xU 8×Int)):Prop:=∀p∈M,∃(m:Nat) (F:List Nat),p.1.l=(m:Int)::F.map (fun x:Nat=>(x:Int))∧p.2=(BH F n m:Int)
theorem s7:∀{F G:List Nat},F.map (fun x:Nat=>(x:Int))=G.map (fun x:Nat=>(x:Int))→F=G
 | [],[],_=>rfl
 |x::F,y::G,h=>by
  rw[bNT,bNT,bPN]at h;rw[s7 h.2,show x=y by omega]
theorem bAM{n m:Nat}{a0 I a2 a3 a4 a5 O:Nat}{M:List (xU 8×Int)}{v:Int}{h:[(m:Int),a0,I,a2,a3,a4,a5,O].length=8}(hok:IM n M)(hm:(⟨[(m:Int),a0,I,a2,a3,a4,a5,O],h⟩,v)∈M):v=(BH [a0,I,a2,a3,a4,a5,O] n m:Int):=by
 obtain⟨m',F,h1,h2⟩:=hok _ hm;simp only[bPN]at h1;obtain⟨h0,h1⟩:=h1;have:F=[a0,I,a2,a3,a4,a5,O]:=s7 (by rw[←h1];rfl)
 rw[this,show m'=m by omega]at h2;exact h2
theorem bCR{n m:Nat}{a0 I a2 a3 a4 a5 O:Nat}{M M':List (xU 8×Int)}{v:Int}{h:[(m:Int),a0,I,a2,a3,a4,a5,O].length=8}(hok:IM n M)(hm:∀p∈M',p∈M∨p=(⟨[(m:Int),a0,I,a2,a3,a4,a5,O],h⟩,v))(hv:v=(BH [a0,I,a2,a3,a4,a5,O] n m:Int)):IM n M':=fun p hp=>by
 rcases hm p hp with h1|rfl
 ·exact hok p h1
 ·exact⟨m,[a0,I,a2,a3,a4,a5,O],rfl,hv⟩
theorem IM.nil{n:Nat}:IM n []:=fun p hp=>by cases hp
theorem MY{m n:Nat}(h:∀x,m.testBit x=true→x<n)(hn:n≤7):m<128:=by
 have:m<2^n:=by
  apply Nat.lt_pow_two_of_testBit;intro i hi;cases e:m.testBit i with
  |false=>rfl
  |true=>have:=h i e;omega
 have h2:2^n≤2^7:=bOW Yd hn;omega
theorem EC{m n a:Nat}(h:∀x,m.testBit x=true→x<n):∀x,(pP m (2^a)).testBit x=true→x<n:=fun x hx=>h x (by rw[FL]at hx;simp at hx;exact hx.1)
theorem CG{k:Nat}(h:k<7):2^k<128:=by
 have:2^k<2^7:=Nat.pow_lt_pow_right Yd h;omega
theorem bHL{F:List Nat}(h:∀f∈F,f<128)(a:Nat):F.getD a 0<128:=by
 rw[bOP];cases e:F[a]? with
 |none=>simp
 |some x=>exact h x (n5 e)
theorem aNR(a0 I a2 a3 a4 a5 O:Nat){a:Nat}(h:a<7):([qI (a0:Int),qI (I:Int),qI (a2:Int),qI (a3:Int),qI (a4:Int),qI (a5:Int),qI (O:Int)]:List Γ)[a*1]?= some (qI (([a0,I,a2,a3,a4,a5,O].getD a 0:Nat):Int)):=by
 have e:a=0∨a=1∨a=2∨a=3∨a=4∨a=5∨a=6:=Yd
 rcases e with rfl|rfl|rfl|rfl|rfl|rfl|rfl<;>rfl
theorem aBR(F:List Nat)(n:Nat):∀m,BH F n m≤m:=by
 intro m;induction m using Nat.strongRecOn with
 |_ m ih=>
  by_cases hm:m=0
  ·subst hm;rw[WB];exact bNJ _
  ·have hlt:=AH (yV hm).1;rcases aGB (F:=F) (rest:=pP m (2^low m)) (a:=low m) (nu:=BH F n) (List.range n) (BH F n (pP m (2^low m)))with h|⟨b,_,_,h⟩
   ·rw[PX hm,h];have:=ih _ hlt;omega
   ·rw[PX hm,h];have h2:=aEC (b:=b) hm;have:=ih _ h2;omega
def aNC(F:List Nat)(n m k:Nat):Nat:=(List.range k).foldl (vS F (pP m (2^low m)) (low m) (BH F n)) (BH F n (pP m (2^low m)))
theorem aTK{F:List Nat}{n m:Nat}(h:m≠0):BH F n m=aNC F n m n:=PX h
theorem bDV{F:List Nat}{n m k:Nat}(h:(pP m (2^low m)&&&F.getD (low m) 0).testBit k=true):aNC F n m (k+1)=max (aNC F n m k) (1+BH F n (pP (pP m (2^low m)) (2^k))):=by
 have e:aNC F n m (k+1)=vS F (pP m (2^low m)) (low m) (BH F n) (aNC F n m k) k:=by unfold aNC;rw[bOG,bOR,bNX,List.foldl_nil]
 rw[e];unfold vS;rw[bNK h]
theorem bGE{F:List Nat}{n m k:Nat}(h:(pP m (2^low m)&&&F.getD (low m) 0).testBit k=false):aNC F n m (k+1)=aNC F n m k:=by
 have e:aNC F n m (k+1)=vS F (pP m (2^low m)) (low m) (BH F n) (aNC F n m k) k:=by unfold aNC;rw[bOG,bOR,bNX,List.foldl_nil]
 rw[e];unfold vS;rw[bNA Xaj]
theorem JG{wb mb t cl:Nat}{cs:List Γ}{es:Array MapEntry}:∀p∈[(wb,Obj.cells cs.toArray t (0,0)),(mb,.map es cl)],cU p.2:=by
 intro p hp;simp only[LT,n4,bOZ]at hp;rcases hp with rfl|rfl
 ·rfl
 ·trivial
theorem aTC:KA prog 387 7:=⟨(prog.fieldsOf 387)[0]!,(prog.fieldsOf 387)[1]!,3,Yg,Yg,Yg,Ybf,Ybf,Yg,Yg,Yg,Yg,Yg,Yg,by rw[show((prog.fieldsOf 387)[1]!).type=305 by kernel_rfl];exact p7,by rw[show((prog.fieldsOf 387)[1]!).type=305 by kernel_rfl];exact A4,aH⟩
theorem aSW(wb mb:Nat)(cv qv:Γ)(fit:Int)(chs:List Ch)(a0 O a2 a3 a4 a5 R:Nat)(hK:chs.length≤7)(hF:∀f∈[a0,O,a2,a3,a4,a5,R],f<128):
  ∀(L m:Nat),m=L→(∀x,m.testBit x=true→x<chs.length)→∀(es:Array MapEntry) (clock:Nat) (M:List (xU 8×Int)) (D:aC),Sl D A3 4 cv chs→H2 BZ es M→IM chs.length M→
  IF prog 248 [qP wb,.agg #[qI (m:Int),qI (a0:Int),qI (O:Int),qI (a2:Int),qI (a3:Int),qI (a4:Int),qI (a5:Int),qI (R:Int)]] D [(wb,qC [cv,qI fit,qv,.map (some mb)] 299),(mb,.map es clock)] (fun _ v ν'=>v=qI (BH [a0,O,a2,a3,a4,a5,R] chs.length m:Int)∧∃es' clock' M',ν'=[(wb,qC [cv,qI fit,qv,.map (some mb)] 299),(mb,.map es' clock')]∧H2 BZ es' M'∧IM chs.length M'):=by
 intro L;induction L using Nat.strongRecOn with
 |_ L ih=>
 intro m hL hbits es clock M D hS hM hok;subst hL;have hl1:=hS.len;have hmb:=MY hbits hK;refine jH 78 func248 rfl rfl rfl rfl fun h0 hwl hwn=>aA<|Zz rfl fun q1 E1 hE1 I=>Zf rfl<|bC<|Zj rfl y1 rfl<|Zh 0 rfl aI rfl I rfl<|Zas rfl<|aF<|Zae rfl (fun hc1=>?_) fun hc1=>?_
 ·refine Wci ?_;exact Zaj [] [] [_,_] [_] rfl ⟨rfl,bSM⟩ rfl fun D hD=>⟨by show Value.int _ _=_;rw[show m=0 by omega,WB];rfl,es,clock,M,rfl,hM,hok⟩
 ·have Y:m≠0:=Yd
  have hlow:=yV Y;have hlown:=hbits _ hlow.1;have V:low m<7:=Yd
  have hp2:=CG V;have hlt:=AH hlow.1;have hrest:=N0 m (2^low m);refine aQ<|Za3<|Za3<|bN [] 6 11 784<|Za rfl<|Zam rfl<|Zj rfl LF rfl<|Zp rfl aGA rfl Mm0 rfl<|Zv rfl aFW rfl I aEK<|aGT (val:=BZ (n:=8)) (a:=⟨[(m:Int),(a0:Int),(O:Int),(a2:Int),(a3:Int),(a4:Int),(a5:Int),(R:Int)],rfl⟩) rfl U297 aTC.key cE rfl rfl Mm1 n4 hM rfl bSM fun nv ok hmem=>Za rfl<|Zap rfl ?_;refine Zap rfl<|Zf rfl<|Zf rfl<|aJ<|Za rfl<|aF<|Zaf rfl (fun hc2=>?_) fun hc2=>?_
  ·subst hc2;refine aA<|Za rfl<|Wg ?_;exact Zaj [] [] [_,_] [_] rfl ⟨rfl,bSM⟩ rfl fun D hD=>⟨by show Value.int _ _=_;rw[bAM hok (hmem rfl)],es,clock,M,rfl,hM,hok⟩
  ·refine aQ<|aA<|Zj rfl y1 rfl<|Zh 0 rfl aI rfl I rfl<|Zd rfl (fun D1 hD1=>aMW m (low m) _ hlow.1 Yd hlow.2)<|Zf rfl<|bO<|bN [] 2 6 12<|Zj rfl y1 rfl<|Zh 0 rfl aI rfl I rfl<|Za rfl<|GC rfl rfl rfl Yd rfl bSM ?_;refine aSC rfl rfl rfl Yd Yd rfl bSM<|Zf rfl<|aJ<|Za rfl<|Za rfl<|Zj rfl z8 rfl<|dX rfl (k:=1) (us:=[qI (a0:Int),qI (O:Int),qI (a2:Int),qI (a3:Int),qI (a4:Int),qI (a5:Int),qI (R:Int)]) p7 A4 rfl I Yc rfl rfl n4 rfl bSM<|jM (cs:=[qI ((pP m (2^low m):Nat):Int),qI (a0:Int),qI (O:Int),qI (a2:Int),qI (a3:Int),qI (a4:Int),qI (a5:Int),qI (R:Int)]) rfl NV NC rfl Yg rfl bSM<|gF (A:=[]) (ν:=[(_,_),(_,_)]) (B:=[]) rfl rfl rfl rfl (bNI rfl) (JG (cs:=[_,_,_,_])) (fun D5 hN=>ih _ hlt _ rfl (EC hbits) es clock M D5 (hS.up A3.up (hN _ Yf)) hM hok) rfl bSM fun v5 D6 _ hD6 hp5=>?_;obtain⟨rfl,hO,hP,M4,rfl,hR,hB⟩:=hp5;refine Zf rfl<|bC<|Za rfl<|Zam rfl<|Zj rfl O9 rfl<|Zj rfl iF rfl<|Zp rfl pL rfl Mm0 rfl<|Zai rfl U37 rfl hS rfl<|Za rfl<|aF<|Za1<|Zc (Nat×Array MapEntry×Nat×List (xU 8×Int)) (fun g=>chs.length-g.1) (fun g=>g.1≤chs.length∧H2 BZ g.2.1 g.2.2.2∧IM chs.length g.2.2.2) (fun g=>[(45,qI (g.1:Int)),(9,qI (aNC [a0,O,a2,a3,a4,a5,R] chs.length m g.1:Int))]) [(44,_),(8,_),(7,_),(4,_),(3,_),(0,_)] (fun g=>[(wb,qC [cv,qI fit,qv,.map (some mb)] 299),(mb,.map g.2.1 g.2.2.1)]) (fun g=>[D6,E1,D]) (0,hO,hP,M4) ⟨Yf,hR,hB⟩ ⟨Ya,Ya,bSM⟩ Mm5 ?_;rintro⟨k,hE,hH,M1⟩ ⟨h1,Z,U⟩;simp only at h1 Z U;refine aA<|Zan rfl<|bO<|Zae rfl (fun hc3=>?_) (fun hc3=>?_)
   ·have hk:k<chs.length:=Yd
    have hpk:=CG (show k<7 by omega);have hrow:=bHL hF (low m);have hdl:=N0 (pP m (2^low m)) (2^k);have hnl:=aBR [a0,O,a2,a3,a4,a5,R] chs.length (pP (pP m (2^low m)) (2^k));have hand:=Nat.and_le_left (n:=pP m (2^low m)) (m:=[a0,O,a2,a3,a4,a5,R].getD (low m) 0);refine aQ<|Za3<|Za1<|aA<|Za rfl<|Zf rfl<|aJ<|Za rfl<|Za rfl<|Zj rfl z8 rfl<|eT rfl U305 aH rfl rfl Yd Yd rfl bSM<|dU (o:=0+1) (k:=low m*1) rfl aI rfl I.tail Yf (aNR a0 O a2 a3 a4 a5 R V) n4 rfl bSM ?_;refine aUT rfl rfl rfl Yd Yd rfl bSM<|Za rfl<|W2 rfl rfl rfl Yd rfl bSM<|sQ rfl rfl rfl (bRO _) Yd Xcp rfl bSM<|Zas rfl<|aF<|Zae rfl (fun hc4=>?_) fun hc4=>?_
    ·have hbit:(pP m (2^low m)&&& [a0,O,a2,a3,a4,a5,R].getD (low m) 0).testBit k=true:=by rw[mN]at hc4;simpa using hc4
     refine fN I Yf fun hI=>?_;have hI:q1∉[wb,mb]:=hI;refine iZ [wb,mb] 6 [0,1,2,3,4,5,6,7,8,9,10,11,12] [false,true,true,true,true,true,true,true,true,true,true,false,false] [(false,0),(true,1),(true,2),(true,3),(true,4),(true,5),(true,6),(true,7),(true,8),(true,9),(true,10),(false,11),(false,12)] bB (fun _ _ _ h=>jW (P:=prog) (fn:=f248) _ _ _ h) Yg rfl<|Za rfl<|Za rfl<|Za rfl<|Za rfl<|GC rfl rfl rfl Yd rfl bSM<|aSC rfl rfl rfl Yd Yn rfl bSM<|Zj rfl z8 rfl<|dX rfl (k:=1) (us:=[qI (a0:Int),qI (O:Int),qI (a2:Int),qI (a3:Int),qI (a4:Int),qI (a5:Int),qI (R:Int)]) p7 A4 rfl I Yc rfl rfl Yl rfl bSM<|jM (cs:=[qI ((pP (pP m (2^low m)) (2^k):Nat):Int),qI (a0:Int),qI (O:Int),qI (a2:Int),qI (a3:Int),qI (a4:Int),qI (a5:Int),qI (R:Int)]) rfl NV NC rfl Yg rfl bSM<|gF (A:=[]) (ν:=[(_,_),(_,_)]) (B:=[]) rfl rfl rfl rfl (bNC fun p hp=>bMR.2 ⟨p,hp,rfl⟩) (JG (cs:=[_,_,_,_])) (fun D7 hX=>ih _ (aEC Y) _ rfl (EC (EC hbits)) hE hH M1 D7 (hS.up A3.up (hX _ Yf)) Z U) rfl bSM fun v7 D8 _ hD8 hY=>?_;obtain⟨rfl,rA,rB,M5,rfl,hM5,hJ⟩:=hY;refine Zad rfl<|qW rfl rfl rfl rfl bSM<|Wan ?_;exact aL 30 (k+1,rA,rB,M5) ⟨Yn,hM5,hJ⟩ Yn ⟨Ya,(by rw[bDV hbit];show some (Value.int _ _)=some (Value.int _ _);congr 2;simp only;omega),bSM⟩ rfl rfl Mm5 fun D h=>⟨D,bNM _ (h),Le.refl D⟩
    ·have hbit:(pP m (2^low m)&&& [a0,O,a2,a3,a4,a5,R].getD (low m) 0).testBit k=false:=by rw[mN]at hc4;simpa using hc4
     refine Wbs ?_;exact aL 17 (k+1,hE,hH,M1) ⟨Yn,Z,U⟩ Yn ⟨Ya,(by rw[bGE hbit];rfl),bSM⟩ rfl rfl Mm5 (aK)
   ·obtain rfl:k=chs.length:=Yd
    refine Za6<|Za2<|Za2<|Za7<|Zaz<|Za3<|bN [] 3 7 48<|Za rfl<|Zam rfl<|Zj rfl LF rfl<|Zp rfl aGA rfl Mm0 rfl<|Zv rfl aFW rfl I aEK ?_;refine Za rfl<|aKZ (val:=BZ (n:=8)) (A:=[(_,_)]) (B:=[]) (a:=⟨[(m:Int),(a0:Int),(O:Int),(a2:Int),(a3:Int),(a4:Int),(a5:Int),(R:Int)],rfl⟩) rfl U297 aTC.key rfl rfl rfl Z bSM fun es3 cl3 M3 hM3 hm3=>aJ<|Za rfl<|We ?_;exact Zaj [] [] [_,_] [_] rfl ⟨rfl,bSM⟩ rfl fun D hD=>⟨by show Value.int _ _=_;rw[aTK Y],es3,cl3,M3,rfl,hM3,bCR U hm3 (by rw[aTK Y])⟩
structure VW(n:Nat)(s:Sc):Prop where
 len:s.fits.length=7
 row:∀f∈s.fits,f<128
 bits:∀x,s.broken.testBit x=true→x<n
 whole:s.whole≤7
def wM(n:Nat)(s:Sc):Nat:=s.whole+BH s.fits n s.broken
theorem bFP{α:Type}{l:List α}(h:l.length=7):∃a b c d e f g,l=[a,b,c,d,e,f,g]:=by
 match l,h with
 | [a,b,c,d,e,f,g],_=>exact⟨a,b,c,d,e,f,g,rfl⟩
theorem S5{y:bA}{t:List Pt}(hl:t.length=y.chairs.length)(I:t.length≤7):VW y.chairs.length (dF y t):=by
 refine⟨by simp[dF],fun f hf=>?_,fun x hx=>?_,?_⟩
 ·obtain⟨j,_,rfl⟩:=bMR.1 hf;have h1:=k9 (kI y t j) t.length;have h2:2^t.length≤2^7:=bOW Yd I;omega
 ·simp only[dF]at hx;rw[oJ]at hx;simp at hx;omega
 ·have:whole t≤t.length:=bOJ _ _;simp only[dF];omega
def pI(l:List (Nat×Nat)):List (Int×Int):=l.map fun p=>((p.1:Int),(p.2:Int))
def WH(l:List (Int×Int)):List Γ:=l.flatMap fun p=>[qI p.1,qI p.2]
theorem SO(l:List (Int×Int))(p:Int×Int):WH (l++[p])=WH l++[qI p.1,qI p.2]:=by simp[WH]
theorem A2(l:List (Int×Int)):(WH l).length=l.length*2:=by
 induction l with
 |nil=>rfl
 |cons c l ih=>unfold WH at ih ⊢;rw[bNW,LE,ih];simp only[bMX,bOY];omega
theorem bCW{l:List (Int×Int)}{i:Nat}{c:Int×Int}(hi:l[i]?= some c):((WH l).drop (i*2)).take 2=[qI c.1,qI c.2]:=by
  induction l generalizing i with
  |nil=>simp at hi
  |cons d l ih=>
    unfold WH at ih ⊢
    rw[bNW];cases i with
    | zero => obtain rfl : d = c := by simpa using hi
              rfl
    |succ i=>
      rw[bRA,bOL Yaq,bOA];have:(i+1)*2- [Value.int .i64 d.1,Value.int .i64 d.2].length=i*2:=by simp;omega
      rw[this];exact ih Yau
theorem _root_.Go.Fs.kZ.prs{D:aC}{v:Γ}{n:Nat}{l:List (Int×Int)}(hF:kZ D v n (WH l))(hn:l.length=n)(hb:n≤9223372036854775807):Sl D R2 2 v l:=
 hF.sl hn hb fun _i _t hi=>⟨_,rfl,rfl,bCW hi⟩
theorem aTI(wb mb:Nat)(cv qv:Γ)(fit:Int)(chs:List Ch)(w b:Nat)(a0 O a2 a3 a4 a5 R:Nat)(U:chs.length≤7)(hF:∀f∈[a0,O,a2,a3,a4,a5,R],f<128)(hw:w≤7)(hbits:∀x,b.testBit x=true→x<chs.length)(es:Array MapEntry)(clock:Nat)(M:List (xU 8×Int))(D:aC)(hS:Sl D A3 4 cv chs)(hM:H2 BZ es M)(hok:IM chs.length M):
  IF prog 175 [qP wb,.agg #[qI (w:Int),qI ((b:Nat):Int),qI (a0:Int),qI (O:Int),qI (a2:Int),qI (a3:Int),qI (a4:Int),qI (a5:Int),qI (R:Int)]] D [(wb,qC [cv,qI fit,qv,.map (some mb)] 299),(mb,.map es clock)] (fun _ v ν'=>v=qI ((w+BH [a0,O,a2,a3,a4,a5,R] chs.length b:Nat):Int)∧∃es' clock' M',ν'=[(wb,qC [cv,qI fit,qv,.map (some mb)] 299),(mb,.map es' clock')]∧H2 BZ es' M'∧IM chs.length M'):=by
 have hbl:=MY hbits U;have hnl:=aBR [a0,O,a2,a3,a4,a5,R] chs.length b;refine jH 15 func175 rfl rfl rfl rfl fun h0 hwl hwn=>aA<|Zz rfl fun q1 E1 hI I=>Zf rfl<|bO<|fN I Yf fun V=>?_;have V:q1∉[wb,mb]:=V;refine iZ [wb,mb] 4 [0,1,2,3,4,5,6,7,8,9,10] [false,false,true,true,true,true,true,true,true,false,false] [(false,0),(false,1),(true,2),(true,3),(true,4),(true,5),(true,6),(true,7),(true,8),(false,9),(false,10)] bB (fun _ _ _ h=>jW (P:=prog) (fn:=f175) _ _ _ h) Yg rfl<|Zj rfl P0 rfl<|dU rfl (k:=0) aI rfl I Yc rfl Yl rfl bSM<|Za rfl<|Zj rfl AT rfl<|dU rfl (k:=1) aI rfl I Yc rfl Yl rfl bSM<|Zj rfl O5 rfl<|dX rfl (k:=2) (us:=[qI (a0:Int),qI (O:Int),qI (a2:Int),qI (a3:Int),qI (a4:Int),qI (a5:Int),qI (R:Int)]) p7 A4 rfl I Yc rfl rfl Yl rfl bSM<|jM (cs:=[qI ((b:Nat):Int),qI (a0:Int),qI (O:Int),qI (a2:Int),qI (a3:Int),qI (a4:Int),qI (a5:Int),qI (R:Int)]) rfl NV NC rfl Yg rfl bSM<|gF (A:=[]) (ν:=[(_,_),(_,_)]) (B:=[]) rfl rfl rfl rfl (by first|exact Or.inl rfl|exact Or.inr fun p hp=>bMR.2 ⟨p,hp,rfl⟩) (JG (cs:=[_,_,_,_])) (fun D5 Z=>aSW wb mb cv qv fit chs a0 O a2 a3 a4 a5 R U hF _ b rfl hbits es clock M D5 (hS.up A3.up (Z _ Yf)) hM hok) rfl bSM fun v5 D6 _ hJ hp5=>?_;obtain⟨rfl,hB,hE,M1,rfl,hH,Y⟩:=hp5;refine Zad rfl<|We ?_;exact Zaj [] [] [_,_] [_] rfl ⟨rfl,bSM⟩ rfl fun D hD=>⟨Xcq,hB,hE,M1,rfl,hH,Y⟩
theorem aXZ(wb mb:Nat)(cv qv:Γ)(fit:Int)(chs:List Ch)(s:Sc)(I:chs.length≤7)(hs:VW chs.length s)(es:Array MapEntry)(clock:Nat)(M:List (xU 8×Int))(D:aC)(hS:Sl D A3 4 cv chs)(hM:H2 BZ es M)(hok:IM chs.length M):
  IF prog 175 [qP wb,XF s] D [(wb,qC [cv,qI fit,qv,.map (some mb)] 299),(mb,.map es clock)] (fun _ v ν'=>v=qI (wM chs.length s:Int)∧∃es' clock' M',ν'=[(wb,qC [cv,qI fit,qv,.map (some mb)] 299),(mb,.map es' clock')]∧H2 BZ es' M'∧IM chs.length M'):=by
 obtain⟨w,b,F⟩:=s;obtain⟨a0,O,a2,a3,a4,a5,R,rfl⟩:=bFP hs.len;exact aTI wb mb cv qv fit chs w b a0 O a2 a3 a4 a5 R I hs.row hs.whole hs.bits es clock M D hS hM hok
structure bFB(y:bA):Prop where
 len:y.chairs.length≤7
 cls:y.claims.length≤5
 fit:0≤y.fit∧y.fit≤9
 size:∀c∈y.chairs,0≤c.size∧c.size≤9
 part:∀c∈y.chairs,∀n∈c.parts.l,0≤n∧n≤2
 claim:∀r∈y.claims,0≤r.1∧r.1≤r.2∧r.2≤7
 unk:dA y.chairs≤8
theorem bKE{y:bA}(h:aZ y=0):bFB y:=by
 unfold aZ at h;split at h
 ·omega
 ·rename_i h1;split at h
  ·omega
  ·rename_i h2;split at h
   ·omega
   ·rename_i h3;have h4:zR y=true:=Xai
    simp only[zR,bMS,bNQ,bS]at h4;obtain⟨⟨h5,I⟩,O⟩:=h4;refine⟨Yd,Yd,h5,fun c hc=>?_,fun c hc n hn=>?_,fun r hr=>?_,Yd⟩
    ·have:=I c hc;simp only[kP,bMS,bS]at this;exact this.1
    ·have:=I c hc;simp only[kP,bMS,TT,bNQ]at this
     exact bS.1 (this.2 n hn)
    ·have:=O r hr;simp only[mJ,bMS,GT]at this;exact⟨this.1.1,this.1.2,this.2⟩
theorem aDV{y:bA}{t:List Pt}(h:eJ y t=true):t.length=y.chairs.length∧∀p∈t,wT p:=by
 unfold eJ at h;simp only[bMS,GT,bNQ]at h;refine⟨h.1,fun p hp=>?_⟩;obtain⟨i,hi⟩:=bQV.1 hp;obtain⟨hlt,_⟩:=bMW.1 hi;have hc:y.chairs[i]?= some (y.chairs[i]'Yd):=bMU _;have:=h.2 (y.chairs[i]'Yd,p) (n5 (i:=i) (by rw[bSH];exact⟨hc,hi⟩))
 simp only[T9,Pt.l,bQO,List.zip_nil_left,bQU,List.all_nil,bSE,bMS,xI,bS]at this;exact⟨this.1.1,this.2.1.1,this.2.2.1⟩
def uI(cl:List (Int×Int))(out:List Int)(n:Int)(i:Nat):Bool:=(out.any fun x=>decide ((i:Int)=x))||(match cl[i]? with|some r=>hC n r.1 r.2|none=>true)
def nY(cl:List (Int×Int))(out:List Int)(n:Int):Bool:=(List.range cl.length).all (uI cl out n)
theorem aGV{cl:List (Int×Int)}{out:List Int}{n:Int}{i:Nat}{r:Int×Int}(hr:cl[i]?= some r)(h:((!out.any fun x=>decide ((i:Int)=x))&& !hC n r.1 r.2)=false):uI cl out n i=true:=by
 unfold uI;rw[hr];revert h
 cases out.any fun x=>decide ((i:Int)=x)<;>simp
theorem GD{cl:List (Int×Int)}{out:List Int}{n:Int}{i:Nat}{r:Int×Int}(hi:i<cl.length)(hr:cl[i]?= some r)(h:((!out.any fun x=>decide ((i:Int)=x))&& !hC n r.1 r.2)=true):nY cl out n=false:=by
 unfold nY;rw[bSA];refine⟨i,bOQ.2 hi,?_⟩;unfold uI;rw[hr];revert h
 cases out.any fun x=>decide ((i:Int)=x)<;>simp
theorem z7{cl:List (Int×Int)}{out:List Int}{n:Int}(h:∀j,j<cl.length→uI cl out n j=true):nY cl out n=true:=by
 unfold nY;rw[bNQ];exact fun j hj=>h j (bOQ.1 hj)
def E9(y:bA)(t:List Pt):Nat:=wM y.chairs.length (dF y t)
theorem CK(yv:Γ)(y:bA)(cv qv:Γ)(D:aC)(hy:yv=.agg #[cv,qI y.fit,qv]):IU prog 87 #[yv] D (fun _ v ν=>∃wb mb,v=qP wb∧ν=[(wb,qC [cv,qI y.fit,qv,.map (some mb)] 299),(mb,.map #[] 0)]):=by
 subst hy;refine qR 7 func87 rfl rfl rfl rfl fun h0=>aA<|Zz rfl fun q1 E1 O I=>Zf rfl<|aJ<|Zv rfl nA rfl I lN<|zJ rfl rfl bSM fun qm=>Zu [cv,qI y.fit,qv,.map (some qm)] rfl bER bAL rfl<|EQ rfl (e:=299) rfl rfl rfl bSM fun R=>We ?_
 exact aE rfl fun D hD=>⟨_,_,rfl,rfl⟩
theorem aQJ(sv:Γ)(xs:List Int)(n:Int)(D:aC)(hS:Sl D RI 1 sv xs):Fn prog 320 #[sv,qI n] D (fun _ v=>v=qI (idxOf (fun x=>decide (n=x)) xs)):=by
 have hl:=hS.len;refine Zw 19 func320 rfl fun h0=>aA<|Zf rfl<|bC<|Za rfl<|eE rfl U25 rfl Ym rfl rfl bSM<|Za rfl<|aF<|Za1<|bM (γ:=Nat) (fun k=>xs.length-k) (fun k=>k≤xs.length∧(xs.take k).any (fun x=>decide (n=x))=false) (fun k=>[(8,qI k)]) [(7,_),(4,_),(0,_),(1,_)] (fun k=>[D]) 0 Yf ⟨Ya,bSM⟩ cF (aK) ?_;rintro k ⟨h1,h2⟩;refine aA<|Zan rfl<|bO<|Zae rfl (fun hc1=>?_) fun hc1=>?_
 ·have hk:k<xs.length:=Yd
  obtain⟨x,hx⟩:=cT xs k;refine aQ<|Za3<|Za1<|aA<|Za rfl<|Zf rfl<|aJ<|Za rfl<|Za rfl<|Za rfl<|dW rfl U25 aH rfl Ym rfl Yd Ym rfl bSM fun V Y I O U R=>?_;obtain rfl:I=[qI _]:=O;refine Zh 0 rfl aI rfl R rfl<|Zas rfl<|aF<|Zae rfl (fun hc2=>?_) fun hc2=>?_
  ·refine Wbf ?_;exact aE rfl fun D hD=>by show Value.int _ _=_;rw[lB hx h2 (by simp[hc2])]
  ·refine Wbs ?_;have h3:(xs.take (k+1)).any (fun x=>decide (n=x))=false:=by rw[bMZ,hx,bQK,h2];simp[hc2]
   exact aL 12 (k+1) ⟨Yd,h3⟩ Yd ⟨Ya,bSM⟩ rfl rfl Mm5 (aK)
 ·refine Wl ?_;exact aE rfl fun D hD=>Xan
theorem N3(sv:Γ)(xs:List Int)(n:Int)(D:aC)(hS:Sl D RI 1 sv xs):Fn prog 225 #[sv,qI n] D (fun _ v=>v=.bool (xs.any fun x=>decide (n=x))):=by
 refine Zw 9 func225 rfl fun h0=>aA<|Zf rfl<|aJ<|Za rfl<|Za rfl<|Zd rfl (fun O I=>aQJ _ xs n _ (Sl.at RI.up I Ym Yf))<|Waa ?_;exact aE rfl fun D hD=>Xao
theorem EO(yv:Γ)(y:bA)(n:Int)(ov:Γ)(out:List Int)(D:aC)(hy:iY D yv y)(ho:Sl D RI 1 ov out):Fn prog 176 #[yv,qI n,ov] D (fun _ v=>v=.bool (nY y.claims out n)):=by
 obtain⟨cv,qv,rfl,hc,hq⟩:=hy;have hl:=hq.len;refine Zw 28 func176 rfl fun h0=>aA<|Zz rfl fun q1 E1 hE O=>Zf rfl<|bC<|Zj rfl mR rfl<|Zh 2 rfl J4 rfl O rfl<|Zai rfl U38 rfl hq rfl<|Za rfl<|aF<|Za1<|bM (γ:=Nat) (fun i=>y.claims.length-i) (fun i=>i≤y.claims.length∧∀j,j<i→uI y.claims out n j=true) (fun i=>[(12,qI (i:Int))]) [(11,_),(10,_),(6,_),(1,_),(2,_)] (fun i=>[E1,D]) 0 Yf ⟨Ya,bSM⟩ cF (aK) ?_;rintro i ⟨h1,h2⟩;refine aA<|Zan rfl<|bO<|Zae rfl (fun hc1=>?_) fun hc1=>?_
 ·have hi:i<y.claims.length:=Yd
  obtain⟨r,I⟩:=cT y.claims i;refine aQ<|Za3<|Za1<|aA<|Za rfl<|Zx rfl U38 dV rfl hq rfl I fun b1 o1 R U hB V=>?_;obtain rfl:R=[qI _,qI _]:=U;refine Zv rfl rV rfl V dV<|Zah rfl nH rfl fun q2=>Zf rfl<|Zab rfl dV ζ<|aJ<|Za rfl<|Za rfl<|Zd rfl (fun D1 Y=>N3 _ out (i:Int) _ (Sl.at RI.up Y Ym Yf))<|Wbg ?_;refine' bX 5 (s:=21) (p:=26) rfl (fun Z=>?_) (fun Z=>?_) ?_;rotate_left
  ·refine bL rfl rV rfl Mm0 dV n4 rfl ⟨_,rfl,rfl⟩<|Zb rfl<|Ze rfl (fun D2 hF=>GG r n _)<|Wbr ?_;exact aN 4
  ·refine Zg rfl<|Wc ?_;exact aN 4
  refine aF<|Zaf rfl (fun hc2=>?_) fun hc2=>?_
  ·refine aA<|Wi ?_;exact aE rfl fun D hD=>by show Value.bool _=_;rw[GD hi I hc2]
  ·refine Wbs ?_;exact aL 15 (i+1) ⟨Yd,fun j hj=>by rcases Nat.lt_succ_iff_lt_or_eq.1 hj with h|rfl;exact h2 j h;exact aGV I hc2⟩ Yd ⟨Ya,bSM⟩ rfl rfl (List.Sublist.cons _ Mm5) (aK)
 ·obtain rfl:i=y.claims.length:=Yd
  refine Wl ?_;exact aE rfl fun D hD=>by show Value.bool _=_;rw[z7 h2]
end L7
namespace L2
open L1
open C2
open C1 (hC bS tG rK)
theorem QE{c:List Int}{a b:Int}(I:c.length=10)(h0:0≤a)(h1:a≤b)(h9:b≤9):∃x xs,(c.drop a.toNat).take ((b+1).toNat-a.toNat)=x::xs∧xs.foldl max x=jQ c a b:=by
 have hlen:((c.drop a.toNat).take ((b+1).toNat-a.toNat)).length=(b+1).toNat-a.toNat:=by simp;omega
 cases h:(c.drop a.toNat).take ((b+1).toNat-a.toNat)with
 |nil=>rw[h]at hlen;simp at hlen;omega
 |cons x xs=>
  refine⟨x,xs,rfl,?_⟩;unfold jQ;rw[show(b+1-a).toNat=(b+1).toNat-a.toNat by omega,h];rfl
def HD(s:List Int)(m:Mk):Bool:=hC (jQ s m.frm m.to) m.lo m.hi
theorem XL{last:Int}{m:Mk}(h:wN last m=true):0≤m.frm∧m.frm≤m.to∧m.to≤last∧0≤m.lo∧m.lo≤m.hi∧m.hi≤99:=by
 unfold wN tA DN jD fQ at h;simp only[bMS,GT,bS]at h;omega
theorem ZS{t:aX}{c:List Int}{k:Nat}{m:Mk}(hx:t.marks[k]?= some m)(h2:(t.marks.take k).all (HD c)=true)(h:((!([]:List Int).any fun x=>decide ((k:Int)=x))&& !hC (jQ c m.frm m.to) (m.lo,m.hi).1 (m.lo,m.hi).2)=false):(t.marks.take (k+1)).all (HD c)=true:=by
 rw[bMZ,hx,List.all_append,h2];simpa [HD]using h
theorem GD{t:aX}{c:List Int}{k:Nat}{m:Mk}(hx:t.marks[k]?= some m)(h:((!([]:List Int).any fun x=>decide ((k:Int)=x))&& !hC (jQ c m.frm m.to) (m.lo,m.hi).1 (m.lo,m.hi).2)=true):iA t c=false:=by
 unfold iA;rw[bSA];exact⟨m,n5 hx,Yaw⟩
theorem z7{t:aX}{c:List Int}{k:Nat}(h2:(t.marks.take k).all (HD c)=true)(hk:t.marks.length≤k):iA t c=true:=by
 rw[bNV hk]at h2;exact h2
theorem aMD(l:List (Int×Int))(r:Int×Int):rI (l++[r])=min (rI l*fO r) 2001:=by
 unfold rI;rw[bOR];rfl
theorem JU{t:aX}{k:Nat}{r:Int×Int}(hx:t.heights[k]?= some r):rI (t.heights.take (k+1))=min (rI (t.heights.take k)*fO r) 2001:=by
 rw[bMZ,hx];exact aMD _ _
theorem XH{t:aX}(h:KL t)(k:Nat):0≤rI (t.heights.take k)∧rI (t.heights.take k)≤2001:=by
 induction k with
 |zero=>simp[rI]
 |succ k ih=>
  cases hx:t.heights[k]? with
  |none=>rw[bMZ,hx,Option.toList_none,bNN];exact ih
  |some r=>
   rw[JU hx];have h1:=tU (h.hts r (n5 hx));have h2:0≤fO r:=by unfold fO;omega
   have h3:=bSI ih.1 h2;omega
theorem aOQ{t:aX}(h:KL t)(k:Nat){r:Int×Int}(hr:jD r=true):0≤rI (t.heights.take k)*fO r∧rI (t.heights.take k)*fO r≤200100:=by
 have h0:=XH h k;have h1:=tU hr;have h2:0≤fO r∧fO r≤100:=by unfold fO;omega
 have h3:=bSI h0.1 h2.1;have h4:=Int.mul_le_mul h0.2 h2.2 h2.1 Yd;omega
theorem AJ{t:aX}{b:Bool}(h:((decide ((9:Int)<t.last)||decide ((6:Int)<(t.levels.length:Int)))||decide ((5:Int)<(t.marks.length:Int)))=b):aKJ t=b:=h
theorem aOE{t:aX}(h:((decide ((9:Int)<t.last)||decide ((6:Int)<(t.levels.length:Int)))||decide ((5:Int)<(t.marks.length:Int)))=false):t.last≤9:=by
 simp only[bOH,bMY]at h;omega
theorem VP{t:aX}{b:Bool}(h:(((((decide (t.last<0)||decide ((t.heights.length:Int)≠t.last+1))|| !t.heights.all jD)|| !fQ t.step)|| !t.levels.all fQ)|| !t.marks.all (wN t.last))=b):bFF t= !b:=by
 subst h;unfold bFF;have I:decide (t.last<0)= !decide (0≤t.last):=by by_cases h:t.last<0<;>simp[h]<;>omega
 have O:decide ((t.heights.length:Int)≠t.last+1)= !decide ((t.heights.length:Int)=t.last+1):=Yf
 rw[I,O];cases decide (0≤t.last)<;>cases decide ((t.heights.length:Int)=t.last+1)<;>cases t.heights.all jD<;>cases fQ t.step<;>cases t.levels.all fQ<;>cases t.marks.all (wN t.last)<;>rfl
section
variable{t:aX}(h1:((decide ((9:Int)<t.last)||decide ((6:Int)<(t.levels.length:Int)))||decide ((5:Int)<(t.marks.length:Int)))=false)
theorem aHF(h1:((decide ((9:Int)<t.last)||decide ((6:Int)<(t.levels.length:Int)))||decide ((5:Int)<(t.marks.length:Int)))=true):aZ t=3:=by unfold aZ;rw[bNK (AJ h1)]
include h1
theorem bMG(h2:(((((decide (t.last<0)||decide ((t.heights.length:Int)≠t.last+1))|| !t.heights.all jD)|| !fQ t.step)|| !t.levels.all fQ)|| !t.marks.all (wN t.last))=false):KL t:=tOk (AJ h1) (VP h2)
theorem AR(h2:(((((decide (t.last<0)||decide ((t.heights.length:Int)≠t.last+1))|| !t.heights.all jD)|| !fQ t.step)|| !t.levels.all fQ)|| !t.marks.all (wN t.last))=true):aZ t=1:=by
 unfold aZ;rw[bNA (by simp[AJ h1]),bNK (show bFF t=false from VP h2)]
variable(h2:(((((decide (t.last<0)||decide ((t.heights.length:Int)≠t.last+1))|| !t.heights.all jD)|| !fQ t.step)|| !t.levels.all fQ)|| !t.marks.all (wN t.last))=false)
include h2
theorem YF(h4:2000<rI t.heights):aZ t=3:=by
 unfold aZ;rw[bNA (by simp[AJ h1]),bNA (by simp[VP h2]),bNK h4]
theorem ZX(h4:¬2000<rI t.heights)(hn:fD t=[]):aZ t=9:=by
 unfold aZ;rw[bNA (by simp[AJ h1]),bNA (by simp[VP h2]),bNA h4,bNK hn]
theorem vR(h4:¬2000<rI t.heights)(hn:fD t≠[]):aZ t=0:=by
 unfold aZ;rw[bNA (by simp[AJ h1]),bNA (by simp[VP h2]),bNA h4,bNA hn]
end
theorem FY(c:List Int)(a b:Int)(D:aC)(I:c.length=10)(h0:0≤a)(h1:a≤b)(h9:b≤9):Fn prog 218 #[.agg (ints c).toArray,qI a,qI b] D (fun _ v=>v=qI (jQ c a b)):=by
 obtain⟨x,xs,hx,hv⟩:=QE I h0 h1 h9;refine Zw 12 func218 rfl fun h0=>aA<|Zz rfl fun q1 E1 U O=>Zf rfl<|aJ<|Za rfl<|Za rfl<|Zad rfl<|aHK (l:=a.toNat) (h:=(b+1).toNat) rfl U320 aH rfl rfl rfl Yd Yd Yd Yd Yd rfl bSM<|Zd rfl (fun V R=>aUC _ x xs _ (hx▸(aCI (l:=a.toNat) (h:=(b+1).toNat) O I Yd Yd Yd).up RI.up (R _ Yf)))<|We ?_;exact aE rfl fun D hD=>by show Value.int _ _=_;rw[hv]
theorem EO(tv:Γ)(t:aX)(c:List Int)(D:aC)(ht:gN D tv t)(hto:KL t)(I:c.length=10):Fn prog 180 #[tv,.agg (ints c).toArray,qN] D (fun _ v=>v=.bool (iA t c)):=by
 obtain⟨hv,lv,mv,rfl,hh,hl,hm⟩:=ht;have hll:=hm.len;have hlast:=hto.last;refine Zw 34 func180 rfl fun h0=>aA<|Zz rfl fun q1 E1 hE O=>Zz rfl fun q2 E2 hF R=>Zf rfl<|bC<|Zj rfl mO rfl<|Zh 4 rfl I9 rfl O rfl<|Zai rfl U30 rfl hm rfl<|Za rfl<|aF<|Za1 ?_;refine bM (γ:=Nat) (fun k=>t.marks.length-k) (fun k=>k≤t.marks.length∧(t.marks.take k).all (HD c)=true) (fun k=>[(12,qI (k:Int))]) [(11,_),(10,_),(6,_),(4,_),(2,_)] (fun k=>[E2,E1,D]) 0 Yf ⟨Ya,bSM⟩ cF (aK) ?_;rintro k ⟨h1,h2⟩;refine aA<|Zan rfl<|bO<|Zae rfl (fun hc1=>?_) fun hc1=>?_
 ·have hk:k<t.marks.length:=Yd
  obtain⟨m,hx⟩:=cT t.marks k;have hmb:=XL (hto.mark m (n5 hx));refine aQ<|Za3<|Za1<|aA<|Za rfl<|Zx rfl U30 lP rfl hm rfl hx fun b1 o1 U V hB Y=>?_;obtain rfl:U=[qI _,qI _,qI _,qI _]:=V;refine Zv rfl QM rfl Y lP<|Zah rfl C6 rfl fun q3=>Zf rfl<|Zab rfl lP ζ<|bO<|bN [] 5 16 8066<|Za rfl<|Za rfl<|Zd rfl (fun D1 hH=>L7.N3 _ [] (k:Int) _ Sl.nil)<|Wbg ?_;refine' bX 11 (s:=21) (p:=32) rfl (fun Z=>?_) (fun Z=>?_) ?_;rotate_left
  ·refine Zk rfl JY rfl<|eN rfl nR dQ rfl Mm0 rfl rfl n4 rfl ⟨_,rfl,rfl⟩<|cK rfl oQ rfl R Yc Yac n4 rfl ⟨_,rfl,rfl⟩<|Zk rfl MW rfl<|Zq rfl aI rfl Mm0 rfl<|Zk rfl JS rfl<|Zq rfl aI rfl Mm0 rfl<|Ze rfl (fun D2 hI=>FY c m.frm m.to _ I hmb.1 hmb.2.1 Yd)<|Ze rfl (fun D3 hJ=>GG (m.lo,m.hi) _ _)<|Wbr ?_;exact aN 10
  ·refine Zg rfl<|Zg rfl<|Zg rfl<|Zg rfl<|Wbd ?_;exact aN 10
  refine aF<|Zaf rfl (fun hc2=>?_) fun hc2=>?_
  ·refine aA<|Wi ?_;exact aE rfl fun D hD=>by show Value.bool _=_;rw[GD hx hc2]
  ·refine Wbs ?_;exact aL 15 (k+1) ⟨Yd,ZS hx h2 hc2⟩ Yd ⟨Ya,bSM⟩ rfl rfl (List.Sublist.cons _ Mm5) (aK)
 ·refine Wl ?_;exact aE rfl fun D hD=>by show Value.bool _=_;rw[z7 h2 Yd]
theorem U8(tv:Γ)(t:aX)(D:aC)(ht:gN D tv t):Fn prog 178 #[tv] D (fun _ v=>v=qI (aZ t)):=by
 have ht0:=ht;obtain⟨hv,lv,mv,rfl,hh,hl,hm⟩:=ht;have hll:=hh.len;have hl2:=hl.len;have hl3:=hm.len;refine NE 82 func178 rfl rfl rfl rfl fun h0=>aA<|Zz rfl fun q1 E1 hE1 I=>Zah rfl RD rfl fun q2=>aJ<|Zv rfl lF rfl I jS<|Zay rfl<|Zf rfl<|bO<|Za1<|aA<|Zj rfl mX rfl ?_;refine Zh 0 rfl aI rfl I rfl<|Was ?_
 refine' dL 5 (s:=13) (p:=18) rfl (fun hB=>?_) (fun hB=>?_) ?_;rotate_left
 ·refine Zk rfl lT rfl<|Zi 3 rfl cD rfl I rfl<|eE rfl U25 rfl hl rfl rfl ⟨_,rfl,rfl⟩<|Ww ?_;exact aN 4
 ·refine Wf ?_;exact aN 4
 refine Za rfl ?_;refine' dL 5 (s:=19) (p:=24) rfl (fun hE=>?_) (fun hE=>?_) ?_;rotate_left
 ·refine Zk rfl mO rfl<|Zi 4 rfl I9 rfl I rfl<|eE rfl U30 rfl hm rfl rfl ⟨_,rfl,rfl⟩<|Ww ?_;exact aN 4
 ·refine Wf ?_;exact aN 4
 refine Zf rfl<|aF<|Zaf rfl (fun hc1=>?_) fun hc1=>?_
 ·refine aA<|Zr rfl tE ζ rfl<|aG<|Za5<|Za0 ?_;exact wL (vs:=[_]) rfl rfl rfl ⟨⟨_,_,_,rfl,bRN _,bNI ⟨tC,rfl⟩⟩,bSM⟩ fun D hD=>by show Value.int _ _=_;rw[aHF hc1]
 ·refine aA<|Zj rfl mX rfl<|Zh 0 rfl aI rfl I rfl<|Wcb ?_;refine' dL 8 (s:=29) (p:=37) rfl (fun Y=>?_) (fun Y=>?_) ?_;rotate_left
  ·have hl0:0≤t.last:=by have:=Y;simp only[bMY]at this;omega
   have hl9:t.last≤9:=aOE hc1;refine Zk rfl lU rfl<|Zi 1 rfl xE rfl I rfl<|eE rfl U29 rfl hh rfl rfl ⟨_,rfl,rfl⟩<|Zk rfl mX rfl<|Zi 0 rfl aI rfl I rfl<|oC rfl rfl rfl Ye rfl ⟨_,rfl,rfl⟩<|LB rfl rfl rfl rfl ⟨_,rfl,rfl⟩<|Zal rfl ?_;exact aN 7
  ·refine Waq ?_;exact aN 7
  refine Za rfl ?_;refine' dL 5 (s:=38) (p:=43) rfl (fun hF=>?_) (fun hF=>?_) ?_;rotate_left
  ·refine Zk rfl lU rfl<|Zi 1 rfl xE rfl I rfl<|Ze rfl (fun D1 hH=>OW _ _ _ jD _ (Sl.at AV.up hH Ym Yf) (.of fun x V=>FE x V) rfl)<|Wal ?_;exact aN 4
  ·refine Wf ?_;exact aN 4
  refine Za rfl ?_;refine' dL 5 (s:=44) (p:=49) rfl (fun hI=>?_) (fun hI=>?_) ?_;rotate_left
  ·refine Zk rfl L9 rfl<|Zi 2 rfl aI rfl I rfl<|Ze rfl (fun V hD2=>Q8 _ _)<|Wal ?_;exact aN 4
  ·refine Wf ?_;exact aN 4
  refine Za rfl ?_;refine' dL 5 (s:=50) (p:=55) rfl (fun hJ=>?_) (fun hJ=>?_) ?_;rotate_left
  ·refine Zk rfl lT rfl<|Zi 3 rfl cD rfl I rfl<|Ze rfl (fun D3 hK=>d6 _ _ _ fQ _ (Sl.at RI.up hK Ym Yf) (.of fun x V=>Q8 x V) rfl)<|Wal ?_;exact aN 4
  ·refine Wf ?_;exact aN 4
  refine Za rfl ?_;refine' dL 6 (s:=56) (p:=62) rfl (fun hN=>?_) (fun hN=>?_) ?_;rotate_left
  ·refine Zk rfl mO rfl<|Zi 4 rfl I9 rfl I rfl<|Zb rfl<|Ze rfl (fun D4 Z=>aZF _ _ _ (wN t.last) _ (Sl.at UV.up Z Ym Yf) ⟨_,[_],[],rfl,fun m V hl=>aZB _ t m V (ht0.up ((Z _ Yf).trans hl))⟩ rfl)<|Wal ?_;exact aN 5
  ·refine Zg rfl<|Wf ?_;exact aN 5
  refine Zf rfl<|aF<|Zaf rfl (fun hc2=>?_) fun hc2=>?_
  ·refine aA<|Zr rfl tE ζ rfl<|aG<|Za5<|Za0 ?_;exact wL (vs:=[_]) rfl rfl rfl ⟨⟨_,_,_,rfl,bRN _,bNI ⟨tC,rfl⟩⟩,bSM⟩ fun D hD=>by show Value.int _ _=_;rw[AR hc1 hc2]
  ·have hto:KL t:=bMG hc1 hc2;refine bG<|Za4<|Zaz<|aA<|Zf rfl<|bC<|Zj rfl lU rfl<|Zh 1 rfl xE rfl I rfl<|Zai rfl U29 rfl hh rfl<|Za rfl<|aF<|Za1 ?_;refine bM (γ:=Nat) (fun k=>t.heights.length-k) (fun k=>k≤t.heights.length) (fun k=>[(66,qI (k:Int)),(4,qI (rI (t.heights.take k)))]) [(65,_),(64,_),(2,_),(1,_)] (fun k=>[E1,D]) 0 Yd ⟨Ya,Ya,bSM⟩ cF (aK) ?_;rintro k h1;refine aA<|Zan rfl<|bO<|Zae rfl (fun hc3=>?_) (fun hc3=>?_)
   ·have hk:k<t.heights.length:=Yd
    obtain⟨r,hx⟩:=cT t.heights k;have hrb:=hto.hts r (n5 hx);have hmul:=aOQ hto k hrb;refine aQ<|Za3<|Za1<|aA<|Zx rfl U29 dQ rfl hh rfl hx fun b1 o1 hO hP rA hR=>?_;obtain rfl:hO=[qI _,qI _]:=hP;refine Zv rfl nR rfl hR dQ<|Zah rfl kA rfl fun q3=>Zab rfl dQ ζ<|aF<|aO<|Za rfl<|Zag rfl nR rfl Mm0 dQ<|Zd rfl (fun D5 hD5=>aEI r hrb _)<|F9 rfl rfl rfl Ye rfl bSM<|Zt rfl U25 aH cE rfl (.cons rfl rfl (.cons rfl rfl .nil)) fun rB D901 hS O=>?_;have R:=Sl.ofInts (l:=[_,_]) (n:=2) (cap:=2) O rfl Yd Yd;refine Zd rfl (fun D6 hX=>nD _ (rI (t.heights.take k)*fO r) [2001] _ (R.up RI.up (hX _ Yf)))<|Wan ?_;exact aL 15 (k+1) Yd Yd ⟨Ya,(by rw[JU hx];rfl),bSM⟩ rfl rfl (List.Sublist.cons _ Mm5) fun D h=>⟨D,bNM _ (h),Le.refl D⟩
   ·obtain rfl:k=t.heights.length:=Yd
    rw[bNR];refine Za6<|Za2<|Za2<|Za7<|Zaz<|bZ<|Za rfl<|Zaq rfl<|aF<|Zae rfl (fun hc4=>?_) fun hc4=>?_
    ·refine aA<|Zr rfl tE ζ rfl<|aG<|Za0 ?_;exact wL (vs:=[_]) rfl rfl rfl ⟨⟨_,_,_,rfl,bRN _,bNI ⟨tC,rfl⟩⟩,bSM⟩ fun D hD=>by show Value.int _ _=_;rw[YF hc1 hc2 hc4]
    ·refine aQ<|bZ<|Zv rfl lF rfl I jS<|Zy rfl (fun D7 U=>SX _ t _ (ht0.up (U _ Yf)) hto) fun v7 D7 U hY=>aF<|Za1 ?_;obtain⟨br,rfl,hit⟩:=hY;refine sW (γ:=Unit) (xs:=(fD t).map dG) (enc:=PZ) (Dr:=D7) (fun pre _=>pre=[]) (fun _ c _=>c=.ret∧fD t≠[]) (fun _=>[(q2,qC [qI 0] 44)]) () rfl rfl rfl rfl hit Yf (fun _=>rfl) rfl rfl rfl ?_ ?_ ?_
     ·rintro pre x _ ⟨us,hx⟩ hΦ l bd rec hh D7 U hst hpend;refine bG ?_;refine fun a w hhh=>zQ (A:=[(_,_)]) (B:=[(bd,.deferred (some []))]) (r:=rec) (l:=l) Ybb hst ?_ a w hhh
      refine Za1<|aA<|Zr rfl tE ζ rfl<|aG<|Za5 ?_;exact aVP (A:=[(_,_)]) (B:=[(bd,.deferred (some []))]) .ret () ⟨rfl,fun e=>by rw[e]at hx;simp at hx⟩ rfl rfl
     ·rintro _ bd hΦ;have hn:fD t=[]:=by simpa using hΦ
      refine Za4<|Zaz<|aA<|Zr rfl tE ζ rfl<|aG ?_;exact zV (vs:=[_]) (A:=[(_,_)]) rfl rfl rfl ⟨⟨_,_,_,rfl,bRN _,bNI ⟨tC,rfl⟩⟩,bSM⟩ fun D hD=>by show Value.int _ _=_;rw[ZX hc1 hc2 hc4 hn]
     ·rintro _ _ _ bd ⟨rfl,hne⟩;refine HQ<|Za5<|Za0 ?_;exact zV (vs:=[_]) (A:=[(_,_)]) rfl rfl rfl ⟨⟨_,_,_,rfl,bRN _,bNI ⟨tC,rfl⟩⟩,bSM⟩ fun D hD=>by show Value.int _ _=_;rw[vR hc1 hc2 hc4 hne]
def W4(t:aX)(pre:List (List Int))(g:Γ×aD×Array MapEntry×Nat×List (Int×Int)):Prop:=
 bI 320 10 g.1 (lI t pre.length).length (W5 (lI t pre.length)) g.2.1∧yB g.2.2.1 g.2.2.2.1 g.2.2.2.2∧U1 (lI t pre.length) t.last g.2.2.2.2
def bKH(t:aX)(D:aC)(wv:Γ)(ν:aD):Prop:=∃wb mb hv lv mv tsv es cl S,wv=qP wb∧ν=[(wb,qC [qI t.last,hv,qI t.step,lv,mv,tsv,.map (some mb)] 316),(mb,.map es cl)]∧
 gN D (.agg #[qI t.last,hv,qI t.step,lv,mv]) t∧Sl D JB 10 tsv (bK t)∧yB es cl S∧U1 (bK t) t.last S
def j8(acc:List (List Int)):List Int:=match acc.getLast? with
 |some s=>dG s
 |none=>[]
theorem MF{acc:List (List Int)}(h:∀s∈acc,s.length≤10)(hne:acc≠[]):(j8 acc).length=10:=by
 unfold j8;rw[bQG hne];exact gM (h _ (List.getLast_mem hne))
theorem aSE{acc:List (List Int)}(h:∀s∈acc,s.length≤10)(hne:acc≠[])(junk:List Γ):((W5 acc++junk).drop (0+(((acc.length:Int)-1).toNat)*10)).take 10=ints (j8 acc):=by
 have hpos:=bQE.2 hne;unfold j8;rw[bQG hne,bQB];refine VF h ?_ junk;rw[show((acc.length:Int)-1).toNat=acc.length-1 by omega,←List.getLast?_eq_getElem?,bQG hne]
theorem aYW{s u:List Int}(h:s.length=u.length):dG s=dG u ↔ s=u:=by
 constructor
 ·intro e;have:=bNB (List.take s.length) e;unfold dG at this
  rwa [bRZ,h,bRZ]at this
 ·rintro rfl;rfl
def U0(S:List (Int×Int))(s:List Int)(k:Nat):List (Int×Int):=(List.range k).foldl (fun S (j:Nat)=>WN S ((j:Int),s.getD j 0)) S
theorem LR{S:List (Int×Int)}{s:List Int}{k:Nat}:U0 S s (k+1)=WN (U0 S s k) ((k:Int),s.getD k 0):=by
 unfold U0;rw[bOG,bOR];rfl
theorem aTU{S:List (Int×Int)}{s:List Int}{k:Nat}{p:Int×Int}:p∈U0 S s k ↔ p∈S∨∃j:Nat,j<k∧p=((j:Int),s.getD j 0):=by
 induction k with
 |zero=>simp[U0]
 |succ k ih=>
  rw[LR,aNT,ih];constructor
  ·rintro((h|⟨j,hj,rfl⟩)|rfl)
   ·exact bNI h
   ·exact bNC ⟨j,Yd,rfl⟩
   ·exact bNC ⟨k,Yd,rfl⟩
  ·rintro(h|⟨j,hj,rfl⟩)
   ·exact bNI (bNI h)
   ·by_cases e:j=k
    ·subst e;exact bNC rfl
    ·exact bNI (bNC ⟨j,Yd,rfl⟩)
theorem aBY{s:List Int}{k:Nat}(h:k<s.length):(dG s)[(k:Int).toNat]?= some (s.getD k 0):=by
 unfold dG;rw[bOI,bPH h,bOP,bMU h];rfl
section
variable{t:aX}{pre:List (List Int)}{s:List Int}(hrp:iA t (dG s)=iA t s)(htake:(fD t).take (pre.length+1)=(fD t).take pre.length++[s])
include hrp htake
theorem TQ{b:Bool}(hc:(!iA t (dG s)||(decide (0<((lI t pre.length).length:Int))&&(j8 (lI t pre.length)==dG s)))=b):xS t (lI t pre.length) s=if b=true then lI t pre.length else lI t pre.length++[s]:=by
 have hsm:s∈fD t:=bRT (i:=pre.length+1) (by rw[htake];simp);rw[hrp]at hc;subst hc;unfold xS;cases hr:iA t s with
 |false=>simp
 |true=>
  simp only[bSD,Bool.false_or,Bool.true_eq_false,false_or];by_cases hne:lI t pre.length=[]
  ·rw[hne];simp
  ·have hpos:=bQE.2 hne;have h1:decide (0<((lI t pre.length).length:Int))=true:=by simpa using hpos
   rw[h1,bQZ];unfold j8;rw[bQG hne];have h2:=rU (b8 (List.getLast_mem hne));have h3:=rU hsm;have h4:=aYW (h2.trans h3.symm);by_cases e:(lI t pre.length).getLast hne=s
   ·rw[bNK (by rw[e]),bNK (by rw[e];simp)]
   ·rw[bNA (by simpa using e),bNA (by simpa using fun h=>e (h4.1 h))]
theorem aNU{v:Γ}{ν:aD}{es:Array MapEntry}{cl:Nat}{S:List (Int×Int)}(hc:(!iA t (dG s)||(decide (0<((lI t pre.length).length:Int))&&(j8 (lI t pre.length)==dG s)))=true)(ha:bI 320 10 v (lI t pre.length).length (W5 (lI t pre.length)) ν)(hS:yB es cl S)(hsp:U1 (lI t pre.length) t.last S):W4 t (pre++[dG s]) (v,ν,es,cl,S):=by
 have h1:=TQ hrp htake hc;simp only[bPG]at h1;have h2:=KQ htake;rw[h1]at h2;unfold W4;rw[LE,bPB,h2];exact⟨ha,hS,hsp⟩
theorem aWZ(hc:(!iA t (dG s)||(decide (0<((lI t pre.length).length:Int))&&(j8 (lI t pre.length)==dG s)))=false):lI t (pre.length+1)=lI t pre.length++[s]:=by
 have h1:=TQ hrp htake hc;simp only[bOS,bPL]at h1;rw[KQ htake,h1]
end
theorem bGA{t:aX}{pre:List (List Int)}{s:List Int}{v:Γ}{ν:aD}{es:Array MapEntry}{cl k:Nat}{S:List (Int×Int)}(h:lI t (pre.length+1)=lI t pre.length++[s])(hk:s.length≤k)(I:(k:Int)=t.last+1)(ha:bI 320 10 v ((lI t pre.length).length+1) (W5 (lI t pre.length++[s])) ν)(hS:yB es cl (U0 S s k))(hsp:U1 (lI t pre.length) t.last S):W4 t (pre++[dG s]) (v,ν,es,cl,U0 S s k):=by
 unfold W4;rw[LE,bPB,h,LE,bPB];refine⟨ha,hS,fun p=>?_⟩;rw[aTU,hsp p];constructor
 ·rintro(⟨u,hu,j,hj,rfl⟩|⟨j,hj,rfl⟩)
  ·exact⟨u,bNE _ hu,j,hj,rfl⟩
  ·exact⟨s,Yf,j,Yd,rfl⟩
 ·rintro⟨u,hu,j,hj,rfl⟩;rcases bNH.1 hu with hu|hu
  ·exact bNI ⟨u,hu,j,hj,rfl⟩
  ·simp only[bNL]at hu;subst hu
   exact bNC ⟨j,Yd,rfl⟩
theorem bIE:K2 prog 323:=⟨Yg,Yg,Yg⟩
theorem xZ(tv:Γ)(t:aX)(fine:Bool)(D:aC)(ht:gN D tv t):IU prog 90 #[tv,.bool fine] D (fun D' v ν=>∃wv,v=.tuple #[wv,qI (oB t fine)]∧(oB t fine=0→KL t∧bK t≠[]∧bKH t D' wv ν)):=by
 have ht0:=ht;obtain⟨hv,lv,mv,rfl,hh,hl,hm⟩:=ht;refine aFA 85 func90 rfl rfl rfl rfl fun h0=>aA<|Zz rfl fun q1 E1 hE1 O=>Zf rfl<|Zf rfl<|bC<|Zv rfl lF rfl O jS<|Zd rfl (fun D1 hK=>U8 _ t _ (ht0.up (hK _ Yf)))<|Waz ?_;refine aF<|Zae rfl (fun hc1=>?_) fun hc1=>?_
 ·refine Wau ?_;exact wL (vs:=[_,_]) rfl rfl rfl cF fun D hD=>⟨_,by rw[oB,bNK hc1];rfl,fun h=>by rw[oB,bNK hc1]at h;exact absurd h hc1⟩
 ·have U:aZ t=0:=Yd
  have hto:KL t:=MU U;refine aQ<|bZ<|Za rfl<|Zat rfl<|aF<|Zaf rfl (fun hc2=>?_) fun hc2=>?_
  ·refine Wby ?_;exact wL (vs:=[_,_]) rfl rfl rfl cF fun D hD=>⟨_,by rw[oB,bNA hc1,bNK Yav];rfl,fun h=>by rw[oB,bNA hc1,bNK Yav]at h;omega⟩
  ·refine aQ<|aA<|Zv rfl lF rfl O jS<|zJ rfl rfl bSM fun qm=>jM (cs:=[qI t.last,hv,qI t.step,lv,mv,qN,.map (some qm)]) rfl aXW bEX rfl Yg rfl bSM<|EQ rfl (e:=316) rfl rfl rfl bSM fun q2=>Zah rfl bDD rfl fun q3=>Zr rfl bAE ζ rfl<|bC<|Zv rfl lF rfl O jS<|Zy rfl (fun D2 hE=>SX _ t _ (ht0.up (hE _ Yf)) hto) fun v2 D2 hE hN=>aF ?_;refine Za1 ?_;obtain⟨br,rfl,hit⟩:=hN;refine sW (γ:=Γ×aD×Array MapEntry×Nat×List (Int×Int)) (xs:=(fD t).map dG) (enc:=PZ) (Dr:=D2) (W4 t) (fun _ _ _=>False) (fun g=>[(q3,qC [qP q2] 179),(q2,qC [qI t.last,hv,qI t.step,lv,mv,g.1,.map (some qm)] 316),(qm,.map g.2.2.1 g.2.2.2.1)]++g.2.1) (qN,[],#[],0,[]) rfl rfl rfl rfl hit Yf (fun _=>rfl) rfl ⟨by simpa [lI,W5]using bI.nil,yB.nil,U1.nil⟩ rfl ?_ ?_ (fun _ _ _ _ h=>h.elim)
   ·rintro pre x ⟨v,ν,es,cl,S⟩ ⟨us,hx⟩ ⟨ha,hS,hsp⟩ l bd rec hh7 D7 hD7 hst hpend;simp only at ha hS hsp;obtain⟨s,hk,rfl,hsm,htake⟩:=YG hx;have hsl:=rU hsm;have hlast:=hto.last;have hlen:=hto.len;have hs10:s.length≤10:=Yd
    have I:=gM hs10;have hall:∀u∈lI t pre.length,u.length≤10:=fun u hu=>by have:=rU (b8 hu);omega
    have hcap:=AZ U;have hacl:=VK t pre.length;have hrp:=aLA hto (s:=s) Yd;refine aO<|Zah rfl j7 rfl fun q4=>Zab rfl jN ζ<|Zao ?_;refine fun a w hhh=>zQ (A:=[(_,_),(_,_),(_,_),(_,_)]++ν) (B:=[(bd,.deferred (some []))]) (r:=rec) (l:=l) Ybb hst ?_ a w hhh
    refine pF fun hnd=>?_;simp only[bNT,bNG,bOT,bNF,bPF,bOA,LT,bNH,bSF]at hnd;have hq4:=hnd.1.2.2.2.1;have hq3:=hnd.2.1.2.2.1;have hq2:=hnd.2.2.1.2.1;refine Za1<|Za3<|Za3<|sF [] 10 28 20905986 (fun _ _ _ h=>h)<|Zv rfl lF rfl O jS<|bL rfl oQ rfl Mm0 Yac n4 rfl bSM<|Zd rfl (fun D3 hO=>EO _ t (dG s) _ (ht0.up (hO _ Yf)) hto I)<|Wbg ?_;refine' dL 23 (s:=28) (p:=51) rfl (fun hP=>?_) (fun hP=>?_) ?_;rotate_left
    ·refine Zq rfl wX rfl Mm1 rfl<|uZ rfl rfl rfl ⟨_,rfl,rfl⟩<|Zk rfl lZ rfl<|Zq rfl tS rfl Mm2 rfl<|bR rfl U314 rfl ha rfl rfl ⟨_,rfl,rfl⟩<|Zar rfl<|Zb rfl ?_;refine' bX 15 (s:=35) (p:=50) rfl (fun V=>?_) (fun V=>?_) ?_;rotate_left
     ·have hne:lI t pre.length≠[]:=fun e=>by rw[e]at V;simp at V
      have hpos:=bQE.2 hne;obtain⟨b5,cap5,R,rfl,hcp5,rfl,hl51,hl52⟩:=ha.some hpos;refine Zq rfl wX rfl Mm1 rfl<|uZ rfl rfl rfl ⟨_,rfl,rfl⟩<|Zk rfl lZ rfl<|Zq rfl tS rfl Mm2 rfl<|Zq rfl wX rfl Mm1 rfl<|uZ rfl rfl rfl ⟨_,rfl,rfl⟩<|Zk rfl lZ rfl<|Zq rfl tS rfl Mm2 rfl<|lL rfl U314 rfl rfl rfl ⟨_,rfl,rfl⟩<|yP rfl rfl rfl Ye rfl ⟨_,rfl,rfl⟩<|eY rfl U314 jN rfl rfl Yd Yd rfl ⟨_,rfl,rfl⟩<|eN (vs:=W5 (lI t pre.length)++R) (us:=ints (j8 (lI t pre.length))) rfl oQ jN rfl (bNM _ Mm3) (aSE hall hne R) (by simpa using MF hall hne) n4 rfl ⟨_,rfl,rfl⟩ ?_;refine bL rfl oQ rfl Mm0 Yac n4 rfl ⟨_,rfl,rfl⟩<|aBF rfl Yg U320 U3 Yg (MF hall hne) I rfl rfl rfl ⟨_,rfl,rfl⟩<|oY rfl rfl rfl rfl ⟨_,rfl,rfl⟩ ?_;exact aN 14
     ·refine Wah ?_;refine Wce ?_;exact aN 14
     refine Zal rfl ?_;exact aN 8
    ·refine Wah ?_;refine Zg rfl<|Zg rfl<|Zg rfl<|Waq ?_;exact aN 22
    refine aF<|Zaf rfl (fun hc3=>?_) fun hc3=>?_
    ·have hR:W4 t (pre++[dG s]) (v,ν,es,cl,S):=aNU hrp htake hc3 ha hS hsp;refine Za6<|Za2<|Za7 ?_;exact fun a w hh=>iX (A:=[(_,_),(_,_),(_,_)]++ν) (B:=[(bd,.deferred (some []))]) (v,ν,es,cl,S) hR rfl rfl a w (hh.dropBoxes 1)
    ·have hadd:=aWZ hrp htake hc3;refine aQ<|Za3<|sF (ν.map (·.1)) 2 11 254 (fun _ _ _ h=>h)<|bD rfl wX rfl Mm1 rfl Yl rfl bSM<|bD rfl wX rfl Mm1 rfl Yl rfl bSM<|Zam rfl<|Zj rfl lZ rfl<|bD rfl tS rfl Mm2 rfl Yl rfl bSM<|bL rfl oQ rfl Mm0 Yac Yl rfl bSM<|Zt rfl U314 jN j7 rfl (.cons rfl (by simpa using I) .nil) (fun b901 hF hX Y=>aS (A:=[(_,_),(_,_),(_,_),(_,_)]) (B:=[(l,_),(bd,_)]) rfl U314 rfl rfl jN j7 rfl bCJ rfl rfl rfl ha (jY.lit Y) Yf (by simp[I]) (VR hall) Xbi Yd (bNC fun p hp=>bMR.2 ⟨p,hp,rfl⟩) rfl bSM fun v1 ν1 Z=>?_);have hY:bI 320 10 v1 ((lI t pre.length).length+1) (W5 (lI t pre.length++[s])) ν1:=by unfold W5;rw[bOC,bPM];simpa [W5]using Z
     simp only[bPF,bOA];refine Zam rfl<|Zj rfl lZ rfl<|cR rfl rfl rfl Z.cells1 aFF (.tail (.tail ζ)) Yf rfl Z.cell1 bSM<|aJ<|Zj rfl mX rfl<|Zh 0 rfl aI rfl O rfl<|Zad rfl<|Za rfl<|aF<|Za1<|Zc (Nat×Array MapEntry×Nat) (fun g=>s.length-g.1) (fun g=>g.1≤s.length∧yB g.2.1 g.2.2 (U0 S s g.1)) (fun g=>[(65,qI (g.1:Int))]) [(64,_),(8,_),(7,_),(5,_),(4,_)] (fun g=>[(q4,qC (ints (dG s)) 320)]++[(q3,qC [qP q2] 179),(q2,qC [qI t.last,hv,qI t.step,lv,mv,v1,.map (some qm)] 316),(qm,.map g.2.1 g.2.2)]++(ν1++[(l,.loop {rec with state:=.busy}),(bd,.deferred (some []))])) (fun g=>[hF,D7,D2,E1,D]) (0,es,cl) ⟨Yf,hS⟩ ⟨Ya,bSM⟩ Mm5 ?_;rintro⟨k,hH,hI⟩ ⟨h1,hB⟩;simp only at h1 hB;refine aA<|Zan rfl<|bO<|Zae rfl (fun hc4=>?_) fun hc4=>?_
     ·have hks:k<s.length:=Yd
      have hxk:(dG s)[(k:Int).toNat]?= some (s.getD k 0):=aBY hks;refine aQ<|Za3<|Za1<|aA<|Za rfl<|Zf rfl<|aF<|sF [] 3 10 496 (fun _ _ _ h=>h)<|Zp rfl wX rfl Mm1 rfl<|Zam rfl<|Zj rfl KF rfl<|Zp rfl aFU rfl Mm2 rfl ?_;refine Za rfl<|Za rfl<|cA rfl U320 aH rfl rfl Yd Yd rfl bSM<|bD rfl aI rfl Mm0 (cO hxk) n4 rfl bSM<|Zu [qI (k:Int),qI (s.getD k 0)] rfl aYN aDR rfl<|bIS (A:=[(_,_),(_,_),(_,_)]) (B:=ν1++[(l,_),(bd,_)]) (a:=((k:Int),s.getD k 0)) rfl U313 bIE rfl rfl rfl hB bSM fun rA rB hS3=>Zao<|Za4<|Zaz<|aO<|Zad rfl<|Za rfl ?_;refine Zao ?_;exact aL 15 (k+1,rA,rB) ⟨Yn,by rw[LR];exact hS3⟩ Yn ⟨Ya,bSM⟩ rfl rfl Mm5 (aK)
     ·have hI1:W4 t (pre++[dG s]) (v1,ν1,hH,hI,U0 S s k):=bGA hadd Yd Yd hY hB hsp;refine Za6<|Za2<|Za2<|Za7<|Za4 ?_;exact fun a w hh=>iX (A:=[(_,_),(_,_),(_,_)]++ν1) (B:=[(bd,.deferred (some []))]) (v1,ν1,hH,hI,U0 S s k) hI1 rfl rfl a w (hh.dropBoxes 1)
   ·rintro⟨v,ν,es,cl,S⟩ bd ⟨ha,hS,hsp⟩;simp only[bOB]at ha hS hsp;rw[n7 t (bNJ _)]at ha hsp;have hall:∀u∈bK t,u.length≤10:=fun u hu=>by rw[←n7 t (bNJ _)]at hu;have:=rU (b8 hu);have:=hto.len10;omega
    have hll:(bK t).length≤2000:=by rw[←n7 t (bNJ _)];have:=VK t (fD t).length;have:=AZ U;omega
    refine Za4<|Zaz<|bZ<|Zp rfl wX rfl Mm0 rfl<|Zam rfl<|Zj rfl lZ rfl<|Zp rfl tS rfl Mm1 rfl<|bR rfl U314 rfl ha rfl rfl bSM<|Zas rfl<|aF<|Zae rfl (fun hJ=>?_) fun hJ=>?_
    ·have htn:bK t=[]:=bQC.1 Yd;have hask:oB t fine=11:=by rw[oB,bNA hc1,bNA Yav,bNK htn]
     refine Wby ?_;exact HA (vs:=[_,_]) (A:=[(_,_),(_,_),(_,_)]) (ν':=[]) (B:=ν) rfl rfl rfl cF fun D hD=>⟨_,by rw[hask];rfl,fun h=>by rw[hask]at h;omega⟩
    ·have htn:bK t≠[]:=fun e=>hJ Xaq
     have hask:oB t fine=0:=by rw[oB,bNA hc1,bNA Yav,bNA htn]
     refine aQ<|aA<|Zp rfl wX rfl Mm0 rfl<|Zf rfl<|Zf rfl<|aG<|dS (A:=[(_,_),(_,_),(_,_)]) (B:=[(bd,.deferred (some []))]) ha rfl fun D8 hD8 hF8=>?_;exact HA (vs:=[_,_]) (A:=[(_,_)]) (ν':=[(_,_),(_,_)]) (B:=[]) rfl rfl rfl cF fun D hD=>⟨_,by rw[hask];rfl,fun _=>⟨hto,htn,q2,qm,hv,lv,mv,v,es,cl,S,rfl,rfl,⟨hv,lv,mv,rfl,hh.up AV.up (hD _ Yf),hl.up RI.up (hD _ Yf),hm.up UV.up (hD _ Yf)⟩,(hF8.seas rfl Yd hall).up JB.up (hD _ Yf),hS,hsp⟩⟩
theorem rL{t:aX}(_ht:KL t){s:List Int}(h:s∈bK t):s.length=t.heights.length:=by
 rw[←n7 t (bNJ _)]at h;exact rU (b8 h)
structure aNE(es:Array MapEntry)(S:List (Int×Int))(h:Nat)(x0:Int)(seen:Array Nat)(lo hi:Int):Prop where
 mid:lo≤x0∧x0≤hi
 all:∀e∈es.toList,seen.contains e.born=true→∀y,e.key=mH ((h:Int),y)→lo≤y∧y≤hi
 los:((h:Int),lo)∈S
 his:((h:Int),hi)∈S
theorem aNE.start{t:aX}{es:Array MapEntry}{S:List (Int×Int)}{h:Nat}{I:List Int}(hsp:U1 (bK t) t.last S)(hs:I∈bK t)(hh:(h:Int)≤t.last):aNE es S h (I.getD h 0) #[] (I.getD h 0) (I.getD h 0):=
 ⟨Yd,fun e _ hc=>by simp at hc,(hsp _).2 ⟨I,hs,h,hh,rfl⟩,(hsp _).2 ⟨I,hs,h,hh,rfl⟩⟩
theorem aGE{a b:Int×Int}(h:mH a=mH b):a=b:=by
 obtain⟨I,a2⟩:=a;obtain⟨O,b2⟩:=b
 simp only[mH,Value.agg.injEq]at h;simpa using h
section
variable{t:aX}{es:Array MapEntry}{cl:Nat}{S:List (Int×Int)}{h:Nat}{x0:Int}{seen:Array Nat}{lo hi:Int}
theorem JM(hS:yB es cl S){e e':MapEntry}(h1:e∈es.toList)(h2:e'∈es.toList)(h:e'.born=e.born):e'=e:=by
 have f1:=find_born e es.toList hS.nd h1;have f2:=find_born e' es.toList hS.nd h2;rw[h]at f2;rw[f1]at f2;exact(bNS f2).symm
theorem aNE.yes(hI:aNE es S h x0 seen lo hi)(hS:yB es cl S){e:MapEntry}(he:e∈(leftOf es seen).toList){ah ay:Int}(hek:e.key=mH (ah,ay))(haS:(ah,ay)∈S)(hc:ah=(h:Int)):aNE es S h x0 (seen.push e.born) (min lo ay) (max hi ay):=by
 subst hc;have hm:=hI.mid;refine⟨Yd,fun e' he' hc y hy=>?_,?_,?_⟩
 ·rw[contains_push,bNZ]at hc;rcases hc with hc|hc
  ·have:=hI.all e' he' hc y hy;omega
  ·have:=JM hS (mem_left he).1 he' (bRL.1 hc);subst this;rw[hek]at hy;have:=aGE hy;simp only[bQS,true_and]at this;omega
 ·rcases Int.le_total lo ay with h|h
  ·rw[Int.min_eq_left h];exact hI.los
  ·rw[Int.min_eq_right h];exact haS
 ·rcases Int.le_total hi ay with h|h
  ·rw[Int.max_eq_right h];exact haS
  ·rw[Int.max_eq_left h];exact hI.his
theorem aNE.no(hI:aNE es S h x0 seen lo hi)(hS:yB es cl S){e:MapEntry}(he:e∈(leftOf es seen).toList){ah ay:Int}(hek:e.key=mH (ah,ay))(_:(ah,ay)∈S)(hc:¬ah=(h:Int)):aNE es S h x0 (seen.push e.born) lo hi:=by
 refine⟨hI.mid,fun e' he' hc' y hy=>?_,hI.los,hI.his⟩;rw[contains_push,bNZ]at hc';rcases hc' with hc'|hc'
 ·exact hI.all e' he' hc' y hy
 ·have:=JM hS (mem_left he).1 he' (bRL.1 hc');subst this;rw[hek]at hy;have:=aGE hy;simp only[bQS]at this;exact absurd this.1 hc
theorem aHS{l:List Int}{m:Int}(hm:m∈l)(h:∀x∈l,m≤x):tG l=m:=by
 cases l with
 |nil=>cases hm
 |cons a l=>
  have key:∀(l:List Int) (a:Int),(∀x∈l,l.foldl min a≤x)∧l.foldl min a≤a∧(l.foldl min a=a∨l.foldl min a∈l):=by
   intro l;induction l with
   |nil=>intro a;simp
   |cons b l ih=>
    intro a;obtain⟨h1,h2,h3⟩:=ih (min a b);rw[bNX];refine⟨fun x hx=>?_,Yd,?_⟩
    ·rcases LT.1 hx with rfl|hx
     ·omega
     ·exact h1 x hx
    ·rcases h3 with h3|h3
     ·rw[h3];rcases Int.le_total a b with h|h
      ·exact bNI (Int.min_eq_left h)
      ·exact bNC (by rw[Int.min_eq_right h];exact bMV)
     ·exact bNC (bMT _ h3)
  obtain⟨h1,h2,h3⟩:=key l a;show l.foldl min a=m;have h4:l.foldl min a≤m:=by
   rcases LT.1 hm with rfl|hm
   ·exact h2
   ·exact h1 m hm
  have h5:m≤l.foldl min a:=by
   rcases h3 with h3|h3
   ·rw[h3];exact h a bMV
   ·exact h _ (bMT _ h3)
  omega
theorem aLJ{l:List Int}{m:Int}(hm:m∈l)(h:∀x∈l,x≤m):rK l=m:=by
 cases l with
 |nil=>cases hm
 |cons a l=>
  have key:∀(l:List Int) (a:Int),(∀x∈l,x≤l.foldl max a)∧a≤l.foldl max a∧(l.foldl max a=a∨l.foldl max a∈l):=by
   intro l;induction l with
   |nil=>intro a;simp
   |cons b l ih=>
    intro a;obtain⟨h1,h2,h3⟩:=ih (max a b);rw[bNX];refine⟨fun x hx=>?_,Yd,?_⟩
    ·rcases LT.1 hx with rfl|hx
     ·omega
     ·exact h1 x hx
    ·rcases h3 with h3|h3
     ·rw[h3];rcases Int.le_total a b with h|h
      ·exact bNC (by rw[Int.max_eq_right h];exact bMV)
      ·exact bNI (Int.max_eq_left h)
     ·exact bNC (bMT _ h3)
  obtain⟨h1,h2,h3⟩:=key l a;show l.foldl max a=m;have h4:m≤l.foldl max a:=by
   rcases LT.1 hm with rfl|hm
   ·exact h2
   ·exact h1 m hm
  have h5:l.foldl max a≤m:=by
   rcases h3 with h3|h3
   ·rw[h3];exact h a bMV
   ·exact h _ (bMT _ h3)
  omega
theorem aNE.fin(hI:aNE es S h x0 seen lo hi)(hS:yB es cl S)(hsp:U1 (bK t) t.last S)(_:bK t≠[])(hh:(h:Int)≤t.last)(hz:(leftOf es seen).size=0):mH (lo,hi)=mH (B1 t h):=by
 have hall:∀y,((h:Int),y)∈S→lo≤y∧y≤hi:=fun y hy=>by
  obtain⟨e,he,hk⟩:=hS.ent hy;refine hI.all e he ?_ y hk;cases hc:seen.contains e.born with
  |true=>rfl
  |false=>
   have hm:e∈leftOf es seen:=by
    unfold leftOf;rw[Array.mem_filter];exact⟨Array.mem_toList_iff.1 he,by rw[hc];rfl⟩
   have:=Array.size_pos_of_mem hm;omega
 have hmem:∀y,y∈(bK t).map (bLR · h)→((h:Int),y)∈S:=fun y hy=>by
  obtain⟨s,hs,rfl⟩:=bMR.1 hy;exact(hsp _).2 ⟨s,hs,h,hh,rfl⟩
 have I:∀y,((h:Int),y)∈S→y∈(bK t).map (bLR · h):=fun y hy=>by
  obtain⟨s,hs,j,hj,he⟩:=(hsp _).1 hy;simp only[bQS]at he;have:j=h:=Yd
  subst this;exact bMR.2 ⟨s,hs,he.2.symm⟩
 unfold B1;rw[aHS (I _ hI.los) fun x hx=>(hall x (hmem x hx)).1,aLJ (I _ hI.his) fun x hx=>(hall x (hmem x hx)).2]
end
theorem TN(t:aX)(wb mb:Nat)(hv lv mv tsv:Γ)(es:Array MapEntry)(cl:Nat)(S:List (Int×Int))(h:Nat)(D:aC)(hts:Sl D JB 10 tsv (bK t))(htn:bK t≠[])(hto:KL t)(hS:yB es cl S)(hsp:U1 (bK t) t.last S)(hh:(h:Int)≤t.last):
  IF prog 355 [qP wb,qI (h:Int)] D [(wb,qC [qI t.last,hv,qI t.step,lv,mv,tsv,.map (some mb)] 316),(mb,.map es cl)] (fun _ v ν'=>v=mH (B1 t h)∧ν'=[(wb,qC [qI t.last,hv,qI t.step,lv,mv,tsv,.map (some mb)] 316),(mb,.map es cl)]):=by
 have hll:=hts.len;have hlast:=hto.last;obtain⟨O,I⟩:∃s,(bK t)[0]?= some s:=⟨(bK t)[0]'(bQE.2 htn),bMU _⟩
 have hE:=rL hto (n5 I);have hF:=hto.len;have hg0:(dG O)[(h:Int).toNat]?= some (O.getD h 0):=aBY Yd;have hH:=gM (l:=O) Yd;refine jH 42 func355 rfl rfl rfl rfl fun h0 hwl hwn=>aA<|Zah rfl kA rfl fun q1=>bO<|bN [] 7 19 196400<|Za rfl<|Zam rfl<|Zj rfl lZ rfl<|Zp rfl tS rfl Mm1 rfl<|Za rfl<|Zx rfl U314 jN rfl hts rfl I fun b1 o1 R U hJ V=>?_;obtain rfl:R=ints (dG _):=U;refine eT rfl U320 aH rfl rfl Yd Yd rfl bSM<|dU (o:=o1) (k:=(h:Int).toNat*1) rfl aI rfl V Yl (by rw[bPK];exact cO hg0) n4 rfl bSM<|Za rfl<|Zam rfl<|Zj rfl lZ rfl<|Zp rfl tS rfl Mm1 rfl<|Za rfl<|Zx rfl U314 jN rfl hts rfl I fun b2 o2 Y Z hK hB=>?_
 obtain rfl:Y=ints (dG _):=Z;refine eT rfl U320 aH rfl rfl Yd Yd rfl bSM<|dU (o:=o2) (k:=(h:Int).toNat*1) rfl aI rfl hB Yl (by rw[bPK];exact cO hg0) n4 rfl bSM<|Zu [qI (O.getD h 0),qI (O.getD h 0)] rfl X8 kA rfl<|Zah rfl kA rfl fun q2=>Zab rfl dQ ζ<|bC<|Za rfl<|Zam rfl<|Zj rfl KF rfl<|Zp rfl aFU rfl Mm2 rfl<|aOG (b:=mb) (es:=es) (clock:=cl) rfl U313 rfl Yf rfl bSM fun qr=>aF ?_;refine Za1<|Zc (Array Nat×Int×Int) (fun g=>(leftOf es g.1).size) (fun g=>aNE es S h (O.getD h 0) g.1 g.2.1 g.2.2) (fun g=>[(28,qP qr)]) [(5,_),(4,_),(1,_)] (fun g=>[(qr,.mapIter (some mb) cl g.1 cl),(q2,qC [qI g.2.1,qI g.2.2] 93),(q1,qC [qI 0,qI 0] 93)]++[(wb,qC [qI t.last,hv,qI t.step,lv,mv,tsv,.map (some mb)] 316),(mb,.map es cl)]) (fun g=>[D]) (#[],O.getD h 0,O.getD h 0) (aNE.start hsp (n5 I) hh) ⟨Ya,bSM⟩ Mm5 ?_;rintro⟨seen,lo,hi⟩ hI;simp only at hI;refine aA<|aYO (b:=mb) (r:=qr) (es:=es) (clock:=cl) (A:=[]) (B:=[(_,_),(_,_),(_,_),(_,_)]) rfl rfl Yf hS.lt (bNJ _) rfl bSM fun ok vs o' hv0 hno hyes=>KC rfl rfl hv0 rfl bSM<|bO<|Zaf rfl (fun hc1=>?_) fun hc1=>?_
 ·obtain⟨e,he,rfl⟩:=hyes hc1;obtain⟨⟨ah,ay⟩,haS,hek,hev⟩:=hS.key (mem_left he).1;refine aQ<|Za1<|aA<|aQH (b:=mb) (r:=qr) (es:=es) (clock:=cl) (e:=e) (since:=cl) (seen:=seen) rfl rfl Yf Yf (mem_left he).1 hS.nd rfl bSM ?_;rw[hek];refine Zap rfl<|Zah rfl aDR rfl (fun q3=>Zab rfl bEI ζ<|aJ<|Zj rfl aMX rfl<|Zp rfl aI rfl Mm0 rfl<|Za rfl<|Zas rfl<|aF<|Zae rfl (fun hc2=>?_) fun hc2=>?_)
  ·refine aO<|Zag rfl nR rfl Mm2 dQ<|Zj rfl aJX rfl<|Zp rfl aI rfl Mm0 rfl<|Zd rfl (fun D1 hN=>vD (lo,hi) ay _)<|Zab rfl dQ (.tail (.tail ζ))<|Zao<|Za4 ?_;exact aL 14 (seen.push e.born,min lo ay,max hi ay) (hI.yes hS he hek haS hc2) (left_shrinks _ _ _ he) ⟨rfl,bSM⟩ rfl rfl (List.Sublist.cons _ Mm5) (aK)
  ·refine bG<|Za4 ?_;exact aL 10 (seen.push e.born,lo,hi) (hI.no hS he hek haS hc2) (left_shrinks _ _ _ he) ⟨rfl,bSM⟩ rfl rfl (List.Sublist.cons _ Mm5) (aK)
 ·obtain⟨hz,rfl⟩:=hno hc1;have hfin:=hI.fin hS hsp htn hh hz;refine Za6<|Za2<|Za2<|Za7<|Zaz<|aA<|Zag rfl nR rfl Mm1 dQ<|Zab rfl dQ (.tail (.tail ζ))<|aG ?_;exact Zaj [(_,_),(_,_),(_,_)] [] [_,_] [_] rfl ⟨⟨_,_,_,rfl,List.Mem.tail _ Mm1,Or.inr ⟨nR,dQ,rfl⟩⟩,bSM⟩ rfl fun D hD=>⟨hfin,rfl⟩
theorem RW{wb mb t cl:Nat}{cs:List Γ}{es:Array MapEntry}:∀p∈[(wb,Obj.cells cs.toArray t (0,0)),(mb,.map es cl)],cU p.2:=by
 intro p hp;simp only[LT,n4,bOZ]at hp;rcases hp with rfl|rfl
 ·rfl
 ·trivial
def aAJ(l:List (Int×Int)):List Γ:=l.flatMap fun p=>[qI p.1,qI p.2]
theorem FF(l:List (Int×Int)):(aAJ l).length=l.length*2:=by
 induction l with
 |nil=>rfl
 |cons p l ih=>unfold aAJ at ih ⊢;rw[bNW,LE,ih,bMX];simp;omega
theorem EX(l m:List (Int×Int)):aAJ (l++m)=aAJ l++aAJ m:=bOC
theorem bCU{l:List (Int×Int)}{i:Nat}{p:Int×Int}(hi:l[i]?= some p):((aAJ l).drop (i*2)).take 2=[qI p.1,qI p.2]:=by
  induction l generalizing i with
  |nil=>simp at hi
  |cons d l ih=>
    have hc:aAJ (d::l)=[qI d.1,qI d.2]++aAJ l:=rfl;rw[hc];cases i with
    | zero => obtain rfl : d = p := by simpa using hi
              rfl
    |succ i=>
      rw[show(i+1)*2=([qI d.1,qI d.2]:List Γ).length+i*2 by simp;omega,bRK];exact ih Yau
theorem _root_.Go.Fs.kZ.rgs{D:aC}{v:Γ}{n:Nat}{l:List (Int×Int)}(hF:kZ D v n (aAJ l))(hn:l.length=n)(hb:n≤9223372036854775807):Sl D AV 2 v l:=
 hF.sl hn hb fun _i _t hi=>⟨_,rfl,rfl,bCU hi⟩
def PC(t:aX):List (Int×Int):=(List.range (t.last+1).toNat).map (B1 t)
theorem YZ{t:aX}{k:Nat}(h:(k:Int)=t.last+1):(List.range k).map (B1 t)=PC t:=by unfold PC;rw[show(t.last+1).toNat=k by omega]
theorem aOI(s:List Int):(dG s).take s.length=s:=by unfold dG;rw[bRZ]
def yA(s:List Int)(level:Int)(k:Nat):List Int:=((List.range k).filter fun j=>decide (level<s.getD j 0)).map fun j:Nat=>(j:Int)
theorem aFB(s:List Int)(level:Int)(k:Nat):(yA s level k).length≤k:=by
 unfold yA;rw[bOB];have:=bOJ (fun j=>decide (level<s.getD j 0)) (List.range k);rwa [bQW]at this
theorem bCT{s:List Int}{level x:Int}{k:Nat}(hx:s[k]?= some x)(h:level<x):yA s level (k+1)=yA s level k++[(k:Int)]:=by
 unfold yA;rw[bOG,bOE,bNG,bPP,bNK (by rw[bOP,hx];simpa using h)];rfl
theorem bHF{s:List Int}{level x:Int}{k:Nat}(hx:s[k]?= some x)(h:¬level<x):yA s level (k+1)=yA s level k:=by
 unfold yA;rw[bOG,bOE,bNG,bPP,bNA (by rw[bOP,hx];simpa using h)];simp
theorem DW(s:List Int)(level:Int):∃m:Nat,B3 s level=(m:Int)∧m≤s.length∧(∀j,j<m→s.getD j 0≤level)∧(m<s.length→level<s.getD m 0):=by
 refine⟨(s.takeWhile fun n=>decide (n≤level)).length,rfl,?_⟩;induction s with
 |nil=>exact⟨Yf,fun j h=>Xaf,fun h=>Xaf⟩
 |cons a s ih=>
  obtain⟨h1,h2,h3⟩:=ih;by_cases h:a≤level
  ·rw[List.takeWhile_cons,bNK Yaw,bMX,bMX];refine⟨Yd,fun j hj=>?_,fun hj=>?_⟩
   ·cases j with
    |zero=>simpa using h
    |succ j=>simpa using h2 j Yd
   ·simpa using h3 Yd
  ·rw[List.takeWhile_cons,bNA Yaw];exact⟨Yf,fun j hj=>by simp at hj,fun _=>Yaq⟩
theorem UM{s:List Int}{level:Int}{m:Nat}(h1:m<s.length)(h2:∀j,j<m→s.getD j 0≤level)(h3:level<s.getD m 0):(yA s level s.length)[0]?= some (m:Int):=by
 unfold yA;obtain⟨n,hn⟩:∃n,s.length=m+(n+1):=⟨s.length-m-1,Yd⟩
 rw[hn,List.range_add,bOE,List.filter_eq_nil_iff.2 fun j hj=>by have:=h2 j Xam;simpa using this,bOA,List.range_succ_eq_map,bNT,bPP,bNK (by simpa using h3)];simp
theorem aNW{s:List Int}{level:Int}(h:0<(yA s level s.length).length):(yA s level s.length)[(0:Int).toNat]?= some (B3 s level):=by
 obtain⟨m,hm,h1,h2,h3⟩:=DW s level;rw[hm];by_cases hlt:m<s.length
 ·exact UM hlt h2 (h3 hlt)
 ·exfalso
  obtain rfl:m=s.length:=Yd
  unfold yA at h;rw[List.filter_eq_nil_iff.2 (fun j hj=>by have:=h2 j Xam;simpa using this)]at h
  simp at h
theorem bCK{s:List Int}{level:Int}(h:¬0<(yA s level s.length).length):B3 s level=(s.length:Int):=by
 obtain⟨m,hm,h1,h2,h3⟩:=DW s level;by_cases hlt:m<s.length
 ·exfalso
  have:=UM hlt h2 (h3 hlt);have:=(bMW.1 this).1;omega
 ·rw[hm,show m=s.length by omega]
theorem zK(tv:Γ)(t:aX)(D:aC)(ht:gN D tv t):Fn prog 297 #[tv] D (fun D' v=>∃lv,v=.tuple #[lv,qI (oB t true)]∧Sl D' AV 2 lv (if oB t true=0 then PC t else [])):=by
 have ht0:=ht;obtain⟨hv,lv,mv,rfl,hh,hl,hm⟩:=ht;refine Zw 30 func297 rfl fun h0=>aA<|Zz rfl fun q1 E1 hN O=>Zf rfl<|Zf rfl<|aJ<|Zv rfl lF rfl O jS<|fX rfl rfl rfl (fun D2 Y=>xZ _ t true _ (ht0.up (Y _ Yf))) rfl bSM fun v2 D3 ν2 hO Z=>?_;obtain⟨wv,rfl,hwk⟩:=Z;refine Za rfl<|Zap rfl<|Zap rfl<|Zf rfl<|Zf rfl<|bC<|Za rfl<|Zax rfl<|aF<|Zae rfl (fun hc1=>?_) fun hc1=>?_
 ·refine Wau ?_;exact Zo [_,_] rfl cF fun D hD=>⟨_,rfl,by rw[bNA hc1];exact Sl.nil⟩
 ·have he0:oB t true=0:=Yd
  obtain⟨hto,htn,wb,mb,R,U,V,tsv,es,cl,S,rfl,rfl,htw,hts,hS,hsp⟩:=hwk he0;have hlast:=hto.last;refine aQ<|aA<|Zf rfl<|bC<|Zj rfl mX rfl<|Zh 0 rfl aI rfl O rfl<|Zad rfl<|Za rfl<|aF<|Za1<|Zc (Nat×Γ×aD) (fun g=>(t.last+1).toNat-g.1) (fun g=>(g.1:Int)≤t.last+1∧bI 93 2 g.2.1 g.1 (aAJ ((List.range g.1).map (B1 t))) g.2.2) (fun g=>[(19,qI (g.1:Int)),(6,g.2.1)]) [(18,_),(4,_),(3,_),(2,_)] (fun g=>g.2.2++[(wb,qC [qI t.last,R,qI t.step,U,V,tsv,.map (some mb)] 316),(mb,.map es cl)]) (fun g=>[D3,E1,D]) (0,qN,[]) ⟨Yaq,by simpa [aAJ]using bI.nil⟩ ⟨Ya,Ya,bSM⟩ Mm5 ?_
  rintro⟨k,v,ν⟩ ⟨h1,ha⟩;simp only at h1 ha;refine aA<|Zan rfl<|bO<|Zae rfl (fun hc2=>?_) fun hc2=>?_
  ·have hk:(k:Int)≤t.last:=by simp only at hc2;omega
   refine aQ<|Za3<|Za1<|aA<|Za rfl<|Zf rfl<|aF<|aO<|Za rfl<|Za rfl<|Za rfl<|FR (A:=ν) (ν:=[(_,_),(_,_)]) rfl rfl rfl rfl (bNI rfl) (RW (cs:=[_,_,_,_,_,_,_])) (fun D5 hB=>TN t wb mb R U V tsv es cl S k _ (hts.up JB.up (hB _ Yf)) htn hto hS hsp Yd) rfl bSM fun v5 D6 _ hP hp5=>?_;obtain⟨rfl,rfl⟩:=hp5;refine Zt rfl U29 dQ kA rfl (.cons rfl rfl .nil) fun hJ hK hE I=>aS (A:=[]) (B:=[(_,_),(_,_)]) rfl U29 rfl rfl dQ kA rfl aAV rfl rfl rfl ha (jY.lit I) Yf rfl (by rw[FF];simp) Yk Yd (bNI rfl) rfl bSM fun v1 ν1 hF=>?_
   have hH:bI 93 2 v1 (k+1) (aAJ ((List.range (k+1)).map (B1 t))) ν1:=by rw[bOG,bNG,EX];exact hF
   refine Wan ?_;exact aL 14 (k+1,v1,ν1) ⟨Yn,hH⟩ Yn ⟨Ya,rfl,bSM⟩ rfl rfl Mm5 fun D h=>⟨D,bNM _ (bNM _ (h)),Le.refl D⟩
  ·have hk:(k:Int)=t.last+1:=by simp only at hc2 h1;omega
   refine Za6<|Za2<|Za2<|Za7<|Zaz<|aA<|Za rfl<|Zf rfl<|Zf rfl<|aG<|dS (A:=[]) (B:=[(_,_),(_,_)]) ha rfl fun D8 hR hI=>?_;exact Zo [_,_] rfl cF fun D hD=>⟨_,by rw[he0];rfl,by rw[bNK he0];exact(YZ Yd▸hI.rgs Yf Yd).up AV.up (hD _ Yf)⟩
theorem bIQ(last step:Int)(hv lv mv:Γ)(s:List Int)(level:Int)(D:aC)(hs:(s.length:Int)=last+1)(R:s.length≤10):
  Fn prog 182 #[.agg #[qI last,hv,qI step,lv,mv],.agg (ints (dG s)).toArray,qI level] D (fun D' v=>Sl D' RI 1 v (yA s level s.length)):=by
 have O:=gM R;refine Zw 28 func182 rfl fun h0=>aA<|Zz rfl fun q1 E1 hJ U=>Zz rfl fun q2 E2 hK V=>Zf rfl<|bO<|Za3 ?_;have hsl:Sl E2 RI 1 (qS q2 s.length 10) s:=by have h:=aCI (l:=0) (h:=s.length) V O Yd Yd Yd;rw[bQQ,bQH,bQH]at h;rw[aOI]at h;exact h
 refine aO<|Zj rfl mX rfl<|Zh 0 rfl aI rfl U rfl<|Zad rfl<|aUZ (h:=s.length) rfl U320 aH rfl rfl Yd Yd rfl bSM<|lL rfl U25 rfl rfl rfl bSM<|Za rfl<|aF<|Za1<|Zc (Nat×Γ×aD) (fun g=>s.length-g.1) (fun g=>g.1≤s.length∧bI 3 1 g.2.1 (yA s level g.1).length (ints (yA s level g.1)) g.2.2) (fun g=>[(14,qI (g.1:Int)),(6,g.2.1)]) [(13,_),(12,_),(2,_)] (fun g=>g.2.2++[]) (fun g=>[E2,E1,D]) (0,qN,[]) ⟨Yf,by simpa [ints,yA]using bI.nil⟩ ⟨Ya,Ya,bSM⟩ Mm5 ?_;rintro⟨k,v,ν⟩ ⟨h1,ha⟩;simp only at h1 ha;refine aA<|Zan rfl<|bO<|Zae rfl (fun hc1=>?_) fun hc1=>?_
 ·have hk:k<s.length:=by simp only at hc1;omega
  obtain⟨x,hx⟩:=cT s k;have hwl:=aFB s level k;refine aQ<|Za3<|Za1<|aA<|Za rfl<|iW rfl hsl rfl hx fun b1 o1=>Zf rfl<|Zf rfl<|aJ<|Za rfl<|Za rfl<|Zaq rfl ?_;refine aF<|Zae rfl (fun hc2=>?_) fun hc2=>?_
  ·refine aO<|Za rfl<|Za rfl<|Zt rfl U25 aH cE rfl (.cons rfl rfl .nil) fun hH hI Y I=>?_;have Z:=Sl.ofInts (l:=[_]) (n:=1) (cap:=1) I rfl Yd Yd;refine aS (A:=[]) (B:=_) rfl U25 rfl rfl aH cE rfl kD rfl rfl rfl ha (jY.lit I) Yf rfl (by simp[ints]) Yk Yd (bNI rfl) rfl bSM fun v1 ν1 hB=>?_;have hE:bI 3 1 v1 (yA s level (k+1)).length (ints (yA s level (k+1))) ν1:=by rw[bCT hx hc2,LE,←eV];exact hB
   refine Wan ?_;exact aL 18 (k+1,v1,ν1) ⟨Yn,hE⟩ Yn ⟨Ya,rfl,bSM⟩ rfl rfl Mm5 fun D h=>⟨D,bNM _ (h),Le.refl D⟩
  ·refine Wbs ?_;exact aL 13 (k+1,v,ν) ⟨Yn,by rw[bHF hx hc2];exact ha⟩ Yn ⟨Ya,rfl,bSM⟩ rfl rfl Mm5 (aK)
 ·obtain rfl:k=s.length:=by simp only at hc1;omega
  have hwl:=aFB s level s.length;refine Za6<|Za2<|Za2<|Za7<|Zaz<|aA<|Za rfl<|Zf rfl<|aG<|dS (A:=[]) (B:=[]) ha rfl fun D8 hN hF=>?_;exact aE rfl fun D hD=>(hF.ints Yf Yd).up RI.up (hD _ Yf)
theorem aAA(t:aX)(wb mb:Nat)(hv lv mv tsv:Γ)(es:Array MapEntry)(cl:Nat)(s:List Int)(level y:Int)(D:aC)(hs:(s.length:Int)=t.last+1)(I:s.length≤10):
  IF prog 92 [qP wb,.agg (ints (dG s)).toArray,qI level,qI y] D [(wb,qC [qI t.last,hv,qI t.step,lv,mv,tsv,.map (some mb)] 316),(mb,.map es cl)] (fun _ v ν'=>v=qI (B3 s level)∧ν'=[(wb,qC [qI t.last,hv,qI t.step,lv,mv,tsv,.map (some mb)] 316),(mb,.map es cl)]):=by
 have Z:=gM I;refine jH 29 func92 rfl rfl rfl rfl fun h0 hwl hwn=>aA<|Zz rfl fun q1 E1 hB R=>Zf rfl<|bO<|Za3<|bN [] 4 8 48<|Za rfl<|Zam rfl<|Zj rfl LJ rfl<|eN (us:=[qI t.last,hv,qI t.step,lv,mv]) rfl lF jS rfl Mm0 Ybb rfl n4 rfl bSM<|cK rfl oQ rfl R Yc Yac n4 rfl bSM ?_;refine Za rfl<|Zy rfl (fun D1 U=>bIQ t.last t.step hv lv mv s level _ hs I) fun v1 D1 U O=>Zf rfl<|aJ<|Za rfl<|Zai rfl U25 rfl O rfl<|Zaq rfl<|aF<|Zae rfl (fun hc1=>?_) fun hc1=>?_
 ·have V:=aNW (s:=s) (level:=level) Yd;refine aA<|Za rfl<|iW rfl O rfl V fun b1 o1=>Wg ?_;exact Zaj [] [] [_,_] [_] rfl ⟨rfl,bSM⟩ rfl fun D hD=>⟨rfl,rfl⟩
 ·have Y:=bCK (s:=s) (level:=level) Yd;refine aQ<|aA<|Za rfl<|Zam rfl<|Zj rfl LJ rfl<|Zj rfl mX rfl<|Zp rfl aI rfl Mm0 rfl<|Zad rfl<|We ?_;exact Zaj [] [] [_,_] [_] rfl ⟨rfl,bSM⟩ rfl fun D hD=>⟨by show Value.int _ _=_;rw[Y,hs],rfl⟩
theorem bHY(t:aX)(wb mb:Nat)(hv lv mv tsv:Γ)(es:Array MapEntry)(cl:Nat)(s:List Int)(a b:Int)(D:aC)(hs:(s.length:Int)=t.last+1)(R:s.length≤10)(I:0≤a)(hab:a≤b)(hbl:b≤t.last):
  IF prog 137 [qP wb,.agg (ints (dG s)).toArray,qI a,qI b] D [(wb,qC [qI t.last,hv,qI t.step,lv,mv,tsv,.map (some mb)] 316),(mb,.map es cl)] (fun _ v ν'=>v=qI (jQ s a b)∧ν'=[(wb,qC [qI t.last,hv,qI t.step,lv,mv,tsv,.map (some mb)] 316),(mb,.map es cl)]):=by
 have O:=gM R;refine jH 13 func137 rfl rfl rfl rfl fun h0 hwl hwn=>aA<|Zz rfl fun q1 E1 V U=>Zf rfl<|aJ<|cK rfl oQ rfl U Yc Yac n4 rfl bSM<|Za rfl<|Za rfl<|Zd rfl (fun Z Y=>FY (dG s) a b _ O I hab Yd)<|We ?_;exact Zaj [] [] [_,_] [_] rfl ⟨rfl,bSM⟩ rfl fun D hD=>⟨by show Value.int _ _=_;rw[I0 I hab Yd],rfl⟩
def aAT(F:List Int→Int)(n:Int)(l:List (List Int)):Int×Int:=l.foldl (fun p s=>(min p.1 (F s),max p.2 (F s))) (n,n)
theorem aWC{t:aX}{F:List Int→Int}{n:Int}{k:Nat}{u:List Int}(hx:(bK t)[k]?= some u):aAT F n ((bK t).take (k+1))=(min (aAT F n ((bK t).take k)).1 (F u),max (aAT F n ((bK t).take k)).2 (F u)):=by
 unfold aAT;rw[bMZ,hx,bOR];rfl
theorem WK(F:List Int→Int):∀(l:List (List Int)) (p:Int×Int),l.foldl (fun p s=>(min p.1 (F s),max p.2 (F s))) p=((l.map F).foldl min p.1,(l.map F).foldl max p.2)
 | [],_=>rfl
 |s::l,p=>by rw[bNX,WK F l];rfl
theorem bBW{t:aX}{F:List Int→Int}{O:List Int}{lo hi:Int}(I:(bK t)[0]?= some O)(h:(lo,hi)=aAT F (F O) (bK t)):mH (lo,hi)=mH (tG ((bK t).map F),rK ((bK t).map F)):=by
 rw[h];cases ht:bK t with
 |nil=>rw[ht]at I;simp at I
 |cons a l=>
  rw[ht]at I;obtain rfl:a=O:=by simpa using I
  unfold aAT;rw[WK,bNT,bNX,bNX,Int.min_self,Int.max_self];rfl
theorem p4{t:aX}{fine:Bool}(h:oB t fine=0):fine=true:=by
 unfold oB at h;split at h
 ·rename_i hf;exact absurd h hf
 ·split at h
  ·omega
  ·rename_i hf;simpa using hf
theorem ZI{last a b:Int}(h:tA last a b=true):0≤a∧a≤b∧b≤last:=by
 unfold tA DN at h;simp only[bMS,GT,bS]at h;omega
theorem IA(t:aX)(wb mb:Nat)(hv lv mv tsv:Γ)(es:Array MapEntry)(cl:Nat)(F:List Int→Int)(fid:Nat)(x y:Int)(D:aC)(hts:Sl D JB 10 tsv (bK t))(htn:bK t≠[])(hto:KL t)
  (hf:∀s∈bK t,∀D',Le D D'→IF prog fid [qP wb,.agg (ints (dG s)).toArray,qI x,qI y] D' [(wb,qC [qI t.last,hv,qI t.step,lv,mv,tsv,.map (some mb)] 316),(mb,.map es cl)] fun _ v ν'=>v=qI (F s)∧ν'=[(wb,qC [qI t.last,hv,qI t.step,lv,mv,tsv,.map (some mb)] 316),(mb,.map es cl)]):
  IF prog 93 [.agg #[.func (.func fid) #[] #[]],qP wb,qI x,qI y] D [(wb,qC [qI t.last,hv,qI t.step,lv,mv,tsv,.map (some mb)] 316),(mb,.map es cl)] (fun _ v ν'=>v=mH (tG ((bK t).map F),rK ((bK t).map F))∧ν'=[(wb,qC [qI t.last,hv,qI t.step,lv,mv,tsv,.map (some mb)] 316),(mb,.map es cl)]):=by
 have hll:=hts.len;have hlast:=hto.last;have hN:=hto.len;obtain⟨I,O⟩:∃s,(bK t)[0]?= some s:=⟨(bK t)[0]'(bQE.2 htn),bMU _⟩
 have hs0m:=n5 O;have hO:=rL hto hs0m;have U:=gM (l:=I) Yd;refine jH 48 func93 rfl rfl rfl rfl fun h0 hwl hwn=>aA<|Zz rfl fun q1 E1 hX R=>Zah rfl kA rfl fun q2=>bO<|bN [] 6 13 2044<|Zj rfl MV rfl<|Zh 0 rfl aEW rfl R rfl<|Za rfl<|Za rfl<|Zam rfl<|Zj rfl lZ rfl ?_;refine Zp rfl tS rfl Mm1 rfl<|Zx rfl U314 jN rfl hts rfl O fun b1 o1 V Y hP Z=>?_;obtain rfl:V=ints (dG _):=Y;refine cK rfl oQ rfl Z Yc Xcr n4 rfl bSM<|Za rfl<|Za rfl<|FR (A:=[(_,_)]) (ν:=[(_,_),(_,_)]) rfl rfl rfl rfl Ybe (RW (cs:=[_,_,_,_,_,_,_])) (fun D5 hB=>hf I hs0m _ (hB _ Yf)) rfl bSM fun v5 D6 _ hY hp5=>?_
 obtain⟨rfl,rfl⟩:=hp5;refine Zf rfl<|aJ<|Za rfl<|Za rfl<|Zu [qI (F I),qI (F I)] rfl X8 kA rfl<|Zah rfl kA rfl fun q3=>Zab rfl dQ ζ<|bC<|Za rfl<|Zam rfl<|Zj rfl lZ rfl<|Zp rfl tS rfl Mm2 rfl ?_;refine Zai rfl U314 rfl hts rfl<|Za rfl<|aF<|Za1<|Zc (Nat×Int×Int) (fun g=>(bK t).length-g.1) (fun g=>g.1≤(bK t).length∧g.2=aAT F (F I) ((bK t).take g.1)) (fun g=>[(33,qI (g.1:Int))]) [(32,_),(31,_),(10,_),(8,_),(4,_),(1,_),(2,_),(3,_)] (fun g=>[(q3,qC [qI g.2.1,qI g.2.2] 93),(q2,qC [qI 0,qI 0] 93)]++[(wb,qC [qI t.last,hv,qI t.step,lv,mv,tsv,.map (some mb)] 316),(mb,.map es cl)]) (fun g=>[D6,E1,D]) (0,F I,F I) ⟨Yf,rfl⟩ ⟨Ya,bSM⟩ Mm5 ?_;rintro⟨k,lo,hi⟩ ⟨h1,hI⟩;simp only at h1 hI;refine aA<|Zan rfl<|bO<|Zae rfl (fun hc1=>?_) fun hc1=>?_
 ·have hk:k<(bK t).length:=by simp only at hc1;omega
  obtain⟨u,hx⟩:=cT (bK t) k;have hum:=n5 hx;have hul:=rL hto hum;have hR:=gM (l:=u) Yd;refine aQ<|Za3<|Za1<|aA<|Zx rfl U314 jN rfl hts rfl hx fun b2 o2 hE hF hS hH=>?_;obtain rfl:hE=ints (dG _):=hF;refine cK rfl oQ rfl hH Yc Xcr n4 rfl bSM<|Zah rfl j7 rfl fun q4=>eF rfl rfl rfl rfl jN Yar Yb ζ Yh bSM<|aF<|fN R Yf fun hq1k=>?_
  have rA:q1∉[wb,mb]:=fun h=>hq1k (bMT _ (bMT _ (bMT _ h)))
  refine pF fun hnd=>?_;simp only[bNT,bRF,bOT,LT,n4,bOZ,bSF,bPF,bOA]at hnd;have rB:q3∉[wb,mb]:=by simp only[LT,n4,bOZ,bSF];exact⟨hnd.2.1.2.1,hnd.2.1.2.2⟩
  have hq4:q4∉[wb,mb]:=by simp only[LT,n4,bOZ,bSF];exact⟨hnd.1.2.2.1,hnd.1.2.2.2⟩
  refine iZ [wb,mb] 3 [0,1,2,3,4,5,6,7,8,9] [false,true,true,true,true,true,true,true,false,false] [(false,0),(true,1),(true,2),(true,3),(true,4),(true,5),(true,6),(true,7),(false,8),(false,9)] bB (fun _ _ _ h=>jW (P:=prog) (fn:=f93) _ _ _ h) Yg rfl<|bL rfl nR rfl Mm1 dQ Yl rfl bSM<|Zj rfl MV rfl<|dU rfl (k:=0) aEW rfl R Yc rfl Yl rfl bSM<|Za rfl<|bL rfl oQ rfl Mm0 Xcr Yl rfl bSM<|Za rfl<|Za rfl<|FR (A:=[(_,_),(_,_),(_,_)]) (ν:=[(_,_),(_,_)]) rfl rfl rfl rfl Ybe (RW (cs:=[_,_,_,_,_,_,_])) (fun D7 hJ=>hf u hum _ (hJ _ Yf)) rfl bSM fun v7 D8 _ hD8 hK=>?_;obtain⟨rfl,rfl⟩:=hK;refine Zd rfl (fun D1 hD1=>vD (lo,hi) (F u) _)<|Zab rfl dQ (.tail ζ)<|Zao<|Wb ?_;exact aL 16 (k+1,min lo (F u),max hi (F u)) ⟨Yn,by rw[aWC hx,←hI]⟩ Yn ⟨Ya,bSM⟩ rfl rfl (List.Sublist.cons _ Mm5) fun D h=>⟨D,bNM _ (h),Le.refl D⟩
 ·obtain rfl:k=(bK t).length:=by simp only at hc1;omega
  rw[bNR]at hI;have hfin:=bBW O hI;refine Za6<|Za2<|Za2<|Za7<|Zaz<|aA<|Zag rfl nR rfl Mm0 dQ<|Zab rfl dQ (.tail ζ)<|aG ?_;exact Zaj [(_,_),(_,_)] [] [_,_] [_] rfl ⟨⟨_,_,_,rfl,List.Mem.tail _ Mm0,Or.inr ⟨nR,dQ,rfl⟩⟩,bSM⟩ rfl fun D hD=>⟨hfin,rfl⟩
theorem aVR(tv:Γ)(t:aX)(row:Int)(D:aC)(ht:gN D tv t):Fn prog 29 #[tv,qI row] D (fun _ v=>v=.tuple #[mH (if oB t (hC row 0 ((t.levels.length:Int)-1))=0 then aQY t (t.levels.getD row.toNat 0)else(0,0)),qI (oB t (hC row 0 ((t.levels.length:Int)-1)))]):=by
 have ht0:=ht;obtain⟨hv,lv,mv,rfl,hh,hl,hm⟩:=ht;refine Zw 28 func29 rfl fun h0=>aA<|Zz rfl fun q1 E1 hF I=>Zah rfl kA rfl fun q2=>Zf rfl<|bO<|bN [] 4 10 398<|Zv rfl lF rfl I jS<|Zv rfl lF rfl I jS<|Za rfl<|Zd rfl (fun D1 V=>bJB _ t row _ (ht0.up (V _ Yf)))<|fX rfl rfl rfl (fun D3 Y=>xZ _ t (hC row 0 ((t.levels.length:Int)-1)) _ (ht0.up (Y _ Yf))) rfl bSM fun v3 D4 ν3 hH Z=>?_;obtain⟨wv,rfl,hwk⟩:=Z;refine Za rfl<|Zap rfl<|Zap rfl<|Zf rfl<|Zf rfl<|bC<|Za rfl<|Zax rfl<|aF<|Zae rfl (fun hc1=>?_) fun hc1=>?_
 ·refine aA<|Zu [qI 0,qI 0] rfl X8 kA rfl<|Za rfl<|Zab rfl dQ (.app ζ)<|Wg ?_;exact Zo [_,_] rfl ⟨⟨_,_,_,rfl,(GE _ Mm0),Or.inr ⟨nR,Xco,rfl⟩⟩,rfl,bSM⟩ fun D hD=>Xcs
 ·have he0:oB t (hC row 0 ((t.levels.length:Int)-1))=0:=Yd
  obtain⟨hto,htn,wb,mb,O,R,U,tsv,es,cl,S,rfl,rfl,htw,hts,hS,hsp⟩:=hwk he0;have hrow:=p4 he0;rw[bS]at hrow;have hlev:t.levels[row.toNat]?= some (t.levels.getD row.toNat 0):=by rw[bOP,bMU Yd];rfl
  refine aQ<|aA<|Zu [.func (.func 92) #[] #[]] rfl aCJ aDL rfl<|Za rfl<|Zj rfl lT rfl<|Zh 3 rfl cD rfl I rfl<|Za rfl<|iW rfl hl rfl hlev (fun b1 o1=>gF (A:=[]) (ν:=[(_,_),(_,_)]) (B:=[(_,_)]) rfl rfl rfl rfl Ybe (RW (cs:=[_,_,_,_,_,_,_])) (fun D7 hB=>IA t wb mb O R U tsv es cl (B3 · (t.levels.getD row.toNat 0)) _ _ _ _ (hts.up JB.up (hB _ Yf)) htn hto fun s hsm D' hD'=>aAA t wb mb O R U tsv es cl s _ _ D' (by have:=rL hto hsm;have:=hto.len;omega) (by have:=rL hto hsm;have:=hto.len10;omega)) rfl bSM fun v7 D8 _ hI hE=>?_);obtain⟨rfl,rfl⟩:=hE;refine Zab rfl dQ (.tail (.tail ζ))<|We ?_;exact Zo [_,_] rfl ⟨⟨_,_,_,rfl,Mm2,Or.inr ⟨nR,Xco,rfl⟩⟩,rfl,bSM⟩ fun D hD=>Xby
theorem bGV(tv:Γ)(t:aX)(a b:Int)(D:aC)(ht:gN D tv t):Fn prog 68 #[tv,qI a,qI b] D (fun _ v=>v=.tuple #[qI (if oB t (tA t.last a b)=0 then bKN t a b else 0),qI (oB t (tA t.last a b))]):=by
 have ht0:=ht;obtain⟨hv,lv,mv,rfl,hh,hl,hm⟩:=ht;refine Zw 28 func68 rfl fun h0=>aA<|Zz rfl fun q1 E1 hF I=>Zf rfl<|Zf rfl<|bO<|bN [] 4 11 798<|Zv rfl lF rfl I jS<|Zv rfl lF rfl I jS<|Za rfl<|Za rfl<|Zd rfl (fun D1 V=>SK _ t a b _ (ht0.up (V _ Yf))) ?_;refine fX rfl rfl rfl (fun D3 Y=>xZ _ t (tA t.last a b) _ (ht0.up (Y _ Yf))) rfl bSM fun v3 D4 ν3 hH Z=>?_;obtain⟨wv,rfl,hwk⟩:=Z;refine Za rfl<|Zap rfl<|Zap rfl<|Zf rfl<|Zf rfl<|bC<|Za rfl<|Zax rfl<|aF<|Zae rfl (fun hc1=>?_) fun hc1=>?_
 ·refine Wau ?_;exact Zo [_,_] rfl cF fun D hD=>by show Value.tuple _=_;rw[bNA hc1]
 ·have he0:oB t (tA t.last a b)=0:=Yd
  obtain⟨hto,htn,wb,mb,O,R,U,tsv,es,cl,S,rfl,rfl,htw,hts,hS,hsp⟩:=hwk he0;have hrow:=ZI (p4 he0);refine aQ<|aA<|Zu [.func (.func 137) #[] #[]] rfl aCJ aDL rfl<|Za rfl<|Za rfl<|Za rfl<|gF (A:=[]) (ν:=[(_,_),(_,_)]) (B:=[]) rfl rfl rfl rfl Ybe (RW (cs:=[_,_,_,_,_,_,_])) (fun D7 hB=>IA t wb mb O R U tsv es cl (jQ · a b) _ _ _ _ (hts.up JB.up (hB _ Yf)) htn hto fun s hsm D' hD'=>bHY t wb mb O R U tsv es cl s _ _ D' (by have:=rL hto hsm;have:=hto.len;omega) (by have:=rL hto hsm;have:=hto.len10;omega) hrow.1 hrow.2.1 hrow.2.2) rfl bSM fun v7 D8 _ hI hE=>?_
  obtain⟨rfl,rfl⟩:=hE;refine aYX rfl U93 rfl aI rfl rfl rfl bSM<|Wcd ?_;exact Zo [_,_] rfl cF fun D hD=>Xby
end L2
open Go.Proofs
namespace L3
open L1
open C1
end L3
namespace L3
open L1
open C3
def aBK(lo:Int)(k:Nat):List Int:=(List.range k).map fun i:Nat=>lo+(i:Int)
theorem aUM{s n lo hi:Int}(h:s≠n):gC s n lo hi=[s]:=by unfold gC;rw[bNK h]
theorem aNY{s n lo hi:Int}(h:¬s≠n):gC s n lo hi=aBK lo (hi+1-lo).toNat:=by unfold gC;rw[bNA h];rfl
theorem lM(n lo hi:Int)(D:aC):Fn prog 117 #[qI n,qI lo,qI hi] D (fun _ v=>v=.bool (C1.hC n lo hi)):=by
 refine Zw 15 func117 rfl fun h0=>Wad ?_;refine' bX 4 (s:=10) (p:=14) rfl (fun I=>?_) (fun I=>?_) ?_;rotate_left
 ·refine Wbh ?_;exact aN 3
 ·refine Wc ?_;exact aN 3
 refine We ?_;exact aE rfl fun D hD=>rfl
theorem H6(sv:Γ)(x:Int)(xs:List Int)(D:aC)(hS:Sl D RI 1 sv (x::xs)):
  Fn prog 223 #[sv] D (fun _ v=>v=qI (xs.foldl min x)):=by
 refine Zw 5 func223 rfl fun h0=>Wav ?_;exact aE rfl fun D hD=>rfl
theorem bEV(r:Int×Int)(n:Int)(D:aC):Fn prog 358 #[mH r,qI n] D (fun _ v=>v=.bool (C1.hC n r.1 r.2)):=by
 refine Zw 11 func358 rfl fun h0=>aA<|Zz rfl fun q1 E1 O I=>Zf rfl<|aJ<|Za rfl<|Zj rfl yX rfl<|Zh 0 rfl aI rfl I rfl<|Zj rfl xX rfl<|Zh 1 rfl aI rfl I rfl<|Zd rfl (fun U R=>lM _ _ _ _)<|Zf rfl ?_;refine aG ?_;exact aE rfl fun D hD=>rfl
theorem LL(r:Int×Int)(n:Int)(D:aC):Fn prog 201 #[mH r,qI n] D (fun _ v=>v=mH (min r.1 n,max r.2 n)):=by
 refine Zw 15 func201 rfl fun h0=>aA<|Zz rfl fun q1 E1 hB R=>Zah rfl pC rfl fun q2=>bO<|iZ [] 4 [0,1,2,5,6,7,8,3,4,9,10] [false,false,true,true,true,true,true,true,true,false,false] [(false,0),(false,1),(true,2),(true,5),(true,6),(true,7),(true,8),(true,3),(true,4),(false,9),(false,10)] bB (fun _ _ _ h=>fW (P:=prog) (fn:=f201) _ _ _ h) Yg rfl<|Zj rfl yX rfl<|Zh 0 rfl aI rfl R rfl<|Za rfl<|Zj rfl xX rfl<|Zh 1 rfl aI rfl R rfl<|Za rfl ?_;refine qW rfl rfl rfl rfl bSM<|Zt rfl U25 aH cE rfl (.cons rfl rfl (.cons rfl rfl .nil)) fun Y Z U I=>?_;have O:=Sl.ofInts (l:=[_,_]) (n:=2) (cap:=2) I rfl Yd Yd;refine Zd rfl (fun D1 V=>H6 _ r.1 [n] _ (O.up RI.up (V _ Yf)))<|Zu [qI (min r.1 n),qI (max r.2 n)] rfl AK pC rfl<|Zab rfl eQ ζ<|aG ?_;exact Zo [_] rfl ⟨⟨_,_,_,rfl,Mm0,Or.inr ⟨pH,Xbk,rfl⟩⟩,bSM⟩ fun D hD=>rfl
theorem IZ(sv fv:Γ)(xs:List eS)(p:eS→Bool)(D:aC)(hS:Sl D tZ 3 sv xs)(hp:cX prog D GL fv p):
  Fn prog 366 #[sv,fv] D (fun _ v=>v=qI (idxOf p xs)):=by
 have hl:=hS.len;obtain⟨f,c1,c2,rfl,hf⟩:=hp;refine Zw 19 func366 rfl fun h0=>aA<|Zf rfl<|bC<|Za rfl<|eE rfl U33 rfl Ym rfl rfl bSM<|Wd ?_;rintro k ⟨h1,h2⟩;refine aA<|Zan rfl<|bO<|Zae rfl (fun hc1=>?_) fun hc1=>?_
 ·have hk:k<xs.length:=Yd
  obtain⟨x,hx⟩:=cT xs k;refine aQ<|Za3<|Za1<|aA<|Za rfl<|Zf rfl<|aJ<|Za rfl<|Za rfl<|Za rfl<|dW rfl U33 cG rfl Ym rfl Yd Ym rfl bSM fun Y Z I O V R=>?_;obtain rfl:I=[qI _,qI _,qI _]:=O;refine Zv rfl nN rfl R cG<|Zd rfl (fun D1 U=>hf x _ (U _ Yf))<|aF<|Zaf rfl (fun hc2=>?_) fun hc2=>?_
  ·refine Wbf ?_;exact aE rfl fun D hD=>Xat
  ·refine Wbs ?_;have hpx:p x=false:=hc2;have h3:(xs.take (k+1)).any p=false:=by rw[bMZ,hx,bQK,h2];simp[hpx]
   exact aL 12 (k+1) ⟨Yd,h3⟩ Yd ⟨Ya,bSM⟩ rfl rfl Mm5 (aK)
 ·refine Wl ?_;exact aE rfl fun D hD=>Xan
theorem AB(sv fv:Γ)(xs:List eS)(p:eS→Bool)(D:aC)(hS:Sl D tZ 3 sv xs)(hp:cX prog D GL fv p):
  Fn prog 315 #[sv,fv] D (fun _ v=>v=.bool (xs.any p)):=by
 refine Zw 9 func315 rfl fun h0=>aA<|Zf rfl<|aJ<|Za rfl<|Za rfl<|Zd rfl (fun O I=>IZ _ _ xs p _ (Sl.at tZ.up I Ym Yf) (hp.up (I _ Yf)))<|Waa ?_;exact aE rfl fun D hD=>Xao
theorem aQR(b:Nat)(fv:Γ)(p:eS→Bool)(x:eS)(D:aC)(hp:cX prog D GL fv p)(hB:At D b 0 [fv]):
  Fn prog 316 #[GL x,qP b] D (fun _ v=>v=.bool (!p x)):=by
 obtain⟨f,c1,c2,rfl,hf⟩:=hp;refine Zw 8 func316 rfl fun h0=>aA<|Zz rfl fun q1 E1 R I=>Zf rfl<|aJ<|Zh 0 rfl aXJ rfl hB rfl<|Zv rfl nN rfl I cG<|Wz ?_;exact aE rfl fun D hD=>rfl
theorem bCQ(sv fv:Γ)(xs:List eS)(p:eS→Bool)(D:aC)(hS:Sl D tZ 3 sv xs)(hp:cX prog D GL fv p)(h1:fv.cells=#[fv]):
  Fn prog 221 #[sv,fv] D (fun _ v=>v=.bool (xs.all p)):=by
 refine Zw 9 func221 rfl fun h0=>aA<|tD (vs:=[fv]) rfl rfl h1 rfl bSM fun b O I hB=>Zf rfl<|aJ<|Za rfl<|Zay rfl<|Zd rfl (fun O I=>AB _ _ xs (fun x=> !p x) _ (Sl.at tZ.up I Ym Yf) ⟨_,[],[qP b],rfl,fun x R hl=>aQR b fv p x R (hp.up ((I _ Yf).trans hl)) (hB.up ((I _ Yf).trans hl))⟩)<|Zat rfl<|We ?_;exact aE rfl fun D hD=>Xau
theorem IT(sv fv:Γ)(xs:List Cn)(p:Cn→Bool)(D:aC)(hS:Sl D vK 3 sv xs)(hp:cX prog D bHB fv p):
  Fn prog 367 #[sv,fv] D (fun _ v=>v=qI (idxOf p xs)):=by
 have hl:=hS.len;obtain⟨f,c1,c2,rfl,hf⟩:=hp;refine Zw 19 func367 rfl fun h0=>aA<|Zf rfl<|bC<|Za rfl<|eE rfl U34 rfl Ym rfl rfl bSM<|Wd ?_;rintro k ⟨h1,h2⟩;refine aA<|Zan rfl<|bO<|Zae rfl (fun hc1=>?_) fun hc1=>?_
 ·have hk:k<xs.length:=Yd
  obtain⟨x,hx⟩:=cT xs k;refine aQ<|Za3<|Za1<|aA<|Za rfl<|Zf rfl<|aJ<|Za rfl<|Za rfl<|Za rfl<|dW rfl U34 xC rfl Ym rfl Yd Ym rfl bSM fun Y Z I O V R=>?_;obtain rfl:I=[qI _,qI _,qI _]:=O;refine Zv rfl RG rfl R xC<|Zd rfl (fun D1 U=>hf x _ (U _ Yf))<|aF<|Zaf rfl (fun hc2=>?_) fun hc2=>?_
  ·refine Wbf ?_;exact aE rfl fun D hD=>Xat
  ·refine Wbs ?_;have hpx:p x=false:=hc2;have h3:(xs.take (k+1)).any p=false:=by rw[bMZ,hx,bQK,h2];simp[hpx]
   exact aL 12 (k+1) ⟨Yd,h3⟩ Yd ⟨Ya,bSM⟩ rfl rfl Mm5 (aK)
 ·refine Wl ?_;exact aE rfl fun D hD=>Xan
theorem y8(sv fv:Γ)(xs:List Cn)(p:Cn→Bool)(D:aC)(hS:Sl D vK 3 sv xs)(hp:cX prog D bHB fv p):
  Fn prog 317 #[sv,fv] D (fun _ v=>v=.bool (xs.any p)):=by
 refine Zw 9 func317 rfl fun h0=>aA<|Zf rfl<|aJ<|Za rfl<|Za rfl<|Zd rfl (fun O I=>IT _ _ xs p _ (Sl.at vK.up I Ym Yf) (hp.up (I _ Yf)))<|Waa ?_;exact aE rfl fun D hD=>Xao
theorem aSI(b:Nat)(fv:Γ)(p:Cn→Bool)(x:Cn)(D:aC)(hp:cX prog D bHB fv p)(hB:At D b 0 [fv]):
  Fn prog 318 #[bHB x,qP b] D (fun _ v=>v=.bool (!p x)):=by
 obtain⟨f,c1,c2,rfl,hf⟩:=hp;refine Zw 8 func318 rfl fun h0=>aA<|Zz rfl fun q1 E1 R I=>Zf rfl<|aJ<|Zh 0 rfl aZC rfl hB rfl<|Zv rfl RG rfl I xC<|Wz ?_;exact aE rfl fun D hD=>rfl
theorem aGF(sv fv:Γ)(xs:List Cn)(p:Cn→Bool)(D:aC)(hS:Sl D vK 3 sv xs)(hp:cX prog D bHB fv p)(h1:fv.cells=#[fv]):
  Fn prog 222 #[sv,fv] D (fun _ v=>v=.bool (xs.all p)):=by
 refine Zw 9 func222 rfl fun h0=>aA<|tD (vs:=[fv]) rfl rfl h1 rfl bSM fun b O I hB=>Zf rfl<|aJ<|Za rfl<|Zay rfl<|Zd rfl (fun O I=>y8 _ _ xs (fun x=> !p x) _ (Sl.at vK.up I Ym Yf) ⟨_,[],[qP b],rfl,fun x R hl=>aSI b fv p x R (hp.up ((I _ Yf).trans hl)) (hB.up ((I _ Yf).trans hl))⟩)<|Zat rfl<|We ?_;exact aE rfl fun D hD=>Xau
theorem aOD(bv:Γ)(b:bH)(l:eS)(D:aC)(hb:iM D bv b)(hn:0≤b.chairs∧b.chairs≤100):Fn prog 219 #[bv,GL l] D (fun _ v=>v=.bool (xH b.chairs l)):=by
 obtain⟨lv,cv,rfl,hl,hc⟩:=hb;refine Zw 24 func219 rfl fun h0=>aA<|Zz rfl fun q1 E1 V O=>Zz rfl fun q2 E2 Y I=>Zf rfl<|aJ<|Zj rfl x5 rfl<|Zh 0 rfl aI rfl I rfl<|Zd rfl (fun D1 Z=>lM _ _ _ _)<|Za rfl ?_;refine' bX 7 (s:=8) (p:=15) rfl (fun R=>?_) (fun R=>?_) ?_;rotate_left
 ·refine Zk rfl rQ rfl<|Zi 1 rfl aI rfl I rfl<|Zk rfl wC rfl<|Zi 0 rfl aI rfl O rfl<|yP rfl rfl rfl Ye rfl ⟨_,rfl,rfl⟩<|Ze rfl (fun D2 hB=>lM _ _ _ _)<|Zak rfl ?_;exact aN 6
 ·refine Wbd ?_;exact aN 6
 refine Za rfl ?_;refine' bX 7 (s:=16) (p:=23) rfl (fun U=>?_) (fun U=>?_) ?_;rotate_left
 ·refine Zk rfl nO rfl<|Zi 2 rfl aI rfl I rfl<|Zk rfl wC rfl<|Zi 0 rfl aI rfl O rfl<|yP rfl rfl rfl Ye rfl ⟨_,rfl,rfl⟩<|Ze rfl (fun D3 hE=>lM _ _ _ _)<|Zak rfl ?_;exact aN 6
 ·refine Wbd ?_;exact aN 6
 refine We ?_;exact aE rfl fun D hD=>rfl
theorem aJZ(bv:Γ)(b:bH)(c:Cn)(D:aC)(hb:iM D bv b):Fn prog 220 #[bv,bHB c] D (fun _ v=>v=.bool (sU b.lines.length c)):=by
 obtain⟨lv,cv,rfl,hl,hc⟩:=hb;refine Zw 31 func220 rfl fun h0=>aA<|Zz rfl fun q1 E1 Y O=>Zz rfl fun q2 E2 Z I=>Zf rfl<|aJ<|Zj rfl y2 rfl<|dX rfl (k:=1) pH eQ rfl I Yc rfl rfl n4 rfl bSM<|Zah rfl pC rfl fun q3=>Zab rfl eQ ζ<|aJ<|Zj rfl Q0 rfl ?_;refine Zh 0 rfl aI rfl I rfl<|Zj rfl dM rfl<|Zh 3 rfl iB rfl O rfl<|Zai rfl U33 rfl hl rfl<|Zd rfl (fun D1 hB=>lM _ _ _ _)<|Za rfl ?_;refine' bX 4 (s:=14) (p:=18) rfl (fun R=>?_) (fun R=>?_) ?_;rotate_left
 ·refine Zk rfl yX rfl<|Zq rfl aI rfl Mm0 rfl<|Wj ?_;exact aN 3
 ·refine Wc ?_;exact aN 3
 refine Za rfl ?_;refine' bX 6 (s:=19) (p:=25) rfl (fun U=>?_) (fun U=>?_) ?_;rotate_left
 ·refine Zk rfl yX rfl<|Zq rfl aI rfl Mm0 rfl<|Zk rfl xX rfl<|Zq rfl aI rfl Mm0 rfl<|Wj ?_;exact aN 5
 ·refine Wo ?_;exact aN 5
 refine Za rfl ?_;refine' bX 4 (s:=26) (p:=30) rfl (fun V=>?_) (fun V=>?_) ?_;rotate_left
 ·refine Zk rfl xX rfl<|Zq rfl aI rfl Mm0 rfl<|Wj ?_;exact aN 3
 ·refine Wc ?_;exact aN 3
 refine We ?_;exact aE rfl fun D hD=>rfl
theorem OI(s n lo hi:Int)(D:aC)(h1: -10≤lo∧lo≤10)(h2: -10≤hi∧hi≤100):Fn prog 319 #[qI s,qI n,qI lo,qI hi] D (fun D' v=>Sl D' RI 1 v (gC s n lo hi)):=by
 refine Zw 26 func319 rfl fun h0=>aA<|Zf rfl<|bC<|Za rfl<|Za rfl<|Zax rfl<|aF<|Zae rfl (fun hc1=>?_) fun hc1=>?_
 ·refine aA<|Za rfl<|Zt rfl U25 aH cE rfl (.cons rfl rfl .nil) fun hH hI U O=>?_;have R:=Sl.ofInts (l:=[_]) (n:=1) (cap:=1) O rfl Yd Yd;refine Wg ?_;exact aE rfl fun D hD=>by rw[aUM hc1];exact R.up RI.up (hD _ Yf)
 ·refine aQ<|bZ<|Za rfl<|Zf rfl<|aF<|Za1<|gT (γ:=Nat×Γ×aD) (fun g=>(hi+1-lo).toNat-g.1) (fun g=>g.1≤(hi+1-lo).toNat∧bI 3 1 g.2.1 g.1 (ints (aBK lo g.1)) g.2.2) (fun g=>[(8,g.2.1),(9,qI (lo+(g.1:Int)))]) [(3,_)] (fun g=>g.2.2++[]) (fun g=>[D]) (0,qN,[]) ⟨Yf,by simpa [ints,aBK]using bI.nil⟩ ⟨Ya,Ya,bSM⟩ ⟨rfl,bSM⟩ Mm5 (aK) ?_;rintro⟨k,v,ν⟩ ⟨V,ha⟩;simp only at V ha;refine bZ<|Za rfl<|Za rfl<|gJ rfl rfl rfl rfl bSM<|aF<|Zae rfl (fun hc2=>?_) (fun hc2=>?_)
  ·simp only at hc2;refine aQ<|Za3<|Za1<|aO<|Za rfl<|Za rfl<|Zt rfl U25 aH cE rfl (.cons rfl rfl .nil) fun hJ hK Y I=>?_;have Z:=Sl.ofInts (l:=[_]) (n:=1) (cap:=1) I rfl Yd Yd;refine aS (A:=[]) (B:=_) rfl U25 rfl rfl aH cE rfl kD rfl rfl rfl ha (jY.lit I) Yf rfl (by simp[aBK]) Yk Yd (bNI rfl) rfl bSM fun v1 ν1 hB=>?_;have hE:bI 3 1 v1 (k+1) (ints (aBK lo (k+1))) ν1:=by unfold aBK;rw[bOG,bNG,bQP,←eV];exact hB
   refine Wu ?_;exact aL 13 (k+1,v1,ν1) ⟨Yn,hE⟩ Yn ⟨rfl,(by show some (Value.int _ _)=some (Value.int _ _);congr 2;push_cast;omega),bSM⟩ rfl rfl Mm5 fun D h=>⟨D,bNM _ (h),Le.refl D⟩
  ·have hk:k=(hi+1-lo).toNat:=by simp only at hc2;omega
   rw[hk]at ha;refine Za6<|Za2<|Za2<|Za7<|Zaz<|aA<|Za rfl<|Zf rfl<|aG<|dS (A:=[]) (B:=[]) ha rfl fun D2 hN hF=>?_;exact aE rfl fun D hD=>by rw[aNY hc1];exact(hF.ints (by simp[aBK]) Yd).up RI.up (hD _ Yf)
def bJT(n:Int)(l:eS)(x c:Int):List eS:=(gC l.token (-1) 0 (n-1)).map fun t=>⟨x,c,t⟩
def bLW(n:Int)(l:eS)(x:Int):List eS:=(gC l.chair (-1) 0 (n-1)).flatMap (bJT n l x)
def aWT(n:Int)(l:eS)(k:Nat):List eS:=((gC l.kind 0 1 2).take k).flatMap (bLW n l)
def aVJ(n:Int)(l:eS)(k:Nat)(x:Int)(j:Nat):List eS:=aWT n l k++((gC l.chair (-1) 0 (n-1)).take j).flatMap (bJT n l x)
def aGW(n:Int)(l:eS)(k:Nat)(x:Int)(j:Nat)(c:Int)(i:Nat):List eS:=aVJ n l k x j++((gC l.token (-1) 0 (n-1)).take i).map fun t=>⟨x,c,t⟩
theorem aDW{n:Int}{l:eS}:aWT n l (gC l.kind 0 1 2).length=cN n l:=by unfold aWT;rw[bNR];rfl
theorem aQP{n:Int}{l:eS}{k:Nat}{x:Int}:aVJ n l k x 0=aWT n l k:=by unfold aVJ;simp
theorem aOM{n:Int}{l:eS}{k:Nat}{x:Int}{j:Nat}{c:Int}:aGW n l k x j c 0=aVJ n l k x j:=by unfold aGW;simp
theorem bAQ{n:Int}{l:eS}{k:Nat}{x:Int}(h:(gC l.kind 0 1 2)[k]?= some x):aVJ n l k x (gC l.chair (-1) 0 (n-1)).length=aWT n l (k+1):=by
 unfold aVJ aWT;rw[bNR,bMZ,h,bNU,bOC,bPM];rfl
theorem bEC{n:Int}{l:eS}{k:Nat}{x:Int}{j:Nat}{c:Int}(h:(gC l.chair (-1) 0 (n-1))[j]?= some c):aGW n l k x j c (gC l.token (-1) 0 (n-1)).length=aVJ n l k x (j+1):=by
 unfold aGW aVJ;rw[bNR,bMZ,h,bNU,bOC,bPM,bND];rfl
theorem aWM{n:Int}{l:eS}{k:Nat}{x:Int}{j:Nat}{c:Int}{i:Nat}{t:Int}(h:(gC l.token (-1) 0 (n-1))[i]?= some t):aGW n l k x j c (i+1)=aGW n l k x j c i++[⟨x,c,t⟩]:=by
 unfold aGW;rw[bMZ,h,bNU,bNG,←bND];rfl
theorem yK{s none lo hi:Int}{m:Nat}(h:hi+1-lo≤m)(h1:1≤m):(gC s none lo hi).length≤m:=by
 unfold gC;split
 ·simpa using h1
 ·simp;omega
theorem jV{α β:Type}{f:α→List β}{m:Nat}:∀(l:List α),(∀x∈l,(f x).length≤m)→(l.flatMap f).length≤l.length*m
 | [],_=>by simp
 |x::l,h=>by
  rw[bNW,LE,bMX,bPR];have:=jV l fun y hy=>h y (bMT _ hy)
  have:=h x bMV;omega
theorem aFP{n:Int}{l:eS}(hn:n≤4)(x c:Int):(bJT n l x c).length≤4:=by unfold bJT;rw[bOB];exact yK Yd Yd
theorem bEN{n:Int}{l:eS}(hn:n≤4)(x:Int):(bLW n l x).length≤16:=by
 unfold bLW;have h1:=jV (m:=4) (f:=bJT n l x) (gC l.chair (-1) 0 (n-1)) fun c _=>aFP hn x c
 have h2:=yK (s:=l.chair) (none:= -1) (lo:=0) (hi:=n-1) (m:=4) Yd Yd;omega
theorem aFE{n:Int}{l:eS}(hn:n≤4)(k:Nat):(aWT n l k).length≤32:=by
 unfold aWT;have h1:=jV (m:=16) (f:=bLW n l) ((gC l.kind 0 1 2).take k) fun x _=>bEN hn x
 have h2:=yK (s:=l.kind) (none:=0) (lo:=1) (hi:=2) (m:=2) Yd Yd;have h3:((gC l.kind 0 1 2).take k).length≤(gC l.kind 0 1 2).length:=by rw[bON];omega
 omega
theorem aBQ{n:Int}{l:eS}(hn:n≤4):(cN n l).length≤32:=by rw[←aDW];exact aFE hn _
theorem aZU{n:Int}{l:eS}{k:Nat}{x:Int}{j:Nat}{c:Int}{i:Nat}(hn:n≤4):(aGW n l k x j c i).length≤60:=by
 unfold aGW aVJ;rw[LE,LE,bOB];have h0:=aFE (l:=l) hn k;have h1:=jV (m:=4) (f:=bJT n l x) ((gC l.chair (-1) 0 (n-1)).take j) fun c _=>aFP hn x c
 have h2:=yK (s:=l.chair) (none:= -1) (lo:=0) (hi:=n-1) (m:=4) Yd Yd;have h3:=yK (s:=l.token) (none:= -1) (lo:=0) (hi:=n-1) (m:=4) Yd Yd;have h4:((gC l.chair (-1) 0 (n-1)).take j).length≤4:=by rw[bON];omega
 have h5:((gC l.token (-1) 0 (n-1)).take i).length≤4:=by rw[bON];omega
 omega
def A9(l:List eS):List Γ:=l.flatMap fun x=>[qI x.kind,qI x.chair,qI x.token]
theorem GP(l:List eS):(A9 l).length=l.length*3:=by
 induction l with
 |nil=>rfl
 |cons c l ih=>unfold A9 at ih ⊢;rw[bNW,LE,ih];simp only[bMX,bOY];omega
theorem aTL{l:List eS}{i:Nat}{c:eS}(hi:l[i]?= some c):((A9 l).drop (i*3)).take 3=[qI c.kind,qI c.chair,qI c.token]:=by
  induction l generalizing i with
  |nil=>simp at hi
  |cons d l ih=>
    unfold A9 at ih ⊢
    rw[bNW];cases i with
    | zero => obtain rfl : d = c := by simpa using hi
              rfl
    |succ i=>
      rw[bRA,bOL Yaq,bOA];have:(i+1)*3- [Value.int .i64 d.kind,Value.int .i64 d.chair,Value.int .i64 d.token].length=i*3:=by simp;omega
      rw[this];exact ih Yau
theorem _root_.Go.Fs.kZ.lins{D:aC}{v:Γ}{n:Nat}{l:List eS}(hF:kZ D v n (A9 l))(hn:l.length=n)(hb:n≤9223372036854775807):Sl D tZ 3 v l:=
 hF.sl hn hb fun _i _t hi=>⟨_,rfl,rfl,aTL hi⟩
theorem I8(bv:Γ)(b:bH)(l:eS)(D:aC)(hb:iM D bv b)(hn:1≤b.chairs∧b.chairs≤4):Fn prog 224 #[bv,GL l] D (fun D' v=>Sl D' tZ 3 v (cN b.chairs l)):=by
 obtain⟨lv,cv,rfl,hl,hc⟩:=hb;refine Zw 52 func224 rfl fun h0=>aA<|Zz rfl fun q1 E1 hE1 Z=>Zz rfl fun q2 E2 hE2 O=>Zf rfl<|bC<|Zj rfl x5 rfl<|Zh 0 rfl aI rfl O rfl<|Zy rfl (fun D1 hH=>OI _ _ _ _ _ Yd Yd) fun v1 D1 hH hI=>?_;have R:=hI;refine Zai rfl U25 rfl R rfl<|Za rfl<|aF<|Za1<|Zc (Nat×Γ×aD) (fun g=>(gC l.kind 0 1 2).length-g.1) (fun g=>g.1≤(gC l.kind 0 1 2).length∧bI 206 3 g.2.1 (aWT b.chairs l g.1).length (A9 (aWT b.chairs l g.1)) g.2.2) (fun g=>[(4,g.2.1),(15,qI (g.1:Int))]) [(14,_),(13,_),(3,_),(2,_)] (fun g=>g.2.2++[]) (fun g=>[D1,E2,E1,D]) (0,qN,[]) ⟨Yf,bI.nil⟩ ⟨Ya,Ya,bSM⟩ Mm5 ?_;rintro⟨k,v,ν⟩ ⟨h1,I⟩;simp only at h1 I;refine aA<|Zan rfl<|bO<|Zae rfl (fun hc1=>?_) fun hc1=>?_
 ·simp only at hc1;have hS:=R.len;obtain⟨x,hx1⟩:=cT (gC l.kind 0 1 2) k;refine aQ<|Za3<|Za1<|aA<|iW rfl R rfl hx1 fun b1 o1=>Zf rfl<|aJ<|Zj rfl rQ rfl<|Zh 1 rfl aI rfl O rfl<|Zj rfl wC rfl<|Zh 0 rfl aI rfl Z rfl<|Zav rfl ?_;refine Zy rfl (fun D2 hB=>OI _ _ _ _ _ Yd Yd) fun v2 D2 hB hJ=>?_;have U:=hJ;refine Zai rfl U25 rfl U rfl<|Za rfl<|aF<|Za1<|Zc (Nat×Γ×aD) (fun g=>(gC l.chair (-1) 0 (b.chairs-1)).length-g.1) (fun g=>g.1≤(gC l.chair (-1) 0 (b.chairs-1)).length∧bI 206 3 g.2.1 (aVJ b.chairs l k x g.1).length (A9 (aVJ b.chairs l k x g.1)) g.2.2) (fun g=>[(4,g.2.1),(26,qI (g.1:Int))]) [(25,_),(24,_),(23,_),(22,_),(21,_),(20,_),(19,_),(6,_),(18,_),(17,_),(16,_),(15,_),(14,_),(13,_),(3,_),(2,_)] (fun g=>g.2.2++[]) (fun g=>[D2,D1,E2,E1,D]) (0,v,ν) ⟨Yf,by rw[aQP];exact I⟩ ⟨Ya,Ya,bSM⟩ Mm5 ?_
  rintro⟨j,w,ν2⟩ ⟨h2,haJ⟩;simp only at h2 haJ;refine aA<|Zan rfl<|bO<|Zae rfl (fun hc2=>?_) fun hc2=>?_
  ·simp only at hc2;have hX:=U.len;obtain⟨c,hx2⟩:∃x,(gC l.chair (-1) 0 (b.chairs-1))[j]?= some x:=⟨_,bMU Yd⟩
   refine aQ<|Za3<|Za1<|aA<|iW rfl U rfl hx2 fun b2 o2=>Zf rfl<|aJ<|Zj rfl nO rfl<|Zh 2 rfl aI rfl O rfl<|Zj rfl wC rfl<|Zh 0 rfl aI rfl Z rfl<|Zav rfl ?_;refine Zy rfl (fun D3 hK=>OI _ _ _ _ _ Yd Yd) fun v3 D3 hK hN=>?_;have V:=hN;refine Zai rfl U25 rfl V rfl<|Za rfl<|aF<|Za1<|Zc (Nat×Γ×aD) (fun g=>(gC l.token (-1) 0 (b.chairs-1)).length-g.1) (fun g=>g.1≤(gC l.token (-1) 0 (b.chairs-1)).length∧bI 206 3 g.2.1 (aGW b.chairs l k x j c g.1).length (A9 (aGW b.chairs l k x j c g.1)) g.2.2) (fun g=>[(4,g.2.1),(37,qI (g.1:Int))]) [(36,_),(35,_),(34,_),(33,_),(32,_),(31,_),(30,_),(8,_),(29,_),(28,_),(27,_),(26,_),(25,_),(24,_),(23,_),(22,_),(21,_),(20,_),(19,_),(6,_),(18,_),(17,_),(16,_),(15,_),(14,_),(13,_),(3,_),(2,_)] (fun g=>g.2.2++[]) (fun g=>[D3,D2,D1,E2,E1,D]) (0,w,ν2) ⟨Yf,by rw[aOM];exact haJ⟩ ⟨Ya,Ya,bSM⟩ Mm5 ?_
   rintro⟨i,u,ν3⟩ ⟨h3,haI⟩;simp only at h3 haI;refine aA<|Zan rfl<|bO<|Zae rfl (fun hc3=>?_) fun hc3=>?_
   ·simp only at hc3;have hY:=V.len;obtain⟨t,hE⟩:∃x,(gC l.token (-1) 0 (b.chairs-1))[i]?= some x:=⟨_,bMU Yd⟩
    refine aQ<|Za3<|Za1<|aA<|iW rfl V rfl hE fun b3 o3=>Zf rfl<|aF<|aO<|Za rfl<|Za rfl<|Wbc ?_;refine Zu [qI x,qI c,qI t] rfl aDT kO rfl<|Zt rfl U33 cG kO rfl (.cons rfl rfl .nil) fun rA rB hO Y=>?_;have hli:=aZU (n:=b.chairs) (l:=l) (k:=k) (x:=x) (j:=j) (c:=c) (i:=i) Yd;refine aS (A:=[]) (B:=[]) rfl U33 rfl rfl cG kO rfl c8 rfl rfl rfl haI (jY.lit Y) Yf rfl (GP _) Yk Yd (bNI rfl) rfl bSM fun v7 ν7 hP=>?_;have hR:bI 206 3 v7 (aGW b.chairs l k x j c (i+1)).length (A9 (aGW b.chairs l k x j c (i+1))) ν7:=by rw[aWM hE];simpa [A9]using hP
    refine Wan ?_;exact aL 16 (i+1,v7,ν7) ⟨Yn,hR⟩ Yn ⟨Ya,Ya,bSM⟩ rfl rfl Mm5 fun D h=>⟨D,bNM _ (h),Le.refl D⟩
   ·have hi:i=(gC l.token (-1) 0 (b.chairs-1)).length:=by simp only at hc3;omega
    rw[hi,bEC hx2]at haI;refine Za6<|Za2<|Za2<|Za7<|Wb ?_;exact aL 17 (j+1,u,ν3) ⟨Yn,haI⟩ Yn ⟨Ya,Ya,bSM⟩ rfl rfl Mm5 fun D h=>⟨D,bNM _ (h),Le.refl D⟩
  ·have hj:j=(gC l.chair (-1) 0 (b.chairs-1)).length:=by simp only at hc2;omega
   rw[hj,bAQ hx1]at haJ;refine Za6<|Za2<|Za2<|Za7<|Wb ?_;exact aL 17 (k+1,w,ν2) ⟨Yn,haJ⟩ Yn ⟨Ya,Ya,bSM⟩ rfl rfl Mm5 fun D h=>⟨D,bNM _ (h),Le.refl D⟩
 ·have hk:k=(gC l.kind 0 1 2).length:=by simp only at hc1;omega
  rw[hk,aDW]at I;refine Za6<|Za2<|Za2<|Za7<|Zaz<|aA<|Za rfl<|Zf rfl<|aG<|dS (A:=[]) (B:=[]) I rfl fun D2 hB hF=>?_;exact aE rfl fun D hD=>(hF.lins rfl (by have:=aBQ (l:=l) hn.2;omega)).up tZ.up (hD _ Yf)
theorem bKF{b:bH}(h:((!C1.hC b.chairs 1 4|| !C1.hC b.coin 1 99)|| !C1.hC b.box 0 999)=false):1≤b.chairs∧b.chairs≤4:=by
 simp only[bOH,bRP,C1.bS]at h;exact h.1.1
theorem bKQ{b:bH}(h:((((!C1.hC b.chairs 1 4|| !C1.hC b.coin 1 99)|| !C1.hC b.box 0 999)|| !b.lines.all (xH b.chairs))|| !b.counts.all (sU b.lines.length))=false):tB b=true∧1≤b.chairs∧b.chairs≤4:=by
 simp only[bOH,bRP]at h;obtain⟨⟨⟨⟨h1,h2⟩,h3⟩,h4⟩,h5⟩:=h;exact⟨by unfold tB;rw[h1,h2,h3,h4,h5];rfl,(C1.bS.1 h1)⟩
theorem XM{b:bH}(h:(decide ((8:Int)<b.lines.length)||decide ((4:Int)<b.counts.length))=false):¬(8<b.lines.length∨4<b.counts.length):=by
 simp only[bOH,bMY]at h;omega
theorem aSU{b:bH}(h:(decide ((8:Int)<b.lines.length)||decide ((4:Int)<b.counts.length))=true):aZ b=3:=by
 simp only[bNZ,GT]at h;unfold aZ;rw[bNK Yd]
theorem bIA{b:bH}(h:(decide ((8:Int)<b.lines.length)||decide ((4:Int)<b.counts.length))=false)(h2:((((!C1.hC b.chairs 1 4|| !C1.hC b.coin 1 99)|| !C1.hC b.box 0 999)|| !b.lines.all (xH b.chairs))|| !b.counts.all (sU b.lines.length))=true):aZ b=1:=by
 unfold aZ;rw[bNA (XM h),bNK]
 revert h2;unfold tB
 generalize C1.hC b.chairs 1 4=x,C1.hC b.coin 1 99=y,C1.hC b.box 0 999=z,b.lines.all (xH b.chairs)=u,b.counts.all (sU b.lines.length)=w;cases x<;>cases y<;>cases z<;>cases u<;>cases w<;>decide
theorem bBJ{b:bH}(h:(decide ((8:Int)<b.lines.length)||decide ((4:Int)<b.counts.length))=false)(h2:tB b=true)(h3:tL b.chairs b.lines>4096):aZ b=3:=by
 unfold aZ;rw[bNA (XM h),bNA (by rw[h2];simp),bNK h3]
theorem aZG{b:bH}(h:(decide ((8:Int)<b.lines.length)||decide ((4:Int)<b.counts.length))=false)(h2:tB b=true)(h3:¬tL b.chairs b.lines>4096):aZ b=0:=by
 unfold aZ;rw[bNA (XM h),bNA (by rw[h2];simp),bNA h3]
theorem aAK{n:Int}{ls:List eS}{i:Nat}{x:eS}(hx:ls[i]?= some x):tL n (ls.take (i+1))=min (tL n (ls.take i)*(cN n x).length) 4097:=by
 unfold tL;rw[bMZ,hx,bNU,bOR];rfl
theorem aSM(n:Int)(ls:List eS):0≤tL n ls∧tL n ls≤4097:=by
 unfold tL;have key:∀(l:List eS) (m:Int),0≤m∧m≤4097→0≤l.foldl (fun(m:Int) l=>min (m*((cN n l).length:Int)) 4097) m∧l.foldl (fun(m:Int) l=>min (m*((cN n l).length:Int)) 4097) m≤4097:=by
  intro l;induction l with
  |nil=>intro m h;exact h
  |cons x l ih=>
   intro m h;rw[bNX];refine ih _ ⟨?_,Yd⟩;have:0≤m*((cN n x).length:Int):=bSI h.1 Yd;omega
 exact key ls 1 Yd
theorem bIX{m:Int}{k:Nat}(h:0≤m∧m≤4097)(hk:k≤32):wD .i64 (m*(k:Int)):=by
 have h1:0≤m*(k:Int):=bSI h.1 Yd;have h2:m*(k:Int)≤4097*32:=Int.mul_le_mul h.2 Yd Yd Yd;simp only[wD];omega
theorem A0(bv:Γ)(b:bH)(D:aC)(hb:iM D bv b):Fn prog 138 #[bv] D (fun _ v=>v=qI (aZ b)):=by
 have O:=hb;obtain⟨lv,cv,rfl,hl,hc⟩:=hb;have hll:=hl.len;refine Zw 72 func138 rfl fun h0=>aA<|Zz rfl fun q1 E1 hE1 I=>Zf rfl<|bO<|bN [] 1 6 28<|Zv rfl gU rfl I fI<|Zay rfl<|Zv rfl gU rfl I fI<|Zay rfl<|Zf rfl<|Zf rfl ?_;refine bO<|Za1<|aA<|Zj rfl dM rfl<|Zh 3 rfl iB rfl I rfl<|Zai rfl U33 rfl hl rfl<|Was ?_;refine' dL 5 (s:=17) (p:=22) rfl (fun hE=>?_) (fun hE=>?_) ?_;rotate_left
 ·refine Zk rfl vA rfl<|Zi 4 rfl FO rfl I rfl<|eE rfl U34 rfl hc rfl rfl ⟨_,rfl,rfl⟩<|Ww ?_;exact aN 4
 ·refine Wf ?_;exact aN 4
 refine Zf rfl<|aF<|Zaf rfl (fun hc1=>?_) fun hc1=>?_
 ·refine Wk ?_;exact aE rfl fun D hD=>by show Value.int _ _=_;rw[aSU hc1]
 ·refine aA<|Zj rfl wC rfl<|Zh 0 rfl aI rfl I rfl<|Zd rfl (fun D1 hD1=>lM _ _ _ _)<|Wbg ?_;refine' dL 5 (s:=28) (p:=33) rfl (fun hF=>?_) (fun hF=>?_) ?_;rotate_left
  ·refine Zk rfl I3 rfl<|Zi 1 rfl aI rfl I rfl<|Ze rfl (fun D2 hD2=>lM _ _ _ _)<|Wal ?_;exact aN 4
  ·refine Wf ?_;exact aN 4
  refine Za rfl ?_;refine' dL 5 (s:=34) (p:=39) rfl (fun hH=>?_) (fun hH=>?_) ?_;rotate_left
  ·refine Zk rfl GK rfl<|Zi 2 rfl aI rfl I rfl<|Ze rfl (fun D3 hD3=>lM _ _ _ _)<|Wal ?_;exact aN 4
  ·refine Wf ?_;exact aN 4
  refine Za rfl ?_;refine' dL 6 (s:=40) (p:=46) rfl (fun V=>?_) (fun V=>?_) ?_;rotate_left
  ·have hch:=bKF V;refine Zk rfl dM rfl<|Zi 3 rfl iB rfl I rfl<|Zb rfl<|Ze rfl (fun D4 Y=>bCQ _ _ _ (xH b.chairs) _ (Sl.at tZ.up Y Ym Yf) ⟨_,[_],[],rfl,fun r D2 hl=>aOD _ b r D2 (O.up ((Y _ Yf).trans hl)) Yd⟩ rfl)<|Wal ?_;exact aN 5
  ·refine Zg rfl<|Wf ?_;exact aN 5
  refine Za rfl ?_;refine' dL 6 (s:=47) (p:=53) rfl (fun hI=>?_) (fun hI=>?_) ?_;rotate_left
  ·refine Zk rfl vA rfl<|Zi 4 rfl FO rfl I rfl<|Zb rfl<|Ze rfl (fun D5 Z=>aGF _ _ _ (sU b.lines.length) _ (Sl.at vK.up Z Ym Yf) ⟨_,[_],[],rfl,fun r D2 hl=>aJZ _ b r D2 (O.up ((Z _ Yf).trans hl))⟩ rfl)<|Wal ?_;exact aN 5
  ·refine Zg rfl<|Wf ?_;exact aN 5
  refine Zf rfl<|aF<|Zaf rfl (fun hc2=>?_) fun hc2=>?_
  ·refine Wk ?_;exact aE rfl fun D hD=>by show Value.int _ _=_;rw[bIA hc1 hc2]
  ·obtain⟨hok,hX⟩:=bKQ hc2;refine bG<|Za4<|Zaz<|aA<|Zf rfl<|bC<|Zj rfl dM rfl<|Zh 3 rfl iB rfl I rfl<|Zai rfl U33 rfl hl rfl<|Za rfl<|aF<|Za1 ?_;refine bM (γ:=Nat) (fun i=>b.lines.length-i) (fun i=>i≤b.lines.length) (fun i=>[(57,qI (i:Int)),(5,qI (tL b.chairs (b.lines.take i)))]) [(56,_),(55,_),(2,_),(1,_)] (fun i=>[E1,D]) 0 Yd ⟨Ya,Ya,bSM⟩ cF (aK) ?_;rintro i h1;refine aA<|Zan rfl<|bO<|Zae rfl (fun hc3=>?_) (fun hc3=>?_)
   ·have hi:i<b.lines.length:=Yd
    obtain⟨x,hx⟩:=cT b.lines i;refine aQ<|Za3<|Za1<|aA<|Zx rfl U33 cG rfl hl rfl hx fun b1 o1 hJ hK hY hN=>?_;obtain rfl:hJ=[qI _,qI _,qI _]:=hK;refine Zv rfl nN rfl hN cG<|Zah rfl kO rfl fun q2=>Zab rfl cG ζ<|aF<|aO<|Za rfl<|Zv rfl gU rfl I fI<|Zag rfl nN rfl Mm0 cG<|Zy rfl (fun D6 hB=>I8 _ b x _ (O.up (hB _ Yf)) Yd) fun v6 D6 hB hO=>?_;have hP:=hO;have hrl:=aBQ (l:=x) (n:=b.chairs) Yd;have hmk:=aSM b.chairs (b.lines.take i);refine Zai rfl U33 rfl hP rfl<|F9 rfl rfl rfl (bIX hmk hrl) rfl bSM<|Zt rfl U25 aH cE rfl (.cons rfl rfl (.cons rfl rfl .nil)) fun rA rB hR R=>?_;have U:=Sl.ofInts (l:=[_,_]) (n:=2) (cap:=2) R rfl Yd Yd;refine Zd rfl (fun D7 hS=>H6 _ _ [4097] _ (U.up RI.up (hS _ Yf)))<|Wan ?_;exact aL 17 (i+1) Yd Yd ⟨Ya,(by rw[aAK hx];rfl),bSM⟩ rfl rfl (List.Sublist.cons _ Mm5) fun D h=>⟨D,bNM _ (bNM _ (h)),Le.refl D⟩
   ·obtain rfl:i=b.lines.length:=Yd
    rw[bNR];refine Za6<|Za2<|Za2<|Za7<|Zaz<|bZ<|Za rfl<|Zaq rfl<|aF<|Zae rfl (fun hc4=>?_) fun hc4=>?_
    ·refine Wci ?_;exact aE rfl fun D hD=>by show Value.int _ _=_;rw[bBJ hc1 hok hc4]
    ·refine aQ<|aA<|We ?_;exact aE rfl fun D hD=>by show Value.int _ _=_;rw[aZG hc1 hok hc4]
end L3
namespace L3
open L1
section
variable{P:Program}{X:Cx}{γb:Type}[Membership Nat γb]{bad:γb}{all:Array Oper}{K:Act→Δ→Prop}{Q:Exit→Act→Δ→Prop}
variable{σ:bU}{μ:aD}{Ds:List aC}{os:List (Bool×Nat)}{fl:Bool}{ix:Nat}
variable{d:Nat}{x y z:Operand}{u v:Γ}{ty:Θ}{pos:String}{aft:Array Edge}{g:Option (Nat×Bool)}
theorem uL{t:Θ}{b k:Nat}{l:List Int}{n:Int}{e:Θ}{μ':aD}(ho:all[ix]?= some ⟨none,.store t x y,ty,pos,aft,g⟩)(hs:TS P t 1)(hx:ev σ x=some (.pointer (some ⟨b,k,none⟩)))(hy:ev σ y=some (qI n))
  (hm:bP μ b (qC (ints l) e) (qC (ints (l.set k n)) e) μ') (hl:k<l.length) (hfl:fl=false∨b∈bad) (hg:cQ all σ g)
  (kk:WL P X bad all K Q os σ μ' Ds):WL P X bad all K Q ((fl,ix)::os) σ μ Ds:=by
 have hil:(ints l).length=l.length:=aP l;refine mZ (off:=k) (us:=[qI n]) (vs:=ints l) (ws:=ints (l.set k n)) ho hx hy rfl hs hm (by simp[hil];omega) ?_ (fun u hu=>by simp at hu;subst hu;rfl) hfl hg kk
 rw[show ints (l.set k n)=(ints l).set k (qI n) by simp[ints,List.map_set],List.set_eq_take_append_cons_drop,bNK (by rw[hil];exact hl)];simp
end
open C3
theorem xV{q a b:Nat}(h:a=b):some (Value.pointer (some ⟨q,a,none⟩))=some (Value.pointer (some ⟨q,b,none⟩)):=by rw[h]
theorem P2{s:Sc}(h4:s.ch.length=4)(h5:s.tk.length=4):(rH s).length=10:=by unfold rH;simp[h4,h5]
theorem bFO{s:Sc}(h4:s.ch.length=4){c:Int}(hc:0≤c∧c<4):(ints (rH s))[0+c.toNat*1]?= some (qI (oM s.ch c)):=by
 rw[bQB,bPK];refine cO ?_;unfold rH oM;rw[bND,bPH Yd,bOP,bMU Yd];rfl
theorem bFR{s:Sc}(h4:s.ch.length=4)(h5:s.tk.length=4){c:Int}(hc:0≤c∧c<4):(ints (rH s))[0+4+c.toNat*1]?= some (qI (oM s.tk c)):=by
 rw[bPK];refine cO ?_;unfold rH oM;rw[bND,bPY Yd,bPH Yd,bOP,show 0+4+c.toNat-s.ch.length=c.toNat by omega,bMU Yd];rfl
theorem OK{l:List Int}(h:l.length=4):∃a b c d,l=[a,b,c,d]:=by
 match l,h with
 | [a,b,c,d],_=>exact⟨a,b,c,d,rfl⟩
theorem J7{s:Sc}(h4:s.ch.length=4)(h5:s.tk.length=4):(rH s)[8]?= some s.money:=by
 obtain⟨a,b,c,d,e⟩:=OK h4;obtain⟨a',b',c',d',e'⟩:=OK h5;unfold rH;rw[e,e'];rfl
theorem RX{s:Sc}(h4:s.ch.length=4)(h5:s.tk.length=4):(rH s)[9]?= some s.mixed:=by
 obtain⟨a,b,c,d,e⟩:=OK h4;obtain⟨a',b',c',d',e'⟩:=OK h5;unfold rH;rw[e,e'];rfl
theorem aCZ{s:Sc}(h4:s.ch.length=4)(h5:s.tk.length=4){c t:Int}(hc:0≤c∧c<4)(ht:0≤t∧t<4)(x y m:Int):
  (((rH s).set c.toNat x).set (4+t.toNat) y).set 8 m=rH ⟨s.ch.set c.toNat x,s.tk.set t.toNat y,m,s.mixed⟩∧∀z,((((rH s).set 9 z).set c.toNat x).set (4+t.toNat) y).set 8 m=rH ⟨s.ch.set c.toNat x,s.tk.set t.toNat y,m,z⟩:=by
 obtain⟨a,b,c',d,e⟩:=OK h4;obtain⟨a',b',c'',d',e'⟩:=OK h5;unfold rH;rw[e,e'];have hc':c.toNat=0∨c.toNat=1∨c.toNat=2∨c.toNat=3:=Yd
 have ht':t.toNat=0∨t.toNat=1∨t.toNat=2∨t.toNat=3:=Yd
 rcases hc' with h|h|h|h<;>rcases ht' with h'|h'|h'|h'<;>rw[h,h']<;>exact⟨rfl,fun _=>rfl⟩
theorem bFV{s:Sc}{l:eS}(h:((!(decide (oM s.ch l.chair≠0)==decide (l.kind=2)))||(!(decide (oM s.tk l.token≠0)==decide (l.kind=2))))=true):lX s l=false:=by
 unfold lX
 revert h
 generalize decide (oM s.ch l.chair≠0)=a,decide (oM s.tk l.token≠0)=c,decide (l.kind=2)=e;cases a<;>cases c<;>cases e<;>decide
theorem NN{s:Sc}{l:eS}(h:((!(decide (oM s.ch l.chair≠0)==decide (l.kind=2)))||(!(decide (oM s.tk l.token≠0)==decide (l.kind=2))))=false):lX s l=true:=by
 unfold lX
 revert h
 generalize decide (oM s.ch l.chair≠0)=a,decide (oM s.tk l.token≠0)=c,decide (l.kind=2)=e;cases a<;>cases c<;>cases e<;>decide
theorem bIC{b:bH}{s:Sc}{i:Int}{l:eS}(h:lX s l=false):Value.tuple #[.agg (ints (rH s)).toArray,.bool false]=.tuple #[XF (if lX s l=true then fK b s i l else s),.bool (lX s l)]:=by rw[h];rfl
theorem OH{b:bH}{s:Sc}{i:Int}{l:eS}{L:List Int}(h:lX s l=true)(hL:L=rH (fK b s i l)):Value.tuple #[.agg (ints L).toArray,.bool true]=.tuple #[XF (if lX s l=true then fK b s i l else s),.bool (lX s l)]:=by rw[h,hL];rfl
theorem JW{b:bH}{s:Sc}{i:Int}{l:eS}{L:List Int}(h4:s.ch.length=4)(h5:s.tk.length=4)(hc:0≤l.chair∧l.chair<4)(ht:0≤l.token∧l.token<4)(hk:l.kind=2)
  (h:(oM s.ch l.chair≠oM s.tk l.token∧L=(rH s).set 9 (s.mixed+1))∨(oM s.ch l.chair=oM s.tk l.token∧L=rH s)):((L.set l.chair.toNat 0).set (4+l.token.toNat) 0).set 8 (s.money-b.coin)=rH (fK b s i l):=by
 obtain⟨g1,g2⟩:=aCZ h4 h5 hc ht 0 0 (s.money-b.coin);unfold fK;rw[bNK hk];rcases h with⟨e,rfl⟩|⟨e,rfl⟩
 ·rw[g2,bNK e]
 ·rw[g1,bNA (by rw[e];simp)]
theorem aUN{b:bH}{s:Sc}{i:Int}{l:eS}(h4:s.ch.length=4)(h5:s.tk.length=4)(hc:0≤l.chair∧l.chair<4)(ht:0≤l.token∧l.token<4)(hk:l.kind≠2):
  (((rH s).set l.chair.toNat (i+1)).set (4+l.token.toNat) (i+1)).set 8 (s.money+b.coin)=rH (fK b s i l):=by
 rw[(aCZ h4 h5 hc ht (i+1) (i+1) (s.money+b.coin)).1];unfold fK;rw[bNA hk]
theorem DA(bv:Γ)(b:bH)(s:Sc)(i:Int)(l:eS)(D:aC)(hb:iM D bv b)(h4:s.ch.length=4)(h5:s.tk.length=4)(hc:0≤l.chair∧l.chair<4)(ht:0≤l.token∧l.token<4)(hi:0≤i∧i≤100)(hm: -100000≤s.money∧s.money≤100000)(hx:0≤s.mixed∧s.mixed≤1000)(hn:0≤b.coin∧b.coin≤99):
  Fn prog 304 #[bv,XF s,qI i,GL l] D (fun _ v=>v=.tuple #[XF (if lX s l=true then fK b s i l else s),.bool (lX s l)]):=by
 obtain⟨lv,cv,rfl,hl,hcn⟩:=hb;have hs10:=P2 h4 h5;refine Zw 83 func304 rfl fun h0=>aA<|Zz rfl fun q1 E1 Y R=>EQ rfl (e:=242) rfl rfl rfl bSM fun q2=>Zz rfl fun U E3 Z I=>Zah rfl wY rfl fun q4=>Zf rfl<|aJ<|Zj rfl x5 rfl<|Zh 0 rfl aI rfl I rfl<|Zas rfl<|Zf rfl ?_;refine bC<|Zj rfl rQ rfl<|Zh 1 rfl aI rfl I rfl<|Zj rfl uO rfl<|eT rfl U240 aH rfl rfl Yd Yd rfl bSM<|bD (v:=qI (oM s.ch l.chair)) rfl aI rfl Mm1 (bFO h4 hc) n4 rfl bSM<|Zax rfl<|Za rfl<|QW rfl U4 rfl rfl rfl bSM<|Za rfl ?_;refine' dL 9 (s:=22) (p:=31) rfl (fun V=>?_) (fun V=>?_) ?_;rotate_left
 ·refine Zk rfl nO rfl<|Zi 2 rfl aI rfl I rfl<|Zk rfl uV rfl<|eT rfl U240 aH rfl rfl Yd Yd rfl ⟨_,rfl,rfl⟩<|bD (v:=qI (oM s.tk l.token)) rfl aI rfl Mm1 (bFR h4 h5 ht) n4 rfl ⟨_,rfl,rfl⟩<|LB rfl rfl rfl rfl ⟨_,rfl,rfl⟩<|Zb rfl<|QW rfl U4 rfl rfl rfl ⟨_,rfl,rfl⟩<|Zal rfl ?_;exact aN 8
 ·refine Zg rfl<|Waq ?_;exact aN 8
 refine aF<|Zaf rfl (fun hc1=>?_) fun hc1=>?_
 ·refine aA<|Waf ?_;exact Zo [_,_] rfl ⟨⟨_,_,_,rfl,Mm0,Or.inr ⟨kL,Xca,rfl⟩⟩,rfl,bSM⟩ fun D hD=>bIC (bFV hc1)
 ·have hcan:lX s l=true:=NN hc1;refine aQ<|bZ<|Za rfl<|aF<|Zae rfl (fun hc2=>?_) (fun hc2=>?_)
  ·have O:l.kind=2:=Yav
   refine Za3<|Za3<|bN [] 4 11 996<|Zj rfl rQ rfl<|Zh 1 rfl aI rfl I rfl<|Zj rfl uO rfl<|eT rfl U240 aH rfl rfl Yd Yd rfl bSM<|bD (v:=qI (oM s.ch l.chair)) rfl aI rfl Mm1 (bFO h4 hc) n4 rfl bSM<|Zj rfl nO rfl<|Zh 2 rfl aI rfl I rfl<|Zj rfl uV rfl<|eT rfl U240 aH rfl rfl Yd Yd rfl bSM ?_;refine bD (v:=qI (oM s.tk l.token)) rfl aI rfl Mm1 (bFR h4 h5 ht) n4 rfl bSM<|Zax rfl<|aF<|Zae rfl (fun hc3=>?_) fun hc3=>?_
   ·refine aO<|Zj rfl x7 rfl<|bD (v:=qI s.mixed) rfl aI rfl Mm1 (cO (RX h4 h5)) n4 rfl bSM<|Zad rfl<|Zj rfl x7 rfl<|yG (k:=9) rfl aH rfl rfl (.tail ζ) Yab bSM<|bO<|iZ (cZ.mk [U]) 2 [0,1,2,3,4,5,7,6,8,9] [false,false,true,true,true,true,true,true,false,false] [(false,0),(false,1),(true,2),(true,3),(true,4),(true,5),(true,7),(true,6),(false,8),(false,9)] bB (fun _ _ _ h=>fW (P:=prog) (fn:=f304) _ _ _ h) Yg rfl<|Zj rfl rQ rfl<|dU rfl (k:=1) aI rfl I Yc rfl (cZ.out Yf) rfl bSM<|Zj rfl nO rfl<|dU rfl (k:=2) aI rfl I Yc rfl (cZ.out Yf) rfl bSM ?_;refine Zj rfl uO rfl<|eT rfl U240 aH rfl rfl Yd Yd rfl bSM<|Zj rfl uV rfl<|kN I Yf fun hap=>uL (k:=l.chair.toNat) rfl aH (xV Yd) rfl (.tail ζ) Yab (bNC (cZ.in_ Yaa)) bSM<|eT rfl U240 aH rfl rfl Yd Yd rfl bSM<|kN I Yf fun hap=>uL (k:=4+l.token.toNat) rfl aH (xV Yd) rfl (.tail ζ) Yab (bNC (cZ.in_ Yaa)) bSM<|aJ<|Zj rfl pT rfl<|bD (v:=qI s.money) rfl aI rfl Mm1 (cO Yak) n4 rfl bSM<|Zj rfl I3 rfl ?_;refine Zh 1 rfl aI rfl R rfl<|Zav rfl<|Zj rfl pT rfl<|yG (k:=8) rfl aH rfl rfl (.tail ζ) Yab bSM<|aJ<|Waf ?_
    exact Zo [_,_] rfl ⟨⟨_,_,_,rfl,Mm0,bNC ⟨kL,Xca,rfl⟩⟩,rfl,bSM⟩ fun D hD=>OH hcan (JW h4 h5 hc ht O (bNI ⟨Xac,rfl⟩))
   ·refine aQ<|Za3<|iZ (cZ.mk [U]) 2 [0,1,2,3,4,5,7,6,8,9] [false,false,true,true,true,true,true,true,false,false] [(false,0),(false,1),(true,2),(true,3),(true,4),(true,5),(true,7),(true,6),(false,8),(false,9)] bB (fun _ _ _ h=>fW (P:=prog) (fn:=f304) _ _ _ h) Yg rfl<|Zj rfl rQ rfl<|dU rfl (k:=1) aI rfl I Yc rfl (cZ.out Yf) rfl bSM<|Zj rfl nO rfl<|dU rfl (k:=2) aI rfl I Yc rfl (cZ.out Yf) rfl bSM<|Zj rfl uO rfl<|eT rfl U240 aH rfl rfl Yd Yd rfl bSM<|Zj rfl uV rfl<|kN I Yf fun hap=>uL (k:=l.chair.toNat) rfl aH (xV Yd) rfl (.tail ζ) Yab (bNC (cZ.in_ Yaa)) bSM ?_;refine eT rfl U240 aH rfl rfl Yd Yd rfl bSM<|kN I Yf fun hap=>uL (k:=4+l.token.toNat) rfl aH (xV Yd) rfl (.tail ζ) Yab (bNC (cZ.in_ Yaa)) bSM<|aJ<|Zj rfl pT rfl<|bD (v:=qI s.money) rfl aI rfl Mm1 (cO Yak) n4 rfl bSM<|Zj rfl I3 rfl<|Zh 1 rfl aI rfl R rfl<|Zav rfl<|Zj rfl pT rfl<|yG (k:=8) rfl aH rfl rfl (.tail ζ) Yab bSM<|aJ ?_;refine Waf ?_
    exact Zo [_,_] rfl ⟨⟨_,_,_,rfl,Mm0,bNC ⟨kL,Xca,rfl⟩⟩,rfl,bSM⟩ fun D hD=>OH hcan (JW h4 h5 hc ht O (bNC ⟨Xac,rfl⟩))
  ·have O:l.kind≠2:=Yav
   refine aQ<|Za3<|iZ (cZ.mk [U]) 2 [0,1,2,3,4,5,6,7,8,9,11,10,12,13] [false,false,true,true,true,true,true,true,true,true,true,true,false,false] [(false,0),(false,1),(true,2),(true,3),(true,4),(true,5),(true,6),(true,7),(true,8),(true,9),(true,11),(true,10),(false,12),(false,13)] bB (fun _ _ _ h=>fW (P:=prog) (fn:=f304) _ _ _ h) Yg rfl<|Zj rfl rQ rfl<|dU rfl (k:=1) aI rfl I Yc rfl (cZ.out Yf) rfl bSM<|Zj rfl nO rfl<|dU rfl (k:=2) aI rfl I Yc rfl (cZ.out Yf) rfl bSM<|Za rfl<|Zad rfl<|Za rfl<|Zad rfl<|Zj rfl uO rfl ?_;refine eT rfl U240 aH rfl rfl Yd Yd rfl bSM<|Zj rfl uV rfl<|kN I Yf fun hap=>uL (k:=l.chair.toNat) rfl aH (xV Yd) rfl (.tail ζ) Yab (bNC (cZ.in_ Yaa)) bSM<|eT rfl U240 aH rfl rfl Yd Yd rfl bSM<|kN I Yf fun hap=>uL (k:=4+l.token.toNat) rfl aH (xV Yd) rfl (.tail ζ) Yab (bNC (cZ.in_ Yaa)) bSM<|aJ<|Zj rfl pT rfl<|bD (v:=qI s.money) rfl aI rfl Mm1 (cO Yak) n4 rfl bSM<|Zj rfl I3 rfl<|Zh 1 rfl aI rfl R rfl ?_;refine Zad rfl<|Zj rfl pT rfl<|yG (k:=8) rfl aH rfl rfl (.tail ζ) Yab bSM<|aJ<|bL (e:=242) (fz:=(0,0)) rfl kL rfl Mm1 Xbz n4 rfl bSM<|eF rfl rfl rfl rfl dY (by simp[hs10]) Ybb .head (dP _) bSM<|We ?_
   exact Zo [_,_] rfl ⟨⟨_,_,_,rfl,Mm0,bNC ⟨kL,Xca,rfl⟩⟩,rfl,bSM⟩ fun D hD=>OH hcan (aUN h4 h5 hc ht O)
theorem TD(c:Cn)(ba bs:Nat)(a:Int)(s:Sc)(D:aC)(h4:s.ch.length=4)(h5:s.tk.length=4)(hA:At D ba 0 [qI a])(hS:At D bs 0 (ints (rH s))):
  Fn prog 357 #[bHB c,qP ba,qP bs] D (fun _ v=>v=.bool (decide (c.after≠a)||C1.hC s.money c.lo c.hi)):=by
 refine Zw 16 func357 rfl fun h0=>aA<|Zz rfl fun q1 E1 R I=>Zf rfl<|aJ<|Zj rfl Q0 rfl<|Zh 0 rfl aI rfl I rfl<|Zh 0 rfl aI rfl hA rfl<|Zax rfl<|Za rfl ?_;refine' dL 6 (s:=9) (p:=15) rfl (fun O=>?_) (fun O=>?_) ?_;rotate_left
 ·refine Zk rfl y2 rfl<|dX rfl (k:=1) pH eQ rfl I Yc rfl rfl n4 rfl ⟨_,rfl,rfl⟩<|Zk rfl pT rfl<|dU (v:=qI s.money) rfl (k:=8) aI rfl hS Yc (cO (J7 h4 h5)) n4 rfl ⟨_,rfl,rfl⟩<|Ze rfl (fun V U=>bEV (c.lo,c.hi) _ _)<|Zal rfl ?_;exact aN 5
 ·refine Zg rfl<|Wf ?_;exact aN 5
 refine We ?_;exact aE rfl fun D hD=>rfl
theorem HS(bv:Γ)(b:bH)(s:Sc)(a:Int)(D:aC)(hb:iM D bv b)(h4:s.ch.length=4)(h5:s.tk.length=4):Fn prog 303 #[bv,XF s,qI a] D (fun _ v=>v=.bool (hZ b s a)):=by
 obtain⟨lv,cv,rfl,hl,hc⟩:=hb;refine Zw 11 func303 rfl fun h0=>aA<|Zz rfl fun q1 E1 V O=>Zz rfl fun q2 E2 Y R=>Zz rfl fun q3 E3 Z U=>Zf rfl<|aJ<|Zj rfl vA rfl<|Zh 4 rfl FO rfl O rfl<|Zay rfl<|Zd rfl (fun D1 I=>aGF _ _ _ (fun c=>decide (c.after≠a)||C1.hC s.money c.lo c.hi) _ (Sl.at vK.up I Ym Yf) ⟨_,[],[_,_],rfl,fun c D2 hl=>TD c _ _ a s D2 h4 h5 (U.up ((I _ Yf).trans hl)) (R.up ((I _ Yf).trans hl))⟩ rfl)<|Zf rfl ?_;refine aG ?_;exact aE rfl fun D hD=>rfl
theorem yF(bv:Γ)(b:bH)(D:aC)(hb:iM D bv b):Fn prog 227 #[bv] D (fun _ v=>v=XF (gW b)):=by
 obtain⟨lv,cv,rfl,hl,hc⟩:=hb;refine Zw 6 func227 rfl fun h0=>aA<|Zz rfl fun q1 E1 O I=>Zah rfl wY rfl fun R=>aJ<|Zj rfl GK rfl<|Zh 2 rfl aI rfl I rfl<|Zu [qI 0,qI 0,qI 0,qI 0,qI 0,qI 0,qI 0,qI 0,qI b.box,qI 0] rfl bCA wY rfl<|Zab rfl dY ζ<|aG ?_;exact Zo [_] rfl ⟨⟨_,_,_,rfl,Mm0,Or.inr ⟨kL,(by first|exact dY|(simp only[bOM,aP, *];exact dY)),rfl⟩⟩,bSM⟩ fun D hD=>rfl
structure aMP(b:bH):Prop where
 ch:1≤b.chairs∧b.chairs≤4
 co:1≤b.coin∧b.coin≤99
 bx:0≤b.box∧b.box≤999
 l8:b.lines.length≤8
 c4:b.counts.length≤4
 ln:∀l∈b.lines,xH b.chairs l=true
theorem bLD{b:bH}(h:aZ b=0):aMP b:=by
 unfold aZ at h;split at h
 ·omega
 ·rename_i h1;split at h
  ·omega
  ·rename_i h2;have h3:tB b=true:=Xai
   unfold tB at h3;simp only[bMS,C1.bS,bNQ]at h3;exact⟨h3.1.1.1.1,h3.1.1.1.2,h3.1.1.2,Yd,Yd,h3.1.2⟩
def gQ(l:List Sc):List Γ:=l.flatMap fun s=>ints (rH s)
structure bLH(b:bH)(s:Sc)(k:Nat):Prop where
 lc:s.ch.length=4
 lt:s.tk.length=4
 mo:b.box-99*(k:Int)≤s.money∧s.money≤b.box+99*(k:Int)
 mi:0≤s.mixed∧s.mixed≤k
theorem aWD{b:bH}(hb:aMP b){s:Sc}{k:Nat}(h:bLH b s k)(l:eS)(i:Int):bLH b (fK b s i l) (k+1):=by
 have:=hb.co;have:=h.mo;have:=h.mi;unfold fK;split
 ·refine⟨by simp[h.lc],by simp[h.lt],?_,?_⟩
  ·simp only;push_cast;omega
  ·simp only;split<;>push_cast<;>omega
 ·refine⟨by simp[h.lc],by simp[h.lt],?_,?_⟩
  ·simp only;push_cast;omega
  ·simp only;push_cast;omega
theorem X3{l:List Sc}(h:∀s∈l,(rH s).length=10){i:Nat}{s:Sc}(hi:l[i]?= some s):((gQ l).drop (i*10)).take 10=ints (rH s):=by
 induction l generalizing i with
 |nil=>simp at hi
 |cons u l ih=>
  have hu:(ints (rH u)).length=10:=by rw[aP,h u bMV]
  have e:gQ (u::l)=ints (rH u)++gQ l:=rfl;rw[e];cases i with
  |zero=>
   obtain rfl:u=s:=Yau
   rw[bRB,bQQ,bOK Yd,bNV Yd]
  |succ i=>
   rw[bRA,bOL Yd,bOA,hu,show(i+1)*10-10=i*10 by omega];exact ih (fun t ht=>h t (bMT _ ht)) Yau
def aNF(l:List Int)(k:Nat):List Int:=(List.range 4).map fun j=>if j<k then min (l.getD j 0) 1 else 0
theorem aTO{l:List Int}{k:Nat}{x:Int}(hx:l[k]?= some x):(aNF l k).set k (min x 1)=aNF l (k+1):=by
 apply List.ext_getElem?;intro i;unfold aNF;rw[List.getElem?_set,bOD,bOD];simp only[bOB,bQW];by_cases hi:i<4
 ·rw[bRI hi];simp only[bOO];by_cases e:k=i
  ·subst e;rw[bNK rfl,bNK hi,bNK Yd,bOP,hx];rfl
  ·rw[bNA e];by_cases h:i<k
   ·rw[bNK h,bNK Yd]
   ·rw[bNA h,bNA Yd]
 ·rw[bPU Yau];by_cases e:k=i
  ·subst e;rw[bNK rfl,bNA hi];rfl
  ·rw[bNA e];rfl
theorem aZO{l:List Int}(h:l.length=4):aNF l 4=G2 l:=by
 obtain⟨a,b,c,d,rfl⟩:=OK h;rfl
theorem GX(l:List Int)(D:aC)(h4:l.length=4):Fn prog 321 #[.agg (ints l).toArray] D (fun _ v=>v=.agg (ints (G2 l)).toArray):=by
 refine Zw 17 func321 rfl (fun h0=>aA<|Zz rfl fun q1 E1 hB R=>Zah rfl bAD rfl fun q2=>bC<|cK rfl uJ rfl R Yl (by rw[show(ints _).length=4 by simp[h4]];exact oV) n4 rfl bSM<|Za rfl<|aF<|Za1<|gT (γ:=Nat) (fun k=>4-k) (fun k=>k≤4) (fun k=>[(6,qI (k:Int))]) [(5,_),(2,_)] (fun k=>[(q2,qC (ints (aNF l k)) 240)]) (fun k=>[E1,D]) 0 Yd ⟨Ya,bSM⟩ cF Mm5 (aK) ?_);rintro k h1;refine aA<|Zan rfl<|bO<|Zae rfl (fun hc1=>?_) fun hc1=>?_
 ·have hk:k<4:=Yd
  obtain⟨x,hx0⟩:=cT l k;have hx:l[((k:Nat):Int).toNat]?= some x:=by simpa using hx0
  have hstep:=aTO hx0;refine aQ<|Za3<|Za1<|aA<|Za rfl<|FS (l:=l) rfl U240 aI aH rfl rfl Yd Yd hx rfl bSM<|Zf rfl<|Zf rfl<|aF<|aO<|Wbc ?_;refine Zt rfl U25 aH cE rfl (.cons rfl rfl (.cons rfl rfl .nil)) fun Y Z U I=>?_;have O:=Sl.ofInts (l:=[_,_]) (n:=2) (cap:=2) I rfl Yd Yd;refine Zd rfl (fun D1 V=>H6 _ x [1] _ (O.up RI.up (V _ Yf)))<|eT rfl U240 aH rfl rfl Yd Yd rfl bSM<|yG (k:=k) rfl aH (xV Yd) rfl .head (by simp[aNF];omega) bSM ?_
  rw[show(aNF l k).set k (List.foldl min x [1])=aNF l (k+1)from hstep];refine Zao<|Wb ?_;exact aL 13 (k+1) Yd Yd ⟨Ya,bSM⟩ rfl rfl Mm5 fun D h=>⟨D,bNM _ (h),Le.refl D⟩
 ·obtain rfl:k=4:=Yd
  refine Za6<|Za2<|Za2<|Za7<|Zaz<|aA<|bL (e:=240) (fz:=(0,0)) rfl uJ rfl Mm0 (by rw[show(ints _).length=4 by simp[aNF]];exact oV) n4 rfl bSM<|eF rfl rfl rfl rfl oV (by simp[aNF]) (by simp[aNF]) .head (dP _) bSM<|aG ?_;exact Zo [_] rfl ⟨⟨_,_,_,rfl,Mm0,Or.inr ⟨uJ,(by rw[show(ints _).toArray.size=4 by simp[aNF]];exact oV),rfl⟩⟩,bSM⟩ fun D hD=>by show Value.agg _=_;rw[aZO h4]
theorem bIY:KS prog 433 9:=by
 have hf:(prog.fieldsOf 433).toList=[(prog.fieldsOf 433)[0]!,(prog.fieldsOf 433)[1]!,(prog.fieldsOf 433)[2]!]:=Yg
 refine⟨Yg,Yg,Yg,?_⟩;rw[hf];refine .cons (H1.int Ybf Yg Yg) (.cons (n:=4) (H1.arr (e:=3) Ybf Yg Yg Yg Yg ?_ ?_) (.cons (n:=4) (H1.arr (e:=3) Ybf Yg Yg Yg Yg ?_ ?_) .nil))
 ·rw[show((prog.fieldsOf 433)[1]!).type=240 by kernel_rfl];exact uJ
 ·rw[show((prog.fieldsOf 433)[1]!).type=240 by kernel_rfl];exact oV
 ·rw[show((prog.fieldsOf 433)[2]!).type=240 by kernel_rfl];exact uJ
 ·rw[show((prog.fieldsOf 433)[2]!).type=240 by kernel_rfl];exact oV
theorem bGB:KM prog 433 4:=⟨(prog.fieldsOf 433)[0]!,(prog.fieldsOf 433)[1]!,(prog.fieldsOf 433)[2]!,3,Yg,Yg,Ybf,Ybf,Ybf,Yg,Yg,Yg,Yg,Yg,Yg,Yg,
 by rw[show((prog.fieldsOf 433)[1]!).type=240 by kernel_rfl];exact uJ,by rw[show((prog.fieldsOf 433)[1]!).type=240 by kernel_rfl];exact oV,by rw[show((prog.fieldsOf 433)[2]!).type=240 by kernel_rfl];exact uJ,by rw[show((prog.fieldsOf 433)[2]!).type=240 by kernel_rfl];exact oV,aH⟩
theorem aQM:IH prog 433 (BZ (n:=9)):=KM.key bGB bIY
end L3
namespace L3
open L1
section
variable{P:Program}{X:Cx}{γb:Type}[Membership Nat γb]{bad:γb}{all:Array Oper}{K:Act→Δ→Prop}{Q:Exit→Act→Δ→Prop}
variable{σ:bU}{μ:aD}{Ds:List aC}{os:List (Bool×Nat)}
theorem bHG(k:(μ.map fun p=>p.1).Nodup→WL P X bad all K Q os σ μ Ds):WL P X bad all K Q os σ μ Ds:=fun a w hh=>by
 obtain⟨_,_,_,D,hs,_⟩:=id hh;exact k hs.nd a w hh
end
theorem bJJ{w q1 I O:Nat}{o U:Obj}{R:aD}(h1:w∉aD.ks ((O,o)::(I,U)::R))(h2:q1∉aD.ks ((O,o)::(I,U)::R))(h3:(((O,o)::(I,U)::R).map fun p=>p.1).Nodup):O∉[w,q1,I]:=by
 simp only[bNT,bOT,LT,bSF]at h1 h2 h3;intro h;simp only[LT,n4,bOZ]at h;rcases h with rfl|rfl|rfl
 ·exact h1.1 rfl
 ·exact h2.1 rfl
 ·exact h3.1.1 rfl
open C3
def CB(b:bH)(Mm:List (xU 9×Bool)):Prop:=∀p∈Mm,∀(i:Nat) (s:Sc),GF b s→aND s→s.ch.length=4→p.1.l=aVY s i→p.2=nG b (b.lines.drop i) i s
theorem CB.nil{b:bH}:CB b []:=fun p hp=>by cases hp
theorem CB.add{b:bH}{Mm M':List (xU 9×Bool)}{i:Nat}{s:Sc}{a:xU 9}{r:Bool}(h:CB b Mm)(hm:∀p∈M',p∈Mm∨p=(a,r))(ha:a.l=aVY s i)(hi:GF b s)(hp:aND s)(h4:s.ch.length=4)(hr:r=nG b (b.lines.drop i) i s):CB b M':=by
 intro p hp' i' s' hi' hps' h4' he;rcases hm p hp' with h1|h1
 ·exact h p h1 i' s' hi' hps' h4' he
 ·subst h1;simp only at he ⊢
  rw[ha]at he;obtain⟨I,O⟩:=aRY (ls:=b.lines.drop i) he hi hi' hp hps' h4 h4';rw[hr,←I];exact O.trans (by rw[←I])
theorem OZ{a c d:Γ}{lv cv lv' cv':Γ}(h:Value.agg #[a,c,d,lv,cv]=.agg #[a,c,d,lv',cv']):lv=lv'∧cv=cv':=by
 simp at h;exact h
theorem bCE{b:bH}{ls:List eS}{i:Nat}{s:Sc}(h:hZ b s i=false):nG b ls i s=false:=by
 cases ls with
 |nil=>exact h
 |cons l ls=>unfold nG;rw[h];rfl
theorem aOY{b:bH}{i:Nat}{s:Sc}(h:hZ b s i=true)(hi:(i:Int)=(b.lines.length:Int)):nG b (b.lines.drop i) i s=true:=by
 rw[bOL Yd];exact h
def bGT(b:bH)(i:Nat)(s:Sc)(r:eS):Bool:=lX s r&&nG b (b.lines.drop (i+1)) (i+1) (fK b s i r)
theorem bJN{b:bH}{i:Nat}{s:Sc}{r:eS}(h:lX s r=true):nG b (b.lines.drop (i+1)) (i+1) (fK b s i r)=bGT b i s r:=by unfold bGT;rw[h];rfl
theorem bLF{b:bH}{i:Nat}{s:Sc}{r:eS}(h:lX s r=false):false=bGT b i s r:=by unfold bGT;rw[h];rfl
theorem XJ{b:bH}{s:Sc}{i:Int}{r:eS}(h4:s.ch.length=4)(h5:s.tk.length=4):(rH (fK b s i r)).length=10:=by
 unfold fK;split
 ·exact P2 (by simp[h4]) (by simp[h5])
 ·exact P2 (by simp[h4]) (by simp[h5])
theorem aCL{mb cl:Nat}{es:Array MapEntry}:∀p∈[(mb,Obj.map es cl)],cU p.2:=by
 intro p hp;simp only[LT,n4,bOZ]at hp;subst hp;trivial
set_option maxHeartbeats 1000000 in
theorem NY{b:bH}{bv lv cv:Γ}{wb mb:Nat}(hbo:aMP b)(hbv:bv=.agg #[qI b.chairs,qI b.coin,qI b.box,lv,cv]):
  ∀(j i:Nat) (s:Sc) (es:Array MapEntry) (cl:Nat) (Mm:List (xU 9×Bool)) (D:aC),i+j=b.lines.length→bLH b s i→aND s→GF b s→T2 BZ Value.bool es Mm→CB b Mm→iM D bv b→At D wb 0 [qI b.chairs,qI b.coin,qI b.box,lv,cv,.map (some mb)]→
  IF prog 226 [qP wb,XF s,qI (i:Int)] D [(mb,.map es cl)] (fun _ v ν'=>v=.bool (nG b (b.lines.drop i) i s)∧∃es' cl' M',ν'=[(mb,.map es' cl')]∧T2 BZ Value.bool es' M'∧CB b M'):=by
 subst hbv;intro j;induction j using Nat.strongRecOn with
 |_ j ih=>
 intro i s es cl Mm D hij hsb hsp hsi hM hok hb0 hA;obtain⟨ch,tk,mo,mi⟩:=s;obtain⟨c0,c1,c2,c3,rfl⟩:=OK hsb.lc;obtain⟨k0,k1,k2,k3,rfl⟩:=OK hsb.lt;have hb:=hb0;obtain⟨lv',cv',he,hl,hc⟩:=hb;obtain⟨rfl,rfl⟩:=OZ he;have hl8:=hbo.l8;have hch:=hbo.ch;have hco:=hbo.co;have hbx:=hbo.bx;have hmo:=hsb.mo;have hmi:=hsb.mi;simp only at hmo hmi;show IF _ _ [qP wb,.agg #[qI c0,qI c1,qI c2,qI c3,qI k0,qI k1,qI k2,qI k3,qI mo,qI mi],qI (i:Int)] _ _ _;refine jH 94 func226 rfl rfl rfl rfl fun h0 hwl hwn=>aA<|Zz rfl fun q1 E1 hE1 hB1=>Zf rfl<|bO<|Za3<|bN [] 5 8 48<|Za rfl<|Zam rfl<|Zj rfl zG rfl<|dX rfl (k:=0) gU fI rfl hA Yc rfl rfl n4 rfl bSM<|Zv rfl kL rfl hB1 dY ?_;refine Za rfl<|Zd rfl (fun D1 hD1=>HS _ b (⟨[c0,c1,c2,c3],[k0,k1,k2,k3],mo,mi⟩:Sc) i _ (hb0.up (hD1 _ Yf)) rfl rfl)<|Zat rfl<|aF<|Zaf rfl (fun hc1=>?_) fun hc1=>?_
 ·refine Wci ?_;exact Zaj [] [] [_] [_] rfl ⟨rfl,bSM⟩ rfl fun D' hD=>⟨bNB Value.bool (bCE Xaa).symm,es,cl,Mm,rfl,hM,hok⟩
 ·have hcd:hZ b (⟨[c0,c1,c2,c3],[k0,k1,k2,k3],mo,mi⟩:Sc) i=true:=Xaa
  refine aQ<|bZ<|Za rfl<|Za rfl<|Zam rfl<|Zj rfl zG rfl<|Zj rfl dM rfl<|Zh 3 rfl iB rfl hA rfl<|Zai rfl U33 rfl hl rfl<|Zas rfl<|aF<|Zae rfl (fun hc2=>?_) fun hc2=>?_
  ·refine Wci ?_;exact Zaj [] [] [_] [_] rfl ⟨rfl,bSM⟩ rfl fun D' hD=>⟨bNB Value.bool (aOY hcd hc2).symm,es,cl,Mm,rfl,hM,hok⟩
  ·have hil:i<b.lines.length:=Yd
   obtain⟨z,hz⟩:=cT b.lines i;have hdr:b.lines.drop i=z::b.lines.drop (i+1):=by rw[bOF hil];congr 1;exact bNS ((bMU hil).symm.trans hz)
   refine aQ<|Za3<|oS [] 3 [false,true,true,true,true,true,true,false,true,false] [.fork [0,1,2,4,5] 3 (.fork [] 6 (.fin [7,8]) 8 (.fin [6,7])) 8 (.fin [3,6,7]),.fin [9]] bB (fun _ _ _ h=>jW (P:=prog) (fn:=f226) _ _ _ h) Yg ?_;apply HU (γ:=Nat) (fun _=>True) _ _ _ [.fork [0,1,2,4,5] 3 (.fork [] 6 (.fin [7,8]) 8 (.fin [6,7])) 8 (.fin [3,6,7])] [.fin [9]] rfl
   ·refine tI<|bQ [(false,0),(true,1),(true,2),(true,4),(true,5)] rfl<|Za rfl<|Zj rfl uO rfl<|dX rfl (k:=0) uJ oV rfl hB1 Yc rfl rfl n4 rfl bSM<|Zj rfl uV rfl<|dX rfl (k:=4) uJ oV rfl hB1 Yc rfl rfl n4 rfl bSM<|Zao (dZ true true rfl rfl ?_ ?_)
    ·refine Zd rfl (fun D2 hD2=>GX [c0,c1,c2,c3] _ rfl)<|Zao<|bQ [] rfl<|Zao (dZ true true rfl rfl ?_ ?_)
     ·refine Zd rfl (fun D3 hD3=>GX [k0,k1,k2,k3] _ rfl)<|Zao<|aW [(false,7),(true,8)] rfl<|jM (cs:=[qI (i:Int),qI (min c0 1),qI (min c1 1),qI (min c2 1),qI (min c3 1),qI (min k0 1),qI (min k1 1),qI (min k2 1),qI (min k3 1)]) rfl NL Q6 rfl Yg rfl bSM<|Zah rfl Q6 rfl fun q2=>Zao ?_;exact fun a w hh=>⟨q2,bSM,hh⟩
     ·refine Zah rfl Q6 rfl fun q2=>Zao<|aW [(true,6),(false,7)] rfl<|Wak ?_;exact fun a w hh=>⟨q2,bSM,hh.weak cF Mm5 aK⟩
    ·refine Zah rfl Q6 rfl fun q2=>Zao<|aW [(true,3),(true,6),(false,7)] rfl<|Zd rfl (fun D2 hD2=>GX [c0,c1,c2,c3] _ rfl)<|Wak ?_;exact fun a w hh=>⟨q2,bSM,hh.weak cF Mm5 aK⟩
   rintro q2 -;refine mS [(false,9)] rfl<|Zab rfl CX ζ<|Zao<|oL<|Zaz<|Za3<|bN [] 6 11 784<|Za rfl<|Zam rfl<|Zj rfl s8 rfl<|Zh 5 rfl PS rfl hA rfl<|Zag rfl PJ rfl Mm0 CX ?_;refine ME (val:=BZ (n:=9)) (wal:=Value.bool) (a:=⟨[(i:Int),min c0 1,min c1 1,min c2 1,min c3 1,min k0 1,min k1 1,min k2 1,min k3 1],rfl⟩) rfl U370 aQM pV rfl rfl Mm1 n4 hM rfl bSM fun nv ok hin hout=>Za rfl<|Zap rfl<|Zap rfl<|Zf rfl<|Zf rfl<|bC<|Za rfl<|aF<|Zaf rfl (fun hc3=>?_) fun hc3=>?_
   ·obtain⟨r,rfl,hmem⟩:=hin hc3;refine aA<|Za rfl<|Wg ?_;exact Zaj [(_,_)] [] [_] [_] rfl ⟨rfl,bSM⟩ rfl fun D' hD=>⟨bNB Value.bool (hok _ hmem i (⟨[c0,c1,c2,c3],[k0,k1,k2,k3],mo,mi⟩:Sc) hsi hsp rfl rfl),es,cl,Mm,rfl,hM,hok⟩
   ·obtain rfl:=hout hc3;refine aQ<|Za3<|Za3<|iZ [] 3 [0,1,2,3,4,5,6,7,8,9,10,11,14,12,13] [false,false,false,false,true,true,true,true,true,true,true,true,true,true,true] [(false,0),(false,1),(false,2),(false,3),(true,4),(true,5),(true,6),(true,7),(true,8),(true,9),(true,10),(true,11),(true,14),(true,12),(true,13)] bB (fun _ _ _ h=>jW (P:=prog) (fn:=f226) _ _ _ h) Yg rfl<|Za rfl<|Zam rfl<|Zj rfl zG rfl<|dX rfl (k:=0) gU fI rfl hA Yc rfl rfl n4 rfl bSM<|Za rfl<|Zam rfl<|Zj rfl zG rfl<|Zj rfl dM rfl ?_;refine Zh 3 rfl iB rfl hA rfl<|Za rfl<|Zx rfl U33 cG rfl hl rfl hz fun b1 o1 cs1 hr1 hcl1 hA1=>?_;obtain rfl:cs1=[qI _,qI _,qI _]:=hr1;refine Zv rfl nN rfl hA1 cG<|Za rfl<|Zy rfl (fun D4 hD4=>I8 _ b z _ (hb0.up (hD4 _ Yf)) Yd) fun v4 D4 hD4 hp4=>?_;have hr:=hp4;have hrl:=hr.len;refine eE rfl U33 rfl Ym rfl rfl bSM<|aF<|Za1<|Zc (Nat×Array MapEntry×Nat×List (xU 9×Bool)) (fun g=>(cN b.chairs z).length-g.1) (fun g=>g.1≤(cN b.chairs z).length∧((cN b.chairs z).take g.1).any (fun r=>bGT b i (⟨[c0,c1,c2,c3],[k0,k1,k2,k3],mo,mi⟩:Sc) r)=false∧T2 BZ Value.bool g.2.1 g.2.2.2∧CB b g.2.2.2) (fun g=>[(63,qI (g.1:Int)),(8,.bool false)]) [(62,_),(61,_),(7,_),(6,_),(4,_),(0,_),(2,_)] (fun g=>[(q2,qC [qI (i:Int),qI (min c0 1),qI (min c1 1),qI (min c2 1),qI (min c3 1),qI (min k0 1),qI (min k1 1),qI (min k2 1),qI (min k3 1)] 433),(mb,.map g.2.1 g.2.2.1)]) (fun g=>[D4,E1,D]) (0,es,cl,Mm) ⟨Yf,rfl,hM,hok⟩ ⟨Ya,Ya,bSM⟩ Mm5 ?_;rintro⟨k,es2,cl2,M2⟩ ⟨h1,hno,hM2,hok2⟩;simp only at h1 hno hM2 hok2;refine aA<|Zan rfl<|bO<|Zae rfl (fun hc4=>?_) (fun hc4=>?_)
    ·simp only at hc4;obtain⟨x,hx⟩:=cT (cN b.chairs z) k;have hin:=((o8 (hbo.ln z (n5 hz))).1 (n5 hx)).1;refine aQ<|Za3<|Za1<|aA<|Zx rfl U33 cG rfl hr rfl hx fun b2 o2 cs2 hr2 hcl2 hA2=>?_;obtain rfl:cs2=[qI _,qI _,qI _]:=hr2;refine Zv rfl nN rfl hA2 cG<|Zah rfl kO rfl fun q3=>Zab rfl cG ζ<|bO ?_;have hif:(rH (if lX (⟨[c0,c1,c2,c3],[k0,k1,k2,k3],mo,mi⟩:Sc) x=true then(fK b (⟨[c0,c1,c2,c3],[k0,k1,k2,k3],mo,mi⟩:Sc) i x)else(⟨[c0,c1,c2,c3],[k0,k1,k2,k3],mo,mi⟩:Sc))).length=10:=by split;exact XJ rfl rfl;rfl
     have hnl:(rH (fK b (⟨[c0,c1,c2,c3],[k0,k1,k2,k3],mo,mi⟩:Sc) i x)).length=10:=XJ rfl rfl;refine oS (cZ.mk [wb,q1,q3]) 6 [false,false,false,false,true,true,true,true,false,false,true,true,true,false] [.fork [0,1,2,3,4,5,6] 7 (.fin [8,9,10,11]) 11 (.fin [7,8,9,10]),.fin [12,13]] bB (fun _ _ _ h=>jW (P:=prog) (fn:=f226) _ _ _ h) Yg ?_;apply HU (γ:=Nat) (fun _=>True) _ _ _ [.fork [0,1,2,3,4,5,6] 7 (.fin [8,9,10,11]) 11 (.fin [7,8,9,10])] [.fin [12,13]] rfl
     ·refine tI<|bQ [(false,0),(false,1),(false,2),(false,3),(true,4),(true,5),(true,6)] rfl<|Za rfl<|Zam rfl<|Zj rfl zG rfl<|dX rfl (k:=0) gU fI rfl hA Yc rfl rfl (cZ.out Yf) rfl bSM<|cK rfl kL rfl hB1 Yl dY (cZ.out Yf) rfl bSM<|Za rfl<|bL rfl nN rfl Mm0 cG (cZ.out Yf) rfl bSM<|Zao (dZ true true rfl rfl ?_ ?_)
      ·refine Zd rfl (fun D5 hD5=>DA _ b (⟨[c0,c1,c2,c3],[k0,k1,k2,k3],mo,mi⟩:Sc) i x _ (hb0.up (hD5 _ Yf)) rfl rfl Yba Yba Yd (by show -100000≤mo∧mo≤100000;omega) (by show 0≤mi∧mi≤1000;omega) Yd)<|Zao<|aW [(false,8),(false,9),(true,10),(true,11)] rfl<|Za rfl<|Zap rfl<|Zap rfl<|Zah rfl wY rfl fun q4=>Zao ?_;exact fun a w hh=>⟨q4,bSM,hh⟩
      ·refine Zah rfl wY rfl (fun q4=>Zao<|aW [(true,7),(false,8),(false,9),(true,10)] rfl<|Zd rfl (fun D5 hD5=>DA _ b (⟨[c0,c1,c2,c3],[k0,k1,k2,k3],mo,mi⟩:Sc) i x _ (hb0.up (hD5 _ Yf)) rfl rfl Yba Yba Yd (by show -100000≤mo∧mo≤100000;omega) (by show 0≤mi∧mi≤1000;omega) Yd)<|Za rfl<|Zap rfl<|Zap rfl<|Zao ?_);exact fun a w hh=>⟨q4,bSM,hh.weak cF Mm5 aK⟩
     rintro q4 -;refine mS [(true,12),(false,13)] rfl<|kN hA Yf (fun hap1=>kN hB1 Yf fun hap2=>bHG fun hnd=>mZ (off:=0) (us:=ints (rH (if lX (⟨[c0,c1,c2,c3],[k0,k1,k2,k3],mo,mi⟩:Sc) x=true then(fK b (⟨[c0,c1,c2,c3],[k0,k1,k2,k3],mo,mi⟩:Sc) i x)else(⟨[c0,c1,c2,c3],[k0,k1,k2,k3],mo,mi⟩:Sc)))) (ws:=ints (rH (if lX (⟨[c0,c1,c2,c3],[k0,k1,k2,k3],mo,mi⟩:Sc) x=true then(fK b (⟨[c0,c1,c2,c3],[k0,k1,k2,k3],mo,mi⟩:Sc) i x)else(⟨[c0,c1,c2,c3],[k0,k1,k2,k3],mo,mi⟩:Sc)))) rfl rfl rfl rfl (by rw[show(ints _).length=10 by simp[hif]];exact dY) .head (by simp[hif]) (by simp[hif]) (dP _) (bNC (cZ.in_ (bJJ hap1 hap2 hnd))) bSM<|Zf rfl<|Zao<|oL<|Zaz<|aA<|Wbc ?_);refine bJS (γ:=Bool×Array MapEntry×Nat×List (xU 9×Bool)) (fun g=>g.1=bGT b i (⟨[c0,c1,c2,c3],[k0,k1,k2,k3],mo,mi⟩:Sc) x∧T2 BZ Value.bool g.2.1 g.2.2.2∧CB b g.2.2.2) (fun g=>g.1) (fun g=>[(q4,qC (ints (rH (if lX (⟨[c0,c1,c2,c3],[k0,k1,k2,k3],mo,mi⟩:Sc) x=true then(fK b (⟨[c0,c1,c2,c3],[k0,k1,k2,k3],mo,mi⟩:Sc) i x)else(⟨[c0,c1,c2,c3],[k0,k1,k2,k3],mo,mi⟩:Sc)))) 242),(q3,qC [qI x.kind,qI x.chair,qI x.token] 206),(q2,qC [qI (i:Int),qI (min c0 1),qI (min c1 1),qI (min c2 1),qI (min c3 1),qI (min k0 1),qI (min k1 1),qI (min k2 1),qI (min k3 1)] 433),(mb,.map g.2.1 g.2.2.1)]) [(false,2),(false,3),(false,4),(false,5),(false,6),(false,7)] [] (s:=79) (p:=85) rfl rfl (fun hg1=>?_) (fun hg1=>?_) ?_
     ·have hgc:=hg1;rw[bNK hgc];refine Zb rfl<|bL (e:=242) (fz:=(0,0)) rfl kL rfl Mm0 (by rw[show(ints _).length=10 by simp[hnl]];exact dY) n4 rfl ⟨_,rfl,rfl⟩<|Zb rfl<|oC rfl rfl rfl Ye rfl ⟨_,rfl,rfl⟩<|aV ([(_,_),(_,_),(_,_)]++[(_,_)]++([])) rfl<|gF (A:=[(_,_),(_,_),(_,_)]) (ν:=[(_,_)]) (B:=[]) rfl rfl rfl rfl (bNI rfl) aCL (fun D9 hD9=>ih (j-1) Yd (i+1) (fK b (⟨[c0,c1,c2,c3],[k0,k1,k2,k3],mo,mi⟩:Sc) i x) es2 cl2 M2 _ Yd (aWD hbo hsb x i) (FH hsp i x) (aTA hsi rfl hgc hin.2.1 (by have:=hin.2.2.1;omega)) hM2 hok2 (hb0.up (hD9 _ Yf)) (hA.up (hD9 _ Yf))) rfl ⟨_,rfl,rfl⟩ (fun v9 D10 _ hD10 hp9=>?_)
      obtain⟨rfl,es3,cl3,M3,rfl,hM3,hok3⟩:=hp9;refine Zak rfl ?_;exact BC fun a w hh=>⟨(_,es3,cl3,M3),⟨bJN Ym,hM3,hok3⟩,(hh.cutK 5 rfl).ds fun _ h=>bNM _ (h)⟩
     ·refine Wo ?_;exact BC fun a w hh=>⟨(false,es2,cl2,M2),⟨bLF Ym,hM2,hok2⟩,hh.cutK 5 rfl⟩
     rintro⟨bm,es3,cl3,M3⟩ ⟨hbm,hM3,hok3⟩;simp only at hbm hM3 hok3;refine aF<|Zaf rfl (fun hc5=>?_) fun hc5=>?_
     ·obtain rfl:bm=true:=hc5;have hres:true=nG b (b.lines.drop i) i (⟨[c0,c1,c2,c3],[k0,k1,k2,k3],mo,mi⟩:Sc):=by rw[hdr,nG,hcd,bQZ];exact(bRD.2 ⟨x,n5 hx,hbm.symm⟩).symm
      refine aA<|Zf rfl<|aF<|Za6<|sR rfl<|Za2<|Za2<|Za7<|Zaz<|Za3<|bN [] 3 7 48<|Za rfl ?_;refine Zam rfl<|Zj rfl s8 rfl<|Zh 5 rfl PS rfl hA rfl<|Zag rfl PJ rfl Mm2 CX<|Za rfl<|AM (val:=BZ (n:=9)) (wal:=Value.bool) (A:=[(_,_),(_,_),(_,_)]) (B:=[]) (a:=⟨[(i:Int),min c0 1,min c1 1,min c2 1,min c3 1,min k0 1,min k1 1,min k2 1,min k3 1],rfl⟩) (n:=true) rfl U370 aQM rfl rfl rfl hM3 bSM fun es9 cl9 M9 hM9 hm9=>aJ<|Za rfl<|We ?_;exact Zaj [(_,_),(_,_),(_,_)] [] [_] [_] rfl ⟨rfl,bSM⟩ rfl fun D' hD=>⟨bNB Value.bool hres,es9,cl9,M9,rfl,hM9,hok3.add hm9 rfl hsi hsp rfl hres⟩
     ·obtain rfl:bm=false:=hc5;have hgo:bGT b i (⟨[c0,c1,c2,c3],[k0,k1,k2,k3],mo,mi⟩:Sc) x=false:=hbm.symm;refine Wbs ?_;exact aL 24 (k+1,es3,cl3,M3) ⟨Yn,by simp only;rw[bMZ,hx,bQK,hno];simp[hgo],hM3,hok3⟩ Yn ⟨Ya,Ya,bSM⟩ rfl rfl (List.Sublist.cons _ (List.Sublist.cons _ Mm5)) (aK)
    ·obtain rfl:k=(cN b.chairs z).length:=by simp only at hc4;omega
     rw[bNR]at hno;have hres:false=nG b (b.lines.drop i) i (⟨[c0,c1,c2,c3],[k0,k1,k2,k3],mo,mi⟩:Sc):=by rw[hdr,nG,hcd];exact hno.symm
     refine Za6<|Za2<|Za2<|Za7<|Zaz<|Za3<|bN [] 3 7 48<|Za rfl<|Zam rfl<|Zj rfl s8 rfl<|Zh 5 rfl PS rfl hA rfl<|Zag rfl PJ rfl Mm0 CX ?_;refine Za rfl<|AM (val:=BZ (n:=9)) (wal:=Value.bool) (A:=[(_,_)]) (B:=[]) (a:=⟨[(i:Int),min c0 1,min c1 1,min c2 1,min c3 1,min k0 1,min k1 1,min k2 1,min k3 1],rfl⟩) (n:=false) rfl U370 aQM rfl rfl rfl hM2 bSM fun es9 cl9 M9 hM9 hm9=>aJ<|Za rfl<|We ?_;exact Zaj [(_,_)] [] [_] [_] rfl ⟨rfl,bSM⟩ rfl fun D' hD=>⟨bNB Value.bool hres,es9,cl9,M9,rfl,hM9,hok2.add hm9 rfl hsi hsp rfl hres⟩
theorem CS(b:bH):bLH b (gW b) 0:=⟨rfl,rfl,by simp[gW],by simp[gW]⟩
theorem u5(b:bH):aND (gW b):=⟨fun x hx=>by simp[gW]at hx;omega,fun x hx=>by simp[gW]at hx;omega⟩
theorem AY(bv:Γ)(b:bH)(D:aC)(hb:iM D bv b)(hbo:aMP b):Fn prog 141 #[bv] D (fun _ v=>v=.bool (decide (truths b≠[]))):=by
 have O:=hb;obtain⟨lv,cv,rfl,hl,hc⟩:=hb;refine Zw 10 func141 rfl fun h0=>aA<|Zz rfl fun q1 E1 hJ hB=>Zf rfl<|bO<|oS [] 3 [false,true,true,true,true,true,false,false] [.fork [0,4] 1 (.fork [2] 3 (.fin [5]) 5 (.fin [3])) 5 (.fin [1,2,3]),.fin [6,7]] bB (fun _ _ _ h=>fW (P:=prog) (fn:=f141) _ _ _ h) Yg<|tI<|bQ [(false,0),(true,4)] rfl<|Zv rfl gU rfl hB fI<|Zv rfl gU rfl hB fI<|Zao (dZ true true rfl rfl ?_ ?_)
 ·refine zJ rfl rfl bSM (fun qm=>Zao<|bQ [(true,2)] rfl<|jM (cs:=[qI b.chairs,qI b.coin,qI b.box,lv,cv,.map (some qm)]) rfl aEU aDF rfl Yg rfl bSM<|Zao (dZ true true rfl rfl ?_ ?_))
  ·refine Zz rfl fun q2 E2 hE R=>Zao<|aW [(true,5)] rfl<|Zd rfl (fun D1 U=>yF _ b _ (O.up (U _ Yf)))<|Zao<|mS [(false,6),(false,7)] rfl<|gF (A:=[]) (ν:=[(_,_)]) (B:=[]) rfl rfl rfl rfl (bNI rfl) aCL (fun D9 I=>NY hbo rfl b.lines.length 0 (gW b) #[] 0 [] _ Yd (CS b) (u5 b) (AI b) rfl CB.nil (O.up (I _ Yf)) (R.up (I _ Yf))) rfl bSM fun v9 D10 _ Y V=>?_;obtain⟨rfl,hF,hH,M3,rfl,hI,Z⟩:=V;refine Zf rfl<|Zao<|oL<|Zaz<|HQ ?_;exact aE rfl fun D hD=>Xct
  ·refine Zd rfl (fun D1 U=>yF _ b _ (O.up (U _ Yf)))<|Zao<|aW [(true,3)] rfl<|Zz rfl fun q2 E2 hE R=>Zao<|mS [(false,6),(false,7)] rfl<|gF (A:=[]) (ν:=[(_,_)]) (B:=[]) rfl rfl rfl rfl (bNI rfl) aCL (fun D9 I=>NY hbo rfl b.lines.length 0 (gW b) #[] 0 [] _ Yd (CS b) (u5 b) (AI b) rfl CB.nil (O.up (I _ Yf)) (R.up (I _ Yf))) rfl bSM fun v9 D10 _ Y V=>?_;obtain⟨rfl,hF,hH,M3,rfl,hI,Z⟩:=V;refine Zf rfl<|Zao<|oL<|Zaz<|HQ ?_;exact aE rfl fun D hD=>Xct
 ·refine Zd rfl (fun D1 U=>yF _ b _ (O.up (U _ Yf)))<|Zao<|aW [(true,1),(true,2),(true,3)] rfl<|zJ rfl rfl bSM fun qm=>jM (cs:=[qI b.chairs,qI b.coin,qI b.box,lv,cv,.map (some qm)]) rfl aEU aDF rfl Yg rfl bSM<|Zz rfl fun q2 E2 hE R=>Zao<|mS [(false,6),(false,7)] rfl<|gF (A:=[]) (ν:=[(_,_)]) (B:=[]) rfl rfl rfl rfl (bNI rfl) aCL (fun D9 I=>NY hbo rfl b.lines.length 0 (gW b) #[] 0 [] _ Yd (CS b) (u5 b) (AI b) rfl CB.nil (O.up (I _ Yf)) (R.up (I _ Yf))) rfl bSM fun v9 D10 _ Y V=>?_;obtain⟨rfl,hF,hH,M3,rfl,hI,Z⟩:=V;refine Zf rfl<|Zao<|oL<|Zaz<|HQ ?_;exact aE rfl fun D hD=>Xct
theorem JF(bv:Γ)(b:bH)(fine:Bool)(D:aC)(hb:iM D bv b):Fn prog 116 #[bv,.bool fine] D (fun _ v=>v=qI (N1 b fine)):=by
 have I:=hb;obtain⟨lv,cv,rfl,hl,hc⟩:=hb;refine Zw 19 func116 rfl fun h0=>aA<|Zz rfl fun q1 E1 Y O=>Zf rfl<|bC<|Zv rfl gU rfl O fI<|Zd rfl (fun Z R=>A0 _ b _ (I.up (R _ Yf)))<|Zf rfl<|aF<|Za1<|aA<|Za rfl ?_;refine Zax rfl<|Zf rfl<|aF<|Zaf rfl (fun hc1=>?_) fun hc1=>?_
 ·refine aA<|Za rfl<|Zf rfl<|aG<|Za5<|Za0 ?_;exact aE rfl fun D hD=>by show Value.int _ _=_;rw[N1,bNK Xaa]
 ·have U:aZ b=0:=Xaa
  have hbo:=bLD U;refine aA<|Za rfl<|Zat rfl<|Zf rfl<|aF<|Zaf rfl (fun hc2=>?_) fun hc2=>?_
  ·refine Wk ?_;exact aE rfl fun D hD=>by show Value.int _ _=_;rw[N1,bNA Yd,bNK Yav]
  ·refine aA<|Zv rfl gU rfl O fI<|Zd rfl (fun D2 V=>AY _ b _ (I.up (V _ Yf)) hbo)<|Zat rfl<|Zf rfl<|aF<|Zaf rfl (fun hc3=>?_) (fun hc3=>?_)
   ·refine Wk ?_;exact aE rfl fun D hD=>by show Value.int _ _=_;rw[N1,bNA Yd,bNA Yav,bNK Xac]
   ·refine bG<|Wac ?_;exact aE rfl fun D hD=>by show Value.int _ _=_;rw[N1,bNA Yd,bNA Yav,bNA Xac]
theorem YP(l x:eS)(D:aC):Fn prog 206 #[GL l,GL x] D (fun _ v=>v=.bool (tP l x)):=by
 refine Zw 39 func206 rfl fun h0=>aA<|Zz rfl fun q1 E1 hB I=>Zz rfl fun q2 E2 hE O=>Zf rfl<|aJ<|Zj rfl AG rfl<|Zh 0 rfl aI rfl I rfl<|Waw ?_;refine' dL 6 (s:=8) (p:=14) rfl (fun R=>?_) (fun R=>?_) ?_;rotate_left
 ·refine Zk rfl AG rfl<|Zi 0 rfl aI rfl I rfl<|Zk rfl AG rfl<|Zi 0 rfl aI rfl O rfl<|Wbk ?_;exact aN 5
 ·refine Zg rfl<|Wf ?_;exact aN 5
 refine Za rfl ?_;refine' bX 11 (s:=15) (p:=26) rfl (fun U=>?_) (fun U=>?_) ?_;rotate_left
 ·refine Zk rfl AF rfl<|Zi 1 rfl aI rfl I rfl<|GV rfl rfl rfl rfl ⟨_,rfl,rfl⟩<|Zb rfl ?_;refine' dL 6 (s:=19) (p:=25) rfl (fun V=>?_) (fun V=>?_) ?_;rotate_left
  ·refine Zk rfl AF rfl<|Zi 1 rfl aI rfl I rfl<|Zk rfl AF rfl<|Zi 1 rfl aI rfl O rfl<|Wam ?_;exact aN 5
  ·refine Zg rfl<|Zg rfl<|Zg rfl<|Ws ?_;exact aN 5
  refine Zak rfl ?_;exact aN 5
 ·refine Zg rfl<|Zg rfl<|Zg rfl<|Zg rfl<|Wbd ?_;exact aN 10
 refine Za rfl ?_;refine' bX 11 (s:=27) (p:=38) rfl (fun Y=>?_) (fun Y=>?_) ?_;rotate_left
 ·refine Zk rfl yW rfl<|Zi 2 rfl aI rfl I rfl<|GV rfl rfl rfl rfl ⟨_,rfl,rfl⟩<|Zb rfl ?_;refine' dL 6 (s:=31) (p:=37) rfl (fun Z=>?_) (fun Z=>?_) ?_;rotate_left
  ·refine Zk rfl yW rfl<|Zi 2 rfl aI rfl I rfl<|Zk rfl yW rfl<|Zi 2 rfl aI rfl O rfl<|Wam ?_;exact aN 5
  ·refine Zg rfl<|Zg rfl<|Zg rfl<|Ws ?_;exact aN 5
  refine Zak rfl ?_;exact aN 5
 ·refine Zg rfl<|Zg rfl<|Zg rfl<|Zg rfl<|Wbd ?_;exact aN 10
 refine We ?_;exact aE rfl fun D hD=>rfl
def aWW(l:List Cn):List Γ:=l.flatMap fun x=>[qI x.after,qI x.lo,qI x.hi]
theorem bAH(l:List Cn):(aWW l).length=l.length*3:=by
 induction l with
 |nil=>rfl
 |cons c l ih=>unfold aWW at ih ⊢;rw[bNW,LE,ih];simp only[bMX,bOY];omega
theorem bBY{l:List Cn}{i:Nat}{c:Cn}(hi:l[i]?= some c):((aWW l).drop (i*3)).take 3=[qI c.after,qI c.lo,qI c.hi]:=by
  induction l generalizing i with
  |nil=>simp at hi
  |cons d l ih=>
    unfold aWW at ih ⊢
    rw[bNW];cases i with
    | zero => obtain rfl : d = c := by simpa using hi
              rfl
    |succ i=>
      rw[bRA,bOL Yaq,bOA];have:(i+1)*3- [Value.int .i64 d.after,Value.int .i64 d.lo,Value.int .i64 d.hi].length=i*3:=by simp;omega
      rw[this];exact ih Yau
theorem _root_.Go.Fs.kZ.cns{D:aC}{v:Γ}{n:Nat}{l:List Cn}(hF:kZ D v n (aWW l))(hn:l.length=n)(hb:n≤9223372036854775807):Sl D vK 3 v l:=
 hF.sl hn hb fun _i _t hi=>⟨_,rfl,rfl,bBY hi⟩
theorem GQ{a c:Γ}{x y z:Int}(ha:∀u∈[a],cell1 u=true)(hb:∀u∈[c],cell1 u=true):∀u∈[qI x,qI y,qI z,a,c],cell1 u=true:=by
 intro u hu;simp only[LT,n4,bOZ]at hu;rcases hu with rfl|rfl|rfl|rfl|rfl
 ·rfl
 ·rfl
 ·rfl
 ·exact ha _ bMV
 ·exact hb _ bMV
end L3
open Go.ChangeShapes Go.WideShapes Go.RowKit
def T0(W:Δ):aC:=fun b=>match W.heap[b]? with
 |some (.cells cs _ _)=>cs.toList
 |_=>[]
theorem UW(W:Δ){cs:Array Γ}{e:Θ}{fz:Nat×Nat}(h0:W.heap[0]?= some (.cells cs e fz))(hne:cs.toList≠[]):fA (T0 W) W:=by
 have hf:T0 W 0=cs.toList:=by unfold T0;rw[h0]
 refine⟨?_,by rw[hf];exact hne,e,fz,by rw[hf];exact h0⟩;intro b hb;unfold T0 at hb ⊢
 split at hb
 ·rename_i cs e fz h;exact⟨cs,e,fz,h,List.prefix_refl _⟩
 ·exact absurd rfl hb
theorem R5{W:Δ}{b i:Nat}{v:Γ}(h:W.cell? ⟨b,i,none⟩=some v):(T0 W b)[i]?= some v:=by
 unfold World.cell? at h;unfold T0;split at h
 ·rename_i cs e fz hb;simp only at hb;rw[hb];simpa using h
 ·cases h
structure VO(W W':Δ):Prop where
 env:IV W'=IV W
 size:W.heap.size≤W'.heap.size
 old:∀b,b<W.heap.size→W'.heap[b]?= W.heap[b]?
theorem VO.but{W W':Δ}(h:VO W W')(may:MemPlace→Prop):W.keptBut W' may:=by
 refine⟨bNB Prod.fst h.env,bNB Prod.snd h.env,fun i hi=>?_⟩;rw[h.old i hi];cases W.heap[i]? with
 |none=>rfl
 |some o=>cases o<;>first|exact⟨rfl,rfl,rfl,fun _ _=>rfl⟩|exact Or.inr ⟨rfl,rfl⟩|rfl
theorem VO.frozen{W W':Δ}(h:VO W W'){a:Addr}(hl:a.block<W.heap.size):W'.frozen? a=W.frozen? a:=by
 unfold World.frozen?;rw[h.old _ hl]
theorem VO.same{W W':Δ}(h:VO W W'){p:MemPlace}(hp:p.block<W.heap.size):W.sameAt W' p:=by
 cases p with
 |cell b off=>
  simp only[World.sameAt,World.cell?];rw[h.old b hp]
 |map b=>exact h.old b hp
theorem Fn.calls{P:Program}{f:FuncId}{args:Array Γ}{D:aC}{post:aC→Γ→Prop}(h:Fn P f args D post){W:Δ}(hD:fA D W):
  Calls P f args W fun e W'=>∃v D',e=.returned v∧post D' v∧VO W W':=
 (h.2 W hD).mono (by
  rintro e W' ⟨v,D',he,hs,hp⟩;exact⟨v,D',he,hp,hs.env _ rfl,hs.size,fun b hb=>hs.old b hb Yf⟩)
section
variable{H:Type}{enc:Θ×Γ→H}{P:Program}
theorem T6(hl:laidOutB P=true){W W':Δ}{sp:Nat→Bool}:∀(ts:List Θ) (vs:List Γ) (ds:List (DataW H)) (ps:List MemPlace),(∀t∈ts,P.readableRec t=true∧t<P.types.size)→
  DataW.TrodAll enc P W 0 (fun _=>true) true ts vs ds ps→(∀p∈ps,W.sameAt W' p)→(∀p∈ps,sp p.block=true)→DataW.TrodAll enc P W' 0 sp true ts vs ds ps
 | [],vs,ds,ps,_,h,_,_=>by
  obtain⟨rfl,rfl,rfl⟩:=trodAll_nil h;exact trodAll_mk0
 |t::ts,vs,ds,ps,hr,h,hsame,hs=>by
  obtain⟨v,vs',d,ds',p,q,rfl,rfl,rfl,h1,h2⟩:=trodAll_cons h;exact trodAll_cons_mk (WideElems.Trod_stays hl (hr t bMV).1 (hr t bMV).2 h1 (fun x hx=>hsame x (bNE _ hx)) fun x hx=>hs x (bNE _ hx))
   (T6 hl ts vs' ds' q (fun u hu=>hr u (bMT _ hu)) h2 (fun x hx=>hsame x (GE _ hx)) fun x hx=>hs x (GE _ hx))
theorem aIO{f:Func}{s:ChangeSpec}{apart fresh handsOn again:Bool}{W W':Δ}{args:Array Γ}{v:Γ}{ds gs:List (DataW H)}{before pa pv:List MemPlace}(hW:DataW.Whole enc P f.params.toList s.vars apart W args.toList ds gs before)
  (hres:∀(b:Nat) (sp:Nat→Bool) (hd:Bool),DataW.TrodAll enc P W' b sp hd f.resultTypes.toList (v.resultList f.resultTypes.size) (s.fn H (ds++gs)).results [])
  (hargs:∀sp:Nat→Bool,(∀p∈before,sp p.block=true)→DataW.TrodAll enc P W' 0 sp true f.params.toList args.toList (s.fn H (ds++gs)).args pa)
  (hvars:∀sp:Nat→Bool,(∀p∈before,sp p.block=true)→DataW.TrodVars enc P W' sp s.vars (s.fn H (ds++gs)).vars pv)
  (hps:before=pa++pv) (hk:W.keptBut W' (· ∈before)) (hfz:∀a:Addr,a.block<W.heap.size→W'.frozen? a=W.frozen? a)
  (hok:∀(j:Nat) (t:Θ) (r:Γ),f.resultTypes[j]?= some t→(v.resultList f.resultTypes.size)[j]?= some r→Value.okWide P W' .any 0 t r):s.post enc P f apart fresh handsOn again W args v W':=by
 have hold:∀p∈before,(fun b=>decide (b<W.heap.size)) p.block=true:=fun p hp=>by simpa using hW.lt p hp
 have hlt:=hW.lt;refine⟨ds,gs,before,[],pa,pv,hW,hres _ _ _,hargs _ hold,hvars _ hold,World.keptBut_mono (fun p hp=>⟨hp,bNC (by rwa [hps,bNH]at hp)⟩) hk,fun _=>?_⟩;obtain⟨_,_,_,_,_,hz,hn⟩:=hW;refine⟨hok,_,_,([]++pa)++pv,⟨[]++pa,pv,trodAll_append (hargs _ fun _ _=>rfl) (hres _ _ _),hvars _ fun _ _=>rfl,rfl,fun b off hp=>?_,fun ha=>?_⟩,fun p hp _=>?_⟩
 ·have hb:MemPlace.cell b off∈before:=by rw[hps];simpa using hp
  rw[hfz _ (by simpa [MemPlace.block]using hlt _ hb)];exact hz b off hb
 ·have:=hn ha;rw[hps]at this;simpa using this
 ·rw[hps];simpa using hp
theorem aVN{f:Func}{s:ChangeSpec}{tb:Θ}{W W':Δ}{args:Array Γ}{ds gs:List (DataW H)}{before:List MemPlace}(hl:laidOutB P=true)(hp:(f.params.toList.all fun t=>P.readableRec t&&decide (t<P.types.size))=true)(hvars:s.vars=[])
  (hres:f.resultTypes=#[tb]) (htb:P.underlying tb=some .bool) (hW:DataW.Whole enc P f.params.toList s.vars false W args.toList ds gs before) (hs:s.fn H (ds++gs)={results:=[.lit (.bool true)],args:=ds}) (hk:VO W W'):
  s.post enc P f false true false false W args (.bool true) W':=by
 have hlt:=hW.lt;have hW':=hW;obtain⟨p,q,hA,hV,rfl,hfz,hnd⟩:=hW';rw[hvars]at hV;obtain⟨_,rfl⟩:=trodVars_none hV;refine aIO (pa:=p) (pv:=[]) hW (fun b sp hd=>?_) (fun sp hsp=>?_) (fun sp _=>?_) rfl (hk.but _) (fun _=>hk.frozen) (ok_one hres rfl (okWide_bool_mk htb true))
 ·rw[hs,hres];exact trodAll_mk1 (shut_bool htb true)
 ·rw[hs];refine T6 hl _ _ _ _ (fun t ht=>?_) hA (fun x hx=>hk.same (hlt x (bNE _ hx))) fun x hx=>hsp x (bNE _ hx);have:=bNQ.1 hp t ht;simpa using this
 ·rw[hs,hvars];rfl

def Y7(P:Program)(t:Θ){α:Type}(R:Rd α):Prop:=∀{H:Type} (enc:Θ×Γ→H) (W:Δ) (n:Nat) (cs:List Γ) (x:DataW H×List MemPlace),DataW.trod enc P W 0 (fun _=>true) true n t cs=some x→∃a,R (T0 W) a cs
def bMF{α:Type}(R:Rd α)(sz:Nat):Rd (List α):=fun D xs cs=>∃v,cs=[v]∧Sl D R sz v xs
theorem Y7.slice{t e:Θ}{sz:Nat}{α:Type}{R:Rd α}(ht:P.underlying t=some (.slice e))(hc:P.cellsOf e=sz)(hpos:0<sz)(hel:Y7 P e R):Y7 P t (bMF R sz):=fun {H} enc W fuel cs x hx=>by
 rcases DataW.trod_slice ht hx with⟨rfl,_⟩|⟨a,len,cap,elems,rest,n,_,rfl,_,_,hl,hm,hlen,hel',_,_⟩
 ·exact⟨[],_,rfl,Sl.nil⟩
 have hm':cap≤9223372036854775807:=by simpa [maxLen]using hm
 have key:∀i,i<len→∃cs,(∃y,R (T0 W) y cs)∧cs.length=sz∧∀j,j<sz→W.cell? ((a.add (i*sz)).add j)=cs[j]? :=by
  intro i hi;have h1:=hel' i hi;rw[bMU Yd,hc]at h1;simp only[Option.bind_eq_some_iff]at h1;obtain⟨cs,h2,h3⟩:=h1;obtain⟨_,h4,h5⟩:=World.cells?_some h2;exact⟨cs,hel enc W n cs _ h3,h4,h5⟩
 by_cases h0:len=0
 ·subst h0;exact⟨[],_,rfl,some a,cap,rfl,bRC _,Yf,bNI rfl⟩
 have hspot:a=⟨a.block,a.off,none⟩:=by
  obtain⟨cs,_,h2,h3⟩:=key 0 Yd;have h4:=h3 0 hpos;rw[bRB]at h4;simp only[Addr.add,bPG]at h4;rw[bMU (show 0<cs.length by omega)]at h4;unfold World.cell? at h4;split at h4
  ·split at h4
   ·cases h4
   ·rename_i hs;obtain⟨b,o,s⟩:=a;cases s with
    |none=>rfl
    |some=>simp at hs
  ·cases h4
 have pick:∃ys:List α,ys.length=len∧∀i y,ys[i]?= some y→∃cs,R (T0 W) y cs∧cs.length=sz∧∀j,j<sz→W.cell? ((a.add (i*sz)).add j)=cs[j]? :=by
  refine⟨List.ofFn fun i:Fin len=>(key i.1 i.2).choose_spec.1.choose,Yf,fun i y hy=>?_⟩;rw[List.getElem?_ofFn]at hy;split at hy
  ·rename_i hi;cases hy;exact⟨_,(key i hi).choose_spec.1.choose_spec,(key i hi).choose_spec.2.1,(key i hi).choose_spec.2.2⟩
  ·cases hy
 obtain⟨ys,hys,hy⟩:=pick;refine⟨ys,_,rfl,some a,cap,by rw[hys],Yd,Yd,bNC ⟨a.block,a.off,by rw[←hspot],fun i y hi=>?_⟩⟩;obtain⟨cs,h1,h2,h3⟩:=hy i y hi;refine⟨cs,h1,h2,fun j v hj=>?_⟩;have hjl:=(bMW.1 hj).1;have h4:=h3 j Yd;rw[hj,hspot,gY,gY]at h4;exact R5 h4
theorem Y7.trod{t:Θ}{α:Type}{R:Rd α}(h:Y7 P t R){W:Δ}{v:Γ}{d:DataW H}{ps:List MemPlace}(hd:DataW.Trod enc P W 0 (fun _=>true) true t v d ps):∃a,R (T0 W) a v.cells.toList:=by
 obtain⟨fuel,hf⟩:=hd;exact h enc W fuel _ _ hf
theorem WX{t e:Θ}{α:Type}{R:Rd α}{sz:Nat}(ht:P.underlying t=some (.slice e))(h:Y7 P t (bMF R sz)){W:Δ}{r:Reach}{I:Nat}{v:Γ}{d:DataW H}{ps:List MemPlace}(hval:Value.okWide P W r I t v)(hd:DataW.Trod enc P W 0 (fun _=>true) true t v d ps):
  ∃xs,Sl (T0 W) R sz v xs:=by
 obtain⟨a,len,cap,rfl⟩:=okWide_slice ht hval;obtain⟨xs,u,hc,hs⟩:=h.trod hd;simp only[Value.cells,bPN,and_true]at hc;exact⟨xs,by rw[hc];exact hs⟩
end
namespace L3
open L1
open C3
def bFT(_n:Nat)(l:eS)(k j:Nat)(i:Nat):List eS:=((List.range i).map fun t:Nat=>(⟨1+(k:Int),(j:Int),(t:Int)⟩:eS)).filter (tP l)
def bIM(n:Nat)(l:eS)(k:Nat)(j:Nat):List eS:=(List.range j).flatMap fun c=>bFT n l k c n
def WU(n:Nat)(l:eS)(k:Nat):List eS:=(List.range k).flatMap fun a=>bIM n l a n
def aNJ(n:Nat)(l:eS)(k j:Nat):List eS:=WU n l k++bIM n l k j
def WW(n:Nat)(l:eS)(k j i:Nat):List eS:=aNJ n l k j++bFT n l k j i
theorem aSY{n:Nat}{l:eS}{k:Nat}:aNJ n l k 0=WU n l k:=by unfold aNJ bIM;simp
theorem aTB{n:Nat}{l:eS}{k j:Nat}:WW n l k j 0=aNJ n l k j:=by unfold WW bFT;simp
theorem aYF{n:Nat}{l:eS}{k:Nat}:aNJ n l k n=WU n l (k+1):=by unfold aNJ WU;rw[bOG,bOC,bPM]
theorem bDM{n:Nat}{l:eS}{k j:Nat}:WW n l k j n=aNJ n l k (j+1):=by unfold WW aNJ bIM;rw[bOG,bOC,bPM,bND]
theorem bEO{n:Nat}{l:eS}{k j i:Nat}(h:tP l ⟨1+(k:Int),(j:Int),(i:Int)⟩=true):WW n l k j (i+1)=WW n l k j i++[⟨1+(k:Int),(j:Int),(i:Int)⟩]:=by
 unfold WW bFT;rw[bOG,bNG,bOE,bQP,bPP,bNK h,bND];rfl
theorem bJI{n:Nat}{l:eS}{k j i:Nat}(h:tP l ⟨1+(k:Int),(j:Int),(i:Int)⟩=false):WW n l k j (i+1)=WW n l k j i:=by
 unfold WW bFT;rw[bOG,bNG,bOE,bQP,bPP,bNA Xaj];simp
theorem aFL{n:Nat}{l:eS}{k j i:Nat}:(bFT n l k j i).length≤i:=by
 unfold bFT;have:=bOJ (tP l) ((List.range i).map fun t:Nat=>(⟨1+(k:Int),(j:Int),(t:Int)⟩:eS));simpa using this
theorem aEG{n:Nat}{l:eS}{k j:Nat}:(bIM n l k j).length≤j*n:=by
 unfold bIM;have:=jV (m:=n) (f:=fun c=>bFT n l k c n) (List.range j) fun c _=>aFL
 simpa using this
theorem OT{n:Nat}{l:eS}{k:Nat}(h4:n≤4):(WU n l k).length≤k*16:=by
 unfold WU;have:=jV (m:=16) (f:=fun a=>bIM n l a n) (List.range k) fun a _=>by
  have:=aEG (n:=n) (l:=l) (k:=a) (j:=n);have:n*n≤4*4:=bRR h4 h4;omega
 simpa using this
theorem aYT{n:Nat}{l:eS}{k j i:Nat}(h4:n≤4)(hk:k≤2)(hj:j≤n)(hi:i≤n):(WW n l k j i).length≤60:=by
 unfold WW aNJ;rw[LE,LE];have h1:=OT (n:=n) (l:=l) (k:=k) h4;have h2:=aEG (n:=n) (l:=l) (k:=k) (j:=j);have h3:=aFL (n:=n) (l:=l) (k:=k) (j:=j) (i:=i);have:j*n≤4*4:=bRR Yd h4;omega
theorem NF(bv:Γ)(b:bH)(l:eS)(n:Nat)(D:aC)(hb:iM D bv b)(hn:b.chairs=(n:Int))(h4:n≤4):Fn prog 126 #[bv,GL l] D (fun D' v=>Sl D' tZ 3 v (WU n l 2)):=by
 obtain⟨lv,cv,rfl,hl,hc⟩:=hb;refine Zw 39 func126 rfl fun h0=>aA<|Zz rfl fun q1 E1 hI R=>Zz rfl fun q2 U hJ V=>Zf rfl<|aJ<|Zf rfl<|bC<|Zf rfl<|aF<|Za1<|Zc (Nat×Γ×aD) (fun g=>2-g.1) (fun g=>g.1≤2∧bI 254 3 g.2.1 (WU n l g.1).length (A9 (WU n l g.1)) g.2.2) (fun g=>[(5,g.2.1),(6,qI (1+(g.1:Int)))]) [(4,_),(3,_),(2,_)] (fun g=>g.2.2++[]) (fun g=>[U,E1,D]) (0,qN,[]) ⟨Yf,bI.nil⟩ ⟨Ya,Ya,bSM⟩ Mm5 ?_;rintro⟨k,v,ν⟩ ⟨h1,I⟩;simp only at h1 I;refine bZ<|Za rfl<|gJ rfl rfl rfl rfl bSM<|aF<|Zae rfl (fun hc1=>?_) fun hc1=>?_
 ·simp only at hc1;refine aQ<|Za3<|Za1<|aA<|Zf rfl<|aF<|Za1<|Zc (Nat×Γ×aD) (fun g=>n-g.1) (fun g=>g.1≤n∧bI 254 3 g.2.1 (aNJ n l k g.1).length (A9 (aNJ n l k g.1)) g.2.2) (fun g=>[(5,g.2.1),(7,qI (g.1:Int))]) [(10,_),(9,_),(6,_),(4,_),(3,_),(2,_)] (fun g=>g.2.2++[]) (fun g=>[U,E1,D]) (0,v,ν) ⟨Yf,by rw[aSY];exact I⟩ ⟨Ya,Ya,bSM⟩ Mm5 ?_
  rintro⟨j,w,ν2⟩ ⟨h2,haJ⟩;simp only at h2 haJ;refine bZ<|Za rfl<|Zj rfl SV rfl<|Zh 0 rfl aI rfl R rfl<|Zan rfl<|aF<|Zae rfl (fun hc2=>?_) fun hc2=>?_
  ·simp only at hc2;refine aQ<|Za3<|Za1<|aA<|Zf rfl<|aF<|Za1<|Zc (Nat×Γ×aD) (fun g=>n-g.1) (fun g=>g.1≤n∧bI 254 3 g.2.1 (WW n l k j g.1).length (A9 (WW n l k j g.1)) g.2.2) (fun g=>[(5,g.2.1),(8,qI (g.1:Int))]) [(16,_),(15,_),(14,_),(13,_),(7,_),(10,_),(9,_),(6,_),(4,_),(3,_),(2,_)] (fun g=>g.2.2++[]) (fun g=>[U,E1,D]) (0,w,ν2) ⟨Yf,by rw[aTB];exact haJ⟩ ⟨Ya,Ya,bSM⟩ Mm5 ?_
   rintro⟨i,u,ν3⟩ ⟨h3,haI⟩;simp only at h3 haI;refine bZ<|Za rfl<|Zj rfl SV rfl<|Zh 0 rfl aI rfl R rfl<|Zan rfl<|aF<|Zae rfl (fun hc3=>?_) fun hc3=>?_
   ·simp only at hc3;refine aQ<|Za3<|Za1<|aA<|Zv rfl aCF rfl V lK<|Za rfl<|Za rfl<|Za rfl<|Zu [qI (1+(k:Int)),qI (j:Int),qI (i:Int)] rfl CV qU rfl<|Zd rfl (fun D1 hK=>YP l (⟨1+(k:Int),(j:Int),(i:Int)⟩:eS) _)<|aF<|Zaf rfl (fun hc4=>?_) (fun hc4=>?_)
    ·have hag:tP l (⟨1+(k:Int),(j:Int),(i:Int)⟩:eS)=true:=hc4;refine aO<|Za rfl<|Za rfl<|Za rfl<|Za rfl<|Zu [qI (1+(k:Int)),qI (j:Int),qI (i:Int)] rfl CV qU rfl<|Zt rfl U57 lK qU rfl (.cons rfl rfl .nil) fun hE hH Y O=>?_;have hli:=aYT (n:=n) (l:=l) (k:=k) (j:=j) (i:=i) Yd Yd Yd Yd;refine aS (A:=[]) (B:=[]) rfl U57 rfl rfl lK qU rfl CE rfl rfl rfl haI (jY.lit O) Yf rfl (GP _) Yk Yd (bNI rfl) rfl bSM fun v7 ν7 Z=>?_;have hB:bI 254 3 v7 (WW n l k j (i+1)).length (A9 (WW n l k j (i+1))) ν7:=by rw[bEO hag];simpa [A9]using Z
     refine Wu ?_;exact aL 23 (i+1,v7,ν7) ⟨Yn,hB⟩ Yn ⟨Ya,Ya,bSM⟩ rfl rfl Mm5 fun D h=>⟨D,bNM _ (h),Le.refl D⟩
    ·have hag:tP l (⟨1+(k:Int),(j:Int),(i:Int)⟩:eS)=false:=hc4;refine Wch ?_;exact aL 15 (i+1,u,ν3) ⟨Yn,by simp only;rw[bJI hag];exact haI⟩ Yn ⟨Ya,Ya,bSM⟩ rfl rfl Mm5 (aK)
   ·have hi:i=n:=by simp only at hc3;omega
    rw[hi,bDM]at haI;refine Wbp ?_;exact aL 14 (j+1,u,ν3) ⟨Yn,haI⟩ Yn ⟨Ya,Ya,bSM⟩ rfl rfl Mm5 (aK)
  ·have hj:j=n:=by simp only at hc2;omega
   rw[hj,aYF]at haJ;refine Wbp ?_;exact aL 12 (k+1,w,ν2) ⟨Yn,haJ⟩ Yn ⟨rfl,(by first|rfl|(show some (Value.int _ _)=some (Value.int _ _);congr 2;push_cast;omega)),bSM⟩ rfl rfl Mm5 (aK)
 ·have hk:k=2:=by simp only at hc1;omega
  rw[hk]at I;refine Za6<|Za2<|Za2<|Za7<|Zaz<|aA<|Za rfl<|Zf rfl<|aG<|dS (A:=[]) (B:=[]) I rfl fun D2 hN hF=>?_;exact aE rfl fun D hD=>(hF.lins rfl (by have:=OT (l:=l) (k:=2) h4;omega)).up tZ.up (hD _ Yf)
def j6(n:Nat)(ls:List eS):Int:=ls.foldl (fun(m:Int) l=>min 5000 (m*((WU n l 2).length:Int))) 1
theorem YW{n:Nat}{ls:List eS}{i:Nat}{x:eS}(hx:ls[i]?= some x):j6 n (ls.take (i+1))=min 5000 (j6 n (ls.take i)*((WU n x 2).length:Int)):=by
 unfold j6;rw[bMZ,hx,bNU,bOR];rfl
theorem aSQ(n:Nat)(ls:List eS):0≤j6 n ls∧j6 n ls≤5000:=by
 unfold j6;have key:∀(l:List eS) (m:Int),0≤m∧m≤5000→0≤l.foldl (fun(m:Int) l=>min 5000 (m*((WU n l 2).length:Int))) m∧l.foldl (fun(m:Int) l=>min 5000 (m*((WU n l 2).length:Int))) m≤5000:=by
  intro l;induction l with
  |nil=>intro m h;exact h
  |cons x l ih=>
   intro m h;rw[bNX];refine ih _ ⟨?_,Yd⟩;have:0≤m*((WU n x 2).length:Int):=bSI h.1 Yd;omega
 exact key ls 1 Yd
theorem bDG{m:Int}{k:Nat}(h:0≤m∧m≤5000)(hk:k≤2*16):wD .i64 (m*(k:Int)):=by
 have h1:0≤m*(k:Int):=bSI h.1 Yd;have h2:m*(k:Int)≤5000*32:=Int.mul_le_mul h.2 Yd Yd Yd;simp only[wD];omega
theorem N5(bv:Γ)(b:bH)(n:Nat)(D:aC)(hb:iM D bv b)(hn:b.chairs=(n:Int))(h4:n≤4):Fn prog 56 #[bv] D (fun _ v=>v=qI (j6 n b.lines)):=by
 have R:=hb;obtain⟨lv,cv,rfl,hl,hc⟩:=hb;have hll:=hl.len;refine Zw 24 func56 rfl fun h0=>aA<|Zz rfl fun q1 E1 hE I=>Zf rfl<|aJ<|Zf rfl<|bC<|Zf rfl<|aF<|Za1<|bM (γ:=Nat) (fun k=>b.lines.length-k) (fun k=>k≤b.lines.length) (fun k=>[(4,qI (k:Int)),(3,qI (j6 n (b.lines.take k)))]) [(2,_),(1,_)] (fun k=>[E1,D]) 0 Yd ⟨Ya,Ya,bSM⟩ cF (aK) ?_;rintro k h1;refine bZ<|Za rfl<|Zj rfl iG rfl<|Zh 3 rfl sC rfl I rfl<|Zai rfl U57 rfl hl rfl<|Zan rfl<|aF<|Zae rfl (fun hc1=>?_) fun hc1=>?_
 ·have hk:k<b.lines.length:=Yd
  obtain⟨x,hx⟩:=cT b.lines k;refine aQ<|Za3<|Za1<|bN [] 7 12 510<|Za rfl<|Zv rfl aUL rfl I QA<|Zj rfl iG rfl<|Zh 3 rfl sC rfl I rfl<|Za rfl<|Zx rfl U57 lK rfl hl rfl hx fun b1 o1 U V hB Y=>?_;obtain rfl:U=[qI _,qI _,qI _]:=V;refine Zv rfl aCF rfl Y lK<|Zy rfl (fun D1 O=>NF _ b x n _ (R.up (O _ Yf)) hn h4) fun v1 D1 O Z=>?_;have hr:=Z;have hrl:=OT (l:=x) (k:=2) h4;have hmk:=aSQ n (b.lines.take k);refine Zai rfl U57 rfl hr rfl<|F9 rfl rfl rfl (bDG hmk hrl) rfl bSM<|NT rfl rfl rfl rfl bSM<|Wu ?_;exact aL 22 (k+1) Yd Yd ⟨Ya,(by rw[YW hx];rfl),bSM⟩ rfl rfl Mm5 fun D h=>⟨D,bNM _ (h),Le.refl D⟩
 ·obtain rfl:k=b.lines.length:=Yd
  rw[bNR];refine Wm ?_;exact aE rfl fun D hD=>rfl
end L3
end Go.Fs
