/- Of BookPlays. -/
import Derived.Test.YtdjdcpieiedfgaaGreatDoorZBookPlaysAC
import Derived.ProofKit
import Derived.OpenShut
import Derived.WideKeyArgs
import Derived.JoinedCond
namespace Go.Fs
open Go.Proofs Tryz
namespace L7
open C7
def Q5(l:List Int):Nat:=(l.filter fun n=>decide (n=2)).length
theorem aDG(l:List Int):Q5 l≤l.length:=bMO _ _
theorem aOH(l:List Ch):dK l≤3*l.length:=by
 induction l with
 |nil=>simp[dK]
 |cons c l ih=>
  have:aBM c.parts≤3:=bMO _ _;simp only[dK,bMD,List.sum_cons,bLF]at ih ⊢
  omega
theorem SB{l:List Ch}{i:Nat}{x:Ch}(hx:l[i]?= some x):((dK (l.take (i+1)):Nat):Int)=((dK (l.take i)+Q5 (x.parts.l.take 3):Nat):Int):=by
 rw[bLA,hx];simp[dK,aBM,Q5,Pt.l]
theorem aXF{x:Ch}{k:Nat}{n:Int}(hx:lC x=true)(hn:x.parts.l[k]?= some n):0≤n∧n≤2:=by
 simp only[lC,bKW,SL,bLX]at hx;have:=hx.2 n (GT hn);simpa [gZ]using this
theorem aLF{l:List Int}{k u:Nat}{n:Int}(hn:l[k]?= some n)(h:0≤n∧n≤2):((u+Q5 (l.take (k+1)):Nat):Int)=((u+Q5 (l.take k):Nat):Int)+n / 2:=by
 rw[bLA,hn];simp only[Q5,bLT,bMJ,GE];by_cases h2:n=2
 ·subst h2;simp;omega
 ·simp[h2];omega
theorem aTQ{y:aZ}(h:(decide ((7:Int)<y.chairs.length)||decide ((5:Int)<y.claims.length))=true):bB y=3:=by
 simp only[bMF,LT]at h;unfold bB;rw[bLR Yd]
theorem PR{y:aZ}(h:(decide ((7:Int)<y.chairs.length)||decide ((5:Int)<y.claims.length))=false):¬(7<y.chairs.length∨5<y.claims.length):=by
 simp only[bMG,bLC]at h;omega
theorem bHJ{y:aZ}(h:(decide ((7:Int)<y.chairs.length)||decide ((5:Int)<y.claims.length))=false)(h2:((!gZ y.fit 0 9|| !y.chairs.all lC)|| !y.claims.all mO)=true):bB y=1:=by
 unfold bB;rw[bLI (PR h),bLR]
 revert h2;unfold B7
 generalize gZ y.fit 0 9=a,y.chairs.all lC=b,y.claims.all mO=c;cases a<;>cases b<;>cases c<;>decide
theorem XS{y:aZ}(h2:((!gZ y.fit 0 9|| !y.chairs.all lC)|| !y.claims.all mO)=false):B7 y=true:=by
 revert h2;unfold B7
 generalize gZ y.fit 0 9=a,y.chairs.all lC=b,y.claims.all mO=c;cases a<;>cases b<;>cases c<;>decide
theorem bIJ{y:aZ}(h:(decide ((7:Int)<y.chairs.length)||decide ((5:Int)<y.claims.length))=false)(h2:((!gZ y.fit 0 9|| !y.chairs.all lC)|| !y.claims.all mO)=false):y.chairs.length≤7∧∀x∈y.chairs,lC x=true:=by
 have h3:=XS h2;simp only[B7,bKW,bLX]at h3;have:=PR h;exact⟨Yd,h3.1.2⟩
theorem aZA{y:aZ}(h:(decide ((7:Int)<y.chairs.length)||decide ((5:Int)<y.claims.length))=false)(h2:((!gZ y.fit 0 9|| !y.chairs.all lC)|| !y.claims.all mO)=false)(h3:(8:Int)<dK y.chairs):bB y=3:=by
 unfold bB;rw[bLI (PR h),bLI (by rw[XS h2];simp),bLR Yd]
theorem aXG{y:aZ}(h:(decide ((7:Int)<y.chairs.length)||decide ((5:Int)<y.claims.length))=false)(h2:((!gZ y.fit 0 9|| !y.chairs.all lC)|| !y.claims.all mO)=false)(h3:¬(8:Int)<dK y.chairs):bB y=0:=by
 unfold bB;rw[bLI (PR h),bLI (by rw[XS h2];simp),bLI Yd]
theorem aTK{p:Pt}{k:Nat}{m:Int}(h:p.l[k]?= some m):([qI p.a,qI p.b,qI p.c]:List Γ)[k*1]?= some (qI m):=by
 rw[bNL,show([qI p.a,qI p.b,qI p.c]:List Γ)=p.l.map (Value.int .i64)from rfl,bMI,h];rfl
theorem zU(yv:Γ)(y:aZ)(D:aC)(hy:gU D yv y):Fn prog 86 #[yv] D (fun _ v=>v=qI (bB y)):=by
 have V:=hy;obtain⟨cv,qv,rfl,hc,hq⟩:=hy;refine Zx 60 func86 rfl fun h0=>aA<|Zab rfl fun q1 E1 hO I=>Zk rfl<|aL<|Zv rfl kP rfl I jA<|Za0 rfl<|Zk rfl<|bS<|Za3<|aA<|Zi rfl eO rfl ?_;refine Zd 0 rfl kS rfl I rfl<|Zai rfl U37 rfl hc rfl<|Wav ?_;refine' cT 5 (s:=16) (p:=21) rfl (fun Y=>?_) (fun Y=>?_) ?_;rotate_left
 ·refine Zj rfl hZ rfl<|Ze 2 rfl qE rfl I rfl<|dD rfl U38 rfl hq rfl rfl ⟨_,rfl,rfl⟩<|Wae ?_;exact aM 4
 ·refine Wc ?_;exact aM 4
 refine Zk rfl<|aF<|Zaf rfl (fun hc1=>?_) fun hc1=>?_
 ·refine Wl ?_;exact aE rfl fun D hD=>by show Value.int _ _=_;rw[aTQ hc1]
 ·refine aA<|Zi rfl vV rfl<|Zd 1 rfl aH rfl I rfl<|Zf rfl (fun D1 hP=>fC _ _ _ _)<|Wbu ?_;refine' cT 5 (s:=27) (p:=32) rfl (fun Z=>?_) (fun Z=>?_) ?_;rotate_left
  ·refine Zj rfl eO rfl<|Ze 0 rfl kS rfl I rfl<|Zg rfl (fun U hB=>QE _ _ _ lC _ (Sl.at xW.up hB Yn Ye) (.of fun x U=>HP x U) rfl)<|Waf ?_;exact aM 4
  ·refine Wc ?_;exact aM 4
  refine Za rfl ?_;refine' cT 6 (s:=33) (p:=39) rfl (fun hE=>?_) (fun hE=>?_) ?_;rotate_left
  ·refine Zj rfl hZ rfl<|Ze 2 rfl qE rfl I rfl<|Zb rfl<|Zg rfl (fun D3 R=>PW _ _ _ mO _ (Sl.at R2.up R Yn Ye) ⟨_,[_],[],rfl,fun r U hl=>aSS _ y r U (V.up ((R _ Ye).trans hl))⟩ rfl)<|Waf ?_;exact aM 5
  ·refine Wbw ?_;exact aM 5
  refine Zk rfl<|aF<|Zaf rfl (fun hc2=>?_) fun hc2=>?_
  ·refine Wl ?_;exact aE rfl fun D hD=>by show Value.int _ _=_;rw[bHJ hc1 hc2]
  ·obtain⟨hR,hok⟩:=bIJ hc1 hc2;refine bJ<|Za6<|Za1<|aA<|Zk rfl<|bK<|Zi rfl eO rfl<|Zd 0 rfl kS rfl I rfl<|Zai rfl U37 rfl hc rfl<|Za rfl<|aF<|Za3 ?_;refine dW (γ:=Nat) (fun i=>y.chairs.length-i) (fun i=>i≤y.chairs.length) (fun i=>[(43,qI (i:Int)),(4,qI (dK (y.chairs.take i):Int))]) [(42,_),(41,_),(2,_)] (fun i=>[E1,D]) 0 Yd ⟨Ya,(by simp[dK];rfl),bQK⟩ cR (aK) ?_
   rintro i h1;refine aA<|Zan rfl<|bS<|Zag rfl (fun hc3=>?_) fun hc3=>?_
   ·have hi:i<y.chairs.length:=by omega
    obtain⟨x,hx⟩:=cB y.chairs i;have hxo:=hok x (GT hx);have hub:=aOH (y.chairs.take i);have hut:(y.chairs.take i).length≤i:=bOB _ _;refine aQ<|Za5<|Za3<|aA<|Zw rfl U37 iX rfl hc rfl hx fun b1 o1 hF hH hN hI=>?_;obtain rfl:hF=[qI _,qI _,qI _,qI _]:=hH;refine Zv rfl X9 rfl hI iX<|Zad rfl uD rfl fun q2=>Zy rfl iX ζ<|aL<|Zi rfl O5 rfl<|eD rfl oW nT rfl Mm0 rfl rfl n4 rfl bQK<|Za rfl<|aF<|Za3<|dW (γ:=Nat) (fun k=>3-k) (fun k=>k≤3) (fun k=>[(49,qI (k:Int)),(4,qI ((dK (y.chairs.take i)+Q5 (x.parts.l.take k):Nat):Int))]) [(48,_),(47,_),(6,_),(46,_),(45,_),(44,_),(43,_),(42,_),(41,_),(2,_)] (fun k=>[E1,D]) 0 Yd ⟨Ya,(by simp[Q5];rfl),bQK⟩ cR (aK) ?_
    rintro k h2;refine aA<|Zan rfl<|bS<|Zag rfl (fun hJ=>?_) fun hJ=>?_
    ·have hS:k<3:=by omega
     obtain⟨n,hn⟩:∃n,x.parts.l[k]?= some n:=⟨_,bLB (by simp[Pt.l];omega)⟩
     have hK:=aXF hxo hn;have hkl:=aDG (x.parts.l.take k);have hkt:(x.parts.l.take k).length≤k:=bOB _ _;refine aQ<|Za5<|Za3<|aA<|DR (l:=x.parts.l) rfl U210 aH aJ rfl rfl Yd Yd hn rfl bQK<|Zk rfl<|aF<|aP<|Za rfl<|Za rfl<|UF rfl rfl rfl Yd Yd Yf rfl bQK<|Zah rfl ?_;refine Was ?_;exact aI 12 (k+1) Yd Yd ⟨Ya,(by rw[aLF hn hK];rfl),bQK⟩ rfl rfl Mm5 (aK)
    ·obtain rfl:k=3:=by omega
     refine Za8<|Za4<|Za4<|Za9<|Wd ?_;exact aI 12 (i+1) Yd Yd ⟨Ya,(by rw[SB hx];rfl),bQK⟩ rfl rfl (List.Sublist.cons _ Mm5) (aK)
   ·obtain rfl:i=y.chairs.length:=by omega
    rw[bLU];refine Za8<|Za4<|Za4<|Za9<|Za1<|bM<|Za rfl<|Zas rfl<|aF<|Zag rfl (fun O=>?_) fun O=>?_
    ·refine Wcg ?_;exact aE rfl fun D hD=>by show Value.int _ _=_;rw[aZA hc1 hc2 O]
    ·refine aQ<|aA<|We ?_;exact aE rfl fun D hD=>by show Value.int _ _=_;rw[aXG hc1 hc2 O]
def wI(p:Pt):Prop:=(0≤p.a∧p.a≤1)∧(0≤p.b∧p.b≤1)∧(0≤p.c∧p.c≤1)
def R1(p q:Pt):Bool:=(!iK p&& !iK q)&&iK ⟨max p.a q.a,max p.b q.b,max p.c q.c⟩
def S9(f:Int)(x z:Ch):Bool:=gZ (x.size-z.size) (-f) f
theorem aAD(p q:Pt):R1 p q=R1 q p:=by
 unfold R1;rw[Int.max_comm p.a,Int.max_comm p.b,Int.max_comm p.c,Bool.and_comm (!iK p)]
theorem aGA(f:Int)(x z:Ch):S9 f x z=S9 f z x:=by
 unfold S9 gZ;rw[bOC];simp only[bKW,LT];omega
theorem aTY(p q:Pt)(D:aC)(hp:wI p)(hq:wI q):Fn prog 247 #[bII p,bII q] D (fun _ v=>v=.bool (R1 p q)):=by
 refine Zx 32 func247 rfl fun h0=>aA<|Zab rfl fun q1 E1 V I=>Zab rfl fun q2 E2 Y O=>Zk rfl<|aL<|dG rfl oW rfl I Yc Yad n4 rfl bQK<|Zf rfl (fun D1 Z=>Z5 p _)<|Wbu ?_;refine' bW 4 (s:=8) (p:=12) rfl (fun R=>?_) (fun R=>?_) ?_;rotate_left
 ·refine dG rfl oW rfl O Yc Yad n4 rfl ⟨_,rfl,rfl⟩<|Zg rfl (fun D2 hB=>Z5 q _)<|Wci ?_;exact aM 3
 ·refine Wb ?_;exact aM 3
 refine Za rfl ?_;refine' bW 18 (s:=13) (p:=31) rfl (fun U=>?_) (fun U=>?_) ?_;rotate_left
 ·refine cA rfl U210 aJ rfl rfl Yt Yt rfl ⟨_,rfl,rfl⟩<|iQ rfl aH rfl I Ye rfl n4 rfl ⟨_,rfl,rfl⟩<|cA rfl U210 aJ rfl rfl Yt Yt rfl ⟨_,rfl,rfl⟩<|iQ rfl aH rfl O Ye rfl n4 rfl ⟨_,rfl,rfl⟩<|ZI rfl rfl rfl hp.1 hq.1 rfl ⟨_,rfl,rfl⟩<|cA rfl U210 aJ rfl rfl Yt Yt rfl ⟨_,rfl,rfl⟩<|iQ rfl aH rfl I Ye rfl n4 rfl ⟨_,rfl,rfl⟩<|cA rfl U210 aJ rfl rfl Yt Yt rfl ⟨_,rfl,rfl⟩<|iQ rfl aH rfl O Ye rfl n4 rfl ⟨_,rfl,rfl⟩<|ZI rfl rfl rfl hp.2.1 hq.2.1 rfl ⟨_,rfl,rfl⟩<|cA rfl U210 aJ rfl rfl Yt Yt rfl ⟨_,rfl,rfl⟩<|iQ rfl aH rfl I Ye rfl n4 rfl ⟨_,rfl,rfl⟩ ?_;refine cA rfl U210 aJ rfl rfl Yt Yt rfl ⟨_,rfl,rfl⟩<|iQ rfl aH rfl O Ye rfl n4 rfl ⟨_,rfl,rfl⟩<|ZI rfl rfl rfl hp.2.2 hq.2.2 rfl ⟨_,rfl,rfl⟩<|W9 (cs:=[qI (max p.a q.a),qI (max p.b q.b),qI (max p.c q.c)]) rfl U210 aJ m3 rfl rfl rfl ⟨_,rfl,rfl⟩<|Zg rfl (fun D3 hE=>Z5 ⟨max p.a q.a,max p.b q.b,max p.c q.c⟩ _)<|Zak rfl ?_;exact aM 17
 ·refine Waq ?_;refine Wp ?_;exact aM 17
 refine We ?_;exact aE rfl fun D hD=>rfl
theorem CS(yv:Γ)(y:aZ)(a b:Nat)(x z:Ch)(D:aC)(hy:gU D yv y)(hf:0≤y.fit∧y.fit≤9)(hx:y.chairs[a]?= some x)(hz:y.chairs[b]?= some z)(hxs:0≤x.size∧x.size≤9)(hzs:0≤z.size∧z.size≤9):Fn prog 147 #[yv,qI (a:Int),qI (b:Int)] D (fun _ v=>v=.bool (S9 y.fit x z)):=by
 obtain⟨cv,qv,rfl,hc,hq⟩:=hy;refine Zx 26 func147 rfl fun h0=>aA<|Zab rfl fun q1 E1 hF I=>Zk rfl<|bS<|bE [] 6 20 257988<|Zi rfl eO rfl<|Zd 0 rfl kS rfl I rfl<|Za rfl<|Zw rfl U37 iX rfl hc rfl hx fun b1 o1 O R hB U=>?_;obtain rfl:O=[qI _,qI _,qI _,qI _]:=R;refine Zi rfl p9 rfl<|Zd 0 rfl aH rfl U rfl<|Zi rfl eO rfl<|Zd 0 rfl kS rfl I rfl<|Za rfl<|Zw rfl U37 iX rfl hc rfl hz fun b2 o2 V Y hE Z=>?_;obtain rfl:V=[qI _,qI _,qI _,qI _]:=Y;refine Zi rfl p9 rfl<|Zd 0 rfl aH rfl Z rfl<|Zaz rfl<|Zi rfl vV rfl<|Zd 1 rfl aH rfl I rfl<|aDW rfl rfl Yf rfl bQK<|Zi rfl vV rfl<|Zd 1 rfl aH rfl I rfl<|Zf rfl (fun D1 hH=>fC _ _ _ _)<|We ?_;exact aE rfl fun D hD=>rfl
def jQ(p:Nat→Bool):Nat→Nat
 |0=>0
 |n+1=>if p n=true then jQ p n|||2^n else jQ p n
theorem oU(p:Nat→Bool):∀n i,(jQ p n).testBit i=(decide (i<n)&&p i)
 |0,i=>by simp[jQ]
 |n+1,i=>by
  unfold jQ;split
  ·rename_i h;rw[Nat.testBit_or,oU p n i,Nat.testBit_two_pow];by_cases hi:n=i
   ·subst hi;simp[h]
   ·have:(i<n+1)=(i<n):=by rw[eq_iff_iff];omega
    simp[hi,this]
  ·rename_i h;rw[oU p n i];by_cases hi:n=i
   ·subst hi;simp[h]
   ·have:(i<n+1)=(i<n):=by rw[eq_iff_iff];omega
    simp[this]
theorem X1(p:Nat→Bool)(n:Nat):jQ p n<2^n:=by
 apply Nat.lt_pow_two_of_testBit;intro i hi;rw[oU];have:¬i<n:=by omega
 simp[this]
def mA(t:List Pt)(i:Nat):Bool:=match t[i]? with|some p=> !iK p|none=>false
def kV(y:aZ)(t:List Pt)(i k:Nat):Bool:=match t[i]?,t[k]?,y.chairs[i]?,y.chairs[k]? with
 |some p,some q,some x,some z=>(decide ((k:Int)≠i)&&S9 y.fit x z)&&R1 p q
 |_,_,_,_=>false
theorem OZ{y:aZ}{t:List Pt}{i k:Nat}{z q:Pt}{I x2:Ch}(hz:t[i]?= some z)(hq:t[k]?= some q)(hx1:y.chairs[i]?= some I)(hx2:y.chairs[k]?= some x2):kV y t i k=((decide ((k:Int)≠i)&&S9 y.fit I x2)&&R1 z q):=by
 unfold kV;rw[hz,hq,hx1,hx2]
def gO(y:aZ)(t:List Pt)(i k:Nat):List Nat:=(List.range 7).map fun j=>if j<i then jQ (kV y t j) t.length else if j=i then jQ (kV y t i) k else 0
structure Sc where
 whole:Nat
 broken:Nat
 fits:List Nat
deriving DecidableEq
def dO(y:aZ)(t:List Pt):Sc:=⟨whole t,jQ (mA t) t.length,(List.range 7).map fun j=>jQ (kV y t j) t.length⟩
def BJ(w b:Nat)(rows:List Nat):List Γ:=qI (w:Int)::qI (b:Int)::rows.map fun(n:Nat)=>Value.int .i64 (n:Int)
def ZV(s:Sc):Γ:=.agg (BJ s.whole s.broken s.fits).toArray
theorem aUW(w b:Nat)(rows:List Nat):∀u∈BJ w b rows,cell1 u=true:=by
 intro u hu;unfold BJ at hu;simp only[bNA,bKX]at hu;rcases hu with rfl|rfl|⟨n,_,rfl⟩<;>rfl
theorem aXR{y:aZ}{t:List Pt}{j:Nat}(h:t.length≤j):jQ (kV y t j) t.length=0:=by
 apply Nat.eq_of_testBit_eq;intro i;rw[oU,Nat.zero_testBit];have:kV y t j i=false:=by unfold kV;rw[bNX h]
 simp[this]
theorem aLI{y:aZ}{t:List Pt}:gO y t t.length 0=(dO y t).fits:=by
 show gO y t t.length 0=(List.range 7).map fun j=>jQ (kV y t j) t.length
 unfold gO;apply bQJ;intro j _;by_cases h:j<t.length
 ·rw[bLR h]
 ·rw[bLI h,aXR Yd];split<;>rfl
theorem aBY{y:aZ}{t:List Pt}{i:Nat}:gO y t i t.length=gO y t (i+1) 0:=by
 unfold gO;apply bQJ;intro j _;by_cases h:j<i
 ·rw[bLR h,bLR Yd]
 ·rw[bLI h];by_cases h2:j=i
  ·subst h2;rw[bLR rfl,bLR Yd]
  ·rw[bLI h2,bLI Yd];split<;>rfl
theorem bEH{y:aZ}{t:List Pt}{i k:Nat}(h:kV y t i k=false):gO y t i k=gO y t i (k+1):=by
 unfold gO;have:jQ (kV y t i) (k+1)=jQ (kV y t i) k:=by rw[jQ,bLI (by simp[h])]
 rw[this]
theorem aWC{y:aZ}{t:List Pt}{i k:Nat}(h:i<7):(gO y t i k)[i]?= some (jQ (kV y t i) k):=by
 unfold gO;rw[bMI,bPN h];simp
theorem bEF{rows:List Nat}{i n:Nat}(w b:Nat)(h:rows[i]?= some n):(BJ w b rows)[2+i*1]?= some (qI (n:Int)):=by
 rw[bNL,Nat.add_comm];unfold BJ;rw[List.getElem?_cons_succ,List.getElem?_cons_succ,bMI,h];rfl
theorem A8{t:List Pt}{i:Nat}{z:Pt}(hz:t[i]?= some z):whole (t.take (i+1))=whole (t.take i)+if iK z=true then 1 else 0:=by
 unfold whole;rw[bLA,hz,bLT,bMJ,GE];cases h:iK z<;>simp[h]
theorem aFS{t:List Pt}{i:Nat}{z:Pt}(hz:t[i]?= some z):mA t i= !iK z:=by unfold mA;rw[hz]
theorem JC{y:aZ}{t:List Pt}{i k:Nat}{z:Pt}(hz:t[i]?= some z)(hw:iK z=true):jQ (kV y t i) k=0:=by
 apply Nat.eq_of_testBit_eq;intro j;rw[oU,Nat.zero_testBit];have:kV y t i j=false:=by
  unfold kV;rw[hz]
  split
  ·rename_i I _ _ _;obtain rfl:=bLY I;simp[R1,hw]
  ·rfl
 simp[this]
theorem aPO{y:aZ}{t:List Pt}{i:Nat}{z:Pt}(hz:t[i]?= some z)(hw:iK z=true):
  (BJ (whole (t.take i)) (jQ (mA t) i) (gO y t i 0)).take 0++[qI ((whole (t.take i):Int)+1)]++(BJ (whole (t.take i)) (jQ (mA t) i) (gO y t i 0)).drop (0+ [Value.int .i64 ((whole (t.take i):Int)+1)].length)=BJ (whole (t.take (i+1))) (jQ (mA t) (i+1)) (gO y t (i+1) 0):=by
 have h1:((whole (t.take (i+1)):Nat):Int)=(whole (t.take i):Int)+1:=by rw[A8 hz,bLR hw];simp
 have h2:jQ (mA t) (i+1)=jQ (mA t) i:=by rw[jQ,bLI (by rw[aFS hz,hw];simp)]
 have h3:gO y t (i+1) 0=gO y t i 0:=by
  rw[←aBY];unfold gO;rw[JC hz hw,JC hz hw]
 rw[h2,h3];unfold BJ;rw[h1];rfl
theorem aYL{y:aZ}{t:List Pt}{i:Nat}{z:Pt}(hz:t[i]?= some z)(hw:iK z=false):
  (BJ (whole (t.take i)) (jQ (mA t) i) (gO y t i 0)).take 1++[qI ((jQ (mA t) i|||2^i:Nat):Int)]++(BJ (whole (t.take i)) (jQ (mA t) i) (gO y t i 0)).drop (1+ [Value.int .i64 ((jQ (mA t) i|||2^i:Nat):Int)].length)=BJ (whole (t.take (i+1))) (jQ (mA t) (i+1)) (gO y t i 0):=by
 have h1:whole (t.take (i+1))=whole (t.take i):=by rw[A8 hz,bLI (by simp[hw])];rfl
 have h2:jQ (mA t) (i+1)=jQ (mA t) i|||2^i:=by rw[jQ,bLR (by rw[aFS hz,hw];rfl)]
 rw[h1,h2];rfl
theorem bGJ{y:aZ}{t:List Pt}{i k w b:Nat}(hi:i<7)(h:kV y t i k=true):
  (BJ w b (gO y t i k)).take (2+i*1)++[qI ((jQ (kV y t i) k|||2^k:Nat):Int)]++(BJ w b (gO y t i k)).drop (2+i*1+ [Value.int .i64 ((jQ (kV y t i) k|||2^k:Nat):Int)].length)=BJ w b (gO y t i (k+1)):=by
 have h2:jQ (kV y t i) (k+1)=jQ (kV y t i) k|||2^k:=by rw[jQ,bLR h]
 have e:i=0∨i=1∨i=2∨i=3∨i=4∨i=5∨i=6:=by omega
 rw[←h2];rcases e with rfl|rfl|rfl|rfl|rfl|rfl|rfl<;>rfl
theorem aPB(yv tv:Γ)(y:aZ)(t:List Pt)(D:aC)(hy:gU D yv y)(ht:Sl D RP 3 tv t)(hlen:t.length=y.chairs.length)(h7:t.length≤7)(hb:∀p∈t,wI p)(hf:0≤y.fit∧y.fit≤9)(hs:∀c∈y.chairs,0≤c.size∧c.size≤9):Fn prog 174 #[yv,tv] D (fun _ v=>v=ZV (dO y t)):=by
 have O:=hy;obtain⟨cv,qv,rfl,hc,hq⟩:=hy;have hl:=ht.len;refine Zx 61 func174 rfl fun h0=>aA<|Zab rfl fun q1 E1 hN R=>Zad rfl wZ rfl fun q2=>bK<|Za rfl<|Zai rfl U303 rfl ht rfl<|Za rfl<|aF<|Za3<|hU (γ:=Nat) (fun i=>t.length-i) (fun i=>i≤t.length) (fun i=>[(11,qI (i:Int))]) [(10,_),(9,_),(4,_),(2,_),(1,_)] (fun i=>[(q2,qC (BJ (whole (t.take i)) (jQ (mA t) i) (gO y t i 0)) 307)]) (fun i=>[E1,D]) 0 Yd ⟨Ya,bQK⟩ cR Mm5 (aK) ?_;rintro i h1;refine aA<|Zan rfl<|bS<|Zag rfl (fun hc1=>?_) fun hc1=>?_
 ·have hi:i<t.length:=by omega
  obtain⟨z,hz⟩:=cB t i;obtain⟨x1,hx1⟩:=cB y.chairs i;have hwl:whole (t.take i)≤(t.take i).length:=bMO _ _;have hwt:(t.take i).length≤i:=bOB _ _;have hbl:=X1 (mA t) i;have hO:2^i≤2^7:=bMY Yd Yd;refine aQ<|Za5<|Za3<|aA<|Za rfl<|Zw rfl U303 nT rfl ht rfl hz fun b1 o1 U V hJ Y=>?_;obtain rfl:U=[qI _,qI _,qI _]:=V;refine dG rfl oW rfl Y Yc Yad n4 rfl bQK<|Zad rfl m3 rfl fun q3=>Zk rfl<|Zy rfl nT ζ<|bK<|bL rfl oW rfl Mm0 Yad n4 rfl bQK<|Zf rfl (fun D1 hP=>Z5 z _)<|aF<|Zaf rfl (fun hc2=>?_) fun hc2=>?_
  ·refine aA<|Zi rfl N0 rfl<|Zp rfl aH rfl Mm1 rfl<|Zah rfl<|Zi rfl N0 rfl<|bP (ws:=BJ (whole (t.take (i+1))) (jQ (mA t) (i+1)) (gO y t (i+1) 0)) rfl rfl rfl rfl aJ (.tail ζ) (by simp[BJ]) (aPO hz hc2) Yk bQK<|aF<|Za8<|Za4<|Za9<|Za1<|aP ?_;refine Zah rfl<|Za rfl<|Zap ?_;exact aI 15 (i+1) Yd Yd ⟨Ya,bQK⟩ rfl rfl (List.Sublist.cons _ Mm5) (aK)
  ·refine aQ<|Za5<|bE [] 2 7 12<|Zi rfl u9 rfl<|Zp rfl aH rfl Mm1 rfl<|Za rfl<|FA rfl rfl rfl Yd rfl bQK<|IZ rfl rfl rfl Yd Yd rfl bQK<|Zi rfl u9 rfl<|bP (ws:=BJ (whole (t.take (i+1))) (jQ (mA t) (i+1)) (gO y t i 0)) rfl rfl rfl rfl aJ (.tail ζ) (by simp[BJ]) (aYL hz hc2) Yk bQK<|aL<|Za rfl ?_;refine Zai rfl U303 rfl ht rfl<|Za rfl<|aF<|Za3<|hU (γ:=Nat) (fun k=>t.length-k) (fun k=>k≤t.length) (fun k=>[(30,qI (k:Int))]) [(29,_),(28,_),(27,_),(26,_),(25,_),(24,_),(23,_),(22,_),(17,_),(16,_),(5,_),(6,_),(15,_),(14,_),(13,_),(12,_),(11,_),(10,_),(9,_),(4,_),(2,_),(1,_)] (fun k=>[(q3,qC [qI z.a,qI z.b,qI z.c] 210),(q2,qC (BJ (whole (t.take (i+1))) (jQ (mA t) (i+1)) (gO y t i k)) 307)]) (fun k=>[E1,D]) 0 Yd ⟨Ya,bQK⟩ cR Mm5 (aK) ?_;rintro k h2;refine aA<|Zan rfl<|bS<|Zag rfl (fun hc3=>?_) (fun hc3=>?_)
   ·have hk:k<t.length:=by omega
    obtain⟨q,hq⟩:=cB t k;obtain⟨x2,hx2⟩:=cB y.chairs k;have hbk:=X1 (kV y t i) k;have hR:2^k≤2^7:=bMY Yd Yd;refine aQ<|Za5<|Za3<|aA<|Za rfl<|Zw rfl U303 nT rfl ht rfl hq fun b2 o2 Z hB hK hE=>?_;obtain rfl:Z=[qI _,qI _,qI _]:=hB;refine dG rfl oW rfl hE Yc Yad n4 rfl bQK<|Zad rfl m3 rfl fun q4=>Zk rfl<|Zy rfl nT ζ<|aL<|Za rfl<|Za rfl<|Wcl ?_;refine' bW 5 (s:=38) (p:=43) rfl (fun hF=>?_) (fun hF=>?_) ?_;rotate_left
    ·refine dG rfl kP rfl R Yc jA n4 rfl ⟨_,rfl,rfl⟩<|Zb rfl<|Zb rfl<|Zg rfl (fun D2 hH=>CS _ y i k x1 x2 _ (O.up (hH _ Ye)) hf hx1 hx2 (hs _ (GT hx1)) (hs _ (GT hx2)))<|Zak rfl ?_;exact aM 4
    ·refine Zh rfl<|Wb ?_;exact aM 4
    refine Za rfl ?_;refine' bW 4 (s:=44) (p:=48) rfl (fun hI=>?_) (fun hI=>?_) ?_;rotate_left
    ·refine bL rfl oW rfl Mm1 Yad n4 rfl ⟨_,rfl,rfl⟩<|bL rfl oW rfl Mm0 Yad n4 rfl ⟨_,rfl,rfl⟩<|Zg rfl (fun D3 hS=>aTY z q _ (hb _ (GT hz)) (hb _ (GT hq)))<|Zak rfl ?_;exact aM 3
    ·refine Wb ?_;exact aM 3
    refine aF<|Zaf rfl (fun I=>?_) fun I=>?_
    ·have hfit:kV y t i k=true:=by rw[OZ hz hq hx1 hx2];exact I
     refine bE [] 3 10 178<|Za rfl<|Zi rfl O8 rfl<|eV rfl U305 aJ rfl rfl Yd Yd rfl bQK<|bG rfl aH rfl Mm2 (bEF _ _ (aWC Yd)) n4 rfl bQK<|Za rfl<|FA rfl rfl rfl Yd rfl bQK<|IZ rfl rfl rfl Yd Yd rfl bQK<|Zi rfl O8 rfl<|eV rfl U305 aJ rfl rfl Yd Yd rfl bQK<|bP (ws:=BJ (whole (t.take (i+1))) (jQ (mA t) (i+1)) (gO y t i (k+1))) rfl rfl rfl rfl aJ (.tail (.tail ζ)) (by simp[BJ,gO];omega) (bGJ Yd hfit) Yk bQK<|Zap ?_;refine Wd ?_;exact aI 25 (k+1) Yd Yd ⟨Ya,bQK⟩ rfl rfl (List.Sublist.cons _ Mm5) (aK)
    ·have hfit:kV y t i k=false:=by rw[OZ hz hq hx1 hx2];exact I
     refine Wcf ?_;rw[bEH hfit];exact aI 16 (k+1) Yd Yd ⟨Ya,bQK⟩ rfl rfl (List.Sublist.cons _ Mm5) (aK)
   ·obtain rfl:k=t.length:=by omega
    rw[aBY];refine Za8<|Za4<|Za4<|Za9<|Wd ?_;exact aI 21 (i+1) Yd Yd ⟨Ya,bQK⟩ rfl rfl (List.Sublist.cons _ Mm5) (aK)
 ·obtain rfl:i=t.length:=by omega
  refine Za8<|Za4<|Za4<|Za9<|Za1<|aA<|Zae rfl uI rfl Mm0 iJ<|Zz rfl iJ ζ (aUW _ _ _)<|aG ?_;exact Zo [_] rfl ⟨⟨_,_,_,rfl,Mm0,Or.inr ⟨uI,(by first|exact iJ|(simp only[bML,aN, *];exact iJ)),rfl⟩⟩,bQK⟩ fun D hD=>by rw[aLI,bLU];rfl
end L7
end Go.Fs
namespace Go.Fs.C7
def qV(M:List (Nat×Nat)):List Nat:=M.flatMap fun p=>[p.1,p.2]
theorem lZ{M:List (Nat×Nat)}{x:Nat}:x∈qV M ↔∃p∈M,x=p.1∨x=p.2:=by
 unfold qV;simp
structure QO(f:Nat→Nat→Bool)(S:Nat→Bool)(M:List (Nat×Nat)):Prop where
 fit:∀p∈M,S p.1=true∧S p.2=true∧f p.1 p.2=true
 nd:(qV M).Nodup
structure HY(f:Nat→Nat→Bool)(S:Nat→Bool)(k:Nat):Prop where
 ex:∃M,QO f S M∧M.length=k
 le:∀M,QO f S M→M.length≤k
theorem QO.nil{f:Nat→Nat→Bool}{S:Nat→Bool}:QO f S []:=⟨Ye,by simp[qV]⟩
theorem QO.mono{f:Nat→Nat→Bool}{S T:Nat→Bool}{M:List (Nat×Nat)}(h:QO f S M)(hs:∀x,S x=true→T x=true):QO f T M:=
 ⟨fun p hp=>⟨hs _ (h.fit p hp).1,hs _ (h.fit p hp).2.1,(h.fit p hp).2.2⟩,h.nd⟩
theorem HY.empty{f:Nat→Nat→Bool}{S:Nat→Bool}(h:∀x,S x=false):HY f S 0:=
 ⟨⟨[],QO.nil,rfl⟩,fun M hM=>by
  cases M with
  |nil=>exact bLQ _
  |cons p l=>have:=(hM.fit p bKZ).1;rw[h]at this;cases this⟩
theorem aUO{M M':List (Nat×Nat)}(h:M'.Sublist M):(qV M').Sublist (qV M):=by
 unfold qV;induction h with
 |slnil=>exact bQD _
 |cons a _ ih=>rw[bMA];exact ih.trans (List.sublist_append_right _ _)
 |cons_cons a _ ih=>rw[bMA,bMA];exact(bQD _).append ih
def lF(S:Nat→Bool)(a:Nat):Nat→Bool:=fun x=>S x&&decide (x≠a)
theorem dQ{S:Nat→Bool}{a x:Nat}:lF S a x=true ↔ S x=true∧x≠a:=by simp[lF]
theorem QO.drop{f:Nat→Nat→Bool}{S:Nat→Bool}{M:List (Nat×Nat)}{a:Nat}(h:QO f S M)(ha:a∉qV M):QO f (lF S a) M:=
 ⟨fun p hp=>⟨dQ.2 ⟨(h.fit p hp).1,fun e=>ha (lZ.2 ⟨p,hp,bLL e.symm⟩)⟩,dQ.2 ⟨(h.fit p hp).2.1,fun e=>ha (lZ.2 ⟨p,hp,bLG e.symm⟩)⟩,(h.fit p hp).2.2⟩,h.nd⟩
theorem QO.split{f:Nat→Nat→Bool}{S:Nat→Bool}{M:List (Nat×Nat)}{p:Nat×Nat}(h:QO f S M)(hp:p∈M):
  p.1≠p.2∧QO f (lF (lF S p.1) p.2) (M.erase p)∧(M.erase p).length+1=M.length:=by
 have hperm:=List.perm_cons_erase hp;have hnd:(qV (p::M.erase p)).Nodup:=((List.Perm.flatMap_right (fun p:Nat×Nat=>[p.1,p.2]) hperm).nodup_iff).1 h.nd;unfold qV at hnd;rw[bMA,bLJ]at hnd;obtain⟨h1,h2,h3⟩:=hnd;have hne:p.1≠p.2:=by simpa using h1
 have hl:=List.length_erase_of_mem hp;have hpos:=List.length_pos_of_mem hp;refine⟨hne,⟨fun q hq=>?_,h2⟩,Yd⟩;have hq':=h.fit q (List.mem_of_mem_erase hq);have I:∀z,z=p.1∨z=p.2→∀x,x=q.1∨x=q.2→x≠z:=by
  intro z hz x hx e;have:=h3 z (by simpa using hz) x (lZ.2 ⟨q,hq,hx⟩);exact this e.symm
 refine⟨dQ.2 ⟨dQ.2 ⟨hq'.1,I _ (bLL rfl) _ (bLL rfl)⟩,I _ (bLG rfl) _ (bLL rfl)⟩,dQ.2 ⟨dQ.2 ⟨hq'.2.1,I _ (bLL rfl) _ (bLG rfl)⟩,I _ (bLG rfl) _ (bLG rfl)⟩,hq'.2.2⟩
theorem QO.cons{f:Nat→Nat→Bool}{S:Nat→Bool}{M:List (Nat×Nat)}{a b:Nat}(h:QO f (lF (lF S a) b) M)(ha:S a=true)(hb:S b=true)(hne:a≠b)(hf:f a b=true):QO f S ((a,b)::M):=by
 refine⟨fun p hp=>?_,?_⟩
 ·rcases bNA.1 hp with rfl|hp
  ·exact⟨ha,hb,hf⟩
  ·obtain⟨h1,h2,h3⟩:=h.fit p hp;exact⟨(dQ.1 (dQ.1 h1).1).1,(dQ.1 (dQ.1 h2).1).1,h3⟩
 ·have hout:∀z,z=a∨z=b→z∉qV M:=by
   intro z hz hm;obtain⟨p,hp,hx⟩:=lZ.1 hm;obtain⟨h1,h2,_⟩:=h.fit p hp;have h1':=dQ.1 h1;have h2':=dQ.1 h2;have h1'':=dQ.1 h1'.1;have h2'':=dQ.1 h2'.1;rcases hz with rfl|rfl<;>rcases hx with hx|hx
   ·exact h1''.2 hx.symm
   ·exact h2''.2 hx.symm
   ·exact h1'.2 hx.symm
   ·exact h2'.2 hx.symm
  unfold qV;rw[bMA];refine bLJ.2 ⟨by simpa using hne,h.nd,fun x hx y hy e=>?_⟩;subst e;exact hout x Xav hy
theorem aVU{f:Nat→Nat→Bool}(hsym:∀a b,f a b=f b a){S:Nat→Bool}{a:Nat}(ha:S a=true){n:Nat}(hn:∀x,S x=true→x<n){U:Nat}(h0:HY f (lF S a) U){g:Nat→Nat}(hg:∀b,S b=true→b≠a→f a b=true→HY f (lF (lF S a) b) (g b)):
  HY f S (((List.range n).filter fun b=>(S b&&decide (b≠a))&&f a b).foldl (fun m b=>max m (1+g b)) U):=by
 have hle:∀(l:List Nat) (m:Nat),m≤l.foldl (fun m b=>max m (1+g b)) m∧∀b∈l,1+g b≤l.foldl (fun m b=>max m (1+g b)) m:=by
  intro l;induction l with
  |nil=>intro m;exact⟨bLQ _,Ye⟩
  |cons x l ih=>
   intro m;rw[bME];obtain⟨i1,i2⟩:=ih (max m (1+g x));refine⟨Yd,fun b hb=>?_⟩;rcases bNA.1 hb with rfl|hb
   ·omega
   ·exact i2 b hb
 have hex:∀(l:List Nat) (m:Nat),l.foldl (fun m b=>max m (1+g b)) m=m∨∃b∈l,l.foldl (fun m b=>max m (1+g b)) m=1+g b:=by
  intro l;induction l with
  |nil=>intro m;exact bLL rfl
  |cons x l ih=>
   intro m;rw[bME];rcases ih (max m (1+g x))with h|⟨b,hb,h⟩
   ·rw[h];by_cases hm:m≤1+g x
    ·exact bLG ⟨x,bKZ,Yd⟩
    ·exact bLL Yd
   ·exact bLG ⟨b,bKY _ hb,h⟩
 refine⟨?_,fun M hM=>?_⟩
 ·rcases hex ((List.range n).filter fun b=>(S b&&decide (b≠a))&&f a b) U with h|⟨b,hb,h⟩
  ·obtain⟨M,hM,he⟩:=h0.ex;exact⟨M,hM.mono fun x hx=>(dQ.1 hx).1,by rw[h,he]⟩
  ·rw[bON]at hb;simp only[bKW,LT]at hb;obtain⟨_,⟨I,O⟩,R⟩:=hb;obtain⟨M,hM,he⟩:=(hg b I O R).ex;exact⟨(a,b)::M,hM.cons ha I (fun e=>O e.symm) R,by rw[h,bLF,he];omega⟩
 ·obtain⟨i1,i2⟩:=hle ((List.range n).filter fun b=>(S b&&decide (b≠a))&&f a b) U;by_cases hin:a∈qV M
  ·obtain⟨p,hp,hx⟩:=lZ.1 hin;obtain⟨hne,hMe,hlen⟩:=hM.split hp;obtain⟨p1,p2⟩:=p;obtain⟨V,Y,Z⟩:=hM.fit _ hp;simp only at hx hne hMe V Y Z;rcases hx with rfl|rfl
   ·have:=(hg p2 Y (fun e=>hne e.symm) Z).le _ hMe;have:=i2 p2 (bON.2 ⟨bMZ.2 (hn _ Y),by simp[Y,Z];exact fun e=>hne e.symm⟩)
    omega
   ·have hMe':QO f (lF (lF S a) p1) (M.erase (p1,a)):=hMe.mono fun x hx=>by
     have h1:=dQ.1 hx;have h2:=dQ.1 h1.1;exact dQ.2 ⟨dQ.2 ⟨h2.1,h1.2⟩,h2.2⟩
    have hf':f a p1=true:=by rw[hsym];exact Z
    have:=(hg p1 V hne hf').le _ hMe';have:=i2 p1 (bON.2 ⟨bMZ.2 (hn _ V),by simp[V,hf'];exact hne⟩)
    omega
  ·have:=h0.le _ (hM.drop hin);omega
def prs(n:Nat):Nat→Nat→List (List (Nat×Nat))
 |0,_=>[[]]
 |k+1,w=>if w.testBit (n-(k+1))then prs n k w else
   prs n k w++((List.range n).filter fun b=>decide (n-(k+1)<b)&& !w.testBit b).flatMap fun b=>(prs n k (w|||2^b)).map fun l=>(n-(k+1),b)::l
structure j5(n a w:Nat)(l:List (Nat×Nat)):Prop where
 at_:∀p∈l,a≤p.1∧p.1<p.2∧p.2<n∧w.testBit p.1=false∧w.testBit p.2=false
 nd:(qV l).Nodup
theorem OH(w b x:Nat):(w|||2^b).testBit x=(w.testBit x||decide (b=x)):=by
 rw[Nat.testBit_or,Nat.testBit_two_pow]
theorem j5.weak{n a a' w w':Nat}{l:List (Nat×Nat)}(h:j5 n a w l)(ha:a'≤a)(hw:∀x,w'.testBit x=true→w.testBit x=true):j5 n a' w' l:=by
 have key:∀x,w.testBit x=false→w'.testBit x=false:=fun x hx=>by
  cases e:w'.testBit x with
  |false=>rfl
  |true=>rw[hw _ e]at hx;cases hx
 refine⟨fun p hp=>?_,h.nd⟩;obtain⟨h1,h2,h3,h4,h5⟩:=h.at_ p hp;exact⟨Yd,h2,h3,key _ h4,key _ h5⟩
theorem n9{n:Nat}:∀(k w:Nat),k≤n→∀l∈prs n k w,j5 n (n-k) w l
 |0,w,_,l,hl=>by
  obtain rfl:l=[]:=by simpa [prs]using hl
  exact⟨Ye,by simp[qV]⟩
 |k+1,w,hk,l,hl=>by
  unfold prs at hl;split at hl
  ·exact(n9 k w Yd l hl).weak Yd fun x h=>h
  ·rename_i hw;rcases bLM.1 hl with hl|hl
   ·exact(n9 k w Yd l hl).weak Yd fun x h=>h
   ·obtain⟨b,hb,hl⟩:=bOV.1 hl;obtain⟨l',hl',rfl⟩:=bKX.1 hl;rw[bON,bMZ]at hb;simp only[bKW,LT,bNY]at hb;obtain⟨hbn,hab,hbw⟩:=hb;have ih:=n9 k (w|||2^b) Yd l' hl';have hw':w.testBit (n-(k+1))=false:=by simpa using hw
    have out:∀x∈qV l',n-(k+1)<x∧x≠b:=fun x hx=>by
     obtain⟨p,hp,hxp⟩:=lZ.1 hx;obtain⟨h1,h2,h3,h4,h5⟩:=ih.at_ p hp;rw[OH]at h4 h5;simp only[bMG,bLC]at h4 h5;rcases hxp with rfl|rfl
     ·exact⟨Yd,fun e=>h4.2 e.symm⟩
     ·exact⟨Yd,fun e=>h5.2 e.symm⟩
    refine⟨fun p hp=>?_,?_⟩
    ·rcases bNA.1 hp with rfl|hp
     ·exact⟨bLQ _,hab,hbn,hw',hbw⟩
     ·obtain⟨h1,h2,h3,h4,h5⟩:=ih.at_ p hp;rw[OH]at h4 h5;simp only[bMG]at h4 h5;exact⟨Yd,h2,h3,h4.1,h5.1⟩
    ·unfold qV;rw[bMA];refine bLJ.2 ⟨Yaq,ih.nd,fun x hx y hy e=>?_⟩
     subst e;have:=out x hy;simp only[bNA,n4,bND]at hx;omega
theorem CR{n:Nat}:∀(k w:Nat),k≤n→∀M,j5 n (n-k) w M→∃l∈prs n k w,∀p∈M,p∈l
 |0,w,_,M,hM=>by
  refine⟨[],by simp[prs],fun p hp=>?_⟩;have:=hM.at_ p hp;omega
 |k+1,w,hk,M,hM=>by
  have free:n-(k+1)∉qV M→∃l∈prs n k w,∀p∈M,p∈l:=fun hout=>
   CR k w Yd M ⟨fun p hp=>by
    obtain⟨h1,h2⟩:=hM.at_ p hp;have:p.1≠n-(k+1):=fun e=>hout (lZ.2 ⟨p,hp,bLL e.symm⟩)
    exact⟨Yd,h2⟩,hM.nd⟩
  unfold prs;split
  ·rename_i hw;refine free fun hin=>?_
   obtain⟨p,hp,hx⟩:=lZ.1 hin;obtain⟨h1,h2,h3,h4,h5⟩:=hM.at_ p hp;rcases hx with hx|hx
   ·rw[←hx,hw]at h4;cases h4
   ·rw[←hx,hw]at h5;cases h5
  ·by_cases hin:n-(k+1)∈qV M
   ·obtain⟨p,hp,hx⟩:=lZ.1 hin;obtain⟨h1,h2,h3,h4,h5⟩:=hM.at_ p hp;have hx1:p.1=n-(k+1):=by omega
    have hperm:=List.perm_cons_erase hp;have hnd:(qV (p::M.erase p)).Nodup:=((List.Perm.flatMap_right (fun p:Nat×Nat=>[p.1,p.2]) hperm).nodup_iff).1 hM.nd;unfold qV at hnd;rw[bMA,bLJ]at hnd;obtain⟨_,n2,I⟩:=hnd;have apart:∀q∈M.erase p,∀z,z=q.1∨z=q.2→z≠p.1∧z≠p.2:=fun q hq z hz=>
     ⟨fun e=>I p.1 Ye z (lZ.2 ⟨q,hq,hz⟩) e.symm,fun e=>I p.2 Ye z (lZ.2 ⟨q,hq,hz⟩) e.symm⟩
    obtain⟨l,hl,hsub⟩:=CR (n:=n) k (w|||2^p.2) Yd (M.erase p) ⟨fun q hq=>by
     obtain⟨g1,g2,g3,g4,O⟩:=hM.at_ q (List.mem_of_mem_erase hq);have R:=apart q hq q.1 (bLL rfl);have a2:=apart q hq q.2 (bLG rfl);refine⟨Yd,g2,g3,?_,?_⟩
     ·rw[OH,g4];simpa using fun e=>R.2 e.symm
     ·rw[OH,O];simpa using fun e=>a2.2 e.symm,n2⟩
    refine⟨p::l,LE _ (bOV.2 ⟨p.2,bON.2 ⟨bMZ.2 h3,?_⟩,bKX.2 ⟨l,hl,?_⟩⟩),fun q hq=>?_⟩
    ·rw[←hx1,h5];simpa using h2
    ·rw[←hx1]
    ·by_cases e:q=p
     ·subst e;exact bKZ
     ·exact bKY _ (hsub q ((List.mem_erase_of_ne e).2 hq))
   ·obtain⟨l,hl,hs⟩:=free hin;exact⟨l,bLH _ hl,hs⟩
theorem rZ{α:Type}[DecidableEq α]:∀{l m:List α},l.Nodup→(∀x∈l,x∈m)→l.length≤m.length
 | [],m,_,_=>bQA _
 |x::l,m,hn,hs=>by
  have hx:=hs x bKZ;have h1:=bMX.1 hn;have:=rZ (l:=l) (m:=m.erase x) h1.2 fun y hy=>(List.mem_erase_of_ne fun e:y=x=>h1.1 (e▸hy)).2 (hs y (bKY _ hy))
  have h2:=List.length_erase_of_mem hx;have h3:=List.length_pos_of_mem hx;simp only[bLF];omega
theorem SF{M:List (Nat×Nat)}(h:(qV M).Nodup):M.Nodup:=by
 induction M with
 |nil=>exact bNH
 |cons p M ih=>
  unfold qV at h;rw[bMA,bLJ]at h;refine bMX.2 ⟨fun hp=>?_,ih h.2.1⟩;exact h.2.2 p.1 Ye p.1 (lZ.2 ⟨p,hp,bLL rfl⟩) rfl
theorem IK(M:List (Nat×Nat)):(qV (M.map fun p=>(min p.1 p.2,max p.1 p.2))).Perm (qV M):=by
 induction M with
 |nil=>exact List.Perm.refl _
 |cons p M ih=>
  unfold qV at ih ⊢
  rw[bMD,bMA,bMA];refine List.Perm.append ?_ ih;rcases Nat.le_total p.1 p.2 with h|h
  ·rw[bOA h,Nat.max_eq_right h]
  ·rw[Nat.min_eq_right h,Nat.max_eq_left h];exact List.Perm.swap ..
def aIO(f:Nat→Nat→Bool)(l:List (Nat×Nat)):Nat:=(l.filter fun p=>f p.1 p.2).length
theorem aRW{f:Nat→Nat→Bool}(hsym:∀a b,f a b=f b a){S:Nat→Bool}{n k:Nat}(hS:∀a b,f a b=true→S a=true∧S b=true)(hn:∀x,S x=true→x<n)(hk:HY f S k):
  ((prs n n 0).map (aIO f)).foldl max 0=k:=by
 have hle:∀(l:List Nat) (m c:Nat),m≤c→(∀x∈l,x≤c)→l.foldl max m≤c:=by
  intro l;induction l with
  |nil=>intro m c h _;exact h
  |cons x l ih=>intro m c h hx;rw[bME];exact ih _ _ (by have:=hx x bKZ;omega) fun y hy=>hx y (bKY _ hy)
 have hge:∀(l:List Nat) (m:Nat),m≤l.foldl max m∧∀x∈l,x≤l.foldl max m:=by
  intro l;induction l with
  |nil=>intro m;exact⟨bLQ _,Ye⟩
  |cons x l ih=>
   intro m;rw[bME];obtain⟨I,i2⟩:=ih (max m x);refine⟨Yd,fun y hy=>?_⟩;rcases bNA.1 hy with rfl|hy
   ·omega
   ·exact i2 y hy
 apply Nat.le_antisymm
 ·refine hle _ _ _ (bQA _) fun x hx=>?_
  obtain⟨l,hl,rfl⟩:=bKX.1 hx;have ok:=n9 n 0 (bLQ _) l hl;refine hk.le (l.filter fun p=>f p.1 p.2) ⟨fun p hp=>?_,ok.nd.sublist (aUO List.filter_sublist)⟩;have:=(bON.1 hp).2;exact⟨(hS _ _ this).1,(hS _ _ this).2,this⟩
 ·obtain⟨M,hM,rfl⟩:=hk.ex;have hne:∀p∈M,p.1≠p.2:=fun p hp=>(hM.split hp).1
  obtain⟨l,hl,hs⟩:=CR n 0 (bLQ _) (M.map fun p=>(min p.1 p.2,max p.1 p.2)) ⟨fun p hp=>by
   obtain⟨q,hq,rfl⟩:=bKX.1 hp;have h1:=hn _ (hM.fit q hq).1;have h2:=hn _ (hM.fit q hq).2.1;have h3:=hne q hq;exact⟨Yd,Yl,Yl,Ye,Ye⟩,by
    exact(IK M).nodup_iff.2 hM.nd⟩
  refine bNK ?_ ((hge _ 0).2 (aIO f l) (bKX.2 ⟨l,hl,rfl⟩));have hnd:(M.map fun p=>(min p.1 p.2,max p.1 p.2)).Nodup:=SF (by
    exact(IK M).nodup_iff.2 hM.nd)
  have:=rZ hnd (m:=l.filter fun p=>f p.1 p.2) fun p hp=>by
   refine bON.2 ⟨hs p hp,?_⟩;obtain⟨q,hq,rfl⟩:=bKX.1 hp;have hf:=(hM.fit q hq).2.2;rcases Nat.le_total q.1 q.2 with h|h
   ·simp only[bOA h,Nat.max_eq_right h];exact hf
   ·simp only[Nat.min_eq_right h,Nat.max_eq_left h];rw[hsym];exact hf
  simpa [aIO]using this
theorem t8{m a:Nat}(h:m.testBit a=true):pX m (2^a)<m:=by
 have h1:=H5 m (2^a);have h2:pX m (2^a)≠m:=fun e=>by
  have:=N4 m (2^a) a;rw[e,h,Nat.testBit_two_pow_self]at this;cases this
 omega
theorem DI(m a i:Nat):(pX m (2^a)).testBit i=(m.testBit i&& !decide (a=i)):=by
 rw[N4,Nat.testBit_two_pow]
def low(m:Nat):Nat:=((List.range m).find? fun i=>m.testBit i).getD 0
theorem yO{m:Nat}(h:m≠0):m.testBit (low m)=true∧∀i,i<low m→m.testBit i=false:=by
 obtain⟨i,hi⟩:=Nat.exists_testBit_of_ne_zero h;have him:i<m:=bNR Nat.lt_two_pow_self (Nat.ge_two_pow_of_testBit hi);unfold low;cases hf:(List.range m).find? fun i=>m.testBit i with
 |none=>
  have:=List.find?_eq_none.1 hf i (bMZ.2 him);exact absurd hi this
 |some j=>
  have h1:=List.find?_some hf;refine⟨h1,fun k hk=>?_⟩;simp only[bOQ]at hk;obtain⟨_,I,O,hab,hno⟩:=List.find?_eq_some_iff_append.1 hf;have hjm:j<m:=bMZ.1 (List.mem_of_find?_eq_some hf);have hlen:I.length=j:=by
   have h2:(List.range m)[I.length]?= some j:=by rw[hab,bPC (bLQ _)];simp
   have hl:I.length<m:=by
    have:=bLE List.length hab;simp at this;omega
   rw[bPN hl]at h2;exact bLY h2
  have hkm:(List.range m)[k]?= some k:=bPN Yd;rw[hab,bNP Yd]at hkm;have:=hno k (GT hkm);simpa using this
def fB(F:List Nat)(a b:Nat):Bool:=(F.getD a 0).testBit b
def wA(F:List Nat)(rest a:Nat)(nu:Nat→Nat)(m b:Nat):Nat:=if(rest&&&F.getD a 0).testBit b=true then max m (1+nu (pX rest (2^b)))else m
def aVN(F:List Nat)(n:Nat):Nat→Nat→Nat
 |0,_=>0
 |k+1,m=>if m=0 then 0 else(List.range n).foldl (wA F (pX m (2^low m)) (low m) (aVN F n k)) (aVN F n k (pX m (2^low m)))
def AS(F:List Nat)(n m:Nat):Nat:=aVN F n m m
theorem wV{α β:Type}{f g:β→α→β}:∀{l:List α} {b:β},(∀b,∀a∈l,f b a=g b a)→l.foldl f b=l.foldl g b
 | [],_,_=>rfl
 |x::l,b,h=>by
  rw[bME,bME,h b x bKZ];exact wV fun b a ha=>h b a (bKY _ ha)
theorem X7{F:List Nat}{n:Nat}:∀(k m l:Nat),m≤k→m≤l→aVN F n k m=aVN F n l m
 |0,m,l,h,_=>by
  obtain rfl:m=0:=by omega
  cases l<;>simp[aVN]
 |k+1,m,0,_,h=>by
  obtain rfl:m=0:=by omega
  simp[aVN]
 |k+1,m,l+1,h,h'=>by
  simp only[aVN];by_cases hm:m=0
  ·rw[bLR hm,bLR hm]
  ·rw[bLI hm,bLI hm];have hlt:=t8 (yO hm).1;have e0:=X7 (F:=F) (n:=n) k (pX m (2^low m)) l Yd Yd;rw[e0];refine wV fun b a _=>?_
   unfold wA;split
   ·have:=H5 (pX m (2^low m)) (2^a);rw[X7 k (pX (pX m (2^low m)) (2^a)) l Yd Yd]
   ·rfl
theorem TY{F:List Nat}{n:Nat}:AS F n 0=0:=rfl
theorem OV{F:List Nat}{n m:Nat}(h:m≠0):AS F n m=(List.range n).foldl (wA F (pX m (2^low m)) (low m) (AS F n)) (AS F n (pX m (2^low m))):=by
 have hlt:=t8 (yO h).1;obtain⟨k,rfl⟩:∃k,m=k+1:=⟨m-1,Yd⟩
 show aVN F n (k+1) (k+1)=_;rw[aVN,bLI h];rw[X7 k (pX (k+1) (2^low (k+1))) (pX (k+1) (2^low (k+1))) Yd (bLQ _)];refine wV fun b a _=>?_
 unfold wA;split
 ·have:=H5 (pX (k+1) (2^low (k+1))) (2^a);rw[X7 k (pX (pX (k+1) (2^low (k+1))) (2^a)) _ Yd (bLQ _)];rfl
 ·rfl
theorem xO{α β:Type}{f:β→α→β}{p:α→Bool}:∀{l:List α} {b:β},(l.filter p).foldl f b=l.foldl (fun b a=>if p a=true then f b a else b) b
 | [],_=>rfl
 |x::l,b=>by
  rw[bNN,bME];split
  ·rw[bME];exact xO
  ·exact xO
theorem ZH{F:List Nat}{n:Nat}(hsym:∀a b,fB F a b=fB F b a):∀(k m:Nat),m≤k→(∀x,m.testBit x=true→x<n)→HY (fB F) m.testBit (AS F n m)
 |k,m,hk,hn=>by
  by_cases hm:m=0
  ·subst hm;exact HY.empty fun x=>Nat.zero_testBit x
  ·have hlow:=yO hm;have hlt:=t8 hlow.1;obtain⟨k',rfl⟩:∃k',k=k'+1:=⟨k-1,Yd⟩
   have I:∀m a:Nat,(pX m (2^a)).testBit=lF m.testBit a:=fun m a=>by
    funext x;rw[DI];unfold lF
    by_cases h:a=x
    ·subst h;simp
    ·have h':x≠a:=fun e=>h e.symm
     simp[h,h']
   have i0:=ZH hsym k' (pX m (2^low m)) Yd fun x hx=>hn x (by rw[DI]at hx;simp at hx;exact hx.1)
   rw[I]at i0;have ig:∀b,m.testBit b=true→b≠low m→fB F (low m) b=true→HY (fB F) (lF (lF m.testBit (low m)) b) (AS F n (pX (pX m (2^low m)) (2^b))):=fun b _ _ _=>by
    have:=H5 (pX m (2^low m)) (2^b);have O:=ZH hsym k' (pX (pX m (2^low m)) (2^b)) Yd fun x hx=>hn x (by rw[DI,DI]at hx;simp at hx;exact hx.1.1)
    rw[I,I]at O;exact O
   have key:=aVU hsym hlow.1 hn i0 ig;rw[xO]at key;rw[OV hm];have:(List.range n).foldl (wA F (pX m (2^low m)) (low m) (AS F n)) (AS F n (pX m (2^low m)))=(List.range n).foldl (fun k b=>if((m.testBit b&&decide (b≠low m))&&fB F (low m) b)=true then max k (1+AS F n (pX (pX m (2^low m)) (2^b)))else k) (AS F n (pX m (2^low m))):=by
    refine wV fun k b _=>?_
    unfold wA;rw[Nat.testBit_and,I];rfl
   rw[this];exact key
theorem aFT{F:List Nat}{rest a:Nat}{nu:Nat→Nat}:∀(l:List Nat) (m:Nat),l.foldl (wA F rest a nu) m=m∨∃b∈l,(rest&&&F.getD a 0).testBit b=true∧l.foldl (wA F rest a nu) m=1+nu (pX rest (2^b))
 | [],m=>bLL rfl
 |x::l,m=>by
  rw[bME];rcases aFT l (wA F rest a nu m x)with h|⟨b,hb,hbit,h⟩
  ·rw[h];unfold wA;split
   ·rename_i hx;by_cases hm:m≤1+nu (pX rest (2^x))
    ·exact bLG ⟨x,bKZ,hx,Yd⟩
    ·exact bLL Yd
   ·exact bLL rfl
  ·exact bLG ⟨b,bKY _ hb,hbit,h⟩
theorem aEQ{m b:Nat}(h:m≠0):pX (pX m (2^low m)) (2^b)<m:=Nat.lt_of_le_of_lt (H5 _ _) (t8 (yO h).1)

def V4:List Int→List Pt
 |a::b::c::l=>⟨a,b,c⟩::V4 l
 |_=>[]
def kT(l:List Ch):List Int:=l.flatMap fun c=>c.parts.l
def oJ(l:List Pt):List Int:=l.flatMap Pt.l
theorem vS(p:Pt)(l:List Pt):oJ (p::l)=p.a::p.b::p.c::oJ l:=rfl
theorem aNX(l:List Pt):V4 (oJ l)=l:=by
 induction l with
 |nil=>rfl
 |cons p l ih=>rw[vS,V4,ih]
theorem qJ(l:List Ch):(kT l).length=3*l.length:=by
 induction l with
 |nil=>rfl
 |cons c l ih=>unfold kT at ih ⊢;rw[bMA,GE,ih,bLF];simp[Pt.l];omega
theorem MJ(l:List Pt):(oJ l).length=3*l.length:=by
 induction l with
 |nil=>rfl
 |cons c l ih=>rw[vS];simp only[bLF,ih];omega
theorem PQ:∀(n:Nat) (l:List Int),l.length=3*n→oJ (V4 l)=l∧(V4 l).length=n
 |0,l,h=>by
  obtain rfl:l=[]:=bOL.1 Yd;exact⟨rfl,rfl⟩
 |n+1,l,h=>by
  match l,h with
  |a::b::c::l,h=>
   obtain⟨h1,h2⟩:=PQ n l (by simp only[bLF]at h;omega);rw[V4,vS];exact⟨by rw[h1],by rw[bLF,h2]⟩
def QH(y:aZ):List (List Pt):=(C1.cG (kT y.chairs)).map V4
theorem yM:∀{l t:List Int},t∈C1.cG l ↔ t.length=l.length∧∀x∈l.zip t,xG x.1 x.2=true∧True
 | [],t=>by simp[C1.cG]
 |p::l,t=>by
  have ih:=fun t=> @yM l t
  cases t with
  |nil=>simp[C1.cG]
  |cons x t=>
   have:x::t∈C1.cG (p::l) ↔ ((p=2∨p=x)∧(x=0∨x=1))∧t∈C1.cG l:=by
    rw[show C1.cG (p::l)=(if p=2∨p=0 then(C1.cG l).map (0:: ·)else [])++(if p=2∨p=1 then(C1.cG l).map (1:: ·)else [])from rfl,bLM];constructor
    ·rintro(h|h)
     ·split at h
      ·rename_i hp;obtain⟨s,hs,he⟩:=bKX.1 h;obtain⟨rfl,rfl⟩:=List.cons.inj he;exact⟨⟨hp,bLL rfl⟩,hs⟩
      ·cases h
     ·split at h
      ·rename_i hp;obtain⟨s,hs,he⟩:=bKX.1 h;obtain⟨rfl,rfl⟩:=List.cons.inj he;exact⟨⟨hp,bLG rfl⟩,hs⟩
      ·cases h
    ·rintro⟨⟨hp,rfl|rfl⟩,ht⟩
     ·exact bLL (by rw[bLR hp];exact bKX.2 ⟨t,ht,rfl⟩)
     ·exact bLG (by rw[bLR hp];exact bKX.2 ⟨t,ht,rfl⟩)
   rw[this,ih];simp only[bLF,bOS,bNA,and_true,forall_eq_or_imp,Nat.add_right_cancel_iff];have:xG p x=true ↔ (p=2∨p=x)∧(x=0∨x=1):=by
    unfold xG;simp only[bKW,bT,bMF,LT];constructor
    ·rintro⟨h1,h2⟩;exact⟨h2.imp id Eq.symm,Yd⟩
    ·rintro⟨h1,h2⟩;exact⟨Yd,h1.imp id Eq.symm⟩
   rw[this];constructor
   ·rintro⟨h1,h2,h3⟩;exact⟨h2,h1,h3⟩
   ·rintro⟨h2,h1,h3⟩;exact⟨h1,h2,h3⟩
theorem GZ:∀{l:List Ch} {t:List Pt},t.length=l.length→(∀x∈(kT l).zip (oJ t),xG x.1 x.2=true)=((l.zip t).all fun x=>S8 x.1.parts x.2)
 | [],[],_=>by simp[kT,oJ]
 |c::l,p::t,h=>by
  have ih:=GZ (l:=l) (t:=t) Yax;rw[bOS,bOZ,bKW,←ih];rw[vS,show kT (c::l)=c.parts.a::c.parts.b::c.parts.c::kT l from rfl];simp only[bOS,bNA,forall_eq_or_imp,S8,Pt.l,List.zip_nil_left,bOZ,List.all_nil,Bool.and_true,bKW,and_assoc]
theorem SW{y:aZ}{t:List Pt}:t∈QH y ↔ eJ y t=true:=by
 unfold QH eJ;rw[bKX,bKW,LT];constructor
 ·rintro⟨s,hs,rfl⟩;obtain⟨h1,h2⟩:=yM.1 hs;rw[qJ]at h1;obtain⟨g1,g2⟩:=PQ _ _ h1;refine⟨g2,?_⟩;rw[←GZ g2,g1];exact fun x hx=>(h2 x hx).1
 ·rintro⟨h1,h2⟩;refine⟨oJ t,yM.2 ⟨by rw[qJ,MJ,h1],fun x hx=>⟨?_,bQK⟩⟩,aNX t⟩;rw[←GZ h1]at h2;exact h2 x hx
end Go.Fs.C7
namespace Go.Fs
open Go.Proofs Tryz
namespace L7
open C7
def HR(n:Nat)(M:List (xS 8×Int)):Prop:=∀p∈M,∃(m:Nat) (F:List Nat),p.1.l=(m:Int)::F.map (fun x:Nat=>(x:Int))∧p.2=(AS F n m:Int)
theorem w0:∀{F G:List Nat},F.map (fun x:Nat=>(x:Int))=G.map (fun x:Nat=>(x:Int))→F=G
 | [],[],_=>rfl
 |x::F,y::G,h=>by
  rw[bMD,bMD,bNI]at h;rw[w0 h.2,show x=y by omega]
theorem bCH{n m:Nat}{a0 I a2 a3 a4 a5 O:Nat}{M:List (xS 8×Int)}{v:Int}{h:[(m:Int),a0,I,a2,a3,a4,a5,O].length=8}(hok:HR n M)(hm:(⟨[(m:Int),a0,I,a2,a3,a4,a5,O],h⟩,v)∈M):v=(AS [a0,I,a2,a3,a4,a5,O] n m:Int):=by
 obtain⟨m',F,h1,h2⟩:=hok _ hm;simp only[bNI]at h1;obtain⟨h0,h1⟩:=h1;have:F=[a0,I,a2,a3,a4,a5,O]:=w0 (by rw[←h1];rfl)
 rw[this,show m'=m by omega]at h2;exact h2
theorem bAG{n m:Nat}{a0 I a2 a3 a4 a5 O:Nat}{M M':List (xS 8×Int)}{v:Int}{h:[(m:Int),a0,I,a2,a3,a4,a5,O].length=8}(hok:HR n M)(hm:∀p∈M',p∈M∨p=(⟨[(m:Int),a0,I,a2,a3,a4,a5,O],h⟩,v))(hv:v=(AS [a0,I,a2,a3,a4,a5,O] n m:Int)):HR n M':=fun p hp=>by
 rcases hm p hp with h1|rfl
 ·exact hok p h1
 ·exact⟨m,[a0,I,a2,a3,a4,a5,O],rfl,hv⟩
theorem HR.nil{n:Nat}:HR n []:=fun p hp=>by cases hp
theorem NF{m n:Nat}(h:∀x,m.testBit x=true→x<n)(hn:n≤7):m<128:=by
 have:m<2^n:=by
  apply Nat.lt_pow_two_of_testBit;intro i hi;cases e:m.testBit i with
  |false=>rfl
  |true=>have:=h i e;omega
 have h2:2^n≤2^7:=bMY Yd hn;omega
theorem DY{m n a:Nat}(h:∀x,m.testBit x=true→x<n):∀x,(pX m (2^a)).testBit x=true→x<n:=fun x hx=>h x (by rw[DI]at hx;simp at hx;exact hx.1)
theorem BK{k:Nat}(h:k<7):2^k<128:=by
 have:2^k<2^7:=Nat.pow_lt_pow_right Yd h;omega
theorem bFX{F:List Nat}(h:∀f∈F,f<128)(a:Nat):F.getD a 0<128:=by
 rw[bNG];cases e:F[a]? with
 |none=>simp
 |some x=>exact h x (GT e)
theorem aUD(a0 I a2 a3 a4 a5 O:Nat){a:Nat}(h:a<7):([qI (a0:Int),qI (I:Int),qI (a2:Int),qI (a3:Int),qI (a4:Int),qI (a5:Int),qI (O:Int)]:List Γ)[a*1]?= some (qI (([a0,I,a2,a3,a4,a5,O].getD a 0:Nat):Int)):=by
 have e:a=0∨a=1∨a=2∨a=3∨a=4∨a=5∨a=6:=by omega
 rcases e with rfl|rfl|rfl|rfl|rfl|rfl|rfl<;>rfl
theorem ZQ(F:List Nat)(n:Nat):∀m,AS F n m≤m:=by
 intro m;induction m using Nat.strongRecOn with
 |_ m ih=>
  by_cases hm:m=0
  ·subst hm;rw[TY];exact bLQ _
  ·have hlt:=t8 (yO hm).1;rcases aFT (F:=F) (rest:=pX m (2^low m)) (a:=low m) (nu:=AS F n) (List.range n) (AS F n (pX m (2^low m)))with h|⟨b,_,_,h⟩
   ·rw[OV hm,h];have:=ih _ hlt;omega
   ·rw[OV hm,h];have h2:=aEQ (b:=b) hm;have:=ih _ h2;omega
def aMH(F:List Nat)(n m k:Nat):Nat:=(List.range k).foldl (wA F (pX m (2^low m)) (low m) (AS F n)) (AS F n (pX m (2^low m)))
theorem aTH{F:List Nat}{n m:Nat}(h:m≠0):AS F n m=aMH F n m n:=OV h
theorem aWM{F:List Nat}{n m k:Nat}(h:(pX m (2^low m)&&&F.getD (low m) 0).testBit k=true):aMH F n m (k+1)=max (aMH F n m k) (1+AS F n (pX (pX m (2^low m)) (2^k))):=by
 have e:aMH F n m (k+1)=wA F (pX m (2^low m)) (low m) (AS F n) (aMH F n m k) k:=by unfold aMH;rw[bMN,bMT,bME,List.foldl_nil]
 rw[e];unfold wA;rw[bLR h]
theorem bHK{F:List Nat}{n m k:Nat}(h:(pX m (2^low m)&&&F.getD (low m) 0).testBit k=false):aMH F n m (k+1)=aMH F n m k:=by
 have e:aMH F n m (k+1)=wA F (pX m (2^low m)) (low m) (AS F n) (aMH F n m k) k:=by unfold aMH;rw[bMN,bMT,bME,List.foldl_nil]
 rw[e];unfold wA;rw[bLI Xaf]
theorem LG{wb mb t cl:Nat}{cs:List Γ}{es:Array MapEntry}:∀p∈[(wb,Obj.cells cs.toArray t (0,0)),(mb,.map es cl)],dC p.2:=by
 intro p hp;simp only[bNA,n4,bND]at hp;rcases hp with rfl|rfl
 ·rfl
 ·trivial
theorem aUZ:KA prog 387 7:=⟨(prog.fieldsOf 387)[0]!,(prog.fieldsOf 387)[1]!,3,Yg,Yg,Yg,Yao,Yao,Yg,Yg,Yg,Yg,Yg,Yg,by rw[show((prog.fieldsOf 387)[1]!).type=305 by kernel_rfl];exact Z2,by rw[show((prog.fieldsOf 387)[1]!).type=305 by kernel_rfl];exact B9,aJ⟩
theorem aPR(wb mb:Nat)(cv qv:Γ)(fit:Int)(chs:List Ch)(a0 O a2 a3 a4 a5 R:Nat)(hN:chs.length≤7)(hF:∀f∈[a0,O,a2,a3,a4,a5,R],f<128):
  ∀(L m:Nat),m=L→(∀x,m.testBit x=true→x<chs.length)→∀(es:Array MapEntry) (clock:Nat) (M:List (xS 8×Int)) (D:aC),Sl D xW 4 cv chs→K4 AD es M→HR chs.length M→
  HA prog 248 [qP wb,.agg #[qI (m:Int),qI (a0:Int),qI (O:Int),qI (a2:Int),qI (a3:Int),qI (a4:Int),qI (a5:Int),qI (R:Int)]] D [(wb,qC [cv,qI fit,qv,.map (some mb)] 299),(mb,.map es clock)] (fun _ v ν'=>v=qI (AS [a0,O,a2,a3,a4,a5,R] chs.length m:Int)∧∃es' clock' M',ν'=[(wb,qC [cv,qI fit,qv,.map (some mb)] 299),(mb,.map es' clock')]∧K4 AD es' M'∧HR chs.length M'):=by
 intro L;induction L using Nat.strongRecOn with
 |_ L ih=>
 intro m hL hbits es clock M D hS hM hok;subst hL;have hl1:=hS.len;have hmb:=NF hbits hN;refine jR 78 func248 rfl rfl rfl rfl fun h0 hwl hwn=>aA<|Zab rfl fun q1 E1 hE1 I=>Zk rfl<|bK<|Zi rfl z7 rfl<|Zd 0 rfl aH rfl I rfl<|Zaw rfl<|aF<|Zag rfl (fun hc1=>?_) fun hc1=>?_
 ·refine Wcg ?_;exact Zaj [] [] [_,_] [_] rfl ⟨rfl,bQK⟩ rfl fun D hD=>⟨by show Value.int _ _=_;rw[show m=0 by omega,TY];rfl,es,clock,M,rfl,hM,hok⟩
 ·have Z:m≠0:=by omega
  have hlow:=yO Z;have hlown:=hbits _ hlow.1;have V:low m<7:=by omega
  have hp2:=BK V;have hlt:=t8 hlow.1;have hrest:=H5 m (2^low m);refine aQ<|Za5<|Za5<|bE [] 6 11 784<|Za rfl<|Zao rfl<|Zi rfl KQ rfl<|Zp rfl aDS rfl Mm0 rfl<|Zv rfl aEB rfl I aFA<|aHP (val:=AD (n:=8)) (a:=⟨[(m:Int),(a0:Int),(O:Int),(a2:Int),(a3:Int),(a4:Int),(a5:Int),(R:Int)],rfl⟩) rfl U297 aUZ.key cK rfl rfl Mm1 n4 hM rfl bQK fun nv ok hmem=>Za rfl<|Zaq rfl ?_;refine Zaq rfl<|Zk rfl<|Zk rfl<|aL<|Za rfl<|aF<|Zaf rfl (fun hc2=>?_) fun hc2=>?_
  ·subst hc2;refine aA<|Za rfl<|Wi ?_;exact Zaj [] [] [_,_] [_] rfl ⟨rfl,bQK⟩ rfl fun D hD=>⟨by show Value.int _ _=_;rw[bCH hok (hmem rfl)],es,clock,M,rfl,hM,hok⟩
  ·refine aQ<|aA<|Zi rfl z7 rfl<|Zd 0 rfl aH rfl I rfl<|Zf rfl (fun D1 hD1=>aMD m (low m) _ hlow.1 Yd hlow.2)<|Zk rfl<|bS<|bE [] 2 6 12<|Zi rfl z7 rfl<|Zd 0 rfl aH rfl I rfl<|Za rfl<|FA rfl rfl rfl Yd rfl bQK ?_;refine aSU rfl rfl rfl Yd Yd rfl bQK<|Zk rfl<|aL<|Za rfl<|Za rfl<|Zi rfl y3 rfl<|jW rfl (k:=1) (us:=[qI (a0:Int),qI (O:Int),qI (a2:Int),qI (a3:Int),qI (a4:Int),qI (a5:Int),qI (R:Int)]) Z2 B9 rfl I Yc rfl rfl n4 rfl bQK<|kB (cs:=[qI ((pX m (2^low m):Nat):Int),qI (a0:Int),qI (O:Int),qI (a2:Int),qI (a3:Int),qI (a4:Int),qI (a5:Int),qI (R:Int)]) rfl PK OK rfl Yg rfl bQK<|gH (A:=[]) (ν:=[(_,_),(_,_)]) (B:=[]) rfl rfl rfl rfl (bLL rfl) (LG (cs:=[_,_,_,_])) (fun D5 hO=>ih _ hlt _ rfl (DY hbits) es clock M D5 (hS.up xW.up (hO _ Ye)) hM hok) rfl bQK fun v5 D6 _ hD6 hp5=>?_;obtain⟨rfl,hP,hR,M4,rfl,hX,hE⟩:=hp5;refine Zk rfl<|bK<|Za rfl<|Zao rfl<|Zi rfl P6 rfl<|Zi rfl eO rfl<|Zp rfl kS rfl Mm0 rfl<|Zai rfl U37 rfl hS rfl<|Za rfl<|aF<|Za3<|Zc (Nat×Array MapEntry×Nat×List (xS 8×Int)) (fun g=>chs.length-g.1) (fun g=>g.1≤chs.length∧K4 AD g.2.1 g.2.2.2∧HR chs.length g.2.2.2) (fun g=>[(45,qI (g.1:Int)),(9,qI (aMH [a0,O,a2,a3,a4,a5,R] chs.length m g.1:Int))]) [(44,_),(8,_),(7,_),(4,_),(3,_),(0,_)] (fun g=>[(wb,qC [cv,qI fit,qv,.map (some mb)] 299),(mb,.map g.2.1 g.2.2.1)]) (fun g=>[D6,E1,D]) (0,hP,hR,M4) ⟨Ye,hX,hE⟩ ⟨Ya,Ya,bQK⟩ Mm5 ?_;rintro⟨k,hH,hI,M1⟩ ⟨h1,hB,U⟩;simp only at h1 hB U;refine aA<|Zan rfl<|bS<|Zag rfl (fun hc3=>?_) (fun hc3=>?_)
   ·have hk:k<chs.length:=by omega
    have hpk:=BK (show k<7 by omega);have hrow:=bFX hF (low m);have hdl:=H5 (pX m (2^low m)) (2^k);have hnl:=ZQ [a0,O,a2,a3,a4,a5,R] chs.length (pX (pX m (2^low m)) (2^k));have hand:=Nat.and_le_left (n:=pX m (2^low m)) (m:=[a0,O,a2,a3,a4,a5,R].getD (low m) 0);refine aQ<|Za5<|Za3<|aA<|Za rfl<|Zk rfl<|aL<|Za rfl<|Za rfl<|Zi rfl y3 rfl<|eV rfl U305 aJ rfl rfl Yd Yd rfl bQK<|dZ (o:=0+1) (k:=low m*1) rfl aH rfl I.tail Ye (aUD a0 O a2 a3 a4 a5 R V) n4 rfl bQK ?_;refine aSX rfl rfl rfl Yd Yd rfl bQK<|Za rfl<|W2 rfl rfl rfl Yd rfl bQK<|C4 rfl rfl rfl (bPQ _) Yd Xch rfl bQK<|Zaw rfl<|aF<|Zag rfl (fun Y=>?_) fun Y=>?_
    ·have hbit:(pX m (2^low m)&&& [a0,O,a2,a3,a4,a5,R].getD (low m) 0).testBit k=true:=by rw[mQ]at Y;simpa using Y
     refine fL I Ye fun hJ=>?_;have hJ:q1∉[wb,mb]:=hJ;refine iZ [wb,mb] 6 [0,1,2,3,4,5,6,7,8,9,10,11,12] [false,true,true,true,true,true,true,true,true,true,true,false,false] [(false,0),(true,1),(true,2),(true,3),(true,4),(true,5),(true,6),(true,7),(true,8),(true,9),(true,10),(false,11),(false,12)] bC (fun _ _ _ h=>kK (P:=prog) (fn:=f248) _ _ _ h) Yg rfl<|Za rfl<|Za rfl<|Za rfl<|Za rfl<|FA rfl rfl rfl Yd rfl bQK<|aSU rfl rfl rfl Yd Yl rfl bQK<|Zi rfl y3 rfl<|jW rfl (k:=1) (us:=[qI (a0:Int),qI (O:Int),qI (a2:Int),qI (a3:Int),qI (a4:Int),qI (a5:Int),qI (R:Int)]) Z2 B9 rfl I Yc rfl rfl Ym rfl bQK<|kB (cs:=[qI ((pX (pX m (2^low m)) (2^k):Nat):Int),qI (a0:Int),qI (O:Int),qI (a2:Int),qI (a3:Int),qI (a4:Int),qI (a5:Int),qI (R:Int)]) rfl PK OK rfl Yg rfl bQK<|gH (A:=[]) (ν:=[(_,_),(_,_)]) (B:=[]) rfl rfl rfl rfl (bLG fun p hp=>bKX.2 ⟨p,hp,rfl⟩) (LG (cs:=[_,_,_,_])) (fun D7 hY=>ih _ (aEQ Z) _ rfl (DY (DY hbits)) hH hI M1 D7 (hS.up xW.up (hY _ Ye)) hB U) rfl bQK fun v7 D8 _ hD8 rA=>?_;obtain⟨rfl,rB,cl5,M5,rfl,hM5,hK⟩:=rA;refine Zah rfl<|qF rfl rfl rfl rfl bQK<|Was ?_;exact aI 30 (k+1,rB,cl5,M5) ⟨Yl,hM5,hK⟩ Yl ⟨Ya,(by rw[aWM hbit];show some (Value.int _ _)=some (Value.int _ _);congr 2;simp only;omega),bQK⟩ rfl rfl Mm5 fun D h=>⟨D,bLP _ (h),Le.refl D⟩
    ·have hbit:(pX m (2^low m)&&& [a0,O,a2,a3,a4,a5,R].getD (low m) 0).testBit k=false:=by rw[mQ]at Y;simpa using Y
     refine Wcf ?_;exact aI 17 (k+1,hH,hI,M1) ⟨Yl,hB,U⟩ Yl ⟨Ya,(by rw[bHK hbit];rfl),bQK⟩ rfl rfl Mm5 (aK)
   ·obtain rfl:k=chs.length:=by omega
    refine Za8<|Za4<|Za4<|Za9<|Za1<|Za5<|bE [] 3 7 48<|Za rfl<|Zao rfl<|Zi rfl KQ rfl<|Zp rfl aDS rfl Mm0 rfl<|Zv rfl aEB rfl I aFA ?_;refine Za rfl<|aJD (val:=AD (n:=8)) (A:=[(_,_)]) (B:=[]) (a:=⟨[(m:Int),(a0:Int),(O:Int),(a2:Int),(a3:Int),(a4:Int),(a5:Int),(R:Int)],rfl⟩) rfl U297 aUZ.key rfl rfl rfl hB bQK fun es3 cl3 M3 hM3 hm3=>aL<|Za rfl<|We ?_;exact Zaj [] [] [_,_] [_] rfl ⟨rfl,bQK⟩ rfl fun D hD=>⟨by show Value.int _ _=_;rw[aTH Z],es3,cl3,M3,rfl,hM3,bAG U hm3 (by rw[aTH Z])⟩
structure RG(n:Nat)(s:Sc):Prop where
 len:s.fits.length=7
 row:∀f∈s.fits,f<128
 bits:∀x,s.broken.testBit x=true→x<n
 whole:s.whole≤7
def wE(n:Nat)(s:Sc):Nat:=s.whole+AS s.fits n s.broken
theorem bED{α:Type}{l:List α}(h:l.length=7):∃a b c d e f g,l=[a,b,c,d,e,f,g]:=by
 match l,h with
 | [a,b,c,d,e,f,g],_=>exact⟨a,b,c,d,e,f,g,rfl⟩
theorem N6{y:aZ}{t:List Pt}(hl:t.length=y.chairs.length)(I:t.length≤7):RG y.chairs.length (dO y t):=by
 refine⟨by simp[dO],fun f hf=>?_,fun x hx=>?_,?_⟩
 ·obtain⟨j,_,rfl⟩:=bKX.1 hf;have h1:=X1 (kV y t j) t.length;have h2:2^t.length≤2^7:=bMY Yd I;omega
 ·simp only[dO]at hx;rw[oU]at hx;simp at hx;omega
 ·have:whole t≤t.length:=bMO _ _;simp only[dO];omega
def pI(l:List (Nat×Nat)):List (Int×Int):=l.map fun p=>((p.1:Int),(p.2:Int))
def HC(l:List (Int×Int)):List Γ:=l.flatMap fun p=>[qI p.1,qI p.2]
theorem FP(l:List (Int×Int))(p:Int×Int):HC (l++[p])=HC l++[qI p.1,qI p.2]:=by simp[HC]
theorem vE(l:List (Int×Int)):(HC l).length=l.length*2:=by
 induction l with
 |nil=>rfl
 |cons c l ih=>unfold HC at ih ⊢;rw[bMA,GE,ih];simp only[bLF,bNE];omega
theorem aZX{l:List (Int×Int)}{i:Nat}{c:Int×Int}(hi:l[i]?= some c):((HC l).drop (i*2)).take 2=[qI c.1,qI c.2]:=by
  induction l generalizing i with
  |nil=>simp at hi
  |cons d l ih=>
    unfold HC at ih ⊢
    rw[bMA];cases i with
    | zero => obtain rfl : d = c := by simpa using hi
              rfl
    |succ i=>
      rw[bPH,bMQ Yaq,bMH];have:(i+1)*2- [Value.int .i64 d.1,Value.int .i64 d.2].length=i*2:=by simp;omega
      rw[this];exact ih Yau
theorem _root_.Go.Fs.kN.prs{D:aC}{v:Γ}{n:Nat}{l:List (Int×Int)}(hF:kN D v n (HC l))(hn:l.length=n)(hb:n≤9223372036854775807):Sl D R2 2 v l:=
 hF.sl hn hb fun _i _t hi=>⟨_,rfl,rfl,aZX hi⟩
theorem aOU(wb mb:Nat)(cv qv:Γ)(fit:Int)(chs:List Ch)(w b:Nat)(a0 O a2 a3 a4 a5 R:Nat)(U:chs.length≤7)(hF:∀f∈[a0,O,a2,a3,a4,a5,R],f<128)(hw:w≤7)(hbits:∀x,b.testBit x=true→x<chs.length)(es:Array MapEntry)(clock:Nat)(M:List (xS 8×Int))(D:aC)(hS:Sl D xW 4 cv chs)(hM:K4 AD es M)(hok:HR chs.length M):
  HA prog 175 [qP wb,.agg #[qI (w:Int),qI ((b:Nat):Int),qI (a0:Int),qI (O:Int),qI (a2:Int),qI (a3:Int),qI (a4:Int),qI (a5:Int),qI (R:Int)]] D [(wb,qC [cv,qI fit,qv,.map (some mb)] 299),(mb,.map es clock)] (fun _ v ν'=>v=qI ((w+AS [a0,O,a2,a3,a4,a5,R] chs.length b:Nat):Int)∧∃es' clock' M',ν'=[(wb,qC [cv,qI fit,qv,.map (some mb)] 299),(mb,.map es' clock')]∧K4 AD es' M'∧HR chs.length M'):=by
 have hbl:=NF hbits U;have hnl:=ZQ [a0,O,a2,a3,a4,a5,R] chs.length b;refine jR 15 func175 rfl rfl rfl rfl fun h0 hwl hwn=>aA<|Zab rfl fun q1 E1 hI I=>Zk rfl<|bS<|fL I Ye fun V=>?_;have V:q1∉[wb,mb]:=V;refine iZ [wb,mb] 4 [0,1,2,3,4,5,6,7,8,9,10] [false,false,true,true,true,true,true,true,true,false,false] [(false,0),(false,1),(true,2),(true,3),(true,4),(true,5),(true,6),(true,7),(true,8),(false,9),(false,10)] bC (fun _ _ _ h=>kK (P:=prog) (fn:=f175) _ _ _ h) Yg rfl<|Zi rfl N0 rfl<|dZ rfl (k:=0) aH rfl I Yc rfl Ym rfl bQK<|Za rfl<|Zi rfl u9 rfl<|dZ rfl (k:=1) aH rfl I Yc rfl Ym rfl bQK<|Zi rfl O8 rfl<|jW rfl (k:=2) (us:=[qI (a0:Int),qI (O:Int),qI (a2:Int),qI (a3:Int),qI (a4:Int),qI (a5:Int),qI (R:Int)]) Z2 B9 rfl I Yc rfl rfl Ym rfl bQK<|kB (cs:=[qI ((b:Nat):Int),qI (a0:Int),qI (O:Int),qI (a2:Int),qI (a3:Int),qI (a4:Int),qI (a5:Int),qI (R:Int)]) rfl PK OK rfl Yg rfl bQK<|gH (A:=[]) (ν:=[(_,_),(_,_)]) (B:=[]) rfl rfl rfl rfl (by first|exact Or.inl rfl|exact Or.inr fun p hp=>bKX.2 ⟨p,hp,rfl⟩) (LG (cs:=[_,_,_,_])) (fun D5 Z=>aPR wb mb cv qv fit chs a0 O a2 a3 a4 a5 R U hF _ b rfl hbits es clock M D5 (hS.up xW.up (Z _ Ye)) hM hok) rfl bQK fun v5 D6 _ hJ hp5=>?_;obtain⟨rfl,hB,hE,M1,rfl,hH,Y⟩:=hp5;refine Zah rfl<|We ?_;exact Zaj [] [] [_,_] [_] rfl ⟨rfl,bQK⟩ rfl fun D hD=>⟨by show Value.int _ _=_;congr 1,hB,hE,M1,rfl,hH,Y⟩
theorem aWH(wb mb:Nat)(cv qv:Γ)(fit:Int)(chs:List Ch)(s:Sc)(I:chs.length≤7)(hs:RG chs.length s)(es:Array MapEntry)(clock:Nat)(M:List (xS 8×Int))(D:aC)(hS:Sl D xW 4 cv chs)(hM:K4 AD es M)(hok:HR chs.length M):
  HA prog 175 [qP wb,ZV s] D [(wb,qC [cv,qI fit,qv,.map (some mb)] 299),(mb,.map es clock)] (fun _ v ν'=>v=qI (wE chs.length s:Int)∧∃es' clock' M',ν'=[(wb,qC [cv,qI fit,qv,.map (some mb)] 299),(mb,.map es' clock')]∧K4 AD es' M'∧HR chs.length M'):=by
 obtain⟨w,b,F⟩:=s;obtain⟨a0,O,a2,a3,a4,a5,R,rfl⟩:=bED hs.len;exact aOU wb mb cv qv fit chs w b a0 O a2 a3 a4 a5 R I hs.row hs.whole hs.bits es clock M D hS hM hok
structure bDM(y:aZ):Prop where
 len:y.chairs.length≤7
 cls:y.claims.length≤5
 fit:0≤y.fit∧y.fit≤9
 size:∀c∈y.chairs,0≤c.size∧c.size≤9
 part:∀c∈y.chairs,∀n∈c.parts.l,0≤n∧n≤2
 claim:∀r∈y.claims,0≤r.1∧r.1≤r.2∧r.2≤7
 unk:dK y.chairs≤8
theorem bJE{y:aZ}(h:bB y=0):bDM y:=by
 unfold bB at h;split at h
 ·omega
 ·rename_i h1;split at h
  ·omega
  ·rename_i h2;split at h
   ·omega
   ·rename_i h3;have h4:B7 y=true:=by simpa using h2
    simp only[B7,bKW,bLX,bT]at h4;obtain⟨⟨h5,I⟩,O⟩:=h4;refine⟨Yd,Yd,h5,fun c hc=>?_,fun c hc n hn=>?_,fun r hr=>?_,Yd⟩
    ·have:=I c hc;simp only[lC,bKW,bT]at this;exact this.1
    ·have:=I c hc;simp only[lC,bKW,SL,bLX]at this
     exact bT.1 (this.2 n hn)
    ·have:=O r hr;simp only[mO,bKW,LT]at this;exact⟨this.1.1,this.1.2,this.2⟩
theorem aEI{y:aZ}{t:List Pt}(h:eJ y t=true):t.length=y.chairs.length∧∀p∈t,wI p:=by
 unfold eJ at h;simp only[bKW,LT,bLX]at h;refine⟨h.1,fun p hp=>?_⟩;obtain⟨i,hi⟩:=bOX.1 hp;obtain⟨hlt,_⟩:=bLD.1 hi;have hc:y.chairs[i]?= some (y.chairs[i]'Yd):=bLB _;have:=h.2 (y.chairs[i]'Yd,p) (GT (i:=i) (by rw[bQG];exact⟨hc,hi⟩))
 simp only[S8,Pt.l,bOS,List.zip_nil_left,bOZ,List.all_nil,Bool.and_true,bKW,xG,bT]at this;exact⟨this.1.1,this.2.1.1,this.2.2.1⟩
def tZ(cl:List (Int×Int))(out:List Int)(n:Int)(i:Nat):Bool:=(out.any fun x=>decide ((i:Int)=x))||(match cl[i]? with|some r=>gZ n r.1 r.2|none=>true)
def oI(cl:List (Int×Int))(out:List Int)(n:Int):Bool:=(List.range cl.length).all (tZ cl out n)
theorem aLJ{cl:List (Int×Int)}{out:List Int}{n:Int}{i:Nat}{r:Int×Int}(hr:cl[i]?= some r)(h:((!out.any fun x=>decide ((i:Int)=x))&& !gZ n r.1 r.2)=false):tZ cl out n i=true:=by
 unfold tZ;rw[hr];revert h
 cases out.any fun x=>decide ((i:Int)=x)<;>simp
theorem FX{cl:List (Int×Int)}{out:List Int}{n:Int}{i:Nat}{r:Int×Int}(hi:i<cl.length)(hr:cl[i]?= some r)(h:((!out.any fun x=>decide ((i:Int)=x))&& !gZ n r.1 r.2)=true):oI cl out n=false:=by
 unfold oI;rw[bQC];refine⟨i,bMZ.2 hi,?_⟩;unfold tZ;rw[hr];revert h
 cases out.any fun x=>decide ((i:Int)=x)<;>simp
theorem x6{cl:List (Int×Int)}{out:List Int}{n:Int}(h:∀j,j<cl.length→tZ cl out n j=true):oI cl out n=true:=by
 unfold oI;rw[bLX];exact fun j hj=>h j (bMZ.1 hj)
def C5(y:aZ)(t:List Pt):Nat:=wE y.chairs.length (dO y t)
theorem CK(yv:Γ)(y:aZ)(cv qv:Γ)(D:aC)(hy:yv=.agg #[cv,qI y.fit,qv]):IU prog 87 #[yv] D (fun _ v ν=>∃wb mb,v=qP wb∧ν=[(wb,qC [cv,qI y.fit,qv,.map (some mb)] 299),(mb,.map #[] 0)]):=by
 subst hy;refine rD 7 func87 rfl rfl rfl rfl fun h0=>aA<|Zab rfl fun R E1 O I=>Zk rfl<|aL<|Zv rfl kP rfl I jA<|yL rfl rfl bQK fun qm=>Zt [cv,qI y.fit,qv,.map (some qm)] rfl aWR aZY rfl<|GN rfl (e:=299) rfl rfl rfl bQK fun U=>We ?_
 exact aE rfl fun D hD=>⟨_,_,rfl,rfl⟩
theorem aQA(sv:Γ)(xs:List Int)(n:Int)(D:aC)(hS:Sl D RI 1 sv xs):Fn prog 320 #[sv,qI n] D (fun _ v=>v=qI (idxOf (fun x=>decide (n=x)) xs)):=by
 have hl:=hS.len;refine Zx 19 func320 rfl fun h0=>aA<|Zk rfl<|bK<|Za rfl<|dD rfl U25 rfl Yn rfl rfl bQK<|Za rfl<|aF<|Za3<|Zn Nat (fun k=>xs.length-k) (fun k=>k≤xs.length∧(xs.take k).any (fun x=>decide (n=x))=false) (fun k=>[(8,qI k)]) [(7,_),(4,_),(0,_),(1,_)] (fun k=>[D]) 0 ⟨Ya,bQK⟩ ?_;rintro k ⟨h1,h2⟩;refine aA<|Zan rfl<|bS<|Zag rfl (fun hc1=>?_) fun hc1=>?_
 ·have hk:k<xs.length:=by omega
  obtain⟨x,hx⟩:=cB xs k;refine aQ<|Za5<|Za3<|aA<|Za rfl<|Zk rfl<|aL<|Za rfl<|Za rfl<|Za rfl<|dX rfl U25 aJ rfl Yn rfl Yd Yn rfl bQK fun V o1 I O U R=>?_;obtain rfl:I=[qI _]:=O;refine Zd 0 rfl aH rfl R rfl<|Zaw rfl<|aF<|Zag rfl (fun hc2=>?_) fun hc2=>?_
  ·refine Wbi ?_;exact aE rfl fun D hD=>by show Value.int _ _=_;rw[lH hx h2 (by simp[hc2])]
  ·refine Wcf ?_;have h3:(xs.take (k+1)).any (fun x=>decide (n=x))=false:=by rw[bLA,hx,bOP,h2];simp[hc2]
   exact aI 12 (k+1) ⟨Yd,h3⟩ Yd ⟨Ya,bQK⟩ rfl rfl Mm5 (aK)
 ·refine Wj ?_;exact aE rfl fun D hD=>Xah
theorem J4(sv:Γ)(xs:List Int)(n:Int)(D:aC)(hS:Sl D RI 1 sv xs):Fn prog 225 #[sv,qI n] D (fun _ v=>v=.bool (xs.any fun x=>decide (n=x))):=by
 refine Zx 9 func225 rfl fun h0=>aA<|Zk rfl<|aL<|Za rfl<|Za rfl<|Zf rfl (fun O I=>aQA _ xs n _ (Sl.at RI.up I Yn Ye))<|Wac ?_;exact aE rfl fun D hD=>Xai
theorem FJ(yv:Γ)(y:aZ)(n:Int)(ov:Γ)(out:List Int)(D:aC)(hy:gU D yv y)(ho:Sl D RI 1 ov out):Fn prog 176 #[yv,qI n,ov] D (fun _ v=>v=.bool (oI y.claims out n)):=by
 obtain⟨cv,qv,rfl,hc,hq⟩:=hy;have hl:=hq.len;refine Zx 28 func176 rfl fun h0=>aA<|Zab rfl fun q1 E1 hE O=>Zk rfl<|bK<|Zi rfl hZ rfl<|Zd 2 rfl qE rfl O rfl<|Zai rfl U38 rfl hq rfl<|Za rfl<|aF<|Za3<|Zn Nat (fun i=>y.claims.length-i) (fun i=>i≤y.claims.length∧∀j,j<i→tZ y.claims out n j=true) (fun i=>[(12,qI (i:Int))]) [(11,_),(10,_),(6,_),(1,_),(2,_)] (fun i=>[E1,D]) 0 ⟨Ya,bQK⟩ ?_;rintro i ⟨h1,h2⟩;refine aA<|Zan rfl<|bS<|Zag rfl (fun hc1=>?_) fun hc1=>?_
 ·have hi:i<y.claims.length:=by omega
  obtain⟨r,I⟩:=cB y.claims i;refine aQ<|Za5<|Za3<|aA<|Za rfl<|Zw rfl U38 cY rfl hq rfl I fun b1 o1 R U hB V=>?_;obtain rfl:R=[qI _,qI _]:=U;refine Zv rfl oA rfl V cY<|Zad rfl kR rfl fun q2=>Zk rfl<|Zy rfl cY ζ<|aL<|Za rfl<|Za rfl<|Zf rfl (fun D1 Y=>J4 _ out (i:Int) _ (Sl.at RI.up Y Yn Ye))<|Wbu ?_;refine' bW 5 (s:=21) (p:=26) rfl (fun Z=>?_) (fun Z=>?_) ?_;rotate_left
  ·refine bL rfl oA rfl Mm0 cY n4 rfl ⟨_,rfl,rfl⟩<|Zb rfl<|Zg rfl (fun D2 hF=>CW r n _)<|Wci ?_;exact aM 4
  ·refine Zh rfl<|Wb ?_;exact aM 4
  refine aF<|Zaf rfl (fun hc2=>?_) fun hc2=>?_
  ·refine aA<|Wg ?_;exact aE rfl fun D hD=>by show Value.bool _=_;rw[FX hi I hc2]
  ·refine Wcf ?_;exact aI 15 (i+1) ⟨Yd,fun j hj=>by rcases Nat.lt_succ_iff_lt_or_eq.1 hj with h|rfl;exact h2 j h;exact aLJ I hc2⟩ Yd ⟨Ya,bQK⟩ rfl rfl (List.Sublist.cons _ Mm5) (aK)
 ·obtain rfl:i=y.claims.length:=by omega
  refine Wj ?_;exact aE rfl fun D hD=>by show Value.bool _=_;rw[x6 h2]
end L7
namespace L2
open L1
open C2
open C1 (gZ bT tN rK)
theorem MX{c:List Int}{a b:Int}(I:c.length=10)(h0:0≤a)(h1:a≤b)(O:b≤9):∃x xs,(c.drop a.toNat).take ((b+1).toNat-a.toNat)=x::xs∧xs.foldl max x=kD c a b:=by
 have hlen:((c.drop a.toNat).take ((b+1).toNat-a.toNat)).length=(b+1).toNat-a.toNat:=by simp;omega
 cases h:(c.drop a.toNat).take ((b+1).toNat-a.toNat)with
 |nil=>rw[h]at hlen;simp at hlen;omega
 |cons x xs=>
  refine⟨x,xs,rfl,?_⟩;unfold kD;rw[show(b+1-a).toNat=(b+1).toNat-a.toNat by omega,h];rfl
def DG(s:List Int)(m:Mk):Bool:=gZ (kD s m.frm m.to) m.lo m.hi
theorem WZ{last:Int}{m:Mk}(h:xA last m=true):0≤m.frm∧m.frm≤m.to∧m.to≤last∧0≤m.lo∧m.lo≤m.hi∧m.hi≤99:=by
 unfold xA tE GQ jJ fI at h;simp only[bKW,LT,bT]at h;omega
theorem WJ{t:aW}{c:List Int}{k:Nat}{m:Mk}(hx:t.marks[k]?= some m)(h2:(t.marks.take k).all (DG c)=true)(h:((!([]:List Int).any fun x=>decide ((k:Int)=x))&& !gZ (kD c m.frm m.to) (m.lo,m.hi).1 (m.lo,m.hi).2)=false):(t.marks.take (k+1)).all (DG c)=true:=by
 rw[bLA,hx,List.all_append,h2];simpa [DG]using h
theorem FX{t:aW}{c:List Int}{k:Nat}{m:Mk}(hx:t.marks[k]?= some m)(h:((!([]:List Int).any fun x=>decide ((k:Int)=x))&& !gZ (kD c m.frm m.to) (m.lo,m.hi).1 (m.lo,m.hi).2)=true):iH t c=false:=by
 unfold iH;rw[bQC];exact⟨m,GT hx,Yax⟩
theorem x6{t:aW}{c:List Int}{k:Nat}(h2:(t.marks.take k).all (DG c)=true)(hk:t.marks.length≤k):iH t c=true:=by
 rw[bLZ hk]at h2;exact h2
theorem aIF(l:List (Int×Int))(r:Int×Int):rI (l++[r])=min (rI l*fJ r) 2001:=by
 unfold rI;rw[bMT];rfl
theorem KX{t:aW}{k:Nat}{r:Int×Int}(hx:t.heights[k]?= some r):rI (t.heights.take (k+1))=min (rI (t.heights.take k)*fJ r) 2001:=by
 rw[bLA,hx];exact aIF _ _
theorem YR{t:aW}(h:LH t)(k:Nat):0≤rI (t.heights.take k)∧rI (t.heights.take k)≤2001:=by
 induction k with
 |zero=>simp[rI]
 |succ k ih=>
  cases hx:t.heights[k]? with
  |none=>rw[bLA,hx,Option.toList_none,n5];exact ih
  |some r=>
   rw[KX hx];have h1:=uK (h.hts r (GT hx));have h2:0≤fJ r:=by unfold fJ;omega
   have h3:=bQH ih.1 h2;omega
theorem aNG{t:aW}(h:LH t)(k:Nat){r:Int×Int}(hr:jJ r=true):0≤rI (t.heights.take k)*fJ r∧rI (t.heights.take k)*fJ r≤200100:=by
 have h0:=YR h k;have h1:=uK hr;have h2:0≤fJ r∧fJ r≤100:=by unfold fJ;omega
 have h3:=bQH h0.1 h2.1;have h4:=Int.mul_le_mul h0.2 h2.2 h2.1 Yd;omega
theorem x4{t:aW}{b:Bool}(h:((decide ((9:Int)<t.last)||decide ((6:Int)<(t.levels.length:Int)))||decide ((5:Int)<(t.marks.length:Int)))=b):aLT t=b:=h
theorem aTX{t:aW}(h:((decide ((9:Int)<t.last)||decide ((6:Int)<(t.levels.length:Int)))||decide ((5:Int)<(t.marks.length:Int)))=false):t.last≤9:=by
 simp only[bMG,bLC]at h;omega
theorem UI{t:aW}{b:Bool}(h:(((((decide (t.last<0)||decide ((t.heights.length:Int)≠t.last+1))|| !t.heights.all jJ)|| !fI t.step)|| !t.levels.all fI)|| !t.marks.all (xA t.last))=b):bDZ t= !b:=by
 subst h;unfold bDZ;have I:decide (t.last<0)= !decide (0≤t.last):=by by_cases h:t.last<0<;>simp[h]<;>omega
 have O:decide ((t.heights.length:Int)≠t.last+1)= !decide ((t.heights.length:Int)=t.last+1):=by simp
 rw[I,O];cases decide (0≤t.last)<;>cases decide ((t.heights.length:Int)=t.last+1)<;>cases t.heights.all jJ<;>cases fI t.step<;>cases t.levels.all fI<;>cases t.marks.all (xA t.last)<;>rfl
section
variable{t:aW}(h1:((decide ((9:Int)<t.last)||decide ((6:Int)<(t.levels.length:Int)))||decide ((5:Int)<(t.marks.length:Int)))=false)
theorem aLB(h1:((decide ((9:Int)<t.last)||decide ((6:Int)<(t.levels.length:Int)))||decide ((5:Int)<(t.marks.length:Int)))=true):bB t=3:=by unfold bB;rw[bLR (x4 h1)]
include h1
theorem bKQ(h2:(((((decide (t.last<0)||decide ((t.heights.length:Int)≠t.last+1))|| !t.heights.all jJ)|| !fI t.step)|| !t.levels.all fI)|| !t.marks.all (xA t.last))=false):LH t:=tOk (x4 h1) (UI h2)
theorem z1(h2:(((((decide (t.last<0)||decide ((t.heights.length:Int)≠t.last+1))|| !t.heights.all jJ)|| !fI t.step)|| !t.levels.all fI)|| !t.marks.all (xA t.last))=true):bB t=1:=by
 unfold bB;rw[bLI (by simp[x4 h1]),bLR (show bDZ t=false from UI h2)]
variable(h2:(((((decide (t.last<0)||decide ((t.heights.length:Int)≠t.last+1))|| !t.heights.all jJ)|| !fI t.step)|| !t.levels.all fI)|| !t.marks.all (xA t.last))=false)
include h2
theorem YS(h4:2000<rI t.heights):bB t=3:=by
 unfold bB;rw[bLI (by simp[x4 h1]),bLI (by simp[UI h2]),bLR h4]
theorem YY(h4:¬2000<rI t.heights)(hn:eY t=[]):bB t=9:=by
 unfold bB;rw[bLI (by simp[x4 h1]),bLI (by simp[UI h2]),bLI h4,bLR hn]
theorem zL(h4:¬2000<rI t.heights)(hn:eY t≠[]):bB t=0:=by
 unfold bB;rw[bLI (by simp[x4 h1]),bLI (by simp[UI h2]),bLI h4,bLI hn]
end
theorem EN(c:List Int)(a b:Int)(D:aC)(I:c.length=10)(h0:0≤a)(h1:a≤b)(U:b≤9):Fn prog 218 #[.agg (ints c).toArray,qI a,qI b] D (fun _ v=>v=qI (kD c a b)):=by
 obtain⟨x,xs,hx,hv⟩:=MX I h0 h1 U;refine Zx 12 func218 rfl fun h0=>aA<|Zab rfl fun Y E1 V O=>Zk rfl<|aL<|Za rfl<|Za rfl<|Zah rfl<|aGJ (l:=a.toNat) (h:=(b+1).toNat) rfl U320 aJ rfl rfl rfl Yd Yd Yd Yd Yd rfl bQK<|Zf rfl (fun Z R=>aQY _ x xs _ (hx▸(aFP (l:=a.toNat) (h:=(b+1).toNat) O I Yd Yd Yd).up RI.up (R _ Ye)))<|We ?_;exact aE rfl fun D hD=>by show Value.int _ _=_;rw[hv]
theorem FJ(tv:Γ)(t:aW)(c:List Int)(D:aC)(ht:fA D tv t)(hto:LH t)(I:c.length=10):Fn prog 180 #[tv,.agg (ints c).toArray,qN] D (fun _ v=>v=.bool (iH t c)):=by
 obtain⟨hv,lv,mv,rfl,hh,hl,hm⟩:=ht;have hll:=hm.len;have hlast:=hto.last;refine Zx 34 func180 rfl fun h0=>aA<|Zab rfl fun q1 E1 hE O=>Zab rfl fun q2 E2 hF R=>Zk rfl<|bK<|Zi rfl gD rfl<|Zd 4 rfl pK rfl O rfl<|Zai rfl U30 rfl hm rfl<|Za rfl<|aF<|Za3 ?_;refine Zn Nat (fun k=>t.marks.length-k) (fun k=>k≤t.marks.length∧(t.marks.take k).all (DG c)=true) (fun k=>[(12,qI (k:Int))]) [(11,_),(10,_),(6,_),(4,_),(2,_)] (fun k=>[E2,E1,D]) 0 ⟨Ya,bQK⟩ ?_;rintro k ⟨h1,h2⟩;refine aA<|Zan rfl<|bS<|Zag rfl (fun hc1=>?_) fun hc1=>?_
 ·have hk:k<t.marks.length:=by omega
  obtain⟨m,hx⟩:=cB t.marks k;have hmb:=WZ (hto.mark m (GT hx));refine aQ<|Za5<|Za3<|aA<|Za rfl<|Zw rfl U30 gW rfl hm rfl hx fun b1 o1 U V hB Y=>?_;obtain rfl:U=[qI _,qI _,qI _,qI _]:=V;refine Zv rfl X0 rfl Y gW<|Zad rfl nQ rfl fun q3=>Zk rfl<|Zy rfl gW ζ<|bS<|bE [] 5 16 8066<|Za rfl<|Za rfl<|Zf rfl (fun D1 hH=>L7.J4 _ [] (k:Int) _ Sl.nil)<|Wbu ?_;refine' bW 11 (s:=21) (p:=32) rfl (fun Z=>?_) (fun Z=>?_) ?_;rotate_left
  ·refine Zj rfl LF rfl<|eD rfl lL cJ rfl Mm0 rfl rfl n4 rfl ⟨_,rfl,rfl⟩<|dG rfl pG rfl R Yc Yab n4 rfl ⟨_,rfl,rfl⟩<|Zj rfl JZ rfl<|Zq rfl aH rfl Mm0 rfl<|Zj rfl KK rfl<|Zq rfl aH rfl Mm0 rfl<|Zg rfl (fun D2 hI=>EN c m.frm m.to _ I hmb.1 hmb.2.1 Yd)<|Zg rfl (fun D3 hJ=>CW (m.lo,m.hi) _ _)<|Wci ?_;exact aM 10
  ·refine Zh rfl<|Zh rfl<|Zh rfl<|Zh rfl<|Wbg ?_;exact aM 10
  refine aF<|Zaf rfl (fun hc2=>?_) fun hc2=>?_
  ·refine aA<|Wg ?_;exact aE rfl fun D hD=>by show Value.bool _=_;rw[FX hx hc2]
  ·refine Wcf ?_;exact aI 15 (k+1) ⟨Yd,WJ hx h2 hc2⟩ Yd ⟨Ya,bQK⟩ rfl rfl (List.Sublist.cons _ Mm5) (aK)
 ·refine Wj ?_;exact aE rfl fun D hD=>by show Value.bool _=_;rw[x6 h2 Yd]
theorem S7(tv:Γ)(t:aW)(D:aC)(ht:fA D tv t):Fn prog 178 #[tv] D (fun _ v=>v=qI (bB t)):=by
 have ht0:=ht;obtain⟨hv,lv,mv,rfl,hh,hl,hm⟩:=ht;have hll:=hh.len;have hl2:=hl.len;have hl3:=hm.len;refine NH 82 func178 rfl rfl rfl rfl fun h0=>aA<|Zab rfl fun q1 E1 hE1 I=>Zad rfl QN rfl fun q2=>aL<|Zv rfl iS rfl I fS<|Za0 rfl<|Zk rfl<|bS<|Za3<|aA<|Zi rfl lQ rfl ?_;refine Zd 0 rfl aH rfl I rfl<|Wav ?_
 refine' cT 5 (s:=13) (p:=18) rfl (fun hE=>?_) (fun hE=>?_) ?_;rotate_left
 ·refine Zj rfl kL rfl<|Ze 3 rfl bX rfl I rfl<|dD rfl U25 rfl hl rfl rfl ⟨_,rfl,rfl⟩<|Wae ?_;exact aM 4
 ·refine Wc ?_;exact aM 4
 refine Za rfl ?_;refine' cT 5 (s:=19) (p:=24) rfl (fun hF=>?_) (fun hF=>?_) ?_;rotate_left
 ·refine Zj rfl gD rfl<|Ze 4 rfl pK rfl I rfl<|dD rfl U30 rfl hm rfl rfl ⟨_,rfl,rfl⟩<|Wae ?_;exact aM 4
 ·refine Wc ?_;exact aM 4
 refine Zk rfl<|aF<|Zaf rfl (fun hc1=>?_) fun hc1=>?_
 ·refine aA<|Zr rfl tG ζ rfl<|aG<|Za7<|Za2 ?_;exact xB (vs:=[_]) rfl rfl rfl ⟨⟨_,_,_,rfl,bPV _,bLL ⟨tH,rfl⟩⟩,bQK⟩ fun D hD=>by show Value.int _ _=_;rw[aLB hc1]
 ·refine aA<|Zi rfl lQ rfl<|Zd 0 rfl aH rfl I rfl<|Wcm ?_;refine' cT 8 (s:=29) (p:=37) rfl (fun Z=>?_) (fun Z=>?_) ?_;rotate_left
  ·have hl0:0≤t.last:=by have:=Z;simp only[bLC]at this;omega
   have hl9:t.last≤9:=aTX hc1;refine Zj rfl fQ rfl<|Ze 1 rfl nN rfl I rfl<|dD rfl U29 rfl hh rfl rfl ⟨_,rfl,rfl⟩<|Zj rfl lQ rfl<|Ze 0 rfl aH rfl I rfl<|yJ rfl rfl rfl Yf rfl ⟨_,rfl,rfl⟩<|Wo ?_;exact aM 7
  ·refine Wy ?_;exact aM 7
  refine Za rfl ?_;refine' cT 5 (s:=38) (p:=43) rfl (fun hH=>?_) (fun hH=>?_) ?_;rotate_left
  ·refine Zj rfl fQ rfl<|Ze 1 rfl nN rfl I rfl<|Zg rfl (fun D1 hI=>PW _ _ _ jJ _ (Sl.at W5.up hI Yn Ye) (.of fun x Y=>CU x Y) rfl)<|Waf ?_;exact aM 4
  ·refine Wc ?_;exact aM 4
  refine Za rfl ?_;refine' cT 5 (s:=44) (p:=49) rfl (fun hJ=>?_) (fun hJ=>?_) ?_;rotate_left
  ·refine Zj rfl vN rfl<|Ze 2 rfl aH rfl I rfl<|Zg rfl (fun Y hD2=>P0 _ _)<|Waf ?_;exact aM 4
  ·refine Wc ?_;exact aM 4
  refine Za rfl ?_;refine' cT 5 (s:=50) (p:=55) rfl (fun hK=>?_) (fun hK=>?_) ?_;rotate_left
  ·refine Zj rfl kL rfl<|Ze 3 rfl bX rfl I rfl<|Zg rfl (fun D3 hN=>j3 _ _ _ fI _ (Sl.at RI.up hN Yn Ye) (.of fun x Y=>P0 x Y) rfl)<|Waf ?_;exact aM 4
  ·refine Wc ?_;exact aM 4
  refine Za rfl ?_;refine' cT 6 (s:=56) (p:=62) rfl (fun hO=>?_) (fun hO=>?_) ?_;rotate_left
  ·refine Zj rfl gD rfl<|Ze 4 rfl pK rfl I rfl<|Zb rfl<|Zg rfl (fun D4 hB=>aZE _ _ _ (xA t.last) _ (Sl.at HB.up hB Yn Ye) ⟨_,[_],[],rfl,fun m Y hl=>aXU _ t m Y (ht0.up ((hB _ Ye).trans hl))⟩ rfl)<|Waf ?_;exact aM 5
  ·refine Wbw ?_;exact aM 5
  refine Zk rfl<|aF<|Zaf rfl (fun hc2=>?_) fun hc2=>?_
  ·refine aA<|Zr rfl tG ζ rfl<|aG<|Za7<|Za2 ?_;exact xB (vs:=[_]) rfl rfl rfl ⟨⟨_,_,_,rfl,bPV _,bLL ⟨tH,rfl⟩⟩,bQK⟩ fun D hD=>by show Value.int _ _=_;rw[z1 hc1 hc2]
  ·have hto:LH t:=bKQ hc1 hc2;refine bJ<|Za6<|Za1<|aA<|Zk rfl<|bK<|Zi rfl fQ rfl<|Zd 1 rfl nN rfl I rfl<|Zai rfl U29 rfl hh rfl<|Za rfl<|aF<|Za3 ?_;refine dW (γ:=Nat) (fun k=>t.heights.length-k) (fun k=>k≤t.heights.length) (fun k=>[(66,qI (k:Int)),(4,qI (rI (t.heights.take k)))]) [(65,_),(64,_),(2,_),(1,_)] (fun k=>[E1,D]) 0 Yd ⟨Ya,Ya,bQK⟩ cR (aK) ?_;rintro k h1;refine aA<|Zan rfl<|bS<|Zag rfl (fun hc3=>?_) (fun hc3=>?_)
   ·have hk:k<t.heights.length:=by omega
    obtain⟨r,hx⟩:=cB t.heights k;have hrb:=hto.hts r (GT hx);have hmul:=aNG hto k hrb;refine aQ<|Za5<|Za3<|aA<|Zw rfl U29 cJ rfl hh rfl hx fun b1 o1 hP hR rB hS=>?_;obtain rfl:hP=[qI _,qI _]:=hR;refine Zv rfl lL rfl hS cJ<|Zad rfl iG rfl fun q3=>Zy rfl cJ ζ<|aF<|aP<|Za rfl<|Zae rfl lL rfl Mm0 cJ<|Zf rfl (fun D5 hD5=>aCM r hrb _)<|AO rfl rfl rfl Yf rfl bQK<|Zu rfl U25 aJ cK rfl (.cons rfl rfl (.cons rfl rfl .nil)) fun b901 D901 hX R=>?_;have U:=Sl.ofInts (l:=[_,_]) (n:=2) (cap:=2) R rfl Yd Yd;refine Zf rfl (fun D6 hY=>nH _ (rI (t.heights.take k)*fJ r) [2001] _ (U.up RI.up (hY _ Ye)))<|Was ?_;exact aI 15 (k+1) Yd Yd ⟨Ya,(by rw[KX hx];rfl),bQK⟩ rfl rfl (List.Sublist.cons _ Mm5) fun D h=>⟨D,bLP _ (h),Le.refl D⟩
   ·obtain rfl:k=t.heights.length:=by omega
    rw[bLU];refine Za8<|Za4<|Za4<|Za9<|Za1<|bM<|Za rfl<|Zas rfl<|aF<|Zag rfl (fun O=>?_) fun O=>?_
    ·refine aA<|Zr rfl tG ζ rfl<|aG<|Za2 ?_;exact xB (vs:=[_]) rfl rfl rfl ⟨⟨_,_,_,rfl,bPV _,bLL ⟨tH,rfl⟩⟩,bQK⟩ fun D hD=>by show Value.int _ _=_;rw[YS hc1 hc2 O]
    ·refine aQ<|bM<|Zv rfl iS rfl I fS<|Zaa rfl (fun D7 V=>QT _ t _ (ht0.up (V _ Ye)) hto) fun v7 D7 V rA=>aF<|Za3 ?_;obtain⟨br,rfl,hit⟩:=rA;refine wW (γ:=Unit) (xs:=(eY t).map dP) (enc:=QG) (Dr:=D7) (fun pre _=>pre=[]) (fun _ c _=>c=.ret∧eY t≠[]) (fun _=>[(q2,qC [qI 0] 44)]) () rfl rfl rfl rfl hit Ye (fun _=>rfl) rfl rfl rfl ?_ ?_ ?_
     ·rintro pre x _ ⟨us,hx⟩ hΦ l bd rec hh D7 V hst hpend;refine bJ ?_;refine fun a w hhh=>N3 (A:=[(_,_)]) (B:=[(bd,.deferred (some []))]) (r:=rec) (l:=l) Ybc hst ?_ a w hhh
      refine Za3<|aA<|Zr rfl tG ζ rfl<|aG<|Za7 ?_;exact aNU (A:=[(_,_)]) (B:=[(bd,.deferred (some []))]) .ret () ⟨rfl,fun e=>by rw[e]at hx;simp at hx⟩ rfl rfl
     ·rintro _ bd hΦ;have hn:eY t=[]:=by simpa using hΦ
      refine Za6<|Za1<|aA<|Zr rfl tG ζ rfl<|aG ?_;exact A3 (vs:=[_]) (A:=[(_,_)]) rfl rfl rfl ⟨⟨_,_,_,rfl,bPV _,bLL ⟨tH,rfl⟩⟩,bQK⟩ fun D hD=>by show Value.int _ _=_;rw[YY hc1 hc2 O hn]
     ·rintro _ _ _ bd ⟨rfl,hne⟩;refine IX<|Za7<|Za2 ?_;exact A3 (vs:=[_]) (A:=[(_,_)]) rfl rfl rfl ⟨⟨_,_,_,rfl,bPV _,bLL ⟨tH,rfl⟩⟩,bQK⟩ fun D hD=>by show Value.int _ _=_;rw[zL hc1 hc2 O hne]
def U1(t:aW)(pre:List (List Int))(g:Γ×aD×Array MapEntry×Nat×List (Int×Int)):Prop:=
 bD 320 10 g.1 (lT t pre.length).length (U6 (lT t pre.length)) g.2.1∧zQ g.2.2.1 g.2.2.2.1 g.2.2.2.2∧R4 (lT t pre.length) t.last g.2.2.2.2
def bJP(t:aW)(D:aC)(wv:Γ)(ν:aD):Prop:=∃wb mb hv lv mv tsv es cl S,wv=qP wb∧ν=[(wb,qC [qI t.last,hv,qI t.step,lv,mv,tsv,.map (some mb)] 316),(mb,.map es cl)]∧
 fA D (.agg #[qI t.last,hv,qI t.step,lv,mv]) t∧Sl D HE 10 tsv (bN t)∧zQ es cl S∧R4 (bN t) t.last S
def c7(acc:List (List Int)):List Int:=match acc.getLast? with
 |some s=>dP s
 |none=>[]
theorem JW{acc:List (List Int)}(h:∀s∈acc,s.length≤10)(hne:acc≠[]):(c7 acc).length=10:=by
 unfold c7;rw[bOO hne];exact gQ (h _ (List.getLast_mem hne))
theorem aUU{acc:List (List Int)}(h:∀s∈acc,s.length≤10)(hne:acc≠[])(junk:List Γ):((U6 acc++junk).drop (0+(((acc.length:Int)-1).toNat)*10)).take 10=ints (c7 acc):=by
 have hpos:=bOK.2 hne;unfold c7;rw[bOO hne,bOH];refine UH h ?_ junk;rw[show((acc.length:Int)-1).toNat=acc.length-1 by omega,←List.getLast?_eq_getElem?,bOO hne]
theorem aZT{s u:List Int}(h:s.length=u.length):dP s=dP u ↔ s=u:=by
 constructor
 ·intro e;have:=bLE (List.take s.length) e;unfold dP at this
  rwa [bPY,h,bPY]at this
 ·rintro rfl;rfl
def R5(S:List (Int×Int))(s:List Int)(k:Nat):List (Int×Int):=(List.range k).foldl (fun S (j:Nat)=>SS S ((j:Int),s.getD j 0)) S
theorem MA{S:List (Int×Int)}{s:List Int}{k:Nat}:R5 S s (k+1)=SS (R5 S s k) ((k:Int),s.getD k 0):=by
 unfold R5;rw[bMN,bMT];rfl
theorem aRH{S:List (Int×Int)}{s:List Int}{k:Nat}{p:Int×Int}:p∈R5 S s k ↔ p∈S∨∃j:Nat,j<k∧p=((j:Int),s.getD j 0):=by
 induction k with
 |zero=>simp[R5]
 |succ k ih=>
  rw[MA,aVB,ih];constructor
  ·rintro((h|⟨j,hj,rfl⟩)|rfl)
   ·exact bLL h
   ·exact bLG ⟨j,Yd,rfl⟩
   ·exact bLG ⟨k,Yd,rfl⟩
  ·rintro(h|⟨j,hj,rfl⟩)
   ·exact bLL (bLL h)
   ·by_cases e:j=k
    ·subst e;exact bLG rfl
    ·exact bLL (bLG ⟨j,Yd,rfl⟩)
theorem aBO{s:List Int}{k:Nat}(h:k<s.length):(dP s)[(k:Int).toNat]?= some (s.getD k 0):=by
 unfold dP;rw[bMR,bNP h,bNG,bLB h];rfl
section
variable{t:aW}{pre:List (List Int)}{s:List Int}(hrp:iH t (dP s)=iH t s)(htake:(eY t).take (pre.length+1)=(eY t).take pre.length++[s])
include hrp htake
theorem SC{b:Bool}(hc:(!iH t (dP s)||(decide (0<((lT t pre.length).length:Int))&&(c7 (lT t pre.length)==dP s)))=b):xJ t (lT t pre.length) s=if b=true then lT t pre.length else lT t pre.length++[s]:=by
 have hsm:s∈eY t:=bQF (i:=pre.length+1) (by rw[htake];simp);rw[hrp]at hc;subst hc;unfold xJ;cases hr:iH t s with
 |false=>simp
 |true=>
  simp only[Bool.not_true,Bool.false_or,Bool.true_eq_false,false_or];by_cases hne:lT t pre.length=[]
  ·rw[hne];simp
  ·have hpos:=bOK.2 hne;have h1:decide (0<((lT t pre.length).length:Int))=true:=by simpa using hpos
   rw[h1,bPE];unfold c7;rw[bOO hne];have h2:=rT (Y5 (List.getLast_mem hne));have h3:=rT hsm;have h4:=aZT (h2.trans h3.symm);by_cases e:(lT t pre.length).getLast hne=s
   ·rw[bLR (by rw[e]),bLR (by rw[e];simp)]
   ·rw[bLI (by simpa using e),bLI (by simpa using fun h=>e (h4.1 h))]
theorem aQV{v:Γ}{ν:aD}{es:Array MapEntry}{cl:Nat}{S:List (Int×Int)}(hc:(!iH t (dP s)||(decide (0<((lT t pre.length).length:Int))&&(c7 (lT t pre.length)==dP s)))=true)(ha:bD 320 10 v (lT t pre.length).length (U6 (lT t pre.length)) ν)(hS:zQ es cl S)(hsp:R4 (lT t pre.length) t.last S):U1 t (pre++[dP s]) (v,ν,es,cl,S):=by
 have h1:=SC hrp htake hc;simp only[bNM]at h1;have h2:=LD htake;rw[h1]at h2;unfold U1;rw[GE,bNW,h2];exact⟨ha,hS,hsp⟩
theorem bBI(hc:(!iH t (dP s)||(decide (0<((lT t pre.length).length:Int))&&(c7 (lT t pre.length)==dP s)))=false):lT t (pre.length+1)=lT t pre.length++[s]:=by
 have h1:=SC hrp htake hc;simp only[bMU,bNU]at h1;rw[LD htake,h1]
end
theorem bEM{t:aW}{pre:List (List Int)}{s:List Int}{v:Γ}{ν:aD}{es:Array MapEntry}{cl k:Nat}{S:List (Int×Int)}(h:lT t (pre.length+1)=lT t pre.length++[s])(hk:s.length≤k)(I:(k:Int)=t.last+1)(ha:bD 320 10 v ((lT t pre.length).length+1) (U6 (lT t pre.length++[s])) ν)(hS:zQ es cl (R5 S s k))(hsp:R4 (lT t pre.length) t.last S):U1 t (pre++[dP s]) (v,ν,es,cl,R5 S s k):=by
 unfold U1;rw[GE,bNW,h,GE,bNW];refine⟨ha,hS,fun p=>?_⟩;rw[aRH,hsp p];constructor
 ·rintro(⟨u,hu,j,hj,rfl⟩|⟨j,hj,rfl⟩)
  ·exact⟨u,bLH _ hu,j,hj,rfl⟩
  ·exact⟨s,Ye,j,Yd,rfl⟩
 ·rintro⟨u,hu,j,hj,rfl⟩;rcases bLM.1 hu with hu|hu
  ·exact bLL ⟨u,hu,j,hj,rfl⟩
  ·simp only[bLS]at hu;subst hu
   exact bLG ⟨j,Yd,rfl⟩
theorem bEO:K2 prog 323:=⟨Yg,Yg,Yg⟩
theorem xZ(tv:Γ)(t:aW)(fine:Bool)(D:aC)(ht:fA D tv t):IU prog 90 #[tv,.bool fine] D (fun D' v ν=>∃wv,v=.tuple #[wv,qI (oL t fine)]∧(oL t fine=0→LH t∧bN t≠[]∧bJP t D' wv ν)):=by
 have ht0:=ht;obtain⟨hv,lv,mv,rfl,hh,hl,hm⟩:=ht;refine aWD 85 func90 rfl rfl rfl rfl fun h0=>aA<|Zab rfl fun q1 E1 hE1 O=>Zk rfl<|Zk rfl<|bK<|Zv rfl iS rfl O fS<|Zf rfl (fun D1 hK=>S7 _ t _ (ht0.up (hK _ Ye)))<|Wbk ?_;refine aF<|Zag rfl (fun hc1=>?_) fun hc1=>?_
 ·refine Wbe ?_;exact xB (vs:=[_,_]) rfl rfl rfl cR fun D hD=>⟨_,by rw[oL,bLR hc1];rfl,fun h=>by rw[oL,bLR hc1]at h;exact absurd h hc1⟩
 ·have U:bB t=0:=by omega
  have hto:LH t:=LL U;refine aQ<|bM<|Za rfl<|Zau rfl<|aF<|Zaf rfl (fun hc2=>?_) fun hc2=>?_
  ·refine aA<|Zk rfl<|Wi ?_;exact xB (vs:=[_,_]) rfl rfl rfl cR fun D hD=>⟨_,by rw[oL,bLI hc1,bLR Yav];rfl,fun h=>by rw[oL,bLI hc1,bLR Yav]at h;omega⟩
  ·refine aQ<|aA<|Zv rfl iS rfl O fS<|yL rfl rfl bQK fun qm=>kB (cs:=[qI t.last,hv,qI t.step,lv,mv,qN,.map (some qm)]) rfl bBM aXM rfl Yg rfl bQK<|GN rfl (e:=316) rfl rfl rfl bQK fun q2=>Zad rfl bCZ rfl fun q3=>Zr rfl aVY ζ rfl<|bK<|Zv rfl iS rfl O fS<|Zaa rfl (fun D2 hE=>QT _ t _ (ht0.up (hE _ Ye)) hto) fun v2 D2 hE hN=>aF ?_;refine Za3 ?_;obtain⟨br,rfl,hit⟩:=hN;refine wW (γ:=Γ×aD×Array MapEntry×Nat×List (Int×Int)) (xs:=(eY t).map dP) (enc:=QG) (Dr:=D2) (U1 t) (fun _ _ _=>False) (fun g=>[(q3,qC [qP q2] 179),(q2,qC [qI t.last,hv,qI t.step,lv,mv,g.1,.map (some qm)] 316),(qm,.map g.2.2.1 g.2.2.2.1)]++g.2.1) (qN,[],#[],0,[]) rfl rfl rfl rfl hit Ye (fun _=>rfl) rfl ⟨by simpa [lT,U6]using bD.nil,zQ.nil,R4.nil⟩ rfl ?_ ?_ (fun _ _ _ _ h=>h.elim)
   ·rintro pre x ⟨v,ν,es,cl,S⟩ ⟨us,hx⟩ ⟨ha,hS,hsp⟩ l bd rec hh7 D7 hD7 hst hpend;simp only at ha hS hsp;obtain⟨s,hk,rfl,hsm,htake⟩:=aAM hx;have hsl:=rT hsm;have hlast:=hto.last;have hlen:=hto.len;have hs10:s.length≤10:=by omega
    have I:=gQ hs10;have hall:∀u∈lT t pre.length,u.length≤10:=fun u hu=>by have:=rT (Y5 hu);omega
    have hcap:=AT U;have hacl:=TL t pre.length;have hrp:=aII hto (s:=s) Yd;refine aP<|Zad rfl Z1 rfl fun q4=>Zy rfl kA ζ<|Zap ?_;refine fun a w hhh=>N3 (A:=[(_,_),(_,_),(_,_),(_,_)]++ν) (B:=[(bd,.deferred (some []))]) (r:=rec) (l:=l) Ybc hst ?_ a w hhh
    refine pY fun hnd=>?_;simp only[bMD,bLO,bMX,bLJ,bNO,bMH,bNA,bLM,bQE]at hnd;have hq4:=hnd.1.2.2.2.1;have hq3:=hnd.2.1.2.2.1;have hq2:=hnd.2.2.1.2.1;refine Za3<|Za5<|Za5<|uJ [] 10 28 20905986 (fun _ _ _ h=>h)<|Zv rfl iS rfl O fS<|bL rfl pG rfl Mm0 Yab n4 rfl bQK<|Zf rfl (fun D3 hO=>FJ _ t (dP s) _ (ht0.up (hO _ Ye)) hto I)<|Wbu ?_;refine' cT 23 (s:=28) (p:=51) rfl (fun hP=>?_) (fun hP=>?_) ?_;rotate_left
    ·refine Zq rfl wK rfl Mm1 rfl<|vW rfl rfl rfl ⟨_,rfl,rfl⟩<|Zj rfl mI rfl<|Zq rfl uL rfl Mm2 rfl<|cE rfl U314 rfl ha rfl rfl ⟨_,rfl,rfl⟩<|Zat rfl<|Zb rfl ?_;refine' bW 15 (s:=35) (p:=50) rfl (fun V=>?_) (fun V=>?_) ?_;rotate_left
     ·have hne:lT t pre.length≠[]:=fun e=>by rw[e]at V;simp at V
      have hpos:=bOK.2 hne;obtain⟨b5,cap5,R,rfl,hcp5,rfl,hl51,hl52⟩:=ha.some hpos;refine Zq rfl wK rfl Mm1 rfl<|vW rfl rfl rfl ⟨_,rfl,rfl⟩<|Zj rfl mI rfl<|Zq rfl uL rfl Mm2 rfl<|Zq rfl wK rfl Mm1 rfl<|vW rfl rfl rfl ⟨_,rfl,rfl⟩<|Zj rfl mI rfl<|Zq rfl uL rfl Mm2 rfl<|mM rfl U314 rfl rfl rfl ⟨_,rfl,rfl⟩<|zF rfl rfl rfl Yf rfl ⟨_,rfl,rfl⟩<|eU rfl U314 kA rfl rfl Yd Yd rfl ⟨_,rfl,rfl⟩<|eD (vs:=U6 (lT t pre.length)++R) (us:=ints (c7 (lT t pre.length))) rfl pG kA rfl (bLP _ Mm3) (aUU hall hne R) (by simpa using JW hall hne) n4 rfl ⟨_,rfl,rfl⟩ ?_;refine bL rfl pG rfl Mm0 Yab n4 rfl ⟨_,rfl,rfl⟩<|YZ rfl Yg U320 U3 Yg (JW hall hne) I rfl rfl rfl ⟨_,rfl,rfl⟩<|pH rfl rfl rfl rfl ⟨_,rfl,rfl⟩ ?_;exact aM 14
     ·refine Waq ?_;refine Wch ?_;exact aM 14
     refine Zal rfl ?_;exact aM 8
    ·refine Waq ?_;refine Zh rfl<|Zh rfl<|Zh rfl<|Wy ?_;exact aM 22
    refine aF<|Zaf rfl (fun hc3=>?_) fun hc3=>?_
    ·have hR:U1 t (pre++[dP s]) (v,ν,es,cl,S):=aQV hrp htake hc3 ha hS hsp;refine Za8<|Za4<|Za9 ?_;exact fun a w hh=>jP (A:=[(_,_),(_,_),(_,_)]++ν) (B:=[(bd,.deferred (some []))]) (v,ν,es,cl,S) hR rfl rfl a w (hh.dropBoxes 1)
    ·have hadd:=bBI hrp htake hc3;refine aQ<|Za5<|uJ (ν.map (·.1)) 2 11 254 (fun _ _ _ h=>h)<|bG rfl wK rfl Mm1 rfl Ym rfl bQK<|bG rfl wK rfl Mm1 rfl Ym rfl bQK<|Zao rfl<|Zi rfl mI rfl<|bG rfl uL rfl Mm2 rfl Ym rfl bQK<|bL rfl pG rfl Mm0 Yab Ym rfl bQK<|Zu rfl U314 kA Z1 rfl (.cons rfl (by simpa using I) .nil) (fun b901 hF hX Y=>aR (A:=[(_,_),(_,_),(_,_),(_,_)]) (B:=[(l,_),(bd,_)]) rfl U314 rfl rfl kA Z1 rfl aXQ rfl rfl rfl ha (iL.lit Y) Ye (by simp[I]) (VS hall) Xbc Yd (bLG fun p hp=>bKX.2 ⟨p,hp,rfl⟩) rfl bQK fun v1 ν1 Z=>?_);have hY:bD 320 10 v1 ((lT t pre.length).length+1) (U6 (lT t pre.length++[s])) ν1:=by unfold U6;rw[bLN,bMC];simpa [U6]using Z
     simp only[bNO,bMH];refine Zao rfl<|Zi rfl mI rfl<|bP rfl rfl rfl Z.cells1 aCN (.tail (.tail ζ)) Ye rfl Z.cell1 bQK<|aL<|Zi rfl lQ rfl<|Zd 0 rfl aH rfl O rfl<|Zah rfl<|Za rfl<|aF<|Za3<|Zc (Nat×Array MapEntry×Nat) (fun g=>s.length-g.1) (fun g=>g.1≤s.length∧zQ g.2.1 g.2.2 (R5 S s g.1)) (fun g=>[(65,qI (g.1:Int))]) [(64,_),(8,_),(7,_),(5,_),(4,_)] (fun g=>[(q4,qC (ints (dP s)) 320)]++[(q3,qC [qP q2] 179),(q2,qC [qI t.last,hv,qI t.step,lv,mv,v1,.map (some qm)] 316),(qm,.map g.2.1 g.2.2)]++(ν1++[(l,.loop {rec with state:=.busy}),(bd,.deferred (some []))])) (fun g=>[hF,D7,D2,E1,D]) (0,es,cl) ⟨Ye,hS⟩ ⟨Ya,bQK⟩ Mm5 ?_;rintro⟨k,hH,hI⟩ ⟨h1,hB⟩;simp only at h1 hB;refine aA<|Zan rfl<|bS<|Zag rfl (fun rA=>?_) fun rA=>?_
     ·have hks:k<s.length:=by omega
      have hxk:(dP s)[(k:Int).toNat]?= some (s.getD k 0):=aBO hks;refine aQ<|Za5<|Za3<|aA<|Za rfl<|Zk rfl<|aF<|uJ [] 3 10 496 (fun _ _ _ h=>h)<|Zp rfl wK rfl Mm1 rfl<|Zao rfl<|Zi rfl LO rfl<|Zp rfl aEO rfl Mm2 rfl ?_;refine Za rfl<|Za rfl<|cA rfl U320 aJ rfl rfl Yd Yd rfl bQK<|bG rfl aH rfl Mm0 (cN hxk) n4 rfl bQK<|Zt [qI (k:Int),qI (s.getD k 0)] rfl aZP aFN rfl<|bEX (A:=[(_,_),(_,_),(_,_)]) (B:=ν1++[(l,_),(bd,_)]) (a:=((k:Int),s.getD k 0)) rfl U313 bEO rfl rfl rfl hB bQK fun rB cl3 hS3=>Zap<|Za6<|Za1<|aP<|Zah rfl<|Za rfl ?_;refine Zap ?_;exact aI 15 (k+1,rB,cl3) ⟨Yl,by rw[MA];exact hS3⟩ Yl ⟨Ya,bQK⟩ rfl rfl Mm5 (aK)
     ·have hI1:U1 t (pre++[dP s]) (v1,ν1,hH,hI,R5 S s k):=bEM hadd Yd Yd hY hB hsp;refine Za8<|Za4<|Za4<|Za9<|Za6 ?_;exact fun a w hh=>jP (A:=[(_,_),(_,_),(_,_)]++ν1) (B:=[(bd,.deferred (some []))]) (v1,ν1,hH,hI,R5 S s k) hI1 rfl rfl a w (hh.dropBoxes 1)
   ·rintro⟨v,ν,es,cl,S⟩ bd ⟨ha,hS,hsp⟩;simp only[bMK]at ha hS hsp;rw[W8 t (bLQ _)]at ha hsp;have hall:∀u∈bN t,u.length≤10:=fun u hu=>by rw[←W8 t (bLQ _)]at hu;have:=rT (Y5 hu);have:=hto.len10;omega
    have hll:(bN t).length≤2000:=by rw[←W8 t (bLQ _)];have:=TL t (eY t).length;have:=AT U;omega
    refine Za6<|Za1<|bM<|Zp rfl wK rfl Mm0 rfl<|Zao rfl<|Zi rfl mI rfl<|Zp rfl uL rfl Mm1 rfl<|cE rfl U314 rfl ha rfl rfl bQK<|Zaw rfl<|aF<|Zag rfl (fun hJ=>?_) fun hJ=>?_
    ·have htn:bN t=[]:=bOL.1 Yd;have hask:oL t fine=11:=by rw[oL,bLI hc1,bLI Yav,bLR htn]
     refine aA<|Zk rfl<|Wi ?_;exact QX (vs:=[_,_]) (A:=[(_,_),(_,_),(_,_)]) (ν':=[]) (B:=ν) rfl rfl rfl cR fun D hD=>⟨_,by rw[hask];rfl,fun h=>by rw[hask]at h;omega⟩
    ·have htn:bN t≠[]:=fun e=>hJ Xak
     have hask:oL t fine=0:=by rw[oL,bLI hc1,bLI Yav,bLI htn]
     refine aQ<|aA<|Zp rfl wK rfl Mm0 rfl<|Zk rfl<|Zk rfl<|aG<|Zar [(_,_),(_,_),(_,_)] [(bd,.deferred (some []))] ha rfl fun D8 hD8 hF8=>?_;exact QX (vs:=[_,_]) (A:=[(_,_)]) (ν':=[(_,_),(_,_)]) (B:=[]) rfl rfl rfl cR fun D hD=>⟨_,by rw[hask];rfl,fun _=>⟨hto,htn,q2,qm,hv,lv,mv,v,es,cl,S,rfl,rfl,⟨hv,lv,mv,rfl,hh.up W5.up (hD _ Ye),hl.up RI.up (hD _ Ye),hm.up HB.up (hD _ Ye)⟩,(hF8.seas rfl Yd hall).up HE.up (hD _ Ye),hS,hsp⟩⟩
theorem rS{t:aW}(_ht:LH t){s:List Int}(h:s∈bN t):s.length=t.heights.length:=by
 rw[←W8 t (bLQ _)]at h;exact rT (Y5 h)
structure aMI(es:Array MapEntry)(S:List (Int×Int))(h:Nat)(x0:Int)(seen:Array Nat)(lo hi:Int):Prop where
 mid:lo≤x0∧x0≤hi
 all:∀e∈es.toList,seen.contains e.born=true→∀y,e.key=mH ((h:Int),y)→lo≤y∧y≤hi
 los:((h:Int),lo)∈S
 his:((h:Int),hi)∈S
theorem aMI.start{t:aW}{es:Array MapEntry}{S:List (Int×Int)}{h:Nat}{I:List Int}(hsp:R4 (bN t) t.last S)(hs:I∈bN t)(hh:(h:Int)≤t.last):aMI es S h (I.getD h 0) #[] (I.getD h 0) (I.getD h 0):=
 ⟨Yd,fun e _ hc=>by simp at hc,(hsp _).2 ⟨I,hs,h,hh,rfl⟩,(hsp _).2 ⟨I,hs,h,hh,rfl⟩⟩
theorem aEX{a b:Int×Int}(h:mH a=mH b):a=b:=by
 obtain⟨I,a2⟩:=a;obtain⟨O,b2⟩:=b
 simp only[mH,Value.agg.injEq]at h;simpa using h
section
variable{t:aW}{es:Array MapEntry}{cl:Nat}{S:List (Int×Int)}{h:Nat}{x0:Int}{seen:Array Nat}{lo hi:Int}
theorem JY(hS:zQ es cl S){e e':MapEntry}(h1:e∈es.toList)(h2:e'∈es.toList)(h:e'.born=e.born):e'=e:=by
 have f1:=find_born e es.toList hS.nd h1;have f2:=find_born e' es.toList hS.nd h2;rw[h]at f2;rw[f1]at f2;exact(bLY f2).symm
theorem aMI.yes(hI:aMI es S h x0 seen lo hi)(hS:zQ es cl S){e:MapEntry}(he:e∈(leftOf es seen).toList){ah ay:Int}(hek:e.key=mH (ah,ay))(haS:(ah,ay)∈S)(hc:ah=(h:Int)):aMI es S h x0 (seen.push e.born) (min lo ay) (max hi ay):=by
 subst hc;have hm:=hI.mid;refine⟨Yd,fun e' he' hc y hy=>?_,?_,?_⟩
 ·rw[contains_push,bMF]at hc;rcases hc with hc|hc
  ·have:=hI.all e' he' hc y hy;omega
  ·have:=JY hS (mem_left he).1 he' (bPX.1 hc);subst this;rw[hek]at hy;have:=aEX hy;simp only[bOU,true_and]at this;omega
 ·rcases Int.le_total lo ay with h|h
  ·rw[Int.min_eq_left h];exact hI.los
  ·rw[Int.min_eq_right h];exact haS
 ·rcases Int.le_total hi ay with h|h
  ·rw[Int.max_eq_right h];exact haS
  ·rw[Int.max_eq_left h];exact hI.his
theorem aMI.no(hI:aMI es S h x0 seen lo hi)(hS:zQ es cl S){e:MapEntry}(he:e∈(leftOf es seen).toList){ah ay:Int}(hek:e.key=mH (ah,ay))(_:(ah,ay)∈S)(hc:¬ah=(h:Int)):aMI es S h x0 (seen.push e.born) lo hi:=by
 refine⟨hI.mid,fun e' he' hc' y hy=>?_,hI.los,hI.his⟩;rw[contains_push,bMF]at hc';rcases hc' with hc'|hc'
 ·exact hI.all e' he' hc' y hy
 ·have:=JY hS (mem_left he).1 he' (bPX.1 hc');subst this;rw[hek]at hy;have:=aEX hy;simp only[bOU]at this;exact absurd this.1 hc
theorem aMF{l:List Int}{m:Int}(hm:m∈l)(h:∀x∈l,m≤x):tN l=m:=by
 cases l with
 |nil=>cases hm
 |cons a l=>
  have key:∀(l:List Int) (a:Int),(∀x∈l,l.foldl min a≤x)∧l.foldl min a≤a∧(l.foldl min a=a∨l.foldl min a∈l):=by
   intro l;induction l with
   |nil=>intro a;simp
   |cons b l ih=>
    intro a;obtain⟨h1,h2,h3⟩:=ih (min a b);rw[bME];refine⟨fun x hx=>?_,Yd,?_⟩
    ·rcases bNA.1 hx with rfl|hx
     ·omega
     ·exact h1 x hx
    ·rcases h3 with h3|h3
     ·rw[h3];rcases Int.le_total a b with h|h
      ·exact bLL (Int.min_eq_left h)
      ·exact bLG (by rw[Int.min_eq_right h];exact bKZ)
     ·exact bLG (bKY _ h3)
  obtain⟨h1,h2,h3⟩:=key l a;show l.foldl min a=m;have h4:l.foldl min a≤m:=by
   rcases bNA.1 hm with rfl|hm
   ·exact h2
   ·exact h1 m hm
  have h5:m≤l.foldl min a:=by
   rcases h3 with h3|h3
   ·rw[h3];exact h a bKZ
   ·exact h _ (bKY _ h3)
  omega
theorem aHB{l:List Int}{m:Int}(hm:m∈l)(h:∀x∈l,x≤m):rK l=m:=by
 cases l with
 |nil=>cases hm
 |cons a l=>
  have key:∀(l:List Int) (a:Int),(∀x∈l,x≤l.foldl max a)∧a≤l.foldl max a∧(l.foldl max a=a∨l.foldl max a∈l):=by
   intro l;induction l with
   |nil=>intro a;simp
   |cons b l ih=>
    intro a;obtain⟨h1,h2,h3⟩:=ih (max a b);rw[bME];refine⟨fun x hx=>?_,Yd,?_⟩
    ·rcases bNA.1 hx with rfl|hx
     ·omega
     ·exact h1 x hx
    ·rcases h3 with h3|h3
     ·rw[h3];rcases Int.le_total a b with h|h
      ·exact bLG (by rw[Int.max_eq_right h];exact bKZ)
      ·exact bLL (Int.max_eq_left h)
     ·exact bLG (bKY _ h3)
  obtain⟨h1,h2,h3⟩:=key l a;show l.foldl max a=m;have h4:m≤l.foldl max a:=by
   rcases bNA.1 hm with rfl|hm
   ·exact h2
   ·exact h1 m hm
  have h5:l.foldl max a≤m:=by
   rcases h3 with h3|h3
   ·rw[h3];exact h a bKZ
   ·exact h _ (bKY _ h3)
  omega
theorem aMI.fin(hI:aMI es S h x0 seen lo hi)(hS:zQ es cl S)(hsp:R4 (bN t) t.last S)(_:bN t≠[])(hh:(h:Int)≤t.last)(hz:(leftOf es seen).size=0):mH (lo,hi)=mH (zZ t h):=by
 have hall:∀y,((h:Int),y)∈S→lo≤y∧y≤hi:=fun y hy=>by
  obtain⟨e,he,hk⟩:=hS.ent hy;refine hI.all e he ?_ y hk;cases hc:seen.contains e.born with
  |true=>rfl
  |false=>
   have hm:e∈leftOf es seen:=by
    unfold leftOf;rw[Array.mem_filter];exact⟨Array.mem_toList_iff.1 he,by rw[hc];rfl⟩
   have:=Array.size_pos_of_mem hm;omega
 have hmem:∀y,y∈(bN t).map (bJX · h)→((h:Int),y)∈S:=fun y hy=>by
  obtain⟨s,hs,rfl⟩:=bKX.1 hy;exact(hsp _).2 ⟨s,hs,h,hh,rfl⟩
 have I:∀y,((h:Int),y)∈S→y∈(bN t).map (bJX · h):=fun y hy=>by
  obtain⟨s,hs,j,hj,he⟩:=(hsp _).1 hy;simp only[bOU]at he;have:j=h:=by omega
  subst this;exact bKX.2 ⟨s,hs,he.2.symm⟩
 unfold zZ;rw[aMF (I _ hI.los) fun x hx=>(hall x (hmem x hx)).1,aHB (I _ hI.his) fun x hx=>(hall x (hmem x hx)).2]
end
theorem QR(t:aW)(wb mb:Nat)(hv lv mv tsv:Γ)(es:Array MapEntry)(cl:Nat)(S:List (Int×Int))(h:Nat)(D:aC)(hts:Sl D HE 10 tsv (bN t))(htn:bN t≠[])(hto:LH t)(hS:zQ es cl S)(hsp:R4 (bN t) t.last S)(hh:(h:Int)≤t.last):
  HA prog 355 [qP wb,qI (h:Int)] D [(wb,qC [qI t.last,hv,qI t.step,lv,mv,tsv,.map (some mb)] 316),(mb,.map es cl)] (fun _ v ν'=>v=mH (zZ t h)∧ν'=[(wb,qC [qI t.last,hv,qI t.step,lv,mv,tsv,.map (some mb)] 316),(mb,.map es cl)]):=by
 have hll:=hts.len;have hlast:=hto.last;obtain⟨O,I⟩:∃s,(bN t)[0]?= some s:=⟨(bN t)[0]'(bOK.2 htn),bLB _⟩
 have hE:=rS hto (GT I);have hF:=hto.len;have hg0:(dP O)[(h:Int).toNat]?= some (O.getD h 0):=aBO Yd;have hH:=gQ (l:=O) Yd;refine jR 42 func355 rfl rfl rfl rfl fun h0 hwl hwn=>aA<|Zad rfl iG rfl fun q1=>bS<|bE [] 7 19 196400<|Za rfl<|Zao rfl<|Zi rfl mI rfl<|Zp rfl uL rfl Mm1 rfl<|Za rfl<|Zw rfl U314 kA rfl hts rfl I fun b1 o1 R U hJ V=>?_;obtain rfl:R=ints (dP _):=U;refine eV rfl U320 aJ rfl rfl Yd Yd rfl bQK<|dZ (o:=o1) (k:=(h:Int).toNat*1) rfl aH rfl V Ym (by rw[bNL];exact cN hg0) n4 rfl bQK<|Za rfl<|Zao rfl<|Zi rfl mI rfl<|Zp rfl uL rfl Mm1 rfl<|Za rfl<|Zw rfl U314 kA rfl hts rfl I fun b2 o2 Y Z hK hB=>?_
 obtain rfl:Y=ints (dP _):=Z;refine eV rfl U320 aJ rfl rfl Yd Yd rfl bQK<|dZ (o:=o2) (k:=(h:Int).toNat*1) rfl aH rfl hB Ym (by rw[bNL];exact cN hg0) n4 rfl bQK<|Zt [qI (O.getD h 0),qI (O.getD h 0)] rfl K9 iG rfl<|Zad rfl iG rfl fun q2=>Zy rfl cJ ζ<|bK<|Za rfl<|Zao rfl<|Zi rfl LO rfl<|Zp rfl aEO rfl Mm2 rfl<|aQB (b:=mb) (es:=es) (clock:=cl) rfl U313 rfl Ye rfl bQK fun qr=>aF ?_;refine Za3<|Zc (Array Nat×Int×Int) (fun g=>(leftOf es g.1).size) (fun g=>aMI es S h (O.getD h 0) g.1 g.2.1 g.2.2) (fun g=>[(28,qP qr)]) [(5,_),(4,_),(1,_)] (fun g=>[(qr,.mapIter (some mb) cl g.1 cl),(q2,qC [qI g.2.1,qI g.2.2] 93),(q1,qC [qI 0,qI 0] 93)]++[(wb,qC [qI t.last,hv,qI t.step,lv,mv,tsv,.map (some mb)] 316),(mb,.map es cl)]) (fun g=>[D]) (#[],O.getD h 0,O.getD h 0) (aMI.start hsp (GT I) hh) ⟨Ya,bQK⟩ Mm5 ?_;rintro⟨seen,lo,hi⟩ hI;simp only at hI;refine aA<|bBL (b:=mb) (r:=qr) (es:=es) (clock:=cl) (A:=[]) (B:=[(_,_),(_,_),(_,_),(_,_)]) rfl rfl Ye hS.lt (bLQ _) rfl bQK fun ok vs o' hv0 hno hyes=>JO rfl rfl hv0 rfl bQK<|bS<|Zaf rfl (fun hc1=>?_) fun hc1=>?_
 ·obtain⟨e,he,rfl⟩:=hyes hc1;obtain⟨⟨ah,ay⟩,haS,hek,hev⟩:=hS.key (mem_left he).1;refine aQ<|Za3<|aA<|aND (b:=mb) (r:=qr) (es:=es) (clock:=cl) (e:=e) (since:=cl) (seen:=seen) rfl rfl Ye Ye (mem_left he).1 hS.nd rfl bQK ?_;rw[hek];refine Zaq rfl<|Zad rfl aFN rfl (fun q3=>Zy rfl aVW ζ<|aL<|Zi rfl aLX rfl<|Zp rfl aH rfl Mm0 rfl<|Za rfl<|Zaw rfl<|aF<|Zag rfl (fun hc2=>?_) fun hc2=>?_)
  ·refine aP<|Zae rfl lL rfl Mm2 cJ<|Zi rfl aJT rfl<|Zp rfl aH rfl Mm0 rfl<|Zf rfl (fun D1 hN=>vZ (lo,hi) ay _)<|Zy rfl cJ (.tail (.tail ζ))<|Zap<|Za6 ?_;exact aI 14 (seen.push e.born,min lo ay,max hi ay) (hI.yes hS he hek haS hc2) (left_shrinks _ _ _ he) ⟨rfl,bQK⟩ rfl rfl (List.Sublist.cons _ Mm5) (aK)
  ·refine bJ<|Za6 ?_;exact aI 10 (seen.push e.born,lo,hi) (hI.no hS he hek haS hc2) (left_shrinks _ _ _ he) ⟨rfl,bQK⟩ rfl rfl (List.Sublist.cons _ Mm5) (aK)
 ·obtain⟨hz,rfl⟩:=hno hc1;have hfin:=hI.fin hS hsp htn hh hz;refine Za8<|Za4<|Za4<|Za9<|Za1<|aA<|Zae rfl lL rfl Mm1 cJ<|Zy rfl cJ (.tail (.tail ζ))<|aG ?_;exact Zaj [(_,_),(_,_),(_,_)] [] [_,_] [_] rfl ⟨⟨_,_,_,rfl,List.Mem.tail _ Mm1,Or.inr ⟨lL,cJ,rfl⟩⟩,bQK⟩ rfl fun D hD=>⟨hfin,rfl⟩
theorem UJ{wb mb t cl:Nat}{cs:List Γ}{es:Array MapEntry}:∀p∈[(wb,Obj.cells cs.toArray t (0,0)),(mb,.map es cl)],dC p.2:=by
 intro p hp;simp only[bNA,n4,bND]at hp;rcases hp with rfl|rfl
 ·rfl
 ·trivial
def ZZ(l:List (Int×Int)):List Γ:=l.flatMap fun p=>[qI p.1,qI p.2]
theorem EA(l:List (Int×Int)):(ZZ l).length=l.length*2:=by
 induction l with
 |nil=>rfl
 |cons p l ih=>unfold ZZ at ih ⊢;rw[bMA,GE,ih,bLF];simp;omega
theorem FL(l m:List (Int×Int)):ZZ (l++m)=ZZ l++ZZ m:=bLN
theorem aYK{l:List (Int×Int)}{i:Nat}{p:Int×Int}(hi:l[i]?= some p):((ZZ l).drop (i*2)).take 2=[qI p.1,qI p.2]:=by
  induction l generalizing i with
  |nil=>simp at hi
  |cons d l ih=>
    have hc:ZZ (d::l)=[qI d.1,qI d.2]++ZZ l:=rfl;rw[hc];cases i with
    | zero => obtain rfl : d = p := by simpa using hi
              rfl
    |succ i=>
      rw[show(i+1)*2=([qI d.1,qI d.2]:List Γ).length+i*2 by simp;omega,bPO];exact ih Yau
theorem _root_.Go.Fs.kN.rgs{D:aC}{v:Γ}{n:Nat}{l:List (Int×Int)}(hF:kN D v n (ZZ l))(hn:l.length=n)(hb:n≤9223372036854775807):Sl D W5 2 v l:=
 hF.sl hn hb fun _i _t hi=>⟨_,rfl,rfl,aYK hi⟩
def ME(t:aW):List (Int×Int):=(List.range (t.last+1).toNat).map (zZ t)
theorem aBB{t:aW}{k:Nat}(h:(k:Int)=t.last+1):(List.range k).map (zZ t)=ME t:=by unfold ME;rw[show(t.last+1).toNat=k by omega]
theorem aPV(s:List Int):(dP s).take s.length=s:=by unfold dP;rw[bPY]
def zO(s:List Int)(level:Int)(k:Nat):List Int:=((List.range k).filter fun j=>decide (level<s.getD j 0)).map fun j:Nat=>(j:Int)
theorem aDK(s:List Int)(level:Int)(k:Nat):(zO s level k).length≤k:=by
 unfold zO;rw[bMK];have:=bMO (fun j=>decide (level<s.getD j 0)) (List.range k);rwa [bPD]at this
theorem aWP{s:List Int}{level x:Int}{k:Nat}(hx:s[k]?= some x)(h:level<x):zO s level (k+1)=zO s level k++[(k:Int)]:=by
 unfold zO;rw[bMN,bMJ,bLO,bNN,bLR (by rw[bNG,hx];simpa using h)];rfl
theorem bHR{s:List Int}{level x:Int}{k:Nat}(hx:s[k]?= some x)(h:¬level<x):zO s level (k+1)=zO s level k:=by
 unfold zO;rw[bMN,bMJ,bLO,bNN,bLI (by rw[bNG,hx];simpa using h)];simp
theorem FD(s:List Int)(level:Int):∃m:Nat,zS s level=(m:Int)∧m≤s.length∧(∀j,j<m→s.getD j 0≤level)∧(m<s.length→level<s.getD m 0):=by
 refine⟨(s.takeWhile fun n=>decide (n≤level)).length,rfl,?_⟩;induction s with
 |nil=>exact⟨Ye,fun j h=>Xad,fun h=>Xad⟩
 |cons a s ih=>
  obtain⟨h1,h2,h3⟩:=ih;by_cases h:a≤level
  ·rw[List.takeWhile_cons,bLR Yax,bLF,bLF];refine⟨Yd,fun j hj=>?_,fun hj=>?_⟩
   ·cases j with
    |zero=>simpa using h
    |succ j=>simpa using h2 j Yd
   ·simpa using h3 Yd
  ·rw[List.takeWhile_cons,bLI Yax];exact⟨Ye,fun j hj=>by simp at hj,fun _=>Yaq⟩
theorem SX{s:List Int}{level:Int}{m:Nat}(h1:m<s.length)(h2:∀j,j<m→s.getD j 0≤level)(h3:level<s.getD m 0):(zO s level s.length)[0]?= some (m:Int):=by
 unfold zO;obtain⟨n,hn⟩:∃n,s.length=m+(n+1):=⟨s.length-m-1,Yd⟩
 rw[hn,List.range_add,bMJ,List.filter_eq_nil_iff.2 fun j hj=>by have:=h2 j (by simpa using hj);simpa using this,bMH,List.range_succ_eq_map,bMD,bNN,bLR (by simpa using h3)];simp
theorem aNE{s:List Int}{level:Int}(h:0<(zO s level s.length).length):(zO s level s.length)[(0:Int).toNat]?= some (zS s level):=by
 obtain⟨m,hm,h1,h2,h3⟩:=FD s level;rw[hm];by_cases hlt:m<s.length
 ·exact SX hlt h2 (h3 hlt)
 ·exfalso
  obtain rfl:m=s.length:=by omega
  unfold zO at h;rw[List.filter_eq_nil_iff.2 (fun j hj=>by have:=h2 j (by simpa using hj);simpa using this)]at h
  simp at h
theorem aYI{s:List Int}{level:Int}(h:¬0<(zO s level s.length).length):zS s level=(s.length:Int):=by
 obtain⟨m,hm,h1,h2,h3⟩:=FD s level;by_cases hlt:m<s.length
 ·exfalso
  have:=SX hlt h2 (h3 hlt);have:=(bLD.1 this).1;omega
 ·rw[hm,show m=s.length by omega]
theorem zG(tv:Γ)(t:aW)(D:aC)(ht:fA D tv t):Fn prog 297 #[tv] D (fun D' v=>∃lv,v=.tuple #[lv,qI (oL t true)]∧Sl D' W5 2 lv (if oL t true=0 then ME t else [])):=by
 have ht0:=ht;obtain⟨hv,lv,mv,rfl,hh,hl,hm⟩:=ht;refine Zx 30 func297 rfl fun h0=>aA<|Zab rfl fun q1 E1 hN O=>Zk rfl<|Zk rfl<|aL<|Zv rfl iS rfl O fS<|gG rfl rfl rfl (fun D2 Y=>xZ _ t true _ (ht0.up (Y _ Ye))) rfl bQK fun v2 D3 ν2 hO Z=>?_;obtain⟨wv,rfl,hwk⟩:=Z;refine Za rfl<|Zaq rfl<|Zaq rfl<|Zk rfl<|Zk rfl<|bK<|Za rfl<|Zax rfl<|aF<|Zag rfl (fun hc1=>?_) fun hc1=>?_
 ·refine Wbe ?_;exact lU (vs:=[_,_]) rfl rfl rfl cR fun D hD=>⟨_,rfl,by rw[bLI hc1];exact Sl.nil⟩
 ·have he0:oL t true=0:=by omega
  obtain⟨hto,htn,wb,mb,R,U,V,tsv,es,cl,S,rfl,rfl,htw,hts,hS,hsp⟩:=hwk he0;have hlast:=hto.last;refine aQ<|aA<|Zk rfl<|bK<|Zi rfl lQ rfl<|Zd 0 rfl aH rfl O rfl<|Zah rfl<|Za rfl<|aF<|Za3<|Zc (Nat×Γ×aD) (fun g=>(t.last+1).toNat-g.1) (fun g=>(g.1:Int)≤t.last+1∧bD 93 2 g.2.1 g.1 (ZZ ((List.range g.1).map (zZ t))) g.2.2) (fun g=>[(19,qI (g.1:Int)),(6,g.2.1)]) [(18,_),(4,_),(3,_),(2,_)] (fun g=>g.2.2++[(wb,qC [qI t.last,R,qI t.step,U,V,tsv,.map (some mb)] 316),(mb,.map es cl)]) (fun g=>[D3,E1,D]) (0,qN,[]) ⟨Yaq,by simpa [ZZ]using bD.nil⟩ ⟨Ya,Ya,bQK⟩ Mm5 ?_
  rintro⟨k,v,ν⟩ ⟨h1,ha⟩;simp only at h1 ha;refine aA<|Zan rfl<|bS<|Zag rfl (fun hc2=>?_) fun hc2=>?_
  ·have hk:(k:Int)≤t.last:=by simp only at hc2;omega
   refine aQ<|Za5<|Za3<|aA<|Za rfl<|Zk rfl<|aF<|aP<|Za rfl<|Za rfl<|Za rfl<|GA (A:=ν) (ν:=[(_,_),(_,_)]) rfl rfl rfl rfl (bLL rfl) (UJ (cs:=[_,_,_,_,_,_,_])) (fun D5 hB=>QR t wb mb R U V tsv es cl S k _ (hts.up HE.up (hB _ Ye)) htn hto hS hsp Yd) rfl bQK fun v5 D6 _ hP hp5=>?_;obtain⟨rfl,rfl⟩:=hp5;refine Zu rfl U29 cJ iG rfl (.cons rfl rfl .nil) fun hJ hK hE I=>aR (A:=[]) (B:=[(_,_),(_,_)]) rfl U29 rfl rfl cJ iG rfl ET rfl rfl rfl ha (iL.lit I) Ye rfl (by rw[EA];simp) Yk Yd (bLL rfl) rfl bQK fun v1 ν1 hF=>?_
   have hH:bD 93 2 v1 (k+1) (ZZ ((List.range (k+1)).map (zZ t))) ν1:=by rw[bMN,bLO,FL];exact hF
   refine Was ?_;exact aI 14 (k+1,v1,ν1) ⟨Yl,hH⟩ Yl ⟨Ya,rfl,bQK⟩ rfl rfl Mm5 fun D h=>⟨D,bLP _ (bLP _ (h)),Le.refl D⟩
  ·have hk:(k:Int)=t.last+1:=by simp only at hc2 h1;omega
   refine Za8<|Za4<|Za4<|Za9<|Za1<|aA<|Za rfl<|Zk rfl<|Zk rfl<|aG<|Zar [] [(_,_),(_,_)] ha rfl fun D8 hR hI=>?_;exact lU (vs:=[_,_]) rfl rfl rfl cR fun D hD=>⟨_,by rw[he0];rfl,by rw[bLR he0];exact(aBB Yd▸hI.rgs Ye Yd).up W5.up (hD _ Ye)⟩
theorem bFZ(last step:Int)(hv lv mv:Γ)(s:List Int)(level:Int)(D:aC)(hs:(s.length:Int)=last+1)(R:s.length≤10):
  Fn prog 182 #[.agg #[qI last,hv,qI step,lv,mv],.agg (ints (dP s)).toArray,qI level] D (fun D' v=>Sl D' RI 1 v (zO s level s.length)):=by
 have O:=gQ R;refine Zx 28 func182 rfl fun h0=>aA<|Zab rfl fun q1 E1 hJ U=>Zab rfl fun q2 E2 hK V=>Zk rfl<|bS<|Za5 ?_;have hsl:Sl E2 RI 1 (qS q2 s.length 10) s:=by have h:=aFP (l:=0) (h:=s.length) V O Yd Yd Yd;rw[bOY,bPB,bPB]at h;rw[aPV]at h;exact h
 refine aP<|Zi rfl lQ rfl<|Zd 0 rfl aH rfl U rfl<|Zah rfl<|aQT (h:=s.length) rfl U320 aJ rfl rfl Yd Yd rfl bQK<|mM rfl U25 rfl rfl rfl bQK<|Za rfl<|aF<|Za3<|Zc (Nat×Γ×aD) (fun g=>s.length-g.1) (fun g=>g.1≤s.length∧bD 3 1 g.2.1 (zO s level g.1).length (ints (zO s level g.1)) g.2.2) (fun g=>[(14,qI (g.1:Int)),(6,g.2.1)]) [(13,_),(12,_),(2,_)] (fun g=>g.2.2++[]) (fun g=>[E2,E1,D]) (0,qN,[]) ⟨Ye,by simpa [ints,zO]using bD.nil⟩ ⟨Ya,Ya,bQK⟩ Mm5 ?_;rintro⟨k,v,ν⟩ ⟨h1,ha⟩;simp only at h1 ha;refine aA<|Zan rfl<|bS<|Zag rfl (fun hc1=>?_) fun hc1=>?_
 ·have hk:k<s.length:=by simp only at hc1;omega
  obtain⟨x,hx⟩:=cB s k;have hwl:=aDK s level k;refine aQ<|Za5<|Za3<|aA<|Za rfl<|iN rfl hsl rfl hx fun b1 o1=>Zk rfl<|Zk rfl<|aL<|Za rfl<|Za rfl<|Zas rfl ?_;refine aF<|Zag rfl (fun hc2=>?_) fun hc2=>?_
  ·refine aP<|Za rfl<|Za rfl<|Zu rfl U25 aJ cK rfl (.cons rfl rfl .nil) fun hH hI Y I=>?_;have Z:=Sl.ofInts (l:=[_]) (n:=1) (cap:=1) I rfl Yd Yd;refine aR (A:=[]) (B:=_) rfl U25 rfl rfl aJ cK rfl kE rfl rfl rfl ha (iL.lit I) Ye rfl (by simp[ints]) Yk Yd (bLL rfl) rfl bQK fun v1 ν1 hB=>?_;have hE:bD 3 1 v1 (zO s level (k+1)).length (ints (zO s level (k+1))) ν1:=by rw[aWP hx hc2,GE,←eW];exact hB
   refine Was ?_;exact aI 18 (k+1,v1,ν1) ⟨Yl,hE⟩ Yl ⟨Ya,rfl,bQK⟩ rfl rfl Mm5 fun D h=>⟨D,bLP _ (h),Le.refl D⟩
  ·refine Wcf ?_;exact aI 13 (k+1,v,ν) ⟨Yl,by rw[bHR hx hc2];exact ha⟩ Yl ⟨Ya,rfl,bQK⟩ rfl rfl Mm5 (aK)
 ·obtain rfl:k=s.length:=by simp only at hc1;omega
  have hwl:=aDK s level s.length;refine Za8<|Za4<|Za4<|Za9<|Za1<|aA<|Za rfl<|Zk rfl<|aG<|Zar [] [] ha rfl fun D8 hN hF=>?_;exact aE rfl fun D hD=>(hF.ints Ye Yd).up RI.up (hD _ Ye)
theorem YM(t:aW)(wb mb:Nat)(hv lv mv tsv:Γ)(es:Array MapEntry)(cl:Nat)(s:List Int)(level y:Int)(D:aC)(hs:(s.length:Int)=t.last+1)(I:s.length≤10):
  HA prog 92 [qP wb,.agg (ints (dP s)).toArray,qI level,qI y] D [(wb,qC [qI t.last,hv,qI t.step,lv,mv,tsv,.map (some mb)] 316),(mb,.map es cl)] (fun _ v ν'=>v=qI (zS s level)∧ν'=[(wb,qC [qI t.last,hv,qI t.step,lv,mv,tsv,.map (some mb)] 316),(mb,.map es cl)]):=by
 have Z:=gQ I;refine jR 29 func92 rfl rfl rfl rfl fun h0 hwl hwn=>aA<|Zab rfl fun q1 E1 hB R=>Zk rfl<|bS<|Za5<|bE [] 4 8 48<|Za rfl<|Zao rfl<|Zi rfl IL rfl<|eD (us:=[qI t.last,hv,qI t.step,lv,mv]) rfl iS fS rfl Mm0 Ybc rfl n4 rfl bQK<|dG rfl pG rfl R Yc Yab n4 rfl bQK ?_;refine Za rfl<|Zaa rfl (fun D1 U=>bFZ t.last t.step hv lv mv s level _ hs I) fun v1 D1 U O=>Zk rfl<|aL<|Za rfl<|Zai rfl U25 rfl O rfl<|Zas rfl<|aF<|Zag rfl (fun hc1=>?_) fun hc1=>?_
 ·have V:=aNE (s:=s) (level:=level) Yd;refine aA<|Za rfl<|iN rfl O rfl V fun b1 o1=>Wi ?_;exact Zaj [] [] [_,_] [_] rfl ⟨rfl,bQK⟩ rfl fun D hD=>⟨rfl,rfl⟩
 ·have Y:=aYI (s:=s) (level:=level) Yd;refine aQ<|aA<|Za rfl<|Zao rfl<|Zi rfl IL rfl<|Zi rfl lQ rfl<|Zp rfl aH rfl Mm0 rfl<|Zah rfl<|We ?_;exact Zaj [] [] [_,_] [_] rfl ⟨rfl,bQK⟩ rfl fun D hD=>⟨by show Value.int _ _=_;rw[Y,hs],rfl⟩
theorem bGF(t:aW)(wb mb:Nat)(hv lv mv tsv:Γ)(es:Array MapEntry)(cl:Nat)(s:List Int)(a b:Int)(D:aC)(hs:(s.length:Int)=t.last+1)(R:s.length≤10)(I:0≤a)(hab:a≤b)(hbl:b≤t.last):
  HA prog 137 [qP wb,.agg (ints (dP s)).toArray,qI a,qI b] D [(wb,qC [qI t.last,hv,qI t.step,lv,mv,tsv,.map (some mb)] 316),(mb,.map es cl)] (fun _ v ν'=>v=qI (kD s a b)∧ν'=[(wb,qC [qI t.last,hv,qI t.step,lv,mv,tsv,.map (some mb)] 316),(mb,.map es cl)]):=by
 have O:=gQ R;refine jR 13 func137 rfl rfl rfl rfl fun h0 hwl hwn=>aA<|Zab rfl fun Z E1 V U=>Zk rfl<|aL<|dG rfl pG rfl U Yc Yab n4 rfl bQK<|Za rfl<|Za rfl<|Zf rfl (fun D1 Y=>EN (dP s) a b _ O I hab Yd)<|We ?_;exact Zaj [] [] [_,_] [_] rfl ⟨rfl,bQK⟩ rfl fun D hD=>⟨by show Value.int _ _=_;rw[K3 I hab Yd],rfl⟩
def ZK(F:List Int→Int)(n:Int)(l:List (List Int)):Int×Int:=l.foldl (fun p s=>(min p.1 (F s),max p.2 (F s))) (n,n)
theorem aUV{t:aW}{F:List Int→Int}{n:Int}{k:Nat}{u:List Int}(hx:(bN t)[k]?= some u):ZK F n ((bN t).take (k+1))=(min (ZK F n ((bN t).take k)).1 (F u),max (ZK F n ((bN t).take k)).2 (F u)):=by
 unfold ZK;rw[bLA,hx,bMT];rfl
theorem UR(F:List Int→Int):∀(l:List (List Int)) (p:Int×Int),l.foldl (fun p s=>(min p.1 (F s),max p.2 (F s))) p=((l.map F).foldl min p.1,(l.map F).foldl max p.2)
 | [],_=>rfl
 |s::l,p=>by rw[bME,UR F l];rfl
theorem bCF{t:aW}{F:List Int→Int}{O:List Int}{lo hi:Int}(I:(bN t)[0]?= some O)(h:(lo,hi)=ZK F (F O) (bN t)):mH (lo,hi)=mH (tN ((bN t).map F),rK ((bN t).map F)):=by
 rw[h];cases ht:bN t with
 |nil=>rw[ht]at I;simp at I
 |cons a l=>
  rw[ht]at I;obtain rfl:a=O:=by simpa using I
  unfold ZK;rw[UR,bMD,bME,bME,Int.min_self,Int.max_self];rfl
theorem l7{t:aW}{fine:Bool}(h:oL t fine=0):fine=true:=by
 unfold oL at h;split at h
 ·rename_i hf;exact absurd h hf
 ·split at h
  ·omega
  ·rename_i hf;simpa using hf
theorem WU{last a b:Int}(h:tE last a b=true):0≤a∧a≤b∧b≤last:=by
 unfold tE GQ at h;simp only[bKW,LT,bT]at h;omega
theorem EI(t:aW)(wb mb:Nat)(hv lv mv tsv:Γ)(es:Array MapEntry)(cl:Nat)(F:List Int→Int)(fid:Nat)(x y:Int)(D:aC)(hts:Sl D HE 10 tsv (bN t))(htn:bN t≠[])(hto:LH t)
  (hf:∀s∈bN t,∀D',Le D D'→HA prog fid [qP wb,.agg (ints (dP s)).toArray,qI x,qI y] D' [(wb,qC [qI t.last,hv,qI t.step,lv,mv,tsv,.map (some mb)] 316),(mb,.map es cl)] fun _ v ν'=>v=qI (F s)∧ν'=[(wb,qC [qI t.last,hv,qI t.step,lv,mv,tsv,.map (some mb)] 316),(mb,.map es cl)]):
  HA prog 93 [.agg #[.func (.func fid) #[] #[]],qP wb,qI x,qI y] D [(wb,qC [qI t.last,hv,qI t.step,lv,mv,tsv,.map (some mb)] 316),(mb,.map es cl)] (fun _ v ν'=>v=mH (tN ((bN t).map F),rK ((bN t).map F))∧ν'=[(wb,qC [qI t.last,hv,qI t.step,lv,mv,tsv,.map (some mb)] 316),(mb,.map es cl)]):=by
 have hll:=hts.len;have hlast:=hto.last;have hN:=hto.len;obtain⟨I,O⟩:∃s,(bN t)[0]?= some s:=⟨(bN t)[0]'(bOK.2 htn),bLB _⟩
 have hs0m:=GT O;have hO:=rS hto hs0m;have U:=gQ (l:=I) Yd;refine jR 48 func93 rfl rfl rfl rfl fun h0 hwl hwn=>aA<|Zab rfl fun q1 E1 hX R=>Zad rfl iG rfl fun q2=>bS<|bE [] 6 13 2044<|Zi rfl JD rfl<|Zd 0 rfl aEW rfl R rfl<|Za rfl<|Za rfl<|Zao rfl<|Zi rfl mI rfl ?_;refine Zp rfl uL rfl Mm1 rfl<|Zw rfl U314 kA rfl hts rfl O fun b1 o1 V Y hP Z=>?_;obtain rfl:V=ints (dP _):=Y;refine dG rfl pG rfl Z Yc Xci n4 rfl bQK<|Za rfl<|Za rfl<|GA (A:=[(_,_)]) (ν:=[(_,_),(_,_)]) rfl rfl rfl rfl Ybe (UJ (cs:=[_,_,_,_,_,_,_])) (fun D5 hB=>hf I hs0m _ (hB _ Ye)) rfl bQK fun v5 D6 _ hY hp5=>?_
 obtain⟨rfl,rfl⟩:=hp5;refine Zk rfl<|aL<|Za rfl<|Za rfl<|Zt [qI (F I),qI (F I)] rfl K9 iG rfl<|Zad rfl iG rfl fun q3=>Zy rfl cJ ζ<|bK<|Za rfl<|Zao rfl<|Zi rfl mI rfl<|Zp rfl uL rfl Mm2 rfl ?_;refine Zai rfl U314 rfl hts rfl<|Za rfl<|aF<|Za3<|Zc (Nat×Int×Int) (fun g=>(bN t).length-g.1) (fun g=>g.1≤(bN t).length∧g.2=ZK F (F I) ((bN t).take g.1)) (fun g=>[(33,qI (g.1:Int))]) [(32,_),(31,_),(10,_),(8,_),(4,_),(1,_),(2,_),(3,_)] (fun g=>[(q3,qC [qI g.2.1,qI g.2.2] 93),(q2,qC [qI 0,qI 0] 93)]++[(wb,qC [qI t.last,hv,qI t.step,lv,mv,tsv,.map (some mb)] 316),(mb,.map es cl)]) (fun g=>[D6,E1,D]) (0,F I,F I) ⟨Ye,rfl⟩ ⟨Ya,bQK⟩ Mm5 ?_;rintro⟨k,lo,hi⟩ ⟨h1,hI⟩;simp only at h1 hI;refine aA<|Zan rfl<|bS<|Zag rfl (fun hc1=>?_) fun hc1=>?_
 ·have hk:k<(bN t).length:=by simp only at hc1;omega
  obtain⟨u,hx⟩:=cB (bN t) k;have hum:=GT hx;have hul:=rS hto hum;have hR:=gQ (l:=u) Yd;refine aQ<|Za5<|Za3<|aA<|Zw rfl U314 kA rfl hts rfl hx fun b2 o2 hE hF hS hH=>?_;obtain rfl:hE=ints (dP _):=hF;refine dG rfl pG rfl hH Yc Xci n4 rfl bQK<|Zad rfl Z1 rfl fun q4=>cQ rfl rfl rfl rfl kA Yap Yb ζ Yh bQK<|aF<|fL R Ye fun hq1k=>?_
  have rA:q1∉[wb,mb]:=fun h=>hq1k (bKY _ (bKY _ (bKY _ h)))
  refine pY fun hnd=>?_;simp only[bMD,bPK,bMX,bNA,n4,bND,bQE,bNO,bMH]at hnd;have rB:q3∉[wb,mb]:=by simp only[bNA,n4,bND,bQE];exact⟨hnd.2.1.2.1,hnd.2.1.2.2⟩
  have hq4:q4∉[wb,mb]:=by simp only[bNA,n4,bND,bQE];exact⟨hnd.1.2.2.1,hnd.1.2.2.2⟩
  refine iZ [wb,mb] 3 [0,1,2,3,4,5,6,7,8,9] [false,true,true,true,true,true,true,true,false,false] [(false,0),(true,1),(true,2),(true,3),(true,4),(true,5),(true,6),(true,7),(false,8),(false,9)] bC (fun _ _ _ h=>kK (P:=prog) (fn:=f93) _ _ _ h) Yg rfl<|bL rfl lL rfl Mm1 cJ Ym rfl bQK<|Zi rfl JD rfl<|dZ rfl (k:=0) aEW rfl R Yc rfl Ym rfl bQK<|Za rfl<|bL rfl pG rfl Mm0 Xci Ym rfl bQK<|Za rfl<|Za rfl<|GA (A:=[(_,_),(_,_),(_,_)]) (ν:=[(_,_),(_,_)]) rfl rfl rfl rfl Ybe (UJ (cs:=[_,_,_,_,_,_,_])) (fun D7 hJ=>hf u hum _ (hJ _ Ye)) rfl bQK fun v7 D8 _ hD8 hK=>?_;obtain⟨rfl,rfl⟩:=hK;refine Zf rfl (fun D1 hD1=>vZ (lo,hi) (F u) _)<|Zy rfl cJ (.tail ζ)<|Zap<|Wd ?_;exact aI 16 (k+1,min lo (F u),max hi (F u)) ⟨Yl,by rw[aUV hx,←hI]⟩ Yl ⟨Ya,bQK⟩ rfl rfl (List.Sublist.cons _ Mm5) fun D h=>⟨D,bLP _ (h),Le.refl D⟩
 ·obtain rfl:k=(bN t).length:=by simp only at hc1;omega
  rw[bLU]at hI;have hfin:=bCF O hI;refine Za8<|Za4<|Za4<|Za9<|Za1<|aA<|Zae rfl lL rfl Mm0 cJ<|Zy rfl cJ (.tail ζ)<|aG ?_;exact Zaj [(_,_),(_,_)] [] [_,_] [_] rfl ⟨⟨_,_,_,rfl,List.Mem.tail _ Mm0,Or.inr ⟨lL,cJ,rfl⟩⟩,bQK⟩ rfl fun D hD=>⟨hfin,rfl⟩
theorem aUG(tv:Γ)(t:aW)(row:Int)(D:aC)(ht:fA D tv t):Fn prog 29 #[tv,qI row] D (fun _ v=>v=.tuple #[mH (if oL t (gZ row 0 ((t.levels.length:Int)-1))=0 then aTC t (t.levels.getD row.toNat 0)else(0,0)),qI (oL t (gZ row 0 ((t.levels.length:Int)-1)))]):=by
 have ht0:=ht;obtain⟨hv,lv,mv,rfl,hh,hl,hm⟩:=ht;refine Zx 28 func29 rfl fun h0=>aA<|Zab rfl fun q1 E1 hF I=>Zad rfl iG rfl fun q2=>Zk rfl<|bS<|bE [] 4 10 398<|Zv rfl iS rfl I fS<|Zv rfl iS rfl I fS<|Za rfl<|Zf rfl (fun D1 V=>bFK _ t row _ (ht0.up (V _ Ye)))<|gG rfl rfl rfl (fun D3 Y=>xZ _ t (gZ row 0 ((t.levels.length:Int)-1)) _ (ht0.up (Y _ Ye))) rfl bQK fun v3 D4 ν3 hH Z=>?_;obtain⟨wv,rfl,hwk⟩:=Z;refine Za rfl<|Zaq rfl<|Zaq rfl<|Zk rfl<|Zk rfl<|bK<|Za rfl<|Zax rfl<|aF<|Zag rfl (fun hc1=>?_) fun hc1=>?_
 ·refine aA<|Zt [qI 0,qI 0] rfl K9 iG rfl<|Za rfl<|Zy rfl cJ (.app ζ)<|Wi ?_;exact Zo [_,_] rfl ⟨⟨_,_,_,rfl,(LE _ Mm0),Or.inr ⟨lL,Xbp,rfl⟩⟩,rfl,bQK⟩ fun D hD=>Xcj
 ·have he0:oL t (gZ row 0 ((t.levels.length:Int)-1))=0:=by omega
  obtain⟨hto,htn,wb,mb,O,R,U,tsv,es,cl,S,rfl,rfl,htw,hts,hS,hsp⟩:=hwk he0;have hrow:=l7 he0;rw[bT]at hrow;have hlev:t.levels[row.toNat]?= some (t.levels.getD row.toNat 0):=by rw[bNG,bLB Yd];rfl
  refine aQ<|aA<|Zt [.func (.func 92) #[] #[]] rfl aFU aBN rfl<|Za rfl<|Zi rfl kL rfl<|Zd 3 rfl bX rfl I rfl<|Za rfl<|iN rfl hl rfl hlev (fun b1 o1=>gH (A:=[]) (ν:=[(_,_),(_,_)]) (B:=[(_,_)]) rfl rfl rfl rfl Ybe (UJ (cs:=[_,_,_,_,_,_,_])) (fun D7 hB=>EI t wb mb O R U tsv es cl (zS · (t.levels.getD row.toNat 0)) _ _ _ _ (hts.up HE.up (hB _ Ye)) htn hto fun s hsm D' hD'=>YM t wb mb O R U tsv es cl s _ _ D' (by have:=rS hto hsm;have:=hto.len;omega) (by have:=rS hto hsm;have:=hto.len10;omega)) rfl bQK fun v7 D8 _ hI hE=>?_);obtain⟨rfl,rfl⟩:=hE;refine Zy rfl cJ (.tail (.tail ζ))<|We ?_;exact Zo [_,_] rfl ⟨⟨_,_,_,rfl,Mm2,Or.inr ⟨lL,Xbp,rfl⟩⟩,rfl,bQK⟩ fun D hD=>Xbr
theorem bFE(tv:Γ)(t:aW)(a b:Int)(D:aC)(ht:fA D tv t):Fn prog 68 #[tv,qI a,qI b] D (fun _ v=>v=.tuple #[qI (if oL t (tE t.last a b)=0 then bJR t a b else 0),qI (oL t (tE t.last a b))]):=by
 have ht0:=ht;obtain⟨hv,lv,mv,rfl,hh,hl,hm⟩:=ht;refine Zx 28 func68 rfl fun h0=>aA<|Zab rfl fun q1 E1 hF I=>Zk rfl<|Zk rfl<|bS<|bE [] 4 11 798<|Zv rfl iS rfl I fS<|Zv rfl iS rfl I fS<|Za rfl<|Za rfl<|Zf rfl (fun D1 V=>QW _ t a b _ (ht0.up (V _ Ye))) ?_;refine gG rfl rfl rfl (fun D3 Y=>xZ _ t (tE t.last a b) _ (ht0.up (Y _ Ye))) rfl bQK fun v3 D4 ν3 hH Z=>?_;obtain⟨wv,rfl,hwk⟩:=Z;refine Za rfl<|Zaq rfl<|Zaq rfl<|Zk rfl<|Zk rfl<|bK<|Za rfl<|Zax rfl<|aF<|Zag rfl (fun hc1=>?_) fun hc1=>?_
 ·refine Wbe ?_;exact lU (vs:=[_,_]) rfl rfl rfl cR fun D hD=>by show Value.tuple _=_;rw[bLI hc1]
 ·have he0:oL t (tE t.last a b)=0:=by omega
  obtain⟨hto,htn,wb,mb,O,R,U,tsv,es,cl,S,rfl,rfl,htw,hts,hS,hsp⟩:=hwk he0;have hrow:=WU (l7 he0);refine aQ<|aA<|Zt [.func (.func 137) #[] #[]] rfl aFU aBN rfl<|Za rfl<|Za rfl<|Za rfl<|gH (A:=[]) (ν:=[(_,_),(_,_)]) (B:=[]) rfl rfl rfl rfl Ybe (UJ (cs:=[_,_,_,_,_,_,_])) (fun D7 hB=>EI t wb mb O R U tsv es cl (kD · a b) _ _ _ _ (hts.up HE.up (hB _ Ye)) htn hto fun s hsm D' hD'=>bGF t wb mb O R U tsv es cl s _ _ D' (by have:=rS hto hsm;have:=hto.len;omega) (by have:=rS hto hsm;have:=hto.len10;omega) hrow.1 hrow.2.1 hrow.2.2) rfl bQK fun v7 D8 _ hI hE=>?_
  obtain⟨rfl,rfl⟩:=hE;refine bDI rfl U93 rfl aH rfl rfl rfl bQK<|Zk rfl<|We ?_;exact lU (vs:=[_,_]) rfl rfl rfl cR fun D hD=>Xbr
end L2
open Go.Proofs
namespace L3
open L1
open C1
end L3
namespace L3
open L1
open C3
def aBA(lo:Int)(k:Nat):List Int:=(List.range k).map fun i:Nat=>lo+(i:Int)
theorem aNK{s n lo hi:Int}(h:s≠n):fZ s n lo hi=[s]:=by unfold fZ;rw[bLR h]
theorem aQS{s n lo hi:Int}(h:¬s≠n):fZ s n lo hi=aBA lo (hi+1-lo).toNat:=by unfold fZ;rw[bLI h];rfl
theorem lW(n lo hi:Int)(D:aC):Fn prog 117 #[qI n,qI lo,qI hi] D (fun _ v=>v=.bool (C1.gZ n lo hi)):=by
 refine Zx 15 func117 rfl fun h0=>Wai ?_;refine' bW 4 (s:=10) (p:=14) rfl (fun I=>?_) (fun I=>?_) ?_;rotate_left
 ·refine Wbj ?_;exact aM 3
 ·refine Wb ?_;exact aM 3
 refine We ?_;exact aE rfl fun D hD=>rfl
theorem J8(sv:Γ)(x:Int)(xs:List Int)(D:aC)(hS:Sl D RI 1 sv (x::xs)):
  Fn prog 223 #[sv] D (fun _ v=>v=qI (xs.foldl min x)):=by
 refine Zx 5 func223 rfl fun h0=>Waw ?_;exact aE rfl fun D hD=>rfl
theorem aWN(r:Int×Int)(n:Int)(D:aC):Fn prog 358 #[mH r,qI n] D (fun _ v=>v=.bool (C1.gZ n r.1 r.2)):=by
 refine Zx 11 func358 rfl fun h0=>aA<|Zab rfl fun U E1 O I=>Zk rfl<|aL<|Za rfl<|Zi rfl yU rfl<|Zd 0 rfl aH rfl I rfl<|Zi rfl yP rfl<|Zd 1 rfl aH rfl I rfl<|Zf rfl (fun V R=>lW _ _ _ _)<|Zk rfl ?_;refine aG ?_;exact aE rfl fun D hD=>rfl
theorem KZ(r:Int×Int)(n:Int)(D:aC):Fn prog 201 #[mH r,qI n] D (fun _ v=>v=mH (min r.1 n,max r.2 n)):=by
 refine Zx 15 func201 rfl fun h0=>aA<|Zab rfl fun q1 E1 hB R=>Zad rfl nA rfl fun q2=>bS<|iZ [] 4 [0,1,2,5,6,7,8,3,4,9,10] [false,false,true,true,true,true,true,true,true,false,false] [(false,0),(false,1),(true,2),(true,5),(true,6),(true,7),(true,8),(true,3),(true,4),(false,9),(false,10)] bC (fun _ _ _ h=>eZ (P:=prog) (fn:=f201) _ _ _ h) Yg rfl<|Zi rfl yU rfl<|Zd 0 rfl aH rfl R rfl<|Za rfl<|Zi rfl yP rfl<|Zd 1 rfl aH rfl R rfl<|Za rfl ?_;refine qF rfl rfl rfl rfl bQK<|Zu rfl U25 aJ cK rfl (.cons rfl rfl (.cons rfl rfl .nil)) fun Y Z U I=>?_;have O:=Sl.ofInts (l:=[_,_]) (n:=2) (cap:=2) I rfl Yd Yd;refine Zf rfl (fun D1 V=>J8 _ r.1 [n] _ (O.up RI.up (V _ Ye)))<|Zt [qI (min r.1 n),qI (max r.2 n)] rfl U8 nA rfl<|Zy rfl eC ζ<|aG ?_;exact Zo [_] rfl ⟨⟨_,_,_,rfl,Mm0,Or.inr ⟨mZ,Xaq,rfl⟩⟩,bQK⟩ fun D hD=>rfl
theorem HK(sv fv:Γ)(xs:List eL)(p:eL→Bool)(D:aC)(hS:Sl D oE 3 sv xs)(hp:dE prog D EH fv p):
  Fn prog 366 #[sv,fv] D (fun _ v=>v=qI (idxOf p xs)):=by
 have hl:=hS.len;obtain⟨f,c1,c2,rfl,hf⟩:=hp;refine Zx 19 func366 rfl fun h0=>aA<|Zk rfl<|bK<|Za rfl<|dD rfl U33 rfl Yn rfl rfl bQK<|Wf ?_;rintro k ⟨h1,h2⟩;refine aA<|Zan rfl<|bS<|Zag rfl (fun hc1=>?_) fun hc1=>?_
 ·have hk:k<xs.length:=by omega
  obtain⟨x,hx⟩:=cB xs k;refine aQ<|Za5<|Za3<|aA<|Za rfl<|Zk rfl<|aL<|Za rfl<|Za rfl<|Za rfl<|dX rfl U33 cF rfl Yn rfl Yd Yn rfl bQK fun Y o1 I O V R=>?_;obtain rfl:I=[qI _,qI _,qI _]:=O;refine Zv rfl lY rfl R cF<|Zf rfl (fun Z U=>hf x _ (U _ Ye))<|aF<|Zaf rfl (fun hc2=>?_) fun hc2=>?_
  ·refine Wbi ?_;exact aE rfl fun D hD=>Xam
  ·refine Wcf ?_;have hpx:p x=false:=hc2;have h3:(xs.take (k+1)).any p=false:=by rw[bLA,hx,bOP,h2];simp[hpx]
   exact aI 12 (k+1) ⟨Yd,h3⟩ Yd ⟨Ya,bQK⟩ rfl rfl Mm5 (aK)
 ·refine Wj ?_;exact aE rfl fun D hD=>Xah
theorem n7(sv fv:Γ)(xs:List eL)(p:eL→Bool)(D:aC)(hS:Sl D oE 3 sv xs)(hp:dE prog D EH fv p):
  Fn prog 315 #[sv,fv] D (fun _ v=>v=.bool (xs.any p)):=by
 refine Zx 9 func315 rfl fun h0=>aA<|Zk rfl<|aL<|Za rfl<|Za rfl<|Zf rfl (fun O I=>HK _ _ xs p _ (Sl.at oE.up I Yn Ye) (hp.up (I _ Ye)))<|Wac ?_;exact aE rfl fun D hD=>Xai
theorem aPI(b:Nat)(fv:Γ)(p:eL→Bool)(x:eL)(D:aC)(hp:dE prog D EH fv p)(hB:At D b 0 [fv]):
  Fn prog 316 #[EH x,qP b] D (fun _ v=>v=.bool (!p x)):=by
 obtain⟨f,c1,c2,rfl,hf⟩:=hp;refine Zx 8 func316 rfl fun h0=>aA<|Zab rfl fun U E1 R I=>Zk rfl<|aL<|Zd 0 rfl bAX rfl hB rfl<|Zv rfl lY rfl I cF<|Wab ?_;exact aE rfl fun D hD=>rfl
theorem aYY(sv fv:Γ)(xs:List eL)(p:eL→Bool)(D:aC)(hS:Sl D oE 3 sv xs)(hp:dE prog D EH fv p)(h1:fv.cells=#[fv]):
  Fn prog 221 #[sv,fv] D (fun _ v=>v=.bool (xs.all p)):=by
 refine Zx 9 func221 rfl fun h0=>aA<|tO (vs:=[fv]) rfl rfl h1 rfl bQK fun b O I hB=>Zk rfl<|aL<|Za rfl<|Za0 rfl<|Zf rfl (fun O I=>n7 _ _ xs (fun x=> !p x) _ (Sl.at oE.up I Yn Ye) ⟨_,[],[qP b],rfl,fun x R hl=>aPI b fv p x R (hp.up ((I _ Ye).trans hl)) (hB.up ((I _ Ye).trans hl))⟩)<|Zau rfl<|We ?_;exact aE rfl fun D hD=>Xan
theorem HN(sv fv:Γ)(xs:List Cn)(p:Cn→Bool)(D:aC)(hS:Sl D tC 3 sv xs)(hp:dE prog D bEI fv p):
  Fn prog 367 #[sv,fv] D (fun _ v=>v=qI (idxOf p xs)):=by
 have hl:=hS.len;obtain⟨f,c1,c2,rfl,hf⟩:=hp;refine Zx 19 func367 rfl fun h0=>aA<|Zk rfl<|bK<|Za rfl<|dD rfl U34 rfl Yn rfl rfl bQK<|Wf ?_;rintro k ⟨h1,h2⟩;refine aA<|Zan rfl<|bS<|Zag rfl (fun hc1=>?_) fun hc1=>?_
 ·have hk:k<xs.length:=by omega
  obtain⟨x,hx⟩:=cB xs k;refine aQ<|Za5<|Za3<|aA<|Za rfl<|Zk rfl<|aL<|Za rfl<|Za rfl<|Za rfl<|dX rfl U34 lE rfl Yn rfl Yd Yn rfl bQK fun Y o1 I O V R=>?_;obtain rfl:I=[qI _,qI _,qI _]:=O;refine Zv rfl i7 rfl R lE<|Zf rfl (fun Z U=>hf x _ (U _ Ye))<|aF<|Zaf rfl (fun hc2=>?_) fun hc2=>?_
  ·refine Wbi ?_;exact aE rfl fun D hD=>Xam
  ·refine Wcf ?_;have hpx:p x=false:=hc2;have h3:(xs.take (k+1)).any p=false:=by rw[bLA,hx,bOP,h2];simp[hpx]
   exact aI 12 (k+1) ⟨Yd,h3⟩ Yd ⟨Ya,bQK⟩ rfl rfl Mm5 (aK)
 ·refine Wj ?_;exact aE rfl fun D hD=>Xah
theorem y2(sv fv:Γ)(xs:List Cn)(p:Cn→Bool)(D:aC)(hS:Sl D tC 3 sv xs)(hp:dE prog D bEI fv p):
  Fn prog 317 #[sv,fv] D (fun _ v=>v=.bool (xs.any p)):=by
 refine Zx 9 func317 rfl fun h0=>aA<|Zk rfl<|aL<|Za rfl<|Za rfl<|Zf rfl (fun O I=>HN _ _ xs p _ (Sl.at tC.up I Yn Ye) (hp.up (I _ Ye)))<|Wac ?_;exact aE rfl fun D hD=>Xai
theorem aRD(b:Nat)(fv:Γ)(p:Cn→Bool)(x:Cn)(D:aC)(hp:dE prog D bEI fv p)(hB:At D b 0 [fv]):
  Fn prog 318 #[bEI x,qP b] D (fun _ v=>v=.bool (!p x)):=by
 obtain⟨f,c1,c2,rfl,hf⟩:=hp;refine Zx 8 func318 rfl fun h0=>aA<|Zab rfl fun U E1 R I=>Zk rfl<|aL<|Zd 0 rfl aZN rfl hB rfl<|Zv rfl i7 rfl I lE<|Wab ?_;exact aE rfl fun D hD=>rfl
theorem aDV(sv fv:Γ)(xs:List Cn)(p:Cn→Bool)(D:aC)(hS:Sl D tC 3 sv xs)(hp:dE prog D bEI fv p)(h1:fv.cells=#[fv]):
  Fn prog 222 #[sv,fv] D (fun _ v=>v=.bool (xs.all p)):=by
 refine Zx 9 func222 rfl fun h0=>aA<|tO (vs:=[fv]) rfl rfl h1 rfl bQK fun b O I hB=>Zk rfl<|aL<|Za rfl<|Za0 rfl<|Zf rfl (fun O I=>y2 _ _ xs (fun x=> !p x) _ (Sl.at tC.up I Yn Ye) ⟨_,[],[qP b],rfl,fun x R hl=>aRD b fv p x R (hp.up ((I _ Ye).trans hl)) (hB.up ((I _ Ye).trans hl))⟩)<|Zau rfl<|We ?_;exact aE rfl fun D hD=>Xan
theorem aTS(bv:Γ)(b:bH)(l:eL)(D:aC)(hb:gK D bv b)(hn:0≤b.chairs∧b.chairs≤100):Fn prog 219 #[bv,EH l] D (fun _ v=>v=.bool (xE b.chairs l)):=by
 obtain⟨lv,cv,rfl,hl,hc⟩:=hb;refine Zx 24 func219 rfl fun h0=>aA<|Zab rfl fun q1 E1 V O=>Zab rfl fun q2 E2 Y I=>Zk rfl<|aL<|Zi rfl y7 rfl<|Zd 0 rfl aH rfl I rfl<|Zf rfl (fun D1 Z=>lW _ _ _ _)<|Za rfl ?_;refine' bW 7 (s:=8) (p:=15) rfl (fun R=>?_) (fun R=>?_) ?_;rotate_left
 ·refine Zj rfl rX rfl<|Ze 1 rfl aH rfl I rfl<|Zj rfl qD rfl<|Ze 0 rfl aH rfl O rfl<|zF rfl rfl rfl Yf rfl ⟨_,rfl,rfl⟩<|Zg rfl (fun D2 hB=>lW _ _ _ _)<|Zak rfl ?_;exact aM 6
 ·refine Wbg ?_;exact aM 6
 refine Za rfl ?_;refine' bW 7 (s:=16) (p:=23) rfl (fun U=>?_) (fun U=>?_) ?_;rotate_left
 ·refine Zj rfl nU rfl<|Ze 2 rfl aH rfl I rfl<|Zj rfl qD rfl<|Ze 0 rfl aH rfl O rfl<|zF rfl rfl rfl Yf rfl ⟨_,rfl,rfl⟩<|Zg rfl (fun D3 hE=>lW _ _ _ _)<|Zak rfl ?_;exact aM 6
 ·refine Wbg ?_;exact aM 6
 refine We ?_;exact aE rfl fun D hD=>rfl
theorem aGH(bv:Γ)(b:bH)(c:Cn)(D:aC)(hb:gK D bv b):Fn prog 220 #[bv,bEI c] D (fun _ v=>v=.bool (sX b.lines.length c)):=by
 obtain⟨lv,cv,rfl,hl,hc⟩:=hb;refine Zx 31 func220 rfl fun h0=>aA<|Zab rfl fun q1 E1 Y O=>Zab rfl fun q2 E2 Z I=>Zk rfl<|aL<|Zi rfl p4 rfl<|Zam 1 rfl mZ eC rfl I rfl<|Zad rfl nA rfl fun q3=>Zy rfl eC ζ<|aL<|Zi rfl P4 rfl ?_;refine Zd 0 rfl aH rfl I rfl<|Zi rfl cS rfl<|Zd 3 rfl fU rfl O rfl<|Zai rfl U33 rfl hl rfl<|Zf rfl (fun D1 hB=>lW _ _ _ _)<|Za rfl ?_;refine' bW 4 (s:=14) (p:=18) rfl (fun R=>?_) (fun R=>?_) ?_;rotate_left
 ·refine Zj rfl yU rfl<|Zq rfl aH rfl Mm0 rfl<|Wk ?_;exact aM 3
 ·refine Wb ?_;exact aM 3
 refine Za rfl ?_;refine' bW 6 (s:=19) (p:=25) rfl (fun U=>?_) (fun U=>?_) ?_;rotate_left
 ·refine Zj rfl yU rfl<|Zq rfl aH rfl Mm0 rfl<|Zj rfl yP rfl<|Zq rfl aH rfl Mm0 rfl<|Wk ?_;exact aM 5
 ·refine Wp ?_;exact aM 5
 refine Za rfl ?_;refine' bW 4 (s:=26) (p:=30) rfl (fun V=>?_) (fun V=>?_) ?_;rotate_left
 ·refine Zj rfl yP rfl<|Zq rfl aH rfl Mm0 rfl<|Wk ?_;exact aM 3
 ·refine Wb ?_;exact aM 3
 refine We ?_;exact aE rfl fun D hD=>rfl
theorem NI(s n lo hi:Int)(D:aC)(h1: -10≤lo∧lo≤10)(h2: -10≤hi∧hi≤100):Fn prog 319 #[qI s,qI n,qI lo,qI hi] D (fun D' v=>Sl D' RI 1 v (fZ s n lo hi)):=by
 refine Zx 26 func319 rfl fun h0=>aA<|Zk rfl<|bK<|Za rfl<|Za rfl<|Zax rfl<|aF<|Zag rfl (fun hc1=>?_) fun hc1=>?_
 ·refine aA<|Za rfl<|Zu rfl U25 aJ cK rfl (.cons rfl rfl .nil) fun hH hI U O=>?_;have R:=Sl.ofInts (l:=[_]) (n:=1) (cap:=1) O rfl Yd Yd;refine Wi ?_;exact aE rfl fun D hD=>by rw[aNK hc1];exact R.up RI.up (hD _ Ye)
 ·refine aQ<|bM<|Za rfl<|Zk rfl<|aF<|Za3<|hU (γ:=Nat×Γ×aD) (fun g=>(hi+1-lo).toNat-g.1) (fun g=>g.1≤(hi+1-lo).toNat∧bD 3 1 g.2.1 g.1 (ints (aBA lo g.1)) g.2.2) (fun g=>[(8,g.2.1),(9,qI (lo+(g.1:Int)))]) [(3,_)] (fun g=>g.2.2++[]) (fun g=>[D]) (0,qN,[]) ⟨Ye,by simpa [ints,aBA]using bD.nil⟩ ⟨Ya,Ya,bQK⟩ ⟨rfl,bQK⟩ Mm5 (aK) ?_;rintro⟨k,v,ν⟩ ⟨V,ha⟩;simp only at V ha;refine bM<|Za rfl<|Za rfl<|iD rfl rfl rfl rfl bQK<|aF<|Zag rfl (fun hc2=>?_) (fun hc2=>?_)
  ·simp only at hc2;refine aQ<|Za5<|Za3<|aP<|Za rfl<|Za rfl<|Zu rfl U25 aJ cK rfl (.cons rfl rfl .nil) fun hJ hK Y I=>?_;have Z:=Sl.ofInts (l:=[_]) (n:=1) (cap:=1) I rfl Yd Yd;refine aR (A:=[]) (B:=_) rfl U25 rfl rfl aJ cK rfl kE rfl rfl rfl ha (iL.lit I) Ye rfl (by simp[aBA]) Yk Yd (bLL rfl) rfl bQK fun v1 ν1 hB=>?_;have hE:bD 3 1 v1 (k+1) (ints (aBA lo (k+1))) ν1:=by unfold aBA;rw[bMN,bLO,bOT,←eW];exact hB
   refine Wz ?_;exact aI 13 (k+1,v1,ν1) ⟨Yl,hE⟩ Yl ⟨rfl,(by show some (Value.int _ _)=some (Value.int _ _);congr 2;push_cast;omega),bQK⟩ rfl rfl Mm5 fun D h=>⟨D,bLP _ (h),Le.refl D⟩
  ·have hk:k=(hi+1-lo).toNat:=by simp only at hc2;omega
   rw[hk]at ha;refine Za8<|Za4<|Za4<|Za9<|Za1<|aA<|Za rfl<|Zk rfl<|aG<|Zar [] [] ha rfl fun D2 hN hF=>?_;exact aE rfl fun D hD=>by rw[aQS hc1];exact(hF.ints (by simp[aBA]) Yd).up RI.up (hD _ Ye)
def bIF(n:Int)(l:eL)(x c:Int):List eL:=(fZ l.token (-1) 0 (n-1)).map fun t=>⟨x,c,t⟩
def bKB(n:Int)(l:eL)(x:Int):List eL:=(fZ l.chair (-1) 0 (n-1)).flatMap (bIF n l x)
def aVP(n:Int)(l:eL)(k:Nat):List eL:=((fZ l.kind 0 1 2).take k).flatMap (bKB n l)
def aTO(n:Int)(l:eL)(k:Nat)(x:Int)(j:Nat):List eL:=aVP n l k++((fZ l.chair (-1) 0 (n-1)).take j).flatMap (bIF n l x)
def aJR(n:Int)(l:eL)(k:Nat)(x:Int)(j:Nat)(c:Int)(i:Nat):List eL:=aTO n l k x j++((fZ l.token (-1) 0 (n-1)).take i).map fun t=>⟨x,c,t⟩
theorem aDB{n:Int}{l:eL}:aVP n l (fZ l.kind 0 1 2).length=cX n l:=by unfold aVP;rw[bLU];rfl
theorem aVJ{n:Int}{l:eL}{k:Nat}{x:Int}:aTO n l k x 0=aVP n l k:=by unfold aTO;simp
theorem aOP{n:Int}{l:eL}{k:Nat}{x:Int}{j:Nat}{c:Int}:aJR n l k x j c 0=aTO n l k x j:=by unfold aJR;simp
theorem bAA{n:Int}{l:eL}{k:Nat}{x:Int}(h:(fZ l.kind 0 1 2)[k]?= some x):aTO n l k x (fZ l.chair (-1) 0 (n-1)).length=aVP n l (k+1):=by
 unfold aTO aVP;rw[bLU,bLA,h,bLT,bLN,bMC];rfl
theorem aYF{n:Int}{l:eL}{k:Nat}{x:Int}{j:Nat}{c:Int}(h:(fZ l.chair (-1) 0 (n-1))[j]?= some c):aJR n l k x j c (fZ l.token (-1) 0 (n-1)).length=aTO n l k x (j+1):=by
 unfold aJR aTO;rw[bLU,bLA,h,bLT,bLN,bMC,bLK];rfl
theorem aPU{n:Int}{l:eL}{k:Nat}{x:Int}{j:Nat}{c:Int}{i:Nat}{t:Int}(h:(fZ l.token (-1) 0 (n-1))[i]?= some t):aJR n l k x j c (i+1)=aJR n l k x j c i++[⟨x,c,t⟩]:=by
 unfold aJR;rw[bLA,h,bLT,bLO,←bLK];rfl
theorem yS{s none lo hi:Int}{m:Nat}(h:hi+1-lo≤m)(h1:1≤m):(fZ s none lo hi).length≤m:=by
 unfold fZ;split
 ·simpa using h1
 ·simp;omega
theorem kI{α β:Type}{f:α→List β}{m:Nat}:∀(l:List α),(∀x∈l,(f x).length≤m)→(l.flatMap f).length≤l.length*m
 | [],_=>by simp
 |x::l,h=>by
  rw[bMA,GE,bLF,bNV];have:=kI l fun y hy=>h y (bKY _ hy)
  have:=h x bKZ;omega
theorem aCI{n:Int}{l:eL}(hn:n≤4)(x c:Int):(bIF n l x c).length≤4:=by unfold bIF;rw[bMK];exact yS Yd Yd
theorem aXY{n:Int}{l:eL}(hn:n≤4)(x:Int):(bKB n l x).length≤16:=by
 unfold bKB;have h1:=kI (m:=4) (f:=bIF n l x) (fZ l.chair (-1) 0 (n-1)) fun c _=>aCI hn x c
 have h2:=yS (s:=l.chair) (none:= -1) (lo:=0) (hi:=n-1) (m:=4) Yd Yd;omega
theorem aET{n:Int}{l:eL}(hn:n≤4)(k:Nat):(aVP n l k).length≤32:=by
 unfold aVP;have h1:=kI (m:=16) (f:=bKB n l) ((fZ l.kind 0 1 2).take k) fun x _=>aXY hn x
 have h2:=yS (s:=l.kind) (none:=0) (lo:=1) (hi:=2) (m:=2) Yd Yd;have h3:((fZ l.kind 0 1 2).take k).length≤(fZ l.kind 0 1 2).length:=by rw[bMV];omega
 omega
theorem YP{n:Int}{l:eL}(hn:n≤4):(cX n l).length≤32:=by rw[←aDB];exact aET hn _
theorem bCS{n:Int}{l:eL}{k:Nat}{x:Int}{j:Nat}{c:Int}{i:Nat}(hn:n≤4):(aJR n l k x j c i).length≤60:=by
 unfold aJR aTO;rw[GE,GE,bMK];have h0:=aET (l:=l) hn k;have h1:=kI (m:=4) (f:=bIF n l x) ((fZ l.chair (-1) 0 (n-1)).take j) fun c _=>aCI hn x c
 have h2:=yS (s:=l.chair) (none:= -1) (lo:=0) (hi:=n-1) (m:=4) Yd Yd;have h3:=yS (s:=l.token) (none:= -1) (lo:=0) (hi:=n-1) (m:=4) Yd Yd;have h4:((fZ l.chair (-1) 0 (n-1)).take j).length≤4:=by rw[bMV];omega
 have h5:((fZ l.token (-1) 0 (n-1)).take i).length≤4:=by rw[bMV];omega
 omega
def A0(l:List eL):List Γ:=l.flatMap fun x=>[qI x.kind,qI x.chair,qI x.token]
theorem DL(l:List eL):(A0 l).length=l.length*3:=by
 induction l with
 |nil=>rfl
 |cons c l ih=>unfold A0 at ih ⊢;rw[bMA,GE,ih];simp only[bLF,bNE];omega
theorem aSI{l:List eL}{i:Nat}{c:eL}(hi:l[i]?= some c):((A0 l).drop (i*3)).take 3=[qI c.kind,qI c.chair,qI c.token]:=by
  induction l generalizing i with
  |nil=>simp at hi
  |cons d l ih=>
    unfold A0 at ih ⊢
    rw[bMA];cases i with
    | zero => obtain rfl : d = c := by simpa using hi
              rfl
    |succ i=>
      rw[bPH,bMQ Yaq,bMH];have:(i+1)*3- [Value.int .i64 d.kind,Value.int .i64 d.chair,Value.int .i64 d.token].length=i*3:=by simp;omega
      rw[this];exact ih Yau
theorem _root_.Go.Fs.kN.lins{D:aC}{v:Γ}{n:Nat}{l:List eL}(hF:kN D v n (A0 l))(hn:l.length=n)(hb:n≤9223372036854775807):Sl D oE 3 v l:=
 hF.sl hn hb fun _i _t hi=>⟨_,rfl,rfl,aSI hi⟩
theorem I2(bv:Γ)(b:bH)(l:eL)(D:aC)(hb:gK D bv b)(hn:1≤b.chairs∧b.chairs≤4):Fn prog 224 #[bv,EH l] D (fun D' v=>Sl D' oE 3 v (cX b.chairs l)):=by
 obtain⟨lv,cv,rfl,hl,hc⟩:=hb;refine Zx 52 func224 rfl fun h0=>aA<|Zab rfl fun q1 E1 hE1 Z=>Zab rfl fun q2 E2 hE2 O=>Zk rfl<|bK<|Zi rfl y7 rfl<|Zd 0 rfl aH rfl O rfl<|Zaa rfl (fun D1 hH=>NI _ _ _ _ _ Yd Yd) fun v1 D1 hH hI=>?_;have R:=hI;refine Zai rfl U25 rfl R rfl<|Za rfl<|aF<|Za3<|Zc (Nat×Γ×aD) (fun g=>(fZ l.kind 0 1 2).length-g.1) (fun g=>g.1≤(fZ l.kind 0 1 2).length∧bD 206 3 g.2.1 (aVP b.chairs l g.1).length (A0 (aVP b.chairs l g.1)) g.2.2) (fun g=>[(4,g.2.1),(15,qI (g.1:Int))]) [(14,_),(13,_),(3,_),(2,_)] (fun g=>g.2.2++[]) (fun g=>[D1,E2,E1,D]) (0,qN,[]) ⟨Ye,bD.nil⟩ ⟨Ya,Ya,bQK⟩ Mm5 ?_;rintro⟨k,v,ν⟩ ⟨h1,I⟩;simp only at h1 I;refine aA<|Zan rfl<|bS<|Zag rfl (fun hc1=>?_) fun hc1=>?_
 ·simp only at hc1;have hS:=R.len;obtain⟨x,hx1⟩:=cB (fZ l.kind 0 1 2) k;refine aQ<|Za5<|Za3<|aA<|iN rfl R rfl hx1 fun b1 o1=>Zk rfl<|aL<|Zi rfl rX rfl<|Zd 1 rfl aH rfl O rfl<|Zi rfl qD rfl<|Zd 0 rfl aH rfl Z rfl<|Zaz rfl ?_;refine Zaa rfl (fun D2 hB=>NI _ _ _ _ _ Yd Yd) fun v2 D2 hB hJ=>?_;have U:=hJ;refine Zai rfl U25 rfl U rfl<|Za rfl<|aF<|Za3<|Zc (Nat×Γ×aD) (fun g=>(fZ l.chair (-1) 0 (b.chairs-1)).length-g.1) (fun g=>g.1≤(fZ l.chair (-1) 0 (b.chairs-1)).length∧bD 206 3 g.2.1 (aTO b.chairs l k x g.1).length (A0 (aTO b.chairs l k x g.1)) g.2.2) (fun g=>[(4,g.2.1),(26,qI (g.1:Int))]) [(25,_),(24,_),(23,_),(22,_),(21,_),(20,_),(19,_),(6,_),(18,_),(17,_),(16,_),(15,_),(14,_),(13,_),(3,_),(2,_)] (fun g=>g.2.2++[]) (fun g=>[D2,D1,E2,E1,D]) (0,v,ν) ⟨Ye,by rw[aVJ];exact I⟩ ⟨Ya,Ya,bQK⟩ Mm5 ?_
  rintro⟨j,w,ν2⟩ ⟨h2,haJ⟩;simp only at h2 haJ;refine aA<|Zan rfl<|bS<|Zag rfl (fun hc2=>?_) fun hc2=>?_
  ·simp only at hc2;have hX:=U.len;obtain⟨c,hx2⟩:∃x,(fZ l.chair (-1) 0 (b.chairs-1))[j]?= some x:=⟨_,bLB Yd⟩
   refine aQ<|Za5<|Za3<|aA<|iN rfl U rfl hx2 fun b2 o2=>Zk rfl<|aL<|Zi rfl nU rfl<|Zd 2 rfl aH rfl O rfl<|Zi rfl qD rfl<|Zd 0 rfl aH rfl Z rfl<|Zaz rfl ?_;refine Zaa rfl (fun D3 hK=>NI _ _ _ _ _ Yd Yd) fun v3 D3 hK hN=>?_;have V:=hN;refine Zai rfl U25 rfl V rfl<|Za rfl<|aF<|Za3<|Zc (Nat×Γ×aD) (fun g=>(fZ l.token (-1) 0 (b.chairs-1)).length-g.1) (fun g=>g.1≤(fZ l.token (-1) 0 (b.chairs-1)).length∧bD 206 3 g.2.1 (aJR b.chairs l k x j c g.1).length (A0 (aJR b.chairs l k x j c g.1)) g.2.2) (fun g=>[(4,g.2.1),(37,qI (g.1:Int))]) [(36,_),(35,_),(34,_),(33,_),(32,_),(31,_),(30,_),(8,_),(29,_),(28,_),(27,_),(26,_),(25,_),(24,_),(23,_),(22,_),(21,_),(20,_),(19,_),(6,_),(18,_),(17,_),(16,_),(15,_),(14,_),(13,_),(3,_),(2,_)] (fun g=>g.2.2++[]) (fun g=>[D3,D2,D1,E2,E1,D]) (0,w,ν2) ⟨Ye,by rw[aOP];exact haJ⟩ ⟨Ya,Ya,bQK⟩ Mm5 ?_
   rintro⟨i,u,ν3⟩ ⟨h3,haI⟩;simp only at h3 haI;refine aA<|Zan rfl<|bS<|Zag rfl (fun hc3=>?_) fun hc3=>?_
   ·simp only at hc3;have hY:=V.len;obtain⟨t,hE⟩:∃x,(fZ l.token (-1) 0 (b.chairs-1))[i]?= some x:=⟨_,bLB Yd⟩
    refine aQ<|Za5<|Za3<|aA<|iN rfl V rfl hE fun b3 o3=>Zk rfl<|aF<|aP<|Za rfl<|Za rfl<|Wbc ?_;refine Zt [qI x,qI c,qI t] rfl QF jM rfl<|Zu rfl U33 cF jM rfl (.cons rfl rfl .nil) fun rA rB hO Y=>?_;have hli:=bCS (n:=b.chairs) (l:=l) (k:=k) (x:=x) (j:=j) (c:=c) (i:=i) Yd;refine aR (A:=[]) (B:=[]) rfl U33 rfl rfl cF jM rfl O9 rfl rfl rfl haI (iL.lit Y) Ye rfl (DL _) Yk Yd (bLL rfl) rfl bQK fun v7 ν7 hP=>?_;have hR:bD 206 3 v7 (aJR b.chairs l k x j c (i+1)).length (A0 (aJR b.chairs l k x j c (i+1))) ν7:=by rw[aPU hE];simpa [A0]using hP
    refine Was ?_;exact aI 16 (i+1,v7,ν7) ⟨Yl,hR⟩ Yl ⟨Ya,Ya,bQK⟩ rfl rfl Mm5 fun D h=>⟨D,bLP _ (h),Le.refl D⟩
   ·have hi:i=(fZ l.token (-1) 0 (b.chairs-1)).length:=by simp only at hc3;omega
    rw[hi,aYF hx2]at haI;refine Za8<|Za4<|Za4<|Za9<|Wd ?_;exact aI 17 (j+1,u,ν3) ⟨Yl,haI⟩ Yl ⟨Ya,Ya,bQK⟩ rfl rfl Mm5 fun D h=>⟨D,bLP _ (h),Le.refl D⟩
  ·have hj:j=(fZ l.chair (-1) 0 (b.chairs-1)).length:=by simp only at hc2;omega
   rw[hj,bAA hx1]at haJ;refine Za8<|Za4<|Za4<|Za9<|Wd ?_;exact aI 17 (k+1,w,ν2) ⟨Yl,haJ⟩ Yl ⟨Ya,Ya,bQK⟩ rfl rfl Mm5 fun D h=>⟨D,bLP _ (h),Le.refl D⟩
 ·have hk:k=(fZ l.kind 0 1 2).length:=by simp only at hc1;omega
  rw[hk,aDB]at I;refine Za8<|Za4<|Za4<|Za9<|Za1<|aA<|Za rfl<|Zk rfl<|aG<|Zar [] [] I rfl fun D2 hB hF=>?_;exact aE rfl fun D hD=>(hF.lins rfl (by have:=YP (l:=l) hn.2;omega)).up oE.up (hD _ Ye)
theorem bIS{b:bH}(h:((!C1.gZ b.chairs 1 4|| !C1.gZ b.coin 1 99)|| !C1.gZ b.box 0 999)=false):1≤b.chairs∧b.chairs≤4:=by
 simp only[bMG,bPA,C1.bT]at h;exact h.1.1
theorem bJC{b:bH}(h:((((!C1.gZ b.chairs 1 4|| !C1.gZ b.coin 1 99)|| !C1.gZ b.box 0 999)|| !b.lines.all (xE b.chairs))|| !b.counts.all (sX b.lines.length))=false):tK b=true∧1≤b.chairs∧b.chairs≤4:=by
 simp only[bMG,bPA]at h;obtain⟨⟨⟨⟨h1,h2⟩,h3⟩,h4⟩,h5⟩:=h;exact⟨by unfold tK;rw[h1,h2,h3,h4,h5];rfl,(C1.bT.1 h1)⟩
theorem ZP{b:bH}(h:(decide ((8:Int)<b.lines.length)||decide ((4:Int)<b.counts.length))=false):¬(8<b.lines.length∨4<b.counts.length):=by
 simp only[bMG,bLC]at h;omega
theorem aSD{b:bH}(h:(decide ((8:Int)<b.lines.length)||decide ((4:Int)<b.counts.length))=true):bB b=3:=by
 simp only[bMF,LT]at h;unfold bB;rw[bLR Yd]
theorem bFD{b:bH}(h:(decide ((8:Int)<b.lines.length)||decide ((4:Int)<b.counts.length))=false)(h2:((((!C1.gZ b.chairs 1 4|| !C1.gZ b.coin 1 99)|| !C1.gZ b.box 0 999)|| !b.lines.all (xE b.chairs))|| !b.counts.all (sX b.lines.length))=true):bB b=1:=by
 unfold bB;rw[bLI (ZP h),bLR]
 revert h2;unfold tK
 generalize C1.gZ b.chairs 1 4=x,C1.gZ b.coin 1 99=y,C1.gZ b.box 0 999=z,b.lines.all (xE b.chairs)=u,b.counts.all (sX b.lines.length)=w;cases x<;>cases y<;>cases z<;>cases u<;>cases w<;>decide
theorem aYG{b:bH}(h:(decide ((8:Int)<b.lines.length)||decide ((4:Int)<b.counts.length))=false)(h2:tK b=true)(h3:tR b.chairs b.lines>4096):bB b=3:=by
 unfold bB;rw[bLI (ZP h),bLI (by rw[h2];simp),bLR h3]
theorem aYB{b:bH}(h:(decide ((8:Int)<b.lines.length)||decide ((4:Int)<b.counts.length))=false)(h2:tK b=true)(h3:¬tR b.chairs b.lines>4096):bB b=0:=by
 unfold bB;rw[bLI (ZP h),bLI (by rw[h2];simp),bLI h3]
theorem ZS{n:Int}{ls:List eL}{i:Nat}{x:eL}(hx:ls[i]?= some x):tR n (ls.take (i+1))=min (tR n (ls.take i)*(cX n x).length) 4097:=by
 unfold tR;rw[bLA,hx,bLT,bMT];rfl
theorem aOW(n:Int)(ls:List eL):0≤tR n ls∧tR n ls≤4097:=by
 unfold tR;have key:∀(l:List eL) (m:Int),0≤m∧m≤4097→0≤l.foldl (fun(m:Int) l=>min (m*((cX n l).length:Int)) 4097) m∧l.foldl (fun(m:Int) l=>min (m*((cX n l).length:Int)) 4097) m≤4097:=by
  intro l;induction l with
  |nil=>intro m h;exact h
  |cons x l ih=>
   intro m h;rw[bME];refine ih _ ⟨?_,Yd⟩;have:0≤m*((cX n x).length:Int):=bQH h.1 Yd;omega
 exact key ls 1 Yd
theorem bFC{m:Int}{k:Nat}(h:0≤m∧m≤4097)(hk:k≤32):wD .i64 (m*(k:Int)):=by
 have h1:0≤m*(k:Int):=bQH h.1 Yd;have h2:m*(k:Int)≤4097*32:=Int.mul_le_mul h.2 Yd Yd Yd;simp only[wD];omega
theorem B4(bv:Γ)(b:bH)(D:aC)(hb:gK D bv b):Fn prog 138 #[bv] D (fun _ v=>v=qI (bB b)):=by
 have O:=hb;obtain⟨lv,cv,rfl,hl,hc⟩:=hb;have hll:=hl.len;refine Zx 72 func138 rfl fun h0=>aA<|Zab rfl fun q1 E1 hE1 I=>Zk rfl<|bS<|bE [] 1 6 28<|Zv rfl eT rfl I dU<|Za0 rfl<|Zv rfl eT rfl I dU<|Za0 rfl<|Zk rfl<|Zk rfl ?_;refine bS<|Za3<|aA<|Zi rfl cS rfl<|Zd 3 rfl fU rfl I rfl<|Zai rfl U33 rfl hl rfl<|Wav ?_;refine' cT 5 (s:=17) (p:=22) rfl (fun hF=>?_) (fun hF=>?_) ?_;rotate_left
 ·refine Zj rfl jG rfl<|Ze 4 rfl tD rfl I rfl<|dD rfl U34 rfl hc rfl rfl ⟨_,rfl,rfl⟩<|Wae ?_;exact aM 4
 ·refine Wc ?_;exact aM 4
 refine Zk rfl<|aF<|Zaf rfl (fun hc1=>?_) fun hc1=>?_
 ·refine Wl ?_;exact aE rfl fun D hD=>by show Value.int _ _=_;rw[aSD hc1]
 ·refine aA<|Zi rfl qD rfl<|Zd 0 rfl aH rfl I rfl<|Zf rfl (fun D1 hD1=>lW _ _ _ _)<|Wbu ?_;refine' cT 5 (s:=28) (p:=33) rfl (fun hH=>?_) (fun hH=>?_) ?_;rotate_left
  ·refine Zj rfl wB rfl<|Ze 1 rfl aH rfl I rfl<|Zg rfl (fun D2 hD2=>lW _ _ _ _)<|Waf ?_;exact aM 4
  ·refine Wc ?_;exact aM 4
  refine Za rfl ?_;refine' cT 5 (s:=34) (p:=39) rfl (fun hI=>?_) (fun hI=>?_) ?_;rotate_left
  ·refine Zj rfl I7 rfl<|Ze 2 rfl aH rfl I rfl<|Zg rfl (fun D3 hD3=>lW _ _ _ _)<|Waf ?_;exact aM 4
  ·refine Wc ?_;exact aM 4
  refine Za rfl ?_;refine' cT 6 (s:=40) (p:=46) rfl (fun Y=>?_) (fun Y=>?_) ?_;rotate_left
  ·have hch:=bIS Y;refine Zj rfl cS rfl<|Ze 3 rfl fU rfl I rfl<|Zb rfl<|Zg rfl (fun D4 Z=>aYY _ _ _ (xE b.chairs) _ (Sl.at oE.up Z Yn Ye) ⟨_,[_],[],rfl,fun r D2 hl=>aTS _ b r D2 (O.up ((Z _ Ye).trans hl)) Yd⟩ rfl)<|Waf ?_;exact aM 5
  ·refine Wbw ?_;exact aM 5
  refine Za rfl ?_;refine' cT 6 (s:=47) (p:=53) rfl (fun hJ=>?_) (fun hJ=>?_) ?_;rotate_left
  ·refine Zj rfl jG rfl<|Ze 4 rfl tD rfl I rfl<|Zb rfl<|Zg rfl (fun D5 hB=>aDV _ _ _ (sX b.lines.length) _ (Sl.at tC.up hB Yn Ye) ⟨_,[_],[],rfl,fun r D2 hl=>aGH _ b r D2 (O.up ((hB _ Ye).trans hl))⟩ rfl)<|Waf ?_;exact aM 5
  ·refine Wbw ?_;exact aM 5
  refine Zk rfl<|aF<|Zaf rfl (fun hc2=>?_) fun hc2=>?_
  ·refine Wl ?_;exact aE rfl fun D hD=>by show Value.int _ _=_;rw[bFD hc1 hc2]
  ·obtain⟨hok,hY⟩:=bJC hc2;refine bJ<|Za6<|Za1<|aA<|Zk rfl<|bK<|Zi rfl cS rfl<|Zd 3 rfl fU rfl I rfl<|Zai rfl U33 rfl hl rfl<|Za rfl<|aF<|Za3 ?_;refine dW (γ:=Nat) (fun i=>b.lines.length-i) (fun i=>i≤b.lines.length) (fun i=>[(57,qI (i:Int)),(5,qI (tR b.chairs (b.lines.take i)))]) [(56,_),(55,_),(2,_),(1,_)] (fun i=>[E1,D]) 0 Yd ⟨Ya,Ya,bQK⟩ cR (aK) ?_;rintro i h1;refine aA<|Zan rfl<|bS<|Zag rfl (fun hc3=>?_) (fun hc3=>?_)
   ·have hi:i<b.lines.length:=by omega
    obtain⟨x,hx⟩:=cB b.lines i;refine aQ<|Za5<|Za3<|aA<|Zw rfl U33 cF rfl hl rfl hx fun b1 o1 hK hN rA hO=>?_;obtain rfl:hK=[qI _,qI _,qI _]:=hN;refine Zv rfl lY rfl hO cF<|Zad rfl jM rfl fun q2=>Zy rfl cF ζ<|aF<|aP<|Za rfl<|Zv rfl eT rfl I dU<|Zae rfl lY rfl Mm0 cF<|Zaa rfl (fun D6 hE=>I2 _ b x _ (O.up (hE _ Ye)) Yd) fun v6 D6 hE hP=>?_;have hR:=hP;have hrl:=YP (l:=x) (n:=b.chairs) Yd;have hmk:=aOW b.chairs (b.lines.take i);refine Zai rfl U33 rfl hR rfl<|AO rfl rfl rfl (bFC hmk hrl) rfl bQK<|Zu rfl U25 aJ cK rfl (.cons rfl rfl (.cons rfl rfl .nil)) fun rB D901 hS R=>?_;have U:=Sl.ofInts (l:=[_,_]) (n:=2) (cap:=2) R rfl Yd Yd;refine Zf rfl (fun D7 hX=>J8 _ _ [4097] _ (U.up RI.up (hX _ Ye)))<|Was ?_;exact aI 17 (i+1) Yd Yd ⟨Ya,(by rw[ZS hx];rfl),bQK⟩ rfl rfl (List.Sublist.cons _ Mm5) fun D h=>⟨D,bLP _ (bLP _ (h)),Le.refl D⟩
   ·obtain rfl:i=b.lines.length:=by omega
    rw[bLU];refine Za8<|Za4<|Za4<|Za9<|Za1<|bM<|Za rfl<|Zas rfl<|aF<|Zag rfl (fun V=>?_) fun V=>?_
    ·refine Wcg ?_;exact aE rfl fun D hD=>by show Value.int _ _=_;rw[aYG hc1 hok V]
    ·refine aQ<|aA<|We ?_;exact aE rfl fun D hD=>by show Value.int _ _=_;rw[aYB hc1 hok V]
end L3
namespace L3
open L1
section
variable{P:Program}{X:Cx}{γb:Type}[Membership Nat γb]{bad:γb}{all:Array Oper}{K:Act→Δ→Prop}{Q:Exit→Act→Δ→Prop}
variable{σ:cD}{μ:aD}{Ds:List aC}{os:List (Bool×Nat)}{fl:Bool}{ix:Nat}
variable{d:Nat}{x y z:Operand}{u v:Γ}{ty:Θ}{pos:String}{aft:Array Edge}{g:Option (Nat×Bool)}
theorem uS{t:Θ}{b k:Nat}{l:List Int}{n:Int}{e:Θ}{μ':aD}(ho:all[ix]?= some ⟨none,.store t x y,ty,pos,aft,g⟩)(hs:TS P t 1)(hx:ev σ x=some (.pointer (some ⟨b,k,none⟩)))(hy:ev σ y=some (qI n))
  (hm:bO μ b (qC (ints l) e) (qC (ints (l.set k n)) e) μ') (hl:k<l.length) (hfl:fl=false∨b∈bad) (hg:dH all σ g)
  (kk:WL P X bad all K Q os σ μ' Ds):WL P X bad all K Q ((fl,ix)::os) σ μ Ds:=by
 have hil:(ints l).length=l.length:=aN l;refine nM (off:=k) (us:=[qI n]) (vs:=ints l) (ws:=ints (l.set k n)) ho hx hy rfl hs hm (by simp[hil];omega) ?_ (fun u hu=>by simp at hu;subst hu;rfl) hfl hg kk
 rw[show ints (l.set k n)=(ints l).set k (qI n) by simp[ints,List.map_set],List.set_eq_take_append_cons_drop,bLR (by rw[hil];exact hl)];simp
end
open C3
theorem xQ{q a b:Nat}(h:a=b):some (Value.pointer (some ⟨q,a,none⟩))=some (Value.pointer (some ⟨q,b,none⟩)):=by rw[h]
theorem M8{s:Sc}(h4:s.ch.length=4)(h5:s.tk.length=4):(rH s).length=10:=by unfold rH;simp[h4,h5]
theorem bDX{s:Sc}(h4:s.ch.length=4){c:Int}(hc:0≤c∧c<4):(ints (rH s))[0+c.toNat*1]?= some (qI (oS s.ch c)):=by
 rw[bOH,bNL];refine cN ?_;unfold rH oS;rw[bLK,bNP Yd,bNG,bLB Yd];rfl
theorem bDY{s:Sc}(h4:s.ch.length=4)(h5:s.tk.length=4){c:Int}(hc:0≤c∧c<4):(ints (rH s))[0+4+c.toNat*1]?= some (qI (oS s.tk c)):=by
 rw[bNL];refine cN ?_;unfold rH oS;rw[bLK,bPC Yd,bNP Yd,bNG,show 0+4+c.toNat-s.ch.length=c.toNat by omega,bLB Yd];rfl
theorem PV{l:List Int}(h:l.length=4):∃a b c d,l=[a,b,c,d]:=by
 match l,h with
 | [a,b,c,d],_=>exact⟨a,b,c,d,rfl⟩
theorem K5{s:Sc}(h4:s.ch.length=4)(h5:s.tk.length=4):(rH s)[8]?= some s.money:=by
 obtain⟨a,b,c,d,e⟩:=PV h4;obtain⟨a',b',c',d',e'⟩:=PV h5;unfold rH;rw[e,e'];rfl
theorem TX{s:Sc}(h4:s.ch.length=4)(h5:s.tk.length=4):(rH s)[9]?= some s.mixed:=by
 obtain⟨a,b,c,d,e⟩:=PV h4;obtain⟨a',b',c',d',e'⟩:=PV h5;unfold rH;rw[e,e'];rfl
theorem aCX{s:Sc}(h4:s.ch.length=4)(h5:s.tk.length=4){c t:Int}(hc:0≤c∧c<4)(ht:0≤t∧t<4)(x y m:Int):
  (((rH s).set c.toNat x).set (4+t.toNat) y).set 8 m=rH ⟨s.ch.set c.toNat x,s.tk.set t.toNat y,m,s.mixed⟩∧∀z,((((rH s).set 9 z).set c.toNat x).set (4+t.toNat) y).set 8 m=rH ⟨s.ch.set c.toNat x,s.tk.set t.toNat y,m,z⟩:=by
 obtain⟨a,b,c',d,e⟩:=PV h4;obtain⟨a',b',c'',d',e'⟩:=PV h5;unfold rH;rw[e,e'];have hc':c.toNat=0∨c.toNat=1∨c.toNat=2∨c.toNat=3:=by omega
 have ht':t.toNat=0∨t.toNat=1∨t.toNat=2∨t.toNat=3:=by omega
 rcases hc' with h|h|h|h<;>rcases ht' with h'|h'|h'|h'<;>rw[h,h']<;>exact⟨rfl,fun _=>rfl⟩
theorem bGQ{s:Sc}{l:eL}(h:((!(decide (oS s.ch l.chair≠0)==decide (l.kind=2)))||(!(decide (oS s.tk l.token≠0)==decide (l.kind=2))))=true):mB s l=false:=by
 unfold mB
 revert h
 generalize decide (oS s.ch l.chair≠0)=a,decide (oS s.tk l.token≠0)=c,decide (l.kind=2)=e;cases a<;>cases c<;>cases e<;>decide
theorem PD{s:Sc}{l:eL}(h:((!(decide (oS s.ch l.chair≠0)==decide (l.kind=2)))||(!(decide (oS s.tk l.token≠0)==decide (l.kind=2))))=false):mB s l=true:=by
 unfold mB
 revert h
 generalize decide (oS s.ch l.chair≠0)=a,decide (oS s.tk l.token≠0)=c,decide (l.kind=2)=e;cases a<;>cases c<;>cases e<;>decide
theorem bFL{b:bH}{s:Sc}{i:Int}{l:eL}(h:mB s l=false):Value.tuple #[.agg (ints (rH s)).toArray,.bool false]=.tuple #[ZV (if mB s l=true then fK b s i l else s),.bool (mB s l)]:=by rw[h];rfl
theorem NX{b:bH}{s:Sc}{i:Int}{l:eL}{L:List Int}(h:mB s l=true)(hL:L=rH (fK b s i l)):Value.tuple #[.agg (ints L).toArray,.bool true]=.tuple #[ZV (if mB s l=true then fK b s i l else s),.bool (mB s l)]:=by rw[h,hL];rfl
theorem IP{b:bH}{s:Sc}{i:Int}{l:eL}{L:List Int}(h4:s.ch.length=4)(h5:s.tk.length=4)(hc:0≤l.chair∧l.chair<4)(ht:0≤l.token∧l.token<4)(hk:l.kind=2)
  (h:(oS s.ch l.chair≠oS s.tk l.token∧L=(rH s).set 9 (s.mixed+1))∨(oS s.ch l.chair=oS s.tk l.token∧L=rH s)):((L.set l.chair.toNat 0).set (4+l.token.toNat) 0).set 8 (s.money-b.coin)=rH (fK b s i l):=by
 obtain⟨g1,g2⟩:=aCX h4 h5 hc ht 0 0 (s.money-b.coin);unfold fK;rw[bLR hk];rcases h with⟨e,rfl⟩|⟨e,rfl⟩
 ·rw[g2,bLR e]
 ·rw[g1,bLI (by rw[e];simp)]
theorem aOK{b:bH}{s:Sc}{i:Int}{l:eL}(h4:s.ch.length=4)(h5:s.tk.length=4)(hc:0≤l.chair∧l.chair<4)(ht:0≤l.token∧l.token<4)(hk:l.kind≠2):
  (((rH s).set l.chair.toNat (i+1)).set (4+l.token.toNat) (i+1)).set 8 (s.money+b.coin)=rH (fK b s i l):=by
 rw[(aCX h4 h5 hc ht (i+1) (i+1) (s.money+b.coin)).1];unfold fK;rw[bLI hk]
theorem CJ(bv:Γ)(b:bH)(s:Sc)(i:Int)(l:eL)(D:aC)(hb:gK D bv b)(h4:s.ch.length=4)(h5:s.tk.length=4)(hc:0≤l.chair∧l.chair<4)(ht:0≤l.token∧l.token<4)(hi:0≤i∧i≤100)(hm: -100000≤s.money∧s.money≤100000)(hx:0≤s.mixed∧s.mixed≤1000)(hn:0≤b.coin∧b.coin≤99):
  Fn prog 304 #[bv,ZV s,qI i,EH l] D (fun _ v=>v=.tuple #[ZV (if mB s l=true then fK b s i l else s),.bool (mB s l)]):=by
 obtain⟨lv,cv,rfl,hl,hcn⟩:=hb;have hs10:=M8 h4 h5;refine Zx 83 func304 rfl fun h0=>aA<|Zab rfl fun q1 E1 Y R=>GN rfl (e:=242) rfl rfl rfl bQK fun q2=>Zab rfl fun U E3 Z I=>Zad rfl wQ rfl fun q4=>Zk rfl<|aL<|Zi rfl y7 rfl<|Zd 0 rfl aH rfl I rfl<|Zaw rfl<|Zk rfl ?_;refine bK<|Zi rfl rX rfl<|Zd 1 rfl aH rfl I rfl<|Zi rfl uU rfl<|eV rfl U240 aJ rfl rfl Yd Yd rfl bQK<|bG (v:=qI (oS s.ch l.chair)) rfl aH rfl Mm1 (bDX h4 hc) n4 rfl bQK<|Zax rfl<|Za rfl<|NQ rfl U4 rfl rfl rfl bQK<|Za rfl ?_;refine' cT 9 (s:=22) (p:=31) rfl (fun V=>?_) (fun V=>?_) ?_;rotate_left
 ·refine Zj rfl nU rfl<|Ze 2 rfl aH rfl I rfl<|Zj rfl uY rfl<|eV rfl U240 aJ rfl rfl Yd Yd rfl ⟨_,rfl,rfl⟩<|bG (v:=qI (oS s.tk l.token)) rfl aH rfl Mm1 (bDY h4 h5 ht) n4 rfl ⟨_,rfl,rfl⟩<|sU rfl rfl rfl rfl ⟨_,rfl,rfl⟩<|Zb rfl<|NQ rfl U4 rfl rfl rfl ⟨_,rfl,rfl⟩<|Zal rfl ?_;exact aM 8
 ·refine Zh rfl<|Wy ?_;exact aM 8
 refine aF<|Zaf rfl (fun hc1=>?_) fun hc1=>?_
 ·refine aA<|Wak ?_;exact Zo [_,_] rfl ⟨⟨_,_,_,rfl,Mm0,Or.inr ⟨lA,Xbt,rfl⟩⟩,rfl,bQK⟩ fun D hD=>bFL (bGQ hc1)
 ·have hcan:mB s l=true:=PD hc1;refine aQ<|bM<|Za rfl<|aF<|Zag rfl (fun hc2=>?_) (fun hc2=>?_)
  ·have O:l.kind=2:=by simpa using hc2
   refine Za5<|Za5<|bE [] 4 11 996<|Zi rfl rX rfl<|Zd 1 rfl aH rfl I rfl<|Zi rfl uU rfl<|eV rfl U240 aJ rfl rfl Yd Yd rfl bQK<|bG (v:=qI (oS s.ch l.chair)) rfl aH rfl Mm1 (bDX h4 hc) n4 rfl bQK<|Zi rfl nU rfl<|Zd 2 rfl aH rfl I rfl<|Zi rfl uY rfl<|eV rfl U240 aJ rfl rfl Yd Yd rfl bQK ?_;refine bG (v:=qI (oS s.tk l.token)) rfl aH rfl Mm1 (bDY h4 h5 ht) n4 rfl bQK<|Zax rfl<|aF<|Zag rfl (fun hc3=>?_) fun hc3=>?_
   ·refine aP<|Zi rfl s8 rfl<|bG (v:=qI s.mixed) rfl aH rfl Mm1 (cN (TX h4 h5)) n4 rfl bQK<|Zah rfl<|Zi rfl s8 rfl<|zR (k:=9) rfl aJ rfl rfl (.tail ζ) Yaa bQK<|bS<|iZ (dN.mk [U]) 2 [0,1,2,3,4,5,7,6,8,9] [false,false,true,true,true,true,true,true,false,false] [(false,0),(false,1),(true,2),(true,3),(true,4),(true,5),(true,7),(true,6),(false,8),(false,9)] bC (fun _ _ _ h=>eZ (P:=prog) (fn:=f304) _ _ _ h) Yg rfl<|Zi rfl rX rfl<|dZ rfl (k:=1) aH rfl I Yc rfl (dN.out Ye) rfl bQK<|Zi rfl nU rfl<|dZ rfl (k:=2) aH rfl I Yc rfl (dN.out Ye) rfl bQK ?_;refine Zi rfl uU rfl<|eV rfl U240 aJ rfl rfl Yd Yd rfl bQK<|Zi rfl uY rfl<|kZ I Ye fun hap=>uS (k:=l.chair.toNat) rfl aJ (xQ Yd) rfl (.tail ζ) Yaa (bLG (dN.in_ Yz)) bQK<|eV rfl U240 aJ rfl rfl Yd Yd rfl bQK<|kZ I Ye fun hap=>uS (k:=4+l.token.toNat) rfl aJ (xQ Yd) rfl (.tail ζ) Yaa (bLG (dN.in_ Yz)) bQK<|aL<|Zi rfl pQ rfl<|bG (v:=qI s.money) rfl aH rfl Mm1 (cN Yaj) n4 rfl bQK<|Zi rfl wB rfl ?_;refine Zd 1 rfl aH rfl R rfl<|Zaz rfl<|Zi rfl pQ rfl<|zR (k:=8) rfl aJ rfl rfl (.tail ζ) Yaa bQK<|aL<|Wak ?_
    exact Zo [_,_] rfl ⟨⟨_,_,_,rfl,Mm0,bLG ⟨lA,Xbt,rfl⟩⟩,rfl,bQK⟩ fun D hD=>NX hcan (IP h4 h5 hc ht O (bLL ⟨Xar,rfl⟩))
   ·refine aQ<|Za5<|iZ (dN.mk [U]) 2 [0,1,2,3,4,5,7,6,8,9] [false,false,true,true,true,true,true,true,false,false] [(false,0),(false,1),(true,2),(true,3),(true,4),(true,5),(true,7),(true,6),(false,8),(false,9)] bC (fun _ _ _ h=>eZ (P:=prog) (fn:=f304) _ _ _ h) Yg rfl<|Zi rfl rX rfl<|dZ rfl (k:=1) aH rfl I Yc rfl (dN.out Ye) rfl bQK<|Zi rfl nU rfl<|dZ rfl (k:=2) aH rfl I Yc rfl (dN.out Ye) rfl bQK<|Zi rfl uU rfl<|eV rfl U240 aJ rfl rfl Yd Yd rfl bQK<|Zi rfl uY rfl<|kZ I Ye fun hap=>uS (k:=l.chair.toNat) rfl aJ (xQ Yd) rfl (.tail ζ) Yaa (bLG (dN.in_ Yz)) bQK ?_;refine eV rfl U240 aJ rfl rfl Yd Yd rfl bQK<|kZ I Ye fun hap=>uS (k:=4+l.token.toNat) rfl aJ (xQ Yd) rfl (.tail ζ) Yaa (bLG (dN.in_ Yz)) bQK<|aL<|Zi rfl pQ rfl<|bG (v:=qI s.money) rfl aH rfl Mm1 (cN Yaj) n4 rfl bQK<|Zi rfl wB rfl<|Zd 1 rfl aH rfl R rfl<|Zaz rfl<|Zi rfl pQ rfl<|zR (k:=8) rfl aJ rfl rfl (.tail ζ) Yaa bQK<|aL ?_;refine Wak ?_
    exact Zo [_,_] rfl ⟨⟨_,_,_,rfl,Mm0,bLG ⟨lA,Xbt,rfl⟩⟩,rfl,bQK⟩ fun D hD=>NX hcan (IP h4 h5 hc ht O (bLG ⟨Xar,rfl⟩))
  ·have O:l.kind≠2:=by simpa using hc2
   refine aQ<|Za5<|iZ (dN.mk [U]) 2 [0,1,2,3,4,5,6,7,8,9,11,10,12,13] [false,false,true,true,true,true,true,true,true,true,true,true,false,false] [(false,0),(false,1),(true,2),(true,3),(true,4),(true,5),(true,6),(true,7),(true,8),(true,9),(true,11),(true,10),(false,12),(false,13)] bC (fun _ _ _ h=>eZ (P:=prog) (fn:=f304) _ _ _ h) Yg rfl<|Zi rfl rX rfl<|dZ rfl (k:=1) aH rfl I Yc rfl (dN.out Ye) rfl bQK<|Zi rfl nU rfl<|dZ rfl (k:=2) aH rfl I Yc rfl (dN.out Ye) rfl bQK<|Za rfl<|Zah rfl<|Za rfl<|Zah rfl<|Zi rfl uU rfl ?_;refine eV rfl U240 aJ rfl rfl Yd Yd rfl bQK<|Zi rfl uY rfl<|kZ I Ye fun hap=>uS (k:=l.chair.toNat) rfl aJ (xQ Yd) rfl (.tail ζ) Yaa (bLG (dN.in_ Yz)) bQK<|eV rfl U240 aJ rfl rfl Yd Yd rfl bQK<|kZ I Ye fun hap=>uS (k:=4+l.token.toNat) rfl aJ (xQ Yd) rfl (.tail ζ) Yaa (bLG (dN.in_ Yz)) bQK<|aL<|Zi rfl pQ rfl<|bG (v:=qI s.money) rfl aH rfl Mm1 (cN Yaj) n4 rfl bQK<|Zi rfl wB rfl<|Zd 1 rfl aH rfl R rfl ?_;refine Zah rfl<|Zi rfl pQ rfl<|zR (k:=8) rfl aJ rfl rfl (.tail ζ) Yaa bQK<|aL<|bL (e:=242) (fz:=(0,0)) rfl lA rfl Mm1 Xbs n4 rfl bQK<|cQ rfl rfl rfl rfl eB (by simp[hs10]) Ybc .head (dI _) bQK<|We ?_
   exact Zo [_,_] rfl ⟨⟨_,_,_,rfl,Mm0,bLG ⟨lA,Xbt,rfl⟩⟩,rfl,bQK⟩ fun D hD=>NX hcan (aOK h4 h5 hc ht O)
theorem SY(c:Cn)(ba bs:Nat)(a:Int)(s:Sc)(D:aC)(h4:s.ch.length=4)(h5:s.tk.length=4)(hA:At D ba 0 [qI a])(hS:At D bs 0 (ints (rH s))):
  Fn prog 357 #[bEI c,qP ba,qP bs] D (fun _ v=>v=.bool (decide (c.after≠a)||C1.gZ s.money c.lo c.hi)):=by
 refine Zx 16 func357 rfl fun h0=>aA<|Zab rfl fun V E1 R I=>Zk rfl<|aL<|Zi rfl P4 rfl<|Zd 0 rfl aH rfl I rfl<|Zd 0 rfl aH rfl hA rfl<|Wcl ?_;refine' cT 6 (s:=9) (p:=15) rfl (fun O=>?_) (fun O=>?_) ?_;rotate_left
 ·refine Zj rfl p4 rfl<|jW rfl (k:=1) mZ eC rfl I Yc rfl rfl n4 rfl ⟨_,rfl,rfl⟩<|Zj rfl pQ rfl<|dZ (v:=qI s.money) rfl (k:=8) aH rfl hS Yc (cN (K5 h4 h5)) n4 rfl ⟨_,rfl,rfl⟩<|Zg rfl (fun Y U=>aWN (c.lo,c.hi) _ _)<|Zal rfl ?_;exact aM 5
 ·refine Wbw ?_;exact aM 5
 refine We ?_;exact aE rfl fun D hD=>rfl
theorem DX(bv:Γ)(b:bH)(s:Sc)(a:Int)(D:aC)(hb:gK D bv b)(h4:s.ch.length=4)(h5:s.tk.length=4):Fn prog 303 #[bv,ZV s,qI a] D (fun _ v=>v=.bool (iA b s a)):=by
 obtain⟨lv,cv,rfl,hl,hc⟩:=hb;refine Zx 11 func303 rfl fun h0=>aA<|Zab rfl fun q1 E1 V O=>Zab rfl fun q2 E2 Y R=>Zab rfl fun q3 E3 Z U=>Zk rfl<|aL<|Zi rfl jG rfl<|Zd 4 rfl tD rfl O rfl<|Za0 rfl<|Zf rfl (fun D1 I=>aDV _ _ _ (fun c=>decide (c.after≠a)||C1.gZ s.money c.lo c.hi) _ (Sl.at tC.up I Yn Ye) ⟨_,[],[_,_],rfl,fun c D2 hl=>SY c _ _ a s D2 h4 h5 (U.up ((I _ Ye).trans hl)) (R.up ((I _ Ye).trans hl))⟩ rfl)<|Zk rfl ?_;refine aG ?_;exact aE rfl fun D hD=>rfl
theorem yB(bv:Γ)(b:bH)(D:aC)(hb:gK D bv b):Fn prog 227 #[bv] D (fun _ v=>v=ZV (gN b)):=by
 obtain⟨lv,cv,rfl,hl,hc⟩:=hb;refine Zx 6 func227 rfl fun h0=>aA<|Zab rfl fun R E1 O I=>Zad rfl wQ rfl fun U=>aL<|Zi rfl I7 rfl<|Zd 2 rfl aH rfl I rfl<|Zt [qI 0,qI 0,qI 0,qI 0,qI 0,qI 0,qI 0,qI 0,qI b.box,qI 0] rfl aWI wQ rfl<|Zy rfl eB ζ<|aG ?_;exact Zo [_] rfl ⟨⟨_,_,_,rfl,Mm0,Or.inr ⟨lA,(by first|exact eB|(simp only[bML,aN, *];exact eB)),rfl⟩⟩,bQK⟩ fun D hD=>rfl
structure aLN(b:bH):Prop where
 ch:1≤b.chairs∧b.chairs≤4
 co:1≤b.coin∧b.coin≤99
 bx:0≤b.box∧b.box≤999
 l8:b.lines.length≤8
 c4:b.counts.length≤4
 ln:∀l∈b.lines,xE b.chairs l=true
theorem bJT{b:bH}(h:bB b=0):aLN b:=by
 unfold bB at h;split at h
 ·omega
 ·rename_i h1;split at h
  ·omega
  ·rename_i h2;have h3:tK b=true:=by simpa using h2
   unfold tK at h3;simp only[bKW,C1.bT,bLX]at h3;exact⟨h3.1.1.1.1,h3.1.1.1.2,h3.1.1.2,Yd,Yd,h3.1.2⟩
def gS(l:List Sc):List Γ:=l.flatMap fun s=>ints (rH s)
structure bJM(b:bH)(s:Sc)(k:Nat):Prop where
 lc:s.ch.length=4
 lt:s.tk.length=4
 mo:b.box-99*(k:Int)≤s.money∧s.money≤b.box+99*(k:Int)
 mi:0≤s.mixed∧s.mixed≤k
theorem aQZ{b:bH}(hb:aLN b){s:Sc}{k:Nat}(h:bJM b s k)(l:eL)(i:Int):bJM b (fK b s i l) (k+1):=by
 have:=hb.co;have:=h.mo;have:=h.mi;unfold fK;split
 ·refine⟨by simp[h.lc],by simp[h.lt],?_,?_⟩
  ·simp only;push_cast;omega
  ·simp only;split<;>push_cast<;>omega
 ·refine⟨by simp[h.lc],by simp[h.lt],?_,?_⟩
  ·simp only;push_cast;omega
  ·simp only;push_cast;omega
theorem V6{l:List Sc}(h:∀s∈l,(rH s).length=10){i:Nat}{s:Sc}(hi:l[i]?= some s):((gS l).drop (i*10)).take 10=ints (rH s):=by
 induction l generalizing i with
 |nil=>simp at hi
 |cons u l ih=>
  have hu:(ints (rH u)).length=10:=by rw[aN,h u bKZ]
  have e:gS (u::l)=ints (rH u)++gS l:=rfl;rw[e];cases i with
  |zero=>
   obtain rfl:u=s:=by simpa using hi
   rw[bPG,bOY,bMP Yd,bLZ Yd]
  |succ i=>
   rw[bPH,bMQ Yd,bMH,hu,show(i+1)*10-10=i*10 by omega];exact ih (fun t ht=>h t (bKY _ ht)) Yau
def aMK(l:List Int)(k:Nat):List Int:=(List.range 4).map fun j=>if j<k then min (l.getD j 0) 1 else 0
theorem aRG{l:List Int}{k:Nat}{x:Int}(hx:l[k]?= some x):(aMK l k).set k (min x 1)=aMK l (k+1):=by
 apply List.ext_getElem?;intro i;unfold aMK;rw[List.getElem?_set,bMI,bMI];simp only[bMK,bPD];by_cases hi:i<4
 ·rw[bPN hi];simp only[bMS];by_cases e:k=i
  ·subst e;rw[bLR rfl,bLR hi,bLR Yd,bNG,hx];rfl
  ·rw[bLI e];by_cases h:i<k
   ·rw[bLR h,bLR Yd]
   ·rw[bLI h,bLI Yd]
 ·rw[bNX Yau];by_cases e:k=i
  ·subst e;rw[bLR rfl,bLI hi];rfl
  ·rw[bLI e];rfl
theorem bAP{l:List Int}(h:l.length=4):aMK l 4=F9 l:=by
 obtain⟨a,b,c,d,rfl⟩:=PV h;rfl
theorem GB(l:List Int)(D:aC)(h4:l.length=4):Fn prog 321 #[.agg (ints l).toArray] D (fun _ v=>v=.agg (ints (F9 l)).toArray):=by
 refine Zx 17 func321 rfl (fun h0=>aA<|Zab rfl fun q1 E1 hB R=>Zad rfl bBO rfl fun q2=>bK<|dG rfl uO rfl R Ym (by rw[show(ints _).length=4 by simp[h4]];exact pF) n4 rfl bQK<|Za rfl<|aF<|Za3<|hU (γ:=Nat) (fun k=>4-k) (fun k=>k≤4) (fun k=>[(6,qI (k:Int))]) [(5,_),(2,_)] (fun k=>[(q2,qC (ints (aMK l k)) 240)]) (fun k=>[E1,D]) 0 Yd ⟨Ya,bQK⟩ cR Mm5 (aK) ?_);rintro k h1;refine aA<|Zan rfl<|bS<|Zag rfl (fun hc1=>?_) fun hc1=>?_
 ·have hk:k<4:=by omega
  obtain⟨x,hx0⟩:=cB l k;have hx:l[((k:Nat):Int).toNat]?= some x:=by simpa using hx0
  have hstep:=aRG hx0;refine aQ<|Za5<|Za3<|aA<|Za rfl<|DR (l:=l) rfl U240 aH aJ rfl rfl Yd Yd hx rfl bQK<|Zk rfl<|Zk rfl<|aF<|aP<|Wbc ?_;refine Zu rfl U25 aJ cK rfl (.cons rfl rfl (.cons rfl rfl .nil)) fun Y Z U I=>?_;have O:=Sl.ofInts (l:=[_,_]) (n:=2) (cap:=2) I rfl Yd Yd;refine Zf rfl (fun D1 V=>J8 _ x [1] _ (O.up RI.up (V _ Ye)))<|eV rfl U240 aJ rfl rfl Yd Yd rfl bQK<|zR (k:=k) rfl aJ (xQ Yd) rfl .head (by simp[aMK];omega) bQK ?_
  rw[show(aMK l k).set k (List.foldl min x [1])=aMK l (k+1)from hstep];refine Zap<|Wd ?_;exact aI 13 (k+1) Yd Yd ⟨Ya,bQK⟩ rfl rfl Mm5 fun D h=>⟨D,bLP _ (h),Le.refl D⟩
 ·obtain rfl:k=4:=by omega
  refine Za8<|Za4<|Za4<|Za9<|Za1<|aA<|bL (e:=240) (fz:=(0,0)) rfl uO rfl Mm0 (by rw[show(ints _).length=4 by simp[aMK]];exact pF) n4 rfl bQK<|cQ rfl rfl rfl rfl pF (by simp[aMK]) (by simp[aMK]) .head (dI _) bQK<|aG ?_;exact Zo [_] rfl ⟨⟨_,_,_,rfl,Mm0,Or.inr ⟨uO,(by rw[show(ints _).toArray.size=4 by simp[aMK]];exact pF),rfl⟩⟩,bQK⟩ fun D hD=>by show Value.agg _=_;rw[bAP h4]
theorem bHH:KS prog 433 9:=by
 have hf:(prog.fieldsOf 433).toList=[(prog.fieldsOf 433)[0]!,(prog.fieldsOf 433)[1]!,(prog.fieldsOf 433)[2]!]:=by kernel_rfl
 refine⟨Yg,Yg,Yg,?_⟩;rw[hf];refine .cons (lK.int Yao Yg Yg) (.cons (n:=4) (lK.arr (e:=3) Yao Yg Yg Yg Yg ?_ ?_) (.cons (n:=4) (lK.arr (e:=3) Yao Yg Yg Yg Yg ?_ ?_) .nil))
 ·rw[show((prog.fieldsOf 433)[1]!).type=240 by kernel_rfl];exact uO
 ·rw[show((prog.fieldsOf 433)[1]!).type=240 by kernel_rfl];exact pF
 ·rw[show((prog.fieldsOf 433)[2]!).type=240 by kernel_rfl];exact uO
 ·rw[show((prog.fieldsOf 433)[2]!).type=240 by kernel_rfl];exact pF
theorem bHE:KM prog 433 4:=⟨(prog.fieldsOf 433)[0]!,(prog.fieldsOf 433)[1]!,(prog.fieldsOf 433)[2]!,3,Yg,Yg,Yao,Yao,Yao,Yg,Yg,Yg,Yg,Yg,Yg,Yg,
 by rw[show((prog.fieldsOf 433)[1]!).type=240 by kernel_rfl];exact uO,by rw[show((prog.fieldsOf 433)[1]!).type=240 by kernel_rfl];exact pF,by rw[show((prog.fieldsOf 433)[2]!).type=240 by kernel_rfl];exact uO,by rw[show((prog.fieldsOf 433)[2]!).type=240 by kernel_rfl];exact pF,aJ⟩
theorem aPP:HM prog 433 (AD (n:=9)):=KM.key bHE bHH
end L3
namespace L3
open L1
section
variable{P:Program}{X:Cx}{γb:Type}[Membership Nat γb]{bad:γb}{all:Array Oper}{K:Act→Δ→Prop}{Q:Exit→Act→Δ→Prop}
variable{σ:cD}{μ:aD}{Ds:List aC}{os:List (Bool×Nat)}
theorem bGH(k:(μ.map fun p=>p.1).Nodup→WL P X bad all K Q os σ μ Ds):WL P X bad all K Q os σ μ Ds:=fun a w hh=>by
 obtain⟨_,_,_,D,hs,_⟩:=id hh;exact k hs.nd a w hh
end
theorem bFJ{w V I O:Nat}{o U:Obj}{R:aD}(h1:w∉aD.ks ((O,o)::(I,U)::R))(h2:V∉aD.ks ((O,o)::(I,U)::R))(h3:(((O,o)::(I,U)::R).map fun p=>p.1).Nodup):O∉[w,V,I]:=by
 simp only[bMD,bMX,bNA,bQE]at h1 h2 h3;intro h;simp only[bNA,n4,bND]at h;rcases h with rfl|rfl|rfl
 ·exact h1.1 rfl
 ·exact h2.1 rfl
 ·exact h3.1.1 rfl
open C3
def BI(b:bH)(Mm:List (xS 9×Bool)):Prop:=∀p∈Mm,∀(i:Nat) (s:Sc),GR b s→aMJ s→s.ch.length=4→p.1.l=aUI s i→p.2=nJ b (b.lines.drop i) i s
theorem BI.nil{b:bH}:BI b []:=fun p hp=>by cases hp
theorem BI.add{b:bH}{Mm M':List (xS 9×Bool)}{i:Nat}{s:Sc}{a:xS 9}{r:Bool}(h:BI b Mm)(hm:∀p∈M',p∈Mm∨p=(a,r))(ha:a.l=aUI s i)(hi:GR b s)(hp:aMJ s)(h4:s.ch.length=4)(hr:r=nJ b (b.lines.drop i) i s):BI b M':=by
 intro p hp' i' s' hi' hps' h4' he;rcases hm p hp' with h1|h1
 ·exact h p h1 i' s' hi' hps' h4' he
 ·subst h1;simp only at he ⊢
  rw[ha]at he;obtain⟨I,O⟩:=aVL (ls:=b.lines.drop i) he hi hi' hp hps' h4 h4';rw[hr,←I];exact O.trans (by rw[←I])
theorem OQ{a c d:Γ}{lv cv lv' cv':Γ}(h:Value.agg #[a,c,d,lv,cv]=.agg #[a,c,d,lv',cv']):lv=lv'∧cv=cv':=by
 simp at h;exact h
theorem aYS{b:bH}{ls:List eL}{i:Nat}{s:Sc}(h:iA b s i=false):nJ b ls i s=false:=by
 cases ls with
 |nil=>exact h
 |cons l ls=>unfold nJ;rw[h];rfl
theorem aTM{b:bH}{i:Nat}{s:Sc}(h:iA b s i=true)(hi:(i:Int)=(b.lines.length:Int)):nJ b (b.lines.drop i) i s=true:=by
 rw[bMQ Yd];exact h
def bEV(b:bH)(i:Nat)(s:Sc)(r:eL):Bool:=mB s r&&nJ b (b.lines.drop (i+1)) (i+1) (fK b s i r)
theorem bEW{b:bH}{i:Nat}{s:Sc}{r:eL}(h:mB s r=true):nJ b (b.lines.drop (i+1)) (i+1) (fK b s i r)=bEV b i s r:=by unfold bEV;rw[h];rfl
theorem bJG{b:bH}{i:Nat}{s:Sc}{r:eL}(h:mB s r=false):false=bEV b i s r:=by unfold bEV;rw[h];rfl
theorem YH{b:bH}{s:Sc}{i:Int}{r:eL}(h4:s.ch.length=4)(h5:s.tk.length=4):(rH (fK b s i r)).length=10:=by
 unfold fK;split
 ·exact M8 (by simp[h4]) (by simp[h5])
 ·exact M8 (by simp[h4]) (by simp[h5])
theorem aBQ{mb cl:Nat}{es:Array MapEntry}:∀p∈[(mb,Obj.map es cl)],dC p.2:=by
 intro p hp;simp only[bNA,n4,bND]at hp;subst hp;trivial
set_option maxHeartbeats 1000000 in
theorem PP{b:bH}{bv lv cv:Γ}{wb mb:Nat}(hbo:aLN b)(hbv:bv=.agg #[qI b.chairs,qI b.coin,qI b.box,lv,cv]):
  ∀(j i:Nat) (s:Sc) (es:Array MapEntry) (cl:Nat) (Mm:List (xS 9×Bool)) (D:aC),i+j=b.lines.length→bJM b s i→aMJ s→GR b s→Q8 AD Value.bool es Mm→BI b Mm→gK D bv b→At D wb 0 [qI b.chairs,qI b.coin,qI b.box,lv,cv,.map (some mb)]→
  HA prog 226 [qP wb,ZV s,qI (i:Int)] D [(mb,.map es cl)] (fun _ v ν'=>v=.bool (nJ b (b.lines.drop i) i s)∧∃es' cl' M',ν'=[(mb,.map es' cl')]∧Q8 AD Value.bool es' M'∧BI b M'):=by
 subst hbv;intro j;induction j using Nat.strongRecOn with
 |_ j ih=>
 intro i s es cl Mm D hij hsb hsp hsi hM hok hb0 hA;obtain⟨ch,tk,mo,mi⟩:=s;obtain⟨c0,c1,c2,c3,rfl⟩:=PV hsb.lc;obtain⟨k0,k1,k2,k3,rfl⟩:=PV hsb.lt;have hb:=hb0;obtain⟨lv',cv',he,hl,hc⟩:=hb;obtain⟨rfl,rfl⟩:=OQ he;have hl8:=hbo.l8;have hch:=hbo.ch;have hco:=hbo.co;have hbx:=hbo.bx;have hmo:=hsb.mo;have hmi:=hsb.mi;simp only at hmo hmi;show HA _ _ [qP wb,.agg #[qI c0,qI c1,qI c2,qI c3,qI k0,qI k1,qI k2,qI k3,qI mo,qI mi],qI (i:Int)] _ _ _;refine jR 94 func226 rfl rfl rfl rfl fun h0 hwl hwn=>aA<|Zab rfl fun q1 E1 hE1 hB1=>Zk rfl<|bS<|Za5<|bE [] 5 8 48<|Za rfl<|Zao rfl<|Zi rfl zI rfl<|Zam 0 rfl eT dU rfl hA rfl<|Zv rfl lA rfl hB1 eB ?_;refine Za rfl<|Zf rfl (fun D1 hD1=>DX _ b (⟨[c0,c1,c2,c3],[k0,k1,k2,k3],mo,mi⟩:Sc) i _ (hb0.up (hD1 _ Ye)) rfl rfl)<|Zau rfl<|aF<|Zaf rfl (fun hc1=>?_) fun hc1=>?_
 ·refine Wcg ?_;exact Zaj [] [] [_] [_] rfl ⟨rfl,bQK⟩ rfl fun D' hD=>⟨bLE Value.bool (aYS Xbd).symm,es,cl,Mm,rfl,hM,hok⟩
 ·have hcd:iA b (⟨[c0,c1,c2,c3],[k0,k1,k2,k3],mo,mi⟩:Sc) i=true:=by simpa using hc1
  refine aQ<|bM<|Za rfl<|Za rfl<|Zao rfl<|Zi rfl zI rfl<|Zi rfl cS rfl<|Zd 3 rfl fU rfl hA rfl<|Zai rfl U33 rfl hl rfl<|Zaw rfl<|aF<|Zag rfl (fun hc2=>?_) fun hc2=>?_
  ·refine Wcg ?_;exact Zaj [] [] [_] [_] rfl ⟨rfl,bQK⟩ rfl fun D' hD=>⟨bLE Value.bool (aTM hcd hc2).symm,es,cl,Mm,rfl,hM,hok⟩
  ·have hil:i<b.lines.length:=by omega
   obtain⟨z,hz⟩:=cB b.lines i;have hdr:b.lines.drop i=z::b.lines.drop (i+1):=by rw[bMM hil];congr 1;exact bLY ((bLB hil).symm.trans hz)
   refine aQ<|Za5<|mT [] 3 [false,true,true,true,true,true,true,false,true,false] [.fork [0,1,2,4,5] 3 (.fork [] 6 (.fin [7,8]) 8 (.fin [6,7])) 8 (.fin [3,6,7]),.fin [9]] bC (fun _ _ _ h=>kK (P:=prog) (fn:=f226) _ _ _ h) Yg ?_;apply FR (γ:=Nat) (fun _=>True) _ _ _ [.fork [0,1,2,4,5] 3 (.fork [] 6 (.fin [7,8]) 8 (.fin [6,7])) 8 (.fin [3,6,7])] [.fin [9]] rfl
   ·refine qT<|bQ [(false,0),(true,1),(true,2),(true,4),(true,5)] rfl<|Za rfl<|Zi rfl uU rfl<|Zam 0 rfl uO pF rfl hB1 rfl<|Zi rfl uY rfl<|Zam 4 rfl uO pF rfl hB1 rfl<|Zap (dV true true rfl rfl ?_ ?_)
    ·refine Zf rfl (fun D2 hD2=>GB [c0,c1,c2,c3] _ rfl)<|Zap<|bQ [] rfl<|Zap (dV true true rfl rfl ?_ ?_)
     ·refine Zf rfl (fun D3 hD3=>GB [k0,k1,k2,k3] _ rfl)<|Zap<|aV [(false,7),(true,8)] rfl<|kB (cs:=[qI (i:Int),qI (min c0 1),qI (min c1 1),qI (min c2 1),qI (min c3 1),qI (min k0 1),qI (min k1 1),qI (min k2 1),qI (min k3 1)]) rfl NW P7 rfl Yg rfl bQK<|Zad rfl P7 rfl fun q2=>Zap ?_;exact fun a w hh=>⟨q2,bQK,hh⟩
     ·refine Zad rfl P7 rfl fun q2=>Zap<|aV [(true,6),(false,7)] rfl<|Wao ?_;exact fun a w hh=>⟨q2,bQK,hh.weak cR Mm5 aK⟩
    ·refine Zad rfl P7 rfl fun q2=>Zap<|aV [(true,3),(true,6),(false,7)] rfl<|Zf rfl (fun D2 hD2=>GB [c0,c1,c2,c3] _ rfl)<|Wao ?_;exact fun a w hh=>⟨q2,bQK,hh.weak cR Mm5 aK⟩
   rintro q2 -;refine lI [(false,9)] rfl<|Zy rfl CF ζ<|Zap<|mG<|Za1<|Za5<|bE [] 6 11 784<|Za rfl<|Zao rfl<|Zi rfl p7 rfl<|Zd 5 rfl NT rfl hA rfl<|Zae rfl NO rfl Mm0 CF ?_;refine JT (val:=AD (n:=9)) (wal:=Value.bool) (a:=⟨[(i:Int),min c0 1,min c1 1,min c2 1,min c3 1,min k0 1,min k1 1,min k2 1,min k3 1],rfl⟩) rfl U370 aPP pW rfl rfl Mm1 n4 hM rfl bQK fun nv ok hin hout=>Za rfl<|Zaq rfl<|Zaq rfl<|Zk rfl<|Zk rfl<|bK<|Za rfl<|aF<|Zaf rfl (fun hc3=>?_) fun hc3=>?_
   ·obtain⟨r,rfl,hmem⟩:=hin hc3;refine aA<|Za rfl<|Wi ?_;exact Zaj [(_,_)] [] [_] [_] rfl ⟨rfl,bQK⟩ rfl fun D' hD=>⟨bLE Value.bool (hok _ hmem i (⟨[c0,c1,c2,c3],[k0,k1,k2,k3],mo,mi⟩:Sc) hsi hsp rfl rfl),es,cl,Mm,rfl,hM,hok⟩
   ·obtain rfl:=hout hc3;refine aQ<|Za5<|Za5<|iZ [] 3 [0,1,2,3,4,5,6,7,8,9,10,11,14,12,13] [false,false,false,false,true,true,true,true,true,true,true,true,true,true,true] [(false,0),(false,1),(false,2),(false,3),(true,4),(true,5),(true,6),(true,7),(true,8),(true,9),(true,10),(true,11),(true,14),(true,12),(true,13)] bC (fun _ _ _ h=>kK (P:=prog) (fn:=f226) _ _ _ h) Yg rfl<|Za rfl<|Zao rfl<|Zi rfl zI rfl<|Zam 0 rfl eT dU rfl hA rfl<|Za rfl<|Zao rfl<|Zi rfl zI rfl<|Zi rfl cS rfl ?_;refine Zd 3 rfl fU rfl hA rfl<|Za rfl<|Zw rfl U33 cF rfl hl rfl hz fun b1 o1 cs1 hr1 hcl1 hA1=>?_;obtain rfl:cs1=[qI _,qI _,qI _]:=hr1;refine Zv rfl lY rfl hA1 cF<|Za rfl<|Zaa rfl (fun D4 hD4=>I2 _ b z _ (hb0.up (hD4 _ Ye)) Yd) fun v4 D4 hD4 hp4=>?_;have hr:=hp4;have hrl:=hr.len;refine dD rfl U33 rfl Yn rfl rfl bQK<|aF<|Za3<|Zc (Nat×Array MapEntry×Nat×List (xS 9×Bool)) (fun g=>(cX b.chairs z).length-g.1) (fun g=>g.1≤(cX b.chairs z).length∧((cX b.chairs z).take g.1).any (fun r=>bEV b i (⟨[c0,c1,c2,c3],[k0,k1,k2,k3],mo,mi⟩:Sc) r)=false∧Q8 AD Value.bool g.2.1 g.2.2.2∧BI b g.2.2.2) (fun g=>[(63,qI (g.1:Int)),(8,.bool false)]) [(62,_),(61,_),(7,_),(6,_),(4,_),(0,_),(2,_)] (fun g=>[(q2,qC [qI (i:Int),qI (min c0 1),qI (min c1 1),qI (min c2 1),qI (min c3 1),qI (min k0 1),qI (min k1 1),qI (min k2 1),qI (min k3 1)] 433),(mb,.map g.2.1 g.2.2.1)]) (fun g=>[D4,E1,D]) (0,es,cl,Mm) ⟨Ye,rfl,hM,hok⟩ ⟨Ya,Ya,bQK⟩ Mm5 ?_;rintro⟨k,es2,cl2,M2⟩ ⟨h1,hno,hM2,hok2⟩;simp only at h1 hno hM2 hok2;refine aA<|Zan rfl<|bS<|Zag rfl (fun hc4=>?_) (fun hc4=>?_)
    ·simp only at hc4;obtain⟨x,hx⟩:=cB (cX b.chairs z) k;have hin:=((j4 (hbo.ln z (GT hz))).1 (GT hx)).1;refine aQ<|Za5<|Za3<|aA<|Zw rfl U33 cF rfl hr rfl hx fun b2 o2 cs2 hr2 hcl2 hA2=>?_;obtain rfl:cs2=[qI _,qI _,qI _]:=hr2;refine Zv rfl lY rfl hA2 cF<|Zad rfl jM rfl fun q3=>Zy rfl cF ζ<|bS ?_;have hif:(rH (if mB (⟨[c0,c1,c2,c3],[k0,k1,k2,k3],mo,mi⟩:Sc) x=true then(fK b (⟨[c0,c1,c2,c3],[k0,k1,k2,k3],mo,mi⟩:Sc) i x)else(⟨[c0,c1,c2,c3],[k0,k1,k2,k3],mo,mi⟩:Sc))).length=10:=by split;exact YH rfl rfl;rfl
     have hnl:(rH (fK b (⟨[c0,c1,c2,c3],[k0,k1,k2,k3],mo,mi⟩:Sc) i x)).length=10:=YH rfl rfl;refine mT (dN.mk [wb,q1,q3]) 6 [false,false,false,false,true,true,true,true,false,false,true,true,true,false] [.fork [0,1,2,3,4,5,6] 7 (.fin [8,9,10,11]) 11 (.fin [7,8,9,10]),.fin [12,13]] bC (fun _ _ _ h=>kK (P:=prog) (fn:=f226) _ _ _ h) Yg ?_;apply FR (γ:=Nat) (fun _=>True) _ _ _ [.fork [0,1,2,3,4,5,6] 7 (.fin [8,9,10,11]) 11 (.fin [7,8,9,10])] [.fin [12,13]] rfl
     ·refine qT<|bQ [(false,0),(false,1),(false,2),(false,3),(true,4),(true,5),(true,6)] rfl<|Za rfl<|Zao rfl<|Zi rfl zI rfl<|jW rfl (k:=0) eT dU rfl hA Yc rfl rfl (dN.out Ye) rfl bQK<|dG rfl lA rfl hB1 Ym eB (dN.out Ye) rfl bQK<|Za rfl<|bL rfl lY rfl Mm0 cF (dN.out Ye) rfl bQK<|Zap (dV true true rfl rfl ?_ ?_)
      ·refine Zf rfl (fun D5 hD5=>CJ _ b (⟨[c0,c1,c2,c3],[k0,k1,k2,k3],mo,mi⟩:Sc) i x _ (hb0.up (hD5 _ Ye)) rfl rfl Ya9 Ya9 Yd (by show -100000≤mo∧mo≤100000;omega) (by show 0≤mi∧mi≤1000;omega) Yd)<|Zap<|aV [(false,8),(false,9),(true,10),(true,11)] rfl<|Za rfl<|Zaq rfl<|Zaq rfl<|Zad rfl wQ rfl fun q4=>Zap ?_;exact fun a w hh=>⟨q4,bQK,hh⟩
      ·refine Zad rfl wQ rfl (fun q4=>Zap<|aV [(true,7),(false,8),(false,9),(true,10)] rfl<|Zf rfl (fun D5 hD5=>CJ _ b (⟨[c0,c1,c2,c3],[k0,k1,k2,k3],mo,mi⟩:Sc) i x _ (hb0.up (hD5 _ Ye)) rfl rfl Ya9 Ya9 Yd (by show -100000≤mo∧mo≤100000;omega) (by show 0≤mi∧mi≤1000;omega) Yd)<|Za rfl<|Zaq rfl<|Zaq rfl<|Zap ?_);exact fun a w hh=>⟨q4,bQK,hh.weak cR Mm5 aK⟩
     rintro q4 -;refine lI [(true,12),(false,13)] rfl<|kZ hA Ye (fun hap1=>kZ hB1 Ye fun hap2=>bGH fun hnd=>nM (off:=0) (us:=ints (rH (if mB (⟨[c0,c1,c2,c3],[k0,k1,k2,k3],mo,mi⟩:Sc) x=true then(fK b (⟨[c0,c1,c2,c3],[k0,k1,k2,k3],mo,mi⟩:Sc) i x)else(⟨[c0,c1,c2,c3],[k0,k1,k2,k3],mo,mi⟩:Sc)))) (ws:=ints (rH (if mB (⟨[c0,c1,c2,c3],[k0,k1,k2,k3],mo,mi⟩:Sc) x=true then(fK b (⟨[c0,c1,c2,c3],[k0,k1,k2,k3],mo,mi⟩:Sc) i x)else(⟨[c0,c1,c2,c3],[k0,k1,k2,k3],mo,mi⟩:Sc)))) rfl rfl rfl rfl (by rw[show(ints _).length=10 by simp[hif]];exact eB) .head (by simp[hif]) (by simp[hif]) (dI _) (bLG (dN.in_ (bFJ hap1 hap2 hnd))) bQK<|Zk rfl<|Zap<|mG<|Za1<|aA<|Wbc ?_);refine bFU (γ:=Bool×Array MapEntry×Nat×List (xS 9×Bool)) (fun g=>g.1=bEV b i (⟨[c0,c1,c2,c3],[k0,k1,k2,k3],mo,mi⟩:Sc) x∧Q8 AD Value.bool g.2.1 g.2.2.2∧BI b g.2.2.2) (fun g=>g.1) (fun g=>[(q4,qC (ints (rH (if mB (⟨[c0,c1,c2,c3],[k0,k1,k2,k3],mo,mi⟩:Sc) x=true then(fK b (⟨[c0,c1,c2,c3],[k0,k1,k2,k3],mo,mi⟩:Sc) i x)else(⟨[c0,c1,c2,c3],[k0,k1,k2,k3],mo,mi⟩:Sc)))) 242),(q3,qC [qI x.kind,qI x.chair,qI x.token] 206),(q2,qC [qI (i:Int),qI (min c0 1),qI (min c1 1),qI (min c2 1),qI (min c3 1),qI (min k0 1),qI (min k1 1),qI (min k2 1),qI (min k3 1)] 433),(mb,.map g.2.1 g.2.2.1)]) [(false,2),(false,3),(false,4),(false,5),(false,6),(false,7)] [] (s:=79) (p:=85) rfl rfl (fun hg1=>?_) (fun hg1=>?_) ?_
     ·have hgc:=hg1;rw[bLR hgc];refine Zb rfl<|bL (e:=242) (fz:=(0,0)) rfl lA rfl Mm0 (by rw[show(ints _).length=10 by simp[hnl]];exact eB) n4 rfl ⟨_,rfl,rfl⟩<|Zb rfl<|yJ rfl rfl rfl Yf rfl ⟨_,rfl,rfl⟩<|aU ([(_,_),(_,_),(_,_)]++[(_,_)]++([])) rfl<|gH (A:=[(_,_),(_,_),(_,_)]) (ν:=[(_,_)]) (B:=[]) rfl rfl rfl rfl (bLL rfl) aBQ (fun D9 hD9=>ih (j-1) Yd (i+1) (fK b (⟨[c0,c1,c2,c3],[k0,k1,k2,k3],mo,mi⟩:Sc) i x) es2 cl2 M2 _ Yd (aQZ hbo hsb x i) (FO hsp i x) (aQP hsi rfl hgc hin.2.1 (by have:=hin.2.2.1;omega)) hM2 hok2 (hb0.up (hD9 _ Ye)) (hA.up (hD9 _ Ye))) rfl ⟨_,rfl,rfl⟩ (fun v9 D10 _ hD10 hp9=>?_)
      obtain⟨rfl,es3,cl3,M3,rfl,hM3,hok3⟩:=hp9;refine Zak rfl ?_;exact l3 fun a w hh=>⟨(_,es3,cl3,M3),⟨bEW Yn,hM3,hok3⟩,(hh.cutK 5 rfl).ds fun _ h=>bLP _ (h)⟩
     ·refine Wp ?_;exact l3 fun a w hh=>⟨(false,es2,cl2,M2),⟨bJG Yn,hM2,hok2⟩,hh.cutK 5 rfl⟩
     rintro⟨bm,es3,cl3,M3⟩ ⟨hbm,hM3,hok3⟩;simp only at hbm hM3 hok3;refine aF<|Zaf rfl (fun hc5=>?_) fun hc5=>?_
     ·obtain rfl:bm=true:=hc5;have hres:true=nJ b (b.lines.drop i) i (⟨[c0,c1,c2,c3],[k0,k1,k2,k3],mo,mi⟩:Sc):=by rw[hdr,nJ,hcd,bPE];exact(bPI.2 ⟨x,GT hx,hbm.symm⟩).symm
      refine aA<|Zk rfl<|aF<|Za8<|xD rfl<|Za4<|Za4<|Za9<|Za1<|Za5<|bE [] 3 7 48<|Za rfl ?_;refine Zao rfl<|Zi rfl p7 rfl<|Zd 5 rfl NT rfl hA rfl<|Zae rfl NO rfl Mm2 CF<|Za rfl<|x7 (val:=AD (n:=9)) (wal:=Value.bool) (A:=[(_,_),(_,_),(_,_)]) (B:=[]) (a:=⟨[(i:Int),min c0 1,min c1 1,min c2 1,min c3 1,min k0 1,min k1 1,min k2 1,min k3 1],rfl⟩) (n:=true) rfl U370 aPP rfl rfl rfl hM3 bQK fun es9 cl9 M9 hM9 hm9=>aL<|Za rfl<|We ?_;exact Zaj [(_,_),(_,_),(_,_)] [] [_] [_] rfl ⟨rfl,bQK⟩ rfl fun D' hD=>⟨bLE Value.bool hres,es9,cl9,M9,rfl,hM9,hok3.add hm9 rfl hsi hsp rfl hres⟩
     ·obtain rfl:bm=false:=hc5;have hgo:bEV b i (⟨[c0,c1,c2,c3],[k0,k1,k2,k3],mo,mi⟩:Sc) x=false:=hbm.symm;refine Wcf ?_;exact aI 24 (k+1,es3,cl3,M3) ⟨Yl,by simp only;rw[bLA,hx,bOP,hno];simp[hgo],hM3,hok3⟩ Yl ⟨Ya,Ya,bQK⟩ rfl rfl (List.Sublist.cons _ (List.Sublist.cons _ Mm5)) (aK)
    ·obtain rfl:k=(cX b.chairs z).length:=by simp only at hc4;omega
     rw[bLU]at hno;have hres:false=nJ b (b.lines.drop i) i (⟨[c0,c1,c2,c3],[k0,k1,k2,k3],mo,mi⟩:Sc):=by rw[hdr,nJ,hcd];exact hno.symm
     refine Za8<|Za4<|Za4<|Za9<|Za1<|Za5<|bE [] 3 7 48<|Za rfl<|Zao rfl<|Zi rfl p7 rfl<|Zd 5 rfl NT rfl hA rfl<|Zae rfl NO rfl Mm0 CF ?_;refine Za rfl<|x7 (val:=AD (n:=9)) (wal:=Value.bool) (A:=[(_,_)]) (B:=[]) (a:=⟨[(i:Int),min c0 1,min c1 1,min c2 1,min c3 1,min k0 1,min k1 1,min k2 1,min k3 1],rfl⟩) (n:=false) rfl U370 aPP rfl rfl rfl hM2 bQK fun es9 cl9 M9 hM9 hm9=>aL<|Za rfl<|We ?_;exact Zaj [(_,_)] [] [_] [_] rfl ⟨rfl,bQK⟩ rfl fun D' hD=>⟨bLE Value.bool hres,es9,cl9,M9,rfl,hM9,hok2.add hm9 rfl hsi hsp rfl hres⟩
theorem BM(b:bH):bJM b (gN b) 0:=⟨rfl,rfl,by simp[gN],by simp[gN]⟩
theorem y4(b:bH):aMJ (gN b):=⟨fun x hx=>by simp[gN]at hx;omega,fun x hx=>by simp[gN]at hx;omega⟩
theorem AR(bv:Γ)(b:bH)(D:aC)(hb:gK D bv b)(hbo:aLN b):Fn prog 141 #[bv] D (fun _ v=>v=.bool (decide (truths b≠[]))):=by
 have O:=hb;obtain⟨lv,cv,rfl,hl,hc⟩:=hb;refine Zx 10 func141 rfl fun h0=>aA<|Zab rfl fun q1 E1 hJ hB=>Zk rfl<|bS<|mT [] 3 [false,true,true,true,true,true,false,false] [.fork [0,4] 1 (.fork [2] 3 (.fin [5]) 5 (.fin [3])) 5 (.fin [1,2,3]),.fin [6,7]] bC (fun _ _ _ h=>eZ (P:=prog) (fn:=f141) _ _ _ h) Yg<|qT<|bQ [(false,0),(true,4)] rfl<|Zv rfl eT rfl hB dU<|Zv rfl eT rfl hB dU<|Zap (dV true true rfl rfl ?_ ?_)
 ·refine yL rfl rfl bQK (fun qm=>Zap<|bQ [(true,2)] rfl<|kB (cs:=[qI b.chairs,qI b.coin,qI b.box,lv,cv,.map (some qm)]) rfl aEJ aDT rfl Yg rfl bQK<|Zap (dV true true rfl rfl ?_ ?_))
  ·refine Zab rfl fun q2 E2 hE R=>Zap<|aV [(true,5)] rfl<|Zf rfl (fun D1 U=>yB _ b _ (O.up (U _ Ye)))<|Zap<|lI [(false,6),(false,7)] rfl<|gH (A:=[]) (ν:=[(_,_)]) (B:=[]) rfl rfl rfl rfl (bLL rfl) aBQ (fun D9 I=>PP hbo rfl b.lines.length 0 (gN b) #[] 0 [] _ Yd (BM b) (y4 b) (s4 b) rfl BI.nil (O.up (I _ Ye)) (R.up (I _ Ye))) rfl bQK fun v9 D10 _ Y V=>?_;obtain⟨rfl,hF,hH,M3,rfl,hI,Z⟩:=V;refine Zk rfl<|Zap<|mG<|Za1<|IX ?_;exact aE rfl fun D hD=>Xck
  ·refine Zf rfl (fun D1 U=>yB _ b _ (O.up (U _ Ye)))<|Zap<|aV [(true,3)] rfl<|Zab rfl fun q2 E2 hE R=>Zap<|lI [(false,6),(false,7)] rfl<|gH (A:=[]) (ν:=[(_,_)]) (B:=[]) rfl rfl rfl rfl (bLL rfl) aBQ (fun D9 I=>PP hbo rfl b.lines.length 0 (gN b) #[] 0 [] _ Yd (BM b) (y4 b) (s4 b) rfl BI.nil (O.up (I _ Ye)) (R.up (I _ Ye))) rfl bQK fun v9 D10 _ Y V=>?_;obtain⟨rfl,hF,hH,M3,rfl,hI,Z⟩:=V;refine Zk rfl<|Zap<|mG<|Za1<|IX ?_;exact aE rfl fun D hD=>Xck
 ·refine Zf rfl (fun D1 U=>yB _ b _ (O.up (U _ Ye)))<|Zap<|aV [(true,1),(true,2),(true,3)] rfl<|yL rfl rfl bQK fun qm=>kB (cs:=[qI b.chairs,qI b.coin,qI b.box,lv,cv,.map (some qm)]) rfl aEJ aDT rfl Yg rfl bQK<|Zab rfl fun q2 E2 hE R=>Zap<|lI [(false,6),(false,7)] rfl<|gH (A:=[]) (ν:=[(_,_)]) (B:=[]) rfl rfl rfl rfl (bLL rfl) aBQ (fun D9 I=>PP hbo rfl b.lines.length 0 (gN b) #[] 0 [] _ Yd (BM b) (y4 b) (s4 b) rfl BI.nil (O.up (I _ Ye)) (R.up (I _ Ye))) rfl bQK fun v9 D10 _ Y V=>?_;obtain⟨rfl,hF,hH,M3,rfl,hI,Z⟩:=V;refine Zk rfl<|Zap<|mG<|Za1<|IX ?_;exact aE rfl fun D hD=>Xck
theorem JS(bv:Γ)(b:bH)(fine:Bool)(D:aC)(hb:gK D bv b):Fn prog 116 #[bv,.bool fine] D (fun _ v=>v=qI (J6 b fine)):=by
 have I:=hb;obtain⟨lv,cv,rfl,hl,hc⟩:=hb;refine Zx 19 func116 rfl fun h0=>aA<|Zab rfl fun Z E1 Y O=>Zk rfl<|bK<|Zv rfl eT rfl O dU<|Zf rfl (fun D1 R=>B4 _ b _ (I.up (R _ Ye)))<|Zk rfl<|aF<|Za3<|aA<|Za rfl ?_;refine Zax rfl<|Zk rfl<|aF<|Zaf rfl (fun hc1=>?_) fun hc1=>?_
 ·refine aA<|Za rfl<|Zk rfl<|aG<|Za7<|Za2 ?_;exact aE rfl fun D hD=>by show Value.int _ _=_;rw[J6,bLR Xbd]
 ·have U:bB b=0:=by simpa using hc1
  have hbo:=bJT U;refine aA<|Za rfl<|Zau rfl<|Zk rfl<|aF<|Zaf rfl (fun hc2=>?_) fun hc2=>?_
  ·refine Wl ?_;exact aE rfl fun D hD=>by show Value.int _ _=_;rw[J6,bLI Yd,bLR Yav]
  ·refine aA<|Zv rfl eT rfl O dU<|Zf rfl (fun D2 V=>AR _ b _ (I.up (V _ Ye)) hbo)<|Zau rfl<|Zk rfl<|aF<|Zaf rfl (fun hc3=>?_) (fun hc3=>?_)
   ·refine Wl ?_;exact aE rfl fun D hD=>by show Value.int _ _=_;rw[J6,bLI Yd,bLI Yav,bLR Xar]
   ·refine bJ<|Wag ?_;exact aE rfl fun D hD=>by show Value.int _ _=_;rw[J6,bLI Yd,bLI Yav,bLI Xar]
theorem aAS(l x:eL)(D:aC):Fn prog 206 #[EH l,EH x] D (fun _ v=>v=.bool (uH l x)):=by
 refine Zx 39 func206 rfl fun h0=>aA<|Zab rfl fun q1 E1 hB I=>Zab rfl fun q2 E2 hE O=>Zk rfl<|aL<|Zi rfl O7 rfl<|Zd 0 rfl aH rfl I rfl<|Wbd ?_;refine' cT 6 (s:=8) (p:=14) rfl (fun R=>?_) (fun R=>?_) ?_;rotate_left
 ·refine Zj rfl O7 rfl<|Ze 0 rfl aH rfl I rfl<|Zj rfl O7 rfl<|Ze 0 rfl aH rfl O rfl<|Wbm ?_;exact aM 5
 ·refine Wbw ?_;exact aM 5
 refine Za rfl ?_;refine' bW 11 (s:=15) (p:=26) rfl (fun U=>?_) (fun U=>?_) ?_;rotate_left
 ·refine Zj rfl P3 rfl<|Ze 1 rfl aH rfl I rfl<|IQ rfl rfl rfl rfl ⟨_,rfl,rfl⟩<|Zb rfl ?_;refine' cT 6 (s:=19) (p:=25) rfl (fun V=>?_) (fun V=>?_) ?_;rotate_left
  ·refine Zj rfl P3 rfl<|Ze 1 rfl aH rfl I rfl<|Zj rfl P3 rfl<|Ze 1 rfl aH rfl O rfl<|Wap ?_;exact aM 5
  ·refine Zh rfl<|Zh rfl<|Zh rfl<|Wx ?_;exact aM 5
  refine Zak rfl ?_;exact aM 5
 ·refine Zh rfl<|Zh rfl<|Zh rfl<|Zh rfl<|Wbg ?_;exact aM 10
 refine Za rfl ?_;refine' bW 11 (s:=27) (p:=38) rfl (fun Y=>?_) (fun Y=>?_) ?_;rotate_left
 ·refine Zj rfl uP rfl<|Ze 2 rfl aH rfl I rfl<|IQ rfl rfl rfl rfl ⟨_,rfl,rfl⟩<|Zb rfl ?_;refine' cT 6 (s:=31) (p:=37) rfl (fun Z=>?_) (fun Z=>?_) ?_;rotate_left
  ·refine Zj rfl uP rfl<|Ze 2 rfl aH rfl I rfl<|Zj rfl uP rfl<|Ze 2 rfl aH rfl O rfl<|Wap ?_;exact aM 5
  ·refine Zh rfl<|Zh rfl<|Zh rfl<|Wx ?_;exact aM 5
  refine Zak rfl ?_;exact aM 5
 ·refine Zh rfl<|Zh rfl<|Zh rfl<|Zh rfl<|Wbg ?_;exact aM 10
 refine We ?_;exact aE rfl fun D hD=>rfl
def bBP(l:List Cn):List Γ:=l.flatMap fun x=>[qI x.after,qI x.lo,qI x.hi]
theorem bCM(l:List Cn):(bBP l).length=l.length*3:=by
 induction l with
 |nil=>rfl
 |cons c l ih=>unfold bBP at ih ⊢;rw[bMA,GE,ih];simp only[bLF,bNE];omega
theorem bBN{l:List Cn}{i:Nat}{c:Cn}(hi:l[i]?= some c):((bBP l).drop (i*3)).take 3=[qI c.after,qI c.lo,qI c.hi]:=by
  induction l generalizing i with
  |nil=>simp at hi
  |cons d l ih=>
    unfold bBP at ih ⊢
    rw[bMA];cases i with
    | zero => obtain rfl : d = c := by simpa using hi
              rfl
    |succ i=>
      rw[bPH,bMQ Yaq,bMH];have:(i+1)*3- [Value.int .i64 d.after,Value.int .i64 d.lo,Value.int .i64 d.hi].length=i*3:=by simp;omega
      rw[this];exact ih Yau
theorem _root_.Go.Fs.kN.cns{D:aC}{v:Γ}{n:Nat}{l:List Cn}(hF:kN D v n (bBP l))(hn:l.length=n)(hb:n≤9223372036854775807):Sl D tC 3 v l:=
 hF.sl hn hb fun _i _t hi=>⟨_,rfl,rfl,bBN hi⟩
theorem CX{a c:Γ}{x y z:Int}(ha:∀u∈[a],cell1 u=true)(hb:∀u∈[c],cell1 u=true):∀u∈[qI x,qI y,qI z,a,c],cell1 u=true:=by
 intro u hu;simp only[bNA,n4,bND]at hu;rcases hu with rfl|rfl|rfl|rfl|rfl
 ·rfl
 ·rfl
 ·rfl
 ·exact ha _ bKZ
 ·exact hb _ bKZ
end L3
open Go.ChangeShapes Go.WideShapes Go.RowKit
def Q9(W:Δ):aC:=fun b=>match W.heap[b]? with
 |some (.cells cs _ _)=>cs.toList
 |_=>[]
theorem SD(W:Δ){cs:Array Γ}{e:Θ}{fz:Nat×Nat}(h0:W.heap[0]?= some (.cells cs e fz))(hne:cs.toList≠[]):fO (Q9 W) W:=by
 have hf:Q9 W 0=cs.toList:=by unfold Q9;rw[h0]
 refine⟨?_,by rw[hf];exact hne,e,fz,by rw[hf];exact h0⟩;intro b hb;unfold Q9 at hb ⊢
 split at hb
 ·rename_i cs e fz h;exact⟨cs,e,fz,h,List.prefix_refl _⟩
 ·exact absurd rfl hb
theorem Q0{W:Δ}{b i:Nat}{v:Γ}(h:W.cell? ⟨b,i,none⟩=some v):(Q9 W b)[i]?= some v:=by
 unfold World.cell? at h;unfold Q9;split at h
 ·rename_i cs e fz hb;simp only at hb;rw[hb];simpa using h
 ·cases h
structure SA(W W':Δ):Prop where
 env:VX W'=VX W
 size:W.heap.size≤W'.heap.size
 old:∀b,b<W.heap.size→W'.heap[b]?= W.heap[b]?
theorem SA.but{W W':Δ}(h:SA W W')(may:MemPlace→Prop):W.keptBut W' may:=by
 refine⟨bLE Prod.fst h.env,bLE Prod.snd h.env,fun i hi=>?_⟩;rw[h.old i hi];cases W.heap[i]? with
 |none=>rfl
 |some o=>cases o<;>first|exact⟨rfl,rfl,rfl,fun _ _=>rfl⟩|exact Or.inr ⟨rfl,rfl⟩|rfl
theorem SA.frozen{W W':Δ}(h:SA W W'){a:Addr}(hl:a.block<W.heap.size):W'.frozen? a=W.frozen? a:=by
 unfold World.frozen?;rw[h.old _ hl]
theorem SA.same{W W':Δ}(h:SA W W'){p:MemPlace}(hp:p.block<W.heap.size):W.sameAt W' p:=by
 cases p with
 |cell b off=>
  simp only[World.sameAt,World.cell?];rw[h.old b hp]
 |map b=>exact h.old b hp
theorem Fn.calls{P:Program}{f:FuncId}{args:Array Γ}{D:aC}{post:aC→Γ→Prop}(h:Fn P f args D post){W:Δ}(hD:fO D W):
  Calls P f args W fun e W'=>∃v D',e=.returned v∧post D' v∧SA W W':=
 (h.2 W hD).mono (by
  rintro e W' ⟨v,D',he,hs,hp⟩;exact⟨v,D',he,hp,hs.env _ rfl,hs.size,fun b hb=>hs.old b hb Ye⟩)
section
variable{H:Type}{enc:Θ×Γ→H}{P:Program}
theorem R8(hl:laidOutB P=true){W W':Δ}{sp:Nat→Bool}:∀(ts:List Θ) (vs:List Γ) (ds:List (DataW H)) (ps:List MemPlace),(∀t∈ts,P.readableRec t=true∧t<P.types.size)→
  DataW.TrodAll enc P W 0 (fun _=>true) true ts vs ds ps→(∀p∈ps,W.sameAt W' p)→(∀p∈ps,sp p.block=true)→DataW.TrodAll enc P W' 0 sp true ts vs ds ps
 | [],vs,ds,ps,_,h,_,_=>by
  obtain⟨rfl,rfl,rfl⟩:=trodAll_nil h;exact trodAll_mk0
 |t::ts,vs,ds,ps,hr,h,hsame,hs=>by
  obtain⟨v,vs',d,ds',p,q,rfl,rfl,rfl,h1,h2⟩:=trodAll_cons h;exact trodAll_cons_mk (WideElems.Trod_stays hl (hr t bKZ).1 (hr t bKZ).2 h1 (fun x hx=>hsame x (bLH _ hx)) fun x hx=>hs x (bLH _ hx))
   (R8 hl ts vs' ds' q (fun u hu=>hr u (bKY _ hu)) h2 (fun x hx=>hsame x (LE _ hx)) fun x hx=>hs x (LE _ hx))
theorem aGV{f:Func}{s:ChangeSpec}{apart fresh handsOn again:Bool}{W W':Δ}{args:Array Γ}{v:Γ}{ds gs:List (DataW H)}{before pa pv:List MemPlace}(hW:DataW.Whole enc P f.params.toList s.vars apart W args.toList ds gs before)
  (hres:∀(b:Nat) (sp:Nat→Bool) (hd:Bool),DataW.TrodAll enc P W' b sp hd f.resultTypes.toList (v.resultList f.resultTypes.size) (s.fn H (ds++gs)).results [])
  (hargs:∀sp:Nat→Bool,(∀p∈before,sp p.block=true)→DataW.TrodAll enc P W' 0 sp true f.params.toList args.toList (s.fn H (ds++gs)).args pa)
  (hvars:∀sp:Nat→Bool,(∀p∈before,sp p.block=true)→DataW.TrodVars enc P W' sp s.vars (s.fn H (ds++gs)).vars pv)
  (hps:before=pa++pv) (hk:W.keptBut W' (· ∈before)) (hfz:∀a:Addr,a.block<W.heap.size→W'.frozen? a=W.frozen? a)
  (hok:∀(j:Nat) (t:Θ) (r:Γ),f.resultTypes[j]?= some t→(v.resultList f.resultTypes.size)[j]?= some r→Value.okWide P W' .any 0 t r):s.post enc P f apart fresh handsOn again W args v W':=by
 have hold:∀p∈before,(fun b=>decide (b<W.heap.size)) p.block=true:=fun p hp=>by simpa using hW.lt p hp
 have hlt:=hW.lt;refine⟨ds,gs,before,[],pa,pv,hW,hres _ _ _,hargs _ hold,hvars _ hold,World.keptBut_mono (fun p hp=>⟨hp,bLG (by rwa [hps,bLM]at hp)⟩) hk,fun _=>?_⟩;obtain⟨_,_,_,_,_,hz,hn⟩:=hW;refine⟨hok,_,_,([]++pa)++pv,⟨[]++pa,pv,trodAll_append (hargs _ fun _ _=>rfl) (hres _ _ _),hvars _ fun _ _=>rfl,rfl,fun b off hp=>?_,fun ha=>?_⟩,fun p hp _=>?_⟩
 ·have hb:MemPlace.cell b off∈before:=by rw[hps];simpa using hp
  rw[hfz _ (by simpa [MemPlace.block]using hlt _ hb)];exact hz b off hb
 ·have:=hn ha;rw[hps]at this;simpa using this
 ·rw[hps];simpa using hp
theorem aTA{f:Func}{s:ChangeSpec}{tb:Θ}{W W':Δ}{args:Array Γ}{ds gs:List (DataW H)}{before:List MemPlace}(hl:laidOutB P=true)(hp:(f.params.toList.all fun t=>P.readableRec t&&decide (t<P.types.size))=true)(hvars:s.vars=[])
  (hres:f.resultTypes=#[tb]) (htb:P.underlying tb=some .bool) (hW:DataW.Whole enc P f.params.toList s.vars false W args.toList ds gs before) (hs:s.fn H (ds++gs)={results:=[.lit (.bool true)],args:=ds}) (hk:SA W W'):
  s.post enc P f false true false false W args (.bool true) W':=by
 have hlt:=hW.lt;have hW':=hW;obtain⟨p,q,hA,hV,rfl,hfz,hnd⟩:=hW';rw[hvars]at hV;obtain⟨_,rfl⟩:=trodVars_none hV;refine aGV (pa:=p) (pv:=[]) hW (fun b sp hd=>?_) (fun sp hsp=>?_) (fun sp _=>?_) rfl (hk.but _) (fun _=>hk.frozen) (ok_one hres rfl (okWide_bool_mk htb true))
 ·rw[hs,hres];exact trodAll_mk1 (shut_bool htb true)
 ·rw[hs];refine R8 hl _ _ _ _ (fun t ht=>?_) hA (fun x hx=>hk.same (hlt x (bLH _ hx))) fun x hx=>hsp x (bLH _ hx);have:=bLX.1 hp t ht;simpa using this
 ·rw[hs,hvars];rfl

def b7(P:Program)(t:Θ){α:Type}(R:Rd α):Prop:=∀{H:Type} (enc:Θ×Γ→H) (W:Δ) (n:Nat) (cs:List Γ) (x:DataW H×List MemPlace),DataW.trod enc P W 0 (fun _=>true) true n t cs=some x→∃a,R (Q9 W) a cs
def bKS{α:Type}(R:Rd α)(sz:Nat):Rd (List α):=fun D xs cs=>∃v,cs=[v]∧Sl D R sz v xs
theorem b7.slice{t e:Θ}{sz:Nat}{α:Type}{R:Rd α}(ht:P.underlying t=some (.slice e))(hc:P.cellsOf e=sz)(hpos:0<sz)(hel:b7 P e R):b7 P t (bKS R sz):=fun {H} enc W fuel cs x hx=>by
 rcases DataW.trod_slice ht hx with⟨rfl,_⟩|⟨a,len,cap,elems,rest,n,_,rfl,_,_,hl,hm,hlen,hel',_,_⟩
 ·exact⟨[],_,rfl,Sl.nil⟩
 have hm':cap≤9223372036854775807:=by simpa [maxLen]using hm
 have key:∀i,i<len→∃cs,(∃y,R (Q9 W) y cs)∧cs.length=sz∧∀j,j<sz→W.cell? ((a.add (i*sz)).add j)=cs[j]? :=by
  intro i hi;have h1:=hel' i hi;rw[bLB Yd,hc]at h1;simp only[Option.bind_eq_some_iff]at h1;obtain⟨cs,h2,h3⟩:=h1;obtain⟨_,h4,h5⟩:=World.cells?_some h2;exact⟨cs,hel enc W n cs _ h3,h4,h5⟩
 by_cases h0:len=0
 ·subst h0;exact⟨[],_,rfl,some a,cap,rfl,bQA _,Ye,bLL rfl⟩
 have hspot:a=⟨a.block,a.off,none⟩:=by
  obtain⟨cs,_,h2,h3⟩:=key 0 Yd;have h4:=h3 0 hpos;rw[bPG]at h4;simp only[Addr.add,bNM]at h4;rw[bLB (show 0<cs.length by omega)]at h4;unfold World.cell? at h4;split at h4
  ·split at h4
   ·cases h4
   ·rename_i hs;obtain⟨b,o,s⟩:=a;cases s with
    |none=>rfl
    |some=>simp at hs
  ·cases h4
 have pick:∃ys:List α,ys.length=len∧∀i y,ys[i]?= some y→∃cs,R (Q9 W) y cs∧cs.length=sz∧∀j,j<sz→W.cell? ((a.add (i*sz)).add j)=cs[j]? :=by
  refine⟨List.ofFn fun i:Fin len=>(key i.1 i.2).choose_spec.1.choose,Ye,fun i y hy=>?_⟩;rw[List.getElem?_ofFn]at hy;split at hy
  ·rename_i hi;cases hy;exact⟨_,(key i hi).choose_spec.1.choose_spec,(key i hi).choose_spec.2.1,(key i hi).choose_spec.2.2⟩
  ·cases hy
 obtain⟨ys,hys,hy⟩:=pick;refine⟨ys,_,rfl,some a,cap,by rw[hys],Yd,Yd,bLG ⟨a.block,a.off,by rw[←hspot],fun i y hi=>?_⟩⟩;obtain⟨cs,h1,h2,h3⟩:=hy i y hi;refine⟨cs,h1,h2,fun j v hj=>?_⟩;have hjl:=(bLD.1 hj).1;have h4:=h3 j Yd;rw[hj,hspot,iI,iI]at h4;exact Q0 h4
theorem b7.trod{t:Θ}{α:Type}{R:Rd α}(h:b7 P t R){W:Δ}{v:Γ}{d:DataW H}{ps:List MemPlace}(hd:DataW.Trod enc P W 0 (fun _=>true) true t v d ps):∃a,R (Q9 W) a v.cells.toList:=by
 obtain⟨fuel,hf⟩:=hd;exact h enc W fuel _ _ hf
theorem WX{t e:Θ}{α:Type}{R:Rd α}{sz:Nat}(ht:P.underlying t=some (.slice e))(h:b7 P t (bKS R sz)){W:Δ}{r:Reach}{I:Nat}{v:Γ}{d:DataW H}{ps:List MemPlace}(hval:Value.okWide P W r I t v)(hd:DataW.Trod enc P W 0 (fun _=>true) true t v d ps):
  ∃xs,Sl (Q9 W) R sz v xs:=by
 obtain⟨a,len,cap,rfl⟩:=okWide_slice ht hval;obtain⟨xs,u,hc,hs⟩:=h.trod hd;simp only[Value.cells,bNI,and_true]at hc;exact⟨xs,by rw[hc];exact hs⟩
end
namespace L3
open L1
open C3
def bDR(_n:Nat)(l:eL)(k j:Nat)(i:Nat):List eL:=((List.range i).map fun t:Nat=>(⟨1+(k:Int),(j:Int),(t:Int)⟩:eL)).filter (uH l)
def bHY(n:Nat)(l:eL)(k:Nat)(j:Nat):List eL:=(List.range j).flatMap fun c=>bDR n l k c n
def WB(n:Nat)(l:eL)(k:Nat):List eL:=(List.range k).flatMap fun a=>bHY n l a n
def aPJ(n:Nat)(l:eL)(k j:Nat):List eL:=WB n l k++bHY n l k j
def WE(n:Nat)(l:eL)(k j i:Nat):List eL:=aPJ n l k j++bDR n l k j i
theorem aTG{n:Nat}{l:eL}{k:Nat}:aPJ n l k 0=WB n l k:=by unfold aPJ bHY;simp
theorem aSN{n:Nat}{l:eL}{k j:Nat}:WE n l k j 0=aPJ n l k j:=by unfold WE bDR;simp
theorem aZF{n:Nat}{l:eL}{k:Nat}:aPJ n l k n=WB n l (k+1):=by unfold aPJ WB;rw[bMN,bLN,bMC]
theorem bAH{n:Nat}{l:eL}{k j:Nat}:WE n l k j n=aPJ n l k (j+1):=by unfold WE aPJ bHY;rw[bMN,bLN,bMC,bLK]
theorem aYC{n:Nat}{l:eL}{k j i:Nat}(h:uH l ⟨1+(k:Int),(j:Int),(i:Int)⟩=true):WE n l k j (i+1)=WE n l k j i++[⟨1+(k:Int),(j:Int),(i:Int)⟩]:=by
 unfold WE bDR;rw[bMN,bLO,bMJ,bOT,bNN,bLR h,bLK];rfl
theorem bEU{n:Nat}{l:eL}{k j i:Nat}(h:uH l ⟨1+(k:Int),(j:Int),(i:Int)⟩=false):WE n l k j (i+1)=WE n l k j i:=by
 unfold WE bDR;rw[bMN,bLO,bMJ,bOT,bNN,bLI Xaf];simp
theorem aBP{n:Nat}{l:eL}{k j i:Nat}:(bDR n l k j i).length≤i:=by
 unfold bDR;have:=bMO (uH l) ((List.range i).map fun t:Nat=>(⟨1+(k:Int),(j:Int),(t:Int)⟩:eL));simpa using this
theorem aDM{n:Nat}{l:eL}{k j:Nat}:(bHY n l k j).length≤j*n:=by
 unfold bHY;have:=kI (m:=n) (f:=fun c=>bDR n l k c n) (List.range j) fun c _=>aBP
 simpa using this
theorem NR{n:Nat}{l:eL}{k:Nat}(h4:n≤4):(WB n l k).length≤k*16:=by
 unfold WB;have:=kI (m:=16) (f:=fun a=>bHY n l a n) (List.range k) fun a _=>by
  have:=aDM (n:=n) (l:=l) (k:=a) (j:=n);have:n*n≤4*4:=bPS h4 h4;omega
 simpa using this
theorem bBG{n:Nat}{l:eL}{k j i:Nat}(h4:n≤4)(hk:k≤2)(hj:j≤n)(hi:i≤n):(WE n l k j i).length≤60:=by
 unfold WE aPJ;rw[GE,GE];have h1:=NR (n:=n) (l:=l) (k:=k) h4;have h2:=aDM (n:=n) (l:=l) (k:=k) (j:=j);have h3:=aBP (n:=n) (l:=l) (k:=k) (j:=j) (i:=i);have:j*n≤4*4:=bPS Yd h4;omega
theorem OA(bv:Γ)(b:bH)(l:eL)(n:Nat)(D:aC)(hb:gK D bv b)(hn:b.chairs=(n:Int))(h4:n≤4):Fn prog 126 #[bv,EH l] D (fun D' v=>Sl D' oE 3 v (WB n l 2)):=by
 obtain⟨lv,cv,rfl,hl,hc⟩:=hb;refine Zx 39 func126 rfl fun h0=>aA<|Zab rfl fun q1 E1 hJ U=>Zab rfl fun q2 V hK Y=>Zk rfl<|aL<|Zk rfl<|bK<|Zk rfl<|aF<|Za3<|Zc (Nat×Γ×aD) (fun g=>2-g.1) (fun g=>g.1≤2∧bD 254 3 g.2.1 (WB n l g.1).length (A0 (WB n l g.1)) g.2.2) (fun g=>[(5,g.2.1),(6,qI (1+(g.1:Int)))]) [(4,_),(3,_),(2,_)] (fun g=>g.2.2++[]) (fun g=>[V,E1,D]) (0,qN,[]) ⟨Ye,bD.nil⟩ ⟨Ya,Ya,bQK⟩ Mm5 ?_;rintro⟨k,v,ν⟩ ⟨h1,I⟩;simp only at h1 I;refine bM<|Za rfl<|iD rfl rfl rfl rfl bQK<|aF<|Zag rfl (fun hc1=>?_) fun hc1=>?_
 ·simp only at hc1;refine aQ<|Za5<|Za3<|aA<|Zk rfl<|aF<|Za3<|Zc (Nat×Γ×aD) (fun g=>n-g.1) (fun g=>g.1≤n∧bD 254 3 g.2.1 (aPJ n l k g.1).length (A0 (aPJ n l k g.1)) g.2.2) (fun g=>[(5,g.2.1),(7,qI (g.1:Int))]) [(10,_),(9,_),(6,_),(4,_),(3,_),(2,_)] (fun g=>g.2.2++[]) (fun g=>[V,E1,D]) (0,v,ν) ⟨Ye,by rw[aTG];exact I⟩ ⟨Ya,Ya,bQK⟩ Mm5 ?_
  rintro⟨j,w,ν2⟩ ⟨h2,haJ⟩;simp only at h2 haJ;refine bM<|Za rfl<|Zi rfl FI rfl<|Zd 0 rfl aH rfl U rfl<|Zan rfl<|aF<|Zag rfl (fun hc2=>?_) fun hc2=>?_
  ·simp only at hc2;refine aQ<|Za5<|Za3<|aA<|Zk rfl<|aF<|Za3<|Zc (Nat×Γ×aD) (fun g=>n-g.1) (fun g=>g.1≤n∧bD 254 3 g.2.1 (WE n l k j g.1).length (A0 (WE n l k j g.1)) g.2.2) (fun g=>[(5,g.2.1),(8,qI (g.1:Int))]) [(16,_),(15,_),(14,_),(13,_),(7,_),(10,_),(9,_),(6,_),(4,_),(3,_),(2,_)] (fun g=>g.2.2++[]) (fun g=>[V,E1,D]) (0,w,ν2) ⟨Ye,by rw[aSN];exact haJ⟩ ⟨Ya,Ya,bQK⟩ Mm5 ?_
   rintro⟨i,u,ν3⟩ ⟨h3,haI⟩;simp only at h3 haI;refine bM<|Za rfl<|Zi rfl FI rfl<|Zd 0 rfl aH rfl U rfl<|Zan rfl<|aF<|Zag rfl (fun hc3=>?_) fun hc3=>?_
   ·simp only at hc3;refine aQ<|Za5<|Za3<|aA<|Zv rfl aFD rfl Y kC<|Za rfl<|Za rfl<|Za rfl<|Zt [qI (1+(k:Int)),qI (j:Int),qI (i:Int)] rfl CM qO rfl<|Zf rfl (fun D1 hN=>aAS l (⟨1+(k:Int),(j:Int),(i:Int)⟩:eL) _)<|aF<|Zaf rfl (fun O=>?_) (fun O=>?_)
    ·have hag:uH l (⟨1+(k:Int),(j:Int),(i:Int)⟩:eL)=true:=O;refine aP<|Za rfl<|Za rfl<|Za rfl<|Za rfl<|Zt [qI (1+(k:Int)),qI (j:Int),qI (i:Int)] rfl CM qO rfl<|Zu rfl U57 kC qO rfl (.cons rfl rfl .nil) fun hH hI Z R=>?_;have hli:=bBG (n:=n) (l:=l) (k:=k) (j:=j) (i:=i) Yd Yd Yd Yd;refine aR (A:=[]) (B:=[]) rfl U57 rfl rfl kC qO rfl CP rfl rfl rfl haI (iL.lit R) Ye rfl (DL _) Yk Yd (bLL rfl) rfl bQK fun v7 ν7 hB=>?_;have hE:bD 254 3 v7 (WE n l k j (i+1)).length (A0 (WE n l k j (i+1))) ν7:=by rw[aYC hag];simpa [A0]using hB
     refine Wz ?_;exact aI 23 (i+1,v7,ν7) ⟨Yl,hE⟩ Yl ⟨Ya,Ya,bQK⟩ rfl rfl Mm5 fun D h=>⟨D,bLP _ (h),Le.refl D⟩
    ·have hag:uH l (⟨1+(k:Int),(j:Int),(i:Int)⟩:eL)=false:=O;refine Wbv ?_;exact aI 15 (i+1,u,ν3) ⟨Yl,by simp only;rw[bEU hag];exact haI⟩ Yl ⟨Ya,Ya,bQK⟩ rfl rfl Mm5 (aK)
   ·have hi:i=n:=by simp only at hc3;omega
    rw[hi,bAH]at haI;refine Wbq ?_;exact aI 14 (j+1,u,ν3) ⟨Yl,haI⟩ Yl ⟨Ya,Ya,bQK⟩ rfl rfl Mm5 (aK)
  ·have hj:j=n:=by simp only at hc2;omega
   rw[hj,aZF]at haJ;refine Wbq ?_;exact aI 12 (k+1,w,ν2) ⟨Yl,haJ⟩ Yl ⟨rfl,(by first|rfl|(show some (Value.int _ _)=some (Value.int _ _);congr 2;push_cast;omega)),bQK⟩ rfl rfl Mm5 (aK)
 ·have hk:k=2:=by simp only at hc1;omega
  rw[hk]at I;refine Za8<|Za4<|Za4<|Za9<|Za1<|aA<|Za rfl<|Zk rfl<|aG<|Zar [] [] I rfl fun D2 hO hF=>?_;exact aE rfl fun D hD=>(hF.lins rfl (by have:=NR (l:=l) (k:=2) h4;omega)).up oE.up (hD _ Ye)
def X5(n:Nat)(ls:List eL):Int:=ls.foldl (fun(m:Int) l=>min 5000 (m*((WB n l 2).length:Int))) 1
theorem YD{n:Nat}{ls:List eL}{i:Nat}{x:eL}(hx:ls[i]?= some x):X5 n (ls.take (i+1))=min 5000 (X5 n (ls.take i)*((WB n x 2).length:Int)):=by
 unfold X5;rw[bLA,hx,bLT,bMT];rfl
theorem aPA(n:Nat)(ls:List eL):0≤X5 n ls∧X5 n ls≤5000:=by
 unfold X5;have key:∀(l:List eL) (m:Int),0≤m∧m≤5000→0≤l.foldl (fun(m:Int) l=>min 5000 (m*((WB n l 2).length:Int))) m∧l.foldl (fun(m:Int) l=>min 5000 (m*((WB n l 2).length:Int))) m≤5000:=by
  intro l;induction l with
  |nil=>intro m h;exact h
  |cons x l ih=>
   intro m h;rw[bME];refine ih _ ⟨?_,Yd⟩;have:0≤m*((WB n x 2).length:Int):=bQH h.1 Yd;omega
 exact key ls 1 Yd
theorem aXW{m:Int}{k:Nat}(h:0≤m∧m≤5000)(hk:k≤2*16):wD .i64 (m*(k:Int)):=by
 have h1:0≤m*(k:Int):=bQH h.1 Yd;have h2:m*(k:Int)≤5000*32:=Int.mul_le_mul h.2 Yd Yd Yd;simp only[wD];omega
theorem K8(bv:Γ)(b:bH)(n:Nat)(D:aC)(hb:gK D bv b)(hn:b.chairs=(n:Int))(h4:n≤4):Fn prog 56 #[bv] D (fun _ v=>v=qI (X5 n b.lines)):=by
 have R:=hb;obtain⟨lv,cv,rfl,hl,hc⟩:=hb;have hll:=hl.len;refine Zx 24 func56 rfl fun h0=>aA<|Zab rfl fun q1 E1 hE I=>Zk rfl<|aL<|Zk rfl<|bK<|Zk rfl<|aF<|Za3<|dW (γ:=Nat) (fun k=>b.lines.length-k) (fun k=>k≤b.lines.length) (fun k=>[(4,qI (k:Int)),(3,qI (X5 n (b.lines.take k)))]) [(2,_),(1,_)] (fun k=>[E1,D]) 0 Yd ⟨Ya,Ya,bQK⟩ cR (aK) ?_;rintro k h1;refine bM<|Za rfl<|Zi rfl iC rfl<|Zd 3 rfl qW rfl I rfl<|Zai rfl U57 rfl hl rfl<|Zan rfl<|aF<|Zag rfl (fun hc1=>?_) fun hc1=>?_
 ·have hk:k<b.lines.length:=by omega
  obtain⟨x,hx⟩:=cB b.lines k;refine aQ<|Za5<|Za3<|bE [] 7 12 510<|Za rfl<|Zv rfl aAU rfl I EO<|Zi rfl iC rfl<|Zd 3 rfl qW rfl I rfl<|Za rfl<|Zw rfl U57 kC rfl hl rfl hx fun b1 o1 U V hB Y=>?_;obtain rfl:U=[qI _,qI _,qI _]:=V;refine Zv rfl aFD rfl Y kC<|Zaa rfl (fun D1 O=>OA _ b x n _ (R.up (O _ Ye)) hn h4) fun v1 D1 O Z=>?_;have hr:=Z;have hrl:=NR (l:=x) (k:=2) h4;have hmk:=aPA n (b.lines.take k);refine Zai rfl U57 rfl hr rfl<|AO rfl rfl rfl (aXW hmk hrl) rfl bQK<|OX rfl rfl rfl rfl bQK<|Wz ?_;exact aI 22 (k+1) Yd Yd ⟨Ya,(by rw[YD hx];rfl),bQK⟩ rfl rfl Mm5 fun D h=>⟨D,bLP _ (h),Le.refl D⟩
 ·obtain rfl:k=b.lines.length:=by omega
  rw[bLU];refine Wn ?_;exact aE rfl fun D hD=>rfl
end L3
end Go.Fs
