/- Of the proof of BookAgain: SW3, SW4, SW5, Pair, Pairs, Nu, Mend, SW6, SW7, SW8, UW3, UW4, UW5, UW6, UW7, V1. -/
import Derived.Test.YtelhnbcdablgoaaGreatDoorZBookAgainAE
import Derived.Test.YtelhnbcdablgoaaGreatDoorZBookAgainAC
import Derived.Test.YtelhnbcdablgoaaGreatDoorZBookAgainAD
namespace Go.Fs
open Go.Proofs
namespace L7
open C7
def FE(l:List Int):Nat:=(l.filter fun n=>decide (n=2)).length
theorem aDG(l:List Int):FE l≤l.length:=aPD _ _
theorem aHA(l:List Ch):iZ l≤3*l.length:=by
 induction l with
 |nil=>simp[iZ]
 |cons c l ih=>
  have:aIE c.parts≤3:=aPD _ _;simp only[iZ,aMZ,List.sum_cons,aMI]at ih ⊢
  omega
theorem VD{l:List Ch}{i:Nat}{x:Ch}(hx:l[i]?= some x):((iZ (l.take (i+1)):Nat):Int)=((iZ (l.take i)+FE (x.parts.l.take 3):Nat):Int):=by
 rw[aMN,hx];simp[iZ,aIE,FE,Pt.l]
theorem aDM{x:Ch}{k:Nat}{n:Int}(hx:iF x=true)(hn:x.parts.l[k]?= some n):0≤n∧n≤2:=by
 simp only[iF,aMC,LQ,aMU]at hx;have:=hx.2 n (aLW hn);simpa [fP]using this
theorem OB{l:List Int}{k u:Nat}{n:Int}(hn:l[k]?= some n)(h:0≤n∧n≤2):((u+FE (l.take (k+1)):Nat):Int)=((u+FE (l.take k):Nat):Int)+n / 2:=by
 rw[aMN,hn];simp only[FE,aOD,aOX,aLY];by_cases h2:n=2
 ·subst h2;simp;omega
 ·simp[h2];omega
theorem ZH{y:bJ}(h:(decide ((7:Int)<y.chairs.length)||decide ((5:Int)<y.claims.length))=true):aU y=3:=by
 simp only[aNR,aMV]at h;unfold aU;rw[aMT Yd]
theorem AC{y:bJ}(h:(decide ((7:Int)<y.chairs.length)||decide ((5:Int)<y.claims.length))=false):¬(7<y.chairs.length∨5<y.claims.length):=by
 simp only[aOM,aNV]at h;omega
theorem aJG{y:bJ}(h:(decide ((7:Int)<y.chairs.length)||decide ((5:Int)<y.claims.length))=false)(h2:((!fP y.fit 0 9|| !y.chairs.all iF)|| !y.claims.all lC)=true):aU y=1:=by
 unfold aU;rw[aMM (AC h),aMT]
 revert h2;unfold wN
 generalize fP y.fit 0 9=a,y.chairs.all iF=b,y.claims.all lC=c;cases a<;>cases b<;>cases c<;>decide
theorem HI{y:bJ}(h2:((!fP y.fit 0 9|| !y.chairs.all iF)|| !y.claims.all lC)=false):wN y=true:=by
 revert h2;unfold wN
 generalize fP y.fit 0 9=a,y.chairs.all iF=b,y.claims.all lC=c;cases a<;>cases b<;>cases c<;>decide
theorem aKK{y:bJ}(h:(decide ((7:Int)<y.chairs.length)||decide ((5:Int)<y.claims.length))=false)(h2:((!fP y.fit 0 9|| !y.chairs.all iF)|| !y.claims.all lC)=false):y.chairs.length≤7∧∀x∈y.chairs,iF x=true:=by
 have h3:=HI h2;simp only[wN,aMC,aMU]at h3;have:=AC h;exact⟨by omega,h3.1.2⟩
theorem aFB{y:bJ}(h:(decide ((7:Int)<y.chairs.length)||decide ((5:Int)<y.claims.length))=false)(h2:((!fP y.fit 0 9|| !y.chairs.all iF)|| !y.claims.all lC)=false)(h3:(8:Int)<iZ y.chairs):aU y=3:=by
 unfold aU;rw[aMM (AC h),aMM (by rw[HI h2];simp),aMT Yd]
theorem aDW{y:bJ}(h:(decide ((7:Int)<y.chairs.length)||decide ((5:Int)<y.claims.length))=false)(h2:((!fP y.fit 0 9|| !y.chairs.all iF)|| !y.claims.all lC)=false)(h3:¬(8:Int)<iZ y.chairs):aU y=0:=by
 unfold aU;rw[aMM (AC h),aMM (by rw[HI h2];simp),aMM Yd]
theorem aIJ{p:Pt}{k:Nat}{m:Int}(h:p.l[k]?= some m):([.int .i64 p.a,.int .i64 p.b,.int .i64 p.c]:List Value)[k*1]?= some (.int .i64 m):=by
 rw[aPE,show([.int .i64 p.a,.int .i64 p.b,.int .i64 p.c]:List Value)=p.l.map (Value.int .i64)from rfl,aNB,h];rfl
theorem rY(yv:Value)(y:bJ)(D:aA)(hy:kR D yv y):Fn Tryz.prog 96 #[yv] D (fun _ v=>v=.int .i64 (aU y)):=by
 have hy0:=hy;obtain⟨cv,qv,rfl,hc,hq⟩:=hy;refine enter 60 Tryz.func96 rfl rfl rfl rfl fun h0=>C.s1<|Zt rfl (fun q1 E1 hE1 hB1=>Zi rfl<|L.n3<|Zq rfl Tf.a40 rfl hB1 Tf.s40<|bH rfl rfl rfl rfl trivial<|Zi rfl<|L.n2<|Zai<|C.s1<|Zj rfl Tf.f40_0 rfl ?_);refine Zc 0 rfl Tf.a37 rfl hB1 rfl<|aO rfl U37 rfl hc rfl rfl trivial<|dZ rfl rfl rfl rfl trivial<|Za rfl ?_
 refine' L.orK 5 (s:=16) (p:=21) rfl (fun hg1=>?_) (fun hg1=>?_) ?_;rotate_left
 ·refine Zk rfl Tf.f40_2 rfl<|Zd 2 rfl Tf.a38 rfl hB1 rfl<|aO rfl U38 rfl hq rfl rfl ⟨_,rfl,rfl⟩<|dZ rfl rfl rfl rfl ⟨_,rfl,rfl⟩<|Zz rfl ?_;exact L.cu 4
 ·refine Zh rfl<|Zh rfl<|Zh rfl<|Zh rfl<|Zy rfl ?_;exact L.cu 4
 refine Zi rfl<|L.n1<|aI rfl (fun hc1=>?_) (fun hc1=>?_)
 ·refine C.s1<|Zi rfl<|L.n5<|Zal<|Zah ?_;exact leave1 rfl rfl rfl rfl (fun D hD=>by show Value.int _ _=_;rw[ZH hc1])
 ·refine C.s1<|Zj rfl Tf.f40_1 rfl<|Zc 1 rfl Tf.a3 rfl hB1 rfl<|Ze rfl (fun D1 hD1=>dR _ _ _ _)<|Zae rfl<|Za rfl ?_;refine' L.orK 5 (s:=27) (p:=32) rfl (fun hg2=>?_) (fun hg2=>?_) ?_;rotate_left
  ·refine Zk rfl Tf.f40_0 rfl<|Zd 0 rfl Tf.a37 rfl hB1 rfl<|Zf rfl (fun D2 hD2=>l7 _ _ _ iF _ (Sl.at sK.up hD2 Yk Ye) (.of fun x D2=>U8 x D2) rfl)<|jD rfl rfl rfl ⟨_,rfl,rfl⟩<|Zz rfl ?_;exact L.cu 4
  ·refine Zh rfl<|Zh rfl<|Zh rfl<|Zh rfl<|Zy rfl ?_;exact L.cu 4
  refine Za rfl ?_;refine' L.orK 6 (s:=33) (p:=39) rfl (fun hg3=>?_) (fun hg3=>?_) ?_;rotate_left
  ·refine Zk rfl Tf.f40_2 rfl<|Zd 2 rfl Tf.a38 rfl hB1 rfl<|Zb rfl<|Zf rfl (fun D3 hD3=>s7 _ _ _ lC _ (Sl.at R2.up hD3 Yk Ye) ⟨_,[_],[],rfl,fun r D2 hl=>aAY _ y r D2 (hy0.up ((hD3 _ Ye).trans hl))⟩ rfl)<|jD rfl rfl rfl ⟨_,rfl,rfl⟩<|Zz rfl ?_;exact L.cu 5
  ·refine Zh rfl<|Zh rfl<|Zh rfl<|Zh rfl<|Zh rfl<|Zy rfl ?_;exact L.cu 5
  refine Zi rfl<|L.n1<|aI rfl (fun hc2=>?_) (fun hc2=>?_)
  ·refine C.s1<|Zi rfl<|L.n5<|Zal<|Zah ?_;exact leave1 rfl rfl rfl rfl (fun D hD=>by show Value.int _ _=_;rw[aJG hc1 hc2])
  ·obtain⟨hl7,hok⟩:=aKK hc1 hc2;refine bB<|Zak<|Zag<|C.s1<|Zi rfl<|L.n4<|Zj rfl Tf.f40_0 rfl<|Zc 0 rfl Tf.a37 rfl hB1 rfl<|aO rfl U37 rfl hc rfl rfl trivial<|Za rfl<|L.n1<|Zai ?_;refine bT (γ:=Nat) (fun i=>y.chairs.length-i) (fun i=>i≤y.chairs.length) (fun i=>[(43,.int .i64 (i:Int)),(4,.int .i64 (iZ (y.chairs.take i):Int))]) [(42,_),(41,_),(2,_)] (fun i=>[E1,D]) 0 Yd ⟨Ya,(by simp[iZ];rfl),cW⟩ C.rs (aD) ?_
   rintro i h1;refine C.s1<|Zac rfl<|L.n2<|aE rfl (fun hc3=>?_) (fun hc3=>?_)
   ·have hi:i<y.chairs.length:=by omega
    obtain⟨x,hx⟩:=C.ge y.chairs i;have hxo:=hok x (aLW hx);have hub:=aHA (y.chairs.take i);have hut:(y.chairs.take i).length≤i:=aQR _ _;refine C.kn<|aK<|Zai<|C.s1<|Zp rfl U37 Tf.s103 rfl hc rfl hx (fun b1 o1 cs1 hr1 hcl1 hA1=>?_);obtain rfl:cs1=[.int .i64 _,.int .i64 _,.int .i64 _,.int .i64 _]:=hr1;refine Zq rfl Tf.a103 rfl hA1 Tf.s103<|Zv rfl Tf.z103 rfl (fun q2=>Zu rfl Tf.s103 (bS.head)<|L.n3<|Zj rfl Tf.f103_1 rfl<|dM rfl Tf.a101 Tf.s101 rfl (List.Mem.head _) rfl rfl GT rfl trivial<|Za rfl<|L.n1<|Zai<|bT (γ:=Nat) (fun k=>3-k) (fun k=>k≤3) (fun k=>[(49,.int .i64 (k:Int)),(4,.int .i64 ((iZ (y.chairs.take i)+FE (x.parts.l.take k):Nat):Int))]) [(48,_),(47,_),(6,_),(46,_),(45,_),(44,_),(43,_),(42,_),(41,_),(2,_)] (fun k=>[E1,D]) 0 Yd ⟨Ya,(by simp[FE];rfl),cW⟩ C.rs (aD) ?_)
    rintro k h2;refine C.s1<|Zac rfl<|L.n2<|aE rfl (fun hc4=>?_) (fun hc4=>?_)
    ·have hk3:k<3:=by omega
     obtain⟨n,hn⟩:∃n,x.parts.l[k]?= some n:=⟨_,LE (by simp[Pt.l];omega)⟩
     have hn2:=aDM hxo hn;have hkl:=aDG (x.parts.l.take k);have hkt:(x.parts.l.take k).length≤k:=aQR _ _;refine C.kn<|aK<|Zai<|C.s1<|R6 (l:=x.parts.l) rfl U101 Tf.a3 Tf.s3 rfl rfl Yd Yd hn rfl trivial<|Zi rfl<|L.n1<|C.rg<|Za rfl<|Za rfl<|DU rfl rfl rfl Yd Yd Yf rfl trivial<|Zw rfl ?_;refine Zi rfl<|Zaa<|Zak<|Zag<|C.rg<|Zw rfl<|Za rfl<|Zaa ?_;exact aG 12 (k+1) Yd Yd ⟨Ya,(by rw[OB hn hn2];rfl),cW⟩ rfl rfl (LT _) (aD)
    ·obtain rfl:k=3:=by omega
     refine aP<|Zaj<|Zaj<|Zam<|Zak<|Zag<|C.rg<|Zw rfl<|Za rfl<|Zaa ?_;exact aG 12 (i+1) Yd Yd ⟨Ya,(by rw[VD hx];rfl),cW⟩ rfl rfl (List.Sublist.cons _ (LT _)) (aD)
   ·obtain rfl:i=y.chairs.length:=by omega
    rw[aNL];refine aP<|Zaj<|Zaj<|Zam<|Zag<|C.s2<|Za rfl<|dZ rfl rfl rfl rfl trivial<|L.n1<|aE rfl (fun hc5=>?_) (fun hc5=>?_)
    ·refine C.s1<|Zi rfl<|L.n5<|Zah ?_;exact leave1 rfl rfl rfl rfl (fun D hD=>by show Value.int _ _=_;rw[aFB hc1 hc2 hc5])
    ·refine C.kn<|C.s1<|Zi rfl<|L.n5 ?_;exact leave1 rfl rfl rfl rfl (fun D hD=>by show Value.int _ _=_;rw[aDW hc1 hc2 hc5])
end L7
end Go.Fs
namespace Go.Fs
open Go.Proofs
namespace L7
open C7
def g8(p:Pt):Prop:=(0≤p.a∧p.a≤1)∧(0≤p.b∧p.b≤1)∧(0≤p.c∧p.c≤1)
def KN(p q:Pt):Bool:=(!iY p&& !iY q)&&iY ⟨max p.a q.a,max p.b q.b,max p.c q.c⟩
def BK(f:Int)(x z:Ch):Bool:=fP (x.size-z.size) (-f) f
theorem VF(p q:Pt)(D:aA)(hp:g8 p)(hq:g8 q):Fn Tryz.prog 244 #[aKU p,aKU q] D (fun _ v=>v=.bool (KN p q)):=by
 refine enter 32 Tryz.func244 rfl rfl rfl rfl fun h0=>C.s1<|Zt rfl (fun q1 E1 hE1 hB1=>Zt rfl (fun q2 E2 hE2 hB2=>Zi rfl<|L.n3<|cU rfl Tf.a101 rfl hB1 Yc Yz GT rfl trivial<|Ze rfl (fun D1 hD1=>xZ p _)<|Zae rfl<|Za rfl ?_))
 refine' L.anK 4 (s:=8) (p:=12) rfl (fun hg1=>?_) (fun hg1=>?_) ?_;rotate_left
 ·refine cU rfl Tf.a101 rfl hB2 Yc Yz GT rfl ⟨_,rfl,rfl⟩<|Zf rfl (fun D2 hD2=>xZ q _)<|jD rfl rfl rfl ⟨_,rfl,rfl⟩<|Zy rfl ?_;exact L.cu 3
 ·refine Zh rfl<|Zh rfl<|Zh rfl<|Zz rfl ?_;exact L.cu 3
 refine Za rfl ?_;refine' L.anK 18 (s:=13) (p:=31) rfl (fun hg2=>?_) (fun hg2=>?_) ?_;rotate_left
 ·refine dO rfl U101 Tf.s3 rfl rfl Yu Yu rfl ⟨_,rfl,rfl⟩<|gM rfl Tf.a3 rfl hB1 Ye rfl GT rfl ⟨_,rfl,rfl⟩<|dO rfl U101 Tf.s3 rfl rfl Yu Yu rfl ⟨_,rfl,rfl⟩<|gM rfl Tf.a3 rfl hB2 Ye rfl GT rfl ⟨_,rfl,rfl⟩<|JK rfl rfl rfl hp.1 hq.1 rfl ⟨_,rfl,rfl⟩<|dO rfl U101 Tf.s3 rfl rfl Yu Yu rfl ⟨_,rfl,rfl⟩<|gM rfl Tf.a3 rfl hB1 Ye rfl GT rfl ⟨_,rfl,rfl⟩<|dO rfl U101 Tf.s3 rfl rfl Yu Yu rfl ⟨_,rfl,rfl⟩<|gM rfl Tf.a3 rfl hB2 Ye rfl GT rfl ⟨_,rfl,rfl⟩<|JK rfl rfl rfl hp.2.1 hq.2.1 rfl ⟨_,rfl,rfl⟩<|dO rfl U101 Tf.s3 rfl rfl Yu Yu rfl ⟨_,rfl,rfl⟩<|gM rfl Tf.a3 rfl hB1 Ye rfl GT rfl ⟨_,rfl,rfl⟩ ?_;refine dO rfl U101 Tf.s3 rfl rfl Yu Yu rfl ⟨_,rfl,rfl⟩<|gM rfl Tf.a3 rfl hB2 Ye rfl GT rfl ⟨_,rfl,rfl⟩<|JK rfl rfl rfl hp.2.2 hq.2.2 rfl ⟨_,rfl,rfl⟩<|O7 (cs:=[.int .i64 (max p.a q.a),.int .i64 (max p.b q.b),.int .i64 (max p.c q.c)]) rfl U101 Tf.s3 Tf.z101 rfl rfl rfl ⟨_,rfl,rfl⟩<|Zf rfl (fun D3 hD3=>xZ ⟨max p.a q.a,max p.b q.b,max p.c q.c⟩ _)<|Zy rfl ?_;exact L.cu 17
 ·refine Zh rfl<|Zh rfl<|Zh rfl<|Zh rfl<|Zh rfl<|Zh rfl<|Zh rfl<|Zh rfl<|Zh rfl<|Zh rfl<|Zh rfl<|Zh rfl ?_;refine Zh rfl<|Zh rfl<|Zh rfl<|Zh rfl<|Zh rfl<|Zz rfl ?_;exact L.cu 17
 refine Zi rfl<|L.n5 ?_;exact leave1 rfl rfl rfl rfl (fun D hD=>rfl)
theorem I3(yv:Value)(y:bJ)(a b:Nat)(x z:Ch)(D:aA)(hy:kR D yv y)(hf:0≤y.fit∧y.fit≤9)(hx:y.chairs[a]?= some x)(hz:y.chairs[b]?= some z)(hxs:0≤x.size∧x.size≤9)(hzs:0≤z.size∧z.size≤9):Fn Tryz.prog 103 #[yv,.int .i64 (a:Int),.int .i64 (b:Int)] D (fun _ v=>v=.bool (BK y.fit x z)):=by
 obtain⟨cv,qv,rfl,hc,hq⟩:=hy;refine enter 26 Tryz.func103 rfl rfl rfl rfl fun h0=>C.s1<|Zt rfl (fun q1 E1 hE1 hB1=>Zi rfl<|L.n2<|C.drawA [] 6 20 257988 (fun _ _ _ h=>bP (P:=Tryz.prog) (fn:=Tryz.f103) _ _ _ h)<|Zj rfl Tf.f40_0 rfl<|Zc 0 rfl Tf.a37 rfl hB1 rfl<|Za rfl<|Zp rfl U37 Tf.s103 rfl hc rfl hx (fun b1 o1 cs1 hr1 hcl1 hA1=>?_))
 obtain rfl:cs1=[.int .i64 _,.int .i64 _,.int .i64 _,.int .i64 _]:=hr1;refine Zj rfl Tf.f103_0 rfl<|Zc 0 rfl Tf.a3 rfl hA1 rfl<|Zj rfl Tf.f40_0 rfl<|Zc 0 rfl Tf.a37 rfl hB1 rfl<|Za rfl<|Zp rfl U37 Tf.s103 rfl hc rfl hz (fun b2 o2 cs2 hr2 hcl2 hA2=>?_);obtain rfl:cs2=[.int .i64 _,.int .i64 _,.int .i64 _,.int .i64 _]:=hr2;refine Zj rfl Tf.f103_0 rfl<|Zc 0 rfl Tf.a3 rfl hA2 rfl<|gH rfl rfl rfl Yf rfl trivial<|Zj rfl Tf.f40_1 rfl<|Zc 1 rfl Tf.a3 rfl hB1 rfl<|aFW rfl rfl Yf rfl trivial<|Zj rfl Tf.f40_1 rfl<|Zc 1 rfl Tf.a3 rfl hB1 rfl<|Ze rfl (fun D1 hD1=>dR _ _ _ _)<|Zi rfl<|L.n5 ?_;exact leave1 rfl rfl rfl rfl (fun D hD=>rfl)
end L7
end Go.Fs
namespace Go.Fs
open Go.Proofs
namespace L7
open C7
def hC(p:Nat→Bool):Nat→Nat
 |0=>0
 |n+1=>if p n=true then hC p n|||2^n else hC p n
theorem qW(p:Nat→Bool):∀n i,(hC p n).testBit i=(decide (i<n)&&p i)
 |0,i=>by simp[hC]
 |n+1,i=>by
  unfold hC;split
  ·rename_i h;rw[Nat.testBit_or,qW p n i,Nat.testBit_two_pow];by_cases hi:n=i
   ·subst hi;simp[h]
   ·have:(i<n+1)=(i<n):=by rw[eq_iff_iff];omega
    simp[hi,this]
  ·rename_i h;rw[qW p n i];by_cases hi:n=i
   ·subst hi;simp[h]
   ·have:(i<n+1)=(i<n):=by rw[eq_iff_iff];omega
    simp[this]
theorem p9(p:Nat→Bool)(n:Nat):hC p n<2^n:=by
 apply Nat.lt_pow_two_of_testBit;intro i hi;rw[qW];have:¬i<n:=by omega
 simp[this]
def kE(t:List Pt)(i:Nat):Bool:=match t[i]? with|some p=> !iY p|none=>false
def mY(y:bJ)(t:List Pt)(i k:Nat):Bool:=match t[i]?,t[k]?,y.chairs[i]?,y.chairs[k]? with
 |some p,some q,some x,some z=>(decide ((k:Int)≠i)&&BK y.fit x z)&&KN p q
 |_,_,_,_=>false
theorem UJ{y:bJ}{t:List Pt}{i k:Nat}{z q:Pt}{x1 x2:Ch}(hz:t[i]?= some z)(hq:t[k]?= some q)(hx1:y.chairs[i]?= some x1)(hx2:y.chairs[k]?= some x2):mY y t i k=((decide ((k:Int)≠i)&&BK y.fit x1 x2)&&KN z q):=by
 unfold mY;rw[hz,hq,hx1,hx2]
def eJ(y:bJ)(t:List Pt)(i k:Nat):List Nat:=(List.range 7).map fun j=>if j<i then hC (mY y t j) t.length else if j=i then hC (mY y t i) k else 0
structure Sc where
 whole:Nat
 broken:Nat
 fits:List Nat
deriving DecidableEq
def dQ(y:bJ)(t:List Pt):Sc:=⟨whole t,hC (kE t) t.length,(List.range 7).map fun j=>hC (mY y t j) t.length⟩
def I8(w b:Nat)(rows:List Nat):List Value:=.int .i64 (w:Int)::.int .i64 (b:Int)::rows.map fun(n:Nat)=>Value.int .i64 (n:Int)
def GO(s:Sc):Value:=.agg (I8 s.whole s.broken s.fits).toArray
theorem aBF(w b:Nat)(rows:List Nat):∀u∈I8 w b rows,cell1 u=true:=by
 intro u hu;unfold I8 at hu;simp only[aLX,aMB]at hu;rcases hu with rfl|rfl|⟨n,_,rfl⟩<;>rfl
theorem aEG{y:bJ}{t:List Pt}{j:Nat}(h:t.length≤j):hC (mY y t j) t.length=0:=by
 apply Nat.eq_of_testBit_eq;intro i;rw[qW,Nat.zero_testBit];have:mY y t j i=false:=by unfold mY;rw[aPH h]
 simp[this]
theorem SU{y:bJ}{t:List Pt}:eJ y t t.length 0=(dQ y t).fits:=by
 show eJ y t t.length 0=(List.range 7).map fun j=>hC (mY y t j) t.length
 unfold eJ;apply List.map_congr_left;intro j _;by_cases h:j<t.length
 ·rw[aMT h]
 ·rw[aMM h,aEG Yd];split<;>rfl
theorem LW{y:bJ}{t:List Pt}{i:Nat}:eJ y t i t.length=eJ y t (i+1) 0:=by
 unfold eJ;apply List.map_congr_left;intro j _;by_cases h:j<i
 ·rw[aMT h,aMT Yd]
 ·rw[aMM h];by_cases h2:j=i
  ·subst h2;rw[aMT rfl,aMT Yd]
  ·rw[aMM h2,aMM Yd];split<;>rfl
theorem aIH{y:bJ}{t:List Pt}{i k:Nat}(h:mY y t i k=false):eJ y t i k=eJ y t i (k+1):=by
 unfold eJ;have:hC (mY y t i) (k+1)=hC (mY y t i) k:=by rw[hC,aMM (by simp[h])]
 rw[this]
theorem aFQ{y:bJ}{t:List Pt}{i k:Nat}(h:i<7):(eJ y t i k)[i]?= some (hC (mY y t i) k):=by
 unfold eJ;rw[aNB,aQS h];simp
theorem aIB{rows:List Nat}{i n:Nat}(w b:Nat)(h:rows[i]?= some n):(I8 w b rows)[2+i*1]?= some (.int .i64 (n:Int)):=by
 rw[aPE,Nat.add_comm];unfold I8;rw[List.getElem?_cons_succ,List.getElem?_cons_succ,aNB,h];rfl
theorem P4{t:List Pt}{i:Nat}{z:Pt}(hz:t[i]?= some z):whole (t.take (i+1))=whole (t.take i)+if iY z=true then 1 else 0:=by
 unfold whole;rw[aMN,hz,aOD,aOX,aLY];cases h:iY z<;>simp[h]
theorem LB{t:List Pt}{i:Nat}{z:Pt}(hz:t[i]?= some z):kE t i= !iY z:=by unfold kE;rw[hz]
theorem f5{y:bJ}{t:List Pt}{i k:Nat}{z:Pt}(hz:t[i]?= some z)(hw:iY z=true):hC (mY y t i) k=0:=by
 apply Nat.eq_of_testBit_eq;intro j;rw[qW,Nat.zero_testBit];have:mY y t i j=false:=by
  unfold mY;rw[hz]
  split
  ·rename_i e1 _ _ _;obtain rfl:=aMY e1;simp[KN,hw]
  ·rfl
 simp[this]
theorem ZU{y:bJ}{t:List Pt}{i:Nat}{z:Pt}(hz:t[i]?= some z)(hw:iY z=true):
  (I8 (whole (t.take i)) (hC (kE t) i) (eJ y t i 0)).take 0++[.int .i64 ((whole (t.take i):Int)+1)]++(I8 (whole (t.take i)) (hC (kE t) i) (eJ y t i 0)).drop (0+ [Value.int .i64 ((whole (t.take i):Int)+1)].length)=I8 (whole (t.take (i+1))) (hC (kE t) (i+1)) (eJ y t (i+1) 0):=by
 have h1:((whole (t.take (i+1)):Nat):Int)=(whole (t.take i):Int)+1:=by rw[P4 hz,aMT hw];simp
 have h2:hC (kE t) (i+1)=hC (kE t) i:=by rw[hC,aMM (by rw[LB hz,hw];simp)]
 have h3:eJ y t (i+1) 0=eJ y t i 0:=by
  rw[←LW];unfold eJ;rw[f5 hz hw,f5 hz hw]
 rw[h2,h3];unfold I8;rw[h1];rfl
theorem aBQ{y:bJ}{t:List Pt}{i:Nat}{z:Pt}(hz:t[i]?= some z)(hw:iY z=false):
  (I8 (whole (t.take i)) (hC (kE t) i) (eJ y t i 0)).take 1++[.int .i64 ((hC (kE t) i|||2^i:Nat):Int)]++(I8 (whole (t.take i)) (hC (kE t) i) (eJ y t i 0)).drop (1+ [Value.int .i64 ((hC (kE t) i|||2^i:Nat):Int)].length)=I8 (whole (t.take (i+1))) (hC (kE t) (i+1)) (eJ y t i 0):=by
 have h1:whole (t.take (i+1))=whole (t.take i):=by rw[P4 hz,aMM (by simp[hw])];rfl
 have h2:hC (kE t) (i+1)=hC (kE t) i|||2^i:=by rw[hC,aMT (by rw[LB hz,hw];rfl)]
 rw[h1,h2];rfl
theorem aJB{y:bJ}{t:List Pt}{i k w b:Nat}(hi:i<7)(h:mY y t i k=true):
  (I8 w b (eJ y t i k)).take (2+i*1)++[.int .i64 ((hC (mY y t i) k|||2^k:Nat):Int)]++(I8 w b (eJ y t i k)).drop (2+i*1+ [Value.int .i64 ((hC (mY y t i) k|||2^k:Nat):Int)].length)=I8 w b (eJ y t i (k+1)):=by
 have h2:hC (mY y t i) (k+1)=hC (mY y t i) k|||2^k:=by rw[hC,aMT h]
 have e:i=0∨i=1∨i=2∨i=3∨i=4∨i=5∨i=6:=by omega
 rw[←h2];rcases e with rfl|rfl|rfl|rfl|rfl|rfl|rfl<;>rfl
theorem WT(yv tv:Value)(y:bJ)(t:List Pt)(D:aA)(hy:kR D yv y)(ht:Sl D RP 3 tv t)(hlen:t.length=y.chairs.length)(h7:t.length≤7)(hb:∀p∈t,g8 p)(hf:0≤y.fit∧y.fit≤9)(hs:∀c∈y.chairs,0≤c.size∧c.size≤9):Fn Tryz.prog 162 #[yv,tv] D (fun _ v=>v=GO (dQ y t)):=by
 have hy0:=hy;obtain⟨cv,qv,rfl,hc,hq⟩:=hy;have hl:=ht.len;refine enter 61 Tryz.func162 rfl rfl rfl rfl fun h0=>C.s1<|Zt rfl (fun q1 E1 hE1 hB1=>Zv rfl Tf.z319 rfl (fun q2=>L.n4<|Za rfl<|aO rfl U315 rfl ht rfl rfl trivial<|Za rfl<|L.n1<|Zai<|cK (γ:=Nat) (fun i=>t.length-i) (fun i=>i≤t.length) (fun i=>[(11,.int .i64 (i:Int))]) [(10,_),(9,_),(4,_),(2,_),(1,_)] (fun i=>[(q2,.cells (I8 (whole (t.take i)) (hC (kE t) i) (eJ y t i 0)).toArray 319 (0,0))]) (fun i=>[E1,D]) 0 Yd ⟨Ya,cW⟩ C.rs (LT _) (aD) ?_))
 rintro i h1;refine C.s1<|Zac rfl<|L.n2<|aE rfl (fun hc1=>?_) (fun hc1=>?_)
 ·have hi:i<t.length:=by omega
  obtain⟨z,hz⟩:=C.ge t i;obtain⟨x1,hx1⟩:=C.ge y.chairs i;have hwl:whole (t.take i)≤(t.take i).length:=aPD _ _;have hwt:(t.take i).length≤i:=aQR _ _;have hbl:=p9 (kE t) i;have hp2:2^i≤2^7:=aPQ Yd Yd;refine C.kn<|aK<|Zai<|C.s1<|Za rfl<|Zp rfl U315 Tf.s101 rfl ht rfl hz (fun b1 o1 cs1 hr1 hcl1 hA1=>?_);obtain rfl:cs1=[.int .i64 _,.int .i64 _,.int .i64 _]:=hr1;refine cU rfl Tf.a101 rfl hA1 Yc Yz GT rfl trivial<|Zv rfl Tf.z101 rfl (fun q3=>Zi rfl<|Zu rfl Tf.s101 (bS.head)<|L.n4<|bA rfl Tf.a101 rfl (List.Mem.head _) Yz GT rfl trivial<|Ze rfl (fun D1 hD1=>xZ z _)<|L.n1<|aI rfl (fun hc2=>?_) (fun hc2=>?_))
  ·refine C.s1<|Zj rfl Tf.f319_0 rfl<|Zl rfl Tf.a3 rfl (List.Mem.tail _ (List.Mem.head _)) rfl<|Zw rfl<|Zj rfl Tf.f319_0 rfl<|aL (ws:=I8 (whole (t.take (i+1))) (hC (kE t) (i+1)) (eJ y t (i+1) 0)) rfl rfl rfl rfl Tf.s3 (.tail bS.head) (by simp[I8]) (ZU hz hc2) Yi trivial<|L.n1<|aP<|Zaj<|Zam<|Zag<|C.rg ?_;refine Zw rfl<|Za rfl<|Zaa ?_;exact aG 15 (i+1) Yd Yd ⟨Ya,cW⟩ rfl rfl (List.Sublist.cons _ (LT _)) (aD)
  ·refine C.kn<|aK<|C.drawA [] 2 7 12 (fun _ _ _ h=>bP (P:=Tryz.prog) (fn:=Tryz.f162) _ _ _ h)<|Zj rfl Tf.f319_1 rfl<|Zl rfl Tf.a3 rfl (List.Mem.tail _ (List.Mem.head _)) rfl<|Za rfl<|S2 rfl rfl rfl Yd rfl trivial<|LH rfl rfl rfl Yd Yd rfl trivial<|Zj rfl Tf.f319_1 rfl<|aL (ws:=I8 (whole (t.take (i+1))) (hC (kE t) (i+1)) (eJ y t i 0)) rfl rfl rfl rfl Tf.s3 (.tail bS.head) (by simp[I8]) (aBQ hz hc2) Yi trivial<|L.n3<|Za rfl ?_;refine aO rfl U315 rfl ht rfl rfl trivial<|Za rfl<|L.n1<|Zai<|cK (γ:=Nat) (fun k=>t.length-k) (fun k=>k≤t.length) (fun k=>[(30,.int .i64 (k:Int))]) [(29,_),(28,_),(27,_),(26,_),(25,_),(24,_),(23,_),(22,_),(17,_),(16,_),(5,_),(6,_),(15,_),(14,_),(13,_),(12,_),(11,_),(10,_),(9,_),(4,_),(2,_),(1,_)] (fun k=>[(q3,.cells [.int .i64 z.a,.int .i64 z.b,.int .i64 z.c].toArray 101 (0,0)),(q2,.cells (I8 (whole (t.take (i+1))) (hC (kE t) (i+1)) (eJ y t i k)).toArray 319 (0,0))]) (fun k=>[E1,D]) 0 Yd ⟨Ya,cW⟩ C.rs (LT _) (aD) ?_;rintro k h2;refine C.s1<|Zac rfl<|L.n2<|aE rfl (fun hc3=>?_) (fun hc3=>?_)
   ·have hk:k<t.length:=by omega
    obtain⟨q,hq⟩:=C.ge t k;obtain⟨x2,hx2⟩:=C.ge y.chairs k;have hbk:=p9 (mY y t i) k;have hp3:2^k≤2^7:=aPQ Yd Yd;refine C.kn<|aK<|Zai<|C.s1<|Za rfl<|Zp rfl U315 Tf.s101 rfl ht rfl hq (fun b2 o2 cs2 hr2 hcl2 hA2=>?_);obtain rfl:cs2=[.int .i64 _,.int .i64 _,.int .i64 _]:=hr2;refine cU rfl Tf.a101 rfl hA2 Yc Yz GT rfl trivial<|Zv rfl Tf.z101 rfl (fun q4=>Zi rfl<|Zu rfl Tf.s101 (bS.head)<|L.n3<|Za rfl<|Za rfl<|Zaf rfl<|Za rfl ?_);refine' L.anK 5 (s:=38) (p:=43) rfl (fun hg1=>?_) (fun hg1=>?_) ?_;rotate_left
    ·refine cU rfl Tf.a40 rfl hB1 Yc Tf.s40 GT rfl ⟨_,rfl,rfl⟩<|Zb rfl<|Zb rfl<|Zf rfl (fun D2 hD2=>I3 _ y i k x1 x2 _ (hy0.up (hD2 _ Ye)) hf hx1 hx2 (hs _ (aLW hx1)) (hs _ (aLW hx2)))<|Zy rfl ?_;exact L.cu 4
    ·refine Zh rfl<|Zh rfl<|Zh rfl<|Zh rfl<|Zz rfl ?_;exact L.cu 4
    refine Za rfl ?_;refine' L.anK 4 (s:=44) (p:=48) rfl (fun hg2=>?_) (fun hg2=>?_) ?_;rotate_left
    ·refine bA rfl Tf.a101 rfl (aRH _ (GE _)) Yz GT rfl ⟨_,rfl,rfl⟩<|bA rfl Tf.a101 rfl (List.Mem.head _) Yz GT rfl ⟨_,rfl,rfl⟩<|Zf rfl (fun D3 hD3=>VF z q _ (hb _ (aLW hz)) (hb _ (aLW hq)))<|Zy rfl ?_;exact L.cu 3
    ·refine Zh rfl<|Zh rfl<|Zh rfl<|Zz rfl ?_;exact L.cu 3
    refine L.n1<|aI rfl (fun hc4=>?_) (fun hc4=>?_)
    ·have hfit:mY y t i k=true:=by rw[UJ hz hq hx1 hx2];exact hc4
     refine C.drawA [] 3 10 178 (fun _ _ _ h=>bP (P:=Tryz.prog) (fn:=Tryz.f162) _ _ _ h)<|Za rfl<|Zj rfl Tf.f319_2 rfl<|dN rfl U317 Tf.s3 rfl rfl Yd Yd rfl trivial<|aT rfl Tf.a3 rfl (List.Mem.tail _ (List.Mem.tail _ (List.Mem.head _))) (aIB _ _ (aFQ Yd)) GT rfl trivial<|Za rfl<|S2 rfl rfl rfl Yd rfl trivial<|LH rfl rfl rfl Yd Yd rfl trivial<|Zj rfl Tf.f319_2 rfl<|dN rfl U317 Tf.s3 rfl rfl Yd Yd rfl trivial<|aL (ws:=I8 (whole (t.take (i+1))) (hC (kE t) (i+1)) (eJ y t i (k+1))) rfl rfl rfl rfl Tf.s3 (.tail (.tail bS.head)) (by simp[I8,eJ];omega) (aJB Yd hfit) Yi trivial<|Zaa ?_;refine Zak<|Zag<|C.rg<|Zw rfl<|Za rfl<|Zaa ?_;exact aG 25 (k+1) Yd Yd ⟨Ya,cW⟩ rfl rfl (List.Sublist.cons _ (LT _)) (aD)
    ·have hfit:mY y t i k=false:=by rw[UJ hz hq hx1 hx2];exact hc4
     refine bB<|Zak<|Zag<|C.rg<|Zw rfl<|Za rfl<|Zaa ?_;rw[aIH hfit];exact aG 16 (k+1) Yd Yd ⟨Ya,cW⟩ rfl rfl (List.Sublist.cons _ (LT _)) (aD)
   ·obtain rfl:k=t.length:=by omega
    rw[LW];refine aP<|Zaj<|Zaj<|Zam<|Zak<|Zag<|C.rg<|Zw rfl<|Za rfl<|Zaa ?_;exact aG 21 (i+1) Yd Yd ⟨Ya,cW⟩ rfl rfl (List.Sublist.cons _ (LT _)) (aD)
 ·obtain rfl:i=t.length:=by omega
  refine aP<|Zaj<|Zaj<|Zam<|Zag<|C.s1<|Zs rfl Tf.a319 rfl (List.Mem.head _) Tf.s319<|bK rfl rfl rfl rfl Tf.s319 Yb Yb (bS.head) (aBF _ _ _) trivial<|L.n5 ?_;exact Zm [_] rfl ⟨⟨_,_,_,rfl,(List.Mem.head _),Or.inr ⟨Tf.a319,(by first|exact Tf.s319|(simp only[aNG,aJ, *];exact Tf.s319)),rfl⟩⟩,cW⟩ (fun D hD=>by rw[SU,aNL];rfl)
end L7
end Go.Fs
namespace Go.Fs.C7
end Go.Fs.C7
namespace Go.Fs.C7
end Go.Fs.C7
namespace Go.Fs.C7
theorem Q2{m a:Nat}(h:m.testBit a=true):oX m (2^a)<m:=by
 have h1:=xD m (2^a);have h2:oX m (2^a)≠m:=fun e=>by
  have:=J9 m (2^a) a;rw[e,h,Nat.testBit_two_pow_self]at this;cases this
 omega
theorem aHK(m a i:Nat):(oX m (2^a)).testBit i=(m.testBit i&& !decide (a=i)):=by
 rw[J9,Nat.testBit_two_pow]
def low(m:Nat):Nat:=((List.range m).find? fun i=>m.testBit i).getD 0
theorem uK{m:Nat}(h:m≠0):m.testBit (low m)=true∧∀i,i<low m→m.testBit i=false:=by
 obtain⟨i,hi⟩:=Nat.exists_testBit_of_ne_zero h;have him:i<m:=aOQ Nat.lt_two_pow_self (Nat.ge_two_pow_of_testBit hi);unfold low;cases hf:(List.range m).find? fun i=>m.testBit i with
 |none=>
  have:=List.find?_eq_none.1 hf i (aPF.2 him);exact absurd hi this
 |some j=>
  have h1:=List.find?_some hf;refine⟨h1,fun k hk=>?_⟩;simp only[aPG]at hk;obtain⟨_,l1,l2,hab,hno⟩:=List.find?_eq_some_iff_append.1 hf;have hjm:j<m:=aPF.1 (List.mem_of_find?_eq_some hf);have hlen:l1.length=j:=by
   have h2:(List.range m)[l1.length]?= some j:=by rw[hab,aQL (aMS _)];simp
   have hl:l1.length<m:=by
    have:=aMQ List.length hab;simp at this;omega
   rw[aQS hl]at h2;exact aMY h2
  have hkm:(List.range m)[k]?= some k:=aQS Yd;rw[hab,aOV Yd]at hkm;have:=hno k (aLW hkm);simpa using this
def fB(F:List Nat)(a b:Nat):Bool:=(F.getD a 0).testBit b
def qJ(F:List Nat)(rest a:Nat)(nu:Nat→Nat)(m b:Nat):Nat:=if(rest&&&F.getD a 0).testBit b=true then max m (1+nu (oX rest (2^b)))else m
def aBK(F:List Nat)(n:Nat):Nat→Nat→Nat
 |0,_=>0
 |k+1,m=>if m=0 then 0 else(List.range n).foldl (qJ F (oX m (2^low m)) (low m) (aBK F n k)) (aBK F n k (oX m (2^low m)))
def p4(F:List Nat)(n m:Nat):Nat:=aBK F n m m
theorem uT{α β:Type}{f g:β→α→β}:∀{l:List α} {b:β},(∀b,∀a∈l,f b a=g b a)→l.foldl f b=l.foldl g b
 | [],_,_=>rfl
 |x::l,b,h=>by
  rw[aOI,aOI,h b x aMF];exact uT fun b a ha=>h b a (aLZ _ ha)
theorem yN{F:List Nat}{n:Nat}:∀(k m l:Nat),m≤k→m≤l→aBK F n k m=aBK F n l m
 |0,m,l,h,_=>by
  obtain rfl:m=0:=by omega
  cases l<;>simp[aBK]
 |k+1,m,0,_,h=>by
  obtain rfl:m=0:=by omega
  simp[aBK]
 |k+1,m,l+1,h,h'=>by
  simp only[aBK];by_cases hm:m=0
  ·rw[aMT hm,aMT hm]
  ·rw[aMM hm,aMM hm];have hlt:=Q2 (uK hm).1;have e0:=yN (F:=F) (n:=n) k (oX m (2^low m)) l Yd Yd;rw[e0];refine uT fun b a _=>?_
   unfold qJ;split
   ·have:=xD (oX m (2^low m)) (2^a);rw[yN k (oX (oX m (2^low m)) (2^a)) l Yd Yd]
   ·rfl
theorem AR{F:List Nat}{n:Nat}:p4 F n 0=0:=rfl
theorem JD{F:List Nat}{n m:Nat}(h:m≠0):p4 F n m=(List.range n).foldl (qJ F (oX m (2^low m)) (low m) (p4 F n)) (p4 F n (oX m (2^low m))):=by
 have hlt:=Q2 (uK h).1;obtain⟨k,rfl⟩:∃k,m=k+1:=⟨m-1,by omega⟩
 show aBK F n (k+1) (k+1)=_;rw[aBK,aMM h];rw[yN k (oX (k+1) (2^low (k+1))) (oX (k+1) (2^low (k+1))) Yd (aMS _)];refine uT fun b a _=>?_
 unfold qJ;split
 ·have:=xD (oX (k+1) (2^low (k+1))) (2^a);rw[yN k (oX (oX (k+1) (2^low (k+1))) (2^a)) _ Yd (aMS _)];rfl
 ·rfl
end Go.Fs.C7
namespace Go.Fs.C7
theorem MJ{F:List Nat}{rest a:Nat}{nu:Nat→Nat}:∀(l:List Nat) (m:Nat),l.foldl (qJ F rest a nu) m=m∨∃b∈l,(rest&&&F.getD a 0).testBit b=true∧l.foldl (qJ F rest a nu) m=1+nu (oX rest (2^b))
 | [],m=>aMR rfl
 |x::l,m=>by
  rw[aOI];rcases MJ l (qJ F rest a nu m x)with h|⟨b,hb,hbit,h⟩
  ·rw[h];unfold qJ;split
   ·rename_i hx;by_cases hm:m≤1+nu (oX rest (2^x))
    ·exact aMD ⟨x,aMF,hx,by omega⟩
    ·exact aMR Yd
   ·exact aMR rfl
  ·exact aMD ⟨b,aLZ _ hb,hbit,h⟩
theorem ME{m b:Nat}(h:m≠0):oX (oX m (2^low m)) (2^b)<m:=Nat.lt_of_le_of_lt (xD _ _) (Q2 (uK h).1)

def xB:List Int→List Pt
 |a::b::c::l=>⟨a,b,c⟩::xB l
 |_=>[]
def gU(l:List Ch):List Int:=l.flatMap fun c=>c.parts.l
def kC(l:List Pt):List Int:=l.flatMap Pt.l
theorem oD(p:Pt)(l:List Pt):kC (p::l)=p.a::p.b::p.c::kC l:=rfl
theorem aAI(l:List Pt):xB (kC l)=l:=by
 induction l with
 |nil=>rfl
 |cons p l ih=>rw[oD,xB,ih]
theorem lG(l:List Ch):(gU l).length=3*l.length:=by
 induction l with
 |nil=>rfl
 |cons c l ih=>unfold gU at ih ⊢;rw[aNQ,aLY,ih,aMI];simp[Pt.l];omega
theorem u7(l:List Pt):(kC l).length=3*l.length:=by
 induction l with
 |nil=>rfl
 |cons c l ih=>rw[oD];simp only[aMI,ih];omega
theorem AB:∀(n:Nat) (l:List Int),l.length=3*n→kC (xB l)=l∧(xB l).length=n
 |0,l,h=>by
  obtain rfl:l=[]:=aPJ.1 Yd;exact⟨rfl,rfl⟩
 |n+1,l,h=>by
  match l,h with
  |a::b::c::l,h=>
   obtain⟨h1,h2⟩:=AB n l (by simp only[aMI]at h;omega);rw[xB,oD];exact⟨by rw[h1],by rw[aMI,h2]⟩
def x8(y:bJ):List (List Pt):=(C1.cX (gU y.chairs)).map xB
theorem N2:∀{l t:List Int},t∈C1.cX l ↔ t.length=l.length∧∀x∈l.zip t,B4 x.1 x.2=true∧True
 | [],t=>by simp[C1.cX]
 |p::l,t=>by
  have ih:=fun t=> @N2 l t
  cases t with
  |nil=>simp[C1.cX]
  |cons x t=>
   have:x::t∈C1.cX (p::l) ↔ ((p=2∨p=x)∧(x=0∨x=1))∧t∈C1.cX l:=by
    rw[show C1.cX (p::l)=(if p=2∨p=0 then(C1.cX l).map (0:: ·)else [])++(if p=2∨p=1 then(C1.cX l).map (1:: ·)else [])from rfl,aMO];constructor
    ·rintro(h|h)
     ·split at h
      ·rename_i hp;obtain⟨s,hs,he⟩:=aMB.1 h;obtain⟨rfl,rfl⟩:=List.cons.inj he;exact⟨⟨hp,aMR rfl⟩,hs⟩
      ·cases h
     ·split at h
      ·rename_i hp;obtain⟨s,hs,he⟩:=aMB.1 h;obtain⟨rfl,rfl⟩:=List.cons.inj he;exact⟨⟨hp,aMD rfl⟩,hs⟩
      ·cases h
    ·rintro⟨⟨hp,rfl|rfl⟩,ht⟩
     ·exact aMR (by rw[aMT hp];exact aMB.2 ⟨t,ht,rfl⟩)
     ·exact aMD (by rw[aMT hp];exact aMB.2 ⟨t,ht,rfl⟩)
   rw[this,ih];simp only[aMI,aQW,aLX,and_true,forall_eq_or_imp,Nat.add_right_cancel_iff];have:B4 p x=true ↔ (p=2∨p=x)∧(x=0∨x=1):=by
    unfold B4;simp only[aMC,cD,aNR,aMV];constructor
    ·rintro⟨h1,h2⟩;exact⟨h2.imp id Eq.symm,by omega⟩
    ·rintro⟨h1,h2⟩;exact⟨by omega,h1.imp id Eq.symm⟩
   rw[this];constructor
   ·rintro⟨h1,h2,h3⟩;exact⟨h2,h1,h3⟩
   ·rintro⟨h2,h1,h3⟩;exact⟨h1,h2,h3⟩
theorem L6:∀{l:List Ch} {t:List Pt},t.length=l.length→(∀x∈(gU l).zip (kC t),B4 x.1 x.2=true)=((l.zip t).all fun x=>KY x.1.parts x.2)
 | [],[],_=>by simp[gU,kC]
 |c::l,p::t,h=>by
  have ih:=L6 (l:=l) (t:=t) Yam;rw[aQW,List.all_cons,aMC,←ih];rw[oD,show gU (c::l)=c.parts.a::c.parts.b::c.parts.c::gU l from rfl];simp only[aQW,aLX,forall_eq_or_imp,KY,Pt.l,List.zip_nil_left,List.all_cons,List.all_nil,Bool.and_true,aMC,and_assoc]
theorem DO{y:bJ}{t:List Pt}:t∈x8 y ↔ nM y t=true:=by
 unfold x8 nM;rw[aMB,aMC,aMV];constructor
 ·rintro⟨s,hs,rfl⟩;obtain⟨h1,h2⟩:=N2.1 hs;rw[lG]at h1;obtain⟨g1,g2⟩:=AB _ _ h1;refine⟨g2,?_⟩;rw[←L6 g2,g1];exact fun x hx=>(h2 x hx).1
 ·rintro⟨h1,h2⟩;refine⟨kC t,N2.2 ⟨by rw[lG,u7,h1],fun x hx=>⟨?_,cW⟩⟩,aAI t⟩;rw[←L6 h1]at h2;exact h2 x hx
end Go.Fs.C7
namespace Go.Fs
open Go.Proofs
namespace L7
open C7
def V4(n:Nat)(M:List (lR 8×Int)):Prop:=∀p∈M,∃(m:Nat) (F:List Nat),p.1.l=(m:Int)::F.map (fun x:Nat=>(x:Int))∧p.2=(p4 F n m:Int)
theorem A4:∀{F G:List Nat},F.map (fun x:Nat=>(x:Int))=G.map (fun x:Nat=>(x:Int))→F=G
 | [],[],_=>rfl
 |x::F,y::G,h=>by
  rw[aMZ,aMZ,aOC]at h;rw[A4 h.2,show x=y by omega]
theorem aFE{n m:Nat}{a0 a1 a2 a3 a4 a5 a6:Nat}{M:List (lR 8×Int)}{v:Int}{h:[(m:Int),a0,a1,a2,a3,a4,a5,a6].length=8}(hok:V4 n M)(hm:(⟨[(m:Int),a0,a1,a2,a3,a4,a5,a6],h⟩,v)∈M):v=(p4 [a0,a1,a2,a3,a4,a5,a6] n m:Int):=by
 obtain⟨m',F,h1,h2⟩:=hok _ hm;simp only[aOC]at h1;obtain⟨h0,h1⟩:=h1;have:F=[a0,a1,a2,a3,a4,a5,a6]:=A4 (by rw[←h1];rfl)
 rw[this,show m'=m by omega]at h2;exact h2
theorem aBR{n m:Nat}{a0 a1 a2 a3 a4 a5 a6:Nat}{M M':List (lR 8×Int)}{v:Int}{h:[(m:Int),a0,a1,a2,a3,a4,a5,a6].length=8}(hok:V4 n M)(hm:∀p∈M',p∈M∨p=(⟨[(m:Int),a0,a1,a2,a3,a4,a5,a6],h⟩,v))(hv:v=(p4 [a0,a1,a2,a3,a4,a5,a6] n m:Int)):V4 n M':=fun p hp=>by
 rcases hm p hp with h1|rfl
 ·exact hok p h1
 ·exact⟨m,[a0,a1,a2,a3,a4,a5,a6],rfl,hv⟩
theorem V4.nil{n:Nat}:V4 n []:=fun p hp=>by cases hp
theorem m7{m n:Nat}(h:∀x,m.testBit x=true→x<n)(hn:n≤7):m<128:=by
 have:m<2^n:=by
  apply Nat.lt_pow_two_of_testBit;intro i hi;cases e:m.testBit i with
  |false=>rfl
  |true=>have:=h i e;omega
 have h2:2^n≤2^7:=aPQ Yd hn;omega
theorem Q1{m n a:Nat}(h:∀x,m.testBit x=true→x<n):∀x,(oX m (2^a)).testBit x=true→x<n:=fun x hx=>h x (by rw[aHK]at hx;simp at hx;exact hx.1)
theorem y9{k:Nat}(h:k<7):2^k<128:=by
 have:2^k<2^7:=Nat.pow_lt_pow_right Yd h;omega
theorem aJF{F:List Nat}(h:∀f∈F,f<128)(a:Nat):F.getD a 0<128:=by
 rw[aOB];cases e:F[a]? with
 |none=>simp
 |some x=>exact h x (aLW e)
theorem XS(a0 a1 a2 a3 a4 a5 a6:Nat){a:Nat}(h:a<7):([.int .i64 (a0:Int),.int .i64 (a1:Int),.int .i64 (a2:Int),.int .i64 (a3:Int),.int .i64 (a4:Int),.int .i64 (a5:Int),.int .i64 (a6:Int)]:List Value)[a*1]?= some (.int .i64 (([a0,a1,a2,a3,a4,a5,a6].getD a 0:Nat):Int)):=by
 have e:a=0∨a=1∨a=2∨a=3∨a=4∨a=5∨a=6:=by omega
 rcases e with rfl|rfl|rfl|rfl|rfl|rfl|rfl<;>rfl
theorem JA(F:List Nat)(n:Nat):∀m,p4 F n m≤m:=by
 intro m;induction m using Nat.strongRecOn with
 |_ m ih=>
  by_cases hm:m=0
  ·subst hm;rw[AR];exact aMS _
  ·have hlt:=Q2 (uK hm).1;rcases MJ (F:=F) (rest:=oX m (2^low m)) (a:=low m) (nu:=p4 F n) (List.range n) (p4 F n (oX m (2^low m)))with h|⟨b,_,_,h⟩
   ·rw[JD hm,h];have:=ih _ hlt;omega
   ·rw[JD hm,h];have h2:=ME (b:=b) hm;have:=ih _ h2;omega
def TI(F:List Nat)(n m k:Nat):Nat:=(List.range k).foldl (qJ F (oX m (2^low m)) (low m) (p4 F n)) (p4 F n (oX m (2^low m)))
theorem VU{F:List Nat}{n m:Nat}(h:m≠0):p4 F n m=TI F n m n:=JD h
theorem aDZ{F:List Nat}{n m k:Nat}(h:(oX m (2^low m)&&&F.getD (low m) 0).testBit k=true):TI F n m (k+1)=max (TI F n m k) (1+p4 F n (oX (oX m (2^low m)) (2^k))):=by
 have e:TI F n m (k+1)=qJ F (oX m (2^low m)) (low m) (p4 F n) (TI F n m k) k:=by unfold TI;rw[aOF,aOA,aOI,List.foldl_nil]
 rw[e];unfold qJ;rw[aMT h]
theorem aGX{F:List Nat}{n m k:Nat}(h:(oX m (2^low m)&&&F.getD (low m) 0).testBit k=false):TI F n m (k+1)=TI F n m k:=by
 have e:TI F n m (k+1)=qJ F (oX m (2^low m)) (low m) (p4 F n) (TI F n m k) k:=by unfold TI;rw[aOF,aOA,aOI,List.foldl_nil]
 rw[e];unfold qJ;rw[aMM (by rw[h];simp)]
theorem j8{wb mb t cl:Nat}{cs:List Value}{es:Array MapEntry}:∀p∈[(wb,Obj.cells cs.toArray t (0,0)),(mb,.map es cl)],cQ p.2:=by
 intro p hp;simp only[aLX,GT,aNU]at hp;rcases hp with rfl|rfl
 ·rfl
 ·trivial
theorem UV:KA Tryz.prog 367 7:=⟨(Tryz.prog.fieldsOf 367)[0]!,(Tryz.prog.fieldsOf 367)[1]!,3,by kernel_rfl,by kernel_rfl,by kernel_rfl,by decide+kernel,by decide+kernel,by kernel_rfl,by kernel_rfl,by kernel_rfl,by kernel_rfl,by kernel_rfl,by kernel_rfl,by rw[show((Tryz.prog.fieldsOf 367)[1]!).type=317 by kernel_rfl];exact Tf.a317,by rw[show((Tryz.prog.fieldsOf 367)[1]!).type=317 by kernel_rfl];exact Tf.s317,Tf.s3⟩
theorem ZN(wb mb:Nat)(cv qv:Value)(fit:Int)(chs:List Ch)(a0 a1 a2 a3 a4 a5 a6:Nat)(hn7:chs.length≤7)(hF:∀f∈[a0,a1,a2,a3,a4,a5,a6],f<128):
  ∀(L m:Nat),m=L→(∀x,m.testBit x=true→x<chs.length)→∀(es:Array MapEntry) (clock:Nat) (M:List (lR 8×Int)) (D:aA),Sl D sK 4 cv chs→rC qB es M→V4 chs.length M→
  T1 Tryz.prog 245 [.pointer (some ⟨wb,0,none⟩),.agg #[.int .i64 (m:Int),.int .i64 (a0:Int),.int .i64 (a1:Int),.int .i64 (a2:Int),.int .i64 (a3:Int),.int .i64 (a4:Int),.int .i64 (a5:Int),.int .i64 (a6:Int)]] D [(wb,.cells [cv,.int .i64 fit,qv,.map (some mb)].toArray 311 (0,0)),(mb,.map es clock)] (fun _ v ν'=>v=.int .i64 (p4 [a0,a1,a2,a3,a4,a5,a6] chs.length m:Int)∧∃es' clock' M',ν'=[(wb,.cells [cv,.int .i64 fit,qv,.map (some mb)].toArray 311 (0,0)),(mb,.map es' clock')]∧rC qB es' M'∧V4 chs.length M'):=by
 intro L;induction L using Nat.strongRecOn with
 |_ L ih=>
 intro m hL hbits es clock M D hS hM hok;subst hL;have hl1:=hS.len;have hmb:=m7 hbits hn7;refine fZ 78 Tryz.func245 rfl rfl rfl rfl (fun h0 hwl hwn=>C.s1<|Zt rfl (fun q1 E1 hE1 hB1=>Zi rfl<|L.n4<|Zj rfl Tf.f367_0 rfl<|Zc 0 rfl Tf.a3 rfl hB1 rfl<|dU rfl rfl rfl rfl trivial<|L.n1<|aE rfl (fun hc1=>?_) (fun hc1=>?_)))
 ·refine C.s1<|Zi rfl<|L.n5<|Zah ?_;exact Zx [] [] [_,_] [_] rfl ⟨rfl,cW⟩ rfl (fun D hD=>⟨by show Value.int _ _=_;rw[show m=0 by omega,AR];rfl,es,clock,M,rfl,hM,hok⟩)
 ·have hm0:m≠0:=by omega
  have hlow:=uK hm0;have hlown:=hbits _ hlow.1;have hlow7:low m<7:=by omega
  have hp2:=y9 hlow7;have hlt:=Q2 hlow.1;have hrest:=xD m (2^low m);refine C.kn<|aK<|aK<|C.drawA [] 6 11 784 (fun _ _ _ h=>aW (P:=Tryz.prog) (fn:=Tryz.f245) _ _ _ h)<|Za rfl<|Zad rfl<|Zj rfl Tf.f311_1 rfl<|Zl rfl Tf.a309 rfl (List.Mem.head _) rfl<|Zq rfl Tf.a367 rfl hB1 Tf.s367<|PB (val:=qB (n:=8)) (a:=⟨[(m:Int),(a0:Int),(a1:Int),(a2:Int),(a3:Int),(a4:Int),(a5:Int),(a6:Int)],rfl⟩) rfl U309 UV.key Tf.z3 rfl rfl (aRH _ (GE _)) GT hM rfl cW (fun nv ok hmem=>Za rfl<|Zab rfl ?_);refine Zab rfl<|Zi rfl<|Zi rfl<|L.n3<|Za rfl<|L.n1<|aI rfl (fun hc2=>?_) (fun hc2=>?_)
  ·subst hc2;refine C.s1<|Za rfl<|Zi rfl<|L.n5<|Zah ?_;exact Zx [] [] [_,_] [_] rfl ⟨rfl,cW⟩ rfl (fun D hD=>⟨by show Value.int _ _=_;rw[aFE hok (hmem rfl)],es,clock,M,rfl,hM,hok⟩)
  ·refine C.kn<|C.s1<|Zj rfl Tf.f367_0 rfl<|Zc 0 rfl Tf.a3 rfl hB1 rfl<|Ze rfl (fun D1 hD1=>SP m (low m) _ hlow.1 Yd hlow.2)<|Zi rfl<|L.n2<|C.drawA [] 2 6 12 (fun _ _ _ h=>aW (P:=Tryz.prog) (fn:=Tryz.f245) _ _ _ h)<|Zj rfl Tf.f367_0 rfl<|Zc 0 rfl Tf.a3 rfl hB1 rfl<|Za rfl<|S2 rfl rfl rfl Yd rfl cW ?_;refine WQ rfl rfl rfl Yd Yd rfl trivial<|Zi rfl<|L.n3<|Za rfl<|Za rfl<|Zj rfl Tf.f367_1 rfl<|cR rfl (k:=1) (us:=[.int .i64 (a0:Int),.int .i64 (a1:Int),.int .i64 (a2:Int),.int .i64 (a3:Int),.int .i64 (a4:Int),.int .i64 (a5:Int),.int .i64 (a6:Int)]) Tf.a317 Tf.s317 rfl hB1 Yc rfl rfl GT rfl trivial<|iH (cs:=[.int .i64 ((oX m (2^low m):Nat):Int),.int .i64 (a0:Int),.int .i64 (a1:Int),.int .i64 (a2:Int),.int .i64 (a3:Int),.int .i64 (a4:Int),.int .i64 (a5:Int),.int .i64 (a6:Int)]) rfl Tf.p367 Tf.z367 rfl Yg rfl trivial<|dL (A:=[]) (ν:=[(_,_),(_,_)]) (B:=[]) rfl rfl rfl rfl (aMR rfl) (j8 (cs:=[_,_,_,_])) (fun D5 hD5=>ih _ hlt _ rfl (Q1 hbits) es clock M D5 (hS.up sK.up (hD5 _ Ye)) hM hok) rfl cW (fun v5 D6 _ hD6 hp5=>?_);obtain⟨rfl,es4,cl4,M4,rfl,hM4,hok4⟩:=hp5;refine Zi rfl<|L.n4<|Za rfl<|Zad rfl<|Zj rfl Tf.f311_0 rfl<|Zj rfl Tf.f40_0 rfl<|Zl rfl Tf.a37 rfl (List.Mem.head _) rfl<|aO rfl U37 rfl hS rfl rfl trivial<|Za rfl<|L.n1<|Zai<|cK (γ:=Nat×Array MapEntry×Nat×List (lR 8×Int)) (fun g=>chs.length-g.1) (fun g=>g.1≤chs.length∧rC qB g.2.1 g.2.2.2∧V4 chs.length g.2.2.2) (fun g=>[(45,.int .i64 (g.1:Int)),(9,.int .i64 (TI [a0,a1,a2,a3,a4,a5,a6] chs.length m g.1:Int))]) [(44,_),(8,_),(7,_),(4,_),(3,_),(0,_)] (fun g=>[(wb,.cells [cv,.int .i64 fit,qv,.map (some mb)].toArray 311 (0,0)),(mb,.map g.2.1 g.2.2.1)]) (fun g=>[D6,E1,D]) (0,es4,cl4,M4) ⟨by simp,hM4,hok4⟩ ⟨Ya,Ya,cW⟩ C.rs (LT _) (aD) ?_;rintro⟨k,es1,cl1,M1⟩ ⟨h1,hM1,hok1⟩;simp only at h1 hM1 hok1;refine C.s1<|Zac rfl<|L.n2<|aE rfl (fun hc3=>?_) (fun hc3=>?_)
   ·have hk:k<chs.length:=by omega
    have hpk:=y9 (show k<7 by omega);have hrow:=aJF hF (low m);have hdl:=xD (oX m (2^low m)) (2^k);have hnl:=JA [a0,a1,a2,a3,a4,a5,a6] chs.length (oX (oX m (2^low m)) (2^k));have hand:=Nat.and_le_left (n:=oX m (2^low m)) (m:=[a0,a1,a2,a3,a4,a5,a6].getD (low m) 0);refine C.kn<|aK<|Zai<|C.s1<|Za rfl<|Zi rfl<|L.n3<|Za rfl<|Za rfl<|Zj rfl Tf.f367_1 rfl<|dN rfl U317 Tf.s3 rfl rfl Yd Yd rfl trivial<|bC (o:=0+1) (k:=low m*1) rfl Tf.a3 rfl hB1.tail Ye (XS a0 a1 a2 a3 a4 a5 a6 hlow7) GT rfl cW ?_;refine aIM rfl rfl rfl Yd Yd rfl trivial<|Za rfl<|S6 rfl rfl rfl Yd rfl trivial<|wE rfl rfl rfl (Int.natCast_nonneg _) Yd (by rw[kK];split<;>simp only[rM]<;>omega) rfl trivial<|dU rfl rfl rfl rfl trivial<|L.n1<|aE rfl (fun hc4=>?_) (fun hc4=>?_)
    ·have hbit:(oX m (2^low m)&&& [a0,a1,a2,a3,a4,a5,a6].getD (low m) 0).testBit k=true:=by rw[kK]at hc4;simpa using hc4
     refine iS hB1 Ye (fun hq1=>?_);have hq1:q1∉[wb,mb]:=hq1;refine iE [wb,mb] 6 [0,1,2,3,4,5,6,7,8,9,10,11,12] [false,true,true,true,true,true,true,true,true,true,true,false,false] [(false,0),(true,1),(true,2),(true,3),(true,4),(true,5),(true,6),(true,7),(true,8),(true,9),(true,10),(false,11),(false,12)] Tf.follows (fun _ _ _ h=>aW (P:=Tryz.prog) (fn:=Tryz.f245) _ _ _ h) Yg rfl<|Za rfl<|Za rfl<|Za rfl<|Za rfl<|S2 rfl rfl rfl Yd rfl trivial<|WQ rfl rfl rfl Yd Yl rfl trivial<|Zj rfl Tf.f367_1 rfl<|cR rfl (k:=1) (us:=[.int .i64 (a0:Int),.int .i64 (a1:Int),.int .i64 (a2:Int),.int .i64 (a3:Int),.int .i64 (a4:Int),.int .i64 (a5:Int),.int .i64 (a6:Int)]) Tf.a317 Tf.s317 rfl hB1 Yc rfl rfl Yj rfl trivial<|iH (cs:=[.int .i64 ((oX (oX m (2^low m)) (2^k):Nat):Int),.int .i64 (a0:Int),.int .i64 (a1:Int),.int .i64 (a2:Int),.int .i64 (a3:Int),.int .i64 (a4:Int),.int .i64 (a5:Int),.int .i64 (a6:Int)]) rfl Tf.p367 Tf.z367 rfl Yg rfl trivial<|dL (A:=[]) (ν:=[(_,_),(_,_)]) (B:=[]) rfl rfl rfl rfl (aMD (fun p hp=>aMB.2 ⟨p,hp,rfl⟩)) (j8 (cs:=[_,_,_,_])) (fun D7 hD7=>ih _ (ME hm0) _ rfl (Q1 (Q1 hbits)) es1 cl1 M1 D7 (hS.up sK.up (hD7 _ Ye)) hM1 hok1) rfl cW (fun v7 D8 _ hD8 hp7=>?_);obtain⟨rfl,es5,cl5,M5,rfl,hM5,hok5⟩:=hp7;refine Zw rfl<|pU rfl rfl rfl rfl trivial<|Zi rfl<|Zaa<|Zak<|Zag<|C.rg<|Zw rfl<|Za rfl<|Zaa ?_;exact aG 30 (k+1,es5,cl5,M5) ⟨by simp only;omega,hM5,hok5⟩ Yl ⟨Ya,(by rw[aDZ hbit];show some (Value.int _ _)=some (Value.int _ _);congr 2;simp only;omega),cW⟩ rfl rfl (LT _) (fun D h=>⟨D,aRH _ (h),Le.refl D⟩)
    ·have hbit:(oX m (2^low m)&&& [a0,a1,a2,a3,a4,a5,a6].getD (low m) 0).testBit k=false:=by rw[kK]at hc4;simpa using hc4
     refine bB<|Zak<|Zag<|C.rg<|Zw rfl<|Za rfl<|Zaa ?_;exact aG 17 (k+1,es1,cl1,M1) ⟨by simp only;omega,hM1,hok1⟩ Yl ⟨Ya,(by rw[aGX hbit];rfl),cW⟩ rfl rfl (LT _) (aD)
   ·obtain rfl:k=chs.length:=by omega
    refine aP<|Zaj<|Zaj<|Zam<|Zag<|aK<|C.drawA [] 3 7 48 (fun _ _ _ h=>aW (P:=Tryz.prog) (fn:=Tryz.f245) _ _ _ h)<|Za rfl<|Zad rfl<|Zj rfl Tf.f311_1 rfl<|Zl rfl Tf.a309 rfl (List.Mem.head _) rfl<|Zq rfl Tf.a367 rfl hB1 Tf.s367 ?_;refine Za rfl<|SY (val:=qB (n:=8)) (A:=[(_,_)]) (B:=[]) (a:=⟨[(m:Int),(a0:Int),(a1:Int),(a2:Int),(a3:Int),(a4:Int),(a5:Int),(a6:Int)],rfl⟩) rfl U309 UV.key rfl rfl rfl hM1 cW (fun es3 cl3 M3 hM3 hm3=>L.n3<|Za rfl<|Zi rfl<|L.n5 ?_);exact Zx [] [] [_,_] [_] rfl ⟨rfl,cW⟩ rfl (fun D hD=>⟨by show Value.int _ _=_;rw[VU hm0],es3,cl3,M3,rfl,hM3,aBR hok1 hm3 (by rw[VU hm0])⟩)
end L7
end Go.Fs
namespace Go.Fs
open Go.Proofs
namespace L7
open C7
structure BH(n:Nat)(s:Sc):Prop where
 len:s.fits.length=7
 row:∀f∈s.fits,f<128
 bits:∀x,s.broken.testBit x=true→x<n
 whole:s.whole≤7
def pH(n:Nat)(s:Sc):Nat:=s.whole+p4 s.fits n s.broken
theorem aGH{α:Type}{l:List α}(h:l.length=7):∃a b c d e f g,l=[a,b,c,d,e,f,g]:=by
 match l,h with
 | [a,b,c,d,e,f,g],_=>exact⟨a,b,c,d,e,f,g,rfl⟩
theorem f6{y:bJ}{t:List Pt}(hl:t.length=y.chairs.length)(h7:t.length≤7):BH y.chairs.length (dQ y t):=by
 refine⟨by simp[dQ],fun f hf=>?_,fun x hx=>?_,?_⟩
 ·obtain⟨j,_,rfl⟩:=aMB.1 hf;have h1:=p9 (mY y t j) t.length;have h2:2^t.length≤2^7:=aPQ Yd h7;omega
 ·simp only[dQ]at hx;rw[qW]at hx;simp at hx;omega
 ·have:whole t≤t.length:=aPD _ _;simp only[dQ];omega
def GG(l:List (Int×Int)):List Value:=l.flatMap fun p=>[.int .i64 p.1,.int .i64 p.2]
theorem CE(l:List (Int×Int))(p:Int×Int):GG (l++[p])=GG l++[.int .i64 p.1,.int .i64 p.2]:=by simp[GG]
theorem wO(l:List (Int×Int)):(GG l).length=l.length*2:=by
 induction l with
 |nil=>rfl
 |cons c l ih=>unfold GG at ih ⊢;rw[aNQ,aLY,ih];simp only[aMI,aNX];omega
theorem aCN{l:List (Int×Int)}{i:Nat}{c:Int×Int}(hi:l[i]?= some c):((GG l).drop (i*2)).take 2=[.int .i64 c.1,.int .i64 c.2]:=by
  induction l generalizing i with
  |nil=>simp at hi
  |cons d l ih=>
    unfold GG at ih ⊢
    rw[aNQ];cases i with
    | zero => obtain rfl : d = c := by simpa using hi
              rfl
    |succ i=>
      rw[aQE,aNM Yah,aNE];have:(i+1)*2- [Value.int .i64 d.1,Value.int .i64 d.2].length=i*2:=by simp;omega
      rw[this];exact ih Yaj
theorem _root_.Go.Fs.jY.prs{D:aA}{v:Value}{n:Nat}{l:List (Int×Int)}(hF:jY D v n (GG l))(hn:l.length=n)(hb:n≤9223372036854775807):Sl D R2 2 v l:=
 hF.sl hn hb fun _i _t hi=>⟨_,rfl,rfl,aCN hi⟩
theorem UH(wb mb:Nat)(cv qv:Value)(fit:Int)(chs:List Ch)(w b:Nat)(a0 a1 a2 a3 a4 a5 a6:Nat)(hn7:chs.length≤7)(hF:∀f∈[a0,a1,a2,a3,a4,a5,a6],f<128)(hw:w≤7)(hbits:∀x,b.testBit x=true→x<chs.length)(es:Array MapEntry)(clock:Nat)(M:List (lR 8×Int))(D:aA)(hS:Sl D sK 4 cv chs)(hM:rC qB es M)(hok:V4 chs.length M):
  T1 Tryz.prog 163 [.pointer (some ⟨wb,0,none⟩),.agg #[.int .i64 (w:Int),.int .i64 ((b:Nat):Int),.int .i64 (a0:Int),.int .i64 (a1:Int),.int .i64 (a2:Int),.int .i64 (a3:Int),.int .i64 (a4:Int),.int .i64 (a5:Int),.int .i64 (a6:Int)]] D [(wb,.cells [cv,.int .i64 fit,qv,.map (some mb)].toArray 311 (0,0)),(mb,.map es clock)] (fun _ v ν'=>v=.int .i64 ((w+p4 [a0,a1,a2,a3,a4,a5,a6] chs.length b:Nat):Int)∧∃es' clock' M',ν'=[(wb,.cells [cv,.int .i64 fit,qv,.map (some mb)].toArray 311 (0,0)),(mb,.map es' clock')]∧rC qB es' M'∧V4 chs.length M'):=by
 have hbl:=m7 hbits hn7;have hnl:=JA [a0,a1,a2,a3,a4,a5,a6] chs.length b;refine fZ 15 Tryz.func163 rfl rfl rfl rfl (fun h0 hwl hwn=>C.s1<|Zt rfl (fun q1 E1 hE1 hB1=>Zi rfl<|L.n2<|iS hB1 Ye (fun hq1=>?_)));have hq1:q1∉[wb,mb]:=hq1;refine iE [wb,mb] 4 [0,1,2,3,4,5,6,7,8,9,10] [false,false,true,true,true,true,true,true,true,false,false] [(false,0),(false,1),(true,2),(true,3),(true,4),(true,5),(true,6),(true,7),(true,8),(false,9),(false,10)] Tf.follows (fun _ _ _ h=>aW (P:=Tryz.prog) (fn:=Tryz.f163) _ _ _ h) Yg rfl<|Zj rfl Tf.f319_0 rfl<|bC rfl (k:=0) Tf.a3 rfl hB1 Yc rfl Yj rfl trivial<|Za rfl<|Zj rfl Tf.f319_1 rfl<|bC rfl (k:=1) Tf.a3 rfl hB1 Yc rfl Yj rfl trivial<|Zj rfl Tf.f319_2 rfl<|cR rfl (k:=2) (us:=[.int .i64 (a0:Int),.int .i64 (a1:Int),.int .i64 (a2:Int),.int .i64 (a3:Int),.int .i64 (a4:Int),.int .i64 (a5:Int),.int .i64 (a6:Int)]) Tf.a317 Tf.s317 rfl hB1 Yc rfl rfl Yj rfl trivial<|iH (cs:=[.int .i64 ((b:Nat):Int),.int .i64 (a0:Int),.int .i64 (a1:Int),.int .i64 (a2:Int),.int .i64 (a3:Int),.int .i64 (a4:Int),.int .i64 (a5:Int),.int .i64 (a6:Int)]) rfl Tf.p367 Tf.z367 rfl Yg rfl trivial<|dL (A:=[]) (ν:=[(_,_),(_,_)]) (B:=[]) rfl rfl rfl rfl (by first|exact Or.inl rfl|exact Or.inr (fun p hp=>aMB.2 ⟨p,hp,rfl⟩)) (j8 (cs:=[_,_,_,_])) (fun D5 hD5=>ZN wb mb cv qv fit chs a0 a1 a2 a3 a4 a5 a6 hn7 hF _ b rfl hbits es clock M D5 (hS.up sK.up (hD5 _ Ye)) hM hok) rfl cW (fun v5 D6 _ hD6 hp5=>?_);obtain⟨rfl,es1,cl1,M1,rfl,hM1,hok1⟩:=hp5;refine Zw rfl<|Zi rfl<|L.n5 ?_;exact Zx [] [] [_,_] [_] rfl ⟨rfl,cW⟩ rfl (fun D hD=>⟨by show Value.int _ _=_;congr 1,es1,cl1,M1,rfl,hM1,hok1⟩)
theorem aCG(wb mb:Nat)(cv qv:Value)(fit:Int)(chs:List Ch)(s:Sc)(hn7:chs.length≤7)(hs:BH chs.length s)(es:Array MapEntry)(clock:Nat)(M:List (lR 8×Int))(D:aA)(hS:Sl D sK 4 cv chs)(hM:rC qB es M)(hok:V4 chs.length M):
  T1 Tryz.prog 163 [.pointer (some ⟨wb,0,none⟩),GO s] D [(wb,.cells [cv,.int .i64 fit,qv,.map (some mb)].toArray 311 (0,0)),(mb,.map es clock)] (fun _ v ν'=>v=.int .i64 (pH chs.length s:Int)∧∃es' clock' M',ν'=[(wb,.cells [cv,.int .i64 fit,qv,.map (some mb)].toArray 311 (0,0)),(mb,.map es' clock')]∧rC qB es' M'∧V4 chs.length M'):=by
 obtain⟨w,b,F⟩:=s;obtain⟨a0,a1,a2,a3,a4,a5,a6,rfl⟩:=aGH hs.len;exact UH wb mb cv qv fit chs w b a0 a1 a2 a3 a4 a5 a6 hn7 hs.row hs.whole hs.bits es clock M D hS hM hok
end L7
end Go.Fs
namespace Go.Fs
open Go.Proofs
namespace L7
open C7
structure aKS(y:bJ):Prop where
 len:y.chairs.length≤7
 cls:y.claims.length≤5
 fit:0≤y.fit∧y.fit≤9
 size:∀c∈y.chairs,0≤c.size∧c.size≤9
 part:∀c∈y.chairs,∀n∈c.parts.l,0≤n∧n≤2
 claim:∀r∈y.claims,0≤r.1∧r.1≤r.2∧r.2≤7
 unk:iZ y.chairs≤8
theorem aLF{y:bJ}(h:aU y=0):aKS y:=by
 unfold aU at h;split at h
 ·omega
 ·rename_i h1;split at h
  ·omega
  ·rename_i h2;split at h
   ·omega
   ·rename_i h3;have h4:wN y=true:=by simpa using h2
    simp only[wN,aMC,aMU,cD]at h4;obtain⟨⟨h5,h6⟩,h7⟩:=h4;refine⟨by omega,by omega,h5,fun c hc=>?_,fun c hc n hn=>?_,fun r hr=>?_,by omega⟩
    ·have:=h6 c hc;simp only[iF,aMC,cD]at this;exact this.1
    ·have:=h6 c hc;simp only[iF,aMC,LQ,aMU]at this
     exact cD.1 (this.2 n hn)
    ·have:=h7 r hr;simp only[lC,aMC,aMV]at this;exact⟨this.1.1,this.1.2,this.2⟩
theorem aCE{y:bJ}{t:List Pt}(h:nM y t=true):t.length=y.chairs.length∧∀p∈t,g8 p:=by
 unfold nM at h;simp only[aMC,aMV,aMU]at h;refine⟨h.1,fun p hp=>?_⟩;obtain⟨i,hi⟩:=aPW.1 hp;obtain⟨hlt,_⟩:=aMH.1 hi;have hc:y.chairs[i]?= some (y.chairs[i]'Yd):=LE _;have:=h.2 (y.chairs[i]'Yd,p) (aLW (i:=i) (by rw[List.getElem?_zip_eq_some];exact⟨hc,hi⟩))
 simp only[KY,Pt.l,aQW,List.zip_nil_left,List.all_cons,List.all_nil,Bool.and_true,aMC,B4,cD]at this;exact⟨this.1.1,this.2.1.1,this.2.2.1⟩
def sP(cl:List (Int×Int))(out:List Int)(n:Int)(i:Nat):Bool:=(out.any fun x=>decide ((i:Int)=x))||(match cl[i]? with|some r=>fP n r.1 r.2|none=>true)
def nD(cl:List (Int×Int))(out:List Int)(n:Int):Bool:=(List.range cl.length).all (sP cl out n)
theorem NZ{cl:List (Int×Int)}{out:List Int}{n:Int}{i:Nat}{r:Int×Int}(hr:cl[i]?= some r)(h:((!out.any fun x=>decide ((i:Int)=x))&& !fP n r.1 r.2)=false):sP cl out n i=true:=by
 unfold sP;rw[hr];revert h
 cases out.any fun x=>decide ((i:Int)=x)<;>simp
theorem N3{cl:List (Int×Int)}{out:List Int}{n:Int}{i:Nat}{r:Int×Int}(hi:i<cl.length)(hr:cl[i]?= some r)(h:((!out.any fun x=>decide ((i:Int)=x))&& !fP n r.1 r.2)=true):nD cl out n=false:=by
 unfold nD;rw[List.all_eq_false];refine⟨i,aPF.2 hi,?_⟩;unfold sP;rw[hr];revert h
 cases out.any fun x=>decide ((i:Int)=x)<;>simp
theorem C0{cl:List (Int×Int)}{out:List Int}{n:Int}(h:∀j,j<cl.length→sP cl out n j=true):nD cl out n=true:=by
 unfold nD;rw[aMU];exact fun j hj=>h j (aPF.1 hj)
def O9(y:bJ)(t:List Pt):Nat:=pH y.chairs.length (dQ y t)
theorem I9(yv:Value)(y:bJ)(cv qv:Value)(D:aA)(hy:yv=.agg #[cv,.int .i64 y.fit,qv]):DH Tryz.prog 97 #[yv] D (fun _ v ν=>∃wb mb,v=.pointer (some ⟨wb,0,none⟩)∧ν=[(wb,.cells [cv,.int .i64 y.fit,qv,.map (some mb)].toArray 311 (0,0)),(mb,.map #[] 0)]):=by
 subst hy;refine lZ 7 Tryz.func97 rfl rfl rfl rfl fun h0=>C.s1<|Zt rfl (fun q1 E1 hE1 hB1=>Zi rfl<|L.n3<|Zq rfl Tf.a40 rfl hB1 Tf.s40<|qE rfl rfl cW (fun qm=>Zr [cv,.int .i64 y.fit,qv,.map (some qm)] rfl Tf.p311 Tf.z311 rfl rfl<|j0 rfl (e:=311) rfl rfl rfl cW (fun q2=>Zi rfl<|L.n5 ?_)))
 exact leave1 rfl rfl rfl rfl (fun D hD=>⟨_,_,rfl,rfl⟩)
theorem XQ(sv:Value)(xs:List Int)(n:Int)(D:aA)(hS:Sl D RI 1 sv xs):Fn Tryz.prog 230 #[sv,.int .i64 n] D (fun _ v=>v=.int .i64 (idxOf (fun x=>decide (n=x)) xs)):=by
 have hl:=hS.len;refine enter 19 Tryz.func230 rfl rfl rfl rfl fun h0=>C.s1<|Zi rfl<|L.n4<|Za rfl<|aO rfl U25 rfl Yk rfl rfl trivial<|Za rfl<|L.n1<|Zai<|bT (γ:=Nat) (fun k=>xs.length-k) (fun k=>k≤xs.length∧(xs.take k).any (fun x=>decide (n=x))=false) (fun k=>[(8,.int .i64 k)]) [(7,_),(4,_),(0,_),(1,_)] (fun k=>[D]) 0 Ye ⟨Ya,cW⟩ C.rs (aD) ?_
 rintro k ⟨h1,h2⟩;refine C.s1<|Zac rfl<|L.n2<|aE rfl (fun hc1=>?_) (fun hc1=>?_)
 ·have hk:k<xs.length:=by omega
  obtain⟨x,hx⟩:=C.ge xs k;refine C.kn<|aK<|Zai<|C.s1<|Za rfl<|Zi rfl<|L.n3<|Za rfl<|Za rfl<|Za rfl<|cT rfl U25 Tf.s3 rfl Yk rfl Yd Yk rfl cW (fun b1 o1 cs1 hr1 hcl1 hA1=>?_);obtain rfl:cs1=[.int .i64 _]:=hr1;refine Zc 0 rfl Tf.a3 rfl hA1 rfl<|dU rfl rfl rfl rfl trivial<|L.n1<|aE rfl (fun hc2=>?_) (fun hc2=>?_)
  ·refine C.s1<|Za rfl<|Zi rfl<|L.n5<|Zal<|Zah<|Zah<|Zal<|Zah ?_;exact leave1 rfl rfl rfl rfl (fun D hD=>by show Value.int _ _=_;rw[gZ hx h2 (by simp[hc2])])
  ·refine bB<|Zak<|Zag<|C.rg<|Zw rfl<|Za rfl<|Zaa ?_;have h3:(xs.take (k+1)).any (fun x=>decide (n=x))=false:=by rw[aMN,hx,aOY,h2];simp[hc2]
   exact aG 12 (k+1) ⟨by omega,h3⟩ Yd ⟨Ya,cW⟩ rfl rfl (LT _) (aD)
 ·refine aP<|Zaj<|Zaj<|Zam<|Zag<|C.s1<|Zi rfl<|L.n5 ?_;exact leave1 rfl rfl rfl rfl (fun D hD=>by show Value.int _ _=_;rw[fA Yac])
theorem tY(sv:Value)(xs:List Int)(n:Int)(D:aA)(hS:Sl D RI 1 sv xs):Fn Tryz.prog 151 #[sv,.int .i64 n] D (fun _ v=>v=.bool (xs.any fun x=>decide (n=x))):=by
 refine enter 9 Tryz.func151 rfl rfl rfl rfl fun h0=>C.s1<|Zi rfl<|L.n3<|Za rfl<|Za rfl<|Ze rfl (fun D1 hD1=>XQ _ xs n _ (Sl.at RI.up hD1 Yk Ye))<|oT rfl rfl rfl rfl trivial<|Zi rfl<|L.n5 ?_
 exact leave1 rfl rfl rfl rfl (fun D hD=>by show Value.bool (decide _)=_;rw[gX])
theorem P9(yv:Value)(y:bJ)(n:Int)(ov:Value)(out:List Int)(D:aA)(hy:kR D yv y)(ho:Sl D RI 1 ov out):Fn Tryz.prog 164 #[yv,.int .i64 n,ov] D (fun _ v=>v=.bool (nD y.claims out n)):=by
 obtain⟨cv,qv,rfl,hc,hq⟩:=hy;have hl:=hq.len;refine enter 28 Tryz.func164 rfl rfl rfl rfl fun h0=>C.s1<|Zt rfl (fun q1 E1 hE1 hB1=>Zi rfl<|L.n4<|Zj rfl Tf.f40_2 rfl<|Zc 2 rfl Tf.a38 rfl hB1 rfl<|aO rfl U38 rfl hq rfl rfl trivial<|Za rfl<|L.n1<|Zai<|bT (γ:=Nat) (fun i=>y.claims.length-i) (fun i=>i≤y.claims.length∧∀j,j<i→sP y.claims out n j=true) (fun i=>[(12,.int .i64 (i:Int))]) [(11,_),(10,_),(6,_),(1,_),(2,_)] (fun i=>[E1,D]) 0 Ye ⟨Ya,cW⟩ C.rs (aD) ?_)
 rintro i ⟨h1,h2⟩;refine C.s1<|Zac rfl<|L.n2<|aE rfl (fun hc1=>?_) (fun hc1=>?_)
 ·have hi:i<y.claims.length:=by omega
  obtain⟨r,hr0⟩:=C.ge y.claims i;refine C.kn<|aK<|Zai<|C.s1<|Za rfl<|Zp rfl U38 Tf.s133 rfl hq rfl hr0 (fun b1 o1 cs1 hr1 hcl1 hA1=>?_);obtain rfl:cs1=[.int .i64 _,.int .i64 _]:=hr1;refine Zq rfl Tf.a133 rfl hA1 Tf.s133<|Zv rfl Tf.z133 rfl (fun q2=>Zi rfl<|Zu rfl Tf.s133 (bS.head)<|L.n3<|Za rfl<|Za rfl<|Ze rfl (fun D1 hD1=>tY _ out (i:Int) _ (Sl.at RI.up hD1 Yk Ye))<|Zae rfl<|Za rfl ?_);refine' L.anK 5 (s:=21) (p:=26) rfl (fun hg1=>?_) (fun hg1=>?_) ?_;rotate_left
  ·refine bA rfl Tf.a133 rfl (GE _) Tf.s133 GT rfl ⟨_,rfl,rfl⟩<|Zb rfl<|Zf rfl (fun D2 hD2=>P0 r n _)<|jD rfl rfl rfl ⟨_,rfl,rfl⟩<|Zy rfl ?_;exact L.cu 4
  ·refine Zh rfl<|Zh rfl<|Zh rfl<|Zh rfl<|Zz rfl ?_;exact L.cu 4
  refine L.n1<|aI rfl (fun hc2=>?_) (fun hc2=>?_)
  ·refine C.s1<|Zi rfl<|L.n5<|Zal<|Zah<|Zah<|Zal<|Zah ?_;exact leave1 rfl rfl rfl rfl (fun D hD=>by show Value.bool _=_;rw[N3 hi hr0 hc2])
  ·refine bB<|Zak<|Zag<|C.rg<|Zw rfl<|Za rfl<|Zaa ?_;exact aG 15 (i+1) ⟨by omega,fun j hj=>by rcases Nat.lt_succ_iff_lt_or_eq.1 hj with h|rfl;exact h2 j h;exact NZ hr0 hc2⟩ Yd ⟨Ya,cW⟩ rfl rfl (List.Sublist.cons _ (LT _)) (aD)
 ·obtain rfl:i=y.claims.length:=by omega
  refine aP<|Zaj<|Zaj<|Zam<|Zag<|C.s1<|Zi rfl<|L.n5 ?_;exact leave1 rfl rfl rfl rfl (fun D hD=>by show Value.bool _=_;rw[C0 h2])
end L7
end Go.Fs
namespace Go.Fs
open Go.Proofs
namespace L2
open L1
open C2
open C1 (fP cD pZ oH)
theorem y7{c:List Int}{a b:Int}(h10:c.length=10)(h0:0≤a)(h1:a≤b)(h9:b≤9):∃x xs,(c.drop a.toNat).take ((b+1).toNat-a.toNat)=x::xs∧xs.foldl max x=jQ c a b:=by
 have hlen:((c.drop a.toNat).take ((b+1).toNat-a.toNat)).length=(b+1).toNat-a.toNat:=by simp;omega
 cases h:(c.drop a.toNat).take ((b+1).toNat-a.toNat)with
 |nil=>rw[h]at hlen;simp at hlen;omega
 |cons x xs=>
  refine⟨x,xs,rfl,?_⟩;unfold jQ;rw[show(b+1-a).toNat=(b+1).toNat-a.toNat by omega,h];rfl
def O4(s:List Int)(m:Mk):Bool:=fP (jQ s m.frm m.to) m.lo m.hi
theorem GL{last:Int}{m:Mk}(h:qI last m=true):0≤m.frm∧m.frm≤m.to∧m.to≤last∧0≤m.lo∧m.lo≤m.hi∧m.hi≤99:=by
 unfold qI oI f7 fO dW at h;simp only[aMC,aMV,cD]at h;omega
theorem JZ{t:aY}{c:List Int}{k:Nat}{m:Mk}(hx:t.marks[k]?= some m)(h2:(t.marks.take k).all (O4 c)=true)(h:((!([]:List Int).any fun x=>decide ((k:Int)=x))&& !fP (jQ c m.frm m.to) (m.lo,m.hi).1 (m.lo,m.hi).2)=false):(t.marks.take (k+1)).all (O4 c)=true:=by
 rw[aMN,hx,List.all_append,h2];simpa [O4]using h
theorem N3{t:aY}{c:List Int}{k:Nat}{m:Mk}(hx:t.marks[k]?= some m)(h:((!([]:List Int).any fun x=>decide ((k:Int)=x))&& !fP (jQ c m.frm m.to) (m.lo,m.hi).1 (m.lo,m.hi).2)=true):lE t c=false:=by
 unfold lE;rw[List.all_eq_false];exact⟨m,aLW hx,by simpa using h⟩
theorem C0{t:aY}{c:List Int}{k:Nat}(h2:(t.marks.take k).all (O4 c)=true)(hk:t.marks.length≤k):lE t c=true:=by
 rw[aNA hk]at h2;exact h2
theorem QH(l:List (Int×Int))(r:Int×Int):mQ (l++[r])=min (mQ l*fD r) 2001:=by
 unfold mQ;rw[aOA];rfl
theorem f9{t:aY}{k:Nat}{r:Int×Int}(hx:t.heights[k]?= some r):mQ (t.heights.take (k+1))=min (mQ (t.heights.take k)*fD r) 2001:=by
 rw[aMN,hx];exact QH _ _
theorem aLR{t:aY}(h:z8 t)(k:Nat):0≤mQ (t.heights.take k)∧mQ (t.heights.take k)≤2001:=by
 induction k with
 |zero=>simp[mQ]
 |succ k ih=>
  cases hx:t.heights[k]? with
  |none=>rw[aMN,hx,Option.toList_none,aME];exact ih
  |some r=>
   rw[f9 hx];have h1:=nH (h.hts r (aLW hx));have h2:0≤fD r:=by unfold fD;omega
   have h3:=Int.mul_nonneg ih.1 h2;omega
theorem XZ{t:aY}(h:z8 t)(k:Nat){r:Int×Int}(hr:fO r=true):0≤mQ (t.heights.take k)*fD r∧mQ (t.heights.take k)*fD r≤200100:=by
 have h0:=aLR h k;have h1:=nH hr;have h2:0≤fD r∧fD r≤100:=by unfold fD;omega
 have h3:=Int.mul_nonneg h0.1 h2.1;have h4:=Int.mul_le_mul h0.2 h2.2 h2.1 Yd;omega
theorem zO{t:aY}{b:Bool}(h:((decide ((9:Int)<t.last)||decide ((6:Int)<(t.levels.length:Int)))||decide ((5:Int)<(t.marks.length:Int)))=b):aCZ t=b:=h
theorem XT{t:aY}(h:((decide ((9:Int)<t.last)||decide ((6:Int)<(t.levels.length:Int)))||decide ((5:Int)<(t.marks.length:Int)))=false):t.last≤9:=by
 simp only[aOM,aNV]at h;omega
theorem EC{t:aY}{b:Bool}(h:(((((decide (t.last<0)||decide ((t.heights.length:Int)≠t.last+1))|| !t.heights.all fO)|| !dW t.step)|| !t.levels.all dW)|| !t.marks.all (qI t.last))=b):aJH t= !b:=by
 subst h;unfold aJH;have e1:decide (t.last<0)= !decide (0≤t.last):=by by_cases h:t.last<0<;>simp[h]<;>omega
 have e2:decide ((t.heights.length:Int)≠t.last+1)= !decide ((t.heights.length:Int)=t.last+1):=by simp
 rw[e1,e2];cases decide (0≤t.last)<;>cases decide ((t.heights.length:Int)=t.last+1)<;>cases t.heights.all fO<;>cases dW t.step<;>cases t.levels.all dW<;>cases t.marks.all (qI t.last)<;>rfl
section
variable{t:aY}(h1:((decide ((9:Int)<t.last)||decide ((6:Int)<(t.levels.length:Int)))||decide ((5:Int)<(t.marks.length:Int)))=false)
theorem NX(h1:((decide ((9:Int)<t.last)||decide ((6:Int)<(t.levels.length:Int)))||decide ((5:Int)<(t.marks.length:Int)))=true):aU t=3:=by unfold aU;rw[aMT (zO h1)]
include h1
theorem aLJ(h2:(((((decide (t.last<0)||decide ((t.heights.length:Int)≠t.last+1))|| !t.heights.all fO)|| !dW t.step)|| !t.levels.all dW)|| !t.marks.all (qI t.last))=false):z8 t:=aLQ (zO h1) (EC h2)
theorem C5(h2:(((((decide (t.last<0)||decide ((t.heights.length:Int)≠t.last+1))|| !t.heights.all fO)|| !dW t.step)|| !t.levels.all dW)|| !t.marks.all (qI t.last))=true):aU t=1:=by
 unfold aU;rw[aMM (by simp[zO h1]),aMT (show aJH t=false from EC h2)]
variable(h2:(((((decide (t.last<0)||decide ((t.heights.length:Int)≠t.last+1))|| !t.heights.all fO)|| !dW t.step)|| !t.levels.all dW)|| !t.marks.all (qI t.last))=false)
include h2
theorem JX(h4:2000<mQ t.heights):aU t=3:=by
 unfold aU;rw[aMM (by simp[zO h1]),aMM (by simp[EC h2]),aMT h4]
theorem IV(h4:¬2000<mQ t.heights)(hn:fK t=[]):aU t=9:=by
 unfold aU;rw[aMM (by simp[zO h1]),aMM (by simp[EC h2]),aMM h4,aMT hn]
theorem qK(h4:¬2000<mQ t.heights)(hn:fK t≠[]):aU t=0:=by
 unfold aU;rw[aMM (by simp[zO h1]),aMM (by simp[EC h2]),aMM h4,aMM hn]
end
theorem N4(c:List Int)(a b:Int)(D:aA)(h10:c.length=10)(h0:0≤a)(h1:a≤b)(h9:b≤9):Fn Tryz.prog 144 #[.agg (ints c).toArray,.int .i64 a,.int .i64 b] D (fun _ v=>v=.int .i64 (jQ c a b)):=by
 obtain⟨x,xs,hx,hv⟩:=y7 h10 h0 h1 h9;refine enter 12 Tryz.func144 rfl rfl rfl rfl fun h0=>C.s1<|Zt rfl (fun q1 E1 hE1 hB1=>Zi rfl<|L.n3<|Za rfl<|Za rfl<|Zw rfl<|OT (l:=a.toNat) (h:=(b+1).toNat) rfl U282 Tf.s3 rfl rfl rfl Yd Yd Yd Yd Yd rfl trivial<|Ze rfl (fun D1 hD1=>YF _ x xs _ (hx▸(LX (l:=a.toNat) (h:=(b+1).toNat) hB1 h10 Yd Yd Yd).up RI.up (hD1 _ Ye)))<|Zi rfl<|L.n5 ?_)
 exact leave1 rfl rfl rfl rfl (fun D hD=>by show Value.int _ _=_;rw[hv])
theorem P9(tv:Value)(t:aY)(c:List Int)(D:aA)(ht:gI D tv t)(hto:z8 t)(h10:c.length=10):Fn Tryz.prog 139 #[tv,.agg (ints c).toArray,.slice none 0 0] D (fun _ v=>v=.bool (lE t c)):=by
 obtain⟨hv,lv,mv,rfl,hh,hl,hm⟩:=ht;have hll:=hm.len;have hlast:=hto.last;refine enter 34 Tryz.func139 rfl rfl rfl rfl fun h0=>C.s1<|Zt rfl (fun q1 E1 hE1 hB1=>Zt rfl (fun q2 E2 hE2 hB2=>Zi rfl<|L.n4<|Zj rfl Tf.f32_4 rfl<|Zc 4 rfl Tf.a30 rfl hB1 rfl<|aO rfl U30 rfl hm rfl rfl trivial<|Za rfl<|L.n1<|Zai ?_));refine bT (γ:=Nat) (fun k=>t.marks.length-k) (fun k=>k≤t.marks.length∧(t.marks.take k).all (O4 c)=true) (fun k=>[(12,.int .i64 (k:Int))]) [(11,_),(10,_),(6,_),(4,_),(2,_)] (fun k=>[E2,E1,D]) 0 Ye ⟨Ya,cW⟩ C.rs (aD) ?_
 rintro k ⟨h1,h2⟩;refine C.s1<|Zac rfl<|L.n2<|aE rfl (fun hc1=>?_) (fun hc1=>?_)
 ·have hk:k<t.marks.length:=by omega
  obtain⟨m,hx⟩:=C.ge t.marks k;have hmb:=GL (hto.mark m (aLW hx));refine C.kn<|aK<|Zai<|C.s1<|Za rfl<|Zp rfl U30 Tf.s158 rfl hm rfl hx (fun b1 o1 cs1 hr1 hcl1 hA1=>?_);obtain rfl:cs1=[.int .i64 _,.int .i64 _,.int .i64 _,.int .i64 _]:=hr1;refine Zq rfl Tf.a158 rfl hA1 Tf.s158<|Zv rfl Tf.z158 rfl (fun q3=>Zi rfl<|Zu rfl Tf.s158 (bS.head)<|L.n2<|C.drawA [] 5 16 8066 (fun _ _ _ h=>bP (P:=Tryz.prog) (fn:=Tryz.f139) _ _ _ h)<|Za rfl<|Za rfl<|Ze rfl (fun D1 hD1=>L7.tY _ [] (k:Int) _ Sl.nil)<|Zae rfl<|Za rfl ?_);refine' L.anK 11 (s:=21) (p:=32) rfl (fun hg1=>?_) (fun hg1=>?_) ?_;rotate_left
  ·refine Zk rfl Tf.f158_2 rfl<|dM rfl Tf.a99 Tf.s99 rfl (List.Mem.head _) rfl rfl GT rfl ⟨_,rfl,rfl⟩<|cU rfl Tf.a282 rfl hB2 Yc Yx GT rfl ⟨_,rfl,rfl⟩<|Zk rfl Tf.f158_0 rfl<|aT rfl Tf.a3 rfl (List.Mem.head _) rfl GT rfl ⟨_,rfl,rfl⟩<|Zk rfl Tf.f158_1 rfl<|aT rfl Tf.a3 rfl (List.Mem.head _) rfl GT rfl ⟨_,rfl,rfl⟩<|Zf rfl (fun D2 hD2=>N4 c m.frm m.to _ h10 hmb.1 hmb.2.1 Yd)<|Zf rfl (fun D3 hD3=>P0 (m.lo,m.hi) _ _)<|jD rfl rfl rfl ⟨_,rfl,rfl⟩<|Zy rfl ?_;exact L.cu 10
  ·refine Zh rfl<|Zh rfl<|Zh rfl<|Zh rfl<|Zh rfl<|Zh rfl<|Zh rfl<|Zh rfl<|Zh rfl<|Zh rfl<|Zz rfl ?_;exact L.cu 10
  refine L.n1<|aI rfl (fun hc2=>?_) (fun hc2=>?_)
  ·refine C.s1<|Zi rfl<|L.n5<|Zal<|Zah<|Zah<|Zal<|Zah ?_;exact leave1 rfl rfl rfl rfl (fun D hD=>by show Value.bool _=_;rw[N3 hx hc2])
  ·refine bB<|Zak<|Zag<|C.rg<|Zw rfl<|Za rfl<|Zaa ?_;exact aG 15 (k+1) ⟨by omega,JZ hx h2 hc2⟩ Yd ⟨Ya,cW⟩ rfl rfl (List.Sublist.cons _ (LT _)) (aD)
 ·refine aP<|Zaj<|Zaj<|Zam<|Zag<|C.s1<|Zi rfl<|L.n5 ?_;exact leave1 rfl rfl rfl rfl (fun D hD=>by show Value.bool _=_;rw[C0 h2 Yd])
theorem wF(tv:Value)(t:aY)(D:aA)(ht:gI D tv t):Fn Tryz.prog 137 #[tv] D (fun _ v=>v=.int .i64 (aU t)):=by
 have ht0:=ht;obtain⟨hv,lv,mv,rfl,hh,hl,hm⟩:=ht;have hll:=hh.len;have hl2:=hl.len;have hl3:=hm.len;refine l9 82 Tryz.func137 rfl rfl rfl rfl fun h0=>C.s1<|Zt rfl (fun q1 E1 hE1 hB1=>Zv rfl Tf.z44 rfl (fun q2=>L.n3<|Zq rfl Tf.a32 rfl hB1 Tf.s32<|bH rfl rfl rfl rfl trivial<|Zi rfl<|L.n2<|Zai<|C.s1<|Zj rfl Tf.f32_0 rfl ?_));refine Zc 0 rfl Tf.a3 rfl hB1 rfl<|dZ rfl rfl rfl rfl trivial<|Za rfl ?_
 refine' L.orK 5 (s:=13) (p:=18) rfl (fun hg1=>?_) (fun hg1=>?_) ?_;rotate_left
 ·refine Zk rfl Tf.f32_3 rfl<|Zd 3 rfl Tf.a25 rfl hB1 rfl<|aO rfl U25 rfl hl rfl rfl ⟨_,rfl,rfl⟩<|dZ rfl rfl rfl rfl ⟨_,rfl,rfl⟩<|Zz rfl ?_;exact L.cu 4
 ·refine Zh rfl<|Zh rfl<|Zh rfl<|Zh rfl<|Zy rfl ?_;exact L.cu 4
 refine Za rfl ?_;refine' L.orK 5 (s:=19) (p:=24) rfl (fun hg2=>?_) (fun hg2=>?_) ?_;rotate_left
 ·refine Zk rfl Tf.f32_4 rfl<|Zd 4 rfl Tf.a30 rfl hB1 rfl<|aO rfl U30 rfl hm rfl rfl ⟨_,rfl,rfl⟩<|dZ rfl rfl rfl rfl ⟨_,rfl,rfl⟩<|Zz rfl ?_;exact L.cu 4
 ·refine Zh rfl<|Zh rfl<|Zh rfl<|Zh rfl<|Zy rfl ?_;exact L.cu 4
 refine Zi rfl<|L.n1<|aI rfl (fun hc1=>?_) (fun hc1=>?_)
 ·refine C.s1<|aL rfl rfl rfl rfl Tf.s44 (bS.head) Ye rfl Yi trivial<|L.n5<|Zal<|Zah ?_;exact pE (vs:=[_]) rfl rfl rfl ⟨⟨_,_,_,rfl,GE _,aMR ⟨Tf.a44,rfl⟩⟩,cW⟩ (fun D hD=>by show Value.int _ _=_;rw[NX hc1])
 ·refine C.s1<|Zj rfl Tf.f32_0 rfl<|Zc 0 rfl Tf.a3 rfl hB1 rfl<|Zac rfl<|Za rfl ?_;refine' L.orK 8 (s:=29) (p:=37) rfl (fun hg3=>?_) (fun hg3=>?_) ?_;rotate_left
  ·have hl0:0≤t.last:=by have:=hg3;simp only[aNV]at this;omega
   have hl9:t.last≤9:=XT hc1;refine Zk rfl Tf.f32_1 rfl<|Zd 1 rfl Tf.a29 rfl hB1 rfl<|aO rfl U29 rfl hh rfl rfl ⟨_,rfl,rfl⟩<|Zk rfl Tf.f32_0 rfl<|Zd 0 rfl Tf.a3 rfl hB1 rfl<|qU rfl rfl rfl Yf rfl ⟨_,rfl,rfl⟩<|mS rfl rfl rfl rfl ⟨_,rfl,rfl⟩<|Zz rfl ?_;exact L.cu 7
  ·refine Zh rfl<|Zh rfl<|Zh rfl<|Zh rfl<|Zh rfl<|Zh rfl<|Zh rfl<|Zy rfl ?_;exact L.cu 7
  refine Za rfl ?_;refine' L.orK 5 (s:=38) (p:=43) rfl (fun hg4=>?_) (fun hg4=>?_) ?_;rotate_left
  ·refine Zk rfl Tf.f32_1 rfl<|Zd 1 rfl Tf.a29 rfl hB1 rfl<|Zf rfl (fun D1 hD1=>s7 _ _ _ fO _ (Sl.at I2.up hD1 Yk Ye) (.of fun x D2=>R7 x D2) rfl)<|jD rfl rfl rfl ⟨_,rfl,rfl⟩<|Zz rfl ?_;exact L.cu 4
  ·refine Zh rfl<|Zh rfl<|Zh rfl<|Zh rfl<|Zy rfl ?_;exact L.cu 4
  refine Za rfl ?_;refine' L.orK 5 (s:=44) (p:=49) rfl (fun hg5=>?_) (fun hg5=>?_) ?_;rotate_left
  ·refine Zk rfl Tf.f32_2 rfl<|Zd 2 rfl Tf.a3 rfl hB1 rfl<|Zf rfl (fun D2 hD2=>vA _ _)<|jD rfl rfl rfl ⟨_,rfl,rfl⟩<|Zz rfl ?_;exact L.cu 4
  ·refine Zh rfl<|Zh rfl<|Zh rfl<|Zh rfl<|Zy rfl ?_;exact L.cu 4
  refine Za rfl ?_;refine' L.orK 5 (s:=50) (p:=55) rfl (fun hg6=>?_) (fun hg6=>?_) ?_;rotate_left
  ·refine Zk rfl Tf.f32_3 rfl<|Zd 3 rfl Tf.a25 rfl hB1 rfl<|Zf rfl (fun D3 hD3=>xY _ _ _ dW _ (Sl.at RI.up hD3 Yk Ye) (.of fun x D2=>vA x D2) rfl)<|jD rfl rfl rfl ⟨_,rfl,rfl⟩<|Zz rfl ?_;exact L.cu 4
  ·refine Zh rfl<|Zh rfl<|Zh rfl<|Zh rfl<|Zy rfl ?_;exact L.cu 4
  refine Za rfl ?_;refine' L.orK 6 (s:=56) (p:=62) rfl (fun hg7=>?_) (fun hg7=>?_) ?_;rotate_left
  ·refine Zk rfl Tf.f32_4 rfl<|Zd 4 rfl Tf.a30 rfl hB1 rfl<|Zb rfl<|Zf rfl (fun D4 hD4=>aEB _ _ _ (qI t.last) _ (Sl.at EY.up hD4 Yk Ye) ⟨_,[_],[],rfl,fun m D2 hl=>aCT _ t m D2 (ht0.up ((hD4 _ Ye).trans hl))⟩ rfl)<|jD rfl rfl rfl ⟨_,rfl,rfl⟩<|Zz rfl ?_;exact L.cu 5
  ·refine Zh rfl<|Zh rfl<|Zh rfl<|Zh rfl<|Zh rfl<|Zy rfl ?_;exact L.cu 5
  refine Zi rfl<|L.n1<|aI rfl (fun hc2=>?_) (fun hc2=>?_)
  ·refine C.s1<|aL rfl rfl rfl rfl Tf.s44 (bS.head) Ye rfl Yi trivial<|L.n5<|Zal<|Zah ?_;exact pE (vs:=[_]) rfl rfl rfl ⟨⟨_,_,_,rfl,GE _,aMR ⟨Tf.a44,rfl⟩⟩,cW⟩ (fun D hD=>by show Value.int _ _=_;rw[C5 hc1 hc2])
  ·have hto:z8 t:=aLJ hc1 hc2;refine bB<|Zak<|Zag<|C.s1<|Zi rfl<|L.n4<|Zj rfl Tf.f32_1 rfl<|Zc 1 rfl Tf.a29 rfl hB1 rfl<|aO rfl U29 rfl hh rfl rfl trivial<|Za rfl<|L.n1<|Zai ?_;refine bT (γ:=Nat) (fun k=>t.heights.length-k) (fun k=>k≤t.heights.length) (fun k=>[(66,.int .i64 (k:Int)),(4,.int .i64 (mQ (t.heights.take k)))]) [(65,_),(64,_),(2,_),(1,_)] (fun k=>[E1,D]) 0 Yd ⟨Ya,Ya,cW⟩ C.rs (aD) ?_;rintro k h1;refine C.s1<|Zac rfl<|L.n2<|aE rfl (fun hc3=>?_) (fun hc3=>?_)
   ·have hk:k<t.heights.length:=by omega
    obtain⟨r,hx⟩:=C.ge t.heights k;have hrb:=hto.hts r (aLW hx);have hmul:=XZ hto k hrb;refine C.kn<|aK<|Zai<|C.s1<|Zp rfl U29 Tf.s99 rfl hh rfl hx (fun b1 o1 cs1 hr1 hcl1 hA1=>?_);obtain rfl:cs1=[.int .i64 _,.int .i64 _]:=hr1;refine Zq rfl Tf.a99 rfl hA1 Tf.s99<|Zv rfl Tf.z99 rfl (fun q3=>Zu rfl Tf.s99 (bS.head)<|L.n1<|C.rg<|Za rfl<|Zs rfl Tf.a99 rfl (List.Mem.head _) Tf.s99<|Ze rfl (fun D5 hD5=>NE r hrb _)<|Z9 rfl rfl rfl Yf rfl trivial<|Zn rfl U25 Tf.s3 Tf.z3 rfl rfl rfl rfl (.cons rfl rfl (.cons rfl rfl .nil)) (fun b901 D901 hD901 hA901=>?_));have hS901:=Sl.ofInts (l:=[_,_]) (n:=2) (cap:=2) hA901 rfl Yd Yd;refine Ze rfl (fun D6 hD6=>jG _ (mQ (t.heights.take k)*fD r) [2001] _ (hS901.up RI.up (hD6 _ Ye)))<|Zi rfl<|Zaa<|Zak<|Zag<|C.rg<|Zw rfl<|Za rfl<|Zaa ?_;exact aG 15 (k+1) Yd Yd ⟨Ya,(by rw[f9 hx];rfl),cW⟩ rfl rfl (List.Sublist.cons _ (LT _)) (fun D h=>⟨D,aRH _ (h),Le.refl D⟩)
   ·obtain rfl:k=t.heights.length:=by omega
    rw[aNL];refine aP<|Zaj<|Zaj<|Zam<|Zag<|C.s2<|Za rfl<|dZ rfl rfl rfl rfl trivial<|L.n1<|aE rfl (fun hc4=>?_) (fun hc4=>?_)
    ·refine C.s1<|aL rfl rfl rfl rfl Tf.s44 (bS.head) Ye rfl Yi trivial<|L.n5<|Zah ?_;exact pE (vs:=[_]) rfl rfl rfl ⟨⟨_,_,_,rfl,GE _,aMR ⟨Tf.a44,rfl⟩⟩,cW⟩ (fun D hD=>by show Value.int _ _=_;rw[JX hc1 hc2 hc4])
    ·refine C.kn<|C.s2<|Zq rfl Tf.a32 rfl hB1 Tf.s32<|bZ rfl rfl rfl (fun D7 hD7=>CA _ t _ (ht0.up (hD7 _ Ye)) hto) rfl cW (fun v7 D7 hD7 hp7=>L.n1<|Zai ?_);obtain⟨br,rfl,hit⟩:=hp7;refine pD (γ:=Unit) (xs:=(fK t).map cS) (enc:=l6) (Dr:=D7) (fun pre _=>pre=[]) (fun _ c _=>c=.ret∧fK t≠[]) (fun _=>[(q2,.cells [.int .i64 0].toArray 44 (0,0))]) () rfl rfl rfl rfl hit Ye (fun _=>rfl) rfl rfl rfl ?_ ?_ ?_
     ·rintro pre x _ ⟨us,hx⟩ hΦ l bd rec hh D7 hD7 hst hpend;refine bB ?_;refine fun a w hhh=>uW (A:=[(_,_)]) (B:=[(bd,.deferred (some []))]) (r:=rec) (l:=l) (by rfl) hst ?_ a w hhh
      refine Zai<|C.s1<|aL rfl rfl rfl rfl Tf.s44 (bS.head) Ye rfl Yi trivial<|L.n5<|Zal ?_;exact VC (A:=[(_,_)]) (B:=[(bd,.deferred (some []))]) .ret () ⟨rfl,fun e=>by rw[e]at hx;simp at hx⟩ rfl rfl
     ·rintro _ bd hΦ;have hn:fK t=[]:=by simpa using hΦ
      refine Zak<|Zag<|C.s1<|aL rfl rfl rfl rfl Tf.s44 (bS.head) Ye rfl Yi trivial<|L.n5 ?_;exact rR (vs:=[_]) (A:=[(_,_)]) rfl rfl rfl ⟨⟨_,_,_,rfl,GE _,aMR ⟨Tf.a44,rfl⟩⟩,cW⟩ (fun D hD=>by show Value.int _ _=_;rw[IV hc1 hc2 hc4 hn])
     ·rintro _ _ _ bd ⟨rfl,hne⟩;refine b7<|Zal<|Zah ?_;exact rR (vs:=[_]) (A:=[(_,_)]) rfl rfl rfl ⟨⟨_,_,_,rfl,GE _,aMR ⟨Tf.a44,rfl⟩⟩,cW⟩ (fun D hD=>by show Value.int _ _=_;rw[qK hc1 hc2 hc4 hne])
end L2
end Go.Fs
namespace Go.Fs
open Go.Proofs
namespace L2
open L1
open C2
open C1 (fP cD pZ oH)
def xG(t:aY)(pre:List (List Int))(g:Value×aC×Array MapEntry×Nat×List (Int×Int)):Prop:=
 bM 282 10 g.1 (iB t pre.length).length (wW (iB t pre.length)) g.2.1∧qD g.2.2.1 g.2.2.2.1 g.2.2.2.2∧vY (iB t pre.length) t.last g.2.2.2.2
def aKH(t:aY)(D:aA)(wv:Value)(ν:aC):Prop:=∃wb mb hv lv mv tsv es cl S,wv=.pointer (some ⟨wb,0,none⟩)∧ν=[(wb,.cells [.int .i64 t.last,hv,.int .i64 t.step,lv,mv,tsv,.map (some mb)].toArray 278 (0,0)),(mb,.map es cl)]∧
 gI D (.agg #[.int .i64 t.last,hv,.int .i64 t.step,lv,mv]) t∧Sl D V9 10 tsv (bL t)∧qD es cl S∧vY (bL t) t.last S
def zA(acc:List (List Int)):List Int:=match acc.getLast? with
 |some s=>cS s
 |none=>[]
theorem Z8{acc:List (List Int)}(h:∀s∈acc,s.length≤10)(hne:acc≠[]):(zA acc).length=10:=by
 unfold zA;rw[aPK hne];exact eM (h _ (List.getLast_mem hne))
theorem UW{acc:List (List Int)}(h:∀s∈acc,s.length≤10)(hne:acc≠[])(junk:List Value):((wW acc++junk).drop (0+(((acc.length:Int)-1).toNat)*10)).take 10=ints (zA acc):=by
 have hpos:=aPI.2 hne;unfold zA;rw[aPK hne,aPC];refine EE h ?_ junk;rw[show((acc.length:Int)-1).toNat=acc.length-1 by omega,←List.getLast?_eq_getElem?,aPK hne]
theorem aDQ{s u:List Int}(h:s.length=u.length):cS s=cS u ↔ s=u:=by
 constructor
 ·intro e;have:=aMQ (List.take s.length) e;unfold cS at this
  rwa [aQM,h,aQM]at this
 ·rintro rfl;rfl
def wB(S:List (Int×Int))(s:List Int)(k:Nat):List (Int×Int):=(List.range k).foldl (fun S (j:Nat)=>CQ S ((j:Int),s.getD j 0)) S
theorem Y0{S:List (Int×Int)}{s:List Int}{k:Nat}:wB S s (k+1)=CQ (wB S s k) ((k:Int),s.getD k 0):=by
 unfold wB;rw[aOF,aOA];rfl
theorem WN{S:List (Int×Int)}{s:List Int}{k:Nat}{p:Int×Int}:p∈wB S s k ↔ p∈S∨∃j:Nat,j<k∧p=((j:Int),s.getD j 0):=by
 induction k with
 |zero=>simp[wB]
 |succ k ih=>
  rw[Y0,WG,ih];constructor
  ·rintro((h|⟨j,hj,rfl⟩)|rfl)
   ·exact aMR h
   ·exact aMD ⟨j,by omega,rfl⟩
   ·exact aMD ⟨k,by omega,rfl⟩
  ·rintro(h|⟨j,hj,rfl⟩)
   ·exact aMR (aMR h)
   ·by_cases e:j=k
    ·subst e;exact aMD rfl
    ·exact aMR (aMD ⟨j,by omega,rfl⟩)
theorem LD{s:List Int}{k:Nat}(h:k<s.length):(cS s)[(k:Int).toNat]?= some (s.getD k 0):=by
 unfold cS;rw[aNO,aOV h,aOB,LE h];rfl
section
variable{t:aY}{pre:List (List Int)}{s:List Int}(hrp:lE t (cS s)=lE t s)(htake:(fK t).take (pre.length+1)=(fK t).take pre.length++[s])
include hrp htake
theorem BP{b:Bool}(hc:(!lE t (cS s)||(decide (0<((iB t pre.length).length:Int))&&(zA (iB t pre.length)==cS s)))=b):zY t (iB t pre.length) s=if b=true then iB t pre.length else iB t pre.length++[s]:=by
 have hsm:s∈fK t:=aRD (i:=pre.length+1) (by rw[htake];simp);rw[hrp]at hc;subst hc;unfold zY;cases hr:lE t s with
 |false=>simp
 |true=>
  simp only[Bool.not_true,Bool.false_or,Bool.true_eq_false,false_or];by_cases hne:iB t pre.length=[]
  ·rw[hne];simp
  ·have hpos:=aPI.2 hne;have h1:decide (0<((iB t pre.length).length:Int))=true:=by simpa using hpos
   rw[h1,aPM];unfold zA;rw[aPK hne];have h2:=lY (yE (List.getLast_mem hne));have h3:=lY hsm;have h4:=aDQ (h2.trans h3.symm);by_cases e:(iB t pre.length).getLast hne=s
   ·rw[aMT (by rw[e]),aMT (by rw[e];simp)]
   ·rw[aMM (by simpa using e),aMM (by simpa using fun h=>e (h4.1 h))]
theorem YH{v:Value}{ν:aC}{es:Array MapEntry}{cl:Nat}{S:List (Int×Int)}(hc:(!lE t (cS s)||(decide (0<((iB t pre.length).length:Int))&&(zA (iB t pre.length)==cS s)))=true)(ha:bM 282 10 v (iB t pre.length).length (wW (iB t pre.length)) ν)(hS:qD es cl S)(hsp:vY (iB t pre.length) t.last S):xG t (pre++[cS s]) (v,ν,es,cl,S):=by
 have h1:=BP hrp htake hc;simp only[aOJ]at h1;have h2:=Y1 htake;rw[h1]at h2;unfold xG;rw[aLY,aPO,h2];exact⟨ha,hS,hsp⟩
theorem aEI(hc:(!lE t (cS s)||(decide (0<((iB t pre.length).length:Int))&&(zA (iB t pre.length)==cS s)))=false):iB t (pre.length+1)=iB t pre.length++[s]:=by
 have h1:=BP hrp htake hc;simp only[aNJ,aOP]at h1;rw[Y1 htake,h1]
end
theorem aIP{t:aY}{pre:List (List Int)}{s:List Int}{v:Value}{ν:aC}{es:Array MapEntry}{cl k:Nat}{S:List (Int×Int)}(h:iB t (pre.length+1)=iB t pre.length++[s])(hk:s.length≤k)(hk2:(k:Int)=t.last+1)(ha:bM 282 10 v ((iB t pre.length).length+1) (wW (iB t pre.length++[s])) ν)(hS:qD es cl (wB S s k))(hsp:vY (iB t pre.length) t.last S):xG t (pre++[cS s]) (v,ν,es,cl,wB S s k):=by
 unfold xG;rw[aLY,aPO,h,aLY,aPO];refine⟨ha,hS,fun p=>?_⟩;rw[WN,hsp p];constructor
 ·rintro(⟨u,hu,j,hj,rfl⟩|⟨j,hj,rfl⟩)
  ·exact⟨u,aMG _ hu,j,hj,rfl⟩
  ·exact⟨s,by simp,j,by omega,rfl⟩
 ·rintro⟨u,hu,j,hj,rfl⟩;rcases aMO.1 hu with hu|hu
  ·exact aMR ⟨u,hu,j,hj,rfl⟩
  ·simp only[aML]at hu;subst hu
   exact aMD ⟨j,by omega,rfl⟩
theorem aGR:K2 Tryz.prog 285:=⟨by kernel_rfl,by kernel_rfl,by kernel_rfl⟩
theorem qG(tv:Value)(t:aY)(fine:Bool)(D:aA)(ht:gI D tv t):DH Tryz.prog 80 #[tv,.bool fine] D (fun D' v ν=>∃wv,v=.tuple #[wv,.int .i64 (kI t fine)]∧(kI t fine=0→z8 t∧bL t≠[]∧aKH t D' wv ν)):=by
 have ht0:=ht;obtain⟨hv,lv,mv,rfl,hh,hl,hm⟩:=ht;refine aEM 85 Tryz.func80 rfl rfl rfl rfl fun h0=>C.s1<|Zt rfl (fun q1 E1 hE1 hB1=>Zi rfl<|Zi rfl<|L.n4<|Zq rfl Tf.a32 rfl hB1 Tf.s32<|Ze rfl (fun D1 hD1=>wF _ t _ (ht0.up (hD1 _ Ye)))<|Zi rfl<|L.n3<|Za rfl<|Zaf rfl ?_);refine L.n1<|aE rfl (fun hc1=>?_) (fun hc1=>?_)
 ·refine C.s1<|Za rfl<|Zi rfl<|Zi rfl<|L.n5<|Zah ?_;exact pE (vs:=[_,_]) rfl rfl rfl C.rs (fun D hD=>⟨_,by rw[kI,aMT hc1];rfl,fun h=>by rw[kI,aMT hc1]at h;exact absurd h hc1⟩)
 ·have hf0:aU t=0:=by omega
  have hto:z8 t:=A1 hf0;refine C.kn<|C.s2<|Za rfl<|Zae rfl<|L.n1<|aI rfl (fun hc2=>?_) (fun hc2=>?_)
  ·refine C.s1<|Zi rfl<|Zi rfl<|L.n5<|Zah ?_;exact pE (vs:=[_,_]) rfl rfl rfl C.rs (fun D hD=>⟨_,by rw[kI,aMM hc1,aMT Yao];rfl,fun h=>by rw[kI,aMM hc1,aMT Yao]at h;omega⟩)
  ·refine C.kn<|C.s1<|Zq rfl Tf.a32 rfl hB1 Tf.s32<|qE rfl rfl cW (fun qm=>iH (cs:=[.int .i64 t.last,hv,.int .i64 t.step,lv,mv,.slice none 0 0,.map (some qm)]) rfl Tf.p278 Tf.z278 rfl Yg rfl trivial<|j0 rfl (e:=278) rfl rfl rfl cW (fun q2=>Zv rfl Tf.z188 rfl (fun q3=>aL rfl rfl rfl rfl Tf.s188 (bS.head) Ye rfl Yi trivial<|L.n4<|Zq rfl Tf.a32 rfl hB1 Tf.s32<|bZ rfl rfl rfl (fun D2 hD2=>CA _ t _ (ht0.up (hD2 _ Ye)) hto) rfl cW (fun v2 D2 hD2 hp2=>L.n1 ?_))));refine Zai ?_;obtain⟨br,rfl,hit⟩:=hp2;refine pD (γ:=Value×aC×Array MapEntry×Nat×List (Int×Int)) (xs:=(fK t).map cS) (enc:=l6) (Dr:=D2) (xG t) (fun _ _ _=>False) (fun g=>[(q3,.cells [.pointer (some ⟨q2,0,none⟩)].toArray 188 (0,0)),(q2,.cells [.int .i64 t.last,hv,.int .i64 t.step,lv,mv,g.1,.map (some qm)].toArray 278 (0,0)),(qm,.map g.2.2.1 g.2.2.2.1)]++g.2.1) (.slice none 0 0,[],#[],0,[]) rfl rfl rfl rfl hit Ye (fun _=>rfl) rfl ⟨by simpa [iB,wW]using bM.nil,qD.nil,vY.nil⟩ rfl ?_ ?_ (fun _ _ _ _ h=>h.elim)
   ·rintro pre x ⟨v,ν,es,cl,S⟩ ⟨us,hx⟩ ⟨ha,hS,hsp⟩ l bd rec hh7 D7 hD7 hst hpend;simp only at ha hS hsp;obtain⟨s,hk,rfl,hsm,htake⟩:=GX hx;have hsl:=lY hsm;have hlast:=hto.last;have hlen:=hto.len;have hs10:s.length≤10:=by omega
    have hp10:=eM hs10;have hall:∀u∈iB t pre.length,u.length≤10:=fun u hu=>by have:=lY (yE hu);omega
    have hcap:=H6 hf0;have hacl:=FO t pre.length;have hrp:=OJ hto (s:=s) Yd;refine C.rg<|Zv rfl Tf.z282 rfl (fun q4=>Zu rfl Tf.s282 (bS.head)<|Zaa ?_);refine fun a w hhh=>uW (A:=[(_,_),(_,_),(_,_),(_,_)]++ν) (B:=[(bd,.deferred (some []))]) (r:=rec) (l:=l) (by rfl) hst ?_ a w hhh
    refine uU (fun hnd=>?_);simp only[aMZ,aMP,aNW,aMJ,aOG,aNE,aLX,aMO,not_or]at hnd;have hq4:=hnd.1.2.2.2.1;have hq3:=hnd.2.1.2.2.1;have hq2:=hnd.2.2.1.2.1;refine Zai<|aK<|aK<|C.drawA [] 10 28 20905986 (fun _ _ _ h=>h)<|Zq rfl Tf.a32 rfl hB1 Tf.s32<|bA rfl Tf.a282 rfl (List.Mem.head _) Yx GT rfl trivial<|Ze rfl (fun D3 hD3=>P9 _ t (cS s) _ (ht0.up (hD3 _ Ye)) hto hp10)<|Zae rfl<|Za rfl ?_;refine' L.orK 23 (s:=28) (p:=51) rfl (fun hg1=>?_) (fun hg1=>?_) ?_;rotate_left
    ·refine aT rfl Tf.a188 rfl (aRH _ (GE _)) rfl GT rfl ⟨_,rfl,rfl⟩<|rV rfl rfl rfl ⟨_,rfl,rfl⟩<|Zk rfl Tf.f278_1 rfl<|aT rfl Tf.a276 rfl (List.Mem.tail _ (List.Mem.tail _ (List.Mem.head _))) rfl GT rfl ⟨_,rfl,rfl⟩<|eE rfl U276 rfl ha rfl rfl ⟨_,rfl,rfl⟩<|dZ rfl rfl rfl rfl ⟨_,rfl,rfl⟩<|Zb rfl ?_;refine' L.anK 15 (s:=35) (p:=50) rfl (fun hg2=>?_) (fun hg2=>?_) ?_;rotate_left
     ·have hne:iB t pre.length≠[]:=fun e=>by rw[e]at hg2;simp at hg2
      have hpos:=aPI.2 hne;obtain⟨b5,cap5,junk5,rfl,hcp5,rfl,hl51,hl52⟩:=ha.some hpos;refine aT rfl Tf.a188 rfl (aRH _ (GE _)) rfl GT rfl ⟨_,rfl,rfl⟩<|rV rfl rfl rfl ⟨_,rfl,rfl⟩<|Zk rfl Tf.f278_1 rfl<|aT rfl Tf.a276 rfl (List.Mem.tail _ (List.Mem.tail _ (List.Mem.head _))) rfl GT rfl ⟨_,rfl,rfl⟩<|aT rfl Tf.a188 rfl (List.Mem.tail _ (List.Mem.head _)) rfl GT rfl ⟨_,rfl,rfl⟩<|rV rfl rfl rfl ⟨_,rfl,rfl⟩<|Zk rfl Tf.f278_1 rfl<|aT rfl Tf.a276 rfl (List.Mem.tail _ (List.Mem.tail _ (List.Mem.head _))) rfl GT rfl ⟨_,rfl,rfl⟩<|iR rfl U276 rfl rfl rfl ⟨_,rfl,rfl⟩<|gH rfl rfl rfl Yf rfl ⟨_,rfl,rfl⟩<|eH rfl U276 Tf.s282 rfl rfl Yd Yd rfl ⟨_,rfl,rfl⟩<|dM (vs:=wW (iB t pre.length)++junk5) (us:=ints (zA (iB t pre.length))) rfl Tf.a282 Tf.s282 rfl (aRH _ (aRH _ (aRH _ (aRH _ (GE _))))) (UW hall hne junk5) (by simpa using Z8 hall hne) GT rfl ⟨_,rfl,rfl⟩ ?_;refine bA rfl Tf.a282 rfl (GE _) Yx GT rfl ⟨_,rfl,rfl⟩<|GB rfl Yg U282 U3 Yg (Z8 hall hne) hp10 rfl rfl rfl ⟨_,rfl,rfl⟩<|nJ rfl rfl rfl rfl ⟨_,rfl,rfl⟩ ?_;exact L.cu 14
     ·refine Zh rfl<|Zh rfl<|Zh rfl<|Zh rfl<|Zh rfl<|Zh rfl<|Zh rfl<|Zh rfl<|Zh rfl<|Zh rfl<|Zh rfl<|Zh rfl ?_;refine Zh rfl<|Zh rfl<|nI rfl rfl rfl rfl ⟨_,rfl,rfl⟩ ?_;exact L.cu 14
     refine Zz rfl ?_;exact L.cu 8
    ·refine Zh rfl<|Zh rfl<|Zh rfl<|Zh rfl<|Zh rfl<|Zh rfl<|Zh rfl<|Zh rfl<|Zh rfl<|Zh rfl<|Zh rfl<|Zh rfl ?_;refine Zh rfl<|Zh rfl<|Zh rfl<|Zh rfl<|Zh rfl<|Zh rfl<|Zh rfl<|Zh rfl<|Zh rfl<|Zh rfl<|Zy rfl ?_;exact L.cu 22
    refine L.n1<|aI rfl (fun hc3=>?_) (fun hc3=>?_)
    ·have hI0:xG t (pre++[cS s]) (v,ν,es,cl,S):=YH hrp htake hc3 ha hS hsp;refine aP<|Zaj<|Zam ?_;exact fun a w hh=>gC (A:=[(_,_),(_,_),(_,_)]++ν) (B:=[(bd,.deferred (some []))]) (v,ν,es,cl,S) hI0 rfl rfl a w (hh.dropBoxes 1)
    ·have hadd:=aEI hrp htake hc3;refine C.kn<|aK<|C.drawA (ν.map (·.1)) 2 11 254 (fun _ _ _ h=>h)<|aT rfl Tf.a188 rfl (List.Mem.tail _ (List.Mem.head _)) rfl Yj rfl trivial<|aT rfl Tf.a188 rfl (List.Mem.tail _ (List.Mem.head _)) rfl Yj rfl trivial<|Zad rfl<|Zj rfl Tf.f278_1 rfl<|aT rfl Tf.a276 rfl (List.Mem.tail _ (List.Mem.tail _ (List.Mem.head _))) rfl Yj rfl trivial<|bA rfl Tf.a282 rfl (List.Mem.head _) Yx Yj rfl trivial<|Zn rfl U276 Tf.s282 Tf.z282 rfl rfl rfl rfl (.cons rfl (by simpa using hp10) .nil) (fun b901 D901 hD901 hA901=>aV (A:=[(_,_),(_,_),(_,_),(_,_)]) (B:=[(l,_),(bd,_)]) rfl U276 rfl rfl Tf.s282 Tf.z282 rfl Tf.i282 rfl rfl rfl ha (jM.lit hA901) Ye (by simp[hp10]) (FG hall) (by simpa using bU _) Yd (aMD (fun p hp=>aMB.2 ⟨p,hp,rfl⟩)) rfl cW (fun v1 ν1 ha1=>?_));have ha2:bM 282 10 v1 ((iB t pre.length).length+1) (wW (iB t pre.length++[s])) ν1:=by unfold wW;rw[aND,aNT];simpa [wW]using ha1
     simp only[aOG,aNE];refine Zad rfl<|Zj rfl Tf.f278_1 rfl<|aL rfl rfl rfl ha1.cells1 Tf.s276 (.tail (.tail (bS.head))) Ye rfl ha1.cell1 trivial<|L.n3<|Zj rfl Tf.f32_0 rfl<|Zc 0 rfl Tf.a3 rfl hB1 rfl<|Zw rfl<|Za rfl<|L.n1<|Zai<|cK (γ:=Nat×Array MapEntry×Nat) (fun g=>s.length-g.1) (fun g=>g.1≤s.length∧qD g.2.1 g.2.2 (wB S s g.1)) (fun g=>[(65,.int .i64 (g.1:Int))]) [(64,_),(8,_),(7,_),(5,_),(4,_)] (fun g=>[(q4,.cells (ints (cS s)).toArray 282 (0,0))]++[(q3,.cells [.pointer (some ⟨q2,0,none⟩)].toArray 188 (0,0)),(q2,.cells [.int .i64 t.last,hv,.int .i64 t.step,lv,mv,v1,.map (some qm)].toArray 278 (0,0)),(qm,.map g.2.1 g.2.2)]++(ν1++[(l,.loop {rec with state:=.busy}),(bd,.deferred (some []))])) (fun g=>[D901,D7,D2,E1,D]) (0,es,cl) ⟨by simp,hS⟩ ⟨Ya,cW⟩ C.rs (LT _) (aD) ?_;rintro⟨k,es2,cl2⟩ ⟨h1,hS2⟩;simp only at h1 hS2;refine C.s1<|Zac rfl<|L.n2<|aE rfl (fun hc4=>?_) (fun hc4=>?_)
     ·have hks:k<s.length:=by omega
      have hxk:(cS s)[(k:Int).toNat]?= some (s.getD k 0):=LD hks;refine C.kn<|aK<|Zai<|C.s1<|Za rfl<|Zi rfl<|L.n1<|C.drawA [] 3 10 496 (fun _ _ _ h=>h)<|Zl rfl Tf.a188 rfl (List.Mem.tail _ (List.Mem.head _)) rfl<|Zad rfl<|Zj rfl Tf.f278_2 rfl<|Zl rfl Tf.a275 rfl (List.Mem.tail _ (List.Mem.tail _ (List.Mem.head _))) rfl ?_;refine Za rfl<|Za rfl<|dO rfl U282 Tf.s3 rfl rfl Yd Yd rfl trivial<|aT rfl Tf.a3 rfl (List.Mem.head _) (cA hxk) GT rfl trivial<|Zr [.int .i64 (k:Int),.int .i64 (s.getD k 0)] rfl Tf.p285 Tf.z285 rfl rfl<|aIT (A:=[(_,_),(_,_),(_,_)]) (B:=ν1++[(l,_),(bd,_)]) (a:=((k:Int),s.getD k 0)) rfl U275 aGR rfl rfl rfl hS2 cW (fun es3 cl3 hS3=>Zaa<|Zak<|Zag<|C.rg<|Zw rfl<|Za rfl ?_);refine Zaa ?_;exact aG 15 (k+1,es3,cl3) ⟨by simp only;omega,by rw[Y0];exact hS3⟩ Yl ⟨Ya,cW⟩ rfl rfl (LT _) (aD)
     ·have hI1:xG t (pre++[cS s]) (v1,ν1,es2,cl2,wB S s k):=aIP hadd Yd Yd ha2 hS2 hsp;refine aP<|Zaj<|Zaj<|Zam<|Zak ?_;exact fun a w hh=>gC (A:=[(_,_),(_,_),(_,_)]++ν1) (B:=[(bd,.deferred (some []))]) (v1,ν1,es2,cl2,wB S s k) hI1 rfl rfl a w (hh.dropBoxes 1)
   ·rintro⟨v,ν,es,cl,S⟩ bd ⟨ha,hS,hsp⟩;simp only[aOL]at ha hS hsp;rw[xT t (aMS _)]at ha hsp;have hall:∀u∈bL t,u.length≤10:=fun u hu=>by rw[←xT t (aMS _)]at hu;have:=lY (yE hu);have:=hto.len10;omega
    have hll:(bL t).length≤2000:=by rw[←xT t (aMS _)];have:=FO t (fK t).length;have:=H6 hf0;omega
    refine Zak<|Zag<|C.s2<|Zl rfl Tf.a188 rfl (List.Mem.head _) rfl<|Zad rfl<|Zj rfl Tf.f278_1 rfl<|Zl rfl Tf.a276 rfl (List.Mem.tail _ (List.Mem.head _)) rfl<|eE rfl U276 rfl ha rfl rfl trivial<|dU rfl rfl rfl rfl trivial<|L.n1<|aE rfl (fun hc5=>?_) (fun hc5=>?_)
    ·have htn:bL t=[]:=aPJ.1 Yd;have hask:kI t fine=11:=by rw[kI,aMM hc1,aMM Yao,aMT htn]
     refine C.s1<|Zi rfl<|Zi rfl<|L.n5<|Zah ?_;exact DP (vs:=[_,_]) (A:=[(_,_),(_,_),(_,_)]) (ν':=[]) (B:=ν) rfl rfl rfl C.rs (fun D hD=>⟨_,by rw[hask];rfl,fun h=>by rw[hask]at h;omega⟩)
    ·have htn:bL t≠[]:=fun e=>hc5 (by rw[e];rfl)
     have hask:kI t fine=0:=by rw[kI,aMM hc1,aMM Yao,aMM htn]
     refine C.kn<|C.s1<|Zl rfl Tf.a188 rfl (List.Mem.head _) rfl<|Zi rfl<|Zi rfl<|L.n5<|eN (A:=[(_,_),(_,_),(_,_)]) (B:=[(bd,.deferred (some []))]) ha rfl (fun D8 hD8 hF8=>?_);exact DP (vs:=[_,_]) (A:=[(_,_)]) (ν':=[(_,_),(_,_)]) (B:=[]) rfl rfl rfl C.rs (fun D hD=>⟨_,by rw[hask];rfl,fun _=>⟨hto,htn,q2,qm,hv,lv,mv,v,es,cl,S,rfl,rfl,⟨hv,lv,mv,rfl,hh.up I2.up (hD _ Ye),hl.up RI.up (hD _ Ye),hm.up EY.up (hD _ Ye)⟩,(hF8.seas rfl Yd hall).up V9.up (hD _ Ye),hS,hsp⟩⟩)
end L2
end Go.Fs
namespace Go.Fs
open Go.Proofs
namespace L2
open L1
open C2
open C1 (fP cD pZ oH)
theorem mB{t:aY}(_ht:z8 t){s:List Int}(h:s∈bL t):s.length=t.heights.length:=by
 rw[←xT t (aMS _)]at h;exact lY (yE h)
structure TJ(es:Array MapEntry)(S:List (Int×Int))(h:Nat)(x0:Int)(seen:Array Nat)(lo hi:Int):Prop where
 mid:lo≤x0∧x0≤hi
 all:∀e∈es.toList,seen.contains e.born=true→∀y,e.key=jC ((h:Int),y)→lo≤y∧y≤hi
 los:((h:Int),lo)∈S
 his:((h:Int),hi)∈S
theorem TJ.start{t:aY}{es:Array MapEntry}{S:List (Int×Int)}{h:Nat}{s0:List Int}(hsp:vY (bL t) t.last S)(hs:s0∈bL t)(hh:(h:Int)≤t.last):TJ es S h (s0.getD h 0) #[] (s0.getD h 0) (s0.getD h 0):=
 ⟨by omega,fun e _ hc=>by simp at hc,(hsp _).2 ⟨s0,hs,h,hh,rfl⟩,(hsp _).2 ⟨s0,hs,h,hh,rfl⟩⟩
theorem LU{a b:Int×Int}(h:jC a=jC b):a=b:=by
 obtain⟨a1,a2⟩:=a;obtain⟨b1,b2⟩:=b
 simp only[jC,Value.agg.injEq]at h;simpa using h
section
variable{t:aY}{es:Array MapEntry}{cl:Nat}{S:List (Int×Int)}{h:Nat}{x0:Int}{seen:Array Nat}{lo hi:Int}
theorem Y4(hS:qD es cl S){e e':MapEntry}(h1:e∈es.toList)(h2:e'∈es.toList)(h:e'.born=e.born):e'=e:=by
 have f1:=find_born e es.toList hS.nd h1;have f2:=find_born e' es.toList hS.nd h2;rw[h]at f2;rw[f1]at f2;exact(aMY f2).symm
theorem TJ.yes(hI:TJ es S h x0 seen lo hi)(hS:qD es cl S){e:MapEntry}(he:e∈(leftOf es seen).toList){ah ay:Int}(hek:e.key=jC (ah,ay))(haS:(ah,ay)∈S)(hc:ah=(h:Int)):TJ es S h x0 (seen.push e.born) (min lo ay) (max hi ay):=by
 subst hc;have hm:=hI.mid;refine⟨by omega,fun e' he' hc y hy=>?_,?_,?_⟩
 ·rw[contains_push,aNR]at hc;rcases hc with hc|hc
  ·have:=hI.all e' he' hc y hy;omega
  ·have:=Y4 hS (mem_left he).1 he' (aQZ.1 hc);subst this;rw[hek]at hy;have:=LU hy;simp only[aPX,true_and]at this;omega
 ·rcases Int.le_total lo ay with h|h
  ·rw[Int.min_eq_left h];exact hI.los
  ·rw[Int.min_eq_right h];exact haS
 ·rcases Int.le_total hi ay with h|h
  ·rw[Int.max_eq_right h];exact haS
  ·rw[Int.max_eq_left h];exact hI.his
theorem TJ.no(hI:TJ es S h x0 seen lo hi)(hS:qD es cl S){e:MapEntry}(he:e∈(leftOf es seen).toList){ah ay:Int}(hek:e.key=jC (ah,ay))(_:(ah,ay)∈S)(hc:¬ah=(h:Int)):TJ es S h x0 (seen.push e.born) lo hi:=by
 refine⟨hI.mid,fun e' he' hc' y hy=>?_,hI.los,hI.his⟩;rw[contains_push,aNR]at hc';rcases hc' with hc'|hc'
 ·exact hI.all e' he' hc' y hy
 ·have:=Y4 hS (mem_left he).1 he' (aQZ.1 hc');subst this;rw[hek]at hy;have:=LU hy;simp only[aPX]at this;exact absurd this.1 hc
theorem SM{l:List Int}{m:Int}(hm:m∈l)(h:∀x∈l,m≤x):pZ l=m:=by
 cases l with
 |nil=>cases hm
 |cons a l=>
  have key:∀(l:List Int) (a:Int),(∀x∈l,l.foldl min a≤x)∧l.foldl min a≤a∧(l.foldl min a=a∨l.foldl min a∈l):=by
   intro l;induction l with
   |nil=>intro a;simp
   |cons b l ih=>
    intro a;obtain⟨h1,h2,h3⟩:=ih (min a b);rw[aOI];refine⟨fun x hx=>?_,by omega,?_⟩
    ·rcases aLX.1 hx with rfl|hx
     ·omega
     ·exact h1 x hx
    ·rcases h3 with h3|h3
     ·rw[h3];rcases Int.le_total a b with h|h
      ·exact aMR (Int.min_eq_left h)
      ·exact aMD (by rw[Int.min_eq_right h];exact aMF)
     ·exact aMD (aLZ _ h3)
  obtain⟨h1,h2,h3⟩:=key l a;show l.foldl min a=m;have h4:l.foldl min a≤m:=by
   rcases aLX.1 hm with rfl|hm
   ·exact h2
   ·exact h1 m hm
  have h5:m≤l.foldl min a:=by
   rcases h3 with h3|h3
   ·rw[h3];exact h a aMF
   ·exact h _ (aLZ _ h3)
  omega
theorem RZ{l:List Int}{m:Int}(hm:m∈l)(h:∀x∈l,x≤m):oH l=m:=by
 cases l with
 |nil=>cases hm
 |cons a l=>
  have key:∀(l:List Int) (a:Int),(∀x∈l,x≤l.foldl max a)∧a≤l.foldl max a∧(l.foldl max a=a∨l.foldl max a∈l):=by
   intro l;induction l with
   |nil=>intro a;simp
   |cons b l ih=>
    intro a;obtain⟨h1,h2,h3⟩:=ih (max a b);rw[aOI];refine⟨fun x hx=>?_,by omega,?_⟩
    ·rcases aLX.1 hx with rfl|hx
     ·omega
     ·exact h1 x hx
    ·rcases h3 with h3|h3
     ·rw[h3];rcases Int.le_total a b with h|h
      ·exact aMD (by rw[Int.max_eq_right h];exact aMF)
      ·exact aMR (Int.max_eq_left h)
     ·exact aMD (aLZ _ h3)
  obtain⟨h1,h2,h3⟩:=key l a;show l.foldl max a=m;have h4:m≤l.foldl max a:=by
   rcases aLX.1 hm with rfl|hm
   ·exact h2
   ·exact h1 m hm
  have h5:l.foldl max a≤m:=by
   rcases h3 with h3|h3
   ·rw[h3];exact h a aMF
   ·exact h _ (aLZ _ h3)
  omega
theorem TJ.fin(hI:TJ es S h x0 seen lo hi)(hS:qD es cl S)(hsp:vY (bL t) t.last S)(_:bL t≠[])(hh:(h:Int)≤t.last)(hz:(leftOf es seen).size=0):jC (lo,hi)=jC (sI t h):=by
 have hall:∀y,((h:Int),y)∈S→lo≤y∧y≤hi:=fun y hy=>by
  obtain⟨e,he,hk⟩:=hS.ent hy;refine hI.all e he ?_ y hk;cases hc:seen.contains e.born with
  |true=>rfl
  |false=>
   have hm:e∈leftOf es seen:=by
    unfold leftOf;rw[Array.mem_filter];exact⟨Array.mem_toList_iff.1 he,by rw[hc];rfl⟩
   have:=Array.size_pos_of_mem hm;omega
 have hmem:∀y,y∈(bL t).map (aKV · h)→((h:Int),y)∈S:=fun y hy=>by
  obtain⟨s,hs,rfl⟩:=aMB.1 hy;exact(hsp _).2 ⟨s,hs,h,hh,rfl⟩
 have hmem2:∀y,((h:Int),y)∈S→y∈(bL t).map (aKV · h):=fun y hy=>by
  obtain⟨s,hs,j,hj,he⟩:=(hsp _).1 hy;simp only[aPX]at he;have:j=h:=by omega
  subst this;exact aMB.2 ⟨s,hs,he.2.symm⟩
 unfold sI;rw[SM (hmem2 _ hI.los) fun x hx=>(hall x (hmem x hx)).1,RZ (hmem2 _ hI.his) fun x hx=>(hall x (hmem x hx)).2]
end
theorem FD(t:aY)(wb mb:Nat)(hv lv mv tsv:Value)(es:Array MapEntry)(cl:Nat)(S:List (Int×Int))(h:Nat)(D:aA)(hts:Sl D V9 10 tsv (bL t))(htn:bL t≠[])(hto:z8 t)(hS:qD es cl S)(hsp:vY (bL t) t.last S)(hh:(h:Int)≤t.last):
  T1 Tryz.prog 265 [.pointer (some ⟨wb,0,none⟩),.int .i64 (h:Int)] D [(wb,.cells [.int .i64 t.last,hv,.int .i64 t.step,lv,mv,tsv,.map (some mb)].toArray 278 (0,0)),(mb,.map es cl)] (fun _ v ν'=>v=jC (sI t h)∧ν'=[(wb,.cells [.int .i64 t.last,hv,.int .i64 t.step,lv,mv,tsv,.map (some mb)].toArray 278 (0,0)),(mb,.map es cl)]):=by
 have hll:=hts.len;have hlast:=hto.last;obtain⟨s0,hs0⟩:∃s,(bL t)[0]?= some s:=⟨(bL t)[0]'(aPI.2 htn),LE _⟩
 have hsl0:=mB hto (aLW hs0);have hsl1:=hto.len;have hg0:(cS s0)[(h:Int).toNat]?= some (s0.getD h 0):=LD Yd;have hp10:=eM (l:=s0) Yd;refine fZ 42 Tryz.func265 rfl rfl rfl rfl (fun h0 hwl hwn=>C.s1<|Zv rfl Tf.z99 rfl (fun q1=>L.n2<|C.drawA [] 7 19 196400 (fun _ _ _ h=>aW (P:=Tryz.prog) (fn:=Tryz.f265) _ _ _ h)<|Za rfl<|Zad rfl<|Zj rfl Tf.f278_1 rfl<|Zl rfl Tf.a276 rfl (List.Mem.tail _ (List.Mem.head _)) rfl<|Za rfl<|Zp rfl U276 Tf.s282 rfl hts rfl hs0 (fun b1 o1 cs1 hr1 hcl1 hA1=>?_)));obtain rfl:cs1=ints (cS _):=hr1;refine dN rfl U282 Tf.s3 rfl rfl Yd Yd rfl trivial<|bC (o:=o1) (k:=(h:Int).toNat*1) rfl Tf.a3 rfl hA1 Yj (by rw[aPE];exact cA hg0) GT rfl trivial<|Za rfl<|Zad rfl<|Zj rfl Tf.f278_1 rfl<|Zl rfl Tf.a276 rfl (List.Mem.tail _ (List.Mem.head _)) rfl<|Za rfl<|Zp rfl U276 Tf.s282 rfl hts rfl hs0 (fun b2 o2 cs2 hr2 hcl2 hA2=>?_)
 obtain rfl:cs2=ints (cS _):=hr2;refine dN rfl U282 Tf.s3 rfl rfl Yd Yd rfl trivial<|bC (o:=o2) (k:=(h:Int).toNat*1) rfl Tf.a3 rfl hA2 Yj (by rw[aPE];exact cA hg0) GT rfl trivial<|Zr [.int .i64 (s0.getD h 0),.int .i64 (s0.getD h 0)] rfl Tf.p99 Tf.z99 rfl rfl<|Zv rfl Tf.z99 rfl (fun q2=>Zu rfl Tf.s99 (bS.head)<|L.n4<|Za rfl<|Zad rfl<|Zj rfl Tf.f278_2 rfl<|Zl rfl Tf.a275 rfl (List.Mem.tail _ (List.Mem.tail _ (List.Mem.head _))) rfl<|VI (b:=mb) (es:=es) (clock:=cl) rfl U275 rfl Ye rfl cW (fun qr=>L.n1 ?_));refine Zai<|cK (γ:=Array Nat×Int×Int) (fun g=>(leftOf es g.1).size) (fun g=>TJ es S h (s0.getD h 0) g.1 g.2.1 g.2.2) (fun g=>[(28,.pointer (some ⟨qr,0,none⟩))]) [(5,_),(4,_),(1,_)] (fun g=>[(qr,.mapIter (some mb) cl g.1 cl),(q2,.cells [.int .i64 g.2.1,.int .i64 g.2.2].toArray 99 (0,0)),(q1,.cells [.int .i64 0,.int .i64 0].toArray 99 (0,0))]++[(wb,.cells [.int .i64 t.last,hv,.int .i64 t.step,lv,mv,tsv,.map (some mb)].toArray 278 (0,0)),(mb,.map es cl)]) (fun g=>[D]) (#[],s0.getD h 0,s0.getD h 0) (TJ.start hsp (aLW hs0) hh) ⟨Ya,cW⟩ C.rs (LT _) (aD) ?_;rintro⟨seen,lo,hi⟩ hI;simp only at hI;refine C.s1<|aEK (b:=mb) (r:=qr) (es:=es) (clock:=cl) (A:=[]) (B:=[(_,_),(_,_),(_,_),(_,_)]) rfl rfl Ye hS.lt (aMS _) rfl cW (fun ok vs o' hv0 hno hyes=>e7 rfl rfl hv0 rfl trivial<|L.n2<|aI rfl (fun hc1=>?_) (fun hc1=>?_))
 ·obtain⟨e,he,rfl⟩:=hyes hc1;obtain⟨⟨ah,ay⟩,haS,hek,hev⟩:=hS.key (mem_left he).1;refine C.kn<|Zai<|C.s1<|VJ (b:=mb) (r:=qr) (es:=es) (clock:=cl) (e:=e) (since:=cl) (seen:=seen) rfl rfl Ye Ye (mem_left he).1 hS.nd rfl cW ?_;rw[hek];refine Zab rfl<|Zv rfl Tf.z285 rfl (fun q3=>Zu rfl Tf.s285 (bS.head)<|L.n3<|Zj rfl Tf.f285_0 rfl<|Zl rfl Tf.a3 rfl (List.Mem.head _) rfl<|Za rfl<|dU rfl rfl rfl rfl trivial<|L.n1<|aE rfl (fun hc2=>?_) (fun hc2=>?_))
  ·refine C.rg<|Zs rfl Tf.a99 rfl (List.Mem.tail _ (List.Mem.tail _ (List.Mem.head _))) Tf.s99<|Zj rfl Tf.f285_1 rfl<|Zl rfl Tf.a3 rfl (List.Mem.head _) rfl<|Ze rfl (fun D1 hD1=>oM (lo,hi) ay _)<|Zu rfl Tf.s99 (.tail (.tail (bS.head)))<|Zaa<|Zak ?_;exact aG 14 (seen.push e.born,min lo ay,max hi ay) (hI.yes hS he hek haS hc2) (left_shrinks _ _ _ he) ⟨rfl,cW⟩ rfl rfl (List.Sublist.cons _ (LT _)) (aD)
  ·refine bB<|Zak ?_;exact aG 10 (seen.push e.born,lo,hi) (hI.no hS he hek haS hc2) (left_shrinks _ _ _ he) ⟨rfl,cW⟩ rfl rfl (List.Sublist.cons _ (LT _)) (aD)
 ·obtain⟨hz,rfl⟩:=hno hc1;have hfin:=hI.fin hS hsp htn hh hz;refine aP<|Zaj<|Zaj<|Zam<|Zag<|C.s1<|Zs rfl Tf.a99 rfl (List.Mem.tail _ (List.Mem.head _)) Tf.s99<|Zu rfl Tf.s99 (.tail (.tail (bS.head)))<|L.n5 ?_;exact Zx [(_,_),(_,_),(_,_)] [] [_,_] [_] rfl ⟨⟨_,_,_,rfl,List.Mem.tail _ (List.Mem.tail _ (List.Mem.head _)),Or.inr ⟨Tf.a99,Tf.s99,rfl⟩⟩,cW⟩ rfl (fun D hD=>⟨hfin,rfl⟩)
end L2
end Go.Fs
namespace Go.Fs
open Go.Proofs
namespace L2
open L1
open C2
open C1 (fP cD pZ oH)
theorem AU{wb mb t cl:Nat}{cs:List Value}{es:Array MapEntry}:∀p∈[(wb,Obj.cells cs.toArray t (0,0)),(mb,.map es cl)],cQ p.2:=by
 intro p hp;simp only[aLX,GT,aNU]at hp;rcases hp with rfl|rfl
 ·rfl
 ·trivial
def JH(l:List (Int×Int)):List Value:=l.flatMap fun p=>[.int .i64 p.1,.int .i64 p.2]
theorem L4(l:List (Int×Int)):(JH l).length=l.length*2:=by
 induction l with
 |nil=>rfl
 |cons p l ih=>unfold JH at ih ⊢;rw[aNQ,aLY,ih,aMI];simp;omega
theorem P8(l m:List (Int×Int)):JH (l++m)=JH l++JH m:=aND
theorem aFC{l:List (Int×Int)}{i:Nat}{p:Int×Int}(hi:l[i]?= some p):((JH l).drop (i*2)).take 2=[.int .i64 p.1,.int .i64 p.2]:=by
  induction l generalizing i with
  |nil=>simp at hi
  |cons d l ih=>
    have hc:JH (d::l)=[.int .i64 d.1,.int .i64 d.2]++JH l:=rfl;rw[hc];cases i with
    | zero => obtain rfl : d = p := by simpa using hi
              rfl
    |succ i=>
      rw[show(i+1)*2=([.int .i64 d.1,.int .i64 d.2]:List Value).length+i*2 by simp;omega,aQJ];exact ih Yaj
theorem _root_.Go.Fs.jY.rgs{D:aA}{v:Value}{n:Nat}{l:List (Int×Int)}(hF:jY D v n (JH l))(hn:l.length=n)(hb:n≤9223372036854775807):Sl D I2 2 v l:=
 hF.sl hn hb fun _i _t hi=>⟨_,rfl,rfl,aFC hi⟩
def x6(t:aY):List (Int×Int):=(List.range (t.last+1).toNat).map (sI t)
theorem FR{t:aY}{k:Nat}(h:(k:Int)=t.last+1):(List.range k).map (sI t)=x6 t:=by unfold x6;rw[show(t.last+1).toNat=k by omega]
theorem WR(s:List Int):(cS s).take s.length=s:=by unfold cS;rw[aQM]
def qP(s:List Int)(level:Int)(k:Nat):List Int:=((List.range k).filter fun j=>decide (level<s.getD j 0)).map fun j:Nat=>(j:Int)
theorem MR(s:List Int)(level:Int)(k:Nat):(qP s level k).length≤k:=by
 unfold qP;rw[aOL];have:=aPD (fun j=>decide (level<s.getD j 0)) (List.range k);rwa [List.length_range]at this
theorem aFJ{s:List Int}{level x:Int}{k:Nat}(hx:s[k]?= some x)(h:level<x):qP s level (k+1)=qP s level k++[(k:Int)]:=by
 unfold qP;rw[aOF,aOX,aMP,aPS,aMT (by rw[aOB,hx];simpa using h)];rfl
theorem aHS{s:List Int}{level x:Int}{k:Nat}(hx:s[k]?= some x)(h:¬level<x):qP s level (k+1)=qP s level k:=by
 unfold qP;rw[aOF,aOX,aMP,aPS,aMM (by rw[aOB,hx];simpa using h)];simp
theorem S8(s:List Int)(level:Int):∃m:Nat,sU s level=(m:Int)∧m≤s.length∧(∀j,j<m→s.getD j 0≤level)∧(m<s.length→level<s.getD m 0):=by
 refine⟨(s.takeWhile fun n=>decide (n≤level)).length,rfl,?_⟩;induction s with
 |nil=>exact⟨by simp,fun j h=>by simp at h,fun h=>by simp at h⟩
 |cons a s ih=>
  obtain⟨h1,h2,h3⟩:=ih;by_cases h:a≤level
  ·rw[List.takeWhile_cons,aMT Yam,aMI,aMI];refine⟨by omega,fun j hj=>?_,fun hj=>?_⟩
   ·cases j with
    |zero=>simpa using h
    |succ j=>simpa using h2 j Yd
   ·simpa using h3 Yd
  ·rw[List.takeWhile_cons,aMM Yam];exact⟨by simp,fun j hj=>by simp at hj,fun _=>by simp;omega⟩
theorem FL{s:List Int}{level:Int}{m:Nat}(h1:m<s.length)(h2:∀j,j<m→s.getD j 0≤level)(h3:level<s.getD m 0):(qP s level s.length)[0]?= some (m:Int):=by
 unfold qP;obtain⟨n,hn⟩:∃n,s.length=m+(n+1):=⟨s.length-m-1,by omega⟩
 rw[hn,List.range_add,aOX,List.filter_eq_nil_iff.2 (fun j hj=>by have:=h2 j (by simpa using hj);simpa using this),aNE,List.range_succ_eq_map,aMZ,aPS,aMT (by simpa using h3)];simp
theorem ZB{s:List Int}{level:Int}(h:0<(qP s level s.length).length):(qP s level s.length)[(0:Int).toNat]?= some (sU s level):=by
 obtain⟨m,hm,h1,h2,h3⟩:=S8 s level;rw[hm];by_cases hlt:m<s.length
 ·exact FL hlt h2 (h3 hlt)
 ·exfalso
  obtain rfl:m=s.length:=by omega
  unfold qP at h;rw[List.filter_eq_nil_iff.2 (fun j hj=>by have:=h2 j (by simpa using hj);simpa using this)]at h
  simp at h
theorem aEJ{s:List Int}{level:Int}(h:¬0<(qP s level s.length).length):sU s level=(s.length:Int):=by
 obtain⟨m,hm,h1,h2,h3⟩:=S8 s level;by_cases hlt:m<s.length
 ·exfalso
  have:=FL hlt h2 (h3 hlt);have:=(aMH.1 this).1;omega
 ·rw[hm,show m=s.length by omega]
theorem qM(tv:Value)(t:aY)(D:aA)(ht:gI D tv t):Fn Tryz.prog 199 #[tv] D (fun D' v=>∃lv,v=.tuple #[lv,.int .i64 (kI t true)]∧Sl D' I2 2 lv (if kI t true=0 then x6 t else [])):=by
 have ht0:=ht;obtain⟨hv,lv,mv,rfl,hh,hl,hm⟩:=ht;refine enter 30 Tryz.func199 rfl rfl rfl rfl fun h0=>C.s1<|Zt rfl (fun q1 E1 hE1 hB1=>Zi rfl<|Zi rfl<|L.n3<|Zq rfl Tf.a32 rfl hB1 Tf.s32<|eV rfl rfl rfl (fun D2 hD2=>qG _ t true _ (ht0.up (hD2 _ Ye))) rfl cW (fun v2 D3 ν2 hD3 hp2=>?_))
 obtain⟨wv,rfl,hwk⟩:=hp2;refine Za rfl<|Zab rfl<|Zab rfl<|Zi rfl<|Zi rfl<|L.n4<|Za rfl<|Zaf rfl<|L.n1<|aE rfl (fun hc1=>?_) (fun hc1=>?_)
 ·refine C.s1<|Za rfl<|Zi rfl<|Zi rfl<|L.n5<|Zah ?_;exact Zm [_,_] rfl C.rs (fun D hD=>⟨_,rfl,by rw[aMM hc1];exact Sl.nil⟩)
 ·have he0:kI t true=0:=by omega
  obtain⟨hto,htn,wb,mb,hv2,lv2,mv2,tsv,es,cl,S,rfl,rfl,htw,hts,hS,hsp⟩:=hwk he0;have hlast:=hto.last;refine C.kn<|C.s1<|Zi rfl<|L.n4<|Zj rfl Tf.f32_0 rfl<|Zc 0 rfl Tf.a3 rfl hB1 rfl<|Zw rfl<|Za rfl<|L.n1<|Zai<|cK (γ:=Nat×Value×aC) (fun g=>(t.last+1).toNat-g.1) (fun g=>(g.1:Int)≤t.last+1∧bM 99 2 g.2.1 g.1 (JH ((List.range g.1).map (sI t))) g.2.2) (fun g=>[(19,.int .i64 (g.1:Int)),(6,g.2.1)]) [(18,_),(4,_),(3,_),(2,_)] (fun g=>g.2.2++[(wb,.cells [.int .i64 t.last,hv2,.int .i64 t.step,lv2,mv2,tsv,.map (some mb)].toArray 278 (0,0)),(mb,.map es cl)]) (fun g=>[D3,E1,D]) (0,.slice none 0 0,[]) ⟨by simp;omega,by simpa [JH]using bM.nil⟩ ⟨Ya,Ya,cW⟩ C.rs (LT _) (aD) ?_
  rintro⟨k,v,ν⟩ ⟨h1,ha⟩;simp only at h1 ha;refine C.s1<|Zac rfl<|L.n2<|aE rfl (fun hc2=>?_) (fun hc2=>?_)
  ·have hk:(k:Int)≤t.last:=by simp only at hc2;omega
   refine C.kn<|aK<|Zai<|C.s1<|Za rfl<|Zi rfl<|L.n1<|C.rg<|Za rfl<|Za rfl<|Za rfl<|N9 (A:=ν) (ν:=[(_,_),(_,_)]) rfl rfl rfl rfl (aMR rfl) (AU (cs:=[_,_,_,_,_,_,_])) (fun D5 hD5=>FD t wb mb hv2 lv2 mv2 tsv es cl S k _ (hts.up V9.up (hD5 _ Ye)) htn hto hS hsp Yd) rfl cW (fun v5 D6 _ hD6 hp5=>?_);obtain⟨rfl,rfl⟩:=hp5;refine Zn rfl U29 Tf.s99 Tf.z99 rfl rfl rfl rfl (.cons rfl rfl .nil) (fun b901 D901 hD901 hA901=>aV (A:=[]) (B:=[(_,_),(_,_)]) rfl U29 rfl rfl Tf.s99 Tf.z99 rfl Tf.i99 rfl rfl rfl ha (jM.lit hA901) Ye rfl (by rw[L4];simp) Yi Yd (aMR rfl) rfl cW (fun v1 ν1 ha1=>?_))
   have ha2:bM 99 2 v1 (k+1) (JH ((List.range (k+1)).map (sI t))) ν1:=by rw[aOF,aMP,P8];exact ha1
   refine Zi rfl<|Zaa<|Zak<|Zag<|C.rg<|Zw rfl<|Za rfl<|Zaa ?_;exact aG 14 (k+1,v1,ν1) ⟨by simp only;omega,ha2⟩ Yl ⟨Ya,rfl,cW⟩ rfl rfl (LT _) (fun D h=>⟨D,aRH _ (aRH _ (h)),Le.refl D⟩)
  ·have hk:(k:Int)=t.last+1:=by simp only at hc2 h1;omega
   refine aP<|Zaj<|Zaj<|Zam<|Zag<|C.s1<|Za rfl<|Zi rfl<|Zi rfl<|L.n5<|eN (A:=[]) (B:=[(_,_),(_,_)]) ha rfl (fun D8 hD8 hF8=>?_);exact Zm [_,_] rfl C.rs (fun D hD=>⟨_,by rw[he0];rfl,by rw[aMT he0];exact(FR Yd▸hF8.rgs Ye Yd).up I2.up (hD _ Ye)⟩)
theorem aIR(last step:Int)(hv lv mv:Value)(s:List Int)(level:Int)(D:aA)(hs:(s.length:Int)=last+1)(h10:s.length≤10):
  Fn Tryz.prog 141 #[.agg #[.int .i64 last,hv,.int .i64 step,lv,mv],.agg (ints (cS s)).toArray,.int .i64 level] D (fun D' v=>Sl D' RI 1 v (qP s level s.length)):=by
 have hp10:=eM h10;refine enter 28 Tryz.func141 rfl rfl rfl rfl fun h0=>C.s1<|Zt rfl (fun q1 E1 hE1 hB1=>Zt rfl (fun q2 E2 hE2 hB2=>Zi rfl<|L.n2<|aK ?_))
 have hsl:Sl E2 RI 1 (.slice (some ⟨q2,0,none⟩) s.length 10) s:=by have h:=LX (l:=0) (h:=s.length) hB2 hp10 Yd Yd Yd;rw[aPZ,aPY,aPY]at h;rw[WR]at h;exact h
 refine C.rg<|Zj rfl Tf.f32_0 rfl<|Zc 0 rfl Tf.a3 rfl hB1 rfl<|Zw rfl<|VH (h:=s.length) rfl U282 Tf.s3 rfl rfl Yd Yd rfl trivial<|iR rfl U25 rfl rfl rfl trivial<|Za rfl<|L.n1<|Zai<|cK (γ:=Nat×Value×aC) (fun g=>s.length-g.1) (fun g=>g.1≤s.length∧bM 3 1 g.2.1 (qP s level g.1).length (ints (qP s level g.1)) g.2.2) (fun g=>[(14,.int .i64 (g.1:Int)),(6,g.2.1)]) [(13,_),(12,_),(2,_)] (fun g=>g.2.2++[]) (fun g=>[E2,E1,D]) (0,.slice none 0 0,[]) ⟨by simp,by simpa [ints,qP]using bM.nil⟩ ⟨Ya,Ya,cW⟩ C.rs (LT _) (aD) ?_;rintro⟨k,v,ν⟩ ⟨h1,ha⟩;simp only at h1 ha;refine C.s1<|Zac rfl<|L.n2<|aE rfl (fun hc1=>?_) (fun hc1=>?_)
 ·have hk:k<s.length:=by simp only at hc1;omega
  obtain⟨x,hx⟩:=C.ge s k;have hwl:=MR s level k;refine C.kn<|aK<|Zai<|C.s1<|Za rfl<|Zp rfl U25 Tf.s3 rfl hsl rfl hx (fun b1 o1 cs1 hr1 hcl1 hA1=>?_);obtain rfl:cs1=[.int .i64 _]:=hr1;refine Zc 0 rfl Tf.a3 rfl hA1 rfl<|Zi rfl<|Zi rfl<|L.n3<|Za rfl<|Za rfl<|dZ rfl rfl rfl rfl trivial<|L.n1<|aE rfl (fun hc2=>?_) (fun hc2=>?_)
  ·refine C.rg<|Za rfl<|Za rfl<|Zn rfl U25 Tf.s3 Tf.z3 rfl rfl rfl rfl (.cons rfl rfl .nil) (fun b901 D901 hD901 hA901=>?_);have hS901:=Sl.ofInts (l:=[_]) (n:=1) (cap:=1) hA901 rfl Yd Yd;refine aV (A:=[]) (B:=_) rfl U25 rfl rfl Tf.s3 Tf.z3 rfl Tf.i3 rfl rfl rfl ha (jM.lit hA901) Ye rfl (by simp[ints]) Yi Yd (aMR rfl) rfl cW (fun v1 ν1 ha1=>?_);have ha2:bM 3 1 v1 (qP s level (k+1)).length (ints (qP s level (k+1))) ν1:=by rw[aFJ hx hc2,aLY,←eQ];exact ha1
   refine Zi rfl<|Zaa<|Zak<|Zag<|C.rg<|Zw rfl<|Za rfl<|Zaa ?_;exact aG 18 (k+1,v1,ν1) ⟨by simp only;omega,ha2⟩ Yl ⟨Ya,rfl,cW⟩ rfl rfl (LT _) (fun D h=>⟨D,aRH _ (h),Le.refl D⟩)
  ·refine bB<|Zak<|Zag<|C.rg<|Zw rfl<|Za rfl<|Zaa ?_;exact aG 13 (k+1,v,ν) ⟨by simp only;omega,by rw[aHS hx hc2];exact ha⟩ Yl ⟨Ya,rfl,cW⟩ rfl rfl (LT _) (aD)
 ·obtain rfl:k=s.length:=by simp only at hc1;omega
  have hwl:=MR s level s.length;refine aP<|Zaj<|Zaj<|Zam<|Zag<|C.s1<|Za rfl<|Zi rfl<|L.n5<|eN (A:=[]) (B:=[]) ha rfl (fun D8 hD8 hF=>?_);exact leave1 rfl rfl rfl rfl (fun D hD=>(hF.ints Ye Yd).up RI.up (hD _ Ye))
theorem JF(t:aY)(wb mb:Nat)(hv lv mv tsv:Value)(es:Array MapEntry)(cl:Nat)(s:List Int)(level y:Int)(D:aA)(hs:(s.length:Int)=t.last+1)(h10:s.length≤10):
  T1 Tryz.prog 82 [.pointer (some ⟨wb,0,none⟩),.agg (ints (cS s)).toArray,.int .i64 level,.int .i64 y] D [(wb,.cells [.int .i64 t.last,hv,.int .i64 t.step,lv,mv,tsv,.map (some mb)].toArray 278 (0,0)),(mb,.map es cl)] (fun _ v ν'=>v=.int .i64 (sU s level)∧ν'=[(wb,.cells [.int .i64 t.last,hv,.int .i64 t.step,lv,mv,tsv,.map (some mb)].toArray 278 (0,0)),(mb,.map es cl)]):=by
 have hp10:=eM h10;refine fZ 29 Tryz.func82 rfl rfl rfl rfl (fun h0 hwl hwn=>C.s1<|Zt rfl (fun q1 E1 hE1 hB1=>Zi rfl<|L.n2<|aK<|C.drawA [] 4 8 48 (fun _ _ _ h=>aW (P:=Tryz.prog) (fn:=Tryz.f82) _ _ _ h)<|Za rfl<|Zad rfl<|Zj rfl Tf.f278_0 rfl<|dM (us:=[.int .i64 t.last,hv,.int .i64 t.step,lv,mv]) rfl Tf.a32 Tf.s32 rfl (GE _) (by rfl) rfl GT rfl trivial<|cU rfl Tf.a282 rfl hB1 Yc Yx GT rfl cW ?_));refine Za rfl<|bZ rfl rfl rfl (fun D1 hD1=>aIR t.last t.step hv lv mv s level _ hs h10) rfl cW (fun v1 D1 hD1 hp1=>Zi rfl<|L.n3<|Za rfl<|aO rfl U25 rfl hp1 rfl rfl trivial<|dZ rfl rfl rfl rfl trivial<|L.n1<|aE rfl (fun hc1=>?_) (fun hc1=>?_))
 ·have hw0:=ZB (s:=s) (level:=level) Yd;refine C.s1<|Za rfl<|Zp rfl U25 Tf.s3 rfl hp1 rfl hw0 (fun b1 o1 cs1 hr1 hcl1 hA1=>?_);obtain rfl:cs1=[.int .i64 _]:=hr1;refine Zc 0 rfl Tf.a3 rfl hA1 rfl<|Zi rfl<|L.n5<|Zah ?_;exact Zx [] [] [_,_] [_] rfl ⟨rfl,cW⟩ rfl (fun D hD=>⟨rfl,rfl⟩)
 ·have hw1:=aEJ (s:=s) (level:=level) Yd;refine C.kn<|C.s1<|Za rfl<|Zad rfl<|Zj rfl Tf.f278_0 rfl<|Zj rfl Tf.f32_0 rfl<|Zl rfl Tf.a3 rfl (List.Mem.head _) rfl<|Zw rfl<|Zi rfl<|L.n5 ?_;exact Zx [] [] [_,_] [_] rfl ⟨rfl,cW⟩ rfl (fun D hD=>⟨by show Value.int _ _=_;rw[hw1,hs],rfl⟩)
theorem aGM(t:aY)(wb mb:Nat)(hv lv mv tsv:Value)(es:Array MapEntry)(cl:Nat)(s:List Int)(a b:Int)(D:aA)(hs:(s.length:Int)=t.last+1)(h10:s.length≤10)(ha0:0≤a)(hab:a≤b)(hbl:b≤t.last):
  T1 Tryz.prog 85 [.pointer (some ⟨wb,0,none⟩),.agg (ints (cS s)).toArray,.int .i64 a,.int .i64 b] D [(wb,.cells [.int .i64 t.last,hv,.int .i64 t.step,lv,mv,tsv,.map (some mb)].toArray 278 (0,0)),(mb,.map es cl)] (fun _ v ν'=>v=.int .i64 (jQ s a b)∧ν'=[(wb,.cells [.int .i64 t.last,hv,.int .i64 t.step,lv,mv,tsv,.map (some mb)].toArray 278 (0,0)),(mb,.map es cl)]):=by
 have hp10:=eM h10;refine fZ 13 Tryz.func85 rfl rfl rfl rfl (fun h0 hwl hwn=>C.s1<|Zt rfl (fun q1 E1 hE1 hB1=>Zi rfl<|L.n3<|cU rfl Tf.a282 rfl hB1 Yc Yx GT rfl trivial<|Za rfl<|Za rfl<|Ze rfl (fun D1 hD1=>N4 (cS s) a b _ hp10 ha0 hab Yd)<|Zi rfl<|L.n5 ?_));exact Zx [] [] [_,_] [_] rfl ⟨rfl,cW⟩ rfl (fun D hD=>⟨by show Value.int _ _=_;rw[tH ha0 hab Yd],rfl⟩)
end L2
end Go.Fs
namespace Go.Fs
open Go.Proofs
namespace L2
open L1
open C2
open C1 (fP cD pZ oH)
def HE(F:List Int→Int)(n:Int)(l:List (List Int)):Int×Int:=l.foldl (fun p s=>(min p.1 (F s),max p.2 (F s))) (n,n)
theorem ZG{t:aY}{F:List Int→Int}{n:Int}{k:Nat}{u:List Int}(hx:(bL t)[k]?= some u):HE F n ((bL t).take (k+1))=(min (HE F n ((bL t).take k)).1 (F u),max (HE F n ((bL t).take k)).2 (F u)):=by
 unfold HE;rw[aMN,hx,aOA];rfl
theorem EP(F:List Int→Int):∀(l:List (List Int)) (p:Int×Int),l.foldl (fun p s=>(min p.1 (F s),max p.2 (F s))) p=((l.map F).foldl min p.1,(l.map F).foldl max p.2)
 | [],_=>rfl
 |s::l,p=>by rw[aOI,EP F l];rfl
theorem aEA{t:aY}{F:List Int→Int}{s0:List Int}{lo hi:Int}(hs0:(bL t)[0]?= some s0)(h:(lo,hi)=HE F (F s0) (bL t)):jC (lo,hi)=jC (pZ ((bL t).map F),oH ((bL t).map F)):=by
 rw[h];cases ht:bL t with
 |nil=>rw[ht]at hs0;simp at hs0
 |cons a l=>
  rw[ht]at hs0;obtain rfl:a=s0:=by simpa using hs0
  unfold HE;rw[EP,aMZ,aOI,aOI,Int.min_self,Int.max_self];rfl
theorem yR{t:aY}{fine:Bool}(h:kI t fine=0):fine=true:=by
 unfold kI at h;split at h
 ·rename_i hf;exact absurd h hf
 ·split at h
  ·omega
  ·rename_i hf;simpa using hf
theorem FY{last a b:Int}(h:oI last a b=true):0≤a∧a≤b∧b≤last:=by
 unfold oI f7 at h;simp only[aMC,aMV,cD]at h;omega
theorem Q6(t:aY)(wb mb:Nat)(hv lv mv tsv:Value)(es:Array MapEntry)(cl:Nat)(F:List Int→Int)(fid:Nat)(x y:Int)(D:aA)(hts:Sl D V9 10 tsv (bL t))(htn:bL t≠[])(hto:z8 t)
  (hf:∀s∈bL t,∀D',Le D D'→T1 Tryz.prog fid [.pointer (some ⟨wb,0,none⟩),.agg (ints (cS s)).toArray,.int .i64 x,.int .i64 y] D' [(wb,.cells [.int .i64 t.last,hv,.int .i64 t.step,lv,mv,tsv,.map (some mb)].toArray 278 (0,0)),(mb,.map es cl)] (fun _ v ν'=>v=.int .i64 (F s)∧ν'=[(wb,.cells [.int .i64 t.last,hv,.int .i64 t.step,lv,mv,tsv,.map (some mb)].toArray 278 (0,0)),(mb,.map es cl)])):
  T1 Tryz.prog 83 [.agg #[.func (.func fid) #[] #[]],.pointer (some ⟨wb,0,none⟩),.int .i64 x,.int .i64 y] D [(wb,.cells [.int .i64 t.last,hv,.int .i64 t.step,lv,mv,tsv,.map (some mb)].toArray 278 (0,0)),(mb,.map es cl)] (fun _ v ν'=>v=jC (pZ ((bL t).map F),oH ((bL t).map F))∧ν'=[(wb,.cells [.int .i64 t.last,hv,.int .i64 t.step,lv,mv,tsv,.map (some mb)].toArray 278 (0,0)),(mb,.map es cl)]):=by
 have hll:=hts.len;have hlast:=hto.last;have hsl1:=hto.len;obtain⟨s0,hs0⟩:∃s,(bL t)[0]?= some s:=⟨(bL t)[0]'(aPI.2 htn),LE _⟩
 have hs0m:=aLW hs0;have hsl0:=mB hto hs0m;have hp100:=eM (l:=s0) Yd;refine fZ 48 Tryz.func83 rfl rfl rfl rfl (fun h0 hwl hwn=>C.s1<|Zt rfl (fun q1 E1 hE1 hB1=>Zv rfl Tf.z99 rfl (fun q2=>L.n2<|C.drawA [] 6 13 2044 (fun _ _ _ h=>aW (P:=Tryz.prog) (fn:=Tryz.f83) _ _ _ h)<|Zj rfl Tf.f195_0 rfl<|Zc 0 rfl Tf.a192 rfl hB1 rfl<|Za rfl<|Za rfl<|Zad rfl<|Zj rfl Tf.f278_1 rfl ?_)));refine Zl rfl Tf.a276 rfl (List.Mem.tail _ (List.Mem.head _)) rfl<|Zp rfl U276 Tf.s282 rfl hts rfl hs0 (fun b1 o1 cs1 hr1 hcl1 hA1=>?_);obtain rfl:cs1=ints (cS _):=hr1;refine cU rfl Tf.a282 rfl hA1 Yc (by first|exact Tf.s282|(simp only[*];exact Tf.s282)) GT rfl trivial<|Za rfl<|Za rfl<|N9 (A:=[(_,_)]) (ν:=[(_,_),(_,_)]) rfl rfl rfl rfl (by first|exact Or.inl rfl|exact Or.inr Ye) (AU (cs:=[_,_,_,_,_,_,_])) (fun D5 hD5=>hf s0 hs0m _ (hD5 _ Ye)) rfl cW (fun v5 D6 _ hD6 hp5=>?_)
 obtain⟨rfl,rfl⟩:=hp5;refine Zi rfl<|L.n3<|Za rfl<|Za rfl<|Zr [.int .i64 (F s0),.int .i64 (F s0)] rfl Tf.p99 Tf.z99 rfl rfl<|Zv rfl Tf.z99 rfl (fun q3=>Zu rfl Tf.s99 (bS.head)<|L.n4<|Za rfl<|Zad rfl<|Zj rfl Tf.f278_1 rfl<|Zl rfl Tf.a276 rfl (List.Mem.tail _ (List.Mem.tail _ (List.Mem.head _))) rfl ?_);refine aO rfl U276 rfl hts rfl rfl trivial<|Za rfl<|L.n1<|Zai<|cK (γ:=Nat×Int×Int) (fun g=>(bL t).length-g.1) (fun g=>g.1≤(bL t).length∧g.2=HE F (F s0) ((bL t).take g.1)) (fun g=>[(33,.int .i64 (g.1:Int))]) [(32,_),(31,_),(10,_),(8,_),(4,_),(1,_),(2,_),(3,_)] (fun g=>[(q3,.cells [.int .i64 g.2.1,.int .i64 g.2.2].toArray 99 (0,0)),(q2,.cells [.int .i64 0,.int .i64 0].toArray 99 (0,0))]++[(wb,.cells [.int .i64 t.last,hv,.int .i64 t.step,lv,mv,tsv,.map (some mb)].toArray 278 (0,0)),(mb,.map es cl)]) (fun g=>[D6,E1,D]) (0,F s0,F s0) ⟨by simp,rfl⟩ ⟨Ya,cW⟩ C.rs (LT _) (aD) ?_;rintro⟨k,lo,hi⟩ ⟨h1,hI⟩;simp only at h1 hI;refine C.s1<|Zac rfl<|L.n2<|aE rfl (fun hc1=>?_) (fun hc1=>?_)
 ·have hk:k<(bL t).length:=by simp only at hc1;omega
  obtain⟨u,hx⟩:=C.ge (bL t) k;have hum:=aLW hx;have hul:=mB hto hum;have hp10:=eM (l:=u) Yd;refine C.kn<|aK<|Zai<|C.s1<|Zp rfl U276 Tf.s282 rfl hts rfl hx (fun b2 o2 cs2 hr2 hcl2 hA2=>?_);obtain rfl:cs2=ints (cS _):=hr2;refine cU rfl Tf.a282 rfl hA2 Yc (by first|exact Tf.s282|(simp only[*];exact Tf.s282)) GT rfl trivial<|Zv rfl Tf.z282 rfl (fun q4=>bK rfl rfl rfl rfl Tf.s282 Yaf Yb (bS.head) Yh trivial<|L.n1<|iS hB1 Ye (fun hq1k=>?_))
  have hq1:q1∉[wb,mb]:=fun h=>hq1k (aLZ _ (aLZ _ (aLZ _ h)))
  refine uU (fun hnd=>?_);simp only[aMZ,aQB,aNW,aLX,GT,aNU,not_or,aOG,aNE]at hnd;have hq3:q3∉[wb,mb]:=by simp only[aLX,GT,aNU,not_or];exact⟨hnd.2.1.2.1,hnd.2.1.2.2⟩
  have hq4:q4∉[wb,mb]:=by simp only[aLX,GT,aNU,not_or];exact⟨hnd.1.2.2.1,hnd.1.2.2.2⟩
  refine iE [wb,mb] 3 [0,1,2,3,4,5,6,7,8,9] [false,true,true,true,true,true,true,true,false,false] [(false,0),(true,1),(true,2),(true,3),(true,4),(true,5),(true,6),(true,7),(false,8),(false,9)] Tf.follows (fun _ _ _ h=>aW (P:=Tryz.prog) (fn:=Tryz.f83) _ _ _ h) Yg rfl<|bA rfl Tf.a99 rfl (List.Mem.tail _ (List.Mem.head _)) Tf.s99 Yj rfl trivial<|Zj rfl Tf.f195_0 rfl<|bC rfl (k:=0) Tf.a192 rfl hB1 Yc rfl Yj rfl trivial<|Za rfl<|bA rfl Tf.a282 rfl (List.Mem.head _) (by first|exact Tf.s282|(simp only[*];exact Tf.s282)) Yj rfl trivial<|Za rfl<|Za rfl<|N9 (A:=[(_,_),(_,_),(_,_)]) (ν:=[(_,_),(_,_)]) rfl rfl rfl rfl (by first|exact Or.inl rfl|exact Or.inr Ye) (AU (cs:=[_,_,_,_,_,_,_])) (fun D7 hD7=>hf u hum _ (hD7 _ Ye)) rfl cW (fun v7 D8 _ hD8 hp7=>?_);obtain⟨rfl,rfl⟩:=hp7;refine Ze rfl (fun D1 hD1=>oM (lo,hi) (F u) _)<|Zu rfl Tf.s99 (.tail (bS.head))<|Zaa<|Zak<|Zag<|C.rg<|Zw rfl<|Za rfl<|Zaa ?_;exact aG 16 (k+1,min lo (F u),max hi (F u)) ⟨by simp only;omega,by rw[ZG hx,←hI]⟩ Yl ⟨Ya,cW⟩ rfl rfl (List.Sublist.cons _ (LT _)) (fun D h=>⟨D,aRH _ (h),Le.refl D⟩)
 ·obtain rfl:k=(bL t).length:=by simp only at hc1;omega
  rw[aNL]at hI;have hfin:=aEA hs0 hI;refine aP<|Zaj<|Zaj<|Zam<|Zag<|C.s1<|Zs rfl Tf.a99 rfl (List.Mem.head _) Tf.s99<|Zu rfl Tf.s99 (.tail (bS.head))<|L.n5 ?_;exact Zx [(_,_),(_,_)] [] [_,_] [_] rfl ⟨⟨_,_,_,rfl,List.Mem.tail _ (List.Mem.head _),Or.inr ⟨Tf.a99,Tf.s99,rfl⟩⟩,cW⟩ rfl (fun D hD=>⟨hfin,rfl⟩)
theorem VB(tv:Value)(t:aY)(row:Int)(D:aA)(ht:gI D tv t):Fn Tryz.prog 46 #[tv,.int .i64 row] D (fun _ v=>v=.tuple #[jC (if kI t (fP row 0 ((t.levels.length:Int)-1))=0 then YQ t (t.levels.getD row.toNat 0)else(0,0)),.int .i64 (kI t (fP row 0 ((t.levels.length:Int)-1)))]):=by
 have ht0:=ht;obtain⟨hv,lv,mv,rfl,hh,hl,hm⟩:=ht;refine enter 28 Tryz.func46 rfl rfl rfl rfl fun h0=>C.s1<|Zt rfl (fun q1 E1 hE1 hB1=>Zv rfl Tf.z99 rfl (fun q2=>Zi rfl<|L.n2<|C.drawA [] 4 10 398 (fun _ _ _ h=>bP (P:=Tryz.prog) (fn:=Tryz.f46) _ _ _ h)<|Zq rfl Tf.a32 rfl hB1 Tf.s32<|Zq rfl Tf.a32 rfl hB1 Tf.s32<|Za rfl<|Ze rfl (fun D1 hD1=>aJE _ t row _ (ht0.up (hD1 _ Ye)))<|eV rfl rfl rfl (fun D3 hD3=>qG _ t (fP row 0 ((t.levels.length:Int)-1)) _ (ht0.up (hD3 _ Ye))) rfl cW (fun v3 D4 ν3 hD4 hp3=>?_)))
 obtain⟨wv,rfl,hwk⟩:=hp3;refine Za rfl<|Zab rfl<|Zab rfl<|Zi rfl<|Zi rfl<|L.n4<|Za rfl<|Zaf rfl<|L.n1<|aE rfl (fun hc1=>?_) (fun hc1=>?_)
 ·refine C.s1<|Zr [.int .i64 0,.int .i64 0] rfl Tf.p99 Tf.z99 rfl rfl<|Za rfl<|Zu rfl Tf.s99 (.app (bS.head))<|Zi rfl<|L.n5<|Zah ?_;exact Zm [_,_] rfl ⟨⟨_,_,_,rfl,(aMA _ (List.Mem.head _)),Or.inr ⟨Tf.a99,(by first|exact Tf.s99|(simp only[aNG,aJ, *];exact Tf.s99)),rfl⟩⟩,rfl,cW⟩ (fun D hD=>by show Value.tuple _=_;rw[aMM hc1];rfl)
 ·have he0:kI t (fP row 0 ((t.levels.length:Int)-1))=0:=by omega
  obtain⟨hto,htn,wb,mb,hv2,lv2,mv2,tsv,es,cl,S,rfl,rfl,htw,hts,hS,hsp⟩:=hwk he0;have hrow:=yR he0;rw[cD]at hrow;have hlev:t.levels[row.toNat]?= some (t.levels.getD row.toNat 0):=by rw[aOB,LE Yd];rfl
  refine C.kn<|C.s1<|Zr [.func (.func 82) #[] #[]] rfl Tf.p195 Tf.z195 rfl rfl<|Za rfl<|Zj rfl Tf.f32_3 rfl<|Zc 3 rfl Tf.a25 rfl hB1 rfl<|Za rfl<|Zp rfl U25 Tf.s3 rfl hl rfl hlev (fun b1 o1 cs1 hr1 hcl1 hA1=>?_);obtain rfl:cs1=[.int .i64 _]:=hr1;refine Zc 0 rfl Tf.a3 rfl hA1 rfl<|dL (A:=[]) (ν:=[(_,_),(_,_)]) (B:=[(_,_)]) rfl rfl rfl rfl (by first|exact Or.inl rfl|exact Or.inr Ye) (AU (cs:=[_,_,_,_,_,_,_])) (fun D7 hD7=>Q6 t wb mb hv2 lv2 mv2 tsv es cl (sU · (t.levels.getD row.toNat 0)) _ _ _ _ (hts.up V9.up (hD7 _ Ye)) htn hto (fun s hsm D' hD'=>JF t wb mb hv2 lv2 mv2 tsv es cl s _ _ D' (by have:=mB hto hsm;have:=hto.len;omega) (by have:=mB hto hsm;have:=hto.len10;omega))) rfl cW (fun v7 D8 _ hD8 hp7=>?_)
  obtain⟨rfl,rfl⟩:=hp7;refine Zu rfl Tf.s99 (.tail (.tail (bS.head)))<|Zi rfl<|L.n5 ?_;exact Zm [_,_] rfl ⟨⟨_,_,_,rfl,(List.Mem.tail _ (List.Mem.tail _ (List.Mem.head _))),Or.inr ⟨Tf.a99,(by first|exact Tf.s99|(simp only[aNG,aJ, *];exact Tf.s99)),rfl⟩⟩,rfl,cW⟩ (fun D hD=>by show Value.tuple _=_;rw[aMT he0,he0];rfl)
theorem aHB(tv:Value)(t:aY)(a b:Int)(D:aA)(ht:gI D tv t):Fn Tryz.prog 47 #[tv,.int .i64 a,.int .i64 b] D (fun _ v=>v=.tuple #[.int .i64 (if kI t (oI t.last a b)=0 then aKA t a b else 0),.int .i64 (kI t (oI t.last a b))]):=by
 have ht0:=ht;obtain⟨hv,lv,mv,rfl,hh,hl,hm⟩:=ht;refine enter 28 Tryz.func47 rfl rfl rfl rfl fun h0=>C.s1<|Zt rfl (fun q1 E1 hE1 hB1=>Zi rfl<|Zi rfl<|L.n2<|C.drawA [] 4 11 798 (fun _ _ _ h=>bP (P:=Tryz.prog) (fn:=Tryz.f47) _ _ _ h)<|Zq rfl Tf.a32 rfl hB1 Tf.s32<|Zq rfl Tf.a32 rfl hB1 Tf.s32<|Za rfl<|Za rfl<|Ze rfl (fun D1 hD1=>CJ _ t a b _ (ht0.up (hD1 _ Ye))) ?_);refine eV rfl rfl rfl (fun D3 hD3=>qG _ t (oI t.last a b) _ (ht0.up (hD3 _ Ye))) rfl cW (fun v3 D4 ν3 hD4 hp3=>?_)
 obtain⟨wv,rfl,hwk⟩:=hp3;refine Za rfl<|Zab rfl<|Zab rfl<|Zi rfl<|Zi rfl<|L.n4<|Za rfl<|Zaf rfl<|L.n1<|aE rfl (fun hc1=>?_) (fun hc1=>?_)
 ·refine C.s1<|Za rfl<|Zi rfl<|Zi rfl<|L.n5<|Zah ?_;exact Zm [_,_] rfl C.rs (fun D hD=>by show Value.tuple _=_;rw[aMM hc1])
 ·have he0:kI t (oI t.last a b)=0:=by omega
  obtain⟨hto,htn,wb,mb,hv2,lv2,mv2,tsv,es,cl,S,rfl,rfl,htw,hts,hS,hsp⟩:=hwk he0;have hrow:=FY (yR he0);refine C.kn<|C.s1<|Zr [.func (.func 85) #[] #[]] rfl Tf.p195 Tf.z195 rfl rfl<|Za rfl<|Za rfl<|Za rfl<|dL (A:=[]) (ν:=[(_,_),(_,_)]) (B:=[]) rfl rfl rfl rfl (by first|exact Or.inl rfl|exact Or.inr Ye) (AU (cs:=[_,_,_,_,_,_,_])) (fun D7 hD7=>Q6 t wb mb hv2 lv2 mv2 tsv es cl (jQ · a b) _ _ _ _ (hts.up V9.up (hD7 _ Ye)) htn hto (fun s hsm D' hD'=>aGM t wb mb hv2 lv2 mv2 tsv es cl s _ _ D' (by have:=mB hto hsm;have:=hto.len;omega) (by have:=mB hto hsm;have:=hto.len10;omega) hrow.1 hrow.2.1 hrow.2.2)) rfl cW (fun v7 D8 _ hD8 hp7=>?_)
  obtain⟨rfl,rfl⟩:=hp7;refine aBW rfl U99 rfl Tf.a3 rfl rfl rfl trivial<|Zi rfl<|Zi rfl<|L.n5 ?_;exact Zm [_,_] rfl C.rs (fun D hD=>by show Value.tuple _=_;rw[aMT he0,he0];rfl)
end L2
end Go.Fs
namespace Go.Fs
open Go.Proofs
namespace L3
open L1
open C1
open C1
open C1
end L3
end Go.Fs
