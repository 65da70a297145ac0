/- Of the proof of BookPlace: SW3, SW4, SW5, Pair, Pairs, Nu, Mend, SW6, SW7, SW8, UW3, UW4, UW5, UW6, UW7, V1. -/
import Derived.Test.YtbaniakdgogjeaaGreatDoorZBookPlaceAE
import Derived.Test.YtbaniakdgogjeaaGreatDoorZBookPlaceAC
import Derived.Test.YtbaniakdgogjeaaGreatDoorZBookPlaceAD
namespace Go.Fs
open Go.Proofs
namespace L7
open C7
def s8(l:List Int):Nat:=(l.filter fun n=>decide (n=2)).length
theorem YQ(l:List Int):s8 l≤l.length:=aNC _ _
theorem aBX(l:List Ch):iN l≤3*l.length:=by
 induction l with
 |nil=>simp[iN]
 |cons c l ih=>
  have:aAG c.parts≤3:=aNC _ _;simp only[iN,aLB,List.sum_cons,aKD]at ih ⊢
  omega
theorem OU{l:List Ch}{i:Nat}{x:Ch}(hx:l[i]?= some x):((iN (l.take (i+1)):Nat):Int)=((iN (l.take i)+s8 (x.parts.l.take 3):Nat):Int):=by
 rw[aKL,hx];simp[iN,aAG,s8,Pt.l]
theorem VE{x:Ch}{k:Nat}{n:Int}(hx:gX x=true)(hn:x.parts.l[k]?= some n):0≤n∧n≤2:=by
 simp only[gX,aKG,HJ,aKX]at hx;have:=hx.2 n (aJV hn);simpa [fL]using this
theorem IK{l:List Int}{k u:Nat}{n:Int}(hn:l[k]?= some n)(h:0≤n∧n≤2):((u+s8 (l.take (k+1)):Nat):Int)=((u+s8 (l.take k):Nat):Int)+n / 2:=by
 rw[aKL,hn];simp only[s8,aLZ,aMX,aJZ];by_cases h2:n=2
 ·subst h2;simp;omega
 ·simp[h2];omega
theorem SM{y:bJ}(h:(decide ((7:Int)<y.chairs.length)||decide ((5:Int)<y.claims.length))=true):aT y=3:=by
 simp only[aLP,aKU]at h;unfold aT;rw[aKS Yd]
theorem g7{y:bJ}(h:(decide ((7:Int)<y.chairs.length)||decide ((5:Int)<y.claims.length))=false):¬(7<y.chairs.length∨5<y.claims.length):=by
 simp only[aMM,aLW]at h;omega
theorem aAS{y:bJ}(h:(decide ((7:Int)<y.chairs.length)||decide ((5:Int)<y.claims.length))=false)(h2:((!fL y.fit 0 9|| !y.chairs.all gX)|| !y.claims.all kZ)=true):aT y=1:=by
 unfold aT;rw[aKO (g7 h),aKS]
 revert h2;unfold uU
 generalize fL y.fit 0 9=a,y.chairs.all gX=b,y.claims.all kZ=c;cases a<;>cases b<;>cases c<;>decide
theorem BV{y:bJ}(h2:((!fL y.fit 0 9|| !y.chairs.all gX)|| !y.claims.all kZ)=false):uU y=true:=by
 revert h2;unfold uU
 generalize fL y.fit 0 9=a,y.chairs.all gX=b,y.claims.all kZ=c;cases a<;>cases b<;>cases c<;>decide
theorem aCG{y:bJ}(h:(decide ((7:Int)<y.chairs.length)||decide ((5:Int)<y.claims.length))=false)(h2:((!fL y.fit 0 9|| !y.chairs.all gX)|| !y.claims.all kZ)=false):y.chairs.length≤7∧∀x∈y.chairs,gX x=true:=by
 have h3:=BV h2;simp only[uU,aKG,aKX]at h3;have:=g7 h;exact⟨by omega,h3.1.2⟩
theorem YT{y:bJ}(h:(decide ((7:Int)<y.chairs.length)||decide ((5:Int)<y.claims.length))=false)(h2:((!fL y.fit 0 9|| !y.chairs.all gX)|| !y.claims.all kZ)=false)(h3:(8:Int)<iN y.chairs):aT y=3:=by
 unfold aT;rw[aKO (g7 h),aKO (by rw[BV h2];simp),aKS Yd]
theorem VH{y:bJ}(h:(decide ((7:Int)<y.chairs.length)||decide ((5:Int)<y.claims.length))=false)(h2:((!fL y.fit 0 9|| !y.chairs.all gX)|| !y.claims.all kZ)=false)(h3:¬(8:Int)<iN y.chairs):aT y=0:=by
 unfold aT;rw[aKO (g7 h),aKO (by rw[BV h2];simp),aKO Yd]
theorem aBG{p:Pt}{k:Nat}{m:Int}(h:p.l[k]?= some m):([.int .i64 p.a,.int .i64 p.b,.int .i64 p.c]:List Value)[k*1]?= some (.int .i64 m):=by
 rw[aND,show([.int .i64 p.a,.int .i64 p.b,.int .i64 p.c]:List Value)=p.l.map (Value.int .i64)from rfl,aLC,h];rfl
theorem qO(yv:Value)(y:bJ)(D:aA)(hy:lE D yv y):Fn Tryz.prog 88 #[yv] D (fun _ v=>v=.int .i64 (aT y)):=by
 have hy0:=hy;obtain⟨cv,qv,rfl,hc,hq⟩:=hy;refine enter 60 Tryz.func88 rfl rfl rfl rfl fun h0=>C.s1<|Zv rfl (fun q1 E1 hE1 hB1=>Zi rfl<|L.n3<|Zs rfl Tf.a40 rfl hB1 Tf.s40<|bE rfl rfl rfl rfl trivial<|Zi rfl<|L.n2<|Zai<|C.s1<|Zj rfl Tf.f40_0 rfl ?_);refine Zg 0 rfl Tf.a37 rfl hB1 rfl<|aW rfl U37 rfl hc rfl rfl trivial<|eR rfl rfl rfl rfl trivial<|Za rfl ?_
 refine' iE [(false,5),(false,6),(false,7),(false,8),(false,9)] [(false,10)] (s:=16) (p:=21) rfl rfl (fun hg1=>?_) (fun hg1=>?_) ?_;rotate_left
 ·refine Zk rfl Tf.f40_2 rfl<|Zh 2 rfl Tf.a38 rfl hB1 rfl<|aW rfl U38 rfl hq rfl rfl ⟨_,rfl,rfl⟩<|eR rfl rfl rfl rfl ⟨_,rfl,rfl⟩<|Zad rfl ?_;exact L.cu 4
 ·refine Zl rfl<|Zl rfl<|Zl rfl<|Zl rfl<|Zac rfl ?_;exact L.cu 4
 refine Zi rfl<|L.n1<|aJ rfl (fun hc1=>?_) (fun hc1=>?_)
 ·refine C.s1<|Zi rfl<|L.n5<|BW<|Zaj ?_;exact Zc [_] rfl ⟨rfl,aGL⟩ (fun D hD=>by show Value.int _ _=_;rw[SM hc1])
 ·refine C.s1<|Zj rfl Tf.f40_1 rfl<|Zg 1 rfl Tf.a3 rfl hB1 rfl<|Zd rfl (fun D1 hD1=>dM _ _ _ _)<|Zaf rfl<|Za rfl ?_;refine' iE [(false,5),(false,6),(false,7),(false,8),(false,9)] [(false,10),(false,11),(false,12),(false,13),(false,14),(false,15),(false,16),(false,17)] (s:=27) (p:=32) rfl rfl (fun hg2=>?_) (fun hg2=>?_) ?_;rotate_left
  ·refine Zk rfl Tf.f40_0 rfl<|Zh 0 rfl Tf.a37 rfl hB1 rfl<|Ze rfl (fun D2 hD2=>Y7 _ _ _ gX _ (Sl.at qY.up hD2 Yk Ye) (.of fun x D2=>O6 x D2) rfl)<|jT rfl rfl rfl ⟨_,rfl,rfl⟩<|Zad rfl ?_;exact L.cu 4
  ·refine Zl rfl<|Zl rfl<|Zl rfl<|Zl rfl<|Zac rfl ?_;exact L.cu 4
  refine Za rfl ?_;refine' iE [(false,11),(false,12),(false,13),(false,14),(false,15),(false,16)] [(false,17)] (s:=33) (p:=39) rfl rfl (fun hg3=>?_) (fun hg3=>?_) ?_;rotate_left
  ·refine Zk rfl Tf.f40_2 rfl<|Zh 2 rfl Tf.a38 rfl hB1 rfl<|Zb rfl<|Ze rfl (fun D3 hD3=>d5 _ _ _ kZ _ (Sl.at R2.up hD3 Yk Ye) ⟨_,[_],[],rfl,fun r D2 hl=>QD _ y r D2 (hy0.up ((hD3 _ Ye).trans hl))⟩ rfl)<|jT rfl rfl rfl ⟨_,rfl,rfl⟩<|Zad rfl ?_;exact L.cu 5
  ·refine Zl rfl<|Zl rfl<|Zl rfl<|Zl rfl<|Zl rfl<|Zac rfl ?_;exact L.cu 5
  refine Zi rfl<|L.n1<|aJ rfl (fun hc2=>?_) (fun hc2=>?_)
  ·refine C.s1<|Zi rfl<|L.n5<|BW<|Zaj ?_;exact Zc [_] rfl ⟨rfl,aGL⟩ (fun D hD=>by show Value.int _ _=_;rw[aAS hc1 hc2])
  ·obtain⟨hl7,hok⟩:=aCG hc1 hc2;refine aAX<|Zak<|Zag<|C.s1<|Zi rfl<|L.n4<|Zj rfl Tf.f40_0 rfl<|Zg 0 rfl Tf.a37 rfl hB1 rfl<|aW rfl U37 rfl hc rfl rfl trivial<|Za rfl<|L.n1<|Zai ?_;refine cN (γ:=Nat) (fun i=>y.chairs.length-i) (fun i=>i≤y.chairs.length) (fun i=>[(43,.int .i64 (i:Int)),(4,.int .i64 (iN (y.chairs.take i):Int))]) [(42,_),(41,_),(2,_)] (fun i=>[E1,D]) 0 Yd ⟨Yb,(by simp[iN];rfl),aGL⟩ C.rs (aD) ?_
   rintro i h1;refine C.s1<|Zae rfl<|L.n2<|aF rfl (fun hc3=>?_) (fun hc3=>?_)
   ·have hi:i<y.chairs.length:=by omega
    obtain⟨x,hx⟩:∃x,y.chairs[i]?= some x:=⟨_,aJT hi⟩
    have hxo:=hok x (aJV hx);have hub:=aBX (y.chairs.take i);have hut:(y.chairs.take i).length≤i:=aOP _ _;refine C.kn<|aCX<|Zai<|C.s1<|Zt rfl U37 Tf.s80 rfl hc rfl hx (fun b1 o1 cs1 hr1 hcl1 hA1=>?_);obtain rfl:cs1=[.int .i64 _,.int .i64 _,.int .i64 _,.int .i64 _]:=hr1;refine Zs rfl Tf.a80 rfl hA1 Tf.s80<|Zw rfl Tf.z80 rfl (fun q2=>Zu rfl Tf.s80 (bO.head)<|L.n3<|Zj rfl Tf.f80_1 rfl<|cS rfl Tf.a78 Tf.s78 rfl (List.Mem.head _) rfl rfl aJN rfl trivial<|Za rfl<|L.n1<|Zai<|cN (γ:=Nat) (fun k=>3-k) (fun k=>k≤3) (fun k=>[(49,.int .i64 (k:Int)),(4,.int .i64 ((iN (y.chairs.take i)+s8 (x.parts.l.take k):Nat):Int))]) [(48,_),(47,_),(6,_),(46,_),(45,_),(44,_),(43,_),(42,_),(41,_),(2,_)] (fun k=>[E1,D]) 0 Yd ⟨Yb,(by simp[s8];rfl),aGL⟩ C.rs (aD) ?_)
    rintro k h2;refine C.s1<|Zae rfl<|L.n2<|aF rfl (fun hc4=>?_) (fun hc4=>?_)
    ·have hk3:k<3:=by omega
     obtain⟨n,hn⟩:∃n,x.parts.l[k]?= some n:=⟨_,aJT (by simp[Pt.l];omega)⟩
     have hn2:=VE hxo hn;have hkl:=YQ (x.parts.l.take k);have hkt:(x.parts.l.take k).length≤k:=aOP _ _;refine C.kn<|aCX<|Zai<|C.s1<|J6 (l:=x.parts.l) rfl U78 Tf.a3 Tf.s3 rfl rfl Yd Yd hn rfl trivial<|Zi rfl<|L.n1<|C.rg<|Za rfl<|Za rfl<|UJ rfl rfl rfl Yd Yd Yf rfl trivial<|Zy rfl ?_;refine Zi rfl<|Zz<|Zak<|Zag<|C.rg<|Zy rfl<|Za rfl<|Zz ?_;exact aH 12 (k+1) Yd Yd ⟨Yb,(by rw[IK hn hn2];rfl),aGL⟩ rfl rfl (aJU _) (aD)
    ·obtain rfl:k=3:=by omega
     refine aR<|Zah<|Zah<|Zal<|Zak<|Zag<|C.rg<|Zy rfl<|Za rfl<|Zz ?_;exact aH 12 (i+1) Yd Yd ⟨Yb,(by rw[OU hx];rfl),aGL⟩ rfl rfl (List.Sublist.cons _ (aJU _)) (aD)
   ·obtain rfl:i=y.chairs.length:=by omega
    rw[aLL];refine aR<|Zah<|Zah<|Zal<|Zag<|C.s2<|Za rfl<|eR rfl rfl rfl rfl trivial<|L.n1<|aF rfl (fun hc5=>?_) (fun hc5=>?_)
    ·refine C.s1<|Zi rfl<|L.n5<|Zaj ?_;exact Zc [_] rfl ⟨rfl,aGL⟩ (fun D hD=>by show Value.int _ _=_;rw[YT hc1 hc2 hc5])
    ·refine C.kn<|C.s1<|Zi rfl<|L.n5 ?_;exact Zc [_] rfl ⟨rfl,aGL⟩ (fun D hD=>by show Value.int _ _=_;rw[VH hc1 hc2 hc5])
end L7
end Go.Fs
namespace Go.Fs
open Go.Proofs
namespace L7
open C7
def R6(p:Pt):Prop:=(0≤p.a∧p.a≤1)∧(0≤p.b∧p.b≤1)∧(0≤p.c∧p.c≤1)
def FH(p q:Pt):Bool:=(!iO p&& !iO q)&&iO ⟨max p.a q.a,max p.b q.b,max p.c q.c⟩
def AY(f:Int)(x z:Ch):Bool:=fL (x.size-z.size) (-f) f
theorem SF(p q:Pt)(D:aA)(hp:R6 p)(hq:R6 q):Fn Tryz.prog 228 #[aDG p,aDG q] D (fun _ v=>v=.bool (FH p q)):=by
 refine enter 32 Tryz.func228 rfl rfl rfl rfl fun h0=>C.s1<|Zv rfl (fun q1 E1 hE1 hB1=>Zv rfl (fun q2 E2 hE2 hB2=>Zi rfl<|L.n3<|cO rfl Tf.a78 rfl hB1 Yc Yy aJN rfl trivial<|Zd rfl (fun D1 hD1=>wT p _)<|Zaf rfl<|Za rfl ?_))
 refine' cQ [(false,4),(false,5),(false,6),(false,7)] [(false,8),(false,9),(false,10),(false,11),(false,12),(false,13),(false,14),(false,15),(false,16),(false,17),(false,18),(false,19),(false,20),(false,21),(false,22),(false,23),(false,24),(false,25),(false,26),(false,27)] (s:=8) (p:=12) rfl rfl (fun hg1=>?_) (fun hg1=>?_) ?_;rotate_left
 ·refine cO rfl Tf.a78 rfl hB2 Yc Yy aJN rfl ⟨_,rfl,rfl⟩<|Ze rfl (fun D2 hD2=>wT q _)<|jT rfl rfl rfl ⟨_,rfl,rfl⟩<|Zac rfl ?_;exact L.cu 3
 ·refine Zl rfl<|Zl rfl<|Zl rfl<|Zad rfl ?_;exact L.cu 3
 refine Za rfl ?_;refine' cQ [(false,9),(false,10),(false,11),(false,12),(false,13),(false,14),(false,15),(false,16),(false,17),(false,18),(false,19),(false,20),(false,21),(false,22),(false,23),(false,24),(false,25),(false,26)] [(false,27)] (s:=13) (p:=31) rfl rfl (fun hg2=>?_) (fun hg2=>?_) ?_;rotate_left
 ·refine dI rfl U78 Tf.s3 rfl rfl Yah Yah rfl ⟨_,rfl,rfl⟩<|gD rfl Tf.a3 rfl hB1 Ye rfl aJN rfl ⟨_,rfl,rfl⟩<|dI rfl U78 Tf.s3 rfl rfl Yah Yah rfl ⟨_,rfl,rfl⟩<|gD rfl Tf.a3 rfl hB2 Ye rfl aJN rfl ⟨_,rfl,rfl⟩<|EO rfl rfl rfl hp.1 hq.1 rfl ⟨_,rfl,rfl⟩<|dI rfl U78 Tf.s3 rfl rfl Yah Yah rfl ⟨_,rfl,rfl⟩<|gD rfl Tf.a3 rfl hB1 Ye rfl aJN rfl ⟨_,rfl,rfl⟩<|dI rfl U78 Tf.s3 rfl rfl Yah Yah rfl ⟨_,rfl,rfl⟩<|gD rfl Tf.a3 rfl hB2 Ye rfl aJN rfl ⟨_,rfl,rfl⟩<|EO rfl rfl rfl hp.2.1 hq.2.1 rfl ⟨_,rfl,rfl⟩<|dI rfl U78 Tf.s3 rfl rfl Yah Yah rfl ⟨_,rfl,rfl⟩<|gD rfl Tf.a3 rfl hB1 Ye rfl aJN rfl ⟨_,rfl,rfl⟩ ?_;refine dI rfl U78 Tf.s3 rfl rfl Yah Yah rfl ⟨_,rfl,rfl⟩<|gD rfl Tf.a3 rfl hB2 Ye rfl aJN rfl ⟨_,rfl,rfl⟩<|EO rfl rfl rfl hp.2.2 hq.2.2 rfl ⟨_,rfl,rfl⟩<|H5 (cs:=[.int .i64 (max p.a q.a),.int .i64 (max p.b q.b),.int .i64 (max p.c q.c)]) rfl U78 Tf.s3 Tf.z78 rfl rfl rfl ⟨_,rfl,rfl⟩<|Ze rfl (fun D3 hD3=>wT ⟨max p.a q.a,max p.b q.b,max p.c q.c⟩ _)<|Zac rfl ?_;exact L.cu 17
 ·refine Zl rfl<|Zl rfl<|Zl rfl<|Zl rfl<|Zl rfl<|Zl rfl<|Zl rfl<|Zl rfl<|Zl rfl<|Zl rfl<|Zl rfl<|Zl rfl ?_;refine Zl rfl<|Zl rfl<|Zl rfl<|Zl rfl<|Zl rfl<|Zad rfl ?_;exact L.cu 17
 refine Zi rfl<|L.n5 ?_;exact Zc [_] rfl ⟨rfl,aGL⟩ (fun D hD=>rfl)
theorem A6(yv:Value)(y:bJ)(a b:Nat)(x z:Ch)(D:aA)(hy:lE D yv y)(hf:0≤y.fit∧y.fit≤9)(hx:y.chairs[a]?= some x)(hz:y.chairs[b]?= some z)(hxs:0≤x.size∧x.size≤9)(hzs:0≤z.size∧z.size≤9):Fn Tryz.prog 95 #[yv,.int .i64 (a:Int),.int .i64 (b:Int)] D (fun _ v=>v=.bool (AY y.fit x z)):=by
 obtain⟨cv,qv,rfl,hc,hq⟩:=hy;refine enter 26 Tryz.func95 rfl rfl rfl rfl fun h0=>C.s1<|Zv rfl (fun q1 E1 hE1 hB1=>Zi rfl<|L.n2<|C.drawA [] 6 20 257988 (fun _ _ _ h=>cZ (P:=Tryz.prog) (fn:=Tryz.f95) _ _ _ h)<|Zj rfl Tf.f40_0 rfl<|Zg 0 rfl Tf.a37 rfl hB1 rfl<|Za rfl<|Zt rfl U37 Tf.s80 rfl hc rfl hx (fun b1 o1 cs1 hr1 hcl1 hA1=>?_))
 obtain rfl:cs1=[.int .i64 _,.int .i64 _,.int .i64 _,.int .i64 _]:=hr1;refine Zj rfl Tf.f80_0 rfl<|Zg 0 rfl Tf.a3 rfl hA1 rfl<|Zj rfl Tf.f40_0 rfl<|Zg 0 rfl Tf.a37 rfl hB1 rfl<|Za rfl<|Zt rfl U37 Tf.s80 rfl hc rfl hz (fun b2 o2 cs2 hr2 hcl2 hA2=>?_);obtain rfl:cs2=[.int .i64 _,.int .i64 _,.int .i64 _,.int .i64 _]:=hr2;refine Zj rfl Tf.f80_0 rfl<|Zg 0 rfl Tf.a3 rfl hA2 rfl<|fW rfl rfl rfl Yf rfl trivial<|Zj rfl Tf.f40_1 rfl<|Zg 1 rfl Tf.a3 rfl hB1 rfl<|ZD rfl rfl Yf rfl trivial<|Zj rfl Tf.f40_1 rfl<|Zg 1 rfl Tf.a3 rfl hB1 rfl<|Zd rfl (fun D1 hD1=>dM _ _ _ _)<|Zi rfl<|L.n5 ?_;exact Zc [_] rfl ⟨rfl,aGL⟩ (fun D hD=>rfl)
end L7
end Go.Fs
namespace Go.Fs
open Go.Proofs
namespace L7
open C7
def gS(p:Nat→Bool):Nat→Nat
 |0=>0
 |n+1=>if p n=true then gS p n|||2^n else gS p n
theorem pM(p:Nat→Bool):∀n i,(gS p n).testBit i=(decide (i<n)&&p i)
 |0,i=>by simp[gS]
 |n+1,i=>by
  unfold gS;split
  ·rename_i h;rw[Nat.testBit_or,pM p n i,Nat.testBit_two_pow];by_cases hi:n=i
   ·subst hi;simp[h]
   ·have:(i<n+1)=(i<n):=by rw[eq_iff_iff];omega
    simp[hi,this]
  ·rename_i h;rw[pM p n i];by_cases hi:n=i
   ·subst hi;simp[h]
   ·have:(i<n+1)=(i<n):=by rw[eq_iff_iff];omega
    simp[this]
theorem b8(p:Nat→Bool)(n:Nat):gS p n<2^n:=by
 apply Nat.lt_pow_two_of_testBit;intro i hi;rw[pM];have:¬i<n:=by omega
 simp[this]
def jQ(t:List Pt)(i:Nat):Bool:=match t[i]? with|some p=> !iO p|none=>false
def mI(y:bJ)(t:List Pt)(i k:Nat):Bool:=match t[i]?,t[k]?,y.chairs[i]?,y.chairs[k]? with
 |some p,some q,some x,some z=>(decide ((k:Int)≠i)&&AY y.fit x z)&&FH p q
 |_,_,_,_=>false
theorem OY{y:bJ}{t:List Pt}{i k:Nat}{z q:Pt}{x1 x2:Ch}(hz:t[i]?= some z)(hq:t[k]?= some q)(hx1:y.chairs[i]?= some x1)(hx2:y.chairs[k]?= some x2):mI y t i k=((decide ((k:Int)≠i)&&AY y.fit x1 x2)&&FH z q):=by
 unfold mI;rw[hz,hq,hx1,hx2]
def eI(y:bJ)(t:List Pt)(i k:Nat):List Nat:=(List.range 7).map fun j=>if j<i then gS (mI y t j) t.length else if j=i then gS (mI y t i) k else 0
structure Sc where
 whole:Nat
 broken:Nat
 fits:List Nat
deriving DecidableEq
def dK(y:bJ)(t:List Pt):Sc:=⟨whole t,gS (jQ t) t.length,(List.range 7).map fun j=>gS (mI y t j) t.length⟩
def zY(w b:Nat)(rows:List Nat):List Value:=.int .i64 (w:Int)::.int .i64 (b:Int)::rows.map fun(n:Nat)=>Value.int .i64 (n:Int)
def CL(s:Sc):Value:=.agg (zY s.whole s.broken s.fits).toArray
theorem SX(w b:Nat)(rows:List Nat):∀u∈zY w b rows,cell1 u=true:=by
 intro u hu;unfold zY at hu;simp only[aJX,aJY]at hu;rcases hu with rfl|rfl|⟨n,_,rfl⟩<;>rfl
theorem VK{y:bJ}{t:List Pt}{j:Nat}(h:t.length≤j):gS (mI y t j) t.length=0:=by
 apply Nat.eq_of_testBit_eq;intro i;rw[pM,Nat.zero_testBit];have:mI y t j i=false:=by unfold mI;rw[aNE h]
 simp[this]
theorem IC{y:bJ}{t:List Pt}:eI y t t.length 0=(dK y t).fits:=by
 show eI y t t.length 0=(List.range 7).map fun j=>gS (mI y t j) t.length
 unfold eI;apply List.map_congr_left;intro j _;by_cases h:j<t.length
 ·rw[aKS h]
 ·rw[aKO h,VK Yd];split<;>rfl
theorem FT{y:bJ}{t:List Pt}{i:Nat}:eI y t i t.length=eI y t (i+1) 0:=by
 unfold eI;apply List.map_congr_left;intro j _;by_cases h:j<i
 ·rw[aKS h,aKS Yd]
 ·rw[aKO h];by_cases h2:j=i
  ·subst h2;rw[aKS rfl,aKS Yd]
  ·rw[aKO h2,aKO Yd];split<;>rfl
theorem aBU{y:bJ}{t:List Pt}{i k:Nat}(h:mI y t i k=false):eI y t i k=eI y t i (k+1):=by
 unfold eI;have:gS (mI y t i) (k+1)=gS (mI y t i) k:=by rw[gS,aKO (by simp[h])]
 rw[this]
theorem WU{y:bJ}{t:List Pt}{i k:Nat}(h:i<7):(eI y t i k)[i]?= some (gS (mI y t i) k):=by
 unfold eI;rw[aLC,aJD h];simp
theorem ZZ{rows:List Nat}{i n:Nat}(w b:Nat)(h:rows[i]?= some n):(zY w b rows)[2+i*1]?= some (.int .i64 (n:Int)):=by
 rw[aND,Nat.add_comm];unfold zY;rw[List.getElem?_cons_succ,List.getElem?_cons_succ,aLC,h];rfl
theorem C8{t:List Pt}{i:Nat}{z:Pt}(hz:t[i]?= some z):whole (t.take (i+1))=whole (t.take i)+if iO z=true then 1 else 0:=by
 unfold whole;rw[aKL,hz,aLZ,aMX,aJZ];cases h:iO z<;>simp[h]
theorem HD{t:List Pt}{i:Nat}{z:Pt}(hz:t[i]?= some z):jQ t i= !iO z:=by unfold jQ;rw[hz]
theorem V5{y:bJ}{t:List Pt}{i k:Nat}{z:Pt}(hz:t[i]?= some z)(hw:iO z=true):gS (mI y t i) k=0:=by
 apply Nat.eq_of_testBit_eq;intro j;rw[pM,Nat.zero_testBit];have:mI y t i j=false:=by
  unfold mI;rw[hz]
  split
  ·rename_i e1 _ _ _;obtain rfl:=aKZ e1;simp[FH,hw]
  ·rfl
 simp[this]
theorem SP{y:bJ}{t:List Pt}{i:Nat}{z:Pt}(hz:t[i]?= some z)(hw:iO z=true):
  (zY (whole (t.take i)) (gS (jQ t) i) (eI y t i 0)).take 0++[.int .i64 ((whole (t.take i):Int)+1)]++(zY (whole (t.take i)) (gS (jQ t) i) (eI y t i 0)).drop (0+ [Value.int .i64 ((whole (t.take i):Int)+1)].length)=zY (whole (t.take (i+1))) (gS (jQ t) (i+1)) (eI y t (i+1) 0):=by
 have h1:((whole (t.take (i+1)):Nat):Int)=(whole (t.take i):Int)+1:=by rw[C8 hz,aKS hw];simp
 have h2:gS (jQ t) (i+1)=gS (jQ t) i:=by rw[gS,aKO (by rw[HD hz,hw];simp)]
 have h3:eI y t (i+1) 0=eI y t i 0:=by
  rw[←FT];unfold eI;rw[V5 hz hw,V5 hz hw]
 rw[h2,h3];unfold zY;rw[h1];rfl
theorem XU{y:bJ}{t:List Pt}{i:Nat}{z:Pt}(hz:t[i]?= some z)(hw:iO z=false):
  (zY (whole (t.take i)) (gS (jQ t) i) (eI y t i 0)).take 1++[.int .i64 ((gS (jQ t) i|||2^i:Nat):Int)]++(zY (whole (t.take i)) (gS (jQ t) i) (eI y t i 0)).drop (1+ [Value.int .i64 ((gS (jQ t) i|||2^i:Nat):Int)].length)=zY (whole (t.take (i+1))) (gS (jQ t) (i+1)) (eI y t i 0):=by
 have h1:whole (t.take (i+1))=whole (t.take i):=by rw[C8 hz,aKO (by simp[hw])];rfl
 have h2:gS (jQ t) (i+1)=gS (jQ t) i|||2^i:=by rw[gS,aKS (by rw[HD hz,hw];rfl)]
 rw[h1,h2];rfl
theorem aAP{y:bJ}{t:List Pt}{i k w b:Nat}(hi:i<7)(h:mI y t i k=true):
  (zY w b (eI y t i k)).take (2+i*1)++[.int .i64 ((gS (mI y t i) k|||2^k:Nat):Int)]++(zY w b (eI y t i k)).drop (2+i*1+ [Value.int .i64 ((gS (mI y t i) k|||2^k:Nat):Int)].length)=zY w b (eI y t i (k+1)):=by
 have h2:gS (mI y t i) (k+1)=gS (mI y t i) k|||2^k:=by rw[gS,aKS h]
 have e:i=0∨i=1∨i=2∨i=3∨i=4∨i=5∨i=6:=by omega
 rw[←h2];rcases e with rfl|rfl|rfl|rfl|rfl|rfl|rfl<;>rfl
theorem OH(yv tv:Value)(y:bJ)(t:List Pt)(D:aA)(hy:lE D yv y)(ht:Sl D RP 3 tv t)(hlen:t.length=y.chairs.length)(h7:t.length≤7)(hb:∀p∈t,R6 p)(hf:0≤y.fit∧y.fit≤9)(hs:∀c∈y.chairs,0≤c.size∧c.size≤9):Fn Tryz.prog 146 #[yv,tv] D (fun _ v=>v=CL (dK y t)):=by
 have hy0:=hy;obtain⟨cv,qv,rfl,hc,hq⟩:=hy;have hl:=ht.len;refine enter 61 Tryz.func146 rfl rfl rfl rfl fun h0=>C.s1<|Zv rfl (fun q1 E1 hE1 hB1=>Zw rfl Tf.z276 rfl (fun q2=>L.n4<|Za rfl<|aW rfl U272 rfl ht rfl rfl trivial<|Za rfl<|L.n1<|Zai<|cE (γ:=Nat) (fun i=>t.length-i) (fun i=>i≤t.length) (fun i=>[(11,.int .i64 (i:Int))]) [(10,_),(9,_),(4,_),(2,_),(1,_)] (fun i=>[(q2,.cells (zY (whole (t.take i)) (gS (jQ t) i) (eI y t i 0)).toArray 276 (0,0))]) (fun i=>[E1,D]) 0 Yd ⟨Yb,aGL⟩ C.rs (aJU _) (aD) ?_))
 rintro i h1;refine C.s1<|Zae rfl<|L.n2<|aF rfl (fun hc1=>?_) (fun hc1=>?_)
 ·have hi:i<t.length:=by omega
  obtain⟨z,hz⟩:∃z,t[i]?= some z:=⟨_,aJT hi⟩
  obtain⟨x1,hx1⟩:∃x1,y.chairs[i]?= some x1:=⟨_,aJT Yd⟩
  have hwl:whole (t.take i)≤(t.take i).length:=aNC _ _;have hwt:(t.take i).length≤i:=aOP _ _;have hbl:=b8 (jQ t) i;have hp2:2^i≤2^7:=aNQ Yd Yd;refine C.kn<|aCX<|Zai<|C.s1<|Za rfl<|Zt rfl U272 Tf.s78 rfl ht rfl hz (fun b1 o1 cs1 hr1 hcl1 hA1=>?_);obtain rfl:cs1=[.int .i64 _,.int .i64 _,.int .i64 _]:=hr1;refine cO rfl Tf.a78 rfl hA1 Yc Yy aJN rfl trivial<|Zw rfl Tf.z78 rfl (fun q3=>Zi rfl<|Zu rfl Tf.s78 (bO.head)<|L.n4<|aY rfl Tf.a78 rfl (List.Mem.head _) Yy aJN rfl trivial<|Zd rfl (fun D1 hD1=>wT z _)<|L.n1<|aJ rfl (fun hc2=>?_) (fun hc2=>?_))
  ·refine C.s1<|Zj rfl Tf.f276_0 rfl<|Zm rfl Tf.a3 rfl (List.Mem.tail _ (List.Mem.head _)) rfl<|Zy rfl<|Zj rfl Tf.f276_0 rfl<|aK (ws:=zY (whole (t.take (i+1))) (gS (jQ t) (i+1)) (eI y t (i+1) 0)) rfl rfl rfl rfl Tf.s3 (.tail bO.head) (by simp[zY]) (SP hz hc2) Yi trivial<|L.n1<|aR<|Zah<|Zal<|Zag<|C.rg ?_;refine Zy rfl<|Za rfl<|Zz ?_;exact aH 15 (i+1) Yd Yd ⟨Yb,aGL⟩ rfl rfl (List.Sublist.cons _ (aJU _)) (aD)
  ·refine C.kn<|aCX<|C.drawA [] 2 7 12 (fun _ _ _ h=>cZ (P:=Tryz.prog) (fn:=Tryz.f146) _ _ _ h)<|Zj rfl Tf.f276_1 rfl<|Zm rfl Tf.a3 rfl (List.Mem.tail _ (List.Mem.head _)) rfl<|Za rfl<|B8 rfl rfl rfl Yd rfl trivial<|FU rfl rfl rfl Yd Yd rfl trivial<|Zj rfl Tf.f276_1 rfl<|aK (ws:=zY (whole (t.take (i+1))) (gS (jQ t) (i+1)) (eI y t i 0)) rfl rfl rfl rfl Tf.s3 (.tail bO.head) (by simp[zY]) (XU hz hc2) Yi trivial<|L.n3<|Za rfl ?_;refine aW rfl U272 rfl ht rfl rfl trivial<|Za rfl<|L.n1<|Zai<|cE (γ:=Nat) (fun k=>t.length-k) (fun k=>k≤t.length) (fun k=>[(30,.int .i64 (k:Int))]) [(29,_),(28,_),(27,_),(26,_),(25,_),(24,_),(23,_),(22,_),(17,_),(16,_),(5,_),(6,_),(15,_),(14,_),(13,_),(12,_),(11,_),(10,_),(9,_),(4,_),(2,_),(1,_)] (fun k=>[(q3,.cells [.int .i64 z.a,.int .i64 z.b,.int .i64 z.c].toArray 78 (0,0)),(q2,.cells (zY (whole (t.take (i+1))) (gS (jQ t) (i+1)) (eI y t i k)).toArray 276 (0,0))]) (fun k=>[E1,D]) 0 Yd ⟨Yb,aGL⟩ C.rs (aJU _) (aD) ?_;rintro k h2;refine C.s1<|Zae rfl<|L.n2<|aF rfl (fun hc3=>?_) (fun hc3=>?_)
   ·have hk:k<t.length:=by omega
    obtain⟨q,hq⟩:∃q,t[k]?= some q:=⟨_,aJT hk⟩
    obtain⟨x2,hx2⟩:∃x2,y.chairs[k]?= some x2:=⟨_,aJT Yd⟩
    have hbk:=b8 (mI y t i) k;have hp3:2^k≤2^7:=aNQ Yd Yd;refine C.kn<|aCX<|Zai<|C.s1<|Za rfl<|Zt rfl U272 Tf.s78 rfl ht rfl hq (fun b2 o2 cs2 hr2 hcl2 hA2=>?_);obtain rfl:cs2=[.int .i64 _,.int .i64 _,.int .i64 _]:=hr2;refine cO rfl Tf.a78 rfl hA2 Yc Yy aJN rfl trivial<|Zw rfl Tf.z78 rfl (fun q4=>Zi rfl<|Zu rfl Tf.s78 (bO.head)<|L.n3<|Za rfl<|Za rfl<|eQ rfl rfl rfl rfl trivial<|Za rfl ?_);refine' cQ [(false,4),(false,5),(false,6),(false,7),(false,8)] [(false,9),(false,10),(false,11),(false,12),(false,13)] (s:=38) (p:=43) rfl rfl (fun hg1=>?_) (fun hg1=>?_) ?_;rotate_left
    ·refine cO rfl Tf.a40 rfl hB1 Yc Tf.s40 aJN rfl ⟨_,rfl,rfl⟩<|Zb rfl<|Zb rfl<|Ze rfl (fun D2 hD2=>A6 _ y i k x1 x2 _ (hy0.up (hD2 _ Ye)) hf hx1 hx2 (hs _ (aJV hx1)) (hs _ (aJV hx2)))<|Zac rfl ?_;exact L.cu 4
    ·refine Zl rfl<|Zl rfl<|Zl rfl<|Zl rfl<|Zad rfl ?_;exact L.cu 4
    refine Za rfl ?_;refine' cQ [(false,10),(false,11),(false,12),(false,13)] [] (s:=44) (p:=48) rfl rfl (fun hg2=>?_) (fun hg2=>?_) ?_;rotate_left
    ·refine aY rfl Tf.a78 rfl (aJS _ (aNM _)) Yy aJN rfl ⟨_,rfl,rfl⟩<|aY rfl Tf.a78 rfl (List.Mem.head _) Yy aJN rfl ⟨_,rfl,rfl⟩<|Ze rfl (fun D3 hD3=>SF z q _ (hb _ (aJV hz)) (hb _ (aJV hq)))<|Zac rfl ?_;exact L.cu 3
    ·refine Zl rfl<|Zl rfl<|Zl rfl<|Zad rfl ?_;exact L.cu 3
    refine L.n1<|aJ rfl (fun hc4=>?_) (fun hc4=>?_)
    ·have hfit:mI y t i k=true:=by rw[OY hz hq hx1 hx2];exact hc4
     refine C.drawA [] 3 10 178 (fun _ _ _ h=>cZ (P:=Tryz.prog) (fn:=Tryz.f146) _ _ _ h)<|Za rfl<|Zj rfl Tf.f276_2 rfl<|dR rfl U274 Tf.s3 rfl rfl Yd Yd rfl trivial<|aS rfl Tf.a3 rfl (List.Mem.tail _ (List.Mem.tail _ (List.Mem.head _))) (ZZ _ _ (WU Yd)) aJN rfl trivial<|Za rfl<|B8 rfl rfl rfl Yd rfl trivial<|FU rfl rfl rfl Yd Yd rfl trivial<|Zj rfl Tf.f276_2 rfl<|dR rfl U274 Tf.s3 rfl rfl Yd Yd rfl trivial<|aK (ws:=zY (whole (t.take (i+1))) (gS (jQ t) (i+1)) (eI y t i (k+1))) rfl rfl rfl rfl Tf.s3 (.tail (.tail bO.head)) (by simp[zY,eI];omega) (aAP Yd hfit) Yi trivial<|Zz ?_;refine Zak<|Zag<|C.rg<|Zy rfl<|Za rfl<|Zz ?_;exact aH 25 (k+1) Yd Yd ⟨Yb,aGL⟩ rfl rfl (List.Sublist.cons _ (aJU _)) (aD)
    ·have hfit:mI y t i k=false:=by rw[OY hz hq hx1 hx2];exact hc4
     refine aAX<|Zak<|Zag<|C.rg<|Zy rfl<|Za rfl<|Zz ?_;rw[aBU hfit];exact aH 16 (k+1) Yd Yd ⟨Yb,aGL⟩ rfl rfl (List.Sublist.cons _ (aJU _)) (aD)
   ·obtain rfl:k=t.length:=by omega
    rw[FT];refine aR<|Zah<|Zah<|Zal<|Zak<|Zag<|C.rg<|Zy rfl<|Za rfl<|Zz ?_;exact aH 21 (i+1) Yd Yd ⟨Yb,aGL⟩ rfl rfl (List.Sublist.cons _ (aJU _)) (aD)
 ·obtain rfl:i=t.length:=by omega
  refine aR<|Zah<|Zah<|Zal<|Zag<|C.s1<|Zp rfl Tf.a276 rfl (List.Mem.head _) Tf.s276<|bH rfl rfl rfl rfl Tf.s276 Ya Ya (bO.head) (SX _ _ _) trivial<|L.n5 ?_;exact Zc [_] rfl ⟨⟨_,_,_,rfl,(List.Mem.head _),Or.inr ⟨Tf.a276,(by first|exact Tf.s276|(simp only[aLH,aI, *];exact Tf.s276)),rfl⟩⟩,aGL⟩ (fun D hD=>by rw[IC,aLL];rfl)
end L7
end Go.Fs
namespace Go.Fs.C7
end Go.Fs.C7
namespace Go.Fs.C7
end Go.Fs.C7
namespace Go.Fs.C7
theorem N5{m a:Nat}(h:m.testBit a=true):nR m (2^a)<m:=by
 have h1:=vP m (2^a);have h2:nR m (2^a)≠m:=fun e=>by
  have:=A7 m (2^a) a;rw[e,h,Nat.testBit_two_pow_self]at this;cases this
 omega
theorem ZR(m a i:Nat):(nR m (2^a)).testBit i=(m.testBit i&& !decide (a=i)):=by
 rw[A7,Nat.testBit_two_pow]
def low(m:Nat):Nat:=((List.range m).find? fun i=>m.testBit i).getD 0
theorem sW{m:Nat}(h:m≠0):m.testBit (low m)=true∧∀i,i<low m→m.testBit i=false:=by
 obtain⟨i,hi⟩:=Nat.exists_testBit_of_ne_zero h;have him:i<m:=aMO Nat.lt_two_pow_self (Nat.ge_two_pow_of_testBit hi);unfold low;cases hf:(List.range m).find? fun i=>m.testBit i with
 |none=>
  have:=List.find?_eq_none.1 hf i (aNN.2 him);exact absurd hi this
 |some j=>
  have h1:=List.find?_some hf;refine⟨h1,fun k hk=>?_⟩;simp only[aNL]at hk;obtain⟨_,l1,l2,hab,hno⟩:=List.find?_eq_some_iff_append.1 hf;have hjm:j<m:=aNN.1 (List.mem_of_find?_eq_some hf);have hlen:l1.length=j:=by
   have h2:(List.range m)[l1.length]?= some j:=by rw[hab,aJO (aKR _)];simp
   have hl:l1.length<m:=by
    have:=aKJ List.length hab;simp at this;omega
   rw[aJD hl]at h2;exact aKZ h2
  have hkm:(List.range m)[k]?= some k:=aJD Yd;rw[hab,aMV Yd]at hkm;have:=hno k (aJV hkm);simpa using this
def fB(F:List Nat)(a b:Nat):Bool:=(F.getD a 0).testBit b
def pI(F:List Nat)(rest a:Nat)(nu:Nat→Nat)(m b:Nat):Nat:=if(rest&&&F.getD a 0).testBit b=true then max m (1+nu (nR rest (2^b)))else m
def UP(F:List Nat)(n:Nat):Nat→Nat→Nat
 |0,_=>0
 |k+1,m=>if m=0 then 0 else(List.range n).foldl (pI F (nR m (2^low m)) (low m) (UP F n k)) (UP F n k (nR m (2^low m)))
def d4(F:List Nat)(n m:Nat):Nat:=UP F n m m
theorem sM{α β:Type}{f g:β→α→β}:∀{l:List α} {b:β},(∀b,∀a∈l,f b a=g b a)→l.foldl f b=l.foldl g b
 | [],_,_=>rfl
 |x::l,b,h=>by
  rw[aMF,aMF,h b x aKI];exact sM fun b a ha=>h b a (aKA _ ha)
theorem xJ{F:List Nat}{n:Nat}:∀(k m l:Nat),m≤k→m≤l→UP F n k m=UP F n l m
 |0,m,l,h,_=>by
  obtain rfl:m=0:=by omega
  cases l<;>simp[UP]
 |k+1,m,0,_,h=>by
  obtain rfl:m=0:=by omega
  simp[UP]
 |k+1,m,l+1,h,h'=>by
  simp only[UP];by_cases hm:m=0
  ·rw[aKS hm,aKS hm]
  ·rw[aKO hm,aKO hm];have hlt:=N5 (sW hm).1;have e0:=xJ (F:=F) (n:=n) k (nR m (2^low m)) l Yd Yd;rw[e0];refine sM fun b a _=>?_
   unfold pI;split
   ·have:=vP (nR m (2^low m)) (2^a);rw[xJ k (nR (nR m (2^low m)) (2^a)) l Yd Yd]
   ·rfl
theorem o8{F:List Nat}{n:Nat}:d4 F n 0=0:=rfl
theorem DF{F:List Nat}{n m:Nat}(h:m≠0):d4 F n m=(List.range n).foldl (pI F (nR m (2^low m)) (low m) (d4 F n)) (d4 F n (nR m (2^low m))):=by
 have hlt:=N5 (sW h).1;obtain⟨k,rfl⟩:∃k,m=k+1:=⟨m-1,by omega⟩
 show UP F n (k+1) (k+1)=_;rw[UP,aKO h];rw[xJ k (nR (k+1) (2^low (k+1))) (nR (k+1) (2^low (k+1))) Yd (aKR _)];refine sM fun b a _=>?_
 unfold pI;split
 ·have:=vP (nR (k+1) (2^low (k+1))) (2^a);rw[xJ k (nR (nR (k+1) (2^low (k+1))) (2^a)) _ Yd (aKR _)];rfl
 ·rfl
end Go.Fs.C7
namespace Go.Fs.C7
theorem HL{F:List Nat}{rest a:Nat}{nu:Nat→Nat}:∀(l:List Nat) (m:Nat),l.foldl (pI F rest a nu) m=m∨∃b∈l,(rest&&&F.getD a 0).testBit b=true∧l.foldl (pI F rest a nu) m=1+nu (nR rest (2^b))
 | [],m=>aKP rfl
 |x::l,m=>by
  rw[aMF];rcases HL l (pI F rest a nu m x)with h|⟨b,hb,hbit,h⟩
  ·rw[h];unfold pI;split
   ·rename_i hx;by_cases hm:m≤1+nu (nR rest (2^x))
    ·exact aKB ⟨x,aKI,hx,by omega⟩
    ·exact aKP Yd
   ·exact aKP rfl
  ·exact aKB ⟨b,aKA _ hb,hbit,h⟩
theorem GQ{m b:Nat}(h:m≠0):nR (nR m (2^low m)) (2^b)<m:=Nat.lt_of_le_of_lt (vP _ _) (N5 (sW h).1)

def vL:List Int→List Pt
 |a::b::c::l=>⟨a,b,c⟩::vL l
 |_=>[]
def gK(l:List Ch):List Int:=l.flatMap fun c=>c.parts.l
def jO(l:List Pt):List Int:=l.flatMap Pt.l
theorem nH(p:Pt)(l:List Pt):jO (p::l)=p.a::p.b::p.c::jO l:=rfl
theorem QN(l:List Pt):vL (jO l)=l:=by
 induction l with
 |nil=>rfl
 |cons p l ih=>rw[nH,vL,ih]
theorem kW(l:List Ch):(gK l).length=3*l.length:=by
 induction l with
 |nil=>rfl
 |cons c l ih=>unfold gK at ih ⊢;rw[aLO,aJZ,ih,aKD];simp[Pt.l];omega
theorem Y6(l:List Pt):(jO l).length=3*l.length:=by
 induction l with
 |nil=>rfl
 |cons c l ih=>rw[nH];simp only[aKD,ih];omega
theorem Y8:∀(n:Nat) (l:List Int),l.length=3*n→jO (vL l)=l∧(vL l).length=n
 |0,l,h=>by
  obtain rfl:l=[]:=aNG.1 Yd;exact⟨rfl,rfl⟩
 |n+1,l,h=>by
  match l,h with
  |a::b::c::l,h=>
   obtain⟨h1,h2⟩:=Y8 n l (by simp only[aKD]at h;omega);rw[vL,nH];exact⟨by rw[h1],by rw[aKD,h2]⟩
def e7(y:bJ):List (List Pt):=(C1.cT (gK y.chairs)).map vL
theorem J8:∀{l t:List Int},t∈C1.cT l ↔ t.length=l.length∧∀x∈l.zip t,xX x.1 x.2=true∧True
 | [],t=>by simp[C1.cT]
 |p::l,t=>by
  have ih:=fun t=> @J8 l t
  cases t with
  |nil=>simp[C1.cT]
  |cons x t=>
   have:x::t∈C1.cT (p::l) ↔ ((p=2∨p=x)∧(x=0∨x=1))∧t∈C1.cT l:=by
    rw[show C1.cT (p::l)=(if p=2∨p=0 then(C1.cT l).map (0:: ·)else [])++(if p=2∨p=1 then(C1.cT l).map (1:: ·)else [])from rfl,aKM];constructor
    ·rintro(h|h)
     ·split at h
      ·rename_i hp;obtain⟨s,hs,he⟩:=aJY.1 h;obtain⟨rfl,rfl⟩:=List.cons.inj he;exact⟨⟨hp,aKP rfl⟩,hs⟩
      ·cases h
     ·split at h
      ·rename_i hp;obtain⟨s,hs,he⟩:=aJY.1 h;obtain⟨rfl,rfl⟩:=List.cons.inj he;exact⟨⟨hp,aKB rfl⟩,hs⟩
      ·cases h
    ·rintro⟨⟨hp,rfl|rfl⟩,ht⟩
     ·exact aKP (by rw[aKS hp];exact aJY.2 ⟨t,ht,rfl⟩)
     ·exact aKB (by rw[aKS hp];exact aJY.2 ⟨t,ht,rfl⟩)
   rw[this,ih];simp only[aKD,aJH,aJX,and_true,forall_eq_or_imp,Nat.add_right_cancel_iff];have:xX p x=true ↔ (p=2∨p=x)∧(x=0∨x=1):=by
    unfold xX;simp only[aKG,cG,aLP,aKU];constructor
    ·rintro⟨h1,h2⟩;exact⟨h2.imp id Eq.symm,by omega⟩
    ·rintro⟨h1,h2⟩;exact⟨by omega,h1.imp id Eq.symm⟩
   rw[this];constructor
   ·rintro⟨h1,h2,h3⟩;exact⟨h2,h1,h3⟩
   ·rintro⟨h2,h1,h3⟩;exact⟨h1,h2,h3⟩
theorem I4:∀{l:List Ch} {t:List Pt},t.length=l.length→(∀x∈(gK l).zip (jO t),xX x.1 x.2=true)=((l.zip t).all fun x=>GA x.1.parts x.2)
 | [],[],_=>by simp[gK,jO]
 |c::l,p::t,h=>by
  have ih:=I4 (l:=l) (t:=t) Yan;rw[aJH,List.all_cons,aKG,←ih];rw[nH,show gK (c::l)=c.parts.a::c.parts.b::c.parts.c::gK l from rfl];simp only[aJH,aJX,forall_eq_or_imp,GA,Pt.l,List.zip_nil_left,List.all_cons,List.all_nil,Bool.and_true,aKG,and_assoc]
theorem AX{y:bJ}{t:List Pt}:t∈e7 y ↔ mY y t=true:=by
 unfold e7 mY;rw[aJY,aKG,aKU];constructor
 ·rintro⟨s,hs,rfl⟩;obtain⟨h1,h2⟩:=J8.1 hs;rw[kW]at h1;obtain⟨g1,g2⟩:=Y8 _ _ h1;refine⟨g2,?_⟩;rw[←I4 g2,g1];exact fun x hx=>(h2 x hx).1
 ·rintro⟨h1,h2⟩;refine⟨jO t,J8.2 ⟨by rw[kW,Y6,h1],fun x hx=>⟨?_,aGL⟩⟩,QN t⟩;rw[←I4 h1]at h2;exact h2 x hx
end Go.Fs.C7
namespace Go.Fs
open Go.Proofs
namespace L7
open C7
def O8(n:Nat)(M:List (lA 8×Int)):Prop:=∀p∈M,∃(m:Nat) (F:List Nat),p.1.l=(m:Int)::F.map (fun x:Nat=>(x:Int))∧p.2=(d4 F n m:Int)
theorem yS:∀{F G:List Nat},F.map (fun x:Nat=>(x:Int))=G.map (fun x:Nat=>(x:Int))→F=G
 | [],[],_=>rfl
 |x::F,y::G,h=>by
  rw[aLB,aLB,aLS]at h;rw[yS h.2,show x=y by omega]
theorem YC{n m:Nat}{a0 a1 a2 a3 a4 a5 a6:Nat}{M:List (lA 8×Int)}{v:Int}{h:[(m:Int),a0,a1,a2,a3,a4,a5,a6].length=8}(hok:O8 n M)(hm:(⟨[(m:Int),a0,a1,a2,a3,a4,a5,a6],h⟩,v)∈M):v=(d4 [a0,a1,a2,a3,a4,a5,a6] n m:Int):=by
 obtain⟨m',F,h1,h2⟩:=hok _ hm;simp only[aLS]at h1;obtain⟨h0,h1⟩:=h1;have:F=[a0,a1,a2,a3,a4,a5,a6]:=yS (by rw[←h1];rfl)
 rw[this,show m'=m by omega]at h2;exact h2
theorem WF{n m:Nat}{a0 a1 a2 a3 a4 a5 a6:Nat}{M M':List (lA 8×Int)}{v:Int}{h:[(m:Int),a0,a1,a2,a3,a4,a5,a6].length=8}(hok:O8 n M)(hm:∀p∈M',p∈M∨p=(⟨[(m:Int),a0,a1,a2,a3,a4,a5,a6],h⟩,v))(hv:v=(d4 [a0,a1,a2,a3,a4,a5,a6] n m:Int)):O8 n M':=fun p hp=>by
 rcases hm p hp with h1|rfl
 ·exact hok p h1
 ·exact⟨m,[a0,a1,a2,a3,a4,a5,a6],rfl,hv⟩
theorem O8.nil{n:Nat}:O8 n []:=fun p hp=>by cases hp
theorem W7{m n:Nat}(h:∀x,m.testBit x=true→x<n)(hn:n≤7):m<128:=by
 have:m<2^n:=by
  apply Nat.lt_pow_two_of_testBit;intro i hi;cases e:m.testBit i with
  |false=>rfl
  |true=>have:=h i e;omega
 have h2:2^n≤2^7:=aNQ Yd hn;omega
theorem C4{m n a:Nat}(h:∀x,m.testBit x=true→x<n):∀x,(nR m (2^a)).testBit x=true→x<n:=fun x hx=>h x (by rw[ZR]at hx;simp at hx;exact hx.1)
theorem aFF{k:Nat}(h:k<7):2^k<128:=by
 have:2^k<2^7:=Nat.pow_lt_pow_right Yd h;omega
theorem aBW{F:List Nat}(h:∀f∈F,f<128)(a:Nat):F.getD a 0<128:=by
 rw[aMD];cases e:F[a]? with
 |none=>simp
 |some x=>exact h x (aJV e)
theorem PR(a0 a1 a2 a3 a4 a5 a6:Nat){a:Nat}(h:a<7):([.int .i64 (a0:Int),.int .i64 (a1:Int),.int .i64 (a2:Int),.int .i64 (a3:Int),.int .i64 (a4:Int),.int .i64 (a5:Int),.int .i64 (a6:Int)]:List Value)[a*1]?= some (.int .i64 (([a0,a1,a2,a3,a4,a5,a6].getD a 0:Nat):Int)):=by
 have e:a=0∨a=1∨a=2∨a=3∨a=4∨a=5∨a=6:=by omega
 rcases e with rfl|rfl|rfl|rfl|rfl|rfl|rfl<;>rfl
theorem CO(F:List Nat)(n:Nat):∀m,d4 F n m≤m:=by
 intro m;induction m using Nat.strongRecOn with
 |_ m ih=>
  by_cases hm:m=0
  ·subst hm;rw[o8];exact aKR _
  ·have hlt:=N5 (sW hm).1;rcases HL (F:=F) (rest:=nR m (2^low m)) (a:=low m) (nu:=d4 F n) (List.range n) (d4 F n (nR m (2^low m)))with h|⟨b,_,_,h⟩
   ·rw[DF hm,h];have:=ih _ hlt;omega
   ·rw[DF hm,h];have h2:=GQ (b:=b) hm;have:=ih _ h2;omega
def NC(F:List Nat)(n m k:Nat):Nat:=(List.range k).foldl (pI F (nR m (2^low m)) (low m) (d4 F n)) (d4 F n (nR m (2^low m)))
theorem OL{F:List Nat}{n m:Nat}(h:m≠0):d4 F n m=NC F n m n:=DF h
theorem XO{F:List Nat}{n m k:Nat}(h:(nR m (2^low m)&&&F.getD (low m) 0).testBit k=true):NC F n m (k+1)=max (NC F n m k) (1+d4 F n (nR (nR m (2^low m)) (2^k))):=by
 have e:NC F n m (k+1)=pI F (nR m (2^low m)) (low m) (d4 F n) (NC F n m k) k:=by unfold NC;rw[aMB,aMA,aMF,List.foldl_nil]
 rw[e];unfold pI;rw[aKS h]
theorem aBC{F:List Nat}{n m k:Nat}(h:(nR m (2^low m)&&&F.getD (low m) 0).testBit k=false):NC F n m (k+1)=NC F n m k:=by
 have e:NC F n m (k+1)=pI F (nR m (2^low m)) (low m) (d4 F n) (NC F n m k) k:=by unfold NC;rw[aMB,aMA,aMF,List.foldl_nil]
 rw[e];unfold pI;rw[aKO (by rw[h];simp)]
theorem Q4{wb mb t cl:Nat}{cs:List Value}{es:Array MapEntry}:∀p∈[(wb,Obj.cells cs.toArray t (0,0)),(mb,.map es cl)],cK p.2:=by
 intro p hp;simp only[aJX,aJN,aMT]at hp;rcases hp with rfl|rfl
 ·rfl
 ·trivial
theorem VG:KA Tryz.prog 323 7:=⟨(Tryz.prog.fieldsOf 323)[0]!,(Tryz.prog.fieldsOf 323)[1]!,3,by kernel_rfl,by kernel_rfl,by kernel_rfl,by decide+kernel,by decide+kernel,by kernel_rfl,by kernel_rfl,by kernel_rfl,by kernel_rfl,by kernel_rfl,by kernel_rfl,by rw[show((Tryz.prog.fieldsOf 323)[1]!).type=274 by kernel_rfl];exact Tf.a274,by rw[show((Tryz.prog.fieldsOf 323)[1]!).type=274 by kernel_rfl];exact Tf.s274,Tf.s3⟩
theorem UN(wb mb:Nat)(cv qv:Value)(fit:Int)(chs:List Ch)(a0 a1 a2 a3 a4 a5 a6:Nat)(hn7:chs.length≤7)(hF:∀f∈[a0,a1,a2,a3,a4,a5,a6],f<128):
  ∀(L m:Nat),m=L→(∀x,m.testBit x=true→x<chs.length)→∀(es:Array MapEntry) (clock:Nat) (M:List (lA 8×Int)) (D:aA),Sl D qY 4 cv chs→qF pA es M→O8 chs.length M→
  N6 Tryz.prog 229 [.pointer (some ⟨wb,0,none⟩),.agg #[.int .i64 (m:Int),.int .i64 (a0:Int),.int .i64 (a1:Int),.int .i64 (a2:Int),.int .i64 (a3:Int),.int .i64 (a4:Int),.int .i64 (a5:Int),.int .i64 (a6:Int)]] D [(wb,.cells [cv,.int .i64 fit,qv,.map (some mb)].toArray 268 (0,0)),(mb,.map es clock)] (fun _ v ν'=>v=.int .i64 (d4 [a0,a1,a2,a3,a4,a5,a6] chs.length m:Int)∧∃es' clock' M',ν'=[(wb,.cells [cv,.int .i64 fit,qv,.map (some mb)].toArray 268 (0,0)),(mb,.map es' clock')]∧qF pA es' M'∧O8 chs.length M'):=by
 intro L;induction L using Nat.strongRecOn with
 |_ L ih=>
 intro m hL hbits es clock M D hS hM hok;subst hL;have hl1:=hS.len;have hmb:=W7 hbits hn7;refine fR 78 Tryz.func229 rfl rfl rfl rfl (fun h0 hwl hwn=>C.s1<|Zv rfl (fun q1 E1 hE1 hB1=>Zi rfl<|L.n4<|Zj rfl Tf.f323_0 rfl<|Zg 0 rfl Tf.a3 rfl hB1 rfl<|dH rfl rfl rfl rfl trivial<|L.n1<|aF rfl (fun hc1=>?_) (fun hc1=>?_)))
 ·refine C.s1<|Zi rfl<|L.n5<|Zaj ?_;exact Zx [] [] [_,_] [_] rfl ⟨rfl,aGL⟩ rfl (fun D hD=>⟨by show Value.int _ _=_;rw[show m=0 by omega,o8];rfl,es,clock,M,rfl,hM,hok⟩)
 ·have hm0:m≠0:=by omega
  have hlow:=sW hm0;have hlown:=hbits _ hlow.1;have hlow7:low m<7:=by omega
  have hp2:=aFF hlow7;have hlt:=N5 hlow.1;have hrest:=vP m (2^low m);refine C.kn<|aCX<|aCX<|C.drawA [] 6 11 784 (fun _ _ _ h=>aU (P:=Tryz.prog) (fn:=Tryz.f229) _ _ _ h)<|Za rfl<|Zab rfl<|Zj rfl Tf.f268_1 rfl<|Zm rfl Tf.a266 rfl (List.Mem.head _) rfl<|Zs rfl Tf.a323 rfl hB1 Tf.s323<|LA (val:=pA (n:=8)) (a:=⟨[(m:Int),(a0:Int),(a1:Int),(a2:Int),(a3:Int),(a4:Int),(a5:Int),(a6:Int)],rfl⟩) rfl U266 VG.key Tf.z3 rfl rfl (aJS _ (aNM _)) aJN hM rfl aGL (fun nv ok hmem=>Za rfl<|Zaa rfl ?_);refine Zaa rfl<|Zi rfl<|Zi rfl<|L.n3<|Za rfl<|L.n1<|aJ rfl (fun hc2=>?_) (fun hc2=>?_)
  ·subst hc2;refine C.s1<|Za rfl<|Zi rfl<|L.n5<|Zaj ?_;exact Zx [] [] [_,_] [_] rfl ⟨rfl,aGL⟩ rfl (fun D hD=>⟨by show Value.int _ _=_;rw[YC hok (hmem rfl)],es,clock,M,rfl,hM,hok⟩)
  ·refine C.kn<|C.s1<|Zj rfl Tf.f323_0 rfl<|Zg 0 rfl Tf.a3 rfl hB1 rfl<|Zd rfl (fun D1 hD1=>LI m (low m) _ hlow.1 Yd hlow.2)<|Zi rfl<|L.n2<|C.drawA [] 2 6 12 (fun _ _ _ h=>aU (P:=Tryz.prog) (fn:=Tryz.f229) _ _ _ h)<|Zj rfl Tf.f323_0 rfl<|Zg 0 rfl Tf.a3 rfl hB1 rfl<|Za rfl<|B8 rfl rfl rfl Yd rfl aGL ?_;refine PW rfl rfl rfl Yd Yd rfl trivial<|Zi rfl<|L.n3<|Za rfl<|Za rfl<|Zj rfl Tf.f323_1 rfl<|dO rfl (k:=1) (us:=[.int .i64 (a0:Int),.int .i64 (a1:Int),.int .i64 (a2:Int),.int .i64 (a3:Int),.int .i64 (a4:Int),.int .i64 (a5:Int),.int .i64 (a6:Int)]) Tf.a274 Tf.s274 rfl hB1 Yc rfl rfl aJN rfl trivial<|hG (cs:=[.int .i64 ((nR m (2^low m):Nat):Int),.int .i64 (a0:Int),.int .i64 (a1:Int),.int .i64 (a2:Int),.int .i64 (a3:Int),.int .i64 (a4:Int),.int .i64 (a5:Int),.int .i64 (a6:Int)]) rfl Tf.p323 Tf.z323 rfl Yg rfl trivial<|dF (A:=[]) (ν:=[(_,_),(_,_)]) (B:=[]) rfl rfl rfl rfl (aKP rfl) (Q4 (cs:=[_,_,_,_])) (fun D5 hD5=>ih _ hlt _ rfl (C4 hbits) es clock M D5 (hS.up qY.up (hD5 _ Ye)) hM hok) rfl aGL (fun v5 D6 _ hD6 hp5=>?_);obtain⟨rfl,es4,cl4,M4,rfl,hM4,hok4⟩:=hp5;refine Zi rfl<|L.n4<|Za rfl<|Zab rfl<|Zj rfl Tf.f268_0 rfl<|Zj rfl Tf.f40_0 rfl<|Zm rfl Tf.a37 rfl (List.Mem.head _) rfl<|aW rfl U37 rfl hS rfl rfl trivial<|Za rfl<|L.n1<|Zai<|cE (γ:=Nat×Array MapEntry×Nat×List (lA 8×Int)) (fun g=>chs.length-g.1) (fun g=>g.1≤chs.length∧qF pA g.2.1 g.2.2.2∧O8 chs.length g.2.2.2) (fun g=>[(45,.int .i64 (g.1:Int)),(9,.int .i64 (NC [a0,a1,a2,a3,a4,a5,a6] chs.length m g.1:Int))]) [(44,_),(8,_),(7,_),(4,_),(3,_),(0,_)] (fun g=>[(wb,.cells [cv,.int .i64 fit,qv,.map (some mb)].toArray 268 (0,0)),(mb,.map g.2.1 g.2.2.1)]) (fun g=>[D6,E1,D]) (0,es4,cl4,M4) ⟨by simp,hM4,hok4⟩ ⟨Yb,Yb,aGL⟩ C.rs (aJU _) (aD) ?_;rintro⟨k,es1,cl1,M1⟩ ⟨h1,hM1,hok1⟩;simp only at h1 hM1 hok1;refine C.s1<|Zae rfl<|L.n2<|aF rfl (fun hc3=>?_) (fun hc3=>?_)
   ·have hk:k<chs.length:=by omega
    have hpk:=aFF (show k<7 by omega);have hrow:=aBW hF (low m);have hdl:=vP (nR m (2^low m)) (2^k);have hnl:=CO [a0,a1,a2,a3,a4,a5,a6] chs.length (nR (nR m (2^low m)) (2^k));have hand:=Nat.and_le_left (n:=nR m (2^low m)) (m:=[a0,a1,a2,a3,a4,a5,a6].getD (low m) 0);refine C.kn<|aCX<|Zai<|C.s1<|Za rfl<|Zi rfl<|L.n3<|Za rfl<|Za rfl<|Zj rfl Tf.f323_1 rfl<|dR rfl U274 Tf.s3 rfl rfl Yd Yd rfl trivial<|bD (o:=0+1) (k:=low m*1) rfl Tf.a3 rfl hB1.tail Ye (PR a0 a1 a2 a3 a4 a5 a6 hlow7) aJN rfl aGL ?_;refine aAR rfl rfl rfl Yd Yd rfl trivial<|Za rfl<|K3 rfl rfl rfl Yd rfl trivial<|zR rfl rfl rfl (Int.natCast_nonneg _) Yd (by rw[kA];split<;>simp only[rP]<;>omega) rfl trivial<|dH rfl rfl rfl rfl trivial<|L.n1<|aF rfl (fun hc4=>?_) (fun hc4=>?_)
    ·have hbit:(nR m (2^low m)&&& [a0,a1,a2,a3,a4,a5,a6].getD (low m) 0).testBit k=true:=by rw[kA]at hc4;simpa using hc4
     refine iJ hB1 Ye (fun hq1=>?_);have hq1:q1∉[wb,mb]:=hq1;refine iH [wb,mb] 6 [0,1,2,3,4,5,6,7,8,9,10,11,12] [false,true,true,true,true,true,true,true,true,true,true,false,false] [(false,0),(true,1),(true,2),(true,3),(true,4),(true,5),(true,6),(true,7),(true,8),(true,9),(true,10),(false,11),(false,12)] Tf.follows (fun _ _ _ h=>aU (P:=Tryz.prog) (fn:=Tryz.f229) _ _ _ h) Yg rfl<|Za rfl<|Za rfl<|Za rfl<|Za rfl<|B8 rfl rfl rfl Yd rfl trivial<|PW rfl rfl rfl Yd Ym rfl trivial<|Zj rfl Tf.f323_1 rfl<|dO rfl (k:=1) (us:=[.int .i64 (a0:Int),.int .i64 (a1:Int),.int .i64 (a2:Int),.int .i64 (a3:Int),.int .i64 (a4:Int),.int .i64 (a5:Int),.int .i64 (a6:Int)]) Tf.a274 Tf.s274 rfl hB1 Yc rfl rfl Yj rfl trivial<|hG (cs:=[.int .i64 ((nR (nR m (2^low m)) (2^k):Nat):Int),.int .i64 (a0:Int),.int .i64 (a1:Int),.int .i64 (a2:Int),.int .i64 (a3:Int),.int .i64 (a4:Int),.int .i64 (a5:Int),.int .i64 (a6:Int)]) rfl Tf.p323 Tf.z323 rfl Yg rfl trivial<|dF (A:=[]) (ν:=[(_,_),(_,_)]) (B:=[]) rfl rfl rfl rfl (aKB (fun p hp=>aJY.2 ⟨p,hp,rfl⟩)) (Q4 (cs:=[_,_,_,_])) (fun D7 hD7=>ih _ (GQ hm0) _ rfl (C4 (C4 hbits)) es1 cl1 M1 D7 (hS.up qY.up (hD7 _ Ye)) hM1 hok1) rfl aGL (fun v7 D8 _ hD8 hp7=>?_);obtain⟨rfl,es5,cl5,M5,rfl,hM5,hok5⟩:=hp7;refine Zy rfl<|oV rfl rfl rfl rfl trivial<|Zi rfl<|Zz<|Zak<|Zag<|C.rg<|Zy rfl<|Za rfl<|Zz ?_;exact aH 30 (k+1,es5,cl5,M5) ⟨by simp only;omega,hM5,hok5⟩ Ym ⟨Yb,(by rw[XO hbit];show some (Value.int _ _)=some (Value.int _ _);congr 2;simp only;omega),aGL⟩ rfl rfl (aJU _) (fun D h=>⟨D,aJS _ (h),Le.refl D⟩)
    ·have hbit:(nR m (2^low m)&&& [a0,a1,a2,a3,a4,a5,a6].getD (low m) 0).testBit k=false:=by rw[kA]at hc4;simpa using hc4
     refine aAX<|Zak<|Zag<|C.rg<|Zy rfl<|Za rfl<|Zz ?_;exact aH 17 (k+1,es1,cl1,M1) ⟨by simp only;omega,hM1,hok1⟩ Ym ⟨Yb,(by rw[aBC hbit];rfl),aGL⟩ rfl rfl (aJU _) (aD)
   ·obtain rfl:k=chs.length:=by omega
    refine aR<|Zah<|Zah<|Zal<|Zag<|aCX<|C.drawA [] 3 7 48 (fun _ _ _ h=>aU (P:=Tryz.prog) (fn:=Tryz.f229) _ _ _ h)<|Za rfl<|Zab rfl<|Zj rfl Tf.f268_1 rfl<|Zm rfl Tf.a266 rfl (List.Mem.head _) rfl<|Zs rfl Tf.a323 rfl hB1 Tf.s323 ?_;refine Za rfl<|MH (val:=pA (n:=8)) (A:=[(_,_)]) (B:=[]) (a:=⟨[(m:Int),(a0:Int),(a1:Int),(a2:Int),(a3:Int),(a4:Int),(a5:Int),(a6:Int)],rfl⟩) rfl U266 VG.key rfl rfl rfl hM1 aGL (fun es3 cl3 M3 hM3 hm3=>L.n3<|Za rfl<|Zi rfl<|L.n5 ?_);exact Zx [] [] [_,_] [_] rfl ⟨rfl,aGL⟩ rfl (fun D hD=>⟨by show Value.int _ _=_;rw[OL hm0],es3,cl3,M3,rfl,hM3,WF hok1 hm3 (by rw[OL hm0])⟩)
end L7
end Go.Fs
namespace Go.Fs
open Go.Proofs
namespace L7
open C7
structure AA(n:Nat)(s:Sc):Prop where
 len:s.fits.length=7
 row:∀f∈s.fits,f<128
 bits:∀x,s.broken.testBit x=true→x<n
 whole:s.whole≤7
def oE(n:Nat)(s:Sc):Nat:=s.whole+d4 s.fits n s.broken
theorem YZ{α:Type}{l:List α}(h:l.length=7):∃a b c d e f g,l=[a,b,c,d,e,f,g]:=by
 match l,h with
 | [a,b,c,d,e,f,g],_=>exact⟨a,b,c,d,e,f,g,rfl⟩
theorem V2{y:bJ}{t:List Pt}(hl:t.length=y.chairs.length)(h7:t.length≤7):AA y.chairs.length (dK y t):=by
 refine⟨by simp[dK],fun f hf=>?_,fun x hx=>?_,?_⟩
 ·obtain⟨j,_,rfl⟩:=aJY.1 hf;have h1:=b8 (mI y t j) t.length;have h2:2^t.length≤2^7:=aNQ Yd h7;omega
 ·simp only[dK]at hx;rw[pM]at hx;simp at hx;omega
 ·have:whole t≤t.length:=aNC _ _;simp only[dK];omega
def EZ(l:List (Int×Int)):List Value:=l.flatMap fun p=>[.int .i64 p.1,.int .i64 p.2]
theorem AM(l:List (Int×Int))(p:Int×Int):EZ (l++[p])=EZ l++[.int .i64 p.1,.int .i64 p.2]:=by simp[EZ]
theorem vM(l:List (Int×Int)):(EZ l).length=l.length*2:=by
 induction l with
 |nil=>rfl
 |cons c l ih=>unfold EZ at ih ⊢;rw[aLO,aJZ,ih];simp only[aKD,aLY];omega
theorem UV{l:List (Int×Int)}{i:Nat}{c:Int×Int}(hi:l[i]?= some c):((EZ l).drop (i*2)).take 2=[.int .i64 c.1,.int .i64 c.2]:=by
  induction l generalizing i with
  |nil=>simp at hi
  |cons d l ih=>
    unfold EZ at ih ⊢
    rw[aLO];cases i with
    | zero => obtain rfl : d = c := by simpa using hi
              rfl
    |succ i=>
      rw[aOF,aLJ Yad,aLG];have:(i+1)*2- [Value.int .i64 d.1,Value.int .i64 d.2].length=i*2:=by simp;omega
      rw[this];exact ih Yal
theorem _root_.Go.Fs.jJ.prs{D:aA}{v:Value}{n:Nat}{l:List (Int×Int)}(hF:jJ D v n (EZ l))(hn:l.length=n)(hb:n≤9223372036854775807):Sl D R2 2 v l:=
 hF.sl hn hb fun _i _t hi=>⟨_,rfl,rfl,UV hi⟩
theorem TD(wb mb:Nat)(cv qv:Value)(fit:Int)(chs:List Ch)(w b:Nat)(a0 a1 a2 a3 a4 a5 a6:Nat)(hn7:chs.length≤7)(hF:∀f∈[a0,a1,a2,a3,a4,a5,a6],f<128)(hw:w≤7)(hbits:∀x,b.testBit x=true→x<chs.length)(es:Array MapEntry)(clock:Nat)(M:List (lA 8×Int))(D:aA)(hS:Sl D qY 4 cv chs)(hM:qF pA es M)(hok:O8 chs.length M):
  N6 Tryz.prog 147 [.pointer (some ⟨wb,0,none⟩),.agg #[.int .i64 (w:Int),.int .i64 ((b:Nat):Int),.int .i64 (a0:Int),.int .i64 (a1:Int),.int .i64 (a2:Int),.int .i64 (a3:Int),.int .i64 (a4:Int),.int .i64 (a5:Int),.int .i64 (a6:Int)]] D [(wb,.cells [cv,.int .i64 fit,qv,.map (some mb)].toArray 268 (0,0)),(mb,.map es clock)] (fun _ v ν'=>v=.int .i64 ((w+d4 [a0,a1,a2,a3,a4,a5,a6] chs.length b:Nat):Int)∧∃es' clock' M',ν'=[(wb,.cells [cv,.int .i64 fit,qv,.map (some mb)].toArray 268 (0,0)),(mb,.map es' clock')]∧qF pA es' M'∧O8 chs.length M'):=by
 have hbl:=W7 hbits hn7;have hnl:=CO [a0,a1,a2,a3,a4,a5,a6] chs.length b;refine fR 15 Tryz.func147 rfl rfl rfl rfl (fun h0 hwl hwn=>C.s1<|Zv rfl (fun q1 E1 hE1 hB1=>Zi rfl<|L.n2<|iJ hB1 Ye (fun hq1=>?_)));have hq1:q1∉[wb,mb]:=hq1;refine iH [wb,mb] 4 [0,1,2,3,4,5,6,7,8,9,10] [false,false,true,true,true,true,true,true,true,false,false] [(false,0),(false,1),(true,2),(true,3),(true,4),(true,5),(true,6),(true,7),(true,8),(false,9),(false,10)] Tf.follows (fun _ _ _ h=>aU (P:=Tryz.prog) (fn:=Tryz.f147) _ _ _ h) Yg rfl<|Zj rfl Tf.f276_0 rfl<|bD rfl (k:=0) Tf.a3 rfl hB1 Yc rfl Yj rfl trivial<|Za rfl<|Zj rfl Tf.f276_1 rfl<|bD rfl (k:=1) Tf.a3 rfl hB1 Yc rfl Yj rfl trivial<|Zj rfl Tf.f276_2 rfl<|dO rfl (k:=2) (us:=[.int .i64 (a0:Int),.int .i64 (a1:Int),.int .i64 (a2:Int),.int .i64 (a3:Int),.int .i64 (a4:Int),.int .i64 (a5:Int),.int .i64 (a6:Int)]) Tf.a274 Tf.s274 rfl hB1 Yc rfl rfl Yj rfl trivial<|hG (cs:=[.int .i64 ((b:Nat):Int),.int .i64 (a0:Int),.int .i64 (a1:Int),.int .i64 (a2:Int),.int .i64 (a3:Int),.int .i64 (a4:Int),.int .i64 (a5:Int),.int .i64 (a6:Int)]) rfl Tf.p323 Tf.z323 rfl Yg rfl trivial<|dF (A:=[]) (ν:=[(_,_),(_,_)]) (B:=[]) rfl rfl rfl rfl (by first|exact Or.inl rfl|exact Or.inr (fun p hp=>aJY.2 ⟨p,hp,rfl⟩)) (Q4 (cs:=[_,_,_,_])) (fun D5 hD5=>UN wb mb cv qv fit chs a0 a1 a2 a3 a4 a5 a6 hn7 hF _ b rfl hbits es clock M D5 (hS.up qY.up (hD5 _ Ye)) hM hok) rfl aGL (fun v5 D6 _ hD6 hp5=>?_);obtain⟨rfl,es1,cl1,M1,rfl,hM1,hok1⟩:=hp5;refine Zy rfl<|Zi rfl<|L.n5 ?_;exact Zx [] [] [_,_] [_] rfl ⟨rfl,aGL⟩ rfl (fun D hD=>⟨by show Value.int _ _=_;congr 1,es1,cl1,M1,rfl,hM1,hok1⟩)
theorem WW(wb mb:Nat)(cv qv:Value)(fit:Int)(chs:List Ch)(s:Sc)(hn7:chs.length≤7)(hs:AA chs.length s)(es:Array MapEntry)(clock:Nat)(M:List (lA 8×Int))(D:aA)(hS:Sl D qY 4 cv chs)(hM:qF pA es M)(hok:O8 chs.length M):
  N6 Tryz.prog 147 [.pointer (some ⟨wb,0,none⟩),CL s] D [(wb,.cells [cv,.int .i64 fit,qv,.map (some mb)].toArray 268 (0,0)),(mb,.map es clock)] (fun _ v ν'=>v=.int .i64 (oE chs.length s:Int)∧∃es' clock' M',ν'=[(wb,.cells [cv,.int .i64 fit,qv,.map (some mb)].toArray 268 (0,0)),(mb,.map es' clock')]∧qF pA es' M'∧O8 chs.length M'):=by
 obtain⟨w,b,F⟩:=s;obtain⟨a0,a1,a2,a3,a4,a5,a6,rfl⟩:=YZ hs.len;exact TD wb mb cv qv fit chs w b a0 a1 a2 a3 a4 a5 a6 hn7 hs.row hs.whole hs.bits es clock M D hS hM hok
end L7
end Go.Fs
namespace Go.Fs
open Go.Proofs
namespace L7
open C7
structure aDW(y:bJ):Prop where
 len:y.chairs.length≤7
 cls:y.claims.length≤5
 fit:0≤y.fit∧y.fit≤9
 size:∀c∈y.chairs,0≤c.size∧c.size≤9
 part:∀c∈y.chairs,∀n∈c.parts.l,0≤n∧n≤2
 claim:∀r∈y.claims,0≤r.1∧r.1≤r.2∧r.2≤7
 unk:iN y.chairs≤8
theorem aDZ{y:bJ}(h:aT y=0):aDW y:=by
 unfold aT at h;split at h
 ·omega
 ·rename_i h1;split at h
  ·omega
  ·rename_i h2;split at h
   ·omega
   ·rename_i h3;have h4:uU y=true:=by simpa using h2
    simp only[uU,aKG,aKX,cG]at h4;obtain⟨⟨h5,h6⟩,h7⟩:=h4;refine⟨by omega,by omega,h5,fun c hc=>?_,fun c hc n hn=>?_,fun r hr=>?_,by omega⟩
    ·have:=h6 c hc;simp only[gX,aKG,cG]at this;exact this.1
    ·have:=h6 c hc;simp only[gX,aKG,HJ,aKX]at this
     exact cG.1 (this.2 n hn)
    ·have:=h7 r hr;simp only[kZ,aKG,aKU]at this;exact⟨this.1.1,this.1.2,this.2⟩
theorem YG{y:bJ}{t:List Pt}(h:mY y t=true):t.length=y.chairs.length∧∀p∈t,R6 p:=by
 unfold mY at h;simp only[aKG,aKU,aKX]at h;refine⟨h.1,fun p hp=>?_⟩;obtain⟨i,hi⟩:=aNW.1 hp;obtain⟨hlt,_⟩:=aKH.1 hi;have hc:y.chairs[i]?= some (y.chairs[i]'Yd):=aJT _;have:=h.2 (y.chairs[i]'Yd,p) (aJV (i:=i) (by rw[List.getElem?_zip_eq_some];exact⟨hc,hi⟩))
 simp only[GA,Pt.l,aJH,List.zip_nil_left,List.all_cons,List.all_nil,Bool.and_true,aKG,xX,cG]at this;exact⟨this.1.1,this.2.1.1,this.2.2.1⟩
def rG(cl:List (Int×Int))(out:List Int)(n:Int)(i:Nat):Bool:=(out.any fun x=>decide ((i:Int)=x))||(match cl[i]? with|some r=>fL n r.1 r.2|none=>true)
def mF(cl:List (Int×Int))(out:List Int)(n:Int):Bool:=(List.range cl.length).all (rG cl out n)
theorem KE{cl:List (Int×Int)}{out:List Int}{n:Int}{i:Nat}{r:Int×Int}(hr:cl[i]?= some r)(h:((!out.any fun x=>decide ((i:Int)=x))&& !fL n r.1 r.2)=false):rG cl out n i=true:=by
 unfold rG;rw[hr];revert h
 cases out.any fun x=>decide ((i:Int)=x)<;>simp
theorem G8{cl:List (Int×Int)}{out:List Int}{n:Int}{i:Nat}{r:Int×Int}(hi:i<cl.length)(hr:cl[i]?= some r)(h:((!out.any fun x=>decide ((i:Int)=x))&& !fL n r.1 r.2)=true):mF cl out n=false:=by
 unfold mF;rw[List.all_eq_false];refine⟨i,aNN.2 hi,?_⟩;unfold rG;rw[hr];revert h
 cases out.any fun x=>decide ((i:Int)=x)<;>simp
theorem xR{cl:List (Int×Int)}{out:List Int}{n:Int}(h:∀j,j<cl.length→rG cl out n j=true):mF cl out n=true:=by
 unfold mF;rw[aKX];exact fun j hj=>h j (aNN.1 hj)
def L9(y:bJ)(t:List Pt):Nat:=oE y.chairs.length (dK y t)
theorem A5(yv:Value)(y:bJ)(cv qv:Value)(D:aA)(hy:yv=.agg #[cv,.int .i64 y.fit,qv]):BJ Tryz.prog 89 #[yv] D (fun _ v ν=>∃wb mb,v=.pointer (some ⟨wb,0,none⟩)∧ν=[(wb,.cells [cv,.int .i64 y.fit,qv,.map (some mb)].toArray 268 (0,0)),(mb,.map #[] 0)]):=by
 subst hy;refine mC 7 Tryz.func89 rfl rfl rfl rfl fun h0=>C.s1<|Zv rfl (fun q1 E1 hE1 hB1=>Zi rfl<|L.n3<|Zs rfl Tf.a40 rfl hB1 Tf.s40<|pY rfl rfl aGL (fun qm=>Zq [cv,.int .i64 y.fit,qv,.map (some qm)] rfl Tf.p268 Tf.z268 rfl rfl<|W2 rfl (e:=268) rfl rfl rfl aGL (fun q2=>Zi rfl<|L.n5 ?_)))
 exact Zc [_] rfl ⟨rfl,aGL⟩ (fun D hD=>⟨_,_,rfl,rfl⟩)
theorem PE(sv:Value)(xs:List Int)(n:Int)(D:aA)(hS:Sl D RI 1 sv xs):Fn Tryz.prog 218 #[sv,.int .i64 n] D (fun _ v=>v=.int .i64 (idxOf (fun x=>decide (n=x)) xs)):=by
 have hl:=hS.len;refine enter 19 Tryz.func218 rfl rfl rfl rfl fun h0=>C.s1<|Zi rfl<|L.n4<|Za rfl<|aW rfl U25 rfl Yk rfl rfl trivial<|Za rfl<|L.n1<|Zai<|cN (γ:=Nat) (fun k=>xs.length-k) (fun k=>k≤xs.length∧(xs.take k).any (fun x=>decide (n=x))=false) (fun k=>[(8,.int .i64 k)]) [(7,_),(4,_),(0,_),(1,_)] (fun k=>[D]) 0 Ye ⟨Yb,aGL⟩ C.rs (aD) ?_
 rintro k ⟨h1,h2⟩;refine C.s1<|Zae rfl<|L.n2<|aF rfl (fun hc1=>?_) (fun hc1=>?_)
 ·have hk:k<xs.length:=by omega
  obtain⟨x,hx⟩:∃x,xs[k]?= some x:=⟨_,aJT hk⟩
  refine C.kn<|aCX<|Zai<|C.s1<|Za rfl<|Zi rfl<|L.n3<|Za rfl<|Za rfl<|Za rfl<|cR rfl U25 Tf.s3 rfl Yk rfl Yd Yk rfl aGL (fun b1 o1 cs1 hr1 hcl1 hA1=>?_);obtain rfl:cs1=[.int .i64 _]:=hr1;refine Zg 0 rfl Tf.a3 rfl hA1 rfl<|dH rfl rfl rfl rfl trivial<|L.n1<|aF rfl (fun hc2=>?_) (fun hc2=>?_)
  ·refine C.s1<|Za rfl<|Zi rfl<|L.n5<|BW<|Zaj<|Zaj<|BW<|Zaj ?_;exact Zc [_] rfl ⟨rfl,aGL⟩ (fun D hD=>by show Value.int _ _=_;rw[gN hx h2 (by simp[hc2])])
  ·refine aAX<|Zak<|Zag<|C.rg<|Zy rfl<|Za rfl<|Zz ?_;have h3:(xs.take (k+1)).any (fun x=>decide (n=x))=false:=by rw[aKL,hx,aMY,h2];simp[hc2]
   exact aH 12 (k+1) ⟨by omega,h3⟩ Yd ⟨Yb,aGL⟩ rfl rfl (aJU _) (aD)
 ·refine aR<|Zah<|Zah<|Zal<|Zag<|C.s1<|Zi rfl<|L.n5 ?_;exact Zc [_] rfl ⟨rfl,aGL⟩ (fun D hD=>by show Value.int _ _=_;rw[eT Yab])
theorem sK(sv:Value)(xs:List Int)(n:Int)(D:aA)(hS:Sl D RI 1 sv xs):Fn Tryz.prog 137 #[sv,.int .i64 n] D (fun _ v=>v=.bool (xs.any fun x=>decide (n=x))):=by
 refine enter 9 Tryz.func137 rfl rfl rfl rfl fun h0=>C.s1<|Zi rfl<|L.n3<|Za rfl<|Za rfl<|Zd rfl (fun D1 hD1=>PE _ xs n _ (Sl.at RI.up hD1 Yk Ye))<|nI rfl rfl rfl rfl trivial<|Zi rfl<|L.n5 ?_
 exact Zc [_] rfl ⟨rfl,aGL⟩ (fun D hD=>by show Value.bool (decide _)=_;rw[gO])
theorem I0(yv:Value)(y:bJ)(n:Int)(ov:Value)(out:List Int)(D:aA)(hy:lE D yv y)(ho:Sl D RI 1 ov out):Fn Tryz.prog 148 #[yv,.int .i64 n,ov] D (fun _ v=>v=.bool (mF y.claims out n)):=by
 obtain⟨cv,qv,rfl,hc,hq⟩:=hy;have hl:=hq.len;refine enter 28 Tryz.func148 rfl rfl rfl rfl fun h0=>C.s1<|Zv rfl (fun q1 E1 hE1 hB1=>Zi rfl<|L.n4<|Zj rfl Tf.f40_2 rfl<|Zg 2 rfl Tf.a38 rfl hB1 rfl<|aW rfl U38 rfl hq rfl rfl trivial<|Za rfl<|L.n1<|Zai<|cN (γ:=Nat) (fun i=>y.claims.length-i) (fun i=>i≤y.claims.length∧∀j,j<i→rG y.claims out n j=true) (fun i=>[(12,.int .i64 (i:Int))]) [(11,_),(10,_),(6,_),(1,_),(2,_)] (fun i=>[E1,D]) 0 Ye ⟨Yb,aGL⟩ C.rs (aD) ?_)
 rintro i ⟨h1,h2⟩;refine C.s1<|Zae rfl<|L.n2<|aF rfl (fun hc1=>?_) (fun hc1=>?_)
 ·have hi:i<y.claims.length:=by omega
  obtain⟨r,hr0⟩:∃r,y.claims[i]?= some r:=⟨_,aJT hi⟩
  refine C.kn<|aCX<|Zai<|C.s1<|Za rfl<|Zt rfl U38 Tf.s114 rfl hq rfl hr0 (fun b1 o1 cs1 hr1 hcl1 hA1=>?_);obtain rfl:cs1=[.int .i64 _,.int .i64 _]:=hr1;refine Zs rfl Tf.a114 rfl hA1 Tf.s114<|Zw rfl Tf.z114 rfl (fun q2=>Zi rfl<|Zu rfl Tf.s114 (bO.head)<|L.n3<|Za rfl<|Za rfl<|Zd rfl (fun D1 hD1=>sK _ out (i:Int) _ (Sl.at RI.up hD1 Yk Ye))<|Zaf rfl<|Za rfl ?_);refine' cQ [(false,5),(false,6),(false,7),(false,8),(false,9)] [] (s:=21) (p:=26) rfl rfl (fun hg1=>?_) (fun hg1=>?_) ?_;rotate_left
  ·refine aY rfl Tf.a114 rfl (aNM _) Tf.s114 aJN rfl ⟨_,rfl,rfl⟩<|Zb rfl<|Ze rfl (fun D2 hD2=>B2 r n _)<|jT rfl rfl rfl ⟨_,rfl,rfl⟩<|Zac rfl ?_;exact L.cu 4
  ·refine Zl rfl<|Zl rfl<|Zl rfl<|Zl rfl<|Zad rfl ?_;exact L.cu 4
  refine L.n1<|aJ rfl (fun hc2=>?_) (fun hc2=>?_)
  ·refine C.s1<|Zi rfl<|L.n5<|BW<|Zaj<|Zaj<|BW<|Zaj ?_;exact Zc [_] rfl ⟨rfl,aGL⟩ (fun D hD=>by show Value.bool _=_;rw[G8 hi hr0 hc2])
  ·refine aAX<|Zak<|Zag<|C.rg<|Zy rfl<|Za rfl<|Zz ?_;exact aH 15 (i+1) ⟨by omega,fun j hj=>by rcases Nat.lt_succ_iff_lt_or_eq.1 hj with h|rfl;exact h2 j h;exact KE hr0 hc2⟩ Yd ⟨Yb,aGL⟩ rfl rfl (List.Sublist.cons _ (aJU _)) (aD)
 ·obtain rfl:i=y.claims.length:=by omega
  refine aR<|Zah<|Zah<|Zal<|Zag<|C.s1<|Zi rfl<|L.n5 ?_;exact Zc [_] rfl ⟨rfl,aGL⟩ (fun D hD=>by show Value.bool _=_;rw[xR h2])
end L7
end Go.Fs
namespace Go.Fs
open Go.Proofs
namespace L2
open L1
open C2
open C1 (fL cG oY nG)
theorem i1{c:List Int}{a b:Int}(h10:c.length=10)(h0:0≤a)(h1:a≤b)(h9:b≤9):∃x xs,(c.drop a.toNat).take ((b+1).toNat-a.toNat)=x::xs∧xs.foldl max x=jA c a b:=by
 have hlen:((c.drop a.toNat).take ((b+1).toNat-a.toNat)).length=(b+1).toNat-a.toNat:=by simp;omega
 cases h:(c.drop a.toNat).take ((b+1).toNat-a.toNat)with
 |nil=>rw[h]at hlen;simp at hlen;omega
 |cons x xs=>
  refine⟨x,xs,rfl,?_⟩;unfold jA;rw[show(b+1-a).toNat=(b+1).toNat-a.toNat by omega,h];rfl
def M7(s:List Int)(m:Mk):Bool:=fL (jA s m.frm m.to) m.lo m.hi
theorem DA{last:Int}{m:Mk}(h:pQ last m=true):0≤m.frm∧m.frm≤m.to∧m.to≤last∧0≤m.lo∧m.lo≤m.hi∧m.hi≤99:=by
 unfold pQ nS T9 fZ eE at h;simp only[aKG,aKU,cG]at h;omega
theorem ER{t:bA}{c:List Int}{k:Nat}{m:Mk}(hx:t.marks[k]?= some m)(h2:(t.marks.take k).all (M7 c)=true)(h:((!([]:List Int).any fun x=>decide ((k:Int)=x))&& !fL (jA c m.frm m.to) (m.lo,m.hi).1 (m.lo,m.hi).2)=false):(t.marks.take (k+1)).all (M7 c)=true:=by
 rw[aKL,hx,List.all_append,h2];simpa [M7]using h
theorem G8{t:bA}{c:List Int}{k:Nat}{m:Mk}(hx:t.marks[k]?= some m)(h:((!([]:List Int).any fun x=>decide ((k:Int)=x))&& !fL (jA c m.frm m.to) (m.lo,m.hi).1 (m.lo,m.hi).2)=true):kY t c=false:=by
 unfold kY;rw[List.all_eq_false];exact⟨m,aJV hx,by simpa using h⟩
theorem xR{t:bA}{c:List Int}{k:Nat}(h2:(t.marks.take k).all (M7 c)=true)(hk:t.marks.length≤k):kY t c=true:=by
 rw[aLA hk]at h2;exact h2
theorem MP(l:List (Int×Int))(r:Int×Int):lV (l++[r])=min (lV l*eW r) 2001:=by
 unfold lV;rw[aMA];rfl
theorem T6{t:bA}{k:Nat}{r:Int×Int}(hx:t.heights[k]?= some r):lV (t.heights.take (k+1))=min (lV (t.heights.take k)*eW r) 2001:=by
 rw[aKL,hx];exact MP _ _
theorem CP{t:bA}(h:j2 t)(k:Nat):0≤lV (t.heights.take k)∧lV (t.heights.take k)≤2001:=by
 induction k with
 |zero=>simp[lV]
 |succ k ih=>
  cases hx:t.heights[k]? with
  |none=>rw[aKL,hx,Option.toList_none,aKF];exact ih
  |some r=>
   rw[T6 hx];have h1:=mW (h.hts r (aJV hx));have h2:0≤eW r:=by unfold eW;omega
   have h3:=Int.mul_nonneg ih.1 h2;omega
theorem QW{t:bA}(h:j2 t)(k:Nat){r:Int×Int}(hr:fZ r=true):0≤lV (t.heights.take k)*eW r∧lV (t.heights.take k)*eW r≤200100:=by
 have h0:=CP h k;have h1:=mW hr;have h2:0≤eW r∧eW r≤100:=by unfold eW;omega
 have h3:=Int.mul_nonneg h0.1 h2.1;have h4:=Int.mul_le_mul h0.2 h2.2 h2.1 Yd;omega
theorem yT{t:bA}{b:Bool}(h:((decide ((9:Int)<t.last)||decide ((6:Int)<(t.levels.length:Int)))||decide ((5:Int)<(t.marks.length:Int)))=b):VI t=b:=h
theorem OB{t:bA}(h:((decide ((9:Int)<t.last)||decide ((6:Int)<(t.levels.length:Int)))||decide ((5:Int)<(t.marks.length:Int)))=false):t.last≤9:=by
 simp only[aMM,aLW]at h;omega
theorem q9{t:bA}{b:Bool}(h:(((((decide (t.last<0)||decide ((t.heights.length:Int)≠t.last+1))|| !t.heights.all fZ)|| !eE t.step)|| !t.levels.all eE)|| !t.marks.all (pQ t.last))=b):aCE t= !b:=by
 subst h;unfold aCE;have e1:decide (t.last<0)= !decide (0≤t.last):=by by_cases h:t.last<0<;>simp[h]<;>omega
 have e2:decide ((t.heights.length:Int)≠t.last+1)= !decide ((t.heights.length:Int)=t.last+1):=by simp
 rw[e1,e2];cases decide (0≤t.last)<;>cases decide ((t.heights.length:Int)=t.last+1)<;>cases t.heights.all fZ<;>cases eE t.step<;>cases t.levels.all eE<;>cases t.marks.all (pQ t.last)<;>rfl
section
variable{t:bA}(h1:((decide ((9:Int)<t.last)||decide ((6:Int)<(t.levels.length:Int)))||decide ((5:Int)<(t.marks.length:Int)))=false)
theorem LS(h1:((decide ((9:Int)<t.last)||decide ((6:Int)<(t.levels.length:Int)))||decide ((5:Int)<(t.marks.length:Int)))=true):aT t=3:=by unfold aT;rw[aKS (yT h1)]
include h1
theorem aDM(h2:(((((decide (t.last<0)||decide ((t.heights.length:Int)≠t.last+1))|| !t.heights.all fZ)|| !eE t.step)|| !t.levels.all eE)|| !t.marks.all (pQ t.last))=false):j2 t:=aEB (yT h1) (q9 h2)
theorem yL(h2:(((((decide (t.last<0)||decide ((t.heights.length:Int)≠t.last+1))|| !t.heights.all fZ)|| !eE t.step)|| !t.levels.all eE)|| !t.marks.all (pQ t.last))=true):aT t=1:=by
 unfold aT;rw[aKO (by simp[yT h1]),aKS (show aCE t=false from q9 h2)]
variable(h2:(((((decide (t.last<0)||decide ((t.heights.length:Int)≠t.last+1))|| !t.heights.all fZ)|| !eE t.step)|| !t.levels.all eE)|| !t.marks.all (pQ t.last))=false)
include h2
theorem DI(h4:2000<lV t.heights):aT t=3:=by
 unfold aT;rw[aKO (by simp[yT h1]),aKO (by simp[q9 h2]),aKS h4]
theorem DJ(h4:¬2000<lV t.heights)(hn:fF t=[]):aT t=9:=by
 unfold aT;rw[aKO (by simp[yT h1]),aKO (by simp[q9 h2]),aKO h4,aKS hn]
theorem pE(h4:¬2000<lV t.heights)(hn:fF t≠[]):aT t=0:=by
 unfold aT;rw[aKO (by simp[yT h1]),aKO (by simp[q9 h2]),aKO h4,aKO hn]
end
theorem N3(c:List Int)(a b:Int)(D:aA)(h10:c.length=10)(h0:0≤a)(h1:a≤b)(h9:b≤9):Fn Tryz.prog 130 #[.agg (ints c).toArray,.int .i64 a,.int .i64 b] D (fun _ v=>v=.int .i64 (jA c a b)):=by
 obtain⟨x,xs,hx,hv⟩:=i1 h10 h0 h1 h9;refine enter 12 Tryz.func130 rfl rfl rfl rfl fun h0=>C.s1<|Zv rfl (fun q1 E1 hE1 hB1=>Zi rfl<|L.n3<|Za rfl<|Za rfl<|Zy rfl<|MN (l:=a.toNat) (h:=(b+1).toNat) rfl U244 Tf.s3 rfl rfl rfl Yd Yd Yd Yd Yd rfl trivial<|Zd rfl (fun D1 hD1=>PF _ x xs _ (hx▸(FX (l:=a.toNat) (h:=(b+1).toNat) hB1 h10 Yd Yd Yd).up RI.up (hD1 _ Ye)))<|Zi rfl<|L.n5 ?_)
 exact Zc [_] rfl ⟨rfl,aGL⟩ (fun D hD=>by show Value.int _ _=_;rw[hv])
theorem I0(tv:Value)(t:bA)(c:List Int)(D:aA)(ht:gL D tv t)(hto:j2 t)(h10:c.length=10):Fn Tryz.prog 125 #[tv,.agg (ints c).toArray,.slice none 0 0] D (fun _ v=>v=.bool (kY t c)):=by
 obtain⟨hv,lv,mv,rfl,hh,hl,hm⟩:=ht;have hll:=hm.len;have hlast:=hto.last;refine enter 34 Tryz.func125 rfl rfl rfl rfl fun h0=>C.s1<|Zv rfl (fun q1 E1 hE1 hB1=>Zv rfl (fun q2 E2 hE2 hB2=>Zi rfl<|L.n4<|Zj rfl Tf.f32_4 rfl<|Zg 4 rfl Tf.a30 rfl hB1 rfl<|aW rfl U30 rfl hm rfl rfl trivial<|Za rfl<|L.n1<|Zai ?_));refine cN (γ:=Nat) (fun k=>t.marks.length-k) (fun k=>k≤t.marks.length∧(t.marks.take k).all (M7 c)=true) (fun k=>[(12,.int .i64 (k:Int))]) [(11,_),(10,_),(6,_),(4,_),(2,_)] (fun k=>[E2,E1,D]) 0 Ye ⟨Yb,aGL⟩ C.rs (aD) ?_
 rintro k ⟨h1,h2⟩;refine C.s1<|Zae rfl<|L.n2<|aF rfl (fun hc1=>?_) (fun hc1=>?_)
 ·have hk:k<t.marks.length:=by omega
  obtain⟨m,hx⟩:∃m,t.marks[k]?= some m:=⟨_,aJT hk⟩
  have hmb:=DA (hto.mark m (aJV hx));refine C.kn<|aCX<|Zai<|C.s1<|Za rfl<|Zt rfl U30 Tf.s131 rfl hm rfl hx (fun b1 o1 cs1 hr1 hcl1 hA1=>?_);obtain rfl:cs1=[.int .i64 _,.int .i64 _,.int .i64 _,.int .i64 _]:=hr1;refine Zs rfl Tf.a131 rfl hA1 Tf.s131<|Zw rfl Tf.z131 rfl (fun q3=>Zi rfl<|Zu rfl Tf.s131 (bO.head)<|L.n2<|C.drawA [] 5 16 8066 (fun _ _ _ h=>cZ (P:=Tryz.prog) (fn:=Tryz.f125) _ _ _ h)<|Za rfl<|Za rfl<|Zd rfl (fun D1 hD1=>L7.sK _ [] (k:Int) _ Sl.nil)<|Zaf rfl<|Za rfl ?_);refine' cQ [(false,5),(false,6),(true,7),(true,8),(true,9),(true,10),(true,11),(true,12),(false,13),(false,14),(false,15)] [] (s:=21) (p:=32) rfl rfl (fun hg1=>?_) (fun hg1=>?_) ?_;rotate_left
  ·refine Zk rfl Tf.f131_2 rfl<|cS rfl Tf.a76 Tf.s76 rfl (List.Mem.head _) rfl rfl aJN rfl ⟨_,rfl,rfl⟩<|cO rfl Tf.a244 rfl hB2 Yc Yw aJN rfl ⟨_,rfl,rfl⟩<|Zk rfl Tf.f131_0 rfl<|aS rfl Tf.a3 rfl (List.Mem.head _) rfl aJN rfl ⟨_,rfl,rfl⟩<|Zk rfl Tf.f131_1 rfl<|aS rfl Tf.a3 rfl (List.Mem.head _) rfl aJN rfl ⟨_,rfl,rfl⟩<|Ze rfl (fun D2 hD2=>N3 c m.frm m.to _ h10 hmb.1 hmb.2.1 Yd)<|Ze rfl (fun D3 hD3=>B2 (m.lo,m.hi) _ _)<|jT rfl rfl rfl ⟨_,rfl,rfl⟩<|Zac rfl ?_;exact L.cu 10
  ·refine Zl rfl<|Zl rfl<|Zl rfl<|Zl rfl<|Zl rfl<|Zl rfl<|Zl rfl<|Zl rfl<|Zl rfl<|Zl rfl<|Zad rfl ?_;exact L.cu 10
  refine L.n1<|aJ rfl (fun hc2=>?_) (fun hc2=>?_)
  ·refine C.s1<|Zi rfl<|L.n5<|BW<|Zaj<|Zaj<|BW<|Zaj ?_;exact Zc [_] rfl ⟨rfl,aGL⟩ (fun D hD=>by show Value.bool _=_;rw[G8 hx hc2])
  ·refine aAX<|Zak<|Zag<|C.rg<|Zy rfl<|Za rfl<|Zz ?_;exact aH 15 (k+1) ⟨by omega,ER hx h2 hc2⟩ Yd ⟨Yb,aGL⟩ rfl rfl (List.Sublist.cons _ (aJU _)) (aD)
 ·refine aR<|Zah<|Zah<|Zal<|Zag<|C.s1<|Zi rfl<|L.n5 ?_;exact Zc [_] rfl ⟨rfl,aGL⟩ (fun D hD=>by show Value.bool _=_;rw[xR h2 Yd])
theorem uG(tv:Value)(t:bA)(D:aA)(ht:gL D tv t):Fn Tryz.prog 123 #[tv] D (fun _ v=>v=.int .i64 (aT t)):=by
 have ht0:=ht;obtain⟨hv,lv,mv,rfl,hh,hl,hm⟩:=ht;have hll:=hh.len;have hl2:=hl.len;have hl3:=hm.len;refine b6 82 Tryz.func123 rfl rfl rfl rfl fun h0=>C.s1<|Zv rfl (fun q1 E1 hE1 hB1=>Zw rfl Tf.z44 rfl (fun q2=>L.n3<|Zs rfl Tf.a32 rfl hB1 Tf.s32<|bE rfl rfl rfl rfl trivial<|Zi rfl<|L.n2<|Zai<|C.s1<|Zj rfl Tf.f32_0 rfl ?_));refine Zg 0 rfl Tf.a3 rfl hB1 rfl<|eR rfl rfl rfl rfl trivial<|Za rfl ?_
 refine' iE [(false,4),(false,5),(false,6),(false,7),(false,8)] [(false,9),(false,10),(false,11),(false,12),(false,13),(false,14),(false,15)] (s:=13) (p:=18) rfl rfl (fun hg1=>?_) (fun hg1=>?_) ?_;rotate_left
 ·refine Zk rfl Tf.f32_3 rfl<|Zh 3 rfl Tf.a25 rfl hB1 rfl<|aW rfl U25 rfl hl rfl rfl ⟨_,rfl,rfl⟩<|eR rfl rfl rfl rfl ⟨_,rfl,rfl⟩<|Zad rfl ?_;exact L.cu 4
 ·refine Zl rfl<|Zl rfl<|Zl rfl<|Zl rfl<|Zac rfl ?_;exact L.cu 4
 refine Za rfl ?_;refine' iE [(false,10),(false,11),(false,12),(false,13),(false,14)] [(false,15)] (s:=19) (p:=24) rfl rfl (fun hg2=>?_) (fun hg2=>?_) ?_;rotate_left
 ·refine Zk rfl Tf.f32_4 rfl<|Zh 4 rfl Tf.a30 rfl hB1 rfl<|aW rfl U30 rfl hm rfl rfl ⟨_,rfl,rfl⟩<|eR rfl rfl rfl rfl ⟨_,rfl,rfl⟩<|Zad rfl ?_;exact L.cu 4
 ·refine Zl rfl<|Zl rfl<|Zl rfl<|Zl rfl<|Zac rfl ?_;exact L.cu 4
 refine Zi rfl<|L.n1<|aJ rfl (fun hc1=>?_) (fun hc1=>?_)
 ·refine C.s1<|Zo rfl Tf.s44 (bO.head) rfl<|L.n5<|BW<|Zaj ?_;exact oO (vs:=[_]) rfl rfl rfl ⟨⟨_,_,_,rfl,aNM _,aKP ⟨Tf.a44,rfl⟩⟩,aGL⟩ (fun D hD=>by show Value.int _ _=_;rw[LS hc1])
 ·refine C.s1<|Zj rfl Tf.f32_0 rfl<|Zg 0 rfl Tf.a3 rfl hB1 rfl<|Zae rfl<|Za rfl ?_;refine' iE [(false,4),(false,5),(false,6),(false,7),(false,8),(false,9),(false,10),(false,11)] [(false,12),(false,13),(false,14),(false,15),(false,16),(false,17),(false,18),(false,19),(false,20),(false,21),(false,22),(false,23),(false,24),(false,25),(false,26),(false,27),(false,28),(false,29),(false,30),(false,31),(false,32),(false,33),(false,34),(false,35),(false,36),(false,37)] (s:=29) (p:=37) rfl rfl (fun hg3=>?_) (fun hg3=>?_) ?_;rotate_left
  ·have hl0:0≤t.last:=by have:=hg3;simp only[aLW]at this;omega
   have hl9:t.last≤9:=OB hc1;refine Zk rfl Tf.f32_1 rfl<|Zh 1 rfl Tf.a29 rfl hB1 rfl<|aW rfl U29 rfl hh rfl rfl ⟨_,rfl,rfl⟩<|Zk rfl Tf.f32_0 rfl<|Zh 0 rfl Tf.a3 rfl hB1 rfl<|rI rfl rfl rfl Yf rfl ⟨_,rfl,rfl⟩<|eQ rfl rfl rfl rfl ⟨_,rfl,rfl⟩<|Zad rfl ?_;exact L.cu 7
  ·refine Zl rfl<|Zl rfl<|Zl rfl<|Zl rfl<|Zl rfl<|Zl rfl<|Zl rfl<|Zac rfl ?_;exact L.cu 7
  refine Za rfl ?_;refine' iE [(false,13),(false,14),(false,15),(false,16),(false,17)] [(false,18),(false,19),(false,20),(false,21),(false,22),(false,23),(false,24),(false,25),(false,26),(false,27),(false,28),(false,29),(false,30),(false,31),(false,32),(false,33),(false,34),(false,35),(false,36),(false,37)] (s:=38) (p:=43) rfl rfl (fun hg4=>?_) (fun hg4=>?_) ?_;rotate_left
  ·refine Zk rfl Tf.f32_1 rfl<|Zh 1 rfl Tf.a29 rfl hB1 rfl<|Ze rfl (fun D1 hD1=>d5 _ _ _ fZ _ (Sl.at zX.up hD1 Yk Ye) (.of fun x D2=>F9 x D2) rfl)<|jT rfl rfl rfl ⟨_,rfl,rfl⟩<|Zad rfl ?_;exact L.cu 4
  ·refine Zl rfl<|Zl rfl<|Zl rfl<|Zl rfl<|Zac rfl ?_;exact L.cu 4
  refine Za rfl ?_;refine' iE [(false,19),(false,20),(false,21),(false,22),(false,23)] [(false,24),(false,25),(false,26),(false,27),(false,28),(false,29),(false,30),(false,31),(false,32),(false,33),(false,34),(false,35),(false,36),(false,37)] (s:=44) (p:=49) rfl rfl (fun hg5=>?_) (fun hg5=>?_) ?_;rotate_left
  ·refine Zk rfl Tf.f32_2 rfl<|Zh 2 rfl Tf.a3 rfl hB1 rfl<|Ze rfl (fun D2 hD2=>tV _ _)<|jT rfl rfl rfl ⟨_,rfl,rfl⟩<|Zad rfl ?_;exact L.cu 4
  ·refine Zl rfl<|Zl rfl<|Zl rfl<|Zl rfl<|Zac rfl ?_;exact L.cu 4
  refine Za rfl ?_;refine' iE [(false,25),(false,26),(false,27),(false,28),(false,29)] [(false,30),(false,31),(false,32),(false,33),(false,34),(false,35),(false,36),(false,37)] (s:=50) (p:=55) rfl rfl (fun hg6=>?_) (fun hg6=>?_) ?_;rotate_left
  ·refine Zk rfl Tf.f32_3 rfl<|Zh 3 rfl Tf.a25 rfl hB1 rfl<|Ze rfl (fun D3 hD3=>wN _ _ _ eE _ (Sl.at RI.up hD3 Yk Ye) (.of fun x D2=>tV x D2) rfl)<|jT rfl rfl rfl ⟨_,rfl,rfl⟩<|Zad rfl ?_;exact L.cu 4
  ·refine Zl rfl<|Zl rfl<|Zl rfl<|Zl rfl<|Zac rfl ?_;exact L.cu 4
  refine Za rfl ?_;refine' iE [(false,31),(false,32),(false,33),(false,34),(false,35),(false,36)] [(false,37)] (s:=56) (p:=62) rfl rfl (fun hg7=>?_) (fun hg7=>?_) ?_;rotate_left
  ·refine Zk rfl Tf.f32_4 rfl<|Zh 4 rfl Tf.a30 rfl hB1 rfl<|Zb rfl<|Ze rfl (fun D4 hD4=>VX _ _ _ (pQ t.last) _ (Sl.at p4.up hD4 Yk Ye) ⟨_,[_],[],rfl,fun m D2 hl=>XK _ t m D2 (ht0.up ((hD4 _ Ye).trans hl))⟩ rfl)<|jT rfl rfl rfl ⟨_,rfl,rfl⟩<|Zad rfl ?_;exact L.cu 5
  ·refine Zl rfl<|Zl rfl<|Zl rfl<|Zl rfl<|Zl rfl<|Zac rfl ?_;exact L.cu 5
  refine Zi rfl<|L.n1<|aJ rfl (fun hc2=>?_) (fun hc2=>?_)
  ·refine C.s1<|Zo rfl Tf.s44 (bO.head) rfl<|L.n5<|BW<|Zaj ?_;exact oO (vs:=[_]) rfl rfl rfl ⟨⟨_,_,_,rfl,aNM _,aKP ⟨Tf.a44,rfl⟩⟩,aGL⟩ (fun D hD=>by show Value.int _ _=_;rw[yL hc1 hc2])
  ·have hto:j2 t:=aDM hc1 hc2;refine aAX<|Zak<|Zag<|C.s1<|Zi rfl<|L.n4<|Zj rfl Tf.f32_1 rfl<|Zg 1 rfl Tf.a29 rfl hB1 rfl<|aW rfl U29 rfl hh rfl rfl trivial<|Za rfl<|L.n1<|Zai ?_;refine cN (γ:=Nat) (fun k=>t.heights.length-k) (fun k=>k≤t.heights.length) (fun k=>[(66,.int .i64 (k:Int)),(4,.int .i64 (lV (t.heights.take k)))]) [(65,_),(64,_),(2,_),(1,_)] (fun k=>[E1,D]) 0 Yd ⟨Yb,Yb,aGL⟩ C.rs (aD) ?_;rintro k h1;refine C.s1<|Zae rfl<|L.n2<|aF rfl (fun hc3=>?_) (fun hc3=>?_)
   ·have hk:k<t.heights.length:=by omega
    obtain⟨r,hx⟩:∃r,t.heights[k]?= some r:=⟨_,aJT hk⟩
    have hrb:=hto.hts r (aJV hx);have hmul:=QW hto k hrb;refine C.kn<|aCX<|Zai<|C.s1<|Zt rfl U29 Tf.s76 rfl hh rfl hx (fun b1 o1 cs1 hr1 hcl1 hA1=>?_);obtain rfl:cs1=[.int .i64 _,.int .i64 _]:=hr1;refine Zs rfl Tf.a76 rfl hA1 Tf.s76<|Zw rfl Tf.z76 rfl (fun q3=>Zu rfl Tf.s76 (bO.head)<|L.n1<|C.rg<|Za rfl<|Zp rfl Tf.a76 rfl (List.Mem.head _) Tf.s76<|Zd rfl (fun D5 hD5=>GI r hrb _)<|S3 rfl rfl rfl Yf rfl trivial<|Zr rfl U25 Tf.s3 Tf.z3 rfl rfl rfl rfl (.cons rfl rfl (.cons rfl rfl .nil)) (fun b901 D901 hD901 hA901=>?_));have hS901:=Sl.ofInts (l:=[_,_]) (n:=2) (cap:=2) hA901 rfl Yd Yd;refine Zd rfl (fun D6 hD6=>iS _ (lV (t.heights.take k)*eW r) [2001] _ (hS901.up RI.up (hD6 _ Ye)))<|Zi rfl<|Zz<|Zak<|Zag<|C.rg<|Zy rfl<|Za rfl<|Zz ?_;exact aH 15 (k+1) Yd Yd ⟨Yb,(by rw[T6 hx];rfl),aGL⟩ rfl rfl (List.Sublist.cons _ (aJU _)) (fun D h=>⟨D,aJS _ (h),Le.refl D⟩)
   ·obtain rfl:k=t.heights.length:=by omega
    rw[aLL];refine aR<|Zah<|Zah<|Zal<|Zag<|C.s2<|Za rfl<|eR rfl rfl rfl rfl trivial<|L.n1<|aF rfl (fun hc4=>?_) (fun hc4=>?_)
    ·refine C.s1<|Zo rfl Tf.s44 (bO.head) rfl<|L.n5<|Zaj ?_;exact oO (vs:=[_]) rfl rfl rfl ⟨⟨_,_,_,rfl,aNM _,aKP ⟨Tf.a44,rfl⟩⟩,aGL⟩ (fun D hD=>by show Value.int _ _=_;rw[DI hc1 hc2 hc4])
    ·refine C.kn<|C.s2<|Zs rfl Tf.a32 rfl hB1 Tf.s32<|bU rfl rfl rfl (fun D7 hD7=>m1 _ t _ (ht0.up (hD7 _ Ye)) hto) rfl aGL (fun v7 D7 hD7 hp7=>L.n1<|Zai ?_);obtain⟨br,rfl,hit⟩:=hp7;refine oH (γ:=Unit) (xs:=(fF t).map cJ) (enc:=Z6) (Dr:=D7) (fun pre _=>pre=[]) (fun _ c _=>c=.ret∧fF t≠[]) (fun _=>[(q2,.cells [.int .i64 0].toArray 44 (0,0))]) () rfl rfl rfl rfl hit Ye (fun _=>rfl) rfl rfl rfl ?_ ?_ ?_
     ·rintro pre x _ ⟨us,hx⟩ hΦ l bd rec hh D7 hD7 hst hpend;refine aAX ?_;refine fun a w hhh=>tO (A:=[(_,_)]) (B:=[(bd,.deferred (some []))]) (r:=rec) (l:=l) (by rfl) hst ?_ a w hhh
      refine Zai<|C.s1<|Zo rfl Tf.s44 (bO.head) rfl<|L.n5<|BW ?_;exact PT (A:=[(_,_)]) (B:=[(bd,.deferred (some []))]) .ret () ⟨rfl,fun e=>by rw[e]at hx;simp at hx⟩ rfl rfl
     ·rintro _ bd hΦ;have hn:fF t=[]:=by simpa using hΦ
      refine Zak<|Zag<|C.s1<|Zo rfl Tf.s44 (bO.head) rfl<|L.n5 ?_;exact qM (vs:=[_]) (A:=[(_,_)]) rfl rfl rfl ⟨⟨_,_,_,rfl,aNM _,aKP ⟨Tf.a44,rfl⟩⟩,aGL⟩ (fun D hD=>by show Value.int _ _=_;rw[DJ hc1 hc2 hc4 hn])
     ·rintro _ _ _ bd ⟨rfl,hne⟩;refine aCY<|BW<|Zaj ?_;exact qM (vs:=[_]) (A:=[(_,_)]) rfl rfl rfl ⟨⟨_,_,_,rfl,aNM _,aKP ⟨Tf.a44,rfl⟩⟩,aGL⟩ (fun D hD=>by show Value.int _ _=_;rw[pE hc1 hc2 hc4 hne])
end L2
end Go.Fs
namespace Go.Fs
open Go.Proofs
namespace L2
open L1
open C2
open C1 (fL cG oY nG)
def uY(t:bA)(pre:List (List Int))(g:Value×aC×Array MapEntry×Nat×List (Int×Int)):Prop:=
 bR 244 10 g.1 (gT t pre.length).length (uW (gT t pre.length)) g.2.1∧pP g.2.2.1 g.2.2.2.1 g.2.2.2.2∧uN (gT t pre.length) t.last g.2.2.2.2
def aCK(t:bA)(D:aA)(wv:Value)(ν:aC):Prop:=∃wb mb hv lv mv tsv es cl S,wv=.pointer (some ⟨wb,0,none⟩)∧ν=[(wb,.cells [.int .i64 t.last,hv,.int .i64 t.step,lv,mv,tsv,.map (some mb)].toArray 240 (0,0)),(mb,.map es cl)]∧
 gL D (.agg #[.int .i64 t.last,hv,.int .i64 t.step,lv,mv]) t∧Sl D P2 10 tsv (bI t)∧pP es cl S∧uN (bI t) t.last S
def xI(acc:List (List Int)):List Int:=match acc.getLast? with
 |some s=>cJ s
 |none=>[]
theorem R5{acc:List (List Int)}(h:∀s∈acc,s.length≤10)(hne:acc≠[]):(xI acc).length=10:=by
 unfold xI;rw[aNH hne];exact eC (h _ (List.getLast_mem hne))
theorem RN{acc:List (List Int)}(h:∀s∈acc,s.length≤10)(hne:acc≠[])(junk:List Value):((uW acc++junk).drop (0+(((acc.length:Int)-1).toNat)*10)).take 10=ints (xI acc):=by
 have hpos:=aNF.2 hne;unfold xI;rw[aNH hne,aNB];refine m2 h ?_ junk;rw[show((acc.length:Int)-1).toNat=acc.length-1 by omega,←List.getLast?_eq_getElem?,aNH hne]
theorem WG{s u:List Int}(h:s.length=u.length):cJ s=cJ u ↔ s=u:=by
 constructor
 ·intro e;have:=aKJ (List.take s.length) e;unfold cJ at this
  rwa [aOL,h,aOL]at this
 ·rintro rfl;rfl
def uM(S:List (Int×Int))(s:List Int)(k:Nat):List (Int×Int):=(List.range k).foldl (fun S (j:Nat)=>y6 S ((j:Int),s.getD j 0)) S
theorem Q9{S:List (Int×Int)}{s:List Int}{k:Nat}:uM S s (k+1)=y6 (uM S s k) ((k:Int),s.getD k 0):=by
 unfold uM;rw[aMB,aMA];rfl
theorem PX{S:List (Int×Int)}{s:List Int}{k:Nat}{p:Int×Int}:p∈uM S s k ↔ p∈S∨∃j:Nat,j<k∧p=((j:Int),s.getD j 0):=by
 induction k with
 |zero=>simp[uM]
 |succ k ih=>
  rw[Q9,SY,ih];constructor
  ·rintro((h|⟨j,hj,rfl⟩)|rfl)
   ·exact aKP h
   ·exact aKB ⟨j,by omega,rfl⟩
   ·exact aKB ⟨k,by omega,rfl⟩
  ·rintro(h|⟨j,hj,rfl⟩)
   ·exact aKP (aKP h)
   ·by_cases e:j=k
    ·subst e;exact aKB rfl
    ·exact aKP (aKB ⟨j,by omega,rfl⟩)
theorem FJ{s:List Int}{k:Nat}(h:k<s.length):(cJ s)[(k:Int).toNat]?= some (s.getD k 0):=by
 unfold cJ;rw[aLX,aMV h,aMD,aJT h];rfl
section
variable{t:bA}{pre:List (List Int)}{s:List Int}(hrp:kY t (cJ s)=kY t s)(htake:(fF t).take (pre.length+1)=(fF t).take pre.length++[s])
include hrp htake
theorem AI{b:Bool}(hc:(!kY t (cJ s)||(decide (0<((gT t pre.length).length:Int))&&(xI (gT t pre.length)==cJ s)))=b):xN t (gT t pre.length) s=if b=true then gT t pre.length else gT t pre.length++[s]:=by
 have hsm:s∈fF t:=aJP (i:=pre.length+1) (by rw[htake];simp);rw[hrp]at hc;subst hc;unfold xN;cases hr:kY t s with
 |false=>simp
 |true=>
  simp only[aGH,Bool.false_or,Bool.true_eq_false,false_or];by_cases hne:gT t pre.length=[]
  ·rw[hne];simp
  ·have hpos:=aNF.2 hne;have h1:decide (0<((gT t pre.length).length:Int))=true:=by simpa using hpos
   rw[h1,aNI];unfold xI;rw[aNH hne];have h2:=lH (xE (List.getLast_mem hne));have h3:=lH hsm;have h4:=WG (h2.trans h3.symm);by_cases e:(gT t pre.length).getLast hne=s
   ·rw[aKS (by rw[e]),aKS (by rw[e];simp)]
   ·rw[aKO (by simpa using e),aKO (by simpa using fun h=>e (h4.1 h))]
theorem SA{v:Value}{ν:aC}{es:Array MapEntry}{cl:Nat}{S:List (Int×Int)}(hc:(!kY t (cJ s)||(decide (0<((gT t pre.length).length:Int))&&(xI (gT t pre.length)==cJ s)))=true)(ha:bR 244 10 v (gT t pre.length).length (uW (gT t pre.length)) ν)(hS:pP es cl S)(hsp:uN (gT t pre.length) t.last S):uY t (pre++[cJ s]) (v,ν,es,cl,S):=by
 have h1:=AI hrp htake hc;simp only[aMG]at h1;have h2:=U6 htake;rw[h1]at h2;unfold uY;rw[aJZ,aNK,h2];exact⟨ha,hS,hsp⟩
theorem YH(hc:(!kY t (cJ s)||(decide (0<((gT t pre.length).length:Int))&&(xI (gT t pre.length)==cJ s)))=false):gT t (pre.length+1)=gT t pre.length++[s]:=by
 have h1:=AI hrp htake hc;simp only[aLI,aMN]at h1;rw[U6 htake,h1]
end
theorem aBK{t:bA}{pre:List (List Int)}{s:List Int}{v:Value}{ν:aC}{es:Array MapEntry}{cl k:Nat}{S:List (Int×Int)}(h:gT t (pre.length+1)=gT t pre.length++[s])(hk:s.length≤k)(hk2:(k:Int)=t.last+1)(ha:bR 244 10 v ((gT t pre.length).length+1) (uW (gT t pre.length++[s])) ν)(hS:pP es cl (uM S s k))(hsp:uN (gT t pre.length) t.last S):uY t (pre++[cJ s]) (v,ν,es,cl,uM S s k):=by
 unfold uY;rw[aJZ,aNK,h,aJZ,aNK];refine⟨ha,hS,fun p=>?_⟩;rw[PX,hsp p];constructor
 ·rintro(⟨u,hu,j,hj,rfl⟩|⟨j,hj,rfl⟩)
  ·exact⟨u,aKC _ hu,j,hj,rfl⟩
  ·exact⟨s,by simp,j,by omega,rfl⟩
 ·rintro⟨u,hu,j,hj,rfl⟩;rcases aKM.1 hu with hu|hu
  ·exact aKP ⟨u,hu,j,hj,rfl⟩
  ·simp only[aKQ]at hu;subst hu
   exact aKB ⟨j,by omega,rfl⟩
theorem aEI:K2 Tryz.prog 247:=⟨by kernel_rfl,by kernel_rfl,by kernel_rfl⟩
theorem pG(tv:Value)(t:bA)(fine:Bool)(D:aA)(ht:gL D tv t):BJ Tryz.prog 76 #[tv,.bool fine] D (fun D' v ν=>∃wv,v=.tuple #[wv,.int .i64 (jH t fine)]∧(jH t fine=0→j2 t∧bI t≠[]∧aCK t D' wv ν)):=by
 have ht0:=ht;obtain⟨hv,lv,mv,rfl,hh,hl,hm⟩:=ht;refine WM 85 Tryz.func76 rfl rfl rfl rfl fun h0=>C.s1<|Zv rfl (fun q1 E1 hE1 hB1=>Zi rfl<|Zi rfl<|L.n4<|Zs rfl Tf.a32 rfl hB1 Tf.s32<|Zd rfl (fun D1 hD1=>uG _ t _ (ht0.up (hD1 _ Ye)))<|Zi rfl<|L.n3<|Za rfl<|eQ rfl rfl rfl rfl aGL ?_);refine L.n1<|aF rfl (fun hc1=>?_) (fun hc1=>?_)
 ·refine C.s1<|Za rfl<|Zi rfl<|Zi rfl<|L.n5<|Zaj ?_;exact oO (vs:=[_,_]) rfl rfl rfl C.rs (fun D hD=>⟨_,by rw[jH,aKS hc1];rfl,fun h=>by rw[jH,aKS hc1]at h;exact absurd h hc1⟩)
 ·have hf0:aT t=0:=by omega
  have hto:j2 t:=T0 hf0;refine C.kn<|C.s2<|Za rfl<|Zaf rfl<|L.n1<|aJ rfl (fun hc2=>?_) (fun hc2=>?_)
  ·refine C.s1<|Zi rfl<|Zi rfl<|L.n5<|Zaj ?_;exact oO (vs:=[_,_]) rfl rfl rfl C.rs (fun D hD=>⟨_,by rw[jH,aKO hc1,aKS Yam];rfl,fun h=>by rw[jH,aKO hc1,aKS Yam]at h;omega⟩)
  ·refine C.kn<|C.s1<|Zs rfl Tf.a32 rfl hB1 Tf.s32<|pY rfl rfl aGL (fun qm=>hG (cs:=[.int .i64 t.last,hv,.int .i64 t.step,lv,mv,.slice none 0 0,.map (some qm)]) rfl Tf.p240 Tf.z240 rfl Yg rfl trivial<|W2 rfl (e:=240) rfl rfl rfl aGL (fun q2=>Zw rfl Tf.z169 rfl (fun q3=>Zo rfl Tf.s169 (bO.head) rfl<|L.n4<|Zs rfl Tf.a32 rfl hB1 Tf.s32<|bU rfl rfl rfl (fun D2 hD2=>m1 _ t _ (ht0.up (hD2 _ Ye)) hto) rfl aGL (fun v2 D2 hD2 hp2=>L.n1 ?_))));refine Zai ?_;obtain⟨br,rfl,hit⟩:=hp2;refine oH (γ:=Value×aC×Array MapEntry×Nat×List (Int×Int)) (xs:=(fF t).map cJ) (enc:=Z6) (Dr:=D2) (uY t) (fun _ _ _=>False) (fun g=>[(q3,.cells [.pointer (some ⟨q2,0,none⟩)].toArray 169 (0,0)),(q2,.cells [.int .i64 t.last,hv,.int .i64 t.step,lv,mv,g.1,.map (some qm)].toArray 240 (0,0)),(qm,.map g.2.2.1 g.2.2.2.1)]++g.2.1) (.slice none 0 0,[],#[],0,[]) rfl rfl rfl rfl hit Ye (fun _=>rfl) rfl ⟨by simpa [gT,uW]using bR.nil,pP.nil,uN.nil⟩ rfl ?_ ?_ (fun _ _ _ _ h=>h.elim)
   ·rintro pre x ⟨v,ν,es,cl,S⟩ ⟨us,hx⟩ ⟨ha,hS,hsp⟩ l bd rec hh7 D7 hD7 hst hpend;simp only at ha hS hsp;obtain⟨s,hk,rfl,hsm,htake⟩:=EQ hx;have hsl:=lH hsm;have hlast:=hto.last;have hlen:=hto.len;have hs10:s.length≤10:=by omega
    have hp10:=eC hs10;have hall:∀u∈gT t pre.length,u.length≤10:=fun u hu=>by have:=lH (xE hu);omega
    have hcap:=zH hf0;have hacl:=u7 t pre.length;have hrp:=IF hto (s:=s) Yd;refine C.rg<|Zw rfl Tf.z244 rfl (fun q4=>Zu rfl Tf.s244 (bO.head)<|Zz ?_);refine fun a w hhh=>tO (A:=[(_,_),(_,_),(_,_),(_,_)]++ν) (B:=[(bd,.deferred (some []))]) (r:=rec) (l:=l) (by rfl) hst ?_ a w hhh
    refine rU (fun hnd=>?_);simp only[aLB,aKN,aLT,aKE,aML,aLG,aJX,aKM,not_or]at hnd;have hq4:=hnd.1.2.2.2.1;have hq3:=hnd.2.1.2.2.1;have hq2:=hnd.2.2.1.2.1;refine Zai<|aCX<|aCX<|C.drawA [] 10 28 20905986 (fun _ _ _ h=>h)<|Zs rfl Tf.a32 rfl hB1 Tf.s32<|aY rfl Tf.a244 rfl (List.Mem.head _) Yw aJN rfl trivial<|Zd rfl (fun D3 hD3=>I0 _ t (cJ s) _ (ht0.up (hD3 _ Ye)) hto hp10)<|Zaf rfl<|Za rfl ?_;refine' iE [(false,5),(false,6),(false,7),(false,8),(false,9),(false,10),(false,11),(false,12),(false,13),(false,14),(false,15),(true,16),(true,17),(true,18),(true,19),(true,20),(true,21),(false,22),(false,23),(true,24),(false,25),(false,26),(false,27)] [] (s:=28) (p:=51) rfl rfl (fun hg1=>?_) (fun hg1=>?_) ?_;rotate_left
    ·refine aS rfl Tf.a169 rfl (aJS _ (aNM _)) rfl aJN rfl ⟨_,rfl,rfl⟩<|rE rfl rfl rfl ⟨_,rfl,rfl⟩<|Zk rfl Tf.f240_1 rfl<|aS rfl Tf.a238 rfl (List.Mem.tail _ (List.Mem.tail _ (List.Mem.head _))) rfl aJN rfl ⟨_,rfl,rfl⟩<|dX rfl U238 rfl ha rfl rfl ⟨_,rfl,rfl⟩<|eR rfl rfl rfl rfl ⟨_,rfl,rfl⟩<|Zb rfl ?_;refine' cQ [(false,12),(false,13),(false,14),(false,15),(true,16),(true,17),(true,18),(true,19),(true,20),(true,21),(false,22),(false,23),(true,24),(false,25),(false,26)] [(false,27)] (s:=35) (p:=50) rfl rfl (fun hg2=>?_) (fun hg2=>?_) ?_;rotate_left
     ·have hne:gT t pre.length≠[]:=fun e=>by rw[e]at hg2;simp at hg2
      have hpos:=aNF.2 hne;obtain⟨b5,cap5,junk5,rfl,hcp5,rfl,hl51,hl52⟩:=ha.some hpos;refine aS rfl Tf.a169 rfl (aJS _ (aNM _)) rfl aJN rfl ⟨_,rfl,rfl⟩<|rE rfl rfl rfl ⟨_,rfl,rfl⟩<|Zk rfl Tf.f240_1 rfl<|aS rfl Tf.a238 rfl (List.Mem.tail _ (List.Mem.tail _ (List.Mem.head _))) rfl aJN rfl ⟨_,rfl,rfl⟩<|aS rfl Tf.a169 rfl (List.Mem.tail _ (List.Mem.head _)) rfl aJN rfl ⟨_,rfl,rfl⟩<|rE rfl rfl rfl ⟨_,rfl,rfl⟩<|Zk rfl Tf.f240_1 rfl<|aS rfl Tf.a238 rfl (List.Mem.tail _ (List.Mem.tail _ (List.Mem.head _))) rfl aJN rfl ⟨_,rfl,rfl⟩<|iI rfl U238 rfl rfl rfl ⟨_,rfl,rfl⟩<|fW rfl rfl rfl Yf rfl ⟨_,rfl,rfl⟩<|eG rfl U238 Tf.s244 rfl rfl Yd Yd rfl ⟨_,rfl,rfl⟩<|cS (vs:=uW (gT t pre.length)++junk5) (us:=ints (xI (gT t pre.length))) rfl Tf.a244 Tf.s244 rfl (aJS _ (aJS _ (aJS _ (aJS _ (aNM _))))) (RN hall hne junk5) (by simpa using R5 hall hne) aJN rfl ⟨_,rfl,rfl⟩ ?_;refine aY rfl Tf.a244 rfl (aNM _) Yw aJN rfl ⟨_,rfl,rfl⟩<|EI rfl Yg U244 U3 Yg (R5 hall hne) hp10 rfl rfl rfl ⟨_,rfl,rfl⟩<|mZ rfl rfl rfl rfl ⟨_,rfl,rfl⟩ ?_;exact L.cu 14
     ·refine Zl rfl<|Zl rfl<|Zl rfl<|Zl rfl<|Zl rfl<|Zl rfl<|Zl rfl<|Zl rfl<|Zl rfl<|Zl rfl<|Zl rfl<|Zl rfl ?_;refine Zl rfl<|Zl rfl<|mS rfl rfl rfl rfl ⟨_,rfl,rfl⟩ ?_;exact L.cu 14
     refine Zad rfl ?_;exact L.cu 8
    ·refine Zl rfl<|Zl rfl<|Zl rfl<|Zl rfl<|Zl rfl<|Zl rfl<|Zl rfl<|Zl rfl<|Zl rfl<|Zl rfl<|Zl rfl<|Zl rfl ?_;refine Zl rfl<|Zl rfl<|Zl rfl<|Zl rfl<|Zl rfl<|Zl rfl<|Zl rfl<|Zl rfl<|Zl rfl<|Zl rfl<|Zac rfl ?_;exact L.cu 22
    refine L.n1<|aJ rfl (fun hc3=>?_) (fun hc3=>?_)
    ·have hI0:uY t (pre++[cJ s]) (v,ν,es,cl,S):=SA hrp htake hc3 ha hS hsp;refine aR<|Zah<|Zal ?_;exact fun a w hh=>fS (A:=[(_,_),(_,_),(_,_)]++ν) (B:=[(bd,.deferred (some []))]) (v,ν,es,cl,S) hI0 rfl rfl a w (hh.dropBoxes 1)
    ·have hadd:=YH hrp htake hc3;refine C.kn<|aCX<|C.drawA (ν.map (·.1)) 2 11 254 (fun _ _ _ h=>h)<|aS rfl Tf.a169 rfl (List.Mem.tail _ (List.Mem.head _)) rfl Yj rfl trivial<|aS rfl Tf.a169 rfl (List.Mem.tail _ (List.Mem.head _)) rfl Yj rfl trivial<|Zab rfl<|Zj rfl Tf.f240_1 rfl<|aS rfl Tf.a238 rfl (List.Mem.tail _ (List.Mem.tail _ (List.Mem.head _))) rfl Yj rfl trivial<|aY rfl Tf.a244 rfl (List.Mem.head _) Yw Yj rfl trivial<|Zr rfl U238 Tf.s244 Tf.z244 rfl rfl rfl rfl (.cons rfl (by simpa using hp10) .nil) (fun b901 D901 hD901 hA901=>aX (A:=[(_,_),(_,_),(_,_),(_,_)]) (B:=[(l,_),(bd,_)]) rfl U238 rfl rfl Tf.s244 Tf.z244 rfl Tf.i244 rfl rfl rfl ha (jN.lit hA901) Ye (by simp[hp10]) (AN hall) (by simpa using bP _) Yd (aKB (fun p hp=>aJY.2 ⟨p,hp,rfl⟩)) rfl aGL (fun v1 ν1 ha1=>?_));have ha2:bR 244 10 v1 ((gT t pre.length).length+1) (uW (gT t pre.length++[s])) ν1:=by unfold uW;rw[aLE,aLR];simpa [uW]using ha1
     simp only[aML,aLG];refine Zab rfl<|Zj rfl Tf.f240_1 rfl<|aK rfl rfl rfl ha1.cells1 Tf.s238 (.tail (.tail (bO.head))) Ye rfl ha1.cell1 trivial<|L.n3<|Zj rfl Tf.f32_0 rfl<|Zg 0 rfl Tf.a3 rfl hB1 rfl<|Zy rfl<|Za rfl<|L.n1<|Zai<|cE (γ:=Nat×Array MapEntry×Nat) (fun g=>s.length-g.1) (fun g=>g.1≤s.length∧pP g.2.1 g.2.2 (uM S s g.1)) (fun g=>[(65,.int .i64 (g.1:Int))]) [(64,_),(8,_),(7,_),(5,_),(4,_)] (fun g=>[(q4,.cells (ints (cJ s)).toArray 244 (0,0))]++[(q3,.cells [.pointer (some ⟨q2,0,none⟩)].toArray 169 (0,0)),(q2,.cells [.int .i64 t.last,hv,.int .i64 t.step,lv,mv,v1,.map (some qm)].toArray 240 (0,0)),(qm,.map g.2.1 g.2.2)]++(ν1++[(l,.loop {rec with state:=.busy}),(bd,.deferred (some []))])) (fun g=>[D901,D7,D2,E1,D]) (0,es,cl) ⟨by simp,hS⟩ ⟨Yb,aGL⟩ C.rs (aJU _) (aD) ?_;rintro⟨k,es2,cl2⟩ ⟨h1,hS2⟩;simp only at h1 hS2;refine C.s1<|Zae rfl<|L.n2<|aF rfl (fun hc4=>?_) (fun hc4=>?_)
     ·have hks:k<s.length:=by omega
      have hxk:(cJ s)[(k:Int).toNat]?= some (s.getD k 0):=FJ hks;refine C.kn<|aCX<|Zai<|C.s1<|Za rfl<|Zi rfl<|L.n1<|C.drawA [] 3 10 496 (fun _ _ _ h=>h)<|Zm rfl Tf.a169 rfl (List.Mem.tail _ (List.Mem.head _)) rfl<|Zab rfl<|Zj rfl Tf.f240_2 rfl<|Zm rfl Tf.a237 rfl (List.Mem.tail _ (List.Mem.tail _ (List.Mem.head _))) rfl ?_;refine Za rfl<|Za rfl<|dI rfl U244 Tf.s3 rfl rfl Yd Yd rfl trivial<|aS rfl Tf.a3 rfl (List.Mem.head _) (cD hxk) aJN rfl trivial<|Zq [.int .i64 (k:Int),.int .i64 (s.getD k 0)] rfl Tf.p247 Tf.z247 rfl rfl<|aAZ (A:=[(_,_),(_,_),(_,_)]) (B:=ν1++[(l,_),(bd,_)]) (a:=((k:Int),s.getD k 0)) rfl U237 aEI rfl rfl rfl hS2 aGL (fun es3 cl3 hS3=>Zz<|Zak<|Zag<|C.rg<|Zy rfl<|Za rfl ?_);refine Zz ?_;exact aH 15 (k+1,es3,cl3) ⟨by simp only;omega,by rw[Q9];exact hS3⟩ Ym ⟨Yb,aGL⟩ rfl rfl (aJU _) (aD)
     ·have hI1:uY t (pre++[cJ s]) (v1,ν1,es2,cl2,uM S s k):=aBK hadd Yd Yd ha2 hS2 hsp;refine aR<|Zah<|Zah<|Zal<|Zak ?_;exact fun a w hh=>fS (A:=[(_,_),(_,_),(_,_)]++ν1) (B:=[(bd,.deferred (some []))]) (v1,ν1,es2,cl2,uM S s k) hI1 rfl rfl a w (hh.dropBoxes 1)
   ·rintro⟨v,ν,es,cl,S⟩ bd ⟨ha,hS,hsp⟩;simp only[aMI]at ha hS hsp;rw[wY t (aKR _)]at ha hsp;have hall:∀u∈bI t,u.length≤10:=fun u hu=>by rw[←wY t (aKR _)]at hu;have:=lH (xE hu);have:=hto.len10;omega
    have hll:(bI t).length≤2000:=by rw[←wY t (aKR _)];have:=u7 t (fF t).length;have:=zH hf0;omega
    refine Zak<|Zag<|C.s2<|Zm rfl Tf.a169 rfl (List.Mem.head _) rfl<|Zab rfl<|Zj rfl Tf.f240_1 rfl<|Zm rfl Tf.a238 rfl (List.Mem.tail _ (List.Mem.head _)) rfl<|dX rfl U238 rfl ha rfl rfl trivial<|dH rfl rfl rfl rfl trivial<|L.n1<|aF rfl (fun hc5=>?_) (fun hc5=>?_)
    ·have htn:bI t=[]:=aNG.1 Yd;have hask:jH t fine=11:=by rw[jH,aKO hc1,aKO Yam,aKS htn]
     refine C.s1<|Zi rfl<|Zi rfl<|L.n5<|Zaj ?_;exact m3 (vs:=[_,_]) (A:=[(_,_),(_,_),(_,_)]) (ν':=[]) (B:=ν) rfl rfl rfl C.rs (fun D hD=>⟨_,by rw[hask];rfl,fun h=>by rw[hask]at h;omega⟩)
    ·have htn:bI t≠[]:=fun e=>hc5 (by rw[e];rfl)
     have hask:jH t fine=0:=by rw[jH,aKO hc1,aKO Yam,aKO htn]
     refine C.kn<|C.s1<|Zm rfl Tf.a169 rfl (List.Mem.head _) rfl<|Zi rfl<|Zi rfl<|L.n5<|eO (A:=[(_,_),(_,_),(_,_)]) (B:=[(bd,.deferred (some []))]) ha rfl (fun D8 hD8 hF8=>?_);exact m3 (vs:=[_,_]) (A:=[(_,_)]) (ν':=[(_,_),(_,_)]) (B:=[]) rfl rfl rfl C.rs (fun D hD=>⟨_,by rw[hask];rfl,fun _=>⟨hto,htn,q2,qm,hv,lv,mv,v,es,cl,S,rfl,rfl,⟨hv,lv,mv,rfl,hh.up zX.up (hD _ Ye),hl.up RI.up (hD _ Ye),hm.up p4.up (hD _ Ye)⟩,(hF8.seas rfl Yd hall).up P2.up (hD _ Ye),hS,hsp⟩⟩)
end L2
end Go.Fs
namespace Go.Fs
open Go.Proofs
namespace L2
open L1
open C2
open C1 (fL cG oY nG)
theorem lG{t:bA}(_ht:j2 t){s:List Int}(h:s∈bI t):s.length=t.heights.length:=by
 rw[←wY t (aKR _)]at h;exact lH (xE h)
structure MY(es:Array MapEntry)(S:List (Int×Int))(h:Nat)(x0:Int)(seen:Array Nat)(lo hi:Int):Prop where
 mid:lo≤x0∧x0≤hi
 all:∀e∈es.toList,seen.contains e.born=true→∀y,e.key=iP ((h:Int),y)→lo≤y∧y≤hi
 los:((h:Int),lo)∈S
 his:((h:Int),hi)∈S
theorem MY.start{t:bA}{es:Array MapEntry}{S:List (Int×Int)}{h:Nat}{s0:List Int}(hsp:uN (bI t) t.last S)(hs:s0∈bI t)(hh:(h:Int)≤t.last):MY es S h (s0.getD h 0) #[] (s0.getD h 0) (s0.getD h 0):=
 ⟨by omega,fun e _ hc=>by simp at hc,(hsp _).2 ⟨s0,hs,h,hh,rfl⟩,(hsp _).2 ⟨s0,hs,h,hh,rfl⟩⟩
theorem FR{a b:Int×Int}(h:iP a=iP b):a=b:=by
 obtain⟨a1,a2⟩:=a;obtain⟨b1,b2⟩:=b
 simp only[iP,Value.agg.injEq]at h;simpa using h
section
variable{t:bA}{es:Array MapEntry}{cl:Nat}{S:List (Int×Int)}{h:Nat}{x0:Int}{seen:Array Nat}{lo hi:Int}
theorem V6(hS:pP es cl S){e e':MapEntry}(h1:e∈es.toList)(h2:e'∈es.toList)(h:e'.born=e.born):e'=e:=by
 have f1:=find_born e es.toList hS.nd h1;have f2:=find_born e' es.toList hS.nd h2;rw[h]at f2;rw[f1]at f2;exact(aKZ f2).symm
theorem MY.yes(hI:MY es S h x0 seen lo hi)(hS:pP es cl S){e:MapEntry}(he:e∈(leftOf es seen).toList){ah ay:Int}(hek:e.key=iP (ah,ay))(haS:(ah,ay)∈S)(hc:ah=(h:Int)):MY es S h x0 (seen.push e.born) (min lo ay) (max hi ay):=by
 subst hc;have hm:=hI.mid;refine⟨by omega,fun e' he' hc y hy=>?_,?_,?_⟩
 ·rw[contains_push,aLP]at hc;rcases hc with hc|hc
  ·have:=hI.all e' he' hc y hy;omega
  ·have:=V6 hS (mem_left he).1 he' (aJK.1 hc);subst this;rw[hek]at hy;have:=FR hy;simp only[aNY,true_and]at this;omega
 ·rcases Int.le_total lo ay with h|h
  ·rw[Int.min_eq_left h];exact hI.los
  ·rw[Int.min_eq_right h];exact haS
 ·rcases Int.le_total hi ay with h|h
  ·rw[Int.max_eq_right h];exact haS
  ·rw[Int.max_eq_left h];exact hI.his
theorem MY.no(hI:MY es S h x0 seen lo hi)(hS:pP es cl S){e:MapEntry}(he:e∈(leftOf es seen).toList){ah ay:Int}(hek:e.key=iP (ah,ay))(_:(ah,ay)∈S)(hc:¬ah=(h:Int)):MY es S h x0 (seen.push e.born) lo hi:=by
 refine⟨hI.mid,fun e' he' hc' y hy=>?_,hI.los,hI.his⟩;rw[contains_push,aLP]at hc';rcases hc' with hc'|hc'
 ·exact hI.all e' he' hc' y hy
 ·have:=V6 hS (mem_left he).1 he' (aJK.1 hc');subst this;rw[hek]at hy;have:=FR hy;simp only[aNY]at this;exact absurd this.1 hc
theorem KG{l:List Int}{m:Int}(hm:m∈l)(h:∀x∈l,m≤x):oY l=m:=by
 cases l with
 |nil=>cases hm
 |cons a l=>
  have key:∀(l:List Int) (a:Int),(∀x∈l,l.foldl min a≤x)∧l.foldl min a≤a∧(l.foldl min a=a∨l.foldl min a∈l):=by
   intro l;induction l with
   |nil=>intro a;simp
   |cons b l ih=>
    intro a;obtain⟨h1,h2,h3⟩:=ih (min a b);rw[aMF];refine⟨fun x hx=>?_,by omega,?_⟩
    ·rcases aJX.1 hx with rfl|hx
     ·omega
     ·exact h1 x hx
    ·rcases h3 with h3|h3
     ·rw[h3];rcases Int.le_total a b with h|h
      ·exact aKP (Int.min_eq_left h)
      ·exact aKB (by rw[Int.min_eq_right h];exact aKI)
     ·exact aKB (aKA _ h3)
  obtain⟨h1,h2,h3⟩:=key l a;show l.foldl min a=m;have h4:l.foldl min a≤m:=by
   rcases aJX.1 hm with rfl|hm
   ·exact h2
   ·exact h1 m hm
  have h5:m≤l.foldl min a:=by
   rcases h3 with h3|h3
   ·rw[h3];exact h a aKI
   ·exact h _ (aKA _ h3)
  omega
theorem KI{l:List Int}{m:Int}(hm:m∈l)(h:∀x∈l,x≤m):nG l=m:=by
 cases l with
 |nil=>cases hm
 |cons a l=>
  have key:∀(l:List Int) (a:Int),(∀x∈l,x≤l.foldl max a)∧a≤l.foldl max a∧(l.foldl max a=a∨l.foldl max a∈l):=by
   intro l;induction l with
   |nil=>intro a;simp
   |cons b l ih=>
    intro a;obtain⟨h1,h2,h3⟩:=ih (max a b);rw[aMF];refine⟨fun x hx=>?_,by omega,?_⟩
    ·rcases aJX.1 hx with rfl|hx
     ·omega
     ·exact h1 x hx
    ·rcases h3 with h3|h3
     ·rw[h3];rcases Int.le_total a b with h|h
      ·exact aKB (by rw[Int.max_eq_right h];exact aKI)
      ·exact aKP (Int.max_eq_left h)
     ·exact aKB (aKA _ h3)
  obtain⟨h1,h2,h3⟩:=key l a;show l.foldl max a=m;have h4:m≤l.foldl max a:=by
   rcases aJX.1 hm with rfl|hm
   ·exact h2
   ·exact h1 m hm
  have h5:l.foldl max a≤m:=by
   rcases h3 with h3|h3
   ·rw[h3];exact h a aKI
   ·exact h _ (aKA _ h3)
  omega
theorem MY.fin(hI:MY es S h x0 seen lo hi)(hS:pP es cl S)(hsp:uN (bI t) t.last S)(_:bI t≠[])(hh:(h:Int)≤t.last)(hz:(leftOf es seen).size=0):iP (lo,hi)=iP (qX t h):=by
 have hall:∀y,((h:Int),y)∈S→lo≤y∧y≤hi:=fun y hy=>by
  obtain⟨e,he,hk⟩:=hS.ent hy;refine hI.all e he ?_ y hk;cases hc:seen.contains e.born with
  |true=>rfl
  |false=>
   have hm:e∈leftOf es seen:=by
    unfold leftOf;rw[Array.mem_filter];exact⟨Array.mem_toList_iff.1 he,by rw[hc];rfl⟩
   have:=Array.size_pos_of_mem hm;omega
 have hmem:∀y,y∈(bI t).map (aDH · h)→((h:Int),y)∈S:=fun y hy=>by
  obtain⟨s,hs,rfl⟩:=aJY.1 hy;exact(hsp _).2 ⟨s,hs,h,hh,rfl⟩
 have hmem2:∀y,((h:Int),y)∈S→y∈(bI t).map (aDH · h):=fun y hy=>by
  obtain⟨s,hs,j,hj,he⟩:=(hsp _).1 hy;simp only[aNY]at he;have:j=h:=by omega
  subst this;exact aJY.2 ⟨s,hs,he.2.symm⟩
 unfold qX;rw[KG (hmem2 _ hI.los) fun x hx=>(hall x (hmem x hx)).1,KI (hmem2 _ hI.his) fun x hx=>(hall x (hmem x hx)).2]
end
theorem x8(t:bA)(wb mb:Nat)(hv lv mv tsv:Value)(es:Array MapEntry)(cl:Nat)(S:List (Int×Int))(h:Nat)(D:aA)(hts:Sl D P2 10 tsv (bI t))(htn:bI t≠[])(hto:j2 t)(hS:pP es cl S)(hsp:uN (bI t) t.last S)(hh:(h:Int)≤t.last):
  N6 Tryz.prog 249 [.pointer (some ⟨wb,0,none⟩),.int .i64 (h:Int)] D [(wb,.cells [.int .i64 t.last,hv,.int .i64 t.step,lv,mv,tsv,.map (some mb)].toArray 240 (0,0)),(mb,.map es cl)] (fun _ v ν'=>v=iP (qX t h)∧ν'=[(wb,.cells [.int .i64 t.last,hv,.int .i64 t.step,lv,mv,tsv,.map (some mb)].toArray 240 (0,0)),(mb,.map es cl)]):=by
 have hll:=hts.len;have hlast:=hto.last;obtain⟨s0,hs0⟩:∃s,(bI t)[0]?= some s:=⟨(bI t)[0]'(aNF.2 htn),aJT _⟩
 have hsl0:=lG hto (aJV hs0);have hsl1:=hto.len;have hg0:(cJ s0)[(h:Int).toNat]?= some (s0.getD h 0):=FJ Yd;have hp10:=eC (l:=s0) Yd;refine fR 42 Tryz.func249 rfl rfl rfl rfl (fun h0 hwl hwn=>C.s1<|Zw rfl Tf.z76 rfl (fun q1=>L.n2<|C.drawA [] 7 19 196400 (fun _ _ _ h=>aU (P:=Tryz.prog) (fn:=Tryz.f249) _ _ _ h)<|Za rfl<|Zab rfl<|Zj rfl Tf.f240_1 rfl<|Zm rfl Tf.a238 rfl (List.Mem.tail _ (List.Mem.head _)) rfl<|Za rfl<|Zt rfl U238 Tf.s244 rfl hts rfl hs0 (fun b1 o1 cs1 hr1 hcl1 hA1=>?_)));obtain rfl:cs1=ints (cJ _):=hr1;refine dR rfl U244 Tf.s3 rfl rfl Yd Yd rfl trivial<|bD (o:=o1) (k:=(h:Int).toNat*1) rfl Tf.a3 rfl hA1 Yj (by rw[aND];exact cD hg0) aJN rfl trivial<|Za rfl<|Zab rfl<|Zj rfl Tf.f240_1 rfl<|Zm rfl Tf.a238 rfl (List.Mem.tail _ (List.Mem.head _)) rfl<|Za rfl<|Zt rfl U238 Tf.s244 rfl hts rfl hs0 (fun b2 o2 cs2 hr2 hcl2 hA2=>?_)
 obtain rfl:cs2=ints (cJ _):=hr2;refine dR rfl U244 Tf.s3 rfl rfl Yd Yd rfl trivial<|bD (o:=o2) (k:=(h:Int).toNat*1) rfl Tf.a3 rfl hA2 Yj (by rw[aND];exact cD hg0) aJN rfl trivial<|Zq [.int .i64 (s0.getD h 0),.int .i64 (s0.getD h 0)] rfl Tf.p76 Tf.z76 rfl rfl<|Zw rfl Tf.z76 rfl (fun q2=>Zu rfl Tf.s76 (bO.head)<|L.n4<|Za rfl<|Zab rfl<|Zj rfl Tf.f240_2 rfl<|Zm rfl Tf.a237 rfl (List.Mem.tail _ (List.Mem.tail _ (List.Mem.head _))) rfl<|NM (b:=mb) (es:=es) (clock:=cl) rfl U237 rfl Ye rfl aGL (fun qr=>L.n1 ?_));refine Zai<|cE (γ:=Array Nat×Int×Int) (fun g=>(leftOf es g.1).size) (fun g=>MY es S h (s0.getD h 0) g.1 g.2.1 g.2.2) (fun g=>[(28,.pointer (some ⟨qr,0,none⟩))]) [(5,_),(4,_),(1,_)] (fun g=>[(qr,.mapIter (some mb) cl g.1 cl),(q2,.cells [.int .i64 g.2.1,.int .i64 g.2.2].toArray 76 (0,0)),(q1,.cells [.int .i64 0,.int .i64 0].toArray 76 (0,0))]++[(wb,.cells [.int .i64 t.last,hv,.int .i64 t.step,lv,mv,tsv,.map (some mb)].toArray 240 (0,0)),(mb,.map es cl)]) (fun g=>[D]) (#[],s0.getD h 0,s0.getD h 0) (MY.start hsp (aJV hs0) hh) ⟨Yb,aGL⟩ C.rs (aJU _) (aD) ?_;rintro⟨seen,lo,hi⟩ hI;simp only at hI;refine C.s1<|YA (b:=mb) (r:=qr) (es:=es) (clock:=cl) (A:=[]) (B:=[(_,_),(_,_),(_,_),(_,_)]) rfl rfl Ye hS.lt (aKR _) rfl aGL (fun ok vs o' hv0 hno hyes=>W1 rfl rfl hv0 rfl trivial<|L.n2<|aJ rfl (fun hc1=>?_) (fun hc1=>?_))
 ·obtain⟨e,he,rfl⟩:=hyes hc1;obtain⟨⟨ah,ay⟩,haS,hek,hev⟩:=hS.key (mem_left he).1;refine C.kn<|Zai<|C.s1<|SQ (b:=mb) (r:=qr) (es:=es) (clock:=cl) (e:=e) (since:=cl) (seen:=seen) rfl rfl Ye Ye (mem_left he).1 hS.nd rfl aGL ?_;rw[hek];refine Zaa rfl<|Zw rfl Tf.z247 rfl (fun q3=>Zu rfl Tf.s247 (bO.head)<|L.n3<|Zj rfl Tf.f247_0 rfl<|Zm rfl Tf.a3 rfl (List.Mem.head _) rfl<|Za rfl<|dH rfl rfl rfl rfl trivial<|L.n1<|aF rfl (fun hc2=>?_) (fun hc2=>?_))
  ·refine C.rg<|Zp rfl Tf.a76 rfl (List.Mem.tail _ (List.Mem.tail _ (List.Mem.head _))) Tf.s76<|Zj rfl Tf.f247_1 rfl<|Zm rfl Tf.a3 rfl (List.Mem.head _) rfl<|Zd rfl (fun D1 hD1=>nW (lo,hi) ay _)<|Zu rfl Tf.s76 (.tail (.tail (bO.head)))<|Zz<|Zak ?_;exact aH 14 (seen.push e.born,min lo ay,max hi ay) (hI.yes hS he hek haS hc2) (left_shrinks _ _ _ he) ⟨rfl,aGL⟩ rfl rfl (List.Sublist.cons _ (aJU _)) (aD)
  ·refine aAX<|Zak ?_;exact aH 10 (seen.push e.born,lo,hi) (hI.no hS he hek haS hc2) (left_shrinks _ _ _ he) ⟨rfl,aGL⟩ rfl rfl (List.Sublist.cons _ (aJU _)) (aD)
 ·obtain⟨hz,rfl⟩:=hno hc1;have hfin:=hI.fin hS hsp htn hh hz;refine aR<|Zah<|Zah<|Zal<|Zag<|C.s1<|Zp rfl Tf.a76 rfl (List.Mem.tail _ (List.Mem.head _)) Tf.s76<|Zu rfl Tf.s76 (.tail (.tail (bO.head)))<|L.n5 ?_;exact Zx [(_,_),(_,_),(_,_)] [] [_,_] [_] rfl ⟨⟨_,_,_,rfl,List.Mem.tail _ (List.Mem.tail _ (List.Mem.head _)),Or.inr ⟨Tf.a76,Tf.s76,rfl⟩⟩,aGL⟩ rfl (fun D hD=>⟨hfin,rfl⟩)
end L2
end Go.Fs
namespace Go.Fs
open Go.Proofs
namespace L2
open L1
open C2
open C1 (fL cG oY nG)
theorem BI{wb mb t cl:Nat}{cs:List Value}{es:Array MapEntry}:∀p∈[(wb,Obj.cells cs.toArray t (0,0)),(mb,.map es cl)],cK p.2:=by
 intro p hp;simp only[aJX,aJN,aMT]at hp;rcases hp with rfl|rfl
 ·rfl
 ·trivial
def CW(l:List (Int×Int)):List Value:=l.flatMap fun p=>[.int .i64 p.1,.int .i64 p.2]
theorem B3(l:List (Int×Int)):(CW l).length=l.length*2:=by
 induction l with
 |nil=>rfl
 |cons p l ih=>unfold CW at ih ⊢;rw[aLO,aJZ,ih,aKD];simp;omega
theorem M8(l m:List (Int×Int)):CW (l++m)=CW l++CW m:=aLE
theorem XR{l:List (Int×Int)}{i:Nat}{p:Int×Int}(hi:l[i]?= some p):((CW l).drop (i*2)).take 2=[.int .i64 p.1,.int .i64 p.2]:=by
  induction l generalizing i with
  |nil=>simp at hi
  |cons d l ih=>
    have hc:CW (d::l)=[.int .i64 d.1,.int .i64 d.2]++CW l:=rfl;rw[hc];cases i with
    | zero => obtain rfl : d = p := by simpa using hi
              rfl
    |succ i=>
      rw[show(i+1)*2=([.int .i64 d.1,.int .i64 d.2]:List Value).length+i*2 by simp;omega,aOJ];exact ih Yal
theorem _root_.Go.Fs.jJ.rgs{D:aA}{v:Value}{n:Nat}{l:List (Int×Int)}(hF:jJ D v n (CW l))(hn:l.length=n)(hb:n≤9223372036854775807):Sl D zX 2 v l:=
 hF.sl hn hb fun _i _t hi=>⟨_,rfl,rfl,XR hi⟩
def a8(t:bA):List (Int×Int):=(List.range (t.last+1).toNat).map (qX t)
theorem BU{t:bA}{k:Nat}(h:(k:Int)=t.last+1):(List.range k).map (qX t)=a8 t:=by unfold a8;rw[show(t.last+1).toNat=k by omega]
theorem NK(s:List Int):(cJ s).take s.length=s:=by unfold cJ;rw[aOL]
def pH(s:List Int)(level:Int)(k:Nat):List Int:=((List.range k).filter fun j=>decide (level<s.getD j 0)).map fun j:Nat=>(j:Int)
theorem HI(s:List Int)(level:Int)(k:Nat):(pH s level k).length≤k:=by
 unfold pH;rw[aMI];have:=aNC (fun j=>decide (level<s.getD j 0)) (List.range k);rwa [List.length_range]at this
theorem YP{s:List Int}{level x:Int}{k:Nat}(hx:s[k]?= some x)(h:level<x):pH s level (k+1)=pH s level k++[(k:Int)]:=by
 unfold pH;rw[aMB,aMX,aKN,aNS,aKS (by rw[aMD,hx];simpa using h)];rfl
theorem aAB{s:List Int}{level x:Int}{k:Nat}(hx:s[k]?= some x)(h:¬level<x):pH s level (k+1)=pH s level k:=by
 unfold pH;rw[aMB,aMX,aKN,aNS,aKO (by rw[aMD,hx];simpa using h)];simp
theorem C6(s:List Int)(level:Int):∃m:Nat,qU s level=(m:Int)∧m≤s.length∧(∀j,j<m→s.getD j 0≤level)∧(m<s.length→level<s.getD m 0):=by
 refine⟨(s.takeWhile fun n=>decide (n≤level)).length,rfl,?_⟩;induction s with
 |nil=>exact⟨by simp,fun j h=>by simp at h,fun h=>by simp at h⟩
 |cons a s ih=>
  obtain⟨h1,h2,h3⟩:=ih;by_cases h:a≤level
  ·rw[List.takeWhile_cons,aKS Yan,aKD,aKD];refine⟨by omega,fun j hj=>?_,fun hj=>?_⟩
   ·cases j with
    |zero=>simpa using h
    |succ j=>simpa using h2 j Yd
   ·simpa using h3 Yd
  ·rw[List.takeWhile_cons,aKO Yan];exact⟨by simp,fun j hj=>by simp at hj,fun _=>by simp;omega⟩
theorem j4{s:List Int}{level:Int}{m:Nat}(h1:m<s.length)(h2:∀j,j<m→s.getD j 0≤level)(h3:level<s.getD m 0):(pH s level s.length)[0]?= some (m:Int):=by
 unfold pH;obtain⟨n,hn⟩:∃n,s.length=m+(n+1):=⟨s.length-m-1,by omega⟩
 rw[hn,List.range_add,aMX,List.filter_eq_nil_iff.2 (fun j hj=>by have:=h2 j (by simpa using hj);simpa using this),aLG,List.range_succ_eq_map,aLB,aNS,aKS (by simpa using h3)];simp
theorem OG{s:List Int}{level:Int}(h:0<(pH s level s.length).length):(pH s level s.length)[(0:Int).toNat]?= some (qU s level):=by
 obtain⟨m,hm,h1,h2,h3⟩:=C6 s level;rw[hm];by_cases hlt:m<s.length
 ·exact j4 hlt h2 (h3 hlt)
 ·exfalso
  obtain rfl:m=s.length:=by omega
  unfold pH at h;rw[List.filter_eq_nil_iff.2 (fun j hj=>by have:=h2 j (by simpa using hj);simpa using this)]at h
  simp at h
theorem XQ{s:List Int}{level:Int}(h:¬0<(pH s level s.length).length):qU s level=(s.length:Int):=by
 obtain⟨m,hm,h1,h2,h3⟩:=C6 s level;by_cases hlt:m<s.length
 ·exfalso
  have:=j4 hlt h2 (h3 hlt);have:=(aKH.1 this).1;omega
 ·rw[hm,show m=s.length by omega]
theorem lJ(tv:Value)(t:bA)(D:aA)(ht:gL D tv t):Fn Tryz.prog 184 #[tv] D (fun D' v=>∃lv,v=.tuple #[lv,.int .i64 (jH t true)]∧Sl D' zX 2 lv (if jH t true=0 then a8 t else [])):=by
 have ht0:=ht;obtain⟨hv,lv,mv,rfl,hh,hl,hm⟩:=ht;refine enter 30 Tryz.func184 rfl rfl rfl rfl fun h0=>C.s1<|Zv rfl (fun q1 E1 hE1 hB1=>Zi rfl<|Zi rfl<|L.n3<|Zs rfl Tf.a32 rfl hB1 Tf.s32<|eZ rfl rfl rfl (fun D2 hD2=>pG _ t true _ (ht0.up (hD2 _ Ye))) rfl aGL (fun v2 D3 ν2 hD3 hp2=>?_))
 obtain⟨wv,rfl,hwk⟩:=hp2;refine Za rfl<|Zaa rfl<|Zaa rfl<|Zi rfl<|Zi rfl<|L.n4<|Za rfl<|eQ rfl rfl rfl rfl trivial<|L.n1<|aF rfl (fun hc1=>?_) (fun hc1=>?_)
 ·refine C.s1<|Za rfl<|Zi rfl<|Zi rfl<|L.n5<|Zaj ?_;exact Zc [_,_] rfl C.rs (fun D hD=>⟨_,rfl,by rw[aKO hc1];exact Sl.nil⟩)
 ·have he0:jH t true=0:=by omega
  obtain⟨hto,htn,wb,mb,hv2,lv2,mv2,tsv,es,cl,S,rfl,rfl,htw,hts,hS,hsp⟩:=hwk he0;have hlast:=hto.last;refine C.kn<|C.s1<|Zi rfl<|L.n4<|Zj rfl Tf.f32_0 rfl<|Zg 0 rfl Tf.a3 rfl hB1 rfl<|Zy rfl<|Za rfl<|L.n1<|Zai<|cE (γ:=Nat×Value×aC) (fun g=>(t.last+1).toNat-g.1) (fun g=>(g.1:Int)≤t.last+1∧bR 76 2 g.2.1 g.1 (CW ((List.range g.1).map (qX t))) g.2.2) (fun g=>[(19,.int .i64 (g.1:Int)),(6,g.2.1)]) [(18,_),(4,_),(3,_),(2,_)] (fun g=>g.2.2++[(wb,.cells [.int .i64 t.last,hv2,.int .i64 t.step,lv2,mv2,tsv,.map (some mb)].toArray 240 (0,0)),(mb,.map es cl)]) (fun g=>[D3,E1,D]) (0,.slice none 0 0,[]) ⟨by simp;omega,by simpa [CW]using bR.nil⟩ ⟨Yb,Yb,aGL⟩ C.rs (aJU _) (aD) ?_
  rintro⟨k,v,ν⟩ ⟨h1,ha⟩;simp only at h1 ha;refine C.s1<|Zae rfl<|L.n2<|aF rfl (fun hc2=>?_) (fun hc2=>?_)
  ·have hk:(k:Int)≤t.last:=by simp only at hc2;omega
   refine C.kn<|aCX<|Zai<|C.s1<|Za rfl<|Zi rfl<|L.n1<|C.rg<|Za rfl<|Za rfl<|Za rfl<|H6 (A:=ν) (ν:=[(_,_),(_,_)]) rfl rfl rfl rfl (aKP rfl) (BI (cs:=[_,_,_,_,_,_,_])) (fun D5 hD5=>x8 t wb mb hv2 lv2 mv2 tsv es cl S k _ (hts.up P2.up (hD5 _ Ye)) htn hto hS hsp Yd) rfl aGL (fun v5 D6 _ hD6 hp5=>?_);obtain⟨rfl,rfl⟩:=hp5;refine Zr rfl U29 Tf.s76 Tf.z76 rfl rfl rfl rfl (.cons rfl rfl .nil) (fun b901 D901 hD901 hA901=>aX (A:=[]) (B:=[(_,_),(_,_)]) rfl U29 rfl rfl Tf.s76 Tf.z76 rfl Tf.i76 rfl rfl rfl ha (jN.lit hA901) Ye rfl (by rw[B3];simp) Yi Yd (aKP rfl) rfl aGL (fun v1 ν1 ha1=>?_))
   have ha2:bR 76 2 v1 (k+1) (CW ((List.range (k+1)).map (qX t))) ν1:=by rw[aMB,aKN,M8];exact ha1
   refine Zi rfl<|Zz<|Zak<|Zag<|C.rg<|Zy rfl<|Za rfl<|Zz ?_;exact aH 14 (k+1,v1,ν1) ⟨by simp only;omega,ha2⟩ Ym ⟨Yb,rfl,aGL⟩ rfl rfl (aJU _) (fun D h=>⟨D,aJS _ (aJS _ (h)),Le.refl D⟩)
  ·have hk:(k:Int)=t.last+1:=by simp only at hc2 h1;omega
   refine aR<|Zah<|Zah<|Zal<|Zag<|C.s1<|Za rfl<|Zi rfl<|Zi rfl<|L.n5<|eO (A:=[]) (B:=[(_,_),(_,_)]) ha rfl (fun D8 hD8 hF8=>?_);exact Zc [_,_] rfl C.rs (fun D hD=>⟨_,by rw[he0];rfl,by rw[aKS he0];exact(BU Yd▸hF8.rgs Ye Yd).up zX.up (hD _ Ye)⟩)
theorem aAO(last step:Int)(hv lv mv:Value)(s:List Int)(level:Int)(D:aA)(hs:(s.length:Int)=last+1)(h10:s.length≤10):
  Fn Tryz.prog 127 #[.agg #[.int .i64 last,hv,.int .i64 step,lv,mv],.agg (ints (cJ s)).toArray,.int .i64 level] D (fun D' v=>Sl D' RI 1 v (pH s level s.length)):=by
 have hp10:=eC h10;refine enter 28 Tryz.func127 rfl rfl rfl rfl fun h0=>C.s1<|Zv rfl (fun q1 E1 hE1 hB1=>Zv rfl (fun q2 E2 hE2 hB2=>Zi rfl<|L.n2<|aCX ?_))
 have hsl:Sl E2 RI 1 (.slice (some ⟨q2,0,none⟩) s.length 10) s:=by have h:=FX (l:=0) (h:=s.length) hB2 hp10 Yd Yd Yd;rw[aOA,aNZ,aNZ]at h;rw[NK]at h;exact h
 refine C.rg<|Zj rfl Tf.f32_0 rfl<|Zg 0 rfl Tf.a3 rfl hB1 rfl<|Zy rfl<|QG (h:=s.length) rfl U244 Tf.s3 rfl rfl Yd Yd rfl trivial<|iI rfl U25 rfl rfl rfl trivial<|Za rfl<|L.n1<|Zai<|cE (γ:=Nat×Value×aC) (fun g=>s.length-g.1) (fun g=>g.1≤s.length∧bR 3 1 g.2.1 (pH s level g.1).length (ints (pH s level g.1)) g.2.2) (fun g=>[(14,.int .i64 (g.1:Int)),(6,g.2.1)]) [(13,_),(12,_),(2,_)] (fun g=>g.2.2++[]) (fun g=>[E2,E1,D]) (0,.slice none 0 0,[]) ⟨by simp,by simpa [ints,pH]using bR.nil⟩ ⟨Yb,Yb,aGL⟩ C.rs (aJU _) (aD) ?_;rintro⟨k,v,ν⟩ ⟨h1,ha⟩;simp only at h1 ha;refine C.s1<|Zae rfl<|L.n2<|aF rfl (fun hc1=>?_) (fun hc1=>?_)
 ·have hk:k<s.length:=by simp only at hc1;omega
  obtain⟨x,hx⟩:∃x,s[k]?= some x:=⟨_,aJT hk⟩
  have hwl:=HI s level k;refine C.kn<|aCX<|Zai<|C.s1<|Za rfl<|Zt rfl U25 Tf.s3 rfl hsl rfl hx (fun b1 o1 cs1 hr1 hcl1 hA1=>?_);obtain rfl:cs1=[.int .i64 _]:=hr1;refine Zg 0 rfl Tf.a3 rfl hA1 rfl<|Zi rfl<|Zi rfl<|L.n3<|Za rfl<|Za rfl<|eR rfl rfl rfl rfl trivial<|L.n1<|aF rfl (fun hc2=>?_) (fun hc2=>?_)
  ·refine C.rg<|Za rfl<|Za rfl<|Zr rfl U25 Tf.s3 Tf.z3 rfl rfl rfl rfl (.cons rfl rfl .nil) (fun b901 D901 hD901 hA901=>?_);have hS901:=Sl.ofInts (l:=[_]) (n:=1) (cap:=1) hA901 rfl Yd Yd;refine aX (A:=[]) (B:=_) rfl U25 rfl rfl Tf.s3 Tf.z3 rfl Tf.i3 rfl rfl rfl ha (jN.lit hA901) Ye rfl (by simp[ints]) Yi Yd (aKP rfl) rfl aGL (fun v1 ν1 ha1=>?_);have ha2:bR 3 1 v1 (pH s level (k+1)).length (ints (pH s level (k+1))) ν1:=by rw[YP hx hc2,aJZ,←eL];exact ha1
   refine Zi rfl<|Zz<|Zak<|Zag<|C.rg<|Zy rfl<|Za rfl<|Zz ?_;exact aH 18 (k+1,v1,ν1) ⟨by simp only;omega,ha2⟩ Ym ⟨Yb,rfl,aGL⟩ rfl rfl (aJU _) (fun D h=>⟨D,aJS _ (h),Le.refl D⟩)
  ·refine aAX<|Zak<|Zag<|C.rg<|Zy rfl<|Za rfl<|Zz ?_;exact aH 13 (k+1,v,ν) ⟨by simp only;omega,by rw[aAB hx hc2];exact ha⟩ Ym ⟨Yb,rfl,aGL⟩ rfl rfl (aJU _) (aD)
 ·obtain rfl:k=s.length:=by simp only at hc1;omega
  have hwl:=HI s level s.length;refine aR<|Zah<|Zah<|Zal<|Zag<|C.s1<|Za rfl<|Zi rfl<|L.n5<|eO (A:=[]) (B:=[]) ha rfl (fun D8 hD8 hF=>?_);exact Zc [_] rfl ⟨rfl,aGL⟩ (fun D hD=>(hF.ints Ye Yd).up RI.up (hD _ Ye))
theorem DE(t:bA)(wb mb:Nat)(hv lv mv tsv:Value)(es:Array MapEntry)(cl:Nat)(s:List Int)(level y:Int)(D:aA)(hs:(s.length:Int)=t.last+1)(h10:s.length≤10):
  N6 Tryz.prog 78 [.pointer (some ⟨wb,0,none⟩),.agg (ints (cJ s)).toArray,.int .i64 level,.int .i64 y] D [(wb,.cells [.int .i64 t.last,hv,.int .i64 t.step,lv,mv,tsv,.map (some mb)].toArray 240 (0,0)),(mb,.map es cl)] (fun _ v ν'=>v=.int .i64 (qU s level)∧ν'=[(wb,.cells [.int .i64 t.last,hv,.int .i64 t.step,lv,mv,tsv,.map (some mb)].toArray 240 (0,0)),(mb,.map es cl)]):=by
 have hp10:=eC h10;refine fR 29 Tryz.func78 rfl rfl rfl rfl (fun h0 hwl hwn=>C.s1<|Zv rfl (fun q1 E1 hE1 hB1=>Zi rfl<|L.n2<|aCX<|C.drawA [] 4 8 48 (fun _ _ _ h=>aU (P:=Tryz.prog) (fn:=Tryz.f78) _ _ _ h)<|Za rfl<|Zab rfl<|Zj rfl Tf.f240_0 rfl<|cS (us:=[.int .i64 t.last,hv,.int .i64 t.step,lv,mv]) rfl Tf.a32 Tf.s32 rfl (aNM _) (by rfl) rfl aJN rfl trivial<|cO rfl Tf.a244 rfl hB1 Yc Yw aJN rfl aGL ?_));refine Za rfl<|bU rfl rfl rfl (fun D1 hD1=>aAO t.last t.step hv lv mv s level _ hs h10) rfl aGL (fun v1 D1 hD1 hp1=>Zi rfl<|L.n3<|Za rfl<|aW rfl U25 rfl hp1 rfl rfl trivial<|eR rfl rfl rfl rfl trivial<|L.n1<|aF rfl (fun hc1=>?_) (fun hc1=>?_))
 ·have hw0:=OG (s:=s) (level:=level) Yd;refine C.s1<|Za rfl<|Zt rfl U25 Tf.s3 rfl hp1 rfl hw0 (fun b1 o1 cs1 hr1 hcl1 hA1=>?_);obtain rfl:cs1=[.int .i64 _]:=hr1;refine Zg 0 rfl Tf.a3 rfl hA1 rfl<|Zi rfl<|L.n5<|Zaj ?_;exact Zx [] [] [_,_] [_] rfl ⟨rfl,aGL⟩ rfl (fun D hD=>⟨rfl,rfl⟩)
 ·have hw1:=XQ (s:=s) (level:=level) Yd;refine C.kn<|C.s1<|Za rfl<|Zab rfl<|Zj rfl Tf.f240_0 rfl<|Zj rfl Tf.f32_0 rfl<|Zm rfl Tf.a3 rfl (List.Mem.head _) rfl<|Zy rfl<|Zi rfl<|L.n5 ?_;exact Zx [] [] [_,_] [_] rfl ⟨rfl,aGL⟩ rfl (fun D hD=>⟨by show Value.int _ _=_;rw[hw1,hs],rfl⟩)
theorem ZI(t:bA)(wb mb:Nat)(hv lv mv tsv:Value)(es:Array MapEntry)(cl:Nat)(s:List Int)(a b:Int)(D:aA)(hs:(s.length:Int)=t.last+1)(h10:s.length≤10)(ha0:0≤a)(hab:a≤b)(hbl:b≤t.last):
  N6 Tryz.prog 81 [.pointer (some ⟨wb,0,none⟩),.agg (ints (cJ s)).toArray,.int .i64 a,.int .i64 b] D [(wb,.cells [.int .i64 t.last,hv,.int .i64 t.step,lv,mv,tsv,.map (some mb)].toArray 240 (0,0)),(mb,.map es cl)] (fun _ v ν'=>v=.int .i64 (jA s a b)∧ν'=[(wb,.cells [.int .i64 t.last,hv,.int .i64 t.step,lv,mv,tsv,.map (some mb)].toArray 240 (0,0)),(mb,.map es cl)]):=by
 have hp10:=eC h10;refine fR 13 Tryz.func81 rfl rfl rfl rfl (fun h0 hwl hwn=>C.s1<|Zv rfl (fun q1 E1 hE1 hB1=>Zi rfl<|L.n3<|cO rfl Tf.a244 rfl hB1 Yc Yw aJN rfl trivial<|Za rfl<|Za rfl<|Zd rfl (fun D1 hD1=>N3 (cJ s) a b _ hp10 ha0 hab Yd)<|Zi rfl<|L.n5 ?_));exact Zx [] [] [_,_] [_] rfl ⟨rfl,aGL⟩ rfl (fun D hD=>⟨by show Value.int _ _=_;rw[sQ ha0 hab Yd],rfl⟩)
end L2
end Go.Fs
namespace Go.Fs
open Go.Proofs
namespace L2
open L1
open C2
open C1 (fL cG oY nG)
def FA(F:List Int→Int)(n:Int)(l:List (List Int)):Int×Int:=l.foldl (fun p s=>(min p.1 (F s),max p.2 (F s))) (n,n)
theorem TK{t:bA}{F:List Int→Int}{n:Int}{k:Nat}{u:List Int}(hx:(bI t)[k]?= some u):FA F n ((bI t).take (k+1))=(min (FA F n ((bI t).take k)).1 (F u),max (FA F n ((bI t).take k)).2 (F u)):=by
 unfold FA;rw[aKL,hx,aMA];rfl
theorem j8(F:List Int→Int):∀(l:List (List Int)) (p:Int×Int),l.foldl (fun p s=>(min p.1 (F s),max p.2 (F s))) p=((l.map F).foldl min p.1,(l.map F).foldl max p.2)
 | [],_=>rfl
 |s::l,p=>by rw[aMF,j8 F l];rfl
theorem VU{t:bA}{F:List Int→Int}{s0:List Int}{lo hi:Int}(hs0:(bI t)[0]?= some s0)(h:(lo,hi)=FA F (F s0) (bI t)):iP (lo,hi)=iP (oY ((bI t).map F),nG ((bI t).map F)):=by
 rw[h];cases ht:bI t with
 |nil=>rw[ht]at hs0;simp at hs0
 |cons a l=>
  rw[ht]at hs0;obtain rfl:a=s0:=by simpa using hs0
  unfold FA;rw[j8,aLB,aMF,aMF,Int.min_self,Int.max_self];rfl
theorem wS{t:bA}{fine:Bool}(h:jH t fine=0):fine=true:=by
 unfold jH at h;split at h
 ·rename_i hf;exact absurd h hf
 ·split at h
  ·omega
  ·rename_i hf;simpa using hf
theorem CC{last a b:Int}(h:nS last a b=true):0≤a∧a≤b∧b≤last:=by
 unfold nS T9 at h;simp only[aKG,aKU,cG]at h;omega
theorem B5(t:bA)(wb mb:Nat)(hv lv mv tsv:Value)(es:Array MapEntry)(cl:Nat)(F:List Int→Int)(fid:Nat)(x y:Int)(D:aA)(hts:Sl D P2 10 tsv (bI t))(htn:bI t≠[])(hto:j2 t)
  (hf:∀s∈bI t,∀D',Le D D'→N6 Tryz.prog fid [.pointer (some ⟨wb,0,none⟩),.agg (ints (cJ s)).toArray,.int .i64 x,.int .i64 y] D' [(wb,.cells [.int .i64 t.last,hv,.int .i64 t.step,lv,mv,tsv,.map (some mb)].toArray 240 (0,0)),(mb,.map es cl)] (fun _ v ν'=>v=.int .i64 (F s)∧ν'=[(wb,.cells [.int .i64 t.last,hv,.int .i64 t.step,lv,mv,tsv,.map (some mb)].toArray 240 (0,0)),(mb,.map es cl)])):
  N6 Tryz.prog 79 [.agg #[.func (.func fid) #[] #[]],.pointer (some ⟨wb,0,none⟩),.int .i64 x,.int .i64 y] D [(wb,.cells [.int .i64 t.last,hv,.int .i64 t.step,lv,mv,tsv,.map (some mb)].toArray 240 (0,0)),(mb,.map es cl)] (fun _ v ν'=>v=iP (oY ((bI t).map F),nG ((bI t).map F))∧ν'=[(wb,.cells [.int .i64 t.last,hv,.int .i64 t.step,lv,mv,tsv,.map (some mb)].toArray 240 (0,0)),(mb,.map es cl)]):=by
 have hll:=hts.len;have hlast:=hto.last;have hsl1:=hto.len;obtain⟨s0,hs0⟩:∃s,(bI t)[0]?= some s:=⟨(bI t)[0]'(aNF.2 htn),aJT _⟩
 have hs0m:=aJV hs0;have hsl0:=lG hto hs0m;have hp100:=eC (l:=s0) Yd;refine fR 48 Tryz.func79 rfl rfl rfl rfl (fun h0 hwl hwn=>C.s1<|Zv rfl (fun q1 E1 hE1 hB1=>Zw rfl Tf.z76 rfl (fun q2=>L.n2<|C.drawA [] 6 13 2044 (fun _ _ _ h=>aU (P:=Tryz.prog) (fn:=Tryz.f79) _ _ _ h)<|Zj rfl Tf.f176_0 rfl<|Zg 0 rfl Tf.a173 rfl hB1 rfl<|Za rfl<|Za rfl<|Zab rfl<|Zj rfl Tf.f240_1 rfl ?_)));refine Zm rfl Tf.a238 rfl (List.Mem.tail _ (List.Mem.head _)) rfl<|Zt rfl U238 Tf.s244 rfl hts rfl hs0 (fun b1 o1 cs1 hr1 hcl1 hA1=>?_);obtain rfl:cs1=ints (cJ _):=hr1;refine cO rfl Tf.a244 rfl hA1 Yc (by first|exact Tf.s244|(simp only[*];exact Tf.s244)) aJN rfl trivial<|Za rfl<|Za rfl<|H6 (A:=[(_,_)]) (ν:=[(_,_),(_,_)]) rfl rfl rfl rfl (by first|exact Or.inl rfl|exact Or.inr Ye) (BI (cs:=[_,_,_,_,_,_,_])) (fun D5 hD5=>hf s0 hs0m _ (hD5 _ Ye)) rfl aGL (fun v5 D6 _ hD6 hp5=>?_)
 obtain⟨rfl,rfl⟩:=hp5;refine Zi rfl<|L.n3<|Za rfl<|Za rfl<|Zq [.int .i64 (F s0),.int .i64 (F s0)] rfl Tf.p76 Tf.z76 rfl rfl<|Zw rfl Tf.z76 rfl (fun q3=>Zu rfl Tf.s76 (bO.head)<|L.n4<|Za rfl<|Zab rfl<|Zj rfl Tf.f240_1 rfl<|Zm rfl Tf.a238 rfl (List.Mem.tail _ (List.Mem.tail _ (List.Mem.head _))) rfl ?_);refine aW rfl U238 rfl hts rfl rfl trivial<|Za rfl<|L.n1<|Zai<|cE (γ:=Nat×Int×Int) (fun g=>(bI t).length-g.1) (fun g=>g.1≤(bI t).length∧g.2=FA F (F s0) ((bI t).take g.1)) (fun g=>[(33,.int .i64 (g.1:Int))]) [(32,_),(31,_),(10,_),(8,_),(4,_),(1,_),(2,_),(3,_)] (fun g=>[(q3,.cells [.int .i64 g.2.1,.int .i64 g.2.2].toArray 76 (0,0)),(q2,.cells [.int .i64 0,.int .i64 0].toArray 76 (0,0))]++[(wb,.cells [.int .i64 t.last,hv,.int .i64 t.step,lv,mv,tsv,.map (some mb)].toArray 240 (0,0)),(mb,.map es cl)]) (fun g=>[D6,E1,D]) (0,F s0,F s0) ⟨by simp,rfl⟩ ⟨Yb,aGL⟩ C.rs (aJU _) (aD) ?_;rintro⟨k,lo,hi⟩ ⟨h1,hI⟩;simp only at h1 hI;refine C.s1<|Zae rfl<|L.n2<|aF rfl (fun hc1=>?_) (fun hc1=>?_)
 ·have hk:k<(bI t).length:=by simp only at hc1;omega
  obtain⟨u,hx⟩:∃u,(bI t)[k]?= some u:=⟨_,aJT hk⟩
  have hum:=aJV hx;have hul:=lG hto hum;have hp10:=eC (l:=u) Yd;refine C.kn<|aCX<|Zai<|C.s1<|Zt rfl U238 Tf.s244 rfl hts rfl hx (fun b2 o2 cs2 hr2 hcl2 hA2=>?_);obtain rfl:cs2=ints (cJ _):=hr2;refine cO rfl Tf.a244 rfl hA2 Yc (by first|exact Tf.s244|(simp only[*];exact Tf.s244)) aJN rfl trivial<|Zw rfl Tf.z244 rfl (fun q4=>bH rfl rfl rfl rfl Tf.s244 Yae Ya (bO.head) Yh trivial<|L.n1<|iJ hB1 Ye (fun hq1k=>?_))
  have hq1:q1∉[wb,mb]:=fun h=>hq1k (aKA _ (aKA _ (aKA _ h)))
  refine rU (fun hnd=>?_);simp only[aLB,aOC,aLT,aJX,aJN,aMT,not_or,aML,aLG]at hnd;have hq3:q3∉[wb,mb]:=by simp only[aJX,aJN,aMT,not_or];exact⟨hnd.2.1.2.1,hnd.2.1.2.2⟩
  have hq4:q4∉[wb,mb]:=by simp only[aJX,aJN,aMT,not_or];exact⟨hnd.1.2.2.1,hnd.1.2.2.2⟩
  refine iH [wb,mb] 3 [0,1,2,3,4,5,6,7,8,9] [false,true,true,true,true,true,true,true,false,false] [(false,0),(true,1),(true,2),(true,3),(true,4),(true,5),(true,6),(true,7),(false,8),(false,9)] Tf.follows (fun _ _ _ h=>aU (P:=Tryz.prog) (fn:=Tryz.f79) _ _ _ h) Yg rfl<|aY rfl Tf.a76 rfl (List.Mem.tail _ (List.Mem.head _)) Tf.s76 Yj rfl trivial<|Zj rfl Tf.f176_0 rfl<|bD rfl (k:=0) Tf.a173 rfl hB1 Yc rfl Yj rfl trivial<|Za rfl<|aY rfl Tf.a244 rfl (List.Mem.head _) (by first|exact Tf.s244|(simp only[*];exact Tf.s244)) Yj rfl trivial<|Za rfl<|Za rfl<|H6 (A:=[(_,_),(_,_),(_,_)]) (ν:=[(_,_),(_,_)]) rfl rfl rfl rfl (by first|exact Or.inl rfl|exact Or.inr Ye) (BI (cs:=[_,_,_,_,_,_,_])) (fun D7 hD7=>hf u hum _ (hD7 _ Ye)) rfl aGL (fun v7 D8 _ hD8 hp7=>?_);obtain⟨rfl,rfl⟩:=hp7;refine Zd rfl (fun D1 hD1=>nW (lo,hi) (F u) _)<|Zu rfl Tf.s76 (.tail (bO.head))<|Zz<|Zak<|Zag<|C.rg<|Zy rfl<|Za rfl<|Zz ?_;exact aH 16 (k+1,min lo (F u),max hi (F u)) ⟨by simp only;omega,by rw[TK hx,←hI]⟩ Ym ⟨Yb,aGL⟩ rfl rfl (List.Sublist.cons _ (aJU _)) (fun D h=>⟨D,aJS _ (h),Le.refl D⟩)
 ·obtain rfl:k=(bI t).length:=by simp only at hc1;omega
  rw[aLL]at hI;have hfin:=VU hs0 hI;refine aR<|Zah<|Zah<|Zal<|Zag<|C.s1<|Zp rfl Tf.a76 rfl (List.Mem.head _) Tf.s76<|Zu rfl Tf.s76 (.tail (bO.head))<|L.n5 ?_;exact Zx [(_,_),(_,_)] [] [_,_] [_] rfl ⟨⟨_,_,_,rfl,List.Mem.tail _ (List.Mem.head _),Or.inr ⟨Tf.a76,Tf.s76,rfl⟩⟩,aGL⟩ rfl (fun D hD=>⟨hfin,rfl⟩)
theorem QX(tv:Value)(t:bA)(row:Int)(D:aA)(ht:gL D tv t):Fn Tryz.prog 45 #[tv,.int .i64 row] D (fun _ v=>v=.tuple #[iP (if jH t (fL row 0 ((t.levels.length:Int)-1))=0 then PB t (t.levels.getD row.toNat 0)else(0,0)),.int .i64 (jH t (fL row 0 ((t.levels.length:Int)-1)))]):=by
 have ht0:=ht;obtain⟨hv,lv,mv,rfl,hh,hl,hm⟩:=ht;refine enter 28 Tryz.func45 rfl rfl rfl rfl fun h0=>C.s1<|Zv rfl (fun q1 E1 hE1 hB1=>Zw rfl Tf.z76 rfl (fun q2=>Zi rfl<|L.n2<|C.drawA [] 4 10 398 (fun _ _ _ h=>cZ (P:=Tryz.prog) (fn:=Tryz.f45) _ _ _ h)<|Zs rfl Tf.a32 rfl hB1 Tf.s32<|Zs rfl Tf.a32 rfl hB1 Tf.s32<|Za rfl<|Zd rfl (fun D1 hD1=>aAK _ t row _ (ht0.up (hD1 _ Ye)))<|eZ rfl rfl rfl (fun D3 hD3=>pG _ t (fL row 0 ((t.levels.length:Int)-1)) _ (ht0.up (hD3 _ Ye))) rfl aGL (fun v3 D4 ν3 hD4 hp3=>?_)))
 obtain⟨wv,rfl,hwk⟩:=hp3;refine Za rfl<|Zaa rfl<|Zaa rfl<|Zi rfl<|Zi rfl<|L.n4<|Za rfl<|eQ rfl rfl rfl rfl trivial<|L.n1<|aF rfl (fun hc1=>?_) (fun hc1=>?_)
 ·refine C.s1<|Zq [.int .i64 0,.int .i64 0] rfl Tf.p76 Tf.z76 rfl rfl<|Za rfl<|Zu rfl Tf.s76 (.app (bO.head))<|Zi rfl<|L.n5<|Zaj ?_;exact Zc [_,_] rfl ⟨⟨_,_,_,rfl,(aJW _ (List.Mem.head _)),Or.inr ⟨Tf.a76,(by first|exact Tf.s76|(simp only[aLH,aI, *];exact Tf.s76)),rfl⟩⟩,rfl,aGL⟩ (fun D hD=>by show Value.tuple _=_;rw[aKO hc1];rfl)
 ·have he0:jH t (fL row 0 ((t.levels.length:Int)-1))=0:=by omega
  obtain⟨hto,htn,wb,mb,hv2,lv2,mv2,tsv,es,cl,S,rfl,rfl,htw,hts,hS,hsp⟩:=hwk he0;have hrow:=wS he0;rw[cG]at hrow;have hlev:t.levels[row.toNat]?= some (t.levels.getD row.toNat 0):=by rw[aMD,aJT Yd];rfl
  refine C.kn<|C.s1<|Zq [.func (.func 78) #[] #[]] rfl Tf.p176 Tf.z176 rfl rfl<|Za rfl<|Zj rfl Tf.f32_3 rfl<|Zg 3 rfl Tf.a25 rfl hB1 rfl<|Za rfl<|Zt rfl U25 Tf.s3 rfl hl rfl hlev (fun b1 o1 cs1 hr1 hcl1 hA1=>?_);obtain rfl:cs1=[.int .i64 _]:=hr1;refine Zg 0 rfl Tf.a3 rfl hA1 rfl<|dF (A:=[]) (ν:=[(_,_),(_,_)]) (B:=[(_,_)]) rfl rfl rfl rfl (by first|exact Or.inl rfl|exact Or.inr Ye) (BI (cs:=[_,_,_,_,_,_,_])) (fun D7 hD7=>B5 t wb mb hv2 lv2 mv2 tsv es cl (qU · (t.levels.getD row.toNat 0)) _ _ _ _ (hts.up P2.up (hD7 _ Ye)) htn hto (fun s hsm D' hD'=>DE t wb mb hv2 lv2 mv2 tsv es cl s _ _ D' (by have:=lG hto hsm;have:=hto.len;omega) (by have:=lG hto hsm;have:=hto.len10;omega))) rfl aGL (fun v7 D8 _ hD8 hp7=>?_)
  obtain⟨rfl,rfl⟩:=hp7;refine Zu rfl Tf.s76 (.tail (.tail (bO.head)))<|Zi rfl<|L.n5 ?_;exact Zc [_,_] rfl ⟨⟨_,_,_,rfl,(List.Mem.tail _ (List.Mem.tail _ (List.Mem.head _))),Or.inr ⟨Tf.a76,(by first|exact Tf.s76|(simp only[aLH,aI, *];exact Tf.s76)),rfl⟩⟩,rfl,aGL⟩ (fun D hD=>by show Value.tuple _=_;rw[aKS he0,he0];rfl)
theorem ZX(tv:Value)(t:bA)(a b:Int)(D:aA)(ht:gL D tv t):Fn Tryz.prog 46 #[tv,.int .i64 a,.int .i64 b] D (fun _ v=>v=.tuple #[.int .i64 (if jH t (nS t.last a b)=0 then aCR t a b else 0),.int .i64 (jH t (nS t.last a b))]):=by
 have ht0:=ht;obtain⟨hv,lv,mv,rfl,hh,hl,hm⟩:=ht;refine enter 28 Tryz.func46 rfl rfl rfl rfl fun h0=>C.s1<|Zv rfl (fun q1 E1 hE1 hB1=>Zi rfl<|Zi rfl<|L.n2<|C.drawA [] 4 11 798 (fun _ _ _ h=>cZ (P:=Tryz.prog) (fn:=Tryz.f46) _ _ _ h)<|Zs rfl Tf.a32 rfl hB1 Tf.s32<|Zs rfl Tf.a32 rfl hB1 Tf.s32<|Za rfl<|Za rfl<|Zd rfl (fun D1 hD1=>p8 _ t a b _ (ht0.up (hD1 _ Ye))) ?_);refine eZ rfl rfl rfl (fun D3 hD3=>pG _ t (nS t.last a b) _ (ht0.up (hD3 _ Ye))) rfl aGL (fun v3 D4 ν3 hD4 hp3=>?_)
 obtain⟨wv,rfl,hwk⟩:=hp3;refine Za rfl<|Zaa rfl<|Zaa rfl<|Zi rfl<|Zi rfl<|L.n4<|Za rfl<|eQ rfl rfl rfl rfl trivial<|L.n1<|aF rfl (fun hc1=>?_) (fun hc1=>?_)
 ·refine C.s1<|Za rfl<|Zi rfl<|Zi rfl<|L.n5<|Zaj ?_;exact Zc [_,_] rfl C.rs (fun D hD=>by show Value.tuple _=_;rw[aKO hc1])
 ·have he0:jH t (nS t.last a b)=0:=by omega
  obtain⟨hto,htn,wb,mb,hv2,lv2,mv2,tsv,es,cl,S,rfl,rfl,htw,hts,hS,hsp⟩:=hwk he0;have hrow:=CC (wS he0);refine C.kn<|C.s1<|Zq [.func (.func 81) #[] #[]] rfl Tf.p176 Tf.z176 rfl rfl<|Za rfl<|Za rfl<|Za rfl<|dF (A:=[]) (ν:=[(_,_),(_,_)]) (B:=[]) rfl rfl rfl rfl (by first|exact Or.inl rfl|exact Or.inr Ye) (BI (cs:=[_,_,_,_,_,_,_])) (fun D7 hD7=>B5 t wb mb hv2 lv2 mv2 tsv es cl (jA · a b) _ _ _ _ (hts.up P2.up (hD7 _ Ye)) htn hto (fun s hsm D' hD'=>ZI t wb mb hv2 lv2 mv2 tsv es cl s _ _ D' (by have:=lG hto hsm;have:=hto.len;omega) (by have:=lG hto hsm;have:=hto.len10;omega) hrow.1 hrow.2.1 hrow.2.2)) rfl aGL (fun v7 D8 _ hD8 hp7=>?_)
  obtain⟨rfl,rfl⟩:=hp7;refine YO rfl U76 rfl Tf.a3 rfl rfl rfl trivial<|Zi rfl<|Zi rfl<|L.n5 ?_;exact Zc [_,_] rfl C.rs (fun D hD=>by show Value.tuple _=_;rw[aKS he0,he0];rfl)
end L2
end Go.Fs
namespace Go.Fs
open Go.Proofs
namespace L3
open L1
open C1
open C1
open C1
end L3
end Go.Fs
