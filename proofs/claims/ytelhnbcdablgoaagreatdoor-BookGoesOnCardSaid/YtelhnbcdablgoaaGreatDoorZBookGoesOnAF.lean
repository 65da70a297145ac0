/- Of the proof of BookGoesOn: SW3, SW4, SW5, Pair, Pairs, Nu, Mend, SW6, SW7, SW8, UW3, UW4, UW5, UW6, UW7, V1. -/
import Derived.Test.YtelhnbcdablgoaaGreatDoorZBookGoesOnAE
import Derived.Test.YtelhnbcdablgoaaGreatDoorZBookGoesOnAC
import Derived.Test.YtelhnbcdablgoaaGreatDoorZBookGoesOnAD
namespace Go.Fs
open Go.Proofs
namespace L7
open C7
def CI(l:List Int):Nat:=(l.filter fun n=>decide (n=2)).length
theorem aBE(l:List Int):CI l≤l.length:=aLZ _ _
theorem aDR(l:List Ch):iR l≤3*l.length:=by
 induction l with
 |nil=>simp[iR]
 |cons c l ih=>
  have:aFO c.parts≤3:=aLZ _ _;simp only[iR,aJY,List.sum_cons,aJD]at ih ⊢
  omega
theorem UE{l:List Ch}{i:Nat}{x:Ch}(hx:l[i]?= some x):((iR (l.take (i+1)):Nat):Int)=((iR (l.take i)+CI (x.parts.l.take 3):Nat):Int):=by
 rw[aJP,hx];simp[iR,aFO,CI,Pt.l]
theorem ZP{x:Ch}{k:Nat}{n:Int}(hx:iG x=true)(hn:x.parts.l[k]?= some n):0≤n∧n≤2:=by
 simp only[iG,aJI,KT,aJW]at hx;have:=hx.2 n (aJA hn);simpa [fR]using this
theorem MN{l:List Int}{k u:Nat}{n:Int}(hn:l[k]?= some n)(h:0≤n∧n≤2):((u+CI (l.take (k+1)):Nat):Int)=((u+CI (l.take k):Nat):Int)+n / 2:=by
 rw[aJP,hn];simp only[CI,aLC,aLP,aIX];by_cases h2:n=2
 ·subst h2;simp;omega
 ·simp[h2];omega
theorem YI{y:bI}(h:(decide ((7:Int)<y.chairs.length)||decide ((5:Int)<y.claims.length))=true):aT y=3:=by
 simp only[aKS,aJV]at h;unfold aT;rw[aJT Yd]
theorem j0{y:bI}(h:(decide ((7:Int)<y.chairs.length)||decide ((5:Int)<y.claims.length))=false):¬(7<y.chairs.length∨5<y.claims.length):=by
 simp only[aMK,aLY]at h;omega
theorem aFM{y:bI}(h:(decide ((7:Int)<y.chairs.length)||decide ((5:Int)<y.claims.length))=false)(h2:((!fR y.fit 0 9|| !y.chairs.all iG)|| !y.claims.all kW)=true):aT y=1:=by
 unfold aT;rw[aJM (j0 h),aJT]
 revert h2;unfold wF
 generalize fR y.fit 0 9=a,y.chairs.all iG=b,y.claims.all kW=c;cases a<;>cases b<;>cases c<;>decide
theorem HH{y:bI}(h2:((!fR y.fit 0 9|| !y.chairs.all iG)|| !y.claims.all kW)=false):wF y=true:=by
 revert h2;unfold wF
 generalize fR y.fit 0 9=a,y.chairs.all iG=b,y.claims.all kW=c;cases a<;>cases b<;>cases c<;>decide
theorem aHF{y:bI}(h:(decide ((7:Int)<y.chairs.length)||decide ((5:Int)<y.claims.length))=false)(h2:((!fR y.fit 0 9|| !y.chairs.all iG)|| !y.claims.all kW)=false):y.chairs.length≤7∧∀x∈y.chairs,iG x=true:=by
 have h3:=HH h2;simp only[wF,aJI,aJW]at h3;have:=j0 h;exact⟨by omega,h3.1.2⟩
theorem aCZ{y:bI}(h:(decide ((7:Int)<y.chairs.length)||decide ((5:Int)<y.claims.length))=false)(h2:((!fR y.fit 0 9|| !y.chairs.all iG)|| !y.claims.all kW)=false)(h3:(8:Int)<iR y.chairs):aT y=3:=by
 unfold aT;rw[aJM (j0 h),aJM (by rw[HH h2];simp),aJT Yd]
theorem aAQ{y:bI}(h:(decide ((7:Int)<y.chairs.length)||decide ((5:Int)<y.claims.length))=false)(h2:((!fR y.fit 0 9|| !y.chairs.all iG)|| !y.claims.all kW)=false)(h3:¬(8:Int)<iR y.chairs):aT y=0:=by
 unfold aT;rw[aJM (j0 h),aJM (by rw[HH h2];simp),aJM Yd]
theorem aEB{p:Pt}{k:Nat}{m:Int}(h:p.l[k]?= some m):([.int .i64 p.a,.int .i64 p.b,.int .i64 p.c]:List Value)[k*1]?= some (.int .i64 m):=by
 rw[aLV,show([.int .i64 p.a,.int .i64 p.b,.int .i64 p.c]:List Value)=p.l.map (Value.int .i64)from rfl,aKA,h];rfl
theorem rI(yv:Value)(y:bI)(D:aA)(hy:lO D yv y):Fn Tryz.prog 96 #[yv] D (fun _ v=>v=.int .i64 (aT y)):=by
 have hy0:=hy;obtain⟨cv,qv,rfl,hc,hq⟩:=hy;refine enter 60 Tryz.func96 rfl rfl rfl rfl fun h0=>C.s1<|Zw rfl (fun q1 E1 hE1 hB1=>Zh rfl<|L.n3<|Zr rfl Tf.a40 rfl hB1 Tf.s40<|bB rfl rfl rfl rfl trivial<|Zh rfl<|L.n2<|Zaj<|C.s1<|Zi rfl Tf.f40_0 rfl ?_);refine Zf 0 rfl Tf.a37 rfl hB1 rfl<|aR rfl U37 rfl hc rfl rfl trivial<|eB rfl rfl rfl rfl trivial<|Za rfl ?_
 refine' L.orK 5 (s:=16) (p:=21) rfl (fun hg1=>?_) (fun hg1=>?_) ?_;rotate_left
 ·refine Zj rfl Tf.f40_2 rfl<|Zg 2 rfl Tf.a38 rfl hB1 rfl<|aR rfl U38 rfl hq rfl rfl ⟨_,rfl,rfl⟩<|eB rfl rfl rfl rfl ⟨_,rfl,rfl⟩<|Zad rfl ?_;exact L.cu 4
 ·refine Zk rfl<|Zk rfl<|Zk rfl<|Zk rfl<|Zac rfl ?_;exact L.cu 4
 refine Zh rfl<|L.n1<|aJ rfl (fun hc1=>?_) (fun hc1=>?_)
 ·refine C.s1<|Zh rfl<|L.n5<|Zam<|Zai ?_;exact leave1 rfl rfl rfl rfl (fun D hD=>by show Value.int _ _=_;rw[YI hc1])
 ·refine C.s1<|Zi rfl Tf.f40_1 rfl<|Zf 1 rfl Tf.a3 rfl hB1 rfl<|Zd rfl (fun D1 hD1=>dN _ _ _ _)<|Zag rfl<|Za rfl ?_;refine' L.orK 5 (s:=27) (p:=32) rfl (fun hg2=>?_) (fun hg2=>?_) ?_;rotate_left
  ·refine Zj rfl Tf.f40_0 rfl<|Zg 0 rfl Tf.a37 rfl hB1 rfl<|Ze rfl (fun D2 hD2=>g9 _ _ _ iG _ (Sl.at rP.up hD2 Yk Ye) (.of fun x D2=>T6 x D2) rfl)<|jU rfl rfl rfl ⟨_,rfl,rfl⟩<|Zad rfl ?_;exact L.cu 4
  ·refine Zk rfl<|Zk rfl<|Zk rfl<|Zk rfl<|Zac rfl ?_;exact L.cu 4
  refine Za rfl ?_;refine' L.orK 6 (s:=33) (p:=39) rfl (fun hg3=>?_) (fun hg3=>?_) ?_;rotate_left
  ·refine Zj rfl Tf.f40_2 rfl<|Zg 2 rfl Tf.a38 rfl hB1 rfl<|Zb rfl<|Ze rfl (fun D3 hD3=>p5 _ _ _ kW _ (Sl.at R2.up hD3 Yk Ye) ⟨_,[_],[],rfl,fun r D2 hl=>WT _ y r D2 (hy0.up ((hD3 _ Ye).trans hl))⟩ rfl)<|jU rfl rfl rfl ⟨_,rfl,rfl⟩<|Zad rfl ?_;exact L.cu 5
  ·refine Zk rfl<|Zk rfl<|Zk rfl<|Zk rfl<|Zk rfl<|Zac rfl ?_;exact L.cu 5
  refine Zh rfl<|L.n1<|aJ rfl (fun hc2=>?_) (fun hc2=>?_)
  ·refine C.s1<|Zh rfl<|L.n5<|Zam<|Zai ?_;exact leave1 rfl rfl rfl rfl (fun D hD=>by show Value.int _ _=_;rw[aFM hc1 hc2])
  ·obtain⟨hl7,hok⟩:=aHF hc1 hc2;refine bQ<|Zal<|Zah<|C.s1<|Zh rfl<|L.n4<|Zi rfl Tf.f40_0 rfl<|Zf 0 rfl Tf.a37 rfl hB1 rfl<|aR rfl U37 rfl hc rfl rfl trivial<|Za rfl<|L.n1<|Zaj ?_;refine cJ (γ:=Nat) (fun i=>y.chairs.length-i) (fun i=>i≤y.chairs.length) (fun i=>[(43,.int .i64 (i:Int)),(4,.int .i64 (iR (y.chairs.take i):Int))]) [(42,_),(41,_),(2,_)] (fun i=>[E1,D]) 0 Yd ⟨Yb,(by simp[iR];rfl),aOJ⟩ C.rs (aD) ?_
   rintro i h1;refine C.s1<|Zae rfl<|L.n2<|aE rfl (fun hc3=>?_) (fun hc3=>?_)
   ·have hi:i<y.chairs.length:=by omega
    obtain⟨x,hx⟩:=C.ge y.chairs i;have hxo:=hok x (aJA hx);have hub:=aDR (y.chairs.take i);have hut:(y.chairs.take i).length≤i:=aNV _ _;refine C.kn<|aM<|Zaj<|C.s1<|Zs rfl U37 Tf.s103 rfl hc rfl hx (fun b1 o1 cs1 hr1 hcl1 hA1=>?_);obtain rfl:cs1=[.int .i64 _,.int .i64 _,.int .i64 _,.int .i64 _]:=hr1;refine Zr rfl Tf.a103 rfl hA1 Tf.s103<|Zx rfl Tf.z103 rfl (fun q2=>Zv rfl Tf.s103 (bM.head)<|L.n3<|Zi rfl Tf.f103_1 rfl<|dE rfl Tf.a101 Tf.s101 rfl (List.Mem.head _) rfl rfl GT rfl trivial<|Za rfl<|L.n1<|Zaj<|cJ (γ:=Nat) (fun k=>3-k) (fun k=>k≤3) (fun k=>[(49,.int .i64 (k:Int)),(4,.int .i64 ((iR (y.chairs.take i)+CI (x.parts.l.take k):Nat):Int))]) [(48,_),(47,_),(6,_),(46,_),(45,_),(44,_),(43,_),(42,_),(41,_),(2,_)] (fun k=>[E1,D]) 0 Yd ⟨Yb,(by simp[CI];rfl),aOJ⟩ C.rs (aD) ?_)
    rintro k h2;refine C.s1<|Zae rfl<|L.n2<|aE rfl (fun hc4=>?_) (fun hc4=>?_)
    ·have hk3:k<3:=by omega
     obtain⟨n,hn⟩:∃n,x.parts.l[k]?= some n:=⟨_,aJC (by simp[Pt.l];omega)⟩
     have hn2:=ZP hxo hn;have hkl:=aBE (x.parts.l.take k);have hkt:(x.parts.l.take k).length≤k:=aNV _ _;refine C.kn<|aM<|Zaj<|C.s1<|I9 (l:=x.parts.l) rfl U101 Tf.a3 Tf.s3 rfl rfl Yd Yd hn rfl trivial<|Zh rfl<|L.n1<|C.rg<|Za rfl<|Za rfl<|VA rfl rfl rfl Yd Yd Yf rfl trivial<|Zy rfl ?_;refine Zh rfl<|Zab<|Zal<|Zah<|C.rg<|Zy rfl<|Za rfl<|Zab ?_;exact aG 12 (k+1) Yd Yd ⟨Yb,(by rw[MN hn hn2];rfl),aOJ⟩ rfl rfl (LE _) (aD)
    ·obtain rfl:k=3:=by omega
     refine aQ<|Zak<|Zak<|Zan<|Zal<|Zah<|C.rg<|Zy rfl<|Za rfl<|Zab ?_;exact aG 12 (i+1) Yd Yd ⟨Yb,(by rw[UE hx];rfl),aOJ⟩ rfl rfl (List.Sublist.cons _ (LE _)) (aD)
   ·obtain rfl:i=y.chairs.length:=by omega
    rw[aKN];refine aQ<|Zak<|Zak<|Zan<|Zah<|C.s2<|Za rfl<|eB rfl rfl rfl rfl trivial<|L.n1<|aE rfl (fun hc5=>?_) (fun hc5=>?_)
    ·refine C.s1<|Zh rfl<|L.n5<|Zai ?_;exact leave1 rfl rfl rfl rfl (fun D hD=>by show Value.int _ _=_;rw[aCZ hc1 hc2 hc5])
    ·refine C.kn<|C.s1<|Zh rfl<|L.n5 ?_;exact leave1 rfl rfl rfl rfl (fun D hD=>by show Value.int _ _=_;rw[aAQ hc1 hc2 hc5])
end L7
end Go.Fs
namespace Go.Fs
open Go.Proofs
namespace L7
open C7
def W6(p:Pt):Prop:=(0≤p.a∧p.a≤1)∧(0≤p.b∧p.b≤1)∧(0≤p.c∧p.c≤1)
def JX(p q:Pt):Bool:=(!iT p&& !iT q)&&iT ⟨max p.a q.a,max p.b q.b,max p.c q.c⟩
def CY(f:Int)(x z:Ch):Bool:=fR (x.size-z.size) (-f) f
theorem YB(p q:Pt)(D:aA)(hp:W6 p)(hq:W6 q):Fn Tryz.prog 244 #[aIB p,aIB q] D (fun _ v=>v=.bool (JX p q)):=by
 refine enter 32 Tryz.func244 rfl rfl rfl rfl fun h0=>C.s1<|Zw rfl (fun q1 E1 hE1 hB1=>Zw rfl (fun q2 E2 hE2 hB2=>Zh rfl<|L.n3<|cQ rfl Tf.a101 rfl hB1 Yc Yy GT rfl trivial<|Zd rfl (fun D1 hD1=>qI p _)<|Zag rfl<|Za rfl ?_))
 refine' L.anK 4 (s:=8) (p:=12) rfl (fun hg1=>?_) (fun hg1=>?_) ?_;rotate_left
 ·refine cQ rfl Tf.a101 rfl hB2 Yc Yy GT rfl ⟨_,rfl,rfl⟩<|Ze rfl (fun D2 hD2=>qI q _)<|jU rfl rfl rfl ⟨_,rfl,rfl⟩<|Zac rfl ?_;exact L.cu 3
 ·refine Zk rfl<|Zk rfl<|Zk rfl<|Zad rfl ?_;exact L.cu 3
 refine Za rfl ?_;refine' L.anK 18 (s:=13) (p:=31) rfl (fun hg2=>?_) (fun hg2=>?_) ?_;rotate_left
 ·refine dH rfl U101 Tf.s3 rfl rfl Yah Yah rfl ⟨_,rfl,rfl⟩<|gL rfl Tf.a3 rfl hB1 Ye rfl GT rfl ⟨_,rfl,rfl⟩<|dH rfl U101 Tf.s3 rfl rfl Yah Yah rfl ⟨_,rfl,rfl⟩<|gL rfl Tf.a3 rfl hB2 Ye rfl GT rfl ⟨_,rfl,rfl⟩<|GV rfl rfl rfl hp.1 hq.1 rfl ⟨_,rfl,rfl⟩<|dH rfl U101 Tf.s3 rfl rfl Yah Yah rfl ⟨_,rfl,rfl⟩<|gL rfl Tf.a3 rfl hB1 Ye rfl GT rfl ⟨_,rfl,rfl⟩<|dH rfl U101 Tf.s3 rfl rfl Yah Yah rfl ⟨_,rfl,rfl⟩<|gL rfl Tf.a3 rfl hB2 Ye rfl GT rfl ⟨_,rfl,rfl⟩<|GV rfl rfl rfl hp.2.1 hq.2.1 rfl ⟨_,rfl,rfl⟩<|dH rfl U101 Tf.s3 rfl rfl Yah Yah rfl ⟨_,rfl,rfl⟩<|gL rfl Tf.a3 rfl hB1 Ye rfl GT rfl ⟨_,rfl,rfl⟩ ?_;refine dH rfl U101 Tf.s3 rfl rfl Yah Yah rfl ⟨_,rfl,rfl⟩<|gL rfl Tf.a3 rfl hB2 Ye rfl GT rfl ⟨_,rfl,rfl⟩<|GV rfl rfl rfl hp.2.2 hq.2.2 rfl ⟨_,rfl,rfl⟩<|xG (cs:=[.int .i64 (max p.a q.a),.int .i64 (max p.b q.b),.int .i64 (max p.c q.c)]) rfl U101 Tf.s3 Tf.z101 rfl rfl rfl ⟨_,rfl,rfl⟩<|Ze rfl (fun D3 hD3=>qI ⟨max p.a q.a,max p.b q.b,max p.c q.c⟩ _)<|Zac rfl ?_;exact L.cu 17
 ·refine Zk rfl<|Zk rfl<|Zk rfl<|Zk rfl<|Zk rfl<|Zk rfl<|Zk rfl<|Zk rfl<|Zk rfl<|Zk rfl<|Zk rfl<|Zk rfl ?_;refine Zk rfl<|Zk rfl<|Zk rfl<|Zk rfl<|Zk rfl<|Zad rfl ?_;exact L.cu 17
 refine Zh rfl<|L.n5 ?_;exact leave1 rfl rfl rfl rfl (fun D hD=>rfl)
theorem C6(yv:Value)(y:bI)(a b:Nat)(x z:Ch)(D:aA)(hy:lO D yv y)(hf:0≤y.fit∧y.fit≤9)(hx:y.chairs[a]?= some x)(hz:y.chairs[b]?= some z)(hxs:0≤x.size∧x.size≤9)(hzs:0≤z.size∧z.size≤9):Fn Tryz.prog 103 #[yv,.int .i64 (a:Int),.int .i64 (b:Int)] D (fun _ v=>v=.bool (CY y.fit x z)):=by
 obtain⟨cv,qv,rfl,hc,hq⟩:=hy;refine enter 26 Tryz.func103 rfl rfl rfl rfl fun h0=>C.s1<|Zw rfl (fun q1 E1 hE1 hB1=>Zh rfl<|L.n2<|C.drawA [] 6 20 257988 (fun _ _ _ h=>cA (P:=Tryz.prog) (fn:=Tryz.f103) _ _ _ h)<|Zi rfl Tf.f40_0 rfl<|Zf 0 rfl Tf.a37 rfl hB1 rfl<|Za rfl<|Zs rfl U37 Tf.s103 rfl hc rfl hx (fun b1 o1 cs1 hr1 hcl1 hA1=>?_))
 obtain rfl:cs1=[.int .i64 _,.int .i64 _,.int .i64 _,.int .i64 _]:=hr1;refine Zi rfl Tf.f103_0 rfl<|Zf 0 rfl Tf.a3 rfl hA1 rfl<|Zi rfl Tf.f40_0 rfl<|Zf 0 rfl Tf.a37 rfl hB1 rfl<|Za rfl<|Zs rfl U37 Tf.s103 rfl hc rfl hz (fun b2 o2 cs2 hr2 hcl2 hA2=>?_);obtain rfl:cs2=[.int .i64 _,.int .i64 _,.int .i64 _,.int .i64 _]:=hr2;refine Zi rfl Tf.f103_0 rfl<|Zf 0 rfl Tf.a3 rfl hA2 rfl<|fX rfl rfl rfl Yf rfl trivial<|Zi rfl Tf.f40_1 rfl<|Zf 1 rfl Tf.a3 rfl hB1 rfl<|aDE rfl rfl Yf rfl trivial<|Zi rfl Tf.f40_1 rfl<|Zf 1 rfl Tf.a3 rfl hB1 rfl<|Zd rfl (fun D1 hD1=>dN _ _ _ _)<|Zh rfl<|L.n5 ?_;exact leave1 rfl rfl rfl rfl (fun D hD=>rfl)
end L7
end Go.Fs
namespace Go.Fs
open Go.Proofs
namespace L7
open C7
def gY(p:Nat→Bool):Nat→Nat
 |0=>0
 |n+1=>if p n=true then gY p n|||2^n else gY p n
theorem qO(p:Nat→Bool):∀n i,(gY p n).testBit i=(decide (i<n)&&p i)
 |0,i=>by simp[gY]
 |n+1,i=>by
  unfold gY;split
  ·rename_i h;rw[Nat.testBit_or,qO p n i,Nat.testBit_two_pow];by_cases hi:n=i
   ·subst hi;simp[h]
   ·have:(i<n+1)=(i<n):=by rw[eq_iff_iff];omega
    simp[hi,this]
  ·rename_i h;rw[qO p n i];by_cases hi:n=i
   ·subst hi;simp[h]
   ·have:(i<n+1)=(i<n):=by rw[eq_iff_iff];omega
    simp[this]
theorem x5(p:Nat→Bool)(n:Nat):gY p n<2^n:=by
 apply Nat.lt_pow_two_of_testBit;intro i hi;rw[qO];have:¬i<n:=by omega
 simp[this]
def jV(t:List Pt)(i:Nat):Bool:=match t[i]? with|some p=> !iT p|none=>false
def mS(y:bI)(t:List Pt)(i k:Nat):Bool:=match t[i]?,t[k]?,y.chairs[i]?,y.chairs[k]? with
 |some p,some q,some x,some z=>(decide ((k:Int)≠i)&&CY y.fit x z)&&JX p q
 |_,_,_,_=>false
theorem XD{y:bI}{t:List Pt}{i k:Nat}{z q:Pt}{x1 x2:Ch}(hz:t[i]?= some z)(hq:t[k]?= some q)(hx1:y.chairs[i]?= some x1)(hx2:y.chairs[k]?= some x2):mS y t i k=((decide ((k:Int)≠i)&&CY y.fit x1 x2)&&JX z q):=by
 unfold mS;rw[hz,hq,hx1,hx2]
def eE(y:bI)(t:List Pt)(i k:Nat):List Nat:=(List.range 7).map fun j=>if j<i then gY (mS y t j) t.length else if j=i then gY (mS y t i) k else 0
structure Sc where
 whole:Nat
 broken:Nat
 fits:List Nat
deriving DecidableEq
def dG(y:bI)(t:List Pt):Sc:=⟨whole t,gY (jV t) t.length,(List.range 7).map fun j=>gY (mS y t j) t.length⟩
def F9(w b:Nat)(rows:List Nat):List Value:=.int .i64 (w:Int)::.int .i64 (b:Int)::rows.map fun(n:Nat)=>Value.int .i64 (n:Int)
def FQ(s:Sc):Value:=.agg (F9 s.whole s.broken s.fits).toArray
theorem RY(w b:Nat)(rows:List Nat):∀u∈F9 w b rows,cell1 u=true:=by
 intro u hu;unfold F9 at hu;simp only[aIW,aIY]at hu;rcases hu with rfl|rfl|⟨n,_,rfl⟩<;>rfl
theorem ZU{y:bI}{t:List Pt}{j:Nat}(h:t.length≤j):gY (mS y t j) t.length=0:=by
 apply Nat.eq_of_testBit_eq;intro i;rw[qO,Nat.zero_testBit];have:mS y t j i=false:=by unfold mS;rw[aMG h]
 simp[this]
theorem LF{y:bI}{t:List Pt}:eE y t t.length 0=(dG y t).fits:=by
 show eE y t t.length 0=(List.range 7).map fun j=>gY (mS y t j) t.length
 unfold eE;apply List.map_congr_left;intro j _;by_cases h:j<t.length
 ·rw[aJT h]
 ·rw[aJM h,ZU Yd];split<;>rfl
theorem ID{y:bI}{t:List Pt}{i:Nat}:eE y t i t.length=eE y t (i+1) 0:=by
 unfold eE;apply List.map_congr_left;intro j _;by_cases h:j<i
 ·rw[aJT h,aJT Yd]
 ·rw[aJM h];by_cases h2:j=i
  ·subst h2;rw[aJT rfl,aJT Yd]
  ·rw[aJM h2,aJM Yd];split<;>rfl
theorem aFC{y:bI}{t:List Pt}{i k:Nat}(h:mS y t i k=false):eE y t i k=eE y t i (k+1):=by
 unfold eE;have:gY (mS y t i) (k+1)=gY (mS y t i) k:=by rw[gY,aJM (by simp[h])]
 rw[this]
theorem aBQ{y:bI}{t:List Pt}{i k:Nat}(h:i<7):(eE y t i k)[i]?= some (gY (mS y t i) k):=by
 unfold eE;rw[aKA,aNW h];simp
theorem aEC{rows:List Nat}{i n:Nat}(w b:Nat)(h:rows[i]?= some n):(F9 w b rows)[2+i*1]?= some (.int .i64 (n:Int)):=by
 rw[aLV,Nat.add_comm];unfold F9;rw[List.getElem?_cons_succ,List.getElem?_cons_succ,aKA,h];rfl
theorem Q5{t:List Pt}{i:Nat}{z:Pt}(hz:t[i]?= some z):whole (t.take (i+1))=whole (t.take i)+if iT z=true then 1 else 0:=by
 unfold whole;rw[aJP,hz,aLC,aLP,aIX];cases h:iT z<;>simp[h]
theorem KO{t:List Pt}{i:Nat}{z:Pt}(hz:t[i]?= some z):jV t i= !iT z:=by unfold jV;rw[hz]
theorem X7{y:bI}{t:List Pt}{i k:Nat}{z:Pt}(hz:t[i]?= some z)(hw:iT z=true):gY (mS y t i) k=0:=by
 apply Nat.eq_of_testBit_eq;intro j;rw[qO,Nat.zero_testBit];have:mS y t i j=false:=by
  unfold mS;rw[hz]
  split
  ·rename_i e1 _ _ _;obtain rfl:=aJZ e1;simp[JX,hw]
  ·rfl
 simp[this]
theorem QS{y:bI}{t:List Pt}{i:Nat}{z:Pt}(hz:t[i]?= some z)(hw:iT z=true):
  (F9 (whole (t.take i)) (gY (jV t) i) (eE y t i 0)).take 0++[.int .i64 ((whole (t.take i):Int)+1)]++(F9 (whole (t.take i)) (gY (jV t) i) (eE y t i 0)).drop (0+ [Value.int .i64 ((whole (t.take i):Int)+1)].length)=F9 (whole (t.take (i+1))) (gY (jV t) (i+1)) (eE y t (i+1) 0):=by
 have h1:((whole (t.take (i+1)):Nat):Int)=(whole (t.take i):Int)+1:=by rw[Q5 hz,aJT hw];simp
 have h2:gY (jV t) (i+1)=gY (jV t) i:=by rw[gY,aJM (by rw[KO hz,hw];simp)]
 have h3:eE y t (i+1) 0=eE y t i 0:=by
  rw[←ID];unfold eE;rw[X7 hz hw,X7 hz hw]
 rw[h2,h3];unfold F9;rw[h1];rfl
theorem aCN{y:bI}{t:List Pt}{i:Nat}{z:Pt}(hz:t[i]?= some z)(hw:iT z=false):
  (F9 (whole (t.take i)) (gY (jV t) i) (eE y t i 0)).take 1++[.int .i64 ((gY (jV t) i|||2^i:Nat):Int)]++(F9 (whole (t.take i)) (gY (jV t) i) (eE y t i 0)).drop (1+ [Value.int .i64 ((gY (jV t) i|||2^i:Nat):Int)].length)=F9 (whole (t.take (i+1))) (gY (jV t) (i+1)) (eE y t i 0):=by
 have h1:whole (t.take (i+1))=whole (t.take i):=by rw[Q5 hz,aJM (by simp[hw])];rfl
 have h2:gY (jV t) (i+1)=gY (jV t) i|||2^i:=by rw[gY,aJT (by rw[KO hz,hw];rfl)]
 rw[h1,h2];rfl
theorem aFE{y:bI}{t:List Pt}{i k w b:Nat}(hi:i<7)(h:mS y t i k=true):
  (F9 w b (eE y t i k)).take (2+i*1)++[.int .i64 ((gY (mS y t i) k|||2^k:Nat):Int)]++(F9 w b (eE y t i k)).drop (2+i*1+ [Value.int .i64 ((gY (mS y t i) k|||2^k:Nat):Int)].length)=F9 w b (eE y t i (k+1)):=by
 have h2:gY (mS y t i) (k+1)=gY (mS y t i) k|||2^k:=by rw[gY,aJT h]
 have e:i=0∨i=1∨i=2∨i=3∨i=4∨i=5∨i=6:=by omega
 rw[←h2];rcases e with rfl|rfl|rfl|rfl|rfl|rfl|rfl<;>rfl
theorem RL(yv tv:Value)(y:bI)(t:List Pt)(D:aA)(hy:lO D yv y)(ht:Sl D RP 3 tv t)(hlen:t.length=y.chairs.length)(h7:t.length≤7)(hb:∀p∈t,W6 p)(hf:0≤y.fit∧y.fit≤9)(hs:∀c∈y.chairs,0≤c.size∧c.size≤9):Fn Tryz.prog 162 #[yv,tv] D (fun _ v=>v=FQ (dG y t)):=by
 have hy0:=hy;obtain⟨cv,qv,rfl,hc,hq⟩:=hy;have hl:=ht.len;refine enter 61 Tryz.func162 rfl rfl rfl rfl fun h0=>C.s1<|Zw rfl (fun q1 E1 hE1 hB1=>Zx rfl Tf.z319 rfl (fun q2=>L.n4<|Za rfl<|aR rfl U315 rfl ht rfl rfl trivial<|Za rfl<|L.n1<|Zaj<|cE (γ:=Nat) (fun i=>t.length-i) (fun i=>i≤t.length) (fun i=>[(11,.int .i64 (i:Int))]) [(10,_),(9,_),(4,_),(2,_),(1,_)] (fun i=>[(q2,.cells (F9 (whole (t.take i)) (gY (jV t) i) (eE y t i 0)).toArray 319 (0,0))]) (fun i=>[E1,D]) 0 Yd ⟨Yb,aOJ⟩ C.rs (LE _) (aD) ?_))
 rintro i h1;refine C.s1<|Zae rfl<|L.n2<|aE rfl (fun hc1=>?_) (fun hc1=>?_)
 ·have hi:i<t.length:=by omega
  obtain⟨z,hz⟩:=C.ge t i;obtain⟨x1,hx1⟩:=C.ge y.chairs i;have hwl:whole (t.take i)≤(t.take i).length:=aLZ _ _;have hwt:(t.take i).length≤i:=aNV _ _;have hbl:=x5 (jV t) i;have hp2:2^i≤2^7:=aMR Yd Yd;refine C.kn<|aM<|Zaj<|C.s1<|Za rfl<|Zs rfl U315 Tf.s101 rfl ht rfl hz (fun b1 o1 cs1 hr1 hcl1 hA1=>?_);obtain rfl:cs1=[.int .i64 _,.int .i64 _,.int .i64 _]:=hr1;refine cQ rfl Tf.a101 rfl hA1 Yc Yy GT rfl trivial<|Zx rfl Tf.z101 rfl (fun q3=>Zh rfl<|Zv rfl Tf.s101 (bM.head)<|L.n4<|bJ rfl Tf.a101 rfl (List.Mem.head _) Yy GT rfl trivial<|Zd rfl (fun D1 hD1=>qI z _)<|L.n1<|aJ rfl (fun hc2=>?_) (fun hc2=>?_))
  ·refine C.s1<|Zi rfl Tf.f319_0 rfl<|Zl rfl Tf.a3 rfl (List.Mem.tail _ (List.Mem.head _)) rfl<|Zy rfl<|Zi rfl Tf.f319_0 rfl<|aY (ws:=F9 (whole (t.take (i+1))) (gY (jV t) (i+1)) (eE y t (i+1) 0)) rfl rfl rfl rfl Tf.s3 (.tail bM.head) (by simp[F9]) (QS hz hc2) Yi trivial<|L.n1<|aQ<|Zak<|Zan<|Zah<|C.rg ?_;refine Zy rfl<|Za rfl<|Zab ?_;exact aG 15 (i+1) Yd Yd ⟨Yb,aOJ⟩ rfl rfl (List.Sublist.cons _ (LE _)) (aD)
  ·refine C.kn<|aM<|C.drawA [] 2 7 12 (fun _ _ _ h=>cA (P:=Tryz.prog) (fn:=Tryz.f162) _ _ _ h)<|Zi rfl Tf.f319_1 rfl<|Zl rfl Tf.a3 rfl (List.Mem.tail _ (List.Mem.head _)) rfl<|Za rfl<|H9 rfl rfl rfl Yd rfl trivial<|KD rfl rfl rfl Yd Yd rfl trivial<|Zi rfl Tf.f319_1 rfl<|aY (ws:=F9 (whole (t.take (i+1))) (gY (jV t) (i+1)) (eE y t i 0)) rfl rfl rfl rfl Tf.s3 (.tail bM.head) (by simp[F9]) (aCN hz hc2) Yi trivial<|L.n3<|Za rfl ?_;refine aR rfl U315 rfl ht rfl rfl trivial<|Za rfl<|L.n1<|Zaj<|cE (γ:=Nat) (fun k=>t.length-k) (fun k=>k≤t.length) (fun k=>[(30,.int .i64 (k:Int))]) [(29,_),(28,_),(27,_),(26,_),(25,_),(24,_),(23,_),(22,_),(17,_),(16,_),(5,_),(6,_),(15,_),(14,_),(13,_),(12,_),(11,_),(10,_),(9,_),(4,_),(2,_),(1,_)] (fun k=>[(q3,.cells [.int .i64 z.a,.int .i64 z.b,.int .i64 z.c].toArray 101 (0,0)),(q2,.cells (F9 (whole (t.take (i+1))) (gY (jV t) (i+1)) (eE y t i k)).toArray 319 (0,0))]) (fun k=>[E1,D]) 0 Yd ⟨Yb,aOJ⟩ C.rs (LE _) (aD) ?_;rintro k h2;refine C.s1<|Zae rfl<|L.n2<|aE rfl (fun hc3=>?_) (fun hc3=>?_)
   ·have hk:k<t.length:=by omega
    obtain⟨q,hq⟩:=C.ge t k;obtain⟨x2,hx2⟩:=C.ge y.chairs k;have hbk:=x5 (mS y t i) k;have hp3:2^k≤2^7:=aMR Yd Yd;refine C.kn<|aM<|Zaj<|C.s1<|Za rfl<|Zs rfl U315 Tf.s101 rfl ht rfl hq (fun b2 o2 cs2 hr2 hcl2 hA2=>?_);obtain rfl:cs2=[.int .i64 _,.int .i64 _,.int .i64 _]:=hr2;refine cQ rfl Tf.a101 rfl hA2 Yc Yy GT rfl trivial<|Zx rfl Tf.z101 rfl (fun q4=>Zh rfl<|Zv rfl Tf.s101 (bM.head)<|L.n3<|Za rfl<|Za rfl<|dZ rfl rfl rfl rfl trivial<|Za rfl ?_);refine' L.anK 5 (s:=38) (p:=43) rfl (fun hg1=>?_) (fun hg1=>?_) ?_;rotate_left
    ·refine cQ rfl Tf.a40 rfl hB1 Yc Tf.s40 GT rfl ⟨_,rfl,rfl⟩<|Zb rfl<|Zb rfl<|Ze rfl (fun D2 hD2=>C6 _ y i k x1 x2 _ (hy0.up (hD2 _ Ye)) hf hx1 hx2 (hs _ (aJA hx1)) (hs _ (aJA hx2)))<|Zac rfl ?_;exact L.cu 4
    ·refine Zk rfl<|Zk rfl<|Zk rfl<|Zk rfl<|Zad rfl ?_;exact L.cu 4
    refine Za rfl ?_;refine' L.anK 4 (s:=44) (p:=48) rfl (fun hg2=>?_) (fun hg2=>?_) ?_;rotate_left
    ·refine bJ rfl Tf.a101 rfl (LT _ (GE _)) Yy GT rfl ⟨_,rfl,rfl⟩<|bJ rfl Tf.a101 rfl (List.Mem.head _) Yy GT rfl ⟨_,rfl,rfl⟩<|Ze rfl (fun D3 hD3=>YB z q _ (hb _ (aJA hz)) (hb _ (aJA hq)))<|Zac rfl ?_;exact L.cu 3
    ·refine Zk rfl<|Zk rfl<|Zk rfl<|Zad rfl ?_;exact L.cu 3
    refine L.n1<|aJ rfl (fun hc4=>?_) (fun hc4=>?_)
    ·have hfit:mS y t i k=true:=by rw[XD hz hq hx1 hx2];exact hc4
     refine C.drawA [] 3 10 178 (fun _ _ _ h=>cA (P:=Tryz.prog) (fn:=Tryz.f162) _ _ _ h)<|Za rfl<|Zi rfl Tf.f319_2 rfl<|dT rfl U317 Tf.s3 rfl rfl Yd Yd rfl trivial<|aS rfl Tf.a3 rfl (List.Mem.tail _ (List.Mem.tail _ (List.Mem.head _))) (aEC _ _ (aBQ Yd)) GT rfl trivial<|Za rfl<|H9 rfl rfl rfl Yd rfl trivial<|KD rfl rfl rfl Yd Yd rfl trivial<|Zi rfl Tf.f319_2 rfl<|dT rfl U317 Tf.s3 rfl rfl Yd Yd rfl trivial<|aY (ws:=F9 (whole (t.take (i+1))) (gY (jV t) (i+1)) (eE y t i (k+1))) rfl rfl rfl rfl Tf.s3 (.tail (.tail bM.head)) (by simp[F9,eE];omega) (aFE Yd hfit) Yi trivial<|Zab ?_;refine Zal<|Zah<|C.rg<|Zy rfl<|Za rfl<|Zab ?_;exact aG 25 (k+1) Yd Yd ⟨Yb,aOJ⟩ rfl rfl (List.Sublist.cons _ (LE _)) (aD)
    ·have hfit:mS y t i k=false:=by rw[XD hz hq hx1 hx2];exact hc4
     refine bQ<|Zal<|Zah<|C.rg<|Zy rfl<|Za rfl<|Zab ?_;rw[aFC hfit];exact aG 16 (k+1) Yd Yd ⟨Yb,aOJ⟩ rfl rfl (List.Sublist.cons _ (LE _)) (aD)
   ·obtain rfl:k=t.length:=by omega
    rw[ID];refine aQ<|Zak<|Zak<|Zan<|Zal<|Zah<|C.rg<|Zy rfl<|Za rfl<|Zab ?_;exact aG 21 (i+1) Yd Yd ⟨Yb,aOJ⟩ rfl rfl (List.Sublist.cons _ (LE _)) (aD)
 ·obtain rfl:i=t.length:=by omega
  refine aQ<|Zak<|Zak<|Zan<|Zah<|C.s1<|Zu rfl Tf.a319 rfl (List.Mem.head _) Tf.s319<|aW rfl rfl rfl rfl Tf.s319 Ya Ya (bM.head) (RY _ _ _) trivial<|L.n5 ?_;exact Zm [_] rfl ⟨⟨_,_,_,rfl,(List.Mem.head _),Or.inr ⟨Tf.a319,(by first|exact Tf.s319|(simp only[aKH,aH, *];exact Tf.s319)),rfl⟩⟩,aOJ⟩ (fun D hD=>by rw[LF,aKN];rfl)
end L7
end Go.Fs
namespace Go.Fs.C7
end Go.Fs.C7
namespace Go.Fs.C7
end Go.Fs.C7
namespace Go.Fs.C7
theorem P3{m a:Nat}(h:m.testBit a=true):nY m (2^a)<m:=by
 have h1:=vT m (2^a);have h2:nY m (2^a)≠m:=fun e=>by
  have:=C9 m (2^a) a;rw[e,h,Nat.testBit_two_pow_self]at this;cases this
 omega
theorem aGH(m a i:Nat):(nY m (2^a)).testBit i=(m.testBit i&& !decide (a=i)):=by
 rw[C9,Nat.testBit_two_pow]
def low(m:Nat):Nat:=((List.range m).find? fun i=>m.testBit i).getD 0
theorem sO{m:Nat}(h:m≠0):m.testBit (low m)=true∧∀i,i<low m→m.testBit i=false:=by
 obtain⟨i,hi⟩:=Nat.exists_testBit_of_ne_zero h;have him:i<m:=aLU Nat.lt_two_pow_self (Nat.ge_two_pow_of_testBit hi);unfold low;cases hf:(List.range m).find? fun i=>m.testBit i with
 |none=>
  have:=List.find?_eq_none.1 hf i (aMJ.2 him);exact absurd hi this
 |some j=>
  have h1:=List.find?_some hf;refine⟨h1,fun k hk=>?_⟩;simp only[aMO]at hk;obtain⟨_,l1,l2,hab,hno⟩:=List.find?_eq_some_iff_append.1 hf;have hjm:j<m:=aMJ.1 (List.mem_of_find?_eq_some hf);have hlen:l1.length=j:=by
   have h2:(List.range m)[l1.length]?= some j:=by rw[hab,aNK (aJU _)];simp
   have hl:l1.length<m:=by
    have:=aJS List.length hab;simp at this;omega
   rw[aNW hl]at h2;exact aJZ h2
  have hkm:(List.range m)[k]?= some k:=aNW Yd;rw[hab,aMA Yd]at hkm;have:=hno k (aJA hkm);simpa using this
def fB(F:List Nat)(a b:Nat):Bool:=(F.getD a 0).testBit b
def pR(F:List Nat)(rest a:Nat)(nu:Nat→Nat)(m b:Nat):Nat:=if(rest&&&F.getD a 0).testBit b=true then max m (1+nu (nY rest (2^b)))else m
def ZC(F:List Nat)(n:Nat):Nat→Nat→Nat
 |0,_=>0
 |k+1,m=>if m=0 then 0 else(List.range n).foldl (pR F (nY m (2^low m)) (low m) (ZC F n k)) (ZC F n k (nY m (2^low m)))
def n6(F:List Nat)(n m:Nat):Nat:=ZC F n m m
theorem sE{α β:Type}{f g:β→α→β}:∀{l:List α} {b:β},(∀b,∀a∈l,f b a=g b a)→l.foldl f b=l.foldl g b
 | [],_,_=>rfl
 |x::l,b,h=>by
  rw[aLK,aLK,h b x aJH];exact sE fun b a ha=>h b a (aJB _ ha)
theorem wU{F:List Nat}{n:Nat}:∀(k m l:Nat),m≤k→m≤l→ZC F n k m=ZC F n l m
 |0,m,l,h,_=>by
  obtain rfl:m=0:=by omega
  cases l<;>simp[ZC]
 |k+1,m,0,_,h=>by
  obtain rfl:m=0:=by omega
  simp[ZC]
 |k+1,m,l+1,h,h'=>by
  simp only[ZC];by_cases hm:m=0
  ·rw[aJT hm,aJT hm]
  ·rw[aJM hm,aJM hm];have hlt:=P3 (sO hm).1;have e0:=wU (F:=F) (n:=n) k (nY m (2^low m)) l Yd Yd;rw[e0];refine sE fun b a _=>?_
   unfold pR;split
   ·have:=vT (nY m (2^low m)) (2^a);rw[wU k (nY (nY m (2^low m)) (2^a)) l Yd Yd]
   ·rfl
theorem CO{F:List Nat}{n:Nat}:n6 F n 0=0:=rfl
theorem EH{F:List Nat}{n m:Nat}(h:m≠0):n6 F n m=(List.range n).foldl (pR F (nY m (2^low m)) (low m) (n6 F n)) (n6 F n (nY m (2^low m))):=by
 have hlt:=P3 (sO h).1;obtain⟨k,rfl⟩:∃k,m=k+1:=⟨m-1,by omega⟩
 show ZC F n (k+1) (k+1)=_;rw[ZC,aJM h];rw[wU k (nY (k+1) (2^low (k+1))) (nY (k+1) (2^low (k+1))) Yd (aJU _)];refine sE fun b a _=>?_
 unfold pR;split
 ·have:=vT (nY (k+1) (2^low (k+1))) (2^a);rw[wU k (nY (nY (k+1) (2^low (k+1))) (2^a)) _ Yd (aJU _)];rfl
 ·rfl
end Go.Fs.C7
namespace Go.Fs.C7
theorem KJ{F:List Nat}{rest a:Nat}{nu:Nat→Nat}:∀(l:List Nat) (m:Nat),l.foldl (pR F rest a nu) m=m∨∃b∈l,(rest&&&F.getD a 0).testBit b=true∧l.foldl (pR F rest a nu) m=1+nu (nY rest (2^b))
 | [],m=>aJQ rfl
 |x::l,m=>by
  rw[aLK];rcases KJ l (pR F rest a nu m x)with h|⟨b,hb,hbit,h⟩
  ·rw[h];unfold pR;split
   ·rename_i hx;by_cases hm:m≤1+nu (nY rest (2^x))
    ·exact aJE ⟨x,aJH,hx,by omega⟩
    ·exact aJQ Yd
   ·exact aJQ rfl
  ·exact aJE ⟨b,aJB _ hb,hbit,h⟩
theorem JK{m b:Nat}(h:m≠0):nY (nY m (2^low m)) (2^b)<m:=Nat.lt_of_le_of_lt (vT _ _) (P3 (sO h).1)

def vX:List Int→List Pt
 |a::b::c::l=>⟨a,b,c⟩::vX l
 |_=>[]
def gS(l:List Ch):List Int:=l.flatMap fun c=>c.parts.l
def kA(l:List Pt):List Int:=l.flatMap Pt.l
theorem oE(p:Pt)(l:List Pt):kA (p::l)=p.a::p.b::p.c::kA l:=rfl
theorem XP(l:List Pt):vX (kA l)=l:=by
 induction l with
 |nil=>rfl
 |cons p l ih=>rw[oE,vX,ih]
theorem kT(l:List Ch):(gS l).length=3*l.length:=by
 induction l with
 |nil=>rfl
 |cons c l ih=>unfold gS at ih ⊢;rw[aKR,aIX,ih,aJD];simp[Pt.l];omega
theorem o9(l:List Pt):(kA l).length=3*l.length:=by
 induction l with
 |nil=>rfl
 |cons c l ih=>rw[oE];simp only[aJD,ih];omega
theorem i6:∀(n:Nat) (l:List Int),l.length=3*n→kA (vX l)=l∧(vX l).length=n
 |0,l,h=>by
  obtain rfl:l=[]:=aMF.1 Yd;exact⟨rfl,rfl⟩
 |n+1,l,h=>by
  match l,h with
  |a::b::c::l,h=>
   obtain⟨h1,h2⟩:=i6 n l (by simp only[aJD]at h;omega);rw[vX,oE];exact⟨by rw[h1],by rw[aJD,h2]⟩
def j8(y:bI):List (List Pt):=(C1.cW (gS y.chairs)).map vX
theorem N6:∀{l t:List Int},t∈C1.cW l ↔ t.length=l.length∧∀x∈l.zip t,zB x.1 x.2=true∧True
 | [],t=>by simp[C1.cW]
 |p::l,t=>by
  have ih:=fun t=> @N6 l t
  cases t with
  |nil=>simp[C1.cW]
  |cons x t=>
   have:x::t∈C1.cW (p::l) ↔ ((p=2∨p=x)∧(x=0∨x=1))∧t∈C1.cW l:=by
    rw[show C1.cW (p::l)=(if p=2∨p=0 then(C1.cW l).map (0:: ·)else [])++(if p=2∨p=1 then(C1.cW l).map (1:: ·)else [])from rfl,aJO];constructor
    ·rintro(h|h)
     ·split at h
      ·rename_i hp;obtain⟨s,hs,he⟩:=aIY.1 h;obtain⟨rfl,rfl⟩:=List.cons.inj he;exact⟨⟨hp,aJQ rfl⟩,hs⟩
      ·cases h
     ·split at h
      ·rename_i hp;obtain⟨s,hs,he⟩:=aIY.1 h;obtain⟨rfl,rfl⟩:=List.cons.inj he;exact⟨⟨hp,aJE rfl⟩,hs⟩
      ·cases h
    ·rintro⟨⟨hp,rfl|rfl⟩,ht⟩
     ·exact aJQ (by rw[aJT hp];exact aIY.2 ⟨t,ht,rfl⟩)
     ·exact aJE (by rw[aJT hp];exact aIY.2 ⟨t,ht,rfl⟩)
   rw[this,ih];simp only[aJD,aOB,aIW,and_true,forall_eq_or_imp,Nat.add_right_cancel_iff];have:zB p x=true ↔ (p=2∨p=x)∧(x=0∨x=1):=by
    unfold zB;simp only[aJI,cG,aKS,aJV];constructor
    ·rintro⟨h1,h2⟩;exact⟨h2.imp id Eq.symm,by omega⟩
    ·rintro⟨h1,h2⟩;exact⟨by omega,h1.imp id Eq.symm⟩
   rw[this];constructor
   ·rintro⟨h1,h2,h3⟩;exact⟨h2,h1,h3⟩
   ·rintro⟨h2,h1,h3⟩;exact⟨h1,h2,h3⟩
theorem K7:∀{l:List Ch} {t:List Pt},t.length=l.length→(∀x∈(gS l).zip (kA t),zB x.1 x.2=true)=((l.zip t).all fun x=>IY x.1.parts x.2)
 | [],[],_=>by simp[gS,kA]
 |c::l,p::t,h=>by
  have ih:=K7 (l:=l) (t:=t) Yai;rw[aOB,List.all_cons,aJI,←ih];rw[oE,show gS (c::l)=c.parts.a::c.parts.b::c.parts.c::gS l from rfl];simp only[aOB,aIW,forall_eq_or_imp,IY,Pt.l,List.zip_nil_left,List.all_cons,List.all_nil,Bool.and_true,aJI,and_assoc]
theorem AU{y:bI}{t:List Pt}:t∈j8 y ↔ nI y t=true:=by
 unfold j8 nI;rw[aIY,aJI,aJV];constructor
 ·rintro⟨s,hs,rfl⟩;obtain⟨h1,h2⟩:=N6.1 hs;rw[kT]at h1;obtain⟨g1,g2⟩:=i6 _ _ h1;refine⟨g2,?_⟩;rw[←K7 g2,g1];exact fun x hx=>(h2 x hx).1
 ·rintro⟨h1,h2⟩;refine⟨kA t,N6.2 ⟨by rw[kT,o9,h1],fun x hx=>⟨?_,aOJ⟩⟩,XP t⟩;rw[←K7 h1]at h2;exact h2 x hx
end Go.Fs.C7
namespace Go.Fs
open Go.Proofs
namespace L7
open C7
def T1(n:Nat)(M:List (pG 8×Int)):Prop:=∀p∈M,∃(m:Nat) (F:List Nat),p.1.l=(m:Int)::F.map (fun x:Nat=>(x:Int))∧p.2=(n6 F n m:Int)
theorem yP:∀{F G:List Nat},F.map (fun x:Nat=>(x:Int))=G.map (fun x:Nat=>(x:Int))→F=G
 | [],[],_=>rfl
 |x::F,y::G,h=>by
  rw[aJY,aJY,aLN]at h;rw[yP h.2,show x=y by omega]
theorem aBA{n m:Nat}{a0 a1 a2 a3 a4 a5 a6:Nat}{M:List (pG 8×Int)}{v:Int}{h:[(m:Int),a0,a1,a2,a3,a4,a5,a6].length=8}(hok:T1 n M)(hm:(⟨[(m:Int),a0,a1,a2,a3,a4,a5,a6],h⟩,v)∈M):v=(n6 [a0,a1,a2,a3,a4,a5,a6] n m:Int):=by
 obtain⟨m',F,h1,h2⟩:=hok _ hm;simp only[aLN]at h1;obtain⟨h0,h1⟩:=h1;have:F=[a0,a1,a2,a3,a4,a5,a6]:=yP (by rw[←h1];rfl)
 rw[this,show m'=m by omega]at h2;exact h2
theorem aAA{n m:Nat}{a0 a1 a2 a3 a4 a5 a6:Nat}{M M':List (pG 8×Int)}{v:Int}{h:[(m:Int),a0,a1,a2,a3,a4,a5,a6].length=8}(hok:T1 n M)(hm:∀p∈M',p∈M∨p=(⟨[(m:Int),a0,a1,a2,a3,a4,a5,a6],h⟩,v))(hv:v=(n6 [a0,a1,a2,a3,a4,a5,a6] n m:Int)):T1 n M':=fun p hp=>by
 rcases hm p hp with h1|rfl
 ·exact hok p h1
 ·exact⟨m,[a0,a1,a2,a3,a4,a5,a6],rfl,hv⟩
theorem T1.nil{n:Nat}:T1 n []:=fun p hp=>by cases hp
theorem g7{m n:Nat}(h:∀x,m.testBit x=true→x<n)(hn:n≤7):m<128:=by
 have:m<2^n:=by
  apply Nat.lt_pow_two_of_testBit;intro i hi;cases e:m.testBit i with
  |false=>rfl
  |true=>have:=h i e;omega
 have h2:2^n≤2^7:=aMR Yd hn;omega
theorem P6{m n a:Nat}(h:∀x,m.testBit x=true→x<n):∀x,(nY m (2^a)).testBit x=true→x<n:=fun x hx=>h x (by rw[aGH]at hx;simp at hx;exact hx.1)
theorem u0{k:Nat}(h:k<7):2^k<128:=by
 have:2^k<2^7:=Nat.pow_lt_pow_right Yd h;omega
theorem aFD{F:List Nat}(h:∀f∈F,f<128)(a:Nat):F.getD a 0<128:=by
 rw[aKX];cases e:F[a]? with
 |none=>simp
 |some x=>exact h x (aJA e)
theorem TJ(a0 a1 a2 a3 a4 a5 a6:Nat){a:Nat}(h:a<7):([.int .i64 (a0:Int),.int .i64 (a1:Int),.int .i64 (a2:Int),.int .i64 (a3:Int),.int .i64 (a4:Int),.int .i64 (a5:Int),.int .i64 (a6:Int)]:List Value)[a*1]?= some (.int .i64 (([a0,a1,a2,a3,a4,a5,a6].getD a 0:Nat):Int)):=by
 have e:a=0∨a=1∨a=2∨a=3∨a=4∨a=5∨a=6:=by omega
 rcases e with rfl|rfl|rfl|rfl|rfl|rfl|rfl<;>rfl
theorem ED(F:List Nat)(n:Nat):∀m,n6 F n m≤m:=by
 intro m;induction m using Nat.strongRecOn with
 |_ m ih=>
  by_cases hm:m=0
  ·subst hm;rw[CO];exact aJU _
  ·have hlt:=P3 (sO hm).1;rcases KJ (F:=F) (rest:=nY m (2^low m)) (a:=low m) (nu:=n6 F n) (List.range n) (n6 F n (nY m (2^low m)))with h|⟨b,_,_,h⟩
   ·rw[EH hm,h];have:=ih _ hlt;omega
   ·rw[EH hm,h];have h2:=JK (b:=b) hm;have:=ih _ h2;omega
def QM(F:List Nat)(n m k:Nat):Nat:=(List.range k).foldl (pR F (nY m (2^low m)) (low m) (n6 F n)) (n6 F n (nY m (2^low m)))
theorem XV{F:List Nat}{n m:Nat}(h:m≠0):n6 F n m=QM F n m n:=EH h
theorem aCB{F:List Nat}{n m k:Nat}(h:(nY m (2^low m)&&&F.getD (low m) 0).testBit k=true):QM F n m (k+1)=max (QM F n m k) (1+n6 F n (nY (nY m (2^low m)) (2^k))):=by
 have e:QM F n m (k+1)=pR F (nY m (2^low m)) (low m) (n6 F n) (QM F n m k) k:=by unfold QM;rw[aLG,aLE,aLK,List.foldl_nil]
 rw[e];unfold pR;rw[aJT h]
theorem aES{F:List Nat}{n m k:Nat}(h:(nY m (2^low m)&&&F.getD (low m) 0).testBit k=false):QM F n m (k+1)=QM F n m k:=by
 have e:QM F n m (k+1)=pR F (nY m (2^low m)) (low m) (n6 F n) (QM F n m k) k:=by unfold QM;rw[aLG,aLE,aLK,List.foldl_nil]
 rw[e];unfold pR;rw[aJM (by rw[h];simp)]
theorem a8{wb mb t cl:Nat}{cs:List Value}{es:Array MapEntry}:∀p∈[(wb,Obj.cells cs.toArray t (0,0)),(mb,.map es cl)],cN p.2:=by
 intro p hp;simp only[aIW,GT,aLT]at hp;rcases hp with rfl|rfl
 ·rfl
 ·trivial
theorem SF:KA Tryz.prog 367 7:=⟨(Tryz.prog.fieldsOf 367)[0]!,(Tryz.prog.fieldsOf 367)[1]!,3,by kernel_rfl,by kernel_rfl,by kernel_rfl,by decide+kernel,by decide+kernel,by kernel_rfl,by kernel_rfl,by kernel_rfl,by kernel_rfl,by kernel_rfl,by kernel_rfl,by rw[show((Tryz.prog.fieldsOf 367)[1]!).type=317 by kernel_rfl];exact Tf.a317,by rw[show((Tryz.prog.fieldsOf 367)[1]!).type=317 by kernel_rfl];exact Tf.s317,Tf.s3⟩
theorem VR(wb mb:Nat)(cv qv:Value)(fit:Int)(chs:List Ch)(a0 a1 a2 a3 a4 a5 a6:Nat)(hn7:chs.length≤7)(hF:∀f∈[a0,a1,a2,a3,a4,a5,a6],f<128):
  ∀(L m:Nat),m=L→(∀x,m.testBit x=true→x<chs.length)→∀(es:Array MapEntry) (clock:Nat) (M:List (pG 8×Int)) (D:aA),Sl D rP 4 cv chs→qA A4 es M→T1 chs.length M→
  S3 Tryz.prog 245 [.pointer (some ⟨wb,0,none⟩),.agg #[.int .i64 (m:Int),.int .i64 (a0:Int),.int .i64 (a1:Int),.int .i64 (a2:Int),.int .i64 (a3:Int),.int .i64 (a4:Int),.int .i64 (a5:Int),.int .i64 (a6:Int)]] D [(wb,.cells [cv,.int .i64 fit,qv,.map (some mb)].toArray 311 (0,0)),(mb,.map es clock)] (fun _ v ν'=>v=.int .i64 (n6 [a0,a1,a2,a3,a4,a5,a6] chs.length m:Int)∧∃es' clock' M',ν'=[(wb,.cells [cv,.int .i64 fit,qv,.map (some mb)].toArray 311 (0,0)),(mb,.map es' clock')]∧qA A4 es' M'∧T1 chs.length M'):=by
 intro L;induction L using Nat.strongRecOn with
 |_ L ih=>
 intro m hL hbits es clock M D hS hM hok;subst hL;have hl1:=hS.len;have hmb:=g7 hbits hn7;refine gC 78 Tryz.func245 rfl rfl rfl rfl (fun h0 hwl hwn=>C.s1<|Zw rfl (fun q1 E1 hE1 hB1=>Zh rfl<|L.n4<|Zi rfl Tf.f367_0 rfl<|Zf 0 rfl Tf.a3 rfl hB1 rfl<|dJ rfl rfl rfl rfl trivial<|L.n1<|aE rfl (fun hc1=>?_) (fun hc1=>?_)))
 ·refine C.s1<|Zh rfl<|L.n5<|Zai ?_;exact Zz [] [] [_,_] [_] rfl ⟨rfl,aOJ⟩ rfl (fun D hD=>⟨by show Value.int _ _=_;rw[show m=0 by omega,CO];rfl,es,clock,M,rfl,hM,hok⟩)
 ·have hm0:m≠0:=by omega
  have hlow:=sO hm0;have hlown:=hbits _ hlow.1;have hlow7:low m<7:=by omega
  have hp2:=u0 hlow7;have hlt:=P3 hlow.1;have hrest:=vT m (2^low m);refine C.kn<|aM<|aM<|C.drawA [] 6 11 784 (fun _ _ _ h=>bT (P:=Tryz.prog) (fn:=Tryz.f245) _ _ _ h)<|Za rfl<|Zaf rfl<|Zi rfl Tf.f311_1 rfl<|Zl rfl Tf.a309 rfl (List.Mem.head _) rfl<|Zr rfl Tf.a367 rfl hB1 Tf.s367<|LY (val:=A4 (n:=8)) (a:=⟨[(m:Int),(a0:Int),(a1:Int),(a2:Int),(a3:Int),(a4:Int),(a5:Int),(a6:Int)],rfl⟩) rfl U309 SF.key Tf.z3 rfl rfl (LT _ (GE _)) GT hM rfl aOJ (fun nv ok hmem=>Za rfl<|Zaa rfl ?_);refine Zaa rfl<|Zh rfl<|Zh rfl<|L.n3<|Za rfl<|L.n1<|aJ rfl (fun hc2=>?_) (fun hc2=>?_)
  ·subst hc2;refine C.s1<|Za rfl<|Zh rfl<|L.n5<|Zai ?_;exact Zz [] [] [_,_] [_] rfl ⟨rfl,aOJ⟩ rfl (fun D hD=>⟨by show Value.int _ _=_;rw[aBA hok (hmem rfl)],es,clock,M,rfl,hM,hok⟩)
  ·refine C.kn<|C.s1<|Zi rfl Tf.f367_0 rfl<|Zf 0 rfl Tf.a3 rfl hB1 rfl<|Zd rfl (fun D1 hD1=>PN m (low m) _ hlow.1 Yd hlow.2)<|Zh rfl<|L.n2<|C.drawA [] 2 6 12 (fun _ _ _ h=>bT (P:=Tryz.prog) (fn:=Tryz.f245) _ _ _ h)<|Zi rfl Tf.f367_0 rfl<|Zf 0 rfl Tf.a3 rfl hB1 rfl<|Za rfl<|H9 rfl rfl rfl Yd rfl aOJ ?_;refine UJ rfl rfl rfl Yd Yd rfl trivial<|Zh rfl<|L.n3<|Za rfl<|Za rfl<|Zi rfl Tf.f367_1 rfl<|eV rfl (k:=1) (us:=[.int .i64 (a0:Int),.int .i64 (a1:Int),.int .i64 (a2:Int),.int .i64 (a3:Int),.int .i64 (a4:Int),.int .i64 (a5:Int),.int .i64 (a6:Int)]) Tf.a317 Tf.s317 rfl hB1 Yc rfl rfl GT rfl trivial<|gP (cs:=[.int .i64 ((nY m (2^low m):Nat):Int),.int .i64 (a0:Int),.int .i64 (a1:Int),.int .i64 (a2:Int),.int .i64 (a3:Int),.int .i64 (a4:Int),.int .i64 (a5:Int),.int .i64 (a6:Int)]) rfl Tf.p367 Tf.z367 rfl Yg rfl trivial<|eA (A:=[]) (ν:=[(_,_),(_,_)]) (B:=[]) rfl rfl rfl rfl (aJQ rfl) (a8 (cs:=[_,_,_,_])) (fun D5 hD5=>ih _ hlt _ rfl (P6 hbits) es clock M D5 (hS.up rP.up (hD5 _ Ye)) hM hok) rfl aOJ (fun v5 D6 _ hD6 hp5=>?_);obtain⟨rfl,es4,cl4,M4,rfl,hM4,hok4⟩:=hp5;refine Zh rfl<|L.n4<|Za rfl<|Zaf rfl<|Zi rfl Tf.f311_0 rfl<|Zi rfl Tf.f40_0 rfl<|Zl rfl Tf.a37 rfl (List.Mem.head _) rfl<|aR rfl U37 rfl hS rfl rfl trivial<|Za rfl<|L.n1<|Zaj<|cE (γ:=Nat×Array MapEntry×Nat×List (pG 8×Int)) (fun g=>chs.length-g.1) (fun g=>g.1≤chs.length∧qA A4 g.2.1 g.2.2.2∧T1 chs.length g.2.2.2) (fun g=>[(45,.int .i64 (g.1:Int)),(9,.int .i64 (QM [a0,a1,a2,a3,a4,a5,a6] chs.length m g.1:Int))]) [(44,_),(8,_),(7,_),(4,_),(3,_),(0,_)] (fun g=>[(wb,.cells [cv,.int .i64 fit,qv,.map (some mb)].toArray 311 (0,0)),(mb,.map g.2.1 g.2.2.1)]) (fun g=>[D6,E1,D]) (0,es4,cl4,M4) ⟨by simp,hM4,hok4⟩ ⟨Yb,Yb,aOJ⟩ C.rs (LE _) (aD) ?_;rintro⟨k,es1,cl1,M1⟩ ⟨h1,hM1,hok1⟩;simp only at h1 hM1 hok1;refine C.s1<|Zae rfl<|L.n2<|aE rfl (fun hc3=>?_) (fun hc3=>?_)
   ·have hk:k<chs.length:=by omega
    have hpk:=u0 (show k<7 by omega);have hrow:=aFD hF (low m);have hdl:=vT (nY m (2^low m)) (2^k);have hnl:=ED [a0,a1,a2,a3,a4,a5,a6] chs.length (nY (nY m (2^low m)) (2^k));have hand:=Nat.and_le_left (n:=nY m (2^low m)) (m:=[a0,a1,a2,a3,a4,a5,a6].getD (low m) 0);refine C.kn<|aM<|Zaj<|C.s1<|Za rfl<|Zh rfl<|L.n3<|Za rfl<|Za rfl<|Zi rfl Tf.f367_1 rfl<|dT rfl U317 Tf.s3 rfl rfl Yd Yd rfl trivial<|bC (o:=0+1) (k:=low m*1) rfl Tf.a3 rfl hB1.tail Ye (TJ a0 a1 a2 a3 a4 a5 a6 hlow7) GT rfl aOJ ?_;refine aFY rfl rfl rfl Yd Yd rfl trivial<|Za rfl<|O6 rfl rfl rfl Yd rfl trivial<|wM rfl rfl rfl (Int.natCast_nonneg _) Yd (by rw[kE];split<;>simp only[qR]<;>omega) rfl trivial<|dJ rfl rfl rfl rfl trivial<|L.n1<|aE rfl (fun hc4=>?_) (fun hc4=>?_)
    ·have hbit:(nY m (2^low m)&&& [a0,a1,a2,a3,a4,a5,a6].getD (low m) 0).testBit k=true:=by rw[kE]at hc4;simpa using hc4
     refine iS hB1 Ye (fun hq1=>?_);have hq1:q1∉[wb,mb]:=hq1;refine iW [wb,mb] 6 [0,1,2,3,4,5,6,7,8,9,10,11,12] [false,true,true,true,true,true,true,true,true,true,true,false,false] [(false,0),(true,1),(true,2),(true,3),(true,4),(true,5),(true,6),(true,7),(true,8),(true,9),(true,10),(false,11),(false,12)] Tf.follows (fun _ _ _ h=>bT (P:=Tryz.prog) (fn:=Tryz.f245) _ _ _ h) Yg rfl<|Za rfl<|Za rfl<|Za rfl<|Za rfl<|H9 rfl rfl rfl Yd rfl trivial<|UJ rfl rfl rfl Yd Yl rfl trivial<|Zi rfl Tf.f367_1 rfl<|eV rfl (k:=1) (us:=[.int .i64 (a0:Int),.int .i64 (a1:Int),.int .i64 (a2:Int),.int .i64 (a3:Int),.int .i64 (a4:Int),.int .i64 (a5:Int),.int .i64 (a6:Int)]) Tf.a317 Tf.s317 rfl hB1 Yc rfl rfl Yj rfl trivial<|gP (cs:=[.int .i64 ((nY (nY m (2^low m)) (2^k):Nat):Int),.int .i64 (a0:Int),.int .i64 (a1:Int),.int .i64 (a2:Int),.int .i64 (a3:Int),.int .i64 (a4:Int),.int .i64 (a5:Int),.int .i64 (a6:Int)]) rfl Tf.p367 Tf.z367 rfl Yg rfl trivial<|eA (A:=[]) (ν:=[(_,_),(_,_)]) (B:=[]) rfl rfl rfl rfl (aJE (fun p hp=>aIY.2 ⟨p,hp,rfl⟩)) (a8 (cs:=[_,_,_,_])) (fun D7 hD7=>ih _ (JK hm0) _ rfl (P6 (P6 hbits)) es1 cl1 M1 D7 (hS.up rP.up (hD7 _ Ye)) hM1 hok1) rfl aOJ (fun v7 D8 _ hD8 hp7=>?_);obtain⟨rfl,es5,cl5,M5,rfl,hM5,hok5⟩:=hp7;refine Zy rfl<|oZ rfl rfl rfl rfl trivial<|Zh rfl<|Zab<|Zal<|Zah<|C.rg<|Zy rfl<|Za rfl<|Zab ?_;exact aG 30 (k+1,es5,cl5,M5) ⟨by simp only;omega,hM5,hok5⟩ Yl ⟨Yb,(by rw[aCB hbit];show some (Value.int _ _)=some (Value.int _ _);congr 2;simp only;omega),aOJ⟩ rfl rfl (LE _) (fun D h=>⟨D,LT _ (h),Le.refl D⟩)
    ·have hbit:(nY m (2^low m)&&& [a0,a1,a2,a3,a4,a5,a6].getD (low m) 0).testBit k=false:=by rw[kE]at hc4;simpa using hc4
     refine bQ<|Zal<|Zah<|C.rg<|Zy rfl<|Za rfl<|Zab ?_;exact aG 17 (k+1,es1,cl1,M1) ⟨by simp only;omega,hM1,hok1⟩ Yl ⟨Yb,(by rw[aES hbit];rfl),aOJ⟩ rfl rfl (LE _) (aD)
   ·obtain rfl:k=chs.length:=by omega
    refine aQ<|Zak<|Zak<|Zan<|Zah<|aM<|C.drawA [] 3 7 48 (fun _ _ _ h=>bT (P:=Tryz.prog) (fn:=Tryz.f245) _ _ _ h)<|Za rfl<|Zaf rfl<|Zi rfl Tf.f311_1 rfl<|Zl rfl Tf.a309 rfl (List.Mem.head _) rfl<|Zr rfl Tf.a367 rfl hB1 Tf.s367 ?_;refine Za rfl<|NL (val:=A4 (n:=8)) (A:=[(_,_)]) (B:=[]) (a:=⟨[(m:Int),(a0:Int),(a1:Int),(a2:Int),(a3:Int),(a4:Int),(a5:Int),(a6:Int)],rfl⟩) rfl U309 SF.key rfl rfl rfl hM1 aOJ (fun es3 cl3 M3 hM3 hm3=>L.n3<|Za rfl<|Zh rfl<|L.n5 ?_);exact Zz [] [] [_,_] [_] rfl ⟨rfl,aOJ⟩ rfl (fun D hD=>⟨by show Value.int _ _=_;rw[XV hm0],es3,cl3,M3,rfl,hM3,aAA hok1 hm3 (by rw[XV hm0])⟩)
end L7
end Go.Fs
namespace Go.Fs
open Go.Proofs
namespace L7
open C7
structure DJ(n:Nat)(s:Sc):Prop where
 len:s.fits.length=7
 row:∀f∈s.fits,f<128
 bits:∀x,s.broken.testBit x=true→x<n
 whole:s.whole≤7
def oR(n:Nat)(s:Sc):Nat:=s.whole+n6 s.fits n s.broken
theorem aDJ{α:Type}{l:List α}(h:l.length=7):∃a b c d e f g,l=[a,b,c,d,e,f,g]:=by
 match l,h with
 | [a,b,c,d,e,f,g],_=>exact⟨a,b,c,d,e,f,g,rfl⟩
theorem Z2{y:bI}{t:List Pt}(hl:t.length=y.chairs.length)(h7:t.length≤7):DJ y.chairs.length (dG y t):=by
 refine⟨by simp[dG],fun f hf=>?_,fun x hx=>?_,?_⟩
 ·obtain⟨j,_,rfl⟩:=aIY.1 hf;have h1:=x5 (mS y t j) t.length;have h2:2^t.length≤2^7:=aMR Yd h7;omega
 ·simp only[dG]at hx;rw[qO]at hx;simp at hx;omega
 ·have:whole t≤t.length:=aLZ _ _;simp only[dG];omega
def FI(l:List (Int×Int)):List Value:=l.flatMap fun p=>[.int .i64 p.1,.int .i64 p.2]
theorem BY(l:List (Int×Int))(p:Int×Int):FI (l++[p])=FI l++[.int .i64 p.1,.int .i64 p.2]:=by simp[FI]
theorem vU(l:List (Int×Int)):(FI l).length=l.length*2:=by
 induction l with
 |nil=>rfl
 |cons c l ih=>unfold FI at ih ⊢;rw[aKR,aIX,ih];simp only[aJD,aKZ];omega
theorem aCX{l:List (Int×Int)}{i:Nat}{c:Int×Int}(hi:l[i]?= some c):((FI l).drop (i*2)).take 2=[.int .i64 c.1,.int .i64 c.2]:=by
  induction l generalizing i with
  |nil=>simp at hi
  |cons d l ih=>
    unfold FI at ih ⊢
    rw[aKR];cases i with
    | zero => obtain rfl : d = c := by simpa using hi
              rfl
    |succ i=>
      rw[aMY,aKK Yaf,aKF];have:(i+1)*2- [Value.int .i64 d.1,Value.int .i64 d.2].length=i*2:=by simp;omega
      rw[this];exact ih Yaj
theorem _root_.Go.Fs.jN.prs{D:aA}{v:Value}{n:Nat}{l:List (Int×Int)}(hF:jN D v n (FI l))(hn:l.length=n)(hb:n≤9223372036854775807):Sl D R2 2 v l:=
 hF.sl hn hb fun _i _t hi=>⟨_,rfl,rfl,aCX hi⟩
theorem SH(wb mb:Nat)(cv qv:Value)(fit:Int)(chs:List Ch)(w b:Nat)(a0 a1 a2 a3 a4 a5 a6:Nat)(hn7:chs.length≤7)(hF:∀f∈[a0,a1,a2,a3,a4,a5,a6],f<128)(hw:w≤7)(hbits:∀x,b.testBit x=true→x<chs.length)(es:Array MapEntry)(clock:Nat)(M:List (pG 8×Int))(D:aA)(hS:Sl D rP 4 cv chs)(hM:qA A4 es M)(hok:T1 chs.length M):
  S3 Tryz.prog 163 [.pointer (some ⟨wb,0,none⟩),.agg #[.int .i64 (w:Int),.int .i64 ((b:Nat):Int),.int .i64 (a0:Int),.int .i64 (a1:Int),.int .i64 (a2:Int),.int .i64 (a3:Int),.int .i64 (a4:Int),.int .i64 (a5:Int),.int .i64 (a6:Int)]] D [(wb,.cells [cv,.int .i64 fit,qv,.map (some mb)].toArray 311 (0,0)),(mb,.map es clock)] (fun _ v ν'=>v=.int .i64 ((w+n6 [a0,a1,a2,a3,a4,a5,a6] chs.length b:Nat):Int)∧∃es' clock' M',ν'=[(wb,.cells [cv,.int .i64 fit,qv,.map (some mb)].toArray 311 (0,0)),(mb,.map es' clock')]∧qA A4 es' M'∧T1 chs.length M'):=by
 have hbl:=g7 hbits hn7;have hnl:=ED [a0,a1,a2,a3,a4,a5,a6] chs.length b;refine gC 15 Tryz.func163 rfl rfl rfl rfl (fun h0 hwl hwn=>C.s1<|Zw rfl (fun q1 E1 hE1 hB1=>Zh rfl<|L.n2<|iS hB1 Ye (fun hq1=>?_)));have hq1:q1∉[wb,mb]:=hq1;refine iW [wb,mb] 4 [0,1,2,3,4,5,6,7,8,9,10] [false,false,true,true,true,true,true,true,true,false,false] [(false,0),(false,1),(true,2),(true,3),(true,4),(true,5),(true,6),(true,7),(true,8),(false,9),(false,10)] Tf.follows (fun _ _ _ h=>bT (P:=Tryz.prog) (fn:=Tryz.f163) _ _ _ h) Yg rfl<|Zi rfl Tf.f319_0 rfl<|bC rfl (k:=0) Tf.a3 rfl hB1 Yc rfl Yj rfl trivial<|Za rfl<|Zi rfl Tf.f319_1 rfl<|bC rfl (k:=1) Tf.a3 rfl hB1 Yc rfl Yj rfl trivial<|Zi rfl Tf.f319_2 rfl<|eV rfl (k:=2) (us:=[.int .i64 (a0:Int),.int .i64 (a1:Int),.int .i64 (a2:Int),.int .i64 (a3:Int),.int .i64 (a4:Int),.int .i64 (a5:Int),.int .i64 (a6:Int)]) Tf.a317 Tf.s317 rfl hB1 Yc rfl rfl Yj rfl trivial<|gP (cs:=[.int .i64 ((b:Nat):Int),.int .i64 (a0:Int),.int .i64 (a1:Int),.int .i64 (a2:Int),.int .i64 (a3:Int),.int .i64 (a4:Int),.int .i64 (a5:Int),.int .i64 (a6:Int)]) rfl Tf.p367 Tf.z367 rfl Yg rfl trivial<|eA (A:=[]) (ν:=[(_,_),(_,_)]) (B:=[]) rfl rfl rfl rfl (by first|exact Or.inl rfl|exact Or.inr (fun p hp=>aIY.2 ⟨p,hp,rfl⟩)) (a8 (cs:=[_,_,_,_])) (fun D5 hD5=>VR wb mb cv qv fit chs a0 a1 a2 a3 a4 a5 a6 hn7 hF _ b rfl hbits es clock M D5 (hS.up rP.up (hD5 _ Ye)) hM hok) rfl aOJ (fun v5 D6 _ hD6 hp5=>?_);obtain⟨rfl,es1,cl1,M1,rfl,hM1,hok1⟩:=hp5;refine Zy rfl<|Zh rfl<|L.n5 ?_;exact Zz [] [] [_,_] [_] rfl ⟨rfl,aOJ⟩ rfl (fun D hD=>⟨by show Value.int _ _=_;congr 1,es1,cl1,M1,rfl,hM1,hok1⟩)
theorem aAK(wb mb:Nat)(cv qv:Value)(fit:Int)(chs:List Ch)(s:Sc)(hn7:chs.length≤7)(hs:DJ chs.length s)(es:Array MapEntry)(clock:Nat)(M:List (pG 8×Int))(D:aA)(hS:Sl D rP 4 cv chs)(hM:qA A4 es M)(hok:T1 chs.length M):
  S3 Tryz.prog 163 [.pointer (some ⟨wb,0,none⟩),FQ s] D [(wb,.cells [cv,.int .i64 fit,qv,.map (some mb)].toArray 311 (0,0)),(mb,.map es clock)] (fun _ v ν'=>v=.int .i64 (oR chs.length s:Int)∧∃es' clock' M',ν'=[(wb,.cells [cv,.int .i64 fit,qv,.map (some mb)].toArray 311 (0,0)),(mb,.map es' clock')]∧qA A4 es' M'∧T1 chs.length M'):=by
 obtain⟨w,b,F⟩:=s;obtain⟨a0,a1,a2,a3,a4,a5,a6,rfl⟩:=aDJ hs.len;exact SH wb mb cv qv fit chs w b a0 a1 a2 a3 a4 a5 a6 hn7 hs.row hs.whole hs.bits es clock M D hS hM hok
end L7
end Go.Fs
namespace Go.Fs
open Go.Proofs
namespace L7
open C7
structure aIE(y:bI):Prop where
 len:y.chairs.length≤7
 cls:y.claims.length≤5
 fit:0≤y.fit∧y.fit≤9
 size:∀c∈y.chairs,0≤c.size∧c.size≤9
 part:∀c∈y.chairs,∀n∈c.parts.l,0≤n∧n≤2
 claim:∀r∈y.claims,0≤r.1∧r.1≤r.2∧r.2≤7
 unk:iR y.chairs≤8
theorem aIU{y:bI}(h:aT y=0):aIE y:=by
 unfold aT at h;split at h
 ·omega
 ·rename_i h1;split at h
  ·omega
  ·rename_i h2;split at h
   ·omega
   ·rename_i h3;have h4:wF y=true:=by simpa using h2
    simp only[wF,aJI,aJW,cG]at h4;obtain⟨⟨h5,h6⟩,h7⟩:=h4;refine⟨by omega,by omega,h5,fun c hc=>?_,fun c hc n hn=>?_,fun r hr=>?_,by omega⟩
    ·have:=h6 c hc;simp only[iG,aJI,cG]at this;exact this.1
    ·have:=h6 c hc;simp only[iG,aJI,KT,aJW]at this
     exact cG.1 (this.2 n hn)
    ·have:=h7 r hr;simp only[kW,aJI,aJV]at this;exact⟨this.1.1,this.1.2,this.2⟩
theorem ZZ{y:bI}{t:List Pt}(h:nI y t=true):t.length=y.chairs.length∧∀p∈t,W6 p:=by
 unfold nI at h;simp only[aJI,aJV,aJW]at h;refine⟨h.1,fun p hp=>?_⟩;obtain⟨i,hi⟩:=aMV.1 hp;obtain⟨hlt,_⟩:=aJK.1 hi;have hc:y.chairs[i]?= some (y.chairs[i]'Yd):=aJC _;have:=h.2 (y.chairs[i]'Yd,p) (aJA (i:=i) (by rw[List.getElem?_zip_eq_some];exact⟨hc,hi⟩))
 simp only[IY,Pt.l,aOB,List.zip_nil_left,List.all_cons,List.all_nil,Bool.and_true,aJI,zB,cG]at this;exact⟨this.1.1,this.2.1.1,this.2.2.1⟩
def rK(cl:List (Int×Int))(out:List Int)(n:Int)(i:Nat):Bool:=(out.any fun x=>decide ((i:Int)=x))||(match cl[i]? with|some r=>fR n r.1 r.2|none=>true)
def mR(cl:List (Int×Int))(out:List Int)(n:Int):Bool:=(List.range cl.length).all (rK cl out n)
theorem NH{cl:List (Int×Int)}{out:List Int}{n:Int}{i:Nat}{r:Int×Int}(hr:cl[i]?= some r)(h:((!out.any fun x=>decide ((i:Int)=x))&& !fR n r.1 r.2)=false):rK cl out n i=true:=by
 unfold rK;rw[hr];revert h
 cases out.any fun x=>decide ((i:Int)=x)<;>simp
theorem J7{cl:List (Int×Int)}{out:List Int}{n:Int}{i:Nat}{r:Int×Int}(hi:i<cl.length)(hr:cl[i]?= some r)(h:((!out.any fun x=>decide ((i:Int)=x))&& !fR n r.1 r.2)=true):mR cl out n=false:=by
 unfold mR;rw[List.all_eq_false];refine⟨i,aMJ.2 hi,?_⟩;unfold rK;rw[hr];revert h
 cases out.any fun x=>decide ((i:Int)=x)<;>simp
theorem zE{cl:List (Int×Int)}{out:List Int}{n:Int}(h:∀j,j<cl.length→rK cl out n j=true):mR cl out n=true:=by
 unfold mR;rw[aJW];exact fun j hj=>h j (aMJ.1 hj)
def J9(y:bI)(t:List Pt):Nat:=oR y.chairs.length (dG y t)
theorem C5(yv:Value)(y:bI)(cv qv:Value)(D:aA)(hy:yv=.agg #[cv,.int .i64 y.fit,qv]):CN Tryz.prog 97 #[yv] D (fun _ v ν=>∃wb mb,v=.pointer (some ⟨wb,0,none⟩)∧ν=[(wb,.cells [cv,.int .i64 y.fit,qv,.map (some mb)].toArray 311 (0,0)),(mb,.map #[] 0)]):=by
 subst hy;refine mT 7 Tryz.func97 rfl rfl rfl rfl fun h0=>C.s1<|Zw rfl (fun q1 E1 hE1 hB1=>Zh rfl<|L.n3<|Zr rfl Tf.a40 rfl hB1 Tf.s40<|pN rfl rfl aOJ (fun qm=>Zq [cv,.int .i64 y.fit,qv,.map (some qm)] rfl Tf.p311 Tf.z311 rfl rfl<|Y7 rfl (e:=311) rfl rfl rfl aOJ (fun q2=>Zh rfl<|L.n5 ?_)))
 exact leave1 rfl rfl rfl rfl (fun D hD=>⟨_,_,rfl,rfl⟩)
theorem VF(sv:Value)(xs:List Int)(n:Int)(D:aA)(hS:Sl D RI 1 sv xs):Fn Tryz.prog 230 #[sv,.int .i64 n] D (fun _ v=>v=.int .i64 (idxOf (fun x=>decide (n=x)) xs)):=by
 have hl:=hS.len;refine enter 19 Tryz.func230 rfl rfl rfl rfl fun h0=>C.s1<|Zh rfl<|L.n4<|Za rfl<|aR rfl U25 rfl Yk rfl rfl trivial<|Za rfl<|L.n1<|Zaj<|cJ (γ:=Nat) (fun k=>xs.length-k) (fun k=>k≤xs.length∧(xs.take k).any (fun x=>decide (n=x))=false) (fun k=>[(8,.int .i64 k)]) [(7,_),(4,_),(0,_),(1,_)] (fun k=>[D]) 0 Ye ⟨Yb,aOJ⟩ C.rs (aD) ?_
 rintro k ⟨h1,h2⟩;refine C.s1<|Zae rfl<|L.n2<|aE rfl (fun hc1=>?_) (fun hc1=>?_)
 ·have hk:k<xs.length:=by omega
  obtain⟨x,hx⟩:=C.ge xs k;refine C.kn<|aM<|Zaj<|C.s1<|Za rfl<|Zh rfl<|L.n3<|Za rfl<|Za rfl<|Za rfl<|cU rfl U25 Tf.s3 rfl Yk rfl Yd Yk rfl aOJ (fun b1 o1 cs1 hr1 hcl1 hA1=>?_);obtain rfl:cs1=[.int .i64 _]:=hr1;refine Zf 0 rfl Tf.a3 rfl hA1 rfl<|dJ rfl rfl rfl rfl trivial<|L.n1<|aE rfl (fun hc2=>?_) (fun hc2=>?_)
  ·refine C.s1<|Za rfl<|Zh rfl<|L.n5<|Zam<|Zai<|Zai<|Zam<|Zai ?_;exact leave1 rfl rfl rfl rfl (fun D hD=>by show Value.int _ _=_;rw[hU hx h2 (by simp[hc2])])
  ·refine bQ<|Zal<|Zah<|C.rg<|Zy rfl<|Za rfl<|Zab ?_;have h3:(xs.take (k+1)).any (fun x=>decide (n=x))=false:=by rw[aJP,hx,aMT,h2];simp[hc2]
   exact aG 12 (k+1) ⟨by omega,h3⟩ Yd ⟨Yb,aOJ⟩ rfl rfl (LE _) (aD)
 ·refine aQ<|Zak<|Zak<|Zan<|Zah<|C.s1<|Zh rfl<|L.n5 ?_;exact leave1 rfl rfl rfl rfl (fun D hD=>by show Value.int _ _=_;rw[eW Yab])
theorem sR(sv:Value)(xs:List Int)(n:Int)(D:aA)(hS:Sl D RI 1 sv xs):Fn Tryz.prog 151 #[sv,.int .i64 n] D (fun _ v=>v=.bool (xs.any fun x=>decide (n=x))):=by
 refine enter 9 Tryz.func151 rfl rfl rfl rfl fun h0=>C.s1<|Zh rfl<|L.n3<|Za rfl<|Za rfl<|Zd rfl (fun D1 hD1=>VF _ xs n _ (Sl.at RI.up hD1 Yk Ye))<|nS rfl rfl rfl rfl trivial<|Zh rfl<|L.n5 ?_
 exact leave1 rfl rfl rfl rfl (fun D hD=>by show Value.bool (decide _)=_;rw[hC])
theorem J4(yv:Value)(y:bI)(n:Int)(ov:Value)(out:List Int)(D:aA)(hy:lO D yv y)(ho:Sl D RI 1 ov out):Fn Tryz.prog 164 #[yv,.int .i64 n,ov] D (fun _ v=>v=.bool (mR y.claims out n)):=by
 obtain⟨cv,qv,rfl,hc,hq⟩:=hy;have hl:=hq.len;refine enter 28 Tryz.func164 rfl rfl rfl rfl fun h0=>C.s1<|Zw rfl (fun q1 E1 hE1 hB1=>Zh rfl<|L.n4<|Zi rfl Tf.f40_2 rfl<|Zf 2 rfl Tf.a38 rfl hB1 rfl<|aR rfl U38 rfl hq rfl rfl trivial<|Za rfl<|L.n1<|Zaj<|cJ (γ:=Nat) (fun i=>y.claims.length-i) (fun i=>i≤y.claims.length∧∀j,j<i→rK y.claims out n j=true) (fun i=>[(12,.int .i64 (i:Int))]) [(11,_),(10,_),(6,_),(1,_),(2,_)] (fun i=>[E1,D]) 0 Ye ⟨Yb,aOJ⟩ C.rs (aD) ?_)
 rintro i ⟨h1,h2⟩;refine C.s1<|Zae rfl<|L.n2<|aE rfl (fun hc1=>?_) (fun hc1=>?_)
 ·have hi:i<y.claims.length:=by omega
  obtain⟨r,hr0⟩:=C.ge y.claims i;refine C.kn<|aM<|Zaj<|C.s1<|Za rfl<|Zs rfl U38 Tf.s133 rfl hq rfl hr0 (fun b1 o1 cs1 hr1 hcl1 hA1=>?_);obtain rfl:cs1=[.int .i64 _,.int .i64 _]:=hr1;refine Zr rfl Tf.a133 rfl hA1 Tf.s133<|Zx rfl Tf.z133 rfl (fun q2=>Zh rfl<|Zv rfl Tf.s133 (bM.head)<|L.n3<|Za rfl<|Za rfl<|Zd rfl (fun D1 hD1=>sR _ out (i:Int) _ (Sl.at RI.up hD1 Yk Ye))<|Zag rfl<|Za rfl ?_);refine' L.anK 5 (s:=21) (p:=26) rfl (fun hg1=>?_) (fun hg1=>?_) ?_;rotate_left
  ·refine bJ rfl Tf.a133 rfl (GE _) Tf.s133 GT rfl ⟨_,rfl,rfl⟩<|Zb rfl<|Ze rfl (fun D2 hD2=>I6 r n _)<|jU rfl rfl rfl ⟨_,rfl,rfl⟩<|Zac rfl ?_;exact L.cu 4
  ·refine Zk rfl<|Zk rfl<|Zk rfl<|Zk rfl<|Zad rfl ?_;exact L.cu 4
  refine L.n1<|aJ rfl (fun hc2=>?_) (fun hc2=>?_)
  ·refine C.s1<|Zh rfl<|L.n5<|Zam<|Zai<|Zai<|Zam<|Zai ?_;exact leave1 rfl rfl rfl rfl (fun D hD=>by show Value.bool _=_;rw[J7 hi hr0 hc2])
  ·refine bQ<|Zal<|Zah<|C.rg<|Zy rfl<|Za rfl<|Zab ?_;exact aG 15 (i+1) ⟨by omega,fun j hj=>by rcases Nat.lt_succ_iff_lt_or_eq.1 hj with h|rfl;exact h2 j h;exact NH hr0 hc2⟩ Yd ⟨Yb,aOJ⟩ rfl rfl (List.Sublist.cons _ (LE _)) (aD)
 ·obtain rfl:i=y.claims.length:=by omega
  refine aQ<|Zak<|Zak<|Zan<|Zah<|C.s1<|Zh rfl<|L.n5 ?_;exact leave1 rfl rfl rfl rfl (fun D hD=>by show Value.bool _=_;rw[zE h2])
end L7
end Go.Fs
namespace Go.Fs
open Go.Proofs
namespace L2
open L1
open C2
open C1 (fR cG pB nQ)
theorem f5{c:List Int}{a b:Int}(h10:c.length=10)(h0:0≤a)(h1:a≤b)(h9:b≤9):∃x xs,(c.drop a.toNat).take ((b+1).toNat-a.toNat)=x::xs∧xs.foldl max x=jH c a b:=by
 have hlen:((c.drop a.toNat).take ((b+1).toNat-a.toNat)).length=(b+1).toNat-a.toNat:=by simp;omega
 cases h:(c.drop a.toNat).take ((b+1).toNat-a.toNat)with
 |nil=>rw[h]at hlen;simp at hlen;omega
 |cons x xs=>
  refine⟨x,xs,rfl,?_⟩;unfold jH;rw[show(b+1-a).toNat=(b+1).toNat-a.toNat by omega,h];rfl
def O0(s:List Int)(m:Mk):Bool:=fR (jH s m.frm m.to) m.lo m.hi
theorem HP{last:Int}{m:Mk}(h:pO last m=true):0≤m.frm∧m.frm≤m.to∧m.to≤last∧0≤m.lo∧m.lo≤m.hi∧m.hi≤99:=by
 unfold pO nU W0 gH eH at h;simp only[aJI,aJV,cG]at h;omega
theorem EG{t:aZ}{c:List Int}{k:Nat}{m:Mk}(hx:t.marks[k]?= some m)(h2:(t.marks.take k).all (O0 c)=true)(h:((!([]:List Int).any fun x=>decide ((k:Int)=x))&& !fR (jH c m.frm m.to) (m.lo,m.hi).1 (m.lo,m.hi).2)=false):(t.marks.take (k+1)).all (O0 c)=true:=by
 rw[aJP,hx,List.all_append,h2];simpa [O0]using h
theorem J7{t:aZ}{c:List Int}{k:Nat}{m:Mk}(hx:t.marks[k]?= some m)(h:((!([]:List Int).any fun x=>decide ((k:Int)=x))&& !fR (jH c m.frm m.to) (m.lo,m.hi).1 (m.lo,m.hi).2)=true):lI t c=false:=by
 unfold lI;rw[List.all_eq_false];exact⟨m,aJA hx,by simpa using h⟩
theorem zE{t:aZ}{c:List Int}{k:Nat}(h2:(t.marks.take k).all (O0 c)=true)(hk:t.marks.length≤k):lI t c=true:=by
 rw[aKC hk]at h2;exact h2
theorem LB(l:List (Int×Int))(r:Int×Int):mF (l++[r])=min (mF l*eX r) 2001:=by
 unfold mF;rw[aLE];rfl
theorem Y9{t:aZ}{k:Nat}{r:Int×Int}(hx:t.heights[k]?= some r):mF (t.heights.take (k+1))=min (mF (t.heights.take k)*eX r) 2001:=by
 rw[aJP,hx];exact LB _ _
theorem HN{t:aZ}(h:x9 t)(k:Nat):0≤mF (t.heights.take k)∧mF (t.heights.take k)≤2001:=by
 induction k with
 |zero=>simp[mF]
 |succ k ih=>
  cases hx:t.heights[k]? with
  |none=>rw[aJP,hx,Option.toList_none,aJF];exact ih
  |some r=>
   rw[Y9 hx];have h1:=nA (h.hts r (aJA hx));have h2:0≤eX r:=by unfold eX;omega
   have h3:=Int.mul_nonneg ih.1 h2;omega
theorem YK{t:aZ}(h:x9 t)(k:Nat){r:Int×Int}(hr:gH r=true):0≤mF (t.heights.take k)*eX r∧mF (t.heights.take k)*eX r≤200100:=by
 have h0:=HN h k;have h1:=nA hr;have h2:0≤eX r∧eX r≤100:=by unfold eX;omega
 have h3:=Int.mul_nonneg h0.1 h2.1;have h4:=Int.mul_le_mul h0.2 h2.2 h2.1 Yd;omega
theorem zO{t:aZ}{b:Bool}(h:((decide ((9:Int)<t.last)||decide ((6:Int)<(t.levels.length:Int)))||decide ((5:Int)<(t.marks.length:Int)))=b):aBP t=b:=h
theorem TQ{t:aZ}(h:((decide ((9:Int)<t.last)||decide ((6:Int)<(t.levels.length:Int)))||decide ((5:Int)<(t.marks.length:Int)))=false):t.last≤9:=by
 simp only[aMK,aLY]at h;omega
theorem DA{t:aZ}{b:Bool}(h:(((((decide (t.last<0)||decide ((t.heights.length:Int)≠t.last+1))|| !t.heights.all gH)|| !eH t.step)|| !t.levels.all eH)|| !t.marks.all (pO t.last))=b):aGT t= !b:=by
 subst h;unfold aGT;have e1:decide (t.last<0)= !decide (0≤t.last):=by by_cases h:t.last<0<;>simp[h]<;>omega
 have e2:decide ((t.heights.length:Int)≠t.last+1)= !decide ((t.heights.length:Int)=t.last+1):=by simp
 rw[e1,e2];cases decide (0≤t.last)<;>cases decide ((t.heights.length:Int)=t.last+1)<;>cases t.heights.all gH<;>cases eH t.step<;>cases t.levels.all eH<;>cases t.marks.all (pO t.last)<;>rfl
section
variable{t:aZ}(h1:((decide ((9:Int)<t.last)||decide ((6:Int)<(t.levels.length:Int)))||decide ((5:Int)<(t.marks.length:Int)))=false)
theorem LG(h1:((decide ((9:Int)<t.last)||decide ((6:Int)<(t.levels.length:Int)))||decide ((5:Int)<(t.marks.length:Int)))=true):aT t=3:=by unfold aT;rw[aJT (zO h1)]
include h1
theorem aIP(h2:(((((decide (t.last<0)||decide ((t.heights.length:Int)≠t.last+1))|| !t.heights.all gH)|| !eH t.step)|| !t.levels.all eH)|| !t.marks.all (pO t.last))=false):x9 t:=aIV (zO h1) (DA h2)
theorem yR(h2:(((((decide (t.last<0)||decide ((t.heights.length:Int)≠t.last+1))|| !t.heights.all gH)|| !eH t.step)|| !t.levels.all eH)|| !t.marks.all (pO t.last))=true):aT t=1:=by
 unfold aT;rw[aJM (by simp[zO h1]),aJT (show aGT t=false from DA h2)]
variable(h2:(((((decide (t.last<0)||decide ((t.heights.length:Int)≠t.last+1))|| !t.heights.all gH)|| !eH t.step)|| !t.levels.all eH)|| !t.marks.all (pO t.last))=false)
include h2
theorem HT(h4:2000<mF t.heights):aT t=3:=by
 unfold aT;rw[aJM (by simp[zO h1]),aJM (by simp[DA h2]),aJT h4]
theorem GS(h4:¬2000<mF t.heights)(hn:fG t=[]):aT t=9:=by
 unfold aT;rw[aJM (by simp[zO h1]),aJM (by simp[DA h2]),aJM h4,aJT hn]
theorem oB(h4:¬2000<mF t.heights)(hn:fG t≠[]):aT t=0:=by
 unfold aT;rw[aJM (by simp[zO h1]),aJM (by simp[DA h2]),aJM h4,aJM hn]
end
theorem I8(c:List Int)(a b:Int)(D:aA)(h10:c.length=10)(h0:0≤a)(h1:a≤b)(h9:b≤9):Fn Tryz.prog 144 #[.agg (ints c).toArray,.int .i64 a,.int .i64 b] D (fun _ v=>v=.int .i64 (jH c a b)):=by
 obtain⟨x,xs,hx,hv⟩:=f5 h10 h0 h1 h9;refine enter 12 Tryz.func144 rfl rfl rfl rfl fun h0=>C.s1<|Zw rfl (fun q1 E1 hE1 hB1=>Zh rfl<|L.n3<|Za rfl<|Za rfl<|Zy rfl<|LW (l:=a.toNat) (h:=(b+1).toNat) rfl U282 Tf.s3 rfl rfl rfl Yd Yd Yd Yd Yd rfl trivial<|Zd rfl (fun D1 hD1=>SV _ x xs _ (hx▸(JC (l:=a.toNat) (h:=(b+1).toNat) hB1 h10 Yd Yd Yd).up RI.up (hD1 _ Ye)))<|Zh rfl<|L.n5 ?_)
 exact leave1 rfl rfl rfl rfl (fun D hD=>by show Value.int _ _=_;rw[hv])
theorem J4(tv:Value)(t:aZ)(c:List Int)(D:aA)(ht:gT D tv t)(hto:x9 t)(h10:c.length=10):Fn Tryz.prog 139 #[tv,.agg (ints c).toArray,.slice none 0 0] D (fun _ v=>v=.bool (lI t c)):=by
 obtain⟨hv,lv,mv,rfl,hh,hl,hm⟩:=ht;have hll:=hm.len;have hlast:=hto.last;refine enter 34 Tryz.func139 rfl rfl rfl rfl fun h0=>C.s1<|Zw rfl (fun q1 E1 hE1 hB1=>Zw rfl (fun q2 E2 hE2 hB2=>Zh rfl<|L.n4<|Zi rfl Tf.f32_4 rfl<|Zf 4 rfl Tf.a30 rfl hB1 rfl<|aR rfl U30 rfl hm rfl rfl trivial<|Za rfl<|L.n1<|Zaj ?_));refine cJ (γ:=Nat) (fun k=>t.marks.length-k) (fun k=>k≤t.marks.length∧(t.marks.take k).all (O0 c)=true) (fun k=>[(12,.int .i64 (k:Int))]) [(11,_),(10,_),(6,_),(4,_),(2,_)] (fun k=>[E2,E1,D]) 0 Ye ⟨Yb,aOJ⟩ C.rs (aD) ?_
 rintro k ⟨h1,h2⟩;refine C.s1<|Zae rfl<|L.n2<|aE rfl (fun hc1=>?_) (fun hc1=>?_)
 ·have hk:k<t.marks.length:=by omega
  obtain⟨m,hx⟩:=C.ge t.marks k;have hmb:=HP (hto.mark m (aJA hx));refine C.kn<|aM<|Zaj<|C.s1<|Za rfl<|Zs rfl U30 Tf.s158 rfl hm rfl hx (fun b1 o1 cs1 hr1 hcl1 hA1=>?_);obtain rfl:cs1=[.int .i64 _,.int .i64 _,.int .i64 _,.int .i64 _]:=hr1;refine Zr rfl Tf.a158 rfl hA1 Tf.s158<|Zx rfl Tf.z158 rfl (fun q3=>Zh rfl<|Zv rfl Tf.s158 (bM.head)<|L.n2<|C.drawA [] 5 16 8066 (fun _ _ _ h=>cA (P:=Tryz.prog) (fn:=Tryz.f139) _ _ _ h)<|Za rfl<|Za rfl<|Zd rfl (fun D1 hD1=>L7.sR _ [] (k:Int) _ Sl.nil)<|Zag rfl<|Za rfl ?_);refine' L.anK 11 (s:=21) (p:=32) rfl (fun hg1=>?_) (fun hg1=>?_) ?_;rotate_left
  ·refine Zj rfl Tf.f158_2 rfl<|dE rfl Tf.a99 Tf.s99 rfl (List.Mem.head _) rfl rfl GT rfl ⟨_,rfl,rfl⟩<|cQ rfl Tf.a282 rfl hB2 Yc Yw GT rfl ⟨_,rfl,rfl⟩<|Zj rfl Tf.f158_0 rfl<|aS rfl Tf.a3 rfl (List.Mem.head _) rfl GT rfl ⟨_,rfl,rfl⟩<|Zj rfl Tf.f158_1 rfl<|aS rfl Tf.a3 rfl (List.Mem.head _) rfl GT rfl ⟨_,rfl,rfl⟩<|Ze rfl (fun D2 hD2=>I8 c m.frm m.to _ h10 hmb.1 hmb.2.1 Yd)<|Ze rfl (fun D3 hD3=>I6 (m.lo,m.hi) _ _)<|jU rfl rfl rfl ⟨_,rfl,rfl⟩<|Zac rfl ?_;exact L.cu 10
  ·refine Zk rfl<|Zk rfl<|Zk rfl<|Zk rfl<|Zk rfl<|Zk rfl<|Zk rfl<|Zk rfl<|Zk rfl<|Zk rfl<|Zad rfl ?_;exact L.cu 10
  refine L.n1<|aJ rfl (fun hc2=>?_) (fun hc2=>?_)
  ·refine C.s1<|Zh rfl<|L.n5<|Zam<|Zai<|Zai<|Zam<|Zai ?_;exact leave1 rfl rfl rfl rfl (fun D hD=>by show Value.bool _=_;rw[J7 hx hc2])
  ·refine bQ<|Zal<|Zah<|C.rg<|Zy rfl<|Za rfl<|Zab ?_;exact aG 15 (k+1) ⟨by omega,EG hx h2 hc2⟩ Yd ⟨Yb,aOJ⟩ rfl rfl (List.Sublist.cons _ (LE _)) (aD)
 ·refine aQ<|Zak<|Zak<|Zan<|Zah<|C.s1<|Zh rfl<|L.n5 ?_;exact leave1 rfl rfl rfl rfl (fun D hD=>by show Value.bool _=_;rw[zE h2 Yd])
theorem uX(tv:Value)(t:aZ)(D:aA)(ht:gT D tv t):Fn Tryz.prog 137 #[tv] D (fun _ v=>v=.int .i64 (aT t)):=by
 have ht0:=ht;obtain⟨hv,lv,mv,rfl,hh,hl,hm⟩:=ht;have hll:=hh.len;have hl2:=hl.len;have hl3:=hm.len;refine m8 82 Tryz.func137 rfl rfl rfl rfl fun h0=>C.s1<|Zw rfl (fun q1 E1 hE1 hB1=>Zx rfl Tf.z44 rfl (fun q2=>L.n3<|Zr rfl Tf.a32 rfl hB1 Tf.s32<|bB rfl rfl rfl rfl trivial<|Zh rfl<|L.n2<|Zaj<|C.s1<|Zi rfl Tf.f32_0 rfl ?_));refine Zf 0 rfl Tf.a3 rfl hB1 rfl<|eB rfl rfl rfl rfl trivial<|Za rfl ?_
 refine' L.orK 5 (s:=13) (p:=18) rfl (fun hg1=>?_) (fun hg1=>?_) ?_;rotate_left
 ·refine Zj rfl Tf.f32_3 rfl<|Zg 3 rfl Tf.a25 rfl hB1 rfl<|aR rfl U25 rfl hl rfl rfl ⟨_,rfl,rfl⟩<|eB rfl rfl rfl rfl ⟨_,rfl,rfl⟩<|Zad rfl ?_;exact L.cu 4
 ·refine Zk rfl<|Zk rfl<|Zk rfl<|Zk rfl<|Zac rfl ?_;exact L.cu 4
 refine Za rfl ?_;refine' L.orK 5 (s:=19) (p:=24) rfl (fun hg2=>?_) (fun hg2=>?_) ?_;rotate_left
 ·refine Zj rfl Tf.f32_4 rfl<|Zg 4 rfl Tf.a30 rfl hB1 rfl<|aR rfl U30 rfl hm rfl rfl ⟨_,rfl,rfl⟩<|eB rfl rfl rfl rfl ⟨_,rfl,rfl⟩<|Zad rfl ?_;exact L.cu 4
 ·refine Zk rfl<|Zk rfl<|Zk rfl<|Zk rfl<|Zac rfl ?_;exact L.cu 4
 refine Zh rfl<|L.n1<|aJ rfl (fun hc1=>?_) (fun hc1=>?_)
 ·refine C.s1<|Zn rfl Tf.s44 (bM.head) rfl<|L.n5<|Zam<|Zai ?_;exact oX (vs:=[_]) rfl rfl rfl ⟨⟨_,_,_,rfl,GE _,aJQ ⟨Tf.a44,rfl⟩⟩,aOJ⟩ (fun D hD=>by show Value.int _ _=_;rw[LG hc1])
 ·refine C.s1<|Zi rfl Tf.f32_0 rfl<|Zf 0 rfl Tf.a3 rfl hB1 rfl<|Zae rfl<|Za rfl ?_;refine' L.orK 8 (s:=29) (p:=37) rfl (fun hg3=>?_) (fun hg3=>?_) ?_;rotate_left
  ·have hl0:0≤t.last:=by have:=hg3;simp only[aLY]at this;omega
   have hl9:t.last≤9:=TQ hc1;refine Zj rfl Tf.f32_1 rfl<|Zg 1 rfl Tf.a29 rfl hB1 rfl<|aR rfl U29 rfl hh rfl rfl ⟨_,rfl,rfl⟩<|Zj rfl Tf.f32_0 rfl<|Zg 0 rfl Tf.a3 rfl hB1 rfl<|yF rfl rfl rfl Yf rfl ⟨_,rfl,rfl⟩<|dZ rfl rfl rfl rfl ⟨_,rfl,rfl⟩<|Zad rfl ?_;exact L.cu 7
  ·refine Zk rfl<|Zk rfl<|Zk rfl<|Zk rfl<|Zk rfl<|Zk rfl<|Zk rfl<|Zac rfl ?_;exact L.cu 7
  refine Za rfl ?_;refine' L.orK 5 (s:=38) (p:=43) rfl (fun hg4=>?_) (fun hg4=>?_) ?_;rotate_left
  ·refine Zj rfl Tf.f32_1 rfl<|Zg 1 rfl Tf.a29 rfl hB1 rfl<|Ze rfl (fun D1 hD1=>p5 _ _ _ gH _ (Sl.at E0.up hD1 Yk Ye) (.of fun x D2=>O7 x D2) rfl)<|jU rfl rfl rfl ⟨_,rfl,rfl⟩<|Zad rfl ?_;exact L.cu 4
  ·refine Zk rfl<|Zk rfl<|Zk rfl<|Zk rfl<|Zac rfl ?_;exact L.cu 4
  refine Za rfl ?_;refine' L.orK 5 (s:=44) (p:=49) rfl (fun hg5=>?_) (fun hg5=>?_) ?_;rotate_left
  ·refine Zj rfl Tf.f32_2 rfl<|Zg 2 rfl Tf.a3 rfl hB1 rfl<|Ze rfl (fun D2 hD2=>tQ _ _)<|jU rfl rfl rfl ⟨_,rfl,rfl⟩<|Zad rfl ?_;exact L.cu 4
  ·refine Zk rfl<|Zk rfl<|Zk rfl<|Zk rfl<|Zac rfl ?_;exact L.cu 4
  refine Za rfl ?_;refine' L.orK 5 (s:=50) (p:=55) rfl (fun hg6=>?_) (fun hg6=>?_) ?_;rotate_left
  ·refine Zj rfl Tf.f32_3 rfl<|Zg 3 rfl Tf.a25 rfl hB1 rfl<|Ze rfl (fun D3 hD3=>wN _ _ _ eH _ (Sl.at RI.up hD3 Yk Ye) (.of fun x D2=>tQ x D2) rfl)<|jU rfl rfl rfl ⟨_,rfl,rfl⟩<|Zad rfl ?_;exact L.cu 4
  ·refine Zk rfl<|Zk rfl<|Zk rfl<|Zk rfl<|Zac rfl ?_;exact L.cu 4
  refine Za rfl ?_;refine' L.orK 6 (s:=56) (p:=62) rfl (fun hg7=>?_) (fun hg7=>?_) ?_;rotate_left
  ·refine Zj rfl Tf.f32_4 rfl<|Zg 4 rfl Tf.a30 rfl hB1 rfl<|Zb rfl<|Ze rfl (fun D4 hD4=>aCA _ _ _ (pO t.last) _ (Sl.at CG.up hD4 Yk Ye) ⟨_,[_],[],rfl,fun m D2 hl=>aCG _ t m D2 (ht0.up ((hD4 _ Ye).trans hl))⟩ rfl)<|jU rfl rfl rfl ⟨_,rfl,rfl⟩<|Zad rfl ?_;exact L.cu 5
  ·refine Zk rfl<|Zk rfl<|Zk rfl<|Zk rfl<|Zk rfl<|Zac rfl ?_;exact L.cu 5
  refine Zh rfl<|L.n1<|aJ rfl (fun hc2=>?_) (fun hc2=>?_)
  ·refine C.s1<|Zn rfl Tf.s44 (bM.head) rfl<|L.n5<|Zam<|Zai ?_;exact oX (vs:=[_]) rfl rfl rfl ⟨⟨_,_,_,rfl,GE _,aJQ ⟨Tf.a44,rfl⟩⟩,aOJ⟩ (fun D hD=>by show Value.int _ _=_;rw[yR hc1 hc2])
  ·have hto:x9 t:=aIP hc1 hc2;refine bQ<|Zal<|Zah<|C.s1<|Zh rfl<|L.n4<|Zi rfl Tf.f32_1 rfl<|Zf 1 rfl Tf.a29 rfl hB1 rfl<|aR rfl U29 rfl hh rfl rfl trivial<|Za rfl<|L.n1<|Zaj ?_;refine cJ (γ:=Nat) (fun k=>t.heights.length-k) (fun k=>k≤t.heights.length) (fun k=>[(66,.int .i64 (k:Int)),(4,.int .i64 (mF (t.heights.take k)))]) [(65,_),(64,_),(2,_),(1,_)] (fun k=>[E1,D]) 0 Yd ⟨Yb,Yb,aOJ⟩ C.rs (aD) ?_;rintro k h1;refine C.s1<|Zae rfl<|L.n2<|aE rfl (fun hc3=>?_) (fun hc3=>?_)
   ·have hk:k<t.heights.length:=by omega
    obtain⟨r,hx⟩:=C.ge t.heights k;have hrb:=hto.hts r (aJA hx);have hmul:=YK hto k hrb;refine C.kn<|aM<|Zaj<|C.s1<|Zs rfl U29 Tf.s99 rfl hh rfl hx (fun b1 o1 cs1 hr1 hcl1 hA1=>?_);obtain rfl:cs1=[.int .i64 _,.int .i64 _]:=hr1;refine Zr rfl Tf.a99 rfl hA1 Tf.s99<|Zx rfl Tf.z99 rfl (fun q3=>Zv rfl Tf.s99 (bM.head)<|L.n1<|C.rg<|Za rfl<|Zu rfl Tf.a99 rfl (List.Mem.head _) Tf.s99<|Zd rfl (fun D5 hD5=>IG r hrb _)<|Q9 rfl rfl rfl Yf rfl trivial<|Zp rfl U25 Tf.s3 Tf.z3 rfl rfl rfl rfl (.cons rfl rfl (.cons rfl rfl .nil)) (fun b901 D901 hD901 hA901=>?_));have hS901:=Sl.ofInts (l:=[_,_]) (n:=2) (cap:=2) hA901 rfl Yd Yd;refine Zd rfl (fun D6 hD6=>jC _ (mF (t.heights.take k)*eX r) [2001] _ (hS901.up RI.up (hD6 _ Ye)))<|Zh rfl<|Zab<|Zal<|Zah<|C.rg<|Zy rfl<|Za rfl<|Zab ?_;exact aG 15 (k+1) Yd Yd ⟨Yb,(by rw[Y9 hx];rfl),aOJ⟩ rfl rfl (List.Sublist.cons _ (LE _)) (fun D h=>⟨D,LT _ (h),Le.refl D⟩)
   ·obtain rfl:k=t.heights.length:=by omega
    rw[aKN];refine aQ<|Zak<|Zak<|Zan<|Zah<|C.s2<|Za rfl<|eB rfl rfl rfl rfl trivial<|L.n1<|aE rfl (fun hc4=>?_) (fun hc4=>?_)
    ·refine C.s1<|Zn rfl Tf.s44 (bM.head) rfl<|L.n5<|Zai ?_;exact oX (vs:=[_]) rfl rfl rfl ⟨⟨_,_,_,rfl,GE _,aJQ ⟨Tf.a44,rfl⟩⟩,aOJ⟩ (fun D hD=>by show Value.int _ _=_;rw[HT hc1 hc2 hc4])
    ·refine C.kn<|C.s2<|Zr rfl Tf.a32 rfl hB1 Tf.s32<|Zt rfl (fun D7 hD7=>AM _ t _ (ht0.up (hD7 _ Ye)) hto) (fun v7 D7 hD7 hp7=>L.n1<|Zaj ?_);obtain⟨br,rfl,hit⟩:=hp7;refine mK (γ:=Unit) (xs:=(fG t).map cO) (enc:=l4) (Dr:=D7) (fun pre _=>pre=[]) (fun _ c _=>c=.ret∧fG t≠[]) (fun _=>[(q2,.cells [.int .i64 0].toArray 44 (0,0))]) () rfl rfl rfl rfl hit Ye (fun _=>rfl) rfl rfl rfl ?_ ?_ ?_
     ·rintro pre x _ ⟨us,hx⟩ hΦ l bd rec hh D7 hD7 hst hpend;refine bQ ?_;refine fun a w hhh=>rF (A:=[(_,_)]) (B:=[(bd,.deferred (some []))]) (r:=rec) (l:=l) (by rfl) hst ?_ a w hhh
      refine Zaj<|C.s1<|Zn rfl Tf.s44 (bM.head) rfl<|L.n5<|Zam ?_;exact YU (A:=[(_,_)]) (B:=[(bd,.deferred (some []))]) .ret () ⟨rfl,fun e=>by rw[e]at hx;simp at hx⟩ rfl rfl
     ·rintro _ bd hΦ;have hn:fG t=[]:=by simpa using hΦ
      refine Zal<|Zah<|C.s1<|Zn rfl Tf.s44 (bM.head) rfl<|L.n5 ?_;exact rL (vs:=[_]) (A:=[(_,_)]) rfl rfl rfl ⟨⟨_,_,_,rfl,GE _,aJQ ⟨Tf.a44,rfl⟩⟩,aOJ⟩ (fun D hD=>by show Value.int _ _=_;rw[GS hc1 hc2 hc4 hn])
     ·rintro _ _ _ bd ⟨rfl,hne⟩;refine N9<|Zam<|Zai ?_;exact rL (vs:=[_]) (A:=[(_,_)]) rfl rfl rfl ⟨⟨_,_,_,rfl,GE _,aJQ ⟨Tf.a44,rfl⟩⟩,aOJ⟩ (fun D hD=>by show Value.int _ _=_;rw[oB hc1 hc2 hc4 hne])
end L2
end Go.Fs
namespace Go.Fs
open Go.Proofs
namespace L2
open L1
open C2
open C1 (fR cG pB nQ)
def vQ(t:aZ)(pre:List (List Int))(g:Value×aC×Array MapEntry×Nat×List (Int×Int)):Prop:=
 bL 282 10 g.1 (iA t pre.length).length (wC (iA t pre.length)) g.2.1∧qC g.2.2.1 g.2.2.2.1 g.2.2.2.2∧vA (iA t pre.length) t.last g.2.2.2.2
def aHA(t:aZ)(D:aA)(wv:Value)(ν:aC):Prop:=∃wb mb hv lv mv tsv es cl S,wv=.pointer (some ⟨wb,0,none⟩)∧ν=[(wb,.cells [.int .i64 t.last,hv,.int .i64 t.step,lv,mv,tsv,.map (some mb)].toArray 278 (0,0)),(mb,.map es cl)]∧
 gT D (.agg #[.int .i64 t.last,hv,.int .i64 t.step,lv,mv]) t∧Sl D S8 10 tsv (bH t)∧qC es cl S∧vA (bH t) t.last S
def xH(acc:List (List Int)):List Int:=match acc.getLast? with
 |some s=>cO s
 |none=>[]
theorem Z1{acc:List (List Int)}(h:∀s∈acc,s.length≤10)(hne:acc≠[]):(xH acc).length=10:=by
 unfold xH;rw[aMI hne];exact eI (h _ (List.getLast_mem hne))
theorem XL{acc:List (List Int)}(h:∀s∈acc,s.length≤10)(hne:acc≠[])(junk:List Value):((wC acc++junk).drop (0+(((acc.length:Int)-1).toNat)*10)).take 10=ints (xH acc):=by
 have hpos:=aMH.2 hne;unfold xH;rw[aMI hne,aMC];refine BW h ?_ junk;rw[show((acc.length:Int)-1).toNat=acc.length-1 by omega,←List.getLast?_eq_getElem?,aMI hne]
theorem aAB{s u:List Int}(h:s.length=u.length):cO s=cO u ↔ s=u:=by
 constructor
 ·intro e;have:=aJS (List.take s.length) e;unfold cO at this
  rwa [aNL,h,aNL]at this
 ·rintro rfl;rfl
def uS(S:List (Int×Int))(s:List Int)(k:Nat):List (Int×Int):=(List.range k).foldl (fun S (j:Nat)=>CC S ((j:Int),s.getD j 0)) S
theorem Y5{S:List (Int×Int)}{s:List Int}{k:Nat}:uS S s (k+1)=CC (uS S s k) ((k:Int),s.getD k 0):=by
 unfold uS;rw[aLG,aLE];rfl
theorem XG{S:List (Int×Int)}{s:List Int}{k:Nat}{p:Int×Int}:p∈uS S s k ↔ p∈S∨∃j:Nat,j<k∧p=((j:Int),s.getD j 0):=by
 induction k with
 |zero=>simp[uS]
 |succ k ih=>
  rw[Y5,VI,ih];constructor
  ·rintro((h|⟨j,hj,rfl⟩)|rfl)
   ·exact aJQ h
   ·exact aJE ⟨j,by omega,rfl⟩
   ·exact aJE ⟨k,by omega,rfl⟩
  ·rintro(h|⟨j,hj,rfl⟩)
   ·exact aJQ (aJQ h)
   ·by_cases e:j=k
    ·subst e;exact aJE rfl
    ·exact aJQ (aJE ⟨j,by omega,rfl⟩)
theorem IV{s:List Int}{k:Nat}(h:k<s.length):(cO s)[(k:Int).toNat]?= some (s.getD k 0):=by
 unfold cO;rw[aKT,aMA h,aKX,aJC h];rfl
section
variable{t:aZ}{pre:List (List Int)}{s:List Int}(hrp:lI t (cO s)=lI t s)(htake:(fG t).take (pre.length+1)=(fG t).take pre.length++[s])
include hrp htake
theorem BM{b:Bool}(hc:(!lI t (cO s)||(decide (0<((iA t pre.length).length:Int))&&(xH (iA t pre.length)==cO s)))=b):zG t (iA t pre.length) s=if b=true then iA t pre.length else iA t pre.length++[s]:=by
 have hsm:s∈fG t:=aNO (i:=pre.length+1) (by rw[htake];simp);rw[hrp]at hc;subst hc;unfold zG;cases hr:lI t s with
 |false=>simp
 |true=>
  simp only[aOF,Bool.false_or,Bool.true_eq_false,false_or];by_cases hne:iA t pre.length=[]
  ·rw[hne];simp
  ·have hpos:=aMH.2 hne;have h1:decide (0<((iA t pre.length).length:Int))=true:=by simpa using hpos
   rw[h1,aNA];unfold xH;rw[aMI hne];have h2:=lN (wY (List.getLast_mem hne));have h3:=lN hsm;have h4:=aAB (h2.trans h3.symm);by_cases e:(iA t pre.length).getLast hne=s
   ·rw[aJT (by rw[e]),aJT (by rw[e];simp)]
   ·rw[aJM (by simpa using e),aJM (by simpa using fun h=>e (h4.1 h))]
theorem UU{v:Value}{ν:aC}{es:Array MapEntry}{cl:Nat}{S:List (Int×Int)}(hc:(!lI t (cO s)||(decide (0<((iA t pre.length).length:Int))&&(xH (iA t pre.length)==cO s)))=true)(ha:bL 282 10 v (iA t pre.length).length (wC (iA t pre.length)) ν)(hS:qC es cl S)(hsp:vA (iA t pre.length) t.last S):vQ t (pre++[cO s]) (v,ν,es,cl,S):=by
 have h1:=BM hrp htake hc;simp only[aLH]at h1;have h2:=X0 htake;rw[h1]at h2;unfold vQ;rw[aIX,aMM,h2];exact⟨ha,hS,hsp⟩
theorem aCT(hc:(!lI t (cO s)||(decide (0<((iA t pre.length).length:Int))&&(xH (iA t pre.length)==cO s)))=false):iA t (pre.length+1)=iA t pre.length++[s]:=by
 have h1:=BM hrp htake hc;simp only[aKI,aLR]at h1;rw[X0 htake,h1]
end
theorem aGJ{t:aZ}{pre:List (List Int)}{s:List Int}{v:Value}{ν:aC}{es:Array MapEntry}{cl k:Nat}{S:List (Int×Int)}(h:iA t (pre.length+1)=iA t pre.length++[s])(hk:s.length≤k)(hk2:(k:Int)=t.last+1)(ha:bL 282 10 v ((iA t pre.length).length+1) (wC (iA t pre.length++[s])) ν)(hS:qC es cl (uS S s k))(hsp:vA (iA t pre.length) t.last S):vQ t (pre++[cO s]) (v,ν,es,cl,uS S s k):=by
 unfold vQ;rw[aIX,aMM,h,aIX,aMM];refine⟨ha,hS,fun p=>?_⟩;rw[XG,hsp p];constructor
 ·rintro(⟨u,hu,j,hj,rfl⟩|⟨j,hj,rfl⟩)
  ·exact⟨u,aJG _ hu,j,hj,rfl⟩
  ·exact⟨s,by simp,j,by omega,rfl⟩
 ·rintro⟨u,hu,j,hj,rfl⟩;rcases aJO.1 hu with hu|hu
  ·exact aJQ ⟨u,hu,j,hj,rfl⟩
  ·simp only[aJR]at hu;subst hu
   exact aJE ⟨j,by omega,rfl⟩
theorem aDS:K2 Tryz.prog 285:=⟨by kernel_rfl,by kernel_rfl,by kernel_rfl⟩
theorem pV(tv:Value)(t:aZ)(fine:Bool)(D:aA)(ht:gT D tv t):CN Tryz.prog 80 #[tv,.bool fine] D (fun D' v ν=>∃wv,v=.tuple #[wv,.int .i64 (kK t fine)]∧(kK t fine=0→x9 t∧bH t≠[]∧aHA t D' wv ν)):=by
 have ht0:=ht;obtain⟨hv,lv,mv,rfl,hh,hl,hm⟩:=ht;refine JW 85 Tryz.func80 rfl rfl rfl rfl fun h0=>C.s1<|Zw rfl (fun q1 E1 hE1 hB1=>Zh rfl<|Zh rfl<|L.n4<|Zr rfl Tf.a32 rfl hB1 Tf.s32<|Zd rfl (fun D1 hD1=>uX _ t _ (ht0.up (hD1 _ Ye)))<|Zh rfl<|L.n3<|Za rfl<|dZ rfl rfl rfl rfl aOJ ?_);refine L.n1<|aE rfl (fun hc1=>?_) (fun hc1=>?_)
 ·refine C.s1<|Za rfl<|Zh rfl<|Zh rfl<|L.n5<|Zai ?_;exact oX (vs:=[_,_]) rfl rfl rfl C.rs (fun D hD=>⟨_,by rw[kK,aJT hc1];rfl,fun h=>by rw[kK,aJT hc1]at h;exact absurd h hc1⟩)
 ·have hf0:aT t=0:=by omega
  have hto:x9 t:=W5 hf0;refine C.kn<|C.s2<|Za rfl<|Zag rfl<|L.n1<|aJ rfl (fun hc2=>?_) (fun hc2=>?_)
  ·refine C.s1<|Zh rfl<|Zh rfl<|L.n5<|Zai ?_;exact oX (vs:=[_,_]) rfl rfl rfl C.rs (fun D hD=>⟨_,by rw[kK,aJM hc1,aJT Yak];rfl,fun h=>by rw[kK,aJM hc1,aJT Yak]at h;omega⟩)
  ·refine C.kn<|C.s1<|Zr rfl Tf.a32 rfl hB1 Tf.s32<|pN rfl rfl aOJ (fun qm=>gP (cs:=[.int .i64 t.last,hv,.int .i64 t.step,lv,mv,.slice none 0 0,.map (some qm)]) rfl Tf.p278 Tf.z278 rfl Yg rfl trivial<|Y7 rfl (e:=278) rfl rfl rfl aOJ (fun q2=>Zx rfl Tf.z188 rfl (fun q3=>Zn rfl Tf.s188 (bM.head) rfl<|L.n4<|Zr rfl Tf.a32 rfl hB1 Tf.s32<|Zt rfl (fun D2 hD2=>AM _ t _ (ht0.up (hD2 _ Ye)) hto) (fun v2 D2 hD2 hp2=>L.n1 ?_))));refine Zaj ?_;obtain⟨br,rfl,hit⟩:=hp2;refine mK (γ:=Value×aC×Array MapEntry×Nat×List (Int×Int)) (xs:=(fG t).map cO) (enc:=l4) (Dr:=D2) (vQ t) (fun _ _ _=>False) (fun g=>[(q3,.cells [.pointer (some ⟨q2,0,none⟩)].toArray 188 (0,0)),(q2,.cells [.int .i64 t.last,hv,.int .i64 t.step,lv,mv,g.1,.map (some qm)].toArray 278 (0,0)),(qm,.map g.2.2.1 g.2.2.2.1)]++g.2.1) (.slice none 0 0,[],#[],0,[]) rfl rfl rfl rfl hit Ye (fun _=>rfl) rfl ⟨by simpa [iA,wC]using bL.nil,qC.nil,vA.nil⟩ rfl ?_ ?_ (fun _ _ _ _ h=>h.elim)
   ·rintro pre x ⟨v,ν,es,cl,S⟩ ⟨us,hx⟩ ⟨ha,hS,hsp⟩ l bd rec hh7 D7 hD7 hst hpend;simp only at ha hS hsp;obtain⟨s,hk,rfl,hsm,htake⟩:=EC hx;have hsl:=lN hsm;have hlast:=hto.last;have hlen:=hto.len;have hs10:s.length≤10:=by omega
    have hp10:=eI hs10;have hall:∀u∈iA t pre.length,u.length≤10:=fun u hu=>by have:=lN (wY hu);omega
    have hcap:=B1 hf0;have hacl:=CS t pre.length;have hrp:=OB hto (s:=s) Yd;refine C.rg<|Zx rfl Tf.z282 rfl (fun q4=>Zv rfl Tf.s282 (bM.head)<|Zab ?_);refine fun a w hhh=>rF (A:=[(_,_),(_,_),(_,_),(_,_)]++ν) (B:=[(bd,.deferred (some []))]) (r:=rec) (l:=l) (by rfl) hst ?_ a w hhh
    refine rZ (fun hnd=>?_);simp only[aJY,aJN,aKW,aJJ,aLO,aKF,aIW,aJO,not_or]at hnd;have hq4:=hnd.1.2.2.2.1;have hq3:=hnd.2.1.2.2.1;have hq2:=hnd.2.2.1.2.1;refine Zaj<|aM<|aM<|C.drawA [] 10 28 20905986 (fun _ _ _ h=>h)<|Zr rfl Tf.a32 rfl hB1 Tf.s32<|bJ rfl Tf.a282 rfl (List.Mem.head _) Yw GT rfl trivial<|Zd rfl (fun D3 hD3=>J4 _ t (cO s) _ (ht0.up (hD3 _ Ye)) hto hp10)<|Zag rfl<|Za rfl ?_;refine' L.orK 23 (s:=28) (p:=51) rfl (fun hg1=>?_) (fun hg1=>?_) ?_;rotate_left
    ·refine aS rfl Tf.a188 rfl (LT _ (GE _)) rfl GT rfl ⟨_,rfl,rfl⟩<|qX rfl rfl rfl ⟨_,rfl,rfl⟩<|Zj rfl Tf.f278_1 rfl<|aS rfl Tf.a276 rfl (List.Mem.tail _ (List.Mem.tail _ (List.Mem.head _))) rfl GT rfl ⟨_,rfl,rfl⟩<|dS rfl U276 rfl ha rfl rfl ⟨_,rfl,rfl⟩<|eB rfl rfl rfl rfl ⟨_,rfl,rfl⟩<|Zb rfl ?_;refine' L.anK 15 (s:=35) (p:=50) rfl (fun hg2=>?_) (fun hg2=>?_) ?_;rotate_left
     ·have hne:iA t pre.length≠[]:=fun e=>by rw[e]at hg2;simp at hg2
      have hpos:=aMH.2 hne;obtain⟨b5,cap5,junk5,rfl,hcp5,rfl,hl51,hl52⟩:=ha.some hpos;refine aS rfl Tf.a188 rfl (LT _ (GE _)) rfl GT rfl ⟨_,rfl,rfl⟩<|qX rfl rfl rfl ⟨_,rfl,rfl⟩<|Zj rfl Tf.f278_1 rfl<|aS rfl Tf.a276 rfl (List.Mem.tail _ (List.Mem.tail _ (List.Mem.head _))) rfl GT rfl ⟨_,rfl,rfl⟩<|aS rfl Tf.a188 rfl (List.Mem.tail _ (List.Mem.head _)) rfl GT rfl ⟨_,rfl,rfl⟩<|qX rfl rfl rfl ⟨_,rfl,rfl⟩<|Zj rfl Tf.f278_1 rfl<|aS rfl Tf.a276 rfl (List.Mem.tail _ (List.Mem.tail _ (List.Mem.head _))) rfl GT rfl ⟨_,rfl,rfl⟩<|iC rfl U276 rfl rfl rfl ⟨_,rfl,rfl⟩<|fX rfl rfl rfl Yf rfl ⟨_,rfl,rfl⟩<|fD rfl U276 Tf.s282 rfl rfl Yd Yd rfl ⟨_,rfl,rfl⟩<|dE (vs:=wC (iA t pre.length)++junk5) (us:=ints (xH (iA t pre.length))) rfl Tf.a282 Tf.s282 rfl (LT _ (LT _ (LT _ (LT _ (GE _))))) (XL hall hne junk5) (by simpa using Z1 hall hne) GT rfl ⟨_,rfl,rfl⟩ ?_;refine bJ rfl Tf.a282 rfl (GE _) Yw GT rfl ⟨_,rfl,rfl⟩<|FF rfl Yg U282 U3 Yg (Z1 hall hne) hp10 rfl rfl rfl ⟨_,rfl,rfl⟩<|nH rfl rfl rfl rfl ⟨_,rfl,rfl⟩ ?_;exact L.cu 14
     ·refine Zk rfl<|Zk rfl<|Zk rfl<|Zk rfl<|Zk rfl<|Zk rfl<|Zk rfl<|Zk rfl<|Zk rfl<|Zk rfl<|Zk rfl<|Zk rfl ?_;refine Zk rfl<|Zk rfl<|mZ rfl rfl rfl rfl ⟨_,rfl,rfl⟩ ?_;exact L.cu 14
     refine Zad rfl ?_;exact L.cu 8
    ·refine Zk rfl<|Zk rfl<|Zk rfl<|Zk rfl<|Zk rfl<|Zk rfl<|Zk rfl<|Zk rfl<|Zk rfl<|Zk rfl<|Zk rfl<|Zk rfl ?_;refine Zk rfl<|Zk rfl<|Zk rfl<|Zk rfl<|Zk rfl<|Zk rfl<|Zk rfl<|Zk rfl<|Zk rfl<|Zk rfl<|Zac rfl ?_;exact L.cu 22
    refine L.n1<|aJ rfl (fun hc3=>?_) (fun hc3=>?_)
    ·have hI0:vQ t (pre++[cO s]) (v,ν,es,cl,S):=UU hrp htake hc3 ha hS hsp;refine aQ<|Zak<|Zan ?_;exact fun a w hh=>fN (A:=[(_,_),(_,_),(_,_)]++ν) (B:=[(bd,.deferred (some []))]) (v,ν,es,cl,S) hI0 rfl rfl a w (hh.dropBoxes 1)
    ·have hadd:=aCT hrp htake hc3;refine C.kn<|aM<|C.drawA (ν.map (·.1)) 2 11 254 (fun _ _ _ h=>h)<|aS rfl Tf.a188 rfl (List.Mem.tail _ (List.Mem.head _)) rfl Yj rfl trivial<|aS rfl Tf.a188 rfl (List.Mem.tail _ (List.Mem.head _)) rfl Yj rfl trivial<|Zaf rfl<|Zi rfl Tf.f278_1 rfl<|aS rfl Tf.a276 rfl (List.Mem.tail _ (List.Mem.tail _ (List.Mem.head _))) rfl Yj rfl trivial<|bJ rfl Tf.a282 rfl (List.Mem.head _) Yw Yj rfl trivial<|Zp rfl U276 Tf.s282 Tf.z282 rfl rfl rfl rfl (.cons rfl (by simpa using hp10) .nil) (fun b901 D901 hD901 hA901=>aU (A:=[(_,_),(_,_),(_,_),(_,_)]) (B:=[(l,_),(bd,_)]) rfl U276 rfl rfl Tf.s282 Tf.z282 rfl Tf.i282 rfl rfl rfl ha (jE.lit hA901) Ye (by simp[hp10]) (AR hall) (by simpa using cY _) Yd (aJE (fun p hp=>aIY.2 ⟨p,hp,rfl⟩)) rfl aOJ (fun v1 ν1 ha1=>?_));have ha2:bL 282 10 v1 ((iA t pre.length).length+1) (wC (iA t pre.length++[s])) ν1:=by unfold wC;rw[aKE,aKV];simpa [wC]using ha1
     simp only[aLO,aKF];refine Zaf rfl<|Zi rfl Tf.f278_1 rfl<|aY rfl rfl rfl ha1.cells1 Tf.s276 (.tail (.tail (bM.head))) Ye rfl ha1.cell1 trivial<|L.n3<|Zi rfl Tf.f32_0 rfl<|Zf 0 rfl Tf.a3 rfl hB1 rfl<|Zy rfl<|Za rfl<|L.n1<|Zaj<|cE (γ:=Nat×Array MapEntry×Nat) (fun g=>s.length-g.1) (fun g=>g.1≤s.length∧qC g.2.1 g.2.2 (uS S s g.1)) (fun g=>[(65,.int .i64 (g.1:Int))]) [(64,_),(8,_),(7,_),(5,_),(4,_)] (fun g=>[(q4,.cells (ints (cO s)).toArray 282 (0,0))]++[(q3,.cells [.pointer (some ⟨q2,0,none⟩)].toArray 188 (0,0)),(q2,.cells [.int .i64 t.last,hv,.int .i64 t.step,lv,mv,v1,.map (some qm)].toArray 278 (0,0)),(qm,.map g.2.1 g.2.2)]++(ν1++[(l,.loop {rec with state:=.busy}),(bd,.deferred (some []))])) (fun g=>[D901,D7,D2,E1,D]) (0,es,cl) ⟨by simp,hS⟩ ⟨Yb,aOJ⟩ C.rs (LE _) (aD) ?_;rintro⟨k,es2,cl2⟩ ⟨h1,hS2⟩;simp only at h1 hS2;refine C.s1<|Zae rfl<|L.n2<|aE rfl (fun hc4=>?_) (fun hc4=>?_)
     ·have hks:k<s.length:=by omega
      have hxk:(cO s)[(k:Int).toNat]?= some (s.getD k 0):=IV hks;refine C.kn<|aM<|Zaj<|C.s1<|Za rfl<|Zh rfl<|L.n1<|C.drawA [] 3 10 496 (fun _ _ _ h=>h)<|Zl rfl Tf.a188 rfl (List.Mem.tail _ (List.Mem.head _)) rfl<|Zaf rfl<|Zi rfl Tf.f278_2 rfl<|Zl rfl Tf.a275 rfl (List.Mem.tail _ (List.Mem.tail _ (List.Mem.head _))) rfl ?_;refine Za rfl<|Za rfl<|dH rfl U282 Tf.s3 rfl rfl Yd Yd rfl trivial<|aS rfl Tf.a3 rfl (List.Mem.head _) (cD hxk) GT rfl trivial<|Zq [.int .i64 (k:Int),.int .i64 (s.getD k 0)] rfl Tf.p285 Tf.z285 rfl rfl<|aGD (A:=[(_,_),(_,_),(_,_)]) (B:=ν1++[(l,_),(bd,_)]) (a:=((k:Int),s.getD k 0)) rfl U275 aDS rfl rfl rfl hS2 aOJ (fun es3 cl3 hS3=>Zab<|Zal<|Zah<|C.rg<|Zy rfl<|Za rfl ?_);refine Zab ?_;exact aG 15 (k+1,es3,cl3) ⟨by simp only;omega,by rw[Y5];exact hS3⟩ Yl ⟨Yb,aOJ⟩ rfl rfl (LE _) (aD)
     ·have hI1:vQ t (pre++[cO s]) (v1,ν1,es2,cl2,uS S s k):=aGJ hadd Yd Yd ha2 hS2 hsp;refine aQ<|Zak<|Zak<|Zan<|Zal ?_;exact fun a w hh=>fN (A:=[(_,_),(_,_),(_,_)]++ν1) (B:=[(bd,.deferred (some []))]) (v1,ν1,es2,cl2,uS S s k) hI1 rfl rfl a w (hh.dropBoxes 1)
   ·rintro⟨v,ν,es,cl,S⟩ bd ⟨ha,hS,hsp⟩;simp only[aLA]at ha hS hsp;rw[xW t (aJU _)]at ha hsp;have hall:∀u∈bH t,u.length≤10:=fun u hu=>by rw[←xW t (aJU _)]at hu;have:=lN (wY hu);have:=hto.len10;omega
    have hll:(bH t).length≤2000:=by rw[←xW t (aJU _)];have:=CS t (fG t).length;have:=B1 hf0;omega
    refine Zal<|Zah<|C.s2<|Zl rfl Tf.a188 rfl (List.Mem.head _) rfl<|Zaf rfl<|Zi rfl Tf.f278_1 rfl<|Zl rfl Tf.a276 rfl (List.Mem.tail _ (List.Mem.head _)) rfl<|dS rfl U276 rfl ha rfl rfl trivial<|dJ rfl rfl rfl rfl trivial<|L.n1<|aE rfl (fun hc5=>?_) (fun hc5=>?_)
    ·have htn:bH t=[]:=aMF.1 Yd;have hask:kK t fine=11:=by rw[kK,aJM hc1,aJM Yak,aJT htn]
     refine C.s1<|Zh rfl<|Zh rfl<|L.n5<|Zai ?_;exact I3 (vs:=[_,_]) (A:=[(_,_),(_,_),(_,_)]) (ν':=[]) (B:=ν) rfl rfl rfl C.rs (fun D hD=>⟨_,by rw[hask];rfl,fun h=>by rw[hask]at h;omega⟩)
    ·have htn:bH t≠[]:=fun e=>hc5 (by rw[e];rfl)
     have hask:kK t fine=0:=by rw[kK,aJM hc1,aJM Yak,aJM htn]
     refine C.kn<|C.s1<|Zl rfl Tf.a188 rfl (List.Mem.head _) rfl<|Zh rfl<|Zh rfl<|L.n5<|eK (A:=[(_,_),(_,_),(_,_)]) (B:=[(bd,.deferred (some []))]) ha rfl (fun D8 hD8 hF8=>?_);exact I3 (vs:=[_,_]) (A:=[(_,_)]) (ν':=[(_,_),(_,_)]) (B:=[]) rfl rfl rfl C.rs (fun D hD=>⟨_,by rw[hask];rfl,fun _=>⟨hto,htn,q2,qm,hv,lv,mv,v,es,cl,S,rfl,rfl,⟨hv,lv,mv,rfl,hh.up E0.up (hD _ Ye),hl.up RI.up (hD _ Ye),hm.up CG.up (hD _ Ye)⟩,(hF8.seas rfl Yd hall).up S8.up (hD _ Ye),hS,hsp⟩⟩)
end L2
end Go.Fs
namespace Go.Fs
open Go.Proofs
namespace L2
open L1
open C2
open C1 (fR cG pB nQ)
theorem lX{t:aZ}(_ht:x9 t){s:List Int}(h:s∈bH t):s.length=t.heights.length:=by
 rw[←xW t (aJU _)]at h;exact lN (wY h)
structure QN(es:Array MapEntry)(S:List (Int×Int))(h:Nat)(x0:Int)(seen:Array Nat)(lo hi:Int):Prop where
 mid:lo≤x0∧x0≤hi
 all:∀e∈es.toList,seen.contains e.born=true→∀y,e.key=iU ((h:Int),y)→lo≤y∧y≤hi
 los:((h:Int),lo)∈S
 his:((h:Int),hi)∈S
theorem QN.start{t:aZ}{es:Array MapEntry}{S:List (Int×Int)}{h:Nat}{s0:List Int}(hsp:vA (bH t) t.last S)(hs:s0∈bH t)(hh:(h:Int)≤t.last):QN es S h (s0.getD h 0) #[] (s0.getD h 0) (s0.getD h 0):=
 ⟨by omega,fun e _ hc=>by simp at hc,(hsp _).2 ⟨s0,hs,h,hh,rfl⟩,(hsp _).2 ⟨s0,hs,h,hh,rfl⟩⟩
theorem KR{a b:Int×Int}(h:iU a=iU b):a=b:=by
 obtain⟨a1,a2⟩:=a;obtain⟨b1,b2⟩:=b
 simp only[iU,Value.agg.injEq]at h;simpa using h
section
variable{t:aZ}{es:Array MapEntry}{cl:Nat}{S:List (Int×Int)}{h:Nat}{x0:Int}{seen:Array Nat}{lo hi:Int}
theorem d8(hS:qC es cl S){e e':MapEntry}(h1:e∈es.toList)(h2:e'∈es.toList)(h:e'.born=e.born):e'=e:=by
 have f1:=find_born e es.toList hS.nd h1;have f2:=find_born e' es.toList hS.nd h2;rw[h]at f2;rw[f1]at f2;exact(aJZ f2).symm
theorem QN.yes(hI:QN es S h x0 seen lo hi)(hS:qC es cl S){e:MapEntry}(he:e∈(leftOf es seen).toList){ah ay:Int}(hek:e.key=iU (ah,ay))(haS:(ah,ay)∈S)(hc:ah=(h:Int)):QN es S h x0 (seen.push e.born) (min lo ay) (max hi ay):=by
 subst hc;have hm:=hI.mid;refine⟨by omega,fun e' he' hc y hy=>?_,?_,?_⟩
 ·rw[contains_push,aKS]at hc;rcases hc with hc|hc
  ·have:=hI.all e' he' hc y hy;omega
  ·have:=d8 hS (mem_left he).1 he' (aNR.1 hc);subst this;rw[hek]at hy;have:=KR hy;simp only[aMW,true_and]at this;omega
 ·rcases Int.le_total lo ay with h|h
  ·rw[Int.min_eq_left h];exact hI.los
  ·rw[Int.min_eq_right h];exact haS
 ·rcases Int.le_total hi ay with h|h
  ·rw[Int.max_eq_right h];exact haS
  ·rw[Int.max_eq_left h];exact hI.his
theorem QN.no(hI:QN es S h x0 seen lo hi)(hS:qC es cl S){e:MapEntry}(he:e∈(leftOf es seen).toList){ah ay:Int}(hek:e.key=iU (ah,ay))(_:(ah,ay)∈S)(hc:¬ah=(h:Int)):QN es S h x0 (seen.push e.born) lo hi:=by
 refine⟨hI.mid,fun e' he' hc' y hy=>?_,hI.los,hI.his⟩;rw[contains_push,aKS]at hc';rcases hc' with hc'|hc'
 ·exact hI.all e' he' hc' y hy
 ·have:=d8 hS (mem_left he).1 he' (aNR.1 hc');subst this;rw[hek]at hy;have:=KR hy;simp only[aMW]at this;exact absurd this.1 hc
theorem ON{l:List Int}{m:Int}(hm:m∈l)(h:∀x∈l,m≤x):pB l=m:=by
 cases l with
 |nil=>cases hm
 |cons a l=>
  have key:∀(l:List Int) (a:Int),(∀x∈l,l.foldl min a≤x)∧l.foldl min a≤a∧(l.foldl min a=a∨l.foldl min a∈l):=by
   intro l;induction l with
   |nil=>intro a;simp
   |cons b l ih=>
    intro a;obtain⟨h1,h2,h3⟩:=ih (min a b);rw[aLK];refine⟨fun x hx=>?_,by omega,?_⟩
    ·rcases aIW.1 hx with rfl|hx
     ·omega
     ·exact h1 x hx
    ·rcases h3 with h3|h3
     ·rw[h3];rcases Int.le_total a b with h|h
      ·exact aJQ (Int.min_eq_left h)
      ·exact aJE (by rw[Int.min_eq_right h];exact aJH)
     ·exact aJE (aJB _ h3)
  obtain⟨h1,h2,h3⟩:=key l a;show l.foldl min a=m;have h4:l.foldl min a≤m:=by
   rcases aIW.1 hm with rfl|hm
   ·exact h2
   ·exact h1 m hm
  have h5:m≤l.foldl min a:=by
   rcases h3 with h3|h3
   ·rw[h3];exact h a aJH
   ·exact h _ (aJB _ h3)
  omega
theorem ND{l:List Int}{m:Int}(hm:m∈l)(h:∀x∈l,x≤m):nQ l=m:=by
 cases l with
 |nil=>cases hm
 |cons a l=>
  have key:∀(l:List Int) (a:Int),(∀x∈l,x≤l.foldl max a)∧a≤l.foldl max a∧(l.foldl max a=a∨l.foldl max a∈l):=by
   intro l;induction l with
   |nil=>intro a;simp
   |cons b l ih=>
    intro a;obtain⟨h1,h2,h3⟩:=ih (max a b);rw[aLK];refine⟨fun x hx=>?_,by omega,?_⟩
    ·rcases aIW.1 hx with rfl|hx
     ·omega
     ·exact h1 x hx
    ·rcases h3 with h3|h3
     ·rw[h3];rcases Int.le_total a b with h|h
      ·exact aJE (by rw[Int.max_eq_right h];exact aJH)
      ·exact aJQ (Int.max_eq_left h)
     ·exact aJE (aJB _ h3)
  obtain⟨h1,h2,h3⟩:=key l a;show l.foldl max a=m;have h4:m≤l.foldl max a:=by
   rcases aIW.1 hm with rfl|hm
   ·exact h2
   ·exact h1 m hm
  have h5:l.foldl max a≤m:=by
   rcases h3 with h3|h3
   ·rw[h3];exact h a aJH
   ·exact h _ (aJB _ h3)
  omega
theorem QN.fin(hI:QN es S h x0 seen lo hi)(hS:qC es cl S)(hsp:vA (bH t) t.last S)(_:bH t≠[])(hh:(h:Int)≤t.last)(hz:(leftOf es seen).size=0):iU (lo,hi)=iU (qT t h):=by
 have hall:∀y,((h:Int),y)∈S→lo≤y∧y≤hi:=fun y hy=>by
  obtain⟨e,he,hk⟩:=hS.ent hy;refine hI.all e he ?_ y hk;cases hc:seen.contains e.born with
  |true=>rfl
  |false=>
   have hm:e∈leftOf es seen:=by
    unfold leftOf;rw[Array.mem_filter];exact⟨Array.mem_toList_iff.1 he,by rw[hc];rfl⟩
   have:=Array.size_pos_of_mem hm;omega
 have hmem:∀y,y∈(bH t).map (aHZ · h)→((h:Int),y)∈S:=fun y hy=>by
  obtain⟨s,hs,rfl⟩:=aIY.1 hy;exact(hsp _).2 ⟨s,hs,h,hh,rfl⟩
 have hmem2:∀y,((h:Int),y)∈S→y∈(bH t).map (aHZ · h):=fun y hy=>by
  obtain⟨s,hs,j,hj,he⟩:=(hsp _).1 hy;simp only[aMW]at he;have:j=h:=by omega
  subst this;exact aIY.2 ⟨s,hs,he.2.symm⟩
 unfold qT;rw[ON (hmem2 _ hI.los) fun x hx=>(hall x (hmem x hx)).1,ND (hmem2 _ hI.his) fun x hx=>(hall x (hmem x hx)).2]
end
theorem BR(t:aZ)(wb mb:Nat)(hv lv mv tsv:Value)(es:Array MapEntry)(cl:Nat)(S:List (Int×Int))(h:Nat)(D:aA)(hts:Sl D S8 10 tsv (bH t))(htn:bH t≠[])(hto:x9 t)(hS:qC es cl S)(hsp:vA (bH t) t.last S)(hh:(h:Int)≤t.last):
  S3 Tryz.prog 265 [.pointer (some ⟨wb,0,none⟩),.int .i64 (h:Int)] D [(wb,.cells [.int .i64 t.last,hv,.int .i64 t.step,lv,mv,tsv,.map (some mb)].toArray 278 (0,0)),(mb,.map es cl)] (fun _ v ν'=>v=iU (qT t h)∧ν'=[(wb,.cells [.int .i64 t.last,hv,.int .i64 t.step,lv,mv,tsv,.map (some mb)].toArray 278 (0,0)),(mb,.map es cl)]):=by
 have hll:=hts.len;have hlast:=hto.last;obtain⟨s0,hs0⟩:∃s,(bH t)[0]?= some s:=⟨(bH t)[0]'(aMH.2 htn),aJC _⟩
 have hsl0:=lX hto (aJA hs0);have hsl1:=hto.len;have hg0:(cO s0)[(h:Int).toNat]?= some (s0.getD h 0):=IV Yd;have hp10:=eI (l:=s0) Yd;refine gC 42 Tryz.func265 rfl rfl rfl rfl (fun h0 hwl hwn=>C.s1<|Zx rfl Tf.z99 rfl (fun q1=>L.n2<|C.drawA [] 7 19 196400 (fun _ _ _ h=>bT (P:=Tryz.prog) (fn:=Tryz.f265) _ _ _ h)<|Za rfl<|Zaf rfl<|Zi rfl Tf.f278_1 rfl<|Zl rfl Tf.a276 rfl (List.Mem.tail _ (List.Mem.head _)) rfl<|Za rfl<|Zs rfl U276 Tf.s282 rfl hts rfl hs0 (fun b1 o1 cs1 hr1 hcl1 hA1=>?_)));obtain rfl:cs1=ints (cO _):=hr1;refine dT rfl U282 Tf.s3 rfl rfl Yd Yd rfl trivial<|bC (o:=o1) (k:=(h:Int).toNat*1) rfl Tf.a3 rfl hA1 Yj (by rw[aLV];exact cD hg0) GT rfl trivial<|Za rfl<|Zaf rfl<|Zi rfl Tf.f278_1 rfl<|Zl rfl Tf.a276 rfl (List.Mem.tail _ (List.Mem.head _)) rfl<|Za rfl<|Zs rfl U276 Tf.s282 rfl hts rfl hs0 (fun b2 o2 cs2 hr2 hcl2 hA2=>?_)
 obtain rfl:cs2=ints (cO _):=hr2;refine dT rfl U282 Tf.s3 rfl rfl Yd Yd rfl trivial<|bC (o:=o2) (k:=(h:Int).toNat*1) rfl Tf.a3 rfl hA2 Yj (by rw[aLV];exact cD hg0) GT rfl trivial<|Zq [.int .i64 (s0.getD h 0),.int .i64 (s0.getD h 0)] rfl Tf.p99 Tf.z99 rfl rfl<|Zx rfl Tf.z99 rfl (fun q2=>Zv rfl Tf.s99 (bM.head)<|L.n4<|Za rfl<|Zaf rfl<|Zi rfl Tf.f278_2 rfl<|Zl rfl Tf.a275 rfl (List.Mem.tail _ (List.Mem.tail _ (List.Mem.head _))) rfl<|YQ (b:=mb) (es:=es) (clock:=cl) rfl U275 rfl Ye rfl aOJ (fun qr=>L.n1 ?_));refine Zaj<|cE (γ:=Array Nat×Int×Int) (fun g=>(leftOf es g.1).size) (fun g=>QN es S h (s0.getD h 0) g.1 g.2.1 g.2.2) (fun g=>[(28,.pointer (some ⟨qr,0,none⟩))]) [(5,_),(4,_),(1,_)] (fun g=>[(qr,.mapIter (some mb) cl g.1 cl),(q2,.cells [.int .i64 g.2.1,.int .i64 g.2.2].toArray 99 (0,0)),(q1,.cells [.int .i64 0,.int .i64 0].toArray 99 (0,0))]++[(wb,.cells [.int .i64 t.last,hv,.int .i64 t.step,lv,mv,tsv,.map (some mb)].toArray 278 (0,0)),(mb,.map es cl)]) (fun g=>[D]) (#[],s0.getD h 0,s0.getD h 0) (QN.start hsp (aJA hs0) hh) ⟨Yb,aOJ⟩ C.rs (LE _) (aD) ?_;rintro⟨seen,lo,hi⟩ hI;simp only at hI;refine C.s1<|aCO (b:=mb) (r:=qr) (es:=es) (clock:=cl) (A:=[]) (B:=[(_,_),(_,_),(_,_),(_,_)]) rfl rfl Ye hS.lt (aJU _) rfl aOJ (fun ok vs o' hv0 hno hyes=>W9 rfl rfl hv0 rfl trivial<|L.n2<|aJ rfl (fun hc1=>?_) (fun hc1=>?_))
 ·obtain⟨e,he,rfl⟩:=hyes hc1;obtain⟨⟨ah,ay⟩,haS,hek,hev⟩:=hS.key (mem_left he).1;refine C.kn<|Zaj<|C.s1<|SY (b:=mb) (r:=qr) (es:=es) (clock:=cl) (e:=e) (since:=cl) (seen:=seen) rfl rfl Ye Ye (mem_left he).1 hS.nd rfl aOJ ?_;rw[hek];refine Zaa rfl<|Zx rfl Tf.z285 rfl (fun q3=>Zv rfl Tf.s285 (bM.head)<|L.n3<|Zi rfl Tf.f285_0 rfl<|Zl rfl Tf.a3 rfl (List.Mem.head _) rfl<|Za rfl<|dJ rfl rfl rfl rfl trivial<|L.n1<|aE rfl (fun hc2=>?_) (fun hc2=>?_))
  ·refine C.rg<|Zu rfl Tf.a99 rfl (List.Mem.tail _ (List.Mem.tail _ (List.Mem.head _))) Tf.s99<|Zi rfl Tf.f285_1 rfl<|Zl rfl Tf.a3 rfl (List.Mem.head _) rfl<|Zd rfl (fun D1 hD1=>oA (lo,hi) ay _)<|Zv rfl Tf.s99 (.tail (.tail (bM.head)))<|Zab<|Zal ?_;exact aG 14 (seen.push e.born,min lo ay,max hi ay) (hI.yes hS he hek haS hc2) (left_shrinks _ _ _ he) ⟨rfl,aOJ⟩ rfl rfl (List.Sublist.cons _ (LE _)) (aD)
  ·refine bQ<|Zal ?_;exact aG 10 (seen.push e.born,lo,hi) (hI.no hS he hek haS hc2) (left_shrinks _ _ _ he) ⟨rfl,aOJ⟩ rfl rfl (List.Sublist.cons _ (LE _)) (aD)
 ·obtain⟨hz,rfl⟩:=hno hc1;have hfin:=hI.fin hS hsp htn hh hz;refine aQ<|Zak<|Zak<|Zan<|Zah<|C.s1<|Zu rfl Tf.a99 rfl (List.Mem.tail _ (List.Mem.head _)) Tf.s99<|Zv rfl Tf.s99 (.tail (.tail (bM.head)))<|L.n5 ?_;exact Zz [(_,_),(_,_),(_,_)] [] [_,_] [_] rfl ⟨⟨_,_,_,rfl,List.Mem.tail _ (List.Mem.tail _ (List.Mem.head _)),Or.inr ⟨Tf.a99,Tf.s99,rfl⟩⟩,aOJ⟩ rfl (fun D hD=>⟨hfin,rfl⟩)
end L2
end Go.Fs
namespace Go.Fs
open Go.Proofs
namespace L2
open L1
open C2
open C1 (fR cG pB nQ)
theorem DD{wb mb t cl:Nat}{cs:List Value}{es:Array MapEntry}:∀p∈[(wb,Obj.cells cs.toArray t (0,0)),(mb,.map es cl)],cN p.2:=by
 intro p hp;simp only[aIW,GT,aLT]at hp;rcases hp with rfl|rfl
 ·rfl
 ·trivial
def EJ(l:List (Int×Int)):List Value:=l.flatMap fun p=>[.int .i64 p.1,.int .i64 p.2]
theorem O8(l:List (Int×Int)):(EJ l).length=l.length*2:=by
 induction l with
 |nil=>rfl
 |cons p l ih=>unfold EJ at ih ⊢;rw[aKR,aIX,ih,aJD];simp;omega
theorem O5(l m:List (Int×Int)):EJ (l++m)=EJ l++EJ m:=aKE
theorem ZL{l:List (Int×Int)}{i:Nat}{p:Int×Int}(hi:l[i]?= some p):((EJ l).drop (i*2)).take 2=[.int .i64 p.1,.int .i64 p.2]:=by
  induction l generalizing i with
  |nil=>simp at hi
  |cons d l ih=>
    have hc:EJ (d::l)=[.int .i64 d.1,.int .i64 d.2]++EJ l:=rfl;rw[hc];cases i with
    | zero => obtain rfl : d = p := by simpa using hi
              rfl
    |succ i=>
      rw[show(i+1)*2=([.int .i64 d.1,.int .i64 d.2]:List Value).length+i*2 by simp;omega,aNI];exact ih Yaj
theorem _root_.Go.Fs.jN.rgs{D:aA}{v:Value}{n:Nat}{l:List (Int×Int)}(hF:jN D v n (EJ l))(hn:l.length=n)(hb:n≤9223372036854775807):Sl D E0 2 v l:=
 hF.sl hn hb fun _i _t hi=>⟨_,rfl,rfl,ZL hi⟩
def u9(t:aZ):List (Int×Int):=(List.range (t.last+1).toNat).map (qT t)
theorem HO{t:aZ}{k:Nat}(h:(k:Int)=t.last+1):(List.range k).map (qT t)=u9 t:=by unfold u9;rw[show(t.last+1).toNat=k by omega]
theorem WQ(s:List Int):(cO s).take s.length=s:=by unfold cO;rw[aNL]
def pK(s:List Int)(level:Int)(k:Nat):List Int:=((List.range k).filter fun j=>decide (level<s.getD j 0)).map fun j:Nat=>(j:Int)
theorem JZ(s:List Int)(level:Int)(k:Nat):(pK s level k).length≤k:=by
 unfold pK;rw[aLA];have:=aLZ (fun j=>decide (level<s.getD j 0)) (List.range k);rwa [List.length_range]at this
theorem aCL{s:List Int}{level x:Int}{k:Nat}(hx:s[k]?= some x)(h:level<x):pK s level (k+1)=pK s level k++[(k:Int)]:=by
 unfold pK;rw[aLG,aLP,aJN,aMQ,aJT (by rw[aKX,hx];simpa using h)];rfl
theorem aGG{s:List Int}{level x:Int}{k:Nat}(hx:s[k]?= some x)(h:¬level<x):pK s level (k+1)=pK s level k:=by
 unfold pK;rw[aLG,aLP,aJN,aMQ,aJM (by rw[aKX,hx];simpa using h)];simp
theorem H3(s:List Int)(level:Int):∃m:Nat,rQ s level=(m:Int)∧m≤s.length∧(∀j,j<m→s.getD j 0≤level)∧(m<s.length→level<s.getD m 0):=by
 refine⟨(s.takeWhile fun n=>decide (n≤level)).length,rfl,?_⟩;induction s with
 |nil=>exact⟨by simp,fun j h=>by simp at h,fun h=>by simp at h⟩
 |cons a s ih=>
  obtain⟨h1,h2,h3⟩:=ih;by_cases h:a≤level
  ·rw[List.takeWhile_cons,aJT Yai,aJD,aJD];refine⟨by omega,fun j hj=>?_,fun hj=>?_⟩
   ·cases j with
    |zero=>simpa using h
    |succ j=>simpa using h2 j Yd
   ·simpa using h3 Yd
  ·rw[List.takeWhile_cons,aJM Yai];exact⟨by simp,fun j hj=>by simp at hj,fun _=>by simp;omega⟩
theorem AO{s:List Int}{level:Int}{m:Nat}(h1:m<s.length)(h2:∀j,j<m→s.getD j 0≤level)(h3:level<s.getD m 0):(pK s level s.length)[0]?= some (m:Int):=by
 unfold pK;obtain⟨n,hn⟩:∃n,s.length=m+(n+1):=⟨s.length-m-1,by omega⟩
 rw[hn,List.range_add,aLP,List.filter_eq_nil_iff.2 (fun j hj=>by have:=h2 j (by simpa using hj);simpa using this),aKF,List.range_succ_eq_map,aJY,aMQ,aJT (by simpa using h3)];simp
theorem VT{s:List Int}{level:Int}(h:0<(pK s level s.length).length):(pK s level s.length)[(0:Int).toNat]?= some (rQ s level):=by
 obtain⟨m,hm,h1,h2,h3⟩:=H3 s level;rw[hm];by_cases hlt:m<s.length
 ·exact AO hlt h2 (h3 hlt)
 ·exfalso
  obtain rfl:m=s.length:=by omega
  unfold pK at h;rw[List.filter_eq_nil_iff.2 (fun j hj=>by have:=h2 j (by simpa using hj);simpa using this)]at h
  simp at h
theorem aCP{s:List Int}{level:Int}(h:¬0<(pK s level s.length).length):rQ s level=(s.length:Int):=by
 obtain⟨m,hm,h1,h2,h3⟩:=H3 s level;by_cases hlt:m<s.length
 ·exfalso
  have:=AO hlt h2 (h3 hlt);have:=(aJK.1 this).1;omega
 ·rw[hm,show m=s.length by omega]
theorem qD(tv:Value)(t:aZ)(D:aA)(ht:gT D tv t):Fn Tryz.prog 199 #[tv] D (fun D' v=>∃lv,v=.tuple #[lv,.int .i64 (kK t true)]∧Sl D' E0 2 lv (if kK t true=0 then u9 t else [])):=by
 have ht0:=ht;obtain⟨hv,lv,mv,rfl,hh,hl,hm⟩:=ht;refine enter 30 Tryz.func199 rfl rfl rfl rfl fun h0=>C.s1<|Zw rfl (fun q1 E1 hE1 hB1=>Zh rfl<|Zh rfl<|L.n3<|Zr rfl Tf.a32 rfl hB1 Tf.s32<|eJ rfl rfl rfl (fun D2 hD2=>pV _ t true _ (ht0.up (hD2 _ Ye))) rfl aOJ (fun v2 D3 ν2 hD3 hp2=>?_))
 obtain⟨wv,rfl,hwk⟩:=hp2;refine Za rfl<|Zaa rfl<|Zaa rfl<|Zh rfl<|Zh rfl<|L.n4<|Za rfl<|dZ rfl rfl rfl rfl trivial<|L.n1<|aE rfl (fun hc1=>?_) (fun hc1=>?_)
 ·refine C.s1<|Za rfl<|Zh rfl<|Zh rfl<|L.n5<|Zai ?_;exact Zm [_,_] rfl C.rs (fun D hD=>⟨_,rfl,by rw[aJM hc1];exact Sl.nil⟩)
 ·have he0:kK t true=0:=by omega
  obtain⟨hto,htn,wb,mb,hv2,lv2,mv2,tsv,es,cl,S,rfl,rfl,htw,hts,hS,hsp⟩:=hwk he0;have hlast:=hto.last;refine C.kn<|C.s1<|Zh rfl<|L.n4<|Zi rfl Tf.f32_0 rfl<|Zf 0 rfl Tf.a3 rfl hB1 rfl<|Zy rfl<|Za rfl<|L.n1<|Zaj<|cE (γ:=Nat×Value×aC) (fun g=>(t.last+1).toNat-g.1) (fun g=>(g.1:Int)≤t.last+1∧bL 99 2 g.2.1 g.1 (EJ ((List.range g.1).map (qT t))) g.2.2) (fun g=>[(19,.int .i64 (g.1:Int)),(6,g.2.1)]) [(18,_),(4,_),(3,_),(2,_)] (fun g=>g.2.2++[(wb,.cells [.int .i64 t.last,hv2,.int .i64 t.step,lv2,mv2,tsv,.map (some mb)].toArray 278 (0,0)),(mb,.map es cl)]) (fun g=>[D3,E1,D]) (0,.slice none 0 0,[]) ⟨by simp;omega,by simpa [EJ]using bL.nil⟩ ⟨Yb,Yb,aOJ⟩ C.rs (LE _) (aD) ?_
  rintro⟨k,v,ν⟩ ⟨h1,ha⟩;simp only at h1 ha;refine C.s1<|Zae rfl<|L.n2<|aE rfl (fun hc2=>?_) (fun hc2=>?_)
  ·have hk:(k:Int)≤t.last:=by simp only at hc2;omega
   refine C.kn<|aM<|Zaj<|C.s1<|Za rfl<|Zh rfl<|L.n1<|C.rg<|Za rfl<|Za rfl<|Za rfl<|R3 (A:=ν) (ν:=[(_,_),(_,_)]) rfl rfl rfl rfl (aJQ rfl) (DD (cs:=[_,_,_,_,_,_,_])) (fun D5 hD5=>BR t wb mb hv2 lv2 mv2 tsv es cl S k _ (hts.up S8.up (hD5 _ Ye)) htn hto hS hsp Yd) rfl aOJ (fun v5 D6 _ hD6 hp5=>?_);obtain⟨rfl,rfl⟩:=hp5;refine Zp rfl U29 Tf.s99 Tf.z99 rfl rfl rfl rfl (.cons rfl rfl .nil) (fun b901 D901 hD901 hA901=>aU (A:=[]) (B:=[(_,_),(_,_)]) rfl U29 rfl rfl Tf.s99 Tf.z99 rfl Tf.i99 rfl rfl rfl ha (jE.lit hA901) Ye rfl (by rw[O8];simp) Yi Yd (aJQ rfl) rfl aOJ (fun v1 ν1 ha1=>?_))
   have ha2:bL 99 2 v1 (k+1) (EJ ((List.range (k+1)).map (qT t))) ν1:=by rw[aLG,aJN,O5];exact ha1
   refine Zh rfl<|Zab<|Zal<|Zah<|C.rg<|Zy rfl<|Za rfl<|Zab ?_;exact aG 14 (k+1,v1,ν1) ⟨by simp only;omega,ha2⟩ Yl ⟨Yb,rfl,aOJ⟩ rfl rfl (LE _) (fun D h=>⟨D,LT _ (LT _ (h)),Le.refl D⟩)
  ·have hk:(k:Int)=t.last+1:=by simp only at hc2 h1;omega
   refine aQ<|Zak<|Zak<|Zan<|Zah<|C.s1<|Za rfl<|Zh rfl<|Zh rfl<|L.n5<|eK (A:=[]) (B:=[(_,_),(_,_)]) ha rfl (fun D8 hD8 hF8=>?_);exact Zm [_,_] rfl C.rs (fun D hD=>⟨_,by rw[he0];rfl,by rw[aJT he0];exact(HO Yd▸hF8.rgs Ye Yd).up E0.up (hD _ Ye)⟩)
theorem aFV(last step:Int)(hv lv mv:Value)(s:List Int)(level:Int)(D:aA)(hs:(s.length:Int)=last+1)(h10:s.length≤10):
  Fn Tryz.prog 141 #[.agg #[.int .i64 last,hv,.int .i64 step,lv,mv],.agg (ints (cO s)).toArray,.int .i64 level] D (fun D' v=>Sl D' RI 1 v (pK s level s.length)):=by
 have hp10:=eI h10;refine enter 28 Tryz.func141 rfl rfl rfl rfl fun h0=>C.s1<|Zw rfl (fun q1 E1 hE1 hB1=>Zw rfl (fun q2 E2 hE2 hB2=>Zh rfl<|L.n2<|aM ?_))
 have hsl:Sl E2 RI 1 (.slice (some ⟨q2,0,none⟩) s.length 10) s:=by have h:=JC (l:=0) (h:=s.length) hB2 hp10 Yd Yd Yd;rw[aMS,aML,aML]at h;rw[WQ]at h;exact h
 refine C.rg<|Zi rfl Tf.f32_0 rfl<|Zf 0 rfl Tf.a3 rfl hB1 rfl<|Zy rfl<|TX (h:=s.length) rfl U282 Tf.s3 rfl rfl Yd Yd rfl trivial<|iC rfl U25 rfl rfl rfl trivial<|Za rfl<|L.n1<|Zaj<|cE (γ:=Nat×Value×aC) (fun g=>s.length-g.1) (fun g=>g.1≤s.length∧bL 3 1 g.2.1 (pK s level g.1).length (ints (pK s level g.1)) g.2.2) (fun g=>[(14,.int .i64 (g.1:Int)),(6,g.2.1)]) [(13,_),(12,_),(2,_)] (fun g=>g.2.2++[]) (fun g=>[E2,E1,D]) (0,.slice none 0 0,[]) ⟨by simp,by simpa [ints,pK]using bL.nil⟩ ⟨Yb,Yb,aOJ⟩ C.rs (LE _) (aD) ?_;rintro⟨k,v,ν⟩ ⟨h1,ha⟩;simp only at h1 ha;refine C.s1<|Zae rfl<|L.n2<|aE rfl (fun hc1=>?_) (fun hc1=>?_)
 ·have hk:k<s.length:=by simp only at hc1;omega
  obtain⟨x,hx⟩:=C.ge s k;have hwl:=JZ s level k;refine C.kn<|aM<|Zaj<|C.s1<|Za rfl<|Zs rfl U25 Tf.s3 rfl hsl rfl hx (fun b1 o1 cs1 hr1 hcl1 hA1=>?_);obtain rfl:cs1=[.int .i64 _]:=hr1;refine Zf 0 rfl Tf.a3 rfl hA1 rfl<|Zh rfl<|Zh rfl<|L.n3<|Za rfl<|Za rfl<|eB rfl rfl rfl rfl trivial<|L.n1<|aE rfl (fun hc2=>?_) (fun hc2=>?_)
  ·refine C.rg<|Za rfl<|Za rfl<|Zp rfl U25 Tf.s3 Tf.z3 rfl rfl rfl rfl (.cons rfl rfl .nil) (fun b901 D901 hD901 hA901=>?_);have hS901:=Sl.ofInts (l:=[_]) (n:=1) (cap:=1) hA901 rfl Yd Yd;refine aU (A:=[]) (B:=_) rfl U25 rfl rfl Tf.s3 Tf.z3 rfl Tf.i3 rfl rfl rfl ha (jE.lit hA901) Ye rfl (by simp[ints]) Yi Yd (aJQ rfl) rfl aOJ (fun v1 ν1 ha1=>?_);have ha2:bL 3 1 v1 (pK s level (k+1)).length (ints (pK s level (k+1))) ν1:=by rw[aCL hx hc2,aIX,←eN];exact ha1
   refine Zh rfl<|Zab<|Zal<|Zah<|C.rg<|Zy rfl<|Za rfl<|Zab ?_;exact aG 18 (k+1,v1,ν1) ⟨by simp only;omega,ha2⟩ Yl ⟨Yb,rfl,aOJ⟩ rfl rfl (LE _) (fun D h=>⟨D,LT _ (h),Le.refl D⟩)
  ·refine bQ<|Zal<|Zah<|C.rg<|Zy rfl<|Za rfl<|Zab ?_;exact aG 13 (k+1,v,ν) ⟨by simp only;omega,by rw[aGG hx hc2];exact ha⟩ Yl ⟨Yb,rfl,aOJ⟩ rfl rfl (LE _) (aD)
 ·obtain rfl:k=s.length:=by simp only at hc1;omega
  have hwl:=JZ s level s.length;refine aQ<|Zak<|Zak<|Zan<|Zah<|C.s1<|Za rfl<|Zh rfl<|L.n5<|eK (A:=[]) (B:=[]) ha rfl (fun D8 hD8 hF=>?_);exact leave1 rfl rfl rfl rfl (fun D hD=>(hF.ints Ye Yd).up RI.up (hD _ Ye))
theorem GH(t:aZ)(wb mb:Nat)(hv lv mv tsv:Value)(es:Array MapEntry)(cl:Nat)(s:List Int)(level y:Int)(D:aA)(hs:(s.length:Int)=t.last+1)(h10:s.length≤10):
  S3 Tryz.prog 82 [.pointer (some ⟨wb,0,none⟩),.agg (ints (cO s)).toArray,.int .i64 level,.int .i64 y] D [(wb,.cells [.int .i64 t.last,hv,.int .i64 t.step,lv,mv,tsv,.map (some mb)].toArray 278 (0,0)),(mb,.map es cl)] (fun _ v ν'=>v=.int .i64 (rQ s level)∧ν'=[(wb,.cells [.int .i64 t.last,hv,.int .i64 t.step,lv,mv,tsv,.map (some mb)].toArray 278 (0,0)),(mb,.map es cl)]):=by
 have hp10:=eI h10;refine gC 29 Tryz.func82 rfl rfl rfl rfl (fun h0 hwl hwn=>C.s1<|Zw rfl (fun q1 E1 hE1 hB1=>Zh rfl<|L.n2<|aM<|C.drawA [] 4 8 48 (fun _ _ _ h=>bT (P:=Tryz.prog) (fn:=Tryz.f82) _ _ _ h)<|Za rfl<|Zaf rfl<|Zi rfl Tf.f278_0 rfl<|dE (us:=[.int .i64 t.last,hv,.int .i64 t.step,lv,mv]) rfl Tf.a32 Tf.s32 rfl (GE _) (by rfl) rfl GT rfl trivial<|cQ rfl Tf.a282 rfl hB1 Yc Yw GT rfl aOJ ?_));refine Za rfl<|Zt rfl (fun D1 hD1=>aFV t.last t.step hv lv mv s level _ hs h10) (fun v1 D1 hD1 hp1=>Zh rfl<|L.n3<|Za rfl<|aR rfl U25 rfl hp1 rfl rfl trivial<|eB rfl rfl rfl rfl trivial<|L.n1<|aE rfl (fun hc1=>?_) (fun hc1=>?_))
 ·have hw0:=VT (s:=s) (level:=level) Yd;refine C.s1<|Za rfl<|Zs rfl U25 Tf.s3 rfl hp1 rfl hw0 (fun b1 o1 cs1 hr1 hcl1 hA1=>?_);obtain rfl:cs1=[.int .i64 _]:=hr1;refine Zf 0 rfl Tf.a3 rfl hA1 rfl<|Zh rfl<|L.n5<|Zai ?_;exact Zz [] [] [_,_] [_] rfl ⟨rfl,aOJ⟩ rfl (fun D hD=>⟨rfl,rfl⟩)
 ·have hw1:=aCP (s:=s) (level:=level) Yd;refine C.kn<|C.s1<|Za rfl<|Zaf rfl<|Zi rfl Tf.f278_0 rfl<|Zi rfl Tf.f32_0 rfl<|Zl rfl Tf.a3 rfl (List.Mem.head _) rfl<|Zy rfl<|Zh rfl<|L.n5 ?_;exact Zz [] [] [_,_] [_] rfl ⟨rfl,aOJ⟩ rfl (fun D hD=>⟨by show Value.int _ _=_;rw[hw1,hs],rfl⟩)
theorem aEJ(t:aZ)(wb mb:Nat)(hv lv mv tsv:Value)(es:Array MapEntry)(cl:Nat)(s:List Int)(a b:Int)(D:aA)(hs:(s.length:Int)=t.last+1)(h10:s.length≤10)(ha0:0≤a)(hab:a≤b)(hbl:b≤t.last):
  S3 Tryz.prog 85 [.pointer (some ⟨wb,0,none⟩),.agg (ints (cO s)).toArray,.int .i64 a,.int .i64 b] D [(wb,.cells [.int .i64 t.last,hv,.int .i64 t.step,lv,mv,tsv,.map (some mb)].toArray 278 (0,0)),(mb,.map es cl)] (fun _ v ν'=>v=.int .i64 (jH s a b)∧ν'=[(wb,.cells [.int .i64 t.last,hv,.int .i64 t.step,lv,mv,tsv,.map (some mb)].toArray 278 (0,0)),(mb,.map es cl)]):=by
 have hp10:=eI h10;refine gC 13 Tryz.func85 rfl rfl rfl rfl (fun h0 hwl hwn=>C.s1<|Zw rfl (fun q1 E1 hE1 hB1=>Zh rfl<|L.n3<|cQ rfl Tf.a282 rfl hB1 Yc Yw GT rfl trivial<|Za rfl<|Za rfl<|Zd rfl (fun D1 hD1=>I8 (cO s) a b _ hp10 ha0 hab Yd)<|Zh rfl<|L.n5 ?_));exact Zz [] [] [_,_] [_] rfl ⟨rfl,aOJ⟩ rfl (fun D hD=>⟨by show Value.int _ _=_;rw[tO ha0 hab Yd],rfl⟩)
end L2
end Go.Fs
namespace Go.Fs
open Go.Proofs
namespace L2
open L1
open C2
open C1 (fR cG pB nQ)
def EB(F:List Int→Int)(n:Int)(l:List (List Int)):Int×Int:=l.foldl (fun p s=>(min p.1 (F s),max p.2 (F s))) (n,n)
theorem YZ{t:aZ}{F:List Int→Int}{n:Int}{k:Nat}{u:List Int}(hx:(bH t)[k]?= some u):EB F n ((bH t).take (k+1))=(min (EB F n ((bH t).take k)).1 (F u),max (EB F n ((bH t).take k)).2 (F u)):=by
 unfold EB;rw[aJP,hx,aLE];rfl
theorem AY(F:List Int→Int):∀(l:List (List Int)) (p:Int×Int),l.foldl (fun p s=>(min p.1 (F s),max p.2 (F s))) p=((l.map F).foldl min p.1,(l.map F).foldl max p.2)
 | [],_=>rfl
 |s::l,p=>by rw[aLK,AY F l];rfl
theorem aCK{t:aZ}{F:List Int→Int}{s0:List Int}{lo hi:Int}(hs0:(bH t)[0]?= some s0)(h:(lo,hi)=EB F (F s0) (bH t)):iU (lo,hi)=iU (pB ((bH t).map F),nQ ((bH t).map F)):=by
 rw[h];cases ht:bH t with
 |nil=>rw[ht]at hs0;simp at hs0
 |cons a l=>
  rw[ht]at hs0;obtain rfl:a=s0:=by simpa using hs0
  unfold EB;rw[AY,aJY,aLK,aLK,Int.min_self,Int.max_self];rfl
theorem yA{t:aZ}{fine:Bool}(h:kK t fine=0):fine=true:=by
 unfold kK at h;split at h
 ·rename_i hf;exact absurd h hf
 ·split at h
  ·omega
  ·rename_i hf;simpa using hf
theorem GA{last a b:Int}(h:nU last a b=true):0≤a∧a≤b∧b≤last:=by
 unfold nU W0 at h;simp only[aJI,aJV,cG]at h;omega
theorem H4(t:aZ)(wb mb:Nat)(hv lv mv tsv:Value)(es:Array MapEntry)(cl:Nat)(F:List Int→Int)(fid:Nat)(x y:Int)(D:aA)(hts:Sl D S8 10 tsv (bH t))(htn:bH t≠[])(hto:x9 t)
  (hf:∀s∈bH t,∀D',Le D D'→S3 Tryz.prog fid [.pointer (some ⟨wb,0,none⟩),.agg (ints (cO s)).toArray,.int .i64 x,.int .i64 y] D' [(wb,.cells [.int .i64 t.last,hv,.int .i64 t.step,lv,mv,tsv,.map (some mb)].toArray 278 (0,0)),(mb,.map es cl)] (fun _ v ν'=>v=.int .i64 (F s)∧ν'=[(wb,.cells [.int .i64 t.last,hv,.int .i64 t.step,lv,mv,tsv,.map (some mb)].toArray 278 (0,0)),(mb,.map es cl)])):
  S3 Tryz.prog 83 [.agg #[.func (.func fid) #[] #[]],.pointer (some ⟨wb,0,none⟩),.int .i64 x,.int .i64 y] D [(wb,.cells [.int .i64 t.last,hv,.int .i64 t.step,lv,mv,tsv,.map (some mb)].toArray 278 (0,0)),(mb,.map es cl)] (fun _ v ν'=>v=iU (pB ((bH t).map F),nQ ((bH t).map F))∧ν'=[(wb,.cells [.int .i64 t.last,hv,.int .i64 t.step,lv,mv,tsv,.map (some mb)].toArray 278 (0,0)),(mb,.map es cl)]):=by
 have hll:=hts.len;have hlast:=hto.last;have hsl1:=hto.len;obtain⟨s0,hs0⟩:∃s,(bH t)[0]?= some s:=⟨(bH t)[0]'(aMH.2 htn),aJC _⟩
 have hs0m:=aJA hs0;have hsl0:=lX hto hs0m;have hp100:=eI (l:=s0) Yd;refine gC 48 Tryz.func83 rfl rfl rfl rfl (fun h0 hwl hwn=>C.s1<|Zw rfl (fun q1 E1 hE1 hB1=>Zx rfl Tf.z99 rfl (fun q2=>L.n2<|C.drawA [] 6 13 2044 (fun _ _ _ h=>bT (P:=Tryz.prog) (fn:=Tryz.f83) _ _ _ h)<|Zi rfl Tf.f195_0 rfl<|Zf 0 rfl Tf.a192 rfl hB1 rfl<|Za rfl<|Za rfl<|Zaf rfl<|Zi rfl Tf.f278_1 rfl ?_)));refine Zl rfl Tf.a276 rfl (List.Mem.tail _ (List.Mem.head _)) rfl<|Zs rfl U276 Tf.s282 rfl hts rfl hs0 (fun b1 o1 cs1 hr1 hcl1 hA1=>?_);obtain rfl:cs1=ints (cO _):=hr1;refine cQ rfl Tf.a282 rfl hA1 Yc (by first|exact Tf.s282|(simp only[*];exact Tf.s282)) GT rfl trivial<|Za rfl<|Za rfl<|R3 (A:=[(_,_)]) (ν:=[(_,_),(_,_)]) rfl rfl rfl rfl (by first|exact Or.inl rfl|exact Or.inr Ye) (DD (cs:=[_,_,_,_,_,_,_])) (fun D5 hD5=>hf s0 hs0m _ (hD5 _ Ye)) rfl aOJ (fun v5 D6 _ hD6 hp5=>?_)
 obtain⟨rfl,rfl⟩:=hp5;refine Zh rfl<|L.n3<|Za rfl<|Za rfl<|Zq [.int .i64 (F s0),.int .i64 (F s0)] rfl Tf.p99 Tf.z99 rfl rfl<|Zx rfl Tf.z99 rfl (fun q3=>Zv rfl Tf.s99 (bM.head)<|L.n4<|Za rfl<|Zaf rfl<|Zi rfl Tf.f278_1 rfl<|Zl rfl Tf.a276 rfl (List.Mem.tail _ (List.Mem.tail _ (List.Mem.head _))) rfl ?_);refine aR rfl U276 rfl hts rfl rfl trivial<|Za rfl<|L.n1<|Zaj<|cE (γ:=Nat×Int×Int) (fun g=>(bH t).length-g.1) (fun g=>g.1≤(bH t).length∧g.2=EB F (F s0) ((bH t).take g.1)) (fun g=>[(33,.int .i64 (g.1:Int))]) [(32,_),(31,_),(10,_),(8,_),(4,_),(1,_),(2,_),(3,_)] (fun g=>[(q3,.cells [.int .i64 g.2.1,.int .i64 g.2.2].toArray 99 (0,0)),(q2,.cells [.int .i64 0,.int .i64 0].toArray 99 (0,0))]++[(wb,.cells [.int .i64 t.last,hv,.int .i64 t.step,lv,mv,tsv,.map (some mb)].toArray 278 (0,0)),(mb,.map es cl)]) (fun g=>[D6,E1,D]) (0,F s0,F s0) ⟨by simp,rfl⟩ ⟨Yb,aOJ⟩ C.rs (LE _) (aD) ?_;rintro⟨k,lo,hi⟩ ⟨h1,hI⟩;simp only at h1 hI;refine C.s1<|Zae rfl<|L.n2<|aE rfl (fun hc1=>?_) (fun hc1=>?_)
 ·have hk:k<(bH t).length:=by simp only at hc1;omega
  obtain⟨u,hx⟩:=C.ge (bH t) k;have hum:=aJA hx;have hul:=lX hto hum;have hp10:=eI (l:=u) Yd;refine C.kn<|aM<|Zaj<|C.s1<|Zs rfl U276 Tf.s282 rfl hts rfl hx (fun b2 o2 cs2 hr2 hcl2 hA2=>?_);obtain rfl:cs2=ints (cO _):=hr2;refine cQ rfl Tf.a282 rfl hA2 Yc (by first|exact Tf.s282|(simp only[*];exact Tf.s282)) GT rfl trivial<|Zx rfl Tf.z282 rfl (fun q4=>aW rfl rfl rfl rfl Tf.s282 Yad Ya (bM.head) Yh trivial<|L.n1<|iS hB1 Ye (fun hq1k=>?_))
  have hq1:q1∉[wb,mb]:=fun h=>hq1k (aJB _ (aJB _ (aJB _ h)))
  refine rZ (fun hnd=>?_);simp only[aJY,aNC,aKW,aIW,GT,aLT,not_or,aLO,aKF]at hnd;have hq3:q3∉[wb,mb]:=by simp only[aIW,GT,aLT,not_or];exact⟨hnd.2.1.2.1,hnd.2.1.2.2⟩
  have hq4:q4∉[wb,mb]:=by simp only[aIW,GT,aLT,not_or];exact⟨hnd.1.2.2.1,hnd.1.2.2.2⟩
  refine iW [wb,mb] 3 [0,1,2,3,4,5,6,7,8,9] [false,true,true,true,true,true,true,true,false,false] [(false,0),(true,1),(true,2),(true,3),(true,4),(true,5),(true,6),(true,7),(false,8),(false,9)] Tf.follows (fun _ _ _ h=>bT (P:=Tryz.prog) (fn:=Tryz.f83) _ _ _ h) Yg rfl<|bJ rfl Tf.a99 rfl (List.Mem.tail _ (List.Mem.head _)) Tf.s99 Yj rfl trivial<|Zi rfl Tf.f195_0 rfl<|bC rfl (k:=0) Tf.a192 rfl hB1 Yc rfl Yj rfl trivial<|Za rfl<|bJ rfl Tf.a282 rfl (List.Mem.head _) (by first|exact Tf.s282|(simp only[*];exact Tf.s282)) Yj rfl trivial<|Za rfl<|Za rfl<|R3 (A:=[(_,_),(_,_),(_,_)]) (ν:=[(_,_),(_,_)]) rfl rfl rfl rfl (by first|exact Or.inl rfl|exact Or.inr Ye) (DD (cs:=[_,_,_,_,_,_,_])) (fun D7 hD7=>hf u hum _ (hD7 _ Ye)) rfl aOJ (fun v7 D8 _ hD8 hp7=>?_);obtain⟨rfl,rfl⟩:=hp7;refine Zd rfl (fun D1 hD1=>oA (lo,hi) (F u) _)<|Zv rfl Tf.s99 (.tail (bM.head))<|Zab<|Zal<|Zah<|C.rg<|Zy rfl<|Za rfl<|Zab ?_;exact aG 16 (k+1,min lo (F u),max hi (F u)) ⟨by simp only;omega,by rw[YZ hx,←hI]⟩ Yl ⟨Yb,aOJ⟩ rfl rfl (List.Sublist.cons _ (LE _)) (fun D h=>⟨D,LT _ (h),Le.refl D⟩)
 ·obtain rfl:k=(bH t).length:=by simp only at hc1;omega
  rw[aKN]at hI;have hfin:=aCK hs0 hI;refine aQ<|Zak<|Zak<|Zan<|Zah<|C.s1<|Zu rfl Tf.a99 rfl (List.Mem.head _) Tf.s99<|Zv rfl Tf.s99 (.tail (bM.head))<|L.n5 ?_;exact Zz [(_,_),(_,_)] [] [_,_] [_] rfl ⟨⟨_,_,_,rfl,List.Mem.tail _ (List.Mem.head _),Or.inr ⟨Tf.a99,Tf.s99,rfl⟩⟩,aOJ⟩ rfl (fun D hD=>⟨hfin,rfl⟩)
theorem RX(tv:Value)(t:aZ)(row:Int)(D:aA)(ht:gT D tv t):Fn Tryz.prog 46 #[tv,.int .i64 row] D (fun _ v=>v=.tuple #[iU (if kK t (fR row 0 ((t.levels.length:Int)-1))=0 then XY t (t.levels.getD row.toNat 0)else(0,0)),.int .i64 (kK t (fR row 0 ((t.levels.length:Int)-1)))]):=by
 have ht0:=ht;obtain⟨hv,lv,mv,rfl,hh,hl,hm⟩:=ht;refine enter 28 Tryz.func46 rfl rfl rfl rfl fun h0=>C.s1<|Zw rfl (fun q1 E1 hE1 hB1=>Zx rfl Tf.z99 rfl (fun q2=>Zh rfl<|L.n2<|C.drawA [] 4 10 398 (fun _ _ _ h=>cA (P:=Tryz.prog) (fn:=Tryz.f46) _ _ _ h)<|Zr rfl Tf.a32 rfl hB1 Tf.s32<|Zr rfl Tf.a32 rfl hB1 Tf.s32<|Za rfl<|Zd rfl (fun D1 hD1=>aFH _ t row _ (ht0.up (hD1 _ Ye)))<|eJ rfl rfl rfl (fun D3 hD3=>pV _ t (fR row 0 ((t.levels.length:Int)-1)) _ (ht0.up (hD3 _ Ye))) rfl aOJ (fun v3 D4 ν3 hD4 hp3=>?_)))
 obtain⟨wv,rfl,hwk⟩:=hp3;refine Za rfl<|Zaa rfl<|Zaa rfl<|Zh rfl<|Zh rfl<|L.n4<|Za rfl<|dZ rfl rfl rfl rfl trivial<|L.n1<|aE rfl (fun hc1=>?_) (fun hc1=>?_)
 ·refine C.s1<|Zq [.int .i64 0,.int .i64 0] rfl Tf.p99 Tf.z99 rfl rfl<|Za rfl<|Zv rfl Tf.s99 (.app (bM.head))<|Zh rfl<|L.n5<|Zai ?_;exact Zm [_,_] rfl ⟨⟨_,_,_,rfl,(aIZ _ (List.Mem.head _)),Or.inr ⟨Tf.a99,(by first|exact Tf.s99|(simp only[aKH,aH, *];exact Tf.s99)),rfl⟩⟩,rfl,aOJ⟩ (fun D hD=>by show Value.tuple _=_;rw[aJM hc1];rfl)
 ·have he0:kK t (fR row 0 ((t.levels.length:Int)-1))=0:=by omega
  obtain⟨hto,htn,wb,mb,hv2,lv2,mv2,tsv,es,cl,S,rfl,rfl,htw,hts,hS,hsp⟩:=hwk he0;have hrow:=yA he0;rw[cG]at hrow;have hlev:t.levels[row.toNat]?= some (t.levels.getD row.toNat 0):=by rw[aKX,aJC Yd];rfl
  refine C.kn<|C.s1<|Zq [.func (.func 82) #[] #[]] rfl Tf.p195 Tf.z195 rfl rfl<|Za rfl<|Zi rfl Tf.f32_3 rfl<|Zf 3 rfl Tf.a25 rfl hB1 rfl<|Za rfl<|Zs rfl U25 Tf.s3 rfl hl rfl hlev (fun b1 o1 cs1 hr1 hcl1 hA1=>?_);obtain rfl:cs1=[.int .i64 _]:=hr1;refine Zf 0 rfl Tf.a3 rfl hA1 rfl<|eA (A:=[]) (ν:=[(_,_),(_,_)]) (B:=[(_,_)]) rfl rfl rfl rfl (by first|exact Or.inl rfl|exact Or.inr Ye) (DD (cs:=[_,_,_,_,_,_,_])) (fun D7 hD7=>H4 t wb mb hv2 lv2 mv2 tsv es cl (rQ · (t.levels.getD row.toNat 0)) _ _ _ _ (hts.up S8.up (hD7 _ Ye)) htn hto (fun s hsm D' hD'=>GH t wb mb hv2 lv2 mv2 tsv es cl s _ _ D' (by have:=lX hto hsm;have:=hto.len;omega) (by have:=lX hto hsm;have:=hto.len10;omega))) rfl aOJ (fun v7 D8 _ hD8 hp7=>?_)
  obtain⟨rfl,rfl⟩:=hp7;refine Zv rfl Tf.s99 (.tail (.tail (bM.head)))<|Zh rfl<|L.n5 ?_;exact Zm [_,_] rfl ⟨⟨_,_,_,rfl,(List.Mem.tail _ (List.Mem.tail _ (List.Mem.head _))),Or.inr ⟨Tf.a99,(by first|exact Tf.s99|(simp only[aKH,aH, *];exact Tf.s99)),rfl⟩⟩,rfl,aOJ⟩ (fun D hD=>by show Value.tuple _=_;rw[aJT he0,he0];rfl)
theorem aFQ(tv:Value)(t:aZ)(a b:Int)(D:aA)(ht:gT D tv t):Fn Tryz.prog 47 #[tv,.int .i64 a,.int .i64 b] D (fun _ v=>v=.tuple #[.int .i64 (if kK t (nU t.last a b)=0 then aHS t a b else 0),.int .i64 (kK t (nU t.last a b))]):=by
 have ht0:=ht;obtain⟨hv,lv,mv,rfl,hh,hl,hm⟩:=ht;refine enter 28 Tryz.func47 rfl rfl rfl rfl fun h0=>C.s1<|Zw rfl (fun q1 E1 hE1 hB1=>Zh rfl<|Zh rfl<|L.n2<|C.drawA [] 4 11 798 (fun _ _ _ h=>cA (P:=Tryz.prog) (fn:=Tryz.f47) _ _ _ h)<|Zr rfl Tf.a32 rfl hB1 Tf.s32<|Zr rfl Tf.a32 rfl hB1 Tf.s32<|Za rfl<|Za rfl<|Zd rfl (fun D1 hD1=>AJ _ t a b _ (ht0.up (hD1 _ Ye))) ?_);refine eJ rfl rfl rfl (fun D3 hD3=>pV _ t (nU t.last a b) _ (ht0.up (hD3 _ Ye))) rfl aOJ (fun v3 D4 ν3 hD4 hp3=>?_)
 obtain⟨wv,rfl,hwk⟩:=hp3;refine Za rfl<|Zaa rfl<|Zaa rfl<|Zh rfl<|Zh rfl<|L.n4<|Za rfl<|dZ rfl rfl rfl rfl trivial<|L.n1<|aE rfl (fun hc1=>?_) (fun hc1=>?_)
 ·refine C.s1<|Za rfl<|Zh rfl<|Zh rfl<|L.n5<|Zai ?_;exact Zm [_,_] rfl C.rs (fun D hD=>by show Value.tuple _=_;rw[aJM hc1])
 ·have he0:kK t (nU t.last a b)=0:=by omega
  obtain⟨hto,htn,wb,mb,hv2,lv2,mv2,tsv,es,cl,S,rfl,rfl,htw,hts,hS,hsp⟩:=hwk he0;have hrow:=GA (yA he0);refine C.kn<|C.s1<|Zq [.func (.func 85) #[] #[]] rfl Tf.p195 Tf.z195 rfl rfl<|Za rfl<|Za rfl<|Za rfl<|eA (A:=[]) (ν:=[(_,_),(_,_)]) (B:=[]) rfl rfl rfl rfl (by first|exact Or.inl rfl|exact Or.inr Ye) (DD (cs:=[_,_,_,_,_,_,_])) (fun D7 hD7=>H4 t wb mb hv2 lv2 mv2 tsv es cl (jH · a b) _ _ _ _ (hts.up S8.up (hD7 _ Ye)) htn hto (fun s hsm D' hD'=>aEJ t wb mb hv2 lv2 mv2 tsv es cl s _ _ D' (by have:=lX hto hsm;have:=hto.len;omega) (by have:=lX hto hsm;have:=hto.len10;omega) hrow.1 hrow.2.1 hrow.2.2)) rfl aOJ (fun v7 D8 _ hD8 hp7=>?_)
  obtain⟨rfl,rfl⟩:=hp7;refine aCI rfl U99 rfl Tf.a3 rfl rfl rfl trivial<|Zh rfl<|Zh rfl<|L.n5 ?_;exact Zm [_,_] rfl C.rs (fun D hD=>by show Value.tuple _=_;rw[aJT he0,he0];rfl)
end L2
end Go.Fs
namespace Go.Fs
open Go.Proofs
namespace L3
open L1
open C1
open C1
open C1
end L3
end Go.Fs
