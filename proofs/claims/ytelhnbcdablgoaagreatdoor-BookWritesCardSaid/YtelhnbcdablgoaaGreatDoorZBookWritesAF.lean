/- Of the proof of BookWrites: SW3, SW4, SW5, Pair, Pairs, Nu, Mend, SW6, SW7, SW8, UW3, UW4, UW5, UW6, UW7, V1. -/
import Derived.Test.YtelhnbcdablgoaaGreatDoorZBookWritesAE
import Derived.Test.YtelhnbcdablgoaaGreatDoorZBookWritesAC
import Derived.Test.YtelhnbcdablgoaaGreatDoorZBookWritesAD
namespace Go.Fs
open Go.Proofs
namespace L7
open C7
def y3(l:List Int):Nat:=(l.filter fun n=>decide (n=2)).length
theorem WV(l:List Int):y3 l≤l.length:=aJI _ _
theorem aDF(l:List Ch):iH l≤3*l.length:=by
 induction l with
 |nil=>simp[iH]
 |cons c l ih=>
  have:aBV c.parts≤3:=aJI _ _;simp only[iH,aHB,List.sum_cons,aGM]at ih ⊢
  omega
theorem OV{l:List Ch}{i:Nat}{x:Ch}(hx:l[i]?= some x):((iH (l.take (i+1)):Nat):Int)=((iH (l.take i)+y3 (x.parts.l.take 3):Nat):Int):=by
 rw[aGT,hx];simp[iH,aBV,y3,Pt.l]
theorem YU{x:Ch}{k:Nat}{n:Int}(hx:hC x=true)(hn:x.parts.l[k]?= some n):0≤n∧n≤2:=by
 simp only[hC,aGO,IY,aGY]at hx;have:=hx.2 n (aGD hn);simpa [fL]using this
theorem NH{l:List Int}{k u:Nat}{n:Int}(hn:l[k]?= some n)(h:0≤n∧n≤2):((u+y3 (l.take (k+1)):Nat):Int)=((u+y3 (l.take k):Nat):Int)+n / 2:=by
 rw[aGT,hn];simp only[y3,aIB,aJG,aGC];by_cases h2:n=2
 ·subst h2;simp;omega
 ·simp[h2];omega
theorem VC{y:bI}(h:(decide ((7:Int)<y.chairs.length)||decide ((5:Int)<y.claims.length))=true):aT y=3:=by
 simp only[aIC,aGZ]at h;unfold aT;rw[aGX Yd]
theorem j7{y:bI}(h:(decide ((7:Int)<y.chairs.length)||decide ((5:Int)<y.claims.length))=false):¬(7<y.chairs.length∨5<y.claims.length):=by
 simp only[aJM,aIT]at h;omega
theorem aDA{y:bI}(h:(decide ((7:Int)<y.chairs.length)||decide ((5:Int)<y.claims.length))=false)(h2:((!fL y.fit 0 9|| !y.chairs.all hC)|| !y.claims.all kM)=true):aT y=1:=by
 unfold aT;rw[aGQ (j7 h),aGX]
 revert h2;unfold uV
 generalize fL y.fit 0 9=a,y.chairs.all hC=b,y.claims.all kM=c;cases a<;>cases b<;>cases c<;>decide
theorem EI{y:bI}(h2:((!fL y.fit 0 9|| !y.chairs.all hC)|| !y.claims.all kM)=false):uV y=true:=by
 revert h2;unfold uV
 generalize fL y.fit 0 9=a,y.chairs.all hC=b,y.claims.all kM=c;cases a<;>cases b<;>cases c<;>decide
theorem aEV{y:bI}(h:(decide ((7:Int)<y.chairs.length)||decide ((5:Int)<y.claims.length))=false)(h2:((!fL y.fit 0 9|| !y.chairs.all hC)|| !y.claims.all kM)=false):y.chairs.length≤7∧∀x∈y.chairs,hC x=true:=by
 have h3:=EI h2;simp only[uV,aGO,aGY]at h3;have:=j7 h;exact⟨by omega,h3.1.2⟩
theorem XO{y:bI}(h:(decide ((7:Int)<y.chairs.length)||decide ((5:Int)<y.claims.length))=false)(h2:((!fL y.fit 0 9|| !y.chairs.all hC)|| !y.claims.all kM)=false)(h3:(8:Int)<iH y.chairs):aT y=3:=by
 unfold aT;rw[aGQ (j7 h),aGQ (by rw[EI h2];simp),aGX Yd]
theorem XC{y:bI}(h:(decide ((7:Int)<y.chairs.length)||decide ((5:Int)<y.claims.length))=false)(h2:((!fL y.fit 0 9|| !y.chairs.all hC)|| !y.claims.all kM)=false)(h3:¬(8:Int)<iH y.chairs):aT y=0:=by
 unfold aT;rw[aGQ (j7 h),aGQ (by rw[EI h2];simp),aGQ Yd]
theorem aCV{p:Pt}{k:Nat}{m:Int}(h:p.l[k]?= some m):([.int .i64 p.a,.int .i64 p.b,.int .i64 p.c]:List Value)[k*1]?= some (.int .i64 m):=by
 rw[aIR,show([.int .i64 p.a,.int .i64 p.b,.int .i64 p.c]:List Value)=p.l.map (Value.int .i64)from rfl,aHD,h];rfl
theorem qT(yv:Value)(y:bI)(D:aA)(hy:lE D yv y):Fn Tryz.prog 96 #[yv] D (fun _ v=>v=.int .i64 (aT y)):=by
 have hy0:=hy;obtain⟨cv,qv,rfl,hc,hq⟩:=hy;refine enter 60 Tryz.func96 rfl rfl rfl rfl fun h0=>C.s1<|Zv rfl (fun q1 E1 hE1 hB1=>Zh rfl<|L.n3<|Zr rfl Tf.a40 rfl hB1 Tf.s40<|bB rfl rfl rfl rfl trivial<|Zh rfl<|L.n2<|Zah<|C.s1<|Zi rfl Tf.f40_0 rfl ?_);refine Zf 0 rfl Tf.a37 rfl hB1 rfl<|aV rfl U37 rfl hc rfl rfl trivial<|eT rfl rfl rfl rfl trivial<|Za rfl ?_
 refine' L.orK 5 (s:=16) (p:=21) rfl (fun hg1=>?_) (fun hg1=>?_) ?_;rotate_left
 ·refine Zj rfl Tf.f40_2 rfl<|Zg 2 rfl Tf.a38 rfl hB1 rfl<|aV rfl U38 rfl hq rfl rfl ⟨_,rfl,rfl⟩<|eT rfl rfl rfl rfl ⟨_,rfl,rfl⟩<|Zac rfl ?_;exact L.cu 4
 ·refine Zk rfl<|Zk rfl<|Zk rfl<|Zk rfl<|Zab rfl ?_;exact L.cu 4
 refine Zh rfl<|L.n1<|aQ rfl (fun hc1=>?_) (fun hc1=>?_)
 ·refine C.s1<|Zh rfl<|L.n5<|aG<|Zaj ?_;exact leave1 rfl rfl rfl rfl (fun D hD=>by show Value.int _ _=_;rw[VC hc1])
 ·refine C.s1<|Zi rfl Tf.f40_1 rfl<|Zf 1 rfl Tf.a3 rfl hB1 rfl<|Zc rfl (fun D1 hD1=>dG _ _ _ _)<|Zaf rfl<|Za rfl ?_;refine' L.orK 5 (s:=27) (p:=32) rfl (fun hg2=>?_) (fun hg2=>?_) ?_;rotate_left
  ·refine Zj rfl Tf.f40_0 rfl<|Zg 0 rfl Tf.a37 rfl hB1 rfl<|Zd rfl (fun D2 hD2=>m9 _ _ _ hC _ (Sl.at rC.up hD2 Yk Ye) (.of fun x D2=>R0 x D2) rfl)<|iW rfl rfl rfl ⟨_,rfl,rfl⟩<|Zac rfl ?_;exact L.cu 4
  ·refine Zk rfl<|Zk rfl<|Zk rfl<|Zk rfl<|Zab rfl ?_;exact L.cu 4
  refine Za rfl ?_;refine' L.orK 6 (s:=33) (p:=39) rfl (fun hg3=>?_) (fun hg3=>?_) ?_;rotate_left
  ·refine Zj rfl Tf.f40_2 rfl<|Zg 2 rfl Tf.a38 rfl hB1 rfl<|Zb rfl<|Zd rfl (fun D3 hD3=>g8 _ _ _ kM _ (Sl.at R2.up hD3 Yk Ye) ⟨_,[_],[],rfl,fun r D2 hl=>TY _ y r D2 (hy0.up ((hD3 _ Ye).trans hl))⟩ rfl)<|iW rfl rfl rfl ⟨_,rfl,rfl⟩<|Zac rfl ?_;exact L.cu 5
  ·refine Zk rfl<|Zk rfl<|Zk rfl<|Zk rfl<|Zk rfl<|Zab rfl ?_;exact L.cu 5
  refine Zh rfl<|L.n1<|aQ rfl (fun hc2=>?_) (fun hc2=>?_)
  ·refine C.s1<|Zh rfl<|L.n5<|aG<|Zaj ?_;exact leave1 rfl rfl rfl rfl (fun D hD=>by show Value.int _ _=_;rw[aDA hc1 hc2])
  ·obtain⟨hl7,hok⟩:=aEV hc1 hc2;refine bR<|Zak<|Zag<|C.s1<|Zh rfl<|L.n4<|Zi rfl Tf.f40_0 rfl<|Zf 0 rfl Tf.a37 rfl hB1 rfl<|aV rfl U37 rfl hc rfl rfl trivial<|Za rfl<|L.n1<|Zah ?_;refine cG (γ:=Nat) (fun i=>y.chairs.length-i) (fun i=>i≤y.chairs.length) (fun i=>[(43,.int .i64 (i:Int)),(4,.int .i64 (iH (y.chairs.take i):Int))]) [(42,_),(41,_),(2,_)] (fun i=>[E1,D]) 0 Yd ⟨Yb,(by simp[iH];rfl),aLJ⟩ C.rs (aD) ?_
   rintro i h1;refine C.s1<|Zad rfl<|L.n2<|aE rfl (fun hc3=>?_) (fun hc3=>?_)
   ·have hi:i<y.chairs.length:=by omega
    obtain⟨x,hx⟩:=C.ge y.chairs i;have hxo:=hok x (aGD hx);have hub:=aDF (y.chairs.take i);have hut:(y.chairs.take i).length≤i:=aKX _ _;refine C.kn<|aL<|Zah<|C.s1<|Zs rfl U37 Tf.s103 rfl hc rfl hx (fun b1 o1 cs1 hr1 hcl1 hA1=>?_);obtain rfl:cs1=[.int .i64 _,.int .i64 _,.int .i64 _,.int .i64 _]:=hr1;refine Zr rfl Tf.a103 rfl hA1 Tf.s103<|Zw rfl Tf.z103 rfl (fun q2=>Zu rfl Tf.s103 (bL.head)<|L.n3<|Zi rfl Tf.f103_1 rfl<|dA rfl Tf.a101 Tf.s101 rfl (List.Mem.head _) rfl rfl GT rfl trivial<|Za rfl<|L.n1<|Zah<|cG (γ:=Nat) (fun k=>3-k) (fun k=>k≤3) (fun k=>[(49,.int .i64 (k:Int)),(4,.int .i64 ((iH (y.chairs.take i)+y3 (x.parts.l.take k):Nat):Int))]) [(48,_),(47,_),(6,_),(46,_),(45,_),(44,_),(43,_),(42,_),(41,_),(2,_)] (fun k=>[E1,D]) 0 Yd ⟨Yb,(by simp[y3];rfl),aLJ⟩ C.rs (aD) ?_)
    rintro k h2;refine C.s1<|Zad rfl<|L.n2<|aE rfl (fun hc4=>?_) (fun hc4=>?_)
    ·have hk3:k<3:=by omega
     obtain⟨n,hn⟩:∃n,x.parts.l[k]?= some n:=⟨_,aGF (by simp[Pt.l];omega)⟩
     have hn2:=YU hxo hn;have hkl:=WV (x.parts.l.take k);have hkt:(x.parts.l.take k).length≤k:=aKX _ _;refine C.kn<|aL<|Zah<|C.s1<|P5 (l:=x.parts.l) rfl U101 Tf.a3 Tf.s3 rfl rfl Yd Yd hn rfl trivial<|Zh rfl<|L.n1<|C.rg<|Za rfl<|Za rfl<|N3 rfl rfl rfl Yd Yd Yf rfl trivial<|Zx rfl ?_;refine Zh rfl<|Zz<|Zak<|Zag<|C.rg<|Zx rfl<|Za rfl<|Zz ?_;exact aH 12 (k+1) Yd Yd ⟨Yb,(by rw[NH hn hn2];rfl),aLJ⟩ rfl rfl (LT _) (aD)
    ·obtain rfl:k=3:=by omega
     refine aR<|Zai<|Zai<|Zal<|Zak<|Zag<|C.rg<|Zx rfl<|Za rfl<|Zz ?_;exact aH 12 (i+1) Yd Yd ⟨Yb,(by rw[OV hx];rfl),aLJ⟩ rfl rfl (List.Sublist.cons _ (LT _)) (aD)
   ·obtain rfl:i=y.chairs.length:=by omega
    rw[aHT];refine aR<|Zai<|Zai<|Zal<|Zag<|C.s2<|Za rfl<|eT rfl rfl rfl rfl trivial<|L.n1<|aE rfl (fun hc5=>?_) (fun hc5=>?_)
    ·refine C.s1<|Zh rfl<|L.n5<|Zaj ?_;exact leave1 rfl rfl rfl rfl (fun D hD=>by show Value.int _ _=_;rw[XO hc1 hc2 hc5])
    ·refine C.kn<|C.s1<|Zh rfl<|L.n5 ?_;exact leave1 rfl rfl rfl rfl (fun D hD=>by show Value.int _ _=_;rw[XC hc1 hc2 hc5])
end L7
end Go.Fs
namespace Go.Fs
open Go.Proofs
namespace L7
open C7
def Y2(p:Pt):Prop:=(0≤p.a∧p.a≤1)∧(0≤p.b∧p.b≤1)∧(0≤p.c∧p.c≤1)
def HB(p q:Pt):Bool:=(!iJ p&& !iJ q)&&iJ ⟨max p.a q.a,max p.b q.b,max p.c q.c⟩
def BS(f:Int)(x z:Ch):Bool:=fL (x.size-z.size) (-f) f
theorem UE(p q:Pt)(D:aA)(hp:Y2 p)(hq:Y2 q):Fn Tryz.prog 244 #[aFF p,aFF q] D (fun _ v=>v=.bool (HB p q)):=by
 refine enter 32 Tryz.func244 rfl rfl rfl rfl fun h0=>C.s1<|Zv rfl (fun q1 E1 hE1 hB1=>Zv rfl (fun q2 E2 hE2 hB2=>Zh rfl<|L.n3<|cO rfl Tf.a101 rfl hB1 Yc Yy GT rfl trivial<|Zc rfl (fun D1 hD1=>qF p _)<|Zaf rfl<|Za rfl ?_))
 refine' L.anK 4 (s:=8) (p:=12) rfl (fun hg1=>?_) (fun hg1=>?_) ?_;rotate_left
 ·refine cO rfl Tf.a101 rfl hB2 Yc Yy GT rfl ⟨_,rfl,rfl⟩<|Zd rfl (fun D2 hD2=>qF q _)<|iW rfl rfl rfl ⟨_,rfl,rfl⟩<|Zab rfl ?_;exact L.cu 3
 ·refine Zk rfl<|Zk rfl<|Zk rfl<|Zac rfl ?_;exact L.cu 3
 refine Za rfl ?_;refine' L.anK 18 (s:=13) (p:=31) rfl (fun hg2=>?_) (fun hg2=>?_) ?_;rotate_left
 ·refine dE rfl U101 Tf.s3 rfl rfl Yag Yag rfl ⟨_,rfl,rfl⟩<|gD rfl Tf.a3 rfl hB1 Ye rfl GT rfl ⟨_,rfl,rfl⟩<|dE rfl U101 Tf.s3 rfl rfl Yag Yag rfl ⟨_,rfl,rfl⟩<|gD rfl Tf.a3 rfl hB2 Ye rfl GT rfl ⟨_,rfl,rfl⟩<|CP rfl rfl rfl hp.1 hq.1 rfl ⟨_,rfl,rfl⟩<|dE rfl U101 Tf.s3 rfl rfl Yag Yag rfl ⟨_,rfl,rfl⟩<|gD rfl Tf.a3 rfl hB1 Ye rfl GT rfl ⟨_,rfl,rfl⟩<|dE rfl U101 Tf.s3 rfl rfl Yag Yag rfl ⟨_,rfl,rfl⟩<|gD rfl Tf.a3 rfl hB2 Ye rfl GT rfl ⟨_,rfl,rfl⟩<|CP rfl rfl rfl hp.2.1 hq.2.1 rfl ⟨_,rfl,rfl⟩<|dE rfl U101 Tf.s3 rfl rfl Yag Yag rfl ⟨_,rfl,rfl⟩<|gD rfl Tf.a3 rfl hB1 Ye rfl GT rfl ⟨_,rfl,rfl⟩ ?_;refine dE rfl U101 Tf.s3 rfl rfl Yag Yag rfl ⟨_,rfl,rfl⟩<|gD rfl Tf.a3 rfl hB2 Ye rfl GT rfl ⟨_,rfl,rfl⟩<|CP rfl rfl rfl hp.2.2 hq.2.2 rfl ⟨_,rfl,rfl⟩<|xD (cs:=[.int .i64 (max p.a q.a),.int .i64 (max p.b q.b),.int .i64 (max p.c q.c)]) rfl U101 Tf.s3 Tf.z101 rfl rfl rfl ⟨_,rfl,rfl⟩<|Zd rfl (fun D3 hD3=>qF ⟨max p.a q.a,max p.b q.b,max p.c q.c⟩ _)<|Zab rfl ?_;exact L.cu 17
 ·refine Zk rfl<|Zk rfl<|Zk rfl<|Zk rfl<|Zk rfl<|Zk rfl<|Zk rfl<|Zk rfl<|Zk rfl<|Zk rfl<|Zk rfl<|Zk rfl ?_;refine Zk rfl<|Zk rfl<|Zk rfl<|Zk rfl<|Zk rfl<|Zac rfl ?_;exact L.cu 17
 refine Zh rfl<|L.n5 ?_;exact leave1 rfl rfl rfl rfl (fun D hD=>rfl)
theorem B9(yv:Value)(y:bI)(a b:Nat)(x z:Ch)(D:aA)(hy:lE D yv y)(hf:0≤y.fit∧y.fit≤9)(hx:y.chairs[a]?= some x)(hz:y.chairs[b]?= some z)(hxs:0≤x.size∧x.size≤9)(hzs:0≤z.size∧z.size≤9):Fn Tryz.prog 103 #[yv,.int .i64 (a:Int),.int .i64 (b:Int)] D (fun _ v=>v=.bool (BS y.fit x z)):=by
 obtain⟨cv,qv,rfl,hc,hq⟩:=hy;refine enter 26 Tryz.func103 rfl rfl rfl rfl fun h0=>C.s1<|Zv rfl (fun q1 E1 hE1 hB1=>Zh rfl<|L.n2<|C.drawA [] 6 20 257988 (fun _ _ _ h=>bZ (P:=Tryz.prog) (fn:=Tryz.f103) _ _ _ h)<|Zi rfl Tf.f40_0 rfl<|Zf 0 rfl Tf.a37 rfl hB1 rfl<|Za rfl<|Zs rfl U37 Tf.s103 rfl hc rfl hx (fun b1 o1 cs1 hr1 hcl1 hA1=>?_))
 obtain rfl:cs1=[.int .i64 _,.int .i64 _,.int .i64 _,.int .i64 _]:=hr1;refine Zi rfl Tf.f103_0 rfl<|Zf 0 rfl Tf.a3 rfl hA1 rfl<|Zi rfl Tf.f40_0 rfl<|Zf 0 rfl Tf.a37 rfl hB1 rfl<|Za rfl<|Zs rfl U37 Tf.s103 rfl hc rfl hz (fun b2 o2 cs2 hr2 hcl2 hA2=>?_);obtain rfl:cs2=[.int .i64 _,.int .i64 _,.int .i64 _,.int .i64 _]:=hr2;refine Zi rfl Tf.f103_0 rfl<|Zf 0 rfl Tf.a3 rfl hA2 rfl<|fJ rfl rfl rfl Yf rfl trivial<|Zi rfl Tf.f40_1 rfl<|Zf 1 rfl Tf.a3 rfl hB1 rfl<|aAP rfl rfl Yf rfl trivial<|Zi rfl Tf.f40_1 rfl<|Zf 1 rfl Tf.a3 rfl hB1 rfl<|Zc rfl (fun D1 hD1=>dG _ _ _ _)<|Zh rfl<|L.n5 ?_;exact leave1 rfl rfl rfl rfl (fun D hD=>rfl)
end L7
end Go.Fs
namespace Go.Fs
open Go.Proofs
namespace L7
open C7
def gR(p:Nat→Bool):Nat→Nat
 |0=>0
 |n+1=>if p n=true then gR p n|||2^n else gR p n
theorem pF(p:Nat→Bool):∀n i,(gR p n).testBit i=(decide (i<n)&&p i)
 |0,i=>by simp[gR]
 |n+1,i=>by
  unfold gR;split
  ·rename_i h;rw[Nat.testBit_or,pF p n i,Nat.testBit_two_pow];by_cases hi:n=i
   ·subst hi;simp[h]
   ·have:(i<n+1)=(i<n):=by rw[eq_iff_iff];omega
    simp[hi,this]
  ·rename_i h;rw[pF p n i];by_cases hi:n=i
   ·subst hi;simp[h]
   ·have:(i<n+1)=(i<n):=by rw[eq_iff_iff];omega
    simp[this]
theorem b9(p:Nat→Bool)(n:Nat):gR p n<2^n:=by
 apply Nat.lt_pow_two_of_testBit;intro i hi;rw[pF];have:¬i<n:=by omega
 simp[this]
def jJ(t:List Pt)(i:Nat):Bool:=match t[i]? with|some p=> !iJ p|none=>false
def lZ(y:bI)(t:List Pt)(i k:Nat):Bool:=match t[i]?,t[k]?,y.chairs[i]?,y.chairs[k]? with
 |some p,some q,some x,some z=>(decide ((k:Int)≠i)&&BS y.fit x z)&&HB p q
 |_,_,_,_=>false
theorem RO{y:bI}{t:List Pt}{i k:Nat}{z q:Pt}{x1 x2:Ch}(hz:t[i]?= some z)(hq:t[k]?= some q)(hx1:y.chairs[i]?= some x1)(hx2:y.chairs[k]?= some x2):lZ y t i k=((decide ((k:Int)≠i)&&BS y.fit x1 x2)&&HB z q):=by
 unfold lZ;rw[hz,hq,hx1,hx2]
def eB(y:bI)(t:List Pt)(i k:Nat):List Nat:=(List.range 7).map fun j=>if j<i then gR (lZ y t j) t.length else if j=i then gR (lZ y t i) k else 0
structure Sc where
 whole:Nat
 broken:Nat
 fits:List Nat
deriving DecidableEq
def dD(y:bI)(t:List Pt):Sc:=⟨whole t,gR (jJ t) t.length,(List.range 7).map fun j=>gR (lZ y t j) t.length⟩
def A3(w b:Nat)(rows:List Nat):List Value:=.int .i64 (w:Int)::.int .i64 (b:Int)::rows.map fun(n:Nat)=>Value.int .i64 (n:Int)
def FR(s:Sc):Value:=.agg (A3 s.whole s.broken s.fits).toArray
theorem QJ(w b:Nat)(rows:List Nat):∀u∈A3 w b rows,cell1 u=true:=by
 intro u hu;unfold A3 at hu;simp only[aGB,aGA]at hu;rcases hu with rfl|rfl|⟨n,_,rfl⟩<;>rfl
theorem ZJ{y:bI}{t:List Pt}{j:Nat}(h:t.length≤j):gR (lZ y t j) t.length=0:=by
 apply Nat.eq_of_testBit_eq;intro i;rw[pF,Nat.zero_testBit];have:lZ y t j i=false:=by unfold lZ;rw[aJJ h]
 simp[this]
theorem LM{y:bI}{t:List Pt}:eB y t t.length 0=(dD y t).fits:=by
 show eB y t t.length 0=(List.range 7).map fun j=>gR (lZ y t j) t.length
 unfold eB;apply List.map_congr_left;intro j _;by_cases h:j<t.length
 ·rw[aGX h]
 ·rw[aGQ h,ZJ Yd];split<;>rfl
theorem HQ{y:bI}{t:List Pt}{i:Nat}:eB y t i t.length=eB y t (i+1) 0:=by
 unfold eB;apply List.map_congr_left;intro j _;by_cases h:j<i
 ·rw[aGX h,aGX Yd]
 ·rw[aGQ h];by_cases h2:j=i
  ·subst h2;rw[aGX rfl,aGX Yd]
  ·rw[aGQ h2,aGQ Yd];split<;>rfl
theorem aCG{y:bI}{t:List Pt}{i k:Nat}(h:lZ y t i k=false):eB y t i k=eB y t i (k+1):=by
 unfold eB;have:gR (lZ y t i) (k+1)=gR (lZ y t i) k:=by rw[gR,aGQ (by simp[h])]
 rw[this]
theorem XV{y:bI}{t:List Pt}{i k:Nat}(h:i<7):(eB y t i k)[i]?= some (gR (lZ y t i) k):=by
 unfold eB;rw[aHD,aKY h];simp
theorem aBS{rows:List Nat}{i n:Nat}(w b:Nat)(h:rows[i]?= some n):(A3 w b rows)[2+i*1]?= some (.int .i64 (n:Int)):=by
 rw[aIR,Nat.add_comm];unfold A3;rw[List.getElem?_cons_succ,List.getElem?_cons_succ,aHD,h];rfl
theorem O2{t:List Pt}{i:Nat}{z:Pt}(hz:t[i]?= some z):whole (t.take (i+1))=whole (t.take i)+if iJ z=true then 1 else 0:=by
 unfold whole;rw[aGT,hz,aIB,aJG,aGC];cases h:iJ z<;>simp[h]
theorem IW{t:List Pt}{i:Nat}{z:Pt}(hz:t[i]?= some z):jJ t i= !iJ z:=by unfold jJ;rw[hz]
theorem X9{y:bI}{t:List Pt}{i k:Nat}{z:Pt}(hz:t[i]?= some z)(hw:iJ z=true):gR (lZ y t i) k=0:=by
 apply Nat.eq_of_testBit_eq;intro j;rw[pF,Nat.zero_testBit];have:lZ y t i j=false:=by
  unfold lZ;rw[hz]
  split
  ·rename_i e1 _ _ _;obtain rfl:=aHC e1;simp[HB,hw]
  ·rfl
 simp[this]
theorem VM{y:bI}{t:List Pt}{i:Nat}{z:Pt}(hz:t[i]?= some z)(hw:iJ z=true):
  (A3 (whole (t.take i)) (gR (jJ t) i) (eB y t i 0)).take 0++[.int .i64 ((whole (t.take i):Int)+1)]++(A3 (whole (t.take i)) (gR (jJ t) i) (eB y t i 0)).drop (0+ [Value.int .i64 ((whole (t.take i):Int)+1)].length)=A3 (whole (t.take (i+1))) (gR (jJ t) (i+1)) (eB y t (i+1) 0):=by
 have h1:((whole (t.take (i+1)):Nat):Int)=(whole (t.take i):Int)+1:=by rw[O2 hz,aGX hw];simp
 have h2:gR (jJ t) (i+1)=gR (jJ t) i:=by rw[gR,aGQ (by rw[IW hz,hw];simp)]
 have h3:eB y t (i+1) 0=eB y t i 0:=by
  rw[←HQ];unfold eB;rw[X9 hz hw,X9 hz hw]
 rw[h2,h3];unfold A3;rw[h1];rfl
theorem XD{y:bI}{t:List Pt}{i:Nat}{z:Pt}(hz:t[i]?= some z)(hw:iJ z=false):
  (A3 (whole (t.take i)) (gR (jJ t) i) (eB y t i 0)).take 1++[.int .i64 ((gR (jJ t) i|||2^i:Nat):Int)]++(A3 (whole (t.take i)) (gR (jJ t) i) (eB y t i 0)).drop (1+ [Value.int .i64 ((gR (jJ t) i|||2^i:Nat):Int)].length)=A3 (whole (t.take (i+1))) (gR (jJ t) (i+1)) (eB y t i 0):=by
 have h1:whole (t.take (i+1))=whole (t.take i):=by rw[O2 hz,aGQ (by simp[hw])];rfl
 have h2:gR (jJ t) (i+1)=gR (jJ t) i|||2^i:=by rw[gR,aGX (by rw[IW hz,hw];rfl)]
 rw[h1,h2];rfl
theorem aCH{y:bI}{t:List Pt}{i k w b:Nat}(hi:i<7)(h:lZ y t i k=true):
  (A3 w b (eB y t i k)).take (2+i*1)++[.int .i64 ((gR (lZ y t i) k|||2^k:Nat):Int)]++(A3 w b (eB y t i k)).drop (2+i*1+ [Value.int .i64 ((gR (lZ y t i) k|||2^k:Nat):Int)].length)=A3 w b (eB y t i (k+1)):=by
 have h2:gR (lZ y t i) (k+1)=gR (lZ y t i) k|||2^k:=by rw[gR,aGX h]
 have e:i=0∨i=1∨i=2∨i=3∨i=4∨i=5∨i=6:=by omega
 rw[←h2];rcases e with rfl|rfl|rfl|rfl|rfl|rfl|rfl<;>rfl
theorem SP(yv tv:Value)(y:bI)(t:List Pt)(D:aA)(hy:lE D yv y)(ht:Sl D RP 3 tv t)(hlen:t.length=y.chairs.length)(h7:t.length≤7)(hb:∀p∈t,Y2 p)(hf:0≤y.fit∧y.fit≤9)(hs:∀c∈y.chairs,0≤c.size∧c.size≤9):Fn Tryz.prog 162 #[yv,tv] D (fun _ v=>v=FR (dD y t)):=by
 have hy0:=hy;obtain⟨cv,qv,rfl,hc,hq⟩:=hy;have hl:=ht.len;refine enter 61 Tryz.func162 rfl rfl rfl rfl fun h0=>C.s1<|Zv rfl (fun q1 E1 hE1 hB1=>Zw rfl Tf.z319 rfl (fun q2=>L.n4<|Za rfl<|aV rfl U315 rfl ht rfl rfl trivial<|Za rfl<|L.n1<|Zah<|cJ (γ:=Nat) (fun i=>t.length-i) (fun i=>i≤t.length) (fun i=>[(11,.int .i64 (i:Int))]) [(10,_),(9,_),(4,_),(2,_),(1,_)] (fun i=>[(q2,.cells (A3 (whole (t.take i)) (gR (jJ t) i) (eB y t i 0)).toArray 319 (0,0))]) (fun i=>[E1,D]) 0 Yd ⟨Yb,aLJ⟩ C.rs (LT _) (aD) ?_))
 rintro i h1;refine C.s1<|Zad rfl<|L.n2<|aE rfl (fun hc1=>?_) (fun hc1=>?_)
 ·have hi:i<t.length:=by omega
  obtain⟨z,hz⟩:=C.ge t i;obtain⟨x1,hx1⟩:=C.ge y.chairs i;have hwl:whole (t.take i)≤(t.take i).length:=aJI _ _;have hwt:(t.take i).length≤i:=aKX _ _;have hbl:=b9 (jJ t) i;have hp2:2^i≤2^7:=aJW Yd Yd;refine C.kn<|aL<|Zah<|C.s1<|Za rfl<|Zs rfl U315 Tf.s101 rfl ht rfl hz (fun b1 o1 cs1 hr1 hcl1 hA1=>?_);obtain rfl:cs1=[.int .i64 _,.int .i64 _,.int .i64 _]:=hr1;refine cO rfl Tf.a101 rfl hA1 Yc Yy GT rfl trivial<|Zw rfl Tf.z101 rfl (fun q3=>Zh rfl<|Zu rfl Tf.s101 (bL.head)<|L.n4<|bK rfl Tf.a101 rfl (List.Mem.head _) Yy GT rfl trivial<|Zc rfl (fun D1 hD1=>qF z _)<|L.n1<|aQ rfl (fun hc2=>?_) (fun hc2=>?_))
  ·refine C.s1<|Zi rfl Tf.f319_0 rfl<|Zl rfl Tf.a3 rfl (List.Mem.tail _ (List.Mem.head _)) rfl<|Zx rfl<|Zi rfl Tf.f319_0 rfl<|aX (ws:=A3 (whole (t.take (i+1))) (gR (jJ t) (i+1)) (eB y t (i+1) 0)) rfl rfl rfl rfl Tf.s3 (.tail bL.head) (by simp[A3]) (VM hz hc2) Yi trivial<|L.n1<|aR<|Zai<|Zal<|Zag<|C.rg ?_;refine Zx rfl<|Za rfl<|Zz ?_;exact aH 15 (i+1) Yd Yd ⟨Yb,aLJ⟩ rfl rfl (List.Sublist.cons _ (LT _)) (aD)
  ·refine C.kn<|aL<|C.drawA [] 2 7 12 (fun _ _ _ h=>bZ (P:=Tryz.prog) (fn:=Tryz.f162) _ _ _ h)<|Zi rfl Tf.f319_1 rfl<|Zl rfl Tf.a3 rfl (List.Mem.tail _ (List.Mem.head _)) rfl<|Za rfl<|L6 rfl rfl rfl Yd rfl trivial<|HR rfl rfl rfl Yd Yd rfl trivial<|Zi rfl Tf.f319_1 rfl<|aX (ws:=A3 (whole (t.take (i+1))) (gR (jJ t) (i+1)) (eB y t i 0)) rfl rfl rfl rfl Tf.s3 (.tail bL.head) (by simp[A3]) (XD hz hc2) Yi trivial<|L.n3<|Za rfl ?_;refine aV rfl U315 rfl ht rfl rfl trivial<|Za rfl<|L.n1<|Zah<|cJ (γ:=Nat) (fun k=>t.length-k) (fun k=>k≤t.length) (fun k=>[(30,.int .i64 (k:Int))]) [(29,_),(28,_),(27,_),(26,_),(25,_),(24,_),(23,_),(22,_),(17,_),(16,_),(5,_),(6,_),(15,_),(14,_),(13,_),(12,_),(11,_),(10,_),(9,_),(4,_),(2,_),(1,_)] (fun k=>[(q3,.cells [.int .i64 z.a,.int .i64 z.b,.int .i64 z.c].toArray 101 (0,0)),(q2,.cells (A3 (whole (t.take (i+1))) (gR (jJ t) (i+1)) (eB y t i k)).toArray 319 (0,0))]) (fun k=>[E1,D]) 0 Yd ⟨Yb,aLJ⟩ C.rs (LT _) (aD) ?_;rintro k h2;refine C.s1<|Zad rfl<|L.n2<|aE rfl (fun hc3=>?_) (fun hc3=>?_)
   ·have hk:k<t.length:=by omega
    obtain⟨q,hq⟩:=C.ge t k;obtain⟨x2,hx2⟩:=C.ge y.chairs k;have hbk:=b9 (lZ y t i) k;have hp3:2^k≤2^7:=aJW Yd Yd;refine C.kn<|aL<|Zah<|C.s1<|Za rfl<|Zs rfl U315 Tf.s101 rfl ht rfl hq (fun b2 o2 cs2 hr2 hcl2 hA2=>?_);obtain rfl:cs2=[.int .i64 _,.int .i64 _,.int .i64 _]:=hr2;refine cO rfl Tf.a101 rfl hA2 Yc Yy GT rfl trivial<|Zw rfl Tf.z101 rfl (fun q4=>Zh rfl<|Zu rfl Tf.s101 (bL.head)<|L.n3<|Za rfl<|Za rfl<|eI rfl rfl rfl rfl trivial<|Za rfl ?_);refine' L.anK 5 (s:=38) (p:=43) rfl (fun hg1=>?_) (fun hg1=>?_) ?_;rotate_left
    ·refine cO rfl Tf.a40 rfl hB1 Yc Tf.s40 GT rfl ⟨_,rfl,rfl⟩<|Zb rfl<|Zb rfl<|Zd rfl (fun D2 hD2=>B9 _ y i k x1 x2 _ (hy0.up (hD2 _ Ye)) hf hx1 hx2 (hs _ (aGD hx1)) (hs _ (aGD hx2)))<|Zab rfl ?_;exact L.cu 4
    ·refine Zk rfl<|Zk rfl<|Zk rfl<|Zk rfl<|Zac rfl ?_;exact L.cu 4
    refine Za rfl ?_;refine' L.anK 4 (s:=44) (p:=48) rfl (fun hg2=>?_) (fun hg2=>?_) ?_;rotate_left
    ·refine bK rfl Tf.a101 rfl (LE _ (GE _)) Yy GT rfl ⟨_,rfl,rfl⟩<|bK rfl Tf.a101 rfl (List.Mem.head _) Yy GT rfl ⟨_,rfl,rfl⟩<|Zd rfl (fun D3 hD3=>UE z q _ (hb _ (aGD hz)) (hb _ (aGD hq)))<|Zab rfl ?_;exact L.cu 3
    ·refine Zk rfl<|Zk rfl<|Zk rfl<|Zac rfl ?_;exact L.cu 3
    refine L.n1<|aQ rfl (fun hc4=>?_) (fun hc4=>?_)
    ·have hfit:lZ y t i k=true:=by rw[RO hz hq hx1 hx2];exact hc4
     refine C.drawA [] 3 10 178 (fun _ _ _ h=>bZ (P:=Tryz.prog) (fn:=Tryz.f162) _ _ _ h)<|Za rfl<|Zi rfl Tf.f319_2 rfl<|dR rfl U317 Tf.s3 rfl rfl Yd Yd rfl trivial<|aS rfl Tf.a3 rfl (List.Mem.tail _ (List.Mem.tail _ (List.Mem.head _))) (aBS _ _ (XV Yd)) GT rfl trivial<|Za rfl<|L6 rfl rfl rfl Yd rfl trivial<|HR rfl rfl rfl Yd Yd rfl trivial<|Zi rfl Tf.f319_2 rfl<|dR rfl U317 Tf.s3 rfl rfl Yd Yd rfl trivial<|aX (ws:=A3 (whole (t.take (i+1))) (gR (jJ t) (i+1)) (eB y t i (k+1))) rfl rfl rfl rfl Tf.s3 (.tail (.tail bL.head)) (by simp[A3,eB];omega) (aCH Yd hfit) Yi trivial<|Zz ?_;refine Zak<|Zag<|C.rg<|Zx rfl<|Za rfl<|Zz ?_;exact aH 25 (k+1) Yd Yd ⟨Yb,aLJ⟩ rfl rfl (List.Sublist.cons _ (LT _)) (aD)
    ·have hfit:lZ y t i k=false:=by rw[RO hz hq hx1 hx2];exact hc4
     refine bR<|Zak<|Zag<|C.rg<|Zx rfl<|Za rfl<|Zz ?_;rw[aCG hfit];exact aH 16 (k+1) Yd Yd ⟨Yb,aLJ⟩ rfl rfl (List.Sublist.cons _ (LT _)) (aD)
   ·obtain rfl:k=t.length:=by omega
    rw[HQ];refine aR<|Zai<|Zai<|Zal<|Zak<|Zag<|C.rg<|Zx rfl<|Za rfl<|Zz ?_;exact aH 21 (i+1) Yd Yd ⟨Yb,aLJ⟩ rfl rfl (List.Sublist.cons _ (LT _)) (aD)
 ·obtain rfl:i=t.length:=by omega
  refine aR<|Zai<|Zai<|Zal<|Zag<|C.s1<|Zt rfl Tf.a319 rfl (List.Mem.head _) Tf.s319<|bD rfl rfl rfl rfl Tf.s319 Ya Ya (bL.head) (QJ _ _ _) trivial<|L.n5 ?_;exact Zm [_] rfl ⟨⟨_,_,_,rfl,(List.Mem.head _),Or.inr ⟨Tf.a319,(by first|exact Tf.s319|(simp only[aHK,aI, *];exact Tf.s319)),rfl⟩⟩,aLJ⟩ (fun D hD=>by rw[LM,aHT];rfl)
end L7
end Go.Fs
namespace Go.Fs.C7
end Go.Fs.C7
namespace Go.Fs.C7
end Go.Fs.C7
namespace Go.Fs.C7
theorem J9{m a:Nat}(h:m.testBit a=true):nW m (2^a)<m:=by
 have h1:=vM m (2^a);have h2:nW m (2^a)≠m:=fun e=>by
  have:=B7 m (2^a) a;rw[e,h,Nat.testBit_two_pow_self]at this;cases this
 omega
theorem aBO(m a i:Nat):(nW m (2^a)).testBit i=(m.testBit i&& !decide (a=i)):=by
 rw[B7,Nat.testBit_two_pow]
def low(m:Nat):Nat:=((List.range m).find? fun i=>m.testBit i).getD 0
theorem rY{m:Nat}(h:m≠0):m.testBit (low m)=true∧∀i,i<low m→m.testBit i=false:=by
 obtain⟨i,hi⟩:=Nat.exists_testBit_of_ne_zero h;have him:i<m:=aIV Nat.lt_two_pow_self (Nat.ge_two_pow_of_testBit hi);unfold low;cases hf:(List.range m).find? fun i=>m.testBit i with
 |none=>
  have:=List.find?_eq_none.1 hf i (aJH.2 him);exact absurd hi this
 |some j=>
  have h1:=List.find?_some hf;refine⟨h1,fun k hk=>?_⟩;simp only[aJP]at hk;obtain⟨_,l1,l2,hab,hno⟩:=List.find?_eq_some_iff_append.1 hf;have hjm:j<m:=aJH.1 (List.mem_of_find?_eq_some hf);have hlen:l1.length=j:=by
   have h2:(List.range m)[l1.length]?= some j:=by rw[hab,aKM (aGW _)];simp
   have hl:l1.length<m:=by
    have:=aGV List.length hab;simp at this;omega
   rw[aKY hl]at h2;exact aHC h2
  have hkm:(List.range m)[k]?= some k:=aKY Yd;rw[hab,aIU Yd]at hkm;have:=hno k (aGD hkm);simpa using this
def fB(F:List Nat)(a b:Nat):Bool:=(F.getD a 0).testBit b
def pY(F:List Nat)(rest a:Nat)(nu:Nat→Nat)(m b:Nat):Nat:=if(rest&&&F.getD a 0).testBit b=true then max m (1+nu (nW rest (2^b)))else m
def VW(F:List Nat)(n:Nat):Nat→Nat→Nat
 |0,_=>0
 |k+1,m=>if m=0 then 0 else(List.range n).foldl (pY F (nW m (2^low m)) (low m) (VW F n k)) (VW F n k (nW m (2^low m)))
def j8(F:List Nat)(n m:Nat):Nat:=VW F n m m
theorem sG{α β:Type}{f g:β→α→β}:∀{l:List α} {b:β},(∀b,∀a∈l,f b a=g b a)→l.foldl f b=l.foldl g b
 | [],_,_=>rfl
 |x::l,b,h=>by
  rw[aIO,aIO,h b x aGL];exact sG fun b a ha=>h b a (aGE _ ha)
theorem wZ{F:List Nat}{n:Nat}:∀(k m l:Nat),m≤k→m≤l→VW F n k m=VW F n l m
 |0,m,l,h,_=>by
  obtain rfl:m=0:=by omega
  cases l<;>simp[VW]
 |k+1,m,0,_,h=>by
  obtain rfl:m=0:=by omega
  simp[VW]
 |k+1,m,l+1,h,h'=>by
  simp only[VW];by_cases hm:m=0
  ·rw[aGX hm,aGX hm]
  ·rw[aGQ hm,aGQ hm];have hlt:=J9 (rY hm).1;have e0:=wZ (F:=F) (n:=n) k (nW m (2^low m)) l Yd Yd;rw[e0];refine sG fun b a _=>?_
   unfold pY;split
   ·have:=vM (nW m (2^low m)) (2^a);rw[wZ k (nW (nW m (2^low m)) (2^a)) l Yd Yd]
   ·rfl
theorem z7{F:List Nat}{n:Nat}:j8 F n 0=0:=rfl
theorem CK{F:List Nat}{n m:Nat}(h:m≠0):j8 F n m=(List.range n).foldl (pY F (nW m (2^low m)) (low m) (j8 F n)) (j8 F n (nW m (2^low m))):=by
 have hlt:=J9 (rY h).1;obtain⟨k,rfl⟩:∃k,m=k+1:=⟨m-1,by omega⟩
 show VW F n (k+1) (k+1)=_;rw[VW,aGQ h];rw[wZ k (nW (k+1) (2^low (k+1))) (nW (k+1) (2^low (k+1))) Yd (aGW _)];refine sG fun b a _=>?_
 unfold pY;split
 ·have:=vM (nW (k+1) (2^low (k+1))) (2^a);rw[wZ k (nW (nW (k+1) (2^low (k+1))) (2^a)) _ Yd (aGW _)];rfl
 ·rfl
end Go.Fs.C7
namespace Go.Fs.C7
theorem GD{F:List Nat}{rest a:Nat}{nu:Nat→Nat}:∀(l:List Nat) (m:Nat),l.foldl (pY F rest a nu) m=m∨∃b∈l,(rest&&&F.getD a 0).testBit b=true∧l.foldl (pY F rest a nu) m=1+nu (nW rest (2^b))
 | [],m=>aGR rfl
 |x::l,m=>by
  rw[aIO];rcases GD l (pY F rest a nu m x)with h|⟨b,hb,hbit,h⟩
  ·rw[h];unfold pY;split
   ·rename_i hx;by_cases hm:m≤1+nu (nW rest (2^x))
    ·exact aGH ⟨x,aGL,hx,by omega⟩
    ·exact aGR Yd
   ·exact aGR rfl
  ·exact aGH ⟨b,aGE _ hb,hbit,h⟩
theorem IP{m b:Nat}(h:m≠0):nW (nW m (2^low m)) (2^b)<m:=Nat.lt_of_le_of_lt (vM _ _) (J9 (rY h).1)

def vJ:List Int→List Pt
 |a::b::c::l=>⟨a,b,c⟩::vJ l
 |_=>[]
def gJ(l:List Ch):List Int:=l.flatMap fun c=>c.parts.l
def jP(l:List Pt):List Int:=l.flatMap Pt.l
theorem nQ(p:Pt)(l:List Pt):jP (p::l)=p.a::p.b::p.c::jP l:=rfl
theorem RF(l:List Pt):vJ (jP l)=l:=by
 induction l with
 |nil=>rfl
 |cons p l ih=>rw[nQ,vJ,ih]
theorem kP(l:List Ch):(gJ l).length=3*l.length:=by
 induction l with
 |nil=>rfl
 |cons c l ih=>unfold gJ at ih ⊢;rw[aHS,aGC,ih,aGM];simp[Pt.l];omega
theorem Z3(l:List Pt):(jP l).length=3*l.length:=by
 induction l with
 |nil=>rfl
 |cons c l ih=>rw[nQ];simp only[aGM,ih];omega
theorem m8:∀(n:Nat) (l:List Int),l.length=3*n→jP (vJ l)=l∧(vJ l).length=n
 |0,l,h=>by
  obtain rfl:l=[]:=aJF.1 Yd;exact⟨rfl,rfl⟩
 |n+1,l,h=>by
  match l,h with
  |a::b::c::l,h=>
   obtain⟨h1,h2⟩:=m8 n l (by simp only[aGM]at h;omega);rw[vJ,nQ];exact⟨by rw[h1],by rw[aGM,h2]⟩
def Z4(y:bI):List (List Pt):=(C1.cQ (gJ y.chairs)).map vJ
theorem E9:∀{l t:List Int},t∈C1.cQ l ↔ t.length=l.length∧∀x∈l.zip t,yV x.1 x.2=true∧True
 | [],t=>by simp[C1.cQ]
 |p::l,t=>by
  have ih:=fun t=> @E9 l t
  cases t with
  |nil=>simp[C1.cQ]
  |cons x t=>
   have:x::t∈C1.cQ (p::l) ↔ ((p=2∨p=x)∧(x=0∨x=1))∧t∈C1.cQ l:=by
    rw[show C1.cQ (p::l)=(if p=2∨p=0 then(C1.cQ l).map (0:: ·)else [])++(if p=2∨p=1 then(C1.cQ l).map (1:: ·)else [])from rfl,aGP];constructor
    ·rintro(h|h)
     ·split at h
      ·rename_i hp;obtain⟨s,hs,he⟩:=aGA.1 h;obtain⟨rfl,rfl⟩:=List.cons.inj he;exact⟨⟨hp,aGR rfl⟩,hs⟩
      ·cases h
     ·split at h
      ·rename_i hp;obtain⟨s,hs,he⟩:=aGA.1 h;obtain⟨rfl,rfl⟩:=List.cons.inj he;exact⟨⟨hp,aGH rfl⟩,hs⟩
      ·cases h
    ·rintro⟨⟨hp,rfl|rfl⟩,ht⟩
     ·exact aGR (by rw[aGX hp];exact aGA.2 ⟨t,ht,rfl⟩)
     ·exact aGH (by rw[aGX hp];exact aGA.2 ⟨t,ht,rfl⟩)
   rw[this,ih];simp only[aGM,aLB,aGB,and_true,forall_eq_or_imp,Nat.add_right_cancel_iff];have:yV p x=true ↔ (p=2∨p=x)∧(x=0∨x=1):=by
    unfold yV;simp only[aGO,cE,aIC,aGZ];constructor
    ·rintro⟨h1,h2⟩;exact⟨h2.imp id Eq.symm,by omega⟩
    ·rintro⟨h1,h2⟩;exact⟨by omega,h1.imp id Eq.symm⟩
   rw[this];constructor
   ·rintro⟨h1,h2,h3⟩;exact⟨h2,h1,h3⟩
   ·rintro⟨h2,h1,h3⟩;exact⟨h1,h2,h3⟩
theorem P0:∀{l:List Ch} {t:List Pt},t.length=l.length→(∀x∈(gJ l).zip (jP t),yV x.1 x.2=true)=((l.zip t).all fun x=>GF x.1.parts x.2)
 | [],[],_=>by simp[gJ,jP]
 |c::l,p::t,h=>by
  have ih:=P0 (l:=l) (t:=t) Yal;rw[aLB,List.all_cons,aGO,←ih];rw[nQ,show gJ (c::l)=c.parts.a::c.parts.b::c.parts.c::gJ l from rfl];simp only[aLB,aGB,forall_eq_or_imp,GF,Pt.l,List.zip_nil_left,List.all_cons,List.all_nil,Bool.and_true,aGO,and_assoc]
theorem t6{y:bI}{t:List Pt}:t∈Z4 y ↔ mT y t=true:=by
 unfold Z4 mT;rw[aGA,aGO,aGZ];constructor
 ·rintro⟨s,hs,rfl⟩;obtain⟨h1,h2⟩:=E9.1 hs;rw[kP]at h1;obtain⟨g1,g2⟩:=m8 _ _ h1;refine⟨g2,?_⟩;rw[←P0 g2,g1];exact fun x hx=>(h2 x hx).1
 ·rintro⟨h1,h2⟩;refine⟨jP t,E9.2 ⟨by rw[kP,Z3,h1],fun x hx=>⟨?_,aLJ⟩⟩,RF t⟩;rw[←P0 h1]at h2;exact h2 x hx
end Go.Fs.C7
namespace Go.Fs
open Go.Proofs
namespace L7
open C7
def Q5(n:Nat)(M:List (oQ 8×Int)):Prop:=∀p∈M,∃(m:Nat) (F:List Nat),p.1.l=(m:Int)::F.map (fun x:Nat=>(x:Int))∧p.2=(j8 F n m:Int)
theorem yW:∀{F G:List Nat},F.map (fun x:Nat=>(x:Int))=G.map (fun x:Nat=>(x:Int))→F=G
 | [],[],_=>rfl
 |x::F,y::G,h=>by
  rw[aHB,aHB,aIP]at h;rw[yW h.2,show x=y by omega]
theorem YV{n m:Nat}{a0 a1 a2 a3 a4 a5 a6:Nat}{M:List (oQ 8×Int)}{v:Int}{h:[(m:Int),a0,a1,a2,a3,a4,a5,a6].length=8}(hok:Q5 n M)(hm:(⟨[(m:Int),a0,a1,a2,a3,a4,a5,a6],h⟩,v)∈M):v=(j8 [a0,a1,a2,a3,a4,a5,a6] n m:Int):=by
 obtain⟨m',F,h1,h2⟩:=hok _ hm;simp only[aIP]at h1;obtain⟨h0,h1⟩:=h1;have:F=[a0,a1,a2,a3,a4,a5,a6]:=yW (by rw[←h1];rfl)
 rw[this,show m'=m by omega]at h2;exact h2
theorem ZT{n m:Nat}{a0 a1 a2 a3 a4 a5 a6:Nat}{M M':List (oQ 8×Int)}{v:Int}{h:[(m:Int),a0,a1,a2,a3,a4,a5,a6].length=8}(hok:Q5 n M)(hm:∀p∈M',p∈M∨p=(⟨[(m:Int),a0,a1,a2,a3,a4,a5,a6],h⟩,v))(hv:v=(j8 [a0,a1,a2,a3,a4,a5,a6] n m:Int)):Q5 n M':=fun p hp=>by
 rcases hm p hp with h1|rfl
 ·exact hok p h1
 ·exact⟨m,[a0,a1,a2,a3,a4,a5,a6],rfl,hv⟩
theorem Q5.nil{n:Nat}:Q5 n []:=fun p hp=>by cases hp
theorem Z9{m n:Nat}(h:∀x,m.testBit x=true→x<n)(hn:n≤7):m<128:=by
 have:m<2^n:=by
  apply Nat.lt_pow_two_of_testBit;intro i hi;cases e:m.testBit i with
  |false=>rfl
  |true=>have:=h i e;omega
 have h2:2^n≤2^7:=aJW Yd hn;omega
theorem I5{m n a:Nat}(h:∀x,m.testBit x=true→x<n):∀x,(nW m (2^a)).testBit x=true→x<n:=fun x hx=>h x (by rw[aBO]at hx;simp at hx;exact hx.1)
theorem l9{k:Nat}(h:k<7):2^k<128:=by
 have:2^k<2^7:=Nat.pow_lt_pow_right Yd h;omega
theorem aAZ{F:List Nat}(h:∀f∈F,f<128)(a:Nat):F.getD a 0<128:=by
 rw[aHP];cases e:F[a]? with
 |none=>simp
 |some x=>exact h x (aGD e)
theorem VR(a0 a1 a2 a3 a4 a5 a6:Nat){a:Nat}(h:a<7):([.int .i64 (a0:Int),.int .i64 (a1:Int),.int .i64 (a2:Int),.int .i64 (a3:Int),.int .i64 (a4:Int),.int .i64 (a5:Int),.int .i64 (a6:Int)]:List Value)[a*1]?= some (.int .i64 (([a0,a1,a2,a3,a4,a5,a6].getD a 0:Nat):Int)):=by
 have e:a=0∨a=1∨a=2∨a=3∨a=4∨a=5∨a=6:=by omega
 rcases e with rfl|rfl|rfl|rfl|rfl|rfl|rfl<;>rfl
theorem FE(F:List Nat)(n:Nat):∀m,j8 F n m≤m:=by
 intro m;induction m using Nat.strongRecOn with
 |_ m ih=>
  by_cases hm:m=0
  ·subst hm;rw[z7];exact aGW _
  ·have hlt:=J9 (rY hm).1;rcases GD (F:=F) (rest:=nW m (2^low m)) (a:=low m) (nu:=j8 F n) (List.range n) (j8 F n (nW m (2^low m)))with h|⟨b,_,_,h⟩
   ·rw[CK hm,h];have:=ih _ hlt;omega
   ·rw[CK hm,h];have h2:=IP (b:=b) hm;have:=ih _ h2;omega
def OC(F:List Nat)(n m k:Nat):Nat:=(List.range k).foldl (pY F (nW m (2^low m)) (low m) (j8 F n)) (j8 F n (nW m (2^low m)))
theorem VV{F:List Nat}{n m:Nat}(h:m≠0):j8 F n m=OC F n m n:=CK h
theorem ZG{F:List Nat}{n m k:Nat}(h:(nW m (2^low m)&&&F.getD (low m) 0).testBit k=true):OC F n m (k+1)=max (OC F n m k) (1+j8 F n (nW (nW m (2^low m)) (2^k))):=by
 have e:OC F n m (k+1)=pY F (nW m (2^low m)) (low m) (j8 F n) (OC F n m k) k:=by unfold OC;rw[aIF,aIG,aIO,List.foldl_nil]
 rw[e];unfold pY;rw[aGX h]
theorem aCU{F:List Nat}{n m k:Nat}(h:(nW m (2^low m)&&&F.getD (low m) 0).testBit k=false):OC F n m (k+1)=OC F n m k:=by
 have e:OC F n m (k+1)=pY F (nW m (2^low m)) (low m) (j8 F n) (OC F n m k) k:=by unfold OC;rw[aIF,aIG,aIO,List.foldl_nil]
 rw[e];unfold pY;rw[aGQ (by rw[h];simp)]
theorem T6{wb mb t cl:Nat}{cs:List Value}{es:Array MapEntry}:∀p∈[(wb,Obj.cells cs.toArray t (0,0)),(mb,.map es cl)],cF p.2:=by
 intro p hp;simp only[aGB,GT,aIY]at hp;rcases hp with rfl|rfl
 ·rfl
 ·trivial
theorem RG:KA Tryz.prog 367 7:=⟨(Tryz.prog.fieldsOf 367)[0]!,(Tryz.prog.fieldsOf 367)[1]!,3,by kernel_rfl,by kernel_rfl,by kernel_rfl,by decide+kernel,by decide+kernel,by kernel_rfl,by kernel_rfl,by kernel_rfl,by kernel_rfl,by kernel_rfl,by kernel_rfl,by rw[show((Tryz.prog.fieldsOf 367)[1]!).type=317 by kernel_rfl];exact Tf.a317,by rw[show((Tryz.prog.fieldsOf 367)[1]!).type=317 by kernel_rfl];exact Tf.s317,Tf.s3⟩
theorem SR(wb mb:Nat)(cv qv:Value)(fit:Int)(chs:List Ch)(a0 a1 a2 a3 a4 a5 a6:Nat)(hn7:chs.length≤7)(hF:∀f∈[a0,a1,a2,a3,a4,a5,a6],f<128):
  ∀(L m:Nat),m=L→(∀x,m.testBit x=true→x<chs.length)→∀(es:Array MapEntry) (clock:Nat) (M:List (oQ 8×Int)) (D:aA),Sl D rC 4 cv chs→pN zA es M→Q5 chs.length M→
  Q1 Tryz.prog 245 [.pointer (some ⟨wb,0,none⟩),.agg #[.int .i64 (m:Int),.int .i64 (a0:Int),.int .i64 (a1:Int),.int .i64 (a2:Int),.int .i64 (a3:Int),.int .i64 (a4:Int),.int .i64 (a5:Int),.int .i64 (a6:Int)]] D [(wb,.cells [cv,.int .i64 fit,qv,.map (some mb)].toArray 311 (0,0)),(mb,.map es clock)] (fun _ v ν'=>v=.int .i64 (j8 [a0,a1,a2,a3,a4,a5,a6] chs.length m:Int)∧∃es' clock' M',ν'=[(wb,.cells [cv,.int .i64 fit,qv,.map (some mb)].toArray 311 (0,0)),(mb,.map es' clock')]∧pN zA es' M'∧Q5 chs.length M'):=by
 intro L;induction L using Nat.strongRecOn with
 |_ L ih=>
 intro m hL hbits es clock M D hS hM hok;subst hL;have hl1:=hS.len;have hmb:=Z9 hbits hn7;refine fT 78 Tryz.func245 rfl rfl rfl rfl (fun h0 hwl hwn=>C.s1<|Zv rfl (fun q1 E1 hE1 hB1=>Zh rfl<|L.n4<|Zi rfl Tf.f367_0 rfl<|Zf 0 rfl Tf.a3 rfl hB1 rfl<|dK rfl rfl rfl rfl trivial<|L.n1<|aE rfl (fun hc1=>?_) (fun hc1=>?_)))
 ·refine C.s1<|Zh rfl<|L.n5<|Zaj ?_;exact Zy [] [] [_,_] [_] rfl ⟨rfl,aLJ⟩ rfl (fun D hD=>⟨by show Value.int _ _=_;rw[show m=0 by omega,z7];rfl,es,clock,M,rfl,hM,hok⟩)
 ·have hm0:m≠0:=by omega
  have hlow:=rY hm0;have hlown:=hbits _ hlow.1;have hlow7:low m<7:=by omega
  have hp2:=l9 hlow7;have hlt:=J9 hlow.1;have hrest:=vM m (2^low m);refine C.kn<|aL<|aL<|C.drawA [] 6 11 784 (fun _ _ _ h=>bT (P:=Tryz.prog) (fn:=Tryz.f245) _ _ _ h)<|Za rfl<|Zae rfl<|Zi rfl Tf.f311_1 rfl<|Zl rfl Tf.a309 rfl (List.Mem.head _) rfl<|Zr rfl Tf.a367 rfl hB1 Tf.s367<|NQ (val:=zA (n:=8)) (a:=⟨[(m:Int),(a0:Int),(a1:Int),(a2:Int),(a3:Int),(a4:Int),(a5:Int),(a6:Int)],rfl⟩) rfl U309 RG.key Tf.z3 rfl rfl (LE _ (GE _)) GT hM rfl aLJ (fun nv ok hmem=>Za rfl<|Zaa rfl ?_);refine Zaa rfl<|Zh rfl<|Zh rfl<|L.n3<|Za rfl<|L.n1<|aQ rfl (fun hc2=>?_) (fun hc2=>?_)
  ·subst hc2;refine C.s1<|Za rfl<|Zh rfl<|L.n5<|Zaj ?_;exact Zy [] [] [_,_] [_] rfl ⟨rfl,aLJ⟩ rfl (fun D hD=>⟨by show Value.int _ _=_;rw[YV hok (hmem rfl)],es,clock,M,rfl,hM,hok⟩)
  ·refine C.kn<|C.s1<|Zi rfl Tf.f367_0 rfl<|Zf 0 rfl Tf.a3 rfl hB1 rfl<|Zc rfl (fun D1 hD1=>MC m (low m) _ hlow.1 Yd hlow.2)<|Zh rfl<|L.n2<|C.drawA [] 2 6 12 (fun _ _ _ h=>bT (P:=Tryz.prog) (fn:=Tryz.f245) _ _ _ h)<|Zi rfl Tf.f367_0 rfl<|Zf 0 rfl Tf.a3 rfl hB1 rfl<|Za rfl<|L6 rfl rfl rfl Yd rfl aLJ ?_;refine QA rfl rfl rfl Yd Yd rfl trivial<|Zh rfl<|L.n3<|Za rfl<|Za rfl<|Zi rfl Tf.f367_1 rfl<|eP rfl (k:=1) (us:=[.int .i64 (a0:Int),.int .i64 (a1:Int),.int .i64 (a2:Int),.int .i64 (a3:Int),.int .i64 (a4:Int),.int .i64 (a5:Int),.int .i64 (a6:Int)]) Tf.a317 Tf.s317 rfl hB1 Yc rfl rfl GT rfl trivial<|gC (cs:=[.int .i64 ((nW m (2^low m):Nat):Int),.int .i64 (a0:Int),.int .i64 (a1:Int),.int .i64 (a2:Int),.int .i64 (a3:Int),.int .i64 (a4:Int),.int .i64 (a5:Int),.int .i64 (a6:Int)]) rfl Tf.p367 Tf.z367 rfl Yg rfl trivial<|dX (A:=[]) (ν:=[(_,_),(_,_)]) (B:=[]) rfl rfl rfl rfl (aGR rfl) (T6 (cs:=[_,_,_,_])) (fun D5 hD5=>ih _ hlt _ rfl (I5 hbits) es clock M D5 (hS.up rC.up (hD5 _ Ye)) hM hok) rfl aLJ (fun v5 D6 _ hD6 hp5=>?_);obtain⟨rfl,es4,cl4,M4,rfl,hM4,hok4⟩:=hp5;refine Zh rfl<|L.n4<|Za rfl<|Zae rfl<|Zi rfl Tf.f311_0 rfl<|Zi rfl Tf.f40_0 rfl<|Zl rfl Tf.a37 rfl (List.Mem.head _) rfl<|aV rfl U37 rfl hS rfl rfl trivial<|Za rfl<|L.n1<|Zah<|cJ (γ:=Nat×Array MapEntry×Nat×List (oQ 8×Int)) (fun g=>chs.length-g.1) (fun g=>g.1≤chs.length∧pN zA g.2.1 g.2.2.2∧Q5 chs.length g.2.2.2) (fun g=>[(45,.int .i64 (g.1:Int)),(9,.int .i64 (OC [a0,a1,a2,a3,a4,a5,a6] chs.length m g.1:Int))]) [(44,_),(8,_),(7,_),(4,_),(3,_),(0,_)] (fun g=>[(wb,.cells [cv,.int .i64 fit,qv,.map (some mb)].toArray 311 (0,0)),(mb,.map g.2.1 g.2.2.1)]) (fun g=>[D6,E1,D]) (0,es4,cl4,M4) ⟨by simp,hM4,hok4⟩ ⟨Yb,Yb,aLJ⟩ C.rs (LT _) (aD) ?_;rintro⟨k,es1,cl1,M1⟩ ⟨h1,hM1,hok1⟩;simp only at h1 hM1 hok1;refine C.s1<|Zad rfl<|L.n2<|aE rfl (fun hc3=>?_) (fun hc3=>?_)
   ·have hk:k<chs.length:=by omega
    have hpk:=l9 (show k<7 by omega);have hrow:=aAZ hF (low m);have hdl:=vM (nW m (2^low m)) (2^k);have hnl:=FE [a0,a1,a2,a3,a4,a5,a6] chs.length (nW (nW m (2^low m)) (2^k));have hand:=Nat.and_le_left (n:=nW m (2^low m)) (m:=[a0,a1,a2,a3,a4,a5,a6].getD (low m) 0);refine C.kn<|aL<|Zah<|C.s1<|Za rfl<|Zh rfl<|L.n3<|Za rfl<|Za rfl<|Zi rfl Tf.f367_1 rfl<|dR rfl U317 Tf.s3 rfl rfl Yd Yd rfl trivial<|bC (o:=0+1) (k:=low m*1) rfl Tf.a3 rfl hB1.tail Ye (VR a0 a1 a2 a3 a4 a5 a6 hlow7) GT rfl aLJ ?_;refine aBB rfl rfl rfl Yd Yd rfl trivial<|Za rfl<|G7 rfl rfl rfl Yd rfl trivial<|pK rfl rfl rfl (Int.natCast_nonneg _) Yd (by rw[jR];split<;>simp only[rJ]<;>omega) rfl trivial<|dK rfl rfl rfl rfl trivial<|L.n1<|aE rfl (fun hc4=>?_) (fun hc4=>?_)
    ·have hbit:(nW m (2^low m)&&& [a0,a1,a2,a3,a4,a5,a6].getD (low m) 0).testBit k=true:=by rw[jR]at hc4;simpa using hc4
     refine iK hB1 Ye (fun hq1=>?_);have hq1:q1∉[wb,mb]:=hq1;refine iS [wb,mb] 6 [0,1,2,3,4,5,6,7,8,9,10,11,12] [false,true,true,true,true,true,true,true,true,true,true,false,false] [(false,0),(true,1),(true,2),(true,3),(true,4),(true,5),(true,6),(true,7),(true,8),(true,9),(true,10),(false,11),(false,12)] Tf.follows (fun _ _ _ h=>bT (P:=Tryz.prog) (fn:=Tryz.f245) _ _ _ h) Yg rfl<|Za rfl<|Za rfl<|Za rfl<|Za rfl<|L6 rfl rfl rfl Yd rfl trivial<|QA rfl rfl rfl Yd Yn rfl trivial<|Zi rfl Tf.f367_1 rfl<|eP rfl (k:=1) (us:=[.int .i64 (a0:Int),.int .i64 (a1:Int),.int .i64 (a2:Int),.int .i64 (a3:Int),.int .i64 (a4:Int),.int .i64 (a5:Int),.int .i64 (a6:Int)]) Tf.a317 Tf.s317 rfl hB1 Yc rfl rfl Yj rfl trivial<|gC (cs:=[.int .i64 ((nW (nW m (2^low m)) (2^k):Nat):Int),.int .i64 (a0:Int),.int .i64 (a1:Int),.int .i64 (a2:Int),.int .i64 (a3:Int),.int .i64 (a4:Int),.int .i64 (a5:Int),.int .i64 (a6:Int)]) rfl Tf.p367 Tf.z367 rfl Yg rfl trivial<|dX (A:=[]) (ν:=[(_,_),(_,_)]) (B:=[]) rfl rfl rfl rfl (aGH (fun p hp=>aGA.2 ⟨p,hp,rfl⟩)) (T6 (cs:=[_,_,_,_])) (fun D7 hD7=>ih _ (IP hm0) _ rfl (I5 (I5 hbits)) es1 cl1 M1 D7 (hS.up rC.up (hD7 _ Ye)) hM1 hok1) rfl aLJ (fun v7 D8 _ hD8 hp7=>?_);obtain⟨rfl,es5,cl5,M5,rfl,hM5,hok5⟩:=hp7;refine Zx rfl<|oW rfl rfl rfl rfl trivial<|Zh rfl<|Zz<|Zak<|Zag<|C.rg<|Zx rfl<|Za rfl<|Zz ?_;exact aH 30 (k+1,es5,cl5,M5) ⟨by simp only;omega,hM5,hok5⟩ Yn ⟨Yb,(by rw[ZG hbit];show some (Value.int _ _)=some (Value.int _ _);congr 2;simp only;omega),aLJ⟩ rfl rfl (LT _) (fun D h=>⟨D,LE _ (h),Le.refl D⟩)
    ·have hbit:(nW m (2^low m)&&& [a0,a1,a2,a3,a4,a5,a6].getD (low m) 0).testBit k=false:=by rw[jR]at hc4;simpa using hc4
     refine bR<|Zak<|Zag<|C.rg<|Zx rfl<|Za rfl<|Zz ?_;exact aH 17 (k+1,es1,cl1,M1) ⟨by simp only;omega,hM1,hok1⟩ Yn ⟨Yb,(by rw[aCU hbit];rfl),aLJ⟩ rfl rfl (LT _) (aD)
   ·obtain rfl:k=chs.length:=by omega
    refine aR<|Zai<|Zai<|Zal<|Zag<|aL<|C.drawA [] 3 7 48 (fun _ _ _ h=>bT (P:=Tryz.prog) (fn:=Tryz.f245) _ _ _ h)<|Za rfl<|Zae rfl<|Zi rfl Tf.f311_1 rfl<|Zl rfl Tf.a309 rfl (List.Mem.head _) rfl<|Zr rfl Tf.a367 rfl hB1 Tf.s367 ?_;refine Za rfl<|MJ (val:=zA (n:=8)) (A:=[(_,_)]) (B:=[]) (a:=⟨[(m:Int),(a0:Int),(a1:Int),(a2:Int),(a3:Int),(a4:Int),(a5:Int),(a6:Int)],rfl⟩) rfl U309 RG.key rfl rfl rfl hM1 aLJ (fun es3 cl3 M3 hM3 hm3=>L.n3<|Za rfl<|Zh rfl<|L.n5 ?_);exact Zy [] [] [_,_] [_] rfl ⟨rfl,aLJ⟩ rfl (fun D hD=>⟨by show Value.int _ _=_;rw[VV hm0],es3,cl3,M3,rfl,hM3,ZT hok1 hm3 (by rw[VV hm0])⟩)
end L7
end Go.Fs
namespace Go.Fs
open Go.Proofs
namespace L7
open C7
structure BQ(n:Nat)(s:Sc):Prop where
 len:s.fits.length=7
 row:∀f∈s.fits,f<128
 bits:∀x,s.broken.testBit x=true→x<n
 whole:s.whole≤7
def oC(n:Nat)(s:Sc):Nat:=s.whole+j8 s.fits n s.broken
theorem aAL{α:Type}{l:List α}(h:l.length=7):∃a b c d e f g,l=[a,b,c,d,e,f,g]:=by
 match l,h with
 | [a,b,c,d,e,f,g],_=>exact⟨a,b,c,d,e,f,g,rfl⟩
theorem U2{y:bI}{t:List Pt}(hl:t.length=y.chairs.length)(h7:t.length≤7):BQ y.chairs.length (dD y t):=by
 refine⟨by simp[dD],fun f hf=>?_,fun x hx=>?_,?_⟩
 ·obtain⟨j,_,rfl⟩:=aGA.1 hf;have h1:=b9 (lZ y t j) t.length;have h2:2^t.length≤2^7:=aJW Yd h7;omega
 ·simp only[dD]at hx;rw[pF]at hx;simp at hx;omega
 ·have:whole t≤t.length:=aJI _ _;simp only[dD];omega
def CQ(l:List (Int×Int)):List Value:=l.flatMap fun p=>[.int .i64 p.1,.int .i64 p.2]
theorem o8(l:List (Int×Int))(p:Int×Int):CQ (l++[p])=CQ l++[.int .i64 p.1,.int .i64 p.2]:=by simp[CQ]
theorem vS(l:List (Int×Int)):(CQ l).length=l.length*2:=by
 induction l with
 |nil=>rfl
 |cons c l ih=>unfold CQ at ih ⊢;rw[aHS,aGC,ih];simp only[aGM,aIA];omega
theorem aAE{l:List (Int×Int)}{i:Nat}{c:Int×Int}(hi:l[i]?= some c):((CQ l).drop (i*2)).take 2=[.int .i64 c.1,.int .i64 c.2]:=by
  induction l generalizing i with
  |nil=>simp at hi
  |cons d l ih=>
    unfold CQ at ih ⊢
    rw[aHS];cases i with
    | zero => obtain rfl : d = c := by simpa using hi
              rfl
    |succ i=>
      rw[aJY,aHO Yaf,aHI];have:(i+1)*2- [Value.int .i64 d.1,Value.int .i64 d.2].length=i*2:=by simp;omega
      rw[this];exact ih Yaj
theorem _root_.Go.Fs.jK.prs{D:aA}{v:Value}{n:Nat}{l:List (Int×Int)}(hF:jK D v n (CQ l))(hn:l.length=n)(hb:n≤9223372036854775807):Sl D R2 2 v l:=
 hF.sl hn hb fun _i _t hi=>⟨_,rfl,rfl,aAE hi⟩
theorem TR(wb mb:Nat)(cv qv:Value)(fit:Int)(chs:List Ch)(w b:Nat)(a0 a1 a2 a3 a4 a5 a6:Nat)(hn7:chs.length≤7)(hF:∀f∈[a0,a1,a2,a3,a4,a5,a6],f<128)(hw:w≤7)(hbits:∀x,b.testBit x=true→x<chs.length)(es:Array MapEntry)(clock:Nat)(M:List (oQ 8×Int))(D:aA)(hS:Sl D rC 4 cv chs)(hM:pN zA es M)(hok:Q5 chs.length M):
  Q1 Tryz.prog 163 [.pointer (some ⟨wb,0,none⟩),.agg #[.int .i64 (w:Int),.int .i64 ((b:Nat):Int),.int .i64 (a0:Int),.int .i64 (a1:Int),.int .i64 (a2:Int),.int .i64 (a3:Int),.int .i64 (a4:Int),.int .i64 (a5:Int),.int .i64 (a6:Int)]] D [(wb,.cells [cv,.int .i64 fit,qv,.map (some mb)].toArray 311 (0,0)),(mb,.map es clock)] (fun _ v ν'=>v=.int .i64 ((w+j8 [a0,a1,a2,a3,a4,a5,a6] chs.length b:Nat):Int)∧∃es' clock' M',ν'=[(wb,.cells [cv,.int .i64 fit,qv,.map (some mb)].toArray 311 (0,0)),(mb,.map es' clock')]∧pN zA es' M'∧Q5 chs.length M'):=by
 have hbl:=Z9 hbits hn7;have hnl:=FE [a0,a1,a2,a3,a4,a5,a6] chs.length b;refine fT 15 Tryz.func163 rfl rfl rfl rfl (fun h0 hwl hwn=>C.s1<|Zv rfl (fun q1 E1 hE1 hB1=>Zh rfl<|L.n2<|iK hB1 Ye (fun hq1=>?_)));have hq1:q1∉[wb,mb]:=hq1;refine iS [wb,mb] 4 [0,1,2,3,4,5,6,7,8,9,10] [false,false,true,true,true,true,true,true,true,false,false] [(false,0),(false,1),(true,2),(true,3),(true,4),(true,5),(true,6),(true,7),(true,8),(false,9),(false,10)] Tf.follows (fun _ _ _ h=>bT (P:=Tryz.prog) (fn:=Tryz.f163) _ _ _ h) Yg rfl<|Zi rfl Tf.f319_0 rfl<|bC rfl (k:=0) Tf.a3 rfl hB1 Yc rfl Yj rfl trivial<|Za rfl<|Zi rfl Tf.f319_1 rfl<|bC rfl (k:=1) Tf.a3 rfl hB1 Yc rfl Yj rfl trivial<|Zi rfl Tf.f319_2 rfl<|eP rfl (k:=2) (us:=[.int .i64 (a0:Int),.int .i64 (a1:Int),.int .i64 (a2:Int),.int .i64 (a3:Int),.int .i64 (a4:Int),.int .i64 (a5:Int),.int .i64 (a6:Int)]) Tf.a317 Tf.s317 rfl hB1 Yc rfl rfl Yj rfl trivial<|gC (cs:=[.int .i64 ((b:Nat):Int),.int .i64 (a0:Int),.int .i64 (a1:Int),.int .i64 (a2:Int),.int .i64 (a3:Int),.int .i64 (a4:Int),.int .i64 (a5:Int),.int .i64 (a6:Int)]) rfl Tf.p367 Tf.z367 rfl Yg rfl trivial<|dX (A:=[]) (ν:=[(_,_),(_,_)]) (B:=[]) rfl rfl rfl rfl (by first|exact Or.inl rfl|exact Or.inr (fun p hp=>aGA.2 ⟨p,hp,rfl⟩)) (T6 (cs:=[_,_,_,_])) (fun D5 hD5=>SR wb mb cv qv fit chs a0 a1 a2 a3 a4 a5 a6 hn7 hF _ b rfl hbits es clock M D5 (hS.up rC.up (hD5 _ Ye)) hM hok) rfl aLJ (fun v5 D6 _ hD6 hp5=>?_);obtain⟨rfl,es1,cl1,M1,rfl,hM1,hok1⟩:=hp5;refine Zx rfl<|Zh rfl<|L.n5 ?_;exact Zy [] [] [_,_] [_] rfl ⟨rfl,aLJ⟩ rfl (fun D hD=>⟨by show Value.int _ _=_;congr 1,es1,cl1,M1,rfl,hM1,hok1⟩)
theorem ZE(wb mb:Nat)(cv qv:Value)(fit:Int)(chs:List Ch)(s:Sc)(hn7:chs.length≤7)(hs:BQ chs.length s)(es:Array MapEntry)(clock:Nat)(M:List (oQ 8×Int))(D:aA)(hS:Sl D rC 4 cv chs)(hM:pN zA es M)(hok:Q5 chs.length M):
  Q1 Tryz.prog 163 [.pointer (some ⟨wb,0,none⟩),FR s] D [(wb,.cells [cv,.int .i64 fit,qv,.map (some mb)].toArray 311 (0,0)),(mb,.map es clock)] (fun _ v ν'=>v=.int .i64 (oC chs.length s:Int)∧∃es' clock' M',ν'=[(wb,.cells [cv,.int .i64 fit,qv,.map (some mb)].toArray 311 (0,0)),(mb,.map es' clock')]∧pN zA es' M'∧Q5 chs.length M'):=by
 obtain⟨w,b,F⟩:=s;obtain⟨a0,a1,a2,a3,a4,a5,a6,rfl⟩:=aAL hs.len;exact TR wb mb cv qv fit chs w b a0 a1 a2 a3 a4 a5 a6 hn7 hs.row hs.whole hs.bits es clock M D hS hM hok
end L7
end Go.Fs
namespace Go.Fs
open Go.Proofs
namespace L7
open C7
structure aFO(y:bI):Prop where
 len:y.chairs.length≤7
 cls:y.claims.length≤5
 fit:0≤y.fit∧y.fit≤9
 size:∀c∈y.chairs,0≤c.size∧c.size≤9
 part:∀c∈y.chairs,∀n∈c.parts.l,0≤n∧n≤2
 claim:∀r∈y.claims,0≤r.1∧r.1≤r.2∧r.2≤7
 unk:iH y.chairs≤8
theorem aFX{y:bI}(h:aT y=0):aFO y:=by
 unfold aT at h;split at h
 ·omega
 ·rename_i h1;split at h
  ·omega
  ·rename_i h2;split at h
   ·omega
   ·rename_i h3;have h4:uV y=true:=by simpa using h2
    simp only[uV,aGO,aGY,cE]at h4;obtain⟨⟨h5,h6⟩,h7⟩:=h4;refine⟨by omega,by omega,h5,fun c hc=>?_,fun c hc n hn=>?_,fun r hr=>?_,by omega⟩
    ·have:=h6 c hc;simp only[hC,aGO,cE]at this;exact this.1
    ·have:=h6 c hc;simp only[hC,aGO,IY,aGY]at this
     exact cE.1 (this.2 n hn)
    ·have:=h7 r hr;simp only[kM,aGO,aGZ]at this;exact⟨this.1.1,this.1.2,this.2⟩
theorem YP{y:bI}{t:List Pt}(h:mT y t=true):t.length=y.chairs.length∧∀p∈t,Y2 p:=by
 unfold mT at h;simp only[aGO,aGZ,aGY]at h;refine⟨h.1,fun p hp=>?_⟩;obtain⟨i,hi⟩:=aJT.1 hp;obtain⟨hlt,_⟩:=aGJ.1 hi;have hc:y.chairs[i]?= some (y.chairs[i]'Yd):=aGF _;have:=h.2 (y.chairs[i]'Yd,p) (aGD (i:=i) (by rw[List.getElem?_zip_eq_some];exact⟨hc,hi⟩))
 simp only[GF,Pt.l,aLB,List.zip_nil_left,List.all_cons,List.all_nil,Bool.and_true,aGO,yV,cE]at this;exact⟨this.1.1,this.2.1.1,this.2.2.1⟩
def rD(cl:List (Int×Int))(out:List Int)(n:Int)(i:Nat):Bool:=(out.any fun x=>decide ((i:Int)=x))||(match cl[i]? with|some r=>fL n r.1 r.2|none=>true)
def mF(cl:List (Int×Int))(out:List Int)(n:Int):Bool:=(List.range cl.length).all (rD cl out n)
theorem NW{cl:List (Int×Int)}{out:List Int}{n:Int}{i:Nat}{r:Int×Int}(hr:cl[i]?= some r)(h:((!out.any fun x=>decide ((i:Int)=x))&& !fL n r.1 r.2)=false):rD cl out n i=true:=by
 unfold rD;rw[hr];revert h
 cases out.any fun x=>decide ((i:Int)=x)<;>simp
theorem G8{cl:List (Int×Int)}{out:List Int}{n:Int}{i:Nat}{r:Int×Int}(hi:i<cl.length)(hr:cl[i]?= some r)(h:((!out.any fun x=>decide ((i:Int)=x))&& !fL n r.1 r.2)=true):mF cl out n=false:=by
 unfold mF;rw[List.all_eq_false];refine⟨i,aJH.2 hi,?_⟩;unfold rD;rw[hr];revert h
 cases out.any fun x=>decide ((i:Int)=x)<;>simp
theorem yH{cl:List (Int×Int)}{out:List Int}{n:Int}(h:∀j,j<cl.length→rD cl out n j=true):mF cl out n=true:=by
 unfold mF;rw[aGY];exact fun j hj=>h j (aJH.1 hj)
def G3(y:bI)(t:List Pt):Nat:=oC y.chairs.length (dD y t)
theorem B5(yv:Value)(y:bI)(cv qv:Value)(D:aA)(hy:yv=.agg #[cv,.int .i64 y.fit,qv]):CI Tryz.prog 97 #[yv] D (fun _ v ν=>∃wb mb,v=.pointer (some ⟨wb,0,none⟩)∧ν=[(wb,.cells [cv,.int .i64 y.fit,qv,.map (some mb)].toArray 311 (0,0)),(mb,.map #[] 0)]):=by
 subst hy;refine mD 7 Tryz.func97 rfl rfl rfl rfl fun h0=>C.s1<|Zv rfl (fun q1 E1 hE1 hB1=>Zh rfl<|L.n3<|Zr rfl Tf.a40 rfl hB1 Tf.s40<|pM rfl rfl aLJ (fun qm=>Zq [cv,.int .i64 y.fit,qv,.map (some qm)] rfl Tf.p311 Tf.z311 rfl rfl<|V4 rfl (e:=311) rfl rfl rfl aLJ (fun q2=>Zh rfl<|L.n5 ?_)))
 exact leave1 rfl rfl rfl rfl (fun D hD=>⟨_,_,rfl,rfl⟩)
theorem QI(sv:Value)(xs:List Int)(n:Int)(D:aA)(hS:Sl D RI 1 sv xs):Fn Tryz.prog 230 #[sv,.int .i64 n] D (fun _ v=>v=.int .i64 (idxOf (fun x=>decide (n=x)) xs)):=by
 have hl:=hS.len;refine enter 19 Tryz.func230 rfl rfl rfl rfl fun h0=>C.s1<|Zh rfl<|L.n4<|Za rfl<|aV rfl U25 rfl Yk rfl rfl trivial<|Za rfl<|L.n1<|Zah<|cG (γ:=Nat) (fun k=>xs.length-k) (fun k=>k≤xs.length∧(xs.take k).any (fun x=>decide (n=x))=false) (fun k=>[(8,.int .i64 k)]) [(7,_),(4,_),(0,_),(1,_)] (fun k=>[D]) 0 Ye ⟨Yb,aLJ⟩ C.rs (aD) ?_
 rintro k ⟨h1,h2⟩;refine C.s1<|Zad rfl<|L.n2<|aE rfl (fun hc1=>?_) (fun hc1=>?_)
 ·have hk:k<xs.length:=by omega
  obtain⟨x,hx⟩:=C.ge xs k;refine C.kn<|aL<|Zah<|C.s1<|Za rfl<|Zh rfl<|L.n3<|Za rfl<|Za rfl<|Za rfl<|cR rfl U25 Tf.s3 rfl Yk rfl Yd Yk rfl aLJ (fun b1 o1 cs1 hr1 hcl1 hA1=>?_);obtain rfl:cs1=[.int .i64 _]:=hr1;refine Zf 0 rfl Tf.a3 rfl hA1 rfl<|dK rfl rfl rfl rfl trivial<|L.n1<|aE rfl (fun hc2=>?_) (fun hc2=>?_)
  ·refine C.s1<|Za rfl<|Zh rfl<|L.n5<|aG<|Zaj<|Zaj<|aG<|Zaj ?_;exact leave1 rfl rfl rfl rfl (fun D hD=>by show Value.int _ _=_;rw[gT hx h2 (by simp[hc2])])
  ·refine bR<|Zak<|Zag<|C.rg<|Zx rfl<|Za rfl<|Zz ?_;have h3:(xs.take (k+1)).any (fun x=>decide (n=x))=false:=by rw[aGT,hx,aJQ,h2];simp[hc2]
   exact aH 12 (k+1) ⟨by omega,h3⟩ Yd ⟨Yb,aLJ⟩ rfl rfl (LT _) (aD)
 ·refine aR<|Zai<|Zai<|Zal<|Zag<|C.s1<|Zh rfl<|L.n5 ?_;exact leave1 rfl rfl rfl rfl (fun D hD=>by show Value.int _ _=_;rw[eQ Yab])
theorem sP(sv:Value)(xs:List Int)(n:Int)(D:aA)(hS:Sl D RI 1 sv xs):Fn Tryz.prog 151 #[sv,.int .i64 n] D (fun _ v=>v=.bool (xs.any fun x=>decide (n=x))):=by
 refine enter 9 Tryz.func151 rfl rfl rfl rfl fun h0=>C.s1<|Zh rfl<|L.n3<|Za rfl<|Za rfl<|Zc rfl (fun D1 hD1=>QI _ xs n _ (Sl.at RI.up hD1 Yk Ye))<|nJ rfl rfl rfl rfl trivial<|Zh rfl<|L.n5 ?_
 exact leave1 rfl rfl rfl rfl (fun D hD=>by show Value.bool (decide _)=_;rw[gS])
theorem E0(yv:Value)(y:bI)(n:Int)(ov:Value)(out:List Int)(D:aA)(hy:lE D yv y)(ho:Sl D RI 1 ov out):Fn Tryz.prog 164 #[yv,.int .i64 n,ov] D (fun _ v=>v=.bool (mF y.claims out n)):=by
 obtain⟨cv,qv,rfl,hc,hq⟩:=hy;have hl:=hq.len;refine enter 28 Tryz.func164 rfl rfl rfl rfl fun h0=>C.s1<|Zv rfl (fun q1 E1 hE1 hB1=>Zh rfl<|L.n4<|Zi rfl Tf.f40_2 rfl<|Zf 2 rfl Tf.a38 rfl hB1 rfl<|aV rfl U38 rfl hq rfl rfl trivial<|Za rfl<|L.n1<|Zah<|cG (γ:=Nat) (fun i=>y.claims.length-i) (fun i=>i≤y.claims.length∧∀j,j<i→rD y.claims out n j=true) (fun i=>[(12,.int .i64 (i:Int))]) [(11,_),(10,_),(6,_),(1,_),(2,_)] (fun i=>[E1,D]) 0 Ye ⟨Yb,aLJ⟩ C.rs (aD) ?_)
 rintro i ⟨h1,h2⟩;refine C.s1<|Zad rfl<|L.n2<|aE rfl (fun hc1=>?_) (fun hc1=>?_)
 ·have hi:i<y.claims.length:=by omega
  obtain⟨r,hr0⟩:=C.ge y.claims i;refine C.kn<|aL<|Zah<|C.s1<|Za rfl<|Zs rfl U38 Tf.s133 rfl hq rfl hr0 (fun b1 o1 cs1 hr1 hcl1 hA1=>?_);obtain rfl:cs1=[.int .i64 _,.int .i64 _]:=hr1;refine Zr rfl Tf.a133 rfl hA1 Tf.s133<|Zw rfl Tf.z133 rfl (fun q2=>Zh rfl<|Zu rfl Tf.s133 (bL.head)<|L.n3<|Za rfl<|Za rfl<|Zc rfl (fun D1 hD1=>sP _ out (i:Int) _ (Sl.at RI.up hD1 Yk Ye))<|Zaf rfl<|Za rfl ?_);refine' L.anK 5 (s:=21) (p:=26) rfl (fun hg1=>?_) (fun hg1=>?_) ?_;rotate_left
  ·refine bK rfl Tf.a133 rfl (GE _) Tf.s133 GT rfl ⟨_,rfl,rfl⟩<|Zb rfl<|Zd rfl (fun D2 hD2=>K6 r n _)<|iW rfl rfl rfl ⟨_,rfl,rfl⟩<|Zab rfl ?_;exact L.cu 4
  ·refine Zk rfl<|Zk rfl<|Zk rfl<|Zk rfl<|Zac rfl ?_;exact L.cu 4
  refine L.n1<|aQ rfl (fun hc2=>?_) (fun hc2=>?_)
  ·refine C.s1<|Zh rfl<|L.n5<|aG<|Zaj<|Zaj<|aG<|Zaj ?_;exact leave1 rfl rfl rfl rfl (fun D hD=>by show Value.bool _=_;rw[G8 hi hr0 hc2])
  ·refine bR<|Zak<|Zag<|C.rg<|Zx rfl<|Za rfl<|Zz ?_;exact aH 15 (i+1) ⟨by omega,fun j hj=>by rcases Nat.lt_succ_iff_lt_or_eq.1 hj with h|rfl;exact h2 j h;exact NW hr0 hc2⟩ Yd ⟨Yb,aLJ⟩ rfl rfl (List.Sublist.cons _ (LT _)) (aD)
 ·obtain rfl:i=y.claims.length:=by omega
  refine aR<|Zai<|Zai<|Zal<|Zag<|C.s1<|Zh rfl<|L.n5 ?_;exact leave1 rfl rfl rfl rfl (fun D hD=>by show Value.bool _=_;rw[yH h2])
end L7
end Go.Fs
namespace Go.Fs
open Go.Proofs
namespace L2
open L1
open C2
open C1 (fL cE oZ nI)
theorem c7{c:List Int}{a b:Int}(h10:c.length=10)(h0:0≤a)(h1:a≤b)(h9:b≤9):∃x xs,(c.drop a.toNat).take ((b+1).toNat-a.toNat)=x::xs∧xs.foldl max x=jB c a b:=by
 have hlen:((c.drop a.toNat).take ((b+1).toNat-a.toNat)).length=(b+1).toNat-a.toNat:=by simp;omega
 cases h:(c.drop a.toNat).take ((b+1).toNat-a.toNat)with
 |nil=>rw[h]at hlen;simp at hlen;omega
 |cons x xs=>
  refine⟨x,xs,rfl,?_⟩;unfold jB;rw[show(b+1-a).toNat=(b+1).toNat-a.toNat by omega,h];rfl
def Q0(s:List Int)(m:Mk):Bool:=fL (jB s m.frm m.to) m.lo m.hi
theorem DN{last:Int}{m:Mk}(h:pT last m=true):0≤m.frm∧m.frm≤m.to∧m.to≤last∧0≤m.lo∧m.lo≤m.hi∧m.hi≤99:=by
 unfold pT nM T2 fX eE at h;simp only[aGO,aGZ,cE]at h;omega
theorem DQ{t:aZ}{c:List Int}{k:Nat}{m:Mk}(hx:t.marks[k]?= some m)(h2:(t.marks.take k).all (Q0 c)=true)(h:((!([]:List Int).any fun x=>decide ((k:Int)=x))&& !fL (jB c m.frm m.to) (m.lo,m.hi).1 (m.lo,m.hi).2)=false):(t.marks.take (k+1)).all (Q0 c)=true:=by
 rw[aGT,hx,List.all_append,h2];simpa [Q0]using h
theorem G8{t:aZ}{c:List Int}{k:Nat}{m:Mk}(hx:t.marks[k]?= some m)(h:((!([]:List Int).any fun x=>decide ((k:Int)=x))&& !fL (jB c m.frm m.to) (m.lo,m.hi).1 (m.lo,m.hi).2)=true):kF t c=false:=by
 unfold kF;rw[List.all_eq_false];exact⟨m,aGD hx,by simpa using h⟩
theorem yH{t:aZ}{c:List Int}{k:Nat}(h2:(t.marks.take k).all (Q0 c)=true)(hk:t.marks.length≤k):kF t c=true:=by
 rw[aHE hk]at h2;exact h2
theorem KR(l:List (Int×Int))(r:Int×Int):lW (l++[r])=min (lW l*eS r) 2001:=by
 unfold lW;rw[aIG];rfl
theorem U8{t:aZ}{k:Nat}{r:Int×Int}(hx:t.heights[k]?= some r):lW (t.heights.take (k+1))=min (lW (t.heights.take k)*eS r) 2001:=by
 rw[aGT,hx];exact KR _ _
theorem FG{t:aZ}(h:n9 t)(k:Nat):0≤lW (t.heights.take k)∧lW (t.heights.take k)≤2001:=by
 induction k with
 |zero=>simp[lW]
 |succ k ih=>
  cases hx:t.heights[k]? with
  |none=>rw[aGT,hx,Option.toList_none,aGG];exact ih
  |some r=>
   rw[U8 hx];have h1:=mP (h.hts r (aGD hx));have h2:0≤eS r:=by unfold eS;omega
   have h3:=Int.mul_nonneg ih.1 h2;omega
theorem QY{t:aZ}(h:n9 t)(k:Nat){r:Int×Int}(hr:fX r=true):0≤lW (t.heights.take k)*eS r∧lW (t.heights.take k)*eS r≤200100:=by
 have h0:=FG h k;have h1:=mP hr;have h2:0≤eS r∧eS r≤100:=by unfold eS;omega
 have h3:=Int.mul_nonneg h0.1 h2.1;have h4:=Int.mul_le_mul h0.2 h2.2 h2.1 Yd;omega
theorem yQ{t:aZ}{b:Bool}(h:((decide ((9:Int)<t.last)||decide ((6:Int)<(t.levels.length:Int)))||decide ((5:Int)<(t.marks.length:Int)))=b):WG t=b:=h
theorem VK{t:aZ}(h:((decide ((9:Int)<t.last)||decide ((6:Int)<(t.levels.length:Int)))||decide ((5:Int)<(t.marks.length:Int)))=false):t.last≤9:=by
 simp only[aJM,aIT]at h;omega
theorem AJ{t:aZ}{b:Bool}(h:(((((decide (t.last<0)||decide ((t.heights.length:Int)≠t.last+1))|| !t.heights.all fX)|| !eE t.step)|| !t.levels.all eE)|| !t.marks.all (pT t.last))=b):aDR t= !b:=by
 subst h;unfold aDR;have e1:decide (t.last<0)= !decide (0≤t.last):=by by_cases h:t.last<0<;>simp[h]<;>omega
 have e2:decide ((t.heights.length:Int)≠t.last+1)= !decide ((t.heights.length:Int)=t.last+1):=by simp
 rw[e1,e2];cases decide (0≤t.last)<;>cases decide ((t.heights.length:Int)=t.last+1)<;>cases t.heights.all fX<;>cases eE t.step<;>cases t.levels.all eE<;>cases t.marks.all (pT t.last)<;>rfl
section
variable{t:aZ}(h1:((decide ((9:Int)<t.last)||decide ((6:Int)<(t.levels.length:Int)))||decide ((5:Int)<(t.marks.length:Int)))=false)
theorem JZ(h1:((decide ((9:Int)<t.last)||decide ((6:Int)<(t.levels.length:Int)))||decide ((5:Int)<(t.marks.length:Int)))=true):aT t=3:=by unfold aT;rw[aGX (yQ h1)]
include h1
theorem aFK(h2:(((((decide (t.last<0)||decide ((t.heights.length:Int)≠t.last+1))|| !t.heights.all fX)|| !eE t.step)|| !t.levels.all eE)|| !t.marks.all (pT t.last))=false):n9 t:=aFY (yQ h1) (AJ h2)
theorem yS(h2:(((((decide (t.last<0)||decide ((t.heights.length:Int)≠t.last+1))|| !t.heights.all fX)|| !eE t.step)|| !t.levels.all eE)|| !t.marks.all (pT t.last))=true):aT t=1:=by
 unfold aT;rw[aGQ (by simp[yQ h1]),aGX (show aDR t=false from AJ h2)]
variable(h2:(((((decide (t.last<0)||decide ((t.heights.length:Int)≠t.last+1))|| !t.heights.all fX)|| !eE t.step)|| !t.levels.all eE)|| !t.marks.all (pT t.last))=false)
include h2
theorem DR(h4:2000<lW t.heights):aT t=3:=by
 unfold aT;rw[aGQ (by simp[yQ h1]),aGQ (by simp[AJ h2]),aGX h4]
theorem FO(h4:¬2000<lW t.heights)(hn:fC t=[]):aT t=9:=by
 unfold aT;rw[aGQ (by simp[yQ h1]),aGQ (by simp[AJ h2]),aGQ h4,aGX hn]
theorem qH(h4:¬2000<lW t.heights)(hn:fC t≠[]):aT t=0:=by
 unfold aT;rw[aGQ (by simp[yQ h1]),aGQ (by simp[AJ h2]),aGQ h4,aGQ hn]
end
theorem K9(c:List Int)(a b:Int)(D:aA)(h10:c.length=10)(h0:0≤a)(h1:a≤b)(h9:b≤9):Fn Tryz.prog 144 #[.agg (ints c).toArray,.int .i64 a,.int .i64 b] D (fun _ v=>v=.int .i64 (jB c a b)):=by
 obtain⟨x,xs,hx,hv⟩:=c7 h10 h0 h1 h9;refine enter 12 Tryz.func144 rfl rfl rfl rfl fun h0=>C.s1<|Zv rfl (fun q1 E1 hE1 hB1=>Zh rfl<|L.n3<|Za rfl<|Za rfl<|Zx rfl<|LC (l:=a.toNat) (h:=(b+1).toNat) rfl U282 Tf.s3 rfl rfl rfl Yd Yd Yd Yd Yd rfl trivial<|Zc rfl (fun D1 hD1=>PW _ x xs _ (hx▸(GL (l:=a.toNat) (h:=(b+1).toNat) hB1 h10 Yd Yd Yd).up RI.up (hD1 _ Ye)))<|Zh rfl<|L.n5 ?_)
 exact leave1 rfl rfl rfl rfl (fun D hD=>by show Value.int _ _=_;rw[hv])
theorem E0(tv:Value)(t:aZ)(c:List Int)(D:aA)(ht:gL D tv t)(hto:n9 t)(h10:c.length=10):Fn Tryz.prog 139 #[tv,.agg (ints c).toArray,.slice none 0 0] D (fun _ v=>v=.bool (kF t c)):=by
 obtain⟨hv,lv,mv,rfl,hh,hl,hm⟩:=ht;have hll:=hm.len;have hlast:=hto.last;refine enter 34 Tryz.func139 rfl rfl rfl rfl fun h0=>C.s1<|Zv rfl (fun q1 E1 hE1 hB1=>Zv rfl (fun q2 E2 hE2 hB2=>Zh rfl<|L.n4<|Zi rfl Tf.f32_4 rfl<|Zf 4 rfl Tf.a30 rfl hB1 rfl<|aV rfl U30 rfl hm rfl rfl trivial<|Za rfl<|L.n1<|Zah ?_));refine cG (γ:=Nat) (fun k=>t.marks.length-k) (fun k=>k≤t.marks.length∧(t.marks.take k).all (Q0 c)=true) (fun k=>[(12,.int .i64 (k:Int))]) [(11,_),(10,_),(6,_),(4,_),(2,_)] (fun k=>[E2,E1,D]) 0 Ye ⟨Yb,aLJ⟩ C.rs (aD) ?_
 rintro k ⟨h1,h2⟩;refine C.s1<|Zad rfl<|L.n2<|aE rfl (fun hc1=>?_) (fun hc1=>?_)
 ·have hk:k<t.marks.length:=by omega
  obtain⟨m,hx⟩:=C.ge t.marks k;have hmb:=DN (hto.mark m (aGD hx));refine C.kn<|aL<|Zah<|C.s1<|Za rfl<|Zs rfl U30 Tf.s158 rfl hm rfl hx (fun b1 o1 cs1 hr1 hcl1 hA1=>?_);obtain rfl:cs1=[.int .i64 _,.int .i64 _,.int .i64 _,.int .i64 _]:=hr1;refine Zr rfl Tf.a158 rfl hA1 Tf.s158<|Zw rfl Tf.z158 rfl (fun q3=>Zh rfl<|Zu rfl Tf.s158 (bL.head)<|L.n2<|C.drawA [] 5 16 8066 (fun _ _ _ h=>bZ (P:=Tryz.prog) (fn:=Tryz.f139) _ _ _ h)<|Za rfl<|Za rfl<|Zc rfl (fun D1 hD1=>L7.sP _ [] (k:Int) _ Sl.nil)<|Zaf rfl<|Za rfl ?_);refine' L.anK 11 (s:=21) (p:=32) rfl (fun hg1=>?_) (fun hg1=>?_) ?_;rotate_left
  ·refine Zj rfl Tf.f158_2 rfl<|dA rfl Tf.a99 Tf.s99 rfl (List.Mem.head _) rfl rfl GT rfl ⟨_,rfl,rfl⟩<|cO rfl Tf.a282 rfl hB2 Yc Yw GT rfl ⟨_,rfl,rfl⟩<|Zj rfl Tf.f158_0 rfl<|aS rfl Tf.a3 rfl (List.Mem.head _) rfl GT rfl ⟨_,rfl,rfl⟩<|Zj rfl Tf.f158_1 rfl<|aS rfl Tf.a3 rfl (List.Mem.head _) rfl GT rfl ⟨_,rfl,rfl⟩<|Zd rfl (fun D2 hD2=>K9 c m.frm m.to _ h10 hmb.1 hmb.2.1 Yd)<|Zd rfl (fun D3 hD3=>K6 (m.lo,m.hi) _ _)<|iW rfl rfl rfl ⟨_,rfl,rfl⟩<|Zab rfl ?_;exact L.cu 10
  ·refine Zk rfl<|Zk rfl<|Zk rfl<|Zk rfl<|Zk rfl<|Zk rfl<|Zk rfl<|Zk rfl<|Zk rfl<|Zk rfl<|Zac rfl ?_;exact L.cu 10
  refine L.n1<|aQ rfl (fun hc2=>?_) (fun hc2=>?_)
  ·refine C.s1<|Zh rfl<|L.n5<|aG<|Zaj<|Zaj<|aG<|Zaj ?_;exact leave1 rfl rfl rfl rfl (fun D hD=>by show Value.bool _=_;rw[G8 hx hc2])
  ·refine bR<|Zak<|Zag<|C.rg<|Zx rfl<|Za rfl<|Zz ?_;exact aH 15 (k+1) ⟨by omega,DQ hx h2 hc2⟩ Yd ⟨Yb,aLJ⟩ rfl rfl (List.Sublist.cons _ (LT _)) (aD)
 ·refine aR<|Zai<|Zai<|Zal<|Zag<|C.s1<|Zh rfl<|L.n5 ?_;exact leave1 rfl rfl rfl rfl (fun D hD=>by show Value.bool _=_;rw[yH h2 Yd])
theorem uI(tv:Value)(t:aZ)(D:aA)(ht:gL D tv t):Fn Tryz.prog 137 #[tv] D (fun _ v=>v=.int .i64 (aT t)):=by
 have ht0:=ht;obtain⟨hv,lv,mv,rfl,hh,hl,hm⟩:=ht;have hll:=hh.len;have hl2:=hl.len;have hl3:=hm.len;refine J6 82 Tryz.func137 rfl rfl rfl rfl fun h0=>C.s1<|Zv rfl (fun q1 E1 hE1 hB1=>Zw rfl Tf.z44 rfl (fun q2=>L.n3<|Zr rfl Tf.a32 rfl hB1 Tf.s32<|bB rfl rfl rfl rfl trivial<|Zh rfl<|L.n2<|Zah<|C.s1<|Zi rfl Tf.f32_0 rfl ?_));refine Zf 0 rfl Tf.a3 rfl hB1 rfl<|eT rfl rfl rfl rfl trivial<|Za rfl ?_
 refine' L.orK 5 (s:=13) (p:=18) rfl (fun hg1=>?_) (fun hg1=>?_) ?_;rotate_left
 ·refine Zj rfl Tf.f32_3 rfl<|Zg 3 rfl Tf.a25 rfl hB1 rfl<|aV rfl U25 rfl hl rfl rfl ⟨_,rfl,rfl⟩<|eT rfl rfl rfl rfl ⟨_,rfl,rfl⟩<|Zac rfl ?_;exact L.cu 4
 ·refine Zk rfl<|Zk rfl<|Zk rfl<|Zk rfl<|Zab rfl ?_;exact L.cu 4
 refine Za rfl ?_;refine' L.orK 5 (s:=19) (p:=24) rfl (fun hg2=>?_) (fun hg2=>?_) ?_;rotate_left
 ·refine Zj rfl Tf.f32_4 rfl<|Zg 4 rfl Tf.a30 rfl hB1 rfl<|aV rfl U30 rfl hm rfl rfl ⟨_,rfl,rfl⟩<|eT rfl rfl rfl rfl ⟨_,rfl,rfl⟩<|Zac rfl ?_;exact L.cu 4
 ·refine Zk rfl<|Zk rfl<|Zk rfl<|Zk rfl<|Zab rfl ?_;exact L.cu 4
 refine Zh rfl<|L.n1<|aQ rfl (fun hc1=>?_) (fun hc1=>?_)
 ·refine C.s1<|Zn rfl Tf.s44 (bL.head) rfl<|L.n5<|aG<|Zaj ?_;exact oJ (vs:=[_]) rfl rfl rfl ⟨⟨_,_,_,rfl,GE _,aGR ⟨Tf.a44,rfl⟩⟩,aLJ⟩ (fun D hD=>by show Value.int _ _=_;rw[JZ hc1])
 ·refine C.s1<|Zi rfl Tf.f32_0 rfl<|Zf 0 rfl Tf.a3 rfl hB1 rfl<|Zad rfl<|Za rfl ?_;refine' L.orK 8 (s:=29) (p:=37) rfl (fun hg3=>?_) (fun hg3=>?_) ?_;rotate_left
  ·have hl0:0≤t.last:=by have:=hg3;simp only[aIT]at this;omega
   have hl9:t.last≤9:=VK hc1;refine Zj rfl Tf.f32_1 rfl<|Zg 1 rfl Tf.a29 rfl hB1 rfl<|aV rfl U29 rfl hh rfl rfl ⟨_,rfl,rfl⟩<|Zj rfl Tf.f32_0 rfl<|Zg 0 rfl Tf.a3 rfl hB1 rfl<|nH rfl rfl rfl Yf rfl ⟨_,rfl,rfl⟩<|eI rfl rfl rfl rfl ⟨_,rfl,rfl⟩<|Zac rfl ?_;exact L.cu 7
  ·refine Zk rfl<|Zk rfl<|Zk rfl<|Zk rfl<|Zk rfl<|Zk rfl<|Zk rfl<|Zab rfl ?_;exact L.cu 7
  refine Za rfl ?_;refine' L.orK 5 (s:=38) (p:=43) rfl (fun hg4=>?_) (fun hg4=>?_) ?_;rotate_left
  ·refine Zj rfl Tf.f32_1 rfl<|Zg 1 rfl Tf.a29 rfl hB1 rfl<|Zd rfl (fun D1 hD1=>g8 _ _ _ fX _ (Sl.at A1.up hD1 Yk Ye) (.of fun x D2=>O3 x D2) rfl)<|iW rfl rfl rfl ⟨_,rfl,rfl⟩<|Zac rfl ?_;exact L.cu 4
  ·refine Zk rfl<|Zk rfl<|Zk rfl<|Zk rfl<|Zab rfl ?_;exact L.cu 4
  refine Za rfl ?_;refine' L.orK 5 (s:=44) (p:=49) rfl (fun hg5=>?_) (fun hg5=>?_) ?_;rotate_left
  ·refine Zj rfl Tf.f32_2 rfl<|Zg 2 rfl Tf.a3 rfl hB1 rfl<|Zd rfl (fun D2 hD2=>tT _ _)<|iW rfl rfl rfl ⟨_,rfl,rfl⟩<|Zac rfl ?_;exact L.cu 4
  ·refine Zk rfl<|Zk rfl<|Zk rfl<|Zk rfl<|Zab rfl ?_;exact L.cu 4
  refine Za rfl ?_;refine' L.orK 5 (s:=50) (p:=55) rfl (fun hg6=>?_) (fun hg6=>?_) ?_;rotate_left
  ·refine Zj rfl Tf.f32_3 rfl<|Zg 3 rfl Tf.a25 rfl hB1 rfl<|Zd rfl (fun D3 hD3=>xL _ _ _ eE _ (Sl.at RI.up hD3 Yk Ye) (.of fun x D2=>tT x D2) rfl)<|iW rfl rfl rfl ⟨_,rfl,rfl⟩<|Zac rfl ?_;exact L.cu 4
  ·refine Zk rfl<|Zk rfl<|Zk rfl<|Zk rfl<|Zab rfl ?_;exact L.cu 4
  refine Za rfl ?_;refine' L.orK 6 (s:=56) (p:=62) rfl (fun hg7=>?_) (fun hg7=>?_) ?_;rotate_left
  ·refine Zj rfl Tf.f32_4 rfl<|Zg 4 rfl Tf.a30 rfl hB1 rfl<|Zb rfl<|Zd rfl (fun D4 hD4=>YR _ _ _ (pT t.last) _ (Sl.at BJ.up hD4 Yk Ye) ⟨_,[_],[],rfl,fun m D2 hl=>XF _ t m D2 (ht0.up ((hD4 _ Ye).trans hl))⟩ rfl)<|iW rfl rfl rfl ⟨_,rfl,rfl⟩<|Zac rfl ?_;exact L.cu 5
  ·refine Zk rfl<|Zk rfl<|Zk rfl<|Zk rfl<|Zk rfl<|Zab rfl ?_;exact L.cu 5
  refine Zh rfl<|L.n1<|aQ rfl (fun hc2=>?_) (fun hc2=>?_)
  ·refine C.s1<|Zn rfl Tf.s44 (bL.head) rfl<|L.n5<|aG<|Zaj ?_;exact oJ (vs:=[_]) rfl rfl rfl ⟨⟨_,_,_,rfl,GE _,aGR ⟨Tf.a44,rfl⟩⟩,aLJ⟩ (fun D hD=>by show Value.int _ _=_;rw[yS hc1 hc2])
  ·have hto:n9 t:=aFK hc1 hc2;refine bR<|Zak<|Zag<|C.s1<|Zh rfl<|L.n4<|Zi rfl Tf.f32_1 rfl<|Zf 1 rfl Tf.a29 rfl hB1 rfl<|aV rfl U29 rfl hh rfl rfl trivial<|Za rfl<|L.n1<|Zah ?_;refine cG (γ:=Nat) (fun k=>t.heights.length-k) (fun k=>k≤t.heights.length) (fun k=>[(66,.int .i64 (k:Int)),(4,.int .i64 (lW (t.heights.take k)))]) [(65,_),(64,_),(2,_),(1,_)] (fun k=>[E1,D]) 0 Yd ⟨Yb,Yb,aLJ⟩ C.rs (aD) ?_;rintro k h1;refine C.s1<|Zad rfl<|L.n2<|aE rfl (fun hc3=>?_) (fun hc3=>?_)
   ·have hk:k<t.heights.length:=by omega
    obtain⟨r,hx⟩:=C.ge t.heights k;have hrb:=hto.hts r (aGD hx);have hmul:=QY hto k hrb;refine C.kn<|aL<|Zah<|C.s1<|Zs rfl U29 Tf.s99 rfl hh rfl hx (fun b1 o1 cs1 hr1 hcl1 hA1=>?_);obtain rfl:cs1=[.int .i64 _,.int .i64 _]:=hr1;refine Zr rfl Tf.a99 rfl hA1 Tf.s99<|Zw rfl Tf.z99 rfl (fun q3=>Zu rfl Tf.s99 (bL.head)<|L.n1<|C.rg<|Za rfl<|Zt rfl Tf.a99 rfl (List.Mem.head _) Tf.s99<|Zc rfl (fun D5 hD5=>HG r hrb _)<|wL rfl rfl rfl Yf rfl trivial<|Zp rfl U25 Tf.s3 Tf.z3 rfl rfl rfl rfl (.cons rfl rfl (.cons rfl rfl .nil)) (fun b901 D901 hD901 hA901=>?_));have hS901:=Sl.ofInts (l:=[_,_]) (n:=2) (cap:=2) hA901 rfl Yd Yd;refine Zc rfl (fun D6 hD6=>iT _ (lW (t.heights.take k)*eS r) [2001] _ (hS901.up RI.up (hD6 _ Ye)))<|Zh rfl<|Zz<|Zak<|Zag<|C.rg<|Zx rfl<|Za rfl<|Zz ?_;exact aH 15 (k+1) Yd Yd ⟨Yb,(by rw[U8 hx];rfl),aLJ⟩ rfl rfl (List.Sublist.cons _ (LT _)) (fun D h=>⟨D,LE _ (h),Le.refl D⟩)
   ·obtain rfl:k=t.heights.length:=by omega
    rw[aHT];refine aR<|Zai<|Zai<|Zal<|Zag<|C.s2<|Za rfl<|eT rfl rfl rfl rfl trivial<|L.n1<|aE rfl (fun hc4=>?_) (fun hc4=>?_)
    ·refine C.s1<|Zn rfl Tf.s44 (bL.head) rfl<|L.n5<|Zaj ?_;exact oJ (vs:=[_]) rfl rfl rfl ⟨⟨_,_,_,rfl,GE _,aGR ⟨Tf.a44,rfl⟩⟩,aLJ⟩ (fun D hD=>by show Value.int _ _=_;rw[DR hc1 hc2 hc4])
    ·refine C.kn<|C.s2<|Zr rfl Tf.a32 rfl hB1 Tf.s32<|cB rfl rfl rfl (fun D7 hD7=>BX _ t _ (ht0.up (hD7 _ Ye)) hto) rfl aLJ (fun v7 D7 hD7 hp7=>L.n1<|Zah ?_);obtain⟨br,rfl,hit⟩:=hp7;refine lV (γ:=Unit) (xs:=(fC t).map cK) (enc:=f8) (Dr:=D7) (fun pre _=>pre=[]) (fun _ c _=>c=.ret∧fC t≠[]) (fun _=>[(q2,.cells [.int .i64 0].toArray 44 (0,0))]) () rfl rfl rfl rfl hit Ye (fun _=>rfl) rfl rfl rfl ?_ ?_ ?_
     ·rintro pre x _ ⟨us,hx⟩ hΦ l bd rec hh D7 hD7 hst hpend;refine bR ?_;refine fun a w hhh=>qW (A:=[(_,_)]) (B:=[(bd,.deferred (some []))]) (r:=rec) (l:=l) (by rfl) hst ?_ a w hhh
      refine Zah<|C.s1<|Zn rfl Tf.s44 (bL.head) rfl<|L.n5<|aG ?_;exact UP (A:=[(_,_)]) (B:=[(bd,.deferred (some []))]) .ret () ⟨rfl,fun e=>by rw[e]at hx;simp at hx⟩ rfl rfl
     ·rintro _ bd hΦ;have hn:fC t=[]:=by simpa using hΦ
      refine Zak<|Zag<|C.s1<|Zn rfl Tf.s44 (bL.head) rfl<|L.n5 ?_;exact oG (vs:=[_]) (A:=[(_,_)]) rfl rfl rfl ⟨⟨_,_,_,rfl,GE _,aGR ⟨Tf.a44,rfl⟩⟩,aLJ⟩ (fun D hD=>by show Value.int _ _=_;rw[FO hc1 hc2 hc4 hn])
     ·rintro _ _ _ bd ⟨rfl,hne⟩;refine H8<|aG<|Zaj ?_;exact oG (vs:=[_]) (A:=[(_,_)]) rfl rfl rfl ⟨⟨_,_,_,rfl,GE _,aGR ⟨Tf.a44,rfl⟩⟩,aLJ⟩ (fun D hD=>by show Value.int _ _=_;rw[qH hc1 hc2 hc4 hne])
end L2
end Go.Fs
namespace Go.Fs
open Go.Proofs
namespace L2
open L1
open C2
open C1 (fL cE oZ nI)
def vO(t:aZ)(pre:List (List Int))(g:Value×aC×Array MapEntry×Nat×List (Int×Int)):Prop:=
 bN 282 10 g.1 (gU t pre.length).length (vH (gU t pre.length)) g.2.1∧pU g.2.2.1 g.2.2.2.1 g.2.2.2.2∧uH (gU t pre.length) t.last g.2.2.2.2
def aFD(t:aZ)(D:aA)(wv:Value)(ν:aC):Prop:=∃wb mb hv lv mv tsv es cl S,wv=.pointer (some ⟨wb,0,none⟩)∧ν=[(wb,.cells [.int .i64 t.last,hv,.int .i64 t.step,lv,mv,tsv,.map (some mb)].toArray 278 (0,0)),(mb,.map es cl)]∧
 gL D (.agg #[.int .i64 t.last,hv,.int .i64 t.step,lv,mv]) t∧Sl D S6 10 tsv (bG t)∧pU es cl S∧uH (bG t) t.last S
def wO(acc:List (List Int)):List Int:=match acc.getLast? with
 |some s=>cK s
 |none=>[]
theorem X6{acc:List (List Int)}(h:∀s∈acc,s.length≤10)(hne:acc≠[]):(wO acc).length=10:=by
 unfold wO;rw[aJL hne];exact eC (h _ (List.getLast_mem hne))
theorem OQ{acc:List (List Int)}(h:∀s∈acc,s.length≤10)(hne:acc≠[])(junk:List Value):((vH acc++junk).drop (0+(((acc.length:Int)-1).toNat)*10)).take 10=ints (wO acc):=by
 have hpos:=aJK.2 hne;unfold wO;rw[aJL hne,aJA];refine o4 h ?_ junk;rw[show((acc.length:Int)-1).toNat=acc.length-1 by omega,←List.getLast?_eq_getElem?,aJL hne]
theorem WR{s u:List Int}(h:s.length=u.length):cK s=cK u ↔ s=u:=by
 constructor
 ·intro e;have:=aGV (List.take s.length) e;unfold cK at this
  rwa [aKP,h,aKP]at this
 ·rintro rfl;rfl
def uL(S:List (Int×Int))(s:List Int)(k:Nat):List (Int×Int):=(List.range k).foldl (fun S (j:Nat)=>CA S ((j:Int),s.getD j 0)) S
theorem X1{S:List (Int×Int)}{s:List Int}{k:Nat}:uL S s (k+1)=CA (uL S s k) ((k:Int),s.getD k 0):=by
 unfold uL;rw[aIF,aIG];rfl
theorem SV{S:List (Int×Int)}{s:List Int}{k:Nat}{p:Int×Int}:p∈uL S s k ↔ p∈S∨∃j:Nat,j<k∧p=((j:Int),s.getD j 0):=by
 induction k with
 |zero=>simp[uL]
 |succ k ih=>
  rw[X1,OY,ih];constructor
  ·rintro((h|⟨j,hj,rfl⟩)|rfl)
   ·exact aGR h
   ·exact aGH ⟨j,by omega,rfl⟩
   ·exact aGH ⟨k,by omega,rfl⟩
  ·rintro(h|⟨j,hj,rfl⟩)
   ·exact aGR (aGR h)
   ·by_cases e:j=k
    ·subst e;exact aGH rfl
    ·exact aGR (aGH ⟨j,by omega,rfl⟩)
theorem II{s:List Int}{k:Nat}(h:k<s.length):(cK s)[(k:Int).toNat]?= some (s.getD k 0):=by
 unfold cK;rw[aIH,aIU h,aHP,aGF h];rfl
section
variable{t:aZ}{pre:List (List Int)}{s:List Int}(hrp:kF t (cK s)=kF t s)(htake:(fC t).take (pre.length+1)=(fC t).take pre.length++[s])
include hrp htake
theorem CB{b:Bool}(hc:(!kF t (cK s)||(decide (0<((gU t pre.length).length:Int))&&(wO (gU t pre.length)==cK s)))=b):yC t (gU t pre.length) s=if b=true then gU t pre.length else gU t pre.length++[s]:=by
 have hsm:s∈fC t:=aKS (i:=pre.length+1) (by rw[htake];simp);rw[hrp]at hc;subst hc;unfold yC;cases hr:kF t s with
 |false=>simp
 |true=>
  simp only[aLF,Bool.false_or,Bool.true_eq_false,false_or];by_cases hne:gU t pre.length=[]
  ·rw[hne];simp
  ·have hpos:=aJK.2 hne;have h1:decide (0<((gU t pre.length).length:Int))=true:=by simpa using hpos
   rw[h1,aKB];unfold wO;rw[aJL hne];have h2:=lH (xE (List.getLast_mem hne));have h3:=lH hsm;have h4:=WR (h2.trans h3.symm);by_cases e:(gU t pre.length).getLast hne=s
   ·rw[aGX (by rw[e]),aGX (by rw[e];simp)]
   ·rw[aGQ (by simpa using e),aGQ (by simpa using fun h=>e (h4.1 h))]
theorem SU{v:Value}{ν:aC}{es:Array MapEntry}{cl:Nat}{S:List (Int×Int)}(hc:(!kF t (cK s)||(decide (0<((gU t pre.length).length:Int))&&(wO (gU t pre.length)==cK s)))=true)(ha:bN 282 10 v (gU t pre.length).length (vH (gU t pre.length)) ν)(hS:pU es cl S)(hsp:uH (gU t pre.length) t.last S):vO t (pre++[cK s]) (v,ν,es,cl,S):=by
 have h1:=CB hrp htake hc;simp only[aII]at h1;have h2:=T5 htake;rw[h1]at h2;unfold vO;rw[aGC,aJE,h2];exact⟨ha,hS,hsp⟩
theorem YF(hc:(!kF t (cK s)||(decide (0<((gU t pre.length).length:Int))&&(wO (gU t pre.length)==cK s)))=false):gU t (pre.length+1)=gU t pre.length++[s]:=by
 have h1:=CB hrp htake hc;simp only[aHL,aIL]at h1;rw[T5 htake,h1]
end
theorem aCA{t:aZ}{pre:List (List Int)}{s:List Int}{v:Value}{ν:aC}{es:Array MapEntry}{cl k:Nat}{S:List (Int×Int)}(h:gU t (pre.length+1)=gU t pre.length++[s])(hk:s.length≤k)(hk2:(k:Int)=t.last+1)(ha:bN 282 10 v ((gU t pre.length).length+1) (vH (gU t pre.length++[s])) ν)(hS:pU es cl (uL S s k))(hsp:uH (gU t pre.length) t.last S):vO t (pre++[cK s]) (v,ν,es,cl,uL S s k):=by
 unfold vO;rw[aGC,aJE,h,aGC,aJE];refine⟨ha,hS,fun p=>?_⟩;rw[SV,hsp p];constructor
 ·rintro(⟨u,hu,j,hj,rfl⟩|⟨j,hj,rfl⟩)
  ·exact⟨u,aGI _ hu,j,hj,rfl⟩
  ·exact⟨s,by simp,j,by omega,rfl⟩
 ·rintro⟨u,hu,j,hj,rfl⟩;rcases aGP.1 hu with hu|hu
  ·exact aGR ⟨u,hu,j,hj,rfl⟩
  ·simp only[aGU]at hu;subst hu
   exact aGH ⟨j,by omega,rfl⟩
theorem aCS:K2 Tryz.prog 285:=⟨by kernel_rfl,by kernel_rfl,by kernel_rfl⟩
theorem pE(tv:Value)(t:aZ)(fine:Bool)(D:aA)(ht:gL D tv t):CI Tryz.prog 80 #[tv,.bool fine] D (fun D' v ν=>∃wv,v=.tuple #[wv,.int .i64 (kA t fine)]∧(kA t fine=0→n9 t∧bG t≠[]∧aFD t D' wv ν)):=by
 have ht0:=ht;obtain⟨hv,lv,mv,rfl,hh,hl,hm⟩:=ht;refine ZP 85 Tryz.func80 rfl rfl rfl rfl fun h0=>C.s1<|Zv rfl (fun q1 E1 hE1 hB1=>Zh rfl<|Zh rfl<|L.n4<|Zr rfl Tf.a32 rfl hB1 Tf.s32<|Zc rfl (fun D1 hD1=>uI _ t _ (ht0.up (hD1 _ Ye)))<|Zh rfl<|L.n3<|Za rfl<|eI rfl rfl rfl rfl aLJ ?_);refine L.n1<|aE rfl (fun hc1=>?_) (fun hc1=>?_)
 ·refine C.s1<|Za rfl<|Zh rfl<|Zh rfl<|L.n5<|Zaj ?_;exact oJ (vs:=[_,_]) rfl rfl rfl C.rs (fun D hD=>⟨_,by rw[kA,aGX hc1];rfl,fun h=>by rw[kA,aGX hc1]at h;exact absurd h hc1⟩)
 ·have hf0:aT t=0:=by omega
  have hto:n9 t:=S7 hf0;refine C.kn<|C.s2<|Za rfl<|Zaf rfl<|L.n1<|aQ rfl (fun hc2=>?_) (fun hc2=>?_)
  ·refine C.s1<|Zh rfl<|Zh rfl<|L.n5<|Zaj ?_;exact oJ (vs:=[_,_]) rfl rfl rfl C.rs (fun D hD=>⟨_,by rw[kA,aGQ hc1,aGX Yak];rfl,fun h=>by rw[kA,aGQ hc1,aGX Yak]at h;omega⟩)
  ·refine C.kn<|C.s1<|Zr rfl Tf.a32 rfl hB1 Tf.s32<|pM rfl rfl aLJ (fun qm=>gC (cs:=[.int .i64 t.last,hv,.int .i64 t.step,lv,mv,.slice none 0 0,.map (some qm)]) rfl Tf.p278 Tf.z278 rfl Yg rfl trivial<|V4 rfl (e:=278) rfl rfl rfl aLJ (fun q2=>Zw rfl Tf.z188 rfl (fun q3=>Zn rfl Tf.s188 (bL.head) rfl<|L.n4<|Zr rfl Tf.a32 rfl hB1 Tf.s32<|cB rfl rfl rfl (fun D2 hD2=>BX _ t _ (ht0.up (hD2 _ Ye)) hto) rfl aLJ (fun v2 D2 hD2 hp2=>L.n1 ?_))));refine Zah ?_;obtain⟨br,rfl,hit⟩:=hp2;refine lV (γ:=Value×aC×Array MapEntry×Nat×List (Int×Int)) (xs:=(fC t).map cK) (enc:=f8) (Dr:=D2) (vO t) (fun _ _ _=>False) (fun g=>[(q3,.cells [.pointer (some ⟨q2,0,none⟩)].toArray 188 (0,0)),(q2,.cells [.int .i64 t.last,hv,.int .i64 t.step,lv,mv,g.1,.map (some qm)].toArray 278 (0,0)),(qm,.map g.2.2.1 g.2.2.2.1)]++g.2.1) (.slice none 0 0,[],#[],0,[]) rfl rfl rfl rfl hit Ye (fun _=>rfl) rfl ⟨by simpa [gU,vH]using bN.nil,pU.nil,uH.nil⟩ rfl ?_ ?_ (fun _ _ _ _ h=>h.elim)
   ·rintro pre x ⟨v,ν,es,cl,S⟩ ⟨us,hx⟩ ⟨ha,hS,hsp⟩ l bd rec hh7 D7 hD7 hst hpend;simp only at ha hS hsp;obtain⟨s,hk,rfl,hsm,htake⟩:=DZ hx;have hsl:=lH hsm;have hlast:=hto.last;have hlen:=hto.len;have hs10:s.length≤10:=by omega
    have hp10:=eC hs10;have hall:∀u∈gU t pre.length,u.length≤10:=fun u hu=>by have:=lH (xE hu);omega
    have hcap:=zU hf0;have hacl:=y9 t pre.length;have hrp:=LN hto (s:=s) Yd;refine C.rg<|Zw rfl Tf.z282 rfl (fun q4=>Zu rfl Tf.s282 (bL.head)<|Zz ?_);refine fun a w hhh=>qW (A:=[(_,_),(_,_),(_,_),(_,_)]++ν) (B:=[(bd,.deferred (some []))]) (r:=rec) (l:=l) (by rfl) hst ?_ a w hhh
    refine rX (fun hnd=>?_);simp only[aHB,aGS,aHX,aGK,aIN,aHI,aGB,aGP,not_or]at hnd;have hq4:=hnd.1.2.2.2.1;have hq3:=hnd.2.1.2.2.1;have hq2:=hnd.2.2.1.2.1;refine Zah<|aL<|aL<|C.drawA [] 10 28 20905986 (fun _ _ _ h=>h)<|Zr rfl Tf.a32 rfl hB1 Tf.s32<|bK rfl Tf.a282 rfl (List.Mem.head _) Yw GT rfl trivial<|Zc rfl (fun D3 hD3=>E0 _ t (cK s) _ (ht0.up (hD3 _ Ye)) hto hp10)<|Zaf rfl<|Za rfl ?_;refine' L.orK 23 (s:=28) (p:=51) rfl (fun hg1=>?_) (fun hg1=>?_) ?_;rotate_left
    ·refine aS rfl Tf.a188 rfl (LE _ (GE _)) rfl GT rfl ⟨_,rfl,rfl⟩<|qR rfl rfl rfl ⟨_,rfl,rfl⟩<|Zj rfl Tf.f278_1 rfl<|aS rfl Tf.a276 rfl (List.Mem.tail _ (List.Mem.tail _ (List.Mem.head _))) rfl GT rfl ⟨_,rfl,rfl⟩<|dL rfl U276 rfl ha rfl rfl ⟨_,rfl,rfl⟩<|eT rfl rfl rfl rfl ⟨_,rfl,rfl⟩<|Zb rfl ?_;refine' L.anK 15 (s:=35) (p:=50) rfl (fun hg2=>?_) (fun hg2=>?_) ?_;rotate_left
     ·have hne:gU t pre.length≠[]:=fun e=>by rw[e]at hg2;simp at hg2
      have hpos:=aJK.2 hne;obtain⟨b5,cap5,junk5,rfl,hcp5,rfl,hl51,hl52⟩:=ha.some hpos;refine aS rfl Tf.a188 rfl (LE _ (GE _)) rfl GT rfl ⟨_,rfl,rfl⟩<|qR rfl rfl rfl ⟨_,rfl,rfl⟩<|Zj rfl Tf.f278_1 rfl<|aS rfl Tf.a276 rfl (List.Mem.tail _ (List.Mem.tail _ (List.Mem.head _))) rfl GT rfl ⟨_,rfl,rfl⟩<|aS rfl Tf.a188 rfl (List.Mem.tail _ (List.Mem.head _)) rfl GT rfl ⟨_,rfl,rfl⟩<|qR rfl rfl rfl ⟨_,rfl,rfl⟩<|Zj rfl Tf.f278_1 rfl<|aS rfl Tf.a276 rfl (List.Mem.tail _ (List.Mem.tail _ (List.Mem.head _))) rfl GT rfl ⟨_,rfl,rfl⟩<|gW rfl U276 rfl rfl rfl ⟨_,rfl,rfl⟩<|fJ rfl rfl rfl Yf rfl ⟨_,rfl,rfl⟩<|eY rfl U276 Tf.s282 rfl rfl Yd Yd rfl ⟨_,rfl,rfl⟩<|dA (vs:=vH (gU t pre.length)++junk5) (us:=ints (wO (gU t pre.length))) rfl Tf.a282 Tf.s282 rfl (LE _ (LE _ (LE _ (LE _ (GE _))))) (OQ hall hne junk5) (by simpa using X6 hall hne) GT rfl ⟨_,rfl,rfl⟩ ?_;refine bK rfl Tf.a282 rfl (GE _) Yw GT rfl ⟨_,rfl,rfl⟩<|EU rfl Yg U282 U3 Yg (X6 hall hne) hp10 rfl rfl rfl ⟨_,rfl,rfl⟩<|A5 rfl rfl rfl rfl ⟨_,rfl,rfl⟩ ?_;exact L.cu 14
     ·refine Zk rfl<|Zk rfl<|Zk rfl<|Zk rfl<|Zk rfl<|Zk rfl<|Zk rfl<|Zk rfl<|Zk rfl<|Zk rfl<|Zk rfl<|Zk rfl ?_;refine Zk rfl<|Zk rfl<|B6 rfl rfl rfl rfl ⟨_,rfl,rfl⟩ ?_;exact L.cu 14
     refine Zac rfl ?_;exact L.cu 8
    ·refine Zk rfl<|Zk rfl<|Zk rfl<|Zk rfl<|Zk rfl<|Zk rfl<|Zk rfl<|Zk rfl<|Zk rfl<|Zk rfl<|Zk rfl<|Zk rfl ?_;refine Zk rfl<|Zk rfl<|Zk rfl<|Zk rfl<|Zk rfl<|Zk rfl<|Zk rfl<|Zk rfl<|Zk rfl<|Zk rfl<|Zab rfl ?_;exact L.cu 22
    refine L.n1<|aQ rfl (fun hc3=>?_) (fun hc3=>?_)
    ·have hI0:vO t (pre++[cK s]) (v,ν,es,cl,S):=SU hrp htake hc3 ha hS hsp;refine aR<|Zai<|Zal ?_;exact fun a w hh=>fH (A:=[(_,_),(_,_),(_,_)]++ν) (B:=[(bd,.deferred (some []))]) (v,ν,es,cl,S) hI0 rfl rfl a w (hh.dropBoxes 1)
    ·have hadd:=YF hrp htake hc3;refine C.kn<|aL<|C.drawA (ν.map (·.1)) 2 11 254 (fun _ _ _ h=>h)<|aS rfl Tf.a188 rfl (List.Mem.tail _ (List.Mem.head _)) rfl Yj rfl trivial<|aS rfl Tf.a188 rfl (List.Mem.tail _ (List.Mem.head _)) rfl Yj rfl trivial<|Zae rfl<|Zi rfl Tf.f278_1 rfl<|aS rfl Tf.a276 rfl (List.Mem.tail _ (List.Mem.tail _ (List.Mem.head _))) rfl Yj rfl trivial<|bK rfl Tf.a282 rfl (List.Mem.head _) Yw Yj rfl trivial<|Zp rfl U276 Tf.s282 Tf.z282 rfl rfl rfl rfl (.cons rfl (by simpa using hp10) .nil) (fun b901 D901 hD901 hA901=>bA (A:=[(_,_),(_,_),(_,_),(_,_)]) (B:=[(l,_),(bd,_)]) rfl U276 rfl rfl Tf.s282 Tf.z282 rfl Tf.i282 rfl rfl rfl ha (jL.lit hA901) Ye (by simp[hp10]) (t8 hall) (by simpa using cW _) Yd (aGH (fun p hp=>aGA.2 ⟨p,hp,rfl⟩)) rfl aLJ (fun v1 ν1 ha1=>?_));have ha2:bN 282 10 v1 ((gU t pre.length).length+1) (vH (gU t pre.length++[s])) ν1:=by unfold vH;rw[aHG,aHW];simpa [vH]using ha1
     simp only[aIN,aHI];refine Zae rfl<|Zi rfl Tf.f278_1 rfl<|aX rfl rfl rfl ha1.cells1 Tf.s276 (.tail (.tail (bL.head))) Ye rfl ha1.cell1 trivial<|L.n3<|Zi rfl Tf.f32_0 rfl<|Zf 0 rfl Tf.a3 rfl hB1 rfl<|Zx rfl<|Za rfl<|L.n1<|Zah<|cJ (γ:=Nat×Array MapEntry×Nat) (fun g=>s.length-g.1) (fun g=>g.1≤s.length∧pU g.2.1 g.2.2 (uL S s g.1)) (fun g=>[(65,.int .i64 (g.1:Int))]) [(64,_),(8,_),(7,_),(5,_),(4,_)] (fun g=>[(q4,.cells (ints (cK s)).toArray 282 (0,0))]++[(q3,.cells [.pointer (some ⟨q2,0,none⟩)].toArray 188 (0,0)),(q2,.cells [.int .i64 t.last,hv,.int .i64 t.step,lv,mv,v1,.map (some qm)].toArray 278 (0,0)),(qm,.map g.2.1 g.2.2)]++(ν1++[(l,.loop {rec with state:=.busy}),(bd,.deferred (some []))])) (fun g=>[D901,D7,D2,E1,D]) (0,es,cl) ⟨by simp,hS⟩ ⟨Yb,aLJ⟩ C.rs (LT _) (aD) ?_;rintro⟨k,es2,cl2⟩ ⟨h1,hS2⟩;simp only at h1 hS2;refine C.s1<|Zad rfl<|L.n2<|aE rfl (fun hc4=>?_) (fun hc4=>?_)
     ·have hks:k<s.length:=by omega
      have hxk:(cK s)[(k:Int).toNat]?= some (s.getD k 0):=II hks;refine C.kn<|aL<|Zah<|C.s1<|Za rfl<|Zh rfl<|L.n1<|C.drawA [] 3 10 496 (fun _ _ _ h=>h)<|Zl rfl Tf.a188 rfl (List.Mem.tail _ (List.Mem.head _)) rfl<|Zae rfl<|Zi rfl Tf.f278_2 rfl<|Zl rfl Tf.a275 rfl (List.Mem.tail _ (List.Mem.tail _ (List.Mem.head _))) rfl ?_;refine Za rfl<|Za rfl<|dE rfl U282 Tf.s3 rfl rfl Yd Yd rfl trivial<|aS rfl Tf.a3 rfl (List.Mem.head _) (cA hxk) GT rfl trivial<|Zq [.int .i64 (k:Int),.int .i64 (s.getD k 0)] rfl Tf.p285 Tf.z285 rfl rfl<|aCE (A:=[(_,_),(_,_),(_,_)]) (B:=ν1++[(l,_),(bd,_)]) (a:=((k:Int),s.getD k 0)) rfl U275 aCS rfl rfl rfl hS2 aLJ (fun es3 cl3 hS3=>Zz<|Zak<|Zag<|C.rg<|Zx rfl<|Za rfl ?_);refine Zz ?_;exact aH 15 (k+1,es3,cl3) ⟨by simp only;omega,by rw[X1];exact hS3⟩ Yn ⟨Yb,aLJ⟩ rfl rfl (LT _) (aD)
     ·have hI1:vO t (pre++[cK s]) (v1,ν1,es2,cl2,uL S s k):=aCA hadd Yd Yd ha2 hS2 hsp;refine aR<|Zai<|Zai<|Zal<|Zak ?_;exact fun a w hh=>fH (A:=[(_,_),(_,_),(_,_)]++ν1) (B:=[(bd,.deferred (some []))]) (v1,ν1,es2,cl2,uL S s k) hI1 rfl rfl a w (hh.dropBoxes 1)
   ·rintro⟨v,ν,es,cl,S⟩ bd ⟨ha,hS,hsp⟩;simp only[aHR]at ha hS hsp;rw[wW t (aGW _)]at ha hsp;have hall:∀u∈bG t,u.length≤10:=fun u hu=>by rw[←wW t (aGW _)]at hu;have:=lH (xE hu);have:=hto.len10;omega
    have hll:(bG t).length≤2000:=by rw[←wW t (aGW _)];have:=y9 t (fC t).length;have:=zU hf0;omega
    refine Zak<|Zag<|C.s2<|Zl rfl Tf.a188 rfl (List.Mem.head _) rfl<|Zae rfl<|Zi rfl Tf.f278_1 rfl<|Zl rfl Tf.a276 rfl (List.Mem.tail _ (List.Mem.head _)) rfl<|dL rfl U276 rfl ha rfl rfl trivial<|dK rfl rfl rfl rfl trivial<|L.n1<|aE rfl (fun hc5=>?_) (fun hc5=>?_)
    ·have htn:bG t=[]:=aJF.1 Yd;have hask:kA t fine=11:=by rw[kA,aGQ hc1,aGQ Yak,aGX htn]
     refine C.s1<|Zh rfl<|Zh rfl<|L.n5<|Zaj ?_;exact y8 (vs:=[_,_]) (A:=[(_,_),(_,_),(_,_)]) (ν':=[]) (B:=ν) rfl rfl rfl C.rs (fun D hD=>⟨_,by rw[hask];rfl,fun h=>by rw[hask]at h;omega⟩)
    ·have htn:bG t≠[]:=fun e=>hc5 (by rw[e];rfl)
     have hask:kA t fine=0:=by rw[kA,aGQ hc1,aGQ Yak,aGQ htn]
     refine C.kn<|C.s1<|Zl rfl Tf.a188 rfl (List.Mem.head _) rfl<|Zh rfl<|Zh rfl<|L.n5<|eF (A:=[(_,_),(_,_),(_,_)]) (B:=[(bd,.deferred (some []))]) ha rfl (fun D8 hD8 hF8=>?_);exact y8 (vs:=[_,_]) (A:=[(_,_)]) (ν':=[(_,_),(_,_)]) (B:=[]) rfl rfl rfl C.rs (fun D hD=>⟨_,by rw[hask];rfl,fun _=>⟨hto,htn,q2,qm,hv,lv,mv,v,es,cl,S,rfl,rfl,⟨hv,lv,mv,rfl,hh.up A1.up (hD _ Ye),hl.up RI.up (hD _ Ye),hm.up BJ.up (hD _ Ye)⟩,(hF8.seas rfl Yd hall).up S6.up (hD _ Ye),hS,hsp⟩⟩)
end L2
end Go.Fs
namespace Go.Fs
open Go.Proofs
namespace L2
open L1
open C2
open C1 (fL cE oZ nI)
theorem lC{t:aZ}(_ht:n9 t){s:List Int}(h:s∈bG t):s.length=t.heights.length:=by
 rw[←wW t (aGW _)]at h;exact lH (xE h)
structure OD(es:Array MapEntry)(S:List (Int×Int))(h:Nat)(x0:Int)(seen:Array Nat)(lo hi:Int):Prop where
 mid:lo≤x0∧x0≤hi
 all:∀e∈es.toList,seen.contains e.born=true→∀y,e.key=iL ((h:Int),y)→lo≤y∧y≤hi
 los:((h:Int),lo)∈S
 his:((h:Int),hi)∈S
theorem OD.start{t:aZ}{es:Array MapEntry}{S:List (Int×Int)}{h:Nat}{s0:List Int}(hsp:uH (bG t) t.last S)(hs:s0∈bG t)(hh:(h:Int)≤t.last):OD es S h (s0.getD h 0) #[] (s0.getD h 0) (s0.getD h 0):=
 ⟨by omega,fun e _ hc=>by simp at hc,(hsp _).2 ⟨s0,hs,h,hh,rfl⟩,(hsp _).2 ⟨s0,hs,h,hh,rfl⟩⟩
theorem IT{a b:Int×Int}(h:iL a=iL b):a=b:=by
 obtain⟨a1,a2⟩:=a;obtain⟨b1,b2⟩:=b
 simp only[iL,Value.agg.injEq]at h;simpa using h
section
variable{t:aZ}{es:Array MapEntry}{cl:Nat}{S:List (Int×Int)}{h:Nat}{x0:Int}{seen:Array Nat}{lo hi:Int}
theorem W0(hS:pU es cl S){e e':MapEntry}(h1:e∈es.toList)(h2:e'∈es.toList)(h:e'.born=e.born):e'=e:=by
 have f1:=find_born e es.toList hS.nd h1;have f2:=find_born e' es.toList hS.nd h2;rw[h]at f2;rw[f1]at f2;exact(aHC f2).symm
theorem OD.yes(hI:OD es S h x0 seen lo hi)(hS:pU es cl S){e:MapEntry}(he:e∈(leftOf es seen).toList){ah ay:Int}(hek:e.key=iL (ah,ay))(haS:(ah,ay)∈S)(hc:ah=(h:Int)):OD es S h x0 (seen.push e.born) (min lo ay) (max hi ay):=by
 subst hc;have hm:=hI.mid;refine⟨by omega,fun e' he' hc y hy=>?_,?_,?_⟩
 ·rw[contains_push,aIC]at hc;rcases hc with hc|hc
  ·have:=hI.all e' he' hc y hy;omega
  ·have:=W0 hS (mem_left he).1 he' (aKV.1 hc);subst this;rw[hek]at hy;have:=IT hy;simp only[aJV,true_and]at this;omega
 ·rcases Int.le_total lo ay with h|h
  ·rw[Int.min_eq_left h];exact hI.los
  ·rw[Int.min_eq_right h];exact haS
 ·rcases Int.le_total hi ay with h|h
  ·rw[Int.max_eq_right h];exact haS
  ·rw[Int.max_eq_left h];exact hI.his
theorem OD.no(hI:OD es S h x0 seen lo hi)(hS:pU es cl S){e:MapEntry}(he:e∈(leftOf es seen).toList){ah ay:Int}(hek:e.key=iL (ah,ay))(_:(ah,ay)∈S)(hc:¬ah=(h:Int)):OD es S h x0 (seen.push e.born) lo hi:=by
 refine⟨hI.mid,fun e' he' hc' y hy=>?_,hI.los,hI.his⟩;rw[contains_push,aIC]at hc';rcases hc' with hc'|hc'
 ·exact hI.all e' he' hc' y hy
 ·have:=W0 hS (mem_left he).1 he' (aKV.1 hc');subst this;rw[hek]at hy;have:=IT hy;simp only[aJV]at this;exact absurd this.1 hc
theorem NI{l:List Int}{m:Int}(hm:m∈l)(h:∀x∈l,m≤x):oZ l=m:=by
 cases l with
 |nil=>cases hm
 |cons a l=>
  have key:∀(l:List Int) (a:Int),(∀x∈l,l.foldl min a≤x)∧l.foldl min a≤a∧(l.foldl min a=a∨l.foldl min a∈l):=by
   intro l;induction l with
   |nil=>intro a;simp
   |cons b l ih=>
    intro a;obtain⟨h1,h2,h3⟩:=ih (min a b);rw[aIO];refine⟨fun x hx=>?_,by omega,?_⟩
    ·rcases aGB.1 hx with rfl|hx
     ·omega
     ·exact h1 x hx
    ·rcases h3 with h3|h3
     ·rw[h3];rcases Int.le_total a b with h|h
      ·exact aGR (Int.min_eq_left h)
      ·exact aGH (by rw[Int.min_eq_right h];exact aGL)
     ·exact aGH (aGE _ h3)
  obtain⟨h1,h2,h3⟩:=key l a;show l.foldl min a=m;have h4:l.foldl min a≤m:=by
   rcases aGB.1 hm with rfl|hm
   ·exact h2
   ·exact h1 m hm
  have h5:m≤l.foldl min a:=by
   rcases h3 with h3|h3
   ·rw[h3];exact h a aGL
   ·exact h _ (aGE _ h3)
  omega
theorem MD{l:List Int}{m:Int}(hm:m∈l)(h:∀x∈l,x≤m):nI l=m:=by
 cases l with
 |nil=>cases hm
 |cons a l=>
  have key:∀(l:List Int) (a:Int),(∀x∈l,x≤l.foldl max a)∧a≤l.foldl max a∧(l.foldl max a=a∨l.foldl max a∈l):=by
   intro l;induction l with
   |nil=>intro a;simp
   |cons b l ih=>
    intro a;obtain⟨h1,h2,h3⟩:=ih (max a b);rw[aIO];refine⟨fun x hx=>?_,by omega,?_⟩
    ·rcases aGB.1 hx with rfl|hx
     ·omega
     ·exact h1 x hx
    ·rcases h3 with h3|h3
     ·rw[h3];rcases Int.le_total a b with h|h
      ·exact aGH (by rw[Int.max_eq_right h];exact aGL)
      ·exact aGR (Int.max_eq_left h)
     ·exact aGH (aGE _ h3)
  obtain⟨h1,h2,h3⟩:=key l a;show l.foldl max a=m;have h4:m≤l.foldl max a:=by
   rcases aGB.1 hm with rfl|hm
   ·exact h2
   ·exact h1 m hm
  have h5:l.foldl max a≤m:=by
   rcases h3 with h3|h3
   ·rw[h3];exact h a aGL
   ·exact h _ (aGE _ h3)
  omega
theorem OD.fin(hI:OD es S h x0 seen lo hi)(hS:pU es cl S)(hsp:uH (bG t) t.last S)(_:bG t≠[])(hh:(h:Int)≤t.last)(hz:(leftOf es seen).size=0):iL (lo,hi)=iL (qX t h):=by
 have hall:∀y,((h:Int),y)∈S→lo≤y∧y≤hi:=fun y hy=>by
  obtain⟨e,he,hk⟩:=hS.ent hy;refine hI.all e he ?_ y hk;cases hc:seen.contains e.born with
  |true=>rfl
  |false=>
   have hm:e∈leftOf es seen:=by
    unfold leftOf;rw[Array.mem_filter];exact⟨Array.mem_toList_iff.1 he,by rw[hc];rfl⟩
   have:=Array.size_pos_of_mem hm;omega
 have hmem:∀y,y∈(bG t).map (aFI · h)→((h:Int),y)∈S:=fun y hy=>by
  obtain⟨s,hs,rfl⟩:=aGA.1 hy;exact(hsp _).2 ⟨s,hs,h,hh,rfl⟩
 have hmem2:∀y,((h:Int),y)∈S→y∈(bG t).map (aFI · h):=fun y hy=>by
  obtain⟨s,hs,j,hj,he⟩:=(hsp _).1 hy;simp only[aJV]at he;have:j=h:=by omega
  subst this;exact aGA.2 ⟨s,hs,he.2.symm⟩
 unfold qX;rw[NI (hmem2 _ hI.los) fun x hx=>(hall x (hmem x hx)).1,MD (hmem2 _ hI.his) fun x hx=>(hall x (hmem x hx)).2]
end
theorem BB(t:aZ)(wb mb:Nat)(hv lv mv tsv:Value)(es:Array MapEntry)(cl:Nat)(S:List (Int×Int))(h:Nat)(D:aA)(hts:Sl D S6 10 tsv (bG t))(htn:bG t≠[])(hto:n9 t)(hS:pU es cl S)(hsp:uH (bG t) t.last S)(hh:(h:Int)≤t.last):
  Q1 Tryz.prog 265 [.pointer (some ⟨wb,0,none⟩),.int .i64 (h:Int)] D [(wb,.cells [.int .i64 t.last,hv,.int .i64 t.step,lv,mv,tsv,.map (some mb)].toArray 278 (0,0)),(mb,.map es cl)] (fun _ v ν'=>v=iL (qX t h)∧ν'=[(wb,.cells [.int .i64 t.last,hv,.int .i64 t.step,lv,mv,tsv,.map (some mb)].toArray 278 (0,0)),(mb,.map es cl)]):=by
 have hll:=hts.len;have hlast:=hto.last;obtain⟨s0,hs0⟩:∃s,(bG t)[0]?= some s:=⟨(bG t)[0]'(aJK.2 htn),aGF _⟩
 have hsl0:=lC hto (aGD hs0);have hsl1:=hto.len;have hg0:(cK s0)[(h:Int).toNat]?= some (s0.getD h 0):=II Yd;have hp10:=eC (l:=s0) Yd;refine fT 42 Tryz.func265 rfl rfl rfl rfl (fun h0 hwl hwn=>C.s1<|Zw rfl Tf.z99 rfl (fun q1=>L.n2<|C.drawA [] 7 19 196400 (fun _ _ _ h=>bT (P:=Tryz.prog) (fn:=Tryz.f265) _ _ _ h)<|Za rfl<|Zae rfl<|Zi rfl Tf.f278_1 rfl<|Zl rfl Tf.a276 rfl (List.Mem.tail _ (List.Mem.head _)) rfl<|Za rfl<|Zs rfl U276 Tf.s282 rfl hts rfl hs0 (fun b1 o1 cs1 hr1 hcl1 hA1=>?_)));obtain rfl:cs1=ints (cK _):=hr1;refine dR rfl U282 Tf.s3 rfl rfl Yd Yd rfl trivial<|bC (o:=o1) (k:=(h:Int).toNat*1) rfl Tf.a3 rfl hA1 Yj (by rw[aIR];exact cA hg0) GT rfl trivial<|Za rfl<|Zae rfl<|Zi rfl Tf.f278_1 rfl<|Zl rfl Tf.a276 rfl (List.Mem.tail _ (List.Mem.head _)) rfl<|Za rfl<|Zs rfl U276 Tf.s282 rfl hts rfl hs0 (fun b2 o2 cs2 hr2 hcl2 hA2=>?_)
 obtain rfl:cs2=ints (cK _):=hr2;refine dR rfl U282 Tf.s3 rfl rfl Yd Yd rfl trivial<|bC (o:=o2) (k:=(h:Int).toNat*1) rfl Tf.a3 rfl hA2 Yj (by rw[aIR];exact cA hg0) GT rfl trivial<|Zq [.int .i64 (s0.getD h 0),.int .i64 (s0.getD h 0)] rfl Tf.p99 Tf.z99 rfl rfl<|Zw rfl Tf.z99 rfl (fun q2=>Zu rfl Tf.s99 (bL.head)<|L.n4<|Za rfl<|Zae rfl<|Zi rfl Tf.f278_2 rfl<|Zl rfl Tf.a275 rfl (List.Mem.tail _ (List.Mem.tail _ (List.Mem.head _))) rfl<|OR (b:=mb) (es:=es) (clock:=cl) rfl U275 rfl Ye rfl aLJ (fun qr=>L.n1 ?_));refine Zah<|cJ (γ:=Array Nat×Int×Int) (fun g=>(leftOf es g.1).size) (fun g=>OD es S h (s0.getD h 0) g.1 g.2.1 g.2.2) (fun g=>[(28,.pointer (some ⟨qr,0,none⟩))]) [(5,_),(4,_),(1,_)] (fun g=>[(qr,.mapIter (some mb) cl g.1 cl),(q2,.cells [.int .i64 g.2.1,.int .i64 g.2.2].toArray 99 (0,0)),(q1,.cells [.int .i64 0,.int .i64 0].toArray 99 (0,0))]++[(wb,.cells [.int .i64 t.last,hv,.int .i64 t.step,lv,mv,tsv,.map (some mb)].toArray 278 (0,0)),(mb,.map es cl)]) (fun g=>[D]) (#[],s0.getD h 0,s0.getD h 0) (OD.start hsp (aGD hs0) hh) ⟨Yb,aLJ⟩ C.rs (LT _) (aD) ?_;rintro⟨seen,lo,hi⟩ hI;simp only at hI;refine C.s1<|aAC (b:=mb) (r:=qr) (es:=es) (clock:=cl) (A:=[]) (B:=[(_,_),(_,_),(_,_),(_,_)]) rfl rfl Ye hS.lt (aGW _) rfl aLJ (fun ok vs o' hv0 hno hyes=>T9 rfl rfl hv0 rfl trivial<|L.n2<|aQ rfl (fun hc1=>?_) (fun hc1=>?_))
 ·obtain⟨e,he,rfl⟩:=hyes hc1;obtain⟨⟨ah,ay⟩,haS,hek,hev⟩:=hS.key (mem_left he).1;refine C.kn<|Zah<|C.s1<|TM (b:=mb) (r:=qr) (es:=es) (clock:=cl) (e:=e) (since:=cl) (seen:=seen) rfl rfl Ye Ye (mem_left he).1 hS.nd rfl aLJ ?_;rw[hek];refine Zaa rfl<|Zw rfl Tf.z285 rfl (fun q3=>Zu rfl Tf.s285 (bL.head)<|L.n3<|Zi rfl Tf.f285_0 rfl<|Zl rfl Tf.a3 rfl (List.Mem.head _) rfl<|Za rfl<|dK rfl rfl rfl rfl trivial<|L.n1<|aE rfl (fun hc2=>?_) (fun hc2=>?_))
  ·refine C.rg<|Zt rfl Tf.a99 rfl (List.Mem.tail _ (List.Mem.tail _ (List.Mem.head _))) Tf.s99<|Zi rfl Tf.f285_1 rfl<|Zl rfl Tf.a3 rfl (List.Mem.head _) rfl<|Zc rfl (fun D1 hD1=>nU (lo,hi) ay _)<|Zu rfl Tf.s99 (.tail (.tail (bL.head)))<|Zz<|Zak ?_;exact aH 14 (seen.push e.born,min lo ay,max hi ay) (hI.yes hS he hek haS hc2) (left_shrinks _ _ _ he) ⟨rfl,aLJ⟩ rfl rfl (List.Sublist.cons _ (LT _)) (aD)
  ·refine bR<|Zak ?_;exact aH 10 (seen.push e.born,lo,hi) (hI.no hS he hek haS hc2) (left_shrinks _ _ _ he) ⟨rfl,aLJ⟩ rfl rfl (List.Sublist.cons _ (LT _)) (aD)
 ·obtain⟨hz,rfl⟩:=hno hc1;have hfin:=hI.fin hS hsp htn hh hz;refine aR<|Zai<|Zai<|Zal<|Zag<|C.s1<|Zt rfl Tf.a99 rfl (List.Mem.tail _ (List.Mem.head _)) Tf.s99<|Zu rfl Tf.s99 (.tail (.tail (bL.head)))<|L.n5 ?_;exact Zy [(_,_),(_,_),(_,_)] [] [_,_] [_] rfl ⟨⟨_,_,_,rfl,List.Mem.tail _ (List.Mem.tail _ (List.Mem.head _)),Or.inr ⟨Tf.a99,Tf.s99,rfl⟩⟩,aLJ⟩ rfl (fun D hD=>⟨hfin,rfl⟩)
end L2
end Go.Fs
namespace Go.Fs
open Go.Proofs
namespace L2
open L1
open C2
open C1 (fL cE oZ nI)
theorem BO{wb mb t cl:Nat}{cs:List Value}{es:Array MapEntry}:∀p∈[(wb,Obj.cells cs.toArray t (0,0)),(mb,.map es cl)],cF p.2:=by
 intro p hp;simp only[aGB,GT,aIY]at hp;rcases hp with rfl|rfl
 ·rfl
 ·trivial
def FB(l:List (Int×Int)):List Value:=l.flatMap fun p=>[.int .i64 p.1,.int .i64 p.2]
theorem H7(l:List (Int×Int)):(FB l).length=l.length*2:=by
 induction l with
 |nil=>rfl
 |cons p l ih=>unfold FB at ih ⊢;rw[aHS,aGC,ih,aGM];simp;omega
theorem N2(l m:List (Int×Int)):FB (l++m)=FB l++FB m:=aHG
theorem WK{l:List (Int×Int)}{i:Nat}{p:Int×Int}(hi:l[i]?= some p):((FB l).drop (i*2)).take 2=[.int .i64 p.1,.int .i64 p.2]:=by
  induction l generalizing i with
  |nil=>simp at hi
  |cons d l ih=>
    have hc:FB (d::l)=[.int .i64 d.1,.int .i64 d.2]++FB l:=rfl;rw[hc];cases i with
    | zero => obtain rfl : d = p := by simpa using hi
              rfl
    |succ i=>
      rw[show(i+1)*2=([.int .i64 d.1,.int .i64 d.2]:List Value).length+i*2 by simp;omega,aKK];exact ih Yaj
theorem _root_.Go.Fs.jK.rgs{D:aA}{v:Value}{n:Nat}{l:List (Int×Int)}(hF:jK D v n (FB l))(hn:l.length=n)(hb:n≤9223372036854775807):Sl D A1 2 v l:=
 hF.sl hn hb fun _i _t hi=>⟨_,rfl,rfl,WK hi⟩
def n6(t:aZ):List (Int×Int):=(List.range (t.last+1).toNat).map (qX t)
theorem EH{t:aZ}{k:Nat}(h:(k:Int)=t.last+1):(List.range k).map (qX t)=n6 t:=by unfold n6;rw[show(t.last+1).toNat=k by omega]
theorem TO(s:List Int):(cK s).take s.length=s:=by unfold cK;rw[aKP]
def qB(s:List Int)(level:Int)(k:Nat):List Int:=((List.range k).filter fun j=>decide (level<s.getD j 0)).map fun j:Nat=>(j:Int)
theorem GP(s:List Int)(level:Int)(k:Nat):(qB s level k).length≤k:=by
 unfold qB;rw[aHR];have:=aJI (fun j=>decide (level<s.getD j 0)) (List.range k);rwa [List.length_range]at this
theorem XY{s:List Int}{level x:Int}{k:Nat}(hx:s[k]?= some x)(h:level<x):qB s level (k+1)=qB s level k++[(k:Int)]:=by
 unfold qB;rw[aIF,aJG,aGS,aJX,aGX (by rw[aHP,hx];simpa using h)];rfl
theorem aCZ{s:List Int}{level x:Int}{k:Nat}(hx:s[k]?= some x)(h:¬level<x):qB s level (k+1)=qB s level k:=by
 unfold qB;rw[aIF,aJG,aGS,aJX,aGQ (by rw[aHP,hx];simpa using h)];simp
theorem P1(s:List Int)(level:Int):∃m:Nat,qL s level=(m:Int)∧m≤s.length∧(∀j,j<m→s.getD j 0≤level)∧(m<s.length→level<s.getD m 0):=by
 refine⟨(s.takeWhile fun n=>decide (n≤level)).length,rfl,?_⟩;induction s with
 |nil=>exact⟨by simp,fun j h=>by simp at h,fun h=>by simp at h⟩
 |cons a s ih=>
  obtain⟨h1,h2,h3⟩:=ih;by_cases h:a≤level
  ·rw[List.takeWhile_cons,aGX Yal,aGM,aGM];refine⟨by omega,fun j hj=>?_,fun hj=>?_⟩
   ·cases j with
    |zero=>simpa using h
    |succ j=>simpa using h2 j Yd
   ·simpa using h3 Yd
  ·rw[List.takeWhile_cons,aGQ Yal];exact⟨by simp,fun j hj=>by simp at hj,fun _=>by simp;omega⟩
theorem o6{s:List Int}{level:Int}{m:Nat}(h1:m<s.length)(h2:∀j,j<m→s.getD j 0≤level)(h3:level<s.getD m 0):(qB s level s.length)[0]?= some (m:Int):=by
 unfold qB;obtain⟨n,hn⟩:∃n,s.length=m+(n+1):=⟨s.length-m-1,by omega⟩
 rw[hn,List.range_add,aJG,List.filter_eq_nil_iff.2 (fun j hj=>by have:=h2 j (by simpa using hj);simpa using this),aHI,List.range_succ_eq_map,aHB,aJX,aGX (by simpa using h3)];simp
theorem RL{s:List Int}{level:Int}(h:0<(qB s level s.length).length):(qB s level s.length)[(0:Int).toNat]?= some (qL s level):=by
 obtain⟨m,hm,h1,h2,h3⟩:=P1 s level;rw[hm];by_cases hlt:m<s.length
 ·exact o6 hlt h2 (h3 hlt)
 ·exfalso
  obtain rfl:m=s.length:=by omega
  unfold qB at h;rw[List.filter_eq_nil_iff.2 (fun j hj=>by have:=h2 j (by simpa using hj);simpa using this)]at h
  simp at h
theorem YH{s:List Int}{level:Int}(h:¬0<(qB s level s.length).length):qL s level=(s.length:Int):=by
 obtain⟨m,hm,h1,h2,h3⟩:=P1 s level;by_cases hlt:m<s.length
 ·exfalso
  have:=o6 hlt h2 (h3 hlt);have:=(aGJ.1 this).1;omega
 ·rw[hm,show m=s.length by omega]
theorem qI(tv:Value)(t:aZ)(D:aA)(ht:gL D tv t):Fn Tryz.prog 199 #[tv] D (fun D' v=>∃lv,v=.tuple #[lv,.int .i64 (kA t true)]∧Sl D' A1 2 lv (if kA t true=0 then n6 t else [])):=by
 have ht0:=ht;obtain⟨hv,lv,mv,rfl,hh,hl,hm⟩:=ht;refine enter 30 Tryz.func199 rfl rfl rfl rfl fun h0=>C.s1<|Zv rfl (fun q1 E1 hE1 hB1=>Zh rfl<|Zh rfl<|L.n3<|Zr rfl Tf.a32 rfl hB1 Tf.s32<|eU rfl rfl rfl (fun D2 hD2=>pE _ t true _ (ht0.up (hD2 _ Ye))) rfl aLJ (fun v2 D3 ν2 hD3 hp2=>?_))
 obtain⟨wv,rfl,hwk⟩:=hp2;refine Za rfl<|Zaa rfl<|Zaa rfl<|Zh rfl<|Zh rfl<|L.n4<|Za rfl<|eI rfl rfl rfl rfl trivial<|L.n1<|aE rfl (fun hc1=>?_) (fun hc1=>?_)
 ·refine C.s1<|Za rfl<|Zh rfl<|Zh rfl<|L.n5<|Zaj ?_;exact Zm [_,_] rfl C.rs (fun D hD=>⟨_,rfl,by rw[aGQ hc1];exact Sl.nil⟩)
 ·have he0:kA t true=0:=by omega
  obtain⟨hto,htn,wb,mb,hv2,lv2,mv2,tsv,es,cl,S,rfl,rfl,htw,hts,hS,hsp⟩:=hwk he0;have hlast:=hto.last;refine C.kn<|C.s1<|Zh rfl<|L.n4<|Zi rfl Tf.f32_0 rfl<|Zf 0 rfl Tf.a3 rfl hB1 rfl<|Zx rfl<|Za rfl<|L.n1<|Zah<|cJ (γ:=Nat×Value×aC) (fun g=>(t.last+1).toNat-g.1) (fun g=>(g.1:Int)≤t.last+1∧bN 99 2 g.2.1 g.1 (FB ((List.range g.1).map (qX t))) g.2.2) (fun g=>[(19,.int .i64 (g.1:Int)),(6,g.2.1)]) [(18,_),(4,_),(3,_),(2,_)] (fun g=>g.2.2++[(wb,.cells [.int .i64 t.last,hv2,.int .i64 t.step,lv2,mv2,tsv,.map (some mb)].toArray 278 (0,0)),(mb,.map es cl)]) (fun g=>[D3,E1,D]) (0,.slice none 0 0,[]) ⟨by simp;omega,by simpa [FB]using bN.nil⟩ ⟨Yb,Yb,aLJ⟩ C.rs (LT _) (aD) ?_
  rintro⟨k,v,ν⟩ ⟨h1,ha⟩;simp only at h1 ha;refine C.s1<|Zad rfl<|L.n2<|aE rfl (fun hc2=>?_) (fun hc2=>?_)
  ·have hk:(k:Int)≤t.last:=by simp only at hc2;omega
   refine C.kn<|aL<|Zah<|C.s1<|Za rfl<|Zh rfl<|L.n1<|C.rg<|Za rfl<|Za rfl<|Za rfl<|I9 (A:=ν) (ν:=[(_,_),(_,_)]) rfl rfl rfl rfl (aGR rfl) (BO (cs:=[_,_,_,_,_,_,_])) (fun D5 hD5=>BB t wb mb hv2 lv2 mv2 tsv es cl S k _ (hts.up S6.up (hD5 _ Ye)) htn hto hS hsp Yd) rfl aLJ (fun v5 D6 _ hD6 hp5=>?_);obtain⟨rfl,rfl⟩:=hp5;refine Zp rfl U29 Tf.s99 Tf.z99 rfl rfl rfl rfl (.cons rfl rfl .nil) (fun b901 D901 hD901 hA901=>bA (A:=[]) (B:=[(_,_),(_,_)]) rfl U29 rfl rfl Tf.s99 Tf.z99 rfl Tf.i99 rfl rfl rfl ha (jL.lit hA901) Ye rfl (by rw[H7];simp) Yi Yd (aGR rfl) rfl aLJ (fun v1 ν1 ha1=>?_))
   have ha2:bN 99 2 v1 (k+1) (FB ((List.range (k+1)).map (qX t))) ν1:=by rw[aIF,aGS,N2];exact ha1
   refine Zh rfl<|Zz<|Zak<|Zag<|C.rg<|Zx rfl<|Za rfl<|Zz ?_;exact aH 14 (k+1,v1,ν1) ⟨by simp only;omega,ha2⟩ Yn ⟨Yb,rfl,aLJ⟩ rfl rfl (LT _) (fun D h=>⟨D,LE _ (LE _ (h)),Le.refl D⟩)
  ·have hk:(k:Int)=t.last+1:=by simp only at hc2 h1;omega
   refine aR<|Zai<|Zai<|Zal<|Zag<|C.s1<|Za rfl<|Zh rfl<|Zh rfl<|L.n5<|eF (A:=[]) (B:=[(_,_),(_,_)]) ha rfl (fun D8 hD8 hF8=>?_);exact Zm [_,_] rfl C.rs (fun D hD=>⟨_,by rw[he0];rfl,by rw[aGX he0];exact(EH Yd▸hF8.rgs Ye Yd).up A1.up (hD _ Ye)⟩)
theorem aCI(last step:Int)(hv lv mv:Value)(s:List Int)(level:Int)(D:aA)(hs:(s.length:Int)=last+1)(h10:s.length≤10):
  Fn Tryz.prog 141 #[.agg #[.int .i64 last,hv,.int .i64 step,lv,mv],.agg (ints (cK s)).toArray,.int .i64 level] D (fun D' v=>Sl D' RI 1 v (qB s level s.length)):=by
 have hp10:=eC h10;refine enter 28 Tryz.func141 rfl rfl rfl rfl fun h0=>C.s1<|Zv rfl (fun q1 E1 hE1 hB1=>Zv rfl (fun q2 E2 hE2 hB2=>Zh rfl<|L.n2<|aL ?_))
 have hsl:Sl E2 RI 1 (.slice (some ⟨q2,0,none⟩) s.length 10) s:=by have h:=GL (l:=0) (h:=s.length) hB2 hp10 Yd Yd Yd;rw[aJU,aJN,aJN]at h;rw[TO]at h;exact h
 refine C.rg<|Zi rfl Tf.f32_0 rfl<|Zf 0 rfl Tf.a3 rfl hB1 rfl<|Zx rfl<|VI (h:=s.length) rfl U282 Tf.s3 rfl rfl Yd Yd rfl trivial<|gW rfl U25 rfl rfl rfl trivial<|Za rfl<|L.n1<|Zah<|cJ (γ:=Nat×Value×aC) (fun g=>s.length-g.1) (fun g=>g.1≤s.length∧bN 3 1 g.2.1 (qB s level g.1).length (ints (qB s level g.1)) g.2.2) (fun g=>[(14,.int .i64 (g.1:Int)),(6,g.2.1)]) [(13,_),(12,_),(2,_)] (fun g=>g.2.2++[]) (fun g=>[E2,E1,D]) (0,.slice none 0 0,[]) ⟨by simp,by simpa [ints,qB]using bN.nil⟩ ⟨Yb,Yb,aLJ⟩ C.rs (LT _) (aD) ?_;rintro⟨k,v,ν⟩ ⟨h1,ha⟩;simp only at h1 ha;refine C.s1<|Zad rfl<|L.n2<|aE rfl (fun hc1=>?_) (fun hc1=>?_)
 ·have hk:k<s.length:=by simp only at hc1;omega
  obtain⟨x,hx⟩:=C.ge s k;have hwl:=GP s level k;refine C.kn<|aL<|Zah<|C.s1<|Za rfl<|Zs rfl U25 Tf.s3 rfl hsl rfl hx (fun b1 o1 cs1 hr1 hcl1 hA1=>?_);obtain rfl:cs1=[.int .i64 _]:=hr1;refine Zf 0 rfl Tf.a3 rfl hA1 rfl<|Zh rfl<|Zh rfl<|L.n3<|Za rfl<|Za rfl<|eT rfl rfl rfl rfl trivial<|L.n1<|aE rfl (fun hc2=>?_) (fun hc2=>?_)
  ·refine C.rg<|Za rfl<|Za rfl<|Zp rfl U25 Tf.s3 Tf.z3 rfl rfl rfl rfl (.cons rfl rfl .nil) (fun b901 D901 hD901 hA901=>?_);have hS901:=Sl.ofInts (l:=[_]) (n:=1) (cap:=1) hA901 rfl Yd Yd;refine bA (A:=[]) (B:=_) rfl U25 rfl rfl Tf.s3 Tf.z3 rfl Tf.i3 rfl rfl rfl ha (jL.lit hA901) Ye rfl (by simp[ints]) Yi Yd (aGR rfl) rfl aLJ (fun v1 ν1 ha1=>?_);have ha2:bN 3 1 v1 (qB s level (k+1)).length (ints (qB s level (k+1))) ν1:=by rw[XY hx hc2,aGC,←eW];exact ha1
   refine Zh rfl<|Zz<|Zak<|Zag<|C.rg<|Zx rfl<|Za rfl<|Zz ?_;exact aH 18 (k+1,v1,ν1) ⟨by simp only;omega,ha2⟩ Yn ⟨Yb,rfl,aLJ⟩ rfl rfl (LT _) (fun D h=>⟨D,LE _ (h),Le.refl D⟩)
  ·refine bR<|Zak<|Zag<|C.rg<|Zx rfl<|Za rfl<|Zz ?_;exact aH 13 (k+1,v,ν) ⟨by simp only;omega,by rw[aCZ hx hc2];exact ha⟩ Yn ⟨Yb,rfl,aLJ⟩ rfl rfl (LT _) (aD)
 ·obtain rfl:k=s.length:=by simp only at hc1;omega
  have hwl:=GP s level s.length;refine aR<|Zai<|Zai<|Zal<|Zag<|C.s1<|Za rfl<|Zh rfl<|L.n5<|eF (A:=[]) (B:=[]) ha rfl (fun D8 hD8 hF=>?_);exact leave1 rfl rfl rfl rfl (fun D hD=>(hF.ints Ye Yd).up RI.up (hD _ Ye))
theorem DW(t:aZ)(wb mb:Nat)(hv lv mv tsv:Value)(es:Array MapEntry)(cl:Nat)(s:List Int)(level y:Int)(D:aA)(hs:(s.length:Int)=t.last+1)(h10:s.length≤10):
  Q1 Tryz.prog 82 [.pointer (some ⟨wb,0,none⟩),.agg (ints (cK s)).toArray,.int .i64 level,.int .i64 y] D [(wb,.cells [.int .i64 t.last,hv,.int .i64 t.step,lv,mv,tsv,.map (some mb)].toArray 278 (0,0)),(mb,.map es cl)] (fun _ v ν'=>v=.int .i64 (qL s level)∧ν'=[(wb,.cells [.int .i64 t.last,hv,.int .i64 t.step,lv,mv,tsv,.map (some mb)].toArray 278 (0,0)),(mb,.map es cl)]):=by
 have hp10:=eC h10;refine fT 29 Tryz.func82 rfl rfl rfl rfl (fun h0 hwl hwn=>C.s1<|Zv rfl (fun q1 E1 hE1 hB1=>Zh rfl<|L.n2<|aL<|C.drawA [] 4 8 48 (fun _ _ _ h=>bT (P:=Tryz.prog) (fn:=Tryz.f82) _ _ _ h)<|Za rfl<|Zae rfl<|Zi rfl Tf.f278_0 rfl<|dA (us:=[.int .i64 t.last,hv,.int .i64 t.step,lv,mv]) rfl Tf.a32 Tf.s32 rfl (GE _) (by rfl) rfl GT rfl trivial<|cO rfl Tf.a282 rfl hB1 Yc Yw GT rfl aLJ ?_));refine Za rfl<|cB rfl rfl rfl (fun D1 hD1=>aCI t.last t.step hv lv mv s level _ hs h10) rfl aLJ (fun v1 D1 hD1 hp1=>Zh rfl<|L.n3<|Za rfl<|aV rfl U25 rfl hp1 rfl rfl trivial<|eT rfl rfl rfl rfl trivial<|L.n1<|aE rfl (fun hc1=>?_) (fun hc1=>?_))
 ·have hw0:=RL (s:=s) (level:=level) Yd;refine C.s1<|Za rfl<|Zs rfl U25 Tf.s3 rfl hp1 rfl hw0 (fun b1 o1 cs1 hr1 hcl1 hA1=>?_);obtain rfl:cs1=[.int .i64 _]:=hr1;refine Zf 0 rfl Tf.a3 rfl hA1 rfl<|Zh rfl<|L.n5<|Zaj ?_;exact Zy [] [] [_,_] [_] rfl ⟨rfl,aLJ⟩ rfl (fun D hD=>⟨rfl,rfl⟩)
 ·have hw1:=YH (s:=s) (level:=level) Yd;refine C.kn<|C.s1<|Za rfl<|Zae rfl<|Zi rfl Tf.f278_0 rfl<|Zi rfl Tf.f32_0 rfl<|Zl rfl Tf.a3 rfl (List.Mem.head _) rfl<|Zx rfl<|Zh rfl<|L.n5 ?_;exact Zy [] [] [_,_] [_] rfl ⟨rfl,aLJ⟩ rfl (fun D hD=>⟨by show Value.int _ _=_;rw[hw1,hs],rfl⟩)
theorem aAW(t:aZ)(wb mb:Nat)(hv lv mv tsv:Value)(es:Array MapEntry)(cl:Nat)(s:List Int)(a b:Int)(D:aA)(hs:(s.length:Int)=t.last+1)(h10:s.length≤10)(ha0:0≤a)(hab:a≤b)(hbl:b≤t.last):
  Q1 Tryz.prog 85 [.pointer (some ⟨wb,0,none⟩),.agg (ints (cK s)).toArray,.int .i64 a,.int .i64 b] D [(wb,.cells [.int .i64 t.last,hv,.int .i64 t.step,lv,mv,tsv,.map (some mb)].toArray 278 (0,0)),(mb,.map es cl)] (fun _ v ν'=>v=.int .i64 (jB s a b)∧ν'=[(wb,.cells [.int .i64 t.last,hv,.int .i64 t.step,lv,mv,tsv,.map (some mb)].toArray 278 (0,0)),(mb,.map es cl)]):=by
 have hp10:=eC h10;refine fT 13 Tryz.func85 rfl rfl rfl rfl (fun h0 hwl hwn=>C.s1<|Zv rfl (fun q1 E1 hE1 hB1=>Zh rfl<|L.n3<|cO rfl Tf.a282 rfl hB1 Yc Yw GT rfl trivial<|Za rfl<|Za rfl<|Zc rfl (fun D1 hD1=>K9 (cK s) a b _ hp10 ha0 hab Yd)<|Zh rfl<|L.n5 ?_));exact Zy [] [] [_,_] [_] rfl ⟨rfl,aLJ⟩ rfl (fun D hD=>⟨by show Value.int _ _=_;rw[rW ha0 hab Yd],rfl⟩)
end L2
end Go.Fs
namespace Go.Fs
open Go.Proofs
namespace L2
open L1
open C2
open C1 (fL cE oZ nI)
def CY(F:List Int→Int)(n:Int)(l:List (List Int)):Int×Int:=l.foldl (fun p s=>(min p.1 (F s),max p.2 (F s))) (n,n)
theorem VG{t:aZ}{F:List Int→Int}{n:Int}{k:Nat}{u:List Int}(hx:(bG t)[k]?= some u):CY F n ((bG t).take (k+1))=(min (CY F n ((bG t).take k)).1 (F u),max (CY F n ((bG t).take k)).2 (F u)):=by
 unfold CY;rw[aGT,hx,aIG];rfl
theorem s8(F:List Int→Int):∀(l:List (List Int)) (p:Int×Int),l.foldl (fun p s=>(min p.1 (F s),max p.2 (F s))) p=((l.map F).foldl min p.1,(l.map F).foldl max p.2)
 | [],_=>rfl
 |s::l,p=>by rw[aIO,s8 F l];rfl
theorem WT{t:aZ}{F:List Int→Int}{s0:List Int}{lo hi:Int}(hs0:(bG t)[0]?= some s0)(h:(lo,hi)=CY F (F s0) (bG t)):iL (lo,hi)=iL (oZ ((bG t).map F),nI ((bG t).map F)):=by
 rw[h];cases ht:bG t with
 |nil=>rw[ht]at hs0;simp at hs0
 |cons a l=>
  rw[ht]at hs0;obtain rfl:a=s0:=by simpa using hs0
  unfold CY;rw[s8,aHB,aIO,aIO,Int.min_self,Int.max_self];rfl
theorem wJ{t:aZ}{fine:Bool}(h:kA t fine=0):fine=true:=by
 unfold kA at h;split at h
 ·rename_i hf;exact absurd h hf
 ·split at h
  ·omega
  ·rename_i hf;simpa using hf
theorem EN{last a b:Int}(h:nM last a b=true):0≤a∧a≤b∧b≤last:=by
 unfold nM T2 at h;simp only[aGO,aGZ,cE]at h;omega
theorem P4(t:aZ)(wb mb:Nat)(hv lv mv tsv:Value)(es:Array MapEntry)(cl:Nat)(F:List Int→Int)(fid:Nat)(x y:Int)(D:aA)(hts:Sl D S6 10 tsv (bG t))(htn:bG t≠[])(hto:n9 t)
  (hf:∀s∈bG t,∀D',Le D D'→Q1 Tryz.prog fid [.pointer (some ⟨wb,0,none⟩),.agg (ints (cK s)).toArray,.int .i64 x,.int .i64 y] D' [(wb,.cells [.int .i64 t.last,hv,.int .i64 t.step,lv,mv,tsv,.map (some mb)].toArray 278 (0,0)),(mb,.map es cl)] (fun _ v ν'=>v=.int .i64 (F s)∧ν'=[(wb,.cells [.int .i64 t.last,hv,.int .i64 t.step,lv,mv,tsv,.map (some mb)].toArray 278 (0,0)),(mb,.map es cl)])):
  Q1 Tryz.prog 83 [.agg #[.func (.func fid) #[] #[]],.pointer (some ⟨wb,0,none⟩),.int .i64 x,.int .i64 y] D [(wb,.cells [.int .i64 t.last,hv,.int .i64 t.step,lv,mv,tsv,.map (some mb)].toArray 278 (0,0)),(mb,.map es cl)] (fun _ v ν'=>v=iL (oZ ((bG t).map F),nI ((bG t).map F))∧ν'=[(wb,.cells [.int .i64 t.last,hv,.int .i64 t.step,lv,mv,tsv,.map (some mb)].toArray 278 (0,0)),(mb,.map es cl)]):=by
 have hll:=hts.len;have hlast:=hto.last;have hsl1:=hto.len;obtain⟨s0,hs0⟩:∃s,(bG t)[0]?= some s:=⟨(bG t)[0]'(aJK.2 htn),aGF _⟩
 have hs0m:=aGD hs0;have hsl0:=lC hto hs0m;have hp100:=eC (l:=s0) Yd;refine fT 48 Tryz.func83 rfl rfl rfl rfl (fun h0 hwl hwn=>C.s1<|Zv rfl (fun q1 E1 hE1 hB1=>Zw rfl Tf.z99 rfl (fun q2=>L.n2<|C.drawA [] 6 13 2044 (fun _ _ _ h=>bT (P:=Tryz.prog) (fn:=Tryz.f83) _ _ _ h)<|Zi rfl Tf.f195_0 rfl<|Zf 0 rfl Tf.a192 rfl hB1 rfl<|Za rfl<|Za rfl<|Zae rfl<|Zi rfl Tf.f278_1 rfl ?_)));refine Zl rfl Tf.a276 rfl (List.Mem.tail _ (List.Mem.head _)) rfl<|Zs rfl U276 Tf.s282 rfl hts rfl hs0 (fun b1 o1 cs1 hr1 hcl1 hA1=>?_);obtain rfl:cs1=ints (cK _):=hr1;refine cO rfl Tf.a282 rfl hA1 Yc (by first|exact Tf.s282|(simp only[*];exact Tf.s282)) GT rfl trivial<|Za rfl<|Za rfl<|I9 (A:=[(_,_)]) (ν:=[(_,_),(_,_)]) rfl rfl rfl rfl (by first|exact Or.inl rfl|exact Or.inr Ye) (BO (cs:=[_,_,_,_,_,_,_])) (fun D5 hD5=>hf s0 hs0m _ (hD5 _ Ye)) rfl aLJ (fun v5 D6 _ hD6 hp5=>?_)
 obtain⟨rfl,rfl⟩:=hp5;refine Zh rfl<|L.n3<|Za rfl<|Za rfl<|Zq [.int .i64 (F s0),.int .i64 (F s0)] rfl Tf.p99 Tf.z99 rfl rfl<|Zw rfl Tf.z99 rfl (fun q3=>Zu rfl Tf.s99 (bL.head)<|L.n4<|Za rfl<|Zae rfl<|Zi rfl Tf.f278_1 rfl<|Zl rfl Tf.a276 rfl (List.Mem.tail _ (List.Mem.tail _ (List.Mem.head _))) rfl ?_);refine aV rfl U276 rfl hts rfl rfl trivial<|Za rfl<|L.n1<|Zah<|cJ (γ:=Nat×Int×Int) (fun g=>(bG t).length-g.1) (fun g=>g.1≤(bG t).length∧g.2=CY F (F s0) ((bG t).take g.1)) (fun g=>[(33,.int .i64 (g.1:Int))]) [(32,_),(31,_),(10,_),(8,_),(4,_),(1,_),(2,_),(3,_)] (fun g=>[(q3,.cells [.int .i64 g.2.1,.int .i64 g.2.2].toArray 99 (0,0)),(q2,.cells [.int .i64 0,.int .i64 0].toArray 99 (0,0))]++[(wb,.cells [.int .i64 t.last,hv,.int .i64 t.step,lv,mv,tsv,.map (some mb)].toArray 278 (0,0)),(mb,.map es cl)]) (fun g=>[D6,E1,D]) (0,F s0,F s0) ⟨by simp,rfl⟩ ⟨Yb,aLJ⟩ C.rs (LT _) (aD) ?_;rintro⟨k,lo,hi⟩ ⟨h1,hI⟩;simp only at h1 hI;refine C.s1<|Zad rfl<|L.n2<|aE rfl (fun hc1=>?_) (fun hc1=>?_)
 ·have hk:k<(bG t).length:=by simp only at hc1;omega
  obtain⟨u,hx⟩:=C.ge (bG t) k;have hum:=aGD hx;have hul:=lC hto hum;have hp10:=eC (l:=u) Yd;refine C.kn<|aL<|Zah<|C.s1<|Zs rfl U276 Tf.s282 rfl hts rfl hx (fun b2 o2 cs2 hr2 hcl2 hA2=>?_);obtain rfl:cs2=ints (cK _):=hr2;refine cO rfl Tf.a282 rfl hA2 Yc (by first|exact Tf.s282|(simp only[*];exact Tf.s282)) GT rfl trivial<|Zw rfl Tf.z282 rfl (fun q4=>bD rfl rfl rfl rfl Tf.s282 Yad Ya (bL.head) Yh trivial<|L.n1<|iK hB1 Ye (fun hq1k=>?_))
  have hq1:q1∉[wb,mb]:=fun h=>hq1k (aGE _ (aGE _ (aGE _ h)))
  refine rX (fun hnd=>?_);simp only[aHB,aKD,aHX,aGB,GT,aIY,not_or,aIN,aHI]at hnd;have hq3:q3∉[wb,mb]:=by simp only[aGB,GT,aIY,not_or];exact⟨hnd.2.1.2.1,hnd.2.1.2.2⟩
  have hq4:q4∉[wb,mb]:=by simp only[aGB,GT,aIY,not_or];exact⟨hnd.1.2.2.1,hnd.1.2.2.2⟩
  refine iS [wb,mb] 3 [0,1,2,3,4,5,6,7,8,9] [false,true,true,true,true,true,true,true,false,false] [(false,0),(true,1),(true,2),(true,3),(true,4),(true,5),(true,6),(true,7),(false,8),(false,9)] Tf.follows (fun _ _ _ h=>bT (P:=Tryz.prog) (fn:=Tryz.f83) _ _ _ h) Yg rfl<|bK rfl Tf.a99 rfl (List.Mem.tail _ (List.Mem.head _)) Tf.s99 Yj rfl trivial<|Zi rfl Tf.f195_0 rfl<|bC rfl (k:=0) Tf.a192 rfl hB1 Yc rfl Yj rfl trivial<|Za rfl<|bK rfl Tf.a282 rfl (List.Mem.head _) (by first|exact Tf.s282|(simp only[*];exact Tf.s282)) Yj rfl trivial<|Za rfl<|Za rfl<|I9 (A:=[(_,_),(_,_),(_,_)]) (ν:=[(_,_),(_,_)]) rfl rfl rfl rfl (by first|exact Or.inl rfl|exact Or.inr Ye) (BO (cs:=[_,_,_,_,_,_,_])) (fun D7 hD7=>hf u hum _ (hD7 _ Ye)) rfl aLJ (fun v7 D8 _ hD8 hp7=>?_);obtain⟨rfl,rfl⟩:=hp7;refine Zc rfl (fun D1 hD1=>nU (lo,hi) (F u) _)<|Zu rfl Tf.s99 (.tail (bL.head))<|Zz<|Zak<|Zag<|C.rg<|Zx rfl<|Za rfl<|Zz ?_;exact aH 16 (k+1,min lo (F u),max hi (F u)) ⟨by simp only;omega,by rw[VG hx,←hI]⟩ Yn ⟨Yb,aLJ⟩ rfl rfl (List.Sublist.cons _ (LT _)) (fun D h=>⟨D,LE _ (h),Le.refl D⟩)
 ·obtain rfl:k=(bG t).length:=by simp only at hc1;omega
  rw[aHT]at hI;have hfin:=WT hs0 hI;refine aR<|Zai<|Zai<|Zal<|Zag<|C.s1<|Zt rfl Tf.a99 rfl (List.Mem.head _) Tf.s99<|Zu rfl Tf.s99 (.tail (bL.head))<|L.n5 ?_;exact Zy [(_,_),(_,_)] [] [_,_] [_] rfl ⟨⟨_,_,_,rfl,List.Mem.tail _ (List.Mem.head _),Or.inr ⟨Tf.a99,Tf.s99,rfl⟩⟩,aLJ⟩ rfl (fun D hD=>⟨hfin,rfl⟩)
theorem UM(tv:Value)(t:aZ)(row:Int)(D:aA)(ht:gL D tv t):Fn Tryz.prog 46 #[tv,.int .i64 row] D (fun _ v=>v=.tuple #[iL (if kA t (fL row 0 ((t.levels.length:Int)-1))=0 then OJ t (t.levels.getD row.toNat 0)else(0,0)),.int .i64 (kA t (fL row 0 ((t.levels.length:Int)-1)))]):=by
 have ht0:=ht;obtain⟨hv,lv,mv,rfl,hh,hl,hm⟩:=ht;refine enter 28 Tryz.func46 rfl rfl rfl rfl fun h0=>C.s1<|Zv rfl (fun q1 E1 hE1 hB1=>Zw rfl Tf.z99 rfl (fun q2=>Zh rfl<|L.n2<|C.drawA [] 4 10 398 (fun _ _ _ h=>bZ (P:=Tryz.prog) (fn:=Tryz.f46) _ _ _ h)<|Zr rfl Tf.a32 rfl hB1 Tf.s32<|Zr rfl Tf.a32 rfl hB1 Tf.s32<|Za rfl<|Zc rfl (fun D1 hD1=>aBY _ t row _ (ht0.up (hD1 _ Ye)))<|eU rfl rfl rfl (fun D3 hD3=>pE _ t (fL row 0 ((t.levels.length:Int)-1)) _ (ht0.up (hD3 _ Ye))) rfl aLJ (fun v3 D4 ν3 hD4 hp3=>?_)))
 obtain⟨wv,rfl,hwk⟩:=hp3;refine Za rfl<|Zaa rfl<|Zaa rfl<|Zh rfl<|Zh rfl<|L.n4<|Za rfl<|eI rfl rfl rfl rfl trivial<|L.n1<|aE rfl (fun hc1=>?_) (fun hc1=>?_)
 ·refine C.s1<|Zq [.int .i64 0,.int .i64 0] rfl Tf.p99 Tf.z99 rfl rfl<|Za rfl<|Zu rfl Tf.s99 (.app (bL.head))<|Zh rfl<|L.n5<|Zaj ?_;exact Zm [_,_] rfl ⟨⟨_,_,_,rfl,(aFZ _ (List.Mem.head _)),Or.inr ⟨Tf.a99,(by first|exact Tf.s99|(simp only[aHK,aI, *];exact Tf.s99)),rfl⟩⟩,rfl,aLJ⟩ (fun D hD=>by show Value.tuple _=_;rw[aGQ hc1];rfl)
 ·have he0:kA t (fL row 0 ((t.levels.length:Int)-1))=0:=by omega
  obtain⟨hto,htn,wb,mb,hv2,lv2,mv2,tsv,es,cl,S,rfl,rfl,htw,hts,hS,hsp⟩:=hwk he0;have hrow:=wJ he0;rw[cE]at hrow;have hlev:t.levels[row.toNat]?= some (t.levels.getD row.toNat 0):=by rw[aHP,aGF Yd];rfl
  refine C.kn<|C.s1<|Zq [.func (.func 82) #[] #[]] rfl Tf.p195 Tf.z195 rfl rfl<|Za rfl<|Zi rfl Tf.f32_3 rfl<|Zf 3 rfl Tf.a25 rfl hB1 rfl<|Za rfl<|Zs rfl U25 Tf.s3 rfl hl rfl hlev (fun b1 o1 cs1 hr1 hcl1 hA1=>?_);obtain rfl:cs1=[.int .i64 _]:=hr1;refine Zf 0 rfl Tf.a3 rfl hA1 rfl<|dX (A:=[]) (ν:=[(_,_),(_,_)]) (B:=[(_,_)]) rfl rfl rfl rfl (by first|exact Or.inl rfl|exact Or.inr Ye) (BO (cs:=[_,_,_,_,_,_,_])) (fun D7 hD7=>P4 t wb mb hv2 lv2 mv2 tsv es cl (qL · (t.levels.getD row.toNat 0)) _ _ _ _ (hts.up S6.up (hD7 _ Ye)) htn hto (fun s hsm D' hD'=>DW t wb mb hv2 lv2 mv2 tsv es cl s _ _ D' (by have:=lC hto hsm;have:=hto.len;omega) (by have:=lC hto hsm;have:=hto.len10;omega))) rfl aLJ (fun v7 D8 _ hD8 hp7=>?_)
  obtain⟨rfl,rfl⟩:=hp7;refine Zu rfl Tf.s99 (.tail (.tail (bL.head)))<|Zh rfl<|L.n5 ?_;exact Zm [_,_] rfl ⟨⟨_,_,_,rfl,(List.Mem.tail _ (List.Mem.tail _ (List.Mem.head _))),Or.inr ⟨Tf.a99,(by first|exact Tf.s99|(simp only[aHK,aI, *];exact Tf.s99)),rfl⟩⟩,rfl,aLJ⟩ (fun D hD=>by show Value.tuple _=_;rw[aGX he0,he0];rfl)
theorem aDK(tv:Value)(t:aZ)(a b:Int)(D:aA)(ht:gL D tv t):Fn Tryz.prog 47 #[tv,.int .i64 a,.int .i64 b] D (fun _ v=>v=.tuple #[.int .i64 (if kA t (nM t.last a b)=0 then aEY t a b else 0),.int .i64 (kA t (nM t.last a b))]):=by
 have ht0:=ht;obtain⟨hv,lv,mv,rfl,hh,hl,hm⟩:=ht;refine enter 28 Tryz.func47 rfl rfl rfl rfl fun h0=>C.s1<|Zv rfl (fun q1 E1 hE1 hB1=>Zh rfl<|Zh rfl<|L.n2<|C.drawA [] 4 11 798 (fun _ _ _ h=>bZ (P:=Tryz.prog) (fn:=Tryz.f47) _ _ _ h)<|Zr rfl Tf.a32 rfl hB1 Tf.s32<|Zr rfl Tf.a32 rfl hB1 Tf.s32<|Za rfl<|Za rfl<|Zc rfl (fun D1 hD1=>u9 _ t a b _ (ht0.up (hD1 _ Ye))) ?_);refine eU rfl rfl rfl (fun D3 hD3=>pE _ t (nM t.last a b) _ (ht0.up (hD3 _ Ye))) rfl aLJ (fun v3 D4 ν3 hD4 hp3=>?_)
 obtain⟨wv,rfl,hwk⟩:=hp3;refine Za rfl<|Zaa rfl<|Zaa rfl<|Zh rfl<|Zh rfl<|L.n4<|Za rfl<|eI rfl rfl rfl rfl trivial<|L.n1<|aE rfl (fun hc1=>?_) (fun hc1=>?_)
 ·refine C.s1<|Za rfl<|Zh rfl<|Zh rfl<|L.n5<|Zaj ?_;exact Zm [_,_] rfl C.rs (fun D hD=>by show Value.tuple _=_;rw[aGQ hc1])
 ·have he0:kA t (nM t.last a b)=0:=by omega
  obtain⟨hto,htn,wb,mb,hv2,lv2,mv2,tsv,es,cl,S,rfl,rfl,htw,hts,hS,hsp⟩:=hwk he0;have hrow:=EN (wJ he0);refine C.kn<|C.s1<|Zq [.func (.func 85) #[] #[]] rfl Tf.p195 Tf.z195 rfl rfl<|Za rfl<|Za rfl<|Za rfl<|dX (A:=[]) (ν:=[(_,_),(_,_)]) (B:=[]) rfl rfl rfl rfl (by first|exact Or.inl rfl|exact Or.inr Ye) (BO (cs:=[_,_,_,_,_,_,_])) (fun D7 hD7=>P4 t wb mb hv2 lv2 mv2 tsv es cl (jB · a b) _ _ _ _ (hts.up S6.up (hD7 _ Ye)) htn hto (fun s hsm D' hD'=>aAW t wb mb hv2 lv2 mv2 tsv es cl s _ _ D' (by have:=lC hto hsm;have:=hto.len;omega) (by have:=lC hto hsm;have:=hto.len10;omega) hrow.1 hrow.2.1 hrow.2.2)) rfl aLJ (fun v7 D8 _ hD8 hp7=>?_)
  obtain⟨rfl,rfl⟩:=hp7;refine ZX rfl U99 rfl Tf.a3 rfl rfl rfl trivial<|Zh rfl<|Zh rfl<|L.n5 ?_;exact Zm [_,_] rfl C.rs (fun D hD=>by show Value.tuple _=_;rw[aGX he0,he0];rfl)
end L2
end Go.Fs
namespace Go.Fs
open Go.Proofs
namespace L3
open L1
open C1
open C1
open C1
end L3
end Go.Fs
