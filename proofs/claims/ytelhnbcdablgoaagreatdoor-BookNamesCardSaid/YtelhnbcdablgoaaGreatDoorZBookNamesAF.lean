/- Of the proof of BookNames: SW5, Pair, Pairs, Nu, Mend, SW6, SW7, SW8, UW3, UW4, UW5, UW6, UW7, V1, V2, V3. -/
import Derived.Test.YtelhnbcdablgoaaGreatDoorZBookNamesAE
import Derived.Test.YtelhnbcdablgoaaGreatDoorZBookNamesAC
import Derived.Test.YtelhnbcdablgoaaGreatDoorZBookNamesAD
namespace Go.Fs
open Go.Proofs Tryz
namespace L7
open C7
def jW(p:Nat→Bool):Nat→Nat
 |0=>0
 |n+1=>if p n=true then jW p n|||2^n else jW p n
theorem vS(p:Nat→Bool):∀n i,(jW p n).testBit i=(decide (i<n)&&p i)
 |0,i=>by simp[jW]
 |n+1,i=>by
  unfold jW;split
  ·rename_i h;rw[Nat.testBit_or,vS p n i,Nat.testBit_two_pow];by_cases hi:n=i
   ·subst hi;simp[h]
   ·have:(i<n+1)=(i<n):=by rw[eq_iff_iff];omega
    simp[hi,this]
  ·rename_i h;rw[vS p n i];by_cases hi:n=i
   ·subst hi;simp[h]
   ·have:(i<n+1)=(i<n):=by rw[eq_iff_iff];omega
    simp[this]
theorem IH(p:Nat→Bool)(n:Nat):jW p n<2^n:=by
 apply Nat.lt_pow_two_of_testBit;intro i hi;rw[vS];have:¬i<n:=by omega
 simp[this]
def mT(t:List Pt)(i:Nat):Bool:=match t[i]? with|some p=> !lE p|none=>false
def qO(y:bQ)(t:List Pt)(i k:Nat):Bool:=match t[i]?,t[k]?,y.chairs[i]?,y.chairs[k]? with
 |some p,some q,some x,some z=>(decide ((k:Int)≠i)&&MM y.fit x z)&&TY p q
 |_,_,_,_=>false
theorem aER{y:bQ}{t:List Pt}{i k:Nat}{z q:Pt}{M x2:Ch}(hz:t[i]?= some z)(hq:t[k]?= some q)(G:y.chairs[i]?= some M)(I:y.chairs[k]?= some x2):qO y t i k=((decide ((k:Int)≠i)&&MM y.fit M x2)&&TY z q):=by
 unfold qO;rw[hz,hq,G,I]
def fR(y:bQ)(t:List Pt)(i k:Nat):List Nat:=(List.range 7).map fun j=>if j<i then jW (qO y t j) t.length else if j=i then jW (qO y t i) k else 0
structure Sc where
 whole:Nat
 broken:Nat
 fits:List Nat
deriving DecidableEq
def eM(y:bQ)(t:List Pt):Sc:=⟨whole t,jW (mT t) t.length,(List.range 7).map fun j=>jW (qO y t j) t.length⟩
def g9(w b:Nat)(rows:List Nat):List Value:=qI (w:Int)::qI (b:Int)::rows.map fun(n:Nat)=>Value.int .i64 (n:Int)
def QM(s:Sc):Value:=.agg (g9 s.whole s.broken s.fits).toArray
theorem aDM(w b:Nat)(rows:List Nat):∀u∈g9 w b rows,cell1 u=true:=by
 intro u hu;unfold g9 at hu;simp only[GE,n4]at hu;rcases hu with rfl|rfl|⟨n,_,rfl⟩<;>rfl
theorem aND{y:bQ}{t:List Pt}{j:Nat}(h:t.length≤j):jW (qO y t j) t.length=0:=by
 apply Nat.eq_of_testBit_eq;intro i;rw[vS,Nat.zero_testBit];have:qO y t j i=false:=by unfold qO;rw[bAT h]
 simp[this]
theorem YP{y:bQ}{t:List Pt}:fR y t t.length 0=(eM y t).fits:=by
 show fR y t t.length 0=(List.range 7).map fun j=>jW (qO y t j) t.length
 unfold fR;apply List.map_congr_left;intro j _;by_cases h:j<t.length
 ·rw[aYJ h]
 ·rw[aYC h,aND Yd];split<;>rfl
theorem SB{y:bQ}{t:List Pt}{i:Nat}:fR y t i t.length=fR y t (i+1) 0:=by
 unfold fR;apply List.map_congr_left;intro j _;by_cases h:j<i
 ·rw[aYJ h,aYJ Yd]
 ·rw[aYC h];by_cases h2:j=i
  ·subst h2;rw[aYJ rfl,aYJ Yd]
  ·rw[aYC h2,aYC Yd];split<;>rfl
theorem aSI{y:bQ}{t:List Pt}{i k:Nat}(h:qO y t i k=false):fR y t i k=fR y t i (k+1):=by
 unfold fR;have:jW (qO y t i) (k+1)=jW (qO y t i) k:=by rw[jW,aYC (by simp[h])]
 rw[this]
theorem aOU{y:bQ}{t:List Pt}{i k:Nat}(h:i<7):(fR y t i k)[i]?= some (jW (qO y t i) k):=by
 unfold fR;rw[aYQ,bCG h];simp
theorem aSP{rows:List Nat}{i n:Nat}(w b:Nat)(h:rows[i]?= some n):(g9 w b rows)[2+i*1]?= some (qI (n:Int)):=by
 rw[bAF,Nat.add_comm];unfold g9;rw[List.getElem?_cons_succ,List.getElem?_cons_succ,aYQ,h];rfl
theorem AB{t:List Pt}{i:Nat}{z:Pt}(hz:t[i]?= some z):whole (t.take (i+1))=whole (t.take i)+if lE z=true then 1 else 0:=by
 unfold whole;rw[aYG,hz,aZH,bAQ,GT];cases h:lE z<;>simp[h]
theorem SD{t:List Pt}{i:Nat}{z:Pt}(hz:t[i]?= some z):mT t i= !lE z:=by unfold mT;rw[hz]
theorem EK{y:bQ}{t:List Pt}{i k:Nat}{z:Pt}(hz:t[i]?= some z)(hw:lE z=true):jW (qO y t i) k=0:=by
 apply Nat.eq_of_testBit_eq;intro j;rw[vS,Nat.zero_testBit];have:qO y t i j=false:=by
  unfold qO;rw[hz]
  split
  ·rename_i G _ _ _;obtain rfl:=aYS G;simp[TY,hw]
  ·rfl
 simp[this]
theorem aHH{y:bQ}{t:List Pt}{i:Nat}{z:Pt}(hz:t[i]?= some z)(hw:lE z=true):
  (g9 (whole (t.take i)) (jW (mT t) i) (fR y t i 0)).take 0++[qI ((whole (t.take i):Int)+1)]++(g9 (whole (t.take i)) (jW (mT t) i) (fR y t i 0)).drop (0+ [Value.int .i64 ((whole (t.take i):Int)+1)].length)=g9 (whole (t.take (i+1))) (jW (mT t) (i+1)) (fR y t (i+1) 0):=by
 have h1:((whole (t.take (i+1)):Nat):Int)=(whole (t.take i):Int)+1:=by rw[AB hz,aYJ hw];simp
 have h2:jW (mT t) (i+1)=jW (mT t) i:=by rw[jW,aYC (by rw[SD hz,hw];simp)]
 have h3:fR y t (i+1) 0=fR y t i 0:=by
  rw[←SB];unfold fR;rw[EK hz hw,EK hz hw]
 rw[h2,h3];unfold g9;rw[h1];rfl
theorem aOG{y:bQ}{t:List Pt}{i:Nat}{z:Pt}(hz:t[i]?= some z)(hw:lE z=false):
  (g9 (whole (t.take i)) (jW (mT t) i) (fR y t i 0)).take 1++[qI ((jW (mT t) i|||2^i:Nat):Int)]++(g9 (whole (t.take i)) (jW (mT t) i) (fR y t i 0)).drop (1+ [Value.int .i64 ((jW (mT t) i|||2^i:Nat):Int)].length)=g9 (whole (t.take (i+1))) (jW (mT t) (i+1)) (fR y t i 0):=by
 have h1:whole (t.take (i+1))=whole (t.take i):=by rw[AB hz,aYC (by simp[hw])];rfl
 have h2:jW (mT t) (i+1)=jW (mT t) i|||2^i:=by rw[jW,aYJ (by rw[SD hz,hw];rfl)]
 rw[h1,h2];rfl
theorem aUO{y:bQ}{t:List Pt}{i k w b:Nat}(hi:i<7)(h:qO y t i k=true):
  (g9 w b (fR y t i k)).take (2+i*1)++[qI ((jW (qO y t i) k|||2^k:Nat):Int)]++(g9 w b (fR y t i k)).drop (2+i*1+ [Value.int .i64 ((jW (qO y t i) k|||2^k:Nat):Int)].length)=g9 w b (fR y t i (k+1)):=by
 have h2:jW (qO y t i) (k+1)=jW (qO y t i) k|||2^k:=by rw[jW,aYJ h]
 have e:i=0∨i=1∨i=2∨i=3∨i=4∨i=5∨i=6:=by omega
 rw[←h2];rcases e with rfl|rfl|rfl|rfl|rfl|rfl|rfl<;>rfl
theorem aEL(yv tv:Value)(y:bQ)(t:List Pt)(D:aC)(hy:lM D yv y)(ht:Sl D RP 3 tv t)(hlen:t.length=y.chairs.length)(h7:t.length≤7)(hb:∀p∈t,EY p)(hf:0≤y.fit∧y.fit≤9)(hs:∀c∈y.chairs,0≤c.size∧c.size≤9):Fn prog 162 #[yv,tv] D (fun _ v=>v=QM (eM y t)):=by
 have O:=hy;obtain⟨cv,qv,rfl,hc,hq⟩:=hy;have hl:=ht.len;refine enter 61 func162 rfl rfl rfl rfl fun h0=>aA<|Zv rfl (fun q1 E1 hN R=>Zw rfl tO rfl (fun q2=>bW<|Za rfl<|Zab rfl U315 rfl ht rfl<|Za rfl<|aG<|Zar<|dB (γ:=Nat) (fun i=>t.length-i) (fun i=>i≤t.length) (fun i=>[(11,qI (i:Int))]) [(10,_),(9,_),(4,_),(2,_),(1,_)] (fun i=>[(q2,qC (g9 (whole (t.take i)) (jW (mT t) i) (fR y t i 0)) 319)]) (fun i=>[E1,D]) 0 Yd ⟨Yb,bCV⟩ bA Mm5 (aE) ?_))
 rintro i h1;refine aA<|Zai rfl<|bR<|Zz rfl (fun T=>?_) (fun T=>?_)
 ·have hi:i<t.length:=by omega
  obtain⟨z,hz⟩:=dX t i;obtain⟨x1,G⟩:=dX y.chairs i;have hwl:whole (t.take i)≤(t.take i).length:=bAS _ _;have hwt:(t.take i).length≤i:=bCF _ _;have hbl:=IH (mT t) i;have hO:2^i≤2^7:=bBI Yd Yd;refine aZ<|aO<|Zar<|aA<|Za rfl<|Zx rfl U315 mJ rfl ht rfl hz (fun b1 o1 U V hK Y=>?_);obtain rfl:U=[qI _,qI _,qI _]:=V;refine dL rfl nD rfl Y Yc Yac n3 rfl bCV<|Zw rfl M6 rfl (fun q3=>Zj rfl<|Zu rfl mJ (bO.head)<|bW<|bT rfl nD rfl Mm0 Yac n3 rfl bCV<|Zc rfl (fun D1 hR=>vJ z _)<|aG<|aW rfl (fun hc2=>?_) (fun hc2=>?_))
  ·refine aA<|Zh rfl A6 rfl<|Zp rfl aI rfl Mm1 rfl<|Zaa rfl<|Zh rfl A6 rfl<|bJ (ws:=g9 (whole (t.take (i+1))) (jW (mT t) (i+1)) (fR y t (i+1) 0)) rfl rfl rfl rfl aL (.tail bO.head) (by simp[g9]) (aHH hz hc2) Yj bCV<|aG<|aT<|Zaq<|Zau<|Zap<|aX ?_;refine Zaa rfl<|Za rfl<|Zae ?_;exact aM 15 (i+1) Yd Yd ⟨Yb,bCV⟩ rfl rfl (List.Sublist.cons _ Mm5) (aE)
  ·refine aZ<|aO<|bM [] 2 7 12<|Zh rfl S1 rfl<|Zp rfl aI rfl Mm1 rfl<|Za rfl<|w9 rfl rfl rfl Yd rfl bCV<|SP rfl rfl rfl Yd Yd rfl bCV<|Zh rfl S1 rfl<|bJ (ws:=g9 (whole (t.take (i+1))) (jW (mT t) (i+1)) (fR y t i 0)) rfl rfl rfl rfl aL (.tail bO.head) (by simp[g9]) (aOG hz hc2) Yj bCV<|aK<|Za rfl ?_;refine Zab rfl U315 rfl ht rfl<|Za rfl<|aG<|Zar<|dB (γ:=Nat) (fun k=>t.length-k) (fun k=>k≤t.length) (fun k=>[(30,qI (k:Int))]) [(29,_),(28,_),(27,_),(26,_),(25,_),(24,_),(23,_),(22,_),(17,_),(16,_),(5,_),(6,_),(15,_),(14,_),(13,_),(12,_),(11,_),(10,_),(9,_),(4,_),(2,_),(1,_)] (fun k=>[(q3,qC [qI z.a,qI z.b,qI z.c] 101),(q2,qC (g9 (whole (t.take (i+1))) (jW (mT t) (i+1)) (fR y t i k)) 319)]) (fun k=>[E1,D]) 0 Yd ⟨Yb,bCV⟩ bA Mm5 (aE) ?_;rintro k h2;refine aA<|Zai rfl<|bR<|Zz rfl (fun Z=>?_) (fun Z=>?_)
   ·have hk:k<t.length:=by omega
    obtain⟨q,hq⟩:=dX t k;obtain⟨x2,I⟩:=dX y.chairs k;have hbk:=IH (qO y t i) k;have hS:2^k≤2^7:=bBI Yd Yd;refine aZ<|aO<|Zar<|aA<|Za rfl<|Zx rfl U315 mJ rfl ht rfl hq (fun b2 o2 hB hE hM hF=>?_);obtain rfl:hB=[qI _,qI _,qI _]:=hE;refine dL rfl nD rfl hF Yc Yac n3 rfl bCV<|Zw rfl M6 rfl (fun q4=>Zj rfl<|Zu rfl mJ (bO.head)<|aK<|Za rfl<|Za rfl<|Zam rfl<|Za rfl ?_);refine' dM 5 (s:=38) (p:=43) rfl (fun hH=>?_) (fun hH=>?_) ?_;rotate_left
    ·refine dL rfl jP rfl R Yc iD n3 rfl ⟨_,rfl,rfl⟩<|Zb rfl<|Zb rfl<|Zd rfl (fun D2 hI=>b6 _ y i k x1 x2 _ (O.up (hI _ Ye)) hf G I (hs _ (LT G)) (hs _ (LT I)))<|Zag rfl ?_;exact aR 4
    ·refine Zk rfl<|Zk rfl<|Zk rfl<|Zk rfl<|Zah rfl ?_;exact aR 4
    refine Za rfl ?_;refine' dM 4 (s:=44) (p:=48) rfl (fun hJ=>?_) (fun hJ=>?_) ?_;rotate_left
    ·refine bT rfl nD rfl Mm1 Yac n3 rfl ⟨_,rfl,rfl⟩<|bT rfl nD rfl Mm0 Yac n3 rfl ⟨_,rfl,rfl⟩<|Zd rfl (fun D3 hX=>aJJ z q _ (hb _ (LT hz)) (hb _ (LT hq)))<|Zag rfl ?_;exact aR 3
    ·refine Zk rfl<|Zk rfl<|Zk rfl<|Zah rfl ?_;exact aR 3
    refine aG<|aW rfl (fun M=>?_) (fun M=>?_)
    ·have hfit:qO y t i k=true:=by rw[aER hz hq G I];exact M
     refine bM [] 3 10 178<|Za rfl<|Zh rfl zT rfl<|eZ rfl U317 aL rfl rfl Yd Yd rfl bCV<|cF rfl aI rfl Mm2 (aSP _ _ (aOU Yd)) n3 rfl bCV<|Za rfl<|w9 rfl rfl rfl Yd rfl bCV<|SP rfl rfl rfl Yd Yd rfl bCV<|Zh rfl zT rfl<|eZ rfl U317 aL rfl rfl Yd Yd rfl bCV<|bJ (ws:=g9 (whole (t.take (i+1))) (jW (mT t) (i+1)) (fR y t i (k+1))) rfl rfl rfl rfl aL (.tail (.tail bO.head)) (by simp[g9,fR];omega) (aUO Yd hfit) Yj bCV<|Zae ?_;refine Zat<|Zap<|aX<|Zaa rfl<|Za rfl<|Zae ?_;exact aM 25 (k+1) Yd Yd ⟨Yb,bCV⟩ rfl rfl (List.Sublist.cons _ Mm5) (aE)
    ·have hfit:qO y t i k=false:=by rw[aER hz hq G I];exact M
     refine cB<|Zat<|Zap<|aX<|Zaa rfl<|Za rfl<|Zae ?_;rw[aSI hfit];exact aM 16 (k+1) Yd Yd ⟨Yb,bCV⟩ rfl rfl (List.Sublist.cons _ Mm5) (aE)
   ·obtain rfl:k=t.length:=by omega
    rw[SB];refine aT<|Zaq<|Zaq<|Zau<|Zat<|Zap<|aX<|Zaa rfl<|Za rfl<|Zae ?_;exact aM 21 (i+1) Yd Yd ⟨Yb,bCV⟩ rfl rfl (List.Sublist.cons _ Mm5) (aE)
 ·obtain rfl:i=t.length:=by omega
  refine aT<|Zaq<|Zaq<|Zau<|Zap<|aA<|Zy rfl qY rfl Mm0 gO<|aV rfl rfl rfl rfl gO Ya Ya (bO.head) (aDM _ _ _) bCV<|aH ?_;exact Zl [_] rfl ⟨⟨_,_,_,rfl,Mm0,Or.inr ⟨qY,(by first|exact gO|(simp only[aYU,aN, *];exact gO)),rfl⟩⟩,bCV⟩ (fun D hD=>by rw[YP,aZB];rfl)
end L7
end Go.Fs
namespace Go.Fs.C7
theorem n6{m a:Nat}(h:m.testBit a=true):sK m (2^a)<m:=by
 have h1:=H8 m (2^a);have h2:sK m (2^a)≠m:=fun e=>by
  have:=Z4 m (2^a) a;rw[e,h,Nat.testBit_two_pow_self]at this;cases this
 omega
theorem aUF(m a i:Nat):(sK m (2^a)).testBit i=(m.testBit i&& !decide (a=i)):=by
 rw[Z4,Nat.testBit_two_pow]
def low(m:Nat):Nat:=((List.range m).find? fun i=>m.testBit i).getD 0
theorem yI{m:Nat}(h:m≠0):m.testBit (low m)=true∧∀i,i<low m→m.testBit i=false:=by
 obtain⟨i,hi⟩:=Nat.exists_testBit_of_ne_zero h;have him:i<m:=bAC Nat.lt_two_pow_self (Nat.ge_two_pow_of_testBit hi);unfold low;cases hf:(List.range m).find? fun i=>m.testBit i with
 |none=>
  have:=List.find?_eq_none.1 hf i (bAR.2 him);exact absurd hi this
 |some j=>
  have h1:=List.find?_some hf;refine⟨h1,fun k hk=>?_⟩;simp only[bAZ]at hk;obtain⟨_,G,I,hab,hno⟩:=List.find?_eq_some_iff_append.1 hf;have hjm:j<m:=bAR.1 (List.mem_of_find?_eq_some hf);have hlen:G.length=j:=by
   have h2:(List.range m)[G.length]?= some j:=by rw[hab,bCQ (aYI _)];simp
   have hl:G.length<m:=by
    have:=aXV List.length hab;simp at this;omega
   rw[bCG hl]at h2;exact aYS h2
  have hkm:(List.range m)[k]?= some k:=bCG Yd;rw[hab,bAK Yd]at hkm;have:=hno k (LT hkm);simpa using this
def fB(F:List Nat)(a b:Nat):Bool:=(F.getD a 0).testBit b
def qT(F:List Nat)(rest a:Nat)(nu:Nat→Nat)(m b:Nat):Nat:=if(rest&&&F.getD a 0).testBit b=true then max m (1+nu (sK rest (2^b)))else m
def aJZ(F:List Nat)(n:Nat):Nat→Nat→Nat
 |0,_=>0
 |k+1,m=>if m=0 then 0 else(List.range n).foldl (qT F (sK m (2^low m)) (low m) (aJZ F n k)) (aJZ F n k (sK m (2^low m)))
def FB(F:List Nat)(n m:Nat):Nat:=aJZ F n m m
theorem yQ{α β:Type}{f g:β→α→β}:∀{l:List α} {b:β},(∀b,∀a∈l,f b a=g b a)→l.foldl f b=l.foldl g b
 | [],_,_=>rfl
 |x::l,b,h=>by
  rw[aZY,aZY,h b x aXW];exact yQ fun b a ha=>h b a (LE _ ha)
theorem O4{F:List Nat}{n:Nat}:∀(k m l:Nat),m≤k→m≤l→aJZ F n k m=aJZ F n l m
 |0,m,l,h,_=>by
  obtain rfl:m=0:=by omega
  cases l<;>simp[aJZ]
 |k+1,m,0,_,h=>by
  obtain rfl:m=0:=by omega
  simp[aJZ]
 |k+1,m,l+1,h,h'=>by
  simp only[aJZ];by_cases hm:m=0
  ·rw[aYJ hm,aYJ hm]
  ·rw[aYC hm,aYC hm];have hlt:=n6 (yI hm).1;have e0:=O4 (F:=F) (n:=n) k (sK m (2^low m)) l Yd Yd;rw[e0];refine yQ fun b a _=>?_
   unfold qT;split
   ·have:=H8 (sK m (2^low m)) (2^a);rw[O4 k (sK (sK m (2^low m)) (2^a)) l Yd Yd]
   ·rfl
theorem ML{F:List Nat}{n:Nat}:FB F n 0=0:=rfl
theorem PX{F:List Nat}{n m:Nat}(h:m≠0):FB F n m=(List.range n).foldl (qT F (sK m (2^low m)) (low m) (FB F n)) (FB F n (sK m (2^low m))):=by
 have hlt:=n6 (yI h).1;obtain⟨k,rfl⟩:∃k,m=k+1:=⟨m-1,by omega⟩
 show aJZ F n (k+1) (k+1)=_;rw[aJZ,aYC h];rw[O4 k (sK (k+1) (2^low (k+1))) (sK (k+1) (2^low (k+1))) Yd (aYI _)];refine yQ fun b a _=>?_
 unfold qT;split
 ·have:=H8 (sK (k+1) (2^low (k+1))) (2^a);rw[O4 k (sK (sK (k+1) (2^low (k+1))) (2^a)) _ Yd (aYI _)];rfl
 ·rfl
theorem VU{F:List Nat}{rest a:Nat}{nu:Nat→Nat}:∀(l:List Nat) (m:Nat),l.foldl (qT F rest a nu) m=m∨∃b∈l,(rest&&&F.getD a 0).testBit b=true∧l.foldl (qT F rest a nu) m=1+nu (sK rest (2^b))
 | [],m=>aYF rfl
 |x::l,m=>by
  rw[aZY];rcases VU l (qT F rest a nu m x)with h|⟨b,hb,hbit,h⟩
  ·rw[h];unfold qT;split
   ·rename_i hx;by_cases hm:m≤1+nu (sK rest (2^x))
    ·exact aXR ⟨x,aXW,hx,by omega⟩
    ·exact aYF Yd
   ·exact aYF rfl
  ·exact aXR ⟨b,LE _ hb,hbit,h⟩
theorem SM{m b:Nat}(h:m≠0):sK (sK m (2^low m)) (2^b)<m:=Nat.lt_of_le_of_lt (H8 _ _) (n6 (yI h).1)

def F0:List Int→List Pt
 |a::b::c::l=>⟨a,b,c⟩::F0 l
 |_=>[]
def jQ(l:List Ch):List Int:=l.flatMap fun c=>c.parts.l
def mX(l:List Pt):List Int:=l.flatMap Pt.l
theorem rY(p:Pt)(l:List Pt):mX (p::l)=p.a::p.b::p.c::mX l:=rfl
theorem aHX(l:List Pt):F0 (mX l)=l:=by
 induction l with
 |nil=>rfl
 |cons p l ih=>rw[rY,F0,ih]
theorem oM(l:List Ch):(jQ l).length=3*l.length:=by
 induction l with
 |nil=>rfl
 |cons c l ih=>unfold jQ at ih ⊢;rw[aZD,GT,ih,aXY];simp[Pt.l];omega
theorem HK(l:List Pt):(mX l).length=3*l.length:=by
 induction l with
 |nil=>rfl
 |cons c l ih=>rw[rY];simp only[aXY,ih];omega
theorem GR:∀(n:Nat) (l:List Int),l.length=3*n→mX (F0 l)=l∧(F0 l).length=n
 |0,l,h=>by
  obtain rfl:l=[]:=bAP.1 Yd;exact⟨rfl,rfl⟩
 |n+1,l,h=>by
  match l,h with
  |a::b::c::l,h=>
   obtain⟨h1,h2⟩:=GR n l (by simp only[aXY]at h;omega);rw[F0,rY];exact⟨by rw[h1],by rw[aXY,h2]⟩
def HB(y:bQ):List (List Pt):=(C1.dQ (jQ y.chairs)).map F0
theorem t7:∀{l t:List Int},t∈C1.dQ l ↔ t.length=l.length∧∀x∈l.zip t,U8 x.1 x.2=true∧True
 | [],t=>by simp[C1.dQ]
 |p::l,t=>by
  have ih:=fun t=> @t7 l t
  cases t with
  |nil=>simp[C1.dQ]
  |cons x t=>
   have:x::t∈C1.dQ (p::l) ↔ ((p=2∨p=x)∧(x=0∨x=1))∧t∈C1.dQ l:=by
    rw[show C1.dQ (p::l)=(if p=2∨p=0 then(C1.dQ l).map (0:: ·)else [])++(if p=2∨p=1 then(C1.dQ l).map (1:: ·)else [])from rfl,aYD];constructor
    ·rintro(h|h)
     ·split at h
      ·rename_i hp;obtain⟨s,hs,he⟩:=n4.1 h;obtain⟨rfl,rfl⟩:=List.cons.inj he;exact⟨⟨hp,aYF rfl⟩,hs⟩
      ·cases h
     ·split at h
      ·rename_i hp;obtain⟨s,hs,he⟩:=n4.1 h;obtain⟨rfl,rfl⟩:=List.cons.inj he;exact⟨⟨hp,aXR rfl⟩,hs⟩
      ·cases h
    ·rintro⟨⟨hp,rfl|rfl⟩,ht⟩
     ·exact aYF (by rw[aYJ hp];exact n4.2 ⟨t,ht,rfl⟩)
     ·exact aXR (by rw[aYJ hp];exact n4.2 ⟨t,ht,rfl⟩)
   rw[this,ih];simp only[aXY,bCJ,GE,and_true,forall_eq_or_imp,Nat.add_right_cancel_iff];have:U8 p x=true ↔ (p=2∨p=x)∧(x=0∨x=1):=by
    unfold U8;simp only[aYB,dA,aZT,aYM];constructor
    ·rintro⟨h1,h2⟩;exact⟨h2.imp id Eq.symm,by omega⟩
    ·rintro⟨h1,h2⟩;exact⟨by omega,h1.imp id Eq.symm⟩
   rw[this];constructor
   ·rintro⟨h1,h2,h3⟩;exact⟨h2,h1,h3⟩
   ·rintro⟨h2,h1,h3⟩;exact⟨h1,h2,h3⟩
theorem AT:∀{l:List Ch} {t:List Pt},t.length=l.length→(∀x∈(jQ l).zip (mX t),U8 x.1 x.2=true)=((l.zip t).all fun x=>SV x.1.parts x.2)
 | [],[],_=>by simp[jQ,mX]
 |c::l,p::t,h=>by
  have ih:=AT (l:=l) (t:=t) Yar;rw[bCJ,List.all_cons,aYB,←ih];rw[rY,show jQ (c::l)=c.parts.a::c.parts.b::c.parts.c::jQ l from rfl];simp only[bCJ,GE,forall_eq_or_imp,SV,Pt.l,List.zip_nil_left,List.all_cons,List.all_nil,Bool.and_true,aYB,and_assoc]
theorem JX{y:bQ}{t:List Pt}:t∈HB y ↔ rF y t=true:=by
 unfold HB rF;rw[n4,aYB,aYM];constructor
 ·rintro⟨s,hs,rfl⟩;obtain⟨h1,h2⟩:=t7.1 hs;rw[oM]at h1;obtain⟨g1,g2⟩:=GR _ _ h1;refine⟨g2,?_⟩;rw[←AT g2,g1];exact fun x hx=>(h2 x hx).1
 ·rintro⟨h1,h2⟩;refine⟨mX t,t7.2 ⟨by rw[oM,HK,h1],fun x hx=>⟨?_,bCV⟩⟩,aHX t⟩;rw[←AT h1]at h2;exact h2 x hx
end Go.Fs.C7
namespace Go.Fs
open Go.Proofs Tryz
namespace L7
open C7
def BV(n:Nat)(M:List (uJ 8×Int)):Prop:=∀p∈M,∃(m:Nat) (F:List Nat),p.1.l=(m:Int)::F.map (fun x:Nat=>(x:Int))∧p.2=(FB F n m:Int)
theorem V0:∀{F G:List Nat},F.map (fun x:Nat=>(x:Int))=G.map (fun x:Nat=>(x:Int))→F=G
 | [],[],_=>rfl
 |x::F,y::G,h=>by
  rw[aYN,aYN,aZS]at h;rw[V0 h.2,show x=y by omega]
theorem aMD{n m:Nat}{a0 G a2 a3 a4 a5 I:Nat}{M:List (uJ 8×Int)}{v:Int}{h:[(m:Int),a0,G,a2,a3,a4,a5,I].length=8}(hok:BV n M)(hm:(⟨[(m:Int),a0,G,a2,a3,a4,a5,I],h⟩,v)∈M):v=(FB [a0,G,a2,a3,a4,a5,I] n m:Int):=by
 obtain⟨m',F,h1,h2⟩:=hok _ hm;simp only[aZS]at h1;obtain⟨h0,h1⟩:=h1;have:F=[a0,G,a2,a3,a4,a5,I]:=V0 (by rw[←h1];rfl)
 rw[this,show m'=m by omega]at h2;exact h2
theorem aLH{n m:Nat}{a0 G a2 a3 a4 a5 I:Nat}{M M':List (uJ 8×Int)}{v:Int}{h:[(m:Int),a0,G,a2,a3,a4,a5,I].length=8}(hok:BV n M)(hm:∀p∈M',p∈M∨p=(⟨[(m:Int),a0,G,a2,a3,a4,a5,I],h⟩,v))(hv:v=(FB [a0,G,a2,a3,a4,a5,I] n m:Int)):BV n M':=fun p hp=>by
 rcases hm p hp with h1|rfl
 ·exact hok p h1
 ·exact⟨m,[a0,G,a2,a3,a4,a5,I],rfl,hv⟩
theorem BV.nil{n:Nat}:BV n []:=fun p hp=>by cases hp
theorem FN{m n:Nat}(h:∀x,m.testBit x=true→x<n)(hn:n≤7):m<128:=by
 have:m<2^n:=by
  apply Nat.lt_pow_two_of_testBit;intro i hi;cases e:m.testBit i with
  |false=>rfl
  |true=>have:=h i e;omega
 have h2:2^n≤2^7:=bBI Yd hn;omega
theorem j8{m n a:Nat}(h:∀x,m.testBit x=true→x<n):∀x,(sK m (2^a)).testBit x=true→x<n:=fun x hx=>h x (by rw[aUF]at hx;simp at hx;exact hx.1)
theorem HL{k:Nat}(h:k<7):2^k<128:=by
 have:2^k<2^7:=Nat.pow_lt_pow_right Yd h;omega
theorem aTC{F:List Nat}(h:∀f∈F,f<128)(a:Nat):F.getD a 0<128:=by
 rw[aZQ];cases e:F[a]? with
 |none=>simp
 |some x=>exact h x (LT e)
theorem aGS(a0 G a2 a3 a4 a5 I:Nat){a:Nat}(h:a<7):([qI (a0:Int),qI (G:Int),qI (a2:Int),qI (a3:Int),qI (a4:Int),qI (a5:Int),qI (I:Int)]:List Value)[a*1]?= some (qI (([a0,G,a2,a3,a4,a5,I].getD a 0:Nat):Int)):=by
 have e:a=0∨a=1∨a=2∨a=3∨a=4∨a=5∨a=6:=by omega
 rcases e with rfl|rfl|rfl|rfl|rfl|rfl|rfl<;>rfl
theorem PH(F:List Nat)(n:Nat):∀m,FB F n m≤m:=by
 intro m;induction m using Nat.strongRecOn with
 |_ m ih=>
  by_cases hm:m=0
  ·subst hm;rw[ML];exact aYI _
  ·have hlt:=n6 (yI hm).1;rcases VU (F:=F) (rest:=sK m (2^low m)) (a:=low m) (nu:=FB F n) (List.range n) (FB F n (sK m (2^low m)))with h|⟨b,_,_,h⟩
   ·rw[PX hm,h];have:=ih _ hlt;omega
   ·rw[PX hm,h];have h2:=SM (b:=b) hm;have:=ih _ h2;omega
def aBQ(F:List Nat)(n m k:Nat):Nat:=(List.range k).foldl (qT F (sK m (2^low m)) (low m) (FB F n)) (FB F n (sK m (2^low m)))
theorem aHG{F:List Nat}{n m:Nat}(h:m≠0):FB F n m=aBQ F n m n:=PX h
theorem aNO{F:List Nat}{n m k:Nat}(h:(sK m (2^low m)&&&F.getD (low m) 0).testBit k=true):aBQ F n m (k+1)=max (aBQ F n m k) (1+FB F n (sK (sK m (2^low m)) (2^k))):=by
 have e:aBQ F n m (k+1)=qT F (sK m (2^low m)) (low m) (FB F n) (aBQ F n m k) k:=by unfold aBQ;rw[aZR,aZM,aZY,List.foldl_nil]
 rw[e];unfold qT;rw[aYJ h]
theorem aRM{F:List Nat}{n m k:Nat}(h:(sK m (2^low m)&&&F.getD (low m) 0).testBit k=false):aBQ F n m (k+1)=aBQ F n m k:=by
 have e:aBQ F n m (k+1)=qT F (sK m (2^low m)) (low m) (FB F n) (aBQ F n m k) k:=by unfold aBQ;rw[aZR,aZM,aZY,List.foldl_nil]
 rw[e];unfold qT;rw[aYC (by rw[h];simp)]
theorem EN{wb mb t cl:Nat}{cs:List Value}{es:Array MapEntry}:∀p∈[(wb,Obj.cells cs.toArray t (0,0)),(mb,.map es cl)],dD p.2:=by
 intro p hp;simp only[GE,n3,bAO]at hp;rcases hp with rfl|rfl
 ·rfl
 ·trivial
theorem aCV:KA prog 367 7:=⟨(prog.fieldsOf 367)[0]!,(prog.fieldsOf 367)[1]!,3,by kernel_rfl,by kernel_rfl,by kernel_rfl,by decide+kernel,by decide+kernel,by kernel_rfl,by kernel_rfl,by kernel_rfl,by kernel_rfl,by kernel_rfl,by kernel_rfl,by rw[show((prog.fieldsOf 367)[1]!).type=317 by kernel_rfl];exact Q2,by rw[show((prog.fieldsOf 367)[1]!).type=317 by kernel_rfl];exact xB,aL⟩
theorem aDK(wb mb:Nat)(cv qv:Value)(fit:Int)(chs:List Ch)(a0 I a2 a3 a4 a5 O:Nat)(hJ:chs.length≤7)(hF:∀f∈[a0,I,a2,a3,a4,a5,O],f<128):
  ∀(L m:Nat),m=L→(∀x,m.testBit x=true→x<chs.length)→∀(es:Array MapEntry) (clock:Nat) (M:List (uJ 8×Int)) (D:aC),Sl D wB 4 cv chs→vC X8 es M→BV chs.length M→
  BA prog 245 [qP wb,.agg #[qI (m:Int),qI (a0:Int),qI (I:Int),qI (a2:Int),qI (a3:Int),qI (a4:Int),qI (a5:Int),qI (O:Int)]] D [(wb,qC [cv,qI fit,qv,.map (some mb)] 311),(mb,.map es clock)] (fun _ v ν'=>v=qI (FB [a0,I,a2,a3,a4,a5,O] chs.length m:Int)∧∃es' clock' M',ν'=[(wb,qC [cv,qI fit,qv,.map (some mb)] 311),(mb,.map es' clock')]∧vC X8 es' M'∧BV chs.length M'):=by
 intro L;induction L using Nat.strongRecOn with
 |_ L ih=>
 intro m hL hbits es clock M D hS hM hok;subst hL;have hl1:=hS.len;have hmb:=FN hbits hJ;refine iR 78 func245 rfl rfl rfl rfl (fun h0 hwl hwn=>aA<|Zv rfl (fun q1 E1 hE1 G=>Zj rfl<|bW<|Zh rfl S4 rfl<|Zf 0 rfl aI rfl G rfl<|Zan rfl<|aG<|Zz rfl (fun hK=>?_) (fun hK=>?_)))
 ·refine aA<|Zj rfl<|aH<|Zas ?_;exact Zac [] [] [_,_] [_] rfl ⟨rfl,bCV⟩ rfl (fun D hD=>⟨by show Value.int _ _=_;rw[show m=0 by omega,ML];rfl,es,clock,M,rfl,hM,hok⟩)
 ·have V:m≠0:=by omega
  have hlow:=yI V;have hlown:=hbits _ hlow.1;have T:low m<7:=by omega
  have hp2:=HL T;have hlt:=n6 hlow.1;have hrest:=H8 m (2^low m);refine aZ<|aO<|aO<|bM [] 6 11 784<|Za rfl<|Zaj rfl<|Zh rfl EG rfl<|Zp rfl TE rfl Mm0 rfl<|Zs rfl VC rfl G SL<|WX (val:=X8 (n:=8)) (a:=⟨[(m:Int),(a0:Int),(I:Int),(a2:Int),(a3:Int),(a4:Int),(a5:Int),(O:Int)],rfl⟩) rfl U309 aCV.key dR rfl rfl Mm1 n3 hM rfl bCV (fun nv ok hmem=>Za rfl<|Zad rfl ?_);refine Zad rfl<|Zj rfl<|Zj rfl<|aK<|Za rfl<|aG<|aW rfl (fun hc2=>?_) (fun hc2=>?_)
  ·subst hc2;refine aA<|Za rfl<|Zj rfl<|aH<|Zas ?_;exact Zac [] [] [_,_] [_] rfl ⟨rfl,bCV⟩ rfl (fun D hD=>⟨by show Value.int _ _=_;rw[aMD hok (hmem rfl)],es,clock,M,rfl,hM,hok⟩)
  ·refine aZ<|aA<|Zh rfl S4 rfl<|Zf 0 rfl aI rfl G rfl<|Zc rfl (fun D1 hD1=>aBK m (low m) _ hlow.1 Yd hlow.2)<|Zj rfl<|bR<|bM [] 2 6 12<|Zh rfl S4 rfl<|Zf 0 rfl aI rfl G rfl<|Za rfl<|w9 rfl rfl rfl Yd rfl bCV ?_;refine aED rfl rfl rfl Yd Yd rfl bCV<|Zj rfl<|aK<|Za rfl<|Za rfl<|Zh rfl T6 rfl<|dC rfl (k:=1) (us:=[qI (a0:Int),qI (I:Int),qI (a2:Int),qI (a3:Int),qI (a4:Int),qI (a5:Int),qI (O:Int)]) Q2 xB rfl G Yc rfl rfl n3 rfl bCV<|jB (cs:=[qI ((sK m (2^low m):Nat):Int),qI (a0:Int),qI (I:Int),qI (a2:Int),qI (a3:Int),qI (a4:Int),qI (a5:Int),qI (O:Int)]) rfl HU FT rfl Yf rfl bCV<|fJ (A:=[]) (ν:=[(_,_),(_,_)]) (B:=[]) rfl rfl rfl rfl (aYF rfl) (EN (cs:=[_,_,_,_])) (fun D5 hN=>ih _ hlt _ rfl (j8 hbits) es clock M D5 (hS.up wB.up (hN _ Ye)) hM hok) rfl bCV (fun v5 D6 _ hD6 hO=>?_);obtain⟨rfl,hR,hX,M4,rfl,hY,Z⟩:=hO;refine Zj rfl<|bW<|Za rfl<|Zaj rfl<|Zh rfl zP rfl<|Zh rfl eR rfl<|Zp rfl kC rfl Mm0 rfl<|Zab rfl U37 rfl hS rfl<|Za rfl<|aG<|Zar<|dB (γ:=Nat×Array MapEntry×Nat×List (uJ 8×Int)) (fun g=>chs.length-g.1) (fun g=>g.1≤chs.length∧vC X8 g.2.1 g.2.2.2∧BV chs.length g.2.2.2) (fun g=>[(45,qI (g.1:Int)),(9,qI (aBQ [a0,I,a2,a3,a4,a5,O] chs.length m g.1:Int))]) [(44,_),(8,_),(7,_),(4,_),(3,_),(0,_)] (fun g=>[(wb,qC [cv,qI fit,qv,.map (some mb)] 311),(mb,.map g.2.1 g.2.2.1)]) (fun g=>[D6,E1,D]) (0,hR,hX,M4) ⟨by simp,hY,Z⟩ ⟨Yb,Yb,bCV⟩ bA Mm5 (aE) ?_;rintro⟨k,hB,hE,M1⟩ ⟨h1,Y,R⟩;simp only at h1 Y R;refine aA<|Zai rfl<|bR<|Zz rfl (fun rA=>?_) (fun rA=>?_)
   ·have hk:k<chs.length:=by omega
    have hpk:=HL (show k<7 by omega);have hrow:=aTC hF (low m);have hdl:=H8 (sK m (2^low m)) (2^k);have hnl:=PH [a0,I,a2,a3,a4,a5,O] chs.length (sK (sK m (2^low m)) (2^k));have hand:=Nat.and_le_left (n:=sK m (2^low m)) (m:=[a0,I,a2,a3,a4,a5,O].getD (low m) 0);refine aZ<|aO<|Zar<|aA<|Za rfl<|Zj rfl<|aK<|Za rfl<|Za rfl<|Zh rfl T6 rfl<|eZ rfl U317 aL rfl rfl Yd Yd rfl bCV<|dT (o:=0+1) (k:=low m*1) rfl aI rfl G.tail Ye (aGS a0 I a2 a3 a4 a5 O T) n3 rfl bCV ?_;refine aSW rfl rfl rfl Yd Yd rfl bCV<|Za rfl<|u0 rfl rfl rfl Yd rfl bCV<|uU rfl rfl rfl (Int.natCast_nonneg _) Yd (by rw[nK];split<;>simp only[xO]<;>omega) rfl bCV<|Zan rfl<|aG<|Zz rfl (fun U=>?_) (fun U=>?_)
    ·have hbit:(sK m (2^low m)&&& [a0,I,a2,a3,a4,a5,O].getD (low m) 0).testBit k=true:=by rw[nK]at U;simpa using U
     refine lG G Ye (fun hH=>?_);have hH:q1∉[wb,mb]:=hH;refine lR [wb,mb] 6 [0,1,2,3,4,5,6,7,8,9,10,11,12] [false,true,true,true,true,true,true,true,true,true,true,false,false] [(false,0),(true,1),(true,2),(true,3),(true,4),(true,5),(true,6),(true,7),(true,8),(true,9),(true,10),(false,11),(false,12)] bI (fun _ _ _ h=>jF (P:=prog) (fn:=f245) _ _ _ h) Yf rfl<|Za rfl<|Za rfl<|Za rfl<|Za rfl<|w9 rfl rfl rfl Yd rfl bCV<|aED rfl rfl rfl Yd Yo rfl bCV<|Zh rfl T6 rfl<|dC rfl (k:=1) (us:=[qI (a0:Int),qI (I:Int),qI (a2:Int),qI (a3:Int),qI (a4:Int),qI (a5:Int),qI (O:Int)]) Q2 xB rfl G Yc rfl rfl Yn rfl bCV<|jB (cs:=[qI ((sK (sK m (2^low m)) (2^k):Nat):Int),qI (a0:Int),qI (I:Int),qI (a2:Int),qI (a3:Int),qI (a4:Int),qI (a5:Int),qI (O:Int)]) rfl HU FT rfl Yf rfl bCV<|fJ (A:=[]) (ν:=[(_,_),(_,_)]) (B:=[]) rfl rfl rfl rfl (aXR (fun p hp=>n4.2 ⟨p,hp,rfl⟩)) (EN (cs:=[_,_,_,_])) (fun D7 rB=>ih _ (SM V) _ rfl (j8 (j8 hbits)) hB hE M1 D7 (hS.up wB.up (rB _ Ye)) Y R) rfl bCV (fun v7 D8 _ hD8 hp7=>?_);obtain⟨rfl,es5,cl5,M5,rfl,hM5,hI⟩:=hp7;refine Zaa rfl<|tZ rfl rfl rfl rfl bCV<|Zj rfl<|Zae<|Zat<|Zap<|aX<|Zaa rfl<|Za rfl<|Zae ?_;exact aM 30 (k+1,es5,cl5,M5) ⟨by simp only;omega,hM5,hI⟩ Yo ⟨Yb,(by rw[aNO hbit];show some (Value.int _ _)=some (Value.int _ _);congr 2;simp only;omega),bCV⟩ rfl rfl Mm5 (fun D h=>⟨D,aYK _ (h),Le.refl D⟩)
    ·have hbit:(sK m (2^low m)&&& [a0,I,a2,a3,a4,a5,O].getD (low m) 0).testBit k=false:=by rw[nK]at U;simpa using U
     refine cB<|Zat<|Zap<|aX<|Zaa rfl<|Za rfl<|Zae ?_;exact aM 17 (k+1,hB,hE,M1) ⟨by simp only;omega,Y,R⟩ Yo ⟨Yb,(by rw[aRM hbit];rfl),bCV⟩ rfl rfl Mm5 (aE)
   ·obtain rfl:k=chs.length:=by omega
    refine aT<|Zaq<|Zaq<|Zau<|Zap<|aO<|bM [] 3 7 48<|Za rfl<|Zaj rfl<|Zh rfl EG rfl<|Zp rfl TE rfl Mm0 rfl<|Zs rfl VC rfl G SL ?_;refine Za rfl<|XI (val:=X8 (n:=8)) (A:=[(_,_)]) (B:=[]) (a:=⟨[(m:Int),(a0:Int),(I:Int),(a2:Int),(a3:Int),(a4:Int),(a5:Int),(O:Int)],rfl⟩) rfl U309 aCV.key rfl rfl rfl Y bCV (fun es3 cl3 M3 hM3 hm3=>aK<|Za rfl<|Zj rfl<|aH ?_);exact Zac [] [] [_,_] [_] rfl ⟨rfl,bCV⟩ rfl (fun D hD=>⟨by show Value.int _ _=_;rw[aHG V],es3,cl3,M3,rfl,hM3,aLH R hm3 (by rw[aHG V])⟩)
end L7
namespace L7
open C7
structure JI(n:Nat)(s:Sc):Prop where
 len:s.fits.length=7
 row:∀f∈s.fits,f<128
 bits:∀x,s.broken.testBit x=true→x<n
 whole:s.whole≤7
def tQ(n:Nat)(s:Sc):Nat:=s.whole+FB s.fits n s.broken
theorem aQY{α:Type}{l:List α}(h:l.length=7):∃a b c d e f g,l=[a,b,c,d,e,f,g]:=by
 match l,h with
 | [a,b,c,d,e,f,g],_=>exact⟨a,b,c,d,e,f,g,rfl⟩
theorem CJ{y:bQ}{t:List Pt}(hl:t.length=y.chairs.length)(G:t.length≤7):JI y.chairs.length (eM y t):=by
 refine⟨by simp[eM],fun f hf=>?_,fun x hx=>?_,?_⟩
 ·obtain⟨j,_,rfl⟩:=n4.1 hf;have h1:=IH (qO y t j) t.length;have h2:2^t.length≤2^7:=bBI Yd G;omega
 ·simp only[eM]at hx;rw[vS]at hx;simp at hx;omega
 ·have:whole t≤t.length:=bAS _ _;simp only[eM];omega
def QN(l:List (Int×Int)):List Value:=l.flatMap fun p=>[qI p.1,qI p.2]
theorem NG(l:List (Int×Int))(p:Int×Int):QN (l++[p])=QN l++[qI p.1,qI p.2]:=by simp[QN]
theorem H7(l:List (Int×Int)):(QN l).length=l.length*2:=by
 induction l with
 |nil=>rfl
 |cons c l ih=>unfold QN at ih ⊢;rw[aZD,GT,ih];simp only[aXY,aYW];omega
theorem aOV{l:List (Int×Int)}{i:Nat}{c:Int×Int}(hi:l[i]?= some c):((QN l).drop (i*2)).take 2=[qI c.1,qI c.2]:=by
  induction l generalizing i with
  |nil=>simp at hi
  |cons d l ih=>
    unfold QN at ih ⊢
    rw[aZD];cases i with
    | zero => obtain rfl : d = c := by simpa using hi
              rfl
    |succ i=>
      rw[bBO,aYV Yam,aYT];have:(i+1)*2- [Value.int .i64 d.1,Value.int .i64 d.2].length=i*2:=by simp;omega
      rw[this];exact ih Yap
theorem _root_.Go.Fs.mH.prs{D:aC}{v:Value}{n:Nat}{l:List (Int×Int)}(hF:mH D v n (QN l))(hn:l.length=n)(hb:n≤9223372036854775807):Sl D R2 2 v l:=
 hF.sl hn hb fun _i _t hi=>⟨_,rfl,rfl,aOV hi⟩
theorem aFI(wb mb:Nat)(cv qv:Value)(fit:Int)(chs:List Ch)(w b:Nat)(a0 I a2 a3 a4 a5 O:Nat)(R:chs.length≤7)(hF:∀f∈[a0,I,a2,a3,a4,a5,O],f<128)(hw:w≤7)(hbits:∀x,b.testBit x=true→x<chs.length)(es:Array MapEntry)(clock:Nat)(M:List (uJ 8×Int))(D:aC)(hS:Sl D wB 4 cv chs)(hM:vC X8 es M)(hok:BV chs.length M):
  BA prog 163 [qP wb,.agg #[qI (w:Int),qI ((b:Nat):Int),qI (a0:Int),qI (I:Int),qI (a2:Int),qI (a3:Int),qI (a4:Int),qI (a5:Int),qI (O:Int)]] D [(wb,qC [cv,qI fit,qv,.map (some mb)] 311),(mb,.map es clock)] (fun _ v ν'=>v=qI ((w+FB [a0,I,a2,a3,a4,a5,O] chs.length b:Nat):Int)∧∃es' clock' M',ν'=[(wb,qC [cv,qI fit,qv,.map (some mb)] 311),(mb,.map es' clock')]∧vC X8 es' M'∧BV chs.length M'):=by
 have hbl:=FN hbits R;have hnl:=PH [a0,I,a2,a3,a4,a5,O] chs.length b;refine iR 15 func163 rfl rfl rfl rfl (fun h0 hwl hwn=>aA<|Zv rfl (fun q1 E1 hH G=>Zj rfl<|bR<|lG G Ye (fun T=>?_)));have T:q1∉[wb,mb]:=T;refine lR [wb,mb] 4 [0,1,2,3,4,5,6,7,8,9,10] [false,false,true,true,true,true,true,true,true,false,false] [(false,0),(false,1),(true,2),(true,3),(true,4),(true,5),(true,6),(true,7),(true,8),(false,9),(false,10)] bI (fun _ _ _ h=>jF (P:=prog) (fn:=f163) _ _ _ h) Yf rfl<|Zh rfl A6 rfl<|dT rfl (k:=0) aI rfl G Yc rfl Yn rfl bCV<|Za rfl<|Zh rfl S1 rfl<|dT rfl (k:=1) aI rfl G Yc rfl Yn rfl bCV<|Zh rfl zT rfl<|dC rfl (k:=2) (us:=[qI (a0:Int),qI (I:Int),qI (a2:Int),qI (a3:Int),qI (a4:Int),qI (a5:Int),qI (O:Int)]) Q2 xB rfl G Yc rfl rfl Yn rfl bCV<|jB (cs:=[qI ((b:Nat):Int),qI (a0:Int),qI (I:Int),qI (a2:Int),qI (a3:Int),qI (a4:Int),qI (a5:Int),qI (O:Int)]) rfl HU FT rfl Yf rfl bCV<|fJ (A:=[]) (ν:=[(_,_),(_,_)]) (B:=[]) rfl rfl rfl rfl (by first|exact Or.inl rfl|exact Or.inr (fun p hp=>n4.2 ⟨p,hp,rfl⟩)) (EN (cs:=[_,_,_,_])) (fun D5 V=>aDK wb mb cv qv fit chs a0 I a2 a3 a4 a5 O R hF _ b rfl hbits es clock M D5 (hS.up wB.up (V _ Ye)) hM hok) rfl bCV (fun v5 D6 _ hI Y=>?_);obtain⟨rfl,Z,hB,M1,rfl,hE,U⟩:=Y;refine Zaa rfl<|Zj rfl<|aH ?_;exact Zac [] [] [_,_] [_] rfl ⟨rfl,bCV⟩ rfl (fun D hD=>⟨by show Value.int _ _=_;congr 1,Z,hB,M1,rfl,hE,U⟩)
theorem aKQ(wb mb:Nat)(cv qv:Value)(fit:Int)(chs:List Ch)(s:Sc)(G:chs.length≤7)(hs:JI chs.length s)(es:Array MapEntry)(clock:Nat)(M:List (uJ 8×Int))(D:aC)(hS:Sl D wB 4 cv chs)(hM:vC X8 es M)(hok:BV chs.length M):
  BA prog 163 [qP wb,QM s] D [(wb,qC [cv,qI fit,qv,.map (some mb)] 311),(mb,.map es clock)] (fun _ v ν'=>v=qI (tQ chs.length s:Int)∧∃es' clock' M',ν'=[(wb,qC [cv,qI fit,qv,.map (some mb)] 311),(mb,.map es' clock')]∧vC X8 es' M'∧BV chs.length M'):=by
 obtain⟨w,b,F⟩:=s;obtain⟨a0,I,a2,a3,a4,a5,O,rfl⟩:=aQY hs.len;exact aFI wb mb cv qv fit chs w b a0 I a2 a3 a4 a5 O G hs.row hs.whole hs.bits es clock M D hS hM hok
end L7
namespace L7
open C7
structure aXF(y:bQ):Prop where
 len:y.chairs.length≤7
 cls:y.claims.length≤5
 fit:0≤y.fit∧y.fit≤9
 size:∀c∈y.chairs,0≤c.size∧c.size≤9
 part:∀c∈y.chairs,∀n∈c.parts.l,0≤n∧n≤2
 claim:∀r∈y.claims,0≤r.1∧r.1≤r.2∧r.2≤7
 unk:lI y.chairs≤8
theorem aXQ{y:bQ}(h:bB y=0):aXF y:=by
 unfold bB at h;split at h
 ·omega
 ·rename_i h1;split at h
  ·omega
  ·rename_i h2;split at h
   ·omega
   ·rename_i h3;have h4:F9 y=true:=by simpa using h2
    simp only[F9,aYB,aYL,dA]at h4;obtain⟨⟨h5,G⟩,I⟩:=h4;refine⟨by omega,by omega,h5,fun c hc=>?_,fun c hc n hn=>?_,fun r hr=>?_,by omega⟩
    ·have:=G c hc;simp only[kO,aYB,dA]at this;exact this.1
    ·have:=G c hc;simp only[kO,aYB,SU,aYL]at this
     exact dA.1 (this.2 n hn)
    ·have:=I r hr;simp only[oS,aYB,aYM]at this;exact⟨this.1.1,this.1.2,this.2⟩
theorem aLV{y:bQ}{t:List Pt}(h:rF y t=true):t.length=y.chairs.length∧∀p∈t,EY p:=by
 unfold rF at h;simp only[aYB,aYM,aYL]at h;refine⟨h.1,fun p hp=>?_⟩;obtain⟨i,hi⟩:=bBD.1 hp;obtain⟨hlt,_⟩:=aXZ.1 hi;have hc:y.chairs[i]?= some (y.chairs[i]'Yd):=aXT _;have:=h.2 (y.chairs[i]'Yd,p) (LT (i:=i) (by rw[List.getElem?_zip_eq_some];exact⟨hc,hi⟩))
 simp only[SV,Pt.l,bCJ,List.zip_nil_left,List.all_cons,List.all_nil,Bool.and_true,aYB,U8,dA]at this;exact⟨this.1.1,this.2.1.1,this.2.2.1⟩
def wJ(cl:List (Int×Int))(out:List Int)(n:Int)(i:Nat):Bool:=(out.any fun x=>decide ((i:Int)=x))||(match cl[i]? with|some r=>iK n r.1 r.2|none=>true)
def qF(cl:List (Int×Int))(out:List Int)(n:Int):Bool:=(List.range cl.length).all (wJ cl out n)
theorem XY{cl:List (Int×Int)}{out:List Int}{n:Int}{i:Nat}{r:Int×Int}(hr:cl[i]?= some r)(h:((!out.any fun x=>decide ((i:Int)=x))&& !iK n r.1 r.2)=false):wJ cl out n i=true:=by
 unfold wJ;rw[hr];revert h
 cases out.any fun x=>decide ((i:Int)=x)<;>simp
theorem AF{cl:List (Int×Int)}{out:List Int}{n:Int}{i:Nat}{r:Int×Int}(hi:i<cl.length)(hr:cl[i]?= some r)(h:((!out.any fun x=>decide ((i:Int)=x))&& !iK n r.1 r.2)=true):qF cl out n=false:=by
 unfold qF;rw[List.all_eq_false];refine⟨i,bAR.2 hi,?_⟩;unfold wJ;rw[hr];revert h
 cases out.any fun x=>decide ((i:Int)=x)<;>simp
theorem S3{cl:List (Int×Int)}{out:List Int}{n:Int}(h:∀j,j<cl.length→wJ cl out n j=true):qF cl out n=true:=by
 unfold qF;rw[aYL];exact fun j hj=>h j (bAR.1 hj)
def s4(y:bQ)(t:List Pt):Nat:=tQ y.chairs.length (eM y t)
theorem c8(yv:Value)(y:bQ)(cv qv:Value)(D:aC)(hy:yv=.agg #[cv,qI y.fit,qv]):MZ prog 97 #[yv] D (fun _ v ν=>∃wb mb,v=qP wb∧ν=[(wb,qC [cv,qI y.fit,qv,.map (some mb)] 311),(mb,.map #[] 0)]):=by
 subst hy;refine qG 7 func97 rfl rfl rfl rfl fun h0=>aA<|Zv rfl (fun M O I G=>Zj rfl<|aK<|Zs rfl jP rfl G iD<|vE rfl rfl bCV (fun qm=>Zo [cv,qI y.fit,qv,.map (some qm)] rfl aKL aKA rfl<|EJ rfl (e:=311) rfl rfl rfl bCV (fun R=>Zj rfl<|aH ?_)))
 exact aF rfl (fun D hD=>⟨_,_,rfl,rfl⟩)
theorem aHB(sv:Value)(xs:List Int)(n:Int)(D:aC)(hS:Sl D RI 1 sv xs):Fn prog 230 #[sv,qI n] D (fun _ v=>v=qI (idxOf (fun x=>decide (n=x)) xs)):=by
 have hl:=hS.len;refine enter 19 func230 rfl rfl rfl rfl fun h0=>aA<|Zj rfl<|bW<|Za rfl<|dH rfl U25 rfl Ym rfl rfl bCV<|Za rfl<|aG<|Zar<|bP (γ:=Nat) (fun k=>xs.length-k) (fun k=>k≤xs.length∧(xs.take k).any (fun x=>decide (n=x))=false) (fun k=>[(8,qI k)]) [(7,_),(4,_),(0,_),(1,_)] (fun k=>[D]) 0 Ye ⟨Yb,bCV⟩ bA (aE) ?_
 rintro k ⟨h1,h2⟩;refine aA<|Zai rfl<|bR<|Zz rfl (fun G=>?_) (fun G=>?_)
 ·have hk:k<xs.length:=by omega
  obtain⟨x,hx⟩:=dX xs k;refine aZ<|aO<|Zar<|aA<|Za rfl<|Zj rfl<|aK<|Za rfl<|Za rfl<|Za rfl<|eY rfl U25 aL rfl Ym rfl Yd Ym rfl bCV (fun T o1 I M R O=>?_);obtain rfl:I=[qI _]:=M;refine Zf 0 rfl aI rfl O rfl<|Zan rfl<|aG<|Zz rfl (fun hc2=>?_) (fun hc2=>?_)
  ·refine aA<|Za rfl<|Zj rfl<|aH<|Zav<|Zas<|Zas<|Zav<|Zas ?_;exact aF rfl (fun D hD=>by show Value.int _ _=_;rw[jY hx h2 (by simp[hc2])])
  ·refine cB<|Zat<|Zap<|aX<|Zaa rfl<|Za rfl<|Zae ?_;have h3:(xs.take (k+1)).any (fun x=>decide (n=x))=false:=by rw[aYG,hx,bBA,h2];simp[hc2]
   exact aM 12 (k+1) ⟨by omega,h3⟩ Yd ⟨Yb,bCV⟩ rfl rfl Mm5 (aE)
 ·refine aT<|Zaq<|Zaq<|Zau<|Zap<|aA<|Zj rfl<|aH ?_;exact aF rfl (fun D hD=>by show Value.int _ _=_;rw[gK Yah])
theorem yD(sv:Value)(xs:List Int)(n:Int)(D:aC)(hS:Sl D RI 1 sv xs):Fn prog 151 #[sv,qI n] D (fun _ v=>v=.bool (xs.any fun x=>decide (n=x))):=by
 refine enter 9 func151 rfl rfl rfl rfl fun h0=>aA<|Zj rfl<|aK<|Za rfl<|Za rfl<|Zc rfl (fun I G=>aHB _ xs n _ (Sl.at RI.up G Ym Ye))<|rZ rfl rfl rfl rfl bCV<|Zj rfl<|aH ?_
 exact aF rfl (fun D hD=>by show Value.bool (decide _)=_;rw[kD])
theorem AU(yv:Value)(y:bQ)(n:Int)(ov:Value)(out:List Int)(D:aC)(hy:lM D yv y)(ho:Sl D RI 1 ov out):Fn prog 164 #[yv,qI n,ov] D (fun _ v=>v=.bool (qF y.claims out n)):=by
 obtain⟨cv,qv,rfl,hc,hq⟩:=hy;have hl:=hq.len;refine enter 28 func164 rfl rfl rfl rfl fun h0=>aA<|Zv rfl (fun q1 Z hB I=>Zj rfl<|bW<|Zh rfl iL rfl<|Zf 2 rfl oZ rfl I rfl<|Zab rfl U38 rfl hq rfl<|Za rfl<|aG<|Zar<|bP (γ:=Nat) (fun i=>y.claims.length-i) (fun i=>i≤y.claims.length∧∀j,j<i→wJ y.claims out n j=true) (fun i=>[(12,qI (i:Int))]) [(11,_),(10,_),(6,_),(1,_),(2,_)] (fun i=>[Z,D]) 0 Ye ⟨Yb,bCV⟩ bA (aE) ?_)
 rintro i ⟨h1,h2⟩;refine aA<|Zai rfl<|bR<|Zz rfl (fun M=>?_) (fun M=>?_)
 ·have hi:i<y.claims.length:=by omega
  obtain⟨r,G⟩:=dX y.claims i;refine aZ<|aO<|Zar<|aA<|Za rfl<|Zx rfl U38 cD rfl hq rfl G (fun b1 o1 O R Y T=>?_);obtain rfl:O=[qI _,qI _]:=R;refine Zs rfl kL rfl T cD<|Zw rfl jL rfl (fun q2=>Zj rfl<|Zu rfl cD (bO.head)<|aK<|Za rfl<|Za rfl<|Zc rfl (fun D1 U=>yD _ out (i:Int) _ (Sl.at RI.up U Ym Ye))<|Zak rfl<|Za rfl ?_);refine' dM 5 (s:=21) (p:=26) rfl (fun V=>?_) (fun V=>?_) ?_;rotate_left
  ·refine bT rfl kL rfl Mm0 cD n3 rfl ⟨_,rfl,rfl⟩<|Zb rfl<|Zd rfl (fun D2 hE=>o5 r n _)<|Zal rfl<|Zag rfl ?_;exact aR 4
  ·refine Zk rfl<|Zk rfl<|Zk rfl<|Zk rfl<|Zah rfl ?_;exact aR 4
  refine aG<|aW rfl (fun hc2=>?_) (fun hc2=>?_)
  ·refine aA<|Zj rfl<|aH<|Zav<|Zas<|Zas<|Zav<|Zas ?_;exact aF rfl (fun D hD=>by show Value.bool _=_;rw[AF hi G hc2])
  ·refine cB<|Zat<|Zap<|aX<|Zaa rfl<|Za rfl<|Zae ?_;exact aM 15 (i+1) ⟨by omega,fun j hj=>by rcases Nat.lt_succ_iff_lt_or_eq.1 hj with h|rfl;exact h2 j h;exact XY G hc2⟩ Yd ⟨Yb,bCV⟩ rfl rfl (List.Sublist.cons _ Mm5) (aE)
 ·obtain rfl:i=y.claims.length:=by omega
  refine aT<|Zaq<|Zaq<|Zau<|Zap<|aA<|Zj rfl<|aH ?_;exact aF rfl (fun D hD=>by show Value.bool _=_;rw[S3 h2])
end L7
namespace L2
open L1
open C2
open C1 (iK dA uC sP)
theorem II{c:List Int}{a b:Int}(G:c.length=10)(h0:0≤a)(h1:a≤b)(h9:b≤9):∃x xs,(c.drop a.toNat).take ((b+1).toNat-a.toNat)=x::xs∧xs.foldl max x=mG c a b:=by
 have hlen:((c.drop a.toNat).take ((b+1).toNat-a.toNat)).length=(b+1).toNat-a.toNat:=by simp;omega
 cases h:(c.drop a.toNat).take ((b+1).toNat-a.toNat)with
 |nil=>rw[h]at hlen;simp at hlen;omega
 |cons x xs=>
  refine⟨x,xs,rfl,?_⟩;unfold mG;rw[show(b+1-a).toNat=(b+1).toNat-a.toNat by omega,h];rfl
def o7(s:List Int)(m:Mk):Bool:=iK (mG s m.frm m.to) m.lo m.hi
theorem OK{last:Int}{m:Mk}(h:uT last m=true):0≤m.frm∧m.frm≤m.to∧m.to≤last∧0≤m.lo∧m.lo≤m.hi∧m.hi≤99:=by
 unfold uT sG DZ jE fT at h;simp only[aYB,aYM,dA]at h;omega
theorem QK{t:bD}{c:List Int}{k:Nat}{m:Mk}(hx:t.marks[k]?= some m)(h2:(t.marks.take k).all (o7 c)=true)(h:((!([]:List Int).any fun x=>decide ((k:Int)=x))&& !iK (mG c m.frm m.to) (m.lo,m.hi).1 (m.lo,m.hi).2)=false):(t.marks.take (k+1)).all (o7 c)=true:=by
 rw[aYG,hx,List.all_append,h2];simpa [o7]using h
theorem AF{t:bD}{c:List Int}{k:Nat}{m:Mk}(hx:t.marks[k]?= some m)(h:((!([]:List Int).any fun x=>decide ((k:Int)=x))&& !iK (mG c m.frm m.to) (m.lo,m.hi).1 (m.lo,m.hi).2)=true):nZ t c=false:=by
 unfold nZ;rw[List.all_eq_false];exact⟨m,LT hx,by simpa using h⟩
theorem S3{t:bD}{c:List Int}{k:Nat}(h2:(t.marks.take k).all (o7 c)=true)(hk:t.marks.length≤k):nZ t c=true:=by
 rw[aYO hk]at h2;exact h2
theorem ZH(l:List (Int×Int))(r:Int×Int):pW (l++[r])=min (pW l*gL r) 2001:=by
 unfold pW;rw[aZM];rfl
theorem CT{t:bD}{k:Nat}{r:Int×Int}(hx:t.heights[k]?= some r):pW (t.heights.take (k+1))=min (pW (t.heights.take k)*gL r) 2001:=by
 rw[aYG,hx];exact ZH _ _
theorem OW{t:bD}(h:IN t)(k:Nat):0≤pW (t.heights.take k)∧pW (t.heights.take k)≤2001:=by
 induction k with
 |zero=>simp[pW]
 |succ k ih=>
  cases hx:t.heights[k]? with
  |none=>rw[aYG,hx,Option.toList_none,aXS];exact ih
  |some r=>
   rw[CT hx];have h1:=qV (h.hts r (LT hx));have h2:0≤gL r:=by unfold gL;omega
   have h3:=Int.mul_nonneg ih.1 h2;omega
theorem aFG{t:bD}(h:IN t)(k:Nat){r:Int×Int}(hr:jE r=true):0≤pW (t.heights.take k)*gL r∧pW (t.heights.take k)*gL r≤200100:=by
 have h0:=OW h k;have h1:=qV hr;have h2:0≤gL r∧gL r≤100:=by unfold gL;omega
 have h3:=Int.mul_nonneg h0.1 h2.1;have h4:=Int.mul_le_mul h0.2 h2.2 h2.1 Yd;omega
theorem U6{t:bD}{b:Bool}(h:((decide ((9:Int)<t.last)||decide ((6:Int)<(t.levels.length:Int)))||decide ((5:Int)<(t.marks.length:Int)))=b):aPH t=b:=h
theorem aEW{t:bD}(h:((decide ((9:Int)<t.last)||decide ((6:Int)<(t.levels.length:Int)))||decide ((5:Int)<(t.marks.length:Int)))=false):t.last≤9:=by
 simp only[bAB,aZK]at h;omega
theorem JY{t:bD}{b:Bool}(h:(((((decide (t.last<0)||decide ((t.heights.length:Int)≠t.last+1))|| !t.heights.all jE)|| !fT t.step)|| !t.levels.all fT)|| !t.marks.all (uT t.last))=b):aVF t= !b:=by
 subst h;unfold aVF;have G:decide (t.last<0)= !decide (0≤t.last):=by by_cases h:t.last<0<;>simp[h]<;>omega
 have I:decide ((t.heights.length:Int)≠t.last+1)= !decide ((t.heights.length:Int)=t.last+1):=by simp
 rw[G,I];cases decide (0≤t.last)<;>cases decide ((t.heights.length:Int)=t.last+1)<;>cases t.heights.all jE<;>cases fT t.step<;>cases t.levels.all fT<;>cases t.marks.all (uT t.last)<;>rfl
section
variable{t:bD}(h1:((decide ((9:Int)<t.last)||decide ((6:Int)<(t.levels.length:Int)))||decide ((5:Int)<(t.marks.length:Int)))=false)
theorem ZJ(h1:((decide ((9:Int)<t.last)||decide ((6:Int)<(t.levels.length:Int)))||decide ((5:Int)<(t.marks.length:Int)))=true):bB t=3:=by unfold bB;rw[aYJ (U6 h1)]
include h1
theorem aXA(h2:(((((decide (t.last<0)||decide ((t.heights.length:Int)≠t.last+1))|| !t.heights.all jE)|| !fT t.step)|| !t.levels.all fT)|| !t.marks.all (uT t.last))=false):IN t:=aXP (U6 h1) (JY h2)
theorem T1(h2:(((((decide (t.last<0)||decide ((t.heights.length:Int)≠t.last+1))|| !t.heights.all jE)|| !fT t.step)|| !t.levels.all fT)|| !t.marks.all (uT t.last))=true):bB t=1:=by
 unfold bB;rw[aYC (by simp[U6 h1]),aYJ (show aVF t=false from JY h2)]
variable(h2:(((((decide (t.last<0)||decide ((t.heights.length:Int)≠t.last+1))|| !t.heights.all jE)|| !fT t.step)|| !t.levels.all fT)|| !t.marks.all (uT t.last))=false)
include h2
theorem NN(h4:2000<pW t.heights):bB t=3:=by
 unfold bB;rw[aYC (by simp[U6 h1]),aYC (by simp[JY h2]),aYJ h4]
theorem QP(h4:¬2000<pW t.heights)(hn:gQ t=[]):bB t=9:=by
 unfold bB;rw[aYC (by simp[U6 h1]),aYC (by simp[JY h2]),aYC h4,aYJ hn]
theorem sT(h4:¬2000<pW t.heights)(hn:gQ t≠[]):bB t=0:=by
 unfold bB;rw[aYC (by simp[U6 h1]),aYC (by simp[JY h2]),aYC h4,aYC hn]
end
theorem j3(c:List Int)(a b:Int)(D:aC)(G:c.length=10)(h0:0≤a)(h1:a≤b)(h9:b≤9):Fn prog 144 #[.agg (ints c).toArray,qI a,qI b] D (fun _ v=>v=qI (mG c a b)):=by
 obtain⟨x,xs,hx,hv⟩:=II G h0 h1 h9;refine enter 12 func144 rfl rfl rfl rfl fun h0=>aA<|Zv rfl (fun R T O I=>Zj rfl<|aK<|Za rfl<|Za rfl<|Zaa rfl<|ZG (l:=a.toNat) (h:=(b+1).toNat) rfl U282 aL rfl rfl rfl Yd Yd Yd Yd Yd rfl bCV<|Zc rfl (fun U M=>aGM _ x xs _ (hx▸(UK (l:=a.toNat) (h:=(b+1).toNat) I G Yd Yd Yd).up RI.up (M _ Ye)))<|Zj rfl<|aH ?_)
 exact aF rfl (fun D hD=>by show Value.int _ _=_;rw[hv])
theorem AU(tv:Value)(t:bD)(c:List Int)(D:aC)(ht:hG D tv t)(hto:IN t)(G:c.length=10):Fn prog 139 #[tv,.agg (ints c).toArray,qN] D (fun _ v=>v=.bool (nZ t c)):=by
 obtain⟨hv,lv,mv,rfl,hh,hl,hm⟩:=ht;have hll:=hm.len;have hlast:=hto.last;refine enter 34 func139 rfl rfl rfl rfl fun h0=>aA<|Zv rfl (fun q1 Z hB I=>Zv rfl (fun q2 E2 hE M=>Zj rfl<|bW<|Zh rfl iF rfl<|Zf 4 rfl oY rfl I rfl<|Zab rfl U30 rfl hm rfl<|Za rfl<|aG<|Zar ?_));refine bP (γ:=Nat) (fun k=>t.marks.length-k) (fun k=>k≤t.marks.length∧(t.marks.take k).all (o7 c)=true) (fun k=>[(12,qI (k:Int))]) [(11,_),(10,_),(6,_),(4,_),(2,_)] (fun k=>[E2,Z,D]) 0 Ye ⟨Yb,bCV⟩ bA (aE) ?_
 rintro k ⟨h1,h2⟩;refine aA<|Zai rfl<|bR<|Zz rfl (fun O=>?_) (fun O=>?_)
 ·have hk:k<t.marks.length:=by omega
  obtain⟨m,hx⟩:=dX t.marks k;have hmb:=OK (hto.mark m (LT hx));refine aZ<|aO<|Zar<|aA<|Za rfl<|Zx rfl U30 iN rfl hm rfl hx (fun b1 o1 R T Y U=>?_);obtain rfl:R=[qI _,qI _,qI _,qI _]:=T;refine Zs rfl J5 rfl U iN<|Zw rfl wE rfl (fun q3=>Zj rfl<|Zu rfl iN (bO.head)<|bR<|bM [] 5 16 8066<|Za rfl<|Za rfl<|Zc rfl (fun D1 hF=>L7.yD _ [] (k:Int) _ Sl.nil)<|Zak rfl<|Za rfl ?_);refine' dM 11 (s:=21) (p:=32) rfl (fun V=>?_) (fun V=>?_) ?_;rotate_left
  ·refine Zi rfl CQ rfl<|eE rfl kB cE rfl Mm0 rfl rfl n3 rfl ⟨_,rfl,rfl⟩<|dL rfl nL rfl M Yc Yaa n3 rfl ⟨_,rfl,rfl⟩<|Zi rfl DD rfl<|Zq rfl aI rfl Mm0 rfl<|Zi rfl DW rfl<|Zq rfl aI rfl Mm0 rfl<|Zd rfl (fun D2 hH=>j3 c m.frm m.to _ G hmb.1 hmb.2.1 Yd)<|Zd rfl (fun D3 hI=>o5 (m.lo,m.hi) _ _)<|Zal rfl<|Zag rfl ?_;exact aR 10
  ·refine Zk rfl<|Zk rfl<|Zk rfl<|Zk rfl<|Zk rfl<|Zk rfl<|Zk rfl<|Zk rfl<|Zk rfl<|Zk rfl<|Zah rfl ?_;exact aR 10
  refine aG<|aW rfl (fun hc2=>?_) (fun hc2=>?_)
  ·refine aA<|Zj rfl<|aH<|Zav<|Zas<|Zas<|Zav<|Zas ?_;exact aF rfl (fun D hD=>by show Value.bool _=_;rw[AF hx hc2])
  ·refine cB<|Zat<|Zap<|aX<|Zaa rfl<|Za rfl<|Zae ?_;exact aM 15 (k+1) ⟨by omega,QK hx h2 hc2⟩ Yd ⟨Yb,bCV⟩ rfl rfl (List.Sublist.cons _ Mm5) (aE)
 ·refine aT<|Zaq<|Zaq<|Zau<|Zap<|aA<|Zj rfl<|aH ?_;exact aF rfl (fun D hD=>by show Value.bool _=_;rw[S3 h2 Yd])
theorem B3(tv:Value)(t:bD)(D:aC)(ht:hG D tv t):Fn prog 137 #[tv] D (fun _ v=>v=qI (bB t)):=by
 have ht0:=ht;obtain⟨hv,lv,mv,rfl,hh,hl,hm⟩:=ht;have hll:=hh.len;have hl2:=hl.len;have hl3:=hm.len;refine GP 82 func137 rfl rfl rfl rfl fun h0=>aA<|Zv rfl (fun q1 E1 hE1 G=>Zw rfl GA rfl (fun q2=>aK<|Zs rfl gY rfl G eW<|Zao rfl<|Zj rfl<|bR<|Zar<|aA<|Zh rfl jU rfl ?_));refine Zf 0 rfl aI rfl G rfl<|iH rfl rfl rfl rfl bCV<|Za rfl ?_
 refine' dY 5 (s:=13) (p:=18) rfl (fun Z=>?_) (fun Z=>?_) ?_;rotate_left
 ·refine Zi rfl jJ rfl<|Zg 3 rfl dS rfl G rfl<|dH rfl U25 rfl hl rfl rfl ⟨_,rfl,rfl⟩<|iH rfl rfl rfl rfl ⟨_,rfl,rfl⟩<|Zah rfl ?_;exact aR 4
 ·refine Zk rfl<|Zk rfl<|Zk rfl<|Zk rfl<|Zag rfl ?_;exact aR 4
 refine Za rfl ?_;refine' dY 5 (s:=19) (p:=24) rfl (fun hB=>?_) (fun hB=>?_) ?_;rotate_left
 ·refine Zi rfl iF rfl<|Zg 4 rfl oY rfl G rfl<|dH rfl U30 rfl hm rfl rfl ⟨_,rfl,rfl⟩<|iH rfl rfl rfl rfl ⟨_,rfl,rfl⟩<|Zah rfl ?_;exact aR 4
 ·refine Zk rfl<|Zk rfl<|Zk rfl<|Zk rfl<|Zag rfl ?_;exact aR 4
 refine Zj rfl<|aG<|aW rfl (fun I=>?_) (fun I=>?_)
 ·refine aA<|Zm rfl pG (bO.head) rfl<|aH<|Zav<|Zas ?_;exact tL (vs:=[_]) rfl rfl rfl ⟨⟨_,_,_,rfl,bBU _,aYF ⟨qK,rfl⟩⟩,bCV⟩ (fun D hD=>by show Value.int _ _=_;rw[ZJ I])
 ·refine aA<|Zh rfl jU rfl<|Zf 0 rfl aI rfl G rfl<|Zai rfl<|Za rfl ?_;refine' dY 8 (s:=29) (p:=37) rfl (fun V=>?_) (fun V=>?_) ?_;rotate_left
  ·have hl0:0≤t.last:=by have:=V;simp only[aZK]at this;omega
   have hl9:t.last≤9:=aEW I;refine Zi rfl fA rfl<|Zg 1 rfl lX rfl G rfl<|dH rfl U29 rfl hh rfl rfl ⟨_,rfl,rfl⟩<|Zi rfl jU rfl<|Zg 0 rfl aI rfl G rfl<|B4 rfl rfl rfl Yg rfl ⟨_,rfl,rfl⟩<|oC rfl rfl rfl rfl ⟨_,rfl,rfl⟩<|Zah rfl ?_;exact aR 7
  ·refine Zk rfl<|Zk rfl<|Zk rfl<|Zk rfl<|Zk rfl<|Zk rfl<|Zk rfl<|Zag rfl ?_;exact aR 7
  refine Za rfl ?_;refine' dY 5 (s:=38) (p:=43) rfl (fun hE=>?_) (fun hE=>?_) ?_;rotate_left
  ·refine Zi rfl fA rfl<|Zg 1 rfl lX rfl G rfl<|Zd rfl (fun D1 hF=>IL _ _ _ jE _ (Sl.at C8.up hF Ym Ye) (.of fun x U=>x9 x U) rfl)<|Zal rfl<|Zah rfl ?_;exact aR 4
  ·refine Zk rfl<|Zk rfl<|Zk rfl<|Zk rfl<|Zag rfl ?_;exact aR 4
  refine Za rfl ?_;refine' dY 5 (s:=44) (p:=49) rfl (fun hH=>?_) (fun hH=>?_) ?_;rotate_left
  ·refine Zi rfl sY rfl<|Zg 2 rfl aI rfl G rfl<|Zd rfl (fun U hD2=>A3 _ _)<|Zal rfl<|Zah rfl ?_;exact aR 4
  ·refine Zk rfl<|Zk rfl<|Zk rfl<|Zk rfl<|Zag rfl ?_;exact aR 4
  refine Za rfl ?_;refine' dY 5 (s:=50) (p:=55) rfl (fun hI=>?_) (fun hI=>?_) ?_;rotate_left
  ·refine Zi rfl jJ rfl<|Zg 3 rfl dS rfl G rfl<|Zd rfl (fun D3 hJ=>N9 _ _ _ fT _ (Sl.at RI.up hJ Ym Ye) (.of fun x U=>A3 x U) rfl)<|Zal rfl<|Zah rfl ?_;exact aR 4
  ·refine Zk rfl<|Zk rfl<|Zk rfl<|Zk rfl<|Zag rfl ?_;exact aR 4
  refine Za rfl ?_;refine' dY 6 (s:=56) (p:=62) rfl (fun hK=>?_) (fun hK=>?_) ?_;rotate_left
  ·refine Zi rfl iF rfl<|Zg 4 rfl oY rfl G rfl<|Zb rfl<|Zd rfl (fun D4 Y=>aOW _ _ _ (uT t.last) _ (Sl.at IM.up Y Ym Ye) ⟨_,[_],[],rfl,fun m U hl=>aNZ _ t m U (ht0.up ((Y _ Ye).trans hl))⟩ rfl)<|Zal rfl<|Zah rfl ?_;exact aR 5
  ·refine Zk rfl<|Zk rfl<|Zk rfl<|Zk rfl<|Zk rfl<|Zag rfl ?_;exact aR 5
  refine Zj rfl<|aG<|aW rfl (fun hc2=>?_) (fun hc2=>?_)
  ·refine aA<|Zm rfl pG (bO.head) rfl<|aH<|Zav<|Zas ?_;exact tL (vs:=[_]) rfl rfl rfl ⟨⟨_,_,_,rfl,bBU _,aYF ⟨qK,rfl⟩⟩,bCV⟩ (fun D hD=>by show Value.int _ _=_;rw[T1 I hc2])
  ·have hto:IN t:=aXA I hc2;refine cB<|Zat<|Zap<|aA<|Zj rfl<|bW<|Zh rfl fA rfl<|Zf 1 rfl lX rfl G rfl<|Zab rfl U29 rfl hh rfl<|Za rfl<|aG<|Zar ?_;refine bP (γ:=Nat) (fun k=>t.heights.length-k) (fun k=>k≤t.heights.length) (fun k=>[(66,qI (k:Int)),(4,qI (pW (t.heights.take k)))]) [(65,_),(64,_),(2,_),(1,_)] (fun k=>[E1,D]) 0 Yd ⟨Yb,Yb,bCV⟩ bA (aE) ?_;rintro k h1;refine aA<|Zai rfl<|bR<|Zz rfl (fun hM=>?_) (fun hM=>?_)
   ·have hk:k<t.heights.length:=by omega
    obtain⟨r,hx⟩:=dX t.heights k;have hrb:=hto.hts r (LT hx);have hmul:=aFG hto k hrb;refine aZ<|aO<|Zar<|aA<|Zx rfl U29 cE rfl hh rfl hx (fun b1 o1 hN hO rA hR=>?_);obtain rfl:hN=[qI _,qI _]:=hO;refine Zs rfl kB rfl hR cE<|Zw rfl gJ rfl (fun q3=>Zu rfl cE (bO.head)<|aG<|aX<|Za rfl<|Zy rfl kB rfl Mm0 cE<|Zc rfl (fun D5 hD5=>UJ r hrb _)<|N7 rfl rfl rfl Yg rfl bCV<|Zn rfl U25 aL dR rfl (.cons rfl rfl (.cons rfl rfl .nil)) (fun rB D901 hS O=>?_));have R:=Sl.ofInts (l:=[_,_]) (n:=2) (cap:=2) O rfl Yd Yd;refine Zc rfl (fun D6 hX=>lY _ (pW (t.heights.take k)*gL r) [2001] _ (R.up RI.up (hX _ Ye)))<|Zj rfl<|Zae<|Zat<|Zap<|aX<|Zaa rfl<|Za rfl<|Zae ?_;exact aM 15 (k+1) Yd Yd ⟨Yb,(by rw[CT hx];rfl),bCV⟩ rfl rfl (List.Sublist.cons _ Mm5) (fun D h=>⟨D,aYK _ (h),Le.refl D⟩)
   ·obtain rfl:k=t.heights.length:=by omega
    rw[aZB];refine aT<|Zaq<|Zaq<|Zau<|Zap<|dV<|Za rfl<|iH rfl rfl rfl rfl bCV<|aG<|Zz rfl (fun M=>?_) (fun M=>?_)
    ·refine aA<|Zm rfl pG (bO.head) rfl<|aH<|Zas ?_;exact tL (vs:=[_]) rfl rfl rfl ⟨⟨_,_,_,rfl,bBU _,aYF ⟨qK,rfl⟩⟩,bCV⟩ (fun D hD=>by show Value.int _ _=_;rw[NN I hc2 M])
    ·refine aZ<|dV<|Zs rfl gY rfl G eW<|Zt rfl (fun D7 T=>KO _ t _ (ht0.up (T _ Ye)) hto) (fun v7 D7 T hY=>aG<|Zar ?_);obtain⟨br,rfl,hit⟩:=hY;refine pY (γ:=Unit) (xs:=(gQ t).map dG) (enc:=FY) (Dr:=D7) (fun pre _=>pre=[]) (fun _ c _=>c=.ret∧gQ t≠[]) (fun _=>[(q2,qC [qI 0] 44)]) () rfl rfl rfl rfl hit Ye (fun _=>rfl) rfl rfl rfl ?_ ?_ ?_
     ·rintro pre x _ ⟨us,hx⟩ hΦ l bd rec hh D7 T hst hpend;refine cB ?_;refine fun a w hhh=>wT (A:=[(_,_)]) (B:=[(bd,.deferred (some []))]) (r:=rec) (l:=l) Yav hst ?_ a w hhh
      refine Zar<|aA<|Zm rfl pG (bO.head) rfl<|aH<|Zav ?_;exact aGB (A:=[(_,_)]) (B:=[(bd,.deferred (some []))]) .ret () ⟨rfl,fun e=>by rw[e]at hx;simp at hx⟩ rfl rfl
     ·rintro _ bd hΦ;have hn:gQ t=[]:=by simpa using hΦ
      refine Zat<|Zap<|aA<|Zm rfl pG (bO.head) rfl<|aH ?_;exact xD (vs:=[_]) (A:=[(_,_)]) rfl rfl rfl ⟨⟨_,_,_,rfl,bBU _,aYF ⟨qK,rfl⟩⟩,bCV⟩ (fun D hD=>by show Value.int _ _=_;rw[QP I hc2 M hn])
     ·rintro _ _ _ bd ⟨rfl,hne⟩;refine z6<|Zav<|Zas ?_;exact xD (vs:=[_]) (A:=[(_,_)]) rfl rfl rfl ⟨⟨_,_,_,rfl,bBU _,aYF ⟨qK,rfl⟩⟩,bCV⟩ (fun D hD=>by show Value.int _ _=_;rw[sT I hc2 M hne])
end L2
namespace L2
open L1
open C2
open C1 (iK dA uC sP)
def G7(t:bD)(pre:List (List Int))(g:Value×aD×Array MapEntry×Nat×List (Int×Int)):Prop:=
 bZ 282 10 g.1 (kI t pre.length).length (H5 (kI t pre.length)) g.2.1∧vN g.2.2.1 g.2.2.2.1 g.2.2.2.2∧B0 (kI t pre.length) t.last g.2.2.2.2
def aWB(t:bD)(D:aC)(wv:Value)(ν:aD):Prop:=∃wb mb hv lv mv tsv es cl S,wv=qP wb∧ν=[(wb,qC [qI t.last,hv,qI t.step,lv,mv,tsv,.map (some mb)] 278),(mb,.map es cl)]∧
 hG D (.agg #[qI t.last,hv,qI t.step,lv,mv]) t∧Sl D BC 10 tsv (bU t)∧vN es cl S∧B0 (bU t) t.last S
def K6(acc:List (List Int)):List Int:=match acc.getLast? with
 |some s=>dG s
 |none=>[]
theorem CH{acc:List (List Int)}(h:∀s∈acc,s.length≤10)(hne:acc≠[]):(K6 acc).length=10:=by
 unfold K6;rw[bAV hne];exact fO (h _ (List.getLast_mem hne))
theorem aBV{acc:List (List Int)}(h:∀s∈acc,s.length≤10)(hne:acc≠[])(junk:List Value):((H5 acc++junk).drop (0+(((acc.length:Int)-1).toNat)*10)).take 10=ints (K6 acc):=by
 have hpos:=bAU.2 hne;unfold K6;rw[bAV hne,bAL];refine NC h ?_ junk;rw[show((acc.length:Int)-1).toNat=acc.length-1 by omega,←List.getLast?_eq_getElem?,bAV hne]
theorem aKV{s u:List Int}(h:s.length=u.length):dG s=dG u ↔ s=u:=by
 constructor
 ·intro e;have:=aXV (List.take s.length) e;unfold dG at this
  rwa [bBW,h,bBW]at this
 ·rintro rfl;rfl
def B5(S:List (Int×Int))(s:List Int)(k:Nat):List (Int×Int):=(List.range k).foldl (fun S (j:Nat)=>NA S ((j:Int),s.getD j 0)) S
theorem EM{S:List (Int×Int)}{s:List Int}{k:Nat}:B5 S s (k+1)=NA (B5 S s k) ((k:Int),s.getD k 0):=by
 unfold B5;rw[aZR,aZM];rfl
theorem aEV{S:List (Int×Int)}{s:List Int}{k:Nat}{p:Int×Int}:p∈B5 S s k ↔ p∈S∨∃j:Nat,j<k∧p=((j:Int),s.getD j 0):=by
 induction k with
 |zero=>simp[B5]
 |succ k ih=>
  rw[EM,aJH,ih];constructor
  ·rintro((h|⟨j,hj,rfl⟩)|rfl)
   ·exact aYF h
   ·exact aXR ⟨j,by omega,rfl⟩
   ·exact aXR ⟨k,by omega,rfl⟩
  ·rintro(h|⟨j,hj,rfl⟩)
   ·exact aYF (aYF h)
   ·by_cases e:j=k
    ·subst e;exact aXR rfl
    ·exact aYF (aXR ⟨j,by omega,rfl⟩)
theorem TM{s:List Int}{k:Nat}(h:k<s.length):(dG s)[(k:Int).toNat]?= some (s.getD k 0):=by
 unfold dG;rw[aZN,bAK h,aZQ,aXT h];rfl
section
variable{t:bD}{pre:List (List Int)}{s:List Int}(hrp:nZ t (dG s)=nZ t s)(htake:(gQ t).take (pre.length+1)=(gQ t).take pre.length++[s])
include hrp htake
theorem MS{b:Bool}(hc:(!nZ t (dG s)||(decide (0<((kI t pre.length).length:Int))&&(K6 (kI t pre.length)==dG s)))=b):R8 t (kI t pre.length) s=if b=true then kI t pre.length else kI t pre.length++[s]:=by
 have hsm:s∈gQ t:=bBZ (i:=pre.length+1) (by rw[htake];simp);rw[hrp]at hc;subst hc;unfold R8;cases hr:nZ t s with
 |false=>simp
 |true=>
  simp only[bCO,Bool.false_or,Bool.true_eq_false,false_or];by_cases hne:kI t pre.length=[]
  ·rw[hne];simp
  ·have hpos:=bAU.2 hne;have h1:decide (0<((kI t pre.length).length:Int))=true:=by simpa using hpos
   rw[h1,bBL];unfold K6;rw[bAV hne];have h2:=pB (N6 (List.getLast_mem hne));have h3:=pB hsm;have h4:=aKV (h2.trans h3.symm);by_cases e:(kI t pre.length).getLast hne=s
   ·rw[aYJ (by rw[e]),aYJ (by rw[e];simp)]
   ·rw[aYC (by simpa using e),aYC (by simpa using fun h=>e (h4.1 h))]
theorem aIX{v:Value}{ν:aD}{es:Array MapEntry}{cl:Nat}{S:List (Int×Int)}(hc:(!nZ t (dG s)||(decide (0<((kI t pre.length).length:Int))&&(K6 (kI t pre.length)==dG s)))=true)(ha:bZ 282 10 v (kI t pre.length).length (H5 (kI t pre.length)) ν)(hS:vN es cl S)(hsp:B0 (kI t pre.length) t.last S):G7 t (pre++[dG s]) (v,ν,es,cl,S):=by
 have h1:=MS hrp htake hc;simp only[aZU]at h1;have h2:=ET htake;rw[h1]at h2;unfold G7;rw[GT,bBE,h2];exact⟨ha,hS,hsp⟩
theorem aKX(hc:(!nZ t (dG s)||(decide (0<((kI t pre.length).length:Int))&&(K6 (kI t pre.length)==dG s)))=false):kI t (pre.length+1)=kI t pre.length++[s]:=by
 have h1:=MS hrp htake hc;simp only[aYY,aZW]at h1;rw[ET htake,h1]
end
theorem aUR{t:bD}{pre:List (List Int)}{s:List Int}{v:Value}{ν:aD}{es:Array MapEntry}{cl k:Nat}{S:List (Int×Int)}(h:kI t (pre.length+1)=kI t pre.length++[s])(hk:s.length≤k)(G:(k:Int)=t.last+1)(ha:bZ 282 10 v ((kI t pre.length).length+1) (H5 (kI t pre.length++[s])) ν)(hS:vN es cl (B5 S s k))(hsp:B0 (kI t pre.length) t.last S):G7 t (pre++[dG s]) (v,ν,es,cl,B5 S s k):=by
 unfold G7;rw[GT,bBE,h,GT,bBE];refine⟨ha,hS,fun p=>?_⟩;rw[aEV,hsp p];constructor
 ·rintro(⟨u,hu,j,hj,rfl⟩|⟨j,hj,rfl⟩)
  ·exact⟨u,aXU _ hu,j,hj,rfl⟩
  ·exact⟨s,by simp,j,by omega,rfl⟩
 ·rintro⟨u,hu,j,hj,rfl⟩;rcases aYD.1 hu with hu|hu
  ·exact aYF ⟨u,hu,j,hj,rfl⟩
  ·simp only[aYH]at hu;subst hu
   exact aXR ⟨j,by omega,rfl⟩
theorem aRI:K2 prog 285:=⟨by kernel_rfl,by kernel_rfl,by kernel_rfl⟩
theorem vL(tv:Value)(t:bD)(fine:Bool)(D:aC)(ht:hG D tv t):MZ prog 80 #[tv,.bool fine] D (fun D' v ν=>∃wv,v=.tuple #[wv,qI (nP t fine)]∧(nP t fine=0→IN t∧bU t≠[]∧aWB t D' wv ν)):=by
 have ht0:=ht;obtain⟨hv,lv,mv,rfl,hh,hl,hm⟩:=ht;refine VA 85 func80 rfl rfl rfl rfl fun h0=>aA<|Zv rfl (fun q1 E1 hE1 M=>Zj rfl<|Zj rfl<|bW<|Zs rfl gY rfl M eW<|Zc rfl (fun D1 hK=>B3 _ t _ (ht0.up (hK _ Ye)))<|Zj rfl<|aK<|Za rfl<|Zam rfl ?_);refine aG<|Zz rfl (fun G=>?_) (fun G=>?_)
 ·refine aA<|Za rfl<|Zj rfl<|Zj rfl<|aH<|Zas ?_;exact tL (vs:=[_,_]) rfl rfl rfl bA (fun D hD=>⟨_,by rw[nP,aYJ G];rfl,fun h=>by rw[nP,aYJ G]at h;exact absurd h G⟩)
 ·have R:bB t=0:=by omega
  have hto:IN t:=EV R;refine aZ<|dV<|Za rfl<|Zak rfl<|aG<|aW rfl (fun hc2=>?_) (fun hc2=>?_)
  ·refine aA<|Zj rfl<|Zj rfl<|aH<|Zas ?_;exact tL (vs:=[_,_]) rfl rfl rfl bA (fun D hD=>⟨_,by rw[nP,aYC G,aYJ Yaq];rfl,fun h=>by rw[nP,aYC G,aYJ Yaq]at h;omega⟩)
  ·refine aZ<|aA<|Zs rfl gY rfl M eW<|vE rfl rfl bCV (fun qm=>jB (cs:=[qI t.last,hv,qI t.step,lv,mv,qN,.map (some qm)]) rfl aQG aMJ rfl Yf rfl bCV<|EJ rfl (e:=278) rfl rfl rfl bCV (fun q2=>Zw rfl aPD rfl (fun q3=>Zm rfl aMV (bO.head) rfl<|bW<|Zs rfl gY rfl M eW<|Zt rfl (fun D2 hB=>KO _ t _ (ht0.up (hB _ Ye)) hto) (fun v2 D2 hB hM=>aG ?_))));refine Zar ?_;obtain⟨br,rfl,hit⟩:=hM;refine pY (γ:=Value×aD×Array MapEntry×Nat×List (Int×Int)) (xs:=(gQ t).map dG) (enc:=FY) (Dr:=D2) (G7 t) (fun _ _ _=>False) (fun g=>[(q3,qC [qP q2] 188),(q2,qC [qI t.last,hv,qI t.step,lv,mv,g.1,.map (some qm)] 278),(qm,.map g.2.2.1 g.2.2.2.1)]++g.2.1) (qN,[],#[],0,[]) rfl rfl rfl rfl hit Ye (fun _=>rfl) rfl ⟨by simpa [kI,H5]using bZ.nil,vN.nil,B0.nil⟩ rfl ?_ ?_ (fun _ _ _ _ h=>h.elim)
   ·rintro pre x ⟨v,ν,es,cl,S⟩ ⟨us,hx⟩ ⟨ha,hS,hsp⟩ l bd rec hh7 D7 hD7 hst hpend;simp only at ha hS hsp;obtain⟨s,hk,rfl,hsm,htake⟩:=PG hx;have hsl:=pB hsm;have hlast:=hto.last;have hlen:=hto.len;have hE:s.length≤10:=by omega
    have I:=fO hE;have hall:∀u∈kI t pre.length,u.length≤10:=fun u hu=>by have:=pB (N6 hu);omega
    have hcap:=X6 R;have hacl:=KQ t pre.length;have hrp:=aAY hto (s:=s) Yd;refine aX<|Zw rfl K7 rfl (fun q4=>Zu rfl iZ (bO.head)<|Zae ?_);refine fun a w hhh=>wT (A:=[(_,_),(_,_),(_,_),(_,_)]++ν) (B:=[(bd,.deferred (some []))]) (r:=rec) (l:=l) Yav hst ?_ a w hhh
    refine xP (fun hnd=>?_);simp only[aYN,aYE,aZI,aXX,aZV,aYT,GE,aYD,not_or]at hnd;have hq4:=hnd.1.2.2.2.1;have hq3:=hnd.2.1.2.2.1;have hq2:=hnd.2.2.1.2.1;refine Zar<|aO<|aO<|pR [] 10 28 20905986 (fun _ _ _ h=>h)<|Zs rfl gY rfl M eW<|bT rfl nL rfl Mm0 Yaa n3 rfl bCV<|Zc rfl (fun D3 hN=>AU _ t (dG s) _ (ht0.up (hN _ Ye)) hto I)<|Zak rfl<|Za rfl ?_;refine' dY 23 (s:=28) (p:=51) rfl (fun hO=>?_) (fun hO=>?_) ?_;rotate_left
    ·refine Zq rfl tJ rfl Mm1 rfl<|wX rfl rfl rfl ⟨_,rfl,rfl⟩<|Zi rfl kX rfl<|Zq rfl rE rfl Mm2 rfl<|fC rfl U276 rfl ha rfl rfl ⟨_,rfl,rfl⟩<|iH rfl rfl rfl rfl ⟨_,rfl,rfl⟩<|Zb rfl ?_;refine' dM 15 (s:=35) (p:=50) rfl (fun T=>?_) (fun T=>?_) ?_;rotate_left
     ·have hne:kI t pre.length≠[]:=fun e=>by rw[e]at T;simp at T
      have hpos:=bAU.2 hne;obtain⟨b5,cap5,O,rfl,hcp5,rfl,hl51,hl52⟩:=ha.some hpos;refine Zq rfl tJ rfl Mm1 rfl<|wX rfl rfl rfl ⟨_,rfl,rfl⟩<|Zi rfl kX rfl<|Zq rfl rE rfl Mm2 rfl<|Zq rfl tJ rfl Mm1 rfl<|wX rfl rfl rfl ⟨_,rfl,rfl⟩<|Zi rfl kX rfl<|Zq rfl rE rfl Mm2 rfl<|kK rfl U276 rfl rfl rfl ⟨_,rfl,rfl⟩<|hU rfl rfl rfl Yg rfl ⟨_,rfl,rfl⟩<|gT rfl U276 iZ rfl rfl Yd Yd rfl ⟨_,rfl,rfl⟩<|eE (vs:=H5 (kI t pre.length)++O) (us:=ints (K6 (kI t pre.length))) rfl nL iZ rfl (aYK _ Mm3) (aBV hall hne O) (by simpa using CH hall hne) n3 rfl ⟨_,rfl,rfl⟩ ?_;refine bT rfl nL rfl Mm0 Yaa n3 rfl ⟨_,rfl,rfl⟩<|OS rfl Yf U282 U3 Yf (CH hall hne) I rfl rfl rfl ⟨_,rfl,rfl⟩<|Z5 rfl rfl rfl rfl ⟨_,rfl,rfl⟩ ?_;exact aR 14
     ·refine Zk rfl<|Zk rfl<|Zk rfl<|Zk rfl<|Zk rfl<|Zk rfl<|Zk rfl<|Zk rfl<|Zk rfl<|Zk rfl<|Zk rfl<|Zk rfl ?_;refine Zk rfl<|Zk rfl<|g8 rfl rfl rfl rfl ⟨_,rfl,rfl⟩ ?_;exact aR 14
     refine Zah rfl ?_;exact aR 8
    ·refine Zk rfl<|Zk rfl<|Zk rfl<|Zk rfl<|Zk rfl<|Zk rfl<|Zk rfl<|Zk rfl<|Zk rfl<|Zk rfl<|Zk rfl<|Zk rfl ?_;refine Zk rfl<|Zk rfl<|Zk rfl<|Zk rfl<|Zk rfl<|Zk rfl<|Zk rfl<|Zk rfl<|Zk rfl<|Zk rfl<|Zag rfl ?_;exact aR 22
    refine aG<|aW rfl (fun U=>?_) (fun U=>?_)
    ·have hR:G7 t (pre++[dG s]) (v,ν,es,cl,S):=aIX hrp htake U ha hS hsp;refine aT<|Zaq<|Zau ?_;exact fun a w hh=>iA (A:=[(_,_),(_,_),(_,_)]++ν) (B:=[(bd,.deferred (some []))]) (v,ν,es,cl,S) hR rfl rfl a w (hh.dropBoxes 1)
    ·have hadd:=aKX hrp htake U;refine aZ<|aO<|pR (ν.map (·.1)) 2 11 254 (fun _ _ _ h=>h)<|cF rfl tJ rfl Mm1 rfl Yn rfl bCV<|cF rfl tJ rfl Mm1 rfl Yn rfl bCV<|Zaj rfl<|Zh rfl kX rfl<|cF rfl rE rfl Mm2 rfl Yn rfl bCV<|bT rfl nL rfl Mm0 Yaa Yn rfl bCV<|Zn rfl U276 iZ K7 rfl (.cons rfl (by simpa using I) .nil) (fun b901 hF hX V=>bE (A:=[(_,_),(_,_),(_,_),(_,_)]) (B:=[(l,_),(bd,_)]) rfl U276 rfl rfl iZ K7 rfl aMS rfl rfl rfl ha (mK.lit V) Ye (by simp[I]) (IZ hall) (by simpa using dF _) Yd (aXR (fun p hp=>n4.2 ⟨p,hp,rfl⟩)) rfl bCV (fun v1 ν1 Y=>?_));have hY:bZ 282 10 v1 ((kI t pre.length).length+1) (H5 (kI t pre.length++[s])) ν1:=by unfold H5;rw[aYP,aZG];simpa [H5]using Y
     simp only[aZV,aYT];refine Zaj rfl<|Zh rfl kX rfl<|bJ rfl rfl rfl Y.cells1 TW (.tail (.tail (bO.head))) Ye rfl Y.cell1 bCV<|aK<|Zh rfl jU rfl<|Zf 0 rfl aI rfl M rfl<|Zaa rfl<|Za rfl<|aG<|Zar<|dB (γ:=Nat×Array MapEntry×Nat) (fun g=>s.length-g.1) (fun g=>g.1≤s.length∧vN g.2.1 g.2.2 (B5 S s g.1)) (fun g=>[(65,qI (g.1:Int))]) [(64,_),(8,_),(7,_),(5,_),(4,_)] (fun g=>[(q4,qC (ints (dG s)) 282)]++[(q3,qC [qP q2] 188),(q2,qC [qI t.last,hv,qI t.step,lv,mv,v1,.map (some qm)] 278),(qm,.map g.2.1 g.2.2)]++(ν1++[(l,.loop {rec with state:=.busy}),(bd,.deferred (some []))])) (fun g=>[hF,D7,D2,E1,D]) (0,es,cl) ⟨by simp,hS⟩ ⟨Yb,bCV⟩ bA Mm5 (aE) ?_;rintro⟨k,hH,hI⟩ ⟨h1,Z⟩;simp only at h1 Z;refine aA<|Zai rfl<|bR<|Zz rfl (fun rA=>?_) (fun rA=>?_)
     ·have hks:k<s.length:=by omega
      have hxk:(dG s)[(k:Int).toNat]?= some (s.getD k 0):=TM hks;refine aZ<|aO<|Zar<|aA<|Za rfl<|Zj rfl<|aG<|pR [] 3 10 496 (fun _ _ _ h=>h)<|Zp rfl tJ rfl Mm1 rfl<|Zaj rfl<|Zh rfl ES rfl<|Zp rfl SF rfl Mm2 rfl ?_;refine Za rfl<|Za rfl<|eJ rfl U282 aL rfl rfl Yd Yd rfl bCV<|cF rfl aI rfl Mm0 (cK hxk) n3 rfl bCV<|Zo [qI (k:Int),qI (s.getD k 0)] rfl aLI SS rfl<|aSL (A:=[(_,_),(_,_),(_,_)]) (B:=ν1++[(l,_),(bd,_)]) (a:=((k:Int),s.getD k 0)) rfl U275 aRI rfl rfl rfl Z bCV (fun rB cl3 hS3=>Zae<|Zat<|Zap<|aX<|Zaa rfl<|Za rfl ?_);refine Zae ?_;exact aM 15 (k+1,rB,cl3) ⟨by simp only;omega,by rw[EM];exact hS3⟩ Yo ⟨Yb,bCV⟩ rfl rfl Mm5 (aE)
     ·have hI1:G7 t (pre++[dG s]) (v1,ν1,hH,hI,B5 S s k):=aUR hadd Yd Yd hY Z hsp;refine aT<|Zaq<|Zaq<|Zau<|Zat ?_;exact fun a w hh=>iA (A:=[(_,_),(_,_),(_,_)]++ν1) (B:=[(bd,.deferred (some []))]) (v1,ν1,hH,hI,B5 S s k) hI1 rfl rfl a w (hh.dropBoxes 1)
   ·rintro⟨v,ν,es,cl,S⟩ bd ⟨ha,hS,hsp⟩;simp only[aZL]at ha hS hsp;rw[I8 t (aYI _)]at ha hsp;have hall:∀u∈bU t,u.length≤10:=fun u hu=>by rw[←I8 t (aYI _)]at hu;have:=pB (N6 hu);have:=hto.len10;omega
    have hll:(bU t).length≤2000:=by rw[←I8 t (aYI _)];have:=KQ t (gQ t).length;have:=X6 R;omega
    refine Zat<|Zap<|dV<|Zp rfl tJ rfl Mm0 rfl<|Zaj rfl<|Zh rfl kX rfl<|Zp rfl rE rfl Mm1 rfl<|fC rfl U276 rfl ha rfl rfl bCV<|Zan rfl<|aG<|Zz rfl (fun hJ=>?_) (fun hJ=>?_)
    ·have htn:bU t=[]:=bAP.1 Yd;have hask:nP t fine=11:=by rw[nP,aYC G,aYC Yaq,aYJ htn]
     refine aA<|Zj rfl<|Zj rfl<|aH<|Zas ?_;exact j4 (vs:=[_,_]) (A:=[(_,_),(_,_),(_,_)]) (ν':=[]) (B:=ν) rfl rfl rfl bA (fun D hD=>⟨_,by rw[hask];rfl,fun h=>by rw[hask]at h;omega⟩)
    ·have htn:bU t≠[]:=fun e=>hJ (by rw[e];rfl)
     have hask:nP t fine=0:=by rw[nP,aYC G,aYC Yaq,aYC htn]
     refine aZ<|aA<|Zp rfl tJ rfl Mm0 rfl<|Zj rfl<|Zj rfl<|aH<|gR (A:=[(_,_),(_,_),(_,_)]) (B:=[(bd,.deferred (some []))]) ha rfl (fun D8 hD8 hF8=>?_);exact j4 (vs:=[_,_]) (A:=[(_,_)]) (ν':=[(_,_),(_,_)]) (B:=[]) rfl rfl rfl bA (fun D hD=>⟨_,by rw[hask];rfl,fun _=>⟨hto,htn,q2,qm,hv,lv,mv,v,es,cl,S,rfl,rfl,⟨hv,lv,mv,rfl,hh.up C8.up (hD _ Ye),hl.up RI.up (hD _ Ye),hm.up IM.up (hD _ Ye)⟩,(hF8.seas rfl Yd hall).up BC.up (hD _ Ye),hS,hsp⟩⟩)
end L2
namespace L2
open L1
open C2
open C1 (iK dA uC sP)
theorem oX{t:bD}(_ht:IN t){s:List Int}(h:s∈bU t):s.length=t.heights.length:=by
 rw[←I8 t (aYI _)]at h;exact pB (N6 h)
structure aBM(es:Array MapEntry)(S:List (Int×Int))(h:Nat)(x0:Int)(seen:Array Nat)(lo hi:Int):Prop where
 mid:lo≤x0∧x0≤hi
 all:∀e∈es.toList,seen.contains e.born=true→∀y,e.key=lJ ((h:Int),y)→lo≤y∧y≤hi
 los:((h:Int),lo)∈S
 his:((h:Int),hi)∈S
theorem aBM.start{t:bD}{es:Array MapEntry}{S:List (Int×Int)}{h:Nat}{G:List Int}(hsp:B0 (bU t) t.last S)(hs:G∈bU t)(hh:(h:Int)≤t.last):aBM es S h (G.getD h 0) #[] (G.getD h 0) (G.getD h 0):=
 ⟨by omega,fun e _ hc=>by simp at hc,(hsp _).2 ⟨G,hs,h,hh,rfl⟩,(hsp _).2 ⟨G,hs,h,hh,rfl⟩⟩
theorem WA{a b:Int×Int}(h:lJ a=lJ b):a=b:=by
 obtain⟨G,a2⟩:=a;obtain⟨I,b2⟩:=b
 simp only[lJ,Value.agg.injEq]at h;simpa using h
section
variable{t:bD}{es:Array MapEntry}{cl:Nat}{S:List (Int×Int)}{h:Nat}{x0:Int}{seen:Array Nat}{lo hi:Int}
theorem CM(hS:vN es cl S){e e':MapEntry}(h1:e∈es.toList)(h2:e'∈es.toList)(h:e'.born=e.born):e'=e:=by
 have f1:=find_born e es.toList hS.nd h1;have f2:=find_born e' es.toList hS.nd h2;rw[h]at f2;rw[f1]at f2;exact(aYS f2).symm
theorem aBM.yes(hI:aBM es S h x0 seen lo hi)(hS:vN es cl S){e:MapEntry}(he:e∈(leftOf es seen).toList){ah ay:Int}(hek:e.key=lJ (ah,ay))(haS:(ah,ay)∈S)(hc:ah=(h:Int)):aBM es S h x0 (seen.push e.born) (min lo ay) (max hi ay):=by
 subst hc;have hm:=hI.mid;refine⟨by omega,fun e' he' hc y hy=>?_,?_,?_⟩
 ·rw[contains_push,aZT]at hc;rcases hc with hc|hc
  ·have:=hI.all e' he' hc y hy;omega
  ·have:=CM hS (mem_left he).1 he' (bCC.1 hc);subst this;rw[hek]at hy;have:=WA hy;simp only[bBG,true_and]at this;omega
 ·rcases Int.le_total lo ay with h|h
  ·rw[Int.min_eq_left h];exact hI.los
  ·rw[Int.min_eq_right h];exact haS
 ·rcases Int.le_total hi ay with h|h
  ·rw[Int.max_eq_right h];exact haS
  ·rw[Int.max_eq_left h];exact hI.his
theorem aBM.no(hI:aBM es S h x0 seen lo hi)(hS:vN es cl S){e:MapEntry}(he:e∈(leftOf es seen).toList){ah ay:Int}(hek:e.key=lJ (ah,ay))(_:(ah,ay)∈S)(hc:¬ah=(h:Int)):aBM es S h x0 (seen.push e.born) lo hi:=by
 refine⟨hI.mid,fun e' he' hc' y hy=>?_,hI.los,hI.his⟩;rw[contains_push,aZT]at hc';rcases hc' with hc'|hc'
 ·exact hI.all e' he' hc' y hy
 ·have:=CM hS (mem_left he).1 he' (bCC.1 hc');subst this;rw[hek]at hy;have:=WA hy;simp only[bBG]at this;exact absurd this.1 hc
theorem XL{l:List Int}{m:Int}(hm:m∈l)(h:∀x∈l,m≤x):uC l=m:=by
 cases l with
 |nil=>cases hm
 |cons a l=>
  have key:∀(l:List Int) (a:Int),(∀x∈l,l.foldl min a≤x)∧l.foldl min a≤a∧(l.foldl min a=a∨l.foldl min a∈l):=by
   intro l;induction l with
   |nil=>intro a;simp
   |cons b l ih=>
    intro a;obtain⟨h1,h2,h3⟩:=ih (min a b);rw[aZY];refine⟨fun x hx=>?_,by omega,?_⟩
    ·rcases GE.1 hx with rfl|hx
     ·omega
     ·exact h1 x hx
    ·rcases h3 with h3|h3
     ·rw[h3];rcases Int.le_total a b with h|h
      ·exact aYF (Int.min_eq_left h)
      ·exact aXR (by rw[Int.min_eq_right h];exact aXW)
     ·exact aXR (LE _ h3)
  obtain⟨h1,h2,h3⟩:=key l a;show l.foldl min a=m;have h4:l.foldl min a≤m:=by
   rcases GE.1 hm with rfl|hm
   ·exact h2
   ·exact h1 m hm
  have h5:m≤l.foldl min a:=by
   rcases h3 with h3|h3
   ·rw[h3];exact h a aXW
   ·exact h _ (LE _ h3)
  omega
theorem ZC{l:List Int}{m:Int}(hm:m∈l)(h:∀x∈l,x≤m):sP l=m:=by
 cases l with
 |nil=>cases hm
 |cons a l=>
  have key:∀(l:List Int) (a:Int),(∀x∈l,x≤l.foldl max a)∧a≤l.foldl max a∧(l.foldl max a=a∨l.foldl max a∈l):=by
   intro l;induction l with
   |nil=>intro a;simp
   |cons b l ih=>
    intro a;obtain⟨h1,h2,h3⟩:=ih (max a b);rw[aZY];refine⟨fun x hx=>?_,by omega,?_⟩
    ·rcases GE.1 hx with rfl|hx
     ·omega
     ·exact h1 x hx
    ·rcases h3 with h3|h3
     ·rw[h3];rcases Int.le_total a b with h|h
      ·exact aXR (by rw[Int.max_eq_right h];exact aXW)
      ·exact aYF (Int.max_eq_left h)
     ·exact aXR (LE _ h3)
  obtain⟨h1,h2,h3⟩:=key l a;show l.foldl max a=m;have h4:m≤l.foldl max a:=by
   rcases GE.1 hm with rfl|hm
   ·exact h2
   ·exact h1 m hm
  have h5:l.foldl max a≤m:=by
   rcases h3 with h3|h3
   ·rw[h3];exact h a aXW
   ·exact h _ (LE _ h3)
  omega
theorem aBM.fin(hI:aBM es S h x0 seen lo hi)(hS:vN es cl S)(hsp:B0 (bU t) t.last S)(_:bU t≠[])(hh:(h:Int)≤t.last)(hz:(leftOf es seen).size=0):lJ (lo,hi)=lJ (wK t h):=by
 have hall:∀y,((h:Int),y)∈S→lo≤y∧y≤hi:=fun y hy=>by
  obtain⟨e,he,hk⟩:=hS.ent hy;refine hI.all e he ?_ y hk;cases hc:seen.contains e.born with
  |true=>rfl
  |false=>
   have hm:e∈leftOf es seen:=by
    unfold leftOf;rw[Array.mem_filter];exact⟨Array.mem_toList_iff.1 he,by rw[hc];rfl⟩
   have:=Array.size_pos_of_mem hm;omega
 have hmem:∀y,y∈(bU t).map (aWS · h)→((h:Int),y)∈S:=fun y hy=>by
  obtain⟨s,hs,rfl⟩:=n4.1 hy;exact(hsp _).2 ⟨s,hs,h,hh,rfl⟩
 have G:∀y,((h:Int),y)∈S→y∈(bU t).map (aWS · h):=fun y hy=>by
  obtain⟨s,hs,j,hj,he⟩:=(hsp _).1 hy;simp only[bBG]at he;have:j=h:=by omega
  subst this;exact n4.2 ⟨s,hs,he.2.symm⟩
 unfold wK;rw[XL (G _ hI.los) fun x hx=>(hall x (hmem x hx)).1,ZC (G _ hI.his) fun x hx=>(hall x (hmem x hx)).2]
end
theorem JZ(t:bD)(wb mb:Nat)(hv lv mv tsv:Value)(es:Array MapEntry)(cl:Nat)(S:List (Int×Int))(h:Nat)(D:aC)(hts:Sl D BC 10 tsv (bU t))(htn:bU t≠[])(hto:IN t)(hS:vN es cl S)(hsp:B0 (bU t) t.last S)(hh:(h:Int)≤t.last):
  BA prog 265 [qP wb,qI (h:Int)] D [(wb,qC [qI t.last,hv,qI t.step,lv,mv,tsv,.map (some mb)] 278),(mb,.map es cl)] (fun _ v ν'=>v=lJ (wK t h)∧ν'=[(wb,qC [qI t.last,hv,qI t.step,lv,mv,tsv,.map (some mb)] 278),(mb,.map es cl)]):=by
 have hll:=hts.len;have hlast:=hto.last;obtain⟨I,G⟩:∃s,(bU t)[0]?= some s:=⟨(bU t)[0]'(bAU.2 htn),aXT _⟩
 have Z:=oX hto (LT G);have hB:=hto.len;have hg0:(dG I)[(h:Int).toNat]?= some (I.getD h 0):=TM Yd;have hE:=fO (l:=I) Yd;refine iR 42 func265 rfl rfl rfl rfl (fun h0 hwl hwn=>aA<|Zw rfl gJ rfl (fun q1=>bR<|bM [] 7 19 196400<|Za rfl<|Zaj rfl<|Zh rfl kX rfl<|Zp rfl rE rfl Mm1 rfl<|Za rfl<|Zx rfl U276 iZ rfl hts rfl G (fun b1 o1 O R hF T=>?_)));obtain rfl:O=ints (dG _):=R;refine eZ rfl U282 aL rfl rfl Yd Yd rfl bCV<|dT (o:=o1) (k:=(h:Int).toNat*1) rfl aI rfl T Yn (by rw[bAF];exact cK hg0) n3 rfl bCV<|Za rfl<|Zaj rfl<|Zh rfl kX rfl<|Zp rfl rE rfl Mm1 rfl<|Za rfl<|Zx rfl U276 iZ rfl hts rfl G (fun b2 o2 U V hH Y=>?_)
 obtain rfl:U=ints (dG _):=V;refine eZ rfl U282 aL rfl rfl Yd Yd rfl bCV<|dT (o:=o2) (k:=(h:Int).toNat*1) rfl aI rfl Y Yn (by rw[bAF];exact cK hg0) n3 rfl bCV<|Zo [qI (I.getD h 0),qI (I.getD h 0)] rfl yT gJ rfl<|Zw rfl gJ rfl (fun q2=>Zu rfl cE (bO.head)<|bW<|Za rfl<|Zaj rfl<|Zh rfl ES rfl<|Zp rfl SF rfl Mm2 rfl<|aEO (b:=mb) (es:=es) (clock:=cl) rfl U275 rfl Ye rfl bCV (fun qr=>aG ?_));refine Zar<|dB (γ:=Array Nat×Int×Int) (fun g=>(leftOf es g.1).size) (fun g=>aBM es S h (I.getD h 0) g.1 g.2.1 g.2.2) (fun g=>[(28,qP qr)]) [(5,_),(4,_),(1,_)] (fun g=>[(qr,.mapIter (some mb) cl g.1 cl),(q2,qC [qI g.2.1,qI g.2.2] 99),(q1,qC [qI 0,qI 0] 99)]++[(wb,qC [qI t.last,hv,qI t.step,lv,mv,tsv,.map (some mb)] 278),(mb,.map es cl)]) (fun g=>[D]) (#[],I.getD h 0,I.getD h 0) (aBM.start hsp (LT G) hh) ⟨Yb,bCV⟩ bA Mm5 (aE) ?_;rintro⟨seen,lo,hi⟩ hI;simp only at hI;refine aA<|aNX (b:=mb) (r:=qr) (es:=es) (clock:=cl) (A:=[]) (B:=[(_,_),(_,_),(_,_),(_,_)]) rfl rfl Ye hS.lt (aYI _) rfl bCV (fun ok vs o' hv0 hno hyes=>DM rfl rfl hv0 rfl bCV<|bR<|aW rfl (fun M=>?_) (fun M=>?_))
 ·obtain⟨e,he,rfl⟩:=hyes M;obtain⟨⟨ah,ay⟩,haS,hek,hev⟩:=hS.key (mem_left he).1;refine aZ<|Zar<|aA<|aCI (b:=mb) (r:=qr) (es:=es) (clock:=cl) (e:=e) (since:=cl) (seen:=seen) rfl rfl Ye Ye (mem_left he).1 hS.nd rfl bCV ?_;rw[hek];refine Zad rfl<|Zw rfl SS rfl (fun q3=>Zu rfl aOK (bO.head)<|aK<|Zh rfl YY rfl<|Zp rfl aI rfl Mm0 rfl<|Za rfl<|Zan rfl<|aG<|Zz rfl (fun hc2=>?_) (fun hc2=>?_))
  ·refine aX<|Zy rfl kB rfl Mm2 cE<|Zh rfl aAR rfl<|Zp rfl aI rfl Mm0 rfl<|Zc rfl (fun D1 hJ=>sM (lo,hi) ay _)<|Zu rfl cE (.tail (.tail (bO.head)))<|Zae<|Zat ?_;exact aM 14 (seen.push e.born,min lo ay,max hi ay) (hI.yes hS he hek haS hc2) (left_shrinks _ _ _ he) ⟨rfl,bCV⟩ rfl rfl (List.Sublist.cons _ Mm5) (aE)
  ·refine cB<|Zat ?_;exact aM 10 (seen.push e.born,lo,hi) (hI.no hS he hek haS hc2) (left_shrinks _ _ _ he) ⟨rfl,bCV⟩ rfl rfl (List.Sublist.cons _ Mm5) (aE)
 ·obtain⟨hz,rfl⟩:=hno M;have hfin:=hI.fin hS hsp htn hh hz;refine aT<|Zaq<|Zaq<|Zau<|Zap<|aA<|Zy rfl kB rfl Mm1 cE<|Zu rfl cE (.tail (.tail (bO.head)))<|aH ?_;exact Zac [(_,_),(_,_),(_,_)] [] [_,_] [_] rfl ⟨⟨_,_,_,rfl,List.Mem.tail _ Mm1,Or.inr ⟨kB,cE,rfl⟩⟩,bCV⟩ rfl (fun D hD=>⟨hfin,rfl⟩)
end L2
namespace L2
open L1
open C2
open C1 (iK dA uC sP)
theorem KI{wb mb t cl:Nat}{cs:List Value}{es:Array MapEntry}:∀p∈[(wb,Obj.cells cs.toArray t (0,0)),(mb,.map es cl)],dD p.2:=by
 intro p hp;simp only[GE,n3,bAO]at hp;rcases hp with rfl|rfl
 ·rfl
 ·trivial
def QZ(l:List (Int×Int)):List Value:=l.flatMap fun p=>[qI p.1,qI p.2]
theorem s9(l:List (Int×Int)):(QZ l).length=l.length*2:=by
 induction l with
 |nil=>rfl
 |cons p l ih=>unfold QZ at ih ⊢;rw[aZD,GT,ih,aXY];simp;omega
theorem AR(l m:List (Int×Int)):QZ (l++m)=QZ l++QZ m:=aYP
theorem aPC{l:List (Int×Int)}{i:Nat}{p:Int×Int}(hi:l[i]?= some p):((QZ l).drop (i*2)).take 2=[qI p.1,qI p.2]:=by
  induction l generalizing i with
  |nil=>simp at hi
  |cons d l ih=>
    have hc:QZ (d::l)=[qI d.1,qI d.2]++QZ l:=rfl;rw[hc];cases i with
    | zero => obtain rfl : d = p := by simpa using hi
              rfl
    |succ i=>
      rw[show(i+1)*2=([qI d.1,qI d.2]:List Value).length+i*2 by simp;omega,bBQ];exact ih Yap
theorem _root_.Go.Fs.mH.rgs{D:aC}{v:Value}{n:Nat}{l:List (Int×Int)}(hF:mH D v n (QZ l))(hn:l.length=n)(hb:n≤9223372036854775807):Sl D C8 2 v l:=
 hF.sl hn hb fun _i _t hi=>⟨_,rfl,rfl,aPC hi⟩
def FU(t:bD):List (Int×Int):=(List.range (t.last+1).toNat).map (wK t)
theorem QR{t:bD}{k:Nat}(h:(k:Int)=t.last+1):(List.range k).map (wK t)=FU t:=by unfold FU;rw[show(t.last+1).toNat=k by omega]
theorem aFU(s:List Int):(dG s).take s.length=s:=by unfold dG;rw[bBW]
def uS(s:List Int)(level:Int)(k:Nat):List Int:=((List.range k).filter fun j=>decide (level<s.getD j 0)).map fun j:Nat=>(j:Int)
theorem UQ(s:List Int)(level:Int)(k:Nat):(uS s level k).length≤k:=by
 unfold uS;rw[aZL];have:=bAS (fun j=>decide (level<s.getD j 0)) (List.range k);rwa [List.length_range]at this
theorem aPA{s:List Int}{level x:Int}{k:Nat}(hx:s[k]?= some x)(h:level<x):uS s level (k+1)=uS s level k++[(k:Int)]:=by
 unfold uS;rw[aZR,bAQ,aYE,bBJ,aYJ (by rw[aZQ,hx];simpa using h)];rfl
theorem aRN{s:List Int}{level x:Int}{k:Nat}(hx:s[k]?= some x)(h:¬level<x):uS s level (k+1)=uS s level k:=by
 unfold uS;rw[aZR,bAQ,aYE,bBJ,aYC (by rw[aZQ,hx];simpa using h)];simp
theorem m2(s:List Int)(level:Int):∃m:Nat,wD s level=(m:Int)∧m≤s.length∧(∀j,j<m→s.getD j 0≤level)∧(m<s.length→level<s.getD m 0):=by
 refine⟨(s.takeWhile fun n=>decide (n≤level)).length,rfl,?_⟩;induction s with
 |nil=>exact⟨by simp,fun j h=>by simp at h,fun h=>by simp at h⟩
 |cons a s ih=>
  obtain⟨h1,h2,h3⟩:=ih;by_cases h:a≤level
  ·rw[List.takeWhile_cons,aYJ Yar,aXY,aXY];refine⟨by omega,fun j hj=>?_,fun hj=>?_⟩
   ·cases j with
    |zero=>simpa using h
    |succ j=>simpa using h2 j Yd
   ·simpa using h3 Yd
  ·rw[List.takeWhile_cons,aYC Yar];exact⟨by simp,fun j hj=>by simp at hj,fun _=>by simp;omega⟩
theorem ME{s:List Int}{level:Int}{m:Nat}(h1:m<s.length)(h2:∀j,j<m→s.getD j 0≤level)(h3:level<s.getD m 0):(uS s level s.length)[0]?= some (m:Int):=by
 unfold uS;obtain⟨n,hn⟩:∃n,s.length=m+(n+1):=⟨s.length-m-1,by omega⟩
 rw[hn,List.range_add,bAQ,List.filter_eq_nil_iff.2 (fun j hj=>by have:=h2 j (by simpa using hj);simpa using this),aYT,List.range_succ_eq_map,aYN,bBJ,aYJ (by simpa using h3)];simp
theorem aEF{s:List Int}{level:Int}(h:0<(uS s level s.length).length):(uS s level s.length)[(0:Int).toNat]?= some (wD s level):=by
 obtain⟨m,hm,h1,h2,h3⟩:=m2 s level;rw[hm];by_cases hlt:m<s.length
 ·exact ME hlt h2 (h3 hlt)
 ·exfalso
  obtain rfl:m=s.length:=by omega
  unfold uS at h;rw[List.filter_eq_nil_iff.2 (fun j hj=>by have:=h2 j (by simpa using hj);simpa using this)]at h
  simp at h
theorem aNC{s:List Int}{level:Int}(h:¬0<(uS s level s.length).length):wD s level=(s.length:Int):=by
 obtain⟨m,hm,h1,h2,h3⟩:=m2 s level;by_cases hlt:m<s.length
 ·exfalso
  have:=ME hlt h2 (h3 hlt);have:=(aXZ.1 this).1;omega
 ·rw[hm,show m=s.length by omega]
theorem vA(tv:Value)(t:bD)(D:aC)(ht:hG D tv t):Fn prog 199 #[tv] D (fun D' v=>∃lv,v=.tuple #[lv,qI (nP t true)]∧Sl D' C8 2 lv (if nP t true=0 then FU t else [])):=by
 have ht0:=ht;obtain⟨hv,lv,mv,rfl,hh,hl,hm⟩:=ht;refine enter 30 func199 rfl rfl rfl rfl fun h0=>aA<|Zv rfl (fun q1 E1 hM M=>Zj rfl<|Zj rfl<|aK<|Zs rfl gY rfl M eW<|fM rfl rfl rfl (fun D2 V=>vL _ t true _ (ht0.up (V _ Ye))) rfl bCV (fun v2 D3 ν2 hN Y=>?_))
 obtain⟨wv,rfl,hwk⟩:=Y;refine Za rfl<|Zad rfl<|Zad rfl<|Zj rfl<|Zj rfl<|bW<|Za rfl<|Zam rfl<|aG<|Zz rfl (fun O=>?_) (fun O=>?_)
 ·refine aA<|Za rfl<|Zj rfl<|Zj rfl<|aH<|Zas ?_;exact jK (vs:=[_,_]) rfl rfl rfl bA (fun D hD=>⟨_,rfl,by rw[aYC O];exact Sl.nil⟩)
 ·have G:nP t true=0:=by omega
  obtain⟨hto,htn,wb,mb,R,T,U,tsv,es,cl,S,rfl,rfl,htw,hts,hS,hsp⟩:=hwk G;have hlast:=hto.last;refine aZ<|aA<|Zj rfl<|bW<|Zh rfl jU rfl<|Zf 0 rfl aI rfl M rfl<|Zaa rfl<|Za rfl<|aG<|Zar<|dB (γ:=Nat×Value×aD) (fun g=>(t.last+1).toNat-g.1) (fun g=>(g.1:Int)≤t.last+1∧bZ 99 2 g.2.1 g.1 (QZ ((List.range g.1).map (wK t))) g.2.2) (fun g=>[(19,qI (g.1:Int)),(6,g.2.1)]) [(18,_),(4,_),(3,_),(2,_)] (fun g=>g.2.2++[(wb,qC [qI t.last,R,qI t.step,T,U,tsv,.map (some mb)] 278),(mb,.map es cl)]) (fun g=>[D3,E1,D]) (0,qN,[]) ⟨by simp;omega,by simpa [QZ]using bZ.nil⟩ ⟨Yb,Yb,bCV⟩ bA Mm5 (aE) ?_
  rintro⟨k,v,ν⟩ ⟨h1,ha⟩;simp only at h1 ha;refine aA<|Zai rfl<|bR<|Zz rfl (fun hc2=>?_) (fun hc2=>?_)
  ·have hk:(k:Int)≤t.last:=by simp only at hc2;omega
   refine aZ<|aO<|Zar<|aA<|Za rfl<|Zj rfl<|aG<|aX<|Za rfl<|Za rfl<|Za rfl<|AY (A:=ν) (ν:=[(_,_),(_,_)]) rfl rfl rfl rfl (aYF rfl) (KI (cs:=[_,_,_,_,_,_,_])) (fun D5 Z=>JZ t wb mb R T U tsv es cl S k _ (hts.up BC.up (Z _ Ye)) htn hto hS hsp Yd) rfl bCV (fun v5 D6 _ hO hB=>?_);obtain⟨rfl,rfl⟩:=hB;refine Zn rfl U29 cE gJ rfl (.cons rfl rfl .nil) (fun hJ hK hE I=>bE (A:=[]) (B:=[(_,_),(_,_)]) rfl U29 rfl rfl cE gJ rfl AK rfl rfl rfl ha (mK.lit I) Ye rfl (by rw[s9];simp) Yj Yd (aYF rfl) rfl bCV (fun v1 ν1 hF=>?_))
   have hH:bZ 99 2 v1 (k+1) (QZ ((List.range (k+1)).map (wK t))) ν1:=by rw[aZR,aYE,AR];exact hF
   refine Zj rfl<|Zae<|Zat<|Zap<|aX<|Zaa rfl<|Za rfl<|Zae ?_;exact aM 14 (k+1,v1,ν1) ⟨by simp only;omega,hH⟩ Yo ⟨Yb,rfl,bCV⟩ rfl rfl Mm5 (fun D h=>⟨D,aYK _ (aYK _ (h)),Le.refl D⟩)
  ·have hk:(k:Int)=t.last+1:=by simp only at hc2 h1;omega
   refine aT<|Zaq<|Zaq<|Zau<|Zap<|aA<|Za rfl<|Zj rfl<|Zj rfl<|aH<|gR (A:=[]) (B:=[(_,_),(_,_)]) ha rfl (fun D8 hR hI=>?_);exact jK (vs:=[_,_]) rfl rfl rfl bA (fun D hD=>⟨_,by rw[G];rfl,by rw[aYJ G];exact(QR Yd▸hI.rgs Ye Yd).up C8.up (hD _ Ye)⟩)
theorem aUI(last step:Int)(hv lv mv:Value)(s:List Int)(level:Int)(D:aC)(hs:(s.length:Int)=last+1)(O:s.length≤10):
  Fn prog 141 #[.agg #[qI last,hv,qI step,lv,mv],.agg (ints (dG s)).toArray,qI level] D (fun D' v=>Sl D' RI 1 v (uS s level s.length)):=by
 have M:=fO O;refine enter 28 func141 rfl rfl rfl rfl fun h0=>aA<|Zv rfl (fun q1 E1 hH R=>Zv rfl (fun q2 E2 hI T=>Zj rfl<|bR<|aO ?_))
 have hsl:Sl E2 RI 1 (qS q2 s.length 10) s:=by have h:=UK (l:=0) (h:=s.length) T M Yd Yd Yd;rw[bBF,bAX,bAX]at h;rw[aFU]at h;exact h
 refine aX<|Zh rfl jU rfl<|Zf 0 rfl aI rfl R rfl<|Zaa rfl<|aGI (h:=s.length) rfl U282 aL rfl rfl Yd Yd rfl bCV<|kK rfl U25 rfl rfl rfl bCV<|Za rfl<|aG<|Zar<|dB (γ:=Nat×Value×aD) (fun g=>s.length-g.1) (fun g=>g.1≤s.length∧bZ 3 1 g.2.1 (uS s level g.1).length (ints (uS s level g.1)) g.2.2) (fun g=>[(14,qI (g.1:Int)),(6,g.2.1)]) [(13,_),(12,_),(2,_)] (fun g=>g.2.2++[]) (fun g=>[E2,E1,D]) (0,qN,[]) ⟨by simp,by simpa [ints,uS]using bZ.nil⟩ ⟨Yb,Yb,bCV⟩ bA Mm5 (aE) ?_;rintro⟨k,v,ν⟩ ⟨h1,ha⟩;simp only at h1 ha;refine aA<|Zai rfl<|bR<|Zz rfl (fun I=>?_) (fun I=>?_)
 ·have hk:k<s.length:=by simp only at I;omega
  obtain⟨x,hx⟩:=dX s k;have hwl:=UQ s level k;refine aZ<|aO<|Zar<|aA<|Za rfl<|lH rfl hsl rfl hx (fun b1 o1=>Zj rfl<|Zj rfl<|aK<|Za rfl<|Za rfl<|iH rfl rfl rfl rfl bCV ?_);refine aG<|Zz rfl (fun hc2=>?_) (fun hc2=>?_)
  ·refine aX<|Za rfl<|Za rfl<|Zn rfl U25 aL dR rfl (.cons rfl rfl .nil) (fun hB hE U G=>?_);have V:=Sl.ofInts (l:=[_]) (n:=1) (cap:=1) G rfl Yd Yd;refine bE (A:=[]) (B:=_) rfl U25 rfl rfl aL dR rfl nV rfl rfl rfl ha (mK.lit G) Ye rfl (by simp[ints]) Yj Yd (aYF rfl) rfl bCV (fun v1 ν1 Y=>?_);have Z:bZ 3 1 v1 (uS s level (k+1)).length (ints (uS s level (k+1))) ν1:=by rw[aPA hx hc2,GT,←gS];exact Y
   refine Zj rfl<|Zae<|Zat<|Zap<|aX<|Zaa rfl<|Za rfl<|Zae ?_;exact aM 18 (k+1,v1,ν1) ⟨by simp only;omega,Z⟩ Yo ⟨Yb,rfl,bCV⟩ rfl rfl Mm5 (fun D h=>⟨D,aYK _ (h),Le.refl D⟩)
  ·refine cB<|Zat<|Zap<|aX<|Zaa rfl<|Za rfl<|Zae ?_;exact aM 13 (k+1,v,ν) ⟨by simp only;omega,by rw[aRN hx hc2];exact ha⟩ Yo ⟨Yb,rfl,bCV⟩ rfl rfl Mm5 (aE)
 ·obtain rfl:k=s.length:=by simp only at I;omega
  have hwl:=UQ s level s.length;refine aT<|Zaq<|Zaq<|Zau<|Zap<|aA<|Za rfl<|Zj rfl<|aH<|gR (A:=[]) (B:=[]) ha rfl (fun D8 hJ hF=>?_);exact aF rfl (fun D hD=>(hF.ints Ye Yd).up RI.up (hD _ Ye))
theorem OF(t:bD)(wb mb:Nat)(hv lv mv tsv:Value)(es:Array MapEntry)(cl:Nat)(s:List Int)(level y:Int)(D:aC)(hs:(s.length:Int)=t.last+1)(G:s.length≤10):
  BA prog 82 [qP wb,.agg (ints (dG s)).toArray,qI level,qI y] D [(wb,qC [qI t.last,hv,qI t.step,lv,mv,tsv,.map (some mb)] 278),(mb,.map es cl)] (fun _ v ν'=>v=qI (wD s level)∧ν'=[(wb,qC [qI t.last,hv,qI t.step,lv,mv,tsv,.map (some mb)] 278),(mb,.map es cl)]):=by
 have V:=fO G;refine iR 29 func82 rfl rfl rfl rfl (fun h0 hwl hwn=>aA<|Zv rfl (fun q1 E1 Y M=>Zj rfl<|bR<|aO<|bM [] 4 8 48<|Za rfl<|Zaj rfl<|Zh rfl CN rfl<|eE (us:=[qI t.last,hv,qI t.step,lv,mv]) rfl gY eW rfl Mm0 Yav rfl n3 rfl bCV<|dL rfl nL rfl M Yc Yaa n3 rfl bCV ?_));refine Za rfl<|Zt rfl (fun Z O=>aUI t.last t.step hv lv mv s level _ hs G) (fun v1 Z O I=>Zj rfl<|aK<|Za rfl<|Zab rfl U25 rfl I rfl<|iH rfl rfl rfl rfl bCV<|aG<|Zz rfl (fun R=>?_) (fun R=>?_))
 ·have T:=aEF (s:=s) (level:=level) Yd;refine aA<|Za rfl<|lH rfl I rfl T (fun b1 o1=>Zj rfl<|aH<|Zas ?_);exact Zac [] [] [_,_] [_] rfl ⟨rfl,bCV⟩ rfl (fun D hD=>⟨rfl,rfl⟩)
 ·have U:=aNC (s:=s) (level:=level) Yd;refine aZ<|aA<|Za rfl<|Zaj rfl<|Zh rfl CN rfl<|Zh rfl jU rfl<|Zp rfl aI rfl Mm0 rfl<|Zaa rfl<|Zj rfl<|aH ?_;exact Zac [] [] [_,_] [_] rfl ⟨rfl,bCV⟩ rfl (fun D hD=>⟨by show Value.int _ _=_;rw[U,hs],rfl⟩)
theorem aTK(t:bD)(wb mb:Nat)(hv lv mv tsv:Value)(es:Array MapEntry)(cl:Nat)(s:List Int)(a b:Int)(D:aC)(hs:(s.length:Int)=t.last+1)(M:s.length≤10)(G:0≤a)(hab:a≤b)(hbl:b≤t.last):
  BA prog 85 [qP wb,.agg (ints (dG s)).toArray,qI a,qI b] D [(wb,qC [qI t.last,hv,qI t.step,lv,mv,tsv,.map (some mb)] 278),(mb,.map es cl)] (fun _ v ν'=>v=qI (mG s a b)∧ν'=[(wb,qC [qI t.last,hv,qI t.step,lv,mv,tsv,.map (some mb)] 278),(mb,.map es cl)]):=by
 have I:=fO M;refine iR 13 func85 rfl rfl rfl rfl (fun h0 hwl hwn=>aA<|Zv rfl (fun U V R O=>Zj rfl<|aK<|dL rfl nL rfl O Yc Yaa n3 rfl bCV<|Za rfl<|Za rfl<|Zc rfl (fun Y T=>j3 (dG s) a b _ I G hab Yd)<|Zj rfl<|aH ?_));exact Zac [] [] [_,_] [_] rfl ⟨rfl,bCV⟩ rfl (fun D hD=>⟨by show Value.int _ _=_;rw[xW G hab Yd],rfl⟩)
end L2
namespace L2
open L1
open C2
open C1 (iK dA uC sP)
def PC(F:List Int→Int)(n:Int)(l:List (List Int)):Int×Int:=l.foldl (fun p s=>(min p.1 (F s),max p.2 (F s))) (n,n)
theorem aDX{t:bD}{F:List Int→Int}{n:Int}{k:Nat}{u:List Int}(hx:(bU t)[k]?= some u):PC F n ((bU t).take (k+1))=(min (PC F n ((bU t).take k)).1 (F u),max (PC F n ((bU t).take k)).2 (F u)):=by
 unfold PC;rw[aYG,hx,aZM];rfl
theorem LU(F:List Int→Int):∀(l:List (List Int)) (p:Int×Int),l.foldl (fun p s=>(min p.1 (F s),max p.2 (F s))) p=((l.map F).foldl min p.1,(l.map F).foldl max p.2)
 | [],_=>rfl
 |s::l,p=>by rw[aZY,LU F l];rfl
theorem aKZ{t:bD}{F:List Int→Int}{I:List Int}{lo hi:Int}(G:(bU t)[0]?= some I)(h:(lo,hi)=PC F (F I) (bU t)):lJ (lo,hi)=lJ (uC ((bU t).map F),sP ((bU t).map F)):=by
 rw[h];cases ht:bU t with
 |nil=>rw[ht]at G;simp at G
 |cons a l=>
  rw[ht]at G;obtain rfl:a=I:=by simpa using G
  unfold PC;rw[LU,aYN,aZY,aZY,Int.min_self,Int.max_self];rfl
theorem J9{t:bD}{fine:Bool}(h:nP t fine=0):fine=true:=by
 unfold nP at h;split at h
 ·rename_i hf;exact absurd h hf
 ·split at h
  ·omega
  ·rename_i hf;simpa using hf
theorem NX{last a b:Int}(h:sG last a b=true):0≤a∧a≤b∧b≤last:=by
 unfold sG DZ at h;simp only[aYB,aYM,dA]at h;omega
theorem AX(t:bD)(wb mb:Nat)(hv lv mv tsv:Value)(es:Array MapEntry)(cl:Nat)(F:List Int→Int)(fid:Nat)(x y:Int)(D:aC)(hts:Sl D BC 10 tsv (bU t))(htn:bU t≠[])(hto:IN t)
  (hf:∀s∈bU t,∀D',Le D D'→BA prog fid [qP wb,.agg (ints (dG s)).toArray,qI x,qI y] D' [(wb,qC [qI t.last,hv,qI t.step,lv,mv,tsv,.map (some mb)] 278),(mb,.map es cl)] (fun _ v ν'=>v=qI (F s)∧ν'=[(wb,qC [qI t.last,hv,qI t.step,lv,mv,tsv,.map (some mb)] 278),(mb,.map es cl)])):
  BA prog 83 [.agg #[.func (.func fid) #[] #[]],qP wb,qI x,qI y] D [(wb,qC [qI t.last,hv,qI t.step,lv,mv,tsv,.map (some mb)] 278),(mb,.map es cl)] (fun _ v ν'=>v=lJ (uC ((bU t).map F),sP ((bU t).map F))∧ν'=[(wb,qC [qI t.last,hv,qI t.step,lv,mv,tsv,.map (some mb)] 278),(mb,.map es cl)]):=by
 have hll:=hts.len;have hlast:=hto.last;have hK:=hto.len;obtain⟨G,I⟩:∃s,(bU t)[0]?= some s:=⟨(bU t)[0]'(bAU.2 htn),aXT _⟩
 have hs0m:=LT I;have hM:=oX hto hs0m;have R:=fO (l:=G) Yd;refine iR 48 func83 rfl rfl rfl rfl (fun h0 hwl hwn=>aA<|Zv rfl (fun q1 E1 hS M=>Zw rfl gJ rfl (fun q2=>bR<|bM [] 6 13 2044<|Zh rfl ER rfl<|Zf 0 rfl UZ rfl M rfl<|Za rfl<|Za rfl<|Zaj rfl<|Zh rfl kX rfl ?_)));refine Zp rfl rE rfl Mm1 rfl<|Zx rfl U276 iZ rfl hts rfl I (fun b1 o1 T U hN V=>?_);obtain rfl:T=ints (dG _):=U;refine dL rfl nL rfl V Yc (by first|exact iZ|(simp only[*];exact iZ)) n3 rfl bCV<|Za rfl<|Za rfl<|AY (A:=[(_,_)]) (ν:=[(_,_),(_,_)]) rfl rfl rfl rfl Yay (KI (cs:=[_,_,_,_,_,_,_])) (fun D5 Y=>hf G hs0m _ (Y _ Ye)) rfl bCV (fun v5 D6 _ hX Z=>?_)
 obtain⟨rfl,rfl⟩:=Z;refine Zj rfl<|aK<|Za rfl<|Za rfl<|Zo [qI (F G),qI (F G)] rfl yT gJ rfl<|Zw rfl gJ rfl (fun q3=>Zu rfl cE (bO.head)<|bW<|Za rfl<|Zaj rfl<|Zh rfl kX rfl<|Zp rfl rE rfl Mm2 rfl ?_);refine Zab rfl U276 rfl hts rfl<|Za rfl<|aG<|Zar<|dB (γ:=Nat×Int×Int) (fun g=>(bU t).length-g.1) (fun g=>g.1≤(bU t).length∧g.2=PC F (F G) ((bU t).take g.1)) (fun g=>[(33,qI (g.1:Int))]) [(32,_),(31,_),(10,_),(8,_),(4,_),(1,_),(2,_),(3,_)] (fun g=>[(q3,qC [qI g.2.1,qI g.2.2] 99),(q2,qC [qI 0,qI 0] 99)]++[(wb,qC [qI t.last,hv,qI t.step,lv,mv,tsv,.map (some mb)] 278),(mb,.map es cl)]) (fun g=>[D6,E1,D]) (0,F G,F G) ⟨by simp,rfl⟩ ⟨Yb,bCV⟩ bA Mm5 (aE) ?_;rintro⟨k,lo,hi⟩ ⟨h1,hI⟩;simp only at h1 hI;refine aA<|Zai rfl<|bR<|Zz rfl (fun O=>?_) (fun O=>?_)
 ·have hk:k<(bU t).length:=by simp only at O;omega
  obtain⟨u,hx⟩:=dX (bU t) k;have hum:=LT hx;have hul:=oX hto hum;have hO:=fO (l:=u) Yd;refine aZ<|aO<|Zar<|aA<|Zx rfl U276 iZ rfl hts rfl hx (fun b2 o2 hB hE hR hF=>?_);obtain rfl:hB=ints (dG _):=hE;refine dL rfl nL rfl hF Yc (by first|exact iZ|(simp only[*];exact iZ)) n3 rfl bCV<|Zw rfl K7 rfl (fun q4=>aV rfl rfl rfl rfl iZ Yak Ya (bO.head) Yh bCV<|aG<|lG M Ye (fun hq1k=>?_))
  have hY:q1∉[wb,mb]:=fun h=>hq1k (LE _ (LE _ (LE _ h)))
  refine xP (fun hnd=>?_);simp only[aYN,bBM,aZI,GE,n3,bAO,not_or,aZV,aYT]at hnd;have rA:q3∉[wb,mb]:=by simp only[GE,n3,bAO,not_or];exact⟨hnd.2.1.2.1,hnd.2.1.2.2⟩
  have rB:q4∉[wb,mb]:=by simp only[GE,n3,bAO,not_or];exact⟨hnd.1.2.2.1,hnd.1.2.2.2⟩
  refine lR [wb,mb] 3 [0,1,2,3,4,5,6,7,8,9] [false,true,true,true,true,true,true,true,false,false] [(false,0),(true,1),(true,2),(true,3),(true,4),(true,5),(true,6),(true,7),(false,8),(false,9)] bI (fun _ _ _ h=>jF (P:=prog) (fn:=f83) _ _ _ h) Yf rfl<|bT rfl kB rfl Mm1 cE Yn rfl bCV<|Zh rfl ER rfl<|dT rfl (k:=0) UZ rfl M Yc rfl Yn rfl bCV<|Za rfl<|bT rfl nL rfl Mm0 (by first|exact iZ|(simp only[*];exact iZ)) Yn rfl bCV<|Za rfl<|Za rfl<|AY (A:=[(_,_),(_,_),(_,_)]) (ν:=[(_,_),(_,_)]) rfl rfl rfl rfl Yay (KI (cs:=[_,_,_,_,_,_,_])) (fun D7 hH=>hf u hum _ (hH _ Ye)) rfl bCV (fun v7 D8 _ hD8 hJ=>?_);obtain⟨rfl,rfl⟩:=hJ;refine Zc rfl (fun D1 hD1=>sM (lo,hi) (F u) _)<|Zu rfl cE (.tail (bO.head))<|Zae<|Zat<|Zap<|aX<|Zaa rfl<|Za rfl<|Zae ?_;exact aM 16 (k+1,min lo (F u),max hi (F u)) ⟨by simp only;omega,by rw[aDX hx,←hI]⟩ Yo ⟨Yb,bCV⟩ rfl rfl (List.Sublist.cons _ Mm5) (fun D h=>⟨D,aYK _ (h),Le.refl D⟩)
 ·obtain rfl:k=(bU t).length:=by simp only at O;omega
  rw[aZB]at hI;have hfin:=aKZ I hI;refine aT<|Zaq<|Zaq<|Zau<|Zap<|aA<|Zy rfl kB rfl Mm0 cE<|Zu rfl cE (.tail (bO.head))<|aH ?_;exact Zac [(_,_),(_,_)] [] [_,_] [_] rfl ⟨⟨_,_,_,rfl,List.Mem.tail _ Mm0,Or.inr ⟨kB,cE,rfl⟩⟩,bCV⟩ rfl (fun D hD=>⟨hfin,rfl⟩)
theorem aFJ(tv:Value)(t:bD)(row:Int)(D:aC)(ht:hG D tv t):Fn prog 46 #[tv,qI row] D (fun _ v=>v=.tuple #[lJ (if nP t (iK row 0 ((t.levels.length:Int)-1))=0 then aGJ t (t.levels.getD row.toNat 0)else(0,0)),qI (nP t (iK row 0 ((t.levels.length:Int)-1)))]):=by
 have ht0:=ht;obtain⟨hv,lv,mv,rfl,hh,hl,hm⟩:=ht;refine enter 28 func46 rfl rfl rfl rfl fun h0=>aA<|Zv rfl (fun q1 E1 hE I=>Zw rfl gJ rfl (fun q2=>Zj rfl<|bR<|bM [] 4 10 398<|Zs rfl gY rfl I eW<|Zs rfl gY rfl I eW<|Za rfl<|Zc rfl (fun D1 U=>aUY _ t row _ (ht0.up (U _ Ye)))<|fM rfl rfl rfl (fun D3 V=>vL _ t (iK row 0 ((t.levels.length:Int)-1)) _ (ht0.up (V _ Ye))) rfl bCV (fun v3 D4 ν3 hF Y=>?_)))
 obtain⟨wv,rfl,hwk⟩:=Y;refine Za rfl<|Zad rfl<|Zad rfl<|Zj rfl<|Zj rfl<|bW<|Za rfl<|Zam rfl<|aG<|Zz rfl (fun M=>?_) (fun M=>?_)
 ·refine aA<|Zo [qI 0,qI 0] rfl yT gJ rfl<|Za rfl<|Zu rfl cE (.app (bO.head))<|Zj rfl<|aH<|Zas ?_;exact Zl [_,_] rfl ⟨⟨_,_,_,rfl,(n5 _ Mm0),Or.inr ⟨kB,(by first|exact cE|(simp only[aYU,aN, *];exact cE)),rfl⟩⟩,rfl,bCV⟩ (fun D hD=>by show Value.tuple _=_;rw[aYC M];rfl)
 ·have G:nP t (iK row 0 ((t.levels.length:Int)-1))=0:=by omega
  obtain⟨hto,htn,wb,mb,O,R,T,tsv,es,cl,S,rfl,rfl,htw,hts,hS,hsp⟩:=hwk G;have hrow:=J9 G;rw[dA]at hrow;have hlev:t.levels[row.toNat]?= some (t.levels.getD row.toNat 0):=by rw[aZQ,aXT Yd];rfl
  refine aZ<|aA<|Zo [.func (.func 82) #[] #[]] rfl UL VL rfl<|Za rfl<|Zh rfl jJ rfl<|Zf 3 rfl dS rfl I rfl<|Za rfl<|lH rfl hl rfl hlev (fun b1 o1=>fJ (A:=[]) (ν:=[(_,_),(_,_)]) (B:=[(_,_)]) rfl rfl rfl rfl Yay (KI (cs:=[_,_,_,_,_,_,_])) (fun D7 Z=>AX t wb mb O R T tsv es cl (wD · (t.levels.getD row.toNat 0)) _ _ _ _ (hts.up BC.up (Z _ Ye)) htn hto (fun s hsm D' hD'=>OF t wb mb O R T tsv es cl s _ _ D' (by have:=oX hto hsm;have:=hto.len;omega) (by have:=oX hto hsm;have:=hto.len10;omega))) rfl bCV (fun v7 D8 _ hH hB=>?_));obtain⟨rfl,rfl⟩:=hB;refine Zu rfl cE (.tail (.tail (bO.head)))<|Zj rfl<|aH ?_;exact Zl [_,_] rfl ⟨⟨_,_,_,rfl,Mm2,Or.inr ⟨kB,(by first|exact cE|(simp only[aYU,aN, *];exact cE)),rfl⟩⟩,rfl,bCV⟩ (fun D hD=>by show Value.tuple _=_;rw[aYJ G,G];rfl)
theorem aTL(tv:Value)(t:bD)(a b:Int)(D:aC)(ht:hG D tv t):Fn prog 47 #[tv,qI a,qI b] D (fun _ v=>v=.tuple #[qI (if nP t (sG t.last a b)=0 then aWI t a b else 0),qI (nP t (sG t.last a b))]):=by
 have ht0:=ht;obtain⟨hv,lv,mv,rfl,hh,hl,hm⟩:=ht;refine enter 28 func47 rfl rfl rfl rfl fun h0=>aA<|Zv rfl (fun q1 E1 hE I=>Zj rfl<|Zj rfl<|bR<|bM [] 4 11 798<|Zs rfl gY rfl I eW<|Zs rfl gY rfl I eW<|Za rfl<|Za rfl<|Zc rfl (fun D1 U=>JF _ t a b _ (ht0.up (U _ Ye))) ?_);refine fM rfl rfl rfl (fun D3 V=>vL _ t (sG t.last a b) _ (ht0.up (V _ Ye))) rfl bCV (fun v3 D4 ν3 hF Y=>?_)
 obtain⟨wv,rfl,hwk⟩:=Y;refine Za rfl<|Zad rfl<|Zad rfl<|Zj rfl<|Zj rfl<|bW<|Za rfl<|Zam rfl<|aG<|Zz rfl (fun M=>?_) (fun M=>?_)
 ·refine aA<|Za rfl<|Zj rfl<|Zj rfl<|aH<|Zas ?_;exact jK (vs:=[_,_]) rfl rfl rfl bA (fun D hD=>by show Value.tuple _=_;rw[aYC M])
 ·have G:nP t (sG t.last a b)=0:=by omega
  obtain⟨hto,htn,wb,mb,O,R,T,tsv,es,cl,S,rfl,rfl,htw,hts,hS,hsp⟩:=hwk G;have hrow:=NX (J9 G);refine aZ<|aA<|Zo [.func (.func 85) #[] #[]] rfl UL VL rfl<|Za rfl<|Za rfl<|Za rfl<|fJ (A:=[]) (ν:=[(_,_),(_,_)]) (B:=[]) rfl rfl rfl rfl Yay (KI (cs:=[_,_,_,_,_,_,_])) (fun D7 Z=>AX t wb mb O R T tsv es cl (mG · a b) _ _ _ _ (hts.up BC.up (Z _ Ye)) htn hto (fun s hsm D' hD'=>aTK t wb mb O R T tsv es cl s _ _ D' (by have:=oX hto hsm;have:=hto.len;omega) (by have:=oX hto hsm;have:=hto.len10;omega) hrow.1 hrow.2.1 hrow.2.2)) rfl bCV (fun v7 D8 _ hH hB=>?_)
  obtain⟨rfl,rfl⟩:=hB;refine aPB rfl U99 rfl aI rfl rfl rfl bCV<|Zj rfl<|Zj rfl<|aH ?_;exact jK (vs:=[_,_]) rfl rfl rfl bA (fun D hD=>by show Value.tuple _=_;rw[aYJ G,G];rfl)
end L2
open Go.Proofs
namespace L3
open L1
open C1
end L3
namespace L3
open L1
open C3
def OO(lo:Int)(k:Nat):List Int:=(List.range k).map fun i:Nat=>lo+(i:Int)
theorem aIF{s n lo hi:Int}(h:s≠n):fF s n lo hi=[s]:=by unfold fF;rw[aYJ h]
theorem aIE{s n lo hi:Int}(h:¬s≠n):fF s n lo hi=OO lo (hi+1-lo).toNat:=by unfold fF;rw[aYC h];rfl
theorem kM(n lo hi:Int)(D:aC):Fn prog 92 #[qI n,qI lo,qI hi] D (fun _ v=>v=.bool (C1.iK n lo hi)):=by
 refine enter 15 func92 rfl rfl rfl rfl fun h0=>aA<|Zj rfl<|aK<|Za rfl<|Za rfl<|mL rfl rfl rfl rfl bCV<|Za rfl ?_
 refine' dM 4 (s:=10) (p:=14) rfl (fun G=>?_) (fun G=>?_) ?_;rotate_left
 ·refine Zb rfl<|Zb rfl<|mL rfl rfl rfl rfl ⟨_,rfl,rfl⟩<|Zag rfl ?_;exact aR 3
 ·refine Zk rfl<|Zk rfl<|Zk rfl<|Zah rfl ?_;exact aR 3
 refine Zj rfl<|aH ?_;exact aF rfl (fun D hD=>rfl)
theorem yM(sv:Value)(x:Int)(xs:List Int)(D:aC)(hS:Sl D RI 1 sv (x::xs)):
  Fn prog 149 #[sv] D (fun _ v=>v=qI (xs.foldl min x)):=by
 refine enter 5 func149 rfl rfl rfl rfl fun h0=>aA<|Zj rfl<|aK<|Za rfl<|Zc rfl (fun I G=>AZ _ x xs _ (Sl.at RI.up G Ym Ye))<|Zj rfl<|aH ?_
 exact aF rfl (fun D hD=>rfl)
theorem aNP(r:Int×Int)(n:Int)(D:aC):Fn prog 281 #[lJ r,qI n] D (fun _ v=>v=.bool (C1.iK n r.1 r.2)):=by
 refine enter 11 func281 rfl rfl rfl rfl fun h0=>aA<|Zv rfl (fun O R I G=>Zj rfl<|aK<|Za rfl<|Zh rfl uW rfl<|Zf 0 rfl aI rfl G rfl<|Zh rfl vF rfl<|Zf 1 rfl aI rfl G rfl<|Zc rfl (fun T M=>kM _ _ _ _)<|Zj rfl ?_);refine aH ?_
 exact aF rfl (fun D hD=>rfl)
theorem DS(r:Int×Int)(n:Int)(D:aC):Fn prog 155 #[lJ r,qI n] D (fun _ v=>v=lJ (min r.1 n,max r.2 n)):=by
 refine enter 15 func155 rfl rfl rfl rfl fun h0=>aA<|Zv rfl (fun Y Z V M=>Zw rfl mO rfl (fun q2=>bR<|lR [] 4 [0,1,2,5,6,7,8,3,4,9,10] [false,false,true,true,true,true,true,true,true,false,false] [(false,0),(false,1),(true,2),(true,5),(true,6),(true,7),(true,8),(true,3),(true,4),(false,9),(false,10)] bI (fun _ _ _ h=>iO (P:=prog) (fn:=f155) _ _ _ h) Yf rfl<|Zh rfl uW rfl<|Zf 0 rfl aI rfl M rfl<|Za rfl<|Zh rfl vF rfl<|Zf 1 rfl aI rfl M rfl<|Za rfl ?_));refine tZ rfl rfl rfl rfl bCV<|Zn rfl U25 aL dR rfl (.cons rfl rfl (.cons rfl rfl .nil)) (fun T U O G=>?_)
 have I:=Sl.ofInts (l:=[_,_]) (n:=2) (cap:=2) G rfl Yd Yd;refine Zc rfl (fun D1 R=>yM _ r.1 [n] _ (I.up RI.up (R _ Ye)))<|Zo [qI (min r.1 n),qI (max r.2 n)] rfl T5 mO rfl<|Zu rfl eA (bO.head)<|aH ?_;exact Zl [_] rfl ⟨⟨_,_,_,rfl,Mm0,Or.inr ⟨mP,(by first|exact eA|(simp only[aYU,aN, *];exact eA)),rfl⟩⟩,bCV⟩ (fun D hD=>rfl)
theorem BZ(sv fv:Value)(xs:List gM)(p:gM→Bool)(D:aC)(hS:Sl D oB 3 sv xs)(hp:cY prog D JN fv p):
  Fn prog 278 #[sv,fv] D (fun _ v=>v=qI (idxOf p xs)):=by
 have hl:=hS.len;obtain⟨f,c1,c2,rfl,hf⟩:=hp;refine enter 19 func278 rfl rfl rfl rfl fun h0=>aA<|Zj rfl<|bW<|Za rfl<|dH rfl U33 rfl Ym rfl rfl bCV<|Za rfl<|aG<|Zar<|bP (γ:=Nat) (fun k=>xs.length-k) (fun k=>k≤xs.length∧(xs.take k).any p=false) (fun k=>[(8,qI k)]) [(7,_),(4,_),(0,_),(1,_)] (fun k=>[D]) 0 Ye ⟨Yb,bCV⟩ bA (aE) ?_
 rintro k ⟨h1,h2⟩;refine aA<|Zai rfl<|bR<|Zz rfl (fun G=>?_) (fun G=>?_)
 ·have hk:k<xs.length:=by omega
  obtain⟨x,hx⟩:=dX xs k;refine aZ<|aO<|Zar<|aA<|Za rfl<|Zj rfl<|aK<|Za rfl<|Za rfl<|Za rfl<|eY rfl U33 bH rfl Ym rfl Yd Ym rfl bCV (fun U o1 I M T O=>?_);obtain rfl:I=[qI _,qI _,qI _]:=M;refine Zs rfl kN rfl O bH<|Zc rfl (fun V R=>hf x _ (R _ Ye))<|aG<|aW rfl (fun hc2=>?_) (fun hc2=>?_)
  ·refine aA<|Za rfl<|Zj rfl<|aH<|Zav<|Zas<|Zas<|Zav<|Zas ?_;exact aF rfl (fun D hD=>by show Value.int _ _=_;rw[jY hx h2 hc2])
  ·refine cB<|Zat<|Zap<|aX<|Zaa rfl<|Za rfl<|Zae ?_;have hpx:p x=false:=hc2;have h3:(xs.take (k+1)).any p=false:=by rw[aYG,hx,bBA,h2];simp[hpx]
   exact aM 12 (k+1) ⟨by omega,h3⟩ Yd ⟨Yb,bCV⟩ rfl rfl Mm5 (aE)
 ·refine aT<|Zaq<|Zaq<|Zau<|Zap<|aA<|Zj rfl<|aH ?_;exact aF rfl (fun D hD=>by show Value.int _ _=_;rw[gK Yah])
theorem R3(sv fv:Value)(xs:List gM)(p:gM→Bool)(D:aC)(hS:Sl D oB 3 sv xs)(hp:cY prog D JN fv p):
  Fn prog 225 #[sv,fv] D (fun _ v=>v=.bool (xs.any p)):=by
 refine enter 9 func225 rfl rfl rfl rfl fun h0=>aA<|Zj rfl<|aK<|Za rfl<|Za rfl<|Zc rfl (fun I G=>BZ _ _ xs p _ (Sl.at oB.up G Ym Ye) (hp.up (G _ Ye)))<|rZ rfl rfl rfl rfl bCV<|Zj rfl<|aH ?_
 exact aF rfl (fun D hD=>by show Value.bool (decide _)=_;rw[kD])
theorem aIO(b:Nat)(fv:Value)(p:gM→Bool)(x:gM)(D:aC)(hp:cY prog D JN fv p)(hB:At D b 0 [fv]):
  Fn prog 226 #[JN x,qP b] D (fun _ v=>v=.bool (!p x)):=by
 obtain⟨f,c1,c2,rfl,hf⟩:=hp;refine enter 8 func226 rfl rfl rfl rfl fun h0=>aA<|Zv rfl (fun O R M G=>Zj rfl<|aK<|Zf 0 rfl aNN rfl hB rfl<|Zs rfl kN rfl G bH<|Zc rfl (fun T I=>hf x _ (I _ Ye))<|Zak rfl<|Zj rfl<|aH ?_)
 exact aF rfl (fun D hD=>rfl)
theorem aNW(sv fv:Value)(xs:List gM)(p:gM→Bool)(D:aC)(hS:Sl D oB 3 sv xs)(hp:cY prog D JN fv p)(h1:fv.cells=#[fv]):
  Fn prog 147 #[sv,fv] D (fun _ v=>v=.bool (xs.all p)):=by
 refine enter 9 func147 rfl rfl rfl rfl fun h0=>aA<|qH (vs:=[fv]) rfl rfl h1 rfl bCV (fun b I G hB=>Zj rfl<|aK<|Za rfl<|Zao rfl<|Zc rfl (fun I G=>R3 _ _ xs (fun x=> !p x) _ (Sl.at oB.up G Ym Ye) ⟨_,[],[qP b],rfl,fun x M hl=>aIO b fv p x M (hp.up ((G _ Ye).trans hl)) (hB.up ((G _ Ye).trans hl))⟩)<|Zak rfl<|Zj rfl<|aH ?_)
 exact aF rfl (fun D hD=>by show Value.bool (!_)=_;rw[nM])
theorem BW(sv fv:Value)(xs:List Cn)(p:Cn→Bool)(D:aC)(hS:Sl D uN 3 sv xs)(hp:cY prog D aTN fv p):
  Fn prog 279 #[sv,fv] D (fun _ v=>v=qI (idxOf p xs)):=by
 have hl:=hS.len;obtain⟨f,c1,c2,rfl,hf⟩:=hp;refine enter 19 func279 rfl rfl rfl rfl fun h0=>aA<|Zj rfl<|bW<|Za rfl<|dH rfl U34 rfl Ym rfl rfl bCV<|Za rfl<|aG<|Zar<|bP (γ:=Nat) (fun k=>xs.length-k) (fun k=>k≤xs.length∧(xs.take k).any p=false) (fun k=>[(8,qI k)]) [(7,_),(4,_),(0,_),(1,_)] (fun k=>[D]) 0 Ye ⟨Yb,bCV⟩ bA (aE) ?_
 rintro k ⟨h1,h2⟩;refine aA<|Zai rfl<|bR<|Zz rfl (fun G=>?_) (fun G=>?_)
 ·have hk:k<xs.length:=by omega
  obtain⟨x,hx⟩:=dX xs k;refine aZ<|aO<|Zar<|aA<|Za rfl<|Zj rfl<|aK<|Za rfl<|Za rfl<|Za rfl<|eY rfl U34 nF rfl Ym rfl Yd Ym rfl bCV (fun U o1 I M T O=>?_);obtain rfl:I=[qI _,qI _,qI _]:=M;refine Zs rfl O8 rfl O nF<|Zc rfl (fun V R=>hf x _ (R _ Ye))<|aG<|aW rfl (fun hc2=>?_) (fun hc2=>?_)
  ·refine aA<|Za rfl<|Zj rfl<|aH<|Zav<|Zas<|Zas<|Zav<|Zas ?_;exact aF rfl (fun D hD=>by show Value.int _ _=_;rw[jY hx h2 hc2])
  ·refine cB<|Zat<|Zap<|aX<|Zaa rfl<|Za rfl<|Zae ?_;have hpx:p x=false:=hc2;have h3:(xs.take (k+1)).any p=false:=by rw[aYG,hx,bBA,h2];simp[hpx]
   exact aM 12 (k+1) ⟨by omega,h3⟩ Yd ⟨Yb,bCV⟩ rfl rfl Mm5 (aE)
 ·refine aT<|Zaq<|Zaq<|Zau<|Zap<|aA<|Zj rfl<|aH ?_;exact aF rfl (fun D hD=>by show Value.int _ _=_;rw[gK Yah])
theorem T9(sv fv:Value)(xs:List Cn)(p:Cn→Bool)(D:aC)(hS:Sl D uN 3 sv xs)(hp:cY prog D aTN fv p):
  Fn prog 227 #[sv,fv] D (fun _ v=>v=.bool (xs.any p)):=by
 refine enter 9 func227 rfl rfl rfl rfl fun h0=>aA<|Zj rfl<|aK<|Za rfl<|Za rfl<|Zc rfl (fun I G=>BW _ _ xs p _ (Sl.at uN.up G Ym Ye) (hp.up (G _ Ye)))<|rZ rfl rfl rfl rfl bCV<|Zj rfl<|aH ?_
 exact aF rfl (fun D hD=>by show Value.bool (decide _)=_;rw[kD])
theorem aEU(b:Nat)(fv:Value)(p:Cn→Bool)(x:Cn)(D:aC)(hp:cY prog D aTN fv p)(hB:At D b 0 [fv]):
  Fn prog 228 #[aTN x,qP b] D (fun _ v=>v=.bool (!p x)):=by
 obtain⟨f,c1,c2,rfl,hf⟩:=hp;refine enter 8 func228 rfl rfl rfl rfl fun h0=>aA<|Zv rfl (fun O R M G=>Zj rfl<|aK<|Zf 0 rfl aPJ rfl hB rfl<|Zs rfl O8 rfl G nF<|Zc rfl (fun T I=>hf x _ (I _ Ye))<|Zak rfl<|Zj rfl<|aH ?_)
 exact aF rfl (fun D hD=>rfl)
theorem WB(sv fv:Value)(xs:List Cn)(p:Cn→Bool)(D:aC)(hS:Sl D uN 3 sv xs)(hp:cY prog D aTN fv p)(h1:fv.cells=#[fv]):
  Fn prog 148 #[sv,fv] D (fun _ v=>v=.bool (xs.all p)):=by
 refine enter 9 func148 rfl rfl rfl rfl fun h0=>aA<|qH (vs:=[fv]) rfl rfl h1 rfl bCV (fun b I G hB=>Zj rfl<|aK<|Za rfl<|Zao rfl<|Zc rfl (fun I G=>T9 _ _ xs (fun x=> !p x) _ (Sl.at uN.up G Ym Ye) ⟨_,[],[qP b],rfl,fun x M hl=>aEU b fv p x M (hp.up ((G _ Ye).trans hl)) (hB.up ((G _ Ye).trans hl))⟩)<|Zak rfl<|Zj rfl<|aH ?_)
 exact aF rfl (fun D hD=>by show Value.bool (!_)=_;rw[nM])
theorem aEI(bv:Value)(b:bG)(l:gM)(D:aC)(hb:fY D bv b)(hn:0≤b.chairs∧b.chairs≤100):Fn prog 145 #[bv,JN l] D (fun _ v=>v=.bool (xH b.chairs l)):=by
 obtain⟨lv,cv,rfl,hl,hc⟩:=hb;refine enter 24 func145 rfl rfl rfl rfl fun h0=>aA<|Zv rfl (fun Z E1 R I=>Zv rfl (fun q2 E2 T G=>Zj rfl<|aK<|Zh rfl V9 rfl<|Zf 0 rfl aI rfl G rfl<|Zc rfl (fun D1 U=>kM _ _ _ _)<|Za rfl ?_))
 refine' dM 7 (s:=8) (p:=15) rfl (fun M=>?_) (fun M=>?_) ?_;rotate_left
 ·refine Zi rfl pD rfl<|Zg 1 rfl aI rfl G rfl<|Zi rfl oF rfl<|Zg 0 rfl aI rfl I rfl<|hU rfl rfl rfl Yg rfl ⟨_,rfl,rfl⟩<|Zd rfl (fun D2 V=>kM _ _ _ _)<|Zag rfl ?_;exact aR 6
 ·refine Zk rfl<|Zk rfl<|Zk rfl<|Zk rfl<|Zk rfl<|Zk rfl<|Zah rfl ?_;exact aR 6
 refine Za rfl ?_;refine' dM 7 (s:=16) (p:=23) rfl (fun O=>?_) (fun O=>?_) ?_;rotate_left
 ·refine Zi rfl mI rfl<|Zg 2 rfl aI rfl G rfl<|Zi rfl oF rfl<|Zg 0 rfl aI rfl I rfl<|hU rfl rfl rfl Yg rfl ⟨_,rfl,rfl⟩<|Zd rfl (fun D3 Y=>kM _ _ _ _)<|Zag rfl ?_;exact aR 6
 ·refine Zk rfl<|Zk rfl<|Zk rfl<|Zk rfl<|Zk rfl<|Zk rfl<|Zah rfl ?_;exact aR 6
 refine Zj rfl<|aH ?_;exact aF rfl (fun D hD=>rfl)
theorem aAQ(bv:Value)(b:bG)(c:Cn)(D:aC)(hb:fY D bv b):Fn prog 146 #[bv,aTN c] D (fun _ v=>v=.bool (pU b.lines.length c)):=by
 obtain⟨lv,cv,rfl,hl,hc⟩:=hb;refine enter 31 func146 rfl rfl rfl rfl fun h0=>aA<|Zv rfl (fun Y Z T I=>Zv rfl (fun q2 E2 U G=>Zj rfl<|aK<|Zh rfl U7 rfl<|dC rfl (k:=1) mP eA rfl G Yc rfl rfl n3 rfl bCV<|Zw rfl mO rfl (fun q3=>Zu rfl eA (bO.head)<|aK<|Zh rfl zU rfl ?_)));refine Zf 0 rfl aI rfl G rfl<|Zh rfl cQ rfl<|Zf 3 rfl eX rfl I rfl<|Zab rfl U33 rfl hl rfl<|Zc rfl (fun D1 V=>kM _ _ _ _)<|Za rfl ?_
 refine' dM 4 (s:=14) (p:=18) rfl (fun M=>?_) (fun M=>?_) ?_;rotate_left
 ·refine Zi rfl uW rfl<|Zq rfl aI rfl Mm0 rfl<|mL rfl rfl rfl rfl ⟨_,rfl,rfl⟩<|Zag rfl ?_;exact aR 3
 ·refine Zk rfl<|Zk rfl<|Zk rfl<|Zah rfl ?_;exact aR 3
 refine Za rfl ?_;refine' dM 6 (s:=19) (p:=25) rfl (fun O=>?_) (fun O=>?_) ?_;rotate_left
 ·refine Zi rfl uW rfl<|Zq rfl aI rfl Mm0 rfl<|Zi rfl vF rfl<|Zq rfl aI rfl Mm0 rfl<|mL rfl rfl rfl rfl ⟨_,rfl,rfl⟩<|Zag rfl ?_;exact aR 5
 ·refine Zk rfl<|Zk rfl<|Zk rfl<|Zk rfl<|Zk rfl<|Zah rfl ?_;exact aR 5
 refine Za rfl ?_;refine' dM 4 (s:=26) (p:=30) rfl (fun R=>?_) (fun R=>?_) ?_;rotate_left
 ·refine Zi rfl vF rfl<|Zq rfl aI rfl Mm0 rfl<|mL rfl rfl rfl rfl ⟨_,rfl,rfl⟩<|Zag rfl ?_;exact aR 3
 ·refine Zk rfl<|Zk rfl<|Zk rfl<|Zah rfl ?_;exact aR 3
 refine Zj rfl<|aH ?_;exact aF rfl (fun D hD=>rfl)
theorem GL(s n lo hi:Int)(D:aC)(h1: -10≤lo∧lo≤10)(h2: -10≤hi∧hi≤100):Fn prog 229 #[qI s,qI n,qI lo,qI hi] D (fun D' v=>Sl D' RI 1 v (fF s n lo hi)):=by
 refine enter 26 func229 rfl rfl rfl rfl fun h0=>aA<|Zj rfl<|bW<|Za rfl<|Za rfl<|Zam rfl<|aG<|Zz rfl (fun I=>?_) (fun I=>?_)
 ·refine aA<|Za rfl<|Zn rfl U25 aL dR rfl (.cons rfl rfl .nil) (fun hB hE R M=>?_);have O:=Sl.ofInts (l:=[_]) (n:=1) (cap:=1) M rfl Yd Yd;refine Zj rfl<|aH<|Zas ?_;exact aF rfl (fun D hD=>by rw[aIF I];exact O.up RI.up (hD _ Ye))
 ·refine aZ<|dV<|Za rfl<|Zj rfl<|aG<|Zar<|dB (γ:=Nat×Value×aD) (fun g=>(hi+1-lo).toNat-g.1) (fun g=>g.1≤(hi+1-lo).toNat∧bZ 3 1 g.2.1 g.1 (ints (OO lo g.1)) g.2.2) (fun g=>[(8,g.2.1),(9,qI (lo+(g.1:Int)))]) [(3,_)] (fun g=>g.2.2++[]) (fun g=>[D]) (0,qN,[]) ⟨by simp,by simpa [ints,OO]using bZ.nil⟩ ⟨Yb,Yb,bCV⟩ ⟨rfl,bCV⟩ Mm5 (aE) ?_;rintro⟨k,v,ν⟩ ⟨T,ha⟩;simp only at T ha;refine dV<|Za rfl<|Za rfl<|mL rfl rfl rfl rfl bCV<|aG<|Zz rfl (fun hc2=>?_) (fun hc2=>?_)
  ·simp only at hc2;refine aZ<|aO<|Zar<|aX<|Za rfl<|Za rfl<|Zn rfl U25 aL dR rfl (.cons rfl rfl .nil) (fun hH hI U G=>?_);have V:=Sl.ofInts (l:=[_]) (n:=1) (cap:=1) G rfl Yd Yd;refine bE (A:=[]) (B:=_) rfl U25 rfl rfl aL dR rfl nV rfl rfl rfl ha (mK.lit G) Ye rfl (by simp[OO]) Yj Yd (aYF rfl) rfl bCV (fun v1 ν1 Y=>?_);have Z:bZ 3 1 v1 (k+1) (ints (OO lo (k+1))) ν1:=by unfold OO;rw[aZR,aYE,bBT,←gS];exact Y
   refine Zj rfl<|Zae<|Zat<|Zap<|aX<|Za rfl<|Zaa rfl<|Zj rfl<|Zae ?_;exact aM 13 (k+1,v1,ν1) ⟨by simp only;omega,Z⟩ Yo ⟨rfl,(by show some (Value.int _ _)=some (Value.int _ _);congr 2;push_cast;omega),bCV⟩ rfl rfl Mm5 (fun D h=>⟨D,aYK _ (h),Le.refl D⟩)
  ·have hk:k=(hi+1-lo).toNat:=by simp only at hc2;omega
   rw[hk]at ha;refine aT<|Zaq<|Zaq<|Zau<|Zap<|aA<|Za rfl<|Zj rfl<|aH<|gR (A:=[]) (B:=[]) ha rfl (fun D2 hJ hF=>?_);exact aF rfl (fun D hD=>by rw[aIE I];exact(hF.ints (by simp[OO]) Yd).up RI.up (hD _ Ye))
end L3
namespace L3
open L1
open C3
def aVH(n:Int)(l:gM)(x c:Int):List gM:=(fF l.token (-1) 0 (n-1)).map fun t=>⟨x,c,t⟩
def aWU(n:Int)(l:gM)(x:Int):List gM:=(fF l.chair (-1) 0 (n-1)).flatMap (aVH n l x)
def aJY(n:Int)(l:gM)(k:Nat):List gM:=((fF l.kind 0 1 2).take k).flatMap (aWU n l)
def aJC(n:Int)(l:gM)(k:Nat)(x:Int)(j:Nat):List gM:=aJY n l k++((fF l.chair (-1) 0 (n-1)).take j).flatMap (aVH n l x)
def YG(n:Int)(l:gM)(k:Nat)(x:Int)(j:Nat)(c:Int)(i:Nat):List gM:=aJC n l k x j++((fF l.token (-1) 0 (n-1)).take i).map fun t=>⟨x,c,t⟩
theorem SZ{n:Int}{l:gM}:aJY n l (fF l.kind 0 1 2).length=dI n l:=by unfold aJY;rw[aZB];rfl
theorem aFV{n:Int}{l:gM}{k:Nat}{x:Int}:aJC n l k x 0=aJY n l k:=by unfold aJC;simp
theorem aHR{n:Int}{l:gM}{k:Nat}{x:Int}{j:Nat}{c:Int}:YG n l k x j c 0=aJC n l k x j:=by unfold YG;simp
theorem aQC{n:Int}{l:gM}{k:Nat}{x:Int}(h:(fF l.kind 0 1 2)[k]?= some x):aJC n l k x (fF l.chair (-1) 0 (n-1)).length=aJY n l (k+1):=by
 unfold aJC aJY;rw[aZB,aYG,h,aZH,aYP,aZG];rfl
theorem aNA{n:Int}{l:gM}{k:Nat}{x:Int}{j:Nat}{c:Int}(h:(fF l.chair (-1) 0 (n-1))[j]?= some c):YG n l k x j c (fF l.token (-1) 0 (n-1)).length=aJC n l k x (j+1):=by
 unfold YG aJC;rw[aZB,aYG,h,aZH,aYP,aZG,aYA];rfl
theorem aGX{n:Int}{l:gM}{k:Nat}{x:Int}{j:Nat}{c:Int}{i:Nat}{t:Int}(h:(fF l.token (-1) 0 (n-1))[i]?= some t):YG n l k x j c (i+1)=YG n l k x j c i++[⟨x,c,t⟩]:=by
 unfold YG;rw[aYG,h,aZH,aYE,←aYA];rfl
theorem uY{s none lo hi:Int}{m:Nat}(h:hi+1-lo≤m)(h1:1≤m):(fF s none lo hi).length≤m:=by
 unfold fF;split
 ·simpa using h1
 ·simp;omega
theorem lT{α β:Type}{f:α→List β}{m:Nat}:∀(l:List α),(∀x∈l,(f x).length≤m)→(l.flatMap f).length≤l.length*m
 | [],_=>by simp
 |x::l,h=>by
  rw[aZD,GT,aXY,bAG];have:=lT l fun y hy=>h y (LE _ hy)
  have:=h x aXW;omega
theorem VN{n:Int}{l:gM}(hn:n≤4)(x c:Int):(aVH n l x c).length≤4:=by unfold aVH;rw[aZL];exact uY Yd Yd
theorem aMW{n:Int}{l:gM}(hn:n≤4)(x:Int):(aWU n l x).length≤16:=by
 unfold aWU;have h1:=lT (m:=4) (f:=aVH n l x) (fF l.chair (-1) 0 (n-1)) fun c _=>VN hn x c
 have h2:=uY (s:=l.chair) (none:= -1) (lo:=0) (hi:=n-1) (m:=4) Yd Yd;omega
theorem VP{n:Int}{l:gM}(hn:n≤4)(k:Nat):(aJY n l k).length≤32:=by
 unfold aJY;have h1:=lT (m:=16) (f:=aWU n l) ((fF l.kind 0 1 2).take k) fun x _=>aMW hn x
 have h2:=uY (s:=l.kind) (none:=0) (lo:=1) (hi:=2) (m:=2) Yd Yd;have h3:((fF l.kind 0 1 2).take k).length≤(fF l.kind 0 1 2).length:=by rw[aZJ];omega
 omega
theorem NS{n:Int}{l:gM}(hn:n≤4):(dI n l).length≤32:=by rw[←SZ];exact VP hn _
theorem aPU{n:Int}{l:gM}{k:Nat}{x:Int}{j:Nat}{c:Int}{i:Nat}(hn:n≤4):(YG n l k x j c i).length≤60:=by
 unfold YG aJC;rw[GT,GT,aZL];have h0:=VP (l:=l) hn k;have h1:=lT (m:=4) (f:=aVH n l x) ((fF l.chair (-1) 0 (n-1)).take j) fun c _=>VN hn x c
 have h2:=uY (s:=l.chair) (none:= -1) (lo:=0) (hi:=n-1) (m:=4) Yd Yd;have h3:=uY (s:=l.token) (none:= -1) (lo:=0) (hi:=n-1) (m:=4) Yd Yd;have h4:((fF l.chair (-1) 0 (n-1)).take j).length≤4:=by rw[aZJ];omega
 have h5:((fF l.token (-1) 0 (n-1)).take i).length≤4:=by rw[aZJ];omega
 omega
def N2(l:List gM):List Value:=l.flatMap fun x=>[qI x.kind,qI x.chair,qI x.token]
theorem IR(l:List gM):(N2 l).length=l.length*3:=by
 induction l with
 |nil=>rfl
 |cons c l ih=>unfold N2 at ih ⊢;rw[aZD,GT,ih];simp only[aXY,aYW];omega
theorem aIS{l:List gM}{i:Nat}{c:gM}(hi:l[i]?= some c):((N2 l).drop (i*3)).take 3=[qI c.kind,qI c.chair,qI c.token]:=by
  induction l generalizing i with
  |nil=>simp at hi
  |cons d l ih=>
    unfold N2 at ih ⊢
    rw[aZD];cases i with
    | zero => obtain rfl : d = c := by simpa using hi
              rfl
    |succ i=>
      rw[bBO,aYV Yam,aYT];have:(i+1)*3- [Value.int .i64 d.kind,Value.int .i64 d.chair,Value.int .i64 d.token].length=i*3:=by simp;omega
      rw[this];exact ih Yap
theorem _root_.Go.Fs.mH.lins{D:aC}{v:Value}{n:Nat}{l:List gM}(hF:mH D v n (N2 l))(hn:l.length=n)(hb:n≤9223372036854775807):Sl D oB 3 v l:=
 hF.sl hn hb fun _i _t hi=>⟨_,rfl,rfl,aIS hi⟩
theorem xT(bv:Value)(b:bG)(l:gM)(D:aC)(hb:fY D bv b)(hn:1≤b.chairs∧b.chairs≤4):Fn prog 150 #[bv,JN l] D (fun D' v=>Sl D' oB 3 v (dI b.chairs l)):=by
 obtain⟨lv,cv,rfl,hl,hc⟩:=hb;refine enter 52 func150 rfl rfl rfl rfl fun h0=>aA<|Zv rfl (fun q1 E1 hE1 Y=>Zv rfl (fun q2 E2 hE2 I=>Zj rfl<|bW<|Zh rfl V9 rfl<|Zf 0 rfl aI rfl I rfl<|Zt rfl (fun D1 hI=>GL _ _ _ _ _ Yd Yd) (fun v1 D1 hI hJ=>?_)))
 have M:=hJ;refine Zab rfl U25 rfl M rfl<|Za rfl<|aG<|Zar<|dB (γ:=Nat×Value×aD) (fun g=>(fF l.kind 0 1 2).length-g.1) (fun g=>g.1≤(fF l.kind 0 1 2).length∧bZ 160 3 g.2.1 (aJY b.chairs l g.1).length (N2 (aJY b.chairs l g.1)) g.2.2) (fun g=>[(4,g.2.1),(15,qI (g.1:Int))]) [(14,_),(13,_),(3,_),(2,_)] (fun g=>g.2.2++[]) (fun g=>[D1,E2,E1,D]) (0,qN,[]) ⟨by simp,bZ.nil⟩ ⟨Yb,Yb,bCV⟩ bA Mm5 (aE) ?_;rintro⟨k,v,ν⟩ ⟨h1,G⟩;simp only at h1 G;refine aA<|Zai rfl<|bR<|Zz rfl (fun O=>?_) (fun O=>?_)
 ·simp only at O;have hX:=M.len;obtain⟨x,Z⟩:=dX (fF l.kind 0 1 2) k;refine aZ<|aO<|Zar<|aA<|lH rfl M rfl Z (fun b1 o1=>Zj rfl<|aK<|Zh rfl pD rfl<|Zf 1 rfl aI rfl I rfl<|Zh rfl oF rfl<|Zf 0 rfl aI rfl Y rfl<|hU rfl rfl rfl Yg rfl bCV ?_);refine Zt rfl (fun D2 hB=>GL _ _ _ _ _ Yd Yd) (fun v2 D2 hB hK=>?_);have R:=hK;refine Zab rfl U25 rfl R rfl<|Za rfl<|aG<|Zar<|dB (γ:=Nat×Value×aD) (fun g=>(fF l.chair (-1) 0 (b.chairs-1)).length-g.1) (fun g=>g.1≤(fF l.chair (-1) 0 (b.chairs-1)).length∧bZ 160 3 g.2.1 (aJC b.chairs l k x g.1).length (N2 (aJC b.chairs l k x g.1)) g.2.2) (fun g=>[(4,g.2.1),(26,qI (g.1:Int))]) [(25,_),(24,_),(23,_),(22,_),(21,_),(20,_),(19,_),(6,_),(18,_),(17,_),(16,_),(15,_),(14,_),(13,_),(3,_),(2,_)] (fun g=>g.2.2++[]) (fun g=>[D2,D1,E2,E1,D]) (0,v,ν) ⟨by simp,by rw[aFV];exact G⟩ ⟨Yb,Yb,bCV⟩ bA Mm5 (aE) ?_
  rintro⟨j,w,ν2⟩ ⟨h2,haJ⟩;simp only at h2 haJ;refine aA<|Zai rfl<|bR<|Zz rfl (fun hc2=>?_) (fun hc2=>?_)
  ·simp only at hc2;have hY:=R.len;obtain⟨c,hE⟩:∃x,(fF l.chair (-1) 0 (b.chairs-1))[j]?= some x:=⟨_,aXT Yd⟩
   refine aZ<|aO<|Zar<|aA<|lH rfl R rfl hE (fun b2 o2=>Zj rfl<|aK<|Zh rfl mI rfl<|Zf 2 rfl aI rfl I rfl<|Zh rfl oF rfl<|Zf 0 rfl aI rfl Y rfl<|hU rfl rfl rfl Yg rfl bCV ?_);refine Zt rfl (fun D3 hM=>GL _ _ _ _ _ Yd Yd) (fun v3 D3 hM hN=>?_);have T:=hN;refine Zab rfl U25 rfl T rfl<|Za rfl<|aG<|Zar<|dB (γ:=Nat×Value×aD) (fun g=>(fF l.token (-1) 0 (b.chairs-1)).length-g.1) (fun g=>g.1≤(fF l.token (-1) 0 (b.chairs-1)).length∧bZ 160 3 g.2.1 (YG b.chairs l k x j c g.1).length (N2 (YG b.chairs l k x j c g.1)) g.2.2) (fun g=>[(4,g.2.1),(37,qI (g.1:Int))]) [(36,_),(35,_),(34,_),(33,_),(32,_),(31,_),(30,_),(8,_),(29,_),(28,_),(27,_),(26,_),(25,_),(24,_),(23,_),(22,_),(21,_),(20,_),(19,_),(6,_),(18,_),(17,_),(16,_),(15,_),(14,_),(13,_),(3,_),(2,_)] (fun g=>g.2.2++[]) (fun g=>[D3,D2,D1,E2,E1,D]) (0,w,ν2) ⟨by simp,by rw[aHR];exact haJ⟩ ⟨Yb,Yb,bCV⟩ bA Mm5 (aE) ?_
   rintro⟨i,u,ν3⟩ ⟨h3,haI⟩;simp only at h3 haI;refine aA<|Zai rfl<|bR<|Zz rfl (fun U=>?_) (fun U=>?_)
   ·simp only at U;have rA:=T.len;obtain⟨t,hH⟩:∃x,(fF l.token (-1) 0 (b.chairs-1))[i]?= some x:=⟨_,aXT Yd⟩
    refine aZ<|aO<|Zar<|aA<|lH rfl T rfl hH (fun b3 o3=>Zj rfl<|aG<|aX<|Za rfl<|Za rfl<|Za rfl<|Za rfl ?_);refine Zo [qI x,qI c,qI t] rfl RV dU rfl<|Zn rfl U33 bH dU rfl (.cons rfl rfl .nil) (fun rB D901 hO V=>?_);have hli:=aPU (n:=b.chairs) (l:=l) (k:=k) (x:=x) (j:=j) (c:=c) (i:=i) Yd;refine bE (A:=[]) (B:=[]) rfl U33 rfl rfl bH dU rfl iB rfl rfl rfl haI (mK.lit V) Ye rfl (IR _) Yj Yd (aYF rfl) rfl bCV (fun v7 ν7 hR=>?_);have hS:bZ 160 3 v7 (YG b.chairs l k x j c (i+1)).length (N2 (YG b.chairs l k x j c (i+1))) ν7:=by rw[aGX hH];simpa [N2]using hR
    refine Zj rfl<|Zae<|Zat<|Zap<|aX<|Zaa rfl<|Za rfl<|Zae ?_;exact aM 16 (i+1,v7,ν7) ⟨by simp only;omega,hS⟩ Yo ⟨Yb,Yb,bCV⟩ rfl rfl Mm5 (fun D h=>⟨D,aYK _ (h),Le.refl D⟩)
   ·have hi:i=(fF l.token (-1) 0 (b.chairs-1)).length:=by simp only at U;omega
    rw[hi,aNA hE]at haI;refine aT<|Zaq<|Zaq<|Zau<|Zat<|Zap<|aX<|Zaa rfl<|Za rfl<|Zae ?_;exact aM 17 (j+1,u,ν3) ⟨by simp only;omega,haI⟩ Yo ⟨Yb,Yb,bCV⟩ rfl rfl Mm5 (fun D h=>⟨D,aYK _ (h),Le.refl D⟩)
  ·have hj:j=(fF l.chair (-1) 0 (b.chairs-1)).length:=by simp only at hc2;omega
   rw[hj,aQC Z]at haJ;refine aT<|Zaq<|Zaq<|Zau<|Zat<|Zap<|aX<|Zaa rfl<|Za rfl<|Zae ?_;exact aM 17 (k+1,w,ν2) ⟨by simp only;omega,haJ⟩ Yo ⟨Yb,Yb,bCV⟩ rfl rfl Mm5 (fun D h=>⟨D,aYK _ (h),Le.refl D⟩)
 ·have hk:k=(fF l.kind 0 1 2).length:=by simp only at O;omega
  rw[hk,SZ]at G;refine aT<|Zaq<|Zaq<|Zau<|Zap<|aA<|Za rfl<|Zj rfl<|aH<|gR (A:=[]) (B:=[]) G rfl (fun D2 hB hF=>?_);exact aF rfl (fun D hD=>(hF.lins rfl (by have:=NS (l:=l) hn.2;omega)).up oB.up (hD _ Ye))
end L3
end Go.Fs
