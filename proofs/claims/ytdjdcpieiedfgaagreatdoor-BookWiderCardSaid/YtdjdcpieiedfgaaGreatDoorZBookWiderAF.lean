/- Of the proof of BookWider: SW5, Pair, Pairs, Nu, Mend, SW6, SW7, SW8, UW3, UW4, UW5, UW6, UW7, V1, V2, V3. -/
import Derived.Test.YtdjdcpieiedfgaaGreatDoorZBookWiderAE
import Derived.Test.YtdjdcpieiedfgaaGreatDoorZBookWiderAC
import Derived.Test.YtdjdcpieiedfgaaGreatDoorZBookWiderAD
namespace Go.Fs
open Go.Proofs Tryz
namespace L7
open C7
def jR(p:Nat→Bool):Nat→Nat
 |0=>0
 |n+1=>if p n=true then jR p n|||2^n else jR p n
theorem wB(p:Nat→Bool):∀n i,(jR p n).testBit i=(decide (i<n)&&p i)
 |0,i=>by simp[jR]
 |n+1,i=>by
  unfold jR;split
  ·rename_i h;rw[Nat.testBit_or,wB p n i,Nat.testBit_two_pow];by_cases hi:n=i
   ·subst hi;simp[h]
   ·have:(i<n+1)=(i<n):=by rw[eq_iff_iff];omega
    simp[hi,this]
  ·rename_i h;rw[wB p n i];by_cases hi:n=i
   ·subst hi;simp[h]
   ·have:(i<n+1)=(i<n):=by rw[eq_iff_iff];omega
    simp[this]
theorem FY(p:Nat→Bool)(n:Nat):jR p n<2^n:=by
 apply Nat.lt_pow_two_of_testBit;intro i hi;rw[wB];have:¬i<n:=by omega
 simp[this]
def mV(t:List Pt)(i:Nat):Bool:=match t[i]? with|some p=> !lG p|none=>false
def oZ(y:bC)(t:List Pt)(i k:Nat):Bool:=match t[i]?,t[k]?,y.chairs[i]?,y.chairs[k]? with
 |some p,some q,some x,some z=>(decide ((k:Int)≠i)&&CC y.fit x z)&&WK p q
 |_,_,_,_=>false
theorem aFX{y:bC}{t:List Pt}{i k:Nat}{z q:Pt}{x1 x2:Ch}(hz:t[i]?= some z)(hq:t[k]?= some q)(hx1:y.chairs[i]?= some x1)(hx2:y.chairs[k]?= some x2):oZ y t i k=((decide ((k:Int)≠i)&&CC y.fit x1 x2)&&WK z q):=by
 unfold oZ;rw[hz,hq,hx1,hx2]
def fR(y:bC)(t:List Pt)(i k:Nat):List Nat:=(List.range 7).map fun j=>if j<i then jR (oZ y t j) t.length else if j=i then jR (oZ y t i) k else 0
structure Sc where
 whole:Nat
 broken:Nat
 fits:List Nat
deriving DecidableEq
def eC(y:bC)(t:List Pt):Sc:=⟨whole t,jR (mV t) t.length,(List.range 7).map fun j=>jR (oZ y t j) t.length⟩
def d6(w b:Nat)(rows:List Nat):List Value:=qI (w:Int)::qI (b:Int)::rows.map fun(n:Nat)=>Value.int .i64 (n:Int)
def QL(s:Sc):Value:=.agg (d6 s.whole s.broken s.fits).toArray
theorem aGJ(w b:Nat)(rows:List Nat):∀u∈d6 w b rows,cell1 u=true:=by
 intro u hu;unfold d6 at hu;simp only[n4,GT]at hu;rcases hu with rfl|rfl|⟨n,_,rfl⟩<;>rfl
theorem aMR{y:bC}{t:List Pt}{j:Nat}(h:t.length≤j):jR (oZ y t j) t.length=0:=by
 apply Nat.eq_of_testBit_eq;intro i;rw[wB,Nat.zero_testBit];have:oZ y t j i=false:=by unfold oZ;rw[bBX h]
 simp[this]
theorem aBX{y:bC}{t:List Pt}:fR y t t.length 0=(eC y t).fits:=by
 show fR y t t.length 0=(List.range 7).map fun j=>jR (oZ y t j) t.length
 unfold fR;apply bDX;intro j _;by_cases h:j<t.length
 ·rw[aZK h]
 ·rw[aZB h,aMR Yd];split<;>rfl
theorem VG{y:bC}{t:List Pt}{i:Nat}:fR y t i t.length=fR y t (i+1) 0:=by
 unfold fR;apply bDX;intro j _;by_cases h:j<i
 ·rw[aZK h,aZK Yd]
 ·rw[aZB h];by_cases h2:j=i
  ·subst h2;rw[aZK rfl,aZK Yd]
  ·rw[aZB h2,aZB Yd];split<;>rfl
theorem aUY{y:bC}{t:List Pt}{i k:Nat}(h:oZ y t i k=false):fR y t i k=fR y t i (k+1):=by
 unfold fR;have:jR (oZ y t i) (k+1)=jR (oZ y t i) k:=by rw[jR,aZB (by simp[h])]
 rw[this]
theorem aQB{y:bC}{t:List Pt}{i k:Nat}(h:i<7):(fR y t i k)[i]?= some (jR (oZ y t i) k):=by
 unfold fR;rw[aZT,bDI h];simp
theorem aTL{rows:List Nat}{i n:Nat}(w b:Nat)(h:rows[i]?= some n):(d6 w b rows)[2+i*1]?= some (qI (n:Int)):=by
 rw[bBQ,Nat.add_comm];unfold d6;rw[List.getElem?_cons_succ,List.getElem?_cons_succ,aZT,h];rfl
theorem j1{t:List Pt}{i:Nat}{z:Pt}(hz:t[i]?= some z):whole (t.take (i+1))=whole (t.take i)+if lG z=true then 1 else 0:=by
 unfold whole;rw[aZG,hz,bAR,bBK,aYS];cases h:lG z<;>simp[h]
theorem VD{t:List Pt}{i:Nat}{z:Pt}(hz:t[i]?= some z):mV t i= !lG z:=by unfold mV;rw[hz]
theorem CK{y:bC}{t:List Pt}{i k:Nat}{z:Pt}(hz:t[i]?= some z)(hw:lG z=true):jR (oZ y t i) k=0:=by
 apply Nat.eq_of_testBit_eq;intro j;rw[wB,Nat.zero_testBit];have:oZ y t i j=false:=by
  unfold oZ;rw[hz]
  split
  ·rename_i G _ _ _;obtain rfl:=aZO G;simp[WK,hw]
  ·rfl
 simp[this]
theorem aIQ{y:bC}{t:List Pt}{i:Nat}{z:Pt}(hz:t[i]?= some z)(hw:lG z=true):
  (d6 (whole (t.take i)) (jR (mV t) i) (fR y t i 0)).take 0++[qI ((whole (t.take i):Int)+1)]++(d6 (whole (t.take i)) (jR (mV t) i) (fR y t i 0)).drop (0+ [Value.int .i64 ((whole (t.take i):Int)+1)].length)=d6 (whole (t.take (i+1))) (jR (mV t) (i+1)) (fR y t (i+1) 0):=by
 have h1:((whole (t.take (i+1)):Nat):Int)=(whole (t.take i):Int)+1:=by rw[j1 hz,aZK hw];simp
 have h2:jR (mV t) (i+1)=jR (mV t) i:=by rw[jR,aZB (by rw[VD hz,hw];simp)]
 have h3:fR y t (i+1) 0=fR y t i 0:=by
  rw[←VG];unfold fR;rw[CK hz hw,CK hz hw]
 rw[h2,h3];unfold d6;rw[h1];rfl
theorem aOU{y:bC}{t:List Pt}{i:Nat}{z:Pt}(hz:t[i]?= some z)(hw:lG z=false):
  (d6 (whole (t.take i)) (jR (mV t) i) (fR y t i 0)).take 1++[qI ((jR (mV t) i|||2^i:Nat):Int)]++(d6 (whole (t.take i)) (jR (mV t) i) (fR y t i 0)).drop (1+ [Value.int .i64 ((jR (mV t) i|||2^i:Nat):Int)].length)=d6 (whole (t.take (i+1))) (jR (mV t) (i+1)) (fR y t i 0):=by
 have h1:whole (t.take (i+1))=whole (t.take i):=by rw[j1 hz,aZB (by simp[hw])];rfl
 have h2:jR (mV t) (i+1)=jR (mV t) i|||2^i:=by rw[jR,aZK (by rw[VD hz,hw];rfl)]
 rw[h1,h2];rfl
theorem aVU{y:bC}{t:List Pt}{i k w b:Nat}(hi:i<7)(h:oZ y t i k=true):
  (d6 w b (fR y t i k)).take (2+i*1)++[qI ((jR (oZ y t i) k|||2^k:Nat):Int)]++(d6 w b (fR y t i k)).drop (2+i*1+ [Value.int .i64 ((jR (oZ y t i) k|||2^k:Nat):Int)].length)=d6 w b (fR y t i (k+1)):=by
 have h2:jR (oZ y t i) (k+1)=jR (oZ y t i) k|||2^k:=by rw[jR,aZK h]
 have e:i=0∨i=1∨i=2∨i=3∨i=4∨i=5∨i=6:=by omega
 rw[←h2];rcases e with rfl|rfl|rfl|rfl|rfl|rfl|rfl<;>rfl
theorem aKR(yv tv:Value)(y:bC)(t:List Pt)(D:aC)(hy:nM D yv y)(ht:Sl D RP 3 tv t)(hlen:t.length=y.chairs.length)(h7:t.length≤7)(hb:∀p∈t,DF p)(hf:0≤y.fit∧y.fit≤9)(hs:∀c∈y.chairs,0≤c.size∧c.size≤9):Fn prog 174 #[yv,tv] D (fun _ v=>v=QL (eC y t)):=by
 have I:=hy;obtain⟨cv,qv,rfl,hc,hq⟩:=hy;have hl:=ht.len;refine Zs 61 func174 rfl (fun h0=>aA<|Zu rfl (fun q1 E1 hM M=>Zx rfl uA rfl (fun q2=>bJ<|Za rfl<|Zab rfl U303 rfl ht rfl<|Za rfl<|aF<|Zar<|dD (γ:=Nat) (fun i=>t.length-i) (fun i=>i≤t.length) (fun i=>[(11,qI (i:Int))]) [(10,_),(9,_),(4,_),(2,_),(1,_)] (fun i=>[(q2,qC (d6 (whole (t.take i)) (jR (mV t) i) (fR y t i 0)) 307)]) (fun i=>[E1,D]) 0 Yd ⟨Yb,bDY⟩ cQ Mm5 (aH) ?_)));rintro i h1;refine aA<|Zai rfl<|bT<|Zz rfl (fun O=>?_) (fun O=>?_)
 ·have hi:i<t.length:=by omega
  obtain⟨z,hz⟩:=dV t i;obtain⟨x1,hx1⟩:=dV y.chairs i;have hwl:whole (t.take i)≤(t.take i).length:=bBO _ _;have hwt:(t.take i).length≤i:=bDH _ _;have hbl:=FY (mV t) i;have hN:2^i≤2^7:=bCE Yd Yd;refine aT<|aS<|Zar<|aA<|Za rfl<|Zw rfl U303 mA rfl ht rfl hz (fun b1 o1 R U hJ V=>?_);obtain rfl:R=[qI _,qI _,qI _]:=U;refine dQ rfl nH rfl V Yc Yx n3 rfl bDY<|Zx rfl Q4 rfl (fun q3=>Zg rfl<|Zt rfl mA (bR.head)<|bJ<|bK rfl nH rfl Mm0 Yx n3 rfl bDY<|Zc rfl (fun D1 hO=>Q0 z _)<|aF<|aP rfl (fun hc2=>?_) (fun hc2=>?_))
  ·refine aA<|Zh rfl B4 rfl<|Zm rfl aJ rfl Mm1 rfl<|Zaa rfl<|Zh rfl B4 rfl<|bG (ws:=d6 (whole (t.take (i+1))) (jR (mV t) (i+1)) (fR y t (i+1) 0)) rfl rfl rfl rfl aM (.tail bR.head) (by simp[d6]) (aIQ hz hc2) Yk bDY<|aF<|aW<|Zas<|Zav<|Zaq<|aU ?_;refine Zaa rfl<|Za rfl<|Zah ?_;exact aK 15 (i+1) Yd Yd ⟨Yb,bDY⟩ rfl rfl (List.Sublist.cons _ Mm5) (aH)
  ·refine aT<|aS<|bW [] 2 7 12<|Zh rfl U2 rfl<|Zm rfl aJ rfl Mm1 rfl<|Za rfl<|q9 rfl rfl rfl Yd rfl bDY<|UH rfl rfl rfl Yd Yd rfl bDY<|Zh rfl U2 rfl<|bG (ws:=d6 (whole (t.take (i+1))) (jR (mV t) (i+1)) (fR y t i 0)) rfl rfl rfl rfl aM (.tail bR.head) (by simp[d6]) (aOU hz hc2) Yk bDY<|aL<|Za rfl ?_;refine Zab rfl U303 rfl ht rfl<|Za rfl<|aF<|Zar<|dD (γ:=Nat) (fun k=>t.length-k) (fun k=>k≤t.length) (fun k=>[(30,qI (k:Int))]) [(29,_),(28,_),(27,_),(26,_),(25,_),(24,_),(23,_),(22,_),(17,_),(16,_),(5,_),(6,_),(15,_),(14,_),(13,_),(12,_),(11,_),(10,_),(9,_),(4,_),(2,_),(1,_)] (fun k=>[(q3,qC [qI z.a,qI z.b,qI z.c] 210),(q2,qC (d6 (whole (t.take (i+1))) (jR (mV t) (i+1)) (fR y t i k)) 307)]) (fun k=>[E1,D]) 0 Yd ⟨Yb,bDY⟩ cQ Mm5 (aH) ?_;rintro k h2;refine aA<|Zai rfl<|bT<|Zz rfl (fun Y=>?_) (fun Y=>?_)
   ·have hk:k<t.length:=by omega
    obtain⟨q,hq⟩:=dV t k;obtain⟨x2,hx2⟩:=dV y.chairs k;have hbk:=FY (oZ y t i) k;have hR:2^k≤2^7:=bCE Yd Yd;refine aT<|aS<|Zar<|aA<|Za rfl<|Zw rfl U303 mA rfl ht rfl hq (fun b2 o2 Z hB hK hE=>?_);obtain rfl:Z=[qI _,qI _,qI _]:=hB;refine dQ rfl nH rfl hE Yc Yx n3 rfl bDY<|Zx rfl Q4 rfl (fun q4=>Zg rfl<|Zt rfl mA (bR.head)<|aL<|Za rfl<|Za rfl<|Zak rfl<|Za rfl ?_);refine' dJ 5 (s:=38) (p:=43) rfl (fun hF=>?_) (fun hF=>?_) ?_;rotate_left
    ·refine dQ rfl jC rfl M Yc iO n3 rfl ⟨_,rfl,rfl⟩<|Zb rfl<|Zb rfl<|Zd rfl (fun D2 hH=>c8 _ y i k x1 x2 _ (I.up (hH _ Ye)) hf hx1 hx2 (hs _ (LE hx1)) (hs _ (LE hx2)))<|Zad rfl ?_;exact aQ 4
    ·refine Zf rfl<|Zf rfl<|Zf rfl<|Zf rfl<|Zae rfl ?_;exact aQ 4
    refine Za rfl ?_;refine' dJ 4 (s:=44) (p:=48) rfl (fun hI=>?_) (fun hI=>?_) ?_;rotate_left
    ·refine bK rfl nH rfl Mm1 Yx n3 rfl ⟨_,rfl,rfl⟩<|bK rfl nH rfl Mm0 Yx n3 rfl ⟨_,rfl,rfl⟩<|Zd rfl (fun D3 hS=>aDU z q _ (hb _ (LE hz)) (hb _ (LE hq)))<|Zad rfl ?_;exact aQ 3
    ·refine Zf rfl<|Zf rfl<|Zf rfl<|Zae rfl ?_;exact aQ 3
    refine aF<|aP rfl (fun G=>?_) (fun G=>?_)
    ·have hfit:oZ y t i k=true:=by rw[aFX hz hq hx1 hx2];exact G
     refine bW [] 3 10 178<|Za rfl<|Zh rfl zS rfl<|fC rfl U305 aM rfl rfl Yd Yd rfl bDY<|bZ rfl aJ rfl Mm2 (aTL _ _ (aQB Yd)) n3 rfl bDY<|Za rfl<|q9 rfl rfl rfl Yd rfl bDY<|UH rfl rfl rfl Yd Yd rfl bDY<|Zh rfl zS rfl<|fC rfl U305 aM rfl rfl Yd Yd rfl bDY<|bG (ws:=d6 (whole (t.take (i+1))) (jR (mV t) (i+1)) (fR y t i (k+1))) rfl rfl rfl rfl aM (.tail (.tail bR.head)) (by simp[d6,fR];omega) (aVU Yd hfit) Yk bDY<|Zah ?_;refine Zat<|Zaq<|aU<|Zaa rfl<|Za rfl<|Zah ?_;exact aK 25 (k+1) Yd Yd ⟨Yb,bDY⟩ rfl rfl (List.Sublist.cons _ Mm5) (aH)
    ·have hfit:oZ y t i k=false:=by rw[aFX hz hq hx1 hx2];exact G
     refine bM<|Zat<|Zaq<|aU<|Zaa rfl<|Za rfl<|Zah ?_;rw[aUY hfit];exact aK 16 (k+1) Yd Yd ⟨Yb,bDY⟩ rfl rfl (List.Sublist.cons _ Mm5) (aH)
   ·obtain rfl:k=t.length:=by omega
    rw[VG];refine aW<|Zas<|Zas<|Zav<|Zat<|Zaq<|aU<|Zaa rfl<|Za rfl<|Zah ?_;exact aK 21 (i+1) Yd Yd ⟨Yb,bDY⟩ rfl rfl (List.Sublist.cons _ Mm5) (aH)
 ·obtain rfl:i=t.length:=by omega
  refine aW<|Zas<|Zas<|Zav<|Zaq<|aA<|Zy rfl rN rfl Mm0 gK<|bD rfl rfl rfl rfl gK Ya Ya (bR.head) (aGJ _ _ _) bDY<|aG ?_;exact cS (vs:=[_]) rfl rfl rfl ⟨⟨_,_,_,rfl,Mm0,aYZ ⟨rN,(by first|exact gK|(simp only[aZV,aO, *];exact gK)),rfl⟩⟩,bDY⟩ (fun D hD=>by rw[aBX,bAA];rfl)
end L7
end Go.Fs
namespace Go.Fs.C7
theorem t7{m a:Nat}(h:m.testBit a=true):tB m (2^a)<m:=by
 have h1:=J5 m (2^a);have h2:tB m (2^a)≠m:=fun e=>by
  have:=i6 m (2^a) a;rw[e,h,Nat.testBit_two_pow_self]at this;cases this
 omega
theorem aSU(m a i:Nat):(tB m (2^a)).testBit i=(m.testBit i&& !decide (a=i)):=by
 rw[i6,Nat.testBit_two_pow]
def low(m:Nat):Nat:=((List.range m).find? fun i=>m.testBit i).getD 0
theorem yZ{m:Nat}(h:m≠0):m.testBit (low m)=true∧∀i,i<low m→m.testBit i=false:=by
 obtain⟨i,hi⟩:=Nat.exists_testBit_of_ne_zero h;have him:i<m:=bBC Nat.lt_two_pow_self (Nat.ge_two_pow_of_testBit hi);unfold low;cases hf:(List.range m).find? fun i=>m.testBit i with
 |none=>
  have:=List.find?_eq_none.1 hf i (bBF.2 him);exact absurd hi this
 |some j=>
  have h1:=List.find?_some hf;refine⟨h1,fun k hk=>?_⟩;simp only[bCH]at hk;obtain⟨_,G,I,hab,hno⟩:=List.find?_eq_some_iff_append.1 hf;have hjm:j<m:=bBF.1 (List.mem_of_find?_eq_some hf);have hlen:G.length=j:=by
   have h2:(List.range m)[G.length]?= some j:=by rw[hab,bCZ (aZL _)];simp
   have hl:G.length<m:=by
    have:=aYY List.length hab;simp at this;omega
   rw[bDI hl]at h2;exact aZO h2
  have hkm:(List.range m)[k]?= some k:=bDI Yd;rw[hab,bBR Yd]at hkm;have:=hno k (LE hkm);simpa using this
def fB(F:List Nat)(a b:Nat):Bool:=(F.getD a 0).testBit b
def vK(F:List Nat)(rest a:Nat)(nu:Nat→Nat)(m b:Nat):Nat:=if(rest&&&F.getD a 0).testBit b=true then max m (1+nu (tB rest (2^b)))else m
def aLA(F:List Nat)(n:Nat):Nat→Nat→Nat
 |0,_=>0
 |k+1,m=>if m=0 then 0 else(List.range n).foldl (vK F (tB m (2^low m)) (low m) (aLA F n k)) (aLA F n k (tB m (2^low m)))
def HT(F:List Nat)(n m:Nat):Nat:=aLA F n m m
theorem yH{α β:Type}{f g:β→α→β}:∀{l:List α} {b:β},(∀b,∀a∈l,f b a=g b a)→l.foldl f b=l.foldl g b
 | [],_,_=>rfl
 |x::l,b,h=>by
  rw[bAG,bAG,h b x LT];exact yH fun b a ha=>h b a (n5 _ ha)
theorem P6{F:List Nat}{n:Nat}:∀(k m l:Nat),m≤k→m≤l→aLA F n k m=aLA F n l m
 |0,m,l,h,_=>by
  obtain rfl:m=0:=by omega
  cases l<;>simp[aLA]
 |k+1,m,0,_,h=>by
  obtain rfl:m=0:=by omega
  simp[aLA]
 |k+1,m,l+1,h,h'=>by
  simp only[aLA];by_cases hm:m=0
  ·rw[aZK hm,aZK hm]
  ·rw[aZB hm,aZB hm];have hlt:=t7 (yZ hm).1;have e0:=P6 (F:=F) (n:=n) k (tB m (2^low m)) l Yd Yd;rw[e0];refine yH fun b a _=>?_
   unfold vK;split
   ·have:=J5 (tB m (2^low m)) (2^a);rw[P6 k (tB (tB m (2^low m)) (2^a)) l Yd Yd]
   ·rfl
theorem NS{F:List Nat}{n:Nat}:HT F n 0=0:=rfl
theorem PR{F:List Nat}{n m:Nat}(h:m≠0):HT F n m=(List.range n).foldl (vK F (tB m (2^low m)) (low m) (HT F n)) (HT F n (tB m (2^low m))):=by
 have hlt:=t7 (yZ h).1;obtain⟨k,rfl⟩:∃k,m=k+1:=⟨m-1,by omega⟩
 show aLA F n (k+1) (k+1)=_;rw[aLA,aZB h];rw[P6 k (tB (k+1) (2^low (k+1))) (tB (k+1) (2^low (k+1))) Yd (aZL _)];refine yH fun b a _=>?_
 unfold vK;split
 ·have:=J5 (tB (k+1) (2^low (k+1))) (2^a);rw[P6 k (tB (tB (k+1) (2^low (k+1))) (2^a)) _ Yd (aZL _)];rfl
 ·rfl
theorem UO{F:List Nat}{rest a:Nat}{nu:Nat→Nat}:∀(l:List Nat) (m:Nat),l.foldl (vK F rest a nu) m=m∨∃b∈l,(rest&&&F.getD a 0).testBit b=true∧l.foldl (vK F rest a nu) m=1+nu (tB rest (2^b))
 | [],m=>aZE rfl
 |x::l,m=>by
  rw[bAG];rcases UO l (vK F rest a nu m x)with h|⟨b,hb,hbit,h⟩
  ·rw[h];unfold vK;split
   ·rename_i hx;by_cases hm:m≤1+nu (tB rest (2^x))
    ·exact aYZ ⟨x,LT,hx,by omega⟩
    ·exact aZE Yd
   ·exact aZE rfl
  ·exact aYZ ⟨b,n5 _ hb,hbit,h⟩
theorem SY{m b:Nat}(h:m≠0):tB (tB m (2^low m)) (2^b)<m:=Nat.lt_of_le_of_lt (J5 _ _) (t7 (yZ h).1)

def I9:List Int→List Pt
 |a::b::c::l=>⟨a,b,c⟩::I9 l
 |_=>[]
def jG(l:List Ch):List Int:=l.flatMap fun c=>c.parts.l
def mT(l:List Pt):List Int:=l.flatMap Pt.l
theorem sQ(p:Pt)(l:List Pt):mT (p::l)=p.a::p.b::p.c::mT l:=rfl
theorem aIR(l:List Pt):I9 (mT l)=l:=by
 induction l with
 |nil=>rfl
 |cons p l ih=>rw[sQ,I9,ih]
theorem oY(l:List Ch):(jG l).length=3*l.length:=by
 induction l with
 |nil=>rfl
 |cons c l ih=>unfold jG at ih ⊢;rw[bAC,aYS,ih,aYW];simp[Pt.l];omega
theorem GZ(l:List Pt):(mT l).length=3*l.length:=by
 induction l with
 |nil=>rfl
 |cons c l ih=>rw[sQ];simp only[aYW,ih];omega
theorem GG:∀(n:Nat) (l:List Int),l.length=3*n→mT (I9 l)=l∧(I9 l).length=n
 |0,l,h=>by
  obtain rfl:l=[]:=bBP.1 Yd;exact⟨rfl,rfl⟩
 |n+1,l,h=>by
  match l,h with
  |a::b::c::l,h=>
   obtain⟨h1,h2⟩:=GG n l (by simp only[aYW]at h;omega);rw[I9,sQ];exact⟨by rw[h1],by rw[aYW,h2]⟩
def FL(y:bC):List (List Pt):=(C1.cT (jG y.chairs)).map I9
theorem sM:∀{l t:List Int},t∈C1.cT l ↔ t.length=l.length∧∀x∈l.zip t,J8 x.1 x.2=true∧True
 | [],t=>by simp[C1.cT]
 |p::l,t=>by
  have ih:=fun t=> @sM l t
  cases t with
  |nil=>simp[C1.cT]
  |cons x t=>
   have:x::t∈C1.cT (p::l) ↔ ((p=2∨p=x)∧(x=0∨x=1))∧t∈C1.cT l:=by
    rw[show C1.cT (p::l)=(if p=2∨p=0 then(C1.cT l).map (0:: ·)else [])++(if p=2∨p=1 then(C1.cT l).map (1:: ·)else [])from rfl,aZF];constructor
    ·rintro(h|h)
     ·split at h
      ·rename_i hp;obtain⟨s,hs,he⟩:=GT.1 h;obtain⟨rfl,rfl⟩:=List.cons.inj he;exact⟨⟨hp,aZE rfl⟩,hs⟩
      ·cases h
     ·split at h
      ·rename_i hp;obtain⟨s,hs,he⟩:=GT.1 h;obtain⟨rfl,rfl⟩:=List.cons.inj he;exact⟨⟨hp,aYZ rfl⟩,hs⟩
      ·cases h
    ·rintro⟨⟨hp,rfl|rfl⟩,ht⟩
     ·exact aZE (by rw[aZK hp];exact GT.2 ⟨t,ht,rfl⟩)
     ·exact aYZ (by rw[aZK hp];exact GT.2 ⟨t,ht,rfl⟩)
   rw[this,ih];simp only[aYW,List.zip_cons_cons,n4,and_true,forall_eq_or_imp,Nat.add_right_cancel_iff];have:J8 p x=true ↔ (p=2∨p=x)∧(x=0∨x=1):=by
    unfold J8;simp only[aYT,bX,bAD,aZI];constructor
    ·rintro⟨h1,h2⟩;exact⟨h2.imp id Eq.symm,by omega⟩
    ·rintro⟨h1,h2⟩;exact⟨by omega,h1.imp id Eq.symm⟩
   rw[this];constructor
   ·rintro⟨h1,h2,h3⟩;exact⟨h2,h1,h3⟩
   ·rintro⟨h2,h1,h3⟩;exact⟨h1,h2,h3⟩
theorem s5:∀{l:List Ch} {t:List Pt},t.length=l.length→(∀x∈(jG l).zip (mT t),J8 x.1 x.2=true)=((l.zip t).all fun x=>IV x.1.parts x.2)
 | [],[],_=>by simp[jG,mT]
 |c::l,p::t,h=>by
  have ih:=s5 (l:=l) (t:=t) Yao;rw[List.zip_cons_cons,bDS,aYT,←ih];rw[sQ,show jG (c::l)=c.parts.a::c.parts.b::c.parts.c::jG l from rfl];simp only[List.zip_cons_cons,n4,forall_eq_or_imp,IV,Pt.l,List.zip_nil_left,bDS,List.all_nil,Bool.and_true,aYT,and_assoc]
theorem NL{y:bC}{t:List Pt}:t∈FL y ↔ kZ y t=true:=by
 unfold FL kZ;rw[GT,aYT,aZI];constructor
 ·rintro⟨s,hs,rfl⟩;obtain⟨h1,h2⟩:=sM.1 hs;rw[oY]at h1;obtain⟨g1,g2⟩:=GG _ _ h1;refine⟨g2,?_⟩;rw[←s5 g2,g1];exact fun x hx=>(h2 x hx).1
 ·rintro⟨h1,h2⟩;refine⟨mT t,sM.2 ⟨by rw[oY,GZ,h1],fun x hx=>⟨?_,bDY⟩⟩,aIR t⟩;rw[←s5 h1]at h2;exact h2 x hx
end Go.Fs.C7
namespace Go.Fs
open Go.Proofs Tryz
namespace L7
open C7
def AX(n:Nat)(M:List (uW 8×Int)):Prop:=∀p∈M,∃(m:Nat) (F:List Nat),p.1.l=(m:Int)::F.map (fun x:Nat=>(x:Int))∧p.2=(HT F n m:Int)
theorem U1:∀{F G:List Nat},F.map (fun x:Nat=>(x:Int))=G.map (fun x:Nat=>(x:Int))→F=G
 | [],[],_=>rfl
 |x::F,y::G,h=>by
  rw[aZR,aZR,bAT]at h;rw[U1 h.2,show x=y by omega]
theorem aQP{n m:Nat}{a0 G a2 a3 a4 a5 I:Nat}{M:List (uW 8×Int)}{v:Int}{h:[(m:Int),a0,G,a2,a3,a4,a5,I].length=8}(hok:AX n M)(hm:(⟨[(m:Int),a0,G,a2,a3,a4,a5,I],h⟩,v)∈M):v=(HT [a0,G,a2,a3,a4,a5,I] n m:Int):=by
 obtain⟨m',F,h1,h2⟩:=hok _ hm;simp only[bAT]at h1;obtain⟨h0,h1⟩:=h1;have:F=[a0,G,a2,a3,a4,a5,I]:=U1 (by rw[←h1];rfl)
 rw[this,show m'=m by omega]at h2;exact h2
theorem aPK{n m:Nat}{a0 G a2 a3 a4 a5 I:Nat}{M M':List (uW 8×Int)}{v:Int}{h:[(m:Int),a0,G,a2,a3,a4,a5,I].length=8}(hok:AX n M)(hm:∀p∈M',p∈M∨p=(⟨[(m:Int),a0,G,a2,a3,a4,a5,I],h⟩,v))(hv:v=(HT [a0,G,a2,a3,a4,a5,I] n m:Int)):AX n M':=fun p hp=>by
 rcases hm p hp with h1|rfl
 ·exact hok p h1
 ·exact⟨m,[a0,G,a2,a3,a4,a5,I],rfl,hv⟩
theorem AX.nil{n:Nat}:AX n []:=fun p hp=>by cases hp
theorem IC{m n:Nat}(h:∀x,m.testBit x=true→x<n)(hn:n≤7):m<128:=by
 have:m<2^n:=by
  apply Nat.lt_pow_two_of_testBit;intro i hi;cases e:m.testBit i with
  |false=>rfl
  |true=>have:=h i e;omega
 have h2:2^n≤2^7:=bCE Yd hn;omega
theorem s8{m n a:Nat}(h:∀x,m.testBit x=true→x<n):∀x,(tB m (2^a)).testBit x=true→x<n:=fun x hx=>h x (by rw[aSU]at hx;simp at hx;exact hx.1)
theorem IE{k:Nat}(h:k<7):2^k<128:=by
 have:2^k<2^7:=Nat.pow_lt_pow_right Yd h;omega
theorem aTM{F:List Nat}(h:∀f∈F,f<128)(a:Nat):F.getD a 0<128:=by
 rw[bAQ];cases e:F[a]? with
 |none=>simp
 |some x=>exact h x (LE e)
theorem aIB(a0 G a2 a3 a4 a5 I:Nat){a:Nat}(h:a<7):([qI (a0:Int),qI (G:Int),qI (a2:Int),qI (a3:Int),qI (a4:Int),qI (a5:Int),qI (I:Int)]:List Value)[a*1]?= some (qI (([a0,G,a2,a3,a4,a5,I].getD a 0:Nat):Int)):=by
 have e:a=0∨a=1∨a=2∨a=3∨a=4∨a=5∨a=6:=by omega
 rcases e with rfl|rfl|rfl|rfl|rfl|rfl|rfl<;>rfl
theorem OR(F:List Nat)(n:Nat):∀m,HT F n m≤m:=by
 intro m;induction m using Nat.strongRecOn with
 |_ m ih=>
  by_cases hm:m=0
  ·subst hm;rw[NS];exact aZL _
  ·have hlt:=t7 (yZ hm).1;rcases UO (F:=F) (rest:=tB m (2^low m)) (a:=low m) (nu:=HT F n) (List.range n) (HT F n (tB m (2^low m)))with h|⟨b,_,_,h⟩
   ·rw[PR hm,h];have:=ih _ hlt;omega
   ·rw[PR hm,h];have h2:=SY (b:=b) hm;have:=ih _ h2;omega
def aDI(F:List Nat)(n m k:Nat):Nat:=(List.range k).foldl (vK F (tB m (2^low m)) (low m) (HT F n)) (HT F n (tB m (2^low m)))
theorem aJI{F:List Nat}{n m:Nat}(h:m≠0):HT F n m=aDI F n m n:=PR h
theorem aLN{F:List Nat}{n m k:Nat}(h:(tB m (2^low m)&&&F.getD (low m) 0).testBit k=true):aDI F n m (k+1)=max (aDI F n m k) (1+HT F n (tB (tB m (2^low m)) (2^k))):=by
 have e:aDI F n m (k+1)=vK F (tB m (2^low m)) (low m) (HT F n) (aDI F n m k) k:=by unfold aDI;rw[bAS,bAN,bAG,List.foldl_nil]
 rw[e];unfold vK;rw[aZK h]
theorem aUG{F:List Nat}{n m k:Nat}(h:(tB m (2^low m)&&&F.getD (low m) 0).testBit k=false):aDI F n m (k+1)=aDI F n m k:=by
 have e:aDI F n m (k+1)=vK F (tB m (2^low m)) (low m) (HT F n) (aDI F n m k) k:=by unfold aDI;rw[bAS,bAN,bAG,List.foldl_nil]
 rw[e];unfold vK;rw[aZB (by rw[h];simp)]
theorem EQ{wb mb t cl:Nat}{cs:List Value}{es:Array MapEntry}:∀p∈[(wb,Obj.cells cs.toArray t (0,0)),(mb,.map es cl)],dB p.2:=by
 intro p hp;simp only[n4,n3,bBB]at hp;rcases hp with rfl|rfl
 ·rfl
 ·trivial
theorem aGQ:KA prog 387 7:=⟨(prog.fieldsOf 387)[0]!,(prog.fieldsOf 387)[1]!,3,by kernel_rfl,by kernel_rfl,by kernel_rfl,by decide+kernel,by decide+kernel,by kernel_rfl,by kernel_rfl,by kernel_rfl,by kernel_rfl,by kernel_rfl,by kernel_rfl,by rw[show((prog.fieldsOf 387)[1]!).type=305 by kernel_rfl];exact P8,by rw[show((prog.fieldsOf 387)[1]!).type=305 by kernel_rfl];exact xB,aM⟩
theorem aFD(wb mb:Nat)(cv qv:Value)(fit:Int)(chs:List Ch)(a0 I a2 a3 a4 a5 O:Nat)(hK:chs.length≤7)(hF:∀f∈[a0,I,a2,a3,a4,a5,O],f<128):
  ∀(L m:Nat),m=L→(∀x,m.testBit x=true→x<chs.length)→∀(es:Array MapEntry) (clock:Nat) (M:List (uW 8×Int)) (D:aC),Sl D wZ 4 cv chs→yF X2 es M→AX chs.length M→
  AN prog 248 [qP wb,.agg #[qI (m:Int),qI (a0:Int),qI (I:Int),qI (a2:Int),qI (a3:Int),qI (a4:Int),qI (a5:Int),qI (O:Int)]] D [(wb,qC [cv,qI fit,qv,.map (some mb)] 299),(mb,.map es clock)] (fun _ v ν'=>v=qI (HT [a0,I,a2,a3,a4,a5,O] chs.length m:Int)∧∃es' clock' M',ν'=[(wb,qC [cv,qI fit,qv,.map (some mb)] 299),(mb,.map es' clock')]∧yF X2 es' M'∧AX chs.length M'):=by
 intro L;induction L using Nat.strongRecOn with
 |_ L ih=>
 intro m hL hbits es clock M D hS hM hok;subst hL;have hl1:=hS.len;have hmb:=IC hbits hK;refine iL 78 func248 rfl rfl rfl rfl (fun h0 hwl hwn=>aA<|Zu rfl (fun q1 E1 hE1 G=>Zg rfl<|bJ<|Zh rfl V4 rfl<|Zj 0 rfl aJ rfl G rfl<|Zam rfl<|aF<|Zz rfl (fun hN=>?_) (fun hN=>?_)))
 ·refine aA<|Zg rfl<|aG<|Zap ?_;exact Zac [] [] [_,_] [_] rfl ⟨rfl,bDY⟩ rfl (fun D hD=>⟨by show Value.int _ _=_;rw[show m=0 by omega,NS];rfl,es,clock,M,rfl,hM,hok⟩)
 ·have Y:m≠0:=by omega
  have hlow:=yZ Y;have hlown:=hbits _ hlow.1;have U:low m<7:=by omega
  have hp2:=IE U;have hlt:=t7 hlow.1;have hrest:=J5 m (2^low m);refine aT<|aS<|aS<|bW [] 6 11 784<|Za rfl<|Zaj rfl<|Zh rfl CD rfl<|Zm rfl VY rfl Mm0 rfl<|Zq rfl VZ rfl G VS<|ZB (val:=X2 (n:=8)) (a:=⟨[(m:Int),(a0:Int),(I:Int),(a2:Int),(a3:Int),(a4:Int),(a5:Int),(O:Int)],rfl⟩) rfl U297 aGQ.key dS rfl rfl Mm1 n3 hM rfl bDY (fun nv ok hmem=>Za rfl<|Zaf rfl ?_);refine Zaf rfl<|Zg rfl<|Zg rfl<|aL<|Za rfl<|aF<|aP rfl (fun hc2=>?_) (fun hc2=>?_)
  ·subst hc2;refine aA<|Za rfl<|Zg rfl<|aG<|Zap ?_;exact Zac [] [] [_,_] [_] rfl ⟨rfl,bDY⟩ rfl (fun D hD=>⟨by show Value.int _ _=_;rw[aQP hok (hmem rfl)],es,clock,M,rfl,hM,hok⟩)
  ·refine aT<|aA<|Zh rfl V4 rfl<|Zj 0 rfl aJ rfl G rfl<|Zc rfl (fun D1 hD1=>aCT m (low m) _ hlow.1 Yd hlow.2)<|Zg rfl<|bT<|bW [] 2 6 12<|Zh rfl V4 rfl<|Zj 0 rfl aJ rfl G rfl<|Za rfl<|q9 rfl rfl rfl Yd rfl bDY ?_;refine aIN rfl rfl rfl Yd Yd rfl bDY<|Zg rfl<|aL<|Za rfl<|Za rfl<|Zh rfl R6 rfl<|dW rfl (k:=1) (us:=[qI (a0:Int),qI (I:Int),qI (a2:Int),qI (a3:Int),qI (a4:Int),qI (a5:Int),qI (O:Int)]) P8 xB rfl G Yc rfl rfl n3 rfl bDY<|kE (cs:=[qI ((tB m (2^low m):Nat):Int),qI (a0:Int),qI (I:Int),qI (a2:Int),qI (a3:Int),qI (a4:Int),qI (a5:Int),qI (O:Int)]) rfl GB FZ rfl Yg rfl bDY<|fK (A:=[]) (ν:=[(_,_),(_,_)]) (B:=[]) rfl rfl rfl rfl (aZE rfl) (EQ (cs:=[_,_,_,_])) (fun D5 hO=>ih _ hlt _ rfl (s8 hbits) es clock M D5 (hS.up wZ.up (hO _ Ye)) hM hok) rfl bDY (fun v5 D6 _ hD6 hR=>?_);obtain⟨rfl,hX,hY,M4,rfl,rA,hB⟩:=hR;refine Zg rfl<|bJ<|Za rfl<|Zaj rfl<|Zh rfl B6 rfl<|Zh rfl eO rfl<|Zm rfl jE rfl Mm0 rfl<|Zab rfl U37 rfl hS rfl<|Za rfl<|aF<|Zar<|dD (γ:=Nat×Array MapEntry×Nat×List (uW 8×Int)) (fun g=>chs.length-g.1) (fun g=>g.1≤chs.length∧yF X2 g.2.1 g.2.2.2∧AX chs.length g.2.2.2) (fun g=>[(45,qI (g.1:Int)),(9,qI (aDI [a0,I,a2,a3,a4,a5,O] chs.length m g.1:Int))]) [(44,_),(8,_),(7,_),(4,_),(3,_),(0,_)] (fun g=>[(wb,qC [cv,qI fit,qv,.map (some mb)] 299),(mb,.map g.2.1 g.2.2.1)]) (fun g=>[D6,E1,D]) (0,hX,hY,M4) ⟨by simp,rA,hB⟩ ⟨Yb,Yb,bDY⟩ cQ Mm5 (aH) ?_;rintro⟨k,hE,hH,M1⟩ ⟨h1,Z,R⟩;simp only at h1 Z R;refine aA<|Zai rfl<|bT<|Zz rfl (fun rB=>?_) (fun rB=>?_)
   ·have hk:k<chs.length:=by omega
    have hpk:=IE (show k<7 by omega);have hrow:=aTM hF (low m);have hdl:=J5 (tB m (2^low m)) (2^k);have hnl:=OR [a0,I,a2,a3,a4,a5,O] chs.length (tB (tB m (2^low m)) (2^k));have hand:=Nat.and_le_left (n:=tB m (2^low m)) (m:=[a0,I,a2,a3,a4,a5,O].getD (low m) 0);refine aT<|aS<|Zar<|aA<|Za rfl<|Zg rfl<|aL<|Za rfl<|Za rfl<|Zh rfl R6 rfl<|fC rfl U305 aM rfl rfl Yd Yd rfl bDY<|dU (o:=0+1) (k:=low m*1) rfl aJ rfl G.tail Ye (aIB a0 I a2 a3 a4 a5 O U) n3 rfl bDY ?_;refine aVX rfl rfl rfl Yd Yd rfl bDY<|Za rfl<|s4 rfl rfl rfl Yd rfl bDY<|G1 rfl rfl rfl (Int.natCast_nonneg _) Yd (by rw[nG];split<;>simp only[uN]<;>omega) rfl bDY<|Zam rfl<|aF<|Zz rfl (fun V=>?_) (fun V=>?_)
    ·have hbit:(tB m (2^low m)&&& [a0,I,a2,a3,a4,a5,O].getD (low m) 0).testBit k=true:=by rw[nG]at V;simpa using V
     refine lA G Ye (fun hI=>?_);have hI:q1∉[wb,mb]:=hI;refine lI [wb,mb] 6 [0,1,2,3,4,5,6,7,8,9,10,11,12] [false,true,true,true,true,true,true,true,true,true,true,false,false] [(false,0),(true,1),(true,2),(true,3),(true,4),(true,5),(true,6),(true,7),(true,8),(true,9),(true,10),(false,11),(false,12)] bI (fun _ _ _ h=>jA (P:=prog) (fn:=f248) _ _ _ h) Yg rfl<|Za rfl<|Za rfl<|Za rfl<|Za rfl<|q9 rfl rfl rfl Yd rfl bDY<|aIN rfl rfl rfl Yd Ym rfl bDY<|Zh rfl R6 rfl<|dW rfl (k:=1) (us:=[qI (a0:Int),qI (I:Int),qI (a2:Int),qI (a3:Int),qI (a4:Int),qI (a5:Int),qI (O:Int)]) P8 xB rfl G Yc rfl rfl Yn rfl bDY<|kE (cs:=[qI ((tB (tB m (2^low m)) (2^k):Nat):Int),qI (a0:Int),qI (I:Int),qI (a2:Int),qI (a3:Int),qI (a4:Int),qI (a5:Int),qI (O:Int)]) rfl GB FZ rfl Yg rfl bDY<|fK (A:=[]) (ν:=[(_,_),(_,_)]) (B:=[]) rfl rfl rfl rfl (aYZ (fun p hp=>GT.2 ⟨p,hp,rfl⟩)) (EQ (cs:=[_,_,_,_])) (fun D7 hD7=>ih _ (SY Y) _ rfl (s8 (s8 hbits)) hE hH M1 D7 (hS.up wZ.up (hD7 _ Ye)) Z R) rfl bDY (fun v7 D8 _ hD8 hp7=>?_);obtain⟨rfl,es5,cl5,M5,rfl,hM5,hJ⟩:=hp7;refine Zaa rfl<|qW rfl rfl rfl rfl bDY<|Zg rfl<|Zah<|Zat<|Zaq<|aU<|Zaa rfl<|Za rfl<|Zah ?_;exact aK 30 (k+1,es5,cl5,M5) ⟨by simp only;omega,hM5,hJ⟩ Ym ⟨Yb,(by rw[aLN hbit];show some (Value.int _ _)=some (Value.int _ _);congr 2;simp only;omega),bDY⟩ rfl rfl Mm5 (fun D h=>⟨D,aZJ _ (h),Le.refl D⟩)
    ·have hbit:(tB m (2^low m)&&& [a0,I,a2,a3,a4,a5,O].getD (low m) 0).testBit k=false:=by rw[nG]at V;simpa using V
     refine bM<|Zat<|Zaq<|aU<|Zaa rfl<|Za rfl<|Zah ?_;exact aK 17 (k+1,hE,hH,M1) ⟨by simp only;omega,Z,R⟩ Ym ⟨Yb,(by rw[aUG hbit];rfl),bDY⟩ rfl rfl Mm5 (aH)
   ·obtain rfl:k=chs.length:=by omega
    refine aW<|Zas<|Zas<|Zav<|Zaq<|aS<|bW [] 3 7 48<|Za rfl<|Zaj rfl<|Zh rfl CD rfl<|Zm rfl VY rfl Mm0 rfl<|Zq rfl VZ rfl G VS ?_;refine Za rfl<|aBZ (val:=X2 (n:=8)) (A:=[(_,_)]) (B:=[]) (a:=⟨[(m:Int),(a0:Int),(I:Int),(a2:Int),(a3:Int),(a4:Int),(a5:Int),(O:Int)],rfl⟩) rfl U297 aGQ.key rfl rfl rfl Z bDY (fun es3 cl3 M3 hM3 hm3=>aL<|Za rfl<|Zg rfl<|aG ?_);exact Zac [] [] [_,_] [_] rfl ⟨rfl,bDY⟩ rfl (fun D hD=>⟨by show Value.int _ _=_;rw[aJI Y],es3,cl3,M3,rfl,hM3,aPK R hm3 (by rw[aJI Y])⟩)
end L7
namespace L7
open C7
structure NF(n:Nat)(s:Sc):Prop where
 len:s.fits.length=7
 row:∀f∈s.fits,f<128
 bits:∀x,s.broken.testBit x=true→x<n
 whole:s.whole≤7
def uK(n:Nat)(s:Sc):Nat:=s.whole+HT s.fits n s.broken
theorem aSG{α:Type}{l:List α}(h:l.length=7):∃a b c d e f g,l=[a,b,c,d,e,f,g]:=by
 match l,h with
 | [a,b,c,d,e,f,g],_=>exact⟨a,b,c,d,e,f,g,rfl⟩
theorem CQ{y:bC}{t:List Pt}(hl:t.length=y.chairs.length)(G:t.length≤7):NF y.chairs.length (eC y t):=by
 refine⟨by simp[eC],fun f hf=>?_,fun x hx=>?_,?_⟩
 ·obtain⟨j,_,rfl⟩:=GT.1 hf;have h1:=FY (oZ y t j) t.length;have h2:2^t.length≤2^7:=bCE Yd G;omega
 ·simp only[eC]at hx;rw[wB]at hx;simp at hx;omega
 ·have:whole t≤t.length:=bBO _ _;simp only[eC];omega
def PE(l:List (Int×Int)):List Value:=l.flatMap fun p=>[qI p.1,qI p.2]
theorem LA(l:List (Int×Int))(p:Int×Int):PE (l++[p])=PE l++[qI p.1,qI p.2]:=by simp[PE]
theorem I4(l:List (Int×Int)):(PE l).length=l.length*2:=by
 induction l with
 |nil=>rfl
 |cons c l ih=>unfold PE at ih ⊢;rw[bAC,aYS,ih];simp only[aYW,bAP];omega
theorem aRA{l:List (Int×Int)}{i:Nat}{c:Int×Int}(hi:l[i]?= some c):((PE l).drop (i*2)).take 2=[qI c.1,qI c.2]:=by
  induction l generalizing i with
  |nil=>simp at hi
  |cons d l ih=>
    unfold PE at ih ⊢
    rw[bAC];cases i with
    | zero => obtain rfl : d = c := by simpa using hi
              rfl
    |succ i=>
      rw[bDA,aZZ Yaj,aZU];have:(i+1)*2- [Value.int .i64 d.1,Value.int .i64 d.2].length=i*2:=by simp;omega
      rw[this];exact ih Yal
theorem _root_.Go.Fs.mK.prs{D:aC}{v:Value}{n:Nat}{l:List (Int×Int)}(hF:mK D v n (PE l))(hn:l.length=n)(hb:n≤9223372036854775807):Sl D R2 2 v l:=
 hF.sl hn hb fun _i _t hi=>⟨_,rfl,rfl,aRA hi⟩
theorem aHX(wb mb:Nat)(cv qv:Value)(fit:Int)(chs:List Ch)(w b:Nat)(a0 I a2 a3 a4 a5 O:Nat)(R:chs.length≤7)(hF:∀f∈[a0,I,a2,a3,a4,a5,O],f<128)(hw:w≤7)(hbits:∀x,b.testBit x=true→x<chs.length)(es:Array MapEntry)(clock:Nat)(M:List (uW 8×Int))(D:aC)(hS:Sl D wZ 4 cv chs)(hM:yF X2 es M)(hok:AX chs.length M):
  AN prog 175 [qP wb,.agg #[qI (w:Int),qI ((b:Nat):Int),qI (a0:Int),qI (I:Int),qI (a2:Int),qI (a3:Int),qI (a4:Int),qI (a5:Int),qI (O:Int)]] D [(wb,qC [cv,qI fit,qv,.map (some mb)] 299),(mb,.map es clock)] (fun _ v ν'=>v=qI ((w+HT [a0,I,a2,a3,a4,a5,O] chs.length b:Nat):Int)∧∃es' clock' M',ν'=[(wb,qC [cv,qI fit,qv,.map (some mb)] 299),(mb,.map es' clock')]∧yF X2 es' M'∧AX chs.length M'):=by
 have hbl:=IC hbits R;have hnl:=OR [a0,I,a2,a3,a4,a5,O] chs.length b;refine iL 15 func175 rfl rfl rfl rfl (fun h0 hwl hwn=>aA<|Zu rfl (fun q1 E1 hI G=>Zg rfl<|bT<|lA G Ye (fun U=>?_)));have U:q1∉[wb,mb]:=U;refine lI [wb,mb] 4 [0,1,2,3,4,5,6,7,8,9,10] [false,false,true,true,true,true,true,true,true,false,false] [(false,0),(false,1),(true,2),(true,3),(true,4),(true,5),(true,6),(true,7),(true,8),(false,9),(false,10)] bI (fun _ _ _ h=>jA (P:=prog) (fn:=f175) _ _ _ h) Yg rfl<|Zh rfl B4 rfl<|dU rfl (k:=0) aJ rfl G Yc rfl Yn rfl bDY<|Za rfl<|Zh rfl U2 rfl<|dU rfl (k:=1) aJ rfl G Yc rfl Yn rfl bDY<|Zh rfl zS rfl<|dW rfl (k:=2) (us:=[qI (a0:Int),qI (I:Int),qI (a2:Int),qI (a3:Int),qI (a4:Int),qI (a5:Int),qI (O:Int)]) P8 xB rfl G Yc rfl rfl Yn rfl bDY<|kE (cs:=[qI ((b:Nat):Int),qI (a0:Int),qI (I:Int),qI (a2:Int),qI (a3:Int),qI (a4:Int),qI (a5:Int),qI (O:Int)]) rfl GB FZ rfl Yg rfl bDY<|fK (A:=[]) (ν:=[(_,_),(_,_)]) (B:=[]) rfl rfl rfl rfl (by first|exact Or.inl rfl|exact Or.inr (fun p hp=>GT.2 ⟨p,hp,rfl⟩)) (EQ (cs:=[_,_,_,_])) (fun D5 Y=>aFD wb mb cv qv fit chs a0 I a2 a3 a4 a5 O R hF _ b rfl hbits es clock M D5 (hS.up wZ.up (Y _ Ye)) hM hok) rfl bDY (fun v5 D6 _ hJ Z=>?_);obtain⟨rfl,hB,hE,M1,rfl,hH,V⟩:=Z;refine Zaa rfl<|Zg rfl<|aG ?_;exact Zac [] [] [_,_] [_] rfl ⟨rfl,bDY⟩ rfl (fun D hD=>⟨by show Value.int _ _=_;congr 1,hB,hE,M1,rfl,hH,V⟩)
theorem aRO(wb mb:Nat)(cv qv:Value)(fit:Int)(chs:List Ch)(s:Sc)(G:chs.length≤7)(hs:NF chs.length s)(es:Array MapEntry)(clock:Nat)(M:List (uW 8×Int))(D:aC)(hS:Sl D wZ 4 cv chs)(hM:yF X2 es M)(hok:AX chs.length M):
  AN prog 175 [qP wb,QL s] D [(wb,qC [cv,qI fit,qv,.map (some mb)] 299),(mb,.map es clock)] (fun _ v ν'=>v=qI (uK chs.length s:Int)∧∃es' clock' M',ν'=[(wb,qC [cv,qI fit,qv,.map (some mb)] 299),(mb,.map es' clock')]∧yF X2 es' M'∧AX chs.length M'):=by
 obtain⟨w,b,F⟩:=s;obtain⟨a0,I,a2,a3,a4,a5,O,rfl⟩:=aSG hs.len;exact aHX wb mb cv qv fit chs w b a0 I a2 a3 a4 a5 O G hs.row hs.whole hs.bits es clock M D hS hM hok
end L7
namespace L7
open C7
structure aXU(y:bC):Prop where
 len:y.chairs.length≤7
 cls:y.claims.length≤5
 fit:0≤y.fit∧y.fit≤9
 size:∀c∈y.chairs,0≤c.size∧c.size≤9
 part:∀c∈y.chairs,∀n∈c.parts.l,0≤n∧n≤2
 claim:∀r∈y.claims,0≤r.1∧r.1≤r.2∧r.2≤7
 unk:lB y.chairs≤8
theorem aYP{y:bC}(h:aV y=0):aXU y:=by
 unfold aV at h;split at h
 ·omega
 ·rename_i h1;split at h
  ·omega
  ·rename_i h2;split at h
   ·omega
   ·rename_i h3;have h4:G8 y=true:=by simpa using h2
    simp only[G8,aYT,aZN,bX]at h4;obtain⟨⟨h5,G⟩,I⟩:=h4;refine⟨by omega,by omega,h5,fun c hc=>?_,fun c hc n hn=>?_,fun r hr=>?_,by omega⟩
    ·have:=G c hc;simp only[kC,aYT,bX]at this;exact this.1
    ·have:=G c hc;simp only[kC,aYT,TB,aZN]at this
     exact bX.1 (this.2 n hn)
    ·have:=I r hr;simp only[oH,aYT,aZI]at this;exact⟨this.1.1,this.1.2,this.2⟩
theorem aQO{y:bC}{t:List Pt}(h:kZ y t=true):t.length=y.chairs.length∧∀p∈t,DF p:=by
 unfold kZ at h;simp only[aYT,aZI,aZN]at h;refine⟨h.1,fun p hp=>?_⟩;obtain⟨i,hi⟩:=bBW.1 hp;obtain⟨hlt,_⟩:=aYV.1 hi;have hc:y.chairs[i]?= some (y.chairs[i]'Yd):=aYU _;have:=h.2 (y.chairs[i]'Yd,p) (LE (i:=i) (by rw[bDV];exact⟨hc,hi⟩))
 simp only[IV,Pt.l,List.zip_cons_cons,List.zip_nil_left,bDS,List.all_nil,Bool.and_true,aYT,J8,bX]at this;exact⟨this.1.1,this.2.1.1,this.2.2.1⟩
def wU(cl:List (Int×Int))(out:List Int)(n:Int)(i:Nat):Bool:=(out.any fun x=>decide ((i:Int)=x))||(match cl[i]? with|some r=>gW n r.1 r.2|none=>true)
def oT(cl:List (Int×Int))(out:List Int)(n:Int):Bool:=(List.range cl.length).all (wU cl out n)
theorem ZL{cl:List (Int×Int)}{out:List Int}{n:Int}{i:Nat}{r:Int×Int}(hr:cl[i]?= some r)(h:((!out.any fun x=>decide ((i:Int)=x))&& !gW n r.1 r.2)=false):wU cl out n i=true:=by
 unfold wU;rw[hr];revert h
 cases out.any fun x=>decide ((i:Int)=x)<;>simp
theorem y2{cl:List (Int×Int)}{out:List Int}{n:Int}{i:Nat}{r:Int×Int}(hi:i<cl.length)(hr:cl[i]?= some r)(h:((!out.any fun x=>decide ((i:Int)=x))&& !gW n r.1 r.2)=true):oT cl out n=false:=by
 unfold oT;rw[List.all_eq_false];refine⟨i,bBF.2 hi,?_⟩;unfold wU;rw[hr];revert h
 cases out.any fun x=>decide ((i:Int)=x)<;>simp
theorem R9{cl:List (Int×Int)}{out:List Int}{n:Int}(h:∀j,j<cl.length→wU cl out n j=true):oT cl out n=true:=by
 unfold oT;rw[aZN];exact fun j hj=>h j (bBF.1 hj)
def qK(y:bC)(t:List Pt):Nat:=uK y.chairs.length (eC y t)
theorem i7(yv:Value)(y:bC)(cv qv:Value)(D:aC)(hy:yv=.agg #[cv,qI y.fit,qv]):KZ prog 87 #[yv] D (fun _ v ν=>∃wb mb,v=qP wb∧ν=[(wb,qC [cv,qI y.fit,qv,.map (some mb)] 299),(mb,.map #[] 0)]):=by
 subst hy;refine pM 7 func87 rfl rfl rfl rfl fun h0=>aA<|Zu rfl (fun q1 M I G=>Zg rfl<|aL<|Zq rfl jC rfl G iO<|vX rfl rfl bDY (fun qm=>Zr [cv,qI y.fit,qv,.map (some qm)] rfl aMZ aLU rfl<|DK rfl (e:=299) rfl rfl rfl bDY (fun q2=>Zg rfl<|aG ?_)))
 exact aE rfl (fun D hD=>⟨_,_,rfl,rfl⟩)
theorem aEZ(sv:Value)(xs:List Int)(n:Int)(D:aC)(hS:Sl D RI 1 sv xs):Fn prog 320 #[sv,qI n] D (fun _ v=>v=qI (idxOf (fun x=>decide (n=x)) xs)):=by
 have hl:=hS.len;refine Zs 19 func320 rfl (fun h0=>aA<|Zg rfl<|bJ<|Za rfl<|cZ rfl U25 rfl Yl rfl rfl bDY<|Za rfl<|aF<|Zar<|Zl Nat (fun k=>xs.length-k) (fun k=>k≤xs.length∧(xs.take k).any (fun x=>decide (n=x))=false) (fun k=>[(8,qI k)]) [(7,_),(4,_),(0,_),(1,_)] (fun k=>[D]) 0 ⟨Yb,bDY⟩ ?_);rintro k ⟨h1,h2⟩;refine aA<|Zai rfl<|bT<|Zz rfl (fun G=>?_) (fun G=>?_)
 ·have hk:k<xs.length:=by omega
  obtain⟨x,hx⟩:=dV xs k;refine aT<|aS<|Zar<|aA<|Za rfl<|Zg rfl<|aL<|Za rfl<|Za rfl<|Za rfl<|eY rfl U25 aM rfl Yl rfl Yd Yl rfl bDY (fun U o1 I M R O=>?_);obtain rfl:I=[qI _]:=M;refine Zj 0 rfl aJ rfl O rfl<|Zam rfl<|aF<|Zz rfl (fun hc2=>?_) (fun hc2=>?_)
  ·refine aA<|Za rfl<|Zg rfl<|aG<|Zau<|Zap<|Zap<|Zau<|Zap ?_;exact aE rfl (fun D hD=>by show Value.int _ _=_;rw[kA hx h2 (by simp[hc2])])
  ·refine bM<|Zat<|Zaq<|aU<|Zaa rfl<|Za rfl<|Zah ?_;have h3:(xs.take (k+1)).any (fun x=>decide (n=x))=false:=by rw[aZG,hx,bCF,h2];simp[hc2]
   exact aK 12 (k+1) ⟨by omega,h3⟩ Yd ⟨Yb,bDY⟩ rfl rfl Mm5 (aH)
 ·refine aW<|Zas<|Zas<|Zav<|Zaq<|aA<|Zg rfl<|aG ?_;exact aE rfl (fun D hD=>by show Value.int _ _=_;rw[gE Yab])
theorem zI(sv:Value)(xs:List Int)(n:Int)(D:aC)(hS:Sl D RI 1 sv xs):Fn prog 225 #[sv,qI n] D (fun _ v=>v=.bool (xs.any fun x=>decide (n=x))):=by
 refine Zs 9 func225 rfl (fun h0=>aA<|Zg rfl<|aL<|Za rfl<|Za rfl<|Zc rfl (fun I G=>aEZ _ xs n _ (Sl.at RI.up G Yl Ye))<|tC rfl rfl rfl rfl bDY<|Zg rfl<|aG ?_);exact aE rfl (fun D hD=>by show Value.bool (decide _)=_;rw[jT])
theorem m7(yv:Value)(y:bC)(n:Int)(ov:Value)(out:List Int)(D:aC)(hy:nM D yv y)(ho:Sl D RI 1 ov out):Fn prog 176 #[yv,qI n,ov] D (fun _ v=>v=.bool (oT y.claims out n)):=by
 obtain⟨cv,qv,rfl,hc,hq⟩:=hy;have hl:=hq.len;refine Zs 28 func176 rfl (fun h0=>aA<|Zu rfl (fun q1 E1 hB I=>Zg rfl<|bJ<|Zh rfl iB rfl<|Zj 2 rfl pV rfl I rfl<|Zab rfl U38 rfl hq rfl<|Za rfl<|aF<|Zar<|Zl Nat (fun i=>y.claims.length-i) (fun i=>i≤y.claims.length∧∀j,j<i→wU y.claims out n j=true) (fun i=>[(12,qI (i:Int))]) [(11,_),(10,_),(6,_),(1,_),(2,_)] (fun i=>[E1,D]) 0 ⟨Yb,bDY⟩ ?_));rintro i ⟨h1,h2⟩;refine aA<|Zai rfl<|bT<|Zz rfl (fun M=>?_) (fun M=>?_)
 ·have hi:i<y.claims.length:=by omega
  obtain⟨r,G⟩:=dV y.claims i;refine aT<|aS<|Zar<|aA<|Za rfl<|Zw rfl U38 cU rfl hq rfl G (fun b1 o1 O R Z U=>?_);obtain rfl:O=[qI _,qI _]:=R;refine Zq rfl nQ rfl U cU<|Zx rfl kG rfl (fun q2=>Zg rfl<|Zt rfl cU (bR.head)<|aL<|Za rfl<|Za rfl<|Zc rfl (fun D1 V=>zI _ out (i:Int) _ (Sl.at RI.up V Yl Ye))<|Zal rfl<|Za rfl ?_);refine' dJ 5 (s:=21) (p:=26) rfl (fun Y=>?_) (fun Y=>?_) ?_;rotate_left
  ·refine bK rfl nQ rfl Mm0 cU n3 rfl ⟨_,rfl,rfl⟩<|Zb rfl<|Zd rfl (fun D2 hE=>AF r n _)<|lJ rfl rfl rfl ⟨_,rfl,rfl⟩<|Zad rfl ?_;exact aQ 4
  ·refine Zf rfl<|Zf rfl<|Zf rfl<|Zf rfl<|Zae rfl ?_;exact aQ 4
  refine aF<|aP rfl (fun hc2=>?_) (fun hc2=>?_)
  ·refine aA<|Zg rfl<|aG<|Zau<|Zap<|Zap<|Zau<|Zap ?_;exact aE rfl (fun D hD=>by show Value.bool _=_;rw[y2 hi G hc2])
  ·refine bM<|Zat<|Zaq<|aU<|Zaa rfl<|Za rfl<|Zah ?_;exact aK 15 (i+1) ⟨by omega,fun j hj=>by rcases Nat.lt_succ_iff_lt_or_eq.1 hj with h|rfl;exact h2 j h;exact ZL G hc2⟩ Yd ⟨Yb,bDY⟩ rfl rfl (List.Sublist.cons _ Mm5) (aH)
 ·obtain rfl:i=y.claims.length:=by omega
  refine aW<|Zas<|Zas<|Zav<|Zaq<|aA<|Zg rfl<|aG ?_;exact aE rfl (fun D hD=>by show Value.bool _=_;rw[R9 h2])
end L7
namespace L2
open L1
open C2
open C1 (gW bX qO pB)
theorem HZ{c:List Int}{a b:Int}(G:c.length=10)(h0:0≤a)(h1:a≤b)(I:b≤9):∃x xs,(c.drop a.toNat).take ((b+1).toNat-a.toNat)=x::xs∧xs.foldl max x=mB c a b:=by
 have hlen:((c.drop a.toNat).take ((b+1).toNat-a.toNat)).length=(b+1).toNat-a.toNat:=by simp;omega
 cases h:(c.drop a.toNat).take ((b+1).toNat-a.toNat)with
 |nil=>rw[h]at hlen;simp at hlen;omega
 |cons x xs=>
  refine⟨x,xs,rfl,?_⟩;unfold mB;rw[show(b+1-a).toNat=(b+1).toNat-a.toNat by omega,h];rfl
def j6(s:List Int)(m:Mk):Bool:=gW (mB s m.frm m.to) m.lo m.hi
theorem PD{last:Int}{m:Mk}(h:uY last m=true):0≤m.frm∧m.frm≤m.to∧m.to≤last∧0≤m.lo∧m.lo≤m.hi∧m.hi≤99:=by
 unfold uY tJ CU fW eJ at h;simp only[aYT,aZI,bX]at h;omega
theorem QM{t:aY}{c:List Int}{k:Nat}{m:Mk}(hx:t.marks[k]?= some m)(h2:(t.marks.take k).all (j6 c)=true)(h:((!([]:List Int).any fun x=>decide ((k:Int)=x))&& !gW (mB c m.frm m.to) (m.lo,m.hi).1 (m.lo,m.hi).2)=false):(t.marks.take (k+1)).all (j6 c)=true:=by
 rw[aZG,hx,List.all_append,h2];simpa [j6]using h
theorem y2{t:aY}{c:List Int}{k:Nat}{m:Mk}(hx:t.marks[k]?= some m)(h:((!([]:List Int).any fun x=>decide ((k:Int)=x))&& !gW (mB c m.frm m.to) (m.lo,m.hi).1 (m.lo,m.hi).2)=true):jD t c=false:=by
 unfold jD;rw[List.all_eq_false];exact⟨m,LE hx,by simpa using h⟩
theorem R9{t:aY}{c:List Int}{k:Nat}(h2:(t.marks.take k).all (j6 c)=true)(hk:t.marks.length≤k):jD t c=true:=by
 rw[aZP hk]at h2;exact h2
theorem aCL(l:List (Int×Int))(r:Int×Int):oF (l++[r])=min (oF l*eW r) 2001:=by
 unfold oF;rw[bAN];rfl
theorem DO{t:aY}{k:Nat}{r:Int×Int}(hx:t.heights[k]?= some r):oF (t.heights.take (k+1))=min (oF (t.heights.take k)*eW r) 2001:=by
 rw[aZG,hx];exact aCL _ _
theorem SB{t:aY}(h:BX t)(k:Nat):0≤oF (t.heights.take k)∧oF (t.heights.take k)≤2001:=by
 induction k with
 |zero=>simp[oF]
 |succ k ih=>
  cases hx:t.heights[k]? with
  |none=>rw[aZG,hx,Option.toList_none,aZA];exact ih
  |some r=>
   rw[DO hx];have h1:=rH (h.hts r (LE hx));have h2:0≤eW r:=by unfold eW;omega
   have h3:=Int.mul_nonneg ih.1 h2;omega
theorem aJZ{t:aY}(h:BX t)(k:Nat){r:Int×Int}(hr:fW r=true):0≤oF (t.heights.take k)*eW r∧oF (t.heights.take k)*eW r≤200100:=by
 have h0:=SB h k;have h1:=rH hr;have h2:0≤eW r∧eW r≤100:=by unfold eW;omega
 have h3:=Int.mul_nonneg h0.1 h2.1;have h4:=Int.mul_le_mul h0.2 h2.2 h2.1 Yd;omega
theorem S7{t:aY}{b:Bool}(h:((decide ((9:Int)<t.last)||decide ((6:Int)<(t.levels.length:Int)))||decide ((5:Int)<(t.marks.length:Int)))=b):ZO t=b:=h
theorem aER{t:aY}(h:((decide ((9:Int)<t.last)||decide ((6:Int)<(t.levels.length:Int)))||decide ((5:Int)<(t.marks.length:Int)))=false):t.last≤9:=by
 simp only[bAU,bAH]at h;omega
theorem JD{t:aY}{b:Bool}(h:(((((decide (t.last<0)||decide ((t.heights.length:Int)≠t.last+1))|| !t.heights.all fW)|| !eJ t.step)|| !t.levels.all eJ)|| !t.marks.all (uY t.last))=b):aSM t= !b:=by
 subst h;unfold aSM;have G:decide (t.last<0)= !decide (0≤t.last):=by by_cases h:t.last<0<;>simp[h]<;>omega
 have I:decide ((t.heights.length:Int)≠t.last+1)= !decide ((t.heights.length:Int)=t.last+1):=by simp
 rw[G,I];cases decide (0≤t.last)<;>cases decide ((t.heights.length:Int)=t.last+1)<;>cases t.heights.all fW<;>cases eJ t.step<;>cases t.levels.all eJ<;>cases t.marks.all (uY t.last)<;>rfl
section
variable{t:aY}(h1:((decide ((9:Int)<t.last)||decide ((6:Int)<(t.levels.length:Int)))||decide ((5:Int)<(t.marks.length:Int)))=false)
theorem aBT(h1:((decide ((9:Int)<t.last)||decide ((6:Int)<(t.levels.length:Int)))||decide ((5:Int)<(t.marks.length:Int)))=true):aV t=3:=by unfold aV;rw[aZK (S7 h1)]
include h1
theorem aYJ(h2:(((((decide (t.last<0)||decide ((t.heights.length:Int)≠t.last+1))|| !t.heights.all fW)|| !eJ t.step)|| !t.levels.all eJ)|| !t.marks.all (uY t.last))=false):BX t:=aYR (S7 h1) (JD h2)
theorem T6(h2:(((((decide (t.last<0)||decide ((t.heights.length:Int)≠t.last+1))|| !t.heights.all fW)|| !eJ t.step)|| !t.levels.all eJ)|| !t.marks.all (uY t.last))=true):aV t=1:=by
 unfold aV;rw[aZB (by simp[S7 h1]),aZK (show aSM t=false from JD h2)]
variable(h2:(((((decide (t.last<0)||decide ((t.heights.length:Int)≠t.last+1))|| !t.heights.all fW)|| !eJ t.step)|| !t.levels.all eJ)|| !t.marks.all (uY t.last))=false)
include h2
theorem QP(h4:2000<oF t.heights):aV t=3:=by
 unfold aV;rw[aZB (by simp[S7 h1]),aZB (by simp[JD h2]),aZK h4]
theorem QH(h4:¬2000<oF t.heights)(hn:fO t=[]):aV t=9:=by
 unfold aV;rw[aZB (by simp[S7 h1]),aZB (by simp[JD h2]),aZB h4,aZK hn]
theorem vL(h4:¬2000<oF t.heights)(hn:fO t≠[]):aV t=0:=by
 unfold aV;rw[aZB (by simp[S7 h1]),aZB (by simp[JD h2]),aZB h4,aZB hn]
end
theorem AG(c:List Int)(a b:Int)(D:aC)(G:c.length=10)(h0:0≤a)(h1:a≤b)(O:b≤9):Fn prog 218 #[.agg (ints c).toArray,qI a,qI b] D (fun _ v=>v=qI (mB c a b)):=by
 obtain⟨x,xs,hx,hv⟩:=HZ G h0 h1 O;refine Zs 12 func218 rfl (fun h0=>aA<|Zu rfl (fun q1 U R I=>Zg rfl<|aL<|Za rfl<|Za rfl<|Zaa rfl<|aBB (l:=a.toNat) (h:=(b+1).toNat) rfl U320 aM rfl rfl rfl Yd Yd Yd Yd Yd rfl bDY<|Zc rfl (fun V M=>aDP _ x xs _ (hx▸(VA (l:=a.toNat) (h:=(b+1).toNat) I G Yd Yd Yd).up RI.up (M _ Ye)))<|Zg rfl<|aG ?_));exact aE rfl (fun D hD=>by show Value.int _ _=_;rw[hv])
theorem m7(tv:Value)(t:aY)(c:List Int)(D:aC)(ht:iJ D tv t)(hto:BX t)(G:c.length=10):Fn prog 180 #[tv,.agg (ints c).toArray,qN] D (fun _ v=>v=.bool (jD t c)):=by
 obtain⟨hv,lv,mv,rfl,hh,hl,hm⟩:=ht;have hll:=hm.len;have hlast:=hto.last;refine Zs 34 func180 rfl (fun h0=>aA<|Zu rfl (fun q1 E1 hB I=>Zu rfl (fun q2 E2 hE M=>Zg rfl<|bJ<|Zh rfl iA rfl<|Zj 4 rfl pH rfl I rfl<|Zab rfl U30 rfl hm rfl<|Za rfl<|aF<|Zar ?_)));refine Zl Nat (fun k=>t.marks.length-k) (fun k=>k≤t.marks.length∧(t.marks.take k).all (j6 c)=true) (fun k=>[(12,qI (k:Int))]) [(11,_),(10,_),(6,_),(4,_),(2,_)] (fun k=>[E2,E1,D]) 0 ⟨Yb,bDY⟩ ?_;rintro k ⟨h1,h2⟩;refine aA<|Zai rfl<|bT<|Zz rfl (fun O=>?_) (fun O=>?_)
 ·have hk:k<t.marks.length:=by omega
  obtain⟨m,hx⟩:=dV t.marks k;have hmb:=PD (hto.mark m (LE hx));refine aT<|aS<|Zar<|aA<|Za rfl<|Zw rfl U30 iG rfl hm rfl hx (fun b1 o1 R U Z V=>?_);obtain rfl:R=[qI _,qI _,qI _,qI _]:=U;refine Zq rfl P5 rfl V iG<|Zx rfl wS rfl (fun q3=>Zg rfl<|Zt rfl iG (bR.head)<|bT<|bW [] 5 16 8066<|Za rfl<|Za rfl<|Zc rfl (fun D1 hF=>L7.zI _ [] (k:Int) _ Sl.nil)<|Zal rfl<|Za rfl ?_);refine' dJ 11 (s:=21) (p:=32) rfl (fun Y=>?_) (fun Y=>?_) ?_;rotate_left
  ·refine Zi rfl EJ rfl<|dM rfl jQ cB rfl Mm0 rfl rfl n3 rfl ⟨_,rfl,rfl⟩<|dQ rfl nJ rfl M Yc Yu n3 rfl ⟨_,rfl,rfl⟩<|Zi rfl BT rfl<|Zn rfl aJ rfl Mm0 rfl<|Zi rfl CB rfl<|Zn rfl aJ rfl Mm0 rfl<|Zd rfl (fun D2 hH=>AG c m.frm m.to _ G hmb.1 hmb.2.1 Yd)<|Zd rfl (fun D3 hI=>AF (m.lo,m.hi) _ _)<|lJ rfl rfl rfl ⟨_,rfl,rfl⟩<|Zad rfl ?_;exact aQ 10
  ·refine Zf rfl<|Zf rfl<|Zf rfl<|Zf rfl<|Zf rfl<|Zf rfl<|Zf rfl<|Zf rfl<|Zf rfl<|Zf rfl<|Zae rfl ?_;exact aQ 10
  refine aF<|aP rfl (fun hc2=>?_) (fun hc2=>?_)
  ·refine aA<|Zg rfl<|aG<|Zau<|Zap<|Zap<|Zau<|Zap ?_;exact aE rfl (fun D hD=>by show Value.bool _=_;rw[y2 hx hc2])
  ·refine bM<|Zat<|Zaq<|aU<|Zaa rfl<|Za rfl<|Zah ?_;exact aK 15 (k+1) ⟨by omega,QM hx h2 hc2⟩ Yd ⟨Yb,bDY⟩ rfl rfl (List.Sublist.cons _ Mm5) (aH)
 ·refine aW<|Zas<|Zas<|Zav<|Zaq<|aA<|Zg rfl<|aG ?_;exact aE rfl (fun D hD=>by show Value.bool _=_;rw[R9 h2 Yd])
theorem E0(tv:Value)(t:aY)(D:aC)(ht:iJ D tv t):Fn prog 178 #[tv] D (fun _ v=>v=qI (aV t)):=by
 have ht0:=ht;obtain⟨hv,lv,mv,rfl,hh,hl,hm⟩:=ht;have hll:=hh.len;have hl2:=hl.len;have hl3:=hm.len;refine GA 82 func178 rfl rfl rfl rfl fun h0=>aA<|Zu rfl (fun q1 E1 hE1 G=>Zx rfl FS rfl (fun q2=>aL<|Zq rfl iI rfl G gT<|Zao rfl<|Zg rfl<|bT<|Zar<|aA<|Zh rfl jU rfl ?_));refine Zj 0 rfl aJ rfl G rfl<|fI rfl rfl rfl rfl bDY<|Za rfl ?_
 refine' cR 5 (s:=13) (p:=18) rfl (fun hB=>?_) (fun hB=>?_) ?_;rotate_left
 ·refine Zi rfl gR rfl<|Zk 3 rfl dN rfl G rfl<|cZ rfl U25 rfl hl rfl rfl ⟨_,rfl,rfl⟩<|fI rfl rfl rfl rfl ⟨_,rfl,rfl⟩<|Zae rfl ?_;exact aQ 4
 ·refine Zf rfl<|Zf rfl<|Zf rfl<|Zf rfl<|Zad rfl ?_;exact aQ 4
 refine Za rfl ?_;refine' cR 5 (s:=19) (p:=24) rfl (fun hE=>?_) (fun hE=>?_) ?_;rotate_left
 ·refine Zi rfl iA rfl<|Zk 4 rfl pH rfl G rfl<|cZ rfl U30 rfl hm rfl rfl ⟨_,rfl,rfl⟩<|fI rfl rfl rfl rfl ⟨_,rfl,rfl⟩<|Zae rfl ?_;exact aQ 4
 ·refine Zf rfl<|Zf rfl<|Zf rfl<|Zf rfl<|Zad rfl ?_;exact aQ 4
 refine Zg rfl<|aF<|aP rfl (fun I=>?_) (fun I=>?_)
 ·refine aA<|Zo rfl pG (bR.head) rfl<|aG<|Zau<|Zap ?_;exact uC (vs:=[_]) rfl rfl rfl ⟨⟨_,_,_,rfl,bDJ _,aZE ⟨pD,rfl⟩⟩,bDY⟩ (fun D hD=>by show Value.int _ _=_;rw[aBT I])
 ·refine aA<|Zh rfl jU rfl<|Zj 0 rfl aJ rfl G rfl<|Zai rfl<|Za rfl ?_;refine' cR 8 (s:=29) (p:=37) rfl (fun Y=>?_) (fun Y=>?_) ?_;rotate_left
  ·have hl0:0≤t.last:=by have:=Y;simp only[bAH]at this;omega
   have hl9:t.last≤9:=aER I;refine Zi rfl fP rfl<|Zk 1 rfl lM rfl G rfl<|cZ rfl U29 rfl hh rfl rfl ⟨_,rfl,rfl⟩<|Zi rfl jU rfl<|Zk 0 rfl aJ rfl G rfl<|y7 rfl rfl rfl Yf rfl ⟨_,rfl,rfl⟩<|mS rfl rfl rfl rfl ⟨_,rfl,rfl⟩<|Zae rfl ?_;exact aQ 7
  ·refine Zf rfl<|Zf rfl<|Zf rfl<|Zf rfl<|Zf rfl<|Zf rfl<|Zf rfl<|Zad rfl ?_;exact aQ 7
  refine Za rfl ?_;refine' cR 5 (s:=38) (p:=43) rfl (fun hF=>?_) (fun hF=>?_) ?_;rotate_left
  ·refine Zi rfl fP rfl<|Zk 1 rfl lM rfl G rfl<|Zd rfl (fun D1 hH=>GK _ _ _ fW _ (Sl.at Z7.up hH Yl Ye) (.of fun x V=>l7 x V) rfl)<|lJ rfl rfl rfl ⟨_,rfl,rfl⟩<|Zae rfl ?_;exact aQ 4
  ·refine Zf rfl<|Zf rfl<|Zf rfl<|Zf rfl<|Zad rfl ?_;exact aQ 4
  refine Za rfl ?_;refine' cR 5 (s:=44) (p:=49) rfl (fun hI=>?_) (fun hI=>?_) ?_;rotate_left
  ·refine Zi rfl tH rfl<|Zk 2 rfl aJ rfl G rfl<|Zd rfl (fun V hD2=>zV _ _)<|lJ rfl rfl rfl ⟨_,rfl,rfl⟩<|Zae rfl ?_;exact aQ 4
  ·refine Zf rfl<|Zf rfl<|Zf rfl<|Zf rfl<|Zad rfl ?_;exact aQ 4
  refine Za rfl ?_;refine' cR 5 (s:=50) (p:=55) rfl (fun hJ=>?_) (fun hJ=>?_) ?_;rotate_left
  ·refine Zi rfl gR rfl<|Zk 3 rfl dN rfl G rfl<|Zd rfl (fun D3 hK=>O4 _ _ _ eJ _ (Sl.at RI.up hK Yl Ye) (.of fun x V=>zV x V) rfl)<|lJ rfl rfl rfl ⟨_,rfl,rfl⟩<|Zae rfl ?_;exact aQ 4
  ·refine Zf rfl<|Zf rfl<|Zf rfl<|Zf rfl<|Zad rfl ?_;exact aQ 4
  refine Za rfl ?_;refine' cR 6 (s:=56) (p:=62) rfl (fun hM=>?_) (fun hM=>?_) ?_;rotate_left
  ·refine Zi rfl iA rfl<|Zk 4 rfl pH rfl G rfl<|Zb rfl<|Zd rfl (fun D4 Z=>aOC _ _ _ (uY t.last) _ (Sl.at KX.up Z Yl Ye) ⟨_,[_],[],rfl,fun m V hl=>aOS _ t m V (ht0.up ((Z _ Ye).trans hl))⟩ rfl)<|lJ rfl rfl rfl ⟨_,rfl,rfl⟩<|Zae rfl ?_;exact aQ 5
  ·refine Zf rfl<|Zf rfl<|Zf rfl<|Zf rfl<|Zf rfl<|Zad rfl ?_;exact aQ 5
  refine Zg rfl<|aF<|aP rfl (fun hc2=>?_) (fun hc2=>?_)
  ·refine aA<|Zo rfl pG (bR.head) rfl<|aG<|Zau<|Zap ?_;exact uC (vs:=[_]) rfl rfl rfl ⟨⟨_,_,_,rfl,bDJ _,aZE ⟨pD,rfl⟩⟩,bDY⟩ (fun D hD=>by show Value.int _ _=_;rw[T6 I hc2])
  ·have hto:BX t:=aYJ I hc2;refine bM<|Zat<|Zaq<|aA<|Zg rfl<|bJ<|Zh rfl fP rfl<|Zj 1 rfl lM rfl G rfl<|Zab rfl U29 rfl hh rfl<|Za rfl<|aF<|Zar ?_;refine gX (γ:=Nat) (fun k=>t.heights.length-k) (fun k=>k≤t.heights.length) (fun k=>[(66,qI (k:Int)),(4,qI (oF (t.heights.take k)))]) [(65,_),(64,_),(2,_),(1,_)] (fun k=>[E1,D]) 0 Yd ⟨Yb,Yb,bDY⟩ cQ (aH) ?_;rintro k h1;refine aA<|Zai rfl<|bT<|Zz rfl (fun hN=>?_) (fun hN=>?_)
   ·have hk:k<t.heights.length:=by omega
    obtain⟨r,hx⟩:=dV t.heights k;have hrb:=hto.hts r (LE hx);have hmul:=aJZ hto k hrb;refine aT<|aS<|Zar<|aA<|Zw rfl U29 cB rfl hh rfl hx (fun b1 o1 hO hR rB hS=>?_);obtain rfl:hO=[qI _,qI _]:=hR;refine Zq rfl jQ rfl hS cB<|Zx rfl iH rfl (fun q3=>Zt rfl cB (bR.head)<|aF<|aU<|Za rfl<|Zy rfl jQ rfl Mm0 cB<|Zc rfl (fun D5 hD5=>VJ r hrb _)<|k9 rfl rfl rfl Yf rfl bDY<|Zp rfl U25 aM dS rfl (.cons rfl rfl (.cons rfl rfl .nil)) (fun b901 D901 hX O=>?_));have R:=Sl.ofInts (l:=[_,_]) (n:=2) (cap:=2) O rfl Yd Yd;refine Zc rfl (fun D6 hY=>lR _ (oF (t.heights.take k)*eW r) [2001] _ (R.up RI.up (hY _ Ye)))<|Zg rfl<|Zah<|Zat<|Zaq<|aU<|Zaa rfl<|Za rfl<|Zah ?_;exact aK 15 (k+1) Yd Yd ⟨Yb,(by rw[DO hx];rfl),bDY⟩ rfl rfl (List.Sublist.cons _ Mm5) (fun D h=>⟨D,aZJ _ (h),Le.refl D⟩)
   ·obtain rfl:k=t.heights.length:=by omega
    rw[bAA];refine aW<|Zas<|Zas<|Zav<|Zaq<|eH<|Za rfl<|fI rfl rfl rfl rfl bDY<|aF<|Zz rfl (fun M=>?_) (fun M=>?_)
    ·refine aA<|Zo rfl pG (bR.head) rfl<|aG<|Zap ?_;exact uC (vs:=[_]) rfl rfl rfl ⟨⟨_,_,_,rfl,bDJ _,aZE ⟨pD,rfl⟩⟩,bDY⟩ (fun D hD=>by show Value.int _ _=_;rw[QP I hc2 M])
    ·refine aT<|eH<|Zq rfl iI rfl G gT<|Zv rfl (fun D7 U=>MJ _ t _ (ht0.up (U _ Ye)) hto) (fun v7 D7 U rA=>aF<|Zar ?_);obtain⟨br,rfl,hit⟩:=rA;refine uG (γ:=Unit) (xs:=(fO t).map dF) (enc:=HA) (Dr:=D7) (fun pre _=>pre=[]) (fun _ c _=>c=.ret∧fO t≠[]) (fun _=>[(q2,qC [qI 0] 44)]) () rfl rfl rfl rfl hit Ye (fun _=>rfl) rfl rfl rfl ?_ ?_ ?_
     ·rintro pre x _ ⟨us,hx⟩ hΦ l bd rec hh D7 U hst hpend;refine bM ?_;refine fun a w hhh=>B2 (A:=[(_,_)]) (B:=[(bd,.deferred (some []))]) (r:=rec) (l:=l) Yax hst ?_ a w hhh
      refine Zar<|aA<|Zo rfl pG (bR.head) rfl<|aG<|Zau ?_;exact aFL (A:=[(_,_)]) (B:=[(bd,.deferred (some []))]) .ret () ⟨rfl,fun e=>by rw[e]at hx;simp at hx⟩ rfl rfl
     ·rintro _ bd hΦ;have hn:fO t=[]:=by simpa using hΦ
      refine Zat<|Zaq<|aA<|Zo rfl pG (bR.head) rfl<|aG ?_;exact xG (vs:=[_]) (A:=[(_,_)]) rfl rfl rfl ⟨⟨_,_,_,rfl,bDJ _,aZE ⟨pD,rfl⟩⟩,bDY⟩ (fun D hD=>by show Value.int _ _=_;rw[QH I hc2 M hn])
     ·rintro _ _ _ bd ⟨rfl,hne⟩;refine CG<|Zau<|Zap ?_;exact xG (vs:=[_]) (A:=[(_,_)]) rfl rfl rfl ⟨⟨_,_,_,rfl,bDJ _,aZE ⟨pD,rfl⟩⟩,bDY⟩ (fun D hD=>by show Value.int _ _=_;rw[vL I hc2 M hne])
end L2
namespace L2
open L1
open C2
open C1 (gW bX qO pB)
def I0(t:aY)(pre:List (List Int))(g:Value×aD×Array MapEntry×Nat×List (Int×Int)):Prop:=
 bS 320 10 g.1 (kB t pre.length).length (H2 (kB t pre.length)) g.2.1∧vP g.2.2.1 g.2.2.2.1 g.2.2.2.2∧G4 (kB t pre.length) t.last g.2.2.2.2
def aWX(t:aY)(D:aC)(wv:Value)(ν:aD):Prop:=∃wb mb hv lv mv tsv es cl S,wv=qP wb∧ν=[(wb,qC [qI t.last,hv,qI t.step,lv,mv,tsv,.map (some mb)] 316),(mb,.map es cl)]∧
 iJ D (.agg #[qI t.last,hv,qI t.step,lv,mv]) t∧Sl D AW 10 tsv (bE t)∧vP es cl S∧G4 (bE t) t.last S
def R3(acc:List (List Int)):List Int:=match acc.getLast? with
 |some s=>dF s
 |none=>[]
theorem CO{acc:List (List Int)}(h:∀s∈acc,s.length≤10)(hne:acc≠[]):(R3 acc).length=10:=by
 unfold R3;rw[bBZ hne];exact fN (h _ (List.getLast_mem hne))
theorem aKL{acc:List (List Int)}(h:∀s∈acc,s.length≤10)(hne:acc≠[])(junk:List Value):((H2 acc++junk).drop (0+(((acc.length:Int)-1).toNat)*10)).take 10=ints (R3 acc):=by
 have hpos:=bBY.2 hne;unfold R3;rw[bBZ hne,bCB];refine LM h ?_ junk;rw[show((acc.length:Int)-1).toNat=acc.length-1 by omega,←List.getLast?_eq_getElem?,bBZ hne]
theorem aNT{s u:List Int}(h:s.length=u.length):dF s=dF u ↔ s=u:=by
 constructor
 ·intro e;have:=aYY (List.take s.length) e;unfold dF at this
  rwa [bDN,h,bDN]at this
 ·rintro rfl;rfl
def F9(S:List (Int×Int))(s:List Int)(k:Nat):List (Int×Int):=(List.range k).foldl (fun S (j:Nat)=>JT S ((j:Int),s.getD j 0)) S
theorem CH{S:List (Int×Int)}{s:List Int}{k:Nat}:F9 S s (k+1)=JT (F9 S s k) ((k:Int),s.getD k 0):=by
 unfold F9;rw[bAS,bAN];rfl
theorem aHN{S:List (Int×Int)}{s:List Int}{k:Nat}{p:Int×Int}:p∈F9 S s k ↔ p∈S∨∃j:Nat,j<k∧p=((j:Int),s.getD j 0):=by
 induction k with
 |zero=>simp[F9]
 |succ k ih=>
  rw[CH,aGO,ih];constructor
  ·rintro((h|⟨j,hj,rfl⟩)|rfl)
   ·exact aZE h
   ·exact aYZ ⟨j,by omega,rfl⟩
   ·exact aYZ ⟨k,by omega,rfl⟩
  ·rintro(h|⟨j,hj,rfl⟩)
   ·exact aZE (aZE h)
   ·by_cases e:j=k
    ·subst e;exact aYZ rfl
    ·exact aZE (aYZ ⟨j,by omega,rfl⟩)
theorem UD{s:List Int}{k:Nat}(h:k<s.length):(dF s)[(k:Int).toNat]?= some (s.getD k 0):=by
 unfold dF;rw[bAK,bBR h,bAQ,aYU h];rfl
section
variable{t:aY}{pre:List (List Int)}{s:List Int}(hrp:jD t (dF s)=jD t s)(htake:(fO t).take (pre.length+1)=(fO t).take pre.length++[s])
include hrp htake
theorem IS{b:Bool}(hc:(!jD t (dF s)||(decide (0<((kB t pre.length).length:Int))&&(R3 (kB t pre.length)==dF s)))=b):uR t (kB t pre.length) s=if b=true then kB t pre.length else kB t pre.length++[s]:=by
 have hsm:s∈fO t:=bDU (i:=pre.length+1) (by rw[htake];simp);rw[hrp]at hc;subst hc;unfold uR;cases hr:jD t s with
 |false=>simp
 |true=>
  simp only[Bool.not_true,Bool.false_or,Bool.true_eq_false,false_or];by_cases hne:kB t pre.length=[]
  ·rw[hne];simp
  ·have hpos:=bBY.2 hne;have h1:decide (0<((kB t pre.length).length:Int))=true:=by simpa using hpos
   rw[h1,bCR];unfold R3;rw[bBZ hne];have h2:=pP (P1 (List.getLast_mem hne));have h3:=pP hsm;have h4:=aNT (h2.trans h3.symm);by_cases e:(kB t pre.length).getLast hne=s
   ·rw[aZK (by rw[e]),aZK (by rw[e];simp)]
   ·rw[aZB (by simpa using e),aZB (by simpa using fun h=>e (h4.1 h))]
theorem aEF{v:Value}{ν:aD}{es:Array MapEntry}{cl:Nat}{S:List (Int×Int)}(hc:(!jD t (dF s)||(decide (0<((kB t pre.length).length:Int))&&(R3 (kB t pre.length)==dF s)))=true)(ha:bS 320 10 v (kB t pre.length).length (H2 (kB t pre.length)) ν)(hS:vP es cl S)(hsp:G4 (kB t pre.length) t.last S):I0 t (pre++[dF s]) (v,ν,es,cl,S):=by
 have h1:=IS hrp htake hc;simp only[bAX]at h1;have h2:=CR htake;rw[h1]at h2;unfold I0;rw[aYS,bCD,h2];exact⟨ha,hS,hsp⟩
theorem aOI(hc:(!jD t (dF s)||(decide (0<((kB t pre.length).length:Int))&&(R3 (kB t pre.length)==dF s)))=false):kB t (pre.length+1)=kB t pre.length++[s]:=by
 have h1:=IS hrp htake hc;simp only[bAE,bBH]at h1;rw[CR htake,h1]
end
theorem aTO{t:aY}{pre:List (List Int)}{s:List Int}{v:Value}{ν:aD}{es:Array MapEntry}{cl k:Nat}{S:List (Int×Int)}(h:kB t (pre.length+1)=kB t pre.length++[s])(hk:s.length≤k)(G:(k:Int)=t.last+1)(ha:bS 320 10 v ((kB t pre.length).length+1) (H2 (kB t pre.length++[s])) ν)(hS:vP es cl (F9 S s k))(hsp:G4 (kB t pre.length) t.last S):I0 t (pre++[dF s]) (v,ν,es,cl,F9 S s k):=by
 unfold I0;rw[aYS,bCD,h,aYS,bCD];refine⟨ha,hS,fun p=>?_⟩;rw[aHN,hsp p];constructor
 ·rintro(⟨u,hu,j,hj,rfl⟩|⟨j,hj,rfl⟩)
  ·exact⟨u,aYX _ hu,j,hj,rfl⟩
  ·exact⟨s,by simp,j,by omega,rfl⟩
 ·rintro⟨u,hu,j,hj,rfl⟩;rcases aZF.1 hu with hu|hu
  ·exact aZE ⟨u,hu,j,hj,rfl⟩
  ·simp only[aZM]at hu;subst hu
   exact aYZ ⟨j,by omega,rfl⟩
theorem aUZ:K2 prog 323:=⟨by kernel_rfl,by kernel_rfl,by kernel_rfl⟩
theorem wA(tv:Value)(t:aY)(fine:Bool)(D:aC)(ht:iJ D tv t):KZ prog 90 #[tv,.bool fine] D (fun D' v ν=>∃wv,v=.tuple #[wv,qI (jV t fine)]∧(jV t fine=0→BX t∧bE t≠[]∧aWX t D' wv ν)):=by
 have ht0:=ht;obtain⟨hv,lv,mv,rfl,hh,hl,hm⟩:=ht;refine aRI 85 func90 rfl rfl rfl rfl fun h0=>aA<|Zu rfl (fun q1 E1 hE1 M=>Zg rfl<|Zg rfl<|bJ<|Zq rfl iI rfl M gT<|Zc rfl (fun D1 hM=>E0 _ t _ (ht0.up (hM _ Ye)))<|Zg rfl<|aL<|Za rfl<|Zak rfl ?_);refine aF<|Zz rfl (fun G=>?_) (fun G=>?_)
 ·refine aA<|Za rfl<|Zg rfl<|Zg rfl<|aG<|Zap ?_;exact uC (vs:=[_,_]) rfl rfl rfl cQ (fun D hD=>⟨_,by rw[jV,aZK G];rfl,fun h=>by rw[jV,aZK G]at h;exact absurd h G⟩)
 ·have R:aV t=0:=by omega
  have hto:BX t:=A3 R;refine aT<|eH<|Za rfl<|Zal rfl<|aF<|aP rfl (fun hc2=>?_) (fun hc2=>?_)
  ·refine aA<|Zg rfl<|Zg rfl<|aG<|Zap ?_;exact uC (vs:=[_,_]) rfl rfl rfl cQ (fun D hD=>⟨_,by rw[jV,aZB G,aZK Yap];rfl,fun h=>by rw[jV,aZB G,aZK Yap]at h;omega⟩)
  ·refine aT<|aA<|Zq rfl iI rfl M gT<|vX rfl rfl bDY (fun qm=>kE (cs:=[qI t.last,hv,qI t.step,lv,mv,qN,.map (some qm)]) rfl aPI aQV rfl Yg rfl bDY<|DK rfl (e:=316) rfl rfl rfl bDY (fun q2=>Zx rfl aMB rfl (fun q3=>Zo rfl aPX (bR.head) rfl<|bJ<|Zq rfl iI rfl M gT<|Zv rfl (fun D2 hE=>MJ _ t _ (ht0.up (hE _ Ye)) hto) (fun v2 D2 hE hN=>aF ?_))));refine Zar ?_;obtain⟨br,rfl,hit⟩:=hN;refine uG (γ:=Value×aD×Array MapEntry×Nat×List (Int×Int)) (xs:=(fO t).map dF) (enc:=HA) (Dr:=D2) (I0 t) (fun _ _ _=>False) (fun g=>[(q3,qC [qP q2] 179),(q2,qC [qI t.last,hv,qI t.step,lv,mv,g.1,.map (some qm)] 316),(qm,.map g.2.2.1 g.2.2.2.1)]++g.2.1) (qN,[],#[],0,[]) rfl rfl rfl rfl hit Ye (fun _=>rfl) rfl ⟨by simpa [kB,H2]using bS.nil,vP.nil,G4.nil⟩ rfl ?_ ?_ (fun _ _ _ _ h=>h.elim)
   ·rintro pre x ⟨v,ν,es,cl,S⟩ ⟨us,hx⟩ ⟨ha,hS,hsp⟩ l bd rec hh7 D7 hD7 hst hpend;simp only at ha hS hsp;obtain⟨s,hk,rfl,hsm,htake⟩:=RX hx;have hsl:=pP hsm;have hlast:=hto.last;have hlen:=hto.len;have hF:s.length≤10:=by omega
    have I:=fN hF;have hall:∀u∈kB t pre.length,u.length≤10:=fun u hu=>by have:=pP (P1 hu);omega
    have hcap:=Z3 R;have hacl:=NM t pre.length;have hrp:=aBN hto (s:=s) Yd;refine aU<|Zx rfl K7 rfl (fun q4=>Zt rfl iR (bR.head)<|Zah ?_);refine fun a w hhh=>B2 (A:=[(_,_),(_,_),(_,_),(_,_)]++ν) (B:=[(bd,.deferred (some []))]) (r:=rec) (l:=l) Yax hst ?_ a w hhh
    refine zB (fun hnd=>?_);simp only[aZR,aZH,bAO,aZC,bAW,aZU,n4,aZF,not_or]at hnd;have hq4:=hnd.1.2.2.2.1;have hq3:=hnd.2.1.2.2.1;have hq2:=hnd.2.2.1.2.1;refine Zar<|aS<|aS<|rK [] 10 28 20905986 (fun _ _ _ h=>h)<|Zq rfl iI rfl M gT<|bK rfl nJ rfl Mm0 Yu n3 rfl bDY<|Zc rfl (fun D3 hO=>m7 _ t (dF s) _ (ht0.up (hO _ Ye)) hto I)<|Zal rfl<|Za rfl ?_;refine' cR 23 (s:=28) (p:=51) rfl (fun hR=>?_) (fun hR=>?_) ?_;rotate_left
    ·refine Zn rfl tZ rfl Mm1 rfl<|xC rfl rfl rfl ⟨_,rfl,rfl⟩<|Zi rfl kV rfl<|Zn rfl rX rfl Mm2 rfl<|fJ rfl U314 rfl ha rfl rfl ⟨_,rfl,rfl⟩<|fI rfl rfl rfl rfl ⟨_,rfl,rfl⟩<|Zb rfl ?_;refine' dJ 15 (s:=35) (p:=50) rfl (fun U=>?_) (fun U=>?_) ?_;rotate_left
     ·have hne:kB t pre.length≠[]:=fun e=>by rw[e]at U;simp at U
      have hpos:=bBY.2 hne;obtain⟨b5,cap5,O,rfl,hcp5,rfl,hl51,hl52⟩:=ha.some hpos;refine Zn rfl tZ rfl Mm1 rfl<|xC rfl rfl rfl ⟨_,rfl,rfl⟩<|Zi rfl kV rfl<|Zn rfl rX rfl Mm2 rfl<|Zn rfl tZ rfl Mm1 rfl<|xC rfl rfl rfl ⟨_,rfl,rfl⟩<|Zi rfl kV rfl<|Zn rfl rX rfl Mm2 rfl<|kW rfl U314 rfl rfl rfl ⟨_,rfl,rfl⟩<|P9 rfl rfl rfl Yf rfl ⟨_,rfl,rfl⟩<|gO rfl U314 iR rfl rfl Yd Yd rfl ⟨_,rfl,rfl⟩<|dM (vs:=H2 (kB t pre.length)++O) (us:=ints (R3 (kB t pre.length))) rfl nJ iR rfl (aZJ _ Mm3) (aKL hall hne O) (by simpa using CO hall hne) n3 rfl ⟨_,rfl,rfl⟩ ?_;refine bK rfl nJ rfl Mm0 Yu n3 rfl ⟨_,rfl,rfl⟩<|PH rfl Yg U320 U3 Yg (CO hall hne) I rfl rfl rfl ⟨_,rfl,rfl⟩<|rQ rfl rfl rfl rfl ⟨_,rfl,rfl⟩ ?_;exact aQ 14
     ·refine Zf rfl<|Zf rfl<|Zf rfl<|Zf rfl<|Zf rfl<|Zf rfl<|Zf rfl<|Zf rfl<|Zf rfl<|Zf rfl<|Zf rfl<|Zf rfl ?_;refine Zf rfl<|Zf rfl<|rP rfl rfl rfl rfl ⟨_,rfl,rfl⟩ ?_;exact aQ 14
     refine Zae rfl ?_;exact aQ 8
    ·refine Zf rfl<|Zf rfl<|Zf rfl<|Zf rfl<|Zf rfl<|Zf rfl<|Zf rfl<|Zf rfl<|Zf rfl<|Zf rfl<|Zf rfl<|Zf rfl ?_;refine Zf rfl<|Zf rfl<|Zf rfl<|Zf rfl<|Zf rfl<|Zf rfl<|Zf rfl<|Zf rfl<|Zf rfl<|Zf rfl<|Zad rfl ?_;exact aQ 22
    refine aF<|aP rfl (fun V=>?_) (fun V=>?_)
    ·have hX:I0 t (pre++[dF s]) (v,ν,es,cl,S):=aEF hrp htake V ha hS hsp;refine aW<|Zas<|Zav ?_;exact fun a w hh=>iN (A:=[(_,_),(_,_),(_,_)]++ν) (B:=[(bd,.deferred (some []))]) (v,ν,es,cl,S) hX rfl rfl a w (hh.dropBoxes 1)
    ·have hadd:=aOI hrp htake V;refine aT<|aS<|rK (ν.map (·.1)) 2 11 254 (fun _ _ _ h=>h)<|bZ rfl tZ rfl Mm1 rfl Yn rfl bDY<|bZ rfl tZ rfl Mm1 rfl Yn rfl bDY<|Zaj rfl<|Zh rfl kV rfl<|bZ rfl rX rfl Mm2 rfl Yn rfl bDY<|bK rfl nJ rfl Mm0 Yu Yn rfl bDY<|Zp rfl U314 iR K7 rfl (.cons rfl (by simpa using I) .nil) (fun b901 hH hY Y=>bB (A:=[(_,_),(_,_),(_,_),(_,_)]) (B:=[(l,_),(bd,_)]) rfl U314 rfl rfl iR K7 rfl aPG rfl rfl rfl ha (mI.lit Y) Ye (by simp[I]) (ME hall) (by simpa using dR _) Yd (aYZ (fun p hp=>GT.2 ⟨p,hp,rfl⟩)) rfl bDY (fun v1 ν1 Z=>?_));have rA:bS 320 10 v1 ((kB t pre.length).length+1) (H2 (kB t pre.length++[s])) ν1:=by unfold H2;rw[aZS,bAJ];simpa [H2]using Z
     simp only[bAW,aZU];refine Zaj rfl<|Zh rfl kV rfl<|bG rfl rfl rfl Z.cells1 TQ (.tail (.tail (bR.head))) Ye rfl Z.cell1 bDY<|aL<|Zh rfl jU rfl<|Zj 0 rfl aJ rfl M rfl<|Zaa rfl<|Za rfl<|aF<|Zar<|dD (γ:=Nat×Array MapEntry×Nat) (fun g=>s.length-g.1) (fun g=>g.1≤s.length∧vP g.2.1 g.2.2 (F9 S s g.1)) (fun g=>[(65,qI (g.1:Int))]) [(64,_),(8,_),(7,_),(5,_),(4,_)] (fun g=>[(q4,qC (ints (dF s)) 320)]++[(q3,qC [qP q2] 179),(q2,qC [qI t.last,hv,qI t.step,lv,mv,v1,.map (some qm)] 316),(qm,.map g.2.1 g.2.2)]++(ν1++[(l,.loop {rec with state:=.busy}),(bd,.deferred (some []))])) (fun g=>[hH,D7,D2,E1,D]) (0,es,cl) ⟨by simp,hS⟩ ⟨Yb,bDY⟩ cQ Mm5 (aH) ?_;rintro⟨k,hI,hJ⟩ ⟨h1,hB⟩;simp only at h1 hB;refine aA<|Zai rfl<|bT<|Zz rfl (fun rB=>?_) (fun rB=>?_)
     ·have hks:k<s.length:=by omega
      have hxk:(dF s)[(k:Int).toNat]?= some (s.getD k 0):=UD hks;refine aT<|aS<|Zar<|aA<|Za rfl<|Zg rfl<|aF<|rK [] 3 10 496 (fun _ _ _ h=>h)<|Zm rfl tZ rfl Mm1 rfl<|Zaj rfl<|Zh rfl DH rfl<|Zm rfl WD rfl Mm2 rfl ?_;refine Za rfl<|Za rfl<|eM rfl U320 aM rfl rfl Yd Yd rfl bDY<|bZ rfl aJ rfl Mm0 (cD hxk) n3 rfl bDY<|Zr [qI (k:Int),qI (s.getD k 0)] rfl aRB WE rfl<|aVT (A:=[(_,_),(_,_),(_,_)]) (B:=ν1++[(l,_),(bd,_)]) (a:=((k:Int),s.getD k 0)) rfl U313 aUZ rfl rfl rfl hB bDY (fun es3 cl3 hS3=>Zah<|Zat<|Zaq<|aU<|Zaa rfl<|Za rfl ?_);refine Zah ?_;exact aK 15 (k+1,es3,cl3) ⟨by simp only;omega,by rw[CH];exact hS3⟩ Ym ⟨Yb,bDY⟩ rfl rfl Mm5 (aH)
     ·have hI1:I0 t (pre++[dF s]) (v1,ν1,hI,hJ,F9 S s k):=aTO hadd Yd Yd rA hB hsp;refine aW<|Zas<|Zas<|Zav<|Zat ?_;exact fun a w hh=>iN (A:=[(_,_),(_,_),(_,_)]++ν1) (B:=[(bd,.deferred (some []))]) (v1,ν1,hI,hJ,F9 S s k) hI1 rfl rfl a w (hh.dropBoxes 1)
   ·rintro⟨v,ν,es,cl,S⟩ bd ⟨ha,hS,hsp⟩;simp only[bAY]at ha hS hsp;rw[O9 t (aZL _)]at ha hsp;have hall:∀u∈bE t,u.length≤10:=fun u hu=>by rw[←O9 t (aZL _)]at hu;have:=pP (P1 hu);have:=hto.len10;omega
    have hll:(bE t).length≤2000:=by rw[←O9 t (aZL _)];have:=NM t (fO t).length;have:=Z3 R;omega
    refine Zat<|Zaq<|eH<|Zm rfl tZ rfl Mm0 rfl<|Zaj rfl<|Zh rfl kV rfl<|Zm rfl rX rfl Mm1 rfl<|fJ rfl U314 rfl ha rfl rfl bDY<|Zam rfl<|aF<|Zz rfl (fun hK=>?_) (fun hK=>?_)
    ·have htn:bE t=[]:=bBP.1 Yd;have hask:jV t fine=11:=by rw[jV,aZB G,aZB Yap,aZK htn]
     refine aA<|Zg rfl<|Zg rfl<|aG<|Zap ?_;exact MA (vs:=[_,_]) (A:=[(_,_),(_,_),(_,_)]) (ν':=[]) (B:=ν) rfl rfl rfl cQ (fun D hD=>⟨_,by rw[hask];rfl,fun h=>by rw[hask]at h;omega⟩)
    ·have htn:bE t≠[]:=fun e=>hK (by rw[e];rfl)
     have hask:jV t fine=0:=by rw[jV,aZB G,aZB Yap,aZB htn]
     refine aT<|aA<|Zm rfl tZ rfl Mm0 rfl<|Zg rfl<|Zg rfl<|aG<|gC (A:=[(_,_),(_,_),(_,_)]) (B:=[(bd,.deferred (some []))]) ha rfl (fun D8 hD8 hF8=>?_);exact MA (vs:=[_,_]) (A:=[(_,_)]) (ν':=[(_,_),(_,_)]) (B:=[]) rfl rfl rfl cQ (fun D hD=>⟨_,by rw[hask];rfl,fun _=>⟨hto,htn,q2,qm,hv,lv,mv,v,es,cl,S,rfl,rfl,⟨hv,lv,mv,rfl,hh.up Z7.up (hD _ Ye),hl.up RI.up (hD _ Ye),hm.up KX.up (hD _ Ye)⟩,(hF8.seas rfl Yd hall).up AW.up (hD _ Ye),hS,hsp⟩⟩)
end L2
namespace L2
open L1
open C2
open C1 (gW bX qO pB)
theorem pQ{t:aY}(_ht:BX t){s:List Int}(h:s∈bE t):s.length=t.heights.length:=by
 rw[←O9 t (aZL _)]at h;exact pP (P1 h)
structure aDH(es:Array MapEntry)(S:List (Int×Int))(h:Nat)(x0:Int)(seen:Array Nat)(lo hi:Int):Prop where
 mid:lo≤x0∧x0≤hi
 all:∀e∈es.toList,seen.contains e.born=true→∀y,e.key=kX ((h:Int),y)→lo≤y∧y≤hi
 los:((h:Int),lo)∈S
 his:((h:Int),hi)∈S
theorem aDH.start{t:aY}{es:Array MapEntry}{S:List (Int×Int)}{h:Nat}{G:List Int}(hsp:G4 (bE t) t.last S)(hs:G∈bE t)(hh:(h:Int)≤t.last):aDH es S h (G.getD h 0) #[] (G.getD h 0) (G.getD h 0):=
 ⟨by omega,fun e _ hc=>by simp at hc,(hsp _).2 ⟨G,hs,h,hh,rfl⟩,(hsp _).2 ⟨G,hs,h,hh,rfl⟩⟩
theorem VM{a b:Int×Int}(h:kX a=kX b):a=b:=by
 obtain⟨G,a2⟩:=a;obtain⟨I,b2⟩:=b
 simp only[kX,Value.agg.injEq]at h;simpa using h
section
variable{t:aY}{es:Array MapEntry}{cl:Nat}{S:List (Int×Int)}{h:Nat}{x0:Int}{seen:Array Nat}{lo hi:Int}
theorem DS(hS:vP es cl S){e e':MapEntry}(h1:e∈es.toList)(h2:e'∈es.toList)(h:e'.born=e.born):e'=e:=by
 have f1:=find_born e es.toList hS.nd h1;have f2:=find_born e' es.toList hS.nd h2;rw[h]at f2;rw[f1]at f2;exact(aZO f2).symm
theorem aDH.yes(hI:aDH es S h x0 seen lo hi)(hS:vP es cl S){e:MapEntry}(he:e∈(leftOf es seen).toList){ah ay:Int}(hek:e.key=kX (ah,ay))(haS:(ah,ay)∈S)(hc:ah=(h:Int)):aDH es S h x0 (seen.push e.born) (min lo ay) (max hi ay):=by
 subst hc;have hm:=hI.mid;refine⟨by omega,fun e' he' hc y hy=>?_,?_,?_⟩
 ·rw[contains_push,bAD]at hc;rcases hc with hc|hc
  ·have:=hI.all e' he' hc y hy;omega
  ·have:=DS hS (mem_left he).1 he' (bDR.1 hc);subst this;rw[hek]at hy;have:=VM hy;simp only[bCQ,true_and]at this;omega
 ·rcases Int.le_total lo ay with h|h
  ·rw[Int.min_eq_left h];exact hI.los
  ·rw[Int.min_eq_right h];exact haS
 ·rcases Int.le_total hi ay with h|h
  ·rw[Int.max_eq_right h];exact haS
  ·rw[Int.max_eq_left h];exact hI.his
theorem aDH.no(hI:aDH es S h x0 seen lo hi)(hS:vP es cl S){e:MapEntry}(he:e∈(leftOf es seen).toList){ah ay:Int}(hek:e.key=kX (ah,ay))(_:(ah,ay)∈S)(hc:¬ah=(h:Int)):aDH es S h x0 (seen.push e.born) lo hi:=by
 refine⟨hI.mid,fun e' he' hc' y hy=>?_,hI.los,hI.his⟩;rw[contains_push,bAD]at hc';rcases hc' with hc'|hc'
 ·exact hI.all e' he' hc' y hy
 ·have:=DS hS (mem_left he).1 he' (bDR.1 hc');subst this;rw[hek]at hy;have:=VM hy;simp only[bCQ]at this;exact absurd this.1 hc
theorem XW{l:List Int}{m:Int}(hm:m∈l)(h:∀x∈l,m≤x):qO l=m:=by
 cases l with
 |nil=>cases hm
 |cons a l=>
  have key:∀(l:List Int) (a:Int),(∀x∈l,l.foldl min a≤x)∧l.foldl min a≤a∧(l.foldl min a=a∨l.foldl min a∈l):=by
   intro l;induction l with
   |nil=>intro a;simp
   |cons b l ih=>
    intro a;obtain⟨h1,h2,h3⟩:=ih (min a b);rw[bAG];refine⟨fun x hx=>?_,by omega,?_⟩
    ·rcases n4.1 hx with rfl|hx
     ·omega
     ·exact h1 x hx
    ·rcases h3 with h3|h3
     ·rw[h3];rcases Int.le_total a b with h|h
      ·exact aZE (Int.min_eq_left h)
      ·exact aYZ (by rw[Int.min_eq_right h];exact LT)
     ·exact aYZ (n5 _ h3)
  obtain⟨h1,h2,h3⟩:=key l a;show l.foldl min a=m;have h4:l.foldl min a≤m:=by
   rcases n4.1 hm with rfl|hm
   ·exact h2
   ·exact h1 m hm
  have h5:m≤l.foldl min a:=by
   rcases h3 with h3|h3
   ·rw[h3];exact h a LT
   ·exact h _ (n5 _ h3)
  omega
theorem aAJ{l:List Int}{m:Int}(hm:m∈l)(h:∀x∈l,x≤m):pB l=m:=by
 cases l with
 |nil=>cases hm
 |cons a l=>
  have key:∀(l:List Int) (a:Int),(∀x∈l,x≤l.foldl max a)∧a≤l.foldl max a∧(l.foldl max a=a∨l.foldl max a∈l):=by
   intro l;induction l with
   |nil=>intro a;simp
   |cons b l ih=>
    intro a;obtain⟨h1,h2,h3⟩:=ih (max a b);rw[bAG];refine⟨fun x hx=>?_,by omega,?_⟩
    ·rcases n4.1 hx with rfl|hx
     ·omega
     ·exact h1 x hx
    ·rcases h3 with h3|h3
     ·rw[h3];rcases Int.le_total a b with h|h
      ·exact aYZ (by rw[Int.max_eq_right h];exact LT)
      ·exact aZE (Int.max_eq_left h)
     ·exact aYZ (n5 _ h3)
  obtain⟨h1,h2,h3⟩:=key l a;show l.foldl max a=m;have h4:m≤l.foldl max a:=by
   rcases n4.1 hm with rfl|hm
   ·exact h2
   ·exact h1 m hm
  have h5:l.foldl max a≤m:=by
   rcases h3 with h3|h3
   ·rw[h3];exact h a LT
   ·exact h _ (n5 _ h3)
  omega
theorem aDH.fin(hI:aDH es S h x0 seen lo hi)(hS:vP es cl S)(hsp:G4 (bE t) t.last S)(_:bE t≠[])(hh:(h:Int)≤t.last)(hz:(leftOf es seen).size=0):kX (lo,hi)=kX (xL t h):=by
 have hall:∀y,((h:Int),y)∈S→lo≤y∧y≤hi:=fun y hy=>by
  obtain⟨e,he,hk⟩:=hS.ent hy;refine hI.all e he ?_ y hk;cases hc:seen.contains e.born with
  |true=>rfl
  |false=>
   have hm:e∈leftOf es seen:=by
    unfold leftOf;rw[Array.mem_filter];exact⟨Array.mem_toList_iff.1 he,by rw[hc];rfl⟩
   have:=Array.size_pos_of_mem hm;omega
 have hmem:∀y,y∈(bE t).map (aXX · h)→((h:Int),y)∈S:=fun y hy=>by
  obtain⟨s,hs,rfl⟩:=GT.1 hy;exact(hsp _).2 ⟨s,hs,h,hh,rfl⟩
 have G:∀y,((h:Int),y)∈S→y∈(bE t).map (aXX · h):=fun y hy=>by
  obtain⟨s,hs,j,hj,he⟩:=(hsp _).1 hy;simp only[bCQ]at he;have:j=h:=by omega
  subst this;exact GT.2 ⟨s,hs,he.2.symm⟩
 unfold xL;rw[XW (G _ hI.los) fun x hx=>(hall x (hmem x hx)).1,aAJ (G _ hI.his) fun x hx=>(hall x (hmem x hx)).2]
end
theorem JV(t:aY)(wb mb:Nat)(hv lv mv tsv:Value)(es:Array MapEntry)(cl:Nat)(S:List (Int×Int))(h:Nat)(D:aC)(hts:Sl D AW 10 tsv (bE t))(htn:bE t≠[])(hto:BX t)(hS:vP es cl S)(hsp:G4 (bE t) t.last S)(hh:(h:Int)≤t.last):
  AN prog 355 [qP wb,qI (h:Int)] D [(wb,qC [qI t.last,hv,qI t.step,lv,mv,tsv,.map (some mb)] 316),(mb,.map es cl)] (fun _ v ν'=>v=kX (xL t h)∧ν'=[(wb,qC [qI t.last,hv,qI t.step,lv,mv,tsv,.map (some mb)] 316),(mb,.map es cl)]):=by
 have hll:=hts.len;have hlast:=hto.last;obtain⟨I,G⟩:∃s,(bE t)[0]?= some s:=⟨(bE t)[0]'(bBY.2 htn),aYU _⟩
 have hB:=pQ hto (LE G);have hE:=hto.len;have hg0:(dF I)[(h:Int).toNat]?= some (I.getD h 0):=UD Yd;have hF:=fN (l:=I) Yd;refine iL 42 func355 rfl rfl rfl rfl (fun h0 hwl hwn=>aA<|Zx rfl iH rfl (fun q1=>bT<|bW [] 7 19 196400<|Za rfl<|Zaj rfl<|Zh rfl kV rfl<|Zm rfl rX rfl Mm1 rfl<|Za rfl<|Zw rfl U314 iR rfl hts rfl G (fun b1 o1 O R hH U=>?_)));obtain rfl:O=ints (dF _):=R;refine fC rfl U320 aM rfl rfl Yd Yd rfl bDY<|dU (o:=o1) (k:=(h:Int).toNat*1) rfl aJ rfl U Yn (by rw[bBQ];exact cD hg0) n3 rfl bDY<|Za rfl<|Zaj rfl<|Zh rfl kV rfl<|Zm rfl rX rfl Mm1 rfl<|Za rfl<|Zw rfl U314 iR rfl hts rfl G (fun b2 o2 V Y hJ Z=>?_)
 obtain rfl:V=ints (dF _):=Y;refine fC rfl U320 aM rfl rfl Yd Yd rfl bDY<|dU (o:=o2) (k:=(h:Int).toNat*1) rfl aJ rfl Z Yn (by rw[bBQ];exact cD hg0) n3 rfl bDY<|Zr [qI (I.getD h 0),qI (I.getD h 0)] rfl H9 iH rfl<|Zx rfl iH rfl (fun q2=>Zt rfl cB (bR.head)<|bJ<|Za rfl<|Zaj rfl<|Zh rfl DH rfl<|Zm rfl WD rfl Mm2 rfl<|aKK (b:=mb) (es:=es) (clock:=cl) rfl U313 rfl Ye rfl bDY (fun qr=>aF ?_));refine Zar<|dD (γ:=Array Nat×Int×Int) (fun g=>(leftOf es g.1).size) (fun g=>aDH es S h (I.getD h 0) g.1 g.2.1 g.2.2) (fun g=>[(28,qP qr)]) [(5,_),(4,_),(1,_)] (fun g=>[(qr,.mapIter (some mb) cl g.1 cl),(q2,qC [qI g.2.1,qI g.2.2] 93),(q1,qC [qI 0,qI 0] 93)]++[(wb,qC [qI t.last,hv,qI t.step,lv,mv,tsv,.map (some mb)] 316),(mb,.map es cl)]) (fun g=>[D]) (#[],I.getD h 0,I.getD h 0) (aDH.start hsp (LE G) hh) ⟨Yb,bDY⟩ cQ Mm5 (aH) ?_;rintro⟨seen,lo,hi⟩ hI;simp only at hI;refine aA<|aLK (b:=mb) (r:=qr) (es:=es) (clock:=cl) (A:=[]) (B:=[(_,_),(_,_),(_,_),(_,_)]) rfl rfl Ye hS.lt (aZL _) rfl bDY (fun ok vs o' hv0 hno hyes=>EL rfl rfl hv0 rfl bDY<|bT<|aP rfl (fun M=>?_) (fun M=>?_))
 ·obtain⟨e,he,rfl⟩:=hyes M;obtain⟨⟨ah,ay⟩,haS,hek,hev⟩:=hS.key (mem_left he).1;refine aT<|Zar<|aA<|aGV (b:=mb) (r:=qr) (es:=es) (clock:=cl) (e:=e) (since:=cl) (seen:=seen) rfl rfl Ye Ye (mem_left he).1 hS.nd rfl bDY ?_;rw[hek];refine Zaf rfl<|Zx rfl WE rfl (fun q3=>Zt rfl aPU (bR.head)<|aL<|Zh rfl aAF rfl<|Zm rfl aJ rfl Mm0 rfl<|Za rfl<|Zam rfl<|aF<|Zz rfl (fun hc2=>?_) (fun hc2=>?_))
  ·refine aU<|Zy rfl jQ rfl Mm2 cB<|Zh rfl YC rfl<|Zm rfl aJ rfl Mm0 rfl<|Zc rfl (fun D1 hK=>sK (lo,hi) ay _)<|Zt rfl cB (.tail (.tail (bR.head)))<|Zah<|Zat ?_;exact aK 14 (seen.push e.born,min lo ay,max hi ay) (hI.yes hS he hek haS hc2) (left_shrinks _ _ _ he) ⟨rfl,bDY⟩ rfl rfl (List.Sublist.cons _ Mm5) (aH)
  ·refine bM<|Zat ?_;exact aK 10 (seen.push e.born,lo,hi) (hI.no hS he hek haS hc2) (left_shrinks _ _ _ he) ⟨rfl,bDY⟩ rfl rfl (List.Sublist.cons _ Mm5) (aH)
 ·obtain⟨hz,rfl⟩:=hno M;have hfin:=hI.fin hS hsp htn hh hz;refine aW<|Zas<|Zas<|Zav<|Zaq<|aA<|Zy rfl jQ rfl Mm1 cB<|Zt rfl cB (.tail (.tail (bR.head)))<|aG ?_;exact Zac [(_,_),(_,_),(_,_)] [] [_,_] [_] rfl ⟨⟨_,_,_,rfl,List.Mem.tail _ Mm1,Or.inr ⟨jQ,cB,rfl⟩⟩,bDY⟩ rfl (fun D hD=>⟨hfin,rfl⟩)
end L2
namespace L2
open L1
open C2
open C1 (gW bX qO pB)
theorem JM{wb mb t cl:Nat}{cs:List Value}{es:Array MapEntry}:∀p∈[(wb,Obj.cells cs.toArray t (0,0)),(mb,.map es cl)],dB p.2:=by
 intro p hp;simp only[n4,n3,bBB]at hp;rcases hp with rfl|rfl
 ·rfl
 ·trivial
def NZ(l:List (Int×Int)):List Value:=l.flatMap fun p=>[qI p.1,qI p.2]
theorem y6(l:List (Int×Int)):(NZ l).length=l.length*2:=by
 induction l with
 |nil=>rfl
 |cons p l ih=>unfold NZ at ih ⊢;rw[bAC,aYS,ih,aYW];simp;omega
theorem t6(l m:List (Int×Int)):NZ (l++m)=NZ l++NZ m:=aZS
theorem aMG{l:List (Int×Int)}{i:Nat}{p:Int×Int}(hi:l[i]?= some p):((NZ l).drop (i*2)).take 2=[qI p.1,qI p.2]:=by
  induction l generalizing i with
  |nil=>simp at hi
  |cons d l ih=>
    have hc:NZ (d::l)=[qI d.1,qI d.2]++NZ l:=rfl;rw[hc];cases i with
    | zero => obtain rfl : d = p := by simpa using hi
              rfl
    |succ i=>
      rw[show(i+1)*2=([qI d.1,qI d.2]:List Value).length+i*2 by simp;omega,bCX];exact ih Yal
theorem _root_.Go.Fs.mK.rgs{D:aC}{v:Value}{n:Nat}{l:List (Int×Int)}(hF:mK D v n (NZ l))(hn:l.length=n)(hb:n≤9223372036854775807):Sl D Z7 2 v l:=
 hF.sl hn hb fun _i _t hi=>⟨_,rfl,rfl,aMG hi⟩
def EV(t:aY):List (Int×Int):=(List.range (t.last+1).toNat).map (xL t)
theorem SC{t:aY}{k:Nat}(h:(k:Int)=t.last+1):(List.range k).map (xL t)=EV t:=by unfold EV;rw[show(t.last+1).toNat=k by omega]
theorem aJY(s:List Int):(dF s).take s.length=s:=by unfold dF;rw[bDN]
def vE(s:List Int)(level:Int)(k:Nat):List Int:=((List.range k).filter fun j=>decide (level<s.getD j 0)).map fun j:Nat=>(j:Int)
theorem TC(s:List Int)(level:Int)(k:Nat):(vE s level k).length≤k:=by
 unfold vE;rw[bAY];have:=bBO (fun j=>decide (level<s.getD j 0)) (List.range k);rwa [List.length_range]at this
theorem aOW{s:List Int}{level x:Int}{k:Nat}(hx:s[k]?= some x)(h:level<x):vE s level (k+1)=vE s level k++[(k:Int)]:=by
 unfold vE;rw[bAS,bBK,aZH,bCI,aZK (by rw[bAQ,hx];simpa using h)];rfl
theorem aVS{s:List Int}{level x:Int}{k:Nat}(hx:s[k]?= some x)(h:¬level<x):vE s level (k+1)=vE s level k:=by
 unfold vE;rw[bAS,bBK,aZH,bCI,aZB (by rw[bAQ,hx];simpa using h)];simp
theorem u0(s:List Int)(level:Int):∃m:Nat,wX s level=(m:Int)∧m≤s.length∧(∀j,j<m→s.getD j 0≤level)∧(m<s.length→level<s.getD m 0):=by
 refine⟨(s.takeWhile fun n=>decide (n≤level)).length,rfl,?_⟩;induction s with
 |nil=>exact⟨by simp,fun j h=>by simp at h,fun h=>by simp at h⟩
 |cons a s ih=>
  obtain⟨h1,h2,h3⟩:=ih;by_cases h:a≤level
  ·rw[List.takeWhile_cons,aZK Yao,aYW,aYW];refine⟨by omega,fun j hj=>?_,fun hj=>?_⟩
   ·cases j with
    |zero=>simpa using h
    |succ j=>simpa using h2 j Yd
   ·simpa using h3 Yd
  ·rw[List.takeWhile_cons,aZB Yao];exact⟨by simp,fun j hj=>by simp at hj,fun _=>by simp;omega⟩
theorem JI{s:List Int}{level:Int}{m:Nat}(h1:m<s.length)(h2:∀j,j<m→s.getD j 0≤level)(h3:level<s.getD m 0):(vE s level s.length)[0]?= some (m:Int):=by
 unfold vE;obtain⟨n,hn⟩:∃n,s.length=m+(n+1):=⟨s.length-m-1,by omega⟩
 rw[hn,List.range_add,bBK,List.filter_eq_nil_iff.2 (fun j hj=>by have:=h2 j (by simpa using hj);simpa using this),aZU,List.range_succ_eq_map,aZR,bCI,aZK (by simpa using h3)];simp
theorem aKO{s:List Int}{level:Int}(h:0<(vE s level s.length).length):(vE s level s.length)[(0:Int).toNat]?= some (wX s level):=by
 obtain⟨m,hm,h1,h2,h3⟩:=u0 s level;rw[hm];by_cases hlt:m<s.length
 ·exact JI hlt h2 (h3 hlt)
 ·exfalso
  obtain rfl:m=s.length:=by omega
  unfold vE at h;rw[List.filter_eq_nil_iff.2 (fun j hj=>by have:=h2 j (by simpa using hj);simpa using this)]at h
  simp at h
theorem aRH{s:List Int}{level:Int}(h:¬0<(vE s level s.length).length):wX s level=(s.length:Int):=by
 obtain⟨m,hm,h1,h2,h3⟩:=u0 s level;by_cases hlt:m<s.length
 ·exfalso
  have:=JI hlt h2 (h3 hlt);have:=(aYV.1 this).1;omega
 ·rw[hm,show m=s.length by omega]
theorem pI(tv:Value)(t:aY)(D:aC)(ht:iJ D tv t):Fn prog 297 #[tv] D (fun D' v=>∃lv,v=.tuple #[lv,qI (jV t true)]∧Sl D' Z7 2 lv (if jV t true=0 then EV t else [])):=by
 have ht0:=ht;obtain⟨hv,lv,mv,rfl,hh,hl,hm⟩:=ht;refine Zs 30 func297 rfl (fun h0=>aA<|Zu rfl (fun q1 E1 hN M=>Zg rfl<|Zg rfl<|aL<|Zq rfl iI rfl M gT<|fX rfl rfl rfl (fun D2 Y=>wA _ t true _ (ht0.up (Y _ Ye))) rfl bDY (fun v2 D3 ν2 hO Z=>?_)));obtain⟨wv,rfl,hwk⟩:=Z;refine Za rfl<|Zaf rfl<|Zaf rfl<|Zg rfl<|Zg rfl<|bJ<|Za rfl<|Zak rfl<|aF<|Zz rfl (fun O=>?_) (fun O=>?_)
 ·refine aA<|Za rfl<|Zg rfl<|Zg rfl<|aG<|Zap ?_;exact cS (vs:=[_,_]) rfl rfl rfl cQ (fun D hD=>⟨_,rfl,by rw[aZB O];exact Sl.nil⟩)
 ·have G:jV t true=0:=by omega
  obtain⟨hto,htn,wb,mb,R,U,V,tsv,es,cl,S,rfl,rfl,htw,hts,hS,hsp⟩:=hwk G;have hlast:=hto.last;refine aT<|aA<|Zg rfl<|bJ<|Zh rfl jU rfl<|Zj 0 rfl aJ rfl M rfl<|Zaa rfl<|Za rfl<|aF<|Zar<|dD (γ:=Nat×Value×aD) (fun g=>(t.last+1).toNat-g.1) (fun g=>(g.1:Int)≤t.last+1∧bS 93 2 g.2.1 g.1 (NZ ((List.range g.1).map (xL t))) g.2.2) (fun g=>[(19,qI (g.1:Int)),(6,g.2.1)]) [(18,_),(4,_),(3,_),(2,_)] (fun g=>g.2.2++[(wb,qC [qI t.last,R,qI t.step,U,V,tsv,.map (some mb)] 316),(mb,.map es cl)]) (fun g=>[D3,E1,D]) (0,qN,[]) ⟨by simp;omega,by simpa [NZ]using bS.nil⟩ ⟨Yb,Yb,bDY⟩ cQ Mm5 (aH) ?_
  rintro⟨k,v,ν⟩ ⟨h1,ha⟩;simp only at h1 ha;refine aA<|Zai rfl<|bT<|Zz rfl (fun hc2=>?_) (fun hc2=>?_)
  ·have hk:(k:Int)≤t.last:=by simp only at hc2;omega
   refine aT<|aS<|Zar<|aA<|Za rfl<|Zg rfl<|aF<|aU<|Za rfl<|Za rfl<|Za rfl<|AC (A:=ν) (ν:=[(_,_),(_,_)]) rfl rfl rfl rfl (aZE rfl) (JM (cs:=[_,_,_,_,_,_,_])) (fun D5 hB=>JV t wb mb R U V tsv es cl S k _ (hts.up AW.up (hB _ Ye)) htn hto hS hsp Yd) rfl bDY (fun v5 D6 _ hR hE=>?_);obtain⟨rfl,rfl⟩:=hE;refine Zp rfl U29 cB iH rfl (.cons rfl rfl .nil) (fun hK hM hF I=>bB (A:=[]) (B:=[(_,_),(_,_)]) rfl U29 rfl rfl cB iH rfl OL rfl rfl rfl ha (mI.lit I) Ye rfl (by rw[y6];simp) Yk Yd (aZE rfl) rfl bDY (fun v1 ν1 hH=>?_))
   have hI:bS 93 2 v1 (k+1) (NZ ((List.range (k+1)).map (xL t))) ν1:=by rw[bAS,aZH,t6];exact hH
   refine Zg rfl<|Zah<|Zat<|Zaq<|aU<|Zaa rfl<|Za rfl<|Zah ?_;exact aK 14 (k+1,v1,ν1) ⟨by simp only;omega,hI⟩ Ym ⟨Yb,rfl,bDY⟩ rfl rfl Mm5 (fun D h=>⟨D,aZJ _ (aZJ _ (h)),Le.refl D⟩)
  ·have hk:(k:Int)=t.last+1:=by simp only at hc2 h1;omega
   refine aW<|Zas<|Zas<|Zav<|Zaq<|aA<|Za rfl<|Zg rfl<|Zg rfl<|aG<|gC (A:=[]) (B:=[(_,_),(_,_)]) ha rfl (fun D8 hX hJ=>?_);exact cS (vs:=[_,_]) rfl rfl rfl cQ (fun D hD=>⟨_,by rw[G];rfl,by rw[aZK G];exact(SC Yd▸hJ.rgs Ye Yd).up Z7.up (hD _ Ye)⟩)
theorem aTN(last step:Int)(hv lv mv:Value)(s:List Int)(level:Int)(D:aC)(hs:(s.length:Int)=last+1)(O:s.length≤10):
  Fn prog 182 #[.agg #[qI last,hv,qI step,lv,mv],.agg (ints (dF s)).toArray,qI level] D (fun D' v=>Sl D' RI 1 v (vE s level s.length)):=by
 have M:=fN O;refine Zs 28 func182 rfl (fun h0=>aA<|Zu rfl (fun q1 E1 hI R=>Zu rfl (fun q2 E2 hJ U=>Zg rfl<|bT<|aS ?_)));have hsl:Sl E2 RI 1 (qS q2 s.length 10) s:=by have h:=VA (l:=0) (h:=s.length) U M Yd Yd Yd;rw[bCN,bCM,bCM]at h;rw[aJY]at h;exact h
 refine aU<|Zh rfl jU rfl<|Zj 0 rfl aJ rfl R rfl<|Zaa rfl<|aDZ (h:=s.length) rfl U320 aM rfl rfl Yd Yd rfl bDY<|kW rfl U25 rfl rfl rfl bDY<|Za rfl<|aF<|Zar<|dD (γ:=Nat×Value×aD) (fun g=>s.length-g.1) (fun g=>g.1≤s.length∧bS 3 1 g.2.1 (vE s level g.1).length (ints (vE s level g.1)) g.2.2) (fun g=>[(14,qI (g.1:Int)),(6,g.2.1)]) [(13,_),(12,_),(2,_)] (fun g=>g.2.2++[]) (fun g=>[E2,E1,D]) (0,qN,[]) ⟨by simp,by simpa [ints,vE]using bS.nil⟩ ⟨Yb,Yb,bDY⟩ cQ Mm5 (aH) ?_;rintro⟨k,v,ν⟩ ⟨h1,ha⟩;simp only at h1 ha;refine aA<|Zai rfl<|bT<|Zz rfl (fun I=>?_) (fun I=>?_)
 ·have hk:k<s.length:=by simp only at I;omega
  obtain⟨x,hx⟩:=dV s k;have hwl:=TC s level k;refine aT<|aS<|Zar<|aA<|Za rfl<|jZ rfl hsl rfl hx (fun b1 o1=>Zg rfl<|Zg rfl<|aL<|Za rfl<|Za rfl<|fI rfl rfl rfl rfl bDY ?_);refine aF<|Zz rfl (fun hc2=>?_) (fun hc2=>?_)
  ·refine aU<|Za rfl<|Za rfl<|Zp rfl U25 aM dS rfl (.cons rfl rfl .nil) (fun hE hH V G=>?_);have Y:=Sl.ofInts (l:=[_]) (n:=1) (cap:=1) G rfl Yd Yd;refine bB (A:=[]) (B:=_) rfl U25 rfl rfl aM dS rfl oD rfl rfl rfl ha (mI.lit G) Ye rfl (by simp[ints]) Yk Yd (aZE rfl) rfl bDY (fun v1 ν1 Z=>?_);have hB:bS 3 1 v1 (vE s level (k+1)).length (ints (vE s level (k+1))) ν1:=by rw[aOW hx hc2,aYS,←fV];exact Z
   refine Zg rfl<|Zah<|Zat<|Zaq<|aU<|Zaa rfl<|Za rfl<|Zah ?_;exact aK 18 (k+1,v1,ν1) ⟨by simp only;omega,hB⟩ Ym ⟨Yb,rfl,bDY⟩ rfl rfl Mm5 (fun D h=>⟨D,aZJ _ (h),Le.refl D⟩)
  ·refine bM<|Zat<|Zaq<|aU<|Zaa rfl<|Za rfl<|Zah ?_;exact aK 13 (k+1,v,ν) ⟨by simp only;omega,by rw[aVS hx hc2];exact ha⟩ Ym ⟨Yb,rfl,bDY⟩ rfl rfl Mm5 (aH)
 ·obtain rfl:k=s.length:=by simp only at I;omega
  have hwl:=TC s level s.length;refine aW<|Zas<|Zas<|Zav<|Zaq<|aA<|Za rfl<|Zg rfl<|aG<|gC (A:=[]) (B:=[]) ha rfl (fun D8 hK hF=>?_);exact aE rfl (fun D hD=>(hF.ints Ye Yd).up RI.up (hD _ Ye))
theorem PM(t:aY)(wb mb:Nat)(hv lv mv tsv:Value)(es:Array MapEntry)(cl:Nat)(s:List Int)(level y:Int)(D:aC)(hs:(s.length:Int)=t.last+1)(G:s.length≤10):
  AN prog 92 [qP wb,.agg (ints (dF s)).toArray,qI level,qI y] D [(wb,qC [qI t.last,hv,qI t.step,lv,mv,tsv,.map (some mb)] 316),(mb,.map es cl)] (fun _ v ν'=>v=qI (wX s level)∧ν'=[(wb,qC [qI t.last,hv,qI t.step,lv,mv,tsv,.map (some mb)] 316),(mb,.map es cl)]):=by
 have Y:=fN G;refine iL 29 func92 rfl rfl rfl rfl (fun h0 hwl hwn=>aA<|Zu rfl (fun q1 E1 Z M=>Zg rfl<|bT<|aS<|bW [] 4 8 48<|Za rfl<|Zaj rfl<|Zh rfl DD rfl<|dM (us:=[qI t.last,hv,qI t.step,lv,mv]) rfl iI gT rfl Mm0 Yax rfl n3 rfl bDY<|dQ rfl nJ rfl M Yc Yu n3 rfl bDY ?_));refine Za rfl<|Zv rfl (fun D1 O=>aTN t.last t.step hv lv mv s level _ hs G) (fun v1 D1 O I=>Zg rfl<|aL<|Za rfl<|Zab rfl U25 rfl I rfl<|fI rfl rfl rfl rfl bDY<|aF<|Zz rfl (fun R=>?_) (fun R=>?_))
 ·have U:=aKO (s:=s) (level:=level) Yd;refine aA<|Za rfl<|jZ rfl I rfl U (fun b1 o1=>Zg rfl<|aG<|Zap ?_);exact Zac [] [] [_,_] [_] rfl ⟨rfl,bDY⟩ rfl (fun D hD=>⟨rfl,rfl⟩)
 ·have V:=aRH (s:=s) (level:=level) Yd;refine aT<|aA<|Za rfl<|Zaj rfl<|Zh rfl DD rfl<|Zh rfl jU rfl<|Zm rfl aJ rfl Mm0 rfl<|Zaa rfl<|Zg rfl<|aG ?_;exact Zac [] [] [_,_] [_] rfl ⟨rfl,bDY⟩ rfl (fun D hD=>⟨by show Value.int _ _=_;rw[V,hs],rfl⟩)
theorem aUF(t:aY)(wb mb:Nat)(hv lv mv tsv:Value)(es:Array MapEntry)(cl:Nat)(s:List Int)(a b:Int)(D:aC)(hs:(s.length:Int)=t.last+1)(M:s.length≤10)(G:0≤a)(hab:a≤b)(hbl:b≤t.last):
  AN prog 137 [qP wb,.agg (ints (dF s)).toArray,qI a,qI b] D [(wb,qC [qI t.last,hv,qI t.step,lv,mv,tsv,.map (some mb)] 316),(mb,.map es cl)] (fun _ v ν'=>v=qI (mB s a b)∧ν'=[(wb,qC [qI t.last,hv,qI t.step,lv,mv,tsv,.map (some mb)] 316),(mb,.map es cl)]):=by
 have I:=fN M;refine iL 13 func137 rfl rfl rfl rfl (fun h0 hwl hwn=>aA<|Zu rfl (fun q1 V R O=>Zg rfl<|aL<|dQ rfl nJ rfl O Yc Yu n3 rfl bDY<|Za rfl<|Za rfl<|Zc rfl (fun Y U=>AG (dF s) a b _ I G hab Yd)<|Zg rfl<|aG ?_));exact Zac [] [] [_,_] [_] rfl ⟨rfl,bDY⟩ rfl (fun D hD=>⟨by show Value.int _ _=_;rw[xV G hab Yd],rfl⟩)
end L2
namespace L2
open L1
open C2
open C1 (gW bX qO pB)
def OT(F:List Int→Int)(n:Int)(l:List (List Int)):Int×Int:=l.foldl (fun p s=>(min p.1 (F s),max p.2 (F s))) (n,n)
theorem aKW{t:aY}{F:List Int→Int}{n:Int}{k:Nat}{u:List Int}(hx:(bE t)[k]?= some u):OT F n ((bE t).take (k+1))=(min (OT F n ((bE t).take k)).1 (F u),max (OT F n ((bE t).take k)).2 (F u)):=by
 unfold OT;rw[aZG,hx,bAN];rfl
theorem KR(F:List Int→Int):∀(l:List (List Int)) (p:Int×Int),l.foldl (fun p s=>(min p.1 (F s),max p.2 (F s))) p=((l.map F).foldl min p.1,(l.map F).foldl max p.2)
 | [],_=>rfl
 |s::l,p=>by rw[bAG,KR F l];rfl
theorem aOR{t:aY}{F:List Int→Int}{I:List Int}{lo hi:Int}(G:(bE t)[0]?= some I)(h:(lo,hi)=OT F (F I) (bE t)):kX (lo,hi)=kX (qO ((bE t).map F),pB ((bE t).map F)):=by
 rw[h];cases ht:bE t with
 |nil=>rw[ht]at G;simp at G
 |cons a l=>
  rw[ht]at G;obtain rfl:a=I:=by simpa using G
  unfold OT;rw[KR,aZR,bAG,bAG,Int.min_self,Int.max_self];rfl
theorem N4{t:aY}{fine:Bool}(h:jV t fine=0):fine=true:=by
 unfold jV at h;split at h
 ·rename_i hf;exact absurd h hf
 ·split at h
  ·omega
  ·rename_i hf;simpa using hf
theorem QN{last a b:Int}(h:tJ last a b=true):0≤a∧a≤b∧b≤last:=by
 unfold tJ CU at h;simp only[aYT,aZI,bX]at h;omega
theorem p9(t:aY)(wb mb:Nat)(hv lv mv tsv:Value)(es:Array MapEntry)(cl:Nat)(F:List Int→Int)(fid:Nat)(x y:Int)(D:aC)(hts:Sl D AW 10 tsv (bE t))(htn:bE t≠[])(hto:BX t)
  (hf:∀s∈bE t,∀D',Le D D'→AN prog fid [qP wb,.agg (ints (dF s)).toArray,qI x,qI y] D' [(wb,qC [qI t.last,hv,qI t.step,lv,mv,tsv,.map (some mb)] 316),(mb,.map es cl)] (fun _ v ν'=>v=qI (F s)∧ν'=[(wb,qC [qI t.last,hv,qI t.step,lv,mv,tsv,.map (some mb)] 316),(mb,.map es cl)])):
  AN prog 93 [.agg #[.func (.func fid) #[] #[]],qP wb,qI x,qI y] D [(wb,qC [qI t.last,hv,qI t.step,lv,mv,tsv,.map (some mb)] 316),(mb,.map es cl)] (fun _ v ν'=>v=kX (qO ((bE t).map F),pB ((bE t).map F))∧ν'=[(wb,qC [qI t.last,hv,qI t.step,lv,mv,tsv,.map (some mb)] 316),(mb,.map es cl)]):=by
 have hll:=hts.len;have hlast:=hto.last;have hM:=hto.len;obtain⟨G,I⟩:∃s,(bE t)[0]?= some s:=⟨(bE t)[0]'(bBY.2 htn),aYU _⟩
 have hs0m:=LE I;have hN:=pQ hto hs0m;have R:=fN (l:=G) Yd;refine iL 48 func93 rfl rfl rfl rfl (fun h0 hwl hwn=>aA<|Zu rfl (fun q1 E1 hX M=>Zx rfl iH rfl (fun q2=>bT<|bW [] 6 13 2044<|Zh rfl ET rfl<|Zj 0 rfl VL rfl M rfl<|Za rfl<|Za rfl<|Zaj rfl<|Zh rfl kV rfl ?_)));refine Zm rfl rX rfl Mm1 rfl<|Zw rfl U314 iR rfl hts rfl I (fun b1 o1 U V hO Y=>?_);obtain rfl:U=ints (dF _):=V;refine dQ rfl nJ rfl Y Yc (by first|exact iR|(simp only[*];exact iR)) n3 rfl bDY<|Za rfl<|Za rfl<|AC (A:=[(_,_)]) (ν:=[(_,_),(_,_)]) rfl rfl rfl rfl Yay (JM (cs:=[_,_,_,_,_,_,_])) (fun D5 Z=>hf G hs0m _ (Z _ Ye)) rfl bDY (fun v5 D6 _ hY hB=>?_)
 obtain⟨rfl,rfl⟩:=hB;refine Zg rfl<|aL<|Za rfl<|Za rfl<|Zr [qI (F G),qI (F G)] rfl H9 iH rfl<|Zx rfl iH rfl (fun q3=>Zt rfl cB (bR.head)<|bJ<|Za rfl<|Zaj rfl<|Zh rfl kV rfl<|Zm rfl rX rfl Mm2 rfl ?_);refine Zab rfl U314 rfl hts rfl<|Za rfl<|aF<|Zar<|dD (γ:=Nat×Int×Int) (fun g=>(bE t).length-g.1) (fun g=>g.1≤(bE t).length∧g.2=OT F (F G) ((bE t).take g.1)) (fun g=>[(33,qI (g.1:Int))]) [(32,_),(31,_),(10,_),(8,_),(4,_),(1,_),(2,_),(3,_)] (fun g=>[(q3,qC [qI g.2.1,qI g.2.2] 93),(q2,qC [qI 0,qI 0] 93)]++[(wb,qC [qI t.last,hv,qI t.step,lv,mv,tsv,.map (some mb)] 316),(mb,.map es cl)]) (fun g=>[D6,E1,D]) (0,F G,F G) ⟨by simp,rfl⟩ ⟨Yb,bDY⟩ cQ Mm5 (aH) ?_;rintro⟨k,lo,hi⟩ ⟨h1,hI⟩;simp only at h1 hI;refine aA<|Zai rfl<|bT<|Zz rfl (fun O=>?_) (fun O=>?_)
 ·have hk:k<(bE t).length:=by simp only at O;omega
  obtain⟨u,hx⟩:=dV (bE t) k;have hum:=LE hx;have hul:=pQ hto hum;have hR:=fN (l:=u) Yd;refine aT<|aS<|Zar<|aA<|Zw rfl U314 iR rfl hts rfl hx (fun b2 o2 hE hF hS hH=>?_);obtain rfl:hE=ints (dF _):=hF;refine dQ rfl nJ rfl hH Yc (by first|exact iR|(simp only[*];exact iR)) n3 rfl bDY<|Zx rfl K7 rfl (fun q4=>bD rfl rfl rfl rfl iR Yaf Ya (bR.head) Yh bDY<|aF<|lA M Ye (fun hq1k=>?_))
  have rA:q1∉[wb,mb]:=fun h=>hq1k (n5 _ (n5 _ (n5 _ h)))
  refine zB (fun hnd=>?_);simp only[aZR,bCT,bAO,n4,n3,bBB,not_or,bAW,aZU]at hnd;have rB:q3∉[wb,mb]:=by simp only[n4,n3,bBB,not_or];exact⟨hnd.2.1.2.1,hnd.2.1.2.2⟩
  have hq4:q4∉[wb,mb]:=by simp only[n4,n3,bBB,not_or];exact⟨hnd.1.2.2.1,hnd.1.2.2.2⟩
  refine lI [wb,mb] 3 [0,1,2,3,4,5,6,7,8,9] [false,true,true,true,true,true,true,true,false,false] [(false,0),(true,1),(true,2),(true,3),(true,4),(true,5),(true,6),(true,7),(false,8),(false,9)] bI (fun _ _ _ h=>jA (P:=prog) (fn:=f93) _ _ _ h) Yg rfl<|bK rfl jQ rfl Mm1 cB Yn rfl bDY<|Zh rfl ET rfl<|dU rfl (k:=0) VL rfl M Yc rfl Yn rfl bDY<|Za rfl<|bK rfl nJ rfl Mm0 (by first|exact iR|(simp only[*];exact iR)) Yn rfl bDY<|Za rfl<|Za rfl<|AC (A:=[(_,_),(_,_),(_,_)]) (ν:=[(_,_),(_,_)]) rfl rfl rfl rfl Yay (JM (cs:=[_,_,_,_,_,_,_])) (fun D7 hJ=>hf u hum _ (hJ _ Ye)) rfl bDY (fun v7 D8 _ hD8 hK=>?_);obtain⟨rfl,rfl⟩:=hK;refine Zc rfl (fun D1 hD1=>sK (lo,hi) (F u) _)<|Zt rfl cB (.tail (bR.head))<|Zah<|Zat<|Zaq<|aU<|Zaa rfl<|Za rfl<|Zah ?_;exact aK 16 (k+1,min lo (F u),max hi (F u)) ⟨by simp only;omega,by rw[aKW hx,←hI]⟩ Ym ⟨Yb,bDY⟩ rfl rfl (List.Sublist.cons _ Mm5) (fun D h=>⟨D,aZJ _ (h),Le.refl D⟩)
 ·obtain rfl:k=(bE t).length:=by simp only at O;omega
  rw[bAA]at hI;have hfin:=aOR I hI;refine aW<|Zas<|Zas<|Zav<|Zaq<|aA<|Zy rfl jQ rfl Mm0 cB<|Zt rfl cB (.tail (bR.head))<|aG ?_;exact Zac [(_,_),(_,_)] [] [_,_] [_] rfl ⟨⟨_,_,_,rfl,List.Mem.tail _ Mm0,Or.inr ⟨jQ,cB,rfl⟩⟩,bDY⟩ rfl (fun D hD=>⟨hfin,rfl⟩)
theorem KH(tv:Value)(t:aY)(row:Int)(D:aC)(ht:iJ D tv t):Fn prog 29 #[tv,qI row] D (fun _ v=>v=.tuple #[kX (if jV t (gW row 0 ((t.levels.length:Int)-1))=0 then sN t (t.levels.getD row.toNat 0)else(0,0)),qI (jV t (gW row 0 ((t.levels.length:Int)-1)))]):=by
 have ht0:=ht;obtain⟨hv,lv,mv,rfl,hh,hl,hm⟩:=ht;refine Zs 28 func29 rfl (fun h0=>aA<|Zu rfl (fun q1 E1 hF I=>Zx rfl iH rfl (fun q2=>Zg rfl<|bT<|bW [] 4 10 398<|Zq rfl iI rfl I gT<|Zq rfl iI rfl I gT<|Za rfl<|Zc rfl (fun D1 V=>aUM _ t row _ (ht0.up (V _ Ye)))<|fX rfl rfl rfl (fun D3 Y=>wA _ t (gW row 0 ((t.levels.length:Int)-1)) _ (ht0.up (Y _ Ye))) rfl bDY (fun v3 D4 ν3 hH Z=>?_))));obtain⟨wv,rfl,hwk⟩:=Z;refine Za rfl<|Zaf rfl<|Zaf rfl<|Zg rfl<|Zg rfl<|bJ<|Za rfl<|Zak rfl<|aF<|Zz rfl (fun M=>?_) (fun M=>?_)
 ·refine aA<|Zr [qI 0,qI 0] rfl H9 iH rfl<|Za rfl<|Zt rfl cB (.app (bR.head))<|Zg rfl<|aG<|Zap ?_;exact cS (vs:=[_,_]) rfl rfl rfl ⟨⟨_,_,_,rfl,(GE _ Mm0),aYZ ⟨jQ,(by first|exact cB|(simp only[aZV,aO, *];exact cB)),rfl⟩⟩,rfl,bDY⟩ (fun D hD=>by show Value.tuple _=_;rw[aZB M];rfl)
 ·have G:jV t (gW row 0 ((t.levels.length:Int)-1))=0:=by omega
  obtain⟨hto,htn,wb,mb,O,R,U,tsv,es,cl,S,rfl,rfl,htw,hts,hS,hsp⟩:=hwk G;have hrow:=N4 G;rw[bX]at hrow;have hlev:t.levels[row.toNat]?= some (t.levels.getD row.toNat 0):=by rw[bAQ,aYU Yd];rfl
  refine aT<|aA<|Zr [.func (.func 92) #[] #[]] rfl UN UJ rfl<|Za rfl<|Zh rfl gR rfl<|Zj 3 rfl dN rfl I rfl<|Za rfl<|jZ rfl hl rfl hlev (fun b1 o1=>fK (A:=[]) (ν:=[(_,_),(_,_)]) (B:=[(_,_)]) rfl rfl rfl rfl Yay (JM (cs:=[_,_,_,_,_,_,_])) (fun D7 hB=>p9 t wb mb O R U tsv es cl (wX · (t.levels.getD row.toNat 0)) _ _ _ _ (hts.up AW.up (hB _ Ye)) htn hto (fun s hsm D' hD'=>PM t wb mb O R U tsv es cl s _ _ D' (by have:=pQ hto hsm;have:=hto.len;omega) (by have:=pQ hto hsm;have:=hto.len10;omega))) rfl bDY (fun v7 D8 _ hI hE=>?_));obtain⟨rfl,rfl⟩:=hE;refine Zt rfl cB (.tail (.tail (bR.head)))<|Zg rfl<|aG ?_;exact cS (vs:=[_,_]) rfl rfl rfl ⟨⟨_,_,_,rfl,Mm2,aYZ ⟨jQ,(by first|exact cB|(simp only[aZV,aO, *];exact cB)),rfl⟩⟩,rfl,bDY⟩ (fun D hD=>by show Value.tuple _=_;rw[aZK G,G];rfl)
theorem aTX(tv:Value)(t:aY)(a b:Int)(D:aC)(ht:iJ D tv t):Fn prog 68 #[tv,qI a,qI b] D (fun _ v=>v=.tuple #[qI (if jV t (tJ t.last a b)=0 then aXG t a b else 0),qI (jV t (tJ t.last a b))]):=by
 have ht0:=ht;obtain⟨hv,lv,mv,rfl,hh,hl,hm⟩:=ht;refine Zs 28 func68 rfl (fun h0=>aA<|Zu rfl (fun q1 E1 hF I=>Zg rfl<|Zg rfl<|bT<|bW [] 4 11 798<|Zq rfl iI rfl I gT<|Zq rfl iI rfl I gT<|Za rfl<|Za rfl<|Zc rfl (fun D1 V=>JQ _ t a b _ (ht0.up (V _ Ye))) ?_));refine fX rfl rfl rfl (fun D3 Y=>wA _ t (tJ t.last a b) _ (ht0.up (Y _ Ye))) rfl bDY (fun v3 D4 ν3 hH Z=>?_);obtain⟨wv,rfl,hwk⟩:=Z;refine Za rfl<|Zaf rfl<|Zaf rfl<|Zg rfl<|Zg rfl<|bJ<|Za rfl<|Zak rfl<|aF<|Zz rfl (fun M=>?_) (fun M=>?_)
 ·refine aA<|Za rfl<|Zg rfl<|Zg rfl<|aG<|Zap ?_;exact cS (vs:=[_,_]) rfl rfl rfl cQ (fun D hD=>by show Value.tuple _=_;rw[aZB M])
 ·have G:jV t (tJ t.last a b)=0:=by omega
  obtain⟨hto,htn,wb,mb,O,R,U,tsv,es,cl,S,rfl,rfl,htw,hts,hS,hsp⟩:=hwk G;have hrow:=QN (N4 G);refine aT<|aA<|Zr [.func (.func 137) #[] #[]] rfl UN UJ rfl<|Za rfl<|Za rfl<|Za rfl<|fK (A:=[]) (ν:=[(_,_),(_,_)]) (B:=[]) rfl rfl rfl rfl Yay (JM (cs:=[_,_,_,_,_,_,_])) (fun D7 hB=>p9 t wb mb O R U tsv es cl (mB · a b) _ _ _ _ (hts.up AW.up (hB _ Ye)) htn hto (fun s hsm D' hD'=>aUF t wb mb O R U tsv es cl s _ _ D' (by have:=pQ hto hsm;have:=hto.len;omega) (by have:=pQ hto hsm;have:=hto.len10;omega) hrow.1 hrow.2.1 hrow.2.2)) rfl bDY (fun v7 D8 _ hI hE=>?_)
  obtain⟨rfl,rfl⟩:=hE;refine aLG rfl U93 rfl aJ rfl rfl rfl bDY<|Zg rfl<|Zg rfl<|aG ?_;exact cS (vs:=[_,_]) rfl rfl rfl cQ (fun D hD=>by show Value.tuple _=_;rw[aZK G,G];rfl)
end L2
open Go.Proofs
namespace L3
open L1
open C1
end L3
namespace L3
open L1
open C3
def OY(lo:Int)(k:Nat):List Int:=(List.range k).map fun i:Nat=>lo+(i:Int)
theorem aGC{s n lo hi:Int}(h:s≠n):fF s n lo hi=[s]:=by unfold fF;rw[aZK h]
theorem aHF{s n lo hi:Int}(h:¬s≠n):fF s n lo hi=OY lo (hi+1-lo).toNat:=by unfold fF;rw[aZB h];rfl
theorem kH(n lo hi:Int)(D:aC):Fn prog 117 #[qI n,qI lo,qI hi] D (fun _ v=>v=.bool (C1.gW n lo hi)):=by
 refine Zs 15 func117 rfl (fun h0=>aA<|Zg rfl<|aL<|Za rfl<|Za rfl<|lE rfl rfl rfl rfl bDY<|Za rfl ?_);refine' dJ 4 (s:=10) (p:=14) rfl (fun G=>?_) (fun G=>?_) ?_;rotate_left
 ·refine Zb rfl<|Zb rfl<|lE rfl rfl rfl rfl ⟨_,rfl,rfl⟩<|Zad rfl ?_;exact aQ 3
 ·refine Zf rfl<|Zf rfl<|Zf rfl<|Zae rfl ?_;exact aQ 3
 refine Zg rfl<|aG ?_;exact aE rfl (fun D hD=>rfl)
theorem zE(sv:Value)(x:Int)(xs:List Int)(D:aC)(hS:Sl D RI 1 sv (x::xs)):
  Fn prog 223 #[sv] D (fun _ v=>v=qI (xs.foldl min x)):=by
 refine Zs 5 func223 rfl (fun h0=>aA<|Zg rfl<|aL<|Za rfl<|Zc rfl (fun I G=>m2 _ x xs _ (Sl.at RI.up G Yl Ye))<|Zg rfl<|aG ?_);exact aE rfl (fun D hD=>rfl)
theorem aQC(r:Int×Int)(n:Int)(D:aC):Fn prog 358 #[kX r,qI n] D (fun _ v=>v=.bool (C1.gW n r.1 r.2)):=by
 refine Zs 11 func358 rfl (fun h0=>aA<|Zu rfl (fun q1 O I G=>Zg rfl<|aL<|Za rfl<|Zh rfl vW rfl<|Zj 0 rfl aJ rfl G rfl<|Zh rfl vG rfl<|Zj 1 rfl aJ rfl G rfl<|Zc rfl (fun R M=>kH _ _ _ _)<|Zg rfl ?_));refine aG ?_;exact aE rfl (fun D hD=>rfl)
theorem CE(r:Int×Int)(n:Int)(D:aC):Fn prog 201 #[kX r,qI n] D (fun _ v=>v=kX (min r.1 n,max r.2 n)):=by
 refine Zs 15 func201 rfl (fun h0=>aA<|Zu rfl (fun q1 Z Y M=>Zx rfl nN rfl (fun q2=>bT<|lI [] 4 [0,1,2,5,6,7,8,3,4,9,10] [false,false,true,true,true,true,true,true,true,false,false] [(false,0),(false,1),(true,2),(true,5),(true,6),(true,7),(true,8),(true,3),(true,4),(false,9),(false,10)] bI (fun _ _ _ h=>kL (P:=prog) (fn:=f201) _ _ _ h) Yg rfl<|Zh rfl vW rfl<|Zj 0 rfl aJ rfl M rfl<|Za rfl<|Zh rfl vG rfl<|Zj 1 rfl aJ rfl M rfl<|Za rfl ?_)));refine qW rfl rfl rfl rfl bDY<|Zp rfl U25 aM dS rfl (.cons rfl rfl (.cons rfl rfl .nil)) (fun U V O G=>?_);have I:=Sl.ofInts (l:=[_,_]) (n:=2) (cap:=2) G rfl Yd Yd;refine Zc rfl (fun D1 R=>zE _ r.1 [n] _ (I.up RI.up (R _ Ye)))<|Zr [qI (min r.1 n),qI (max r.2 n)] rfl R8 nN rfl<|Zt rfl eG (bR.head)<|aG ?_;exact cS (vs:=[_]) rfl rfl rfl ⟨⟨_,_,_,rfl,Mm0,aYZ ⟨mM,(by first|exact eG|(simp only[aZV,aO, *];exact eG)),rfl⟩⟩,bDY⟩ (fun D hD=>rfl)
theorem BD(sv fv:Value)(xs:List gI)(p:gI→Bool)(D:aC)(hS:Sl D tN 3 sv xs)(hp:cX prog D NK fv p):
  Fn prog 366 #[sv,fv] D (fun _ v=>v=qI (idxOf p xs)):=by
 have hl:=hS.len;obtain⟨f,c1,c2,rfl,hf⟩:=hp;refine Zs 19 func366 rfl (fun h0=>aA<|Zg rfl<|bJ<|Za rfl<|cZ rfl U33 rfl Yl rfl rfl bDY<|Za rfl<|aF<|Zar<|Zl Nat (fun k=>xs.length-k) (fun k=>k≤xs.length∧(xs.take k).any p=false) (fun k=>[(8,qI k)]) [(7,_),(4,_),(0,_),(1,_)] (fun k=>[D]) 0 ⟨Yb,bDY⟩ ?_);rintro k ⟨h1,h2⟩;refine aA<|Zai rfl<|bT<|Zz rfl (fun G=>?_) (fun G=>?_)
 ·have hk:k<xs.length:=by omega
  obtain⟨x,hx⟩:=dV xs k;refine aT<|aS<|Zar<|aA<|Za rfl<|Zg rfl<|aL<|Za rfl<|Za rfl<|Za rfl<|eY rfl U33 bU rfl Yl rfl Yd Yl rfl bDY (fun V o1 I M U O=>?_);obtain rfl:I=[qI _,qI _,qI _]:=M;refine Zq rfl kJ rfl O bU<|Zc rfl (fun Y R=>hf x _ (R _ Ye))<|aF<|aP rfl (fun hc2=>?_) (fun hc2=>?_)
  ·refine aA<|Za rfl<|Zg rfl<|aG<|Zau<|Zap<|Zap<|Zau<|Zap ?_;exact aE rfl (fun D hD=>by show Value.int _ _=_;rw[kA hx h2 hc2])
  ·refine bM<|Zat<|Zaq<|aU<|Zaa rfl<|Za rfl<|Zah ?_;have hpx:p x=false:=hc2;have h3:(xs.take (k+1)).any p=false:=by rw[aZG,hx,bCF,h2];simp[hpx]
   exact aK 12 (k+1) ⟨by omega,h3⟩ Yd ⟨Yb,bDY⟩ rfl rfl Mm5 (aH)
 ·refine aW<|Zas<|Zas<|Zav<|Zaq<|aA<|Zg rfl<|aG ?_;exact aE rfl (fun D hD=>by show Value.int _ _=_;rw[gE Yab])
theorem V2(sv fv:Value)(xs:List gI)(p:gI→Bool)(D:aC)(hS:Sl D tN 3 sv xs)(hp:cX prog D NK fv p):
  Fn prog 315 #[sv,fv] D (fun _ v=>v=.bool (xs.any p)):=by
 refine Zs 9 func315 rfl (fun h0=>aA<|Zg rfl<|aL<|Za rfl<|Za rfl<|Zc rfl (fun I G=>BD _ _ xs p _ (Sl.at tN.up G Yl Ye) (hp.up (G _ Ye)))<|tC rfl rfl rfl rfl bDY<|Zg rfl<|aG ?_);exact aE rfl (fun D hD=>by show Value.bool (decide _)=_;rw[jT])
theorem aFE(b:Nat)(fv:Value)(p:gI→Bool)(x:gI)(D:aC)(hp:cX prog D NK fv p)(hB:At D b 0 [fv]):
  Fn prog 316 #[NK x,qP b] D (fun _ v=>v=.bool (!p x)):=by
 obtain⟨f,c1,c2,rfl,hf⟩:=hp;refine Zs 8 func316 rfl (fun h0=>aA<|Zu rfl (fun q1 O M G=>Zg rfl<|aL<|Zj 0 rfl aML rfl hB rfl<|Zq rfl kJ rfl G bU<|Zc rfl (fun R I=>hf x _ (I _ Ye))<|Zal rfl<|Zg rfl<|aG ?_));exact aE rfl (fun D hD=>rfl)
theorem aOH(sv fv:Value)(xs:List gI)(p:gI→Bool)(D:aC)(hS:Sl D tN 3 sv xs)(hp:cX prog D NK fv p)(h1:fv.cells=#[fv]):
  Fn prog 221 #[sv,fv] D (fun _ v=>v=.bool (xs.all p)):=by
 refine Zs 9 func221 rfl (fun h0=>aA<|rC (vs:=[fv]) rfl rfl h1 rfl bDY (fun b I G hB=>Zg rfl<|aL<|Za rfl<|Zao rfl<|Zc rfl (fun I G=>V2 _ _ xs (fun x=> !p x) _ (Sl.at tN.up G Yl Ye) ⟨_,[],[qP b],rfl,fun x M hl=>aFE b fv p x M (hp.up ((G _ Ye).trans hl)) (hB.up ((G _ Ye).trans hl))⟩)<|Zal rfl<|Zg rfl<|aG ?_));exact aE rfl (fun D hD=>by show Value.bool (!_)=_;rw[nI])
theorem BM(sv fv:Value)(xs:List Cn)(p:Cn→Bool)(D:aC)(hS:Sl D wC 3 sv xs)(hp:cX prog D aUA fv p):
  Fn prog 367 #[sv,fv] D (fun _ v=>v=qI (idxOf p xs)):=by
 have hl:=hS.len;obtain⟨f,c1,c2,rfl,hf⟩:=hp;refine Zs 19 func367 rfl (fun h0=>aA<|Zg rfl<|bJ<|Za rfl<|cZ rfl U34 rfl Yl rfl rfl bDY<|Za rfl<|aF<|Zar<|Zl Nat (fun k=>xs.length-k) (fun k=>k≤xs.length∧(xs.take k).any p=false) (fun k=>[(8,qI k)]) [(7,_),(4,_),(0,_),(1,_)] (fun k=>[D]) 0 ⟨Yb,bDY⟩ ?_);rintro k ⟨h1,h2⟩;refine aA<|Zai rfl<|bT<|Zz rfl (fun G=>?_) (fun G=>?_)
 ·have hk:k<xs.length:=by omega
  obtain⟨x,hx⟩:=dV xs k;refine aT<|aS<|Zar<|aA<|Za rfl<|Zg rfl<|aL<|Za rfl<|Za rfl<|Za rfl<|eY rfl U34 nC rfl Yl rfl Yd Yl rfl bDY (fun V o1 I M U O=>?_);obtain rfl:I=[qI _,qI _,qI _]:=M;refine Zq rfl K8 rfl O nC<|Zc rfl (fun Y R=>hf x _ (R _ Ye))<|aF<|aP rfl (fun hc2=>?_) (fun hc2=>?_)
  ·refine aA<|Za rfl<|Zg rfl<|aG<|Zau<|Zap<|Zap<|Zau<|Zap ?_;exact aE rfl (fun D hD=>by show Value.int _ _=_;rw[kA hx h2 hc2])
  ·refine bM<|Zat<|Zaq<|aU<|Zaa rfl<|Za rfl<|Zah ?_;have hpx:p x=false:=hc2;have h3:(xs.take (k+1)).any p=false:=by rw[aZG,hx,bCF,h2];simp[hpx]
   exact aK 12 (k+1) ⟨by omega,h3⟩ Yd ⟨Yb,bDY⟩ rfl rfl Mm5 (aH)
 ·refine aW<|Zas<|Zas<|Zav<|Zaq<|aA<|Zg rfl<|aG ?_;exact aE rfl (fun D hD=>by show Value.int _ _=_;rw[gE Yab])
theorem S3(sv fv:Value)(xs:List Cn)(p:Cn→Bool)(D:aC)(hS:Sl D wC 3 sv xs)(hp:cX prog D aUA fv p):
  Fn prog 317 #[sv,fv] D (fun _ v=>v=.bool (xs.any p)):=by
 refine Zs 9 func317 rfl (fun h0=>aA<|Zg rfl<|aL<|Za rfl<|Za rfl<|Zc rfl (fun I G=>BM _ _ xs p _ (Sl.at wC.up G Yl Ye) (hp.up (G _ Ye)))<|tC rfl rfl rfl rfl bDY<|Zg rfl<|aG ?_);exact aE rfl (fun D hD=>by show Value.bool (decide _)=_;rw[jT])
theorem aHH(b:Nat)(fv:Value)(p:Cn→Bool)(x:Cn)(D:aC)(hp:cX prog D aUA fv p)(hB:At D b 0 [fv]):
  Fn prog 318 #[aUA x,qP b] D (fun _ v=>v=.bool (!p x)):=by
 obtain⟨f,c1,c2,rfl,hf⟩:=hp;refine Zs 8 func318 rfl (fun h0=>aA<|Zu rfl (fun q1 O M G=>Zg rfl<|aL<|Zj 0 rfl aPY rfl hB rfl<|Zq rfl K8 rfl G nC<|Zc rfl (fun R I=>hf x _ (I _ Ye))<|Zal rfl<|Zg rfl<|aG ?_));exact aE rfl (fun D hD=>rfl)
theorem VK(sv fv:Value)(xs:List Cn)(p:Cn→Bool)(D:aC)(hS:Sl D wC 3 sv xs)(hp:cX prog D aUA fv p)(h1:fv.cells=#[fv]):
  Fn prog 222 #[sv,fv] D (fun _ v=>v=.bool (xs.all p)):=by
 refine Zs 9 func222 rfl (fun h0=>aA<|rC (vs:=[fv]) rfl rfl h1 rfl bDY (fun b I G hB=>Zg rfl<|aL<|Za rfl<|Zao rfl<|Zc rfl (fun I G=>S3 _ _ xs (fun x=> !p x) _ (Sl.at wC.up G Yl Ye) ⟨_,[],[qP b],rfl,fun x M hl=>aHH b fv p x M (hp.up ((G _ Ye).trans hl)) (hB.up ((G _ Ye).trans hl))⟩)<|Zal rfl<|Zg rfl<|aG ?_));exact aE rfl (fun D hD=>by show Value.bool (!_)=_;rw[nI])
theorem aHO(bv:Value)(b:bA)(l:gI)(D:aC)(hb:gL D bv b)(hn:0≤b.chairs∧b.chairs≤100):Fn prog 219 #[bv,NK l] D (fun _ v=>v=.bool (wO b.chairs l)):=by
 obtain⟨lv,cv,rfl,hl,hc⟩:=hb;refine Zs 24 func219 rfl (fun h0=>aA<|Zu rfl (fun q1 E1 R I=>Zu rfl (fun q2 E2 U G=>Zg rfl<|aL<|Zh rfl V8 rfl<|Zj 0 rfl aJ rfl G rfl<|Zc rfl (fun D1 V=>kH _ _ _ _)<|Za rfl ?_)));refine' dJ 7 (s:=8) (p:=15) rfl (fun M=>?_) (fun M=>?_) ?_;rotate_left
 ·refine Zi rfl pK rfl<|Zk 1 rfl aJ rfl G rfl<|Zi rfl oI rfl<|Zk 0 rfl aJ rfl I rfl<|P9 rfl rfl rfl Yf rfl ⟨_,rfl,rfl⟩<|Zd rfl (fun D2 Y=>kH _ _ _ _)<|Zad rfl ?_;exact aQ 6
 ·refine Zf rfl<|Zf rfl<|Zf rfl<|Zf rfl<|Zf rfl<|Zf rfl<|Zae rfl ?_;exact aQ 6
 refine Za rfl ?_;refine' dJ 7 (s:=16) (p:=23) rfl (fun O=>?_) (fun O=>?_) ?_;rotate_left
 ·refine Zi rfl mC rfl<|Zk 2 rfl aJ rfl G rfl<|Zi rfl oI rfl<|Zk 0 rfl aJ rfl I rfl<|P9 rfl rfl rfl Yf rfl ⟨_,rfl,rfl⟩<|Zd rfl (fun D3 Z=>kH _ _ _ _)<|Zad rfl ?_;exact aQ 6
 ·refine Zf rfl<|Zf rfl<|Zf rfl<|Zf rfl<|Zf rfl<|Zf rfl<|Zae rfl ?_;exact aQ 6
 refine Zg rfl<|aG ?_;exact aE rfl (fun D hD=>rfl)
theorem YT(bv:Value)(b:bA)(c:Cn)(D:aC)(hb:gL D bv b):Fn prog 220 #[bv,aUA c] D (fun _ v=>v=.bool (qV b.lines.length c)):=by
 obtain⟨lv,cv,rfl,hl,hc⟩:=hb;refine Zs 31 func220 rfl (fun h0=>aA<|Zu rfl (fun q1 Z U I=>Zu rfl (fun q2 E2 V G=>Zg rfl<|aL<|Zh rfl S1 rfl<|dW rfl (k:=1) mM eG rfl G Yc rfl rfl n3 rfl bDY<|Zx rfl nN rfl (fun q3=>Zt rfl eG (bR.head)<|aL<|Zh rfl B7 rfl ?_))));refine Zj 0 rfl aJ rfl G rfl<|Zh rfl cE rfl<|Zj 3 rfl fA rfl I rfl<|Zab rfl U33 rfl hl rfl<|Zc rfl (fun D1 Y=>kH _ _ _ _)<|Za rfl ?_;refine' dJ 4 (s:=14) (p:=18) rfl (fun M=>?_) (fun M=>?_) ?_;rotate_left
 ·refine Zi rfl vW rfl<|Zn rfl aJ rfl Mm0 rfl<|lE rfl rfl rfl rfl ⟨_,rfl,rfl⟩<|Zad rfl ?_;exact aQ 3
 ·refine Zf rfl<|Zf rfl<|Zf rfl<|Zae rfl ?_;exact aQ 3
 refine Za rfl ?_;refine' dJ 6 (s:=19) (p:=25) rfl (fun O=>?_) (fun O=>?_) ?_;rotate_left
 ·refine Zi rfl vW rfl<|Zn rfl aJ rfl Mm0 rfl<|Zi rfl vG rfl<|Zn rfl aJ rfl Mm0 rfl<|lE rfl rfl rfl rfl ⟨_,rfl,rfl⟩<|Zad rfl ?_;exact aQ 5
 ·refine Zf rfl<|Zf rfl<|Zf rfl<|Zf rfl<|Zf rfl<|Zae rfl ?_;exact aQ 5
 refine Za rfl ?_;refine' dJ 4 (s:=26) (p:=30) rfl (fun R=>?_) (fun R=>?_) ?_;rotate_left
 ·refine Zi rfl vG rfl<|Zn rfl aJ rfl Mm0 rfl<|lE rfl rfl rfl rfl ⟨_,rfl,rfl⟩<|Zad rfl ?_;exact aQ 3
 ·refine Zf rfl<|Zf rfl<|Zf rfl<|Zae rfl ?_;exact aQ 3
 refine Zg rfl<|aG ?_;exact aE rfl (fun D hD=>rfl)
theorem HB(s n lo hi:Int)(D:aC)(h1: -10≤lo∧lo≤10)(h2: -10≤hi∧hi≤100):Fn prog 319 #[qI s,qI n,qI lo,qI hi] D (fun D' v=>Sl D' RI 1 v (fF s n lo hi)):=by
 refine Zs 26 func319 rfl (fun h0=>aA<|Zg rfl<|bJ<|Za rfl<|Za rfl<|Zak rfl<|aF<|Zz rfl (fun I=>?_) (fun I=>?_))
 ·refine aA<|Za rfl<|Zp rfl U25 aM dS rfl (.cons rfl rfl .nil) (fun hE hH R M=>?_);have O:=Sl.ofInts (l:=[_]) (n:=1) (cap:=1) M rfl Yd Yd;refine Zg rfl<|aG<|Zap ?_;exact aE rfl (fun D hD=>by rw[aGC I];exact O.up RI.up (hD _ Ye))
 ·refine aT<|eH<|Za rfl<|Zg rfl<|aF<|Zar<|dD (γ:=Nat×Value×aD) (fun g=>(hi+1-lo).toNat-g.1) (fun g=>g.1≤(hi+1-lo).toNat∧bS 3 1 g.2.1 g.1 (ints (OY lo g.1)) g.2.2) (fun g=>[(8,g.2.1),(9,qI (lo+(g.1:Int)))]) [(3,_)] (fun g=>g.2.2++[]) (fun g=>[D]) (0,qN,[]) ⟨by simp,by simpa [ints,OY]using bS.nil⟩ ⟨Yb,Yb,bDY⟩ ⟨rfl,bDY⟩ Mm5 (aH) ?_;rintro⟨k,v,ν⟩ ⟨U,ha⟩;simp only at U ha;refine eH<|Za rfl<|Za rfl<|lE rfl rfl rfl rfl bDY<|aF<|Zz rfl (fun hc2=>?_) (fun hc2=>?_)
  ·simp only at hc2;refine aT<|aS<|Zar<|aU<|Za rfl<|Za rfl<|Zp rfl U25 aM dS rfl (.cons rfl rfl .nil) (fun hI hJ V G=>?_);have Y:=Sl.ofInts (l:=[_]) (n:=1) (cap:=1) G rfl Yd Yd;refine bB (A:=[]) (B:=_) rfl U25 rfl rfl aM dS rfl oD rfl rfl rfl ha (mI.lit G) Ye rfl (by simp[OY]) Yk Yd (aZE rfl) rfl bDY (fun v1 ν1 Z=>?_);have hB:bS 3 1 v1 (k+1) (ints (OY lo (k+1))) ν1:=by unfold OY;rw[bAS,aZH,bCP,←fV];exact Z
   refine Zg rfl<|Zah<|Zat<|Zaq<|aU<|Za rfl<|Zaa rfl<|Zg rfl<|Zah ?_;exact aK 13 (k+1,v1,ν1) ⟨by simp only;omega,hB⟩ Ym ⟨rfl,(by show some (Value.int _ _)=some (Value.int _ _);congr 2;push_cast;omega),bDY⟩ rfl rfl Mm5 (fun D h=>⟨D,aZJ _ (h),Le.refl D⟩)
  ·have hk:k=(hi+1-lo).toNat:=by simp only at hc2;omega
   rw[hk]at ha;refine aW<|Zas<|Zas<|Zav<|Zaq<|aA<|Za rfl<|Zg rfl<|aG<|gC (A:=[]) (B:=[]) ha rfl (fun D2 hK hF=>?_);exact aE rfl (fun D hD=>by rw[aHF I];exact(hF.ints (by simp[OY]) Yd).up RI.up (hD _ Ye))
end L3
namespace L3
open L1
open C3
def aWH(n:Int)(l:gI)(x c:Int):List gI:=(fF l.token (-1) 0 (n-1)).map fun t=>⟨x,c,t⟩
def aXS(n:Int)(l:gI)(x:Int):List gI:=(fF l.chair (-1) 0 (n-1)).flatMap (aWH n l x)
def aKZ(n:Int)(l:gI)(k:Nat):List gI:=((fF l.kind 0 1 2).take k).flatMap (aXS n l)
def aHA(n:Int)(l:gI)(k:Nat)(x:Int)(j:Nat):List gI:=aKZ n l k++((fF l.chair (-1) 0 (n-1)).take j).flatMap (aWH n l x)
def XL(n:Int)(l:gI)(k:Nat)(x:Int)(j:Nat)(c:Int)(i:Nat):List gI:=aHA n l k x j++((fF l.token (-1) 0 (n-1)).take i).map fun t=>⟨x,c,t⟩
theorem UZ{n:Int}{l:gI}:aKZ n l (fF l.kind 0 1 2).length=dH n l:=by unfold aKZ;rw[bAA];rfl
theorem aGH{n:Int}{l:gI}{k:Nat}{x:Int}:aHA n l k x 0=aKZ n l k:=by unfold aHA;simp
theorem aDT{n:Int}{l:gI}{k:Nat}{x:Int}{j:Nat}{c:Int}:XL n l k x j c 0=aHA n l k x j:=by unfold XL;simp
theorem aLX{n:Int}{l:gI}{k:Nat}{x:Int}(h:(fF l.kind 0 1 2)[k]?= some x):aHA n l k x (fF l.chair (-1) 0 (n-1)).length=aKZ n l (k+1):=by
 unfold aHA aKZ;rw[bAA,aZG,h,bAR,aZS,bAJ];rfl
theorem aMI{n:Int}{l:gI}{k:Nat}{x:Int}{j:Nat}{c:Int}(h:(fF l.chair (-1) 0 (n-1))[j]?= some c):XL n l k x j c (fF l.token (-1) 0 (n-1)).length=aHA n l k x (j+1):=by
 unfold XL aHA;rw[bAA,aZG,h,bAR,aZS,bAJ,aZD];rfl
theorem aEQ{n:Int}{l:gI}{k:Nat}{x:Int}{j:Nat}{c:Int}{i:Nat}{t:Int}(h:(fF l.token (-1) 0 (n-1))[i]?= some t):XL n l k x j c (i+1)=XL n l k x j c i++[⟨x,c,t⟩]:=by
 unfold XL;rw[aZG,h,bAR,aZH,←aZD];rfl
theorem vT{s none lo hi:Int}{m:Nat}(h:hi+1-lo≤m)(h1:1≤m):(fF s none lo hi).length≤m:=by
 unfold fF;split
 ·simpa using h1
 ·simp;omega
theorem lV{α β:Type}{f:α→List β}{m:Nat}:∀(l:List α),(∀x∈l,(f x).length≤m)→(l.flatMap f).length≤l.length*m
 | [],_=>by simp
 |x::l,h=>by
  rw[bAC,aYS,aYW,bBU];have:=lV l fun y hy=>h y (n5 _ hy)
  have:=h x LT;omega
theorem UF{n:Int}{l:gI}(hn:n≤4)(x c:Int):(aWH n l x c).length≤4:=by unfold aWH;rw[bAY];exact vT Yd Yd
theorem aOK{n:Int}{l:gI}(hn:n≤4)(x:Int):(aXS n l x).length≤16:=by
 unfold aXS;have h1:=lV (m:=4) (f:=aWH n l x) (fF l.chair (-1) 0 (n-1)) fun c _=>UF hn x c
 have h2:=vT (s:=l.chair) (none:= -1) (lo:=0) (hi:=n-1) (m:=4) Yd Yd;omega
theorem TI{n:Int}{l:gI}(hn:n≤4)(k:Nat):(aKZ n l k).length≤32:=by
 unfold aKZ;have h1:=lV (m:=16) (f:=aXS n l) ((fF l.kind 0 1 2).take k) fun x _=>aOK hn x
 have h2:=vT (s:=l.kind) (none:=0) (lo:=1) (hi:=2) (m:=2) Yd Yd;have h3:((fF l.kind 0 1 2).take k).length≤(fF l.kind 0 1 2).length:=by rw[bBI];omega
 omega
theorem QJ{n:Int}{l:gI}(hn:n≤4):(dH n l).length≤32:=by rw[←UZ];exact TI hn _
theorem aPC{n:Int}{l:gI}{k:Nat}{x:Int}{j:Nat}{c:Int}{i:Nat}(hn:n≤4):(XL n l k x j c i).length≤60:=by
 unfold XL aHA;rw[aYS,aYS,bAY];have h0:=TI (l:=l) hn k;have h1:=lV (m:=4) (f:=aWH n l x) ((fF l.chair (-1) 0 (n-1)).take j) fun c _=>UF hn x c
 have h2:=vT (s:=l.chair) (none:= -1) (lo:=0) (hi:=n-1) (m:=4) Yd Yd;have h3:=vT (s:=l.token) (none:= -1) (lo:=0) (hi:=n-1) (m:=4) Yd Yd;have h4:((fF l.chair (-1) 0 (n-1)).take j).length≤4:=by rw[bBI];omega
 have h5:((fF l.token (-1) 0 (n-1)).take i).length≤4:=by rw[bBI];omega
 omega
def K6(l:List gI):List Value:=l.flatMap fun x=>[qI x.kind,qI x.chair,qI x.token]
theorem JC(l:List gI):(K6 l).length=l.length*3:=by
 induction l with
 |nil=>rfl
 |cons c l ih=>unfold K6 at ih ⊢;rw[bAC,aYS,ih];simp only[aYW,bAP];omega
theorem aFB{l:List gI}{i:Nat}{c:gI}(hi:l[i]?= some c):((K6 l).drop (i*3)).take 3=[qI c.kind,qI c.chair,qI c.token]:=by
  induction l generalizing i with
  |nil=>simp at hi
  |cons d l ih=>
    unfold K6 at ih ⊢
    rw[bAC];cases i with
    | zero => obtain rfl : d = c := by simpa using hi
              rfl
    |succ i=>
      rw[bDA,aZZ Yaj,aZU];have:(i+1)*3- [Value.int .i64 d.kind,Value.int .i64 d.chair,Value.int .i64 d.token].length=i*3:=by simp;omega
      rw[this];exact ih Yal
theorem _root_.Go.Fs.mK.lins{D:aC}{v:Value}{n:Nat}{l:List gI}(hF:mK D v n (K6 l))(hn:l.length=n)(hb:n≤9223372036854775807):Sl D tN 3 v l:=
 hF.sl hn hb fun _i _t hi=>⟨_,rfl,rfl,aFB hi⟩
theorem yT(bv:Value)(b:bA)(l:gI)(D:aC)(hb:gL D bv b)(hn:1≤b.chairs∧b.chairs≤4):Fn prog 224 #[bv,NK l] D (fun D' v=>Sl D' tN 3 v (dH b.chairs l)):=by
 obtain⟨lv,cv,rfl,hl,hc⟩:=hb;refine Zs 52 func224 rfl (fun h0=>aA<|Zu rfl (fun q1 E1 hE1 Z=>Zu rfl (fun q2 E2 hE2 I=>Zg rfl<|bJ<|Zh rfl V8 rfl<|Zj 0 rfl aJ rfl I rfl<|Zv rfl (fun D1 hH=>HB _ _ _ _ _ Yd Yd) (fun v1 D1 hH hI=>?_))));have M:=hI;refine Zab rfl U25 rfl M rfl<|Za rfl<|aF<|Zar<|dD (γ:=Nat×Value×aD) (fun g=>(fF l.kind 0 1 2).length-g.1) (fun g=>g.1≤(fF l.kind 0 1 2).length∧bS 206 3 g.2.1 (aKZ b.chairs l g.1).length (K6 (aKZ b.chairs l g.1)) g.2.2) (fun g=>[(4,g.2.1),(15,qI (g.1:Int))]) [(14,_),(13,_),(3,_),(2,_)] (fun g=>g.2.2++[]) (fun g=>[D1,E2,E1,D]) (0,qN,[]) ⟨by simp,bS.nil⟩ ⟨Yb,Yb,bDY⟩ cQ Mm5 (aH) ?_;rintro⟨k,v,ν⟩ ⟨h1,G⟩;simp only at h1 G;refine aA<|Zai rfl<|bT<|Zz rfl (fun O=>?_) (fun O=>?_)
 ·simp only at O;have hS:=M.len;obtain⟨x,hx1⟩:=dV (fF l.kind 0 1 2) k;refine aT<|aS<|Zar<|aA<|jZ rfl M rfl hx1 (fun b1 o1=>Zg rfl<|aL<|Zh rfl pK rfl<|Zj 1 rfl aJ rfl I rfl<|Zh rfl oI rfl<|Zj 0 rfl aJ rfl Z rfl<|Zan rfl ?_);refine Zv rfl (fun D2 hB=>HB _ _ _ _ _ Yd Yd) (fun v2 D2 hB hJ=>?_);have R:=hJ;refine Zab rfl U25 rfl R rfl<|Za rfl<|aF<|Zar<|dD (γ:=Nat×Value×aD) (fun g=>(fF l.chair (-1) 0 (b.chairs-1)).length-g.1) (fun g=>g.1≤(fF l.chair (-1) 0 (b.chairs-1)).length∧bS 206 3 g.2.1 (aHA b.chairs l k x g.1).length (K6 (aHA b.chairs l k x g.1)) g.2.2) (fun g=>[(4,g.2.1),(26,qI (g.1:Int))]) [(25,_),(24,_),(23,_),(22,_),(21,_),(20,_),(19,_),(6,_),(18,_),(17,_),(16,_),(15,_),(14,_),(13,_),(3,_),(2,_)] (fun g=>g.2.2++[]) (fun g=>[D2,D1,E2,E1,D]) (0,v,ν) ⟨by simp,by rw[aGH];exact G⟩ ⟨Yb,Yb,bDY⟩ cQ Mm5 (aH) ?_
  rintro⟨j,w,ν2⟩ ⟨h2,haJ⟩;simp only at h2 haJ;refine aA<|Zai rfl<|bT<|Zz rfl (fun hc2=>?_) (fun hc2=>?_)
  ·simp only at hc2;have hX:=R.len;obtain⟨c,hx2⟩:∃x,(fF l.chair (-1) 0 (b.chairs-1))[j]?= some x:=⟨_,aYU Yd⟩
   refine aT<|aS<|Zar<|aA<|jZ rfl R rfl hx2 (fun b2 o2=>Zg rfl<|aL<|Zh rfl mC rfl<|Zj 2 rfl aJ rfl I rfl<|Zh rfl oI rfl<|Zj 0 rfl aJ rfl Z rfl<|Zan rfl ?_);refine Zv rfl (fun D3 hK=>HB _ _ _ _ _ Yd Yd) (fun v3 D3 hK hM=>?_);have U:=hM;refine Zab rfl U25 rfl U rfl<|Za rfl<|aF<|Zar<|dD (γ:=Nat×Value×aD) (fun g=>(fF l.token (-1) 0 (b.chairs-1)).length-g.1) (fun g=>g.1≤(fF l.token (-1) 0 (b.chairs-1)).length∧bS 206 3 g.2.1 (XL b.chairs l k x j c g.1).length (K6 (XL b.chairs l k x j c g.1)) g.2.2) (fun g=>[(4,g.2.1),(37,qI (g.1:Int))]) [(36,_),(35,_),(34,_),(33,_),(32,_),(31,_),(30,_),(8,_),(29,_),(28,_),(27,_),(26,_),(25,_),(24,_),(23,_),(22,_),(21,_),(20,_),(19,_),(6,_),(18,_),(17,_),(16,_),(15,_),(14,_),(13,_),(3,_),(2,_)] (fun g=>g.2.2++[]) (fun g=>[D3,D2,D1,E2,E1,D]) (0,w,ν2) ⟨by simp,by rw[aDT];exact haJ⟩ ⟨Yb,Yb,bDY⟩ cQ Mm5 (aH) ?_
   rintro⟨i,u,ν3⟩ ⟨h3,haI⟩;simp only at h3 haI;refine aA<|Zai rfl<|bT<|Zz rfl (fun V=>?_) (fun V=>?_)
   ·simp only at V;have hY:=U.len;obtain⟨t,hE⟩:∃x,(fF l.token (-1) 0 (b.chairs-1))[i]?= some x:=⟨_,aYU Yd⟩
    refine aT<|aS<|Zar<|aA<|jZ rfl U rfl hE (fun b3 o3=>Zg rfl<|aF<|aU<|Za rfl<|Za rfl<|Za rfl<|Za rfl ?_);refine Zr [qI x,qI c,qI t] rfl WY jJ rfl<|Zp rfl U33 bU jJ rfl (.cons rfl rfl .nil) (fun rA rB hN Y=>?_);have hli:=aPC (n:=b.chairs) (l:=l) (k:=k) (x:=x) (j:=j) (c:=c) (i:=i) Yd;refine bB (A:=[]) (B:=[]) rfl U33 rfl rfl bU jJ rfl Q7 rfl rfl rfl haI (mI.lit Y) Ye rfl (JC _) Yk Yd (aZE rfl) rfl bDY (fun v7 ν7 hO=>?_);have hR:bS 206 3 v7 (XL b.chairs l k x j c (i+1)).length (K6 (XL b.chairs l k x j c (i+1))) ν7:=by rw[aEQ hE];simpa [K6]using hO
    refine Zg rfl<|Zah<|Zat<|Zaq<|aU<|Zaa rfl<|Za rfl<|Zah ?_;exact aK 16 (i+1,v7,ν7) ⟨by simp only;omega,hR⟩ Ym ⟨Yb,Yb,bDY⟩ rfl rfl Mm5 (fun D h=>⟨D,aZJ _ (h),Le.refl D⟩)
   ·have hi:i=(fF l.token (-1) 0 (b.chairs-1)).length:=by simp only at V;omega
    rw[hi,aMI hx2]at haI;refine aW<|Zas<|Zas<|Zav<|Zat<|Zaq<|aU<|Zaa rfl<|Za rfl<|Zah ?_;exact aK 17 (j+1,u,ν3) ⟨by simp only;omega,haI⟩ Ym ⟨Yb,Yb,bDY⟩ rfl rfl Mm5 (fun D h=>⟨D,aZJ _ (h),Le.refl D⟩)
  ·have hj:j=(fF l.chair (-1) 0 (b.chairs-1)).length:=by simp only at hc2;omega
   rw[hj,aLX hx1]at haJ;refine aW<|Zas<|Zas<|Zav<|Zat<|Zaq<|aU<|Zaa rfl<|Za rfl<|Zah ?_;exact aK 17 (k+1,w,ν2) ⟨by simp only;omega,haJ⟩ Ym ⟨Yb,Yb,bDY⟩ rfl rfl Mm5 (fun D h=>⟨D,aZJ _ (h),Le.refl D⟩)
 ·have hk:k=(fF l.kind 0 1 2).length:=by simp only at O;omega
  rw[hk,UZ]at G;refine aW<|Zas<|Zas<|Zav<|Zaq<|aA<|Za rfl<|Zg rfl<|aG<|gC (A:=[]) (B:=[]) G rfl (fun D2 hB hF=>?_);exact aE rfl (fun D hD=>(hF.lins rfl (by have:=QJ (l:=l) hn.2;omega)).up tN.up (hD _ Ye))
end L3
end Go.Fs
