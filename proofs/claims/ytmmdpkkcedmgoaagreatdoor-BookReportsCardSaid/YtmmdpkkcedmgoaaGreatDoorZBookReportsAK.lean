/- Of BookReports. -/
import Derived.Test.YtmmdpkkcedmgoaaGreatDoorZBookReportsAJ
namespace Go.Fs
open Go.Proofs Tryz
namespace L3
open L1
open C3
open L7 (fJ Qc d1 RK BO O7 tW Xi Xe Ut qL)
def kK(t:List bQ):Nat→Nat
 |0=>0
 |k+1=>kK t k+match t[k]? with
  |some x=>if(decide (x.kind=2)&&decide (N6 bQ.chair t x.chair k≠N6 bQ.token t x.token k))=true then 1 else 0
  |none=>0
theorem GM(t:List bQ):∀k,kK t k≤k
 |0=>zk _
 |k+1=>by
  have:=GM t k;rw[kK];split
  ·split<;>omega
  ·omega
theorem aCA{t:List bQ}{k:Nat}{x:bQ}(hx:t[k]?= some x)(h:(decide (x.kind=2)&&decide (N6 bQ.chair t x.chair k≠N6 bQ.token t x.token k))=true):((kK t (k+1):Nat):Int)=((kK t k:Nat):Int)+1:=by
 rw[kK,hx];simp only;rw[zo h];rfl
theorem Xci{t:List bQ}{k:Nat}{x:bQ}(hx:t[k]?= some x)(h:(decide (x.kind=2)&&decide (N6 bQ.chair t x.chair k≠N6 bQ.token t x.token k))=false):kK t (k+1)=kK t k:=by
 rw[kK,hx];simp only;rw[zv u_];rfl
theorem Wah{m i:Nat}(hm:m<256)(h:(0:Int)<((m >>> i:Nat):Int)):i<8:=by
 rcases Nat.lt_or_ge i 8 with hl|hl
 ·exact hl
 ·have h2:2^8≤2^i:=wu Yd hl;rw[Nat.shiftRight_eq_div_pow,Nat.div_eq_of_lt Yd]at h;simp at h
theorem I_{m k:Nat}(hk:k≤8)(h:m >>> k=0):fJ m k=fJ m 8:=by
 have key:∀j,fJ m (k+j)=fJ m k:=by
  intro j;induction j with
  |zero=>rfl
  |succ j ih=>
   have e:m.testBit (k+j)=false:=by
    have:(m >>> k).testBit j=false:=by rw[h];exact qj _
    rwa [nc]at this
   rw[←Nat.add_assoc,d1 e,ih]
 rw[←key (8-k),show k+(8-k)=8 by omega]
def pT(ls:List bQ)(m k:Nat):List bQ:=(List.range k).filterMap λi:Nat=>if m.testBit i=true then ls[i]? else none
def tS(b:aU)(m:Nat):aU:={b with lines:=pT b.lines m b.lines.length,counts:=[]}
theorem ZN(ls:List bQ)(m k:Nat):(pT ls m k).length≤k:=by
 unfold pT;have:=List.length_filterMap_le (λi:Nat=>if m.testBit i=true then ls[i]? else none) (List.range k);rwa [vz]at this
theorem IX{ls:List bQ}{m k:Nat}{x:bQ}(hx:ls[k]?= some x)(h:m.testBit k=true):pT ls m (k+1)=pT ls m k++[x]:=by
 unfold pT;rw[yb,List.filterMap_append];simp only[List.filterMap_cons,List.filterMap_nil,h,yo,hx]
theorem RH{ls:List bQ}{m k:Nat}(h:m.testBit k=false):pT ls m (k+1)=pT ls m k:=by
 unfold pT;rw[yb,List.filterMap_append];simp only[List.filterMap_cons,List.filterMap_nil,h,wt,xx,yr]
theorem aAD{b:aU}{m:Nat}{l:bQ}(h:l∈(tS b m).lines):l∈b.lines:=by
 obtain⟨i,_,hi⟩:=List.mem_filterMap.1 (show l∈pT b.lines m b.lines.length from h);split at hi
 ·exact GE hi
 ·cases hi
theorem aEZ{n N k:Nat}{ls:List bQ}(hN:kR n ls=(N:Int))(hk:k<N)(h:pP (tT n ls k) (tT n ls k).length=true):dB n ls≠[]:=λe=>by
 unfold dB nP at e;rw[hN,xr]at e;have:=(xf (p:=λt=>pP t t.length)).2 ⟨n5.2 ⟨k,yj.2 hk,C⟩,h⟩;rw[e]at this;cases this
def kD(n:Nat)(b:aU):Nat→List Int×Bool
 |0=>([],false)
 |m+1=>if((!(kD n b m).2||qL (fJ m 8) (kD n b m).1)&&decide (dB n (tS b (nE (2^b.lines.length-1) m)).lines≠[]))=true then(fJ m 8,true)else kD n b m
section
variable{n m:Nat}{b:aU}
theorem JS(h:((!(kD n b m).2||qL (fJ m 8) (kD n b m).1)&&decide (dB n (tS b (nE (2^b.lines.length-1) m)).lines≠[]))=true):kD n b (m+1)=(fJ m 8,true):=by rw[kD,zo h]
theorem SA(h:((!(kD n b m).2||qL (fJ m 8) (kD n b m).1)&&decide (dB n (tS b (nE (2^b.lines.length-1) m)).lines≠[]))=false):kD n b (m+1)=kD n b m:=by rw[kD,zv u_]
end
theorem Hz(tv:Γ)(t:List bQ)(D:aC)(ht:Sl D jQ 3 tv t)(h8:t.length≤1000):Fn prog 128 #[tv] D (λ_ v=>v=qI ((kK t t.length:Nat):Int)):=by
 refine Zx 35 func128 C λh0=>aA<|Zf C<|aJ<|Zf C<|bD<|Zf C<|aE<|Za4<|Zo Nat (λk=>t.length-k) (λk=>k≤t.length) (λk=>[(4,qI (k:Int)),(3,qI ((kK t k:Nat):Int))]) [(2,_),(0,_)] (λk=>[D]) 0 ⟨Ya,Ya,zy⟩ ?_;rintro k h1;refine bL<|Za C<|Za C<|Zaj C U43 C ht C<|Zal C<|aE<|Zae C (λhc1=>?_) λhc1=>?_
 ·have hk:k<t.length:=Yd
  obtain⟨x,hx⟩:=cF t k;have hmk:=GM t k;refine aP<|Za6<|Za4<|aA<|Za C<|Za C<|Zy C U43 dR C ht C hx λb1 o1 I O Z R=>?_;obtain rfl:I=[qI _,qI _,qI _]:=O;refine Zv C W9 C R dR<|Zag C lL C λq1=>Zaa C dR ζ<|bX<|fS [] 4 [0,1,2,3,4,5,6,7,9,10,11,12,8,13,14,15] [false,false,false,false,false,true,true,true,true,true,true,true,true,false,false,false] [(false,0),(false,1),(false,2),(false,3),(false,4),(true,5),(true,6),(true,7),(true,9),(true,10),(true,11),(true,12),(true,8),(false,13),(false,14),(false,15)] aV (λ_ _ _ h=>eA (P:=prog) (fn:=f128) _ _ _ h) Yg C<|Zj C rG C<|Zq C aH C zu C<|ud ?_;refine' bU 12 (s:=19) (p:=31) C (λU=>?_) (λU=>?_) ?_;rotate_left
  ·refine Zb C<|Zb C<|Zk C wC C<|Zr C aH C zu C<|Zb C<|Zb C<|Zk C rE C<|Zr C aH C zu C<|Ze C (λD1 V=>Tn _ t k _ _ (ht.up jQ.up (V _ Yf)) Yd h8)<|Ze C (λD2 Y=>Uk _ t k _ _ (ht.up jQ.up (Y _ Yf)) Yd h8)<|KD C C C C ⟨_,C,C⟩<|Zam C ?_;exact aQ 11
  ·refine Zg C<|ji ?_;exact aQ 11
  refine aE<|Zai C (λhc2=>?_) λhc2=>?_
  ·refine og ?_;exact Zl 22 (k+1) ⟨Ya,(by rw[aCA hx hc2];rfl),zy⟩ C (List.Sublist.cons _ zp)
  ·refine xz ?_;exact Zl 19 (k+1) ⟨Ya,(by rw[Xci hx hc2];rfl),zy⟩ C (List.Sublist.cons _ zp)
 ·obtain rfl:k=t.length:=Yd
  refine Wj ?_;exact aD C λD hD=>C
theorem bKO(sv:Γ)(ts:List (List bQ))(D:aC)(hS:Sl D aYU 1 sv ts)(h8:∀t∈ts,t.length≤1000):Fn prog 60 #[sv] D (λ_ v=>v=.agg #[qI ((ts.map λt=>((kK t t.length:Nat):Int)).foldl min (1099511627776)),qI ((ts.map λt=>((kK t t.length:Nat):Int)).foldl max (-1099511627776))]):=by
 have hSl:=hS.len;refine Zx 20 func60 C λh0=>aA<|Zag C zB C λY=>aJ<|Zd C (λD1 Z=>Y3 _)<|Zag C zB C λq2=>Zaa C kJ ζ<|bD<|Zf C<|aE<|Za4<|fE (γ:=Nat) (λk=>ts.length-k) (λk=>k≤ts.length) (λk=>[(4,qI (k:Int))]) [(3,_),(2,_),(0,_)] (λk=>[(q2,qC [qI (((ts.take k).map λt=>((kK t t.length:Nat):Int)).foldl min (1099511627776)),qI (((ts.take k).map λt=>((kK t t.length:Nat):Int)).foldl max (-1099511627776))] 61),(Y,qC [qI 0,qI 0] 61)]) (λk=>[D]) 0 Yd ⟨Ya,zy⟩ cE zp (aN) ?_;rintro k hB;refine bL<|Za C<|Za C<|Zaj C U59 C hS C<|Zal C<|aE<|Zae C (λhc1=>?_) λhc1=>?_
 ·have hk:k<ts.length:=Yd
  obtain⟨t,hy⟩:=cF ts k;have htm:=GE hy;refine aP<|Za6<|Za4<|bK [] 4 8 62<|Zah C R9 C zu kJ<|Za C<|Za C<|Zy C U59 wJ C hS C hy λb1 o1 hE I V O=>?_;obtain⟨w1,rfl,R⟩:=I;refine Zh 0 C kG C O C<|Zd C (λD2 U=>Hz _ t _ (R.up jQ.up (U _ Yf)) (h8 t htm))<|Zd C (λD3 hF=>X3 _ _ _ _)<|Zaa C kJ ζ<|Zap<|Wa ?_;rw[show((kK t t.length:Nat):Int)=((λt=>((kK t t.length:Nat):Int))) t from C,←nX hy,←oB hy];exact Zl 15 (k+1) ⟨Ya,zy⟩ C zp
 ·obtain rfl:k=ts.length:=Yd
  rw[ym];refine Za9<|Za5<|Za5<|Zba<|Za2<|aA<|Zah C R9 C zu kJ<|Zaa C kJ (.tail ζ)<|aG ?_;exact Zp [_] C ⟨⟨_,_,_,C,zi,Or.inr ⟨R9,io,C⟩⟩,zy⟩ λD hD=>C
theorem Ec(m:Nat)(hm:m<256)(D:aC):Fn prog 124 #[qI (m:Int)] D (λD' v=>Sl D' RI 1 v (fJ m 8)):=by
 refine Zx 23 func124 C λh0=>aA<|Zf C<|aJ<|Zf C<|bD<|Zf C<|aE<|Za4<|Zc (Nat×Γ×aF) (λg=>8-g.1) (λg=>g.1≤8∧bM 3 1 g.2.1 (fJ m g.1).length (ints (fJ m g.1)) g.2.2) (λg=>[(4,qI (g.1:Int)),(3,g.2.1)]) [(2,_),(0,_)] (λg=>g.2.2++[]) (λg=>[D]) (0,qN,[]) ⟨Yf,bM.nil⟩ ⟨Ya,Ya,zy⟩ zp ?_;rintro⟨k,v,ν⟩ ⟨h1,ha⟩;simp only at h1 ha;have hsr:m >>> k≤m:=Nat.shiftRight_le _ _;refine bL<|Za C<|Za C<|mJ C U3 U336 C Ye C zy<|yS C C C Yd C zy<|Zat C<|aE<|Zae C (λhc1=>?_) λhc1=>?_
 ·have hk:k<8:=Wah hm hc1;refine aP<|Za6<|Za4<|aA<|Za C<|Za C<|mJ C U3 U336 C Ye C zy<|yS C C C Yd C zy<|uR C C C (re _) Yd Ye C zy<|Zas C<|aE<|Zae C (λhc2=>?_) (λhc2=>?_)
  ·have hbit:m.testBit k=true:=BO hc2;refine aM<|Za C<|Za C<|Zu C U35 aI cN C (.cons C C .nil) λV D901 O I=>?_;have R:=Sl.ofInts (l:=[_]) (n:=1) (cap:=1) I C Yd Yd;refine aT (A:=[]) (B:=_) C U35 C C aI cN C jV C C C ha (kX.lit I) Yf C Yf Ym (by have:=RK m k;omega) (zq C) C zy (λY ν1 ha1=>?_)
   have U:bM 3 1 Y (fJ m (k+1)).length (ints (fJ m (k+1))) ν1:=by rw[Qc hbit,zf,←eL];exact ha1
   refine Wp ?_;exact aK 21 (k+1,Y,ν1) ⟨Yl,U⟩ Yl ⟨Ya,Ya,zy⟩ C C zp λD h=>⟨D,zb _ (h),Le.refl D⟩
  ·have hbit:m.testBit k=false:=O7 hc2;refine xz ?_;exact aK 16 (k+1,v,ν) ⟨Yl,by simp only;rw[d1 hbit];exact ha⟩ Yl ⟨Ya,Ya,zy⟩ C C zp (aN)
 ·have hend:fJ m k=fJ m 8:=I_ h1 (by simp only at hc1;generalize m >>> k=s at hc1 ⊢;omega);rw[hend]at ha;refine Za9<|Za5<|Za5<|Zba<|Za2<|aA<|Za C<|Zf C<|aG<|dE (A:=[]) (B:=[]) ha C λD2 Z hF=>?_;exact aD C λD' hD=>(hF.ints C (by have:=RK m 8;omega)).up RI.up (hD _ Yf)
theorem Kz(av bv:Γ)(a b:List Int)(D:aC)(ha:Sl D RI 1 av a)(hb:Sl D RI 1 bv b):Fn prog 196 #[av,bv] D (λ_ v=>v=.bool (tW a b)):=by
 have hal:=ha.len;have hbl:=hb.len;refine Zx 41 func196 C λh0=>aA<|Zf C<|bD<|Zf C<|aE<|Za4<|cW (γ:=Nat) (λk=>a.length-k) (λk=>k≤a.length∧k≤b.length∧tW a b=tW (a.drop k) (b.drop k)) (λk=>[(5,qI (k:Int))]) [(4,_),(0,_),(1,_)] (λk=>[D]) 0 ⟨Yd,Yd,C⟩ ⟨Ya,zy⟩ cE (aN) ?_;rintro k ⟨h1,h2,h3⟩;refine bL<|Za C<|Za C<|Zaj C U35 C ha C<|sh ?_;refine' bU 5 (s:=10) (p:=15) C (λI=>?_) (λI=>?_) ?_;rotate_left
 ·refine Zb C<|Zb C<|eQ C U35 C hb C C ⟨_,C,C⟩<|IU C C C C ⟨_,C,C⟩<|Zam C ?_;exact aQ 4
 ·refine vw ?_;exact aQ 4
 refine aE<|Zai C (λhc1=>?_) λhc1=>?_
 ·have hk:k<a.length∧k<b.length:=by simp only[zl,LE]at hc1;omega
  obtain⟨x,hx⟩:∃x,a[k]?= some x:=⟨_,yz hk.1⟩
  obtain⟨z,hz⟩:∃z,b[k]?= some z:=⟨_,yz hk.2⟩
  refine aP<|Za6<|Za4<|Za6<|bK [] 3 9 242<|Za C<|Za C<|gH C ha C hx λO R=>Za C<|Za C<|gH C hb C hz λb2 U=>Za0 C ?_;refine aE<|Zae C (λhc2=>?_) λhc2=>?_
  ·refine Za6<|bK [] 3 10 242<|Za C<|Za C<|gH C ha C hx λV Y=>Za C<|Za C<|gH C hb C hz λZ o4=>Zal C<|Zf C<|aG<|Za8 ?_;refine Za3<|Za3<|Za8<|Za3 ?_;exact aD C λD hD=>by show Value.bool _=_;rw[h3,Xe hx hz hc2]
  ·refine xz ?_;exact aK 19 (k+1) ⟨Yd,Yd,by rw[h3,Xi hx hz Yd]⟩ Yd ⟨Ya,zy⟩ C C zp (aN)
 ·refine Za9<|Za5<|Za5<|Zba<|Za2<|aA<|Za C<|Zaj C U35 C ha C<|Za C<|Zaj C U35 C hb C<|Zal C<|Zf C ?_;refine aG ?_;exact aD C λD hD=>by show Value.bool _=_;rw[h3,Ut (by simp only[pf,yt]at hc1;omega) h1 h2]
theorem ZJ(av bv:Γ)(a b:List Int)(D:aC)(ha:Sl D RI 1 av a)(hb:Sl D RI 1 bv b):Fn prog 125 #[av,bv] D (λ_ v=>v=.bool (qL a b)):=by
 have hal:=ha.len;have hbl:=hb.len;refine Zx 22 func125 C λh0=>aA<|Zf C<|aJ<|Za C<|Zaj C U35 C ha C<|Za C<|Zaj C U35 C hb C<|sh ?_;refine' dU 11 (s:=10) (p:=21) C (λO=>?_) (λO=>?_) ?_;rotate_left
 ·refine Zb C<|eQ C U35 C ha C C ⟨_,C,C⟩<|Zb C<|eQ C U35 C hb C C ⟨_,C,C⟩<|sQ C C C C ⟨_,C,C⟩<|Zb C ?_;refine' bU 4 (s:=16) (p:=20) C (λR=>?_) (λR=>?_) ?_;rotate_left
  ·refine Zb C<|Zb C<|Ze C (λU I=>Kz _ _ a b _ (ha.up RI.up (I _ Yf)) (hb.up RI.up (I _ Yf)))<|oR C C C C ⟨_,C,C⟩ ?_;exact aQ 3
  ·refine Zg C<|jn ?_;exact aQ 3
  refine Zan C ?_;exact aQ 7
 ·refine Zg C<|Zg C<|oh ?_;exact aQ 10
 refine Wd ?_;exact aD C λD hD=>C
theorem Xs(bv:Γ)(b:aU)(D:aC)(hb:eT D bv b)(h8:b.lines.length≤8):Fn prog 123 #[bv] D (λ_ v=>v=qI ((2^b.lines.length-1:Nat):Int)):=by
 obtain⟨lv,cv,rfl,hl,hc⟩:=hb;have O:2^b.lines.length≤2^8:=wu Yd h8;have R:1≤2^b.lines.length:=Nat.one_le_two_pow;refine Zx 9 func123 C λh0=>aA<|Zac C λV E1 U I=>Zf C<|aJ<|Zj C eK C<|Zh 3 C kG C I C<|Zaj C U43 C hl C<|mJ C U3 U336 C Ye C zy<|p7 (n:=b.lines.length) C C C Yd C zy<|Zax C<|Zf C ?_;refine aG ?_;exact aD C λD hD=>by show Value.int _ _=_;congr 1;omega
theorem Ap(bv:Γ)(b:aU)(m:Nat)(D:aC)(hb:eT D bv b)(R:b.counts=[])(h8:b.lines.length≤8)(_hm:m<256):Fn prog 127 #[bv,qI (m:Int)] D (λD' v=>eT D' v (tS b m)):=by
 obtain⟨lv,cv,rfl,hl,hc⟩:=hb;have hll:=hl.len;have hI:b.counts.length=0:=by rw[R];rfl
 refine Zx 64 func127 C λh0=>aA<|Zac C λq1 E1 hJ I=>Zag C eg C λq2=>aJ<|Zv C mE C I jX<|Zag C eg C λq3=>Zab C jX ζ (G4 hl.cell1 hc.cell1)<|aJ<|Zj C eK C<|Zs C wJ ζ C<|Zj C HQ C ?_;refine Zs C Qf ζ C<|bD<|Zf C<|aE<|Za4<|Zc (Nat×Γ×aF) (λg=>b.lines.length-g.1) (λg=>g.1≤b.lines.length∧bM 184 3 g.2.1 (pT b.lines m g.1).length (uC (pT b.lines m g.1)) g.2.2) (λg=>[(6,qI (g.1:Int))]) [(5,_),(4,_),(2,_),(1,_)] (λg=>g.2.2++[(q3,qC [qI b.chairs,qI b.coin,qI b.box,g.2.1,qN] 46),(q2,qC [qI 0,qI 0,qI 0,qN,qN] 46)]) (λg=>[E1,D]) (0,qN,[]) ⟨Yf,bM.nil⟩ ⟨Ya,zy⟩ zp ?_;rintro⟨k,v,ν⟩ ⟨h1,ha⟩;simp only at h1 ha;have hsr:m >>> k≤m:=Nat.shiftRight_le _ _;have hsl:=ZN b.lines m k;refine bL<|Za C<|Zj C eK C<|Zh 3 C kG C I C<|Zaj C U43 C hl C<|Zal C<|aE<|Zae C (λhc1=>?_) λhc1=>?_
 ·have hk:k<b.lines.length:=by simp only at hc1;omega
  obtain⟨x,hx⟩:=cF b.lines k;refine aP<|Za6<|Za4<|aA<|Za C<|Za C<|mJ C U3 U336 C Ye C zy<|yS C C C Yd C zy<|uR C C C (re _) Yd Ye C zy<|Zas C<|aE<|Zae C (λhc2=>?_) λhc2=>?_
  ·have hbit:m.testBit k=true:=BO hc2;refine bK [] 5 11 252<|Zj C eK C<|Zq C kG C (LT _ zu) C<|Zj C eK C<|Zh 3 C kG C I C<|Za C<|Zy C U43 dR C hl C hx λb1 o1 U V hF Y=>?_;obtain rfl:U=[qI _,qI _,qI _]:=V;refine Zv C W9 C Y dR<|Zu C U43 dR lL C (.cons C C .nil) (λhH D901 Z O=>aT (A:=[]) (B:=[(_,_),(_,_)]) C U43 C C dR lL C V8 C C C ha (kX.lit O) Yf C (S3 _) Ym Yd (by first|exact Or.inl rfl|exact Or.inr λq hq=>n5.2 ⟨q,hq,C⟩) C zy λv1 ν1 ha1=>?_);have hB:bM 184 3 v1 (pT b.lines m (k+1)).length (uC (pT b.lines m (k+1))) ν1:=by rw[IX hx hbit,zf,PM];exact ha1
   refine Zj C eK C<|bB (ν1++(q3,_)::[(q2,_)]) C<|dD C C C ha1.cells1 wJ (.app .head) Yf C ha1.cell1 zy<|Zap<|Wa ?_;exact aK 25 (k+1,v1,ν1) ⟨Yl,hB⟩ Yl ⟨Ya,zy⟩ C C zp λD h=>⟨D,zb _ (h),Le.refl D⟩
  ·have hbit:m.testBit k=false:=O7 hc2;refine xz ?_;exact aK 15 (k+1,v,ν) ⟨Yl,by simp only;rw[RH hbit];exact ha⟩ Yl ⟨Ya,zy⟩ C C zp (aN)
 ·obtain rfl:k=b.lines.length:=by simp only at hc1;omega
  refine Za9<|Za5<|Za5<|Zba<|Za2<|bL<|Zf C<|aE<|Za4<|cW (γ:=Unit) (λg=>0) (λg=>True) (λg=>[(7,qI 0)]) [(5,_),(4,_),(2,_),(1,_)] (λg=>[E1,D]) () zy ⟨Ya,zy⟩ cE (aN) ?_;rintro⟨⟩ _h;refine bL<|Za C<|Zj C HQ C<|Zh 4 C Ql C I C<|Zaj C U44 C hc C<|Zal C<|aE<|Zae C (λhc3=>?_) λhc3=>?_
  ·omega
  ·refine Za9<|Za5<|Za5<|Zba<|Za2<|aA<|Zah C mE C (LT _ zu) jX<|Zab C jX (.app (.tail ζ)) (G4 ha.cell1 Ym)<|aG<|dE (A:=[]) (B:=[(_,_),(_,_)]) ha C λD9 hK hE=>?_;exact Zp [_] C ⟨⟨_,_,_,C,zb _ zu,zt ⟨mE,jX,C⟩⟩,zy⟩ λD hD=>⟨v,_,C,(hE.lins C Yd).up jQ.up (hD _ Yf),Sl.nil⟩
theorem aCY(bv:Γ)(b:aU)(n:Nat)(D:aC)(hb:eT D bv b)(hn:b.chairs=(n:Int))(h4:n≤4)(U:b.counts=[])(h1:∀l∈b.lines,1≤LW n l)(h8:b.lines.length≤100):Fn prog 126 #[bv] D (λ_ v=>v=.bool (decide (dB n b.lines≠[]))):=by
 have I:=hb;obtain⟨lv,cv,rfl,hl,hc⟩:=hb;have hll:=hl.len;have hmr:=JJ n b.lines;obtain⟨N,hN⟩:∃N:Nat,kR n b.lines=(N:Int):=⟨(kR n b.lines).toNat,Yd⟩
 refine Zx 21 func126 C λh0=>aA<|Zac C λq1 E1 hF O=>Zf C<|bD<|Zf C<|aE<|Za4<|cW (γ:=Nat) (λk=>N-k) (λk=>k≤N∧nP n b.lines k=[]) (λk=>[(3,qI (k:Int))]) [(2,_),(1,_)] (λk=>[E1,D]) 0 ⟨Yd,C⟩ ⟨Ya,zy⟩ cE (aN) ?_;rintro k ⟨h1x,h2⟩;refine bL<|Za C<|Zv C mE C O jX<|Zd C (λD1 V=>wY _ b n _ (I.up (V _ Yf)) hn h4)<|Zal C<|aE<|Zae C (λhc1=>?_) λhc1=>?_
 ·have hk:k<N:=Yd
  refine aP<|Za6<|Za4<|aA<|Zv C mE C O jX<|Za C<|Zz C (λD2 R=>GK _ b n k _ (I.up (R _ Yf)) hn h4 Yd h1 h8) λv2 D2 R Y=>?_;have hw:=Y;have hwl:=HM n b.lines k;refine Zf C<|aJ<|Za C<|Zd C (λD3 Z=>PN _ (tT n b.lines k) _ (hw.up jQ.up (Z _ Yf)) Yd)<|Za C ?_;refine' bU 4 (s:=16) (p:=20) C (λhB=>?_) (λhB=>?_) ?_;rotate_left
  ·refine cQ C mE C O Yc jX n4 C ⟨_,C,C⟩<|Zb C<|Ze C (λD4 hE=>EP _ _ b _ (I.up (hE _ Yf)) U)<|Zam C ?_;exact aQ 3
  ·refine Wb ?_;exact aQ 3
  refine aE<|Zai C (λhc2=>?_) λhc2=>?_
  ·refine aA<|Wg ?_;exact aD C λD hD=>by show Value.bool _=_;rw[oo (aEZ hN hk wm)]
  ·refine xz ?_;exact aK 16 (k+1) ⟨Yd,by rw[HL wm];exact h2⟩ Yd ⟨Ya,zy⟩ C C zp λD h=>⟨D,zb _ (h),Le.refl D⟩
 ·obtain rfl:k=N:=Yd
  refine Wk ?_;exact aD C λD hD=>by show Value.bool _=_;unfold dB;rw[hN,xr,h2];rfl
theorem aRE(bv:Γ)(b:aU)(n:Nat)(D:aC)(hb:eT D bv b)(hn:b.chairs=(n:Int))(h4:n≤4)(Y:b.counts=[])(h1:∀l∈b.lines,1≤LW n l)(h8:b.lines.length≤8):Fn prog 59 #[bv] D (λD' v=>∃lv,v=.tuple #[lv,.bool (kD n b (2^b.lines.length)).2]∧Sl D' RI 1 lv (kD n b (2^b.lines.length)).1):=by
 have I:=hb;obtain⟨lv,cv,rfl,hl,hc⟩:=hb;have hll:=hl.len;have hN:2^b.lines.length≤2^8:=wu Yd h8;have hO:1≤2^b.lines.length:=Nat.one_le_two_pow;have Z:∀m,∀l∈(tS b m).lines,1≤LW n l:=λm l hl=>h1 l (aAD hl)
 have hsl:∀m,(tS b m).lines.length≤100:=λm=>by have:=ZN b.lines m b.lines.length;show(pT _ _ _).length≤_;omega
 refine Zx 35 func59 C λh0=>aA<|Zac C λq1 E1 hP O=>Zf C<|Zf C<|aJ<|Zf C<|aJ<|Zf C<|bD<|Zf C<|aE ?_;refine Za4<|cW (γ:=Nat×Γ×aC) (λg=>2^b.lines.length-g.1) (λg=>g.1≤2^b.lines.length∧Sl g.2.2 RI 1 g.2.1 (kD n b g.1).1) (λg=>[(4,g.2.1),(5,.bool (kD n b g.1).2),(6,qI (g.1:Int))]) [(3,_),(2,_),(1,_)] (λg=>[g.2.2,E1,D]) (0,qN,D) ⟨Yf,Sl.nil⟩ ⟨Ya,Ya,Ya,zy⟩ cE (ew) ?_;rintro⟨m,v,Dn⟩ ⟨h1x,hs⟩;simp only at h1x hs;refine bL<|Za C<|Zv C mE C O jX<|Zd C (λD1 hB=>Xs _ b _ (I.up (hB _ Yf)) h8)<|iB C C C C zy<|aE<|Zae C (λhc1=>?_) λhc1=>?_
 ·have hbl:m<2^b.lines.length:=by simp only at hc1;omega
  refine aP<|Za6<|Za4<|aA<|Za C<|Zz C (λD2 hE=>Ec m Yd _) λv2 D2 hE hF=>?_;have R:=hF;refine Zf C<|bX<|fS [] 5 [0,1,2,3,4,5,6,7,8,9,11,10,12,13,14,15] [false,false,false,false,true,false,false,false,false,true,true,true,true,false,false,false] [(false,0),(false,1),(false,2),(false,3),(true,4),(false,5),(false,6),(false,7),(false,8),(true,9),(true,11),(true,10),(true,12),(false,13),(false,14),(false,15)] aV (λ_ _ _ h=>eA (P:=prog) (fn:=f59) _ _ _ h) Yg C<|Za C<|si ?_;refine' dU 4 (s:=18) (p:=22) C (λhH=>?_) (λhH=>?_) ?_;rotate_left
  ·refine Zb C<|Zb C<|Ze C (λD3 U=>ZJ _ _ (fJ m 8) (kD n b m).1 _ (R.up RI.up (U _ Yf)) (hs.up RI.up (U _ Yf)))<|Zan C ?_;exact aQ 3
  ·refine mx ?_;exact aQ 3
  refine Za C ?_;refine' bU 8 (s:=23) (p:=31) C (λhI=>?_) (λhI=>?_) ?_;rotate_left
  ·refine cQ C mE C O Yc jX n4 C ⟨_,C,C⟩<|cQ C mE C O Yc jX n4 C ⟨_,C,C⟩<|Zb C<|Ze C (λD4 hJ=>Xs _ b _ (I.up (hJ _ Yf)) h8)<|dq C C C Yd Yd C ⟨_,C,C⟩<|e3 C C C (λD5 V=>Ap _ b (nE (2^b.lines.length-1) m) _ (I.up (V _ Yf)) Y h8 (by have:=H2 (2^b.lines.length-1) m;omega)) C ⟨_,C,C⟩ λv5 D5 V hp5=>?_;have hsb:=hp5;refine Ze C (λD6 hK=>aCY _ (tS b (nE (2^b.lines.length-1) m)) n _ (hsb.up (hK _ Yf)) hn h4 C (Z _) (hsl _))<|Zam C ?_;exact x7 λa w hh=>(hh.cutK 7 C).ds λ_ h=>zb _ (h)
  ·refine Zg C<|Wo ?_;exact aQ 7
  refine aE<|Zai C (λhc2=>?_) λhc2=>?_
  ·refine aM<|Za C<|Zf C<|Wp ?_;exact aK 22 (m+1,v2,D2) ⟨Yl,by simp only;rw[JS hc2];exact R⟩ Yl ⟨C,(by rw[JS hc2];rfl),Ya,zy⟩ C C zp ((λD0 h=>by simp only[zm,n4,yk]at h;rcases h with h|h|h;exact⟨D2,Yf,h▸Le.refl _⟩;exact⟨E1,Yf,h▸Le.refl _⟩;exact⟨D,Yf,h▸Le.refl _⟩))
  ·refine xz ?_;exact aK 19 (m+1,v,Dn) ⟨Yl,by simp only;rw[SA hc2];exact hs⟩ Yl ⟨C,(by rw[SA hc2];rfl),Ya,zy⟩ C C zp (Yp)
 ·obtain rfl:m=2^b.lines.length:=by simp only at hc1;omega
  refine Za9<|Za5<|Za5<|Zba<|Za2<|aA<|Za C<|Za C<|tg ?_;exact Zp [_,_] C cE λD hD=>⟨_,C,hs.up RI.up (hD _ Yf)⟩
end L3
namespace L2
open L1
open C2
open C1 (gF bH qH kU tZ x3)
def l5(l:List Int)(n:Int)(k:Nat):Option Int:=if cX (l.take k) n<k then some (cX (l.take k) n)else none
section
variable{l:List Int}{n x:Int}{k:Nat}
theorem CV(y:Int)(l:List Int):cX (y::l) n=if y≤n then cX l n+1 else 0:=by
 unfold cX;rw[List.takeWhile_cons];by_cases h:y≤n<;>simp[h]
theorem zZ:∀(l:List Int),cX (l++[x]) n=if cX l n<l.length then cX l n else if x≤n then(l.length:Int)+1 else l.length
 | []=>by rw[ya,CV];simp[cX]
 |y::l=>by
  have ih:=zZ l;rw[we,CV,CV,ih];simp only[zh,Int.natCast_add,Int.natCast_one];split
  ·split<;>split<;>(try split)<;>omega
  ·rw[zo Yd]
theorem RG(l:List Int)(n:Int):0≤cX l n∧cX l n≤l.length:=by
 unfold cX;have:=(List.takeWhile_sublist (l:=l) λm=>decide (m≤n)).length_le;omega
theorem W6(h:l[k]?= some x):l.take (k+1)=l.take k++[x]:=by rw[zg,h];rfl
theorem x4(h:l[k]?= some x):(l.take k).length=k:=by rw[wq];have:=(yx.1 h).1;omega
theorem Eb(h:l[k]?= some x)(hx:n<x):l5 l n (k+1)=(l5 l n k).or (some (k:Int)):=by
 by_cases h2:cX (l.take k) n<k
 ·have e:cX (l.take (k+1)) n=cX (l.take k) n:=by rw[W6 h,zZ,x4 h,zo h2]
  unfold l5;rw[e,zo h2,zo Yd];rfl
 ·have e:cX (l.take (k+1)) n=k:=by rw[W6 h,zZ,x4 h,zv h2,zv Yd]
  unfold l5;rw[e,zv h2,zo Yd];rfl
theorem aBS(h:l[k]?= some x)(hx:¬n<x):l5 l n (k+1)=l5 l n k:=by
 by_cases h2:cX (l.take k) n<k
 ·have e:cX (l.take (k+1)) n=cX (l.take k) n:=by rw[W6 h,zZ,x4 h,zo h2]
  unfold l5;rw[e,zo h2,zo Yd]
 ·have e:cX (l.take (k+1)) n=k+1:=by rw[W6 h,zZ,x4 h,zv h2,zo Yd]
  unfold l5;rw[e,zv h2,zv Yd]
theorem Aw(h:l5 l n l.length=none):cX l n=l.length:=by
 unfold l5 at h;rw[ym]at h;split at h
 ·cases h
 ·have:=RG l n;omega
theorem Ee(h:l5 l n l.length=some x):cX l n=x:=by
 unfold l5 at h;rw[ym]at h;split at h
 ·exact yi h
 ·cases h
end
section
variable{ts:List (List Int)}{a b:Int}{n:Int}
theorem Xcz(hne:ts≠[])(I:∀t∈ts,0≤cO t a b∧cO t a b≤99):0≤kU (ts.map λt=>cO t a b)∧kU (ts.map λt=>cO t a b)≤99:=by
 obtain⟨t,ht,e⟩:=n5.1 (tZ (l:=ts.map λt=>cO t a b) nz);rw[←e];exact I t ht
theorem Yan(hne:ts≠[])(h:(ts.all λt=>decide (cO t a b≤n))=true):kU (ts.map λt=>cO t a b)≤n:=by
 obtain⟨t,ht,e⟩:=n5.1 (tZ (l:=ts.map λt=>cO t a b) nz);rw[←e];rw[yu]at h;exact yn (h t ht)
theorem Xch(_hne:ts≠[])(h:(ts.all λt=>decide (cO t a b≤n))=false):n<kU (ts.map λt=>cO t a b):=by
 obtain⟨t,ht,e⟩:=ql.1 h;have h1:=x3 (n5.2 ⟨t,ht,C⟩:cO t a b∈ts.map λt=>cO t a b);rw[LE]at e;omega
end
theorem X3(lo hi n:Int)(D:aC):Fn prog 120 #[.agg #[qI lo,qI hi],qI n] D (λ_ v=>v=.agg #[qI (min lo n),qI (max hi n)]):=by
 refine Zx 14 func120 C λh0=>aA<|Zac C λR E1 O I=>Zag C lC C λU=>aJ<|Zj C wE C<|Zh 0 C aH C I C<|Za C<|zL C C C C zy<|Zj C C5 C<|Zh 1 C aH C I C<|Za C ?_;refine mL C C C C zy<|Zw [qI (min lo n),qI (max hi n)] C yK lC C<|Zaa C fD ζ<|aG ?_;exact Zp [_] C ⟨⟨_,_,_,C,zu,Or.inr ⟨vJ,ey,C⟩⟩,zy⟩ λD hD=>C
theorem Y3(D:aC):Fn prog 119 #[] D (λ_ v=>v=.agg #[qI 1099511627776,qI (-1)]):=by
 refine Zx 2 func119 C λh0=>aA<|Zag C lC C λI=>aJ<|Zw [qI 1099511627776,qI (-1)] C yK lC C<|Zaa C fD ζ<|aG ?_;exact Zp [_] C ⟨⟨_,_,_,C,zu,Or.inr ⟨vJ,ey,C⟩⟩,zy⟩ λD hD=>C
theorem aAN(lv:Γ)(l:List Int)(n:Int)(D:aC)(hl:Sl D RI 1 lv l)(h8:l.length≤1000):Fn prog 194 #[lv,qI n] D (λD' v=>∃ws,Sl D' RI 1 v ws∧ws.head?= l5 l n l.length):=by
 refine Zx 24 func194 C (λh0=>aA<|Zf C<|aJ<|Zf C<|bD<|Zf C<|aE<|Za4<|Zc (Nat×List Int×Γ×aF) (λg=>l.length-g.1) (λg=>g.1≤l.length∧g.2.1.length≤g.1∧g.2.1.head?= l5 l n g.1∧bM 3 1 g.2.2.1 g.2.1.length (ints g.2.1) g.2.2.2) (λg=>[(6,qI (g.1:Int)),(5,g.2.2.1)]) [(4,_),(0,_),(1,_)] (λg=>g.2.2.2++[]) (λg=>[D]) (0,[],qN,[]) ⟨Yf,Yf,by simp[l5,C2.cX],qz⟩ ⟨Ya,Ya,zy⟩ zp ?_);rintro⟨k,ws,v,ν⟩ ⟨h1,h2,h3,ha⟩;simp only at h1 h2 h3 ha;refine bL<|Za C<|Za C<|Zaj C U35 C hl C<|Zal C<|aE<|Zae C (λhc1=>?_) λhc1=>?_
 ·have hk:k<l.length:=by simp only at hc1;omega
  obtain⟨x,hx⟩:=cF l k;refine aP<|Za6<|Za4<|aA<|Za C<|Za C<|gH C hl C hx λb1 o1=>Za C<|Zat C<|aE<|Zae C (λhc2=>?_) λhc2=>?_
  ·refine aM<|Za C<|Za C<|Zu C U35 aI cN C (.cons C C .nil) λV D901 O I=>?_;have R:=Sl.ofInts (l:=[_]) (n:=1) (cap:=1) I C Yd Yd;refine aT (A:=[]) (B:=_) C U35 C C aI cN C jV C C C ha (kX.lit I) Yf C Yf Ym Yd (zq C) C zy λY ν1 ha1=>?_;have U:bM 3 1 Y (ws++[(k:Int)]).length (ints (ws++[(k:Int)])) ν1:=by rw[←eL,zf];exact ha1
   refine Wp ?_;exact aK 20 (k+1,ws++[(k:Int)],Y,ν1) ⟨Yl,by simp only[zf,ve];omega,by simp only;rw[Eb hx Yd,←h3,List.head?_append];rfl,U⟩ Yl ⟨Ya,Ya,zy⟩ C C zp λD h=>⟨D,zb _ (h),Le.refl D⟩
  ·refine xz ?_;exact aK 15 (k+1,ws,v,ν) ⟨Yl,Yl,by simp only;rw[aBS hx Yd,←h3],ha⟩ Yl ⟨Ya,Ya,zy⟩ C C zp (aN)
 ·obtain rfl:k=l.length:=by simp only at hc1;omega
  refine Za9<|Za5<|Za5<|Zba<|Za2<|aA<|Za C<|Zf C<|aG<|dE (A:=[]) (B:=[]) ha C λD2 Z hF=>?_;exact aD C λD' hD=>⟨ws,(hF.ints C Yd).up RI.up (hD _ Yf),h3⟩
theorem Ah(lv:Γ)(l:List Int)(n:Int)(D:aC)(hl:Sl D RI 1 lv l)(h8:l.length≤1000):Fn prog 121 #[lv,qI n] D (λ_ v=>v=qI (C2.cX l n)):=by
 refine Zx 17 func121 C λh0=>aA<|Zf C<|aJ<|Za C<|Za C<|Zz C (λZ I=>aAN _ l n _ (hl.up RI.up (I _ Yf)) h8) λv1 Z I O=>?_;obtain⟨ws,hw,hh⟩:=O;have hwl:=hw.len;refine Zf C<|bD<|Za C<|Zaj C U35 C hw C<|Zas C<|aE<|Zae C (λhc1=>?_) λhc1=>?_
 ·have hwn:ws=[]:=sc Yd;refine aA<|Za C<|Zaj C U35 C hl C<|Wi ?_;exact aD C λD hD=>by show Value.int _ _=_;rw[Aw (by rw[←hh,hwn];rfl)]
 ·obtain⟨x,hx⟩:∃x,ws[(0:Int).toNat]?= some x:=⟨_,yz (by simp only[Int.toNat_zero];omega)⟩
  refine aP<|aA<|Za C<|Zy C U35 aI C hw C (by first|exact hx|simpa using hx) λb1 o1 R U Y V=>?_;obtain rfl:R=[qI _]:=U;refine Zh 0 C aH C V C<|Wd ?_;exact aD C λD hD=>by show Value.int _ _=_;rw[Ee (hh.symm.trans (by rw[List.head?_eq_getElem?];exact hx))]
theorem aOR(sv:Γ)(ts:List (List Int))(n:Int)(D:aC)(hS:Sl D RL 1 sv ts)(h8:∀t∈ts,t.length≤1000):Fn prog 57 #[sv,qI n] D (λ_ v=>v=.agg #[qI ((ts.map λt=>C2.cX t n).foldl min (1099511627776)),qI ((ts.map λt=>C2.cX t n).foldl max (-1))]):=by
 have hSl:=hS.len;refine Zx 23 func57 C λh0=>aA<|Zag C lC C λY=>aJ<|Zd C (λD1 Z=>Y3 _)<|Zag C lC C λq2=>Zaa C fD ζ<|bD<|Zf C<|aE<|Za4<|fE (γ:=Nat) (λk=>ts.length-k) (λk=>k≤ts.length) (λk=>[(6,qI (k:Int))]) [(5,_),(4,_),(0,_),(1,_)] (λk=>[(q2,qC [qI (((ts.take k).map λt=>C2.cX t n).foldl min (1099511627776)),qI (((ts.take k).map λt=>C2.cX t n).foldl max (-1))] 139),(Y,qC [qI 0,qI 0] 139)]) (λk=>[D]) 0 Yd ⟨Ya,zy⟩ cE zp (aN) ?_;rintro k hB;refine bL<|Za C<|Za C<|Zaj C U57 C hS C<|Zal C<|aE<|Zae C (λhc1=>?_) λhc1=>?_
 ·have hk:k<ts.length:=Yd
  obtain⟨t,ht⟩:=cF ts k;have htm:=GE ht;refine aP<|Za6<|Za4<|bK [] 4 9 126<|Zah C vJ C zu fD<|Za C<|Za C<|Zy C U57 eZ C hS C ht λb1 o1 hE I V O=>?_;obtain⟨w1,rfl,R⟩:=I;refine Zh 0 C bW C O C<|Za C<|Zd C (λD2 U=>Ah _ t n _ (R.up RI.up (U _ Yf)) (h8 t htm))<|Zd C (λD3 hF=>X3 _ _ _ _)<|Zaa C fD ζ<|jk ?_;refine Zap ?_;rw[show C2.cX t n=((λt=>C2.cX t n)) t from C,←L1.nX ht,←L1.oB ht];exact Zl 16 (k+1) ⟨Ya,zy⟩ C zp
 ·obtain rfl:k=ts.length:=Yd
  rw[ym];refine Za9<|Za5<|Za5<|Zba<|Za2<|aA<|Zah C vJ C zu fD<|Zaa C fD (.tail ζ)<|aG ?_;exact Zp [_] C ⟨⟨_,_,_,C,zi,Or.inr ⟨vJ,ey,C⟩⟩,zy⟩ λD hD=>C
theorem F_(sv:Γ)(ts:List (List Int))(a b n:Int)(D:aC)(hS:Sl D RL 1 sv ts)(h4:∀t∈ts,t.length=4)(hab:0≤a∧a≤b∧b≤3):Fn prog 122 #[sv,qI a,qI b,qI n] D (λ_ v=>v=.bool (ts.all λt=>decide (cO t a b≤n))):=by
 have hSl:=hS.len;refine Zx 25 func122 C λh0=>aA<|Zf C<|bD<|Zf C<|aE<|Za4<|cW (γ:=Nat) (λk=>ts.length-k) (λk=>k≤ts.length∧((ts.take k).all λt=>decide (cO t a b≤n))=true) (λk=>[(9,qI (k:Int))]) [(8,_),(0,_),(1,_),(2,_),(3,_)] (λk=>[D]) 0 ⟨Yd,C⟩ ⟨Ya,zy⟩ cE (aN) ?_;rintro k ⟨h1,h2⟩;refine bL<|Za C<|Za C<|Zaj C U57 C hS C<|Zal C<|aE<|Zae C (λhc1=>?_) λhc1=>?_
 ·have hk:k<ts.length:=Yd
  obtain⟨t,ht⟩:=cF ts k;have htm:=GE ht;refine aP<|Za6<|Za4<|aA<|Za C<|Za C<|Zy C U57 eZ C hS C ht λZ o1 Y I V O=>?_;obtain⟨w1,rfl,R⟩:=I;refine Zh 0 C bW C O C<|Za C<|Za C<|Zd C (λD1 U=>T_ _ t a b _ (R.up RI.up (U _ Yf)) (h4 t htm) hab)<|Za C<|Zat C<|aE<|Zae C (λhc2=>?_) λhc2=>?_
  ·refine aA<|Wg ?_;exact aD C λD hD=>by show Value.bool _=_;rw[ql.2 ⟨t,htm,by rw[LE];omega⟩]
  ·refine xz ?_;exact aK 17 (k+1) ⟨Yd,L1.aTF ht h2 (oo Yd)⟩ Yd ⟨Ya,zy⟩ C C zp (aN)
 ·obtain rfl:k=ts.length:=Yd
  rw[ym]at h2;refine Wk ?_;exact aD C λD hD=>by show Value.bool _=_;rw[h2]
theorem bIF(sv:Γ)(ts:List (List Int))(a b:Int)(D:aC)(hS:Sl D RL 1 sv ts)(h4:∀t∈ts,t.length=4)(hab:0≤a∧a≤b∧b≤3)(hne:ts≠[])(R:∀t∈ts,0≤cO t a b∧cO t a b≤99):Fn prog 58 #[sv,qI a,qI b] D (λ_ v=>v=qI (kU (ts.map λt=>cO t a b))):=by
 have I:=Xcz hne R;refine Zx 18 func58 C λh0=>aA<|Zf C<|bD<|Zf C<|aE<|Za4<|cW (γ:=Nat) (λk=>99-k) (λk=>k≤99∧(k:Int)≤kU (ts.map λt=>cO t a b)) (λk=>[(7,qI (k:Int))]) [(6,_),(0,_),(1,_),(2,_)] (λk=>[D]) 0 ⟨Yd,I.1⟩ ⟨Ya,zy⟩ cE (aN) ?_;rintro k ⟨h1,h2⟩;refine bL<|Za C<|Zal C<|aE<|Zae C (λhc1=>?_) λhc1=>?_
 ·refine aP<|Za6<|Za4<|aA<|Za C<|Za C<|Za C<|Za C<|Zd C (λU O=>F_ _ ts a b (k:Int) _ (hS.up RL.up (O _ Yf)) h4 hab)<|aE<|Zai C (λhc2=>?_) (λhc2=>?_)
  ·refine uc ?_;exact aD C λD hD=>by show Value.int _ _=_;rw[show(k:Int)=kU (ts.map λt=>cO t a b)from by have:=Yan hne hc2;omega]
  ·refine xz ?_;exact aK 11 (k+1) ⟨Yd,by have:=Xch hne hc2;omega⟩ Yd ⟨Ya,zy⟩ C C zp (aN)
 ·refine Wk ?_;exact aD C λD hD=>by show Value.int _ _=_;rw[show kU (ts.map λt=>cO t a b)=99 by omega]
end L2
open Go.Proofs
namespace L12
open C12 Go.Lib
open C3 (bQ aU uI fA eP kN aCO fP cJ AU sH sC)
open L3 (zC tT dB nP kR LW pP zO pT tS kD pM rF)
open L7 (fJ VD qL tW)
theorem j5{x:bQ}:∀(a:List bQ),rD (a++[x])=rD a*LW 3 x
 | []=>by rw[ya,rD,rD,rD,Nat.one_mul,xp]
 |y::a=>by rw[we,rD,rD,j5 a,Nat.mul_assoc]
theorem NR{ls:List bQ}(h:∀l∈ls,yW l)(m:Nat):∀k,k≤ls.length→rD (pT ls m k)≤rD (ls.take k)
 |0,_=>zk _
 |k+1,hk=>by
  have ih:=NR h m k Yd;obtain⟨x,hx⟩:=cF ls k;have h1:=KH (h x (GE hx));rw[zg,hx,yd,j5];cases e:m.testBit k with
  |true=>rw[L3.IX hx e,j5];exact so _ ih
  |false=>rw[L3.RH e];exact xj ih (Nat.le_mul_of_pos_right _ h1)
section
variable{x:aU}(hch:x.chairs=3)(hc:x.counts=[])(h:∀l∈x.lines,yW l)(hm:¬4096<kR 3 x.lines)(h8:x.lines.length≤8)
include h in
theorem Xp(m:Nat):∀l∈(tS x m).lines,yW l:=λl hl=>h l (L3.aAD hl)
include h hm in
theorem Ju(m:Nat):¬4096<kR 3 (tS x m).lines:=by
 have h1:=NR h m x.lines.length (zk _);rw[ym]at h1;rw[TC h]at hm;rw[TC (Xp h m)];show ¬4096<((min 5000 (rD (pT x.lines m x.lines.length)):Nat):Int);omega
theorem CE{ls:List bQ}(h8:ls.length≤8)(m:Nat):∀k,k≤ls.length→rF ls (fJ m 8) k=pT ls (nE (2^ls.length-1) m) k
 |0,_=>rfl
 |k+1,hk=>by
  have ih:=CE h8 m k Yd;obtain⟨x,hx⟩:=cF ls k;have I:(nE (2^ls.length-1) m).testBit k= !m.testBit k:=by rw[L0,Nat.testBit_two_pow_sub_one,oo Yd,v_]
  have O:((fJ m 8).any λy=>decide ((k:Int)=y))=m.testBit k:=by
   rw[vv,rx];unfold fJ;constructor
   ·rintro⟨y,hy,e⟩;obtain⟨i,hi,rfl⟩:=n5.1 hy;obtain rfl:k=i:=by have:=yn e;omega
    exact(xf.1 hi).2
   ·intro e;exact⟨(k:Int),n5.2 ⟨k,xf.2 ⟨yj.2 Yd,e⟩,C⟩,oo C⟩
  cases e:m.testBit k with
  |true=>rw[L3.aKE (by rw[O,e];rfl),L3.RH (by rw[I,e];rfl),ih]
  |false=>rw[L3.KZ hx (by rw[O,e];rfl),L3.IX hx (by rw[I,e];rfl),ih]
def vo(x:aU)(out:List Int):Bool:=decide (C3.truths (pM x out)≠[])
include hch hc h hm h8 in
theorem VI(m:Nat):vo x (fJ m 8)=decide (dB 3 (tS x (nE (2^x.lines.length-1) m)).lines≠[]):=by
 have e:pM x (fJ m 8)=tS x (nE (2^x.lines.length-1) m):=by
  unfold pM tS;rw[CE h8 m _ (zk _),hc];rfl
 unfold vo;rw[e];exact oz.2 (not_congr (P2 (x:=tS x _) hch C (Xp h _) (Ju h hm _)).symm)
end
def ka(n:Nat):List (List Int):=(List.range' 0 (n+1)).flatMap λm=>VD n m 0
theorem Mz:∀n,n≤8→(ka n).Pairwise (λa b=>qL a b=true)∧(∀b,b<2^n→fJ b 8∈ka n)∧∀l∈ka n,∃b,b<2^n∧l=fJ b 8:=xh
theorem JV{g:Nat→List Int→Bool×List Int}{S:Nat→List (List Int)}{Q:List Int→Bool}{out:List Int}:∀(is:List Nat),(∀i∈is,∀fnd,(∀l,(S i).find? Q=some l→g i fnd=(true,out++l))∧((S i).find? Q=none→(g i fnd).1=false))→
  ∀fnd,(∀l,(is.flatMap S).find? Q=some l→L3.R1 g is fnd=(true,out++l))∧((is.flatMap S).find? Q=none→(L3.R1 g is fnd).1=false)
 | [],_,fnd=>⟨λl h=>vu,λ_=>C⟩
 |i::is,h,fnd=>by
  have h0:=h i zj fnd;rw[xy,List.find?_append,L3.R1];cases e:(S i).find? Q with
  |some l=>
   have:=h0.1 l e;rw[this];exact⟨λl' hl=>by rw[Option.some_or]at hl;cases hl;rfl,λhl=>by rw[Option.some_or]at hl;cases hl⟩
  |none=>
   have:=h0.2 e;rw[zv (by rw[this];simp),Option.none_or]
   exact JV is (λi hi=>h i (GT _ hi)) _
theorem ZX{x:aU}:∀(m f:Nat) (out fnd:List Int),(∀l,(VD x.lines.length m f).find? (λl=>vo x (out++l))=some l→L3.aCH x m f out fnd=(true,out++l))∧((VD x.lines.length m f).find? (λl=>vo x (out++l))=none→(L3.aCH x m f out fnd).1=false)
 |0,f,out,fnd=>by
  have e:L3.aCH x 0 f out fnd=(vo x out,out):=rfl;rw[e,VD,List.find?_cons,yr];cases hp:vo x out with
  |true=>exact⟨λl h=>by simp only[uk]at h;rw[←h,yr],λh=>vu⟩
  |false=>exact⟨λl h=>vu,λ_=>C⟩
 |m+1,f,out,fnd=>by
  rw[L3.aCH,VD];refine JV _ (λi _ fnd=>?_) fnd;have ih:=ZX (x:=x) m (i+1) (out++[(i:Int)]) fnd;have e:(λl=>vo x (out++l))∘(λl:List Int=>(i:Int)::l)=λl=>vo x ((out++[(i:Int)])++l):=by funext l;simp
  rw[List.find?_map,e];cases hf:(VD x.lines.length m (i+1)).find? (λl=>vo x ((out++[(i:Int)])++l))with
  |none=>exact⟨λl h=>vu,λ_=>ih.2 hf⟩
  |some l=>exact⟨λl' h=>by rw[xo,uk]at h;rw[ih.1 l hf,←h];simp,λh=>vu⟩
theorem VU{x:aU}(h:C3.aW x=0){l:List Int}(hl:(ka x.lines.length).find? (vo x)=some l):L3.cS x=(l,0):=by
 have:=(JV (g:=λm fnd=>L3.aCH x m 0 [] fnd) (S:=λm=>VD x.lines.length m 0) (Q:=vo x) (out:=[]) (List.range' 0 (x.lines.length+1)) (λi _ fnd=>ZX i 0 [] fnd) []).1 l hl;have e:L3.bRA x=(true,l):=this;unfold L3.cS;rw[zv Yd,e];rfl
theorem Xu:∀a:List Int,tW a a=false
 | []=>rfl
 |x::a=>by rw[tW,zo C];exact Xu a
section
variable{x:aU}(hch:x.chairs=3)(hc:x.counts=[])(h:∀l∈x.lines,yW l)(hm:¬4096<kR 3 x.lines)(h8:x.lines.length≤8)
include hch hc h hm h8
theorem XA:∀k,((kD 3 x k).2=true→∃b,b<k∧(kD 3 x k).1=fJ b 8∧vo x (fJ b 8)=true)∧((kD 3 x k).2=false→(kD 3 x k).1=[])∧∀b,b<k→vo x (fJ b 8)=true→(kD 3 x k).2=true∧qL (fJ b 8) (kD 3 x k).1=false
 |0=>⟨λe=>(by cases e),λ_=>C,λb hb=>absurd hb (pg b)⟩
 |k+1=>by
  obtain⟨h1,h0,h2⟩:=XA k;cases e:((!(kD 3 x k).2||qL (fJ k 8) (kD 3 x k).1)&&decide (dB 3 (tS x (nE (2^x.lines.length-1) k)).lines≠[]))with
  |true=>
   rw[L3.JS e];rw[←VI hch hc h hm h8,zl]at e;refine⟨λ_=>⟨k,Yd,C,e.2⟩,λe=>(by cases e),λb hb hp=>⟨C,?_⟩⟩;cases I:qL (fJ b 8) (fJ k 8)with
   |false=>rfl
   |true=>
    rcases Nat.lt_succ_iff_lt_or_eq.1 hb with hb|rfl
    ·obtain⟨g1,g2⟩:=h2 b hb hp;rw[g1,Bool.not_true,Bool.false_or]at e;rw[L7.XV I e.1]at g2;cases g2
    ·exfalso
     simp only[qL,yg,zl,LE]at I;rcases I with I|I
     ·omega
     ·exact absurd I.2 (by rw[Xu];simp)
  |false=>
   rw[L3.SA e];rw[←VI hch hc h hm h8]at e;refine⟨λg=>?_,h0,λb hb hp=>?_⟩
   ·obtain⟨b,hb,g1,g2⟩:=h1 g;exact⟨b,Yd,g1,g2⟩
   ·rcases Nat.lt_succ_iff_lt_or_eq.1 hb with hb|rfl
    ·exact h2 b hb hp
    ·rw[hp,Bool.and_true,xn]at e;exact⟨by simpa using e.1,e.2⟩
theorem aHO(hf:C3.aW x=0):L3.cS x=((kD 3 x (2^x.lines.length)).1,0)∧∃b,b<2^x.lines.length∧(kD 3 x (2^x.lines.length)).1=fJ b 8∧vo x (fJ b 8)=true:=by
 obtain⟨f1,f2,f3⟩:=Mz _ h8;obtain⟨h1,_,h2⟩:=XA hch hc h hm h8 (2^x.lines.length);have O:1≤2^x.lines.length:=Nat.one_le_two_pow;have hall:vo x (fJ (2^x.lines.length-1) 8)=true:=by
  have e:(tS x (nE (2^x.lines.length-1) (2^x.lines.length-1))).lines=[]:=by
   rw[show nE (2^x.lines.length-1) (2^x.lines.length-1)=0 by unfold nE;rw[Nat.and_self,Nat.xor_self]];show pT x.lines 0 x.lines.length=[];unfold pT;rw[List.filterMap_eq_nil_iff];intro i _;rw[qj];rfl
  rw[VI hch hc h hm h8,e];decide
 obtain⟨g1,_⟩:=h2 _ Yd hall;obtain⟨I,h0,e0,p0⟩:=h1 g1;refine⟨?_,I,h0,e0,p0⟩;have hmem:=f2 I h0;cases e:(ka x.lines.length).find? (vo x)with
 |none=>rw[List.find?_eq_none]at e;exact absurd p0 (e _ hmem)
 |some l=>
  rw[VU hf e];obtain⟨hp,L1,L2,el,hn⟩:=List.find?_eq_some_iff_append.1 e;rw[el]at hmem f1;obtain⟨R,g1,rfl⟩:=f3 l (jq e);have hL:=(h2 R g1 hp).2;rw[e0]at hL ⊢
  rcases zd.1 hmem with hq|hq
  ·have:=hn _ hq;rw[p0]at this;simp at this
  ·rcases zm.1 hq with hq|hq
   ·rw[hq]
   ·have:=(List.pairwise_cons.1 (List.pairwise_append.1 f1).2.1).1 _ hq;rw[hL]at this;cases this
end
theorem JI{b:aU}{t:List bQ}(hin:∀l∈t,AU 4 l):∀k,k≤t.length→(zO b t k).mixed=((L3.kK t k:Nat):Int)
 |0,_=>rfl
 |k+1,hk=>by
  have ih:=JI (b:=b) hin k Yd;obtain⟨h1,h2,_⟩:=L3.bJM (b:=b) hin k Yd;obtain⟨x,hx⟩:=cF t k;obtain⟨g0,g1,g2,g3,g4⟩:=hin x (GE hx);have O:=h1 x.chair.toNat Yd;have R:=h2 x.token.toNat Yd;rw[show((x.chair.toNat:Nat):Int)=x.chair by omega]at O;rw[show((x.token.toNat:Nat):Int)=x.token by omega]at R;have key:(zO b t (k+1)).mixed=if x.kind=2 then(if C3.nR (zO b t k).ch x.chair≠C3.nR (zO b t k).tk x.token then(zO b t k).mixed+1 else(zO b t k).mixed)else(zO b t k).mixed:=by
   rw[←L3.WE hx];unfold eP;split<;>rfl
  rw[key,L3.kK,hx];simp only[C3.nR,O,R,ih,zl,LE];by_cases I:x.kind=2
  ·by_cases U:L3.N6 bQ.chair t x.chair k=L3.N6 bQ.token t x.token k
   ·simp[I,U]
   ·simp[I,U]
  ·simp[I]
theorem aAC{x:aU}(hch:x.chairs=3)(hc:x.counts=[])(h:∀l∈x.lines,yW l)(hm:¬4096<kR 3 x.lines)(h8:x.lines.length≤8)(hne:dB 3 x.lines≠[]):
  ((dB 3 x.lines).map λt=>((L3.kK t t.length:Nat):Int)).foldl min 1099511627776=(L3.AX (λs=>s.mixed) x x.lines.length).1∧((dB 3 x.lines).map λt=>((L3.kK t t.length:Nat):Int)).foldl max (-1099511627776)=(L3.AX (λs=>s.mixed) x x.lines.length).2:=by
 have hlk:∀t∈dB 3 x.lines,(zO x t x.lines.length).mixed=((L3.kK t t.length:Nat):Int)∧t.length=x.lines.length:=λt ht=>by
  obtain⟨hi,_⟩:=(oI h hm).1 ht;have hlin:=o8 h hi;have hl:=xR hi;exact⟨by rw[←hl];exact JI (b:=x) (λl hl=>im) _ (zk _),hl⟩
 refine KV nz (λy hy=>?_) λy=>?_
 ·obtain⟨t,ht,rfl⟩:=n5.1 hy;have:=L3.GM t t.length;have:=(hlk t ht).2;omega
 ·constructor
  ·intro hy;obtain⟨t,ht,rfl⟩:=n5.1 hy;obtain⟨z,hz,e⟩:=S0 hch hc h hm ht;exact n5.2 ⟨_,n5.2 ⟨z,hz,C⟩,by rw[e,(hlk t ht).1]⟩
  ·intro hy;obtain⟨s,hs,rfl⟩:=n5.1 hy;obtain⟨z,hz,rfl⟩:=n5.1 hs;obtain⟨t,ht,e⟩:=xM hch h hm hz;exact n5.2 ⟨t,ht,by rw[e,(hlk t ht).1]⟩
end L12
namespace L7
open C7
def sP(y:aS)(ns:List Int)(l:List (Int×Int)):Int:=(ns.map λx=>(gR y (vQ y.chairs x.toNat).1 l:Int)).foldl min 99
def AZ(y:aS)(ns:List Int):Int:=(((prs y.chairs.length y.chairs.length 0).map pI).map (sP y ns)).foldl max 0
theorem Mj{y:aS}{ns:List Int}{l:List (Int×Int)}{k j:Nat}(hx:ns[k]?= some (j:Int)):sP y (ns.take (k+1)) l=min (sP y (ns.take k) l) (gR y (vQ y.chairs j).1 l:Int):=by
 unfold sP;rw[zg,hx,yd,ze,xk];rfl
theorem XJ{α:Type}{f:α→Int}{ls:List α}{k:Nat}{l:α}(h:ls[k]?= some l):((ls.take (k+1)).map f).foldl max 0=max (((ls.take k).map f).foldl max 0) (f l):=by
 rw[zg,h,yd,ze,xk];rfl
theorem X4{β:Type}{A z_:Nat→Bool}{g:Nat→List β}:∀w_:List Nat,(w_.filter λb=>A b&&z_ b).flatMap g=(w_.filter A).flatMap λb=>if z_ b=true then g b else []
 | []=>rfl
 |b::w_=>by
  rw[wj,wj];cases ha:A b with
  |false=>simpa using X4 w_
  |true=>
   cases hc:z_ b with
   |false=>simp[hc,X4 w_]
   |true=>simp[hc,X4 w_]
def PX(y:aS)(M:List (Nat×Nat)):Bool:=M.all λp=>iF y p.1 p.2
theorem QO{y:aS}:∀(k f w:Nat) (l:List (Int×Int)),f+k=y.chairs.length→U1 y k f w l=((prs y.chairs.length k w).filter (PX y)).map λM=>l++pI M
 |0,f,w,l,_=>by show [l]=[l++[]];rw[yr]
 |k+1,f,w,l,h=>by
  have hf:y.chairs.length-(k+1)=f:=Yd
  rw[U1,prs,hf,QO k (f+1) w l Yd];by_cases hb:w.testBit f=true
  ·rw[zo hb,zo hb,yr]
  ·rw[zv hb,zv hb,xu,ze];congr 1;rw[show(λb=>decide (f<b)&&(!w.testBit b&&iF y f b))=λb=>(decide (f<b)&& !w.testBit b)&&iF y f b from funext λb=>(Bool.and_assoc _ _ _).symm,X4,List.filter_flatMap,List.map_flatMap];congr 1;funext b;have e:PX y∘(λM:List (Nat×Nat)=>(f,b)::M)=λM=>iF y f b&&PX y M:=by funext M;simp[PX]
   rw[List.filter_map,e,uf];cases hn:iF y f b with
   |false=>simp
   |true=>
    rw[zo C,QO k (f+1) (w|||2^b) _ Yd];simp only[v_];apply qn;intro M _;simp[pI]
theorem XY{n:Nat}:∀(k w w':Nat),(∀x,w.testBit x=true→w'.testBit x=true)→∀M∈prs n k w',M∈prs n k w
 |0,_,_,_,M,hM=>hM
 |k+1,w,w',h,M,hM=>by
  unfold prs at hM ⊢
  have ih:=XY (n:=n) k;by_cases h':w'.testBit (n-(k+1))=true
  ·rw[zo h']at hM;have:=ih w w' h M hM;split
   ·exact this
   ·exact yw _ this
  ·rw[zv h']at hM;rw[zv λe=>h' (h _ e)];rcases zd.1 hM with hM|hM
   ·exact yw _ (ih w w' h M hM)
   ·refine LT _ ?_;obtain⟨b,hb,hM⟩:=vr.1 hM;obtain⟨M',hM',rfl⟩:=n5.1 hM;rw[xf,zl,vt]at hb;refine vr.2 ⟨b,?_,n5.2 ⟨M',ih _ _ (λx hx=>?_) M' hM',C⟩⟩
    ·rw[xf,zl,vt];refine⟨hb.1,hb.2.1,?_⟩;cases e:w.testBit b with
     |false=>rfl
     |true=>rw[h b e]at hb;exact absurd hb.2.2 Yf
    ·rw[tm,yg]at hx ⊢
     exact hx.imp (h x) id
theorem U7{n:Nat}:∀(k w:Nat) (M N:List (Nat×Nat)),M∈prs n k w→N.Sublist M→N∈prs n k w
 |0,w,M,N,hM,hs=>by
  obtain rfl:M=[]:=by simpa [prs]using hM
  rw[List.sublist_nil.1 hs];exact hM
 |k+1,w,M,N,hM,hs=>by
  unfold prs at hM ⊢
  split at hM
  ·rename_i h;rw[zo h];exact U7 k w M N hM hs
  ·rename_i h;rw[zv h];rcases zd.1 hM with hM|hM
   ·exact yw _ (U7 k w M N hM hs)
   ·obtain⟨b,hb,hM⟩:=vr.1 hM;obtain⟨M',hM',rfl⟩:=n5.1 hM;cases hs with
    |cons _ hs=>exact yw _ (XY k w (w|||2^b) (λx hx=>by rw[tm,hx];rfl) _ (U7 k _ M' N hM' hs))
    |cons_cons _ hs=>exact LT _ (vr.2 ⟨b,hb,n5.2 ⟨_,U7 k _ M' _ hM' hs,C⟩⟩)
theorem Ib{y:aS}{t:List Pt}{a b:Nat}(h:kH y t a b=true):iF y a b=true:=by
 unfold kH at h;split at h
 ·rename_i p q x z _ _ hx hz;unfold iF;rw[hx,hz]
  simp only[zl]at h;exact h.1.2
 ·simp at h
theorem Ku(y:aS)(t:List Pt)(M:List (Nat×Nat)):gR y t (pI (M.filter λp=>iF y p.1 p.2))=gR y t (pI M):=by
 rw[DN,DN];unfold np;rw[List.filter_filter];congr 2;apply List.filter_congr;intro p _;cases e:kH y t p.1 p.2 with
 |false=>rfl
 |true=>rw[Ib e];rfl
theorem IY{scs:List Sc}:∀(w_:List (List (Int×Int))) (b:List (Int×Int)) (m:Int),(w_.foldl (FK scs) (b,m)).2=(w_.map (rC scs)).foldl max m∧(w_.foldl (FK scs) (b,m)=(b,m)∨((w_.foldl (FK scs) (b,m)).1∈w_∧rC scs (w_.foldl (FK scs) (b,m)).1=(w_.foldl (FK scs) (b,m)).2))
 | [],b,m=>⟨C,zq C⟩
 |l::w_,b,m=>by
  rw[yp,yl,yp];by_cases h:m<rC scs l
  ·rw[TW h,show max m (rC scs l)=rC scs l by omega];obtain⟨h1,h2⟩:=IY (scs:=scs) w_ l (rC scs l);refine⟨h1,zt ?_⟩;rcases h2 with h2|h2
   ·rw[h2];exact⟨zj,C⟩
   ·exact⟨GT _ h2.1,h2.2⟩
  ·rw[ef h,show max m (rC scs l)=m by omega];obtain⟨h1,h2⟩:=IY (scs:=scs) w_ b m;exact⟨h1,h2.imp id λh=>⟨GT _ h.1,h.2⟩⟩
theorem aHF(yv nv lv:Γ)(y:aS)(ns:List Int)(l:List (Int×Int))(D:aC)(hy:gZ D yv y)(hn:Sl D RI 1 nv ns)(hl:Sl D R2 2 lv l)(hf:aW y=0)(hns:∀x∈ns,∃k:Nat,x=(k:Int)∧k≤1000000)(hp:∀p∈l,∃x z:Nat,p=((x:Int),(z:Int))∧x<y.chairs.length∧z<y.chairs.length)(Y:l.length≤100):Fn prog 135 #[yv,nv,lv] D (λ_ v=>v=qI (sP y ns l)):=by
 have O:=hy;obtain⟨cv,qv,rfl,hc,hq⟩:=hy;have hnl:=hn.len;have hyo:=VZ hf;have Z:=hyo.len;refine Zx 27 func135 C λh0=>aA<|Zac C λq1 E1 hB R=>Zf C<|aJ<|Zf C<|bD<|Zf C<|aE<|Za4<|Zo Nat (λk=>ns.length-k) (λk=>k≤ns.length) (λk=>[(8,qI (k:Int)),(7,qI (sP y (ns.take k) l))]) [(6,_),(3,_),(1,_),(2,_)] (λk=>[E1,D]) 0 ⟨Ya,Ya,zy⟩ ?_;rintro k h1;refine bL<|Za C<|Za C<|Zaj C U35 C hn C<|Zal C<|aE<|Zae C (λhc1=>?_) λhc1=>?_
 ·have hk:k<ns.length:=Yd
  obtain⟨x,hx⟩:=cF ns k;obtain⟨j,rfl,hj⟩:=hns x (GE hx);have hit:=tB hyo j;obtain⟨hlen,hbt⟩:=H3 hit;refine aP<|Za6<|Za4<|fS [] 5 [0,1,2,3,4,5,6,8,7,9,10,11] [false,true,true,true,true,true,true,true,true,true,false,false] [(false,0),(true,1),(true,2),(true,3),(true,4),(true,5),(true,6),(true,8),(true,7),(true,9),(false,10),(false,11)] aV (λ_ _ _ h=>eA (P:=prog) (fn:=f135) _ _ _ h) Yg C<|Za C<|Zv C jU C R jB<|Zv C jU C R jB<|Za C<|Za C<|gH C hn C hx λb1 o1=>Za C<|Zz C (λD1 U=>Rl _ y j _ (O.up (U _ Yf)) Yd Yd) λv1 D1 U V=>?_;have hz:=V;refine Zd C (λD2 I=>YG _ _ _ y _ l _ (O.up (I _ Yf)) (hz.up RP.up (I _ Yf)) (hl.up R2.up (I _ Yf)) hyo hlen hbt (λp h=>by rw[hlen];exact hp p h) Yd)<|zL C C C C zy<|Wp ?_
  exact aK 21 (k+1) Yd Yd ⟨Ya,(by rw[Mj hx];rfl),zy⟩ C C zp λD h=>⟨D,zb _ (h),Le.refl D⟩
 ·obtain rfl:k=ns.length:=Yd
  rw[ym];refine Wj ?_;exact aD C λD hD=>C
theorem aPS(yv nv:Γ)(y:aS)(ns:List Int)(D:aC)(hy:gZ D yv y)(hn:Sl D RI 1 nv ns)(hf:aW y=0)(hns:∀x∈ns,∃k:Nat,x=(k:Int)∧k≤1000000):Fn prog 64 #[yv,nv] D (λ_ v=>v=qI (AZ y ns)):=by
 have R:=hy;obtain⟨cv,qv,rfl,hc,hq⟩:=hy;have hyo:=VZ hf;have I:=hyo.len;refine Zx 26 func64 C λh0=>aA<|Zac C λq1 E1 hH U=>Zf C<|aJ<|Zf C<|aJ<|Zv C jU C U jB<|Zz C (λD1 V=>EO I _ _ (R.up (V _ Yf))) λv1 D1 V Y=>?_;have hps:=Y;have hpl:=hps.len;refine Zf C<|bD<|Zf C<|aE<|Za4<|Zo Nat (λk=>((prs y.chairs.length y.chairs.length 0).map pI).length-k) (λk=>k≤((prs y.chairs.length y.chairs.length 0).map pI).length) (λk=>[(7,qI (k:Int)),(5,qI (((((prs y.chairs.length y.chairs.length 0).map pI).take k).map (sP y ns)).foldl max 0))]) [(6,_),(4,_),(2,_),(1,_)] (λk=>[D1,E1,D]) 0 ⟨Ya,Ya,zy⟩ ?_;rintro k h1;refine bL<|Za C<|Za C<|Zaj C U237 C hps C<|Zal C<|aE<|Zae C (λhc1=>?_) λhc1=>?_
 ·have hk:k<((prs y.chairs.length y.chairs.length 0).map pI).length:=Yd
  obtain⟨l0,hl1⟩:∃l,((prs y.chairs.length y.chairs.length 0).map pI)[k]?= some l:=⟨_,yz hk⟩
  obtain⟨l,hlm,rfl⟩:=n5.1 (GE hl1);have hpi:=Pw I C _ (GE hl1);have hI:=U2 I (zk _) hlm;refine aP<|Za6<|Za4<|bK [] 4 10 254<|Za C<|Zv C jU C U jB<|Za C<|Za C<|Za C<|Zy C U237 V0 C hps C hl1 λb1 o1 hJ Z hF hB=>?_;obtain⟨w1,rfl,hE⟩:=Z;refine Zh 0 C UE C hB C<|Zd C (λD2 O=>aHF _ _ _ y ns (pI l) _ (R.up (O _ Yf)) (hn.up RI.up (O _ Yf)) (hE.up R2.up (O _ Yf)) hf hns hpi.1 Yd)<|mL C C C C zy<|Wp ?_;exact Zl 19 (k+1) ⟨Ya,(by rw[XJ hl1];rfl),zy⟩ C zp
 ·obtain rfl:k=((prs y.chairs.length y.chairs.length 0).map pI).length:=Yd
  rw[ym];refine Wj ?_;exact aD C λD hD=>C
theorem QX{y:aS}(h:UF y=0){l:List (Int×Int)}(hl:l.length≤50):rC ((bT y []).map λp=>p.1) l=sP y (BU y) l:=by
 obtain⟨hf,hne⟩:=A1 h;have hyo:=VZ hf;have hn:=hyo.len;have small:∀t,eM y t=true→(gR y t l:Int)≤99:=λt ht=>by
  have:=NQ y t l;have:=(H3 ht).1;omega
 have hm:∀x:Int,x∈((bT y []).map λp=>p.1).map (λs=>(iC s l:Int)) ↔ x∈(BU y).map λx=>(gR y (vQ y.chairs x.toNat).1 l:Int):=by
  intro x;rw[n5,n5];constructor
  ·rintro⟨s,hs,rfl⟩;obtain⟨p,hp,rfl⟩:=n5.1 hs;obtain⟨t,ht,hr,rfl⟩:=nW.1 hp;obtain⟨n,hn',rfl⟩:=JD ht;have:=(H3 ht).1;exact⟨(n:Int),LS.2 ⟨n,hn',hr,C⟩,by rw[XS Yd];rfl⟩
  ·rintro⟨n,hn',rfl⟩;obtain⟨k,hk,hr,rfl⟩:=LS.1 hn';have ht:=tB hyo k;have:=(H3 ht).1;exact⟨_,n5.2 ⟨_,nW.2 ⟨_,ht,hr,C⟩,C⟩,by rw[XS Yd];rfl⟩
 have hin:∀x∈(BU y).map λx=>(gR y (vQ y.chairs x.toNat).1 l:Int),x≤99:=λx hx=>by
  obtain⟨n,hn',rfl⟩:=n5.1 hx;exact small _ (tB hyo _)
 have I:bT y []≠[]:=λe=>hne ((VA hyo).2 e)
 unfold sP;unfold rC;cases e:(bT y []).map λp=>p.1 with
 |nil=>exact absurd (List.map_eq_nil_iff.1 e) I
 |cons s r=>
  rw[e]at hm;simp only;rw[yl,yp,Int.min_self];rw[yl]at hm;have O:(List.map (λs=>(iC s l:Int)) r).foldl min (iC s l:Int)=((iC s l:Int)::r.map λs=>(iC s l:Int)).foldl min 99:=by
   rw[yp];have:=hin _ ((hm (iC s l:Int)).1 zj);rw[show min (99:Int) (iC s l:Int)=(iC s l:Int) by omega]
  rw[O];exact Tv hm Yf (λx hx=>hin x ((hm x).1 hx)) hin
theorem Au{y:aS}(_h:UF y=0){l:List (Int×Int)}(_hl:l.length≤50):0≤sP y (BU y) l:=by
 unfold sP;rcases(gn ((BU y).map λx=>(gR y (vQ y.chairs x.toNat).1 l:Int)) 99).1 with e|e
 ·rw[e];omega
 ·obtain⟨n,_,I⟩:=n5.1 e;rw[←I];omega
theorem dg{y:aS}(_h:aW y=0){l:List (Int×Int)}:l∈U1 y y.chairs.length 0 0 [] ↔∃M∈prs y.chairs.length y.chairs.length 0,PX y M=true∧l=pI M:=by
 rw[QO _ _ _ _ Yd,n5];constructor
 ·rintro⟨M,hM,rfl⟩;rw[xf]at hM;exact⟨M,hM.1,hM.2,C⟩
 ·rintro⟨M,h1,h2,rfl⟩;exact⟨M,xf.2 ⟨h1,h2⟩,C⟩
theorem QH{y:aS}(h:UF y=0):((U1 y y.chairs.length 0 0 []).map (rC ((bT y []).map λp=>p.1))).foldl max (-1)=AZ y (BU y)∧U1 y y.chairs.length 0 0 []≠[]∧0≤AZ y (BU y):=by
 obtain⟨hf,hne⟩:=A1 h;have hn:=(VZ hf).len;have short:∀M∈prs y.chairs.length y.chairs.length 0,(pI M).length≤50:=λM hM=>by have:=U2 hn (zk _) hM;omega
 have I2:∀M∈prs y.chairs.length y.chairs.length 0,pI (M.filter λp=>iF y p.1 p.2)∈U1 y y.chairs.length 0 0 []:=λM hM=>
  (dg hf).2 ⟨_,U7 _ _ _ _ hM List.filter_sublist,by unfold PX;rw[yu];exact λp hp=>(xf.1 hp).2,C⟩
 have same:∀M,sP y (BU y) (pI (M.filter λp=>iF y p.1 p.2))=sP y (BU y) (pI M):=λM=>by
  unfold sP;congr 1;apply qn;intro x _;rw[Ku]
 obtain⟨V,I⟩:=List.exists_mem_of_ne_nil _ (Qn y.chairs.length y.chairs.length 0 (zk _));have O:U1 y y.chairs.length 0 0 []≠[]:=List.ne_nil_of_mem (I2 V I);obtain⟨R,a2,a3⟩:=kc ((U1 y y.chairs.length 0 0 []).map (rC ((bT y []).map λp=>p.1))) (-1);obtain⟨U,b2,Y⟩:=kc (((prs y.chairs.length y.chairs.length 0).map pI).map (sP y (BU y))) 0;have lv_le:∀M∈prs y.chairs.length y.chairs.length 0,sP y (BU y) (pI M)≤((U1 y y.chairs.length 0 0 []).map (rC ((bT y []).map λp=>p.1))).foldl max (-1):=λM hM=>by
  have:=a3 _ (n5.2 ⟨_,I2 M hM,C⟩)
  rwa [QX h (by have:=short _ (U7 _ _ _ _ hM (List.filter_sublist (p:=λp=>iF y p.1 p.2)));omega),same]at this
 refine⟨Int.le_antisymm ?_ ?_,O,b2⟩
 ·rcases R with R|R
  ·rw[R];show(-1:Int)≤_;exact Int.le_trans Yd b2
  ·obtain⟨l,hl,e⟩:=n5.1 R;obtain⟨M,hM,_,rfl⟩:=(dg hf).1 hl;rw[←e,QX h (short M hM)];exact Y _ (n5.2 ⟨_,n5.2 ⟨M,hM,C⟩,C⟩)
 ·show((((prs y.chairs.length y.chairs.length 0).map pI).map (sP y (BU y))).foldl max 0)≤_;rcases U with U|U
  ·rw[U];exact Int.le_trans (Au h (short V I)) (lv_le V I)
  ·obtain⟨l,hl,e⟩:=n5.1 U;obtain⟨M,hM,rfl⟩:=n5.1 hl;rw[←e];exact lv_le M hM
theorem aDN{n:Nat}(hn:n≤7){M:List (Nat×Nat)}(hM:M∈prs n n 0):(tc n (pI M)).isSome=true:=by
 have ok:=j6 n 0 (zk _) M hM;exact Re hn M 0 Yd (λp hp=>by
  obtain⟨_,h2,h3,_⟩:=ok.at_ p hp;exact⟨h2,h3,qj _,qj _⟩) ok.nd
theorem aGQ{y:aS}(h:UF y=0):(jO y).2.2=0∧(jO y).1.length≤3∧(tc y.chairs.length (jO y).1).isSome=true∧sP y (BU y) (jO y).1=(jO y).2.1∧(jO y).2.1=AZ y (BU y):=by
 obtain⟨hf,hne⟩:=A1 h;have hn:=(VZ hf).len;have I:bT y []≠[]:=λe=>hne ((VA (VZ hf)).2 e)
 obtain⟨R,U,V⟩:=QH h;obtain⟨O,u2⟩:=IY (scs:=(bT y []).map λp=>p.1) (U1 y y.chairs.length 0 0 []) [] (-1);have e:jO y=(((U1 y y.chairs.length 0 0 []).foldl (FK ((bT y []).map λp=>p.1)) ([], -1)).1,((U1 y y.chairs.length 0 0 []).foldl (FK ((bT y []).map λp=>p.1)) ([], -1)).2,0):=by
  unfold jO;rw[zv Yd,zv I]
 rw[e];simp only;rw[R]at O;have hmem:((U1 y y.chairs.length 0 0 []).foldl (FK ((bT y []).map λp=>p.1)) ([], -1)).1∈U1 y y.chairs.length 0 0 []∧rC ((bT y []).map λp=>p.1) ((U1 y y.chairs.length 0 0 []).foldl (FK ((bT y []).map λp=>p.1)) ([], -1)).1=((U1 y y.chairs.length 0 0 []).foldl (FK ((bT y []).map λp=>p.1)) ([], -1)).2:=by
  rcases u2 with u2|u2
  ·rw[u2]at O;simp only at O;omega
  ·exact u2
 obtain⟨M,hM,_,em⟩:=(dg hf).1 hmem.1;have hp:(tc y.chairs.length ((U1 y y.chairs.length 0 0 []).foldl (FK ((bT y []).map λp=>p.1)) ([], -1)).1).isSome=true:=by rw[em];exact aDN hn hM
 have h3:=(Xae hn hp).2;exact⟨zy,h3,hp,by rw[←QX h Yd];exact hmem.2,O⟩
end L7
namespace L12
open C12 Go.Lib
def B9(x:Int):Prop:=0≤x∧x≤99
structure lu(s:aO):Prop where
 ok:mI s
 good:jY s
 st:eI s=0
theorem Xf(ls:List Λ):lu (nJ ls).1:=⟨T2 ls,Mr ls,YN ls⟩
structure cj(s:aO):Prop where
 ch:B9 (PB s).1∧B9 (PB s).2
 le:B9 (C1.pF s.row)
 wet:∀k,k<s.table.levels.length→B9 (I6 s k).1∧B9 (I6 s k).2
 dry:B9 (JB s)
 lv:∀x∈(L3.cS s.book).1,B9 x
 lvn:(L3.cS s.book).1.length≤100
 mon:B9 (jZ s).1∧B9 (jZ s).2
 mix:B9 (kK s).1∧B9 (kK s).2
 wh:B9 (L7.dS s.yard).1.1∧B9 (L7.dS s.yard).1.2
 su:B9 (L7.jO s.yard).2.1
theorem B9.nb{x:Int}(h:B9 x):NB x:=by unfold B9 at h;unfold NB;omega
theorem cj.rep{s:aO}(h:cj s)(hl:s.table.levels.length≤6):WM s:=
 ⟨⟨h.ch.1.nb,h.ch.2.nb⟩,h.le.nb,λk hk=>⟨(h.wet k hk).1.nb,(h.wet k hk).2.nb⟩,h.dry.nb,λx hx=>(h.lv x hx).nb,h.lvn,hl,⟨h.mon.1.nb,h.mon.2.nb⟩,⟨h.mix.1.nb,h.mix.2.nb⟩,⟨h.wh.1.nb,h.wh.2.nb⟩,h.su.nb⟩
theorem GV{l:List Int}(h:∀y∈l,B9 y):B9 (C1.qH l)∧B9 (C1.kU l):=by
 by_cases hl:l=[]
 ·subst hl;exact⟨⟨Yu,Yu⟩,Yu,Yu⟩
 ·exact⟨h _ (C1.Q4 hl),h _ (C1.tZ hl)⟩
theorem GQ{l:List Int}(h:∀y∈l,0≤y∧y≤99)(a b:Int):B9 (C2.cO l a b):=(GV λy hy=>h y (List.mem_of_mem_drop (pd hy))).2
theorem Rt{s:aO}(F:C3.Sc→Int)(h:∀y∈L3.uO s.book 0 (C3.fA s.book),B9 (F (C3.aCO y s.book.lines.length))):B9 (L3.AX F s.book s.book.lines.length).1∧B9 (L3.AX F s.book s.book.lines.length).2:=
 GV λy hy=>by
  obtain⟨u,hu,rfl⟩:=n5.1 hy;obtain⟨z,hz,rfl⟩:=n5.1 hu;exact h z hz
section
variable{s:aO}(hs:lu s)
include hs
theorem lu.row:C1.truths s.row≠[]∧(∀t∈C1.truths s.row,t.length≤9∧∀x∈t,0≤x∧x≤1)∧0≤(s.row.places.length:Int)-1∧(∀t∈C1.truths s.row,(s.row.places.length:Int)-1<t.length):=by
 have h1:=(mC hs.st).1;have hpl:=hs.ok.pl;have I:=hs.good.len0;refine⟨λe=>?_,λt ht=>?_,Yd,λt ht=>?_⟩
 ·unfold C1.eJ at h1;rw[e]at h1;split at h1
  ·omega
  ·simp at h1
 ·have:=C1.wH ht;exact⟨by have:=this.1;omega,this.2⟩
 ·have:=(C1.wH ht).1;omega
theorem lu.book:s.book.chairs=((3:Nat):Int)∧s.book.counts=[]∧(∀l∈s.book.lines,yW l)∧¬4096<L3.kR 3 s.book.lines∧(s.book.coin=5∧s.book.box=20)∧s.book.lines.length≤8∧C3.aW s.book=0:=by
 obtain⟨_,_,_,h4,_,_⟩:=mC hs.st;have hln:∀l∈s.book.lines,yW l:=hs.good.ln;refine⟨hs.ok.bc,hs.good.bk.2.2,hln,?_,⟨hs.good.bk.1,hs.good.bk.2.1⟩,hs.ok.ln,h4⟩;rw[←LN hln];rw[hs.good.fB hs.ok]at h4;split at h4
 ·cases h4
 ·assumption
theorem Q_:PB s=(C1.SK (C1.truths s.row) (0:Int).toNat ((s.row.places.length:Int)-1).toNat,C1.UX (C1.truths s.row) (0:Int).toNat ((s.row.places.length:Int)-1).toNat):=by
 obtain⟨I,_,O,_⟩:=hs.row;have e:C1.eJ s.row (C1.rX s.row 0 ((s.row.places.length:Int)-1))=0:=by
  have hp:C1.rX s.row 0 ((s.row.places.length:Int)-1)=true:=by unfold C1.rX;rw[zl,C1.bH,C1.bH];omega
  rw[hp];exact(mC hs.st).1
 unfold PB;rw[zo e]
theorem Waw:B9 (PB s).1∧B9 (PB s).2:=by
 obtain⟨I,O,_,_⟩:=hs.row;have hpl:=hs.ok.pl;rw[Q_ hs];have key:∀t∈C1.truths s.row,B9 (C1.iH t (0:Int).toNat ((s.row.places.length:Int)-1).toNat):=λt ht=>by
  have:=C1.x9 (O t ht).2 (0:Int).toNat ((s.row.places.length:Int)-1).toNat Yd;unfold B9;omega
 obtain⟨t,ht,e⟩:=C1.bNV (i:=(0:Int).toNat) (j:=((s.row.places.length:Int)-1).toNat) I;obtain⟨u,hu,R⟩:=C1.bNC (i:=(0:Int).toNat) (j:=((s.row.places.length:Int)-1).toNat) I;rw[←e,←R];exact⟨key t ht,key u hu⟩
theorem WA:(C1.fL s.row (C1.bP s.row.places)).getD 99=C1.pF s.row∧B9 (C1.pF s.row):=by
 obtain⟨I,_⟩:=hs.row;have hf:=C1.V5.2 (hs.good.rowOk hs.ok);obtain⟨t,ht⟩:=List.exists_mem_of_ne_nil _ I;obtain⟨h1,h2⟩:=C1.aEX.1 ht;unfold C1.fits at h2;rw[zl]at h2;obtain⟨m,hm,_⟩:=C1.aTX h1 h2.1;obtain⟨⟨u,_,_,hu⟩,_⟩:=C1.IS hm;have hw:C1.jM s.row u≤s.row.counts.length:=xm _ _;have hct:=hs.ok.ct;unfold C1.pF;rw[zv Yd,hm];exact⟨C,by simp only[va];unfold B9;omega⟩
theorem Xad:C2.bI s.table≠[]:=λe=>by
 have h:=(mC hs.st).2.2.1;unfold C2.nG at h;rw[e]at h;split at h
 ·omega
 ·simp at h
theorem KY:L2.nI s.table≠[]∧∀t∈L2.nI s.table,t.length=4∧∀x∈t,0≤x∧x≤99:=by
 have I:=hs.good.t3 hs.ok;refine⟨λe=>Xad hs ((BT λx=>sX hs.ok hs.good).1 e),λt ht=>?_⟩;obtain⟨hin,_⟩:=L2.CF I (xf.1 ht).1;exact⟨by rw[L2.W7 hin];exact I.len,L2.T7 I hin⟩
theorem Xbz{k:Nat}(hk:k<s.table.levels.length):I6 s k=(((L2.nI s.table).map λt=>C2.cX t (s.table.levels.getD (k:Int).toNat 0)).foldl min 1099511627776,((L2.nI s.table).map λt=>C2.cX t (s.table.levels.getD (k:Int).toNat 0)).foldl max (-1)):=by
 obtain⟨h1,h2⟩:=KY hs;have e:C2.nG s.table (C1.gF (k:Int) 0 ((s.table.levels.length:Int)-1))=0:=by
  rw[C1.bH.2 Yd];exact(mC hs.st).2.2.1
 obtain⟨g1,g2⟩:=KV (l:=(L2.nI s.table).map λt=>C2.cX t (s.table.levels.getD (k:Int).toNat 0)) (m:=(C2.bI s.table).map λt=>C2.cX t (s.table.levels.getD (k:Int).toNat 0)) (a:=1099511627776) (b:= -1) vj (λy hy=>by
  obtain⟨t,ht,rfl⟩:=n5.1 hy;have:=L2.RG t (s.table.levels.getD (k:Int).toNat 0);have:=(h2 t ht).1;omega) λy=>by simp only[n5,sX hs.ok hs.good]
 rw[g1,g2];unfold I6;rw[zo e];rfl
theorem Xcm{k:Nat}(hk:k<s.table.levels.length):B9 (I6 s k).1∧B9 (I6 s k).2:=by
 have e:C2.nG s.table (C1.gF (k:Int) 0 ((s.table.levels.length:Int)-1))=0:=by
  rw[C1.bH.2 Yd];exact(mC hs.st).2.2.1
 unfold I6;rw[zo e]
 exact GV λy hy=>by
  obtain⟨t,ht,rfl⟩:=n5.1 hy;have:=L2.RG t (s.table.levels.getD (k:Int).toNat 0);have:=((KY hs).2 t ((sX hs.ok hs.good).2 ht)).1;unfold B9;omega
theorem Rc:JB s=C1.kU ((L2.nI s.table).map λt=>C2.cO t 0 s.table.last)∧B9 (JB s):=by
 obtain⟨h1,h2⟩:=KY hs;have hl:=hs.good.last;have e:C2.nG s.table (C2.sK s.table.last 0 s.table.last)=0:=by
  rw[show C2.sK s.table.last 0 s.table.last=true by rw[hl];decide];exact(mC hs.st).2.2.1
 have I:JB s=C1.kU ((C2.bI s.table).map λt=>C2.cO t 0 s.table.last):=by unfold JB;rw[zo e];rfl
 obtain⟨g1,g2⟩:=KV (l:=(L2.nI s.table).map λt=>C2.cO t 0 s.table.last) (m:=(L2.nI s.table).map λt=>C2.cO t 0 s.table.last) (a:=99) (b:=0) vj (λy hy=>by
  obtain⟨t,ht,rfl⟩:=n5.1 hy;exact GQ (h2 t ht).2 _ _) λy=>Iff.rfl
 obtain⟨g3,g4⟩:=KV (l:=(L2.nI s.table).map λt=>C2.cO t 0 s.table.last) (m:=(C2.bI s.table).map λt=>C2.cO t 0 s.table.last) (a:=99) (b:=0) vj (λy hy=>by
  obtain⟨t,ht,rfl⟩:=n5.1 hy;exact GQ (h2 t ht).2 _ _) λy=>by simp only[n5,sX hs.ok hs.good]
 rw[I,←g4,g2];exact⟨C,(GV λy hy=>by
  obtain⟨t,ht,rfl⟩:=n5.1 hy;exact GQ (h2 t ht).2 _ _).2⟩
theorem gw:(L3.kD 3 s.book (2^s.book.lines.length)).1=(L3.cS s.book).1∧(∀x∈(L3.cS s.book).1,B9 x)∧(L3.cS s.book).1.length≤100∧((L3.cS s.book).1=[]→L3.dB 3 s.book.lines≠[]):=by
 obtain⟨R,O,U,V,_,I,hf⟩:=hs.book;obtain⟨e,b,hb,Y,hok⟩:=aHO R O U V I hf;rw[e];simp only;rw[Y];refine⟨zy,λx hx=>?_,by have:=L7.RK b 8;omega,λh0=>?_⟩
 ·obtain⟨i,hi,rfl⟩:=n5.1 hx;have:=yj.1 (xf.1 hi).1;unfold B9;omega
 ·rw[h0]at hok;have Z:L3.pM s.book []=s.book:=by
   have e4:=CE I 0 s.book.lines.length (zk _);have e5:∀k,k≤s.book.lines.length→L3.rF s.book.lines [] k=s.book.lines.take k:=by
    intro k;induction k with
    |zero=>intro _;rfl
    |succ k ih=>
     intro hk;obtain⟨x,hx⟩:=cF s.book.lines k;rw[L3.KZ hx C,ih Yd,zg,hx];rfl
   unfold L3.pM;rw[e5 _ (zk _),ym,O];have e6:s.book={s.book with counts:=[]}:=by rw[←O]
   exact e6.symm
  unfold vo at hok;rw[Z,LE]at hok;exact λe7=>hok ((P2 R O U V).1 e7)
theorem Vo(fine:Bool)(hfine:fine=true)(hne:L3.dB 3 s.book.lines≠[]):C3.J7 s.book fine=0:=by
 obtain⟨I,O,R,U,_,_,hf⟩:=hs.book;unfold C3.J7;rw[zv Yd,zv (by rw[hfine];simp),zv λe=>hne ((P2 I O R U).2 e)]
theorem Xce(hne:L3.dB 3 s.book.lines≠[]):jZ s=(((L3.dB 3 s.book.lines).map λt=>L3.jZ s.book t s.book.lines.length).foldl min 1099511627776,((L3.dB 3 s.book.lines).map λt=>L3.jZ s.book t s.book.lines.length).foldl max (-1099511627776)):=by
 obtain⟨O,R,U,V,Y,I,hf⟩:=hs.book;obtain⟨g1,g2⟩:=aCS O R U V Y I hne;unfold jZ;rw[Vo hs _ (C1.bH.2 Yd) hne,zo C,xr,g1,g2]
theorem Xal(hne:L3.dB 3 s.book.lines≠[]):kK s=(((L3.dB 3 s.book.lines).map λt=>((L3.kK t t.length:Nat):Int)).foldl min 1099511627776,((L3.dB 3 s.book.lines).map λt=>((L3.kK t t.length:Nat):Int)).foldl max (-1099511627776)):=by
 obtain⟨O,R,U,V,_,I,hf⟩:=hs.book;obtain⟨g1,g2⟩:=aAC O R U V I hne;unfold kK;rw[Vo hs _ C hne,zo C,g1,g2]
theorem R_{y:List C3.Sc}(hy:y∈L3.uO s.book 0 (C3.fA s.book)):B9 (C3.aCO y s.book.lines.length).money∧B9 (C3.aCO y s.book.lines.length).mixed:=by
 obtain⟨U,Y,I,O,R,V,hf⟩:=hs.book;obtain⟨t,ht,e⟩:=xM U I O hy;obtain⟨hi,hp⟩:=(oI I O).1 ht;have hl:=xR hi;have hlin:∀l∈t,C3.AU 4 l:=λl hl=>by obtain⟨a,b,c,d,e⟩:=o8 I hi l hl;exact⟨a,b,Yd,d,Yd⟩
 have inv:∀k,k≤t.length→C3.CO s.book (L3.zO s.book t k):=by
  intro k;induction k with
  |zero=>intro _;exact C3.W3 _
  |succ k ih=>
   intro hk;obtain⟨x,hx⟩:=cF t k;obtain⟨g0,g1,g2,g3,g4⟩:=hlin x (GE hx);rw[←L3.WE hx];refine C3.aBF (ih Yd) (L3.HJ s.book t k).1 ?_ g1 g2;rw[L3.aDR hlin hx];unfold L3.pP at hp;rw[yu]at hp;exact hp k (yj.2 hk)
 have h1:=inv s.book.lines.length Yd;have h2:=JI (b:=s.book) hlin s.book.lines.length Yd;have h3:=L3.GM t s.book.lines.length;have h4:(0:Int)≤C3.FJ (L3.zO s.book t s.book.lines.length).ch∧C3.FJ (L3.zO s.book t s.book.lines.length).ch≤4:=by
  have:=xm (λx=>decide (x≠0)) (L3.zO s.book t s.book.lines.length).ch;rw[(L3.HJ s.book t s.book.lines.length).1]at this;unfold C3.FJ;omega
 unfold C3.CO at h1;rw[R.1,R.2]at h1;rw[e];unfold B9;omega
theorem Qd:(B9 (jZ s).1∧B9 (jZ s).2)∧B9 (kK s).1∧B9 (kK s).2:=by
 have h0:B9 0:=⟨Yu,Yu⟩
 refine⟨?_,?_⟩
 ·unfold jZ;split
  ·rw[xr];exact Rt _ λy hy=>(R_ hs hy).1
  ·exact⟨h0,h0⟩
 ·unfold kK;split
  ·exact Rt _ λy hy=>(R_ hs hy).2
  ·exact⟨h0,h0⟩
theorem s7:C7.aW s.yard=0∧L7.UF s.yard=0:=by
 obtain⟨_,_,_,_,h5,I⟩:=mC hs.st;refine⟨h5,?_⟩;rw[FH,zv Yd]at I;unfold L7.UF;rw[zv Yd,zv];intro e;rw[zo ((L7.VA (L7.VZ h5)).1 e)]at I;cases I
theorem Pk:L7.Q6 (L7.pK s.yard) (L7.BU s.yard)=(L7.dS s.yard).1∧B9 (L7.dS s.yard).1.1∧B9 (L7.dS s.yard).1.2:=by
 obtain⟨hf,ha⟩:=s7 hs;rw[L7.aRR ha];refine⟨C,?_⟩;have hv:∀i:Nat,0≤(L7.pK s.yard).getD i 0∧(L7.pK s.yard).getD i 0≤14:=λi=>by
  rw[wi];cases e:(L7.pK s.yard)[i]? with
  |none=>simp
  |some v=>
   obtain⟨n,_,rfl⟩:=n5.1 (GE e);have:=L7.aBJ (L7.VZ hf) (L7.tB (L7.VZ hf) n);simp only[va,L7.Z6];omega
 have key:∀(ns:List Int) (r:Int×Int),(0≤r.1∧r.1≤99)→r.2≤99→(0≤r.2∨ns≠[])→B9 (ns.foldl (λr n=>(min r.1 ((L7.pK s.yard).getD n.toNat 0),max r.2 ((L7.pK s.yard).getD n.toNat 0))) r).1∧B9 (ns.foldl (λr n=>(min r.1 ((L7.pK s.yard).getD n.toNat 0),max r.2 ((L7.pK s.yard).getD n.toNat 0))) r).2:=by
  intro ns;induction ns with
  |nil=>intro r h1 h2 h3;exact⟨h1,h3.resolve_right λh=>h C,h2⟩
  |cons n ns ih=>intro r h1 h2 _;have:=hv n.toNat;exact ih _ Yl Yl (zq Yl)
 exact key _ _ Yu Yu (zt (L7.A1 ha).2)
theorem Pm:L7.AZ s.yard (L7.BU s.yard)=(L7.jO s.yard).2.1∧B9 (L7.jO s.yard).2.1:=by
 obtain⟨hf,ha⟩:=s7 hs;obtain⟨_,_,_,_,e⟩:=L7.aGQ ha;rw[e];refine⟨C,(L7.QH ha).2.2,?_⟩;have key:∀(l:List Int) (m:Int),m≤99→(∀y∈l,y≤99)→l.foldl max m≤99:=by
  intro l;induction l with
  |nil=>intro m h _;exact h
  |cons y l ih=>intro m h hy;have:=hy y zj;exact ih _ Yd λz hz=>hy z (GT _ hz)
 have I:∀(l:List Int) (m:Int),m≤99→l.foldl min m≤99:=by
  intro l;induction l with
  |nil=>intro m h;exact h
  |cons y l ih=>intro m h;exact ih _ Yd
 refine key _ _ Yu λy hy=>?_
 obtain⟨l,_,rfl⟩:=n5.1 hy;exact I _ _ (Int.le_refl _)
theorem Ov:cj s:=⟨Waw hs,(WA hs).2,λ_ hk=>Xcm hs hk,(Rc hs).2,(gw hs).2.1,(gw hs).2.2.1,(Qd hs).1,(Qd hs).2,(Pk hs).2,(Pm hs).2⟩
end
def t6(a b:Int):Λ:=(rN (itoa a)++⟨#[46,46]⟩)++rN (itoa b)
theorem uA{n:Int}(h:B9 n):(rN (itoa n)).size≤7:=mN h.nb.1 h.nb.2
theorem m7{r:Int×Int}(h:B9 r.1∧B9 r.2):(t6 r.1 r.2).size≤16:=by
 have h1:=uA h.1;have h2:=uA h.2;have h3:(⟨#[46,46]⟩:Λ).size=2:=rfl;unfold t6;rw[na,na];omega
section
variable{r:C1.dG}{k:Nat}{t:List Int}
theorem Tf(ht:(C1.bP r.places)[k]?= some t):C1.fL r ((C1.bP r.places).take (k+1))=C1.gG r (C1.fL r ((C1.bP r.places).take k)) t:=by rw[zg,ht,yd,C1.vD]
theorem Wcg(ht:(C1.bP r.places)[k]?= some t)(h:(if C1.cK r t=true then(C1.jM r t:Int)else -1)≥0)(I:r.counts.length≤6):(C1.fL r ((C1.bP r.places).take (k+1))).getD 99=min ((C1.fL r ((C1.bP r.places).take k)).getD 99) (if C1.cK r t=true then(C1.jM r t:Int)else -1):=by
 have he:C1.cK r t=true:=by
  cases e:C1.cK r t with
  |true=>rfl
  |false=>rw[e]at h;simp at h
 have hw:C1.jM r t≤r.counts.length:=xm _ _;rw[Tf ht,zo he];unfold C1.gG;rw[zo he];cases C1.fL r ((C1.bP r.places).take k)with
 |none=>simp only[va,Option.getD_none];omega
 |some m=>rfl
theorem Wbg(ht:(C1.bP r.places)[k]?= some t)(h:¬(if C1.cK r t=true then(C1.jM r t:Int)else -1)≥0):(C1.fL r ((C1.bP r.places).take (k+1))).getD 99=(C1.fL r ((C1.bP r.places).take k)).getD 99:=by
 have he:¬C1.cK r t=true:=λe=>by rw[zo e]at h;omega
 rw[Tf ht];unfold C1.gG;rw[zv he]
end
theorem KU(n:Int)(h:B9 n)(D:aC):Fn prog 116 #[qI n] D (λ_ v=>v=.string (rN (itoa n))):=by
 have h0:=h.1;refine Zx 15 func116 C λh0=>aA<|Zf C<|bD<|Za C<|sh ?_;refine' bU 3 (s:=5) (p:=8) C (λI=>?_) (λI=>?_) ?_;rotate_left
 ·refine Zb C<|Zau C<|Zam C ?_;exact aQ 2
 ·refine ru ?_;exact aQ 2
 refine aE<|Zai C (λhc1=>?_) λhc1=>?_
 ·simp only[zl,LE]at hc1;omega
 ·refine aP<|aA<|Za C<|Zd C (λR O=>S8 n h.1 h.2 _)<|Wd ?_;exact aD C λD hD=>C
theorem Q5(a b:Int)(h:B9 a∧B9 b)(D:aC):Fn prog 53 #[qI a,qI b] D (λ_ v=>v=.string (t6 a b)):=by
 have R:=uA h.1;have z2:=uA h.2;have z3:(⟨#[46,46]⟩:Λ).size=2:=rfl;refine Zx 11 func53 C λh0=>aA<|Zf C<|aJ<|Za C<|Zd C (λU I=>KU a h.1 _)<|Zaz C<|Za C<|Zd C (λV O=>KU b h.2 _)<|Zaz C<|Wd ?_;exact aD C λD hD=>C
theorem Hx(rv:Γ)(r:C1.dG)(D:aC)(hr:nS D rv r)(hok:C1.mV r):Fn prog 55 #[rv] D (λ_ v=>v=qI ((C1.fL r (C1.bP r.places)).getD 99)):=by
 have I:=hr;obtain⟨pv,cv,rfl,hp,hc⟩:=hr;have hal:=L1.VS hok;refine Zx 27 func55 C λh0=>aA<|Zac C λq1 E1 hF O=>Zf C<|aJ<|Zf C<|aJ<|Zv C H7 C O wS<|Zz C (λD1 R=>L1.LF _ r _ (I.up (R _ Yf)) hok) λv1 D1 R V=>?_;have hS:=V;refine Zf C<|bD<|Zf C<|aE<|Za4<|Zo Nat (λk=>(C1.bP r.places).length-k) (λk=>k≤(C1.bP r.places).length) (λk=>[(5,qI (k:Int)),(3,qI ((C1.fL r ((C1.bP r.places).take k)).getD 99))]) [(4,_),(2,_),(1,_)] (λk=>[D1,E1,D]) 0 ⟨Ya,Ya,zy⟩ ?_;rintro k h1;refine bL<|Za C<|Za C<|Zaj C U57 C hS C<|Zal C<|aE<|Zae C (λhc1=>?_) λhc1=>?_
 ·have hk:k<(C1.bP r.places).length:=Yd
  obtain⟨t,ht⟩:=cF (C1.bP r.places) k;have htr:C1.oS r t:=C1.pZ (GE ht);refine aP<|Za6<|Za4<|Za6<|bK [] 3 7 30<|Zv C H7 C O wS<|Za C<|Za C<|Zy C U57 eZ C hS C ht λb1 o1 hH Y hE Z=>?_;obtain⟨w1,rfl,hB⟩:=Y;refine Zh 0 C bW C Z C<|Zd C (λD2 U=>L1.aAW _ _ r t _ (I.up (U _ Yf)) (hB.up RI.up (U _ Yf)) hok htr)<|Zf C<|aJ<|Za C<|kE C C C C zy<|aE<|Zae C (λhc2=>?_) λhc2=>?_
  ·refine aM<|Za C<|Za C<|zL C C C C zy<|Zf C<|jk ?_;refine Zap ?_;exact Zl 22 (k+1) ⟨Ya,(by rw[Wcg ht hc2 hok.cnt6];rfl),zy⟩ C zp
  ·refine xz ?_;exact Zl 18 (k+1) ⟨Ya,(by rw[Wbg ht hc2];rfl),zy⟩ C zp
 ·obtain rfl:k=(C1.bP r.places).length:=Yd
  rw[ym];refine Wj ?_;exact aD C λD hD=>C
section
variable{s:aO}
theorem t2:((((((⟨#[99,104,97,105,114,115,32]⟩:Λ)++t6 (PB s).1 (PB s).2)++⟨#[10]⟩)++⟨#[108,101,97,115,116,32]⟩)++rN (itoa (C1.pF s.row)))++⟨#[10]⟩)=rN (r3 s 0):=by
 apply Go.WideShapes.bytes_inj;simp[rN,t6,r3,r2,r1,tU,BA]
theorem t3{k:Nat}:rN (r3 s k)++(((⟨#[119,101,116,32]⟩:Λ)++t6 (I6 s k).1 (I6 s k).2)++⟨#[10]⟩)=rN (r3 s (k+1)):=by
 rw[TB];apply Go.WideShapes.bytes_inj;simp[rN,t6,tU]
theorem t5:rN (r3 s s.table.levels.length)++((((⟨#[100,114,121,32]⟩:Λ)++rN (itoa (JB s)))++⟨#[10]⟩)++⟨#[108,101,97,118,101]⟩)=rN (r6 s 0):=by
 apply Go.WideShapes.bytes_inj;simp[rN,r6,r5,r4,BA]
theorem Waa{k:Nat}{x:Int}(h:(L3.cS s.book).1[k]?= some x):rN (r6 s k)++((⟨#[32]⟩:Λ)++rN (itoa x))=rN (r6 s (k+1)):=by
 rw[Sq h];apply Go.WideShapes.bytes_inj;simp[rN]
theorem t7:rN (r6 s (L3.cS s.book).1.length)++⟨#[10]⟩=rN (r7 s):=by
 apply Go.WideShapes.bytes_inj;simp[rN,r7]
theorem Mm5(h:(L3.cS s.book).1=[]):rN (r7 s)++((((((⟨#[109,111,110,101,121,32]⟩:Λ)++t6 (jZ s).1 (jZ s).2)++⟨#[10]⟩)++⟨#[109,105,120,101,100,32]⟩)++t6 (kK s).1 (kK s).2)++⟨#[10]⟩)=rN (r8 s):=by
 rw[Qy h];apply Go.WideShapes.bytes_inj;simp[rN,t6,pm,tU]
theorem t9:(((((rN (r8 s)++⟨#[119,104,111,108,101,32]⟩)++t6 (L7.dS s.yard).1.1 (L7.dS s.yard).1.2)++⟨#[10]⟩)++⟨#[115,117,114,101,32]⟩)++rN (itoa (L7.jO s.yard).2.1))++⟨#[10]⟩=rN (mH s):=by
 apply Go.WideShapes.bytes_inj;simp[rN,t6,mH,r9,tU,BA]
variable(hs:lu s)
include hs
theorem j2{sv:Γ}{D:aC}(hS:Sl D RL 1 sv (C1.truths s.row)):Fn prog 13 #[sv,qI 0,qI ((s.row.places.length:Int)-1)] D (λ_ v=>v=.agg #[qI (PB s).1,qI (PB s).2]):=by
 obtain⟨I,O,R,U⟩:=hs.row;rw[Q_ hs];exact L1.aDH _ _ _ _ _ hS I O Yd R U
theorem Fl{rv:Γ}{D:aC}(hr:nS D rv s.row):Fn prog 55 #[rv] D (λ_ v=>v=qI (C1.pF s.row)):=by
 rw[←(WA hs).1];exact Hx _ _ _ hr (hs.good.rowOk hs.ok)
theorem En{sv:Γ}{D:aC}{k:Nat}{x:Int}(hk:k<s.table.levels.length)(hx:s.table.levels[(k:Int).toNat]?= some x)(hS:Sl D RL 1 sv (L2.nI s.table)):Fn prog 57 #[sv,qI x] D (λ_ v=>v=.agg #[qI (I6 s k).1,qI (I6 s k).2]):=by
 have e:s.table.levels.getD (k:Int).toNat 0=x:=by rw[wi,hx];rfl
 rw[Xbz hs hk,e];exact L2.aOR _ _ _ _ hS λt ht=>by have:=((KY hs).2 t ht).1;omega
theorem Yat{sv:Γ}{D:aC}(hS:Sl D RL 1 sv (L2.nI s.table)):Fn prog 58 #[sv,qI 0,qI s.table.last] D (λ_ v=>v=qI (JB s)):=by
 obtain⟨h1,h2⟩:=KY hs;have:=hs.good.last;rw[(Rc hs).1];exact L2.bIF _ _ _ _ _ hS (λt ht=>(h2 t ht).1) Yd h1 λt ht=>GQ (h2 t ht).2 _ _
theorem Hk{bv:Γ}{D:aC}(hb:eT D bv s.book):Fn prog 59 #[bv] D (λD' v=>∃lv,v=.tuple #[lv,.bool (L3.kD 3 s.book (2^s.book.lines.length)).2]∧Sl D' RI 1 lv (L3.cS s.book).1):=by
 obtain⟨I,b2,O,U,V,R,Y⟩:=hs.book;rw[←(gw hs).1];exact L3.aRE _ _ 3 _ hb I Yu b2 (λl hl=>KH (O l hl)) R
theorem aEL{bv sv:Γ}{D:aC}(hne:L3.dB 3 s.book.lines≠[])(hb:eT D bv s.book)(hS:Sl D L3.aYU 1 sv (L3.dB 3 s.book.lines)):Fn prog 16 #[bv,sv,qI (s.book.lines.length:Int)] D (λ_ v=>v=.agg #[qI (jZ s).1,qI (jZ s).2]):=by
 obtain⟨R,b2,I,O,U,V,Y⟩:=hs.book;rw[Xce hs hne];exact L3.aEB _ _ _ _ _ _ hb hS (λt ht=>by have:=xR ((oI I O).1 ht).1;omega) Yd Yd
theorem Yaj{sv:Γ}{D:aC}(hne:L3.dB 3 s.book.lines≠[])(hS:Sl D L3.aYU 1 sv (L3.dB 3 s.book.lines)):Fn prog 60 #[sv] D (λ_ v=>v=.agg #[qI (kK s).1,qI (kK s).2]):=by
 obtain⟨R,b2,I,O,U,V,Y⟩:=hs.book;rw[Xal hs hne];exact L3.bKO _ _ _ hS λt ht=>by have:=xR ((oI I O).1 ht).1;omega
theorem Jt{av nv:Γ}{D:aC}(hA:Sl D RI 1 av (L7.pK s.yard))(hN:Sl D RI 1 nv (L7.BU s.yard)):Fn prog 63 #[av,nv] D (λ_ v=>v=.agg #[qI (L7.dS s.yard).1.1,qI (L7.dS s.yard).1.2]):=by
 rw[←(Pk hs).1];exact L7.aFG _ _ _ _ _ hA hN L7.bLX
theorem aGB{yv nv:Γ}{D:aC}(hy:gZ D yv s.yard)(hN:Sl D RI 1 nv (L7.BU s.yard)):Fn prog 64 #[yv,nv] D (λ_ v=>v=qI (L7.jO s.yard).2.1):=by
 obtain⟨hf,ha⟩:=s7 hs;rw[←(Pm hs).1];exact L7.aPS _ _ _ _ _ hy hN hf λx hx=>by
  obtain⟨k,e,hk⟩:=L7.bLX x hx;have:=L7.ZF hf;exact⟨k,e,Yd⟩
end
theorem Lk(sv:Γ)(s:aO)(D:aC)(hv:iE D sv s)(hs:lu s):Fn prog 18 #[sv] D (λ_ v=>v=.string (rN (mH s))):=by
 obtain⟨pv,cv,hv,lv,mv,bl,bc,yc,yq,rfl,hL⟩:=hv;unfold dY;have hk:=hs.ok;have hg:=hs.good;have hp7:=hk.pl;have O:=Ov hs;have hR:=O.rep hk.lev;have hl6:=hk.lev;obtain⟨b1,b2,b3,b4,b5,b6,b7⟩:=hs.book;have hfy:=(s7 hs).1;have hlt:=hg.last;have y0:(⟨#[99,104,97,105,114,115,32]⟩:Λ).size=7:=rfl;have y1:(⟨#[10]⟩:Λ).size=1:=rfl;have y2:(⟨#[108,101,97,115,116,32]⟩:Λ).size=6:=rfl;have y3:(⟨#[119,101,116,32]⟩:Λ).size=4:=rfl;have y4:(⟨#[100,114,121,32]⟩:Λ).size=4:=rfl;have y5:(⟨#[108,101,97,118,101]⟩:Λ).size=5:=rfl;have y6:(⟨#[32]⟩:Λ).size=1:=rfl;have y7:(⟨#[109,111,110,101,121,32]⟩:Λ).size=6:=rfl;have y8:(⟨#[109,105,120,101,100,32]⟩:Λ).size=6:=rfl;have y9:(⟨#[119,104,111,108,101,32]⟩:Λ).size=6:=rfl;have y10:(⟨#[115,117,114,101,32]⟩:Λ).size=5:=rfl;have z1:=m7 O.ch;have z2:=uA O.le;have z3:=uA O.dry;have z4:=m7 O.mon;have z5:=m7 O.mix;have z6:=m7 O.wh;have z7:=uA O.su;have z8:=UN hR;have z9:=VF hR;rw[←uB]at z8 z9;refine Zx 161 func18 C λh0=>aA<|Zac C λq1 E1 hE1 I=>Zf C<|bX<|pY [] 5 [false,false,true,true,true,true,true,true,true,true,false] [.fork [0,1,3,4,5,6,7] 2 (.fork [] 8 (.fin [9]) 9 (.fin [8])) 9 (.fin [2,8]),.fin [10]] aV (λ_ _ _ h=>eA (P:=prog) (fn:=f18) _ _ _ h) Yg<|BX (γ:=Nat) (λg=>True) (λg=>[(25,.agg #[qI (PB s).1,qI (PB s).2]),(3,qP g),(1,qP q1)]) (λg=>[(g,qC [qI 0,qI 0] 55)]) (λg=>[E1,D]) [.fork [0,1,3,4,5,6,7] 2 (.fork [] 8 (.fin [9]) 9 (.fin [8])) 9 (.fin [2,8])] [.fin [10]] C ?_ ?_
 ·refine uG<|bS [(false,0),(false,1),(true,3),(true,4),(true,5),(true,6),(true,7)] C<|Zj C pN C<|Zaq 0 C H7 wS C I C<|Zj C pN C<|Zj C jG C<|Zh 0 C bW C I C<|Zaj C U35 C (hL.pl.up RI.up (Le.refl _)) C<|Zax C<|Zap (eB true true C C ?_ ?_)
  ·refine Zz C (λD1 R=>L1.DH _ s.row _ (hL.row.up (R _ Yf)) (hg.rowOk hk)) λv1 D1 R hK=>?_;have Y:=hK;refine Zap<|bS [] C<|Zap (eB true true C C ?_ ?_)
   ·refine Zd C (λD2 U=>j2 hs (Y.up RL.up (U _ Yf)))<|Zap<|aY [(true,9)] C<|Zag C G6 C λq2=>Zap ?_;exact λa w hh=>⟨q2,zy,hh.weak cE zp λD0 h=>⟨D0,GT _ (h),Le.refl _⟩⟩
   ·refine Zag C G6 C λq2=>Zap<|aY [(true,8)] C<|Zd C (λD2 U=>j2 hs (Y.up RL.up (U _ Yf)))<|Zap ?_;exact λa w hh=>⟨q2,zy,hh.weak cE zp λD0 h=>⟨D0,GT _ (h),Le.refl _⟩⟩
  ·refine Zag C G6 C λq2=>Zap<|aY [(true,2),(true,8)] C<|Zz C (λD1 R=>L1.DH _ s.row _ (hL.row.up (R _ Yf)) (hg.rowOk hk)) λv1 D1 R hK=>?_;have Y:=hK;refine Zd C (λD2 U=>j2 hs (Y.up RL.up (U _ Yf)))<|Zap ?_;exact λa w hh=>⟨q2,zy,hh.weak cE zp λD0 h=>⟨D0,GT _ (h),Le.refl _⟩⟩
 rintro qx -;dsimp only;refine pC [(false,10)] C<|Zaa C rT ζ<|Zap<|qW<|Za2<|Za6<|fS [] 6 [0,1,2,3,8,9,4,5,6,7,10,11,12,13,14] [false,false,true,true,true,true,true,true,true,true,true,true,false,false,false] [(false,0),(false,1),(true,2),(true,3),(true,8),(true,9),(true,4),(true,5),(true,6),(true,7),(true,10),(true,11),(false,12),(false,13),(false,14)] aV (λ_ _ _ h=>eA (P:=prog) (fn:=f18) _ _ _ h) Yg C<|Zj C WJ C<|Zq C aH C zu C<|Zj C WR C<|Zq C aH C zu C<|Zj C pN C ?_;refine Zaq 0 C H7 wS C I C<|Zd C (λD3 hD3=>Q5 _ _ O.ch _)<|Zaz C<|Zaz C<|Zaz C<|Zd C (λD4 hD4=>Fl hs (hL.row.up (hD4 _ Yf)))<|Zd C (λD5 hD5=>S8 _ O.le.1 O.le.2 _)<|Zaz C<|Zaz C<|Zf C<|aJ<|Zj C kM C ?_;refine Zaq 4 C yY uM C I C<|Zz C (λD6 hS=>L2.K5 _ s.table _ (hL.table.up (hS _ Yf)) (hg.t3 hk)) λv6 D6 hS hp6=>?_;have hX:=hp6;refine Zf C<|bD<|Zf C<|aE<|Za4<|Zo Nat (λk=>s.table.levels.length-k) (λk=>k≤s.table.levels.length) (λk=>[(6,qI (k:Int)),(4,.string (rN (r3 s k)))]) [(5,_),(1,_)] (λk=>[D6,E1,D]) 0 ⟨Ya,(by show some (Value.string _)=some (Value.string _);rw[t2]),zy⟩ ?_
 rintro k h1;refine bL<|Za C<|Zj C kM C<|Zj C sD C<|Zh 7 C bW C I C<|Zaj C U35 C (hL.lev.up RI.up (Le.refl _)) C<|Zal C<|aE<|Zae C (λhc1=>?_) λhc1=>?_
 ·have hkl:k<s.table.levels.length:=Yd
  obtain⟨x,hx⟩:∃x,s.table.levels[(k:Int).toNat]?= some x:=⟨_,yz (by simpa using hkl)⟩
  have zw:=m7 (O.wet k hkl);have zr:=CX hR k h1;rw[←uB]at zr;refine aP<|Za6<|Za4<|aA<|Za C<|Zj C kM C<|Zj C sD C<|Zh 7 C bW C I C<|Za C<|Zy C U35 aI C (hL.lev.up RI.up (Le.refl _)) C hx λb1 o1 cs1 hr1 hcl1 hA1=>?_;obtain rfl:cs1=[qI _]:=hr1;refine Zh 0 C aH C hA1 C<|Zd C (λD7 hD7=>En hs hkl hx (hX.up RL.up (hD7 _ Yf)))<|Zag C lC C λq3=>Zaa C fD ζ<|aE<|aM<|Za C<|Zj C wE C<|Zq C aH C zu C<|Zj C C5 C<|Zq C aH C zu C<|Zd C (λD8 hD8=>Q5 _ _ (O.wet k hkl) _) ?_;refine Zaz C<|Zaz C<|Zaz C<|Wp ?_;exact Zl 30 (k+1) ⟨Ya,(by show some (Value.string _)=some (Value.string _);rw[t3]),zy⟩ C (On _ zp)
 ·obtain rfl:k=s.table.levels.length:=Yd
  have zr:=CX hR s.table.levels.length (zk _);rw[←uB]at zr;refine Za9<|Za5<|Za5<|Zba<|Za2<|aA<|Za C<|Za C<|Zj C kM C<|Zj C AQ C<|Zh 4 C aH C I C<|Zd C (λD9 hD9=>Yat hs (hX.up RL.up (hD9 _ Yf))) ?_;refine Zd C (λD10 hD10=>S8 _ O.dry.1 O.dry.2 _)<|Zaz C<|Zaz C<|Zaz C<|Zaz C<|Zf C<|aJ<|Zj C sF C<|Zaq 9 C mE jX C I C<|Zz C (λhO hB=>Hk hs (hL.book.up (hB _ Yf))) λv11 hO hB hY=>?_;obtain⟨lv3,rfl,hP⟩:=hY;have hlvn:=O.lvn;refine Za C<|Zar C<|Zar C<|Zf C<|Zf C<|bD<|Zf C<|aE<|Za4<|Zo Nat (λk=>(L3.cS s.book).1.length-k) (λk=>k≤(L3.cS s.book).1.length) (λk=>[(10,qI (k:Int)),(4,.string (rN (r6 s k)))]) [(8,_),(1,_)] (λk=>[hO,D6,E1,D]) 0 ⟨Ya,(by show some (Value.string _)=some (Value.string _);rw[t5]),zy⟩ ?_
  rintro k h1;refine bL<|Za C<|Za C<|Zaj C U35 C hP C<|Zal C<|aE<|Zae C (λhc2=>?_) λhc2=>?_
  ·obtain⟨x,hx⟩:∃x,(L3.cS s.book).1[k]?= some x:=⟨_,yz Yd⟩
   have zx:=uA (O.lv x (GE hx));have zr:=LO hR k;rw[←uB]at zr;refine aP<|Za6<|Za4<|aM<|Za C<|Za C<|Za C<|gH C hP C hx λb2 o2=>Zd C (λD12 hD12=>S8 _ (O.lv x (GE hx)).1 (O.lv x (GE hx)).2 _)<|Zaz C<|Zaz C<|Zf C ?_;refine Zap<|Wa ?_;exact Zl 18 (k+1) ⟨Ya,(by show some (Value.string _)=some (Value.string _);rw[Waa hx]),zy⟩ C zp
  ·obtain rfl:k=(L3.cS s.book).1.length:=Yd
   have zr:=LO hR (L3.cS s.book).1.length;rw[←uB]at zr;refine Za9<|Za5<|Za5<|Zba<|Za2<|aA<|Za C<|Zaz C<|Zf C<|aE<|RQ (γ:=Unit) (λ_=>True) (λ_=>[(4,.string (rN (r8 s))),(1,qP q1)]) (λ_=>[]) (λ_=>[hO,D6,E1,D]) ?_ ?_
   ·refine aA<|Za C<|Zaj C U35 C hP C<|Zas C<|aE<|Zae C (λhc3=>?_) (λhc3=>?_)
    ·have Z:(L3.cS s.book).1=[]:=sc Yd;have hne:=(gw hs).2.2.2 Z;rw[t7];refine aA<|Zj C sF C<|Zaq 9 C mE jX C I C<|Zz C (λD13 hE=>L3.K5 _ s.book 3 _ (hL.book.up (hE _ Yf)) b1 Yu b2 (λl hl=>KH (b3 l hl)) Yd) λv13 D13 hE rA=>?_;have rB:=rA;refine Zf C<|aJ<|Zj C sF C<|Zaq 9 C mE jX C I C<|Za C<|Zj C sF C<|Zj C eK C<|Zh 12 C kG C I C<|Zaj C U43 C (hL.ln.up jQ.up (Le.refl _)) C<|Zd C (λD14 hF=>aEL hs hne (hL.book.up (hF _ Yf)) (rB.up L3.aYU.up (hF _ Yf)))<|Za C<|Zd C (λD15 hD15=>Yaj hs hne (rB.up L3.aYU.up (hD15 _ Yf))) ?_;refine Zag C zB C λq4=>Zag C zB C λq5=>Zaa C kJ (.tail ζ)<|Zaa C kJ ζ<|aE<|fS [] 6 [0,1,2,3,4,9,10,11,12,5,6,7,8,13,14,15,16,17] [false,true,true,true,true,true,true,true,true,true,true,true,true,true,true,true,false,false] [(false,0),(true,1),(true,2),(true,3),(true,4),(true,9),(true,10),(true,11),(true,12),(true,5),(true,6),(true,7),(true,8),(true,13),(true,14),(true,15),(false,16),(false,17)] aV (λ_ _ _ h=>eA (P:=prog) (fn:=f18) _ _ _ h) Yg C<|Za C<|Zj C HE C<|Zq C aH C zi C<|Zj C LH C<|Zq C aH C zi C<|Zj C HE C ?_;refine Zq C aH C zu C<|Zj C LH C<|Zq C aH C zu C<|Zd C (λD16 hD16=>Q5 _ _ O.mon _)<|Zaz C<|Zaz C<|Zaz C<|Zd C (λD17 hD17=>Q5 _ _ O.mix _)<|Zaz C<|Zaz C<|Zaz C<|Zf C ?_;refine Zap<|yD ?_;exact λa w hh=>⟨(),zy,hh.weak ⟨(by show some (Value.string _)=some (Value.string _);rw[Mm5 Z]),C,zy⟩ (List.nil_sublist _) λD0 h=>⟨D0,GT _ (h),Le.refl _⟩⟩
    ·have Z:(L3.cS s.book).1≠[]:=λe=>hc3 qy
     rw[t7];refine bE<|yD ?_;exact λa w hh=>⟨(),zy,hh.weak ⟨(by show some (Value.string _)=some (Value.string _);rw[Pf Z]),C,zy⟩ (List.nil_sublist _) λD0 h=>⟨D0,h,Le.refl _⟩⟩
   rintro _ -;refine aA<|Zj C lZ C<|Zaq 14 C jU jB C I C<|Zz C (λD18 hH=>L7.LF _ s.yard _ (hL.yard.up (hH _ Yf)) hfy) λv18 D18 hH hp18=>?_;have hA:=hp18;refine Zf C<|aJ<|Zj C lZ C<|Zaq 14 C jU jB C I C<|Za C<|Zz C (λD19 V=>L7.aGH _ _ s.yard (L7.pK s.yard) _ (hL.yard.up (V _ Yf)) (hA.up RI.up (V _ Yf)) hfy (by have:=L7.ZF hfy;omega)) λv19 D19 V hp19=>?_
   have hN:Sl D19 RI 1 v19 (L7.BU s.yard):=hp19;refine Zf C<|aJ<|Za C<|Za C<|Zd C (λD20 hI=>Jt hs (hA.up RI.up (hI _ Yf)) (hN.up RI.up (hI _ Yf)))<|Zag C vN C λq6=>Zaa C mG ζ<|bX<|fS [] 6 [0,1,2,3,4,5,10,11,12,6,7,8,9,13,14,15,16,17] [false,false,true,true,true,true,true,true,true,true,true,true,true,true,true,false,false,false] [(false,0),(false,1),(true,2),(true,3),(true,4),(true,5),(true,10),(true,11),(true,12),(true,6),(true,7),(true,8),(true,9),(true,13),(true,14),(false,15),(false,16),(false,17)] aV (λ_ _ _ h=>eA (P:=prog) (fn:=f18) _ _ _ h) Yg C<|Za C<|Zaz C<|Zj C DO C ?_;refine Zq C aH C zu C<|Zj C CP C<|Zq C aH C zu C<|Zj C lZ C<|Zaq 14 C jU jB C I C<|Za C<|Zd C (λD21 hD21=>Q5 _ _ O.wh _)<|Zaz C<|Zaz C<|Zaz C<|Zd C (λD22 hJ=>aGB hs (hL.yard.up (hJ _ Yf)) (hN.up RI.up (hJ _ Yf)))<|Zd C (λD23 hD23=>S8 _ O.su.1 O.su.2 _) ?_;refine Zaz C<|Zaz C<|Wd ?_;exact aD C λD hD=>by show Value.string _=_;rw[t9]
theorem Xag{ls:List Λ}(h:fV ls≠0):vG ls=([],fV ls):=by unfold vG;rw[tQ h,zv h]
theorem aAZ{ls:List Λ}(h:fV ls=0):vG ls=(mH (nJ ls).1,0):=by unfold vG;rw[qV h];exact zo C
theorem Xco{ls:List Λ}(h:(aR ls).2.2=0):WM (aR ls).1:=by
 by_cases hf:fV ls=0
 ·rw[qV hf];exact(Ov (Xf ls)).rep (T2 ls).lev
 ·rw[tQ hf]at h;exact absurd h hf
theorem KX(lv:Γ)(ls:List Λ)(D:aC)(hS:Sl D RS 1 lv ls)(hV:rK D):Fn prog 4 #[lv] D (λ_ v=>v=.bool true):=by
 have hsl:=hS.len;refine Zx 53 func4 C λh0=>aA<|Zf C<|bD<|Za C<|Zd C (λD1 hB=>Kf _ ls _ (hS.up RS.up (hB _ Yf)))<|si ?_;refine' dU 4 (s:=11) (p:=15) C (λO=>?_) (λO=>?_) ?_;rotate_left
 ·obtain⟨hE,I⟩:=U8.1 (show ID ls=true by simpa using O);refine Zb C<|Ze C (λD2 hF=>Np _ ls _ (hS.up RS.up (hF _ Yf)) Yd λx hx=>by have:=I x hx;omega)<|vp ?_
  exact aQ 3
 ·refine mx ?_;exact aQ 3
 refine aE<|Zai C (λhc1=>?_) λhc1=>?_
 ·refine aA<|Zd C (λD3 hH=>IT _ (hV.up (hH _ Yf)))<|Wi ?_;exact aD C λD hD=>C
 ·obtain⟨hE,I⟩:=U8.1 (show ID ls=true by have h9:=hc1;simp only[xn,ry]at h9;exact h9.1);refine aP<|aA<|Za C<|Zz C (λD4 R=>Em _ ls _ (hS.up RS.up (R _ Yf)) Yd) λv4 D4 R hI=>?_;have hq:=hI;refine Zd C (λD5 U=>OQ _ ls _ (hq.up RS.up (U _ Yf)) (hV.up (U _ Yf)) Xco)<|Za C<|Zar C<|Zar C<|Zf C<|Zf C<|bD<|Za C<|Zd C (λD6 hJ=>Nf _ ls _ (hS.up RS.up (hJ _ Yf)))<|Zf C<|aJ<|Za C ?_;refine Za0 C<|aE<|Zae C (λhc2=>?_) (λhc2=>?_)
  ·refine aA<|Za C<|Za C<|ud ?_;refine' bU 3 (s:=30) (p:=33) C (λhK=>?_) (λhK=>?_) ?_;rotate_left
   ·refine Zb C<|ld ?_;exact aQ 2
   ·refine ru ?_;exact aQ 2
   refine Za C ?_;refine' bU 2 (s:=34) (p:=36) C (λhN=>?_) (λhN=>?_) ?_;rotate_left
   ·refine Ze C (λD7 hO=>IT _ (hV.up (hO _ Yf)))<|Zam C ?_;exact aQ 1
   ·refine Zg C<|Zan C ?_;exact aQ 1
   refine Wi ?_;exact aD C λD hD=>zn Value.bool (by rw[Xag hc2];simp[rN])
  ·have hP:fV ls=0:=qk.1 hc2;refine aP<|aA<|Za C<|Zz C (λD8 V=>aHH _ ls _ (hS.up RS.up (V _ Yf)) Yd λx hx=>by have:=I x hx;omega) (λv8 D8 V hR=>?_)
   obtain⟨u1,u2,rfl,⟨hX,hY,rA,rB,mv2,bl2,bc2,yc2,yq2,rfl,Y⟩,hes2⟩:=hR;unfold dY;refine Za C<|Zar C<|Zar C<|Zag C R5 C λq1=>Zab C hG ζ (gO Y)<|Zf C<|aJ<|Za C<|ud ?_;refine' bU 5 (s:=44) (p:=49) C (λhg4=>?_) (λhg4=>?_) ?_;rotate_left
   ·refine Zb C<|bN C nF C zu hG n4 C ⟨_,C,C⟩<|Ze C (λD9 hD9=>Lk _ (nJ ls).1 _ ⟨hX,hY,rA,rB,mv2,bl2,bc2,yc2,yq2,C,Y.up (hD9 _ Yf)⟩ (Xf ls))<|ld ?_;exact aQ 4
   ·refine vw ?_;exact aQ 4
   refine Za C ?_;refine' bU 2 (s:=50) (p:=52) C (λhg5=>?_) (λhg5=>?_) ?_;rotate_left
   ·refine Ze C (λD10 Z=>IT _ (hV.up (Z _ Yf)))<|Zam C ?_;exact aQ 1
   ·refine Zg C<|Zan C ?_;exact aQ 1
   refine Wd ?_;exact aD C λD hD=>zn Value.bool (by rw[aAZ hP];simp)
end L12
end Go.Fs
