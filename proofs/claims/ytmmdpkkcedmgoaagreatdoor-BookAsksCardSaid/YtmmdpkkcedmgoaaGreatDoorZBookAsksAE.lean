/- Of BookAsks. -/
import Derived.Test.YtmmdpkkcedmgoaaGreatDoorZBookAsksAD
namespace Go.Fs
open Go.Proofs Tryz
namespace L3
open L1
open C3
def bEU(_n:Nat)(l:cB)(k j:Nat)(i:Nat):List cB:=((List.range i).map fun t:Nat=>(⟨1+(k:Int),(j:Int),(t:Int)⟩:cB)).filter (tX l)
def bEZ(n:Nat)(l:cB)(k:Nat)(j:Nat):List cB:=(List.range j).flatMap fun c=>bEU n l k c n
def xW(n:Nat)(l:cB)(k:Nat):List cB:=(List.range k).flatMap fun a=>bEZ n l a n
def aSQ(n:Nat)(l:cB)(k j:Nat):List cB:=xW n l k++bEZ n l k j
def WB(n:Nat)(l:cB)(k j i:Nat):List cB:=aSQ n l k j++bEU n l k j i
theorem aOA{n:Nat}{l:cB}{k:Nat}:aSQ n l k 0=xW n l k:=by unfold aSQ bEZ;simp
theorem aUI{n:Nat}{l:cB}{k j:Nat}:WB n l k j 0=aSQ n l k j:=by unfold WB bEU;simp
theorem aXN{n:Nat}{l:cB}{k:Nat}:aSQ n l k n=xW n l (k+1):=by unfold aSQ xW;rw[bND,bMZ,bOE]
theorem aYO{n:Nat}{l:cB}{k j:Nat}:WB n l k j n=aSQ n l k (j+1):=by unfold WB aSQ bEZ;rw[bND,bMZ,bOE,bMC]
theorem bCF{n:Nat}{l:cB}{k j i:Nat}(h:tX l ⟨1+(k:Int),(j:Int),(i:Int)⟩=true):WB n l k j (i+1)=WB n l k j i++[⟨1+(k:Int),(j:Int),(i:Int)⟩]:=by
 unfold WB bEU;rw[bND,bME,bMY,bPA,bOA,bMG h,bMC];rfl
theorem bHX{n:Nat}{l:cB}{k j i:Nat}(h:tX l ⟨1+(k:Int),(j:Int),(i:Int)⟩=false):WB n l k j (i+1)=WB n l k j i:=by
 unfold WB bEU;rw[bND,bME,bMY,bPA,bOA,bLX Ybh];simp
theorem aBP{n:Nat}{l:cB}{k j i:Nat}:(bEU n l k j i).length≤i:=by
 unfold bEU;have:=bNF (tX l) ((List.range i).map fun t:Nat=>(⟨1+(k:Int),(j:Int),(t:Int)⟩:cB));simpa using this
theorem aBJ{n:Nat}{l:cB}{k j:Nat}:(bEZ n l k j).length≤j*n:=by
 unfold bEZ;have:=jW (m:=n) (f:=fun c=>bEU n l k c n) (List.range j) fun c _=>aBP
 simpa using this
theorem CK{n:Nat}{l:cB}{k:Nat}(h4:n≤4):(xW n l k).length≤k*16:=by
 unfold xW;have:=jW (m:=16) (f:=fun a=>bEZ n l a n) (List.range k) fun a _=>by
  have:=aBJ (n:=n) (l:=l) (k:=a) (j:=n);have:n*n≤4*4:=bQJ h4 h4;omega
 simpa using this
theorem aZK{n:Nat}{l:cB}{k j i:Nat}(h4:n≤4)(hk:k≤2)(hj:j≤n)(hi:i≤n):(WB n l k j i).length≤60:=by
 unfold WB aSQ;rw[bLT,bLT];have h1:=CK (n:=n) (l:=l) (k:=k) h4;have h2:=aBJ (n:=n) (l:=l) (k:=k) (j:=j);have h3:=aBP (n:=n) (l:=l) (k:=k) (j:=j) (i:=i);have:j*n≤4*4:=bQJ Yd h4;omega
theorem d4(bv:Γ)(b:bA)(l:cB)(n:Nat)(D:aC)(hb:gD D bv b)(hn:b.chairs=(n:Int))(h4:n≤4):Fn prog 86 #[bv,GJ l] D (fun D' v=>Sl D' kE 3 v (xW n l 2)):=by
 obtain⟨lv,cv,rfl,hl,hc⟩:=hb;refine Zw 39 func86 rfl fun h0=>aA<|Zy rfl fun q1 E1 hI U=>Zy rfl fun q2 V hJ Y=>Zf rfl<|aJ<|Zf rfl<|bG<|Zf rfl<|aF<|Za0<|Zc (Nat×Γ×aD) (fun g=>2-g.1) (fun g=>g.1≤2∧bM 184 3 g.2.1 (xW n l g.1).length (uC (xW n l g.1)) g.2.2) (fun g=>[(5,g.2.1),(6,qI (1+(g.1:Int)))]) [(4,_),(3,_),(2,_)] (fun g=>g.2.2++[]) (fun g=>[V,E1,D]) (0,qN,[]) ⟨Yf,bM.nil⟩ ⟨Ya,Ya,bRD⟩ Mm5 ?_;rintro⟨k,v,ν⟩ ⟨h1,I⟩;simp only at h1 I;refine bZ<|Za rfl<|gX rfl rfl rfl rfl bRD<|aF<|Zaf rfl (fun hc1=>?_) fun hc1=>?_
 ·simp only at hc1;refine aQ<|Za2<|Za0<|aA<|Zf rfl<|aF<|Za0<|Zc (Nat×Γ×aD) (fun g=>n-g.1) (fun g=>g.1≤n∧bM 184 3 g.2.1 (aSQ n l k g.1).length (uC (aSQ n l k g.1)) g.2.2) (fun g=>[(5,g.2.1),(7,qI (g.1:Int))]) [(10,_),(9,_),(6,_),(4,_),(3,_),(2,_)] (fun g=>g.2.2++[]) (fun g=>[V,E1,D]) (0,v,ν) ⟨Yf,by rw[aOA];exact I⟩ ⟨Ya,Ya,bRD⟩ Mm5 ?_
  rintro⟨j,w,ν2⟩ ⟨h2,haJ⟩;simp only at h2 haJ;refine bZ<|Za rfl<|Zj rfl VB rfl<|Zh 0 rfl aH rfl U rfl<|Zam rfl<|aF<|Zaf rfl (fun hc2=>?_) fun hc2=>?_
  ·simp only at hc2;refine aQ<|Za2<|Za0<|aA<|Zf rfl<|aF<|Za0<|Zc (Nat×Γ×aD) (fun g=>n-g.1) (fun g=>g.1≤n∧bM 184 3 g.2.1 (WB n l k j g.1).length (uC (WB n l k j g.1)) g.2.2) (fun g=>[(5,g.2.1),(8,qI (g.1:Int))]) [(16,_),(15,_),(14,_),(13,_),(7,_),(10,_),(9,_),(6,_),(4,_),(3,_),(2,_)] (fun g=>g.2.2++[]) (fun g=>[V,E1,D]) (0,w,ν2) ⟨Yf,by rw[aUI];exact haJ⟩ ⟨Ya,Ya,bRD⟩ Mm5 ?_
   rintro⟨i,u,ν3⟩ ⟨h3,haI⟩;simp only at h3 haI;refine bZ<|Za rfl<|Zj rfl VB rfl<|Zh 0 rfl aH rfl U rfl<|Zam rfl<|aF<|Zaf rfl (fun hc3=>?_) fun hc3=>?_
   ·simp only at hc3;refine aQ<|Za2<|Za0<|aA<|Zv rfl DJ rfl Y eQ<|Za rfl<|Za rfl<|Za rfl<|Zu [qI (1+(k:Int)),qI (j:Int),qI (i:Int)] rfl CI nP rfl<|Zd rfl (fun D1 hK=>XA l (⟨1+(k:Int),(j:Int),(i:Int)⟩:cB) _)<|aF<|Zag rfl (fun O=>?_) (fun O=>?_)
    ·have hag:tX l (⟨1+(k:Int),(j:Int),(i:Int)⟩:cB)=true:=O;refine aP<|Za rfl<|Za rfl<|Za rfl<|Za rfl<|Zu [qI (1+(k:Int)),qI (j:Int),qI (i:Int)] rfl CI nP rfl<|Zt rfl U43 eQ nP rfl (.cons rfl rfl .nil) fun hH D901 Z R=>?_;have hli:=aZK (n:=n) (l:=l) (k:=k) (j:=j) (i:=i) Yd Yd Yd Yd;refine aU (A:=[]) (B:=[]) rfl U43 rfl rfl eQ nP rfl a7 rfl rfl rfl haI (lD.lit R) Yf rfl (Y9 _) Yk Yd (bMF rfl) rfl bRD fun v7 ν7 hB=>?_;have hE:bM 184 3 v7 (WB n l k j (i+1)).length (uC (WB n l k j (i+1))) ν7:=by rw[bCF hag];simpa [uC]using hB
     refine Wt ?_;exact aL 23 (i+1,v7,ν7) ⟨Yn,hE⟩ Yn ⟨Ya,Ya,bRD⟩ rfl rfl Mm5 fun D h=>⟨D,bMJ _ (h),Le.refl D⟩
    ·have hag:tX l (⟨1+(k:Int),(j:Int),(i:Int)⟩:cB)=false:=O;refine Wbs ?_;exact aL 15 (i+1,u,ν3) ⟨Yn,by simp only;rw[bHX hag];exact haI⟩ Yn ⟨Ya,Ya,bRD⟩ rfl rfl Mm5 (aK)
   ·have hi:i=n:=by simp only at hc3;omega
    rw[hi,aYO]at haI;refine Wbn ?_;exact aL 14 (j+1,u,ν3) ⟨Yn,haI⟩ Yn ⟨Ya,Ya,bRD⟩ rfl rfl Mm5 (aK)
  ·have hj:j=n:=by simp only at hc2;omega
   rw[hj,aXN]at haJ;refine Wbn ?_;exact aL 12 (k+1,w,ν2) ⟨Yn,haJ⟩ Yn ⟨rfl,(by first|rfl|(show some (Value.int _ _)=some (Value.int _ _);congr 2;push_cast;omega)),bRD⟩ rfl rfl Mm5 (aK)
 ·have hk:k=2:=by simp only at hc1;omega
  rw[hk]at I;refine Za5<|Za1<|Za1<|Za6<|Zay<|aA<|Za rfl<|Zf rfl<|aG<|dU (A:=[]) (B:=[]) I rfl fun D2 hN hF=>?_;exact aE rfl fun D hD=>(hF.lins rfl (by have:=CK (l:=l) (k:=2) h4;omega)).up kE.up (hD _ Yf)
def oE(n:Nat)(ls:List cB):Int:=ls.foldl (fun(m:Int) l=>min 5000 (m*((xW n l 2).length:Int))) 1
theorem ZJ{n:Nat}{ls:List cB}{i:Nat}{x:cB}(hx:ls[i]?= some x):oE n (ls.take (i+1))=min 5000 (oE n (ls.take i)*((xW n x 2).length:Int)):=by
 unfold oE;rw[bLW,hx,bMR,bNM];rfl
theorem UA(n:Nat)(ls:List cB):0≤oE n ls∧oE n ls≤5000:=by
 unfold oE;have key:∀(l:List cB) (m:Int),0≤m∧m≤5000→0≤l.foldl (fun(m:Int) l=>min 5000 (m*((xW n l 2).length:Int))) m∧l.foldl (fun(m:Int) l=>min 5000 (m*((xW n l 2).length:Int))) m≤5000:=by
  intro l;induction l with
  |nil=>intro m h;exact h
  |cons x l ih=>
   intro m h;rw[bMO];refine ih _ ⟨?_,Yd⟩;have:0≤m*((xW n x 2).length:Int):=bRA h.1 Yd;omega
 exact key ls 1 Yd
theorem bAW{m:Int}{k:Nat}(h:0≤m∧m≤5000)(hk:k≤2*16):tQ .i64 (m*(k:Int)):=by
 have h1:0≤m*(k:Int):=bRA h.1 Yd;have h2:m*(k:Int)≤5000*32:=Int.mul_le_mul h.2 Yd Yd Yd;simp only[tQ];omega
theorem yV(bv:Γ)(b:bA)(n:Nat)(D:aC)(hb:gD D bv b)(hn:b.chairs=(n:Int))(h4:n≤4):Fn prog 34 #[bv] D (fun _ v=>v=qI (oE n b.lines)):=by
 have R:=hb;obtain⟨lv,cv,rfl,hl,hc⟩:=hb;have hll:=hl.len;refine Zw 24 func34 rfl fun h0=>aA<|Zy rfl fun q1 E1 hE I=>Zf rfl<|aJ<|Zf rfl<|bG<|Zf rfl<|aF<|Za0<|bK (γ:=Nat) (fun k=>b.lines.length-k) (fun k=>k≤b.lines.length) (fun k=>[(4,qI (k:Int)),(3,qI (oE n (b.lines.take k)))]) [(2,_),(1,_)] (fun k=>[E1,D]) 0 Yd ⟨Ya,Ya,bRD⟩ bQ (aK) ?_;rintro k h1;refine bZ<|Za rfl<|Zj rfl gF rfl<|Zh 3 rfl nB rfl I rfl<|Zah rfl U43 rfl hl rfl<|Zam rfl<|aF<|Zaf rfl (fun hc1=>?_) fun hc1=>?_
 ·have hk:k<b.lines.length:=by omega
  obtain⟨x,hx⟩:=cR b.lines k;refine aQ<|Za2<|Za0<|bS [] 7 12 510<|Za rfl<|Zv rfl zU rfl I vH<|Zj rfl gF rfl<|Zh 3 rfl nB rfl I rfl<|Za rfl<|Zx rfl U43 eQ rfl hl rfl hx fun b1 o1 U V hB Y=>?_;obtain rfl:U=[qI _,qI _,qI _]:=V;refine Zv rfl DJ rfl Y eQ<|Zaa rfl (fun D1 O=>d4 _ b x n _ (R.up (O _ Yf)) hn h4) fun v1 D1 O Z=>?_;have hr:=Z;have hrl:=CK (l:=x) (k:=2) h4;have hmk:=UA n (b.lines.take k);refine Zah rfl U43 rfl hr rfl<|BT rfl rfl rfl (bAW hmk hrl) rfl bRD<|y7 rfl rfl rfl rfl bRD<|Wt ?_;exact aL 22 (k+1) Yd Yd ⟨Ya,(by rw[ZJ hx];rfl),bRD⟩ rfl rfl Mm5 fun D h=>⟨D,bMJ _ (h),Le.refl D⟩
 ·obtain rfl:k=b.lines.length:=by omega
  rw[bMP];refine Wl ?_;exact aE rfl fun D hD=>rfl
end L3
open Go.Proofs
namespace L3
open L1
open C3
theorem m1{l:List Int}{i k:Nat}{x:Int}(hk:k<l.length):(l.set k x).getD i 0=if k=i then x else l.getD i 0:=by
 rw[bNR,List.getElem?_set,bNR];by_cases e:k=i
 ·subst e;rw[bMG rfl,bMG rfl,bMG hk];rfl
 ·rw[bLX e,bLX e]
theorem bIP{b:bA}{t:List cB}(hin:∀l∈t,JT 4 l):∀k,k≤t.length→
  (∀i:Nat,i<4→(p4 b t k).ch.getD i 0=p5 cB.chair t i k+1)∧(∀i:Nat,i<4→(p4 b t k).tk.getD i 0=p5 cB.token t i k+1)∧(p4 b t k).money=mL b t k
 |0,_=>by
  refine⟨fun i hi=>?_,fun i hi=>?_,rfl⟩
  ·have:i=0∨i=1∨i=2∨i=3:=by omega
   rcases this with rfl|rfl|rfl|rfl<;>rfl
  ·have:i=0∨i=1∨i=2∨i=3:=by omega
   rcases this with rfl|rfl|rfl|rfl<;>rfl
 |k+1,hk=>by
  obtain⟨h1,h2,h3⟩:=bIP (b:=b) hin k Yd;obtain⟨h4,h5⟩:=aNW b t k;obtain⟨x,hx⟩:=cR t k;obtain⟨g0,g1,g2,g3,g4⟩:=hin x (n5 hx);have hc:x.chair.toNat<(p4 b t k).ch.length:=by omega
  have ht:x.token.toNat<(p4 b t k).tk.length:=by omega
  rw[←aRW hx];by_cases e:x.kind=2
  ·have I:¬x.kind=1:=by omega
   unfold eM;rw[bMG e];refine⟨fun i hi=>?_,fun i hi=>?_,?_⟩
   ·simp only;rw[m1 hc];by_cases hi':x.chair=(i:Int)
    ·rw[bMG Yd,CV hx hi' I];rfl
    ·rw[bLX Yd,zA hx hi'];exact h1 i hi
   ·simp only;rw[m1 ht];by_cases hi':x.token=(i:Int)
    ·rw[bMG Yd,CV hx hi' I];rfl
    ·rw[bLX Yd,zA hx hi'];exact h2 i hi
   ·simp only;rw[aCY hx I,h3]
  ·have I:x.kind=1:=by omega
   unfold eM;rw[bLX e];refine⟨fun i hi=>?_,fun i hi=>?_,?_⟩
   ·simp only;rw[m1 hc];by_cases hi':x.chair=(i:Int)
    ·rw[bMG Yd,aFQ hx hi' I]
    ·rw[bLX Yd,zA hx hi'];exact h1 i hi
   ·simp only;rw[m1 ht];by_cases hi':x.token=(i:Int)
    ·rw[bMG Yd,aFQ hx hi' I]
    ·rw[bLX Yd,zA hx hi'];exact h2 i hi
   ·simp only;rw[aBH hx I,h3]
theorem aBA(f:cB→Int)(t:List cB)(c:Int):∀k, -1≤p5 f t c k
 |0=>by simp[p5]
 |k+1=>by
  have:=aBA f t c k;rw[p5];split
  ·split
   ·split<;>omega
   ·omega
  ·omega
theorem aMU{b:bA}{t:List cB}(hin:∀l∈t,JT 4 l){k:Nat}{x:cB}(hx:t[k]?= some x):jZ (p4 b t k) x=KT t k:=by
 have hk:=(bLS.1 hx).1;obtain⟨h1,h2,_⟩:=bIP (b:=b) hin k Yd;obtain⟨g0,g1,g2,g3,g4⟩:=hin x (n5 hx);have I:=h1 x.chair.toNat Yd;have O:=h2 x.token.toNat Yd;rw[show((x.chair.toNat:Nat):Int)=x.chair by omega]at I;rw[show((x.token.toNat:Nat):Int)=x.token by omega]at O;have R:=aBA cB.chair t x.chair k;have U:=aBA cB.token t x.token k;unfold jZ KT oC;rw[hx,I,O];simp only;congr 2
 ·exact decide_eq_decide.2 Yd
 ·exact decide_eq_decide.2 Yd
section
variable{P:Program}{X:Cx}{Q:Exit→Act→Δ→Prop}{σ:bX}{μ:aD}{Ds:List aC}
theorem aXC{c:Code}{μ':aD}(n:Nat)(he:μ.drop n=μ')(h:WC P X Q c σ μ' Ds):WC P X Q c σ μ Ds:=fun a w hh=>by
 subst he;exact h a w (hh.dropBoxes n)
end
def sC(bh bs bl bo blo bY br n:Nat)(c:List Sc)(cl:List Int):aD:=[(bh,qC [.func (.func 211) #[] #[qP br,qP bs,qP bl,qP bY,qP bh]] 201),(bs,qC [qS bo (n+1) (n+1)] 256),(bl,qC [qS blo n n] 80),(bo,qC (gN c) 161),(blo,qC (ints cl) 298)]
theorem X4{bh bs bl bo blo bY br n:Nat}{c:List Sc}{cl:List Int}:(bo,Obj.cells (gN c).toArray 161 (0,0))∈sC bh bs bl bo blo bY br n c cl:=bMJ _ Mm2
def aDN(n bo:Nat)(vs:List Γ):Prop:=∃blo,vs=[qS blo n n,qS bo (n+1) (n+1)]
def aXZ{α:Type}(P:Program)(Dr:aC)(lo l:Nat)(J Jx:List α→vZ)(xs:List α)(enc:Nat→List Γ→Prop)(cells:α→List Γ):Prop:=∀pre x β D w bo vs,(∃r,xs=pre++x::r)→I4 lo D w→J pre β D w→(∀b∈β,b<w.heap.size)→Le Dr D→enc bo vs→JX β D w bo (cells x)→
   jG P l vs w fun b D' w'=>I4 lo D' w'∧M7 β D w D' w'∧(if b then J (pre++[x]) β D' w' else Jx (pre++[x]) β D' w')
def T5(c:List Sc):Prop:=∀s∈c,(rD s).length=10
theorem T5.set{c:List Sc}{s:Sc}(h:T5 c)(hs:(rD s).length=10)(i:Nat):T5 (c.set i s):=fun u hu=>by
 rcases List.mem_or_eq_of_mem_set hu with hu|rfl
 ·exact h u hu
 ·exact hs
theorem aPR{c:List Sc}(h:T5 c):(gN c).length=c.length*10:=by
 induction c with
 |nil=>rfl
 |cons u c ih=>
  have:=ih fun s hs=>h s (LE _ hs)
  rw[show gN (u::c)=ints (rD u)++gN c from rfl,bLT,aM,h u bLP,this,bLU];omega
theorem aVI{c:List Sc}(h:T5 c){i:Nat}{s:Sc}(hs:(rD s).length=10)(hi:i<c.length):(gN c).take (i*10)++ints (rD s)++(gN c).drop (i*10+(ints (rD s)).length)=gN (c.set i s):=by
 rw[aM,hs];induction c generalizing i with
 |nil=>simp at hi
 |cons u c ih=>
  have hu:(ints (rD u)).length=10:=by rw[aM,h u bLP]
  have e:gN (u::c)=ints (rD u)++gN c:=rfl;rw[e];cases i with
  |zero=>
   rw[List.set_cons_zero,show gN (s::c)=ints (rD s)++gN c from rfl,bPY,List.take_zero,bMW,bOM,bPZ,bNK Yd,bMW,hu];simp
  |succ i=>
   rw[List.set_cons_succ,show gN (u::c.set i s)=ints (rD u)++gN (c.set i s)from rfl,←ih (fun t ht=>h t (LE _ ht)) Yas];rw[List.take_append,bMV Yd,hu,bPZ,bNK Yd,bMW,hu,show(i+1)*10-10=i*10 by omega,show(i+1)*10+10-10=i*10+10 by omega];simp
def aVU:Sc:=⟨[0,0,0,0],[0,0,0,0],0,0⟩
theorem aYQ(n:Nat):ints (List.replicate (n*10) 0)=gN (List.replicate n aVU):=by
 induction n with
 |zero=>rfl
 |succ n ih=>rw[List.replicate_succ,show gN (aVU::List.replicate n aVU)=ints (rD aVU)++gN (List.replicate n aVU)from rfl,←ih,show(n+1)*10=10+n*10 by omega,←List.replicate_append_replicate,eV];rfl
def wr(l:List Int)(k:Nat)(us:List Int):List Int:=l.take k++us++l.drop (k+us.length)
theorem bGY{l us:List Int}{k:Nat}(h:k+us.length≤l.length):(wr l k us).length=l.length:=by unfold wr;simp;omega
theorem aWV{l us:List Int}{k:Nat}:(ints l).take k++ints us++(ints l).drop (k+(ints us).length)=ints (wr l k us):=by
 unfold wr ints;simp
def vM(b:bA)(i:Nat)(s:Sc):List (List Sc):=(tL b (b.lines.drop i) i s).map (·.2)
def aFA(b:bA)(i:Nat)(s:Sc)(z:cB)(pre:List Sc)(k:Nat):List (List Sc):=((cK b.chairs z).take k).flatMap fun r=>if jZ s r=true then(vM b (i+1) (eM b s i r)).map (fun t=>(pre++[s])++t)else []
theorem bCH{b:bA}{i:Nat}{s:Sc}(h:fU b s i=false):vM b i s=[]:=by
 unfold vM;cases e:b.lines.drop i with
 |nil=>unfold tL;rw[bLX Ybh];rfl
 |cons l ls=>unfold tL;rw[bLX Ybh];rfl
theorem aQU{b:bA}{i:Nat}{s:Sc}(h:fU b s i=true)(hi:b.lines.length≤i):vM b i s=[[s]]:=by
 unfold vM;rw[bNK hi];unfold tL;rw[bMG h];rfl
theorem aLQ{b:bA}{i:Nat}{s:Sc}{z:cB}{pre:List Sc}(h:fU b s i=true)(hd:b.lines.drop i=z::b.lines.drop (i+1)):(vM b i s).map (fun t=>pre++t)=aFA b i s z pre (cK b.chairs z).length:=by
 unfold vM aFA;rw[hd,bMP];unfold tL;rw[bMG h,List.map_flatMap,List.map_flatMap];congr 1;funext r;by_cases hc:jZ s r=true
 ·rw[bMG hc,bMG hc,bQC,bQC];unfold vM;rw[bQC];congr 1;funext x;simp
 ·rw[bLX hc,bLX hc];rfl
theorem aNI{b:bA}{i:Nat}{s:Sc}{z:cB}{pre:List Sc}:aFA b i s z pre 0=[]:=rfl
theorem bIY{b:bA}{i:Nat}{s:Sc}{z x:cB}{pre:List Sc}{k:Nat}(hx:(cK b.chairs z)[k]?= some x)(h:jZ s x=false):aFA b i s z pre (k+1)=aFA b i s z pre k:=by
 unfold aFA;rw[bLW,hx,bMR,bMZ,bOE,bLX Ybh,bMM]
theorem aBS{b:bA}{i:Nat}{s:Sc}{z x:cB}{pre:List Sc}{k:Nat}(hx:(cK b.chairs z)[k]?= some x)(h:jZ s x=true):aFA b i s z pre (k+1)=aFA b i s z pre k++(vM b (i+1) (eM b s i x)).map (fun t=>(pre++[s])++t):=by
 unfold aFA;rw[bLW,hx,bMR,bMZ,bOE,bMG h]
theorem aOB{b:bA}{i:Nat}{s:Sc}{z:cB}{pre:List Sc}{k:Nat}:∃r,aFA b i s z pre (cK b.chairs z).length=aFA b i s z pre k++r:=by
 unfold aFA;rw[bMP]
 conv=>enter [1,r,1];rw[←bPB k (cK b.chairs z),bMZ]
 exact⟨_,rfl⟩
theorem LK{c pre:List Sc}{i:Nat}{s s':Sc}(h:c.take (i+1+1)=(pre++[s])++[s'])(hl:pre.length=i):c.take (i+1)=pre++[s]:=by
 have:=bLZ (List.take (i+1)) h;rw[List.take_take,bPH (Nat.le_succ _)]at this;rw[this,bNH Yap,bMV Yap]
theorem aHO{c pre:List Sc}{i:Nat}{s':Sc}(hi:i<c.length)(h:c.take i=pre):(c.set i s').take (i+1)=pre++[s']:=by
 rw[bLW,List.getElem?_set_self hi,bMR,List.take_set_of_le (bMH _),h]
theorem aRY{c pre:List Sc}{i:Nat}{s:Sc}(h:c.take (i+1)=pre++[s])(hl:pre.length=i):c[i]?= some s:=by
 have:(c.take (i+1))[i]?= (pre++[s])[i]? :=by rw[h]
 rw[bOU (Nat.lt_succ_self i),bOV Yd]at this;rw[this];simp[hl]
theorem ap8{bh bs bl bo blo bY br n I O:Nat}{c:List Sc}{cl:List Int}{R U:Obj}(hap:br∉aD.ks ((O,U)::(I,R)::sC bh bs bl bo blo bY br n c cl))(hnd:(((O,U)::(I,R)::sC bh bs bl bo blo bY br n c cl).map fun p=>p.1).Nodup):O∉[br,bs,bo,I]:=by
 intro h;simp only[bLO,n4,bNV]at h;rcases h with rfl|rfl|rfl|rfl
 ·exact hap (by simp[aD.ks])
 ·simp[sC]at hnd
 ·simp[sC]at hnd
 ·simp at hnd
theorem bKD{bh bs bl bo blo bY br n I O:Nat}{c:List Sc}{cl:List Int}{R U:Obj}(hnd:(((O,U)::(I,R)::sC bh bs bl bo blo bY br n c cl).map fun p=>p.1).Nodup):blo∉[bl,bs,I,O]∧bo∉[bl,bs,I,O]:=by
 constructor
 ·intro h;simp only[bLO,n4,bNV]at h;rcases h with rfl|rfl|rfl|rfl<;>simp[sC]at hnd
 ·intro h;simp only[bLO,n4,bNV]at h;rcases h with rfl|rfl|rfl|rfl<;>simp[sC]at hnd
def bJM(b:bA)(J Jx:List (List Sc)→vZ)(bh bs bl bo blo bY br:Nat)(pre:List Sc)(s:Sc)(i:Nat)(done:List (List Sc))(v:Γ)(J':vZ)(μ':aD):Prop:=
 ∃bb c' cl',v=.bool bb∧c'.length=b.lines.length+1∧T5 c'∧cl'.length=b.lines.length*3∧c'.take (i+1)=pre++[s]∧μ'=sC bh bs bl bo blo bY br b.lines.length c' cl'∧(if bb=true then J'=J (done++(vM b i s).map fun t=>pre++t)else ∃p,J'=Jx p)
set_option maxHeartbeats 1000000 in
theorem aXF{lo l:Nat}{b:bA}{bv:Γ}{xs:List (List Sc)}{Dr Dy:aC}{bh bs bl bo blo bY br:Nat}{lv cv:Γ}(hbo:aIR b)(hbv:bv=.agg #[qI b.chairs,qI b.coin,qI b.box,lv,cv])(hb0:gD Dr bv b)
  (hA:At Dr br 0 [qI b.chairs,qI b.coin,qI b.box,lv,cv]) (hB:At Dy bY 0 [.func (.yield l) #[] #[]]):
  ∀(j i:Nat) (pre:List Sc) (s:Sc) (c:List Sc) (cl:List Int) (done rest:List (List Sc)) (iv:Int) (Ds:List aC),Dr∈Ds→Dy∈Ds→iv=i→i+j=b.lines.length→pre.length=i→c.length=b.lines.length+1→T5 c→cl.length=b.lines.length*3→c.take (i+1)=pre++[s]→bKC b s i→
   xs=done++(vM b i s).map (fun t=>pre++t)++rest→∀(J Jx:List (List Sc)→vZ),(∀pre,V6 lo (J pre))→(∀pre,V6 lo (Jx pre))→aXZ prog Dr lo l J Jx xs (aDN b.lines.length) gN→
   bJB prog 211 [qI iv,qP br,qP bs,qP bl,qP bY,qP bh] lo (J done) (sC bh bs bl bo blo bY br b.lines.length c cl) Ds (bJM b J Jx bh bs bl bo blo bY br pre s i done):=by
 subst hbv;intro j;induction j using Nat.strongRecOn with
 |_ j ih=>
 intro i pre s c cl done rest iv Ds hDr hDy hiv hij hl h9 h10 h11 hp hsb hxs J Jx hs hsx hY;replace ih:=fun j hj i pre s c cl done rest iv Ds h1 h2 h3 h4 h5 h6 h7 h8 h9 h10 h11=>ih j hj i pre s c cl done rest iv Ds h1 h2 h3 h4 h5 h6 h7 h8 h9 h10 h11 J Jx hs hsx hY
 subst hiv;obtain⟨lv',cv',he,hl',hc'⟩:=id hb0;obtain⟨rfl,rfl⟩:=QG he;have hl8:=hbo.l8;have hch:=hbo.ch;have hco:=hbo.co;have hbx:=hbo.bx;have hmo:=hsb.mo;have hmi:=hsb.mi;have hs10:=P7 hsb.lc hsb.lt;refine U6 (μ:=sC bh bs bl bo blo bY br b.lines.length c cl) 68 func211 rfl rfl rfl rfl<|aA<|Zf rfl<|bW<|Za2<|bS [] 4 8 62<|Zv rfl gO rfl hA fG<|Zo rfl X9 rfl Mm1 rfl<|Za rfl<|eP rfl U256 eD rfl rfl Yd (by push_cast;omega) rfl bRD<|dX (n:=10) (us:=ints (rD s)) rfl kN eD rfl Mm3 (by rw[show 0+((i:Int)).toNat*10=i*10 by omega];exact V7 h10 (aRY hp hl)) (by simp[hs10]) n4 rfl bRD<|Za rfl ?_;refine Zd rfl (fun D1 hD1=>FR _ b s i _ (hb0.up (hD1 _ Yaw)) hsb.lc hsb.lt)<|Zas rfl<|aF<|Zag rfl (fun hc1=>?_) fun hc1=>?_
 ·refine aA<|Wi ?_;exact mQ (P:=prog) (fn:=f211) (N:=68) (vs:=[_]) rfl rfl ⟨rfl,bRD⟩ (fun D h=>⟨D,h,Le.refl D⟩) ⟨true,c,cl,rfl,h9,h10,h11,hp,rfl,by simp only[bOC];rw[bCH Xbe];simp⟩
 ·have hcd:fU b s i=true:=by simpa using hc1
  refine aQ<|bZ<|Za rfl<|Zo rfl hG rfl Mm2 rfl<|lX rfl U80 rfl rfl rfl bRD<|Zap rfl<|aF<|Zaf rfl (fun hc2=>?_) fun hc2=>?_
  ·have hrun:=aQU hcd (show b.lines.length≤i by omega);have hleaf:pre++[s]=c:=by rw[←hp,bMV Yd]
   rw[hrun,bPA,hleaf,bMC,bPI]at hxs;refine aA<|Zh 0 rfl bAL rfl hB rfl<|Zo rfl hG rfl Mm2 rfl<|Zo rfl X9 rfl Mm1 rfl<|KU (l:=l) (J1:=J (done++[c])) (J0:=Jx (done++[c])) rfl rfl rfl rfl (hs _) (hsx _) (fun D w hd hJ hb hl=>hY done c _ D w bo _ ⟨rest,hxs⟩ hd hJ (fun b hbm=>Xda) (hl _ hDr) ⟨blo,rfl⟩ ⟨GE.2 ⟨_,X4,rfl⟩,(hb _ X4).2,_,_,(hb _ X4).1⟩) rfl bRD fun b1 J1 hJ1=>Wi ?_
   exact mQ (P:=prog) (fn:=f211) (N:=68) (vs:=[_]) rfl rfl ⟨rfl,bRD⟩ (fun D h=>⟨D,h,Le.refl D⟩) ⟨b1,c,cl,rfl,h9,h10,h11,hp,rfl,by cases b1<;>simp only[hJ1,bOC,bNN,bOO];exact⟨_,rfl⟩;rw[hrun,bPA,hleaf]⟩
  ·have hil:i<b.lines.length:=by omega
   obtain⟨z,hz⟩:=cR b.lines i;have hdr:b.lines.drop i=z::b.lines.drop (i+1):=by rw[bNC hil];congr 1;exact bMQ ((bLR hil).symm.trans hz)
   have hrun:=aLQ (pre:=pre) hcd hdr;rw[hrun]at hxs;refine aQ<|Za2<|Za2<|iK [] 1 [0,1,2,3,4,5,8,6,7] [false,true,true,true,true,true,true,true,true] [(false,0),(true,1),(true,2),(true,3),(true,4),(true,5),(true,8),(true,6),(true,7)] bB (fun _ _ _ h=>c8 (P:=prog) (fn:=f211) _ _ _ h) Yg rfl<|Zv rfl gO rfl hA fG<|Zj rfl dN rfl<|Zh 3 rfl hG rfl hA rfl<|Za rfl<|Zx rfl U80 cS rfl hl' rfl hz fun b1 o1 cs1 hr1 hcl1 hA1=>?_;obtain rfl:cs1=[qI _,qI _,qI _]:=hr1;refine Zv rfl nM rfl hA1 cS<|Za rfl<|Zaa rfl (fun D2 hD2=>I2 _ b z _ (hb0.up (hD2 _ Yaw)) Yd) fun v2 D2 hD2 hp2=>?_;have hr_:=hp2;have hrl:=hr_.len;refine eN rfl U80 rfl Yl rfl rfl bRD<|aF<|Za0<|CZ (γ:=Nat×List Sc×List Int) (fun g=>(cK b.chairs z).length-g.1) (fun g=>g.1≤(cK b.chairs z).length∧g.2.1.length=b.lines.length+1∧T5 g.2.1∧g.2.2.length=b.lines.length*3∧g.2.1.take (i+1)=pre++[s]) (fun g=>J (done++aFA b i s z pre g.1)) (fun g=>[(36,qI (g.1:Int))]) [(35,_),(34,_),(7,_),(0,_),(1,_),(2,_),(3,_),(5,_)] (fun g=>sC bh bs bl bo blo bY br b.lines.length g.2.1 g.2.2) (fun g=>D2::Ds) (0,c,cl) ⟨Yf,h9,h10,h11,hp⟩ (by simp[aNI]) ⟨Ya,bRD⟩ bQ Mm5 (aK) ?_;rintro⟨k,c1,cl1⟩ ⟨h12,h91,h92,h93,hp1⟩;simp only at h12 h91 h92 h93 hp1;refine aA<|Zam rfl<|bW<|Zaf rfl (fun hc3=>?_) fun hc3=>?_
   ·simp only at hc3;obtain⟨x,hx⟩:=cR (cK b.chairs z) k;have hin:=((tV (hbo.ln z (n5 hz))).1 (n5 hx)).1;have hn10:(rD (eM b s i x)).length=10:=ZR hsb.lc hsb.lt;have hif:(rD (if jZ s x=true then eM b s i x else s)).length=10:=by split;exact hn10;exact hs10
    refine aQ<|Za2<|Za0<|aA<|Zx rfl U80 cS rfl hr_ rfl hx fun b2 o2 cs2 hr2 hcl2 hA2=>?_;obtain rfl:cs2=[qI _,qI _,qI _]:=hr2;refine Zv rfl nM rfl hA2 cS<|Zad rfl kQ rfl fun q1=>Zz rfl cS ζ<|bW<|oT (dC.mk [br,bs,bo,q1]) 5 [false,true,true,true,true,true,true,true,false,false,true,true,true,false] [.fork [0,1,2,3,4,5,6] 7 (.fin [8,9,10,11]) 11 (.fin [7,8,9,10]),.fin [12,13]] bB (fun _ _ _ h=>c8 (P:=prog) (fn:=f211) _ _ _ h) Yg ?_;apply AC (γ:=Nat) (fun _=>True) _ _ _ [.fork [0,1,2,3,4,5,6] 7 (.fin [8,9,10,11]) 11 (.fin [7,8,9,10])] [.fin [12,13]] rfl
    ·refine sX<|bP [(false,0),(true,1),(true,2),(true,3),(true,4),(true,5),(true,6)] rfl<|cU rfl gO rfl hA (LE _ hDr) fG (dC.out Yf) rfl bRD<|bD rfl X9 rfl Mm2 rfl (dC.out Yf) rfl bRD<|Za rfl<|eP rfl U256 eD rfl rfl Yd (by push_cast;omega) rfl bRD<|dX (n:=10) (us:=ints (rD s)) rfl kN eD rfl (bMJ _ Mm3) (by rw[show 0+((i:Int)).toNat*10=i*10 by omega];exact V7 h92 (aRY hp1 hl)) (by simp[hs10]) (dC.out Yf) rfl bRD<|Za rfl<|bI (e:=298) (fz:=(0,0)) rfl nM rfl Mm0 cS (dC.out Yf) rfl bRD<|Zan (dV true true rfl rfl ?_ ?_)
     ·refine Zd rfl (fun D3 hD3=>DN _ b s i x _ (hb0.up (hD3 _ Yaw)) hsb.lc hsb.lt Ya9 Ya9 Yd Yd Yd Yd)<|Zan<|aT [(false,8),(false,9),(true,10),(true,11)] rfl<|Za rfl<|Zao rfl<|Zao rfl<|Zad rfl wE rfl fun q2=>Zan ?_;exact fun a w hh=>⟨q2,bRD,hh⟩
     ·refine Zad rfl wE rfl fun q2=>Zan<|aT [(true,7),(false,8),(false,9),(true,10)] rfl<|Zd rfl (fun D3 hD3=>DN _ b s i x _ (hb0.up (hD3 _ Yaw)) hsb.lc hsb.lt Ya9 Ya9 Yd Yd Yd Yd)<|Za rfl<|Zao rfl<|Zao rfl<|Zan ?_;exact fun a w hh=>⟨q2,bRD,hh.weak bQ Mm5 aK⟩
    rintro q2 -;refine nT [(true,12),(false,13)] rfl<|kJ hA Yaw (fun hap=>bGC fun hnd=>nE (off:=0) (us:=ints (rD (if jZ s x=true then eM b s i x else s))) (ws:=ints (rD (if jZ s x=true then eM b s i x else s))) rfl rfl rfl rfl (by rw[show(ints _).length=10 by simp[hif]];exact eD) ζ (by simp[hif]) (by simp[hif]) (dS _) (bLY (dC.in_ (ap8 hap hnd))) bRD<|Zf rfl<|Zan<|pQ<|Zay<|bZ<|Za rfl<|Zas rfl<|aF ?_);refine Zag rfl (fun hc4=>?_) fun hc4=>?_
    ·have hcan:jZ s x=false:=by simpa using hc4
     refine Za5<|Za1<|Za6<|Zay<|aP<|Zae rfl<|Za rfl<|Zan ?_;exact uY 22 (k+1,c1,cl1) ⟨Yn,h91,h92,h93,hp1⟩ Yn (by rw[bIY hx hcan]) ⟨Ya,bRD⟩ rfl rfl (List.Sublist.cons _ (List.Sublist.cons _ Mm5)) (aK)
    ·have hcan:jZ s x=true:=by simpa using hc4
     rw[bMG hcan];obtain⟨rr,hr⟩:=aOB (b:=b) (i:=i) (s:=s) (z:=z) (pre:=pre) (k:=k+1);refine aQ<|Za2<|bS (dC.mk [bl,bs,q1,q2]) 1 11 510<|bD rfl hG rfl (List.Mem.tail _ Mm3) rfl (dC.out Yf) rfl bRD<|Za rfl<|bD rfl X9 rfl Mm3 rfl (dC.out Yf) rfl bRD<|Za rfl<|Zae rfl<|bI (e:=298) (fz:=(0,0)) rfl nM rfl Mm1 cS (dC.out Yf) rfl bRD<|bI (e:=161) (fz:=(0,0)) rfl kN rfl Mm0 (by rw[show(ints _).length=10 by simp[hn10]];exact eD) (dC.out Yf) rfl bRD<|eP rfl U80 cS rfl rfl Yd Yd rfl bRD<|bGC fun hnd=>?_;refine nE (off:=i*3) (us:=ints [x.kind,x.chair,x.token]) (ws:=ints (wr cl1 (i*3) [x.kind,x.chair,x.token])) rfl (xV Yd) rfl rfl cS (.tail (.tail (.tail (.tail (.tail (.tail .head)))))) Yap aWV (dS _) (bLY (dC.in_ (bKD hnd).1)) bRD<|eP rfl U256 eD rfl rfl Yd (by push_cast;omega) rfl bRD<|nE (off:=(i+1)*10) (us:=ints (rD (eM b s i x))) (ws:=gN (c1.set (i+1) (eM b s i x))) rfl (xV Yd) rfl rfl (by rw[show(ints _).length=10 by simp[hn10]];exact eD) (.tail (.tail (.tail (.tail (.tail .head))))) (by rw[aPR h92,aM,hn10];omega) (aVI h92 hn10 Yd) (dS _) (bLY (dC.in_ (bKD hnd).2)) bRD<|bW<|aXC (μ':=sC bh bs bl bo blo bY br b.lines.length (c1.set (i+1) (eM b s i x)) (wr cl1 (i*3) [x.kind,x.chair,x.token])) 2 rfl<|aP<|Zo rfl qF rfl Mm0 rfl<|Za rfl<|Zae rfl<|wX rfl rfl rfl rfl (ih (j-1) Yd (i+1) (pre++[s]) (eM b s i x) (c1.set (i+1) (eM b s i x)) (wr cl1 (i*3) [x.kind,x.chair,x.token]) (done++aFA b i s z pre k) (rr++rest) (i+1:Int) _ (LE _ hDr) (LE _ hDy) Yd Yd Yap (by simpa using h91) (h92.set hn10 _) (by rw[bGY Yap];exact h93) (aHO Yd hp1) (aUS hbo hsb x i) (by rw[hxs,hr,aBS hx hcan];simp)) rfl bRD ?_
     rintro _ J2 _ ⟨b2,c2,cl2,rfl,h9',h10',h11',hp',rfl,hJ2⟩;refine Zas rfl<|aF<|Zag rfl (fun hc5=>?_) fun hc5=>?_
     ·obtain rfl:b2=false:=by simpa using hc5
      refine aA<|Wh ?_;exact mQ (P:=prog) (fn:=f211) (N:=68) (vs:=[_]) rfl rfl ⟨rfl,bRD⟩ (fun D h=>⟨D,LE _ h,Le.refl D⟩) ⟨false,c2,cl2,rfl,h9',h10',h11',LK hp' hl,rfl,by simpa using hJ2⟩
     ·obtain rfl:b2=true:=by simpa using hc5
      refine Wca ?_;exact uY 36 (k+1,c2,cl2) ⟨Yn,h9',h10',h11',LK hp' hl⟩ Yn (by simpa only[bOC,aBS hx hcan,bMC]using hJ2) ⟨Ya,bRD⟩ rfl rfl Mm5 (aK)
   ·have hk:k=(cK b.chairs z).length:=by simp only at hc3;omega
    refine Wk ?_;exact mQ (P:=prog) (fn:=f211) (N:=68) (vs:=[_]) rfl rfl ⟨rfl,bRD⟩ (fun D h=>⟨D,LE _ h,Le.refl D⟩) ⟨true,c1,cl1,rfl,h91,h92,h93,hp1,rfl,by simp only[bOC];rw[hrun,hk]⟩
section
variable{X:Cx}{γb:Type}[Membership Nat γb]{bad:γb}{all:Array Oper}{K:Act→Δ→Prop}{Q:Exit→Act→Δ→Prop}{σ:bX}{μ:aD}{Ds:List aC}{os:List (Bool×Nat)}{fl:Bool}{ix d n:Nat}{x y:Operand}{v:Γ}{ty:Θ}{pos:String}{aft:Array Edge}{g:Option (Nat×Bool)}{k k':IntKind}
def bBU(b:bA)(l q1 br:Nat)(g:Nat×Nat×Nat×Nat):bX:=[(3,.pointer (some ⟨g.1,0,none⟩)),(4,.pointer (some ⟨g.2.1,0,none⟩)),(14,.slice (some ⟨g.2.2.1,0,none⟩) (b.lines.length+1) (b.lines.length+1)),(2,qP q1),(1,qP br),(0,.func (.yield l) #[] #[])]
def aAO(b:bA)(g:Nat×Nat×Nat×Nat):aD:=[(g.2.1,qC [qN] 256),(g.1,qC [.slice (some ⟨g.2.2.2,0,none⟩) b.lines.length b.lines.length] 80),(g.2.2.1,qC (gN (List.replicate (b.lines.length+1) aVU)) 161),(g.2.2.2,qC (ints (List.replicate (b.lines.length*3) 0)) 298)]
theorem eL{b:bA}{l I br:Nat}{σ':bX}{μ':aD}{a:Act}{w:Δ}(bl bs bo blo:Nat)(hh:Hl X σ' μ' Ds a w)(hs:FA σ' (bBU b l I br (bl,bs,bo,blo)):=by exact bQ)(hm:∀r∈aAO b (bl,bs,bo,blo),r∈μ':=by simp[aAO])(hn:(μ'.map (·.1)).Nodup→((aAO b (bl,bs,bo,blo)).map (·.1)).Nodup:=by simp[aAO]<;>omega):
  ∃g:Nat×Nat×Nat×Nat,True∧Hl X (bBU b l I br g) (aAO b g) Ds a w:=⟨(bl,bs,bo,blo),bRD,(hh.perm hm hn).weak hs Mm5 aK⟩
theorem tG(h8:n≤8)(ho:all[ix]?= some ⟨some d,.makeSlice 80 x y,ty,pos,aft,none⟩)(hx:ev σ x=some (.int k (n:Int)))(hy:ev σ y=some (.int k' (n:Int)))
  (kk:∀b,WL prog X bad all K Q os ((d,qS b n n)::σ) ((b,qC (ints (List.replicate (n*3) 0)) 298)::μ) Ds) (hN:Nat.blt d X.N=true:=by exact rfl):WL prog X bad all K Q ((fl,ix)::os) σ μ Ds:=
 uA ho U80 cS kQ rfl n9 hx hy Yd (W2 Yf rfl) hN bRD kk
theorem nS(h8:n≤8)(ho:all[ix]?= some ⟨some d,.makeSlice 256 x y,ty,pos,aft,none⟩)(hx:ev σ x=some (.int k ((n:Int)+1)))(hy:ev σ y=some (.int k' ((n:Int)+1)))
  (kk:∀b,WL prog X bad all K Q os ((d,qS b (n+1) (n+1))::σ) ((b,qC (gN (List.replicate (n+1) aVU)) 161)::μ) Ds) (hN:Nat.blt d X.N=true:=by exact rfl):WL prog X bad all K Q ((fl,ix)::os) σ μ Ds:=
 uA (n:=n+1) ho U256 eD wE rfl aYX (hx.trans (bLZ (fun z=>some (Value.int k z)) Yd)) (hy.trans (bLZ (fun z=>some (Value.int k' z)) Yd)) Yd ((W2 Yf rfl).trans (aYQ _)) hN bRD kk
theorem gJ{D₁:aC}{br q:Nat}{c:Γ}{cs:List Γ}{μ':aD}(hA:At D₁ br 0 (c::cs))(ho:all[ix]?= some ⟨none,.store 80 x y,ty,pos,aft,none⟩)(hx:ev σ x=some (qP q))(hy:ev σ y=some v)(hv:v.cells=[v].toArray)(hm:bR μ q (qC [qN] 80) (qC [v] 80) μ')(hs:TS prog 80 1)(hc:cell1 v=true)
  (kk:WL prog X (dC.mk [br]) all K Q os σ μ' Ds) (hD:D₁∈Ds:=by simp):WL prog X (dC.mk [br]) all K Q ((fl,ix)::os) σ μ Ds:=
 kJ hA hD fun hap=>nE (off:=0) (us:=[v]) (vs:=[qN]) (ws:=[v]) ho hx hy hv hs hm Yf rfl (fun u hu=>by rw[bMI]at hu;rw[hu];exact hc) (bLY (dC.in_ (by rw[bMI];rintro rfl;exact hap (GE.2 ⟨_,hm.mem,rfl⟩)))) bRD kk
end
theorem AA{n:Nat}:T5 (List.replicate n aVU):=fun s hs=>by rw[List.eq_of_mem_replicate hs];rfl
set_option maxHeartbeats 1000000 in
theorem V4{b:bA}{bv lv cv:Γ}{Dr:aC}{br:Nat}(hbo:aIR b)(hbv:bv=.agg #[qI b.chairs,qI b.coin,qI b.box,lv,cv])(hb0:gD Dr bv b)(hA:At Dr br 0 [qI b.chairs,qI b.coin,qI b.box,lv,cv]):
  MC prog 210 [qP br] Dr (vM b 0 (fH b)) (aDN b.lines.length) gN:=by
 subst hbv;obtain⟨lv',cv',he,hl',hc'⟩:=id hb0;obtain⟨rfl,rfl⟩:=QG he;have hl8:=hbo.l8;refine FZ 22 func210 rfl rfl rfl rfl fun lo l J Jx hs hsx hY=>aA<|Zy rfl fun q1 E1 hE1 hB1=>bW<|oT (dC.mk [br]) 4 [false,false,false,true,true,true,true,true,true,true,true,true,false] [.forkN [0,1,2,4,5,6,7] 3 [8,9,10] (DX [(3,.forkN [] 8 [9,10] (DX [(8,.fork [] 9 (.fin [10,11]) 10 (.fin [9,11])),(9,.fork [] 8 (.fin [10,11]) 10 (.fork [] 8 (.fin [11]) 11 (.fin [8]))),(10,.fork [] 8 (.fin [9,11]) 9 (.fork [] 8 (.fin [11]) 11 (.fin [8])))])),(8,.forkN [] 3 [9,10] (DX [(3,.fork [] 9 (.fin [10,11]) 10 (.fin [9,11])),(9,.fork [] 3 (.fin [10,11]) 10 (.fin [3,11])),(10,.fork [] 3 (.fin [9,11]) 9 (.fin [3,11]))])),(9,.forkN [] 3 [8,10] (DX [(3,.fork [] 8 (.fin [10,11]) 10 (.fork [] 8 (.fin [11]) 11 (.fin [8]))),(8,.fork [] 3 (.fin [10,11]) 10 (.fin [3,11])),(10,.fork [] 3 (.fork [] 8 (.fin [11]) 11 (.fin [8])) 8 (.fin [3,11]))])),(10,.forkN [] 3 [8,9] (DX [(3,.fork [] 8 (.fin [9,11]) 9 (.fork [] 8 (.fin [11]) 11 (.fin [8]))),(8,.fork [] 3 (.fin [9,11]) 9 (.fin [3,11])),(9,.fork [] 3 (.fork [] 8 (.fin [11]) 11 (.fin [8])) 8 (.fin [3,11]))]))]),.fin [12]] bB (fun _ _ _ h=>c8 (P:=prog) (fn:=f210) _ _ _ h) Yg<|AC (γ:=Nat×Nat×Nat×Nat) (fun g=>True) (fun g=>bBU b l q1 br g) (fun g=>aAO b g) (fun g=>[E1,Dr]) [.forkN [0,1,2,4,5,6,7] 3 [8,9,10] (DX [(3,.forkN [] 8 [9,10] (DX [(8,.fork [] 9 (.fin [10,11]) 10 (.fin [9,11])),(9,.fork [] 8 (.fin [10,11]) 10 (.fork [] 8 (.fin [11]) 11 (.fin [8]))),(10,.fork [] 8 (.fin [9,11]) 9 (.fork [] 8 (.fin [11]) 11 (.fin [8])))])),(8,.forkN [] 3 [9,10] (DX [(3,.fork [] 9 (.fin [10,11]) 10 (.fin [9,11])),(9,.fork [] 3 (.fin [10,11]) 10 (.fin [3,11])),(10,.fork [] 3 (.fin [9,11]) 9 (.fin [3,11]))])),(9,.forkN [] 3 [8,10] (DX [(3,.fork [] 8 (.fin [10,11]) 10 (.fork [] 8 (.fin [11]) 11 (.fin [8]))),(8,.fork [] 3 (.fin [10,11]) 10 (.fin [3,11])),(10,.fork [] 3 (.fork [] 8 (.fin [11]) 11 (.fin [8])) 8 (.fin [3,11]))])),(10,.forkN [] 3 [8,9] (DX [(3,.fork [] 8 (.fin [9,11]) 9 (.fork [] 8 (.fin [11]) 11 (.fin [8]))),(8,.fork [] 3 (.fin [9,11]) 9 (.fin [3,11])),(9,.fork [] 3 (.fork [] 8 (.fin [11]) 11 (.fin [8])) 8 (.fin [3,11]))]))])] [.fin [12]] rfl ?_ ?_
 ·refine sX<|sR [(false,0),(false,1),(false,2),(true,4),(true,5),(true,6),(true,7)] rfl<|Zj rfl dN rfl<|dW rfl (k:=3) hG rfl hA Yf rfl (dC.out Yf) rfl bRD<|Zah rfl U80 rfl hl' rfl<|Zj rfl dN rfl<|dW rfl (k:=3) hG rfl hA Yf rfl (dC.out Yf) rfl bRD<|Zah rfl U80 rfl hl' rfl<|Zae rfl ?_;refine Zan (gT true rfl rfl ?_ (gT true rfl rfl ?_ (gT true rfl rfl ?_ (gT true rfl rfl ?_ (K5)))))
  ·refine tG hl8 rfl rfl rfl fun blo=>Zan<|sR [] rfl ?_;refine Zan (gT true rfl rfl ?_ (gT true rfl rfl ?_ (gT true rfl rfl ?_ (K5))))
   ·refine nS hl8 rfl rfl rfl (fun bo=>Zan<|bP [] rfl<|Zan (dV true true rfl rfl ?_ ?_))
    ·refine Zad rfl oA rfl fun q2=>Zan<|aT [(true,10),(true,11)] rfl<|Zad rfl kM rfl fun q3=>Wah ?_;exact fun a w hh=>eL q2 q3 bo blo hh
    ·refine Zad rfl kM rfl fun q2=>Zan<|aT [(true,9),(true,11)] rfl<|Zad rfl oA rfl fun q3=>Wao ?_;exact fun a w hh=>eL q3 q2 bo blo hh
   ·refine Zad rfl oA rfl (fun q2=>Zan<|bP [] rfl<|Zan (dV true true rfl rfl ?_ ?_))
    ·refine nS hl8 rfl rfl rfl fun bo=>Zan<|aT [(true,10),(true,11)] rfl<|Zad rfl kM rfl fun q3=>Wx ?_;exact fun a w hh=>eL q2 q3 bo blo hh
    ·refine Zad rfl kM rfl (fun q3=>Zan<|bP [] rfl<|Zan (dV true true rfl rfl ?_ ?_))
     ·refine nS hl8 rfl rfl rfl fun bo=>Zan<|aT [(true,11)] rfl<|Wx ?_;exact fun a w hh=>eL q2 q3 bo blo hh
     ·refine gJ hA rfl rfl rfl rfl (.tail ζ) eR rfl<|Zan<|aT [(true,8)] rfl<|nS hl8 rfl rfl rfl fun bo=>Zan ?_;exact fun a w hh=>eL q2 q3 bo blo hh
   ·refine Zad rfl kM rfl (fun q2=>Zan<|bP [] rfl<|Zan (dV true true rfl rfl ?_ ?_))
    ·refine nS hl8 rfl rfl rfl fun bo=>Zan<|aT [(true,9),(true,11)] rfl<|Zad rfl oA rfl fun q3=>Wao ?_;exact fun a w hh=>eL q3 q2 bo blo hh
    ·refine Zad rfl oA rfl (fun q3=>Zan<|bP [] rfl<|Zan (dV true true rfl rfl ?_ ?_))
     ·refine nS hl8 rfl rfl rfl fun bo=>Zan<|aT [(true,11)] rfl<|Wah ?_;exact fun a w hh=>eL q3 q2 bo blo hh
     ·refine gJ hA rfl rfl rfl rfl ζ eR rfl<|Zan<|aT [(true,8)] rfl<|nS hl8 rfl rfl rfl fun bo=>Zan ?_;exact fun a w hh=>eL q3 q2 bo blo hh
  ·refine nS hl8 rfl rfl rfl fun bo=>Zan<|sR [] rfl ?_;refine Zan (gT true rfl rfl ?_ (gT true rfl rfl ?_ (gT true rfl rfl ?_ (K5))))
   ·refine tG hl8 rfl rfl rfl (fun blo=>Zan<|bP [] rfl<|Zan (dV true true rfl rfl ?_ ?_))
    ·refine Zad rfl oA rfl fun q2=>Zan<|aT [(true,10),(true,11)] rfl<|Zad rfl kM rfl fun q3=>Wah ?_;exact fun a w hh=>eL q2 q3 bo blo hh
    ·refine Zad rfl kM rfl fun q2=>Zan<|aT [(true,9),(true,11)] rfl<|Zad rfl oA rfl fun q3=>Wao ?_;exact fun a w hh=>eL q3 q2 bo blo hh
   ·refine Zad rfl oA rfl (fun q2=>Zan<|bP [] rfl<|Zan (dV true true rfl rfl ?_ ?_))
    ·refine tG hl8 rfl rfl rfl fun blo=>Zan<|aT [(true,10),(true,11)] rfl<|Zad rfl kM rfl fun q3=>Wx ?_;exact fun a w hh=>eL q2 q3 bo blo hh
    ·refine Zad rfl kM rfl fun q3=>Zan<|aT [(true,3),(true,11)] rfl<|tG hl8 rfl rfl rfl fun blo=>Wx ?_;exact fun a w hh=>eL q2 q3 bo blo hh
   ·refine Zad rfl kM rfl (fun q2=>Zan<|bP [] rfl<|Zan (dV true true rfl rfl ?_ ?_))
    ·refine tG hl8 rfl rfl rfl fun blo=>Zan<|aT [(true,9),(true,11)] rfl<|Zad rfl oA rfl fun q3=>Wao ?_;exact fun a w hh=>eL q3 q2 bo blo hh
    ·refine Zad rfl oA rfl fun q3=>Zan<|aT [(true,3),(true,11)] rfl<|tG hl8 rfl rfl rfl fun blo=>Wah ?_;exact fun a w hh=>eL q3 q2 bo blo hh
  ·refine Zad rfl oA rfl fun q2=>Zan<|sR [] rfl ?_;refine Zan (gT true rfl rfl ?_ (gT true rfl rfl ?_ (gT true rfl rfl ?_ (K5))))
   ·refine tG hl8 rfl rfl rfl (fun blo=>Zan<|bP [] rfl<|Zan (dV true true rfl rfl ?_ ?_))
    ·refine nS hl8 rfl rfl rfl fun bo=>Zan<|aT [(true,10),(true,11)] rfl<|Zad rfl kM rfl fun q3=>Wu ?_;exact fun a w hh=>eL q2 q3 bo blo hh
    ·refine Zad rfl kM rfl (fun q3=>Zan<|bP [] rfl<|Zan (dV true true rfl rfl ?_ ?_))
     ·refine nS hl8 rfl rfl rfl fun bo=>Zan<|aT [(true,11)] rfl<|Wu ?_;exact fun a w hh=>eL q2 q3 bo blo hh
     ·refine gJ hA rfl rfl rfl rfl (.tail (.tail ζ)) eR rfl<|Zan<|aT [(true,8)] rfl<|nS hl8 rfl rfl rfl fun bo=>Zan ?_;exact fun a w hh=>eL q2 q3 bo blo hh
   ·refine nS hl8 rfl rfl rfl (fun bo=>Zan<|bP [] rfl<|Zan (dV true true rfl rfl ?_ ?_))
    ·refine tG hl8 rfl rfl rfl fun blo=>Zan<|aT [(true,10),(true,11)] rfl<|Zad rfl kM rfl fun q3=>Wu ?_;exact fun a w hh=>eL q2 q3 bo blo hh
    ·refine Zad rfl kM rfl fun q3=>Zan<|aT [(true,3),(true,11)] rfl<|tG hl8 rfl rfl rfl fun blo=>Wu ?_;exact fun a w hh=>eL q2 q3 bo blo hh
   ·refine Zad rfl kM rfl (fun q3=>Zan<|bP [] rfl<|Zan (dV true true rfl rfl ?_ ?_))
    ·refine tG hl8 rfl rfl rfl (fun blo=>Zan<|bP [] rfl<|Zan (dV true true rfl rfl ?_ ?_))
     ·refine nS hl8 rfl rfl rfl fun bo=>Zan<|aT [(true,11)] rfl<|Wu ?_;exact fun a w hh=>eL q2 q3 bo blo hh
     ·refine gJ hA rfl rfl rfl rfl (.tail (.tail ζ)) eR rfl<|Zan<|aT [(true,8)] rfl<|nS hl8 rfl rfl rfl fun bo=>Zan ?_;exact fun a w hh=>eL q2 q3 bo blo hh
    ·refine nS hl8 rfl rfl rfl fun bo=>Zan<|aT [(true,3),(true,11)] rfl<|tG hl8 rfl rfl rfl fun blo=>Wu ?_;exact fun a w hh=>eL q2 q3 bo blo hh
  ·refine Zad rfl kM rfl fun q2=>Zan<|sR [] rfl ?_;refine Zan (gT true rfl rfl ?_ (gT true rfl rfl ?_ (gT true rfl rfl ?_ (K5))))
   ·refine tG hl8 rfl rfl rfl (fun blo=>Zan<|bP [] rfl<|Zan (dV true true rfl rfl ?_ ?_))
    ·refine nS hl8 rfl rfl rfl fun bo=>Zan<|aT [(true,9),(true,11)] rfl<|Zad rfl oA rfl fun q3=>Wao ?_;exact fun a w hh=>eL q3 q2 bo blo hh
    ·refine Zad rfl oA rfl (fun q3=>Zan<|bP [] rfl<|Zan (dV true true rfl rfl ?_ ?_))
     ·refine nS hl8 rfl rfl rfl fun bo=>Zan<|aT [(true,11)] rfl<|Wah ?_;exact fun a w hh=>eL q3 q2 bo blo hh
     ·refine gJ hA rfl rfl rfl rfl ζ eR rfl<|Zan<|aT [(true,8)] rfl<|nS hl8 rfl rfl rfl fun bo=>Zan ?_;exact fun a w hh=>eL q3 q2 bo blo hh
   ·refine nS hl8 rfl rfl rfl (fun bo=>Zan<|bP [] rfl<|Zan (dV true true rfl rfl ?_ ?_))
    ·refine tG hl8 rfl rfl rfl fun blo=>Zan<|aT [(true,9),(true,11)] rfl<|Zad rfl oA rfl fun q3=>Wao ?_;exact fun a w hh=>eL q3 q2 bo blo hh
    ·refine Zad rfl oA rfl fun q3=>Zan<|aT [(true,3),(true,11)] rfl<|tG hl8 rfl rfl rfl fun blo=>Wah ?_;exact fun a w hh=>eL q3 q2 bo blo hh
   ·refine Zad rfl oA rfl (fun q3=>Zan<|bP [] rfl<|Zan (dV true true rfl rfl ?_ ?_))
    ·refine tG hl8 rfl rfl rfl (fun blo=>Zan<|bP [] rfl<|Zan (dV true true rfl rfl ?_ ?_))
     ·refine nS hl8 rfl rfl rfl fun bo=>Zan<|aT [(true,11)] rfl<|Wx ?_;exact fun a w hh=>eL q3 q2 bo blo hh
     ·refine gJ hA rfl rfl rfl rfl (.tail ζ) eR rfl<|Zan<|aT [(true,8)] rfl<|nS hl8 rfl rfl rfl fun bo=>Zan ?_;exact fun a w hh=>eL q3 q2 bo blo hh
    ·refine nS hl8 rfl rfl rfl fun bo=>Zan<|aT [(true,3),(true,11)] rfl<|tG hl8 rfl rfl rfl fun blo=>Wx ?_;exact fun a w hh=>eL q3 q2 bo blo hh
 rintro⟨bl,bs,bo,blo⟩ -;dsimp only[bBU,aAO];refine nT [(false,12)] rfl<|Zr rfl aXL ζ rfl<|Zan<|pQ<|Zay<|aA<|Zad rfl DO rfl fun q4=>aJ<|Zax rfl<|Zr rfl CE ζ rfl<|bW<|bS [] 1 5 6 ?_;refine Zo rfl X9 rfl Mm1 rfl<|Zv rfl gO rfl hA fG<|Zd rfl (fun D1 hD1=>yR _ b _ (hb0.up (hD1 _ Yf)))<|eP rfl U256 eD rfl rfl Yd (by push_cast;omega) rfl bRD<|cY (off:=0*10) (us:=ints (rD (fH b))) (ws:=gN ((List.replicate (b.lines.length+1) aVU).set 0 (fH b))) rfl (xV Yd) rfl rfl eD (.tail (.tail (.tail ζ))) (by rw[aPR AA,aM,show(rD (fH b)).length=10 from rfl,List.length_replicate];omega) (aVI AA rfl Yf) (dS _) bRD<|aF<|aP<|Zo rfl qF rfl Mm0 rfl<|wX rfl rfl rfl rfl (aXF (l:=l) hbo rfl hb0 hA hB1 b.lines.length 0 [] (fH b) ((List.replicate (b.lines.length+1) aVU).set 0 (fH b)) (List.replicate (b.lines.length*3) 0) [] [] 0 _ Yf Yf rfl Yd rfl Yf (AA.set rfl _) Yf (by simp[List.replicate_succ]) (CS b) Yf J Jx hs hsx hY) rfl bRD ?_
 rintro _ J2 _ ⟨b2,c2,cl2,rfl,h9',h10',h11',hp',rfl,hJ2⟩;refine Zan ?_;exact mQ (P:=prog) (fn:=f210) (N:=22) (vs:=[]) rfl rfl bRD (fun D h=>⟨D,Xbo,Le.refl D⟩) Ybf
theorem aAQ(bv:Γ)(b:bA)(D:aC)(hb:gD D bv b)(hbo:aIR b):
  Fn prog 141 #[bv] D (fun D' v=>∃br,v=.func (.func 210) #[] #[qP br]∧MC prog 210 [qP br] D' (vM b 0 (fH b)) (aDN b.lines.length) gN):=by
 have I:=hb;obtain⟨lv,cv,rfl,hl,hc⟩:=hb;refine Zw 4 func141 rfl fun h0=>aA<|Zy rfl fun U E1 R O=>Zf rfl<|aJ<|Zax rfl<|We ?_;exact aE rfl fun D hD=>⟨_,rfl,V4 hbo rfl (I.up (hD _ Yf)) (O.up (hD _ Yf))⟩
theorem aEZ(b:bA):∀(ls:List cB) (i:Nat) (s:Sc),s.ch.length=4→s.tk.length=4→∀x∈tL b ls i s,x.2.length=ls.length+1∧∀u∈x.2,u.ch.length=4∧u.tk.length=4
  | [],i,s,h4,h5,x,hx=>by
    unfold tL at hx;split at hx
    · obtain rfl:x=([],[s]):=by simpa using hx
      exact ⟨rfl, fun u hu => by obtain rfl : u = s := by simpa using hu
                                 exact⟨h4,h5⟩⟩
    · cases hx
  |l::ls,i,s,h4,h5,x,hx=>by
    unfold tL at hx;split at hx
    · obtain⟨r,_,hr⟩:=bPE.1 hx;split at hr
      · obtain⟨y,hy,rfl⟩:=GE.1 hr;obtain⟨g1,g2⟩:=aEZ b ls (i+1) (eM b s i r) (by unfold eM;split<;>simp[h4]) (by unfold eM;split<;>simp[h5]) y hy
        refine⟨by simp[g1],fun u hu=>?_⟩;rcases bLO.1 hu with rfl|hu
        · exact⟨h4,h5⟩
        · exact g2 u hu
      · cases hr
    · cases hx
theorem UD{b:bA}(hn:b.chairs≤4):∀(ls:List cB) (i:Nat) (s:Sc),(tL b ls i s).length≤32^ls.length
 | [],i,s=>by unfold tL;split<;>simp
 |l::ls,i,s=>by
  unfold tL;split
  ·rw[List.length_flatMap];have h1:∀(rs:List cB),(rs.map fun r=>(if jZ s r=true then(tL b ls (i+1) (eM b s i r)).map fun x=>(r::x.1,s::x.2)else []).length).sum≤rs.length*32^ls.length:=by
    intro rs;induction rs with
    |nil=>simp
    |cons r rs ih=>
     rw[bMT,List.sum_cons,bLU,bOK,Nat.one_mul,Nat.add_comm];refine Nat.add_le_add ih ?_;split
     ·rw[bNE];exact UD hn ls _ _
     ·simp
   have h2:=h1 (cK b.chairs l);have h3:=aAG (l:=l) hn;have h4:(cK b.chairs l).length*32^ls.length≤32*32^ls.length:=bPG _ h3;rw[bLU,Nat.pow_succ,Nat.mul_comm];omega
  ·simp
theorem aRR{b:bA}(hbo:aIR b):(vM b 0 (fH b)).length≤1099511627776:=by
 unfold vM;rw[bNE];have h1:=UD hbo.ch.2 (b.lines.drop 0) 0 (fH b);have h2:32^(b.lines.drop 0).length≤32^8:=bNQ Yd (by rw[bPN];exact hbo.l8)
 omega
theorem aGG{b:bA}(hbo:aIR b){x:List Sc}{pre r:List (List Sc)}(h:vM b 0 (fH b)=pre++x::r):x.length=b.lines.length+1∧(∀u∈x,u.ch.length=4∧u.tk.length=4)∧pre.length<1099511627776:=by
 have hm:x∈vM b 0 (fH b):=by rw[h];simp
 obtain⟨y,hy,rfl⟩:=GE.1 hm;obtain⟨g1,g2⟩:=aEZ b _ _ _ rfl rfl y hy;refine⟨by simpa using g1,g2,?_⟩;have:=aRR hbo;rw[h]at this;simp at this;omega
theorem aTW{x:List Sc}{k:Nat}{u:Sc}(h:x[k]?= some u):aRL x k=u:=by unfold aRL;rw[bNR,h];rfl
theorem bHI{D:aC}{bo n:Nat}{x:List Sc}(h:At D bo 0 (gN x))(hx:x.length=n)(h4:∀u∈x,u.ch.length=4∧u.tk.length=4)(hn:n≤1000):Sl D VZ 10 (qS bo n n) x:=by
 have I:T5 x:=fun u hu=>P7 (h4 u hu).1 (h4 u hu).2
 refine⟨_,n,by rw[hx],Yd,Yd,bLY ⟨bo,0,rfl,fun i u hi=>⟨_,rfl,by rw[aM,I u (n5 hi)],fun j v hj=>?_⟩⟩⟩;have:=V7 I hi;rw[←this,List.getElem?_take]at hj;split at hj
 ·rw[bOJ]at hj;have:=h _ v hj;rw[show 0+i*10+j=0+(i*10+j) by omega];exact this
 ·cases hj


theorem aAF(s:Sc)(D:aC)(h4:s.ch.length=4)(h5:s.tk.length=4):Fn prog 73 #[aBB s] D (fun _ v=>v=qI s.money):=by
 refine Zw 5 func73 rfl fun h0=>aA<|Zy rfl fun R E1 O I=>Zf rfl<|aJ<|Zj rfl pT rfl<|dW (v:=qI s.money) rfl (k:=8) aH rfl I Yc (cW (N3 h4 h5)) n4 rfl bRD<|We ?_;exact aE rfl fun D hD=>rfl
def HZ(F:Sc→Int)(b:bA)(k:Nat):Int×Int:=(C1.rC (((vM b 0 (fH b)).map fun x=>aRL x k).map F),C1.pH (((vM b 0 (fH b)).map fun x=>aRL x k).map F))
def BF(F:Sc→Int)(ss:List Sc)(g:(Int×Int)×Bool):Prop:=(g.2=true∧ss=[]∧g.1=(0,0))∨(g.2=false∧ss≠[]∧g.1=(C1.rC (ss.map F),C1.pH (ss.map F)))
theorem aJL{l:List Int}{x:Int}(h:l≠[]):C1.rC (l++[x])=min (C1.rC l) x:=by
 cases l with
 |nil=>exact absurd rfl h
 |cons a l=>show(l++[x]).foldl min a=_;rw[bNM];rfl
theorem aJX{l:List Int}{x:Int}(h:l≠[]):C1.pH (l++[x])=max (C1.pH l) x:=by
 cases l with
 |nil=>exact absurd rfl h
 |cons a l=>show(l++[x]).foldl max a=_;rw[bNM];rfl
theorem BF.add{F:Sc→Int}{ss:List Sc}{r r':Int×Int}{fb:Bool}{s u:Sc}(h:BF F ss (r,fb))(e:s=u)(hc:(fb=true∧r'=(F u,F u))∨(fb=false∧r'=r)):BF F (ss++[s]) ((min r'.1 (F u),max r'.2 (F u)),false):=by
 subst e;refine bLY ⟨rfl,Yf,?_⟩;rcases hc with⟨h1,rfl⟩|⟨h1,rfl⟩
 ·rcases h with⟨_,rfl,_⟩|⟨h2,_⟩
  ·simp[C1.rC,C1.pH]
  ·simp only at h2;rw[h1]at h2;cases h2
 ·rcases h with⟨h2,_⟩|⟨_,h3,h4⟩
  ·simp only at h2;rw[h1]at h2;cases h2
  ·simp only at h4;subst h4;have hne:ss.map F≠[]:=by simpa using h3
   rw[bME,bPA,aJL hne,aJX hne]
theorem BF.all{F:Sc→Int}{b:bA}{k:Nat}{r:Int×Int}{fb:Bool}(h:BF F ((vM b 0 (fH b)).map fun x=>aRL x k) (r,fb)):lE r=lE (HZ F b k):=by
 unfold HZ;rcases h with⟨_,h1,h2⟩|⟨_,_,h2⟩
 ·rw[h1];simp only at h2;rw[h2];rfl
 ·simp only at h2;rw[h2]
theorem LZ{b:bA}{fine:Bool}(h:A0 b fine=0):aX b=0∧fine=true:=by
 unfold A0 at h;split at h
 ·rename_i hf;exact absurd h hf
 ·rename_i hf;split at h
  ·omega
  ·rename_i h2;exact⟨by simpa using hf,Xal⟩
theorem aDB(F:Sc→Int)(bv:Γ)(b:bA)(k:Nat)(fo:FuncId)(D:aC)(hb:gD D bv b)(hbo:aIR b)(hk:k≤b.lines.length)
  (hq:∀s D,s.ch.length=4→s.tk.length=4→Fn prog fo #[aBB s] D fun _ v=>v=qI (F s)):
  Fn prog 72 #[bv,qI (k:Int),.func (.func fo) #[] #[]] D (fun _ v=>v=lE (HZ F b k)):=by
 have Y:=hb;obtain⟨lv,cv,rfl,hl,hc⟩:=hb;have hch:=hbo.ch;have hN:=hbo.l8;refine PL 29 func72 rfl rfl rfl rfl fun h0=>aA<|Zy rfl fun q1 E1 hO Z=>Zy rfl fun q2 E2 hP hB=>Zy rfl fun q3 E3 hR hE=>Zad rfl lL rfl fun q4=>aJ<|Zad rfl pO rfl fun q5=>Zr rfl mI ζ rfl<|bG<|Zv rfl gO rfl Z fG<|Zaa rfl (fun D1 I=>aAQ _ b _ (Y.up (I _ Yf)) hbo) fun v1 D1 I hF=>?_;refine aF<|Za0 ?_;obtain⟨br,rfl,hit⟩:=hF;refine Z5 (γ:=(Int×Int)×Bool) (xs:=vM b 0 (fH b)) (enc:=aDN b.lines.length) (cells:=gN) (Dr:=D1) (fun pre g=>BF F (pre.map fun x=>aRL x k) g) (fun _ _ _=>False) (fun g=>[(q5,qC [.bool g.2] 4),(q4,qC [qI g.1.1,qI g.1.2] 26)]) ((0,0),true) rfl rfl (fun _ k hk=>by cases hk) rfl hit Yf (fun _ vs h=>by obtain⟨_,rfl⟩:=h;rfl) rfl (bMF ⟨rfl,rfl,rfl⟩) rfl ?_ ?_ fun _ _ _ _ h=>h.elim
 ·rintro pre x ⟨r,fb⟩ ⟨us,hx⟩ hV l bd bo vs rec hh D7 hS ⟨blo,rfl⟩ hbo_ hst hpend;obtain⟨hxl,O,hpl⟩:=aGG hbo hx;have hsl:=bHI hbo_ hxl O Yd;obtain⟨u,hu⟩:=cR x k;have hau:aRL x k=u:=aTW hu;obtain⟨R,U⟩:=O u (n5 hu);have V:=P7 R U;refine aP<|Wbl ?_;refine fun a w hhh=>O7 (A:=[(_,_),(_,_)]) (B:=[(bd,.deferred (some []))]) (r:=rec) (l:=l) Ybb hst ?_ a w hhh
  simp only[bOF,bMW];refine Za0<|Za2<|uG [] 3 7 30 (fun _ _ _ h=>h)<|Zh 0 rfl bEA rfl hE rfl<|Za rfl<|Zh 0 rfl aH rfl hB rfl<|Zx rfl U256 eD rfl hsl rfl hu fun b1 o1 hH hI hK hJ=>?_;obtain rfl:hH=ints (rD _):=hI;refine cU rfl kN rfl hJ Ym (by rw[show(ints _).length=10 by simp[V]];exact eD) n4 rfl bRD<|Zd rfl (fun D2 hX=>hq u _ R U)<|Zf rfl<|bG<|Zo rfl DS rfl Mm0 rfl<|aF<|Zag rfl (fun hc1=>?_) fun hc1=>?_
  ·refine aP<|Za rfl<|Za rfl<|Zu [qI (F u),qI (F u)] rfl A2 lL rfl<|Zz rfl eF (.tail ζ)<|Zr rfl mI ζ rfl<|aF<|aP<|Zac rfl lZ rfl Mm1 eF<|Za rfl<|Zd rfl (fun D3 hY=>LG (_,_) _ _)<|Zz rfl eF (.tail ζ) ?_;refine Zan<|Za3 ?_;exact fun a w hh=>jH (A:=[(_,_),(_,_)]) (B:=[(bd,.deferred (some []))]) ((min (F u,F u).1 (F u),max (F u,F u).2 (F u)),false) (by simpa using hV.add hau (bMF ⟨hc1,rfl⟩)) rfl rfl a w hh
  ·obtain rfl:fb=false:=hc1;refine aQ<|aP<|Zac rfl lZ rfl Mm1 eF<|Za rfl<|Zd rfl (fun D4 rA=>LG (_,_) _ _)<|Zz rfl eF (.tail ζ)<|Zan<|Za3 ?_;exact fun a w hh=>jH (A:=[(_,_),(_,_)]) (B:=[(bd,.deferred (some []))]) ((min r.1 (F u),max r.2 (F u)),false) (by simpa using hV.add hau (bLY ⟨rfl,rfl⟩)) rfl rfl a w hh
 ·rintro⟨r,fb⟩ bd hV;refine Za3<|Zay<|aA<|Zac rfl lZ rfl Mm1 eF<|Zz rfl eF (.tail ζ)<|aG ?_;exact E9 (vs:=[_]) (A:=[(_,_),(_,_)]) rfl rfl rfl ⟨⟨_,_,_,rfl,Mm1,bLY ⟨lZ,eF,rfl⟩⟩,bRD⟩ fun D hD=>hV.all
theorem YM(s:Sc)(D:aC)(h4:s.ch.length=4)(h5:s.tk.length=4):Fn prog 107 #[aBB s] D (fun _ v=>v=qI s.mixed):=by
 refine Zw 5 func107 rfl fun h0=>aA<|Zy rfl fun R E1 O I=>Zf rfl<|aJ<|Zj rfl u5 rfl<|dW (v:=qI s.mixed) rfl (k:=9) aH rfl I Yc (cW (VI h4 h5)) n4 rfl bRD<|We ?_;exact aE rfl fun D hD=>rfl
theorem K7(bv:Γ)(b:bA)(k:Int)(D:aC)(hb:gD D bv b):Fn prog 25 #[bv,qI k] D (fun _ v=>v=.tuple #[lE (if A0 b (C1.gU k 0 (b.lines.length:Int))=0 then HZ (fun s=>s.money) b k.toNat else(0,0)),qI (A0 b (C1.gU k 0 (b.lines.length:Int)))]):=by
 have O:=hb;obtain⟨lv,cv,rfl,hl,hc⟩:=hb;have hll:=hl.len;refine Zw 21 func25 rfl fun h0=>aA<|Zy rfl fun q1 E1 Y I=>Zad rfl lL rfl fun q2=>Zf rfl<|bW<|Za2<|bS [] 4 8 62<|Zv rfl gO rfl I fG<|Za rfl<|Zj rfl dN rfl<|Zh 3 rfl hG rfl I rfl ?_;refine Zah rfl U80 rfl hl rfl<|Zd rfl (fun D1 Z=>lI _ _ _ _)<|Zd rfl (fun D2 R=>MB _ b (C1.gU k 0 (b.lines.length:Int)) _ (O.up (R _ Yf)))<|Zf rfl<|aJ<|Za rfl<|Zaw rfl<|aF<|Zaf rfl (fun hc1=>?_) fun hc1=>?_
 ·refine aA<|Zu [qI 0,qI 0] rfl A2 lL rfl<|Za rfl<|Zz rfl eF ζ<|Wi ?_;exact Zq [_,_] rfl ⟨⟨_,_,_,rfl,Mm0,Or.inr ⟨lZ,Xbd,rfl⟩⟩,rfl,bRD⟩ fun D hD=>Xcj
 ·have he0:A0 b (C1.gU k 0 (b.lines.length:Int))=0:=by omega
  obtain⟨U,hfi⟩:=LZ he0;have hbo:=bJW U;rw[C1.bN]at hfi;obtain⟨n,rfl⟩:∃n:Nat,k=(n:Int):=⟨k.toNat,Yd⟩
  refine aQ<|aA<|Zv rfl gO rfl I fG<|Za rfl<|Zd rfl (fun D3 V=>aDB (fun s=>s.money) _ b n 73 _ (O.up (V _ Yf)) hbo Yd fun s D h4 h5=>aAF s D h4 h5)<|Zz rfl eF ζ<|We ?_;exact Zq [_,_] rfl ⟨⟨_,_,_,rfl,Mm0,Or.inr ⟨lZ,Xbd,rfl⟩⟩,rfl,bRD⟩ fun D hD=>Xbr
theorem aVC(bv:Γ)(b:bA)(D:aC)(hb:gD D bv b):Fn prog 49 #[bv] D (fun _ v=>v=.tuple #[lE (if A0 b (true)=0 then HZ (fun s=>s.mixed) b b.lines.length else(0,0)),qI (A0 b (true))]):=by
 have O:=hb;obtain⟨lv,cv,rfl,hl,hc⟩:=hb;have hll:=hl.len;refine Zw 16 func49 rfl fun h0=>aA<|Zy rfl fun Z E1 Y I=>Zad rfl lL rfl fun q2=>Zf rfl<|bG<|Zv rfl gO rfl I fG<|Zd rfl (fun D1 R=>MB _ b (true) _ (O.up (R _ Yf)))<|Wbg ?_;refine aF<|Zaf rfl (fun hc1=>?_) fun hc1=>?_
 ·refine aA<|Zu [qI 0,qI 0] rfl A2 lL rfl<|Za rfl<|Zz rfl eF ζ<|Wi ?_;exact Zq [_,_] rfl ⟨⟨_,_,_,rfl,Mm0,Or.inr ⟨lZ,Xbd,rfl⟩⟩,rfl,bRD⟩ fun D hD=>Xcj
 ·have he0:A0 b (true)=0:=by omega
  obtain⟨U,hfi⟩:=LZ he0;have hbo:=bJW U;refine aQ<|aA<|Zv rfl gO rfl I fG<|Zj rfl dN rfl<|Zh 3 rfl hG rfl I rfl<|Zah rfl U80 rfl hl rfl<|Zd rfl (fun D2 V=>aDB (fun s=>s.mixed) _ b b.lines.length 107 _ (O.up (V _ Yf)) hbo Yd fun s D h4 h5=>YM s D h4 h5)<|Zz rfl eF ζ<|We ?_;exact Zq [_,_] rfl ⟨⟨_,_,_,rfl,Mm0,Or.inr ⟨lZ,Xbd,rfl⟩⟩,rfl,bRD⟩ fun D hD=>Xbr
end L3
namespace L7
open C7
def iY(bh bc bo bY br n:Nat)(c:List Int):aD:=[(bh,qC [.func (.func 250) #[] #[qP bc,qP bY,qP br,qP bh]] 201),(bc,qC [qS bo n n] 323),(bo,qC (ints c) 312)]
theorem vX{c pre:List Int}{i:Nat}{k:Int}(h:c.take (i+1)=pre++[k])(hl:pre.length=i):c.take i=pre:=by
 have:=bLZ (List.take i) h;rw[List.take_take,bPH (Nat.le_succ i)]at this;rw[this,bNH Yd,bMV Yd]
def bFG(n bo:Nat):List Γ:=[qS bo n n]
def aNC(n bo:Nat)(vs:List Γ):Prop:=vs=bFG n bo
def bCA(P:Program)(Dr:aC)(lo l n:Nat)(J Jx:List (List Int)→vZ)(xs:List (List Int)):Prop:=∀pre x β D w bo,(∃r,xs=pre++x::r)→I4 lo D w→J pre β D w→(∀b∈β,b<w.heap.size)→Le Dr D→JX β D w bo (ints x)→
    jG P l (bFG n bo) w fun b D' w'=>I4 lo D' w'∧M7 β D w D' w'∧(if b then J (pre++[x]) β D' w' else Jx (pre++[x]) β D' w')
def d5(J Jx:List (List Int)→vZ)(bh bc bo bY br n:Nat)(places:List Int)(pre:List Int)(i:Nat)(done:List (List Int))(v:Γ)(J':vZ)(μ':aD):Prop:=
 ∃b c',v=.bool b∧c'.length=3*n∧c'.take i=pre∧μ'=iY bh bc bo bY br n c'∧(if b=true then J'=J (done++(C1.cE (places.drop i)).map fun t=>pre++t)else ∃p,J'=Jx p)
def aBV(p:Int)(ps pre:List Int)(k:Nat):List (List Int):=(List.range k).flatMap fun(m:Nat)=>if p=2∨p=(m:Int)then(C1.cE ps).map (fun t=>pre++(m:Int)::t)else []
theorem aTC{p:Int}{ps pre:List Int}:aBV p ps pre 0=[]:=rfl
theorem bFM{p:Int}{ps pre:List Int}{k:Nat}(h:¬(p=2∨p=(k:Int))):aBV p ps pre (k+1)=aBV p ps pre k:=by
 unfold aBV;rw[bND,bMZ,bOE,bLX h,bMM]
theorem aEV{p:Int}{ps pre:List Int}{k:Nat}(h:p=2∨p=(k:Int)):aBV p ps pre (k+1)=aBV p ps pre k++(C1.cE ps).map (fun t=>(pre++[(k:Int)])++t):=by
 unfold aBV;rw[bND,bMZ,bOE,bMG h];simp
theorem aBN{p:Int}{ps pre:List Int}:aBV p ps pre 2=(C1.cE (p::ps)).map (fun t=>pre++t):=by
 rw[show C1.cE (p::ps)=(if p=2∨p=0 then(C1.cE ps).map (0:: ·)else [])++(if p=2∨p=1 then(C1.cE ps).map (1:: ·)else [])from rfl];unfold aBV;rw[show List.range 2=[0,1]from rfl,bMS,bMS,List.flatMap_nil,bMM,bME];congr 1
 ·by_cases h:p=2∨p=0
  ·rw[bMG h,bMG Yax];simp
  ·rw[bLX h,bLX Yax];rfl
 ·by_cases h:p=2∨p=1
  ·rw[bMG h,bMG Yax];simp
  ·rw[bLX h,bLX Yax];rfl
theorem aRT{p:Int}{ps pre:List Int}{k:Nat}(hk:k<2):∃r,aBV p ps pre 2=aBV p ps pre (k+1)++r:=by
 have e:k=0∨k=1:=by omega
 rcases e with rfl|rfl
 ·refine⟨[1].flatMap fun(m:Nat)=>if p=2∨p=(m:Int)then(C1.cE ps).map (fun t=>pre++(m:Int)::t)else [],?_⟩;unfold aBV;rw[show List.range 2=[0]++[1]from rfl,bMZ];rfl
 ·exact⟨[],Yf⟩
theorem aSX{c pre:List Int}{i:Nat}{k:Int}(hi:i<c.length)(h:c.take i=pre):(c.set i k).take (i+1)=pre++[k]:=by
 rw[bLW,List.getElem?_set_self hi,bMR,List.take_set_of_le (bMH _),h]
theorem aLH{l:List Ch}{i:Nat}{p:Int}(h:(kC l)[i]?= some p):∃x,l[i / 3]?= some x∧x.parts.l[i%3]?= some p:=by
 induction l generalizing i with
 |nil=>simp[kC]at h
 |cons c l ih=>
  rw[show kC (c::l)=c.parts.a::c.parts.b::c.parts.c::kC l from rfl]at h;match i with
  |0=>exact⟨c,rfl,by simpa [Pt.l]using h⟩
  |1=>exact⟨c,rfl,by simpa [Pt.l]using h⟩
  |2=>exact⟨c,rfl,by simpa [Pt.l]using h⟩
  |j+3=>
   obtain⟨x,h1,h2⟩:=ih (i:=j) Yax;exact⟨x,by rw[show(j+3) / 3=j / 3+1 by omega];simpa using h1,by rw[show(j+3)%3=j%3 by omega];exact h2⟩
theorem X4{bh bc bo bY br n:Nat}{c:List Int}:(bo,Obj.cells (ints c).toArray 312 (0,0))∈iY bh bc bo bY br n c:=bMJ _ Mm1
theorem bJL(i:Nat):0+((i:Int) / 3).toNat*3+((i:Int)%3).toNat*1=i:=by omega
theorem zJ{lo l:Nat}{J Jx:List (List Int)→vZ}{y:bC}{xs:List (List Int)}{Dr Dy:aC}{Ds:List aC}{bh bc bo bY br:Nat}{cv qv:Γ}(hN:y.chairs.length≤7)
  (hs:∀pre,V6 lo (J pre)) (hsx:∀pre,V6 lo (Jx pre)) (hY:bCA prog Dr lo l y.chairs.length J Jx xs) (hDr:Dr∈Ds) (hDy:Dy∈Ds) (hA:At Dr br 0 [cv,qI y.fit,qv]) (hc:Sl Dr zS 4 cv y.chairs) (hB:At Dy bY 0 [.func (.yield l) #[] #[]]):
  ∀(j i:Nat) (pre c:List Int) (done rest:List (List Int)) (iv:Int),iv=i→i+j=3*y.chairs.length→pre.length=i→c.length=3*y.chairs.length→c.take i=pre→
   xs=done++(C1.cE ((kC y.chairs).drop i)).map (fun t=>pre++t)++rest→
   bJB prog 250 [qI iv,qP bc,qP bY,qP br,qP bh] lo (J done) (iY bh bc bo bY br y.chairs.length c) Ds (d5 J Jx bh bc bo bY br y.chairs.length (kC y.chairs) pre i done):=by
 intro j;induction j using Nat.strongRecOn with
 |_ j ih=>
 intro i pre c done rest iv hiv hij hl h9 hp hxs;subst hiv;have hmx:=hc.len;have hfl:=qT y.chairs;refine U6 (μ:=iY bh bc bo bY br y.chairs.length c) 52 func250 rfl rfl rfl rfl<|aA<|Zf rfl<|aJ<|Za rfl<|KO rfl rfl rfl Yd Yd Ye rfl bRD<|Za rfl<|yJ rfl rfl rfl Yd Yd Ye rfl bRD<|Zf rfl<|Zf rfl<|bG<|Za rfl ?_;refine Zo rfl OD rfl Mm1 rfl<|lX rfl U323 rfl rfl rfl bRD<|Zap rfl<|aF<|Zaf rfl (fun hc1=>?_) fun hc1=>?_
 ·have hin:i=3*y.chairs.length:=by omega
  subst hin;have hleaf:c=pre:=by rw[←hp,bMV Yd]
  rw[←hfl,bQP]at hxs;simp only[C1.cE,bMT,bQB,bMM]at hxs;rw[←hleaf,bMC,bPI]at hxs;refine aA<|Zh 0 rfl bBX rfl hB rfl<|Zo rfl OD rfl Mm1 rfl<|KU (l:=l) (J1:=J (done++[c])) (J0:=Jx (done++[c])) rfl rfl rfl rfl (hs _) (hsx _) (fun D w hd hJ hb hl=>hY done c _ D w bo ⟨rest,hxs⟩ hd hJ (fun b hbm=>Xda) (hl _ hDr) ⟨GE.2 ⟨_,X4,rfl⟩,(hb _ X4).2,_,_,(hb _ X4).1⟩) rfl bRD fun U J1 V=>Wi ?_
  exact mQ (P:=prog) (fn:=f250) (N:=52) (vs:=[_]) rfl rfl ⟨rfl,bRD⟩ (fun D h=>⟨D,h,Le.refl D⟩) ⟨U,c,rfl,h9,hp,rfl,by cases U<;>simp only[V,bOC,bNN,bOO];exact⟨_,rfl⟩;rw[←hfl,bQP];simp[C1.cE,hleaf]⟩
 ·have hin:i<(kC y.chairs).length:=by omega
  obtain⟨p,hpi⟩:=cR (kC y.chairs) i;obtain⟨x,Y,hm⟩:=aLH hpi;have hx:y.chairs[((i:Int) / 3).toNat]?= some x:=by rw[show((i:Int) / 3).toNat=i / 3 by omega];exact Y
  have hd:(kC y.chairs).drop i=p::(kC y.chairs).drop (i+1):=by rw[bNC hin];congr 1;exact bMQ ((bLR hin).symm.trans hpi)
  rw[hd,←aBN]at hxs;refine aQ<|bZ<|Za rfl<|aF<|Za0<|CZ (γ:=Nat×List Int) (fun g=>2-g.1) (fun g=>g.1≤2∧g.2.length=3*y.chairs.length∧g.2.take i=pre) (fun g=>J (done++aBV p ((kC y.chairs).drop (i+1)) pre g.1)) (fun g=>[(22,qI (g.1:Int))]) [(8,_),(7,_),(6,_),(0,_),(1,_),(3,_),(4,_)] (fun g=>iY bh bc bo bY br y.chairs.length g.2) (fun g=>Ds) (0,c) ⟨Yf,h9,hp⟩ (by simp[aTC]) ⟨Ya,bRD⟩ bQ Mm5 (aK) ?_;rintro⟨k,c1⟩ ⟨Z,I,O⟩;simp only at Z I O;refine aA<|Zam rfl<|bW<|Zaf rfl (fun hc2=>?_) fun hc2=>?_
  ·refine aQ<|Za2<|Za0<|aA<|Za rfl<|Zf rfl<|aJ<|Zj rfl iH rfl<|Zh 0 rfl pE rfl hA rfl<|Za rfl<|Za rfl<|Zx rfl U84 mC rfl hc rfl hx fun U o1 hE hF hK hH=>?_;obtain rfl:hE=[qI _,qI _,qI _,qI _]:=hF;refine Zj rfl Q8 rfl<|eX rfl U312 aI rfl rfl Yd Yd rfl bRD<|dW (o:=_+1) (k:=((i:Int)%3).toNat*1) rfl aH rfl hH.tail Ym (by rw[show((i:Int)%3).toNat=i%3 by omega];exact aTX hm) n4 rfl bRD<|Zf rfl<|aJ<|Za rfl<|Was ?_
   refine' dQ 4 (s:=35) (p:=39) rfl (fun hI=>?_) (fun hI=>?_) ?_;rotate_left
   ·refine Zb rfl<|Zb rfl<|Wbi ?_;exact aN 3
   ·refine Wbo ?_;exact aN 3
   refine aF<|Zag rfl (fun hc3=>?_) fun hc3=>?_
   ·have hpk:p=2∨p=(k:Int):=by simpa using hc3
    obtain⟨rr,hr⟩:=aRT (p:=p) (ps:=(kC y.chairs).drop (i+1)) (pre:=pre) (k:=k) Yd;refine aA<|Zo rfl OD rfl Mm1 rfl<|Za rfl<|Za rfl<|Za rfl<|eP rfl U323 oQ rfl rfl Yd Yd rfl bRD<|eX rfl U312 aI rfl rfl Yd Yd rfl bRD<|yF (k:=i) rfl aI (by show some (Value.pointer (some ⟨bo,0+((i:Int) / 3).toNat*3+((i:Int)%3).toNat*1,none⟩))=_;rw[bJL]) rfl (.tail (.tail ζ)) Yn bRD<|aJ<|Zo rfl qF rfl Mm0 rfl<|Za rfl<|Zae rfl ?_;refine wX rfl rfl rfl rfl (ih (j-1) Yd (i+1) (pre++[(k:Int)]) (c1.set i k) (done++aBV p ((kC y.chairs).drop (i+1)) pre k) (rr++rest) (i+1:Int) Yd Yd Yap (by simpa using I) (aSX Yd O) (by rw[hxs,hr,aEV hpk];simp)) rfl bRD ?_
    rintro _ J2 _ ⟨b2,c2,rfl,h9',hp',rfl,hJ2⟩;refine Zas rfl<|aF<|Zag rfl (fun R=>?_) fun R=>?_
    ·obtain rfl:b2=false:=by simpa using R
     refine aA<|Wh ?_;exact mQ (P:=prog) (fn:=f250) (N:=52) (vs:=[_]) rfl rfl ⟨rfl,bRD⟩ (fun D h=>⟨D,h,Le.refl D⟩) ⟨false,c2,rfl,h9',vX hp' hl,rfl,by simpa using hJ2⟩
    ·obtain rfl:b2=true:=by simpa using R
     refine Wca ?_;exact uY 30 (k+1,c2) ⟨Yn,h9',vX hp' hl⟩ Yn (by simpa only[bOC,aEV hpk,bMC]using hJ2) ⟨Ya,bRD⟩ rfl rfl Mm5 (aK)
   ·have hpk:¬(p=2∨p=(k:Int)):=by simpa using hc3
    refine Wca ?_;exact uY 19 (k+1,c1) ⟨Yn,I,O⟩ Yn (by rw[bFM hpk]) ⟨Ya,bRD⟩ rfl rfl Mm5 (aK)
  ·refine Wk ?_;exact mQ (P:=prog) (fn:=f250) (N:=52) (vs:=[_]) rfl rfl ⟨rfl,bRD⟩ (fun D h=>⟨D,h,Le.refl D⟩) ⟨true,c1,rfl,I,O,rfl,by simp only[bOC];rw[hd,←aBN,show k=2 by omega]⟩
theorem V4(y:bC)(Dr:aC)(br:Nat)(cv qv:Γ)(I:y.chairs.length≤7)(hA:At Dr br 0 [cv,qI y.fit,qv])(hc:Sl Dr zS 4 cv y.chairs):
  MC prog 249 [qP br] Dr (C1.cE (kC y.chairs)) (aNC y.chairs.length) ints:=by
 refine FZ 12 func249 rfl rfl rfl rfl fun lo l J Jx hs hsx hY=>aA<|Zy rfl fun V E1 R O=>aJ<|Zj rfl iH rfl<|Zh 0 rfl pE rfl hA rfl<|Zah rfl U84 rfl hc rfl<|uA rfl U323 oQ d7 rfl aYV rfl rfl Yd (W2 Yf rfl) rfl bRD fun bo=>Zad rfl aWW rfl fun Y=>Zr rfl aZA ζ rfl<|aJ<|Zad rfl DO rfl fun Z=>?_;refine aJ<|Zax rfl<|Zr rfl CE ζ rfl<|aF<|aP<|Zo rfl qF rfl Mm0 rfl<|wX rfl rfl rfl rfl (zJ (l:=l) I hs hsx (fun pre x β D w bo h1 h2 h3 h4 h5 U=>hY pre x β D w bo _ h1 h2 h3 h4 h5 rfl U) Yf Yf hA hc O (3*y.chairs.length) 0 [] (List.replicate (y.chairs.length*3) 0) [] [] 0 rfl Yd rfl Yap rfl Yf) rfl bRD ?_;rintro _ J2 _ ⟨b2,c2,rfl,h9',hp',rfl,hJ2⟩;refine Zan ?_;exact mQ (P:=prog) (fn:=f249) (N:=12) (vs:=[]) rfl rfl bRD (fun D h=>⟨D,Xbo,Le.refl D⟩) Ybf
theorem uT(yv:Γ)(y:bC)(D:aC)(hy:iR D yv y)(I:y.chairs.length≤7):
  Fn prog 183 #[yv] D (fun D' v=>∃br,v=.func (.func 249) #[] #[qP br]∧MC prog 249 [qP br] D' (C1.cE (kC y.chairs)) (aNC y.chairs.length) ints):=by
 obtain⟨cv,qv,rfl,hc,hq⟩:=hy;refine Zw 4 func183 rfl fun h0=>aA<|Zy rfl fun R E1 U O=>Zf rfl<|aJ<|Zax rfl<|We ?_;exact aE rfl fun D hD=>⟨_,rfl,V4 y _ R cv qv I (O.up (hD _ Yf)) (hc.up zS.up (hD _ Yf))⟩
def X1(s:Sc):List Int:=(s.whole:Int)::(s.broken:Int)::s.fits.map fun n:Nat=>(n:Int)
theorem tK(s:Sc)(h:s.fits.length=7):(X1 s).length=9:=by simp[X1,h]
theorem aNH(s:Sc):aBB s=.agg (ints (X1 s)).toArray:=by
 unfold aBB DH X1 ints;rw[bMT,bMT,bQC];rfl
theorem bCI{s s':Sc}(h:X1 s=X1 s'):s=s':=by
 obtain⟨a,b,c⟩:=s;obtain⟨a',b',c'⟩:=s';simp only[X1,bOH]at h;obtain⟨h1,h2,h3⟩:=h;rw[AB h3,show a=a' by omega,show b=b' by omega]
def Z2(acc:List (Sc×Nat)):List Int:=match acc.getLast? with
 |some p=>X1 p.1
 |none=>[]
def tF(y:bC)(out:List Int)(acc:List (Sc×Nat))(t:List Pt):List (Sc×Nat):=
 if(pB y.claims out (wP y.chairs.length (dK y t):Int)&&(decide ((acc.length:Int)=0)|| !(Z2 acc==X1 (dK y t))))=true then acc++[(dK y t,wP y.chairs.length (dK y t))]else acc
def iU(y:bC)(out:List Int)(pre:List (List Int)):List (Sc×Nat):=(pre.map W4).foldl (tF y out) []
def dT(y:bC)(out:List Int):List (Sc×Nat):=(OH y).foldl (tF y out) []
theorem y3(y:bC)(out:List Int):iU y out (C1.cE (kC y.chairs))=dT y out:=rfl
theorem GP(y:bC)(out:List Int)(pre:List (List Int))(x:List Int):iU y out (pre++[x])=tF y out (iU y out pre) (W4 x):=by
 unfold iU;rw[bME,bNM];rfl
theorem aGX(y:bC)(out:List Int)(acc:List (Sc×Nat))(t:List Pt):(tF y out acc t).length≤acc.length+1:=by
 unfold tF;split
 ·simp
 ·omega
theorem JB(y:bC)(out:List Int)(pre:List (List Int)):(iU y out pre).length≤pre.length:=by
 have key:∀(l:List (List Pt)) (acc:List (Sc×Nat)),(l.foldl (tF y out) acc).length≤acc.length+l.length:=by
  intro l;induction l with
  |nil=>intro acc;simp
  |cons t l ih=>intro acc;rw[bMO];have:=ih (tF y out acc t);have:=aGX y out acc t;rw[bLU];omega
 have:=key (pre.map W4) [];simpa [iU]using this
theorem EC(y:bC)(out:List Int)(pre:List (List Int)):∀p∈iU y out pre,p.1.fits.length=7:=by
 have key:∀(l:List (List Pt)) (acc:List (Sc×Nat)),(∀p∈acc,p.1.fits.length=7)→∀p∈l.foldl (tF y out) acc,p.1.fits.length=7:=by
  intro l;induction l with
  |nil=>intro acc h;exact h
  |cons t l ih=>
   intro acc h;rw[bMO];refine ih _ fun p hp=>?_
   unfold tF at hp;split at hp
   ·rcases bMD.1 hp with hp|hp
    ·exact h p hp
    ·simp only[bMI]at hp;subst hp;simp[dK]
   ·exact h p hp
 exact key _ [] Yf
def l9(l:List Sc):List Γ:=l.flatMap fun s=>ints (X1 s)
theorem SD{l:List Sc}(h:∀s∈l,s.fits.length=7):(l9 l).length=l.length*9:=by
 induction l with
 |nil=>rfl
 |cons c l ih=>
  have:=ih fun s hs=>h s (LE _ hs)
  unfold l9 at this ⊢
  rw[bMS,bLT,this,aM,tK c (h c bLP),bLU];omega
theorem GF{acc:List (Sc×Nat)}(h:∀p∈acc,p.1.fits.length=7):(l9 (acc.map fun p=>p.1)).length=acc.length*9:=by
 rw[SD fun s hs=>by obtain⟨p,hp,rfl⟩:=GE.1 hs;exact h p hp,bNE]
theorem TX{l:List Sc}(h:∀s∈l,s.fits.length=7){i:Nat}{s:Sc}(hi:l[i]?= some s)(junk:List Γ):((l9 l++junk).drop (i*9)).take 9=ints (X1 s):=by
 induction l generalizing i with
 |nil=>simp at hi
 |cons d l ih=>
  have I:(ints (X1 d)).length=9:=by rw[aM,tK d (h d bLP)]
  have hc:l9 (d::l)=ints (X1 d)++l9 l:=rfl;rw[hc,bMC];cases i with
  |zero=>
   obtain rfl:d=s:=by simpa using hi
   rw[bPY,bPN,bNH Yd,bMV Yd]
  |succ i=>
   rw[bPZ,bNK Yd,bMW,show(i+1)*9-(ints (X1 d)).length=i*9 by omega];exact ih (fun s hs=>h s (LE _ hs)) Yas
def VZ:Rd Sc:=fun _ s cs=>cs=ints (X1 s)
theorem VZ.up:VZ.Up:=fun _ _ _ h=>h
theorem _root_.Go.Fs.kH.scs{D:aC}{v:Γ}{n:Nat}{acc:List (Sc×Nat)}(hF:kH D v n (l9 (acc.map fun p=>p.1)))(hn:(acc.map fun p=>p.1).length=n)(hb:n≤9223372036854775807)(h:∀p∈acc,p.1.fits.length=7:=by assumption):Sl D VZ 9 v (acc.map fun p=>p.1):=by
 have h':∀s∈acc.map fun p=>p.1,s.fits.length=7:=fun s hs=>by obtain⟨p,hp,rfl⟩:=GE.1 hs;exact h p hp
 exact hF.sl hn hb fun i s hi=>⟨_,rfl,by rw[aM,tK s (h' s (n5 hi))],by have:=TX h' hi [];rwa [bMM]at this⟩
theorem JA{acc:List (Sc×Nat)}(h:∀p∈acc,p.1.fits.length=7)(hne:acc≠[]):(Z2 acc).length=9:=by
 unfold Z2;rw[bPF hne];exact tK _ (h _ (List.getLast_mem hne))
theorem aOH{acc:List (Sc×Nat)}(h:∀p∈acc,p.1.fits.length=7)(hne:acc≠[])(junk:List Γ):((l9 (acc.map fun p=>p.1)++junk).drop (0+(((acc.length:Int)-1).toNat)*9)).take 9=ints (Z2 acc):=by
 have h':∀s∈acc.map fun p=>p.1,s.fits.length=7:=fun s hs=>by obtain⟨p,hp,rfl⟩:=GE.1 hs;exact h p hp
 have hpos:=bPC.2 hne;unfold Z2;rw[bPF hne,bOM];refine TX h' ?_ junk;rw[bNB,show((acc.length:Int)-1).toNat=acc.length-1 by omega,←List.getLast?_eq_getElem?,bPF hne];rfl
theorem bIW{D:aC}{bo n:Nat}{x:List Int}(h:At D bo 0 (ints x))(hx:x.length=3*n)(hn:n≤7):Sl D RP 3 (qS bo n n) (W4 x):=by
  obtain⟨h1,h2⟩:=ND _ _ hx;have hle:n≤9223372036854775807∨True:=bLY trivial;have key:∀(l:List Pt) (i:Nat) (p:Pt),l[i]?= some p→((ints (C7.oG l)).drop (i*3)).take 3=[qI p.a,qI p.b,qI p.c]:=by
    intro l;induction l with
    |nil=>intro i p hi;simp at hi
    |cons d l ih=>
      intro i p hi;cases i with
      | zero => obtain rfl : d = p := by simpa using hi
                rfl
      |succ i=>
        rw[C7.vQ,show(i+1)*3=i*3+3 by omega];exact ih i p Yas
  refine⟨_,n,by rw[h2],Yd,?_,bLY ⟨bo,0,rfl,fun i p hi=>⟨_,rfl,rfl,fun j v hj=>?_⟩⟩⟩
  · rw[h2];omega
  · have:=key _ _ _ hi;rw[h1]at this;rw[←this,List.getElem?_take]at hj;split at hj
    · rw[bOJ]at hj;have:=h _ v hj;rw[show 0+i*3+j=0+(i*3+j) by omega];exact this
    · cases hj
def bAH(y:bC)(out:List Int)(pre:List (List Int))(g:Array MapEntry×Nat×List (xI 8×Int)×Γ×aD×Γ×aD):Prop:=
 I7 BH g.1 g.2.2.1∧HT y.chairs.length g.2.2.1∧bM 327 9 g.2.2.2.1 (iU y out pre).length (l9 ((iU y out pre).map fun p=>p.1)) g.2.2.2.2.1∧bM 3 1 g.2.2.2.2.2.1 (iU y out pre).length (ints ((iU y out pre).map fun p=>(p.2:Int))) g.2.2.2.2.2.2
theorem NG{y:bC}{out:List Int}{pre:List (List Int)}{x:List Int}{es:Array MapEntry}{cl:Nat}{M:List (xI 8×Int)}{v u:Γ}{ν ω:aD}(hM:I7 BH es M)(hok:HT y.chairs.length M)
  (hc:(pB y.claims out (wP y.chairs.length (dK y (W4 x)):Int)&&(decide (((iU y out pre).length:Int)=0)|| !(Z2 (iU y out pre)==X1 (dK y (W4 x)))))=true)
  (h1:bM 327 9 v ((iU y out pre).length+1) (l9 ((iU y out pre).map fun p=>p.1)++ints (X1 (dK y (W4 x)))) ν) (h2:bM 3 1 u ((iU y out pre).length+1) (ints ((iU y out pre).map fun p=>(p.2:Int))++[qI (wP y.chairs.length (dK y (W4 x)):Int)]) ω):bAH y out (pre++[x]) (es,cl,M,v,ν,u,ω):=by
 have e:iU y out (pre++[x])=iU y out pre++[(dK y (W4 x),wP y.chairs.length (dK y (W4 x)))]:=by
  rw[GP,tF,bMG hc]
 unfold bAH;rw[e];refine⟨hM,hok,?_,?_⟩
 ·simpa [l9]using h1
 ·simpa [ints]using h2
theorem bFN{y:bC}{out:List Int}{pre:List (List Int)}{x:List Int}{es:Array MapEntry}{cl:Nat}{M:List (xI 8×Int)}{v u:Γ}{ν ω:aD}(hM:I7 BH es M)(hok:HT y.chairs.length M)
  (hc:(pB y.claims out (wP y.chairs.length (dK y (W4 x)):Int)&&(decide (((iU y out pre).length:Int)=0)|| !(Z2 (iU y out pre)==X1 (dK y (W4 x)))))=false)
  (h1:bM 327 9 v (iU y out pre).length (l9 ((iU y out pre).map fun p=>p.1)) ν) (h2:bM 3 1 u (iU y out pre).length (ints ((iU y out pre).map fun p=>(p.2:Int))) ω):bAH y out (pre++[x]) (es,cl,M,v,ν,u,ω):=by
 have e:iU y out (pre++[x])=iU y out pre:=by
  rw[GP,tF,bLX (by rw[hc];simp)]
 unfold bAH;rw[e];exact⟨hM,hok,h1,h2⟩
theorem UE{y:bC}(h:y.chairs.length≤7):(C1.cE (kC y.chairs)).length≤2097152:=by
 have h1:=C1.sO (kC y.chairs);have h2:2^(kC y.chairs).length≤2^21:=bNQ Yd (by rw[qT];omega)
 omega
theorem Q6{l x:List Int}{pre r:List (List Int)}(h:C1.cE l=pre++x::r):x.length=l.length∧(∀n∈x,0≤n∧n≤1)∧pre.length<(C1.cE l).length:=by
 have hm:x∈C1.cE l:=by rw[h];simp
 exact⟨(C1.qL hm).1,(C1.qL hm).2,Ybh⟩
theorem aNS{x:List Int}(h:∀n∈x,0≤n∧n≤1)(hg:C7.oG (W4 x)=x):∀p∈W4 x,wL p:=fun p hp=>by
 have:∀n∈p.l,n∈x:=fun n hn=>by rw[←hg];exact bPE.2 ⟨p,hp,hn⟩
 exact⟨h _ (this _ (by simp[Pt.l])),h _ (this _ (by simp[Pt.l])),h _ (this _ (by simp[Pt.l]))⟩
theorem aXW(A ν ω T:aD):A++(ν++(ω++T))=A++(ν++ω)++T:=by simp
theorem bKY(A ν ω T:aD):A++((ν++ω)++T)=A++ν++(ω++T):=by simp
theorem bEF{a b c d:Nat}{l:List Nat}:∀k∈[c,d],k∈a::b::c::d::l:=fun k hk=>by
 simp only[bLO,n4,bNV]at hk ⊢
 rcases hk with rfl|rfl
 ·exact bLY (bLY (bMF rfl))
 ·exact bLY (bLY (bLY (bMF rfl)))
theorem bLJ{A B ν ω C:aD}{k:Nat}(h:(((A++B)++(ν++(ω++C))).map fun p=>p.1).Nodup)(hk:k∈(A++B).ks):k∉ν.ks++ω.ks:=by
 rw[bME,bME,bME,bMB]at h;intro hm;refine h.2.2 k Xay k ?_ rfl;rcases bMD.1 hm with hm|hm
 ·exact bMA _ hm
 ·rw[bME];exact GT _ (bMA _ hm)
theorem aVS{n:Nat}{s:Sc}(h:VT n s)(hn:n≤7):wP n s≤200:=by
 have h1:=YN s.fits n s.broken;have h2:=NX h.bits hn;have h3:=h.whole;unfold wP;omega
theorem bGE:KS prog 327 9:=by
 have hf:(prog.fieldsOf 327).toList=[(prog.fieldsOf 327)[0]!,(prog.fieldsOf 327)[1]!,(prog.fieldsOf 327)[2]!]:=by kernel_rfl
 refine⟨Yg,Yg,Yg,?_⟩;rw[hf];refine .cons (H6.int Xaa Yg Yg) (.cons (H6.int Xaa Yg Yg) (.cons (n:=7) (H6.arr (e:=3) Xaa Yg Yg Yg Yg ?_ ?_) .nil))
 ·rw[show((prog.fieldsOf 327)[2]!).type=325 by kernel_rfl];exact Y5
 ·rw[show((prog.fieldsOf 327)[2]!).type=325 by kernel_rfl];exact zP
theorem aGK(yv tv:Γ)(y:bC)(t:List Pt)(D:aC)(hy:iR D yv y)(ht:Sl D RP 3 tv t)(hlen:t.length=y.chairs.length)(I:t.length≤7)(hb:∀p∈t,wL p)(hf:0≤y.fit∧y.fit≤9)(hs:∀c∈y.chairs,0≤c.size∧c.size≤9):Fn prog 184 #[yv,tv] D (fun _ v=>v=.agg (ints (X1 (dK y t))).toArray):=by
 rw[←aNH];exact aRS yv tv y t D hy ht hlen I hb hf hs
theorem aUK(wb mb:Nat)(cv qv:Γ)(fit:Int)(chs:List Ch)(s:Sc)(I:chs.length≤7)(hs:VT chs.length s)(es:Array MapEntry)(clock:Nat)(M:List (xI 8×Int))(D:aC)(hS:Sl D zS 4 cv chs)(hM:I7 BH es M)(hok:HT chs.length M):
  HO prog 185 [qP wb,.agg (ints (X1 s)).toArray] D [(wb,qC [cv,qI fit,qv,.map (some mb)] 319),(mb,.map es clock)] (fun _ v ν'=>v=qI (wP chs.length s:Int)∧∃es' clock' M',ν'=[(wb,qC [cv,qI fit,qv,.map (some mb)] 319),(mb,.map es' clock')]∧I7 BH es' M'∧HT chs.length M'):=by
 rw[←aNH];exact bCC wb mb cv qv fit chs s I hs es clock M D hS hM hok
theorem JU(wb mb:Nat)(cv qv:Γ)(y:bC)(out:List Int)(ov:Γ)(hE:y.chairs.length≤7)(hft:0≤y.fit∧y.fit≤9)(hsz:∀c∈y.chairs,0≤c.size∧c.size≤9)(hR:Array MapEntry)(clock0:Nat)(M0:List (xI 8×Int))(D:aC)(hS:Sl D zS 4 cv y.chairs)(hq:Sl D R2 2 qv y.claims)(ho:Sl D RI 1 ov out)(hM0:I7 BH hR M0)(hok0:HT y.chairs.length M0):
  HO prog 110 [qP wb,ov] D [(wb,qC [cv,qI y.fit,qv,.map (some mb)] 319),(mb,.map hR clock0)] (fun D' v ν'=>∃sv mv,v=.tuple #[sv,mv]∧Sl D' VZ 9 sv ((dT y out).map fun p=>p.1)∧Sl D' RI 1 mv ((dT y out).map fun p=>(p.2:Int))∧∃es' clock' M',ν'=[(wb,qC [cv,qI y.fit,qv,.map (some mb)] 319),(mb,.map es' clock')]∧I7 BH es' M'∧HT y.chairs.length M'):=by
 obtain⟨oa,oc,rfl⟩:=ho.shape;refine ZP 56 func110 rfl rfl rfl rfl fun h0 hwl hwn=>aA<|Zy rfl fun q1 E1 hE1 hK=>Zy rfl fun q2 E2 hE2 hB2=>Zad rfl aCP rfl fun q3=>Zad rfl vD rfl fun q4=>bG<|Zh 0 rfl CQ rfl hK rfl<|Zal rfl<|Zj rfl R5 rfl<|dX rfl mN lH rfl Mm2 rfl rfl n4 rfl bRD<|Zaa rfl (fun D1 hX=>uT _ y _ ⟨_,_,rfl,hS.up zS.up (hX _ Yf),hq.up R2.up (hX _ Yf)⟩ hE) fun v1 D1 hX hp1=>?_;refine aF<|Za0 ?_;obtain⟨br,rfl,hit⟩:=hp1;refine Z5 (γ:=Array MapEntry×Nat×List (xI 8×Int)×Γ×aD×Γ×aD) (xs:=C1.cE (kC y.chairs)) (enc:=aNC y.chairs.length) (cells:=ints) (Dr:=D1) (bAH y out) (fun _ _ _=>False) (fun g=>(q4,qC [g.2.2.2.2.2.1] 35)::(q3,qC [g.2.2.2.1] 212)::(wb,qC [cv,qI y.fit,qv,.map (some mb)] 319)::(mb,.map g.1 g.2.1)::(g.2.2.2.2.1++g.2.2.2.2.2.2)) (hR,clock0,M0,qN,[],qN,[]) rfl rfl (fun g k hk=>LE _ (LE _ (bMA (aD.ks _) hk))) rfl hit Yf (fun _ vs h=>by rw[h];rfl) rfl ⟨hM0,hok0,by simpa [iU,l9]using bM.nil,by simpa [iU,ints]using bM.nil⟩ rfl ?_ ?_ fun _ _ _ _ h=>h.elim
 ·rintro pre x ⟨es,clock,M,v,ν,u,ω⟩ ⟨us,hx⟩ ⟨hM,hok,O,R⟩ l bd bo vs rec hh D7 hD7 henc hbo hst hpend;obtain rfl:vs=bFG y.chairs.length bo:=henc;simp only at hM hok O R;obtain⟨hY,hxb,hpl⟩:=Q6 hx;have hcap:=UE hE;rw[qT]at hY;have ht:=bIW hbo hY hE;obtain⟨rA,hF⟩:=ND _ _ hY;have htl:(W4 x).length=y.chairs.length:=hF;have htb:=aNS hxb rA;have hsc:=P3 htl Yd;have hpsl:=JB y out pre;have hmb:=aVS hsc hE;have I:∀p∈iU y out pre,p.1.fits.length=7:=EC y out pre;have hs9:=tK (dK y (W4 x)) (by simp[dK]);refine aP<|Wbl ?_;refine fun a w hhh=>O7 (A:=[(_,_),(_,_),(_,_),(_,_)]++(ν++ω)) (B:=[(bd,.deferred (some []))]) (r:=rec) (l:=l) Ybb hst ?_ a w hhh
  refine KP ((q4,qC [u] 35)::(q3,qC [v] 212)::(wb,qC [cv,qI y.fit,qv,.map (some mb)] 319)::(mb,.map es clock)::(ν++(ω++[(l,.loop {rec with state:=.busy}),(bd,.deferred (some []))]))) Yf<|pW fun hnd=>?_;simp only[bMT,bME,bQB,bNP,bMB,bLO,bMD,n4,bQX]at hnd;refine Za0<|aA<|Zh 0 rfl CQ rfl hK rfl<|Zal rfl<|Zj rfl R5 rfl<|dX rfl mN lH rfl Mm2 rfl rfl n4 rfl bRD<|Za rfl<|Zd rfl (fun D2 rB=>aGK _ _ y (W4 x) _ ⟨_,_,rfl,hS.up zS.up (rB _ Yf),hq.up R2.up (rB _ Yf)⟩ (ht.up RP.up (rB _ Yf)) htl Yd htb hft hsz)<|Zad rfl xC rfl fun q5=>bE rfl rfl rfl rfl hZ Xap Ybb .head (dS _) bRD<|aJ<|Zh 0 rfl CQ rfl hK rfl ?_;refine bI (vs:=ints (X1 (dK y (W4 x)))) rfl uD rfl Mm0 Xcl n4 rfl bRD<|aY ([(_,_),(_,_),(_,_)]++[(_,_),(_,_)]++(ν++(ω++[(l,_),(bd,_)]))) rfl<|gH (A:=[(_,_),(_,_),(_,_)]) (ν:=[(_,_),(_,_)]) (B:=ν++(ω++[(l,_),(bd,_)])) rfl rfl rfl rfl (bMF rfl) (IT (cs:=[_,_,_,_])) (fun D5 hD5=>aUK wb mb cv qv y.fit y.chairs (dK y (W4 x)) hE hsc es clock M D5 (hS.up zS.up (hD5 _ Yf)) hM hok) rfl bRD fun v5 D6 _ hD6 hp5=>?_
  obtain⟨rfl,U,V,M1,rfl,hN,hB⟩:=hp5;refine Zf rfl<|bW<|uG [] 7 22 319536 (fun _ _ _ h=>h)<|Zh 0 rfl CQ rfl hK rfl<|Zal rfl<|Zj rfl R5 rfl<|dX rfl mN lH rfl Mm3 rfl rfl n4 rfl bRD<|Za rfl<|Zh 0 rfl cF rfl hB2 rfl<|Zd rfl (fun D3 hD3=>HD _ y _ _ out _ ⟨_,_,rfl,hS.up zS.up (hD3 _ Yf),hq.up R2.up (hD3 _ Yf)⟩ (ho.up RI.up (hD3 _ Yf)))<|Za rfl ?_;refine' bU 14 (s:=31) (p:=45) rfl (fun rA=>?_) (fun rA=>?_) ?_;rotate_left
  ·refine Zp rfl wY rfl Mm2 rfl<|cG rfl U212 rfl O rfl rfl ⟨_,rfl,rfl⟩<|rH rfl rfl rfl rfl ⟨_,rfl,rfl⟩<|Zb rfl ?_;refine' dQ 9 (s:=35) (p:=44) rfl (fun hF=>?_) (fun hF=>?_) ?_;rotate_left
   ·have hne:iU y out pre≠[]:=fun e=>by rw[e]at hF;simp at hF
    have hpos:=bPC.2 hne;obtain⟨b5,cap5,hH,rfl,hcp5,rfl,hl51,hl52⟩:=O.some hpos;refine Zp rfl wY rfl Mm2 rfl<|Zp rfl wY rfl Mm2 rfl<|lX rfl U212 rfl rfl rfl ⟨_,rfl,rfl⟩<|xF rfl rfl rfl Ye rfl ⟨_,rfl,rfl⟩<|eP rfl U212 hZ rfl rfl Yd Yd rfl ⟨_,rfl,rfl⟩<|dX (vs:=l9 ((iU y out pre).map fun p=>p.1)++hH) (us:=ints (Z2 (iU y out pre))) rfl uD hZ rfl (bMJ _ (bMJ _ Mm3)) (aOH I hne hH) (by simpa using JA I hne) n4 rfl ⟨_,rfl,rfl⟩<|bI (vs:=ints (X1 (dK y (W4 x)))) rfl uD rfl Mm0 Xcl n4 rfl ⟨_,rfl,rfl⟩<|bGW (n:=9) rfl bGE (JA I hne) hs9 rfl rfl rfl ⟨_,rfl,rfl⟩<|oW rfl rfl rfl rfl ⟨_,rfl,rfl⟩ ?_
    exact aN 8
   ·refine Zg rfl<|Zg rfl<|Zg rfl<|Zg rfl<|Zg rfl<|Zg rfl<|Ws ?_;exact aN 8
   refine Zaj rfl ?_;exact aN 5
  ·refine Wak ?_;refine Zg rfl<|Zak rfl ?_;exact aN 13
  refine aF<|Zag rfl (fun hc1=>?_) fun hc1=>?_
  ·refine pW fun hnd=>?_;have hq5:=bLJ (A:=[_,_,_]) (B:=[_,_]) (k:=q5) hnd Mm0;have hq4:=bLJ (A:=[_,_,_]) (B:=[_,_]) (k:=q4) hnd Mm1;have hq3:=bLJ (A:=[_,_,_]) (B:=[_,_]) (k:=q3) hnd Mm2;refine oT (ν.ks++ω.ks) 3 [false,true,true,true,true,true,true,false,false,false] [.fork [0,1,4,5] 2 (.fork [] 3 (.fin [6]) 6 (.fin [3])) 6 (.fin [2,3]),.fin [7,8,9]] bB (fun _ _ _ h=>h) Yg<|sX<|bP [(false,0),(true,1),(true,4),(true,5)] rfl<|bD rfl wY rfl Mm2 rfl Ym rfl bRD<|bI (vs:=ints (X1 (dK y (W4 x)))) rfl uD rfl Mm0 Xcl hq5 rfl bRD<|bD rfl cF rfl Mm1 rfl Ym rfl bRD<|Za rfl<|Zan (dV true true rfl rfl ?_ ?_)
   ·refine Zt rfl U212 hZ xC rfl (.cons rfl Xap .nil) fun b901 D901 hD901 Z=>?_;have hAs:=Z;refine Zan<|bP [] rfl<|Zan (dV true true rfl rfl ?_ ?_)
    ·refine Zab ([(_,_),(_,_),(_,_),(_,_),(_,_)]++ν++(ω++[(l,_),(bd,_)])) (bMC _ _ _).symm<|aU (A:=[(_,_),(_,_),(_,_),(_,_),(_,_)]) (B:=(ω++[(l,_),(bd,_)])) rfl U212 rfl rfl hZ xC rfl PB rfl rfl rfl O (lD.lit hAs) Yf Xap (GF I) Xbb Yd (bLY fun p hp=>bMA _ (GE.2 ⟨p,hp,rfl⟩)) rfl bRD fun v1x ν1x ha1x=>Zan<|aT [(true,6)] rfl<|Zt rfl U35 aI cO rfl (.cons rfl rfl .nil) fun hO hP hI Y=>?_;have hAm:=Y;refine Zan<|nT [(false,7),(false,8),(false,9)] rfl<|Zab (([(_,_),(_,_),(_,_),(_,_),(_,_)]++ν1x)++ω++[(l,_),(bd,_)]) (bMC _ _ _).symm<|aU (A:=[(_,_),(_,_),(_,_),(_,_),(_,_)]++ν1x) (B:=[(l,_),(bd,_)]) rfl U35 rfl rfl aI cO rfl kD rfl rfl rfl R (lD.lit hAm) Yf rfl Yf Yk Yd (bLY fun p hp=>GT _ (GE.2 ⟨p,hp,rfl⟩)) rfl bRD fun u1x ω1x ha2x=>Wn ?_;have hJ:bAH y out (pre++[x]) (U,V,M1,v1x,ν1x,u1x,ω1x):=NG hN hB hc1 (by simpa using ha1x) (by simpa using ha2x);refine Zan<|pQ<|Za3 ?_;exact fun a w hh=>jH (A:=[(_,_),(_,_),(_,_),(_,_)]++(ν1x++ω1x)) (B:=[(bd,.deferred (some []))]) (U,V,M1,v1x,ν1x,u1x,ω1x) hJ rfl rfl a w ((hh.dropBoxes 1).boxesEq (aXW [_,_,_,_] ν1x ω1x [_,_]))
    ·refine Zt rfl U35 aI cO rfl (.cons rfl rfl .nil) fun hO hP hI Y=>?_;have hAm:=Y;refine Zan<|aT [(true,3)] rfl<|Zab ([(_,_),(_,_),(_,_),(_,_),(_,_)]++ν++(ω++[(l,_),(bd,_)])) (bMC _ _ _).symm<|aU (A:=[(_,_),(_,_),(_,_),(_,_),(_,_)]) (B:=(ω++[(l,_),(bd,_)])) rfl U212 rfl rfl hZ xC rfl PB rfl rfl rfl O (lD.lit hAs) Yf Xap (GF I) Xbb Yd (bLY fun p hp=>bMA _ (GE.2 ⟨p,hp,rfl⟩)) rfl bRD fun v1x ν1x ha1x=>Zan<|nT [(false,7),(false,8),(false,9)] rfl<|Zab (([(_,_),(_,_),(_,_),(_,_),(_,_)]++ν1x)++ω++[(l,_),(bd,_)]) (bMC _ _ _).symm<|aU (A:=[(_,_),(_,_),(_,_),(_,_),(_,_)]++ν1x) (B:=[(l,_),(bd,_)]) rfl U35 rfl rfl aI cO rfl kD rfl rfl rfl R (lD.lit hAm) Yf rfl Yf Yk Yd (bLY fun p hp=>GT _ (GE.2 ⟨p,hp,rfl⟩)) rfl bRD fun u1x ω1x ha2x=>Wn ?_;have hJ:bAH y out (pre++[x]) (U,V,M1,v1x,ν1x,u1x,ω1x):=NG hN hB hc1 (by simpa using ha1x) (by simpa using ha2x);refine Zan<|pQ<|Za3 ?_;exact fun a w hh=>jH (A:=[(_,_),(_,_),(_,_),(_,_)]++(ν1x++ω1x)) (B:=[(bd,.deferred (some []))]) (U,V,M1,v1x,ν1x,u1x,ω1x) hJ rfl rfl a w ((hh.dropBoxes 1).boxesEq (aXW [_,_,_,_] ν1x ω1x [_,_]))
   ·refine Zt rfl U35 aI cO rfl (.cons rfl rfl .nil) fun b901 D901 hD901 Z=>?_;have hAm:=Z;refine Zan<|aT [(true,2),(true,3)] rfl<|Zt rfl U212 hZ xC rfl (.cons rfl Xap .nil) fun hO hP hI Y=>?_;have hAs:=Y;refine Zab ([(_,_),(_,_),(_,_),(_,_),(_,_)]++ν++(ω++[(l,_),(bd,_)])) (bMC _ _ _).symm<|aU (A:=[(_,_),(_,_),(_,_),(_,_),(_,_)]) (B:=(ω++[(l,_),(bd,_)])) rfl U212 rfl rfl hZ xC rfl PB rfl rfl rfl O (lD.lit hAs) Yf Xap (GF I) Xbb Yd (bLY fun p hp=>bMA _ (GE.2 ⟨p,hp,rfl⟩)) rfl bRD fun v1x ν1x ha1x=>Zan<|nT [(false,7),(false,8),(false,9)] rfl<|Zab (([(_,_),(_,_),(_,_),(_,_),(_,_)]++ν1x)++ω++[(l,_),(bd,_)]) (bMC _ _ _).symm<|aU (A:=[(_,_),(_,_),(_,_),(_,_),(_,_)]++ν1x) (B:=[(l,_),(bd,_)]) rfl U35 rfl rfl aI cO rfl kD rfl rfl rfl R (lD.lit hAm) Yf rfl Yf Yk Yd (bLY fun p hp=>GT _ (GE.2 ⟨p,hp,rfl⟩)) rfl bRD fun u1x ω1x ha2x=>Wn ?_;have hJ:bAH y out (pre++[x]) (U,V,M1,v1x,ν1x,u1x,ω1x):=NG hN hB hc1 (by simpa using ha1x) (by simpa using ha2x);refine Zan<|pQ<|Za3 ?_;exact fun a w hh=>jH (A:=[(_,_),(_,_),(_,_),(_,_)]++(ν1x++ω1x)) (B:=[(bd,.deferred (some []))]) (U,V,M1,v1x,ν1x,u1x,ω1x) hJ rfl rfl a w ((hh.dropBoxes 1).boxesEq (aXW [_,_,_,_] ν1x ω1x [_,_]))
  ·have hI0:bAH y out (pre++[x]) (U,V,M1,v,ν,u,ω):=bFN hN hB hc1 O R;refine bH<|Za3 ?_;exact fun a w hh=>jH (A:=[(_,_),(_,_),(_,_),(_,_)]++(ν++ω)) (B:=[(bd,.deferred (some []))]) (U,V,M1,v,ν,u,ω) hI0 rfl rfl a w ((hh.dropBoxes 1).boxesEq (aXW [_,_,_,_] ν ω [_,_]))
 ·rintro⟨es,clock,M,v,ν,u,ω⟩ bd ⟨hM,hok,O,R⟩;simp only at hM hok O R;rw[y3]at O R;have I:∀p∈dT y out,p.1.fits.length=7:=by rw[←y3];exact EC y out _
  have hsl:(dT y out).length≤2097152:=by rw[←y3];have:=JB y out (C1.cE (kC y.chairs));have:=UE hE;omega
  refine zC ((q4,qC [u] 35)::(q3,qC [v] 212)::(wb,qC [cv,qI y.fit,qv,.map (some mb)] 319)::(mb,.map es clock)::((ν++ω)++[(bd,.deferred (some []))])) rfl<|Za3<|Zay<|Za2<|uG [] 1 4 6 (fun _ _ _ h=>h)<|Zo rfl wY rfl Mm1 rfl<|Zo rfl cF rfl Mm0 rfl<|QU rfl rfl rfl O.cells1 Z1 (.tail .head) Yf rfl O.cell1 bRD<|cY rfl rfl rfl R.cells1 fK .head Yf rfl R.cell1 bRD<|aG<|zC ([(_,_),(_,_),(_,_),(_,_)]++ν++(ω++[(bd,_)])) (bKY [_,_,_,_] ν ω [_])<|JH (A:=[(_,_),(_,_),(_,_),(_,_)]) (B:=ω++[(bd,_)]) O bEF fun D8 hD8 hF8=>?_;refine zC ([(_,_),(_,_),(_,_),(_,_)]++ω++[(bd,_)]) (bMC _ _ _).symm<|JH (A:=[(_,_),(_,_),(_,_),(_,_)]) (B:=[(bd,_)]) R bEF fun D9 hD9 hF9=>?_;exact VX (A:=[(_,_),(_,_)]) (ν':=[(_,_),(_,_)]) (B:=[]) (vs:=[_,_]) rfl rfl rfl ⟨⟨_,_,_,rfl,Mm1,bMF ⟨wY,rfl⟩⟩,⟨_,_,_,rfl,bQO _,bMF ⟨cF,rfl⟩⟩,bRD⟩ rfl fun D hD=>⟨v,u,rfl,(hF8.scs Yf Yd).up VZ.up ((hD9 _ Yf).trans (hD _ Yf)),(hF9.ints Yf Yd).up RI.up (hD _ Yf),es,clock,M,rfl,hM,hok⟩
def bEO(m k:Nat):List Int:=((List.range k).filter fun i=>m.testBit i).map fun i:Nat=>(i:Int)
def aEH(m:Nat):List Int:=bEO m 7
def mB(s:Sc)(l:List (Int×Int)):Nat:=s.whole+(l.filter fun p=>fB s.fits p.1.toNat p.2.toNat).length
def aLD(l:List (Int×Int)):Prop:=∀p∈l,∃x z:Nat,p=((x:Int),(z:Int))∧x<7∧z<7
theorem aNN(s:Sc)(l:List (Int×Int)):mB s l≤s.whole+l.length:=by
 have:=bNF (fun p:Int×Int=>fB s.fits p.1.toNat p.2.toNat) l;unfold mB;omega
theorem aAY{s:Sc}{l:List (Int×Int)}{k x z:Nat}(h:l[k]?= some ((x:Int),(z:Int))):((mB s (l.take (k+1)):Nat):Int)=(mB s (l.take k):Int)+((((s.fits.getD x 0) >>> z:Nat):Int)%2):=by
 rw[mH];unfold mB;rw[bLW,h,bMR,bMY,bLT];have:([((x:Int),(z:Int))].filter fun p:Int×Int=>fB s.fits p.1.toNat p.2.toNat).length=if(s.fits.getD x 0).testBit z=true then 1 else 0:=by
  show(List.filter (fun p:Int×Int=>(s.fits.getD p.1.toNat 0).testBit p.2.toNat) [((x:Int),(z:Int))]).length=_;rw[bOA];simp only[bNI];split<;>rfl
 rw[this];split<;>omega
theorem ZM{a b:Nat}(ha:a<128)(hb:b<128):a|||b<128:=Nat.or_lt_two_pow (n:=7) ha hb
theorem aKQ(w b:Nat)(a0 O a2 a3 a4 a5 R:Nat)(lv:Γ)(l:List (Int×Int))(D:aC)(_hF:∀f∈[a0,O,a2,a3,a4,a5,R],f<128)(hw:w≤7)(hl:Sl D R2 2 lv l)(hp:aLD l)(hlen:l.length≤1000):Fn prog 188 #[.agg #[qI (w:Int),qI (b:Int),qI (a0:Int),qI (O:Int),qI (a2:Int),qI (a3:Int),qI (a4:Int),qI (a5:Int),qI (R:Int)],lv] D (fun _ v=>v=qI (mB ⟨w,b,[a0,O,a2,a3,a4,a5,R]⟩ l:Int)):=by
 have hll:=hl.len;refine Zw 29 func188 rfl fun h0=>aA<|Zy rfl fun q1 E1 hF U=>Zf rfl<|aJ<|Zj rfl O3 rfl<|Zh 0 rfl aH rfl U rfl<|Zf rfl<|bG<|Za rfl<|Zah rfl U132 rfl hl rfl<|Za rfl ?_;refine aF<|Za0<|bK (γ:=Nat) (fun k=>l.length-k) (fun k=>k≤l.length) (fun k=>[(12,qI (k:Int)),(5,qI (mB ⟨w,b,[a0,O,a2,a3,a4,a5,R]⟩ (l.take k):Int))]) [(11,_),(10,_),(4,_),(2,_)] (fun k=>[E1,D]) 0 Yd ⟨Ya,(by simp[mB];rfl),bRD⟩ bQ (aK) ?_
 rintro k h1;refine aA<|Zam rfl<|bW<|Zaf rfl (fun hc1=>?_) fun hc1=>?_
 ·have hk:k<l.length:=by omega
  obtain⟨p,I⟩:=cR l k;obtain⟨x,z,rfl,V,hH⟩:=hp p (n5 I);have hml:=aNN ⟨w,b,[a0,O,a2,a3,a4,a5,R]⟩ (l.take k);have htl:(l.take k).length≤k:=bOT _ _;simp only at hml;refine aQ<|Za2<|Za0<|aA<|Zx rfl U132 tT rfl hl rfl I fun b1 o1 Y Z hE hB=>?_;obtain rfl:Y=[qI _,qI _]:=Z;refine Zv rfl aYW rfl hB tT<|Zad rfl wR rfl fun q2=>Zz rfl tT ζ<|aF<|bS [] 6 12 1022<|Za rfl<|Zj rfl aGQ rfl<|Zo rfl aH rfl Mm0 rfl<|Zj rfl Q1 rfl<|eX rfl U325 aI rfl rfl Yd Yd rfl bRD<|dW (o:=0+1+1) (k:=x*1) rfl aH rfl U.tail.tail Yf (aVE a0 O a2 a3 a4 a5 R V) n4 rfl bRD<|Zj rfl aGI rfl ?_;refine Zo rfl aH rfl Mm0 rfl<|V3 rfl rfl rfl Yd rfl bRD<|yJ rfl rfl rfl (bQG _) Yd Xch rfl bRD<|wJ rfl rfl rfl (by rw[mH];simp only[tQ];split<;>omega) rfl bRD<|Wan ?_
  exact Zn 20 (k+1) ⟨Ya,(by rw[aAY I];rfl),bRD⟩ rfl (bMX _ Mm5)
 ·obtain rfl:k=l.length:=by omega
  rw[bMP];refine Wl ?_;exact aE rfl fun D hD=>rfl
theorem QS(s:Sc)(lv:Γ)(l:List (Int×Int))(hs:∀f∈s.fits,f<128)(hw:s.whole≤7)(hp:aLD l)(hlen:l.length≤1000)(D:aC)(hl:Sl D R2 2 lv l)(I:s.fits.length=7):Fn prog 188 #[.agg (ints (X1 s)).toArray,lv] D (fun _ v=>v=qI (mB s l:Int)):=by
 obtain⟨w,b,F⟩:=s;obtain⟨a0,O,a2,a3,a4,a5,R,rfl⟩:=bET I;exact aKQ w b a0 O a2 a3 a4 a5 R lv l D hs hw hl hp hlen
def fX(y:bC):(Int×Int)×Int:=if aX y≠0 then((0,0),aX y)else match(dT y []).map fun p=>(p.2:Int)with
 | []=>((0,0),11)
 |m::l=>((m::l).foldl (fun r n=>(min r.1 n,max r.2 n)) (m,m),0)
theorem YT{y:bC}(h:aX y=0)(hn:dT y []=[]):Value.tuple #[.agg #[qI 0,qI 0],qI 11]=.tuple #[lE (fX y).1,qI (fX y).2]:=by
 rw[fX,bLX Yd,hn];rfl
theorem BO{y:bC}{L:List Int}{m0:Int}(h:aX y=0)(hL:((dT y []).map fun p=>(p.2:Int))=L)(hm:L[0]?= some m0):Value.tuple #[.agg #[qI (L.foldl (fun r n=>(min r.1 n,max r.2 n)) (m0,m0)).1,qI (L.foldl (fun r n=>(min r.1 n,max r.2 n)) (m0,m0)).2],qI 0]=.tuple #[lE (fX y).1,qI (fX y).2]:=by
  rw[fX,bLX Yd,hL];cases L with
  |nil=>simp at hm
  | cons m l => obtain rfl : m = m0 := by simpa using hm
                rfl
theorem SW{L:List Int}{k:Nat}{n m0:Int}(h:L[k]?= some n):(L.take (k+1)).foldl (fun r n=>(min r.1 n,max r.2 n)) (m0,m0)=(min ((L.take k).foldl (fun r n=>(min r.1 n,max r.2 n)) (m0,m0)).1 n,max ((L.take k).foldl (fun r n=>(min r.1 n,max r.2 n)) (m0,m0)).2 n):=by
 rw[bLW,h,bMR,bNM];rfl
theorem yZ(yv:Γ)(y:bC)(D:aC)(hy:iR D yv y):Fn prog 50 #[yv] D (fun _ v=>v=.tuple #[lE (fX y).1,qI (fX y).2]):=by
 have hB:=hy;obtain⟨cv,qv,rfl,hc,hq⟩:=hy;refine Zw 48 func50 rfl fun h0=>aA<|Zy rfl fun q1 E1 hP U=>Zad rfl jS rfl fun q2=>Zf rfl<|bG<|Zv rfl mN rfl U lH<|Zd rfl (fun D1 hE=>C4 _ y _ (hB.up (hE _ Yf)))<|Wbg ?_;refine aF<|Zaf rfl (fun hc1=>?_) fun hc1=>?_
 ·refine aA<|Zu [qI 0,qI 0] rfl j0 jS rfl<|Za rfl<|Zz rfl cQ ζ<|Wi ?_;exact Zq [_,_] rfl ⟨⟨_,_,_,rfl,Mm0,Or.inr ⟨nO,Xbc,rfl⟩⟩,rfl,bRD⟩ fun D hD=>by show Value.tuple _=_;rw[fX,bMG hc1];rfl
 ·have O:aX y=0:=by omega
  have hyo:=bKN O;have hR:=hyo.len;refine aQ<|aA<|Zv rfl mN rfl U lH<|gI (μ:=_) rfl rfl rfl (fun D5 hS=>DD _ y _ _ D5 rfl) rfl bRD fun v5 D6 _ hX hp5=>?_;obtain⟨wb,mb,rfl,rfl⟩:=hp5;refine aY ([]++[(_,_),(_,_)]++([(_,_)])) rfl<|gH (A:=[]) (ν:=[(_,_),(_,_)]) (B:=[(_,_)]) rfl rfl rfl rfl (bMF rfl) (IT (cs:=[_,_,_,_])) (fun D7 V=>JU wb mb _ _ y [] _ Yd hyo.fit hyo.size #[] 0 [] _ (hc.up zS.up (V _ Yf)) (hq.up R2.up (V _ Yf)) Sl.nil rfl HT.nil) rfl bRD fun v7 D8 _ hY hF=>?_;obtain⟨sv,mv,rfl,hsv,hmv,Y,Z,M1,rfl,rA,hN⟩:=hF;refine Za rfl<|Zao rfl<|Zao rfl<|Zf rfl<|Zf rfl<|bG<|Za rfl<|Zah rfl U35 rfl hmv rfl<|Zap rfl<|aF<|Zaf rfl (fun hc2=>?_) fun hc2=>?_
  ·have hnil:dT y []=[]:=by simpa using hc2
   refine aA<|Zu [qI 0,qI 0] rfl j0 jS rfl<|Zz rfl cQ (.tail (.tail ζ))<|Wi ?_;exact Zq [_,_] rfl ⟨⟨_,_,_,rfl,Mm2,Or.inr ⟨nO,Xbc,rfl⟩⟩,rfl,bRD⟩ fun D hD=>YT O hnil
  ·generalize hL:((dT y []).map fun p=>(p.2:Int))=ms at hmv hc2 ⊢
   have hml:=hmv.len;have hne:ms≠[]:=fun e=>hc2 Xaf
   obtain⟨m0,R⟩:∃m,ms[0]?= some m:=⟨ms[0]'(bPC.2 hne),bLR _⟩
   refine aQ<|Za2<|oT [] 3 [false,false,false,true,true,true,false,true,true,true,false,false] [.fork [0,1,2,3,4,5,6,7] 8 (.fin [9]) 9 (.fin [8]),.fin [10,11]] bB (fun _ _ _ h=>fM (P:=prog) (fn:=f50) _ _ _ h) Yg<|sX<|bP [(false,0),(false,1),(false,2),(true,3),(true,4),(true,5),(false,6),(true,7)] rfl<|Za rfl<|jA rfl hmv rfl R fun b1 o1=>Za rfl<|jA rfl hmv rfl R fun b2 o2=>Zu [qI m0,qI m0] rfl j0 jS rfl<|Zu [.func (.func 111) #[] #[]] rfl bAT QF rfl<|Zan (dV true true rfl rfl ?_ ?_)
   ·refine Zad rfl jS rfl fun q3=>Zan<|aT [(true,9)] rfl<|Zad rfl QF rfl fun q4=>Zan<|nT [(false,10),(false,11)] rfl<|Zz rfl cQ (.tail ζ)<|Zz rfl aDZ ζ<|Zan<|pQ<|Zay<|bZ ?_;refine Za rfl<|Zah rfl U35 rfl hmv rfl<|Za rfl<|aF<|Za0<|fZ (γ:=Nat) (fun k=>ms.length-k) (fun k=>k≤ms.length) (fun k=>[(37,qI (k:Int))]) [(36,_),(35,_),(8,_),(7,_),(3,_),(2,_)] (fun k=>(q4,qC [.func (.func 111) #[] #[]] 220)::(q3,qC [qI (List.foldl (fun r n=>(min r.1 n,max r.2 n)) (m0,m0) (ms.take k)).1,qI (List.foldl (fun r n=>(min r.1 n,max r.2 n)) (m0,m0) (ms.take k)).2] 129)::(wb,qC [cv,qI y.fit,qv,.map (some mb)] 319)::(mb,.map Y Z)::[(q2,qC [qI 0,qI 0] 129)]) (fun k=>[D8,D6,E1,D]) 0 Yd ⟨Ya,bRD⟩ bQ Mm5 (aK) ?_;rintro k h1;refine aA<|Zam rfl<|bW<|Zaf rfl (fun hc3=>?_) (fun hc3=>?_)
    ·have hk:k<ms.length:=by omega
     obtain⟨n,I⟩:=cR ms k;have hst:=SW (m0:=m0) I;refine aQ<|Za2<|Za0<|aA<|Zx rfl U35 aI rfl hmv rfl I fun b3 o3 hH hI hO hJ=>?_;obtain rfl:hH=[qI _]:=hI;refine Zh 0 rfl aH rfl hJ rfl<|Zf rfl<|aF<|aP<|Zj rfl LY rfl<|Zo rfl aFI rfl Mm0 rfl<|Zac rfl nO rfl Mm1 cQ<|Za rfl<|Zd rfl (fun D2 hK=>vF (List.foldl (fun r n=>(min r.1 n,max r.2 n)) (m0,m0) (ms.take k)) n _)<|Zz rfl cQ (.tail ζ)<|Zan<|Za3 ?_;refine Zay<|aP<|Zae rfl<|Za rfl<|Zan ?_;rw[←hst];exact Zn 12 (k+1) ⟨Ya,bRD⟩ rfl Mm5
    ·obtain rfl:k=ms.length:=by omega
     rw[bMP];refine Za5<|Za1<|Za1<|Za6<|Zay<|aA<|Zac rfl nO rfl Mm1 cQ<|Zz rfl cQ (.tail (.tail (.tail (.tail ζ))))<|We ?_;exact Zq [_,_] rfl ⟨⟨_,_,_,rfl,(List.Mem.tail _ Mm3),Or.inr ⟨nO,Xbc,rfl⟩⟩,rfl,bRD⟩ fun D hD=>BO O hL R
   ·refine Zad rfl QF rfl fun q3=>Zan<|aT [(true,8)] rfl<|Zad rfl jS rfl fun q4=>Zan<|nT [(false,10),(false,11)] rfl<|Zz rfl cQ ζ<|Zz rfl aDZ (.tail ζ)<|Zan<|pQ<|Zay<|bZ ?_;refine Za rfl<|Zah rfl U35 rfl hmv rfl<|Za rfl<|aF<|Za0<|fZ (γ:=Nat) (fun k=>ms.length-k) (fun k=>k≤ms.length) (fun k=>[(37,qI (k:Int))]) [(36,_),(35,_),(7,_),(8,_),(3,_),(2,_)] (fun k=>(q4,qC [qI (List.foldl (fun r n=>(min r.1 n,max r.2 n)) (m0,m0) (ms.take k)).1,qI (List.foldl (fun r n=>(min r.1 n,max r.2 n)) (m0,m0) (ms.take k)).2] 129)::(q3,qC [.func (.func 111) #[] #[]] 220)::(wb,qC [cv,qI y.fit,qv,.map (some mb)] 319)::(mb,.map Y Z)::[(q2,qC [qI 0,qI 0] 129)]) (fun k=>[D8,D6,E1,D]) 0 Yd ⟨Ya,bRD⟩ bQ Mm5 (aK) ?_;rintro k h1;refine aA<|Zam rfl<|bW<|Zaf rfl (fun hc3=>?_) (fun hc3=>?_)
    ·have hk:k<ms.length:=by omega
     obtain⟨n,I⟩:=cR ms k;have hst:=SW (m0:=m0) I;refine aQ<|Za2<|Za0<|aA<|jA rfl hmv rfl I fun b3 o3=>Zf rfl<|aF<|aP<|Zj rfl LY rfl<|Zo rfl aFI rfl Mm1 rfl<|Zac rfl nO rfl Mm0 cQ<|Za rfl ?_;refine Zd rfl (fun D2 hK=>vF (List.foldl (fun r n=>(min r.1 n,max r.2 n)) (m0,m0) (ms.take k)) n _)<|Zz rfl cQ ζ<|Zan<|Wc ?_;rw[←hst];exact Zn 12 (k+1) ⟨Ya,bRD⟩ rfl Mm5
    ·obtain rfl:k=ms.length:=by omega
     rw[bMP];refine Za5<|Za1<|Za1<|Za6<|Zay<|aA<|Zac rfl nO rfl Mm0 cQ<|Zz rfl cQ (.tail (.tail (.tail (.tail ζ))))<|We ?_;exact Zq [_,_] rfl ⟨⟨_,_,_,rfl,(List.Mem.tail _ Mm3),Or.inr ⟨nO,Xbc,rfl⟩⟩,rfl,bRD⟩ fun D hD=>BO O hL R
theorem LU(l:List (Int×Int)):∀u∈SM l,cell1 u=true:=by
 intro u hu;unfold SM at hu;rw[bPE]at hu;obtain⟨p,_,hu⟩:=hu;simp only[bLO,n4,bNV]at hu;rcases hu with rfl|rfl<;>rfl
theorem NZ{I b2 t1 t2:Nat}{cs ds:List Γ}:∀p∈[(I,Obj.cells cs.toArray t1 (0,0)),(b2,qC ds t2)],dE p.2:=by
 intro p hp;simp only[bLO,n4,bNV]at hp;rcases hp with rfl|rfl<;>rfl
def EU(scs:List Sc)(l:List (Int×Int)):Int:=match scs with
 | []=>0
 |s::_=>(scs.map fun s=>(mB s l:Int)).foldl min (mB s l:Int)
theorem aOD{scs:List Sc}{l:List (Int×Int)}{I:Sc}(h:scs[0]?= some I):(scs.map fun s=>(mB s l:Int)).foldl min (mB I l:Int)=EU scs l:=by
  cases scs with
  |nil=>simp at h
  | cons s r => obtain rfl : s = I := by simpa using h
                rfl
theorem aGC{scs:List Sc}{l:List (Int×Int)}{k:Nat}{s:Sc}{a:Int}(h:scs[k]?= some s):((scs.take (k+1)).map fun s=>(mB s l:Int)).foldl min a=min (((scs.take k).map fun s=>(mB s l:Int)).foldl min a) (mB s l:Int):=by
 rw[bLW,h,bMR,bME,bNM];rfl
def lG(y:bC)(a b:Nat):Bool:=match y.chairs[a]?,y.chairs[b]? with
 |some x,some z=>S5 y.fit x z
 |_,_=>false
def SR(y:bC):Nat→Nat→Nat→List (Int×Int)→List (List (Int×Int))
 |0,_,_,l=>[l]
 |k+1,f,w,l=>SR y k (f+1) w l++(if w.testBit f=true then []else((List.range y.chairs.length).filter fun b=>decide (f<b)&&(!w.testBit b&&lG y f b)).flatMap fun(b:Nat)=>SR y k (f+1) (w|||2^b) (l++[((f:Int),(b:Int))]))
def aDV(scs:List Sc)(st:List (Int×Int)×Int)(l:List (Int×Int)):List (Int×Int)×Int:=if st.2<EU scs l then(l,EU scs l)else st
theorem Z6{y:bC}{scs:List Sc}{f w:Nat}{l:List (Int×Int)}{st:List (Int×Int)×Int}:(SR y 0 f w l).foldl (aDV scs) st=aDV scs st l:=rfl
theorem aFM{scs:List Sc}{l best:List (Int×Int)}{many:Int}(h:many<EU scs l):aDV scs (best,many) l=(l,EU scs l):=bMG h
theorem aMV{scs:List Sc}{l best:List (Int×Int)}{many:Int}(h:¬many<EU scs l):aDV scs (best,many) l=(best,many):=bLX h
def vN(y:bC)(k f w:Nat)(l:List (Int×Int))(b:Nat):List (List (Int×Int)):=if w.testBit f=true then []else((List.range b).filter fun b=>decide (f<b)&&(!w.testBit b&&lG y f b)).flatMap fun(b:Nat)=>SR y k (f+1) (w|||2^b) (l++[((f:Int),(b:Int))])
def VQ(y:bC)(scs:List Sc)(k f w:Nat)(l best:List (Int×Int))(many:Int)(b:Nat):List (Int×Int)×Int:=(SR y k (f+1) w l++vN y k f w l b).foldl (aDV scs) (best,many)
theorem LN{y:bC}{scs:List Sc}{k f w:Nat}{l best:List (Int×Int)}{many:Int}:VQ y scs k f w l best many (f+1)=(SR y k (f+1) w l).foldl (aDV scs) (best,many):=by
 have:vN y k f w l (f+1)=[]:=by
  unfold vN;split
  ·rfl
  ·rw[List.filter_eq_nil_iff.2 fun b hb=>by have:=bNJ.1 hb;simp;omega];rfl
 unfold VQ;rw[this,bMM]
theorem CU{y:bC}{scs:List Sc}{k f w b:Nat}{l best:List (Int×Int)}{many:Int}(hb:f<b)(hbit:w.testBit f=false)(hs:(!w.testBit b&&lG y f b)=true):
  VQ y scs k f w l best many (b+1)=(SR y k (f+1) (w|||2^b) (l++[((f:Int),(b:Int))])).foldl (aDV scs) ((VQ y scs k f w l best many b).1,(VQ y scs k f w l best many b).2):=by
 have:vN y k f w l (b+1)=vN y k f w l b++SR y k (f+1) (w|||2^b) (l++[((f:Int),(b:Int))]):=by
  unfold vN;rw[bLX (by rw[hbit];simp),bLX (by rw[hbit];simp),bND,bMY,bMZ]
  simp[hb,hs]
 unfold VQ;rw[this,←bMC,bNM]
theorem aVD{y:bC}{scs:List Sc}{k f w b:Nat}{l best:List (Int×Int)}{many:Int}(hs:(!w.testBit b&&lG y f b)=false):VQ y scs k f w l best many (b+1)=VQ y scs k f w l best many b:=by
 have:vN y k f w l (b+1)=vN y k f w l b:=by
  unfold vN;split
  ·rfl
  ·rw[bND,bMY,bMZ];simp[hs]
 unfold VQ;rw[this]
theorem aFD{y:bC}{scs:List Sc}{k f w b:Nat}{l best:List (Int×Int)}{many:Int}(_h1:f+1≤b)(h:(decide ((b:Int)<(y.chairs.length:Int))&&decide (((w >>> f:Nat):Int)%2=0))=false):(SR y (k+1) f w l).foldl (aDV scs) (best,many)=VQ y scs k f w l best many b:=by
 have e:SR y (k+1) f w l=SR y k (f+1) w l++vN y k f w l y.chairs.length:=rfl;rw[e];unfold VQ
 by_cases hb:w.testBit f=true
 ·have key:∀b,vN y k f w l b=[]:=fun b=>by unfold vN;rw[bMG hb]
  rw[key,key]
 ·have h':¬(b:Int)<(y.chairs.length:Int):=by
   intro h2;rw[mH,bLX hb]at h;simp at h;omega
  have key:∀j,vN y k f w l (y.chairs.length+j)=vN y k f w l y.chairs.length:=by
   intro j;induction j with
   |zero=>rfl
   |succ j ih=>
    rw[←ih];unfold vN;rw[bLX hb,bLX hb,←Nat.add_assoc,bND,bMY,bMZ];have:lG y f (y.chairs.length+j)=false:=by
     unfold lG;rw[bOP (show y.chairs.length≤y.chairs.length+j by omega)];cases y.chairs[f]? <;>rfl
    simp[this]
  have:=key (b-y.chairs.length);rw[show y.chairs.length+(b-y.chairs.length)=b by omega]at this;rw[this]
theorem bHP{b n w f:Nat}(h:(decide ((b:Int)<(n:Int))&&decide (((w >>> f:Nat):Int)%2=0))=true):b<n∧w.testBit f=false:=by
 rw[bLQ,LT,LT,mH]at h;refine⟨Yd,?_⟩;cases e:w.testBit f with
 |false=>rfl
 |true=>rw[bMG e]at h;omega
theorem aCX{y:bC}{w f b:Nat}{x z:Ch}{r:Bool}(hx:y.chairs[f]?= some x)(hz:y.chairs[b]?= some z)(h:(decide (((w >>> b:Nat):Int)%2=0)&&S5 y.fit x z)=r):(!w.testBit b&&lG y f b)=r:=by
 rw[←h,mH];unfold lG;rw[hx,hz]
 cases w.testBit b<;>simp
theorem KF{l:List (Int×Int)}{a b:Nat}(h:aLD l)(ha:a<7)(hb:b<7):aLD (l++[((a:Int),(b:Int))]):=fun p hp=>by
 rcases bMD.1 hp with hp|hp
 ·exact h p hp
 ·simp only[bMI]at hp;exact⟨a,b,hp,ha,hb⟩
theorem yB(sv:Γ)(xs:List Int)(D:aC)(hS:Sl D RI 1 sv xs)(hl:xs.length≤10000000):KH prog 106 #[sv] D (fun _ v ν=>bM 3 1 v xs.length (ints xs) ν):=by
 obtain⟨a0,c0,rfl⟩:=hS.shape;refine qR 8 func106 rfl rfl rfl rfl fun h0=>aA<|Zf rfl<|bG<|Za rfl<|qV rfl U35 rfl rfl rfl bRD<|aF<|Zag rfl (fun hc1=>?_) fun hc1=>?_
 ·obtain rfl:a0=none:=by simpa using hc1
  obtain rfl:=uF hS;refine aA<|Wi ?_;exact aE rfl fun D' hD=>bM.nil
 ·refine aQ<|aA<|Zt rfl U35 aI cO rfl .nil fun U D901 I O=>Za rfl<|aU (A:=[]) (ν:=[]) (B:=[]) rfl U35 rfl rfl aI cO rfl kD rfl rfl rfl bM.nil (lD.ints hS) Yf Yf rfl (dS _) Yd (bMF rfl) rfl bRD fun V ν1 R=>We ?_;exact aE rfl fun D' hD=>by show bM 3 1 V _ _ _;simpa [SM]using R
theorem y1(sv:Γ)(xs:List (Int×Int))(D:aC)(hS:Sl D R2 2 sv xs)(hl:xs.length≤10000000):KH prog 114 #[sv] D (fun _ v ν=>bM 225 2 v xs.length (SM xs) ν):=by
 obtain⟨a0,c0,rfl⟩:=hS.shape;refine qR 8 func114 rfl rfl rfl rfl fun h0=>aA<|Zf rfl<|bG<|Za rfl<|qV rfl U132 rfl rfl rfl bRD<|aF<|Zag rfl (fun hc1=>?_) fun hc1=>?_
 ·obtain rfl:a0=none:=by simpa using hc1
  obtain rfl:=uF hS;refine aA<|Wi ?_;exact aE rfl fun D' hD=>bM.nil
 ·refine aQ<|aA<|Zt rfl U132 tT wR rfl .nil fun U D901 I O=>Za rfl<|aU (A:=[]) (ν:=[]) (B:=[]) rfl U132 rfl rfl tT wR rfl OE rfl rfl rfl bM.nil (lD.of (cells:=fun p:Int×Int=>[qI p.1,qI p.2]) (fun _ _ _ h=>h) (fun _=>rfl) hS) Yf (zQ xs) rfl (LU xs) Yd (bMF rfl) rfl bRD fun V ν1 R=>We ?_;exact aE rfl fun D' hD=>by show bM 225 2 V _ _ _;simpa [SM]using R
theorem aXM(sv lv:Γ)(scs:List Sc)(l:List (Int×Int))(n:Nat)(D:aC)(hS:Sl D VZ 9 sv scs)(hl:Sl D R2 2 lv l)(hne:scs≠[])(hsc:∀s∈scs,VT n s)(hp:aLD l)(Z:l.length≤1000):Fn prog 113 #[sv,lv] D (fun _ v=>v=qI (EU scs l)):=by
 have hsl:=hS.len;obtain⟨s0,R⟩:∃s,scs[0]?= some s:=⟨scs[0]'(bPC.2 hne),bLR _⟩
 have O:=hsc s0 (n5 R);refine Zw 27 func113 rfl fun h0=>aA<|Zf rfl<|aJ<|Za rfl<|Zx rfl U212 hZ rfl hS rfl R fun b1 o1 hB hE hR hF=>?_;obtain rfl:hB=ints (X1 _):=hE;refine Zv rfl uD rfl hF (by rw[aM,tK _ O.len];exact hZ)<|Za rfl<|Zd rfl (fun D1 hH=>QS s0 _ l O.row O.whole hp Z _ (hl.up R2.up (hH _ Yf)) O.len)<|Zf rfl<|bG<|Za rfl<|Zah rfl U212 rfl hS rfl<|Za rfl<|aF<|Za0<|bK (γ:=Nat) (fun k=>scs.length-k) (fun k=>k≤scs.length) (fun k=>[(15,qI (k:Int)),(5,qI (((scs.take k).map fun s=>(mB s l:Int)).foldl min (mB s0 l:Int)))]) [(14,_),(13,_),(4,_),(1,_)] (fun k=>[D]) 0 Yd ⟨Ya,Ya,bRD⟩ bQ (aK) ?_
 rintro k h1;refine aA<|Zam rfl<|bW<|Zaf rfl (fun hc1=>?_) fun hc1=>?_
 ·have hk:k<scs.length:=by omega
  obtain⟨s1,U⟩:∃s,scs[k]?= some s:=⟨_,bLR hk⟩
  have I:=hsc s1 (n5 U);refine aQ<|Za2<|Za0<|aA<|Zx rfl U212 hZ rfl hS rfl U fun b2 o2 hI hJ hX hK=>?_;obtain rfl:hI=ints (X1 _):=hJ;refine Zv rfl uD rfl hK (by rw[aM,tK _ I.len];exact hZ)<|Zad rfl xC rfl fun q1=>bE rfl rfl rfl rfl hZ (by rw[aM,tK _ I.len]) Ybb .head (dS _) bRD<|aF<|aP<|Za rfl<|bI (vs:=ints (X1 s1)) rfl uD rfl Mm0 (by rw[show(ints (X1 s1)).length=9 by rw[aM,tK _ I.len]];exact hZ) n4 rfl bRD<|Za rfl<|Zd rfl (fun D2 hN=>QS s1 _ l I.row I.whole hp Z _ (hl.up R2.up (hN _ Yf)) I.len)<|Zt rfl U35 aI cO rfl (.cons rfl rfl (.cons rfl rfl .nil)) fun hY D901 hO V=>?_
  have Y:=Sl.ofInts (l:=[_,_]) (n:=2) (cap:=2) V rfl Yd Yd;refine Zd rfl (fun D3 hP=>nF _ _ [_] _ (Y.up RI.up (hP _ Yf)))<|Wan ?_;exact aL 15 (k+1) Yd Yd ⟨Ya,(by rw[aGC U];rfl),bRD⟩ rfl rfl (List.Sublist.cons _ Mm5) fun D h=>⟨D,bMJ _ (h),Le.refl D⟩
 ·obtain rfl:k=scs.length:=by omega
  rw[bMP];refine Wl ?_;exact aE rfl fun D hD=>by show Value.int _ _=_;rw[aOD R]
theorem bIJ{y:bC}{scs:List Sc}{cv qv sv:Γ}{bY bV bF bm bp:Nat}(hyo:bEW y)(hne:scs≠[])(hsc:∀s∈scs,VT y.chairs.length s):
  ∀(kk f:Nat),f+kk=y.chairs.length→∀(w:Nat) (l:List (Int×Int)) (lv:Γ) (best:List (Int×Int)) (many:Int) (pv:Γ) (D:aC),w<128→aLD l→l.length≤f→Sl D R2 2 lv l→Sl D R2 2 pv best→Sl D zS 4 cv y.chairs→Sl D R2 2 qv y.claims→At D bY 0 [cv,qI y.fit,qv]→At D bV 0 [sv]→Sl D VZ 9 sv scs→At D bF 0 [.func (.func 112) #[] #[qP bY,qP bV,qP bm,qP bp,qP bF]]→
  HO prog 112 [lv,qI (f:Int),qI (w:Int),qP bY,qP bV,qP bm,qP bp,qP bF] D [(bm,qC [qI many] 3),(bp,qC [pv] 132)] (fun D' _ ν'=>∃pv',ν'=[(bm,qC [qI ((SR y kk f w l).foldl (aDV scs) (best,many)).2] 3),(bp,qC [pv'] 132)]∧Sl D' R2 2 pv' ((SR y kk f w l).foldl (aDV scs) (best,many)).1):=by
 intro kk;induction kk using Nat.strongRecOn with
 |_ kk ih=>
 intro f hf w l lv best many pv D hw hp hlf hl hb hc hq hY hV hS hF;have hn7:=hyo.len;have hcl:=hc.len;refine jF 75 func112 rfl rfl rfl rfl fun h0 hwl hwn=>bZ<|Za rfl<|Zj rfl iH rfl<|Zh 0 rfl pE rfl hY rfl<|Zah rfl U84 rfl hc rfl<|Zap rfl<|aF<|Zaf rfl (fun hc1=>?_) fun hc1=>?_
 ·obtain rfl:kk=0:=by omega
  refine bZ<|Zh 0 rfl wY rfl hV rfl<|Za rfl<|Zd rfl (fun D1 hX=>aXM _ _ scs l y.chairs.length _ (hS.up VZ.up (hX _ Yf)) (hl.up R2.up (hX _ Yf)) hne hsc hp Yd)<|Zf rfl<|aJ<|Za rfl<|Zo rfl aH rfl Mm0 rfl<|Zaq rfl<|aF<|Zaf rfl (fun hc2=>?_) fun hc2=>?_
  ·refine aP<|Za rfl<|gI rfl rfl rfl (fun D7 Z=>y1 _ l _ (hl.up R2.up (Z _ Yf)) Yd) rfl bRD fun v6 D8 ν6 rA Y=>yY (A:=[]) (B:=[(_,_),(_,_)]) Y (fun k hk=>hk) fun rB hJ O=>?_;have hB:=O.prs rfl Yd;obtain⟨a6,c6,rfl⟩:=Y.shape;refine Za rfl<|Zr rfl DL (.tail .head) rfl<|Zr rfl aI ζ rfl<|aG<|Zaz ?_;exact Q9 (A:=[]) (ν':=[_,_]) (B:=[]) (vs:=[]) rfl rfl rfl bRD rfl fun D' hD=>⟨.slice a6 l.length c6,by rw[Z6,aFM hc2];rfl,by rw[Z6,aFM hc2];exact hB.up R2.up (hD _ Yf)⟩
  ·refine aQ<|JS<|Zaz ?_;exact Q9 (A:=[]) (ν':=[_,_]) (B:=[]) (vs:=[]) rfl rfl rfl bRD rfl fun D' hD=>⟨pv,by rw[Z6,aMV hc2],by rw[Z6,aMV hc2];exact hb.up R2.up (hD _ Yf)⟩
 ·obtain⟨k,rfl⟩:∃k,kk=k+1:=⟨kk-1,Yd⟩
  refine aQ<|aA<|Zh 0 rfl QB rfl hF rfl<|Za rfl<|Za rfl<|Zae rfl<|Za rfl<|gH (A:=[]) (ν:=[(_,_),(_,_)]) (B:=[]) rfl rfl rfl rfl (bMF rfl) NZ (fun D5 R=>ih k Yd (f+1) Yd w l lv best many pv D5 hw hp Yd (hl.up R2.up (R _ Yf)) (hb.up R2.up (R _ Yf)) (hc.up zS.up (R _ Yf)) (hq.up R2.up (R _ Yf)) (hY.up (R _ Yf)) (hV.up (R _ Yf)) (hS.up VZ.up (R _ Yf)) (hF.up (R _ Yf))) rfl bRD fun v5 D6 _ hD6 hp5=>?_;obtain⟨pv1,rfl,hpv1⟩:=hp5;refine aJ<|Za rfl<|Zae rfl<|Zf rfl<|aF<|Za0<|fZ (γ:=Nat×Γ×aC) (fun g=>y.chairs.length-g.1) (fun g=>f+1≤g.1∧Sl g.2.2 R2 2 g.2.1 (VQ y scs k f w l best many g.1).1) (fun g=>[(12,qI (g.1:Int))]) [(0,_),(1,_),(2,_),(3,_),(7,_)] (fun g=>[(bm,qC [qI (VQ y scs k f w l best many g.1).2] 3),(bp,qC [g.2.1] 132)]) (fun g=>[g.2.2,D]) (f+1,pv1,D6) ⟨Yf,by simp only;rw[LN];exact hpv1⟩ ⟨Ya,bRD⟩ bQ ((by rw[LN];exact bQW _)) ((fun D0 h=>by simp only[bLO,n4,bNV]at h;rcases h with h|h;exact⟨D6,Yf,h▸Le.refl _⟩;exact⟨D,Yf,h▸Le.refl _⟩)) ?_
  rintro⟨b,hH,Dn⟩ ⟨h1,U⟩;simp only at h1 U;refine bZ<|Za rfl<|Zj rfl iH rfl<|Zh 0 rfl pE rfl hY rfl<|Zah rfl U84 rfl hc rfl<|Wcf ?_;refine' bU 6 (s:=40) (p:=46) rfl (fun hg1=>?_) (fun hg1=>?_) ?_;rotate_left
  ·refine Zb rfl<|Zb rfl<|V3 rfl rfl rfl Yd rfl ⟨_,rfl,rfl⟩<|yJ rfl rfl rfl (bQG _) Yd Ye rfl ⟨_,rfl,rfl⟩<|Waa ?_;exact aN 5
  ·refine Wbf ?_;exact aN 5
  refine aF<|Zag rfl (fun hc3=>?_) fun hc3=>?_
  ·obtain⟨hbn,hbit⟩:=bHP hc3;simp only at hbn;have hI:f<b:=by omega
   have hb7:b<7:=by omega
   have hpb:=CM hb7;obtain⟨x,hx⟩:=cR y.chairs f;obtain⟨z,hz⟩:=cR y.chairs b;refine aQ<|Za2<|Za0<|aA<|Za rfl<|Za rfl<|V3 rfl rfl rfl Yai rfl bRD<|yJ rfl rfl rfl (bQG _) Yd Ye rfl bRD<|Was ?_;refine' bU 5 (s:=54) (p:=59) rfl (fun hg2=>?_) (fun hg2=>?_) ?_;rotate_left
   ·refine cU rfl mN rfl hY Yc lH n4 rfl ⟨_,rfl,rfl⟩<|Zb rfl<|Zb rfl<|Ze rfl (fun D2 hD2=>CG _ y f b x z _ ⟨_,_,rfl,hc.up zS.up (hD2 _ Yf),hq.up R2.up (hD2 _ Yf)⟩ hyo.fit hx hz (hyo.size _ (n5 hx)) (hyo.size _ (n5 hz)))<|Zaj rfl ?_;exact aN 4
   ·refine Zg rfl<|Wb ?_;exact aN 4
   refine aF<|Zag rfl (fun hK=>?_) fun hK=>?_
   ·have hsel:(!w.testBit b&&lG y f b)=true:=aCX hx hz hK;refine oT (dC.mk [bF]) 4 [false,true,true,true,true,true,true,true,true,true,true,true,true,true,false] [.fork [0,1,3,4,5,8,9,10,11,12,13] 2 (.fin [6]) 6 (.fin [2]),.fin [7,14]] bB (fun _ _ _ h=>jV (P:=prog) (fn:=f112) _ _ _ h) Yg<|sX<|bP [(false,0),(true,1),(true,3),(true,4),(true,5),(true,8),(true,9),(true,10),(true,11),(true,12),(true,13)] rfl<|dW rfl (k:=0) QB rfl hF Yf rfl (dC.out Yf) rfl bRD<|Za rfl<|Za rfl<|Za rfl<|Zu [qI (f:Int),qI (b:Int)] rfl aZE wR rfl<|Za rfl<|Zae rfl<|Waw ?_;refine GU rfl rfl rfl Yai rfl bRD<|LW rfl rfl rfl Yai Yai rfl bRD<|Zan (dV true true rfl rfl ?_ ?_)
    ·refine gI rfl rfl rfl (fun D7 Z=>y1 _ l _ (hl.up R2.up (Z _ Yf)) Yd) rfl bRD fun v6 D8 ν6 rA Y=>Zan<|aT [(true,6)] rfl<|Zt rfl U132 tT wR rfl (.cons rfl rfl .nil) fun b901 D901 hN V=>?_;have hAp:=V;refine Zan<|nT [(true,7),(false,14)] rfl<|kJ hF Yf fun hap=>aU (A:=[]) (B:=[(_,_),(_,_)]) rfl U132 rfl rfl tT wR rfl OE rfl rfl rfl Y (lD.lit hAp) Yf rfl (zQ l) Yk Yd (bLY fun p hp=>dC.in_ Yaq) rfl bRD fun v7 ν7 hO=>?_;have ha7':bM 225 2 v7 (l.length+1) (SM (l++[((f:Int),(b:Int))])) ν7:=by rw[QO];simpa using hO
     refine yY (A:=[]) (B:=[(_,_),(_,_)]) ha7' (fun k hk=>hk) fun rB hJ O=>?_;have hB:=O.prs Yf Yd;refine gH (A:=[]) (ν:=[(_,_),(_,_)]) (B:=[]) rfl rfl rfl rfl (bMF rfl) NZ (fun D9 I=>ih k Yd (f+1) Yd (w|||2^b) (l++[((f:Int),(b:Int))]) v7 (VQ y scs k f w l best many b).1 (VQ y scs k f w l best many b).2 hH D9 (ZM hw hpb) (KF hp Yd Yd) Yap (hB.up R2.up (I _ Yf)) (U.up R2.up (I _ Yf)) (hc.up zS.up (I _ Yf)) (hq.up R2.up (I _ Yf)) (hY.up (I _ Yf)) (hV.up (I _ Yf)) (hS.up VZ.up (I _ Yf)) (hF.up (I _ Yf))) rfl bRD fun v9 D10 _ hD10 hP=>?_;obtain⟨hR,rfl,hE⟩:=hP;refine Zan<|pQ<|Wa ?_;exact aL 33 (b+1,hR,D10) ⟨Yn,by simp only;rw[CU hI hbit hsel];exact hE⟩ Yn ⟨Ya,bRD⟩ rfl rfl ((by rw[CU hI hbit hsel];exact bQW _)) Yz
    ·refine Zt rfl U132 tT wR rfl (.cons rfl rfl .nil) fun b901 D901 hN V=>?_;have hAp:=V;refine Zan<|aT [(true,2)] rfl<|gI rfl rfl rfl (fun D7 Z=>y1 _ l _ (hl.up R2.up (Z _ Yf)) Yd) rfl bRD fun v6 D8 ν6 rA Y=>Zan<|nT [(true,7),(false,14)] rfl<|kJ hF Yf fun hap=>aU (A:=[]) (B:=[(_,_),(_,_)]) rfl U132 rfl rfl tT wR rfl OE rfl rfl rfl Y (lD.lit hAp) Yf rfl (zQ l) Yk Yd (bLY fun p hp=>dC.in_ Yaq) rfl bRD fun v7 ν7 hO=>?_;have ha7':bM 225 2 v7 (l.length+1) (SM (l++[((f:Int),(b:Int))])) ν7:=by rw[QO];simpa using hO
     refine yY (A:=[]) (B:=[(_,_),(_,_)]) ha7' (fun k hk=>hk) fun rB hJ O=>?_;have hB:=O.prs Yf Yd;refine gH (A:=[]) (ν:=[(_,_),(_,_)]) (B:=[]) rfl rfl rfl rfl (bMF rfl) NZ (fun D9 I=>ih k Yd (f+1) Yd (w|||2^b) (l++[((f:Int),(b:Int))]) v7 (VQ y scs k f w l best many b).1 (VQ y scs k f w l best many b).2 hH D9 (ZM hw hpb) (KF hp Yd Yd) Yap (hB.up R2.up (I _ Yf)) (U.up R2.up (I _ Yf)) (hc.up zS.up (I _ Yf)) (hq.up R2.up (I _ Yf)) (hY.up (I _ Yf)) (hV.up (I _ Yf)) (hS.up VZ.up (I _ Yf)) (hF.up (I _ Yf))) rfl bRD fun v9 D10 _ hD10 hP=>?_;obtain⟨hR,rfl,hE⟩:=hP;refine Zan<|pQ<|Wa ?_;exact aL 33 (b+1,hR,D10) ⟨Yn,by simp only;rw[CU hI hbit hsel];exact hE⟩ Yn ⟨Ya,bRD⟩ rfl rfl ((by rw[CU hI hbit hsel];exact bQW _)) Yz
   ·have hsel:(!w.testBit b&&lG y f b)=false:=aCX hx hz hK;refine Wbs ?_;exact aL 18 (b+1,hH,Dn) ⟨Yn,by simp only;rw[aVD hsel];exact U⟩ Yn ⟨Ya,bRD⟩ rfl rfl ((by rw[aVD hsel];exact bQW _)) fun D0 h=>by simp only[bLO,n4,bNV]at h;rcases h with h|h;exact⟨Dn,Yf,h▸Le.refl _⟩;exact⟨D,Yf,h▸Le.refl _⟩
  ·simp only at hc3;refine Za5<|Za1<|Za1<|Za6 ?_;exact Q9 (A:=[]) (ν':=[_,_]) (B:=[]) (vs:=[]) rfl rfl rfl bRD rfl fun D' hD=>⟨hH,by rw[aFD h1 hc3],by rw[aFD h1 hc3];exact U.up R2.up (hD _ Yf)⟩
end L7
namespace L3
open L1
open C3
def sM(ls:List cB)(out:List Int)(k:Nat):List cB:=(List.range k).filterMap fun i:Nat=>if out.any (fun x=>decide ((i:Int)=x))=true then none else ls[i]?
theorem FH(ls:List cB)(out:List Int)(k:Nat):(sM ls out k).length≤k:=by
 unfold sM;have:=List.length_filterMap_le (fun i:Nat=>if out.any (fun x=>decide ((i:Int)=x))=true then none else ls[i]?) (List.range k);rwa [bPQ]at this
theorem aNP{ls:List cB}{out:List Int}{k:Nat}{x:cB}(hx:ls[k]?= some x)(h:(!out.any fun x=>decide ((k:Int)=x))=true):sM ls out (k+1)=sM ls out k++[x]:=by
 unfold sM;rw[bND,List.filterMap_append];have h':(out.any fun x=>decide ((k:Int)=x))=false:=by simpa using h
 simp only[List.filterMap_cons,List.filterMap_nil,h',bNN,bOO,hx]
theorem aXI{ls:List cB}{out:List Int}{k:Nat}(h:(!out.any fun x=>decide ((k:Int)=x))=false):sM ls out (k+1)=sM ls out k:=by
 unfold sM;rw[bND,List.filterMap_append];have h':(out.any fun x=>decide ((k:Int)=x))=true:=by simpa using h
 simp only[List.filterMap_cons,List.filterMap_nil,h',bOC,bMM]
def aNY(out:List Int)(c:Cn):Cn:={c with after:=c.after-((out.filter fun i=>decide (i<c.after)).length:Int)}
def Z9(b:bA)(out:List Int):bA:={b with lines:=sM b.lines out b.lines.length,counts:=b.counts.map (aNY out)}
theorem aPB{out:List Int}{c:Cn}{i:Nat}{y:Int}(hy:out[i]?= some y)(h:y<c.after):(((out.take (i+1)).filter fun i=>decide (i<c.after)).length:Int)=((out.take i).filter fun i=>decide (i<c.after)).length+1:=by
 rw[bLW,hy,bMR,bMY,bLT,bOA,bMG Yax];simp
theorem aZV{out:List Int}{c:Cn}{i:Nat}{y:Int}(hy:out[i]?= some y)(h:¬y<c.after):((out.take (i+1)).filter fun i=>decide (i<c.after)).length=((out.take i).filter fun i=>decide (i<c.after)).length:=by
 rw[bLW,hy,bMR,bMY,bLT,bOA,bLX Yax];simp
theorem ZF(bv ov:Γ)(b:bA)(out:List Int)(D:aC)(hb:gD D bv b)(ho:Sl D RI 1 ov out)(hol:out.length≤100)(hl8:b.lines.length≤100)(hB:b.counts.length≤100)(hca:∀c∈b.counts,0≤c.after∧c.after≤100):Fn prog 104 #[bv,ov] D (fun D' v=>gD D' v (Z9 b out)):=by
 obtain⟨lv,cv,rfl,hl,hc⟩:=hb;have hll:=hl.len;have hcl:=hc.len;refine Zw 69 func104 rfl fun h0=>aA<|Zy rfl fun q1 E1 hE1 O=>Zad rfl aQV rfl fun q2=>aJ<|Zv rfl gO rfl O fG<|Zad rfl aQV rfl fun q3=>bE rfl rfl rfl rfl fG Yb Yb ζ (GR hl.cell1 hc.cell1) bRD<|aJ<|Zj rfl dN rfl<|Zr rfl eR ζ rfl<|Zj rfl uX rfl ?_;refine Zr rfl ZQ ζ rfl<|bG<|Zj rfl dN rfl<|Zh 3 rfl hG rfl O rfl<|Zah rfl U80 rfl hl rfl<|Za rfl<|aF<|Za0<|Zc (Nat×Γ×aD) (fun g=>b.lines.length-g.1) (fun g=>g.1≤b.lines.length∧bM 298 3 g.2.1 (sM b.lines out g.1).length (uC (sM b.lines out g.1)) g.2.2) (fun g=>[(19,qI (g.1:Int))]) [(18,_),(17,_),(5,_),(4,_),(2,_),(1,_)] (fun g=>g.2.2++[(q3,qC [qI b.chairs,qI b.coin,qI b.box,g.2.1,qN] 83),(q2,qC [qI 0,qI 0,qI 0,qN,qN] 83)]) (fun g=>[E1,D]) (0,qN,[]) ⟨Yf,by simpa [sM,uC]using bM.nil⟩ ⟨Ya,bRD⟩ Mm5 ?_;rintro⟨k,v,ν⟩ ⟨h1,ha⟩;simp only at h1 ha;refine aA<|Zam rfl<|bW<|Zaf rfl (fun hc1=>?_) fun hc1=>?_
 ·have hk:k<b.lines.length:=by simp only at hc1;omega
  obtain⟨x,hx⟩:=cR b.lines k;have hkl:=FH b.lines out k;refine aQ<|Za2<|Za0<|aA<|Za rfl<|Zx rfl U80 cS rfl hl rfl hx fun b1 o1 hE hF rA hH=>?_;obtain rfl:hE=[qI _,qI _,qI _]:=hF;refine Zv rfl nM rfl hH cS<|Zad rfl kQ rfl fun q4=>Zf rfl<|Zz rfl cS ζ<|aJ<|Za rfl<|Za rfl<|Zd rfl (fun D1 hI=>L7.H4 _ out (k:Int) _ (ho.up RI.up (hI _ Yf)))<|Zas rfl<|aF<|Zag rfl (fun hc2=>?_) fun hc2=>?_
  ·have hc2:=hc2;refine aP<|Zj rfl dN rfl<|Zo rfl hG rfl (List.Mem.tail _ (GT _ Mm0)) rfl<|Zac rfl nM rfl Mm0 cS<|Zt rfl U80 cS kQ rfl (.cons rfl rfl .nil) fun rB D901 hJ R=>aU (A:=[(_,_)]) (B:=[(_,_),(_,_)]) rfl U80 rfl rfl cS kQ rfl n9 rfl rfl rfl ha (lD.lit R) Yf rfl (Y9 _) Yk Yd (bMF rfl) rfl bRD fun v1 ν1 U=>?_;have ha2x:bM 298 3 v1 (sM b.lines out (k+1)).length (uC (sM b.lines out (k+1))) ν1:=by rw[aNP hx hc2,bLT];unfold uC;rw[bMZ];exact U
   refine Zj rfl dN rfl<|aY (((q4,_)::ν1)++(q3,_)::[(q2,_)]) rfl<|cY rfl rfl rfl U.cells1 eR (.app .head) Yf rfl U.cell1 bRD<|Zan<|Wc ?_;exact aL 19 (k+1,v1,ν1) ⟨Yn,ha2x⟩ Yn ⟨Ya,bRD⟩ rfl rfl (List.Sublist.cons _ Mm5) fun D h=>⟨D,bMJ _ (h),Le.refl D⟩
  ·refine Wca ?_;exact aL 13 (k+1,v,ν) ⟨Yn,by simp only;rw[aXI hc2];exact ha⟩ Yn ⟨Ya,bRD⟩ rfl rfl (List.Sublist.cons _ Mm5) (aK)
 ·obtain rfl:k=b.lines.length:=by simp only at hc1;omega
  have hkl:=FH b.lines out b.lines.length;refine Za5<|Za1<|Za1<|Za6<|Zay<|Za2<|Za2<|zE (A:=[]) (B:=[(_,_),(_,_)]) ha rfl fun D8 hD8 hK=>?_;have hl8v:=hK.lins Yf Yd;refine aP<|Zj rfl uX rfl<|Zh 4 rfl HH rfl O rfl<|Zah rfl U81 rfl hc rfl<|Za rfl<|aF<|Za0<|Zc (Nat×Γ×aD) (fun g=>b.counts.length-g.1) (fun g=>g.1≤b.counts.length∧bM 301 3 g.2.1 g.1 (bAR ((b.counts.take g.1).map (aNY out))) g.2.2) (fun g=>[(38,qI (g.1:Int))]) [(37,_),(36,_),(5,_),(4,_),(1,_)] (fun g=>g.2.2++[(q3,qC [qI b.chairs,qI b.coin,qI b.box,v,g.2.1] 83),(q2,qC [qI 0,qI 0,qI 0,qN,qN] 83)]) (fun g=>[D8,E1,D]) (0,qN,[]) ⟨Yf,by simpa [bAR]using bM.nil⟩ ⟨Ya,bRD⟩ Mm5 ?_;rintro⟨j,u,ω⟩ ⟨h2,I⟩;simp only at h2 I;refine aA<|Zam rfl<|bW<|Zaf rfl (fun hc3=>?_) fun hc3=>?_
  ·have hj:j<b.counts.length:=by simp only at hc3;omega
   obtain⟨c,hx⟩:∃x,b.counts[j]?= some x:=⟨_,bLR hj⟩
   have hcb:=hca c (n5 hx);refine aQ<|Za2<|Za0<|aA<|Zx rfl U81 wO rfl hc rfl hx fun b2 o2 hN hO hcl2 hP=>?_;obtain rfl:hN=[qI _,qI _,qI _]:=hO;refine Zv rfl NO rfl hP wO<|Zad rfl DC rfl fun q5=>Zz rfl wO ζ<|aJ<|Zf rfl<|bG<|Za rfl<|Zah rfl U35 rfl ho rfl<|Za rfl<|aF<|Za0<|bK (γ:=Nat) (fun i=>out.length-i) (fun i=>i≤out.length) (fun i=>[(44,qI (i:Int)),(10,qI (((out.take i).filter fun i=>decide (i<c.after)).length:Int))]) [(43,_),(42,_),(9,_),(41,_),(40,_),(39,_),(38,_),(37,_),(36,_),(5,_),(4,_),(1,_)] (fun i=>[D8,E1,D]) 0 Yd ⟨Ya,Ya,bRD⟩ bQ (aK) ?_;rintro i h3;refine aA<|Zam rfl<|bW<|Zaf rfl (fun hB=>?_) fun hB=>?_
   ·have hi:i<out.length:=by omega
    obtain⟨y,hy⟩:=cR out i;have hgl:=bNF (fun i=>decide (i<c.after)) (out.take i);have hgt:(out.take i).length≤i:=bOT _ _;refine aQ<|Za2<|Za0<|aA<|jA rfl ho rfl hy fun b3 o3=>Zf rfl<|aJ<|Za rfl<|Zj rfl R1 rfl<|Zo rfl aH rfl Mm0 rfl<|Zam rfl<|aF ?_;refine Zaf rfl (fun V=>?_) fun V=>?_
    ·refine aP<|Za rfl<|Zae rfl<|Wan ?_;exact Zn 15 (i+1) ⟨Ya,(by rw[aPB hy V];rfl),bRD⟩ rfl Mm5
    ·refine Wca ?_;exact Zn 12 (i+1) ⟨Ya,(by rw[aZV hy V];rfl),bRD⟩ rfl Mm5
   ·obtain rfl:i=out.length:=by omega
    rw[bMP];have hgl:=bNF (fun i=>decide (i<c.after)) out;refine Za5<|Za1<|Za1<|Za6<|Zay<|aP<|Zj rfl uX rfl<|Zo rfl HH rfl (List.Mem.tail _ (GT _ Mm0)) rfl<|Zj rfl R1 rfl<|Zo rfl aH rfl Mm0 rfl<|Za rfl<|Zau rfl ?_;refine Zj rfl s8 rfl<|dX rfl lZ eF rfl Mm0 rfl rfl n4 rfl bRD<|Zu [qI (c.after-((out.filter fun i=>decide (i<c.after)).length:Int)),qI c.lo,qI c.hi] rfl aXJ DC rfl<|Zt rfl U81 wO DC rfl (.cons rfl rfl .nil) fun b902 D902 hR Y=>aU (A:=[(_,_)]) (B:=[(_,_),(_,_)]) rfl U81 rfl rfl wO DC rfl bDI rfl rfl rfl I (lD.lit Y) Yf rfl (by rw[bBY];simp;omega) Yk Yd (bMF rfl) rfl bRD fun v2 ν2 Z=>?_
    have hS:bM 301 3 v2 (j+1) (bAR ((b.counts.take (j+1)).map (aNY out))) ν2:=by rw[bLW,hx,bMR,bME];unfold bAR;rw[bMZ];exact Z
    refine Zj rfl uX rfl<|aY (((q5,_)::ν2)++(q3,_)::[(q2,_)]) rfl<|cY rfl rfl rfl Z.cells1 ZQ (.app .head) Yf rfl Z.cell1 bRD<|Zan<|Wc ?_;exact aL 24 (j+1,v2,ν2) ⟨Yn,hS⟩ Yn ⟨Ya,bRD⟩ rfl rfl (List.Sublist.cons _ Mm5) fun D h=>⟨D,bMJ _ (h),Le.refl D⟩
  ·obtain rfl:j=b.counts.length:=by simp only at hc3;omega
   rw[bMP]at I;refine Za5<|Za1<|Za1<|Za6<|Zay<|aA<|Zac rfl gO rfl (GT _ Mm0) fG<|bE rfl rfl rfl rfl fG Yb Yb (.app (.tail ζ)) (GR ha.cell1 I.cell1) bRD<|aG<|dU (A:=[]) (B:=[(_,_),(_,_)]) I rfl fun D9 hX hY=>?_;have hc9v:=hY.cns Yf Yd;exact Zq [_] rfl ⟨⟨_,_,_,rfl,bMJ _ Mm0,bLY ⟨gO,fG,rfl⟩⟩,bRD⟩ fun D hD=>⟨v,u,rfl,(hl8v.up kE.up ((hX _ Yf).trans (hD _ Yf))),hc9v.up vY.up (hD _ Yf)⟩
def Y4(f:Nat→List Int→Bool×List Int):List Nat→List Int→Bool×List Int
 | [],fnd=>(false,fnd)
 |i::is,fnd=>if(f i fnd).1=true then(true,(f i fnd).2)else Y4 f is (f i fnd).2
theorem K3{f:Nat→List Int→Bool×List Int}{n i:Nat}{fnd:List Int}(hge:i<n)(h:(f i fnd).1=true):Y4 f (List.range' i (n-i)) fnd=(true,(f i fnd).2):=by
 rw[show n-i=(n-i-1)+1 by omega,List.range'_succ,Y4,bMG h]
theorem MG{f:Nat→List Int→Bool×List Int}{n i:Nat}{fnd:List Int}(hge:i<n)(h:(f i fnd).1=false):Y4 f (List.range' i (n-i)) fnd=Y4 f (List.range' (i+1) (n-(i+1))) (f i fnd).2:=by
 conv=>lhs;rw[show n-i=(n-(i+1))+1 by omega,List.range'_succ,Y4,bLX Ybh]
theorem HA{f:Nat→List Int→Bool×List Int}{n i:Nat}{fnd:List Int}(hge:¬i<n):Y4 f (List.range' i (n-i)) fnd=(false,fnd):=by
 rw[show n-i=0 by omega];rfl
theorem aMY{b t:Nat}{cs:List Γ}:∀p∈[(b,Obj.cells cs.toArray t (0,0))],dE p.2:=by
 intro p hp;simp only[bMI]at hp;subst hp;rfl
theorem aTZ{ls:List cB}{out:List Int}{k:Nat}{l:cB}(h:l∈sM ls out k):l∈ls:=by
 unfold sM at h;obtain⟨i,_,hi⟩:=List.mem_filterMap.1 h;split at hi
 ·cases hi
 ·exact n5 hi
theorem UK{b:bA}(h:aIR b)(out:List Int):aIR (Z9 b out):=
 ⟨h.ch,h.co,h.bx,by have:=FH b.lines out b.lines.length;have:=h.l8;show(sM b.lines out b.lines.length).length≤8;omega,by have:=h.c4;show(b.counts.map _).length≤4;rwa [bNE],fun l hl=>h.ln l (aTZ hl)⟩
theorem aHR{b:bA}(h:aX b=0):∀c∈b.counts,0≤c.after∧c.after≤100:=by
 have hl:=(bJW h).l8;unfold aX at h;split at h
 ·omega
 ·split at h
  ·omega
  ·rename_i h2;have h3:sY b=true:=by simpa using h2
   unfold sY at h3;simp only[bLQ,C1.bN,bMK]at h3;intro c hc;have h4:=h3.2 c hc;unfold sS at h4;simp only[bLQ,C1.bN]at h4;omega
def aVW(b:bA):Nat→Nat→List Int→List Int→Bool×List Int
 |0,_,out,_=>(decide (truths (Z9 b out)≠[]),out)
 |m+1,f,out,fnd=>Y4 (fun i fnd=>aVW b m (i+1) (out++[(i:Int)]) fnd) (List.range' f (b.lines.length-m-f)) fnd
def bKV(b:bA):Bool×List Int:=Y4 (fun m fnd=>aVW b m 0 [] fnd) (List.range' 0 (b.lines.length+1-0)) []
def fI(b:bA):List Int×Int:=if aX b≠0 then([],aX b)else if(bKV b).1=true then((bKV b).2,0)else([],10)
theorem WJ{b:bA}{D:aC}(h:aX b≠0):∃lv,Value.tuple #[qN,qI (aX b)]=.tuple #[lv,qI (fI b).2]∧Sl D RI 1 lv (fI b).1:=by
 rw[fI,bMG h];exact⟨_,rfl,Sl.nil⟩
theorem aHN{b:bA}{D:aC}{lv:Γ}{l:List Int}(h:aX b=0)(hl:Y4 (fun m fnd=>aVW b m 0 [] fnd) (List.range' 0 (b.lines.length+1-0)) []=(true,l))(hS:Sl D RI 1 lv l):∃lv',Value.tuple #[lv,qI 0]=.tuple #[lv',qI (fI b).2]∧Sl D RI 1 lv' (fI b).1:=by
 have e:bKV b=(true,l):=hl;rw[fI,bLX Yd,e];exact⟨_,rfl,hS⟩
theorem aGL{b:bA}{D:aC}{l:List Int}(h:aX b=0)(hl:Y4 (fun m fnd=>aVW b m 0 [] fnd) (List.range' 0 (b.lines.length+1-0)) []=(false,l)):∃lv',Value.tuple #[qN,qI 10]=.tuple #[lv',qI (fI b).2]∧Sl D RI 1 lv' (fI b).1:=by
 have e:bKV b=(false,l):=hl;rw[fI,bLX Yd,e];exact⟨_,rfl,Sl.nil⟩
theorem bIA{b:bA}{lv cv:Γ}{bf bY bF:Nat}(hbo:aIR b)(hca:∀c∈b.counts,0≤c.after∧c.after≤100):
  ∀(mm f:Nat) (out:List Int) (ov:Γ) (fnd:List Int) (fv:Γ) (D:aC),out.length+mm≤10→Sl D RI 1 ov out→Sl D RI 1 fv fnd→gD D (.agg #[qI b.chairs,qI b.coin,qI b.box,lv,cv]) b→At D bY 0 [qI b.chairs,qI b.coin,qI b.box,lv,cv]→At D bF 0 [.func (.func 103) #[] #[qP bf,qP bY,qP bF]]→
  HO prog 103 [ov,qI (f:Int),qI (mm:Int),qP bf,qP bY,qP bF] D [(bf,qC [fv] 35)] (fun D' v ν'=>v=.bool (aVW b mm f out fnd).1∧∃fv',ν'=[(bf,qC [fv'] 35)]∧Sl D' RI 1 fv' (aVW b mm f out fnd).2):=by
 intro mm;induction mm using Nat.strongRecOn with
 |_ mm ih=>
 intro f out ov fnd fv D hlen ho hfd hb hY hF;have hl8:=hbo.l8;have hc4:=hbo.c4;obtain⟨lv0,cv0,he,hl,hc⟩:=id hb;cases he;refine jF 39 func103 rfl rfl rfl rfl fun h0 hwl hwn=>aA<|Zf rfl<|bG<|Za rfl<|Zap rfl<|aF<|Zaf rfl (fun hc1=>?_) fun hc1=>?_
 ·obtain rfl:mm=0:=by omega
  refine aA<|Za rfl<|cY rfl rfl rfl ho.cells1 fK .head Yf rfl ho.cell1 bRD<|aJ<|Zv rfl gO rfl hY fG<|Za rfl<|Zaa rfl (fun D1 hB=>ZF _ _ b out _ (hb.up (hB _ Yf)) (ho.up RI.up (hB _ Yf)) Yd Yd Yd hca) fun v1 D1 hB hX=>Zd rfl (fun D2 rA=>AT _ (Z9 b out) _ (hX.up (rA _ Yf)) (UK hbo out))<|Wi ?_;exact Zai [] [] [_] [_] rfl ⟨rfl,bRD⟩ rfl fun D' hD=>⟨rfl,ov,rfl,ho.up RI.up (hD _ Yf)⟩
 ·obtain⟨m,rfl⟩:∃k,mm=k+1:=⟨mm-1,Yd⟩
  refine aQ<|bZ<|Za rfl<|Zf rfl<|aF<|Za0<|fZ (γ:=Nat×List Int×Γ×aC) (fun g=>b.lines.length+1-g.1) (fun g=>f≤g.1∧aVW b (m+1) f out fnd=Y4 (fun i fnd=>aVW b m (i+1) (out++[(i:Int)]) fnd) (List.range' g.1 (b.lines.length-m-g.1)) g.2.1∧Sl g.2.2.2 RI 1 g.2.2.1 g.2.1) (fun g=>[(10,qI (g.1:Int))]) [(9,_),(0,_),(2,_),(4,_),(5,_)] (fun g=>[(bf,qC [g.2.2.1] 35)]) (fun g=>[g.2.2.2,D]) (f,fnd,fv,D) ⟨Yf,rfl,hfd⟩ ⟨Ya,bRD⟩ bQ Mm5 ((fun D0 h=>by simp only[bLO,n4,bNV,or_self]at h;exact⟨D,Yf,h▸Le.refl _⟩)) ?_;rintro⟨i,Z,hE,Dn⟩ ⟨h1,hin,Y⟩;simp only at h1 hin Y;refine bZ<|Za rfl<|Zj rfl dN rfl<|Zh 3 rfl hG rfl hY rfl<|Zah rfl U80 rfl hl rfl<|Za rfl<|Zau rfl<|gX rfl rfl rfl rfl bRD<|aF<|Zaf rfl (fun hc2=>?_) fun hc2=>?_
  ·simp only at hc2;have hge:i<b.lines.length-m:=by omega
   refine aQ<|Za2<|Za0<|Za2<|oT (dC.mk [bF]) 3 [false,true,true,true,true,true,true,true,true,true,false] [.fork [0,1,3,6,7,8,9] 2 (.fin [4]) 4 (.fin [2]),.fin [5,10]] bB (fun _ _ _ h=>jV (P:=prog) (fn:=f103) _ _ _ h) Yg<|sX<|bP [(false,0),(true,1),(true,3),(true,6),(true,7),(true,8),(true,9)] rfl<|dW rfl (k:=0) aCW rfl hF Yf rfl (dC.out Yf) rfl bRD<|Za rfl<|Za rfl<|Za rfl<|Zae rfl ?_;refine Za rfl<|Zau rfl ?_;rw[show(((m+1:Nat):Int)-1)=(m:Int) by omega];refine Zan (dV true true rfl rfl ?_ ?_)
   ·refine gI rfl rfl rfl (fun D7 hH=>L7.yB _ out _ (ho.up RI.up (hH _ Yf)) Yd) rfl bRD fun v6 D8 ν6 rB hI=>Zan<|aT [(true,4)] rfl<|Zt rfl U35 aI cO rfl (.cons rfl rfl .nil) fun hP D901 hJ O=>?_;have hAp:=O;refine Zan<|nT [(true,5),(false,10)] rfl<|kJ hF Yf fun hap=>aU (A:=[]) (B:=[(_,_)]) rfl U35 rfl rfl aI cO rfl kD rfl rfl rfl hI (lD.lit hAp) Yf rfl Yf Yk Yd (bLY fun p hp=>dC.in_ Yaq) rfl bRD fun v7 ν7 hK=>?_;have ha7':bM 3 1 v7 (out.length+1) (ints (out++[(i:Int)])) ν7:=by simpa [ints]using hK
    refine yY (A:=[]) (B:=[(_,_)]) ha7' (fun k hk=>hk) fun D20 hR R=>?_;have hN:=R.ints Yf Yd;refine gH (A:=[]) (ν:=[(_,_)]) (B:=[]) rfl rfl rfl rfl (bMF rfl) aMY (fun D9 I=>ih m Yd (i+1) (out++[(i:Int)]) v7 Z hE _ Yap (hN.up RI.up (I _ Yf)) (Y.up RI.up (I _ Yf)) (hb.up (I _ Yf)) (hY.up (I _ Yf)) (hF.up (I _ Yf))) rfl bRD fun v9 D10 _ hS hO=>?_;obtain⟨rfl,U,rfl,V⟩:=hO;refine Zan<|pQ<|Zay<|Zag rfl (fun hc3=>?_) fun hc3=>?_
    ·refine aA<|Wh ?_;exact Zai [] [] [_] [_] rfl ⟨rfl,bRD⟩ rfl fun D' hD=>⟨by rw[hin,K3 hge hc3];rfl,U,rfl,by rw[hin,K3 hge hc3];exact V.up RI.up (hD _ Yf)⟩
    ·refine Wbs ?_;exact aL 22 (i+1,_,U,D10) ⟨Yn,by simp only;rw[hin,MG hge hc3],V⟩ Yn ⟨Ya,bRD⟩ rfl rfl Mm5 Yz
   ·refine Zt rfl U35 aI cO rfl (.cons rfl rfl .nil) fun hP D901 hJ O=>?_;have hAp:=O;refine Zan<|aT [(true,2)] rfl<|gI rfl rfl rfl (fun D7 hH=>L7.yB _ out _ (ho.up RI.up (hH _ Yf)) Yd) rfl bRD fun v6 D8 ν6 rB hI=>Zan<|nT [(true,5),(false,10)] rfl<|kJ hF Yf fun hap=>aU (A:=[]) (B:=[(_,_)]) rfl U35 rfl rfl aI cO rfl kD rfl rfl rfl hI (lD.lit hAp) Yf rfl Yf Yk Yd (bLY fun p hp=>dC.in_ Yaq) rfl bRD fun v7 ν7 hK=>?_;have ha7':bM 3 1 v7 (out.length+1) (ints (out++[(i:Int)])) ν7:=by simpa [ints]using hK
    refine yY (A:=[]) (B:=[(_,_)]) ha7' (fun k hk=>hk) fun D20 hR R=>?_;have hN:=R.ints Yf Yd;refine gH (A:=[]) (ν:=[(_,_)]) (B:=[]) rfl rfl rfl rfl (bMF rfl) aMY (fun D9 I=>ih m Yd (i+1) (out++[(i:Int)]) v7 Z hE _ Yap (hN.up RI.up (I _ Yf)) (Y.up RI.up (I _ Yf)) (hb.up (I _ Yf)) (hY.up (I _ Yf)) (hF.up (I _ Yf))) rfl bRD fun v9 D10 _ hS hO=>?_;obtain⟨rfl,U,rfl,V⟩:=hO;refine Zan<|pQ<|Zay<|Zag rfl (fun hc3=>?_) fun hc3=>?_
    ·refine aA<|Wh ?_;exact Zai [] [] [_] [_] rfl ⟨rfl,bRD⟩ rfl fun D' hD=>⟨by rw[hin,K3 hge hc3];rfl,U,rfl,by rw[hin,K3 hge hc3];exact V.up RI.up (hD _ Yf)⟩
    ·refine Wbs ?_;exact aL 22 (i+1,_,U,D10) ⟨Yn,by simp only;rw[hin,MG hge hc3],V⟩ Yn ⟨Ya,bRD⟩ rfl rfl Mm5 Yz
  ·simp only at hc2;have hge:¬i<b.lines.length-m:=by omega
   refine Wk ?_;exact Zai [] [] [_] [_] rfl ⟨rfl,bRD⟩ rfl fun D' hD=>⟨by rw[hin,HA hge];rfl,hE,rfl,by rw[hin,HA hge];exact Y.up RI.up (hD _ Yf)⟩
theorem aQG(bv:Γ)(b:bA)(D:aC)(hb:gD D bv b):Fn prog 48 #[bv] D (fun D' v=>∃lv,v=.tuple #[lv,qI (fI b).2]∧Sl D' RI 1 lv (fI b).1):=by
 have Y:=hb;obtain⟨lv,cv,rfl,hl,hc⟩:=hb;have hll:=hl.len;refine Zw 30 func48 rfl fun h0=>aA<|Zy rfl fun q1 E1 hN U=>Zf rfl<|Zf rfl<|aF<|aCM<|bZ<|Zv rfl gO rfl U fG<|Zd rfl (fun D1 hE=>B0 _ b _ (Y.up (hE _ Yf)))<|Zf rfl<|aJ ?_;refine Za rfl<|Zaw rfl<|aF<|Zaf rfl (fun hc1=>?_) fun hc1=>?_
 ·refine aA<|Za rfl<|Zf rfl<|Zf rfl<|aG<|Zaz<|W6 ?_;exact Zq [_,_] rfl bQ fun D hD=>WJ hc1
 ·have O:aX b=0:=by omega
  have hbo:=bJW O;have hO:=hbo.l8;have hca:=aHR O;refine aQ<|aA<|Zad rfl vD rfl fun q2=>aJ<|Zad rfl bAE rfl fun q3=>aJ<|Zax rfl<|Zr rfl aZT ζ rfl<|aJ<|Zf rfl<|bW<|QC ?_;refine Zay<|Za2<|Za2<|L6 (A:=[]) (b:=q3) (cells:=[.func (.func 103) #[] #[qP q2,qP q1,qP q3]]) rfl fun I hJ hF=>aP<|Zj rfl dN rfl<|Zh 3 rfl hG rfl U rfl<|Zah rfl U80 rfl hl rfl<|Zae rfl<|Za rfl<|aF<|Za0 ?_;refine fZ (γ:=Nat×List Int×Γ×aC) (fun g=>b.lines.length+1-g.1) (fun g=>g.1≤b.lines.length+1∧Y4 (fun m fnd=>aVW b m 0 [] fnd) (List.range' 0 (b.lines.length+1-0)) []=Y4 (fun m fnd=>aVW b m 0 [] fnd) (List.range' g.1 (b.lines.length+1-g.1)) g.2.1∧Sl g.2.2.2 RI 1 g.2.2.1 g.2.1) (fun g=>[(19,qI (g.1:Int)),(7,.bool false)]) [(18,_),(6,_),(5,_),(3,_),(2,_)] (fun g=>[(q2,qC [g.2.2.1] 35)]) (fun g=>[g.2.2.2,I,E1,D]) (0,[],qN,I) ⟨Yf,rfl,Sl.nil⟩ ⟨Ya,Ya,bRD⟩ bQ Mm5 ((fun D0 h=>by simp only[bLO,n4,bNV]at h;rcases h with h|h|h|h;exact⟨I,Yf,h▸Le.refl _⟩;exact⟨I,Yf,h▸Le.refl _⟩;exact⟨E1,Yf,h▸Le.refl _⟩;exact⟨D,Yf,h▸Le.refl _⟩)) ?_
  rintro⟨m,fnd,fv,Dn⟩ ⟨h1,hin,hfd⟩;simp only at h1 hin hfd;refine aA<|Zam rfl<|bW<|Zaf rfl (fun hc2=>?_) fun hc2=>?_
  ·simp only at hc2;have hm:m<b.lines.length+1:=by omega
   refine aQ<|Za2<|Za0<|aA<|Za rfl<|Zf rfl<|aJ<|Zh 0 rfl aCW rfl hF rfl<|Za rfl<|gH (A:=[]) (ν:=[(_,_)]) (B:=[]) rfl rfl rfl rfl (bMF rfl) aMY (fun D9 R=>bIA hbo hca m 0 [] (qN) fnd fv _ Yap Sl.nil (hfd.up RI.up (R _ Yf)) (Y.up (R _ Yf)) (U.up (R _ Yf)) (hF.up (R _ Yf))) rfl bRD fun v9 D10 _ hK hH=>?_;obtain⟨rfl,hI,rfl,Z⟩:=hH;refine Zf rfl<|aJ<|Za rfl<|aF<|Zag rfl (fun hc3=>?_) fun hc3=>?_
   ·refine Za5<|wH rfl<|Za1<|Za1<|Za6<|Zay<|bZ<|Za rfl<|Zas rfl<|aF<|Zag rfl (fun V=>?_) (fun V=>?_)
    ·rw[hc3]at V;cases V
    ·refine aQ<|aA<|Zo rfl cF rfl Mm0 rfl<|Zf rfl<|Zf rfl<|aG<|W6 ?_;exact Zq [_,_] rfl bQ fun D hD=>aHN O (by rw[hin,K3 hm hc3]) (Z.up RI.up (hD _ Yf))
   ·refine Wca ?_;exact aL 12 (m+1,_,hI,D10) ⟨Yn,by simp only;rw[hin,MG hm hc3],Z⟩ Yn ⟨Ya,(by show some (Value.bool _)=some (Value.bool false);rw[hc3]),bRD⟩ rfl rfl Mm5 fun D0 h=>by simp only[bLO,n4,bNV]at h;rcases h with h|h|h|h;exact⟨D10,Yf,h▸Le.refl _⟩;exact⟨I,Yf,h▸Le.refl _⟩;exact⟨E1,Yf,h▸Le.refl _⟩;exact⟨D,Yf,h▸Le.refl _⟩
  ·simp only at hc2;have hm:¬m<b.lines.length+1:=by omega
   refine Za5<|Za1<|Za1<|Za6<|Zay<|bZ<|Za rfl<|Zas rfl<|aF<|Zag rfl (fun hB=>?_) fun hB=>?_
   ·refine aA<|Zf rfl<|Zf rfl<|aG<|Zaz<|W6 ?_;exact Zq [_,_] rfl bQ fun D hD=>aGL O (by rw[hin,HA hm])
   ·cases hB
end L3
namespace L7
open C7
theorem VL{y:bC}{out:List Int}:∀(ts:List (List Pt)) (acc:List (Sc×Nat)),(∀p∈acc,p.2=wP y.chairs.length p.1)→∀p,p∈ts.foldl (tF y out) acc ↔ p∈acc∨∃t∈ts,pB y.claims out (N1 y t:Int)=true∧p=(dK y t,N1 y t)
 | [],acc,_,p=>by simp
 |t::ts,acc,h,p=>by
  rw[bMO];have h':∀p∈tF y out acc t,p.2=wP y.chairs.length p.1:=fun p hp=>by
   unfold tF at hp;split at hp
   ·rcases bMD.1 hp with hp|hp
    ·exact h p hp
    ·simp only[bMI]at hp;subst hp;rfl
   ·exact h p hp
  rw[VL ts _ h' p];have key:p∈tF y out acc t ↔ p∈acc∨(pB y.claims out (N1 y t:Int)=true∧p=(dK y t,N1 y t)):=by
   unfold tF;split
   ·rename_i hc;rw[bLQ]at hc;rw[bMD,bMI];exact⟨fun h=>h.imp id fun e=>⟨hc.1,e⟩,fun h=>h.imp id fun e=>e.2⟩
   ·rename_i hc;refine⟨bMF,fun h3=>?_⟩;rcases h3 with h3|⟨hr,rfl⟩
    ·exact h3
    ·have hr':pB y.claims out (wP y.chairs.length (dK y t):Int)=true:=hr;rw[hr',bPT,Bool.not_eq_true,bNG,bLV,bQH,bQR]at hc;obtain⟨hc1,hc2⟩:=hc;have hne:acc≠[]:=fun e=>hc1 Xaf
     unfold Z2 at hc2;rw[bPF hne]at hc2;have h4:=bCI hc2;have h5:=h _ (List.getLast_mem hne);have:acc.getLast hne=(dK y t,N1 y t):=Prod.ext h4 (by rw[h5,h4];rfl)
     rw[←this];exact List.getLast_mem hne
  rw[key];constructor
  ·rintro((h1|h1)|⟨s,h1,h2⟩)
   ·exact bMF h1
   ·exact bLY ⟨t,bLP,h1⟩
   ·exact bLY ⟨s,LE _ h1,h2⟩
  ·rintro(h1|⟨s,h1,h2⟩)
   ·exact bMF (bMF h1)
   ·rcases bLO.1 h1 with rfl|h1
    ·exact bMF (bLY h2)
    ·exact bLY ⟨s,h1,h2⟩
theorem W8{y:bC}{out:List Int}{p:Sc×Nat}:p∈dT y out ↔∃t,eO y t=true∧pB y.claims out (N1 y t:Int)=true∧p=(dK y t,N1 y t):=by
 unfold dT;rw[VL _ _ Yf];simp only[n4,false_or,RR]
theorem aLA{y:bC}(h:bEW y)(out:List Int):∀s∈(dT y out).map fun p=>p.1,VT y.chairs.length s:=fun s hs=>by
 obtain⟨p,hp,rfl⟩:=GE.1 hs;obtain⟨t,ht,_,rfl⟩:=W8.1 hp;obtain⟨hl,_⟩:=aEN ht;have:=h.len;exact P3 hl Yd
def qB(y:bC):List (Int×Int)×Int×Int:=if aX y≠0 then([],0,aX y)else if dT y []=[]then([],0,11)else
 (((SR y y.chairs.length 0 0 []).foldl (aDV ((dT y []).map fun p=>p.1)) ([], -1)).1,((SR y y.chairs.length 0 0 []).foldl (aDV ((dT y []).map fun p=>p.1)) ([], -1)).2,0)
theorem aIK{y:bC}{D:aC}(h:aX y≠0):∃lv,Value.tuple #[qN,qI 0,qI (aX y)]=.tuple #[lv,qI (qB y).2.1,qI (qB y).2.2]∧Sl D R2 2 lv (qB y).1:=by
 rw[qB,bMG h];exact⟨_,rfl,Sl.nil⟩
theorem aIC{y:bC}{D:aC}(h:aX y=0)(hn:dT y []=[]):∃lv,Value.tuple #[qN,qI 0,qI 11]=.tuple #[lv,qI (qB y).2.1,qI (qB y).2.2]∧Sl D R2 2 lv (qB y).1:=by
 rw[qB,bLX Yd,bMG hn];exact⟨_,rfl,Sl.nil⟩
theorem aQZ{y:bC}{D:aC}{lv:Γ}(h:aX y=0)(hn:((dT y []).map fun p=>p.1)≠[])(hS:Sl D R2 2 lv ((SR y y.chairs.length 0 0 []).foldl (aDV ((dT y []).map fun p=>p.1)) ([], -1)).1):∃lv',Value.tuple #[lv,qI ((SR y y.chairs.length 0 0 []).foldl (aDV ((dT y []).map fun p=>p.1)) ([], -1)).2,qI 0]=.tuple #[lv',qI (qB y).2.1,qI (qB y).2.2]∧Sl D R2 2 lv' (qB y).1:=by
 rw[qB,bLX Yd,bLX (fun e=>hn Xaf)];exact⟨_,rfl,hS⟩
theorem aBZ(yv:Γ)(y:bC)(D:aC)(hy:iR D yv y):Fn prog 51 #[yv] D (fun D' v=>∃lv,v=.tuple #[lv,qI (qB y).2.1,qI (qB y).2.2]∧Sl D' R2 2 lv (qB y).1):=by
 have Z:=hy;obtain⟨cv,qv,rfl,hc,hq⟩:=hy;refine Zw 30 func51 rfl fun h0=>aA<|Zy rfl fun q1 E1 hO R=>Zad rfl aVZ rfl fun q2=>Zad rfl cO rfl fun q3=>Zf rfl<|bG<|Zv rfl mN rfl R lH<|Zd rfl (fun D1 hB=>C4 _ y _ (Z.up (hB _ Yf)))<|Zf rfl<|aJ<|Za rfl ?_;refine Zaw rfl<|aF<|Zaf rfl (fun hc1=>?_) fun hc1=>?_
 ·refine aA<|Za rfl<|Zr rfl DL (.tail ζ) rfl<|Zr rfl aI ζ rfl<|Wi ?_;exact Zq [_,_,_] rfl ⟨⟨_,_,_,rfl,Mm1,Or.inl ⟨CT,rfl⟩⟩,⟨_,_,_,rfl,Mm0,Or.inl ⟨aH,rfl⟩⟩,rfl,bRD⟩ fun D hD=>aIK hc1
 ·have U:aX y=0:=by omega
  have hyo:=bKN U;have hE:=hyo.len;refine aQ<|aA<|Zv rfl mN rfl R lH<|gI (μ:=_) rfl rfl rfl (fun D5 hP=>DD _ y _ _ D5 rfl) rfl bRD fun v5 D6 _ hR hp5=>?_;obtain⟨wb,mb,rfl,rfl⟩:=hp5;refine Zf rfl<|aJ<|Za rfl<|aY ([]++[(_,_),(_,_)]++([(_,_),(_,_)])) rfl<|gH (A:=[]) (ν:=[(_,_),(_,_)]) (B:=[(_,_),(_,_)]) rfl rfl rfl rfl (bMF rfl) (IT (cs:=[_,_,_,_])) (fun D7 V=>JU wb mb _ _ y [] _ hE hyo.fit hyo.size #[] 0 [] _ (hc.up zS.up (V _ Yf)) (hq.up R2.up (V _ Yf)) Sl.nil rfl HT.nil) rfl bRD fun v7 D8 _ hS hH=>?_;obtain⟨sv,mv,rfl,hsv,hmv,hX,hY,M1,rfl,rA,hI⟩:=hH;refine Za rfl<|Zao rfl<|Zao rfl<|Zad rfl aCP rfl fun q4=>cY rfl rfl rfl hsv.cells1 Z1 .head Yf rfl hsv.cell1 bRD<|Zf rfl<|bW<|Za2<|L6 (A:=[]) (b:=q4) (cells:=[sv]) rfl fun rB hJ hV=>aP<|Zh 0 rfl wY rfl hV rfl<|Zah rfl U212 rfl hsv rfl ?_;refine Zap rfl<|aF<|Zaf rfl (fun hc2=>?_) fun hc2=>?_
  ·have hnil:dT y []=[]:=by simpa using hc2
   refine aA<|Zr rfl DL (.tail (.tail (.tail ζ))) rfl<|Zr rfl aI (.tail (.tail ζ)) rfl<|Wi ?_;exact Zq [_,_,_] rfl ⟨⟨_,_,_,rfl,Mm3,Or.inl ⟨CT,rfl⟩⟩,⟨_,_,_,rfl,Mm2,Or.inl ⟨aH,rfl⟩⟩,rfl,bRD⟩ fun D hD=>aIC U hnil
  ·have hne:((dT y []).map fun p:Sc×Nat=>p.1)≠[]:=fun e=>hc2 Xaf
   have hsc:=aLA hyo [];refine aQ<|aA<|Zr rfl aI (.tail (.tail ζ)) rfl<|aJ<|Zad rfl aWQ rfl fun q5=>aJ<|Zax rfl<|Zr rfl aXU ζ rfl<|bW<|L6 (A:=[]) (b:=q5) (cells:=[.func (.func 112) #[] #[qP q1,qP q4,qP q3,qP q2,qP q5]]) rfl fun D21 hK hF=>aP<|Zh 0 rfl QB rfl hF rfl ?_;refine aY ([(_,_),(_,_)]++[(_,_),(_,_)]++([])) rfl<|gH (A:=[(_,_),(_,_)]) (ν:=[(_,_),(_,_)]) (B:=[]) rfl rfl rfl rfl (bMF rfl) NZ (fun D11 I=>bIJ hyo hne hsc y.chairs.length 0 Yd 0 [] (qN) [] (-1) (qN) _ Yd Yi Yf Sl.nil Sl.nil (hc.up zS.up (I _ Yf)) (hq.up R2.up (I _ Yf)) (R.up (I _ Yf)) (hV.up (I _ Yf)) (hsv.up VZ.up (I _ Yf)) (hF.up (I _ Yf))) rfl bRD fun v11 D12 _ hN Y=>?_;obtain⟨pv1,rfl,O⟩:=Y;refine bW<|bS [] 1 5 6<|Zo rfl CT rfl Mm3 rfl<|Zo rfl aH rfl Mm2 rfl<|QU rfl rfl rfl O.cells1 DL (.tail (.tail (.tail .head))) Yf rfl O.cell1 bRD<|Zr rfl aI (.tail (.tail ζ)) rfl<|We ?_;exact Zq [_,_,_] rfl ⟨⟨_,_,_,rfl,Mm3,Or.inl ⟨CT,rfl⟩⟩,⟨_,_,_,rfl,Mm2,Or.inl ⟨aH,rfl⟩⟩,rfl,bRD⟩ fun D hD=>aQZ U hne (O.up R2.up (hD _ Yf))
end L7
namespace L12
open C12
def eI(s:aO):Int:=if C1.eE s.row true≠0 then 11 else if C2.aX s.table≠0 then 9 else if C2.oB s.table true≠0 then 11 else if C3.aX s.book≠0 then 3 else if C7.aX s.yard≠0 then 3 else if(L7.fX s.yard).2≠0 then 11 else 0
section
variable{s:aO}{v:Γ}
theorem aGH(h:C1.eE s.row true≠0)(e:v=fW 11):eI s≠0∧v=fW (eI s):=by unfold eI;rw[bMG h];exact⟨Yu,e⟩
theorem aLS(h0:C1.eE s.row true=0)(h:C2.aX s.table≠0)(e:v=fW 9):eI s≠0∧v=fW (eI s):=by unfold eI;rw[bLX Yd,bMG h];exact⟨Yu,e⟩
theorem aGT(h0:C1.eE s.row true=0)(h1:C2.aX s.table=0)(h:C2.oB s.table true≠0)(e:v=fW 11):eI s≠0∧v=fW (eI s):=by unfold eI;rw[bLX Yd,bLX Yd,bMG h];exact⟨Yu,e⟩
theorem aKS(h0:C1.eE s.row true=0)(h1:C2.aX s.table=0)(h2:C2.oB s.table true=0)(h:C3.aX s.book≠0)(e:v=fW 3):eI s≠0∧v=fW (eI s):=by unfold eI;rw[bLX Yd,bLX Yd,bLX Yd,bMG h];exact⟨Yu,e⟩
theorem aHD(h0:C1.eE s.row true=0)(h1:C2.aX s.table=0)(h2:C2.oB s.table true=0)(h3:C3.aX s.book=0)(h:C7.aX s.yard≠0)(e:v=fW 3):eI s≠0∧v=fW (eI s):=by unfold eI;rw[bLX Yd,bLX Yd,bLX Yd,bLX Yd,bMG h];exact⟨Yu,e⟩
theorem aIQ(h0:C1.eE s.row true=0)(h1:C2.aX s.table=0)(h2:C2.oB s.table true=0)(h3:C3.aX s.book=0)(h4:C7.aX s.yard=0)(h:(L7.fX s.yard).2≠0)(e:v=fW 11):eI s≠0∧v=fW (eI s):=by unfold eI;rw[bLX Yd,bLX Yd,bLX Yd,bLX Yd,bLX Yd,bMG h];exact⟨Yu,e⟩
theorem aJJ(h0:C1.eE s.row true=0)(h1:C2.aX s.table=0)(h2:C2.oB s.table true=0)(h3:C3.aX s.book=0)(h4:C7.aX s.yard=0)(h5:(L7.fX s.yard).2=0):eI s=0:=by unfold eI;rw[bLX Yd,bLX Yd,bLX Yd,bLX Yd,bLX Yd,bLX Yd]
end
theorem lP(n many:Int)(D:aC):kF prog 320 [qI n,qI many] D [] (fun _ _ ν'=>(n<many)∧ν'=[]) (fun v=>(many≤n)∧v=fW 7):=by
 refine eK 9 func320 rfl rfl rfl rfl fun h0 hwl hwn=>aP<|Za rfl<|Za rfl<|jT rfl rfl rfl rfl bRD<|Zt rfl U397 mI pO rfl (.cons rfl rfl .nil) fun V D901 R I=>Zl [] [] [] rfl (bLY Yi) (fun Z O=>gG 7 [decide (many≤n)] _ _ ((iI (l:=[decide (many≤n)]) (fun _ _ _ h=>h) I Yf).up RB.up (O _ Yf))) (fun v5 Y O hp5=>cX (P:=prog) (fn:=f320) rfl ⟨Xbf,hp5.2⟩) fun v5 Y ν5 O hp5=>?_;obtain⟨U,rfl⟩:=hp5;refine Zan ?_;exact eG rfl fun D' hD=>⟨by simpa using U,rfl⟩
theorem E0(many most:Int)(D:aC):kF prog 319 [qI many,qI most] D [] (fun _ _ ν'=>(many<most)∧ν'=[]) (fun v=>(most≤many)∧v=fW 3):=by
 refine eK 9 func319 rfl rfl rfl rfl fun h0 hwl hwn=>aP<|Za rfl<|Za rfl<|jT rfl rfl rfl rfl bRD<|Zt rfl U397 mI pO rfl (.cons rfl rfl .nil) fun V D901 R I=>Zl [] [] [] rfl (bLY Yi) (fun Z O=>gG 3 [decide (most≤many)] _ _ ((iI (l:=[decide (most≤many)]) (fun _ _ _ h=>h) I Yf).up RB.up (O _ Yf))) (fun v5 Y O hp5=>cX (P:=prog) (fn:=f319) rfl ⟨Xbf,hp5.2⟩) fun v5 Y ν5 O hp5=>?_;obtain⟨U,rfl⟩:=hp5;refine Zan ?_;exact eG rfl fun D' hD=>⟨by simpa using U,rfl⟩
theorem wK(n most:Int)(D:aC):kF prog 321 [qI n,qI most] D [] (fun _ _ ν'=>(n≤most)∧ν'=[]) (fun v=>(most<n)∧v=fW 2):=by
 refine eK 9 func321 rfl rfl rfl rfl fun h0 hwl hwn=>aP<|Za rfl<|Za rfl<|Zaq rfl<|Zt rfl U397 mI pO rfl (.cons rfl rfl .nil) fun V D901 R I=>Zl [] [] [] rfl (bLY Yi) (fun Z O=>gG 2 [decide (most<n)] _ _ ((iI (l:=[decide (most<n)]) (fun _ _ _ h=>h) I Yf).up RB.up (O _ Yf))) (fun v5 Y O hp5=>cX (P:=prog) (fn:=f321) rfl ⟨Xbf,hp5.2⟩) fun v5 Y ν5 O hp5=>?_;obtain⟨U,rfl⟩:=hp5;refine Zan ?_;exact eG rfl fun D' hD=>⟨by simpa using U,rfl⟩
theorem JC(a b most:Int)(D:aC):kF prog 324 [qI a,qI b,qI most] D [] (fun _ _ ν'=>(a≤b∧b≤most)∧ν'=[]) (fun v=>(b<a∨most<b)∧v=fW 2):=by
 refine eK 14 func324 rfl rfl rfl rfl fun h0 hwl hwn=>aP<|Za rfl<|Za rfl<|Zaq rfl<|Za rfl<|Za rfl<|Zaq rfl<|Zt rfl U397 mI pO rfl (.cons rfl rfl (.cons rfl rfl .nil)) fun V D901 R I=>Zl [] [] [] rfl (bLY Yi) (fun Z O=>gG 2 [decide (b<a),decide (most<b)] _ _ ((iI (l:=[decide (b<a),decide (most<b)]) (fun _ _ _ h=>h) I Yf).up RB.up (O _ Yf))) (fun v5 Y O hp5=>cX (P:=prog) (fn:=f324) rfl ⟨Xbf,hp5.2⟩) fun v5 Y ν5 O hp5=>?_;obtain⟨U,rfl⟩:=hp5;refine Zan ?_;exact eG rfl fun D' hD=>⟨by simpa using U,rfl⟩
theorem aQS(sv:Γ)(s:aO)(D:aC)(hs:iD D sv s):kF prog 209 [sv] D [] (fun _ _ ν'=>eI s=0∧ν'=[]) (fun v=>eI s≠0∧v=fW (eI s)):=by
 obtain⟨pv,cv,hv,lv,mv,bl,bc,yc,yq,rfl,hL⟩:=hs;refine eK 52 func209 rfl rfl rfl rfl fun h0 hwl hwn=>aA<|Zy rfl fun q1 E1 hE1 hB=>aJ<|Zj rfl eB rfl<|dY rfl (k:=0) mM lY rfl hB Yc rfl rfl n4 rfl bRD<|Zaa rfl (fun D1 rB=>L1.aMI _ s.row _ (hL.row.up (rB _ Yf))) fun v1 D1 rB hp1=>?_;obtain⟨pl1,rfl,_⟩:=hp1;refine Za rfl<|Zao rfl<|Zao rfl<|Zf rfl<|Zf rfl<|aJ<|Za rfl<|Zaw rfl<|Zt rfl U397 mI pO rfl (.cons rfl rfl .nil) (fun b901 D901 hD901 hP=>Zl [] [] [] rfl (bLY Yi) (fun D50 hE=>gG 11 [decide (C1.eE s.row true≠0)] _ _ ((iI (l:=[decide (C1.eE s.row true≠0)]) (fun _ _ _ h=>h) hP Yf).up RB.up (hE _ Yf))) (fun v50 D51 hE I=>cX (P:=prog) (fn:=f209) rfl (aGH (by simpa using I.1) I.2)) fun v50 D51 ν50 hE I=>?_);obtain⟨hf50,rfl⟩:=I;refine aJ<|Zj rfl dA rfl<|dY rfl (k:=4) lB jP rfl hB Yc rfl rfl n4 rfl bRD<|Zd rfl (fun D2 hD2=>L2.T7 _ s.table _ (hL.table.up (hD2 _ Yf)))<|Zaw rfl<|Zt rfl U397 mI pO rfl (.cons rfl rfl .nil) (fun b902 D902 hD902 hR=>Zl [] [] [] rfl (bLY Yi) (fun D52 hF=>gG 9 [decide (C2.aX s.table≠0)] _ _ ((iI (l:=[decide (C2.aX s.table≠0)]) (fun _ _ _ h=>h) hR Yf).up RB.up (hF _ Yf))) (fun v52 D53 hF O=>cX (P:=prog) (fn:=f209) rfl (aLS Xaq (by simpa using O.1) O.2)) fun v52 D53 ν52 hF O=>?_);obtain⟨hf52,rfl⟩:=O;refine aJ<|Zj rfl dA rfl<|dY rfl (k:=4) lB jP rfl hB Yc rfl rfl n4 rfl bRD<|Zaa rfl (fun D3 hD3=>L2.yZ _ s.table _ (hL.table.up (hD3 _ Yf))) fun v3 D3 hD3 hp3=>?_;obtain⟨bl3,rfl,_⟩:=hp3;refine Za rfl<|Zao rfl<|Zao rfl<|Zf rfl<|aJ<|Za rfl<|Zaw rfl<|Zt rfl U397 mI pO rfl (.cons rfl rfl .nil) (fun b903 D903 hD903 hS=>Zl [] [] [] rfl (bLY Yi) (fun D54 hH=>gG 11 [decide (C2.oB s.table true≠0)] _ _ ((iI (l:=[decide (C2.oB s.table true≠0)]) (fun _ _ _ h=>h) hS Yf).up RB.up (hH _ Yf))) (fun v54 D55 hH R=>cX (P:=prog) (fn:=f209) rfl (aGT Xaq Xbg (by simpa using R.1) R.2)) fun v54 D55 ν54 hH R=>?_);obtain⟨U,rfl⟩:=R;refine aJ<|Zj rfl fS rfl<|dY rfl (k:=9) gO fG rfl hB Yc rfl rfl n4 rfl bRD<|Zd rfl (fun D4 hD4=>L3.B0 _ s.book _ (hL.book.up (hD4 _ Yf)))<|Zaw rfl<|Zt rfl U397 mI pO rfl (.cons rfl rfl .nil) (fun b904 D904 hD904 hX=>Zl [] [] [] rfl (bLY Yi) (fun D56 hI=>gG 3 [decide (C3.aX s.book≠0)] _ _ ((iI (l:=[decide (C3.aX s.book≠0)]) (fun _ _ _ h=>h) hX Yf).up RB.up (hI _ Yf))) (fun v56 D57 hI V=>cX (P:=prog) (fn:=f209) rfl (aKS Xaq Xbg (by simpa using U) (by simpa using V.1) V.2)) fun v56 D57 ν56 hI V=>?_);obtain⟨hJ,rfl⟩:=V;refine aJ<|Zj rfl eU rfl<|dY rfl (k:=14) mN lH rfl hB Yc rfl rfl n4 rfl bRD<|Zd rfl (fun D5 hD5=>L7.C4 _ s.yard _ (hL.yard.up (hD5 _ Yf)))<|Zaw rfl<|Zt rfl U397 mI pO rfl (.cons rfl rfl .nil) (fun b905 D905 hD905 hY=>Zl [] [] [] rfl (bLY Yi) (fun D58 hK=>gG 3 [decide (C7.aX s.yard≠0)] _ _ ((iI (l:=[decide (C7.aX s.yard≠0)]) (fun _ _ _ h=>h) hY Yf).up RB.up (hK _ Yf))) (fun v58 D59 hK Y=>cX (P:=prog) (fn:=f209) rfl (aHD Xaq Xbg (by simpa using U) (by simpa using hJ) (by simpa using Y.1) Y.2)) fun v58 D59 ν58 hK Y=>?_);obtain⟨hO,rfl⟩:=Y;refine aJ<|Zj rfl eU rfl<|dY rfl (k:=14) mN lH rfl hB Yc rfl rfl n4 rfl bRD<|Zd rfl (fun D6 hD6=>L7.yZ _ s.yard _ (hL.yard.up (hD6 _ Yf)))<|Za rfl<|Zao rfl<|Zao rfl<|Zf rfl<|aF<|aP<|Za rfl<|Zaw rfl ?_;refine Zt rfl U397 mI pO rfl (.cons rfl rfl .nil) (fun b906 D906 hD906 rA=>Zl [] [] [] rfl (bLY Yi) (fun D60 hN=>gG 11 [decide ((L7.fX s.yard).2≠0)] _ _ ((iI (l:=[decide ((L7.fX s.yard).2≠0)]) (fun _ _ _ h=>h) rA Yf).up RB.up (hN _ Yf))) (fun v60 D61 hN Z=>cX (P:=prog) (fn:=f209) rfl (aIQ Xaq Xbg (by simpa using U) (by simpa using hJ) (by simpa using hO) (by simpa using Z.1) Z.2)) fun v60 D61 ν60 hN Z=>?_);obtain⟨hf60,rfl⟩:=Z;refine Zan ?_;exact eG rfl fun D' hD=>⟨aJJ Xaq Xbg (by simpa using U) (by simpa using hJ) (by simpa using hO) (by simpa using hf60),rfl⟩
def C6:aO:=⟨{places:=[2,2,2,2],counts:=[],wrong:=0,off:=1},{last:=3,heights:=[(5,5),(5,5),(5,5),(5,5)],step:=5,levels:=[],marks:=[]},{chairs:=3,coin:=5,box:=20,lines:=[],counts:=[]},{chairs:=[],fit:=1,claims:=[]}⟩
theorem yR(D:aC):Fn prog 139 #[] D (fun D' v=>iD D' v C6):=by
 refine Zw 38 func139 rfl fun h0=>aA<|Zad rfl tC rfl fun V=>aJ<|Zad rfl tC rfl fun Y=>aJ<|Zj rfl eB rfl<|Zj rfl d9 rfl<|Zr rfl aI ζ rfl<|Zj rfl eU rfl<|Zj rfl K8 rfl<|Zr rfl aI ζ rfl ?_;refine aJ<|Zj rfl dA rfl<|Zj rfl mU rfl<|Zr rfl aI ζ rfl<|Zj rfl dA rfl<|Zj rfl I6 rfl<|Zr rfl aI ζ rfl<|aJ<|Zj rfl fS rfl<|Zj rfl vP rfl<|Zr rfl aI ζ rfl<|Zj rfl fS rfl ?_;refine Zj rfl K0 rfl<|Zr rfl aI ζ rfl<|Zj rfl fS rfl<|Zj rfl GY rfl<|Zr rfl aI ζ rfl<|bG<|Za rfl<|aF<|Za0<|Zc (Nat×Γ×aD) (fun g=>4-g.1) (fun g=>g.1≤4∧bM 3 1 g.2.1 g.1 (ints (List.replicate g.1 2)) g.2.2) (fun g=>[(16,qI (g.1:Int))]) [(1,_),(0,_)] (fun g=>g.2.2++[(Y,qC [g.2.1,qN,qI 0,qI 1,qI 3,qN,qI 5,qN,qN,qI 3,qI 5,qI 20,qN,qN,qN,qI 1,qN] 89),(V,qC [qN,qN,qI 0,qI 0,qI 0,qN,qI 0,qN,qN,qI 0,qI 0,qI 0,qN,qN,qN,qI 0,qN] 89)]) (fun g=>[D]) (0,qN,[]) ⟨Yf,Xaj⟩ ⟨Ya,bRD⟩ Mm5 ?_;rintro⟨k,v,ν⟩ ⟨h1,ha⟩;simp only at h1 ha;refine aA<|Zam rfl<|bW<|Zaf rfl (fun hc1=>?_) fun hc1=>?_
 ·simp only at hc1;refine aQ<|Za2<|Za0<|aP<|Zj rfl eB rfl<|Zj rfl fF rfl<|Zo rfl cF rfl (GT _ Mm0) rfl<|Zt rfl U35 aI cO rfl (.cons rfl rfl .nil) fun hK D901 Z I=>?_;have hB:=Sl.ofInts (l:=[_]) (n:=1) (cap:=1) I rfl Yd Yd;refine aU (A:=[]) (B:=[(_,_),(_,_)]) rfl U35 rfl rfl aI cO rfl kD rfl rfl rfl ha (lD.lit I) Yf rfl (by simp[ints]) Yk Yd (bMF rfl) rfl bRD fun v1 ν1 R=>?_;have O:bM 3 1 v1 (k+1) (ints (List.replicate (k+1) 2)) ν1:=by rw[List.replicate_succ',←eV];exact R
  refine Zj rfl eB rfl<|Zj rfl fF rfl<|aY (ν1++(Y,_)::[(V,_)]) rfl<|cY rfl rfl rfl R.cells1 fK (.app .head) Yf rfl R.cell1 bRD<|Zan<|Wc ?_;exact aL 11 (k+1,v1,ν1) ⟨Yn,O⟩ Yn ⟨Ya,bRD⟩ rfl rfl Mm5 fun D h=>⟨D,bMJ _ (h),Le.refl D⟩
 ·obtain rfl:k=4:=by simp only at hc1;omega
  refine Za5<|Za1<|Za1<|Za6<|Zay<|Za2<|Za2<|zE (A:=[]) (B:=[(_,_),(_,_)]) ha rfl fun D8 hP hE=>?_;have hpl:=hE.ints Yf Yd;refine aP<|Za rfl<|aF<|Za0<|Zc (Nat×Γ×aD) (fun g=>4-g.1) (fun g=>g.1≤4∧bM 122 2 g.2.1 g.1 (L2.YB (List.replicate g.1 (5,5))) g.2.2) (fun g=>[(26,qI (g.1:Int))]) [(1,_),(0,_)] (fun g=>g.2.2++[(Y,qC [v,qN,qI 0,qI 1,qI 3,g.2.1,qI 5,qN,qN,qI 3,qI 5,qI 20,qN,qN,qN,qI 1,qN] 89),(V,qC [qN,qN,qI 0,qI 0,qI 0,qN,qI 0,qN,qN,qI 0,qI 0,qI 0,qN,qN,qN,qI 0,qN] 89)]) (fun g=>[D8,D]) (0,qN,[]) ⟨Yf,by simpa [L2.YB]using bM.nil⟩ ⟨Ya,bRD⟩ Mm5 ?_;rintro⟨j,u,ω⟩ ⟨h2,hb⟩;simp only at h2 hb;refine aA<|Zam rfl<|bW<|Zaf rfl (fun hc2=>?_) fun hc2=>?_
  ·simp only at hc2;refine aQ<|Za2<|Za0<|aP<|Zj rfl dA rfl<|Zj rfl lQ rfl<|Zo rfl xU rfl (GT _ Mm0) rfl<|Zu [qI 5,qI 5] rfl zV iC rfl<|Zt rfl U76 cN iC rfl (.cons rfl rfl .nil) (fun hN hO hF U=>aU (A:=[]) (B:=[(_,_),(_,_)]) rfl U76 rfl rfl cN iC rfl OL rfl rfl rfl hb (lD.lit U) Yf rfl (by rw[L2.EO];simp) Yk Yd (bMF rfl) rfl bRD fun v2 ν2 O=>?_)
   have hH:bM 122 2 v2 (j+1) (L2.YB (List.replicate (j+1) (5,5))) ν2:=by rw[List.replicate_succ',L2.GI];exact O
   refine Zj rfl dA rfl<|Zj rfl lQ rfl<|aY (ν2++(Y,_)::[(V,_)]) rfl<|cY rfl rfl rfl O.cells1 aAN (.app .head) Yf rfl O.cell1 bRD<|Zan<|Wc ?_;exact aL 12 (j+1,v2,ν2) ⟨Yn,hH⟩ Yn ⟨Ya,bRD⟩ rfl rfl Mm5 fun D h=>⟨D,bMJ _ (h),Le.refl D⟩
  ·obtain rfl:j=4:=by simp only at hc2;omega
   refine Za5<|Za1<|Za1<|Za6<|Zay<|aA<|Zac rfl lK rfl (GT _ Mm0) fC<|bE rfl rfl rfl rfl fC Yb Yb (.app (.tail ζ)) (by simp[cell1];exact⟨ha.cell1 _ Yf,hb.cell1 _ Yf⟩) bRD<|aG<|dU (A:=[]) (B:=[(_,_),(_,_)]) hb rfl fun D9 hI hJ=>?_;have hht:=hJ.rgs Yf Yd;exact Zq [_] rfl ⟨⟨_,_,_,rfl,bMJ _ Mm0,bLY ⟨lK,fC,rfl⟩⟩,bRD⟩ fun D hD=>⟨v,qN,u,qN,qN,qN,qN,qN,qN,rfl,(hpl.up RI.up ((hI _ Yf).trans (hD _ Yf))),Sl.nil,hht.up BL.up (hD _ Yf),Sl.nil,Sl.nil,Sl.nil,Sl.nil,Sl.nil,Sl.nil⟩
def cI(n:Int):List Γ:=[qI n]
def cC(c:C1.xX):List Γ:=[.bool c.back,qI c.many,qI c.num]
def cP(p:Int×Int):List Γ:=[qI p.1,qI p.2]
def cM(m:C2.Mk):List Γ:=[qI m.frm,qI m.to,qI m.lo,qI m.hi]
def cL(l:C3.cB):List Γ:=[qI l.kind,qI l.chair,qI l.token]
def cH(c:C7.Ch):List Γ:=[qI c.size,qI c.parts.a,qI c.parts.b,qI c.parts.c]
theorem Y8(n:Int):∀u∈cI n,cell1 u=true:=by intro u hu;simp[cI]at hu;subst hu;rfl
theorem j2(c:C1.xX):∀u∈cC c,cell1 u=true:=by intro u hu;simp[cC]at hu;rcases hu with rfl|rfl|rfl<;>rfl
theorem yD(p:Int×Int):∀u∈cP p,cell1 u=true:=by intro u hu;simp[cP]at hu;rcases hu with rfl|rfl<;>rfl
theorem k9(m:C2.Mk):∀u∈cM m,cell1 u=true:=by intro u hu;simp[cM]at hu;rcases hu with rfl|rfl|rfl|rfl<;>rfl
theorem j9(l:C3.cB):∀u∈cL l,cell1 u=true:=by intro u hu;simp[cL]at hu;rcases hu with rfl|rfl|rfl<;>rfl
theorem EY(c:C7.Ch):∀u∈cH c,cell1 u=true:=by intro u hu;simp[cH]at hu;rcases hu with rfl|rfl|rfl|rfl<;>rfl
def aMP{α:Type}(f:α→List Γ)(n:Nat):Prop:=(∀x,(f x).length=n)∧∀x,∀u∈f x,cell1 u=true
theorem aMJ:aMP cI 1:=⟨fun _=>rfl,Y8⟩
theorem bKS:aMP cC 3:=⟨fun _=>rfl,j2⟩
theorem bGR:aMP cP 2:=⟨fun _=>rfl,yD⟩
theorem bKZ:aMP cM 4:=⟨fun _=>rfl,k9⟩
theorem bEK:aMP cL 3:=⟨fun _=>rfl,j9⟩
theorem bJC:aMP cH 4:=⟨fun _=>rfl,EY⟩
theorem dI{α:Type}{f:α→List Γ}{n:Nat}(h:∀x,(f x).length=n)(xs:List α):(xs.flatMap f).length=xs.length*n:=by
 induction xs with
 |nil=>simp
 |cons x xs ih=>rw[bMS,bLT,h,ih,bLU,bOK];omega
theorem dJ{α:Type}{f:α→List Γ}(h:∀x,∀u∈f x,cell1 u=true)(xs:List α):∀u∈xs.flatMap f,cell1 u=true:=by
 intro u hu;obtain⟨x,_,hx⟩:=bPE.1 hu;exact h x u hx
theorem KY{α:Type}{f:α→List Γ}{n:Nat}(h:∀x,(f x).length=n){xs:List α}{i:Nat}{x:α}(hi:xs[i]?= some x)(junk:List Γ):((xs.flatMap f++junk).drop (i*n)).take n=f x:=by
 induction xs generalizing i with
 |nil=>simp at hi
 |cons d xs ih=>
  rw[bMS,bMC];cases i with
  |zero=>
   obtain rfl:d=x:=by simpa using hi
   rw[bPY,bPN,bNH (by rw[h];omega),bMV (by rw[h];omega)]
  |succ i=>
   rw[show(i+1)*n=(f d).length+i*n by rw[h,bOK];omega,bQF];exact ih Yas
theorem nK{α:Type}{R:Rd α}{f:α→List Γ}{n:Nat}{D:aC}{v:Γ}{xs:List α}(hR:∀D x,R D x (f x))(h:∀x,(f x).length=n)(hF:kH D v xs.length (xs.flatMap f))(hb:xs.length≤10000000):Sl D R n v xs:=
 hF.sl rfl Yd fun i t hi=>⟨f t,hR _ _,h t,by have:=KY h hi [];rwa [bMM]at this⟩
theorem yB(sv:Γ)(xs:List Int)(D:aC)(hS:Sl D RI 1 sv xs)(hl:xs.length≤10000000):KH prog 106 #[sv] D (fun _ v ν=>bM 3 1 v xs.length (xs.flatMap cI) ν):=by
 obtain⟨a0,c0,rfl⟩:=hS.shape;refine qR 8 func106 rfl rfl rfl rfl fun h0=>aA<|Zf rfl<|bG<|Za rfl<|qV rfl U35 rfl rfl rfl bRD<|aF<|Zag rfl (fun hc1=>?_) fun hc1=>?_
 ·obtain rfl:a0=none:=by simpa using hc1
  obtain rfl:=uF hS;refine aA<|Wi ?_;exact aE rfl fun D' hD=>bM.nil
 ·refine aQ<|aA<|Zt rfl U35 aI cO rfl .nil fun U D901 I O=>Za rfl<|aU (A:=[]) (ν:=[]) (B:=[]) rfl U35 rfl rfl aI cO rfl kD rfl rfl rfl bM.nil (lD.of (cells:=cI) (fun _ _ _ h=>h) (fun _=>rfl) hS) Yf (dI (n:=1) (fun _=>rfl) xs) rfl (dJ Y8 xs) Yd (bMF rfl) rfl bRD fun V ν1 R=>We ?_;exact aE rfl fun D' hD=>by show bM 3 1 V _ _ _;simpa using R
theorem aJD(sv:Γ)(xs:List C1.xX)(D:aC)(hS:Sl D RC 3 sv xs)(hl:xs.length≤10000000):KH prog 286 #[sv] D (fun _ v ν=>bM 277 3 v xs.length (xs.flatMap cC) ν):=by
 obtain⟨a0,c0,rfl⟩:=hS.shape;refine qR 8 func286 rfl rfl rfl rfl fun h0=>aA<|Zf rfl<|bG<|Za rfl<|qV rfl U73 rfl rfl rfl bRD<|aF<|Zag rfl (fun hc1=>?_) fun hc1=>?_
 ·obtain rfl:a0=none:=by simpa using hc1
  obtain rfl:=uF hS;refine aA<|Wi ?_;exact aE rfl fun D' hD=>bM.nil
 ·refine aQ<|aA<|Zt rfl U73 kP zX rfl .nil fun U D901 I O=>Za rfl<|aU (A:=[]) (ν:=[]) (B:=[]) rfl U73 rfl rfl kP zX rfl aDK rfl rfl rfl bM.nil (lD.of (cells:=cC) (fun _ _ _ h=>h) (fun _=>rfl) hS) Yf (dI (n:=3) (fun _=>rfl) xs) rfl (dJ j2 xs) Yd (bMF rfl) rfl bRD fun V ν1 R=>We ?_;exact aE rfl fun D' hD=>by show bM 277 3 V _ _ _;simpa using R
theorem aGE(sv:Γ)(xs:List (Int×Int))(D:aC)(hS:Sl D BL 2 sv xs)(hl:xs.length≤10000000):KH prog 287 #[sv] D (fun _ v ν=>bM 122 2 v xs.length (xs.flatMap cP) ν):=by
 obtain⟨a0,c0,rfl⟩:=hS.shape;refine qR 8 func287 rfl rfl rfl rfl fun h0=>aA<|Zf rfl<|bG<|Za rfl<|qV rfl U76 rfl rfl rfl bRD<|aF<|Zag rfl (fun hc1=>?_) fun hc1=>?_
 ·obtain rfl:a0=none:=by simpa using hc1
  obtain rfl:=uF hS;refine aA<|Wi ?_;exact aE rfl fun D' hD=>bM.nil
 ·refine aQ<|aA<|Zt rfl U76 cN iC rfl .nil fun U D901 I O=>Za rfl<|aU (A:=[]) (ν:=[]) (B:=[]) rfl U76 rfl rfl cN iC rfl OL rfl rfl rfl bM.nil (lD.of (cells:=cP) (fun _ _ _ h=>h) (fun _=>rfl) hS) Yf (dI (n:=2) (fun _=>rfl) xs) rfl (dJ yD xs) Yd (bMF rfl) rfl bRD fun V ν1 R=>We ?_;exact aE rfl fun D' hD=>by show bM 122 2 V _ _ _;simpa using R
theorem aHS(sv:Γ)(xs:List C2.Mk)(D:aC)(hS:Sl D UB 4 sv xs)(hl:xs.length≤10000000):KH prog 288 #[sv] D (fun _ v ν=>bM 376 4 v xs.length (xs.flatMap cM) ν):=by
 obtain⟨a0,c0,rfl⟩:=hS.shape;refine qR 8 func288 rfl rfl rfl rfl fun h0=>aA<|Zf rfl<|bG<|Za rfl<|qV rfl U77 rfl rfl rfl bRD<|aF<|Zag rfl (fun hc1=>?_) fun hc1=>?_
 ·obtain rfl:a0=none:=by simpa using hc1
  obtain rfl:=uF hS;refine aA<|Wi ?_;exact aE rfl fun D' hD=>bM.nil
 ·refine aQ<|aA<|Zt rfl U77 lM A5 rfl .nil fun U D901 I O=>Za rfl<|aU (A:=[]) (ν:=[]) (B:=[]) rfl U77 rfl rfl lM A5 rfl aFC rfl rfl rfl bM.nil (lD.of (cells:=cM) (fun _ _ _ h=>h) (fun _=>rfl) hS) Yf (dI (n:=4) (fun _=>rfl) xs) rfl (dJ k9 xs) Yd (bMF rfl) rfl bRD fun V ν1 R=>We ?_;exact aE rfl fun D' hD=>by show bM 376 4 V _ _ _;simpa using R
theorem aFX(sv:Γ)(xs:List C3.cB)(D:aC)(hS:Sl D kE 3 sv xs)(hl:xs.length≤10000000):KH prog 289 #[sv] D (fun _ v ν=>bM 298 3 v xs.length (xs.flatMap cL) ν):=by
 obtain⟨a0,c0,rfl⟩:=hS.shape;refine qR 8 func289 rfl rfl rfl rfl fun h0=>aA<|Zf rfl<|bG<|Za rfl<|qV rfl U80 rfl rfl rfl bRD<|aF<|Zag rfl (fun hc1=>?_) fun hc1=>?_
 ·obtain rfl:a0=none:=by simpa using hc1
  obtain rfl:=uF hS;refine aA<|Wi ?_;exact aE rfl fun D' hD=>bM.nil
 ·refine aQ<|aA<|Zt rfl U80 cS kQ rfl .nil fun U D901 I O=>Za rfl<|aU (A:=[]) (ν:=[]) (B:=[]) rfl U80 rfl rfl cS kQ rfl n9 rfl rfl rfl bM.nil (lD.of (cells:=cL) (fun _ _ _ h=>h) (fun _=>rfl) hS) Yf (dI (n:=3) (fun _=>rfl) xs) rfl (dJ j9 xs) Yd (bMF rfl) rfl bRD fun V ν1 R=>We ?_;exact aE rfl fun D' hD=>by show bM 298 3 V _ _ _;simpa using R
theorem aGJ(sv:Γ)(xs:List C7.Ch)(D:aC)(hS:Sl D zS 4 sv xs)(hl:xs.length≤10000000):KH prog 290 #[sv] D (fun _ v ν=>bM 314 4 v xs.length (xs.flatMap cH) ν):=by
 obtain⟨a0,c0,rfl⟩:=hS.shape;refine qR 8 func290 rfl rfl rfl rfl fun h0=>aA<|Zf rfl<|bG<|Za rfl<|qV rfl U84 rfl rfl rfl bRD<|aF<|Zag rfl (fun hc1=>?_) fun hc1=>?_
 ·obtain rfl:a0=none:=by simpa using hc1
  obtain rfl:=uF hS;refine aA<|Wi ?_;exact aE rfl fun D' hD=>bM.nil
 ·refine aQ<|aA<|Zt rfl U84 mC P1 rfl .nil fun U D901 I O=>Za rfl<|aU (A:=[]) (ν:=[]) (B:=[]) rfl U84 rfl rfl mC P1 rfl aDF rfl rfl rfl bM.nil (lD.of (cells:=cH) (fun _ _ _ h=>h) (fun _=>rfl) hS) Yf (dI (n:=4) (fun _=>rfl) xs) rfl (dJ EY xs) Yd (bMF rfl) rfl bRD fun V ν1 R=>We ?_;exact aE rfl fun D' hD=>by show bM 314 4 V _ _ _;simpa using R
theorem aGW(sv:Γ)(xs:List (Int×Int))(D:aC)(hS:Sl D R2 2 sv xs)(hl:xs.length≤10000000):KH prog 291 #[sv] D (fun _ v ν=>bM 129 2 v xs.length (xs.flatMap cP) ν):=by
 obtain⟨a0,c0,rfl⟩:=hS.shape;refine qR 8 func291 rfl rfl rfl rfl fun h0=>aA<|Zf rfl<|bG<|Za rfl<|qV rfl U85 rfl rfl rfl bRD<|aF<|Zag rfl (fun hc1=>?_) fun hc1=>?_
 ·obtain rfl:a0=none:=by simpa using hc1
  obtain rfl:=uF hS;refine aA<|Wi ?_;exact aE rfl fun D' hD=>bM.nil
 ·refine aQ<|aA<|Zt rfl U85 cQ jS rfl .nil fun U D901 I O=>Za rfl<|aU (A:=[]) (ν:=[]) (B:=[]) rfl U85 rfl rfl cQ jS rfl aEG rfl rfl rfl bM.nil (lD.of (cells:=cP) (fun _ _ _ h=>h) (fun _=>rfl) hS) Yf (dI (n:=2) (fun _=>rfl) xs) rfl (dJ yD xs) Yd (bMF rfl) rfl bRD fun V ν1 R=>We ?_;exact aE rfl fun D' hD=>by show bM 129 2 V _ _ _;simpa using R
theorem bKM{α:Type}(a b c d e:List α):a++(b++(c++(d++e)))=(a++(b++(c++d)))++e:=by simp
theorem bJY{α:Type}(a b d e:List α):a++(b++(d++e))=(a++(b++d))++e:=by simp
structure O2(s:aO):Prop where
 pl:s.row.places.length≤100
 ct:s.row.counts.length≤100
 ht:s.table.heights.length≤100
 lev:s.table.levels.length≤100
 mks:s.table.marks.length≤100
 ln:s.book.lines.length≤100
 ch:s.yard.chairs.length≤100
 cl:s.yard.claims.length≤100
structure XB where
 (w c r m l h q:Θ)
abbrev bKT:XB:=⟨359,277,122,376,298,314,129⟩
structure bJK(T:XB)(D:aC)(s:aO)(pv cv hv lv mv bl bc yc yq:Γ)(ν1 ν2 ν3 ν4 ν5 ν6 ν7 ν8:aD):Prop where
 pl:bM 3 1 pv s.row.places.length (s.row.places.flatMap cI) ν1
 ct:bM T.c 3 cv s.row.counts.length (s.row.counts.flatMap cC) ν2
 ht:bM T.r 2 hv s.table.heights.length (s.table.heights.flatMap cP) ν3
 lev:bM 3 1 lv s.table.levels.length (s.table.levels.flatMap cI) ν4
 mks:bM T.m 4 mv s.table.marks.length (s.table.marks.flatMap cM) ν5
 ln:bM T.l 3 bl s.book.lines.length (s.book.lines.flatMap cL) ν6
 cn:Sl D vY 3 bc s.book.counts
 ch:bM T.h 4 yc s.yard.chairs.length (s.yard.chairs.flatMap cH) ν7
 cl:bM T.q 2 yq s.yard.claims.length (s.yard.claims.flatMap cP) ν8
theorem DD(sv:Γ)(s:aO)(D:aC)(hs:iD D sv s)(hsm:O2 s):KH prog 208 #[sv] D (fun D' v ν=>∃wb pv cv hv lv mv bl bc yc yq ν1 ν2 ν3 ν4 ν5 ν6 ν7 ν8,v=qP wb∧ν=(wb,qC (dR s pv cv hv lv mv bl bc yc yq) 359)::(ν8++(ν7++(ν6++(ν5++(ν4++(ν3++(ν2++ν1)))))))∧bJK bKT D' s pv cv hv lv mv bl bc yc yq ν1 ν2 ν3 ν4 ν5 ν6 ν7 ν8):=by
 obtain⟨pv,cv,hv,lv,mv,bl,bc,yc,yq,rfl,hL⟩:=hs;unfold dR;refine qR 54 func208 rfl rfl rfl rfl fun h0=>aA<|FS rfl (e:=89) rfl rfl rfl bRD fun q1=>Zf rfl<|bW<|iK [] 2 [0,1,2,4,5,6,3,8,9,7,10,11,12,13] [false,false,false,true,true,true,true,false,false,true,false,false,false,false] [(false,0),(false,1),(false,2),(true,4),(true,5),(true,6),(true,3),(false,8),(false,9),(true,7),(false,10),(false,11),(false,12),(false,13)] bB (fun _ _ _ h=>fM (P:=prog) (fn:=f208) _ _ _ h) Yg rfl<|Zj rfl eB rfl<|Zj rfl fF rfl<|Zo rfl cF rfl Mm0 rfl<|Zj rfl eB rfl<|Zj rfl mW rfl<|Zo rfl M8 rfl Mm0 rfl ?_;refine gI rfl rfl rfl (fun D22 hJ=>yB _ s.row.places _ (hL.pl.up RI.up (hJ _ Yf)) (by have:=hsm.pl;omega)) rfl bRD (fun I D23 ν1 hY U=>Zj rfl eB rfl<|Zj rfl fF rfl<|gI rfl rfl rfl (fun D24 hK=>aJD _ s.row.counts _ (hL.ct.up RC.up (hK _ Yf)) (by have:=hsm.ct;omega)) rfl bRD fun O D25 ν2 rA V=>Zab ((ν2++ν1)++(q1,_)::[]) ((bMC _ _ _).symm)<|Zs (dR s I cv hv lv mv bl bc yc yq) rfl U.cells1 fK (.app .head) rfl U.cell1<|Zj rfl eB rfl<|Zj rfl mW rfl<|Zs (dR s I O hv lv mv bl bc yc yq) rfl V.cells1 QA (.app .head) rfl V.cell1<|bW<|iK [] 2 [0,1,2,4,5,6,8,9,10,3,12,13,7,11,14,15,16,17,18,19,20] [false,false,false,true,true,true,true,true,true,true,false,false,true,true,false,false,false,false,false,false,false] [(false,0),(false,1),(false,2),(true,4),(true,5),(true,6),(true,8),(true,9),(true,10),(true,3),(false,12),(false,13),(true,7),(true,11),(false,14),(false,15),(false,16),(false,17),(false,18),(false,19),(false,20)] bB (fun _ _ _ h=>fM (P:=prog) (fn:=f208) _ _ _ h) Yg rfl<|Zj rfl dA rfl ?_);refine Zj rfl lQ rfl<|Zo rfl xU rfl (GT _ Mm0) rfl<|Zj rfl dA rfl<|Zj rfl lR rfl<|Zo rfl cF rfl (GT _ Mm0) rfl<|Zj rfl dA rfl<|Zj rfl nH rfl<|Zo rfl H7 rfl (GT _ Mm0) rfl<|gI rfl rfl rfl (fun D26 hN=>aGE _ s.table.heights _ (hL.ht.up BL.up (hN _ Yf)) (by have:=hsm.ht;omega)) rfl bRD (fun R D27 ν3 rB Y=>Zj rfl dA rfl<|Zj rfl lQ rfl<|gI rfl rfl rfl (fun D28 hO=>yB _ s.table.levels _ (hL.lev.up RI.up (hO _ Yf)) (by have:=hsm.lev;omega)) rfl bRD fun Z D29 ν4 hD29 hB=>?_);refine gI rfl rfl rfl (fun D30 hP=>aHS _ s.table.marks _ (hL.mks.up UB.up (hP _ Yf)) (by have:=hsm.mks;omega)) rfl bRD fun w5 D31 ν5 hD31 hE=>Zab ((ν5++(ν4++(ν3++(ν2++ν1))))++(q1,_)::[]) (bKM _ _ _ _ _)<|Zs (dR s I O R lv mv bl bc yc yq) rfl Y.cells1 aAN (.app .head) rfl Y.cell1<|Zj rfl dA rfl<|Zj rfl lR rfl<|Zs (dR s I O R Z mv bl bc yc yq) rfl hB.cells1 fK (.app .head) rfl hB.cell1<|Zj rfl dA rfl<|Zj rfl nH rfl<|Zs (dR s I O R Z w5 bl bc yc yq) rfl hE.cells1 MI (.app .head) rfl hE.cell1<|aJ<|Zj rfl fS rfl<|Zj rfl dN rfl ?_;refine Zo rfl hG rfl (GT _ Mm0) rfl<|gI rfl rfl rfl (fun D32 hR=>aFX _ s.book.lines _ (hL.ln.up kE.up (hR _ Yf)) (by have:=hsm.ln;omega)) rfl bRD fun w6 D33 ν6 hD33 hF=>Zj rfl fS rfl<|Zj rfl dN rfl<|Zab ((ν6++(ν5++(ν4++(ν3++(ν2++ν1)))))++(q1,_)::[]) ((bMC _ _ _).symm)<|Zs (dR s I O R Z w5 w6 bc yc yq) rfl hF.cells1 eR (.app .head) rfl hF.cell1<|bW<|iK [] 2 [0,1,2,4,5,6,3,8,9,7,10,11,12,13] [false,false,false,true,true,true,true,false,false,true,false,false,false,false] [(false,0),(false,1),(false,2),(true,4),(true,5),(true,6),(true,3),(false,8),(false,9),(true,7),(false,10),(false,11),(false,12),(false,13)] bB (fun _ _ _ h=>fM (P:=prog) (fn:=f208) _ _ _ h) Yg rfl<|Zj rfl eU rfl<|Zj rfl iH rfl<|Zo rfl pE rfl (GT _ Mm0) rfl<|Zj rfl eU rfl ?_;refine Zj rfl nD rfl<|Zo rfl L4 rfl (GT _ Mm0) rfl<|gI rfl rfl rfl (fun D34 hS=>aGJ _ s.yard.chairs _ (hL.ch.up zS.up (hS _ Yf)) (by have:=hsm.ch;omega)) rfl bRD (fun w7 D35 ν7 hD35 hH=>Zj rfl eU rfl<|Zj rfl iH rfl<|gI rfl rfl rfl (fun D36 hX=>aGW _ s.yard.claims _ (hL.cl.up R2.up (hX _ Yf)) (by have:=hsm.cl;omega)) rfl bRD fun w8 D37 ν8 hD37 hI=>Zab ((ν8++(ν7++(ν6++(ν5++(ν4++(ν3++(ν2++ν1)))))))++(q1,_)::[]) (bJY _ _ _ _)<|Zs (dR s I O R Z w5 w6 bc w7 yq) rfl hH.cells1 aAE (.app .head) rfl hH.cell1<|Zj rfl eU rfl<|Zj rfl nD rfl<|Zs (dR s I O R Z w5 w6 bc w7 w8) rfl hI.cells1 MR (.app .head) rfl hI.cell1<|aJ ?_);refine Zac rfl lK rfl (GT _ Mm0) fC<|iB (cs:=(dR s I O R Z w5 w6 bc w7 w8)) rfl aXY aWY rfl Yg rfl bRD<|FS rfl (e:=359) rfl rfl rfl bRD fun q2=>We ?_
 exact fun a w hh=>aVB (P:=prog) (fn:=f208) (vs:=[_]) rfl rfl rfl ⟨rfl,bRD⟩ (fun D hD=>⟨q2,I,O,R,Z,w5,w6,bc,w7,w8,ν1,ν2,ν3,ν4,ν5,ν6,ν7,ν8,rfl,rfl,U,V,Y,hB,hE,hF,hL.cn.up vY.up (hD _ Yf),hH,hI⟩) a w (hh.subB (List.Sublist.cons_cons _ (List.sublist_append_left _ _)))
theorem aLN(wb:Nat)(s:aO)(pv cv hv lv mv bl bc yc yq nv:Γ)(a:Int)(D:aC)(hn:Sl D RI 1 nv [a]):kF prog 267 [qP wb,nv] D [(wb,qC (dR s pv cv hv lv mv bl bc yc yq) 359)] (fun _ _ ν'=>a≤6∧ν'=[(wb,qC [pv,cv,qI a,qI s.row.off,qI s.table.last,hv,qI s.table.step,lv,mv,qI s.book.chairs,qI s.book.coin,qI s.book.box,bl,bc,yc,qI s.yard.fit,yq] 359)]) (fun v=>6<a∧v=fW 2):=by
 refine eK 16 func267 rfl rfl rfl rfl fun h0 hwl hwn=>aA<|Za rfl<|jA rfl hn rfl rfl fun U V=>Zl [(_,_)] [] [] rfl (bLY Yi) (fun Y I=>wK a 6 _) (fun v5 R I hp5=>cX (P:=prog) (fn:=f267) rfl ⟨hp5.1,hp5.2⟩) fun v5 R ν5 I hp5=>?_;obtain⟨O,rfl⟩:=hp5;refine aF<|aP<|Za rfl<|Za rfl<|jA rfl hn rfl rfl fun b2 Z=>Zal rfl<|Zj rfl aZ rfl<|Zj rfl eB rfl<|Zj rfl DY rfl<|cY (ws:=[pv,cv,qI a,qI s.row.off,qI s.table.last,hv,qI s.table.step,lv,mv,qI s.book.chairs,qI s.book.coin,qI s.book.box,bl,bc,yc,qI s.yard.fit,yq]) rfl rfl rfl rfl aI .head Yf rfl Yk bRD<|Zan ?_;exact eG rfl fun D' hD=>⟨O,rfl⟩
theorem aXE(wb:Nat)(s:aO)(pv cv hv lv mv bl bc yc yq nv:Γ)(a:Int)(D:aC)(hn:Sl D RI 1 nv [a]):kF prog 268 [qP wb,nv] D [(wb,qC (dR s pv cv hv lv mv bl bc yc yq) 359)] (fun _ _ ν'=>a≤9∧ν'=[(wb,qC [pv,cv,qI s.row.wrong,qI a,qI s.table.last,hv,qI s.table.step,lv,mv,qI s.book.chairs,qI s.book.coin,qI s.book.box,bl,bc,yc,qI s.yard.fit,yq] 359)]) (fun v=>9<a∧v=fW 2):=by
 refine eK 16 func268 rfl rfl rfl rfl fun h0 hwl hwn=>aA<|Za rfl<|jA rfl hn rfl rfl fun U V=>Zl [(_,_)] [] [] rfl (bLY Yi) (fun Y I=>wK a 9 _) (fun v5 R I hp5=>cX (P:=prog) (fn:=f268) rfl ⟨hp5.1,hp5.2⟩) fun v5 R ν5 I hp5=>?_;obtain⟨O,rfl⟩:=hp5;refine aF<|aP<|Za rfl<|Za rfl<|jA rfl hn rfl rfl fun b2 Z=>Zal rfl<|Zj rfl aZ rfl<|Zj rfl eB rfl<|Zj rfl d9 rfl<|cY (ws:=[pv,cv,qI s.row.wrong,qI a,qI s.table.last,hv,qI s.table.step,lv,mv,qI s.book.chairs,qI s.book.coin,qI s.book.box,bl,bc,yc,qI s.yard.fit,yq]) rfl rfl rfl rfl aI .head Yf rfl Yk bRD<|Zan ?_;exact eG rfl fun D' hD=>⟨O,rfl⟩
theorem aVF(wb:Nat)(s:aO)(pv cv hv lv mv bl bc yc yq nv:Γ)(a:Int)(D:aC)(hn:Sl D RI 1 nv [a]):kF prog 270 [qP wb,nv] D [(wb,qC (dR s pv cv hv lv mv bl bc yc yq) 359)] (fun _ _ ν'=>a≤99∧ν'=[(wb,qC [pv,cv,qI s.row.wrong,qI s.row.off,qI s.table.last,hv,qI a,lv,mv,qI s.book.chairs,qI s.book.coin,qI s.book.box,bl,bc,yc,qI s.yard.fit,yq] 359)]) (fun v=>99<a∧v=fW 2):=by
 refine eK 16 func270 rfl rfl rfl rfl fun h0 hwl hwn=>aA<|Za rfl<|jA rfl hn rfl rfl fun U V=>Zl [(_,_)] [] [] rfl (bLY Yi) (fun Y I=>wK a 99 _) (fun v5 R I hp5=>cX (P:=prog) (fn:=f270) rfl ⟨hp5.1,hp5.2⟩) fun v5 R ν5 I hp5=>?_;obtain⟨O,rfl⟩:=hp5;refine aF<|aP<|Za rfl<|Za rfl<|jA rfl hn rfl rfl fun b2 Z=>Zal rfl<|Zj rfl aZ rfl<|Zj rfl dA rfl<|Zj rfl I6 rfl<|cY (ws:=[pv,cv,qI s.row.wrong,qI s.row.off,qI s.table.last,hv,qI a,lv,mv,qI s.book.chairs,qI s.book.coin,qI s.book.box,bl,bc,yc,qI s.yard.fit,yq]) rfl rfl rfl rfl aI .head Yf rfl Yk bRD<|Zan ?_;exact eG rfl fun D' hD=>⟨O,rfl⟩
theorem aXH(wb:Nat)(s:aO)(pv cv hv lv mv bl bc yc yq nv:Γ)(a:Int)(D:aC)(hn:Sl D RI 1 nv [a]):kF prog 281 [qP wb,nv] D [(wb,qC (dR s pv cv hv lv mv bl bc yc yq) 359)] (fun _ _ ν'=>a≤9∧ν'=[(wb,qC [pv,cv,qI s.row.wrong,qI s.row.off,qI s.table.last,hv,qI s.table.step,lv,mv,qI s.book.chairs,qI s.book.coin,qI s.book.box,bl,bc,yc,qI a,yq] 359)]) (fun v=>9<a∧v=fW 2):=by
 refine eK 16 func281 rfl rfl rfl rfl fun h0 hwl hwn=>aA<|Za rfl<|jA rfl hn rfl rfl fun U V=>Zl [(_,_)] [] [] rfl (bLY Yi) (fun Y I=>wK a 9 _) (fun v5 R I hp5=>cX (P:=prog) (fn:=f281) rfl ⟨hp5.1,hp5.2⟩) fun v5 R ν5 I hp5=>?_;obtain⟨O,rfl⟩:=hp5;refine aF<|aP<|Za rfl<|Za rfl<|jA rfl hn rfl rfl fun b2 Z=>Zal rfl<|Zj rfl aZ rfl<|Zj rfl eU rfl<|Zj rfl K8 rfl<|cY (ws:=[pv,cv,qI s.row.wrong,qI s.row.off,qI s.table.last,hv,qI s.table.step,lv,mv,qI s.book.chairs,qI s.book.coin,qI s.book.box,bl,bc,yc,qI a,yq]) rfl rfl rfl rfl aI .head Yf rfl Yk bRD<|Zan ?_;exact eG rfl fun D' hD=>⟨O,rfl⟩
section
variable{P:Program}{X:Cx}{γb:Type}[Membership Nat γb]{bad:γb}{all:Array Oper}{K:Act→Δ→Prop}{Q:Exit→Act→Δ→Prop}
variable{σ:bX}{μ:aD}{Ds:List aC}{os:List (Bool×Nat)}{fl:Bool}{ix d:Nat}{x y:Operand}{v:Γ}{ty:Θ}{pos:String}{aft:Array Edge}{g:Option (Nat×Bool)}
variable{α:Type}{f:α→List Γ}{n:Nat}
theorem xP(A B:aD)(hf:aMP f n)(z:α){ν:aD}{D₁:aC}{t e tr:Θ}{xs:List α}{sv z0:Γ}{U c9:Nat}{ats:Array Θ}
  (ho:all[ix]?= some ⟨some d,.call {callee:=.builtin .append,args:=#[x,y],argTypes:=ats},tr,pos,aft,g⟩) (ht:P.underlying t=some (.slice e)) (hat:ats[0]?= some t) (I:ats[1]?= some t)
  (hs:TS P e n) (hz:TZ P e z0) (R:Nat.beq z0.cells.size n=true) (hi:(P.info? e).map (fun i=>Nat.ble 1 i.bytes&&Nat.ble i.bytes 4096)=some true) (O:Nat.ble 1 n=true)
  (hx:ev σ x=some sv) (hy:ev σ y=some (qS U 1 c9)) (ha:bM e n sv xs.length (xs.flatMap f) ν) (hA:At D₁ U 0 (f z)) (hlen:xs.length+1≤10000000) (hfl:fl=false∨∀p∈ν,p.1∈bad) (hg:cZ all σ g)
  (kk:∀v' ν',bM e n v' (xs++[z]).length ((xs++[z]).flatMap f) ν'→WL P X bad all K Q os ((d,v')::σ) (A++ν'++B) Ds) (hD:D₁∈Ds:=by simp) (hN:Nat.blt d X.N=true:=by rfl):WL P X bad all K Q ((fl,ix)::os) σ (A++ν++B) Ds:=
 aU (A:=A) (B:=B) ho ht hat I hs hz R hi O hx hy ha (lD.lit hA) hD (by rw[hf.1,Nat.one_mul]) (dI hf.1 xs) (hf.2 z) hlen hfl hN hg fun v' ν' h=>kk v' ν' (by rw[bLT,bMZ,bOE];exact h)
theorem zO(hf:aMP f n)(z:α){I:Nat×Obj}{ν:aD}{D₁:aC}{t e tr:Θ}{xs:List α}{sv z0:Γ}{V c9:Nat}{ats:Array Θ}
  (ho:all[ix]?= some ⟨some d,.call {callee:=.builtin .append,args:=#[x,y],argTypes:=ats},tr,pos,aft,g⟩) (ht:P.underlying t=some (.slice e)) (hat:ats[0]?= some t) (O:ats[1]?= some t)
  (hs:TS P e n) (hz:TZ P e z0) (U:Nat.beq z0.cells.size n=true) (hi:(P.info? e).map (fun i=>Nat.ble 1 i.bytes&&Nat.ble i.bytes 4096)=some true) (R:Nat.ble 1 n=true)
  (hx:ev σ x=some sv) (hy:ev σ y=some (qS V 1 c9)) (ha:bM e n sv xs.length (xs.flatMap f) ν) (hA:At D₁ V 0 (f z)) (hlen:xs.length+1≤10000000) (hfl:fl=false∨∀p∈ν,p.1∈bad) (hg:cZ all σ g)
  (kk:∀v' ν',bM e n v' (xs++[z]).length ((xs++[z]).flatMap f) ν'→WL P X bad all K Q os ((d,v')::σ) (I::ν') Ds) (hD:D₁∈Ds:=by simp) (hN:Nat.blt d X.N=true:=by rfl):WL P X bad all K Q ((fl,ix)::os) σ (I::ν) Ds:=
 aY ([I]++ν++[]) Yf (xP [I] [] hf z ho ht hat O hs hz U hi R hx hy ha hA hlen hfl hg (fun v' ν' h=>aY (I::ν') Yf (kk v' ν' h)) hD hN)
end
theorem eS{D:aC}{bt ot n ct:Nat}{a:Int}{l:List Int}(h:Sl D RI 1 (.slice (some ⟨bt,ot,none⟩) n ct) (a::l)):At D bt ot [qI a]:=by
 obtain⟨x,cap,hv,h1,h2,h3⟩:=h;cases hv;rcases h3 with h3|⟨b,o,ha,h3⟩
 ·cases h3
 ·cases ha;obtain⟨cs,hr,hc,hA⟩:=h3 0 a rfl;obtain rfl:cs=[qI a]:=hr;simpa using hA
theorem fE{bt wb:Nat}{o:Obj}{ν:aD}(h1:bt∉aD.ks ((wb,o)::ν))(h2:(aD.ks ((wb,o)::ν)).Nodup):∀p∈ν,p.1∉[bt,wb]:=by
 intro p hp hm;have hk:p.1∈ν.ks:=GE.2 ⟨p,hp,rfl⟩;simp only[bLO,n4,bNV]at hm;rcases hm with e|e
 ·exact h1 (LE _ (e▸hk))
 ·exact(bNP.1 h2).1 (e▸hk)
theorem aKC(wb:Nat)(s:aO)(pv cv hv lv mv bl bc yc yq nv:Γ)(ν:aD)(D:aC)(ha:bM 3 1 pv s.row.places.length (s.row.places.flatMap cI) ν)(hsm:s.row.places.length≤100):kF prog 262 [qP wb,nv] D ((wb,qC (dR s pv cv hv lv mv bl bc yc yq) 359)::ν) (fun _ _ ν'=>((s.row.places.length:Int)<7)∧∃R ν1,ν'=(wb,qC (dR s R cv hv lv mv bl bc yc yq) 359)::ν1∧bM 3 1 R (s.row.places++[2]).length ((s.row.places++[2]).flatMap cI) ν1) (fun v=>7≤(s.row.places.length:Int)∧v=fW 3):=by
 refine eK 25 func262 rfl rfl rfl rfl fun h0 hwl hwn=>aA<|Za rfl<|Zal rfl<|Zj rfl aZ rfl<|Zj rfl eB rfl<|Zj rfl fF rfl<|Zo rfl cF rfl Mm0 rfl<|cG rfl U35 rfl ha rfl rfl bRD<|Zl [(_,_)] ν [] rfl (Or.inr Yi) (fun D5 U=>E0 (s.row.places.length:Int) 7 _) (fun v5 D6 U hp5=>cX (P:=prog) (fn:=f262) rfl ⟨hp5.1,hp5.2⟩) fun v5 D6 ν5 U hp5=>?_;obtain⟨V,rfl⟩:=hp5;refine aF<|aP<|Za rfl<|Za rfl<|Zal rfl<|Zj rfl aZ rfl<|Zj rfl eB rfl<|Zj rfl fF rfl<|Zo rfl cF rfl Mm0 rfl<|Zt rfl U35 aI cO rfl (.cons rfl rfl .nil) fun hB D901 Y I=>?_;have Z:=Sl.ofInts (l:=[_]) (n:=1) (cap:=1) I rfl Yd Yd;refine zO aMJ 2 rfl U35 rfl rfl aI cO rfl kD rfl rfl rfl ha I Yd Yo bRD fun R ν1 O=>Zal rfl<|Zj rfl aZ rfl<|Zj rfl eB rfl<|Zj rfl fF rfl<|Zs (dR s R cv hv lv mv bl bc yc yq) rfl O.cells1 fK .head rfl O.cell1<|Zan ?_;exact eG rfl fun D' hD=>⟨V,R,ν1,rfl,O⟩
theorem aIJ(wb:Nat)(s:aO)(pv cv hv lv mv bl bc yc yq nv:Γ)(a:Int)(ν:aD)(D:aC)(hn:Sl D RI 1 nv [a])(ha:bM 3 1 lv s.table.levels.length (s.table.levels.flatMap cI) ν)(hsm:s.table.levels.length≤100):kF prog 271 [qP wb,nv] D ((wb,qC (dR s pv cv hv lv mv bl bc yc yq) 359)::ν) (fun _ _ ν'=>(a≤99∧(s.table.levels.length:Int)<6)∧∃U ν1,ν'=(wb,qC (dR s pv cv hv U mv bl bc yc yq) 359)::ν1∧bM 3 1 U (s.table.levels++[a]).length ((s.table.levels++[a]).flatMap cI) ν1) (fun v=>(99<a∧v=fW 2)∨(a≤99∧6≤(s.table.levels.length:Int)∧v=fW 3)):=by
 obtain⟨bt,ot,ct,rfl⟩:=dF hn Yf;have hbt:=eS hn;refine eK 32 func271 rfl rfl rfl rfl fun h0 hwl hwn=>aA<|Za rfl<|aS rfl hn<|Zl [(_,_)] ν [] rfl (Or.inr Yi) (fun D5 V=>wK a 99 _) (fun v5 D6 V hp5=>cX (P:=prog) (fn:=f271) rfl (bMF ⟨hp5.1,hp5.2⟩)) fun v5 D6 ν5 V hp5=>?_;obtain⟨Y,rfl⟩:=hp5;refine aJ<|Za rfl<|Zal rfl<|Zj rfl aZ rfl<|Zj rfl dA rfl<|Zj rfl lR rfl<|Zo rfl cF rfl Mm0 rfl<|cG rfl U35 rfl ha rfl rfl bRD<|Zl [(_,_)] ν [] rfl (Or.inr Yi) (fun D7 Z=>E0 (s.table.levels.length:Int) 6 _) (fun v7 D8 Z O=>cX (P:=prog) (fn:=f271) rfl (bLY ⟨Y,O.1,O.2⟩)) fun v7 D8 ν7 Z O=>?_;obtain⟨hB,rfl⟩:=O;refine aF<|fD hbt Yf fun hap=>pW fun hnd=>?_;have hnu:=fE hap hnd;have hwbo:wb∉dC.mk [bt,wb]:=dC.out Yf;have hbto:bt∉dC.mk [bt,wb]:=dC.out Yf;refine aV (dC.mk [bt,wb]) 4 17 4094<|Za rfl<|Za rfl<|Zal rfl<|Zj rfl aZ rfl<|Zj rfl dA rfl<|Zj rfl lR rfl<|bD rfl cF rfl Mm0 rfl Ym rfl bRD<|Za rfl<|aS rfl hn<|Zt rfl U35 aI cO rfl (.cons rfl rfl .nil) fun hH D901 hE I=>?_;have hF:=Sl.ofInts (l:=[_]) (n:=1) (cap:=1) I rfl Yd Yd;refine zO aMJ a rfl U35 rfl rfl aI cO rfl kD rfl rfl rfl ha I Yd Yo bRD fun U ν1 R=>Zal rfl<|Zj rfl aZ rfl<|Zj rfl dA rfl<|Zj rfl lR rfl<|Zs (dR s pv cv hv U mv bl bc yc yq) rfl R.cells1 fK .head rfl R.cell1<|Zan ?_;exact eG rfl fun D' hD=>⟨⟨Y,hB⟩,U,ν1,rfl,R⟩
theorem aIN(wb:Nat)(s:aO)(pv cv hv lv mv bl bc yc yq nv:Γ)(a b:Int)(ν:aD)(D:aC)(hn:Sl D RI 1 nv [a,b])(ha:bM 129 2 yq s.yard.claims.length (s.yard.claims.flatMap cP) ν)(hsm:s.yard.claims.length≤100):kF prog 282 [qP wb,nv] D ((wb,qC (dR s pv cv hv lv mv bl bc yc yq) 359)::ν) (fun _ _ ν'=>((a≤b∧b≤7)∧(s.yard.claims.length:Int)<5)∧∃U ν1,ν'=(wb,qC (dR s pv cv hv lv mv bl bc yc U) 359)::ν1∧bM 129 2 U (s.yard.claims++[(a,b)]).length ((s.yard.claims++[(a,b)]).flatMap cP) ν1) (fun v=>((b<a∨7<b)∧v=fW 2)∨((a≤b∧b≤7)∧5≤(s.yard.claims.length:Int)∧v=fW 3)):=by
 obtain⟨bt,ot,ct,rfl⟩:=dF hn Yf;have hbt:=eS hn;refine eK 39 func282 rfl rfl rfl rfl fun h0 hwl hwn=>Za2<|aV [] 3 7 56<|Za rfl<|aS rfl hn<|Za rfl<|aS rfl hn<|Zl [(_,_)] ν [] rfl (Or.inr Yi) (fun D5 V=>JC a b 7 _) (fun v5 D6 V hp5=>cX (P:=prog) (fn:=f282) rfl (bMF ⟨hp5.1,hp5.2⟩)) fun v5 D6 ν5 V hp5=>?_;obtain⟨Y,rfl⟩:=hp5;refine aJ<|Za rfl<|Zal rfl<|Zj rfl aZ rfl<|Zj rfl eU rfl<|Zj rfl nD rfl<|Zo rfl L4 rfl Mm0 rfl<|cG rfl U85 rfl ha rfl rfl bRD<|Zl [(_,_)] ν [] rfl (Or.inr Yi) (fun D7 Z=>E0 (s.yard.claims.length:Int) 5 _) (fun v7 D8 Z I=>cX (P:=prog) (fn:=f282) rfl (bLY ⟨Y,I.1,I.2⟩)) fun v7 D8 ν7 Z I=>?_;obtain⟨hB,rfl⟩:=I;refine aF<|fD hbt Yf fun hap=>pW fun hnd=>?_;have hnu:=fE hap hnd;have hwbo:wb∉dC.mk [bt,wb]:=dC.out Yf;have hbto:bt∉dC.mk [bt,wb]:=dC.out Yf;refine aV (dC.mk [bt,wb]) 4 21 65534<|Wbt ?_;refine Zu [qI a,qI b] rfl j0 jS rfl<|Zt rfl U85 cQ jS rfl (.cons rfl rfl .nil) fun hF D901 hE O=>zO bGR (a,b) rfl U85 rfl rfl cQ jS rfl aEG rfl rfl rfl ha O Yd Yo bRD fun U ν1 R=>Zal rfl<|Zj rfl aZ rfl<|Zj rfl eU rfl<|Zj rfl nD rfl<|Zs (dR s pv cv hv lv mv bl bc yc U) rfl R.cells1 MR .head rfl R.cell1<|Zan ?_;exact eG rfl fun D' hD=>⟨⟨Y,hB⟩,U,ν1,rfl,R⟩
theorem BZ(wb:Nat)(s:aO)(pv cv hv lv mv bl bc yc yq nv:Γ)(a b:Int)(ν:aD)(D:aC)(hn:Sl D RI 1 nv [a,b])(ha:bM 298 3 bl s.book.lines.length (s.book.lines.flatMap cL) ν)(hsm:s.book.lines.length≤100)(kd:Int):kF prog 326 [qP wb,nv,qI kd] D ((wb,qC (dR s pv cv hv lv mv bl bc yc yq) 359)::ν) (fun _ _ ν'=>(max a b<s.book.chairs∧(s.book.lines.length:Int)<8)∧∃U ν1,ν'=(wb,qC (dR s pv cv hv lv mv U bc yc yq) 359)::ν1∧bM 298 3 U (s.book.lines++[(⟨kd,a,b⟩:C3.cB)]).length ((s.book.lines++[(⟨kd,a,b⟩:C3.cB)]).flatMap cL) ν1) (fun v=>(s.book.chairs≤max a b∧v=fW 7)∨(max a b<s.book.chairs∧8≤(s.book.lines.length:Int)∧v=fW 3)):=by
 obtain⟨bt,ot,ct,rfl⟩:=dF hn Yf;have hbt:=eS hn;refine eK 49 func326 rfl rfl rfl rfl fun h0 hwl hwn=>Za2<|aV [] 6 14 8120<|Za rfl<|aS rfl hn<|Za rfl<|aS rfl hn<|nZ rfl rfl rfl rfl bRD<|Za rfl<|Zal rfl<|Zj rfl aZ rfl<|Zj rfl fS rfl ?_;refine Zj rfl vP rfl<|Zo rfl aH rfl Mm0 rfl<|Zl [(_,_)] ν [] rfl (Or.inr Yi) (fun D5 V=>lP (max a b) s.book.chairs _) (fun v5 D6 V hp5=>cX (P:=prog) (fn:=f326) rfl (bMF ⟨hp5.1,hp5.2⟩)) fun v5 D6 ν5 V hp5=>?_;obtain⟨Y,rfl⟩:=hp5;refine aJ<|Za rfl<|Zal rfl<|Zj rfl aZ rfl<|Zj rfl fS rfl<|Zj rfl dN rfl<|Zo rfl hG rfl Mm0 rfl<|cG rfl U80 rfl ha rfl rfl bRD<|Zl [(_,_)] ν [] rfl (Or.inr Yi) (fun D7 Z=>E0 (s.book.lines.length:Int) 8 _) (fun v7 D8 Z I=>cX (P:=prog) (fn:=f326) rfl (bLY ⟨Y,I.1,I.2⟩)) fun v7 D8 ν7 Z I=>?_;obtain⟨hB,rfl⟩:=I;refine aF<|fD hbt Yf fun hap=>pW fun hnd=>?_;have hnu:=fE hap hnd;have hwbo:wb∉dC.mk [bt,wb]:=dC.out Yf;have hbto:bt∉dC.mk [bt,wb]:=dC.out Yf;refine aV (dC.mk [bt,wb]) 4 22 131070<|Za rfl<|Za rfl<|Zal rfl<|Zj rfl aZ rfl<|Zj rfl fS rfl<|Zj rfl dN rfl<|bD rfl hG rfl Mm0 rfl Ym rfl bRD<|Za rfl<|Za rfl<|aS rfl hn<|Za rfl ?_;refine aS rfl hn<|Zu [qI kd,qI a,qI b] rfl aBW kQ rfl<|Zt rfl U80 cS kQ rfl (.cons rfl rfl .nil) fun hF D901 hE O=>zO bEK (⟨kd,a,b⟩:C3.cB) rfl U80 rfl rfl cS kQ rfl n9 rfl rfl rfl ha O Yd Yo bRD fun U ν1 R=>Zal rfl<|Zj rfl aZ rfl<|Zj rfl fS rfl<|Zj rfl dN rfl<|Zs (dR s pv cv hv lv mv U bc yc yq) rfl R.cells1 eR .head rfl R.cell1<|Zan ?_;exact eG rfl fun D' hD=>⟨⟨Y,hB⟩,U,ν1,rfl,R⟩
theorem BQ(wb:Nat)(s:aO)(pv cv hv lv mv bl bc yc yq nv:Γ)(a b:Int)(ν:aD)(D:aC)(hn:Sl D RI 1 nv [a,b])(ha:bM 277 3 cv s.row.counts.length (s.row.counts.flatMap cC) ν)(hsm:s.row.counts.length≤100)(bk:Bool)(hpl:∃x c,pv=.slice x s.row.places.length c):kF prog 322 [qP wb,nv,.bool bk] D ((wb,qC (dR s pv cv hv lv mv bl bc yc yq) 359)::ν) (fun _ _ ν'=>((a≤(s.row.places.length:Int)∧b≤9)∧(s.row.counts.length:Int)<6)∧∃Y ν1,ν'=(wb,qC (dR s pv Y hv lv mv bl bc yc yq) 359)::ν1∧bM 277 3 Y (s.row.counts++[(⟨bk,a,b⟩:C1.xX)]).length ((s.row.counts++[(⟨bk,a,b⟩:C1.xX)]).flatMap cC) ν1) (fun v=>(((s.row.places.length:Int)<a∨9<b)∧v=fW 2)∨((a≤(s.row.places.length:Int)∧b≤9)∧6≤(s.row.counts.length:Int)∧v=fW 3)):=by
 obtain⟨bt,ot,ct,rfl⟩:=dF hn Yf;have hbt:=eS hn;refine eK 52 func322 rfl rfl rfl rfl fun h0 hwl hwn=>Za2<|aV [] 9 17 31736<|Za rfl<|aS rfl hn<|Za rfl<|Zal rfl<|Zj rfl aZ rfl<|Zj rfl eB rfl<|Zj rfl fF rfl<|Zo rfl cF rfl Mm0 rfl ?_;obtain⟨aq,cq,hq⟩:=hpl;refine aPK rfl U35 rfl hq rfl rfl bRD<|Zaq rfl<|Za rfl<|aS rfl hn<|Zaq rfl<|Zt rfl U397 mI pO rfl (.cons rfl rfl (.cons rfl rfl .nil)) fun hI D901 hE O=>Zl [(_,_)] ν [] rfl (bLY Yi) (fun D5 R=>gG 2 [decide ((s.row.places.length:Int)<a),decide (9<b)] _ _ ((iI (l:=[decide ((s.row.places.length:Int)<a),decide (9<b)]) (fun _ _ _ h=>h) O Yf).up RB.up (R _ Yf))) (fun v5 D6 R hp5=>cX (P:=prog) (fn:=f322) rfl (bMF ⟨Xbf,hp5.2⟩)) fun v5 D6 ν5 R hp5=>?_;obtain⟨hf50,rfl⟩:=hp5;have Z:a≤(s.row.places.length:Int)∧b≤9:=by simpa using hf50
 refine aJ<|Za rfl<|Zal rfl<|Zj rfl aZ rfl<|Zj rfl eB rfl<|Zj rfl mW rfl<|Zo rfl M8 rfl Mm0 rfl<|cG rfl U73 rfl ha rfl rfl bRD<|Zl [(_,_)] ν [] rfl (Or.inr Yi) (fun D7 hB=>E0 (s.row.counts.length:Int) 6 _) (fun v7 D8 hB I=>cX (P:=prog) (fn:=f322) rfl (bLY ⟨Z,I.1,I.2⟩)) fun v7 D8 ν7 hB I=>?_;obtain⟨hF,rfl⟩:=I;refine aF<|fD hbt Yf fun hap=>pW fun hnd=>?_;have hnu:=fE hap hnd;have hwbo:wb∉dC.mk [bt,wb]:=dC.out Yf;have hbto:bt∉dC.mk [bt,wb]:=dC.out Yf;refine aV (dC.mk [bt,wb]) 4 22 131070<|Za rfl<|Za rfl<|Zal rfl<|Zj rfl aZ rfl<|Zj rfl eB rfl<|Zj rfl mW rfl<|bD rfl M8 rfl Mm0 rfl Ym rfl bRD<|Za rfl<|Za rfl<|aS rfl hn<|Za rfl ?_;refine aS rfl hn<|Zu [.bool bk,qI a,qI b] rfl aYY zX rfl<|Zt rfl U73 kP zX rfl (.cons rfl rfl .nil) fun hJ hK hH U=>zO bKS (⟨bk,a,b⟩:C1.xX) rfl U73 rfl rfl kP zX rfl aDK rfl rfl rfl ha U Yd Yo bRD fun Y ν1 V=>Zal rfl<|Zj rfl aZ rfl<|Zj rfl eB rfl<|Zj rfl mW rfl<|Zs (dR s pv Y hv lv mv bl bc yc yq) rfl V.cells1 QA .head rfl V.cell1<|Zan ?_;exact eG rfl fun D' hD=>⟨⟨Z,hF⟩,Y,ν1,rfl,V⟩
theorem aSK(wb:Nat)(s:aO)(pv cv hv lv mv bl bc yc yq nv:Γ)(a b c d:Int)(ν:aD)(D:aC)(hn:Sl D RI 1 nv [a,b,c,d])(ha:bM 376 4 mv s.table.marks.length (s.table.marks.flatMap cM) ν)(hsm:s.table.marks.length≤100)(hht:∃x c,hv=.slice x s.table.heights.length c):kF prog 273 [qP wb,nv] D ((wb,qC (dR s pv cv hv lv mv bl bc yc yq) 359)::ν) (fun _ _ ν'=>(max a b<(s.table.heights.length:Int)∧a≤b∧(c≤d∧d≤99)∧(s.table.marks.length:Int)<5)∧∃v1 ν1,ν'=(wb,qC (dR s pv cv hv lv v1 bl bc yc yq) 359)::ν1∧bM 376 4 v1 (s.table.marks++[(⟨a,b,c,d⟩:C2.Mk)]).length ((s.table.marks++[(⟨a,b,c,d⟩:C2.Mk)]).flatMap cM) ν1) (fun v=>((s.table.heights.length:Int)≤max a b∧v=fW 7)∨(max a b<(s.table.heights.length:Int)∧b<a∧v=fW 2)∨(max a b<(s.table.heights.length:Int)∧a≤b∧(d<c∨99<d)∧v=fW 2)∨(max a b<(s.table.heights.length:Int)∧a≤b∧(c≤d∧d≤99)∧5≤(s.table.marks.length:Int)∧v=fW 3)):=by
 obtain⟨bt,ot,ct,rfl⟩:=dF hn Yf;have hbt:=eS hn;refine eK 70 func273 rfl rfl rfl rfl fun h0 hwl hwn=>Za2<|aV [] 7 15 16312<|Za rfl<|aS rfl hn<|Za rfl<|aS rfl hn<|nZ rfl rfl rfl rfl bRD<|Za rfl<|Zal rfl<|Zj rfl aZ rfl<|Zj rfl dA rfl ?_;refine Zj rfl lQ rfl<|Zo rfl xU rfl Mm0 rfl ?_;obtain⟨aq,cq,hq⟩:=hht;refine aPK rfl U76 rfl hq rfl rfl bRD<|Zl [(_,_)] ν [] rfl (Or.inr Yi) (fun D5 hH=>lP (max a b) (s.table.heights.length:Int) _) (fun v5 D6 hH hp5=>cX (P:=prog) (fn:=f273) rfl (bMF ⟨hp5.1,hp5.2⟩)) fun v5 D6 ν5 hH hp5=>?_;obtain⟨O,rfl⟩:=hp5;refine bW<|aV [] 5 9 56<|Za rfl<|aS rfl hn<|Za rfl<|aS rfl hn<|Zaq rfl<|Zt rfl U397 mI pO rfl (.cons rfl rfl .nil) (fun hX D901 hO Y=>Zl [(_,_)] ν [] rfl (bLY Yi) (fun D7 Z=>gG 2 [decide (b<a)] _ _ ((iI (l:=[decide (b<a)]) (fun _ _ _ h=>h) Y Yf).up RB.up (Z _ Yf))) (fun v7 D8 Z R=>cX (P:=prog) (fn:=f273) rfl (bLY (bMF ⟨O,by simpa using R.1,R.2⟩))) fun v7 D8 ν7 Z R=>?_);obtain⟨hI,rfl⟩:=R;have hB:a≤b:=by simpa using hI
 refine bW<|aV [] 3 7 56<|Za rfl<|aS rfl hn<|Za rfl<|aS rfl hn<|Zl [(_,_)] ν [] rfl (Or.inr Yi) (fun D9 hJ=>JC c d 99 _) (fun v9 D10 hJ U=>cX (P:=prog) (fn:=f273) rfl (bLY (bLY (bMF ⟨O,hB,U.1,U.2⟩)))) fun v9 D10 ν9 hJ U=>?_;obtain⟨hK,rfl⟩:=U;refine aJ<|Za rfl<|Zal rfl<|Zj rfl aZ rfl<|Zj rfl dA rfl<|Zj rfl nH rfl<|Zo rfl H7 rfl Mm0 rfl<|cG rfl U77 rfl ha rfl rfl bRD<|Zl [(_,_)] ν [] rfl (Or.inr Yi) (fun rB V=>E0 (s.table.marks.length:Int) 5 _) (fun hP hR V I=>cX (P:=prog) (fn:=f273) rfl (bLY (bLY (bLY ⟨O,hB,hK,I.1,I.2⟩)))) fun hP hR ν11 V I=>?_;obtain⟨hN,rfl⟩:=I;refine aF<|fD hbt Yf fun hap=>pW fun hnd=>?_;have hnu:=fE hap hnd;have hwbo:wb∉dC.mk [bt,wb]:=dC.out Yf;have hbto:bt∉dC.mk [bt,wb]:=dC.out Yf;refine aV (dC.mk [bt,wb]) 4 28 8388606<|Wbu ?_;refine Za rfl<|aS rfl hn<|Za rfl<|aS rfl hn<|Zu [qI c,qI d] rfl zV iC rfl<|Zu [qI a,qI b,qI c,qI d] rfl bDJ A5 rfl<|Zt rfl U77 lM A5 rfl (.cons rfl rfl .nil) fun hY rA hS hE=>zO bKZ (⟨a,b,c,d⟩:C2.Mk) rfl U77 rfl rfl lM A5 rfl aFC rfl rfl rfl ha hE Yd Yo bRD fun v1 ν1 hF=>Zal rfl<|Zj rfl aZ rfl<|Zj rfl dA rfl<|Zj rfl nH rfl ?_;refine Zs (dR s pv cv hv lv v1 bl bc yc yq) rfl hF.cells1 MI .head rfl hF.cell1<|Zan ?_;exact eG rfl fun D' hD=>⟨⟨O,hB,hK,hN⟩,v1,ν1,rfl,hF⟩
theorem aSH{α:Type}{f:α→List Γ}{n i:Nat}(h:∀x,(f x).length=n){xs:List α}(hi:i<xs.length){x:α}{junk:List Γ}:(xs.flatMap f++junk).take (0+i*n)++f x++(xs.flatMap f++junk).drop (0+i*n+(f x).length)=(xs.set i x).flatMap f++junk:=by
 rw[bOM];induction xs generalizing i with
 |nil=>simp at hi
 |cons d xs ih=>
  cases i with
  |zero=>
   have e:(d::xs).flatMap f++junk=f d++(xs.flatMap f++junk):=by simp
   have I:((d::xs).set 0 x).flatMap f++junk=f x++(xs.flatMap f++junk):=by simp
   rw[bPY,List.take_zero,bMW,bOM,e,I,h,←h d,List.drop_left]
  |succ i=>
   have hi':i<xs.length:=by simpa using hi
   have e:(d::xs).flatMap f++junk=f d++(xs.flatMap f++junk):=by simp
   have I:((d::xs).set (i+1) x).flatMap f++junk=f d++((xs.set i x).flatMap f++junk):=by simp
   rw[e,I,show(i+1)*n=(f d).length+i*n by rw[h,bOK];omega,List.take_length_add_append,show(f d).length+i*n+(f x).length=(f d).length+(i*n+(f x).length) by omega,bQF,bMC,bMC];congr 1;rw[←bMC];exact ih hi'
section
variable{α:Type}{f:α→List Γ}{n:Nat}
theorem sI{xs ys:List α}{e b cap:Nat}{junk:List Γ}(hf:aMP f n)(he:ys.length=xs.length)(hcap:xs.length≤cap)(hl1:(xs.flatMap f).length=xs.length*n)(I:(xs.flatMap f++junk).length=cap*n):bM e n (qS b xs.length cap) ys.length (ys.flatMap f) [(b,qC (ys.flatMap f++junk) e)]:=
 bLY ⟨b,cap,junk,by rw[he],Yd,rfl,dI hf.1 ys,by rw[bLT,dI hf.1 ys,he,←I,bLT,hl1]⟩
variable{P:Program}{X:Cx}{γb:Type}[Membership Nat γb]{bad:γb}{all:Array Oper}{K:Act→Δ→Prop}{Q:Exit→Act→Δ→Prop}
variable{σ:bX}{μ μ':aD}{Ds:List aC}{os:List (Bool×Nat)}{ix:Nat}{x y:Operand}{v:Γ}{ty t e:Θ}{pos:String}{aft:Array Edge}{g:Option (Nat×Bool)}{xs:List α}{i b:Nat}{junk:List Γ}
theorem y5(hf:aMP f n)(z:α)(ho:all[ix]?= some ⟨none,.store t x y,ty,pos,aft,g⟩)(hx:ev σ x=some (.pointer (some ⟨b,0+i*n,none⟩)))(hy:ev σ y=some v)(hv:v.cells=(f z).toArray)(hs:TS P t n)
  (hm:bR μ b (qC (xs.flatMap f++junk) e) (qC ((xs.set i z).flatMap f++junk) e) μ') (hi:i<xs.length) (hg:cZ all σ g) (kk:WL P X bad all K Q os σ μ' Ds):WL P X bad all K Q ((false,ix)::os) σ μ Ds:=
 cY (us:=f z) (ws:=(xs.set i z).flatMap f++junk) ho hx hy hv (by rw[hf.1];exact hs) hm (by rw[hf.1,bLT,dI hf.1];have:=bPG n (show i+1≤xs.length from hi);rw[bOK,Nat.one_mul]at this;omega) (aSH hf.1 hi) (hf.2 z) hg kk
end
theorem aPO(wb:Nat)(s:aO)(pv cv hv lv mv bl bc yc yq nv:Γ)(a b:Int)(ν:aD)(D:aC)(hn:Sl D RI 1 nv [a,b])(ha:bM 3 1 pv s.row.places.length (s.row.places.flatMap cI) ν)(hsm:s.row.places.length≤100)(Z:0≤a):kF prog 263 [qP wb,nv] D ((wb,qC (dR s pv cv hv lv mv bl bc yc yq) 359)::ν) (fun _ _ ν'=>(a<(s.row.places.length:Int)∧b≤2)∧∃ν1,ν'=(wb,qC (dR s pv cv hv lv mv bl bc yc yq) 359)::ν1∧bM 3 1 pv (s.row.places.set a.toNat b).length ((s.row.places.set a.toNat b).flatMap cI) ν1) (fun v=>((s.row.places.length:Int)≤a∧v=fW 7)∨(a<(s.row.places.length:Int)∧2<b∧v=fW 2)):=by
 obtain⟨bt,ot,ct,rfl⟩:=dF hn Yf;have hbt:=eS hn;refine eK 32 func263 rfl rfl rfl rfl fun h0 hwl hwn=>Za2<|aV [] 7 11 1016<|Za rfl<|aS rfl hn<|Za rfl<|Zal rfl<|Zj rfl aZ rfl<|Zj rfl eB rfl<|Zj rfl fF rfl<|Zo rfl cF rfl Mm0 rfl<|cG rfl U35 rfl ha rfl rfl bRD ?_;refine Zl [(_,_)] ν [] rfl (Or.inr Yi) (fun D5 O=>lP a (s.row.places.length:Int) _) (fun v5 D6 O hp5=>cX (P:=prog) (fn:=f263) rfl (bMF ⟨hp5.1,hp5.2⟩)) fun v5 D6 ν5 O hp5=>?_;obtain⟨R,rfl⟩:=hp5;refine aJ<|Za rfl<|aS rfl hn<|Zl [(_,_)] ν [] rfl (Or.inr Yi) (fun D7 U=>wK b 2 _) (fun v7 D8 U I=>cX (P:=prog) (fn:=f263) rfl (bLY ⟨R,I.1,I.2⟩)) fun v7 D8 ν7 U I=>?_;obtain⟨V,rfl⟩:=I;refine aF ?_;obtain⟨bx,cap,junk,rfl,hcap,rfl,hl1,Y⟩:=ha.some Yd;refine aV [] 5 14 4032<|Za rfl<|Zal rfl<|Zj rfl aZ rfl<|Zj rfl eB rfl<|Zj rfl fF rfl<|Wcd ?_;refine Wby ?_;exact eG rfl fun D' hD=>⟨⟨R,V⟩,_,rfl,sI aMJ bPR hcap hl1 Y⟩
theorem aGD(wb:Nat)(s:aO)(pv cv hv lv mv bl bc yc yq nv:Γ)(a b:Int)(ν:aD)(D:aC)(hn:Sl D RI 1 nv [a,b])(ha:bM 3 1 lv s.table.levels.length (s.table.levels.flatMap cI) ν)(hsm:s.table.levels.length≤100)(Z:0≤a):kF prog 272 [qP wb,nv] D ((wb,qC (dR s pv cv hv lv mv bl bc yc yq) 359)::ν) (fun _ _ ν'=>(a<(s.table.levels.length:Int)∧b≤99)∧∃ν1,ν'=(wb,qC (dR s pv cv hv lv mv bl bc yc yq) 359)::ν1∧bM 3 1 lv (s.table.levels.set a.toNat b).length ((s.table.levels.set a.toNat b).flatMap cI) ν1) (fun v=>((s.table.levels.length:Int)≤a∧v=fW 7)∨(a<(s.table.levels.length:Int)∧99<b∧v=fW 2)):=by
 obtain⟨bt,ot,ct,rfl⟩:=dF hn Yf;have hbt:=eS hn;refine eK 32 func272 rfl rfl rfl rfl fun h0 hwl hwn=>Za2<|aV [] 7 11 1016<|Za rfl<|aS rfl hn<|Za rfl<|Zal rfl<|Zj rfl aZ rfl<|Zj rfl dA rfl<|Zj rfl lR rfl<|Zo rfl cF rfl Mm0 rfl<|cG rfl U35 rfl ha rfl rfl bRD ?_;refine Zl [(_,_)] ν [] rfl (Or.inr Yi) (fun D5 O=>lP a (s.table.levels.length:Int) _) (fun v5 D6 O hp5=>cX (P:=prog) (fn:=f272) rfl (bMF ⟨hp5.1,hp5.2⟩)) fun v5 D6 ν5 O hp5=>?_;obtain⟨R,rfl⟩:=hp5;refine aJ<|Za rfl<|aS rfl hn<|Zl [(_,_)] ν [] rfl (Or.inr Yi) (fun D7 U=>wK b 99 _) (fun v7 D8 U I=>cX (P:=prog) (fn:=f272) rfl (bLY ⟨R,I.1,I.2⟩)) fun v7 D8 ν7 U I=>?_;obtain⟨V,rfl⟩:=I;refine aF ?_;obtain⟨bx,cap,junk,rfl,hcap,rfl,hl1,Y⟩:=ha.some Yd;refine aV [] 5 14 4032<|Za rfl<|Zal rfl<|Zj rfl aZ rfl<|Zj rfl dA rfl<|Zj rfl lR rfl<|Wcd ?_;refine Wby ?_;exact eG rfl fun D' hD=>⟨⟨R,V⟩,_,rfl,sI aMJ bPR hcap hl1 Y⟩
theorem aOE(wb:Nat)(s:aO)(pv cv hv lv mv bl bc yc yq nv:Γ)(a b c:Int)(ν:aD)(D:aC)(hn:Sl D RI 1 nv [a,b,c])(ha:bM 122 2 hv s.table.heights.length (s.table.heights.flatMap cP) ν)(hsm:s.table.heights.length≤100)(hH:0≤a)(hI:0≤b∧b≤1000):kF prog 269 [qP wb,nv] D ((wb,qC (dR s pv cv hv lv mv bl bc yc yq) 359)::ν) (fun _ _ ν'=>(a<(s.table.heights.length:Int)∧b≤c∧c≤99∧c≤b+2)∧∃ν1,ν'=(wb,qC (dR s pv cv hv lv mv bl bc yc yq) 359)::ν1∧bM 122 2 hv (s.table.heights.set a.toNat (b,c)).length ((s.table.heights.set a.toNat (b,c)).flatMap cP) ν1) (fun v=>((s.table.heights.length:Int)≤a∧v=fW 7)∨(a<(s.table.heights.length:Int)∧(c<b∨99<c∨b+2<c)∧v=fW 2)):=by
 obtain⟨bt,ot,ct,rfl⟩:=dF hn Yf;have hbt:=eS hn;refine eK 53 func269 rfl rfl rfl rfl fun h0 hwl hwn=>Za2<|aV [] 7 11 1016<|Za rfl<|aS rfl hn<|Za rfl<|Zal rfl<|Zj rfl aZ rfl<|Zj rfl dA rfl<|Zj rfl lQ rfl<|Zo rfl xU rfl Mm0 rfl<|cG rfl U76 rfl ha rfl rfl bRD ?_;refine Zl [(_,_)] ν [] rfl (Or.inr Yi) (fun D5 U=>lP a (s.table.heights.length:Int) _) (fun v5 D6 U hp5=>cX (P:=prog) (fn:=f269) rfl (bMF ⟨hp5.1,hp5.2⟩)) fun v5 D6 ν5 U hp5=>?_;obtain⟨V,rfl⟩:=hp5;refine bW<|aV [] 6 21 524216<|Za rfl<|aS rfl hn<|Za rfl<|aS rfl hn<|Zaq rfl<|Za rfl<|aS rfl hn<|Zaq rfl<|Za rfl<|aS rfl hn ?_;refine Za rfl<|aS rfl hn<|Zae rfl<|Zaq rfl<|Zt rfl U397 mI pO rfl (.cons rfl rfl (.cons rfl rfl (.cons rfl rfl .nil))) (fun hF D901 Z O=>Zl [(_,_)] ν [] rfl (bLY Yi) (fun D7 R=>gG 2 [decide (c<b),decide (99<c),decide (b+2<c)] _ _ ((iI (l:=[decide (c<b),decide (99<c),decide (b+2<c)]) (fun _ _ _ h=>h) O Yf).up RB.up (R _ Yf))) (fun v7 D8 R I=>cX (P:=prog) (fn:=f269) rfl (bLY ⟨V,by simpa using I.1,I.2⟩)) fun v7 D8 ν7 R I=>?_);obtain⟨Y,rfl⟩:=I;have hB:b≤c∧c≤99∧c≤b+2:=by simpa using Y
 refine aF ?_;obtain⟨bx,cap,junk,rfl,hcap,rfl,hl1,hE⟩:=ha.some Yd;refine aV [] 5 18 65472<|Za rfl<|Zal rfl<|Zj rfl aZ rfl<|Zj rfl dA rfl<|Zj rfl lQ rfl<|Zo rfl xU rfl Mm0 rfl<|Za rfl<|aS rfl hn<|Za rfl<|aS rfl hn<|Za rfl ?_;refine aS rfl hn<|Zu [qI b,qI c] rfl zV iC rfl<|eP rfl U76 cN rfl rfl Yd Yd rfl bRD<|y5 bGR (b,c) rfl rfl rfl rfl cN (.tail .head) Yd bRD<|Zan ?_;exact eG rfl fun D' hD=>⟨⟨V,hB⟩,_,rfl,sI bGR bPR hcap hl1 hE⟩
theorem I9{wb t e sz n:Nat}{cs cells:List Γ}{v:Γ}{ν:aD}(ha:bM e sz v n cells ν):∀p∈(wb,Obj.cells cs.toArray t (0,0))::ν,dE p.2:=by
 intro p hp;rcases bLO.1 hp with rfl|hp
 ·rfl
 ·rcases ha with⟨_,_,_,_,rfl⟩|⟨b,cap,junk,_,_,rfl,_⟩
  ·cases hp
  ·simp only[bMI]at hp;subst hp;rfl
theorem aGY(wb:Nat)(s:aO)(pv cv hv lv mv bl bc yc yq nv:Γ)(a b:Int)(ν:aD)(D:aC)(hn:Sl D RI 1 nv [a,b])(ha:bM 277 3 cv s.row.counts.length (s.row.counts.flatMap cC) ν)(hsm:s.row.counts.length≤100)(hpl:∃x c,pv=.slice x s.row.places.length c):kF prog 264 [qP wb,nv] D ((wb,qC (dR s pv cv hv lv mv bl bc yc yq) 359)::ν) (fun _ _ ν'=>((a≤(s.row.places.length:Int)∧b≤9)∧(s.row.counts.length:Int)<6)∧∃O ν1,ν'=(wb,qC (dR s pv O hv lv mv bl bc yc yq) 359)::ν1∧bM 277 3 O (s.row.counts++[(⟨false,a,b⟩:C1.xX)]).length ((s.row.counts++[(⟨false,a,b⟩:C1.xX)]).flatMap cC) ν1) (fun v=>(((s.row.places.length:Int)<a∨9<b)∧v=fW 2)∨((a≤(s.row.places.length:Int)∧b≤9)∧6≤(s.row.counts.length:Int)∧v=fW 3)):=by
 refine eK 7 func264 rfl rfl rfl rfl fun h0 hwl hwn=>aP<|Za rfl<|Za rfl<|Zab ((wb,qC (dR s pv cv hv lv mv bl bc yc yq) 359)::ν++[]) (bMM _).symm<|Zm [] [] ((wb,qC (dR s pv cv hv lv mv bl bc yc yq) 359)::ν) rfl (I9 ha) (fun U I=>BQ wb s pv cv hv lv mv bl bc yc yq nv a b ν _ (hn.up RI.up (I _ Yf)) ha hsm false hpl) (fun v5 R I hp5=>cX (P:=prog) (fn:=f264) rfl hp5) fun v5 R ν5 I hp5=>Zab ν5 (bMM _)<|Zan ?_;exact eG rfl fun D' hD=>hp5
theorem aOJ(wb:Nat)(s:aO)(pv cv hv lv mv bl bc yc yq nv:Γ)(a b:Int)(ν:aD)(D:aC)(hn:Sl D RI 1 nv [a,b])(ha:bM 277 3 cv s.row.counts.length (s.row.counts.flatMap cC) ν)(hsm:s.row.counts.length≤100)(hpl:∃x c,pv=.slice x s.row.places.length c):kF prog 265 [qP wb,nv] D ((wb,qC (dR s pv cv hv lv mv bl bc yc yq) 359)::ν) (fun _ _ ν'=>((a≤(s.row.places.length:Int)∧b≤9)∧(s.row.counts.length:Int)<6)∧∃O ν1,ν'=(wb,qC (dR s pv O hv lv mv bl bc yc yq) 359)::ν1∧bM 277 3 O (s.row.counts++[(⟨true,a,b⟩:C1.xX)]).length ((s.row.counts++[(⟨true,a,b⟩:C1.xX)]).flatMap cC) ν1) (fun v=>(((s.row.places.length:Int)<a∨9<b)∧v=fW 2)∨((a≤(s.row.places.length:Int)∧b≤9)∧6≤(s.row.counts.length:Int)∧v=fW 3)):=by
 refine eK 7 func265 rfl rfl rfl rfl fun h0 hwl hwn=>aP<|Za rfl<|Za rfl<|Zab ((wb,qC (dR s pv cv hv lv mv bl bc yc yq) 359)::ν++[]) (bMM _).symm<|Zm [] [] ((wb,qC (dR s pv cv hv lv mv bl bc yc yq) 359)::ν) rfl (I9 ha) (fun U I=>BQ wb s pv cv hv lv mv bl bc yc yq nv a b ν _ (hn.up RI.up (I _ Yf)) ha hsm true hpl) (fun v5 R I hp5=>cX (P:=prog) (fn:=f265) rfl hp5) fun v5 R ν5 I hp5=>Zab ν5 (bMM _)<|Zan ?_;exact eG rfl fun D' hD=>hp5
theorem aPQ(wb:Nat)(s:aO)(pv cv hv lv mv bl bc yc yq nv:Γ)(a b:Int)(ν:aD)(D:aC)(hn:Sl D RI 1 nv [a,b])(ha:bM 298 3 bl s.book.lines.length (s.book.lines.flatMap cL) ν)(hsm:s.book.lines.length≤100):kF prog 275 [qP wb,nv] D ((wb,qC (dR s pv cv hv lv mv bl bc yc yq) 359)::ν) (fun _ _ ν'=>(max a b<s.book.chairs∧(s.book.lines.length:Int)<8)∧∃O ν1,ν'=(wb,qC (dR s pv cv hv lv mv O bc yc yq) 359)::ν1∧bM 298 3 O (s.book.lines++[(⟨1,a,b⟩:C3.cB)]).length ((s.book.lines++[(⟨1,a,b⟩:C3.cB)]).flatMap cL) ν1) (fun v=>(s.book.chairs≤max a b∧v=fW 7)∨(max a b<s.book.chairs∧8≤(s.book.lines.length:Int)∧v=fW 3)):=by
 refine eK 7 func275 rfl rfl rfl rfl fun h0 hwl hwn=>aP<|Za rfl<|Za rfl<|Zab ((wb,qC (dR s pv cv hv lv mv bl bc yc yq) 359)::ν++[]) (bMM _).symm<|Zm [] [] ((wb,qC (dR s pv cv hv lv mv bl bc yc yq) 359)::ν) rfl (I9 ha) (fun U I=>BZ wb s pv cv hv lv mv bl bc yc yq nv a b ν _ (hn.up RI.up (I _ Yf)) ha hsm 1) (fun v5 R I hp5=>cX (P:=prog) (fn:=f275) rfl hp5) fun v5 R ν5 I hp5=>Zab ν5 (bMM _)<|Zan ?_;exact eG rfl fun D' hD=>hp5
theorem aJP(wb:Nat)(s:aO)(pv cv hv lv mv bl bc yc yq nv:Γ)(a b:Int)(ν:aD)(D:aC)(hn:Sl D RI 1 nv [a,b])(ha:bM 298 3 bl s.book.lines.length (s.book.lines.flatMap cL) ν)(hsm:s.book.lines.length≤100):kF prog 276 [qP wb,nv] D ((wb,qC (dR s pv cv hv lv mv bl bc yc yq) 359)::ν) (fun _ _ ν'=>(max a b<s.book.chairs∧(s.book.lines.length:Int)<8)∧∃O ν1,ν'=(wb,qC (dR s pv cv hv lv mv O bc yc yq) 359)::ν1∧bM 298 3 O (s.book.lines++[(⟨2,a,b⟩:C3.cB)]).length ((s.book.lines++[(⟨2,a,b⟩:C3.cB)]).flatMap cL) ν1) (fun v=>(s.book.chairs≤max a b∧v=fW 7)∨(max a b<s.book.chairs∧8≤(s.book.lines.length:Int)∧v=fW 3)):=by
 refine eK 7 func276 rfl rfl rfl rfl fun h0 hwl hwn=>aP<|Za rfl<|Za rfl<|Zab ((wb,qC (dR s pv cv hv lv mv bl bc yc yq) 359)::ν++[]) (bMM _).symm<|Zm [] [] ((wb,qC (dR s pv cv hv lv mv bl bc yc yq) 359)::ν) rfl (I9 ha) (fun U I=>BZ wb s pv cv hv lv mv bl bc yc yq nv a b ν _ (hn.up RI.up (I _ Yf)) ha hsm 2) (fun v5 R I hp5=>cX (P:=prog) (fn:=f276) rfl hp5) fun v5 R ν5 I hp5=>Zab ν5 (bMM _)<|Zan ?_;exact eG rfl fun D' hD=>hp5
theorem IQ{α:Type}{f:α→List Γ}{n i k:Nat}(h:∀x,(f x).length=n){xs:List α}{x:α}{v:Γ}{junk:List Γ}(hx:xs[i]?= some x)(hk:k<n)(hv:(f x)[k]?= some v):(xs.flatMap f++junk)[0+i*n+k]?= some v:=by
 have h1:=KY h hx junk;have h2:(((xs.flatMap f++junk).drop (i*n)).take n)[k]?= some v:=by rw[h1];exact hv
 rw[bOU hk,bOJ]at h2;rw[bOM];exact h2
theorem aPX{α:Type}{f:α→List Γ}{n i k off:Nat}(h:∀x,(f x).length=n){xs:List α}{x x2:α}{v:Γ}{junk:List Γ}(hx:xs[i]?= some x)(hk:k<n)(h2:f x2=(f x).take k++[v]++(f x).drop (k+1))(ho:off=i*n+k):(xs.flatMap f++junk).take off++[v]++(xs.flatMap f++junk).drop (off+ [v].length)=(xs.set i x2).flatMap f++junk:=by
 subst ho;induction xs generalizing i with
 |nil=>simp at hx
 |cons d xs ih=>
  have e:(d::xs).flatMap f++junk=f d++(xs.flatMap f++junk):=by simp
  cases i with
  |zero=>
   obtain rfl:d=x:=by simpa using hx
   have I:((d::xs).set 0 x2).flatMap f++junk=f x2++(xs.flatMap f++junk):=by simp
   rw[bPY,bOM,e,I,h2,bNH (by rw[h];omega),bOD,List.drop_append_of_le_length (by rw[h];omega)];simp
  |succ i=>
   have I:((d::xs).set (i+1) x2).flatMap f++junk=f d++((xs.set i x2).flatMap f++junk):=by simp
   rw[e,I,show(i+1)*n+k=(f d).length+(i*n+k) by rw[h,bOK];omega,List.take_length_add_append,show(f d).length+(i*n+k)+ [v].length=(f d).length+(i*n+k+ [v].length) by omega,bQF,bMC,bMC];congr 1;rw[←bMC];exact ih Xat
section
variable{P:Program}{X:Cx}{γb:Type}[Membership Nat γb]{bad:γb}{all:Array Oper}{K:Act→Δ→Prop}{Q:Exit→Act→Δ→Prop}
variable{σ:bX}{μ μ':aD}{Ds:List aC}{os:List (Bool×Nat)}{ix:Nat}{x y:Operand}{v:Γ}{ty t e:Θ}{pos:String}{aft:Array Edge}{g:Option (Nat×Bool)}{α:Type}{f:α→List Γ}{n:Nat}{xs:List α}{z x2:α}{i b k off:Nat}{junk:List Γ}
theorem PP(hf:aMP f n)(ho:all[ix]?= some ⟨none,.store t x y,ty,pos,aft,g⟩)(hx:ev σ x=some (.pointer (some ⟨b,off,none⟩)))(hy:ev σ y=some v)(hv:v.cells=#[v])(hs:TS P t 1)
  (hm:bR μ b (qC (xs.flatMap f++junk) e) (qC ((xs.set i x2).flatMap f++junk) e) μ') (hz:xs[i]?= some z) (hk:k<n) (h2:f x2=(f z).take k++[v]++(f z).drop (k+1)) (hoff:off=i*n+k) (hg:cZ all σ g) (kk:WL P X bad all K Q os σ μ' Ds):WL P X bad all K Q ((false,ix)::os) σ μ Ds:=
 cY (us:=[v]) (ws:=(xs.set i x2).flatMap f++junk) ho hx hy hv hs hm (by rw[bLT,dI hf.1,hoff,bOD];have:=bPG n (bLS.1 hz).1;rw[Nat.succ_mul]at this;omega) (aPX hf.1 hz hk h2 hoff) (fun u hu=>hf.2 x2 u (by rw[h2,bMI.1 hu];simp)) hg kk
end
def EL(p:C7.Pt)(i:Nat)(v:Int):C7.Pt:=if i=0 then {p with a:=v}else if i=1 then {p with b:=v}else {p with c:=v}
theorem aNL{x:C7.Ch}{i:Nat}{v:Int}(h:i<3):cH {x with parts:=EL x.parts i v}=(cH x).take (1+i)++[qI v]++(cH x).drop (1+i+1):=by
 have:i=0∨i=1∨i=2:=by omega
 rcases this with rfl|rfl|rfl<;>rfl
theorem YY(wb:Nat)(s:aO)(pv cv hv lv mv bl bc yc yq nv:Γ)(a:Int)(ν:aD)(D:aC)(hn:Sl D RI 1 nv [a])(ha:bM 298 3 bl s.book.lines.length (s.book.lines.flatMap cL) ν)(hsm:s.book.lines.length≤100)(hF:0≤a):kF prog 277 [qP wb,nv] D ((wb,qC (dR s pv cv hv lv mv bl bc yc yq) 359)::ν) (fun _ _ ν'=>∃x,s.book.lines[a.toNat]?= some x∧(x.token≠ -1)∧∃ν1,ν'=(wb,qC (dR s pv cv hv lv mv bl bc yc yq) 359)::ν1∧bM 298 3 bl (s.book.lines.set a.toNat {x with token:= -1}).length ((s.book.lines.set a.toNat {x with token:= -1}).flatMap cL) ν1) (fun v=>((s.book.lines.length:Int)≤a∧v=fW 7)∨(∃x,s.book.lines[a.toNat]?= some x∧x.token= -1∧v=fW 6)):=by
 obtain⟨bt,ot,ct,rfl⟩:=dF hn Yf;have hbt:=eS hn;refine eK 36 func277 rfl rfl rfl rfl fun h0 hwl hwn=>Za2<|aV [] 7 11 1016<|Za rfl<|Wbh ?_;refine Zl [(_,_)] ν [] rfl (Or.inr Yi) (fun D5 U=>lP a (s.book.lines.length:Int) _) (fun v5 D6 U hp5=>cX (P:=prog) (fn:=f277) rfl (bMF ⟨hp5.1,hp5.2⟩)) fun v5 D6 ν5 U hp5=>?_;obtain⟨hH,rfl⟩:=hp5;refine bW ?_;obtain⟨bx,cap,junk,rfl,hcap,rfl,hl1,Y⟩:=ha.some Yd;obtain⟨x,hx⟩:=cR s.book.lines (a.toNat);refine aV [] 6 11 448<|Za rfl<|Zal rfl<|Zj rfl aZ rfl<|Zj rfl fS rfl<|Zj rfl dN rfl<|Zo rfl hG rfl Mm0 rfl<|Za rfl<|aS rfl hn<|eP rfl U80 cS rfl rfl Yd Yd rfl bRD<|Zf rfl<|aJ ?_;refine Za rfl<|Zal rfl<|Zj rfl nR rfl<|bD (v:=qI x.token) rfl aH rfl Mm1 Xdb n4 rfl bRD<|Zap rfl<|Zt rfl U397 mI pO rfl (.cons rfl rfl .nil) (fun hE D901 Z O=>Zl [(_,_),(_,_)] [] [] rfl (bLY Yi) (fun D7 R=>gG 6 [decide (x.token= -1)] _ _ ((iI (l:=[decide (x.token= -1)]) (fun _ _ _ h=>h) O Yf).up RB.up (R _ Yf))) (fun v7 D8 R I=>cX (P:=prog) (fn:=f277) rfl (bLY ⟨x,hx,by simpa using I.1,I.2⟩)) fun v7 D8 ν7 R I=>?_);obtain⟨V,rfl⟩:=I;have hB:x.token≠ -1:=by simpa using V
 refine aF<|aP<|Za rfl<|Zal rfl<|Zj rfl nR rfl<|Wce ?_;exact eG rfl fun D' hD=>⟨x,hx,hB,_,rfl,sI bEK bPR hcap hl1 Y⟩
theorem aTY(wb:Nat)(s:aO)(pv cv hv lv mv bl bc yc yq nv:Γ)(a b c:Int)(ν:aD)(D:aC)(hn:Sl D RI 1 nv [a,b,c])(ha:bM 314 4 yc s.yard.chairs.length (s.yard.chairs.flatMap cH) ν)(hsm:s.yard.chairs.length≤100)(hF:0≤a)(hH:0≤b):kF prog 280 [qP wb,nv] D ((wb,qC (dR s pv cv hv lv mv bl bc yc yq) 359)::ν) (fun _ _ ν'=>∃x,s.yard.chairs[a.toNat]?= some x∧(b<3∧c≤2)∧∃ν1,ν'=(wb,qC (dR s pv cv hv lv mv bl bc yc yq) 359)::ν1∧bM 314 4 yc (s.yard.chairs.set a.toNat {x with parts:=EL x.parts b.toNat c}).length ((s.yard.chairs.set a.toNat {x with parts:=EL x.parts b.toNat c}).flatMap cH) ν1) (fun v=>((s.yard.chairs.length:Int)≤a∧v=fW 7)∨(a<(s.yard.chairs.length:Int)∧3≤b∧v=fW 7)∨(a<(s.yard.chairs.length:Int)∧b<3∧2<c∧v=fW 2)):=by
 obtain⟨bt,ot,ct,rfl⟩:=dF hn Yf;have hbt:=eS hn;refine eK 41 func280 rfl rfl rfl rfl fun h0 hwl hwn=>Za2<|aV [] 7 11 1016<|Za rfl<|aS rfl hn<|Za rfl<|Zal rfl<|Zj rfl aZ rfl<|Zj rfl eU rfl<|Zj rfl iH rfl<|Zo rfl pE rfl Mm0 rfl<|cG rfl U84 rfl ha rfl rfl bRD ?_;refine Zl [(_,_)] ν [] rfl (Or.inr Yi) (fun D5 R=>lP a (s.yard.chairs.length:Int) _) (fun v5 D6 R hp5=>cX (P:=prog) (fn:=f280) rfl (bMF ⟨hp5.1,hp5.2⟩)) fun v5 D6 ν5 R hp5=>?_;obtain⟨U,rfl⟩:=hp5;refine aJ<|Za rfl<|aS rfl hn<|Zl [(_,_)] ν [] rfl (Or.inr Yi) (fun D7 V=>lP b 3 _) (fun v7 D8 V I=>cX (P:=prog) (fn:=f280) rfl (bLY (bMF ⟨U,I.1,I.2⟩))) fun v7 D8 ν7 V I=>?_;obtain⟨Y,rfl⟩:=I;refine aJ<|Za rfl<|aS rfl hn<|Zl [(_,_)] ν [] rfl (Or.inr Yi) (fun D9 Z=>wK c 2 _) (fun v9 D10 Z O=>cX (P:=prog) (fn:=f280) rfl (bLY (bLY ⟨U,Y,O.1,O.2⟩))) fun v9 D10 ν9 Z O=>?_;obtain⟨hB,rfl⟩:=O;refine aF ?_;obtain⟨bx,cap,junk,rfl,hcap,rfl,hl1,hE⟩:=ha.some Yd;obtain⟨x,hx⟩:=cR s.yard.chairs (a.toNat);refine aV [] 5 19 131008<|Za rfl<|Zal rfl<|Zj rfl aZ rfl<|Zj rfl eU rfl<|Zj rfl iH rfl<|Zo rfl pE rfl Mm0 rfl<|Za rfl<|aS rfl hn<|Za rfl<|aS rfl hn<|Za rfl ?_;refine aS rfl hn<|eP rfl U84 mC rfl rfl Yd Yd rfl bRD<|Zj rfl Q8 rfl<|eX rfl U312 aI rfl rfl Yd Yd rfl bRD<|PP bJC (x2:={x with parts:=EL x.parts b.toNat c}) (k:=(1+b.toNat)) rfl rfl rfl rfl aI (.tail .head) hx Yd (aNL Yd) Yd bRD<|Zan ?_;exact eG rfl fun D' hD=>⟨x,hx,⟨Y,hB⟩,_,rfl,sI bJC bPR hcap hl1 hE⟩
end L12
end Go.Fs
