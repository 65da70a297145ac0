/- Of BookReports. -/
import Derived.Test.YtmmdpkkcedmgoaaGreatDoorZBookReportsAC
import Derived.ProofKit
import Derived.OpenShut
import Derived.WideKeyArgs
import Derived.JoinedCond
namespace Go.Fs
open Go.Proofs Tryz
namespace L7
open C7
structure aSX(y:aS):Prop where
 len:y.chairs.length≤7
 cls:y.claims.length≤5
 fit:0≤y.fit∧y.fit≤9
 size:∀c∈y.chairs,0≤c.size∧c.size≤9
 part:∀c∈y.chairs,∀n∈c.parts.l,0≤n∧n≤2
 claim:∀r∈y.claims,0≤r.1∧r.1≤r.2∧r.2≤7
 unk:cZ y.chairs≤8
theorem VZ{y:aS}(h:aW y=0):aSX y:=by
 unfold aW at h;split at h
 ·omega
 ·rename_i h1;split at h
  ·omega
  ·rename_i h2;split at h
   ·omega
   ·rename_i h3;have h4:K8 y=true:=rt
    simp only[K8,zl,yu,bH]at h4;obtain⟨⟨h5,I⟩,O⟩:=h4;refine⟨Yd,Yd,h5,λc hc=>?_,λc hc n hn=>?_,λr hr=>?_,Yd⟩
    ·have:=I c hc;simp only[lD,zl,bH]at this;exact this.1
    ·have:=I c hc;simp only[lD,zl,VW,yu]at this
     exact bH.1 (this.2 n hn)
    ·have:=O r hr;simp only[nN,zl,LE]at this;exact⟨this.1.1,this.1.2,this.2⟩
theorem H3{y:aS}{t:List Pt}(h:eM y t=true):t.length=y.chairs.length∧∀p∈t,xP p:=by
 unfold eM at h;simp only[zl,LE,yu]at h;refine⟨h.1,λp hp=>?_⟩;obtain⟨i,hi⟩:=qo.1 hp;obtain⟨hlt,_⟩:=yx.1 hi;have hc:y.chairs[i]?= some (y.chairs[i]'Yd):=yz _;have:=h.2 (y.chairs[i]'Yd,p) (GE (i:=i) (by rw[jp];exact⟨hc,hi⟩))
 simp only[Z3,Pt.l,s3,List.zip_nil_left,uh,List.all_nil,Bool.and_true,zl,zJ,bH]at this;exact⟨this.1.1,this.2.1.1,this.2.2.1⟩
def rW(cl:List (Int×Int))(out:List Int)(n:Int)(i:Nat):Bool:=(out.any λx=>decide ((i:Int)=x))||(match cl[i]? with|some r=>gF n r.1 r.2|none=>true)
def jJ(cl:List (Int×Int))(out:List Int)(n:Int):Bool:=(List.range cl.length).all (rW cl out n)
theorem Ka{cl:List (Int×Int)}{out:List Int}{n:Int}{i:Nat}{r:Int×Int}(hr:cl[i]?= some r)(h:((!out.any λx=>decide ((i:Int)=x))&& !gF n r.1 r.2)=false):rW cl out n i=true:=by
 unfold rW;rw[hr];revert h
 cases out.any λx=>decide ((i:Int)=x)<;>simp
theorem JG{cl:List (Int×Int)}{out:List Int}{n:Int}{i:Nat}{r:Int×Int}(hi:i<cl.length)(hr:cl[i]?= some r)(h:((!out.any λx=>decide ((i:Int)=x))&& !gF n r.1 r.2)=true):jJ cl out n=false:=by
 unfold jJ;rw[ql];refine⟨i,yj.2 hi,?_⟩;unfold rW;rw[hr];revert h
 cases out.any λx=>decide ((i:Int)=x)<;>simp
theorem DQ{cl:List (Int×Int)}{out:List Int}{n:Int}(h:∀j,j<cl.length→rW cl out n j=true):jJ cl out n=true:=by
 unfold jJ;rw[yu];exact λj hj=>h j (yj.1 hj)
def B6(y:aS)(t:List Pt):Nat:=wM y.chairs.length (dQ y t)
theorem FN(yv:Γ)(y:aS)(cv qv:Γ)(D:aC)(hy:yv=.agg #[cv,qI y.fit,qv]):NC prog 109 #[yv] D (λ_ v ν=>∃wb mb,v=qP wb∧ν=[(wb,qC [cv,qI y.fit,qv,.map (some mb)] 319),(mb,.map #[] 0)]):=by
 subst hy;refine sE 7 func109 C C C C λh0=>aA<|Zac C λR E1 O I=>Zf C<|aJ<|Zv C nY C I mD<|A2 C C zy λqm=>Zw [cv,qI y.fit,qv,.map (some qm)] C aFC Ya3 C<|JK C (e:=319) C C C zy λU=>Wd ?_
 exact aD C λD hD=>⟨_,_,C,C⟩
theorem aHC(sv:Γ)(xs:List Int)(n:Int)(D:aC)(hS:Sl D RI 1 sv xs):Fn prog 242 #[sv,qI n] D (λ_ v=>v=qI (idxOf (λx=>decide (n=x)) xs)):=by
 have hl:=hS.len;refine Zx 19 func242 C λh0=>aA<|Zf C<|bD<|Za C<|eQ C U35 C Yn C C zy<|Za C<|aE<|Za4<|cW (γ:=Nat) (λk=>xs.length-k) (λk=>k≤xs.length∧(xs.take k).any (λx=>decide (n=x))=false) (λk=>[(8,qI k)]) [(7,_),(4,_),(0,_),(1,_)] (λk=>[D]) 0 Yf ⟨Ya,zy⟩ cE (aN) ?_;rintro k ⟨h1,h2⟩;refine aA<|Zal C<|bX<|Zae C (λhc1=>?_) λhc1=>?_
 ·have hk:k<xs.length:=Yd
  obtain⟨x,hx⟩:=cF xs k;refine aP<|Za6<|Za4<|aA<|Za C<|Zf C<|aJ<|Za C<|Za C<|Za C<|eF C U35 aI C Yn C Yd Yn C zy λV Y I O U R=>?_;obtain rfl:I=[qI _]:=O;refine Zh 0 C aH C R C<|Zas C<|aE<|Zae C (λhc2=>?_) λhc2=>?_
  ·refine uc ?_;exact aD C λD hD=>by show Value.int _ _=_;rw[lS hx h2 (by simp[hc2])]
  ·refine xi ?_;have h3:(xs.take (k+1)).any (λx=>decide (n=x))=false:=by rw[zg,hx,ui,h2];simp[hc2]
   exact aK 12 (k+1) ⟨Yd,h3⟩ Yd ⟨Ya,zy⟩ C C zp (aN)
 ·refine Wk ?_;exact aD C λD hD=>q_
theorem P0(sv:Γ)(xs:List Int)(n:Int)(D:aC)(hS:Sl D RI 1 sv xs):Fn prog 175 #[sv,qI n] D (λ_ v=>v=.bool (xs.any λx=>decide (n=x))):=by
 refine Zx 9 func175 C λh0=>aA<|Zf C<|aJ<|Za C<|Za C<|Zd C (λO I=>aHC _ xs n _ (Sl.at RI.up I Yn Yf))<|Ww ?_;exact aD C λD hD=>q9
theorem IN(yv:Γ)(y:aS)(n:Int)(ov:Γ)(out:List Int)(D:aC)(hy:gZ D yv y)(ho:Sl D RI 1 ov out):Fn prog 186 #[yv,qI n,ov] D (λ_ v=>v=.bool (jJ y.claims out n)):=by
 obtain⟨cv,qv,rfl,hc,hq⟩:=hy;have hl:=hq.len;refine Zx 28 func186 C λh0=>aA<|Zac C λq1 E1 hE O=>Zf C<|bD<|Zj C nV C<|Zh 2 C P3 C O C<|Zaj C U85 C hq C<|Za C<|aE<|Za4<|cW (γ:=Nat) (λi=>y.claims.length-i) (λi=>i≤y.claims.length∧∀j,j<i→rW y.claims out n j=true) (λi=>[(12,qI (i:Int))]) [(11,_),(10,_),(6,_),(1,_),(2,_)] (λi=>[E1,D]) 0 Yf ⟨Ya,zy⟩ cE (aN) ?_;rintro i ⟨h1,h2⟩;refine aA<|Zal C<|bX<|Zae C (λhc1=>?_) λhc1=>?_
 ·have hi:i<y.claims.length:=Yd
  obtain⟨r,I⟩:=cF y.claims i;refine aP<|Za6<|Za4<|aA<|Za C<|Zy C U85 cU C hq C I λb1 o1 R U hB V=>?_;obtain rfl:R=[qI _,qI _]:=U;refine Zv C oZ C V cU<|Zag C kT C λq2=>Zf C<|Zaa C cU ζ<|aJ<|Za C<|Za C<|Zd C (λD1 Y=>P0 _ out (i:Int) _ (Sl.at RI.up Y Yn Yf))<|si ?_;refine' bU 5 (s:=21) (p:=26) C (λZ=>?_) (λZ=>?_) ?_;rotate_left
  ·refine bN C oZ C zu cU n4 C ⟨_,C,C⟩<|Zb C<|Ze C (λD2 hF=>KI r n _)<|qf ?_;exact aQ 4
  ·refine vw ?_;exact aQ 4
  refine aE<|Zai C (λhc2=>?_) λhc2=>?_
  ·refine aA<|Wg ?_;exact aD C λD hD=>by show Value.bool _=_;rw[JG hi I hc2]
  ·refine xi ?_;exact aK 15 (i+1) ⟨Yd,λj hj=>by rcases Nat.lt_succ_iff_lt_or_eq.1 hj with h|rfl;exact h2 j h;exact Ka I hc2⟩ Yd ⟨Ya,zy⟩ C C (List.Sublist.cons _ zp) (aN)
 ·obtain rfl:i=y.claims.length:=Yd
  refine Wk ?_;exact aD C λD hD=>by show Value.bool _=_;rw[DQ h2]
end L7
namespace L2
open L1
open C2
open C1 (gF bH qH kU)
theorem QV{c:List Int}{a b:Int}(I:c.length=10)(h0:0≤a)(h1:a≤b)(O:b≤9):∃x xs,(c.drop a.toNat).take ((b+1).toNat-a.toNat)=x::xs∧xs.foldl max x=cO c a b:=by
 have hlen:((c.drop a.toNat).take ((b+1).toNat-a.toNat)).length=(b+1).toNat-a.toNat:=by simp;omega
 cases h:(c.drop a.toNat).take ((b+1).toNat-a.toNat)with
 |nil=>rw[h]at hlen;simp at hlen;omega
 |cons x xs=>
  refine⟨x,xs,C,?_⟩;unfold cO;rw[show(b+1-a).toNat=(b+1).toNat-a.toNat by omega,h];rfl
def KL(s:List Int)(m:Mk):Bool:=gF (cO s m.frm m.to) m.lo m.hi
theorem M_{last:Int}{m:Mk}(h:xQ last m=true):0≤m.frm∧m.frm≤m.to∧m.to≤last∧0≤m.lo∧m.lo≤m.hi∧m.hi≤99:=by
 unfold xQ sK IE jN gD at h;simp only[zl,LE,bH]at h;omega
theorem Mo{t:bA}{c:List Int}{k:Nat}{m:Mk}(hx:t.marks[k]?= some m)(h2:(t.marks.take k).all (KL c)=true)(h:((!([]:List Int).any λx=>decide ((k:Int)=x))&& !gF (cO c m.frm m.to) (m.lo,m.hi).1 (m.lo,m.hi).2)=false):(t.marks.take (k+1)).all (KL c)=true:=by
 rw[zg,hx,List.all_append,h2];simpa [KL]using h
theorem JG{t:bA}{c:List Int}{k:Nat}{m:Mk}(hx:t.marks[k]?= some m)(h:((!([]:List Int).any λx=>decide ((k:Int)=x))&& !gF (cO c m.frm m.to) (m.lo,m.hi).1 (m.lo,m.hi).2)=true):iI t c=false:=by
 unfold iI;rw[ql];exact⟨m,GE hx,xd⟩
theorem DQ{t:bA}{c:List Int}{k:Nat}(h2:(t.marks.take k).all (KL c)=true)(hk:t.marks.length≤k):iI t c=true:=by
 rw[ww hk]at h2;exact h2
theorem Jc(l:List (Int×Int))(r:Int×Int):sO (l++[r])=min (sO l*fZ r) 2001:=by
 unfold sO;rw[xk];rfl
theorem PT{t:bA}{k:Nat}{r:Int×Int}(hx:t.heights[k]?= some r):sO (t.heights.take (k+1))=min (sO (t.heights.take k)*fZ r) 2001:=by
 rw[zg,hx];exact Jc _ _
theorem Lo{t:bA}(h:MU t)(k:Nat):0≤sO (t.heights.take k)∧sO (t.heights.take k)≤2001:=by
 induction k with
 |zero=>simp[sO]
 |succ k ih=>
  cases hx:t.heights[k]? with
  |none=>rw[zg,hx,Option.toList_none,yr];exact ih
  |some r=>
   rw[PT hx];have h1:=vL (h.hts r (GE hx));have h2:0≤fZ r:=by unfold fZ;omega
   have h3:=om ih.1 h2;omega
theorem Dh{t:bA}(h:MU t)(k:Nat){r:Int×Int}(hr:jN r=true):0≤sO (t.heights.take k)*fZ r∧sO (t.heights.take k)*fZ r≤200100:=by
 have h0:=Lo h k;have h1:=vL hr;have h2:0≤fZ r∧fZ r≤100:=by unfold fZ;omega
 have h3:=om h0.1 h2.1;have h4:=Int.mul_le_mul h0.2 h2.2 h2.1 Yd;omega
theorem CG{t:bA}{b:Bool}(h:((decide ((9:Int)<t.last)||decide ((6:Int)<(t.levels.length:Int)))||decide ((5:Int)<(t.marks.length:Int)))=b):aOT t=b:=h
theorem Dl{t:bA}(h:((decide ((9:Int)<t.last)||decide ((6:Int)<(t.levels.length:Int)))||decide ((5:Int)<(t.marks.length:Int)))=false):t.last≤9:=by
 simp only[xn,yt]at h;omega
theorem WZ{t:bA}{b:Bool}(h:(((((decide (t.last<0)||decide ((t.heights.length:Int)≠t.last+1))|| !t.heights.all jN)|| !gD t.step)|| !t.levels.all gD)|| !t.marks.all (xQ t.last))=b):bMM t= !b:=by
 subst h;unfold bMM;have I:decide (t.last<0)= !decide (0≤t.last):=by by_cases h:t.last<0<;>simp[h]<;>omega
 have O:decide ((t.heights.length:Int)≠t.last+1)= !decide ((t.heights.length:Int)=t.last+1):=Yf
 rw[I,O];cases decide (0≤t.last)<;>cases decide ((t.heights.length:Int)=t.last+1)<;>cases t.heights.all jN<;>cases gD t.step<;>cases t.levels.all gD<;>cases t.marks.all (xQ t.last)<;>rfl
section
variable{t:bA}(h1:((decide ((9:Int)<t.last)||decide ((6:Int)<(t.levels.length:Int)))||decide ((5:Int)<(t.marks.length:Int)))=false)
theorem Gz(h1:((decide ((9:Int)<t.last)||decide ((6:Int)<(t.levels.length:Int)))||decide ((5:Int)<(t.marks.length:Int)))=true):aW t=3:=by unfold aW;rw[zo (CG h1)]
include h1
theorem Wam(h2:(((((decide (t.last<0)||decide ((t.heights.length:Int)≠t.last+1))|| !t.heights.all jN)|| !gD t.step)|| !t.levels.all gD)|| !t.marks.all (xQ t.last))=false):MU t:=tOk (CG h1) (WZ h2)
theorem DK(h2:(((((decide (t.last<0)||decide ((t.heights.length:Int)≠t.last+1))|| !t.heights.all jN)|| !gD t.step)|| !t.levels.all gD)|| !t.marks.all (xQ t.last))=true):aW t=1:=by
 unfold aW;rw[zv (by simp[CG h1]),zo (show bMM t=false from WZ h2)]
variable(h2:(((((decide (t.last<0)||decide ((t.heights.length:Int)≠t.last+1))|| !t.heights.all jN)|| !gD t.step)|| !t.levels.all gD)|| !t.marks.all (xQ t.last))=false)
include h2
theorem Lu(h4:2000<sO t.heights):aW t=3:=by
 unfold aW;rw[zv (by simp[CG h1]),zv (by simp[WZ h2]),zo h4]
theorem Mf(h4:¬2000<sO t.heights)(hn:fM t=[]):aW t=9:=by
 unfold aW;rw[zv (by simp[CG h1]),zv (by simp[WZ h2]),zv h4,zo hn]
theorem zW(h4:¬2000<sO t.heights)(hn:fM t≠[]):aW t=0:=by
 unfold aW;rw[zv (by simp[CG h1]),zv (by simp[WZ h2]),zv h4,zv hn]
end
theorem KK(c:List Int)(a b:Int)(D:aC)(I:c.length=10)(h0:0≤a)(h1:a≤b)(U:b≤9):Fn prog 168 #[.agg (ints c).toArray,qI a,qI b] D (λ_ v=>v=qI (cO c a b)):=by
 obtain⟨x,xs,hx,hv⟩:=QV I h0 h1 U;refine Zx 12 func168 C λh0=>aA<|Zac C λY E1 V O=>Zf C<|aJ<|Za C<|Za C<|Zaf C<|Jy (l:=a.toNat) (h:=(b+1).toNat) C U289 aI C C C Yd Yd Yd Yd Yd C zy<|Zd C (λZ R=>aVZ _ x xs _ (hx▸(Vm (l:=a.toNat) (h:=(b+1).toNat) O I Yd Yd Yd).up RI.up (R _ Yf)))<|Wd ?_;exact aD C λD hD=>by show Value.int _ _=_;rw[hv]
theorem IN(tv:Γ)(t:bA)(c:List Int)(D:aC)(ht:hZ D tv t)(hto:MU t)(I:c.length=10):Fn prog 163 #[tv,.agg (ints c).toArray,qN] D (λ_ v=>v=.bool (iI t c)):=by
 obtain⟨hv,lv,mv,rfl,hh,hl,hm⟩:=ht;have hll:=hm.len;have hlast:=hto.last;refine Zx 34 func163 C λh0=>aA<|Zac C λq1 E1 hE O=>Zac C λq2 E2 hF R=>Zf C<|bD<|Zj C nZ C<|Zh 4 C P8 C O C<|Zaj C U77 C hm C<|Za C<|aE<|Za4 ?_;refine cW (γ:=Nat) (λk=>t.marks.length-k) (λk=>k≤t.marks.length∧(t.marks.take k).all (KL c)=true) (λk=>[(12,qI (k:Int))]) [(11,_),(10,_),(6,_),(4,_),(2,_)] (λk=>[E2,E1,D]) 0 Yf ⟨Ya,zy⟩ cE (aN) ?_;rintro k ⟨h1,h2⟩;refine aA<|Zal C<|bX<|Zae C (λhc1=>?_) λhc1=>?_
 ·have hk:k<t.marks.length:=Yd
  obtain⟨m,hx⟩:=cF t.marks k;have hmb:=M_ (hto.mark m (GE hx));refine aP<|Za6<|Za4<|aA<|Za C<|Zy C U77 mO C hm C hx λb1 o1 U V hB Y=>?_;obtain rfl:U=[qI _,qI _,qI _,qI _]:=V;refine Zv C SU C Y mO<|Zag C K7 C λq3=>Zf C<|Zaa C mO ζ<|bX<|bK [] 5 16 8066<|Za C<|Za C<|Zd C (λD1 hH=>L7.P0 _ [] (k:Int) _ Sl.nil)<|si ?_;refine' bU 11 (s:=21) (p:=32) C (λZ=>?_) (λZ=>?_) ?_;rotate_left
  ·refine Zk C QF C<|eW C lH cR C zu C C n4 C ⟨_,C,C⟩<|cQ C qD C R Yc pu n4 C ⟨_,C,C⟩<|Zk C NZ C<|Zr C aH C zu C<|Zk C NI C<|Zr C aH C zu C<|Ze C (λD2 hI=>KK c m.frm m.to _ I hmb.1 hmb.2.1 Yd)<|Ze C (λD3 hJ=>KI (m.lo,m.hi) _ _)<|qf ?_;exact aQ 10
  ·refine ji ?_;exact aQ 10
  refine aE<|Zai C (λhc2=>?_) λhc2=>?_
  ·refine aA<|Wg ?_;exact aD C λD hD=>by show Value.bool _=_;rw[JG hx hc2]
  ·refine xi ?_;exact aK 15 (k+1) ⟨Yd,Mo hx h2 hc2⟩ Yd ⟨Ya,zy⟩ C C (List.Sublist.cons _ zp) (aN)
 ·refine Wk ?_;exact aD C λD hD=>by show Value.bool _=_;rw[DQ h2 Yd]
theorem Z5(tv:Γ)(t:bA)(D:aC)(ht:hZ D tv t):Fn prog 161 #[tv] D (λ_ v=>v=qI (aW t)):=by
 have ht0:=ht;obtain⟨hv,lv,mv,rfl,hh,hl,hm⟩:=ht;have hll:=hh.len;have hl2:=hl.len;have hl3:=hm.len;refine QU 82 func161 C C C C λh0=>aA<|Zac C λq1 E1 hE1 I=>Zag C SX C λq2=>aJ<|Zv C lR C I kF<|Za1 C<|Zf C<|bX<|Za4<|aA<|Zj C nT C ?_;refine Zh 0 C aH C I C<|uv ?_
 refine' dU 5 (s:=13) (p:=18) C (λhB=>?_) (λhB=>?_) ?_;rotate_left
 ·refine Zk C mX C<|Zi 3 C bW C I C<|eQ C U35 C hl C C ⟨_,C,C⟩<|Wy ?_;exact aQ 4
 ·refine Wf ?_;exact aQ 4
 refine Za C ?_;refine' dU 5 (s:=19) (p:=24) C (λhE=>?_) (λhE=>?_) ?_;rotate_left
 ·refine Zk C nZ C<|Zi 4 C P8 C I C<|eQ C U77 C hm C C ⟨_,C,C⟩<|Wy ?_;exact aQ 4
 ·refine Wf ?_;exact aQ 4
 refine Zf C<|aE<|Zai C (λhc1=>?_) λhc1=>?_
 ·refine aA<|Zs C uJ ζ C<|aG<|Za8<|Za3 ?_;exact yI (vs:=[_]) C C C ⟨⟨_,_,_,C,rb _,zq ⟨uN,C⟩⟩,zy⟩ λD hD=>by show Value.int _ _=_;rw[Gz hc1]
 ·refine aA<|Zj C nT C<|Zh 0 C aH C I C<|sh ?_;refine' dU 8 (s:=29) (p:=37) C (λY=>?_) (λY=>?_) ?_;rotate_left
  ·have hl0:0≤t.last:=by have:=Y;simp only[yt]at this;omega
   have hl9:t.last≤9:=Dl hc1;refine Zk C mQ C<|Zi 1 C yT C I C<|eQ C U76 C hh C C ⟨_,C,C⟩<|Zk C nT C<|Zi 0 C aH C I C<|xN C C C Ye C ⟨_,C,C⟩<|KD C C C C ⟨_,C,C⟩<|Zan C ?_;exact aQ 7
  ·refine Zg C<|Zg C<|Zg C<|Wf ?_;exact aQ 7
  refine Za C ?_;refine' dU 5 (s:=38) (p:=43) C (λhF=>?_) (λhF=>?_) ?_;rotate_left
  ·refine Zk C mQ C<|Zi 1 C yT C I C<|Ze C (λD1 hH=>RA _ _ _ jN _ (Sl.at EQ.up hH Yn Yf) (.of λx V=>JH x V) C)<|vp ?_;exact aQ 4
  ·refine Wf ?_;exact aQ 4
  refine Za C ?_;refine' dU 5 (s:=44) (p:=49) C (λhI=>?_) (λhI=>?_) ?_;rotate_left
  ·refine Zk C O6 C<|Zi 2 C aH C I C<|Ze C (λV hD2=>W4 _ _)<|vp ?_;exact aQ 4
  ·refine Wf ?_;exact aQ 4
  refine Za C ?_;refine' dU 5 (s:=50) (p:=55) C (λhJ=>?_) (λhJ=>?_) ?_;rotate_left
  ·refine Zk C mX C<|Zi 3 C bW C I C<|Ze C (λD3 hK=>x5 _ _ _ gD _ (Sl.at RI.up hK Yn Yf) (.of λx V=>W4 x V) C)<|vp ?_;exact aQ 4
  ·refine Wf ?_;exact aQ 4
  refine Za C ?_;refine' dU 6 (s:=56) (p:=62) C (λhN=>?_) (λhN=>?_) ?_;rotate_left
  ·refine Zk C nZ C<|Zi 4 C P8 C I C<|Zb C<|Ze C (λD4 Z=>Xdc _ _ _ (xQ t.last) _ (Sl.at YV.up Z Yn Yf) ⟨_,[_],[],C,λm V hl=>aFD _ t m V (ht0.up ((Z _ Yf).trans hl))⟩ C)<|vp ?_;exact aQ 5
  ·refine Zg C<|Wf ?_;exact aQ 5
  refine Zf C<|aE<|Zai C (λhc2=>?_) λhc2=>?_
  ·refine aA<|Zs C uJ ζ C<|aG<|Za8<|Za3 ?_;exact yI (vs:=[_]) C C C ⟨⟨_,_,_,C,rb _,zq ⟨uN,C⟩⟩,zy⟩ λD hD=>by show Value.int _ _=_;rw[DK hc1 hc2]
  ·have hto:MU t:=Wam hc1 hc2;refine bE<|Za7<|Za2<|aA<|Zf C<|bD<|Zj C mQ C<|Zh 1 C yT C I C<|Zaj C U76 C hh C<|Za C<|aE<|Za4 ?_;refine Zo Nat (λk=>t.heights.length-k) (λk=>k≤t.heights.length) (λk=>[(66,qI (k:Int)),(4,qI (sO (t.heights.take k)))]) [(65,_),(64,_),(2,_),(1,_)] (λk=>[E1,D]) 0 ⟨Ya,Ya,zy⟩ ?_;rintro k h1;refine aA<|Zal C<|bX<|Zae C (λhc3=>?_) (λhc3=>?_)
   ·have hk:k<t.heights.length:=Yd
    obtain⟨r,hx⟩:=cF t.heights k;have hrb:=hto.hts r (GE hx);have hmul:=Dh hto k hrb;refine aP<|Za6<|Za4<|aA<|Zy C U76 cR C hh C hx λb1 o1 hO hP rA hR=>?_;obtain rfl:hO=[qI _,qI _]:=hP;refine Zv C lH C hR cR<|Zag C iO C λq3=>Zaa C cR ζ<|aE<|aM<|Za C<|Zah C lH C zu cR<|Zd C (λD5 hD5=>Tp r hrb _)<|EM C C C Ye C zy<|Zu C U35 aI cN C (.cons C C (.cons C C .nil)) λrB D901 hS O=>?_;have R:=Sl.ofInts (l:=[_,_]) (n:=2) (cap:=2) O C Yd Yd;refine Zd C (λD6 hX=>oC _ (sO (t.heights.take k)*fZ r) [2001] _ (R.up RI.up (hX _ Yf)))<|uz ?_;exact aK 15 (k+1) Yd Yd ⟨Ya,(by rw[PT hx];rfl),zy⟩ C C (List.Sublist.cons _ zp) λD h=>⟨D,zb _ (h),Le.refl D⟩
   ·obtain rfl:k=t.heights.length:=Yd
    rw[ym];refine Za9<|Za5<|Za5<|Zba<|Za2<|bL<|Za C<|Zat C<|aE<|Zae C (λhc4=>?_) λhc4=>?_
    ·refine aA<|Zs C uJ ζ C<|aG<|Za3 ?_;exact yI (vs:=[_]) C C C ⟨⟨_,_,_,C,rb _,zq ⟨uN,C⟩⟩,zy⟩ λD hD=>by show Value.int _ _=_;rw[Lu hc1 hc2 hc4]
    ·refine aP<|bL<|Zv C lR C I kF<|Zz C (λD7 U=>ZG _ t _ (ht0.up (U _ Yf)) hto) λv7 D7 U hY=>aE<|Za4 ?_;obtain⟨br,rfl,hit⟩:=hY;refine yO (γ:=Unit) (xs:=(fM t).map dT) (enc:=SP) (Dr:=D7) (λpre _=>pre=[]) (λ_ c _=>c=.ret∧fM t≠[]) (λ_=>[(q2,qC [qI 0] 27)]) () C C C C hit Yf (λ_=>C) C C C ?_ ?_ ?_
     ·rintro pre x _ ⟨us,hx⟩ hΦ l bd rec hh D7 U hst hpend;refine bE ?_;refine λa w hhh=>X6 (A:=[(_,_)]) (B:=[(bd,.deferred (some []))]) (r:=rec) (l:=l) xa hst ?_ a w hhh
      refine Za4<|aA<|Zs C uJ ζ C<|aG<|Za8 ?_;exact aIC (A:=[(_,_)]) (B:=[(bd,.deferred (some []))]) .ret () ⟨C,λe=>by rw[e]at hx;simp at hx⟩ C C
     ·rintro _ bd hΦ;have hn:fM t=[]:=by simpa using hΦ
      refine Za7<|Za2<|aA<|Zs C uJ ζ C<|aG ?_;exact I8 (vs:=[_]) (A:=[(_,_)]) C C C ⟨⟨_,_,_,C,rb _,zq ⟨uN,C⟩⟩,zy⟩ λD hD=>by show Value.int _ _=_;rw[Mf hc1 hc2 hc4 hn]
     ·rintro _ _ _ bd ⟨rfl,hne⟩;refine PL<|Za8<|Za3 ?_;exact I8 (vs:=[_]) (A:=[(_,_)]) C C C ⟨⟨_,_,_,C,rb _,zq ⟨uN,C⟩⟩,zy⟩ λD hD=>by show Value.int _ _=_;rw[zW hc1 hc2 hc4 hne]
def i7(t:bA)(pre:List (List Int))(g:Γ×aF×Array MapEntry×Nat×List (Int×Int)):Prop:=
 bM 289 10 g.1 (mB t pre.length).length (m2 (mB t pre.length)) g.2.1∧zU g.2.2.1 g.2.2.2.1 g.2.2.2.2∧c8 (mB t pre.length) t.last g.2.2.2.2
def Wba(t:bA)(D:aC)(wv:Γ)(ν:aF):Prop:=∃wb mb hv lv mv tsv es cl S,wv=qP wb∧ν=[(wb,qC [qI t.last,hv,qI t.step,lv,mv,tsv,.map (some mb)] 285),(mb,.map es cl)]∧
 hZ D (.agg #[qI t.last,hv,qI t.step,lv,mv]) t∧Sl D MT 10 tsv (bI t)∧zU es cl S∧c8 (bI t) t.last S
def p9(acc:List (List Int)):List Int:=match acc.getLast? with
 |some s=>dT s
 |none=>[]
theorem OL{acc:List (List Int)}(h:∀s∈acc,s.length≤10)(hne:acc≠[]):(p9 acc).length=10:=by
 unfold p9;rw[ph hne];exact hU (h _ (List.getLast_mem hne))
theorem aGX{acc:List (List Int)}(h:∀s∈acc,s.length≤10)(hne:acc≠[])(junk:List Γ):((m2 acc++junk).drop (0+(((acc.length:Int)-1).toNat)*10)).take 10=ints (p9 acc):=by
 have hpos:=sn.2 hne;unfold p9;rw[ph hne,wo];refine WO h ?_ junk;rw[show((acc.length:Int)-1).toNat=acc.length-1 by omega,←List.getLast?_eq_getElem?,ph hne]
theorem aFH{s u:List Int}(h:s.length=u.length):dT s=dT u ↔ s=u:=by
 constructor
 ·intro e;have:=zn (List.take s.length) e;unfold dT at this
  rwa [qi,h,qi]at this
 ·rintro rfl;rfl
def Z2(S:List (Int×Int))(s:List Int)(k:Nat):List (Int×Int):=(List.range k).foldl (λS (j:Nat)=>XQ S ((j:Int),s.getD j 0)) S
theorem PJ{S:List (Int×Int)}{s:List Int}{k:Nat}:Z2 S s (k+1)=XQ (Z2 S s k) ((k:Int),s.getD k 0):=by
 unfold Z2;rw[yb,xk];rfl
theorem B_{S:List (Int×Int)}{s:List Int}{k:Nat}{p:Int×Int}:p∈Z2 S s k ↔ p∈S∨∃j:Nat,j<k∧p=((j:Int),s.getD j 0):=by
 induction k with
 |zero=>simp[Z2]
 |succ k ih=>
  rw[PJ,aGM,ih];constructor
  ·rintro((h|⟨j,hj,rfl⟩)|rfl)
   ·exact zq h
   ·exact zt ⟨j,Yd,C⟩
   ·exact zt ⟨k,Yd,C⟩
  ·rintro(h|⟨j,hj,rfl⟩)
   ·exact zq (zq h)
   ·by_cases e:j=k
    ·subst e;exact zt C
    ·exact zq (zt ⟨j,Yd,C⟩)
theorem Tc{s:List Int}{k:Nat}(h:k<s.length):(dT s)[(k:Int).toNat]?= some (s.getD k 0):=by
 unfold dT;rw[xr,uo h,wi,yz h];rfl
section
variable{t:bA}{pre:List (List Int)}{s:List Int}(hrp:iI t (dT s)=iI t s)(htake:(fM t).take (pre.length+1)=(fM t).take pre.length++[s])
include hrp htake
theorem Xl{b:Bool}(hc:(!iI t (dT s)||(decide (0<((mB t pre.length).length:Int))&&(p9 (mB t pre.length)==dT s)))=b):yR t (mB t pre.length) s=if b=true then mB t pre.length else mB t pre.length++[s]:=by
 have hsm:s∈fM t:=pd (i:=pre.length+1) (by rw[htake];simp);rw[hrp]at hc;subst hc;unfold yR;cases hr:iI t s with
 |false=>simp
 |true=>
  simp only[Bool.not_true,Bool.false_or,Bool.true_eq_false,false_or];by_cases hne:mB t pre.length=[]
  ·rw[hne];simp
  ·have hpos:=sn.2 hne;have h1:decide (0<((mB t pre.length).length:Int))=true:=by simpa using hpos
   rw[h1,v_];unfold p9;rw[ph hne];have h2:=sS (AT (List.getLast_mem hne));have h3:=sS hsm;have h4:=aFH (h2.trans h3.symm);by_cases e:(mB t pre.length).getLast hne=s
   ·rw[zo (by rw[e]),zo (by rw[e];simp)]
   ·rw[zv (by simpa using e),zv (by simpa using λh=>e (h4.1 h))]
theorem Ck{v:Γ}{ν:aF}{es:Array MapEntry}{cl:Nat}{S:List (Int×Int)}(hc:(!iI t (dT s)||(decide (0<((mB t pre.length).length:Int))&&(p9 (mB t pre.length)==dT s)))=true)(ha:bM 289 10 v (mB t pre.length).length (m2 (mB t pre.length)) ν)(hS:zU es cl S)(hsp:c8 (mB t pre.length) t.last S):i7 t (pre++[dT s]) (v,ν,es,cl,S):=by
 have h1:=Xl hrp htake hc;simp only[yo]at h1;have h2:=NH htake;rw[h1]at h2;unfold i7;rw[zf,ve,h2];exact⟨ha,hS,hsp⟩
theorem aBM(hc:(!iI t (dT s)||(decide (0<((mB t pre.length).length:Int))&&(p9 (mB t pre.length)==dT s)))=false):mB t (pre.length+1)=mB t pre.length++[s]:=by
 have h1:=Xl hrp htake hc;simp only[wt,xx]at h1;rw[NH htake,h1]
end
theorem Xat{t:bA}{pre:List (List Int)}{s:List Int}{v:Γ}{ν:aF}{es:Array MapEntry}{cl k:Nat}{S:List (Int×Int)}(h:mB t (pre.length+1)=mB t pre.length++[s])(hk:s.length≤k)(I:(k:Int)=t.last+1)(ha:bM 289 10 v ((mB t pre.length).length+1) (m2 (mB t pre.length++[s])) ν)(hS:zU es cl (Z2 S s k))(hsp:c8 (mB t pre.length) t.last S):i7 t (pre++[dT s]) (v,ν,es,cl,Z2 S s k):=by
 unfold i7;rw[zf,ve,h,zf,ve];refine⟨ha,hS,λp=>?_⟩;rw[B_,hsp p];constructor
 ·rintro(⟨u,hu,j,hj,rfl⟩|⟨j,hj,rfl⟩)
  ·exact⟨u,yw _ hu,j,hj,C⟩
  ·exact⟨s,Yf,j,Yd,C⟩
 ·rintro⟨u,hu,j,hj,rfl⟩;rcases zd.1 hu with hu|hu
  ·exact zq ⟨u,hu,j,hj,C⟩
  ·simp only[yf]at hu;subst hu
   exact zt ⟨j,Yd,C⟩
theorem Xcn:K2 prog 292:=⟨Yg,Yg,Yg⟩
theorem B4(tv:Γ)(t:bA)(fine:Bool)(D:aC)(ht:hZ D tv t):NC prog 96 #[tv,.bool fine] D (λD' v ν=>∃wv,v=.tuple #[wv,qI (nG t fine)]∧(nG t fine=0→MU t∧bI t≠[]∧Wba t D' wv ν)):=by
 have ht0:=ht;obtain⟨hv,lv,mv,rfl,hh,hl,hm⟩:=ht;refine aEW 85 func96 C C C C λh0=>aA<|Zac C λq1 E1 hE1 O=>Zf C<|Zf C<|bD<|Zv C lR C O kF<|Zd C (λD1 hI=>Z5 _ t _ (ht0.up (hI _ Yf)))<|mu ?_;refine aE<|Zae C (λhc1=>?_) λhc1=>?_
 ·refine qg ?_;exact yI (vs:=[_,_]) C C C cE λD hD=>⟨_,by rw[nG,zo hc1];rfl,λh=>by rw[nG,zo hc1]at h;exact absurd h hc1⟩
 ·have U:aW t=0:=Yd
  have hto:MU t:=NN U;refine aP<|bL<|Za C<|Zav C<|aE<|Zai C (λhc2=>?_) λhc2=>?_
  ·refine aA<|Zf C<|Wi ?_;exact yI (vs:=[_,_]) C C C cE λD hD=>⟨_,by rw[nG,zv hc1,zo wm];rfl,λh=>by rw[nG,zv hc1,zo wm]at h;omega⟩
  ·refine aP<|aA<|Zv C lR C O kF<|A2 C C zy λqm=>lJ (cs:=[qI t.last,hv,qI t.step,lv,mv,qN,.map (some qm)]) C aCQ aCC C Yg C zy<|JK C (e:=285) C C C zy λq2=>Zag C aAE C λq3=>Zs C Ybh ζ C<|bD<|Zv C lR C O kF<|Zz C (λD2 hB=>ZG _ t _ (ht0.up (hB _ Yf)) hto) λv2 D2 hB hJ=>aE ?_;refine Za4 ?_;obtain⟨br,rfl,hit⟩:=hJ;refine yO (γ:=Γ×aF×Array MapEntry×Nat×List (Int×Int)) (xs:=(fM t).map dT) (enc:=SP) (Dr:=D2) (i7 t) (λ_ _ _=>False) (λg=>[(q3,qC [qP q2] 198),(q2,qC [qI t.last,hv,qI t.step,lv,mv,g.1,.map (some qm)] 285),(qm,.map g.2.2.1 g.2.2.2.1)]++g.2.1) (qN,[],#[],0,[]) C C C C hit Yf (λ_=>C) C ⟨by simpa [mB,m2]using bM.nil,zU.nil,c8.nil⟩ C ?_ ?_ (λ_ _ _ _ h=>h.elim)
   ·rintro pre x ⟨v,ν,es,cl,S⟩ ⟨us,hx⟩ ⟨ha,hS,hsp⟩ l bd rec hh7 D7 hD7 hst hpend;simp only at ha hS hsp;obtain⟨s,hk,rfl,hsm,htake⟩:=Lb hx;have hsl:=sS hsm;have hlast:=hto.last;have hlen:=hto.len;have hs10:s.length≤10:=Yd
    have I:=hU hs10;have hall:∀u∈mB t pre.length,u.length≤10:=λu hu=>by have:=sS (AT hu);omega
    have hcap:=ED U;have hacl:=ZO t pre.length;have hrp:=Jk hto (s:=s) Yd;refine aM<|Zag C BE C λq4=>Zaa C kC ζ<|Zap ?_;refine λa w hhh=>X6 (A:=[(_,_),(_,_),(_,_),(_,_)]++ν) (B:=[(bd,.deferred (some []))]) (r:=rec) (l:=l) xa hst ?_ a w hhh
    refine rM λhnd=>?_;simp only[yl,ze,xg,za,we,ya,zm,zd,wn]at hnd;have hq4:=hnd.1.2.2.2.1;have hq3:=hnd.2.1.2.2.1;have hq2:=hnd.2.2.1.2.1;refine Za4<|Za6<|Za6<|vR [] 10 28 20905986 (λ_ _ _ h=>h)<|Zv C lR C O kF<|bN C qD C zu pu n4 C zy<|Zd C (λD3 hK=>IN _ t (dT s) _ (ht0.up (hK _ Yf)) hto I)<|si ?_;refine' dU 23 (s:=28) (p:=51) C (λhN=>?_) (λhN=>?_) ?_;rotate_left
    ·refine Zr C xT C zi C<|wK C C C ⟨_,C,C⟩<|Zk C mZ C<|Zr C uZ C xq C<|cG C U283 C ha C C ⟨_,C,C⟩<|Zau C<|Zb C ?_;refine' bU 15 (s:=35) (p:=50) C (λV=>?_) (λV=>?_) ?_;rotate_left
     ·have hne:mB t pre.length≠[]:=λe=>by rw[e]at V;simp at V
      have hpos:=sn.2 hne;obtain⟨b5,cap5,R,rfl,hcp5,rfl,hl51,hl52⟩:=ha.some hpos;refine Zr C xT C zi C<|wK C C C ⟨_,C,C⟩<|Zk C mZ C<|Zr C uZ C xq C<|Zr C xT C zi C<|wK C C C ⟨_,C,C⟩<|Zk C mZ C<|Zr C uZ C xq C<|nB C U283 C C C ⟨_,C,C⟩<|xO C C C Ye C ⟨_,C,C⟩<|eV C U283 kC C C Yd Yd C ⟨_,C,C⟩<|eW (vs:=m2 (mB t pre.length)++R) (us:=ints (p9 (mB t pre.length))) C qD kC C (zb _ ue) (aGX hall hne R) (by simpa using OL hall hne) n4 C ⟨_,C,C⟩ ?_;refine bN C qD C zu pu n4 C ⟨_,C,C⟩<|dn C Yg U289 U3 Yg (OL hall hne) I C C C ⟨_,C,C⟩<|oR C C C C ⟨_,C,C⟩ ?_;exact aQ 14
     ·refine ol ?_;refine jn ?_;exact aQ 14
     refine Zan C ?_;exact aQ 8
    ·refine ol ?_;refine Zg C<|Zg C<|oh ?_;exact aQ 22
    refine aE<|Zai C (λhc3=>?_) λhc3=>?_
    ·have hO:i7 t (pre++[dT s]) (v,ν,es,cl,S):=Ck hrp htake hc3 ha hS hsp;refine Za9<|Za5<|Zba ?_;exact λa w hh=>jT (A:=[(_,_),(_,_),(_,_)]++ν) (B:=[(bd,.deferred (some []))]) (v,ν,es,cl,S) hO C C a w (hh.dropBoxes 1)
    ·have hadd:=aBM hrp htake hc3;refine aP<|Za6<|vR (ν.map (·.1)) 2 11 254 (λ_ _ _ h=>h)<|bG C xT C zi C Yo C zy<|bG C xT C zi C Yo C zy<|Zao C<|Zj C mZ C<|bG C uZ C xq C Yo C zy<|bN C qD C zu pu Yo C zy<|Zu C U283 kC BE C (.cons C (by simpa using I) .nil) (λb901 D901 hP Y=>aT (A:=[(_,_),(_,_),(_,_),(_,_)]) (B:=[(l,_),(bd,_)]) C U283 C C kC BE C aEM C C C ha (kX.lit Y) Yf (by simp[I]) (ZD hall) ku Yd (zt λp hp=>n5.2 ⟨p,hp,C⟩) C zy λv1 ν1 ha1=>?_);have hR:bM 289 10 v1 ((mB t pre.length).length+1) (m2 (mB t pre.length++[s])) ν1:=by unfold m2;rw[xl,um];simpa [m2]using ha1
     simp only[we,ya];refine Zao C<|Zj C mZ C<|dD C C C ha1.cells1 Vq (.tail (.tail ζ)) Yf C ha1.cell1 zy<|aJ<|Zj C nT C<|Zh 0 C aH C O C<|Zaf C<|Za C<|aE<|Za4<|Zc (Nat×Array MapEntry×Nat) (λg=>s.length-g.1) (λg=>g.1≤s.length∧zU g.2.1 g.2.2 (Z2 S s g.1)) (λg=>[(65,qI (g.1:Int))]) [(64,_),(8,_),(7,_),(5,_),(4,_)] (λg=>[(q4,qC (ints (dT s)) 289)]++[(q3,qC [qP q2] 198),(q2,qC [qI t.last,hv,qI t.step,lv,mv,v1,.map (some qm)] 285),(qm,.map g.2.1 g.2.2)]++(ν1++[(l,.loop {rec with state:=.busy}),(bd,.deferred (some []))])) (λg=>[D901,D7,D2,E1,D]) (0,es,cl) ⟨Yf,hS⟩ ⟨Ya,zy⟩ zp ?_;rintro⟨k,hE,hF⟩ ⟨h1,Z⟩;simp only at h1 Z;refine aA<|Zal C<|bX<|Zae C (λhc4=>?_) λhc4=>?_
     ·have hks:k<s.length:=Yd
      have hxk:(dT s)[(k:Int).toNat]?= some (s.getD k 0):=Tc hks;refine aP<|Za6<|Za4<|aA<|Za C<|Zf C<|aE<|vR [] 3 10 496 (λ_ _ _ h=>h)<|Zq C xT C zi C<|Zao C<|Zj C QI C<|Zq C Sg C xq C ?_;refine Za C<|Za C<|cD C U289 aI C C Yd Yd C zy<|bG C aH C zu (dA hxk) n4 C zy<|Zw [qI (k:Int),qI (s.getD k 0)] C Ybd Ux C<|Xbo (A:=[(_,_),(_,_),(_,_)]) (B:=ν1++[(l,_),(bd,_)]) (a:=((k:Int),s.getD k 0)) C U282 Xcn C C C Z zy λhX hY rA=>Zap<|Za7<|Za2<|aM<|Zaf C<|Za C ?_;refine Zap ?_;exact aK 15 (k+1,hX,hY) ⟨Yl,by rw[PJ];exact rA⟩ Yl ⟨Ya,zy⟩ C C zp (aN)
     ·have rB:i7 t (pre++[dT s]) (v1,ν1,hE,hF,Z2 S s k):=Xat hadd Yd Yd hR Z hsp;refine Za9<|Za5<|Za5<|Zba<|Za7 ?_;exact λa w hh=>jT (A:=[(_,_),(_,_),(_,_)]++ν1) (B:=[(bd,.deferred (some []))]) (v1,ν1,hE,hF,Z2 S s k) rB C C a w (hh.dropBoxes 1)
   ·rintro⟨v,ν,es,cl,S⟩ bd ⟨ha,hS,hsp⟩;simp only[yh]at ha hS hsp;rw[m6 t (zk _)]at ha hsp;have hall:∀u∈bI t,u.length≤10:=λu hu=>by rw[←m6 t (zk _)]at hu;have:=sS (AT hu);have:=hto.len10;omega
    have hll:(bI t).length≤2000:=by rw[←m6 t (zk _)];have:=ZO t (fM t).length;have:=ED U;omega
    refine Za7<|Za2<|bL<|Zq C xT C zu C<|Zao C<|Zj C mZ C<|Zq C uZ C zi C<|cG C U283 C ha C C zy<|Zas C<|aE<|Zae C (λhH=>?_) λhH=>?_
    ·have htn:bI t=[]:=ri.1 Yd;have hask:nG t fine=11:=by rw[nG,zv hc1,zv wm,zo htn]
     refine aA<|Zf C<|Wi ?_;exact Xa (vs:=[_,_]) (A:=[(_,_),(_,_),(_,_)]) (ν':=[]) (B:=ν) C C C cE λD hD=>⟨_,by rw[hask];rfl,λh=>by rw[hask]at h;omega⟩
    ·have htn:bI t≠[]:=λe=>hH qy
     have hask:nG t fine=0:=by rw[nG,zv hc1,zv wm,zv htn]
     refine aP<|aA<|Zq C xT C zu C<|Zf C<|Zf C<|aG<|dE (A:=[(_,_),(_,_),(_,_)]) (B:=[(bd,.deferred (some []))]) ha C λD8 hD8 hF8=>?_;exact Xa (vs:=[_,_]) (A:=[(_,_)]) (ν':=[(_,_),(_,_)]) (B:=[]) C C C cE λD hD=>⟨_,by rw[hask];rfl,λ_=>⟨hto,htn,q2,qm,hv,lv,mv,v,es,cl,S,C,C,⟨hv,lv,mv,C,hh.up EQ.up (hD _ Yf),hl.up RI.up (hD _ Yf),hm.up YV.up (hD _ Yf)⟩,(hF8.seas C Yd hall).up MT.up (hD _ Yf),hS,hsp⟩⟩
theorem tG{t:bA}(_ht:MU t){s:List Int}(h:s∈bI t):s.length=t.heights.length:=by
 rw[←m6 t (zk _)]at h;exact sS (AT h)
structure t_(es:Array MapEntry)(S:List (Int×Int))(h:Nat)(x0:Int)(seen:Array Nat)(lo hi:Int):Prop where
 mid:lo≤x0∧x0≤hi
 all:∀e∈es.toList,seen.contains e.born=true→∀y,e.key=nA ((h:Int),y)→lo≤y∧y≤hi
 los:((h:Int),lo)∈S
 his:((h:Int),hi)∈S
theorem t_.start{t:bA}{es:Array MapEntry}{S:List (Int×Int)}{h:Nat}{I:List Int}(hsp:c8 (bI t) t.last S)(hs:I∈bI t)(hh:(h:Int)≤t.last):t_ es S h (I.getD h 0) #[] (I.getD h 0) (I.getD h 0):=
 ⟨Yd,λe _ hc=>by simp at hc,(hsp _).2 ⟨I,hs,h,hh,C⟩,(hsp _).2 ⟨I,hs,h,hh,C⟩⟩
theorem Vt{a b:Int×Int}(h:nA a=nA b):a=b:=by
 obtain⟨I,a2⟩:=a;obtain⟨O,b2⟩:=b
 simp only[nA,Value.agg.injEq]at h;simpa using h
section
variable{t:bA}{es:Array MapEntry}{cl:Nat}{S:List (Int×Int)}{h:Nat}{x0:Int}{seen:Array Nat}{lo hi:Int}
theorem QA(hS:zU es cl S){e e':MapEntry}(h1:e∈es.toList)(h2:e'∈es.toList)(h:e'.born=e.born):e'=e:=by
 have f1:=find_born e es.toList hS.nd h1;have f2:=find_born e' es.toList hS.nd h2;rw[h]at f2;rw[f1]at f2;exact(yi f2).symm
theorem t_.yes(hI:t_ es S h x0 seen lo hi)(hS:zU es cl S){e:MapEntry}(he:e∈(leftOf es seen).toList){ah ay:Int}(hek:e.key=nA (ah,ay))(haS:(ah,ay)∈S)(hc:ah=(h:Int)):t_ es S h x0 (seen.push e.born) (min lo ay) (max hi ay):=by
 subst hc;have hm:=hI.mid;refine⟨Yd,λe' he' hc y hy=>?_,?_,?_⟩
 ·rw[contains_push,yg]at hc;rcases hc with hc|hc
  ·have:=hI.all e' he' hc y hy;omega
  ·have:=QA hS (mem_left he).1 he' (th.1 hc);subst this;rw[hek]at hy;have:=Vt hy;simp only[ux,true_and]at this;omega
 ·rcases qh lo ay with h|h
  ·rw[Int.min_eq_left h];exact hI.los
  ·rw[ow h];exact haS
 ·rcases qh hi ay with h|h
  ·rw[Int.max_eq_right h];exact haS
  ·rw[Int.max_eq_left h];exact hI.his
theorem t_.no(hI:t_ es S h x0 seen lo hi)(hS:zU es cl S){e:MapEntry}(he:e∈(leftOf es seen).toList){ah ay:Int}(hek:e.key=nA (ah,ay))(_:(ah,ay)∈S)(hc:¬ah=(h:Int)):t_ es S h x0 (seen.push e.born) lo hi:=by
 refine⟨hI.mid,λe' he' hc' y hy=>?_,hI.los,hI.his⟩;rw[contains_push,yg]at hc';rcases hc' with hc'|hc'
 ·exact hI.all e' he' hc' y hy
 ·have:=QA hS (mem_left he).1 he' (th.1 hc');subst this;rw[hek]at hy;have:=Vt hy;simp only[ux]at this;exact absurd this.1 hc
theorem Ek{l:List Int}{m:Int}(hm:m∈l)(h:∀x∈l,m≤x):qH l=m:=by
 cases l with
 |nil=>cases hm
 |cons a l=>
  have key:∀(l:List Int) (a:Int),(∀x∈l,l.foldl min a≤x)∧l.foldl min a≤a∧(l.foldl min a=a∨l.foldl min a∈l):=by
   intro l;induction l with
   |nil=>intro a;simp
   |cons b l ih=>
    intro a;obtain⟨h1,h2,h3⟩:=ih (min a b);rw[yp];refine⟨λx hx=>?_,Yd,?_⟩
    ·rcases zm.1 hx with rfl|hx
     ·omega
     ·exact h1 x hx
    ·rcases h3 with h3|h3
     ·rw[h3];rcases qh a b with h|h
      ·exact zq (Int.min_eq_left h)
      ·exact zt (by rw[ow h];exact zj)
     ·exact zt (GT _ h3)
  obtain⟨h1,h2,h3⟩:=key l a;show l.foldl min a=m;have h4:l.foldl min a≤m:=by
   rcases zm.1 hm with rfl|hm
   ·exact h2
   ·exact h1 m hm
  have h5:m≤l.foldl min a:=by
   rcases h3 with h3|h3
   ·rw[h3];exact h a zj
   ·exact h _ (GT _ h3)
  omega
theorem Fo{l:List Int}{m:Int}(hm:m∈l)(h:∀x∈l,x≤m):kU l=m:=by
 cases l with
 |nil=>cases hm
 |cons a l=>
  have key:∀(l:List Int) (a:Int),(∀x∈l,x≤l.foldl max a)∧a≤l.foldl max a∧(l.foldl max a=a∨l.foldl max a∈l):=by
   intro l;induction l with
   |nil=>intro a;simp
   |cons b l ih=>
    intro a;obtain⟨h1,h2,h3⟩:=ih (max a b);rw[yp];refine⟨λx hx=>?_,Yd,?_⟩
    ·rcases zm.1 hx with rfl|hx
     ·omega
     ·exact h1 x hx
    ·rcases h3 with h3|h3
     ·rw[h3];rcases qh a b with h|h
      ·exact zt (by rw[Int.max_eq_right h];exact zj)
      ·exact zq (Int.max_eq_left h)
     ·exact zt (GT _ h3)
  obtain⟨h1,h2,h3⟩:=key l a;show l.foldl max a=m;have h4:m≤l.foldl max a:=by
   rcases zm.1 hm with rfl|hm
   ·exact h2
   ·exact h1 m hm
  have h5:l.foldl max a≤m:=by
   rcases h3 with h3|h3
   ·rw[h3];exact h a zj
   ·exact h _ (GT _ h3)
  omega
theorem t_.fin(hI:t_ es S h x0 seen lo hi)(hS:zU es cl S)(hsp:c8 (bI t) t.last S)(_:bI t≠[])(hh:(h:Int)≤t.last)(hz:(leftOf es seen).size=0):nA (lo,hi)=nA (H4 t h):=by
 have hall:∀y,((h:Int),y)∈S→lo≤y∧y≤hi:=λy hy=>by
  obtain⟨e,he,hk⟩:=hS.ent hy;refine hI.all e he ?_ y hk;cases hc:seen.contains e.born with
  |true=>rfl
  |false=>
   have hm:e∈leftOf es seen:=by
    unfold leftOf;rw[Array.mem_filter];exact⟨Array.mem_toList_iff.1 he,by rw[hc];rfl⟩
   have:=Array.size_pos_of_mem hm;omega
 have hmem:∀y,y∈(bI t).map (ge · h)→((h:Int),y)∈S:=λy hy=>by
  obtain⟨s,hs,rfl⟩:=n5.1 hy;exact(hsp _).2 ⟨s,hs,h,hh,C⟩
 have I:∀y,((h:Int),y)∈S→y∈(bI t).map (ge · h):=λy hy=>by
  obtain⟨s,hs,j,hj,he⟩:=(hsp _).1 hy;simp only[ux]at he;have:j=h:=Yd
  subst this;exact n5.2 ⟨s,hs,he.2.symm⟩
 unfold H4;rw[Ek (I _ hI.los) λx hx=>(hall x (hmem x hx)).1,Fo (I _ hI.his) λx hx=>(hall x (hmem x hx)).2]
end
theorem Oi(t:bA)(wb mb:Nat)(hv lv mv tsv:Γ)(es:Array MapEntry)(cl:Nat)(S:List (Int×Int))(h:Nat)(D:aC)(hts:Sl D MT 10 tsv (bI t))(htn:bI t≠[])(hto:MU t)(hS:zU es cl S)(hsp:c8 (bI t) t.last S)(hh:(h:Int)≤t.last):
  LX prog 334 [qP wb,qI (h:Int)] D [(wb,qC [qI t.last,hv,qI t.step,lv,mv,tsv,.map (some mb)] 285),(mb,.map es cl)] (λ_ v ν'=>v=nA (H4 t h)∧ν'=[(wb,qC [qI t.last,hv,qI t.step,lv,mv,tsv,.map (some mb)] 285),(mb,.map es cl)]):=by
 have hll:=hts.len;have hlast:=hto.last;obtain⟨O,I⟩:∃s,(bI t)[0]?= some s:=⟨(bI t)[0]'(sn.2 htn),yz _⟩
 have hE:=tG hto (GE I);have hF:=hto.len;have hg0:(dT O)[(h:Int).toNat]?= some (O.getD h 0):=Tc Yd;have hH:=hU (l:=O) Yd;refine jR 42 func334 C C C C λh0 hwl hwn=>aA<|Zag C iO C λq1=>bX<|bK [] 7 19 196400<|Za C<|Zao C<|Zj C mZ C<|Zq C uZ C zi C<|Za C<|Zy C U283 kC C hts C I λb1 o1 R U hJ V=>?_;obtain rfl:R=ints (dT _):=U;refine fH C U289 aI C C Yd Yd C zy<|eE (o:=o1) (k:=(h:Int).toNat*1) C aH C V Yo (by rw[xp];exact dA hg0) n4 C zy<|Za C<|Zao C<|Zj C mZ C<|Zq C uZ C zi C<|Za C<|Zy C U283 kC C hts C I λb2 o2 Y Z hK hB=>?_
 obtain rfl:Y=ints (dT _):=Z;refine fH C U289 aI C C Yd Yd C zy<|eE (o:=o2) (k:=(h:Int).toNat*1) C aH C hB Yo (by rw[xp];exact dA hg0) n4 C zy<|Zw [qI (O.getD h 0),qI (O.getD h 0)] C G9 iO C<|Zag C iO C λq2=>Zaa C cR ζ<|bD<|Za C<|Zao C<|Zj C QI C<|Zq C Sg C xq C<|Bp (b:=mb) (es:=es) (clock:=cl) C U282 C Yf C zy λqr=>aE ?_;refine Za4<|Zc (Array Nat×Int×Int) (λg=>(leftOf es g.1).size) (λg=>t_ es S h (O.getD h 0) g.1 g.2.1 g.2.2) (λg=>[(28,qP qr)]) [(5,_),(4,_),(1,_)] (λg=>[(qr,.mapIter (some mb) cl g.1 cl),(q2,qC [qI g.2.1,qI g.2.2] 122),(q1,qC [qI 0,qI 0] 122)]++[(wb,qC [qI t.last,hv,qI t.step,lv,mv,tsv,.map (some mb)] 285),(mb,.map es cl)]) (λg=>[D]) (#[],O.getD h 0,O.getD h 0) (t_.start hsp (GE I) hh) ⟨Ya,zy⟩ zp ?_;rintro⟨seen,lo,hi⟩ hI;simp only at hI;refine aA<|Ya9 (b:=mb) (r:=qr) (es:=es) (clock:=cl) (A:=[]) (B:=[(_,_),(_,_),(_,_),(_,_)]) C C Yf hS.lt (zk _) C zy λok vs o' hv0 hno hyes=>OE C C hv0 C zy<|bX<|Zai C (λhc1=>?_) λhc1=>?_
 ·obtain⟨e,he,rfl⟩:=hyes hc1;obtain⟨⟨ah,ay⟩,haS,hek,hev⟩:=hS.key (mem_left he).1;refine aP<|Za4<|aA<|aHN (b:=mb) (r:=qr) (es:=es) (clock:=cl) (e:=e) (since:=cl) (seen:=seen) C C Yf Yf (mem_left he).1 hS.nd C zy ?_;rw[hek];refine Zar C<|Zag C Ux C (λq3=>Zaa C Yac ζ<|aJ<|Zj C Ft C<|Zq C aH C zu C<|Za C<|Zas C<|aE<|Zae C (λhc2=>?_) λhc2=>?_)
  ·refine aM<|Zah C lH C xq cR<|Zj C Gg C<|Zq C aH C zu C<|Zd C (λD1 hN=>wO (lo,hi) ay _)<|Zaa C cR (.tail (.tail ζ))<|Zap<|Za7 ?_;exact aK 14 (seen.push e.born,min lo ay,max hi ay) (hI.yes hS he hek haS hc2) (left_shrinks _ _ _ he) ⟨C,zy⟩ C C (List.Sublist.cons _ zp) (aN)
  ·refine bE<|Za7 ?_;exact aK 10 (seen.push e.born,lo,hi) (hI.no hS he hek haS hc2) (left_shrinks _ _ _ he) ⟨C,zy⟩ C C (List.Sublist.cons _ zp) (aN)
 ·obtain⟨hz,rfl⟩:=hno hc1;have hfin:=hI.fin hS hsp htn hh hz;refine Za9<|Za5<|Za5<|Zba<|Za2<|aA<|Zah C lH C zi cR<|Zaa C cR (.tail (.tail ζ))<|aG ?_;exact Zak [(_,_),(_,_),(_,_)] [] [_,_] [_] C ⟨⟨_,_,_,C,List.Mem.tail _ zi,Or.inr ⟨lH,cR,C⟩⟩,zy⟩ C λD hD=>⟨hfin,C⟩
theorem WB{wb mb t cl:Nat}{cs:List Γ}{es:Array MapEntry}:∀p∈[(wb,Obj.cells cs.toArray t (0,0)),(mb,.map es cl)],dH p.2:=by
 intro p hp;simp only[zm,n4,yk]at hp;rcases hp with rfl|rfl
 ·rfl
 ·trivial
def aDA(l:List (Int×Int)):List Γ:=l.flatMap λp=>[qI p.1,qI p.2]
theorem JZ(l:List (Int×Int)):(aDA l).length=l.length*2:=by
 induction l with
 |nil=>rfl
 |cons p l ih=>unfold aDA at ih ⊢;rw[xy,zf,ih,zh];simp;omega
theorem IL(l m:List (Int×Int)):aDA (l++m)=aDA l++aDA m:=xl
theorem aFV{l:List (Int×Int)}{i:Nat}{p:Int×Int}(hi:l[i]?= some p):((aDA l).drop (i*2)).take 2=[qI p.1,qI p.2]:=by
  induction l generalizing i with
  |nil=>simp at hi
  |cons d l ih=>
    have hc:aDA (d::l)=[qI d.1,qI d.2]++aDA l:=rfl;rw[hc];cases i with
    | zero => obtain rfl : d = p := by simpa using hi
              rfl
    |succ i=>
      rw[show(i+1)*2=([qI d.1,qI d.2]:List Γ).length+i*2 by simp;omega,lh];exact ih wy
theorem _root_.Go.Fs.lB.rgs{D:aC}{v:Γ}{n:Nat}{l:List (Int×Int)}(hF:lB D v n (aDA l))(hn:l.length=n)(hb:n≤9223372036854775807):Sl D EQ 2 v l:=
 hF.sl hn hb λ_i _t hi=>⟨_,C,C,aFV hi⟩
def SM(t:bA):List (Int×Int):=(List.range (t.last+1).toNat).map (H4 t)
theorem Nn{t:bA}{k:Nat}(h:(k:Int)=t.last+1):(List.range k).map (H4 t)=SM t:=by unfold SM;rw[show(t.last+1).toNat=k by omega]
theorem aIF(s:List Int):(dT s).take s.length=s:=by unfold dT;rw[qi]
def A0(s:List Int)(level:Int)(k:Nat):List Int:=((List.range k).filter λj=>decide (level<s.getD j 0)).map λj:Nat=>(j:Int)
theorem So(s:List Int)(level:Int)(k:Nat):(A0 s level k).length≤k:=by
 unfold A0;rw[yh];have:=xm (λj=>decide (level<s.getD j 0)) (List.range k);rwa [vz]at this
theorem aDS{s:List Int}{level x:Int}{k:Nat}(hx:s[k]?= some x)(h:level<x):A0 s level (k+1)=A0 s level k++[(k:Int)]:=by
 unfold A0;rw[yb,xu,ze,wj,zo (by rw[wi,hx];simpa using h)];rfl
theorem Wca{s:List Int}{level x:Int}{k:Nat}(hx:s[k]?= some x)(h:¬level<x):A0 s level (k+1)=A0 s level k:=by
 unfold A0;rw[yb,xu,ze,wj,zv (by rw[wi,hx];simpa using h)];simp
theorem KE(s:List Int)(level:Int):∃m:Nat,cX s level=(m:Int)∧m≤s.length∧(∀j,j<m→s.getD j 0≤level)∧(m<s.length→level<s.getD m 0):=by
 refine⟨(s.takeWhile λn=>decide (n≤level)).length,C,?_⟩;induction s with
 |nil=>exact⟨Yf,λj h=>vu,λh=>vu⟩
 |cons a s ih=>
  obtain⟨h1,h2,h3⟩:=ih;by_cases h:a≤level
  ·rw[List.takeWhile_cons,zo xd,zh,zh];refine⟨Yd,λj hj=>?_,λhj=>?_⟩
   ·cases j with
    |zero=>simpa using h
    |succ j=>simpa using h2 j Yd
   ·simpa using h3 Yd
  ·rw[List.takeWhile_cons,zv xd];exact⟨Yf,λj hj=>by simp at hj,λ_=>xw⟩
theorem Xm{s:List Int}{level:Int}{m:Nat}(h1:m<s.length)(h2:∀j,j<m→s.getD j 0≤level)(h3:level<s.getD m 0):(A0 s level s.length)[0]?= some (m:Int):=by
 unfold A0;obtain⟨n,hn⟩:∃n,s.length=m+(n+1):=⟨s.length-m-1,Yd⟩
 rw[hn,List.range_add,xu,List.filter_eq_nil_iff.2 λj hj=>by have:=h2 j qd;simpa using this,ya,List.range_succ_eq_map,yl,wj,zo (by simpa using h3)];simp
theorem Bo{s:List Int}{level:Int}(h:0<(A0 s level s.length).length):(A0 s level s.length)[(0:Int).toNat]?= some (cX s level):=by
 obtain⟨m,hm,h1,h2,h3⟩:=KE s level;rw[hm];by_cases hlt:m<s.length
 ·exact Xm hlt h2 (h3 hlt)
 ·exfalso
  obtain rfl:m=s.length:=Yd
  unfold A0 at h;rw[List.filter_eq_nil_iff.2 (λj hj=>by have:=h2 j qd;simpa using this)]at h
  simp at h
theorem aFQ{s:List Int}{level:Int}(h:¬0<(A0 s level s.length).length):cX s level=(s.length:Int):=by
 obtain⟨m,hm,h1,h2,h3⟩:=KE s level;by_cases hlt:m<s.length
 ·exfalso
  have:=Xm hlt h2 (h3 hlt);have:=(yx.1 this).1;omega
 ·rw[hm,show m=s.length by omega]
theorem E0(tv:Γ)(t:bA)(D:aC)(ht:hZ D tv t):Fn prog 293 #[tv] D (λD' v=>∃lv,v=.tuple #[lv,qI (nG t true)]∧Sl D' EQ 2 lv (if nG t true=0 then SM t else [])):=by
 have ht0:=ht;obtain⟨hv,lv,mv,rfl,hh,hl,hm⟩:=ht;refine Zx 30 func293 C λh0=>aA<|Zac C λq1 E1 hJ O=>Zf C<|Zf C<|aJ<|Zv C lR C O kF<|gQ C C C (λD2 Y=>B4 _ t true _ (ht0.up (Y _ Yf))) C zy λv2 D3 ν2 hK Z=>?_;obtain⟨wv,rfl,hwk⟩:=Z;refine Za C<|Zar C<|Zar C<|Zf C<|Zf C<|bD<|Za C<|Za0 C<|aE<|Zae C (λhc1=>?_) λhc1=>?_
 ·refine qg ?_;exact Zp [_,_] C cE λD hD=>⟨_,C,by rw[zv hc1];exact Sl.nil⟩
 ·have he0:nG t true=0:=Yd
  obtain⟨hto,htn,wb,mb,R,U,V,tsv,es,cl,S,rfl,rfl,htw,hts,hS,hsp⟩:=hwk he0;have hlast:=hto.last;refine aP<|aA<|Zf C<|bD<|Zj C nT C<|Zh 0 C aH C O C<|Zaf C<|Za C<|aE<|Za4<|Zc (Nat×Γ×aF) (λg=>(t.last+1).toNat-g.1) (λg=>(g.1:Int)≤t.last+1∧bM 122 2 g.2.1 g.1 (aDA ((List.range g.1).map (H4 t))) g.2.2) (λg=>[(19,qI (g.1:Int)),(6,g.2.1)]) [(18,_),(4,_),(3,_),(2,_)] (λg=>g.2.2++[(wb,qC [qI t.last,R,qI t.step,U,V,tsv,.map (some mb)] 285),(mb,.map es cl)]) (λg=>[D3,E1,D]) (0,qN,[]) ⟨xw,by simpa [aDA]using bM.nil⟩ ⟨Ya,Ya,zy⟩ zp ?_
  rintro⟨k,v,ν⟩ ⟨h1,ha⟩;simp only at h1 ha;refine aA<|Zal C<|bX<|Zae C (λhc2=>?_) λhc2=>?_
  ·have hk:(k:Int)≤t.last:=by simp only at hc2;omega
   refine aP<|Za6<|Za4<|aA<|Za C<|Zf C<|aE<|aM<|Za C<|Za C<|Za C<|HC (A:=ν) (ν:=[(_,_),(_,_)]) C C C C (zq C) (WB (cs:=[_,_,_,_,_,_,_])) (λD5 hB=>Oi t wb mb R U V tsv es cl S k _ (hts.up MT.up (hB _ Yf)) htn hto hS hsp Yd) C zy λv5 D6 _ hN hp5=>?_;obtain⟨rfl,rfl⟩:=hp5;refine Zu C U76 cR iO C (.cons C C .nil) λhI D901 hE I=>aT (A:=[]) (B:=[(_,_),(_,_)]) C U76 C C cR iO C QZ C C C ha (kX.lit I) Yf C (by rw[JZ];simp) Ym Yd (zq C) C zy λv1 ν1 ha1=>?_
   have hF:bM 122 2 v1 (k+1) (aDA ((List.range (k+1)).map (H4 t))) ν1:=by rw[yb,ze,IL];exact ha1
   refine uz ?_;exact aK 14 (k+1,v1,ν1) ⟨Yl,hF⟩ Yl ⟨Ya,C,zy⟩ C C zp λD h=>⟨D,zb _ (zb _ (h)),Le.refl D⟩
  ·have hk:(k:Int)=t.last+1:=by simp only at hc2 h1;omega
   refine Za9<|Za5<|Za5<|Zba<|Za2<|aA<|Za C<|Zf C<|Zf C<|aG<|dE (A:=[]) (B:=[(_,_),(_,_)]) ha C λD8 hO hH=>?_;exact Zp [_,_] C cE λD hD=>⟨_,by rw[he0];rfl,by rw[zo he0];exact(Nn Yd▸hH.rgs Yf Yd).up EQ.up (hD _ Yf)⟩
theorem Wbz(last step:Int)(hv lv mv:Γ)(s:List Int)(level:Int)(D:aC)(hs:(s.length:Int)=last+1)(R:s.length≤10):
  Fn prog 165 #[.agg #[qI last,hv,qI step,lv,mv],.agg (ints (dT s)).toArray,qI level] D (λD' v=>Sl D' RI 1 v (A0 s level s.length)):=by
 have O:=hU R;refine Zx 28 func165 C λh0=>aA<|Zac C λq1 E1 hH U=>Zac C λq2 E2 hI V=>Zf C<|bX<|Za6 ?_;have hsl:Sl E2 RI 1 (qS q2 s.length 10) s:=by have h:=Vm (l:=0) (h:=s.length) V O Yd Yd Yd;rw[sk,uw,uw]at h;rw[aIF]at h;exact h
 refine aM<|Zj C nT C<|Zh 0 C aH C U C<|Zaf C<|Ax (h:=s.length) C U289 aI C C Yd Yd C zy<|nB C U35 C C C zy<|Za C<|aE<|Za4<|Zc (Nat×Γ×aF) (λg=>s.length-g.1) (λg=>g.1≤s.length∧bM 3 1 g.2.1 (A0 s level g.1).length (ints (A0 s level g.1)) g.2.2) (λg=>[(14,qI (g.1:Int)),(6,g.2.1)]) [(13,_),(12,_),(2,_)] (λg=>g.2.2++[]) (λg=>[E2,E1,D]) (0,qN,[]) ⟨Yf,by simpa [ints,A0]using bM.nil⟩ ⟨Ya,Ya,zy⟩ zp ?_;rintro⟨k,v,ν⟩ ⟨h1,ha⟩;simp only at h1 ha;refine aA<|Zal C<|bX<|Zae C (λhc1=>?_) λhc1=>?_
 ·have hk:k<s.length:=by simp only at hc1;omega
  obtain⟨x,hx⟩:=cF s k;have hwl:=So s level k;refine aP<|Za6<|Za4<|aA<|Za C<|gH C hsl C hx λb1 o1=>Zf C<|Zf C<|aJ<|Za C<|Za C<|Zat C ?_;refine aE<|Zae C (λhc2=>?_) λhc2=>?_
  ·refine aM<|Za C<|Za C<|Zu C U35 aI cN C (.cons C C .nil) λhE D901 Y I=>?_;have Z:=Sl.ofInts (l:=[_]) (n:=1) (cap:=1) I C Yd Yd;refine aT (A:=[]) (B:=_) C U35 C C aI cN C jV C C C ha (kX.lit I) Yf C (by simp[ints]) Ym Yd (zq C) C zy λv1 ν1 ha1=>?_;have hB:bM 3 1 v1 (A0 s level (k+1)).length (ints (A0 s level (k+1))) ν1:=by rw[aDS hx hc2,zf,←eL];exact ha1
   refine uz ?_;exact aK 18 (k+1,v1,ν1) ⟨Yl,hB⟩ Yl ⟨Ya,C,zy⟩ C C zp λD h=>⟨D,zb _ (h),Le.refl D⟩
  ·refine xi ?_;exact aK 13 (k+1,v,ν) ⟨Yl,by rw[Wca hx hc2];exact ha⟩ Yl ⟨Ya,C,zy⟩ C C zp (aN)
 ·obtain rfl:k=s.length:=by simp only at hc1;omega
  have hwl:=So s level s.length;refine Za9<|Za5<|Za5<|Zba<|Za2<|aA<|Za C<|Zf C<|aG<|dE (A:=[]) (B:=[]) ha C λD8 hJ hF=>?_;exact aD C λD hD=>(hF.ints Yf Yd).up RI.up (hD _ Yf)
theorem Nm(t:bA)(wb mb:Nat)(hv lv mv tsv:Γ)(es:Array MapEntry)(cl:Nat)(s:List Int)(level y:Int)(D:aC)(hs:(s.length:Int)=t.last+1)(I:s.length≤10):
  LX prog 98 [qP wb,.agg (ints (dT s)).toArray,qI level,qI y] D [(wb,qC [qI t.last,hv,qI t.step,lv,mv,tsv,.map (some mb)] 285),(mb,.map es cl)] (λ_ v ν'=>v=qI (cX s level)∧ν'=[(wb,qC [qI t.last,hv,qI t.step,lv,mv,tsv,.map (some mb)] 285),(mb,.map es cl)]):=by
 have Z:=hU I;refine jR 29 func98 C C C C λh0 hwl hwn=>aA<|Zac C λq1 E1 hB R=>Zf C<|bX<|Za6<|bK [] 4 8 48<|Za C<|Zao C<|Zj C OB C<|eW (us:=[qI t.last,hv,qI t.step,lv,mv]) C lR kF C zu xa C n4 C zy<|cQ C qD C R Yc pu n4 C zy ?_;refine Za C<|Zz C (λD1 U=>Wbz t.last t.step hv lv mv s level _ hs I) λv1 D1 U O=>Zf C<|aJ<|Za C<|Zaj C U35 C O C<|Zat C<|aE<|Zae C (λhc1=>?_) λhc1=>?_
 ·have V:=Bo (s:=s) (level:=level) Yd;refine aA<|Za C<|gH C O C V λb1 o1=>Wi ?_;exact Zak [] [] [_,_] [_] C ⟨C,zy⟩ C λD hD=>⟨C,C⟩
 ·have Y:=aFQ (s:=s) (level:=level) Yd;refine aP<|aA<|Za C<|Zao C<|Zj C OB C<|Zj C nT C<|Zq C aH C zu C<|Zaf C<|Wd ?_;exact Zak [] [] [_,_] [_] C ⟨C,zy⟩ C λD hD=>⟨by show Value.int _ _=_;rw[Y,hs],C⟩
theorem Wcc(t:bA)(wb mb:Nat)(hv lv mv tsv:Γ)(es:Array MapEntry)(cl:Nat)(s:List Int)(a b:Int)(D:aC)(hs:(s.length:Int)=t.last+1)(R:s.length≤10)(I:0≤a)(hab:a≤b)(hbl:b≤t.last):
  LX prog 101 [qP wb,.agg (ints (dT s)).toArray,qI a,qI b] D [(wb,qC [qI t.last,hv,qI t.step,lv,mv,tsv,.map (some mb)] 285),(mb,.map es cl)] (λ_ v ν'=>v=qI (cO s a b)∧ν'=[(wb,qC [qI t.last,hv,qI t.step,lv,mv,tsv,.map (some mb)] 285),(mb,.map es cl)]):=by
 have O:=hU R;refine jR 13 func101 C C C C λh0 hwl hwn=>aA<|Zac C λZ E1 V U=>Zf C<|aJ<|cQ C qD C U Yc pu n4 C zy<|Za C<|Za C<|Zd C (λD1 Y=>KK (dT s) a b _ O I hab Yd)<|Wd ?_;exact Zak [] [] [_,_] [_] C ⟨C,zy⟩ C λD hD=>⟨by show Value.int _ _=_;rw[R3 I hab Yd],C⟩
def nt(F:List Int→Int)(n:Int)(l:List (List Int)):Int×Int:=l.foldl (λp s=>(min p.1 (F s),max p.2 (F s))) (n,n)
theorem Dd{t:bA}{F:List Int→Int}{n:Int}{k:Nat}{u:List Int}(hx:(bI t)[k]?= some u):nt F n ((bI t).take (k+1))=(min (nt F n ((bI t).take k)).1 (F u),max (nt F n ((bI t).take k)).2 (F u)):=by
 unfold nt;rw[zg,hx,xk];rfl
theorem ZW(F:List Int→Int):∀(l:List (List Int)) (p:Int×Int),l.foldl (λp s=>(min p.1 (F s),max p.2 (F s))) p=((l.map F).foldl min p.1,(l.map F).foldl max p.2)
 | [],_=>rfl
 |s::l,p=>by rw[yp,ZW F l];rfl
theorem Yam{t:bA}{F:List Int→Int}{O:List Int}{lo hi:Int}(I:(bI t)[0]?= some O)(h:(lo,hi)=nt F (F O) (bI t)):nA (lo,hi)=nA (qH ((bI t).map F),kU ((bI t).map F)):=by
 rw[h];cases ht:bI t with
 |nil=>rw[ht]at I;simp at I
 |cons a l=>
  rw[ht]at I;obtain rfl:a=O:=by simpa using I
  unfold nt;rw[ZW,yl,yp,yp,Int.min_self,Int.max_self];rfl
theorem s6{t:bA}{fine:Bool}(h:nG t fine=0):fine=true:=by
 unfold nG at h;split at h
 ·rename_i hf;exact absurd h hf
 ·split at h
  ·omega
  ·rename_i hf;simpa using hf
theorem Nt{last a b:Int}(h:sK last a b=true):0≤a∧a≤b∧b≤last:=by
 unfold sK IE at h;simp only[zl,LE,bH]at h;omega
theorem IP(t:bA)(wb mb:Nat)(hv lv mv tsv:Γ)(es:Array MapEntry)(cl:Nat)(F:List Int→Int)(fid:Nat)(x y:Int)(D:aC)(hts:Sl D MT 10 tsv (bI t))(htn:bI t≠[])(hto:MU t)
  (hf:∀s∈bI t,∀D',Le D D'→LX prog fid [qP wb,.agg (ints (dT s)).toArray,qI x,qI y] D' [(wb,qC [qI t.last,hv,qI t.step,lv,mv,tsv,.map (some mb)] 285),(mb,.map es cl)] λ_ v ν'=>v=qI (F s)∧ν'=[(wb,qC [qI t.last,hv,qI t.step,lv,mv,tsv,.map (some mb)] 285),(mb,.map es cl)]):
  LX prog 99 [.agg #[.func (.func fid) #[] #[]],qP wb,qI x,qI y] D [(wb,qC [qI t.last,hv,qI t.step,lv,mv,tsv,.map (some mb)] 285),(mb,.map es cl)] (λ_ v ν'=>v=nA (qH ((bI t).map F),kU ((bI t).map F))∧ν'=[(wb,qC [qI t.last,hv,qI t.step,lv,mv,tsv,.map (some mb)] 285),(mb,.map es cl)]):=by
 have hll:=hts.len;have hlast:=hto.last;have hN:=hto.len;obtain⟨I,O⟩:∃s,(bI t)[0]?= some s:=⟨(bI t)[0]'(sn.2 htn),yz _⟩
 have hs0m:=GE O;have hO:=tG hto hs0m;have U:=hU (l:=I) Yd;refine jR 48 func99 C C C C λh0 hwl hwn=>aA<|Zac C λq1 E1 hX R=>Zag C iO C λq2=>bX<|bK [] 6 13 2044<|Zj C QE C<|Zh 0 C Ty C R C<|Za C<|Za C<|Zao C<|Zj C mZ C ?_;refine Zq C uZ C zi C<|Zy C U283 kC C hts C O λb1 o1 V Y hP Z=>?_;obtain rfl:V=ints (dT _):=Y;refine cQ C qD C Z Yc fi n4 C zy<|Za C<|Za C<|HC (A:=[(_,_)]) (ν:=[(_,_),(_,_)]) C C C C ia (WB (cs:=[_,_,_,_,_,_,_])) (λD5 hB=>hf I hs0m _ (hB _ Yf)) C zy λv5 D6 _ hY hp5=>?_
 obtain⟨rfl,rfl⟩:=hp5;refine Zf C<|aJ<|Za C<|Za C<|Zw [qI (F I),qI (F I)] C G9 iO C<|Zag C iO C λq3=>Zaa C cR ζ<|bD<|Za C<|Zao C<|Zj C mZ C<|Zq C uZ C xq C ?_;refine Zaj C U283 C hts C<|Za C<|aE<|Za4<|Zc (Nat×Int×Int) (λg=>(bI t).length-g.1) (λg=>g.1≤(bI t).length∧g.2=nt F (F I) ((bI t).take g.1)) (λg=>[(33,qI (g.1:Int))]) [(32,_),(31,_),(10,_),(8,_),(4,_),(1,_),(2,_),(3,_)] (λg=>[(q3,qC [qI g.2.1,qI g.2.2] 122),(q2,qC [qI 0,qI 0] 122)]++[(wb,qC [qI t.last,hv,qI t.step,lv,mv,tsv,.map (some mb)] 285),(mb,.map es cl)]) (λg=>[D6,E1,D]) (0,F I,F I) ⟨Yf,C⟩ ⟨Ya,zy⟩ zp ?_;rintro⟨k,lo,hi⟩ ⟨h1,hI⟩;simp only at h1 hI;refine aA<|Zal C<|bX<|Zae C (λhc1=>?_) λhc1=>?_
 ·have hk:k<(bI t).length:=by simp only at hc1;omega
  obtain⟨u,hx⟩:=cF (bI t) k;have hum:=GE hx;have hul:=tG hto hum;have hR:=hU (l:=u) Yd;refine aP<|Za6<|Za4<|aA<|Zy C U283 kC C hts C hx λb2 o2 hE hF hS hH=>?_;obtain rfl:hE=ints (dT _):=hF;refine cQ C qD C hH Yc fi n4 C zy<|Zag C BE C λq4=>fG C C C C kC ii Yb ζ Yh zy<|aE<|fK R Yf λhq1k=>?_
  have rA:q1∉[wb,mb]:=λh=>hq1k (GT _ (GT _ (GT _ h)))
  refine rM λhnd=>?_;simp only[yl,tj,xg,zm,n4,yk,wn,we,ya]at hnd;have rB:q3∉[wb,mb]:=by simp only[zm,n4,yk,wn];exact⟨hnd.2.1.2.1,hnd.2.1.2.2⟩
  have hq4:q4∉[wb,mb]:=by simp only[zm,n4,yk,wn];exact⟨hnd.1.2.2.1,hnd.1.2.2.2⟩
  refine fS [wb,mb] 3 [0,1,2,3,4,5,6,7,8,9] [false,true,true,true,true,true,true,true,false,false] [(false,0),(true,1),(true,2),(true,3),(true,4),(true,5),(true,6),(true,7),(false,8),(false,9)] aV (λ_ _ _ h=>kQ (P:=prog) (fn:=f99) _ _ _ h) Yg C<|bN C lH C zi cR Yo C zy<|Zj C QE C<|eE C (k:=0) Ty C R Yc C Yo C zy<|Za C<|bN C qD C zu fi Yo C zy<|Za C<|Za C<|HC (A:=[(_,_),(_,_),(_,_)]) (ν:=[(_,_),(_,_)]) C C C C ia (WB (cs:=[_,_,_,_,_,_,_])) (λD7 hJ=>hf u hum _ (hJ _ Yf)) C zy λv7 D8 _ hD8 hK=>?_;obtain⟨rfl,rfl⟩:=hK;refine Zd C (λD1 hD1=>wO (lo,hi) (F u) _)<|Zaa C cR (.tail ζ)<|Zap<|Wc ?_;exact aK 16 (k+1,min lo (F u),max hi (F u)) ⟨Yl,by rw[Dd hx,←hI]⟩ Yl ⟨Ya,zy⟩ C C (List.Sublist.cons _ zp) λD h=>⟨D,zb _ (h),Le.refl D⟩
 ·obtain rfl:k=(bI t).length:=by simp only at hc1;omega
  rw[ym]at hI;have hfin:=Yam O hI;refine Za9<|Za5<|Za5<|Zba<|Za2<|aA<|Zah C lH C zu cR<|Zaa C cR (.tail ζ)<|aG ?_;exact Zak [(_,_),(_,_)] [] [_,_] [_] C ⟨⟨_,_,_,C,List.Mem.tail _ zu,Or.inr ⟨lH,cR,C⟩⟩,zy⟩ C λD hD=>⟨hfin,C⟩
theorem aTO(tv:Γ)(t:bA)(row:Int)(D:aC)(ht:hZ D tv t):Fn prog 46 #[tv,qI row] D (λ_ v=>v=.tuple #[nA (if nG t (gF row 0 ((t.levels.length:Int)-1))=0 then aZE t (t.levels.getD row.toNat 0)else(0,0)),qI (nG t (gF row 0 ((t.levels.length:Int)-1)))]):=by
 have ht0:=ht;obtain⟨hv,lv,mv,rfl,hh,hl,hm⟩:=ht;refine Zx 28 func46 C λh0=>aA<|Zac C λq1 E1 hF I=>Zag C iO C λq2=>Zf C<|bX<|bK [] 4 10 398<|Zv C lR C I kF<|Zv C lR C I kF<|Za C<|Zd C (λD1 V=>Wcb _ t row _ (ht0.up (V _ Yf)))<|gQ C C C (λD3 Y=>B4 _ t (gF row 0 ((t.levels.length:Int)-1)) _ (ht0.up (Y _ Yf))) C zy λv3 D4 ν3 hH Z=>?_;obtain⟨wv,rfl,hwk⟩:=Z;refine Za C<|Zar C<|Zar C<|Zf C<|Zf C<|bD<|Za C<|Za0 C<|aE<|Zae C (λhc1=>?_) λhc1=>?_
 ·refine aA<|Zw [qI 0,qI 0] C G9 iO C<|Za C<|Zaa C cR (.app ζ)<|Wi ?_;exact Zp [_,_] C ⟨⟨_,_,_,C,(LT _ zu),Or.inr ⟨lH,fk,C⟩⟩,C,zy⟩ λD hD=>fh
 ·have he0:nG t (gF row 0 ((t.levels.length:Int)-1))=0:=Yd
  obtain⟨hto,htn,wb,mb,O,R,U,tsv,es,cl,S,rfl,rfl,htw,hts,hS,hsp⟩:=hwk he0;have hrow:=s6 he0;rw[bH]at hrow;have hlev:t.levels[row.toNat]?= some (t.levels.getD row.toNat 0):=by rw[wi,yz Yd];rfl
  refine aP<|aA<|Zw [.func (.func 98) #[] #[]] C Sw Tm C<|Za C<|Zj C mX C<|Zh 3 C bW C I C<|Za C<|gH C hl C hlev (λb1 o1=>gP (A:=[]) (ν:=[(_,_),(_,_)]) (B:=[(_,_)]) C C C C ia (WB (cs:=[_,_,_,_,_,_,_])) (λD7 hB=>IP t wb mb O R U tsv es cl (cX · (t.levels.getD row.toNat 0)) _ _ _ _ (hts.up MT.up (hB _ Yf)) htn hto λs hsm D' hD'=>Nm t wb mb O R U tsv es cl s _ _ D' (by have:=tG hto hsm;have:=hto.len;omega) (by have:=tG hto hsm;have:=hto.len10;omega)) C zy λv7 D8 _ hI hE=>?_);obtain⟨rfl,rfl⟩:=hE;refine Zaa C cR (.tail (.tail ζ))<|Wd ?_;exact Zp [_,_] C ⟨⟨_,_,_,C,xq,Or.inr ⟨lH,fk,C⟩⟩,C,zy⟩ λD hD=>iz
theorem bPL(tv:Γ)(t:bA)(a b:Int)(D:aC)(ht:hZ D tv t):Fn prog 47 #[tv,qI a,qI b] D (λ_ v=>v=.tuple #[qI (if nG t (sK t.last a b)=0 then bSH t a b else 0),qI (nG t (sK t.last a b))]):=by
 have ht0:=ht;obtain⟨hv,lv,mv,rfl,hh,hl,hm⟩:=ht;refine Zx 28 func47 C λh0=>aA<|Zac C λq1 E1 hF I=>Zf C<|Zf C<|bX<|bK [] 4 11 798<|Zv C lR C I kF<|Zv C lR C I kF<|Za C<|Za C<|Zd C (λD1 V=>ZH _ t a b _ (ht0.up (V _ Yf))) ?_;refine gQ C C C (λD3 Y=>B4 _ t (sK t.last a b) _ (ht0.up (Y _ Yf))) C zy λv3 D4 ν3 hH Z=>?_;obtain⟨wv,rfl,hwk⟩:=Z;refine Za C<|Zar C<|Zar C<|Zf C<|Zf C<|bD<|Za C<|Za0 C<|aE<|Zae C (λhc1=>?_) λhc1=>?_
 ·refine qg ?_;exact Zp [_,_] C cE λD hD=>by show Value.tuple _=_;rw[zv hc1]
 ·have he0:nG t (sK t.last a b)=0:=Yd
  obtain⟨hto,htn,wb,mb,O,R,U,tsv,es,cl,S,rfl,rfl,htw,hts,hS,hsp⟩:=hwk he0;have hrow:=Nt (s6 he0);refine aP<|aA<|Zw [.func (.func 101) #[] #[]] C Sw Tm C<|Za C<|Za C<|Za C<|gP (A:=[]) (ν:=[(_,_),(_,_)]) (B:=[]) C C C C ia (WB (cs:=[_,_,_,_,_,_,_])) (λD7 hB=>IP t wb mb O R U tsv es cl (cO · a b) _ _ _ _ (hts.up MT.up (hB _ Yf)) htn hto λs hsm D' hD'=>Wcc t wb mb O R U tsv es cl s _ _ D' (by have:=tG hto hsm;have:=hto.len;omega) (by have:=tG hto hsm;have:=hto.len10;omega) hrow.1 hrow.2.1 hrow.2.2) C zy λv7 D8 _ hI hE=>?_
  obtain⟨rfl,rfl⟩:=hE;refine Ybg C U122 C aH C C C zy<|tg ?_;exact Zp [_,_] C cE λD hD=>iz
end L2
open Go.Proofs
namespace L3
open L1
open C1
end L3
namespace L3
open L1
open C3
def nq(lo:Int)(k:Nat):List Int:=(List.range k).map λi:Nat=>lo+(i:Int)
theorem Ca{s n lo hi:Int}(h:s≠n):gM s n lo hi=[s]:=by unfold gM;rw[zo h]
theorem aGF{s n lo hi:Int}(h:¬s≠n):gM s n lo hi=nq lo (hi+1-lo).toNat:=by unfold gM;rw[zv h];rfl
theorem mF(n lo hi:Int)(D:aC):Fn prog 71 #[qI n,qI lo,qI hi] D (λ_ v=>v=.bool (C1.gF n lo hi)):=by
 refine Zx 15 func71 C λh0=>lf ?_;refine' bU 4 (s:=10) (p:=14) C (λI=>?_) (λI=>?_) ?_;rotate_left
 ·refine r_ ?_;exact aQ 3
 ·refine Wb ?_;exact aQ 3
 refine Wd ?_;exact aD C λD hD=>C
theorem R8(sv:Γ)(x:Int)(xs:List Int)(D:aC)(hS:Sl D RI 1 sv (x::xs)):
  Fn prog 173 #[sv] D (λ_ v=>v=qI (xs.foldl min x)):=by
 refine Zx 5 func173 C λh0=>ga ?_;exact aD C λD hD=>C
theorem Yaz(r:Int×Int)(n:Int)(D:aC):Fn prog 295 #[nA r,qI n] D (λ_ v=>v=.bool (C1.gF n r.1 r.2)):=by
 refine Zx 11 func295 C λh0=>aA<|Zac C λU E1 O I=>Zf C<|aJ<|Za C<|Zj C A5 C<|Zh 0 C aH C I C<|Zj C zQ C<|Zh 1 C aH C I C<|Zd C (λV R=>mF _ _ _ _)<|Zf C ?_;refine aG ?_;exact aD C λD hD=>C
theorem OP(r:Int×Int)(n:Int)(D:aC):Fn prog 142 #[nA r,qI n] D (λ_ v=>v=nA (min r.1 n,max r.2 n)):=by
 refine Zx 15 func142 C λh0=>aA<|Zac C λq1 E1 Z R=>Zag C qJ C λq2=>bX<|fS [] 4 [0,1,2,5,6,7,8,3,4,9,10] [false,false,true,true,true,true,true,true,true,false,false] [(false,0),(false,1),(true,2),(true,5),(true,6),(true,7),(true,8),(true,3),(true,4),(false,9),(false,10)] aV (λ_ _ _ h=>eA (P:=prog) (fn:=f142) _ _ _ h) Yg C<|Zj C A5 C<|Zh 0 C aH C R C<|Za C<|Zj C zQ C<|Zh 1 C aH C R C<|Za C ?_;refine mL C C C C zy<|Zu C U35 aI cN C (.cons C C (.cons C C .nil)) λY D901 U I=>?_;have O:=Sl.ofInts (l:=[_,_]) (n:=2) (cap:=2) I C Yd Yd;refine Zd C (λD1 V=>R8 _ r.1 [n] _ (O.up RI.up (V _ Yf)))<|Zw [qI (min r.1 n),qI (max r.2 n)] C DX qJ C<|Zaa C eY ζ<|aG ?_;exact Zp [_] C ⟨⟨_,_,_,C,zu,Or.inr ⟨qO,kr,C⟩⟩,zy⟩ λD hD=>C
theorem MR(sv fv:Γ)(xs:List bQ)(p:bQ→Bool)(D:aC)(hS:Sl D jQ 3 sv xs)(hp:dJ prog D HK fv p):
  Fn prog 308 #[sv,fv] D (λ_ v=>v=qI (idxOf p xs)):=by
 have hl:=hS.len;obtain⟨f,c1,c2,rfl,hf⟩:=hp;refine Zx 19 func308 C λh0=>aA<|Zf C<|bD<|Za C<|eQ C U80 C Yn C C zy<|We ?_;rintro k ⟨h1,h2⟩;refine aA<|Zal C<|bX<|Zae C (λhc1=>?_) λhc1=>?_
 ·have hk:k<xs.length:=Yd
  obtain⟨x,hx⟩:=cF xs k;refine aP<|Za6<|Za4<|aA<|Za C<|Zf C<|aJ<|Za C<|Za C<|Za C<|eF C U80 cT C Yn C Yd Yn C zy λY Z I O V R=>?_;obtain rfl:I=[qI _,qI _,qI _]:=O;refine Zv C oX C R cT<|Zd C (λD1 U=>hf x _ (U _ Yf))<|aE<|Zai C (λhc2=>?_) λhc2=>?_
  ·refine uc ?_;exact aD C λD hD=>o_
  ·refine xi ?_;have hpx:p x=false:=hc2;have h3:(xs.take (k+1)).any p=false:=by rw[zg,hx,ui,h2];simp[hpx]
   exact aK 12 (k+1) ⟨Yd,h3⟩ Yd ⟨Ya,zy⟩ C C zp (aN)
 ·refine Wk ?_;exact aD C λD hD=>q_
theorem CK(sv fv:Γ)(xs:List bQ)(p:bQ→Bool)(D:aC)(hS:Sl D jQ 3 sv xs)(hp:dJ prog D HK fv p):
  Fn prog 237 #[sv,fv] D (λ_ v=>v=.bool (xs.any p)):=by
 refine Zx 9 func237 C λh0=>aA<|Zf C<|aJ<|Za C<|Za C<|Zd C (λO I=>MR _ _ xs p _ (Sl.at jQ.up I Yn Yf) (hp.up (I _ Yf)))<|Ww ?_;exact aD C λD hD=>q9
theorem Dc(b:Nat)(fv:Γ)(p:bQ→Bool)(x:bQ)(D:aC)(hp:dJ prog D HK fv p)(hB:At D b 0 [fv]):
  Fn prog 238 #[HK x,qP b] D (λ_ v=>v=.bool (!p x)):=by
 obtain⟨f,c1,c2,rfl,hf⟩:=hp;refine Zx 8 func238 C λh0=>aA<|Zac C λU E1 R I=>Zf C<|aJ<|Zh 0 C aAA C hB C<|Zv C oX C I cT<|Wv ?_;exact aD C λD hD=>C
theorem aDX(sv fv:Γ)(xs:List bQ)(p:bQ→Bool)(D:aC)(hS:Sl D jQ 3 sv xs)(hp:dJ prog D HK fv p)(h1:fv.cells=#[fv]):
  Fn prog 171 #[sv,fv] D (λ_ v=>v=.bool (xs.all p)):=by
 refine Zx 9 func171 C λh0=>aA<|uH (vs:=[fv]) C C h1 C zy λb O I hB=>Zf C<|aJ<|Za C<|Za1 C<|Zd C (λO I=>CK _ _ xs (λx=> !p x) _ (Sl.at jQ.up I Yn Yf) ⟨_,[],[qP b],C,λx R hl=>Dc b fv p x R (hp.up ((I _ Yf).trans hl)) (hB.up ((I _ Yf).trans hl))⟩)<|Zav C<|Wd ?_;exact aD C λD hD=>o0
theorem LY(sv fv:Γ)(xs:List Cn)(p:Cn→Bool)(D:aC)(hS:Sl D wQ 3 sv xs)(hp:dJ prog D nf fv p):
  Fn prog 309 #[sv,fv] D (λ_ v=>v=qI (idxOf p xs)):=by
 have hl:=hS.len;obtain⟨f,c1,c2,rfl,hf⟩:=hp;refine Zx 19 func309 C λh0=>aA<|Zf C<|bD<|Za C<|eQ C U81 C Yn C C zy<|We ?_;rintro k ⟨h1,h2⟩;refine aA<|Zal C<|bX<|Zae C (λhc1=>?_) λhc1=>?_
 ·have hk:k<xs.length:=Yd
  obtain⟨x,hx⟩:=cF xs k;refine aP<|Za6<|Za4<|aA<|Za C<|Zf C<|aJ<|Za C<|Za C<|Za C<|eF C U81 yP C Yn C Yd Yn C zy λY Z I O V R=>?_;obtain rfl:I=[qI _,qI _,qI _]:=O;refine Zv C TL C R yP<|Zd C (λD1 U=>hf x _ (U _ Yf))<|aE<|Zai C (λhc2=>?_) λhc2=>?_
  ·refine uc ?_;exact aD C λD hD=>o_
  ·refine xi ?_;have hpx:p x=false:=hc2;have h3:(xs.take (k+1)).any p=false:=by rw[zg,hx,ui,h2];simp[hpx]
   exact aK 12 (k+1) ⟨Yd,h3⟩ Yd ⟨Ya,zy⟩ C C zp (aN)
 ·refine Wk ?_;exact aD C λD hD=>q_
theorem CT(sv fv:Γ)(xs:List Cn)(p:Cn→Bool)(D:aC)(hS:Sl D wQ 3 sv xs)(hp:dJ prog D nf fv p):
  Fn prog 239 #[sv,fv] D (λ_ v=>v=.bool (xs.any p)):=by
 refine Zx 9 func239 C λh0=>aA<|Zf C<|aJ<|Za C<|Za C<|Zd C (λO I=>LY _ _ xs p _ (Sl.at wQ.up I Yn Yf) (hp.up (I _ Yf)))<|Ww ?_;exact aD C λD hD=>q9
theorem aHS(b:Nat)(fv:Γ)(p:Cn→Bool)(x:Cn)(D:aC)(hp:dJ prog D nf fv p)(hB:At D b 0 [fv]):
  Fn prog 240 #[nf x,qP b] D (λ_ v=>v=.bool (!p x)):=by
 obtain⟨f,c1,c2,rfl,hf⟩:=hp;refine Zx 8 func240 C λh0=>aA<|Zac C λU E1 R I=>Zf C<|aJ<|Zh 0 C aEO C hB C<|Zv C TL C I yP<|Wv ?_;exact aD C λD hD=>C
theorem Sy(sv fv:Γ)(xs:List Cn)(p:Cn→Bool)(D:aC)(hS:Sl D wQ 3 sv xs)(hp:dJ prog D nf fv p)(h1:fv.cells=#[fv]):
  Fn prog 172 #[sv,fv] D (λ_ v=>v=.bool (xs.all p)):=by
 refine Zx 9 func172 C λh0=>aA<|uH (vs:=[fv]) C C h1 C zy λb O I hB=>Zf C<|aJ<|Za C<|Za1 C<|Zd C (λO I=>CT _ _ xs (λx=> !p x) _ (Sl.at wQ.up I Yn Yf) ⟨_,[],[qP b],C,λx R hl=>aHS b fv p x R (hp.up ((I _ Yf).trans hl)) (hB.up ((I _ Yf).trans hl))⟩)<|Zav C<|Wd ?_;exact aD C λD hD=>o0
theorem aHW(bv:Γ)(b:aU)(l:bQ)(D:aC)(hb:eT D bv b)(hn:0≤b.chairs∧b.chairs≤100):Fn prog 169 #[bv,HK l] D (λ_ v=>v=.bool (sH b.chairs l)):=by
 obtain⟨lv,cv,rfl,hl,hc⟩:=hb;refine Zx 24 func169 C λh0=>aA<|Zac C λq1 E1 V O=>Zac C λq2 E2 Y I=>Zf C<|aJ<|Zj C CY C<|Zh 0 C aH C I C<|Zd C (λD1 Z=>mF _ _ _ _)<|Za C ?_;refine' bU 7 (s:=8) (p:=15) C (λR=>?_) (λR=>?_) ?_;rotate_left
 ·refine Zk C tC C<|Zi 1 C aH C I C<|Zk C wX C<|Zi 0 C aH C O C<|xO C C C Ye C ⟨_,C,C⟩<|Ze C (λD2 hB=>mF _ _ _ _)<|Zam C ?_;exact aQ 6
 ·refine Wo ?_;exact aQ 6
 refine Za C ?_;refine' bU 7 (s:=16) (p:=23) C (λU=>?_) (λU=>?_) ?_;rotate_left
 ·refine Zk C pA C<|Zi 2 C aH C I C<|Zk C wX C<|Zi 0 C aH C O C<|xO C C C Ye C ⟨_,C,C⟩<|Ze C (λD3 hE=>mF _ _ _ _)<|Zam C ?_;exact aQ 6
 ·refine Wo ?_;exact aQ 6
 refine Wd ?_;exact aD C λD hD=>C
theorem Gd(bv:Γ)(b:aU)(c:Cn)(D:aC)(hb:eT D bv b):Fn prog 170 #[bv,nf c] D (λ_ v=>v=.bool (tV b.lines.length c)):=by
 obtain⟨lv,cv,rfl,hl,hc⟩:=hb;refine Zx 31 func170 C λh0=>aA<|Zac C λq1 E1 Y O=>Zac C λq2 E2 Z I=>Zf C<|aJ<|Zj C CA C<|Zaq 1 C qO eY C I C<|Zag C qJ C λq3=>Zaa C eY ζ<|aJ<|Zj C X5 C ?_;refine Zh 0 C aH C I C<|Zj C dX C<|Zh 3 C iK C O C<|Zaj C U80 C hl C<|Zd C (λD1 hB=>mF _ _ _ _)<|Za C ?_;refine' bU 4 (s:=14) (p:=18) C (λR=>?_) (λR=>?_) ?_;rotate_left
 ·refine Zk C A5 C<|Zr C aH C zu C<|Wl ?_;exact aQ 3
 ·refine Wb ?_;exact aQ 3
 refine Za C ?_;refine' bU 6 (s:=19) (p:=25) C (λU=>?_) (λU=>?_) ?_;rotate_left
 ·refine Zk C A5 C<|Zr C aH C zu C<|Zk C zQ C<|Zr C aH C zu C<|Wl ?_;exact aQ 5
 ·refine Zg C<|vw ?_;exact aQ 5
 refine Za C ?_;refine' bU 4 (s:=26) (p:=30) C (λV=>?_) (λV=>?_) ?_;rotate_left
 ·refine Zk C zQ C<|Zr C aH C zu C<|Wl ?_;exact aQ 3
 ·refine Wb ?_;exact aQ 3
 refine Wd ?_;exact aD C λD hD=>C
theorem US(s n lo hi:Int)(D:aC)(h1: -10≤lo∧lo≤10)(h2: -10≤hi∧hi≤100):Fn prog 241 #[qI s,qI n,qI lo,qI hi] D (λD' v=>Sl D' RI 1 v (gM s n lo hi)):=by
 refine Zx 26 func241 C λh0=>aA<|Zf C<|bD<|Za C<|Za C<|Za0 C<|aE<|Zae C (λhc1=>?_) λhc1=>?_
 ·refine aA<|Za C<|Zu C U35 aI cN C (.cons C C .nil) λhE D901 U O=>?_;have R:=Sl.ofInts (l:=[_]) (n:=1) (cap:=1) O C Yd Yd;refine Wi ?_;exact aD C λD hD=>by rw[Ca hc1];exact R.up RI.up (hD _ Yf)
 ·refine aP<|bL<|Za C<|Zf C<|aE<|Za4<|fE (γ:=Nat×Γ×aF) (λg=>(hi+1-lo).toNat-g.1) (λg=>g.1≤(hi+1-lo).toNat∧bM 3 1 g.2.1 g.1 (ints (nq lo g.1)) g.2.2) (λg=>[(8,g.2.1),(9,qI (lo+(g.1:Int)))]) [(3,_)] (λg=>g.2.2++[]) (λg=>[D]) (0,qN,[]) ⟨Yf,by simpa [ints,nq]using bM.nil⟩ ⟨Ya,Ya,zy⟩ ⟨C,zy⟩ zp (aN) ?_;rintro⟨k,v,ν⟩ ⟨V,ha⟩;simp only at V ha;refine bL<|Za C<|Za C<|iB C C C C zy<|aE<|Zae C (λhc2=>?_) (λhc2=>?_)
  ·simp only at hc2;refine aP<|Za6<|Za4<|aM<|Za C<|Za C<|Zu C U35 aI cN C (.cons C C .nil) λhH hI Y I=>?_;have Z:=Sl.ofInts (l:=[_]) (n:=1) (cap:=1) I C Yd Yd;refine aT (A:=[]) (B:=_) C U35 C C aI cN C jV C C C ha (kX.lit I) Yf C (by simp[nq]) Ym Yd (zq C) C zy λv1 ν1 ha1=>?_;have hB:bM 3 1 v1 (k+1) (ints (nq lo (k+1))) ν1:=by unfold nq;rw[yb,ze,tn,←eL];exact ha1
   refine Wp ?_;exact aK 13 (k+1,v1,ν1) ⟨Yl,hB⟩ Yl ⟨C,(by show some (Value.int _ _)=some (Value.int _ _);congr 2;push_cast;omega),zy⟩ C C zp λD h=>⟨D,zb _ (h),Le.refl D⟩
  ·have hk:k=(hi+1-lo).toNat:=by simp only at hc2;omega
   rw[hk]at ha;refine Za9<|Za5<|Za5<|Zba<|Za2<|aA<|Za C<|Zf C<|aG<|dE (A:=[]) (B:=[]) ha C λD2 hJ hF=>?_;exact aD C λD hD=>by rw[aGF hc1];exact(hF.ints (by simp[nq]) Yd).up RI.up (hD _ Yf)
def lq(n:Int)(l:bQ)(x c:Int):List bQ:=(gM l.token (-1) 0 (n-1)).map λt=>⟨x,c,t⟩
def gi(n:Int)(l:bQ)(x:Int):List bQ:=(gM l.chair (-1) 0 (n-1)).flatMap (lq n l x)
def rm(n:Int)(l:bQ)(k:Nat):List bQ:=((gM l.kind 0 1 2).take k).flatMap (gi n l)
def sf(n:Int)(l:bQ)(k:Nat)(x:Int)(j:Nat):List bQ:=rm n l k++((gM l.chair (-1) 0 (n-1)).take j).flatMap (lq n l x)
def tw(n:Int)(l:bQ)(k:Nat)(x:Int)(j:Nat)(c:Int)(i:Nat):List bQ:=sf n l k x j++((gM l.token (-1) 0 (n-1)).take i).map λt=>⟨x,c,t⟩
theorem Uf{n:Int}{l:bQ}:rm n l (gM l.kind 0 1 2).length=cJ n l:=by unfold rm;rw[ym];rfl
theorem Dk{n:Int}{l:bQ}{k:Nat}{x:Int}:sf n l k x 0=rm n l k:=by unfold sf;simp
theorem Ae{n:Int}{l:bQ}{k:Nat}{x:Int}{j:Nat}{c:Int}:tw n l k x j c 0=sf n l k x j:=by unfold tw;simp
theorem aFP{n:Int}{l:bQ}{k:Nat}{x:Int}(h:(gM l.kind 0 1 2)[k]?= some x):sf n l k x (gM l.chair (-1) 0 (n-1)).length=rm n l (k+1):=by
 unfold sf rm;rw[ym,zg,h,yd,xl,um];rfl
theorem aBK{n:Int}{l:bQ}{k:Nat}{x:Int}{j:Nat}{c:Int}(h:(gM l.chair (-1) 0 (n-1))[j]?= some c):tw n l k x j c (gM l.token (-1) 0 (n-1)).length=sf n l k x (j+1):=by
 unfold tw sf;rw[ym,zg,h,yd,xl,um,yy];rfl
theorem Ce{n:Int}{l:bQ}{k:Nat}{x:Int}{j:Nat}{c:Int}{i:Nat}{t:Int}(h:(gM l.token (-1) 0 (n-1))[i]?= some t):tw n l k x j c (i+1)=tw n l k x j c i++[⟨x,c,t⟩]:=by
 unfold tw;rw[zg,h,yd,ze,←yy];rfl
theorem B0{s none lo hi:Int}{m:Nat}(h:hi+1-lo≤m)(h1:1≤m):(gM s none lo hi).length≤m:=by
 unfold gM;split
 ·simpa using h1
 ·simp;omega
theorem kO{α β:Type}{f:α→List β}{m:Nat}:∀(l:List α),(∀x∈l,(f x).length≤m)→(l.flatMap f).length≤l.length*m
 | [],_=>by simp
 |x::l,h=>by
  rw[xy,zf,zh,xb];have:=kO l λy hy=>h y (GT _ hy)
  have:=h x zj;omega
theorem Un{n:Int}{l:bQ}(hn:n≤4)(x c:Int):(lq n l x c).length≤4:=by unfold lq;rw[yh];exact B0 Yd Yd
theorem aEN{n:Int}{l:bQ}(hn:n≤4)(x:Int):(gi n l x).length≤16:=by
 unfold gi;have h1:=kO (m:=4) (f:=lq n l x) (gM l.chair (-1) 0 (n-1)) λc _=>Un hn x c
 have h2:=B0 (s:=l.chair) (none:= -1) (lo:=0) (hi:=n-1) (m:=4) Yd Yd;omega
theorem Uv{n:Int}{l:bQ}(hn:n≤4)(k:Nat):(rm n l k).length≤32:=by
 unfold rm;have h1:=kO (m:=16) (f:=gi n l) ((gM l.kind 0 1 2).take k) λx _=>aEN hn x
 have h2:=B0 (s:=l.kind) (none:=0) (lo:=1) (hi:=2) (m:=2) Yd Yd;have h3:((gM l.kind 0 1 2).take k).length≤(gM l.kind 0 1 2).length:=by rw[wq];omega
 omega
theorem df{n:Int}{l:bQ}(hn:n≤4):(cJ n l).length≤32:=by rw[←Uf];exact Uv hn _
theorem aAH{n:Int}{l:bQ}{k:Nat}{x:Int}{j:Nat}{c:Int}{i:Nat}(hn:n≤4):(tw n l k x j c i).length≤60:=by
 unfold tw sf;rw[zf,zf,yh];have h0:=Uv (l:=l) hn k;have h1:=kO (m:=4) (f:=lq n l x) ((gM l.chair (-1) 0 (n-1)).take j) λc _=>Un hn x c
 have h2:=B0 (s:=l.chair) (none:= -1) (lo:=0) (hi:=n-1) (m:=4) Yd Yd;have h3:=B0 (s:=l.token) (none:= -1) (lo:=0) (hi:=n-1) (m:=4) Yd Yd;have h4:((gM l.chair (-1) 0 (n-1)).take j).length≤4:=by rw[wq];omega
 have h5:((gM l.token (-1) 0 (n-1)).take i).length≤4:=by rw[wq];omega
 omega
def uC(l:List bQ):List Γ:=l.flatMap λx=>[qI x.kind,qI x.chair,qI x.token]
theorem S3(l:List bQ):(uC l).length=l.length*3:=by
 induction l with
 |nil=>rfl
 |cons c l ih=>unfold uC at ih ⊢;rw[xy,zf,ih];simp only[zh,wp];omega
theorem Aa{l:List bQ}{i:Nat}{c:bQ}(hi:l[i]?= some c):((uC l).drop (i*3)).take 3=[qI c.kind,qI c.chair,qI c.token]:=by
  induction l generalizing i with
  |nil=>simp at hi
  |cons d l ih=>
    unfold uC at ih ⊢
    rw[xy];cases i with
    | zero => obtain rfl : d = c := by simpa using hi
              rfl
    |succ i=>
      rw[rd,wl xw,ya];have:(i+1)*3- [Value.int .i64 d.kind,Value.int .i64 d.chair,Value.int .i64 d.token].length=i*3:=by simp;omega
      rw[this];exact ih wy
theorem _root_.Go.Fs.lB.lins{D:aC}{v:Γ}{n:Nat}{l:List bQ}(hF:lB D v n (uC l))(hn:l.length=n)(hb:n≤9223372036854775807):Sl D jQ 3 v l:=
 hF.sl hn hb λ_i _t hi=>⟨_,C,C,Aa hi⟩
theorem O9(bv:Γ)(b:aU)(l:bQ)(D:aC)(hb:eT D bv b)(hn:1≤b.chairs∧b.chairs≤4):Fn prog 174 #[bv,HK l] D (λD' v=>Sl D' jQ 3 v (cJ b.chairs l)):=by
 obtain⟨lv,cv,rfl,hl,hc⟩:=hb;refine Zx 52 func174 C λh0=>aA<|Zac C λq1 E1 rA Y=>Zac C λq2 E2 rB I=>Zf C<|bD<|Zj C CY C<|Zh 0 C aH C I C<|Zz C (λD1 hE=>US _ _ _ _ _ Yd Yd) λv1 D1 hE hH=>?_;have O:=hH;refine Zaj C U35 C O C<|Za C<|aE<|Za4<|Zc (Nat×Γ×aF) (λg=>(gM l.kind 0 1 2).length-g.1) (λg=>g.1≤(gM l.kind 0 1 2).length∧bM 298 3 g.2.1 (rm b.chairs l g.1).length (uC (rm b.chairs l g.1)) g.2.2) (λg=>[(4,g.2.1),(15,qI (g.1:Int))]) [(14,_),(13,_),(3,_),(2,_)] (λg=>g.2.2++[]) (λg=>[D1,E2,E1,D]) (0,qN,[]) ⟨Yf,bM.nil⟩ ⟨Ya,Ya,zy⟩ zp ?_;rintro⟨k,v,ν⟩ ⟨h1,ha1⟩;simp only at h1 ha1;refine aA<|Zal C<|bX<|Zae C (λhc1=>?_) λhc1=>?_
 ·simp only at hc1;have hR:=O.len;obtain⟨x,hx1⟩:=cF (gM l.kind 0 1 2) k;refine aP<|Za6<|Za4<|aA<|gH C O C hx1 λb1 o1=>Zf C<|aJ<|Zj C tC C<|Zh 1 C aH C I C<|Zj C wX C<|Zh 0 C aH C Y C<|Zax C ?_;refine Zz C (λD2 Z=>US _ _ _ _ _ Yd Yd) λv2 D2 Z hI=>?_;have R:=hI;refine Zaj C U35 C R C<|Za C<|aE<|Za4<|Zc (Nat×Γ×aF) (λg=>(gM l.chair (-1) 0 (b.chairs-1)).length-g.1) (λg=>g.1≤(gM l.chair (-1) 0 (b.chairs-1)).length∧bM 298 3 g.2.1 (sf b.chairs l k x g.1).length (uC (sf b.chairs l k x g.1)) g.2.2) (λg=>[(4,g.2.1),(26,qI (g.1:Int))]) [(25,_),(24,_),(23,_),(22,_),(21,_),(20,_),(19,_),(6,_),(18,_),(17,_),(16,_),(15,_),(14,_),(13,_),(3,_),(2,_)] (λg=>g.2.2++[]) (λg=>[D2,D1,E2,E1,D]) (0,v,ν) ⟨Yf,by rw[Dk];exact ha1⟩ ⟨Ya,Ya,zy⟩ zp ?_
  rintro⟨j,w,ν2⟩ ⟨h2,haJ⟩;simp only at h2 haJ;refine aA<|Zal C<|bX<|Zae C (λhc2=>?_) λhc2=>?_
  ·simp only at hc2;have hS:=R.len;obtain⟨c,hx2⟩:∃x,(gM l.chair (-1) 0 (b.chairs-1))[j]?= some x:=⟨_,yz Yd⟩
   refine aP<|Za6<|Za4<|aA<|gH C R C hx2 λb2 o2=>Zf C<|aJ<|Zj C pA C<|Zh 2 C aH C I C<|Zj C wX C<|Zh 0 C aH C Y C<|Zax C ?_;refine Zz C (λD3 hJ=>US _ _ _ _ _ Yd Yd) λv3 D3 hJ hK=>?_;have U:=hK;refine Zaj C U35 C U C<|Za C<|aE<|Za4<|Zc (Nat×Γ×aF) (λg=>(gM l.token (-1) 0 (b.chairs-1)).length-g.1) (λg=>g.1≤(gM l.token (-1) 0 (b.chairs-1)).length∧bM 298 3 g.2.1 (tw b.chairs l k x j c g.1).length (uC (tw b.chairs l k x j c g.1)) g.2.2) (λg=>[(4,g.2.1),(37,qI (g.1:Int))]) [(36,_),(35,_),(34,_),(33,_),(32,_),(31,_),(30,_),(8,_),(29,_),(28,_),(27,_),(26,_),(25,_),(24,_),(23,_),(22,_),(21,_),(20,_),(19,_),(6,_),(18,_),(17,_),(16,_),(15,_),(14,_),(13,_),(3,_),(2,_)] (λg=>g.2.2++[]) (λg=>[D3,D2,D1,E2,E1,D]) (0,w,ν2) ⟨Yf,by rw[Ae];exact haJ⟩ ⟨Ya,Ya,zy⟩ zp ?_
   rintro⟨i,u,ν3⟩ ⟨h3,haI⟩;simp only at h3 haI;refine aA<|Zal C<|bX<|Zae C (λhc3=>?_) λhc3=>?_
   ·simp only at hc3;have hX:=U.len;obtain⟨t,hB⟩:∃x,(gM l.token (-1) 0 (b.chairs-1))[i]?= some x:=⟨_,yz Yd⟩
    refine aP<|Za6<|Za4<|aA<|gH C U C hB λb3 o3=>Zf C<|aE<|aM<|Za C<|Za C<|ub ?_;refine Zw [qI x,qI c,qI t] C Ur lI C<|Zu C U80 cT lI C (.cons C C .nil) λhY D901 hN V=>?_;have hli:=aAH (n:=b.chairs) (l:=l) (k:=k) (x:=x) (j:=j) (c:=c) (i:=i) Yd;refine aT (A:=[]) (B:=[]) C U80 C C cT lI C AG C C C haI (kX.lit V) Yf C (S3 _) Ym Yd (zq C) C zy λv7 ν7 hO=>?_;have hP:bM 298 3 v7 (tw b.chairs l k x j c (i+1)).length (uC (tw b.chairs l k x j c (i+1))) ν7:=by rw[Ce hB];simpa [uC]using hO
    refine uz ?_;exact aK 16 (i+1,v7,ν7) ⟨Yl,hP⟩ Yl ⟨Ya,Ya,zy⟩ C C zp λD h=>⟨D,zb _ (h),Le.refl D⟩
   ·have hi:i=(gM l.token (-1) 0 (b.chairs-1)).length:=by simp only at hc3;omega
    rw[hi,aBK hx2]at haI;refine Za9<|Za5<|Za5<|Zba<|Wc ?_;exact aK 17 (j+1,u,ν3) ⟨Yl,haI⟩ Yl ⟨Ya,Ya,zy⟩ C C zp λD h=>⟨D,zb _ (h),Le.refl D⟩
  ·have hj:j=(gM l.chair (-1) 0 (b.chairs-1)).length:=by simp only at hc2;omega
   rw[hj,aFP hx1]at haJ;refine Za9<|Za5<|Za5<|Zba<|Wc ?_;exact aK 17 (k+1,w,ν2) ⟨Yl,haJ⟩ Yl ⟨Ya,Ya,zy⟩ C C zp λD h=>⟨D,zb _ (h),Le.refl D⟩
 ·have hk:k=(gM l.kind 0 1 2).length:=by simp only at hc1;omega
  rw[hk,Uf]at ha1;refine Za9<|Za5<|Za5<|Zba<|Za2<|aA<|Za C<|Zf C<|aG<|dE (A:=[]) (B:=[]) ha1 C λD2 Z hF=>?_;exact aD C λD hD=>(hF.lins C (by have:=df (l:=l) hn.2;omega)).up jQ.up (hD _ Yf)
theorem Wav{b:aU}(h:((!C1.gF b.chairs 1 4|| !C1.gF b.coin 1 99)|| !C1.gF b.box 0 999)=false):1≤b.chairs∧b.chairs≤4:=by
 simp only[xn,ry,C1.bH]at h;exact h.1.1
theorem Wbf{b:aU}(h:((((!C1.gF b.chairs 1 4|| !C1.gF b.coin 1 99)|| !C1.gF b.box 0 999)|| !b.lines.all (sH b.chairs))|| !b.counts.all (tV b.lines.length))=false):uL b=true∧1≤b.chairs∧b.chairs≤4:=by
 simp only[xn,ry]at h;obtain⟨⟨⟨⟨h1,h2⟩,h3⟩,h4⟩,h5⟩:=h;exact⟨by unfold uL;rw[h1,h2,h3,h4,h5];rfl,(C1.bH.1 h1)⟩
theorem dl{b:aU}(h:(decide ((8:Int)<b.lines.length)||decide ((4:Int)<b.counts.length))=false):¬(8<b.lines.length∨4<b.counts.length):=by
 simp only[xn,yt]at h;omega
theorem aHT{b:aU}(h:(decide ((8:Int)<b.lines.length)||decide ((4:Int)<b.counts.length))=true):aW b=3:=by
 simp only[yg,LE]at h;unfold aW;rw[zo Yd]
theorem Wbw{b:aU}(h:(decide ((8:Int)<b.lines.length)||decide ((4:Int)<b.counts.length))=false)(h2:((((!C1.gF b.chairs 1 4|| !C1.gF b.coin 1 99)|| !C1.gF b.box 0 999)|| !b.lines.all (sH b.chairs))|| !b.counts.all (tV b.lines.length))=true):aW b=1:=by
 unfold aW;rw[zv (dl h),zo]
 revert h2;unfold uL
 generalize C1.gF b.chairs 1 4=x,C1.gF b.coin 1 99=y,C1.gF b.box 0 999=z,b.lines.all (sH b.chairs)=u,b.counts.all (tV b.lines.length)=w;cases x<;>cases y<;>cases z<;>cases u<;>cases w<;>decide
theorem aFO{b:aU}(h:(decide ((8:Int)<b.lines.length)||decide ((4:Int)<b.counts.length))=false)(h2:uL b=true)(h3:uQ b.chairs b.lines>4096):aW b=3:=by
 unfold aW;rw[zv (dl h),zv (by rw[h2];simp),zo h3]
theorem aEY{b:aU}(h:(decide ((8:Int)<b.lines.length)||decide ((4:Int)<b.counts.length))=false)(h2:uL b=true)(h3:¬uQ b.chairs b.lines>4096):aW b=0:=by
 unfold aW;rw[zv (dl h),zv (by rw[h2];simp),zv h3]
theorem Nl{n:Int}{ls:List bQ}{i:Nat}{x:bQ}(hx:ls[i]?= some x):uQ n (ls.take (i+1))=min (uQ n (ls.take i)*(cJ n x).length) 4097:=by
 unfold uQ;rw[zg,hx,yd,xk];rfl
theorem Dq(n:Int)(ls:List bQ):0≤uQ n ls∧uQ n ls≤4097:=by
 unfold uQ;have key:∀(l:List bQ) (m:Int),0≤m∧m≤4097→0≤l.foldl (λ(m:Int) l=>min (m*((cJ n l).length:Int)) 4097) m∧l.foldl (λ(m:Int) l=>min (m*((cJ n l).length:Int)) 4097) m≤4097:=by
  intro l;induction l with
  |nil=>intro m h;exact h
  |cons x l ih=>
   intro m h;rw[yp];refine ih _ ⟨?_,Yd⟩;have:0≤m*((cJ n x).length:Int):=om h.1 Yd;omega
 exact key ls 1 Yd
theorem Xbs{m:Int}{k:Nat}(h:0≤m∧m≤4097)(hk:k≤32):vE .i64 (m*(k:Int)):=by
 have h1:0≤m*(k:Int):=om h.1 Yd;have h2:m*(k:Int)≤4097*32:=Int.mul_le_mul h.2 Yd Yd Yd;simp only[vE];omega
theorem G1(bv:Γ)(b:aU)(D:aC)(hb:eT D bv b):Fn prog 102 #[bv] D (λ_ v=>v=qI (aW b)):=by
 have O:=hb;obtain⟨lv,cv,rfl,hl,hc⟩:=hb;have hll:=hl.len;refine Zx 72 func102 C λh0=>aA<|Zac C λq1 E1 rB I=>Zf C<|bX<|bK [] 1 6 28<|Zv C gW C I fU<|Za1 C<|Zv C gW C I fU<|Za1 C<|Zf C<|Zf C ?_;refine bX<|Za4<|aA<|Zj C dX C<|Zh 3 C iK C I C<|Zaj C U80 C hl C<|uv ?_;refine' dU 5 (s:=17) (p:=22) C (λhE=>?_) (λhE=>?_) ?_;rotate_left
 ·refine Zk C xJ C<|Zi 4 C IQ C I C<|eQ C U81 C hc C C ⟨_,C,C⟩<|Wy ?_;exact aQ 4
 ·refine Wf ?_;exact aQ 4
 refine Zf C<|aE<|Zai C (λhc1=>?_) λhc1=>?_
 ·refine Wm ?_;exact aD C λD hD=>by show Value.int _ _=_;rw[aHT hc1]
 ·refine aA<|Zj C wX C<|Zh 0 C aH C I C<|Zd C (λD1 hD1=>mF _ _ _ _)<|si ?_;refine' dU 5 (s:=28) (p:=33) C (λhF=>?_) (λhF=>?_) ?_;rotate_left
  ·refine Zk C S7 C<|Zi 1 C aH C I C<|Ze C (λD2 hD2=>mF _ _ _ _)<|vp ?_;exact aQ 4
  ·refine Wf ?_;exact aQ 4
  refine Za C ?_;refine' dU 5 (s:=34) (p:=39) C (λhH=>?_) (λhH=>?_) ?_;rotate_left
  ·refine Zk C JL C<|Zi 2 C aH C I C<|Ze C (λD3 hD3=>mF _ _ _ _)<|vp ?_;exact aQ 4
  ·refine Wf ?_;exact aQ 4
  refine Za C ?_;refine' dU 6 (s:=40) (p:=46) C (λV=>?_) (λV=>?_) ?_;rotate_left
  ·have hch:=Wav V;refine Zk C dX C<|Zi 3 C iK C I C<|Zb C<|Ze C (λD4 Y=>aDX _ _ _ (sH b.chairs) _ (Sl.at jQ.up Y Yn Yf) ⟨_,[_],[],C,λr D2 hl=>aHW _ b r D2 (O.up ((Y _ Yf).trans hl)) Yd⟩ C)<|vp ?_;exact aQ 5
  ·refine Zg C<|Wf ?_;exact aQ 5
  refine Za C ?_;refine' dU 6 (s:=47) (p:=53) C (λhI=>?_) (λhI=>?_) ?_;rotate_left
  ·refine Zk C xJ C<|Zi 4 C IQ C I C<|Zb C<|Ze C (λD5 Z=>Sy _ _ _ (tV b.lines.length) _ (Sl.at wQ.up Z Yn Yf) ⟨_,[_],[],C,λr D2 hl=>Gd _ b r D2 (O.up ((Z _ Yf).trans hl))⟩ C)<|vp ?_;exact aQ 5
  ·refine Zg C<|Wf ?_;exact aQ 5
  refine Zf C<|aE<|Zai C (λhc2=>?_) λhc2=>?_
  ·refine Wm ?_;exact aD C λD hD=>by show Value.int _ _=_;rw[Wbw hc1 hc2]
  ·obtain⟨hok,hX⟩:=Wbf hc2;refine bE<|Za7<|Za2<|aA<|Zf C<|bD<|Zj C dX C<|Zh 3 C iK C I C<|Zaj C U80 C hl C<|Za C<|aE<|Za4 ?_;refine Zo Nat (λi=>b.lines.length-i) (λi=>i≤b.lines.length) (λi=>[(57,qI (i:Int)),(5,qI (uQ b.chairs (b.lines.take i)))]) [(56,_),(55,_),(2,_),(1,_)] (λi=>[E1,D]) 0 ⟨Ya,Ya,zy⟩ ?_;rintro i h1;refine aA<|Zal C<|bX<|Zae C (λhc3=>?_) (λhc3=>?_)
   ·have hi:i<b.lines.length:=Yd
    obtain⟨x,hx⟩:=cF b.lines i;refine aP<|Za6<|Za4<|aA<|Zy C U80 cT C hl C hx λb1 o1 hJ hK hY hN=>?_;obtain rfl:hJ=[qI _,qI _,qI _]:=hK;refine Zv C oX C hN cT<|Zag C lI C λq2=>Zaa C cT ζ<|aE<|aM<|Za C<|Zv C gW C I fU<|Zah C oX C zu cT<|Zz C (λD6 hB=>O9 _ b x _ (O.up (hB _ Yf)) Yd) λv6 D6 hB hO=>?_;have hP:=hO;have hrl:=df (l:=x) (n:=b.chairs) Yd;have hmk:=Dq b.chairs (b.lines.take i);refine Zaj C U80 C hP C<|EM C C C (Xbs hmk hrl) C zy<|Zu C U35 aI cN C (.cons C C (.cons C C .nil)) λrA D901 hR R=>?_;have U:=Sl.ofInts (l:=[_,_]) (n:=2) (cap:=2) R C Yd Yd;refine Zd C (λD7 hS=>R8 _ _ [4097] _ (U.up RI.up (hS _ Yf)))<|uz ?_;exact aK 17 (i+1) Yd Yd ⟨Ya,(by rw[Nl hx];rfl),zy⟩ C C (List.Sublist.cons _ zp) λD h=>⟨D,zb _ (zb _ (h)),Le.refl D⟩
   ·obtain rfl:i=b.lines.length:=Yd
    rw[ym];refine Za9<|Za5<|Za5<|Zba<|Za2<|bL<|Za C<|Zat C<|aE<|Zae C (λhc4=>?_) λhc4=>?_
    ·refine aA<|Wi ?_;exact aD C λD hD=>by show Value.int _ _=_;rw[aFO hc1 hok hc4]
    ·refine aP<|aA<|Wd ?_;exact aD C λD hD=>by show Value.int _ _=_;rw[aEY hc1 hok hc4]
end L3
namespace L3
open L1
section
variable{P:Program}{X:Cx}{γb:Type}[Membership Nat γb]{H:γb}{G:Array Oper}{K:Act→Δ→Prop}{Q:Exit→Act→Δ→Prop}
variable{T:bZ}{L:aF}{W:List aC}{os:List (Bool×Nat)}{fl:Bool}{ix:Nat}
variable{d:Nat}{x y z:Operand}{u v:Γ}{ty:Θ}{pos:String}{aft:Array Edge}{g:Option (Nat×Bool)}
theorem wB{t:Θ}{b k:Nat}{l:List Int}{n:Int}{e:Θ}{μ':aF}(ho:G[ix]?= some ⟨none,.store t x y,ty,pos,aft,g⟩)(hs:TS P t 1)(hx:ev T x=some (.pointer (some ⟨b,k,none⟩)))(hy:ev T y=some (qI n))
  (hm:bO L b (qC (ints l) e) (qC (ints (l.set k n)) e) μ') (hl:k<l.length) (hfl:fl=false∨b∈H) (hg:dF G T g)
  (kk:WL P X H G K Q os T μ' W):WL P X H G K Q ((fl,ix)::os) T L W:=by
 have hil:(ints l).length=l.length:=aL l;refine oE (off:=k) (us:=[qI n]) (vs:=ints l) (ws:=ints (l.set k n)) ho hx hy C hs hm (by simp[hil];omega) ?_ (λu hu=>by simp at hu;subst hu;rfl) hfl hg kk
 rw[show ints (l.set k n)=(ints l).set k (qI n) by simp[ints,List.map_set],List.set_eq_take_append_cons_drop,zo (by rw[hil];exact hl)];simp
end
open C3
theorem zD{q a b:Nat}(h:a=b):some (Value.pointer (some ⟨q,a,none⟩))=some (Value.pointer (some ⟨q,b,none⟩)):=by rw[h]
theorem X9{s:Sc}(h4:s.ch.length=4)(h5:s.tk.length=4):(sM s).length=10:=by unfold sM;simp[h4,h5]
theorem Pq{s:Sc}(h4:s.ch.length=4){c:Int}(hc:0≤c∧c<4):(ints (sM s))[0+c.toNat*1]?= some (qI (nR s.ch c)):=by
 rw[wo,xp];refine dA ?_;unfold sM nR;rw[yy,uo Yd,wi,yz Yd];rfl
theorem Oz{s:Sc}(h4:s.ch.length=4)(h5:s.tk.length=4){c:Int}(hc:0≤c∧c<4):(ints (sM s))[0+4+c.toNat*1]?= some (qI (nR s.tk c)):=by
 rw[xp];refine dA ?_;unfold sM nR;rw[yy,rk Yd,uo Yd,wi,show 0+4+c.toNat-s.ch.length=c.toNat by omega,yz Yd];rfl
theorem SV{l:List Int}(h:l.length=4):∃a b c d,l=[a,b,c,d]:=by
 match l,h with
 | [a,b,c,d],_=>exact⟨a,b,c,d,C⟩
theorem O5{s:Sc}(h4:s.ch.length=4)(h5:s.tk.length=4):(sM s)[8]?= some s.money:=by
 obtain⟨a,b,c,d,e⟩:=SV h4;obtain⟨a',b',c',d',e'⟩:=SV h5;unfold sM;rw[e,e'];rfl
theorem ZE{s:Sc}(h4:s.ch.length=4)(h5:s.tk.length=4):(sM s)[9]?= some s.mixed:=by
 obtain⟨a,b,c,d,e⟩:=SV h4;obtain⟨a',b',c',d',e'⟩:=SV h5;unfold sM;rw[e,e'];rfl
theorem Um{s:Sc}(h4:s.ch.length=4)(h5:s.tk.length=4){c t:Int}(hc:0≤c∧c<4)(ht:0≤t∧t<4)(x y m:Int):
  (((sM s).set c.toNat x).set (4+t.toNat) y).set 8 m=sM ⟨s.ch.set c.toNat x,s.tk.set t.toNat y,m,s.mixed⟩∧∀z,((((sM s).set 9 z).set c.toNat x).set (4+t.toNat) y).set 8 m=sM ⟨s.ch.set c.toNat x,s.tk.set t.toNat y,m,z⟩:=by
 obtain⟨a,b,c',d,e⟩:=SV h4;obtain⟨a',b',c'',d',e'⟩:=SV h5;unfold sM;rw[e,e'];have hc':c.toNat=0∨c.toNat=1∨c.toNat=2∨c.toNat=3:=Yd
 have ht':t.toNat=0∨t.toNat=1∨t.toNat=2∨t.toNat=3:=Yd
 rcases hc' with h|h|h|h<;>rcases ht' with h'|h'|h'|h'<;>rw[h,h']<;>exact⟨C,λ_=>C⟩
theorem Xca{s:Sc}{l:bQ}(h:((!(decide (nR s.ch l.chair≠0)==decide (l.kind=2)))||(!(decide (nR s.tk l.token≠0)==decide (l.kind=2))))=true):kN s l=false:=by
 unfold kN
 revert h
 generalize decide (nR s.ch l.chair≠0)=a,decide (nR s.tk l.token≠0)=c,decide (l.kind=2)=e;cases a<;>cases c<;>cases e<;>decide
theorem UY{s:Sc}{l:bQ}(h:((!(decide (nR s.ch l.chair≠0)==decide (l.kind=2)))||(!(decide (nR s.tk l.token≠0)==decide (l.kind=2))))=false):kN s l=true:=by
 unfold kN
 revert h
 generalize decide (nR s.ch l.chair≠0)=a,decide (nR s.tk l.token≠0)=c,decide (l.kind=2)=e;cases a<;>cases c<;>cases e<;>decide
theorem Xbi{b:aU}{s:Sc}{i:Int}{l:bQ}(h:kN s l=false):Value.tuple #[.agg (ints (sM s)).toArray,.bool false]=.tuple #[aCG (if kN s l=true then eP b s i l else s),.bool (kN s l)]:=by rw[h];rfl
theorem VE{b:aU}{s:Sc}{i:Int}{l:bQ}{w_:List Int}(h:kN s l=true)(hL:w_=sM (eP b s i l)):Value.tuple #[.agg (ints w_).toArray,.bool true]=.tuple #[aCG (if kN s l=true then eP b s i l else s),.bool (kN s l)]:=by rw[h,hL];rfl
theorem OX{b:aU}{s:Sc}{i:Int}{l:bQ}{w_:List Int}(h4:s.ch.length=4)(h5:s.tk.length=4)(hc:0≤l.chair∧l.chair<4)(ht:0≤l.token∧l.token<4)(hk:l.kind=2)
  (h:(nR s.ch l.chair≠nR s.tk l.token∧w_=(sM s).set 9 (s.mixed+1))∨(nR s.ch l.chair=nR s.tk l.token∧w_=sM s)):((w_.set l.chair.toNat 0).set (4+l.token.toNat) 0).set 8 (s.money-b.coin)=sM (eP b s i l):=by
 obtain⟨g1,g2⟩:=Um h4 h5 hc ht 0 0 (s.money-b.coin);unfold eP;rw[zo hk];rcases h with⟨e,rfl⟩|⟨e,rfl⟩
 ·rw[g2,zo e]
 ·rw[g1,zv (by rw[e];simp)]
theorem Bn{b:aU}{s:Sc}{i:Int}{l:bQ}(h4:s.ch.length=4)(h5:s.tk.length=4)(hc:0≤l.chair∧l.chair<4)(ht:0≤l.token∧l.token<4)(hk:l.kind≠2):
  (((sM s).set l.chair.toNat (i+1)).set (4+l.token.toNat) (i+1)).set 8 (s.money+b.coin)=sM (eP b s i l):=by
 rw[(Um h4 h5 hc ht (i+1) (i+1) (s.money+b.coin)).1];unfold eP;rw[zv hk]
theorem GW(bv:Γ)(b:aU)(s:Sc)(i:Int)(l:bQ)(D:aC)(hb:eT D bv b)(h4:s.ch.length=4)(h5:s.tk.length=4)(hc:0≤l.chair∧l.chair<4)(ht:0≤l.token∧l.token<4)(hi:0≤i∧i≤100)(hm: -100000≤s.money∧s.money≤100000)(hx:0≤s.mixed∧s.mixed≤1000)(hn:0≤b.coin∧b.coin≤99):
  Fn prog 213 #[bv,aCG s,qI i,HK l] D (λ_ v=>v=.tuple #[aCG (if kN s l=true then eP b s i l else s),.bool (kN s l)]):=by
 obtain⟨lv,cv,rfl,hl,hcn⟩:=hb;have hs10:=X9 h4 h5;refine Zx 83 func213 C λh0=>aA<|Zac C λq1 E1 Y R=>JK C (e:=161) C C C zy λq2=>Zac C λU E3 Z I=>Zag C xW C λq4=>Zf C<|aJ<|Zj C CY C<|Zh 0 C aH C I C<|Zas C<|Zf C ?_;refine bD<|Zj C tC C<|Zh 1 C aH C I C<|Zj C wA C<|fH C U159 aI C C Yd Yd C zy<|bG (v:=qI (nR s.ch l.chair)) C aH C zi (Pq h4 hc) n4 C zy<|Za0 C<|Za C<|CR C U4 C C C zy<|Za C ?_;refine' dU 9 (s:=22) (p:=31) C (λV=>?_) (λV=>?_) ?_;rotate_left
 ·refine Zk C pA C<|Zi 2 C aH C I C<|Zk C wG C<|fH C U159 aI C C Yd Yd C ⟨_,C,C⟩<|bG (v:=qI (nR s.tk l.token)) C aH C zi (Oz h4 h5 ht) n4 C ⟨_,C,C⟩<|KD C C C C ⟨_,C,C⟩<|Zb C<|CR C U4 C C C ⟨_,C,C⟩<|Zan C ?_;exact aQ 8
 ·refine oh ?_;exact aQ 8
 refine aE<|Zai C (λhc1=>?_) λhc1=>?_
 ·refine aA<|gd ?_;exact Zp [_,_] C ⟨⟨_,_,_,C,zu,Or.inr ⟨lF,iy,C⟩⟩,C,zy⟩ λD hD=>Xbi (Xca hc1)
 ·have hcan:kN s l=true:=UY hc1;refine aP<|bL<|Za C<|aE<|Zae C (λhc2=>?_) (λhc2=>?_)
  ·have O:l.kind=2:=wm
   refine Za6<|Za6<|bK [] 4 11 996<|Zj C tC C<|Zh 1 C aH C I C<|Zj C wA C<|fH C U159 aI C C Yd Yd C zy<|bG (v:=qI (nR s.ch l.chair)) C aH C zi (Pq h4 hc) n4 C zy<|Zj C pA C<|Zh 2 C aH C I C<|Zj C wG C<|fH C U159 aI C C Yd Yd C zy ?_;refine bG (v:=qI (nR s.tk l.token)) C aH C zi (Oz h4 h5 ht) n4 C zy<|Za0 C<|aE<|Zae C (λhc3=>?_) λhc3=>?_
   ·refine aM<|Zj C CN C<|bG (v:=qI s.mixed) C aH C zi (dA (ZE h4 h5)) n4 C zy<|Zaf C<|Zj C CN C<|zY (k:=9) C aI C C (.tail ζ) rq zy<|bX<|fS (dI.mk [U]) 2 [0,1,2,3,4,5,7,6,8,9] [false,false,true,true,true,true,true,true,false,false] [(false,0),(false,1),(true,2),(true,3),(true,4),(true,5),(true,7),(true,6),(false,8),(false,9)] aV (λ_ _ _ h=>eA (P:=prog) (fn:=f213) _ _ _ h) Yg C<|Zj C tC C<|eE C (k:=1) aH C I Yc C (dI.out Yf) C zy<|Zj C pA C<|eE C (k:=2) aH C I Yc C (dI.out Yf) C zy ?_;refine Zj C wA C<|fH C U159 aI C C Yd Yd C zy<|Zj C wG C<|lO I Yf λhap=>wB (k:=l.chair.toNat) C aI (zD Yd) C (.tail ζ) rq (zt (dI.in_ mc)) zy<|fH C U159 aI C C Yd Yd C zy<|lO I Yf λhap=>wB (k:=4+l.token.toNat) C aI (zD Yd) C (.tail ζ) rq (zt (dI.in_ mc)) zy<|aJ<|Zj C rI C<|bG (v:=qI s.money) C aH C zi (dA eu) n4 C zy<|Zj C S7 C ?_;refine Zh 1 C aH C R C<|Zax C<|Zj C rI C<|zY (k:=8) C aI C C (.tail ζ) rq zy<|aJ<|gd ?_
    exact Zp [_,_] C ⟨⟨_,_,_,C,zu,zt ⟨lF,iy,C⟩⟩,C,zy⟩ λD hD=>VE hcan (OX h4 h5 hc ht O (zq ⟨ua,C⟩))
   ·refine aP<|Za6<|fS (dI.mk [U]) 2 [0,1,2,3,4,5,7,6,8,9] [false,false,true,true,true,true,true,true,false,false] [(false,0),(false,1),(true,2),(true,3),(true,4),(true,5),(true,7),(true,6),(false,8),(false,9)] aV (λ_ _ _ h=>eA (P:=prog) (fn:=f213) _ _ _ h) Yg C<|Zj C tC C<|eE C (k:=1) aH C I Yc C (dI.out Yf) C zy<|Zj C pA C<|eE C (k:=2) aH C I Yc C (dI.out Yf) C zy<|Zj C wA C<|fH C U159 aI C C Yd Yd C zy<|Zj C wG C<|lO I Yf λhap=>wB (k:=l.chair.toNat) C aI (zD Yd) C (.tail ζ) rq (zt (dI.in_ mc)) zy ?_;refine fH C U159 aI C C Yd Yd C zy<|lO I Yf λhap=>wB (k:=4+l.token.toNat) C aI (zD Yd) C (.tail ζ) rq (zt (dI.in_ mc)) zy<|aJ<|Zj C rI C<|bG (v:=qI s.money) C aH C zi (dA eu) n4 C zy<|Zj C S7 C<|Zh 1 C aH C R C<|Zax C<|Zj C rI C<|zY (k:=8) C aI C C (.tail ζ) rq zy<|aJ ?_;refine gd ?_
    exact Zp [_,_] C ⟨⟨_,_,_,C,zu,zt ⟨lF,iy,C⟩⟩,C,zy⟩ λD hD=>VE hcan (OX h4 h5 hc ht O (zt ⟨ua,C⟩))
  ·have O:l.kind≠2:=wm
   refine aP<|Za6<|fS (dI.mk [U]) 2 [0,1,2,3,4,5,6,7,8,9,11,10,12,13] [false,false,true,true,true,true,true,true,true,true,true,true,false,false] [(false,0),(false,1),(true,2),(true,3),(true,4),(true,5),(true,6),(true,7),(true,8),(true,9),(true,11),(true,10),(false,12),(false,13)] aV (λ_ _ _ h=>eA (P:=prog) (fn:=f213) _ _ _ h) Yg C<|Zj C tC C<|eE C (k:=1) aH C I Yc C (dI.out Yf) C zy<|Zj C pA C<|eE C (k:=2) aH C I Yc C (dI.out Yf) C zy<|Za C<|Zaf C<|Za C<|Zaf C<|Zj C wA C ?_;refine fH C U159 aI C C Yd Yd C zy<|Zj C wG C<|lO I Yf λhap=>wB (k:=l.chair.toNat) C aI (zD Yd) C (.tail ζ) rq (zt (dI.in_ mc)) zy<|fH C U159 aI C C Yd Yd C zy<|lO I Yf λhap=>wB (k:=4+l.token.toNat) C aI (zD Yd) C (.tail ζ) rq (zt (dI.in_ mc)) zy<|aJ<|Zj C rI C<|bG (v:=qI s.money) C aH C zi (dA eu) n4 C zy<|Zj C S7 C<|Zh 1 C aH C R C ?_;refine Zaf C<|Zj C rI C<|zY (k:=8) C aI C C (.tail ζ) rq zy<|aJ<|bN (e:=161) (fz:=(0,0)) C lF C zi al n4 C zy<|fG C C C C eG (by simp[hs10]) xa .head (dZ _) zy<|Wd ?_
   exact Zp [_,_] C ⟨⟨_,_,_,C,zu,zt ⟨lF,iy,C⟩⟩,C,zy⟩ λD hD=>VE hcan (Bn h4 h5 hc ht O)
theorem Ol(c:Cn)(ba bs:Nat)(a:Int)(s:Sc)(D:aC)(h4:s.ch.length=4)(h5:s.tk.length=4)(hA:At D ba 0 [qI a])(hS:At D bs 0 (ints (sM s))):
  Fn prog 294 #[nf c,qP ba,qP bs] D (λ_ v=>v=.bool (decide (c.after≠a)||C1.gF s.money c.lo c.hi)):=by
 refine Zx 16 func294 C λh0=>aA<|Zac C λV E1 R I=>Zf C<|aJ<|Zj C X5 C<|Zh 0 C aH C I C<|Zh 0 C aH C hA C<|Za0 C<|Za C ?_;refine' dU 6 (s:=9) (p:=15) C (λO=>?_) (λO=>?_) ?_;rotate_left
 ·refine Zk C CA C<|sL C (k:=1) qO eY C I Yc C C n4 C ⟨_,C,C⟩<|Zk C rI C<|eE (v:=qI s.money) C (k:=8) aH C hS Yc (dA (O5 h4 h5)) n4 C ⟨_,C,C⟩<|Ze C (λY U=>Yaz (c.lo,c.hi) _ _)<|Zan C ?_;exact aQ 5
 ·refine Zg C<|Wf ?_;exact aQ 5
 refine Wd ?_;exact aD C λD hD=>C
theorem IJ(bv:Γ)(b:aU)(s:Sc)(a:Int)(D:aC)(hb:eT D bv b)(h4:s.ch.length=4)(h5:s.tk.length=4):Fn prog 212 #[bv,aCG s,qI a] D (λ_ v=>v=.bool (fP b s a)):=by
 obtain⟨lv,cv,rfl,hl,hc⟩:=hb;refine Zx 11 func212 C λh0=>aA<|Zac C λq1 E1 V O=>Zac C λq2 E2 Y R=>Zac C λq3 E3 Z U=>Zf C<|aJ<|Zj C xJ C<|Zh 4 C IQ C O C<|Za1 C<|Zd C (λD1 I=>Sy _ _ _ (λc=>decide (c.after≠a)||C1.gF s.money c.lo c.hi) _ (Sl.at wQ.up I Yn Yf) ⟨_,[],[_,_],C,λc D2 hl=>Ol c _ _ a s D2 h4 h5 (U.up ((I _ Yf).trans hl)) (R.up ((I _ Yf).trans hl))⟩ C)<|Zf C ?_;refine aG ?_;exact aD C λD hD=>C
theorem zS(bv:Γ)(b:aU)(D:aC)(hb:eT D bv b):Fn prog 177 #[bv] D (λ_ v=>v=aCG (fA b)):=by
 obtain⟨lv,cv,rfl,hl,hc⟩:=hb;refine Zx 6 func177 C λh0=>aA<|Zac C λR E1 O I=>Zag C xW C λU=>aJ<|Zj C JL C<|Zh 2 C aH C I C<|Zw [qI 0,qI 0,qI 0,qI 0,qI 0,qI 0,qI 0,qI 0,qI b.box,qI 0] C Xdj xW C<|Zaa C eG ζ<|aG ?_;exact Zp [_] C ⟨⟨_,_,_,C,zu,Or.inr ⟨lF,(by first|exact eG|(simp only[wd,aL, *];exact eG)),C⟩⟩,zy⟩ λD hD=>C
structure tu(b:aU):Prop where
 ch:1≤b.chairs∧b.chairs≤4
 co:1≤b.coin∧b.coin≤99
 bx:0≤b.box∧b.box≤999
 l8:b.lines.length≤8
 c4:b.counts.length≤4
 ln:∀l∈b.lines,sH b.chairs l=true
theorem jv{b:aU}(h:aW b=0):tu b:=by
 unfold aW at h;split at h
 ·omega
 ·rename_i h1;split at h
  ·omega
  ·rename_i h2;have h3:uL b=true:=rt
   unfold uL at h3;simp only[zl,C1.bH,yu]at h3;exact⟨h3.1.1.1.1,h3.1.1.1.2,h3.1.1.2,Yd,Yd,h3.1.2⟩
def zO(b:aU)(t:List bQ):Nat→Sc
 |0=>fA b
 |k+1=>match t[k]? with
  |some l=>eP b (zO b t k) k l
  |none=>zO b t k
def gU(l:List Sc):List Γ:=l.flatMap λs=>ints (sM s)
structure jt(b:aU)(s:Sc)(k:Nat):Prop where
 lc:s.ch.length=4
 lt:s.tk.length=4
 mo:b.box-99*(k:Int)≤s.money∧s.money≤b.box+99*(k:Int)
 mi:0≤s.mixed∧s.mixed≤k
theorem Qm{b:aU}(hb:tu b){s:Sc}{k:Nat}(h:jt b s k)(l:bQ)(i:Int):jt b (eP b s i l) (k+1):=by
 have:=hb.co;have:=h.mo;have:=h.mi;unfold eP;split
 ·refine⟨by simp[h.lc],by simp[h.lt],?_,?_⟩
  ·simp only;push_cast;omega
  ·simp only;split<;>push_cast<;>omega
 ·refine⟨by simp[h.lc],by simp[h.lt],?_,?_⟩
  ·simp only;push_cast;omega
  ·simp only;push_cast;omega
theorem m3{l:List Sc}(h:∀s∈l,(sM s).length=10){i:Nat}{s:Sc}(hi:l[i]?= some s):((gU l).drop (i*10)).take 10=ints (sM s):=by
 induction l generalizing i with
 |nil=>simp at hi
 |cons u l ih=>
  have hu:(ints (sM u)).length=10:=by rw[aL,h u zj]
  have e:gU (u::l)=ints (sM u)++gU l:=rfl;rw[e];cases i with
  |zero=>
   obtain rfl:u=s:=wy
   rw[ug,sk,vg Yd,ww Yd]
  |succ i=>
   rw[rd,wl Yd,ya,hu,show(i+1)*10-10=i*10 by omega];exact ih (λt ht=>h t (GT _ ht)) wy
theorem WE{b:aU}{t:List bQ}{k:Nat}{x:bQ}(hx:t[k]?= some x):eP b (zO b t k) k x=zO b t (k+1):=by rw[zO,hx]
theorem HJ(b:aU)(t:List bQ)(j:Nat):(zO b t j).ch.length=4∧(zO b t j).tk.length=4:=by
 induction j with
 |zero=>exact⟨C,C⟩
 |succ j ih=>
  rw[zO];split
  ·unfold eP;split<;>simp[ih.1,ih.2]
  ·exact ih
def t8(l:List Int)(k:Nat):List Int:=(List.range 4).map λj=>if j<k then min (l.getD j 0) 1 else 0
theorem Bz{l:List Int}{k:Nat}{x:Int}(hx:l[k]?= some x):(t8 l k).set k (min x 1)=t8 l (k+1):=by
 apply List.ext_getElem?;intro i;unfold t8;rw[List.getElem?_set,xt,xt];simp only[yh,vz];by_cases hi:i<4
 ·rw[rf hi];simp only[xo];by_cases e:k=i
  ·subst e;rw[zo C,zo hi,zo Yd,wi,hx];rfl
  ·rw[zv e];by_cases h:i<k
   ·rw[zo h,zo Yd]
   ·rw[zv h,zv Yd]
 ·rw[tq wy];by_cases e:k=i
  ·subst e;rw[zo C,zv hi];rfl
  ·rw[zv e];rfl
theorem aBZ{l:List Int}(h:l.length=4):t8 l 4=N4 l:=by
 obtain⟨a,b,c,d,rfl⟩:=SV h;rfl
theorem IR(l:List Int)(D:aC)(h4:l.length=4):Fn prog 243 #[.agg (ints l).toArray] D (λ_ v=>v=.agg (ints (N4 l)).toArray):=by
 refine Zx 17 func243 C (λh0=>aA<|Zac C λq1 E1 Z R=>Zag C aCB C λq2=>bD<|cQ C vA C R Yo (by rw[show(ints _).length=4 by simp[h4]];exact qE) n4 C zy<|Za C<|aE<|Za4<|fE (γ:=Nat) (λk=>4-k) (λk=>k≤4) (λk=>[(6,qI (k:Int))]) [(5,_),(2,_)] (λk=>[(q2,qC (ints (t8 l k)) 159)]) (λk=>[E1,D]) 0 Yd ⟨Ya,zy⟩ cE zp (aN) ?_);rintro k h1;refine aA<|Zal C<|bX<|Zae C (λhc1=>?_) λhc1=>?_
 ·have hk:k<4:=Yd
  obtain⟨x,hx0⟩:=cF l k;have hx:l[((k:Nat):Int).toNat]?= some x:=by simpa using hx0
  have hstep:=Bz hx0;refine aP<|Za6<|Za4<|aA<|Za C<|JA (l:=l) C U159 aH aI C C Yd Yd hx C zy<|Zf C<|Zf C<|aE<|aM<|ub ?_;refine Zu C U35 aI cN C (.cons C C (.cons C C .nil)) λY D901 U I=>?_;have O:=Sl.ofInts (l:=[_,_]) (n:=2) (cap:=2) I C Yd Yd;refine Zd C (λD1 V=>R8 _ x [1] _ (O.up RI.up (V _ Yf)))<|fH C U159 aI C C Yd Yd C zy<|zY (k:=k) C aI (zD Yd) C .head (by simp[t8];omega) zy ?_
  rw[show(t8 l k).set k (List.foldl min x [1])=t8 l (k+1)from hstep];refine Zap<|Wc ?_;exact aK 13 (k+1) Yd Yd ⟨Ya,zy⟩ C C zp λD h=>⟨D,zb _ (h),Le.refl D⟩
 ·obtain rfl:k=4:=Yd
  refine Za9<|Za5<|Za5<|Zba<|Za2<|aA<|bN (e:=159) (fz:=(0,0)) C vA C zu (by rw[show(ints _).length=4 by simp[t8]];exact qE) n4 C zy<|fG C C C C qE (by simp[t8]) (by simp[t8]) .head (dZ _) zy<|aG ?_;exact Zp [_] C ⟨⟨_,_,_,C,zu,Or.inr ⟨vA,(by rw[show(ints _).toArray.size=4 by simp[t8]];exact qE),C⟩⟩,zy⟩ λD hD=>by show Value.agg _=_;rw[aBZ h4]
theorem Xaa:KS prog 383 9:=by
 have hf:(prog.fieldsOf 383).toList=[(prog.fieldsOf 383)[0]!,(prog.fieldsOf 383)[1]!,(prog.fieldsOf 383)[2]!]:=Yg
 refine⟨Yg,Yg,Yg,?_⟩;rw[hf];refine .cons (Q1.int xh Yg Yg) (.cons (n:=4) (Q1.arr (e:=3) xh Yg Yg Yg Yg ?_ ?_) (.cons (n:=4) (Q1.arr (e:=3) xh Yg Yg Yg Yg ?_ ?_) .nil))
 ·rw[show((prog.fieldsOf 383)[1]!).type=159 by kernel_rfl];exact vA
 ·rw[show((prog.fieldsOf 383)[1]!).type=159 by kernel_rfl];exact qE
 ·rw[show((prog.fieldsOf 383)[2]!).type=159 by kernel_rfl];exact vA
 ·rw[show((prog.fieldsOf 383)[2]!).type=159 by kernel_rfl];exact qE
theorem Xck:KM prog 383 4:=⟨(prog.fieldsOf 383)[0]!,(prog.fieldsOf 383)[1]!,(prog.fieldsOf 383)[2]!,3,Yg,Yg,xh,xh,xh,Yg,Yg,Yg,Yg,Yg,Yg,Yg,
 by rw[show((prog.fieldsOf 383)[1]!).type=159 by kernel_rfl];exact vA,by rw[show((prog.fieldsOf 383)[1]!).type=159 by kernel_rfl];exact qE,by rw[show((prog.fieldsOf 383)[2]!).type=159 by kernel_rfl];exact vA,by rw[show((prog.fieldsOf 383)[2]!).type=159 by kernel_rfl];exact qE,aI⟩
theorem da:MF prog 383 (ET (n:=9)):=KM.key Xck Xaa
end L3
namespace L3
open L1
section
variable{P:Program}{X:Cx}{γb:Type}[Membership Nat γb]{H:γb}{G:Array Oper}{K:Act→Δ→Prop}{Q:Exit→Act→Δ→Prop}
variable{T:bZ}{L:aF}{W:List aC}{os:List (Bool×Nat)}
theorem cm(k:(L.map λp=>p.1).Nodup→WL P X H G K Q os T L W):WL P X H G K Q os T L W:=λa w hh=>by
 obtain⟨_,_,_,D,hs,_⟩:=id hh;exact k hs.nd a w hh
end
theorem Wch{w V I O:Nat}{o U:Obj}{R:aF}(h1:w∉aF.ks ((O,o)::(I,U)::R))(h2:V∉aF.ks ((O,o)::(I,U)::R))(h3:(((O,o)::(I,U)::R).map λp=>p.1).Nodup):O∉[w,V,I]:=by
 simp only[yl,xg,zm,wn]at h1 h2 h3;intro h;simp only[zm,n4,yk]at h;rcases h with rfl|rfl|rfl
 ·exact h1.1 C
 ·exact h2.1 C
 ·exact h3.1.1 C
open C3
def FL(b:aU)(Mm:List (zA 9×Bool)):Prop:=∀p∈Mm,∀(i:Nat) (s:Sc),CO b s→sy s→s.ch.length=4→p.1.l=jy s i→p.2=oF b (b.lines.drop i) i s
theorem FL.nil{b:aU}:FL b []:=λp hp=>by cases hp
theorem FL.add{b:aU}{Mm M':List (zA 9×Bool)}{i:Nat}{s:Sc}{a:zA 9}{r:Bool}(h:FL b Mm)(hm:∀p∈M',p∈Mm∨p=(a,r))(ha:a.l=jy s i)(hi:CO b s)(hp:sy s)(h4:s.ch.length=4)(hr:r=oF b (b.lines.drop i) i s):FL b M':=by
 intro p hp' i' s' hi' hps' h4' he;rcases hm p hp' with h1|h1
 ·exact h p h1 i' s' hi' hps' h4' he
 ·subst h1;simp only at he ⊢
  rw[ha]at he;obtain⟨I,O⟩:=Bq (ls:=b.lines.drop i) he hi hi' hp hps' h4 h4';rw[hr,←I];exact O.trans (by rw[←I])
theorem UO{a c d:Γ}{lv cv lv' cv':Γ}(h:Value.agg #[a,c,d,lv,cv]=.agg #[a,c,d,lv',cv']):lv=lv'∧cv=cv':=by
 simp at h;exact h
theorem Yab{b:aU}{ls:List bQ}{i:Nat}{s:Sc}(h:fP b s i=false):oF b ls i s=false:=by
 cases ls with
 |nil=>exact h
 |cons l ls=>unfold oF;rw[h];rfl
theorem Ds{b:aU}{i:Nat}{s:Sc}(h:fP b s i=true)(hi:(i:Int)=(b.lines.length:Int)):oF b (b.lines.drop i) i s=true:=by
 rw[wl Yd];exact h
def nh(b:aU)(i:Nat)(s:Sc)(r:bQ):Bool:=kN s r&&oF b (b.lines.drop (i+1)) (i+1) (eP b s i r)
theorem Xbn{b:aU}{i:Nat}{s:Sc}{r:bQ}(h:kN s r=true):oF b (b.lines.drop (i+1)) (i+1) (eP b s i r)=nh b i s r:=by unfold nh;rw[h];rfl
theorem Wbm{b:aU}{i:Nat}{s:Sc}{r:bQ}(h:kN s r=false):false=nh b i s r:=by unfold nh;rw[h];rfl
theorem du{b:aU}{s:Sc}{i:Int}{r:bQ}(h4:s.ch.length=4)(h5:s.tk.length=4):(sM (eP b s i r)).length=10:=by
 unfold eP;split
 ·exact X9 (by simp[h4]) (by simp[h5])
 ·exact X9 (by simp[h4]) (by simp[h5])
theorem gy{mb cl:Nat}{es:Array MapEntry}:∀p∈[(mb,Obj.map es cl)],dH p.2:=by
 intro p hp;simp only[zm,n4,yk]at hp;subst hp;trivial
set_option maxHeartbeats 1000000 in
theorem QL{b:aU}{bv lv cv:Γ}{wb mb:Nat}(hbo:tu b)(hbv:bv=.agg #[qI b.chairs,qI b.coin,qI b.box,lv,cv]):
  ∀(j i:Nat) (s:Sc) (es:Array MapEntry) (cl:Nat) (Mm:List (zA 9×Bool)) (D:aC),i+j=b.lines.length→jt b s i→sy s→CO b s→Y7 ET Value.bool es Mm→FL b Mm→eT D bv b→At D wb 0 [qI b.chairs,qI b.coin,qI b.box,lv,cv,.map (some mb)]→
  LX prog 176 [qP wb,aCG s,qI (i:Int)] D [(mb,.map es cl)] (λ_ v ν'=>v=.bool (oF b (b.lines.drop i) i s)∧∃es' cl' M',ν'=[(mb,.map es' cl')]∧Y7 ET Value.bool es' M'∧FL b M'):=by
 subst hbv;intro j;induction j using Nat.strongRecOn with
 |_ j ih=>
 intro i s es cl Mm D hij hsb hsp hsi hM hok hb0 hA;obtain⟨ch,tk,mo,mi⟩:=s;obtain⟨c0,c1,c2,c3,rfl⟩:=SV hsb.lc;obtain⟨k0,k1,k2,k3,rfl⟩:=SV hsb.lt;have hb:=hb0;obtain⟨lv',cv',he,hl,hc⟩:=hb;obtain⟨rfl,rfl⟩:=UO he;have hl8:=hbo.l8;have hch:=hbo.ch;have hco:=hbo.co;have hbx:=hbo.bx;have hmo:=hsb.mo;have hmi:=hsb.mi;simp only at hmo hmi;show LX _ _ [qP wb,.agg #[qI c0,qI c1,qI c2,qI c3,qI k0,qI k1,qI k2,qI k3,qI mo,qI mi],qI (i:Int)] _ _ _;refine jR 94 func176 C C C C λh0 hwl hwn=>aA<|Zac C λq1 E1 hE1 hB1=>Zf C<|bX<|Za6<|bK [] 5 8 48<|Za C<|Zao C<|Zj C A7 C<|Zaq 0 C gW fU C hA C<|Zv C lF C hB1 eG ?_;refine Za C<|Zd C (λD1 hD1=>IJ _ b (⟨[c0,c1,c2,c3],[k0,k1,k2,k3],mo,mi⟩:Sc) i _ (hb0.up (hD1 _ Yf)) C C)<|Zav C<|aE<|Zai C (λhc1=>?_) λhc1=>?_
 ·refine aA<|Wi ?_;exact Zak [] [] [_] [_] C ⟨C,zy⟩ C λD' hD=>⟨zn Value.bool (Yab xe).symm,es,cl,Mm,C,hM,hok⟩
 ·have hcd:fP b (⟨[c0,c1,c2,c3],[k0,k1,k2,k3],mo,mi⟩:Sc) i=true:=xe
  refine aP<|bL<|Za C<|Za C<|Zao C<|Zj C A7 C<|Zj C dX C<|Zh 3 C iK C hA C<|Zaj C U80 C hl C<|Zas C<|aE<|Zae C (λhc2=>?_) λhc2=>?_
  ·refine aA<|Wi ?_;exact Zak [] [] [_] [_] C ⟨C,zy⟩ C λD' hD=>⟨zn Value.bool (Ds hcd hc2).symm,es,cl,Mm,C,hM,hok⟩
  ·have hil:i<b.lines.length:=Yd
   obtain⟨z,hz⟩:=cF b.lines i;have hdr:b.lines.drop i=z::b.lines.drop (i+1):=by rw[xc hil];congr 1;exact yi ((yz hil).symm.trans hz)
   refine aP<|Za6<|pY [] 3 [false,true,true,true,true,true,true,false,true,false] [.fork [0,1,2,4,5] 3 (.fork [] 6 (.fin [7,8]) 8 (.fin [6,7])) 8 (.fin [3,6,7]),.fin [9]] aV (λ_ _ _ h=>kQ (P:=prog) (fn:=f176) _ _ _ h) Yg ?_;apply BX (γ:=Nat) (λ_=>True) _ _ _ [.fork [0,1,2,4,5] 3 (.fork [] 6 (.fin [7,8]) 8 (.fin [6,7])) 8 (.fin [3,6,7])] [.fin [9]] C
   ·refine uG<|bS [(false,0),(true,1),(true,2),(true,4),(true,5)] C<|Za C<|Zj C wA C<|Zaq 0 C vA qE C hB1 C<|Zj C wG C<|Zaq 4 C vA qE C hB1 C<|Zap (eB true true C C ?_ ?_)
    ·refine Zd C (λD2 hD2=>IR [c0,c1,c2,c3] _ C)<|Zap<|bS [] C<|Zap (eB true true C C ?_ ?_)
     ·refine Zd C (λD3 hD3=>IR [k0,k1,k2,k3] _ C)<|Zap<|aY [(false,7),(true,8)] C<|lJ (cs:=[qI (i:Int),qI (min c0 1),qI (min c1 1),qI (min c2 1),qI (min c3 1),qI (min k0 1),qI (min k1 1),qI (min k2 1),qI (min k3 1)]) C TV V4 C Yg C zy<|Zag C V4 C λq2=>Zap ?_;exact λa w hh=>⟨q2,zy,hh⟩
     ·refine Zag C V4 C λq2=>Zap<|aY [(true,6),(false,7)] C<|bg ?_;exact λa w hh=>⟨q2,zy,hh.weak cE zp aN⟩
    ·refine Zag C V4 C λq2=>Zap<|aY [(true,3),(true,6),(false,7)] C<|Zd C (λD2 hD2=>IR [c0,c1,c2,c3] _ C)<|bg ?_;exact λa w hh=>⟨q2,zy,hh.weak cE zp aN⟩
   rintro q2 -;refine pC [(false,9)] C<|Zaa C GU ζ<|Zap<|qW<|Za2<|Za6<|bK [] 6 11 784<|Za C<|Zao C<|Zj C BY C<|Zh 5 C SY C hA C<|Zah C VC C zu GU ?_;refine NW (val:=ET (n:=9)) (wal:=Value.bool) (a:=⟨[(i:Int),min c0 1,min c1 1,min c2 1,min c3 1,min k0 1,min k1 1,min k2 1,min k3 1],C⟩) C U305 da rJ C C zi n4 hM C zy λnv ok hin hout=>Za C<|Zar C<|Zar C<|Zf C<|Zf C<|bD<|Za C<|aE<|Zai C (λhc3=>?_) λhc3=>?_
   ·obtain⟨r,rfl,hmem⟩:=hin hc3;refine aA<|Za C<|Wi ?_;exact Zak [(_,_)] [] [_] [_] C ⟨C,zy⟩ C λD' hD=>⟨zn Value.bool (hok _ hmem i (⟨[c0,c1,c2,c3],[k0,k1,k2,k3],mo,mi⟩:Sc) hsi hsp C C),es,cl,Mm,C,hM,hok⟩
   ·obtain rfl:=hout hc3;refine aP<|Za6<|Za6<|fS [] 3 [0,1,2,3,4,5,6,7,8,9,10,11,14,12,13] [false,false,false,false,true,true,true,true,true,true,true,true,true,true,true] [(false,0),(false,1),(false,2),(false,3),(true,4),(true,5),(true,6),(true,7),(true,8),(true,9),(true,10),(true,11),(true,14),(true,12),(true,13)] aV (λ_ _ _ h=>kQ (P:=prog) (fn:=f176) _ _ _ h) Yg C<|Za C<|Zao C<|Zj C A7 C<|Zaq 0 C gW fU C hA C<|Za C<|Zao C<|Zj C A7 C<|Zj C dX C ?_;refine Zh 3 C iK C hA C<|Za C<|Zy C U80 cT C hl C hz λb1 o1 cs1 hr1 hcl1 hA1=>?_;obtain rfl:cs1=[qI _,qI _,qI _]:=hr1;refine Zv C oX C hA1 cT<|Za C<|Zz C (λD4 hD4=>O9 _ b z _ (hb0.up (hD4 _ Yf)) Yd) λv4 D4 hD4 hp4=>?_;have hr:=hp4;have hrl:=hr.len;refine eQ C U80 C Yn C C zy<|aE<|Za4<|Zc (Nat×Array MapEntry×Nat×List (zA 9×Bool)) (λg=>(cJ b.chairs z).length-g.1) (λg=>g.1≤(cJ b.chairs z).length∧((cJ b.chairs z).take g.1).any (λr=>nh b i (⟨[c0,c1,c2,c3],[k0,k1,k2,k3],mo,mi⟩:Sc) r)=false∧Y7 ET Value.bool g.2.1 g.2.2.2∧FL b g.2.2.2) (λg=>[(63,qI (g.1:Int)),(8,.bool false)]) [(62,_),(61,_),(7,_),(6,_),(4,_),(0,_),(2,_)] (λg=>[(q2,qC [qI (i:Int),qI (min c0 1),qI (min c1 1),qI (min c2 1),qI (min c3 1),qI (min k0 1),qI (min k1 1),qI (min k2 1),qI (min k3 1)] 383),(mb,.map g.2.1 g.2.2.1)]) (λg=>[D4,E1,D]) (0,es,cl,Mm) ⟨Yf,C,hM,hok⟩ ⟨Ya,Ya,zy⟩ zp ?_;rintro⟨k,es2,cl2,M2⟩ ⟨h1,hno,hM2,hok2⟩;simp only at h1 hno hM2 hok2;refine aA<|Zal C<|bX<|Zae C (λhc4=>?_) (λhc4=>?_)
    ·simp only at hc4;obtain⟨x,hx⟩:=cF (cJ b.chairs z) k;have hin:=((sC (hbo.ln z (GE hz))).1 (GE hx)).1;refine aP<|Za6<|Za4<|aA<|Zy C U80 cT C hr C hx λb2 o2 cs2 hr2 hcl2 hA2=>?_;obtain rfl:cs2=[qI _,qI _,qI _]:=hr2;refine Zv C oX C hA2 cT<|Zag C lI C λq3=>Zaa C cT ζ<|bX ?_;have hif:(sM (if kN (⟨[c0,c1,c2,c3],[k0,k1,k2,k3],mo,mi⟩:Sc) x=true then(eP b (⟨[c0,c1,c2,c3],[k0,k1,k2,k3],mo,mi⟩:Sc) i x)else(⟨[c0,c1,c2,c3],[k0,k1,k2,k3],mo,mi⟩:Sc))).length=10:=by split;exact du C C;rfl
     have hnl:(sM (eP b (⟨[c0,c1,c2,c3],[k0,k1,k2,k3],mo,mi⟩:Sc) i x)).length=10:=du C C;refine pY (dI.mk [wb,q1,q3]) 6 [false,false,false,false,true,true,true,true,false,false,true,true,true,false] [.fork [0,1,2,3,4,5,6] 7 (.fin [8,9,10,11]) 11 (.fin [7,8,9,10]),.fin [12,13]] aV (λ_ _ _ h=>kQ (P:=prog) (fn:=f176) _ _ _ h) Yg ?_;apply BX (γ:=Nat) (λ_=>True) _ _ _ [.fork [0,1,2,3,4,5,6] 7 (.fin [8,9,10,11]) 11 (.fin [7,8,9,10])] [.fin [12,13]] C
     ·refine uG<|bS [(false,0),(false,1),(false,2),(false,3),(true,4),(true,5),(true,6)] C<|Za C<|Zao C<|Zj C A7 C<|sL C (k:=0) gW fU C hA Yc C C (dI.out Yf) C zy<|cQ C lF C hB1 Yo eG (dI.out Yf) C zy<|Za C<|bN C oX C zu cT (dI.out Yf) C zy<|Zap (eB true true C C ?_ ?_)
      ·refine Zd C (λD5 hD5=>GW _ b (⟨[c0,c1,c2,c3],[k0,k1,k2,k3],mo,mi⟩:Sc) i x _ (hb0.up (hD5 _ Yf)) C C po po Yd (by show -100000≤mo∧mo≤100000;omega) (by show 0≤mi∧mi≤1000;omega) Yd)<|Zap<|aY [(false,8),(false,9),(true,10),(true,11)] C<|Za C<|Zar C<|Zar C<|Zag C xW C λq4=>Zap ?_;exact λa w hh=>⟨q4,zy,hh⟩
      ·refine Zag C xW C (λq4=>Zap<|aY [(true,7),(false,8),(false,9),(true,10)] C<|Zd C (λD5 hD5=>GW _ b (⟨[c0,c1,c2,c3],[k0,k1,k2,k3],mo,mi⟩:Sc) i x _ (hb0.up (hD5 _ Yf)) C C po po Yd (by show -100000≤mo∧mo≤100000;omega) (by show 0≤mi∧mi≤1000;omega) Yd)<|Za C<|Zar C<|Zar C<|Zap ?_);exact λa w hh=>⟨q4,zy,hh.weak cE zp aN⟩
     rintro q4 -;refine pC [(true,12),(false,13)] C<|lO hA Yf (λhap1=>lO hB1 Yf λhap2=>cm λhnd=>oE (off:=0) (us:=ints (sM (if kN (⟨[c0,c1,c2,c3],[k0,k1,k2,k3],mo,mi⟩:Sc) x=true then(eP b (⟨[c0,c1,c2,c3],[k0,k1,k2,k3],mo,mi⟩:Sc) i x)else(⟨[c0,c1,c2,c3],[k0,k1,k2,k3],mo,mi⟩:Sc)))) (ws:=ints (sM (if kN (⟨[c0,c1,c2,c3],[k0,k1,k2,k3],mo,mi⟩:Sc) x=true then(eP b (⟨[c0,c1,c2,c3],[k0,k1,k2,k3],mo,mi⟩:Sc) i x)else(⟨[c0,c1,c2,c3],[k0,k1,k2,k3],mo,mi⟩:Sc)))) C C C C (by rw[show(ints _).length=10 by simp[hif]];exact eG) .head (by simp[hif]) (by simp[hif]) (dZ _) (zt (dI.in_ (Wch hap1 hap2 hnd))) zy<|Zf C<|Zap<|qW<|Za2<|aA<|ub ?_);refine Xcq (γ:=Bool×Array MapEntry×Nat×List (zA 9×Bool)) (λg=>g.1=nh b i (⟨[c0,c1,c2,c3],[k0,k1,k2,k3],mo,mi⟩:Sc) x∧Y7 ET Value.bool g.2.1 g.2.2.2∧FL b g.2.2.2) (λg=>g.1) (λg=>[(q4,qC (ints (sM (if kN (⟨[c0,c1,c2,c3],[k0,k1,k2,k3],mo,mi⟩:Sc) x=true then(eP b (⟨[c0,c1,c2,c3],[k0,k1,k2,k3],mo,mi⟩:Sc) i x)else(⟨[c0,c1,c2,c3],[k0,k1,k2,k3],mo,mi⟩:Sc)))) 161),(q3,qC [qI x.kind,qI x.chair,qI x.token] 298),(q2,qC [qI (i:Int),qI (min c0 1),qI (min c1 1),qI (min c2 1),qI (min c3 1),qI (min k0 1),qI (min k1 1),qI (min k2 1),qI (min k3 1)] 383),(mb,.map g.2.1 g.2.2.1)]) [(false,2),(false,3),(false,4),(false,5),(false,6),(false,7)] [] (s:=79) (p:=85) C C (λhg1=>?_) (λhg1=>?_) ?_
     ·have hgc:=hg1;rw[zo hgc];refine Zb C<|bN (e:=161) (fz:=(0,0)) C lF C zu (by rw[show(ints _).length=10 by simp[hnl]];exact eG) n4 C ⟨_,C,C⟩<|Zb C<|xN C C C Ye C ⟨_,C,C⟩<|bB ([(_,_),(_,_),(_,_)]++[(_,_)]++([])) C<|gP (A:=[(_,_),(_,_),(_,_)]) (ν:=[(_,_)]) (B:=[]) C C C C (zq C) gy (λD9 hD9=>ih (j-1) Yd (i+1) (eP b (⟨[c0,c1,c2,c3],[k0,k1,k2,k3],mo,mi⟩:Sc) i x) es2 cl2 M2 _ Yd (Qm hbo hsb x i) (KN hsp i x) (aBF hsi C hgc hin.2.1 (by have:=hin.2.2.1;omega)) hM2 hok2 (hb0.up (hD9 _ Yf)) (hA.up (hD9 _ Yf))) C ⟨_,C,C⟩ (λv9 D10 _ hD10 hp9=>?_)
      obtain⟨rfl,es3,cl3,M3,rfl,hM3,hok3⟩:=hp9;refine Zam C ?_;exact x7 λa w hh=>⟨(_,es3,cl3,M3),⟨Xbn Yn,hM3,hok3⟩,(hh.cutK 5 C).ds λ_ h=>zb _ (h)⟩
     ·refine Zg C<|vw ?_;exact x7 λa w hh=>⟨(false,es2,cl2,M2),⟨Wbm Yn,hM2,hok2⟩,hh.cutK 5 C⟩
     rintro⟨bm,es3,cl3,M3⟩ ⟨hbm,hM3,hok3⟩;simp only at hbm hM3 hok3;refine aE<|Zai C (λhc5=>?_) λhc5=>?_
     ·obtain rfl:bm=true:=hc5;have hres:true=oF b (b.lines.drop i) i (⟨[c0,c1,c2,c3],[k0,k1,k2,k3],mo,mi⟩:Sc):=by rw[hdr,oF,hcd,v_];exact(rx.2 ⟨x,GE hx,hbm.symm⟩).symm
      refine aA<|Zf C<|aE<|Za9<|yE C<|Za5<|Za5<|Zba<|Za2<|Za6<|bK [] 3 7 48<|Za C ?_;refine Zao C<|Zj C BY C<|Zh 5 C SY C hA C<|Zah C VC C xq GU<|Za C<|DF (val:=ET (n:=9)) (wal:=Value.bool) (A:=[(_,_),(_,_),(_,_)]) (B:=[]) (a:=⟨[(i:Int),min c0 1,min c1 1,min c2 1,min c3 1,min k0 1,min k1 1,min k2 1,min k3 1],C⟩) (n:=true) C U305 da C C C hM3 zy λes9 cl9 M9 hM9 hm9=>aJ<|Za C<|Wd ?_;exact Zak [(_,_),(_,_),(_,_)] [] [_] [_] C ⟨C,zy⟩ C λD' hD=>⟨zn Value.bool hres,es9,cl9,M9,C,hM9,hok3.add hm9 C hsi hsp C hres⟩
     ·obtain rfl:bm=false:=hc5;have hgo:nh b i (⟨[c0,c1,c2,c3],[k0,k1,k2,k3],mo,mi⟩:Sc) x=false:=hbm.symm;refine xi ?_;exact aK 24 (k+1,es3,cl3,M3) ⟨Yl,by simp only;rw[zg,hx,ui,hno];simp[hgo],hM3,hok3⟩ Yl ⟨Ya,Ya,zy⟩ C C (List.Sublist.cons _ (List.Sublist.cons _ zp)) (aN)
    ·obtain rfl:k=(cJ b.chairs z).length:=by simp only at hc4;omega
     rw[ym]at hno;have hres:false=oF b (b.lines.drop i) i (⟨[c0,c1,c2,c3],[k0,k1,k2,k3],mo,mi⟩:Sc):=by rw[hdr,oF,hcd];exact hno.symm
     refine Za9<|Za5<|Za5<|Zba<|Za2<|Za6<|bK [] 3 7 48<|Za C<|Zao C<|Zj C BY C<|Zh 5 C SY C hA C<|Zah C VC C zu GU ?_;refine Za C<|DF (val:=ET (n:=9)) (wal:=Value.bool) (A:=[(_,_)]) (B:=[]) (a:=⟨[(i:Int),min c0 1,min c1 1,min c2 1,min c3 1,min k0 1,min k1 1,min k2 1,min k3 1],C⟩) (n:=false) C U305 da C C C hM2 zy λes9 cl9 M9 hM9 hm9=>aJ<|Za C<|Wd ?_;exact Zak [(_,_)] [] [_] [_] C ⟨C,zy⟩ C λD' hD=>⟨zn Value.bool hres,es9,cl9,M9,C,hM9,hok2.add hm9 C hsi hsp C hres⟩
theorem GJ(b:aU):jt b (fA b) 0:=⟨C,C,by simp[fA],by simp[fA]⟩
theorem DD(b:aU):sy (fA b):=⟨λx hx=>by simp[fA]at hx;omega,λx hx=>by simp[fA]at hx;omega⟩
theorem FA(bv:Γ)(b:aU)(D:aC)(hb:eT D bv b)(hbo:tu b):Fn prog 105 #[bv] D (λ_ v=>v=.bool (decide (truths b≠[]))):=by
 have O:=hb;obtain⟨lv,cv,rfl,hl,hc⟩:=hb;refine Zx 10 func105 C λh0=>aA<|Zac C λq1 E1 hJ hB=>Zf C<|bX<|pY [] 3 [false,true,true,true,true,true,false,false] [.fork [0,4] 1 (.fork [2] 3 (.fin [5]) 5 (.fin [3])) 5 (.fin [1,2,3]),.fin [6,7]] aV (λ_ _ _ h=>eA (P:=prog) (fn:=f105) _ _ _ h) Yg<|uG<|bS [(false,0),(true,4)] C<|Zv C gW C hB fU<|Zv C gW C hB fU<|Zap (eB true true C C ?_ ?_)
 ·refine A2 C C zy (λqm=>Zap<|bS [(true,2)] C<|lJ (cs:=[qI b.chairs,qI b.coin,qI b.box,lv,cv,.map (some qm)]) C Vw Vc C Yg C zy<|Zap (eB true true C C ?_ ?_))
  ·refine Zac C λq2 E2 hE R=>Zap<|aY [(true,5)] C<|Zd C (λD1 U=>zS _ b _ (O.up (U _ Yf)))<|Zap<|pC [(false,6),(false,7)] C<|gP (A:=[]) (ν:=[(_,_)]) (B:=[]) C C C C (zq C) gy (λD9 I=>QL hbo C b.lines.length 0 (fA b) #[] 0 [] _ Yd (GJ b) (DD b) (W3 b) C FL.nil (O.up (I _ Yf)) (R.up (I _ Yf))) C zy λv9 D10 _ Y V=>?_;obtain⟨rfl,hF,hH,M3,rfl,hI,Z⟩:=V;refine Zf C<|Zap<|qW<|Za2<|PL ?_;exact aD C λD hD=>fg
  ·refine Zd C (λD1 U=>zS _ b _ (O.up (U _ Yf)))<|Zap<|aY [(true,3)] C<|Zac C λq2 E2 hE R=>Zap<|pC [(false,6),(false,7)] C<|gP (A:=[]) (ν:=[(_,_)]) (B:=[]) C C C C (zq C) gy (λD9 I=>QL hbo C b.lines.length 0 (fA b) #[] 0 [] _ Yd (GJ b) (DD b) (W3 b) C FL.nil (O.up (I _ Yf)) (R.up (I _ Yf))) C zy λv9 D10 _ Y V=>?_;obtain⟨rfl,hF,hH,M3,rfl,hI,Z⟩:=V;refine Zf C<|Zap<|qW<|Za2<|PL ?_;exact aD C λD hD=>fg
 ·refine Zd C (λD1 U=>zS _ b _ (O.up (U _ Yf)))<|Zap<|aY [(true,1),(true,2),(true,3)] C<|A2 C C zy λqm=>lJ (cs:=[qI b.chairs,qI b.coin,qI b.box,lv,cv,.map (some qm)]) C Vw Vc C Yg C zy<|Zac C λq2 E2 hE R=>Zap<|pC [(false,6),(false,7)] C<|gP (A:=[]) (ν:=[(_,_)]) (B:=[]) C C C C (zq C) gy (λD9 I=>QL hbo C b.lines.length 0 (fA b) #[] 0 [] _ Yd (GJ b) (DD b) (W3 b) C FL.nil (O.up (I _ Yf)) (R.up (I _ Yf))) C zy λv9 D10 _ Y V=>?_;obtain⟨rfl,hF,hH,M3,rfl,hI,Z⟩:=V;refine Zf C<|Zap<|qW<|Za2<|PL ?_;exact aD C λD hD=>fg
theorem NF(bv:Γ)(b:aU)(fine:Bool)(D:aC)(hb:eT D bv b):Fn prog 70 #[bv,.bool fine] D (λ_ v=>v=qI (J7 b fine)):=by
 have I:=hb;obtain⟨lv,cv,rfl,hl,hc⟩:=hb;refine Zx 19 func70 C λh0=>aA<|Zac C λZ E1 Y O=>Zf C<|bD<|Zv C gW C O fU<|Zd C (λD1 R=>G1 _ b _ (I.up (R _ Yf)))<|Zf C<|aE<|Za4<|aA<|Za C ?_;refine Za0 C<|Zf C<|aE<|Zai C (λhc1=>?_) λhc1=>?_
 ·refine aA<|Za C<|Zf C<|aG<|Za8<|Za3 ?_;exact aD C λD hD=>by show Value.int _ _=_;rw[J7,zo xe]
 ·have U:aW b=0:=xe
  have hbo:=jv U;refine aA<|Za C<|Zav C<|Zf C<|aE<|Zai C (λhc2=>?_) λhc2=>?_
  ·refine Wm ?_;exact aD C λD hD=>by show Value.int _ _=_;rw[J7,zv Yd,zo wm]
  ·refine aA<|Zv C gW C O fU<|Zd C (λD2 V=>FA _ b _ (I.up (V _ Yf)) hbo)<|Zav C<|Zf C<|aE<|Zai C (λhc3=>?_) (λhc3=>?_)
   ·refine Wm ?_;exact aD C λD hD=>by show Value.int _ _=_;rw[J7,zv Yd,zv wm,zo ua]
   ·refine bE<|Wz ?_;exact aD C λD hD=>by show Value.int _ _=_;rw[J7,zv Yd,zv wm,zv ua]
def N6(f:bQ→Int)(t:List bQ)(c:Int):Nat→Int
 |0=> -1
 |k+1=>match t[k]? with
  |some l=>if f l=c then(if l.kind=1 then(k:Int)else -1)else N6 f t c k
  |none=>N6 f t c k
theorem gv{f:bQ→Int}{t:List bQ}{c:Int}{k:Nat}{x:bQ}(hx:t[k]?= some x)(h:f x=c)(h2:x.kind=1):N6 f t c (k+1)=k:=by rw[N6,hx];simp only;rw[zo h,zo h2]
theorem GH{f:bQ→Int}{t:List bQ}{c:Int}{k:Nat}{x:bQ}(hx:t[k]?= some x)(h:f x=c)(h2:¬x.kind=1):N6 f t c (k+1)= -1:=by rw[N6,hx];simp only;rw[zo h,zv h2]
theorem B7{f:bQ→Int}{t:List bQ}{c:Int}{k:Nat}{x:bQ}(hx:t[k]?= some x)(h:¬f x=c):N6 f t c (k+1)=N6 f t c k:=by rw[N6,hx];simp only;rw[zv h]
def jZ(b:aU)(t:List bQ):Nat→Int
 |0=>b.box
 |k+1=>match t[k]? with
  |some l=>if l.kind=1 then jZ b t k+b.coin else jZ b t k-b.coin
  |none=>jZ b t k
theorem Ta{b:aU}{t:List bQ}{k:Nat}{x:bQ}(hx:t[k]?= some x)(h:x.kind=1):jZ b t (k+1)=jZ b t k+b.coin:=by rw[jZ,hx];simp only;rw[zo h]
theorem Ss{b:aU}{t:List bQ}{k:Nat}{x:bQ}(hx:t[k]?= some x)(h:¬x.kind=1):jZ b t (k+1)=jZ b t k-b.coin:=by rw[jZ,hx];simp only;rw[zv h]
theorem aBU{b:aU}{t:List bQ}(hc:0≤b.coin∧b.coin≤1000):∀k:Nat,b.box-1000*(k:Int)≤jZ b t k∧jZ b t k≤b.box+1000*(k:Int)
 |0=>by simp[jZ]
 |k+1=>by
  have:=aBU (t:=t) hc k;rw[jZ]
  push_cast
  split
  ·split<;>omega
  ·omega
theorem Qg{b:aU}{t:List bQ}{k:Nat}(hc:0≤b.coin∧b.coin≤1000)(hb:0≤b.box∧b.box≤1000)(hk:k≤1000):vE .i64 (jZ b t k+b.coin)∧vE .i64 (jZ b t k-b.coin):=by
 have:=aBU (t:=t) hc k;simp only[vE];omega
def PC(t:List bQ)(j:Nat):Bool:=match t[j]? with
 |some l=>(decide (N6 bQ.chair t l.chair j≥0)==decide (l.kind=2))&&(decide (N6 bQ.token t l.token j≥0)==decide (l.kind=2))
 |none=>true
def pP(t:List bQ)(k:Nat):Bool:=(List.range k).all (PC t)
theorem Oa(t:List bQ)(k:Nat):pP t (k+1)=(pP t k&&PC t k):=by unfold pP;rw[yb,List.all_append];simp
theorem aCZ{t:List bQ}{k:Nat}{x:bQ}(hx:t[k]?= some x)(hp:pP t k=true)(h:((!(decide (N6 bQ.chair t x.chair k≥0)==decide (x.kind=2)))||(!(decide (N6 bQ.token t x.token k≥0)==decide (x.kind=2))))=false):pP t (k+1)=true:=by
 rw[Oa,hp,v_];unfold PC;rw[hx]
 revert h
 simp only;generalize decide (N6 bQ.chair t x.chair k≥0)=a,decide (N6 bQ.token t x.token k≥0)=c,decide (x.kind=2)=e;cases a<;>cases c<;>cases e<;>decide
theorem aAI{t:List bQ}{k:Nat}{x:bQ}(hx:t[k]?= some x)(hk:k<t.length)(h:((!(decide (N6 bQ.chair t x.chair k≥0)==decide (x.kind=2)))||(!(decide (N6 bQ.token t x.token k≥0)==decide (x.kind=2))))=true):pP t t.length=false:=by
 rw[Bool.eq_false_iff];intro e;unfold pP at e;rw[yu]at e;have h2:=e k (yj.2 hk);unfold PC at h2;rw[hx]at h2
 revert h h2
 simp only;generalize decide (N6 bQ.chair t x.chair k≥0)=a,decide (N6 bQ.token t x.token k≥0)=c,decide (x.kind=2)=e;cases a<;>cases c<;>cases e<;>decide
theorem Kw(l x:bQ)(D:aC):Fn prog 150 #[HK l,HK x] D (λ_ v=>v=.bool (uW l x)):=by
 refine Zx 39 func150 C λh0=>aA<|Zac C λq1 E1 hB I=>Zac C λq2 E2 hE O=>Zf C<|aJ<|Zj C rG C<|Zh 0 C aH C I C<|ud ?_;refine' dU 6 (s:=8) (p:=14) C (λR=>?_) (λR=>?_) ?_;rotate_left
 ·refine Zk C rG C<|Zi 0 C aH C I C<|Zk C rG C<|Zi 0 C aH C O C<|jl ?_;exact aQ 5
 ·refine Zg C<|Wf ?_;exact aQ 5
 refine Za C ?_;refine' bU 11 (s:=15) (p:=26) C (λU=>?_) (λU=>?_) ?_;rotate_left
 ·refine Zk C wC C<|Zi 1 C aH C I C<|IU C C C C ⟨_,C,C⟩<|Zb C ?_;refine' dU 6 (s:=19) (p:=25) C (λV=>?_) (λV=>?_) ?_;rotate_left
  ·refine Zk C wC C<|Zi 1 C aH C I C<|Zk C wC C<|Zi 1 C aH C O C<|jo ?_;exact aQ 5
  ·refine Zg C<|Zg C<|Zg C<|Wt ?_;exact aQ 5
  refine Zam C ?_;exact aQ 5
 ·refine ji ?_;exact aQ 10
 refine Za C ?_;refine' bU 11 (s:=27) (p:=38) C (λY=>?_) (λY=>?_) ?_;rotate_left
 ·refine Zk C rE C<|Zi 2 C aH C I C<|IU C C C C ⟨_,C,C⟩<|Zb C ?_;refine' dU 6 (s:=31) (p:=37) C (λZ=>?_) (λZ=>?_) ?_;rotate_left
  ·refine Zk C rE C<|Zi 2 C aH C I C<|Zk C rE C<|Zi 2 C aH C O C<|jo ?_;exact aQ 5
  ·refine Zg C<|Zg C<|Zg C<|Wt ?_;exact aQ 5
  refine Zam C ?_;exact aQ 5
 ·refine ji ?_;exact aQ 10
 refine Wd ?_;exact aD C λD hD=>C
theorem Tn(tv:Γ)(t:List bQ)(n:Nat)(c:Int)(D:aC)(ht:Sl D jQ 3 tv t)(hn:n≤t.length)(h8:t.length≤1000):Fn prog 87 #[tv,qI (n:Int),qI c] D (λ_ v=>v=qI (N6 bQ.chair t c n)):=by
 refine Zx 29 func87 C λh0=>aA<|Zf C<|aJ<|Zf C<|bD<|Zf C<|aE<|Za4<|Zo Nat (λk=>n-k) (λk=>k≤n) (λk=>[(7,qI (N6 bQ.chair t c k)),(8,qI (k:Int))]) [(6,_),(0,_),(1,_),(2,_)] (λk=>[D]) 0 ⟨Ya,Ya,zy⟩ ?_;rintro k h1;refine bL<|Za C<|Za C<|Zal C<|aE<|Zae C (λhc1=>?_) λhc1=>?_
 ·have hk:k<t.length:=Yd
  obtain⟨x,hx⟩:=cF t k;refine aP<|Za6<|Za4<|aA<|Za C<|Za C<|Zy C U43 dR C ht C hx λb1 o1 I O Z R=>?_;obtain rfl:I=[qI _,qI _,qI _]:=O;refine Zj C wC C<|Zh 1 C aH C R C<|Za C<|Zas C<|aE<|Zae C (λhc2=>?_) λhc2=>?_
  ·refine aA<|Zf C<|aJ<|Za C<|Za C<|Zy C U43 dR C ht C hx λb2 o2 U V hB Y=>?_;obtain rfl:U=[qI _,qI _,qI _]:=V;refine Zj C rG C<|Zh 0 C aH C Y C<|Zas C<|aE<|Zae C (λhc3=>?_) (λhc3=>?_)
   ·refine aM<|Za C<|Wp ?_;exact Zl 24 (k+1) ⟨(by rw[gv hx hc2 hc3];rfl),Ya,zy⟩ C zp
   ·refine xz ?_;exact Zl 22 (k+1) ⟨(by rw[GH hx hc2 hc3];rfl),Ya,zy⟩ C zp
  ·refine xz ?_;exact Zl 15 (k+1) ⟨(by rw[B7 hx hc2];rfl),Ya,zy⟩ C zp
 ·obtain rfl:k=n:=Yd
  refine Wj ?_;exact aD C λD hD=>C
theorem Uk(tv:Γ)(t:List bQ)(n:Nat)(c:Int)(D:aC)(ht:Sl D jQ 3 tv t)(hn:n≤t.length)(h8:t.length≤1000):Fn prog 88 #[tv,qI (n:Int),qI c] D (λ_ v=>v=qI (N6 bQ.token t c n)):=by
 refine Zx 29 func88 C λh0=>aA<|Zf C<|aJ<|Zf C<|bD<|Zf C<|aE<|Za4<|Zo Nat (λk=>n-k) (λk=>k≤n) (λk=>[(7,qI (N6 bQ.token t c k)),(8,qI (k:Int))]) [(6,_),(0,_),(1,_),(2,_)] (λk=>[D]) 0 ⟨Ya,Ya,zy⟩ ?_;rintro k h1;refine bL<|Za C<|Za C<|Zal C<|aE<|Zae C (λhc1=>?_) λhc1=>?_
 ·have hk:k<t.length:=Yd
  obtain⟨x,hx⟩:=cF t k;refine aP<|Za6<|Za4<|aA<|Za C<|Za C<|Zy C U43 dR C ht C hx λb1 o1 I O Z R=>?_;obtain rfl:I=[qI _,qI _,qI _]:=O;refine Zj C rE C<|Zh 2 C aH C R C<|Za C<|Zas C<|aE<|Zae C (λhc2=>?_) λhc2=>?_
  ·refine aA<|Zf C<|aJ<|Za C<|Za C<|Zy C U43 dR C ht C hx λb2 o2 U V hB Y=>?_;obtain rfl:U=[qI _,qI _,qI _]:=V;refine Zj C rG C<|Zh 0 C aH C Y C<|Zas C<|aE<|Zae C (λhc3=>?_) (λhc3=>?_)
   ·refine aM<|Za C<|Wp ?_;exact Zl 24 (k+1) ⟨(by rw[gv hx hc2 hc3];rfl),Ya,zy⟩ C zp
   ·refine xz ?_;exact Zl 22 (k+1) ⟨(by rw[GH hx hc2 hc3];rfl),Ya,zy⟩ C zp
  ·refine xz ?_;exact Zl 15 (k+1) ⟨(by rw[B7 hx hc2];rfl),Ya,zy⟩ C zp
 ·obtain rfl:k=n:=Yd
  refine Wj ?_;exact aD C λD hD=>C
theorem Kh(bv tv:Γ)(b:aU)(t:List bQ)(n:Nat)(D:aC)(hb:eT D bv b)(ht:Sl D jQ 3 tv t)(hn:n≤t.length)(h8:t.length≤1000)(hco:0≤b.coin∧b.coin≤1000)(hbx:0≤b.box∧b.box≤1000):Fn prog 40 #[bv,tv,qI (n:Int)] D (λ_ v=>v=qI (jZ b t n)):=by
 obtain⟨lv,cv,rfl,hl,hc⟩:=hb;refine Zx 31 func40 C λh0=>aA<|Zac C λZ E1 Y I=>Zf C<|aJ<|Zj C aGT C<|Zh 2 C aH C I C<|Zf C<|bD<|Zf C<|aE<|Za4 ?_;refine Zo Nat (λk=>n-k) (λk=>k≤n) (λk=>[(7,qI (jZ b t k)),(8,qI (k:Int))]) [(6,_),(3,_),(1,_),(2,_)] (λk=>[E1,D]) 0 ⟨Ya,Ya,zy⟩ ?_;rintro k h1;refine bL<|Za C<|Za C<|Zal C<|aE<|Zae C (λhc1=>?_) λhc1=>?_
 ·have hk:k<t.length:=Yd
  obtain⟨x,hx⟩:=cF t k;refine aP<|Za6<|Za4<|aA<|Za C<|Za C<|Zy C U43 dR C ht C hx λb1 o1 O R V U=>?_;obtain rfl:O=[qI _,qI _,qI _]:=R;refine Zj C rG C<|Zh 0 C aH C U C<|Zas C<|aE<|Zae C (λhc2=>?_) λhc2=>?_
  ·refine aM<|Za C<|Zj C Xd C<|Zh 1 C aH C I C<|xN C C C (Qg hco hbx Yd).1 C zy<|Zf C<|l3 ?_;refine sg ?_;exact Zl 19 (k+1) ⟨(by rw[Ta hx hc2];rfl),Ya,zy⟩ C zp
  ·refine aM<|Za C<|Zj C Xd C<|Zh 1 C aH C I C<|xO C C C (Qg hco hbx Yd).2 C zy<|Zf C<|l3 ?_;refine sg ?_;exact Zl 19 (k+1) ⟨(by rw[Ss hx hc2];rfl),Ya,zy⟩ C zp
 ·obtain rfl:k=n:=Yd
  refine Wj ?_;exact aD C λD hD=>C
theorem PN(tv:Γ)(t:List bQ)(D:aC)(ht:Sl D jQ 3 tv t)(h8:t.length≤1000):Fn prog 36 #[tv] D (λ_ v=>v=.bool (pP t t.length)):=by
 refine Zx 45 func36 C λh0=>aA<|Zf C<|bD<|Zf C<|aE<|Za4<|cW (γ:=Nat) (λk=>t.length-k) (λk=>k≤t.length∧pP t k=true) (λk=>[(3,qI (k:Int))]) [(2,_),(0,_)] (λk=>[D]) 0 ⟨Yf,C⟩ ⟨Ya,zy⟩ cE (aN) ?_;rintro k ⟨h1,hp⟩;refine bL<|Za C<|Za C<|Zaj C U43 C ht C<|Zal C<|aE<|Zae C (λhc1=>?_) λhc1=>?_
 ·have hk:k<t.length:=Yd
  obtain⟨x,hx⟩:=cF t k;refine aP<|Za6<|Za4<|Za6<|fS [] 2 [0,1,2,3,4,5,6,9,10,11,12,13,14,15,7,8,16,17,18,19] [false,true,true,true,true,true,true,true,true,true,true,true,true,true,true,true,true,true,true,false] [(false,0),(true,1),(true,2),(true,3),(true,4),(true,5),(true,6),(true,9),(true,10),(true,11),(true,12),(true,13),(true,14),(true,15),(true,7),(true,8),(true,16),(true,17),(true,18),(false,19)] aV (λ_ _ _ h=>eA (P:=prog) (fn:=f36) _ _ _ h) Yg C<|Za C<|Za C<|Za C<|Za C<|Zy C U43 dR C ht C hx λb1 o1 I O hJ R=>?_;obtain rfl:I=[qI _,qI _,qI _]:=O;refine Zj C wC C<|Zh 1 C aH C R C<|Za C<|Za C<|Za C<|Za C<|Zy C U43 dR C ht C hx λb2 o2 U V hK Y=>?_;obtain rfl:U=[qI _,qI _,qI _]:=V;refine Zj C rE C<|Zh 2 C aH C Y C<|Zd C (λD1 Z=>Tn _ t k _ _ (ht.up jQ.up (Z _ Yf)) Yd h8)<|kE C C C C zy<|Zd C (λD2 hB=>Uk _ t k _ _ (ht.up jQ.up (hB _ Yf)) Yd h8)<|kE C C C C zy<|Zf C<|Zf C<|aJ<|Za C<|Za C<|Zy C U43 dR C ht C hx λb3 o3 hE hF hN hH=>?_;obtain rfl:hE=[qI _,qI _,qI _]:=hF;refine Zj C rG C<|Zh 0 C aH C hH C<|Zas C<|Zf C<|aJ<|Za C<|Za C<|CR C U4 C C C zy<|Za C ?_;refine' dU 4 (s:=40) (p:=44) C (λhI=>?_) (λhI=>?_) ?_;rotate_left
  ·refine Zb C<|Zb C<|CR C U4 C C C ⟨_,C,C⟩<|Zan C ?_;exact aQ 3
  ·refine mx ?_;exact aQ 3
  refine aE<|Zai C (λhc2=>?_) λhc2=>?_
  ·refine aA<|Wg ?_;exact aD C λD hD=>by show Value.bool _=_;rw[aAI hx hk hc2]
  ·refine xz ?_;exact aK 40 (k+1) ⟨Yd,aCZ hx hp hc2⟩ Yd ⟨Ya,zy⟩ C C zp (aN)
 ·obtain rfl:k=t.length:=Yd
  refine Wk ?_;exact aD C λD hD=>by show Value.bool _=_;rw[hp]
theorem PM(l:List bQ)(c:bQ):uC (l++[c])=uC l++[qI c.kind,qI c.chair,qI c.token]:=by simp[uC]
def qt(l:List Cn):List Γ:=l.flatMap λx=>[qI x.after,qI x.lo,qI x.hi]
theorem aFX(l:List Cn):(qt l).length=l.length*3:=by
 induction l with
 |nil=>rfl
 |cons c l ih=>unfold qt at ih ⊢;rw[xy,zf,ih];simp only[zh,wp];omega
theorem aCR{l:List Cn}{i:Nat}{c:Cn}(hi:l[i]?= some c):((qt l).drop (i*3)).take 3=[qI c.after,qI c.lo,qI c.hi]:=by
  induction l generalizing i with
  |nil=>simp at hi
  |cons d l ih=>
    unfold qt at ih ⊢
    rw[xy];cases i with
    | zero => obtain rfl : d = c := by simpa using hi
              rfl
    |succ i=>
      rw[rd,wl xw,ya];have:(i+1)*3- [Value.int .i64 d.after,Value.int .i64 d.lo,Value.int .i64 d.hi].length=i*3:=by simp;omega
      rw[this];exact ih wy
theorem _root_.Go.Fs.lB.cns{D:aC}{v:Γ}{n:Nat}{l:List Cn}(hF:lB D v n (qt l))(hn:l.length=n)(hb:n≤9223372036854775807):Sl D wQ 3 v l:=
 hF.sl hn hb λ_i _t hi=>⟨_,C,C,aCR hi⟩
theorem G4{a c:Γ}{x y z:Int}(ha:∀u∈[a],cell1 u=true)(hb:∀u∈[c],cell1 u=true):∀u∈[qI x,qI y,qI z,a,c],cell1 u=true:=by
 intro u hu;simp only[zm,n4,yk]at hu;rcases hu with rfl|rfl|rfl|rfl|rfl
 ·rfl
 ·rfl
 ·rfl
 ·exact ha _ zj
 ·exact hb _ zj
end L3
open Go.ChangeShapes Go.WideShapes Go.RowKit
def I2(w4:Δ):aC:=λb=>match w4.heap[b]? with
 |some (.cells cs _ _)=>cs.toList
 |_=>[]
theorem Ok(w4:Δ){cs:Array Γ}{e:Θ}{fz:Nat×Nat}(h0:w4.heap[0]?= some (.cells cs e fz))(hne:cs.toList≠[]):gI (I2 w4) w4:=by
 have hf:I2 w4 0=cs.toList:=by unfold I2;rw[h0]
 refine⟨?_,by rw[hf];exact hne,e,fz,by rw[hf];exact h0⟩;intro b hb;unfold I2 at hb ⊢
 split at hb
 ·rename_i cs e fz h;exact⟨cs,e,fz,h,List.prefix_refl _⟩
 ·exact absurd C hb
theorem X8{w4:Δ}{b i:Nat}{v:Γ}(h:w4.cell? ⟨b,i,none⟩=some v):(I2 w4 b)[i]?= some v:=by
 unfold World.cell? at h;unfold I2;split at h
 ·rename_i cs e fz hb;simp only at hb;rw[hb];simpa using h
 ·cases h
structure VX(w4 W':Δ):Prop where
 env:VM W'=VM w4
 size:w4.heap.size≤W'.heap.size
 old:∀b,b<w4.heap.size→W'.heap[b]?= w4.heap[b]?
theorem VX.but{w4 W':Δ}(h:VX w4 W')(may:MemPlace→Prop):w4.keptBut W' may:=by
 refine⟨zn Prod.fst h.env,zn Prod.snd h.env,λi hi=>?_⟩;rw[h.old i hi];cases w4.heap[i]? with
 |none=>rfl
 |some o=>cases o<;>first|exact⟨C,C,C,λ_ _=>C⟩|exact Or.inr ⟨C,C⟩|rfl
theorem VX.frozen{w4 W':Δ}(h:VX w4 W'){a:Addr}(hl:a.block<w4.heap.size):W'.frozen? a=w4.frozen? a:=by
 unfold World.frozen?;rw[h.old _ hl]
theorem VX.same{w4 W':Δ}(h:VX w4 W'){p:MemPlace}(hp:p.block<w4.heap.size):w4.sameAt W' p:=by
 cases p with
 |cell b off=>
  simp only[World.sameAt,World.cell?];rw[h.old b hp]
 |map b=>exact h.old b hp
theorem Fn.calls{P:Program}{f:FuncId}{args:Array Γ}{D:aC}{post:aC→Γ→Prop}(h:Fn P f args D post){w4:Δ}(hD:gI D w4):
  Calls P f args w4 λe W'=>∃v D',e=.returned v∧post D' v∧VX w4 W':=
 (h.2 w4 hD).mono (by
  rintro e W' ⟨v,D',he,hs,hp⟩;exact⟨v,D',he,hp,hs.env _ C,hs.size,λb hb=>hs.old b hb Yf⟩)
section
variable{x_:Type}{enc:Θ×Γ→x_}{P:Program}
theorem Y9(hl:laidOutB P=true){w4 W':Δ}{sp:Nat→Bool}:∀(ts:List Θ) (vs:List Γ) (ds:List (DataW x_)) (ps:List MemPlace),(∀t∈ts,P.readableRec t=true∧t<P.types.size)→
  DataW.TrodAll enc P w4 0 (λ_=>true) true ts vs ds ps→(∀p∈ps,w4.sameAt W' p)→(∀p∈ps,sp p.block=true)→DataW.TrodAll enc P W' 0 sp true ts vs ds ps
 | [],vs,ds,ps,_,h,_,_=>by
  obtain⟨rfl,rfl,rfl⟩:=trodAll_nil h;exact trodAll_mk0
 |t::ts,vs,ds,ps,hr,h,hsame,hs=>by
  obtain⟨v,vs',d,ds',p,q,rfl,rfl,rfl,h1,h2⟩:=trodAll_cons h;exact trodAll_cons_mk (WideElems.Trod_stays hl (hr t zj).1 (hr t zj).2 h1 (λx hx=>hsame x (yw _ hx)) λx hx=>hs x (yw _ hx))
   (Y9 hl ts vs' ds' q (λu hu=>hr u (GT _ hu)) h2 (λx hx=>hsame x (LT _ hx)) λx hx=>hs x (LT _ hx))
theorem F8{f:Func}{s:ChangeSpec}{apart fresh handsOn again:Bool}{w4 W':Δ}{args:Array Γ}{v:Γ}{ds gs:List (DataW x_)}{before pa pv:List MemPlace}(hW:DataW.Whole enc P f.params.toList s.vars apart w4 args.toList ds gs before)
  (hres:∀(b:Nat) (sp:Nat→Bool) (hd:Bool),DataW.TrodAll enc P W' b sp hd f.resultTypes.toList (v.resultList f.resultTypes.size) (s.fn x_ (ds++gs)).results [])
  (hargs:∀sp:Nat→Bool,(∀p∈before,sp p.block=true)→DataW.TrodAll enc P W' 0 sp true f.params.toList args.toList (s.fn x_ (ds++gs)).args pa)
  (hvars:∀sp:Nat→Bool,(∀p∈before,sp p.block=true)→DataW.TrodVars enc P W' sp s.vars (s.fn x_ (ds++gs)).vars pv)
  (hps:before=pa++pv) (hk:w4.keptBut W' (· ∈before)) (hfz:∀a:Addr,a.block<w4.heap.size→W'.frozen? a=w4.frozen? a)
  (hok:∀(j:Nat) (t:Θ) (r:Γ),f.resultTypes[j]?= some t→(v.resultList f.resultTypes.size)[j]?= some r→Value.okWide P W' .any 0 t r):s.post enc P f apart fresh handsOn again w4 args v W':=by
 have hold:∀p∈before,(λb=>decide (b<w4.heap.size)) p.block=true:=λp hp=>by simpa using hW.lt p hp
 have hlt:=hW.lt;refine⟨ds,gs,before,[],pa,pv,hW,hres _ _ _,hargs _ hold,hvars _ hold,World.keptBut_mono (λp hp=>⟨hp,zt (by rwa [hps,zd]at hp)⟩) hk,λ_=>?_⟩;obtain⟨_,_,_,_,_,hz,hn⟩:=hW;refine⟨hok,_,_,([]++pa)++pv,⟨[]++pa,pv,trodAll_append (hargs _ λ_ _=>C) (hres _ _ _),hvars _ λ_ _=>C,C,λb off hp=>?_,λha=>?_⟩,λp hp _=>?_⟩
 ·have hb:MemPlace.cell b off∈before:=by rw[hps];simpa using hp
  rw[hfz _ (by simpa [MemPlace.block]using hlt _ hb)];exact hz b off hb
 ·have:=hn ha;rw[hps]at this;simpa using this
 ·rw[hps];simpa using hp
theorem Aj{f:Func}{s:ChangeSpec}{tb:Θ}{w4 W':Δ}{args:Array Γ}{ds gs:List (DataW x_)}{before:List MemPlace}(hl:laidOutB P=true)(hp:(f.params.toList.all λt=>P.readableRec t&&decide (t<P.types.size))=true)(hvars:s.vars=[])
  (hres:f.resultTypes=#[tb]) (htb:P.underlying tb=some .bool) (hW:DataW.Whole enc P f.params.toList s.vars false w4 args.toList ds gs before) (hs:s.fn x_ (ds++gs)={results:=[.lit (.bool true)],args:=ds}) (hk:VX w4 W'):
  s.post enc P f false true false false w4 args (.bool true) W':=by
 have hlt:=hW.lt;have hW':=hW;obtain⟨p,q,hA,hV,rfl,hfz,hnd⟩:=hW';rw[hvars]at hV;obtain⟨_,rfl⟩:=trodVars_none hV;refine F8 (pa:=p) (pv:=[]) hW (λb sp hd=>?_) (λsp hsp=>?_) (λsp _=>?_) C (hk.but _) (λ_=>hk.frozen) (ok_one hres C (okWide_bool_mk htb true))
 ·rw[hs,hres];exact trodAll_mk1 (shut_bool htb true)
 ·rw[hs];refine Y9 hl _ _ _ _ (λt ht=>?_) hA (λx hx=>hk.same (hlt x (yw _ hx))) λx hx=>hsp x (yw _ hx);have:=yu.1 hp t ht;simpa using this
 ·rw[hs,hvars];rfl

def AM(P:Program)(t:Θ){α:Type}(R:Rd α):Prop:=∀{x_:Type} (enc:Θ×Γ→x_) (w4:Δ) (n:Nat) (cs:List Γ) (x:DataW x_×List MemPlace),DataW.trod enc P w4 0 (λ_=>true) true n t cs=some x→∃a,R (I2 w4) a cs
def cc{α:Type}(R:Rd α)(sz:Nat):Rd (List α):=λD xs cs=>∃v,cs=[v]∧Sl D R sz v xs
theorem AM.slice{t e:Θ}{sz:Nat}{α:Type}{R:Rd α}(ht:P.underlying t=some (.slice e))(hc:P.cellsOf e=sz)(hpos:0<sz)(hel:AM P e R):AM P t (cc R sz):=λ{x_} enc w4 fuel cs x hx=>by
 rcases DataW.trod_slice ht hx with⟨rfl,_⟩|⟨a,len,cap,elems,rest,n,_,rfl,_,_,hl,hm,hlen,hel',_,_⟩
 ·exact⟨[],_,C,Sl.nil⟩
 have hm':cap≤9223372036854775807:=by simpa [maxLen]using hm
 have key:∀i,i<len→∃cs,(∃y,R (I2 w4) y cs)∧cs.length=sz∧∀j,j<sz→w4.cell? ((a.add (i*sz)).add j)=cs[j]? :=by
  intro i hi;have h1:=hel' i hi;rw[yz Yd,hc]at h1;simp only[Option.bind_eq_some_iff]at h1;obtain⟨cs,h2,h3⟩:=h1;obtain⟨_,h4,h5⟩:=World.cells?_some h2;exact⟨cs,hel enc w4 n cs _ h3,h4,h5⟩
 by_cases h0:len=0
 ·subst h0;exact⟨[],_,C,some a,cap,C,ra _,Yf,zq C⟩
 have hspot:a=⟨a.block,a.off,none⟩:=by
  obtain⟨cs,_,h2,h3⟩:=key 0 Yd;have h4:=h3 0 hpos;rw[ug]at h4;simp only[Addr.add,yo]at h4;rw[yz (show 0<cs.length by omega)]at h4;unfold World.cell? at h4;split at h4
  ·split at h4
   ·cases h4
   ·rename_i hs;obtain⟨b,o,s⟩:=a;cases s with
    |none=>rfl
    |some=>simp at hs
  ·cases h4
 have pick:∃ys:List α,ys.length=len∧∀i y,ys[i]?= some y→∃cs,R (I2 w4) y cs∧cs.length=sz∧∀j,j<sz→w4.cell? ((a.add (i*sz)).add j)=cs[j]? :=by
  refine⟨List.ofFn λi:Fin len=>(key i.1 i.2).choose_spec.1.choose,Yf,λi y hy=>?_⟩;rw[List.getElem?_ofFn]at hy;split at hy
  ·rename_i hi;cases hy;exact⟨_,(key i hi).choose_spec.1.choose_spec,(key i hi).choose_spec.2.1,(key i hi).choose_spec.2.2⟩
  ·cases hy
 obtain⟨ys,hys,hy⟩:=pick;refine⟨ys,_,C,some a,cap,by rw[hys],Yd,Yd,zt ⟨a.block,a.off,by rw[←hspot],λi y hi=>?_⟩⟩;obtain⟨cs,h1,h2,h3⟩:=hy i y hi;refine⟨cs,h1,h2,λj v hj=>?_⟩;have hjl:=(yx.1 hj).1;have h4:=h3 j Yd;rw[hj,hspot,iL,iL]at h4;exact X8 h4
theorem AM.trod{t:Θ}{α:Type}{R:Rd α}(h:AM P t R){w4:Δ}{v:Γ}{d:DataW x_}{ps:List MemPlace}(hd:DataW.Trod enc P w4 0 (λ_=>true) true t v d ps):∃a,R (I2 w4) a v.cells.toList:=by
 obtain⟨fuel,hf⟩:=hd;exact h enc w4 fuel _ _ hf
theorem Li{t e:Θ}{α:Type}{R:Rd α}{sz:Nat}(ht:P.underlying t=some (.slice e))(h:AM P t (cc R sz)){w4:Δ}{r:Reach}{I:Nat}{v:Γ}{d:DataW x_}{ps:List MemPlace}(hval:Value.okWide P w4 r I t v)(hd:DataW.Trod enc P w4 0 (λ_=>true) true t v d ps):
  ∃xs,Sl (I2 w4) R sz v xs:=by
 obtain⟨a,len,cap,rfl⟩:=okWide_slice ht hval;obtain⟨xs,u,hc,hs⟩:=h.trod hd;simp only[Value.cells,vx,and_true]at hc;exact⟨xs,by rw[hc];exact hs⟩
end
namespace L3
open L1
open C3
def pj(_n:Nat)(l:bQ)(k j:Nat)(i:Nat):List bQ:=((List.range i).map λt:Nat=>(⟨1+(k:Int),(j:Int),(t:Int)⟩:bQ)).filter (uW l)
def ng(n:Nat)(l:bQ)(k:Nat)(j:Nat):List bQ:=(List.range j).flatMap λc=>pj n l k c n
def zC(n:Nat)(l:bQ)(k:Nat):List bQ:=(List.range k).flatMap λa=>ng n l a n
def se(n:Nat)(l:bQ)(k j:Nat):List bQ:=zC n l k++ng n l k j
def vi(n:Nat)(l:bQ)(k j i:Nat):List bQ:=se n l k j++pj n l k j i
theorem Ea{n:Nat}{l:bQ}{k:Nat}:se n l k 0=zC n l k:=by unfold se ng;simp
theorem aGV{n:Nat}{l:bQ}{k j:Nat}:vi n l k j 0=se n l k j:=by unfold vi pj;simp
theorem aGA{n:Nat}{l:bQ}{k:Nat}:se n l k n=zC n l (k+1):=by unfold se zC;rw[yb,xl,um]
theorem Xdl{n:Nat}{l:bQ}{k j:Nat}:vi n l k j n=se n l k (j+1):=by unfold vi se ng;rw[yb,xl,um,yy]
theorem aES{n:Nat}{l:bQ}{k j i:Nat}(h:uW l ⟨1+(k:Int),(j:Int),(i:Int)⟩=true):vi n l k j (i+1)=vi n l k j i++[⟨1+(k:Int),(j:Int),(i:Int)⟩]:=by
 unfold vi pj;rw[yb,ze,xu,tn,wj,zo h,yy];rfl
theorem Xcj{n:Nat}{l:bQ}{k j i:Nat}(h:uW l ⟨1+(k:Int),(j:Int),(i:Int)⟩=false):vi n l k j (i+1)=vi n l k j i:=by
 unfold vi pj;rw[yb,ze,xu,tn,wj,zv u_];simp
theorem Ue{n:Nat}{l:bQ}{k j i:Nat}:(pj n l k j i).length≤i:=by
 unfold pj;have:=xm (uW l) ((List.range i).map λt:Nat=>(⟨1+(k:Int),(j:Int),(t:Int)⟩:bQ));simpa using this
theorem Sk{n:Nat}{l:bQ}{k j:Nat}:(ng n l k j).length≤j*n:=by
 unfold ng;have:=kO (m:=n) (f:=λc=>pj n l k c n) (List.range j) λc _=>Ue
 simpa using this
theorem FT{n:Nat}{l:bQ}{k:Nat}(h4:n≤4):(zC n l k).length≤k*16:=by
 unfold zC;have:=kO (m:=16) (f:=λa=>ng n l a n) (List.range k) λa _=>by
  have:=Sk (n:=n) (l:=l) (k:=a) (j:=n);have:n*n≤4*4:=rc h4 h4;omega
 simpa using this
theorem aCM{n:Nat}{l:bQ}{k j i:Nat}(h4:n≤4)(hk:k≤2)(hj:j≤n)(hi:i≤n):(vi n l k j i).length≤60:=by
 unfold vi se;rw[zf,zf];have h1:=FT (n:=n) (l:=l) (k:=k) h4;have h2:=Sk (n:=n) (l:=l) (k:=k) (j:=j);have h3:=Ue (n:=n) (l:=l) (k:=k) (j:=j) (i:=i);have:j*n≤4*4:=rc Yd h4;omega
theorem o9(bv:Γ)(b:aU)(l:bQ)(n:Nat)(D:aC)(hb:eT D bv b)(hn:b.chairs=(n:Int))(h4:n≤4):Fn prog 86 #[bv,HK l] D (λD' v=>Sl D' jQ 3 v (zC n l 2)):=by
 obtain⟨lv,cv,rfl,hl,hc⟩:=hb;refine Zx 39 func86 C λh0=>aA<|Zac C λq1 E1 hE O=>Zac C λq2 R hH U=>Zf C<|aJ<|Zf C<|bD<|Zf C<|aE<|Za4<|Zc (Nat×Γ×aF) (λg=>2-g.1) (λg=>g.1≤2∧bM 184 3 g.2.1 (zC n l g.1).length (uC (zC n l g.1)) g.2.2) (λg=>[(5,g.2.1),(6,qI (1+(g.1:Int)))]) [(4,_),(3,_),(2,_)] (λg=>g.2.2++[]) (λg=>[R,E1,D]) (0,qN,[]) ⟨Yf,bM.nil⟩ ⟨Ya,Ya,zy⟩ zp ?_;rintro⟨k,v,ν⟩ ⟨h1,ha1⟩;simp only at h1 ha1;refine bL<|Za C<|iB C C C C zy<|aE<|Zae C (λhc1=>?_) λhc1=>?_
 ·simp only at hc1;refine aP<|Za6<|Za4<|aA<|Zf C<|aE<|Za4<|Zc (Nat×Γ×aF) (λg=>n-g.1) (λg=>g.1≤n∧bM 184 3 g.2.1 (se n l k g.1).length (uC (se n l k g.1)) g.2.2) (λg=>[(5,g.2.1),(7,qI (g.1:Int))]) [(10,_),(9,_),(6,_),(4,_),(3,_),(2,_)] (λg=>g.2.2++[]) (λg=>[R,E1,D]) (0,v,ν) ⟨Yf,by rw[Ea];exact ha1⟩ ⟨Ya,Ya,zy⟩ zp ?_
  rintro⟨j,w,ν2⟩ ⟨h2,haJ⟩;simp only at h2 haJ;refine bL<|Za C<|Zj C YL C<|Zh 0 C aH C O C<|Zal C<|aE<|Zae C (λhc2=>?_) λhc2=>?_
  ·simp only at hc2;refine aP<|Za6<|Za4<|aA<|Zf C<|aE<|Za4<|Zc (Nat×Γ×aF) (λg=>n-g.1) (λg=>g.1≤n∧bM 184 3 g.2.1 (vi n l k j g.1).length (uC (vi n l k j g.1)) g.2.2) (λg=>[(5,g.2.1),(8,qI (g.1:Int))]) [(16,_),(15,_),(14,_),(13,_),(7,_),(10,_),(9,_),(6,_),(4,_),(3,_),(2,_)] (λg=>g.2.2++[]) (λg=>[R,E1,D]) (0,w,ν2) ⟨Yf,by rw[aGV];exact haJ⟩ ⟨Ya,Ya,zy⟩ zp ?_
   rintro⟨i,u,ν3⟩ ⟨h3,haI⟩;simp only at h3 haI;refine bL<|Za C<|Zj C YL C<|Zh 0 C aH C O C<|Zal C<|aE<|Zae C (λhc3=>?_) λhc3=>?_
   ·simp only at hc3;refine aP<|Za6<|Za4<|aA<|Zv C W9 C U dR<|Za C<|Za C<|Za C<|Zw [qI (1+(k:Int)),qI (j:Int),qI (i:Int)] C FS lL C<|Zd C (λD1 hI=>Kw l (⟨1+(k:Int),(j:Int),(i:Int)⟩:bQ) _)<|aE<|Zai C (λhc4=>?_) (λhc4=>?_)
    ·have hag:uW l (⟨1+(k:Int),(j:Int),(i:Int)⟩:bQ)=true:=hc4;refine aM<|Za C<|Za C<|Za C<|Za C<|Zw [qI (1+(k:Int)),qI (j:Int),qI (i:Int)] C FS lL C<|Zu C U43 dR lL C (.cons C C .nil) λhB D901 V I=>?_;have hli:=aCM (n:=n) (l:=l) (k:=k) (j:=j) (i:=i) Yd Yd Yd Yd;refine aT (A:=[]) (B:=[]) C U43 C C dR lL C V8 C C C haI (kX.lit I) Yf C (S3 _) Ym Yd (zq C) C zy λv7 ν7 Y=>?_;have Z:bM 184 3 v7 (vi n l k j (i+1)).length (uC (vi n l k j (i+1))) ν7:=by rw[aES hag];simpa [uC]using Y
     refine Wp ?_;exact aK 23 (i+1,v7,ν7) ⟨Yl,Z⟩ Yl ⟨Ya,Ya,zy⟩ C C zp λD h=>⟨D,zb _ (h),Le.refl D⟩
    ·have hag:uW l (⟨1+(k:Int),(j:Int),(i:Int)⟩:bQ)=false:=hc4;refine xz ?_;exact aK 15 (i+1,u,ν3) ⟨Yl,by simp only;rw[Xcj hag];exact haI⟩ Yl ⟨Ya,Ya,zy⟩ C C zp (aN)
   ·have hi:i=n:=by simp only at hc3;omega
    rw[hi,Xdl]at haI;refine oe ?_;exact aK 14 (j+1,u,ν3) ⟨Yl,haI⟩ Yl ⟨Ya,Ya,zy⟩ C C zp (aN)
  ·have hj:j=n:=by simp only at hc2;omega
   rw[hj,aGA]at haJ;refine oe ?_;exact aK 12 (k+1,w,ν2) ⟨Yl,haJ⟩ Yl ⟨C,(by first|rfl|(show some (Value.int _ _)=some (Value.int _ _);congr 2;push_cast;omega)),zy⟩ C C zp (aN)
 ·have hk:k=2:=by simp only at hc1;omega
  rw[hk]at ha1;refine Za9<|Za5<|Za5<|Zba<|Za2<|aA<|Za C<|Zf C<|aG<|dE (A:=[]) (B:=[]) ha1 C λD2 hJ hF=>?_;exact aD C λD hD=>(hF.lins C (by have:=FT (l:=l) (k:=2) h4;omega)).up jQ.up (hD _ Yf)
def kR(n:Nat)(ls:List bQ):Int:=ls.foldl (λ(m:Int) l=>min 5000 (m*((zC n l 2).length:Int))) 1
theorem Ms{n:Nat}{ls:List bQ}{i:Nat}{x:bQ}(hx:ls[i]?= some x):kR n (ls.take (i+1))=min 5000 (kR n (ls.take i)*((zC n x 2).length:Int)):=by
 unfold kR;rw[zg,hx,yd,xk];rfl
theorem JJ(n:Nat)(ls:List bQ):0≤kR n ls∧kR n ls≤5000:=by
 unfold kR;have key:∀(l:List bQ) (m:Int),0≤m∧m≤5000→0≤l.foldl (λ(m:Int) l=>min 5000 (m*((zC n l 2).length:Int))) m∧l.foldl (λ(m:Int) l=>min 5000 (m*((zC n l 2).length:Int))) m≤5000:=by
  intro l;induction l with
  |nil=>intro m h;exact h
  |cons x l ih=>
   intro m h;rw[yp];refine ih _ ⟨?_,Yd⟩;have:0≤m*((zC n x 2).length:Int):=om h.1 Yd;omega
 exact key ls 1 Yd
theorem aEU{m:Int}{k:Nat}(h:0≤m∧m≤5000)(hk:k≤2*16):vE .i64 (m*(k:Int)):=by
 have h1:0≤m*(k:Int):=om h.1 Yd;have h2:m*(k:Int)≤5000*32:=Int.mul_le_mul h.2 Yd Yd Yd;simp only[vE];omega
theorem wY(bv:Γ)(b:aU)(n:Nat)(D:aC)(hb:eT D bv b)(hn:b.chairs=(n:Int))(h4:n≤4):Fn prog 34 #[bv] D (λ_ v=>v=qI (kR n b.lines)):=by
 have R:=hb;obtain⟨lv,cv,rfl,hl,hc⟩:=hb;have hll:=hl.len;refine Zx 24 func34 C λh0=>aA<|Zac C λq1 E1 hE I=>Zf C<|aJ<|Zf C<|bD<|Zf C<|aE<|Za4<|Zo Nat (λk=>b.lines.length-k) (λk=>k≤b.lines.length) (λk=>[(4,qI (k:Int)),(3,qI (kR n (b.lines.take k)))]) [(2,_),(1,_)] (λk=>[E1,D]) 0 ⟨Ya,Ya,zy⟩ ?_;rintro k h1;refine bL<|Za C<|Zj C eK C<|Zh 3 C kG C I C<|Zaj C U43 C hl C<|Zal C<|aE<|Zae C (λhc1=>?_) λhc1=>?_
 ·have hk:k<b.lines.length:=Yd
  obtain⟨x,hx⟩:=cF b.lines k;refine aP<|Za6<|Za4<|bK [] 7 12 510<|Za C<|Zv C mE C I jX<|Zj C eK C<|Zh 3 C kG C I C<|Za C<|Zy C U43 dR C hl C hx λb1 o1 U V hB Y=>?_;obtain rfl:U=[qI _,qI _,qI _]:=V;refine Zv C W9 C Y dR<|Zz C (λD1 O=>o9 _ b x n _ (R.up (O _ Yf)) hn h4) λv1 D1 O Z=>?_;have hr:=Z;have hrl:=FT (l:=x) (k:=2) h4;have hmk:=JJ n (b.lines.take k);refine Zaj C U43 C hr C<|EM C C C (aEU hmk hrl) C zy<|zL C C C C zy<|Wp ?_;exact aK 22 (k+1) Yd Yd ⟨Ya,(by rw[Ms hx];rfl),zy⟩ C C zp λD h=>⟨D,zb _ (h),Le.refl D⟩
 ·obtain rfl:k=b.lines.length:=Yd
  rw[ym];refine Wj ?_;exact aD C λD hD=>C
theorem BD{l:List Int}{i k:Nat}{x:Int}(hk:k<l.length):(l.set k x).getD i 0=if k=i then x else l.getD i 0:=by
 rw[wi,List.getElem?_set,wi];by_cases e:k=i
 ·subst e;rw[zo C,zo C,zo hk];rfl
 ·rw[zv e,zv e]
theorem bJM{b:aU}{t:List bQ}(hin:∀l∈t,AU 4 l):∀k,k≤t.length→
  (∀i:Nat,i<4→(zO b t k).ch.getD i 0=N6 bQ.chair t i k+1)∧(∀i:Nat,i<4→(zO b t k).tk.getD i 0=N6 bQ.token t i k+1)∧(zO b t k).money=jZ b t k
 |0,_=>by
  refine⟨λi hi=>?_,λi hi=>?_,C⟩
  ·have:i=0∨i=1∨i=2∨i=3:=Yd
   rcases this with rfl|rfl|rfl|rfl<;>rfl
  ·have:i=0∨i=1∨i=2∨i=3:=Yd
   rcases this with rfl|rfl|rfl|rfl<;>rfl
 |k+1,hk=>by
  obtain⟨h1,h2,h3⟩:=bJM (b:=b) hin k Yd;obtain⟨h4,h5⟩:=HJ b t k;obtain⟨x,hx⟩:=cF t k;obtain⟨g0,g1,g2,g3,g4⟩:=hin x (GE hx);have hc:x.chair.toNat<(zO b t k).ch.length:=Yd
  have ht:x.token.toNat<(zO b t k).tk.length:=Yd
  rw[←WE hx];by_cases e:x.kind=2
  ·have I:¬x.kind=1:=Yd
   unfold eP;rw[zo e];refine⟨λi hi=>?_,λi hi=>?_,?_⟩
   ·simp only;rw[BD hc];by_cases hi':x.chair=(i:Int)
    ·rw[zo Yd,GH hx hi' I];rfl
    ·rw[zv Yd,B7 hx hi'];exact h1 i hi
   ·simp only;rw[BD ht];by_cases hi':x.token=(i:Int)
    ·rw[zo Yd,GH hx hi' I];rfl
    ·rw[zv Yd,B7 hx hi'];exact h2 i hi
   ·simp only;rw[Ss hx I,h3]
  ·have I:x.kind=1:=Yd
   unfold eP;rw[zv e];refine⟨λi hi=>?_,λi hi=>?_,?_⟩
   ·simp only;rw[BD hc];by_cases hi':x.chair=(i:Int)
    ·rw[zo Yd,gv hx hi' I]
    ·rw[zv Yd,B7 hx hi'];exact h1 i hi
   ·simp only;rw[BD ht];by_cases hi':x.token=(i:Int)
    ·rw[zo Yd,gv hx hi' I]
    ·rw[zv Yd,B7 hx hi'];exact h2 i hi
   ·simp only;rw[Ta hx I,h3]
theorem ee(f:bQ→Int)(t:List bQ)(c:Int):∀k, -1≤N6 f t c k
 |0=>by simp[N6]
 |k+1=>by
  have:=ee f t c k;rw[N6];split
  ·split
   ·split<;>omega
   ·omega
  ·omega
theorem aDR{b:aU}{t:List bQ}(hin:∀l∈t,AU 4 l){k:Nat}{x:bQ}(hx:t[k]?= some x):kN (zO b t k) x=PC t k:=by
 have hk:=(yx.1 hx).1;obtain⟨h1,h2,_⟩:=bJM (b:=b) hin k Yd;obtain⟨g0,g1,g2,g3,g4⟩:=hin x (GE hx);have I:=h1 x.chair.toNat Yd;have O:=h2 x.token.toNat Yd;rw[show((x.chair.toNat:Nat):Int)=x.chair by omega]at I;rw[show((x.token.toNat:Nat):Int)=x.token by omega]at O;have R:=ee bQ.chair t x.chair k;have U:=ee bQ.token t x.token k;unfold kN PC nR;rw[hx,I,O];simp only;congr 2
 ·exact oz.2 Yd
 ·exact oz.2 Yd
section
variable{P:Program}{X:Cx}{Q:Exit→Act→Δ→Prop}{T:bZ}{L:aF}{W:List aC}
theorem aBR{c:Code}{μ':aF}(n:Nat)(he:L.drop n=μ')(h:WC P X Q c T μ' W):WC P X Q c T L W:=λa w hh=>by
 subst he;exact h a w (hh.dropBoxes n)
end
def sZ(bh bs bl bo blo bY br n:Nat)(c:List Sc)(cl:List Int):aF:=[(bh,qC [.func (.func 211) #[] #[qP br,qP bs,qP bl,qP bY,qP bh]] 201),(bs,qC [qS bo (n+1) (n+1)] 256),(bl,qC [qS blo n n] 80),(bo,qC (gU c) 161),(blo,qC (ints cl) 298)]
theorem d6{bh bs bl bo blo bY br n:Nat}{c:List Sc}{cl:List Int}:(bo,Obj.cells (gU c).toArray 161 (0,0))∈sZ bh bs bl bo blo bY br n c cl:=zb _ xq
def gt(n bo:Nat)(vs:List Γ):Prop:=∃blo,vs=[qS blo n n,qS bo (n+1) (n+1)]
def aFY{α:Type}(P:Program)(Dr:aC)(lo l:Nat)(J Jx:List α→xL)(xs:List α)(enc:Nat→List Γ→Prop)(cells:α→List Γ):Prop:=∀pre x β D w bo vs,(∃r,xs=pre++x::r)→Q3 lo D w→J pre β D w→(∀b∈β,b<w.heap.size)→Le Dr D→enc bo vs→QG β D w bo (cells x)→
   jS P l vs w λb D' w'=>Q3 lo D' w'∧O1 β D w D' w'∧(if b then J (pre++[x]) β D' w' else Jx (pre++[x]) β D' w')
def Z8(c:List Sc):Prop:=∀s∈c,(sM s).length=10
theorem Z8.set{c:List Sc}{s:Sc}(h:Z8 c)(hs:(sM s).length=10)(i:Nat):Z8 (c.set i s):=λu hu=>by
 rcases List.mem_or_eq_of_mem_set hu with hu|rfl
 ·exact h u hu
 ·exact hs
theorem Ra{c:List Sc}(h:Z8 c):(gU c).length=c.length*10:=by
 induction c with
 |nil=>rfl
 |cons u c ih=>
  have:=ih λs hs=>h s (GT _ hs)
  rw[show gU (u::c)=ints (sM u)++gU c from C,zf,aL,h u zj,this,zh];omega
theorem Rb{c:List Sc}(h:Z8 c){i:Nat}{s:Sc}(hs:(sM s).length=10)(hi:i<c.length):(gU c).take (i*10)++ints (sM s)++(gU c).drop (i*10+(ints (sM s)).length)=gU (c.set i s):=by
 rw[aL,hs];induction c generalizing i with
 |nil=>simp at hi
 |cons u c ih=>
  have hu:(ints (sM u)).length=10:=by rw[aL,h u zj]
  have e:gU (u::c)=ints (sM u)++gU c:=rfl;rw[e];cases i with
  |zero=>
   rw[List.set_cons_zero,show gU (s::c)=ints (sM s)++gU c from C,ug,List.take_zero,ya,wo,rd,wl Yd,ya,hu];simp
  |succ i=>
   rw[List.set_cons_succ,show gU (u::c.set i s)=ints (sM u)++gU (c.set i s)from C,←ih (λt ht=>h t (GT _ ht)) wy];rw[List.take_append,ww Yd,hu,rd,wl Yd,ya,hu,show(i+1)*10-10=i*10 by omega,show(i+1)*10+10-10=i*10+10 by omega];simp
def rl:Sc:=⟨[0,0,0,0],[0,0,0,0],0,0⟩
theorem aAU(n:Nat):ints (List.replicate (n*10) 0)=gU (List.replicate n rl):=by
 induction n with
 |zero=>rfl
 |succ n ih=>rw[List.replicate_succ,show gU (rl::List.replicate n rl)=ints (sM rl)++gU (List.replicate n rl)from C,←ih,show(n+1)*10=10+n*10 by omega,←List.replicate_append_replicate,eL];rfl
def wr(l:List Int)(k:Nat)(us:List Int):List Int:=l.take k++us++l.drop (k+us.length)
theorem Wby{l us:List Int}{k:Nat}(h:k+us.length≤l.length):(wr l k us).length=l.length:=by unfold wr;simp;omega
theorem aBA{l us:List Int}{k:Nat}:(ints l).take k++ints us++(ints l).drop (k+(ints us).length)=ints (wr l k us):=by
 unfold wr ints;simp
def uO(b:aU)(i:Nat)(s:Sc):List (List Sc):=(uI b (b.lines.drop i) i s).map (·.2)
def ur(b:aU)(i:Nat)(s:Sc)(z:bQ)(pre:List Sc)(k:Nat):List (List Sc):=((cJ b.chairs z).take k).flatMap λr=>if kN s r=true then(uO b (i+1) (eP b s i r)).map (λt=>(pre++[s])++t)else []
theorem aCT{b:aU}{i:Nat}{s:Sc}(h:fP b s i=false):uO b i s=[]:=by
 unfold uO;cases e:b.lines.drop i with
 |nil=>unfold uI;rw[zv u_];rfl
 |cons l ls=>unfold uI;rw[zv u_];rfl
theorem Bd{b:aU}{i:Nat}{s:Sc}(h:fP b s i=true)(hi:b.lines.length≤i):uO b i s=[[s]]:=by
 unfold uO;rw[wl hi];unfold uI;rw[zo h];rfl
theorem Je{b:aU}{i:Nat}{s:Sc}{z:bQ}{pre:List Sc}(h:fP b s i=true)(hd:b.lines.drop i=z::b.lines.drop (i+1)):(uO b i s).map (λt=>pre++t)=ur b i s z pre (cJ b.chairs z).length:=by
 unfold uO ur;rw[hd,ym];unfold uI;rw[zo h,List.map_flatMap,List.map_flatMap];congr 1;funext r;by_cases hc:kN s r=true
 ·rw[zo hc,zo hc,uf,uf];unfold uO;rw[uf];congr 1;funext x;simp
 ·rw[zv hc,zv hc];rfl
theorem aHI{b:aU}{i:Nat}{s:Sc}{z:bQ}{pre:List Sc}:ur b i s z pre 0=[]:=rfl
theorem Wcf{b:aU}{i:Nat}{s:Sc}{z x:bQ}{pre:List Sc}{k:Nat}(hx:(cJ b.chairs z)[k]?= some x)(h:kN s x=false):ur b i s z pre (k+1)=ur b i s z pre k:=by
 unfold ur;rw[zg,hx,yd,xl,um,zv u_,yr]
theorem Sn{b:aU}{i:Nat}{s:Sc}{z x:bQ}{pre:List Sc}{k:Nat}(hx:(cJ b.chairs z)[k]?= some x)(h:kN s x=true):ur b i s z pre (k+1)=ur b i s z pre k++(uO b (i+1) (eP b s i x)).map (λt=>(pre++[s])++t):=by
 unfold ur;rw[zg,hx,yd,xl,um,zo h]
theorem aHP{b:aU}{i:Nat}{s:Sc}{z:bQ}{pre:List Sc}{k:Nat}:∃r,ur b i s z pre (cJ b.chairs z).length=ur b i s z pre k++r:=by
 unfold ur;rw[ym]
 conv=>enter [1,r,1];rw[←sq k (cJ b.chairs z),xl]
 exact⟨_,C⟩
theorem QD{c pre:List Sc}{i:Nat}{s s':Sc}(h:c.take (i+1+1)=(pre++[s])++[s'])(hl:pre.length=i):c.take (i+1)=pre++[s]:=by
 have:=zn (List.take (i+1)) h;rw[List.take_take,uj (Nat.le_succ _)]at this;rw[this,vg xw,ww xw]
theorem Fq{c pre:List Sc}{i:Nat}{s':Sc}(hi:i<c.length)(h:c.take i=pre):(c.set i s').take (i+1)=pre++[s']:=by
 rw[zg,List.getElem?_set_self hi,yd,List.take_set_of_le (zk _),h]
theorem Px{c pre:List Sc}{i:Nat}{s:Sc}(h:c.take (i+1)=pre++[s])(hl:pre.length=i):c[i]?= some s:=by
 have:(c.take (i+1))[i]?= (pre++[s])[i]? :=by rw[h]
 rw[sa (Nat.lt_succ_self i),rk Yd]at this;rw[this];simp[hl]
theorem aIE{bh bs bl bo blo bY br n I O:Nat}{c:List Sc}{cl:List Int}{R U:Obj}(hap:br∉aF.ks ((O,U)::(I,R)::sZ bh bs bl bo blo bY br n c cl))(hnd:(((O,U)::(I,R)::sZ bh bs bl bo blo bY br n c cl).map λp=>p.1).Nodup):O∉[br,bs,bo,I]:=by
 intro h;simp only[zm,n4,yk]at h;rcases h with rfl|rfl|rfl|rfl
 ·exact hap (by simp[aF.ks])
 ·simp[sZ]at hnd
 ·simp[sZ]at hnd
 ·simp at hnd
theorem Oy{bh bs bl bo blo bY br n I O:Nat}{c:List Sc}{cl:List Int}{R U:Obj}(hnd:(((O,U)::(I,R)::sZ bh bs bl bo blo bY br n c cl).map λp=>p.1).Nodup):blo∉[bl,bs,I,O]∧bo∉[bl,bs,I,O]:=by
 constructor
 ·intro h;simp only[zm,n4,yk]at h;rcases h with rfl|rfl|rfl|rfl<;>simp[sZ]at hnd
 ·intro h;simp only[zm,n4,yk]at h;rcases h with rfl|rfl|rfl|rfl<;>simp[sZ]at hnd
def Waz(b:aU)(J Jx:List (List Sc)→xL)(bh bs bl bo blo bY br:Nat)(pre:List Sc)(s:Sc)(i:Nat)(done:List (List Sc))(v:Γ)(J':xL)(μ':aF):Prop:=
 ∃bb c' cl',v=.bool bb∧c'.length=b.lines.length+1∧Z8 c'∧cl'.length=b.lines.length*3∧c'.take (i+1)=pre++[s]∧μ'=sZ bh bs bl bo blo bY br b.lines.length c' cl'∧(if bb=true then J'=J (done++(uO b i s).map λt=>pre++t)else ∃p,J'=Jx p)
set_option maxHeartbeats 1000000 in
theorem aCU{lo l:Nat}{b:aU}{bv:Γ}{xs:List (List Sc)}{Dr Dy:aC}{bh bs bl bo blo bY br:Nat}{lv cv:Γ}(hbo:tu b)(hbv:bv=.agg #[qI b.chairs,qI b.coin,qI b.box,lv,cv])(hb0:eT Dr bv b)
  (hA:At Dr br 0 [qI b.chairs,qI b.coin,qI b.box,lv,cv]) (hB:At Dy bY 0 [.func (.yield l) #[] #[]]):
  ∀(j i:Nat) (pre:List Sc) (s:Sc) (c:List Sc) (cl:List Int) (done rest:List (List Sc)) (iv:Int) (W:List aC),Dr∈W→Dy∈W→iv=i→i+j=b.lines.length→pre.length=i→c.length=b.lines.length+1→Z8 c→cl.length=b.lines.length*3→c.take (i+1)=pre++[s]→jt b s i→
   xs=done++(uO b i s).map (λt=>pre++t)++rest→∀(J Jx:List (List Sc)→xL),(∀pre,k9 lo (J pre))→(∀pre,k9 lo (Jx pre))→aFY prog Dr lo l J Jx xs (gt b.lines.length) gU→
   lr prog 211 [qI iv,qP br,qP bs,qP bl,qP bY,qP bh] lo (J done) (sZ bh bs bl bo blo bY br b.lines.length c cl) W (Waz b J Jx bh bs bl bo blo bY br pre s i done):=by
 subst hbv;intro j;induction j using Nat.strongRecOn with
 |_ j ih=>
 intro i pre s c cl done rest iv W hDr hDy hiv hij hl h9 h10 h11 hp hsb hxs J Jx hs hsx hY;replace ih:=λj hj i pre s c cl done rest iv W h1 h2 h3 h4 h5 h6 h7 h8 h9 h10 h11=>ih j hj i pre s c cl done rest iv W h1 h2 h3 h4 h5 h6 h7 h8 h9 h10 h11 J Jx hs hsx hY
 subst hiv;obtain⟨lv',cv',he,hl',hc'⟩:=id hb0;obtain⟨rfl,rfl⟩:=UO he;have hl8:=hbo.l8;have hch:=hbo.ch;have hco:=hbo.co;have hbx:=hbo.bx;have hmo:=hsb.mo;have hmi:=hsb.mi;have hs10:=X9 hsb.lc hsb.lt;refine j4 (L:=sZ bh bs bl bo blo bY br b.lines.length c cl) 68 func211 C C C C<|aA<|Zf C<|bX<|Za6<|bK [] 4 8 62<|Zv C gW C hA fU<|Zq C m8 C zi C<|Za C<|eV C U256 eG C C Yd (by push_cast;omega) C zy<|eW (n:=10) (us:=ints (sM s)) C lF eG C ue (by rw[show 0+((i:Int)).toNat*10=i*10 by omega];exact m3 h10 (Px hp hl)) (by simp[hs10]) n4 C zy<|Za C ?_;refine Zd C (λD1 hD1=>IJ _ b s i _ (hb0.up (hD1 _ kf)) hsb.lc hsb.lt)<|Zav C<|aE<|Zai C (λhc1=>?_) λhc1=>?_
 ·refine aA<|Wi ?_;exact nU (P:=prog) (fn:=f211) (N:=68) (vs:=[_]) C C ⟨C,zy⟩ (λD h=>⟨D,h,Le.refl D⟩) ⟨true,c,cl,C,h9,h10,h11,hp,C,by simp only[yo];rw[aCT xe];simp⟩
 ·have hcd:fP b s i=true:=xe
  refine aP<|bL<|Za C<|Zq C iK C xq C<|nB C U80 C C C zy<|Zas C<|aE<|Zae C (λhc2=>?_) λhc2=>?_
  ·have hrun:=Bd hcd (show b.lines.length≤i by omega);have hleaf:pre++[s]=c:=by rw[←hp,ww Yd]
   rw[hrun,tn,hleaf,yy,rh]at hxs;refine aA<|Zh 0 C aFR C hB C<|Zq C iK C xq C<|Zq C m8 C zi C<|NJ (l:=l) (J1:=J (done++[c])) (J0:=Jx (done++[c])) C C C C (hs _) (hsx _) (λD w hd hJ hb hl=>hY done c _ D w bo _ ⟨rest,hxs⟩ hd hJ (λb hbm=>ab) (hl _ hDr) ⟨blo,C⟩ ⟨n5.2 ⟨_,d6,C⟩,(hb _ d6).2,_,_,(hb _ d6).1⟩) C zy λb1 J1 hJ1=>Wi ?_
   exact nU (P:=prog) (fn:=f211) (N:=68) (vs:=[_]) C C ⟨C,zy⟩ (λD h=>⟨D,h,Le.refl D⟩) ⟨b1,c,cl,C,h9,h10,h11,hp,C,by cases b1<;>simp only[hJ1,yo,wt,xx];exact⟨_,C⟩;rw[hrun,tn,hleaf]⟩
  ·have hil:i<b.lines.length:=Yd
   obtain⟨z,hz⟩:=cF b.lines i;have hdr:b.lines.drop i=z::b.lines.drop (i+1):=by rw[xc hil];congr 1;exact yi ((yz hil).symm.trans hz)
   have hrun:=Je (pre:=pre) hcd hdr;rw[hrun]at hxs;refine aP<|Za6<|Za6<|fS [] 1 [0,1,2,3,4,5,8,6,7] [false,true,true,true,true,true,true,true,true] [(false,0),(true,1),(true,2),(true,3),(true,4),(true,5),(true,8),(true,6),(true,7)] aV (λ_ _ _ h=>AO (P:=prog) (fn:=f211) _ _ _ h) Yg C<|Zv C gW C hA fU<|Zj C dX C<|Zh 3 C iK C hA C<|Za C<|Zy C U80 cT C hl' C hz λb1 o1 cs1 hr1 hcl1 hA1=>?_;obtain rfl:cs1=[qI _,qI _,qI _]:=hr1;refine Zv C oX C hA1 cT<|Za C<|Zz C (λD2 hD2=>O9 _ b z _ (hb0.up (hD2 _ kf)) Yd) λv2 D2 hD2 hp2=>?_;have hr_:=hp2;have hrl:=hr_.len;refine eQ C U80 C Yn C C zy<|aE<|Za4<|GG (γ:=Nat×List Sc×List Int) (λg=>(cJ b.chairs z).length-g.1) (λg=>g.1≤(cJ b.chairs z).length∧g.2.1.length=b.lines.length+1∧Z8 g.2.1∧g.2.2.length=b.lines.length*3∧g.2.1.take (i+1)=pre++[s]) (λg=>J (done++ur b i s z pre g.1)) (λg=>[(36,qI (g.1:Int))]) [(35,_),(34,_),(7,_),(0,_),(1,_),(2,_),(3,_),(5,_)] (λg=>sZ bh bs bl bo blo bY br b.lines.length g.2.1 g.2.2) (λg=>D2::W) (0,c,cl) ⟨Yf,h9,h10,h11,hp⟩ (by simp[aHI]) ⟨Ya,zy⟩ cE zp (aN) ?_;rintro⟨k,c1,cl1⟩ ⟨h12,h91,h92,h93,hp1⟩;simp only at h12 h91 h92 h93 hp1;refine aA<|Zal C<|bX<|Zae C (λhc3=>?_) λhc3=>?_
   ·simp only at hc3;obtain⟨x,hx⟩:=cF (cJ b.chairs z) k;have hin:=((sC (hbo.ln z (GE hz))).1 (GE hx)).1;have hn10:(sM (eP b s i x)).length=10:=du hsb.lc hsb.lt;have hif:(sM (if kN s x=true then eP b s i x else s)).length=10:=by split;exact hn10;exact hs10
    refine aP<|Za6<|Za4<|aA<|Zy C U80 cT C hr_ C hx λb2 o2 cs2 hr2 hcl2 hA2=>?_;obtain rfl:cs2=[qI _,qI _,qI _]:=hr2;refine Zv C oX C hA2 cT<|Zag C lI C λq1=>Zaa C cT ζ<|bX<|pY (dI.mk [br,bs,bo,q1]) 5 [false,true,true,true,true,true,true,true,false,false,true,true,true,false] [.fork [0,1,2,3,4,5,6] 7 (.fin [8,9,10,11]) 11 (.fin [7,8,9,10]),.fin [12,13]] aV (λ_ _ _ h=>AO (P:=prog) (fn:=f211) _ _ _ h) Yg ?_;apply BX (γ:=Nat) (λ_=>True) _ _ _ [.fork [0,1,2,3,4,5,6] 7 (.fin [8,9,10,11]) 11 (.fin [7,8,9,10])] [.fin [12,13]] C
    ·refine uG<|bS [(false,0),(true,1),(true,2),(true,3),(true,4),(true,5),(true,6)] C<|cQ C gW C hA (GT _ hDr) fU (dI.out Yf) C zy<|bG C m8 C xq C (dI.out Yf) C zy<|Za C<|eV C U256 eG C C Yd (by push_cast;omega) C zy<|eW (n:=10) (us:=ints (sM s)) C lF eG C (zb _ ue) (by rw[show 0+((i:Int)).toNat*10=i*10 by omega];exact m3 h92 (Px hp1 hl)) (by simp[hs10]) (dI.out Yf) C zy<|Za C<|bN (e:=298) (fz:=(0,0)) C oX C zu cT (dI.out Yf) C zy<|Zap (eB true true C C ?_ ?_)
     ·refine Zd C (λD3 hD3=>GW _ b s i x _ (hb0.up (hD3 _ kf)) hsb.lc hsb.lt po po Yd Yd Yd Yd)<|Zap<|aY [(false,8),(false,9),(true,10),(true,11)] C<|Za C<|Zar C<|Zar C<|Zag C xW C λq2=>Zap ?_;exact λa w hh=>⟨q2,zy,hh⟩
     ·refine Zag C xW C λq2=>Zap<|aY [(true,7),(false,8),(false,9),(true,10)] C<|Zd C (λD3 hD3=>GW _ b s i x _ (hb0.up (hD3 _ kf)) hsb.lc hsb.lt po po Yd Yd Yd Yd)<|Za C<|Zar C<|Zar C<|Zap ?_;exact λa w hh=>⟨q2,zy,hh.weak cE zp aN⟩
    rintro q2 -;refine pC [(true,12),(false,13)] C<|lO hA kf (λhap=>cm λhnd=>oE (off:=0) (us:=ints (sM (if kN s x=true then eP b s i x else s))) (ws:=ints (sM (if kN s x=true then eP b s i x else s))) C C C C (by rw[show(ints _).length=10 by simp[hif]];exact eG) ζ (by simp[hif]) (by simp[hif]) (dZ _) (zt (dI.in_ (aIE hap hnd))) zy<|Zf C<|Zap<|qW<|Za2<|bL<|Za C<|Zav C<|aE ?_);refine Zai C (λhc4=>?_) λhc4=>?_
    ·have hcan:kN s x=false:=pz
     refine Za9<|Za5<|Zba<|Za2<|aM<|Zaf C<|Za C<|Zap ?_;exact xK 22 (k+1,c1,cl1) ⟨Yl,h91,h92,h93,hp1⟩ Yl (by rw[Wcf hx hcan]) ⟨Ya,zy⟩ C C (List.Sublist.cons _ (List.Sublist.cons _ zp)) (aN)
    ·have hcan:kN s x=true:=pz
     rw[zo hcan];obtain⟨rr,hr⟩:=aHP (b:=b) (i:=i) (s:=s) (z:=z) (pre:=pre) (k:=k+1);refine aP<|Za6<|bK (dI.mk [bl,bs,q1,q2]) 1 11 510<|bG C iK C (List.Mem.tail _ ue) C (dI.out Yf) C zy<|Za C<|bG C m8 C ue C (dI.out Yf) C zy<|Za C<|Zaf C<|bN (e:=298) (fz:=(0,0)) C oX C zi cT (dI.out Yf) C zy<|bN (e:=161) (fz:=(0,0)) C lF C zu (by rw[show(ints _).length=10 by simp[hn10]];exact eG) (dI.out Yf) C zy<|eV C U80 cT C C Yd Yd C zy<|cm λhnd=>?_;refine oE (off:=i*3) (us:=ints [x.kind,x.chair,x.token]) (ws:=ints (wr cl1 (i*3) [x.kind,x.chair,x.token])) C (zD Yd) C C cT (.tail (.tail (.tail (.tail (.tail (.tail .head)))))) xw aBA (dZ _) (zt (dI.in_ (Oy hnd).1)) zy<|eV C U256 eG C C Yd (by push_cast;omega) C zy<|oE (off:=(i+1)*10) (us:=ints (sM (eP b s i x))) (ws:=gU (c1.set (i+1) (eP b s i x))) C (zD Yd) C C (by rw[show(ints _).length=10 by simp[hn10]];exact eG) (.tail (.tail (.tail (.tail (.tail .head))))) (by rw[Ra h92,aL,hn10];omega) (Rb h92 hn10 Yd) (dZ _) (zt (dI.in_ (Oy hnd).2)) zy<|bX<|aBR (μ':=sZ bh bs bl bo blo bY br b.lines.length (c1.set (i+1) (eP b s i x)) (wr cl1 (i*3) [x.kind,x.chair,x.token])) 2 C<|aM<|Zq C sG C zu C<|Za C<|Zaf C<|yQ C C C C (ih (j-1) Yd (i+1) (pre++[s]) (eP b s i x) (c1.set (i+1) (eP b s i x)) (wr cl1 (i*3) [x.kind,x.chair,x.token]) (done++ur b i s z pre k) (rr++rest) (i+1:Int) _ (GT _ hDr) (GT _ hDy) Yd Yd xw (by simpa using h91) (h92.set hn10 _) (by rw[Wby xw];exact h93) (Fq Yd hp1) (Qm hbo hsb x i) (by rw[hxs,hr,Sn hx hcan];simp)) C zy ?_
     rintro _ J2 _ ⟨b2,c2,cl2,rfl,h9',h10',h11',hp',rfl,hJ2⟩;refine Zav C<|aE<|Zai C (λhc5=>?_) λhc5=>?_
     ·obtain rfl:b2=false:=by simpa using hc5
      refine aA<|Wg ?_;exact nU (P:=prog) (fn:=f211) (N:=68) (vs:=[_]) C C ⟨C,zy⟩ (λD h=>⟨D,GT _ h,Le.refl D⟩) ⟨false,c2,cl2,C,h9',h10',h11',QD hp' hl,C,by simpa using hJ2⟩
     ·obtain rfl:b2=true:=by simpa using hc5
      refine xi ?_;exact xK 36 (k+1,c2,cl2) ⟨Yl,h9',h10',h11',QD hp' hl⟩ Yl (by simpa only[yo,Sn hx hcan,yy]using hJ2) ⟨Ya,zy⟩ C C zp (aN)
   ·have hk:k=(cJ b.chairs z).length:=by simp only at hc3;omega
    refine Wk ?_;exact nU (P:=prog) (fn:=f211) (N:=68) (vs:=[_]) C C ⟨C,zy⟩ (λD h=>⟨D,GT _ h,Le.refl D⟩) ⟨true,c1,cl1,C,h91,h92,h93,hp1,C,by simp only[yo];rw[hrun,hk]⟩
section
variable{X:Cx}{γb:Type}[Membership Nat γb]{H:γb}{G:Array Oper}{K:Act→Δ→Prop}{Q:Exit→Act→Δ→Prop}{T:bZ}{L:aF}{W:List aC}{os:List (Bool×Nat)}{fl:Bool}{ix d n:Nat}{x y:Operand}{v:Γ}{ty:Θ}{pos:String}{aft:Array Edge}{g:Option (Nat×Bool)}{k k':IntKind}
def gl(b:aU)(l q1 br:Nat)(g:Nat×Nat×Nat×Nat):bZ:=[(3,.pointer (some ⟨g.1,0,none⟩)),(4,.pointer (some ⟨g.2.1,0,none⟩)),(14,.slice (some ⟨g.2.2.1,0,none⟩) (b.lines.length+1) (b.lines.length+1)),(2,qP q1),(1,qP br),(0,.func (.yield l) #[] #[])]
def nr(b:aU)(g:Nat×Nat×Nat×Nat):aF:=[(g.2.1,qC [qN] 256),(g.1,qC [.slice (some ⟨g.2.2.2,0,none⟩) b.lines.length b.lines.length] 80),(g.2.2.1,qC (gU (List.replicate (b.lines.length+1) rl)) 161),(g.2.2.2,qC (ints (List.replicate (b.lines.length*3) 0)) 298)]
theorem eU{b:aU}{l I br:Nat}{σ':bZ}{μ':aF}{a:Act}{w:Δ}(bl bs bo blo:Nat)(hh:Hl X σ' μ' W a w)(hs:FM σ' (gl b l I br (bl,bs,bo,blo)):=by exact cE)(hm:∀r∈nr b (bl,bs,bo,blo),r∈μ':=by simp[nr])(hn:(μ'.map (·.1)).Nodup→((nr b (bl,bs,bo,blo)).map (·.1)).Nodup:=by simp[nr]<;>omega):
  ∃g:Nat×Nat×Nat×Nat,True∧Hl X (gl b l I br g) (nr b g) W a w:=⟨(bl,bs,bo,blo),zy,(hh.perm hm hn).weak hs zp aN⟩
theorem uS(h8:n≤8)(ho:G[ix]?= some ⟨some d,.makeSlice 80 x y,ty,pos,aft,none⟩)(hx:ev T x=some (.int k (n:Int)))(hy:ev T y=some (.int k' (n:Int)))
  (kk:∀b,WL prog X H G K Q os ((d,qS b n n)::T) ((b,qC (ints (List.replicate (n*3) 0)) 298)::L) W) (hN:Nat.blt d X.N=true:=by exact C):WL prog X H G K Q ((fl,ix)::os) T L W:=
 vP ho U80 cT lI C AG hx hy Yd (j8 Yf C) hN zy kk
theorem pB(h8:n≤8)(ho:G[ix]?= some ⟨some d,.makeSlice 256 x y,ty,pos,aft,none⟩)(hx:ev T x=some (.int k ((n:Int)+1)))(hy:ev T y=some (.int k' ((n:Int)+1)))
  (kk:∀b,WL prog X H G K Q os ((d,qS b (n+1) (n+1))::T) ((b,qC (gU (List.replicate (n+1) rl)) 161)::L) W) (hN:Nat.blt d X.N=true:=by exact C):WL prog X H G K Q ((fl,ix)::os) T L W:=
 vP (n:=n+1) ho U256 eG xW C Yao (hx.trans (zn (λz=>some (Value.int k z)) Yd)) (hy.trans (zn (λz=>some (Value.int k' z)) Yd)) Yd ((j8 Yf C).trans (aAU _)) hN zy kk
theorem gS{D₁:aC}{br q:Nat}{c:Γ}{cs:List Γ}{μ':aF}(hA:At D₁ br 0 (c::cs))(ho:G[ix]?= some ⟨none,.store 80 x y,ty,pos,aft,none⟩)(hx:ev T x=some (qP q))(hy:ev T y=some v)(hv:v.cells=[v].toArray)(hm:bO L q (qC [qN] 80) (qC [v] 80) μ')(hs:TS prog 80 1)(hc:cell1 v=true)
  (kk:WL prog X (dI.mk [br]) G K Q os T μ' W) (hD:D₁∈W:=by simp):WL prog X (dI.mk [br]) G K Q ((fl,ix)::os) T L W:=
 lO hA hD λhap=>oE (off:=0) (us:=[v]) (vs:=[qN]) (ws:=[v]) ho hx hy hv hs hm Yf C (λu hu=>by rw[yf]at hu;rw[hu];exact hc) (zt (dI.in_ (by rw[yf];rintro rfl;exact hap (n5.2 ⟨_,hm.mem,C⟩)))) zy kk
end
theorem CW{n:Nat}:Z8 (List.replicate n rl):=λs hs=>by rw[List.eq_of_mem_replicate hs];rfl
set_option maxHeartbeats 1000000 in
theorem m1{b:aU}{bv lv cv:Γ}{Dr:aC}{br:Nat}(hbo:tu b)(hbv:bv=.agg #[qI b.chairs,qI b.coin,qI b.box,lv,cv])(hb0:eT Dr bv b)(hA:At Dr br 0 [qI b.chairs,qI b.coin,qI b.box,lv,cv]):
  OK prog 210 [qP br] Dr (uO b 0 (fA b)) (gt b.lines.length) gU:=by
 subst hbv;obtain⟨lv',cv',he,hl',hc'⟩:=id hb0;obtain⟨rfl,rfl⟩:=UO he;have hl8:=hbo.l8;refine KR 22 func210 C C C C λlo l J Jx hs hsx hY=>aA<|Zac C λq1 E1 hE1 hB1=>bX<|pY (dI.mk [br]) 4 [false,false,false,true,true,true,true,true,true,true,true,true,false] [.forkN [0,1,2,4,5,6,7] 3 [8,9,10] (IA [(3,.forkN [] 8 [9,10] (IA [(8,.fork [] 9 (.fin [10,11]) 10 (.fin [9,11])),(9,.fork [] 8 (.fin [10,11]) 10 (.fork [] 8 (.fin [11]) 11 (.fin [8]))),(10,.fork [] 8 (.fin [9,11]) 9 (.fork [] 8 (.fin [11]) 11 (.fin [8])))])),(8,.forkN [] 3 [9,10] (IA [(3,.fork [] 9 (.fin [10,11]) 10 (.fin [9,11])),(9,.fork [] 3 (.fin [10,11]) 10 (.fin [3,11])),(10,.fork [] 3 (.fin [9,11]) 9 (.fin [3,11]))])),(9,.forkN [] 3 [8,10] (IA [(3,.fork [] 8 (.fin [10,11]) 10 (.fork [] 8 (.fin [11]) 11 (.fin [8]))),(8,.fork [] 3 (.fin [10,11]) 10 (.fin [3,11])),(10,.fork [] 3 (.fork [] 8 (.fin [11]) 11 (.fin [8])) 8 (.fin [3,11]))])),(10,.forkN [] 3 [8,9] (IA [(3,.fork [] 8 (.fin [9,11]) 9 (.fork [] 8 (.fin [11]) 11 (.fin [8]))),(8,.fork [] 3 (.fin [9,11]) 9 (.fin [3,11])),(9,.fork [] 3 (.fork [] 8 (.fin [11]) 11 (.fin [8])) 8 (.fin [3,11]))]))]),.fin [12]] aV (λ_ _ _ h=>AO (P:=prog) (fn:=f210) _ _ _ h) Yg<|BX (γ:=Nat×Nat×Nat×Nat) (λg=>True) (λg=>gl b l q1 br g) (λg=>nr b g) (λg=>[E1,Dr]) [.forkN [0,1,2,4,5,6,7] 3 [8,9,10] (IA [(3,.forkN [] 8 [9,10] (IA [(8,.fork [] 9 (.fin [10,11]) 10 (.fin [9,11])),(9,.fork [] 8 (.fin [10,11]) 10 (.fork [] 8 (.fin [11]) 11 (.fin [8]))),(10,.fork [] 8 (.fin [9,11]) 9 (.fork [] 8 (.fin [11]) 11 (.fin [8])))])),(8,.forkN [] 3 [9,10] (IA [(3,.fork [] 9 (.fin [10,11]) 10 (.fin [9,11])),(9,.fork [] 3 (.fin [10,11]) 10 (.fin [3,11])),(10,.fork [] 3 (.fin [9,11]) 9 (.fin [3,11]))])),(9,.forkN [] 3 [8,10] (IA [(3,.fork [] 8 (.fin [10,11]) 10 (.fork [] 8 (.fin [11]) 11 (.fin [8]))),(8,.fork [] 3 (.fin [10,11]) 10 (.fin [3,11])),(10,.fork [] 3 (.fork [] 8 (.fin [11]) 11 (.fin [8])) 8 (.fin [3,11]))])),(10,.forkN [] 3 [8,9] (IA [(3,.fork [] 8 (.fin [9,11]) 9 (.fork [] 8 (.fin [11]) 11 (.fin [8]))),(8,.fork [] 3 (.fin [9,11]) 9 (.fin [3,11])),(9,.fork [] 3 (.fork [] 8 (.fin [11]) 11 (.fin [8])) 8 (.fin [3,11]))]))])] [.fin [12]] C ?_ ?_
 ·refine uG<|uE [(false,0),(false,1),(false,2),(true,4),(true,5),(true,6),(true,7)] C<|Zj C dX C<|eE C (k:=3) iK C hA Yf C (dI.out Yf) C zy<|Zaj C U80 C hl' C<|Zj C dX C<|eE C (k:=3) iK C hA Yf C (dI.out Yf) C zy<|Zaj C U80 C hl' C<|Zaf C ?_;refine Zap (iA true C C ?_ (iA true C C ?_ (iA true C C ?_ (iA true C C ?_ (N7)))))
  ·refine uS hl8 C C C λblo=>Zap<|uE [] C ?_;refine Zap (iA true C C ?_ (iA true C C ?_ (iA true C C ?_ (N7))))
   ·refine pB hl8 C C C (λbo=>Zap<|bS [] C<|Zap (eB true true C C ?_ ?_))
    ·refine Zag C pG C λq2=>Zap<|aY [(true,10),(true,11)] C<|Zag C lG C λq3=>n0 ?_;exact λa w hh=>eU q2 q3 bo blo hh
    ·refine Zag C lG C λq2=>Zap<|aY [(true,9),(true,11)] C<|Zag C pG C λq3=>my ?_;exact λa w hh=>eU q3 q2 bo blo hh
   ·refine Zag C pG C (λq2=>Zap<|bS [] C<|Zap (eB true true C C ?_ ?_))
    ·refine pB hl8 C C C λbo=>Zap<|aY [(true,10),(true,11)] C<|Zag C lG C λq3=>Wx ?_;exact λa w hh=>eU q2 q3 bo blo hh
    ·refine Zag C lG C (λq3=>Zap<|bS [] C<|Zap (eB true true C C ?_ ?_))
     ·refine pB hl8 C C C λbo=>Zap<|aY [(true,11)] C<|Wx ?_;exact λa w hh=>eU q2 q3 bo blo hh
     ·refine gS hA C C C C (.tail ζ) fC C<|Zap<|aY [(true,8)] C<|pB hl8 C C C λbo=>Zap ?_;exact λa w hh=>eU q2 q3 bo blo hh
   ·refine Zag C lG C (λq2=>Zap<|bS [] C<|Zap (eB true true C C ?_ ?_))
    ·refine pB hl8 C C C λbo=>Zap<|aY [(true,9),(true,11)] C<|Zag C pG C λq3=>my ?_;exact λa w hh=>eU q3 q2 bo blo hh
    ·refine Zag C pG C (λq3=>Zap<|bS [] C<|Zap (eB true true C C ?_ ?_))
     ·refine pB hl8 C C C λbo=>Zap<|aY [(true,11)] C<|n0 ?_;exact λa w hh=>eU q3 q2 bo blo hh
     ·refine gS hA C C C C ζ fC C<|Zap<|aY [(true,8)] C<|pB hl8 C C C λbo=>Zap ?_;exact λa w hh=>eU q3 q2 bo blo hh
  ·refine pB hl8 C C C λbo=>Zap<|uE [] C ?_;refine Zap (iA true C C ?_ (iA true C C ?_ (iA true C C ?_ (N7))))
   ·refine uS hl8 C C C (λblo=>Zap<|bS [] C<|Zap (eB true true C C ?_ ?_))
    ·refine Zag C pG C λq2=>Zap<|aY [(true,10),(true,11)] C<|Zag C lG C λq3=>n0 ?_;exact λa w hh=>eU q2 q3 bo blo hh
    ·refine Zag C lG C λq2=>Zap<|aY [(true,9),(true,11)] C<|Zag C pG C λq3=>my ?_;exact λa w hh=>eU q3 q2 bo blo hh
   ·refine Zag C pG C (λq2=>Zap<|bS [] C<|Zap (eB true true C C ?_ ?_))
    ·refine uS hl8 C C C λblo=>Zap<|aY [(true,10),(true,11)] C<|Zag C lG C λq3=>Wx ?_;exact λa w hh=>eU q2 q3 bo blo hh
    ·refine Zag C lG C λq3=>Zap<|aY [(true,3),(true,11)] C<|uS hl8 C C C λblo=>Wx ?_;exact λa w hh=>eU q2 q3 bo blo hh
   ·refine Zag C lG C (λq2=>Zap<|bS [] C<|Zap (eB true true C C ?_ ?_))
    ·refine uS hl8 C C C λblo=>Zap<|aY [(true,9),(true,11)] C<|Zag C pG C λq3=>my ?_;exact λa w hh=>eU q3 q2 bo blo hh
    ·refine Zag C pG C λq3=>Zap<|aY [(true,3),(true,11)] C<|uS hl8 C C C λblo=>n0 ?_;exact λa w hh=>eU q3 q2 bo blo hh
  ·refine Zag C pG C λq2=>Zap<|uE [] C ?_;refine Zap (iA true C C ?_ (iA true C C ?_ (iA true C C ?_ (N7))))
   ·refine uS hl8 C C C (λblo=>Zap<|bS [] C<|Zap (eB true true C C ?_ ?_))
    ·refine pB hl8 C C C λbo=>Zap<|aY [(true,10),(true,11)] C<|Zag C lG C λq3=>Wu ?_;exact λa w hh=>eU q2 q3 bo blo hh
    ·refine Zag C lG C (λq3=>Zap<|bS [] C<|Zap (eB true true C C ?_ ?_))
     ·refine pB hl8 C C C λbo=>Zap<|aY [(true,11)] C<|Wu ?_;exact λa w hh=>eU q2 q3 bo blo hh
     ·refine gS hA C C C C (.tail (.tail ζ)) fC C<|Zap<|aY [(true,8)] C<|pB hl8 C C C λbo=>Zap ?_;exact λa w hh=>eU q2 q3 bo blo hh
   ·refine pB hl8 C C C (λbo=>Zap<|bS [] C<|Zap (eB true true C C ?_ ?_))
    ·refine uS hl8 C C C λblo=>Zap<|aY [(true,10),(true,11)] C<|Zag C lG C λq3=>Wu ?_;exact λa w hh=>eU q2 q3 bo blo hh
    ·refine Zag C lG C λq3=>Zap<|aY [(true,3),(true,11)] C<|uS hl8 C C C λblo=>Wu ?_;exact λa w hh=>eU q2 q3 bo blo hh
   ·refine Zag C lG C (λq3=>Zap<|bS [] C<|Zap (eB true true C C ?_ ?_))
    ·refine uS hl8 C C C (λblo=>Zap<|bS [] C<|Zap (eB true true C C ?_ ?_))
     ·refine pB hl8 C C C λbo=>Zap<|aY [(true,11)] C<|Wu ?_;exact λa w hh=>eU q2 q3 bo blo hh
     ·refine gS hA C C C C (.tail (.tail ζ)) fC C<|Zap<|aY [(true,8)] C<|pB hl8 C C C λbo=>Zap ?_;exact λa w hh=>eU q2 q3 bo blo hh
    ·refine pB hl8 C C C λbo=>Zap<|aY [(true,3),(true,11)] C<|uS hl8 C C C λblo=>Wu ?_;exact λa w hh=>eU q2 q3 bo blo hh
  ·refine Zag C lG C λq2=>Zap<|uE [] C ?_;refine Zap (iA true C C ?_ (iA true C C ?_ (iA true C C ?_ (N7))))
   ·refine uS hl8 C C C (λblo=>Zap<|bS [] C<|Zap (eB true true C C ?_ ?_))
    ·refine pB hl8 C C C λbo=>Zap<|aY [(true,9),(true,11)] C<|Zag C pG C λq3=>my ?_;exact λa w hh=>eU q3 q2 bo blo hh
    ·refine Zag C pG C (λq3=>Zap<|bS [] C<|Zap (eB true true C C ?_ ?_))
     ·refine pB hl8 C C C λbo=>Zap<|aY [(true,11)] C<|n0 ?_;exact λa w hh=>eU q3 q2 bo blo hh
     ·refine gS hA C C C C ζ fC C<|Zap<|aY [(true,8)] C<|pB hl8 C C C λbo=>Zap ?_;exact λa w hh=>eU q3 q2 bo blo hh
   ·refine pB hl8 C C C (λbo=>Zap<|bS [] C<|Zap (eB true true C C ?_ ?_))
    ·refine uS hl8 C C C λblo=>Zap<|aY [(true,9),(true,11)] C<|Zag C pG C λq3=>my ?_;exact λa w hh=>eU q3 q2 bo blo hh
    ·refine Zag C pG C λq3=>Zap<|aY [(true,3),(true,11)] C<|uS hl8 C C C λblo=>n0 ?_;exact λa w hh=>eU q3 q2 bo blo hh
   ·refine Zag C pG C (λq3=>Zap<|bS [] C<|Zap (eB true true C C ?_ ?_))
    ·refine uS hl8 C C C (λblo=>Zap<|bS [] C<|Zap (eB true true C C ?_ ?_))
     ·refine pB hl8 C C C λbo=>Zap<|aY [(true,11)] C<|Wx ?_;exact λa w hh=>eU q3 q2 bo blo hh
     ·refine gS hA C C C C (.tail ζ) fC C<|Zap<|aY [(true,8)] C<|pB hl8 C C C λbo=>Zap ?_;exact λa w hh=>eU q3 q2 bo blo hh
    ·refine pB hl8 C C C λbo=>Zap<|aY [(true,3),(true,11)] C<|uS hl8 C C C λblo=>Wx ?_;exact λa w hh=>eU q3 q2 bo blo hh
 rintro⟨bl,bs,bo,blo⟩ -;dsimp only[gl,nr];refine pC [(false,12)] C<|Zs C aBE ζ C<|Zap<|qW<|Za2<|aA<|Zag C FX C λq4=>aJ<|Za1 C<|Zs C GS ζ C<|bX<|bK [] 1 5 6 ?_;refine Zq C m8 C zi C<|Zv C gW C hA fU<|Zd C (λD1 hD1=>zS _ b _ (hb0.up (hD1 _ Yf)))<|eV C U256 eG C C Yd (by push_cast;omega) C zy<|dD (off:=0*10) (us:=ints (sM (fA b))) (ws:=gU ((List.replicate (b.lines.length+1) rl).set 0 (fA b))) C (zD Yd) C C eG (.tail (.tail (.tail ζ))) (by rw[Ra CW,aL,show(sM (fA b)).length=10 from C,List.length_replicate];omega) (Rb CW C Yf) (dZ _) zy<|aE<|aM<|Zq C sG C zu C<|yQ C C C C (aCU (l:=l) hbo C hb0 hA hB1 b.lines.length 0 [] (fA b) ((List.replicate (b.lines.length+1) rl).set 0 (fA b)) (List.replicate (b.lines.length*3) 0) [] [] 0 _ Yf Yf C Yd C Yf (CW.set C _) Yf (by simp[List.replicate_succ]) (GJ b) Yf J Jx hs hsx hY) C zy ?_
 rintro _ J2 _ ⟨b2,c2,cl2,rfl,h9',h10',h11',hp',rfl,hJ2⟩;refine Zap ?_;exact nU (P:=prog) (fn:=f210) (N:=22) (vs:=[]) C C zy (λD h=>⟨D,jb,Le.refl D⟩) er
theorem Kl(bv:Γ)(b:aU)(D:aC)(hb:eT D bv b)(hbo:tu b):
  Fn prog 141 #[bv] D (λD' v=>∃br,v=.func (.func 210) #[] #[qP br]∧OK prog 210 [qP br] D' (uO b 0 (fA b)) (gt b.lines.length) gU):=by
 have I:=hb;obtain⟨lv,cv,rfl,hl,hc⟩:=hb;refine Zx 4 func141 C λh0=>aA<|Zac C λU E1 R O=>Zf C<|aJ<|Za1 C<|Wd ?_;exact aD C λD hD=>⟨_,C,m1 hbo C (I.up (hD _ Yf)) (O.up (hD _ Yf))⟩
theorem Sv(b:aU):∀(ls:List bQ) (i:Nat) (s:Sc),s.ch.length=4→s.tk.length=4→∀x∈uI b ls i s,x.2.length=ls.length+1∧∀u∈x.2,u.ch.length=4∧u.tk.length=4
  | [],i,s,h4,h5,x,hx=>by
    unfold uI at hx;split at hx
    · obtain rfl:x=([],[s]):=by simpa using hx
      exact ⟨C, λu hu => by obtain rfl : u = s := by simpa using hu
                            exact⟨h4,h5⟩⟩
    · cases hx
  |l::ls,i,s,h4,h5,x,hx=>by
    unfold uI at hx;split at hx
    · obtain⟨r,_,hr⟩:=vr.1 hx;split at hr
      · obtain⟨y,hy,rfl⟩:=n5.1 hr;obtain⟨g1,g2⟩:=Sv b ls (i+1) (eP b s i r) (by unfold eP;split<;>simp[h4]) (by unfold eP;split<;>simp[h5]) y hy
        refine⟨by simp[g1],λu hu=>?_⟩;rcases zm.1 hu with rfl|hu
        · exact⟨h4,h5⟩
        · exact g2 u hu
      · cases hr
    · cases hx
theorem Xh{b:aU}(hn:b.chairs≤4):∀(ls:List bQ) (i:Nat) (s:Sc),(uI b ls i s).length≤32^ls.length
 | [],i,s=>by unfold uI;split<;>simp
 |l::ls,i,s=>by
  unfold uI;split
  ·rw[List.length_flatMap];have h1:∀(rs:List bQ),(rs.map λr=>(if kN s r=true then(uI b ls (i+1) (eP b s i r)).map λx=>(r::x.1,s::x.2)else []).length).sum≤rs.length*32^ls.length:=by
    intro rs;induction rs with
    |nil=>simp
    |cons r rs ih=>
     rw[yl,List.sum_cons,zh,xb,Nat.one_mul,Nat.add_comm];refine Nat.add_le_add ih ?_;split
     ·rw[yh];exact Xh hn ls _ _
     ·simp
   have h2:=h1 (cJ b.chairs l);have h3:=df (l:=l) hn;have h4:(cJ b.chairs l).length*32^ls.length≤32*32^ls.length:=so _ h3;rw[zh,Nat.pow_succ,Nat.mul_comm];omega
  ·simp
theorem aIG{b:aU}(hbo:tu b):(uO b 0 (fA b)).length≤1099511627776:=by
 unfold uO;rw[yh];have h1:=Xh hbo.ch.2 (b.lines.drop 0) 0 (fA b);have h2:32^(b.lines.drop 0).length≤32^8:=wu Yd (by rw[sk];exact hbo.l8)
 omega
theorem Hw{b:aU}(hbo:tu b){x:List Sc}{pre r:List (List Sc)}(h:uO b 0 (fA b)=pre++x::r):x.length=b.lines.length+1∧(∀u∈x,u.ch.length=4∧u.tk.length=4)∧pre.length<1099511627776:=by
 have hm:x∈uO b 0 (fA b):=by rw[h];simp
 obtain⟨y,hy,rfl⟩:=n5.1 hm;obtain⟨g1,g2⟩:=Sv b _ _ _ C C y hy;refine⟨by simpa using g1,g2,?_⟩;have:=aIG hbo;rw[h]at this;simp at this;omega
theorem bCI{x:List Sc}{k:Nat}{u:Sc}(h:x[k]?= some u):aCO x k=u:=by unfold aCO;rw[wi,h];rfl
theorem Xcp{D:aC}{bo n:Nat}{x:List Sc}(h:At D bo 0 (gU x))(hx:x.length=n)(h4:∀u∈x,u.ch.length=4∧u.tk.length=4)(hn:n≤1000):Sl D aBP 10 (qS bo n n) x:=by
 have I:Z8 x:=λu hu=>X9 (h4 u hu).1 (h4 u hu).2
 refine⟨_,n,by rw[hx],Yd,Yd,zt ⟨bo,0,C,λi u hi=>⟨_,C,by rw[aL,I u (GE hi)],λj v hj=>?_⟩⟩⟩;have:=m3 I hi;rw[←this,List.getElem?_take]at hj;split at hj
 ·rw[vb]at hj;have:=h _ v hj;rw[show 0+i*10+j=0+(i*10+j) by omega];exact this
 ·cases hj


theorem Mu(s:Sc)(D:aC)(h4:s.ch.length=4)(h5:s.tk.length=4):Fn prog 73 #[aCG s] D (λ_ v=>v=qI s.money):=by
 refine Zx 5 func73 C λh0=>aA<|Zac C λR E1 O I=>Zf C<|aJ<|Zj C rI C<|eE (v:=qI s.money) C (k:=8) aH C I Yc (dA (O5 h4 h5)) n4 C zy<|Wd ?_;exact aD C λD hD=>C
def AX(F:Sc→Int)(b:aU)(k:Nat):Int×Int:=(C1.qH (((uO b 0 (fA b)).map λx=>aCO x k).map F),C1.kU (((uO b 0 (fA b)).map λx=>aCO x k).map F))
def BF(F:Sc→Int)(ss:List Sc)(g:(Int×Int)×Bool):Prop:=(g.2=true∧ss=[]∧g.1=(0,0))∨(g.2=false∧ss≠[]∧g.1=(C1.qH (ss.map F),C1.kU (ss.map F)))
theorem Gf{l:List Int}{x:Int}(h:l≠[]):C1.qH (l++[x])=min (C1.qH l) x:=by
 cases l with
 |nil=>exact absurd C h
 |cons a l=>show(l++[x]).foldl min a=_;rw[xk];rfl
theorem K1{l:List Int}{x:Int}(h:l≠[]):C1.kU (l++[x])=max (C1.kU l) x:=by
 cases l with
 |nil=>exact absurd C h
 |cons a l=>show(l++[x]).foldl max a=_;rw[xk];rfl
theorem BF.add{F:Sc→Int}{ss:List Sc}{r r':Int×Int}{fb:Bool}{s u:Sc}(h:BF F ss (r,fb))(e:s=u)(hc:(fb=true∧r'=(F u,F u))∨(fb=false∧r'=r)):BF F (ss++[s]) ((min r'.1 (F u),max r'.2 (F u)),false):=by
 subst e;refine zt ⟨C,Yf,?_⟩;rcases hc with⟨h1,rfl⟩|⟨h1,rfl⟩
 ·rcases h with⟨_,rfl,_⟩|⟨h2,_⟩
  ·simp[C1.qH,C1.kU]
  ·simp only at h2;rw[h1]at h2;cases h2
 ·rcases h with⟨h2,_⟩|⟨_,h3,h4⟩
  ·simp only at h2;rw[h1]at h2;cases h2
  ·simp only at h4;subst h4;have hne:ss.map F≠[]:=by simpa using h3
   rw[ze,tn,Gf hne,K1 hne]
theorem BF.all{F:Sc→Int}{b:aU}{k:Nat}{r:Int×Int}{fb:Bool}(h:BF F ((uO b 0 (fA b)).map λx=>aCO x k) (r,fb)):nA r=nA (AX F b k):=by
 unfold AX;rcases h with⟨_,h1,h2⟩|⟨_,_,h2⟩
 ·rw[h1];simp only at h2;rw[h2];rfl
 ·simp only at h2;rw[h2]
theorem PO{b:aU}{fine:Bool}(h:J7 b fine=0):aW b=0∧fine=true:=by
 unfold J7 at h;split at h
 ·rename_i hf;exact absurd h hf
 ·rename_i hf;split at h
  ·omega
  ·rename_i h2;exact⟨by simpa using hf,rt⟩
theorem Us(F:Sc→Int)(bv:Γ)(b:aU)(k:Nat)(fo:FuncId)(D:aC)(hb:eT D bv b)(hbo:tu b)(hk:k≤b.lines.length)
  (hq:∀s D,s.ch.length=4→s.tk.length=4→Fn prog fo #[aCG s] D λ_ v=>v=qI (F s)):
  Fn prog 72 #[bv,qI (k:Int),.func (.func fo) #[] #[]] D (λ_ v=>v=nA (AX F b k)):=by
 have Y:=hb;obtain⟨lv,cv,rfl,hl,hc⟩:=hb;have hch:=hbo.ch;have hN:=hbo.l8;refine QU 29 func72 C C C C λh0=>aA<|Zac C λq1 E1 hO Z=>Zac C λq2 E2 hP hB=>Zac C λq3 E3 hR hE=>Zag C qJ C λq4=>aJ<|Zag C rJ C λq5=>Zs C nM ζ C<|bD<|Zv C gW C Z fU<|Zz C (λD1 I=>Kl _ b _ (Y.up (I _ Yf)) hbo) λv1 D1 I hF=>?_;refine aE<|Za4 ?_;obtain⟨br,rfl,hit⟩:=hF;refine x6 (γ:=(Int×Int)×Bool) (xs:=uO b 0 (fA b)) (enc:=gt b.lines.length) (cells:=gU) (Dr:=D1) (λpre g=>BF F (pre.map λx=>aCO x k) g) (λ_ _ _=>False) (λg=>[(q5,qC [.bool g.2] 4),(q4,qC [qI g.1.1,qI g.1.2] 26)]) ((0,0),true) C C (λ_ k hk=>by cases hk) C hit Yf (λ_ vs h=>by obtain⟨_,rfl⟩:=h;rfl) C (zq ⟨C,C,C⟩) C ?_ ?_ λ_ _ _ _ h=>h.elim
 ·rintro pre x ⟨r,fb⟩ ⟨us,hx⟩ hV l bd bo vs rec hh D7 hS ⟨blo,rfl⟩ hbo_ hst hpend;obtain⟨hxl,O,hpl⟩:=Hw hbo hx;have hsl:=Xcp hbo_ hxl O Yd;obtain⟨u,hu⟩:=cF x k;have hau:aCO x k=u:=bCI hu;obtain⟨R,U⟩:=O u (GE hu);have V:=X9 R U;refine aM<|sg ?_;refine λa w hhh=>X6 (A:=[(_,_),(_,_)]) (B:=[(bd,.deferred (some []))]) (r:=rec) (l:=l) xa hst ?_ a w hhh
  simp only[we,ya];refine Za4<|Za6<|vR [] 3 7 30 (λ_ _ _ h=>h)<|Zh 0 C aAF C hE C<|Za C<|Zh 0 C aH C hB C<|Zy C U256 eG C hsl C hu λb1 o1 hH hI hK hJ=>?_;obtain rfl:hH=ints (sM _):=hI;refine cQ C lF C hJ Yo (by rw[show(ints _).length=10 by simp[V]];exact eG) n4 C zy<|Zd C (λD2 hX=>hq u _ R U)<|Zf C<|bD<|Zq C JE C zu C<|aE<|Zai C (λhc1=>?_) λhc1=>?_
  ·refine aM<|Za C<|Za C<|Zw [qI (F u),qI (F u)] C DX qJ C<|Zaa C eY (.tail ζ)<|Zs C nM ζ C<|aE<|aM<|Zah C qO C zi eY<|Za C<|Zd C (λD3 hY=>OP (_,_) _ _)<|Zaa C eY (.tail ζ) ?_;refine Zap<|Za7 ?_;exact λa w hh=>jT (A:=[(_,_),(_,_)]) (B:=[(bd,.deferred (some []))]) ((min (F u,F u).1 (F u),max (F u,F u).2 (F u)),false) (by simpa using hV.add hau (zq ⟨hc1,C⟩)) C C a w hh
  ·obtain rfl:fb=false:=hc1;refine aP<|aM<|Zah C qO C zi eY<|Za C<|Zd C (λD4 rA=>OP (_,_) _ _)<|Zaa C eY (.tail ζ)<|Zap<|Za7 ?_;exact λa w hh=>jT (A:=[(_,_),(_,_)]) (B:=[(bd,.deferred (some []))]) ((min r.1 (F u),max r.2 (F u)),false) (by simpa using hV.add hau (zt ⟨C,C⟩)) C C a w hh
 ·rintro⟨r,fb⟩ bd hV;refine Za7<|Za2<|aA<|Zah C qO C zi eY<|Zaa C eY (.tail ζ)<|aG ?_;exact I8 (vs:=[_]) (A:=[(_,_),(_,_)]) C C C ⟨⟨_,_,_,C,zi,zt ⟨qO,eY,C⟩⟩,zy⟩ λD hD=>hV.all
theorem Mc(s:Sc)(D:aC)(h4:s.ch.length=4)(h5:s.tk.length=4):Fn prog 107 #[aCG s] D (λ_ v=>v=qI s.mixed):=by
 refine Zx 5 func107 C λh0=>aA<|Zac C λR E1 O I=>Zf C<|aJ<|Zj C CN C<|eE (v:=qI s.mixed) C (k:=9) aH C I Yc (dA (ZE h4 h5)) n4 C zy<|Wd ?_;exact aD C λD hD=>C
theorem x8(bv:Γ)(b:aU)(k:Int)(D:aC)(hb:eT D bv b):Fn prog 25 #[bv,qI k] D (λ_ v=>v=.tuple #[nA (if J7 b (C1.gF k 0 (b.lines.length:Int))=0 then AX (λs=>s.money) b k.toNat else(0,0)),qI (J7 b (C1.gF k 0 (b.lines.length:Int)))]):=by
 have O:=hb;obtain⟨lv,cv,rfl,hl,hc⟩:=hb;have hll:=hl.len;refine Zx 21 func25 C λh0=>aA<|Zac C λq1 E1 Y I=>Zag C qJ C λq2=>Zf C<|bX<|Za6<|bK [] 4 8 62<|Zv C gW C I fU<|Za C<|Zj C dX C<|Zh 3 C iK C I C ?_;refine Zaj C U80 C hl C<|Zd C (λD1 Z=>mF _ _ _ _)<|Zd C (λD2 R=>NF _ b (C1.gF k 0 (b.lines.length:Int)) _ (O.up (R _ Yf)))<|Zf C<|aJ<|Za C<|Za0 C<|aE<|Zae C (λhc1=>?_) λhc1=>?_
 ·refine aA<|Zw [qI 0,qI 0] C DX qJ C<|Za C<|Zaa C eY ζ<|Wi ?_;exact Zp [_,_] C ⟨⟨_,_,_,C,zu,Or.inr ⟨qO,kr,C⟩⟩,C,zy⟩ λD hD=>fh
 ·have he0:J7 b (C1.gF k 0 (b.lines.length:Int))=0:=Yd
  obtain⟨U,hfi⟩:=PO he0;have hbo:=jv U;rw[C1.bH]at hfi;obtain⟨n,rfl⟩:∃n:Nat,k=(n:Int):=⟨k.toNat,Yd⟩
  refine aP<|aA<|Zv C gW C I fU<|Za C<|Zd C (λD3 V=>Us (λs=>s.money) _ b n 73 _ (O.up (V _ Yf)) hbo Yd λs D h4 h5=>Mu s D h4 h5)<|Zaa C eY ζ<|Wd ?_;exact Zp [_,_] C ⟨⟨_,_,_,C,zu,Or.inr ⟨qO,kr,C⟩⟩,C,zy⟩ λD hD=>iz
theorem aTT(bv:Γ)(b:aU)(D:aC)(hb:eT D bv b):Fn prog 49 #[bv] D (λ_ v=>v=.tuple #[nA (if J7 b (true)=0 then AX (λs=>s.mixed) b b.lines.length else(0,0)),qI (J7 b (true))]):=by
 have O:=hb;obtain⟨lv,cv,rfl,hl,hc⟩:=hb;have hll:=hl.len;refine Zx 16 func49 C λh0=>aA<|Zac C λZ E1 Y I=>Zag C qJ C λq2=>Zf C<|bD<|Zv C gW C I fU<|Zd C (λD1 R=>NF _ b (true) _ (O.up (R _ Yf)))<|mu ?_;refine aE<|Zae C (λhc1=>?_) λhc1=>?_
 ·refine aA<|Zw [qI 0,qI 0] C DX qJ C<|Za C<|Zaa C eY ζ<|Wi ?_;exact Zp [_,_] C ⟨⟨_,_,_,C,zu,Or.inr ⟨qO,kr,C⟩⟩,C,zy⟩ λD hD=>fh
 ·have he0:J7 b (true)=0:=Yd
  obtain⟨U,hfi⟩:=PO he0;have hbo:=jv U;refine aP<|aA<|Zv C gW C I fU<|Zj C dX C<|Zh 3 C iK C I C<|Zaj C U80 C hl C<|Zd C (λD2 V=>Us (λs=>s.mixed) _ b b.lines.length 107 _ (O.up (V _ Yf)) hbo Yd λs D h4 h5=>Mc s D h4 h5)<|Zaa C eY ζ<|Wd ?_;exact Zp [_,_] C ⟨⟨_,_,_,C,zu,Or.inr ⟨qO,kr,C⟩⟩,C,zy⟩ λD hD=>iz
end L3
namespace L7
open C7
def jE(bh bc bo bY br n:Nat)(c:List Int):aF:=[(bh,qC [.func (.func 250) #[] #[qP bc,qP bY,qP br,qP bh]] 201),(bc,qC [qS bo n n] 323),(bo,qC (ints c) 312)]
theorem wW{c pre:List Int}{i:Nat}{k:Int}(h:c.take (i+1)=pre++[k])(hl:pre.length=i):c.take i=pre:=by
 have:=zn (List.take i) h;rw[List.take_take,uj (Nat.le_succ i)]at this;rw[this,vg Yd,ww Yd]
def ck(n bo:Nat):List Γ:=[qS bo n n]
def de(n bo:Nat)(vs:List Γ):Prop:=vs=ck n bo
def Yap(P:Program)(Dr:aC)(lo l n:Nat)(J Jx:List (List Int)→xL)(xs:List (List Int)):Prop:=∀pre x β D w bo,(∃r,xs=pre++x::r)→Q3 lo D w→J pre β D w→(∀b∈β,b<w.heap.size)→Le Dr D→QG β D w bo (ints x)→
    jS P l (ck n bo) w λb D' w'=>Q3 lo D' w'∧O1 β D w D' w'∧(if b then J (pre++[x]) β D' w' else Jx (pre++[x]) β D' w')
def BB(J Jx:List (List Int)→xL)(bh bc bo bY br n:Nat)(places:List Int)(pre:List Int)(i:Nat)(done:List (List Int))(v:Γ)(J':xL)(μ':aF):Prop:=
 ∃b c',v=.bool b∧c'.length=3*n∧c'.take i=pre∧μ'=jE bh bc bo bY br n c'∧(if b=true then J'=J (done++(C1.bP (places.drop i)).map λt=>pre++t)else ∃p,J'=Jx p)
def ut(p:Int)(ps pre:List Int)(k:Nat):List (List Int):=(List.range k).flatMap λ(m:Nat)=>if p=2∨p=(m:Int)then(C1.bP ps).map (λt=>pre++(m:Int)::t)else []
theorem aHM{p:Int}{ps pre:List Int}:ut p ps pre 0=[]:=rfl
theorem Xbj{p:Int}{ps pre:List Int}{k:Nat}(h:¬(p=2∨p=(k:Int))):ut p ps pre (k+1)=ut p ps pre k:=by
 unfold ut;rw[yb,xl,um,zv h,yr]
theorem Vj{p:Int}{ps pre:List Int}{k:Nat}(h:p=2∨p=(k:Int)):ut p ps pre (k+1)=ut p ps pre k++(C1.bP ps).map (λt=>(pre++[(k:Int)])++t):=by
 unfold ut;rw[yb,xl,um,zo h];simp
theorem Ul{p:Int}{ps pre:List Int}:ut p ps pre 2=(C1.bP (p::ps)).map (λt=>pre++t):=by
 rw[show C1.bP (p::ps)=(if p=2∨p=0 then(C1.bP ps).map (0:: ·)else [])++(if p=2∨p=1 then(C1.bP ps).map (1:: ·)else [])from C];unfold ut;rw[show List.range 2=[0,1]from C,xy,xy,List.flatMap_nil,yr,ze];congr 1
 ·by_cases h:p=2∨p=0
  ·rw[zo h,zo xd];simp
  ·rw[zv h,zv xd];rfl
 ·by_cases h:p=2∨p=1
  ·rw[zo h,zo xd];simp
  ·rw[zv h,zv xd];rfl
theorem Cm{p:Int}{ps pre:List Int}{k:Nat}(hk:k<2):∃r,ut p ps pre 2=ut p ps pre (k+1)++r:=by
 have e:k=0∨k=1:=Yd
 rcases e with rfl|rfl
 ·refine⟨[1].flatMap λ(m:Nat)=>if p=2∨p=(m:Int)then(C1.bP ps).map (λt=>pre++(m:Int)::t)else [],?_⟩;unfold ut;rw[show List.range 2=[0]++[1]from C,xl];rfl
 ·exact⟨[],Yf⟩
theorem aHD{c pre:List Int}{i:Nat}{k:Int}(hi:i<c.length)(h:c.take i=pre):(c.set i k).take (i+1)=pre++[k]:=by
 rw[zg,List.getElem?_set_self hi,yd,List.take_set_of_le (zk _),h]
theorem Et{l:List Ch}{i:Nat}{p:Int}(h:(kY l)[i]?= some p):∃x,l[i / 3]?= some x∧x.parts.l[i%3]?= some p:=by
 induction l generalizing i with
 |nil=>simp[kY]at h
 |cons c l ih=>
  rw[show kY (c::l)=c.parts.a::c.parts.b::c.parts.c::kY l from C]at h;match i with
  |0=>exact⟨c,C,by simpa [Pt.l]using h⟩
  |1=>exact⟨c,C,by simpa [Pt.l]using h⟩
  |2=>exact⟨c,C,by simpa [Pt.l]using h⟩
  |j+3=>
   obtain⟨x,h1,h2⟩:=ih (i:=j) xd;exact⟨x,by rw[show(j+3) / 3=j / 3+1 by omega];simpa using h1,by rw[show(j+3)%3=j%3 by omega];exact h2⟩
theorem d6{bh bc bo bY br n:Nat}{c:List Int}:(bo,Obj.cells (ints c).toArray 312 (0,0))∈jE bh bc bo bY br n c:=zb _ zi
theorem Wbo(i:Nat):0+((i:Int) / 3).toNat*3+((i:Int)%3).toNat*1=i:=Yd
theorem A3{lo l:Nat}{J Jx:List (List Int)→xL}{y:aS}{xs:List (List Int)}{Dr Dy:aC}{W:List aC}{bh bc bo bY br:Nat}{cv qv:Γ}(hK:y.chairs.length≤7)
  (hs:∀pre,k9 lo (J pre)) (hsx:∀pre,k9 lo (Jx pre)) (hY:Yap prog Dr lo l y.chairs.length J Jx xs) (hDr:Dr∈W) (hDy:Dy∈W) (hA:At Dr br 0 [cv,qI y.fit,qv]) (hc:Sl Dr I0 4 cv y.chairs) (hB:At Dy bY 0 [.func (.yield l) #[] #[]]):
  ∀(j i:Nat) (pre c:List Int) (done rest:List (List Int)) (iv:Int),iv=i→i+j=3*y.chairs.length→pre.length=i→c.length=3*y.chairs.length→c.take i=pre→
   xs=done++(C1.bP ((kY y.chairs).drop i)).map (λt=>pre++t)++rest→
   lr prog 250 [qI iv,qP bc,qP bY,qP br,qP bh] lo (J done) (jE bh bc bo bY br y.chairs.length c) W (BB J Jx bh bc bo bY br y.chairs.length (kY y.chairs) pre i done):=by
 intro j;induction j using Nat.strongRecOn with
 |_ j ih=>
 intro i pre c done rest iv hiv hij hl h9 hp hxs;subst hiv;have hmx:=hc.len;have hfl:=rZ y.chairs;refine j4 (L:=jE bh bc bo bY br y.chairs.length c) 52 func250 C C C C<|aA<|Zf C<|aJ<|Za C<|HX C C C Yd Yd Ye C zy<|Za C<|uR C C C Yd Yd Ye C zy<|Zf C<|Zf C<|bD<|Za C ?_;refine Zq C RD C zi C<|nB C U323 C C C zy<|Zas C<|aE<|Zae C (λhc1=>?_) λhc1=>?_
 ·have hin:i=3*y.chairs.length:=Yd
  subst hin;have hleaf:c=pre:=by rw[←hp,ww Yd]
  rw[←hfl,oy]at hxs;simp only[C1.bP,yl,tj,yr]at hxs;rw[←hleaf,yy,rh]at hxs;refine aA<|Zh 0 C Ybj C hB C<|Zq C RD C zi C<|NJ (l:=l) (J1:=J (done++[c])) (J0:=Jx (done++[c])) C C C C (hs _) (hsx _) (λD w hd hJ hb hl=>hY done c _ D w bo ⟨rest,hxs⟩ hd hJ (λb hbm=>ab) (hl _ hDr) ⟨n5.2 ⟨_,d6,C⟩,(hb _ d6).2,_,_,(hb _ d6).1⟩) C zy λR J1 U=>Wi ?_
  exact nU (P:=prog) (fn:=f250) (N:=52) (vs:=[_]) C C ⟨C,zy⟩ (λD h=>⟨D,h,Le.refl D⟩) ⟨R,c,C,h9,hp,C,by cases R<;>simp only[U,yo,wt,xx];exact⟨_,C⟩;rw[←hfl,oy];simp[C1.bP,hleaf]⟩
 ·have hin:i<(kY y.chairs).length:=Yd
  obtain⟨p,hpi⟩:=cF (kY y.chairs) i;obtain⟨x,V,hm⟩:=Et hpi;have hx:y.chairs[((i:Int) / 3).toNat]?= some x:=by rw[show((i:Int) / 3).toNat=i / 3 by omega];exact V
  have hd:(kY y.chairs).drop i=p::(kY y.chairs).drop (i+1):=by rw[xc hin];congr 1;exact yi ((yz hin).symm.trans hpi)
  rw[hd,←Ul]at hxs;refine aP<|bL<|Za C<|aE<|Za4<|GG (γ:=Nat×List Int) (λg=>2-g.1) (λg=>g.1≤2∧g.2.length=3*y.chairs.length∧g.2.take i=pre) (λg=>J (done++ut p ((kY y.chairs).drop (i+1)) pre g.1)) (λg=>[(22,qI (g.1:Int))]) [(8,_),(7,_),(6,_),(0,_),(1,_),(3,_),(4,_)] (λg=>jE bh bc bo bY br y.chairs.length g.2) (λg=>W) (0,c) ⟨Yf,h9,hp⟩ (by simp[aHM]) ⟨Ya,zy⟩ cE zp (aN) ?_;rintro⟨k,c1⟩ ⟨Y,I,O⟩;simp only at Y I O;refine aA<|Zal C<|bX<|Zae C (λhc2=>?_) λhc2=>?_
  ·refine aP<|Za6<|Za4<|aA<|Za C<|Zf C<|aJ<|Zj C iS C<|Zh 0 C qG C hA C<|Za C<|Za C<|Zy C U84 nK C hc C hx λR o1 Z hE hI hF=>?_;obtain rfl:Z=[qI _,qI _,qI _,qI _]:=hE;refine Zj C V7 C<|fH C U312 aI C C Yd Yd C zy<|eE (o:=_+1) (k:=((i:Int)%3).toNat*1) C aH C hF.tail Yo (by rw[show((i:Int)%3).toNat=i%3 by omega];exact Rh hm) n4 C zy<|Zf C<|aJ<|Za C<|ud ?_
   refine' dU 4 (s:=35) (p:=39) C (λhH=>?_) (λhH=>?_) ?_;rotate_left
   ·refine Zb C<|Zb C<|jl ?_;exact aQ 3
   ·refine mx ?_;exact aQ 3
   refine aE<|Zai C (λhc3=>?_) λhc3=>?_
   ·have hpk:p=2∨p=(k:Int):=ua
    obtain⟨rr,hr⟩:=Cm (p:=p) (ps:=(kY y.chairs).drop (i+1)) (pre:=pre) (k:=k) Yd;refine aA<|Zq C RD C zi C<|Za C<|Za C<|Za C<|eV C U323 pX C C Yd Yd C zy<|fH C U312 aI C C Yd Yd C zy<|zY (k:=i) C aI (by show some (Value.pointer (some ⟨bo,0+((i:Int) / 3).toNat*3+((i:Int)%3).toNat*1,none⟩))=_;rw[Wbo]) C (.tail (.tail ζ)) Yl zy<|aJ<|Zq C sG C zu C<|Za C<|Zaf C ?_;refine yQ C C C C (ih (j-1) Yd (i+1) (pre++[(k:Int)]) (c1.set i k) (done++ut p ((kY y.chairs).drop (i+1)) pre k) (rr++rest) (i+1:Int) Yd Yd xw (by simpa using I) (aHD Yd O) (by rw[hxs,hr,Vj hpk];simp)) C zy ?_
    rintro _ J2 _ ⟨b2,c2,rfl,h9',hp',rfl,hJ2⟩;refine Zav C<|aE<|Zai C (λhc4=>?_) λhc4=>?_
    ·obtain rfl:b2=false:=pz
     refine aA<|Wg ?_;exact nU (P:=prog) (fn:=f250) (N:=52) (vs:=[_]) C C ⟨C,zy⟩ (λD h=>⟨D,h,Le.refl D⟩) ⟨false,c2,C,h9',wW hp' hl,C,by simpa using hJ2⟩
    ·obtain rfl:b2=true:=pz
     refine xi ?_;exact xK 30 (k+1,c2) ⟨Yl,h9',wW hp' hl⟩ Yl (by simpa only[yo,Vj hpk,yy]using hJ2) ⟨Ya,zy⟩ C C zp (aN)
   ·have hpk:¬(p=2∨p=(k:Int)):=ua
    refine xi ?_;exact xK 19 (k+1,c1) ⟨Yl,I,O⟩ Yl (by rw[Xbj hpk]) ⟨Ya,zy⟩ C C zp (aN)
  ·refine Wk ?_;exact nU (P:=prog) (fn:=f250) (N:=52) (vs:=[_]) C C ⟨C,zy⟩ (λD h=>⟨D,h,Le.refl D⟩) ⟨true,c1,C,I,O,C,by simp only[yo];rw[hd,←Ul,show k=2 by omega]⟩
theorem m1(y:aS)(Dr:aC)(br:Nat)(cv qv:Γ)(I:y.chairs.length≤7)(hA:At Dr br 0 [cv,qI y.fit,qv])(hc:Sl Dr I0 4 cv y.chairs):
  OK prog 249 [qP br] Dr (C1.bP (kY y.chairs)) (de y.chairs.length) ints:=by
 refine KR 12 func249 C C C C λlo l J Jx hs hsx hY=>aA<|Zac C λV E1 R O=>aJ<|Zj C iS C<|Zh 0 C qG C hA C<|Zaj C U84 C hc C<|vP C U323 pX AN C Yal C C Yd (j8 Yf C) C zy λbo=>Zag C Xcy C λY=>Zs C aFN ζ C<|aJ<|Zag C FX C λZ=>?_;refine aJ<|Za1 C<|Zs C GS ζ C<|aE<|aM<|Zq C sG C zu C<|yQ C C C C (A3 (l:=l) I hs hsx (λpre x β D w bo h1 h2 h3 h4 h5 U=>hY pre x β D w bo _ h1 h2 h3 h4 h5 C U) Yf Yf hA hc O (3*y.chairs.length) 0 [] (List.replicate (y.chairs.length*3) 0) [] [] 0 C Yd C xw C Yf) C zy ?_;rintro _ J2 _ ⟨b2,c2,rfl,h9',hp',rfl,hJ2⟩;refine Zap ?_;exact nU (P:=prog) (fn:=f249) (N:=12) (vs:=[]) C C zy (λD h=>⟨D,jb,Le.refl D⟩) er
theorem wH(yv:Γ)(y:aS)(D:aC)(hy:gZ D yv y)(I:y.chairs.length≤7):
  Fn prog 183 #[yv] D (λD' v=>∃br,v=.func (.func 249) #[] #[qP br]∧OK prog 249 [qP br] D' (C1.bP (kY y.chairs)) (de y.chairs.length) ints):=by
 obtain⟨cv,qv,rfl,hc,hq⟩:=hy;refine Zx 4 func183 C λh0=>aA<|Zac C λR E1 U O=>Zf C<|aJ<|Za1 C<|Wd ?_;exact aD C λD hD=>⟨_,C,m1 y _ R cv qv I (O.up (hD _ Yf)) (hc.up I0.up (hD _ Yf))⟩
end L7
end Go.Fs
