/- Of the proof of BookGoesOn: BW29, BW30, BW31, Eq9, BW32, BW33, BW49, BW46, BW50. -/
import Derived.Test.YtelhnbcdablgoaaGreatDoorZBookGoesOnAO
import Derived.Test.YtelhnbcdablgoaaGreatDoorZBookGoesOnAE
import Derived.Test.YtelhnbcdablgoaaGreatDoorZBookGoesOnAC
import Derived.Test.YtelhnbcdablgoaaGreatDoorZBookGoesOnAD
namespace Go.Fs
open Go.Proofs
namespace L12
open C12 Go.Lib
theorem PF(l:List ByteArray):∀u∈l.map Value.string,cell1 u=true:=by
 intro u hu;obtain⟨x,_,rfl⟩:=aIY.1 hu;rfl
theorem SZ{α:Type}(f:α→Value)(l:List α):l.flatMap (fun x=>[f x])=l.map f:=by
 induction l with
 |nil=>rfl
 |cons a l ih=>rw[aKR,ih];rfl
theorem _root_.Go.Fs.jE.strs{D:aA}{v:Value}{l:List ByteArray}(h:Sl D RS 1 v l):jE D v l.length (l.map Value.string):=by
 rw[←SZ];exact jE.of (R:=RS) (fun _ _ _ h=>h) (fun _=>rfl) h
section
variable{α:Type}[DecidableEq α]{xs ys:List α}{a b:α}{k:Nat}
omit [DecidableEq α]in
theorem UH(ha:xs[k]?= some a)(hb:ys[k]?= some b)(h:xs.take k=ys.take k)(e:a=b):xs.take (k+1)=ys.take (k+1):=by
 rw[aJP,aJP,ha,hb,h,e]
theorem aBJ(h:xs.length≠ys.length):decide (xs=ys)=false:=decide_eq_false fun e=>h (by rw[e])
theorem aGK(ha:xs[k]?= some a)(hb:ys[k]?= some b)(h:a≠b):decide (xs=ys)=false:=decide_eq_false fun e=>h (by rw[e,hb]at ha;exact(aJZ ha).symm)
theorem aBW(hl:xs.length=ys.length)(hk:xs.length≤k)(h:xs.take k=ys.take k):decide (xs=ys)=true:=decide_eq_true (by rwa [aKC hk,aKC Yd]at h)
end
theorem II{xs:List ByteArray}{x:ByteArray}{k n:Nat}(hx:xs[k]?= some x)(h:∀y∈xs.take k,y.size≤n)(hs:x.size≤n):∀y∈xs.take (k+1),y.size≤n:=by
 intro y hy;rw[aJP,hx,aJO]at hy;rcases hy with hy|hy
 ·exact h y hy
 ·simp at hy;subst hy;exact hs
theorem DR{xs:List ByteArray}(h:40<xs.length):cK xs=3:=by
 unfold cK;rw[aJT];simp;left;omega
theorem CH{xs:List ByteArray}{x:ByteArray}{k:Nat}(hx:xs[k]?= some x)(h:50<x.size):cK xs=3:=by
 unfold cK;rw[aJT];simp only[aKS,aJV,aNS,List.all_eq_false];exact aJE ⟨x,aJA hx,by simp;omega⟩
theorem X2{xs:List ByteArray}(h:xs.length≤40)(h2:∀x∈xs,x.size≤50):cK xs=0:=by
 unfold cK;rw[aJM];simp only[aKS,aJV,aNS,List.all_eq_false,not_or,not_exists,not_and];refine⟨by omega,fun x hx=>?_⟩;have:=h2 x hx;simp;omega
def V0(xs:List ByteArray):Bool:=decide (xs.length≤45)&&xs.all fun x=>decide (x.size≤70)
theorem V1{xs:List ByteArray}:V0 xs=true ↔ xs.length≤45∧∀x∈xs,x.size≤70:=by unfold V0;simp
theorem HK{xs:List ByteArray}{x:ByteArray}{k:Nat}(hx:xs[k]?= some x)(h:70<x.size):V0 xs=false:=by
 rw[←Bool.not_eq_true,V1];rintro⟨_,h2⟩;have:=h2 x (aJA hx);omega
theorem LM{xs:List ByteArray}{k:Nat}(hk:xs.length≤k∨46≤k)(h:∀x∈xs.take k,x.size≤70):V0 xs=decide ((xs.length:Int)≤45):=by
 rw[aMN,V1,aJV];constructor
 ·rintro⟨h1,_⟩;omega
 ·intro h1;have h2:xs.take k=xs:=aKC Yd;rw[h2]at h;exact⟨by omega,h⟩
theorem z7:∀{ps:List (List UInt8)} {ns:List Int},ps.mapM lR=some ns→ns.length=ps.length
 | [],ns,h=>by
  obtain rfl:([]:List Int)=ns:=by simpa using h
  rfl
 |p::ps,ns,h=>by
  rw[aMP]at h;cases hp:lR p with
  |none=>rw[hp]at h;cases h
  |some q=>
   cases hq:ps.mapM lR with
   |none=>rw[hp,hq]at h;cases h
   |some qs=>
    rw[hp,hq]at h;obtain rfl:q::qs=ns:=aJZ h;rw[aJD,aJD,z7 hq]
theorem SC{x:ByteArray}{ns:List Int}(h:gG x.data.toList=some ns)(hs:x.size≤1000):ns.length≤1001:=by
 have hc:=x3 x.data.toList;have hl:x.data.toList.length=x.size:=rfl;unfold gG at h;split at h
 ·cases h
 ·rename_i p ps hps;split at h
  ·have:=z7 h;rw[hps,aJD]at hc;omega
  ·cases h
theorem LQ{D:aA}{nv:Value}{nb:Bool}{o:Option (List Int)}(hb:nb=false)(h:match o with|some ns=>nb=true∧Sl D RI 1 nv ns|none=>nb=false):o=none:=by
 cases o with
 |none=>rfl
 |some ns=>rw[hb]at h;cases h.1
def uP(br:Bool)(ns:List Int)(j:Nat):Nat:=((List.range j).filter fun i=>(decide (1≤i)&&decide (ns[i]?= some 2))&&(br||decide (i=2))).length
theorem y9(br:Bool)(ns:List Int):uP br ns 1=0:=rfl
theorem IE(br:Bool)(ns:List Int)(j:Nat):uP br ns j≤j:=by
 unfold uP;exact aLS (aLZ _ _) Ye
theorem Y4(br:Bool)(ns:List Int)(j:Nat):uP br ns (j+1)=uP br ns j+if((decide (1≤j)&&decide (ns[j]?= some 2))&&(br||decide (j=2)))=true then 1 else 0:=by
 unfold uP;rw[aLG,aLP,aIX];congr 1;rw[aMQ];split<;>rfl
theorem AB{br:Bool}{ns:List Int}{j:Nat}{m:Int}(hm:ns[j]?= some m)(hj:1≤j)(h:(decide (m=2)&&(br||decide ((j:Int)=2)))=true):uP br ns (j+1)=uP br ns j+1:=by
 rw[Y4,aJT];simp only[aJI,aKS,aJV]at h ⊢
 refine⟨⟨hj,by rw[hm,h.1]⟩,h.2.imp id (fun e=>by omega)⟩
theorem HW{br:Bool}{ns:List Int}{j:Nat}{m:Int}(hm:ns[j]?= some m)(h:(decide (m=2)&&(br||decide ((j:Int)=2)))=false):uP br ns (j+1)=uP br ns j:=by
 rw[Y4,aJM]
 ·rfl
 ·intro hh;simp only[aJI,aKS,aJV]at hh;have:(decide (m=2)&&(br||decide ((j:Int)=2)))=true:=by
   simp only[aJI,aKS,aJV];refine⟨?_,hh.2.imp id (fun e=>by omega)⟩;have h2:=hh.1.2;rw[hm]at h2;exact aJZ h2
  rw[this]at h;cases h
theorem MP(br:Bool)(ns:List Int){j:Nat}(h:j≤max 1 ns.length)(h2:ns.length≤j):uP br ns j=uP br ns ns.length:=by
 by_cases hl:ns.length=0
 ·rw[hl];obtain rfl|rfl:j=0∨j=1:=by omega
  ·rfl
  ·rfl
 ·obtain rfl:j=ns.length:=by omega
  rfl
def Y3(x:ByteArray):ByteArray:=(dA x).headD ⟨#[]⟩
def aBD(x:ByteArray):Nat:=match gG x.data.toList with
 |none=>0
 |some _=>if Y3 x=⟨#[115,109,117,100,103,101]⟩then 1 else 0
def aEA(x:ByteArray):Nat:=match gG x.data.toList with
 |none=>0
 |some ns=>if(decide (Y3 x=⟨#[98,114,111,107,101,110]⟩)||decide (Y3 x=⟨#[112,97,114,116]⟩))=true then uP (decide (Y3 x=⟨#[98,114,111,107,101,110]⟩)) ns ns.length else 0
def FC(xs:List ByteArray):Bool:=decide (((xs.map aBD).sum:Int)≤3)&&decide (((xs.map aEA).sum:Int)≤4)
def s8(xs:List ByteArray):Bool:=(V0 xs&&decide (cK xs=0))&&FC xs
theorem AL{xs:List ByteArray}(h:s8 xs=true):cK xs=0:=by
 unfold s8 at h;simp only[aJI,aJV]at h;exact h.1.2
theorem OP{xs:List ByteArray}{sm un:Nat}(h2:sm=(xs.map aBD).sum)(h3:un=(xs.map aEA).sum):(decide ((sm:Int)≤3)&&decide ((un:Int)≤4))=FC xs:=by rw[h2,h3];rfl
theorem qL{xs:List ByteArray}{x:ByteArray}{k:Nat}{f:ByteArray→Nat}(hx:xs[k]?= some x):((xs.take (k+1)).map f).sum=((xs.take k).map f).sum+f x:=by
 rw[aJP,hx];simp
section
variable{x p0:ByteArray}{ps:List ByteArray}{ns:List Int}{j:Nat}
theorem VN(h:gG x.data.toList=none):aBD x=0:=by unfold aBD;rw[h]
theorem WU(h:gG x.data.toList=none):aEA x=0:=by unfold aEA;rw[h]
theorem O3(hc:dA x=p0::ps):Y3 x=p0:=by unfold Y3;rw[hc];rfl
theorem aCM(hc:dA x=p0::ps)(h:gG x.data.toList=some ns)(hp:decide (p0=⟨#[115,109,117,100,103,101]⟩)=true):aBD x=1:=by unfold aBD;rw[h,O3 hc];exact aJT (aKO hp)
theorem aEG(hc:dA x=p0::ps)(h:gG x.data.toList=some ns)(hp:decide (p0=⟨#[115,109,117,100,103,101]⟩)=false):aBD x=0:=by unfold aBD;rw[h,O3 hc];exact aJM (aKP hp)
theorem WX(hc:dA x=p0::ps)(h:gG x.data.toList=some ns)(he:(decide ((j:Int)<(ns.length:Int))&&(decide (p0=⟨#[98,114,111,107,101,110]⟩)||decide (p0=⟨#[112,97,114,116]⟩)))=false)(h6:j≤max 1 ns.length)(h8:j=1∨(decide (p0=⟨#[98,114,111,107,101,110]⟩)||decide (p0=⟨#[112,97,114,116]⟩))=true):aEA x=uP (decide (p0=⟨#[98,114,111,107,101,110]⟩)) ns j:=by
 unfold aEA;rw[h,O3 hc];simp only;rw[Bool.and_eq_false_iff]at he;by_cases hb:(decide (p0=⟨#[98,114,111,107,101,110]⟩)||decide (p0=⟨#[112,97,114,116]⟩))=true
 ·rw[aJT hb];have hj:=he.resolve_right (by rw[hb];simp)
  exact(MP _ ns h6 (by have:=aKP hj;omega)).symm
 ·rw[aJM hb];obtain rfl:=h8.resolve_right hb;rfl
end
theorem LU{D:aA}{nv:Value}{nb:Bool}{o:Option (List Int)}(hb:nb=true)(h:match o with|some ns=>nb=true∧Sl D RI 1 nv ns|none=>nb=false):∃ns,o=some ns∧Sl D RI 1 nv ns:=by
 cases o with
 |none=>simp only at h;rw[hb]at h;cases h
 |some ns=>exact⟨ns,rfl,h.2⟩
theorem uD(sv:Value)(xs:List ByteArray)(D:aA)(hS:Sl D RS 1 sv xs)(hl:xs.length≤10000000):Fn Tryz.prog 10 #[sv] D (fun D' v=>Sl D' RS 1 v xs):=by
 refine enter 6 Tryz.func10 rfl rfl rfl rfl fun h0=>C.s1<|Zh rfl<|L.n3<|Zp rfl U22 Tf.s9 Tf.z9 rfl rfl rfl rfl .nil (fun b901 D901 hD901 hA901=>Za rfl<|aU (A:=[]) (ν:=[]) (B:=[]) rfl U22 rfl rfl Tf.s9 Tf.z9 rfl Tf.i9 rfl rfl rfl bL.nil (jE.strs hS) Ye Yan rfl (PF _) Yd (aJQ rfl) rfl aOJ (fun v1 ν1 ha1=>Zh rfl<|L.n5 ?_))
 have ha2:bL 9 1 v1 xs.length (xs.map Value.string) ν1:=by simpa using ha1
 refine eK (A:=[]) (B:=[]) ha2 rfl (fun D2 hD2 hF=>?_);exact leave1 rfl rfl rfl rfl (fun D' hD=>(hF.strs rfl Yd).up RS.up (hD _ Ye))
theorem HB(av bv:Value)(xs ys:List Int)(D:aA)(hx:Sl D RI 1 av xs)(hy:Sl D RI 1 bv ys):Fn Tryz.prog 23 #[av,bv] D (fun _ v=>v=.bool (decide (xs=ys))):=by
 have hl:=hx.len;refine enter 26 Tryz.func23 rfl rfl rfl rfl fun h0=>C.s1<|Zh rfl<|L.n4<|Za rfl<|aR rfl U43 rfl hx rfl rfl trivial<|Za rfl<|aR rfl U25 rfl hy rfl rfl trivial<|dZ rfl rfl rfl rfl trivial<|L.n1<|aE rfl (fun hc1=>?_) (fun hc1=>?_)
 ·refine C.s1<|Zh rfl<|L.n5<|Zai ?_;exact leave1 rfl rfl rfl rfl (fun D hD=>aJS Value.bool (aBJ Yd).symm)
 ·have hlen:xs.length=ys.length:=by omega
  refine C.kn<|C.s2<|Zh rfl<|L.n1<|Zaj<|cJ (γ:=Nat) (fun k=>xs.length-k) (fun k=>k≤xs.length∧xs.take k=ys.take k) (fun k=>[(5,.int .i64 (k:Int))]) [(4,_),(0,_),(1,_)] (fun k=>[D]) 0 Ye ⟨Yb,aOJ⟩ C.rs (aD) ?_;rintro k ⟨h1,h2⟩;refine C.s2<|Za rfl<|Za rfl<|aR rfl U43 rfl hx rfl rfl trivial<|Zae rfl<|L.n1<|aE rfl (fun hc2=>?_) (fun hc2=>?_)
  ·have hk:k<xs.length:=by omega
   obtain⟨a,ha⟩:=C.ge xs k;obtain⟨b,hb⟩:=C.ge ys k;refine C.kn<|aM<|Zaj<|aM<|C.drawA [] 3 9 242 (fun _ _ _ h=>cA (P:=Tryz.prog) (fn:=Tryz.f23) _ _ _ h)<|Za rfl<|Za rfl<|Zs rfl U43 Tf.s44 rfl hx rfl ha (fun b1 o1 cs1 hr1 hcl1 hA1=>?_);obtain rfl:cs1=[.int .i64 _]:=hr1;refine Zf 0 rfl Tf.a44 rfl hA1 rfl<|Za rfl<|Za rfl<|Zs rfl U25 Tf.s3 rfl hy rfl hb (fun b2 o2 cs2 hr2 hcl2 hA2=>?_);obtain rfl:cs2=[.int .i64 _]:=hr2;refine Zf 0 rfl Tf.a3 rfl hA2 rfl<|dZ rfl rfl rfl rfl trivial<|L.n1<|aE rfl (fun hc3=>?_) (fun hc3=>?_)
   ·refine C.s1<|Zh rfl<|L.n5<|Zam<|Zai<|Zai<|Zam<|Zai ?_;exact leave1 rfl rfl rfl rfl (fun D hD=>aJS Value.bool (aGK ha hb (hc3)).symm)
   ·refine bQ<|Zal<|Zah<|C.rg<|Za rfl<|Zy rfl<|Zh rfl<|Zab ?_;exact aG 17 (k+1) ⟨by omega,UH ha hb h2 Yd⟩ Yd ⟨Yb,aOJ⟩ rfl rfl (LE _) (aD)
  ·refine aQ<|Zak<|Zak<|Zan<|Zah<|C.s1<|Zh rfl<|L.n5 ?_;exact leave1 rfl rfl rfl rfl (fun D hD=>aJS Value.bool (aBW hlen Yd h2).symm)
theorem HD(sv:Value)(xs:List ByteArray)(D:aA)(hS:Sl D RS 1 sv xs):Fn Tryz.prog 18 #[sv] D (fun _ v=>v=.int .i64 (cK xs)):=by
 have hl:=hS.len;refine enter 19 Tryz.func18 rfl rfl rfl rfl fun h0=>C.s1<|Zh rfl<|L.n4<|Za rfl<|aR rfl U22 rfl hS rfl rfl trivial<|eB rfl rfl rfl rfl trivial<|L.n1<|aE rfl (fun hc1=>?_) (fun hc1=>?_)
 ·refine C.s1<|Zh rfl<|L.n5<|Zai ?_;exact leave1 rfl rfl rfl rfl (fun D hD=>by show Value.int _ _=_;rw[DR Yd])
 ·have h40:xs.length≤40:=by omega
  refine C.kn<|C.s2<|Zh rfl<|L.n1<|Zaj<|cJ (γ:=Nat) (fun k=>xs.length+1-k) (fun k=>k≤xs.length∧∀x∈xs.take k,x.size≤50) (fun k=>[(3,.int .i64 (k:Int))]) [(2,_),(0,_)] (fun k=>[D]) 0 ⟨by omega,by simp⟩ ⟨Yb,aOJ⟩ C.rs (aD) ?_;rintro k ⟨h1,h2⟩;refine C.s2<|Za rfl<|Za rfl<|aR rfl U22 rfl hS rfl rfl trivial<|Zae rfl<|L.n1<|aE rfl (fun hc2=>?_) (fun hc2=>?_)
  ·have hk:k<xs.length:=by omega
   obtain⟨x,hx⟩:=C.ge xs k;refine C.kn<|aM<|Zaj<|C.s1<|Za rfl<|Za rfl<|Zs rfl U22 Tf.s9 rfl hS rfl hx (fun b1 o1 cs1 hr1 hcl1 hA1=>?_);obtain rfl:cs1=[.string _]:=hr1;refine Zf 0 rfl Tf.a9 rfl hA1 rfl<|gF rfl U9 rfl rfl rfl trivial<|eB rfl rfl rfl rfl trivial<|L.n1<|aE rfl (fun hc3=>?_) (fun hc3=>?_)
   ·refine C.s1<|Zh rfl<|L.n5<|Zam<|Zai<|Zai<|Zam<|Zai ?_;exact leave1 rfl rfl rfl rfl (fun D hD=>by show Value.int _ _=_;rw[CH hx Yd])
   ·refine bQ<|Zal<|Zah<|C.rg<|Za rfl<|Zy rfl<|Zh rfl<|Zab ?_;exact aG 14 (k+1) ⟨by omega,II hx h2 Yd⟩ Yd ⟨Yb,aOJ⟩ rfl rfl (LE _) (aD)
  ·obtain rfl:k=xs.length:=by omega
   rw[aKN]at h2;refine aQ<|Zak<|Zak<|Zan<|Zah<|C.s1<|Zh rfl<|L.n5 ?_;exact leave1 rfl rfl rfl rfl (fun D hD=>by show Value.int _ _=_;rw[X2 h40 h2])
theorem LA(sv:Value)(xs:List ByteArray)(D:aA)(hS:Sl D RS 1 sv xs):Fn Tryz.prog 13 #[sv] D (fun _ v=>v=.bool (V0 xs)):=by
 have hl:=hS.len;refine enter 23 Tryz.func13 rfl rfl rfl rfl fun h0=>C.s1<|Zh rfl<|L.n4<|Zh rfl<|L.n1<|Zaj<|cJ (γ:=Nat) (fun k=>xs.length+1-k) (fun k=>k≤xs.length∧∀x∈xs.take k,x.size≤70) (fun k=>[(3,.int .i64 (k:Int))]) [(2,_),(0,_)] (fun k=>[D]) 0 ⟨by omega,by simp⟩ ⟨Yb,aOJ⟩ C.rs (aD) ?_
 rintro k ⟨h1,h2⟩;refine C.s2<|Za rfl<|Za rfl<|aR rfl U22 rfl hS rfl rfl trivial<|Zae rfl<|Za rfl ?_;refine' L.anK 3 (s:=8) (p:=11) rfl (fun hg1=>?_) (fun hg1=>?_) ?_;rotate_left
 ·refine Zb rfl<|IJ rfl rfl rfl rfl ⟨_,rfl,rfl⟩<|Zac rfl ?_;exact L.cu 2
 ·refine Zk rfl<|Zk rfl<|Zad rfl ?_;exact L.cu 2
 refine L.n1<|aJ rfl (fun hc1=>?_) (fun hc1=>?_)
 ·have hk:k<xs.length:=by simp at hc1;omega
  obtain⟨x,hx⟩:=C.ge xs k;refine C.kn<|aM<|Zaj<|C.s1<|Za rfl<|Za rfl<|Zs rfl U22 Tf.s9 rfl hS rfl hx (fun b1 o1 cs1 hr1 hcl1 hA1=>?_);obtain rfl:cs1=[.string _]:=hr1;refine Zf 0 rfl Tf.a9 rfl hA1 rfl<|gF rfl U9 rfl rfl rfl trivial<|eB rfl rfl rfl rfl trivial<|L.n1<|aE rfl (fun hc2=>?_) (fun hc2=>?_)
  ·refine C.s1<|Zh rfl<|L.n5<|Zam<|Zai<|Zai<|Zam<|Zai ?_;exact leave1 rfl rfl rfl rfl (fun D hD=>by show Value.bool _=_;rw[HK hx Yd])
  ·refine bQ<|Zal<|Zah<|C.rg<|Za rfl<|Zy rfl<|Zh rfl<|Zab ?_;exact aG 16 (k+1) ⟨by omega,II hx h2 Yd⟩ Yd ⟨Yb,aOJ⟩ rfl rfl (LE _) (aD)
 ·have hk46:xs.length≤k∨46≤k:=by simp at hc1;omega
  refine aQ<|Zak<|Zak<|Zan<|Zah<|C.s1<|Za rfl<|aR rfl U22 rfl hS rfl rfl trivial<|iJ rfl rfl rfl rfl trivial<|Zh rfl<|L.n5 ?_;exact leave1 rfl rfl rfl rfl (fun D hD=>by show Value.bool (decide _)=_;rw[LM hk46 h2])
theorem HE(sv:Value)(xs:List ByteArray)(D:aA)(hS:Sl D RS 1 sv xs)(hn:xs.length≤1000)(hsz:∀x∈xs,x.size≤1000):Fn Tryz.prog 29 #[sv] D (fun _ v=>v=.bool (FC xs)):=by
 have hl:=hS.len;refine enter 72 Tryz.func29 rfl rfl rfl rfl fun h0=>C.s1<|Zh rfl<|L.n3<|Zh rfl<|Zh rfl<|L.n4<|Zh rfl<|L.n1<|Zaj<|cJ (γ:=Nat×Nat×Nat) (fun g=>xs.length-g.1) (fun g=>g.1≤xs.length∧g.2.1=((xs.take g.1).map aBD).sum∧g.2.2=((xs.take g.1).map aEA).sum∧g.2.1≤g.1∧g.2.2≤1002*g.1) (fun g=>[(5,.int .i64 (g.1:Int)),(3,.int .i64 (g.2.1:Int)),(4,.int .i64 (g.2.2:Int))]) [(2,_),(0,_)] (fun g=>[D]) (0,0,0) ⟨by simp,by simp,by simp,by simp,by simp⟩ ⟨Yb,Yb,Yb,aOJ⟩ C.rs (aD) ?_
 rintro⟨k,sm,un⟩ ⟨h1,h2,h3,h21,h31⟩;simp only at h1 h2 h3 h21 h31;refine C.s2<|Za rfl<|Za rfl<|aR rfl U22 rfl hS rfl rfl trivial<|Zae rfl<|L.n1<|aE rfl (fun hc1=>?_) (fun hc1=>?_)
 ·simp only at hc1;have hk:k<xs.length:=by omega
  obtain⟨x,hx⟩:=C.ge xs k;have hxs:=hsz x (aJA hx);refine C.kn<|aM<|Zaj<|C.s1<|Za rfl<|Za rfl<|Zs rfl U22 Tf.s9 rfl hS rfl hx (fun b1 o1 cs1 hr1 hcl1 hA1=>?_);obtain rfl:cs1=[.string _]:=hr1;refine Zf 0 rfl Tf.a9 rfl hA1 rfl<|Zt rfl (fun D1 hD1=>y0 x hxs _) (fun v1 D1 hD1 hp1=>?_);obtain⟨nv,nb,rfl,hns0⟩:=hp1;refine Za rfl<|Zaa rfl<|Zaa rfl<|Zh rfl<|Zh rfl<|L.n4<|Za rfl<|Zag rfl<|L.n1<|aJ rfl (fun hc2=>?_) (fun hc2=>?_)
  ·have hns:=LQ Yak hns0;refine aQ<|Zak<|Zan<|Zah<|C.rg<|Za rfl<|Zy rfl<|Zh rfl<|Zab ?_;exact aG 22 (k+1,sm,un) ⟨by simp only;omega,by simp only;rw[qL hx,VN hns];omega,by simp only;rw[qL hx,WU hns];omega,by simp only;omega,by simp only;omega⟩ Yl ⟨Yb,Yb,Yb,aOJ⟩ rfl rfl (LE _) (fun D h=>⟨D,LT _ (h),Le.refl D⟩)
  ·have hnbt:nb=true:=by simpa using hc2
   obtain⟨ns,hns,hnv⟩:=LU hnbt hns0;have hkl:ns.length≤1001:=SC hns hxs;obtain⟨p0,ps,hcut⟩:=vH x;have hp0:(dA x)[0]?= some p0:=by rw[hcut];rfl
   refine C.kn<|C.s1<|Za rfl<|Za rfl<|Zs rfl U22 Tf.s9 rfl hS rfl hx (fun b2 o2 cs2 hr2 hcl2 hA2=>?_);obtain rfl:cs2=[.string _]:=hr2;refine Zf 0 rfl Tf.a9 rfl hA2 rfl<|Zt rfl (fun D2 hD2=>Y8 x hxs _) (fun v2 D2 hD2 hp2=>Zs rfl U22 Tf.s9 rfl hp2 rfl hp0 (fun b3 o3 cs3 hr3 hcl3 hA3=>?_));obtain rfl:cs3=[.string _]:=hr3;refine Zf 0 rfl Tf.a9 rfl hA3 rfl<|Zh rfl<|L.n4<|Za rfl<|bW rfl rfl rfl rfl trivial<|L.n1<|aJ rfl (fun hc3=>?_) (fun hc3=>?_)
   ·refine C.rg<|Za rfl<|Zy rfl<|Zh rfl<|L.n3<|Zh rfl<|L.n1<|Zaj<|cJ (γ:=Nat×Nat) (fun g=>1001+1-g.1) (fun g=>1≤g.1∧g.1≤1002∧g.1≤max 1 ns.length∧g.2=un+uP (decide (p0=⟨#[98,114,111,107,101,110]⟩)) ns g.1∧(g.1=1∨(decide (p0=⟨#[98,114,111,107,101,110]⟩)||decide (p0=⟨#[112,97,114,116]⟩))=true)) (fun g=>[(9,.int .i64 (g.1:Int)),(4,.int .i64 (g.2:Int))]) [(3,_),(36,_),(35,_),(34,_),(33,_),(8,_),(32,_),(31,_),(30,_),(29,_),(28,_),(27,_),(26,_),(25,_),(24,_),(7,_),(6,_),(23,_),(22,_),(16,_),(21,_),(20,_),(19,_),(18,_),(17,_),(13,_),(12,_),(11,_),(10,_),(5,_),(2,_),(0,_)] (fun g=>[D2,D1,D]) (1,un) ⟨by simp,by simp,by simp only;omega,by simp only;rw[y9];rfl,aJQ rfl⟩ ⟨Yb,Yb,aOJ⟩ C.rs (aD) ?_;rintro⟨j,u2⟩ ⟨h4,h5,h6,h7,h8⟩;simp only at h4 h5 h6 h7 h8;have hcj:=IE (decide (p0=⟨#[98,114,111,107,101,110]⟩)) ns j;refine C.s2<|Za rfl<|Za rfl<|aR rfl U25 rfl hnv rfl rfl trivial<|Zae rfl<|Za rfl ?_;refine' L.anK 7 (s:=41) (p:=48) rfl (fun hg1=>?_) (fun hg1=>?_) ?_;rotate_left
    ·refine Zb rfl<|bW rfl rfl rfl rfl ⟨_,rfl,rfl⟩<|Zb rfl ?_;refine' L.orK 3 (s:=44) (p:=47) rfl (fun hg2=>?_) (fun hg2=>?_) ?_;rotate_left
     ·refine Zb rfl<|bW rfl rfl rfl rfl ⟨_,rfl,rfl⟩<|mZ rfl rfl rfl rfl ⟨_,rfl,rfl⟩ ?_;exact L.cu 2
     ·refine Zk rfl<|Zk rfl<|nH rfl rfl rfl rfl ⟨_,rfl,rfl⟩ ?_;exact L.cu 2
     refine Zac rfl ?_;exact L.cu 4
    ·refine Zk rfl<|Zk rfl<|Zk rfl<|Zk rfl<|Zk rfl<|Zk rfl<|Zad rfl ?_;exact L.cu 6
    refine L.n1<|aJ rfl (fun hc4=>?_) (fun hc4=>?_)
    ·have hjl:j<ns.length:=by have hz:=(aJI _ _).mp hc4;have:=aKO hz.1;omega
     have hbp:=((aJI _ _).mp hc4).2;obtain⟨m,hm⟩:=C.ge ns j;refine C.kn<|aM<|Zaj<|C.s1<|Za rfl<|Za rfl<|Zs rfl U25 Tf.s3 rfl hnv rfl hm (fun b4 o4 cs4 hr4 hcl4 hA4=>?_);obtain rfl:cs4=[.int .i64 _]:=hr4;refine Zf 0 rfl Tf.a3 rfl hA4 rfl<|dJ rfl rfl rfl rfl trivial<|Za rfl ?_;refine' L.anK 7 (s:=56) (p:=63) rfl (fun hg3=>?_) (fun hg3=>?_) ?_;rotate_left
     ·refine Zb rfl<|bW rfl rfl rfl rfl ⟨_,rfl,rfl⟩<|Zb rfl ?_;refine' L.orK 3 (s:=59) (p:=62) rfl (fun hg4=>?_) (fun hg4=>?_) ?_;rotate_left
      ·refine Zb rfl<|dJ rfl rfl rfl rfl ⟨_,rfl,rfl⟩<|mZ rfl rfl rfl rfl ⟨_,rfl,rfl⟩ ?_;exact L.cu 2
      ·refine Zk rfl<|Zk rfl<|nH rfl rfl rfl rfl ⟨_,rfl,rfl⟩ ?_;exact L.cu 2
      refine Zac rfl ?_;exact L.cu 4
     ·refine Zk rfl<|Zk rfl<|Zk rfl<|Zk rfl<|Zk rfl<|Zk rfl<|Zad rfl ?_;exact L.cu 6
     refine L.n1<|aJ rfl (fun hc5=>?_) (fun hc5=>?_)
     ·refine C.rg<|Za rfl<|Zy rfl<|Zh rfl<|Zab<|Zal<|Zah<|C.rg<|Za rfl<|Zy rfl<|Zh rfl<|Zab ?_;exact aG 21 (j+1,u2+1) ⟨by simp only;omega,by simp only;omega,by simp only;omega,by simp only;rw[AB hm h4 hc5];omega,Or.inr hbp⟩ Yl ⟨Yb,Yb,aOJ⟩ rfl rfl (LE _) (aD)
     ·refine bQ<|Zal<|Zah<|C.rg<|Za rfl<|Zy rfl<|Zh rfl<|Zab ?_;exact aG 18 (j+1,u2) ⟨by simp only;omega,by simp only;omega,by simp only;omega,by simp only;rw[HW hm hc5];omega,Or.inr hbp⟩ Yl ⟨Yb,Yb,aOJ⟩ rfl rfl (LE _) (aD)
    ·refine aQ<|Zak<|Zak<|Zan<|Zal<|Zah<|C.rg<|Za rfl<|Zy rfl<|Zh rfl<|Zab ?_;exact aG 41 (k+1,sm+1,u2) ⟨by simp only;omega,by simp only;rw[qL hx,aCM hcut hns hc3];omega,by simp only;rw[qL hx,WX (j:=j) hcut hns hc4 h6 h8];omega,by simp only;omega,by simp only;omega⟩ Yl ⟨Yb,Yb,Yb,aOJ⟩ rfl rfl (LE _) (fun D h=>⟨D,LT _ (LT _ (h)),Le.refl D⟩)
   ·refine C.kn<|C.s1<|Zh rfl<|L.n1<|Zaj<|cJ (γ:=Nat×Nat) (fun g=>1001+1-g.1) (fun g=>1≤g.1∧g.1≤1002∧g.1≤max 1 ns.length∧g.2=un+uP (decide (p0=⟨#[98,114,111,107,101,110]⟩)) ns g.1∧(g.1=1∨(decide (p0=⟨#[98,114,111,107,101,110]⟩)||decide (p0=⟨#[112,97,114,116]⟩))=true)) (fun g=>[(9,.int .i64 (g.1:Int)),(4,.int .i64 (g.2:Int))]) [(34,_),(33,_),(8,_),(32,_),(31,_),(30,_),(29,_),(28,_),(27,_),(26,_),(25,_),(24,_),(7,_),(6,_),(23,_),(22,_),(16,_),(21,_),(20,_),(19,_),(18,_),(17,_),(13,_),(12,_),(11,_),(10,_),(5,_),(3,_),(2,_),(0,_)] (fun g=>[D2,D1,D]) (1,un) ⟨by simp,by simp,by simp only;omega,by simp only;rw[y9];rfl,aJQ rfl⟩ ⟨Yb,Yb,aOJ⟩ C.rs (aD) ?_;rintro⟨j,u2⟩ ⟨h4,h5,h6,h7,h8⟩;simp only at h4 h5 h6 h7 h8;have hcj:=IE (decide (p0=⟨#[98,114,111,107,101,110]⟩)) ns j;refine C.s2<|Za rfl<|Za rfl<|aR rfl U25 rfl hnv rfl rfl trivial<|Zae rfl<|Za rfl ?_;refine' L.anK 7 (s:=41) (p:=48) rfl (fun hg5=>?_) (fun hg5=>?_) ?_;rotate_left
    ·refine Zb rfl<|bW rfl rfl rfl rfl ⟨_,rfl,rfl⟩<|Zb rfl ?_;refine' L.orK 3 (s:=44) (p:=47) rfl (fun hg6=>?_) (fun hg6=>?_) ?_;rotate_left
     ·refine Zb rfl<|bW rfl rfl rfl rfl ⟨_,rfl,rfl⟩<|mZ rfl rfl rfl rfl ⟨_,rfl,rfl⟩ ?_;exact L.cu 2
     ·refine Zk rfl<|Zk rfl<|nH rfl rfl rfl rfl ⟨_,rfl,rfl⟩ ?_;exact L.cu 2
     refine Zac rfl ?_;exact L.cu 4
    ·refine Zk rfl<|Zk rfl<|Zk rfl<|Zk rfl<|Zk rfl<|Zk rfl<|Zad rfl ?_;exact L.cu 6
    refine L.n1<|aJ rfl (fun hc6=>?_) (fun hc6=>?_)
    ·have hjl:j<ns.length:=by have hz:=(aJI _ _).mp hc6;have:=aKO hz.1;omega
     have hbp:=((aJI _ _).mp hc6).2;obtain⟨m,hm⟩:=C.ge ns j;refine C.kn<|aM<|Zaj<|C.s1<|Za rfl<|Za rfl<|Zs rfl U25 Tf.s3 rfl hnv rfl hm (fun b5 o5 cs5 hr5 hcl5 hA5=>?_);obtain rfl:cs5=[.int .i64 _]:=hr5;refine Zf 0 rfl Tf.a3 rfl hA5 rfl<|dJ rfl rfl rfl rfl trivial<|Za rfl ?_;refine' L.anK 7 (s:=56) (p:=63) rfl (fun hg7=>?_) (fun hg7=>?_) ?_;rotate_left
     ·refine Zb rfl<|bW rfl rfl rfl rfl ⟨_,rfl,rfl⟩<|Zb rfl ?_;refine' L.orK 3 (s:=59) (p:=62) rfl (fun hg8=>?_) (fun hg8=>?_) ?_;rotate_left
      ·refine Zb rfl<|dJ rfl rfl rfl rfl ⟨_,rfl,rfl⟩<|mZ rfl rfl rfl rfl ⟨_,rfl,rfl⟩ ?_;exact L.cu 2
      ·refine Zk rfl<|Zk rfl<|nH rfl rfl rfl rfl ⟨_,rfl,rfl⟩ ?_;exact L.cu 2
      refine Zac rfl ?_;exact L.cu 4
     ·refine Zk rfl<|Zk rfl<|Zk rfl<|Zk rfl<|Zk rfl<|Zk rfl<|Zad rfl ?_;exact L.cu 6
     refine L.n1<|aJ rfl (fun hc7=>?_) (fun hc7=>?_)
     ·refine C.rg<|Za rfl<|Zy rfl<|Zh rfl<|Zab<|Zal<|Zah<|C.rg<|Za rfl<|Zy rfl<|Zh rfl<|Zab ?_;exact aG 21 (j+1,u2+1) ⟨by simp only;omega,by simp only;omega,by simp only;omega,by simp only;rw[AB hm h4 hc7];omega,Or.inr hbp⟩ Yl ⟨Yb,Yb,aOJ⟩ rfl rfl (LE _) (aD)
     ·refine bQ<|Zal<|Zah<|C.rg<|Za rfl<|Zy rfl<|Zh rfl<|Zab ?_;exact aG 18 (j+1,u2) ⟨by simp only;omega,by simp only;omega,by simp only;omega,by simp only;rw[HW hm hc7];omega,Or.inr hbp⟩ Yl ⟨Yb,Yb,aOJ⟩ rfl rfl (LE _) (aD)
    ·refine aQ<|Zak<|Zak<|Zan<|Zal<|Zah<|C.rg<|Za rfl<|Zy rfl<|Zh rfl<|Zab ?_;exact aG 39 (k+1,sm,u2) ⟨by simp only;omega,by simp only;rw[qL hx,aEG hcut hns hc3];omega,by simp only;rw[qL hx,WX (j:=j) hcut hns hc6 h6 h8];omega,by simp only;omega,by simp only;omega⟩ Yl ⟨Yb,Yb,Yb,aOJ⟩ rfl rfl (LE _) (fun D h=>⟨D,LT _ (LT _ (h)),Le.refl D⟩)
 ·obtain rfl:k=xs.length:=by simp only at hc1;omega
  rw[aKN]at h2 h3;refine aQ<|Zak<|Zak<|Zan<|Zah<|C.s1<|Za rfl<|iJ rfl rfl rfl rfl trivial<|Za rfl ?_;refine' L.anK 3 (s:=68) (p:=71) rfl (fun hg9=>?_) (fun hg9=>?_) ?_;rotate_left
  ·refine Zb rfl<|iJ rfl rfl rfl rfl ⟨_,rfl,rfl⟩<|Zac rfl ?_;exact L.cu 2
  ·refine Zk rfl<|Zk rfl<|Zad rfl ?_;exact L.cu 2
  refine Zh rfl<|L.n5 ?_;exact leave1 rfl rfl rfl rfl (fun D hD=>by show Value.bool _=_;rw[OP h2 h3])
theorem EN(sv:Value)(xs:List ByteArray)(D:aA)(hS:Sl D RS 1 sv xs):Fn Tryz.prog 7 #[sv] D (fun _ v=>v=.bool (s8 xs)):=by
 refine enter 14 Tryz.func7 rfl rfl rfl rfl fun h0=>C.s1<|Zh rfl<|L.n3<|Za rfl<|Zd rfl (fun D1 hD1=>LA _ xs _ (hS.up RS.up (hD1 _ Ye)))<|Za rfl ?_
 refine' L.anK 4 (s:=5) (p:=9) rfl (fun hg1=>?_) (fun hg1=>?_) ?_;rotate_left
 ·refine Zb rfl<|Ze rfl (fun D2 hD2=>HD _ xs _ (hS.up RS.up (hD2 _ Ye)))<|dJ rfl rfl rfl rfl ⟨_,rfl,rfl⟩<|Zac rfl ?_;exact L.cu 3
 ·refine Zk rfl<|Zk rfl<|Zk rfl<|Zad rfl ?_;exact L.cu 3
 refine Za rfl ?_;refine' L.anK 3 (s:=10) (p:=13) rfl (fun hg2=>?_) (fun hg2=>?_) ?_;rotate_left
 ·have hfz:cK xs=0:=by have:=hg2;simp at this;exact this.2
  refine Zb rfl<|Ze rfl (fun D3 hD3=>HE _ xs _ (hS.up RS.up (hD3 _ Ye)) (by have:=fL hfz;omega) (fun x hx=>by have:=mL hfz x hx;omega))<|Zac rfl ?_;exact L.cu 2
 ·refine Zk rfl<|Zk rfl<|Zad rfl ?_;exact L.cu 2
 refine Zh rfl<|L.n5 ?_;exact leave1 rfl rfl rfl rfl (fun D hD=>rfl)
end L12
end Go.Fs
namespace Go.Fs
open Go.Proofs
namespace L12
open C12 Go.Lib
instance(x:Int):Decidable (NB x):=inferInstanceAs (Decidable (_∧_))
def yX:List ByteArray:=[(⟨#[112,108,97,99,101]⟩:ByteArray),⟨#[115,101,101,110,32,50,32,49]⟩,⟨#[99,111,117,110,116,32,51,32,50]⟩,⟨#[98,97,99,107,32,51,32,51]⟩,⟨#[116,105,100,101,32,50,32,56,32,57]⟩,⟨#[115,116,101,112,32,52]⟩,⟨#[108,101,118,101,108,32,54]⟩,⟨#[109,97,114,107,32,49,32,51,32,57,32,57]⟩,⟨#[104,105,114,101,32,48,32,49]⟩,⟨#[104,105,114,101,32,49,32,50]⟩,⟨#[98,114,105,110,103,32,48,32,49]⟩,⟨#[115,109,117,100,103,101,32,49]⟩,⟨#[98,114,111,107,101,110,32,52,32,49,32,48,32,48]⟩,⟨#[98,114,111,107,101,110,32,53,32,48,32,49,32,50]⟩,⟨#[99,108,97,105,109,32,48,32,50]⟩]
def BQ:List ByteArray:=[(⟨#[115,116,101,112,32,48]⟩:ByteArray),⟨#[115,109,117,100,103,101,32,49]⟩,⟨#[108,101,118,101,108,32,48,53]⟩]
def aB:List ByteArray:=[(⟨#[97]⟩:ByteArray)]
theorem n9{D:aA}{b:Nat}{l:List ByteArray}(hA:At D b 0 (l.map Value.string))(hl:l.length≤1000):Sl D RS 1 (.slice (some ⟨b,0,none⟩) l.length l.length) l:=by
 refine⟨_,_,rfl,aJU _,by omega,aJE ⟨b,0,rfl,fun i x hi=>⟨_,rfl,rfl,fun j v hj=>?_⟩⟩⟩;cases j with
 |zero=>
  obtain rfl:Value.string x=v:=by simpa using hj
  have h:=hA i (.string x) (by rw[aKA,hi];rfl);simpa using h
 |succ j=>simp at hj
theorem aBN:UG (aK yX).1:=⟨by decide+kernel,by decide+kernel,by decide+kernel,by decide+kernel,by decide+kernel,by decide+kernel,by decide+kernel,by decide+kernel,by decide+kernel,by decide+kernel,by decide+kernel⟩
theorem aGY:K2 Tryz.prog 65:=⟨by kernel_rfl,by kernel_rfl,by kernel_rfl⟩
theorem aGW:K2 Tryz.prog 88:=⟨by kernel_rfl,by kernel_rfl,by kernel_rfl⟩
theorem m9(D:aA):Fn Tryz.prog 20 #[.slice none 0 0] D (fun D' v=>Sl D' RS 1 v yX):=by
 refine enter 6 Tryz.func20 rfl rfl rfl rfl fun h0=>C.s1<|Zh rfl<|L.n3<|Zp rfl U22 Tf.s9 Tf.z9 rfl rfl rfl rfl (.cons rfl rfl (.cons rfl rfl (.cons rfl rfl (.cons rfl rfl (.cons rfl rfl (.cons rfl rfl (.cons rfl rfl (.cons rfl rfl (.cons rfl rfl (.cons rfl rfl (.cons rfl rfl (.cons rfl rfl (.cons rfl rfl (.cons rfl rfl (.cons rfl rfl .nil))))))))))))))) (fun b901 D901 hD901 hA901=>Za rfl<|DY rfl U22 rfl rfl Tf.s9 rfl rfl (aJU _) rfl trivial<|Zh rfl<|L.n5 ?_)
 exact leave1 rfl rfl rfl rfl (fun D hD=>(n9 (l:=yX) hA901 Yah).up RS.up (hD _ Ye))
theorem aBC(mv:Value)(ms:List ByteArray)(D:aA)(hS:Sl D RS 1 mv ms)(hm0:0<ms.length)(hm:ms.length≤1000):Fn Tryz.prog 20 #[mv] D (fun D' v=>Sl D' RS 1 v (yX++ms)):=by
 refine enter 6 Tryz.func20 rfl rfl rfl rfl fun h0=>C.s1<|Zh rfl<|L.n3<|Zp rfl U22 Tf.s9 Tf.z9 rfl rfl rfl rfl (.cons rfl rfl (.cons rfl rfl (.cons rfl rfl (.cons rfl rfl (.cons rfl rfl (.cons rfl rfl (.cons rfl rfl (.cons rfl rfl (.cons rfl rfl (.cons rfl rfl (.cons rfl rfl (.cons rfl rfl (.cons rfl rfl (.cons rfl rfl (.cons rfl rfl .nil))))))))))))))) (fun b901 D901 hD901 hA901=>Za rfl<|QC (cells:=[.string ⟨#[112,108,97,99,101]⟩,.string ⟨#[115,101,101,110,32,50,32,49]⟩,.string ⟨#[99,111,117,110,116,32,51,32,50]⟩,.string ⟨#[98,97,99,107,32,51,32,51]⟩,.string ⟨#[116,105,100,101,32,50,32,56,32,57]⟩,.string ⟨#[115,116,101,112,32,52]⟩,.string ⟨#[108,101,118,101,108,32,54]⟩,.string ⟨#[109,97,114,107,32,49,32,51,32,57,32,57]⟩,.string ⟨#[104,105,114,101,32,48,32,49]⟩,.string ⟨#[104,105,114,101,32,49,32,50]⟩,.string ⟨#[98,114,105,110,103,32,48,32,49]⟩,.string ⟨#[115,109,117,100,103,101,32,49]⟩,.string ⟨#[98,114,111,107,101,110,32,52,32,49,32,48,32,48]⟩,.string ⟨#[98,114,111,107,101,110,32,53,32,48,32,49,32,50]⟩,.string ⟨#[99,108,97,105,109,32,48,32,50]⟩]) rfl U22 rfl rfl Tf.s9 Tf.z9 rfl Tf.i9 rfl rfl hA901 Ye rfl (jE.strs hS) Ye Yan hm0 Yd rfl aOJ (fun v1 ν1 ha1=>Zh rfl<|L.n5 ?_))
 have ha2:bL 9 1 v1 (15+ms.length) ((yX++ms).map Value.string) (ν1++[]):=by rw[aJN,aJF];exact ha1
 refine eK (A:=[]) (ν:=ν1) (B:=[]) (by simpa using ha2) rfl (fun D2 hD2 hF=>?_);exact leave1 rfl rfl rfl rfl (fun D' hD=>(hF.strs (by rw[aIX];rfl) Yd).up RS.up (hD _ Ye))
theorem DN(D:aA)(hV:jO D):Fn Tryz.prog 8 #[] D (fun _ v=>v=.bool true):=by
 refine enter 87 Tryz.func8 rfl rfl rfl rfl fun h0=>C.s1<|Zh rfl<|L.n3<|Zt rfl (fun D1 hD1=>m9 _) (fun v1 D1 hD1 hp1=>?_)
 have hd1:=hp1;refine Zd rfl (fun D2 hD2=>wI _ yX _ (hd1.up RS.up (hD2 _ Ye)) (hV.up (hD2 _ Ye)))<|Za rfl<|Zaa rfl<|Zaa rfl<|Zx rfl Tf.z65 rfl (fun q1=>aW rfl rfl rfl rfl Tf.s65 Ya Ya (bM.head) Yi trivial<|Zh rfl<|L.n3<|Zt rfl (fun D3 hD3=>m9 _) (fun v3 D3 hD3 hp3=>?_));have hd2:=hp3;refine Zd rfl (fun D4 hD4=>yW _ yX _ (hd2.up RS.up (hD4 _ Ye)) (hV.up (hD4 _ Ye)))<|Za rfl<|Zaa rfl<|Zaa rfl<|Zx rfl Tf.z88 rfl (fun q2=>aW rfl rfl rfl rfl Tf.s88 Ya Ya (bM.head) Yi trivial<|Zh rfl<|L.n3<|Zt rfl (fun D5 hD5=>m9 _) (fun v5 D5 hD5 hp5=>?_));have hd3:=hp5;refine Zd rfl (fun D6 hD6=>OA _ yX _ (hd3.up RS.up (hD6 _ Ye)) (hV.up (hD6 _ Ye)) (fun _=>aBN))<|Za rfl<|Zaa rfl<|Zaa rfl<|Zh rfl<|Zh rfl<|L.n3<|Zp rfl U22 Tf.s9 Tf.z9 rfl rfl rfl rfl (.cons rfl rfl .nil) (fun b901 D901 hD901 hA901=>Zt rfl (fun D7 hD7=>AP _ aB _ ((n9 (l:=aB) hA901 Yah).up RS.up (hD7 _ Ye))) (fun v7 D7 hD7 hp7=>?_));obtain⟨wv,rfl,hwr⟩:=hp7;refine Za rfl<|Zaa rfl<|Zaa rfl<|Zh rfl<|Zh rfl<|L.n3<|Zp rfl U22 Tf.s9 Tf.z9 rfl rfl rfl rfl (.cons rfl rfl (.cons rfl rfl (.cons rfl rfl .nil))) (fun b902 D902 hD902 hA902=>Zt rfl (fun D8 hD8=>aBC _ BQ _ ((n9 (l:=BQ) hA902 Yah).up RS.up (hD8 _ Ye)) Yah Yah) (fun v8 D8 hD8 hp8=>?_));have hd5:=hp8;refine Zt rfl (fun D9 hD9=>xA _ (yX++BQ) _ (hd5.up RS.up (hD9 _ Ye)) (hV.up (hD9 _ Ye))) (fun v9 D9 hD9 hp9=>?_);obtain⟨w1,w2,rfl,⟨pv,cv,hv,lv,mv,bl,bc,yc,yq,rfl,hL⟩,hes⟩:=hp9;unfold bP;obtain⟨ea,ec,rfl⟩:=hes.shape;have p3len:(aK (yX++BQ)).2.1.length=18:=by decide+kernel
 refine Za rfl<|Zaa rfl<|Zaa rfl<|Zaa rfl<|Zx rfl Tf.z42 rfl (fun q3=>aW rfl rfl rfl rfl Tf.s42 Ya Ya (bM.head) (eU hL) trivial<|Zh rfl<|Zh rfl<|L.n3<|Za rfl<|dJ rfl rfl rfl rfl trivial<|Za rfl ?_);refine' L.anK 4 (s:=41) (p:=45) rfl (fun hg1=>?_) (fun hg1=>?_) ?_;rotate_left
 ·refine bJ rfl Tf.a65 rfl (LT _ (LT _ (GE _))) Tf.s65 GT rfl ⟨_,rfl,rfl⟩<|gP (cs:=[.int .i64 25,.int .i64 25]) rfl Tf.p65 Tf.z65 rfl rfl rfl ⟨_,rfl,rfl⟩<|YN (a:=(N1 yX).1) (b:=(25,25)) rfl Yg aGY rfl rfl rfl ⟨_,rfl,rfl⟩<|Zac rfl ?_;exact L.cu 3
 ·refine Zk rfl<|Zk rfl<|Zk rfl<|Zad rfl ?_;exact L.cu 3
 refine Za rfl ?_;refine' L.anK 3 (s:=46) (p:=49) rfl (fun hg2=>?_) (fun hg2=>?_) ?_;rotate_left
 ·refine Zb rfl<|dJ rfl rfl rfl rfl ⟨_,rfl,rfl⟩<|Zac rfl ?_;exact L.cu 2
 ·refine Zk rfl<|Zk rfl<|Zad rfl ?_;exact L.cu 2
 refine Za rfl ?_;refine' L.anK 4 (s:=50) (p:=54) rfl (fun hg3=>?_) (fun hg3=>?_) ?_;rotate_left
 ·refine bJ rfl Tf.a88 rfl (LT _ (GE _)) Tf.s88 GT rfl ⟨_,rfl,rfl⟩<|gP (cs:=[.int .i64 4,.int .i64 4]) rfl Tf.p88 Tf.z88 rfl rfl rfl ⟨_,rfl,rfl⟩<|YN (a:=(xI yX).1) (b:=(4,4)) rfl Yg aGW rfl rfl rfl ⟨_,rfl,rfl⟩<|Zac rfl ?_;exact L.cu 3
 ·refine Zk rfl<|Zk rfl<|Zk rfl<|Zad rfl ?_;exact L.cu 3
 refine Za rfl ?_;refine' L.anK 3 (s:=55) (p:=58) rfl (fun hg4=>?_) (fun hg4=>?_) ?_;rotate_left
 ·refine Zb rfl<|dJ rfl rfl rfl rfl ⟨_,rfl,rfl⟩<|Zac rfl ?_;exact L.cu 2
 ·refine Zk rfl<|Zk rfl<|Zad rfl ?_;exact L.cu 2
 refine Za rfl ?_;refine' L.anK 3 (s:=59) (p:=62) rfl (fun hg5=>?_) (fun hg5=>?_) ?_;rotate_left
 ·refine Zb rfl<|bW rfl rfl rfl rfl ⟨_,rfl,rfl⟩<|Zac rfl ?_;exact L.cu 2
 ·refine Zk rfl<|Zk rfl<|Zad rfl ?_;exact L.cu 2
 refine Za rfl ?_;refine' L.anK 3 (s:=63) (p:=66) rfl (fun hg6=>?_) (fun hg6=>?_) ?_;rotate_left
 ·refine Zb rfl<|dJ rfl rfl rfl rfl ⟨_,rfl,rfl⟩<|Zac rfl ?_;exact L.cu 2
 ·refine Zk rfl<|Zk rfl<|Zad rfl ?_;exact L.cu 2
 refine Za rfl ?_;refine' L.anK 4 (s:=67) (p:=71) rfl (fun hg7=>?_) (fun hg7=>?_) ?_;rotate_left
 ·refine Zb rfl<|jJ rfl U51 U5 U9 rfl hwr Ye (fun _ _ _ _ _=>GT) rfl ⟨_,rfl,rfl⟩<|bW rfl rfl rfl rfl ⟨_,rfl,rfl⟩<|Zac rfl ?_;exact L.cu 3
 ·refine Zk rfl<|Zk rfl<|Zk rfl<|Zad rfl ?_;exact L.cu 3
 refine Za rfl ?_;refine' L.anK 3 (s:=72) (p:=75) rfl (fun hg8=>?_) (fun hg8=>?_) ?_;rotate_left
 ·refine Zb rfl<|dJ rfl rfl rfl rfl ⟨_,rfl,rfl⟩<|Zac rfl ?_;exact L.cu 2
 ·refine Zk rfl<|Zk rfl<|Zad rfl ?_;exact L.cu 2
 refine Za rfl ?_;refine' L.anK 4 (s:=76) (p:=80) rfl (fun hg9=>?_) (fun hg9=>?_) ?_;rotate_left
 ·refine Zb rfl<|aR rfl U43 rfl hes rfl rfl ⟨_,rfl,rfl⟩<|dJ rfl rfl rfl rfl ⟨_,rfl,rfl⟩<|Zac rfl ?_;exact L.cu 3
 ·refine Zk rfl<|Zk rfl<|Zk rfl<|Zad rfl ?_;exact L.cu 3
 refine Za rfl ?_;refine' L.anK 5 (s:=81) (p:=86) rfl (fun hg10=>?_) (fun hg10=>?_) ?_;rotate_left
 ·refine Zb rfl<|qM (j:=15) rfl U43 Tf.s44 rfl hes rfl (by rw[p3len];omega) rfl ⟨_,rfl,rfl⟩ (fun ta hT=>xC rfl U25 Tf.s3 Tf.z3 rfl rfl rfl rfl (.cons rfl rfl (.cons rfl rfl (.cons rfl rfl .nil))) rfl ⟨_,rfl,rfl⟩ (fun b903 D903 hD903 hA903=>?_));have hS903:=Sl.ofInts (l:=[_,_,_]) (n:=3) (cap:=3) hA903 rfl Yd Yd;refine Ze rfl (fun D10 hD10=>HB _ _ ((aK (yX++BQ)).2.1.drop 15) [9,6,4] _ (hT.up RI.up (hD10 _ Ye)) (hS903.up RI.up (hD10 _ Ye)))<|Zac rfl ?_;exact A8 fun a w hh=>(hh.cutK 4 rfl).ds (fun _ h=>LT _ (h))
 ·refine Zk rfl<|Zk rfl<|Zk rfl<|Zk rfl<|Zad rfl ?_;exact L.cu 4
 refine Zh rfl<|L.n5 ?_;exact leave1 rfl rfl rfl rfl (fun D hD=>aJS Value.bool (by decide+kernel))
end L12
end Go.Fs
namespace Go.Fs
open Go.Proofs
namespace L12
open C12 Go.Lib
end L12
end Go.Fs
namespace Go.Fs
variable{P:Program}{X:Cx}{γb:Type}[Membership Nat γb]{bad:γb}{all:Array Oper}{K:Act→World→Prop}{Q:Exit→Act→World→Prop}
variable{σ:bS}{μ:aC}{Ds:List aA}{os:List (Bool×Nat)}{fl:Bool}{ix:Nat}
variable{d:Nat}{x y z:Operand}{u v:Value}{ty:TypeId}{pos:String}{aft:Array Edge}{g:Option (Nat×Bool)}
end Go.Fs
namespace Go.Fs
open Go.Proofs
namespace L12
open C12
section
variable{α:Type}{xs ys:List α}{k:Nat}{a b:α}
end
def aHH(c:C7.Ch):List Int:=[c.size,c.parts.a,c.parts.b,c.parts.c]
theorem aAM{a b:C7.Ch}(h:aHH a=aHH b):a=b:=by
 obtain⟨a1,a2,a3,a4⟩:=a;obtain⟨b1,b2,b3,b4⟩:=b
 simp only[aHH,aLN,and_true]at h;rw[h.1,h.2.1,h.2.2.1,h.2.2.2]
instance:DecidableEq C7.Ch:=fun a b=>decidable_of_iff (aHH a=aHH b) ⟨aAM,fun e=>by rw[e]⟩
end L12
end Go.Fs
namespace Go.Fs
open Go.Proofs
namespace L12
open C12
theorem MG(ls:List ByteArray):(eO ls).2.length=ls.length:=by
 have key:∀(ls:List ByteArray) (p:aI×List Int),(ls.foldl (fun p l=>((lK p.1 l).1,p.2++[(lK p.1 l).2])) p).2.length=p.2.length+ls.length:=by
  intro ls;induction ls with
  |nil=>intro p;simp
  |cons l ls ih=>intro p;rw[aLK,ih];simp;omega
 have:=key ls (hP,[]);simpa [eO]using this
def rY(ls:List ByteArray)(es:List Int)(k:Nat):List ByteArray:=(((ls.zip es).take k).filter (fun p=>p.2==0)).map (·.1)
def bN(ls:List ByteArray):List ByteArray:=rY ls (eO ls).2 ls.length
theorem XO{ls:List ByteArray}{es:List Int}{k:Nat}{x:ByteArray}{e:Int}(hx:ls[k]?= some x)(he:es[k]?= some e):(ls.zip es)[k]?= some (x,e):=by
 rw[List.getElem?_zip_eq_some];exact⟨hx,he⟩
theorem RN{ls:List ByteArray}{es:List Int}{k:Nat}{x:ByteArray}{e:Int}(hx:ls[k]?= some x)(he:es[k]?= some e)(hz:e=0):rY ls es (k+1)=rY ls es k++[x]:=by
 unfold rY;rw[aJP,XO hx he,aLP,aJN];simp[hz]
theorem ZS{ls:List ByteArray}{es:List Int}{k:Nat}{x:ByteArray}{e:Int}(hx:ls[k]?= some x)(he:es[k]?= some e)(hz:e≠0):rY ls es (k+1)=rY ls es k:=by
 unfold rY;rw[aJP,XO hx he,aLP,aJN];simp[hz]
theorem Q7(ls:List ByteArray)(es:List Int)(k:Nat):(rY ls es k).length≤ls.length:=by
 unfold rY;rw[aLA];refine aLS (aLZ _ _) ?_;rw[aKL,List.length_zip];omega
def gW(s:aI)(ls:List ByteArray):aI:=ls.foldl (fun s l=>(lK s l).1) s
def zK(s:aI):List ByteArray→List Int
 | []=>[]
 |l::ls=>(lK s l).2::zK (lK s l).1 ls
def kL(s:aI):List ByteArray→List ByteArray
 | []=>[]
 |l::ls=>if(lK s l).2=0 then l::kL (lK s l).1 ls else kL (lK s l).1 ls
theorem W3(s:aI)(l:ByteArray)(ls:List ByteArray):gW s (l::ls)=gW (lK s l).1 ls:=rfl
theorem VP(s:aI)(ls ms:List ByteArray):gW s (ls++ms)=gW (gW s ls) ms:=by simp[gW,aLE]
theorem VB(ms:List ByteArray):∀(ls:List ByteArray) (s:aI),zK s (ls++ms)=zK s ls++zK (gW s ls) ms
 | [],_=>rfl
 |l::ls,s=>by
  show(lK s l).2::zK (lK s l).1 (ls++ms)=(lK s l).2::(zK (lK s l).1 ls++zK (gW (lK s l).1 ls) ms);rw[VB ms ls]
theorem e8(ls:List ByteArray):eO ls=(gW hP ls,zK hP ls):=by
 have key:∀(ls:List ByteArray) (s:aI) (es:List Int),ls.foldl (fun p l=>((lK p.1 l).1,p.2++[(lK p.1 l).2])) (s,es)=(gW s ls,es++zK s ls):=by
  intro ls;induction ls with
  |nil=>intro s es;simp[gW,zK]
  |cons l ls ih=>intro s es;rw[aLK,ih];simp[W3,zK]
 have:=key ls hP [];simpa [eO]using this
theorem XK{s:aI}{l:ByteArray}(h:(lK s l).2≠0):(lK s l).1=s:=by
 unfold lK at h ⊢
 split
 ·rfl
 ·rename_i act n hp;rw[hp]at h;simp only at h;split
  ·rfl
  ·rename_i s2 ha;rw[ha]at h;simp only at h;split at h
   ·exact absurd rfl h
   ·rename_i hs;rw[aJM hs]
theorem z6:∀(ls:List ByteArray) (s:aI),rY ls (zK s ls) ls.length=kL s ls
 | [],_=>rfl
 |l::ls,s=>by
  have ih:=z6 ls (lK s l).1;unfold rY at ih ⊢
  show(((((l,(lK s l).2)::ls.zip (zK (lK s l).1 ls)).take (ls.length+1)).filter _).map _)=_;rw[aNU,aMQ,kL];by_cases h:(lK s l).2=0
  ·rw[aJT h,aJT Yai,aJY,ih]
  ·rw[aJM h,aJM Yai,ih]
theorem wO(ls:List ByteArray):bN ls=kL hP ls:=by
 unfold bN;rw[e8];exact z6 ls hP
theorem P1:∀(ls:List ByteArray) (s:aI),kL s (kL s ls)=kL s ls
 | [],_=>rfl
 |l::ls,s=>by
  rw[kL];by_cases h:(lK s l).2=0
  ·rw[aJT h,kL,aJT h,P1 ls]
  ·rw[aJM h];have:=P1 ls (lK s l).1;rw[XK h]at this ⊢;exact this
theorem j6(ls:List ByteArray):(bN ls).length≤ls.length∧∀x∈bN ls,x∈ls:=by
 refine⟨Q7 ls _ _,fun x hx=>?_⟩;obtain⟨p,hp,rfl⟩:=aIY.1 hx;exact(List.of_mem_zip (aNO (List.mem_filter.1 hp).1)).1
theorem zZ{ls:List ByteArray}(h1:ls.length≤40)(h2:∀x∈ls,x.size≤50):cK ls=0:=X2 h1 h2
theorem b9{ls:List ByteArray}(hf:cK ls=0):cK (bN ls)=0:=
 zZ (aLS (j6 ls).1 (fL hf)) fun x hx=>mL hf x ((j6 ls).2 x hx)
theorem l3(lv:Value)(ls:List ByteArray)(D:aA)(hS:Sl D RS 1 lv ls)(hV:jO D)(hf:cK ls=0):Fn Tryz.prog 28 #[lv] D (fun D' v=>∃v1 v2,v=.tuple #[v1,v2,.bool true]∧Sl D' RS 1 v1 (bN ls)∧fT D' v2 (eO ls).1):=by
 refine enter 47 Tryz.func28 rfl rfl rfl rfl fun h0=>C.s1<|Zh rfl<|Zx rfl Tf.z42 rfl (fun q1=>Zh rfl<|L.n3<|Za rfl<|Zt rfl (fun D1 hD1=>uD _ ls _ (hS.up RS.up (hD1 _ Ye)) (by have:=fL hf;omega)) (fun v1 D1 hD1 hp1=>?_))
 have hq:=hp1;refine Zt rfl (fun D2 hD2=>xA _ ls _ (hq.up RS.up (hD2 _ Ye)) (hV.up (hD2 _ Ye))) (fun v2 D2 hD2 hp2=>?_);obtain⟨w1,w2,rfl,⟨pv,cv,hv,lv,mv,bl,bc,yc,yq,rfl,hL⟩,hes⟩:=hp2;rw[show(aK ls).2.1=(eO ls).2 by rw[iL hf]]at hes;unfold bP;have hle:(eO ls).2.length=ls.length:=MG ls;have h40:=fL hf;have hcd:(aK ls).2.2=0:=by rw[iL hf]
 refine Za rfl<|Zaa rfl<|Zaa rfl<|Zaa rfl<|Zx rfl Tf.z42 rfl (fun q2=>aW rfl rfl rfl rfl Tf.s42 Ya Ya (bM.head) (eU hL) trivial<|Zh rfl<|Zh rfl<|L.n4<|Za rfl<|dZ rfl rfl rfl rfl trivial<|Za rfl ?_);refine' L.orK 6 (s:=19) (p:=25) rfl (fun hg1=>?_) (fun hg1=>?_) ?_;rotate_left
 ·refine Zb rfl<|aR rfl U43 rfl hes rfl rfl ⟨_,rfl,rfl⟩<|Zb rfl<|aR rfl U22 rfl hS rfl rfl ⟨_,rfl,rfl⟩<|dZ rfl rfl rfl rfl ⟨_,rfl,rfl⟩<|Zad rfl ?_;exact L.cu 5
 ·refine Zk rfl<|Zk rfl<|Zk rfl<|Zk rfl<|Zk rfl<|Zac rfl ?_;exact L.cu 5
 refine L.n1<|aJ rfl (fun hc1=>?_) (fun hc1=>?_)
 ·rw[hcd,hle]at hc1;simp at hc1
 ·refine C.kn<|C.s1<|Zh rfl<|L.n4<|Zh rfl<|L.n1<|Zaj<|cE (γ:=Nat×Value×aC) (fun g=>ls.length-g.1) (fun g=>g.1≤ls.length∧bL 9 1 g.2.1 (rY ls (eO ls).2 g.1).length ((rY ls (eO ls).2 g.1).map Value.string) g.2.2) (fun g=>[(9,.int .i64 (g.1:Int)),(8,g.2.1)]) [(6,_),(5,_),(4,_),(3,_),(2,_),(0,_)] (fun g=>g.2.2++[(q2,.cells (bP (aK ls).1 pv cv hv lv mv bl bc yc yq).toArray 42 (0,0)),(q1,.cells [.slice none 0 0,.slice none 0 0,.int .i64 0,.int .i64 0,.int .i64 0,.slice none 0 0,.int .i64 0,.slice none 0 0,.slice none 0 0,.int .i64 0,.int .i64 0,.int .i64 0,.slice none 0 0,.slice none 0 0,.slice none 0 0,.int .i64 0,.slice none 0 0].toArray 42 (0,0))]) (fun g=>[D2,D1,D]) (0,.slice none 0 0,[]) ⟨by simp,by simpa [rY]using bL.nil⟩ ⟨Yb,Yb,aOJ⟩ C.rs (LE _) (aD) ?_;rintro⟨k,v,ν⟩ ⟨h1,ha⟩;simp only at h1 ha;have hal:=Q7 ls (eO ls).2 k;refine C.s2<|Za rfl<|Za rfl<|aR rfl U43 rfl hes rfl rfl trivial<|Zae rfl<|L.n1<|aE rfl (fun hc2=>?_) (fun hc2=>?_)
  ·have hlt:k<ls.length:=by omega
   obtain⟨x,hx⟩:=C.ge ls k;obtain⟨e,he⟩:∃e,(eO ls).2[k]?= some e:=⟨_,aJC Yd⟩
   refine C.kn<|aM<|Zaj<|C.s1<|Za rfl<|Za rfl<|Zs rfl U43 Tf.s44 rfl hes rfl he (fun b1 o1 cs1 hr1 hcl1 hA1=>?_);obtain rfl:cs1=[.int .i64 _]:=hr1;refine Zf 0 rfl Tf.a44 rfl hA1 rfl<|dJ rfl rfl rfl rfl trivial<|L.n1<|aE rfl (fun hc3=>?_) (fun hc3=>?_)
   ·have hz:e=0:=by omega
    refine C.rg<|Za rfl<|Za rfl<|Za rfl<|Zs rfl U22 Tf.s9 rfl hS rfl hx (fun b2 o2 cs2 hr2 hcl2 hA2=>?_);obtain rfl:cs2=[.string _]:=hr2;refine Zf 0 rfl Tf.a9 rfl hA2 rfl<|Zp rfl U22 Tf.s9 Tf.z9 rfl rfl rfl rfl (.cons rfl rfl .nil) (fun b901 D901 hD901 hA901=>aU (A:=[]) (ν:=ν) (B:=[(_,_),(_,_)]) rfl U22 rfl rfl Tf.s9 Tf.z9 rfl Tf.i9 rfl rfl rfl ha (jE.lit Yk) Ye rfl Yan Yi Yd (aJQ rfl) rfl aOJ (fun v1 ν1 ha1=>?_));have ha2:bL 9 1 v1 (rY ls (eO ls).2 (k+1)).length ((rY ls (eO ls).2 (k+1)).map Value.string) ν1:=by rw[RN hx he hz];simpa using ha1
    refine Zh rfl<|Zab<|Zal<|Zah<|C.rg<|Za rfl<|Zy rfl<|Zh rfl<|Zab ?_;exact aG 22 (k+1,v1,ν1) ⟨by simp only;omega,ha2⟩ Yl ⟨Yb,Yb,aOJ⟩ rfl rfl (LE _) (fun D h=>⟨D,LT _ (h),Le.refl D⟩)
   ·have hz:e≠0:=by omega
    have ha2:bL 9 1 v (rY ls (eO ls).2 (k+1)).length ((rY ls (eO ls).2 (k+1)).map Value.string) ν:=by rw[ZS hx he hz];exact ha
    refine bQ<|Zal<|Zah<|C.rg<|Za rfl<|Zy rfl<|Zh rfl<|Zab ?_;exact aG 14 (k+1,v,ν) ⟨by simp only;omega,ha2⟩ Yl ⟨Yb,Yb,aOJ⟩ rfl rfl (LE _) (aD)
  ·refine aQ<|Zak<|Zak<|Zan<|Zah<|aM<|C.drawA [] 1 5 6 (fun _ _ _ h=>cA (P:=Tryz.prog) (fn:=Tryz.f28) _ _ _ h)<|Za rfl<|Zu rfl Tf.a42 rfl (aIZ _ (List.Mem.head _)) Tf.s42<|Zh rfl<|aW rfl rfl rfl rfl Tf.s42 Ya Ya (.app (.tail (bM.head))) (eU hL) trivial<|Zh rfl ?_;refine L.n5 ?_;obtain rfl:k=ls.length:=by omega
   refine eK (A:=[]) (B:=[(_,_),(_,_)]) ha rfl (fun D9 hD9 hF9=>?_);exact Zm [_,_,_] rfl ⟨rfl,⟨_,_,_,rfl,LT _ (GE _),aJE ⟨Tf.a42,Tf.s42,rfl⟩⟩,rfl,aOJ⟩ (fun D hD=>⟨_,_,rfl,(hF9.strs (l:=bN ls) rfl (by have:=Q7 ls (eO ls).2 ls.length;omega)).up RS.up (hD _ Ye),⟨pv,cv,hv,lv,mv,bl,bc,yc,yq,by rw[iL hf]<;>rfl,by have:=hL.up (hD _ Ye);rw[iL hf]at this;exact this⟩⟩)
end L12
end Go.Fs
namespace Go.Fs
open Go.Proofs
namespace L12
open C12 Go.Lib
section
variable{P:Program}{X:Cx}{γb:Type}[Membership Nat γb]{bad:γb}{all:Array Oper}{K:Act→World→Prop}{Q:Exit→Act→World→Prop}
variable{σ:bS}{μ:aC}{Ds:List aA}{os:List (Bool×Nat)}{fl:Bool}{ix d:Nat}{ty:TypeId}{pos:String}{aft:Array Edge}{g:Option (Nat×Bool)}{v:Value}
def aII(D' D:aA)(cells:List Value):Prop:=D'=D∨∃b,D=eC D' b []∧D' b=cells
theorem GC{D:aA}{w:World}{bo:Nat}{cs js:List Value}{e:TypeId}{fz:Nat×Nat}(h:dM D w)(hb:w.heap[bo]?= some (.cells (cs++js).toArray e fz))(hD:D bo=[]):dM (eC D bo cs) w:=h.of (fun c hc=>by
 unfold eC at hc ⊢
 split
 ·rename_i ec;subst ec;exact⟨_,_,_,hb,List.prefix_append _ _⟩
 ·rename_i ec;rw[aJM ec]at hc;exact h.1 c hc) (by unfold eC;rw[aJM (Ne.symm (h.ne0 hD))]) rfl
theorem GU{A B ν:aC}{e:TypeId}{sz n:Nat}{cells:List Value}{c:Operand}{xs:Array Operand}{ats:Array TypeId}{f:FuncId}{c1 c2:List Value}{vs:List Value}{post:aA→Value→Prop}(ho:all[ix]?= some ⟨some d,.call {callee:=.value c,args:=xs,argTypes:=ats},ty,pos,aft,g⟩)(hc:ev σ c=some (.func (.func f) c1.toArray c2.toArray))(hxs:C0 σ xs.toList=some vs)
  (hacc:bL e sz v n cells ν) (hf:∀D,(∀D₁∈Ds,Le D₁ D)→jN D v n cells→Fn P f (c1++vs++c2).toArray D post) (hN:Nat.blt d X.N=true) (hg:cT all σ g)
  (kk:∀r D' D,(∀D₁∈Ds,Le D₁ D)→post D' r→aII D' D cells→WL P X bad all K Q os ((d,r)::σ) (A++ν++B) (D::Ds)):WL P X bad all K Q ((fl,ix)::os) σ (A++ν++B) Ds:=by
 rcases hacc with⟨a',hv,h0,h00,rfl⟩|⟨b,cap,junk,hv,hcap,rfl,h8,h9⟩
 ·exact GJ ho hc hxs (fun D hD=>hf D hD (aJQ ⟨a',hv,h0,h00⟩)) hN hg (fun r D hD hp=>kk r D D hD hp (aJQ rfl))
 ·refine dI ho rfl rfl hg fun a w hh=>?_
  obtain⟨h1,h2,h3,D,h4,h5,h6⟩:=id hh;obtain⟨hb1,hb2,hb3⟩:=h4.box (b,.cells (cells++junk).toArray e (0,0)) Ye;have hA:=M8 D b cells;have hF:=hf (eC D b cells) (fun D₁ hD₁=>(h5 D₁ hD₁).trans (sU hb2 (h4.agr.ne0 hb2))) (aJE ⟨b,cap,hv,hcap,hA⟩);rw[nO hF.1 (hh.eval hc) (gU (fun _ _ hx=>hh.eval hx) hxs)];refine⟨fun h=>by simp[FW]at h,cS.2 ((hF.2 w (GC h4.agr hb1 hb2)).mono ?_)⟩;rintro e' w' ⟨v',D',rfl,hs0,hpost⟩;have hs:=hs0.hide hb2 (h4.agr.ne0 hb2);have hle:=eG h4.agr hs;have hDb:D' b=cells:=(hs0.dold b (bA hb1)).trans (aJT rfl);refine⟨fun _=>hs.keep bad,kk _ D' _ (fun D₁ hD₁=>(h5 D₁ hD₁).trans hle) hpost (aJE ⟨b,rfl,hDb⟩) _ _ (Hl.put ⟨h1,h2,h3,eC D' b [],h4.after hs,fun D₁ hD₁=>?_,h6.step (fun _ p hp=>aJQ (aIY.2 ⟨p,hp,rfl⟩)) (fun _=>hs.low _) (h4.after hs).dom⟩ hN _)⟩;rcases aIW.1 hD₁ with rfl|hD₁
  ·exact Le.refl _
  ·exact(h5 D₁ hD₁).trans hle
end
def NoS{α:Type}(R:Rd α):Prop:=(∀D D' x cs,R D x cs→R D' x cs)∧∀D x cs,R D x cs→∃c t,cs=c::t∧∀s,c≠.string s
theorem _root_.Go.Fs.Sl.hid{α:Type}{R:Rd α}(hR:NoS R){D' D:aA}{ls:List ByteArray}(h:aII D' D (ls.map Value.string)){sz:Nat}{v:Value}{xs:List α}(hS:Sl D' R sz v xs):Sl D R sz v xs:=by
 rcases h with rfl|⟨b,rfl,hb⟩
 ·exact hS
 ·obtain⟨a,cap,hv,h1,h2,h3⟩:=hS;refine⟨a,cap,hv,h1,h2,?_⟩;cases xs with
  |nil=>exact aJQ rfl
  |cons x xs=>
   refine aJE ?_;rcases h3 with h3|⟨b0,o,ha,he⟩
   ·cases h3
   ·have hne:b0≠b:=by
     rintro rfl;obtain⟨cs,hr,_,hA⟩:=he 0 x rfl;obtain⟨c,t,rfl,hn⟩:=hR.2 _ _ _ hr;have h5:=hA 0 c rfl;rw[hb]at h5;obtain⟨s,_,hs⟩:=aIY.1 (aJA h5);exact hn s hs.symm
    refine⟨b0,o,ha,fun i y hy=>?_⟩;obtain⟨cs,hr,hl,hA⟩:=he i y hy;exact⟨cs,hR.1 _ _ _ _ hr,hl,fun j u hj=>by unfold eC;rw[aJM hne];exact hA j u hj⟩
theorem _root_.Go.Fs.fT.hid{D' D:aA}{ls:List ByteArray}(h:aII D' D (ls.map Value.string)){v:Value}{s:aI}(hS:fT D' v s):fT D v s:=by
 obtain⟨pv,cv,hv,lv,mv,bl,bc,yc,yq,e,h1,h2,h3,h4,h5,h6,h7,h8,h9⟩:=hS;exact⟨pv,cv,hv,lv,mv,bl,bc,yc,yq,e,h1.hid ⟨fun _ _ _ _ h=>h,fun _ _ _ h=>⟨_,_,h,fun _ e=>by cases e⟩⟩ h,h2.hid ⟨fun _ _ _ _ h=>h,fun _ _ _ h=>⟨_,_,h,fun _ e=>by cases e⟩⟩ h,h3.hid ⟨fun _ _ _ _ h=>h,fun _ _ _ h=>⟨_,_,h,fun _ e=>by cases e⟩⟩ h,h4.hid ⟨fun _ _ _ _ h=>h,fun _ _ _ h=>⟨_,_,h,fun _ e=>by cases e⟩⟩ h,h5.hid ⟨fun _ _ _ _ h=>h,fun _ _ _ h=>⟨_,_,h,fun _ e=>by cases e⟩⟩ h,h6.hid ⟨fun _ _ _ _ h=>h,fun _ _ _ h=>⟨_,_,h,fun _ e=>by cases e⟩⟩ h,h7.hid ⟨fun _ _ _ _ h=>h,fun _ _ _ h=>⟨_,_,h,fun _ e=>by cases e⟩⟩ h,h8.hid ⟨fun _ _ _ _ h=>h,fun _ _ _ h=>⟨_,_,h,fun _ e=>by cases e⟩⟩ h,h9.hid ⟨fun _ _ _ _ h=>h,fun _ _ _ h=>⟨_,_,h,fun _ e=>by cases e⟩⟩ h⟩
def gZ(bs:List UInt8):List ByteArray:=(kQ 40 0 0 bs).map (·.1)
def rU(bs:List UInt8)(more:List ByteArray):List ByteArray:=gZ bs++kL (eO (gZ bs)).1 more
def kG(bs:List UInt8)(more:List ByteArray):List UInt8×Int:=if cK more≠0 then([],cK more)else if 40<(rU bs more).length then([],3)else(fM (bD (rU bs more)),0)
theorem vF(bs:List UInt8):(gZ bs).length≤40:=by unfold gZ;rw[aLA];exact Q3 40 0 0 bs
theorem IH:∀(f i p:Nat) (b:List UInt8),∀x∈kQ f i p b,x.1.size≤50
 |0,_,_,_,_,h=>by cases h
 |f+1,i,p,b,x,h=>by
  unfold kQ at h;split at h
  ·cases h
  ·rename_i l hl;rcases aIW.1 h with rfl|h
   ·exact(L0 hl).1
   ·exact IH f _ _ b x h
theorem X3(bs:List UInt8):∀l∈gZ bs,l.size≤50:=fun l hl=>by
 obtain⟨x,hx,rfl⟩:=aIY.1 hl;exact IH 40 0 0 bs x hx
theorem sY:∀(ls:List ByteArray) (s:aI),(kL s ls).length≤ls.length
 | [],_=>aJU _
 |l::ls,s=>by
  have h1:=sY ls (lK s l).1;rw[kL];split
  ·rw[aJD,aJD];omega
  ·rw[aJD];omega
theorem R4:∀(ls:List ByteArray) (s:aI),∀x∈kL s ls,x∈ls
 | [],_,_,h=>h
 |l::ls,s,x,h=>by
  rw[kL]at h;split at h
  ·rcases aIW.1 h with rfl|h
   ·exact aJH
   ·exact aJB _ (R4 ls _ x h)
  ·exact aJB _ (R4 ls _ x h)
theorem R8(ms:List ByteArray):∀(ls:List ByteArray) (s:aI),kL s (ls++ms)=kL s ls++kL (gW s ls) ms
 | [],_=>rfl
 |l::ls,s=>by
  rw[aLO,kL,kL,W3,R8 ms ls];split
  ·rfl
  ·rfl
theorem a7{ls:List ByteArray}{k:Nat}{x:ByteArray}(h:ls[k]?= some x)(s:aI):kL s (ls.take (k+1))=kL s (ls.take k)++(if(lK (gW s (ls.take k)) x).2=0 then [x]else []):=by
 rw[aJP,h,R8];rfl
theorem V9{ls:List ByteArray}{k:Nat}{x:ByteArray}(h:ls[k]?= some x){s:aI}:gW s (ls.take (k+1))=(lK (gW s (ls.take k)) x).1:=by
 rw[aJP,h,VP];rfl
theorem PK(bs:List UInt8)(more:List ByteArray):(rU bs more).length≤40+more.length:=by
 have h1:=vF bs;have h2:=sY more (eO (gZ bs)).1;unfold rU;rw[aIX];omega
theorem VO{bs:List UInt8}{more:List ByteArray}(hf:cK more=0):∀l∈rU bs more,l.size≤50:=fun l hl=>by
 rcases aJO.1 hl with h|h
 ·exact X3 bs l h
 ·exact mL hf l (R4 _ _ l h)
theorem VC{q:Nat}{o:Obj}{p1:Nat×Obj}{ν:aC}(h:(aC.ks ((q,o)::([p1]++ν++[]))).Nodup):∀p∈ν,p.1∉[q]:=by
 intro p hp hm;obtain rfl:p.1=q:=by simpa using hm
 exact(aKW.1 h).1 (aIY.2 ⟨p,by simp[hp],rfl⟩)
structure aHB where
 (k:Nat) (s:aI) (es:List ByteArray) (pv cv hv lv mv bl bc yc yq v:Value) (ν:aC) (Dn:aA)
theorem B3(bv:Value)(bs:List UInt8)(D:aA)(hS:Sl D RU 1 bv bs)(hb:bs.length≤1000000000):CN Tryz.prog 15 #[bv] D (fun _D' v ν=>∃lv,v=.tuple #[lv,.int .i64 (TN (kQ 40 0 0 bs):Int)]∧bL 9 1 lv ((kQ 40 0 0 bs).map (·.1)).length (((kQ 40 0 0 bs).map (·.1)).map Value.string) ν):=by
 refine JW 17 Tryz.func15 rfl rfl rfl rfl fun h0=>C.s1<|Zx rfl Tf.z22 rfl (fun q1=>Zx rfl Tf.z3 rfl (fun q2=>L.n4<|Za rfl<|Zt rfl (fun D1 hD1=>HI _ bs _ (hS.up RU.up (hD1 _ Ye)) hb) (fun v1 D1 hD1 hp1=>L.n1<|Zaj ?_)))
 obtain⟨br,rfl,hit⟩:=hp1;refine mK (γ:=Value×aC×Nat) (xs:=kQ 40 0 0 bs) (enc:=aDQ) (Dr:=D1) (fun pre g=>bL 9 1 g.1 (pre.map (·.1)).length ((pre.map (·.1)).map Value.string) g.2.1∧g.2.2=TN pre) (fun _ _ _=>False) (fun g=>[(q2,.cells [.int .i64 (g.2.2:Int)].toArray 3 (0,0)),(q1,.cells [g.1].toArray 22 (0,0))]++g.2.1) (.slice none 0 0,[],0) rfl rfl rfl rfl hit Ye (fun _=>rfl) rfl ⟨bL.nil,rfl⟩ rfl ?_ ?_ (fun _ _ _ _ h=>h.elim)
 ·rintro pre x ⟨v,ν,e⟩ ⟨us,hx⟩ ⟨hac,he⟩ l bd rec hh D7 hD7 hst hpend;obtain⟨sx,px⟩:=x;simp only at hac he;have hpl:pre.length<40:=by have h9:=Q3 40 0 0 bs;rw[hx,aIX,aJD]at h9;omega
  refine C.s1<|Zh rfl<|L.n1<|C.rg<|Zh rfl<|Zab ?_;refine fun a w hhh=>rF (A:=[(_,_),(_,_)]++ν) (B:=[(bd,.deferred (some []))]) (r:=rec) (l:=l) (by rfl) hst ?_ a w hhh
  refine Zaj<|C.rg<|Zl rfl Tf.a22 rfl (List.Mem.tail _ (List.Mem.head _)) rfl<|Za rfl<|Zp rfl U22 Tf.s9 Tf.z9 rfl rfl rfl rfl (.cons rfl rfl .nil) (fun b901 D901 hD901 hA901=>aU (A:=[(_,_),(_,_)]) (ν:=ν) (B:=[(l,_),(bd,_)]) rfl U22 rfl rfl Tf.s9 Tf.z9 rfl Tf.i9 rfl rfl rfl hac (jE.lit Yk) Ye rfl Yan Yi (by rw[aLA];omega) (aJQ rfl) rfl aOJ (fun v1 ν1 ha1=>?_));have hI1:bL 9 1 v1 ((pre++[(sx,px)]).map (·.1)).length (((pre++[(sx,px)]).map (·.1)).map Value.string) ν1:=by rw[aJN,aIX,aJN];exact ha1
  refine Za rfl<|aY rfl rfl rfl ha1.cells1 Tf.s22 (.tail .head) Ye rfl ha1.cell1 trivial<|Zn rfl Tf.s3 (bM.head) rfl<|Zab<|Zal ?_;exact fun a w hh=>fN (A:=[(_,_),(_,_)]++ν1) (B:=[(bd,.deferred (some []))]) (v1,ν1,px) ⟨hI1,(LK pre (sx,px)).symm⟩ rfl rfl a w hh
 ·rintro⟨v,ν,e⟩ bd ⟨hac,he⟩;dsimp only at hac he ⊢
  subst he;obtain⟨va,vn,vcap,rfl⟩:∃a n c,v=.slice a n c:=by rcases hac with⟨a1,h,_⟩|⟨b1,c1,j1,h,_⟩<;>exact⟨_,_,_,h⟩
  refine Zal<|Zah<|aM<|C.drawA [] 1 4 6 (fun _ _ _ h=>h)<|Zl rfl Tf.a22 rfl (List.Mem.tail _ (List.Mem.head _)) rfl<|Zl rfl Tf.a3 rfl (List.Mem.head _) rfl<|Q1 rfl rfl rfl rfl Tf.s22 (.tail bM.head) Ye rfl Yi trivial<|Zn rfl Tf.s3 (bM.head) rfl<|L.n5<|uE ([(_,_),(_,_)]++ν++[]++[(bd,.deferred (some []))]) (by rw[aJF];rfl) ?_;exact I3 (vs:=[_,_]) (A:=[(_,_),(_,_)]) (ν':=ν) (B:=[]) rfl rfl rfl ⟨⟨_,_,_,rfl,(LT _ (GE _)),aJQ ⟨Tf.a22,rfl⟩⟩,⟨_,_,_,rfl,GE _,aJQ ⟨Tf.a3,rfl⟩⟩,aOJ⟩ (fun D hD=>⟨_,rfl,hac⟩)
theorem V2(bv mv:Value)(bs:List UInt8)(more:List ByteArray)(D:aA)(hS:Sl D RU 1 bv bs)(hb:bs.length≤1000000000)(hM:Sl D RS 1 mv more)(hV:jO D):Fn Tryz.prog 27 #[bv,mv] D (fun D' v=>∃v1,v=.tuple #[v1,.int .i64 (kG bs more).2]∧Sl D' RU 1 v1 (kG bs more).1):=by
 refine enter 55 Tryz.func27 rfl rfl rfl rfl fun h0=>C.s1<|Zh rfl<|Zh rfl<|L.n4<|Za rfl<|Zd rfl (fun D1 hD1=>oB _ more _ (hM.up RS.up (hD1 _ Ye)))<|Zh rfl<|L.n3<|Za rfl<|dZ rfl rfl rfl rfl trivial<|L.n1 ?_;refine aE rfl (fun hc1=>?_) (fun hc1=>?_)
 ·have hf:cK more≠0:=by simpa using hc1
  refine C.s1<|Za rfl<|Zh rfl<|Zh rfl<|L.n5<|Zai ?_;exact Zm [_,_] rfl C.rs (fun D hD=>⟨.slice none 0 0,by rw[kG,aJT hf];rfl,by rw[kG,aJT hf];exact Sl.nil⟩)
 ·have hf:cK more=0:=by simpa using hc1
  have hm40:=fL hf;refine C.kn<|C.s1<|Za rfl<|eJ rfl rfl rfl (fun D20 hD20=>B3 _ bs _ (hS.up RU.up (hD20 _ Ye)) hb) rfl aOJ (fun v20 D21 ν hD21 hp20=>?_);obtain⟨lw,rfl,hac⟩:=hp20;have hll:(gZ bs).length≤40:=vF bs;have hls:=X3 bs;change bL 9 1 lw (gZ bs).length ((gZ bs).map Value.string) ν at hac;refine Za rfl<|Zaa rfl<|Zaa rfl<|Zh rfl<|Zh rfl<|L.n3<|Za rfl<|GU (A:=[]) (B:=[]) rfl rfl rfl (by simpa using hac) (fun D30 hD30 hF30=>KQ _ (gZ bs) _ (hF30.strs rfl Yd) Yd (fun l hl=>by have:=hls l hl;omega) (hV.up (hD30 _ Ye))) rfl aOJ (fun v30 D31 D32 hD32 hp30 hid=>?_)
  obtain⟨w1,w2,rfl,hst, -⟩:=hp30;obtain⟨pv,cv,hv,lv,mv,bl,bc,yc,yq,rfl,hL⟩:=hst.hid hid;have hk0:=yH (gZ bs);unfold bP;rw[aKF];refine Za rfl<|Zaa rfl<|Zaa rfl<|Zx rfl Tf.z42 rfl (fun q1=>aW rfl rfl rfl rfl Tf.s42 Ya Ya (bM.head) (eU hL) trivial<|Zh rfl<|L.n4<|Za rfl<|aR rfl U22 rfl hM rfl rfl trivial<|Za rfl<|L.n1<|Zaj ?_);refine cE (γ:=aHB) (fun g=>more.length-g.k) (fun g=>g.k≤more.length∧g.s=gW (eO (gZ bs)).1 (more.take g.k)∧g.es=gZ bs++kL (eO (gZ bs)).1 (more.take g.k)∧bL 9 1 g.v g.es.length (g.es.map Value.string) g.ν∧gN g.Dn g.s g.pv g.cv g.hv g.lv g.mv g.bl g.bc g.yc g.yq∧jR g.s) (fun g=>[(32,.int .i64 (g.k:Int)),(7,g.v)]) [(31,_),(30,_),(9,_),(5,_),(4,_)] (fun g=>[(q1,.cells (bP g.s g.pv g.cv g.hv g.lv g.mv g.bl g.bc g.yc g.yq).toArray 42 (0,0))]++g.ν++[]) (fun g=>[g.Dn,D]) ⟨0,(eO (gZ bs)).1,gZ bs,pv,cv,hv,lv,mv,bl,bc,yc,yq,lw,ν,D32⟩ ⟨by simp,rfl,by simp[kL],hac,hL,hk0⟩ ⟨Yb,Yb,aOJ⟩ C.rs (LE _) ((fun D0 h=>by simp only[aIW,GT,aLT]at h;rcases h with rfl|rfl<;>exact⟨_,by simp,Le.refl _⟩)) ?_
  rintro⟨k,s,es,pv,cv,hv,lv,mv,bl,bc,yc,yq,v,ν,Dn⟩ ⟨h1,hs,hp,ha,hL,hk⟩;simp only at h1 hs hp ha hL hk;have hel:es.length≤80:=by rw[hp,aIX];have h9:=sY (more.take k) (eO (gZ bs)).1;rw[aKL]at h9;have:=vF bs;omega
  refine C.s1<|Zae rfl<|L.n2<|aE rfl (fun hc2=>?_) (fun hc2=>?_)
  ·simp only at hc2;have hlt:k<more.length:=by omega
   obtain⟨x,hx⟩:=C.ge more k;refine C.kn<|aM<|Zaj<|C.s1<|Zs rfl U22 Tf.s9 rfl hM rfl hx (fun b1 o1 cs1 hr1 hcl1 hA1=>?_);obtain rfl:cs1=[.string _]:=hr1;refine Zf 0 rfl Tf.a9 rfl hA1 rfl<|Zh rfl<|L.n3<|Zu rfl Tf.a42 rfl (List.Mem.head _) Tf.s42<|Za rfl<|Zt rfl (fun D2 hD2=>aDM _ s x _ ⟨pv,cv,hv,lv,mv,bl,bc,yc,yq,rfl,hL.up (hD2 _ Ye)⟩ hk (by have:=mL hf x (aJA hx);omega) (hV.up (hD2 _ Ye))) (fun v2 D2 hD2 hp2=>?_)
   obtain⟨w1,rfl,pv2,cv2,hv2,lv2,mv2,bl2,bc2,yc2,yq2,rfl,hL2⟩:=hp2;have hk2:=FY hk x;unfold bP;refine Za rfl<|Zaa rfl<|Zaa rfl<|Zx rfl Tf.z42 rfl (fun q2=>aW rfl rfl rfl rfl Tf.s42 Ya Ya (bM.head) (eU hL2) trivial<|Zh rfl<|L.n3<|Za rfl<|dJ rfl rfl rfl rfl trivial<|L.n1<|aE rfl (fun hc3=>?_) (fun hc3=>?_))
   ·have hz:(lK s x).2=0:=by simpa using hc3
    refine rZ (fun hnd=>?_);have hnu:∀p∈ν,p.1∉[q2]:=VC hnd;have hq2:q2∉dO.mk [q2]:=dO.out Ye;refine C.drawA (dO.mk [q2]) 3 7 30 (fun _ _ _ h=>cA (P:=Tryz.prog) (fn:=Tryz.f27) _ _ _ h)<|bJ rfl Tf.a42 rfl (List.Mem.head _) Tf.s42 Yj rfl trivial<|Za rfl<|Za rfl<|Zp rfl U22 Tf.s9 Tf.z9 rfl rfl rfl rfl (.cons rfl rfl .nil) (fun b901 D901 hD901 hA901=>aU (A:=[(_,_),(_,_)]) (B:=[]) rfl U22 rfl rfl Tf.s9 Tf.z9 rfl Tf.i9 rfl rfl rfl ha (jE.lit hA901) Ye rfl Ye Yi Yd (aJE (fun p hp=>dO.in_ (hnu p hp))) rfl aOJ (fun v1 ν1 ha1=>?_));have ha2:bL 9 1 v1 (es++[x]).length ((es++[x]).map Value.string) ν1:=by rw[aIX,aJN];exact ha1
    refine aF ((q2,_)::(q1,_)::(ν1++[])) rfl<|aW rfl rfl rfl rfl Tf.s42 Ya Ya (.tail (bM.head)) (eU hL2) trivial<|Zh rfl<|Zab<|Zal<|Zah<|C.rg<|Zy rfl<|Za rfl<|Zab ?_;exact aG 24 ⟨k+1,(lK s x).1,es++[x],pv2,cv2,hv2,lv2,mv2,bl2,bc2,yc2,yq2,v1,ν1,D2⟩ ⟨by simp only;omega,by simp only;rw[V9 hx,hs],by simp only;rw[hp,a7 hx,←hs,aJT hz,aJL],ha2,hL2,hk2⟩ Yl ⟨Yb,Yb,aOJ⟩ rfl rfl (List.Sublist.cons _ (LE _)) ((fun D0 h=>by simp only[aIW,GT,aLT]at h;rcases h with rfl|rfl<;>exact⟨_,by simp,Le.refl _⟩))
   ·have hz:(lK s x).2≠0:=by simpa using hc3
    refine bQ<|Zal<|Zah<|C.rg<|Zy rfl<|Za rfl<|Zab ?_;exact aG 18 ⟨k+1,s,es,pv,cv,hv,lv,mv,bl,bc,yc,yq,v,ν,Dn⟩ ⟨by simp only;omega,by simp only;rw[V9 hx,←hs];exact(XK hz).symm,by simp only;rw[hp,a7 hx,←hs,aJM hz,aJF],ha,hL,hk⟩ Yl ⟨Yb,Yb,aOJ⟩ rfl rfl (List.Sublist.cons _ (LE _)) ((fun D0 h=>by simp only[aIW,GT,aLT]at h;rcases h with rfl|rfl<;>exact⟨_,by simp,Le.refl _⟩))
  ·obtain rfl:k=more.length:=by simp only at hc2;omega
   rw[aKN]at hp hs;have hek:es=rU bs more:=hp;subst hek;have hkl:=PK bs more;refine aQ<|Zak<|Zak<|Zan<|Zah<|C.s2<|Za rfl<|dS rfl U22 rfl ha rfl rfl trivial<|eB rfl rfl rfl rfl trivial<|L.n1<|aE rfl (fun hc4=>?_) (fun hc4=>?_)
   ·refine C.s1<|Zh rfl<|Zh rfl<|L.n5<|Zai ?_;exact Zm [_,_] rfl C.rs (fun D hD=>⟨.slice none 0 0,by rw[kG,aJM Yd,aJT Yd];rfl,by rw[kG,aJM Yd,aJT Yd];exact Sl.nil⟩)
   ·refine C.kn<|aM<|tI (A:=[(_,_)]) (B:=[]) ha rfl (fun D8 hD8 hF8=>?_);have hks:=hF8.strs (l:=rU bs more) rfl Yd;refine C.rg<|Za rfl<|Zt rfl (fun D3 hD3=>JE _ (rU bs more) _ (hks.up RS.up (hD3 _ Ye)) Yd (fun l hl=>by have:=VO hf l hl;omega)) (fun v3 D3 hD3 hp3=>Zh rfl<|Zh rfl<|L.n5 ?_)
    exact Zm [_,_] rfl C.rs (fun D hD=>⟨v3,by rw[kG,aJM Yd,aJM Yd];rfl,by rw[kG,aJM Yd,aJM Yd];exact hp3.up RU.up (hD _ Ye)⟩)
end L12
end Go.Fs
namespace Go.Fs
open Go.Proofs
namespace L12
open C12 Go.Lib
theorem O4:∀(f i p:Nat) (b:List UInt8),(kQ f i p b).map (fun x=>x.1.data.toList)=zR f i (b.drop p)
 |0,_,_,_=>rfl
 |f+1,i,p,b=>by
  unfold kQ zR;cases fU i (b.drop p)with
  |none=>rfl
  |some l=>
   simp only[aJY];rw[O4 f (i+1) (p+9+l.length) b,aMZ,show p+(9+l.length)=p+9+l.length by omega]
def aBO(p:Nat)(l:List (ByteArray×Nat)):Nat:=match l.getLast? with|none=>p|some x=>x.2
theorem LX(p:Nat)(x:ByteArray×Nat)(l:List (ByteArray×Nat)):aBO p (x::l)=aBO x.2 l:=by
 unfold aBO;rw[List.getLast?_cons];cases l.getLast? <;>rfl
theorem AQ:∀(f i p:Nat) (b:List UInt8),aBO p (kQ f i p b)=p+uZ ((kQ f i p b).map (fun x=>x.1.data.toList))
 |0,_,_,_=>rfl
 |f+1,i,p,b=>by
  unfold kQ;cases fU i (b.drop p)with
  |none=>rfl
  |some l=>
   simp only[aJY];rw[LX,AQ f (i+1) (p+9+l.length) b,uZ];omega
theorem J8:∀{a b:List ByteArray},bD a=bD b→a=b
 | [],[],_=>rfl
 | [],_::_,h=>by cases h
 |_::_,[],h=>by cases h
 |x::a,y::b,h=>by
  simp only[bD,aJY,aLN]at h;rw[Go.WideShapes.bytes_inj h.1,J8 (a:=a) (b:=b) h.2]
theorem XT(l:List (ByteArray×Nat)):l.map (fun x=>x.1.data.toList)=bD (l.map (·.1)):=by unfold bD;rw[aNT];rfl
theorem IU{ls:List ByteArray}(hf:cK ls=0):∀l∈bD ls,l.length≤50:=fun l hl=>by
 obtain⟨x,hx,rfl⟩:=aIY.1 hl;exact mL hf x hx
theorem wA(ls:List ByteArray):(bD ls).length=ls.length:=aLA _
theorem DF(ls:List ByteArray)(k:Nat):(bD ls).take k=bD (ls.take k):=by unfold bD;rw[List.map_take]
theorem PJ{ls:List ByteArray}(hf:cK ls=0)(n:Nat):∃k,k≤ls.length∧(kQ 40 0 0 (List.take n (fM (bD ls)))).map (·.1)=ls.take k∧TN (kQ 40 0 0 (List.take n (fM (bD ls))))=uZ ((bD ls).take k)∧uZ ((bD ls).take k)≤n∧∀x,ls[k]?= some x→n<uZ ((bD ls).take k)+9+x.size:=by
 obtain⟨k,hk,h2,h3,h4⟩:=DG (bD ls) 40 0 n (IU hf) (by rw[wA];exact fL hf);rw[wA]at hk;have h1:=O4 40 0 0 (List.take n (fM (bD ls)));rw[aMS]at h1;have h5:=h1.trans h2;have h6:=AQ 40 0 0 (List.take n (fM (bD ls)));rw[h5,aMC]at h6;exact⟨k,hk,J8 (by rw[←XT,←DF];exact h5),h6,h3,fun x hx=>h4 _ (P4 hx)⟩
theorem QB{ls:List ByteArray}(hf:cK ls=0):(fM (bD ls)).length≤2360:=by
 have h:=qY (bD ls) 0 50 (IU hf);rw[wA]at h;have:=fL hf;exact aLS h Yd
end L12
end Go.Fs
namespace Go.Fs
open Go.Proofs
namespace L12
open C12 Go.Lib
theorem NM:gZ []=[]:=by unfold gZ kQ;rw[List.drop_nil,c8];rfl
theorem Q4{ls:List ByteArray}(hf:cK ls=0):kG [] ls=(fM (bD (bN ls)),0):=by
 have e:rU [] ls=bN ls:=by unfold rU;rw[NM,wO];rfl
 have h:=(j6 ls).1;have h40:=fL hf;unfold kG;rw[aJM Yd,e,aJM Yd]
theorem PV{a:List ByteArray}(ha:kL hP a=a)(k:Nat):a.take k++kL (eO (a.take k)).1 (a.drop k)=a:=by
 have h:=R8 (a.drop k) (a.take k) hP;rw[aLD,ha]at h;have h1:=sY (a.take k) hP;have h2:=sY (a.drop k) (gW hP (a.take k));have h3:(a.take k).length+(a.drop k).length=(kL hP (a.take k)).length+(kL (gW hP (a.take k)) (a.drop k)).length:=by rw[←aIX,←aIX,aLD,←h]
 have h4:a.take k++a.drop k=kL hP (a.take k)++kL (gW hP (a.take k)) (a.drop k):=by rw[aLD,←h]
 have h5:=(List.append_inj h4 Yd).2;rw[e8,←h5,aLD]
theorem UB{ls:List ByteArray}(hf:cK ls=0){n k:Nat}(h:(kQ 40 0 0 (List.take n (fM (bD (bN ls))))).map (·.1)=(bN ls).take k):kG (List.take n (fM (bD (bN ls)))) ((bN ls).drop k)=(fM (bD (bN ls)),0):=by
 have hfa:=b9 hf;have ha:kL hP (bN ls)=bN ls:=by rw[wO];exact P1 ls hP
 have e:rU (List.take n (fM (bD (bN ls)))) ((bN ls).drop k)=bN ls:=by unfold rU gZ;rw[h];exact PV ha k
 have hd:cK ((bN ls).drop k)=0:=zZ (by have:=fL hfa;rw[aLB];omega) fun x hx=>mL hfa x (List.mem_of_mem_drop hx)
 have h40:=fL hfa;unfold kG;rw[aJM Yd,e,aJM Yd]
theorem T7(lv:Value)(ls:List ByteArray)(c:Int)(hc:0≤c∧c≤65535)(D:aA)(hS:Sl D RS 1 lv ls)(hV:jO D):Fn Tryz.prog 6 #[lv,.int .u16 c] D (fun _ v=>v=.bool true):=by
 have hsl:=hS.len;refine enter 100 Tryz.func6 rfl rfl rfl rfl fun h0=>C.s1<|Zh rfl<|L.n4<|Za rfl<|Zd rfl (fun D1 hD1=>EN _ ls _ (hS.up RS.up (hD1 _ Ye)))<|Zag rfl<|L.n1<|aJ rfl (fun hc1=>?_) (fun hc1=>?_)
 ·refine C.s1<|Zd rfl (fun D2 hD2=>DN _ (hV.up (hD2 _ Ye)))<|Zh rfl<|L.n5<|Zai ?_;exact leave1 rfl rfl rfl rfl (fun D hD=>rfl)
 ·have hsh:s8 ls=true:=by simpa using hc1
  have hf0:=AL hsh;have hfa:=b9 hf0;have h40:=fL hf0;have ha40:=fL hfa;have hBl:=QB hfa;refine C.kn<|C.s1<|Za rfl<|Zt rfl (fun D3 hD3=>l3 _ ls _ (hS.up RS.up (hD3 _ Ye)) (hV.up (hD3 _ Ye)) hf0) (fun v3 D3 hD3 hp3=>?_);obtain⟨w0,z0,rfl,hA10,⟨pv0,cv0,hv0,lv0,mv0,bl0,bc0,yc0,yq0,rfl,hL⟩⟩:=hp3;obtain⟨aa,acap,rfl⟩:=hA10.shape;unfold bP;refine Za rfl<|Zaa rfl<|Zaa rfl<|Zaa rfl<|Zx rfl Tf.z42 rfl (fun q1=>Zh rfl<|aW rfl rfl rfl rfl Tf.s42 Ya Ya (bM.head) (eU hL) trivial<|Zh rfl<|L.n3<|Za rfl<|Zt rfl (fun D4 hD4=>uD _ (bN ls) _ (hA10.up RS.up (hD4 _ Ye)) Yd) (fun v4 D4 hD4 hp4=>?_));have hq4:=hp4;refine Zt rfl (fun D5 hD5=>AP _ (bN ls) _ (hq4.up RS.up (hD5 _ Ye))) (fun v5 D5 hD5 hp5=>?_);obtain⟨wv,rfl,hwb⟩:=hp5;rw[aJT hfa]at hwb;obtain⟨wa,wcap,rfl⟩:=hwb.shape;refine Za rfl<|Zaa rfl<|Zaa rfl<|Zh rfl<|Zh rfl<|L.n3<|Za rfl<|Zt rfl (fun D6 hD6=>uD _ ls _ (hS.up RS.up (hD6 _ Ye)) Yd) (fun v6 D6 hD6 hp6=>?_);have hq5:=hp6;refine Zt rfl (fun D7 hD7=>V2 _ _ [] ls _ Sl.nil (aMX _) (hq5.up RS.up (hD7 _ Ye)) (hV.up (hD7 _ Ye))) (fun v7 D7 hD7 hp7=>?_);obtain⟨xv,rfl,hxb⟩:=hp7;rw[Q4 hf0]at hxb;rw[Q4 hf0];refine Za rfl<|Zaa rfl<|Zaa rfl<|Zh rfl<|Zh rfl<|L.n4<|Za rfl<|Zag rfl<|Za rfl ?_;refine' L.orK 3 (s:=41) (p:=44) rfl (fun hg1=>?_) (fun hg1=>?_) ?_;rotate_left
  ·refine Zb rfl<|dZ rfl rfl rfl rfl ⟨_,rfl,rfl⟩<|Zad rfl ?_;exact L.cu 2
  ·refine Zk rfl<|Zk rfl<|Zac rfl ?_;exact L.cu 2
  refine Za rfl ?_;refine' L.orK 3 (s:=45) (p:=48) rfl (fun hg2=>?_) (fun hg2=>?_) ?_;rotate_left
  ·refine Zb rfl<|dZ rfl rfl rfl rfl ⟨_,rfl,rfl⟩<|Zad rfl ?_;exact L.cu 2
  ·refine Zk rfl<|Zk rfl<|Zac rfl ?_;exact L.cu 2
  refine Za rfl ?_;refine' L.orK 6 (s:=49) (p:=55) rfl (fun hg3=>?_) (fun hg3=>?_) ?_;rotate_left
  ·refine Zb rfl<|jJ rfl U51 U5 U9 rfl hwb Ye (fun _ _ _ _ _=>GT) rfl ⟨_,rfl,rfl⟩<|Zb rfl<|jJ rfl U51 U5 U9 rfl hxb Ye (fun _ _ _ _ _=>GT) rfl ⟨_,rfl,rfl⟩<|WN rfl rfl rfl rfl ⟨_,rfl,rfl⟩<|Zad rfl ?_;exact L.cu 5
  ·refine Zk rfl<|Zk rfl<|Zk rfl<|Zk rfl<|Zk rfl<|Zac rfl ?_;exact L.cu 5
  refine L.n1<|aJ rfl (fun hc2=>?_) (fun hc2=>?_)
  ·exact absurd hc2 (by simp[hfa])
  ·refine C.kn<|C.s1<|Za rfl<|xV rfl U92 U3 rfl Yf rfl trivial<|Za rfl<|aR rfl U51 rfl hwb rfl rfl trivial<|Zy rfl ?_;obtain⟨n,hn⟩:=Int.eq_ofNat_of_zero_le (Int.emod_nonneg c (show(((fM (bD (bN ls))).length:Int)+1)≠0 by omega));have hnl:n≤(fM (bD (bN ls))).length:=by have:=Int.emod_lt_of_pos c (show(0:Int)<((fM (bD (bN ls))).length:Int)+1 by omega);omega
   refine wM rfl rfl rfl Yd Yd (by rw[hn];simp only[qR];omega) rfl aOJ ?_;rw[hn];obtain⟨k,hkl,hq1, -, -, -⟩:=PJ hfa n;have hkt:((bN ls).take k).length=k:=by rw[aKL];omega
   have hgo:=UB hf0 hq1;refine Zh rfl<|L.n3<|Za rfl<|Za rfl<|P7 (j:=n) rfl U51 Tf.s5 rfl hwb rfl hnl rfl aOJ (fun wt hWT=>aU (A:=[]) (ν:=[]) (B:=[(_,_)]) rfl U51 rfl rfl Tf.s5 Tf.z5 rfl Tf.i5 rfl rfl rfl bL.nil (jE.bytes hWT) Ye (by rw[iD,aLV]) rfl (gO _) (by rw[aKL];omega) (aJQ rfl) rfl aOJ (fun va9 νa9 haa9=>?_))
   have hab9:bL 5 1 va9 (List.take n (fM (bD (bN ls)))).length (bc (List.take n (fM (bD (bN ls))))) νa9:=by simpa using haa9
   refine Q8 (A:=[]) (B:=[(_,_)]) hab9 rfl (fun Da9 hDa9 hFa9=>?_);have hba9:Sl Da9 RU 1 va9 (List.take n (fM (bD (bN ls)))):=hFa9.bytes rfl (by rw[aKL];omega)
   refine eJ rfl rfl rfl (fun D60 hD60=>B3 _ (List.take n (fM (bD (bN ls)))) _ (hba9.up RU.up (hD60 _ Ye)) (by rw[aKL];omega)) rfl aOJ (fun v60 D61 ν60 hD61 hp60=>?_);obtain⟨lv1,rfl,hac⟩:=hp60;rw[hq1]at hac;refine Q8 (A:=[]) (B:=[(_,_)]) hac rfl (fun D62 hD62 hF62=>?_);have hl1:Sl D62 RS 1 lv1 ((bN ls).take k):=hF62.strs rfl Yd;refine Za rfl<|Zaa rfl<|Zaa rfl<|Zh rfl<|Zh rfl<|L.n4<|Za rfl<|aR rfl U22 rfl hl1 rfl rfl trivial<|Za rfl<|aR rfl U22 rfl hA10 rfl rfl trivial<|eB rfl rfl rfl rfl trivial<|L.n1 ?_;refine aE rfl (fun hc3=>?_) (fun hc3=>?_)
   ·exact absurd hc3 Yd
   ·refine C.kn<|aM<|iW [] 6 [0,1,2,4,5,6,7,3,8,9,10,11,12,13,14] [false,true,false,true,true,true,true,true,false,false,false,false,true,true,false] [(false,0),(true,1),(false,2),(true,4),(true,5),(true,6),(true,7),(true,3),(false,8),(false,9),(false,10),(false,11),(true,12),(true,13),(false,14)] Tf.follows (fun _ _ _ h=>cA (P:=Tryz.prog) (fn:=Tryz.f6) _ _ _ h) Yg rfl<|Za rfl<|Za rfl<|P7 (j:=n) rfl U51 Tf.s5 rfl hwb rfl hnl rfl aOJ (fun wt hWT=>Za rfl<|Za rfl<|aR rfl U22 rfl hl1 rfl rfl trivial<|qM (j:=((bN ls).take k).length) rfl U22 Tf.s9 rfl hA10 rfl Yd rfl aOJ (fun ta hTA=>aU (A:=[]) (ν:=[]) (B:=[(_,_)]) rfl U51 rfl rfl Tf.s5 Tf.z5 rfl Tf.i5 rfl rfl rfl bL.nil (jE.bytes hWT) Ye (by rw[iD,aLV]) rfl (gO _) (by rw[aKL];omega) (aJE (fun p hp=>by cases hp)) rfl aOJ (fun va12 νa12 haa12=>?_)));have hab12:bL 5 1 va12 (List.take n (fM (bD (bN ls)))).length (bc (List.take n (fM (bD (bN ls))))) νa12:=by simpa using haa12
    refine Q8 (A:=[]) (B:=[(_,_)]) hab12 rfl (fun Da12 hDa12 hFa12=>?_);have hba12:Sl Da12 RU 1 va12 (List.take n (fM (bD (bN ls)))):=hFa12.bytes rfl (by rw[aKL];omega)
    refine Zt rfl (fun D8 hD8=>uD _ ((bN ls).drop ((bN ls).take k).length) _ (hTA.up RS.up (hD8 _ Ye)) (by rw[aLB];omega)) (fun v8 D8 hD8 hp8=>?_);have hq12:=hp8;rw[hkt]at hq12;refine Zt rfl (fun D9 hD9=>V2 _ _ (List.take n (fM (bD (bN ls)))) ((bN ls).drop k) _ (hba12.up RU.up (hD9 _ Ye)) (by rw[aKL];omega) (hq12.up RS.up (hD9 _ Ye)) (hV.up (hD9 _ Ye))) (fun v9 D9 hD9 hp9=>?_)
    obtain⟨yv,rfl,hyb⟩:=hp9;rw[hgo]at hyb;rw[hgo];refine Za rfl<|Zaa rfl<|Zaa rfl<|Zh rfl<|Zh rfl<|L.n3<|Za rfl<|dJ rfl rfl rfl rfl trivial<|Za rfl ?_;refine' L.anK 6 (s:=90) (p:=96) rfl (fun hg4=>?_) (fun hg4=>?_) ?_;rotate_left
    ·refine Zb rfl<|jJ rfl U51 U5 U9 rfl hyb Ye (fun _ _ _ _ _=>GT) rfl ⟨_,rfl,rfl⟩<|Zb rfl<|jJ rfl U51 U5 U9 rfl hwb Ye (fun _ _ _ _ _=>GT) rfl ⟨_,rfl,rfl⟩<|bW rfl rfl rfl rfl ⟨_,rfl,rfl⟩<|Zac rfl ?_;exact L.cu 5
    ·refine Zk rfl<|Zk rfl<|Zk rfl<|Zk rfl<|Zk rfl<|Zad rfl ?_;exact L.cu 5
    refine Za rfl ?_;refine' L.anK 2 (s:=97) (p:=99) rfl (fun hg5=>?_) (fun hg5=>?_) ?_;rotate_left
    ·refine Ze rfl (fun D10 hD10=>DN _ (hV.up (hD10 _ Ye)))<|Zac rfl ?_;exact L.cu 1
    ·refine Zk rfl<|Zad rfl ?_;exact L.cu 1
    refine Zh rfl<|L.n5 ?_;exact leave1 rfl rfl rfl rfl (fun D hD=>aJS Value.bool Ye)
end L12
end Go.Fs
