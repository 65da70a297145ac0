/- Of the proof of TopEntered: BW29, BW30, BW31, Eq9, BW32, BW33, BW34, BW35, BW36, BW38, Need, Laws, BW39, BW40, BW41, BW42, BW43. -/
import Derived.Test.YthchgbimdmiemaaGreatDoorZTopEnteredAL
import Derived.Test.YthchgbimdmiemaaGreatDoorZTopEnteredAE
import Derived.Test.YthchgbimdmiemaaGreatDoorZTopEnteredAC
namespace Go.Fs
open Go.Proofs
namespace L12
open C12 Go.Lib
theorem dV(l:List ByteArray):∀u∈l.map Value.string,cell1 u=true:=by
 intro u hu;obtain⟨x,_,rfl⟩:=List.mem_map.1 hu;rfl
theorem JM{α:Type}(f:α→Value)(l:List α):l.flatMap (fun x=>[f x])=l.map f:=by
 induction l with
 |nil=>rfl
 |cons a l ih=>rw[List.flatMap_cons,ih];rfl
theorem _root_.Go.Fs.iG.strs{D:aA}{v:Value}{l:List ByteArray}(h:Sl D RS 1 v l):iG D v l.length (l.map Value.string):=by
 rw[←JM];exact iG.of (R:=RS) (fun _ _ _ h=>h) (fun _=>rfl) h
section
variable{α:Type}[DecidableEq α]{xs ys:List α}{a b:α}{k:Nat}
omit [DecidableEq α]in
end
theorem x9{xs:List ByteArray}{x:ByteArray}{k n:Nat}(hx:xs[k]?= some x)(h:∀y∈xs.take k,y.size≤n)(hs:x.size≤n):∀y∈xs.take (k+1),y.size≤n:=by
 intro y hy;rw[List.take_add_one,hx,List.mem_append]at hy;rcases hy with hy|hy
 ·exact h y hy
 ·simp at hy;subst hy;exact hs
theorem T8{xs:List ByteArray}(h:40<xs.length):cT xs=3:=by
 unfold cT;rw[if_pos];simp;left;omega
theorem W2{xs:List ByteArray}{x:ByteArray}{k:Nat}(hx:xs[k]?= some x)(h:50<x.size):cT xs=3:=by
 unfold cT;rw[if_pos];simp only[Bool.or_eq_true,decide_eq_true_eq,Bool.not_eq_true',List.all_eq_false];exact Or.inr ⟨x,List.mem_of_getElem? hx,by simp;omega⟩
theorem C6{xs:List ByteArray}(h:xs.length≤40)(h2:∀x∈xs,x.size≤50):cT xs=0:=by
 unfold cT;rw[if_neg];simp only[Bool.or_eq_true,decide_eq_true_eq,Bool.not_eq_true',List.all_eq_false,not_or,not_exists,not_and];refine⟨by omega,fun x hx=>?_⟩;have:=h2 x hx;simp;omega
def A7(xs:List ByteArray):Bool:=decide (xs.length≤45)&&xs.all fun x=>decide (x.size≤70)
theorem F9{xs:List ByteArray}:A7 xs=true ↔ xs.length≤45∧∀x∈xs,x.size≤70:=by unfold A7;simp
theorem a7{xs:List ByteArray}{x:ByteArray}{k:Nat}(hx:xs[k]?= some x)(h:70<x.size):A7 xs=false:=by
 rw[←Bool.not_eq_true,F9];rintro⟨_,h2⟩;have:=h2 x (List.mem_of_getElem? hx);omega
theorem DR{xs:List ByteArray}{k:Nat}(hk:xs.length≤k∨46≤k)(h:∀x∈xs.take k,x.size≤70):A7 xs=decide ((xs.length:Int)≤45):=by
 rw[Bool.eq_iff_iff,F9,decide_eq_true_eq];constructor
 ·rintro⟨h1,_⟩;omega
 ·intro h1;have h2:xs.take k=xs:=List.take_of_length_le Yd;rw[h2]at h;exact⟨by omega,h⟩
theorem U6:∀{ps:List (List UInt8)} {ns:List Int},ps.mapM jC=some ns→ns.length=ps.length
 | [],ns,h=>by
  obtain rfl:([]:List Int)=ns:=by simpa using h
  rfl
 |p::ps,ns,h=>by
  rw[List.mapM_cons]at h;cases hp:jC p with
  |none=>rw[hp]at h;cases h
  |some q=>
   cases hq:ps.mapM jC with
   |none=>rw[hp,hq]at h;cases h
   |some qs=>
    rw[hp,hq]at h;obtain rfl:q::qs=ns:=Option.some.inj h;rw[List.length_cons,List.length_cons,U6 hq]
theorem IJ{x:ByteArray}{ns:List Int}(h:eX x.data.toList=some ns)(hs:x.size≤1000):ns.length≤1001:=by
 have hc:=K3 x.data.toList;have hl:x.data.toList.length=x.size:=rfl;unfold eX at h;split at h
 ·cases h
 ·rename_i p ps hps;split at h
  ·have:=U6 h;rw[hps,List.length_cons]at hc;omega
  ·cases h
theorem CB{D:aA}{nv:Value}{nb:Bool}{o:Option (List Int)}(hb:nb=false)(h:match o with|some ns=>nb=true∧Sl D RI 1 nv ns|none=>nb=false):o=none:=by
 cases o with
 |none=>rfl
 |some ns=>rw[hb]at h;cases h.1
def qN(br:Bool)(ns:List Int)(j:Nat):Nat:=((List.range j).filter fun i=>(decide (1≤i)&&decide (ns[i]?= some 2))&&(br||decide (i=2))).length
theorem Q9(br:Bool)(ns:List Int):qN br ns 1=0:=rfl
theorem z6(br:Bool)(ns:List Int)(j:Nat):qN br ns j≤j:=by
 unfold qN;exact Nat.le_trans (List.length_filter_le _ _) Ye
theorem B6(br:Bool)(ns:List Int)(j:Nat):qN br ns (j+1)=qN br ns j+if((decide (1≤j)&&decide (ns[j]?= some 2))&&(br||decide (j=2)))=true then 1 else 0:=by
 unfold qN;rw[List.range_succ,List.filter_append,List.length_append];congr 1;rw[List.filter_cons];split<;>rfl
theorem Z0{br:Bool}{ns:List Int}{j:Nat}{m:Int}(hm:ns[j]?= some m)(hj:1≤j)(h:(decide (m=2)&&(br||decide ((j:Int)=2)))=true):qN br ns (j+1)=qN br ns j+1:=by
 rw[B6,if_pos];simp only[Bool.and_eq_true,Bool.or_eq_true,decide_eq_true_eq]at h ⊢
 refine⟨⟨hj,by rw[hm,h.1]⟩,h.2.imp id (fun e=>by omega)⟩
theorem y5{br:Bool}{ns:List Int}{j:Nat}{m:Int}(hm:ns[j]?= some m)(h:(decide (m=2)&&(br||decide ((j:Int)=2)))=false):qN br ns (j+1)=qN br ns j:=by
 rw[B6,if_neg]
 ·rfl
 ·intro hh;simp only[Bool.and_eq_true,Bool.or_eq_true,decide_eq_true_eq]at hh;have:(decide (m=2)&&(br||decide ((j:Int)=2)))=true:=by
   simp only[Bool.and_eq_true,Bool.or_eq_true,decide_eq_true_eq];refine⟨?_,hh.2.imp id (fun e=>by omega)⟩;have h2:=hh.1.2;rw[hm]at h2;exact Option.some.inj h2
  rw[this]at h;cases h
theorem CJ(br:Bool)(ns:List Int){j:Nat}(h:j≤max 1 ns.length)(h2:ns.length≤j):qN br ns j=qN br ns ns.length:=by
 by_cases hl:ns.length=0
 ·rw[hl];obtain rfl|rfl:j=0∨j=1:=by omega
  ·rfl
  ·rfl
 ·obtain rfl:j=ns.length:=by omega
  rfl
def G6(x:ByteArray):ByteArray:=(cK x).headD ⟨#[]⟩
def NS(x:ByteArray):Nat:=match eX x.data.toList with
 |none=>0
 |some _=>if G6 x=⟨#[115,109,117,100,103,101]⟩then 1 else 0
def SB(x:ByteArray):Nat:=match eX x.data.toList with
 |none=>0
 |some ns=>if(decide (G6 x=⟨#[98,114,111,107,101,110]⟩)||decide (G6 x=⟨#[112,97,114,116]⟩))=true then qN (decide (G6 x=⟨#[98,114,111,107,101,110]⟩)) ns ns.length else 0
def i7(xs:List ByteArray):Bool:=decide (((xs.map NS).sum:Int)≤3)&&decide (((xs.map SB).sum:Int)≤4)
def yO(xs:List ByteArray):Bool:=(A7 xs&&decide (cT xs=0))&&i7 xs
theorem W5{xs:List ByteArray}(h:yO xs=true):cT xs=0:=by
 unfold yO at h;simp only[Bool.and_eq_true,decide_eq_true_eq]at h;exact h.1.2
theorem BQ{xs:List ByteArray}{sm un:Nat}(h2:sm=(xs.map NS).sum)(h3:un=(xs.map SB).sum):(decide ((sm:Int)≤3)&&decide ((un:Int)≤4))=i7 xs:=by rw[h2,h3];rfl
theorem nD{xs:List ByteArray}{x:ByteArray}{k:Nat}{f:ByteArray→Nat}(hx:xs[k]?= some x):((xs.take (k+1)).map f).sum=((xs.take k).map f).sum+f x:=by
 rw[List.take_add_one,hx];simp
section
variable{x p0:ByteArray}{ps:List ByteArray}{ns:List Int}{j:Nat}
theorem KW(h:eX x.data.toList=none):NS x=0:=by unfold NS;rw[h]
theorem HD(h:eX x.data.toList=none):SB x=0:=by unfold SB;rw[h]
theorem yZ(hc:cK x=p0::ps):G6 x=p0:=by unfold G6;rw[hc];rfl
theorem MM(hc:cK x=p0::ps)(h:eX x.data.toList=some ns)(hp:decide (p0=⟨#[115,109,117,100,103,101]⟩)=true):NS x=1:=by unfold NS;rw[h,yZ hc];exact if_pos (of_decide_eq_true hp)
theorem PW(hc:cK x=p0::ps)(h:eX x.data.toList=some ns)(hp:decide (p0=⟨#[115,109,117,100,103,101]⟩)=false):NS x=0:=by unfold NS;rw[h,yZ hc];exact if_neg (of_decide_eq_false hp)
theorem GT(hc:cK x=p0::ps)(h:eX x.data.toList=some ns)(he:(decide ((j:Int)<(ns.length:Int))&&(decide (p0=⟨#[98,114,111,107,101,110]⟩)||decide (p0=⟨#[112,97,114,116]⟩)))=false)(h6:j≤max 1 ns.length)(h8:j=1∨(decide (p0=⟨#[98,114,111,107,101,110]⟩)||decide (p0=⟨#[112,97,114,116]⟩))=true):SB x=qN (decide (p0=⟨#[98,114,111,107,101,110]⟩)) ns j:=by
 unfold SB;rw[h,yZ hc];simp only;rw[Bool.and_eq_false_iff]at he;by_cases hb:(decide (p0=⟨#[98,114,111,107,101,110]⟩)||decide (p0=⟨#[112,97,114,116]⟩))=true
 ·rw[if_pos hb];have hj:=he.resolve_right (by rw[hb];simp)
  exact(CJ _ ns h6 (by have:=of_decide_eq_false hj;omega)).symm
 ·rw[if_neg hb];obtain rfl:=h8.resolve_right hb;rfl
end
theorem EV{D:aA}{nv:Value}{nb:Bool}{o:Option (List Int)}(hb:nb=true)(h:match o with|some ns=>nb=true∧Sl D RI 1 nv ns|none=>nb=false):∃ns,o=some ns∧Sl D RI 1 nv ns:=by
 cases o with
 |none=>simp only at h;rw[hb]at h;cases h
 |some ns=>exact⟨ns,rfl,h.2⟩
theorem g9(sv:Value)(xs:List ByteArray)(D:aA)(hS:Sl D RS 1 sv xs):Fn Tryz.prog 31 #[sv] D (fun _ v=>v=.int .i64 (cT xs)):=by
 have hl:=hS.len;refine enter 19 Tryz.func31 rfl rfl rfl rfl fun h0=>Zy (C.rg (Zj rfl (Zo (Zx (Zy (Zy (C.rg (Za rfl (aY rfl U22 rfl hS rfl rfl trivial (dO rfl rfl rfl rfl trivial ?_))))))))));refine Zo (Zx (aH rfl (fun hc1=>?_) (fun hc1=>?_)))
 ·refine Zy (C.rg (Zj rfl (Zo (Zx (aC (Zad ?_))))));exact Zc [_] rfl ⟨rfl,trivial⟩ (fun D hD=>by show Value.int _ _=_;rw[T8 Yd])
 ·have h40:xs.length≤40:=by omega
  refine Zac (Zx (Zy (Zy (C.rg (Zj rfl (Zo (Zx (Zae (bS (γ:=Nat) (fun k=>xs.length+1-k) (fun k=>k≤xs.length∧∀x∈xs.take k,x.size≤50) (fun k=>[(3,.int .i64 (k:Int))]) [(2,_),(0,_)] (fun k=>[D]) 0 ⟨by omega,by simp⟩ ⟨Yb,trivial⟩ C.rs (aG) ?_)))))))));rintro k ⟨h1,h2⟩;refine Zy (Zy (C.rg (Za rfl (Za rfl (aY rfl U22 rfl hS rfl rfl trivial (Zaa rfl (Zo (Zx (aH rfl (fun hc2=>?_) (fun hc2=>?_))))))))))
  ·have hk:k<xs.length:=by omega
   obtain⟨x,hx⟩:∃x,xs[k]?= some x:=⟨_,List.getElem?_eq_getElem hk⟩
   refine Zac (Zx (Zy (Zae (Zy (C.rg (Za rfl (Za rfl (aJ rfl U22 Tf.s9 rfl hS rfl Yd hx rfl trivial (fun b1 o1 cs1 hr1 hcl1 hA1=>?_)))))))));obtain rfl:cs1=[.string _]:=hr1;refine Zg 0 rfl Tf.a9 rfl hA1 rfl (jK rfl U9 rfl rfl rfl trivial (dO rfl rfl rfl rfl trivial (Zo (Zx (aH rfl (fun hc3=>?_) (fun hc3=>?_))))))
   ·refine Zy (C.rg (Zj rfl (Zo (Zx (aC (aD (Zad (Zad (aD (Zad ?_))))))))));exact Zc [_] rfl ⟨rfl,trivial⟩ (fun D hD=>by show Value.int _ _=_;rw[W2 hx Yd])
   ·refine Zac (Zag (Zx (C.rg (Za rfl (Zt rfl (Zj rfl (Zo ?_)))))));exact aN 14 (k+1) ⟨by omega,x9 hx h2 Yd⟩ Yd ⟨Yb,trivial⟩ rfl rfl (List.Sublist.refl _) (aG)
  ·obtain rfl:k=xs.length:=by omega
   rw[List.take_length]at h2;refine aZ (Zaf (Zaf (aE (Zx (Zy (C.rg (Zj rfl (Zo (Zx (aC ?_))))))))));exact Zc [_] rfl ⟨rfl,trivial⟩ (fun D hD=>by show Value.int _ _=_;rw[C6 h40 h2])
theorem DU(sv:Value)(xs:List ByteArray)(D:aA)(hS:Sl D RS 1 sv xs):Fn Tryz.prog 30 #[sv] D (fun _ v=>v=.bool (A7 xs)):=by
 have hl:=hS.len;refine enter 23 Tryz.func30 rfl rfl rfl rfl fun h0=>Zy (C.rg (Zj rfl (Zo (Zx (Zy (Zy (C.rg (Zj rfl (Zo (Zx ?_))))))))));refine Zae (bS (γ:=Nat) (fun k=>xs.length+1-k) (fun k=>k≤xs.length∧∀x∈xs.take k,x.size≤70) (fun k=>[(3,.int .i64 (k:Int))]) [(2,_),(0,_)] (fun k=>[D]) 0 ⟨by omega,by simp⟩ ⟨Yb,trivial⟩ C.rs (aG) ?_)
 rintro k ⟨h1,h2⟩;refine Zy (Zy (C.rg (Za rfl (Za rfl (aY rfl U22 rfl hS rfl rfl trivial (Zaa rfl (Za rfl ?_)))))));refine' dA [(false,5),(false,6),(false,7)] [] (s:=8) (p:=11) rfl rfl (fun hg1=>?_) (fun hg1=>?_) ?_;rotate_left
 ·refine Zb rfl (x6 rfl rfl rfl rfl ⟨_,rfl,rfl⟩ (Zv rfl ?_));exact aF fun a w hh=>hh.cutK 2 rfl
 ·refine Zi rfl (Zi rfl (Zw rfl ?_));exact aF fun a w hh=>hh.cutK 2 rfl
 refine Zo (Zx (aP rfl (fun hc1=>?_) (fun hc1=>?_)))
 ·have hk:k<xs.length:=by simp at hc1;omega
  obtain⟨x,hx⟩:∃x,xs[k]?= some x:=⟨_,List.getElem?_eq_getElem hk⟩
  refine Zac (Zx (Zy (Zae (Zy (C.rg (Za rfl (Za rfl (aJ rfl U22 Tf.s9 rfl hS rfl Yd hx rfl trivial (fun b1 o1 cs1 hr1 hcl1 hA1=>?_)))))))));obtain rfl:cs1=[.string _]:=hr1;refine Zg 0 rfl Tf.a9 rfl hA1 rfl (jK rfl U9 rfl rfl rfl trivial (dO rfl rfl rfl rfl trivial (Zo (Zx (aH rfl (fun hc2=>?_) (fun hc2=>?_))))))
  ·refine Zy (C.rg (Zj rfl (Zo (Zx (aC (aD (Zad (Zad (aD (Zad ?_))))))))));exact Zc [_] rfl ⟨rfl,trivial⟩ (fun D hD=>by show Value.bool _=_;rw[a7 hx Yd])
  ·refine Zac (Zag (Zx (C.rg (Za rfl (Zt rfl (Zj rfl (Zo ?_)))))));exact aN 16 (k+1) ⟨by omega,x9 hx h2 Yd⟩ Yd ⟨Yb,trivial⟩ rfl rfl (List.Sublist.refl _) (aG)
 ·have hk46:xs.length≤k∨46≤k:=by simp at hc1;omega
  refine aZ (Zaf (Zaf (aE (Zx (Zy (C.rg (Za rfl (aY rfl U22 rfl hS rfl rfl trivial (gV rfl rfl rfl rfl trivial (Zj rfl (Zo ?_)))))))))));refine Zx (aC ?_);exact Zc [_] rfl ⟨rfl,trivial⟩ (fun D hD=>by show Value.bool (decide _)=_;rw[DR hk46 h2])
theorem p5(sv:Value)(xs:List ByteArray)(D:aA)(hS:Sl D RS 1 sv xs)(hn:xs.length≤1000)(hsz:∀x∈xs,x.size≤1000):Fn Tryz.prog 32 #[sv] D (fun _ v=>v=.bool (i7 xs)):=by
 have hl:=hS.len;refine enter 72 Tryz.func32 rfl rfl rfl rfl fun h0=>Zy (C.rg (Zj rfl (Zo (Zx (Zy (C.rg (Zj rfl (Zj rfl (Zo (Zx ?_))))))))));refine Zy (Zy (C.rg (Zj rfl (Zo (Zx (Zae (bS (γ:=Nat×Nat×Nat) (fun g=>xs.length-g.1) (fun g=>g.1≤xs.length∧g.2.1=((xs.take g.1).map NS).sum∧g.2.2=((xs.take g.1).map SB).sum∧g.2.1≤g.1∧g.2.2≤1002*g.1) (fun g=>[(5,.int .i64 (g.1:Int)),(3,.int .i64 (g.2.1:Int)),(4,.int .i64 (g.2.2:Int))]) [(2,_),(0,_)] (fun g=>[D]) (0,0,0) ⟨by simp,by simp,by simp,by simp,by simp⟩ ⟨Yb,Yb,Yb,trivial⟩ C.rs (aG) ?_)))))))
 rintro⟨k,sm,un⟩ ⟨h1,h2,h3,h21,h31⟩;simp only at h1 h2 h3 h21 h31;refine Zy (Zy (C.rg (Za rfl (Za rfl (aY rfl U22 rfl hS rfl rfl trivial (Zaa rfl (Zo (Zx (aH rfl (fun hc1=>?_) (fun hc1=>?_))))))))))
 ·simp only at hc1;have hk:k<xs.length:=by omega
  obtain⟨x,hx⟩:∃x,xs[k]?= some x:=⟨_,List.getElem?_eq_getElem hk⟩
  have hxs:=hsz x (List.mem_of_getElem? hx);refine Zac (Zx (Zy (Zae (Zy (C.rg (Za rfl (Za rfl (aJ rfl U22 Tf.s9 rfl hS rfl Yd hx rfl trivial (fun b1 o1 cs1 hr1 hcl1 hA1=>?_)))))))));obtain rfl:cs1=[.string _]:=hr1;refine Zg 0 rfl Tf.a9 rfl hA1 rfl (cW rfl rfl rfl (fun D1 hD1=>U8 x hxs _) rfl trivial (fun v1 D1 hD1 hp1=>?_));obtain⟨nv,nb,rfl,hns0⟩:=hp1;refine Za rfl (Zz rfl (Zz rfl (Zj rfl (Zj rfl (Zo (Zx (Zy (Zy (C.rg (Za rfl (bV rfl rfl rfl trivial ?_)))))))))));refine Zo (Zx (aP rfl (fun hc2=>?_) (fun hc2=>?_)))
  ·have hns:=CB (by simpa using hc2) hns0;refine aZ (Zaf (aE (Zx (C.rg (Za rfl (Zt rfl (Zj rfl (Zo ?_))))))));exact aN 22 (k+1,sm,un) ⟨by simp only;omega,by simp only;rw[nD hx,KW hns];omega,by simp only;rw[nD hx,HD hns];omega,by simp only;omega,by simp only;omega⟩ Yo ⟨Yb,Yb,Yb,trivial⟩ rfl rfl (List.Sublist.refl _) (fun D h=>⟨D,List.Mem.tail _ (h),Le.refl D⟩)
  ·have hnbt:nb=true:=by simpa using hc2
   obtain⟨ns,hns,hnv⟩:=EV hnbt hns0;have hkl:ns.length≤1001:=IJ hns hxs;obtain⟨p0,ps,hcut⟩:=rO x;have hp0:(cK x)[0]?= some p0:=by rw[hcut];rfl
   refine Zac (Zx (Zy (C.rg (Za rfl (Za rfl (aJ rfl U22 Tf.s9 rfl hS rfl Yd hx rfl trivial (fun b2 o2 cs2 hr2 hcl2 hA2=>?_)))))));obtain rfl:cs2=[.string _]:=hr2;refine Zg 0 rfl Tf.a9 rfl hA2 rfl (cW rfl rfl rfl (fun D2 hD2=>B2 x hxs _) rfl trivial (fun v2 D2 hD2 hp2=>aJ rfl U22 Tf.s9 rfl hp2 rfl Yd hp0 rfl trivial (fun b3 o3 cs3 hr3 hcl3 hA3=>?_)));obtain rfl:cs3=[.string _]:=hr3;refine Zg 0 rfl Tf.a9 rfl hA3 rfl (Zj rfl (Zo (Zx (Zy (Zy (C.rg (Za rfl (bN rfl rfl rfl rfl trivial (Zo (Zx (aP rfl (fun hc3=>?_) (fun hc3=>?_))))))))))))
   ·refine C.rg (Za rfl (Zt rfl (Zj rfl (Zo (Zx (Zy (C.rg (Zj rfl (Zo (Zx (Zae ?_)))))))))));refine bS (γ:=Nat×Nat) (fun g=>1001+1-g.1) (fun g=>1≤g.1∧g.1≤1002∧g.1≤max 1 ns.length∧g.2=un+qN (decide (p0=⟨#[98,114,111,107,101,110]⟩)) ns g.1∧(g.1=1∨(decide (p0=⟨#[98,114,111,107,101,110]⟩)||decide (p0=⟨#[112,97,114,116]⟩))=true)) (fun g=>[(9,.int .i64 (g.1:Int)),(4,.int .i64 (g.2:Int))]) [(3,_),(36,_),(35,_),(34,_),(33,_),(8,_),(32,_),(31,_),(30,_),(29,_),(28,_),(27,_),(26,_),(25,_),(24,_),(7,_),(6,_),(23,_),(22,_),(16,_),(21,_),(20,_),(19,_),(18,_),(17,_),(13,_),(12,_),(11,_),(10,_),(5,_),(2,_),(0,_)] (fun g=>[D2,D1,D]) (1,un) ⟨by simp,by simp,by simp only;omega,by simp only;rw[Q9];rfl,Or.inl rfl⟩ ⟨Yb,Yb,trivial⟩ C.rs (aG) ?_
    rintro⟨j,u2⟩ ⟨h4,h5,h6,h7,h8⟩;simp only at h4 h5 h6 h7 h8;have hcj:=z6 (decide (p0=⟨#[98,114,111,107,101,110]⟩)) ns j;refine Zy (Zy (C.rg (Za rfl (Za rfl (aY rfl U25 rfl hnv rfl rfl trivial (Zaa rfl (Za rfl ?_)))))));refine' dA [(false,5),(false,6),(false,7),(false,8),(false,9),(false,10),(false,11)] [] (s:=41) (p:=48) rfl rfl (fun hg1=>?_) (fun hg1=>?_) ?_;rotate_left
    ·refine Zb rfl (bN rfl rfl rfl rfl ⟨_,rfl,rfl⟩ (Zb rfl ?_));refine' eI [(false,8),(false,9),(false,10)] [(false,11)] (s:=44) (p:=47) rfl rfl (fun hg2=>?_) (fun hg2=>?_) ?_;rotate_left
     ·refine Zb rfl (bN rfl rfl rfl rfl ⟨_,rfl,rfl⟩ (mA rfl rfl rfl rfl ⟨_,rfl,rfl⟩ ?_));exact aF fun a w hh=>hh.cutK 2 rfl
     ·refine Zi rfl (Zi rfl (mJ rfl rfl rfl rfl ⟨_,rfl,rfl⟩ ?_));exact aF fun a w hh=>hh.cutK 2 rfl
     refine Zv rfl ?_;exact aF fun a w hh=>hh.cutK 4 rfl
    ·refine Zi rfl (Zi rfl (Zi rfl (Zi rfl (Zi rfl (Zi rfl (Zw rfl ?_))))));exact aF fun a w hh=>hh.cutK 6 rfl
    refine Zo (Zx (aP rfl (fun hc4=>?_) (fun hc4=>?_)))
    ·have hjl:j<ns.length:=by have hz:=(Bool.and_eq_true _ _).mp hc4;have:=of_decide_eq_true hz.1;omega
     have hbp:=((Bool.and_eq_true _ _).mp hc4).2;obtain⟨m,hm⟩:∃m,ns[j]?= some m:=⟨_,List.getElem?_eq_getElem hjl⟩
     refine Zac (Zx (Zy (Zae (Zy (C.rg (Za rfl (Za rfl (aJ rfl U25 Tf.s3 rfl hnv rfl Yd hm rfl trivial (fun b4 o4 cs4 hr4 hcl4 hA4=>?_)))))))));obtain rfl:cs4=[.int .i64 _]:=hr4;refine Zg 0 rfl Tf.a3 rfl hA4 rfl (eL rfl rfl rfl rfl trivial (Za rfl ?_));refine' dA [(false,6),(false,7),(false,8),(false,9),(false,10),(false,11),(false,12)] [] (s:=56) (p:=63) rfl rfl (fun hg3=>?_) (fun hg3=>?_) ?_;rotate_left
     ·refine Zb rfl (bN rfl rfl rfl rfl ⟨_,rfl,rfl⟩ (Zb rfl ?_));refine' eI [(false,9),(false,10),(false,11)] [(false,12)] (s:=59) (p:=62) rfl rfl (fun hg4=>?_) (fun hg4=>?_) ?_;rotate_left
      ·refine Zb rfl (eL rfl rfl rfl rfl ⟨_,rfl,rfl⟩ (mA rfl rfl rfl rfl ⟨_,rfl,rfl⟩ ?_));exact aF fun a w hh=>hh.cutK 2 rfl
      ·refine Zi rfl (Zi rfl (mJ rfl rfl rfl rfl ⟨_,rfl,rfl⟩ ?_));exact aF fun a w hh=>hh.cutK 2 rfl
      refine Zv rfl ?_;exact aF fun a w hh=>hh.cutK 4 rfl
     ·refine Zi rfl (Zi rfl (Zi rfl (Zi rfl (Zi rfl (Zi rfl (Zw rfl ?_))))));exact aF fun a w hh=>hh.cutK 6 rfl
     refine Zo (Zx (aP rfl (fun hc5=>?_) (fun hc5=>?_)))
     ·refine C.rg (Za rfl (Zt rfl (Zj rfl (Zo (Zag (Zx (C.rg (Za rfl (Zt rfl (Zj rfl (Zo ?_)))))))))));exact aN 21 (j+1,u2+1) ⟨by simp only;omega,by simp only;omega,by simp only;omega,by simp only;rw[Z0 hm h4 hc5];omega,Or.inr hbp⟩ Yo ⟨Yb,Yb,trivial⟩ rfl rfl (List.Sublist.refl _) (aG)
     ·refine Zac (Zag (Zx (C.rg (Za rfl (Zt rfl (Zj rfl (Zo ?_)))))));exact aN 18 (j+1,u2) ⟨by simp only;omega,by simp only;omega,by simp only;omega,by simp only;rw[y5 hm hc5];omega,Or.inr hbp⟩ Yo ⟨Yb,Yb,trivial⟩ rfl rfl (List.Sublist.refl _) (aG)
    ·refine aZ (Zaf (Zaf (aE (Zag (Zx (C.rg (Za rfl (Zt rfl (Zj rfl (Zo ?_))))))))));exact aN 41 (k+1,sm+1,u2) ⟨by simp only;omega,by simp only;rw[nD hx,MM hcut hns hc3];omega,by simp only;rw[nD hx,GT (j:=j) hcut hns hc4 h6 h8];omega,by simp only;omega,by simp only;omega⟩ Yo ⟨Yb,Yb,Yb,trivial⟩ rfl rfl (List.Sublist.refl _) (fun D h=>⟨D,List.Mem.tail _ (List.Mem.tail _ (h)),Le.refl D⟩)
   ·refine Zac (Zx (Zy (C.rg (Zj rfl (Zo (Zx (Zae (bS (γ:=Nat×Nat) (fun g=>1001+1-g.1) (fun g=>1≤g.1∧g.1≤1002∧g.1≤max 1 ns.length∧g.2=un+qN (decide (p0=⟨#[98,114,111,107,101,110]⟩)) ns g.1∧(g.1=1∨(decide (p0=⟨#[98,114,111,107,101,110]⟩)||decide (p0=⟨#[112,97,114,116]⟩))=true)) (fun g=>[(9,.int .i64 (g.1:Int)),(4,.int .i64 (g.2:Int))]) [(34,_),(33,_),(8,_),(32,_),(31,_),(30,_),(29,_),(28,_),(27,_),(26,_),(25,_),(24,_),(7,_),(6,_),(23,_),(22,_),(16,_),(21,_),(20,_),(19,_),(18,_),(17,_),(13,_),(12,_),(11,_),(10,_),(5,_),(3,_),(2,_),(0,_)] (fun g=>[D2,D1,D]) (1,un) ⟨by simp,by simp,by simp only;omega,by simp only;rw[Q9];rfl,Or.inl rfl⟩ ⟨Yb,Yb,trivial⟩ C.rs (aG) ?_))))))));rintro⟨j,u2⟩ ⟨h4,h5,h6,h7,h8⟩;simp only at h4 h5 h6 h7 h8;have hcj:=z6 (decide (p0=⟨#[98,114,111,107,101,110]⟩)) ns j;refine Zy (Zy (C.rg (Za rfl (Za rfl (aY rfl U25 rfl hnv rfl rfl trivial (Zaa rfl (Za rfl ?_)))))));refine' dA [(false,5),(false,6),(false,7),(false,8),(false,9),(false,10),(false,11)] [] (s:=41) (p:=48) rfl rfl (fun hg5=>?_) (fun hg5=>?_) ?_;rotate_left
    ·refine Zb rfl (bN rfl rfl rfl rfl ⟨_,rfl,rfl⟩ (Zb rfl ?_));refine' eI [(false,8),(false,9),(false,10)] [(false,11)] (s:=44) (p:=47) rfl rfl (fun hg6=>?_) (fun hg6=>?_) ?_;rotate_left
     ·refine Zb rfl (bN rfl rfl rfl rfl ⟨_,rfl,rfl⟩ (mA rfl rfl rfl rfl ⟨_,rfl,rfl⟩ ?_));exact aF fun a w hh=>hh.cutK 2 rfl
     ·refine Zi rfl (Zi rfl (mJ rfl rfl rfl rfl ⟨_,rfl,rfl⟩ ?_));exact aF fun a w hh=>hh.cutK 2 rfl
     refine Zv rfl ?_;exact aF fun a w hh=>hh.cutK 4 rfl
    ·refine Zi rfl (Zi rfl (Zi rfl (Zi rfl (Zi rfl (Zi rfl (Zw rfl ?_))))));exact aF fun a w hh=>hh.cutK 6 rfl
    refine Zo (Zx (aP rfl (fun hc6=>?_) (fun hc6=>?_)))
    ·have hjl:j<ns.length:=by have hz:=(Bool.and_eq_true _ _).mp hc6;have:=of_decide_eq_true hz.1;omega
     have hbp:=((Bool.and_eq_true _ _).mp hc6).2;obtain⟨m,hm⟩:∃m,ns[j]?= some m:=⟨_,List.getElem?_eq_getElem hjl⟩
     refine Zac (Zx (Zy (Zae (Zy (C.rg (Za rfl (Za rfl (aJ rfl U25 Tf.s3 rfl hnv rfl Yd hm rfl trivial (fun b5 o5 cs5 hr5 hcl5 hA5=>?_)))))))));obtain rfl:cs5=[.int .i64 _]:=hr5;refine Zg 0 rfl Tf.a3 rfl hA5 rfl (eL rfl rfl rfl rfl trivial (Za rfl ?_));refine' dA [(false,6),(false,7),(false,8),(false,9),(false,10),(false,11),(false,12)] [] (s:=56) (p:=63) rfl rfl (fun hg7=>?_) (fun hg7=>?_) ?_;rotate_left
     ·refine Zb rfl (bN rfl rfl rfl rfl ⟨_,rfl,rfl⟩ (Zb rfl ?_));refine' eI [(false,9),(false,10),(false,11)] [(false,12)] (s:=59) (p:=62) rfl rfl (fun hg8=>?_) (fun hg8=>?_) ?_;rotate_left
      ·refine Zb rfl (eL rfl rfl rfl rfl ⟨_,rfl,rfl⟩ (mA rfl rfl rfl rfl ⟨_,rfl,rfl⟩ ?_));exact aF fun a w hh=>hh.cutK 2 rfl
      ·refine Zi rfl (Zi rfl (mJ rfl rfl rfl rfl ⟨_,rfl,rfl⟩ ?_));exact aF fun a w hh=>hh.cutK 2 rfl
      refine Zv rfl ?_;exact aF fun a w hh=>hh.cutK 4 rfl
     ·refine Zi rfl (Zi rfl (Zi rfl (Zi rfl (Zi rfl (Zi rfl (Zw rfl ?_))))));exact aF fun a w hh=>hh.cutK 6 rfl
     refine Zo (Zx (aP rfl (fun hc7=>?_) (fun hc7=>?_)))
     ·refine C.rg (Za rfl (Zt rfl (Zj rfl (Zo (Zag (Zx (C.rg (Za rfl (Zt rfl (Zj rfl (Zo ?_)))))))))));exact aN 21 (j+1,u2+1) ⟨by simp only;omega,by simp only;omega,by simp only;omega,by simp only;rw[Z0 hm h4 hc7];omega,Or.inr hbp⟩ Yo ⟨Yb,Yb,trivial⟩ rfl rfl (List.Sublist.refl _) (aG)
     ·refine Zac (Zag (Zx (C.rg (Za rfl (Zt rfl (Zj rfl (Zo ?_)))))));exact aN 18 (j+1,u2) ⟨by simp only;omega,by simp only;omega,by simp only;omega,by simp only;rw[y5 hm hc7];omega,Or.inr hbp⟩ Yo ⟨Yb,Yb,trivial⟩ rfl rfl (List.Sublist.refl _) (aG)
    ·refine aZ (Zaf (Zaf (aE (Zag (Zx (C.rg (Za rfl (Zt rfl (Zj rfl (Zo ?_))))))))));exact aN 39 (k+1,sm,u2) ⟨by simp only;omega,by simp only;rw[nD hx,PW hcut hns hc3];omega,by simp only;rw[nD hx,GT (j:=j) hcut hns hc6 h6 h8];omega,by simp only;omega,by simp only;omega⟩ Yo ⟨Yb,Yb,Yb,trivial⟩ rfl rfl (List.Sublist.refl _) (fun D h=>⟨D,List.Mem.tail _ (List.Mem.tail _ (h)),Le.refl D⟩)
 ·obtain rfl:k=xs.length:=by simp only at hc1;omega
  rw[List.take_length]at h2 h3;refine aZ (Zaf (Zaf (aE (Zx (Zy (C.rg (Za rfl (gV rfl rfl rfl rfl trivial (Za rfl ?_)))))))));refine' dA [(false,3),(false,4),(false,5)] [(false,6)] (s:=68) (p:=71) rfl rfl (fun hg9=>?_) (fun hg9=>?_) ?_;rotate_left
  ·refine Zb rfl (gV rfl rfl rfl rfl ⟨_,rfl,rfl⟩ (Zv rfl ?_));exact aF fun a w hh=>hh.cutK 2 rfl
  ·refine Zi rfl (Zi rfl (Zw rfl ?_));exact aF fun a w hh=>hh.cutK 2 rfl
  refine Zj rfl (Zo (Zx (aC ?_)));exact Zc [_] rfl ⟨rfl,trivial⟩ (fun D hD=>by show Value.bool _=_;rw[BQ h2 h3])
theorem c8(sv:Value)(xs:List ByteArray)(D:aA)(hS:Sl D RS 1 sv xs):Fn Tryz.prog 7 #[sv] D (fun _ v=>v=.bool (yO xs)):=by
 refine enter 14 Tryz.func7 rfl rfl rfl rfl fun h0=>Zy (C.rg (Zj rfl (Zo (Zx (Zy (C.rg (Za rfl (Zd rfl (fun D1 hD1=>DU _ xs _ (hS.up RS.up (hD1 _ Ye))) (Za rfl ?_)))))))))
 refine' dA [(false,3),(false,4),(false,5),(false,6)] [(false,7),(false,8),(false,9),(false,10),(false,11)] (s:=5) (p:=9) rfl rfl (fun hg1=>?_) (fun hg1=>?_) ?_;rotate_left
 ·refine Zb rfl (Ze rfl (fun D2 hD2=>g9 _ xs _ (hS.up RS.up (hD2 _ Ye))) (eL rfl rfl rfl rfl ⟨_,rfl,rfl⟩ (Zv rfl ?_)));exact aF fun a w hh=>hh.cutK 3 rfl
 ·refine Zi rfl (Zi rfl (Zi rfl (Zw rfl ?_)));exact aF fun a w hh=>hh.cutK 3 rfl
 refine Za rfl ?_;refine' dA [(false,8),(false,9),(false,10)] [(false,11)] (s:=10) (p:=13) rfl rfl (fun hg2=>?_) (fun hg2=>?_) ?_;rotate_left
 ·have hfz:cT xs=0:=by have:=hg2;simp at this;exact this.2
  refine Zb rfl (Ze rfl (fun D3 hD3=>p5 _ xs _ (hS.up RS.up (hD3 _ Ye)) (by have:=B3 hfz;omega) (fun x hx=>by have:=xE hfz x hx;omega)) (Zv rfl ?_));exact aF fun a w hh=>hh.cutK 2 rfl
 ·refine Zi rfl (Zi rfl (Zw rfl ?_));exact aF fun a w hh=>hh.cutK 2 rfl
 refine Zj rfl (Zo (Zx (aC ?_)));exact Zc [_] rfl ⟨rfl,trivial⟩ (fun D hD=>rfl)
end L12
end Go.Fs
namespace Go.Fs
open Go.Proofs
namespace L12
open C12 Go.Lib
instance(x:Int):Decidable (NB x):=inferInstanceAs (Decidable (_∧_))
theorem SV:K2 Tryz.prog 55:=⟨by kernel_rfl,by kernel_rfl,by kernel_rfl⟩
theorem TE:K2 Tryz.prog 56:=⟨by kernel_rfl,by kernel_rfl,by kernel_rfl⟩
end L12
end Go.Fs
namespace Go.Fs
open Go.Proofs
namespace L12
open C12 Go.Lib
theorem ES{s:aK}(h:bZ s=0)(line:ByteArray):bZ (kL s line).1=0:=by
 unfold kL;split
 ·exact h
 ·split
  ·exact h
  ·split
   ·rename_i h2;exact h2
   ·exact h
theorem Z1:bZ mQ=0:=by decide+kernel
theorem xO{I:aK→Prop}(hI:∀s l,I s→I (kL s l).1):∀(ls:List ByteArray) (p:aK×List Int),I p.1→I (ls.foldl (fun p l=>((kL p.1 l).1,p.2++[(kL p.1 l).2])) p).1
 | [],_,h=>h
 |l::ls,_p,h=>xO hI ls _ (hI _ l h)
theorem e7{I:aK→Prop}(hI:∀s l,I s→I (kL s l).1)(h0:I mQ)(ls:List ByteArray):I (aL ls).1:=xO hI ls _ h0
theorem mB(ls:List ByteArray):bZ (aL ls).1=0:=e7 (I:=fun s=>bZ s=0) (fun _ l h=>ES h l) Z1 ls
theorem pG{s:aK}(h:bZ s=0):C1.bE s.row true=0∧C2.aV s.table=0∧C2.fH s.table true=0∧C3.aV s.book=0∧C7.aV s.yard=0∧(L7.fD s.yard).2=0:=by
 unfold bZ at h;split at h
 ·cases h
 ·split at h
  ·cases h
  ·split at h
   ·cases h
   ·split at h
    ·cases h
    ·split at h
     ·cases h
     ·split at h
      ·cases h
      ·rename_i h1 h2 h3 h4 h5 h6;exact⟨Classical.not_not.1 h1,Classical.not_not.1 h2,Classical.not_not.1 h3,Classical.not_not.1 h4,Classical.not_not.1 h5,Classical.not_not.1 h6⟩
end L12
end Go.Fs
namespace Go.Fs
variable{P:Program}{X:Cx}{γb:Type}[Membership Nat γb]{bad:γb}{all:Array Oper}{K:Act→World→Prop}{Q:Exit→Act→World→Prop}
variable{σ:bF}{μ:aB}{Ds:List aA}{os:List (Bool×Nat)}{fl:Bool}{ix:Nat}
variable{d:Nat}{x y z:Operand}{u v:Value}{ty:TypeId}{pos:String}{aft:Array Edge}{g:Option (Nat×Bool)}
end Go.Fs
namespace Go.Fs
open Go.Proofs
namespace L12
open C12
section
variable{α:Type}{xs ys:List α}{k:Nat}{a b:α}
end
def TL(c:C7.Ch):List Int:=[c.size,c.parts.a,c.parts.b,c.parts.c]
theorem MG{a b:C7.Ch}(h:TL a=TL b):a=b:=by
 obtain⟨a1,a2,a3,a4⟩:=a;obtain⟨b1,b2,b3,b4⟩:=b
 simp only[TL,List.cons.injEq,and_true]at h;rw[h.1,h.2.1,h.2.2.1,h.2.2.2]
instance:DecidableEq C7.Ch:=fun a b=>decidable_of_iff (TL a=TL b) ⟨MG,fun e=>by rw[e]⟩
end L12
end Go.Fs
namespace Go.Fs
open Go.Proofs
namespace L12
open C12
theorem H4(ls:List ByteArray):(aL ls).2.length=ls.length:=by
 have key:∀(ls:List ByteArray) (p:aK×List Int),(ls.foldl (fun p l=>((kL p.1 l).1,p.2++[(kL p.1 l).2])) p).2.length=p.2.length+ls.length:=by
  intro ls;induction ls with
  |nil=>intro p;simp
  |cons l ls ih=>intro p;rw[List.foldl_cons,ih];simp;omega
 have:=key ls (mQ,[]);simpa [aL]using this
def qM(s:aK)(ls:List ByteArray):aK:=ls.foldl (fun s l=>(kL s l).1) s
def vV(s:aK):List ByteArray→List Int
 | []=>[]
 |l::ls=>(kL s l).2::vV (kL s l).1 ls
theorem AW(s:aK)(l:ByteArray)(ls:List ByteArray):qM s (l::ls)=qM (kL s l).1 ls:=rfl
theorem HN(s:aK)(ls ms:List ByteArray):qM s (ls++ms)=qM (qM s ls) ms:=by simp[qM,List.foldl_append]
theorem W1(ms:List ByteArray):∀(ls:List ByteArray) (s:aK),vV s (ls++ms)=vV s ls++vV (qM s ls) ms
 | [],_=>rfl
 |l::ls,s=>by
  show(kL s l).2::vV (kL s l).1 (ls++ms)=(kL s l).2::(vV (kL s l).1 ls++vV (qM (kL s l).1 ls) ms);rw[W1 ms ls]
theorem A9(ls:List ByteArray):aL ls=(qM mQ ls,vV mQ ls):=by
 have key:∀(ls:List ByteArray) (s:aK) (es:List Int),ls.foldl (fun p l=>((kL p.1 l).1,p.2++[(kL p.1 l).2])) (s,es)=(qM s ls,es++vV s ls):=by
  intro ls;induction ls with
  |nil=>intro s es;simp[qM,vV]
  |cons l ls ih=>intro s es;rw[List.foldl_cons,ih];simp[AW,vV]
 have:=key ls mQ [];simpa [aL]using this
theorem X0{ls:List ByteArray}(h1:ls.length≤40)(h2:∀x∈ls,x.size≤50):cT ls=0:=C6 h1 h2
end L12
end Go.Fs
namespace Go.Fs
open Go.Proofs
namespace L12
open C12
theorem j9{ls:List ByteArray}(h:cT ls=0):(dT ls).2.2=0:=by rw[gG h]
theorem JO{ls:List ByteArray}(h:cT ls=0):(dT ls).1=(aL ls).1:=by rw[gG h]
theorem EP(ls ms:List ByteArray):aL (ls++ms)=(qM (aL ls).1 ms,(aL ls).2++vV (aL ls).1 ms):=by
 rw[A9,A9,HN,W1]
end L12
end Go.Fs
namespace Go.Fs
open Go.Proofs
namespace L12
open C12 Go.Lib
theorem PJ{D:aA}{b:Nat}{x:UInt8}{v:Value}(hA:At D b 0 ([v]++[]))(hv:v=.int .u8 (x.toNat:Int)):Sl D RU 1 (.slice (some ⟨b,0,none⟩) 1 1) [x]:=by
 refine⟨_,_,rfl,Nat.le_refl _,by simp,Or.inr ⟨b,0,rfl,fun i y hi=>⟨_,rfl,rfl,fun j u hj=>?_⟩⟩⟩;obtain rfl:i=0:=by have:=(List.getElem?_eq_some_iff.1 hi).1;simpa using this
 obtain rfl:x=y:=by simpa using hi
 cases j with
 |zero=>
  obtain rfl:Value.int .u8 x.toNat=u:=by simpa using hj
  have:=hA 0 v rfl;rw[hv]at this;simpa using this
 |succ j=>simp at hj
theorem x7{n:Int}(h0:0≤n)(h1:n≤9):Value.int .u8 (48+n)=.int .u8 ((UInt8.ofNat (48+n.toNat)).toNat:Int):=by
 rw[UInt8.toNat_ofNat'];congr 1;omega
theorem c7{n:Int}(h0:0≤n)(h1:n≤9):vU (itoa n)=⟨#[UInt8.ofNat (48+n.toNat)]⟩:=by
 obtain⟨m,rfl⟩:=Int.eq_ofNat_of_zero_le h0;have key:((List.range 10).all fun m=>itoa (m:Int)== [UInt8.ofNat (48+m)])=true:=by decide+kernel
 have:=List.all_eq_true.1 key m (List.mem_range.2 Yd);rw[eq_of_beq this];rfl
theorem nA{n:Int}(h0:0≤n)(h1:n≤9):(vU (itoa n)).size=1:=by rw[c7 h0 h1];rfl
theorem FP{n:Int}(h0:10≤n)(h1:n≤99):vU (itoa n)=vU (itoa (n / 10))++vU (itoa (n%10)):=by
 obtain⟨m,rfl⟩:=Int.eq_ofNat_of_zero_le (show 0≤n by omega);have key:((List.range 100).all fun m=>decide (m<10)||itoa (m:Int)==itoa ((m:Int) / 10)++itoa ((m:Int)%10))=true:=by decide+kernel
 have:=List.all_eq_true.1 key m (List.mem_range.2 Yd);rw[Bool.or_eq_true]at this;rcases this with h|h
 ·have:=of_decide_eq_true h;omega
 ·rw[eq_of_beq h];apply Go.WideShapes.bytes_inj;simp[vU]
theorem X5(n:Int)(hn0:0≤n)(hn1:n≤9)(D:aA):Fn Tryz.prog 42 #[.int .i64 n] D (fun _ v=>v=.string (vU (itoa n))):=by
 refine enter 19 Tryz.func42 rfl rfl rfl rfl fun h0=>Zy (C.rg (Zj rfl (Zo (Zx (Zy (Zy (C.rg (Za rfl (Zaa rfl (Zo ?_))))))))));refine Zx (aH rfl (fun hc1=>?_) (fun hc1=>?_))
 ·omega
 ·refine Zac (Zx (Zy (Zy (C.rg (Za rfl (Zaa rfl (Zo (Zx (aH rfl (fun hc2=>?_) (fun hc2=>?_))))))))))
  ·refine Zy (C.rg (Za rfl (Zt rfl (vZ rfl U3 U5 rfl Yf rfl trivial (Zm rfl U115 Tf.s5 Tf.z5 rfl rfl rfl rfl (.cons rfl rfl .nil) (fun b901 D901 hD901 hA901=>?_))))))
   skip
   refine rX (l:=[UInt8.ofNat (48+n.toNat)]) rfl U115 U5 U9 rfl (PJ hA901 (x7 hn0 hn1)) Ye (fun _ _ _ _ _=>List.not_mem_nil) rfl trivial (Zj rfl (Zo (Zx (aC (Zad ?_)))));exact Zc [_] rfl ⟨rfl,trivial⟩ (fun D hD=>by show Value.string _=_;rw[c7 hn0 hn1])
  ·omega
theorem FK(n:Int)(hn0:0≤n)(hn1:n≤99)(D:aA):Fn Tryz.prog 42 #[.int .i64 n] D (fun _ v=>v=.string (vU (itoa n))):=by
 refine enter 19 Tryz.func42 rfl rfl rfl rfl fun h0=>Zy (C.rg (Zj rfl (Zo (Zx (Zy (Zy (C.rg (Za rfl (Zaa rfl (Zo ?_))))))))));refine Zx (aH rfl (fun hc1=>?_) (fun hc1=>?_))
 ·omega
 ·refine Zac (Zx (Zy (Zy (C.rg (Za rfl (Zaa rfl (Zo (Zx (aH rfl (fun hc2=>?_) (fun hc2=>?_))))))))))
  ·replace hn1:n≤9:=by omega
   refine Zy (C.rg (Za rfl (Zt rfl (vZ rfl U3 U5 rfl Yf rfl trivial (Zm rfl U115 Tf.s5 Tf.z5 rfl rfl rfl rfl (.cons rfl rfl .nil) (fun b901 D901 hD901 hA901=>?_))))))
   skip
   refine rX (l:=[UInt8.ofNat (48+n.toNat)]) rfl U115 U5 U9 rfl (PJ hA901 (x7 hn0 hn1)) Ye (fun _ _ _ _ _=>List.not_mem_nil) rfl trivial (Zj rfl (Zo (Zx (aC (Zad ?_)))));exact Zc [_] rfl ⟨rfl,trivial⟩ (fun D hD=>by show Value.string _=_;rw[c7 hn0 hn1])
  ·have z1:=nA (n:=n / 10) Yd Yd;have z2:=nA (n:=n%10) Yd Yd;refine Zac (Zx (Zy (C.rg (Za rfl (JA rfl rfl rfl Yd Yd Yf rfl trivial (Zd rfl (fun D1 hD1=>X5 (n / 10) Yd Yd _) (Za rfl (T5 rfl rfl rfl Yd Yd Yf rfl trivial (Zd rfl (fun D2 hD2=>X5 (n%10) Yd Yd _) (wT rfl rfl rfl Yd rfl trivial (Zj rfl ?_)))))))))));refine Zo (Zx (aC ?_));exact Zc [_] rfl ⟨rfl,trivial⟩ (fun D hD=>by show Value.string _=_;rw[FP Yd hn1])
end L12
end Go.Fs
namespace Go.Fs
open Go.Proofs
namespace L12
open C12 Go.Lib
def mH(w:ByteArray)(ns:List Int):ByteArray:=ns.foldl (fun s n=>s++(⟨#[32]⟩++vU (itoa n))) w
theorem DA{w:ByteArray}{ns:List Int}{k:Nat}{x:Int}(h:ns[k]?= some x):mH w (ns.take k)++(⟨#[32]⟩++vU (itoa x))=mH w (ns.take (k+1)):=by
 unfold mH;rw[List.take_add_one,h,List.foldl_append];rfl
theorem B9{n:Int}(h0:0≤n)(h1:n≤99):(vU (itoa n)).size≤2:=by
 by_cases h:n≤9
 ·rw[nA h0 h];omega
 ·rw[FP Yd h1,ByteArray.size_append,nA Yd Yd,nA Yd Yd];omega
theorem fM(w:ByteArray)(nv:Value)(ns:List Int)(D:aA)(hS:Sl D RI 1 nv ns)(hn:ns.length≤10)(hw:w.size≤10)(hr:∀n∈ns,0≤n∧n≤99):Fn Tryz.prog 13 #[.string w,nv] D (fun _ v=>v=.string (mH w ns)):=by
 refine enter 21 Tryz.func13 rfl rfl rfl rfl fun h0=>Zy (C.rg (Zj rfl (Zo (Zx (Zy (Zy (C.rg (Zj rfl (Zo (Zx ?_))))))))));refine Zae (bS (γ:=Nat×ByteArray) (fun g=>ns.length-g.1) (fun g=>g.1≤ns.length∧g.2=mH w (ns.take g.1)∧g.2.size≤10+3*g.1) (fun g=>[(5,.int .i64 (g.1:Int)),(0,.string g.2)]) [(4,_),(1,_)] (fun g=>[D]) (0,w) ⟨by simp,rfl,by simpa using hw⟩ ⟨Yb,Yb,trivial⟩ C.rs (aG) ?_)
 rintro⟨k,s⟩ ⟨h1,h2,h3⟩;simp only at h1 h2 h3;refine Zy (Zy (C.rg (Za rfl (Za rfl (aY rfl U25 rfl hS rfl rfl trivial (Zaa rfl (Zo (Zx (aH rfl (fun hc1=>?_) (fun hc1=>?_))))))))))
 ·simp only at hc1;have hk:k<ns.length:=by omega
  obtain⟨x,hx⟩:∃x,ns[k]?= some x:=⟨_,List.getElem?_eq_getElem hk⟩
  obtain⟨hx0,hx1⟩:=hr x (List.mem_of_getElem? hx);have z1:=B9 hx0 hx1;have z2:(⟨#[32]⟩:ByteArray).size=1:=rfl;refine Zac (Zx (Zy (Zae (C.rg (Za rfl (Za rfl (Za rfl (aJ rfl U25 Tf.s3 rfl hS rfl Yd hx rfl trivial (fun b1 o1 cs1 hr1 hcl1 hA1=>?_)))))))));obtain rfl:cs1=[.int .i64 _]:=hr1;refine Zg 0 rfl Tf.a3 rfl hA1 rfl (Zd rfl (fun D1 hD1=>FK x hx0 hx1 _) (wT rfl rfl rfl Yd rfl trivial (wT rfl rfl rfl (by simp only[ByteArray.size_append];omega) rfl trivial (Zj rfl (Zo (Zag (Zx (C.rg (Za rfl (Zt rfl (Zj rfl ?_)))))))))));refine Zo ?_;exact aN 18 (k+1,s++(⟨#[32]⟩++vU (itoa x))) ⟨by simp only;omega,by simp only;rw[h2,DA hx],by simp only[ByteArray.size_append];omega⟩ Yo ⟨Yb,Yb,trivial⟩ rfl rfl (List.Sublist.refl _) (aG)
 ·obtain rfl:k=ns.length:=by simp only at hc1;omega
  refine aZ (Zaf (Zaf (aE (Zx (Zy (C.rg (Za rfl (Zj rfl (Zo (Zx (aC ?_)))))))))));exact Zc [_] rfl ⟨rfl,trivial⟩ (fun D hD=>by show Value.string s=_;rw[h2,List.take_length])
theorem tT(D:aA)(hV:jS D):Fn Tryz.prog 8 #[] D (fun _ v=>v=.bool true):=by
 refine enter 44 Tryz.func8 rfl rfl rfl rfl fun h0=>Zy (C.rg (Zj rfl (Zo (Zx (Zy (C.rg (cW rfl rfl rfl (fun D1 hD1=>M7 _ [] _ Sl.nil (hV.up (hD1 _ Ye))) rfl trivial (fun v1 D1 hD1 hp1=>?_))))))))
 obtain⟨w1,w2,rfl,⟨pv,cv,hv,lv,mv,bl,bc,yc,yq,rfl,hL⟩,hes⟩:=hp1;unfold bG;refine Za rfl (Zz rfl (Zz rfl (Zz rfl (Zu rfl Tf.z42 rfl (fun q1=>bL rfl rfl rfl rfl Tf.s42 Ya Ya (cY.head) (gE hL) trivial (Zj rfl (Zj rfl (Zo (Zx (Zy (C.rg ?_)))))))))));refine Zk rfl Tf.f42_0 rfl (dU rfl Tf.a28 Tf.s28 rfl (List.Mem.head _) rfl rfl List.not_mem_nil rfl trivial (Zd rfl (fun D2 hD2=>xW _ (dT []).1.row 0 3 _ (hL.row.up (hD2 _ Ye))) (Za rfl (Zz rfl (Zz rfl (Zu rfl Tf.z56 rfl (fun q2=>Zs rfl Tf.s56 (cY.head) (Zj rfl (Zo (Zx (Zy ?_)))))))))));refine C.rg (Zk rfl Tf.f42_1 rfl (dU rfl Tf.a32 Tf.s32 rfl (List.Mem.tail _ (List.Mem.head _)) rfl rfl List.not_mem_nil rfl trivial (Zd rfl (fun D3 hD3=>L2.HS _ (dT []).1.table 0 3 _ (hL.table.up (hD3 _ Ye))) (Za rfl (Zz rfl (Zz rfl (Zj rfl (Zj rfl (Zo (Zx (Zy ?_)))))))))));refine C.rg (Za rfl (eL rfl rfl rfl rfl trivial (Za rfl ?_)));refine' dA [(false,3),(false,4),(false,5)] [(false,6),(false,7),(false,8),(false,9),(false,10),(false,11),(false,12),(false,13),(false,14),(false,15),(false,16),(false,17),(false,18),(false,19)] (s:=27) (p:=30) rfl rfl (fun hg1=>?_) (fun hg1=>?_) ?_;rotate_left
 ·refine Zb rfl (eL rfl rfl rfl rfl ⟨_,rfl,rfl⟩ (Zv rfl ?_));exact aF fun a w hh=>hh.cutK 2 rfl
 ·refine Zi rfl (Zi rfl (Zw rfl ?_));exact aF fun a w hh=>hh.cutK 2 rfl
 refine Za rfl ?_;refine' dA [(false,7),(false,8),(false,9),(false,10)] [(false,11),(false,12),(false,13),(false,14),(false,15),(false,16),(false,17),(false,18),(false,19)] (s:=31) (p:=35) rfl rfl (fun hg2=>?_) (fun hg2=>?_) ?_;rotate_left
 ·refine aX rfl Tf.a56 rfl (List.Mem.head _) Tf.s56 List.not_mem_nil rfl ⟨_,rfl,rfl⟩ (lY (cs:=[.int .i64 0,.int .i64 4]) rfl Tf.p56 Tf.z56 rfl rfl rfl ⟨_,rfl,rfl⟩ (QZ (a:=(if C1.bE (dT []).1.row (C1.iT (dT []).1.row 0 3)=0 then(C1.tW (C1.truths (dT []).1.row) (0:Int).toNat (3:Int).toNat,C1.uM (C1.truths (dT []).1.row) (0:Int).toNat (3:Int).toNat)else(0,0))) (b:=(0,4)) rfl Yg TE rfl rfl rfl ⟨_,rfl,rfl⟩ (Zv rfl ?_)));exact aF fun a w hh=>hh.cutK 3 rfl
 ·refine Zi rfl (Zi rfl (Zi rfl (Zw rfl ?_)));exact aF fun a w hh=>hh.cutK 3 rfl
 refine Za rfl ?_;refine' dA [(false,12),(false,13),(false,14)] [(false,15),(false,16),(false,17),(false,18),(false,19)] (s:=36) (p:=39) rfl rfl (fun hg3=>?_) (fun hg3=>?_) ?_;rotate_left
 ·refine Zb rfl (eL rfl rfl rfl rfl ⟨_,rfl,rfl⟩ (Zv rfl ?_));exact aF fun a w hh=>hh.cutK 2 rfl
 ·refine Zi rfl (Zi rfl (Zw rfl ?_));exact aF fun a w hh=>hh.cutK 2 rfl
 refine Za rfl ?_;refine' dA [(false,16),(false,17),(false,18)] [(false,19)] (s:=40) (p:=43) rfl rfl (fun hg4=>?_) (fun hg4=>?_) ?_;rotate_left
 ·refine Zb rfl (eL rfl rfl rfl rfl ⟨_,rfl,rfl⟩ (Zv rfl ?_));exact aF fun a w hh=>hh.cutK 2 rfl
 ·refine Zi rfl (Zi rfl (Zw rfl ?_));exact aF fun a w hh=>hh.cutK 2 rfl
 refine Zj rfl (Zo (Zx (aC ?_)));exact Zc [_] rfl ⟨rfl,trivial⟩ (fun D hD=>congrArg Value.bool (by decide+kernel))
end L12
end Go.Fs
namespace Go.Fs
open Go.Proofs
namespace L12
open C12 Go.Lib
theorem F0:∀{p:List UInt8} (l:List UInt8),(32:UInt8)∉p→gY (p++32::l)=p::gY l
 | [],l,_=>by simp[gY]
 |b::p,l,h=>by
  simp only[List.mem_cons,not_or]at h;rw[List.cons_append,gY,if_neg (fun e=>h.1 e.symm),F0 l h.2]
theorem m1(w:ByteArray):∀ns:List Int,(mH w ns).data.toList=w.data.toList++ns.flatMap fun n=>32::itoa n:=by
 intro ns;induction ns generalizing w with
 |nil=>simp[mH]
 |cons n ns ih=>
  show(mH (w++(⟨#[32]⟩++vU (itoa n))) ns).data.toList=_;rw[ih];simp[vU]
theorem A0:∀(ns:List Int) (p:List UInt8),(32:UInt8)∉p→(∀n∈ns,(32:UInt8)∉itoa n)→gY (p++ns.flatMap fun n=>32::itoa n)=p::ns.map itoa
 | [],p,hp,_=>by simp[nI hp]
 |n::ns,p,hp,h=>by
  rw[List.flatMap_cons,List.cons_append,F0 _ hp,A0 ns (itoa n) (h n Ye) fun m hm=>h m (by simp[hm])];rfl
theorem o9:((List.range 100).all fun m=>jC (itoa (m:Int))==some (m:Int)&& !(itoa (m:Int)).contains 32)=true:=by decide+kernel
theorem R3{n:Int}(h0:0≤n)(h1:n≤99):jC (itoa n)=some n∧(32:UInt8)∉itoa n:=by
 obtain⟨m,rfl⟩:=Int.eq_ofNat_of_zero_le h0;have:=List.all_eq_true.1 o9 m (List.mem_range.2 Yd);rw[Bool.and_eq_true]at this;exact⟨eq_of_beq this.1,fun hm=>by simp[hm]at this⟩
theorem G1:∀{ns:List Int},(∀n∈ns,0≤n∧n≤99)→(ns.map itoa).mapM jC=some ns
 | [],_=>rfl
 |n::ns,h=>by
  obtain⟨h0,h1⟩:=h n Ye;rw[List.map_cons,List.mapM_cons,(R3 h0 h1).1,G1 (ns:=ns) fun m hm=>h m (by simp[hm])];rfl
theorem xL{w:ByteArray}{ns:List Int}{act:eJ}(hw:(32:UInt8)∉w.data.toList)(hr:∀n∈ns,0≤n∧n≤99)(hf:iE.find? (fun x=>x.1==w.data.toList)=some (w.data.toList,ns.length,act)):gP (mH w ns)=some (act,ns):=by
 unfold gP;rw[m1,A0 ns _ hw fun n hn=>(R3 (hr n hn).1 (hr n hn).2).2];simp only[hf,List.length_map,if_true];rw[G1 hr];rfl
theorem FC:iE.find? (fun x=>x.1== [115,101,101,110])=some ([115,101,101,110],2,rC):=rfl
theorem CR:iE.find? (fun x=>x.1== [109,97,114,107])=some ([109,97,114,107],4,oV):=rfl
def kG(r:C1.cS)(k:Nat)(c:Int):C1.cS:={r with places:=r.places.set k c}
end L12
end Go.Fs
namespace Go.Fs.C1

theorem wF{l:List Int}{x:Int}(h:x∈l):nB l≤x:=by
 have key:∀(l:List Int) (a:Int),l.foldl min a≤a∧∀x∈l,l.foldl min a≤x:=by
  intro l;induction l with
  |nil=>intro a;simp
  |cons y l ih=>
   intro a;rw[List.foldl_cons];obtain⟨h1,h2⟩:=ih (min a y);refine⟨by omega,fun x hx=>?_⟩;rcases List.mem_cons.1 hx with rfl|hx
   ·omega
   ·exact h2 x hx
 cases l with
 |nil=>cases h
 |cons y l=>
  rcases List.mem_cons.1 h with rfl|h
  ·exact(key l x).1
  ·exact(key l y).2 x h
theorem M6{l:List Int}{x:Int}(h:x∈l):x≤lX l:=by
 have key:∀(l:List Int) (a:Int),a≤l.foldl max a∧∀x∈l,x≤l.foldl max a:=by
  intro l;induction l with
  |nil=>intro a;simp
  |cons y l ih=>
   intro a;rw[List.foldl_cons];obtain⟨h1,h2⟩:=ih (max a y);refine⟨by omega,fun x hx=>?_⟩;rcases List.mem_cons.1 hx with rfl|hx
   ·omega
   ·exact h2 x hx
 cases l with
 |nil=>cases h
 |cons y l=>
  rcases List.mem_cons.1 h with rfl|h
  ·exact(key l x).1
  ·exact(key l y).2 x h
theorem wJ{l:List Int}(h:l≠[]):nB l∈l:=by
 have key:∀(l:List Int) (a:Int),l.foldl min a=a∨l.foldl min a∈l:=by
  intro l;induction l with
  |nil=>intro a;exact Or.inl rfl
  |cons y l ih=>
   intro a;rw[List.foldl_cons];rcases ih (min a y)with h|h
   ·rw[h];rcases Int.le_total a y with h'|h'
    ·exact Or.inl Yd
    ·exact Or.inr (by rw[Int.min_eq_right h'];exact List.mem_cons_self)
   ·exact Or.inr (List.mem_cons_of_mem _ h)
 cases l with
 |nil=>exact absurd rfl h
 |cons y l=>
  rcases key l y with h|h
  ·show l.foldl min y∈_;rw[h];exact List.mem_cons_self
  ·exact List.mem_cons_of_mem _ h
theorem sT{l:List Int}(h:l≠[]):lX l∈l:=by
 have key:∀(l:List Int) (a:Int),l.foldl max a=a∨l.foldl max a∈l:=by
  intro l;induction l with
  |nil=>intro a;exact Or.inl rfl
  |cons y l ih=>
   intro a;rw[List.foldl_cons];rcases ih (max a y)with h|h
   ·rw[h];rcases Int.le_total a y with h'|h'
    ·exact Or.inr (by rw[Int.max_eq_right h'];exact List.mem_cons_self)
    ·exact Or.inl Yd
   ·exact Or.inr (List.mem_cons_of_mem _ h)
 cases l with
 |nil=>exact absurd rfl h
 |cons y l=>
  rcases key l y with h|h
  ·show l.foldl max y∈_;rw[h];exact List.mem_cons_self
  ·exact List.mem_cons_of_mem _ h
theorem TN{ts:List (List Int)}{i j:Nat}{t:List Int}(h:t∈ts):tW ts i j≤fR t i j:=wF (List.mem_map.2 ⟨t,h,rfl⟩)
theorem SU{ts:List (List Int)}{i j:Nat}{t:List Int}(h:t∈ts):fR t i j≤uM ts i j:=M6 (List.mem_map.2 ⟨t,h,rfl⟩)
theorem RV{ts:List (List Int)}{i j:Nat}(h:ts≠[]):∃t∈ts,fR t i j=tW ts i j:=by
 obtain⟨t,ht,he⟩:=List.mem_map.1 (wJ (l:=ts.map fun t=>fR t i j) (by simpa using h));exact⟨t,ht,he⟩
theorem RZ{ts:List (List Int)}{i j:Nat}(h:ts≠[]):∃t∈ts,fR t i j=uM ts i j:=by
 obtain⟨t,ht,he⟩:=List.mem_map.1 (sT (l:=ts.map fun t=>fR t i j) (by simpa using h));exact⟨t,ht,he⟩
theorem QN{ts us:List (List Int)}{i j:Nat}(hne:us≠[])(h:∀t∈us,t∈ts):tW ts i j≤tW us i j:=by
 obtain⟨t,ht,he⟩:=RV (i:=i) (j:=j) hne;rw[←he];exact TN (h t ht)
theorem PS{ts us:List (List Int)}{i j:Nat}(hne:us≠[])(h:∀t∈us,t∈ts):uM us i j≤uM ts i j:=by
 obtain⟨t,ht,he⟩:=RZ (i:=i) (j:=j) hne;rw[←he];exact SU (h t ht)

theorem tH{ts:List (List Int)}{k:Nat}{b:Int}{t:List Int}:t∈bU ts k b ↔ t∈ts∧t.getD k 0=b:=by
 unfold bU;rw[List.mem_filter,beq_iff_eq]
theorem FD{ts:List (List Int)}{a:Int}(ha:ts.length<a):gF ts a 1=(0,((max (bU ts 0 0).length (bU ts 0 1).length:Nat):Int)):=by
 have h0:=iA ts 0 0;have h1:=iA ts 0 1;show(if(max ((bU ts 0 0).length:Int) (bU ts 0 1).length)<a then((0:Int),(max ((bU ts 0 0).length:Int) (bU ts 0 1).length))else(0,a))=_;rw[if_pos Yd];congr 1;omega
theorem j7(ts:List (List Int))(a:Int)(k:Nat):gF ts a (k+1)=if((max (bU ts k 0).length (bU ts k 1).length:Nat):Int)<(gF ts a k).2 then((k:Int),((max (bU ts k 0).length (bU ts k 1).length:Nat):Int))else gF ts a k:=by
 have e:(max ((bU ts k 0).length:Int) (bU ts k 1).length)=((max (bU ts k 0).length (bU ts k 1).length:Nat):Int):=by omega
 rw[←e];rfl
theorem e4{ts:List (List Int)}{a:Int}(ha:ts.length<a):∀n:Nat,0<n→0≤(gF ts a n).1∧(gF ts a n).1<n∧(gF ts a n).2=((max (bU ts (gF ts a n).1.toNat 0).length (bU ts (gF ts a n).1.toNat 1).length:Nat):Int):=by
 intro n hn;induction n with
 |zero=>omega
 |succ n ih=>
  cases n with
  |zero=>rw[Nat.zero_add,FD ha];simp
  |succ n=>
   obtain⟨h1,h2,h3⟩:=ih Yd;rw[j7];split
   ·refine⟨by simp only;omega,by simp only;omega,?_⟩;simp only[Int.toNat_natCast]
   ·exact⟨h1,by omega,h3⟩
end Go.Fs.C1
namespace Go.Fs.C1

theorem kK:∀{l t:List Int},t∈bX l ↔ t.length=l.length∧∀(k:Nat) (x p:Int),t[k]?= some x→l[k]?= some p→(x=0∨x=1)∧(p=2∨p=x)
 | [],t=>by
  simp only[bX,List.mem_singleton,List.length_nil];constructor
  ·rintro rfl;simp
  ·rintro⟨h,_⟩;exact List.length_eq_zero_iff.1 h
 |p::ps,t=>by
  have key:∀c:Int,(c=0∨c=1)→(t∈(if p=2∨p=c then(bX ps).map (c:: ·)else []) ↔∃u,t=c::u∧u∈bX ps∧(p=2∨p=c)):=by
   intro c _;split
   ·rename_i h;simp only[List.mem_map];constructor
    ·rintro⟨u,hu,rfl⟩;exact⟨u,rfl,hu,h⟩
    ·rintro⟨u,rfl,hu,_⟩;exact⟨u,hu,rfl⟩
   ·rename_i h;constructor
    ·intro h';cases h'
    ·rintro⟨_,_,_,h'⟩;exact absurd h' h
  simp only[bX,List.mem_append];rw[key 0 (Or.inl rfl),key 1 (Or.inr rfl)];constructor
  ·have mk:∀(c:Int) (u:List Int),(c=0∨c=1)→t=c::u→u∈bX ps→(p=2∨p=c)→t.length=(p::ps).length∧∀(k:Nat) (x p':Int),t[k]?= some x→(p::ps)[k]?= some p'→(x=0∨x=1)∧(p'=2∨p'=x):=by
    rintro c u hc rfl hu hp;obtain⟨h1,h2⟩:=kK.1 hu;refine⟨by simp[h1],fun k x p' hx hp'=>?_⟩;cases k with
    |zero=>
     simp only[List.getElem?_cons_zero,Option.some.injEq]at hx hp';subst hx hp';exact⟨hc,hp⟩
    |succ k=>simp only[List.getElem?_cons_succ]at hx hp';exact h2 k x p' hx hp'
   rintro(⟨u,h1,h2,h3⟩|⟨u,h1,h2,h3⟩)
   ·exact mk 0 u (Or.inl rfl) h1 h2 h3
   ·exact mk 1 u (Or.inr rfl) h1 h2 h3
  ·rintro⟨h1,h2⟩;cases t with
   |nil=>simp at h1
   |cons c u=>
    have h0:=h2 0 c p rfl rfl;have hu:u∈bX ps:=kK.2 ⟨by simpa using h1,fun k x p' hx hp'=>h2 (k+1) x p' (by simpa using hx) (by simpa using hp')⟩;rcases h0.1 with rfl|rfl
    ·exact Or.inl ⟨u,rfl,hu,h0.2⟩
    ·exact Or.inr ⟨u,rfl,hu,h0.2⟩
theorem oO{r:cS}{t:List Int}:t∈truths r ↔ t∈bX r.places∧fits r t=true:=List.mem_filter



end Go.Fs.C1
namespace Go.Fs
open Go.Proofs
namespace L12
open C1
theorem l7{r:cS}(hok:lH r){k m:Nat}(_hk:k<r.places.length)(hm:m=0∨m=1):lH (kG r k (m:Int)):=
 ⟨by simpa [kG]using hok.len0,by simpa [kG]using hok.len9,hok.cnt6,hok.wrong,hok.off,fun p hp=>by
  simp only[kG]at hp;rcases List.mem_or_eq_of_mem_set hp with h|h
  ·exact hok.place p h
  ·omega,fun c hc=>by simpa [kG]using hok.cnt c hc⟩
theorem wI{r:cS}{k m:Nat}(hk:k<r.places.length)(hne:bU (truths r) k (m:Int)≠[]){t:List Int}:t∈truths (kG r k (m:Int)) ↔ t∈bU (truths r) k (m:Int):=by
 obtain⟨t0,l0,e0⟩:=List.exists_cons_of_ne_nil hne;have m0:t0∈bU (truths r) k (m:Int):=by rw[e0];exact List.mem_cons_self
 rw[tH,oO]at m0;obtain⟨⟨a0,_⟩,g0⟩:=m0;have fitsE:fits (kG r k (m:Int)) t=fits r t:=rfl;rw[tH,oO,oO,fitsE];have key:t∈bX (kG r k (m:Int)).places ↔ t∈bX r.places∧t.getD k 0=(m:Int):=by
  have hr:=List.getElem?_eq_getElem hk;have p0:((m:Int)=0∨(m:Int)=1)∧(r.places[k]=2∨r.places[k]=(m:Int)):=by
   obtain⟨h1,h2⟩:=kK.1 a0;have h3:t0[k]?= some (m:Int):=by
    rw[List.getD_eq_getElem?_getD,List.getElem?_eq_getElem Yd]at g0;rw[List.getElem?_eq_getElem Yd,←g0];rfl
   exact h2 k _ _ h3 hr
  rw[kK,kK];simp only[kG,List.length_set];constructor
  ·rintro⟨h1,h2⟩;have hs:(r.places.set k (m:Int))[k]?= some (m:Int):=by rw[List.getElem?_set_self hk]
   have hkl:k<t.length:=by omega
   have ht:=List.getElem?_eq_getElem hkl;have hkt:=h2 k _ _ ht hs;have e:t.getD k 0=(m:Int):=by
    rw[List.getD_eq_getElem?_getD,ht];have h01:=p0.1;have h2':=hkt.2;show t[k]'hkl=(m:Int);rcases h2' with h|h
    ·omega
    ·exact h.symm
   refine⟨⟨h1,fun q x p hx hp=>?_⟩,e⟩;by_cases hq:k=q
   ·subst hq;rw[hr]at hp;cases hp
    have hx':=hx;rw[ht]at hx;cases hx
    rw[List.getD_eq_getElem?_getD,ht]at e;simp only[Option.getD_some]at e;exact⟨hkt.1,by omega⟩
   ·exact h2 q x p hx (by rw[List.getElem?_set_ne hq];exact hp)
  ·rintro⟨⟨h1,h2⟩,e⟩;refine⟨h1,fun q x p hx hp=>?_⟩;by_cases hq:k=q
   ·subst hq;rw[List.getElem?_set_self hk]at hp;cases hp
    have:=h2 k x _ hx hr;rw[List.getD_eq_getElem?_getD,hx]at e;simp only[Option.getD_some]at e;exact⟨this.1,Or.inr e.symm⟩
   ·rw[List.getElem?_set_ne hq]at hp;exact h2 q x p hx hp
 rw[key];constructor
 ·rintro⟨⟨h1,h2⟩,h3⟩;exact⟨⟨h1,h3⟩,h2⟩
 ·rintro⟨⟨h1,h3⟩,h2⟩;exact⟨⟨h1,h2⟩,h3⟩
def cD(r:cS)(k:Nat):Nat:=if vd (truths r) (pQ k)=2 then 0 else 1
theorem MS{r:cS}(hne:truths r≠[]){k:Nat}(hk:k<r.places.length):bU (truths r) k (cD r k:Int)≠[]:=by
 obtain⟨t0,l0,e0⟩:=List.exists_cons_of_ne_nil hne;have m0:t0∈truths r:=by rw[e0];exact List.mem_cons_self
 have bit:∀t∈truths r,t.getD k 0=0∨t.getD k 0=1:=fun t ht=>by
  obtain⟨h1,h2⟩:=kK.1 (oO.1 ht).1;have hkt:k<t.length:=by omega
  rw[List.getD_eq_getElem?_getD,List.getElem?_eq_getElem hkt];exact(h2 k _ _ (List.getElem?_eq_getElem hkt) (List.getElem?_eq_getElem hk)).1
 have mem:∀{t:List Int} {b:Int},t∈truths r→t.getD k 0=b→bU (truths r) k b≠[]:=fun ht hb e=>by
  have:_∈bU (truths r) k _:=tH.2 ⟨ht,hb⟩;rw[e]at this;cases this
 have q:∀t∈truths r,(pQ k t=true ↔ t.getD k 0=1):=fun t ht=>by
  unfold pQ;rw[decide_eq_true_eq];rcases bit t ht with h|h<;>omega
 unfold cD;split
 ·rename_i h2;refine mem m0 ?_;rw[e0,vd]at h2;split at h2
  ·split at h2
   ·cases h2
   ·rename_i hq;rcases bit t0 m0 with h|h
    ·exact h
    ·exact absurd ((q t0 m0).2 h) hq
  ·cases h2
 ·rename_i h2;by_cases hex:∃t∈truths r,pQ k t=true
  ·obtain⟨t,ht,hq⟩:=hex;exact mem ht ((q t ht).1 hq)
  ·exfalso
   apply h2;have hf:∀t∈truths r,pQ k t=false:=fun t ht=>by
    cases h:pQ k t with
    |false=>rfl
    |true=>exact absurd ⟨t,ht,h⟩ hex
   rw[e0]at hf ⊢
   rw[vd,if_pos,if_neg]
   ·rw[hf t0 List.mem_cons_self];simp
   ·rw[List.all_eq_true];intro t ht;rw[hf t ht,hf t0 List.mem_cons_self];rfl
theorem J9{r:cS}(h:bE r true=0){k:Nat}(hk:k<r.places.length):bE (kG r k (cD r k:Int)) true=0∧∀t∈truths (kG r k (cD r k:Int)),t∈truths r:=by
 have hf:aV r=0:=by
  unfold bE at h;split at h
  ·exact h
  ·rename_i hf;simpa using hf
 have hne:truths r≠[]:=by
  unfold bE at h;rw[if_neg Yd,if_neg Ye]at h;intro e;rw[if_pos e]at h;cases h
 have hok:=pY.1 hf;have hs:=MS hne hk;have hm:cD r k=0∨cD r k=1:=by unfold cD;split<;>simp
 have hx:=l7 hok hk hm;have hne2:truths (kG r k (cD r k:Int))≠[]:=by
  obtain⟨t0,l0,e0⟩:=List.exists_cons_of_ne_nil hs;have:t0∈truths (kG r k (cD r k:Int)):=(wI hk hs).2 (by rw[e0];exact List.mem_cons_self)
  intro e;rw[e]at this;cases this
 refine⟨?_,fun t ht=>nC ((wI hk hs).1 ht)⟩;unfold bE;rw[if_neg (by have:=pY.2 hx;omega),if_neg Ye,if_neg hne2]
end L12
end Go.Fs
namespace Go.Fs
open Go.Proofs
namespace L12
open C1 (nB lX wF wJ sT M6 eY bT)
open C2
theorem ER{t:aR}{acc:List (List Int)}{s u:List Int}(h:u∈acc):u∈lA t acc s:=by
 unfold lA;split
 ·exact h
 ·exact List.mem_append_left _ h
theorem wZ{t:aR}:∀(l acc:List (List Int)) {u:List Int},u∈acc→u∈l.foldl (lA t) acc
 | [],_,_,h=>h
 |_::l,_,_,h=>wZ l _ (ER h)
theorem j2{t:aR}{acc:List (List Int)}{s:List Int}(h:fS t s=true):s∈lA t acc s:=by
 unfold lA;split
 ·rename_i hc;rcases hc with hc|hc
  ·rw[h]at hc;cases hc
  ·exact List.mem_of_getLast? hc
 ·exact List.mem_append_right _ Ye
theorem vH{t:aR}:∀(l acc:List (List Int)) {s:List Int},s∈l→fS t s=true→s∈l.foldl (lA t) acc
 |x::l,acc,s,hs,h=>by
  rcases List.mem_cons.1 hs with rfl|hs
  ·exact wZ l _ (j2 h)
  ·exact vH l _ hs h
theorem U2{t:aR}{s:List Int}(h:s∈dK t)(hr:fS t s=true):s∈aW t:=vH _ _ h hr
theorem zL{t:aR}{s:List Int}(h:s∈aW t):s∈dK t:=by
 rcases uN _ _ s h with h|h
 ·cases h
 ·exact h
def oQ(t:aR)(k:Nat):aR:={t with marks:=t.marks++[⟨k,k,(cO t k).1,(cO t k).2⟩]}
theorem Q4{s:List Int}{k:Nat}(hk:k<s.length):fL s k k=LS s k:=by
 unfold fL LS;rw[Int.toNat_natCast,show((k:Int)+1-k).toNat=1 by omega,List.drop_eq_getElem_cons hk,List.getD_eq_getElem?_getD,List.getElem?_eq_getElem hk];rfl
theorem G7{t t':aR}:∀(l acc:List (List Int)),(∀s∈l,fS t' s=fS t s)→l.foldl (lA t') acc=l.foldl (lA t) acc
 | [],_,_=>rfl
 |s::l,acc,h=>by
  have e:lA t' acc s=lA t acc s:=by unfold lA;rw[h s List.mem_cons_self]
  rw[List.foldl_cons,List.foldl_cons,e];exact G7 l _ fun u hu=>h u (List.mem_cons_of_mem _ hu)
theorem pA{t:aR}{k:Nat}(hk:k<t.heights.length):aW (oQ t k)=aW t:=by
 have hl:dK (oQ t k)=dK t:=rfl;unfold aW;rw[hl];refine G7 _ _ fun s hs=>?_
 unfold fS;show(t.marks++[_]).all _=_;rw[List.all_append];cases hr:t.marks.all fun m=>eY (fL s m.frm m.to) m.lo m.hi with
 |false=>rfl
 |true=>
  have hm:=U2 hs hr;rw[Bool.true_and,List.all_cons,List.all_nil,Bool.and_true,Q4 (by rw[gU hs];exact hk)]
  have hmm:LS s k∈(aW t).map (LS · k):=List.mem_map.2 ⟨s,hm,rfl⟩;exact bT.2 ⟨wF hmm,M6 hmm⟩
theorem J8{t:aR}(h:fH t true=0):aV t=0∧aW t≠[]:=by
 unfold fH at h;have hf:aV t=0:=by
  split at h
  ·exact h
  ·rename_i hf;simpa using hf
 refine⟨hf,fun e=>?_⟩;rw[if_neg Yd,if_neg Ye,if_pos e]at h;cases h
theorem uB{t:aR}(h:fH t true=0){k:Nat}(hk:k<t.heights.length):0≤(cO t k).1∧(cO t k).1≤(cO t k).2∧(cO t k).2≤99:=by
 obtain⟨hf,hne⟩:=J8 h;have ht:=nQ hf;have hne2:(aW t).map (LS · k)≠[]:=by simpa using hne
 have b:∀x∈(aW t).map (LS · k),0≤x∧x≤99:=fun x hx=>by
  obtain⟨s,hs,rfl⟩:=List.mem_map.1 hx;have hsl:=zL hs;have hks:k<s.length:=by rw[gU hsl];exact hk
  refine sU _ _ s ht.hts hsl _ ?_;show s.getD k 0∈s;rw[List.getD_eq_getElem?_getD,List.getElem?_eq_getElem hks];exact List.getElem_mem hks
 exact⟨(b _ (wJ hne2)).1,wF (sT hne2),(b _ (sT hne2)).2⟩
theorem EE{t:aR}(h:fH t true=0){k:Nat}(hk:k<t.heights.length)(hm:t.marks.length≤4):aV (oQ t k)=0∧fH (oQ t k) true=0:=by
 obtain⟨hf,hne⟩:=J8 h;obtain⟨b0,b1,b2⟩:=uB h hk;have ht:=nQ hf;have e:=pA hk;have hlen:=ht.len;have hlim:r9 (oQ t k)=r9 t:=by
  have h1:decide (((oQ t k).marks.length:Int)>5)=false:=decide_eq_false (by simp only[oQ,List.length_append,List.length_singleton];omega);have h2:decide ((t.marks.length:Int)>5)=false:=decide_eq_false Yd;unfold r9;rw[h1,h2];rfl
 have hok:OU (oQ t k)=OU t:=by
  have hmk:kY t.last ⟨k,k,(cO t k).1,(cO t k).2⟩=true:=by
   simp only[kY,jZ,yM,eS,dB,Bool.and_eq_true,bT,decide_eq_true_eq];omega
  unfold OU;show(decide (0≤t.last)&&decide ((t.heights.length:Int)=t.last+1)&&t.heights.all eS&&dB t.step&&t.levels.all dB&&(t.marks++[_]).all (kY t.last))=_;rw[List.all_append,List.all_cons,hmk];simp
 have hft:aV (oQ t k)=aV t:=by
  unfold aV;rw[hlim,hok];rfl
 refine⟨hft.trans hf,?_⟩;unfold fH;rw[hft,e,if_neg Yd,if_neg Ye,if_neg hne]
end L12
end Go.Fs
namespace Go.Fs
open Go.Proofs
namespace L12
open C12 Go.Lib
def jR:ByteArray:=⟨#[115,101,101,110]⟩
def AK:ByteArray:=⟨#[109,97,114,107]⟩
def cA(s:aK)(p:Nat):ByteArray:=mH jR [(p:Int),(cD s.row p:Int)]
def cG(s:aK)(k:Nat):ByteArray:=mH AK [(k:Int),(k:Int),(C2.cO s.table k).1,(C2.cO s.table k).2]
def FN(s:aK)(p:Nat):aK:=setRow s (kG s.row p (cD s.row p:Int))
def zV(s:aK)(p k:Nat):aK:=setTable (FN s p) (oQ s.table k)
theorem pC{s:aK}(h:bZ s=0):C1.bE s.row true=0∧C2.fH s.table true=0:=by
 obtain⟨h1,_,h3,_⟩:=pG h;exact⟨h1,h3⟩
theorem u6(r:C1.cS)(p:Nat):cD r p≤1:=by unfold cD;split<;>omega
theorem GL{s:aK}(h:bZ s=0){p:Nat}(hp:p<s.row.places.length)(hp7:p≤99):kL s (cA s p)=(FN s p,0):=by
 obtain⟨h1,h2,h3,h4,h5,h6⟩:=pG h;have hs:=u6 s.row p;refine I9 (act:=rC) (n:=[(p:Int),(cD s.row p:Int)]) (xL Yz (fun n hn=>?_) FC) ?_ (tX (s:=FN s p) (J9 h1 hp).1 h2 h3 h4 h5 h6)
 ·simp only[List.mem_cons,List.not_mem_nil,or_false]at hn;rcases hn with rfl|rfl<;>omega
 ·unfold rC;simp only;rw[if_neg Yd,if_neg Yd,Int.toNat_natCast];rfl
theorem IN{s:aK}(h:bZ s=0){p k:Nat}(hp:p<s.row.places.length)(hk:k<s.table.heights.length)(hk9:k≤99)(hm:s.table.marks.length≤4):kL (FN s p) (cG s k)=(zV s p k,0):=by
 obtain⟨h1,h2,h3,h4,h5,h6⟩:=pG h;obtain⟨b0,b1,b2⟩:=uB h3 hk;obtain⟨t1,t2⟩:=EE h3 hk hm;refine I9 (act:=oV) (n:=[(k:Int),(k:Int),(C2.cO s.table k).1,(C2.cO s.table k).2]) (xL Yz (fun n hn=>?_) CR) ?_ (tX (s:=zV s p k) (J9 h1 hp).1 t1 t2 h4 h5 h6)
 ·simp only[List.mem_cons,List.not_mem_nil,or_false]at hn;rcases hn with rfl|rfl|rfl|rfl<;>omega
 ·unfold oV;simp only;rw[if_neg (by show ¬((s.table.heights.length:Int)≤max (k:Int) k);omega),if_neg Yd,if_neg Yd,if_neg (by show ¬(5≤(s.table.marks.length:Int));omega)]
  rfl
theorem KD{ls:List ByteArray}{p k:Nat}(hp:p<(aL ls).1.row.places.length)(hp7:p≤99)(hk:k<(aL ls).1.table.heights.length)(hk9:k≤99)(hm:(aL ls).1.table.marks.length≤4):
  aL (ls++[cA (aL ls).1 p,cG (aL ls).1 k])=(zV (aL ls).1 p k,(aL ls).2++[0,0]):=by
 have hs:=mB ls;have e1:=GL hs hp hp7;have e2:=IN hs hp hk hk9 hm;rw[EP];show(qM (kL (kL (aL ls).1 _).1 _).1 [],(aL ls).2++[(kL (aL ls).1 _).2,(kL (kL (aL ls).1 _).1 _).2])=_;rw[e1,e2];rfl
theorem b8{s:aK}(h:bZ s=0){p k:Nat}(hp:p<s.row.places.length):C1.tW (C1.truths s.row) 0 (s.row.places.length-1)≤C1.tW (C1.truths (zV s p k).row) 0 (s.row.places.length-1)∧C1.uM (C1.truths (zV s p k).row) 0 (s.row.places.length-1)≤C1.uM (C1.truths s.row) 0 (s.row.places.length-1):=by
 obtain⟨h1,_⟩:=pC h;obtain⟨r1,r2⟩:=J9 h1 hp;have hne:C1.truths (kG s.row p (cD s.row p:Int))≠[]:=by
  unfold C1.bE at r1;intro e;by_cases hf:C1.aV (kG s.row p (cD s.row p:Int))≠0
  ·rw[if_pos hf]at r1;exact hf r1
  ·rw[if_neg hf,if_neg Ye,if_pos e]at r1;cases r1
 exact⟨C1.QN hne r2,C1.PS hne r2⟩
end L12
end Go.Fs
namespace Go.Fs
open Go.Proofs
namespace L12
open C12 Go.Lib
theorem P2{lv:Value}{ls:List ByteArray}{D:aA}(hS:Sl D RS 1 lv ls)(hV:jS D)(hf:cT ls=0):Fn Tryz.prog 9 #[lv] D (fun D' v=>∃v1 v2,v=.tuple #[v1,v2,.int .i64 0]∧fK D' v1 (aL ls).1∧Sl D' RI 1 v2 (aL ls).2):=
 (M7 lv ls D hS hV).mono fun D' v _ h=>by
  rw[gG hf]at h;exact h
theorem S2{r:C1.cS}(h:C1.bE r true=0):C1.bE r (C1.iT r 0 ((r.places.length:Int)-1))=0∧0<r.places.length:=by
 have hf:C1.aV r=0:=by
  unfold C1.bE at h;split at h
  ·exact h
  ·rename_i hf;simpa using hf
 have hl:=(C1.pY.1 hf).len0;have hp:C1.iT r 0 ((r.places.length:Int)-1)=true:=by
  simp only[C1.iT,C1.eY,Bool.and_eq_true,decide_eq_true_eq];omega
 rw[hp];exact⟨h,by omega⟩
theorem yI{lv:Value}{ls:List ByteArray}{D:aA}(hS:Sl D RS 1 lv ls)(hV:jS D)(hf:cT ls=0):Fn Tryz.prog 14 #[lv] D (fun _ v=>v=.tuple #[gT (C1.tW (C1.truths (aL ls).1.row) 0 ((aL ls).1.row.places.length-1),C1.uM (C1.truths (aL ls).1.row) 0 ((aL ls).1.row.places.length-1)),.int .i64 0]):=
 (tP lv ls D hS hV).mono fun D' v _ h=>by
  have ha:=(pC (mB ls)).1;obtain⟨h1,h2⟩:=S2 ha;rw[h];unfold sW;rw[gG hf];simp only[if_true,h1];have e:(((aL ls).1.row.places.length:Int)-1).toNat=(aL ls).1.row.places.length-1:=by omega
  rw[e];rfl
theorem CI{r:C1.cS}(h:C1.bE r true=0):∃p:Nat,(C1.gF (C1.truths r) ((C1.truths r).length+1) r.places.length).1=p∧p<r.places.length:=by
 obtain⟨h1,h2⟩:=S2 h;obtain⟨h3,h4,_⟩:=C1.e4 (ts:=C1.truths r) (a:=((C1.truths r).length:Int)+1) Yd r.places.length h2;exact⟨_,(Int.toNat_of_nonneg h3).symm,by omega⟩
theorem HF{rv:Value}{r:C1.cS}{D:aA}{p:Nat}(hr:jQ D rv r)(h:C1.bE r true=0)(hp:(C1.gF (C1.truths r) ((C1.truths r).length+1) r.places.length).1=p):Fn Tryz.prog 10 #[rv] D (fun _ v=>v=.tuple #[.int .i64 (p:Int),.int .i64 (C1.gF (C1.truths r) ((C1.truths r).length+1) r.places.length).2,.int .i64 0]):=
 (L1.NW rv r D hr).mono fun D' v _ hv=>by rw[hv,if_pos h,if_pos h,hp,h]
def KT(r:C1.cS):List Int:=(List.range r.places.length).map fun i=>C1.vd (C1.truths r) (C1.pQ i)
theorem FQ(r:C1.cS):(KT r).length=r.places.length:=by simp[KT]
theorem OP{r:C1.cS}{p:Nat}(hp:p<r.places.length):(KT r)[p]?= some (C1.vd (C1.truths r) (C1.pQ p)):=by
 unfold KT;rw[List.getElem?_map,List.getElem?_range hp];rfl
theorem l8{rv:Value}{r:C1.cS}{D:aA}(hr:jQ D rv r)(h:C1.bE r true=0):Fn Tryz.prog 11 #[rv] D (fun D' v=>∃lv,v=.tuple #[lv,.int .i64 0]∧Sl D' RI 1 lv (KT r)):=
 (L1.C8 rv r D hr).mono fun D' v _ ⟨lv,h1,h2⟩=>by
  rw[if_pos h]at h2;rw[h]at h1;exact⟨lv,h1,h2⟩
theorem m9{tv:Value}{t:C2.aR}{D:aA}(hr:eR D tv t)(h:C2.fH t true=0):Fn Tryz.prog 12 #[tv] D (fun D' v=>∃lv,v=.tuple #[lv,.int .i64 0]∧Sl D' vT 2 lv (L2.mC t)):=
 (L2.pX tv t D hr).mono fun D' v _ ⟨lv,h1,h2⟩=>by
  rw[if_pos h]at h2;rw[h]at h1;exact⟨lv,h1,h2⟩
theorem B0{t:C2.aR}{k:Nat}(h:t.last=3)(hk:k<4):(L2.mC t)[k]?= some (C2.cO t k):=by
 unfold L2.mC;rw[h,List.getElem?_map,show((3:Int)+1).toNat=4 from rfl,List.getElem?_range hk];rfl
theorem Z7{t:C2.aR}(h:t.last=3):(L2.mC t).length=4:=by unfold L2.mC;rw[h];rfl
theorem f6{s:aK}(h:bZ s=0)(hk:iM s):s.table.last=3:=by
 obtain⟨_,h2⟩:=pC h;have:=(C2.nQ (J8 h2).1).len;have:=hk.ht;omega
theorem t7{tv:Value}{t:C2.aR}{D:aA}(hr:eR D tv t)(h:C2.fH t true=0)(hl:t.last=3):Fn Tryz.prog 15 #[tv,.int .i64 0,.int .i64 3] D (fun _ v=>v=.tuple #[.int .i64 (C2.M8 t 0 3),.int .i64 0]):=
 (L2.HS tv t 0 3 D hr).mono fun D' v _ hv=>by
  have e:C2.jZ t.last 0 3=true:=by rw[hl];decide
  rw[hv,e,h,if_pos rfl]
theorem H5{tv:Value}{t:C2.aR}{D:aA}{k:Nat}(hr:eR D tv t)(h:C2.fH t true=0)(hk:k<t.levels.length):Fn Tryz.prog 16 #[tv,.int .i64 (k:Int)] D (fun _ v=>v=.tuple #[gT (C2.nU t (t.levels.getD k 0)),.int .i64 0]):=
 (L2.HW tv t k D hr).mono fun D' v _ hv=>by
  have e:C1.eY (k:Int) 0 ((t.levels.length:Int)-1)=true:=C1.bT.2 Yd;rw[hv,e,h,if_pos rfl,Int.toNat_natCast]
end L12
end Go.Fs
namespace Go.Fs
open Go.Proofs
namespace L12
open C12 Go.Lib
theorem CL{ls:List ByteArray}(h:(!yO ls||decide ((ls.length:Int)>37))=false):yO ls=true∧ls.length≤37:=by
 simp only[Bool.or_eq_false_iff,Bool.not_eq_false',decide_eq_false_iff_not]at h;exact⟨h.1,by omega⟩
theorem tZ:∀(ns:List Int) (w:ByteArray),(∀n∈ns,0≤n∧n≤99)→(mH w ns).size≤w.size+3*ns.length
 | [],w,_=>by simp[mH]
 |n::ns,w,h=>by
  have h1:=B9 (h n Ye).1 (h n Ye).2;have h2:=tZ ns (w++(⟨#[32]⟩++vU (itoa n))) fun m hm=>h m (by simp[hm])
  have h3:(⟨#[32]⟩:ByteArray).size=1:=rfl;show(mH (w++(⟨#[32]⟩++vU (itoa n))) ns).size≤_;rw[ByteArray.size_append,ByteArray.size_append]at h2;rw[List.length_cons];omega
theorem CS{ls:List ByteArray}{s:aK}{p k:Nat}(hf:cT ls=0)(h37:ls.length≤37)(hp:p≤99)(hs:cD s.row p≤1)(hk:k≤99)(b0:0≤(C2.cO s.table k).1)(b1:(C2.cO s.table k).1≤(C2.cO s.table k).2)(b2:(C2.cO s.table k).2≤99):cT (ls++[cA s p,cG s k])=0:=by
 refine X0 Yaa fun x hx=>?_
 rcases List.mem_append.1 hx with hx|hx
 ·exact xE hf x hx
 ·simp only[List.mem_cons,List.not_mem_nil,or_false]at hx;rcases hx with rfl|rfl
  ·have:=tZ [(p:Int),(cD s.row p:Int)] jR Yj;have e:jR.size=4:=rfl;rw[e]at this;exact Nat.le_trans this (by simp only[List.length_cons,List.length_nil];omega)
  ·have:=tZ [(k:Int),(k:Int),(C2.cO s.table k).1,(C2.cO s.table k).2] AK (by intro n hn;simp only[List.mem_cons,List.not_mem_nil,or_false]at hn;rcases hn with rfl|rfl|rfl|rfl<;>omega);have e:AK.size=4:=rfl;rw[e]at this;exact Nat.le_trans this (by simp only[List.length_cons,List.length_nil];omega)
theorem HZ{es:List Int}{n i:Nat}(hl:es.length=n)(h1:n≤i)(h2:i<n+2):(es++[0,0])[i]?= some 0:=by
 rw[List.getElem?_append_right Yd,hl];rcases(show i-n=0∨i-n=1 by omega)with h|h<;>rw[h]<;>rfl
theorem i6(s:aK)(p k:Nat):(zV s p k).row.places.length=s.row.places.length:=by simp[zV,setTable,FN,setRow,kG]
theorem OY{s:aK}{p k:Nat}(hk:k<s.table.heights.length):C2.M8 (zV s p k).table 0 3=C2.M8 s.table 0 3:=by
 show C2.M8 (oQ s.table k) 0 3=_;unfold C2.M8;rw[pA hk]
theorem EH{s:aK}{p k:Nat}{n:Int}(hk:k<s.table.heights.length):C2.nU (zV s p k).table n=C2.nU s.table n:=by
 show C2.nU (oQ s.table k) n=_;unfold C2.nU;rw[pA hk]
theorem zX(lv:Value)(ls:List ByteArray)(hour:Int)(hh:0≤hour∧hour≤255)(D:aA)(hS:Sl D RS 1 lv ls)(hV:jS D):Fn Tryz.prog 3 #[lv,.int .u8 hour] D (fun _ v=>v=.bool true):=by
 have hSl:=hS.len;obtain⟨hn,rfl⟩:=Int.eq_ofNat_of_zero_le hh.1;obtain⟨k,hk⟩:∃k:Nat,(hn:Int)%4=k:=⟨hn%4,rfl⟩
 have hk4:k<4:=by omega
 refine enter 273 Tryz.func3 rfl rfl rfl rfl fun h0=>Zy (C.rg (Zj rfl (Zo (Zx (Zy (Zy (C.rg (Za rfl (Zd rfl (fun D1 hD1=>c8 _ ls _ (hS.up RS.up (hD1 _ Ye))) (bV rfl rfl rfl trivial ?_))))))))));refine Za rfl ?_
 refine' eI [(false,4),(false,5),(false,6),(false,7)] [] (s:=37) (p:=41) rfl rfl (fun hg1=>?_) (fun hg1=>?_) ?_;rotate_left
 ·refine Zb rfl (aY rfl U22 rfl hS rfl rfl ⟨_,rfl,rfl⟩ (dO rfl rfl rfl rfl ⟨_,rfl,rfl⟩ (Zw rfl ?_)));exact aF fun a w hh=>hh.cutK 3 rfl
 ·refine Zi rfl (Zi rfl (Zi rfl (Zv rfl ?_)));exact aF fun a w hh=>hh.cutK 3 rfl
 refine Zo (Zx (aP rfl (fun hc1=>?_) (fun hc1=>?_)))
 ·refine Zy (C.rg (Zd rfl (fun D2 hD2=>tT _ (hV.up (hD2 _ Ye))) (Zj rfl (Zo (Zx (aC (Zad ?_)))))));exact Zc [_] rfl ⟨rfl,trivial⟩ (fun D hD=>rfl)
 ·obtain⟨hsh,h37⟩:=CL hc1;have hf1:=W5 hsh;have hst:=mB ls;have hok:iM (aL ls).1:=by have:=X9 ls (j9 hf1);rw[JO hf1]at this;exact this
  obtain⟨hA1,hT1⟩:=pC hst;obtain⟨p,hpp,hpn⟩:=CI hA1;have hp7:=hok.pl;have hl3:=f6 hst hok;have hht:=hok.ht;have hlev6:=hok.lev;have hsl:=u6 (aL ls).1.row p;obtain⟨b0,b1,b2⟩:=uB hT1 (k:=k) Yd;refine Zac (Zx (Zy (C.rg (Zm rfl U22 Tf.s9 Tf.z9 rfl rfl rfl rfl .nil (fun b901 D901 hD901 hA901=>Za rfl (aS (A:=[]) (ν:=[]) (B:=[]) rfl U22 rfl rfl Tf.s9 Tf.z9 rfl Tf.i9 rfl rfl rfl bC.nil (iG.strs hS) Ye Yq rfl (dV _) Yd (Or.inl rfl) rfl trivial (fun v70 ν70 ha70=>?_)))))));have hap70:bC 9 1 v70 (ls).length ((ls).map Value.string) ν70:=by simpa using ha70
  refine tC (A:=[]) (B:=[]) hap70 rfl (fun D70 hD70 hF70=>?_);have hq70:Sl D70 RS 1 v70 (ls):=hF70.strs rfl Yd;refine cW rfl rfl rfl (fun D3 hD3=>P2 (ls:=ls) (hq70.up RS.up (hD3 _ Ye)) (hV.up (hD3 _ Ye)) hf1) rfl trivial (fun v3 D3 hD3 hp3=>?_);obtain⟨w11,w12,rfl,⟨pv1,cv1,hv1,lv1,mv1,bl1,bc1,yc1,yq1,rfl,hL1⟩,hes1⟩:=hp3;unfold bG;refine Za rfl (Zz rfl (Zz rfl (Zz rfl (Zu rfl Tf.z42 rfl (fun q1=>bL rfl rfl rfl rfl Tf.s42 Ya Ya (cY.head) (gE hL1) trivial (Zj rfl (Zj rfl (Zo (Zx (Zy (Zy ?_)))))))))));refine C.rg (Za rfl (dQ rfl rfl rfl rfl trivial (Zo (Zx (aH rfl (fun hc2=>?_) (fun hc2=>?_))))))
  ·exact(hc2 rfl).elim
  ·refine Zac (Zx (Zy (Zy (C.rg (Zk rfl Tf.f42_1 rfl (Zk rfl Tf.f32_4 rfl (Zn rfl Tf.a30 rfl (List.Mem.head _) rfl (aY rfl U30 rfl hL1.mks rfl rfl trivial (dO rfl rfl rfl rfl trivial (Zo (Zx ?_)))))))))));refine aH rfl (fun hc3=>?_) (fun hc3=>?_)
   ·refine Zy (C.rg (Zd rfl (fun D4 hD4=>tT _ (hV.up (hD4 _ Ye))) (Zj rfl (Zo (Zx (aC (Zad ?_)))))));exact Zc [_] rfl ⟨rfl,trivial⟩ (fun D hD=>rfl)
   ·have hmk:(aL ls).1.table.marks.length≤4:=by omega
    refine Zac (Zx (Zy (C.rg (Zk rfl Tf.f42_0 rfl (dU rfl Tf.a28 Tf.s28 rfl (List.Mem.head _) rfl rfl List.not_mem_nil rfl trivial (Zd rfl (fun D5 hD5=>HF (hL1.row.up (hD5 _ Ye)) hA1 hpp) (Za rfl (Zz rfl (Zz rfl (Zz rfl (Zj rfl ?_)))))))))));refine Zj rfl (Zj rfl (Zo (Zx (Zy (C.rg (Zk rfl Tf.f42_0 rfl (dU rfl Tf.a28 Tf.s28 rfl (List.Mem.head _) rfl rfl List.not_mem_nil rfl trivial (cW rfl rfl rfl (fun D6 hD6=>l8 (hL1.row.up (hD6 _ Ye)) hA1) rfl trivial (fun v6 D6 hD6 hp6=>?_)))))))));obtain⟨plv,rfl,hpl⟩:=hp6;have hvl:=FQ (aL ls).1.row;refine Za rfl (Zz rfl (Zz rfl (Zj rfl (Zj rfl (Zo (Zx (Zy (C.rg (Zk rfl Tf.f42_1 rfl (dU rfl Tf.a32 Tf.s32 rfl (List.Mem.head _) rfl rfl List.not_mem_nil rfl trivial (cW rfl rfl rfl (fun D7 hD7=>m9 (hL1.table.up (hD7 _ Ye)) hT1) rfl trivial (fun v7 D7 hD7 hp7=>?_))))))))))));obtain⟨bdv,rfl,hbd⟩:=hp7;have hbl:=Z7 hl3;refine Za rfl (Zz rfl (Zz rfl (Zj rfl (Zj rfl (Zo (Zx (Zy (Zy (C.rg (Za rfl (dQ rfl rfl rfl rfl trivial ?_)))))))))));refine Za rfl ?_;refine' eI [(false,3),(false,4),(false,5)] [(false,6),(false,7),(false,8),(false,9),(false,10),(false,11),(false,12),(false,13),(false,14),(false,15),(false,16),(false,17),(false,18),(false,19),(false,20),(false,21),(false,22),(false,23),(false,24)] (s:=80) (p:=83) rfl rfl (fun hg2=>?_) (fun hg2=>?_) ?_;rotate_left
    ·refine Zb rfl (dQ rfl rfl rfl rfl ⟨_,rfl,rfl⟩ (Zw rfl ?_));exact aF fun a w hh=>hh.cutK 2 rfl
    ·refine Zi rfl (Zi rfl (Zv rfl ?_));exact aF fun a w hh=>hh.cutK 2 rfl
    refine Za rfl ?_;refine' eI [(false,7),(false,8),(false,9)] [(false,10),(false,11),(false,12),(false,13),(false,14),(false,15),(false,16),(false,17),(false,18),(false,19),(false,20),(false,21),(false,22),(false,23),(false,24)] (s:=84) (p:=87) rfl rfl (fun hg3=>?_) (fun hg3=>?_) ?_;rotate_left
    ·refine Zb rfl (dQ rfl rfl rfl rfl ⟨_,rfl,rfl⟩ (Zw rfl ?_));exact aF fun a w hh=>hh.cutK 2 rfl
    ·refine Zi rfl (Zi rfl (Zv rfl ?_));exact aF fun a w hh=>hh.cutK 2 rfl
    refine Za rfl ?_;refine' eI [(false,11),(false,12),(false,13)] [(false,14),(false,15),(false,16),(false,17),(false,18),(false,19),(false,20),(false,21),(false,22),(false,23),(false,24)] (s:=88) (p:=91) rfl rfl (fun hg4=>?_) (fun hg4=>?_) ?_;rotate_left
    ·refine Zb rfl (x6 rfl rfl rfl rfl ⟨_,rfl,rfl⟩ (Zw rfl ?_));exact aF fun a w hh=>hh.cutK 2 rfl
    ·refine Zi rfl (Zi rfl (Zv rfl ?_));exact aF fun a w hh=>hh.cutK 2 rfl
    refine Za rfl ?_;refine' eI [(false,15),(false,16),(false,17),(false,18),(false,19)] [(false,20),(false,21),(false,22),(false,23),(false,24)] (s:=92) (p:=97) rfl rfl (fun hg5=>?_) (fun hg5=>?_) ?_;rotate_left
    ·refine Zb rfl (Zb rfl (aY rfl U25 rfl hpl rfl rfl ⟨_,rfl,rfl⟩ (kX rfl rfl rfl rfl ⟨_,rfl,rfl⟩ (Zw rfl ?_))));exact aF fun a w hh=>hh.cutK 4 rfl
    ·refine Zi rfl (Zi rfl (Zi rfl (Zi rfl (Zv rfl ?_))));exact aF fun a w hh=>hh.cutK 4 rfl
    refine Za rfl ?_;refine' eI [(false,21),(false,22),(false,23),(false,24)] [] (s:=98) (p:=102) rfl rfl (fun hg6=>?_) (fun hg6=>?_) ?_;rotate_left
    ·refine Zb rfl (aY rfl U29 rfl hbd rfl rfl ⟨_,rfl,rfl⟩ (dQ rfl rfl rfl rfl ⟨_,rfl,rfl⟩ (Zw rfl ?_)));exact aF fun a w hh=>hh.cutK 3 rfl
    ·refine Zi rfl (Zi rfl (Zi rfl (Zv rfl ?_)));exact aF fun a w hh=>hh.cutK 3 rfl
    refine Zo (Zx (aP rfl (fun hc4=>?_) (fun hc4=>?_)))
    ·exact absurd hc4 (by rw[hvl,hbl];simp;omega)
    ·refine Zac (Zx (Zy (C.rg (Zj rfl (Zo (Zx (QK (γ:=Unit) (fun _=>True) (fun _=>[(15,.int .i64 (cD (aL ls).1.row p:Int)),(13,bdv),(8,.int .i64 (p:Int)),(5,.pointer (some ⟨q1,0,none⟩)),(1,.int .u8 (hn:Int)),(0,lv)]) (fun _=>[(q1,.cells (bG (aL ls).1 pv1 cv1 hv1 lv1 mv1 bl1 bc1 yc1 yq1).toArray 42 (0,0))]) (fun _=>[D7,D6,D3,D70,D901,D]) ?_ ?_)))))))
     ·refine Zy (C.rg (Za rfl (Za rfl (aJ rfl U25 Tf.s3 rfl hpl rfl Yd (OP hpn) rfl trivial (fun b1 o1 cs1 hr1 hcl1 hA1=>?_)))));obtain rfl:cs1=[.int .i64 _]:=hr1;refine Zg 0 rfl Tf.a3 rfl hA1 rfl (eL rfl rfl rfl rfl trivial (Zo (Zx (aH rfl (fun hc5=>?_) (fun hc5=>?_)))))
      ·have hsn:(cD (aL ls).1.row p:Int)=0:=by unfold cD;rw[if_pos (by rw[Int.toNat_natCast]at hc5;exact hc5)];rfl
       refine C.rg (Zj rfl (Zo (x8 ?_)));exact fun a w hh=>⟨(),trivial,hh.weak ⟨(by rw[hsn];rfl),rfl,rfl,rfl,rfl,rfl,trivial⟩ (List.Sublist.refl _) (fun D0 h=>⟨D0,h,Le.refl D0⟩)⟩
      ·have hsn:(cD (aL ls).1.row p:Int)=1:=by unfold cD;rw[if_neg (by rw[Int.toNat_natCast]at hc5;exact hc5)];rfl
       refine Zac (x8 ?_);exact fun a w hh=>⟨(),trivial,hh.weak ⟨(by rw[hsn];rfl),rfl,rfl,rfl,rfl,rfl,trivial⟩ (List.Sublist.refl _) (fun D0 h=>⟨D0,h,Le.refl D0⟩)⟩
     rintro _ -;refine Zy (C.rg (Za rfl (vZ rfl U5 U3 rfl Yf rfl trivial (T5 rfl rfl rfl Yd Yd Yf rfl trivial (Zj rfl (Zo (Zx (Zy ?_))))))));rw[hk];refine wE [] 6 [true,false,true,true,true,true,true,true,true,true,true,true,true,true,true,true,true,true,true,true,false,false,false,false] [.forkN [1,3,4,7,8,9,10,11,12,13,14,15,16,17,18] 0 [5,19] (JK [(0,.forkN [] 2 [5,19] (JK [(2,.fork [] 5 (.fork [] 6 (.fin [19]) 19 (.fin [6])) 19 (.fin [5,6])),(5,.fork [] 2 (.fork [] 6 (.fin [19]) 19 (.fin [6])) 19 (.fin [2,6])),(19,.fork [] 2 (.fin [5,6]) 5 (.fin [2,6]))])),(5,.fork [] 0 (.fork [] 2 (.fork [] 6 (.fin [19]) 19 (.fin [6])) 19 (.fin [2,6])) 19 (.fin [0,2,6])),(19,.fork [] 0 (.fork [] 2 (.fin [5,6]) 5 (.fin [2,6])) 5 (.fin [0,2,6]))]),.fin [20,21,22,23]] Tf.follows (fun _ _ _ h=>dI (P:=Tryz.prog) (fn:=Tryz.f3) _ _ _ h) Yg (KH (γ:=Value×aB×Value×aA) (fun g=>bC 9 1 g.1 ls.length (ls.map Value.string) g.2.1∧Sl g.2.2.2 RI 1 g.2.2.1 [(k:Int),(k:Int),(C2.cO (aL ls).1.table k).1,(C2.cO (aL ls).1.table k).2]) (fun g=>[(113,g.1),(117,.string (cA (aL ls).1 p)),(130,g.2.2.1),(5,.pointer (some ⟨q1,0,none⟩)),(0,lv)]) (fun g=>g.2.1++[(q1,.cells (bG (aL ls).1 pv1 cv1 hv1 lv1 mv1 bl1 bc1 yc1 yq1).toArray 42 (0,0))]) (fun g=>[g.2.2.2,D7,D6,D3,D70,D901,D]) [.forkN [1,3,4,7,8,9,10,11,12,13,14,15,16,17,18] 0 [5,19] (JK [(0,.forkN [] 2 [5,19] (JK [(2,.fork [] 5 (.fork [] 6 (.fin [19]) 19 (.fin [6])) 19 (.fin [5,6])),(5,.fork [] 2 (.fork [] 6 (.fin [19]) 19 (.fin [6])) 19 (.fin [2,6])),(19,.fork [] 2 (.fin [5,6]) 5 (.fin [2,6]))])),(5,.fork [] 0 (.fork [] 2 (.fork [] 6 (.fin [19]) 19 (.fin [6])) 19 (.fin [2,6])) 19 (.fin [0,2,6])),(19,.fork [] 0 (.fork [] 2 (.fin [5,6]) 5 (.fin [2,6])) 5 (.fin [0,2,6]))])] [.fin [20,21,22,23]] rfl ?_ ?_)
     ·refine O1 (vL [(false,1),(true,3),(true,4),(true,7),(true,8),(true,9),(true,10),(true,11),(true,12),(true,13),(true,14),(true,15),(true,16),(true,17),(true,18)] rfl (Za rfl (Za rfl (Za rfl (Za rfl (Za rfl (Za rfl (Za rfl (aJ rfl U29 Tf.s55 rfl hbd rfl Yd (B0 hl3 hk4) rfl trivial (fun b2 o2 cs2 hr2 hcl2 hA2=>?_))))))))));have e2:cs2=_:=hr2;subst e2;refine Zk rfl Tf.f55_0 rfl (Zg 0 rfl Tf.a3 rfl hA2 rfl (Za rfl (Za rfl (aJ rfl U29 Tf.s55 rfl hbd rfl Yd (B0 hl3 hk4) rfl trivial (fun b3 o3 cs3 hr3 hcl3 hA3=>?_)))));have e3:cs3=_:=hr3;subst e3;refine Zk rfl Tf.f55_1 rfl (Zg 1 rfl Tf.a3 rfl hA3 rfl ?_);refine Zo (lF true rfl rfl ?_ (lF true rfl rfl ?_ (lF true rfl rfl ?_ (V1))))
      ·refine Zm rfl U22 Tf.s9 Tf.z9 rfl rfl rfl rfl .nil (fun b902 D902 hD902 hA902=>Zo (vL [] rfl ?_));refine Zo (lF true rfl rfl ?_ (lF true rfl rfl ?_ (lF true rfl rfl ?_ (V1))))
       ·refine aS (A:=[]) (ν:=[]) (B:=[(_,_)]) rfl U22 rfl rfl Tf.s9 Tf.z9 rfl Tf.i9 rfl rfl rfl bC.nil (iG.strs hS) Ye Yq rfl (dV _) Yd Yp rfl trivial (fun v74 ν74 hax74=>?_);have ha74:bC 9 1 v74 (ls).length ((ls).map Value.string) ν74:=by simpa using hax74
        refine Zo (dS [] rfl (Zo (gJ true true rfl rfl ?_ ?_)))
        ·refine Zm rfl U25 Tf.s3 Tf.z3 rfl rfl rfl rfl (.cons rfl rfl (.cons rfl rfl .nil)) (fun b903 D903 hD903 hA903=>?_);have hS903:=Sl.ofInts (l:=[_,_]) (n:=2) (cap:=2) hA903 rfl Yd Yd;refine Zo (dS [] rfl (Zo (gJ true true rfl rfl ?_ ?_)))
         ·refine Zd rfl (fun D8 hD8=>fM jR _ [(p:Int),(cD (aL ls).1.row p:Int)] _ ((by assumption:Sl _ RI 1 _ [(p:Int),(cD (aL ls).1.row p:Int)]).up RI.up (hD8 _ Ye)) Ye Yz Yj) (Zo (cE [(true,19)] rfl (Zm rfl U25 Tf.s3 Tf.z3 rfl rfl rfl rfl (.cons rfl rfl (.cons rfl rfl (.cons rfl rfl (.cons rfl rfl .nil)))) (fun b904 D904 hD904 hA904=>?_))));have hS904:=Sl.ofInts (l:=[_,_,_,_]) (n:=4) (cap:=4) hA904 rfl Yd Yd;refine Zo ?_;exact fun a w hh=>⟨(v74,ν74,_,_),⟨ha74,Yl⟩,hh.weak C.rs (List.Sublist.refl _) Yh⟩
         ·refine Zm rfl U25 Tf.s3 Tf.z3 rfl rfl rfl rfl (.cons rfl rfl (.cons rfl rfl (.cons rfl rfl (.cons rfl rfl .nil)))) (fun b904 D904 hD904 hA904=>?_);have hS904:=Sl.ofInts (l:=[_,_,_,_]) (n:=4) (cap:=4) hA904 rfl Yd Yd;refine Zo (cE [(true,6)] rfl (Zd rfl (fun D8 hD8=>fM jR _ [(p:Int),(cD (aL ls).1.row p:Int)] _ ((by assumption:Sl _ RI 1 _ [(p:Int),(cD (aL ls).1.row p:Int)]).up RI.up (hD8 _ Ye)) Ye Yz Yj) (Zo ?_)));exact fun a w hh=>⟨(v74,ν74,_,_),⟨ha74,Yl⟩,hh.weak C.rs (List.Sublist.refl _) Yh⟩
        ·refine Zm rfl U25 Tf.s3 Tf.z3 rfl rfl rfl rfl (.cons rfl rfl (.cons rfl rfl (.cons rfl rfl (.cons rfl rfl .nil)))) (fun b903 D903 hD903 hA903=>?_);have hS903:=Sl.ofInts (l:=[_,_,_,_]) (n:=4) (cap:=4) hA903 rfl Yd Yd;refine Zo (cE [(true,5),(true,6)] rfl (Zm rfl U25 Tf.s3 Tf.z3 rfl rfl rfl rfl (.cons rfl rfl (.cons rfl rfl .nil)) (fun b904 D904 hD904 hA904=>?_)));have hS904:=Sl.ofInts (l:=[_,_]) (n:=2) (cap:=2) hA904 rfl Yd Yd;refine Zd rfl (fun D8 hD8=>fM jR _ [(p:Int),(cD (aL ls).1.row p:Int)] _ ((by assumption:Sl _ RI 1 _ [(p:Int),(cD (aL ls).1.row p:Int)]).up RI.up (hD8 _ Ye)) Ye Yz Yj) (Zo ?_);exact fun a w hh=>⟨(v74,ν74,_,_),⟨ha74,Yl⟩,hh.weak C.rs (List.Sublist.refl _) Yh⟩
       ·refine Zm rfl U25 Tf.s3 Tf.z3 rfl rfl rfl rfl (.cons rfl rfl (.cons rfl rfl .nil)) (fun b903 D903 hD903 hA903=>?_);have hS903:=Sl.ofInts (l:=[_,_]) (n:=2) (cap:=2) hA903 rfl Yd Yd;refine Zo (dS [] rfl (Zo (gJ true true rfl rfl ?_ ?_)))
        ·refine aS (A:=[]) (ν:=[]) (B:=[(_,_)]) rfl U22 rfl rfl Tf.s9 Tf.z9 rfl Tf.i9 rfl rfl rfl bC.nil (iG.strs hS) Ye Yq rfl (dV _) Yd Yp rfl trivial (fun v74 ν74 hax74=>?_);have ha74:bC 9 1 v74 (ls).length ((ls).map Value.string) ν74:=by simpa using hax74
         refine Zo (dS [] rfl (Zo (gJ true true rfl rfl ?_ ?_)))
         ·refine Zd rfl (fun D8 hD8=>fM jR _ [(p:Int),(cD (aL ls).1.row p:Int)] _ ((by assumption:Sl _ RI 1 _ [(p:Int),(cD (aL ls).1.row p:Int)]).up RI.up (hD8 _ Ye)) Ye Yz Yj) (Zo (cE [(true,19)] rfl (Zm rfl U25 Tf.s3 Tf.z3 rfl rfl rfl rfl (.cons rfl rfl (.cons rfl rfl (.cons rfl rfl (.cons rfl rfl .nil)))) (fun b904 D904 hD904 hA904=>?_))));have hS904:=Sl.ofInts (l:=[_,_,_,_]) (n:=4) (cap:=4) hA904 rfl Yd Yd;refine Zo ?_;exact fun a w hh=>⟨(v74,ν74,_,_),⟨ha74,Yl⟩,hh.weak C.rs (List.Sublist.refl _) Yh⟩
         ·refine Zm rfl U25 Tf.s3 Tf.z3 rfl rfl rfl rfl (.cons rfl rfl (.cons rfl rfl (.cons rfl rfl (.cons rfl rfl .nil)))) (fun b904 D904 hD904 hA904=>?_);have hS904:=Sl.ofInts (l:=[_,_,_,_]) (n:=4) (cap:=4) hA904 rfl Yd Yd;refine Zo (cE [(true,6)] rfl (Zd rfl (fun D8 hD8=>fM jR _ [(p:Int),(cD (aL ls).1.row p:Int)] _ ((by assumption:Sl _ RI 1 _ [(p:Int),(cD (aL ls).1.row p:Int)]).up RI.up (hD8 _ Ye)) Ye Yz Yj) (Zo ?_)));exact fun a w hh=>⟨(v74,ν74,_,_),⟨ha74,Yl⟩,hh.weak C.rs (List.Sublist.refl _) Yh⟩
        ·refine Zm rfl U25 Tf.s3 Tf.z3 rfl rfl rfl rfl (.cons rfl rfl (.cons rfl rfl (.cons rfl rfl (.cons rfl rfl .nil)))) (fun b904 D904 hD904 hA904=>?_);have hS904:=Sl.ofInts (l:=[_,_,_,_]) (n:=4) (cap:=4) hA904 rfl Yd Yd;refine Zo (cE [(true,2),(true,6)] rfl (aS (A:=[]) (ν:=[]) (B:=[(_,_)]) rfl U22 rfl rfl Tf.s9 Tf.z9 rfl Tf.i9 rfl rfl rfl bC.nil (iG.strs hS) Ye Yq rfl (dV _) Yd Yp rfl trivial (fun v74 ν74 hax74=>?_)));have ha74:bC 9 1 v74 (ls).length ((ls).map Value.string) ν74:=by simpa using hax74
         refine Zd rfl (fun D8 hD8=>fM jR _ [(p:Int),(cD (aL ls).1.row p:Int)] _ ((by assumption:Sl _ RI 1 _ [(p:Int),(cD (aL ls).1.row p:Int)]).up RI.up (hD8 _ Ye)) Ye Yz Yj) (Zo ?_);exact fun a w hh=>⟨(v74,ν74,_,_),⟨ha74,Yl⟩,hh.weak C.rs (List.Sublist.refl _) Yh⟩
       ·refine Zm rfl U25 Tf.s3 Tf.z3 rfl rfl rfl rfl (.cons rfl rfl (.cons rfl rfl (.cons rfl rfl (.cons rfl rfl .nil)))) (fun b903 D903 hD903 hA903=>?_);have hS903:=Sl.ofInts (l:=[_,_,_,_]) (n:=4) (cap:=4) hA903 rfl Yd Yd;refine Zo (dS [] rfl (Zo (gJ true true rfl rfl ?_ ?_)))
        ·refine aS (A:=[]) (ν:=[]) (B:=[(_,_)]) rfl U22 rfl rfl Tf.s9 Tf.z9 rfl Tf.i9 rfl rfl rfl bC.nil (iG.strs hS) Ye Yq rfl (dV _) Yd Yp rfl trivial (fun v74 ν74 hax74=>?_);have ha74:bC 9 1 v74 (ls).length ((ls).map Value.string) ν74:=by simpa using hax74
         refine Zo (cE [(true,5),(true,6)] rfl (Zm rfl U25 Tf.s3 Tf.z3 rfl rfl rfl rfl (.cons rfl rfl (.cons rfl rfl .nil)) (fun b904 D904 hD904 hA904=>?_)));have hS904:=Sl.ofInts (l:=[_,_]) (n:=2) (cap:=2) hA904 rfl Yd Yd;refine Zd rfl (fun D8 hD8=>fM jR _ [(p:Int),(cD (aL ls).1.row p:Int)] _ ((by assumption:Sl _ RI 1 _ [(p:Int),(cD (aL ls).1.row p:Int)]).up RI.up (hD8 _ Ye)) Ye Yz Yj) (Zo ?_);exact fun a w hh=>⟨(v74,ν74,_,_),⟨ha74,Yl⟩,hh.weak C.rs (List.Sublist.refl _) Yh⟩
        ·refine Zm rfl U25 Tf.s3 Tf.z3 rfl rfl rfl rfl (.cons rfl rfl (.cons rfl rfl .nil)) (fun b904 D904 hD904 hA904=>?_);have hS904:=Sl.ofInts (l:=[_,_]) (n:=2) (cap:=2) hA904 rfl Yd Yd;refine Zo (cE [(true,2),(true,6)] rfl (aS (A:=[]) (ν:=[]) (B:=[(_,_)]) rfl U22 rfl rfl Tf.s9 Tf.z9 rfl Tf.i9 rfl rfl rfl bC.nil (iG.strs hS) Ye Yq rfl (dV _) Yd Yp rfl trivial (fun v74 ν74 hax74=>?_)));have ha74:bC 9 1 v74 (ls).length ((ls).map Value.string) ν74:=by simpa using hax74
         refine Zd rfl (fun D8 hD8=>fM jR _ [(p:Int),(cD (aL ls).1.row p:Int)] _ ((by assumption:Sl _ RI 1 _ [(p:Int),(cD (aL ls).1.row p:Int)]).up RI.up (hD8 _ Ye)) Ye Yz Yj) (Zo ?_);exact fun a w hh=>⟨(v74,ν74,_,_),⟨ha74,Yl⟩,hh.weak C.rs (List.Sublist.refl _) Yh⟩
      ·refine Zm rfl U25 Tf.s3 Tf.z3 rfl rfl rfl rfl (.cons rfl rfl (.cons rfl rfl .nil)) (fun b902 D902 hD902 hA902=>?_);have hS902:=Sl.ofInts (l:=[_,_]) (n:=2) (cap:=2) hA902 rfl Yd Yd;refine Zo (dS [] rfl (Zo (gJ true true rfl rfl ?_ ?_)))
       ·refine Zm rfl U22 Tf.s9 Tf.z9 rfl rfl rfl rfl .nil (fun b903 D903 hD903 hA903=>Zo (dS [] rfl (Zo (gJ true true rfl rfl ?_ ?_))))
        ·refine aS (A:=[]) (ν:=[]) (B:=[(_,_)]) rfl U22 rfl rfl Tf.s9 Tf.z9 rfl Tf.i9 rfl rfl rfl bC.nil (iG.strs hS) Ye Yq rfl (dV _) Yd Yp rfl trivial (fun v74 ν74 hax74=>?_);have ha74:bC 9 1 v74 (ls).length ((ls).map Value.string) ν74:=by simpa using hax74
         refine Zo (dS [] rfl (Zo (gJ true true rfl rfl ?_ ?_)))
         ·refine Zd rfl (fun D8 hD8=>fM jR _ [(p:Int),(cD (aL ls).1.row p:Int)] _ ((by assumption:Sl _ RI 1 _ [(p:Int),(cD (aL ls).1.row p:Int)]).up RI.up (hD8 _ Ye)) Ye Yz Yj) (Zo (cE [(true,19)] rfl (Zm rfl U25 Tf.s3 Tf.z3 rfl rfl rfl rfl (.cons rfl rfl (.cons rfl rfl (.cons rfl rfl (.cons rfl rfl .nil)))) (fun b904 D904 hD904 hA904=>?_))));have hS904:=Sl.ofInts (l:=[_,_,_,_]) (n:=4) (cap:=4) hA904 rfl Yd Yd;refine Zo ?_;exact fun a w hh=>⟨(v74,ν74,_,_),⟨ha74,Yl⟩,hh.weak C.rs (List.Sublist.refl _) Yh⟩
         ·refine Zm rfl U25 Tf.s3 Tf.z3 rfl rfl rfl rfl (.cons rfl rfl (.cons rfl rfl (.cons rfl rfl (.cons rfl rfl .nil)))) (fun b904 D904 hD904 hA904=>?_);have hS904:=Sl.ofInts (l:=[_,_,_,_]) (n:=4) (cap:=4) hA904 rfl Yd Yd;refine Zo (cE [(true,6)] rfl (Zd rfl (fun D8 hD8=>fM jR _ [(p:Int),(cD (aL ls).1.row p:Int)] _ ((by assumption:Sl _ RI 1 _ [(p:Int),(cD (aL ls).1.row p:Int)]).up RI.up (hD8 _ Ye)) Ye Yz Yj) (Zo ?_)));exact fun a w hh=>⟨(v74,ν74,_,_),⟨ha74,Yl⟩,hh.weak C.rs (List.Sublist.refl _) Yh⟩
        ·refine Zm rfl U25 Tf.s3 Tf.z3 rfl rfl rfl rfl (.cons rfl rfl (.cons rfl rfl (.cons rfl rfl (.cons rfl rfl .nil)))) (fun b904 D904 hD904 hA904=>?_);have hS904:=Sl.ofInts (l:=[_,_,_,_]) (n:=4) (cap:=4) hA904 rfl Yd Yd;refine Zo (cE [(true,2),(true,6)] rfl (aS (A:=[]) (ν:=[]) (B:=[(_,_)]) rfl U22 rfl rfl Tf.s9 Tf.z9 rfl Tf.i9 rfl rfl rfl bC.nil (iG.strs hS) Ye Yq rfl (dV _) Yd Yp rfl trivial (fun v74 ν74 hax74=>?_)));have ha74:bC 9 1 v74 (ls).length ((ls).map Value.string) ν74:=by simpa using hax74
         refine Zd rfl (fun D8 hD8=>fM jR _ [(p:Int),(cD (aL ls).1.row p:Int)] _ ((by assumption:Sl _ RI 1 _ [(p:Int),(cD (aL ls).1.row p:Int)]).up RI.up (hD8 _ Ye)) Ye Yz Yj) (Zo ?_);exact fun a w hh=>⟨(v74,ν74,_,_),⟨ha74,Yl⟩,hh.weak C.rs (List.Sublist.refl _) Yh⟩
       ·refine Zm rfl U25 Tf.s3 Tf.z3 rfl rfl rfl rfl (.cons rfl rfl (.cons rfl rfl (.cons rfl rfl (.cons rfl rfl .nil)))) (fun b903 D903 hD903 hA903=>?_);have hS903:=Sl.ofInts (l:=[_,_,_,_]) (n:=4) (cap:=4) hA903 rfl Yd Yd;refine Zo (cE [(true,0),(true,2),(true,6)] rfl (Zm rfl U22 Tf.s9 Tf.z9 rfl rfl rfl rfl .nil (fun b904 D904 hD904 hA904=>aS (A:=[]) (ν:=[]) (B:=[(_,_)]) rfl U22 rfl rfl Tf.s9 Tf.z9 rfl Tf.i9 rfl rfl rfl bC.nil (iG.strs hS) Ye Yq rfl (dV _) Yd Yp rfl trivial (fun v74 ν74 hax74=>?_))));have ha74:bC 9 1 v74 (ls).length ((ls).map Value.string) ν74:=by simpa using hax74
        refine Zd rfl (fun D8 hD8=>fM jR _ [(p:Int),(cD (aL ls).1.row p:Int)] _ ((by assumption:Sl _ RI 1 _ [(p:Int),(cD (aL ls).1.row p:Int)]).up RI.up (hD8 _ Ye)) Ye Yz Yj) (Zo ?_);exact fun a w hh=>⟨(v74,ν74,_,_),⟨ha74,Yl⟩,hh.weak C.rs (List.Sublist.refl _) Yh⟩
      ·refine Zm rfl U25 Tf.s3 Tf.z3 rfl rfl rfl rfl (.cons rfl rfl (.cons rfl rfl (.cons rfl rfl (.cons rfl rfl .nil)))) (fun b902 D902 hD902 hA902=>?_);have hS902:=Sl.ofInts (l:=[_,_,_,_]) (n:=4) (cap:=4) hA902 rfl Yd Yd;refine Zo (dS [] rfl (Zo (gJ true true rfl rfl ?_ ?_)))
       ·refine Zm rfl U22 Tf.s9 Tf.z9 rfl rfl rfl rfl .nil (fun b903 D903 hD903 hA903=>Zo (dS [] rfl (Zo (gJ true true rfl rfl ?_ ?_))))
        ·refine aS (A:=[]) (ν:=[]) (B:=[(_,_)]) rfl U22 rfl rfl Tf.s9 Tf.z9 rfl Tf.i9 rfl rfl rfl bC.nil (iG.strs hS) Ye Yq rfl (dV _) Yd Yp rfl trivial (fun v74 ν74 hax74=>?_);have ha74:bC 9 1 v74 (ls).length ((ls).map Value.string) ν74:=by simpa using hax74
         refine Zo (cE [(true,5),(true,6)] rfl (Zm rfl U25 Tf.s3 Tf.z3 rfl rfl rfl rfl (.cons rfl rfl (.cons rfl rfl .nil)) (fun b904 D904 hD904 hA904=>?_)));have hS904:=Sl.ofInts (l:=[_,_]) (n:=2) (cap:=2) hA904 rfl Yd Yd;refine Zd rfl (fun D8 hD8=>fM jR _ [(p:Int),(cD (aL ls).1.row p:Int)] _ ((by assumption:Sl _ RI 1 _ [(p:Int),(cD (aL ls).1.row p:Int)]).up RI.up (hD8 _ Ye)) Ye Yz Yj) (Zo ?_);exact fun a w hh=>⟨(v74,ν74,_,_),⟨ha74,Yl⟩,hh.weak C.rs (List.Sublist.refl _) Yh⟩
        ·refine Zm rfl U25 Tf.s3 Tf.z3 rfl rfl rfl rfl (.cons rfl rfl (.cons rfl rfl .nil)) (fun b904 D904 hD904 hA904=>?_);have hS904:=Sl.ofInts (l:=[_,_]) (n:=2) (cap:=2) hA904 rfl Yd Yd;refine Zo (cE [(true,2),(true,6)] rfl (aS (A:=[]) (ν:=[]) (B:=[(_,_)]) rfl U22 rfl rfl Tf.s9 Tf.z9 rfl Tf.i9 rfl rfl rfl bC.nil (iG.strs hS) Ye Yq rfl (dV _) Yd Yp rfl trivial (fun v74 ν74 hax74=>?_)));have ha74:bC 9 1 v74 (ls).length ((ls).map Value.string) ν74:=by simpa using hax74
         refine Zd rfl (fun D8 hD8=>fM jR _ [(p:Int),(cD (aL ls).1.row p:Int)] _ ((by assumption:Sl _ RI 1 _ [(p:Int),(cD (aL ls).1.row p:Int)]).up RI.up (hD8 _ Ye)) Ye Yz Yj) (Zo ?_);exact fun a w hh=>⟨(v74,ν74,_,_),⟨ha74,Yl⟩,hh.weak C.rs (List.Sublist.refl _) Yh⟩
       ·refine Zm rfl U25 Tf.s3 Tf.z3 rfl rfl rfl rfl (.cons rfl rfl (.cons rfl rfl .nil)) (fun b903 D903 hD903 hA903=>?_);have hS903:=Sl.ofInts (l:=[_,_]) (n:=2) (cap:=2) hA903 rfl Yd Yd;refine Zo (cE [(true,0),(true,2),(true,6)] rfl (Zm rfl U22 Tf.s9 Tf.z9 rfl rfl rfl rfl .nil (fun b904 D904 hD904 hA904=>aS (A:=[]) (ν:=[]) (B:=[(_,_)]) rfl U22 rfl rfl Tf.s9 Tf.z9 rfl Tf.i9 rfl rfl rfl bC.nil (iG.strs hS) Ye Yq rfl (dV _) Yd Yp rfl trivial (fun v74 ν74 hax74=>?_))));have ha74:bC 9 1 v74 (ls).length ((ls).map Value.string) ν74:=by simpa using hax74
        refine Zd rfl (fun D8 hD8=>fM jR _ [(p:Int),(cD (aL ls).1.row p:Int)] _ ((by assumption:Sl _ RI 1 _ [(p:Int),(cD (aL ls).1.row p:Int)]).up RI.up (hD8 _ Ye)) Ye Yz Yj) (Zo ?_);exact fun a w hh=>⟨(v74,ν74,_,_),⟨ha74,Yl⟩,hh.weak C.rs (List.Sublist.refl _) Yh⟩
     rintro⟨v74,ν74,nv,Dn⟩ ⟨ha74,hS4⟩;dsimp only at ha74 hS4 ⊢
     refine xK [(false,20),(false,21),(false,22),(false,23)] rfl (Zd rfl (fun D9 hD9=>fM AK _ [(k:Int),(k:Int),(C2.cO (aL ls).1.table k).1,(C2.cO (aL ls).1.table k).2] _ (hS4.up RI.up (hD9 _ Ye)) Ye Yz (by intro n hn;simp only[List.mem_cons,List.not_mem_nil,or_false]at hn;rcases hn with rfl|rfl|rfl|rfl<;>omega)) (Zm rfl U22 Tf.s9 Tf.z9 rfl rfl rfl rfl (.cons rfl rfl (.cons rfl rfl .nil)) (fun b905 D905 hD905 hA905=>aS (A:=[]) (ν:=ν74) (B:=[(_,_)]) rfl U22 rfl rfl Tf.s9 Tf.z9 rfl Tf.i9 rfl rfl rfl ha74 (iG.lit Yl) Ye rfl Yq Ym Yd (Or.inl rfl) rfl trivial (fun v75 ν75 ha75=>?_))));have hap75:bC 9 1 v75 (ls++[cA (aL ls).1 p,cG (aL ls).1 k]).length ((ls++[cA (aL ls).1 p,cG (aL ls).1 k]).map Value.string) ν75:=by rw[List.length_append,List.map_append];exact ha75
     refine Zj rfl (Zo (yK (Zx (Zy (xS (A:=[]) (B:=[(_,_)]) hap75 rfl (fun D76 hD76 hF76=>?_))))));have hall:Sl D76 RS 1 v75 (ls++[cA (aL ls).1 p,cG (aL ls).1 k]):=hF76.strs rfl Yaa;have hplay:=KD hpn Yd (k:=k) Yd Yd hmk;have hf2:cT (ls++[cA (aL ls).1 p,cG (aL ls).1 k])=0:=CS hf1 h37 Yd Yd Yd Yd Yd Yd;have hle2:(aL (ls++[cA (aL ls).1 p,cG (aL ls).1 k])).2.length=ls.length+2:=by rw[H4];simp
     have he2:∀i,ls.length≤i→i<ls.length+2→(aL (ls++[cA (aL ls).1 p,cG (aL ls).1 k])).2[i]?= some 0:=fun i h1 h2=>by rw[hplay];exact HZ (H4 ls) h1 h2
     have hT2:=(pC (mB (ls++[cA (aL ls).1 p,cG (aL ls).1 k]))).2;have hl32:(aL (ls++[cA (aL ls).1 p,cG (aL ls).1 k])).1.table.last=3:=by rw[hplay];exact hl3
     have hlv:(aL (ls++[cA (aL ls).1 p,cG (aL ls).1 k])).1.table.levels=(aL ls).1.table.levels:=by rw[hplay];rfl
     have hrw:(aL (ls++[cA (aL ls).1 p,cG (aL ls).1 k])).1.row.places.length=(aL ls).1.row.places.length:=by rw[hplay];exact i6 _ _ _
     have hdr:C2.M8 (aL (ls++[cA (aL ls).1 p,cG (aL ls).1 k])).1.table 0 3=C2.M8 (aL ls).1.table 0 3:=by rw[hplay];exact OY Yd
     have hre:∀n,C2.nU (aL (ls++[cA (aL ls).1 p,cG (aL ls).1 k])).1.table n=C2.nU (aL ls).1.table n:=fun n=>by rw[hplay];exact EH Yd
     have hch:=b8 hst hpn (k:=k);have htr:C1.truths (aL (ls++[cA (aL ls).1 p,cG (aL ls).1 k])).1.row=C1.truths (zV (aL ls).1 p k).row:=by rw[hplay]
     refine C.rg (Zm rfl U22 Tf.s9 Tf.z9 rfl rfl rfl rfl .nil (fun b906 D906 hD906 hA906=>Za rfl (aS (A:=[]) (ν:=[]) (B:=[(_,_)]) rfl U22 rfl rfl Tf.s9 Tf.z9 rfl Tf.i9 rfl rfl rfl bC.nil (iG.strs hall) Ye Yq rfl (dV _) Yaa (Or.inl rfl) rfl trivial (fun v77 ν77 ha77=>?_))));have hap77:bC 9 1 v77 ((ls++[cA (aL ls).1 p,cG (aL ls).1 k])).length (((ls++[cA (aL ls).1 p,cG (aL ls).1 k])).map Value.string) ν77:=by simpa using ha77
     refine tC (A:=[]) (B:=[(_,_)]) hap77 rfl (fun D77 hD77 hF77=>?_);have hq77:Sl D77 RS 1 v77 ((ls++[cA (aL ls).1 p,cG (aL ls).1 k])):=hF77.strs rfl Yaa;refine cW rfl rfl rfl (fun D10 hD10=>P2 (ls:=(ls++[cA (aL ls).1 p,cG (aL ls).1 k])) (hq77.up RS.up (hD10 _ Ye)) (hV.up (hD10 _ Ye)) hf2) rfl trivial (fun v10 D10 hD10 hp10=>?_);obtain⟨w21,w22,rfl,⟨pv2,cv2,hv2,lv2,mv2,bl2,bc2,yc2,yq2,rfl,hL2⟩,hes2⟩:=hp10;unfold bG;refine Za rfl (Zz rfl (Zz rfl (Zz rfl (Zu rfl Tf.z42 rfl (fun q2=>bL rfl rfl rfl rfl Tf.s42 Ya Ya (cY.head) (gE hL2) trivial (Zj rfl (Zj rfl (Zo (Zx (Zy (Zy ?_)))))))))));refine C.rg (Za rfl (dQ rfl rfl rfl rfl trivial (Za rfl ?_)));refine' eI [(false,3),(false,4),(false,5),(false,6),(false,7),(false,8)] [(false,9),(false,10),(false,11),(false,12),(false,13),(false,14),(false,15),(false,16),(false,17),(false,18),(false,19),(false,20),(false,21),(false,22),(false,23),(false,24),(false,25),(false,26),(false,27),(false,28),(false,29),(false,30),(false,31),(false,32),(false,33),(false,34),(false,35),(false,36),(false,37)] (s:=144) (p:=150) rfl rfl (fun hg7=>?_) (fun hg7=>?_) ?_;rotate_left
     ·refine Zb rfl (aY rfl U43 rfl hes2 rfl rfl ⟨_,rfl,rfl⟩ (Zb rfl (aY rfl U22 rfl hall rfl rfl ⟨_,rfl,rfl⟩ (dQ rfl rfl rfl rfl ⟨_,rfl,rfl⟩ (Zw rfl ?_)))));exact aF fun a w hh=>hh.cutK 5 rfl
     ·refine Zi rfl (Zi rfl (Zi rfl (Zi rfl (Zi rfl (Zv rfl ?_)))));exact aF fun a w hh=>hh.cutK 5 rfl
     refine Za rfl ?_;refine' eI [(false,10),(false,11),(false,12),(false,13),(false,14),(false,15),(false,16),(false,17)] [(false,18),(false,19),(false,20),(false,21),(false,22),(false,23),(false,24),(false,25),(false,26),(false,27),(false,28),(false,29),(false,30),(false,31),(false,32),(false,33),(false,34),(false,35),(false,36),(false,37)] (s:=151) (p:=159) rfl rfl (fun hg8=>?_) (fun hg8=>?_) ?_;rotate_left
     ·refine Zb rfl (Zb rfl (aY rfl U43 rfl hes2 rfl rfl ⟨_,rfl,rfl⟩ (fW rfl rfl rfl Yf rfl ⟨_,rfl,rfl⟩ (aJ rfl U43 Tf.s44 rfl hes2 rfl Yd (he2 _ Yd Yd) rfl ⟨_,rfl,rfl⟩ (fun b4 o4 cs4 hr4 hcl4 hA4=>?_)))));obtain rfl:cs4=[.int .i64 _]:=hr4;refine Zh 0 rfl Tf.a44 rfl hA4 rfl (dQ rfl rfl rfl rfl ⟨_,rfl,rfl⟩ (Zw rfl ?_));exact aF fun a w hh=>hh.cutK 7 rfl
     ·refine Zi rfl (Zi rfl (Zi rfl (Zi rfl (Zi rfl (Zi rfl (Zi rfl (Zv rfl ?_)))))));exact aF fun a w hh=>hh.cutK 7 rfl
     refine Za rfl ?_;refine' eI [(false,19),(false,20),(false,21),(false,22),(false,23),(false,24),(false,25),(false,26)] [(false,27),(false,28),(false,29),(false,30),(false,31),(false,32),(false,33),(false,34),(false,35),(false,36),(false,37)] (s:=160) (p:=168) rfl rfl (fun hg9=>?_) (fun hg9=>?_) ?_;rotate_left
     ·refine Zb rfl (Zb rfl (aY rfl U43 rfl Yl rfl rfl ⟨_,rfl,rfl⟩ (fW rfl rfl rfl Yf rfl ⟨_,rfl,rfl⟩ (aJ rfl U43 Tf.s44 rfl hes2 rfl Yd (he2 _ Yd Yd) rfl ⟨_,rfl,rfl⟩ (fun b5 o5 cs5 hr5 hcl5 hA5=>?_)))));obtain rfl:cs5=[.int .i64 _]:=hr5;refine Zh 0 rfl Tf.a44 rfl hA5 rfl (dQ rfl rfl rfl rfl ⟨_,rfl,rfl⟩ (Zw rfl ?_));exact aF fun a w hh=>hh.cutK 7 rfl
     ·refine Zi rfl (Zi rfl (Zi rfl (Zi rfl (Zi rfl (Zi rfl (Zi rfl (Zv rfl ?_)))))));exact aF fun a w hh=>hh.cutK 7 rfl
     refine Za rfl ?_;refine' eI [(false,28),(false,29),(false,30),(false,31),(false,32),(false,33),(false,34),(false,35),(false,36),(false,37)] [] (s:=169) (p:=179) rfl rfl (fun hg10=>?_) (fun hg10=>?_) ?_;rotate_left
     ·refine Zl rfl Tf.f42_1 rfl (Zl rfl Tf.f32_3 rfl (aU rfl Tf.a25 rfl (List.Mem.head _) rfl List.not_mem_nil rfl ⟨_,rfl,rfl⟩ (aY rfl U25 rfl hL2.lev rfl rfl ⟨_,rfl,rfl⟩ (Zl rfl Tf.f42_1 rfl (Zl rfl Tf.f32_3 rfl (aU rfl Tf.a25 rfl (List.Mem.tail _ (List.Mem.head _)) rfl List.not_mem_nil rfl ⟨_,rfl,rfl⟩ (aY rfl U25 rfl hL1.lev rfl rfl ⟨_,rfl,rfl⟩ (dQ rfl rfl rfl rfl ⟨_,rfl,rfl⟩ (Zw rfl ?_)))))))));exact aF fun a w hh=>hh.cutK 9 rfl
     ·refine Zi rfl (Zi rfl (Zi rfl (Zi rfl (Zi rfl (Zi rfl (Zi rfl (Zi rfl (Zi rfl (Zv rfl ?_)))))))));exact aF fun a w hh=>hh.cutK 9 rfl
     refine Zo (Zx (aP rfl (fun hc6=>?_) (fun hc6=>?_)))
     ·exact absurd hc6 (by rw[hle2,hlv];simp)
     ·refine Zac (Zx (Zy (C.rg (Zm rfl U22 Tf.s9 Tf.z9 rfl rfl rfl rfl .nil (fun b907 D907 hD907 hA907=>Za rfl (aS (A:=[]) (ν:=[]) (B:=[(_,_),(_,_)]) rfl U22 rfl rfl Tf.s9 Tf.z9 rfl Tf.i9 rfl rfl rfl bC.nil (iG.strs hS) Ye Yq rfl (dV _) Yd (Or.inl rfl) rfl trivial (fun v78 ν78 ha78=>?_)))))));have hap78:bC 9 1 v78 (ls).length ((ls).map Value.string) ν78:=by simpa using ha78
      refine tC (A:=[]) (B:=[(_,_),(_,_)]) hap78 rfl (fun D78 hD78 hF78=>?_);have hq78:Sl D78 RS 1 v78 (ls):=hF78.strs rfl Yd;refine Zd rfl (fun D11 hD11=>yI (ls:=ls) (hq78.up RS.up (hD11 _ Ye)) (hV.up (hD11 _ Ye)) hf1) (Za rfl (Zz rfl (Zz rfl (Zu rfl Tf.z56 rfl (fun q3=>bL rfl rfl rfl rfl Tf.s56 Ya Ya (cY.head) Ym trivial (Zj rfl (Zo (Zx (Zy (C.rg (Zm rfl U22 Tf.s9 Tf.z9 rfl rfl rfl rfl .nil (fun b908 D908 hD908 hA908=>?_))))))))))));refine Za rfl (aS (A:=[]) (ν:=[]) (B:=[(_,_),(_,_),(_,_)]) rfl U22 rfl rfl Tf.s9 Tf.z9 rfl Tf.i9 rfl rfl rfl bC.nil (iG.strs hall) Ye Yq rfl (dV _) Yaa (Or.inl rfl) rfl trivial (fun v79 ν79 ha79=>?_));have hap79:bC 9 1 v79 ((ls++[cA (aL ls).1 p,cG (aL ls).1 k])).length (((ls++[cA (aL ls).1 p,cG (aL ls).1 k])).map Value.string) ν79:=by simpa using ha79
      refine tC (A:=[]) (B:=[(_,_),(_,_),(_,_)]) hap79 rfl (fun D79 hD79 hF79=>?_);have hq79:Sl D79 RS 1 v79 ((ls++[cA (aL ls).1 p,cG (aL ls).1 k])):=hF79.strs rfl Yaa;refine Zd rfl (fun D12 hD12=>yI (ls:=(ls++[cA (aL ls).1 p,cG (aL ls).1 k])) (hq79.up RS.up (hD12 _ Ye)) (hV.up (hD12 _ Ye)) hf2) (Za rfl (Zz rfl (Zz rfl (Zu rfl Tf.z56 rfl (fun q4=>bL rfl rfl rfl rfl Tf.s56 Ya Ya (cY.head) Ym trivial (Zj rfl (Zo (Zx (Zy (C.rg (Zk rfl Tf.f42_1 rfl ?_)))))))))));refine dU rfl Tf.a32 Tf.s32 rfl (List.Mem.tail _ (List.Mem.tail _ (List.Mem.tail _ (List.Mem.head _)))) rfl rfl List.not_mem_nil rfl trivial (Zd rfl (fun D13 hD13=>t7 (hL1.table.up (hD13 _ Ye)) hT1 hl3) (Za rfl (Zz rfl (Zz rfl (Zj rfl (Zj rfl (Zo (Zx (Zy (C.rg (Zk rfl Tf.f42_1 rfl ?_)))))))))));refine dU rfl Tf.a32 Tf.s32 rfl (List.Mem.tail _ (List.Mem.tail _ (List.Mem.head _))) rfl rfl List.not_mem_nil rfl trivial (Zd rfl (fun D14 hD14=>t7 (hL2.table.up (hD14 _ Ye)) hT2 hl32) (Za rfl (Zz rfl (Zz rfl (Zj rfl (Zj rfl (Zo (Zx (Zy (Zy (C.rg ?_)))))))))));refine Za rfl (dQ rfl rfl rfl rfl trivial (Za rfl ?_));refine' eI [(false,3),(false,4),(false,5)] [(false,6),(false,7),(false,8),(false,9),(false,10),(false,11),(false,12),(false,13),(false,14),(false,15),(false,16),(false,17),(false,18),(false,19),(false,20),(false,21),(false,22),(false,23),(false,24),(false,25),(false,26),(false,27),(false,28),(false,29),(false,30),(false,31),(false,32)] (s:=208) (p:=211) rfl rfl (fun hg11=>?_) (fun hg11=>?_) ?_;rotate_left
      ·refine Zb rfl (dQ rfl rfl rfl rfl ⟨_,rfl,rfl⟩ (Zw rfl ?_));exact aF fun a w hh=>hh.cutK 2 rfl
      ·refine Zi rfl (Zi rfl (Zv rfl ?_));exact aF fun a w hh=>hh.cutK 2 rfl
      refine Za rfl ?_;refine' eI [(false,7),(false,8),(false,9),(false,10),(false,11),(false,12)] [(false,13),(false,14),(false,15),(false,16),(false,17),(false,18),(false,19),(false,20),(false,21),(false,22),(false,23),(false,24),(false,25),(false,26),(false,27),(false,28),(false,29),(false,30),(false,31),(false,32)] (s:=212) (p:=218) rfl rfl (fun hg12=>?_) (fun hg12=>?_) ?_;rotate_left
      ·refine Zl rfl Tf.f56_0 rfl (aU rfl Tf.a3 rfl (List.Mem.head _) rfl List.not_mem_nil rfl ⟨_,rfl,rfl⟩ (Zl rfl Tf.f56_0 rfl (aU rfl Tf.a3 rfl (List.Mem.tail _ (List.Mem.head _)) rfl List.not_mem_nil rfl ⟨_,rfl,rfl⟩ (x6 rfl rfl rfl rfl ⟨_,rfl,rfl⟩ (Zw rfl ?_)))));exact aF fun a w hh=>hh.cutK 5 rfl
      ·refine Zi rfl (Zi rfl (Zi rfl (Zi rfl (Zi rfl (Zv rfl ?_)))));exact aF fun a w hh=>hh.cutK 5 rfl
      refine Za rfl ?_;refine' eI [(false,14),(false,15),(false,16),(false,17),(false,18),(false,19)] [(false,20),(false,21),(false,22),(false,23),(false,24),(false,25),(false,26),(false,27),(false,28),(false,29),(false,30),(false,31),(false,32)] (s:=219) (p:=225) rfl rfl (fun hg13=>?_) (fun hg13=>?_) ?_;rotate_left
      ·refine Zl rfl Tf.f56_1 rfl (aU rfl Tf.a3 rfl (List.Mem.head _) rfl List.not_mem_nil rfl ⟨_,rfl,rfl⟩ (Zl rfl Tf.f56_1 rfl (aU rfl Tf.a3 rfl (List.Mem.tail _ (List.Mem.head _)) rfl List.not_mem_nil rfl ⟨_,rfl,rfl⟩ (dO rfl rfl rfl rfl ⟨_,rfl,rfl⟩ (Zw rfl ?_)))));exact aF fun a w hh=>hh.cutK 5 rfl
      ·refine Zi rfl (Zi rfl (Zi rfl (Zi rfl (Zi rfl (Zv rfl ?_)))));exact aF fun a w hh=>hh.cutK 5 rfl
      refine Za rfl ?_;refine' eI [(false,21),(false,22),(false,23)] [(false,24),(false,25),(false,26),(false,27),(false,28),(false,29),(false,30),(false,31),(false,32)] (s:=226) (p:=229) rfl rfl (fun hg14=>?_) (fun hg14=>?_) ?_;rotate_left
      ·refine Zb rfl (dQ rfl rfl rfl rfl ⟨_,rfl,rfl⟩ (Zw rfl ?_));exact aF fun a w hh=>hh.cutK 2 rfl
      ·refine Zi rfl (Zi rfl (Zv rfl ?_));exact aF fun a w hh=>hh.cutK 2 rfl
      refine Za rfl ?_;refine' eI [(false,25),(false,26),(false,27)] [(false,28),(false,29),(false,30),(false,31),(false,32)] (s:=230) (p:=233) rfl rfl (fun hg15=>?_) (fun hg15=>?_) ?_;rotate_left
      ·refine Zb rfl (dQ rfl rfl rfl rfl ⟨_,rfl,rfl⟩ (Zw rfl ?_));exact aF fun a w hh=>hh.cutK 2 rfl
      ·refine Zi rfl (Zi rfl (Zv rfl ?_));exact aF fun a w hh=>hh.cutK 2 rfl
      refine Za rfl ?_;refine' eI [(false,29),(false,30),(false,31),(false,32)] [] (s:=234) (p:=238) rfl rfl (fun hg16=>?_) (fun hg16=>?_) ?_;rotate_left
      ·refine Zb rfl (Zb rfl (dQ rfl rfl rfl rfl ⟨_,rfl,rfl⟩ (Zw rfl ?_)));exact aF fun a w hh=>hh.cutK 3 rfl
      ·refine Zi rfl (Zi rfl (Zi rfl (Zv rfl ?_)));exact aF fun a w hh=>hh.cutK 3 rfl
      refine Zo (Zx (aP rfl (fun hc7=>?_) (fun hc7=>?_)))
      ·exact absurd hc7 (by rw[hrw,hdr,htr];have:=hch.1;have:=hch.2;simp;omega)
      ·refine Zac (Zx (Zy (Zy (C.rg (Zj rfl (Zo (Zx (Zae (bS (γ:=Nat) (fun j=>(aL ls).1.table.levels.length-j) (fun j=>j≤(aL ls).1.table.levels.length) (fun j=>[(29,.int .i64 (j:Int))]) [(18,_),(5,_)] (fun j=>[D79,D908,D78,D907,D10,D77,D906,D76,D905,Dn,D7,D6,D3,D70,D901,D]) 0 Ye ⟨Yb,trivial⟩ C.rs (aG) ?_)))))))));rintro j h1;refine Zy (Zy (C.rg (Za rfl (Zk rfl Tf.f42_1 rfl (Zk rfl Tf.f32_3 rfl (Zn rfl Tf.a25 rfl (List.Mem.tail _ (List.Mem.tail _ (List.Mem.tail _ (List.Mem.head _)))) rfl (aY rfl U25 rfl hL1.lev rfl rfl trivial (Zaa rfl (Zo (Zx (aH rfl (fun hc8=>?_) (fun hc8=>?_))))))))))))
       ·have hjl:j<(aL ls).1.table.levels.length:=by omega
        have hjl2:j<(aL (ls++[cA (aL ls).1 p,cG (aL ls).1 k])).1.table.levels.length:=by rw[hlv];exact hjl
        refine Zac (Zx (Zy (Zae (Zy (C.rg (Zk rfl Tf.f42_1 rfl (dU rfl Tf.a32 Tf.s32 rfl (List.Mem.tail _ (List.Mem.tail _ (List.Mem.tail _ (List.Mem.head _)))) rfl rfl List.not_mem_nil rfl trivial (Za rfl (Zd rfl (fun D15 hD15=>H5 (hL1.table.up (hD15 _ Ye)) hT1 hjl) (Za rfl (Zz rfl ?_)))))))))));refine Zz rfl (Zu rfl Tf.z55 rfl (fun q5=>bL rfl rfl rfl rfl Tf.s55 Ya Ya (cY.head) Ym trivial (Zj rfl (Zo (Zx (Zy (C.rg (Zk rfl Tf.f42_1 rfl (dU rfl Tf.a32 Tf.s32 rfl (List.Mem.tail _ (List.Mem.tail _ (List.Mem.tail _ (List.Mem.head _)))) rfl rfl List.not_mem_nil rfl trivial (Za rfl (Zd rfl (fun D16 hD16=>H5 (hL2.table.up (hD16 _ Ye)) hT2 hjl2) ?_)))))))))));refine Za rfl (Zz rfl (Zz rfl (Zu rfl Tf.z55 rfl (fun q6=>bL rfl rfl rfl rfl Tf.s55 Ya Ya (cY.head) Ym trivial (Zj rfl (Zo (Zx (Zy (C.rg (Za rfl (dQ rfl rfl rfl rfl trivial ?_)))))))))));refine Za rfl ?_;refine' eI [(false,3),(false,4),(false,5)] [(false,6),(false,7),(false,8),(false,9),(false,10)] (s:=263) (p:=266) rfl rfl (fun hg17=>?_) (fun hg17=>?_) ?_;rotate_left
        ·refine Zb rfl (dQ rfl rfl rfl rfl ⟨_,rfl,rfl⟩ (Zw rfl ?_));exact aF fun a w hh=>hh.cutK 2 rfl
        ·refine Zi rfl (Zi rfl (Zv rfl ?_));exact aF fun a w hh=>hh.cutK 2 rfl
        refine Za rfl ?_;refine' eI [(false,7),(false,8),(false,9),(false,10)] [] (s:=267) (p:=271) rfl rfl (fun hg18=>?_) (fun hg18=>?_) ?_;rotate_left
        ·refine aX rfl Tf.a55 rfl (List.Mem.tail _ (List.Mem.head _)) Tf.s55 List.not_mem_nil rfl ⟨_,rfl,rfl⟩ (aX rfl Tf.a55 rfl (List.Mem.head _) Tf.s55 List.not_mem_nil rfl ⟨_,rfl,rfl⟩ (QC rfl Yg SV rfl rfl rfl ⟨_,rfl,rfl⟩ (Zw rfl ?_)));exact aF fun a w hh=>hh.cutK 3 rfl
        ·refine Zi rfl (Zi rfl (Zi rfl (Zv rfl ?_)));exact aF fun a w hh=>hh.cutK 3 rfl
        refine Zo (Zx (aP rfl (fun hc9=>?_) (fun hc9=>?_)))
        ·exact absurd hc9 (by rw[hre,hlv];simp)
        ·refine Zac (Zag (Zx (C.rg (Za rfl (Zt rfl (Zj rfl (Zo ?_)))))));exact aN 34 (j+1) Yd Yd ⟨Yb,trivial⟩ rfl rfl (List.Sublist.cons _ (List.Sublist.cons _ (List.Sublist.refl _))) (aG)
       ·refine aZ (Zaf (Zaf (aE (Zx (Zy (C.rg (Zd rfl (fun D17 hD17=>tT _ (hV.up (hD17 _ Ye))) (Zj rfl (Zo (Zx (aC ?_)))))))))));exact Zc [_] rfl ⟨rfl,trivial⟩ (fun D hD=>rfl)
end L12
end Go.Fs
