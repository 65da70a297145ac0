/- Of the proof of TopEntered: UW6, UW7, V1, V2, V3, V4, V5, V6, V7, V8, V9, V10, V11, V12, V13, V14, Shell, V15, V16, V17, V18, V19, V20, V21, V22, V23, V24, V29, SW9, SW10, SW11, SW12. -/
import Derived.Test.YthchgbimdmiemaaGreatDoorZTopEnteredAF
import Derived.Test.YthchgbimdmiemaaGreatDoorZTopEnteredAE
import Derived.Test.YthchgbimdmiemaaGreatDoorZTopEnteredAC
import Derived.Test.YthchgbimdmiemaaGreatDoorZTopEnteredAD
import Derived.ProofKit
import Derived.OpenShut
import Derived.WideKeyArgs
import Derived.JoinedCond
namespace Go.Fs
open Go.Proofs
namespace L2
open L1
open C2
open C1 (eY bT nB lX)
theorem Y9{wb mb t cl:Nat}{cs:List Value}{es:Array MapEntry}:∀p∈[(wb,Obj.cells cs.toArray t (0,0)),(mb,.map es cl)],cB p.2:=by
 intro p hp;simp only[List.mem_cons,List.not_mem_nil,or_false]at hp;rcases hp with rfl|rfl
 ·rfl
 ·trivial
def r7(l:List (Int×Int)):List Value:=l.flatMap fun p=>[.int .i64 p.1,.int .i64 p.2]
theorem wX(l:List (Int×Int)):(r7 l).length=l.length*2:=by
 induction l with
 |nil=>rfl
 |cons p l ih=>unfold r7 at ih ⊢;rw[List.flatMap_cons,List.length_append,ih,List.length_cons];simp;omega
theorem xD(l m:List (Int×Int)):r7 (l++m)=r7 l++r7 m:=List.flatMap_append
theorem OV{l:List (Int×Int)}{i:Nat}{p:Int×Int}(hi:l[i]?= some p):((r7 l).drop (i*2)).take 2=[.int .i64 p.1,.int .i64 p.2]:=by
  induction l generalizing i with
  |nil=>simp at hi
  |cons d l ih=>
    have hc:r7 (d::l)=[.int .i64 d.1,.int .i64 d.2]++r7 l:=rfl;rw[hc];cases i with
    | zero => obtain rfl : d = p := by simpa using hi
              rfl
    |succ i=>
      rw[show(i+1)*2=([.int .i64 d.1,.int .i64 d.2]:List Value).length+i*2 by simp;omega,List.drop_length_add_append];exact ih (by simpa using hi)
theorem _root_.Go.Fs.kQ.rgs{D:aA}{v:Value}{n:Nat}{l:List (Int×Int)}(hF:kQ D v n (r7 l))(hn:l.length=n)(hb:n≤9223372036854775807):Sl D vT 2 v l:=
 hF.sl hn hb fun _i _t hi=>⟨_,rfl,rfl,OV hi⟩
def mC(t:aR):List (Int×Int):=(List.range (t.last+1).toNat).map (cO t)
theorem d4{t:aR}{k:Nat}(h:(k:Int)=t.last+1):(List.range k).map (cO t)=mC t:=by unfold mC;rw[show(t.last+1).toNat=k by omega]
theorem ID(s:List Int):(bQ s).take s.length=s:=by unfold bQ;rw[List.take_left]
def mZ(s:List Int)(level:Int)(k:Nat):List Int:=((List.range k).filter fun j=>decide (level<s.getD j 0)).map fun j:Nat=>(j:Int)
theorem AL(s:List Int)(level:Int)(k:Nat):(mZ s level k).length≤k:=by
 unfold mZ;rw[List.length_map];have:=List.length_filter_le (fun j=>decide (level<s.getD j 0)) (List.range k);rwa [List.length_range]at this
theorem MJ{s:List Int}{level x:Int}{k:Nat}(hx:s[k]?= some x)(h:level<x):mZ s level (k+1)=mZ s level k++[(k:Int)]:=by
 unfold mZ;rw[List.range_succ,List.filter_append,List.map_append,List.filter_cons,if_pos (by rw[List.getD_eq_getElem?_getD,hx];simpa using h)];rfl
theorem RN{s:List Int}{level x:Int}{k:Nat}(hx:s[k]?= some x)(h:¬level<x):mZ s level (k+1)=mZ s level k:=by
 unfold mZ;rw[List.range_succ,List.filter_append,List.map_append,List.filter_cons,if_neg (by rw[List.getD_eq_getElem?_getD,hx];simpa using h)];simp
theorem zB(s:List Int)(level:Int):∃m:Nat,oK s level=(m:Int)∧m≤s.length∧(∀j,j<m→s.getD j 0≤level)∧(m<s.length→level<s.getD m 0):=by
 refine⟨(s.takeWhile fun n=>decide (n≤level)).length,rfl,?_⟩;induction s with
 |nil=>exact⟨by simp,fun j h=>by simp at h,fun h=>by simp at h⟩
 |cons a s ih=>
  obtain⟨h1,h2,h3⟩:=ih;by_cases h:a≤level
  ·rw[List.takeWhile_cons,if_pos (by simpa using h),List.length_cons,List.length_cons];refine⟨by omega,fun j hj=>?_,fun hj=>?_⟩
   ·cases j with
    |zero=>simpa using h
    |succ j=>simpa using h2 j Yd
   ·simpa using h3 Yd
  ·rw[List.takeWhile_cons,if_neg (by simpa using h)];exact⟨by simp,fun j hj=>by simp at hj,fun _=>by simp;omega⟩
theorem T9{s:List Int}{level:Int}{m:Nat}(h1:m<s.length)(h2:∀j,j<m→s.getD j 0≤level)(h3:level<s.getD m 0):(mZ s level s.length)[0]?= some (m:Int):=by
 unfold mZ;obtain⟨n,hn⟩:∃n,s.length=m+(n+1):=⟨s.length-m-1,by omega⟩
 rw[hn,List.range_add,List.filter_append,List.filter_eq_nil_iff.2 (fun j hj=>by have:=h2 j (by simpa using hj);simpa using this),List.nil_append,List.range_succ_eq_map,List.map_cons,List.filter_cons,if_pos (by simpa using h3)];simp
theorem HC{s:List Int}{level:Int}(h:0<(mZ s level s.length).length):(mZ s level s.length)[(0:Int).toNat]?= some (oK s level):=by
 obtain⟨m,hm,h1,h2,h3⟩:=zB s level;rw[hm];by_cases hlt:m<s.length
 ·exact T9 hlt h2 (h3 hlt)
 ·exfalso
  obtain rfl:m=s.length:=by omega
  unfold mZ at h;rw[List.filter_eq_nil_iff.2 (fun j hj=>by have:=h2 j (by simpa using hj);simpa using this)]at h
  simp at h
theorem MC{s:List Int}{level:Int}(h:¬0<(mZ s level s.length).length):oK s level=(s.length:Int):=by
 obtain⟨m,hm,h1,h2,h3⟩:=zB s level;by_cases hlt:m<s.length
 ·exfalso
  have:=T9 hlt h2 (h3 hlt);have:=(List.getElem?_eq_some_iff.1 this).1;omega
 ·rw[hm,show m=s.length by omega]
theorem pX(tv:Value)(t:aR)(D:aA)(ht:eR D tv t):Fn Tryz.prog 12 #[tv] D (fun D' v=>∃lv,v=.tuple #[lv,.int .i64 (fH t true)]∧Sl D' vT 2 lv (if fH t true=0 then mC t else [])):=by
 have ht0:=ht;obtain⟨hv,lv,mv,rfl,hh,hl,hm⟩:=ht;refine enter 30 Tryz.func12 rfl rfl rfl rfl fun h0=>Zy (C.rg (Zr rfl (fun q1 E1 hE1 hB1=>Zj rfl (Zj rfl (Zo (Zx (Zy (C.rg (Zq rfl Tf.a32 rfl hB1 Tf.s32 (fZ rfl rfl rfl (fun D2 hD2=>lS _ t true _ (ht0.up (hD2 _ Ye))) rfl trivial (fun v2 D3 ν2 hD3 hp2=>?_)))))))))))
 obtain⟨wv,rfl,hwk⟩:=hp2;refine Za rfl (Zz rfl (Zz rfl (Zj rfl (Zj rfl (Zo (Zx (Zy (Zy (C.rg (Za rfl (dQ rfl rfl rfl rfl trivial ?_)))))))))));refine Zo (Zx (aH rfl (fun hc1=>?_) (fun hc1=>?_)))
 ·refine Zy (C.rg (Za rfl (Zj rfl (Zj rfl (Zo (Zx (aC (Zad ?_))))))));exact Zc [_,_] rfl C.rs (fun D hD=>⟨_,rfl,by rw[if_neg hc1];exact Sl.nil⟩)
 ·have he0:fH t true=0:=by omega
  obtain⟨hto,htn,wb,mb,hv2,lv2,mv2,tsv,es,cl,S,rfl,rfl,htw,hts,hS,hsp⟩:=hwk he0;have hlast:=hto.last;refine Zac (Zx (Zy (C.rg (Zj rfl (Zo (Zx (Zy (Zy (C.rg (Zk rfl Tf.f32_0 rfl (Zg 0 rfl Tf.a3 rfl hB1 rfl ?_)))))))))));refine Zt rfl (Za rfl (Zo (Zx (Zae (cZ (γ:=Nat×Value×aB) (fun g=>(t.last+1).toNat-g.1) (fun g=>(g.1:Int)≤t.last+1∧bC 55 2 g.2.1 g.1 (r7 ((List.range g.1).map (cO t))) g.2.2) (fun g=>[(19,.int .i64 (g.1:Int)),(6,g.2.1)]) [(18,_),(4,_),(3,_),(2,_)] (fun g=>g.2.2++[(wb,.cells [.int .i64 t.last,hv2,.int .i64 t.step,lv2,mv2,tsv,.map (some mb)].toArray 173 (0,0)),(mb,.map es cl)]) (fun g=>[D3,E1,D]) (0,.slice none 0 0,[]) ⟨by simp;omega,by simpa [r7]using bC.nil⟩ ⟨Yb,Yb,trivial⟩ C.rs (List.Sublist.refl _) (aG) ?_)))))
  rintro⟨k,v,ν⟩ ⟨h1,ha⟩;simp only at h1 ha;refine Zy (C.rg (Zaa rfl (Zo (Zx (Zy (aH rfl (fun hc2=>?_) (fun hc2=>?_)))))))
  ·have hk:(k:Int)≤t.last:=by simp only at hc2;omega
   refine Zac (Zx (Zy (Zae (Zy (C.rg (Za rfl (Zj rfl (Zo (Zx (C.rg (Za rfl ?_)))))))))));refine Za rfl (Za rfl (yD (A:=ν) (ν:=[(_,_),(_,_)]) rfl rfl rfl rfl (Or.inl rfl) (Y9 (cs:=[_,_,_,_,_,_,_])) (fun D5 hD5=>S7 t wb mb hv2 lv2 mv2 tsv es cl S k _ (hts.up zD.up (hD5 _ Ye)) htn hto hS hsp Yd) rfl trivial (fun v5 D6 _ hD6 hp5=>?_)));obtain⟨rfl,rfl⟩:=hp5;refine Zm rfl U29 Tf.s55 Tf.z55 rfl rfl rfl rfl (.cons rfl rfl .nil) (fun b901 D901 hD901 hA901=>aS (A:=[]) (B:=[(_,_),(_,_)]) rfl U29 rfl rfl Tf.s55 Tf.z55 rfl Tf.i55 rfl rfl rfl ha (iG.lit hA901) Ye rfl (by rw[wX];simp) Ym Yd (Or.inl rfl) rfl trivial (fun v1 ν1 ha1=>?_))
   have ha2:bC 55 2 v1 (k+1) (r7 ((List.range (k+1)).map (cO t))) ν1:=by rw[List.range_succ,List.map_append,xD];exact ha1
   refine Zj rfl (Zo (Zag (Zx (C.rg (Zt rfl (Za rfl (Zo ?_)))))));exact aN 14 (k+1,v1,ν1) ⟨by simp only;omega,ha2⟩ Yo ⟨Yb,rfl,trivial⟩ rfl rfl (List.Sublist.refl _) (fun D h=>⟨D,List.Mem.tail _ (List.Mem.tail _ (h)),Le.refl D⟩)
  ·have hk:(k:Int)=t.last+1:=by simp only at hc2 h1;omega
   refine aZ (Zaf (Zaf (aE (Zx (Zy (C.rg (Za rfl (Zj rfl (Zj rfl (Zo (Zx ?_)))))))))));refine aC (eW (A:=[]) (B:=[(_,_),(_,_)]) ha rfl (fun D8 hD8 hF8=>?_));exact Zc [_,_] rfl C.rs (fun D hD=>⟨_,by rw[he0];rfl,by rw[if_pos he0];exact(d4 Yd▸hF8.rgs Ye Yd).up vT.up (hD _ Ye)⟩)
theorem QH(last step:Int)(hv lv mv:Value)(s:List Int)(level:Int)(D:aA)(hs:(s.length:Int)=last+1)(h10:s.length≤10):
  Fn Tryz.prog 83 #[.agg #[.int .i64 last,hv,.int .i64 step,lv,mv],.agg (ints (bQ s)).toArray,.int .i64 level] D (fun D' v=>Sl D' RI 1 v (mZ s level s.length)):=by
 have hp10:=dM h10;refine enter 28 Tryz.func83 rfl rfl rfl rfl fun h0=>Zy (C.rg (Zr rfl (fun q1 E1 hE1 hB1=>Zr rfl (fun q2 E2 hE2 hB2=>Zj rfl (Zo (Zx (Zy (Zy ?_))))))))
 have hsl:Sl E2 RI 1 (.slice (some ⟨q2,0,none⟩) s.length 10) s:=by have h:=t8 (l:=0) (h:=s.length) hB2 hp10 Yd Yd Yd;rw[List.drop_zero,Nat.sub_zero,Nat.sub_zero]at h;rw[ID]at h;exact h
 refine C.rg (Zk rfl Tf.f32_0 rfl (Zg 0 rfl Tf.a3 rfl hB1 rfl (Zt rfl (FX (h:=s.length) rfl U177 Tf.s3 rfl rfl Yd Yd rfl trivial (hC rfl U25 rfl rfl rfl trivial (Za rfl (Zo (Zx (Zae (cZ (γ:=Nat×Value×aB) (fun g=>s.length-g.1) (fun g=>g.1≤s.length∧bC 3 1 g.2.1 (mZ s level g.1).length (ints (mZ s level g.1)) g.2.2) (fun g=>[(14,.int .i64 (g.1:Int)),(6,g.2.1)]) [(13,_),(12,_),(2,_)] (fun g=>g.2.2++[]) (fun g=>[E2,E1,D]) (0,.slice none 0 0,[]) ⟨by simp,by simpa [ints,mZ]using bC.nil⟩ ⟨Yb,Yb,trivial⟩ C.rs (List.Sublist.refl _) (aG) ?_))))))))));rintro⟨k,v,ν⟩ ⟨h1,ha⟩;simp only at h1 ha;refine Zy (C.rg (Zaa rfl (Zo (Zx (Zy (aH rfl (fun hc1=>?_) (fun hc1=>?_)))))))
 ·have hk:k<s.length:=by simp only at hc1;omega
  obtain⟨x,hx⟩:∃x,s[k]?= some x:=⟨_,List.getElem?_eq_getElem hk⟩
  have hwl:=AL s level k;refine Zac (Zx (Zy (Zae (Zy (C.rg (Za rfl (aJ rfl U25 Tf.s3 rfl hsl rfl Yd hx rfl trivial (fun b1 o1 cs1 hr1 hcl1 hA1=>?_))))))));obtain rfl:cs1=[.int .i64 _]:=hr1;refine Zg 0 rfl Tf.a3 rfl hA1 rfl (Zj rfl (Zj rfl (Zo (Zx (Zy (C.rg (Za rfl (Za rfl (dO rfl rfl rfl rfl trivial (Zo (Zx ?_)))))))))));refine aH rfl (fun hc2=>?_) (fun hc2=>?_)
  ·refine C.rg (Za rfl (Za rfl (Zm rfl U25 Tf.s3 Tf.z3 rfl rfl rfl rfl (.cons rfl rfl .nil) (fun b901 D901 hD901 hA901=>?_))));have hS901:=Sl.ofInts (l:=[_]) (n:=1) (cap:=1) hA901 rfl Yd Yd;refine aS (A:=[]) (B:=_) rfl U25 rfl rfl Tf.s3 Tf.z3 rfl Tf.i3 rfl rfl rfl ha (iG.lit hA901) Ye rfl (by simp[ints]) Ym Yd (Or.inl rfl) rfl trivial (fun v1 ν1 ha1=>?_);have ha2:bC 3 1 v1 (mZ s level (k+1)).length (ints (mZ s level (k+1))) ν1:=by rw[MJ hx hc2,List.length_append,←eG];exact ha1
   refine Zj rfl (Zo (Zag (Zx (C.rg (Zt rfl (Za rfl (Zo ?_)))))));exact aN 18 (k+1,v1,ν1) ⟨by simp only;omega,ha2⟩ Yo ⟨Yb,rfl,trivial⟩ rfl rfl (List.Sublist.refl _) (fun D h=>⟨D,List.Mem.tail _ (h),Le.refl D⟩)
  ·refine Zac (Zag (Zx (C.rg (Zt rfl (Za rfl (Zo ?_))))));exact aN 13 (k+1,v,ν) ⟨by simp only;omega,by rw[RN hx hc2];exact ha⟩ Yo ⟨Yb,rfl,trivial⟩ rfl rfl (List.Sublist.refl _) (aG)
 ·obtain rfl:k=s.length:=by simp only at hc1;omega
  have hwl:=AL s level s.length;refine aZ (Zaf (Zaf (aE (Zx (Zy (C.rg (Za rfl (Zj rfl (Zo (Zx (aC ?_)))))))))));refine eW (A:=[]) (B:=[]) ha rfl (fun D8 hD8 hF=>?_);exact Zc [_] rfl ⟨rfl,trivial⟩ (fun D hD=>(hF.ints Ye Yd).up RI.up (hD _ Ye))
theorem d5(t:aR)(wb mb:Nat)(hv lv mv tsv:Value)(es:Array MapEntry)(cl:Nat)(s:List Int)(level y:Int)(D:aA)(hs:(s.length:Int)=t.last+1)(h10:s.length≤10):
  O8 Tryz.prog 47 [.pointer (some ⟨wb,0,none⟩),.agg (ints (bQ s)).toArray,.int .i64 level,.int .i64 y] D [(wb,.cells [.int .i64 t.last,hv,.int .i64 t.step,lv,mv,tsv,.map (some mb)].toArray 173 (0,0)),(mb,.map es cl)] (fun _ v ν'=>v=.int .i64 (oK s level)∧ν'=[(wb,.cells [.int .i64 t.last,hv,.int .i64 t.step,lv,mv,tsv,.map (some mb)].toArray 173 (0,0)),(mb,.map es cl)]):=by
 have hp10:=dM h10;refine gI 29 Tryz.func47 rfl rfl rfl rfl (fun h0 hwl hwn=>Zy (C.rg (Zr rfl (fun q1 E1 hE1 hB1=>Zj rfl (Zo (Zx (Zy (Zy (C.drawA [] 4 8 48 (fun _ _ _ h=>dF (P:=Tryz.prog) (fn:=Tryz.f47) _ _ _ h) (Za rfl (Zab rfl ?_)))))))))));refine Zk rfl Tf.f173_0 rfl (dU (us:=[.int .i64 t.last,hv,.int .i64 t.step,lv,mv]) rfl Tf.a32 Tf.s32 rfl (List.Mem.head _) (by rfl) rfl List.not_mem_nil rfl trivial (cU rfl Tf.a177 rfl hB1 Yc Yt List.not_mem_nil rfl trivial (Za rfl (cW rfl rfl rfl (fun D1 hD1=>QH t.last t.step hv lv mv s level _ hs h10) rfl trivial (fun v1 D1 hD1 hp1=>Zj rfl (Zo (Zx (Zy (C.rg (Za rfl (aY rfl U25 rfl hp1 rfl rfl trivial ?_)))))))))));refine dO rfl rfl rfl rfl trivial (Zo (Zx (aH rfl (fun hc1=>?_) (fun hc1=>?_))))
 ·have hw0:=HC (s:=s) (level:=level) Yd;refine Zy (C.rg (Za rfl (aJ rfl U25 Tf.s3 rfl hp1 rfl Yd hw0 rfl trivial (fun b1 o1 cs1 hr1 hcl1 hA1=>?_))));obtain rfl:cs1=[.int .i64 _]:=hr1;refine Zg 0 rfl Tf.a3 rfl hA1 rfl (Zj rfl (Zo (Zx (aC (Zad ?_)))));exact eV (A:=[]) (ν':=[_,_]) (B:=[]) (vs:=[_]) rfl rfl rfl ⟨rfl,trivial⟩ rfl (fun D hD=>⟨rfl,rfl⟩)
 ·have hw1:=MC (s:=s) (level:=level) Yd;refine Zac (Zx (Zy (C.rg (Za rfl (Zab rfl (Zk rfl Tf.f173_0 rfl (Zk rfl Tf.f32_0 rfl (Zn rfl Tf.a3 rfl (List.Mem.head _) rfl (Zt rfl (Zj rfl (Zo ?_)))))))))));refine Zx (aC ?_);exact eV (A:=[]) (ν':=[_,_]) (B:=[]) (vs:=[_]) rfl rfl rfl ⟨rfl,trivial⟩ rfl (fun D hD=>⟨by show Value.int _ _=_;rw[hw1,hs],rfl⟩)
theorem PR(t:aR)(wb mb:Nat)(hv lv mv tsv:Value)(es:Array MapEntry)(cl:Nat)(s:List Int)(a b:Int)(D:aA)(hs:(s.length:Int)=t.last+1)(h10:s.length≤10)(ha0:0≤a)(hab:a≤b)(hbl:b≤t.last):
  O8 Tryz.prog 44 [.pointer (some ⟨wb,0,none⟩),.agg (ints (bQ s)).toArray,.int .i64 a,.int .i64 b] D [(wb,.cells [.int .i64 t.last,hv,.int .i64 t.step,lv,mv,tsv,.map (some mb)].toArray 173 (0,0)),(mb,.map es cl)] (fun _ v ν'=>v=.int .i64 (fL s a b)∧ν'=[(wb,.cells [.int .i64 t.last,hv,.int .i64 t.step,lv,mv,tsv,.map (some mb)].toArray 173 (0,0)),(mb,.map es cl)]):=by
 have hp10:=dM h10;refine gI 13 Tryz.func44 rfl rfl rfl rfl (fun h0 hwl hwn=>Zy (C.rg (Zr rfl (fun q1 E1 hE1 hB1=>Zj rfl (Zo (Zx (Zy (C.rg (cU rfl Tf.a177 rfl hB1 Yc Yt List.not_mem_nil rfl trivial (Za rfl (Za rfl ?_)))))))))));refine Zd rfl (fun D1 hD1=>yE (bQ s) a b _ hp10 ha0 hab Yd) (Zj rfl (Zo (Zx (aC ?_))));exact eV (A:=[]) (ν':=[_,_]) (B:=[]) (vs:=[_]) rfl rfl rfl ⟨rfl,trivial⟩ rfl (fun D hD=>⟨by show Value.int _ _=_;rw[pB ha0 hab Yd],rfl⟩)
end L2
end Go.Fs
namespace Go.Fs
open Go.Proofs
namespace L2
open L1
open C2
open C1 (eY bT nB lX)
def r5(F:List Int→Int)(n:Int)(l:List (List Int)):Int×Int:=l.foldl (fun p s=>(min p.1 (F s),max p.2 (F s))) (n,n)
theorem GE{t:aR}{F:List Int→Int}{n:Int}{k:Nat}{u:List Int}(hx:(aW t)[k]?= some u):r5 F n ((aW t).take (k+1))=(min (r5 F n ((aW t).take k)).1 (F u),max (r5 F n ((aW t).take k)).2 (F u)):=by
 unfold r5;rw[List.take_add_one,hx,List.foldl_append];rfl
theorem V6(F:List Int→Int):∀(l:List (List Int)) (p:Int×Int),l.foldl (fun p s=>(min p.1 (F s),max p.2 (F s))) p=((l.map F).foldl min p.1,(l.map F).foldl max p.2)
 | [],_=>rfl
 |s::l,p=>by rw[List.foldl_cons,V6 F l];rfl
theorem ND{t:aR}{F:List Int→Int}{s0:List Int}{lo hi:Int}(hs0:(aW t)[0]?= some s0)(h:(lo,hi)=r5 F (F s0) (aW t)):gT (lo,hi)=gT (nB ((aW t).map F),lX ((aW t).map F)):=by
 rw[h];cases ht:aW t with
 |nil=>rw[ht]at hs0;simp at hs0
 |cons a l=>
  rw[ht]at hs0;obtain rfl:a=s0:=by simpa using hs0
  unfold r5;rw[V6,List.map_cons,List.foldl_cons,List.foldl_cons,Int.min_self,Int.max_self];rfl
theorem sK{t:aR}{fine:Bool}(h:fH t fine=0):fine=true:=by
 unfold fH at h;split at h
 ·rename_i hf;exact absurd h hf
 ·split at h
  ·omega
  ·rename_i hf;simpa using hf
theorem j1{last a b:Int}(h:jZ last a b=true):0≤a∧a≤b∧b≤last:=by
 unfold jZ yM at h;simp only[Bool.and_eq_true,decide_eq_true_eq,bT]at h;omega
theorem wW(t:aR)(wb mb:Nat)(hv lv mv tsv:Value)(es:Array MapEntry)(cl:Nat)(F:List Int→Int)(fid:Nat)(x y:Int)(D:aA)(hts:Sl D zD 10 tsv (aW t))(htn:aW t≠[])(hto:O7 t)
  (hf:∀s∈aW t,∀D',Le D D'→O8 Tryz.prog fid [.pointer (some ⟨wb,0,none⟩),.agg (ints (bQ s)).toArray,.int .i64 x,.int .i64 y] D' [(wb,.cells [.int .i64 t.last,hv,.int .i64 t.step,lv,mv,tsv,.map (some mb)].toArray 173 (0,0)),(mb,.map es cl)] (fun _ v ν'=>v=.int .i64 (F s)∧ν'=[(wb,.cells [.int .i64 t.last,hv,.int .i64 t.step,lv,mv,tsv,.map (some mb)].toArray 173 (0,0)),(mb,.map es cl)])):
  O8 Tryz.prog 45 [.agg #[.func (.func fid) #[] #[]],.pointer (some ⟨wb,0,none⟩),.int .i64 x,.int .i64 y] D [(wb,.cells [.int .i64 t.last,hv,.int .i64 t.step,lv,mv,tsv,.map (some mb)].toArray 173 (0,0)),(mb,.map es cl)] (fun _ v ν'=>v=gT (nB ((aW t).map F),lX ((aW t).map F))∧ν'=[(wb,.cells [.int .i64 t.last,hv,.int .i64 t.step,lv,mv,tsv,.map (some mb)].toArray 173 (0,0)),(mb,.map es cl)]):=by
 have hll:=hts.len;have hlast:=hto.last;have hsl1:=hto.len;obtain⟨s0,hs0⟩:∃s,(aW t)[0]?= some s:=⟨(aW t)[0]'(List.length_pos_iff.2 htn),List.getElem?_eq_getElem _⟩
 have hs0m:=List.mem_of_getElem? hs0;have hsl0:=jW hto hs0m;have hp100:=dM (l:=s0) Yd;refine gI 48 Tryz.func45 rfl rfl rfl rfl (fun h0 hwl hwn=>Zy (C.rg (Zr rfl (fun q1 E1 hE1 hB1=>Zu rfl Tf.z55 rfl (fun q2=>Zo (Zx (Zy (C.drawA [] 6 13 2044 (fun _ _ _ h=>dF (P:=Tryz.prog) (fn:=Tryz.f45) _ _ _ h) (Zk rfl Tf.f106_0 rfl (Zg 0 rfl Tf.a103 rfl hB1 rfl (Za rfl ?_)))))))))));refine Za rfl (Zab rfl (Zk rfl Tf.f173_1 rfl (Zn rfl Tf.a171 rfl (List.Mem.tail _ (List.Mem.head _)) rfl (aJ rfl U171 Tf.s177 rfl hts rfl Yd hs0 rfl trivial (fun b1 o1 cs1 hr1 hcl1 hA1=>?_)))));obtain rfl:cs1=ints (bQ _):=hr1;refine cU rfl Tf.a177 rfl hA1 Yc (by first|exact Tf.s177|(simp only[*];exact Tf.s177)) List.not_mem_nil rfl trivial (Za rfl (Za rfl (yD (A:=[(_,_)]) (ν:=[(_,_),(_,_)]) rfl rfl rfl rfl (by first|exact Or.inl rfl|exact Or.inr Ye) (Y9 (cs:=[_,_,_,_,_,_,_])) (fun D5 hD5=>hf s0 hs0m _ (hD5 _ Ye)) rfl trivial (fun v5 D6 _ hD6 hp5=>?_))))
 obtain⟨rfl,rfl⟩:=hp5;refine Zj rfl (Zo (Zx (Zy (C.rg (Za rfl (Za rfl (Zp [.int .i64 (F s0),.int .i64 (F s0)] rfl Tf.p55 Tf.z55 rfl rfl (Zu rfl Tf.z55 rfl (fun q3=>Zs rfl Tf.s55 (cY.head) (Zo (Zx ?_)))))))))));refine Zy (Zy (C.rg (Za rfl (Zab rfl (Zk rfl Tf.f173_1 rfl (Zn rfl Tf.a171 rfl (List.Mem.tail _ (List.Mem.tail _ (List.Mem.head _))) rfl (aY rfl U171 rfl hts rfl rfl trivial (Za rfl (Zo (Zx (Zae ?_)))))))))));refine cZ (γ:=Nat×Int×Int) (fun g=>(aW t).length-g.1) (fun g=>g.1≤(aW t).length∧g.2=r5 F (F s0) ((aW t).take g.1)) (fun g=>[(33,.int .i64 (g.1:Int))]) [(32,_),(31,_),(10,_),(8,_),(4,_),(1,_),(2,_),(3,_)] (fun g=>[(q3,.cells [.int .i64 g.2.1,.int .i64 g.2.2].toArray 55 (0,0)),(q2,.cells [.int .i64 0,.int .i64 0].toArray 55 (0,0))]++[(wb,.cells [.int .i64 t.last,hv,.int .i64 t.step,lv,mv,tsv,.map (some mb)].toArray 173 (0,0)),(mb,.map es cl)]) (fun g=>[D6,E1,D]) (0,F s0,F s0) ⟨by simp,rfl⟩ ⟨Yb,trivial⟩ C.rs (List.Sublist.refl _) (aG) ?_;rintro⟨k,lo,hi⟩ ⟨h1,hI⟩;simp only at h1 hI;refine Zy (C.rg (Zaa rfl (Zo (Zx (Zy (aH rfl (fun hc1=>?_) (fun hc1=>?_)))))))
 ·have hk:k<(aW t).length:=by simp only at hc1;omega
  obtain⟨u,hx⟩:∃u,(aW t)[k]?= some u:=⟨_,List.getElem?_eq_getElem hk⟩
  have hum:=List.mem_of_getElem? hx;have hul:=jW hto hum;have hp10:=dM (l:=u) Yd;refine Zac (Zx (Zy (Zae (Zy (C.rg (aJ rfl U171 Tf.s177 rfl hts rfl Yd hx rfl trivial (fun b2 o2 cs2 hr2 hcl2 hA2=>?_)))))));obtain rfl:cs2=ints (bQ _):=hr2;refine cU rfl Tf.a177 rfl hA2 Yc (by first|exact Tf.s177|(simp only[*];exact Tf.s177)) List.not_mem_nil rfl trivial (Zu rfl Tf.z177 rfl (fun q4=>bL rfl rfl rfl rfl Tf.s177 Yw Ya (cY.head) Yi trivial (Zo (Zx (gO hB1 Ye (fun hq1k=>?_))))))
  have hq1:q1∉[wb,mb]:=fun h=>hq1k (List.mem_cons_of_mem _ (List.mem_cons_of_mem _ (List.mem_cons_of_mem _ h)))
  refine oM (fun hnd=>?_);simp only[List.map_cons,List.map_nil,List.nodup_cons,List.mem_cons,List.not_mem_nil,or_false,not_or,List.cons_append,List.nil_append]at hnd;have hq3:q3∉[wb,mb]:=by simp only[List.mem_cons,List.not_mem_nil,or_false,not_or];exact⟨hnd.2.1.2.1,hnd.2.1.2.2⟩
  have hq4:q4∉[wb,mb]:=by simp only[List.mem_cons,List.not_mem_nil,or_false,not_or];exact⟨hnd.1.2.2.1,hnd.1.2.2.2⟩
  refine mW [wb,mb] 3 [0,1,2,3,4,5,6,7,8,9] [false,true,true,true,true,true,true,true,false,false] [(false,0),(true,1),(true,2),(true,3),(true,4),(true,5),(true,6),(true,7),(false,8),(false,9)] Tf.follows (fun _ _ _ h=>dF (P:=Tryz.prog) (fn:=Tryz.f45) _ _ _ h) Yg rfl (aX rfl Tf.a55 rfl (List.Mem.tail _ (List.Mem.head _)) Tf.s55 Yk rfl trivial (Zk rfl Tf.f106_0 rfl (bP rfl (k:=0) Tf.a103 rfl hB1 Yc rfl Yk rfl trivial (Za rfl (aX rfl Tf.a177 rfl (List.Mem.head _) (by first|exact Tf.s177|(simp only[*];exact Tf.s177)) Yk rfl trivial (Za rfl (Za rfl (yD (A:=[(_,_),(_,_),(_,_)]) (ν:=[(_,_),(_,_)]) rfl rfl rfl rfl (by first|exact Or.inl rfl|exact Or.inr Ye) (Y9 (cs:=[_,_,_,_,_,_,_])) (fun D7 hD7=>hf u hum _ (hD7 _ Ye)) rfl trivial (fun v7 D8 _ hD8 hp7=>?_)))))))));obtain⟨rfl,rfl⟩:=hp7;refine Zd rfl (fun D1 hD1=>lW (lo,hi) (F u) _) (Zs rfl Tf.s55 (.tail (cY.head)) (Zo (Zag (Zx (C.rg (Zt rfl (Za rfl (Zo ?_))))))));exact aN 16 (k+1,min lo (F u),max hi (F u)) ⟨by simp only;omega,by rw[GE hx,←hI]⟩ Yo ⟨Yb,trivial⟩ rfl rfl (List.Sublist.cons _ (List.Sublist.refl _)) (fun D h=>⟨D,List.Mem.tail _ (h),Le.refl D⟩)
 ·obtain rfl:k=(aW t).length:=by simp only at hc1;omega
  rw[List.take_length]at hI;have hfin:=ND hs0 hI;refine aZ (Zaf (Zaf (aE (Zx (Zy (C.rg (aX rfl Tf.a55 rfl (List.Mem.head _) Tf.s55 List.not_mem_nil rfl trivial (Zs rfl Tf.s55 (.tail (cY.head)) (Zo (Zx (aC ?_)))))))))));exact eV (A:=[(_,_),(_,_)]) (ν':=[_,_]) (B:=[]) (vs:=[_]) rfl rfl rfl ⟨⟨_,_,_,rfl,List.Mem.tail _ (List.Mem.head _),Or.inr ⟨Tf.a55,Tf.s55,rfl⟩⟩,trivial⟩ rfl (fun D hD=>⟨hfin,rfl⟩)
theorem HW(tv:Value)(t:aR)(row:Int)(D:aA)(ht:eR D tv t):Fn Tryz.prog 16 #[tv,.int .i64 row] D (fun _ v=>v=.tuple #[gT (if fH t (eY row 0 ((t.levels.length:Int)-1))=0 then nU t (t.levels.getD row.toNat 0)else(0,0)),.int .i64 (fH t (eY row 0 ((t.levels.length:Int)-1)))]):=by
 have ht0:=ht;obtain⟨hv,lv,mv,rfl,hh,hl,hm⟩:=ht;refine enter 28 Tryz.func16 rfl rfl rfl rfl fun h0=>Zy (C.rg (Zr rfl (fun q1 E1 hE1 hB1=>Zu rfl Tf.z55 rfl (fun q2=>Zj rfl (Zo (Zx (Zy (C.drawA [] 4 10 398 (fun _ _ _ h=>dI (P:=Tryz.prog) (fn:=Tryz.f16) _ _ _ h) (Zq rfl Tf.a32 rfl hB1 Tf.s32 (Zq rfl Tf.a32 rfl hB1 Tf.s32 ?_))))))))));refine Za rfl (Zd rfl (fun D1 hD1=>QP _ t row _ (ht0.up (hD1 _ Ye))) (fZ rfl rfl rfl (fun D3 hD3=>lS _ t (eY row 0 ((t.levels.length:Int)-1)) _ (ht0.up (hD3 _ Ye))) rfl trivial (fun v3 D4 ν3 hD4 hp3=>?_)))
 obtain⟨wv,rfl,hwk⟩:=hp3;refine Za rfl (Zz rfl (Zz rfl (Zj rfl (Zj rfl (Zo (Zx (Zy (Zy (C.rg (Za rfl (dQ rfl rfl rfl rfl trivial ?_)))))))))));refine Zo (Zx (aH rfl (fun hc1=>?_) (fun hc1=>?_)))
 ·refine Zy (C.rg (Zp [.int .i64 0,.int .i64 0] rfl Tf.p55 Tf.z55 rfl rfl (Za rfl (Zs rfl Tf.s55 (.app (cY.head)) (Zj rfl (Zo (Zx (aC (Zad ?_)))))))));exact Zc [_,_] rfl ⟨⟨_,_,_,rfl,(List.mem_append_right _ (List.Mem.head _)),Or.inr ⟨Tf.a55,(by first|exact Tf.s55|(simp only[List.size_toArray,aQ, *];exact Tf.s55)),rfl⟩⟩,rfl,trivial⟩ (fun D hD=>by show Value.tuple _=_;rw[if_neg hc1];rfl)
 ·have he0:fH t (eY row 0 ((t.levels.length:Int)-1))=0:=by omega
  obtain⟨hto,htn,wb,mb,hv2,lv2,mv2,tsv,es,cl,S,rfl,rfl,htw,hts,hS,hsp⟩:=hwk he0;have hrow:=sK he0;rw[bT]at hrow;have hlev:t.levels[row.toNat]?= some (t.levels.getD row.toNat 0):=by rw[List.getD_eq_getElem?_getD,List.getElem?_eq_getElem Yd];rfl
  refine Zac (Zx (Zy (C.rg (Zp [.func (.func 47) #[] #[]] rfl Tf.p106 Tf.z106 rfl rfl (Za rfl (Zk rfl Tf.f32_3 rfl (Zg 3 rfl Tf.a25 rfl hB1 rfl (Za rfl (aJ rfl U25 Tf.s3 rfl hl rfl Yd hlev rfl trivial (fun b1 o1 cs1 hr1 hcl1 hA1=>?_))))))))));obtain rfl:cs1=[.int .i64 _]:=hr1;refine Zg 0 rfl Tf.a3 rfl hA1 rfl (iQ (A:=[]) (ν:=[(_,_),(_,_)]) (B:=[(_,_)]) rfl rfl rfl rfl (by first|exact Or.inl rfl|exact Or.inr Ye) (Y9 (cs:=[_,_,_,_,_,_,_])) (fun D7 hD7=>wW t wb mb hv2 lv2 mv2 tsv es cl (oK · (t.levels.getD row.toNat 0)) _ _ _ _ (hts.up zD.up (hD7 _ Ye)) htn hto (fun s hsm D' hD'=>d5 t wb mb hv2 lv2 mv2 tsv es cl s _ _ D' (by have:=jW hto hsm;have:=hto.len;omega) (by have:=jW hto hsm;have:=hto.len10;omega))) rfl trivial (fun v7 D8 _ hD8 hp7=>?_))
  obtain⟨rfl,rfl⟩:=hp7;refine Zs rfl Tf.s55 (.tail (.tail (cY.head))) (Zj rfl (Zo (Zx (aC ?_))));exact Zc [_,_] rfl ⟨⟨_,_,_,rfl,(List.Mem.tail _ (List.Mem.tail _ (List.Mem.head _))),Or.inr ⟨Tf.a55,(by first|exact Tf.s55|(simp only[List.size_toArray,aQ, *];exact Tf.s55)),rfl⟩⟩,rfl,trivial⟩ (fun D hD=>by show Value.tuple _=_;rw[if_pos he0,he0];rfl)
theorem HS(tv:Value)(t:aR)(a b:Int)(D:aA)(ht:eR D tv t):Fn Tryz.prog 15 #[tv,.int .i64 a,.int .i64 b] D (fun _ v=>v=.tuple #[.int .i64 (if fH t (jZ t.last a b)=0 then M8 t a b else 0),.int .i64 (fH t (jZ t.last a b))]):=by
 have ht0:=ht;obtain⟨hv,lv,mv,rfl,hh,hl,hm⟩:=ht;refine enter 28 Tryz.func15 rfl rfl rfl rfl fun h0=>Zy (C.rg (Zr rfl (fun q1 E1 hE1 hB1=>Zj rfl (Zj rfl (Zo (Zx (Zy (C.drawA [] 4 11 798 (fun _ _ _ h=>dI (P:=Tryz.prog) (fn:=Tryz.f15) _ _ _ h) (Zq rfl Tf.a32 rfl hB1 Tf.s32 (Zq rfl Tf.a32 rfl hB1 Tf.s32 ?_))))))))));refine Za rfl (Za rfl (Zd rfl (fun D1 hD1=>Y6 _ t a b _ (ht0.up (hD1 _ Ye))) (fZ rfl rfl rfl (fun D3 hD3=>lS _ t (jZ t.last a b) _ (ht0.up (hD3 _ Ye))) rfl trivial (fun v3 D4 ν3 hD4 hp3=>?_))))
 obtain⟨wv,rfl,hwk⟩:=hp3;refine Za rfl (Zz rfl (Zz rfl (Zj rfl (Zj rfl (Zo (Zx (Zy (Zy (C.rg (Za rfl (dQ rfl rfl rfl rfl trivial ?_)))))))))));refine Zo (Zx (aH rfl (fun hc1=>?_) (fun hc1=>?_)))
 ·refine Zy (C.rg (Za rfl (Zj rfl (Zj rfl (Zo (Zx (aC (Zad ?_))))))));exact Zc [_,_] rfl C.rs (fun D hD=>by show Value.tuple _=_;rw[if_neg hc1])
 ·have he0:fH t (jZ t.last a b)=0:=by omega
  obtain⟨hto,htn,wb,mb,hv2,lv2,mv2,tsv,es,cl,S,rfl,rfl,htw,hts,hS,hsp⟩:=hwk he0;have hrow:=j1 (sK he0);refine Zac (Zx (Zy (C.rg (Zp [.func (.func 44) #[] #[]] rfl Tf.p106 Tf.z106 rfl rfl (Za rfl (Za rfl (Za rfl (iQ (A:=[]) (ν:=[(_,_),(_,_)]) (B:=[]) rfl rfl rfl rfl (by first|exact Or.inl rfl|exact Or.inr Ye) (Y9 (cs:=[_,_,_,_,_,_,_])) (fun D7 hD7=>wW t wb mb hv2 lv2 mv2 tsv es cl (fL · a b) _ _ _ _ (hts.up zD.up (hD7 _ Ye)) htn hto (fun s hsm D' hD'=>PR t wb mb hv2 lv2 mv2 tsv es cl s _ _ D' (by have:=jW hto hsm;have:=hto.len;omega) (by have:=jW hto hsm;have:=hto.len10;omega) hrow.1 hrow.2.1 hrow.2.2)) rfl trivial (fun v7 D8 _ hD8 hp7=>?_)))))))))
  obtain⟨rfl,rfl⟩:=hp7;refine MA rfl U55 rfl Tf.a3 rfl rfl rfl trivial (Zj rfl (Zj rfl (Zo (Zx (aC ?_)))));exact Zc [_,_] rfl C.rs (fun D hD=>by show Value.tuple _=_;rw[if_pos he0,he0];rfl)
end L2
end Go.Fs
namespace Go.Fs
open Go.Proofs
namespace L3
open L1
open C1
open C1
open C1
end L3
end Go.Fs
namespace Go.Fs
open Go.Proofs
namespace L3
open L1
open C3
def m3(lo:Int)(k:Nat):List Int:=(List.range k).map fun i:Nat=>lo+(i:Int)
theorem HX{s n lo hi:Int}(h:s≠n):dL s n lo hi=[s]:=by unfold dL;rw[if_pos h]
theorem KQ{s n lo hi:Int}(h:¬s≠n):dL s n lo hi=m3 lo (hi+1-lo).toNat:=by unfold dL;rw[if_neg h];rfl
theorem iS(n lo hi:Int)(D:aA):Fn Tryz.prog 59 #[.int .i64 n,.int .i64 lo,.int .i64 hi] D (fun _ v=>v=.bool (C1.eY n lo hi)):=by
 refine enter 15 Tryz.func59 rfl rfl rfl rfl fun h0=>Zy (C.rg (Zj rfl (Zo (Zx (Zy (C.rg (Za rfl (Za rfl (gV rfl rfl rfl rfl trivial (Za rfl ?_))))))))))
 refine' dA [(false,4),(false,5),(false,6),(false,7)] [(false,8)] (s:=10) (p:=14) rfl rfl (fun hg1=>?_) (fun hg1=>?_) ?_;rotate_left
 ·refine Zb rfl (Zb rfl (gV rfl rfl rfl rfl ⟨_,rfl,rfl⟩ (Zv rfl ?_)));exact aF fun a w hh=>hh.cutK 3 rfl
 ·refine Zi rfl (Zi rfl (Zi rfl (Zw rfl ?_)));exact aF fun a w hh=>hh.cutK 3 rfl
 refine Zj rfl (Zo (Zx (aC ?_)));exact Zc [_] rfl ⟨rfl,trivial⟩ (fun D hD=>rfl)
theorem W8(sv:Value)(x:Int)(xs:List Int)(D:aA)(hS:Sl D RI 1 sv (x::xs)):
  Fn Tryz.prog 62 #[sv] D (fun _ v=>v=.int .i64 (xs.foldl min x)):=by
 refine enter 5 Tryz.func62 rfl rfl rfl rfl fun h0=>Zy (C.rg (Zj rfl (Zo (Zx (Zy (C.rg (Za rfl (Zd rfl (fun D1 hD1=>xX _ x xs _ (Sl.at RI.up hD1 Yl Ye)) (Zj rfl (Zo ?_))))))))));refine Zx (aC ?_)
 exact Zc [_] rfl ⟨rfl,trivial⟩ (fun D hD=>rfl)
theorem zS(sv fv:Value)(xs:List iD)(p:iD→Bool)(D:aA)(hS:Sl D oB 3 sv xs)(hp:bM Tryz.prog D p6 fv p):
  Fn Tryz.prog 173 #[sv,fv] D (fun _ v=>v=.int .i64 (idxOf p xs)):=by
 have hl:=hS.len;obtain⟨f,c1,c2,rfl,hf⟩:=hp;refine enter 19 Tryz.func173 rfl rfl rfl rfl fun h0=>Zy (C.rg (Zj rfl (Zo (Zx (Zy (Zy (C.rg (Za rfl (aY rfl U33 rfl Yl rfl rfl trivial (Za rfl ?_))))))))));refine Zo (Zx (Zae (bS (γ:=Nat) (fun k=>xs.length-k) (fun k=>k≤xs.length∧(xs.take k).any p=false) (fun k=>[(8,.int .i64 k)]) [(7,_),(4,_),(0,_),(1,_)] (fun k=>[D]) 0 Ye ⟨Yb,trivial⟩ C.rs (aG) ?_)))
 rintro k ⟨h1,h2⟩;refine Zy (C.rg (Zaa rfl (Zo (Zx (Zy (aH rfl (fun hc1=>?_) (fun hc1=>?_)))))))
 ·have hk:k<xs.length:=by omega
  obtain⟨x,hx⟩:∃x,xs[k]?= some x:=⟨_,List.getElem?_eq_getElem hk⟩
  refine Zac (Zx (Zy (Zae (Zy (C.rg (Za rfl (Zj rfl (Zo (Zx (Zy (C.rg ?_)))))))))));refine Za rfl (Za rfl (Za rfl (aJ rfl U33 Tf.s134 rfl Yl rfl Yd Yl rfl trivial (fun b1 o1 cs1 hr1 hcl1 hA1=>?_))));obtain rfl:cs1=[.int .i64 _,.int .i64 _,.int .i64 _]:=hr1;refine Zq rfl Tf.a134 rfl hA1 Tf.s134 (Zd rfl (fun D1 hD1=>hf x _ (hD1 _ Ye)) (Zo (Zx (aP rfl (fun hc2=>?_) (fun hc2=>?_)))))
  ·refine Zy (C.rg (Za rfl (Zj rfl (Zo (Zx (aC (aD (Zad (Zad (aD (Zad ?_)))))))))));exact Zc [_] rfl ⟨rfl,trivial⟩ (fun D hD=>by show Value.int _ _=_;rw[fV hx h2 hc2])
  ·refine Zac (Zag (Zx (C.rg (Zt rfl (Za rfl (Zo ?_))))));have hpx:p x=false:=hc2;have h3:(xs.take (k+1)).any p=false:=by rw[List.take_add_one,hx,List.any_append,h2];simp[hpx]
   exact aN 12 (k+1) ⟨by omega,h3⟩ Yd ⟨Yb,trivial⟩ rfl rfl (List.Sublist.refl _) (aG)
 ·refine aZ (Zaf (Zaf (aE (Zx (Zy (C.rg (Zj rfl (Zo (Zx (aC ?_))))))))));exact Zc [_] rfl ⟨rfl,trivial⟩ (fun D hD=>by show Value.int _ _=_;rw[dX Yx])
theorem tM(sv fv:Value)(xs:List iD)(p:iD→Bool)(D:aA)(hS:Sl D oB 3 sv xs)(hp:bM Tryz.prog D p6 fv p):
  Fn Tryz.prog 105 #[sv,fv] D (fun _ v=>v=.bool (xs.any p)):=by
 refine enter 9 Tryz.func105 rfl rfl rfl rfl fun h0=>Zy (C.rg (Zj rfl (Zo (Zx (Zy (C.rg (Za rfl (Za rfl (Zd rfl (fun D1 hD1=>zS _ _ xs p _ (Sl.at oB.up hD1 Yl Ye) (hp.up (hD1 _ Ye))) (kX rfl rfl rfl rfl trivial ?_))))))))));refine Zj rfl (Zo (Zx (aC ?_)))
 exact Zc [_] rfl ⟨rfl,trivial⟩ (fun D hD=>by show Value.bool (decide _)=_;rw[fT])
theorem HU(b:Nat)(fv:Value)(p:iD→Bool)(x:iD)(D:aA)(hp:bM Tryz.prog D p6 fv p)(hB:At D b 0 [fv]):
  Fn Tryz.prog 106 #[p6 x,.pointer (some ⟨b,0,none⟩)] D (fun _ v=>v=.bool (!p x)):=by
 obtain⟨f,c1,c2,rfl,hf⟩:=hp;refine enter 8 Tryz.func106 rfl rfl rfl rfl fun h0=>Zy (C.rg (Zr rfl (fun q1 E1 hE1 hB1=>Zj rfl (Zo (Zx (Zy (C.rg (Zg 0 rfl Tf.a129 rfl hB rfl (Zq rfl Tf.a134 rfl hB1 Tf.s134 (Zd rfl (fun D1 hD1=>hf x _ (hD1 _ Ye)) ?_))))))))));refine bV rfl rfl rfl trivial (Zj rfl (Zo (Zx (aC ?_))))
 exact Zc [_] rfl ⟨rfl,trivial⟩ (fun D hD=>rfl)
theorem NM(sv fv:Value)(xs:List iD)(p:iD→Bool)(D:aA)(hS:Sl D oB 3 sv xs)(hp:bM Tryz.prog D p6 fv p)(h1:fv.cells=#[fv]):
  Fn Tryz.prog 60 #[sv,fv] D (fun _ v=>v=.bool (xs.all p)):=by
 refine enter 9 Tryz.func60 rfl rfl rfl rfl fun h0=>Zy (C.rg (kM (vs:=[fv]) rfl rfl h1 rfl trivial (fun b D1 hD1 hB=>Zj rfl (Zo (Zx (Zy (C.rg (Za rfl (bH rfl rfl rfl rfl trivial (Zd rfl (fun D1 hD1=>tM _ _ xs (fun x=> !p x) _ (Sl.at oB.up hD1 Yl Ye) ⟨_,[],[.pointer (some ⟨b,0,none⟩)],rfl,fun x D2 hl=>HU b fv p x D2 (hp.up ((hD1 _ Ye).trans hl)) (hB.up ((hD1 _ Ye).trans hl))⟩) ?_))))))))));refine bV rfl rfl rfl trivial (Zj rfl (Zo (Zx (aC ?_))))
 exact Zc [_] rfl ⟨rfl,trivial⟩ (fun D hD=>by show Value.bool (!_)=_;rw[iR])
theorem zG(sv fv:Value)(xs:List Cn)(p:Cn→Bool)(D:aA)(hS:Sl D oR 3 sv xs)(hp:bM Tryz.prog D SF fv p):
  Fn Tryz.prog 174 #[sv,fv] D (fun _ v=>v=.int .i64 (idxOf p xs)):=by
 have hl:=hS.len;obtain⟨f,c1,c2,rfl,hf⟩:=hp;refine enter 19 Tryz.func174 rfl rfl rfl rfl fun h0=>Zy (C.rg (Zj rfl (Zo (Zx (Zy (Zy (C.rg (Za rfl (aY rfl U34 rfl Yl rfl rfl trivial (Za rfl ?_))))))))));refine Zo (Zx (Zae (bS (γ:=Nat) (fun k=>xs.length-k) (fun k=>k≤xs.length∧(xs.take k).any p=false) (fun k=>[(8,.int .i64 k)]) [(7,_),(4,_),(0,_),(1,_)] (fun k=>[D]) 0 Ye ⟨Yb,trivial⟩ C.rs (aG) ?_)))
 rintro k ⟨h1,h2⟩;refine Zy (C.rg (Zaa rfl (Zo (Zx (Zy (aH rfl (fun hc1=>?_) (fun hc1=>?_)))))))
 ·have hk:k<xs.length:=by omega
  obtain⟨x,hx⟩:∃x,xs[k]?= some x:=⟨_,List.getElem?_eq_getElem hk⟩
  refine Zac (Zx (Zy (Zae (Zy (C.rg (Za rfl (Zj rfl (Zo (Zx (Zy (C.rg ?_)))))))))));refine Za rfl (Za rfl (Za rfl (aJ rfl U34 Tf.s137 rfl Yl rfl Yd Yl rfl trivial (fun b1 o1 cs1 hr1 hcl1 hA1=>?_))));obtain rfl:cs1=[.int .i64 _,.int .i64 _,.int .i64 _]:=hr1;refine Zq rfl Tf.a137 rfl hA1 Tf.s137 (Zd rfl (fun D1 hD1=>hf x _ (hD1 _ Ye)) (Zo (Zx (aP rfl (fun hc2=>?_) (fun hc2=>?_)))))
  ·refine Zy (C.rg (Za rfl (Zj rfl (Zo (Zx (aC (aD (Zad (Zad (aD (Zad ?_)))))))))));exact Zc [_] rfl ⟨rfl,trivial⟩ (fun D hD=>by show Value.int _ _=_;rw[fV hx h2 hc2])
  ·refine Zac (Zag (Zx (C.rg (Zt rfl (Za rfl (Zo ?_))))));have hpx:p x=false:=hc2;have h3:(xs.take (k+1)).any p=false:=by rw[List.take_add_one,hx,List.any_append,h2];simp[hpx]
   exact aN 12 (k+1) ⟨by omega,h3⟩ Yd ⟨Yb,trivial⟩ rfl rfl (List.Sublist.refl _) (aG)
 ·refine aZ (Zaf (Zaf (aE (Zx (Zy (C.rg (Zj rfl (Zo (Zx (aC ?_))))))))));exact Zc [_] rfl ⟨rfl,trivial⟩ (fun D hD=>by show Value.int _ _=_;rw[dX Yx])
theorem tK(sv fv:Value)(xs:List Cn)(p:Cn→Bool)(D:aA)(hS:Sl D oR 3 sv xs)(hp:bM Tryz.prog D SF fv p):
  Fn Tryz.prog 107 #[sv,fv] D (fun _ v=>v=.bool (xs.any p)):=by
 refine enter 9 Tryz.func107 rfl rfl rfl rfl fun h0=>Zy (C.rg (Zj rfl (Zo (Zx (Zy (C.rg (Za rfl (Za rfl (Zd rfl (fun D1 hD1=>zG _ _ xs p _ (Sl.at oR.up hD1 Yl Ye) (hp.up (hD1 _ Ye))) (kX rfl rfl rfl rfl trivial ?_))))))))));refine Zj rfl (Zo (Zx (aC ?_)))
 exact Zc [_] rfl ⟨rfl,trivial⟩ (fun D hD=>by show Value.bool (decide _)=_;rw[fT])
theorem JR(b:Nat)(fv:Value)(p:Cn→Bool)(x:Cn)(D:aA)(hp:bM Tryz.prog D SF fv p)(hB:At D b 0 [fv]):
  Fn Tryz.prog 108 #[SF x,.pointer (some ⟨b,0,none⟩)] D (fun _ v=>v=.bool (!p x)):=by
 obtain⟨f,c1,c2,rfl,hf⟩:=hp;refine enter 8 Tryz.func108 rfl rfl rfl rfl fun h0=>Zy (C.rg (Zr rfl (fun q1 E1 hE1 hB1=>Zj rfl (Zo (Zx (Zy (C.rg (Zg 0 rfl Tf.a130 rfl hB rfl (Zq rfl Tf.a137 rfl hB1 Tf.s137 (Zd rfl (fun D1 hD1=>hf x _ (hD1 _ Ye)) ?_))))))))));refine bV rfl rfl rfl trivial (Zj rfl (Zo (Zx (aC ?_))))
 exact Zc [_] rfl ⟨rfl,trivial⟩ (fun D hD=>rfl)
theorem OZ(sv fv:Value)(xs:List Cn)(p:Cn→Bool)(D:aA)(hS:Sl D oR 3 sv xs)(hp:bM Tryz.prog D SF fv p)(h1:fv.cells=#[fv]):
  Fn Tryz.prog 61 #[sv,fv] D (fun _ v=>v=.bool (xs.all p)):=by
 refine enter 9 Tryz.func61 rfl rfl rfl rfl fun h0=>Zy (C.rg (kM (vs:=[fv]) rfl rfl h1 rfl trivial (fun b D1 hD1 hB=>Zj rfl (Zo (Zx (Zy (C.rg (Za rfl (bH rfl rfl rfl rfl trivial (Zd rfl (fun D1 hD1=>tK _ _ xs (fun x=> !p x) _ (Sl.at oR.up hD1 Yl Ye) ⟨_,[],[.pointer (some ⟨b,0,none⟩)],rfl,fun x D2 hl=>JR b fv p x D2 (hp.up ((hD1 _ Ye).trans hl)) (hB.up ((hD1 _ Ye).trans hl))⟩) ?_))))))))));refine bV rfl rfl rfl trivial (Zj rfl (Zo (Zx (aC ?_))))
 exact Zc [_] rfl ⟨rfl,trivial⟩ (fun D hD=>by show Value.bool (!_)=_;rw[iR])
theorem JQ(bv:Value)(b:eU)(l:iD)(D:aA)(hb:pS D bv b)(hn:0≤b.chairs∧b.chairs≤100):Fn Tryz.prog 57 #[bv,p6 l] D (fun _ v=>v=.bool (tF b.chairs l)):=by
 obtain⟨lv,cv,rfl,hl,hc⟩:=hb;refine enter 24 Tryz.func57 rfl rfl rfl rfl fun h0=>Zy (C.rg (Zr rfl (fun q1 E1 hE1 hB1=>Zr rfl (fun q2 E2 hE2 hB2=>Zj rfl (Zo (Zx (Zy (C.rg (Zk rfl Tf.f134_0 rfl (Zg 0 rfl Tf.a3 rfl hB2 rfl ?_))))))))));refine Zd rfl (fun D1 hD1=>iS _ _ _ _) (Za rfl ?_)
 refine' dA [(false,4),(false,5),(false,6),(false,7),(false,8),(false,9),(false,10)] [(false,11),(false,12),(false,13),(false,14),(false,15),(false,16),(false,17),(false,18),(false,19)] (s:=8) (p:=15) rfl rfl (fun hg1=>?_) (fun hg1=>?_) ?_;rotate_left
 ·refine Zl rfl Tf.f134_1 rfl (Zh 1 rfl Tf.a3 rfl hB2 rfl (Zl rfl Tf.f36_0 rfl (Zh 0 rfl Tf.a3 rfl hB1 rfl (fW rfl rfl rfl Yf rfl ⟨_,rfl,rfl⟩ (Ze rfl (fun D2 hD2=>iS _ _ _ _) (Zv rfl ?_))))));exact aF fun a w hh=>hh.cutK 6 rfl
 ·refine Zi rfl (Zi rfl (Zi rfl (Zi rfl (Zi rfl (Zi rfl (Zw rfl ?_))))));exact aF fun a w hh=>hh.cutK 6 rfl
 refine Za rfl ?_;refine' dA [(false,12),(false,13),(false,14),(false,15),(false,16),(false,17),(false,18)] [(false,19)] (s:=16) (p:=23) rfl rfl (fun hg2=>?_) (fun hg2=>?_) ?_;rotate_left
 ·refine Zl rfl Tf.f134_2 rfl (Zh 2 rfl Tf.a3 rfl hB2 rfl (Zl rfl Tf.f36_0 rfl (Zh 0 rfl Tf.a3 rfl hB1 rfl (fW rfl rfl rfl Yf rfl ⟨_,rfl,rfl⟩ (Ze rfl (fun D3 hD3=>iS _ _ _ _) (Zv rfl ?_))))));exact aF fun a w hh=>hh.cutK 6 rfl
 ·refine Zi rfl (Zi rfl (Zi rfl (Zi rfl (Zi rfl (Zi rfl (Zw rfl ?_))))));exact aF fun a w hh=>hh.cutK 6 rfl
 refine Zj rfl (Zo (Zx (aC ?_)));exact Zc [_] rfl ⟨rfl,trivial⟩ (fun D hD=>rfl)
theorem DD(bv:Value)(b:eU)(c:Cn)(D:aA)(hb:pS D bv b):Fn Tryz.prog 58 #[bv,SF c] D (fun _ v=>v=.bool (kV b.lines.length c)):=by
 obtain⟨lv,cv,rfl,hl,hc⟩:=hb;refine enter 31 Tryz.func58 rfl rfl rfl rfl fun h0=>Zy (C.rg (Zr rfl (fun q1 E1 hE1 hB1=>Zr rfl (fun q2 E2 hE2 hB2=>Zj rfl (Zo (Zx (Zy (C.rg (Zk rfl Tf.f137_1 rfl (gC rfl (k:=1) Tf.a109 Tf.s109 rfl hB2 Yc rfl rfl List.not_mem_nil rfl trivial ?_))))))))));refine Zu rfl Tf.z109 rfl (fun q3=>Zs rfl Tf.s109 (cY.head) (Zo (Zx (Zy (C.rg (Zk rfl Tf.f137_0 rfl (Zg 0 rfl Tf.a3 rfl hB2 rfl (Zk rfl Tf.f36_3 rfl (Zg 3 rfl Tf.a33 rfl hB1 rfl (aY rfl U33 rfl hl rfl rfl trivial (Zd rfl (fun D1 hD1=>iS _ _ _ _) ?_)))))))))));refine Za rfl ?_
 refine' dA [(false,7),(false,8),(false,9),(false,10)] [(false,11),(false,12),(false,13),(false,14),(false,15),(false,16),(false,17),(false,18),(false,19),(false,20),(false,21),(false,22),(false,23)] (s:=14) (p:=18) rfl rfl (fun hg1=>?_) (fun hg1=>?_) ?_;rotate_left
 ·refine Zl rfl Tf.f109_0 rfl (aU rfl Tf.a3 rfl (List.Mem.head _) rfl List.not_mem_nil rfl ⟨_,rfl,rfl⟩ (gV rfl rfl rfl rfl ⟨_,rfl,rfl⟩ (Zv rfl ?_)));exact aF fun a w hh=>hh.cutK 3 rfl
 ·refine Zi rfl (Zi rfl (Zi rfl (Zw rfl ?_)));exact aF fun a w hh=>hh.cutK 3 rfl
 refine Za rfl ?_;refine' dA [(false,12),(false,13),(false,14),(false,15),(false,16),(false,17)] [(false,18),(false,19),(false,20),(false,21),(false,22),(false,23)] (s:=19) (p:=25) rfl rfl (fun hg2=>?_) (fun hg2=>?_) ?_;rotate_left
 ·refine Zl rfl Tf.f109_0 rfl (aU rfl Tf.a3 rfl (List.Mem.head _) rfl List.not_mem_nil rfl ⟨_,rfl,rfl⟩ (Zl rfl Tf.f109_1 rfl (aU rfl Tf.a3 rfl (List.Mem.head _) rfl List.not_mem_nil rfl ⟨_,rfl,rfl⟩ (gV rfl rfl rfl rfl ⟨_,rfl,rfl⟩ (Zv rfl ?_)))));exact aF fun a w hh=>hh.cutK 5 rfl
 ·refine Zi rfl (Zi rfl (Zi rfl (Zi rfl (Zi rfl (Zw rfl ?_)))));exact aF fun a w hh=>hh.cutK 5 rfl
 refine Za rfl ?_;refine' dA [(false,19),(false,20),(false,21),(false,22)] [(false,23)] (s:=26) (p:=30) rfl rfl (fun hg3=>?_) (fun hg3=>?_) ?_;rotate_left
 ·refine Zl rfl Tf.f109_1 rfl (aU rfl Tf.a3 rfl (List.Mem.head _) rfl List.not_mem_nil rfl ⟨_,rfl,rfl⟩ (gV rfl rfl rfl rfl ⟨_,rfl,rfl⟩ (Zv rfl ?_)));exact aF fun a w hh=>hh.cutK 3 rfl
 ·refine Zi rfl (Zi rfl (Zi rfl (Zw rfl ?_)));exact aF fun a w hh=>hh.cutK 3 rfl
 refine Zj rfl (Zo (Zx (aC ?_)));exact Zc [_] rfl ⟨rfl,trivial⟩ (fun D hD=>rfl)
theorem L9(s n lo hi:Int)(D:aA)(h1: -10≤lo∧lo≤10)(h2: -10≤hi∧hi≤100):Fn Tryz.prog 110 #[.int .i64 s,.int .i64 n,.int .i64 lo,.int .i64 hi] D (fun D' v=>Sl D' RI 1 v (dL s n lo hi)):=by
 refine enter 26 Tryz.func110 rfl rfl rfl rfl fun h0=>Zy (C.rg (Zj rfl (Zo (Zx (Zy (Zy (C.rg (Za rfl (Za rfl (dQ rfl rfl rfl rfl trivial ?_))))))))));refine Zo (Zx (aH rfl (fun hc1=>?_) (fun hc1=>?_)))
 ·refine Zy (C.rg (Za rfl (Zm rfl U25 Tf.s3 Tf.z3 rfl rfl rfl rfl (.cons rfl rfl .nil) (fun b901 D901 hD901 hA901=>?_))));have hS901:=Sl.ofInts (l:=[_]) (n:=1) (cap:=1) hA901 rfl Yd Yd;refine Zj rfl (Zo (Zx (aC (Zad ?_))));exact Zc [_] rfl ⟨rfl,trivial⟩ (fun D hD=>by rw[HX hc1];exact hS901.up RI.up (hD _ Ye))
 ·refine Zac (Zx (Zy (Zy (C.rg (Za rfl (Zj rfl (Zo (Zx (Zae (cZ (γ:=Nat×Value×aB) (fun g=>(hi+1-lo).toNat-g.1) (fun g=>g.1≤(hi+1-lo).toNat∧bC 3 1 g.2.1 g.1 (ints (m3 lo g.1)) g.2.2) (fun g=>[(8,g.2.1),(9,.int .i64 (lo+(g.1:Int)))]) [(3,_)] (fun g=>g.2.2++[]) (fun g=>[D]) (0,.slice none 0 0,[]) ⟨by simp,by simpa [ints,m3]using bC.nil⟩ ⟨Yb,Yb,trivial⟩ ⟨rfl,trivial⟩ (List.Sublist.refl _) (aG) ?_))))))))));rintro⟨k,v,ν⟩ ⟨h11,ha⟩;simp only at h11 ha;refine Zy (Zy (C.rg (Za rfl (Za rfl (gV rfl rfl rfl rfl trivial (Zo (Zx (aH rfl (fun hc2=>?_) (fun hc2=>?_)))))))))
  ·simp only at hc2;refine Zac (Zx (Zy (Zae (C.rg (Za rfl (Za rfl (Zm rfl U25 Tf.s3 Tf.z3 rfl rfl rfl rfl (.cons rfl rfl .nil) (fun b902 D902 hD902 hA902=>?_))))))));have hS902:=Sl.ofInts (l:=[_]) (n:=1) (cap:=1) hA902 rfl Yd Yd;refine aS (A:=[]) (B:=_) rfl U25 rfl rfl Tf.s3 Tf.z3 rfl Tf.i3 rfl rfl rfl ha (iG.lit hA902) Ye rfl (by simp[m3]) Ym Yd (Or.inl rfl) rfl trivial (fun v1 ν1 ha1=>?_);have ha2:bC 3 1 v1 (k+1) (ints (m3 lo (k+1))) ν1:=by unfold m3;rw[List.range_succ,List.map_append,List.map_singleton,←eG];exact ha1
   refine Zj rfl (Zo (Zag (Zx (C.rg (Za rfl (Zt rfl (Zj rfl (Zo ?_))))))));exact aN 13 (k+1,v1,ν1) ⟨by simp only;omega,ha2⟩ Yo ⟨rfl,(by show some (Value.int _ _)=some (Value.int _ _);congr 2;push_cast;omega),trivial⟩ rfl rfl (List.Sublist.refl _) (fun D h=>⟨D,List.Mem.tail _ (h),Le.refl D⟩)
  ·have hk:k=(hi+1-lo).toNat:=by simp only at hc2;omega
   rw[hk]at ha;refine aZ (Zaf (Zaf (aE (Zx (Zy (C.rg (Za rfl (Zj rfl (Zo (Zx (aC ?_)))))))))));refine eW (A:=[]) (B:=[]) ha rfl (fun D2 hD2 hF=>?_);exact Zc [_] rfl ⟨rfl,trivial⟩ (fun D hD=>by rw[KQ hc1];exact(hF.ints (by simp[m3]) Yd).up RI.up (hD _ Ye))
end L3
end Go.Fs
namespace Go.Fs
open Go.Proofs
namespace L3
open L1
open C3
def SG(n:Int)(l:iD)(x c:Int):List iD:=(dL l.token (-1) 0 (n-1)).map fun t=>⟨x,c,t⟩
def TW(n:Int)(l:iD)(x:Int):List iD:=(dL l.chair (-1) 0 (n-1)).flatMap (SG n l x)
def LT(n:Int)(l:iD)(k:Nat):List iD:=((dL l.kind 0 1 2).take k).flatMap (TW n l)
def JD(n:Int)(l:iD)(k:Nat)(x:Int)(j:Nat):List iD:=LT n l k++((dL l.chair (-1) 0 (n-1)).take j).flatMap (SG n l x)
def EA(n:Int)(l:iD)(k:Nat)(x:Int)(j:Nat)(c:Int)(i:Nat):List iD:=JD n l k x j++((dL l.token (-1) 0 (n-1)).take i).map fun t=>⟨x,c,t⟩
theorem AU{n:Int}{l:iD}:LT n l (dL l.kind 0 1 2).length=jG n l:=by unfold LT;rw[List.take_length];rfl
theorem HM{n:Int}{l:iD}{k:Nat}{x:Int}:JD n l k x 0=LT n l k:=by unfold JD;simp
theorem GO{n:Int}{l:iD}{k:Nat}{x:Int}{j:Nat}{c:Int}:EA n l k x j c 0=JD n l k x j:=by unfold EA;simp
theorem NU{n:Int}{l:iD}{k:Nat}{x:Int}(h:(dL l.kind 0 1 2)[k]?= some x):JD n l k x (dL l.chair (-1) 0 (n-1)).length=LT n l (k+1):=by
 unfold JD LT;rw[List.take_length,List.take_add_one,h,Option.toList_some,List.flatMap_append,List.flatMap_singleton];rfl
theorem NE{n:Int}{l:iD}{k:Nat}{x:Int}{j:Nat}{c:Int}(h:(dL l.chair (-1) 0 (n-1))[j]?= some c):EA n l k x j c (dL l.token (-1) 0 (n-1)).length=JD n l k x (j+1):=by
 unfold EA JD;rw[List.take_length,List.take_add_one,h,Option.toList_some,List.flatMap_append,List.flatMap_singleton,List.append_assoc];rfl
theorem LP{n:Int}{l:iD}{k:Nat}{x:Int}{j:Nat}{c:Int}{i:Nat}{t:Int}(h:(dL l.token (-1) 0 (n-1))[i]?= some t):EA n l k x j c (i+1)=EA n l k x j c i++[⟨x,c,t⟩]:=by
 unfold EA;rw[List.take_add_one,h,Option.toList_some,List.map_append,←List.append_assoc];rfl
theorem nR{s none lo hi:Int}{m:Nat}(h:hi+1-lo≤m)(h1:1≤m):(dL s none lo hi).length≤m:=by
 unfold dL;split
 ·simpa using h1
 ·simp;omega
theorem gX{α β:Type}{f:α→List β}{m:Nat}:∀(l:List α),(∀x∈l,(f x).length≤m)→(l.flatMap f).length≤l.length*m
 | [],_=>by simp
 |x::l,h=>by
  rw[List.flatMap_cons,List.length_append,List.length_cons,Nat.add_mul];have:=gX l fun y hy=>h y (List.mem_cons_of_mem _ hy)
  have:=h x List.mem_cons_self;omega
theorem y9{n:Int}{l:iD}(hn:n≤4)(x c:Int):(SG n l x c).length≤4:=by unfold SG;rw[List.length_map];exact nR Yd Yd
theorem NZ{n:Int}{l:iD}(hn:n≤4)(x:Int):(TW n l x).length≤16:=by
 unfold TW;have h1:=gX (m:=4) (f:=SG n l x) (dL l.chair (-1) 0 (n-1)) fun c _=>y9 hn x c
 have h2:=nR (s:=l.chair) (none:= -1) (lo:=0) (hi:=n-1) (m:=4) Yd Yd;omega
theorem AJ{n:Int}{l:iD}(hn:n≤4)(k:Nat):(LT n l k).length≤32:=by
 unfold LT;have h1:=gX (m:=16) (f:=TW n l) ((dL l.kind 0 1 2).take k) fun x _=>NZ hn x
 have h2:=nR (s:=l.kind) (none:=0) (lo:=1) (hi:=2) (m:=2) Yd Yd;have h3:((dL l.kind 0 1 2).take k).length≤(dL l.kind 0 1 2).length:=by rw[List.length_take];omega
 omega
theorem IH{n:Int}{l:iD}(hn:n≤4):(jG n l).length≤32:=by rw[←AU];exact AJ hn _
theorem MO{n:Int}{l:iD}{k:Nat}{x:Int}{j:Nat}{c:Int}{i:Nat}(hn:n≤4):(EA n l k x j c i).length≤60:=by
 unfold EA JD;rw[List.length_append,List.length_append,List.length_map];have h0:=AJ (l:=l) hn k;have h1:=gX (m:=4) (f:=SG n l x) ((dL l.chair (-1) 0 (n-1)).take j) fun c _=>y9 hn x c
 have h2:=nR (s:=l.chair) (none:= -1) (lo:=0) (hi:=n-1) (m:=4) Yd Yd;have h3:=nR (s:=l.token) (none:= -1) (lo:=0) (hi:=n-1) (m:=4) Yd Yd;have h4:((dL l.chair (-1) 0 (n-1)).take j).length≤4:=by rw[List.length_take];omega
 have h5:((dL l.token (-1) 0 (n-1)).take i).length≤4:=by rw[List.length_take];omega
 omega
def zH(l:List iD):List Value:=l.flatMap fun x=>[.int .i64 x.kind,.int .i64 x.chair,.int .i64 x.token]
theorem HG(l:List iD):(zH l).length=l.length*3:=by
 induction l with
 |nil=>rfl
 |cons c l ih=>unfold zH at ih ⊢;rw[List.flatMap_cons,List.length_append,ih];simp only[List.length_cons,List.length_nil];omega
theorem KM{l:List iD}{i:Nat}{c:iD}(hi:l[i]?= some c):((zH l).drop (i*3)).take 3=[.int .i64 c.kind,.int .i64 c.chair,.int .i64 c.token]:=by
  induction l generalizing i with
  |nil=>simp at hi
  |cons d l ih=>
    unfold zH at ih ⊢
    rw[List.flatMap_cons];cases i with
    | zero => obtain rfl : d = c := by simpa using hi
              rfl
    |succ i=>
      rw[List.drop_append,List.drop_eq_nil_of_le Yaa,List.nil_append];have:(i+1)*3- [Value.int .i64 d.kind,Value.int .i64 d.chair,Value.int .i64 d.token].length=i*3:=by simp;omega
      rw[this];exact ih (by simpa using hi)
theorem _root_.Go.Fs.kQ.lins{D:aA}{v:Value}{n:Nat}{l:List iD}(hF:kQ D v n (zH l))(hn:l.length=n)(hb:n≤9223372036854775807):Sl D oB 3 v l:=
 hF.sl hn hb fun _i _t hi=>⟨_,rfl,rfl,KM hi⟩
theorem W9(bv:Value)(b:eU)(l:iD)(D:aA)(hb:pS D bv b)(hn:1≤b.chairs∧b.chairs≤4):Fn Tryz.prog 63 #[bv,p6 l] D (fun D' v=>Sl D' oB 3 v (jG b.chairs l)):=by
 obtain⟨lv,cv,rfl,hl,hc⟩:=hb;refine enter 52 Tryz.func63 rfl rfl rfl rfl fun h0=>Zy (C.rg (Zr rfl (fun q1 E1 hE1 hB1=>Zr rfl (fun q2 E2 hE2 hB2=>Zj rfl (Zo (Zx (Zy (Zy (C.rg (Zk rfl Tf.f134_0 rfl ?_))))))))));refine Zg 0 rfl Tf.a3 rfl hB2 rfl (cW rfl rfl rfl (fun D1 hD1=>L9 _ _ _ _ _ Yd Yd) rfl trivial (fun v1 D1 hD1 hp1=>?_))
 have hw1:=hp1;refine aY rfl U25 rfl hw1 rfl rfl trivial (Za rfl (Zo (Zx (Zae (cZ (γ:=Nat×Value×aB) (fun g=>(dL l.kind 0 1 2).length-g.1) (fun g=>g.1≤(dL l.kind 0 1 2).length∧bC 134 3 g.2.1 (LT b.chairs l g.1).length (zH (LT b.chairs l g.1)) g.2.2) (fun g=>[(4,g.2.1),(15,.int .i64 (g.1:Int))]) [(14,_),(13,_),(3,_),(2,_)] (fun g=>g.2.2++[]) (fun g=>[D1,E2,E1,D]) (0,.slice none 0 0,[]) ⟨by simp,bC.nil⟩ ⟨Yb,Yb,trivial⟩ C.rs (List.Sublist.refl _) (aG) ?_)))));rintro⟨k,v,ν⟩ ⟨h1,ha1⟩;simp only at h1 ha1;refine Zy (C.rg (Zaa rfl (Zo (Zx (Zy (aH rfl (fun hc1=>?_) (fun hc1=>?_)))))))
 ·simp only at hc1;have hlw1:=hw1.len;obtain⟨x,hx1⟩:∃x,(dL l.kind 0 1 2)[k]?= some x:=⟨_,List.getElem?_eq_getElem Yd⟩
  refine Zac (Zx (Zy (Zae (Zy (C.rg (aJ rfl U25 Tf.s3 rfl hw1 rfl Yd hx1 rfl trivial (fun b1 o1 cs1 hr1 hcl1 hA1=>?_)))))));obtain rfl:cs1=[.int .i64 _]:=hr1;refine Zg 0 rfl Tf.a3 rfl hA1 rfl (Zj rfl (Zo (Zx (Zy (C.rg (Zk rfl Tf.f134_1 rfl (Zg 1 rfl Tf.a3 rfl hB2 rfl (Zk rfl Tf.f36_0 rfl (Zg 0 rfl Tf.a3 rfl hB1 rfl (fW rfl rfl rfl Yf rfl trivial (cW rfl rfl rfl (fun D2 hD2=>L9 _ _ _ _ _ Yd Yd) rfl trivial (fun v2 D2 hD2 hp2=>?_))))))))))));have hw2:=hp2;refine aY rfl U25 rfl hw2 rfl rfl trivial (Za rfl (Zo (Zx (Zae (cZ (γ:=Nat×Value×aB) (fun g=>(dL l.chair (-1) 0 (b.chairs-1)).length-g.1) (fun g=>g.1≤(dL l.chair (-1) 0 (b.chairs-1)).length∧bC 134 3 g.2.1 (JD b.chairs l k x g.1).length (zH (JD b.chairs l k x g.1)) g.2.2) (fun g=>[(4,g.2.1),(26,.int .i64 (g.1:Int))]) [(25,_),(24,_),(23,_),(22,_),(21,_),(20,_),(19,_),(6,_),(18,_),(17,_),(16,_),(15,_),(14,_),(13,_),(3,_),(2,_)] (fun g=>g.2.2++[]) (fun g=>[D2,D1,E2,E1,D]) (0,v,ν) ⟨by simp,by rw[HM];exact ha1⟩ ⟨Yb,Yb,trivial⟩ C.rs (List.Sublist.refl _) (aG) ?_)))))
  rintro⟨j,w,ν2⟩ ⟨h2,haJ⟩;simp only at h2 haJ;refine Zy (C.rg (Zaa rfl (Zo (Zx (Zy (aH rfl (fun hc2=>?_) (fun hc2=>?_)))))))
  ·simp only at hc2;have hlw2:=hw2.len;obtain⟨c,hx2⟩:∃x,(dL l.chair (-1) 0 (b.chairs-1))[j]?= some x:=⟨_,List.getElem?_eq_getElem Yd⟩
   refine Zac (Zx (Zy (Zae (Zy (C.rg (aJ rfl U25 Tf.s3 rfl hw2 rfl Yd hx2 rfl trivial (fun b2 o2 cs2 hr2 hcl2 hA2=>?_)))))));obtain rfl:cs2=[.int .i64 _]:=hr2;refine Zg 0 rfl Tf.a3 rfl hA2 rfl (Zj rfl (Zo (Zx (Zy (C.rg (Zk rfl Tf.f134_2 rfl (Zg 2 rfl Tf.a3 rfl hB2 rfl (Zk rfl Tf.f36_0 rfl (Zg 0 rfl Tf.a3 rfl hB1 rfl (fW rfl rfl rfl Yf rfl trivial (cW rfl rfl rfl (fun D3 hD3=>L9 _ _ _ _ _ Yd Yd) rfl trivial (fun v3 D3 hD3 hp3=>?_))))))))))));have hw3:=hp3;refine aY rfl U25 rfl hw3 rfl rfl trivial (Za rfl (Zo (Zx (Zae (cZ (γ:=Nat×Value×aB) (fun g=>(dL l.token (-1) 0 (b.chairs-1)).length-g.1) (fun g=>g.1≤(dL l.token (-1) 0 (b.chairs-1)).length∧bC 134 3 g.2.1 (EA b.chairs l k x j c g.1).length (zH (EA b.chairs l k x j c g.1)) g.2.2) (fun g=>[(4,g.2.1),(37,.int .i64 (g.1:Int))]) [(36,_),(35,_),(34,_),(33,_),(32,_),(31,_),(30,_),(8,_),(29,_),(28,_),(27,_),(26,_),(25,_),(24,_),(23,_),(22,_),(21,_),(20,_),(19,_),(6,_),(18,_),(17,_),(16,_),(15,_),(14,_),(13,_),(3,_),(2,_)] (fun g=>g.2.2++[]) (fun g=>[D3,D2,D1,E2,E1,D]) (0,w,ν2) ⟨by simp,by rw[GO];exact haJ⟩ ⟨Yb,Yb,trivial⟩ C.rs (List.Sublist.refl _) (aG) ?_)))))
   rintro⟨i,u,ν3⟩ ⟨h3,haI⟩;simp only at h3 haI;refine Zy (C.rg (Zaa rfl (Zo (Zx (Zy (aH rfl (fun hc3=>?_) (fun hc3=>?_)))))))
   ·simp only at hc3;have hlw3:=hw3.len;obtain⟨t,hx3⟩:∃x,(dL l.token (-1) 0 (b.chairs-1))[i]?= some x:=⟨_,List.getElem?_eq_getElem Yd⟩
    refine Zac (Zx (Zy (Zae (Zy (C.rg (aJ rfl U25 Tf.s3 rfl hw3 rfl Yd hx3 rfl trivial (fun b3 o3 cs3 hr3 hcl3 hA3=>?_)))))));obtain rfl:cs3=[.int .i64 _]:=hr3;refine Zg 0 rfl Tf.a3 rfl hA3 rfl (Zj rfl (Zo (Zx (C.rg (Za rfl (Za rfl (Za rfl (Za rfl (Zp [.int .i64 x,.int .i64 c,.int .i64 t] rfl Tf.p134 Tf.z134 rfl rfl (Zm rfl U33 Tf.s134 Tf.z134 rfl rfl rfl rfl (.cons rfl rfl .nil) (fun b901 D901 hD901 hA901=>?_)))))))))));have hli:=MO (n:=b.chairs) (l:=l) (k:=k) (x:=x) (j:=j) (c:=c) (i:=i) Yd;refine aS (A:=[]) (B:=[]) rfl U33 rfl rfl Tf.s134 Tf.z134 rfl Tf.i134 rfl rfl rfl haI (iG.lit hA901) Ye rfl (HG _) Ym Yd (Or.inl rfl) rfl trivial (fun v7 ν7 ha7=>?_);have hn7:bC 134 3 v7 (EA b.chairs l k x j c (i+1)).length (zH (EA b.chairs l k x j c (i+1))) ν7:=by rw[LP hx3];simpa [zH]using ha7
    refine Zj rfl (Zo (Zag (Zx (C.rg (Zt rfl (Za rfl (Zo ?_)))))));exact aN 16 (i+1,v7,ν7) ⟨by simp only;omega,hn7⟩ Yo ⟨Yb,Yb,trivial⟩ rfl rfl (List.Sublist.refl _) (fun D h=>⟨D,List.Mem.tail _ (h),Le.refl D⟩)
   ·have hi:i=(dL l.token (-1) 0 (b.chairs-1)).length:=by simp only at hc3;omega
    rw[hi,NE hx2]at haI;refine aZ (Zaf (Zaf (aE (Zag (Zx (C.rg (Zt rfl (Za rfl (Zo ?_)))))))));exact aN 17 (j+1,u,ν3) ⟨by simp only;omega,haI⟩ Yo ⟨Yb,Yb,trivial⟩ rfl rfl (List.Sublist.refl _) (fun D h=>⟨D,List.Mem.tail _ (h),Le.refl D⟩)
  ·have hj:j=(dL l.chair (-1) 0 (b.chairs-1)).length:=by simp only at hc2;omega
   rw[hj,NU hx1]at haJ;refine aZ (Zaf (Zaf (aE (Zag (Zx (C.rg (Zt rfl (Za rfl (Zo ?_)))))))));exact aN 17 (k+1,w,ν2) ⟨by simp only;omega,haJ⟩ Yo ⟨Yb,Yb,trivial⟩ rfl rfl (List.Sublist.refl _) (fun D h=>⟨D,List.Mem.tail _ (h),Le.refl D⟩)
 ·have hk:k=(dL l.kind 0 1 2).length:=by simp only at hc1;omega
  rw[hk,AU]at ha1;refine aZ (Zaf (Zaf (aE (Zx (Zy (C.rg (Za rfl (Zj rfl (Zo (Zx (aC ?_)))))))))));refine eW (A:=[]) (B:=[]) ha1 rfl (fun D2 hD2 hF=>?_);exact Zc [_] rfl ⟨rfl,trivial⟩ (fun D hD=>(hF.lins rfl (by have:=IH (l:=l) hn.2;omega)).up oB.up (hD _ Ye))
end L3
end Go.Fs
namespace Go.Fs
open Go.Proofs
namespace L3
open L1
open C3
theorem SX{b:eU}(h:((!C1.eY b.chairs 1 4|| !C1.eY b.coin 1 99)|| !C1.eY b.box 0 999)=false):1≤b.chairs∧b.chairs≤4:=by
 simp only[Bool.or_eq_false_iff,Bool.not_eq_false',C1.bT]at h;exact h.1.1
theorem SK{b:eU}(h:((((!C1.eY b.chairs 1 4|| !C1.eY b.coin 1 99)|| !C1.eY b.box 0 999)|| !b.lines.all (tF b.chairs))|| !b.counts.all (kV b.lines.length))=false):tR b=true∧1≤b.chairs∧b.chairs≤4:=by
 simp only[Bool.or_eq_false_iff,Bool.not_eq_false']at h;obtain⟨⟨⟨⟨h1,h2⟩,h3⟩,h4⟩,h5⟩:=h;exact⟨by unfold tR;rw[h1,h2,h3,h4,h5];rfl,(C1.bT.1 h1)⟩
theorem f8{b:eU}(h:(decide ((8:Int)<b.lines.length)||decide ((4:Int)<b.counts.length))=false):¬(8<b.lines.length∨4<b.counts.length):=by
 simp only[Bool.or_eq_false_iff,decide_eq_false_iff_not]at h;omega
theorem KJ{b:eU}(h:(decide ((8:Int)<b.lines.length)||decide ((4:Int)<b.counts.length))=true):aV b=3:=by
 simp only[Bool.or_eq_true,decide_eq_true_eq]at h;unfold aV;rw[if_pos Yd]
theorem QU{b:eU}(h:(decide ((8:Int)<b.lines.length)||decide ((4:Int)<b.counts.length))=false)(h2:((((!C1.eY b.chairs 1 4|| !C1.eY b.coin 1 99)|| !C1.eY b.box 0 999)|| !b.lines.all (tF b.chairs))|| !b.counts.all (kV b.lines.length))=true):aV b=1:=by
 unfold aV;rw[if_neg (f8 h),if_pos]
 revert h2;unfold tR
 generalize C1.eY b.chairs 1 4=x,C1.eY b.coin 1 99=y,C1.eY b.box 0 999=z,b.lines.all (tF b.chairs)=u,b.counts.all (kV b.lines.length)=w;cases x<;>cases y<;>cases z<;>cases u<;>cases w<;>decide
theorem MN{b:eU}(h:(decide ((8:Int)<b.lines.length)||decide ((4:Int)<b.counts.length))=false)(h2:tR b=true)(h3:rD b.chairs b.lines>4096):aV b=3:=by
 unfold aV;rw[if_neg (f8 h),if_neg (by rw[h2];simp),if_pos h3]
theorem NT{b:eU}(h:(decide ((8:Int)<b.lines.length)||decide ((4:Int)<b.counts.length))=false)(h2:tR b=true)(h3:¬rD b.chairs b.lines>4096):aV b=0:=by
 unfold aV;rw[if_neg (f8 h),if_neg (by rw[h2];simp),if_neg h3]
theorem l5{n:Int}{ls:List iD}{i:Nat}{x:iD}(hx:ls[i]?= some x):rD n (ls.take (i+1))=min (rD n (ls.take i)*(jG n x).length) 4097:=by
 unfold rD;rw[List.take_add_one,hx,Option.toList_some,List.foldl_append];rfl
theorem FJ(n:Int)(ls:List iD):0≤rD n ls∧rD n ls≤4097:=by
 unfold rD;have key:∀(l:List iD) (m:Int),0≤m∧m≤4097→0≤l.foldl (fun(m:Int) l=>min (m*((jG n l).length:Int)) 4097) m∧l.foldl (fun(m:Int) l=>min (m*((jG n l).length:Int)) 4097) m≤4097:=by
  intro l;induction l with
  |nil=>intro m h;exact h
  |cons x l ih=>
   intro m h;rw[List.foldl_cons];refine ih _ ⟨?_,by omega⟩;have:0≤m*((jG n x).length:Int):=Int.mul_nonneg h.1 Yd;omega
 exact key ls 1 Yd
theorem SD{m:Int}{k:Nat}(h:0≤m∧m≤4097)(hk:k≤32):qD .i64 (m*(k:Int)):=by
 have h1:0≤m*(k:Int):=Int.mul_nonneg h.1 Yd;have h2:m*(k:Int)≤4097*32:=Int.mul_le_mul h.2 Yd Yd Yd;simp only[qD];omega
theorem O4(bv:Value)(b:eU)(D:aA)(hb:pS D bv b):Fn Tryz.prog 23 #[bv] D (fun _ v=>v=.int .i64 (aV b)):=by
 have hb0:=hb;obtain⟨lv,cv,rfl,hl,hc⟩:=hb;have hll:=hl.len;refine enter 72 Tryz.func23 rfl rfl rfl rfl fun h0=>Zy (C.rg (Zr rfl (fun q1 E1 hE1 hB1=>Zj rfl (Zo (Zx (Zy (C.drawA [] 1 6 28 (fun _ _ _ h=>dI (P:=Tryz.prog) (fn:=Tryz.f23) _ _ _ h) (Zq rfl Tf.a36 rfl hB1 Tf.s36 (bH rfl rfl rfl rfl trivial (Zq rfl Tf.a36 rfl hB1 Tf.s36 ?_))))))))));refine bH rfl rfl rfl rfl trivial (Zj rfl (Zj rfl (Zo (Zx (Zy (Zae (Zy (C.rg (Zk rfl Tf.f36_3 rfl (Zg 3 rfl Tf.a33 rfl hB1 rfl (aY rfl U33 rfl hl rfl rfl trivial ?_)))))))))));refine dO rfl rfl rfl rfl trivial (Za rfl ?_)
 refine' eI [(false,5),(false,6),(false,7),(false,8),(false,9)] [(false,10)] (s:=17) (p:=22) rfl rfl (fun hg1=>?_) (fun hg1=>?_) ?_;rotate_left
 ·refine Zl rfl Tf.f36_4 rfl (Zh 4 rfl Tf.a34 rfl hB1 rfl (aY rfl U34 rfl hc rfl rfl ⟨_,rfl,rfl⟩ (dO rfl rfl rfl rfl ⟨_,rfl,rfl⟩ (Zw rfl ?_))));exact aF fun a w hh=>hh.cutK 4 rfl
 ·refine Zi rfl (Zi rfl (Zi rfl (Zi rfl (Zv rfl ?_))));exact aF fun a w hh=>hh.cutK 4 rfl
 refine Zj rfl (Zo (Zx (aP rfl (fun hc1=>?_) (fun hc1=>?_))))
 ·refine Zy (C.rg (Zj rfl (Zo (Zx (aC (aD (Zad ?_)))))));exact Zc [_] rfl ⟨rfl,trivial⟩ (fun D hD=>by show Value.int _ _=_;rw[KJ hc1])
 ·refine Zy (C.rg (Zk rfl Tf.f36_0 rfl (Zg 0 rfl Tf.a3 rfl hB1 rfl (Zd rfl (fun D1 hD1=>iS _ _ _ _) (bV rfl rfl rfl trivial (Za rfl ?_))))));refine' eI [(false,5),(false,6),(false,7),(false,8),(false,9)] [(false,10),(false,11),(false,12),(false,13),(false,14),(false,15),(false,16),(false,17),(false,18),(false,19),(false,20),(false,21),(false,22),(false,23),(false,24),(false,25),(false,26),(false,27),(false,28),(false,29),(false,30)] (s:=28) (p:=33) rfl rfl (fun hg2=>?_) (fun hg2=>?_) ?_;rotate_left
  ·refine Zl rfl Tf.f36_1 rfl (Zh 1 rfl Tf.a3 rfl hB1 rfl (Ze rfl (fun D2 hD2=>iS _ _ _ _) (bV rfl rfl rfl ⟨_,rfl,rfl⟩ (Zw rfl ?_))));exact aF fun a w hh=>hh.cutK 4 rfl
  ·refine Zi rfl (Zi rfl (Zi rfl (Zi rfl (Zv rfl ?_))));exact aF fun a w hh=>hh.cutK 4 rfl
  refine Za rfl ?_;refine' eI [(false,11),(false,12),(false,13),(false,14),(false,15)] [(false,16),(false,17),(false,18),(false,19),(false,20),(false,21),(false,22),(false,23),(false,24),(false,25),(false,26),(false,27),(false,28),(false,29),(false,30)] (s:=34) (p:=39) rfl rfl (fun hg3=>?_) (fun hg3=>?_) ?_;rotate_left
  ·refine Zl rfl Tf.f36_2 rfl (Zh 2 rfl Tf.a3 rfl hB1 rfl (Ze rfl (fun D3 hD3=>iS _ _ _ _) (bV rfl rfl rfl ⟨_,rfl,rfl⟩ (Zw rfl ?_))));exact aF fun a w hh=>hh.cutK 4 rfl
  ·refine Zi rfl (Zi rfl (Zi rfl (Zi rfl (Zv rfl ?_))));exact aF fun a w hh=>hh.cutK 4 rfl
  refine Za rfl ?_;refine' eI [(false,17),(false,18),(false,19),(false,20),(false,21),(false,22)] [(false,23),(false,24),(false,25),(false,26),(false,27),(false,28),(false,29),(false,30)] (s:=40) (p:=46) rfl rfl (fun hg4=>?_) (fun hg4=>?_) ?_;rotate_left
  ·have hch:=SX hg4;refine Zl rfl Tf.f36_3 rfl (Zh 3 rfl Tf.a33 rfl hB1 rfl (Zb rfl (Ze rfl (fun D4 hD4=>NM _ _ _ (tF b.chairs) _ (Sl.at oB.up hD4 Yl Ye) ⟨_,[_],[],rfl,fun r D2 hl=>JQ _ b r D2 (hb0.up ((hD4 _ Ye).trans hl)) Yd⟩ rfl) (bV rfl rfl rfl ⟨_,rfl,rfl⟩ (Zw rfl ?_)))));exact aF fun a w hh=>hh.cutK 5 rfl
  ·refine Zi rfl (Zi rfl (Zi rfl (Zi rfl (Zi rfl (Zv rfl ?_)))));exact aF fun a w hh=>hh.cutK 5 rfl
  refine Za rfl ?_;refine' eI [(false,24),(false,25),(false,26),(false,27),(false,28),(false,29)] [(false,30)] (s:=47) (p:=53) rfl rfl (fun hg5=>?_) (fun hg5=>?_) ?_;rotate_left
  ·refine Zl rfl Tf.f36_4 rfl (Zh 4 rfl Tf.a34 rfl hB1 rfl (Zb rfl (Ze rfl (fun D5 hD5=>OZ _ _ _ (kV b.lines.length) _ (Sl.at oR.up hD5 Yl Ye) ⟨_,[_],[],rfl,fun r D2 hl=>DD _ b r D2 (hb0.up ((hD5 _ Ye).trans hl))⟩ rfl) (bV rfl rfl rfl ⟨_,rfl,rfl⟩ (Zw rfl ?_)))));exact aF fun a w hh=>hh.cutK 5 rfl
  ·refine Zi rfl (Zi rfl (Zi rfl (Zi rfl (Zi rfl (Zv rfl ?_)))));exact aF fun a w hh=>hh.cutK 5 rfl
  refine Zj rfl (Zo (Zx (aP rfl (fun hc2=>?_) (fun hc2=>?_))))
  ·refine Zy (C.rg (Zj rfl (Zo (Zx (aC (aD (Zad ?_)))))));exact Zc [_] rfl ⟨rfl,trivial⟩ (fun D hD=>by show Value.int _ _=_;rw[QU hc1 hc2])
  ·obtain⟨hok,hch4⟩:=SK hc2;refine Zac (Zag (Zx (Zy (C.rg (Zj rfl (Zo (Zx (Zy (Zy (C.rg (Zk rfl Tf.f36_3 rfl ?_)))))))))));refine Zg 3 rfl Tf.a33 rfl hB1 rfl (aY rfl U33 rfl hl rfl rfl trivial (Za rfl (Zo (Zx (Zae (bS (γ:=Nat) (fun i=>b.lines.length-i) (fun i=>i≤b.lines.length) (fun i=>[(57,.int .i64 (i:Int)),(5,.int .i64 (rD b.chairs (b.lines.take i)))]) [(56,_),(55,_),(2,_),(1,_)] (fun i=>[E1,D]) 0 Yd ⟨Yb,Yb,trivial⟩ C.rs (aG) ?_))))));rintro i h1;refine Zy (C.rg (Zaa rfl (Zo (Zx (Zy (aH rfl (fun hc3=>?_) (fun hc3=>?_)))))))
   ·have hi:i<b.lines.length:=by omega
    obtain⟨x,hx⟩:∃x,b.lines[i]?= some x:=⟨_,List.getElem?_eq_getElem hi⟩
    refine Zac (Zx (Zy (Zae (Zy (C.rg (aJ rfl U33 Tf.s134 rfl hl rfl Yd hx rfl trivial (fun b1 o1 cs1 hr1 hcl1 hA1=>?_)))))));obtain rfl:cs1=[.int .i64 _,.int .i64 _,.int .i64 _]:=hr1;refine Zq rfl Tf.a134 rfl hA1 Tf.s134 (Zu rfl Tf.z134 rfl (fun q2=>Zs rfl Tf.s134 (cY.head) (Zo (Zx (C.rg (Za rfl (Zq rfl Tf.a36 rfl hB1 Tf.s36 (aX rfl Tf.a134 rfl (List.Mem.head _) Tf.s134 List.not_mem_nil rfl trivial (cW rfl rfl rfl (fun D6 hD6=>W9 _ b x _ (hb0.up (hD6 _ Ye)) Yd) rfl trivial (fun v6 D6 hD6 hp6=>?_))))))))));have hr3:=hp6;have hrl:=IH (l:=x) (n:=b.chairs) Yd;have hmk:=FJ b.chairs (b.lines.take i);refine aY rfl U33 rfl hr3 rfl rfl trivial (JU rfl rfl rfl (SD hmk hrl) rfl trivial (Zm rfl U25 Tf.s3 Tf.z3 rfl rfl rfl rfl (.cons rfl rfl (.cons rfl rfl .nil)) (fun b901 D901 hD901 hA901=>?_)));have hS901:=Sl.ofInts (l:=[_,_]) (n:=2) (cap:=2) hA901 rfl Yd Yd;refine Zd rfl (fun D7 hD7=>W8 _ _ [4097] _ (hS901.up RI.up (hD7 _ Ye))) (Zj rfl (Zo (Zag (Zx (C.rg (Zt rfl (Za rfl (Zo ?_))))))));exact aN 17 (i+1) Yd Yd ⟨Yb,(by rw[l5 hx];rfl),trivial⟩ rfl rfl (List.Sublist.cons _ (List.Sublist.refl _)) (fun D h=>⟨D,List.Mem.tail _ (List.Mem.tail _ (h)),Le.refl D⟩)
   ·obtain rfl:i=b.lines.length:=by omega
    rw[List.take_length];refine aZ (Zaf (Zaf (aE (Zx (Zy (Zy (C.rg (Za rfl (dO rfl rfl rfl rfl trivial (Zo (Zx ?_)))))))))));refine aH rfl (fun hc4=>?_) (fun hc4=>?_)
    ·refine Zy (C.rg (Zj rfl (Zo (Zx (aC (Zad ?_))))));exact Zc [_] rfl ⟨rfl,trivial⟩ (fun D hD=>by show Value.int _ _=_;rw[MN hc1 hok hc4])
    ·refine Zac (Zx (Zy (C.rg (Zj rfl (Zo (Zx (aC ?_)))))));exact Zc [_] rfl ⟨rfl,trivial⟩ (fun D hD=>by show Value.int _ _=_;rw[NT hc1 hok hc4])
end L3
end Go.Fs
namespace Go.Fs
open Go.Proofs
namespace L3
open L1
section
variable{P:Program}{X:Cx}{γb:Type}[Membership Nat γb]{bad:γb}{all:Array Oper}{K:Act→World→Prop}{Q:Exit→Act→World→Prop}
variable{σ:bF}{μ:aB}{Ds:List aA}{os:List (Bool×Nat)}{fl:Bool}{ix:Nat}
variable{d:Nat}{x y z:Operand}{u v:Value}{ty:TypeId}{pos:String}{aft:Array Edge}{g:Option (Nat×Bool)}
end
open C3
end L3
end Go.Fs
namespace Go.Fs
open Go.Proofs
namespace L3
open L1
open C3
end L3
end Go.Fs
namespace Go.Fs
open Go.Proofs
namespace L3
open L1
open C3
end L3
end Go.Fs
namespace Go.Fs
open Go.Proofs
namespace L3
open L1
open C3
end L3
end Go.Fs
namespace Go.Fs
open Go.Proofs
namespace L3
open L1
open C3
end L3
end Go.Fs
namespace Go.Fs
open Go.Proofs
namespace L3
open L1
section
variable{P:Program}{X:Cx}{γb:Type}[Membership Nat γb]{bad:γb}{all:Array Oper}{K:Act→World→Prop}{Q:Exit→Act→World→Prop}
variable{σ:bF}{μ:aB}{Ds:List aA}{os:List (Bool×Nat)}
end
open C3
end L3
end Go.Fs
namespace Go.Fs
open Go.Proofs
namespace L3
open L1
open C3
end L3
end Go.Fs
namespace Go.Fs
open Go.Proofs
namespace L3
open L1
open C3
end L3
end Go.Fs
namespace Go.Fs
open Go.Proofs
namespace L3
open L1
open C3
end L3
end Go.Fs
namespace Go.Fs
open Go.Proofs
namespace L3
open L1
open C3
end L3
end Go.Fs
namespace Go.Fs
open Go.ChangeShapes Go.WideShapes Go.RowKit
def qO(W:World):aA:=fun b=>match W.heap[b]? with
 |some (.cells cs _ _)=>cs.toList
 |_=>[]
theorem S8(W:World){cs:Array Value}{e:TypeId}{fz:Nat×Nat}(h0:W.heap[0]?= some (.cells cs e fz))(hne:cs.toList≠[]):dD (qO W) W:=by
 have hf:qO W 0=cs.toList:=by unfold qO;rw[h0]
 refine⟨?_,by rw[hf];exact hne,e,fz,by rw[hf];exact h0⟩;intro b hb;unfold qO at hb ⊢
 split at hb
 ·rename_i cs e fz h;exact⟨cs,e,fz,h,List.prefix_refl _⟩
 ·exact absurd rfl hb
theorem qA{W:World}{b i:Nat}{v:Value}(h:W.cell? ⟨b,i,none⟩=some v):(qO W b)[i]?= some v:=by
 unfold World.cell? at h;unfold qO;split at h
 ·rename_i cs e fz hb;simp only at hb;rw[hb];simpa using h
 ·cases h
structure X1(W W':World):Prop where
 env:S9 W'=S9 W
 size:W.heap.size≤W'.heap.size
 old:∀b,b<W.heap.size→W'.heap[b]?= W.heap[b]?
theorem X1.but{W W':World}(h:X1 W W')(may:MemPlace→Prop):W.keptBut W' may:=by
 refine⟨congrArg Prod.fst h.env,congrArg Prod.snd h.env,fun i hi=>?_⟩;rw[h.old i hi];cases W.heap[i]? with
 |none=>rfl
 |some o=>cases o<;>first|exact⟨rfl,rfl,rfl,fun _ _=>rfl⟩|exact Or.inr ⟨rfl,rfl⟩|rfl
theorem X1.frozen{W W':World}(h:X1 W W'){a:Addr}(hl:a.block<W.heap.size):W'.frozen? a=W.frozen? a:=by
 unfold World.frozen?;rw[h.old _ hl]
theorem X1.same{W W':World}(h:X1 W W'){p:MemPlace}(hp:p.block<W.heap.size):W.sameAt W' p:=by
 cases p with
 |cell b off=>
  simp only[World.sameAt,World.cell?];rw[h.old b hp]
 |map b=>exact h.old b hp
theorem Fn.calls{P:Program}{f:FuncId}{args:Array Value}{D:aA}{post:aA→Value→Prop}(h:Fn P f args D post){W:World}(hD:dD D W):
  Calls P f args W fun e W'=>∃v D',e=.returned v∧post D' v∧X1 W W':=
 (h.2 W hD).mono (by
  rintro e W' ⟨v,D',he,hs,hp⟩;exact⟨v,D',he,hp,hs.env _ rfl,hs.size,fun b hb=>hs.old b hb Ye⟩)
section
variable{H:Type}{enc:TypeId×Value→H}{P:Program}
theorem qP(hl:laidOutB P=true){W W':World}{sp:Nat→Bool}:∀(ts:List TypeId) (vs:List Value) (ds:List (DataW H)) (ps:List MemPlace),(∀t∈ts,P.readableRec t=true∧t<P.types.size)→
  DataW.TrodAll enc P W 0 (fun _=>true) true ts vs ds ps→(∀p∈ps,W.sameAt W' p)→(∀p∈ps,sp p.block=true)→DataW.TrodAll enc P W' 0 sp true ts vs ds ps
 | [],vs,ds,ps,_,h,_,_=>by
  obtain⟨rfl,rfl,rfl⟩:=trodAll_nil h;exact trodAll_mk0
 |t::ts,vs,ds,ps,hr,h,hsame,hs=>by
  obtain⟨v,vs',d,ds',p,q,rfl,rfl,rfl,h1,h2⟩:=trodAll_cons h;exact trodAll_cons_mk (WideElems.Trod_stays hl (hr t List.mem_cons_self).1 (hr t List.mem_cons_self).2 h1 (fun x hx=>hsame x (List.mem_append_left _ hx)) (fun x hx=>hs x (List.mem_append_left _ hx)))
   (qP hl ts vs' ds' q (fun u hu=>hr u (List.mem_cons_of_mem _ hu)) h2 (fun x hx=>hsame x (List.mem_append_right _ hx)) (fun x hx=>hs x (List.mem_append_right _ hx)))
theorem EY{f:Func}{s:ChangeSpec}{apart fresh handsOn again:Bool}{W W':World}{args:Array Value}{v:Value}{ds gs:List (DataW H)}{before pa pv:List MemPlace}(hW:DataW.Whole enc P f.params.toList s.vars apart W args.toList ds gs before)
  (hres:∀(b:Nat) (sp:Nat→Bool) (hd:Bool),DataW.TrodAll enc P W' b sp hd f.resultTypes.toList (v.resultList f.resultTypes.size) (s.fn H (ds++gs)).results [])
  (hargs:∀sp:Nat→Bool,(∀p∈before,sp p.block=true)→DataW.TrodAll enc P W' 0 sp true f.params.toList args.toList (s.fn H (ds++gs)).args pa)
  (hvars:∀sp:Nat→Bool,(∀p∈before,sp p.block=true)→DataW.TrodVars enc P W' sp s.vars (s.fn H (ds++gs)).vars pv)
  (hps:before=pa++pv) (hk:W.keptBut W' (· ∈before)) (hfz:∀a:Addr,a.block<W.heap.size→W'.frozen? a=W.frozen? a)
  (hok:∀(j:Nat) (t:TypeId) (r:Value),f.resultTypes[j]?= some t→(v.resultList f.resultTypes.size)[j]?= some r→Value.okWide P W' .any 0 t r):s.post enc P f apart fresh handsOn again W args v W':=by
 have hold:∀p∈before,(fun b=>decide (b<W.heap.size)) p.block=true:=fun p hp=>by simpa using hW.lt p hp
 have hlt:=hW.lt;refine⟨ds,gs,before,[],pa,pv,hW,hres _ _ _,hargs _ hold,hvars _ hold,World.keptBut_mono (fun p hp=>⟨hp,Or.inr (by rwa [hps,List.mem_append]at hp)⟩) hk,fun _=>?_⟩;obtain⟨_,_,_,_,_,hz,hn⟩:=hW;refine⟨hok,_,_,([]++pa)++pv,⟨[]++pa,pv,trodAll_append (hargs _ (fun _ _=>rfl)) (hres _ _ _),hvars _ (fun _ _=>rfl),rfl,fun b off hp=>?_,fun ha=>?_⟩,fun p hp _=>?_⟩
 ·have hb:MemPlace.cell b off∈before:=by rw[hps];simpa using hp
  rw[hfz _ (by simpa [MemPlace.block]using hlt _ hb)];exact hz b off hb
 ·have:=hn ha;rw[hps]at this;simpa using this
 ·rw[hps];simpa using hp
theorem JY{f:Func}{s:ChangeSpec}{tb:TypeId}{W W':World}{args:Array Value}{ds gs:List (DataW H)}{before:List MemPlace}(hl:laidOutB P=true)(hp:(f.params.toList.all fun t=>P.readableRec t&&decide (t<P.types.size))=true)(hvars:s.vars=[])
  (hres:f.resultTypes=#[tb]) (htb:P.underlying tb=some .bool) (hW:DataW.Whole enc P f.params.toList s.vars false W args.toList ds gs before) (hs:s.fn H (ds++gs)={results:=[.lit (.bool true)],args:=ds}) (hk:X1 W W'):
  s.post enc P f false true false false W args (.bool true) W':=by
 have hlt:=hW.lt;have hW':=hW;obtain⟨p,q,hA,hV,rfl,hfz,hnd⟩:=hW';rw[hvars]at hV;obtain⟨_,rfl⟩:=trodVars_none hV;refine EY (pa:=p) (pv:=[]) hW (fun b sp hd=>?_) (fun sp hsp=>?_) (fun sp _=>?_) rfl (hk.but _) (fun _=>hk.frozen) (ok_one hres rfl (okWide_bool_mk htb true))
 ·rw[hs,hres];exact trodAll_mk1 (shut_bool htb true)
 ·rw[hs];refine qP hl _ _ _ _ (fun t ht=>?_) hA (fun x hx=>hk.same (hlt x (List.mem_append_left _ hx))) (fun x hx=>hsp x (List.mem_append_left _ hx));have:=List.all_eq_true.1 hp t ht;simpa using this
 ·rw[hs,hvars];rfl

def sX(P:Program)(t:TypeId){α:Type}(R:Rd α):Prop:=∀{H:Type} (enc:TypeId×Value→H) (W:World) (n:Nat) (cs:List Value) (x:DataW H×List MemPlace),DataW.trod enc P W 0 (fun _=>true) true n t cs=some x→∃a,R (qO W) a cs
theorem CC{k:IntKind}{n:Int}(h:(Lit.int k n).wf=true):qD k n:=by
 cases k<;>simpa [Lit.wf,IntKind.min,IntKind.max,IntKind.signed,IntKind.bits,qD]using h
def UL{α:Type}(R:Rd α)(sz:Nat):Rd (List α):=fun D xs cs=>∃v,cs=[v]∧Sl D R sz v xs
theorem sX.slice{t e:TypeId}{sz:Nat}{α:Type}{R:Rd α}(ht:P.underlying t=some (.slice e))(hc:P.cellsOf e=sz)(hpos:0<sz)(hel:sX P e R):sX P t (UL R sz):=fun {H} enc W fuel cs x hx=>by
 rcases DataW.trod_slice ht hx with⟨rfl,_⟩|⟨a,len,cap,elems,rest,n,_,rfl,_,_,hl,hm,hlen,hel',_,_⟩
 ·exact⟨[],_,rfl,Sl.nil⟩
 have hm':cap≤9223372036854775807:=by simpa [maxLen]using hm
 have key:∀i,i<len→∃cs,(∃y,R (qO W) y cs)∧cs.length=sz∧∀j,j<sz→W.cell? ((a.add (i*sz)).add j)=cs[j]? :=by
  intro i hi;have h1:=hel' i hi;rw[List.getElem?_eq_getElem Yd,hc]at h1;simp only[Option.bind_eq_some_iff]at h1;obtain⟨cs,h2,h3⟩:=h1;obtain⟨_,h4,h5⟩:=World.cells?_some h2;exact⟨cs,hel enc W n cs _ h3,h4,h5⟩
 by_cases h0:len=0
 ·subst h0;exact⟨[],_,rfl,some a,cap,rfl,Nat.zero_le _,by simp,Or.inl rfl⟩
 have hspot:a=⟨a.block,a.off,none⟩:=by
  obtain⟨cs,_,h2,h3⟩:=key 0 Yd;have h4:=h3 0 hpos;rw[Nat.zero_mul]at h4;simp only[Addr.add,if_true]at h4;rw[List.getElem?_eq_getElem (show 0<cs.length by omega)]at h4;unfold World.cell? at h4;split at h4
  ·split at h4
   ·cases h4
   ·rename_i hs;obtain⟨b,o,s⟩:=a;cases s with
    |none=>rfl
    |some=>simp at hs
  ·cases h4
 have pick:∃ys:List α,ys.length=len∧∀i y,ys[i]?= some y→∃cs,R (qO W) y cs∧cs.length=sz∧∀j,j<sz→W.cell? ((a.add (i*sz)).add j)=cs[j]? :=by
  refine⟨List.ofFn fun i:Fin len=>(key i.1 i.2).choose_spec.1.choose,by simp,fun i y hy=>?_⟩;rw[List.getElem?_ofFn]at hy;split at hy
  ·rename_i hi;cases hy;exact⟨_,(key i hi).choose_spec.1.choose_spec,(key i hi).choose_spec.2.1,(key i hi).choose_spec.2.2⟩
  ·cases hy
 obtain⟨ys,hys,hy⟩:=pick;refine⟨ys,_,rfl,some a,cap,by rw[hys],by omega,by omega,Or.inr ⟨a.block,a.off,by rw[←hspot],fun i y hi=>?_⟩⟩;obtain⟨cs,h1,h2,h3⟩:=hy i y hi;refine⟨cs,h1,h2,fun j v hj=>?_⟩;have hjl:=(List.getElem?_eq_some_iff.1 hj).1;have h4:=h3 j Yd;rw[hj,hspot,eK,eK]at h4;exact qA h4
theorem sX.trod{t:TypeId}{α:Type}{R:Rd α}(h:sX P t R){W:World}{v:Value}{d:DataW H}{ps:List MemPlace}(hd:DataW.Trod enc P W 0 (fun _=>true) true t v d ps):∃a,R (qO W) a v.cells.toList:=by
 obtain⟨fuel,hf⟩:=hd;exact h enc W fuel _ _ hf
theorem m8{t e:TypeId}{α:Type}{R:Rd α}{sz:Nat}(ht:P.underlying t=some (.slice e))(h:sX P t (UL R sz)){W:World}{r:Reach}{b0:Nat}{v:Value}{d:DataW H}{ps:List MemPlace}(hval:Value.okWide P W r b0 t v)(hd:DataW.Trod enc P W 0 (fun _=>true) true t v d ps):
  ∃xs,Sl (qO W) R sz v xs:=by
 obtain⟨a,len,cap,rfl⟩:=okWide_slice ht hval;obtain⟨xs,u,hc,hs⟩:=h.trod hd;simp only[Value.cells,List.cons.injEq,and_true]at hc;exact⟨xs,by rw[hc];exact hs⟩
end
end Go.Fs
namespace Go.Fs
open Go.Proofs
namespace L3
open L1
open C3
end L3
end Go.Fs
namespace Go.Fs
open Go.Proofs
namespace L3
open L1
open C3
end L3
end Go.Fs
namespace Go.Fs
open Go.Proofs
namespace L3
open L1
open C3
end L3
end Go.Fs
namespace Go.Fs
open Go.Proofs
namespace L3
open L1
open C3
end L3
end Go.Fs
namespace Go.Fs
open Go.Proofs
namespace L3
open L1
open C3
end L3
end Go.Fs
namespace Go.Fs
open Go.Proofs
namespace L3
open L1
open C3
end L3
end Go.Fs
namespace Go.Fs
open Go.Proofs
namespace L3
open L1
open C3
end L3
end Go.Fs
namespace Go.Fs
open Go.Proofs
namespace L3
open L1
open C3
section
variable{P:Program}{X:Cx}{Q:Exit→Act→World→Prop}{σ:bF}{μ:aB}{Ds:List aA}
end
def qM(b:eU)(i:Nat)(s:Sc):List (List Sc):=(QM b (b.lines.drop i) i s).map (·.2)
end L3
end Go.Fs
namespace Go.Fs
open Go.Proofs
namespace L3
open L1
open C3


end L3
end Go.Fs
namespace Go.Fs
open Go.Proofs
namespace L3
open L1
open C3
end L3
end Go.Fs
namespace Go.Fs
open Go.Proofs
namespace L3
open L1
open C3
def TQ(F:Sc→Int)(b:eU)(k:Nat):Int×Int:=(C1.nB (((qM b 0 (n7 b)).map fun x=>UU x k).map F),C1.lX (((qM b 0 (n7 b)).map fun x=>UU x k).map F))
end L3
end Go.Fs
namespace Go.Fs
open Go.Proofs
namespace L7
open C7
def eO(bh bc bo bY br n:Nat)(c:List Int):aB:=[(bh,.cells [.func (.func 168) #[] #[.pointer (some ⟨bc,0,none⟩),.pointer (some ⟨bY,0,none⟩),.pointer (some ⟨br,0,none⟩),.pointer (some ⟨bh,0,none⟩)]].toArray 108 (0,0)),(bc,.cells [.slice (some ⟨bo,0,none⟩) n n].toArray 211 (0,0)),(bo,.cells (ints c).toArray 146 (0,0))]
theorem lK{c pre:List Int}{i:Nat}{k:Int}(h:c.take (i+1)=pre++[k])(hl:pre.length=i):c.take i=pre:=by
 have:=congrArg (List.take i) h;rw[List.take_take,Nat.min_eq_left (Nat.le_succ i)]at this;rw[this,List.take_append_of_le_length Yd,List.take_of_length_le Yd]
def OT(n bo:Nat):List Value:=[.slice (some ⟨bo,0,none⟩) n n]
def OH(P:Program)(Dr:aA)(lo l n:Nat)(J Jx:List (List Int)→oU)(xs:List (List Int)):Prop:=∀pre x β D w bo,(∃r,xs=pre++x::r)→uS lo D w→J pre β D w→(∀b∈β,b<w.heap.size)→Le Dr D→HE β D w bo (ints x)→
    gH P l (OT n bo) w fun b D' w'=>uS lo D' w'∧uK β D w D' w'∧(if b then J (pre++[x]) β D' w' else Jx (pre++[x]) β D' w')
def sI(J Jx:List (List Int)→oU)(bh bc bo bY br n:Nat)(places:List Int)(pre:List Int)(i:Nat)(done:List (List Int))(v:Value)(J':oU)(μ':aB):Prop:=
 ∃b c',v=.bool b∧c'.length=3*n∧c'.take i=pre∧μ'=eO bh bc bo bY br n c'∧(if b=true then J'=J (done++(C1.bX (places.drop i)).map fun t=>pre++t)else ∃p,J'=Jx p)
def AD(p:Int)(ps pre:List Int)(k:Nat):List (List Int):=(List.range k).flatMap fun(m:Nat)=>if p=2∨p=(m:Int)then(C1.bX ps).map (fun t=>pre++(m:Int)::t)else []
theorem LJ{p:Int}{ps pre:List Int}:AD p ps pre 0=[]:=rfl
theorem PO{p:Int}{ps pre:List Int}{k:Nat}(h:¬(p=2∨p=(k:Int))):AD p ps pre (k+1)=AD p ps pre k:=by
 unfold AD;rw[List.range_succ,List.flatMap_append,List.flatMap_singleton,if_neg h,List.append_nil]
theorem AS{p:Int}{ps pre:List Int}{k:Nat}(h:p=2∨p=(k:Int)):AD p ps pre (k+1)=AD p ps pre k++(C1.bX ps).map (fun t=>(pre++[(k:Int)])++t):=by
 unfold AD;rw[List.range_succ,List.flatMap_append,List.flatMap_singleton,if_pos h];simp
theorem t6{p:Int}{ps pre:List Int}:AD p ps pre 2=(C1.bX (p::ps)).map (fun t=>pre++t):=by
 rw[show C1.bX (p::ps)=(if p=2∨p=0 then(C1.bX ps).map (0:: ·)else [])++(if p=2∨p=1 then(C1.bX ps).map (1:: ·)else [])from rfl];unfold AD;rw[show List.range 2=[0,1]from rfl,List.flatMap_cons,List.flatMap_cons,List.flatMap_nil,List.append_nil,List.map_append];congr 1
 ·by_cases h:p=2∨p=0
  ·rw[if_pos h,if_pos (by simpa using h)];simp
  ·rw[if_neg h,if_neg (by simpa using h)];rfl
 ·by_cases h:p=2∨p=1
  ·rw[if_pos h,if_pos (by simpa using h)];simp
  ·rw[if_neg h,if_neg (by simpa using h)];rfl
theorem LA{p:Int}{ps pre:List Int}{k:Nat}(hk:k<2):∃r,AD p ps pre 2=AD p ps pre (k+1)++r:=by
 have e:k=0∨k=1:=by omega
 rcases e with rfl|rfl
 ·refine⟨[1].flatMap fun(m:Nat)=>if p=2∨p=(m:Int)then(C1.bX ps).map (fun t=>pre++(m:Int)::t)else [],?_⟩;unfold AD;rw[show List.range 2=[0]++[1]from rfl,List.flatMap_append];rfl
 ·exact⟨[],by simp⟩
theorem HT{c pre:List Int}{i:Nat}{k:Int}(hi:i<c.length)(h:c.take i=pre):(c.set i k).take (i+1)=pre++[k]:=by
 rw[List.take_add_one,List.getElem?_set_self hi,Option.toList_some,List.take_set_of_le (Nat.le_refl _),h]
theorem BP{l:List Ch}{i:Nat}{p:Int}(h:(gN l)[i]?= some p):∃x,l[i / 3]?= some x∧x.parts.l[i%3]?= some p:=by
 induction l generalizing i with
 |nil=>simp[gN]at h
 |cons c l ih=>
  rw[show gN (c::l)=c.parts.a::c.parts.b::c.parts.c::gN l from rfl]at h;match i with
  |0=>exact⟨c,rfl,by simpa [Pt.l]using h⟩
  |1=>exact⟨c,rfl,by simpa [Pt.l]using h⟩
  |2=>exact⟨c,rfl,by simpa [Pt.l]using h⟩
  |j+3=>
   obtain⟨x,h1,h2⟩:=ih (i:=j) (by simpa using h);exact⟨x,by rw[show(j+3) / 3=j / 3+1 by omega];simpa using h1,by rw[show(j+3)%3=j%3 by omega];exact h2⟩
theorem m2{bh bc bo bY br n:Nat}{c:List Int}:(bo,Obj.cells (ints c).toArray 146 (0,0))∈eO bh bc bo bY br n c:=List.Mem.tail _ (List.Mem.tail _ (List.Mem.head _))
theorem SI(i:Nat):0+((i:Int) / 3).toNat*3+((i:Int)%3).toNat*1=i:=by omega
theorem nM{lo l:Nat}{J Jx:List (List Int)→oU}{y:bO}{xs:List (List Int)}{Dr Dy:aA}{Ds:List aA}{bh bc bo bY br:Nat}{cv qv:Value}(hn7:y.chairs.length≤7)
  (hs:∀pre,vS lo (J pre)) (hsx:∀pre,vS lo (Jx pre)) (hY:OH Tryz.prog Dr lo l y.chairs.length J Jx xs) (hDr:Dr∈Ds) (hDy:Dy∈Ds) (hA:At Dr br 0 [cv,.int .i64 y.fit,qv]) (hc:Sl Dr qY 4 cv y.chairs) (hB:At Dy bY 0 [.func (.yield l) #[] #[]]):
  ∀(j i:Nat) (pre c:List Int) (done rest:List (List Int)) (iv:Int),iv=i→i+j=3*y.chairs.length→pre.length=i→c.length=3*y.chairs.length→c.take i=pre→
   xs=done++(C1.bX ((gN y.chairs).drop i)).map (fun t=>pre++t)++rest→
   SW Tryz.prog 168 [.int .i64 iv,.pointer (some ⟨bc,0,none⟩),.pointer (some ⟨bY,0,none⟩),.pointer (some ⟨br,0,none⟩),.pointer (some ⟨bh,0,none⟩)] lo (J done) (eO bh bc bo bY br y.chairs.length c) Ds (sI J Jx bh bc bo bY br y.chairs.length (gN y.chairs) pre i done):=by
 intro j;induction j using Nat.strongRecOn with
 |_ j ih=>
 intro i pre c done rest iv hiv hij hl h9 hp hxs;subst hiv;have hmx:=hc.len;have hfl:=oC y.chairs;refine xV (μ:=eO bh bc bo bY br y.chairs.length c) 52 Tryz.func168 rfl rfl rfl rfl (Zy (C.rg (Zj rfl (Zo (Zx (Zy (C.rg (Za rfl (JA rfl rfl rfl Yd Yd Yf rfl trivial (Za rfl (T5 rfl rfl rfl Yd Yd Yf rfl trivial ?_)))))))))));refine Zj rfl (Zj rfl (Zo (Zx (Zy (Zy (C.rg (Za rfl (Zn rfl Tf.a211 rfl (List.Mem.tail _ (List.Mem.head _)) rfl (hC rfl U211 rfl rfl rfl trivial (eL rfl rfl rfl rfl trivial (Zo ?_)))))))))));refine Zx (aH rfl (fun hc1=>?_) (fun hc1=>?_))
 ·have hin:i=3*y.chairs.length:=by omega
  subst hin;have hleaf:c=pre:=by rw[←hp,List.take_of_length_le Yd]
  rw[←hfl,List.drop_length]at hxs;simp only[C1.bX,List.map_cons,List.map_nil,List.append_nil]at hxs;rw[←hleaf,List.append_assoc,List.singleton_append]at hxs;refine Zy (C.rg (Zg 0 rfl Tf.a267 rfl hB rfl (Zn rfl Tf.a211 rfl (List.Mem.tail _ (List.Mem.head _)) rfl (DY (l:=l) (J1:=J (done++[c])) (J0:=Jx (done++[c])) rfl rfl rfl rfl (hs _) (hsx _) (fun D w hd hJ hb hl=>hY done c _ D w bo ⟨rest,hxs⟩ hd hJ (fun b hbm=>by obtain⟨p,hp,rfl⟩:=List.mem_map.1 hbm;exact bA (hb p hp).1) (hl _ hDr) ⟨List.mem_map.2 ⟨_,m2,rfl⟩,(hb _ m2).2,_,_,(hb _ m2).1⟩) rfl trivial (fun b1 J1 hJ1=>Zj rfl (Zo (Zx (aC (Zad ?_)))))))))
  exact kT (P:=Tryz.prog) (fn:=Tryz.f168) (N:=52) (vs:=[_]) rfl rfl ⟨rfl,trivial⟩ (fun D h=>⟨D,h,Le.refl D⟩) ⟨b1,c,rfl,h9,hp,rfl,by cases b1<;>simp only[hJ1,if_true,Bool.false_eq_true,if_false];exact⟨_,rfl⟩;rw[←hfl,List.drop_length];simp[C1.bX,hleaf]⟩
 ·have hin:i<(gN y.chairs).length:=by omega
  obtain⟨p,hpi⟩:∃p,(gN y.chairs)[i]?= some p:=⟨_,List.getElem?_eq_getElem hin⟩
  obtain⟨x,hx3,hm⟩:=BP hpi;have hx:y.chairs[((i:Int) / 3).toNat]?= some x:=by rw[show((i:Int) / 3).toNat=i / 3 by omega];exact hx3
  have hd:(gN y.chairs).drop i=p::(gN y.chairs).drop (i+1):=by rw[List.drop_eq_getElem_cons hin];congr 1;exact Option.some.inj ((List.getElem?_eq_getElem hin).symm.trans hpi)
  rw[hd,←t6]at hxs;refine Zac (Zx (Zy (Zy (C.rg (Za rfl (Zo (Zx (Zae (L5 (γ:=Nat×List Int) (fun g=>2-g.1) (fun g=>g.1≤2∧g.2.length=3*y.chairs.length∧g.2.take i=pre) (fun g=>J (done++AD p ((gN y.chairs).drop (i+1)) pre g.1)) (fun g=>[(22,.int .i64 (g.1:Int))]) [(8,_),(7,_),(6,_),(0,_),(1,_),(3,_),(4,_)] (fun g=>eO bh bc bo bY br y.chairs.length g.2) (fun g=>Ds) (0,c) ⟨by simp,h9,hp⟩ (by simp[LJ]) ⟨Yb,trivial⟩ C.rs (List.Sublist.refl _) (aG) ?_)))))))));rintro⟨k,c1⟩ ⟨h11,h91,hp1⟩;simp only at h11 h91 hp1;refine Zy (C.rg (Zaa rfl (Zo (Zx (Zy (aH rfl (fun hc2=>?_) (fun hc2=>?_)))))))
  ·refine Zac (Zx (Zy (Zae (Zy (C.rg (Za rfl (Zj rfl (Zo (Zx (Zy (C.rg ?_)))))))))));refine Zk rfl Tf.f40_0 rfl (Zg 0 rfl Tf.a37 rfl hA rfl (Za rfl (Za rfl (aJ rfl U37 Tf.s148 rfl hc rfl Yd hx rfl trivial (fun b1 o1 cs1 hr1 hcl1 hA1=>?_)))));obtain rfl:cs1=[.int .i64 _,.int .i64 _,.int .i64 _,.int .i64 _]:=hr1;refine Zk rfl Tf.f148_1 rfl (jJ rfl U146 Tf.s3 rfl rfl Yd Yd rfl trivial (bP (o:=_+1) (k:=((i:Int)%3).toNat*1) rfl Tf.a3 rfl hA1.tail Yk (by rw[show((i:Int)%3).toNat=i%3 by omega];exact QS hm) List.not_mem_nil rfl trivial (Zj rfl (Zo (Zx (Zy (C.rg (Za rfl (eL rfl rfl rfl rfl trivial (Za rfl ?_))))))))))
   refine' eI [(false,3),(false,4),(false,5),(false,6)] [] (s:=35) (p:=39) rfl rfl (fun hg1=>?_) (fun hg1=>?_) ?_;rotate_left
   ·refine Zb rfl (Zb rfl (eL rfl rfl rfl rfl ⟨_,rfl,rfl⟩ (Zw rfl ?_)));exact aF fun a w hh=>hh.cutK 3 rfl
   ·refine Zi rfl (Zi rfl (Zi rfl (Zv rfl ?_)));exact aF fun a w hh=>hh.cutK 3 rfl
   refine Zo (Zx (aP rfl (fun hc3=>?_) (fun hc3=>?_)))
   ·have hpk:p=2∨p=(k:Int):=by simpa using hc3
    obtain⟨rr,hr⟩:=LA (p:=p) (ps:=(gN y.chairs).drop (i+1)) (pre:=pre) (k:=k) Yd;refine Zy (C.rg (Zn rfl Tf.a211 rfl (List.Mem.tail _ (List.Mem.head _)) rfl (Za rfl (Za rfl (Za rfl (jL rfl U211 Tf.s146 rfl rfl Yd Yd rfl trivial (jJ rfl U146 Tf.s3 rfl rfl Yd Yd rfl trivial (JI (k:=i) rfl Tf.s3 (by show some (Value.pointer (some ⟨bo,0+((i:Int) / 3).toNat*3+((i:Int)%3).toNat*1,none⟩))=_;rw[SI]) rfl (.tail (.tail cY.head)) Yo trivial (Zo (Zx (Zy ?_)))))))))));refine C.rg (Zn rfl Tf.a108 rfl (List.Mem.head _) rfl (Za rfl (Zt rfl (qI rfl rfl rfl rfl (ih (j-1) Yd (i+1) (pre++[(k:Int)]) (c1.set i k) (done++AD p ((gN y.chairs).drop (i+1)) pre k) (rr++rest) (i+1:Int) Yd Yd Yaa (by simpa using h91) (HT Yd hp1) (by rw[hxs,hr,AS hpk];simp)) rfl trivial ?_))))
    rintro _ J2 _ ⟨b2,c2,rfl,h9',hp',rfl,hJ2⟩;refine bV rfl rfl rfl trivial (Zo (Zx (aP rfl (fun hc4=>?_) (fun hc4=>?_))))
    ·obtain rfl:b2=false:=by simpa using hc4
     refine Zy (C.rg (Zj rfl (Zo (Zx (aC (aD (Zad (Zad (aD (Zad ?_))))))))));exact kT (P:=Tryz.prog) (fn:=Tryz.f168) (N:=52) (vs:=[_]) rfl rfl ⟨rfl,trivial⟩ (fun D h=>⟨D,h,Le.refl D⟩) ⟨false,c2,rfl,h9',lK hp' hl,rfl,by simpa using hJ2⟩
    ·obtain rfl:b2=true:=by simpa using hc4
     refine Zac (Zag (Zx (C.rg (Zt rfl (Za rfl (Zo ?_))))));exact pP 30 (k+1,c2) ⟨by simp only;omega,h9',lK hp' hl⟩ Yo (by simpa only[if_true,AS hpk,List.append_assoc]using hJ2) ⟨Yb,trivial⟩ rfl rfl (List.Sublist.refl _) (aG)
   ·have hpk:¬(p=2∨p=(k:Int)):=by simpa using hc3
    refine Zac (Zag (Zx (C.rg (Zt rfl (Za rfl (Zo ?_))))));exact pP 19 (k+1,c1) ⟨by simp only;omega,h91,hp1⟩ Yo (by rw[PO hpk]) ⟨Yb,trivial⟩ rfl rfl (List.Sublist.refl _) (aG)
  ·refine aZ (Zaf (Zaf (aE (Zx (Zy (C.rg (Zj rfl (Zo (Zx (aC ?_))))))))));exact kT (P:=Tryz.prog) (fn:=Tryz.f168) (N:=52) (vs:=[_]) rfl rfl ⟨rfl,trivial⟩ (fun D h=>⟨D,h,Le.refl D⟩) ⟨true,c1,rfl,h91,hp1,rfl,by simp only[if_true];rw[hd,←t6,show k=2 by omega]⟩
theorem l6(y:bO)(Dr:aA)(br:Nat)(cv qv:Value)(hn7:y.chairs.length≤7)(hA:At Dr br 0 [cv,.int .i64 y.fit,qv])(hc:Sl Dr qY 4 cv y.chairs):
  z7 Tryz.prog 167 [.pointer (some ⟨br,0,none⟩)] Dr (C1.bX (gN y.chairs)) (OT y.chairs.length) ints:=by
 refine d6 12 Tryz.func167 rfl rfl rfl rfl (fun lo l J Jx hs hsx hY=>Zy (C.rg (Zr rfl (fun q1 E1 hE1 hB1=>Zo (Zx (Zy (C.rg (Zk rfl Tf.f40_0 rfl (Zg 0 rfl Tf.a37 rfl hA rfl (aY rfl U37 rfl hc rfl rfl trivial (N6 rfl U211 Tf.s146 Tf.z146 rfl Tf.i146 rfl rfl Yd (b6 Ye rfl) rfl trivial (fun bo=>?_))))))))))));refine Zu rfl Tf.z211 rfl (fun q2=>aT rfl rfl rfl rfl Tf.s211 (cY.head) Ye rfl Ym trivial (Zo (Zx (Zy (C.rg (Zu rfl Tf.z108 rfl (fun q3=>Zo (Zx (Zy (C.rg (bH rfl rfl rfl rfl trivial ?_)))))))))));refine aT rfl rfl rfl rfl Tf.s108 (cY.head) Ye rfl Ym trivial (Zo (Zx (C.rg (Zn rfl Tf.a108 rfl (List.Mem.head _) rfl (qI rfl rfl rfl rfl (nM (l:=l) hn7 hs hsx hY Ye Ye hA hc hB1 (3*y.chairs.length) 0 [] (List.replicate (y.chairs.length*3) 0) [] [] 0 rfl Yd rfl Yaa rfl Ye) rfl trivial ?_)))));rintro _ J2 _ ⟨b2,c2,rfl,h9',hp',rfl,hJ2⟩;refine Zo ?_;exact kT (P:=Tryz.prog) (fn:=Tryz.f167) (N:=12) (vs:=[]) rfl rfl trivial (fun D h=>⟨D,by simp only[List.mem_singleton]at h;subst h;simp,Le.refl D⟩) (by cases b2<;>simp at hJ2;exact Or.inr hJ2;exact Or.inl hJ2)
theorem qF(yv:Value)(y:bO)(D:aA)(hy:kS D yv y)(hn7:y.chairs.length≤7):
  Fn Tryz.prog 100 #[yv] D (fun D' v=>∃br,v=.func (.func 167) #[] #[.pointer (some ⟨br,0,none⟩)]∧z7 Tryz.prog 167 [.pointer (some ⟨br,0,none⟩)] D' (C1.bX (gN y.chairs)) (OT y.chairs.length) ints):=by
 obtain⟨cv,qv,rfl,hc,hq⟩:=hy;refine enter 4 Tryz.func100 rfl rfl rfl rfl fun h0=>Zy (C.rg (Zr rfl (fun q1 E1 hE1 hB1=>Zj rfl (Zo (Zx (Zy (C.rg (bH rfl rfl rfl rfl trivial (Zj rfl (Zo ?_))))))))));refine Zx (aC ?_)
 exact Zc [_] rfl ⟨rfl,trivial⟩ (fun D hD=>⟨_,rfl,l6 y _ q1 cv qv hn7 (hB1.up (hD _ Ye)) (hc.up qY.up (hD _ Ye))⟩)
end L7
end Go.Fs
namespace Go.Fs
open Go.Proofs
namespace L7
open C7
def wV(s:Sc):List Int:=(s.whole:Int)::(s.broken:Int)::s.fits.map fun n:Nat=>(n:Int)
theorem sO(s:Sc)(h:s.fits.length=7):(wV s).length=9:=by simp[wV,h]
theorem KX(s:Sc):SM s=.agg (ints (wV s)).toArray:=by
 unfold SM wH wV ints;rw[List.map_cons,List.map_cons,List.map_map];rfl
def uY(acc:List (Sc×Nat)):List Int:=match acc.getLast? with
 |some p=>wV p.1
 |none=>[]
def oZ(y:bO)(out:List Int)(acc:List (Sc×Nat))(t:List Pt):List (Sc×Nat):=
 if(pU y.claims out (qW y.chairs.length (dR y t):Int)&&(decide ((acc.length:Int)=0)|| !(uY acc==wV (dR y t))))=true then acc++[(dR y t,qW y.chairs.length (dR y t))]else acc
def eN(y:bO)(out:List Int)(pre:List (List Int)):List (Sc×Nat):=(pre.map sH).foldl (oZ y out) []
def iC(y:bO)(out:List Int):List (Sc×Nat):=(OX y).foldl (oZ y out) []
theorem tS(y:bO)(out:List Int):eN y out (C1.bX (gN y.chairs))=iC y out:=rfl
theorem yC(y:bO)(out:List Int)(pre:List (List Int))(x:List Int):eN y out (pre++[x])=oZ y out (eN y out pre) (sH x):=by
 unfold eN;rw[List.map_append,List.foldl_append];rfl
theorem EK(y:bO)(out:List Int)(acc:List (Sc×Nat))(t:List Pt):(oZ y out acc t).length≤acc.length+1:=by
 unfold oZ;split
 ·simp
 ·omega
theorem B7(y:bO)(out:List Int)(pre:List (List Int)):(eN y out pre).length≤pre.length:=by
 have key:∀(l:List (List Pt)) (acc:List (Sc×Nat)),(l.foldl (oZ y out) acc).length≤acc.length+l.length:=by
  intro l;induction l with
  |nil=>intro acc;simp
  |cons t l ih=>intro acc;rw[List.foldl_cons];have:=ih (oZ y out acc t);have:=EK y out acc t;rw[List.length_cons];omega
 have:=key (pre.map sH) [];simpa [eN]using this
theorem xG(y:bO)(out:List Int)(pre:List (List Int)):∀p∈eN y out pre,p.1.fits.length=7:=by
 have key:∀(l:List (List Pt)) (acc:List (Sc×Nat)),(∀p∈acc,p.1.fits.length=7)→∀p∈l.foldl (oZ y out) acc,p.1.fits.length=7:=by
  intro l;induction l with
  |nil=>intro acc h;exact h
  |cons t l ih=>
   intro acc h;rw[List.foldl_cons];refine ih _ fun p hp=>?_
   unfold oZ at hp;split at hp
   ·rcases List.mem_append.1 hp with hp|hp
    ·exact h p hp
    ·simp only[List.mem_singleton]at hp;subst hp;simp[dR]
   ·exact h p hp
 exact key _ [] Ye
def sY(l:List Sc):List Value:=l.flatMap fun s=>ints (wV s)
theorem W6{l:List Sc}(h:∀s∈l,s.fits.length=7):(sY l).length=l.length*9:=by
 induction l with
 |nil=>rfl
 |cons c l ih=>
  have:=ih fun s hs=>h s (List.mem_cons_of_mem _ hs)
  unfold sY at this ⊢
  rw[List.flatMap_cons,List.length_append,this,aQ,sO c (h c List.mem_cons_self),List.length_cons];omega
theorem zA{acc:List (Sc×Nat)}(h:∀p∈acc,p.1.fits.length=7):(sY (acc.map fun p=>p.1)).length=acc.length*9:=by
 rw[W6 fun s hs=>by obtain⟨p,hp,rfl⟩:=List.mem_map.1 hs;exact h p hp,List.length_map]
theorem Y4{l:List Sc}(h:∀s∈l,s.fits.length=7){i:Nat}{s:Sc}(hi:l[i]?= some s)(junk:List Value):((sY l++junk).drop (i*9)).take 9=ints (wV s):=by
 induction l generalizing i with
 |nil=>simp at hi
 |cons d l ih=>
  have h9:(ints (wV d)).length=9:=by rw[aQ,sO d (h d List.mem_cons_self)]
  have hc:sY (d::l)=ints (wV d)++sY l:=rfl;rw[hc,List.append_assoc];cases i with
  |zero=>
   obtain rfl:d=s:=by simpa using hi
   rw[Nat.zero_mul,List.drop_zero,List.take_append_of_le_length Yd,List.take_of_length_le Yd]
  |succ i=>
   rw[List.drop_append,List.drop_eq_nil_of_le Yd,List.nil_append,show(i+1)*9-(ints (wV d)).length=i*9 by omega];exact ih (fun s hs=>h s (List.mem_cons_of_mem _ hs)) (by simpa using hi)
def PG:Rd Sc:=fun _ s cs=>cs=ints (wV s)
theorem PG.up:PG.Up:=fun _ _ _ h=>h
theorem _root_.Go.Fs.kQ.scs{D:aA}{v:Value}{n:Nat}{acc:List (Sc×Nat)}(hF:kQ D v n (sY (acc.map fun p=>p.1)))(hn:(acc.map fun p=>p.1).length=n)(hb:n≤9223372036854775807)(h:∀p∈acc,p.1.fits.length=7:=by assumption):Sl D PG 9 v (acc.map fun p=>p.1):=by
 have h':∀s∈acc.map (fun p=>p.1),s.fits.length=7:=fun s hs=>by obtain⟨p,hp,rfl⟩:=List.mem_map.1 hs;exact h p hp
 exact hF.sl hn hb fun i s hi=>⟨_,rfl,by rw[aQ,sO s (h' s (List.mem_of_getElem? hi))],by have:=Y4 h' hi [];rwa [List.append_nil]at this⟩
theorem A5{acc:List (Sc×Nat)}(h:∀p∈acc,p.1.fits.length=7)(hne:acc≠[]):(uY acc).length=9:=by
 unfold uY;rw[List.getLast?_eq_some_getLast hne];exact sO _ (h _ (List.getLast_mem hne))
theorem FT{acc:List (Sc×Nat)}(h:∀p∈acc,p.1.fits.length=7)(hne:acc≠[])(junk:List Value):((sY (acc.map fun p=>p.1)++junk).drop (0+(((acc.length:Int)-1).toNat)*9)).take 9=ints (uY acc):=by
 have h':∀s∈acc.map (fun p=>p.1),s.fits.length=7:=fun s hs=>by obtain⟨p,hp,rfl⟩:=List.mem_map.1 hs;exact h p hp
 have hpos:=List.length_pos_iff.2 hne;unfold uY;rw[List.getLast?_eq_some_getLast hne,Nat.zero_add];refine Y4 h' ?_ junk;rw[List.getElem?_map,show((acc.length:Int)-1).toNat=acc.length-1 by omega,←List.getLast?_eq_getElem?,List.getLast?_eq_some_getLast hne];rfl
theorem QO{D:aA}{bo n:Nat}{x:List Int}(h:At D bo 0 (ints x))(hx:x.length=3*n)(hn:n≤7):Sl D RP 3 (.slice (some ⟨bo,0,none⟩) n n) (sH x):=by
  obtain⟨h1,h2⟩:=k9 _ _ hx;have hle:n≤9223372036854775807∨True:=Or.inr trivial;have key:∀(l:List Pt) (i:Nat) (p:Pt),l[i]?= some p→((ints (C7.kW l)).drop (i*3)).take 3=[.int .i64 p.a,.int .i64 p.b,.int .i64 p.c]:=by
    intro l;induction l with
    |nil=>intro i p hi;simp at hi
    |cons d l ih=>
      intro i p hi;cases i with
      | zero => obtain rfl : d = p := by simpa using hi
                rfl
      |succ i=>
        rw[C7.yU,show(i+1)*3=i*3+3 by omega];exact ih i p (by simpa using hi)
  refine⟨_,n,by rw[h2],by omega,?_,Or.inr ⟨bo,0,rfl,fun i p hi=>⟨_,rfl,rfl,fun j v hj=>?_⟩⟩⟩
  · rw[h2];omega
  · have:=key _ _ _ hi;rw[h1]at this;rw[←this,List.getElem?_take]at hj;split at hj
    · rw[List.getElem?_drop]at hj;have:=h _ v hj;rw[show 0+i*3+j=0+(i*3+j) by omega];exact this
    · cases hj
def ML(y:bO)(out:List Int)(pre:List (List Int))(g:Array MapEntry×Nat×List (rT 8×Int)×Value×aB×Value×aB):Prop:=
 mY O9 g.1 g.2.2.1∧A3 y.chairs.length g.2.2.1∧bC 215 9 g.2.2.2.1 (eN y out pre).length (sY ((eN y out pre).map fun p=>p.1)) g.2.2.2.2.1∧bC 3 1 g.2.2.2.2.2.1 (eN y out pre).length (ints ((eN y out pre).map fun p=>(p.2:Int))) g.2.2.2.2.2.2
theorem L4{y:bO}{out:List Int}{pre:List (List Int)}{x:List Int}{es:Array MapEntry}{cl:Nat}{M:List (rT 8×Int)}{v u:Value}{ν ω:aB}(hM:mY O9 es M)(hok:A3 y.chairs.length M)
  (hc:(pU y.claims out (qW y.chairs.length (dR y (sH x)):Int)&&(decide (((eN y out pre).length:Int)=0)|| !(uY (eN y out pre)==wV (dR y (sH x)))))=true)
  (h1:bC 215 9 v ((eN y out pre).length+1) (sY ((eN y out pre).map fun p=>p.1)++ints (wV (dR y (sH x)))) ν) (h2:bC 3 1 u ((eN y out pre).length+1) (ints ((eN y out pre).map fun p=>(p.2:Int))++[.int .i64 (qW y.chairs.length (dR y (sH x)):Int)]) ω):ML y out (pre++[x]) (es,cl,M,v,ν,u,ω):=by
 have e:eN y out (pre++[x])=eN y out pre++[(dR y (sH x),qW y.chairs.length (dR y (sH x)))]:=by
  rw[yC,oZ,if_pos hc]
 unfold ML;rw[e];refine⟨hM,hok,?_,?_⟩
 ·simpa [sY]using h1
 ·simpa [ints]using h2
theorem QR{y:bO}{out:List Int}{pre:List (List Int)}{x:List Int}{es:Array MapEntry}{cl:Nat}{M:List (rT 8×Int)}{v u:Value}{ν ω:aB}(hM:mY O9 es M)(hok:A3 y.chairs.length M)
  (hc:(pU y.claims out (qW y.chairs.length (dR y (sH x)):Int)&&(decide (((eN y out pre).length:Int)=0)|| !(uY (eN y out pre)==wV (dR y (sH x)))))=false)
  (h1:bC 215 9 v (eN y out pre).length (sY ((eN y out pre).map fun p=>p.1)) ν) (h2:bC 3 1 u (eN y out pre).length (ints ((eN y out pre).map fun p=>(p.2:Int))) ω):ML y out (pre++[x]) (es,cl,M,v,ν,u,ω):=by
 have e:eN y out (pre++[x])=eN y out pre:=by
  rw[yC,oZ,if_neg (by rw[hc];simp)]
 unfold ML;rw[e];exact⟨hM,hok,h1,h2⟩
theorem X2{y:bO}(h:y.chairs.length≤7):(C1.bX (gN y.chairs)).length≤2097152:=by
 have h1:=C1.pN (gN y.chairs);have h2:2^(gN y.chairs).length≤2^21:=Nat.pow_le_pow_right Yd (by rw[oC];omega)
 omega
theorem uA{l x:List Int}{pre r:List (List Int)}(h:C1.bX l=pre++x::r):x.length=l.length∧(∀n∈x,0≤n∧n≤1)∧pre.length<(C1.bX l).length:=by
 have hm:x∈C1.bX l:=by rw[h];simp
 exact⟨(C1.qB hm).1,(C1.qB hm).2,by rw[h];simp⟩
theorem II{x:List Int}(h:∀n∈x,0≤n∧n≤1)(hg:C7.kW (sH x)=x):∀p∈sH x,P6 p:=fun p hp=>by
 have:∀n∈p.l,n∈x:=fun n hn=>by rw[←hg];exact List.mem_flatMap.2 ⟨p,hp,hn⟩
 exact⟨h _ (this _ (by simp[Pt.l])),h _ (this _ (by simp[Pt.l])),h _ (this _ (by simp[Pt.l]))⟩
theorem OE(A ν ω T:aB):A++(ν++(ω++T))=A++(ν++ω)++T:=by simp
theorem UC(A ν ω T:aB):A++((ν++ω)++T)=A++ν++(ω++T):=by simp
theorem PL{a b c d:Nat}{l:List Nat}:∀k∈[c,d],k∈a::b::c::d::l:=fun k hk=>by
 simp only[List.mem_cons,List.not_mem_nil,or_false]at hk ⊢
 rcases hk with rfl|rfl
 ·exact Or.inr (Or.inr (Or.inl rfl))
 ·exact Or.inr (Or.inr (Or.inr (Or.inl rfl)))
theorem UM{A B ν ω C:aB}{k:Nat}(h:(((A++B)++(ν++(ω++C))).map fun p=>p.1).Nodup)(hk:k∈(A++B).ks):k∉ν.ks++ω.ks:=by
 rw[List.map_append,List.map_append,List.map_append,List.nodup_append]at h;intro hm;refine h.2.2 k (by simpa using hk) k ?_ rfl;rcases List.mem_append.1 hm with hm|hm
 ·exact List.mem_append_left _ hm
 ·rw[List.map_append];exact List.mem_append_right _ (List.mem_append_left _ hm)
theorem LC{n:Nat}{s:Sc}(h:IX n s)(hn:n≤7):qW n s≤200:=by
 have h1:=s7 s.fits n s.broken;have h2:=O0 h.bits hn;have h3:=h.whole;unfold qW;omega
theorem RG:KS Tryz.prog 215 9:=by
 have hf:(Tryz.prog.fieldsOf 215).toList=[(Tryz.prog.fieldsOf 215)[0]!,(Tryz.prog.fieldsOf 215)[1]!,(Tryz.prog.fieldsOf 215)[2]!]:=by kernel_rfl
 refine⟨by kernel_rfl,by kernel_rfl,by kernel_rfl,?_⟩;rw[hf];refine .cons (vF.int (by decide+kernel) Yg Yg) (.cons (vF.int (by decide+kernel) Yg Yg) (.cons (n:=7) (vF.arr (e:=3) (by decide+kernel) Yg Yg Yg Yg ?_ ?_) .nil))
 ·rw[show((Tryz.prog.fieldsOf 215)[2]!).type=213 by kernel_rfl];exact Tf.a213
 ·rw[show((Tryz.prog.fieldsOf 215)[2]!).type=213 by kernel_rfl];exact Tf.s213
theorem CT(yv tv:Value)(y:bO)(t:List Pt)(D:aA)(hy:kS D yv y)(ht:Sl D RP 3 tv t)(hlen:t.length=y.chairs.length)(h7:t.length≤7)(hb:∀p∈t,P6 p)(hf:0≤y.fit∧y.fit≤9)(hs:∀c∈y.chairs,0≤c.size∧c.size≤9):Fn Tryz.prog 101 #[yv,tv] D (fun _ v=>v=.agg (ints (wV (dR y t))).toArray):=by
 rw[←KX];exact LM yv tv y t D hy ht hlen h7 hb hf hs
theorem GG(wb mb:Nat)(cv qv:Value)(fit:Int)(chs:List Ch)(s:Sc)(hn7:chs.length≤7)(hs:IX chs.length s)(es:Array MapEntry)(clock:Nat)(M:List (rT 8×Int))(D:aA)(hS:Sl D qY 4 cv chs)(hM:mY O9 es M)(hok:A3 chs.length M):
  O8 Tryz.prog 102 [.pointer (some ⟨wb,0,none⟩),.agg (ints (wV s)).toArray] D [(wb,.cells [cv,.int .i64 fit,qv,.map (some mb)].toArray 207 (0,0)),(mb,.map es clock)] (fun _ v ν'=>v=.int .i64 (qW chs.length s:Int)∧∃es' clock' M',ν'=[(wb,.cells [cv,.int .i64 fit,qv,.map (some mb)].toArray 207 (0,0)),(mb,.map es' clock')]∧mY O9 es' M'∧A3 chs.length M'):=by
 rw[←KX];exact MB wb mb cv qv fit chs s hn7 hs es clock M D hS hM hok
theorem BS(wb mb:Nat)(cv qv:Value)(y:bO)(out:List Int)(ov:Value)(hn7:y.chairs.length≤7)(hft:0≤y.fit∧y.fit≤9)(hsz:∀c∈y.chairs,0≤c.size∧c.size≤9)(es0:Array MapEntry)(clock0:Nat)(M0:List (rT 8×Int))(D:aA)(hS:Sl D qY 4 cv y.chairs)(hq:Sl D R2 2 qv y.claims)(ho:Sl D RI 1 ov out)(hM0:mY O9 es0 M0)(hok0:A3 y.chairs.length M0):
  O8 Tryz.prog 55 [.pointer (some ⟨wb,0,none⟩),ov] D [(wb,.cells [cv,.int .i64 y.fit,qv,.map (some mb)].toArray 207 (0,0)),(mb,.map es0 clock0)] (fun D' v ν'=>∃sv mv,v=.tuple #[sv,mv]∧Sl D' PG 9 sv ((iC y out).map fun p=>p.1)∧Sl D' RI 1 mv ((iC y out).map fun p=>(p.2:Int))∧∃es' clock' M',ν'=[(wb,.cells [cv,.int .i64 y.fit,qv,.map (some mb)].toArray 207 (0,0)),(mb,.map es' clock')]∧mY O9 es' M'∧A3 y.chairs.length M'):=by
 obtain⟨oa,oc,rfl⟩:=ho.shape;refine m7 56 Tryz.func55 rfl rfl rfl rfl (fun h0 hwl hwn=>Zy (C.rg (Zr rfl (fun q1 E1 hE1 hB1=>Zr rfl (fun q2 E2 hE2 hB2=>Zu rfl Tf.z120 rfl (fun q3=>Zu rfl Tf.z25 rfl (fun q4=>Zo (Zx (Zy (Zy (C.rg ?_)))))))))));refine Zg 0 rfl Tf.a122 rfl hB1 rfl (Zab rfl (Zk rfl Tf.f207_0 rfl (dU rfl Tf.a40 Tf.s40 rfl (List.Mem.tail _ (List.Mem.tail _ (List.Mem.head _))) rfl rfl List.not_mem_nil rfl trivial (cW rfl rfl rfl (fun D1 hD1=>qF _ y _ ⟨_,_,rfl,hS.up qY.up (hD1 _ Ye),hq.up R2.up (hD1 _ Ye)⟩ hn7) rfl trivial (fun v1 D1 hD1 hp1=>Zo (Zx (Zae ?_)))))));obtain⟨br,rfl,hit⟩:=hp1;refine I8 (γ:=Array MapEntry×Nat×List (rT 8×Int)×Value×aB×Value×aB) (xs:=C1.bX (gN y.chairs)) (enc:=OT y.chairs.length) (cells:=ints) (Dr:=D1) (ML y out) (fun _ _ _=>False) (fun g=>(q4,.cells [g.2.2.2.2.2.1].toArray 25 (0,0))::(q3,.cells [g.2.2.2.1].toArray 120 (0,0))::(wb,.cells [cv,.int .i64 y.fit,qv,.map (some mb)].toArray 207 (0,0))::(mb,.map g.1 g.2.1)::(g.2.2.2.2.1++g.2.2.2.2.2.2)) (es0,clock0,M0,.slice none 0 0,[],.slice none 0 0,[]) rfl rfl (fun g k hk=>List.mem_cons_of_mem _ (List.mem_cons_of_mem _ (List.mem_append_left (aB.ks _) hk))) rfl hit Ye (fun _=>rfl) rfl ⟨hM0,hok0,by simpa [eN,sY]using bC.nil,by simpa [eN,ints]using bC.nil⟩ rfl ?_ ?_ (fun _ _ _ _ h=>h.elim)
 ·rintro pre x ⟨es,clock,M,v,ν,u,ω⟩ ⟨us,hx⟩ ⟨hM,hok,ha1,ha2⟩ l bd bo rec hh D7 hD7 hbo hst hpend;simp only at hM hok ha1 ha2;obtain⟨hx3,hxb,hpl⟩:=uA hx;have hcap:=X2 hn7;rw[oC]at hx3;have ht:=QO hbo hx3 hn7;obtain⟨hg1,hg2⟩:=k9 _ _ hx3;have htl:(sH x).length=y.chairs.length:=hg2;have htb:=II hxb hg1;have hsc:=BW htl Yd;have hpsl:=B7 y out pre;have hmb:=LC hsc hn7;have hfit7:∀p∈eN y out pre,p.1.fits.length=7:=xG y out pre;have hs9:=sO (dR y (sH x)) (by simp[dR]);refine C.rg (Zj rfl (Zo ?_));refine fun a w hhh=>wD (A:=[(_,_),(_,_),(_,_),(_,_)]++(ν++ω)) (B:=[(bd,.deferred (some []))]) (r:=rec) (l:=l) (by rfl) hst ?_ a w hhh
  refine BA ((q4,.cells [u].toArray 25 (0,0))::(q3,.cells [v].toArray 120 (0,0))::(wb,.cells [cv,.int .i64 y.fit,qv,.map (some mb)].toArray 207 (0,0))::(mb,.map es clock)::(ν++(ω++[(l,.loop {rec with state:=.busy}),(bd,.deferred (some []))]))) Ye (oM (fun hnd=>?_));simp only[List.map_cons,List.map_append,List.map_nil,List.nodup_cons,List.nodup_append,List.mem_cons,List.mem_append,List.not_mem_nil,not_or]at hnd;refine Zae (Zy (C.rg (Zg 0 rfl Tf.a122 rfl hB1 rfl (Zab rfl (Zk rfl Tf.f207_0 rfl (dU rfl Tf.a40 Tf.s40 rfl (List.Mem.tail _ (List.Mem.tail _ (List.Mem.head _))) rfl rfl List.not_mem_nil rfl trivial (Za rfl (Zd rfl (fun D2 hD2=>CT _ _ y (sH x) _ ⟨_,_,rfl,hS.up qY.up (hD2 _ Ye),hq.up R2.up (hD2 _ Ye)⟩ (ht.up RP.up (hD2 _ Ye)) htl Yd htb hft hsz) (Zu rfl Tf.z215 rfl (fun q5=>bL rfl rfl rfl rfl Tf.s215 (by simpa using hs9) (by rfl) .head (fF _) trivial (Zo ?_)))))))))));refine Zx (Zy (C.rg (Zg 0 rfl Tf.a122 rfl hB1 rfl (aX (vs:=ints (wV (dR y (sH x)))) rfl Tf.a215 rfl (List.Mem.head _) (by rw[show(ints (wV (dR y (sH x)))).length=9 by simpa using hs9];exact Tf.s215) List.not_mem_nil rfl trivial (aI ([(_,_),(_,_),(_,_)]++[(_,_),(_,_)]++(ν++(ω++[(l,_),(bd,_)]))) rfl (iQ (A:=[(_,_),(_,_),(_,_)]) (ν:=[(_,_),(_,_)]) (B:=ν++(ω++[(l,_),(bd,_)])) rfl rfl rfl rfl (Or.inl rfl) (P3 (cs:=[_,_,_,_])) (fun D5 hD5=>GG wb mb cv qv y.fit y.chairs (dR y (sH x)) hn7 hsc es clock M D5 (hS.up qY.up (hD5 _ Ye)) hM hok) rfl trivial (fun v5 D6 _ hD6 hp5=>?_)))))))
  obtain⟨rfl,es1,cl1,M1,rfl,hM1,hok1⟩:=hp5;refine Zj rfl (Zo (Zx (Zy (C.drawA [] 7 22 319536 (fun _ _ _ h=>h) (Zg 0 rfl Tf.a122 rfl hB1 rfl (Zab rfl (Zk rfl Tf.f207_0 rfl (dU rfl Tf.a40 Tf.s40 rfl (List.Mem.tail _ (List.Mem.tail _ (List.Mem.tail _ (List.Mem.head _)))) rfl rfl List.not_mem_nil rfl trivial (Za rfl (Zg 0 rfl Tf.a25 rfl hB2 rfl (Zd rfl (fun D3 hD3=>yS _ y _ _ out _ ⟨_,_,rfl,hS.up qY.up (hD3 _ Ye),hq.up R2.up (hD3 _ Ye)⟩ (ho.up RI.up (hD3 _ Ye))) ?_)))))))))));refine Za rfl ?_;refine' dA [(false,8),(false,9),(false,10),(false,11),(false,12),(true,13),(true,14),(true,15),(false,16),(false,17),(true,18),(false,19),(false,20),(false,21)] [] (s:=31) (p:=45) rfl rfl (fun hg1=>?_) (fun hg1=>?_) ?_;rotate_left
  ·refine aU rfl Tf.a120 rfl (List.Mem.tail _ (List.Mem.tail _ (List.Mem.head _))) rfl List.not_mem_nil rfl ⟨_,rfl,rfl⟩ (dH rfl U120 rfl ha1 rfl rfl ⟨_,rfl,rfl⟩ (eL rfl rfl rfl rfl ⟨_,rfl,rfl⟩ (Zb rfl ?_)));refine' eI [(false,12),(true,13),(true,14),(true,15),(false,16),(false,17),(true,18),(false,19),(false,20)] [(false,21)] (s:=35) (p:=44) rfl rfl (fun hg2=>?_) (fun hg2=>?_) ?_;rotate_left
   ·have hne:eN y out pre≠[]:=fun e=>by rw[e]at hg2;simp at hg2
    have hpos:=List.length_pos_iff.2 hne;obtain⟨b5,cap5,junk5,rfl,hcp5,rfl,hl51,hl52⟩:=ha1.some hpos;refine aU rfl Tf.a120 rfl (List.Mem.tail _ (List.Mem.tail _ (List.Mem.head _))) rfl List.not_mem_nil rfl ⟨_,rfl,rfl⟩ (aU rfl Tf.a120 rfl (List.Mem.tail _ (List.Mem.tail _ (List.Mem.head _))) rfl List.not_mem_nil rfl ⟨_,rfl,rfl⟩ (hC rfl U120 rfl rfl rfl ⟨_,rfl,rfl⟩ (fW rfl rfl rfl Yf rfl ⟨_,rfl,rfl⟩ (jL rfl U120 Tf.s215 rfl rfl Yd Yd rfl ⟨_,rfl,rfl⟩ (dU (vs:=sY ((eN y out pre).map fun p=>p.1)++junk5) (us:=ints (uY (eN y out pre))) rfl Tf.a215 Tf.s215 rfl (List.Mem.tail _ (List.Mem.tail _ (List.Mem.tail _ (List.Mem.tail _ (List.Mem.tail _ (List.Mem.head _)))))) (FT hfit7 hne junk5) (by simpa using A5 hfit7 hne) List.not_mem_nil rfl ⟨_,rfl,rfl⟩ (aX (vs:=ints (wV (dR y (sH x)))) rfl Tf.a215 rfl (List.Mem.head _) (by rw[show(ints (wV (dR y (sH x)))).length=9 by simpa using hs9];exact Tf.s215) List.not_mem_nil rfl ⟨_,rfl,rfl⟩ (QX (n:=9) rfl RG (A5 hfit7 hne) hs9 rfl rfl rfl ⟨_,rfl,rfl⟩ (mA rfl rfl rfl rfl ⟨_,rfl,rfl⟩ ?_))))))))
    exact aF fun a w hh=>hh.cutK 8 rfl
   ·refine Zi rfl (Zi rfl (Zi rfl (Zi rfl (Zi rfl (Zi rfl (Zi rfl (Zi rfl (mJ rfl rfl rfl rfl ⟨_,rfl,rfl⟩ ?_))))))));exact aF fun a w hh=>hh.cutK 8 rfl
   refine Zv rfl ?_;exact aF fun a w hh=>hh.cutK 5 rfl
  ·refine Zi rfl (Zi rfl (Zi rfl (Zi rfl (Zi rfl (Zi rfl (Zi rfl (Zi rfl (Zi rfl (Zi rfl (Zi rfl (Zi rfl ?_)))))))))));refine Zi rfl (Zw rfl ?_);exact aF fun a w hh=>hh.cutK 13 rfl
  refine Zo (Zx (aP rfl (fun hc1=>?_) (fun hc1=>?_)))
  ·refine oM (fun hnd=>?_);have hq5:=UM (A:=[_,_,_]) (B:=[_,_]) (k:=q5) hnd (List.Mem.head _);have hq4:=UM (A:=[_,_,_]) (B:=[_,_]) (k:=q4) hnd (List.Mem.tail _ (List.Mem.head _));have hq3:=UM (A:=[_,_,_]) (B:=[_,_]) (k:=q3) hnd (List.Mem.tail _ (List.Mem.tail _ (List.Mem.head _)));refine wE (ν.ks++ω.ks) 3 [false,true,true,true,true,true,true,false,false,false] [.fork [0,1,4,5] 2 (.fork [] 3 (.fin [6]) 6 (.fin [3])) 6 (.fin [2,3]),.fin [7,8,9]] Tf.follows (fun _ _ _ h=>h) Yg (O1 (dS [(false,0),(true,1),(true,4),(true,5)] rfl (aU rfl Tf.a120 rfl (List.Mem.tail _ (List.Mem.tail _ (List.Mem.head _))) rfl Yk rfl trivial (aX (vs:=ints (wV (dR y (sH x)))) rfl Tf.a215 rfl (List.Mem.head _) (by rw[show(ints (wV (dR y (sH x)))).length=9 by simpa using hs9];exact Tf.s215) hq5 rfl trivial (aU rfl Tf.a25 rfl (List.Mem.tail _ (List.Mem.head _)) rfl Yk rfl trivial (Za rfl (Zo (gJ true true rfl rfl ?_ ?_))))))))
   ·refine Zm rfl U120 Tf.s215 Tf.z215 rfl rfl rfl rfl (.cons rfl (by simpa using hs9) .nil) (fun b901 D901 hD901 hA901=>?_);have hAs:=hA901;refine Zo (dS [] rfl (Zo (gJ true true rfl rfl ?_ ?_)))
    ·refine aI ([(_,_),(_,_),(_,_),(_,_),(_,_)]++ν++(ω++[(l,_),(bd,_)])) (List.append_assoc _ _ _).symm (aS (A:=[(_,_),(_,_),(_,_),(_,_),(_,_)]) (B:=(ω++[(l,_),(bd,_)])) rfl U120 rfl rfl Tf.s215 Tf.z215 rfl Tf.i215 rfl rfl rfl ha1 (iG.lit hAs) Ye (by simpa using hs9) (zA hfit7) (by simpa using fF _) Yd (Or.inr (fun p hp=>List.mem_append_left _ (List.mem_map.2 ⟨p,hp,rfl⟩))) rfl trivial (fun v1x ν1x ha1x=>Zo (cE [(true,6)] rfl (Zm rfl U25 Tf.s3 Tf.z3 rfl rfl rfl rfl (.cons rfl rfl .nil) (fun b902 D902 hD902 hA902=>?_)))));have hAm:=hA902;refine Zo (xK [(false,7),(false,8),(false,9)] rfl (aI (([(_,_),(_,_),(_,_),(_,_),(_,_)]++ν1x)++ω++[(l,_),(bd,_)]) (List.append_assoc _ _ _).symm (aS (A:=[(_,_),(_,_),(_,_),(_,_),(_,_)]++ν1x) (B:=[(l,_),(bd,_)]) rfl U25 rfl rfl Tf.s3 Tf.z3 rfl Tf.i3 rfl rfl rfl ha2 (iG.lit hAm) Ye rfl Ye Ym Yd (Or.inr (fun p hp=>List.mem_append_right _ (List.mem_map.2 ⟨p,hp,rfl⟩))) rfl trivial (fun u1x ω1x ha2x=>aI ((q5,_)::(q4,.cells [u].toArray 25 (0,0))::(q3,.cells [v].toArray 120 (0,0))::(wb,.cells [cv,.int .i64 y.fit,qv,.map (some mb)].toArray 207 (0,0))::(mb,.map es1 cl1)::(ν1x++(ω1x++[(l,_),(bd,_)]))) ((List.append_assoc _ _ _).trans (List.append_assoc _ _ _)) (aT rfl rfl rfl ha1x.cells1 Tf.s120 (.tail (.tail .head)) Ye rfl ha1x.cell1 trivial (aT rfl rfl rfl ha2x.cells1 Tf.s25 (.tail .head) Ye rfl ha2x.cell1 trivial ?_))))));have hI1:ML y out (pre++[x]) (es1,cl1,M1,v1x,ν1x,u1x,ω1x):=L4 hM1 hok1 hc1 (by simpa using ha1x) (by simpa using ha2x);refine Zo (yK (Zag ?_));exact fun a w hh=>iZ (A:=[(_,_),(_,_),(_,_),(_,_)]++(ν1x++ω1x)) (B:=[(bd,.deferred (some []))]) (es1,cl1,M1,v1x,ν1x,u1x,ω1x) hI1 rfl rfl a w ((hh.dropBoxes 1).boxesEq (OE [_,_,_,_] ν1x ω1x [_,_]))
    ·refine Zm rfl U25 Tf.s3 Tf.z3 rfl rfl rfl rfl (.cons rfl rfl .nil) (fun b902 D902 hD902 hA902=>?_);have hAm:=hA902;refine Zo (cE [(true,3)] rfl (aI ([(_,_),(_,_),(_,_),(_,_),(_,_)]++ν++(ω++[(l,_),(bd,_)])) (List.append_assoc _ _ _).symm (aS (A:=[(_,_),(_,_),(_,_),(_,_),(_,_)]) (B:=(ω++[(l,_),(bd,_)])) rfl U120 rfl rfl Tf.s215 Tf.z215 rfl Tf.i215 rfl rfl rfl ha1 (iG.lit hAs) Ye (by simpa using hs9) (zA hfit7) (by simpa using fF _) Yd (Or.inr (fun p hp=>List.mem_append_left _ (List.mem_map.2 ⟨p,hp,rfl⟩))) rfl trivial (fun v1x ν1x ha1x=>Zo (xK [(false,7),(false,8),(false,9)] rfl (aI (([(_,_),(_,_),(_,_),(_,_),(_,_)]++ν1x)++ω++[(l,_),(bd,_)]) (List.append_assoc _ _ _).symm (aS (A:=[(_,_),(_,_),(_,_),(_,_),(_,_)]++ν1x) (B:=[(l,_),(bd,_)]) rfl U25 rfl rfl Tf.s3 Tf.z3 rfl Tf.i3 rfl rfl rfl ha2 (iG.lit hAm) Ye rfl Ye Ym Yd (Or.inr (fun p hp=>List.mem_append_right _ (List.mem_map.2 ⟨p,hp,rfl⟩))) rfl trivial (fun u1x ω1x ha2x=>aI ((q5,_)::(q4,.cells [u].toArray 25 (0,0))::(q3,.cells [v].toArray 120 (0,0))::(wb,.cells [cv,.int .i64 y.fit,qv,.map (some mb)].toArray 207 (0,0))::(mb,.map es1 cl1)::(ν1x++(ω1x++[(l,_),(bd,_)]))) ((List.append_assoc _ _ _).trans (List.append_assoc _ _ _)) (aT rfl rfl rfl ha1x.cells1 Tf.s120 (.tail (.tail .head)) Ye rfl ha1x.cell1 trivial (aT rfl rfl rfl ha2x.cells1 Tf.s25 (.tail .head) Ye rfl ha2x.cell1 trivial ?_))))))))));have hI1:ML y out (pre++[x]) (es1,cl1,M1,v1x,ν1x,u1x,ω1x):=L4 hM1 hok1 hc1 (by simpa using ha1x) (by simpa using ha2x);refine Zo (yK (Zag ?_));exact fun a w hh=>iZ (A:=[(_,_),(_,_),(_,_),(_,_)]++(ν1x++ω1x)) (B:=[(bd,.deferred (some []))]) (es1,cl1,M1,v1x,ν1x,u1x,ω1x) hI1 rfl rfl a w ((hh.dropBoxes 1).boxesEq (OE [_,_,_,_] ν1x ω1x [_,_]))
   ·refine Zm rfl U25 Tf.s3 Tf.z3 rfl rfl rfl rfl (.cons rfl rfl .nil) (fun b901 D901 hD901 hA901=>?_);have hAm:=hA901;refine Zo (cE [(true,2),(true,3)] rfl (Zm rfl U120 Tf.s215 Tf.z215 rfl rfl rfl rfl (.cons rfl (by simpa using hs9) .nil) (fun b902 D902 hD902 hA902=>?_)));have hAs:=hA902;refine aI ([(_,_),(_,_),(_,_),(_,_),(_,_)]++ν++(ω++[(l,_),(bd,_)])) (List.append_assoc _ _ _).symm (aS (A:=[(_,_),(_,_),(_,_),(_,_),(_,_)]) (B:=(ω++[(l,_),(bd,_)])) rfl U120 rfl rfl Tf.s215 Tf.z215 rfl Tf.i215 rfl rfl rfl ha1 (iG.lit hAs) Ye (by simpa using hs9) (zA hfit7) (by simpa using fF _) Yd (Or.inr (fun p hp=>List.mem_append_left _ (List.mem_map.2 ⟨p,hp,rfl⟩))) rfl trivial (fun v1x ν1x ha1x=>Zo (xK [(false,7),(false,8),(false,9)] rfl (aI (([(_,_),(_,_),(_,_),(_,_),(_,_)]++ν1x)++ω++[(l,_),(bd,_)]) (List.append_assoc _ _ _).symm (aS (A:=[(_,_),(_,_),(_,_),(_,_),(_,_)]++ν1x) (B:=[(l,_),(bd,_)]) rfl U25 rfl rfl Tf.s3 Tf.z3 rfl Tf.i3 rfl rfl rfl ha2 (iG.lit hAm) Ye rfl Ye Ym Yd (Or.inr (fun p hp=>List.mem_append_right _ (List.mem_map.2 ⟨p,hp,rfl⟩))) rfl trivial (fun u1x ω1x ha2x=>aI ((q5,_)::(q4,.cells [u].toArray 25 (0,0))::(q3,.cells [v].toArray 120 (0,0))::(wb,.cells [cv,.int .i64 y.fit,qv,.map (some mb)].toArray 207 (0,0))::(mb,.map es1 cl1)::(ν1x++(ω1x++[(l,_),(bd,_)]))) ((List.append_assoc _ _ _).trans (List.append_assoc _ _ _)) (aT rfl rfl rfl ha1x.cells1 Tf.s120 (.tail (.tail .head)) Ye rfl ha1x.cell1 trivial (aT rfl rfl rfl ha2x.cells1 Tf.s25 (.tail .head) Ye rfl ha2x.cell1 trivial ?_))))))));have hI1:ML y out (pre++[x]) (es1,cl1,M1,v1x,ν1x,u1x,ω1x):=L4 hM1 hok1 hc1 (by simpa using ha1x) (by simpa using ha2x);refine Zo (yK (Zag ?_));exact fun a w hh=>iZ (A:=[(_,_),(_,_),(_,_),(_,_)]++(ν1x++ω1x)) (B:=[(bd,.deferred (some []))]) (es1,cl1,M1,v1x,ν1x,u1x,ω1x) hI1 rfl rfl a w ((hh.dropBoxes 1).boxesEq (OE [_,_,_,_] ν1x ω1x [_,_]))
  ·have hI0:ML y out (pre++[x]) (es1,cl1,M1,v,ν,u,ω):=QR hM1 hok1 hc1 ha1 ha2;refine Zac (Zag ?_);exact fun a w hh=>iZ (A:=[(_,_),(_,_),(_,_),(_,_)]++(ν++ω)) (B:=[(bd,.deferred (some []))]) (es1,cl1,M1,v,ν,u,ω) hI0 rfl rfl a w ((hh.dropBoxes 1).boxesEq (OE [_,_,_,_] ν ω [_,_]))
 ·rintro⟨es,clock,M,v,ν,u,ω⟩ bd ⟨hM,hok,ha1,ha2⟩;simp only at hM hok ha1 ha2;rw[tS]at ha1 ha2;have hfit7:∀p∈iC y out,p.1.fits.length=7:=by rw[←tS];exact xG y out _
  have hsl:(iC y out).length≤2097152:=by rw[←tS];have:=B7 y out (C1.bX (gN y.chairs));have:=X2 hn7;omega
  refine tO ((q4,.cells [u].toArray 25 (0,0))::(q3,.cells [v].toArray 120 (0,0))::(wb,.cells [cv,.int .i64 y.fit,qv,.map (some mb)].toArray 207 (0,0))::(mb,.map es clock)::((ν++ω)++[(bd,.deferred (some []))])) rfl (Zag (Zx (Zy (C.drawA [] 1 4 6 (fun _ _ _ h=>h) (Zn rfl Tf.a120 rfl (List.Mem.tail _ (List.Mem.head _)) rfl (Zn rfl Tf.a25 rfl (List.Mem.head _) rfl (KB rfl rfl rfl ha1.cells1 Tf.s120 (.tail .head) Ye rfl ha1.cell1 trivial (aT rfl rfl rfl ha2.cells1 Tf.s25 .head Ye rfl ha2.cell1 trivial (Zo (Zx (aC ?_)))))))))));refine tO ([(_,_),(_,_),(_,_),(_,_)]++ν++(ω++[(bd,_)])) (UC [_,_,_,_] ν ω [_]) (H1 (A:=[(_,_),(_,_),(_,_),(_,_)]) (B:=ω++[(bd,_)]) ha1 PL (fun D8 hD8 hF8=>tO ([(_,_),(_,_),(_,_),(_,_)]++ω++[(bd,_)]) (List.append_assoc _ _ _).symm (H1 (A:=[(_,_),(_,_),(_,_),(_,_)]) (B:=[(bd,_)]) ha2 PL (fun D9 hD9 hF9=>?_))));exact V2 (A:=[(_,_),(_,_)]) (ν':=[(_,_),(_,_)]) (B:=[]) (vs:=[_,_]) rfl rfl rfl ⟨⟨_,_,_,rfl,(List.Mem.tail _ (List.Mem.head _)),Or.inl ⟨Tf.a120,rfl⟩⟩,⟨_,_,_,rfl,List.Mem.head _,Or.inl ⟨Tf.a25,rfl⟩⟩,trivial⟩ rfl (fun D hD=>⟨v,u,rfl,(hF8.scs Ye Yd).up PG.up ((hD9 _ Ye).trans (hD _ Ye)),(hF9.ints Ye Yd).up RI.up (hD _ Ye),es,clock,M,rfl,hM,hok⟩)
end L7
end Go.Fs
namespace Go.Fs
open Go.Proofs
namespace L7
open C7
def GR(s:Sc)(l:List (Int×Int)):Nat:=s.whole+(l.filter fun p=>fB s.fits p.1.toNat p.2.toNat).length
end L7
end Go.Fs
namespace Go.Fs
open Go.Proofs
namespace L7
open C7
def fD(y:bO):(Int×Int)×Int:=if aV y≠0 then((0,0),aV y)else match(iC y []).map fun p=>(p.2:Int)with
 | []=>((0,0),11)
 |m::l=>((m::l).foldl (fun r n=>(min r.1 n,max r.2 n)) (m,m),0)
theorem j0{y:bO}(h:aV y=0)(hn:iC y []=[]):Value.tuple #[.agg #[.int .i64 0,.int .i64 0],.int .i64 11]=.tuple #[gT (fD y).1,.int .i64 (fD y).2]:=by
 rw[fD,if_neg Yd,hn];rfl
theorem vP{y:bO}{L:List Int}{m0:Int}(h:aV y=0)(hL:((iC y []).map fun p=>(p.2:Int))=L)(hm:L[0]?= some m0):Value.tuple #[.agg #[.int .i64 (L.foldl (fun r n=>(min r.1 n,max r.2 n)) (m0,m0)).1,.int .i64 (L.foldl (fun r n=>(min r.1 n,max r.2 n)) (m0,m0)).2],.int .i64 0]=.tuple #[gT (fD y).1,.int .i64 (fD y).2]:=by
  rw[fD,if_neg Yd,hL];cases L with
  |nil=>simp at hm
  | cons m l => obtain rfl : m = m0 := by simpa using hm
                rfl
theorem V8{L:List Int}{k:Nat}{n m0:Int}(h:L[k]?= some n):(L.take (k+1)).foldl (fun r n=>(min r.1 n,max r.2 n)) (m0,m0)=(min ((L.take k).foldl (fun r n=>(min r.1 n,max r.2 n)) (m0,m0)).1 n,max ((L.take k).foldl (fun r n=>(min r.1 n,max r.2 n)) (m0,m0)).2 n):=by
 rw[List.take_add_one,h,Option.toList_some,List.foldl_append];rfl
theorem pX(yv:Value)(y:bO)(D:aA)(hy:kS D yv y):Fn Tryz.prog 22 #[yv] D (fun _ v=>v=.tuple #[gT (fD y).1,.int .i64 (fD y).2]):=by
 have hy0:=hy;obtain⟨cv,qv,rfl,hc,hq⟩:=hy;refine enter 48 Tryz.func22 rfl rfl rfl rfl fun h0=>Zy (C.rg (Zr rfl (fun q1 E1 hE1 hB1=>Zu rfl Tf.z69 rfl (fun q2=>Zj rfl (Zo (Zx (Zy (Zy (C.rg (Zq rfl Tf.a40 rfl hB1 Tf.s40 ?_))))))))));refine Zd rfl (fun D1 hD1=>tB _ y _ (hy0.up (hD1 _ Ye))) (Zj rfl (Zo (Zx (Zy (C.rg (Za rfl (dQ rfl rfl rfl rfl trivial (Zo (Zx (aH rfl (fun hc1=>?_) (fun hc1=>?_)))))))))))
 ·refine Zy (C.rg (Zp [.int .i64 0,.int .i64 0] rfl Tf.p69 Tf.z69 rfl rfl (Za rfl (Zs rfl Tf.s69 (cY.head) (Zj rfl (Zo (Zx (aC (Zad ?_)))))))));exact Zc [_,_] rfl ⟨⟨_,_,_,rfl,(List.Mem.head _),Or.inr ⟨Tf.a69,(by first|exact Tf.s69|(simp only[List.size_toArray,aQ, *];exact Tf.s69)),rfl⟩⟩,rfl,trivial⟩ (fun D hD=>by show Value.tuple _=_;rw[fD,if_pos hc1];rfl)
 ·have hf0:aV y=0:=by omega
  have hyo:=yOk hf0;have hn7:=hyo.len;refine Zac (Zx (Zy (C.rg (Zq rfl Tf.a40 rfl hB1 Tf.s40 (fZ (μ:=_) rfl rfl rfl (fun D5 hD5=>K7 _ y _ _ D5 rfl) rfl trivial (fun v5 D6 _ hD6 hp5=>?_))))));obtain⟨wb,mb,rfl,rfl⟩:=hp5;refine aI ([]++[(_,_),(_,_)]++([(_,_)])) rfl (iQ (A:=[]) (ν:=[(_,_),(_,_)]) (B:=[(_,_)]) rfl rfl rfl rfl (Or.inl rfl) (P3 (cs:=[_,_,_,_])) (fun D7 hD7=>BS wb mb _ _ y [] _ Yd hyo.fit hyo.size #[] 0 [] _ (hc.up qY.up (hD7 _ Ye)) (hq.up R2.up (hD7 _ Ye)) Sl.nil rfl A3.nil) rfl trivial (fun v7 D8 _ hD8 hp7=>?_));obtain⟨sv,mv,rfl,hsv,hmv,es1,cl1,M1,rfl,hM1,hok1⟩:=hp7;refine Za rfl (Zz rfl (Zz rfl (Zj rfl (Zj rfl (Zo (Zx (Zy (Zy (C.rg (Za rfl (aY rfl U25 rfl hmv rfl rfl trivial ?_)))))))))));refine eL rfl rfl rfl rfl trivial (Zo (Zx (aH rfl (fun hc2=>?_) (fun hc2=>?_))))
  ·have hnil:iC y []=[]:=by simpa using hc2
   refine Zy (C.rg (Zp [.int .i64 0,.int .i64 0] rfl Tf.p69 Tf.z69 rfl rfl (Zs rfl Tf.s69 (.tail (.tail (cY.head))) (Zj rfl (Zo (Zx (aC (Zad ?_))))))));exact Zc [_,_] rfl ⟨⟨_,_,_,rfl,(List.Mem.tail _ (List.Mem.tail _ (List.Mem.head _))),Or.inr ⟨Tf.a69,(by first|exact Tf.s69|(simp only[List.size_toArray,aQ, *];exact Tf.s69)),rfl⟩⟩,rfl,trivial⟩ (fun D hD=>j0 hf0 hnil)
  ·generalize hL:((iC y []).map fun p=>(p.2:Int))=ms at hmv hc2 ⊢
   have hml:=hmv.len;have hne:ms≠[]:=fun e=>hc2 (by rw[e];rfl)
   obtain⟨m0,hm0⟩:∃m,ms[0]?= some m:=⟨ms[0]'(List.length_pos_iff.2 hne),List.getElem?_eq_getElem _⟩
   refine Zac (Zx (Zy (wE [] 3 [false,false,false,true,true,true,false,true,true,true,false,false] [.fork [0,1,2,3,4,5,6,7] 8 (.fin [9]) 9 (.fin [8]),.fin [10,11]] Tf.follows (fun _ _ _ h=>dI (P:=Tryz.prog) (fn:=Tryz.f22) _ _ _ h) Yg (O1 (dS [(false,0),(false,1),(false,2),(true,3),(true,4),(true,5),(false,6),(true,7)] rfl (Za rfl (aJ rfl U25 Tf.s3 rfl hmv rfl Yd hm0 rfl trivial (fun b1 o1 cs1 hr1 hcl1 hA1=>?_))))))));obtain rfl:cs1=[.int .i64 _]:=hr1;refine Zg 0 rfl Tf.a3 rfl hA1 rfl (Za rfl (aJ rfl U25 Tf.s3 rfl hmv rfl Yd hm0 rfl trivial (fun b2 o2 cs2 hr2 hcl2 hA2=>?_)));obtain rfl:cs2=[.int .i64 _]:=hr2;refine Zg 0 rfl Tf.a3 rfl hA2 rfl (Zp [.int .i64 m0,.int .i64 m0] rfl Tf.p69 Tf.z69 rfl rfl (Zp [.func (.func 56) #[] #[]] rfl Tf.p128 Tf.z128 rfl rfl (Zo (gJ true true rfl rfl ?_ ?_))))
   ·refine Zu rfl Tf.z69 rfl (fun q3=>Zo (cE [(true,9)] rfl (Zu rfl Tf.z128 rfl (fun q4=>Zo (xK [(false,10),(false,11)] rfl (Zs rfl Tf.s69 (.tail (cY.head)) (Zs rfl Tf.s128 (cY.head) (Zo (yK (Zx (Zy ?_)))))))))));refine Zy (C.rg (Za rfl (aY rfl U25 rfl hmv rfl rfl trivial (Za rfl (Zo (Zx (Zae (cZ (γ:=Nat) (fun k=>ms.length-k) (fun k=>k≤ms.length) (fun k=>[(37,.int .i64 (k:Int))]) [(36,_),(35,_),(8,_),(7,_),(3,_),(2,_)] (fun k=>(q4,.cells [.func (.func 56) #[] #[]].toArray 128 (0,0))::(q3,.cells [.int .i64 (List.foldl (fun r n=>(min r.1 n,max r.2 n)) (m0,m0) (ms.take k)).1,.int .i64 (List.foldl (fun r n=>(min r.1 n,max r.2 n)) (m0,m0) (ms.take k)).2].toArray 69 (0,0))::(wb,.cells [cv,.int .i64 y.fit,qv,.map (some mb)].toArray 207 (0,0))::(mb,.map es1 cl1)::[(q2,.cells [.int .i64 0,.int .i64 0].toArray 69 (0,0))]) (fun k=>[D8,D6,E1,D]) 0 Yd ⟨Yb,trivial⟩ C.rs (List.Sublist.refl _) (aG) ?_))))))));rintro k h1;refine Zy (C.rg (Zaa rfl (Zo (Zx (Zy (aH rfl (fun hc3=>?_) (fun hc3=>?_)))))))
    ·have hk:k<ms.length:=by omega
     obtain⟨n,hn0⟩:∃n,ms[k]?= some n:=⟨_,List.getElem?_eq_getElem hk⟩
     have hst:=V8 (m0:=m0) hn0;refine Zac (Zx (Zy (Zae (Zy (C.rg (aJ rfl U25 Tf.s3 rfl hmv rfl Yd hn0 rfl trivial (fun b3 o3 cs3 hr3 hcl3 hA3=>?_)))))));obtain rfl:cs3=[.int .i64 _]:=hr3;refine Zg 0 rfl Tf.a3 rfl hA3 rfl (Zj rfl (Zo (Zx (C.rg (Zk rfl Tf.f128_0 rfl (Zn rfl Tf.a125 rfl (List.Mem.head _) rfl (aX rfl Tf.a69 rfl (List.Mem.tail _ (List.Mem.head _)) Tf.s69 List.not_mem_nil rfl trivial (Za rfl (Zd rfl (fun D2 hD2=>lW (List.foldl (fun r n=>(min r.1 n,max r.2 n)) (m0,m0) (ms.take k)) n _) (Zs rfl Tf.s69 (.tail (cY.head)) (Zo ?_)))))))))));refine Zag (Zx (C.rg (Zt rfl (Za rfl (Zo ?_)))));rw[←hst];exact aN 12 (k+1) Yd Yd ⟨Yb,trivial⟩ rfl rfl (List.Sublist.refl _) (aG)
    ·obtain rfl:k=ms.length:=by omega
     rw[List.take_length];refine aZ (Zaf (Zaf (aE (Zx (Zy (C.rg (aX rfl Tf.a69 rfl (List.Mem.tail _ (List.Mem.head _)) Tf.s69 List.not_mem_nil rfl trivial (Zs rfl Tf.s69 (.tail (.tail (.tail (.tail (cY.head))))) (Zj rfl (Zo (Zx ?_)))))))))));refine aC ?_;exact Zc [_,_] rfl ⟨⟨_,_,_,rfl,(List.Mem.tail _ (List.Mem.tail _ (List.Mem.tail _ (List.Mem.tail _ (List.Mem.head _))))),Or.inr ⟨Tf.a69,(by first|exact Tf.s69|(simp only[List.size_toArray,aQ, *];exact Tf.s69)),rfl⟩⟩,rfl,trivial⟩ (fun D hD=>vP hf0 hL hm0)
   ·refine Zu rfl Tf.z128 rfl (fun q3=>Zo (cE [(true,8)] rfl (Zu rfl Tf.z69 rfl (fun q4=>Zo (xK [(false,10),(false,11)] rfl (Zs rfl Tf.s69 (cY.head) (Zs rfl Tf.s128 (.tail (cY.head)) (Zo (yK (Zx (Zy ?_)))))))))));refine Zy (C.rg (Za rfl (aY rfl U25 rfl hmv rfl rfl trivial (Za rfl (Zo (Zx (Zae (cZ (γ:=Nat) (fun k=>ms.length-k) (fun k=>k≤ms.length) (fun k=>[(37,.int .i64 (k:Int))]) [(36,_),(35,_),(7,_),(8,_),(3,_),(2,_)] (fun k=>(q4,.cells [.int .i64 (List.foldl (fun r n=>(min r.1 n,max r.2 n)) (m0,m0) (ms.take k)).1,.int .i64 (List.foldl (fun r n=>(min r.1 n,max r.2 n)) (m0,m0) (ms.take k)).2].toArray 69 (0,0))::(q3,.cells [.func (.func 56) #[] #[]].toArray 128 (0,0))::(wb,.cells [cv,.int .i64 y.fit,qv,.map (some mb)].toArray 207 (0,0))::(mb,.map es1 cl1)::[(q2,.cells [.int .i64 0,.int .i64 0].toArray 69 (0,0))]) (fun k=>[D8,D6,E1,D]) 0 Yd ⟨Yb,trivial⟩ C.rs (List.Sublist.refl _) (aG) ?_))))))));rintro k h1;refine Zy (C.rg (Zaa rfl (Zo (Zx (Zy (aH rfl (fun hc3=>?_) (fun hc3=>?_)))))))
    ·have hk:k<ms.length:=by omega
     obtain⟨n,hn0⟩:∃n,ms[k]?= some n:=⟨_,List.getElem?_eq_getElem hk⟩
     have hst:=V8 (m0:=m0) hn0;refine Zac (Zx (Zy (Zae (Zy (C.rg (aJ rfl U25 Tf.s3 rfl hmv rfl Yd hn0 rfl trivial (fun b3 o3 cs3 hr3 hcl3 hA3=>?_)))))));obtain rfl:cs3=[.int .i64 _]:=hr3;refine Zg 0 rfl Tf.a3 rfl hA3 rfl (Zj rfl (Zo (Zx (C.rg (Zk rfl Tf.f128_0 rfl (Zn rfl Tf.a125 rfl (List.Mem.tail _ (List.Mem.head _)) rfl (aX rfl Tf.a69 rfl (List.Mem.head _) Tf.s69 List.not_mem_nil rfl trivial (Za rfl (Zd rfl (fun D2 hD2=>lW (List.foldl (fun r n=>(min r.1 n,max r.2 n)) (m0,m0) (ms.take k)) n _) (Zs rfl Tf.s69 (cY.head) (Zo ?_)))))))))));refine Zag (Zx (C.rg (Zt rfl (Za rfl (Zo ?_)))));rw[←hst];exact aN 12 (k+1) Yd Yd ⟨Yb,trivial⟩ rfl rfl (List.Sublist.refl _) (aG)
    ·obtain rfl:k=ms.length:=by omega
     rw[List.take_length];refine aZ (Zaf (Zaf (aE (Zx (Zy (C.rg (aX rfl Tf.a69 rfl (List.Mem.head _) Tf.s69 List.not_mem_nil rfl trivial (Zs rfl Tf.s69 (.tail (.tail (.tail (.tail (cY.head))))) (Zj rfl (Zo (Zx ?_)))))))))));refine aC ?_;exact Zc [_,_] rfl ⟨⟨_,_,_,rfl,(List.Mem.tail _ (List.Mem.tail _ (List.Mem.tail _ (List.Mem.tail _ (List.Mem.head _))))),Or.inr ⟨Tf.a69,(by first|exact Tf.s69|(simp only[List.size_toArray,aQ, *];exact Tf.s69)),rfl⟩⟩,rfl,trivial⟩ (fun D hD=>vP hf0 hL hm0)
end L7
end Go.Fs
