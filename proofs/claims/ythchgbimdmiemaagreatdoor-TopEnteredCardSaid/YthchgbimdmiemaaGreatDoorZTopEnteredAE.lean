/- Of the proof of TopEntered: AW5, AW6, AW7, AW8, MapK, Eqs, UW1, MapV, Range, UW2, SW1. -/
import Derived.Test.YthchgbimdmiemaaGreatDoorZTopEnteredAD
import Derived.Test.YthchgbimdmiemaaGreatDoorZTopEnteredAC
import Derived.Maps.RangeRun
namespace Go.Fs
open Go.Proofs
namespace L1
open C1
theorem u9{ts:List (List Int)}{q:List Int→Bool}{t0 t:List Int}{j:Nat}(hj:ts[j]?= some t)(h:(ts.take j).all (fun t=>q t==q t0)=true)(hc:(!(q t==q t0))=false):(ts.take (j+1)).all (fun t=>q t==q t0)=true:=by
 rw[List.take_add_one,hj,List.all_append,h];simpa using hc
theorem xM{r:cS}{f:Bool}(h:bE r f=0):truths r≠[]:=by
 unfold bE at h;split at h;omega;split at h;omega;split at h;omega;assumption
theorem sK{r:cS}{f:Bool}(h:bE r f=0):f=true:=by
 unfold bE at h;split at h;omega;split at h;omega;rename_i hf;simpa using hf
theorem HO{r:cS}{i j:Int}(hok:lH r)(h:bE r (iT r i j)=0):0≤i∧i≤j∧j<9:=by
 have:=sK h;simp only[iT,Bool.and_eq_true,bT]at this;have:=hok.len9;omega
theorem oP{r:cS}(hok:lH r):∀t∈truths r,t.length≤9∧∀x∈t,0≤x∧x≤1:=fun t ht=>⟨by have:=(qF ht).1;have:=hok.len9;omega,(qF ht).2⟩
theorem yA{ts:List (List Int)}{k:Nat}{t:List Int}{f:List Int→Int}{a:Int}(h:ts[k]?= some t):((ts.take (k+1)).map f).foldl min a=min (((ts.take k).map f).foldl min a) (f t):=by
 rw[List.take_add_one,h,Option.toList_some,List.map_append,List.foldl_append];rfl
theorem xJ{ts:List (List Int)}{k:Nat}{t:List Int}{f:List Int→Int}{a:Int}(h:ts[k]?= some t):((ts.take (k+1)).map f).foldl max a=max (((ts.take k).map f).foldl max a) (f t):=by
 rw[List.take_add_one,h,Option.toList_some,List.map_append,List.foldl_append];rfl
open C1
theorem CY(sv:Value)(ts:List (List Int))(i j:Int)(D:aA)(hS:Sl D RT 9 sv ts)(hne:ts≠[])(hall:∀t∈ts,t.length≤9∧∀x∈t,0≤x∧x≤1)(hi0:0≤i)(hij:i≤j)(hj9:j<9):
  Fn Tryz.prog 67 #[sv,.int .i64 i,.int .i64 j] D (fun _ v=>v=.agg #[.int .i64 (tW ts i.toNat j.toNat),.int .i64 (uM ts i.toNat j.toNat)]):=by
 have hl:=hS.len;obtain⟨t0,ht0⟩:∃t,ts[0]?= some t:=⟨ts[0]'(List.length_pos_iff.2 hne),List.getElem?_eq_getElem _⟩
 have ht0m:=List.mem_of_getElem? ht0;have hb0:=O5 (hall t0 ht0m).2 i.toNat j.toNat Yd;have hp90:=eE (hall t0 ht0m).1;refine enter 36 Tryz.func67 rfl rfl rfl rfl fun h0=>Zy (C.rg (Zu rfl Tf.z56 rfl (fun q1=>Zo (Zx (Zy (C.rg (Za rfl (aJ rfl U87 Tf.s163 rfl hS rfl Yd ht0 rfl trivial (fun b1 o1 cs1 hr1 hcl1 hA1=>?_)))))))))
 obtain rfl:cs1=ints (eQ _):=hr1;refine cU rfl Tf.a163 rfl hA1 Yc Ys List.not_mem_nil rfl trivial (Zd rfl (fun D1 hD1=>yG t0 _ (hall _ ht0m).1 (hall _ ht0m).2) (Za rfl (Za rfl (Zd rfl (fun D2 hD2=>PM t0 i j _ hi0 hij hj9 (hall _ ht0m).2) (Zj rfl (Zo (Zx (Zy (C.rg (Za rfl (Za rfl ?_)))))))))));refine Zp [.int .i64 (fR t0 i.toNat j.toNat),.int .i64 (fR t0 i.toNat j.toNat)] rfl Tf.p56 Tf.z56 rfl rfl (Zu rfl Tf.z56 rfl (fun q2=>Zs rfl Tf.s56 (cY.head) (Zo (Zx (Zy (Zy (C.rg (Za rfl (aY rfl U87 rfl Yl rfl rfl trivial (Za rfl (Zo ?_)))))))))));refine Zx (Zae (cZ (γ:=Nat) (fun k=>ts.length-k) (fun k=>k≤ts.length) (fun k=>[(23,.int .i64 (k:Int))]) [(22,_),(21,_),(8,_),(6,_),(1,_),(2,_)] (fun k=>[(q2,.cells [.int .i64 (((ts.take k).map fun t=>fR t i.toNat j.toNat).foldl min (fR t0 i.toNat j.toNat)),.int .i64 (((ts.take k).map fun t=>fR t i.toNat j.toNat).foldl max (fR t0 i.toNat j.toNat))].toArray 56 (0,0)),(q1,.cells [.int .i64 0,.int .i64 0].toArray 56 (0,0))]) (fun k=>[D]) 0 Yd ⟨Yb,trivial⟩ C.rs (List.Sublist.refl _) (aG) ?_));rintro k h1;refine Zy (C.rg (Zaa rfl (Zo (Zx (Zy (aH rfl (fun hc1=>?_) (fun hc1=>?_)))))))
 ·have hkk:k<ts.length:=by omega
  obtain⟨t,ht⟩:∃t,ts[k]?= some t:=⟨_,List.getElem?_eq_getElem hkk⟩
  have htm:=List.mem_of_getElem? ht;obtain⟨htl,htb⟩:=hall t htm;have hp9:=eE htl;refine Zac (Zx (Zy (Zae (Zy (C.rg (aJ rfl U87 Tf.s163 rfl hS rfl Yd ht rfl trivial (fun b2 o2 cs2 hr2 hcl2 hA2=>?_)))))));obtain rfl:cs2=ints (eQ _):=hr2;refine cU rfl Tf.a163 rfl hA2 Yc Ys List.not_mem_nil rfl trivial (Zu rfl Tf.z163 rfl (fun q3=>bL rfl rfl rfl rfl Tf.s163 Yw Ya (cY.head) Yi trivial (Zo (Zx (mW [] 3 [0,1,3,4,2,5,6,7] [false,true,true,true,true,true,false,false] [(false,0),(true,1),(true,3),(true,4),(true,2),(true,5),(false,6),(false,7)] Tf.follows (fun _ _ _ h=>dI (P:=Tryz.prog) (fn:=Tryz.f67) _ _ _ h) Yg rfl (aX rfl Tf.a56 rfl (List.Mem.tail _ (List.Mem.head _)) Tf.s56 List.not_mem_nil rfl trivial (aX rfl Tf.a163 rfl (List.Mem.head _) Ys List.not_mem_nil rfl trivial (Za rfl (Za rfl (Zd rfl (fun D3 hD3=>yG t _ (hall _ htm).1 (hall _ htm).2) (Zd rfl (fun D4 hD4=>PM t i j _ hi0 hij hj9 (hall _ htm).2) ?_)))))))))));refine Zd rfl (fun D5 hD5=>lW _ _ _ _) (Zs rfl Tf.s56 (.tail (cY.head)) (Zo (Zag (Zx (C.rg (Zt rfl (Za rfl (Zo ?_))))))));rw[←yA ht,←xJ ht];exact aN 14 (k+1) Yd Yd ⟨Yb,trivial⟩ rfl rfl (List.Sublist.cons _ (List.Sublist.refl _)) (aG)
 ·obtain rfl:k=ts.length:=by omega
  rw[List.take_length,xT _ _ (by rw[List.getElem?_map,ht0];rfl),xA _ _ (by rw[List.getElem?_map,ht0];rfl)];refine aZ (Zaf (Zaf (aE (Zx (Zy (C.rg (aX rfl Tf.a56 rfl (List.Mem.head _) Tf.s56 List.not_mem_nil rfl trivial (Zs rfl Tf.s56 (.tail (cY.head)) (Zo (Zx (aC ?_)))))))))));exact Zc [_] rfl ⟨⟨_,_,_,rfl,(List.Mem.tail _ (List.Mem.head _)),Or.inr ⟨Tf.a56,(by first|exact Tf.s56|(simp only[List.size_toArray,aQ, *];exact Tf.s56)),rfl⟩⟩,trivial⟩ (fun D hD=>rfl)
theorem tP(rv:Value)(r:cS)(i j:Int)(D:aA)(hr:jQ D rv r):Fn Tryz.prog 33 #[rv,.int .i64 i,.int .i64 j] D (fun _ v=>v=.tuple #[.agg (if bE r (iT r i j)=0 then #[.int .i64 (tW (truths r) i.toNat j.toNat),.int .i64 (uM (truths r) i.toNat j.toNat)]else #[.int .i64 0,.int .i64 0]),.int .i64 (bE r (iT r i j))]):=by
 have hr0:=hr;obtain⟨pv,cv,rfl,hp,hc⟩:=hr;refine enter 30 Tryz.func33 rfl rfl rfl rfl fun h0=>Zy (C.rg (Zr rfl (fun q1 E1 hE1 hB1=>Zu rfl Tf.z56 rfl (fun q2=>Zj rfl (Zo (Zx (Zy (C.drawA [] 4 11 798 (fun _ _ _ h=>dI (P:=Tryz.prog) (fn:=Tryz.f33) _ _ _ h) (Zq rfl Tf.a28 rfl hB1 Tf.s28 (Zq rfl Tf.a28 rfl hB1 Tf.s28 ?_))))))))));refine Za rfl (Za rfl (Zd rfl (fun D1 hD1=>MX _ r i j _ (hr0.up (hD1 _ Ye))) (cW rfl rfl rfl (fun D2 hD2=>lS _ r _ _ (hr0.up (hD2 _ Ye))) rfl trivial (fun v2 D2 hD2 hp2=>?_))))
 obtain⟨wv,rfl,hwk⟩:=hp2;refine Za rfl (Zz rfl (Zz rfl (Zj rfl (Zj rfl (Zo (Zx (Zy (Zy (C.rg (Za rfl (dQ rfl rfl rfl rfl trivial ?_)))))))))));refine Zo (Zx (aH rfl (fun hc1=>?_) (fun hc1=>?_)))
 ·refine Zy (C.rg (Zp [.int .i64 0,.int .i64 0] rfl Tf.p56 Tf.z56 rfl rfl (Za rfl (Zs rfl Tf.s56 (cY.head) (Zj rfl (Zo (Zx (aC (Zad ?_)))))))));exact Zc [_,_] rfl ⟨⟨_,_,_,rfl,(List.Mem.head _),Or.inr ⟨Tf.a56,(by first|exact Tf.s56|(simp only[List.size_toArray,aQ, *];exact Tf.s56)),rfl⟩⟩,rfl,trivial⟩ (fun D hD=>by show Value.tuple _=_;rw[if_neg hc1])
 ·have he0:bE r (iT r i j)=0:=by omega
  obtain⟨hok,wb,pv2,cv2,tv,rfl,hA,hp2,hc2',ht⟩:=hwk he0;have htn:=xM he0;have hall:=oP hok;have hpt:=HO hok he0;refine Zac (Zx (Zy (C.rg (Za rfl (Zab rfl (Zk rfl Tf.f89_1 rfl (Zg 4 rfl Tf.a87 rfl hA rfl (Za rfl (Za rfl (Zd rfl (fun D3 hD3=>CY _ _ i j _ (ht.up RT.up (hD3 _ Ye)) htn hall hpt.1 hpt.2.1 hpt.2.2) (Zs rfl Tf.s56 (cY.head) ?_)))))))))));refine Zj rfl (Zo (Zx (aC ?_)));exact Zc [_,_] rfl ⟨⟨_,_,_,rfl,(List.Mem.head _),Or.inr ⟨Tf.a56,(by first|exact Tf.s56|(simp only[List.size_toArray,aQ, *];exact Tf.s56)),rfl⟩⟩,rfl,trivial⟩ (fun D hD=>by show Value.tuple _=_;rw[if_pos he0,he0])
theorem wR(wv:Value)(t:List Int)(i:Nat)(D:aA)(h9:t.length≤9)(hi:i<9):Fn Tryz.prog 38 #[wv,.agg (ints (eQ t)).toArray,.int .i64 (i:Int)] D (fun _ v=>v=.bool (pQ i t)):=by
 have hg:=yQ hi h9;refine enter 11 Tryz.func38 rfl rfl rfl rfl fun h0=>Zy (C.rg (Zr rfl (fun q1 E1 hE1 hB1=>Zj rfl (Zo (Zx (Zy (C.rg (Za rfl (bR rfl U163 Tf.s3 rfl rfl Yd Yd rfl trivial (fC rfl Tf.a3 rfl hB1 Ye (cJ hg) List.not_mem_nil rfl trivial ?_))))))))));refine dO rfl rfl rfl rfl trivial (Zj rfl (Zo (Zx (aC ?_))))
 exact Zc [_] rfl ⟨rfl,trivial⟩ (fun D hD=>rfl)
theorem X8(fv wv:Value)(f:FuncId)(r:cS)(p:Nat→List Int→Bool)(many:Nat)(D:aA)(hfv:fv=.func (.func f) #[] #[])(hw:GM D wv r)(hok:lH r)(hne:truths r≠[])(hm:many≤9)
  (hf:∀t∈truths r,∀i,i<many→∀D',Le D D'→Fn Tryz.prog f #[wv,.agg (ints (eQ t)).toArray,.int .i64 (i:Int)] D' (fun _ v=>v=.bool (p i t))):
  Fn Tryz.prog 39 #[.agg #[fv],wv,.int .i64 (many:Int)] D (fun D' v=>Sl D' RI 1 v ((List.range many).map fun i=>vd (truths r) (p i))):=by
 obtain⟨wb,pv,cv,tv,rfl,hA,hp,hc,ht⟩:=hw;subst hfv;have hl:=ht.len;have hall:=oP hok;obtain⟨t0,ht0⟩:∃t,(truths r)[0]?= some t:=⟨(truths r)[0]'(List.length_pos_iff.2 hne),List.getElem?_eq_getElem _⟩
 have ht0m:=List.mem_of_getElem? ht0;have hp90:=eE (hall t0 ht0m).1;refine enter 52 Tryz.func39 rfl rfl rfl rfl fun h0=>Zy (C.rg (Zr rfl (fun q1 E1 hE1 hB1=>Zj rfl (Zo (Zx (Zy (Zy (C.rg (Za rfl (Za rfl ?_))))))))));refine Zo (Zx (Zae (cZ (γ:=Nat×Value×aB) (fun g=>many-g.1) (fun g=>g.1≤many∧bC 3 1 g.2.1 g.1 (ints ((List.range g.1).map fun i=>vd (truths r) (p i))) g.2.2) (fun g=>[(13,.int .i64 (g.1:Int)),(6,g.2.1)]) [(12,_),(3,_),(1,_)] (fun g=>g.2.2++[]) (fun g=>[E1,D]) (0,.slice none 0 0,[]) ⟨by simp,by simpa [ints]using bC.nil⟩ ⟨Yb,Yb,trivial⟩ C.rs (List.Sublist.refl _) (aG) ?_)))
 rintro⟨k,v,ν⟩ ⟨h1,ha⟩;refine Zy (C.rg (Zaa rfl (Zo (Zx (Zy (aH rfl (fun hc1=>?_) (fun hc1=>?_)))))))
 ·refine Zac (Zx (Zy (Zae (Zy (C.rg (Za rfl (Zj rfl (Zo (Zx (OK (Zy ?_)))))))))));refine C.drawA [] 6 12 1020 (fun _ _ _ h=>dI (P:=Tryz.prog) (fn:=Tryz.f39) _ _ _ h) (Zk rfl Tf.f95_0 rfl (Zg 0 rfl Tf.a92 rfl hB1 rfl (Za rfl (Za rfl (Zab rfl (Zk rfl Tf.f89_1 rfl (Zg 4 rfl Tf.a87 rfl hA rfl (aJ rfl U87 Tf.s163 rfl ht rfl Yd ht0 rfl trivial (fun b1 o1 cs1 hr1 hcl1 hA1=>?_)))))))));obtain rfl:cs1=ints (eQ _):=hr1;refine cU rfl Tf.a163 rfl hA1 Yc Ys List.not_mem_nil rfl trivial (Za rfl (Zd rfl (fun D1 hD1=>hf t0 ht0m k Yd _ (hD1 _ Ye)) (Zj rfl (Zo (Zx (Zy (C.rg (Zj rfl (Zo (Zx (Zy ?_)))))))))));refine Zy (C.rg (Za rfl (Zo (Zx (aP rfl (fun hc2=>?_) (fun hc2=>?_))))))
  ·refine C.rg (Zj rfl (Zo (Zx (Zy (AO (Zx (Zy (Zy (C.rg (Za rfl (Zab rfl ?_)))))))))));refine Zk rfl Tf.f89_1 rfl (Zg 4 rfl Tf.a87 rfl hA rfl (aY rfl U87 rfl Yl rfl rfl trivial (Za rfl (Zo (Zx (Zae (bS (γ:=Nat) (fun j=>(truths r).length-j) (fun j=>j≤(truths r).length∧((truths r).take j).all (fun t=>p k t==p k t0)=true) (fun j=>[(33,.int .i64 (j:Int))]) [(32,_),(31,_),(30,_),(29,_),(28,_),(9,_),(27,_),(8,_),(26,_),(25,_),(24,_),(23,_),(22,_),(21,_),(20,_),(19,_),(18,_),(17,_),(16,_),(7,_),(15,_),(14,_),(13,_),(6,_),(12,_),(3,_),(1,_)] (fun j=>[E1,D]) 0 Ye ⟨Yb,trivial⟩ C.rs (aG) ?_)))))));rintro j ⟨h3,h4⟩;refine Zy (C.rg (Zaa rfl (Zo (Zx (Zy (aH rfl (fun hc3=>?_) (fun hc3=>?_)))))))
   ·have hj:j<(truths r).length:=by omega
    obtain⟨t,ht1⟩:∃t,(truths r)[j]?= some t:=⟨_,List.getElem?_eq_getElem hj⟩
    have htm:=List.mem_of_getElem? ht1;obtain⟨htl,htb⟩:=hall t htm;have hp9:=eE htl;refine Zac (Zx (Zy (Zae (Zy (C.rg (aJ rfl U87 Tf.s163 rfl ht rfl Yd ht1 rfl trivial (fun b2 o2 cs2 hr2 hcl2 hA2=>?_)))))));obtain rfl:cs2=ints (eQ _):=hr2;refine cU rfl Tf.a163 rfl hA2 Yc Ys List.not_mem_nil rfl trivial (Zu rfl Tf.z163 rfl (fun q2=>bL rfl rfl rfl rfl Tf.s163 Yw Ya (cY.head) Yi trivial (Zo (Zx (Zy (C.rg (Zk rfl Tf.f95_0 rfl (Zg 0 rfl Tf.a92 rfl hB1 rfl (Za rfl (aX rfl Tf.a163 rfl (List.Mem.head _) Ys List.not_mem_nil rfl trivial (Za rfl ?_)))))))))));refine Zd rfl (fun D2 hD2=>hf t htm k Yd _ (hD2 _ Ye)) (Za rfl (JZ rfl U4 rfl rfl rfl trivial (Zo (Zx (aP rfl (fun hc4=>?_) (fun hc4=>?_))))))
    ·have hv:vd (truths r) (p k)=3:=PE ht0 ht1 hc4;refine Zy (C.rg (Zj rfl (Zo (Zx (aZ (vO rfl (Zaf (Zaf (aE (Zx (C.rg ?_)))))))))));refine Za rfl (Za rfl (Zm rfl U25 Tf.s3 Tf.z3 rfl rfl rfl rfl (.cons rfl rfl .nil) (fun b901 D901 hD901 hA901=>?_)));have hS901:=Sl.ofInts (l:=[_]) (n:=1) (cap:=1) hA901 rfl Yd Yd;refine aS (A:=[(_,_)]) (B:=_) rfl U25 rfl rfl Tf.s3 Tf.z3 rfl Tf.i3 rfl rfl rfl ha (iG.lit hA901) Ye rfl Ye Ym Yd (Or.inl rfl) rfl trivial (fun v1 ν1 ha1=>?_);have ha2:bC 3 1 v1 (k+1) (ints ((List.range (k+1)).map fun i=>vd (truths r) (p i))) ν1:=by rw[List.range_succ,List.map_append,List.map_singleton,hv,←eG];exact ha1
     refine Zj rfl (Zo (oF (Zag (Zx (C.rg (Zt rfl (Za rfl (Zo ?_))))))));exact aN 45 (k+1,v1,ν1) ⟨by simp only;omega,ha2⟩ Yo ⟨Yb,Yb,trivial⟩ rfl rfl (List.Sublist.cons _ (List.Sublist.refl _)) (fun D h=>⟨D,List.Mem.tail _ (h),Le.refl D⟩)
    ·have hcc:=hc4;refine Zac (Zag (Zx (C.rg (Zt rfl (Za rfl (Zo ?_))))));exact aN 15 (j+1) ⟨by omega,u9 ht1 h4 hcc⟩ Yd ⟨Yb,trivial⟩ rfl rfl (List.Sublist.cons _ (List.Sublist.refl _)) (aG)
   ·have hv:vd (truths r) (p k)=1:=by rw[GD ht0 Yd h4,if_pos (by simp[hc2])]
    refine aZ (Zaf (Zaf (aE (Zx (C.rg (Za rfl (Za rfl (Zm rfl U25 Tf.s3 Tf.z3 rfl rfl rfl rfl (.cons rfl rfl .nil) (fun b902 D902 hD902 hA902=>?_)))))))));have hS902:=Sl.ofInts (l:=[_]) (n:=1) (cap:=1) hA902 rfl Yd Yd;refine aS (A:=[]) (B:=_) rfl U25 rfl rfl Tf.s3 Tf.z3 rfl Tf.i3 rfl rfl rfl ha (iG.lit hA902) Ye rfl Ye Ym Yd (Or.inl rfl) rfl trivial (fun v2 ν2 ha2=>?_);have ha2:bC 3 1 v2 (k+1) (ints ((List.range (k+1)).map fun i=>vd (truths r) (p i))) ν2:=by rw[List.range_succ,List.map_append,List.map_singleton,hv,←eG];exact ha2
    refine Zj rfl (Zo (oF (Zag (Zx (C.rg (Zt rfl (Za rfl (Zo ?_))))))));exact aN 33 (k+1,v2,ν2) ⟨by simp only;omega,ha2⟩ Yo ⟨Yb,Yb,trivial⟩ rfl rfl (List.Sublist.refl _) (fun D h=>⟨D,List.Mem.tail _ (h),Le.refl D⟩)
  ·refine Zac (Zx (Zy (AO (Zx (Zy (Zy (C.rg (Za rfl (Zab rfl (Zk rfl Tf.f89_1 rfl (Zg 4 rfl Tf.a87 rfl hA rfl ?_)))))))))));refine aY rfl U87 rfl Yl rfl rfl trivial (Za rfl (Zo (Zx (Zae (bS (γ:=Nat) (fun j=>(truths r).length-j) (fun j=>j≤(truths r).length∧((truths r).take j).all (fun t=>p k t==p k t0)=true) (fun j=>[(33,.int .i64 (j:Int))]) [(32,_),(31,_),(30,_),(29,_),(28,_),(27,_),(9,_),(8,_),(26,_),(25,_),(24,_),(23,_),(22,_),(21,_),(20,_),(19,_),(18,_),(17,_),(16,_),(7,_),(15,_),(14,_),(13,_),(6,_),(12,_),(3,_),(1,_)] (fun j=>[E1,D]) 0 Ye ⟨Yb,trivial⟩ C.rs (aG) ?_)))));rintro j ⟨h3,h4⟩;refine Zy (C.rg (Zaa rfl (Zo (Zx (Zy (aH rfl (fun hc5=>?_) (fun hc5=>?_)))))))
   ·have hj:j<(truths r).length:=by omega
    obtain⟨t,ht1⟩:∃t,(truths r)[j]?= some t:=⟨_,List.getElem?_eq_getElem hj⟩
    have htm:=List.mem_of_getElem? ht1;obtain⟨htl,htb⟩:=hall t htm;have hp9:=eE htl;refine Zac (Zx (Zy (Zae (Zy (C.rg (aJ rfl U87 Tf.s163 rfl ht rfl Yd ht1 rfl trivial (fun b3 o3 cs3 hr3 hcl3 hA3=>?_)))))));obtain rfl:cs3=ints (eQ _):=hr3;refine cU rfl Tf.a163 rfl hA3 Yc Ys List.not_mem_nil rfl trivial (Zu rfl Tf.z163 rfl (fun q3=>bL rfl rfl rfl rfl Tf.s163 Yw Ya (cY.head) Yi trivial (Zo (Zx (Zy (C.rg (Zk rfl Tf.f95_0 rfl (Zg 0 rfl Tf.a92 rfl hB1 rfl (Za rfl (aX rfl Tf.a163 rfl (List.Mem.head _) Ys List.not_mem_nil rfl trivial (Za rfl ?_)))))))))));refine Zd rfl (fun D3 hD3=>hf t htm k Yd _ (hD3 _ Ye)) (Za rfl (JZ rfl U4 rfl rfl rfl trivial (Zo (Zx (aP rfl (fun hc6=>?_) (fun hc6=>?_))))))
    ·have hv:vd (truths r) (p k)=3:=PE ht0 ht1 hc6;refine Zy (C.rg (Zj rfl (Zo (Zx (aZ (vO rfl (Zaf (Zaf (aE (Zx (C.rg ?_)))))))))));refine Za rfl (Za rfl (Zm rfl U25 Tf.s3 Tf.z3 rfl rfl rfl rfl (.cons rfl rfl .nil) (fun b903 D903 hD903 hA903=>?_)));have hS903:=Sl.ofInts (l:=[_]) (n:=1) (cap:=1) hA903 rfl Yd Yd;refine aS (A:=[(_,_)]) (B:=_) rfl U25 rfl rfl Tf.s3 Tf.z3 rfl Tf.i3 rfl rfl rfl ha (iG.lit hA903) Ye rfl Ye Ym Yd (Or.inl rfl) rfl trivial (fun v3 ν3 ha3=>?_);have ha2:bC 3 1 v3 (k+1) (ints ((List.range (k+1)).map fun i=>vd (truths r) (p i))) ν3:=by rw[List.range_succ,List.map_append,List.map_singleton,hv,←eG];exact ha3
     refine Zj rfl (Zo (oF (Zag (Zx (C.rg (Zt rfl (Za rfl (Zo ?_))))))));exact aN 45 (k+1,v3,ν3) ⟨by simp only;omega,ha2⟩ Yo ⟨Yb,Yb,trivial⟩ rfl rfl (List.Sublist.cons _ (List.Sublist.refl _)) (fun D h=>⟨D,List.Mem.tail _ (h),Le.refl D⟩)
    ·have hcc:=hc6;refine Zac (Zag (Zx (C.rg (Zt rfl (Za rfl (Zo ?_))))));exact aN 15 (j+1) ⟨by omega,u9 ht1 h4 hcc⟩ Yd ⟨Yb,trivial⟩ rfl rfl (List.Sublist.cons _ (List.Sublist.refl _)) (aG)
   ·have hv:vd (truths r) (p k)=2:=by rw[GD ht0 Yd h4,if_neg (by simp[hc2])]
    refine aZ (Zaf (Zaf (aE (Zx (C.rg (Za rfl (Za rfl (Zm rfl U25 Tf.s3 Tf.z3 rfl rfl rfl rfl (.cons rfl rfl .nil) (fun b904 D904 hD904 hA904=>?_)))))))));have hS904:=Sl.ofInts (l:=[_]) (n:=1) (cap:=1) hA904 rfl Yd Yd;refine aS (A:=[]) (B:=_) rfl U25 rfl rfl Tf.s3 Tf.z3 rfl Tf.i3 rfl rfl rfl ha (iG.lit hA904) Ye rfl Ye Ym Yd (Or.inl rfl) rfl trivial (fun v4 ν4 ha4=>?_);have ha2:bC 3 1 v4 (k+1) (ints ((List.range (k+1)).map fun i=>vd (truths r) (p i))) ν4:=by rw[List.range_succ,List.map_append,List.map_singleton,hv,←eG];exact ha4
    refine Zj rfl (Zo (oF (Zag (Zx (C.rg (Zt rfl (Za rfl (Zo ?_))))))));exact aN 33 (k+1,v4,ν4) ⟨by simp only;omega,ha2⟩ Yo ⟨Yb,Yb,trivial⟩ rfl rfl (List.Sublist.refl _) (fun D h=>⟨D,List.Mem.tail _ (h),Le.refl D⟩)
 ·obtain rfl:k=many:=by omega
  refine aZ (Zaf (Zaf (aE (Zx (Zy (C.rg (Za rfl (Zj rfl (Zo (Zx (aC ?_)))))))))));refine eW (A:=[]) (B:=[]) ha rfl (fun D2 hD2 hF=>?_);exact Zc [_] rfl ⟨rfl,trivial⟩ (fun D hD=>(hF.ints Ye Yd).up RI.up (hD _ Ye))
theorem C8(rv:Value)(r:cS)(D:aA)(hr:jQ D rv r):Fn Tryz.prog 11 #[rv] D (fun D' v=>∃lv,v=.tuple #[lv,.int .i64 (bE r true)]∧Sl D' RI 1 lv (if bE r true=0 then(List.range r.places.length).map (fun i=>vd (truths r) (pQ i))else [])):=by
 have hr0:=hr;obtain⟨pv,cv,rfl,hp,hc⟩:=hr;have hl1:=hp.len;have hl2:=hc.len;refine enter 20 Tryz.func11 rfl rfl rfl rfl fun h0=>Zy (C.rg (Zr rfl (fun q1 E1 hE1 hB1=>Zj rfl (Zj rfl (Zo (Zx (Zy (C.rg (Zq rfl Tf.a28 rfl hB1 Tf.s28 (cW rfl rfl rfl (fun D1 hD1=>lS _ r _ _ (hr0.up (hD1 _ Ye))) rfl trivial (fun v1 D1 hD1 hp1=>?_)))))))))))
 obtain⟨wv,rfl,hwk⟩:=hp1;refine Za rfl (Zz rfl (Zz rfl (Zj rfl (Zj rfl (Zo (Zx (Zy (Zy (C.rg (Za rfl (dQ rfl rfl rfl rfl trivial ?_)))))))))));refine Zo (Zx (aH rfl (fun hc1=>?_) (fun hc1=>?_)))
 ·refine Zy (C.rg (Za rfl (Zj rfl (Zj rfl (Zo (Zx (aC (Zad ?_))))))));exact Zc [_,_] rfl C.rs (fun D hD=>⟨_,rfl,by rw[if_neg hc1];exact Sl.nil⟩)
 ·have he0:bE r true=0:=by omega
  obtain⟨hok,wb,pv2,cv2,tv,rfl,hA,hp2,hc2',ht⟩:=hwk he0;have htn:=xM he0;have hall:=oP hok;refine Zac (Zx (Zy (C.rg (Zp [.func (.func 38) #[] #[]] rfl Tf.p95 Tf.z95 rfl rfl (Za rfl (Zk rfl Tf.f28_0 rfl (Zg 0 rfl Tf.a25 rfl hB1 rfl (aY rfl U25 rfl hp rfl rfl trivial (cW rfl rfl rfl (fun D2 hD2=>X8 _ _ 38 r (pQ) r.places.length _ rfl ⟨wb,pv2,cv2,tv,rfl,hA.up (hD2 _ Ye),hp2.up RI.up (hD2 _ Ye),hc2'.up RC.up (hD2 _ Ye),ht.up RT.up (hD2 _ Ye)⟩ hok htn (by have:=hok.len9;have:=hok.cnt6;omega) (fun t htm i hi D2 hl=>wR _ t i D2 (hall t htm).1 (by have:=hok.len9;omega))) rfl trivial (fun v2 D2 hD2 hp2=>Zj rfl (Zj rfl ?_)))))))))));refine Zo (Zx (aC ?_));exact Zc [_,_] rfl C.rs (fun D hD=>⟨_,by rw[he0];rfl,by rw[if_pos he0];exact hp2.up RI.up (hD _ Ye)⟩)
end L1
end Go.Fs
namespace Go.Fs
open Go.Proofs
namespace L1
open C1
theorem FL(sv:Value)(ts:List (List Int))(p:Nat)(D:aA)(hS:Sl D RT 9 sv ts)(hlen:ts.length≤10000)(hall:∀t∈ts,t.length≤9∧∀x∈t,0≤x∧x≤1)(hp9l:p<9):
  Fn Tryz.prog 37 #[sv,.int .i64 (p:Int)] D (fun D' v=>∃v0 v1,v=.agg #[v0,v1]∧Sl D' RT 9 v0 (bU ts p 0)∧Sl D' RT 9 v1 (bU ts p 1)):=by
 have hl:=hS.len;refine enter 27 Tryz.func37 rfl rfl rfl rfl fun h0=>Zy (C.rg (Zu rfl Tf.z90 rfl (fun q1=>Zo (Zx (Zy (Zy (C.rg (Za rfl (aY rfl U87 rfl Yl rfl rfl trivial (Za rfl ?_))))))))));refine Zo (Zx (Zae (cZ (γ:=Nat×Value×aB×Value×aB) (fun g=>ts.length-g.1) (fun g=>g.1≤ts.length∧bC 163 9 g.2.1 (bU (ts.take g.1) p 0).length ((bU (ts.take g.1) p 0).flatMap fun t=>ints (eQ t)) g.2.2.1∧bC 163 9 g.2.2.2.1 (bU (ts.take g.1) p 1).length ((bU (ts.take g.1) p 1).flatMap fun t=>ints (eQ t)) g.2.2.2.2) (fun g=>[(9,.int .i64 (g.1:Int))]) [(8,_),(7,_),(4,_),(1,_)] (fun g=>(q1,.cells [g.2.1,g.2.2.2.1].toArray 90 (0,0))::(g.2.2.1++(g.2.2.2.2++[]))) (fun g=>[D]) (0,.slice none 0 0,[],.slice none 0 0,[]) ⟨by simp,by simpa [bU]using bC.nil,by simpa [bU]using bC.nil⟩ ⟨Yb,trivial⟩ C.rs (List.Sublist.refl _) (aG) ?_)))
 rintro⟨k,v0,ν0,v1,ν1⟩ ⟨h1,ha0,ha1⟩;simp only at h1 ha0 ha1;refine Zy (C.rg (Zaa rfl (Zo (Zx (Zy (aH rfl (fun hc1=>?_) (fun hc1=>?_)))))))
 ·have hkk:k<ts.length:=by omega
  obtain⟨t,ht⟩:∃t,ts[k]?= some t:=⟨_,List.getElem?_eq_getElem hkk⟩
  have htm:=List.mem_of_getElem? ht;obtain⟨htl,htb⟩:=hall t htm;have hp9:=eE htl;refine Zac (Zx (Zy (Zae (Zy (C.rg (aJ rfl U87 Tf.s163 rfl hS rfl Yd ht rfl trivial (fun b1 o1 cs1 hr1 hcl1 hA1=>?_)))))));obtain rfl:cs1=ints (eQ _):=hr1;refine cU rfl Tf.a163 rfl hA1 Yc Ys List.not_mem_nil rfl trivial (Zu rfl Tf.z163 rfl (fun q2=>bL rfl rfl rfl rfl Tf.s163 Yw Ya (cY.head) Yi trivial (Zo (Zx ?_))));rcases IQ htb p with hbit|hbit
  ·have hg:=yQ (i:=p) hp9l htl;rw[hbit]at hg;refine oM (fun hnd=>?_);simp only[List.map_cons,List.map_append,List.nodup_cons,List.nodup_append,List.mem_cons,List.mem_append,not_or]at hnd;have hq2:=hnd.1.2.1;have hq1:=hnd.2.1.1;refine C.drawA (ν0.map (·.1)) 2 13 2040 (fun _ _ _ h=>dI (P:=Tryz.prog) (fn:=Tryz.f37) _ _ _ h) (Za rfl (bR rfl U163 Tf.s3 rfl rfl Yd Yd rfl trivial (aU rfl Tf.a3 rfl (List.Mem.head _) (cJ hg) Yk rfl trivial (Za rfl (bR rfl U163 Tf.s3 rfl rfl Yd Yd rfl trivial (aU rfl Tf.a3 rfl (List.Mem.head _) (cJ hg) Yk rfl trivial (bR rfl U90 Tf.s87 rfl rfl Yd Yd rfl trivial (aU rfl Tf.a87 rfl (List.Mem.tail _ (List.Mem.head _)) rfl Yk rfl trivial (aX rfl Tf.a163 rfl (List.Mem.head _) Ys Yk rfl trivial (Zm rfl U87 Tf.s163 Tf.z163 rfl rfl rfl rfl (.cons rfl (by simpa using hp9) .nil) (fun b901 D901 hD901 hA901=>aS (A:=[(_,_),(_,_)]) (B:=(ν1++[])) rfl U87 rfl rfl Tf.s163 Tf.z163 rfl Tf.i163 rfl rfl rfl ha0 (iG.lit hA901) Ye (by simp[hp9]) (pF (fun u hu=>(hall u (List.mem_of_mem_take (nC hu))).1)) (by simpa using fF _) (by have:=iA (ts.take k) p 0;have:=List.length_take_le k ts;omega) (Or.inr (fun p hp=>List.mem_map.2 ⟨p,hp,rfl⟩)) rfl trivial (fun v5 ν5 ha5=>?_))))))))))));refine aI ((q2,_)::(q1,_)::(ν5++(ν1++[]))) rfl ?_;have hn1:bC 163 9 v5 (bU (ts.take (k+1)) p 0).length ((bU (ts.take (k+1)) p 0).flatMap fun t=>ints (eQ t)) ν5:=by rw[H6 ht hbit,List.flatMap_append,List.flatMap_singleton];simpa using ha5
   have hn2:bC 163 9 v1 (bU (ts.take (k+1)) p 1).length ((bU (ts.take (k+1)) p 1).flatMap fun t=>ints (eQ t)) ν1:=by rw[Q7 ht Yd];exact ha1
   refine bR rfl U90 Tf.s87 rfl rfl Yd Yd rfl trivial (aT rfl rfl rfl ha5.cells1 Tf.s87 (.tail (cY.head)) Ye rfl ha5.cell1 trivial (Zo (Zag (Zx (C.rg (Zt rfl (Za rfl (Zo ?_))))))));exact aN 19 (k+1,v5,ν5,v1,ν1) ⟨by simp only;omega,hn1,hn2⟩ Yo ⟨Yb,trivial⟩ rfl rfl (List.Sublist.cons _ (List.Sublist.refl _)) (fun D h=>⟨D,List.Mem.tail _ (h),Le.refl D⟩)
  ·have hg:=yQ (i:=p) hp9l htl;rw[hbit]at hg;refine oM (fun hnd=>?_);simp only[List.map_cons,List.map_append,List.nodup_cons,List.nodup_append,List.mem_cons,List.mem_append,not_or]at hnd;have hq2:=hnd.1.2.2.1;have hq1:=hnd.2.1.2.1;refine C.drawA (ν1.map (·.1)) 2 13 2040 (fun _ _ _ h=>dI (P:=Tryz.prog) (fn:=Tryz.f37) _ _ _ h) (Za rfl (bR rfl U163 Tf.s3 rfl rfl Yd Yd rfl trivial (aU rfl Tf.a3 rfl (List.Mem.head _) (cJ hg) Yk rfl trivial (Za rfl (bR rfl U163 Tf.s3 rfl rfl Yd Yd rfl trivial (aU rfl Tf.a3 rfl (List.Mem.head _) (cJ hg) Yk rfl trivial (bR rfl U90 Tf.s87 rfl rfl Yd Yd rfl trivial (aU rfl Tf.a87 rfl (List.Mem.tail _ (List.Mem.head _)) rfl Yk rfl trivial (aX rfl Tf.a163 rfl (List.Mem.head _) Ys Yk rfl trivial (Zm rfl U87 Tf.s163 Tf.z163 rfl rfl rfl rfl (.cons rfl (by simpa using hp9) .nil) (fun b902 D902 hD902 hA902=>aI (((q2,_)::(q1,_)::ν0)++ν1++[]) sN ?_)))))))))));refine aS (A:=((_,_)::(_,_)::ν0)) (B:=[]) rfl U87 rfl rfl Tf.s163 Tf.z163 rfl Tf.i163 rfl rfl rfl ha1 (iG.lit hA902) Ye (by simp[hp9]) (pF (fun u hu=>(hall u (List.mem_of_mem_take (nC hu))).1)) (by simpa using fF _) (by have:=iA (ts.take k) p 1;have:=List.length_take_le k ts;omega) (Or.inr (fun p hp=>List.mem_map.2 ⟨p,hp,rfl⟩)) rfl trivial (fun v5 ν5 ha5=>aI ((q2,_)::(q1,_)::(ν0++(ν5++[]))) sN.symm ?_)
   have hn1:bC 163 9 v5 (bU (ts.take (k+1)) p 1).length ((bU (ts.take (k+1)) p 1).flatMap fun t=>ints (eQ t)) ν5:=by rw[H6 ht hbit,List.flatMap_append,List.flatMap_singleton];simpa using ha5
   have hn2:bC 163 9 v0 (bU (ts.take (k+1)) p 0).length ((bU (ts.take (k+1)) p 0).flatMap fun t=>ints (eQ t)) ν0:=by rw[Q7 ht Yd];exact ha0
   refine bR rfl U90 Tf.s87 rfl rfl Yd Yd rfl trivial (aT rfl rfl rfl ha5.cells1 Tf.s87 (.tail (cY.head)) Ye rfl ha5.cell1 trivial (Zo (Zag (Zx (C.rg (Zt rfl (Za rfl (Zo ?_))))))));exact aN 19 (k+1,v0,ν0,v5,ν5) ⟨by simp only;omega,hn2,hn1⟩ Yo ⟨Yb,trivial⟩ rfl rfl (List.Sublist.cons _ (List.Sublist.refl _)) (fun D h=>⟨D,List.Mem.tail _ (h),Le.refl D⟩)
 ·obtain rfl:k=ts.length:=by omega
  rw[List.take_length]at ha0 ha1;refine aZ (Zaf (Zaf (aE (Zx (Zy (C.rg (aX rfl Tf.a90 rfl (List.Mem.head _) (by first|exact Tf.s90|(simp only[aQ, *];exact Tf.s90)) List.not_mem_nil rfl trivial (bL rfl rfl rfl rfl Tf.s90 Ya Ya (cY.head) (G4 ha0.cell1 ha1.cell1) trivial (Zo (Zx (aC ?_)))))))))))
  have hs0:=iA ts p 0;have hs1:=iA ts p 1;refine eW (A:=[(q1,_)]) (B:=ν1++[]) ha0 rfl (fun D2 hD2 hF0=>eW (A:=[(q1,_)]) (ν:=ν1) (B:=[]) ha1 rfl (fun D3 hD3 hF1=>?_));exact Zc [_] rfl ⟨⟨_,_,_,rfl,(List.Mem.head _),Or.inr ⟨Tf.a90,Tf.s90,rfl⟩⟩,trivial⟩ (fun D hD=>⟨_,_,rfl,(hF0.truths rfl Yd (fun u hu=>(hall u (nC hu)).1)).up RT.up (hD _ Ye),(hF1.truths rfl Yd (fun u hu=>(hall u (nC hu)).1)).up RT.up (hD _ Ye)⟩)
end L1
end Go.Fs
namespace Go.Fs
open Go.Proofs
namespace L1
end L1
end Go.Fs
namespace Go.Fs
open Go.Proofs
namespace L1
open C1
theorem G9{ts:List (List Int)}{big:Int}{k:Nat}(h:max ((bU ts k 0).length:Int) (bU ts k 1).length<(gF ts big k).2):gF ts big (k+1)=((k:Int),max ((bU ts k 0).length:Int) (bU ts k 1).length):=by simp only[gF];rw[if_pos h]
theorem V3{ts:List (List Int)}{big:Int}{k:Nat}(h:¬max ((bU ts k 0).length:Int) (bU ts k 1).length<(gF ts big k).2):gF ts big (k+1)=gF ts big k:=by simp only[gF];rw[if_neg h]
open C1
theorem NW(rv:Value)(r:cS)(D:aA)(hr:jQ D rv r):Fn Tryz.prog 10 #[rv] D (fun _ v=>v=.tuple #[.int .i64 (if bE r true=0 then(gF (truths r) ((truths r).length+1) r.places.length).1 else 0),.int .i64 (if bE r true=0 then(gF (truths r) ((truths r).length+1) r.places.length).2 else 0),.int .i64 (bE r true)]):=by
 have hr0:=hr;obtain⟨pv,cv,rfl,hp,hc⟩:=hr;have hl1:=hp.len;refine enter 50 Tryz.func10 rfl rfl rfl rfl fun h0=>Zy (C.rg (Zr rfl (fun q1 E1 hE1 hB1=>Zj rfl (Zj rfl (Zj rfl (Zo (Zx (Zy (C.rg (Zq rfl Tf.a28 rfl hB1 Tf.s28 ?_))))))))));refine cW rfl rfl rfl (fun D1 hD1=>lS _ r _ _ (hr0.up (hD1 _ Ye))) rfl trivial (fun v1 D1 hD1 hp1=>?_)
 obtain⟨wv,rfl,hwk⟩:=hp1;refine Za rfl (Zz rfl (Zz rfl (Zj rfl (Zj rfl (Zo (Zx (Zy (Zy (C.rg (Za rfl (dQ rfl rfl rfl rfl trivial ?_)))))))))));refine Zo (Zx (aH rfl (fun hc1=>?_) (fun hc1=>?_)))
 ·refine Zy (C.rg (Za rfl (Zj rfl (Zj rfl (Zj rfl (Zo (Zx (aC (Zad ?_)))))))));exact Zc [_,_,_] rfl C.rs (fun D hD=>by show Value.tuple _=_;rw[if_neg hc1,if_neg hc1])
 ·have he0:bE r true=0:=by omega
  obtain⟨hok,hw⟩:=hwk he0;obtain⟨wb,pv2,cv2,tv,rfl,hA,hp2,hc2',ht⟩:=id hw;have htn:=xM he0;have hall:=oP hok;have hll:=qX hok;have hl:=ht.len;refine Zac (Zx (Zy (C.rg (Za rfl (Zab rfl (Zk rfl Tf.f89_1 rfl (Zg 4 rfl Tf.a87 rfl hA rfl (aY rfl U87 rfl ht rfl rfl trivial (Zt rfl (Zj rfl (Zo ?_)))))))))));refine Zx (Zy (Zy (C.rg (Zk rfl Tf.f28_0 rfl (Zg 0 rfl Tf.a25 rfl hB1 rfl (aY rfl U25 rfl hp rfl rfl trivial (Za rfl (Zo (Zx (Zae (bS (γ:=Nat) (fun k=>r.places.length-k) (fun k=>k≤r.places.length) (fun k=>[(26,.int .i64 (k:Int)),(2,.int .i64 (gF (truths r) ((truths r).length+1) k).1),(3,.int .i64 (gF (truths r) ((truths r).length+1) k).2)]) [(25,_),(4,_),(5,_)] (fun k=>[D1,E1,D]) 0 Yd ⟨Yb,Yb,Yb,trivial⟩ C.rs (aG) ?_)))))))))));rintro k h1;refine Zy (C.rg (Zaa rfl (Zo (Zx (Zy (aH rfl (fun hc2=>?_) (fun hc2=>?_)))))))
  ·have hk:k<r.places.length:=by omega
   refine Zac (Zx (Zy (Zae (Zy (C.rg (Za rfl (Zj rfl (Zo (Zx (Zy (C.rg ?_)))))))))));refine Za rfl (Zab rfl (Zk rfl Tf.f89_1 rfl (Zg 4 rfl Tf.a87 rfl hA rfl (Za rfl (cW rfl rfl rfl (fun D2 hD2=>FL tv (truths r) k _ (ht.up RT.up (hD2 _ Ye)) Yd hall (by have:=hok.len9;omega)) rfl trivial (fun v2 D2 hD2 hp2=>?_))))))
   obtain⟨v0,v1,rfl,hs0,hs1⟩:=hp2;refine Zu rfl Tf.z90 rfl (fun q2=>bL rfl rfl rfl rfl Tf.s90 Ya Ya (cY.head) (G4 hs0.cell1 hs1.cell1) trivial (Zo (Zx (Zy (C.rg (bR rfl U90 Tf.s87 rfl rfl Yd Yd rfl trivial (Zn rfl Tf.a87 rfl (List.Mem.head _) rfl (aY rfl U87 rfl hs0 rfl rfl trivial (bR rfl U90 Tf.s87 rfl rfl Yd Yd rfl trivial (Zn rfl Tf.a87 rfl (List.Mem.head _) rfl (aY rfl U87 rfl hs1 rfl rfl trivial ?_)))))))))));refine mT rfl rfl rfl rfl trivial (Zj rfl (Zo (Zx (Zy (C.rg (Za rfl (Za rfl (Zaa rfl (Zo (Zx (aH rfl (fun hc3=>?_) (fun hc3=>?_))))))))))))
   ·refine C.rg (Za rfl (Za rfl (Zj rfl (Zj rfl (Zo (Zag (Zx (C.rg (Zt rfl (Za rfl (Zo ?_)))))))))));exact aN 30 (k+1) Yd Yd ⟨Yb,(by rw[G9 hc3]<;>rfl),(by rw[G9 hc3]<;>rfl),trivial⟩ rfl rfl (List.Sublist.cons _ (List.Sublist.refl _)) (fun D h=>⟨D,List.Mem.tail _ (h),Le.refl D⟩)
   ·refine Zac (Zag (Zx (C.rg (Zt rfl (Za rfl (Zo ?_))))));exact aN 26 (k+1) Yd Yd ⟨Yb,(by rw[V3 hc3]<;>rfl),(by rw[V3 hc3]<;>rfl),trivial⟩ rfl rfl (List.Sublist.cons _ (List.Sublist.refl _)) (fun D h=>⟨D,List.Mem.tail _ (h),Le.refl D⟩)
  ·obtain rfl:k=r.places.length:=by omega
   refine aZ (Zaf (Zaf (aE (Zx (Zy (C.rg (Za rfl (Za rfl (Zj rfl (Zj rfl (Zj rfl ?_)))))))))));refine Zo (Zx (aC ?_));exact Zc [_,_,_] rfl C.rs (fun D hD=>by show Value.tuple _=_;rw[if_pos he0,if_pos he0,he0])
end L1
end Go.Fs
namespace Go.Fs
variable{P:Program}{X:Cx}{γb:Type}[Membership Nat γb]{bad:γb}{all:Array Oper}{K:Act→World→Prop}{Q:Exit→Act→World→Prop}
variable{σ:bF}{μ:aB}{Ds:List aA}{os:List (Bool×Nat)}{fl:Bool}{ix:Nat}
variable{d:Nat}{x y z:Operand}{u v:Value}{ty:TypeId}{pos:String}{aft:Array Edge}{g:Option (Nat×Bool)}
structure T3(P:Program)(k:TypeId){α:Type}[DecidableEq α](val:α→Value):Prop where
 und:∃fs,P.underlying k=some (.struct fs)
 eq:∀a b w,(Op.equal k (val a) (val b)).run P w=.ok (decide (a=b)) w
 chk:∀em a w,(Instr.checkKey em 10000 k (val a)).run P w=.ok () w
 stay:∀a,Instr.sameBits 10000 (val a) (val a)=true
 agg:∀a,∃cs,val a=.agg cs
variable{α:Type}[DecidableEq α]{val:α→Value}
def mY(val:α→Value)(es:Array MapEntry)(M:List (α×Int)):Prop:=es.toList.map (fun e=>(e.key,e.val))=M.map fun x=>(val x.1,Value.int .i64 x.2)
def uJ(a:α):List (α×Int)→Nat→Option (Nat×Int)
 | [],_=>none
 |(b,n)::M,i=>if a=b then some (i,n)else uJ a M (i+1)
theorem uD{a:α}:∀{M:List (α×Int)} {i j:Nat} {n:Int},uJ a M i=some (j,n)→∃k,j=i+k∧M[k]?= some (a,n)
 |(b,m)::M,i,j,n,h=>by
  simp only[uJ]at h;split at h
  ·rename_i he;cases h;exact⟨0,rfl,by rw[he];rfl⟩
  ·obtain⟨k,rfl,hk⟩:=uD h;exact⟨k+1,by omega,by simpa using hk⟩
theorem nJ{k:TypeId}(h:T3 P k val)(a:α)(w:World):∀(es:List MapEntry) (M:List (α×Int)) (i:Nat),es.map (fun e=>(e.key,e.val))=M.map (fun x=>(val x.1,Value.int .i64 x.2))→
  (Instr.findAsking k (val a) es i).run P w=.ok ((uJ a M i).map fun p=>(p.1,Value.int .i64 p.2)) w
 | [],[],i,_=>rfl
 | [],_::_,i,hm=>by simp at hm
 |e::es,[],i,hm=>by simp at hm
 |e::es,(b,n)::M,i,hm=>by
  simp only[List.map_cons,List.cons.injEq,Prod.mk.injEq]at hm;obtain⟨⟨hk,hv⟩,hm⟩:=hm;simp only[Instr.findAsking,Sem.run_bind,hk,h.eq,Result.andThen_ok,uJ];by_cases he:a=b
  ·subst he;simp only[decide_true,if_true,Sem.run_pure,hv];rfl
  ·simp only[he,decide_false,Bool.false_eq_true,if_false];exact nJ h a w es M (i+1) hm
theorem qQ{k:TypeId}(h:T3 P k val)(a:α)(w:World){es:List MapEntry}{M:List (α×Int)}(hm:es.map (fun e=>(e.key,e.val))=M.map (fun x=>(val x.1,Value.int .i64 x.2))):
  (Instr.findKey k (val a) es).run P w=.ok ((uJ a M 0).map fun p=>(p.1,Value.int .i64 p.2)) w:=by
 obtain⟨fs,hu⟩:=h.und;unfold Instr.findKey;rw[Sem.run_bind,TU.of hu w];cases es with
 |nil=>
  cases M with
  |nil=>rfl
  |cons x M=>simp at hm
 |cons e es=>
  have hn:Instr.findNow (.struct fs) (val a) (e::es) 0=none:=by
   obtain⟨cs,hc⟩:=h.agg a;rw[hc];rfl
  simp only[Result.andThen_ok,hn];exact nJ h a w (e::es) M 0 hm
theorem BB{t k e:TypeId}{b clock:Nat}{es:Array MapEntry}{M:List (α×Int)}{a:α}(ho:all[ix]?= some ⟨some d,.lookup t x y true,ty,pos,aft,g⟩)(ht:P.underlying t=some (.map k e))(hk:T3 P k val)(hz:TZ P e (.int .i64 0))
  (hx:ev σ x=some (.map (some b))) (hy:ev σ y=some (val a)) (hm:(b,Obj.map es clock)∈μ) (hb:b∉bad) (hM:mY val es M) (hN:Nat.blt d X.N=true) (hg:cR all σ g)
  (kk:∀n ok,(ok=true→(a,n)∈M)→WL P X bad all K Q os ((d,.tuple #[.int .i64 n,.bool ok])::σ) μ Ds):WL P X bad all K Q ((fl,ix)::os) σ μ Ds:=by
 have run:∀w,w.heap[b]?= some (Obj.map es clock)→(Instr.lookup t (.map (some b)) (val a) true).run P w=.ok (.tuple #[.int .i64 (match uJ a M 0 with|some (_,v)=>v|none=>0),.bool (uJ a M 0).isSome]) w:=by
  intro w hw;have hf:=qQ hk a w hM;unfold Instr.lookup;simp only[Sem.run_bind,TU.of ht w,Result.andThen_ok,iU hw,Sem.run_pure,hk.chk];rw[hf];cases uJ a M 0 with
  |none=>simp only[Option.map_none,Result.andThen_ok,Sem.run_bind,hz w,Sem.run_pure];rfl
  |some r=>obtain⟨j,v⟩:=r;simp only[Option.map_some,Result.andThen_ok];rfl
 refine kE ho rfl rfl hN hg (fun a' w hh w' hk'=>?_) (kk (match uJ a M 0 with|some (_,v)=>v|none=>0) (uJ a M 0).isSome fun hok=>?_)
 ·simp only[execOp,hh.eval hx,hh.eval hy,Sem.run_bind,run w' (hh.boxAt hm hb hk'),Result.andThen_ok,Sem.run_pure]
 ·cases hp:uJ a M 0 with
  |none=>rw[hp]at hok;cases hok
  |some r=>
   obtain⟨j,n⟩:=r;obtain⟨i,_,hi⟩:=uD hp;exact List.mem_of_getElem? hi
theorem EN{t k e:TypeId}{b clock:Nat}{es:Array MapEntry}{M:List (α×Int)}{a:α}{n:Int}{A B:aB}(ho:all[ix]?= some ⟨none,.mapUpdate t x y z,ty,pos,aft,g⟩)(ht:P.underlying t=some (.map k e))(hk:T3 P k val)
  (hx:ev σ x=some (.map (some b))) (hy:ev σ y=some (val a)) (hz:ev σ z=some (.int .i64 n)) (hM:mY val es M) (hg:cR all σ g)
  (kk:∀es' clock' M',mY val es' M'→(∀p∈M',p∈M∨p=(a,n))→WL P X bad all K Q os σ (A++(b,.map es' clock')::B) Ds):WL P X bad all K Q ((false,ix)::os) σ (A++(b,.map es clock)::B) Ds:=by
 refine dW ho rfl rfl hg fun a' w hh=>?_
 obtain⟨h1,h2,h3,D,h4,h5,h6⟩:=id hh;have hw:=(h4.box (b,.map es clock) Ye).1;have run:∃es' clock' M',mY val es' M'∧(∀p∈M',p∈M∨p=(a,n))∧(Instr.mapUpdate t (.map (some b)) (val a) (.int .i64 n)).run P w=.ok () {w with heap:=w.heap.setIfInBounds b (.map es' clock')}:=by
  have hf:=qQ hk a w hM;have hset:∀o,(setObj b o).run P w=.ok () {w with heap:=w.heap.setIfInBounds b o}:=fun o=>by simp[setObj,Sem.run,hw]
  cases hp:uJ a M 0 with
  |none=>
   refine⟨es.push {key:=val a,val:=.int .i64 n,born:=clock},clock+1,M++[(a,n)],?_,fun p hp=>by simpa using hp,?_⟩
   ·unfold mY at hM ⊢
    rw[Array.toList_push,List.map_append,List.map_append,hM];rfl
   ·unfold Instr.mapUpdate;simp only[Sem.run_bind,TU.of ht w,Result.andThen_ok,iU hw,hk.chk];rw[hf,hp];simp only[Option.map_none,Result.andThen_ok,hset]
  |some r=>
   obtain⟨j,m⟩:=r;obtain⟨i,hi0,hi⟩:=uD hp;rw[Nat.zero_add]at hi0;subst hi0
   have hMi:∀i,(es.toList[i]?).map (fun e:MapEntry=>(e.key,e.val))=(M[i]?).map (fun x:α×Int=>(val x.1,Value.int .i64 x.2)):=fun i=>by rw[←List.getElem?_map,←List.getElem?_map,hM]
   have hj:=hMi j;rw[hi]at hj;obtain⟨e0,he0,hke⟩:=Option.map_eq_some_iff.1 hj;simp only[Prod.mk.injEq]at hke;have he0':es[j]?= some e0:=by simpa using he0
   refine⟨es.modify j fun e=>{e with key:=val a,val:=.int .i64 n},clock,M.set j (a,n),?_,fun p hp=>(List.mem_or_eq_of_mem_set hp),?_⟩
   ·unfold mY;apply List.ext_getElem?;intro q;rw[List.getElem?_map,List.getElem?_map,Array.getElem?_toList,Array.getElem?_modify,List.getElem?_set];have hq:=hMi q;rw[Array.getElem?_toList]at hq;by_cases hjq:j=q
    ·subst hjq;have hlt:=(List.getElem?_eq_some_iff.1 hi).1;simp[he0',hlt]
    ·simp only[hjq,if_false];exact hq
   ·have hks:(Instr.keyThatStays (val a) (val a)).run P w=.ok (val a) w:=by
     have:Instr.sameBits 10000 (val a) (val a)=true:=hk.stay a;unfold Instr.keyThatStays;rw[if_pos this,Sem.run_pure]
    unfold Instr.mapUpdate;simp only[Sem.run_bind,TU.of ht w,Result.andThen_ok,iU hw,hk.chk];rw[hf,hp];simp only[Option.map_some,Result.andThen_ok,he0',Option.getD_some,hke.1,Sem.run_bind,hks,hset]
 obtain⟨es',clock',M',hM',hmem,hr⟩:=run;have hHas:cY (A++(b,Obj.map es clock)::B) b (.map es clock) (.map es' clock') (A++(b,.map es' clock')::B):=.app .head;have hs:=h4.set (w':={w with heap:=w.heap.setIfInBounds b (.map es' clock')}) hHas ⟨rfl,rfl⟩ trivial;have:(execOp a'.eval ⟨none,.mapUpdate t x y z,ty,pos,aft,g⟩).run P w=.ok .skip {w with heap:=w.heap.setIfInBounds b (.map es' clock')}:=by
  simp only[execOp,hh.eval hx,hh.eval hy,hh.eval hz,Sem.run_bind,hr,Result.andThen_ok,Sem.run_pure]
 rw[this];exact⟨fun h=>by simp at h,kk es' clock' M' hM' hmem _ _ ⟨h1,h2,h3,D,hs,h5,h6.step (fun _ p hp=>Or.inl Yr) (fun _=>gL ⟨rfl,rfl⟩ (List.mem_map.2 ⟨_,hHas.mem,rfl⟩)) hs.dom⟩⟩

structure rT(n:Nat) where
 l:List Int
 h:l.length=n
deriving DecidableEq
def O9{n:Nat}(a:rT n):Value:=.agg (ints a.l).toArray
def KA(P:Program)(k:TypeId)(n:Nat):Prop:=∃f0 f1 e,P.underlying k=some (.struct (P.fieldsOf k))∧P.stoodInHeld k=false∧P.fieldsOf k=#[f0,f1]∧f0.name≠ "_" ∧f1.name≠ "_" ∧f0.offset=0∧f1.offset=1∧
 P.underlying f0.type=some (.int .i64)∧P.underlying f1.type=some (.array n e)∧P.underlying e=some (.int .i64)∧P.cellsOf e=1∧TA P f1.type true∧TS P f1.type n∧TS P e 1
theorem GU{t:TypeId}{n:Nat}(ha:TA P t true)(hs:TS P t n){l:List Int}(hl:l.length=n+1)(w:World):(part t (ints l).toArray 1).run P w=.ok (.agg (ints (l.drop 1)).toArray) w:=by
 unfold part;simp only[Sem.run_bind,ha w,Result.andThen_ok,if_true,hs w,Sem.run_pure];congr 2;apply Array.ext';simp only[Array.toList_extract,List.extract_eq_take_drop,ints,List.map_drop];rw[List.take_of_length_le Yaa]
theorem KA.key{k:TypeId}{n:Nat}(h:KA P k n):T3 P k (O9 (n:=n+1)):=by
 obtain⟨f0,f1,e,hu,hst,hf,n0,n1,o0,o1,t0,t1,te,hc,ha,hs,hse⟩:=h;have hsplit:∀a:rT (n+1),∃x r,a.l=x::r∧r.length=n:=by
  rintro⟨l,hl⟩;cases l with
  |nil=>simp at hl
  |cons x r=>exact⟨x,r,rfl,by simpa using hl⟩
 have p0:∀(x:Int) (r:List Int) (w:World),(part f0.type (ints (x::r)).toArray f0.offset).run P w=.ok (.int .i64 x) w:=fun x r w=>dZ t0 (by rw[o0];rfl) w
 have p1:∀(x:Int) (r:List Int) (w:World),r.length=n→(part f1.type (ints (x::r)).toArray f1.offset).run P w=.ok (.agg (ints r).toArray) w:=fun x r w hr=>by
  rw[o1];exact GU ha hs (l:=x::r) (by simp[hr]) w
 refine⟨⟨_,hu⟩,fun a b w=>?_,fun em a w=>?_,fun a=>?_,fun a=>⟨_,rfl⟩⟩
 ·obtain⟨x,r,ea,hr⟩:=hsplit a;obtain⟨x',r',eb,hr'⟩:=hsplit b;have he:=run_equalIn_struct (P:=P) w 9999 k (ints (x::r)).toArray (ints (x'::r')).toArray hu hst;have hab:decide (a=b)=((x==x')&&(r==r')):=by
   rw[Bool.eq_iff_iff];simp only[decide_eq_true_eq,Bool.and_eq_true,beq_iff_eq];constructor
   ·rintro rfl;rw[ea]at eb;exact List.cons.inj eb
   ·rintro⟨h1,h2⟩;obtain⟨la,ha'⟩:=a;obtain⟨lb,hb'⟩:=b;simp only at ea eb;subst ea eb h1 h2;rfl
  show(Op.equalIn (9999+1) k (.agg (ints a.l).toArray) (.agg (ints b.l).toArray)).run P w=_;rw[ea,eb,he,hf,hab];have e0:=run_equalIn_int w 9998 f0.type .i64 .i64 x x' t0;obtain⟨inf,hinf⟩:=info_of_underlying te;have e1:=run_equalIn_array (P:=P) w 9998 (ints r).toArray (ints r').toArray t1 hinf;rw[hc,hU 9997 te r r' w (List.range n) (fun j hj=>by have:=List.mem_range.1 hj;omega),oD hr hr']at e1
  have s1:(Op.eqFields 9999 (ints (x::r)).toArray (ints (x'::r')).toArray [f1]).run P w=.ok (r==r') w:=by
   simp only[Op.eqFields,n1,ne_eq,not_false_eq_true,if_true,Sem.run_bind,p1 _ _ _ hr,p1 _ _ _ hr',Result.andThen_ok];rw[e1];simp only[Result.andThen_ok];cases r==r'<;>rfl
  show(Op.eqFields 9999 (ints (x::r)).toArray (ints (x'::r')).toArray (f0::[f1])).run P w=_;rw[Op.eqFields,if_pos n0];simp only[Sem.run_bind,p0,Result.andThen_ok];rw[e0];simp only[Result.andThen_ok];cases hx:x==x' with
  |true=>
   simp only[Bool.not_true,Bool.false_eq_true,if_false,Bool.true_and];rw[s1]
  |false=>simp only[Bool.not_false,if_true,Sem.run_pure,Bool.false_and]
 ·obtain⟨x,r,ea,hr⟩:=hsplit a;have c0:(Instr.checkKey em (9998+1) f0.type (.int .i64 x)).run P w=.ok () w:=by
   rw[Instr.checkKey,Sem.run_bind,TU.of t0 w];rfl
  have ce:∀m:Int,(Instr.checkKey em (9997+1) e (.int .i64 m)).run P w=.ok () w:=fun m=>by
   rw[Instr.checkKey,Sem.run_bind,TU.of te w];rfl
  have c1:(Instr.checkKey em (9998+1) f1.type (.agg (ints r).toArray)).run P w=.ok () w:=by
   rw[Instr.checkKey,Sem.run_bind,TU.of t1 w];simp only[Result.andThen_ok];rw[Std.Legacy.Range.forIn_eq_forIn_range'];have key:∀(is:List Nat),(∀i∈is,i<n)→((forIn is PUnit.unit fun i _=>do Instr.checkKey em 9998 e (←part e (ints r).toArray (i*(←sizeOf e)));Pure.pure (ForInStep.yield PUnit.unit):Sem PUnit)).run P w=.ok PUnit.unit w:=by
    intro is;induction is with
    |nil=>intro _;rfl
    |cons i is ih=>
     intro hi;have hlt:=hi i List.mem_cons_self;have g1:(ints r).toArray[i*1]?= some (.int .i64 r[i]):=by rw[Nat.mul_one];simpa using cJ (List.getElem?_eq_getElem (show i<r.length by omega))
     rw[List.forIn_cons];simp only[Sem.run_bind,hse w,Result.andThen_ok,dZ te g1];rw[ce];simp only[Result.andThen_ok,Sem.run_pure];exact ih fun j hj=>hi j (List.mem_cons_of_mem _ hj)
   have:=key (List.range' 0 n) (fun i hi=>by simpa using hi);simpa using this
  show(Instr.checkKey em (9999+1) k (.agg (ints a.l).toArray)).run P w=_;rw[ea,Instr.checkKey,Sem.run_bind,TU.of hu w];simp only[Result.andThen_ok];rw[hf,←Array.forIn_toList];simp only[List.forIn_cons,List.forIn_nil,n0,n1,ne_eq,not_false_eq_true,if_true,Sem.run_bind,p0,Result.andThen_ok,Sem.run_pure];rw[c0];simp only[Result.andThen_ok,Sem.run_pure,Sem.run_bind,p1 _ _ _ hr];rw[c1];simp[Sem.run_pure,Result.andThen_ok]
 ·show Instr.sameBits (9999+1) (.agg (ints a.l).toArray) (.agg (ints a.l).toArray)=true;simp only[Instr.sameBits,beq_self_eq_true,Bool.true_and,List.all_eq_true];rintro⟨p,q⟩ hpq;obtain⟨i,hi⟩:=List.mem_iff_getElem?.1 hpq;rw[List.getElem?_zip_eq_some]at hi;obtain⟨h1,h2⟩:=hi;simp only at h1 h2;rw[h1]at h2;obtain rfl:=Option.some.inj h2;have:p∈ints a.l:=List.mem_of_getElem? (by simpa using h1);obtain⟨m,_,rfl⟩:=List.mem_map.1 this;simp[Instr.sameBits]
end Go.Fs
namespace Go.Fs
variable{P:Program}{X:Cx}{γb:Type}[Membership Nat γb]{bad:γb}{all:Array Oper}{K:Act→World→Prop}{Q:Exit→Act→World→Prop}
variable{σ:bF}{μ:aB}{Ds:List aA}{os:List (Bool×Nat)}{fl:Bool}{ix:Nat}
variable{d:Nat}{x y z:Operand}{u v:Value}{ty:TypeId}{pos:String}{aft:Array Edge}{g:Option (Nat×Bool)}
structure vF(P:Program)(f:Field)(o n:Nat):Prop where
 name:f.name≠ "_"
 eqp:∀(l m:List Int) w,o+n≤l.length→o+n≤m.length→∃u v,(part f.type (ints l).toArray f.offset).run P w=.ok u w∧(part f.type (ints m).toArray f.offset).run P w=.ok v w∧(Op.equalIn 9999 f.type u v).run P w=.ok ((l.drop o).take n==(m.drop o).take n) w
inductive xF(P:Program):Nat→Nat→List Field→Prop
 |nil {o}:xF P o o []
 |cons {o n e f fs} (h:vF P f o n) (r:xF P (o+n) e fs):xF P o e (f::fs)
theorem xF.le{o e:Nat}{fs:List Field}(h:xF P o e fs):o≤e:=by
 induction h with
 |nil=>exact Nat.le_refl _
 |cons _ _ ih=>omega
theorem zW(l m:List Int)(o n:Nat):(l.drop o==m.drop o)=(((l.drop o).take n==(m.drop o).take n)&&(l.drop (o+n)==m.drop (o+n))):=by
 rw[Bool.eq_iff_iff];simp only[beq_iff_eq,Bool.and_eq_true];constructor
 ·intro h;exact⟨by rw[h],by rw[←List.drop_drop,←List.drop_drop,h]⟩
 ·rintro⟨h1,h2⟩;rw[←List.take_append_drop n (l.drop o),←List.take_append_drop n (m.drop o),h1,List.drop_drop,List.drop_drop,h2]
theorem K9(l m:List Int)(w:World){o e:Nat}{fs:List Field}(h:xF P o e fs)(hl:l.length=e)(hm:m.length=e):(Op.eqFields 9999 (ints l).toArray (ints m).toArray fs).run P w=.ok (l.drop o==m.drop o) w:=by
 induction h with
 |nil=>
  rw[List.drop_eq_nil_of_le Yd,List.drop_eq_nil_of_le Yd];rfl
 | @cons o n e f fs h r ih=>
  have hle:=r.le;obtain⟨u,v,h1,h2,h3⟩:=h.eqp l m w Yd Yd;rw[Op.eqFields,if_pos h.name];simp only[Sem.run_bind,h1,h2,Result.andThen_ok];rw[h3,zW l m o n];simp only[Result.andThen_ok];cases hx:(l.drop o).take n==(m.drop o).take n with
  |true=>
   simp only[Bool.not_true,Bool.false_eq_true,if_false,Bool.true_and];exact ih hl hm
  |false=>simp only[Bool.not_false,if_true,Sem.run_pure,Bool.false_and]
theorem vF.int{f:Field}{o:Nat}(hn:f.name≠ "_")(ho:f.offset=o)(ht:P.underlying f.type=some (.int .i64)):vF P f o 1:=by
 refine⟨hn,fun l m w hl hm=>?_⟩;have h1:l[o]?= some (l[o]'Yd):=List.getElem?_eq_getElem _;have h2:m[o]?= some (m[o]'Yd):=List.getElem?_eq_getElem _;refine⟨.int .i64 l[o],.int .i64 m[o],dZ ht (by rw[ho];simpa using cJ h1) w,dZ ht (by rw[ho];simpa using cJ h2) w,?_⟩
 rw[run_equalIn_int w 9998 f.type .i64 .i64 _ _ ht];congr 1;have t1:(l.drop o).take 1=[l[o]]:=by rw[List.drop_eq_getElem_cons (show o<l.length by omega)];rfl
 have t2:(m.drop o).take 1=[m[o]]:=by rw[List.drop_eq_getElem_cons (show o<m.length by omega)];rfl
 rw[t1,t2];simp
theorem G3{t:TypeId}{n o:Nat}(ha:TA P t true)(hs:TS P t n){l:List Int}(_hl:o+n≤l.length)(w:World):(part t (ints l).toArray o).run P w=.ok (.agg (ints ((l.drop o).take n)).toArray) w:=by
 unfold part;simp only[Sem.run_bind,ha w,Result.andThen_ok,if_true,hs w,Sem.run_pure];congr 2;apply Array.ext';simp only[Array.toList_extract,List.extract_eq_take_drop,ints,List.map_drop,List.map_take];congr 1;omega
theorem vF.arr{f:Field}{o n:Nat}{e:TypeId}(hn:f.name≠ "_")(ho:f.offset=o)(ht:P.underlying f.type=some (.array n e))(he:P.underlying e=some (.int .i64))(hc:P.cellsOf e=1)(ha:TA P f.type true)(hs:TS P f.type n):vF P f o n:=by
 refine⟨hn,fun l m w hl hm=>⟨_,_,by rw[ho];exact G3 ha hs hl w,by rw[ho];exact G3 ha hs hm w,?_⟩⟩;obtain⟨i,hi⟩:=info_of_underlying he;have h:=run_equalIn_array (P:=P) w 9998 (ints ((l.drop o).take n)).toArray (ints ((m.drop o).take n)).toArray ht hi;have e1:((l.drop o).take n).length=n:=by rw[List.length_take,List.length_drop];omega
 have e2:((m.drop o).take n).length=n:=by rw[List.length_take,List.length_drop];omega
 rw[hc,hU 9997 he _ _ w (List.range n) (fun j hj=>by have:=List.mem_range.1 hj;omega),oD e1 e2]at h;exact h
def KS(P:Program)(t:TypeId)(n:Nat):Prop:=P.underlying t=some (.struct (P.fieldsOf t))∧P.stoodInHeld t=false∧P.eqGuardType P.depth t=false∧xF P 0 n (P.fieldsOf t).toList
theorem T0{t:TypeId}{n:Nat}(h:KS P t n){l m:List Int}(hl:l.length=n)(hm:m.length=n)(w:World):(Op.equal t (.agg (ints l).toArray) (.agg (ints m).toArray)).run P w=.ok (l==m) w:=by
 have he:=run_equalIn_struct (P:=P) w 9999 t (ints l).toArray (ints m).toArray h.1 h.2.1;show(Op.equalIn (9999+1) t (.agg (ints l).toArray) (.agg (ints m).toArray)).run P w=_;rw[he,K9 l m w h.2.2.2 hl hm];simp
theorem QX{t t':TypeId}{n:Nat}{l m:List Int}(ho:all[ix]?= some ⟨some d,.binOp .neq t x y t',ty,pos,aft,g⟩)(ht:KS P t n)(hl:l.length=n)(hm:m.length=n)(hx:ev σ x=some (.agg (ints l).toArray))(hy:ev σ y=some (.agg (ints m).toArray))(hN:Nat.blt d X.N=true)(hg:cR all σ g)
  (kk:WL P X bad all K Q os ((d,.bool (!(l==m)))::σ) μ Ds):WL P X bad all K Q ((fl,ix)::os) σ μ Ds:=
 l9 ho (fun w=>by
  have hgd:(eqGuard .neq t x y (.agg (ints l).toArray) (.agg (ints m).toArray)).run P w=.ok () w:=by
   simp only[eqGuard,program];simp[Sem.run,ht.2.2.1,go_sem]
  rw[Sem.run_bind,hgd];show((do Pure.pure (Value.bool (!(←Op.equal t (.agg (ints l).toArray) (.agg (ints m).toArray))))):Sem Value).run P w=_;rw[Sem.run_bind,T0 ht hl hm];rfl) hx hy hN hg kk
end Go.Fs
namespace Go.Fs
open Go.Proofs
namespace L2
open L1
open C2
open C1 (eY bT nB lX)
theorem lC{r:Int×Int}(h:eS r=true):0≤r.1∧r.1≤r.2∧r.2≤99:=by
 unfold eS dB at h;simp only[Bool.and_eq_true,decide_eq_true_eq,bT]at h;omega
theorem cX(n lo hi:Int)(D:aA):Fn Tryz.prog 82 #[.int .i64 n,.int .i64 lo,.int .i64 hi] D (fun _ v=>v=.bool (eY n lo hi)):=by
 refine enter 15 Tryz.func82 rfl rfl rfl rfl fun h0=>Zy (C.rg (Zj rfl (Zo (Zx (Zy (C.rg (Za rfl (Za rfl (gV rfl rfl rfl rfl trivial (Za rfl ?_))))))))))
 refine' dA [(false,4),(false,5),(false,6),(false,7)] [(false,8)] (s:=10) (p:=14) rfl rfl (fun hg1=>?_) (fun hg1=>?_) ?_;rotate_left
 ·refine Zb rfl (Zb rfl (gV rfl rfl rfl rfl ⟨_,rfl,rfl⟩ (Zv rfl ?_)));exact aF fun a w hh=>hh.cutK 3 rfl
 ·refine Zi rfl (Zi rfl (Zi rfl (Zw rfl ?_)));exact aF fun a w hh=>hh.cutK 3 rfl
 refine Zj rfl (Zo (Zx (aC ?_)));exact Zc [_] rfl ⟨rfl,trivial⟩ (fun D hD=>rfl)
theorem qK(n:Int)(D:aA):Fn Tryz.prog 136 #[iV n] D (fun _ v=>v=.bool (dB n)):=by
 refine enter 5 Tryz.func136 rfl rfl rfl rfl fun h0=>Zy (C.rg (Zj rfl (Zo (Zx (Zy (C.rg (Za rfl (Zd rfl (fun D1 hD1=>cX _ _ _ _) (Zj rfl (Zo ?_))))))))));refine Zx (aC ?_)
 exact Zc [_] rfl ⟨rfl,trivial⟩ (fun D hD=>rfl)
theorem iY(sv:Value)(x:Int)(xs:List Int)(D:aA)(hS:Sl D RI 1 sv (x::xs)):
  Fn Tryz.prog 139 #[sv] D (fun _ v=>v=.int .i64 (xs.foldl min x)):=by
 refine enter 5 Tryz.func139 rfl rfl rfl rfl fun h0=>Zy (C.rg (Zj rfl (Zo (Zx (Zy (C.rg (Za rfl (Zd rfl (fun D1 hD1=>L1.xX _ x xs _ (Sl.at RI.up hD1 Yl Ye)) (Zj rfl (Zo ?_))))))))));refine Zx (aC ?_)
 exact Zc [_] rfl ⟨rfl,trivial⟩ (fun D hD=>rfl)
theorem wQ(r:Int×Int)(D:aA):Fn Tryz.prog 135 #[gT r] D (fun _ v=>v=.bool (eS r)):=by
 refine enter 18 Tryz.func135 rfl rfl rfl rfl fun h0=>Zy (C.rg (Zr rfl (fun q1 E1 hE1 hB1=>Zj rfl (Zo (Zx (Zy (C.rg (Zk rfl Tf.f55_0 rfl (Zg 0 rfl Tf.a3 rfl hB1 rfl (Zk rfl Tf.f55_1 rfl ?_))))))))));refine Zg 1 rfl Tf.a3 rfl hB1 rfl (gV rfl rfl rfl rfl trivial (Za rfl ?_))
 refine' dA [(false,6),(false,7),(false,8),(false,9)] [(false,10),(false,11),(false,12),(false,13),(false,14),(false,15)] (s:=8) (p:=12) rfl rfl (fun hg1=>?_) (fun hg1=>?_) ?_;rotate_left
 ·refine Zl rfl Tf.f55_0 rfl (Zh 0 rfl Tf.a3 rfl hB1 rfl (Ze rfl (fun D1 hD1=>qK _ _) (Zv rfl ?_)));exact aF fun a w hh=>hh.cutK 3 rfl
 ·refine Zi rfl (Zi rfl (Zi rfl (Zw rfl ?_)));exact aF fun a w hh=>hh.cutK 3 rfl
 refine Za rfl ?_;refine' dA [(false,11),(false,12),(false,13),(false,14)] [(false,15)] (s:=13) (p:=17) rfl rfl (fun hg2=>?_) (fun hg2=>?_) ?_;rotate_left
 ·refine Zl rfl Tf.f55_1 rfl (Zh 1 rfl Tf.a3 rfl hB1 rfl (Ze rfl (fun D2 hD2=>qK _ _) (Zv rfl ?_)));exact aF fun a w hh=>hh.cutK 3 rfl
 ·refine Zi rfl (Zi rfl (Zi rfl (Zw rfl ?_)));exact aF fun a w hh=>hh.cutK 3 rfl
 refine Zj rfl (Zo (Zx (aC ?_)));exact Zc [_] rfl ⟨rfl,trivial⟩ (fun D hD=>rfl)
theorem AC(r:Int×Int)(h:eS r=true)(D:aA):Fn Tryz.prog 140 #[gT r] D (fun _ v=>v=.int .i64 (dY r)):=by
 have hb:=lC h;refine enter 9 Tryz.func140 rfl rfl rfl rfl fun h0=>Zy (C.rg (Zr rfl (fun q1 E1 hE1 hB1=>Zj rfl (Zo (Zx (Zy (C.rg (Zk rfl Tf.f55_1 rfl (Zg 1 rfl Tf.a3 rfl hB1 rfl (Zk rfl Tf.f55_0 rfl ?_))))))))));refine Zg 0 rfl Tf.a3 rfl hB1 rfl (fW rfl rfl rfl Yf rfl trivial (Zt rfl (Zj rfl (Zo (Zx (aC ?_))))))
 exact Zc [_] rfl ⟨rfl,trivial⟩ (fun D hD=>rfl)
theorem wR(r:Int×Int)(n:Int)(D:aA):Fn Tryz.prog 145 #[gT r,.int .i64 n] D (fun _ v=>v=.bool (eY n r.1 r.2)):=by
 refine enter 11 Tryz.func145 rfl rfl rfl rfl fun h0=>Zy (C.rg (Zr rfl (fun q1 E1 hE1 hB1=>Zj rfl (Zo (Zx (Zy (C.rg (Za rfl (Zk rfl Tf.f55_0 rfl (Zg 0 rfl Tf.a3 rfl hB1 rfl ?_))))))))));refine Zk rfl Tf.f55_1 rfl (Zg 1 rfl Tf.a3 rfl hB1 rfl (Zd rfl (fun D1 hD1=>cX _ _ _ _) (Zj rfl (Zo (Zx (aC ?_))))))
 exact Zc [_] rfl ⟨rfl,trivial⟩ (fun D hD=>rfl)
theorem lW(r:Int×Int)(n:Int)(D:aA):Fn Tryz.prog 79 #[gT r,.int .i64 n] D (fun _ v=>v=gT (min r.1 n,max r.2 n)):=by
 refine enter 15 Tryz.func79 rfl rfl rfl rfl fun h0=>Zy (C.rg (Zr rfl (fun q1 E1 hE1 hB1=>Zu rfl Tf.z55 rfl (fun q2=>Zo (Zx (Zy (mW [] 4 [0,1,2,5,6,7,8,3,4,9,10] [false,false,true,true,true,true,true,true,true,false,false] [(false,0),(false,1),(true,2),(true,5),(true,6),(true,7),(true,8),(true,3),(true,4),(false,9),(false,10)] Tf.follows (fun _ _ _ h=>dI (P:=Tryz.prog) (fn:=Tryz.f79) _ _ _ h) Yg rfl (Zk rfl Tf.f55_0 rfl (Zg 0 rfl Tf.a3 rfl hB1 rfl (Za rfl ?_))))))))));refine Zk rfl Tf.f55_1 rfl (Zg 1 rfl Tf.a3 rfl hB1 rfl (Za rfl (mT rfl rfl rfl rfl trivial (Zm rfl U25 Tf.s3 Tf.z3 rfl rfl rfl rfl (.cons rfl rfl (.cons rfl rfl .nil)) (fun b901 D901 hD901 hA901=>?_)))))
 have hS901:=Sl.ofInts (l:=[_,_]) (n:=2) (cap:=2) hA901 rfl Yd Yd;refine Zd rfl (fun D1 hD1=>iY _ r.1 [n] _ (hS901.up RI.up (hD1 _ Ye))) (Zp [.int .i64 (min r.1 n),.int .i64 (max r.2 n)] rfl Tf.p55 Tf.z55 rfl rfl (Zs rfl Tf.s55 (cY.head) (Zo (Zx (aC ?_)))));exact Zc [_] rfl ⟨⟨_,_,_,rfl,(List.Mem.head _),Or.inr ⟨Tf.a55,(by first|exact Tf.s55|(simp only[List.size_toArray,aQ, *];exact Tf.s55)),rfl⟩⟩,trivial⟩ (fun D hD=>rfl)
theorem w9(tv:Value)(t:aR)(n:Int)(D:aA)(ht:eR D tv t):Fn Tryz.prog 80 #[tv,.int .i64 n] D (fun _ v=>v=.bool (yM t.last n)):=by
 have ht0:=ht;obtain⟨hv,lv,mv,rfl,hh,hl,hm⟩:=ht;have hll:=hl.len;refine enter 9 Tryz.func80 rfl rfl rfl rfl fun h0=>Zy (C.rg (Zr rfl (fun q1 E1 hE1 hB1=>Zj rfl (Zo (Zx (Zy (C.rg (Za rfl (Zk rfl Tf.f32_0 rfl (Zg 0 rfl Tf.a3 rfl hB1 rfl ?_))))))))));refine Zd rfl (fun D1 hD1=>cX _ _ _ _) (Zj rfl (Zo (Zx (aC ?_))))
 exact Zc [_] rfl ⟨rfl,trivial⟩ (fun D hD=>rfl)
theorem QP(tv:Value)(t:aR)(n:Int)(D:aA)(ht:eR D tv t):Fn Tryz.prog 46 #[tv,.int .i64 n] D (fun _ v=>v=.bool (eY n 0 ((t.levels.length:Int)-1))):=by
 have ht0:=ht;obtain⟨hv,lv,mv,rfl,hh,hl,hm⟩:=ht;have hll:=hl.len;refine enter 11 Tryz.func46 rfl rfl rfl rfl fun h0=>Zy (C.rg (Zr rfl (fun q1 E1 hE1 hB1=>Zj rfl (Zo (Zx (Zy (C.rg (Za rfl (Zk rfl Tf.f32_3 rfl (Zg 3 rfl Tf.a25 rfl hB1 rfl ?_))))))))));refine aY rfl U25 rfl Yl rfl rfl trivial (fW rfl rfl rfl Yf rfl trivial (Zd rfl (fun D1 hD1=>cX _ _ _ _) (Zj rfl (Zo (Zx (aC ?_))))))
 exact Zc [_] rfl ⟨rfl,trivial⟩ (fun D hD=>rfl)
theorem Y6(tv:Value)(t:aR)(a b:Int)(D:aA)(ht:eR D tv t):Fn Tryz.prog 43 #[tv,.int .i64 a,.int .i64 b] D (fun _ v=>v=.bool (jZ t.last a b)):=by
 have ht0:=ht;obtain⟨hv,lv,mv,rfl,hh,hl,hm⟩:=ht;have hll:=hl.len;refine enter 20 Tryz.func43 rfl rfl rfl rfl fun h0=>Zy (C.rg (Zr rfl (fun q1 E1 hE1 hB1=>Zj rfl (Zo (Zx (Zy (C.rg (Zq rfl Tf.a32 rfl hB1 Tf.s32 (Za rfl (Zd rfl (fun D1 hD1=>w9 _ t _ _ (ht0.up (hD1 _ Ye))) ?_))))))))));refine Za rfl ?_
 refine' dA [(false,4),(false,5),(false,6),(false,7)] [(false,8),(false,9),(false,10),(false,11),(false,12),(false,13)] (s:=10) (p:=14) rfl rfl (fun hg1=>?_) (fun hg1=>?_) ?_;rotate_left
 ·refine cU rfl Tf.a32 rfl hB1 Yc Tf.s32 List.not_mem_nil rfl ⟨_,rfl,rfl⟩ (Zb rfl (Ze rfl (fun D2 hD2=>w9 _ t _ _ (ht0.up (hD2 _ Ye))) (Zv rfl ?_)));exact aF fun a w hh=>hh.cutK 3 rfl
 ·refine Zi rfl (Zi rfl (Zi rfl (Zw rfl ?_)));exact aF fun a w hh=>hh.cutK 3 rfl
 refine Za rfl ?_;refine' dA [(false,9),(false,10),(false,11),(false,12)] [(false,13)] (s:=15) (p:=19) rfl rfl (fun hg2=>?_) (fun hg2=>?_) ?_;rotate_left
 ·refine Zb rfl (Zb rfl (gV rfl rfl rfl rfl ⟨_,rfl,rfl⟩ (Zv rfl ?_)));exact aF fun a w hh=>hh.cutK 3 rfl
 ·refine Zi rfl (Zi rfl (Zi rfl (Zw rfl ?_)));exact aF fun a w hh=>hh.cutK 3 rfl
 refine Zj rfl (Zo (Zx (aC ?_)));exact Zc [_] rfl ⟨rfl,trivial⟩ (fun D hD=>rfl)
theorem MU(tv:Value)(t:aR)(m:Mk)(D:aA)(ht:eR D tv t):Fn Tryz.prog 133 #[tv,SH m] D (fun _ v=>v=.bool (kY t.last m)):=by
 have ht0:=ht;obtain⟨hv,lv,mv,rfl,hh,hl,hm⟩:=ht;refine enter 16 Tryz.func133 rfl rfl rfl rfl fun h0=>Zy (C.rg (Zr rfl (fun q1 E1 hE1 hB1=>Zr rfl (fun q2 E2 hE2 hB2=>Zj rfl (Zo (Zx (Zy (C.rg (Zq rfl Tf.a32 rfl hB1 Tf.s32 (Zk rfl Tf.f144_0 rfl ?_))))))))));refine Zg 0 rfl Tf.a3 rfl hB2 rfl (Zk rfl Tf.f144_1 rfl (Zg 1 rfl Tf.a3 rfl hB2 rfl (Zd rfl (fun D1 hD1=>Y6 _ t _ _ _ (ht0.up (hD1 _ Ye))) (Za rfl ?_))))
 refine' dA [(false,7),(false,8),(false,9),(false,10)] [(false,11)] (s:=11) (p:=15) rfl rfl (fun hg1=>?_) (fun hg1=>?_) ?_;rotate_left
 ·refine Zl rfl Tf.f144_2 rfl (gC rfl (k:=2) Tf.a55 Tf.s55 rfl hB2 Yc rfl rfl List.not_mem_nil rfl ⟨_,rfl,rfl⟩ (Ze rfl (fun D2 hD2=>wQ (m.lo,m.hi) _) (Zv rfl ?_)));exact aF fun a w hh=>hh.cutK 3 rfl
 ·refine Zi rfl (Zi rfl (Zi rfl (Zw rfl ?_)));exact aF fun a w hh=>hh.cutK 3 rfl
 refine Zj rfl (Zo (Zx (aC ?_)));exact Zc [_] rfl ⟨rfl,trivial⟩ (fun D hD=>rfl)
theorem mV(sv fv:Value)(xs:List (Int×Int))(p:(Int×Int)→Bool)(D:aA)(hS:Sl D vT 2 sv xs)(hp:bM Tryz.prog D gT fv p):
  Fn Tryz.prog 250 #[sv,fv] D (fun _ v=>v=.int .i64 (idxOf p xs)):=by
 have hl:=hS.len;obtain⟨f,c1,c2,rfl,hf⟩:=hp;refine enter 19 Tryz.func250 rfl rfl rfl rfl fun h0=>Zy (C.rg (Zj rfl (Zo (Zx (Zy (Zy (C.rg (Za rfl (aY rfl U29 rfl Yl rfl rfl trivial (Za rfl ?_))))))))));refine Zo (Zx (Zae (bS (γ:=Nat) (fun k=>xs.length-k) (fun k=>k≤xs.length∧(xs.take k).any p=false) (fun k=>[(8,.int .i64 k)]) [(7,_),(4,_),(0,_),(1,_)] (fun k=>[D]) 0 Ye ⟨Yb,trivial⟩ C.rs (aG) ?_)))
 rintro k ⟨h1,h2⟩;refine Zy (C.rg (Zaa rfl (Zo (Zx (Zy (aH rfl (fun hc1=>?_) (fun hc1=>?_)))))))
 ·have hk:k<xs.length:=by omega
  obtain⟨x,hx⟩:∃x,xs[k]?= some x:=⟨_,List.getElem?_eq_getElem hk⟩
  refine Zac (Zx (Zy (Zae (Zy (C.rg (Za rfl (Zj rfl (Zo (Zx (Zy (C.rg ?_)))))))))));refine Za rfl (Za rfl (Za rfl (aJ rfl U29 Tf.s55 rfl Yl rfl Yd Yl rfl trivial (fun b1 o1 cs1 hr1 hcl1 hA1=>?_))));obtain rfl:cs1=[.int .i64 _,.int .i64 _]:=hr1;refine Zq rfl Tf.a55 rfl hA1 Tf.s55 (Zd rfl (fun D1 hD1=>hf x _ (hD1 _ Ye)) (Zo (Zx (aP rfl (fun hc2=>?_) (fun hc2=>?_)))))
  ·refine Zy (C.rg (Za rfl (Zj rfl (Zo (Zx (aC (aD (Zad (Zad (aD (Zad ?_)))))))))));exact Zc [_] rfl ⟨rfl,trivial⟩ (fun D hD=>by show Value.int _ _=_;rw[L1.fV hx h2 hc2])
  ·refine Zac (Zag (Zx (C.rg (Zt rfl (Za rfl (Zo ?_))))));have hpx:p x=false:=hc2;have h3:(xs.take (k+1)).any p=false:=by rw[List.take_add_one,hx,List.any_append,h2];simp[hpx]
   exact aN 12 (k+1) ⟨by omega,h3⟩ Yd ⟨Yb,trivial⟩ rfl rfl (List.Sublist.refl _) (aG)
 ·refine aZ (Zaf (Zaf (aE (Zx (Zy (C.rg (Zj rfl (Zo (Zx (aC ?_))))))))));exact Zc [_] rfl ⟨rfl,trivial⟩ (fun D hD=>by show Value.int _ _=_;rw[L1.dX Yx])
theorem jT(sv fv:Value)(xs:List (Int×Int))(p:(Int×Int)→Bool)(D:aA)(hS:Sl D vT 2 sv xs)(hp:bM Tryz.prog D gT fv p):
  Fn Tryz.prog 212 #[sv,fv] D (fun _ v=>v=.bool (xs.any p)):=by
 refine enter 9 Tryz.func212 rfl rfl rfl rfl fun h0=>Zy (C.rg (Zj rfl (Zo (Zx (Zy (C.rg (Za rfl (Za rfl (Zd rfl (fun D1 hD1=>mV _ _ xs p _ (Sl.at vT.up hD1 Yl Ye) (hp.up (hD1 _ Ye))) (kX rfl rfl rfl rfl trivial ?_))))))))));refine Zj rfl (Zo (Zx (aC ?_)))
 exact Zc [_] rfl ⟨rfl,trivial⟩ (fun D hD=>by show Value.bool (decide _)=_;rw[L1.fT])
theorem xU(b:Nat)(fv:Value)(p:(Int×Int)→Bool)(x:(Int×Int))(D:aA)(hp:bM Tryz.prog D gT fv p)(hB:At D b 0 [fv]):
  Fn Tryz.prog 213 #[gT x,.pointer (some ⟨b,0,none⟩)] D (fun _ v=>v=.bool (!p x)):=by
 obtain⟨f,c1,c2,rfl,hf⟩:=hp;refine enter 8 Tryz.func213 rfl rfl rfl rfl fun h0=>Zy (C.rg (Zr rfl (fun q1 E1 hE1 hB1=>Zj rfl (Zo (Zx (Zy (C.rg (Zg 0 rfl Tf.a244 rfl hB rfl (Zq rfl Tf.a55 rfl hB1 Tf.s55 (Zd rfl (fun D1 hD1=>hf x _ (hD1 _ Ye)) ?_))))))))));refine bV rfl rfl rfl trivial (Zj rfl (Zo (Zx (aC ?_))))
 exact Zc [_] rfl ⟨rfl,trivial⟩ (fun D hD=>rfl)
theorem N7(sv fv:Value)(xs:List (Int×Int))(p:(Int×Int)→Bool)(D:aA)(hS:Sl D vT 2 sv xs)(hp:bM Tryz.prog D gT fv p)(h1:fv.cells=#[fv]):
  Fn Tryz.prog 134 #[sv,fv] D (fun _ v=>v=.bool (xs.all p)):=by
 refine enter 9 Tryz.func134 rfl rfl rfl rfl fun h0=>Zy (C.rg (kM (vs:=[fv]) rfl rfl h1 rfl trivial (fun b D1 hD1 hB=>Zj rfl (Zo (Zx (Zy (C.rg (Za rfl (bH rfl rfl rfl rfl trivial (Zd rfl (fun D1 hD1=>jT _ _ xs (fun x=> !p x) _ (Sl.at vT.up hD1 Yl Ye) ⟨_,[],[.pointer (some ⟨b,0,none⟩)],rfl,fun x D2 hl=>xU b fv p x D2 (hp.up ((hD1 _ Ye).trans hl)) (hB.up ((hD1 _ Ye).trans hl))⟩) ?_))))))))));refine bV rfl rfl rfl trivial (Zj rfl (Zo (Zx (aC ?_))))
 exact Zc [_] rfl ⟨rfl,trivial⟩ (fun D hD=>by show Value.bool (!_)=_;rw[L1.iR])
theorem zQ(sv fv:Value)(xs:List Mk)(p:Mk→Bool)(D:aA)(hS:Sl D T1 4 sv xs)(hp:bM Tryz.prog D SH fv p):
  Fn Tryz.prog 251 #[sv,fv] D (fun _ v=>v=.int .i64 (idxOf p xs)):=by
 have hl:=hS.len;obtain⟨f,c1,c2,rfl,hf⟩:=hp;refine enter 19 Tryz.func251 rfl rfl rfl rfl fun h0=>Zy (C.rg (Zj rfl (Zo (Zx (Zy (Zy (C.rg (Za rfl (aY rfl U30 rfl Yl rfl rfl trivial (Za rfl ?_))))))))));refine Zo (Zx (Zae (bS (γ:=Nat) (fun k=>xs.length-k) (fun k=>k≤xs.length∧(xs.take k).any p=false) (fun k=>[(8,.int .i64 k)]) [(7,_),(4,_),(0,_),(1,_)] (fun k=>[D]) 0 Ye ⟨Yb,trivial⟩ C.rs (aG) ?_)))
 rintro k ⟨h1,h2⟩;refine Zy (C.rg (Zaa rfl (Zo (Zx (Zy (aH rfl (fun hc1=>?_) (fun hc1=>?_)))))))
 ·have hk:k<xs.length:=by omega
  obtain⟨x,hx⟩:∃x,xs[k]?= some x:=⟨_,List.getElem?_eq_getElem hk⟩
  refine Zac (Zx (Zy (Zae (Zy (C.rg (Za rfl (Zj rfl (Zo (Zx (Zy (C.rg ?_)))))))))));refine Za rfl (Za rfl (Za rfl (aJ rfl U30 Tf.s144 rfl Yl rfl Yd Yl rfl trivial (fun b1 o1 cs1 hr1 hcl1 hA1=>?_))));obtain rfl:cs1=[.int .i64 _,.int .i64 _,.int .i64 _,.int .i64 _]:=hr1;refine Zq rfl Tf.a144 rfl hA1 Tf.s144 (Zd rfl (fun D1 hD1=>hf x _ (hD1 _ Ye)) (Zo (Zx (aP rfl (fun hc2=>?_) (fun hc2=>?_)))))
  ·refine Zy (C.rg (Za rfl (Zj rfl (Zo (Zx (aC (aD (Zad (Zad (aD (Zad ?_)))))))))));exact Zc [_] rfl ⟨rfl,trivial⟩ (fun D hD=>by show Value.int _ _=_;rw[L1.fV hx h2 hc2])
  ·refine Zac (Zag (Zx (C.rg (Zt rfl (Za rfl (Zo ?_))))));have hpx:p x=false:=hc2;have h3:(xs.take (k+1)).any p=false:=by rw[List.take_add_one,hx,List.any_append,h2];simp[hpx]
   exact aN 12 (k+1) ⟨by omega,h3⟩ Yd ⟨Yb,trivial⟩ rfl rfl (List.Sublist.refl _) (aG)
 ·refine aZ (Zaf (Zaf (aE (Zx (Zy (C.rg (Zj rfl (Zo (Zx (aC ?_))))))))));exact Zc [_] rfl ⟨rfl,trivial⟩ (fun D hD=>by show Value.int _ _=_;rw[L1.dX Yx])
theorem uH(sv fv:Value)(xs:List Mk)(p:Mk→Bool)(D:aA)(hS:Sl D T1 4 sv xs)(hp:bM Tryz.prog D SH fv p):
  Fn Tryz.prog 215 #[sv,fv] D (fun _ v=>v=.bool (xs.any p)):=by
 refine enter 9 Tryz.func215 rfl rfl rfl rfl fun h0=>Zy (C.rg (Zj rfl (Zo (Zx (Zy (C.rg (Za rfl (Za rfl (Zd rfl (fun D1 hD1=>zQ _ _ xs p _ (Sl.at T1.up hD1 Yl Ye) (hp.up (hD1 _ Ye))) (kX rfl rfl rfl rfl trivial ?_))))))))));refine Zj rfl (Zo (Zx (aC ?_)))
 exact Zc [_] rfl ⟨rfl,trivial⟩ (fun D hD=>by show Value.bool (decide _)=_;rw[L1.fT])
theorem IG(b:Nat)(fv:Value)(p:Mk→Bool)(x:Mk)(D:aA)(hp:bM Tryz.prog D SH fv p)(hB:At D b 0 [fv]):
  Fn Tryz.prog 216 #[SH x,.pointer (some ⟨b,0,none⟩)] D (fun _ v=>v=.bool (!p x)):=by
 obtain⟨f,c1,c2,rfl,hf⟩:=hp;refine enter 8 Tryz.func216 rfl rfl rfl rfl fun h0=>Zy (C.rg (Zr rfl (fun q1 E1 hE1 hB1=>Zj rfl (Zo (Zx (Zy (C.rg (Zg 0 rfl Tf.a242 rfl hB rfl (Zq rfl Tf.a144 rfl hB1 Tf.s144 (Zd rfl (fun D1 hD1=>hf x _ (hD1 _ Ye)) ?_))))))))));refine bV rfl rfl rfl trivial (Zj rfl (Zo (Zx (aC ?_))))
 exact Zc [_] rfl ⟨rfl,trivial⟩ (fun D hD=>rfl)
theorem NJ(sv fv:Value)(xs:List Mk)(p:Mk→Bool)(D:aA)(hS:Sl D T1 4 sv xs)(hp:bM Tryz.prog D SH fv p)(h1:fv.cells=#[fv]):
  Fn Tryz.prog 138 #[sv,fv] D (fun _ v=>v=.bool (xs.all p)):=by
 refine enter 9 Tryz.func138 rfl rfl rfl rfl fun h0=>Zy (C.rg (kM (vs:=[fv]) rfl rfl h1 rfl trivial (fun b D1 hD1 hB=>Zj rfl (Zo (Zx (Zy (C.rg (Za rfl (bH rfl rfl rfl rfl trivial (Zd rfl (fun D1 hD1=>uH _ _ xs (fun x=> !p x) _ (Sl.at T1.up hD1 Yl Ye) ⟨_,[],[.pointer (some ⟨b,0,none⟩)],rfl,fun x D2 hl=>IG b fv p x D2 (hp.up ((hD1 _ Ye).trans hl)) (hB.up ((hD1 _ Ye).trans hl))⟩) ?_))))))))));refine bV rfl rfl rfl trivial (Zj rfl (Zo (Zx (aC ?_))))
 exact Zc [_] rfl ⟨rfl,trivial⟩ (fun D hD=>by show Value.bool (!_)=_;rw[L1.iR])
theorem pM(b:Nat)(fv:Value)(p:Int→Bool)(x:Int)(D:aA)(hp:bM Tryz.prog D iV fv p)(hB:At D b 0 [fv]):
  Fn Tryz.prog 214 #[iV x,.pointer (some ⟨b,0,none⟩)] D (fun _ v=>v=.bool (!p x)):=by
 obtain⟨f,c1,c2,rfl,hf⟩:=hp;refine enter 8 Tryz.func214 rfl rfl rfl rfl fun h0=>Zy (C.rg (Zj rfl (Zo (Zx (Zy (C.rg (Zg 0 rfl Tf.a108 rfl hB rfl (Za rfl (Zd rfl (fun D1 hD1=>hf x _ (hD1 _ Ye)) (bV rfl rfl rfl trivial ?_))))))))));refine Zj rfl (Zo (Zx (aC ?_)))
 exact Zc [_] rfl ⟨rfl,trivial⟩ (fun D hD=>rfl)
theorem sR(sv fv:Value)(xs:List Int)(p:Int→Bool)(D:aA)(hS:Sl D RI 1 sv xs)(hp:bM Tryz.prog D iV fv p)(h1:fv.cells=#[fv]):
  Fn Tryz.prog 137 #[sv,fv] D (fun _ v=>v=.bool (xs.all p)):=by
 refine enter 9 Tryz.func137 rfl rfl rfl rfl fun h0=>Zy (C.rg (kM (vs:=[fv]) rfl rfl h1 rfl trivial (fun b D1 hD1 hB=>Zj rfl (Zo (Zx (Zy (C.rg (Za rfl (bH rfl rfl rfl rfl trivial (Zd rfl (fun D1 hD1=>L1.hZ _ _ xs (fun x=> !p x) _ (Sl.at RI.up hD1 Yl Ye) ⟨_,[],[.pointer (some ⟨b,0,none⟩)],rfl,fun x D2 hl=>pM b fv p x D2 (hp.up ((hD1 _ Ye).trans hl)) (hB.up ((hD1 _ Ye).trans hl))⟩) ?_))))))))));refine bV rfl rfl rfl trivial (Zj rfl (Zo (Zx (aC ?_))))
 exact Zc [_] rfl ⟨rfl,trivial⟩ (fun D hD=>by show Value.bool (!_)=_;rw[L1.iR])
theorem KV(sv:Value)(x:Int)(xs:List Int)(D:aA)(hS:Sl D RI 1 sv (x::xs)):
  Fn Tryz.prog 146 #[sv] D (fun _ v=>v=.int .i64 (xs.foldl max x)):=by
 have hl:=hS.len;simp only[List.length_cons]at hl;refine enter 25 Tryz.func146 rfl rfl rfl rfl fun h0=>Zy (C.rg (Zj rfl (Zo (Zx (Zy (Zy (C.rg (Za rfl (aY rfl U25 rfl Yl rfl rfl trivial (Zaa rfl ?_))))))))));refine Zo (Zx (aH rfl (fun hc1=>?_) (fun hc1=>?_)))
 ·exact absurd hc1 (by simp only[List.length_cons];omega)
 ·refine Zac (Zx (Zy (C.rg (Za rfl (aJ rfl U25 Tf.s3 rfl Yl rfl Yd (by rfl) rfl trivial (fun b1 o1 cs1 hr1 hcl1 hA1=>?_))))));obtain rfl:cs1=[.int .i64 _]:=hr1;refine Zg 0 rfl Tf.a3 rfl hA1 rfl (Zj rfl (Zo (Zx (Zy (Zy (C.rg (Zj rfl (Zo (Zx (Zae (bS (γ:=Nat) (fun k=>xs.length-k) (fun k=>k≤xs.length) (fun k=>[(3,.int .i64 ((xs.take k).foldl max x)),(4,.int .i64 (k+1:Int))]) [(2,_),(0,_)] (fun k=>[D]) 0 Yd ⟨Yb,Yb,trivial⟩ C.rs (aG) ?_)))))))))));rintro k h1;refine Zy (Zy (C.rg (Za rfl (Za rfl (aY rfl U25 rfl Yl rfl rfl trivial (Zaa rfl (Zo (Zx (aH rfl (fun hc2=>?_) (fun hc2=>?_))))))))))
  ·simp only[List.length_cons]at hc2;have hk:k<xs.length:=by omega
   obtain⟨y,hy⟩:∃y,xs[k]?= some y:=⟨_,List.getElem?_eq_getElem hk⟩
   have hy2:(x::xs)[(k+1:Int).toNat]?= some y:=by rw[show((k:Int)+1).toNat=k+1 by omega];simpa using hy
   refine Zac (Zx (Zy (Zae (C.rg (Za rfl (Za rfl (Za rfl (aJ rfl U25 Tf.s3 rfl Yl rfl Yd Yl rfl trivial (fun b2 o2 cs2 hr2 hcl2 hA2=>?_)))))))));obtain rfl:cs2=[.int .i64 _]:=hr2;refine Zg 0 rfl Tf.a3 rfl hA2 rfl (mT rfl rfl rfl rfl trivial (Zj rfl (Zo (Zag (Zx (C.rg (Za rfl (Zt rfl (Zj rfl (Zo ?_))))))))));have h3:(xs.take (k+1)).foldl max x=max ((xs.take k).foldl max x) y:=by rw[List.take_add_one,hy,List.foldl_append];rfl
   exact aN 16 (k+1) Yd Yd ⟨(by rw[h3];rfl),Yb,trivial⟩ rfl rfl (List.Sublist.refl _) (aG)
  ·simp only[List.length_cons]at hc2;refine aZ (Zaf (Zaf (aE (Zx (Zy (C.rg (Za rfl (Zj rfl (Zo (Zx (aC ?_)))))))))));exact Zc [_] rfl ⟨rfl,trivial⟩ (fun D hD=>by show Value.int _ _=_;rw[List.take_of_length_le Yd])
end L2
end Go.Fs
namespace Go.Fs
variable{P:Program}{X:Cx}{γb:Type}[Membership Nat γb]{bad:γb}{all:Array Oper}{K:Act→World→Prop}{Q:Exit→Act→World→Prop}
variable{σ:bF}{μ:aB}{Ds:List aA}{os:List (Bool×Nat)}{fl:Bool}{ix:Nat}
variable{d:Nat}{x y z:Operand}{u v:Value}{ty:TypeId}{pos:String}{aft:Array Edge}{g:Option (Nat×Bool)}
theorem K2.key{k:TypeId}(h:K2 P k):T3 P k gT:=by
 refine⟨⟨_,h.1⟩,fun a b w=>?_,fun em a w=>vW h em a w,fun a=>?_,fun a=>⟨_,rfl⟩⟩
 ·rw[nY h];congr 1;by_cases e:a=b
  ·subst e;simp
  ·simp[e]
 ·simp[gT,Instr.sameBits]

variable{α β:Type}[DecidableEq α]{val:α→Value}{wal:β→Value}
def HI(val:α→Value)(wal:β→Value)(es:Array MapEntry)(M:List (α×β)):Prop:=es.toList.map (fun e=>(e.key,e.val))=M.map fun x=>(val x.1,wal x.2)
def O6(a:α):List (α×β)→Nat→Option (Nat×β)
 | [],_=>none
 |(b,n)::M,i=>if a=b then some (i,n)else O6 a M (i+1)
theorem zZ{a:α}:∀{M:List (α×β)} {i j:Nat} {n:β},O6 a M i=some (j,n)→∃k,j=i+k∧M[k]?= some (a,n)
 |(b,m)::M,i,j,n,h=>by
  simp only[O6]at h;split at h
  ·rename_i he;cases h;exact⟨0,rfl,by rw[he];rfl⟩
  ·obtain⟨k,rfl,hk⟩:=zZ h;exact⟨k+1,by omega,by simpa using hk⟩
theorem nO{k:TypeId}(h:T3 P k val)(a:α)(w:World):∀(es:List MapEntry) (M:List (α×β)) (i:Nat),es.map (fun e=>(e.key,e.val))=M.map (fun x=>(val x.1,wal x.2))→
  (Instr.findAsking k (val a) es i).run P w=.ok ((O6 a M i).map fun p=>(p.1,wal p.2)) w
 | [],[],i,_=>rfl
 | [],_::_,i,hm=>by simp at hm
 |e::es,[],i,hm=>by simp at hm
 |e::es,(b,n)::M,i,hm=>by
  simp only[List.map_cons,List.cons.injEq,Prod.mk.injEq]at hm;obtain⟨⟨hk,hv⟩,hm⟩:=hm;simp only[Instr.findAsking,Sem.run_bind,hk,h.eq,Result.andThen_ok,O6];by_cases he:a=b
  ·subst he;simp only[decide_true,if_true,Sem.run_pure,hv];rfl
  ·simp only[he,decide_false,Bool.false_eq_true,if_false];exact nO h a w es M (i+1) hm
theorem zO{k:TypeId}(h:T3 P k val)(a:α)(w:World){es:List MapEntry}{M:List (α×β)}(hm:es.map (fun e=>(e.key,e.val))=M.map (fun x=>(val x.1,wal x.2))):
  (Instr.findKey k (val a) es).run P w=.ok ((O6 a M 0).map fun p=>(p.1,wal p.2)) w:=by
 obtain⟨fs,hu⟩:=h.und;unfold Instr.findKey;rw[Sem.run_bind,TU.of hu w];cases es with
 |nil=>
  cases M with
  |nil=>rfl
  |cons x M=>simp at hm
 |cons e es=>
  have hn:Instr.findNow (.struct fs) (val a) (e::es) 0=none:=by
   obtain⟨cs,hc⟩:=h.agg a;rw[hc];rfl
  simp only[Result.andThen_ok,hn];exact nO h a w (e::es) M 0 hm
end Go.Fs
namespace Go.Fs
variable{P:Program}{X:Cx}{γb:Type}[Membership Nat γb]{bad:γb}{all:Array Oper}{K:Act→World→Prop}{Q:Exit→Act→World→Prop}
variable{σ:bF}{μ:aB}{Ds:List aA}{os:List (Bool×Nat)}{fl:Bool}{ix:Nat}
variable{d:Nat}{x y z:Operand}{u v:Value}{ty:TypeId}{pos:String}{aft:Array Edge}{g:Option (Nat×Bool)}
def RR:Unit→Value:=fun _=>.bool true
structure nN(es:Array MapEntry)(clock:Nat)(S:List (Int×Int)):Prop where
 cells:HI gT RR es (S.map fun a=>(a,()))
 nd:(es.toList.map (·.born)).Nodup
 lt:∀e∈es.toList,e.born<clock
theorem nN.nil:nN #[] 0 []:=⟨rfl,List.nodup_nil,fun e he=>by simp at he⟩
def T7(S:List (Int×Int))(a:Int×Int):List (Int×Int):=if a∈S then S else S++[a]
theorem KR{S:List (Int×Int)}{a p:Int×Int}:p∈T7 S a ↔ p∈S∨p=a:=by
 unfold T7;split
 ·rename_i h;exact⟨Or.inl,fun h'=>h'.elim id fun e=>e▸h⟩
 ·simp
theorem nN.key{es:Array MapEntry}{clock:Nat}{S:List (Int×Int)}(h:nN es clock S){e:MapEntry}(he:e∈es.toList):∃a∈S,e.key=gT a∧e.val=.bool true:=by
 have h1:=h.cells;unfold HI at h1;obtain⟨i,hi⟩:=List.mem_iff_getElem?.1 he;have h2:(es.toList.map fun e=>(e.key,e.val))[i]?= some (e.key,e.val):=by rw[List.getElem?_map,hi];rfl
 rw[h1,List.map_map,List.getElem?_map]at h2;obtain⟨a,ha,hk⟩:=Option.map_eq_some_iff.1 h2;simp only[Function.comp,Prod.mk.injEq]at hk;exact⟨a,List.mem_of_getElem? ha,hk.1.symm,hk.2.symm⟩
theorem nN.ent{es:Array MapEntry}{clock:Nat}{S:List (Int×Int)}(h:nN es clock S){a:Int×Int}(ha:a∈S):∃e∈es.toList,e.key=gT a:=by
 have h1:=h.cells;unfold HI at h1;obtain⟨i,hi⟩:=List.mem_iff_getElem?.1 ha;have h2:((S.map fun a=>(a,())).map fun x=>(gT x.1,RR x.2))[i]?= some (gT a,.bool true):=by rw[List.map_map,List.getElem?_map,hi];rfl
 rw[←h1,List.getElem?_map]at h2;obtain⟨e,he,hk⟩:=Option.map_eq_some_iff.1 h2;simp only[Prod.mk.injEq]at hk;exact⟨e,List.mem_of_getElem? he,hk.1⟩
theorem DF{S:List (Int×Int)}{a:Int×Int}:∀{i:Nat},O6 a (S.map fun a=>(a,())) i=none→a∉S:=by
 induction S with
 |nil=>intro i _;exact List.not_mem_nil
 |cons b S ih=>
  intro i h;simp only[List.map_cons,O6]at h;split at h
  ·cases h
  ·rename_i hne;intro hm;rcases List.mem_cons.1 hm with e|hm
   ·exact hne e
   ·exact ih h hm
theorem RA{t k e:TypeId}{b clock:Nat}{es:Array MapEntry}{S:List (Int×Int)}{a:Int×Int}{A B:aB}(ho:all[ix]?= some ⟨none,.mapUpdate t x y z,ty,pos,aft,g⟩)(ht:P.underlying t=some (.map k e))(hk:K2 P k)
  (hx:ev σ x=some (.map (some b))) (hy:ev σ y=some (gT a)) (hz:ev σ z=some (.bool true)) (hM:nN es clock S) (hg:cR all σ g)
  (kk:∀es' clock',nN es' clock' (T7 S a)→WL P X bad all K Q os σ (A++(b,.map es' clock')::B) Ds):WL P X bad all K Q ((false,ix)::os) σ (A++(b,.map es clock)::B) Ds:=by
 refine dW ho rfl rfl hg fun a' w hh=>?_
 obtain⟨h1,h2,h3,D,h4,h5,h6⟩:=id hh;have hw:=(h4.box (b,.map es clock) Ye).1;have hK:=hk.key;have run:∃es' clock',nN es' clock' (T7 S a)∧(Instr.mapUpdate t (.map (some b)) (gT a) (.bool true)).run P w=.ok () {w with heap:=w.heap.setIfInBounds b (.map es' clock')}:=by
  have hf:=zO (wal:=RR) hK a w hM.cells;have hset:∀o,(setObj b o).run P w=.ok () {w with heap:=w.heap.setIfInBounds b o}:=fun o=>by simp[setObj,Sem.run,hw]
  cases hp:O6 a (S.map fun a=>(a,())) 0 with
  |none=>
   have hna:=DF hp;refine⟨es.push {key:=gT a,val:=.bool true,born:=clock},clock+1,⟨?_,?_,?_⟩,?_⟩
   ·have hM':=hM.cells;unfold HI at hM' ⊢
    unfold T7;rw[if_neg hna,Array.toList_push,List.map_append,hM',List.map_append,List.map_append];rfl
   ·rw[Array.toList_push,List.map_append,List.nodup_append];refine⟨hM.nd,by simp,fun b1 hb1 b2 hb2=>?_⟩;obtain⟨e1,he1,rfl⟩:=List.mem_map.1 hb1;have:=hM.lt e1 he1;simp only[List.map_cons,List.map_nil,List.mem_singleton]at hb2;omega
   ·intro e1 he1;rw[Array.toList_push]at he1;rcases List.mem_append.1 he1 with he1|he1
    ·have:=hM.lt e1 he1;omega
    ·simp only[List.mem_singleton]at he1;subst he1;exact Nat.lt_succ_self _
   ·unfold Instr.mapUpdate;simp only[Sem.run_bind,TU.of ht w,Result.andThen_ok,iU hw,hK.chk];rw[hf,hp];simp only[Option.map_none,Result.andThen_ok,hset]
  |some r=>
   obtain⟨j,m⟩:=r;obtain⟨i,hi0,hi⟩:=zZ hp;rw[Nat.zero_add]at hi0;subst hi0
   have hSj:S[j]?= some a:=by
    rw[List.getElem?_map]at hi;obtain⟨a',ha',hk'⟩:=Option.map_eq_some_iff.1 hi;rw[ha',(Prod.mk.inj hk').1]
   have hMi:∀i,(es.toList[i]?).map (fun e:MapEntry=>(e.key,e.val))=(S[i]?).map (fun x:Int×Int=>(gT x,Value.bool true)):=fun i=>by
    have:=hM.cells;unfold HI at this;rw[←List.getElem?_map,this,List.map_map,List.getElem?_map];rfl
   have hj:=hMi j;rw[hSj]at hj;obtain⟨e0,he0,hke⟩:=Option.map_eq_some_iff.1 hj;simp only[Prod.mk.injEq]at hke;have he0':es[j]?= some e0:=by simpa using he0
   have hmod:es.modify j (fun e=>{e with key:=gT a,val:=.bool true})=es:=by
    apply Array.ext_getElem?;intro q;rw[Array.getElem?_modify];by_cases hjq:j=q
    ·subst hjq;simp only[he0',if_true,Option.map_some];obtain⟨k0,v0,b0⟩:=e0;simp only at hke;rw[hke.1,hke.2]
    ·simp[hjq]
   refine⟨es,clock,?_,?_⟩
   ·unfold T7;rw[if_pos (List.mem_of_getElem? hSj)];exact hM
   ·have hks:(Instr.keyThatStays (gT a) (gT a)).run P w=.ok (gT a) w:=by
     have:Instr.sameBits 10000 (gT a) (gT a)=true:=hK.stay a;unfold Instr.keyThatStays;rw[if_pos this,Sem.run_pure]
    unfold Instr.mapUpdate;simp only[Sem.run_bind,TU.of ht w,Result.andThen_ok,iU hw,hK.chk];rw[hf,hp];simp only[Option.map_some,Result.andThen_ok,he0',Option.getD_some,hke.1,Sem.run_bind,hks,hset,hmod]
 obtain⟨es',clock',hM',hr⟩:=run;have hHas:cY (A++(b,Obj.map es clock)::B) b (.map es clock) (.map es' clock') (A++(b,.map es' clock')::B):=.app .head;have hs:=h4.set (w':={w with heap:=w.heap.setIfInBounds b (.map es' clock')}) hHas ⟨rfl,rfl⟩ trivial;have:(execOp a'.eval ⟨none,.mapUpdate t x y z,ty,pos,aft,g⟩).run P w=.ok .skip {w with heap:=w.heap.setIfInBounds b (.map es' clock')}:=by
  simp only[execOp,hh.eval hx,hh.eval hy,hh.eval hz,Sem.run_bind,hr,Result.andThen_ok,Sem.run_pure]
 rw[this];exact⟨fun h=>by simp at h,kk es' clock' hM' _ _ ⟨h1,h2,h3,D,hs,h5,h6.step (fun _ p hp=>Or.inl Yr) (fun _=>gL ⟨rfl,rfl⟩ (List.mem_map.2 ⟨_,hHas.mem,rfl⟩)) hs.dom⟩⟩
theorem HY{t k e:TypeId}{b clock:Nat}{es:Array MapEntry}(ho:all[ix]?= some ⟨some d,.range t x,ty,pos,aft,g⟩)(ht:P.underlying t=some (.map k e))(hx:ev σ x=some (.map (some b)))(hm:(b,Obj.map es clock)∈μ)(hN:Nat.blt d X.N=true)(hg:cR all σ g)
  (kk:∀r,WL P X bad all K Q os ((d,.pointer (some ⟨r,0,none⟩))::σ) ((r,.mapIter (some b) clock #[] clock)::μ) Ds):WL P X bad all K Q ((fl,ix)::os) σ μ Ds:=by
 refine dW ho rfl rfl hg fun a w hh=>?_
 obtain⟨h1,h2,h3,D,h4,h5,h6⟩:=id hh;have:(execOp a.eval ⟨some d,.range t x,ty,pos,aft,g⟩).run P w=.ok (.value (.pointer (some ⟨w.heap.size,0,none⟩))) {w with heap:=w.heap.push (.mapIter (some b) clock #[] clock)}:=by
  simp only[execOp,hh.eval hx,Sem.run_bind,run_range_map w t k e b es clock ht (h4.box _ hm).1,Result.andThen_ok,Sem.run_pure];rfl
 rw[this];exact⟨fun _=>jU _ _ _,kk _ _ _ (Hl.put ⟨h1,h2,h3,D,h4.push _ (show cB (.mapIter (some b) clock #[] clock)from trivial),h5,h6.step (fun _ p hp=>by rcases List.mem_cons.1 hp with rfl|hp;exact Or.inr (Nat.le_refl _);exact Or.inl (List.mem_map.2 ⟨p,hp,rfl⟩)) (fun _=>sM _ _) (h4.push _ (show cB (.mapIter (some b) clock #[] clock)from trivial)).dom⟩ hN _)⟩
theorem OG{b r since c0 clock:Nat}{seen:Array Nat}{es:Array MapEntry}{A B:aB}(ho:all[ix]?= some ⟨some d,.next x false,ty,pos,aft,g⟩)(hx:ev σ x=some (.pointer (some ⟨r,0,none⟩)))(hm:(b,Obj.map es clock)∈A++(r,.mapIter (some b) since seen c0)::B)
  (hold:∀e∈es.toList,e.born<since) (hsc:since≤c0) (hN:Nat.blt d X.N=true) (hg:cR all σ g)
  (kk:∀(ok:Bool) (vs:Array Value) (o':Obj),vs.toList[0]?= some (.bool ok)→(ok=false→(leftOf es seen).size=0∧o'=.mapIter (some b) since seen c0)→(ok=true→∃e∈(leftOf es seen).toList,o'=.mapIter (some b) since (seen.push e.born) clock)→WL P X bad all K Q os ((d,.tuple vs)::σ) (A++(r,o')::B) Ds):
  WL P X bad all K Q ((false,ix)::os) σ (A++(r,.mapIter (some b) since seen c0)::B) Ds:=by
 refine dW ho rfl rfl hg fun a w hh=>?_
 have hh0:=hh;obtain⟨h1,h2,h3,D,h4,h5,h6⟩:=id hh;have hr:=(h4.box (r,.mapIter (some b) since seen c0) Ye).1;have hb:=(h4.box _ hm).1;rcases run_next_at (P:=P) w ty r b since c0 seen es clock hr hb hold hsc with⟨hl,hrun⟩|⟨e,he,w1,hw1,hrun⟩
 ·have:(execOp a.eval ⟨some d,.next x false,ty,pos,aft,g⟩).run P w=.ok (.value (.tuple #[.bool false])) w:=by
   simp only[execOp,hh.eval hx,Sem.run_bind,hrun,Result.andThen_ok,Sem.run_pure]
  rw[this];exact⟨fun h=>by simp at h,kk false _ _ rfl (fun _=>⟨hl,rfl⟩) (fun h=>by cases h) _ _ (hh0.put hN _)⟩
 ·have hh1:Hl X σ (A++(r,.mapIter (some b) since seen c0)::B) Ds a w1:=by
   rcases hw1 with rfl|rfl
   ·exact hh0
   ·exact hh0.drew
  have:(execOp a.eval ⟨some d,.next x false,ty,pos,aft,g⟩).run P w=.ok (.value (.tuple #[.bool true,e.key,e.val])) (ChangeMaps.setBlock w1 r (.mapIter (some b) since (seen.push e.born) clock)):=by
   simp only[execOp,hh.eval hx,Sem.run_bind,hrun,Result.andThen_ok,Sem.run_pure]
  rw[this];obtain⟨h1,h2,h3,D,h4,h5,h6⟩:=hh1;have hHas:cY (A++(r,Obj.mapIter (some b) since seen c0)::B) r (.mapIter (some b) since seen c0) (.mapIter (some b) since (seen.push e.born) clock) (A++(r,.mapIter (some b) since (seen.push e.born) clock)::B):=.app .head;have hs:=h4.set (w':=ChangeMaps.setBlock w1 r (.mapIter (some b) since (seen.push e.born) clock)) hHas ⟨rfl,rfl⟩ trivial;exact⟨fun h=>by simp at h,kk true _ _ rfl (fun h=>by cases h) (fun _=>⟨e,he,rfl⟩) _ _ (Hl.put ⟨h1,h2,h3,D,hs,h5,h6.step (fun _ p hp=>Or.inl Yr) (fun _=>gL ⟨rfl,rfl⟩ (List.mem_map.2 ⟨_,hHas.mem,rfl⟩)) hs.dom⟩ hN _)⟩
theorem KP{b r since clock:Nat}{seen:Array Nat}{es:Array MapEntry}{e:MapEntry}(ho:all[ix]?= some ⟨some d,.entry x,ty,pos,aft,g⟩)(hx:ev σ x=some (.pointer (some ⟨r,0,none⟩)))(hm:(b,Obj.map es clock)∈μ)(hr:(r,Obj.mapIter (some b) since (seen.push e.born) clock)∈μ)
  (he:e∈es.toList) (hn:(es.toList.map (·.born)).Nodup) (hN:Nat.blt d X.N=true) (hg:cR all σ g)
  (kk:WL P X bad all K Q os ((d,.tuple #[e.key,e.val])::σ) μ Ds):WL P X bad all K Q ((fl,ix)::os) σ μ Ds:=by
 refine dW ho rfl rfl hg fun a w hh=>?_
 obtain⟨h1,h2,h3,D,h4,h5,h6⟩:=id hh;have:(execOp a.eval ⟨some d,.entry x,ty,pos,aft,g⟩).run P w=.ok (.value (.tuple #[e.key,e.val])) w:=by
  simp only[execOp,hh.eval hx,Sem.run_bind,run_entry_at w r b since seen es clock e (h4.box _ hr).1 (h4.box _ hm).1 he hn,Result.andThen_ok,Sem.run_pure]
 rw[this];exact⟨fun _=>jP.refl _ _,kk _ _ (hh.put hN _)⟩
theorem CH{t e:TypeId}{n b l h:Nat}{k1 k2:IntKind}{i j:Int}(ho:all[ix]?= some ⟨some d,.slice t x (some y) (some z) none,ty,pos,aft,g⟩)(ht:P.underlying t=some (.array n e))(hs:TS P e 1)(hx:ev σ x=some (.pointer (some ⟨b,0,none⟩)))
  (hy:ev σ y=some (.int k1 i)) (hz:ev σ z=some (.int k2 j)) (hi:i=(l:Int)) (hj:j=(h:Int)) (h1:l≤h) (h2:h≤n) (h3:l<n)
  (hN:Nat.blt d X.N=true) (hg:cR all σ g) (kk:WL P X bad all K Q os ((d,.slice (some ⟨b,l,none⟩) (h-l) (n-l))::σ) μ Ds):WL P X bad all K Q ((fl,ix)::os) σ μ Ds:=by
 subst hi;subst hj
 refine bD ho rfl rfl hN hg (fun ρ hρ w'=>?_) kk;simp only[execOp,hρ x _ hx,hρ y _ hy,hρ z _ hz,Option.map_none,Option.map_some];unfold Instr.sliceAt Instr.sureAddr Instr.sliceBounds Instr.sliceBound asIntOf;have a1:(0:Int)≤(l:Int)∧(l:Int)≤(h:Nat):=by omega
 have a2:(0:Int)≤(h:Int)∧(h:Int)≤(n:Nat):=by omega
 simp only[Sem.run_bind,TU.of ht w',Result.andThen_ok,hs w',Sem.run_pure,pure_bind,a1,a2,and_self,if_true,Int.toNat_natCast,Nat.mul_one];rw[if_neg Yd];simp[Addr.add];exact fun h=>h.symm
theorem FX{t e:TypeId}{n b h:Nat}{k2:IntKind}{j:Int}(ho:all[ix]?= some ⟨some d,.slice t x none (some z) none,ty,pos,aft,g⟩)(ht:P.underlying t=some (.array n e))(hs:TS P e 1)(hx:ev σ x=some (.pointer (some ⟨b,0,none⟩)))
  (hz:ev σ z=some (.int k2 j)) (hj:j=(h:Int)) (h2:h≤n)
  (hN:Nat.blt d X.N=true) (hg:cR all σ g) (kk:WL P X bad all K Q os ((d,.slice (some ⟨b,0,none⟩) h n)::σ) μ Ds):WL P X bad all K Q ((fl,ix)::os) σ μ Ds:=by
 subst hj;refine bD ho rfl rfl hN hg (fun ρ hρ w'=>?_) kk;simp only[execOp,hρ x _ hx,hρ z _ hz,Option.map_none,Option.map_some];unfold Instr.sliceAt Instr.sureAddr Instr.sliceBounds Instr.sliceBound asIntOf;have a2:(0:Int)≤(h:Int)∧(h:Int)≤(n:Nat):=by omega
 simp only[Sem.run_bind,TU.of ht w',Result.andThen_ok,hs w',Sem.run_pure,pure_bind,a2,and_self,if_true,Int.toNat_natCast,Nat.zero_mul,Nat.sub_zero];split<;>simp[Addr.add]
theorem t8{D:aA}{b n l h:Nat}{c:List Int}(hA:At D b 0 (ints c))(hl:c.length=n)(h1:l≤h)(h2:h≤n)(hb:n≤9223372036854775807):Sl D RI 1 (.slice (some ⟨b,l,none⟩) (h-l) (n-l)) ((c.drop l).take (h-l)):=by
 have hlen:((c.drop l).take (h-l)).length=h-l:=by simp;omega
 refine⟨_,_,by rw[hlen],by omega,by omega,Or.inr ⟨b,l,rfl,fun i x hi=>⟨_,rfl,rfl,fun j v hj=>?_⟩⟩⟩;rw[List.getElem?_take]at hi;split at hi
 ·rw[List.getElem?_drop]at hi;cases j with
  |zero=>
   have h5:v=.int .i64 x:=by simpa using hj.symm
   subst h5;have:=hA (l+i) (.int .i64 x) (cJ hi);simpa using this
  |succ j=>simp at hj
 ·cases hi
theorem QA{γ:Type}(I:γ→Prop)(S:γ→Bool)(XX:γ→Cx)(M:γ→aB)(xs ys:List (Bool×Nat)){s p:Nat}{b:Bool}(hXr:∀g,(XX g).r=X.r)(ho:os=xs++ys)(hs:look σ s=some (.bool b))
  (hyes:b=true→WL P X bad all (fun a w=>∃g,I g∧Hl (XX g) ((p,.bool (S g))::(s,.bool true)::σ) (M g) Ds a w) Q xs ((s,.bool true)::σ) μ Ds)
  (hno:b=false→WL P X bad all (fun a w=>∃g,I g∧Hl (XX g) ((p,.bool (S g))::(s,.bool false)::σ) (M g) Ds a w) Q xs ((s,.bool false)::σ) μ Ds)
  (k:∀g,I g→WL P (XX g) bad all K Q ys ((p,.bool (S g))::σ) (M g) Ds):WL P X bad all K Q os σ μ Ds:=by
 have hsub:∀u,Value.bool b=u→∀a w,Hl X σ μ Ds a w→Hl X ((s,u)::σ) μ Ds a w:=by
  rintro _ rfl a w ⟨h1,h2,h3⟩;refine⟨h1,fun t v ht=>?_,h3⟩;simp only[look]at ht;cases hb:Nat.beq s t with
  |true=>rw[hb]at ht;cases ht;obtain rfl:=Nat.eq_of_beq_eq_true hb;exact h2 _ _ hs
  |false=>rw[hb]at ht;exact h2 _ _ ht
 have hback:∀(X:Cx) u v μ',Value.bool b=u→∀a w,Hl X ((p,v)::(s,u)::σ) μ' Ds a w→Hl X ((p,v)::σ) μ' Ds a w:=by
  rintro X _ v μ' rfl a w ⟨h1,h2,h3⟩;refine⟨h1,fun t v' ht=>?_,h3⟩;refine h2 t v' ?_;simp only[look]at ht ⊢
  cases hp:Nat.beq p t with
  |true=>rw[hp]at ht;exact ht
  |false=>
   rw[hp]at ht;cases hb:Nat.beq s t with
   |true=>obtain rfl:=Nat.eq_of_beq_eq_true hb;rw[←ht,hs]
   |false=>exact ht
 subst ho;intro a w hh;cases b
 ·refine WL.append (hno rfl a w (hsub _ rfl a w hh)) ?_;rintro a w ⟨g,hI,h⟩;rw[←hXr g];exact k g hI a w (hback _ _ _ _ rfl a w h)
 ·refine WL.append (hyes rfl a w (hsub _ rfl a w hh)) ?_;rintro a w ⟨g,hI,h⟩;rw[←hXr g];exact k g hI a w (hback _ _ _ _ rfl a w h)

theorem MK{f:FuncId}{fn:Func}{c:Code}{args:List Value}{D:aA}{post:aA→Value→aB→Prop}(N:Nat)(hf:P.funcs[f]?= some fn)(hn:(fn.name== "runtime.NumGoroutine")=false)(hb:fn.body=some c)(hN:fn.ntmps=N)(hsz:Nat.ble args.length N=true)
  (h:∀h0:H0,WC P ⟨none,N,[],h0,h0.size,D,[],none⟩ (qZ P fn (kF ⟨none,N,[],h0,h0.size,D,[],none⟩ post)) c (fJ 0 args) [] [D]):y4 P f args.toArray D post:=by
 refine⟨EF.of hf hn hb,fun w hw=>?_⟩;subst hN;have hsz:=Nat.le_of_ble_eq_true hsz;have hq:∀e a w',qZ P fn (kF ⟨none,fn.ntmps,[],hd w,w.heap.size,D,[],none⟩ post) e a w'→bodyPostM (FW none) 0 P fn (kF ⟨none,fn.ntmps,[],hd w,w.heap.size,D,[],none⟩ post) e a w':=by
  intro e a w' he;cases e<;>first|exact he|exact he.elim
 have hwp:=h (hd w) {tmps:=args.toArray++Array.replicate (fn.ntmps-args.toArray.size) undef,defers:=[]} w ⟨by simp;omega,fun s v hs=>by
  obtain⟨_,h2⟩:=dP args 0 s v hs;have hl:=(List.getElem?_eq_some_iff.1 h2).1;simp only[Nat.sub_zero]at h2 hl;show(args.toArray++_)[s]?= some v;rw[Array.getElem?_append_left Yab];simpa using h2,rfl,D,⟨Nat.le_refl _,Nat.le_refl _,(fun _ _ _=>rfl),(fun _ _=>rfl),hw,(fun p hp=>by cases hp),List.nodup_nil,(fun p hp=>by cases hp),fun e he=>Option.some.inj he⟩,(fun D₁ h1=>by simp only[List.mem_singleton]at h1;subst h1;exact Le.refl _),trivial⟩
 refine(cQ (r:=none) (n:=0)).1 ((callsIn_of_wp_marks hf hb trivial (wpIn_mono hwp hq) rfl).mono ?_);rintro e w' ⟨v,D',μ',rfl,hs,hp⟩;exact⟨v,D',μ',rfl,hs,hp⟩
theorem V0{fn:Func}{bd:Nat}{post:aA→Value→aB→Prop}{e:Exit}(he:(match e with|.normal=>true|.ret=>true|_=>false)=true){rs:List ResultVar}{vs:List Value}{A B ν':aB}(hds:X.ds=[])(hr:fn.results=rs.toArray)(h:oX P X σ (A++ν'++B++[(bd,Obj.deferred none)]) rs vs)
  (hp:∀D,(∀D₁∈Ds,Le D₁ D)→post D (lZ vs) ν'):∀a w,Hl (X.withDs bd) σ (A++ν'++B++[(bd,Obj.deferred (some []))]) Ds a w→qZ P fn (kF X post) e a w:=by
 intro a w hh;obtain⟨h1,h2,h3,D,h4,h5,h6⟩:=hh;have hHas:cY (A++ν'++B++[(bd,Obj.deferred (some []))]) bd (.deferred (some [])) (.deferred none) (A++ν'++B++[(bd,Obj.deferred none)]):=.app .head;have hs:=h4.set (w':=w.putObj bd (.deferred none)) hHas ⟨rfl,rfl⟩ trivial;have hh':Hl X σ (A++ν'++B++[(bd,Obj.deferred none)]) Ds {a with defers:=[]} (w.putObj bd (.deferred none)):=
  ⟨h1,h2,hds.symm,D,hs,h5,h6.step (X:=X.withDs bd) (fun _ p hp=>Or.inl Yr) (fun _=>gL ⟨rfl,rfl⟩ (List.mem_map.2 ⟨_,hHas.mem,rfl⟩)) hs.dom⟩
 have hrun:=eT hh' hr h;have hb:=(h4.box (bd,Obj.deferred (some [])) Ye).1;have hnd:=hs.nd;simp only[List.map_append]at hnd;have hs':fA X.h0 X.lo X.D0 X.mods ν' D (w.putObj bd (.deferred none)):=hs.sub (fun p hp=>List.mem_append_left _ (List.mem_append_left _ (List.mem_append_right _ hp))) (List.nodup_append.1 (List.nodup_append.1 (List.nodup_append.1 hnd).1).1).2.1;have:LeavesInM (FW none) 0 P fn a.tmps (kF X post) a.defers .returning w:=by
  have h3':a.defers=[jV bd]:=h3.trans (by show jV bd::X.ds=_;rw[hds]);rw[h3'];exact⟨by simp,Or.inl ⟨bd,_,rfl,run_takeDeferred hb,_,hrun,_,D,ν',rfl,hs',hp D h5⟩⟩
 cases e<;>first|exact this|cases he
end Go.Fs
namespace Go.Fs
open Go.Proofs
namespace L2
open L1
open C2
open C1 (eY bT nB lX)
theorem LK{c pre:List Int}{n:Int}{i:Nat}(hl:pre.length=i)(hp:c.take (i+1)=pre++[n]):c[(i:Int).toNat]?= some n:=by
 have h:(c.take (i+1))[i]?= some n:=by rw[hp,←hl];simp
 rw[List.getElem?_take_of_lt (Nat.lt_succ_self i)]at h;exact h
theorem EI{step:Int}{c pre:List Int}{n:Int}{i:Nat}(hl:pre.length=i)(hp:c.take (i+1)=pre++[n])(hb:∀x∈pre,0≤x∧x≤99)(_h10:c.length=10)(hi:i<10):
  ∃m,(i≠0→c[((i:Int)-1).toNat]?= some m)∧(0≤m∧m≤99)∧(decide ((i:Int)=0)||eY (n-m) (-step) step)=oS step pre.getLast? n:=by
 rcases List.eq_nil_or_concat pre with rfl|⟨q,m,rfl⟩
 ·refine⟨0,fun h=>absurd hl.symm h,by omega,?_⟩;simp only[List.length_nil]at hl;subst hl;simp[oS]
 ·refine⟨m,fun _=>?_,hb m Ye,?_⟩
  ·have h:(c.take (i+1))[i-1]?= some m:=by
    rw[hp];simp only[List.concat_eq_append,List.length_append,List.length_singleton]at hl;rw[show i-1=q.length by omega];simp
   rw[List.getElem?_take_of_lt Yd]at h;rw[show((i:Int)-1).toNat=i-1 by omega];exact h
  ·have:(i:Int)≠0:=by
    simp only[List.concat_eq_append,List.length_append,List.length_singleton]at hl;omega
   unfold oS;rw[decide_eq_false this,Bool.false_or];simp
theorem PT{c pre:List Int}{i n:Nat}{k:Int}(h:c.length=10)(hi:i<n)(hn:n≤10)(hp:c.take i=pre)(hz:c.drop n=List.replicate (10-n) 0):(c.set i k).length=10∧(c.set i k).take (i+1)=pre++[k]∧(c.set i k).drop n=List.replicate (10-n) 0:=
 ⟨by simp[h],by rw[List.take_add_one,List.getElem?_set_self Yd,Option.toList_some,List.take_set_of_le (Nat.le_refl _),hp],by rw[List.drop_set_of_lt hi];exact hz⟩
theorem I4(last step:Int)(hv lv mv:Value)(c pre:List Int)(n:Int)(i:Nat)(D:aA)(hs:0≤step∧step≤99)(h10:c.length=10)(hi9:i<10)(hl:pre.length=i)(hp:c.take (i+1)=pre++[n])(hb:∀x∈pre,0≤x∧x≤99)(hn:0≤n∧n≤99):
  Fn Tryz.prog 143 #[.agg #[.int .i64 last,hv,.int .i64 step,lv,mv],.agg (ints c).toArray,.int .i64 (i:Int)] D (fun _ v=>v=.bool (oS step pre.getLast? n)):=by
 have hn0:=LK hl hp;obtain⟨m,hm0,hmb,hnr⟩:=EI (step:=step) hl hp hb h10 hi9;refine enter 25 Tryz.func143 rfl rfl rfl rfl fun h0=>Zy (C.rg (Zr rfl (fun q1 E1 hE1 hB1=>Zr rfl (fun q2 E2 hE2 hB2=>Zj rfl (Zo (Zx (Zy (C.drawA [] 6 19 64448 (fun _ _ _ h=>dI (P:=Tryz.prog) (fn:=Tryz.f143) _ _ _ h) (Za rfl (eL rfl rfl rfl rfl trivial ?_))))))))));refine Za rfl ?_
 refine' eI [(false,3),(false,4),(false,5),(true,6),(true,7),(true,8),(true,9),(false,10),(true,11),(true,12),(true,13),(true,14),(true,15),(false,16),(false,17)] [(false,18)] (s:=9) (p:=24) rfl rfl (fun hg1=>?_) (fun hg1=>?_) ?_;rotate_left
 ·have hi0:(i:Int)≠0:=by simpa using hg1
  have hm1:=hm0 Yd;refine Zb rfl (bR rfl U177 Tf.s3 rfl rfl Yd Yd rfl ⟨_,rfl,rfl⟩ (fC rfl Tf.a3 rfl hB2 Ye (cJ hn0) List.not_mem_nil rfl ⟨_,rfl,rfl⟩ (Zb rfl (fW rfl rfl rfl Yf rfl ⟨_,rfl,rfl⟩ (bR rfl U177 Tf.s3 rfl rfl Yd Yd rfl ⟨_,rfl,rfl⟩ (fC rfl Tf.a3 rfl hB2 Ye (cJ hm1) List.not_mem_nil rfl ⟨_,rfl,rfl⟩ (fW rfl rfl rfl Yf rfl ⟨_,rfl,rfl⟩ (Zl rfl Tf.f32_2 rfl (Zh 2 rfl Tf.a3 rfl hB1 rfl (PF rfl rfl Yf rfl ⟨_,rfl,rfl⟩ (Zl rfl Tf.f32_2 rfl ?_)))))))))));refine Zh 2 rfl Tf.a3 rfl hB1 rfl (Ze rfl (fun D1 hD1=>cX _ _ _ _) (Zw rfl ?_));exact aF fun a w hh=>hh.cutK 14 rfl
 ·refine Zi rfl (Zi rfl (Zi rfl (Zi rfl (Zi rfl (Zi rfl (Zi rfl (Zi rfl (Zi rfl (Zi rfl (Zi rfl (Zi rfl ?_)))))))))));refine Zi rfl (Zi rfl (Zv rfl ?_));exact aF fun a w hh=>hh.cutK 14 rfl
 refine Zj rfl (Zo (Zx (aC ?_)));exact Zc [_] rfl ⟨rfl,trivial⟩ (fun D hD=>by show Value.bool _=_;rw[hnr])
def eO(br bY bc bh:Nat)(c:List Int):aB:=[(bh,.cells [.func (.func 142) #[] #[.pointer (some ⟨br,0,none⟩),.pointer (some ⟨bY,0,none⟩),.pointer (some ⟨bc,0,none⟩),.pointer (some ⟨bh,0,none⟩)]].toArray 108 (0,0)),(bc,.cells (ints c).toArray 177 (0,0))]
def sI(J Jx:List (List Int)→oU)(br bY bc bh:Nat)(step:Int)(hs:List (Int×Int))(pre:List Int)(i:Nat)(done:List (List Int))(v:Value)(J':oU)(μ':aB):Prop:=
 ∃b c',v=.bool b∧c'.length=10∧c'.take i=pre∧c'.drop hs.length=List.replicate (10-hs.length) 0∧μ'=eO br bY bc bh c'∧(if b=true then J'=J (done++(eZ step (hs.drop i) pre.getLast?).map fun t=>bQ (pre++t))else ∃p,J'=Jx p)
theorem nM{lo l:Nat}{J Jx:List (List Int)→oU}{t:aR}{xs:List (List Int)}{Dr Dy:aA}{Ds:List aA}{br bY bc bh:Nat}{hv lv mv:Value}(hto:O7 t)
  (hs:∀pre,vS lo (J pre)) (hsx:∀pre,vS lo (Jx pre)) (hY:AI Tryz.prog Dr lo l J Jx xs) (hDr:Dr∈Ds) (hDy:Dy∈Ds) (hA:At Dr br 0 [.int .i64 t.last,hv,.int .i64 t.step,lv,mv]) (hpl:Sl Dr vT 2 hv t.heights) (hB:At Dy bY 0 [.func (.yield l) #[] #[]]):
  ∀(j i:Nat) (pre c:List Int) (done rest:List (List Int)) (iv:Int),iv=i→i+j=t.heights.length→pre.length=i→c.length=10→c.take i=pre→c.drop t.heights.length=List.replicate (10-t.heights.length) 0→(∀x∈pre,0≤x∧x≤99)→
   xs=done++(eZ t.step (t.heights.drop i) pre.getLast?).map (fun t=>bQ (pre++t))++rest→
   SW Tryz.prog 142 [.int .i64 iv,.pointer (some ⟨br,0,none⟩),.pointer (some ⟨bY,0,none⟩),.pointer (some ⟨bc,0,none⟩),.pointer (some ⟨bh,0,none⟩)] lo (J done) (eO br bY bc bh c) Ds (sI J Jx br bY bc bh t.step t.heights pre i done):=by
 intro j;induction j using Nat.strongRecOn with
 |_ j ih=>
 intro i pre c done rest iv hiv hij hl h9 hp hz hpb hxs;subst hiv;have hmx:=hpl.len;have hlast:=hto.last;have hlen:=hto.len;have hn9:=hto.len10;refine xV (μ:=eO br bY bc bh c) 46 Tryz.func142 rfl rfl rfl rfl (Zy (C.rg (Zj rfl (Zo (Zx (Zy (Zy (C.rg (Za rfl (Zk rfl Tf.f32_0 rfl (Zg 0 rfl Tf.a3 rfl hA rfl ?_)))))))))));refine dO rfl rfl rfl rfl trivial (Zo (Zx (aH rfl (fun hc1=>?_) (fun hc1=>?_))))
 ·have hin:i=t.heights.length:=by omega
  subst hin;have hleaf:=(d8 (l:=pre) (by rw[hl];exact hp) (by rw[hl];exact hz))
  rw[List.drop_length]at hxs;simp only[eZ,List.map_cons,List.map_nil,List.append_nil]at hxs;rw[hleaf,List.append_assoc,List.singleton_append]at hxs;refine Zy (C.rg (Zg 0 rfl Tf.a247 rfl hB rfl (aX rfl Tf.a177 rfl (List.Mem.tail _ (List.Mem.head _)) Yt List.not_mem_nil rfl trivial (W4 (l:=l) (J1:=J (done++[c])) (J0:=Jx (done++[c])) rfl rfl rfl rfl (hs _) (hsx _) (fun D w hd hJ hb hl=>hY done c _ D w ⟨rest,hxs⟩ hd hJ (fun b hbm=>by obtain⟨p,hp,rfl⟩:=List.mem_map.1 hbm;exact hb p hp) (hl _ hDr)) rfl trivial (fun b1 J1 hJ1=>Zj rfl (Zo (Zx (aC (Zad ?_)))))))))
  exact kT (P:=Tryz.prog) (fn:=Tryz.f142) (N:=46) (vs:=[_]) rfl rfl ⟨rfl,trivial⟩ (fun D h=>⟨D,h,Le.refl D⟩) ⟨b1,c,rfl,h9,hp,hz,rfl,by cases b1<;>simp only[hJ1,if_true,Bool.false_eq_true,if_false];exact⟨_,rfl⟩;simp[eZ,hleaf]⟩
 ·have hin:i<t.heights.length:=by omega
  obtain⟨r,hri⟩:∃r,t.heights[i]?= some r:=⟨_,List.getElem?_eq_getElem hin⟩
  have hrb:=hto.hts r (List.mem_of_getElem? hri);have hrg:=lC hrb;have hsz:dY r=r.2-r.1+1:=rfl;have hd:t.heights.drop i=r::t.heights.drop (i+1):=by rw[List.drop_eq_getElem_cons hin];congr 1;exact Option.some.inj ((List.getElem?_eq_getElem hin).symm.trans hri)
  rw[hd,←y8]at hxs;refine Zac (Zx (Zy (Zy (C.rg (Zk rfl Tf.f32_1 rfl (Zg 1 rfl Tf.a29 rfl hA rfl (Za rfl (aJ rfl U29 Tf.s55 rfl hpl rfl Yd hri rfl trivial (fun b1 o1 cs1 hr1 hcl1 hA1=>?_)))))))));obtain rfl:cs1=[.int .i64 _,.int .i64 _]:=hr1;refine Zq rfl Tf.a55 rfl hA1 Tf.s55 (Zd rfl (fun D1 hD1=>AC r hrb _) (Za rfl (Zo (Zx (Zae (L5 (γ:=Nat×List Int) (fun g=>(dY r).toNat-g.1) (fun g=>g.1≤(dY r).toNat∧g.2.length=10∧g.2.take i=pre∧g.2.drop t.heights.length=List.replicate (10-t.heights.length) 0) (fun g=>J (done++Z8 t.step (t.heights.drop (i+1)) pre r g.1)) (fun g=>[(21,.int .i64 (g.1:Int))]) [(20,_),(6,_),(0,_),(1,_),(3,_),(4,_)] (fun g=>eO br bY bc bh g.2) (fun g=>Ds) (0,c) ⟨by simp,h9,hp,hz⟩ (by simp[GI]) ⟨Yb,trivial⟩ C.rs (List.Sublist.refl _) (aG) ?_))))));rintro⟨k,c1⟩ ⟨h11,h91,hp1,hz1⟩;simp only at h11 h91 hp1 hz1;refine Zy (C.rg (Zaa rfl (Zo (Zx (Zy (aH rfl (fun hc2=>?_) (fun hc2=>?_)))))))
  ·obtain⟨rr,hr⟩:=FO (step:=t.step) (rs:=t.heights.drop (i+1)) (pre:=pre) (r:=r) (k:=k) (n:=(dY r).toNat) Yd;have hset:=PT (k:=r.1+(k:Int)) h91 hin hn9 hp1 hz1;have h9s:(c1.set ((i:Int)).toNat (r.1+(k:Int))).length=10:=hset.1;have hpn:∀x∈pre++[r.1+(k:Int)],0≤x∧x≤99:=fun x hx=>by rcases List.mem_append.1 hx with hx|hx;exact hpb x hx;simp only[List.mem_singleton]at hx;omega
   refine Zac (Zx (Zy (Zae (Zy (C.rg (Za rfl (Zj rfl (Zo (Zx (Zy (C.rg ?_)))))))))));refine Za rfl (Zk rfl Tf.f32_1 rfl (Zg 1 rfl Tf.a29 rfl hA rfl (Za rfl (aJ rfl U29 Tf.s55 rfl hpl rfl Yd hri rfl trivial (fun b2 o2 cs2 hr2 hcl2 hA2=>?_)))));obtain rfl:cs2=[.int .i64 _,.int .i64 _]:=hr2;refine Zk rfl Tf.f55_0 rfl (Zg 0 rfl Tf.a3 rfl hA2 rfl (Za rfl (Zt rfl (bR rfl U177 Tf.s3 rfl rfl Yd Yd rfl trivial (wK rfl Tf.s3 rfl rfl (.tail (cY.head)) (by simp only[*];omega) trivial (Zo (Zx (Zy (C.rg (Zq rfl Tf.a32 rfl hA Tf.s32 (aX rfl Tf.a177 rfl (List.Mem.tail _ (List.Mem.head _)) Yt List.not_mem_nil rfl trivial ?_)))))))))));refine Za rfl (Zd rfl (fun D2 hD2=>I4 t.last t.step hv lv mv (c1.set i (r.1+(k:Int))) pre (r.1+(k:Int)) i _ hto.step hset.1 Yd hl hset.2.1 hpb Yd) (Za rfl (QA (γ:=Bool×List Int×oU) (fun g=>g.2.1.length=10∧g.2.1.take (i+1)=pre++[r.1+(k:Int)]∧g.2.1.drop t.heights.length=List.replicate (10-t.heights.length) 0∧(if g.1=true then ∃p,g.2.2=Jx p else g.2.2=J (done++Z8 t.step (t.heights.drop (i+1)) pre r (k+1)))) (fun g=>g.1) (fun g=>Xj 46 lo g.2.2) (fun g=>eO br bY bc bh g.2.1) [(false,5),(false,6),(false,7),(false,8),(false,9),(false,10)] [] (s:=38) (p:=44) (fun _=>rfl) rfl rfl (fun hg1=>?_) (fun hg1=>?_) ?_)))
   ·have hnear:oS t.step pre.getLast? (r.1+(k:Int))=true:=by simpa using hg1
    refine aU rfl Tf.a108 rfl (List.Mem.head _) rfl List.not_mem_nil rfl ⟨_,rfl,rfl⟩ (Zb rfl (AE rfl rfl rfl Yf rfl ⟨_,rfl,rfl⟩ (qI rfl rfl rfl rfl (ih (j-1) Yd (i+1) (pre++[r.1+(k:Int)]) (c1.set i (r.1+(k:Int))) (done++Z8 t.step (t.heights.drop (i+1)) pre r k) (rr++rest) (i+1:Int) Yd Yd Yaa (by simpa using h91) hset.2.1 hset.2.2 hpn (by rw[hxs,hr,x4 hnear];simp)) rfl ⟨_,rfl,rfl⟩ ?_)));rintro _ J2 _ ⟨b2,c2,rfl,h9',hp',hz',rfl,hJ2⟩;refine bV rfl rfl rfl ⟨_,rfl,rfl⟩ (Zv rfl ?_);exact aF fun a w hh=>⟨(!b2,c2,J2),⟨h9',hp',hz',by cases b2<;>simp only[Bool.not_true,Bool.not_false,if_true,Bool.false_eq_true,if_false]at hJ2 ⊢;exact hJ2;rw[hJ2,x4 hnear,List.append_assoc]⟩,hh.cutK 5 rfl⟩
   ·refine Zi rfl (Zi rfl (Zi rfl (Zi rfl (Zi rfl (Zw rfl ?_)))));exact aF fun a w hh=>⟨(false,c1.set i (r.1+(k:Int)),J (done++Z8 t.step (t.heights.drop (i+1)) pre r k)),⟨hset.1,hset.2.1,hset.2.2,by simp only[Bool.false_eq_true,if_false];rw[QT (by simpa using hg1)]⟩,hh.cutK 5 rfl⟩
   rintro⟨b3,c3,J3⟩ ⟨h93,hp3,hz3,hJ3⟩;simp only at h93 hp3 hz3 hJ3;refine Zo (Zx (aP rfl (fun hc3=>?_) (fun hc3=>?_)))
   ·obtain rfl:b3=true:=by simpa using hc3
    refine Zy (C.rg (Zj rfl (Zo (Zx (aC (aD (Zad (Zad (aD (Zad ?_))))))))));exact kT (P:=Tryz.prog) (fn:=Tryz.f142) (N:=46) (vs:=[_]) rfl rfl ⟨rfl,trivial⟩ (fun D h=>⟨D,h,Le.refl D⟩) ⟨false,c3,rfl,h93,L1.lK hp3 hl,hz3,rfl,by simpa using hJ3⟩
   ·obtain rfl:b3=false:=by simpa using hc3
    refine Zac (Zag (Zx (C.rg (Zt rfl (Za rfl (Zo ?_))))));exact pP 22 (k+1,c3) ⟨by simp only;omega,h93,L1.lK hp3 hl,hz3⟩ Yo (by simpa using hJ3) ⟨Yb,trivial⟩ rfl rfl (List.Sublist.refl _) (aG)
  ·refine aZ (Zaf (Zaf (aE (Zx (Zy (C.rg (Zj rfl (Zo (Zx (aC ?_))))))))));exact kT (P:=Tryz.prog) (fn:=Tryz.f142) (N:=46) (vs:=[_]) rfl rfl ⟨rfl,trivial⟩ (fun D h=>⟨D,h,Le.refl D⟩) ⟨true,c1,rfl,h91,hp1,hz1,rfl,by simp only[if_true];rw[hd,←y8,show k=(dY r).toNat by omega]⟩
theorem BH(t:aR)(Dr:aA)(br:Nat)(hv lv mv:Value)(hto:O7 t)(hA:At Dr br 0 [.int .i64 t.last,hv,.int .i64 t.step,lv,mv])(hpl:Sl Dr vT 2 hv t.heights):
  uR Tryz.prog 141 [.pointer (some ⟨br,0,none⟩)] Dr ((dK t).map bQ) Z5:=by
 refine C9 8 Tryz.func141 rfl rfl rfl rfl (fun lo l J Jx hs hsx hY=>Zy (C.rg (Zr rfl (fun q1 E1 hE1 hB1=>Zo (Zx (Zy (C.rg (Zu rfl Tf.z177 rfl (fun q2=>Zo (Zx (Zy ?_)))))))))));refine C.rg (Zu rfl Tf.z108 rfl (fun q3=>Zo (Zx (Zy (C.rg (bH rfl rfl rfl rfl trivial (aT rfl rfl rfl rfl Tf.s108 (cY.head) Ye rfl Ym trivial (Zo (Zx (C.rg (Zn rfl Tf.a108 rfl (List.Mem.head _) rfl ?_)))))))))));refine qI rfl rfl rfl rfl (nM (l:=l) hto hs hsx hY Ye Ye hA hpl hB1 t.heights.length 0 [] (List.replicate 10 0) [] [] 0 rfl Yd rfl rfl rfl (List.drop_replicate ..) (fun x hx=>by cases hx) (by simp[dK])) rfl trivial ?_;rintro _ J2 _ ⟨b2,c2,rfl,h9',hp',hz',rfl,hJ2⟩;refine Zo ?_;exact kT (P:=Tryz.prog) (fn:=Tryz.f141) (N:=8) (vs:=[]) rfl rfl trivial (fun D h=>⟨D,by simp only[List.mem_singleton]at h;subst h;simp,Le.refl D⟩) (by cases b2<;>simp[dK]at hJ2 ⊢;exact Or.inr hJ2;exact Or.inl hJ2)
theorem Z2(tv:Value)(t:aR)(D:aA)(ht:eR D tv t)(hto:O7 t):
  Fn Tryz.prog 77 #[tv] D (fun D' v=>∃br,v=.func (.func 141) #[] #[.pointer (some ⟨br,0,none⟩)]∧uR Tryz.prog 141 [.pointer (some ⟨br,0,none⟩)] D' ((dK t).map bQ) Z5):=by
 obtain⟨hv,lv,mv,rfl,hh,hl,hm⟩:=ht;refine enter 4 Tryz.func77 rfl rfl rfl rfl fun h0=>Zy (C.rg (Zr rfl (fun q1 E1 hE1 hB1=>Zj rfl (Zo (Zx (Zy (C.rg (bH rfl rfl rfl rfl trivial (Zj rfl (Zo ?_))))))))));refine Zx (aC ?_)
 exact Zc [_] rfl ⟨rfl,trivial⟩ (fun D hD=>⟨_,rfl,BH t _ q1 hv lv mv hto (hB1.up (hD _ Ye)) (hh.up vT.up (hD _ Ye))⟩)
end L2
end Go.Fs
namespace Go.Fs
open Go.Proofs
namespace L7
open C7
theorem fV{α:Type}{p:α→Bool}{xs:List α}{k:Nat}{x:α}(hx:xs[k]?= some x)(h:(xs.take k).any p=false)(hp:p x=true):idxOf p xs=k:=by
 have hk:=(List.getElem?_eq_some_iff.1 hx).1;have he:=(List.getElem?_eq_some_iff.1 hx).2;have h1:xs.any p=true:=List.any_eq_true.2 ⟨x,List.mem_of_getElem? hx,hp⟩;have h2:xs.findIdx p=k:=by
  rw[List.findIdx_eq hk];refine⟨by rw[he];exact hp,fun j hj=>?_⟩
  have:=List.any_eq_false.1 h (xs[j]'Yd) (by
   rw[List.mem_take_iff_getElem];exact⟨j,by omega,rfl⟩)
  simpa using this
 simp[idxOf,h1,h2]
theorem dX{α:Type}{p:α→Bool}{xs:List α}(h:xs.any p=false):idxOf p xs= -1:=by simp[idxOf,h]
theorem fT{α:Type}{p:α→Bool}{xs:List α}:decide (0≤idxOf p xs)=xs.any p:=by
 unfold idxOf;cases h:xs.any p<;>simp
theorem iR{α:Type}{p:α→Bool}{xs:List α}:(!xs.any fun x=> !p x)=xs.all p:=by
 rw[List.all_eq_not_any_not]
theorem cX(n lo hi:Int)(D:aA):Fn Tryz.prog 96 #[.int .i64 n,.int .i64 lo,.int .i64 hi] D (fun _ v=>v=.bool (eY n lo hi)):=by
 refine enter 15 Tryz.func96 rfl rfl rfl rfl fun h0=>Zy (C.rg (Zj rfl (Zo (Zx (Zy (C.rg (Za rfl (Za rfl (gV rfl rfl rfl rfl trivial (Za rfl ?_))))))))))
 refine' dA [(false,4),(false,5),(false,6),(false,7)] [(false,8)] (s:=10) (p:=14) rfl rfl (fun hg1=>?_) (fun hg1=>?_) ?_;rotate_left
 ·refine Zb rfl (Zb rfl (gV rfl rfl rfl rfl ⟨_,rfl,rfl⟩ (Zv rfl ?_)));exact aF fun a w hh=>hh.cutK 3 rfl
 ·refine Zi rfl (Zi rfl (Zi rfl (Zw rfl ?_)));exact aF fun a w hh=>hh.cutK 3 rfl
 refine Zj rfl (Zo (Zx (aC ?_)));exact Zc [_] rfl ⟨rfl,trivial⟩ (fun D hD=>rfl)
theorem mR(sv fv:Value)(xs:List Int)(p:Int→Bool)(D:aA)(hS:Sl D RI 1 sv xs)(hp:bM Tryz.prog D iV fv p):
  Fn Tryz.prog 248 #[sv,fv] D (fun _ v=>v=.int .i64 (idxOf p xs)):=by
 have hl:=hS.len;obtain⟨f,c1,c2,rfl,hf⟩:=hp;refine enter 19 Tryz.func248 rfl rfl rfl rfl fun h0=>Zy (C.rg (Zj rfl (Zo (Zx (Zy (Zy (C.rg (Za rfl (aY rfl U25 rfl Yl rfl rfl trivial (Za rfl ?_))))))))));refine Zo (Zx (Zae (bS (γ:=Nat) (fun k=>xs.length-k) (fun k=>k≤xs.length∧(xs.take k).any p=false) (fun k=>[(8,.int .i64 k)]) [(7,_),(4,_),(0,_),(1,_)] (fun k=>[D]) 0 Ye ⟨Yb,trivial⟩ C.rs (aG) ?_)))
 rintro k ⟨h1,h2⟩;refine Zy (C.rg (Zaa rfl (Zo (Zx (Zy (aH rfl (fun hc1=>?_) (fun hc1=>?_)))))))
 ·have hk:k<xs.length:=by omega
  obtain⟨x,hx⟩:∃x,xs[k]?= some x:=⟨_,List.getElem?_eq_getElem hk⟩
  refine Zac (Zx (Zy (Zae (Zy (C.rg (Za rfl (Zj rfl (Zo (Zx (Zy (C.rg ?_)))))))))));refine Za rfl (Za rfl (Za rfl (aJ rfl U25 Tf.s3 rfl Yl rfl Yd Yl rfl trivial (fun b1 o1 cs1 hr1 hcl1 hA1=>?_))));obtain rfl:cs1=[.int .i64 _]:=hr1;refine Zg 0 rfl Tf.a3 rfl hA1 rfl (Zd rfl (fun D1 hD1=>hf x _ (hD1 _ Ye)) (Zo (Zx (aP rfl (fun hc2=>?_) (fun hc2=>?_)))))
  ·refine Zy (C.rg (Za rfl (Zj rfl (Zo (Zx (aC (aD (Zad (Zad (aD (Zad ?_)))))))))));exact Zc [_] rfl ⟨rfl,trivial⟩ (fun D hD=>by show Value.int _ _=_;rw[fV hx h2 hc2])
  ·refine Zac (Zag (Zx (C.rg (Zt rfl (Za rfl (Zo ?_))))));have hpx:p x=false:=hc2;have h3:(xs.take (k+1)).any p=false:=by rw[List.take_add_one,hx,List.any_append,h2];simp[hpx]
   exact aN 12 (k+1) ⟨by omega,h3⟩ Yd ⟨Yb,trivial⟩ rfl rfl (List.Sublist.refl _) (aG)
 ·refine aZ (Zaf (Zaf (aE (Zx (Zy (C.rg (Zj rfl (Zo (Zx (aC ?_))))))))));exact Zc [_] rfl ⟨rfl,trivial⟩ (fun D hD=>by show Value.int _ _=_;rw[dX Yx])
theorem hZ(sv fv:Value)(xs:List Int)(p:Int→Bool)(D:aA)(hS:Sl D RI 1 sv xs)(hp:bM Tryz.prog D iV fv p):
  Fn Tryz.prog 207 #[sv,fv] D (fun _ v=>v=.bool (xs.any p)):=by
 refine enter 9 Tryz.func207 rfl rfl rfl rfl fun h0=>Zy (C.rg (Zj rfl (Zo (Zx (Zy (C.rg (Za rfl (Za rfl (Zd rfl (fun D1 hD1=>mR _ _ xs p _ (Sl.at RI.up hD1 Yl Ye) (hp.up (hD1 _ Ye))) (kX rfl rfl rfl rfl trivial ?_))))))))));refine Zj rfl (Zo (Zx (aC ?_)))
 exact Zc [_] rfl ⟨rfl,trivial⟩ (fun D hD=>by show Value.bool (decide _)=_;rw[fT])
theorem pM(b:Nat)(fv:Value)(p:Int→Bool)(x:Int)(D:aA)(hp:bM Tryz.prog D iV fv p)(hB:At D b 0 [fv]):
  Fn Tryz.prog 262 #[iV x,.pointer (some ⟨b,0,none⟩)] D (fun _ v=>v=.bool (!p x)):=by
 obtain⟨f,c1,c2,rfl,hf⟩:=hp;refine enter 8 Tryz.func262 rfl rfl rfl rfl fun h0=>Zy (C.rg (Zj rfl (Zo (Zx (Zy (C.rg (Zg 0 rfl Tf.a108 rfl hB rfl (Za rfl (Zd rfl (fun D1 hD1=>hf x _ (hD1 _ Ye)) (bV rfl rfl rfl trivial ?_))))))))));refine Zj rfl (Zo (Zx (aC ?_)))
 exact Zc [_] rfl ⟨rfl,trivial⟩ (fun D hD=>rfl)
theorem sR(sv fv:Value)(xs:List Int)(p:Int→Bool)(D:aA)(hS:Sl D RI 1 sv xs)(hp:bM Tryz.prog D iV fv p)(h1:fv.cells=#[fv]):
  Fn Tryz.prog 228 #[sv,fv] D (fun _ v=>v=.bool (xs.all p)):=by
 refine enter 9 Tryz.func228 rfl rfl rfl rfl fun h0=>Zy (C.rg (kM (vs:=[fv]) rfl rfl h1 rfl trivial (fun b D1 hD1 hB=>Zj rfl (Zo (Zx (Zy (C.rg (Za rfl (bH rfl rfl rfl rfl trivial (Zd rfl (fun D1 hD1=>hZ _ _ xs (fun x=> !p x) _ (Sl.at RI.up hD1 Yl Ye) ⟨_,[],[.pointer (some ⟨b,0,none⟩)],rfl,fun x D2 hl=>pM b fv p x D2 (hp.up ((hD1 _ Ye).trans hl)) (hB.up ((hD1 _ Ye).trans hl))⟩) ?_))))))))));refine bV rfl rfl rfl trivial (Zj rfl (Zo (Zx (aC ?_))))
 exact Zc [_] rfl ⟨rfl,trivial⟩ (fun D hD=>by show Value.bool (!_)=_;rw[iR])
theorem mU(sv fv:Value)(xs:List Ch)(p:Ch→Bool)(D:aA)(hS:Sl D qY 4 sv xs)(hp:bM Tryz.prog D SE fv p):
  Fn Tryz.prog 227 #[sv,fv] D (fun _ v=>v=.int .i64 (idxOf p xs)):=by
 have hl:=hS.len;obtain⟨f,c1,c2,rfl,hf⟩:=hp;refine enter 19 Tryz.func227 rfl rfl rfl rfl fun h0=>Zy (C.rg (Zj rfl (Zo (Zx (Zy (Zy (C.rg (Za rfl (aY rfl U37 rfl Yl rfl rfl trivial (Za rfl ?_))))))))));refine Zo (Zx (Zae (bS (γ:=Nat) (fun k=>xs.length-k) (fun k=>k≤xs.length∧(xs.take k).any p=false) (fun k=>[(8,.int .i64 k)]) [(7,_),(4,_),(0,_),(1,_)] (fun k=>[D]) 0 Ye ⟨Yb,trivial⟩ C.rs (aG) ?_)))
 rintro k ⟨h1,h2⟩;refine Zy (C.rg (Zaa rfl (Zo (Zx (Zy (aH rfl (fun hc1=>?_) (fun hc1=>?_)))))))
 ·have hk:k<xs.length:=by omega
  obtain⟨x,hx⟩:∃x,xs[k]?= some x:=⟨_,List.getElem?_eq_getElem hk⟩
  refine Zac (Zx (Zy (Zae (Zy (C.rg (Za rfl (Zj rfl (Zo (Zx (Zy (C.rg ?_)))))))))));refine Za rfl (Za rfl (Za rfl (aJ rfl U37 Tf.s148 rfl Yl rfl Yd Yl rfl trivial (fun b1 o1 cs1 hr1 hcl1 hA1=>?_))));obtain rfl:cs1=[.int .i64 _,.int .i64 _,.int .i64 _,.int .i64 _]:=hr1;refine Zq rfl Tf.a148 rfl hA1 Tf.s148 (Zd rfl (fun D1 hD1=>hf x _ (hD1 _ Ye)) (Zo (Zx (aP rfl (fun hc2=>?_) (fun hc2=>?_)))))
  ·refine Zy (C.rg (Za rfl (Zj rfl (Zo (Zx (aC (aD (Zad (Zad (aD (Zad ?_)))))))))));exact Zc [_] rfl ⟨rfl,trivial⟩ (fun D hD=>by show Value.int _ _=_;rw[fV hx h2 hc2])
  ·refine Zac (Zag (Zx (C.rg (Zt rfl (Za rfl (Zo ?_))))));have hpx:p x=false:=hc2;have h3:(xs.take (k+1)).any p=false:=by rw[List.take_add_one,hx,List.any_append,h2];simp[hpx]
   exact aN 12 (k+1) ⟨by omega,h3⟩ Yd ⟨Yb,trivial⟩ rfl rfl (List.Sublist.refl _) (aG)
 ·refine aZ (Zaf (Zaf (aE (Zx (Zy (C.rg (Zj rfl (Zo (Zx (aC ?_))))))))));exact Zc [_] rfl ⟨rfl,trivial⟩ (fun D hD=>by show Value.int _ _=_;rw[dX Yx])
theorem jY(sv fv:Value)(xs:List Ch)(p:Ch→Bool)(D:aA)(hS:Sl D qY 4 sv xs)(hp:bM Tryz.prog D SE fv p):
  Fn Tryz.prog 162 #[sv,fv] D (fun _ v=>v=.bool (xs.any p)):=by
 refine enter 9 Tryz.func162 rfl rfl rfl rfl fun h0=>Zy (C.rg (Zj rfl (Zo (Zx (Zy (C.rg (Za rfl (Za rfl (Zd rfl (fun D1 hD1=>mU _ _ xs p _ (Sl.at qY.up hD1 Yl Ye) (hp.up (hD1 _ Ye))) (kX rfl rfl rfl rfl trivial ?_))))))))));refine Zj rfl (Zo (Zx (aC ?_)))
 exact Zc [_] rfl ⟨rfl,trivial⟩ (fun D hD=>by show Value.bool (decide _)=_;rw[fT])
theorem xY(b:Nat)(fv:Value)(p:Ch→Bool)(x:Ch)(D:aA)(hp:bM Tryz.prog D SE fv p)(hB:At D b 0 [fv]):
  Fn Tryz.prog 163 #[SE x,.pointer (some ⟨b,0,none⟩)] D (fun _ v=>v=.bool (!p x)):=by
 obtain⟨f,c1,c2,rfl,hf⟩:=hp;refine enter 8 Tryz.func163 rfl rfl rfl rfl fun h0=>Zy (C.rg (Zr rfl (fun q1 E1 hE1 hB1=>Zj rfl (Zo (Zx (Zy (C.rg (Zg 0 rfl Tf.a203 rfl hB rfl (Zq rfl Tf.a148 rfl hB1 Tf.s148 (Zd rfl (fun D1 hD1=>hf x _ (hD1 _ Ye)) ?_))))))))));refine bV rfl rfl rfl trivial (Zj rfl (Zo (Zx (aC ?_))))
 exact Zc [_] rfl ⟨rfl,trivial⟩ (fun D hD=>rfl)
theorem M9(sv fv:Value)(xs:List Ch)(p:Ch→Bool)(D:aA)(hS:Sl D qY 4 sv xs)(hp:bM Tryz.prog D SE fv p)(h1:fv.cells=#[fv]):
  Fn Tryz.prog 97 #[sv,fv] D (fun _ v=>v=.bool (xs.all p)):=by
 refine enter 9 Tryz.func97 rfl rfl rfl rfl fun h0=>Zy (C.rg (kM (vs:=[fv]) rfl rfl h1 rfl trivial (fun b D1 hD1 hB=>Zj rfl (Zo (Zx (Zy (C.rg (Za rfl (bH rfl rfl rfl rfl trivial (Zd rfl (fun D1 hD1=>jY _ _ xs (fun x=> !p x) _ (Sl.at qY.up hD1 Yl Ye) ⟨_,[],[.pointer (some ⟨b,0,none⟩)],rfl,fun x D2 hl=>xY b fv p x D2 (hp.up ((hD1 _ Ye).trans hl)) (hB.up ((hD1 _ Ye).trans hl))⟩) ?_))))))))));refine bV rfl rfl rfl trivial (Zj rfl (Zo (Zx (aC ?_))))
 exact Zc [_] rfl ⟨rfl,trivial⟩ (fun D hD=>by show Value.bool (!_)=_;rw[iR])
theorem mV(sv fv:Value)(xs:List (Int×Int))(p:(Int×Int)→Bool)(D:aA)(hS:Sl D R2 2 sv xs)(hp:bM Tryz.prog D gT fv p):
  Fn Tryz.prog 230 #[sv,fv] D (fun _ v=>v=.int .i64 (idxOf p xs)):=by
 have hl:=hS.len;obtain⟨f,c1,c2,rfl,hf⟩:=hp;refine enter 19 Tryz.func230 rfl rfl rfl rfl fun h0=>Zy (C.rg (Zj rfl (Zo (Zx (Zy (Zy (C.rg (Za rfl (aY rfl U38 rfl Yl rfl rfl trivial (Za rfl ?_))))))))));refine Zo (Zx (Zae (bS (γ:=Nat) (fun k=>xs.length-k) (fun k=>k≤xs.length∧(xs.take k).any p=false) (fun k=>[(8,.int .i64 k)]) [(7,_),(4,_),(0,_),(1,_)] (fun k=>[D]) 0 Ye ⟨Yb,trivial⟩ C.rs (aG) ?_)))
 rintro k ⟨h1,h2⟩;refine Zy (C.rg (Zaa rfl (Zo (Zx (Zy (aH rfl (fun hc1=>?_) (fun hc1=>?_)))))))
 ·have hk:k<xs.length:=by omega
  obtain⟨x,hx⟩:∃x,xs[k]?= some x:=⟨_,List.getElem?_eq_getElem hk⟩
  refine Zac (Zx (Zy (Zae (Zy (C.rg (Za rfl (Zj rfl (Zo (Zx (Zy (C.rg ?_)))))))))));refine Za rfl (Za rfl (Za rfl (aJ rfl U38 Tf.s69 rfl Yl rfl Yd Yl rfl trivial (fun b1 o1 cs1 hr1 hcl1 hA1=>?_))));obtain rfl:cs1=[.int .i64 _,.int .i64 _]:=hr1;refine Zq rfl Tf.a69 rfl hA1 Tf.s69 (Zd rfl (fun D1 hD1=>hf x _ (hD1 _ Ye)) (Zo (Zx (aP rfl (fun hc2=>?_) (fun hc2=>?_)))))
  ·refine Zy (C.rg (Za rfl (Zj rfl (Zo (Zx (aC (aD (Zad (Zad (aD (Zad ?_)))))))))));exact Zc [_] rfl ⟨rfl,trivial⟩ (fun D hD=>by show Value.int _ _=_;rw[fV hx h2 hc2])
  ·refine Zac (Zag (Zx (C.rg (Zt rfl (Za rfl (Zo ?_))))));have hpx:p x=false:=hc2;have h3:(xs.take (k+1)).any p=false:=by rw[List.take_add_one,hx,List.any_append,h2];simp[hpx]
   exact aN 12 (k+1) ⟨by omega,h3⟩ Yd ⟨Yb,trivial⟩ rfl rfl (List.Sublist.refl _) (aG)
 ·refine aZ (Zaf (Zaf (aE (Zx (Zy (C.rg (Zj rfl (Zo (Zx (aC ?_))))))))));exact Zc [_] rfl ⟨rfl,trivial⟩ (fun D hD=>by show Value.int _ _=_;rw[dX Yx])
theorem jT(sv fv:Value)(xs:List (Int×Int))(p:(Int×Int)→Bool)(D:aA)(hS:Sl D R2 2 sv xs)(hp:bM Tryz.prog D gT fv p):
  Fn Tryz.prog 165 #[sv,fv] D (fun _ v=>v=.bool (xs.any p)):=by
 refine enter 9 Tryz.func165 rfl rfl rfl rfl fun h0=>Zy (C.rg (Zj rfl (Zo (Zx (Zy (C.rg (Za rfl (Za rfl (Zd rfl (fun D1 hD1=>mV _ _ xs p _ (Sl.at R2.up hD1 Yl Ye) (hp.up (hD1 _ Ye))) (kX rfl rfl rfl rfl trivial ?_))))))))));refine Zj rfl (Zo (Zx (aC ?_)))
 exact Zc [_] rfl ⟨rfl,trivial⟩ (fun D hD=>by show Value.bool (decide _)=_;rw[fT])
theorem xU(b:Nat)(fv:Value)(p:(Int×Int)→Bool)(x:(Int×Int))(D:aA)(hp:bM Tryz.prog D gT fv p)(hB:At D b 0 [fv]):
  Fn Tryz.prog 166 #[gT x,.pointer (some ⟨b,0,none⟩)] D (fun _ v=>v=.bool (!p x)):=by
 obtain⟨f,c1,c2,rfl,hf⟩:=hp;refine enter 8 Tryz.func166 rfl rfl rfl rfl fun h0=>Zy (C.rg (Zr rfl (fun q1 E1 hE1 hB1=>Zj rfl (Zo (Zx (Zy (C.rg (Zg 0 rfl Tf.a201 rfl hB rfl (Zq rfl Tf.a69 rfl hB1 Tf.s69 (Zd rfl (fun D1 hD1=>hf x _ (hD1 _ Ye)) ?_))))))))));refine bV rfl rfl rfl trivial (Zj rfl (Zo (Zx (aC ?_))))
 exact Zc [_] rfl ⟨rfl,trivial⟩ (fun D hD=>rfl)
theorem N7(sv fv:Value)(xs:List (Int×Int))(p:(Int×Int)→Bool)(D:aA)(hS:Sl D R2 2 sv xs)(hp:bM Tryz.prog D gT fv p)(h1:fv.cells=#[fv]):
  Fn Tryz.prog 99 #[sv,fv] D (fun _ v=>v=.bool (xs.all p)):=by
 refine enter 9 Tryz.func99 rfl rfl rfl rfl fun h0=>Zy (C.rg (kM (vs:=[fv]) rfl rfl h1 rfl trivial (fun b D1 hD1 hB=>Zj rfl (Zo (Zx (Zy (C.rg (Za rfl (bH rfl rfl rfl rfl trivial (Zd rfl (fun D1 hD1=>jT _ _ xs (fun x=> !p x) _ (Sl.at R2.up hD1 Yl Ye) ⟨_,[],[.pointer (some ⟨b,0,none⟩)],rfl,fun x D2 hl=>xU b fv p x D2 (hp.up ((hD1 _ Ye).trans hl)) (hB.up ((hD1 _ Ye).trans hl))⟩) ?_))))))))));refine bV rfl rfl rfl trivial (Zj rfl (Zo (Zx (aC ?_))))
 exact Zc [_] rfl ⟨rfl,trivial⟩ (fun D hD=>by show Value.bool (!_)=_;rw[iR])
theorem xX(sv:Value)(x:Int)(xs:List Int)(D:aA)(hS:Sl D RI 1 sv (x::xs)):
  Fn Tryz.prog 109 #[sv] D (fun _ v=>v=.int .i64 (xs.foldl min x)):=by
 have hl:=hS.len;simp only[List.length_cons]at hl;refine enter 25 Tryz.func109 rfl rfl rfl rfl fun h0=>Zy (C.rg (Zj rfl (Zo (Zx (Zy (Zy (C.rg (Za rfl (aY rfl U25 rfl Yl rfl rfl trivial (Zaa rfl ?_))))))))));refine Zo (Zx (aH rfl (fun hc1=>?_) (fun hc1=>?_)))
 ·exact absurd hc1 (by simp only[List.length_cons];omega)
 ·refine Zac (Zx (Zy (C.rg (Za rfl (aJ rfl U25 Tf.s3 rfl Yl rfl Yd (by rfl) rfl trivial (fun b1 o1 cs1 hr1 hcl1 hA1=>?_))))));obtain rfl:cs1=[.int .i64 _]:=hr1;refine Zg 0 rfl Tf.a3 rfl hA1 rfl (Zj rfl (Zo (Zx (Zy (Zy (C.rg (Zj rfl (Zo (Zx (Zae (bS (γ:=Nat) (fun k=>xs.length-k) (fun k=>k≤xs.length) (fun k=>[(3,.int .i64 ((xs.take k).foldl min x)),(4,.int .i64 (k+1:Int))]) [(2,_),(0,_)] (fun k=>[D]) 0 Yd ⟨Yb,Yb,trivial⟩ C.rs (aG) ?_)))))))))));rintro k h1;refine Zy (Zy (C.rg (Za rfl (Za rfl (aY rfl U25 rfl Yl rfl rfl trivial (Zaa rfl (Zo (Zx (aH rfl (fun hc2=>?_) (fun hc2=>?_))))))))))
  ·simp only[List.length_cons]at hc2;have hk:k<xs.length:=by omega
   obtain⟨y,hy⟩:∃y,xs[k]?= some y:=⟨_,List.getElem?_eq_getElem hk⟩
   have hy2:(x::xs)[(k+1:Int).toNat]?= some y:=by rw[show((k:Int)+1).toNat=k+1 by omega];simpa using hy
   refine Zac (Zx (Zy (Zae (C.rg (Za rfl (Za rfl (Za rfl (aJ rfl U25 Tf.s3 rfl Yl rfl Yd Yl rfl trivial (fun b2 o2 cs2 hr2 hcl2 hA2=>?_)))))))));obtain rfl:cs2=[.int .i64 _]:=hr2;refine Zg 0 rfl Tf.a3 rfl hA2 rfl (IC rfl rfl rfl rfl trivial (Zj rfl (Zo (Zag (Zx (C.rg (Za rfl (Zt rfl (Zj rfl (Zo ?_))))))))));have h3:(xs.take (k+1)).foldl min x=min ((xs.take k).foldl min x) y:=by rw[List.take_add_one,hy,List.foldl_append];rfl
   exact aN 16 (k+1) Yd Yd ⟨(by rw[h3];rfl),Yb,trivial⟩ rfl rfl (List.Sublist.refl _) (aG)
  ·simp only[List.length_cons]at hc2;refine aZ (Zaf (Zaf (aE (Zx (Zy (C.rg (Za rfl (Zj rfl (Zo (Zx (aC ?_)))))))))));exact Zc [_] rfl ⟨rfl,trivial⟩ (fun D hD=>by show Value.int _ _=_;rw[List.take_of_length_le Yd])
theorem iY(sv:Value)(x:Int)(xs:List Int)(D:aA)(hS:Sl D RI 1 sv (x::xs)):
  Fn Tryz.prog 104 #[sv] D (fun _ v=>v=.int .i64 (xs.foldl min x)):=by
 refine enter 5 Tryz.func104 rfl rfl rfl rfl fun h0=>Zy (C.rg (Zj rfl (Zo (Zx (Zy (C.rg (Za rfl (Zd rfl (fun D1 hD1=>xX _ x xs _ (Sl.at RI.up hD1 Yl Ye)) (Zj rfl (Zo ?_))))))))));refine Zx (aC ?_)
 exact Zc [_] rfl ⟨rfl,trivial⟩ (fun D hD=>rfl)
end L7
end Go.Fs
