/- Of the proof of TopEntered: BW13, BW14, BW15, StrMap, BW16, Acts, Line, Defer, Str, Lay, BW17. -/
import Derived.Test.YthchgbimdmiemaaGreatDoorZTopEnteredAH
import Derived.Test.YthchgbimdmiemaaGreatDoorZTopEnteredAE
import Derived.Test.YthchgbimdmiemaaGreatDoorZTopEnteredAD
import Derived.Lib.Split
import Derived.Lib.AtoiTie
import Derived.Lib.AtoiAllCases
import Derived.Lib.ItoaNum
import Derived.WideShapes
import Derived.DefersIn
import Derived.RecoverIn
import Derived.Laws.Concat
import Derived.Laws.Strings
import Derived.Below
import Derived.Test.YthchgbimdmiemaaGreatDoorZTopEnteredAA
import Derived.Shelf.Strings.Builder1
import Derived.Shelf.LaysM
import Derived.Shelf.Strconv.Itoa3
import Derived.Shelf.LaysC
import Derived.Shelf.Strconv.AtoiAll
import Derived.Shelf.Strings.Split
import Derived.Test.YthchgbimdmiemaaGreatDoorProg
namespace Go.Fs
open Go.Proofs
namespace L12
open C12
section
variable{α:Type}{f:α→List Value}{n:Nat}(hf:∀x,(f x).length=n){xs:List α}{i:Nat}
include hf
theorem pZ:((xs.drop (i+1)).flatMap f).length=(xs.length-(i+1))*n:=by rw[bB hf,List.length_drop]
theorem BC(k:Nat):(xs.flatMap f).take (k*n)=(xs.take k).flatMap f:=by
 induction xs generalizing k with
 |nil=>simp
 |cons x xs ih=>
  cases k with
  |zero=>simp
  |succ k=>
   rw[List.flatMap_cons,List.take_succ_cons,List.flatMap_cons,←ih k,show(k+1)*n=(f x).length+k*n by rw[hf,Nat.add_mul];omega,List.take_length_add_append]
theorem DJ(k:Nat):(xs.flatMap f).drop (k*n)=(xs.drop k).flatMap f:=by
 induction xs generalizing k with
 |nil=>simp
 |cons x xs ih=>
  cases k with
  |zero=>simp
  |succ k=>
   rw[List.flatMap_cons,List.drop_succ_cons,←ih k,show(k+1)*n=(f x).length+k*n by rw[hf,Nat.add_mul];omega,List.drop_length_add_append]
theorem wC{cap o:Nat}{junk:List Value}(hi:i<xs.length)(hcap:xs.length≤cap)(ho:i+1<cap→o=(i+1)*n)(_:(xs.flatMap f++junk).length=cap*n):((xs.flatMap f++junk).drop o).take ((xs.length-(i+1))*n)=(xs.drop (i+1)).flatMap f:=by
 by_cases h:i+1<xs.length
 ·rw[ho Yd,List.drop_append_of_le_length (by rw[bB hf];exact Nat.mul_le_mul_right _ Yd),DJ hf,List.take_append_of_le_length (by rw[pZ hf];exact Nat.le_refl _),List.take_of_length_le (by rw[pZ hf];exact Nat.le_refl _)]
 ·rw[show xs.length-(i+1)=0 by omega,Nat.zero_mul,List.take_zero,List.drop_eq_nil_of_le Yd];rfl
theorem qJ{junk:List Value}(hi:i<xs.length):(xs.flatMap f++junk).take (i*n)++(xs.drop (i+1)).flatMap f++(xs.flatMap f++junk).drop (i*n+(xs.length-(i+1))*n)=(xs.eraseIdx i).flatMap f++(xs.flatMap f++junk).drop ((xs.length-1)*n):=by
 rw[List.take_append_of_le_length (by rw[bB hf];exact Nat.mul_le_mul_right _ Yd),BC hf,←List.flatMap_append,←List.eraseIdx_eq_take_drop_succ,←Nat.add_mul,show i+(xs.length-(i+1))=xs.length-1 by omega]
theorem rU{cap:Nat}{junk:List Value}(hi:i<xs.length)(_:(xs.flatMap f).length=xs.length*n)(hl2:(xs.flatMap f++junk).length=cap*n)(hcap:xs.length≤cap):((xs.eraseIdx i).flatMap f++(xs.flatMap f++junk).drop ((xs.length-1)*n)).length=cap*n:=by
 have h1:(xs.length-1)*n≤cap*n:=Nat.mul_le_mul_right _ Yd;rw[List.length_append,bB hf,List.length_eraseIdx_of_lt hi,List.length_drop,hl2];omega
theorem wG{cap b e:Nat}{junk zs:List Value}{cells:List Value}(hi:i<xs.length)(hl1:(xs.flatMap f).length=xs.length*n)(hl2:(xs.flatMap f++junk).length=cap*n)(hcap:xs.length≤cap)(hz:cells=((xs.eraseIdx i).flatMap f++(xs.flatMap f++junk).drop ((xs.length-1)*n)).take ((xs.length-1)*n)++zs++((xs.eraseIdx i).flatMap f++(xs.flatMap f++junk).drop ((xs.length-1)*n)).drop ((xs.length-1)*n+zs.length))(hzl:(xs.length-1)*n+zs.length≤cap*n:=by simp;omega):
  bC e n (.slice (some ⟨b,0,none⟩) (xs.length-1) cap) (xs.length-1) ((xs.eraseIdx i).flatMap f) [(b,.cells cells.toArray e (0,0))]:=by
 have hE:((xs.eraseIdx i).flatMap f).length=(xs.length-1)*n:=by rw[bB hf,List.length_eraseIdx_of_lt hi]
 have hT:=rU hf hi hl1 hl2 hcap;subst hz;generalize hR:(xs.flatMap f++junk).drop ((xs.length-1)*n)=R at hT ⊢
 have e1:((xs.eraseIdx i).flatMap f++R).take ((xs.length-1)*n)=(xs.eraseIdx i).flatMap f:=by rw[←hE,List.take_left]
 rw[e1,List.append_assoc];refine Or.inr ⟨b,cap,_,rfl,by omega,rfl,hE,?_⟩;rw[List.length_append,List.length_append,List.length_drop,hT,hE];omega
end
theorem f7(sv:Value)(xs:List C1.oW)(i:Nat)(ν:aB)(D:aA)(ha:bC 142 3 sv xs.length (xs.flatMap cC) ν)(hi:i<xs.length):O8 Tryz.prog 239 [sv,.int .i64 (i:Int),.int .i64 ((i+1:Nat):Int)] D ν (fun _ v ν'=>bC 142 3 v (xs.length-1) ((xs.eraseIdx i).flatMap cC) ν'):=by
 obtain⟨b,cap,junk,rfl,hcap,rfl,hl1,hl2⟩:=ha.some Yd;refine gI 33 Tryz.func239 rfl rfl rfl rfl (fun h0 hwl hwn=>Zy (C.rg (Zj rfl (Zo (Zx (Zy (C.rg (Za rfl (Za rfl (Za rfl (Za rfl ?_)))))))))));refine hC rfl U26 rfl rfl rfl trivial (u7 (l:=i) (h:=i+1) (m:=xs.length) rfl U26 Tf.s142 rfl rfl rfl rfl Yd Yd hcap rfl trivial (fun v3=>Zo (Zx (Zy (Zy (C.rg (Za rfl (Za rfl (eL rfl rfl rfl rfl trivial (Zo (Zx ?_)))))))))));refine aH rfl (fun hc1=>?_) (fun hc1=>?_)
 ·exact absurd hc1 Yd
 ·refine Zac (Zx (Zy (C.rg (Za rfl (hC rfl U26 rfl rfl rfl trivial (Zj rfl (Zo (Zx (Zy (C.drawA [] 2 8 58 (fun _ _ _ h=>dF (P:=Tryz.prog) (fn:=Tryz.f239) _ _ _ h) (Za rfl ?_)))))))))));refine Za rfl (y2 (i:=i) rfl U26 Tf.s142 rfl rfl Yd rfl trivial (Za rfl (Za rfl (u0 (j:=i+1) rfl U26 Tf.s142 rfl rfl Yd rfl trivial (fun o ho=>nW (A:=[]) (B:=[]) (sz:=3) (xs:=(xs.drop (i+1)).flatMap cC) rfl U26 rfl rfl Tf.s142 rfl rfl (wC (f:=cC) (fun _=>rfl) hi hcap ho hl2) (pZ (f:=cC) (fun _=>rfl)) Yd Yy (eF R5 _) (Or.inl rfl) rfl trivial ?_)))));rw[show i+(xs.length-(i+1))=xs.length-1 by omega];refine aI [(b,.cells ((xs.eraseIdx i).flatMap cC++(xs.flatMap cC++junk).drop ((xs.length-1)*3)).toArray 142 (0,0))] (by rw[List.nil_append,qJ (f:=cC) (fun _=>rfl) hi]) (Zj rfl (Zo (Zx (Zy (C.rg (Za rfl (Za rfl (hC rfl U26 rfl rfl rfl trivial (Za rfl (w0 (l:=xs.length-1) (h:=xs.length) rfl U26 Tf.s142 rfl rfl rfl Yd hcap Yd rfl trivial ?_))))))))));rw[show xs.length-(xs.length-1)=1 by omega];refine tE (A:=[]) (B:=[]) (zs:=[.bool false,.int .i64 0,.int .i64 0]) rfl rfl U26 rfl Tf.z142 rfl Yd Yg (by rw[rU (f:=cC) (fun _=>rfl) hi hl1 hl2 hcap];simp;omega) Ym trivial (Zo (Zx (Zy (C.rg (Za rfl (Zj rfl (Zo (Zx (aC ?_)))))))))
  exact eV (A:=[]) (ν':=[_]) (B:=[]) (vs:=[_]) rfl rfl rfl ⟨rfl,trivial⟩ rfl (fun D hD=>wG (f:=cC) (fun _=>rfl) hi hl1 hl2 hcap rfl)
theorem Z9(sv:Value)(xs:List C2.Mk)(i:Nat)(ν:aB)(D:aA)(ha:bC 144 4 sv xs.length (xs.flatMap cM) ν)(hi:i<xs.length):O8 Tryz.prog 241 [sv,.int .i64 (i:Int),.int .i64 ((i+1:Nat):Int)] D ν (fun _ v ν'=>bC 144 4 v (xs.length-1) ((xs.eraseIdx i).flatMap cM) ν'):=by
 obtain⟨b,cap,junk,rfl,hcap,rfl,hl1,hl2⟩:=ha.some Yd;refine gI 33 Tryz.func241 rfl rfl rfl rfl (fun h0 hwl hwn=>Zy (C.rg (Zj rfl (Zo (Zx (Zy (C.rg (Za rfl (Za rfl (Za rfl (Za rfl ?_)))))))))));refine hC rfl U30 rfl rfl rfl trivial (u7 (l:=i) (h:=i+1) (m:=xs.length) rfl U30 Tf.s144 rfl rfl rfl rfl Yd Yd hcap rfl trivial (fun v3=>Zo (Zx (Zy (Zy (C.rg (Za rfl (Za rfl (eL rfl rfl rfl rfl trivial (Zo (Zx ?_)))))))))));refine aH rfl (fun hc1=>?_) (fun hc1=>?_)
 ·exact absurd hc1 Yd
 ·refine Zac (Zx (Zy (C.rg (Za rfl (hC rfl U30 rfl rfl rfl trivial (Zj rfl (Zo (Zx (Zy (C.drawA [] 2 8 58 (fun _ _ _ h=>dF (P:=Tryz.prog) (fn:=Tryz.f241) _ _ _ h) (Za rfl ?_)))))))))));refine Za rfl (y2 (i:=i) rfl U30 Tf.s144 rfl rfl Yd rfl trivial (Za rfl (Za rfl (u0 (j:=i+1) rfl U30 Tf.s144 rfl rfl Yd rfl trivial (fun o ho=>nW (A:=[]) (B:=[]) (sz:=4) (xs:=(xs.drop (i+1)).flatMap cM) rfl U30 rfl rfl Tf.s144 rfl rfl (wC (f:=cM) (fun _=>rfl) hi hcap ho hl2) (pZ (f:=cM) (fun _=>rfl)) Yd Yy (eF S4 _) (Or.inl rfl) rfl trivial ?_)))));rw[show i+(xs.length-(i+1))=xs.length-1 by omega];refine aI [(b,.cells ((xs.eraseIdx i).flatMap cM++(xs.flatMap cM++junk).drop ((xs.length-1)*4)).toArray 144 (0,0))] (by rw[List.nil_append,qJ (f:=cM) (fun _=>rfl) hi]) (Zj rfl (Zo (Zx (Zy (C.rg (Za rfl (Za rfl (hC rfl U30 rfl rfl rfl trivial (Za rfl (w0 (l:=xs.length-1) (h:=xs.length) rfl U30 Tf.s144 rfl rfl rfl Yd hcap Yd rfl trivial ?_))))))))));rw[show xs.length-(xs.length-1)=1 by omega];refine tE (A:=[]) (B:=[]) (zs:=[.int .i64 0,.int .i64 0,.int .i64 0,.int .i64 0]) rfl rfl U30 rfl Tf.z144 rfl Yd Yg (by rw[rU (f:=cM) (fun _=>rfl) hi hl1 hl2 hcap];simp;omega) Ym trivial (Zo (Zx (Zy (C.rg (Za rfl (Zj rfl (Zo (Zx (aC ?_)))))))))
  exact eV (A:=[]) (ν':=[_]) (B:=[]) (vs:=[_]) rfl rfl rfl ⟨rfl,trivial⟩ rfl (fun D hD=>wG (f:=cM) (fun _=>rfl) hi hl1 hl2 hcap rfl)
theorem e5(sv:Value)(xs:List C3.iD)(i:Nat)(ν:aB)(D:aA)(ha:bC 134 3 sv xs.length (xs.flatMap cL) ν)(hi:i<xs.length):O8 Tryz.prog 243 [sv,.int .i64 (i:Int),.int .i64 ((i+1:Nat):Int)] D ν (fun _ v ν'=>bC 134 3 v (xs.length-1) ((xs.eraseIdx i).flatMap cL) ν'):=by
 obtain⟨b,cap,junk,rfl,hcap,rfl,hl1,hl2⟩:=ha.some Yd;refine gI 33 Tryz.func243 rfl rfl rfl rfl (fun h0 hwl hwn=>Zy (C.rg (Zj rfl (Zo (Zx (Zy (C.rg (Za rfl (Za rfl (Za rfl (Za rfl ?_)))))))))));refine hC rfl U33 rfl rfl rfl trivial (u7 (l:=i) (h:=i+1) (m:=xs.length) rfl U33 Tf.s134 rfl rfl rfl rfl Yd Yd hcap rfl trivial (fun v3=>Zo (Zx (Zy (Zy (C.rg (Za rfl (Za rfl (eL rfl rfl rfl rfl trivial (Zo (Zx ?_)))))))))));refine aH rfl (fun hc1=>?_) (fun hc1=>?_)
 ·exact absurd hc1 Yd
 ·refine Zac (Zx (Zy (C.rg (Za rfl (hC rfl U33 rfl rfl rfl trivial (Zj rfl (Zo (Zx (Zy (C.drawA [] 2 8 58 (fun _ _ _ h=>dF (P:=Tryz.prog) (fn:=Tryz.f243) _ _ _ h) (Za rfl ?_)))))))))));refine Za rfl (y2 (i:=i) rfl U33 Tf.s134 rfl rfl Yd rfl trivial (Za rfl (Za rfl (u0 (j:=i+1) rfl U33 Tf.s134 rfl rfl Yd rfl trivial (fun o ho=>nW (A:=[]) (B:=[]) (sz:=3) (xs:=(xs.drop (i+1)).flatMap cL) rfl U33 rfl rfl Tf.s134 rfl rfl (wC (f:=cL) (fun _=>rfl) hi hcap ho hl2) (pZ (f:=cL) (fun _=>rfl)) Yd Yy (eF Z6 _) (Or.inl rfl) rfl trivial ?_)))));rw[show i+(xs.length-(i+1))=xs.length-1 by omega];refine aI [(b,.cells ((xs.eraseIdx i).flatMap cL++(xs.flatMap cL++junk).drop ((xs.length-1)*3)).toArray 134 (0,0))] (by rw[List.nil_append,qJ (f:=cL) (fun _=>rfl) hi]) (Zj rfl (Zo (Zx (Zy (C.rg (Za rfl (Za rfl (hC rfl U33 rfl rfl rfl trivial (Za rfl (w0 (l:=xs.length-1) (h:=xs.length) rfl U33 Tf.s134 rfl rfl rfl Yd hcap Yd rfl trivial ?_))))))))));rw[show xs.length-(xs.length-1)=1 by omega];refine tE (A:=[]) (B:=[]) (zs:=[.int .i64 0,.int .i64 0,.int .i64 0]) rfl rfl U33 rfl Tf.z134 rfl Yd Yg (by rw[rU (f:=cL) (fun _=>rfl) hi hl1 hl2 hcap];simp;omega) Ym trivial (Zo (Zx (Zy (C.rg (Za rfl (Zj rfl (Zo (Zx (aC ?_)))))))))
  exact eV (A:=[]) (ν':=[_]) (B:=[]) (vs:=[_]) rfl rfl rfl ⟨rfl,trivial⟩ rfl (fun D hD=>wG (f:=cL) (fun _=>rfl) hi hl1 hl2 hcap rfl)
theorem n9(sv:Value)(xs:List (Int×Int))(i:Nat)(ν:aB)(D:aA)(ha:bC 69 2 sv xs.length (xs.flatMap cP) ν)(hi:i<xs.length):O8 Tryz.prog 244 [sv,.int .i64 (i:Int),.int .i64 ((i+1:Nat):Int)] D ν (fun _ v ν'=>bC 69 2 v (xs.length-1) ((xs.eraseIdx i).flatMap cP) ν'):=by
 obtain⟨b,cap,junk,rfl,hcap,rfl,hl1,hl2⟩:=ha.some Yd;refine gI 33 Tryz.func244 rfl rfl rfl rfl (fun h0 hwl hwn=>Zy (C.rg (Zj rfl (Zo (Zx (Zy (C.rg (Za rfl (Za rfl (Za rfl (Za rfl ?_)))))))))));refine hC rfl U38 rfl rfl rfl trivial (u7 (l:=i) (h:=i+1) (m:=xs.length) rfl U38 Tf.s69 rfl rfl rfl rfl Yd Yd hcap rfl trivial (fun v3=>Zo (Zx (Zy (Zy (C.rg (Za rfl (Za rfl (eL rfl rfl rfl rfl trivial (Zo (Zx ?_)))))))))));refine aH rfl (fun hc1=>?_) (fun hc1=>?_)
 ·exact absurd hc1 Yd
 ·refine Zac (Zx (Zy (C.rg (Za rfl (hC rfl U38 rfl rfl rfl trivial (Zj rfl (Zo (Zx (Zy (C.drawA [] 2 8 58 (fun _ _ _ h=>dF (P:=Tryz.prog) (fn:=Tryz.f244) _ _ _ h) (Za rfl ?_)))))))))));refine Za rfl (y2 (i:=i) rfl U38 Tf.s69 rfl rfl Yd rfl trivial (Za rfl (Za rfl (u0 (j:=i+1) rfl U38 Tf.s69 rfl rfl Yd rfl trivial (fun o ho=>nW (A:=[]) (B:=[]) (sz:=2) (xs:=(xs.drop (i+1)).flatMap cP) rfl U38 rfl rfl Tf.s69 rfl rfl (wC (f:=cP) (fun _=>rfl) hi hcap ho hl2) (pZ (f:=cP) (fun _=>rfl)) Yd Yy (eF yY _) (Or.inl rfl) rfl trivial ?_)))));rw[show i+(xs.length-(i+1))=xs.length-1 by omega];refine aI [(b,.cells ((xs.eraseIdx i).flatMap cP++(xs.flatMap cP++junk).drop ((xs.length-1)*2)).toArray 69 (0,0))] (by rw[List.nil_append,qJ (f:=cP) (fun _=>rfl) hi]) (Zj rfl (Zo (Zx (Zy (C.rg (Za rfl (Za rfl (hC rfl U38 rfl rfl rfl trivial (Za rfl (w0 (l:=xs.length-1) (h:=xs.length) rfl U38 Tf.s69 rfl rfl rfl Yd hcap Yd rfl trivial ?_))))))))));rw[show xs.length-(xs.length-1)=1 by omega];refine tE (A:=[]) (B:=[]) (zs:=[.int .i64 0,.int .i64 0]) rfl rfl U38 rfl Tf.z69 rfl Yd Yg (by rw[rU (f:=cP) (fun _=>rfl) hi hl1 hl2 hcap];simp;omega) Ym trivial (Zo (Zx (Zy (C.rg (Za rfl (Zj rfl (Zo (Zx (aC ?_)))))))))
  exact eV (A:=[]) (ν':=[_]) (B:=[]) (vs:=[_]) rfl rfl rfl ⟨rfl,trivial⟩ rfl (fun D hD=>wG (f:=cP) (fun _=>rfl) hi hl1 hl2 hcap rfl)
end L12
end Go.Fs
namespace Go.Fs
open Go.Proofs
namespace L12
open C12
theorem iP{e sz n:Nat}{cells:List Value}{v:Value}{ν:aB}(ha:bC e sz v n cells ν):∀p∈ν,cB p.2:=by
 intro p hp;rcases ha with⟨_,_,_,_,rfl⟩|⟨b,cap,junk,_,_,rfl,_⟩
 ·cases hp
 ·simp only[List.mem_singleton]at hp;subst hp;rfl
theorem Y5(wb:Nat)(s:aK)(pv cv hv lv mv bl bc yc yq nv:Value)(a:Int)(ν:aB)(D:aA)(hn:Sl D RI 1 nv [a])(ha:bC 142 3 cv s.row.counts.length (s.row.counts.flatMap cC) ν)(hsm:s.row.counts.length≤100)(ha0:0≤a):iL Tryz.prog 181 [.pointer (some ⟨wb,0,none⟩),nv] D ((wb,.cells (bG s pv cv hv lv mv bl bc yc yq).toArray 236 (0,0))::ν) (fun _ _ ν'=>a<(s.row.counts.length:Int)∧∃v1 ν1,ν'=(wb,.cells (bG s pv v1 hv lv mv bl bc yc yq).toArray 236 (0,0))::ν1∧bC 142 3 v1 (s.row.counts.length-1) ((s.row.counts.eraseIdx a.toNat).flatMap cC) ν1) (fun v=>(s.row.counts.length:Int)≤a∧v=dE 7):=by
 obtain⟨bt,ot,ct,rfl⟩:=fX hn Ye;obtain⟨i,rfl⟩:∃i:Nat,a=(i:Int):=⟨a.toNat,by omega⟩
 have hbt:=iW hn;refine dJ 34 Tryz.func181 rfl rfl rfl rfl (fun h0 hwl hwn=>Zy (C.drawPA [] 7 11 1016 (fun _ _ _ _ he h=>bW (P:=Tryz.prog) (fn:=Tryz.f181) _ _ _ _ he h) (Za rfl (aO rfl U25 Tf.s3 rfl hn rfl Yd rfl rfl trivial (fun cs1 hr1 hcl1 hA1=>?_)))));obtain rfl:cs1=[.int .i64 _]:=hr1;refine Zg 0 rfl Tf.a3 rfl hA1 rfl (Za rfl (Zab rfl (Zk rfl Tf.f236_0 rfl (Zk rfl Tf.f42_0 rfl (Zk rfl Tf.f28_1 rfl (Zn rfl Tf.a26 rfl (List.Mem.head _) rfl (dH rfl U26 rfl ha rfl rfl trivial (Zf [(_,_)] ν [] rfl (Or.inr (fun p hp=>by cases hp)) (fun p hp=>by cases hp) (fun D5 hD5=>gD (i:Int) (s.row.counts.length:Int) _) (fun v5 D6 hD5 hp5=>bK (P:=Tryz.prog) (fn:=Tryz.f181) rfl ⟨hp5.1,hp5.2⟩) (fun v5 D6 ν5 hD5 hp5=>?_)))))))));obtain⟨hf5,rfl⟩:=hp5;refine Zo (Zx (gO hbt Ye (fun hap=>oM (fun hnd=>?_))));have hnu:=iI hap hnd;have hwbo:wb∉jD.mk [bt,wb]:=jD.out Ye;have hbto:bt∉jD.mk [bt,wb]:=jD.out Ye;refine C.drawPA (jD.mk [bt,wb]) 4 20 32766 (fun _ _ _ _ he h=>bW (P:=Tryz.prog) (fn:=Tryz.f181) _ _ _ _ he h) (Za rfl (Za rfl (Zab rfl (Zk rfl Tf.f236_0 rfl (Zk rfl Tf.f42_0 rfl (Zk rfl Tf.f28_1 rfl (aU rfl Tf.a26 rfl (List.Mem.head _) rfl Yk rfl trivial (Za rfl (aO rfl U25 Tf.s3 rfl hn rfl Yd rfl rfl trivial (fun cs2 hr2 hcl2 hA2=>?_))))))))));obtain rfl:cs2=[.int .i64 _]:=hr2;refine bP rfl (k:=0) Tf.a3 rfl hA2 Yc rfl Yk rfl trivial (Za rfl (aO rfl U25 Tf.s3 rfl hn rfl Yd rfl rfl trivial (fun cs3 hr3 hcl3 hA3=>?_)));obtain rfl:cs3=[.int .i64 _]:=hr3;refine bP rfl (k:=0) Tf.a3 rfl hA3 Yc rfl Yk rfl trivial (Zt rfl (aI ((wb,.cells (bG s pv cv hv lv mv bl bc yc yq).toArray 236 (0,0))::ν) rfl (aI ((wb,.cells (bG s pv cv hv lv mv bl bc yc yq).toArray 236 (0,0))::ν++[]) (List.append_nil _).symm (iQ (A:=[(wb,.cells (bG s pv cv hv lv mv bl bc yc yq).toArray 236 (0,0))]) (ν:=ν) (B:=[]) rfl rfl rfl rfl Yn (iP ha) (fun D7 hD7=>f7 _ s.row.counts i ν _ ha Yd) rfl trivial (fun v7 D8 ν7 hD8 hp7=>aI ((wb,.cells (bG s pv cv hv lv mv bl bc yc yq).toArray 236 (0,0))::ν7) (List.append_nil _) (Zab rfl (Zk rfl Tf.f236_0 rfl (Zk rfl Tf.f42_0 rfl (Zk rfl Tf.f28_1 rfl (aT (ws:=(bG s pv v7 hv lv mv bl bc yc yq)) rfl rfl rfl hp7.cells1 Tf.s26 .head Ye rfl hp7.cell1 trivial (Zo ?_)))))))))));refine fun a w hh=>dC (P:=Tryz.prog) (fn:=Tryz.f181) (A:=[]) (ν':=((wb,_)::ν7)) (B:=[]) (vs:=[]) rfl rfl rfl trivial (fun D' hD=>⟨hf5,v7,ν7,rfl,hp7⟩) a w (hh.boxesEq (List.append_nil _).symm)
theorem g7(wb:Nat)(s:aK)(pv cv hv lv mv bl bc yc yq nv:Value)(a:Int)(ν:aB)(D:aA)(hn:Sl D RI 1 nv [a])(ha:bC 144 4 mv s.table.marks.length (s.table.marks.flatMap cM) ν)(hsm:s.table.marks.length≤100)(ha0:0≤a):iL Tryz.prog 189 [.pointer (some ⟨wb,0,none⟩),nv] D ((wb,.cells (bG s pv cv hv lv mv bl bc yc yq).toArray 236 (0,0))::ν) (fun _ _ ν'=>a<(s.table.marks.length:Int)∧∃v1 ν1,ν'=(wb,.cells (bG s pv cv hv lv v1 bl bc yc yq).toArray 236 (0,0))::ν1∧bC 144 4 v1 (s.table.marks.length-1) ((s.table.marks.eraseIdx a.toNat).flatMap cM) ν1) (fun v=>(s.table.marks.length:Int)≤a∧v=dE 7):=by
 obtain⟨bt,ot,ct,rfl⟩:=fX hn Ye;obtain⟨i,rfl⟩:∃i:Nat,a=(i:Int):=⟨a.toNat,by omega⟩
 have hbt:=iW hn;refine dJ 34 Tryz.func189 rfl rfl rfl rfl (fun h0 hwl hwn=>Zy (C.drawPA [] 7 11 1016 (fun _ _ _ _ he h=>bW (P:=Tryz.prog) (fn:=Tryz.f189) _ _ _ _ he h) (Za rfl (aO rfl U25 Tf.s3 rfl hn rfl Yd rfl rfl trivial (fun cs1 hr1 hcl1 hA1=>?_)))));obtain rfl:cs1=[.int .i64 _]:=hr1;refine Zg 0 rfl Tf.a3 rfl hA1 rfl (Za rfl (Zab rfl (Zk rfl Tf.f236_0 rfl (Zk rfl Tf.f42_1 rfl (Zk rfl Tf.f32_4 rfl (Zn rfl Tf.a30 rfl (List.Mem.head _) rfl (dH rfl U30 rfl ha rfl rfl trivial (Zf [(_,_)] ν [] rfl (Or.inr (fun p hp=>by cases hp)) (fun p hp=>by cases hp) (fun D5 hD5=>gD (i:Int) (s.table.marks.length:Int) _) (fun v5 D6 hD5 hp5=>bK (P:=Tryz.prog) (fn:=Tryz.f189) rfl ⟨hp5.1,hp5.2⟩) (fun v5 D6 ν5 hD5 hp5=>?_)))))))));obtain⟨hf5,rfl⟩:=hp5;refine Zo (Zx (gO hbt Ye (fun hap=>oM (fun hnd=>?_))));have hnu:=iI hap hnd;have hwbo:wb∉jD.mk [bt,wb]:=jD.out Ye;have hbto:bt∉jD.mk [bt,wb]:=jD.out Ye;refine C.drawPA (jD.mk [bt,wb]) 4 20 32766 (fun _ _ _ _ he h=>bW (P:=Tryz.prog) (fn:=Tryz.f189) _ _ _ _ he h) (Za rfl (Za rfl (Zab rfl (Zk rfl Tf.f236_0 rfl (Zk rfl Tf.f42_1 rfl (Zk rfl Tf.f32_4 rfl (aU rfl Tf.a30 rfl (List.Mem.head _) rfl Yk rfl trivial (Za rfl (aO rfl U25 Tf.s3 rfl hn rfl Yd rfl rfl trivial (fun cs2 hr2 hcl2 hA2=>?_))))))))));obtain rfl:cs2=[.int .i64 _]:=hr2;refine bP rfl (k:=0) Tf.a3 rfl hA2 Yc rfl Yk rfl trivial (Za rfl (aO rfl U25 Tf.s3 rfl hn rfl Yd rfl rfl trivial (fun cs3 hr3 hcl3 hA3=>?_)));obtain rfl:cs3=[.int .i64 _]:=hr3;refine bP rfl (k:=0) Tf.a3 rfl hA3 Yc rfl Yk rfl trivial (Zt rfl (aI ((wb,.cells (bG s pv cv hv lv mv bl bc yc yq).toArray 236 (0,0))::ν) rfl (aI ((wb,.cells (bG s pv cv hv lv mv bl bc yc yq).toArray 236 (0,0))::ν++[]) (List.append_nil _).symm (iQ (A:=[(wb,.cells (bG s pv cv hv lv mv bl bc yc yq).toArray 236 (0,0))]) (ν:=ν) (B:=[]) rfl rfl rfl rfl Yn (iP ha) (fun D7 hD7=>Z9 _ s.table.marks i ν _ ha Yd) rfl trivial (fun v7 D8 ν7 hD8 hp7=>aI ((wb,.cells (bG s pv cv hv lv mv bl bc yc yq).toArray 236 (0,0))::ν7) (List.append_nil _) (Zab rfl (Zk rfl Tf.f236_0 rfl (Zk rfl Tf.f42_1 rfl (Zk rfl Tf.f32_4 rfl (aT (ws:=(bG s pv cv hv lv v7 bl bc yc yq)) rfl rfl rfl hp7.cells1 Tf.s30 .head Ye rfl hp7.cell1 trivial (Zo ?_)))))))))));refine fun a w hh=>dC (P:=Tryz.prog) (fn:=Tryz.f189) (A:=[]) (ν':=((wb,_)::ν7)) (B:=[]) (vs:=[]) rfl rfl rfl trivial (fun D' hD=>⟨hf5,v7,ν7,rfl,hp7⟩) a w (hh.boxesEq (List.append_nil _).symm)
theorem n5(wb:Nat)(s:aK)(pv cv hv lv mv bl bc yc yq nv:Value)(a:Int)(ν:aB)(D:aA)(hn:Sl D RI 1 nv [a])(ha:bC 134 3 bl s.book.lines.length (s.book.lines.flatMap cL) ν)(hsm:s.book.lines.length≤100)(ha0:0≤a):iL Tryz.prog 193 [.pointer (some ⟨wb,0,none⟩),nv] D ((wb,.cells (bG s pv cv hv lv mv bl bc yc yq).toArray 236 (0,0))::ν) (fun _ _ ν'=>a<(s.book.lines.length:Int)∧∃v1 ν1,ν'=(wb,.cells (bG s pv cv hv lv mv v1 bc yc yq).toArray 236 (0,0))::ν1∧bC 134 3 v1 (s.book.lines.length-1) ((s.book.lines.eraseIdx a.toNat).flatMap cL) ν1) (fun v=>(s.book.lines.length:Int)≤a∧v=dE 7):=by
 obtain⟨bt,ot,ct,rfl⟩:=fX hn Ye;obtain⟨i,rfl⟩:∃i:Nat,a=(i:Int):=⟨a.toNat,by omega⟩
 have hbt:=iW hn;refine dJ 34 Tryz.func193 rfl rfl rfl rfl (fun h0 hwl hwn=>Zy (C.drawPA [] 7 11 1016 (fun _ _ _ _ he h=>bW (P:=Tryz.prog) (fn:=Tryz.f193) _ _ _ _ he h) (Za rfl (aO rfl U25 Tf.s3 rfl hn rfl Yd rfl rfl trivial (fun cs1 hr1 hcl1 hA1=>?_)))));obtain rfl:cs1=[.int .i64 _]:=hr1;refine Zg 0 rfl Tf.a3 rfl hA1 rfl (Za rfl (Zab rfl (Zk rfl Tf.f236_0 rfl (Zk rfl Tf.f42_2 rfl (Zk rfl Tf.f36_3 rfl (Zn rfl Tf.a33 rfl (List.Mem.head _) rfl (dH rfl U33 rfl ha rfl rfl trivial (Zf [(_,_)] ν [] rfl (Or.inr (fun p hp=>by cases hp)) (fun p hp=>by cases hp) (fun D5 hD5=>gD (i:Int) (s.book.lines.length:Int) _) (fun v5 D6 hD5 hp5=>bK (P:=Tryz.prog) (fn:=Tryz.f193) rfl ⟨hp5.1,hp5.2⟩) (fun v5 D6 ν5 hD5 hp5=>?_)))))))));obtain⟨hf5,rfl⟩:=hp5;refine Zo (Zx (gO hbt Ye (fun hap=>oM (fun hnd=>?_))));have hnu:=iI hap hnd;have hwbo:wb∉jD.mk [bt,wb]:=jD.out Ye;have hbto:bt∉jD.mk [bt,wb]:=jD.out Ye;refine C.drawPA (jD.mk [bt,wb]) 4 20 32766 (fun _ _ _ _ he h=>bW (P:=Tryz.prog) (fn:=Tryz.f193) _ _ _ _ he h) (Za rfl (Za rfl (Zab rfl (Zk rfl Tf.f236_0 rfl (Zk rfl Tf.f42_2 rfl (Zk rfl Tf.f36_3 rfl (aU rfl Tf.a33 rfl (List.Mem.head _) rfl Yk rfl trivial (Za rfl (aO rfl U25 Tf.s3 rfl hn rfl Yd rfl rfl trivial (fun cs2 hr2 hcl2 hA2=>?_))))))))));obtain rfl:cs2=[.int .i64 _]:=hr2;refine bP rfl (k:=0) Tf.a3 rfl hA2 Yc rfl Yk rfl trivial (Za rfl (aO rfl U25 Tf.s3 rfl hn rfl Yd rfl rfl trivial (fun cs3 hr3 hcl3 hA3=>?_)));obtain rfl:cs3=[.int .i64 _]:=hr3;refine bP rfl (k:=0) Tf.a3 rfl hA3 Yc rfl Yk rfl trivial (Zt rfl (aI ((wb,.cells (bG s pv cv hv lv mv bl bc yc yq).toArray 236 (0,0))::ν) rfl (aI ((wb,.cells (bG s pv cv hv lv mv bl bc yc yq).toArray 236 (0,0))::ν++[]) (List.append_nil _).symm (iQ (A:=[(wb,.cells (bG s pv cv hv lv mv bl bc yc yq).toArray 236 (0,0))]) (ν:=ν) (B:=[]) rfl rfl rfl rfl Yn (iP ha) (fun D7 hD7=>e5 _ s.book.lines i ν _ ha Yd) rfl trivial (fun v7 D8 ν7 hD8 hp7=>aI ((wb,.cells (bG s pv cv hv lv mv bl bc yc yq).toArray 236 (0,0))::ν7) (List.append_nil _) (Zab rfl (Zk rfl Tf.f236_0 rfl (Zk rfl Tf.f42_2 rfl (Zk rfl Tf.f36_3 rfl (aT (ws:=(bG s pv cv hv lv mv v7 bc yc yq)) rfl rfl rfl hp7.cells1 Tf.s33 .head Ye rfl hp7.cell1 trivial (Zo ?_)))))))))));refine fun a w hh=>dC (P:=Tryz.prog) (fn:=Tryz.f193) (A:=[]) (ν':=((wb,_)::ν7)) (B:=[]) (vs:=[]) rfl rfl rfl trivial (fun D' hD=>⟨hf5,v7,ν7,rfl,hp7⟩) a w (hh.boxesEq (List.append_nil _).symm)
theorem Q0(wb:Nat)(s:aK)(pv cv hv lv mv bl bc yc yq nv:Value)(a:Int)(ν:aB)(D:aA)(hn:Sl D RI 1 nv [a])(ha:bC 69 2 yq s.yard.claims.length (s.yard.claims.flatMap cP) ν)(hsm:s.yard.claims.length≤100)(ha0:0≤a):iL Tryz.prog 198 [.pointer (some ⟨wb,0,none⟩),nv] D ((wb,.cells (bG s pv cv hv lv mv bl bc yc yq).toArray 236 (0,0))::ν) (fun _ _ ν'=>a<(s.yard.claims.length:Int)∧∃v1 ν1,ν'=(wb,.cells (bG s pv cv hv lv mv bl bc yc v1).toArray 236 (0,0))::ν1∧bC 69 2 v1 (s.yard.claims.length-1) ((s.yard.claims.eraseIdx a.toNat).flatMap cP) ν1) (fun v=>(s.yard.claims.length:Int)≤a∧v=dE 7):=by
 obtain⟨bt,ot,ct,rfl⟩:=fX hn Ye;obtain⟨i,rfl⟩:∃i:Nat,a=(i:Int):=⟨a.toNat,by omega⟩
 have hbt:=iW hn;refine dJ 34 Tryz.func198 rfl rfl rfl rfl (fun h0 hwl hwn=>Zy (C.drawPA [] 7 11 1016 (fun _ _ _ _ he h=>bW (P:=Tryz.prog) (fn:=Tryz.f198) _ _ _ _ he h) (Za rfl (aO rfl U25 Tf.s3 rfl hn rfl Yd rfl rfl trivial (fun cs1 hr1 hcl1 hA1=>?_)))));obtain rfl:cs1=[.int .i64 _]:=hr1;refine Zg 0 rfl Tf.a3 rfl hA1 rfl (Za rfl (Zab rfl (Zk rfl Tf.f236_0 rfl (Zk rfl Tf.f42_3 rfl (Zk rfl Tf.f40_2 rfl (Zn rfl Tf.a38 rfl (List.Mem.head _) rfl (dH rfl U38 rfl ha rfl rfl trivial (Zf [(_,_)] ν [] rfl (Or.inr (fun p hp=>by cases hp)) (fun p hp=>by cases hp) (fun D5 hD5=>gD (i:Int) (s.yard.claims.length:Int) _) (fun v5 D6 hD5 hp5=>bK (P:=Tryz.prog) (fn:=Tryz.f198) rfl ⟨hp5.1,hp5.2⟩) (fun v5 D6 ν5 hD5 hp5=>?_)))))))));obtain⟨hf5,rfl⟩:=hp5;refine Zo (Zx (gO hbt Ye (fun hap=>oM (fun hnd=>?_))));have hnu:=iI hap hnd;have hwbo:wb∉jD.mk [bt,wb]:=jD.out Ye;have hbto:bt∉jD.mk [bt,wb]:=jD.out Ye;refine C.drawPA (jD.mk [bt,wb]) 4 20 32766 (fun _ _ _ _ he h=>bW (P:=Tryz.prog) (fn:=Tryz.f198) _ _ _ _ he h) (Za rfl (Za rfl (Zab rfl (Zk rfl Tf.f236_0 rfl (Zk rfl Tf.f42_3 rfl (Zk rfl Tf.f40_2 rfl (aU rfl Tf.a38 rfl (List.Mem.head _) rfl Yk rfl trivial (Za rfl (aO rfl U25 Tf.s3 rfl hn rfl Yd rfl rfl trivial (fun cs2 hr2 hcl2 hA2=>?_))))))))));obtain rfl:cs2=[.int .i64 _]:=hr2;refine bP rfl (k:=0) Tf.a3 rfl hA2 Yc rfl Yk rfl trivial (Za rfl (aO rfl U25 Tf.s3 rfl hn rfl Yd rfl rfl trivial (fun cs3 hr3 hcl3 hA3=>?_)));obtain rfl:cs3=[.int .i64 _]:=hr3;refine bP rfl (k:=0) Tf.a3 rfl hA3 Yc rfl Yk rfl trivial (Zt rfl (aI ((wb,.cells (bG s pv cv hv lv mv bl bc yc yq).toArray 236 (0,0))::ν) rfl (aI ((wb,.cells (bG s pv cv hv lv mv bl bc yc yq).toArray 236 (0,0))::ν++[]) (List.append_nil _).symm (iQ (A:=[(wb,.cells (bG s pv cv hv lv mv bl bc yc yq).toArray 236 (0,0))]) (ν:=ν) (B:=[]) rfl rfl rfl rfl Yn (iP ha) (fun D7 hD7=>n9 _ s.yard.claims i ν _ ha Yd) rfl trivial (fun v7 D8 ν7 hD8 hp7=>aI ((wb,.cells (bG s pv cv hv lv mv bl bc yc yq).toArray 236 (0,0))::ν7) (List.append_nil _) (Zab rfl (Zk rfl Tf.f236_0 rfl (Zk rfl Tf.f42_3 rfl (Zk rfl Tf.f40_2 rfl (aT (ws:=(bG s pv cv hv lv mv bl bc yc v7)) rfl rfl rfl hp7.cells1 Tf.s38 .head Ye rfl hp7.cell1 trivial (Zo ?_)))))))))));refine fun a w hh=>dC (P:=Tryz.prog) (fn:=Tryz.f198) (A:=[]) (ν':=((wb,_)::ν7)) (B:=[]) (vs:=[]) rfl rfl rfl trivial (fun D' hD=>⟨hf5,v7,ν7,rfl,hp7⟩) a w (hh.boxesEq (List.append_nil _).symm)
end L12
end Go.Fs
namespace Go.Fs
open Go.Proofs
namespace L12
open C12
theorem QI{D:aA}{bt ot n ct:Nat}{a b c d:Int}(h:Sl D RI 1 (.slice (some ⟨bt,ot,none⟩) n ct) [a,b,c,d]):At D bt (ot+1) [.int .i64 b,.int .i64 c,.int .i64 d]:=by
  obtain⟨x,cap,hv,h1,h2,h3⟩:=h;cases hv;rcases h3 with h3|⟨b',o,ha,h3⟩
  · cases h3
  · cases ha;intro j v hj;have key:∀(i:Nat) (z:Int),[a,b,c,d][i]?= some z→(D bt)[ot+i]?= some (.int .i64 z):=fun i z hi=>by
      obtain⟨cs,hr,hc,hA⟩:=h3 i z hi;obtain rfl:cs=[.int .i64 z]:=hr;have:=hA 0 _ rfl;simpa using this
    match j with
    | 0 => obtain rfl : Value.int .i64 b = v := by simpa using hj
           exact key 1 b rfl
    | 1 => obtain rfl : Value.int .i64 c = v := by simpa using hj
           exact key 2 c rfl
    | 2 => obtain rfl : Value.int .i64 d = v := by simpa using hj
           exact key 3 d rfl
    |j+3=>simp at hj
theorem r3(wb:Nat)(s:aK)(pv cv hv lv mv bl bc yc yq nv:Value)(a b c d:Int)(ν:aB)(D:aA)(hn:Sl D RI 1 nv [a,b,c,d])(ha:bC 148 4 yc s.yard.chairs.length (s.yard.chairs.flatMap cH) ν)(hsm:s.yard.chairs.length≤100):iL Tryz.prog 194 [.pointer (some ⟨wb,0,none⟩),nv] D ((wb,.cells (bG s pv cv hv lv mv bl bc yc yq).toArray 236 (0,0))::ν) (fun _ _ ν'=>((a≤9∧max (max b c) d≤2)∧(s.yard.chairs.length:Int)<5)∧∃v1 ν1,ν'=(wb,.cells (bG s pv cv hv lv mv bl bc v1 yq).toArray 236 (0,0))::ν1∧bC 148 4 v1 (s.yard.chairs.length+1) ((s.yard.chairs++[(⟨a,⟨b,c,d⟩⟩:C7.Ch)]).flatMap cH) ν1) (fun v=>((9<a∨2<max (max b c) d)∧v=dE 2)∨((a≤9∧max (max b c) d≤2)∧5≤(s.yard.chairs.length:Int)∧v=dE 3)):=by
 obtain⟨bt,ot,ct,rfl⟩:=fX hn Ye;have hbt:=iW hn;refine dJ 43 Tryz.func194 rfl rfl rfl rfl (fun h0 hwl hwn=>Zy (C.drawPA [] 5 10 240 (fun _ _ _ _ he h=>bW (P:=Tryz.prog) (fn:=Tryz.f194) _ _ _ _ he h) (Za rfl (aO rfl U25 Tf.s3 rfl hn rfl Yd rfl rfl trivial (fun cs1 hr1 hcl1 hA1=>?_)))));obtain rfl:cs1=[.int .i64 _]:=hr1;refine Zg 0 rfl Tf.a3 rfl hA1 rfl (dO rfl rfl rfl rfl trivial (Za rfl (Q2 (j:=1) rfl U25 Tf.s3 rfl hn rfl Ye rfl trivial (fun hsT=>Zd rfl (fun D3 hD3=>L2.KV _ b [c,d] _ (hsT.up RI.up (hD3 _ Ye))) (dO rfl rfl rfl rfl trivial (Zm rfl U277 Tf.s4 Tf.z4 rfl rfl rfl rfl (.cons rfl rfl (.cons rfl rfl .nil)) (fun b901 D901 hD901 hA901=>Zf [(_,_)] ν [] rfl (Or.inr (fun p hp=>by cases hp)) (fun p hp=>by cases hp) (fun D5 hD5=>dG 2 [decide (9<a),decide (2<max (max b c) d)] _ _ ((eD (l:=[decide (9<a),decide (2<max (max b c) d)]) (fun _ _ _ h=>h) hA901 Ye).up RB.up (hD5 _ Ye))) (fun v5 D6 hD5 hp5=>bK (P:=Tryz.prog) (fn:=Tryz.f194) rfl (Or.inl ⟨by simpa only[List.any_cons,List.any_nil,Bool.or_false,Bool.true_beq,Bool.or_eq_true,decide_eq_true_eq]using hp5.1,hp5.2⟩)) (fun v5 D6 ν5 hD5 hp5=>?_))))))));obtain⟨hf50,rfl⟩:=hp5;have hf5:a≤9∧max (max b c) d≤2:=by simp only[List.any_cons,List.any_nil,Bool.or_false,Bool.true_beq,Bool.or_eq_false_iff,decide_eq_false_iff_not,Int.not_lt]at hf50;exact hf50
 refine Zo (Zx (Zy (C.rg (Za rfl (Zab rfl (Zk rfl Tf.f236_0 rfl (Zk rfl Tf.f42_3 rfl (Zk rfl Tf.f40_0 rfl (Zn rfl Tf.a37 rfl (List.Mem.head _) rfl (dH rfl U37 rfl ha rfl rfl trivial (Zf [(_,_)] ν [] rfl (Or.inr (fun p hp=>by cases hp)) (fun p hp=>by cases hp) (fun D7 hD7=>oA (s.yard.chairs.length:Int) 5 _) (fun v7 D8 hD7 hp7=>bK (P:=Tryz.prog) (fn:=Tryz.f194) rfl (Or.inr ⟨hf5,hp7.1,hp7.2⟩)) (fun v7 D8 ν7 hD7 hp7=>?_))))))))))));obtain⟨hf7,rfl⟩:=hp7;refine Zo (Zx (gO hbt Ye (fun hap=>oM (fun hnd=>?_))));have hnu:=iI hap hnd;have hwbo:wb∉jD.mk [bt,wb]:=jD.out Ye;have hbto:bt∉jD.mk [bt,wb]:=jD.out Ye;refine C.drawPA (jD.mk [bt,wb]) 4 22 131070 (fun _ _ _ _ he h=>bW (P:=Tryz.prog) (fn:=Tryz.f194) _ _ _ _ he h) (Za rfl (Za rfl (Zab rfl (Zk rfl Tf.f236_0 rfl (Zk rfl Tf.f42_3 rfl (Zk rfl Tf.f40_0 rfl (aU rfl Tf.a37 rfl (List.Mem.head _) rfl Yk rfl trivial (Za rfl (aO rfl U25 Tf.s3 rfl hn rfl Yd rfl rfl trivial (fun cs2 hr2 hcl2 hA2=>?_))))))))));obtain rfl:cs2=[.int .i64 _]:=hr2;refine bP rfl (k:=0) Tf.a3 rfl hA2 Yc rfl Yk rfl trivial (Za rfl (Q2 (j:=1) rfl U25 Tf.s3 rfl hn rfl Ye rfl trivial (fun hsU=>OW rfl U146 rfl Ye rfl trivial (cU rfl Tf.a146 rfl (QI hn) Ye Tf.s146 hbto rfl trivial (Zp [.int .i64 a,.int .i64 b,.int .i64 c,.int .i64 d] rfl Tf.p148 Tf.z148 rfl rfl (Zm rfl U37 Tf.s148 Tf.z148 rfl rfl rfl rfl (.cons rfl rfl .nil) (fun b902 D902 hD902 hA902=>aI ((wb,.cells (bG s pv cv hv lv mv bl bc yc yq).toArray 236 (0,0))::ν) rfl (aI ((wb,.cells (bG s pv cv hv lv mv bl bc yc yq).toArray 236 (0,0))::ν++[]) (List.append_nil _).symm (aS (A:=[(wb,.cells (bG s pv cv hv lv mv bl bc yc yq).toArray 236 (0,0))]) (B:=[]) rfl U37 rfl rfl Tf.s148 Tf.z148 rfl Tf.i148 rfl rfl rfl ha (iG.lit hA902) Ye rfl (bB (n:=4) (fun _=>rfl) _) Ym Yd Yn rfl trivial (fun v1 ν1 ha1=>aI ((wb,.cells (bG s pv cv hv lv mv bl bc yc yq).toArray 236 (0,0))::ν1) (List.append_nil _) ?_))))))))));have ha2:bC 148 4 v1 (s.yard.chairs.length+1) ((s.yard.chairs++[(⟨a,⟨b,c,d⟩⟩:C7.Ch)]).flatMap cH) ν1:=by rw[List.flatMap_append,List.flatMap_singleton];exact ha1
 refine Zab rfl (Zk rfl Tf.f236_0 rfl (Zk rfl Tf.f42_3 rfl (Zk rfl Tf.f40_0 rfl (aT (ws:=(bG s pv cv hv lv mv bl bc v1 yq)) rfl rfl rfl ha1.cells1 Tf.s37 .head Ye rfl ha1.cell1 trivial (Zo ?_)))));refine fun a w hh=>dC (P:=Tryz.prog) (fn:=Tryz.f194) (A:=[]) (ν':=((wb,_)::ν1)) (B:=[]) (vs:=[]) rfl rfl rfl trivial (fun D' hD=>⟨⟨hf5,hf7⟩,v1,ν1,rfl,ha2⟩) a w (hh.boxesEq (List.append_nil _).symm)
end L12
end Go.Fs
namespace Go.Fs
variable{P:Program}{X:Cx}{γb:Type}[Membership Nat γb]{bad:γb}{all:Array Oper}{K:Act→World→Prop}{Q:Exit→Act→World→Prop}
variable{σ:bF}{μ:aB}{Ds:List aA}{os:List (Bool×Nat)}{fl:Bool}{ix:Nat}
variable{d:Nat}{x y z:Operand}{u v:Value}{ty:TypeId}{pos:String}{aft:Array Edge}{g:Option (Nat×Bool)}
def FA(es:Array MapEntry)(M:List (ByteArray×Value)):Prop:=es.toList.map (fun e=>(e.key,e.val))=M.map fun p=>(Value.string p.1,p.2)
def uI(s:ByteArray):List (ByteArray×Value)→Nat→Option (Nat×Value)
 | [],_=>none
 |(b,v)::M,i=>if(s==b)=true then some (i,v)else uI s M (i+1)
theorem vQ(s:ByteArray):∀(es:List MapEntry) (M:List (ByteArray×Value)) (i:Nat),es.map (fun e=>(e.key,e.val))=M.map (fun p=>(Value.string p.1,p.2))→Instr.findNow .string (.string s) es i=some (uI s M i)
 | [],[],i,_=>rfl
 | [],_::_,i,h=>by simp at h
 |_::_,[],i,h=>by simp at h
 |e::es,(b,v)::M,i,h=>by
  simp only[List.map_cons,List.cons.injEq,Prod.mk.injEq]at h;obtain⟨⟨hk,hv⟩,h⟩:=h;simp only[Instr.findNow,hk,Instr.sameNow,uI];cases hb:s==b with
  |true=>simp[hv]
  |false=>simpa using vQ s es M (i+1) h
theorem oT{k:TypeId}(ht:P.underlying k=some .string)(s:ByteArray)(w:World){es:List MapEntry}{M:List (ByteArray×Value)}(h:es.map (fun e=>(e.key,e.val))=M.map (fun p=>(Value.string p.1,p.2))):(Instr.findKey k (.string s) es).run P w=.ok (uI s M 0) w:=by
 unfold Instr.findKey;rw[Sem.run_bind,TU.of ht w];simp only[Result.andThen_ok,vQ s es M 0 h,Sem.run_pure]
theorem nH{k:TypeId}(ht:P.underlying k=some .string)(em:Bool)(s:ByteArray)(w:World):(Instr.checkKey em 10000 k (.string s)).run P w=.ok () w:=by
 show(Instr.checkKey em (9999+1) k (.string s)).run P w=_;rw[Instr.checkKey,Sem.run_bind,TU.of ht w];rfl
def KL(s:ByteArray)(M:List (ByteArray×Value))(z0:Value):Value:=match uI s M 0 with
 |some (_,v)=>v
 |none=>z0
theorem vB{t k e:TypeId}{b clock:Nat}{es:Array MapEntry}{M:List (ByteArray×Value)}{s:ByteArray}(ho:all[ix]?= some ⟨some d,.lookup t x y true,ty,pos,aft,g⟩)(ht:P.underlying t=some (.map k e))(hk:P.underlying k=some .string){z0:Value}(hz:TZ P e z0)
  (hx:ev σ x=some (.map (some b))) (hy:ev σ y=some (.string s)) (hm:(b,Obj.map es clock)∈μ) (hb:b∉bad) (hM:FA es M) (hN:Nat.blt d X.N=true) (hg:cR all σ g)
  (kk:WL P X bad all K Q os ((d,.tuple #[KL s M z0,.bool (uI s M 0).isSome])::σ) μ Ds):WL P X bad all K Q ((fl,ix)::os) σ μ Ds:=by
 have run:∀w,w.heap[b]?= some (Obj.map es clock)→(Instr.lookup t (.map (some b)) (.string s) true).run P w=.ok (.tuple #[KL s M z0,.bool (uI s M 0).isSome]) w:=by
  intro w hw;unfold KL;have hf:=oT hk s w hM;unfold Instr.lookup;simp only[Sem.run_bind,TU.of ht w,Result.andThen_ok,iU hw,Sem.run_pure,nH hk];rw[hf];cases uI s M 0 with
  |none=>simp only[Result.andThen_ok,Sem.run_bind,hz w,Sem.run_pure];rfl
  |some r=>obtain⟨j,v⟩:=r;simp only[Result.andThen_ok];rfl
 refine kE ho rfl rfl hN hg (fun a' w hh w' hk'=>?_) kk;simp only[execOp,hh.eval hx,hh.eval hy,Sem.run_bind,run w' (hh.boxAt hm hb hk'),Result.andThen_ok,Sem.run_pure]
theorem bI{t k e:TypeId}{b clock:Nat}{es:Array MapEntry}{M:List (ByteArray×Value)}{s:ByteArray}{A B:aB}(ho:all[ix]?= some ⟨none,.insert t x y z,ty,pos,aft,g⟩)(ht:P.underlying t=some (.map k e))(hk:P.underlying k=some .string)
  (hx:ev σ x=some (.map (some b))) (hy:ev σ y=some (.string s)) (hz:ev σ z=some v) (hM:FA es M) (hnew:uI s M 0=none) (hg:cR all σ g)
  (kk:∀es' clock',FA es' (M++[(s,v)])→WL P X bad all K Q os σ (A++(b,.map es' clock')::B) Ds):WL P X bad all K Q ((false,ix)::os) σ (A++(b,.map es clock)::B) Ds:=by
 refine dW ho rfl rfl hg fun a' w hh=>?_
 obtain⟨h1,h2,h3,D,h4,h5,h6⟩:=id hh;have hw:=(h4.box (b,.map es clock) Ye).1;have hf:=oT hk s w hM;have hset:∀o,(setObj b o).run P w=.ok () {w with heap:=w.heap.setIfInBounds b o}:=fun o=>by simp[setObj,Sem.run,hw]
 have hr:(Instr.mapUpdate t (.map (some b)) (.string s) v).run P w=.ok () {w with heap:=w.heap.setIfInBounds b (.map (es.push {key:=.string s,val:=v,born:=clock}) (clock+1))}:=by
  unfold Instr.mapUpdate;simp only[Sem.run_bind,TU.of ht w,Result.andThen_ok,iU hw,nH hk];rw[hf,hnew];simp only[Result.andThen_ok,hset]
 have hHas:cY (A++(b,Obj.map es clock)::B) b (.map es clock) (.map (es.push {key:=.string s,val:=v,born:=clock}) (clock+1)) (A++(b,.map (es.push {key:=.string s,val:=v,born:=clock}) (clock+1))::B):=.app .head;have hs:=h4.set (w':={w with heap:=w.heap.setIfInBounds b (.map (es.push {key:=.string s,val:=v,born:=clock}) (clock+1))}) hHas ⟨rfl,rfl⟩ trivial;have:(execOp a'.eval ⟨none,.insert t x y z,ty,pos,aft,g⟩).run P w=.ok .skip {w with heap:=w.heap.setIfInBounds b (.map (es.push {key:=.string s,val:=v,born:=clock}) (clock+1))}:=by
  simp only[execOp,hh.eval hx,hh.eval hy,hh.eval hz,Sem.run_bind,hr,Result.andThen_ok,Sem.run_pure]
 rw[this];refine⟨fun h=>by simp at h,kk _ _ ?_ _ _ ⟨h1,h2,h3,D,hs,h5,h6.step (fun _ p hp=>Or.inl Yr) (fun _=>gL ⟨rfl,rfl⟩ (List.mem_map.2 ⟨_,hHas.mem,rfl⟩)) hs.dom⟩⟩;unfold FA at hM ⊢
 rw[Array.toList_push,List.map_append,List.map_append,hM];rfl
theorem Fn.of_alloc{f:FuncId}{args:Array Value}{D:aA}{cs:List Value}{e:TypeId}{r:Nat→Value}{post:aA→Value→Prop}(hEF:EF P f)
  (h:∀w,dD D w→Calls P f args w fun en w'=>en=.returned (r w.heap.size)∧w'=w.alloc (.cells cs.toArray e (0,0))) (hp:∀D' b,Le D D'→At D' b 0 cs→post D' (r b)):Fn P f args D post:=by
 refine⟨hEF,fun w hw=>(h w hw).mono ?_⟩;rintro en w' ⟨he,rfl⟩;have hst:fA (hd w) w.heap.size D [] [] D w:=⟨Nat.le_refl _,Nat.le_refl _,(fun _ _ _=>rfl),(fun _ _=>rfl),hw,(fun p hp=>by cases hp),List.nodup_nil,(fun p hp=>by cases hp),fun e he=>Option.some.inj he⟩
 obtain⟨D',hle,hb, -,hs⟩:=hst.pushD cs e;have hA:At D' w.heap.size 0 cs:=fun j v hv=>by rw[hb];simpa using hv
 exact⟨_,D',he,hs,hp D' _ hle hA⟩
end Go.Fs
namespace Go.Fs
open Go.Proofs
namespace L12
open C12
def L0:List (ByteArray×Value):=[(⟨#[112,108,97,99,101]⟩,.agg #[.int .i64 0,.func (.func 177) #[] #[]]),(⟨#[115,101,101,110]⟩,.agg #[.int .i64 2,.func (.func 178) #[] #[]]),(⟨#[99,111,117,110,116]⟩,.agg #[.int .i64 2,.func (.func 179) #[] #[]]),(⟨#[98,97,99,107]⟩,.agg #[.int .i64 2,.func (.func 180) #[] #[]]),(⟨#[117,110,99,111,117,110,116]⟩,.agg #[.int .i64 1,.func (.func 181) #[] #[]]),(⟨#[119,114,111,110,103]⟩,.agg #[.int .i64 1,.func (.func 182) #[] #[]]),(⟨#[111,102,102]⟩,.agg #[.int .i64 1,.func (.func 183) #[] #[]]),(⟨#[116,105,100,101]⟩,.agg #[.int .i64 3,.func (.func 184) #[] #[]]),(⟨#[115,116,101,112]⟩,.agg #[.int .i64 1,.func (.func 185) #[] #[]]),(⟨#[108,101,118,101,108]⟩,.agg #[.int .i64 1,.func (.func 186) #[] #[]]),(⟨#[114,97,105,115,101]⟩,.agg #[.int .i64 2,.func (.func 187) #[] #[]]),(⟨#[109,97,114,107]⟩,.agg #[.int .i64 4,.func (.func 188) #[] #[]]),(⟨#[117,110,109,97,114,107]⟩,.agg #[.int .i64 1,.func (.func 189) #[] #[]]),(⟨#[104,105,114,101]⟩,.agg #[.int .i64 2,.func (.func 190) #[] #[]]),(⟨#[98,114,105,110,103]⟩,.agg #[.int .i64 2,.func (.func 191) #[] #[]]),(⟨#[115,109,117,100,103,101]⟩,.agg #[.int .i64 1,.func (.func 192) #[] #[]]),(⟨#[115,116,114,105,107,101]⟩,.agg #[.int .i64 1,.func (.func 193) #[] #[]]),(⟨#[98,114,111,107,101,110]⟩,.agg #[.int .i64 4,.func (.func 194) #[] #[]]),(⟨#[112,97,114,116]⟩,.agg #[.int .i64 3,.func (.func 195) #[] #[]]),(⟨#[102,105,116]⟩,.agg #[.int .i64 1,.func (.func 196) #[] #[]]),(⟨#[99,108,97,105,109]⟩,.agg #[.int .i64 2,.func (.func 197) #[] #[]]),(⟨#[117,110,99,108,97,105,109]⟩,.agg #[.int .i64 1,.func (.func 198) #[] #[]])]
theorem X4(D:aA):y4 Tryz.prog 120 #[] D (fun _ v ν=>∃b es cl,v=.map (some b)∧ν=[(b,.map es cl)]∧FA es L0):=by
 refine mS 25 Tryz.func120 rfl rfl rfl rfl fun h0=>Zy (C.rg (Zj rfl (Zo (Zx (Zy (C.rg (tY rfl rfl trivial (fun qm=>?_))))))))
 have hM0:FA #[] []:=rfl;refine Zp [.int .i64 0,.func (.func 177) #[] #[]] rfl Tf.p228 Tf.z228 rfl rfl (bI (A:=[]) (B:=[]) rfl U230 U9 rfl rfl rfl hM0 Yg trivial (fun es1 cl1 hM1=>Zp [.int .i64 2,.func (.func 178) #[] #[]] rfl Tf.p228 Tf.z228 rfl rfl (bI (A:=[]) (B:=[]) rfl U230 U9 rfl rfl rfl hM1 Yg trivial (fun es2 cl2 hM2=>Zp [.int .i64 2,.func (.func 179) #[] #[]] rfl Tf.p228 Tf.z228 rfl rfl (bI (A:=[]) (B:=[]) rfl U230 U9 rfl rfl rfl hM2 Yg trivial (fun es3 cl3 hM3=>Zp [.int .i64 2,.func (.func 180) #[] #[]] rfl Tf.p228 Tf.z228 rfl rfl (bI (A:=[]) (B:=[]) rfl U230 U9 rfl rfl rfl hM3 Yg trivial (fun es4 cl4 hM4=>Zp [.int .i64 1,.func (.func 181) #[] #[]] rfl Tf.p228 Tf.z228 rfl rfl (bI (A:=[]) (B:=[]) rfl U230 U9 rfl rfl rfl hM4 Yg trivial (fun es5 cl5 hM5=>Zp [.int .i64 1,.func (.func 182) #[] #[]] rfl Tf.p228 Tf.z228 rfl rfl (bI (A:=[]) (B:=[]) rfl U230 U9 rfl rfl rfl hM5 Yg trivial (fun es6 cl6 hM6=>?_))))))))))));refine Zp [.int .i64 1,.func (.func 183) #[] #[]] rfl Tf.p228 Tf.z228 rfl rfl (bI (A:=[]) (B:=[]) rfl U230 U9 rfl rfl rfl hM6 Yg trivial (fun es7 cl7 hM7=>Zp [.int .i64 3,.func (.func 184) #[] #[]] rfl Tf.p228 Tf.z228 rfl rfl (bI (A:=[]) (B:=[]) rfl U230 U9 rfl rfl rfl hM7 Yg trivial (fun es8 cl8 hM8=>Zp [.int .i64 1,.func (.func 185) #[] #[]] rfl Tf.p228 Tf.z228 rfl rfl (bI (A:=[]) (B:=[]) rfl U230 U9 rfl rfl rfl hM8 Yg trivial (fun es9 cl9 hM9=>Zp [.int .i64 1,.func (.func 186) #[] #[]] rfl Tf.p228 Tf.z228 rfl rfl (bI (A:=[]) (B:=[]) rfl U230 U9 rfl rfl rfl hM9 Yg trivial (fun es10 cl10 hM10=>Zp [.int .i64 2,.func (.func 187) #[] #[]] rfl Tf.p228 Tf.z228 rfl rfl (bI (A:=[]) (B:=[]) rfl U230 U9 rfl rfl rfl hM10 Yg trivial (fun es11 cl11 hM11=>Zp [.int .i64 4,.func (.func 188) #[] #[]] rfl Tf.p228 Tf.z228 rfl rfl (bI (A:=[]) (B:=[]) rfl U230 U9 rfl rfl rfl hM11 Yg trivial (fun es12 cl12 hM12=>?_))))))))))));refine Zp [.int .i64 1,.func (.func 189) #[] #[]] rfl Tf.p228 Tf.z228 rfl rfl (bI (A:=[]) (B:=[]) rfl U230 U9 rfl rfl rfl hM12 Yg trivial (fun es13 cl13 hM13=>Zp [.int .i64 2,.func (.func 190) #[] #[]] rfl Tf.p228 Tf.z228 rfl rfl (bI (A:=[]) (B:=[]) rfl U230 U9 rfl rfl rfl hM13 Yg trivial (fun es14 cl14 hM14=>Zp [.int .i64 2,.func (.func 191) #[] #[]] rfl Tf.p228 Tf.z228 rfl rfl (bI (A:=[]) (B:=[]) rfl U230 U9 rfl rfl rfl hM14 Yg trivial (fun es15 cl15 hM15=>Zp [.int .i64 1,.func (.func 192) #[] #[]] rfl Tf.p228 Tf.z228 rfl rfl (bI (A:=[]) (B:=[]) rfl U230 U9 rfl rfl rfl hM15 Yg trivial (fun es16 cl16 hM16=>Zp [.int .i64 1,.func (.func 193) #[] #[]] rfl Tf.p228 Tf.z228 rfl rfl (bI (A:=[]) (B:=[]) rfl U230 U9 rfl rfl rfl hM16 Yg trivial (fun es17 cl17 hM17=>Zp [.int .i64 4,.func (.func 194) #[] #[]] rfl Tf.p228 Tf.z228 rfl rfl (bI (A:=[]) (B:=[]) rfl U230 U9 rfl rfl rfl hM17 Yg trivial (fun es18 cl18 hM18=>?_))))))))))));refine Zp [.int .i64 3,.func (.func 195) #[] #[]] rfl Tf.p228 Tf.z228 rfl rfl (bI (A:=[]) (B:=[]) rfl U230 U9 rfl rfl rfl hM18 Yg trivial (fun es19 cl19 hM19=>Zp [.int .i64 1,.func (.func 196) #[] #[]] rfl Tf.p228 Tf.z228 rfl rfl (bI (A:=[]) (B:=[]) rfl U230 U9 rfl rfl rfl hM19 Yg trivial (fun es20 cl20 hM20=>Zp [.int .i64 2,.func (.func 197) #[] #[]] rfl Tf.p228 Tf.z228 rfl rfl (bI (A:=[]) (B:=[]) rfl U230 U9 rfl rfl rfl hM20 Yg trivial (fun es21 cl21 hM21=>Zp [.int .i64 1,.func (.func 198) #[] #[]] rfl Tf.p228 Tf.z228 rfl rfl (bI (A:=[]) (B:=[]) rfl U230 U9 rfl rfl rfl hM21 Yg trivial (fun es22 cl22 hM22=>Za rfl (Zj rfl (Zo (Zx ?_)))))))))));refine aC ?_;exact Zc [_] rfl ⟨rfl,trivial⟩ (fun D hD=>⟨qm,es22,cl22,rfl,rfl,hM22⟩)
end L12
end Go.Fs
namespace Go.Fs
namespace C12
abbrev eJ:=aK→List Int→Except Int aK
def setRow(s:aK)(r:C1.cS):aK:={s with row:=r}
def setTable(s:aK)(t:C2.aR):aK:={s with table:=t}
def setBook(s:aK)(b:C3.eU):aK:={s with book:=b}
def setYard(s:aK)(y:C7.bO):aK:={s with yard:=y}
def x3(p:C7.Pt)(i:Nat)(v:Int):C7.Pt:=if i=0 then {p with a:=v}else if i=1 then {p with b:=v}else {p with c:=v}
def uL:eJ:=fun s _=>if 7≤(s.row.places.length:Int)then .error 3 else .ok (setRow s {s.row with places:=s.row.places++[2]})
def rC:eJ:=fun s n=>match n with
 | [a,b]=>if(s.row.places.length:Int)≤a then .error 7 else if 2<b then .error 2 else .ok (setRow s {s.row with places:=s.row.places.set a.toNat b})
 |_=>.error 4
def kR(back:Bool):eJ:=fun s n=>match n with
 | [a,b]=>if(s.row.places.length:Int)<a∨9<b then .error 2 else if 6≤(s.row.counts.length:Int)then .error 3 else .ok (setRow s {s.row with counts:=s.row.counts++[⟨back,a,b⟩]})
 |_=>.error 4
def mX:eJ:=fun s n=>match n with
 | [a]=>if(s.row.counts.length:Int)≤a then .error 7 else .ok (setRow s {s.row with counts:=s.row.counts.eraseIdx a.toNat})
 |_=>.error 4
def tV:eJ:=fun s n=>match n with
 | [a]=>if 6<a then .error 2 else .ok (setRow s {s.row with wrong:=a})
 |_=>.error 4
def EJ:eJ:=fun s n=>match n with
 | [a]=>if 9<a then .error 2 else .ok (setRow s {s.row with off:=a})
 |_=>.error 4
def yN:eJ:=fun s n=>match n with
 | [a,b,c]=>if(s.table.heights.length:Int)≤a then .error 7 else if c<b∨99<c∨b+2<c then .error 2 else .ok (setTable s {s.table with heights:=s.table.heights.set a.toNat (b,c)})
 |_=>.error 4
def A1:eJ:=fun s n=>match n with
 | [a]=>if 99<a then .error 2 else .ok (setTable s {s.table with step:=a})
 |_=>.error 4
def rN:eJ:=fun s n=>match n with
 | [a]=>if 99<a then .error 2 else if 6≤(s.table.levels.length:Int)then .error 3 else .ok (setTable s {s.table with levels:=s.table.levels++[a]})
 |_=>.error 4
def rK:eJ:=fun s n=>match n with
 | [a,b]=>if(s.table.levels.length:Int)≤a then .error 7 else if 99<b then .error 2 else .ok (setTable s {s.table with levels:=s.table.levels.set a.toNat b})
 |_=>.error 4
def oV:eJ:=fun s n=>match n with
 | [a,b,c,d]=>if(s.table.heights.length:Int)≤max a b then .error 7 else if b<a then .error 2 else if d<c∨99<d then .error 2 else if 5≤(s.table.marks.length:Int)then .error 3 else .ok (setTable s {s.table with marks:=s.table.marks++[⟨a,b,c,d⟩]})
 |_=>.error 4
def pV:eJ:=fun s n=>match n with
 | [a]=>if(s.table.marks.length:Int)≤a then .error 7 else .ok (setTable s {s.table with marks:=s.table.marks.eraseIdx a.toNat})
 |_=>.error 4
def kP(kind:Int):eJ:=fun s n=>match n with
 | [a,b]=>if s.book.chairs≤max a b then .error 7 else if 8≤(s.book.lines.length:Int)then .error 3 else .ok (setBook s {s.book with lines:=s.book.lines++[⟨kind,a,b⟩]})
 |_=>.error 4
def nX:eJ:=fun s n=>match n with
 | [a]=>match s.book.lines[a.toNat]? with
  |none=>.error 7
  |some l=>if l.token= -1 then .error 6 else .ok (setBook s {s.book with lines:=s.book.lines.set a.toNat {l with token:= -1}})
 |_=>.error 4
def qL:eJ:=fun s n=>match n with
 | [a]=>if(s.book.lines.length:Int)≤a then .error 7 else .ok (setBook s {s.book with lines:=s.book.lines.eraseIdx a.toNat})
 |_=>.error 4
def nV:eJ:=fun s n=>match n with
 | [a,b,c,d]=>if 9<a∨2<max (max b c) d then .error 2 else if 5≤(s.yard.chairs.length:Int)then .error 3 else .ok (setYard s {s.yard with chairs:=s.yard.chairs++[⟨a,⟨b,c,d⟩⟩]})
 |_=>.error 4
def uW:eJ:=fun s n=>match n with
 | [a,b,c]=>match s.yard.chairs[a.toNat]? with
  |none=>.error 7
  |some x=>if 3≤b then .error 7 else if 2<c then .error 2 else .ok (setYard s {s.yard with chairs:=s.yard.chairs.set a.toNat {x with parts:=x3 x.parts b.toNat c}})
 |_=>.error 4
def DS:eJ:=fun s n=>match n with
 | [a]=>if 9<a then .error 2 else .ok (setYard s {s.yard with fit:=a})
 |_=>.error 4
def rP:eJ:=fun s n=>match n with
 | [a,b]=>if b<a∨7<b then .error 2 else if 5≤(s.yard.claims.length:Int)then .error 3 else .ok (setYard s {s.yard with claims:=s.yard.claims++[(a,b)]})
 |_=>.error 4
def nS:eJ:=fun s n=>match n with
 | [a]=>if(s.yard.claims.length:Int)≤a then .error 7 else .ok (setYard s {s.yard with claims:=s.yard.claims.eraseIdx a.toNat})
 |_=>.error 4
end C12
end Go.Fs
namespace Go.Fs
namespace C12
open Go.Lib
def gY:List UInt8→List (List UInt8)
 | []=>[[]]
 |b::l=>if b=32 then []::gY l else match gY l with
  | []=>[[b]]
  |p::ps=>(b::p)::ps
theorem MI(l:List UInt8):gY l≠[]:=by
 cases l with
 |nil=>simp[gY]
 |cons b l=>unfold gY;split;simp;split<;>simp
theorem nI:∀{l:List UInt8},(32:UInt8)∉l→gY l=[l]
 | [],_=>rfl
 |b::l,h=>by
  simp only[List.mem_cons,not_or]at h;unfold gY;rw[if_neg (fun e=>h.1 e.symm),nI h.2]
theorem tD:∀{l:List UInt8} {i:Nat},l[i]?= some 32→(32:UInt8)∉l.take i→gY l=l.take i::gY (l.drop (i+1))
 | [],i,h,_=>by simp at h
 |b::l,0,h,_=>by
  obtain rfl:b=32:=by simpa using h
  simp[gY]
 |b::l,i+1,h,hn=>by
  simp only[List.take_succ_cons,List.mem_cons,not_or]at hn;rw[gY,if_neg (fun e=>hn.1 e.symm),tD (by simpa using h) hn.2];simp
theorem qG{l:List UInt8}{i:Nat}{c:UInt8}:occAt l [c] i=true ↔ l[i]?= some c:=by
 unfold occAt;by_cases h:i<l.length
 ·rw[List.drop_eq_getElem_cons h,List.getElem?_eq_getElem h];simp only[List.isPrefixOf,Bool.and_true,beq_iff_eq,Option.some.injEq];exact eq_comm
 ·rw[List.drop_eq_nil_of_le Yd,List.getElem?_eq_none Yd];simp[List.isPrefixOf]
theorem Q5:∀(n:Nat) (l:List UInt8),l.length≤n→splitK [32] 0 (count l [32]) l=gY l:=by
 intro n;induction n with
 |zero=>
  intro l hl;obtain rfl:l=[]:=List.eq_nil_of_length_eq_zero Yd;rfl
 |succ n ih=>
  intro l hl;rcases index_spec l [32]with⟨h1,h2⟩|⟨i,h1,h2,h3,h4⟩
  ·rw[count_miss h1];refine(nI fun hm=>?_).symm;obtain⟨i,hi⟩:=List.mem_iff_getElem?.1 hm;have:=h2 i (by have:=(List.getElem?_eq_some_iff.1 hi).1;omega)
   rw[qG.2 hi]at this;cases this
  ·have hi:=qG.1 h3;rw[count_hit Ye h1,Nat.add_comm 1,splitK,if_neg (by rw[h1];simp),h1]
   have hdl:(l.drop (i+1)).length≤n:=by
    have:=(List.getElem?_eq_some_iff.1 hi).1;rw[List.length_drop];omega
   simp only[Int.toNat_natCast,Nat.add_zero,List.length_singleton];rw[ih _ hdl];refine(tD hi fun hm=>?_).symm;obtain⟨j,hj⟩:=List.mem_iff_getElem?.1 hm;have hjl:=(List.getElem?_eq_some_iff.1 hj).1;rw[List.length_take]at hjl;rw[List.getElem?_take_of_lt Yd]at hj;have:=h4 j Yd;rw[qG.2 hj]at this;cases this
def vU(l:List UInt8):ByteArray:=⟨l.toArray⟩
theorem pD(s:ByteArray):vU s.data.toList=s:=Go.WideShapes.bytes_inj rfl
def cK(s:ByteArray):List ByteArray:=(gY s.data.toList).map vU
theorem j5(s:ByteArray):splitB ⟨#[32]⟩ 0 (countB s ⟨#[32]⟩) s=cK s:=by
 have h:=splitB_data ⟨#[32]⟩ 0 (countB s ⟨#[32]⟩) s;have h2:splitK [32] 0 (count s.data.toList [32]) s.data.toList=gY s.data.toList:=Q5 _ _ (Nat.le_refl _);have h3:(splitB ⟨#[32]⟩ 0 (countB s ⟨#[32]⟩) s).map (·.data.toList)=gY s.data.toList:=h.trans h2;unfold cK;rw[←h3,List.map_map];refine(List.map_id _).symm.trans (List.map_congr_left fun x _=>?_);exact(pD x).symm
theorem V9(s:ByteArray):countB s ⟨#[32]⟩+1=(cK s).length:=by
 have key:∀(n:Nat) (l:List UInt8),l.length≤n→count l [32]+1=(gY l).length:=by
  intro n;induction n with
  |zero=>intro l hl;obtain rfl:l=[]:=List.eq_nil_of_length_eq_zero Yd;rfl
  |succ n ih=>
   intro l hl;rcases index_spec l [32]with⟨h1,h2⟩|⟨i,h1,h2,h3,h4⟩
   ·rw[count_miss h1,nI fun hm=>?_]
    ·rfl
    ·obtain⟨i,hi⟩:=List.mem_iff_getElem?.1 hm;have:=h2 i (by have:=(List.getElem?_eq_some_iff.1 hi).1;omega)
     rw[qG.2 hi]at this;cases this
   ·have hi:=qG.1 h3;have hdl:(l.drop (i+1)).length≤n:=by
     have:=(List.getElem?_eq_some_iff.1 hi).1;rw[List.length_drop];omega
    rw[tD hi fun hm=>?_,List.length_cons,←ih _ hdl,count_hit Ye h1]
    ·simp only[List.length_singleton];omega
    ·obtain⟨j,hj⟩:=List.mem_iff_getElem?.1 hm;have hjl:=(List.getElem?_eq_some_iff.1 hj).1;rw[List.length_take]at hjl;rw[List.getElem?_take_of_lt Yd]at hj;have:=h4 j Yd;rw[qG.2 hj]at this;cases this
 unfold cK;rw[List.length_map];exact key _ _ (Nat.le_refl _)
theorem K3(l:List UInt8):(gY l).length≤l.length+1:=by
 induction l with
 |nil=>simp[gY]
 |cons b l ih=>
  unfold gY;split
  ·simp;omega
  ·split
   ·simp
   ·rename_i p ps e;rw[e]at ih;simpa using Nat.le_succ_of_le ih
theorem DW{l p:List UInt8}(h:p∈gY l):p.length≤l.length:=by
 induction l generalizing p with
 |nil=>simp[gY]at h;subst h;simp
 |cons b l ih=>
  unfold gY at h;split at h
  ·rcases List.mem_cons.1 h with rfl|h
   ·simp
   ·exact Nat.le_succ_of_le (ih h)
  ·split at h
   ·simp only[List.mem_singleton]at h;subst h;simp
   ·rename_i q qs e;rcases List.mem_cons.1 h with rfl|h
    ·have:=ih (p:=q) (by rw[e];simp);simpa using this
    ·exact Nat.le_succ_of_le (ih (by rw[e];exact List.mem_cons_of_mem _ h))

def jC(l:List UInt8):Option Int:=if l.length≤3∧(l.head?≠some 48∨l.length=1)then(decNat l).map fun(n:Nat)=>(n:Int)else none
def MQ(l:List UInt8):Option Int:=match atoiAll l with
 |.ok v=>if 0≤v∧l.length≤3∧itoa v=l then some v else none
 |_=>none
theorem nK{b:UInt8}{d:Nat}(h:digitVal b=some d):d<10∧b=UInt8.ofNat (48+d):=by
 unfold digitVal at h;split at h
 ·cases h;refine⟨by omega,?_⟩;rw[show 48+(b.toNat-48)=b.toNat by omega];simp
 ·cases h
theorem H3{a b:Nat}(ha:a<256)(hb:b<256)(h:UInt8.ofNat a=UInt8.ofNat b):a=b:=by
 have:=congrArg UInt8.toNat h;simp only[UInt8.toNat_ofNat']at this;omega
theorem CO{u:Nat}(h:u<10):decDigits u=[UInt8.ofNat (48+u)]:=by rw[decDigits,dif_pos h]
theorem QD{u:Nat}(h:10≤u)(h2:u<100):decDigits u=[UInt8.ofNat (48+u / 10),UInt8.ofNat (48+u%10)]:=by rw[decDigits,dif_neg Yd,CO Yd];rfl
theorem UE{u:Nat}(h:100≤u)(h2:u<1000):decDigits u=[UInt8.ofNat (48+u / 10 / 10),UInt8.ofNat (48+u / 10%10),UInt8.ofNat (48+u%10)]:=by rw[decDigits,dif_neg Yd,QD Yd Yd];rfl
theorem sD(u:Nat):itoa (u:Int)=decDigits u:=by unfold itoa;rw[if_neg Yd,Int.toNat_natCast]
theorem BK{u:Nat}{b:UInt8}(h:b∈decDigits u):48≤b.toNat∧b.toNat≤57:=by
 induction u using Nat.strongRecOn with
 |_ u ih=>
  by_cases hu:u<10
  ·rw[CO hu]at h;simp only[List.mem_singleton]at h;subst h
   simp only[UInt8.toNat_ofNat'];omega
  ·rw[decDigits,dif_neg hu,List.mem_append,List.mem_singleton]at h;rcases h with h|h
   ·exact ih _ Yd h
   ·subst h;simp only[UInt8.toNat_ofNat'];omega
theorem AB(l:List UInt8):MQ l=jC l:=by
 unfold MQ jC;by_cases hl:l.length≤3
 ·rw[atoiAll_short l Yd];match l,hl with
  | [],_=>rfl
  |b::r,hl=>
   have hat:atoi (b::r)=if(b==45)=true then(decNat r).map fun(m:Nat)=> -(m:Int)else if(b==43)=true then(decNat r).map fun(m:Nat)=>(m:Int)else(decNat (b::r)).map fun(m:Nat)=>(m:Int):=rfl
   rw[hat];by_cases h45:b=45
   ·subst h45;have hd:decNat (45::r)=none:=by unfold decNat decFrom digitVal;simp
    rw[hd];simp only[beq_self_eq_true,if_true,Option.map_none,ite_self];cases decNat r with
    |none=>rfl
    |some m=>
     simp only[Option.map_some,NumEnd.ofOption];rw[if_neg];rintro⟨h1,h2,h3⟩;obtain rfl:m=0:=by omega
     have h4:itoa (-((0:Nat):Int))=[48]:=by rw[show(-((0:Nat):Int))=((0:Nat):Int) by omega,sD,CO Yd];rfl
     rw[h4]at h3;simp at h3
   ·rw[if_neg (by simpa using h45)];by_cases h43:b=43
    ·subst h43;have hd:decNat (43::r)=none:=by unfold decNat decFrom digitVal;simp
     rw[hd];simp only[beq_self_eq_true,if_true,Option.map_none,ite_self];cases decNat r with
     |none=>rfl
     |some m=>
      simp only[Option.map_some,NumEnd.ofOption];rw[if_neg];rintro⟨h1,h2,h3⟩;rw[sD]at h3;have:=BK (u:=m) (b:=43) (by rw[h3];simp)
      simp at this
    ·rw[if_neg (by simpa using h43)];have hnone:decNat (b::r)=none→_:=fun h=>h
     cases hd:decNat (b::r)with
     |none=>simp only[Option.map_none,ite_self];rfl
     |some m=>
      simp only[Option.map_some,NumEnd.ofOption];have key:(0≤(m:Int)∧(b::r).length≤3∧itoa (m:Int)=b::r) ↔ ((b::r).length≤3∧((b::r).head?≠some 48∨(b::r).length=1)):=by
       rw[sD];unfold decNat at hd;match r,hl with
       | [],_=>
        simp only[List.isEmpty_cons,Bool.false_eq_true,if_false,decFrom]at hd;cases h1:digitVal b with
        |none=>rw[h1]at hd;cases hd
        |some d1=>
         rw[h1]at hd;simp only[Option.some.injEq]at hd;obtain⟨k1,rfl⟩:=nK h1;obtain rfl:d1=m:=by omega
         rw[CO k1];simp
       | [b2],_=>
        simp only[List.isEmpty_cons,Bool.false_eq_true,if_false,decFrom]at hd;cases h1:digitVal b with
        |none=>rw[h1]at hd;cases hd
        |some d1=>
         cases h2:digitVal b2 with
         |none=>rw[h1,h2]at hd;cases hd
         |some d2=>
          rw[h1,h2]at hd;simp only[Option.some.injEq]at hd;obtain⟨k1,rfl⟩:=nK h1;obtain⟨k2,rfl⟩:=nK h2;by_cases z:d1=0
          ·subst z;rw[CO Yd];simp
          ·rw[QD Yd Yd,show m / 10=d1 by omega,show m%10=d2 by omega];have:UInt8.ofNat d1≠0:=fun e=>z (H3 (a:=d1) (b:=0) Yd Yd e)
           simp[this]
       | [b2,b3],_=>
        simp only[List.isEmpty_cons,Bool.false_eq_true,if_false,decFrom]at hd;cases h1:digitVal b with
        |none=>rw[h1]at hd;cases hd
        |some d1=>
         cases h2:digitVal b2 with
         |none=>rw[h1,h2]at hd;cases hd
         |some d2=>
          cases h3:digitVal b3 with
          |none=>rw[h1,h2,h3]at hd;cases hd
          |some d3=>
           rw[h1,h2,h3]at hd;simp only[Option.some.injEq]at hd;obtain⟨k1,rfl⟩:=nK h1;obtain⟨k2,rfl⟩:=nK h2;obtain⟨k3,rfl⟩:=nK h3;by_cases z:d1=0
           ·subst z;by_cases z2:m<10
            ·rw[CO z2];simp
            ·rw[QD Yd Yd];simp
           ·rw[UE Yd Yd,show m / 10 / 10=d1 by omega,show m / 10%10=d2 by omega,show m%10=d3 by omega];have:UInt8.ofNat d1≠0:=fun e=>z (H3 (a:=d1) (b:=0) Yd Yd e)
            simp[this]
      by_cases hk:(b::r).length≤3∧((b::r).head?≠some 48∨(b::r).length=1)
      ·rw[if_pos hk,if_pos (key.2 hk)]
      ·rw[if_neg hk,if_neg (fun h=>hk (key.1 h))]
 ·rw[if_neg (fun h=>hl h.1)];split
  ·rw[if_neg (fun h=>hl h.2.1)]
  ·rfl
theorem r6{l:List UInt8}{n:Int}(h:jC l=some n):0≤n∧n≤999∧itoa n=l:=by
 have h2:=h;rw[←AB]at h2;unfold MQ at h2;split at h2
 ·split at h2
  ·rename_i v _ hc;cases h2;refine⟨hc.1,?_,hc.2.2⟩;by_cases hb:n≤999
   ·exact hb
   ·exfalso
    obtain⟨u,rfl⟩:∃u:Nat,n=(u:Int):=⟨n.toNat,by omega⟩
    have h3:=hc.2.2;rw[sD]at h3;have h4:4≤(decDigits u).length:=by
     rw[decDigits,dif_neg Yd,decDigits,dif_neg Yd,decDigits,dif_neg Yd,decDigits];split<;>simp
    rw[h3]at h4;omega
  ·cases h2
 ·cases h2

def iE:List (List UInt8×Nat×eJ):=[
 ([112,108,97,99,101],0,uL),
 ([115,101,101,110],2,rC),
 ([99,111,117,110,116],2,kR false),
 ([98,97,99,107],2,kR true),
 ([117,110,99,111,117,110,116],1,mX),
 ([119,114,111,110,103],1,tV),
 ([111,102,102],1,EJ),
 ([116,105,100,101],3,yN),
 ([115,116,101,112],1,A1),
 ([108,101,118,101,108],1,rN),
 ([114,97,105,115,101],2,rK),
 ([109,97,114,107],4,oV),
 ([117,110,109,97,114,107],1,pV),
 ([104,105,114,101],2,kP 1),
 ([98,114,105,110,103],2,kP 2),
 ([115,109,117,100,103,101],1,nX),
 ([115,116,114,105,107,101],1,qL),
 ([98,114,111,107,101,110],4,nV),
 ([112,97,114,116],3,uW),
 ([102,105,116],1,DS),
 ([99,108,97,105,109],2,rP),
 ([117,110,99,108,97,105,109],1,nS)]
def gP(line:ByteArray):Option (eJ×List Int):=
 match gY line.data.toList with
 | []=>none
 |p::ps=>match iE.find? (fun x=>x.1==p)with
  |none=>none
  |some (_,k,act)=>if ps.length=k then(ps.mapM jC).map fun n=>(act,n)else none

structure iM(s:aK):Prop where
 pl:s.row.places.length≤7
 ct:s.row.counts.length≤6
 ht:s.table.heights.length=4
 lev:s.table.levels.length≤6
 mks:s.table.marks.length≤5
 ln:s.book.lines.length≤8
 ch:s.yard.chairs.length≤5
 cl:s.yard.claims.length≤5
 bc:s.book.chairs=3
theorem iM.setRow{s:aK}(h:iM s){r:C1.cS}(h1:r.places.length≤7)(h2:r.counts.length≤6):iM (setRow s r):=⟨h1,h2,h.ht,h.lev,h.mks,h.ln,h.ch,h.cl,h.bc⟩
theorem iM.setTable{s:aK}(h:iM s){r:C2.aR}(h1:r.heights.length=4)(h2:r.levels.length≤6)(h3:r.marks.length≤5):iM (setTable s r):=⟨h.pl,h.ct,h1,h2,h3,h.ln,h.ch,h.cl,h.bc⟩
theorem iM.setBook{s:aK}(h:iM s){r:C3.eU}(h1:r.lines.length≤8)(h2:r.chairs=3):iM (setBook s r):=⟨h.pl,h.ct,h.ht,h.lev,h.mks,h1,h.ch,h.cl,h2⟩
theorem iM.setYard{s:aK}(h:iM s){r:C7.bO}(h1:r.chairs.length≤5)(h2:r.claims.length≤5):iM (setYard s r):=⟨h.pl,h.ct,h.ht,h.lev,h.mks,h.ln,h1,h2,h.bc⟩
def iN(f:eJ):Prop:=∀s n s',iM s→f s n=.ok s'→iM s'
theorem J4:iN uL:=by
 intro s n s' h e;unfold uL at e;have h1:=h.pl;have h2:=h.ct
 repeat' split at e
 all_goals cases e
 all_goals (refine h.setRow ?_ ?_<;>first|assumption|(simp<;>omega)|(simp only[List.length_eraseIdx];split<;>omega))
theorem R7:iN rC:=by
 intro s n s' h e;unfold rC at e;have h1:=h.pl;have h2:=h.ct
 repeat' split at e
 all_goals cases e
 all_goals (refine h.setRow ?_ ?_<;>first|assumption|(simp<;>omega)|(simp only[List.length_eraseIdx];split<;>omega))
theorem sZ(b:Bool):iN (kR b):=by
 intro s n s' h e;unfold kR at e;have h1:=h.pl;have h2:=h.ct
 repeat' split at e
 all_goals cases e
 all_goals (refine h.setRow ?_ ?_<;>first|assumption|(simp<;>omega)|(simp only[List.length_eraseIdx];split<;>omega))
theorem wP:iN mX:=by
 intro s n s' h e;unfold mX at e;have h1:=h.pl;have h2:=h.ct
 repeat' split at e
 all_goals cases e
 all_goals (refine h.setRow ?_ ?_<;>first|assumption|(simp<;>omega)|(simp only[List.length_eraseIdx];split<;>omega))
theorem N3:iN tV:=by
 intro s n s' h e;unfold tV at e;have h1:=h.pl;have h2:=h.ct
 repeat' split at e
 all_goals cases e
 all_goals (refine h.setRow ?_ ?_<;>first|assumption|(simp<;>omega)|(simp only[List.length_eraseIdx];split<;>omega))
theorem f5:iN EJ:=by
 intro s n s' h e;unfold EJ at e;have h1:=h.pl;have h2:=h.ct
 repeat' split at e
 all_goals cases e
 all_goals (refine h.setRow ?_ ?_<;>first|assumption|(simp<;>omega)|(simp only[List.length_eraseIdx];split<;>omega))
theorem P7:iN yN:=by
 intro s n s' h e;unfold yN at e;have h1:=h.ht;have h2:=h.lev;have h3:=h.mks
 repeat' split at e
 all_goals cases e
 all_goals (refine h.setTable ?_ ?_ ?_<;>first|assumption|(simp<;>omega)|(simp only[List.length_eraseIdx];split<;>omega))
theorem X3:iN A1:=by
 intro s n s' h e;unfold A1 at e;have h1:=h.ht;have h2:=h.lev;have h3:=h.mks
 repeat' split at e
 all_goals cases e
 all_goals (refine h.setTable ?_ ?_ ?_<;>first|assumption|(simp<;>omega)|(simp only[List.length_eraseIdx];split<;>omega))
theorem K8:iN rN:=by
 intro s n s' h e;unfold rN at e;have h1:=h.ht;have h2:=h.lev;have h3:=h.mks
 repeat' split at e
 all_goals cases e
 all_goals (refine h.setTable ?_ ?_ ?_<;>first|assumption|(simp<;>omega)|(simp only[List.length_eraseIdx];split<;>omega))
theorem M2:iN rK:=by
 intro s n s' h e;unfold rK at e;have h1:=h.ht;have h2:=h.lev;have h3:=h.mks
 repeat' split at e
 all_goals cases e
 all_goals (refine h.setTable ?_ ?_ ?_<;>first|assumption|(simp<;>omega)|(simp only[List.length_eraseIdx];split<;>omega))
theorem Y0:iN oV:=by
 intro s n s' h e;unfold oV at e;have h1:=h.ht;have h2:=h.lev;have h3:=h.mks
 repeat' split at e
 all_goals cases e
 all_goals (refine h.setTable ?_ ?_ ?_<;>first|assumption|(simp<;>omega)|(simp only[List.length_eraseIdx];split<;>omega))
theorem zE:iN pV:=by
 intro s n s' h e;unfold pV at e;have h1:=h.ht;have h2:=h.lev;have h3:=h.mks
 repeat' split at e
 all_goals cases e
 all_goals (refine h.setTable ?_ ?_ ?_<;>first|assumption|(simp<;>omega)|(simp only[List.length_eraseIdx];split<;>omega))
theorem sQ(k:Int):iN (kP k):=by
 intro s n s' h e;unfold kP at e;have h1:=h.ln;have h2:=h.bc
 repeat' split at e
 all_goals cases e
 all_goals (refine h.setBook ?_ ?_<;>first|assumption|(simp<;>omega)|(simp only[List.length_eraseIdx];split<;>omega))
theorem zC:iN nX:=by
 intro s n s' h e;unfold nX at e;have h1:=h.ln;have h2:=h.bc
 repeat' split at e
 all_goals cases e
 all_goals (refine h.setBook ?_ ?_<;>first|assumption|(simp<;>omega)|(simp only[List.length_eraseIdx];split<;>omega))
theorem zU:iN qL:=by
 intro s n s' h e;unfold qL at e;have h1:=h.ln;have h2:=h.bc
 repeat' split at e
 all_goals cases e
 all_goals (refine h.setBook ?_ ?_<;>first|assumption|(simp<;>omega)|(simp only[List.length_eraseIdx];split<;>omega))
theorem zN:iN nV:=by
 intro s n s' h e;unfold nV at e;have h1:=h.ch;have h2:=h.cl
 repeat' split at e
 all_goals cases e
 all_goals (refine h.setYard ?_ ?_<;>first|assumption|(simp<;>omega)|(simp only[List.length_eraseIdx];split<;>omega))
theorem Y8:iN uW:=by
 intro s n s' h e;unfold uW at e;have h1:=h.ch;have h2:=h.cl
 repeat' split at e
 all_goals cases e
 all_goals (refine h.setYard ?_ ?_<;>first|assumption|(simp<;>omega)|(simp only[List.length_eraseIdx];split<;>omega))
theorem o6:iN DS:=by
 intro s n s' h e;unfold DS at e;have h1:=h.ch;have h2:=h.cl
 repeat' split at e
 all_goals cases e
 all_goals (refine h.setYard ?_ ?_<;>first|assumption|(simp<;>omega)|(simp only[List.length_eraseIdx];split<;>omega))
theorem I3:iN rP:=by
 intro s n s' h e;unfold rP at e;have h1:=h.ch;have h2:=h.cl
 repeat' split at e
 all_goals cases e
 all_goals (refine h.setYard ?_ ?_<;>first|assumption|(simp<;>omega)|(simp only[List.length_eraseIdx];split<;>omega))
theorem yF:iN nS:=by
 intro s n s' h e;unfold nS at e;have h1:=h.ch;have h2:=h.cl
 repeat' split at e
 all_goals cases e
 all_goals (refine h.setYard ?_ ?_<;>first|assumption|(simp<;>omega)|(simp only[List.length_eraseIdx];split<;>omega))
theorem n3:∀x∈iE,iN x.2.2:=by
 intro x hx;simp only[iE,List.mem_cons,List.not_mem_nil,or_false]at hx;rcases hx with rfl|rfl|rfl|rfl|rfl|rfl|rfl|rfl|rfl|rfl|rfl|rfl|rfl|rfl|rfl|rfl|rfl|rfl|rfl|rfl|rfl|rfl
 ·exact J4
 ·exact R7
 ·exact sZ false
 ·exact sZ true
 ·exact wP
 ·exact N3
 ·exact f5
 ·exact P7
 ·exact X3
 ·exact K8
 ·exact M2
 ·exact Y0
 ·exact zE
 ·exact sQ 1
 ·exact sQ 2
 ·exact zC
 ·exact zU
 ·exact zN
 ·exact Y8
 ·exact o6
 ·exact I3
 ·exact yF
end C12
end Go.Fs
namespace Go.Fs
variable{P:Program}{X:Cx}{γb:Type}[Membership Nat γb]{bad:γb}{all:Array Oper}{K:Act→World→Prop}{Q:Exit→Act→World→Prop}
variable{σ:bF}{μ:aB}{Ds:List aA}{os:List (Bool×Nat)}{fl:Bool}{ix:Nat}
variable{d:Nat}{x y z:Operand}{u v:Value}{ty:TypeId}{pos:String}{aft:Array Edge}{g:Option (Nat×Bool)}
abbrev Cx.push(X:Cx)(dd:Deferred):Cx:={X with ds:=dd::X.ds}
theorem NN{c:Operand}{f:FuncId}{c1 c2:List Value}{ats:Array TypeId}(ho:all[ix]?= some ⟨none,.defer {callee:=.value c,args:=#[],argTypes:=ats},ty,pos,aft,g⟩)(hX:X.r=none)(hc:ev σ c=some (.func (.func f) c1.toArray c2.toArray))(hg:cR all σ g)
  (k:WL P (X.push ⟨.fn (.func f) c2.toArray,c1.toArray⟩) bad all K Q os σ μ Ds):WL P X bad all K Q ((false,ix)::os) σ μ Ds:=by
 intro a w hh;rw[oJ ho];have hq:fU (Op.defer {callee:=.value c,args:=#[],argTypes:=ats})=false:=rfl;simp only[lI,hq,Bool.false_eq_true,if_false];unfold rL;rw[if_pos (hh.wanted hg)];refine⟨fun _ _=>trivial,?_⟩;have e:(Oper.semAt (FW X.r).round a.eval ⟨none,.defer {callee:=.value c,args:=#[],argTypes:=ats},ty,pos,aft,g⟩).run P w=.ok (.defer ⟨.fn (.func f) c2.toArray,c1.toArray⟩) w:=by
  rw[hX];show(Oper.semAt none a.eval _).run P w=_;rw[Oper.semAt_none];simp only[execOp,resolve,hh.eval hc,Deferred.ofValue,Array.map_empty,Array.append_empty];rfl
 rw[e];obtain⟨h1,h2,h3,D,h4,h5,h6⟩:=hh;exact⟨fun h=>(by simp at h),k _ _ ⟨h1,h2,by simp[Act.put,h3],D,h4,h5,h6⟩⟩
theorem RQ{f:FuncId}{fn:Func}{c:Code}{args:List Value}{D:aA}{post:aA→Value→Prop}(N:Nat)(hf:P.funcs[f]?= some fn)(hn:(fn.name== "runtime.NumGoroutine")=false)(hb:fn.body=some c)(hN:fn.ntmps=N)(hsz:Nat.ble args.length N=true)
  (h:∀h0:H0,WC P ⟨none,N,[],h0,h0.size,D,[],none⟩ (bodyPostDIn (FW none) 0 P fn (kF ⟨none,N,[],h0,h0.size,D,[],none⟩ fun D' v _=>post D' v)) c (fJ 0 args) [] [D]):Fn P f args.toArray D post:=by
 refine⟨EF.of hf hn hb,fun w hw=>?_⟩;subst hN;have hsz:=Nat.le_of_ble_eq_true hsz;refine(cQ (r:=none) (n:=0)).1 ((callsIn_of_wp_defers (R:=kF ⟨none,fn.ntmps,[],hd w,w.heap.size,D,[],none⟩ fun D' v _=>post D' v) hf hb trivial (h (hd w) _ w ⟨?_,fun s v hs=>?_,rfl,D,⟨Nat.le_refl _,Nat.le_refl _,fun _ _ _=>rfl,fun _ _=>rfl,hw,(fun p hp=>by cases hp),List.nodup_nil,(fun p hp=>by cases hp),fun e he=>Option.some.inj he⟩,fun D₁ h1=>?_,trivial⟩) rfl).mono ?_)
 ·simp;omega
 ·obtain⟨_,h2⟩:=dP args 0 s v hs;have hl:=(List.getElem?_eq_some_iff.1 h2).1;simp only[Nat.sub_zero]at h2 hl;show(args.toArray++_)[s]?= some v;rw[Array.getElem?_append_left Yab];simpa using h2
 ·simp only[List.mem_singleton]at h1;subst h1;exact Le.refl _
 ·rintro e w' ⟨v,D',μ',rfl,hs,hp⟩;exact⟨v,D',rfl,hs.sub (by intro p hp;cases hp) List.nodup_nil,hp⟩
def A2(P:Program)(f:FuncId)(args:List Value)(D:aA)(ν:aB)(u u2:FrameMode)(post:aA→aB→Prop):Prop:=
 EF P f∧∀w,dD D w→(∀p∈ν,w.heap[p.1]?= some p.2∧D p.1=[]∧cB p.2)→ν.ks.Nodup→CallsDIn (FW none) 0 P f args.toArray u w fun e u' w'=>∃v D' ν',e=.returned v∧u'=u2∧fA (hd w) w.heap.size D ν.ks ν' D' w'∧post D' ν'
theorem AT{fn:Func}{post:aA→Value→aB→Prop}{dpost:aA→aB→Prop}{A B ν:aB}{f:FuncId}{c1 c2:List Value}{u u2:FrameMode}{rs:List ResultVar}(hu:u≠.run)(hds:X.ds=[⟨.fn (.func f) c2.toArray,c1.toArray⟩])(hex:X.ex=none)(hun:∀p∈ν,cB p.2)
  (hf:∀D,(∀D₁∈Ds,Le D₁ D)→A2 P f (c1++c2) D ν u u2 dpost) (hst:settle u2=.returning) (hr:fn.results=rs.toArray)
  (h:∀D ν',(∀D₁∈Ds,Le D₁ D)→dpost D ν'→∃vs,oX P X σ (A++ν'++B) rs vs∧post D (lZ vs) (A++ν'++B)):∀a w,Hl X σ (A++ν++B) Ds a w→LeavesIn (FW none) 0 P fn a.tmps (kF X post) a.defers u w:=by
 intro a w hh;obtain⟨h1,h2,h3,D,h4,h5,h6⟩:=id hh;rw[h3,hds];have hF:=hf D h5;have hbx:∀p∈ν,_:=fun p hp=>h4.box p (List.mem_append_left _ (List.mem_append_right _ hp))
 have hnd:=h4.nd;simp only[List.map_append]at hnd;refine leavesIn_cons hu (fun hh=>by simp[FW]at hh) (f:=f) (args:=(c1++c2).toArray) ?_ (fun _ _=>trivial) ?_
 ·show(callFunc f (c1.toArray++c2.toArray)).run P w=_;rw[hF.1];simp
 ·refine(hF.2 w h4.agr (fun p hp=>⟨(hbx p hp).1,(hbx p hp).2.1,hun p hp⟩) (List.nodup_append.1 (List.nodup_append.1 hnd).1).2.1).mono ?_;rintro e u' w' ⟨v,D',ν',rfl,rfl,hs,hp⟩;have hle:=eM h4.agr hs;have h5':∀D₁∈Ds,Le D₁ D':=fun D₁ hD₁=>(h5 D₁ hD₁).trans hle
  obtain⟨vs,hv,hpost⟩:=h D' ν' h5' hp;have hh':Hl X σ (A++ν'++B) Ds a w':=⟨h1,h2,h3,D',h4.afterG hs,h5',by unfold sG;rw[hex];trivial⟩
  show LeavesIn (FW none) 0 P fn a.tmps (kF X post) [] (settle u') w';rw[hst];exact⟨_,eT hh' hr hv,_,D',_,rfl,h4.afterG hs,hpost⟩
theorem PZ{fn:Func}{post:aA→Value→aB→Prop}{dpost:aA→aB→Prop}{A B ν:aB}{f:FuncId}{c1 c2:List Value}{rs:List ResultVar}{e:Exit}(he:(match e with|.normal=>true|.ret=>true|_=>false)=true)(hds:X.ds=[⟨.fn (.func f) c2.toArray,c1.toArray⟩])(hex:X.ex=none)(hun:∀p∈ν,cB p.2)
  (hf:∀D,(∀D₁∈Ds,Le D₁ D)→A2 P f (c1++c2) D ν .returning .returning dpost) (hr:fn.results=rs.toArray)
  (h:∀D ν',(∀D₁∈Ds,Le D₁ D)→dpost D ν'→∃vs,oX P X σ (A++ν'++B) rs vs∧post D (lZ vs) (A++ν'++B)):∀a w,Hl X σ (A++ν++B) Ds a w→bodyPostDIn (FW none) 0 P fn (kF X post) e a w:=by
 intro a w hh;have:=AT (u:=.returning) (u2:=.returning) Ye hds hex hun hf rfl hr h a w hh;cases e<;>first|exact this|cases he
theorem J7{fn:Func}{post:aA→Value→aB→Prop}{dpost:aA→aB→Prop}{A B ν:aB}{f:FuncId}{c1 c2:List Value}{rs:List ResultVar}{v:Value}(hds:X.ds=[⟨.fn (.func f) c2.toArray,c1.toArray⟩])(hex:X.ex=none)(hun:∀p∈ν,cB p.2)
  (hf:∀D,(∀D₁∈Ds,Le D₁ D)→A2 P f (c1++c2) D ν (.panicking (jH v)) (.panicking [{v,recovered:=true}]) dpost) (hr:fn.results=rs.toArray)
  (h:∀D ν',(∀D₁∈Ds,Le D₁ D)→dpost D ν'→∃vs,oX P X σ (A++ν'++B) rs vs∧post D (lZ vs) (A++ν'++B)):∀a w,Hl X σ (A++ν++B) Ds a w→bodyPostDIn (FW none) 0 P fn (kF X post) (.panic (jH v)) a w:=
 fun a w hh=>AT Ye hds hex hun hf rfl hr h a w hh
theorem JL{f:FuncId}{fn:Func}{id t:Nat}{y:Code}{args:List Value}{D:aA}{ν:aB}{u u2:FrameMode}{rv:Value}{dpost:aA→aB→Prop}{ats:Array TypeId}(N:Nat)(hf:P.funcs[f]?= some fn)(hn:(fn.name== "runtime.NumGoroutine")=false)
  (hb:fn.body=some (.seq (.region id #[⟨some t,.call {callee:=.builtin .recover,args:=#[],argTypes:=ats},ty,pos,aft,none⟩] false) y)) (hN:fn.ntmps=N) (hsz:Nat.ble args.length N=true) (ht:Nat.blt t N=true)
  (hrec:∀(c₀:Frame) (cs:List Frame),c₀.mode=u→(recoverD (c₀::cs)=some (rv,{c₀ with mode:=u2}::cs))∨(recoverD (c₀::cs)=none∧rv=.nilIface∧u2=u))
  (h:∀h0:H0,(∀p∈ν,p.1<h0.size)→ν.ks.Nodup→WC P (kJ N h0 D ν.ks) (bodyPost P fn (H7 (kJ N h0 D ν.ks) (fun D' _ ν'=>dpost D' ν') (fun _=>False))) y ((t,rv)::fJ 0 args) ν [D]):A2 P f args D ν u u2 dpost:=by
 refine⟨EF.of hf hn hb,fun w hw hν hnd=>?_⟩;subst hN;have hsz:=Nat.le_of_ble_eq_true hsz;refine callsDIn_of_wpSIn hf hb trivial fun c₀ cs hm=>?_
 have hcs:({c₀ with mode:=u}:Frame)=c₀:=by subst hm;rfl
 have hH:Hl (kJ fn.ntmps (hd w) D ν.ks) (fJ 0 args) ν [D] {tmps:=args.toArray++Array.replicate (fn.ntmps-args.toArray.size) undef,defers:=[]} w:=by
  refine⟨?_,fun s v hs=>?_,rfl,D,⟨Nat.le_refl _,Nat.le_refl _,fun _ _ _=>rfl,fun _ _=>rfl,hw,(fun p hp=>?_),hnd,(fun p hp=>(hν p hp).2.2),fun e he=>Option.some.inj he⟩,fun D₁ h1=>?_,trivial⟩
  ·simp[kJ];omega
  ·obtain⟨_,h2⟩:=dP args 0 s v hs;have hl:=(List.getElem?_eq_some_iff.1 h2).1;simp only[Nat.sub_zero]at h2 hl;show(args.toArray++_)[s]?= some v;rw[Array.getElem?_append_left Yab];simpa using h2
  ·exact⟨(hν p hp).1,(hν p hp).2.1,Or.inr (List.mem_map.2 ⟨p,hp,rfl⟩)⟩
  ·simp only[List.mem_singleton]at h1;subst h1;exact Le.refl _
 have key:=h (hd w) (fun p hp=>bA (hν p hp).1) hnd _ w (hH.put ht rv);refine wpSIn_seq (wpSIn_region ?_);have hex:∀ρ:Operand→Value,(execOp ρ ⟨some t,.call {callee:=.builtin .recover,args:=#[],argTypes:=ats},ty,pos,aft,none⟩).run P w=.ok .recover w:=fun ρ=>by
  simp only[execOp,resolve,Array.map_empty];rfl
 have fin:∀cs',cs'=({c₀ with mode:=u2}:Frame)::cs→(y.wpSIn (FW none) 0 P (bodyPostS P fn c₀ cs fun e u' w'=>∃v D' ν',e=.returned v∧u'=u2∧fA (hd w) w.heap.size D ν.ks ν' D' w'∧dpost D' ν')
   (Act.put {tmps:=args.toArray++Array.replicate (fn.ntmps-args.toArray.size) undef,defers:=[]} (some t) rv) cs' w):=by
  rintro cs' rfl;refine wpSIn_of_wpIn rfl (wpIn_mono key fun e a w' hq=>?_);cases e with
  |normal|ret=>
   obtain⟨hd',v,hr,hR⟩:=hq;rcases hR with⟨v',D',ν',he,hs,hp⟩|⟨_,_,_,_,hp⟩
   ·exact⟨hd',u2,rfl,v,hr,v',D',ν',he,rfl,hs,hp⟩
   ·exact hp.elim
  |panic ch=>
   obtain⟨hd',hR⟩:=hq;rcases hR with⟨v',D',ν',he,hs,hp⟩|⟨_,_,_,_,hp⟩
   ·cases he
   ·exact hp.elim
  |outgrown=>
   rcases hq with⟨v',D',ν',he,hs,hp⟩|⟨_,_,_,_,hp⟩
   ·cases he
   ·exact hp.elim
  |exit=>exact hq.elim
  |goto=>exact hq.elim
 show wpOpsSIn (FW none) 0 P _ _ [0] _ _ _;simp only[wpOpsSIn,List.getElem?_toArray,List.getElem?_cons_zero];refine⟨fun _ _=>trivial,?_⟩;rw[if_pos (by rfl),hex];rcases hrec c₀ cs hm with hr|⟨hr,rfl,rfl⟩
 ·simp only[hr];exact fin _ rfl
 ·simp only[hr];exact fin _ (by rw[hcs])
theorem JE{c₀:Frame}{cs:List Frame}(hm:c₀.mode=.returning):recoverD (c₀::cs)=none:=by simp[recoverD,hm]
theorem HQ{c₀:Frame}{cs:List Frame}{v:Value}(hm:c₀.mode=.panicking (jH v)):recoverD (c₀::cs)=some (v,{c₀ with mode:=.panicking [{v,recovered:=true}]}::cs):=by simp[recoverD,hm,jH]
theorem iL.reorder{f:FuncId}{args:List Value}{D:aA}{ν ν2:aB}{post post':aA→Value→aB→Prop}{pan pan':Value→Prop}(h:iL P f args D ν post pan)(hp:ν.Perm ν2)(h1:∀D' v ν',Le D D'→post D' v ν'→∃ν'',ν''.Perm ν'∧post' D' v ν'')(h2:∀v,pan v→pan' v):iL P f args D ν2 post' pan':=by
 refine⟨h.1,fun w hw hν hn=>(h.2 w hw (fun p hp'=>hν p (hp.mem_iff.1 hp')) ((hp.map (·.1)).nodup_iff.2 hn)).mono ?_⟩;have hk:∀b,b∉ν2.ks→b∉ν.ks:=fun b hb hm=>hb ((hp.map (·.1)).mem_iff.1 hm)
 rintro e w' (⟨v,D',ν',he,hs,hpost⟩|⟨v,D',he,hs,hpan⟩)
 ·obtain⟨ν'',hq,hpost'⟩:=h1 D' v ν' (eM hw hs) hpost;refine Or.inl ⟨v,D',ν'',he,⟨hs.hlo,hs.size,fun b hb hm=>hs.old b hb (hk b hm),hs.dold,hs.agr,fun p hp'=>?_,(hq.map (·.1)).nodup_iff.2 hs.nd,fun p hp'=>hs.fz p (hq.mem_iff.1 hp'),hs.env⟩,hpost'⟩;obtain⟨k1,k2,k3⟩:=hs.box p (hq.mem_iff.1 hp');exact⟨k1,k2,k3.imp id fun hm=>(hp.map (·.1)).mem_iff.1 hm⟩
 ·exact Or.inr ⟨v,D',he,⟨hs.hlo,hs.size,fun b hb hm=>hs.old b hb (hk b hm),hs.dold,hs.agr,(fun p hp'=>by cases hp'),List.nodup_nil,(fun p hp'=>by cases hp'),hs.env⟩,h2 v hpan⟩
theorem aM{l1 l2:aB}(h:∀ [BEq (Nat×Obj)] [LawfulBEq (Nat×Obj)] (a:Nat×Obj),l1.count a=l2.count a):l1.Perm l2:=by
 classical
 exact List.perm_iff_count.2 fun a=>h a
def UD(Q:Exit→Act→World→Prop):Exit→Act→World→Prop:=fun e a w=>match e with
 |.panic _=>False
 |e=>Q e a w
theorem QE:NP (UD Q):=fun _ _ _ h=>h
theorem CE{c:Code}(h:WC P X (UD Q) c σ μ Ds):WC P X Q c σ μ Ds:=fun a w hh=>wpIn_mono (h a w hh) (fun e a w hq=>by cases e<;>first|exact hq|exact hq.elim)
theorem OO{y:Code}(h:WC P X Q y σ μ Ds):∀a w,Hl X σ μ Ds a w→UD (Exit.then (y.wpIn (FW X.r) 0 P Q) Q) .normal a w:=h
end Go.Fs
namespace Go.Fs
variable{P:Program}{X:Cx}{γb:Type}[Membership Nat γb]{bad:γb}{all:Array Oper}{K:Act→World→Prop}{Q:Exit→Act→World→Prop}
variable{σ:bF}{μ:aB}{Ds:List aA}{os:List (Bool×Nat)}{fl:Bool}{ix:Nat}
variable{d:Nat}{x y z:Operand}{u v:Value}{ty:TypeId}{pos:String}{aft:Array Edge}{g:Option (Nat×Bool)}
theorem AV(a b:ByteArray):(a.toList==b.toList)=decide (a=b):=by
 rw[Bool.eq_iff_iff];simp only[beq_iff_eq,decide_eq_true_eq];rw[ByteArray.toList_eq,ByteArray.toList_eq];exact⟨fun h=>Go.WideShapes.bytes_inj h,fun h=>by rw[h]⟩
theorem wT{t t':TypeId}{a b:ByteArray}(ho:all[ix]?= some ⟨some d,.binOp .add t x y t',ty,pos,aft,g⟩)(hx:ev σ x=some (.string a))(hy:ev σ y=some (.string b))(hl:a.size+b.size≤9223372036854775807)(hN:Nat.blt d X.N=true)(hg:cR all σ g)
  (kk:WL P X bad all K Q os ((d,.string (a++b))::σ) μ Ds):WL P X bad all K Q ((fl,ix)::os) σ μ Ds:=
 bD ho rfl rfl hN hg (fun ρ hρ w'=>by
  have:((do eqGuard .add t x y (.string a) (.string b);binOp .add t (.string a) (.string b)):Sem Value).run P w'=.ok (.string (a++b)) w':=by
   rw[Sem.run_bind];have h1:(eqGuard .add t x y (.string a) (.string b)).run P w'=.ok () w':=rfl;rw[h1];show(binOp .add t (.string a) (.string b)).run P w'=_;rw[binOp_string_add];exact run_string_add_sum _ a b hl
  simp only[execOp,hρ x _ hx,hρ y _ hy];rw[Sem.run_bind,this];rfl) kk
theorem bN{t t':TypeId}{a b:ByteArray}(ho:all[ix]?= some ⟨some d,.binOp .eql t x y t',ty,pos,aft,g⟩)(hx:ev σ x=some (.string a))(hy:ev σ y=some (.string b))(hN:Nat.blt d X.N=true)(hg:cR all σ g)
  (kk:WL P X bad all K Q os ((d,.bool (decide (a=b)))::σ) μ Ds):WL P X bad all K Q ((fl,ix)::os) σ μ Ds:=
 uE ho (fun w=>by
  rw[Sem.run_bind];have h1:(eqGuard .eql t x y (.string a) (.string b)).run P w=.ok () w:=rfl;rw[h1,←AV];show(binOp .eql t (.string a) (.string b)).run P w=_;rw[binOp_string_eql];rfl) hx hy hN hg kk
theorem lV{t:TypeId}{s:ByteArray}{k:IntKind}{i:Int}{c:UInt8}(ho:all[ix]?= some ⟨some d,.index t x y,ty,pos,aft,g⟩)(ht:P.underlying t=some .string)(hx:ev σ x=some (.string s))(hy:ev σ y=some (.int k i))(h0:0≤i)(hc:s[i.toNat]?= some c)(hN:Nat.blt d X.N=true)(hg:cR all σ g)
  (kk:WL P X bad all K Q os ((d,.int .u8 c.toNat)::σ) μ Ds):WL P X bad all K Q ((fl,ix)::os) σ μ Ds:=
 bD ho rfl rfl hN hg (fun ρ hρ w'=>by
  simp only[execOp,hρ x _ hx,hρ y _ hy];unfold Instr.index asIntOf;simp only[Sem.run_bind,TU.of ht w',Result.andThen_ok,Sem.run_pure,pure_bind,h0,if_true,hc]) kk
theorem o7{t:TypeId}{s:ByteArray}{k1 k2:IntKind}{i j:Int}(ho:all[ix]?= some ⟨some d,.slice t x (some y) (some z) none,ty,pos,aft,g⟩)(ht:P.underlying t=some .string)(hx:ev σ x=some (.string s))(hy:ev σ y=some (.int k1 i))(hz:ev σ z=some (.int k2 j))(h0:0≤i)(h1:i≤j)(h2:j≤(s.size:Int))(hN:Nat.blt d X.N=true)(hg:cR all σ g)
  (kk:WL P X bad all K Q os ((d,.string (s.extract i.toNat j.toNat))::σ) μ Ds):WL P X bad all K Q ((fl,ix)::os) σ μ Ds:=
 bD ho rfl rfl hN hg (fun ρ hρ w'=>by
  simp only[execOp,hρ x _ hx,hρ y _ hy,hρ z _ hz,Option.map_none,Option.map_some];unfold Instr.sliceAt Instr.slice Instr.sliceBounds Instr.sliceBound asIntOf;have a1:0≤i∧i≤((j.toNat:Nat):Int):=by omega
  have a2:0≤j∧j≤(s.size:Int):=by omega
  simp only[Sem.run_bind,TU.of ht w',Result.andThen_ok,Sem.run_pure,pure_bind,a1,a2,and_self,if_true,Option.isSome_none,Bool.false_eq_true,if_false]) kk
theorem P9{t:TypeId}{s:ByteArray}{k1:IntKind}{i:Int}(ho:all[ix]?= some ⟨some d,.slice t x (some y) none none,ty,pos,aft,g⟩)(ht:P.underlying t=some .string)(hx:ev σ x=some (.string s))(hy:ev σ y=some (.int k1 i))(h0:0≤i)(h2:i≤(s.size:Int))(hN:Nat.blt d X.N=true)(hg:cR all σ g)
  (kk:WL P X bad all K Q os ((d,.string (s.extract i.toNat s.size))::σ) μ Ds):WL P X bad all K Q ((fl,ix)::os) σ μ Ds:=
 bD ho rfl rfl hN hg (fun ρ hρ w'=>by
  simp only[execOp,hρ x _ hx,hρ y _ hy,Option.map_none,Option.map_some];unfold Instr.sliceAt Instr.slice Instr.sliceBounds Instr.sliceBound asIntOf;have a1:0≤i∧i≤((s.size:Nat):Int):=by omega
  simp only[Sem.run_bind,TU.of ht w',Result.andThen_ok,Sem.run_pure,pure_bind,a1,and_self,if_true,Option.isSome_none,Bool.false_eq_true,if_false]) kk
def BR:Value→Bool
 |.nilIface=>true
 |_=>false
theorem m4{t t':TypeId}{c:Value}{ms:Array (String×TypeId)}(ho:all[ix]?= some ⟨some d,.binOp .eql t x (.const .nilIface) t',ty,pos,aft,g⟩)(ht:P.underlying t=some (.interface ms))(hx:ev σ x=some c)(hc:c=.nilIface∨∃t u,c=.iface t u)(hN:Nat.blt d X.N=true)(hg:cR all σ g)
  (kk:WL P X bad all K Q os ((d,.bool (BR c))::σ) μ Ds):WL P X bad all K Q ((fl,ix)::os) σ μ Ds:=
 uE ho (fun w=>by
  have h1:(eqGuard .eql t x (.const .nilIface) c .nilIface).run P w=.ok () w:=by
   rcases hc with rfl|⟨_,_,rfl⟩
   ·simp only[eqGuard];cases x<;>rfl
   ·rfl
  have h2:(Op.equal t c .nilIface).run P w=.ok (BR c) w:=by
   show(Op.equalIn (9999+1) t c .nilIface).run P w=_;rw[Op.equalIn,Sem.run_bind,TU.of ht w];rcases hc with rfl|⟨_,_,rfl⟩<;>rfl
  rw[Sem.run_bind,h1];have h3:(binOp .eql t c .nilIface).run P w=((do Pure.pure (Value.bool (←Op.equal t c .nilIface))):Sem Value).run P w:=by rcases hc with rfl|⟨_,_,rfl⟩<;>rfl
  show(binOp .eql t c .nilIface).run P w=_;rw[h3,Sem.run_bind,h2];rfl) hx rfl hN hg kk
theorem DQ{t t':TypeId}{fs:Array Field}(ho:all[ix]?= some ⟨some d,.typeAssert x t' t true,ty,pos,aft,g⟩)(ht:P.underlying t=some (.struct fs))(hx:ev σ x=some (.iface t v))(hN:Nat.blt d X.N=true)(hg:cR all σ g)
  (kk:WL P X bad all K Q os ((d,.tuple #[v,.bool true])::σ) μ Ds):WL P X bad all K Q ((fl,ix)::os) σ μ Ds:=
 bD ho rfl rfl hN hg (fun ρ hρ w'=>by
  simp only[execOp,hρ x _ hx];unfold Instr.typeAssert;simp only[Sem.run_bind,TU.of ht w',Result.andThen_ok,if_true,Sem.run_pure]) kk

theorem Fn.of_below{f:FuncId}{args:Array Value}{D:aA}{post:aA→Value→Prop}(hEF:EF P f)(h:∀w,dD D w→Calls P f args w fun en w'=>∃r,en=.returned r∧Go.RowKit.Below w.heap.size w w'∧∀D',Le D D'→post D' r):Fn P f args D post:=by
 refine⟨hEF,fun w hw=>(h w hw).mono ?_⟩;rintro en w' ⟨r,he,hb,hp⟩;refine⟨r,D,he,⟨Nat.le_refl _,hb.size,fun b hl _=>hb.block b hl,fun _ _=>rfl,hw.of (fun b hb'=>?_) rfl (hb.block 0 hw.pos),(fun p hp=>by cases hp),List.nodup_nil,(fun p hp=>by cases hp),fun e he=>by rw[←Option.some.inj he];exact Prod.ext hb.os hb.output⟩,hp D (Le.refl _)⟩
 obtain⟨cs,e,fz,h1,h2⟩:=hw.1 b hb';exact⟨cs,e,fz,by rw[hb.block b (bA h1)];exact h1,h2⟩
theorem EO{α:Type}{R:Rd α}{t e:TypeId}{D₁:aA}{ad:Option Addr}{n cap j:Nat}{k:IntKind}{xs:List α}(ho:all[ix]?= some ⟨some d,.slice t x (some y) none none,ty,pos,aft,g⟩)(ht:P.underlying t=some (.slice e))(hs:TS P e 1)(hx:ev σ x=some (.slice ad n cap))(hS:Sl D₁ R 1 (.slice ad n cap) xs)(hy:ev σ y=some (.int k (j:Int)))(hj:j≤n)
  (hN:Nat.blt d X.N=true) (hg:cR all σ g) (kk:∀a',Sl D₁ R 1 (.slice a' (n-j) (cap-j)) (xs.drop j)→WL P X bad all K Q os ((d,.slice a' (n-j) (cap-j))::σ) μ Ds):WL P X bad all K Q ((fl,ix)::os) σ μ Ds:=by
 obtain⟨a,c,hv,h1,h2,h3⟩:=hS;cases hv;refine bD (v:=.slice (if cap=j then ad else ad.map (·.add (j*1))) (xs.length-j) (cap-j)) ho rfl rfl hN hg (fun ρ hρ w'=>?_) (kk _ ⟨_,_,by rw[List.length_drop],by rw[List.length_drop];omega,by rw[List.length_drop];omega,?_⟩)
 ·simp only[execOp,Option.map_none,Option.map_some,hρ x _ hx,hρ y _ hy];unfold Instr.sliceAt Instr.slice Instr.sliceBounds Instr.sliceBound asIntOf;have hle:(0:Int)≤(j:Int)∧(j:Int)≤(xs.length:Nat):=by omega
  simp only[Sem.run_bind,TU.of ht w',Result.andThen_ok,Sem.run_pure,pure_bind,hs w',hle,and_self,if_true,Int.toNat_natCast]
 ·by_cases he:xs.length=j
  ·exact Or.inl (List.drop_eq_nil_of_le Yd)
  ·rcases h3 with h3|⟨b,o,rfl,h3⟩
   ·subst h3;simp at he hj;omega
   ·refine Or.inr ⟨b,o+j,by rw[if_neg Yd];simp[eK],fun i z hi=>?_⟩;rw[List.getElem?_drop]at hi;obtain⟨cs,hr,hc,hA⟩:=h3 _ _ hi;exact⟨cs,hr,hc,by rw[show o+j+i*1=o+(j+i)*1 by omega];exact hA⟩
end Go.Fs
namespace Go.Proofs
open Go.Shelf
def Tryz.laysM171_ren:Go.Shelf.Ren:=⟨fun|171=>87|243=>151|246=>221|283=>256|284=>257|285=>258|286=>259|129=>275|317=>274|318=>276|319=>277|320=>278|337=>287|338=>288|n=>n,fun|3=>3|9=>9|2=>2|4=>4|171=>332|0=>0|53=>333|37=>115|5=>5|173=>336|212=>353|51=>354|20=>20|213=>355|46=>356|232=>375|233=>376|n=>n,fun|17=>0|18=>6|19=>7|n=>n⟩
theorem Tryz.laysM171:Go.Proofs.LaysM.n171 Tryz.prog Tryz.laysM171_ren:={
 mixed:=by kernel_rfl
 f129:=Tryz.func275.trans (congrArg some Yg)
 f171:=Tryz.func87.trans (congrArg some Yg)
 f243:=Tryz.func151.trans (congrArg some Yg)
 f246:=Tryz.func221.trans (congrArg some Yg)
 f283:=Tryz.func256.trans (congrArg some Yg)
 f284:=Tryz.func257.trans (congrArg some Yg)
 f285:=Tryz.func258.trans (congrArg some Yg)
 f286:=Tryz.func259.trans (congrArg some Yg)
 f317:=Tryz.func274.trans (congrArg some Yg)
 f318:=Tryz.func276.trans (congrArg some Yg)
 f319:=Tryz.func277.trans (congrArg some Yg)
 f320:=Tryz.func278.trans (congrArg some Yg)
 f337:=Tryz.func287.trans (congrArg some Yg)
 f338:=Tryz.func288.trans (congrArg some Yg)
 t0:=Tryz.underlying0
 a0:=Tryz.isAgg0
 z0:=Tryz.sizeOf0
 v0:=Tryz.zeroValue0
 t2:=Tryz.underlying2
 a2:=Tryz.isAgg2
 z2:=Tryz.sizeOf2
 v2:=Tryz.zeroValue2
 t3:=Tryz.underlying3
 a3:=Tryz.isAgg3
 z3:=Tryz.sizeOf3
 v3:=Tryz.zeroValue3
 t4:=Tryz.underlying4
 a4:=Tryz.isAgg4
 z4:=Tryz.sizeOf4
 v4:=Tryz.zeroValue4
 t5:=Tryz.underlying5
 a5:=Tryz.isAgg5
 z5:=Tryz.sizeOf5
 v5:=Tryz.zeroValue5
 t9:=Tryz.underlying9
 a9:=Tryz.isAgg9
 z9:=Tryz.sizeOf9
 v9:=Tryz.zeroValue9
 t20:=Tryz.underlying20
 a20:=Tryz.isAgg20
 z20:=Tryz.sizeOf20
 v20:=Tryz.zeroValue20
 t37:=Tryz.underlying115
 a37:=Tryz.isAgg115
 z37:=Tryz.sizeOf115
 v37:=Tryz.zeroValue115
 t46:=Tryz.underlying356
 a46:=Tryz.isAgg356
 z46:=Tryz.sizeOf356
 v46:=Tryz.zeroValue356
 t51:=Tryz.underlying354
 a51:=Tryz.isAgg354
 z51:=Tryz.sizeOf354
 v51:=Tryz.zeroValue354
 t53:=Tryz.underlying333
 a53:=Tryz.isAgg333
 z53:=Tryz.sizeOf333
 v53:=Tryz.zeroValue333
 t171:=Tryz.underlying332
 a171:=Tryz.isAgg332
 z171:=Tryz.sizeOf332
 v171:=Tryz.zeroValue332
 t173:=Tryz.underlying336
 a173:=Tryz.isAgg336
 z173:=Tryz.sizeOf336
 v173:=Tryz.zeroValue336
 t212:=Tryz.underlying353
 a212:=Tryz.isAgg353
 z212:=Tryz.sizeOf353
 v212:=Tryz.zeroValue353
 t213:=Tryz.underlying355
 a213:=Tryz.isAgg355
 z213:=Tryz.sizeOf355
 t232:=Tryz.underlying375
 a232:=Tryz.isAgg375
 z232:=Tryz.sizeOf375
 v232:=Tryz.zeroValue375
 t233:=Tryz.underlying376
 a233:=Tryz.isAgg376
 z233:=Tryz.sizeOf376
 v233:=Tryz.zeroValue376
 g17:=by kernel_rfl
 g18:=by kernel_rfl
 g19:=by kernel_rfl
 i0:=by kernel_rfl
 i2:=by kernel_rfl
 i3:=by kernel_rfl
 i4:=by kernel_rfl
 i5:=by kernel_rfl
 i9:=by kernel_rfl
 i20:=by kernel_rfl
 i37:=by kernel_rfl
 i46:=by kernel_rfl
 i51:=by kernel_rfl
 i53:=by kernel_rfl
 i171:=by kernel_rfl
 i173:=by kernel_rfl
 i212:=by kernel_rfl
 i232:=by kernel_rfl
 i233:=by kernel_rfl
 m17:=by kernel_rfl
 m18:=by kernel_rfl
 m19:=by kernel_rfl}
open Go.RowKit Go.Sort Go.Lib in
theorem Tryz.strconv_Itoa(n:Int)(h0: -9223372036854775808≤n)(h1:n≤9223372036854775807)(w:World)(htab:Lib.TabIs Tryz.prog w "internal/strconv.uint64pow10" .u64 Lib.pow10Tab):
  Calls Tryz.prog 87 #[.int .i64 n] w fun e w'=>e=.returned (.string ⟨(Lib.itoa n).toArray⟩)∧∃k os,w'=grow (w.drewN k) os:=Any.strconv_Itoa Tryz.laysM171 n h0 h1 w htab
def Tryz.laysC172_ren:Go.Shelf.Ren:=⟨fun|172=>200|244=>246|245=>247|247=>267|279=>268|280=>269|281=>270|282=>271|287=>284|316=>285|171=>87|205=>286|321=>291|322=>292|243=>151|246=>221|283=>256|284=>257|285=>258|286=>259|129=>275|317=>274|318=>276|319=>277|320=>278|337=>287|338=>288|n=>n,fun|9=>9|3=>3|75=>188|76=>189|4=>4|5=>5|167=>346|37=>115|0=>0|85=>347|2=>2|168=>349|53=>333|175=>358|46=>356|210=>362|127=>265|145=>374|143=>372|21=>21|171=>332|173=>336|212=>353|51=>354|20=>20|213=>355|232=>375|233=>376|80=>199|n=>n,fun|15=>2|16=>3|17=>0|18=>6|19=>7|n=>n⟩
theorem Tryz.laysC172:Go.Proofs.LaysC.n172 Tryz.prog Tryz.laysC172_ren:={
 mixed:=by kernel_rfl
 f129:=Tryz.func275.trans (congrArg some Yg)
 f171:=Tryz.func87.trans (congrArg some Yg)
 f172:=Tryz.func200.trans (congrArg some Yg)
 f205:=Tryz.func286.trans (congrArg some Yg)
 f243:=Tryz.func151.trans (congrArg some Yg)
 f244:=Tryz.func246.trans (congrArg some Yg)
 f245:=Tryz.func247.trans (congrArg some Yg)
 f246:=Tryz.func221.trans (congrArg some Yg)
 f247:=Tryz.func267.trans (congrArg some Yg)
 f279:=Tryz.func268.trans (congrArg some Yg)
 f280:=Tryz.func269.trans (congrArg some Yg)
 f281:=Tryz.func270.trans (congrArg some Yg)
 f282:=Tryz.func271.trans (congrArg some Yg)
 f283:=Tryz.func256.trans (congrArg some Yg)
 f284:=Tryz.func257.trans (congrArg some Yg)
 f285:=Tryz.func258.trans (congrArg some Yg)
 f286:=Tryz.func259.trans (congrArg some Yg)
 f287:=Tryz.func284.trans (congrArg some Yg)
 f316:=Tryz.func285.trans (congrArg some Yg)
 f317:=Tryz.func274.trans (congrArg some Yg)
 f318:=Tryz.func276.trans (congrArg some Yg)
 f319:=Tryz.func277.trans (congrArg some Yg)
 f320:=Tryz.func278.trans (congrArg some Yg)
 f321:=Tryz.func291.trans (congrArg some Yg)
 f322:=Tryz.func292.trans (congrArg some Yg)
 f337:=Tryz.func287.trans (congrArg some Yg)
 f338:=Tryz.func288.trans (congrArg some Yg)
 t0:=Tryz.underlying0
 a0:=Tryz.isAgg0
 z0:=Tryz.sizeOf0
 v0:=Tryz.zeroValue0
 t2:=Tryz.underlying2
 a2:=Tryz.isAgg2
 z2:=Tryz.sizeOf2
 v2:=Tryz.zeroValue2
 t3:=Tryz.underlying3
 a3:=Tryz.isAgg3
 z3:=Tryz.sizeOf3
 v3:=Tryz.zeroValue3
 t4:=Tryz.underlying4
 a4:=Tryz.isAgg4
 z4:=Tryz.sizeOf4
 v4:=Tryz.zeroValue4
 t5:=Tryz.underlying5
 a5:=Tryz.isAgg5
 z5:=Tryz.sizeOf5
 v5:=Tryz.zeroValue5
 t9:=Tryz.underlying9
 a9:=Tryz.isAgg9
 z9:=Tryz.sizeOf9
 v9:=Tryz.zeroValue9
 t20:=Tryz.underlying20
 a20:=Tryz.isAgg20
 z20:=Tryz.sizeOf20
 v20:=Tryz.zeroValue20
 t21:=Tryz.underlying21
 a21:=Tryz.isAgg21
 z21:=Tryz.sizeOf21
 v21:=Tryz.zeroValue21
 t37:=Tryz.underlying115
 a37:=Tryz.isAgg115
 z37:=Tryz.sizeOf115
 v37:=Tryz.zeroValue115
 t46:=Tryz.underlying356
 a46:=Tryz.isAgg356
 z46:=Tryz.sizeOf356
 v46:=Tryz.zeroValue356
 t51:=Tryz.underlying354
 a51:=Tryz.isAgg354
 z51:=Tryz.sizeOf354
 v51:=Tryz.zeroValue354
 t53:=Tryz.underlying333
 a53:=Tryz.isAgg333
 z53:=Tryz.sizeOf333
 v53:=Tryz.zeroValue333
 t75:=Tryz.underlying188
 a75:=Tryz.isAgg188
 z75:=Tryz.sizeOf188
 v75:=Tryz.zeroValue188
 t76:=Tryz.underlying189
 a76:=Tryz.isAgg189
 z76:=Tryz.sizeOf189
 v76:=Tryz.zeroValue189
 t85:=Tryz.underlying347
 a85:=Tryz.isAgg347
 z85:=Tryz.sizeOf347
 v85:=Tryz.zeroValue347
 t127:=Tryz.underlying265
 a127:=Tryz.isAgg265
 z127:=Tryz.sizeOf265
 v127:=Tryz.zeroValue265
 t143:=Tryz.underlying372
 a143:=Tryz.isAgg372
 z143:=Tryz.sizeOf372
 v143:=Tryz.zeroValue372
 t145:=Tryz.underlying374
 a145:=Tryz.isAgg374
 z145:=Tryz.sizeOf374
 v145:=Tryz.zeroValue374
 t167:=Tryz.underlying346
 a167:=Tryz.isAgg346
 z167:=Tryz.sizeOf346
 v167:=Tryz.zeroValue346
 t168:=Tryz.underlying349
 a168:=Tryz.isAgg349
 z168:=Tryz.sizeOf349
 v168:=Tryz.zeroValue349
 t171:=Tryz.underlying332
 a171:=Tryz.isAgg332
 z171:=Tryz.sizeOf332
 v171:=Tryz.zeroValue332
 t173:=Tryz.underlying336
 a173:=Tryz.isAgg336
 z173:=Tryz.sizeOf336
 v173:=Tryz.zeroValue336
 t175:=Tryz.underlying358
 a175:=Tryz.isAgg358
 z175:=Tryz.sizeOf358
 v175:=Tryz.zeroValue358
 t210:=Tryz.underlying362
 a210:=Tryz.isAgg362
 z210:=Tryz.sizeOf362
 v210:=Tryz.zeroValue362
 t212:=Tryz.underlying353
 a212:=Tryz.isAgg353
 z212:=Tryz.sizeOf353
 v212:=Tryz.zeroValue353
 t213:=Tryz.underlying355
 a213:=Tryz.isAgg355
 z213:=Tryz.sizeOf355
 t232:=Tryz.underlying375
 a232:=Tryz.isAgg375
 z232:=Tryz.sizeOf375
 v232:=Tryz.zeroValue375
 t233:=Tryz.underlying376
 a233:=Tryz.isAgg376
 z233:=Tryz.sizeOf376
 v233:=Tryz.zeroValue376
 g15:=by kernel_rfl
 g16:=by kernel_rfl
 g17:=by kernel_rfl
 g18:=by kernel_rfl
 g19:=by kernel_rfl
 t80:=Tryz.underlying199
 a80:=Tryz.isAgg199
 z80:=Tryz.sizeOf199
 v80:=Tryz.zeroValue199
 i0:=by kernel_rfl
 i2:=by kernel_rfl
 i3:=by kernel_rfl
 i4:=by kernel_rfl
 i5:=by kernel_rfl
 i9:=by kernel_rfl
 i20:=by kernel_rfl
 i21:=by kernel_rfl
 i37:=by kernel_rfl
 i46:=by kernel_rfl
 i51:=by kernel_rfl
 i53:=by kernel_rfl
 i75:=by kernel_rfl
 i76:=by kernel_rfl
 i80:=by kernel_rfl
 i85:=by kernel_rfl
 i127:=by kernel_rfl
 i143:=by kernel_rfl
 i145:=by kernel_rfl
 i167:=by kernel_rfl
 i168:=by kernel_rfl
 i171:=by kernel_rfl
 i173:=by kernel_rfl
 i175:=by kernel_rfl
 i210:=by kernel_rfl
 i212:=by kernel_rfl
 i232:=by kernel_rfl
 i233:=by kernel_rfl
 m15:=by kernel_rfl
 m16:=by kernel_rfl
 m17:=by kernel_rfl
 m18:=by kernel_rfl
 m19:=by kernel_rfl
 c0:=by kernel_rfl
 c2:=by kernel_rfl
 c3:=by kernel_rfl
 c4:=by kernel_rfl
 c5:=by kernel_rfl
 c9:=by kernel_rfl
 c20:=by kernel_rfl
 c21:=by kernel_rfl
 c37:=by kernel_rfl
 c46:=by kernel_rfl
 c51:=by kernel_rfl
 c53:=by kernel_rfl
 c75:=by kernel_rfl
 c76:=by kernel_rfl
 c80:=by kernel_rfl
 c85:=by kernel_rfl
 c127:=by kernel_rfl
 c143:=by kernel_rfl
 c145:=by kernel_rfl
 c167:=by kernel_rfl
 c168:=by kernel_rfl
 c171:=by kernel_rfl
 c173:=by kernel_rfl
 c175:=by kernel_rfl
 c210:=by kernel_rfl
 c212:=by kernel_rfl
 c213:=by kernel_rfl
 c232:=by kernel_rfl
 c233:=by kernel_rfl}
open Go.RowKit in
theorem Tryz.strconv_Atoi_ok(s:ByteArray)(hmax:s.size≤9223372036854775806)(v:Int)(h:Lib.atoiAll s.data.toList=.ok v)(w:World):
  Calls Tryz.prog 200 #[.string s] w fun e w'=>e=.returned (.tuple #[.int .i64 v,.nilIface])∧(w'=w∨∃t,w'=Lib.bytesWorld w 5 t):=Any.strconv_Atoi_ok Tryz.laysC172 s hmax v h w
open Go.RowKit in
theorem Tryz.strconv_Atoi_syntax(s:ByteArray)(hlim:s.size≤281474976710656)(h:Lib.atoiAll s.data.toList=Lib.atoiAll [])(ev:Value)(w:World)(hv:w.cell? ⟨2,0,none⟩=some ev)(hev:ev=.nilIface∨∃te pe,ev=.iface te pe):
  Calls Tryz.prog 200 #[.string s] w fun e w'=>∃N,e=.returned (.tuple #[.int .i64 (0),.iface 349 (.pointer (some ⟨N,0,none⟩))])∧w.heap.size≤N∧w'.heap[N]?= some (.cells #[.string ⟨#[65,116,111,105]⟩,.string s,ev] 362 (0,0))∧Below w.heap.size w w':=Any.strconv_Atoi_syntax Tryz.laysC172 s hlim h ev w hv hev
open Go.RowKit in
theorem Tryz.strconv_Atoi_range(s:ByteArray)(hlim:s.size≤281474976710656)(h:Lib.atoiAll s.data.toList=.range)(ev:Value)(w:World)(hv:w.cell? ⟨3,0,none⟩=some ev)(hev:ev=.nilIface∨∃te pe,ev=.iface te pe):
  Calls Tryz.prog 200 #[.string s] w fun e w'=>∃N,e=.returned (.tuple #[.int .i64 (Lib.atoiSat s.data.toList),.iface 349 (.pointer (some ⟨N,0,none⟩))])∧w.heap.size≤N∧w'.heap[N]?= some (.cells #[.string ⟨#[65,116,111,105]⟩,.string s,ev] 362 (0,0))∧Below w.heap.size w w':=Any.strconv_Atoi_range Tryz.laysC172 s hlim h ev w hv hev
def Tryz.lays146_ren:Go.Shelf.Ren:=⟨fun|146=>119|221=>176|268=>232|138=>233|143=>234|195=>263|197=>264|218=>265|219=>266|260=>279|217=>280|225=>281|224=>282|267=>283|266=>289|314=>290|n=>n,fun|9=>9|31=>22|3=>3|4=>4|0=>0|105=>343|21=>21|5=>5|46=>356|119=>365|139=>368|138=>367|146=>369|51=>354|n=>n,fun|1=>1|3=>4|4=>5|n=>n⟩
theorem Tryz.lays146:Go.Proofs.Lays.n146 Tryz.prog Tryz.lays146_ren:={
 mixed:=by kernel_rfl
 f138:=Tryz.func233.trans (congrArg some Yg)
 f143:=Tryz.func234.trans (congrArg some Yg)
 f146:=Tryz.func119.trans (congrArg some Yg)
 f195:=Tryz.func263.trans (congrArg some Yg)
 f197:=Tryz.func264.trans (congrArg some Yg)
 f217:=Tryz.func280.trans (congrArg some Yg)
 f218:=Tryz.func265.trans (congrArg some Yg)
 f219:=Tryz.func266.trans (congrArg some Yg)
 f221:=Tryz.func176.trans (congrArg some Yg)
 f224:=Tryz.func282.trans (congrArg some Yg)
 f225:=Tryz.func281.trans (congrArg some Yg)
 f260:=Tryz.func279.trans (congrArg some Yg)
 f266:=Tryz.func289.trans (congrArg some Yg)
 f267:=Tryz.func283.trans (congrArg some Yg)
 f268:=Tryz.func232.trans (congrArg some Yg)
 f314:=Tryz.func290.trans (congrArg some Yg)
 t0:=Tryz.underlying0
 a0:=Tryz.isAgg0
 z0:=Tryz.sizeOf0
 v0:=Tryz.zeroValue0
 t3:=Tryz.underlying3
 a3:=Tryz.isAgg3
 z3:=Tryz.sizeOf3
 v3:=Tryz.zeroValue3
 t4:=Tryz.underlying4
 a4:=Tryz.isAgg4
 z4:=Tryz.sizeOf4
 v4:=Tryz.zeroValue4
 t5:=Tryz.underlying5
 a5:=Tryz.isAgg5
 z5:=Tryz.sizeOf5
 v5:=Tryz.zeroValue5
 t9:=Tryz.underlying9
 a9:=Tryz.isAgg9
 z9:=Tryz.sizeOf9
 v9:=Tryz.zeroValue9
 t21:=Tryz.underlying21
 a21:=Tryz.isAgg21
 z21:=Tryz.sizeOf21
 v21:=Tryz.zeroValue21
 t31:=Tryz.underlying22
 a31:=Tryz.isAgg22
 z31:=Tryz.sizeOf22
 v31:=Tryz.zeroValue22
 t46:=Tryz.underlying356
 a46:=Tryz.isAgg356
 z46:=Tryz.sizeOf356
 v46:=Tryz.zeroValue356
 t51:=Tryz.underlying354
 a51:=Tryz.isAgg354
 z51:=Tryz.sizeOf354
 v51:=Tryz.zeroValue354
 t105:=Tryz.underlying343
 a105:=Tryz.isAgg343
 z105:=Tryz.sizeOf343
 v105:=Tryz.zeroValue343
 t119:=Tryz.underlying365
 a119:=Tryz.isAgg365
 z119:=Tryz.sizeOf365
 t138:=Tryz.underlying367
 a138:=Tryz.isAgg367
 z138:=Tryz.sizeOf367
 v138:=Tryz.zeroValue367
 t139:=Tryz.underlying368
 a139:=Tryz.isAgg368
 z139:=Tryz.sizeOf368
 v139:=Tryz.zeroValue368
 t146:=Tryz.underlying369
 a146:=Tryz.isAgg369
 z146:=Tryz.sizeOf369
 v146:=Tryz.zeroValue369
 g1:=by kernel_rfl
 g3:=by kernel_rfl
 g4:=by kernel_rfl}
open Go.RowKit Go.Lib in
theorem Tryz.strings_Split(s sep:ByteArray)(m:Int)(w:World)(hs:s.size<4294967281)(hm:w.cell? ⟨1,0,none⟩=some (.int .i64 m))(h1:1≤sep.size):
  Calls Tryz.prog 119 #[.string s,.string sep] w fun e w'=>
   e=.returned (.slice (some ⟨w.heap.size,0,none⟩) (Lib.countB s sep+1) (Lib.countB s sep+1))∧w'=w.alloc (.cells ((Lib.splitB sep 0 (Lib.countB s sep) s).map Value.string).toArray 9):=Any.strings_Split Tryz.lays146 Yg s sep m w hs hm h1
end Go.Proofs
namespace Go.Fs
open Go.Proofs
namespace L12
open C12 Go.Lib
structure jS(D:aA):Prop where
 tab:D 0=pow10Tab.map (Value.int .u64)
 maxLen:∃m,(D 1)[0]?= some (.int .i64 m)
 esyn:∃c,(D 2)[0]?= some c∧(c=.nilIface∨∃t u,c=.iface t u)
 erng:∃c,(D 3)[0]?= some c∧(c=.nilIface∨∃t u,c=.iface t u)
theorem jS.up{D D':aA}(h:jS D)(hl:Le D D'):jS D':=by
 obtain⟨h1,⟨m,h2⟩,⟨c,h3,h3'⟩,⟨e,h4,h4'⟩⟩:=h;exact⟨hl.2.trans h1,⟨m,hl.get h2⟩,⟨c,hl.get h3,h3'⟩,⟨e,hl.get h4,h4'⟩⟩
theorem jS.tabIs{D:aA}(h:jS D){w:World}(hw:dD D w):TabIs Tryz.prog w "internal/strconv.uint64pow10" .u64 pow10Tab:=by
 have hg:Tryz.prog.globalNamed "internal/strconv.uint64pow10" =some 0:=by kernel_rfl
 obtain⟨-, -,e,fz,h0⟩:=hw;unfold TabIs World.var?;rw[hg,Option.bind_some,h0,h.tab]
theorem Z4(w:World)(e:TypeId)(t:ByteArray):Go.RowKit.Below w.heap.size w (bytesWorld w e t):=⟨rfl,rfl,rfl,by rw[bytesWorld_size];omega,fun b hb=>bytesWorld_at_old w e t b hb⟩
theorem X6(w:World)(k:Nat)(os:Array Obj):Go.RowKit.Below w.heap.size w (Go.Sort.grow (w.drewN k) os):=
 ⟨rfl,rfl,rfl,by show w.heap.size≤(w.heap++os).size;rw[Array.size_append];omega,fun b hb=>by show(w.heap++os)[b]?= _;rw[Array.getElem?_append_left hb]⟩
theorem NC(n:Int)(hn:qD .i64 n)(D:aA)(hV:jS D):Fn Tryz.prog 87 #[.int .i64 n] D (fun _ v=>v=.string (vU (itoa n))):=by
 have hb: -9223372036854775808≤n∧n≤9223372036854775807:=by simpa [qD]using hn
 refine Fn.of_below (EF.of Tryz.func87 rfl rfl) fun w hw=>(Go.Proofs.Tryz.strconv_Itoa n hb.1 hb.2 w (hV.tabIs hw)).mono ?_
 rintro e w' ⟨rfl,k,os,rfl⟩;exact⟨_,rfl,X6 w k os,fun _ _=>rfl⟩
theorem JJ(s:ByteArray)(hs:s.size≤1000)(D:aA)(hV:jS D):Fn Tryz.prog 119 #[.string s,.string ⟨#[32]⟩] D (fun D' v=>Sl D' RS 1 v (cK s)):=by
 obtain⟨m,hm⟩:=hV.maxLen;refine Fn.of_alloc (cs:=(cK s).map Value.string) (e:=9) (r:=fun b=>.slice (some ⟨b,0,none⟩) (cK s).length (cK s).length) (EF.of Tryz.func119 rfl rfl) (fun w hw=>(Go.Proofs.Tryz.strings_Split s ⟨#[32]⟩ m w Yd (hw.cell hm) Yz).mono ?_) fun D' b _ hA=>?_
 ·rintro e w' ⟨rfl,rfl⟩;rw[j5,V9];exact⟨rfl,rfl⟩
 ·have hl:(cK s).length≤1001:=by unfold cK;rw[List.length_map];exact Nat.le_trans (K3 _) (by show s.size+1≤1001;omega)
  refine⟨_,_,rfl,Nat.le_refl _,by omega,Or.inr ⟨b,0,rfl,fun i x hi=>⟨_,rfl,rfl,fun j v hj=>?_⟩⟩⟩;cases j with
  |zero=>
   obtain rfl:Value.string x=v:=by simpa using hj
   have h:=hA i (.string x) (by rw[List.getElem?_map,hi];rfl);simpa using h
  |succ j=>simp at hj
theorem OA(s:ByteArray)(hs:s.size≤1000)(D:aA)(hV:jS D):Fn Tryz.prog 200 #[.string s] D (fun _ v=>∃m c,v=.tuple #[.int .i64 m,c]∧qD .i64 m∧((c=.nilIface∧atoiAll s.data.toList=.ok m)∨((∃t u,c=.iface t u)∧∀x,atoiAll s.data.toList≠.ok x))):=by
 refine Fn.of_below (EF.of Tryz.func200 rfl rfl) fun w hw=>?_
 rcases h:atoiAll s.data.toList with v|_|_
 ·refine(Go.Proofs.Tryz.strconv_Atoi_ok s Yd v h w).mono ?_;rintro e w' ⟨rfl,hw'⟩;refine⟨_,rfl,?_,fun _ _=>⟨v,_,rfl,by have:=atoiAll_bounds h;simp only[qD];omega,Or.inl ⟨rfl,rfl⟩⟩⟩
  rcases hw' with rfl|⟨t,rfl⟩
  ·exact .refl _ _
  ·exact Z4 w _ t
 ·obtain⟨c,hc,hc'⟩:=hV.esyn;refine(Go.Proofs.Tryz.strconv_Atoi_syntax s Yd h c w (hw.cell hc) hc').mono ?_;rintro e w' ⟨N,rfl,_,_,hb⟩;exact⟨_,rfl,hb,fun _ _=>⟨0,_,rfl,by simp only[qD];omega,Or.inr ⟨⟨_,_,rfl⟩,fun x hx=>by cases hx⟩⟩⟩
 ·obtain⟨c,hc,hc'⟩:=hV.erng;refine(Go.Proofs.Tryz.strconv_Atoi_range s Yd h c w (hw.cell hc) hc').mono ?_;rintro e w' ⟨N,rfl,_,_,hb⟩;exact⟨_,rfl,hb,fun _ _=>⟨_,_,rfl,by unfold atoiSat;split<;>simp only[qD]<;>omega,Or.inr ⟨⟨_,_,rfl⟩,fun x hx=>by cases hx⟩⟩⟩
theorem KU{s:ByteArray}{m:Int}{c:Value}(h:(c=.nilIface∧atoiAll s.data.toList=.ok m)∨((∃t u,c=.iface t u)∧∀x,atoiAll s.data.toList≠.ok x)):jC s.data.toList=if(((BR c&&decide (m≥0))&&decide ((s.size:Int)≤3))&&decide (vU (itoa m)=s))=true then some m else none:=by
 rw[←AB];unfold MQ;rcases h with⟨rfl,h⟩|⟨⟨t,u,rfl⟩,h⟩
 ·rw[h];have e:s.data.toList.length=s.size:=rfl;have e2:(vU (itoa m)=s) ↔ itoa m=s.data.toList:=⟨fun h=>by rw[←h];rfl,fun h=>by rw[h];exact pD s⟩
  simp only[BR,Bool.true_and,Bool.and_eq_true,decide_eq_true_eq,e,e2,and_assoc];congr 1;simp only[eq_iff_iff];constructor
  ·rintro⟨h1,h2,h3⟩;exact⟨h1,by omega,h3⟩
  ·rintro⟨h1,h2,h3⟩;exact⟨h1,by omega,h3⟩
 ·split
  ·rename_i v hv;exact absurd hv (h v)
  ·rfl
theorem NF{s:ByteArray}{m:Int}{c:Value}(h:(c=.nilIface∧atoiAll s.data.toList=.ok m)∨((∃t u,c=.iface t u)∧∀x,atoiAll s.data.toList≠.ok x)):(((BR c&&decide (m≥0))&&decide ((s.size:Int)≤3))&&decide (vU (itoa m)=s))=true→jC s.data.toList=some m:=fun hb=>by rw[KU h,if_pos hb]
theorem PP{s:ByteArray}{m:Int}{c:Value}(h:(c=.nilIface∧atoiAll s.data.toList=.ok m)∨((∃t u,c=.iface t u)∧∀x,atoiAll s.data.toList≠.ok x)):(((BR c&&decide (m≥0))&&decide ((s.size:Int)≤3))&&decide (vU (itoa m)=s))=false→jC s.data.toList=none:=fun hb=>by rw[KU h,if_neg (by rw[hb];simp)]
theorem CU(s:ByteArray)(hs:s.size≤1000)(D:aA)(hV:jS D):Fn Tryz.prog 122 #[.string s] D (fun _ v=>∃m b,v=.tuple #[.int .i64 m,.bool b]∧(b=true→jC s.data.toList=some m)∧(b=false→jC s.data.toList=none)):=by
 refine enter 29 Tryz.func122 rfl rfl rfl rfl fun h0=>Zy (C.rg (Zj rfl (Zj rfl (Zo (Zx (Zy (C.rg (Za rfl (cW rfl rfl rfl (fun D1 hD1=>OA s hs _ (hV.up (hD1 _ Ye))) rfl trivial (fun v1 D1 hD1 hp1=>?_))))))))))
 obtain⟨m,c,rfl,hm2,hm3⟩:=hp1;refine Za rfl (Zz rfl (Zz rfl (Zj rfl (Zj rfl (Zo (Zx (Zy (C.rg (Za rfl (Za rfl (m4 rfl U188 rfl (by rcases hm3 with⟨h,_⟩|⟨h,_⟩;exact Or.inl h;exact Or.inr h) rfl trivial ?_)))))))))));refine Za rfl ?_;refine' dA [(false,4),(false,5),(false,6)] [(false,7),(false,8),(false,9),(false,10),(false,11),(false,12),(false,13),(false,14),(false,15),(false,16),(false,17),(false,18),(false,19)] (s:=14) (p:=17) rfl rfl (fun hg1=>?_) (fun hg1=>?_) ?_;rotate_left
 ·refine Zb rfl (kX rfl rfl rfl rfl ⟨_,rfl,rfl⟩ (Zv rfl ?_));exact aF fun a w hh=>hh.cutK 2 rfl
 ·refine Zi rfl (Zi rfl (Zw rfl ?_));exact aF fun a w hh=>hh.cutK 2 rfl
 refine Za rfl ?_;refine' dA [(false,8),(false,9),(false,10),(false,11)] [(false,12),(false,13),(false,14),(false,15),(false,16),(false,17),(false,18),(false,19)] (s:=18) (p:=22) rfl rfl (fun hg2=>?_) (fun hg2=>?_) ?_;rotate_left
 ·refine Zb rfl (jK rfl U9 rfl rfl rfl ⟨_,rfl,rfl⟩ (gV rfl rfl rfl rfl ⟨_,rfl,rfl⟩ (Zv rfl ?_)));exact aF fun a w hh=>hh.cutK 3 rfl
 ·refine Zi rfl (Zi rfl (Zi rfl (Zw rfl ?_)));exact aF fun a w hh=>hh.cutK 3 rfl
 refine Za rfl ?_;refine' dA [(false,13),(false,14),(false,15),(false,16),(false,17)] [(false,18),(false,19)] (s:=23) (p:=28) rfl rfl (fun hg3=>?_) (fun hg3=>?_) ?_;rotate_left
 ·refine Zb rfl (Ze rfl (fun D2 hD2=>NC m hm2 _ (hV.up (hD2 _ Ye))) (Zb rfl (bN rfl rfl rfl rfl ⟨_,rfl,rfl⟩ (Zv rfl ?_))));exact aF fun a w hh=>hh.cutK 4 rfl
 ·refine Zi rfl (Zi rfl (Zi rfl (Zi rfl (Zw rfl ?_))));exact aF fun a w hh=>hh.cutK 4 rfl
 refine Zj rfl (Zj rfl (Zo (Zx (aC ?_))));exact Zc [_,_] rfl C.rs (fun D hD=>⟨m,_,rfl,NF hm3,PP hm3⟩)
end L12
end Go.Fs
