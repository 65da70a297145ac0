/- Of the proof of TopEntered: SW2, SW3, SW4, SW5, Pair, Pairs, Nu, Mend, SW6, SW7, SW8, UW3, UW4, UW5. -/
import Derived.Test.YthchgbimdmiemaaGreatDoorZTopEnteredAE
import Derived.Test.YthchgbimdmiemaaGreatDoorZTopEnteredAC
import Derived.Test.YthchgbimdmiemaaGreatDoorZTopEnteredAD
namespace Go.Fs
open Go.Proofs
namespace L7
open C7
theorem ON{p:Pt}:(p.l== [1,1,1])=gM p:=by
 obtain⟨a,b,c⟩:=p;simp only[gM,Pt.l,Pt.mk.injEq];rw[Bool.eq_iff_iff];simp
theorem HV{m k i:Nat}(hk:m.testBit k=true)(h1:i≤k)(h:((m >>> i:Nat):Int)%2=0):i+1≤k:=by
 rw[pW]at h;have:i≠k:=by rintro rfl;rw[hk]at h;simp at h
 omega
theorem MD{m k i:Nat}(hl:∀i,i<k→m.testBit i=false)(h1:i≤k)(h:¬((m >>> i:Nat):Int)%2=0):i=k:=by
 rw[pW]at h;by_cases hi:i<k
 ·rw[hl i hi]at h;simp at h
 ·omega
theorem wR(r:Int×Int)(n:Int)(D:aA):Fn Tryz.prog 172 #[gT r,.int .i64 n] D (fun _ v=>v=.bool (eY n r.1 r.2)):=by
 refine enter 11 Tryz.func172 rfl rfl rfl rfl fun h0=>Zy (C.rg (Zr rfl (fun q1 E1 hE1 hB1=>Zj rfl (Zo (Zx (Zy (C.rg (Za rfl (Zk rfl Tf.f69_0 rfl (Zg 0 rfl Tf.a3 rfl hB1 rfl ?_))))))))));refine Zk rfl Tf.f69_1 rfl (Zg 1 rfl Tf.a3 rfl hB1 rfl (Zd rfl (fun D1 hD1=>cX _ _ _ _) (Zj rfl (Zo (Zx (aC ?_))))))
 exact Zc [_] rfl ⟨rfl,trivial⟩ (fun D hD=>rfl)
theorem lW(r:Int×Int)(n:Int)(D:aA):Fn Tryz.prog 56 #[gT r,.int .i64 n] D (fun _ v=>v=gT (min r.1 n,max r.2 n)):=by
 refine enter 15 Tryz.func56 rfl rfl rfl rfl fun h0=>Zy (C.rg (Zr rfl (fun q1 E1 hE1 hB1=>Zu rfl Tf.z69 rfl (fun q2=>Zo (Zx (Zy (mW [] 4 [0,1,2,5,6,7,8,3,4,9,10] [false,false,true,true,true,true,true,true,true,false,false] [(false,0),(false,1),(true,2),(true,5),(true,6),(true,7),(true,8),(true,3),(true,4),(false,9),(false,10)] Tf.follows (fun _ _ _ h=>dI (P:=Tryz.prog) (fn:=Tryz.f56) _ _ _ h) Yg rfl (Zk rfl Tf.f69_0 rfl (Zg 0 rfl Tf.a3 rfl hB1 rfl (Za rfl ?_))))))))));refine Zk rfl Tf.f69_1 rfl (Zg 1 rfl Tf.a3 rfl hB1 rfl (Za rfl (mT rfl rfl rfl rfl trivial (Zm rfl U25 Tf.s3 Tf.z3 rfl rfl rfl rfl (.cons rfl rfl (.cons rfl rfl .nil)) (fun b901 D901 hD901 hA901=>?_)))))
 have hS901:=Sl.ofInts (l:=[_,_]) (n:=2) (cap:=2) hA901 rfl Yd Yd;refine Zd rfl (fun D1 hD1=>iY _ r.1 [n] _ (hS901.up RI.up (hD1 _ Ye))) (Zp [.int .i64 (min r.1 n),.int .i64 (max r.2 n)] rfl Tf.p69 Tf.z69 rfl rfl (Zs rfl Tf.s69 (cY.head) (Zo (Zx (aC ?_)))));exact Zc [_] rfl ⟨⟨_,_,_,rfl,(List.Mem.head _),Or.inr ⟨Tf.a69,(by first|exact Tf.s69|(simp only[List.size_toArray,aQ, *];exact Tf.s69)),rfl⟩⟩,trivial⟩ (fun D hD=>rfl)
theorem CA(n m:Int)(b:Nat)(D:aA)(hB:At D b 0 [.int .i64 m]):Fn Tryz.prog 229 #[.int .i64 n,.pointer (some ⟨b,0,none⟩)] D (fun _ v=>v=.bool (eY n 0 m)):=by
 refine enter 7 Tryz.func229 rfl rfl rfl rfl fun h0=>Zy (C.rg (Zj rfl (Zo (Zx (Zy (C.rg (Za rfl (Zg 0 rfl Tf.a3 rfl hB rfl (Zd rfl (fun D1 hD1=>cX _ _ _ _) (Zj rfl ?_))))))))));refine Zo (Zx (aC ?_))
 exact Zc [_] rfl ⟨rfl,trivial⟩ (fun D hD=>rfl)
theorem GN(p:Pt)(m:Int)(D:aA):Fn Tryz.prog 164 #[TY p,.int .i64 m] D (fun _ v=>v=.bool (y7 p m)):=by
 refine enter 8 Tryz.func164 rfl rfl rfl rfl fun h0=>Zy (C.rg (Zr rfl (fun q1 E1 hE1 hB1=>Zr rfl (fun q2 E2 hE2 hB2=>Zj rfl (Zo (Zx (Zy (C.rg (HP rfl U146 Tf.s3 rfl rfl trivial (bH rfl rfl rfl rfl trivial ?_))))))))));refine Zd rfl (fun D1 hD1=>sR _ _ p.l (fun x=>eY x 0 m) _ (Sl.ofInts (l:=p.l) (n:=3) (cap:=3) (hB1.up (hD1 _ Ye)) rfl Yd Yd) ⟨_,[],[_],rfl,fun x D2 hl=>CA x m q2 D2 (hB2.up ((hD1 _ Ye).trans hl))⟩ rfl) (Zj rfl (Zo (Zx (aC ?_))))
 exact Zc [_] rfl ⟨rfl,trivial⟩ (fun D hD=>rfl)
theorem zT(c:Ch)(D:aA):Fn Tryz.prog 98 #[SE c] D (fun _ v=>v=.bool (fY c)):=by
 refine enter 11 Tryz.func98 rfl rfl rfl rfl fun h0=>Zy (C.rg (Zr rfl (fun q1 E1 hE1 hB1=>Zj rfl (Zo (Zx (Zy (C.rg (Zk rfl Tf.f148_0 rfl (Zg 0 rfl Tf.a3 rfl hB1 rfl (Zd rfl (fun D1 hD1=>cX _ _ _ _) ?_))))))))));refine Za rfl ?_
 refine' dA [(false,4),(false,5),(false,6),(false,7)] [(false,8)] (s:=6) (p:=10) rfl rfl (fun hg1=>?_) (fun hg1=>?_) ?_;rotate_left
 ·refine Zl rfl Tf.f148_1 rfl (gC rfl (k:=1) Tf.a146 Tf.s146 rfl hB1 Yc rfl rfl List.not_mem_nil rfl ⟨_,rfl,rfl⟩ (Ze rfl (fun D2 hD2=>GN c.parts 2 _) (Zv rfl ?_)));exact aF fun a w hh=>hh.cutK 3 rfl
 ·refine Zi rfl (Zi rfl (Zi rfl (Zw rfl ?_)));exact aF fun a w hh=>hh.cutK 3 rfl
 refine Zj rfl (Zo (Zx (aC ?_)));exact Zc [_] rfl ⟨rfl,trivial⟩ (fun D hD=>rfl)
theorem IV(yv:Value)(y:bO)(r:Int×Int)(D:aA)(hy:kS D yv y):Fn Tryz.prog 95 #[yv,gT r] D (fun _ v=>v=.bool (jN r)):=by
 obtain⟨cv,qv,rfl,hc,hq⟩:=hy;refine enter 20 Tryz.func95 rfl rfl rfl rfl fun h0=>Zy (C.rg (Zr rfl (fun q1 E1 hE1 hB1=>Zr rfl (fun q2 E2 hE2 hB2=>Zj rfl (Zo (Zx (Zy (C.rg (Zk rfl Tf.f69_0 rfl (Zg 0 rfl Tf.a3 rfl hB2 rfl ?_))))))))));refine gV rfl rfl rfl rfl trivial (Za rfl ?_)
 refine' dA [(false,4),(false,5),(false,6),(false,7),(false,8),(false,9)] [(false,10),(false,11),(false,12),(false,13),(false,14),(false,15)] (s:=8) (p:=14) rfl rfl (fun hg1=>?_) (fun hg1=>?_) ?_;rotate_left
 ·refine Zl rfl Tf.f69_0 rfl (Zh 0 rfl Tf.a3 rfl hB2 rfl (Zl rfl Tf.f69_1 rfl (Zh 1 rfl Tf.a3 rfl hB2 rfl (gV rfl rfl rfl rfl ⟨_,rfl,rfl⟩ (Zv rfl ?_)))));exact aF fun a w hh=>hh.cutK 5 rfl
 ·refine Zi rfl (Zi rfl (Zi rfl (Zi rfl (Zi rfl (Zw rfl ?_)))));exact aF fun a w hh=>hh.cutK 5 rfl
 refine Za rfl ?_;refine' dA [(false,11),(false,12),(false,13),(false,14)] [(false,15)] (s:=15) (p:=19) rfl rfl (fun hg2=>?_) (fun hg2=>?_) ?_;rotate_left
 ·refine Zl rfl Tf.f69_1 rfl (Zh 1 rfl Tf.a3 rfl hB2 rfl (gV rfl rfl rfl rfl ⟨_,rfl,rfl⟩ (Zv rfl ?_)));exact aF fun a w hh=>hh.cutK 3 rfl
 ·refine Zi rfl (Zi rfl (Zi rfl (Zw rfl ?_)));exact aF fun a w hh=>hh.cutK 3 rfl
 refine Zj rfl (Zo (Zx (aC ?_)));exact Zc [_] rfl ⟨rfl,trivial⟩ (fun D hD=>rfl)
theorem rV(p:Pt)(D:aA):Fn Tryz.prog 169 #[TY p] D (fun _ v=>v=.bool (gM p)):=by
 refine enter 6 Tryz.func169 rfl rfl rfl rfl fun h0=>Zy (C.rg (Zr rfl (fun q1 E1 hE1 hB1=>Zj rfl (Zo (Zx (Zy (C.rg (cU rfl Tf.a146 rfl hB1 Yc Yu List.not_mem_nil rfl trivial (Q6 (cs:=[.int .i64 1,.int .i64 1,.int .i64 1]) rfl U146 Tf.s3 Tf.z146 rfl rfl rfl trivial (GX (l:=p.l) (m:=[1,1,1]) rfl Yg U146 U3 Yg rfl rfl rfl rfl rfl trivial ?_))))))))));refine Zj rfl (Zo (Zx (aC ?_)))
 exact Zc [_] rfl ⟨rfl,trivial⟩ (fun D hD=>by show Value.bool _=_;rw[ON])
theorem CK(m k:Nat)(D:aA)(hk:m.testBit k=true)(hk2:k≤60)(hl:∀i,i<k→m.testBit i=false):Fn Tryz.prog 231 #[.int .i64 (m:Int)] D (fun _ v=>v=.int .i64 (k:Int)):=by
 refine enter 11 Tryz.func231 rfl rfl rfl rfl fun h0=>Zy (C.rg (Zj rfl (Zo (Zx (Zy (Zae (bS (γ:=Nat) (fun i=>k-i) (fun i=>i≤k) (fun i=>[(2,.int .i64 (i:Int))]) [(0,_)] (fun i=>[D]) 0 Yd ⟨Yb,trivial⟩ ⟨rfl,trivial⟩ (aG) ?_)))))))
 rintro i h1;refine Zy (Zy (C.rg (Za rfl (Za rfl (KF rfl rfl rfl Yd rfl trivial (T5 rfl rfl rfl (Int.natCast_nonneg _) Yd (by rw[pW];split<;>simp only[qD]<;>omega) rfl trivial (eL rfl rfl rfl rfl trivial (Zo (Zx (aH rfl (fun hc1=>?_) (fun hc1=>?_)))))))))))
 ·refine Zac (Zx (Zae (C.rg (Za rfl (Zt rfl (Zj rfl (Zo (Zag ?_))))))));exact aN 9 (i+1) (HV hk h1 hc1) (by have:=HV hk h1 hc1;omega) ⟨Yb,trivial⟩ rfl rfl (List.Sublist.refl _) (aG)
 ·obtain rfl:=MD hl h1 hc1;refine aZ (Zaf (Zaf (aE (Zx (Zy (C.rg (Za rfl (Zj rfl (Zo (Zx (aC ?_)))))))))));exact Zc [_] rfl ⟨rfl,trivial⟩ (fun D hD=>rfl)
end L7
end Go.Fs
namespace Go.Fs
open Go.Proofs
namespace L7
open C7
def U1(l:List Int):Nat:=(l.filter fun n=>decide (n=2)).length
theorem NR(l:List Int):U1 l≤l.length:=List.length_filter_le _ _
theorem QL(l:List Ch):gR l≤3*l.length:=by
 induction l with
 |nil=>simp[gR]
 |cons c l ih=>
  have:PU c.parts≤3:=List.length_filter_le _ _;simp only[gR,List.map_cons,List.sum_cons,List.length_cons]at ih ⊢
  omega
theorem FM{l:List Ch}{i:Nat}{x:Ch}(hx:l[i]?= some x):((gR (l.take (i+1)):Nat):Int)=((gR (l.take i)+U1 (x.parts.l.take 3):Nat):Int):=by
 rw[List.take_add_one,hx];simp[gR,PU,U1,Pt.l]
theorem NL{x:Ch}{k:Nat}{n:Int}(hx:fY x=true)(hn:x.parts.l[k]?= some n):0≤n∧n≤2:=by
 simp only[fY,Bool.and_eq_true,y7,List.all_eq_true]at hx;have:=hx.2 n (List.mem_of_getElem? hn);simpa [eY]using this
theorem DT{l:List Int}{k u:Nat}{n:Int}(hn:l[k]?= some n)(h:0≤n∧n≤2):((u+U1 (l.take (k+1)):Nat):Int)=((u+U1 (l.take k):Nat):Int)+n / 2:=by
 rw[List.take_add_one,hn];simp only[U1,Option.toList_some,List.filter_append,List.length_append];by_cases h2:n=2
 ·subst h2;simp;omega
 ·simp[h2];omega
theorem KC{y:bO}(h:(decide ((7:Int)<y.chairs.length)||decide ((5:Int)<y.claims.length))=true):aV y=3:=by
 simp only[Bool.or_eq_true,decide_eq_true_eq]at h;unfold aV;rw[if_pos Yd]
theorem I5{y:bO}(h:(decide ((7:Int)<y.chairs.length)||decide ((5:Int)<y.claims.length))=false):¬(7<y.chairs.length∨5<y.claims.length):=by
 simp only[Bool.or_eq_false_iff,decide_eq_false_iff_not]at h;omega
theorem SC{y:bO}(h:(decide ((7:Int)<y.chairs.length)||decide ((5:Int)<y.claims.length))=false)(h2:((!eY y.fit 0 9|| !y.chairs.all fY)|| !y.claims.all jN)=true):aV y=1:=by
 unfold aV;rw[if_neg (I5 h),if_pos]
 revert h2;unfold rF
 generalize eY y.fit 0 9=a,y.chairs.all fY=b,y.claims.all jN=c;cases a<;>cases b<;>cases c<;>decide
theorem n8{y:bO}(h2:((!eY y.fit 0 9|| !y.chairs.all fY)|| !y.claims.all jN)=false):rF y=true:=by
 revert h2;unfold rF
 generalize eY y.fit 0 9=a,y.chairs.all fY=b,y.claims.all jN=c;cases a<;>cases b<;>cases c<;>decide
theorem SP{y:bO}(h:(decide ((7:Int)<y.chairs.length)||decide ((5:Int)<y.claims.length))=false)(h2:((!eY y.fit 0 9|| !y.chairs.all fY)|| !y.claims.all jN)=false):y.chairs.length≤7∧∀x∈y.chairs,fY x=true:=by
 have h3:=n8 h2;simp only[rF,Bool.and_eq_true,List.all_eq_true]at h3;have:=I5 h;exact⟨by omega,h3.1.2⟩
theorem LY{y:bO}(h:(decide ((7:Int)<y.chairs.length)||decide ((5:Int)<y.claims.length))=false)(h2:((!eY y.fit 0 9|| !y.chairs.all fY)|| !y.claims.all jN)=false)(h3:(8:Int)<gR y.chairs):aV y=3:=by
 unfold aV;rw[if_neg (I5 h),if_neg (by rw[n8 h2];simp),if_pos Yd]
theorem NI{y:bO}(h:(decide ((7:Int)<y.chairs.length)||decide ((5:Int)<y.claims.length))=false)(h2:((!eY y.fit 0 9|| !y.chairs.all fY)|| !y.claims.all jN)=false)(h3:¬(8:Int)<gR y.chairs):aV y=0:=by
 unfold aV;rw[if_neg (I5 h),if_neg (by rw[n8 h2];simp),if_neg Yd]
theorem QS{p:Pt}{k:Nat}{m:Int}(h:p.l[k]?= some m):([.int .i64 p.a,.int .i64 p.b,.int .i64 p.c]:List Value)[k*1]?= some (.int .i64 m):=by
 rw[Nat.mul_one,show([.int .i64 p.a,.int .i64 p.b,.int .i64 p.c]:List Value)=p.l.map (Value.int .i64)from rfl,List.getElem?_map,h];rfl
theorem tB(yv:Value)(y:bO)(D:aA)(hy:kS D yv y):Fn Tryz.prog 53 #[yv] D (fun _ v=>v=.int .i64 (aV y)):=by
 have hy0:=hy;obtain⟨cv,qv,rfl,hc,hq⟩:=hy;refine enter 60 Tryz.func53 rfl rfl rfl rfl fun h0=>Zy (C.rg (Zr rfl (fun q1 E1 hE1 hB1=>Zj rfl (Zo (Zx (Zy (C.rg (Zq rfl Tf.a40 rfl hB1 Tf.s40 (bH rfl rfl rfl rfl trivial (Zj rfl ?_))))))))));refine Zo (Zx (Zy (Zae (Zy (C.rg (Zk rfl Tf.f40_0 rfl (Zg 0 rfl Tf.a37 rfl hB1 rfl (aY rfl U37 rfl hc rfl rfl trivial (dO rfl rfl rfl rfl trivial (Za rfl ?_))))))))))
 refine' eI [(false,5),(false,6),(false,7),(false,8),(false,9)] [(false,10)] (s:=16) (p:=21) rfl rfl (fun hg1=>?_) (fun hg1=>?_) ?_;rotate_left
 ·refine Zl rfl Tf.f40_2 rfl (Zh 2 rfl Tf.a38 rfl hB1 rfl (aY rfl U38 rfl hq rfl rfl ⟨_,rfl,rfl⟩ (dO rfl rfl rfl rfl ⟨_,rfl,rfl⟩ (Zw rfl ?_))));exact aF fun a w hh=>hh.cutK 4 rfl
 ·refine Zi rfl (Zi rfl (Zi rfl (Zi rfl (Zv rfl ?_))));exact aF fun a w hh=>hh.cutK 4 rfl
 refine Zj rfl (Zo (Zx (aP rfl (fun hc1=>?_) (fun hc1=>?_))))
 ·refine Zy (C.rg (Zj rfl (Zo (Zx (aC (aD (Zad ?_)))))));exact Zc [_] rfl ⟨rfl,trivial⟩ (fun D hD=>by show Value.int _ _=_;rw[KC hc1])
 ·refine Zy (C.rg (Zk rfl Tf.f40_1 rfl (Zg 1 rfl Tf.a3 rfl hB1 rfl (Zd rfl (fun D1 hD1=>cX _ _ _ _) (bV rfl rfl rfl trivial (Za rfl ?_))))));refine' eI [(false,5),(false,6),(false,7),(false,8),(false,9)] [(false,10),(false,11),(false,12),(false,13),(false,14),(false,15),(false,16),(false,17)] (s:=27) (p:=32) rfl rfl (fun hg2=>?_) (fun hg2=>?_) ?_;rotate_left
  ·refine Zl rfl Tf.f40_0 rfl (Zh 0 rfl Tf.a37 rfl hB1 rfl (Ze rfl (fun D2 hD2=>M9 _ _ _ fY _ (Sl.at qY.up hD2 Yl Ye) (.of fun x D2=>zT x D2) rfl) (bV rfl rfl rfl ⟨_,rfl,rfl⟩ (Zw rfl ?_))));exact aF fun a w hh=>hh.cutK 4 rfl
  ·refine Zi rfl (Zi rfl (Zi rfl (Zi rfl (Zv rfl ?_))));exact aF fun a w hh=>hh.cutK 4 rfl
  refine Za rfl ?_;refine' eI [(false,11),(false,12),(false,13),(false,14),(false,15),(false,16)] [(false,17)] (s:=33) (p:=39) rfl rfl (fun hg3=>?_) (fun hg3=>?_) ?_;rotate_left
  ·refine Zl rfl Tf.f40_2 rfl (Zh 2 rfl Tf.a38 rfl hB1 rfl (Zb rfl (Ze rfl (fun D3 hD3=>N7 _ _ _ jN _ (Sl.at R2.up hD3 Yl Ye) ⟨_,[_],[],rfl,fun r D2 hl=>IV _ y r D2 (hy0.up ((hD3 _ Ye).trans hl))⟩ rfl) (bV rfl rfl rfl ⟨_,rfl,rfl⟩ (Zw rfl ?_)))));exact aF fun a w hh=>hh.cutK 5 rfl
  ·refine Zi rfl (Zi rfl (Zi rfl (Zi rfl (Zi rfl (Zv rfl ?_)))));exact aF fun a w hh=>hh.cutK 5 rfl
  refine Zj rfl (Zo (Zx (aP rfl (fun hc2=>?_) (fun hc2=>?_))))
  ·refine Zy (C.rg (Zj rfl (Zo (Zx (aC (aD (Zad ?_)))))));exact Zc [_] rfl ⟨rfl,trivial⟩ (fun D hD=>by show Value.int _ _=_;rw[SC hc1 hc2])
  ·obtain⟨hl7,hok⟩:=SP hc1 hc2;refine Zac (Zag (Zx (Zy (C.rg (Zj rfl (Zo (Zx (Zy (Zy (C.rg (Zk rfl Tf.f40_0 rfl ?_)))))))))));refine Zg 0 rfl Tf.a37 rfl hB1 rfl (aY rfl U37 rfl hc rfl rfl trivial (Za rfl (Zo (Zx (Zae (bS (γ:=Nat) (fun i=>y.chairs.length-i) (fun i=>i≤y.chairs.length) (fun i=>[(43,.int .i64 (i:Int)),(4,.int .i64 (gR (y.chairs.take i):Int))]) [(42,_),(41,_),(2,_)] (fun i=>[E1,D]) 0 Yd ⟨Yb,(by simp[gR];rfl),trivial⟩ C.rs (aG) ?_))))))
   rintro i h1;refine Zy (C.rg (Zaa rfl (Zo (Zx (Zy (aH rfl (fun hc3=>?_) (fun hc3=>?_)))))))
   ·have hi:i<y.chairs.length:=by omega
    obtain⟨x,hx⟩:∃x,y.chairs[i]?= some x:=⟨_,List.getElem?_eq_getElem hi⟩
    have hxo:=hok x (List.mem_of_getElem? hx);have hub:=QL (y.chairs.take i);have hut:(y.chairs.take i).length≤i:=List.length_take_le _ _;refine Zac (Zx (Zy (Zae (Zy (C.rg (aJ rfl U37 Tf.s148 rfl hc rfl Yd hx rfl trivial (fun b1 o1 cs1 hr1 hcl1 hA1=>?_)))))));obtain rfl:cs1=[.int .i64 _,.int .i64 _,.int .i64 _,.int .i64 _]:=hr1;refine Zq rfl Tf.a148 rfl hA1 Tf.s148 (Zu rfl Tf.z148 rfl (fun q2=>Zs rfl Tf.s148 (cY.head) (Zo (Zx (Zy (C.rg (Zk rfl Tf.f148_1 rfl (dU rfl Tf.a146 Tf.s146 rfl (List.Mem.head _) rfl rfl List.not_mem_nil rfl trivial (Za rfl (Zo (Zx ?_)))))))))));refine Zae (bS (γ:=Nat) (fun k=>3-k) (fun k=>k≤3) (fun k=>[(49,.int .i64 (k:Int)),(4,.int .i64 ((gR (y.chairs.take i)+U1 (x.parts.l.take k):Nat):Int))]) [(48,_),(47,_),(6,_),(46,_),(45,_),(44,_),(43,_),(42,_),(41,_),(2,_)] (fun k=>[E1,D]) 0 Yd ⟨Yb,(by simp[U1];rfl),trivial⟩ C.rs (aG) ?_)
    rintro k h2;refine Zy (C.rg (Zaa rfl (Zo (Zx (Zy (aH rfl (fun hc4=>?_) (fun hc4=>?_)))))))
    ·have hk3:k<3:=by omega
     obtain⟨n,hn⟩:∃n,x.parts.l[k]?= some n:=⟨_,List.getElem?_eq_getElem (by simp[Pt.l];omega)⟩
     have hn2:=NL hxo hn;have hkl:=NR (x.parts.l.take k);have hkt:(x.parts.l.take k).length≤k:=List.length_take_le _ _;refine Zac (Zx (Zy (Zae (Zy (C.rg (T6 (l:=x.parts.l) rfl U146 Tf.a3 Tf.s3 rfl rfl Yd Yd hn rfl trivial (Zj rfl (Zo (Zx (C.rg (Za rfl ?_)))))))))));refine Za rfl (JA rfl rfl rfl Yd Yd Yf rfl trivial (Zt rfl (Zj rfl (Zo (Zag (Zx (C.rg (Zt rfl (Za rfl (Zo ?_))))))))));exact aN 12 (k+1) Yd Yd ⟨Yb,(by rw[DT hn hn2];rfl),trivial⟩ rfl rfl (List.Sublist.refl _) (aG)
    ·obtain rfl:k=3:=by omega
     refine aZ (Zaf (Zaf (aE (Zag (Zx (C.rg (Zt rfl (Za rfl (Zo ?_)))))))));exact aN 12 (i+1) Yd Yd ⟨Yb,(by rw[FM hx];rfl),trivial⟩ rfl rfl (List.Sublist.cons _ (List.Sublist.refl _)) (aG)
   ·obtain rfl:i=y.chairs.length:=by omega
    rw[List.take_length];refine aZ (Zaf (Zaf (aE (Zx (Zy (Zy (C.rg (Za rfl (dO rfl rfl rfl rfl trivial (Zo (Zx ?_)))))))))));refine aH rfl (fun hc5=>?_) (fun hc5=>?_)
    ·refine Zy (C.rg (Zj rfl (Zo (Zx (aC (Zad ?_))))));exact Zc [_] rfl ⟨rfl,trivial⟩ (fun D hD=>by show Value.int _ _=_;rw[LY hc1 hc2 hc5])
    ·refine Zac (Zx (Zy (C.rg (Zj rfl (Zo (Zx (aC ?_)))))));exact Zc [_] rfl ⟨rfl,trivial⟩ (fun D hD=>by show Value.int _ _=_;rw[NI hc1 hc2 hc5])
end L7
end Go.Fs
namespace Go.Fs
open Go.Proofs
namespace L7
open C7
def P6(p:Pt):Prop:=(0≤p.a∧p.a≤1)∧(0≤p.b∧p.b≤1)∧(0≤p.c∧p.c≤1)
def AH(p q:Pt):Bool:=(!gM p&& !gM q)&&gM ⟨max p.a q.a,max p.b q.b,max p.c q.c⟩
def u5(f:Int)(x z:Ch):Bool:=eY (x.size-z.size) (-f) f
theorem GA(p q:Pt)(D:aA)(hp:P6 p)(hq:P6 q):Fn Tryz.prog 170 #[TY p,TY q] D (fun _ v=>v=.bool (AH p q)):=by
 refine enter 32 Tryz.func170 rfl rfl rfl rfl fun h0=>Zy (C.rg (Zr rfl (fun q1 E1 hE1 hB1=>Zr rfl (fun q2 E2 hE2 hB2=>Zj rfl (Zo (Zx (Zy (C.rg (cU rfl Tf.a146 rfl hB1 Yc Yu List.not_mem_nil rfl trivial (Zd rfl (fun D1 hD1=>rV p _) ?_))))))))));refine bV rfl rfl rfl trivial (Za rfl ?_)
 refine' dA [(false,4),(false,5),(false,6),(false,7)] [(false,8),(false,9),(false,10),(false,11),(false,12),(false,13),(false,14),(false,15),(false,16),(false,17),(false,18),(false,19),(false,20),(false,21),(false,22),(false,23),(false,24),(false,25),(false,26),(false,27)] (s:=8) (p:=12) rfl rfl (fun hg1=>?_) (fun hg1=>?_) ?_;rotate_left
 ·refine cU rfl Tf.a146 rfl hB2 Yc Yu List.not_mem_nil rfl ⟨_,rfl,rfl⟩ (Ze rfl (fun D2 hD2=>rV q _) (bV rfl rfl rfl ⟨_,rfl,rfl⟩ (Zv rfl ?_)));exact aF fun a w hh=>hh.cutK 3 rfl
 ·refine Zi rfl (Zi rfl (Zi rfl (Zw rfl ?_)));exact aF fun a w hh=>hh.cutK 3 rfl
 refine Za rfl ?_;refine' dA [(false,9),(false,10),(false,11),(false,12),(false,13),(false,14),(false,15),(false,16),(false,17),(false,18),(false,19),(false,20),(false,21),(false,22),(false,23),(false,24),(false,25),(false,26)] [(false,27)] (s:=13) (p:=31) rfl rfl (fun hg2=>?_) (fun hg2=>?_) ?_;rotate_left
 ·refine bR rfl U146 Tf.s3 rfl rfl Yz Yz rfl ⟨_,rfl,rfl⟩ (fC rfl Tf.a3 rfl hB1 Ye rfl List.not_mem_nil rfl ⟨_,rfl,rfl⟩ (bR rfl U146 Tf.s3 rfl rfl Yz Yz rfl ⟨_,rfl,rfl⟩ (fC rfl Tf.a3 rfl hB2 Ye rfl List.not_mem_nil rfl ⟨_,rfl,rfl⟩ (m5 rfl rfl rfl hp.1 hq.1 rfl ⟨_,rfl,rfl⟩ (bR rfl U146 Tf.s3 rfl rfl Yz Yz rfl ⟨_,rfl,rfl⟩ (fC rfl Tf.a3 rfl hB1 Ye rfl List.not_mem_nil rfl ⟨_,rfl,rfl⟩ (bR rfl U146 Tf.s3 rfl rfl Yz Yz rfl ⟨_,rfl,rfl⟩ (fC rfl Tf.a3 rfl hB2 Ye rfl List.not_mem_nil rfl ⟨_,rfl,rfl⟩ (m5 rfl rfl rfl hp.2.1 hq.2.1 rfl ⟨_,rfl,rfl⟩ (bR rfl U146 Tf.s3 rfl rfl Yz Yz rfl ⟨_,rfl,rfl⟩ (fC rfl Tf.a3 rfl hB1 Ye rfl List.not_mem_nil rfl ⟨_,rfl,rfl⟩ ?_)))))))))));refine bR rfl U146 Tf.s3 rfl rfl Yz Yz rfl ⟨_,rfl,rfl⟩ (fC rfl Tf.a3 rfl hB2 Ye rfl List.not_mem_nil rfl ⟨_,rfl,rfl⟩ (m5 rfl rfl rfl hp.2.2 hq.2.2 rfl ⟨_,rfl,rfl⟩ (Q6 (cs:=[.int .i64 (max p.a q.a),.int .i64 (max p.b q.b),.int .i64 (max p.c q.c)]) rfl U146 Tf.s3 Tf.z146 rfl rfl rfl ⟨_,rfl,rfl⟩ (Ze rfl (fun D3 hD3=>rV ⟨max p.a q.a,max p.b q.b,max p.c q.c⟩ _) (Zv rfl ?_)))));exact aF fun a w hh=>hh.cutK 17 rfl
 ·refine Zi rfl (Zi rfl (Zi rfl (Zi rfl (Zi rfl (Zi rfl (Zi rfl (Zi rfl (Zi rfl (Zi rfl (Zi rfl (Zi rfl ?_)))))))))));refine Zi rfl (Zi rfl (Zi rfl (Zi rfl (Zi rfl (Zw rfl ?_)))));exact aF fun a w hh=>hh.cutK 17 rfl
 refine Zj rfl (Zo (Zx (aC ?_)));exact Zc [_] rfl ⟨rfl,trivial⟩ (fun D hD=>rfl)
theorem I4(yv:Value)(y:bO)(a b:Nat)(x z:Ch)(D:aA)(hy:kS D yv y)(hf:0≤y.fit∧y.fit≤9)(hx:y.chairs[a]?= some x)(hz:y.chairs[b]?= some z)(hxs:0≤x.size∧x.size≤9)(hzs:0≤z.size∧z.size≤9):Fn Tryz.prog 160 #[yv,.int .i64 (a:Int),.int .i64 (b:Int)] D (fun _ v=>v=.bool (u5 y.fit x z)):=by
 obtain⟨cv,qv,rfl,hc,hq⟩:=hy;refine enter 26 Tryz.func160 rfl rfl rfl rfl fun h0=>Zy (C.rg (Zr rfl (fun q1 E1 hE1 hB1=>Zj rfl (Zo (Zx (Zy (C.drawA [] 6 20 257988 (fun _ _ _ h=>dI (P:=Tryz.prog) (fn:=Tryz.f160) _ _ _ h) (Zk rfl Tf.f40_0 rfl (Zg 0 rfl Tf.a37 rfl hB1 rfl (Za rfl ?_))))))))));refine aJ rfl U37 Tf.s148 rfl hc rfl Yd hx rfl trivial (fun b1 o1 cs1 hr1 hcl1 hA1=>?_)
 obtain rfl:cs1=[.int .i64 _,.int .i64 _,.int .i64 _,.int .i64 _]:=hr1;refine Zk rfl Tf.f148_0 rfl (Zg 0 rfl Tf.a3 rfl hA1 rfl (Zk rfl Tf.f40_0 rfl (Zg 0 rfl Tf.a37 rfl hB1 rfl (Za rfl (aJ rfl U37 Tf.s148 rfl hc rfl Yd hz rfl trivial (fun b2 o2 cs2 hr2 hcl2 hA2=>?_))))));obtain rfl:cs2=[.int .i64 _,.int .i64 _,.int .i64 _,.int .i64 _]:=hr2;refine Zk rfl Tf.f148_0 rfl (Zg 0 rfl Tf.a3 rfl hA2 rfl (fW rfl rfl rfl Yf rfl trivial (Zk rfl Tf.f40_1 rfl (Zg 1 rfl Tf.a3 rfl hB1 rfl (PF rfl rfl Yf rfl trivial (Zk rfl Tf.f40_1 rfl (Zg 1 rfl Tf.a3 rfl hB1 rfl (Zd rfl (fun D1 hD1=>cX _ _ _ _) (Zj rfl (Zo (Zx ?_)))))))))));refine aC ?_;exact Zc [_] rfl ⟨rfl,trivial⟩ (fun D hD=>rfl)
end L7
end Go.Fs
namespace Go.Fs
open Go.Proofs
namespace L7
open C7
def fP(p:Nat→Bool):Nat→Nat
 |0=>0
 |n+1=>if p n=true then fP p n|||2^n else fP p n
theorem nF(p:Nat→Bool):∀n i,(fP p n).testBit i=(decide (i<n)&&p i)
 |0,i=>by simp[fP]
 |n+1,i=>by
  unfold fP;split
  ·rename_i h;rw[Nat.testBit_or,nF p n i,Nat.testBit_two_pow];by_cases hi:n=i
   ·subst hi;simp[h]
   ·have:(i<n+1)=(i<n):=by rw[eq_iff_iff];omega
    simp[hi,this]
  ·rename_i h;rw[nF p n i];by_cases hi:n=i
   ·subst hi;simp[h]
   ·have:(i<n+1)=(i<n):=by rw[eq_iff_iff];omega
    simp[this]
theorem K0(p:Nat→Bool)(n:Nat):fP p n<2^n:=by
 apply Nat.lt_pow_two_of_testBit;intro i hi;rw[nF];have:¬i<n:=by omega
 simp[this]
def iK(t:List Pt)(i:Nat):Bool:=match t[i]? with|some p=> !gM p|none=>false
def kU(y:bO)(t:List Pt)(i k:Nat):Bool:=match t[i]?,t[k]?,y.chairs[i]?,y.chairs[k]? with
 |some p,some q,some x,some z=>(decide ((k:Int)≠i)&&u5 y.fit x z)&&AH p q
 |_,_,_,_=>false
theorem IZ{y:bO}{t:List Pt}{i k:Nat}{z q:Pt}{x1 x2:Ch}(hz:t[i]?= some z)(hq:t[k]?= some q)(hx1:y.chairs[i]?= some x1)(hx2:y.chairs[k]?= some x2):kU y t i k=((decide ((k:Int)≠i)&&u5 y.fit x1 x2)&&AH z q):=by
 unfold kU;rw[hz,hq,hx1,hx2]
def dN(y:bO)(t:List Pt)(i k:Nat):List Nat:=(List.range 7).map fun j=>if j<i then fP (kU y t j) t.length else if j=i then fP (kU y t i) k else 0
structure Sc where
 whole:Nat
 broken:Nat
 fits:List Nat
deriving DecidableEq
def dR(y:bO)(t:List Pt):Sc:=⟨whole t,fP (iK t) t.length,(List.range 7).map fun j=>fP (kU y t j) t.length⟩
def wH(w b:Nat)(rows:List Nat):List Value:=.int .i64 (w:Int)::.int .i64 (b:Int)::rows.map fun(n:Nat)=>Value.int .i64 (n:Int)
def SM(s:Sc):Value:=.agg (wH s.whole s.broken s.fits).toArray
theorem IK(w b:Nat)(rows:List Nat):∀u∈wH w b rows,cell1 u=true:=by
 intro u hu;unfold wH at hu;simp only[List.mem_cons,List.mem_map]at hu;rcases hu with rfl|rfl|⟨n,_,rfl⟩<;>rfl
theorem NQ{y:bO}{t:List Pt}{j:Nat}(h:t.length≤j):fP (kU y t j) t.length=0:=by
 apply Nat.eq_of_testBit_eq;intro i;rw[nF,Nat.zero_testBit];have:kU y t j i=false:=by unfold kU;rw[List.getElem?_eq_none h]
 simp[this]
theorem DM{y:bO}{t:List Pt}:dN y t t.length 0=(dR y t).fits:=by
 show dN y t t.length 0=(List.range 7).map fun j=>fP (kU y t j) t.length
 unfold dN;apply List.map_congr_left;intro j _;by_cases h:j<t.length
 ·rw[if_pos h]
 ·rw[if_neg h,NQ Yd];split<;>rfl
theorem z8{y:bO}{t:List Pt}{i:Nat}:dN y t i t.length=dN y t (i+1) 0:=by
 unfold dN;apply List.map_congr_left;intro j _;by_cases h:j<i
 ·rw[if_pos h,if_pos Yd]
 ·rw[if_neg h];by_cases h2:j=i
  ·subst h2;rw[if_pos rfl,if_pos Yd]
  ·rw[if_neg h2,if_neg Yd];split<;>rfl
theorem PX{y:bO}{t:List Pt}{i k:Nat}(h:kU y t i k=false):dN y t i k=dN y t i (k+1):=by
 unfold dN;have:fP (kU y t i) (k+1)=fP (kU y t i) k:=by rw[fP,if_neg (by simp[h])]
 rw[this]
theorem OC{y:bO}{t:List Pt}{i k:Nat}(h:i<7):(dN y t i k)[i]?= some (fP (kU y t i) k):=by
 unfold dN;rw[List.getElem?_map,List.getElem?_range h];simp
theorem RW{rows:List Nat}{i n:Nat}(w b:Nat)(h:rows[i]?= some n):(wH w b rows)[2+i*1]?= some (.int .i64 (n:Int)):=by
 rw[Nat.mul_one,Nat.add_comm];unfold wH;rw[List.getElem?_cons_succ,List.getElem?_cons_succ,List.getElem?_map,h];rfl
theorem wL{t:List Pt}{i:Nat}{z:Pt}(hz:t[i]?= some z):whole (t.take (i+1))=whole (t.take i)+if gM z=true then 1 else 0:=by
 unfold whole;rw[List.take_add_one,hz,Option.toList_some,List.filter_append,List.length_append];cases h:gM z<;>simp[h]
theorem y1{t:List Pt}{i:Nat}{z:Pt}(hz:t[i]?= some z):iK t i= !gM z:=by unfold iK;rw[hz]
theorem C0{y:bO}{t:List Pt}{i k:Nat}{z:Pt}(hz:t[i]?= some z)(hw:gM z=true):fP (kU y t i) k=0:=by
 apply Nat.eq_of_testBit_eq;intro j;rw[nF,Nat.zero_testBit];have:kU y t i j=false:=by
  unfold kU;rw[hz]
  split
  ·rename_i e1 _ _ _;obtain rfl:=Option.some.inj e1;simp[AH,hw]
  ·rfl
 simp[this]
theorem GB{y:bO}{t:List Pt}{i:Nat}{z:Pt}(hz:t[i]?= some z)(hw:gM z=true):
  (wH (whole (t.take i)) (fP (iK t) i) (dN y t i 0)).take 0++[.int .i64 ((whole (t.take i):Int)+1)]++(wH (whole (t.take i)) (fP (iK t) i) (dN y t i 0)).drop (0+ [Value.int .i64 ((whole (t.take i):Int)+1)].length)=wH (whole (t.take (i+1))) (fP (iK t) (i+1)) (dN y t (i+1) 0):=by
 have h1:((whole (t.take (i+1)):Nat):Int)=(whole (t.take i):Int)+1:=by rw[wL hz,if_pos hw];simp
 have h2:fP (iK t) (i+1)=fP (iK t) i:=by rw[fP,if_neg (by rw[y1 hz,hw];simp)]
 have h3:dN y t (i+1) 0=dN y t i 0:=by
  rw[←z8];unfold dN;rw[C0 hz hw,C0 hz hw]
 rw[h2,h3];unfold wH;rw[h1];rfl
theorem NH{y:bO}{t:List Pt}{i:Nat}{z:Pt}(hz:t[i]?= some z)(hw:gM z=false):
  (wH (whole (t.take i)) (fP (iK t) i) (dN y t i 0)).take 1++[.int .i64 ((fP (iK t) i|||2^i:Nat):Int)]++(wH (whole (t.take i)) (fP (iK t) i) (dN y t i 0)).drop (1+ [Value.int .i64 ((fP (iK t) i|||2^i:Nat):Int)].length)=wH (whole (t.take (i+1))) (fP (iK t) (i+1)) (dN y t i 0):=by
 have h1:whole (t.take (i+1))=whole (t.take i):=by rw[wL hz,if_neg (by simp[hw])];rfl
 have h2:fP (iK t) (i+1)=fP (iK t) i|||2^i:=by rw[fP,if_pos (by rw[y1 hz,hw];rfl)]
 rw[h1,h2];rfl
theorem QJ{y:bO}{t:List Pt}{i k w b:Nat}(hi:i<7)(h:kU y t i k=true):
  (wH w b (dN y t i k)).take (2+i*1)++[.int .i64 ((fP (kU y t i) k|||2^k:Nat):Int)]++(wH w b (dN y t i k)).drop (2+i*1+ [Value.int .i64 ((fP (kU y t i) k|||2^k:Nat):Int)].length)=wH w b (dN y t i (k+1)):=by
 have h2:fP (kU y t i) (k+1)=fP (kU y t i) k|||2^k:=by rw[fP,if_pos h]
 have e:i=0∨i=1∨i=2∨i=3∨i=4∨i=5∨i=6:=by omega
 rw[←h2];rcases e with rfl|rfl|rfl|rfl|rfl|rfl|rfl<;>rfl
theorem LM(yv tv:Value)(y:bO)(t:List Pt)(D:aA)(hy:kS D yv y)(ht:Sl D RP 3 tv t)(hlen:t.length=y.chairs.length)(h7:t.length≤7)(hb:∀p∈t,P6 p)(hf:0≤y.fit∧y.fit≤9)(hs:∀c∈y.chairs,0≤c.size∧c.size≤9):Fn Tryz.prog 101 #[yv,tv] D (fun _ v=>v=SM (dR y t)):=by
 have hy0:=hy;obtain⟨cv,qv,rfl,hc,hq⟩:=hy;have hl:=ht.len;refine enter 61 Tryz.func101 rfl rfl rfl rfl fun h0=>Zy (C.rg (Zr rfl (fun q1 E1 hE1 hB1=>Zu rfl Tf.z215 rfl (fun q2=>Zo (Zx (Zy (Zy (C.rg (Za rfl (aY rfl U211 rfl ht rfl rfl trivial ?_))))))))));refine Za rfl (Zo (Zx (Zae (cZ (γ:=Nat) (fun i=>t.length-i) (fun i=>i≤t.length) (fun i=>[(11,.int .i64 (i:Int))]) [(10,_),(9,_),(4,_),(2,_),(1,_)] (fun i=>[(q2,.cells (wH (whole (t.take i)) (fP (iK t) i) (dN y t i 0)).toArray 215 (0,0))]) (fun i=>[E1,D]) 0 Yd ⟨Yb,trivial⟩ C.rs (List.Sublist.refl _) (aG) ?_))))
 rintro i h1;refine Zy (C.rg (Zaa rfl (Zo (Zx (Zy (aH rfl (fun hc1=>?_) (fun hc1=>?_)))))))
 ·have hi:i<t.length:=by omega
  obtain⟨z,hz⟩:∃z,t[i]?= some z:=⟨_,List.getElem?_eq_getElem hi⟩
  obtain⟨x1,hx1⟩:∃x1,y.chairs[i]?= some x1:=⟨_,List.getElem?_eq_getElem Yd⟩
  have hwl:whole (t.take i)≤(t.take i).length:=List.length_filter_le _ _;have hwt:(t.take i).length≤i:=List.length_take_le _ _;have hbl:=K0 (iK t) i;have hp2:2^i≤2^7:=Nat.pow_le_pow_right Yd Yd;refine Zac (Zx (Zy (Zae (Zy (C.rg (Za rfl (aJ rfl U211 Tf.s146 rfl ht rfl Yd hz rfl trivial (fun b1 o1 cs1 hr1 hcl1 hA1=>?_))))))));obtain rfl:cs1=[.int .i64 _,.int .i64 _,.int .i64 _]:=hr1;refine cU rfl Tf.a146 rfl hA1 Yc Yu List.not_mem_nil rfl trivial (Zu rfl Tf.z146 rfl (fun q3=>Zj rfl (Zs rfl Tf.s146 (cY.head) (Zo (Zx (Zy (Zy (C.rg (aX rfl Tf.a146 rfl (List.Mem.head _) Yu List.not_mem_nil rfl trivial (Zd rfl (fun D1 hD1=>rV z _) (Zo ?_)))))))))));refine Zx (aP rfl (fun hc2=>?_) (fun hc2=>?_))
  ·refine Zy (C.rg (Zk rfl Tf.f215_0 rfl (Zn rfl Tf.a3 rfl (List.Mem.tail _ (List.Mem.head _)) rfl (Zt rfl (Zk rfl Tf.f215_0 rfl (aT (ws:=wH (whole (t.take (i+1))) (fP (iK t) (i+1)) (dN y t (i+1) 0)) rfl rfl rfl rfl Tf.s3 (.tail cY.head) (by simp[wH]) (GB hz hc2) Ym trivial (Zo (Zx (aZ (Zaf (aE ?_)))))))))));refine Zx (C.rg (Zt rfl (Za rfl (Zo ?_))));exact aN 15 (i+1) Yd Yd ⟨Yb,trivial⟩ rfl rfl (List.Sublist.cons _ (List.Sublist.refl _)) (aG)
  ·refine Zac (Zx (Zy (C.drawA [] 2 7 12 (fun _ _ _ h=>dI (P:=Tryz.prog) (fn:=Tryz.f101) _ _ _ h) (Zk rfl Tf.f215_1 rfl (Zn rfl Tf.a3 rfl (List.Mem.tail _ (List.Mem.head _)) rfl (Za rfl (O3 rfl rfl rfl Yd rfl trivial (FS rfl rfl rfl Yd Yd rfl trivial (Zk rfl Tf.f215_1 rfl (aT (ws:=wH (whole (t.take (i+1))) (fP (iK t) (i+1)) (dN y t i 0)) rfl rfl rfl rfl Tf.s3 (.tail cY.head) (by simp[wH]) (NH hz hc2) Ym trivial (Zo ?_)))))))))));refine Zx (Zy (C.rg (Za rfl (aY rfl U211 rfl ht rfl rfl trivial (Za rfl (Zo (Zx (Zae (cZ (γ:=Nat) (fun k=>t.length-k) (fun k=>k≤t.length) (fun k=>[(30,.int .i64 (k:Int))]) [(29,_),(28,_),(27,_),(26,_),(25,_),(24,_),(23,_),(22,_),(17,_),(16,_),(5,_),(6,_),(15,_),(14,_),(13,_),(12,_),(11,_),(10,_),(9,_),(4,_),(2,_),(1,_)] (fun k=>[(q3,.cells [.int .i64 z.a,.int .i64 z.b,.int .i64 z.c].toArray 146 (0,0)),(q2,.cells (wH (whole (t.take (i+1))) (fP (iK t) (i+1)) (dN y t i k)).toArray 215 (0,0))]) (fun k=>[E1,D]) 0 Yd ⟨Yb,trivial⟩ C.rs (List.Sublist.refl _) (aG) ?_)))))))));rintro k h2;refine Zy (C.rg (Zaa rfl (Zo (Zx (Zy (aH rfl (fun hc3=>?_) (fun hc3=>?_)))))))
   ·have hk:k<t.length:=by omega
    obtain⟨q,hq⟩:∃q,t[k]?= some q:=⟨_,List.getElem?_eq_getElem hk⟩
    obtain⟨x2,hx2⟩:∃x2,y.chairs[k]?= some x2:=⟨_,List.getElem?_eq_getElem Yd⟩
    have hbk:=K0 (kU y t i) k;have hp3:2^k≤2^7:=Nat.pow_le_pow_right Yd Yd;refine Zac (Zx (Zy (Zae (Zy (C.rg (Za rfl (aJ rfl U211 Tf.s146 rfl ht rfl Yd hq rfl trivial (fun b2 o2 cs2 hr2 hcl2 hA2=>?_))))))));obtain rfl:cs2=[.int .i64 _,.int .i64 _,.int .i64 _]:=hr2;refine cU rfl Tf.a146 rfl hA2 Yc Yu List.not_mem_nil rfl trivial (Zu rfl Tf.z146 rfl (fun q4=>Zj rfl (Zs rfl Tf.s146 (cY.head) (Zo (Zx (Zy (C.rg (Za rfl (Za rfl (dQ rfl rfl rfl rfl trivial (Za rfl ?_)))))))))));refine' dA [(false,4),(false,5),(false,6),(false,7),(false,8)] [(false,9),(false,10),(false,11),(false,12),(false,13)] (s:=38) (p:=43) rfl rfl (fun hg1=>?_) (fun hg1=>?_) ?_;rotate_left
    ·refine cU rfl Tf.a40 rfl hB1 Yc Tf.s40 List.not_mem_nil rfl ⟨_,rfl,rfl⟩ (Zb rfl (Zb rfl (Ze rfl (fun D2 hD2=>I4 _ y i k x1 x2 _ (hy0.up (hD2 _ Ye)) hf hx1 hx2 (hs _ (List.mem_of_getElem? hx1)) (hs _ (List.mem_of_getElem? hx2))) (Zv rfl ?_))));exact aF fun a w hh=>hh.cutK 4 rfl
    ·refine Zi rfl (Zi rfl (Zi rfl (Zi rfl (Zw rfl ?_))));exact aF fun a w hh=>hh.cutK 4 rfl
    refine Za rfl ?_;refine' dA [(false,10),(false,11),(false,12),(false,13)] [] (s:=44) (p:=48) rfl rfl (fun hg2=>?_) (fun hg2=>?_) ?_;rotate_left
    ·refine aX rfl Tf.a146 rfl (List.Mem.tail _ (List.Mem.head _)) Yu List.not_mem_nil rfl ⟨_,rfl,rfl⟩ (aX rfl Tf.a146 rfl (List.Mem.head _) Yu List.not_mem_nil rfl ⟨_,rfl,rfl⟩ (Ze rfl (fun D3 hD3=>GA z q _ (hb _ (List.mem_of_getElem? hz)) (hb _ (List.mem_of_getElem? hq))) (Zv rfl ?_)));exact aF fun a w hh=>hh.cutK 3 rfl
    ·refine Zi rfl (Zi rfl (Zi rfl (Zw rfl ?_)));exact aF fun a w hh=>hh.cutK 3 rfl
    refine Zo (Zx (aP rfl (fun hc4=>?_) (fun hc4=>?_)))
    ·have hfit:kU y t i k=true:=by rw[IZ hz hq hx1 hx2];exact hc4
     refine C.drawA [] 3 10 178 (fun _ _ _ h=>dI (P:=Tryz.prog) (fn:=Tryz.f101) _ _ _ h) (Za rfl (Zk rfl Tf.f215_2 rfl (jJ rfl U213 Tf.s3 rfl rfl Yd Yd rfl trivial (aU rfl Tf.a3 rfl (List.Mem.tail _ (List.Mem.tail _ (List.Mem.head _))) (RW _ _ (OC Yd)) List.not_mem_nil rfl trivial (Za rfl (O3 rfl rfl rfl Yd rfl trivial (FS rfl rfl rfl Yd Yd rfl trivial (Zk rfl Tf.f215_2 rfl (jJ rfl U213 Tf.s3 rfl rfl Yd Yd rfl trivial (aT (ws:=wH (whole (t.take (i+1))) (fP (iK t) (i+1)) (dN y t i (k+1))) rfl rfl rfl rfl Tf.s3 (.tail (.tail cY.head)) (by simp[wH,dN];omega) (QJ Yd hfit) Ym trivial (Zo ?_)))))))))));refine Zag (Zx (C.rg (Zt rfl (Za rfl (Zo ?_)))));exact aN 25 (k+1) Yd Yd ⟨Yb,trivial⟩ rfl rfl (List.Sublist.cons _ (List.Sublist.refl _)) (aG)
    ·have hfit:kU y t i k=false:=by rw[IZ hz hq hx1 hx2];exact hc4
     refine Zac (Zag (Zx (C.rg (Zt rfl (Za rfl (Zo ?_))))));rw[PX hfit];exact aN 16 (k+1) Yd Yd ⟨Yb,trivial⟩ rfl rfl (List.Sublist.cons _ (List.Sublist.refl _)) (aG)
   ·obtain rfl:k=t.length:=by omega
    rw[z8];refine aZ (Zaf (Zaf (aE (Zag (Zx (C.rg (Zt rfl (Za rfl (Zo ?_)))))))));exact aN 21 (i+1) Yd Yd ⟨Yb,trivial⟩ rfl rfl (List.Sublist.cons _ (List.Sublist.refl _)) (aG)
 ·obtain rfl:i=t.length:=by omega
  refine aZ (Zaf (Zaf (aE (Zx (Zy (C.rg (aX rfl Tf.a215 rfl (List.Mem.head _) Tf.s215 List.not_mem_nil rfl trivial (bL rfl rfl rfl rfl Tf.s215 Ya Ya (cY.head) (IK _ _ _) trivial (Zo (Zx (aC ?_)))))))))));exact Zc [_] rfl ⟨⟨_,_,_,rfl,(List.Mem.head _),Or.inr ⟨Tf.a215,(by first|exact Tf.s215|(simp only[List.size_toArray,aQ, *];exact Tf.s215)),rfl⟩⟩,trivial⟩ (fun D hD=>by rw[DM,List.take_length];rfl)
end L7
end Go.Fs
namespace Go.Fs.C7
end Go.Fs.C7
namespace Go.Fs.C7
end Go.Fs.C7
namespace Go.Fs.C7
theorem yR{m a:Nat}(h:m.testBit a=true):lU m (2^a)<m:=by
 have h1:=rS m (2^a);have h2:lU m (2^a)≠m:=fun e=>by
  have:=vX m (2^a) a;rw[e,h,Nat.testBit_two_pow_self]at this;cases this
 omega
theorem RD(m a i:Nat):(lU m (2^a)).testBit i=(m.testBit i&& !decide (a=i)):=by
 rw[vX,Nat.testBit_two_pow]
def low(m:Nat):Nat:=((List.range m).find? fun i=>m.testBit i).getD 0
theorem pT{m:Nat}(h:m≠0):m.testBit (low m)=true∧∀i,i<low m→m.testBit i=false:=by
 obtain⟨i,hi⟩:=Nat.exists_testBit_of_ne_zero h;have him:i<m:=Nat.lt_of_lt_of_le Nat.lt_two_pow_self (Nat.ge_two_pow_of_testBit hi);unfold low;cases hf:(List.range m).find? fun i=>m.testBit i with
 |none=>
  have:=List.find?_eq_none.1 hf i (List.mem_range.2 him);exact absurd hi this
 |some j=>
  have h1:=List.find?_some hf;refine⟨h1,fun k hk=>?_⟩;simp only[Option.getD_some]at hk;obtain⟨_,l1,l2,hab,hno⟩:=List.find?_eq_some_iff_append.1 hf;have hjm:j<m:=List.mem_range.1 (List.mem_of_find?_eq_some hf);have hlen:l1.length=j:=by
   have h2:(List.range m)[l1.length]?= some j:=by rw[hab,List.getElem?_append_right (Nat.le_refl _)];simp
   have hl:l1.length<m:=by
    have:=congrArg List.length hab;simp at this;omega
   rw[List.getElem?_range hl]at h2;exact Option.some.inj h2
  have hkm:(List.range m)[k]?= some k:=List.getElem?_range Yd;rw[hab,List.getElem?_append_left Yd]at hkm;have:=hno k (List.mem_of_getElem? hkm);simpa using this
def fB(F:List Nat)(a b:Nat):Bool:=(F.getD a 0).testBit b
def nL(F:List Nat)(rest a:Nat)(nu:Nat→Nat)(m b:Nat):Nat:=if(rest&&&F.getD a 0).testBit b=true then max m (1+nu (lU rest (2^b)))else m
def LR(F:List Nat)(n:Nat):Nat→Nat→Nat
 |0,_=>0
 |k+1,m=>if m=0 then 0 else(List.range n).foldl (nL F (lU m (2^low m)) (low m) (LR F n k)) (LR F n k (lU m (2^low m)))
def N9(F:List Nat)(n m:Nat):Nat:=LR F n m m
theorem pE{α β:Type}{f g:β→α→β}:∀{l:List α} {b:β},(∀b,∀a∈l,f b a=g b a)→l.foldl f b=l.foldl g b
 | [],_,_=>rfl
 |x::l,b,h=>by
  rw[List.foldl_cons,List.foldl_cons,h b x List.mem_cons_self];exact pE fun b a ha=>h b a (List.mem_cons_of_mem _ ha)
theorem sF{F:List Nat}{n:Nat}:∀(k m l:Nat),m≤k→m≤l→LR F n k m=LR F n l m
 |0,m,l,h,_=>by
  obtain rfl:m=0:=by omega
  cases l<;>simp[LR]
 |k+1,m,0,_,h=>by
  obtain rfl:m=0:=by omega
  simp[LR]
 |k+1,m,l+1,h,h'=>by
  simp only[LR];by_cases hm:m=0
  ·rw[if_pos hm,if_pos hm]
  ·rw[if_neg hm,if_neg hm];have hlt:=yR (pT hm).1;have e0:=sF (F:=F) (n:=n) k (lU m (2^low m)) l Yd Yd;rw[e0];refine pE fun b a _=>?_
   unfold nL;split
   ·have:=rS (lU m (2^low m)) (2^a);rw[sF k (lU (lU m (2^low m)) (2^a)) l Yd Yd]
   ·rfl
theorem U7{F:List Nat}{n:Nat}:N9 F n 0=0:=rfl
theorem e6{F:List Nat}{n m:Nat}(h:m≠0):N9 F n m=(List.range n).foldl (nL F (lU m (2^low m)) (low m) (N9 F n)) (N9 F n (lU m (2^low m))):=by
 have hlt:=yR (pT h).1;obtain⟨k,rfl⟩:∃k,m=k+1:=⟨m-1,by omega⟩
 show LR F n (k+1) (k+1)=_;rw[LR,if_neg h];rw[sF k (lU (k+1) (2^low (k+1))) (lU (k+1) (2^low (k+1))) Yd (Nat.le_refl _)];refine pE fun b a _=>?_
 unfold nL;split
 ·have:=rS (lU (k+1) (2^low (k+1))) (2^a);rw[sF k (lU (lU (k+1) (2^low (k+1))) (2^a)) _ Yd (Nat.le_refl _)];rfl
 ·rfl
end Go.Fs.C7
namespace Go.Fs.C7
theorem AM{F:List Nat}{rest a:Nat}{nu:Nat→Nat}:∀(l:List Nat) (m:Nat),l.foldl (nL F rest a nu) m=m∨∃b∈l,(rest&&&F.getD a 0).testBit b=true∧l.foldl (nL F rest a nu) m=1+nu (lU rest (2^b))
 | [],m=>Or.inl rfl
 |x::l,m=>by
  rw[List.foldl_cons];rcases AM l (nL F rest a nu m x)with h|⟨b,hb,hbit,h⟩
  ·rw[h];unfold nL;split
   ·rename_i hx;by_cases hm:m≤1+nu (lU rest (2^x))
    ·exact Or.inr ⟨x,List.mem_cons_self,hx,by omega⟩
    ·exact Or.inl Yd
   ·exact Or.inl rfl
  ·exact Or.inr ⟨b,List.mem_cons_of_mem _ hb,hbit,h⟩
theorem AQ{m b:Nat}(h:m≠0):lU (lU m (2^low m)) (2^b)<m:=Nat.lt_of_le_of_lt (rS _ _) (yR (pT h).1)

def sH:List Int→List Pt
 |a::b::c::l=>⟨a,b,c⟩::sH l
 |_=>[]
def gN(l:List Ch):List Int:=l.flatMap fun c=>c.parts.l
def kW(l:List Pt):List Int:=l.flatMap Pt.l
theorem yU(p:Pt)(l:List Pt):kW (p::l)=p.a::p.b::p.c::kW l:=rfl
theorem oC(l:List Ch):(gN l).length=3*l.length:=by
 induction l with
 |nil=>rfl
 |cons c l ih=>unfold gN at ih ⊢;rw[List.flatMap_cons,List.length_append,ih,List.length_cons];simp[Pt.l];omega
theorem k9:∀(n:Nat) (l:List Int),l.length=3*n→kW (sH l)=l∧(sH l).length=n
 |0,l,h=>by
  obtain rfl:l=[]:=List.length_eq_zero_iff.1 Yd;exact⟨rfl,rfl⟩
 |n+1,l,h=>by
  match l,h with
  |a::b::c::l,h=>
   obtain⟨h1,h2⟩:=k9 n l (by simp only[List.length_cons]at h;omega);rw[sH,yU];exact⟨by rw[h1],by rw[List.length_cons,h2]⟩
def OX(y:bO):List (List Pt):=(C1.bX (gN y.chairs)).map sH
theorem kK:∀{l t:List Int},t∈C1.bX l ↔ t.length=l.length∧∀x∈l.zip t,g8 x.1 x.2=true∧True
 | [],t=>by simp[C1.bX]
 |p::l,t=>by
  have ih:=fun t=> @kK l t
  cases t with
  |nil=>simp[C1.bX]
  |cons x t=>
   have:x::t∈C1.bX (p::l) ↔ ((p=2∨p=x)∧(x=0∨x=1))∧t∈C1.bX l:=by
    rw[show C1.bX (p::l)=(if p=2∨p=0 then(C1.bX l).map (0:: ·)else [])++(if p=2∨p=1 then(C1.bX l).map (1:: ·)else [])from rfl,List.mem_append];constructor
    ·rintro(h|h)
     ·split at h
      ·rename_i hp;obtain⟨s,hs,he⟩:=List.mem_map.1 h;obtain⟨rfl,rfl⟩:=List.cons.inj he;exact⟨⟨hp,Or.inl rfl⟩,hs⟩
      ·cases h
     ·split at h
      ·rename_i hp;obtain⟨s,hs,he⟩:=List.mem_map.1 h;obtain⟨rfl,rfl⟩:=List.cons.inj he;exact⟨⟨hp,Or.inr rfl⟩,hs⟩
      ·cases h
    ·rintro⟨⟨hp,rfl|rfl⟩,ht⟩
     ·exact Or.inl (by rw[if_pos hp];exact List.mem_map.2 ⟨t,ht,rfl⟩)
     ·exact Or.inr (by rw[if_pos hp];exact List.mem_map.2 ⟨t,ht,rfl⟩)
   rw[this,ih];simp only[List.length_cons,List.zip_cons_cons,List.mem_cons,and_true,forall_eq_or_imp,Nat.add_right_cancel_iff];have:g8 p x=true ↔ (p=2∨p=x)∧(x=0∨x=1):=by
    unfold g8;simp only[Bool.and_eq_true,bT,Bool.or_eq_true,decide_eq_true_eq];constructor
    ·rintro⟨h1,h2⟩;exact⟨h2.imp id Eq.symm,by omega⟩
    ·rintro⟨h1,h2⟩;exact⟨by omega,h1.imp id Eq.symm⟩
   rw[this];constructor
   ·rintro⟨h1,h2,h3⟩;exact⟨h2,h1,h3⟩
   ·rintro⟨h2,h1,h3⟩;exact⟨h1,h2,h3⟩
end Go.Fs.C7
namespace Go.Fs
open Go.Proofs
namespace L7
open C7
def A3(n:Nat)(M:List (rT 8×Int)):Prop:=∀p∈M,∃(m:Nat) (F:List Nat),p.1.l=(m:Int)::F.map (fun x:Nat=>(x:Int))∧p.2=(N9 F n m:Int)
theorem G2:∀{F G:List Nat},F.map (fun x:Nat=>(x:Int))=G.map (fun x:Nat=>(x:Int))→F=G
 | [],[],_=>rfl
 |x::F,y::G,h=>by
  rw[List.map_cons,List.map_cons,List.cons.injEq]at h;rw[G2 h.2,show x=y by omega]
theorem MZ{n m:Nat}{a0 a1 a2 a3 a4 a5 a6:Nat}{M:List (rT 8×Int)}{v:Int}{h:[(m:Int),a0,a1,a2,a3,a4,a5,a6].length=8}(hok:A3 n M)(hm:(⟨[(m:Int),a0,a1,a2,a3,a4,a5,a6],h⟩,v)∈M):v=(N9 [a0,a1,a2,a3,a4,a5,a6] n m:Int):=by
 obtain⟨m',F,h1,h2⟩:=hok _ hm;simp only[List.cons.injEq]at h1;obtain⟨h0,h1⟩:=h1;have:F=[a0,a1,a2,a3,a4,a5,a6]:=G2 (by rw[←h1];rfl)
 rw[this,show m'=m by omega]at h2;exact h2
theorem OF{n m:Nat}{a0 a1 a2 a3 a4 a5 a6:Nat}{M M':List (rT 8×Int)}{v:Int}{h:[(m:Int),a0,a1,a2,a3,a4,a5,a6].length=8}(hok:A3 n M)(hm:∀p∈M',p∈M∨p=(⟨[(m:Int),a0,a1,a2,a3,a4,a5,a6],h⟩,v))(hv:v=(N9 [a0,a1,a2,a3,a4,a5,a6] n m:Int)):A3 n M':=fun p hp=>by
 rcases hm p hp with h1|rfl
 ·exact hok p h1
 ·exact⟨m,[a0,a1,a2,a3,a4,a5,a6],rfl,hv⟩
theorem A3.nil{n:Nat}:A3 n []:=fun p hp=>by cases hp
theorem O0{m n:Nat}(h:∀x,m.testBit x=true→x<n)(hn:n≤7):m<128:=by
 have:m<2^n:=by
  apply Nat.lt_pow_two_of_testBit;intro i hi;cases e:m.testBit i with
  |false=>rfl
  |true=>have:=h i e;omega
 have h2:2^n≤2^7:=Nat.pow_le_pow_right Yd hn;omega
theorem yJ{m n a:Nat}(h:∀x,m.testBit x=true→x<n):∀x,(lU m (2^a)).testBit x=true→x<n:=fun x hx=>h x (by rw[RD]at hx;simp at hx;exact hx.1)
theorem v8{k:Nat}(h:k<7):2^k<128:=by
 have:2^k<2^7:=Nat.pow_lt_pow_right Yd h;omega
theorem QV{F:List Nat}(h:∀f∈F,f<128)(a:Nat):F.getD a 0<128:=by
 rw[List.getD_eq_getElem?_getD];cases e:F[a]? with
 |none=>simp
 |some x=>exact h x (List.mem_of_getElem? e)
theorem QB(a0 a1 a2 a3 a4 a5 a6:Nat){a:Nat}(h:a<7):([.int .i64 (a0:Int),.int .i64 (a1:Int),.int .i64 (a2:Int),.int .i64 (a3:Int),.int .i64 (a4:Int),.int .i64 (a5:Int),.int .i64 (a6:Int)]:List Value)[a*1]?= some (.int .i64 (([a0,a1,a2,a3,a4,a5,a6].getD a 0:Nat):Int)):=by
 have e:a=0∨a=1∨a=2∨a=3∨a=4∨a=5∨a=6:=by omega
 rcases e with rfl|rfl|rfl|rfl|rfl|rfl|rfl<;>rfl
theorem s7(F:List Nat)(n:Nat):∀m,N9 F n m≤m:=by
 intro m;induction m using Nat.strongRecOn with
 |_ m ih=>
  by_cases hm:m=0
  ·subst hm;rw[U7];exact Nat.le_refl _
  ·have hlt:=yR (pT hm).1;rcases AM (F:=F) (rest:=lU m (2^low m)) (a:=low m) (nu:=N9 F n) (List.range n) (N9 F n (lU m (2^low m)))with h|⟨b,_,_,h⟩
   ·rw[e6 hm,h];have:=ih _ hlt;omega
   ·rw[e6 hm,h];have h2:=AQ (b:=b) hm;have:=ih _ h2;omega
def FF(F:List Nat)(n m k:Nat):Nat:=(List.range k).foldl (nL F (lU m (2^low m)) (low m) (N9 F n)) (N9 F n (lU m (2^low m)))
theorem FR{F:List Nat}{n m:Nat}(h:m≠0):N9 F n m=FF F n m n:=e6 h
theorem OB{F:List Nat}{n m k:Nat}(h:(lU m (2^low m)&&&F.getD (low m) 0).testBit k=true):FF F n m (k+1)=max (FF F n m k) (1+N9 F n (lU (lU m (2^low m)) (2^k))):=by
 have e:FF F n m (k+1)=nL F (lU m (2^low m)) (low m) (N9 F n) (FF F n m k) k:=by unfold FF;rw[List.range_succ,List.foldl_append,List.foldl_cons,List.foldl_nil]
 rw[e];unfold nL;rw[if_pos h]
theorem QG{F:List Nat}{n m k:Nat}(h:(lU m (2^low m)&&&F.getD (low m) 0).testBit k=false):FF F n m (k+1)=FF F n m k:=by
 have e:FF F n m (k+1)=nL F (lU m (2^low m)) (low m) (N9 F n) (FF F n m k) k:=by unfold FF;rw[List.range_succ,List.foldl_append,List.foldl_cons,List.foldl_nil]
 rw[e];unfold nL;rw[if_neg (by rw[h];simp)]
theorem P3{wb mb t cl:Nat}{cs:List Value}{es:Array MapEntry}:∀p∈[(wb,Obj.cells cs.toArray t (0,0)),(mb,.map es cl)],cB p.2:=by
 intro p hp;simp only[List.mem_cons,List.not_mem_nil,or_false]at hp;rcases hp with rfl|rfl
 ·rfl
 ·trivial
theorem GV:KA Tryz.prog 271 7:=⟨(Tryz.prog.fieldsOf 271)[0]!,(Tryz.prog.fieldsOf 271)[1]!,3,by kernel_rfl,by kernel_rfl,by kernel_rfl,by decide+kernel,by decide+kernel,by kernel_rfl,by kernel_rfl,by kernel_rfl,by kernel_rfl,by kernel_rfl,by kernel_rfl,by rw[show((Tryz.prog.fieldsOf 271)[1]!).type=213 by kernel_rfl];exact Tf.a213,by rw[show((Tryz.prog.fieldsOf 271)[1]!).type=213 by kernel_rfl];exact Tf.s213,Tf.s3⟩
theorem KK(wb mb:Nat)(cv qv:Value)(fit:Int)(chs:List Ch)(a0 a1 a2 a3 a4 a5 a6:Nat)(hn7:chs.length≤7)(hF:∀f∈[a0,a1,a2,a3,a4,a5,a6],f<128):
  ∀(L m:Nat),m=L→(∀x,m.testBit x=true→x<chs.length)→∀(es:Array MapEntry) (clock:Nat) (M:List (rT 8×Int)) (D:aA),Sl D qY 4 cv chs→mY O9 es M→A3 chs.length M→
  O8 Tryz.prog 171 [.pointer (some ⟨wb,0,none⟩),.agg #[.int .i64 (m:Int),.int .i64 (a0:Int),.int .i64 (a1:Int),.int .i64 (a2:Int),.int .i64 (a3:Int),.int .i64 (a4:Int),.int .i64 (a5:Int),.int .i64 (a6:Int)]] D [(wb,.cells [cv,.int .i64 fit,qv,.map (some mb)].toArray 207 (0,0)),(mb,.map es clock)] (fun _ v ν'=>v=.int .i64 (N9 [a0,a1,a2,a3,a4,a5,a6] chs.length m:Int)∧∃es' clock' M',ν'=[(wb,.cells [cv,.int .i64 fit,qv,.map (some mb)].toArray 207 (0,0)),(mb,.map es' clock')]∧mY O9 es' M'∧A3 chs.length M'):=by
 intro L;induction L using Nat.strongRecOn with
 |_ L ih=>
 intro m hL hbits es clock M D hS hM hok;subst hL;have hl1:=hS.len;have hmb:=O0 hbits hn7;refine gI 78 Tryz.func171 rfl rfl rfl rfl (fun h0 hwl hwn=>Zy (C.rg (Zr rfl (fun q1 E1 hE1 hB1=>Zj rfl (Zo (Zx (Zy (Zy (C.rg (Zk rfl Tf.f271_0 rfl (Zg 0 rfl Tf.a3 rfl hB1 rfl ?_)))))))))));refine eL rfl rfl rfl rfl trivial (Zo (Zx (aH rfl (fun hc1=>?_) (fun hc1=>?_))))
 ·refine Zy (C.rg (Zj rfl (Zo (Zx (aC (Zad ?_))))));exact eV (A:=[]) (ν':=[_,_]) (B:=[]) (vs:=[_]) rfl rfl rfl ⟨rfl,trivial⟩ rfl (fun D hD=>⟨by show Value.int _ _=_;rw[show m=0 by omega,U7];rfl,es,clock,M,rfl,hM,hok⟩)
 ·have hm0:m≠0:=by omega
  have hlow:=pT hm0;have hlown:=hbits _ hlow.1;have hlow7:low m<7:=by omega
  have hp2:=v8 hlow7;have hlt:=yR hlow.1;have hrest:=rS m (2^low m);refine Zac (Zx (Zy (Zy (C.drawA [] 6 11 784 (fun _ _ _ h=>dF (P:=Tryz.prog) (fn:=Tryz.f171) _ _ _ h) (Za rfl (Zab rfl (Zk rfl Tf.f207_1 rfl (Zn rfl Tf.a205 rfl (List.Mem.head _) rfl (Zq rfl Tf.a271 rfl hB1 Tf.s271 (BB (val:=O9 (n:=8)) (a:=⟨[(m:Int),(a0:Int),(a1:Int),(a2:Int),(a3:Int),(a4:Int),(a5:Int),(a6:Int)],rfl⟩) rfl U205 GV.key Tf.z3 rfl rfl (List.Mem.tail _ (List.Mem.head _)) List.not_mem_nil hM rfl trivial (fun nv ok hmem=>Za rfl ?_)))))))))));refine Zz rfl (Zz rfl (Zj rfl (Zj rfl (Zo (Zx (Zy (C.rg (Za rfl (Zo (Zx (aP rfl (fun hc2=>?_) (fun hc2=>?_))))))))))))
  ·subst hc2;refine Zy (C.rg (Za rfl (Zj rfl (Zo (Zx (aC (Zad ?_)))))));exact eV (A:=[]) (ν':=[_,_]) (B:=[]) (vs:=[_]) rfl rfl rfl ⟨rfl,trivial⟩ rfl (fun D hD=>⟨by show Value.int _ _=_;rw[MZ hok (hmem rfl)],es,clock,M,rfl,hM,hok⟩)
  ·refine Zac (Zx (Zy (C.rg (Zk rfl Tf.f271_0 rfl (Zg 0 rfl Tf.a3 rfl hB1 rfl (Zd rfl (fun D1 hD1=>CK m (low m) _ hlow.1 Yd hlow.2) (Zj rfl (Zo (Zx (Zy (C.drawA [] 2 6 12 (fun _ _ _ h=>dF (P:=Tryz.prog) (fn:=Tryz.f171) _ _ _ h) ?_)))))))))));refine Zk rfl Tf.f271_0 rfl (Zg 0 rfl Tf.a3 rfl hB1 rfl (Za rfl (O3 rfl rfl rfl Yd rfl trivial (JS rfl rfl rfl Yd Yd rfl trivial (Zj rfl (Zo (Zx (Zy (C.rg (Za rfl (Za rfl ?_)))))))))));refine Zk rfl Tf.f271_1 rfl (gC rfl (k:=1) (us:=[.int .i64 (a0:Int),.int .i64 (a1:Int),.int .i64 (a2:Int),.int .i64 (a3:Int),.int .i64 (a4:Int),.int .i64 (a5:Int),.int .i64 (a6:Int)]) Tf.a213 Tf.s213 rfl hB1 Yc rfl rfl List.not_mem_nil rfl trivial (lY (cs:=[.int .i64 ((lU m (2^low m):Nat):Int),.int .i64 (a0:Int),.int .i64 (a1:Int),.int .i64 (a2:Int),.int .i64 (a3:Int),.int .i64 (a4:Int),.int .i64 (a5:Int),.int .i64 (a6:Int)]) rfl Tf.p271 Tf.z271 rfl Yg rfl trivial (iQ (A:=[]) (ν:=[(_,_),(_,_)]) (B:=[]) rfl rfl rfl rfl (Or.inl rfl) (P3 (cs:=[_,_,_,_])) (fun D5 hD5=>ih _ hlt _ rfl (yJ hbits) es clock M D5 (hS.up qY.up (hD5 _ Ye)) hM hok) rfl trivial (fun v5 D6 _ hD6 hp5=>?_))));obtain⟨rfl,es4,cl4,M4,rfl,hM4,hok4⟩:=hp5;refine Zj rfl (Zo (Zx (Zy (Zy (C.rg (Za rfl (Zab rfl (Zk rfl Tf.f207_0 rfl (Zk rfl Tf.f40_0 rfl (Zn rfl Tf.a37 rfl (List.Mem.head _) rfl (aY rfl U37 rfl hS rfl rfl trivial ?_)))))))))));refine Za rfl (Zo (Zx (Zae (cZ (γ:=Nat×Array MapEntry×Nat×List (rT 8×Int)) (fun g=>chs.length-g.1) (fun g=>g.1≤chs.length∧mY O9 g.2.1 g.2.2.2∧A3 chs.length g.2.2.2) (fun g=>[(45,.int .i64 (g.1:Int)),(9,.int .i64 (FF [a0,a1,a2,a3,a4,a5,a6] chs.length m g.1:Int))]) [(44,_),(8,_),(7,_),(4,_),(3,_),(0,_)] (fun g=>[(wb,.cells [cv,.int .i64 fit,qv,.map (some mb)].toArray 207 (0,0)),(mb,.map g.2.1 g.2.2.1)]) (fun g=>[D6,E1,D]) (0,es4,cl4,M4) ⟨by simp,hM4,hok4⟩ ⟨Yb,Yb,trivial⟩ C.rs (List.Sublist.refl _) (aG) ?_))));rintro⟨k,es1,cl1,M1⟩ ⟨h1,hM1,hok1⟩;simp only at h1 hM1 hok1;refine Zy (C.rg (Zaa rfl (Zo (Zx (Zy (aH rfl (fun hc3=>?_) (fun hc3=>?_)))))))
   ·have hk:k<chs.length:=by omega
    have hpk:=v8 (show k<7 by omega);have hrow:=QV hF (low m);have hdl:=rS (lU m (2^low m)) (2^k);have hnl:=s7 [a0,a1,a2,a3,a4,a5,a6] chs.length (lU (lU m (2^low m)) (2^k));have hand:=Nat.and_le_left (n:=lU m (2^low m)) (m:=[a0,a1,a2,a3,a4,a5,a6].getD (low m) 0);refine Zac (Zx (Zy (Zae (Zy (C.rg (Za rfl (Zj rfl (Zo (Zx (Zy (C.rg ?_)))))))))));refine Za rfl (Za rfl (Zk rfl Tf.f271_1 rfl (jJ rfl U213 Tf.s3 rfl rfl Yd Yd rfl trivial (bP (o:=0+1) (k:=low m*1) rfl Tf.a3 rfl hB1.tail Ye (QB a0 a1 a2 a3 a4 a5 a6 hlow7) List.not_mem_nil rfl trivial (PV rfl rfl rfl Yd Yd rfl trivial (Za rfl (KF rfl rfl rfl Yd rfl trivial (T5 rfl rfl rfl (Int.natCast_nonneg _) Yd (by rw[pW];split<;>simp only[qD]<;>omega) rfl trivial (eL rfl rfl rfl rfl trivial (Zo (Zx ?_)))))))))));refine aH rfl (fun hc4=>?_) (fun hc4=>?_)
    ·have hbit:(lU m (2^low m)&&& [a0,a1,a2,a3,a4,a5,a6].getD (low m) 0).testBit k=true:=by rw[pW]at hc4;simpa using hc4
     refine gO hB1 Ye (fun hq1=>?_);have hq1:q1∉[wb,mb]:=hq1;refine mW [wb,mb] 6 [0,1,2,3,4,5,6,7,8,9,10,11,12] [false,true,true,true,true,true,true,true,true,true,true,false,false] [(false,0),(true,1),(true,2),(true,3),(true,4),(true,5),(true,6),(true,7),(true,8),(true,9),(true,10),(false,11),(false,12)] Tf.follows (fun _ _ _ h=>dF (P:=Tryz.prog) (fn:=Tryz.f171) _ _ _ h) Yg rfl (Za rfl (Za rfl (Za rfl (Za rfl (O3 rfl rfl rfl Yd rfl trivial (JS rfl rfl rfl Yd Yo rfl trivial (Zk rfl Tf.f271_1 rfl (gC rfl (k:=1) (us:=[.int .i64 (a0:Int),.int .i64 (a1:Int),.int .i64 (a2:Int),.int .i64 (a3:Int),.int .i64 (a4:Int),.int .i64 (a5:Int),.int .i64 (a6:Int)]) Tf.a213 Tf.s213 rfl hB1 Yc rfl rfl Yk rfl trivial (lY (cs:=[.int .i64 ((lU (lU m (2^low m)) (2^k):Nat):Int),.int .i64 (a0:Int),.int .i64 (a1:Int),.int .i64 (a2:Int),.int .i64 (a3:Int),.int .i64 (a4:Int),.int .i64 (a5:Int),.int .i64 (a6:Int)]) rfl Tf.p271 Tf.z271 rfl Yg rfl trivial (iQ (A:=[]) (ν:=[(_,_),(_,_)]) (B:=[]) rfl rfl rfl rfl (Or.inr (fun p hp=>List.mem_map.2 ⟨p,hp,rfl⟩)) (P3 (cs:=[_,_,_,_])) (fun D7 hD7=>ih _ (AQ hm0) _ rfl (yJ (yJ hbits)) es1 cl1 M1 D7 (hS.up qY.up (hD7 _ Ye)) hM1 hok1) rfl trivial (fun v7 D8 _ hD8 hp7=>?_)))))))))));obtain⟨rfl,es5,cl5,M5,rfl,hM5,hok5⟩:=hp7;refine Zt rfl (mT rfl rfl rfl rfl trivial (Zj rfl (Zo (Zag (Zx (C.rg (Zt rfl (Za rfl (Zo ?_)))))))));exact aN 30 (k+1,es5,cl5,M5) ⟨by simp only;omega,hM5,hok5⟩ Yo ⟨Yb,(by rw[OB hbit];show some (Value.int _ _)=some (Value.int _ _);congr 2;simp only;omega),trivial⟩ rfl rfl (List.Sublist.refl _) (fun D h=>⟨D,List.Mem.tail _ (h),Le.refl D⟩)
    ·have hbit:(lU m (2^low m)&&& [a0,a1,a2,a3,a4,a5,a6].getD (low m) 0).testBit k=false:=by rw[pW]at hc4;simpa using hc4
     refine Zac (Zag (Zx (C.rg (Zt rfl (Za rfl (Zo ?_))))));exact aN 17 (k+1,es1,cl1,M1) ⟨by simp only;omega,hM1,hok1⟩ Yo ⟨Yb,(by rw[QG hbit];rfl),trivial⟩ rfl rfl (List.Sublist.refl _) (aG)
   ·obtain rfl:k=chs.length:=by omega
    refine aZ (Zaf (Zaf (aE (Zx (Zy (C.drawA [] 3 7 48 (fun _ _ _ h=>dF (P:=Tryz.prog) (fn:=Tryz.f171) _ _ _ h) (Za rfl (Zab rfl (Zk rfl Tf.f207_1 rfl (Zn rfl Tf.a205 rfl (List.Mem.head _) rfl (Zq rfl Tf.a271 rfl hB1 Tf.s271 ?_)))))))))));refine Za rfl (EN (val:=O9 (n:=8)) (A:=[(_,_)]) (B:=[]) (a:=⟨[(m:Int),(a0:Int),(a1:Int),(a2:Int),(a3:Int),(a4:Int),(a5:Int),(a6:Int)],rfl⟩) rfl U205 GV.key rfl rfl rfl hM1 trivial (fun es3 cl3 M3 hM3 hm3=>Zo (Zx (Zy (C.rg (Za rfl (Zj rfl (Zo (Zx (aC ?_))))))))));exact eV (A:=[]) (ν':=[_,_]) (B:=[]) (vs:=[_]) rfl rfl rfl ⟨rfl,trivial⟩ rfl (fun D hD=>⟨by show Value.int _ _=_;rw[FR hm0],es3,cl3,M3,rfl,hM3,OF hok1 hm3 (by rw[FR hm0])⟩)
end L7
end Go.Fs
namespace Go.Fs
open Go.Proofs
namespace L7
open C7
structure IX(n:Nat)(s:Sc):Prop where
 len:s.fits.length=7
 row:∀f∈s.fits,f<128
 bits:∀x,s.broken.testBit x=true→x<n
 whole:s.whole≤7
def qW(n:Nat)(s:Sc):Nat:=s.whole+N9 s.fits n s.broken
theorem ST{α:Type}{l:List α}(h:l.length=7):∃a b c d e f g,l=[a,b,c,d,e,f,g]:=by
 match l,h with
 | [a,b,c,d,e,f,g],_=>exact⟨a,b,c,d,e,f,g,rfl⟩
theorem BW{y:bO}{t:List Pt}(hl:t.length=y.chairs.length)(h7:t.length≤7):IX y.chairs.length (dR y t):=by
 refine⟨by simp[dR],fun f hf=>?_,fun x hx=>?_,?_⟩
 ·obtain⟨j,_,rfl⟩:=List.mem_map.1 hf;have h1:=K0 (kU y t j) t.length;have h2:2^t.length≤2^7:=Nat.pow_le_pow_right Yd h7;omega
 ·simp only[dR]at hx;rw[nF]at hx;simp at hx;omega
 ·have:whole t≤t.length:=List.length_filter_le _ _;simp only[dR];omega
theorem GJ(wb mb:Nat)(cv qv:Value)(fit:Int)(chs:List Ch)(w b:Nat)(a0 a1 a2 a3 a4 a5 a6:Nat)(hn7:chs.length≤7)(hF:∀f∈[a0,a1,a2,a3,a4,a5,a6],f<128)(hw:w≤7)(hbits:∀x,b.testBit x=true→x<chs.length)(es:Array MapEntry)(clock:Nat)(M:List (rT 8×Int))(D:aA)(hS:Sl D qY 4 cv chs)(hM:mY O9 es M)(hok:A3 chs.length M):
  O8 Tryz.prog 102 [.pointer (some ⟨wb,0,none⟩),.agg #[.int .i64 (w:Int),.int .i64 ((b:Nat):Int),.int .i64 (a0:Int),.int .i64 (a1:Int),.int .i64 (a2:Int),.int .i64 (a3:Int),.int .i64 (a4:Int),.int .i64 (a5:Int),.int .i64 (a6:Int)]] D [(wb,.cells [cv,.int .i64 fit,qv,.map (some mb)].toArray 207 (0,0)),(mb,.map es clock)] (fun _ v ν'=>v=.int .i64 ((w+N9 [a0,a1,a2,a3,a4,a5,a6] chs.length b:Nat):Int)∧∃es' clock' M',ν'=[(wb,.cells [cv,.int .i64 fit,qv,.map (some mb)].toArray 207 (0,0)),(mb,.map es' clock')]∧mY O9 es' M'∧A3 chs.length M'):=by
 have hbl:=O0 hbits hn7;have hnl:=s7 [a0,a1,a2,a3,a4,a5,a6] chs.length b;refine gI 15 Tryz.func102 rfl rfl rfl rfl (fun h0 hwl hwn=>Zy (C.rg (Zr rfl (fun q1 E1 hE1 hB1=>Zj rfl (Zo (Zx (Zy (gO hB1 Ye (fun hq1=>?_)))))))));have hq1:q1∉[wb,mb]:=hq1;refine mW [wb,mb] 4 [0,1,2,3,4,5,6,7,8,9,10] [false,false,true,true,true,true,true,true,true,false,false] [(false,0),(false,1),(true,2),(true,3),(true,4),(true,5),(true,6),(true,7),(true,8),(false,9),(false,10)] Tf.follows (fun _ _ _ h=>dF (P:=Tryz.prog) (fn:=Tryz.f102) _ _ _ h) Yg rfl (Zk rfl Tf.f215_0 rfl (bP rfl (k:=0) Tf.a3 rfl hB1 Yc rfl Yk rfl trivial (Za rfl (Zk rfl Tf.f215_1 rfl (bP rfl (k:=1) Tf.a3 rfl hB1 Yc rfl Yk rfl trivial (Zk rfl Tf.f215_2 rfl (gC rfl (k:=2) (us:=[.int .i64 (a0:Int),.int .i64 (a1:Int),.int .i64 (a2:Int),.int .i64 (a3:Int),.int .i64 (a4:Int),.int .i64 (a5:Int),.int .i64 (a6:Int)]) Tf.a213 Tf.s213 rfl hB1 Yc rfl rfl Yk rfl trivial (lY (cs:=[.int .i64 ((b:Nat):Int),.int .i64 (a0:Int),.int .i64 (a1:Int),.int .i64 (a2:Int),.int .i64 (a3:Int),.int .i64 (a4:Int),.int .i64 (a5:Int),.int .i64 (a6:Int)]) rfl Tf.p271 Tf.z271 rfl Yg rfl trivial (iQ (A:=[]) (ν:=[(_,_),(_,_)]) (B:=[]) rfl rfl rfl rfl (by first|exact Or.inl rfl|exact Or.inr (fun p hp=>List.mem_map.2 ⟨p,hp,rfl⟩)) (P3 (cs:=[_,_,_,_])) (fun D5 hD5=>KK wb mb cv qv fit chs a0 a1 a2 a3 a4 a5 a6 hn7 hF _ b rfl hbits es clock M D5 (hS.up qY.up (hD5 _ Ye)) hM hok) rfl trivial (fun v5 D6 _ hD6 hp5=>?_))))))))));obtain⟨rfl,es1,cl1,M1,rfl,hM1,hok1⟩:=hp5;refine Zt rfl (Zj rfl (Zo (Zx (aC ?_))));exact eV (A:=[]) (ν':=[_,_]) (B:=[]) (vs:=[_]) rfl rfl rfl ⟨rfl,trivial⟩ rfl (fun D hD=>⟨by show Value.int _ _=_;congr 1,es1,cl1,M1,rfl,hM1,hok1⟩)
theorem MB(wb mb:Nat)(cv qv:Value)(fit:Int)(chs:List Ch)(s:Sc)(hn7:chs.length≤7)(hs:IX chs.length s)(es:Array MapEntry)(clock:Nat)(M:List (rT 8×Int))(D:aA)(hS:Sl D qY 4 cv chs)(hM:mY O9 es M)(hok:A3 chs.length M):
  O8 Tryz.prog 102 [.pointer (some ⟨wb,0,none⟩),SM s] D [(wb,.cells [cv,.int .i64 fit,qv,.map (some mb)].toArray 207 (0,0)),(mb,.map es clock)] (fun _ v ν'=>v=.int .i64 (qW chs.length s:Int)∧∃es' clock' M',ν'=[(wb,.cells [cv,.int .i64 fit,qv,.map (some mb)].toArray 207 (0,0)),(mb,.map es' clock')]∧mY O9 es' M'∧A3 chs.length M'):=by
 obtain⟨w,b,F⟩:=s;obtain⟨a0,a1,a2,a3,a4,a5,a6,rfl⟩:=ST hs.len;exact GJ wb mb cv qv fit chs w b a0 a1 a2 a3 a4 a5 a6 hn7 hs.row hs.whole hs.bits es clock M D hS hM hok
end L7
end Go.Fs
namespace Go.Fs
open Go.Proofs
namespace L7
open C7
structure YOk(y:bO):Prop where
 len:y.chairs.length≤7
 cls:y.claims.length≤5
 fit:0≤y.fit∧y.fit≤9
 size:∀c∈y.chairs,0≤c.size∧c.size≤9
 part:∀c∈y.chairs,∀n∈c.parts.l,0≤n∧n≤2
 claim:∀r∈y.claims,0≤r.1∧r.1≤r.2∧r.2≤7
 unk:gR y.chairs≤8
theorem yOk{y:bO}(h:aV y=0):YOk y:=by
 unfold aV at h;split at h
 ·omega
 ·rename_i h1;split at h
  ·omega
  ·rename_i h2;split at h
   ·omega
   ·rename_i h3;have h4:rF y=true:=by simpa using h2
    simp only[rF,Bool.and_eq_true,List.all_eq_true,bT]at h4;obtain⟨⟨h5,h6⟩,h7⟩:=h4;refine⟨by omega,by omega,h5,fun c hc=>?_,fun c hc n hn=>?_,fun r hr=>?_,by omega⟩
    ·have:=h6 c hc;simp only[fY,Bool.and_eq_true,bT]at this;exact this.1
    ·have:=h6 c hc;simp only[fY,Bool.and_eq_true,y7,List.all_eq_true]at this
     exact bT.1 (this.2 n hn)
    ·have:=h7 r hr;simp only[jN,Bool.and_eq_true,decide_eq_true_eq]at this;exact⟨this.1.1,this.1.2,this.2⟩
def oG(cl:List (Int×Int))(out:List Int)(n:Int)(i:Nat):Bool:=(out.any fun x=>decide ((i:Int)=x))||(match cl[i]? with|some r=>eY n r.1 r.2|none=>true)
def pU(cl:List (Int×Int))(out:List Int)(n:Int):Bool:=(List.range cl.length).all (oG cl out n)
theorem BM{cl:List (Int×Int)}{out:List Int}{n:Int}{i:Nat}{r:Int×Int}(hr:cl[i]?= some r)(h:((!out.any fun x=>decide ((i:Int)=x))&& !eY n r.1 r.2)=false):oG cl out n i=true:=by
 unfold oG;rw[hr];revert h
 cases out.any fun x=>decide ((i:Int)=x)<;>simp
theorem xH{cl:List (Int×Int)}{out:List Int}{n:Int}{i:Nat}{r:Int×Int}(hi:i<cl.length)(hr:cl[i]?= some r)(h:((!out.any fun x=>decide ((i:Int)=x))&& !eY n r.1 r.2)=true):pU cl out n=false:=by
 unfold pU;rw[List.all_eq_false];refine⟨i,List.mem_range.2 hi,?_⟩;unfold oG;rw[hr];revert h
 cases out.any fun x=>decide ((i:Int)=x)<;>simp
theorem tG{cl:List (Int×Int)}{out:List Int}{n:Int}(h:∀j,j<cl.length→oG cl out n j=true):pU cl out n=true:=by
 unfold pU;rw[List.all_eq_true];exact fun j hj=>h j (List.mem_range.1 hj)
theorem K7(yv:Value)(y:bO)(cv qv:Value)(D:aA)(hy:yv=.agg #[cv,.int .i64 y.fit,qv]):y4 Tryz.prog 54 #[yv] D (fun _ v ν=>∃wb mb,v=.pointer (some ⟨wb,0,none⟩)∧ν=[(wb,.cells [cv,.int .i64 y.fit,qv,.map (some mb)].toArray 207 (0,0)),(mb,.map #[] 0)]):=by
 subst hy;refine mS 7 Tryz.func54 rfl rfl rfl rfl fun h0=>Zy (C.rg (Zr rfl (fun q1 E1 hE1 hB1=>Zj rfl (Zo (Zx (Zy (C.rg (Zq rfl Tf.a40 rfl hB1 Tf.s40 (tY rfl rfl trivial (fun qm=>Zp [cv,.int .i64 y.fit,qv,.map (some qm)] rfl Tf.p207 Tf.z207 rfl rfl ?_))))))))));refine T4 rfl (e:=207) rfl rfl rfl trivial (fun q2=>Zj rfl (Zo (Zx (aC ?_))))
 exact Zc [_] rfl ⟨rfl,trivial⟩ (fun D hD=>⟨_,_,rfl,rfl⟩)
theorem HH(sv:Value)(xs:List Int)(n:Int)(D:aA)(hS:Sl D RI 1 sv xs):Fn Tryz.prog 217 #[sv,.int .i64 n] D (fun _ v=>v=.int .i64 (idxOf (fun x=>decide (n=x)) xs)):=by
 have hl:=hS.len;refine enter 19 Tryz.func217 rfl rfl rfl rfl fun h0=>Zy (C.rg (Zj rfl (Zo (Zx (Zy (Zy (C.rg (Za rfl (aY rfl U25 rfl Yl rfl rfl trivial (Za rfl ?_))))))))));refine Zo (Zx (Zae (bS (γ:=Nat) (fun k=>xs.length-k) (fun k=>k≤xs.length∧(xs.take k).any (fun x=>decide (n=x))=false) (fun k=>[(8,.int .i64 k)]) [(7,_),(4,_),(0,_),(1,_)] (fun k=>[D]) 0 Ye ⟨Yb,trivial⟩ C.rs (aG) ?_)))
 rintro k ⟨h1,h2⟩;refine Zy (C.rg (Zaa rfl (Zo (Zx (Zy (aH rfl (fun hc1=>?_) (fun hc1=>?_)))))))
 ·have hk:k<xs.length:=by omega
  obtain⟨x,hx⟩:∃x,xs[k]?= some x:=⟨_,List.getElem?_eq_getElem hk⟩
  refine Zac (Zx (Zy (Zae (Zy (C.rg (Za rfl (Zj rfl (Zo (Zx (Zy (C.rg ?_)))))))))));refine Za rfl (Za rfl (Za rfl (aJ rfl U25 Tf.s3 rfl Yl rfl Yd Yl rfl trivial (fun b1 o1 cs1 hr1 hcl1 hA1=>?_))));obtain rfl:cs1=[.int .i64 _]:=hr1;refine Zg 0 rfl Tf.a3 rfl hA1 rfl (eL rfl rfl rfl rfl trivial (Zo (Zx (aH rfl (fun hc2=>?_) (fun hc2=>?_)))))
  ·refine Zy (C.rg (Za rfl (Zj rfl (Zo (Zx (aC (aD (Zad (Zad (aD (Zad ?_)))))))))));exact Zc [_] rfl ⟨rfl,trivial⟩ (fun D hD=>by show Value.int _ _=_;rw[fV hx h2 (by simp[hc2])])
  ·refine Zac (Zag (Zx (C.rg (Zt rfl (Za rfl (Zo ?_))))));have h3:(xs.take (k+1)).any (fun x=>decide (n=x))=false:=by rw[List.take_add_one,hx,List.any_append,h2];simp[hc2]
   exact aN 12 (k+1) ⟨by omega,h3⟩ Yd ⟨Yb,trivial⟩ rfl rfl (List.Sublist.refl _) (aG)
 ·refine aZ (Zaf (Zaf (aE (Zx (Zy (C.rg (Zj rfl (Zo (Zx (aC ?_))))))))));exact Zc [_] rfl ⟨rfl,trivial⟩ (fun D hD=>by show Value.int _ _=_;rw[dX Yx])
theorem vE(sv:Value)(xs:List Int)(n:Int)(D:aA)(hS:Sl D RI 1 sv xs):Fn Tryz.prog 144 #[sv,.int .i64 n] D (fun _ v=>v=.bool (xs.any fun x=>decide (n=x))):=by
 refine enter 9 Tryz.func144 rfl rfl rfl rfl fun h0=>Zy (C.rg (Zj rfl (Zo (Zx (Zy (C.rg (Za rfl (Za rfl (Zd rfl (fun D1 hD1=>HH _ xs n _ (Sl.at RI.up hD1 Yl Ye)) (kX rfl rfl rfl rfl trivial ?_))))))))));refine Zj rfl (Zo (Zx (aC ?_)))
 exact Zc [_] rfl ⟨rfl,trivial⟩ (fun D hD=>by show Value.bool (decide _)=_;rw[fT])
theorem yS(yv:Value)(y:bO)(n:Int)(ov:Value)(out:List Int)(D:aA)(hy:kS D yv y)(ho:Sl D RI 1 ov out):Fn Tryz.prog 103 #[yv,.int .i64 n,ov] D (fun _ v=>v=.bool (pU y.claims out n)):=by
 obtain⟨cv,qv,rfl,hc,hq⟩:=hy;have hl:=hq.len;refine enter 28 Tryz.func103 rfl rfl rfl rfl fun h0=>Zy (C.rg (Zr rfl (fun q1 E1 hE1 hB1=>Zj rfl (Zo (Zx (Zy (Zy (C.rg (Zk rfl Tf.f40_2 rfl (Zg 2 rfl Tf.a38 rfl hB1 rfl ?_))))))))));refine aY rfl U38 rfl hq rfl rfl trivial (Za rfl (Zo (Zx (Zae (bS (γ:=Nat) (fun i=>y.claims.length-i) (fun i=>i≤y.claims.length∧∀j,j<i→oG y.claims out n j=true) (fun i=>[(12,.int .i64 (i:Int))]) [(11,_),(10,_),(6,_),(1,_),(2,_)] (fun i=>[E1,D]) 0 Ye ⟨Yb,trivial⟩ C.rs (aG) ?_)))))
 rintro i ⟨h1,h2⟩;refine Zy (C.rg (Zaa rfl (Zo (Zx (Zy (aH rfl (fun hc1=>?_) (fun hc1=>?_)))))))
 ·have hi:i<y.claims.length:=by omega
  obtain⟨r,hr0⟩:∃r,y.claims[i]?= some r:=⟨_,List.getElem?_eq_getElem hi⟩
  refine Zac (Zx (Zy (Zae (Zy (C.rg (Za rfl (aJ rfl U38 Tf.s69 rfl hq rfl Yd hr0 rfl trivial (fun b1 o1 cs1 hr1 hcl1 hA1=>?_))))))));obtain rfl:cs1=[.int .i64 _,.int .i64 _]:=hr1;refine Zq rfl Tf.a69 rfl hA1 Tf.s69 (Zu rfl Tf.z69 rfl (fun q2=>Zj rfl (Zs rfl Tf.s69 (cY.head) (Zo (Zx (Zy (C.rg (Za rfl (Za rfl (Zd rfl (fun D1 hD1=>vE _ out (i:Int) _ (Sl.at RI.up hD1 Yl Ye)) (bV rfl rfl rfl trivial ?_)))))))))));refine Za rfl ?_;refine' dA [(false,5),(false,6),(false,7),(false,8),(false,9)] [] (s:=21) (p:=26) rfl rfl (fun hg1=>?_) (fun hg1=>?_) ?_;rotate_left
  ·refine aX rfl Tf.a69 rfl (List.Mem.head _) Tf.s69 List.not_mem_nil rfl ⟨_,rfl,rfl⟩ (Zb rfl (Ze rfl (fun D2 hD2=>wR r n _) (bV rfl rfl rfl ⟨_,rfl,rfl⟩ (Zv rfl ?_))));exact aF fun a w hh=>hh.cutK 4 rfl
  ·refine Zi rfl (Zi rfl (Zi rfl (Zi rfl (Zw rfl ?_))));exact aF fun a w hh=>hh.cutK 4 rfl
  refine Zo (Zx (aP rfl (fun hc2=>?_) (fun hc2=>?_)))
  ·refine Zy (C.rg (Zj rfl (Zo (Zx (aC (aD (Zad (Zad (aD (Zad ?_))))))))));exact Zc [_] rfl ⟨rfl,trivial⟩ (fun D hD=>by show Value.bool _=_;rw[xH hi hr0 hc2])
  ·refine Zac (Zag (Zx (C.rg (Zt rfl (Za rfl (Zo ?_))))));exact aN 15 (i+1) ⟨by omega,fun j hj=>by rcases Nat.lt_succ_iff_lt_or_eq.1 hj with h|rfl;exact h2 j h;exact BM hr0 hc2⟩ Yd ⟨Yb,trivial⟩ rfl rfl (List.Sublist.cons _ (List.Sublist.refl _)) (aG)
 ·obtain rfl:i=y.claims.length:=by omega
  refine aZ (Zaf (Zaf (aE (Zx (Zy (C.rg (Zj rfl (Zo (Zx (aC ?_))))))))));exact Zc [_] rfl ⟨rfl,trivial⟩ (fun D hD=>by show Value.bool _=_;rw[tG h2])
end L7
end Go.Fs
namespace Go.Fs
open Go.Proofs
namespace L2
open L1
open C2
open C1 (eY bT nB lX)
theorem N2{c:List Int}{a b:Int}(h10:c.length=10)(h0:0≤a)(h1:a≤b)(h9:b≤9):∃x xs,(c.drop a.toNat).take ((b+1).toNat-a.toNat)=x::xs∧xs.foldl max x=fL c a b:=by
 have hlen:((c.drop a.toNat).take ((b+1).toNat-a.toNat)).length=(b+1).toNat-a.toNat:=by simp;omega
 cases h:(c.drop a.toNat).take ((b+1).toNat-a.toNat)with
 |nil=>rw[h]at hlen;simp at hlen;omega
 |cons x xs=>
  refine⟨x,xs,rfl,?_⟩;unfold fL;rw[show(b+1-a).toNat=(b+1).toNat-a.toNat by omega,h];rfl
def yP(s:List Int)(m:Mk):Bool:=eY (fL s m.frm m.to) m.lo m.hi
theorem b7{last:Int}{m:Mk}(h:kY last m=true):0≤m.frm∧m.frm≤m.to∧m.to≤last∧0≤m.lo∧m.lo≤m.hi∧m.hi≤99:=by
 unfold kY jZ yM eS dB at h;simp only[Bool.and_eq_true,decide_eq_true_eq,bT]at h;omega
theorem f9{t:aR}{c:List Int}{k:Nat}{m:Mk}(hx:t.marks[k]?= some m)(h2:(t.marks.take k).all (yP c)=true)(h:((!([]:List Int).any fun x=>decide ((k:Int)=x))&& !eY (fL c m.frm m.to) (m.lo,m.hi).1 (m.lo,m.hi).2)=false):(t.marks.take (k+1)).all (yP c)=true:=by
 rw[List.take_add_one,hx,List.all_append,h2];simpa [yP]using h
theorem xH{t:aR}{c:List Int}{k:Nat}{m:Mk}(hx:t.marks[k]?= some m)(h:((!([]:List Int).any fun x=>decide ((k:Int)=x))&& !eY (fL c m.frm m.to) (m.lo,m.hi).1 (m.lo,m.hi).2)=true):fS t c=false:=by
 unfold fS;rw[List.all_eq_false];exact⟨m,List.mem_of_getElem? hx,by simpa using h⟩
theorem tG{t:aR}{c:List Int}{k:Nat}(h2:(t.marks.take k).all (yP c)=true)(hk:t.marks.length≤k):fS t c=true:=by
 rw[List.take_of_length_le hk]at h2;exact h2
theorem DG(l:List (Int×Int))(r:Int×Int):kH (l++[r])=min (kH l*dY r) 2001:=by
 unfold kH;rw[List.foldl_append];rfl
theorem H2{t:aR}{k:Nat}{r:Int×Int}(hx:t.heights[k]?= some r):kH (t.heights.take (k+1))=min (kH (t.heights.take k)*dY r) 2001:=by
 rw[List.take_add_one,hx];exact DG _ _
theorem l4{t:aR}(h:O7 t)(k:Nat):0≤kH (t.heights.take k)∧kH (t.heights.take k)≤2001:=by
 induction k with
 |zero=>simp[kH]
 |succ k ih=>
  cases hx:t.heights[k]? with
  |none=>rw[List.take_add_one,hx,Option.toList_none,List.append_nil];exact ih
  |some r=>
   rw[H2 hx];have h1:=lC (h.hts r (List.mem_of_getElem? hx));have h2:0≤dY r:=by unfold dY;omega
   have h3:=Int.mul_nonneg ih.1 h2;omega
theorem IP{t:aR}(h:O7 t)(k:Nat){r:Int×Int}(hr:eS r=true):0≤kH (t.heights.take k)*dY r∧kH (t.heights.take k)*dY r≤200100:=by
 have h0:=l4 h k;have h1:=lC hr;have h2:0≤dY r∧dY r≤100:=by unfold dY;omega
 have h3:=Int.mul_nonneg h0.1 h2.1;have h4:=Int.mul_le_mul h0.2 h2.2 h2.1 Yd;omega
theorem tU{t:aR}{b:Bool}(h:((decide ((9:Int)<t.last)||decide ((6:Int)<(t.levels.length:Int)))||decide ((5:Int)<(t.marks.length:Int)))=b):r9 t=b:=h
theorem HR{t:aR}(h:((decide ((9:Int)<t.last)||decide ((6:Int)<(t.levels.length:Int)))||decide ((5:Int)<(t.marks.length:Int)))=false):t.last≤9:=by
 simp only[Bool.or_eq_false_iff,decide_eq_false_iff_not]at h;omega
theorem S6{t:aR}{b:Bool}(h:(((((decide (t.last<0)||decide ((t.heights.length:Int)≠t.last+1))|| !t.heights.all eS)|| !dB t.step)|| !t.levels.all dB)|| !t.marks.all (kY t.last))=b):OU t= !b:=by
 subst h;unfold OU;have e1:decide (t.last<0)= !decide (0≤t.last):=by by_cases h:t.last<0<;>simp[h]<;>omega
 have e2:decide ((t.heights.length:Int)≠t.last+1)= !decide ((t.heights.length:Int)=t.last+1):=by simp
 rw[e1,e2];cases decide (0≤t.last)<;>cases decide ((t.heights.length:Int)=t.last+1)<;>cases t.heights.all eS<;>cases dB t.step<;>cases t.levels.all dB<;>cases t.marks.all (kY t.last)<;>rfl
section
variable{t:aR}(h1:((decide ((9:Int)<t.last)||decide ((6:Int)<(t.levels.length:Int)))||decide ((5:Int)<(t.marks.length:Int)))=false)
theorem CF(h1:((decide ((9:Int)<t.last)||decide ((6:Int)<(t.levels.length:Int)))||decide ((5:Int)<(t.marks.length:Int)))=true):aV t=3:=by unfold aV;rw[if_pos (tU h1)]
include h1
theorem UJ(h2:(((((decide (t.last<0)||decide ((t.heights.length:Int)≠t.last+1))|| !t.heights.all eS)|| !dB t.step)|| !t.levels.all dB)|| !t.marks.all (kY t.last))=false):O7 t:=UP (tU h1) (S6 h2)
theorem uQ(h2:(((((decide (t.last<0)||decide ((t.heights.length:Int)≠t.last+1))|| !t.heights.all eS)|| !dB t.step)|| !t.levels.all dB)|| !t.marks.all (kY t.last))=true):aV t=1:=by
 unfold aV;rw[if_neg (by simp[tU h1]),if_pos (show OU t=false from S6 h2)]
variable(h2:(((((decide (t.last<0)||decide ((t.heights.length:Int)≠t.last+1))|| !t.heights.all eS)|| !dB t.step)|| !t.levels.all dB)|| !t.marks.all (kY t.last))=false)
include h2
theorem p7(h4:2000<kH t.heights):aV t=3:=by
 unfold aV;rw[if_neg (by simp[tU h1]),if_neg (by simp[S6 h2]),if_pos h4]
theorem q7(h4:¬2000<kH t.heights)(hn:dK t=[]):aV t=9:=by
 unfold aV;rw[if_neg (by simp[tU h1]),if_neg (by simp[S6 h2]),if_neg h4,if_pos hn]
theorem pO(h4:¬2000<kH t.heights)(hn:dK t≠[]):aV t=0:=by
 unfold aV;rw[if_neg (by simp[tU h1]),if_neg (by simp[S6 h2]),if_neg h4,if_neg hn]
end
theorem yE(c:List Int)(a b:Int)(D:aA)(h10:c.length=10)(h0:0≤a)(h1:a≤b)(h9:b≤9):Fn Tryz.prog 81 #[.agg (ints c).toArray,.int .i64 a,.int .i64 b] D (fun _ v=>v=.int .i64 (fL c a b)):=by
 obtain⟨x,xs,hx,hv⟩:=N2 h10 h0 h1 h9;refine enter 12 Tryz.func81 rfl rfl rfl rfl fun h0=>Zy (C.rg (Zr rfl (fun q1 E1 hE1 hB1=>Zj rfl (Zo (Zx (Zy (C.rg (Za rfl (Za rfl (Zt rfl ?_))))))))));refine CH (l:=a.toNat) (h:=(b+1).toNat) rfl U177 Tf.s3 rfl rfl rfl Yd Yd Yd Yd Yd rfl trivial (Zd rfl (fun D1 hD1=>KV _ x xs _ (hx▸(t8 (l:=a.toNat) (h:=(b+1).toNat) hB1 h10 Yd Yd Yd).up RI.up (hD1 _ Ye))) (Zj rfl (Zo (Zx (aC ?_)))))
 exact Zc [_] rfl ⟨rfl,trivial⟩ (fun D hD=>by show Value.int _ _=_;rw[hv])
theorem yS(tv:Value)(t:aR)(c:List Int)(D:aA)(ht:eR D tv t)(hto:O7 t)(h10:c.length=10):Fn Tryz.prog 78 #[tv,.agg (ints c).toArray,.slice none 0 0] D (fun _ v=>v=.bool (fS t c)):=by
 obtain⟨hv,lv,mv,rfl,hh,hl,hm⟩:=ht;have hll:=hm.len;have hlast:=hto.last;refine enter 34 Tryz.func78 rfl rfl rfl rfl fun h0=>Zy (C.rg (Zr rfl (fun q1 E1 hE1 hB1=>Zr rfl (fun q2 E2 hE2 hB2=>Zj rfl (Zo (Zx (Zy (Zy (C.rg (Zk rfl Tf.f32_4 rfl ?_))))))))));refine Zg 4 rfl Tf.a30 rfl hB1 rfl (aY rfl U30 rfl hm rfl rfl trivial (Za rfl (Zo (Zx (Zae (bS (γ:=Nat) (fun k=>t.marks.length-k) (fun k=>k≤t.marks.length∧(t.marks.take k).all (yP c)=true) (fun k=>[(12,.int .i64 (k:Int))]) [(11,_),(10,_),(6,_),(4,_),(2,_)] (fun k=>[E2,E1,D]) 0 Ye ⟨Yb,trivial⟩ C.rs (aG) ?_))))))
 rintro k ⟨h1,h2⟩;refine Zy (C.rg (Zaa rfl (Zo (Zx (Zy (aH rfl (fun hc1=>?_) (fun hc1=>?_)))))))
 ·have hk:k<t.marks.length:=by omega
  obtain⟨m,hx⟩:∃m,t.marks[k]?= some m:=⟨_,List.getElem?_eq_getElem hk⟩
  have hmb:=b7 (hto.mark m (List.mem_of_getElem? hx));refine Zac (Zx (Zy (Zae (Zy (C.rg (Za rfl (aJ rfl U30 Tf.s144 rfl hm rfl Yd hx rfl trivial (fun b1 o1 cs1 hr1 hcl1 hA1=>?_))))))));obtain rfl:cs1=[.int .i64 _,.int .i64 _,.int .i64 _,.int .i64 _]:=hr1;refine Zq rfl Tf.a144 rfl hA1 Tf.s144 (Zu rfl Tf.z144 rfl (fun q3=>Zj rfl (Zs rfl Tf.s144 (cY.head) (Zo (Zx (Zy (C.drawA [] 5 16 8066 (fun _ _ _ h=>dI (P:=Tryz.prog) (fn:=Tryz.f78) _ _ _ h) (Za rfl (Za rfl (Zd rfl (fun D1 hD1=>L7.vE _ [] (k:Int) _ Sl.nil) (bV rfl rfl rfl trivial ?_)))))))))));refine Za rfl ?_;refine' dA [(false,5),(false,6),(true,7),(true,8),(true,9),(true,10),(true,11),(true,12),(false,13),(false,14),(false,15)] [] (s:=21) (p:=32) rfl rfl (fun hg1=>?_) (fun hg1=>?_) ?_;rotate_left
  ·refine Zl rfl Tf.f144_2 rfl (dU rfl Tf.a55 Tf.s55 rfl (List.Mem.head _) rfl rfl List.not_mem_nil rfl ⟨_,rfl,rfl⟩ (cU rfl Tf.a177 rfl hB2 Yc Yt List.not_mem_nil rfl ⟨_,rfl,rfl⟩ (Zl rfl Tf.f144_0 rfl (aU rfl Tf.a3 rfl (List.Mem.head _) rfl List.not_mem_nil rfl ⟨_,rfl,rfl⟩ (Zl rfl Tf.f144_1 rfl (aU rfl Tf.a3 rfl (List.Mem.head _) rfl List.not_mem_nil rfl ⟨_,rfl,rfl⟩ (Ze rfl (fun D2 hD2=>yE c m.frm m.to _ h10 hmb.1 hmb.2.1 Yd) (Ze rfl (fun D3 hD3=>wR (m.lo,m.hi) _ _) (bV rfl rfl rfl ⟨_,rfl,rfl⟩ (Zv rfl ?_))))))))));exact aF fun a w hh=>hh.cutK 10 rfl
  ·refine Zi rfl (Zi rfl (Zi rfl (Zi rfl (Zi rfl (Zi rfl (Zi rfl (Zi rfl (Zi rfl (Zi rfl (Zw rfl ?_))))))))));exact aF fun a w hh=>hh.cutK 10 rfl
  refine Zo (Zx (aP rfl (fun hc2=>?_) (fun hc2=>?_)))
  ·refine Zy (C.rg (Zj rfl (Zo (Zx (aC (aD (Zad (Zad (aD (Zad ?_))))))))));exact Zc [_] rfl ⟨rfl,trivial⟩ (fun D hD=>by show Value.bool _=_;rw[xH hx hc2])
  ·refine Zac (Zag (Zx (C.rg (Zt rfl (Za rfl (Zo ?_))))));exact aN 15 (k+1) ⟨by omega,f9 hx h2 hc2⟩ Yd ⟨Yb,trivial⟩ rfl rfl (List.Sublist.cons _ (List.Sublist.refl _)) (aG)
 ·refine aZ (Zaf (Zaf (aE (Zx (Zy (C.rg (Zj rfl (Zo (Zx (aC ?_))))))))));exact Zc [_] rfl ⟨rfl,trivial⟩ (fun D hD=>by show Value.bool _=_;rw[tG h2 Yd])
theorem rE(tv:Value)(t:aR)(D:aA)(ht:eR D tv t):Fn Tryz.prog 76 #[tv] D (fun _ v=>v=.int .i64 (aV t)):=by
 have ht0:=ht;obtain⟨hv,lv,mv,rfl,hh,hl,hm⟩:=ht;have hll:=hh.len;have hl2:=hl.len;have hl3:=hm.len;refine LG 82 Tryz.func76 rfl rfl rfl rfl fun h0=>Zy (C.rg (Zr rfl (fun q1 E1 hE1 hB1=>Zu rfl Tf.z44 rfl (fun q2=>Zo (Zx (Zy (C.rg (Zq rfl Tf.a32 rfl hB1 Tf.s32 (bH rfl rfl rfl rfl trivial (Zj rfl ?_))))))))));refine Zo (Zx (Zy (Zae (Zy (C.rg (Zk rfl Tf.f32_0 rfl (Zg 0 rfl Tf.a3 rfl hB1 rfl (dO rfl rfl rfl rfl trivial (Za rfl ?_)))))))))
 refine' eI [(false,4),(false,5),(false,6),(false,7),(false,8)] [(false,9),(false,10),(false,11),(false,12),(false,13),(false,14),(false,15)] (s:=13) (p:=18) rfl rfl (fun hg1=>?_) (fun hg1=>?_) ?_;rotate_left
 ·refine Zl rfl Tf.f32_3 rfl (Zh 3 rfl Tf.a25 rfl hB1 rfl (aY rfl U25 rfl hl rfl rfl ⟨_,rfl,rfl⟩ (dO rfl rfl rfl rfl ⟨_,rfl,rfl⟩ (Zw rfl ?_))));exact aF fun a w hh=>hh.cutK 4 rfl
 ·refine Zi rfl (Zi rfl (Zi rfl (Zi rfl (Zv rfl ?_))));exact aF fun a w hh=>hh.cutK 4 rfl
 refine Za rfl ?_;refine' eI [(false,10),(false,11),(false,12),(false,13),(false,14)] [(false,15)] (s:=19) (p:=24) rfl rfl (fun hg2=>?_) (fun hg2=>?_) ?_;rotate_left
 ·refine Zl rfl Tf.f32_4 rfl (Zh 4 rfl Tf.a30 rfl hB1 rfl (aY rfl U30 rfl hm rfl rfl ⟨_,rfl,rfl⟩ (dO rfl rfl rfl rfl ⟨_,rfl,rfl⟩ (Zw rfl ?_))));exact aF fun a w hh=>hh.cutK 4 rfl
 ·refine Zi rfl (Zi rfl (Zi rfl (Zi rfl (Zv rfl ?_))));exact aF fun a w hh=>hh.cutK 4 rfl
 refine Zj rfl (Zo (Zx (aP rfl (fun hc1=>?_) (fun hc1=>?_))))
 ·refine Zy (C.rg (aT rfl rfl rfl rfl Tf.s44 (cY.head) Ye rfl Ym trivial (Zo (Zx (aC (aD (Zad ?_)))))));exact oN (vs:=[_]) rfl rfl rfl ⟨⟨_,_,_,rfl,List.Mem.head _,Or.inl ⟨Tf.a44,rfl⟩⟩,trivial⟩ (fun D hD=>by show Value.int _ _=_;rw[CF hc1])
 ·refine Zy (C.rg (Zk rfl Tf.f32_0 rfl (Zg 0 rfl Tf.a3 rfl hB1 rfl (Zaa rfl (Za rfl ?_)))));refine' eI [(false,4),(false,5),(false,6),(false,7),(false,8),(false,9),(false,10),(false,11)] [(false,12),(false,13),(false,14),(false,15),(false,16),(false,17),(false,18),(false,19),(false,20),(false,21),(false,22),(false,23),(false,24),(false,25),(false,26),(false,27),(false,28),(false,29),(false,30),(false,31),(false,32),(false,33),(false,34),(false,35),(false,36),(false,37)] (s:=29) (p:=37) rfl rfl (fun hg3=>?_) (fun hg3=>?_) ?_;rotate_left
  ·have hl0:0≤t.last:=by have:=hg3;simp only[decide_eq_false_iff_not]at this;omega
   have hl9:t.last≤9:=HR hc1;refine Zl rfl Tf.f32_1 rfl (Zh 1 rfl Tf.a29 rfl hB1 rfl (aY rfl U29 rfl hh rfl rfl ⟨_,rfl,rfl⟩ (Zl rfl Tf.f32_0 rfl (Zh 0 rfl Tf.a3 rfl hB1 rfl (AE rfl rfl rfl Yf rfl ⟨_,rfl,rfl⟩ (dQ rfl rfl rfl rfl ⟨_,rfl,rfl⟩ (Zw rfl ?_)))))));exact aF fun a w hh=>hh.cutK 7 rfl
  ·refine Zi rfl (Zi rfl (Zi rfl (Zi rfl (Zi rfl (Zi rfl (Zi rfl (Zv rfl ?_)))))));exact aF fun a w hh=>hh.cutK 7 rfl
  refine Za rfl ?_;refine' eI [(false,13),(false,14),(false,15),(false,16),(false,17)] [(false,18),(false,19),(false,20),(false,21),(false,22),(false,23),(false,24),(false,25),(false,26),(false,27),(false,28),(false,29),(false,30),(false,31),(false,32),(false,33),(false,34),(false,35),(false,36),(false,37)] (s:=38) (p:=43) rfl rfl (fun hg4=>?_) (fun hg4=>?_) ?_;rotate_left
  ·refine Zl rfl Tf.f32_1 rfl (Zh 1 rfl Tf.a29 rfl hB1 rfl (Ze rfl (fun D1 hD1=>N7 _ _ _ eS _ (Sl.at vT.up hD1 Yl Ye) (.of fun x D2=>wQ x D2) rfl) (bV rfl rfl rfl ⟨_,rfl,rfl⟩ (Zw rfl ?_))));exact aF fun a w hh=>hh.cutK 4 rfl
  ·refine Zi rfl (Zi rfl (Zi rfl (Zi rfl (Zv rfl ?_))));exact aF fun a w hh=>hh.cutK 4 rfl
  refine Za rfl ?_;refine' eI [(false,19),(false,20),(false,21),(false,22),(false,23)] [(false,24),(false,25),(false,26),(false,27),(false,28),(false,29),(false,30),(false,31),(false,32),(false,33),(false,34),(false,35),(false,36),(false,37)] (s:=44) (p:=49) rfl rfl (fun hg5=>?_) (fun hg5=>?_) ?_;rotate_left
  ·refine Zl rfl Tf.f32_2 rfl (Zh 2 rfl Tf.a3 rfl hB1 rfl (Ze rfl (fun D2 hD2=>qK _ _) (bV rfl rfl rfl ⟨_,rfl,rfl⟩ (Zw rfl ?_))));exact aF fun a w hh=>hh.cutK 4 rfl
  ·refine Zi rfl (Zi rfl (Zi rfl (Zi rfl (Zv rfl ?_))));exact aF fun a w hh=>hh.cutK 4 rfl
  refine Za rfl ?_;refine' eI [(false,25),(false,26),(false,27),(false,28),(false,29)] [(false,30),(false,31),(false,32),(false,33),(false,34),(false,35),(false,36),(false,37)] (s:=50) (p:=55) rfl rfl (fun hg6=>?_) (fun hg6=>?_) ?_;rotate_left
  ·refine Zl rfl Tf.f32_3 rfl (Zh 3 rfl Tf.a25 rfl hB1 rfl (Ze rfl (fun D3 hD3=>sR _ _ _ dB _ (Sl.at RI.up hD3 Yl Ye) (.of fun x D2=>qK x D2) rfl) (bV rfl rfl rfl ⟨_,rfl,rfl⟩ (Zw rfl ?_))));exact aF fun a w hh=>hh.cutK 4 rfl
  ·refine Zi rfl (Zi rfl (Zi rfl (Zi rfl (Zv rfl ?_))));exact aF fun a w hh=>hh.cutK 4 rfl
  refine Za rfl ?_;refine' eI [(false,31),(false,32),(false,33),(false,34),(false,35),(false,36)] [(false,37)] (s:=56) (p:=62) rfl rfl (fun hg7=>?_) (fun hg7=>?_) ?_;rotate_left
  ·refine Zl rfl Tf.f32_4 rfl (Zh 4 rfl Tf.a30 rfl hB1 rfl (Zb rfl (Ze rfl (fun D4 hD4=>NJ _ _ _ (kY t.last) _ (Sl.at T1.up hD4 Yl Ye) ⟨_,[_],[],rfl,fun m D2 hl=>MU _ t m D2 (ht0.up ((hD4 _ Ye).trans hl))⟩ rfl) (bV rfl rfl rfl ⟨_,rfl,rfl⟩ (Zw rfl ?_)))));exact aF fun a w hh=>hh.cutK 5 rfl
  ·refine Zi rfl (Zi rfl (Zi rfl (Zi rfl (Zi rfl (Zv rfl ?_)))));exact aF fun a w hh=>hh.cutK 5 rfl
  refine Zj rfl (Zo (Zx (aP rfl (fun hc2=>?_) (fun hc2=>?_))))
  ·refine Zy (C.rg (aT rfl rfl rfl rfl Tf.s44 (cY.head) Ye rfl Ym trivial (Zo (Zx (aC (aD (Zad ?_)))))));exact oN (vs:=[_]) rfl rfl rfl ⟨⟨_,_,_,rfl,List.Mem.head _,Or.inl ⟨Tf.a44,rfl⟩⟩,trivial⟩ (fun D hD=>by show Value.int _ _=_;rw[uQ hc1 hc2])
  ·have hto:O7 t:=UJ hc1 hc2;refine Zac (Zag (Zx (Zy (C.rg (Zj rfl (Zo (Zx (Zy (Zy (C.rg (Zk rfl Tf.f32_1 rfl ?_)))))))))));refine Zg 1 rfl Tf.a29 rfl hB1 rfl (aY rfl U29 rfl hh rfl rfl trivial (Za rfl (Zo (Zx (Zae (bS (γ:=Nat) (fun k=>t.heights.length-k) (fun k=>k≤t.heights.length) (fun k=>[(66,.int .i64 (k:Int)),(4,.int .i64 (kH (t.heights.take k)))]) [(65,_),(64,_),(2,_),(1,_)] (fun k=>[E1,D]) 0 Yd ⟨Yb,Yb,trivial⟩ C.rs (aG) ?_))))));rintro k h1;refine Zy (C.rg (Zaa rfl (Zo (Zx (Zy (aH rfl (fun hc3=>?_) (fun hc3=>?_)))))))
   ·have hk:k<t.heights.length:=by omega
    obtain⟨r,hx⟩:∃r,t.heights[k]?= some r:=⟨_,List.getElem?_eq_getElem hk⟩
    have hrb:=hto.hts r (List.mem_of_getElem? hx);have hmul:=IP hto k hrb;refine Zac (Zx (Zy (Zae (Zy (C.rg (aJ rfl U29 Tf.s55 rfl hh rfl Yd hx rfl trivial (fun b1 o1 cs1 hr1 hcl1 hA1=>?_)))))));obtain rfl:cs1=[.int .i64 _,.int .i64 _]:=hr1;refine Zq rfl Tf.a55 rfl hA1 Tf.s55 (Zu rfl Tf.z55 rfl (fun q3=>Zs rfl Tf.s55 (cY.head) (Zo (Zx (C.rg (Za rfl (aX rfl Tf.a55 rfl (List.Mem.head _) Tf.s55 List.not_mem_nil rfl trivial (Zd rfl (fun D5 hD5=>AC r hrb _) (JU rfl rfl rfl Yf rfl trivial (Zm rfl U25 Tf.s3 Tf.z3 rfl rfl rfl rfl (.cons rfl rfl (.cons rfl rfl .nil)) (fun b901 D901 hD901 hA901=>?_)))))))))));have hS901:=Sl.ofInts (l:=[_,_]) (n:=2) (cap:=2) hA901 rfl Yd Yd;refine Zd rfl (fun D6 hD6=>iY _ (kH (t.heights.take k)*dY r) [2001] _ (hS901.up RI.up (hD6 _ Ye))) (Zj rfl (Zo (Zag (Zx (C.rg (Zt rfl (Za rfl (Zo ?_))))))));exact aN 15 (k+1) Yd Yd ⟨Yb,(by rw[H2 hx];rfl),trivial⟩ rfl rfl (List.Sublist.cons _ (List.Sublist.refl _)) (fun D h=>⟨D,List.Mem.tail _ (h),Le.refl D⟩)
   ·obtain rfl:k=t.heights.length:=by omega
    rw[List.take_length];refine aZ (Zaf (Zaf (aE (Zx (Zy (Zy (C.rg (Za rfl (dO rfl rfl rfl rfl trivial (Zo (Zx ?_)))))))))));refine aH rfl (fun hc4=>?_) (fun hc4=>?_)
    ·refine Zy (C.rg (aT rfl rfl rfl rfl Tf.s44 (cY.head) Ye rfl Ym trivial (Zo (Zx (aC (Zad ?_))))));exact oN (vs:=[_]) rfl rfl rfl ⟨⟨_,_,_,rfl,List.Mem.head _,Or.inl ⟨Tf.a44,rfl⟩⟩,trivial⟩ (fun D hD=>by show Value.int _ _=_;rw[p7 hc1 hc2 hc4])
    ·refine Zac (Zx (Zy (Zy (C.rg (Zq rfl Tf.a32 rfl hB1 Tf.s32 (cW rfl rfl rfl (fun D7 hD7=>Z2 _ t _ (ht0.up (hD7 _ Ye)) hto) rfl trivial (fun v7 D7 hD7 hp7=>Zo (Zx (Zae ?_)))))))));obtain⟨br,rfl,hit⟩:=hp7;refine pH (γ:=Unit) (xs:=(dK t).map bQ) (enc:=Z5) (Dr:=D7) (fun pre _=>pre=[]) (fun _ c _=>c=.ret∧dK t≠[]) (fun _=>[(q2,.cells [.int .i64 0].toArray 44 (0,0))]) () rfl rfl rfl rfl hit Ye (fun _=>rfl) rfl rfl rfl ?_ ?_ ?_
     ·rintro pre x _ ⟨us,hx⟩ hΦ l bd rec hh D7 hD7 hst hpend;refine Zac ?_;refine fun a w hhh=>wD (A:=[(_,_)]) (B:=[(bd,.deferred (some []))]) (r:=rec) (l:=l) (by rfl) hst ?_ a w hhh
      refine Zae (Zy (C.rg (aT rfl rfl rfl rfl Tf.s44 (cY.head) Ye rfl Ym trivial (Zo (Zx (aC (aD ?_)))))));exact IW (A:=[(_,_)]) (B:=[(bd,.deferred (some []))]) .ret () ⟨rfl,fun e=>by rw[e]at hx;simp at hx⟩ rfl rfl
     ·rintro _ bd hΦ;have hn:dK t=[]:=by simpa using hΦ
      refine Zag (Zx (Zy (C.rg (aT rfl rfl rfl rfl Tf.s44 (cY.head) Ye rfl Ym trivial (Zo (Zx (aC ?_)))))));exact wB (vs:=[_]) (A:=[(_,_)]) rfl rfl rfl ⟨⟨_,_,_,rfl,List.Mem.head _,Or.inl ⟨Tf.a44,rfl⟩⟩,trivial⟩ (fun D hD=>by show Value.int _ _=_;rw[q7 hc1 hc2 hc4 hn])
     ·rintro _ _ _ bd ⟨rfl,hne⟩;refine aC (aD (Zad ?_));exact wB (vs:=[_]) (A:=[(_,_)]) rfl rfl rfl ⟨⟨_,_,_,rfl,List.Mem.head _,Or.inl ⟨Tf.a44,rfl⟩⟩,trivial⟩ (fun D hD=>by show Value.int _ _=_;rw[pO hc1 hc2 hc4 hne])
end L2
end Go.Fs
namespace Go.Fs
open Go.Proofs
namespace L2
open L1
open C2
open C1 (eY bT nB lX)
def rI(t:aR)(pre:List (List Int))(g:Value×aB×Array MapEntry×Nat×List (Int×Int)):Prop:=
 bC 177 10 g.1 (fQ t pre.length).length (rM (fQ t pre.length)) g.2.1∧nN g.2.2.1 g.2.2.2.1 g.2.2.2.2∧qT (fQ t pre.length) t.last g.2.2.2.2
def SO(t:aR)(D:aA)(wv:Value)(ν:aB):Prop:=∃wb mb hv lv mv tsv es cl S,wv=.pointer (some ⟨wb,0,none⟩)∧ν=[(wb,.cells [.int .i64 t.last,hv,.int .i64 t.step,lv,mv,tsv,.map (some mb)].toArray 173 (0,0)),(mb,.map es cl)]∧
 eR D (.agg #[.int .i64 t.last,hv,.int .i64 t.step,lv,mv]) t∧Sl D zD 10 tsv (aW t)∧nN es cl S∧qT (aW t) t.last S
def sJ(acc:List (List Int)):List Int:=match acc.getLast? with
 |some s=>bQ s
 |none=>[]
theorem E9{acc:List (List Int)}(h:∀s∈acc,s.length≤10)(hne:acc≠[]):(sJ acc).length=10:=by
 unfold sJ;rw[List.getLast?_eq_some_getLast hne];exact dM (h _ (List.getLast_mem hne))
theorem GK{acc:List (List Int)}(h:∀s∈acc,s.length≤10)(hne:acc≠[])(junk:List Value):((rM acc++junk).drop (0+(((acc.length:Int)-1).toNat)*10)).take 10=ints (sJ acc):=by
 have hpos:=List.length_pos_iff.2 hne;unfold sJ;rw[List.getLast?_eq_some_getLast hne,Nat.zero_add];refine R8 h ?_ junk;rw[show((acc.length:Int)-1).toNat=acc.length-1 by omega,←List.getLast?_eq_getElem?,List.getLast?_eq_some_getLast hne]
theorem NV{s u:List Int}(h:s.length=u.length):bQ s=bQ u ↔ s=u:=by
 constructor
 ·intro e;have:=congrArg (List.take s.length) e;unfold bQ at this
  rwa [List.take_left,h,List.take_left]at this
 ·rintro rfl;rfl
def qU(S:List (Int×Int))(s:List Int)(k:Nat):List (Int×Int):=(List.range k).foldl (fun S (j:Nat)=>T7 S ((j:Int),s.getD j 0)) S
theorem A8{S:List (Int×Int)}{s:List Int}{k:Nat}:qU S s (k+1)=T7 (qU S s k) ((k:Int),s.getD k 0):=by
 unfold qU;rw[List.range_succ,List.foldl_append];rfl
theorem KG{S:List (Int×Int)}{s:List Int}{k:Nat}{p:Int×Int}:p∈qU S s k ↔ p∈S∨∃j:Nat,j<k∧p=((j:Int),s.getD j 0):=by
 induction k with
 |zero=>simp[qU]
 |succ k ih=>
  rw[A8,KR,ih];constructor
  ·rintro((h|⟨j,hj,rfl⟩)|rfl)
   ·exact Or.inl h
   ·exact Or.inr ⟨j,by omega,rfl⟩
   ·exact Or.inr ⟨k,by omega,rfl⟩
  ·rintro(h|⟨j,hj,rfl⟩)
   ·exact Or.inl (Or.inl h)
   ·by_cases e:j=k
    ·subst e;exact Or.inr rfl
    ·exact Or.inl (Or.inr ⟨j,by omega,rfl⟩)
theorem AG{s:List Int}{k:Nat}(h:k<s.length):(bQ s)[(k:Int).toNat]?= some (s.getD k 0):=by
 unfold bQ;rw[Int.toNat_natCast,List.getElem?_append_left h,List.getD_eq_getElem?_getD,List.getElem?_eq_getElem h];rfl
section
variable{t:aR}{pre:List (List Int)}{s:List Int}(hrp:fS t (bQ s)=fS t s)(htake:(dK t).take (pre.length+1)=(dK t).take pre.length++[s])
include hrp htake
theorem R1{b:Bool}(hc:(!fS t (bQ s)||(decide (0<((fQ t pre.length).length:Int))&&(sJ (fQ t pre.length)==bQ s)))=b):lA t (fQ t pre.length) s=if b=true then fQ t pre.length else fQ t pre.length++[s]:=by
 have hsm:s∈dK t:=List.mem_of_mem_take (i:=pre.length+1) (by rw[htake];simp);rw[hrp]at hc;subst hc;unfold lA;cases hr:fS t s with
 |false=>simp
 |true=>
  simp only[Bool.not_true,Bool.false_or,Bool.true_eq_false,false_or];by_cases hne:fQ t pre.length=[]
  ·rw[hne];simp
  ·have hpos:=List.length_pos_iff.2 hne;have h1:decide (0<((fQ t pre.length).length:Int))=true:=by simpa using hpos
   rw[h1,Bool.true_and];unfold sJ;rw[List.getLast?_eq_some_getLast hne];have h2:=gU (sL (List.getLast_mem hne));have h3:=gU hsm;have h4:=NV (h2.trans h3.symm);by_cases e:(fQ t pre.length).getLast hne=s
   ·rw[if_pos (by rw[e]),if_pos (by rw[e];simp)]
   ·rw[if_neg (by simpa using e),if_neg (by simpa using fun h=>e (h4.1 h))]
theorem LB{v:Value}{ν:aB}{es:Array MapEntry}{cl:Nat}{S:List (Int×Int)}(hc:(!fS t (bQ s)||(decide (0<((fQ t pre.length).length:Int))&&(sJ (fQ t pre.length)==bQ s)))=true)(ha:bC 177 10 v (fQ t pre.length).length (rM (fQ t pre.length)) ν)(hS:nN es cl S)(hsp:qT (fQ t pre.length) t.last S):rI t (pre++[bQ s]) (v,ν,es,cl,S):=by
 have h1:=R1 hrp htake hc;simp only[if_true]at h1;have h2:=G5 htake;rw[h1]at h2;unfold rI;rw[List.length_append,List.length_singleton,h2];exact⟨ha,hS,hsp⟩
theorem NY(hc:(!fS t (bQ s)||(decide (0<((fQ t pre.length).length:Int))&&(sJ (fQ t pre.length)==bQ s)))=false):fQ t (pre.length+1)=fQ t pre.length++[s]:=by
 have h1:=R1 hrp htake hc;simp only[Bool.false_eq_true,if_false]at h1;rw[G5 htake,h1]
end
theorem RO{t:aR}{pre:List (List Int)}{s:List Int}{v:Value}{ν:aB}{es:Array MapEntry}{cl k:Nat}{S:List (Int×Int)}(h:fQ t (pre.length+1)=fQ t pre.length++[s])(hk:s.length≤k)(hk2:(k:Int)=t.last+1)(ha:bC 177 10 v ((fQ t pre.length).length+1) (rM (fQ t pre.length++[s])) ν)(hS:nN es cl (qU S s k))(hsp:qT (fQ t pre.length) t.last S):rI t (pre++[bQ s]) (v,ν,es,cl,qU S s k):=by
 unfold rI;rw[List.length_append,List.length_singleton,h,List.length_append,List.length_singleton];refine⟨ha,hS,fun p=>?_⟩;rw[KG,hsp p];constructor
 ·rintro(⟨u,hu,j,hj,rfl⟩|⟨j,hj,rfl⟩)
  ·exact⟨u,List.mem_append_left _ hu,j,hj,rfl⟩
  ·exact⟨s,by simp,j,by omega,rfl⟩
 ·rintro⟨u,hu,j,hj,rfl⟩;rcases List.mem_append.1 hu with hu|hu
  ·exact Or.inl ⟨u,hu,j,hj,rfl⟩
  ·simp only[List.mem_singleton]at hu;subst hu
   exact Or.inr ⟨j,by omega,rfl⟩
theorem RM:K2 Tryz.prog 180:=⟨by kernel_rfl,by kernel_rfl,by kernel_rfl⟩
theorem lS(tv:Value)(t:aR)(fine:Bool)(D:aA)(ht:eR D tv t):y4 Tryz.prog 40 #[tv,.bool fine] D (fun D' v ν=>∃wv,v=.tuple #[wv,.int .i64 (fH t fine)]∧(fH t fine=0→O7 t∧aW t≠[]∧SO t D' wv ν)):=by
 have ht0:=ht;obtain⟨hv,lv,mv,rfl,hh,hl,hm⟩:=ht;refine MK 85 Tryz.func40 rfl rfl rfl rfl fun h0=>Zy (C.rg (Zr rfl (fun q1 E1 hE1 hB1=>Zj rfl (Zj rfl (Zo (Zx (Zy (Zy (C.rg (Zq rfl Tf.a32 rfl hB1 Tf.s32 ?_))))))))));refine Zd rfl (fun D1 hD1=>rE _ t _ (ht0.up (hD1 _ Ye))) (Zj rfl (Zo (Zx (Zy (C.rg (Za rfl (dQ rfl rfl rfl rfl trivial (Zo (Zx (aH rfl (fun hc1=>?_) (fun hc1=>?_)))))))))))
 ·refine Zy (C.rg (Za rfl (Zj rfl (Zj rfl (Zo (Zx (aC (Zad ?_))))))));exact oN (vs:=[_,_]) rfl rfl rfl C.rs (fun D hD=>⟨_,by rw[fH,if_pos hc1];rfl,fun h=>by rw[fH,if_pos hc1]at h;exact absurd h hc1⟩)
 ·have hf0:aV t=0:=by omega
  have hto:O7 t:=nQ hf0;refine Zac (Zx (Zy (Zy (C.rg (Za rfl (bV rfl rfl rfl trivial (Zo (Zx (aP rfl (fun hc2=>?_) (fun hc2=>?_))))))))))
  ·refine Zy (C.rg (Zj rfl (Zj rfl (Zo (Zx (aC (Zad ?_)))))));exact oN (vs:=[_,_]) rfl rfl rfl C.rs (fun D hD=>⟨_,by rw[fH,if_neg hc1,if_pos (by simpa using hc2)];rfl,fun h=>by rw[fH,if_neg hc1,if_pos (by simpa using hc2)]at h;omega⟩)
  ·refine Zac (Zx (Zy (C.rg (Zq rfl Tf.a32 rfl hB1 Tf.s32 (tY rfl rfl trivial (fun qm=>lY (cs:=[.int .i64 t.last,hv,.int .i64 t.step,lv,mv,.slice none 0 0,.map (some qm)]) rfl Tf.p173 Tf.z173 rfl Yg rfl trivial (T4 rfl (e:=173) rfl rfl rfl trivial (fun q2=>Zu rfl Tf.z97 rfl (fun q3=>aT rfl rfl rfl rfl Tf.s97 (cY.head) Ye rfl Ym trivial (Zo (Zx ?_)))))))))));refine Zy (Zy (C.rg (Zq rfl Tf.a32 rfl hB1 Tf.s32 (cW rfl rfl rfl (fun D2 hD2=>Z2 _ t _ (ht0.up (hD2 _ Ye)) hto) rfl trivial (fun v2 D2 hD2 hp2=>Zo (Zx (Zae ?_)))))));obtain⟨br,rfl,hit⟩:=hp2;refine pH (γ:=Value×aB×Array MapEntry×Nat×List (Int×Int)) (xs:=(dK t).map bQ) (enc:=Z5) (Dr:=D2) (rI t) (fun _ _ _=>False) (fun g=>[(q3,.cells [.pointer (some ⟨q2,0,none⟩)].toArray 97 (0,0)),(q2,.cells [.int .i64 t.last,hv,.int .i64 t.step,lv,mv,g.1,.map (some qm)].toArray 173 (0,0)),(qm,.map g.2.2.1 g.2.2.2.1)]++g.2.1) (.slice none 0 0,[],#[],0,[]) rfl rfl rfl rfl hit Ye (fun _=>rfl) rfl ⟨by simpa [fQ,rM]using bC.nil,nN.nil,qT.nil⟩ rfl ?_ ?_ (fun _ _ _ _ h=>h.elim)
   ·rintro pre x ⟨v,ν,es,cl,S⟩ ⟨us,hx⟩ ⟨ha,hS,hsp⟩ l bd rec hh7 D7 hD7 hst hpend;simp only at ha hS hsp;obtain⟨s,hk,rfl,hsm,htake⟩:=r4 hx;have hsl:=gU hsm;have hlast:=hto.last;have hlen:=hto.len;have hs10:s.length≤10:=by omega
    have hp10:=dM hs10;have hall:∀u∈fQ t pre.length,u.length≤10:=fun u hu=>by have:=gU (sL hu);omega
    have hcap:=uV hf0;have hacl:=Q3 t pre.length;have hrp:=DO hto (s:=s) Yd;refine C.rg (Zu rfl Tf.z177 rfl (fun q4=>Zs rfl Tf.s177 (cY.head) (Zo ?_)));refine fun a w hhh=>wD (A:=[(_,_),(_,_),(_,_),(_,_)]++ν) (B:=[(bd,.deferred (some []))]) (r:=rec) (l:=l) (by rfl) hst ?_ a w hhh
    refine oM (fun hnd=>?_);simp only[List.map_cons,List.map_append,List.nodup_cons,List.nodup_append,List.cons_append,List.nil_append,List.mem_cons,List.mem_append,not_or]at hnd;have hq4:=hnd.1.2.2.2.1;have hq3:=hnd.2.1.2.2.1;have hq2:=hnd.2.2.1.2.1;refine Zae (Zy (Zy (C.drawA [] 10 28 20905986 (fun _ _ _ h=>h) (Zq rfl Tf.a32 rfl hB1 Tf.s32 (aX rfl Tf.a177 rfl (List.Mem.head _) Yt List.not_mem_nil rfl trivial (Zd rfl (fun D3 hD3=>yS _ t (bQ s) _ (ht0.up (hD3 _ Ye)) hto hp10) (bV rfl rfl rfl trivial (Za rfl ?_))))))));refine' eI [(false,5),(false,6),(false,7),(false,8),(false,9),(false,10),(false,11),(false,12),(false,13),(false,14),(false,15),(true,16),(true,17),(true,18),(true,19),(true,20),(true,21),(false,22),(false,23),(true,24),(false,25),(false,26),(false,27)] [] (s:=28) (p:=51) rfl rfl (fun hg1=>?_) (fun hg1=>?_) ?_;rotate_left
    ·refine aU rfl Tf.a97 rfl (List.Mem.tail _ (List.Mem.head _)) rfl List.not_mem_nil rfl ⟨_,rfl,rfl⟩ (oE rfl rfl rfl ⟨_,rfl,rfl⟩ (Zl rfl Tf.f173_1 rfl (aU rfl Tf.a171 rfl (List.Mem.tail _ (List.Mem.tail _ (List.Mem.head _))) rfl List.not_mem_nil rfl ⟨_,rfl,rfl⟩ (dH rfl U171 rfl ha rfl rfl ⟨_,rfl,rfl⟩ (dO rfl rfl rfl rfl ⟨_,rfl,rfl⟩ (Zb rfl ?_))))));refine' dA [(false,12),(false,13),(false,14),(false,15),(true,16),(true,17),(true,18),(true,19),(true,20),(true,21),(false,22),(false,23),(true,24),(false,25),(false,26)] [(false,27)] (s:=35) (p:=50) rfl rfl (fun hg2=>?_) (fun hg2=>?_) ?_;rotate_left
     ·have hne:fQ t pre.length≠[]:=fun e=>by rw[e]at hg2;simp at hg2
      have hpos:=List.length_pos_iff.2 hne;obtain⟨b5,cap5,junk5,rfl,hcp5,rfl,hl51,hl52⟩:=ha.some hpos;refine aU rfl Tf.a97 rfl (List.Mem.tail _ (List.Mem.head _)) rfl List.not_mem_nil rfl ⟨_,rfl,rfl⟩ (oE rfl rfl rfl ⟨_,rfl,rfl⟩ (Zl rfl Tf.f173_1 rfl (aU rfl Tf.a171 rfl (List.Mem.tail _ (List.Mem.tail _ (List.Mem.head _))) rfl List.not_mem_nil rfl ⟨_,rfl,rfl⟩ (aU rfl Tf.a97 rfl (List.Mem.tail _ (List.Mem.head _)) rfl List.not_mem_nil rfl ⟨_,rfl,rfl⟩ (oE rfl rfl rfl ⟨_,rfl,rfl⟩ (Zl rfl Tf.f173_1 rfl (aU rfl Tf.a171 rfl (List.Mem.tail _ (List.Mem.tail _ (List.Mem.head _))) rfl List.not_mem_nil rfl ⟨_,rfl,rfl⟩ (hC rfl U171 rfl rfl rfl ⟨_,rfl,rfl⟩ (fW rfl rfl rfl Yf rfl ⟨_,rfl,rfl⟩ (jL rfl U171 Tf.s177 rfl rfl Yd Yd rfl ⟨_,rfl,rfl⟩ (dU (vs:=rM (fQ t pre.length)++junk5) (us:=ints (sJ (fQ t pre.length))) rfl Tf.a177 Tf.s177 rfl (List.Mem.tail _ (List.Mem.tail _ (List.Mem.tail _ (List.Mem.tail _ (List.Mem.head _))))) (GK hall hne junk5) (by simpa using E9 hall hne) List.not_mem_nil rfl ⟨_,rfl,rfl⟩ ?_)))))))))));refine aX rfl Tf.a177 rfl (List.Mem.head _) Yt List.not_mem_nil rfl ⟨_,rfl,rfl⟩ (GX rfl Yg U177 U3 Yg (E9 hall hne) hp10 rfl rfl rfl ⟨_,rfl,rfl⟩ (mJ rfl rfl rfl rfl ⟨_,rfl,rfl⟩ ?_));exact aF fun a w hh=>hh.cutK 14 rfl
     ·refine Zi rfl (Zi rfl (Zi rfl (Zi rfl (Zi rfl (Zi rfl (Zi rfl (Zi rfl (Zi rfl (Zi rfl (Zi rfl (Zi rfl ?_)))))))))));refine Zi rfl (Zi rfl (mA rfl rfl rfl rfl ⟨_,rfl,rfl⟩ ?_));exact aF fun a w hh=>hh.cutK 14 rfl
     refine Zw rfl ?_;exact aF fun a w hh=>hh.cutK 8 rfl
    ·refine Zi rfl (Zi rfl (Zi rfl (Zi rfl (Zi rfl (Zi rfl (Zi rfl (Zi rfl (Zi rfl (Zi rfl (Zi rfl (Zi rfl ?_)))))))))));refine Zi rfl (Zi rfl (Zi rfl (Zi rfl (Zi rfl (Zi rfl (Zi rfl (Zi rfl (Zi rfl (Zi rfl (Zv rfl ?_))))))))));exact aF fun a w hh=>hh.cutK 22 rfl
    refine Zo (Zx (aP rfl (fun hc3=>?_) (fun hc3=>?_)))
    ·have hI0:rI t (pre++[bQ s]) (v,ν,es,cl,S):=LB hrp htake hc3 ha hS hsp;refine aZ (Zaf (aE ?_));exact fun a w hh=>iZ (A:=[(_,_),(_,_),(_,_)]++ν) (B:=[(bd,.deferred (some []))]) (v,ν,es,cl,S) hI0 rfl rfl a w (hh.dropBoxes 1)
    ·have hadd:=NY hrp htake hc3;refine Zac (Zx (Zy (C.drawA (ν.map (·.1)) 2 11 254 (fun _ _ _ h=>h) (aU rfl Tf.a97 rfl (List.Mem.tail _ (List.Mem.head _)) rfl Yk rfl trivial (aU rfl Tf.a97 rfl (List.Mem.tail _ (List.Mem.head _)) rfl Yk rfl trivial (Zab rfl (Zk rfl Tf.f173_1 rfl (aU rfl Tf.a171 rfl (List.Mem.tail _ (List.Mem.tail _ (List.Mem.head _))) rfl Yk rfl trivial (aX rfl Tf.a177 rfl (List.Mem.head _) Yt Yk rfl trivial (Zm rfl U171 Tf.s177 Tf.z177 rfl rfl rfl rfl (.cons rfl (by simpa using hp10) .nil) (fun b901 D901 hD901 hA901=>aS (A:=[(_,_),(_,_),(_,_),(_,_)]) (B:=[(l,_),(bd,_)]) rfl U171 rfl rfl Tf.s177 Tf.z177 rfl Tf.i177 rfl rfl rfl ha (iG.lit hA901) Ye (by simp[hp10]) (Y3 hall) (by simpa using fF _) Yd (Or.inr (fun p hp=>List.mem_map.2 ⟨p,hp,rfl⟩)) rfl trivial (fun v1 ν1 ha1=>?_))))))))))));have ha2:bC 177 10 v1 ((fQ t pre.length).length+1) (rM (fQ t pre.length++[s])) ν1:=by unfold rM;rw[List.flatMap_append,List.flatMap_singleton];simpa [rM]using ha1
     simp only[List.cons_append,List.nil_append];refine Zab rfl (Zk rfl Tf.f173_1 rfl (aT rfl rfl rfl ha1.cells1 Tf.s171 (.tail (.tail (cY.head))) Ye rfl ha1.cell1 trivial (Zo (Zx (Zy (C.rg (Zk rfl Tf.f32_0 rfl (Zg 0 rfl Tf.a3 rfl hB1 rfl (Zt rfl (Za rfl (Zo ?_)))))))))));refine Zx (Zae (cZ (γ:=Nat×Array MapEntry×Nat) (fun g=>s.length-g.1) (fun g=>g.1≤s.length∧nN g.2.1 g.2.2 (qU S s g.1)) (fun g=>[(65,.int .i64 (g.1:Int))]) [(64,_),(8,_),(7,_),(5,_),(4,_)] (fun g=>[(q4,.cells (ints (bQ s)).toArray 177 (0,0))]++[(q3,.cells [.pointer (some ⟨q2,0,none⟩)].toArray 97 (0,0)),(q2,.cells [.int .i64 t.last,hv,.int .i64 t.step,lv,mv,v1,.map (some qm)].toArray 173 (0,0)),(qm,.map g.2.1 g.2.2)]++(ν1++[(l,.loop {rec with state:=.busy}),(bd,.deferred (some []))])) (fun g=>[D901,D7,D2,E1,D]) (0,es,cl) ⟨by simp,hS⟩ ⟨Yb,trivial⟩ C.rs (List.Sublist.refl _) (aG) ?_));rintro⟨k,es2,cl2⟩ ⟨h1,hS2⟩;simp only at h1 hS2;refine Zy (C.rg (Zaa rfl (Zo (Zx (Zy (aH rfl (fun hc4=>?_) (fun hc4=>?_)))))))
     ·have hks:k<s.length:=by omega
      have hxk:(bQ s)[(k:Int).toNat]?= some (s.getD k 0):=AG hks;refine Zac (Zx (Zy (Zae (Zy (C.rg (Za rfl (Zj rfl (Zo (Zx (C.drawA [] 3 10 496 (fun _ _ _ h=>h) (Zn rfl Tf.a97 rfl (List.Mem.tail _ (List.Mem.head _)) rfl ?_)))))))))));refine Zab rfl (Zk rfl Tf.f173_2 rfl (Zn rfl Tf.a170 rfl (List.Mem.tail _ (List.Mem.tail _ (List.Mem.head _))) rfl (Za rfl (Za rfl (bR rfl U177 Tf.s3 rfl rfl Yd Yd rfl trivial (aU rfl Tf.a3 rfl (List.Mem.head _) (cJ hxk) List.not_mem_nil rfl trivial (Zp [.int .i64 (k:Int),.int .i64 (s.getD k 0)] rfl Tf.p180 Tf.z180 rfl rfl (RA (A:=[(_,_),(_,_),(_,_)]) (B:=ν1++[(l,_),(bd,_)]) (a:=((k:Int),s.getD k 0)) rfl U170 RM rfl rfl rfl hS2 trivial (fun es3 cl3 hS3=>Zo (Zag (Zx ?_)))))))))));refine C.rg (Zt rfl (Za rfl (Zo ?_)));exact aN 15 (k+1,es3,cl3) ⟨by simp only;omega,by rw[A8];exact hS3⟩ Yo ⟨Yb,trivial⟩ rfl rfl (List.Sublist.refl _) (aG)
     ·have hI1:rI t (pre++[bQ s]) (v1,ν1,es2,cl2,qU S s k):=RO hadd Yd Yd ha2 hS2 hsp;refine aZ (Zaf (Zaf (aE (Zag ?_))));exact fun a w hh=>iZ (A:=[(_,_),(_,_),(_,_)]++ν1) (B:=[(bd,.deferred (some []))]) (v1,ν1,es2,cl2,qU S s k) hI1 rfl rfl a w (hh.dropBoxes 1)
   ·rintro⟨v,ν,es,cl,S⟩ bd ⟨ha,hS,hsp⟩;simp only[List.length_map]at ha hS hsp;rw[sP t (Nat.le_refl _)]at ha hsp;have hall:∀u∈aW t,u.length≤10:=fun u hu=>by rw[←sP t (Nat.le_refl _)]at hu;have:=gU (sL hu);have:=hto.len10;omega
    have hll:(aW t).length≤2000:=by rw[←sP t (Nat.le_refl _)];have:=Q3 t (dK t).length;have:=uV hf0;omega
    refine Zag (Zx (Zy (Zy (C.rg (Zn rfl Tf.a97 rfl (List.Mem.head _) rfl (Zab rfl (Zk rfl Tf.f173_1 rfl (Zn rfl Tf.a171 rfl (List.Mem.tail _ (List.Mem.head _)) rfl (dH rfl U171 rfl ha rfl rfl trivial (eL rfl rfl rfl rfl trivial (Zo ?_)))))))))));refine Zx (aH rfl (fun hc5=>?_) (fun hc5=>?_))
    ·have htn:aW t=[]:=List.length_eq_zero_iff.1 Yd;have hask:fH t fine=11:=by rw[fH,if_neg hc1,if_neg (by simpa using hc2),if_pos htn]
     refine Zy (C.rg (Zj rfl (Zj rfl (Zo (Zx (aC (Zad ?_)))))));exact V0 (vs:=[_,_]) (A:=[(_,_),(_,_),(_,_)]) (ν':=[]) (B:=ν) rfl rfl rfl C.rs (fun D hD=>⟨_,by rw[hask];rfl,fun h=>by rw[hask]at h;omega⟩)
    ·have htn:aW t≠[]:=fun e=>hc5 (by rw[e];rfl)
     have hask:fH t fine=0:=by rw[fH,if_neg hc1,if_neg (by simpa using hc2),if_neg htn]
     refine Zac (Zx (Zy (C.rg (Zn rfl Tf.a97 rfl (List.Mem.head _) rfl (Zj rfl (Zj rfl (Zo (Zx (aC (eW (A:=[(_,_),(_,_),(_,_)]) (B:=[(bd,.deferred (some []))]) ha rfl (fun D8 hD8 hF8=>?_)))))))))));exact V0 (vs:=[_,_]) (A:=[(_,_)]) (ν':=[(_,_),(_,_)]) (B:=[]) rfl rfl rfl C.rs (fun D hD=>⟨_,by rw[hask];rfl,fun _=>⟨hto,htn,q2,qm,hv,lv,mv,v,es,cl,S,rfl,rfl,⟨hv,lv,mv,rfl,hh.up vT.up (hD _ Ye),hl.up RI.up (hD _ Ye),hm.up T1.up (hD _ Ye)⟩,(hF8.seas rfl Yd hall).up zD.up (hD _ Ye),hS,hsp⟩⟩)
end L2
end Go.Fs
namespace Go.Fs
open Go.Proofs
namespace L2
open L1
open C2
open C1 (eY bT nB lX)
theorem jW{t:aR}(_ht:O7 t){s:List Int}(h:s∈aW t):s.length=t.heights.length:=by
 rw[←sP t (Nat.le_refl _)]at h;exact gU (sL h)
structure FG(es:Array MapEntry)(S:List (Int×Int))(h:Nat)(x0:Int)(seen:Array Nat)(lo hi:Int):Prop where
 mid:lo≤x0∧x0≤hi
 all:∀e∈es.toList,seen.contains e.born=true→∀y,e.key=gT ((h:Int),y)→lo≤y∧y≤hi
 los:((h:Int),lo)∈S
 his:((h:Int),hi)∈S
theorem FG.start{t:aR}{es:Array MapEntry}{S:List (Int×Int)}{h:Nat}{s0:List Int}(hsp:qT (aW t) t.last S)(hs:s0∈aW t)(hh:(h:Int)≤t.last):FG es S h (s0.getD h 0) #[] (s0.getD h 0) (s0.getD h 0):=
 ⟨by omega,fun e _ hc=>by simp at hc,(hsp _).2 ⟨s0,hs,h,hh,rfl⟩,(hsp _).2 ⟨s0,hs,h,hh,rfl⟩⟩
theorem y0{a b:Int×Int}(h:gT a=gT b):a=b:=by
 obtain⟨a1,a2⟩:=a;obtain⟨b1,b2⟩:=b
 simp only[gT,Value.agg.injEq]at h;simpa using h
section
variable{t:aR}{es:Array MapEntry}{cl:Nat}{S:List (Int×Int)}{h:Nat}{x0:Int}{seen:Array Nat}{lo hi:Int}
theorem B8(hS:nN es cl S){e e':MapEntry}(h1:e∈es.toList)(h2:e'∈es.toList)(h:e'.born=e.born):e'=e:=by
 have f1:=find_born e es.toList hS.nd h1;have f2:=find_born e' es.toList hS.nd h2;rw[h]at f2;rw[f1]at f2;exact(Option.some.inj f2).symm
theorem FG.yes(hI:FG es S h x0 seen lo hi)(hS:nN es cl S){e:MapEntry}(he:e∈(leftOf es seen).toList){ah ay:Int}(hek:e.key=gT (ah,ay))(haS:(ah,ay)∈S)(hc:ah=(h:Int)):FG es S h x0 (seen.push e.born) (min lo ay) (max hi ay):=by
 subst hc;have hm:=hI.mid;refine⟨by omega,fun e' he' hc y hy=>?_,?_,?_⟩
 ·rw[contains_push,Bool.or_eq_true]at hc;rcases hc with hc|hc
  ·have:=hI.all e' he' hc y hy;omega
  ·have:=B8 hS (mem_left he).1 he' (beq_iff_eq.1 hc);subst this;rw[hek]at hy;have:=y0 hy;simp only[Prod.mk.injEq,true_and]at this;omega
 ·rcases Int.le_total lo ay with h|h
  ·rw[Int.min_eq_left h];exact hI.los
  ·rw[Int.min_eq_right h];exact haS
 ·rcases Int.le_total hi ay with h|h
  ·rw[Int.max_eq_right h];exact haS
  ·rw[Int.max_eq_left h];exact hI.his
theorem FG.no(hI:FG es S h x0 seen lo hi)(hS:nN es cl S){e:MapEntry}(he:e∈(leftOf es seen).toList){ah ay:Int}(hek:e.key=gT (ah,ay))(_:(ah,ay)∈S)(hc:¬ah=(h:Int)):FG es S h x0 (seen.push e.born) lo hi:=by
 refine⟨hI.mid,fun e' he' hc' y hy=>?_,hI.los,hI.his⟩;rw[contains_push,Bool.or_eq_true]at hc';rcases hc' with hc'|hc'
 ·exact hI.all e' he' hc' y hy
 ·have:=B8 hS (mem_left he).1 he' (beq_iff_eq.1 hc');subst this;rw[hek]at hy;have:=y0 hy;simp only[Prod.mk.injEq]at this;exact absurd this.1 hc
theorem DC{l:List Int}{m:Int}(hm:m∈l)(h:∀x∈l,m≤x):nB l=m:=by
 cases l with
 |nil=>cases hm
 |cons a l=>
  have key:∀(l:List Int) (a:Int),(∀x∈l,l.foldl min a≤x)∧l.foldl min a≤a∧(l.foldl min a=a∨l.foldl min a∈l):=by
   intro l;induction l with
   |nil=>intro a;simp
   |cons b l ih=>
    intro a;obtain⟨h1,h2,h3⟩:=ih (min a b);rw[List.foldl_cons];refine⟨fun x hx=>?_,by omega,?_⟩
    ·rcases List.mem_cons.1 hx with rfl|hx
     ·omega
     ·exact h1 x hx
    ·rcases h3 with h3|h3
     ·rw[h3];rcases Int.le_total a b with h|h
      ·exact Or.inl (Int.min_eq_left h)
      ·exact Or.inr (by rw[Int.min_eq_right h];exact List.mem_cons_self)
     ·exact Or.inr (List.mem_cons_of_mem _ h3)
  obtain⟨h1,h2,h3⟩:=key l a;show l.foldl min a=m;have h4:l.foldl min a≤m:=by
   rcases List.mem_cons.1 hm with rfl|hm
   ·exact h2
   ·exact h1 m hm
  have h5:m≤l.foldl min a:=by
   rcases h3 with h3|h3
   ·rw[h3];exact h a List.mem_cons_self
   ·exact h _ (List.mem_cons_of_mem _ h3)
  omega
theorem BN{l:List Int}{m:Int}(hm:m∈l)(h:∀x∈l,x≤m):lX l=m:=by
 cases l with
 |nil=>cases hm
 |cons a l=>
  have key:∀(l:List Int) (a:Int),(∀x∈l,x≤l.foldl max a)∧a≤l.foldl max a∧(l.foldl max a=a∨l.foldl max a∈l):=by
   intro l;induction l with
   |nil=>intro a;simp
   |cons b l ih=>
    intro a;obtain⟨h1,h2,h3⟩:=ih (max a b);rw[List.foldl_cons];refine⟨fun x hx=>?_,by omega,?_⟩
    ·rcases List.mem_cons.1 hx with rfl|hx
     ·omega
     ·exact h1 x hx
    ·rcases h3 with h3|h3
     ·rw[h3];rcases Int.le_total a b with h|h
      ·exact Or.inr (by rw[Int.max_eq_right h];exact List.mem_cons_self)
      ·exact Or.inl (Int.max_eq_left h)
     ·exact Or.inr (List.mem_cons_of_mem _ h3)
  obtain⟨h1,h2,h3⟩:=key l a;show l.foldl max a=m;have h4:m≤l.foldl max a:=by
   rcases List.mem_cons.1 hm with rfl|hm
   ·exact h2
   ·exact h1 m hm
  have h5:l.foldl max a≤m:=by
   rcases h3 with h3|h3
   ·rw[h3];exact h a List.mem_cons_self
   ·exact h _ (List.mem_cons_of_mem _ h3)
  omega
theorem FG.fin(hI:FG es S h x0 seen lo hi)(hS:nN es cl S)(hsp:qT (aW t) t.last S)(_:aW t≠[])(hh:(h:Int)≤t.last)(hz:(leftOf es seen).size=0):gT (lo,hi)=gT (cO t h):=by
 have hall:∀y,((h:Int),y)∈S→lo≤y∧y≤hi:=fun y hy=>by
  obtain⟨e,he,hk⟩:=hS.ent hy;refine hI.all e he ?_ y hk;cases hc:seen.contains e.born with
  |true=>rfl
  |false=>
   have hm:e∈leftOf es seen:=by
    unfold leftOf;rw[Array.mem_filter];exact⟨Array.mem_toList_iff.1 he,by rw[hc];rfl⟩
   have:=Array.size_pos_of_mem hm;omega
 have hmem:∀y,y∈(aW t).map (LS · h)→((h:Int),y)∈S:=fun y hy=>by
  obtain⟨s,hs,rfl⟩:=List.mem_map.1 hy;exact(hsp _).2 ⟨s,hs,h,hh,rfl⟩
 have hmem2:∀y,((h:Int),y)∈S→y∈(aW t).map (LS · h):=fun y hy=>by
  obtain⟨s,hs,j,hj,he⟩:=(hsp _).1 hy;simp only[Prod.mk.injEq]at he;have:j=h:=by omega
  subst this;exact List.mem_map.2 ⟨s,hs,he.2.symm⟩
 unfold cO;rw[DC (hmem2 _ hI.los) fun x hx=>(hall x (hmem x hx)).1,BN (hmem2 _ hI.his) fun x hx=>(hall x (hmem x hx)).2]
end
theorem S7(t:aR)(wb mb:Nat)(hv lv mv tsv:Value)(es:Array MapEntry)(cl:Nat)(S:List (Int×Int))(h:Nat)(D:aA)(hts:Sl D zD 10 tsv (aW t))(htn:aW t≠[])(hto:O7 t)(hS:nN es cl S)(hsp:qT (aW t) t.last S)(hh:(h:Int)≤t.last):
  O8 Tryz.prog 41 [.pointer (some ⟨wb,0,none⟩),.int .i64 (h:Int)] D [(wb,.cells [.int .i64 t.last,hv,.int .i64 t.step,lv,mv,tsv,.map (some mb)].toArray 173 (0,0)),(mb,.map es cl)] (fun _ v ν'=>v=gT (cO t h)∧ν'=[(wb,.cells [.int .i64 t.last,hv,.int .i64 t.step,lv,mv,tsv,.map (some mb)].toArray 173 (0,0)),(mb,.map es cl)]):=by
 have hll:=hts.len;have hlast:=hto.last;obtain⟨s0,hs0⟩:∃s,(aW t)[0]?= some s:=⟨(aW t)[0]'(List.length_pos_iff.2 htn),List.getElem?_eq_getElem _⟩
 have hsl0:=jW hto (List.mem_of_getElem? hs0);have hsl1:=hto.len;have hg0:(bQ s0)[(h:Int).toNat]?= some (s0.getD h 0):=AG Yd;have hp10:=dM (l:=s0) Yd;refine gI 42 Tryz.func41 rfl rfl rfl rfl (fun h0 hwl hwn=>Zy (C.rg (Zu rfl Tf.z55 rfl (fun q1=>Zo (Zx (Zy (C.drawA [] 7 19 196400 (fun _ _ _ h=>dF (P:=Tryz.prog) (fn:=Tryz.f41) _ _ _ h) (Za rfl (Zab rfl (Zk rfl Tf.f173_1 rfl (Zn rfl Tf.a171 rfl (List.Mem.tail _ (List.Mem.head _)) rfl ?_)))))))))));refine Za rfl (aJ rfl U171 Tf.s177 rfl hts rfl Yd hs0 rfl trivial (fun b1 o1 cs1 hr1 hcl1 hA1=>?_));obtain rfl:cs1=ints (bQ _):=hr1;refine jJ rfl U177 Tf.s3 rfl rfl Yd Yd rfl trivial (bP (o:=o1) (k:=(h:Int).toNat*1) rfl Tf.a3 rfl hA1 Yk (by rw[Nat.mul_one];exact cJ hg0) List.not_mem_nil rfl trivial (Za rfl (Zab rfl (Zk rfl Tf.f173_1 rfl (Zn rfl Tf.a171 rfl (List.Mem.tail _ (List.Mem.head _)) rfl (Za rfl (aJ rfl U171 Tf.s177 rfl hts rfl Yd hs0 rfl trivial (fun b2 o2 cs2 hr2 hcl2 hA2=>?_))))))))
 obtain rfl:cs2=ints (bQ _):=hr2;refine jJ rfl U177 Tf.s3 rfl rfl Yd Yd rfl trivial (bP (o:=o2) (k:=(h:Int).toNat*1) rfl Tf.a3 rfl hA2 Yk (by rw[Nat.mul_one];exact cJ hg0) List.not_mem_nil rfl trivial (Zp [.int .i64 (s0.getD h 0),.int .i64 (s0.getD h 0)] rfl Tf.p55 Tf.z55 rfl rfl (Zu rfl Tf.z55 rfl (fun q2=>Zs rfl Tf.s55 (cY.head) (Zo (Zx (Zy (Zy (C.rg (Za rfl (Zab rfl ?_)))))))))));refine Zk rfl Tf.f173_2 rfl (Zn rfl Tf.a170 rfl (List.Mem.tail _ (List.Mem.tail _ (List.Mem.head _))) rfl (HY (b:=mb) (es:=es) (clock:=cl) rfl U170 rfl Ye rfl trivial (fun qr=>Zo (Zx (Zae (cZ (γ:=Array Nat×Int×Int) (fun g=>(leftOf es g.1).size) (fun g=>FG es S h (s0.getD h 0) g.1 g.2.1 g.2.2) (fun g=>[(28,.pointer (some ⟨qr,0,none⟩))]) [(5,_),(4,_),(1,_)] (fun g=>[(qr,.mapIter (some mb) cl g.1 cl),(q2,.cells [.int .i64 g.2.1,.int .i64 g.2.2].toArray 55 (0,0)),(q1,.cells [.int .i64 0,.int .i64 0].toArray 55 (0,0))]++[(wb,.cells [.int .i64 t.last,hv,.int .i64 t.step,lv,mv,tsv,.map (some mb)].toArray 173 (0,0)),(mb,.map es cl)]) (fun g=>[D]) (#[],s0.getD h 0,s0.getD h 0) (FG.start hsp (List.mem_of_getElem? hs0) hh) ⟨Yb,trivial⟩ C.rs (List.Sublist.refl _) (aG) ?_))))));rintro⟨seen,lo,hi⟩ hI;simp only at hI;refine Zy (C.rg (OG (b:=mb) (r:=qr) (es:=es) (clock:=cl) (A:=[]) (B:=[(_,_),(_,_),(_,_),(_,_)]) rfl rfl Ye hS.lt (Nat.le_refl _) rfl trivial (fun ok vs o' hv0 hno hyes=>zY rfl rfl hv0 rfl trivial (Zo (Zx (Zy (aP rfl (fun hc1=>?_) (fun hc1=>?_))))))))
 ·obtain⟨e,he,rfl⟩:=hyes hc1;obtain⟨⟨ah,ay⟩,haS,hek,hev⟩:=hS.key (mem_left he).1;refine Zac (Zx (Zae (Zy (C.rg (KP (b:=mb) (r:=qr) (es:=es) (clock:=cl) (e:=e) (since:=cl) (seen:=seen) rfl rfl Ye Ye (mem_left he).1 hS.nd rfl trivial ?_)))));rw[hek];refine Zz rfl (Zu rfl Tf.z180 rfl (fun q3=>Zs rfl Tf.s180 (cY.head) (Zo (Zx (Zy (C.rg (Zk rfl Tf.f180_0 rfl (Zn rfl Tf.a3 rfl (List.Mem.head _) rfl (Za rfl (eL rfl rfl rfl rfl trivial (Zo ?_)))))))))));refine Zx (aH rfl (fun hc2=>?_) (fun hc2=>?_))
  ·refine C.rg (aX rfl Tf.a55 rfl (List.Mem.tail _ (List.Mem.tail _ (List.Mem.head _))) Tf.s55 List.not_mem_nil rfl trivial (Zk rfl Tf.f180_1 rfl (Zn rfl Tf.a3 rfl (List.Mem.head _) rfl (Zd rfl (fun D1 hD1=>lW (lo,hi) ay _) (Zs rfl Tf.s55 (.tail (.tail (cY.head))) (Zo (Zag ?_)))))));exact aN 14 (seen.push e.born,min lo ay,max hi ay) (hI.yes hS he hek haS hc2) (left_shrinks _ _ _ he) ⟨rfl,trivial⟩ rfl rfl (List.Sublist.cons _ (List.Sublist.refl _)) (aG)
  ·refine Zac (Zag ?_);exact aN 10 (seen.push e.born,lo,hi) (hI.no hS he hek haS hc2) (left_shrinks _ _ _ he) ⟨rfl,trivial⟩ rfl rfl (List.Sublist.cons _ (List.Sublist.refl _)) (aG)
 ·obtain⟨hz,rfl⟩:=hno hc1;have hfin:=hI.fin hS hsp htn hh hz;refine aZ (Zaf (Zaf (aE (Zx (Zy (C.rg (aX rfl Tf.a55 rfl (List.Mem.tail _ (List.Mem.head _)) Tf.s55 List.not_mem_nil rfl trivial (Zs rfl Tf.s55 (.tail (.tail (cY.head))) (Zo (Zx (aC ?_)))))))))));exact eV (A:=[(_,_),(_,_),(_,_)]) (ν':=[_,_]) (B:=[]) (vs:=[_]) rfl rfl rfl ⟨⟨_,_,_,rfl,List.Mem.tail _ (List.Mem.tail _ (List.Mem.head _)),Or.inr ⟨Tf.a55,Tf.s55,rfl⟩⟩,trivial⟩ rfl (fun D hD=>⟨hfin,rfl⟩)
end L2
end Go.Fs
