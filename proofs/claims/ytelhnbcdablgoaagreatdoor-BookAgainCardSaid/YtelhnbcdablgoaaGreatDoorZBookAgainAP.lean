/- Of the proof of BookAgain: BW32, BW33, BW34, BW35, BW36, BW38, BW37, BW44, Comm, BW51, BW52. -/
import Derived.Test.YtelhnbcdablgoaaGreatDoorZBookAgainAO
import Derived.Test.YtelhnbcdablgoaaGreatDoorZBookAgainAD
namespace Go.Fs
open Go.Proofs
namespace L12
open C12
section
variable{α:Type}{xs ys:List α}{k:Nat}{a b:α}
theorem aKN{α:Type}[DecidableEq α]{a b:α}(h:(!decide (a=b))=false):a=b:=by simpa using h
theorem aKR{α:Type}[DecidableEq α]{a b:α}(h:(!decide (a=b))=true):a≠b:=by simpa using h
theorem rT(hl:xs.length=ys.length)(hk:xs.length≤k)(h:xs.take k=ys.take k):xs=ys:=by
 rwa [aNA hk,aNA Yd]at h
theorem oY(ha:xs[k]?= some a)(hb:ys[k]?= some b)(e:xs=ys):a=b:=by
 rw[e,hb]at ha;exact(aMY ha).symm
end
theorem Y2{l m:List Int}(h:(!(l==m))=false):l=m:=by simpa using h
theorem Z7{α:Type}{f:α→List Int}{a b:α}(h:(!(f a==f b))=true):a≠b:=fun e=>by rw[e]at h;simp at h
def aJS(p:Int×Int):List Int:=[p.1,p.2]
def aKZ(m:C2.Mk):List Int:=[m.frm,m.to,m.lo,m.hi]
def aKX(c:C3.Cn):List Int:=[c.after,c.lo,c.hi]
def aKY(l:C3.fE):List Int:=[l.kind,l.chair,l.token]
def aJJ(c:C7.Ch):List Int:=[c.size,c.parts.a,c.parts.b,c.parts.c]
theorem LF{a b:Int×Int}(h:aJS a=aJS b):a=b:=by
 obtain⟨a1,a2⟩:=a;obtain⟨b1,b2⟩:=b
 simp only[aJS,aOC,and_true]at h;rw[h.1,h.2]
theorem aBX{a b:C2.Mk}(h:aKZ a=aKZ b):a=b:=by
 obtain⟨a1,a2,a3,a4⟩:=a;obtain⟨b1,b2,b3,b4⟩:=b
 simp only[aKZ,aOC,and_true]at h;rw[h.1,h.2.1,h.2.2.1,h.2.2.2]
theorem aCM{a b:C3.Cn}(h:aKX a=aKX b):a=b:=by
 obtain⟨a1,a2,a3⟩:=a;obtain⟨b1,b2,b3⟩:=b
 simp only[aKX,aOC,and_true]at h;rw[h.1,h.2.1,h.2.2]
theorem aCU{a b:C3.fE}(h:aKY a=aKY b):a=b:=by
 obtain⟨a1,a2,a3⟩:=a;obtain⟨b1,b2,b3⟩:=b
 simp only[aKY,aOC,and_true]at h;rw[h.1,h.2.1,h.2.2]
theorem MT{a b:C7.Ch}(h:aJJ a=aJJ b):a=b:=by
 obtain⟨a1,a2,a3,a4⟩:=a;obtain⟨b1,b2,b3,b4⟩:=b
 simp only[aJJ,aOC,and_true]at h;rw[h.1,h.2.1,h.2.2.1,h.2.2.2]
instance:DecidableEq C7.Ch:=fun a b=>decidable_of_iff (aJJ a=aJJ b) ⟨MT,fun e=>by rw[e]⟩
def xM(a b:C1.dH):Bool:=decide (a.wrong=b.wrong∧a.off=b.off∧a.places=b.places∧a.counts=b.counts)
theorem SQ{a b:C1.dH}(h:(decide (a.wrong≠b.wrong)||decide (a.off≠b.off)|| !decide (a.places=b.places)||decide ((a.counts.length:Int)≠(b.counts.length:Int)))=false):a.wrong=b.wrong∧a.off=b.off∧a.places=b.places∧a.counts.length=b.counts.length:=by
 simp only[aOM,Bool.not_eq_false',aNV,Decidable.not_not,aMV]at h;exact⟨h.1.1.1,h.1.1.2,h.1.2,by omega⟩
theorem HT{a b:C1.dH}(h:(decide (a.wrong≠b.wrong)||decide (a.off≠b.off)|| !decide (a.places=b.places)||decide ((a.counts.length:Int)≠(b.counts.length:Int)))=true):xM a b=false:=
 aPN fun⟨e1,e2,e3,e4⟩=>by rw[e1,e2,e3,e4]at h;simp at h
def qT(a b:C2.aY):Bool:=decide (a.last=b.last∧a.step=b.step∧a.levels=b.levels∧a.heights=b.heights∧a.marks=b.marks)
theorem CV{a b:C2.aY}(h:(decide (a.last≠b.last)||decide (a.step≠b.step)|| !decide (a.levels=b.levels)||decide ((a.heights.length:Int)≠(b.heights.length:Int))||decide ((a.marks.length:Int)≠(b.marks.length:Int)))=false):a.last=b.last∧a.step=b.step∧a.levels=b.levels∧a.heights.length=b.heights.length∧a.marks.length=b.marks.length:=by
 simp only[aOM,Bool.not_eq_false',aNV,Decidable.not_not,aMV]at h;exact⟨h.1.1.1.1,h.1.1.1.2,h.1.1.2,by omega,by omega⟩
theorem m2{a b:C2.aY}(h:(decide (a.last≠b.last)||decide (a.step≠b.step)|| !decide (a.levels=b.levels)||decide ((a.heights.length:Int)≠(b.heights.length:Int))||decide ((a.marks.length:Int)≠(b.marks.length:Int)))=true):qT a b=false:=
 aPN fun⟨e1,e2,e3,e4,e5⟩=>by rw[e1,e2,e3,e4,e5]at h;simp at h
def tG(a b:C3.aZ):Bool:=decide (a.chairs=b.chairs∧a.coin=b.coin∧a.box=b.box∧a.lines=b.lines∧a.counts=b.counts)
theorem IX{a b:C3.aZ}(h:(decide (a.chairs≠b.chairs)||decide (a.coin≠b.coin)||decide (a.box≠b.box)||decide ((a.lines.length:Int)≠(b.lines.length:Int))||decide ((a.counts.length:Int)≠(b.counts.length:Int)))=false):a.chairs=b.chairs∧a.coin=b.coin∧a.box=b.box∧a.lines.length=b.lines.length∧a.counts.length=b.counts.length:=by
 simp only[aOM,aNV,Decidable.not_not]at h;exact⟨h.1.1.1.1,h.1.1.1.2,h.1.1.2,by omega,by omega⟩
theorem EV{a b:C3.aZ}(h:(decide (a.chairs≠b.chairs)||decide (a.coin≠b.coin)||decide (a.box≠b.box)||decide ((a.lines.length:Int)≠(b.lines.length:Int))||decide ((a.counts.length:Int)≠(b.counts.length:Int)))=true):tG a b=false:=
 aPN fun⟨e1,e2,e3,e4,e5⟩=>by rw[e1,e2,e3,e4,e5]at h;simp at h
def tX(a b:C7.bJ):Bool:=decide (a.fit=b.fit∧a.chairs=b.chairs∧a.claims=b.claims)
theorem JW{a b:C7.bJ}(h:(decide (a.fit≠b.fit)||decide ((a.chairs.length:Int)≠(b.chairs.length:Int))||decide ((a.claims.length:Int)≠(b.claims.length:Int)))=false):a.fit=b.fit∧a.chairs.length=b.chairs.length∧a.claims.length=b.claims.length:=by
 simp only[aOM,aNV,Decidable.not_not]at h;exact⟨h.1.1,by omega,by omega⟩
theorem CG{a b:C7.bJ}(h:(decide (a.fit≠b.fit)||decide ((a.chairs.length:Int)≠(b.chairs.length:Int))||decide ((a.claims.length:Int)≠(b.claims.length:Int)))=true):tX a b=false:=
 aPN fun⟨e1,e2,e3⟩=>by rw[e1,e2,e3]at h;simp at h
def p7(a b:aH):Bool:=xM a.row b.row&&qT a.table b.table&&tG a.book b.book&&tX a.yard b.yard
theorem BX(a:C1.dH):xM a a=true:=by simp[xM]
theorem W3(a:C2.aY):qT a a=true:=by simp[qT]
theorem y5(a:C3.aZ):tG a a=true:=by simp[tG]
theorem x4(a:C7.bJ):tX a a=true:=by simp[tX]
theorem DX(a:aH):p7 a a=true:=by simp[p7,BX,W3,y5,x4]
theorem aIF:KS Tryz.prog 160 3:=by
 have hf:(Tryz.prog.fieldsOf 160).toList=[(Tryz.prog.fieldsOf 160)[0]!,(Tryz.prog.fieldsOf 160)[1]!,(Tryz.prog.fieldsOf 160)[2]!]:=by kernel_rfl
 refine⟨by kernel_rfl,by kernel_rfl,by kernel_rfl,?_⟩;rw[hf];exact .cons (hU.int Yad Yg Yg) (.cons (hU.int Yad Yg Yg) (.cons (hU.int Yad Yg Yg) .nil))
theorem aJX:KS Tryz.prog 99 2:=by
 have hf:(Tryz.prog.fieldsOf 99).toList=[(Tryz.prog.fieldsOf 99)[0]!,(Tryz.prog.fieldsOf 99)[1]!]:=by kernel_rfl
 refine⟨by kernel_rfl,by kernel_rfl,by kernel_rfl,?_⟩;rw[hf];exact .cons (hU.int Yad Yg Yg) (.cons (hU.int Yad Yg Yg) .nil)
theorem aHU:KS Tryz.prog 158 4:=by
 have hf:(Tryz.prog.fieldsOf 158).toList=[(Tryz.prog.fieldsOf 158)[0]!,(Tryz.prog.fieldsOf 158)[1]!,(Tryz.prog.fieldsOf 158)[2]!]:=by kernel_rfl
 refine⟨by kernel_rfl,by kernel_rfl,by kernel_rfl,?_⟩;rw[hf];refine .cons (hU.int Yad Yg Yg) (.cons (hU.int Yad Yg Yg) (.cons (n:=2) (hU.str Yad Yg Yg Yg ?_ ?_ ?_) .nil))
 ·rw[show(((Tryz.prog.fieldsOf 158)[2]!)).type=99 by kernel_rfl];exact Tf.a99
 ·rw[show(((Tryz.prog.fieldsOf 158)[2]!)).type=99 by kernel_rfl];exact Tf.s99
 ·rw[show(((Tryz.prog.fieldsOf 158)[2]!)).type=99 by kernel_rfl,show(Tryz.prog.fieldsOf 99).toList=[(Tryz.prog.fieldsOf 99)[0]!,(Tryz.prog.fieldsOf 99)[1]!] by kernel_rfl];exact .cons Yad Yg Yg (.cons Yad Yg Yg .nil)
theorem aIC:KS Tryz.prog 162 3:=by
 have hf:(Tryz.prog.fieldsOf 162).toList=[(Tryz.prog.fieldsOf 162)[0]!,(Tryz.prog.fieldsOf 162)[1]!]:=by kernel_rfl
 refine⟨by kernel_rfl,by kernel_rfl,by kernel_rfl,?_⟩;rw[hf];refine .cons (hU.int Yad Yg Yg) (.cons (n:=2) (hU.str Yad Yg Yg Yg ?_ ?_ ?_) .nil)
 ·rw[show(((Tryz.prog.fieldsOf 162)[1]!)).type=65 by kernel_rfl];exact Tf.a65
 ·rw[show(((Tryz.prog.fieldsOf 162)[1]!)).type=65 by kernel_rfl];exact Tf.s65
 ·rw[show(((Tryz.prog.fieldsOf 162)[1]!)).type=65 by kernel_rfl,show(Tryz.prog.fieldsOf 65).toList=[(Tryz.prog.fieldsOf 65)[0]!,(Tryz.prog.fieldsOf 65)[1]!] by kernel_rfl];exact .cons Yad Yg Yg (.cons Yad Yg Yg .nil)
theorem aHX:KS Tryz.prog 103 4:=by
 have hf:(Tryz.prog.fieldsOf 103).toList=[(Tryz.prog.fieldsOf 103)[0]!,(Tryz.prog.fieldsOf 103)[1]!]:=by kernel_rfl
 refine⟨by kernel_rfl,by kernel_rfl,by kernel_rfl,?_⟩;rw[hf];refine .cons (hU.int Yad Yg Yg) (.cons (n:=3) (hU.arr (e:=3) Yad Yg Yg Yg Yg ?_ ?_) .nil)
 ·rw[show(((Tryz.prog.fieldsOf 103)[1]!)).type=101 by kernel_rfl];exact Tf.a101
 ·rw[show(((Tryz.prog.fieldsOf 103)[1]!)).type=101 by kernel_rfl];exact Tf.s101
theorem aHH:KS Tryz.prog 133 2:=by
 have hf:(Tryz.prog.fieldsOf 133).toList=[(Tryz.prog.fieldsOf 133)[0]!,(Tryz.prog.fieldsOf 133)[1]!]:=by kernel_rfl
 refine⟨by kernel_rfl,by kernel_rfl,by kernel_rfl,?_⟩;rw[hf];exact .cons (hU.int Yad Yg Yg) (.cons (hU.int Yad Yg Yg) .nil)
theorem aHL:KC Tryz.prog 156 (Tryz.prog.fieldsOf 156)[0]! (Tryz.prog.fieldsOf 156)[1]! (Tryz.prog.fieldsOf 156)[2]! :=⟨by kernel_rfl,by kernel_rfl,by kernel_rfl,by kernel_rfl,by decide+kernel,by decide+kernel,by decide+kernel,by kernel_rfl,by kernel_rfl,by kernel_rfl,by kernel_rfl,by kernel_rfl,by kernel_rfl⟩
theorem PZ(av bv:Value)(a0 b0:C1.dH)(D:aA)(hx:lS D av a0)(hy:lS D bv b0):Fn Tryz.prog 33 #[av,bv] D (fun _ v=>v=.bool (xM a0 b0)):=by
 obtain⟨pv,cv,rfl,hp0,hc0⟩:=hx;obtain⟨qv,dv,rfl,hq0,hd0⟩:=hy;have hlen0:=hc0.len;refine enter 53 Tryz.func33 rfl rfl rfl rfl fun h0=>C.s1<|Zt rfl (fun q1 E1 hE1 hB1=>Zt rfl (fun q2 E2 hE2 hB2=>Zi rfl<|L.n4<|Zj rfl Tf.f28_2 rfl<|Zc 2 rfl Tf.a3 rfl hB1 rfl<|Zj rfl Tf.f28_2 rfl<|Zc 2 rfl Tf.a3 rfl hB2 rfl<|Zaf rfl<|Za rfl ?_))
 refine' L.orK 6 (s:=11) (p:=17) rfl (fun hg1=>?_) (fun hg1=>?_) ?_;rotate_left
 ·refine Zk rfl Tf.f28_3 rfl<|Zd 3 rfl Tf.a3 rfl hB1 rfl<|Zk rfl Tf.f28_3 rfl<|Zd 3 rfl Tf.a3 rfl hB2 rfl<|mS rfl rfl rfl rfl ⟨_,rfl,rfl⟩<|Zz rfl ?_;exact L.cu 5
 ·refine Zh rfl<|Zh rfl<|Zh rfl<|Zh rfl<|Zh rfl<|Zy rfl ?_;exact L.cu 5
 refine Za rfl ?_;refine' L.orK 7 (s:=18) (p:=25) rfl (fun hg2=>?_) (fun hg2=>?_) ?_;rotate_left
 ·refine Zk rfl Tf.f28_0 rfl<|Zd 0 rfl Tf.a25 rfl hB1 rfl<|Zk rfl Tf.f28_0 rfl<|Zd 0 rfl Tf.a25 rfl hB2 rfl<|Zf rfl (fun D1 hD1=>j4 _ _ a0.places b0.places _ (hp0.up RI.up (hD1 _ Ye)) (hq0.up RI.up (hD1 _ Ye)))<|jD rfl rfl rfl ⟨_,rfl,rfl⟩<|Zz rfl ?_;exact L.cu 6
 ·refine Zh rfl<|Zh rfl<|Zh rfl<|Zh rfl<|Zh rfl<|Zh rfl<|Zy rfl ?_;exact L.cu 6
 refine Za rfl ?_;refine' L.orK 8 (s:=26) (p:=34) rfl (fun hg3=>?_) (fun hg3=>?_) ?_;rotate_left
 ·refine Zk rfl Tf.f28_1 rfl<|Zd 1 rfl Tf.a26 rfl hB1 rfl<|aO rfl U26 rfl hc0 rfl rfl ⟨_,rfl,rfl⟩<|Zk rfl Tf.f28_1 rfl<|Zd 1 rfl Tf.a26 rfl hB2 rfl<|aO rfl U26 rfl hd0 rfl rfl ⟨_,rfl,rfl⟩<|mS rfl rfl rfl rfl ⟨_,rfl,rfl⟩<|Zz rfl ?_;exact L.cu 7
 ·refine Zh rfl<|Zh rfl<|Zh rfl<|Zh rfl<|Zh rfl<|Zh rfl<|Zh rfl<|Zy rfl ?_;exact L.cu 7
 refine L.n1<|aI rfl (fun hc1=>?_) (fun hc1=>?_)
 ·refine C.s1<|Zi rfl<|L.n5<|Zah ?_;exact leave1 rfl rfl rfl rfl (fun D hD=>aMQ Value.bool (HT hc1).symm)
 ·obtain⟨hw,ho,hp,hl5⟩:=SQ hc1;refine C.kn<|C.s2<|Zi rfl<|L.n1<|Zai<|bT (γ:=Nat) (fun k=>(a0.counts).length-k) (fun k=>k≤(a0.counts).length∧(a0.counts).take k=(b0.counts).take k) (fun k=>[(5,.int .i64 (k:Int))]) [(4,_),(3,_),(2,_)] (fun k=>[E2,E1,D]) 0 Ye ⟨Ya,cW⟩ C.rs (aD) ?_;rintro k ⟨h1,h2⟩;refine C.s2<|Za rfl<|Zj rfl Tf.f28_1 rfl<|Zc 1 rfl Tf.a26 rfl hB1 rfl<|aO rfl U26 rfl hc0 rfl rfl trivial<|Zac rfl<|L.n1<|aE rfl (fun hc2=>?_) (fun hc2=>?_)
  ·have hk:k<(a0.counts).length:=by omega
   obtain⟨a,ha⟩:=C.ge (a0.counts) k;obtain⟨b,hb⟩:=C.ge (b0.counts) k;refine C.kn<|aK<|Zai<|aK<|C.drawA [] 4 11 996 (fun _ _ _ h=>bP (P:=Tryz.prog) (fn:=Tryz.f33) _ _ _ h)<|Zj rfl Tf.f28_1 rfl<|Zc 1 rfl Tf.a26 rfl hB1 rfl<|Za rfl<|Zp rfl U26 Tf.s156 rfl hc0 rfl ha (fun b1 o1 cs1 hr1 hcl1 hA1=>?_);have e1:cs1=_:=hr1;subst e1;refine Zq rfl Tf.a156 rfl hA1 Tf.s156<|Zj rfl Tf.f28_1 rfl<|Zc 1 rfl Tf.a26 rfl hB2 rfl<|Za rfl<|Zp rfl U26 Tf.s156 rfl hd0 rfl hb (fun b2 o2 cs2 hr2 hcl2 hA2=>?_);have e2:cs2=_:=hr2;subst e2;refine Zq rfl Tf.a156 rfl hA2 Tf.s156<|ZC rfl aHL rfl rfl rfl trivial<|L.n1<|aI rfl (fun hc3=>?_) (fun hc3=>?_)
   ·refine C.s1<|Zi rfl<|L.n5<|Zal<|Zah<|Zah<|Zal<|Zah ?_;exact leave1 rfl rfl rfl rfl (fun D hD=>aMQ Value.bool (aPN (fun e=>absurd (oY ha hb (e.2.2.2)) (aKR hc3))).symm)
   ·refine bB<|Zak<|Zag<|C.rg<|Za rfl<|Zw rfl<|Zi rfl<|Zaa ?_;exact aG 20 (k+1) ⟨by omega,kY ha hb h2 (aKN hc3)⟩ Yd ⟨Ya,cW⟩ rfl rfl (LT _) (aD)
  ·have h5:a0.counts=b0.counts:=rT hl5 Yd h2;refine aP<|Zaj<|Zaj<|Zam<|Zag<|C.s1<|Zi rfl<|L.n5 ?_;exact leave1 rfl rfl rfl rfl (fun D hD=>aMQ Value.bool (decide_eq_true (⟨hw,ho,hp,h5⟩)).symm)
theorem AW(av bv:Value)(a0 b0:C2.aY)(D:aA)(hx:gI D av a0)(hy:gI D bv b0):Fn Tryz.prog 34 #[av,bv] D (fun _ v=>v=.bool (qT a0 b0)):=by
 obtain⟨hv,lv,mv,rfl,hh0,hv0,hm0⟩:=hx;obtain⟨gv,kv,nv,rfl,gh0,gv0,gm0⟩:=hy;have hlen0:=hh0.len;have hlen1:=hm0.len;refine enter 81 Tryz.func34 rfl rfl rfl rfl fun h0=>C.s1<|Zt rfl (fun q1 E1 hE1 hB1=>Zt rfl (fun q2 E2 hE2 hB2=>Zi rfl<|L.n4<|Zj rfl Tf.f32_0 rfl<|Zc 0 rfl Tf.a3 rfl hB1 rfl<|Zj rfl Tf.f32_0 rfl<|Zc 0 rfl Tf.a3 rfl hB2 rfl<|Zaf rfl<|Za rfl ?_))
 refine' L.orK 6 (s:=12) (p:=18) rfl (fun hg1=>?_) (fun hg1=>?_) ?_;rotate_left
 ·refine Zk rfl Tf.f32_2 rfl<|Zd 2 rfl Tf.a3 rfl hB1 rfl<|Zk rfl Tf.f32_2 rfl<|Zd 2 rfl Tf.a3 rfl hB2 rfl<|mS rfl rfl rfl rfl ⟨_,rfl,rfl⟩<|Zz rfl ?_;exact L.cu 5
 ·refine Zh rfl<|Zh rfl<|Zh rfl<|Zh rfl<|Zh rfl<|Zy rfl ?_;exact L.cu 5
 refine Za rfl ?_;refine' L.orK 7 (s:=19) (p:=26) rfl (fun hg2=>?_) (fun hg2=>?_) ?_;rotate_left
 ·refine Zk rfl Tf.f32_3 rfl<|Zd 3 rfl Tf.a25 rfl hB1 rfl<|Zk rfl Tf.f32_3 rfl<|Zd 3 rfl Tf.a25 rfl hB2 rfl<|Zf rfl (fun D1 hD1=>j4 _ _ a0.levels b0.levels _ (hv0.up RI.up (hD1 _ Ye)) (gv0.up RI.up (hD1 _ Ye)))<|jD rfl rfl rfl ⟨_,rfl,rfl⟩<|Zz rfl ?_;exact L.cu 6
 ·refine Zh rfl<|Zh rfl<|Zh rfl<|Zh rfl<|Zh rfl<|Zh rfl<|Zy rfl ?_;exact L.cu 6
 refine Za rfl ?_;refine' L.orK 8 (s:=27) (p:=35) rfl (fun hg3=>?_) (fun hg3=>?_) ?_;rotate_left
 ·refine Zk rfl Tf.f32_1 rfl<|Zd 1 rfl Tf.a29 rfl hB1 rfl<|aO rfl U29 rfl hh0 rfl rfl ⟨_,rfl,rfl⟩<|Zk rfl Tf.f32_1 rfl<|Zd 1 rfl Tf.a29 rfl hB2 rfl<|aO rfl U29 rfl gh0 rfl rfl ⟨_,rfl,rfl⟩<|mS rfl rfl rfl rfl ⟨_,rfl,rfl⟩<|Zz rfl ?_;exact L.cu 7
 ·refine Zh rfl<|Zh rfl<|Zh rfl<|Zh rfl<|Zh rfl<|Zh rfl<|Zh rfl<|Zy rfl ?_;exact L.cu 7
 refine Za rfl ?_;refine' L.orK 8 (s:=36) (p:=44) rfl (fun hg4=>?_) (fun hg4=>?_) ?_;rotate_left
 ·refine Zk rfl Tf.f32_4 rfl<|Zd 4 rfl Tf.a30 rfl hB1 rfl<|aO rfl U30 rfl hm0 rfl rfl ⟨_,rfl,rfl⟩<|Zk rfl Tf.f32_4 rfl<|Zd 4 rfl Tf.a30 rfl hB2 rfl<|aO rfl U30 rfl gm0 rfl rfl ⟨_,rfl,rfl⟩<|mS rfl rfl rfl rfl ⟨_,rfl,rfl⟩<|Zz rfl ?_;exact L.cu 7
 ·refine Zh rfl<|Zh rfl<|Zh rfl<|Zh rfl<|Zh rfl<|Zh rfl<|Zh rfl<|Zy rfl ?_;exact L.cu 7
 refine L.n1<|aI rfl (fun hc1=>?_) (fun hc1=>?_)
 ·refine C.s1<|Zi rfl<|L.n5<|Zah ?_;exact leave1 rfl rfl rfl rfl (fun D hD=>aMQ Value.bool (m2 hc1).symm)
 ·obtain⟨hw,ho,hp,hl5,hl6⟩:=CV hc1;refine C.kn<|C.s2<|Zi rfl<|L.n1<|Zai<|bT (γ:=Nat) (fun k=>(a0.heights).length-k) (fun k=>k≤(a0.heights).length∧(a0.heights).take k=(b0.heights).take k) (fun k=>[(5,.int .i64 (k:Int))]) [(4,_),(3,_),(2,_)] (fun k=>[E2,E1,D]) 0 Ye ⟨Ya,cW⟩ C.rs (aD) ?_;rintro k ⟨h1,h2⟩;refine C.s2<|Za rfl<|Zj rfl Tf.f32_1 rfl<|Zc 1 rfl Tf.a29 rfl hB1 rfl<|aO rfl U29 rfl hh0 rfl rfl trivial<|Zac rfl<|L.n1<|aE rfl (fun hc2=>?_) (fun hc2=>?_)
  ·have hk:k<(a0.heights).length:=by omega
   obtain⟨a,ha⟩:=C.ge (a0.heights) k;obtain⟨b,hb⟩:=C.ge (b0.heights) k;refine C.kn<|aK<|Zai<|aK<|C.drawA [] 4 11 996 (fun _ _ _ h=>bP (P:=Tryz.prog) (fn:=Tryz.f34) _ _ _ h)<|Zj rfl Tf.f32_1 rfl<|Zc 1 rfl Tf.a29 rfl hB1 rfl<|Za rfl<|Zp rfl U29 Tf.s99 rfl hh0 rfl ha (fun b1 o1 cs1 hr1 hcl1 hA1=>?_);have e1:cs1=_:=hr1;subst e1;refine Zq rfl Tf.a99 rfl hA1 Tf.s99<|Zj rfl Tf.f32_1 rfl<|Zc 1 rfl Tf.a29 rfl hB2 rfl<|Za rfl<|Zp rfl U29 Tf.s99 rfl gh0 rfl hb (fun b2 o2 cs2 hr2 hcl2 hA2=>?_);have e2:cs2=_:=hr2;subst e2;refine Zq rfl Tf.a99 rfl hA2 Tf.s99<|xK (l:=[a.1,a.2]) (m:=[b.1,b.2]) rfl aJX rfl rfl rfl rfl rfl trivial<|L.n1<|aI rfl (fun hc3=>?_) (fun hc3=>?_)
   ·refine C.s1<|Zi rfl<|L.n5<|Zal<|Zah<|Zah<|Zal<|Zah ?_;exact leave1 rfl rfl rfl rfl (fun D hD=>aMQ Value.bool (aPN (fun e=>absurd (oY ha hb (e.2.2.2.1)) (Z7 (f:=aJS) hc3))).symm)
   ·refine bB<|Zak<|Zag<|C.rg<|Za rfl<|Zw rfl<|Zi rfl<|Zaa ?_;exact aG 20 (k+1) ⟨by omega,kY ha hb h2 (LF (Y2 hc3))⟩ Yd ⟨Ya,cW⟩ rfl rfl (LT _) (aD)
  ·have h5:a0.heights=b0.heights:=rT hl5 Yd h2;refine aP<|Zaj<|Zaj<|Zam<|Zag<|C.s2<|Zi rfl<|L.n1<|Zai<|bT (γ:=Nat) (fun k=>(a0.marks).length-k) (fun k=>k≤(a0.marks).length∧(a0.marks).take k=(b0.marks).take k) (fun k=>[(6,.int .i64 (k:Int))]) [(4,_),(3,_),(2,_)] (fun k=>[E2,E1,D]) 0 Ye ⟨Ya,cW⟩ C.rs (aD) ?_;rintro k ⟨h1,h2⟩;refine C.s2<|Za rfl<|Zj rfl Tf.f32_4 rfl<|Zc 4 rfl Tf.a30 rfl hB1 rfl<|aO rfl U30 rfl hm0 rfl rfl trivial<|Zac rfl<|L.n1<|aE rfl (fun hc4=>?_) (fun hc4=>?_)
   ·have hk:k<(a0.marks).length:=by omega
    obtain⟨a,ha⟩:=C.ge (a0.marks) k;obtain⟨b,hb⟩:=C.ge (b0.marks) k;refine C.kn<|aK<|Zai<|aK<|C.drawA [] 4 11 996 (fun _ _ _ h=>bP (P:=Tryz.prog) (fn:=Tryz.f34) _ _ _ h)<|Zj rfl Tf.f32_4 rfl<|Zc 4 rfl Tf.a30 rfl hB1 rfl<|Za rfl<|Zp rfl U30 Tf.s158 rfl hm0 rfl ha (fun b3 o3 cs3 hr3 hcl3 hA3=>?_);have e3:cs3=_:=hr3;subst e3;refine Zq rfl Tf.a158 rfl hA3 Tf.s158<|Zj rfl Tf.f32_4 rfl<|Zc 4 rfl Tf.a30 rfl hB2 rfl<|Za rfl<|Zp rfl U30 Tf.s158 rfl gm0 rfl hb (fun b4 o4 cs4 hr4 hcl4 hA4=>?_);have e4:cs4=_:=hr4;subst e4;refine Zq rfl Tf.a158 rfl hA4 Tf.s158<|xK (l:=[a.frm,a.to,a.lo,a.hi]) (m:=[b.frm,b.to,b.lo,b.hi]) rfl aHU rfl rfl rfl rfl rfl trivial<|L.n1<|aI rfl (fun hc5=>?_) (fun hc5=>?_)
    ·refine C.s1<|Zi rfl<|L.n5<|Zal<|Zah<|Zah<|Zal<|Zah ?_;exact leave1 rfl rfl rfl rfl (fun D hD=>aMQ Value.bool (aPN (fun e=>absurd (oY ha hb (e.2.2.2.2)) (Z7 (f:=aKZ) hc5))).symm)
    ·refine bB<|Zak<|Zag<|C.rg<|Za rfl<|Zw rfl<|Zi rfl<|Zaa ?_;exact aG 20 (k+1) ⟨by omega,kY ha hb h2 (aBX (Y2 hc5))⟩ Yd ⟨Ya,cW⟩ rfl rfl (LT _) (aD)
   ·have h6:a0.marks=b0.marks:=rT hl6 Yd h2;refine aP<|Zaj<|Zaj<|Zam<|Zag<|C.s1<|Zi rfl<|L.n5 ?_;exact leave1 rfl rfl rfl rfl (fun D hD=>aMQ Value.bool (decide_eq_true (⟨hw,ho,hp,h5,h6⟩)).symm)
theorem HU(av bv:Value)(a0 b0:C3.aZ)(D:aA)(hx:fJ D av a0)(hy:fJ D bv b0):Fn Tryz.prog 35 #[av,bv] D (fun _ v=>v=.bool (tG a0 b0)):=by
 obtain⟨hv,mv,rfl,hh0,hm0⟩:=hx;obtain⟨gv,nv,rfl,gh0,gm0⟩:=hy;have hlen0:=hh0.len;have hlen1:=hm0.len;refine enter 80 Tryz.func35 rfl rfl rfl rfl fun h0=>C.s1<|Zt rfl (fun q1 E1 hE1 hB1=>Zt rfl (fun q2 E2 hE2 hB2=>Zi rfl<|L.n4<|Zj rfl Tf.f36_0 rfl<|Zc 0 rfl Tf.a3 rfl hB1 rfl<|Zj rfl Tf.f36_0 rfl<|Zc 0 rfl Tf.a3 rfl hB2 rfl<|Zaf rfl<|Za rfl ?_))
 refine' L.orK 6 (s:=12) (p:=18) rfl (fun hg1=>?_) (fun hg1=>?_) ?_;rotate_left
 ·refine Zk rfl Tf.f36_1 rfl<|Zd 1 rfl Tf.a3 rfl hB1 rfl<|Zk rfl Tf.f36_1 rfl<|Zd 1 rfl Tf.a3 rfl hB2 rfl<|mS rfl rfl rfl rfl ⟨_,rfl,rfl⟩<|Zz rfl ?_;exact L.cu 5
 ·refine Zh rfl<|Zh rfl<|Zh rfl<|Zh rfl<|Zh rfl<|Zy rfl ?_;exact L.cu 5
 refine Za rfl ?_;refine' L.orK 6 (s:=19) (p:=25) rfl (fun hg2=>?_) (fun hg2=>?_) ?_;rotate_left
 ·refine Zk rfl Tf.f36_2 rfl<|Zd 2 rfl Tf.a3 rfl hB1 rfl<|Zk rfl Tf.f36_2 rfl<|Zd 2 rfl Tf.a3 rfl hB2 rfl<|mS rfl rfl rfl rfl ⟨_,rfl,rfl⟩<|Zz rfl ?_;exact L.cu 5
 ·refine Zh rfl<|Zh rfl<|Zh rfl<|Zh rfl<|Zh rfl<|Zy rfl ?_;exact L.cu 5
 refine Za rfl ?_;refine' L.orK 8 (s:=26) (p:=34) rfl (fun hg3=>?_) (fun hg3=>?_) ?_;rotate_left
 ·refine Zk rfl Tf.f36_3 rfl<|Zd 3 rfl Tf.a33 rfl hB1 rfl<|aO rfl U33 rfl hh0 rfl rfl ⟨_,rfl,rfl⟩<|Zk rfl Tf.f36_3 rfl<|Zd 3 rfl Tf.a33 rfl hB2 rfl<|aO rfl U33 rfl gh0 rfl rfl ⟨_,rfl,rfl⟩<|mS rfl rfl rfl rfl ⟨_,rfl,rfl⟩<|Zz rfl ?_;exact L.cu 7
 ·refine Zh rfl<|Zh rfl<|Zh rfl<|Zh rfl<|Zh rfl<|Zh rfl<|Zh rfl<|Zy rfl ?_;exact L.cu 7
 refine Za rfl ?_;refine' L.orK 8 (s:=35) (p:=43) rfl (fun hg4=>?_) (fun hg4=>?_) ?_;rotate_left
 ·refine Zk rfl Tf.f36_4 rfl<|Zd 4 rfl Tf.a34 rfl hB1 rfl<|aO rfl U34 rfl hm0 rfl rfl ⟨_,rfl,rfl⟩<|Zk rfl Tf.f36_4 rfl<|Zd 4 rfl Tf.a34 rfl hB2 rfl<|aO rfl U34 rfl gm0 rfl rfl ⟨_,rfl,rfl⟩<|mS rfl rfl rfl rfl ⟨_,rfl,rfl⟩<|Zz rfl ?_;exact L.cu 7
 ·refine Zh rfl<|Zh rfl<|Zh rfl<|Zh rfl<|Zh rfl<|Zh rfl<|Zh rfl<|Zy rfl ?_;exact L.cu 7
 refine L.n1<|aI rfl (fun hc1=>?_) (fun hc1=>?_)
 ·refine C.s1<|Zi rfl<|L.n5<|Zah ?_;exact leave1 rfl rfl rfl rfl (fun D hD=>aMQ Value.bool (EV hc1).symm)
 ·obtain⟨hw,ho,hp,hl5,hl6⟩:=IX hc1;refine C.kn<|C.s2<|Zi rfl<|L.n1<|Zai<|bT (γ:=Nat) (fun k=>(a0.lines).length-k) (fun k=>k≤(a0.lines).length∧(a0.lines).take k=(b0.lines).take k) (fun k=>[(5,.int .i64 (k:Int))]) [(4,_),(3,_),(2,_)] (fun k=>[E2,E1,D]) 0 Ye ⟨Ya,cW⟩ C.rs (aD) ?_;rintro k ⟨h1,h2⟩;refine C.s2<|Za rfl<|Zj rfl Tf.f36_3 rfl<|Zc 3 rfl Tf.a33 rfl hB1 rfl<|aO rfl U33 rfl hh0 rfl rfl trivial<|Zac rfl<|L.n1<|aE rfl (fun hc2=>?_) (fun hc2=>?_)
  ·have hk:k<(a0.lines).length:=by omega
   obtain⟨a,ha⟩:=C.ge (a0.lines) k;obtain⟨b,hb⟩:=C.ge (b0.lines) k;refine C.kn<|aK<|Zai<|aK<|C.drawA [] 4 11 996 (fun _ _ _ h=>bP (P:=Tryz.prog) (fn:=Tryz.f35) _ _ _ h)<|Zj rfl Tf.f36_3 rfl<|Zc 3 rfl Tf.a33 rfl hB1 rfl<|Za rfl<|Zp rfl U33 Tf.s160 rfl hh0 rfl ha (fun b1 o1 cs1 hr1 hcl1 hA1=>?_);have e1:cs1=_:=hr1;subst e1;refine Zq rfl Tf.a160 rfl hA1 Tf.s160<|Zj rfl Tf.f36_3 rfl<|Zc 3 rfl Tf.a33 rfl hB2 rfl<|Za rfl<|Zp rfl U33 Tf.s160 rfl gh0 rfl hb (fun b2 o2 cs2 hr2 hcl2 hA2=>?_);have e2:cs2=_:=hr2;subst e2;refine Zq rfl Tf.a160 rfl hA2 Tf.s160<|xK (l:=[a.kind,a.chair,a.token]) (m:=[b.kind,b.chair,b.token]) rfl aIF rfl rfl rfl rfl rfl trivial<|L.n1<|aI rfl (fun hc3=>?_) (fun hc3=>?_)
   ·refine C.s1<|Zi rfl<|L.n5<|Zal<|Zah<|Zah<|Zal<|Zah ?_;exact leave1 rfl rfl rfl rfl (fun D hD=>aMQ Value.bool (aPN (fun e=>absurd (oY ha hb (e.2.2.2.1)) (Z7 (f:=aKY) hc3))).symm)
   ·refine bB<|Zak<|Zag<|C.rg<|Za rfl<|Zw rfl<|Zi rfl<|Zaa ?_;exact aG 20 (k+1) ⟨by omega,kY ha hb h2 (aCU (Y2 hc3))⟩ Yd ⟨Ya,cW⟩ rfl rfl (LT _) (aD)
  ·have h5:a0.lines=b0.lines:=rT hl5 Yd h2;refine aP<|Zaj<|Zaj<|Zam<|Zag<|C.s2<|Zi rfl<|L.n1<|Zai<|bT (γ:=Nat) (fun k=>(a0.counts).length-k) (fun k=>k≤(a0.counts).length∧(a0.counts).take k=(b0.counts).take k) (fun k=>[(6,.int .i64 (k:Int))]) [(4,_),(3,_),(2,_)] (fun k=>[E2,E1,D]) 0 Ye ⟨Ya,cW⟩ C.rs (aD) ?_;rintro k ⟨h1,h2⟩;refine C.s2<|Za rfl<|Zj rfl Tf.f36_4 rfl<|Zc 4 rfl Tf.a34 rfl hB1 rfl<|aO rfl U34 rfl hm0 rfl rfl trivial<|Zac rfl<|L.n1<|aE rfl (fun hc4=>?_) (fun hc4=>?_)
   ·have hk:k<(a0.counts).length:=by omega
    obtain⟨a,ha⟩:=C.ge (a0.counts) k;obtain⟨b,hb⟩:=C.ge (b0.counts) k;refine C.kn<|aK<|Zai<|aK<|C.drawA [] 4 11 996 (fun _ _ _ h=>bP (P:=Tryz.prog) (fn:=Tryz.f35) _ _ _ h)<|Zj rfl Tf.f36_4 rfl<|Zc 4 rfl Tf.a34 rfl hB1 rfl<|Za rfl<|Zp rfl U34 Tf.s162 rfl hm0 rfl ha (fun b3 o3 cs3 hr3 hcl3 hA3=>?_);have e3:cs3=_:=hr3;subst e3;refine Zq rfl Tf.a162 rfl hA3 Tf.s162<|Zj rfl Tf.f36_4 rfl<|Zc 4 rfl Tf.a34 rfl hB2 rfl<|Za rfl<|Zp rfl U34 Tf.s162 rfl gm0 rfl hb (fun b4 o4 cs4 hr4 hcl4 hA4=>?_);have e4:cs4=_:=hr4;subst e4;refine Zq rfl Tf.a162 rfl hA4 Tf.s162<|xK (l:=[a.after,a.lo,a.hi]) (m:=[b.after,b.lo,b.hi]) rfl aIC rfl rfl rfl rfl rfl trivial<|L.n1<|aI rfl (fun hc5=>?_) (fun hc5=>?_)
    ·refine C.s1<|Zi rfl<|L.n5<|Zal<|Zah<|Zah<|Zal<|Zah ?_;exact leave1 rfl rfl rfl rfl (fun D hD=>aMQ Value.bool (aPN (fun e=>absurd (oY ha hb (e.2.2.2.2)) (Z7 (f:=aKX) hc5))).symm)
    ·refine bB<|Zak<|Zag<|C.rg<|Za rfl<|Zw rfl<|Zi rfl<|Zaa ?_;exact aG 20 (k+1) ⟨by omega,kY ha hb h2 (aCM (Y2 hc5))⟩ Yd ⟨Ya,cW⟩ rfl rfl (LT _) (aD)
   ·have h6:a0.counts=b0.counts:=rT hl6 Yd h2;refine aP<|Zaj<|Zaj<|Zam<|Zag<|C.s1<|Zi rfl<|L.n5 ?_;exact leave1 rfl rfl rfl rfl (fun D hD=>aMQ Value.bool (decide_eq_true (⟨hw,ho,hp,h5,h6⟩)).symm)
theorem HN(av bv:Value)(a0 b0:C7.bJ)(D:aA)(hx:kR D av a0)(hy:kR D bv b0):Fn Tryz.prog 36 #[av,bv] D (fun _ v=>v=.bool (tX a0 b0)):=by
 obtain⟨hv,mv,rfl,hh0,hm0⟩:=hx;obtain⟨gv,nv,rfl,gh0,gm0⟩:=hy;have hlen0:=hh0.len;have hlen1:=hm0.len;refine enter 66 Tryz.func36 rfl rfl rfl rfl fun h0=>C.s1<|Zt rfl (fun q1 E1 hE1 hB1=>Zt rfl (fun q2 E2 hE2 hB2=>Zi rfl<|L.n4<|Zj rfl Tf.f40_1 rfl<|Zc 1 rfl Tf.a3 rfl hB1 rfl<|Zj rfl Tf.f40_1 rfl<|Zc 1 rfl Tf.a3 rfl hB2 rfl<|Zaf rfl<|Za rfl ?_))
 refine' L.orK 8 (s:=12) (p:=20) rfl (fun hg1=>?_) (fun hg1=>?_) ?_;rotate_left
 ·refine Zk rfl Tf.f40_0 rfl<|Zd 0 rfl Tf.a37 rfl hB1 rfl<|aO rfl U37 rfl hh0 rfl rfl ⟨_,rfl,rfl⟩<|Zk rfl Tf.f40_0 rfl<|Zd 0 rfl Tf.a37 rfl hB2 rfl<|aO rfl U37 rfl gh0 rfl rfl ⟨_,rfl,rfl⟩<|mS rfl rfl rfl rfl ⟨_,rfl,rfl⟩<|Zz rfl ?_;exact L.cu 7
 ·refine Zh rfl<|Zh rfl<|Zh rfl<|Zh rfl<|Zh rfl<|Zh rfl<|Zh rfl<|Zy rfl ?_;exact L.cu 7
 refine Za rfl ?_;refine' L.orK 8 (s:=21) (p:=29) rfl (fun hg2=>?_) (fun hg2=>?_) ?_;rotate_left
 ·refine Zk rfl Tf.f40_2 rfl<|Zd 2 rfl Tf.a38 rfl hB1 rfl<|aO rfl U38 rfl hm0 rfl rfl ⟨_,rfl,rfl⟩<|Zk rfl Tf.f40_2 rfl<|Zd 2 rfl Tf.a38 rfl hB2 rfl<|aO rfl U38 rfl gm0 rfl rfl ⟨_,rfl,rfl⟩<|mS rfl rfl rfl rfl ⟨_,rfl,rfl⟩<|Zz rfl ?_;exact L.cu 7
 ·refine Zh rfl<|Zh rfl<|Zh rfl<|Zh rfl<|Zh rfl<|Zh rfl<|Zh rfl<|Zy rfl ?_;exact L.cu 7
 refine L.n1<|aI rfl (fun hc1=>?_) (fun hc1=>?_)
 ·refine C.s1<|Zi rfl<|L.n5<|Zah ?_;exact leave1 rfl rfl rfl rfl (fun D hD=>aMQ Value.bool (CG hc1).symm)
 ·obtain⟨hw,hl5,hl6⟩:=JW hc1;refine C.kn<|C.s2<|Zi rfl<|L.n1<|Zai<|bT (γ:=Nat) (fun k=>(a0.chairs).length-k) (fun k=>k≤(a0.chairs).length∧(a0.chairs).take k=(b0.chairs).take k) (fun k=>[(5,.int .i64 (k:Int))]) [(4,_),(3,_),(2,_)] (fun k=>[E2,E1,D]) 0 Ye ⟨Ya,cW⟩ C.rs (aD) ?_;rintro k ⟨h1,h2⟩;refine C.s2<|Za rfl<|Zj rfl Tf.f40_0 rfl<|Zc 0 rfl Tf.a37 rfl hB1 rfl<|aO rfl U37 rfl hh0 rfl rfl trivial<|Zac rfl<|L.n1<|aE rfl (fun hc2=>?_) (fun hc2=>?_)
  ·have hk:k<(a0.chairs).length:=by omega
   obtain⟨a,ha⟩:=C.ge (a0.chairs) k;obtain⟨b,hb⟩:=C.ge (b0.chairs) k;refine C.kn<|aK<|Zai<|aK<|C.drawA [] 4 11 996 (fun _ _ _ h=>bP (P:=Tryz.prog) (fn:=Tryz.f36) _ _ _ h)<|Zj rfl Tf.f40_0 rfl<|Zc 0 rfl Tf.a37 rfl hB1 rfl<|Za rfl<|Zp rfl U37 Tf.s103 rfl hh0 rfl ha (fun b1 o1 cs1 hr1 hcl1 hA1=>?_);have e1:cs1=_:=hr1;subst e1;refine Zq rfl Tf.a103 rfl hA1 Tf.s103<|Zj rfl Tf.f40_0 rfl<|Zc 0 rfl Tf.a37 rfl hB2 rfl<|Za rfl<|Zp rfl U37 Tf.s103 rfl gh0 rfl hb (fun b2 o2 cs2 hr2 hcl2 hA2=>?_);have e2:cs2=_:=hr2;subst e2;refine Zq rfl Tf.a103 rfl hA2 Tf.s103<|xK (l:=[a.size,a.parts.a,a.parts.b,a.parts.c]) (m:=[b.size,b.parts.a,b.parts.b,b.parts.c]) rfl aHX rfl rfl rfl rfl rfl trivial<|L.n1<|aI rfl (fun hc3=>?_) (fun hc3=>?_)
   ·refine C.s1<|Zi rfl<|L.n5<|Zal<|Zah<|Zah<|Zal<|Zah ?_;exact leave1 rfl rfl rfl rfl (fun D hD=>aMQ Value.bool (aPN (fun e=>absurd (oY ha hb (e.2.1)) (Z7 (f:=aJJ) hc3))).symm)
   ·refine bB<|Zak<|Zag<|C.rg<|Za rfl<|Zw rfl<|Zi rfl<|Zaa ?_;exact aG 20 (k+1) ⟨by omega,kY ha hb h2 (MT (Y2 hc3))⟩ Yd ⟨Ya,cW⟩ rfl rfl (LT _) (aD)
  ·have h5:a0.chairs=b0.chairs:=rT hl5 Yd h2;refine aP<|Zaj<|Zaj<|Zam<|Zag<|C.s2<|Zi rfl<|L.n1<|Zai<|bT (γ:=Nat) (fun k=>(a0.claims).length-k) (fun k=>k≤(a0.claims).length∧(a0.claims).take k=(b0.claims).take k) (fun k=>[(6,.int .i64 (k:Int))]) [(4,_),(3,_),(2,_)] (fun k=>[E2,E1,D]) 0 Ye ⟨Ya,cW⟩ C.rs (aD) ?_;rintro k ⟨h1,h2⟩;refine C.s2<|Za rfl<|Zj rfl Tf.f40_2 rfl<|Zc 2 rfl Tf.a38 rfl hB1 rfl<|aO rfl U38 rfl hm0 rfl rfl trivial<|Zac rfl<|L.n1<|aE rfl (fun hc4=>?_) (fun hc4=>?_)
   ·have hk:k<(a0.claims).length:=by omega
    obtain⟨a,ha⟩:=C.ge (a0.claims) k;obtain⟨b,hb⟩:=C.ge (b0.claims) k;refine C.kn<|aK<|Zai<|aK<|C.drawA [] 4 11 996 (fun _ _ _ h=>bP (P:=Tryz.prog) (fn:=Tryz.f36) _ _ _ h)<|Zj rfl Tf.f40_2 rfl<|Zc 2 rfl Tf.a38 rfl hB1 rfl<|Za rfl<|Zp rfl U38 Tf.s133 rfl hm0 rfl ha (fun b3 o3 cs3 hr3 hcl3 hA3=>?_);have e3:cs3=_:=hr3;subst e3;refine Zq rfl Tf.a133 rfl hA3 Tf.s133<|Zj rfl Tf.f40_2 rfl<|Zc 2 rfl Tf.a38 rfl hB2 rfl<|Za rfl<|Zp rfl U38 Tf.s133 rfl gm0 rfl hb (fun b4 o4 cs4 hr4 hcl4 hA4=>?_);have e4:cs4=_:=hr4;subst e4;refine Zq rfl Tf.a133 rfl hA4 Tf.s133<|xK (l:=[a.1,a.2]) (m:=[b.1,b.2]) rfl aHH rfl rfl rfl rfl rfl trivial<|L.n1<|aI rfl (fun hc5=>?_) (fun hc5=>?_)
    ·refine C.s1<|Zi rfl<|L.n5<|Zal<|Zah<|Zah<|Zal<|Zah ?_;exact leave1 rfl rfl rfl rfl (fun D hD=>aMQ Value.bool (aPN (fun e=>absurd (oY ha hb (e.2.2)) (Z7 (f:=aJS) hc5))).symm)
    ·refine bB<|Zak<|Zag<|C.rg<|Za rfl<|Zw rfl<|Zi rfl<|Zaa ?_;exact aG 20 (k+1) ⟨by omega,kY ha hb h2 (LF (Y2 hc5))⟩ Yd ⟨Ya,cW⟩ rfl rfl (LT _) (aD)
   ·have h6:a0.claims=b0.claims:=rT hl6 Yd h2;refine aP<|Zaj<|Zaj<|Zam<|Zag<|C.s1<|Zi rfl<|L.n5 ?_;exact leave1 rfl rfl rfl rfl (fun D hD=>aMQ Value.bool (decide_eq_true (⟨hw,h5,h6⟩)).symm)
theorem RH(av bv:Value)(a0 b0:aH)(D:aA)(hx:fV D av a0)(hy:fV D bv b0):Fn Tryz.prog 12 #[av,bv] D (fun _ v=>v=.bool (p7 a0 b0)):=by
 obtain⟨pv,cv,hv,lv,mv,bl,bc,yc,yq,rfl,hL⟩:=hx;obtain⟨pv2,cv2,hv2,lv2,mv2,bl2,bc2,yc2,yq2,rfl,hM⟩:=hy;unfold bX;refine enter 31 Tryz.func12 rfl rfl rfl rfl fun h0=>C.s1<|Zt rfl (fun q1 E1 hE1 hB1=>Zt rfl (fun q2 E2 hE2 hB2=>Zi rfl<|L.n3<|Zj rfl Tf.f42_0 rfl<|cR rfl (k:=0) Tf.a28 Tf.s28 rfl hB1 Yc rfl rfl GT rfl trivial<|Zj rfl Tf.f42_0 rfl<|cR rfl (k:=0) Tf.a28 Tf.s28 rfl hB2 Yc rfl rfl GT rfl trivial<|Ze rfl (fun D1 hD1=>PZ _ _ a0.row b0.row _ (hL.row.up (hD1 _ Ye)) (hM.row.up (hD1 _ Ye)))<|Za rfl ?_))
 refine' L.anK 6 (s:=10) (p:=16) rfl (fun hg1=>?_) (fun hg1=>?_) ?_;rotate_left
 ·refine Zk rfl Tf.f42_1 rfl<|cR rfl (k:=4) Tf.a32 Tf.s32 rfl hB1 Yc rfl rfl GT rfl ⟨_,rfl,rfl⟩<|Zk rfl Tf.f42_1 rfl<|cR rfl (k:=4) Tf.a32 Tf.s32 rfl hB2 Yc rfl rfl GT rfl ⟨_,rfl,rfl⟩<|Zf rfl (fun D2 hD2=>AW _ _ a0.table b0.table _ (hL.table.up (hD2 _ Ye)) (hM.table.up (hD2 _ Ye)))<|Zy rfl ?_;exact L.cu 5
 ·refine Zh rfl<|Zh rfl<|Zh rfl<|Zh rfl<|Zh rfl<|Zz rfl ?_;exact L.cu 5
 refine Za rfl ?_;refine' L.anK 6 (s:=17) (p:=23) rfl (fun hg2=>?_) (fun hg2=>?_) ?_;rotate_left
 ·refine Zk rfl Tf.f42_2 rfl<|cR rfl (k:=9) Tf.a36 Tf.s36 rfl hB1 Yc rfl rfl GT rfl ⟨_,rfl,rfl⟩<|Zk rfl Tf.f42_2 rfl<|cR rfl (k:=9) Tf.a36 Tf.s36 rfl hB2 Yc rfl rfl GT rfl ⟨_,rfl,rfl⟩<|Zf rfl (fun D3 hD3=>HU _ _ a0.book b0.book _ (hL.book.up (hD3 _ Ye)) (hM.book.up (hD3 _ Ye)))<|Zy rfl ?_;exact L.cu 5
 ·refine Zh rfl<|Zh rfl<|Zh rfl<|Zh rfl<|Zh rfl<|Zz rfl ?_;exact L.cu 5
 refine Za rfl ?_;refine' L.anK 6 (s:=24) (p:=30) rfl (fun hg3=>?_) (fun hg3=>?_) ?_;rotate_left
 ·refine Zk rfl Tf.f42_3 rfl<|cR rfl (k:=14) Tf.a40 Tf.s40 rfl hB1 Yc rfl rfl GT rfl ⟨_,rfl,rfl⟩<|Zk rfl Tf.f42_3 rfl<|cR rfl (k:=14) Tf.a40 Tf.s40 rfl hB2 Yc rfl rfl GT rfl ⟨_,rfl,rfl⟩<|Zf rfl (fun D4 hD4=>HN _ _ a0.yard b0.yard _ (hL.yard.up (hD4 _ Ye)) (hM.yard.up (hD4 _ Ye)))<|Zy rfl ?_;exact L.cu 5
 ·refine Zh rfl<|Zh rfl<|Zh rfl<|Zh rfl<|Zh rfl<|Zz rfl ?_;exact L.cu 5
 refine Zi rfl<|L.n5 ?_;exact leave1 rfl rfl rfl rfl (fun D hD=>rfl)
end L12
end Go.Fs
namespace Go.Fs
open Go.Proofs
namespace L12
open C12
theorem A2(ls:List ByteArray):(dD ls).2.length=ls.length:=by
 have key:∀(ls:List ByteArray) (p:aH×List Int),(ls.foldl (fun p l=>((mT p.1 l).1,p.2++[(mT p.1 l).2])) p).2.length=p.2.length+ls.length:=by
  intro ls;induction ls with
  |nil=>intro p;simp
  |cons l ls ih=>intro p;rw[aOI,ih];simp;omega
 have:=key ls (nB,[]);simpa [dD]using this
def jB(s:aH)(ls:List ByteArray):aH:=ls.foldl (fun s l=>(mT s l).1) s
def xJ(s:aH):List ByteArray→List Int
 | []=>[]
 |l::ls=>(mT s l).2::xJ (mT s l).1 ls
theorem RG(s:aH)(l:ByteArray)(ls:List ByteArray):jB s (l::ls)=jB (mT s l).1 ls:=rfl
theorem aAQ(s:aH)(ls ms:List ByteArray):jB s (ls++ms)=jB (jB s ls) ms:=by simp[jB,aOA]
theorem BE(ms:List ByteArray):∀(ls:List ByteArray) (s:aH),xJ s (ls++ms)=xJ s ls++xJ (jB s ls) ms
 | [],_=>rfl
 |l::ls,s=>by
  show(mT s l).2::xJ (mT s l).1 (ls++ms)=(mT s l).2::(xJ (mT s l).1 ls++xJ (jB (mT s l).1 ls) ms);rw[BE ms ls]
theorem c8(ls:List ByteArray):dD ls=(jB nB ls,xJ nB ls):=by
 have key:∀(ls:List ByteArray) (s:aH) (es:List Int),ls.foldl (fun p l=>((mT p.1 l).1,p.2++[(mT p.1 l).2])) (s,es)=(jB s ls,es++xJ s ls):=by
  intro ls;induction ls with
  |nil=>intro s es;simp[jB,xJ]
  |cons l ls ih=>intro s es;rw[aOI,ih];simp[RG,xJ]
 have:=key ls nB [];simpa [dD]using this
theorem DT{ls:List ByteArray}(h1:ls.length≤40)(h2:∀x∈ls,x.size≤50):dI ls=0:=f8 h1 h2
end L12
end Go.Fs
namespace Go.Fs
open Go.Proofs
namespace L12
open C12
theorem W5(ls ms:List ByteArray):dD (ls++ms)=(jB (dD ls).1 ms,(dD ls).2++xJ (dD ls).1 ms):=by
 rw[c8,c8,aAQ,BE]
def oS(k:Int)(f:eR):Prop:=∀s n s',f s n=.ok s'→(k=1∨s'.row=s.row)∧(k=2∨s'.table=s.table)∧(k=3∨s'.book=s.book)∧(k=4∨s'.yard=s.yard)
theorem CF:oS 1 (uJ):=by
 intro s n s' e;unfold uJ at e;repeat' split at e
 all_goals cases e
 all_goals exact⟨.inl rfl,.inr rfl,.inr rfl,.inr rfl⟩
theorem IL:oS 1 (uG):=by
 intro s n s' e;unfold uG at e;repeat' split at e
 all_goals cases e
 all_goals exact⟨.inl rfl,.inr rfl,.inr rfl,.inr rfl⟩
theorem G5(b:Bool):oS 1 (lN b):=by
 intro s n s' e;unfold lN at e;repeat' split at e
 all_goals cases e
 all_goals exact⟨.inl rfl,.inr rfl,.inr rfl,.inr rfl⟩
theorem T8:oS 1 (mR):=by
 intro s n s' e;unfold mR at e;repeat' split at e
 all_goals cases e
 all_goals exact⟨.inl rfl,.inr rfl,.inr rfl,.inr rfl⟩
theorem EU:oS 1 (pY):=by
 intro s n s' e;unfold pY at e;repeat' split at e
 all_goals cases e
 all_goals exact⟨.inl rfl,.inr rfl,.inr rfl,.inr rfl⟩
theorem PQ:oS 1 (U6):=by
 intro s n s' e;unfold U6 at e;repeat' split at e
 all_goals cases e
 all_goals exact⟨.inl rfl,.inr rfl,.inr rfl,.inr rfl⟩
theorem H2(b:Int):oS 3 (lF b):=by
 intro s n s' e;unfold lF at e;repeat' split at e
 all_goals cases e
 all_goals exact⟨.inr rfl,.inr rfl,.inl rfl,.inr rfl⟩
theorem m1:oS 3 (nO):=by
 intro s n s' e;unfold nO at e;repeat' split at e
 all_goals cases e
 all_goals exact⟨.inr rfl,.inr rfl,.inl rfl,.inr rfl⟩
theorem x5:oS 3 (pM):=by
 intro s n s' e;unfold pM at e;repeat' split at e
 all_goals cases e
 all_goals exact⟨.inr rfl,.inr rfl,.inl rfl,.inr rfl⟩
theorem AA:oS 4 (nP):=by
 intro s n s' e;unfold nP at e;repeat' split at e
 all_goals cases e
 all_goals exact⟨.inr rfl,.inr rfl,.inr rfl,.inl rfl⟩
theorem GY:oS 4 (sX):=by
 intro s n s' e;unfold sX at e;repeat' split at e
 all_goals cases e
 all_goals exact⟨.inr rfl,.inr rfl,.inr rfl,.inl rfl⟩
theorem NO:oS 4 (U7):=by
 intro s n s' e;unfold U7 at e;repeat' split at e
 all_goals cases e
 all_goals exact⟨.inr rfl,.inr rfl,.inr rfl,.inl rfl⟩
theorem EH:oS 4 (rS):=by
 intro s n s' e;unfold rS at e;repeat' split at e
 all_goals cases e
 all_goals exact⟨.inr rfl,.inr rfl,.inr rfl,.inl rfl⟩
theorem T6:oS 4 (mK):=by
 intro s n s' e;unfold mK at e;repeat' split at e
 all_goals cases e
 all_goals exact⟨.inr rfl,.inr rfl,.inr rfl,.inl rfl⟩
theorem HG(sv:Value)(xs:List ByteArray)(D:aA)(hS:Sl D RS 1 sv xs)(hl:xs.length≤10000000):DH Tryz.prog 10 #[sv] D (fun _ v ν=>bM 9 1 v xs.length (xs.map Value.string) ν):=by
 refine lZ 6 Tryz.func10 rfl rfl rfl rfl fun h0=>C.s1<|Zi rfl<|L.n3<|Zn rfl U22 Tf.s9 Tf.z9 rfl rfl rfl rfl .nil (fun b901 D901 hD901 hA901=>Za rfl<|aV (A:=[]) (ν:=[]) (B:=[]) rfl U22 rfl rfl Tf.s9 Tf.z9 rfl Tf.i9 rfl rfl rfl bM.nil (jM.strs hS) Ye Yal rfl (A3 _) Yd (aMR rfl) rfl cW (fun v1 ν1 ha1=>Zi rfl<|L.n5 ?_))
 have ha2:bM 9 1 v1 xs.length (xs.map Value.string) ν1:=by simpa using ha1
 exact leave1 rfl rfl rfl rfl (fun D' hD=>by simpa [nE]using ha2)
end L12
end Go.Fs
namespace Go.Fs
open Go.Proofs
namespace L12
open C12 Go.Lib
theorem aFV{D:aA}{b:Nat}{x:UInt8}{v:Value}(hA:At D b 0 ([v]++[]))(hv:v=.int .u8 (x.toNat:Int)):Sl D RU 1 (.slice (some ⟨b,0,none⟩) 1 1) [x]:=by
 refine⟨_,_,rfl,aMS _,by simp,aMD ⟨b,0,rfl,fun i y hi=>⟨_,rfl,rfl,fun j u hj=>?_⟩⟩⟩;obtain rfl:i=0:=by have:=(aMH.1 hi).1;simpa using this
 obtain rfl:x=y:=by simpa using hi
 cases j with
 |zero=>
  obtain rfl:Value.int .u8 x.toNat=u:=by simpa using hj
  have:=hA 0 v rfl;rw[hv]at this;simpa using this
 |succ j=>simp at hj
theorem LO{n:Int}(h0:0≤n)(h1:n≤9):Value.int .u8 (48+n)=.int .u8 ((UInt8.ofNat (48+n.toNat)).toNat:Int):=by
 rw[UInt8.toNat_ofNat'];congr 1;omega
theorem GH{n:Int}(h0:0≤n)(h1:n≤9):uZ (itoa n)=⟨#[UInt8.ofNat (48+n.toNat)]⟩:=by
 obtain⟨m,rfl⟩:=Int.eq_ofNat_of_zero_le h0;have key:((List.range 10).all fun m=>itoa (m:Int)== [UInt8.ofNat (48+m)])=true:=by decide+kernel
 have:=aMU.1 key m (aPF.2 Yd);rw[eq_of_beq this];rfl
theorem qN{n:Int}(h0:0≤n)(h1:n≤9):(uZ (itoa n)).size=1:=by rw[GH h0 h1];rfl
theorem YU{n:Int}(h0:10≤n)(h1:n≤99):uZ (itoa n)=uZ (itoa (n / 10))++uZ (itoa (n%10)):=by
 obtain⟨m,rfl⟩:=Int.eq_ofNat_of_zero_le (show 0≤n by omega);have key:((List.range 100).all fun m=>decide (m<10)||itoa (m:Int)==itoa ((m:Int) / 10)++itoa ((m:Int)%10))=true:=by decide+kernel
 have:=aMU.1 key m (aPF.2 Yd);rw[aNR]at this;rcases this with h|h
 ·have:=aNK h;omega
 ·rw[eq_of_beq h];apply Go.WideShapes.bytes_inj;simp[uZ]
theorem FA(n:Int)(hn0:0≤n)(hn1:n≤9)(D:aA):Fn Tryz.prog 64 #[.int .i64 n] D (fun _ v=>v=.string (uZ (itoa n))):=by
 refine enter 19 Tryz.func64 rfl rfl rfl rfl fun h0=>C.s1<|Zi rfl<|L.n4<|Za rfl<|Zac rfl<|L.n1<|aE rfl (fun hc1=>?_) (fun hc1=>?_)
 ·omega
 ·refine C.kn<|C.s2<|Za rfl<|Zac rfl<|L.n1<|aE rfl (fun hc2=>?_) (fun hc2=>?_)
  ·refine C.s1<|Za rfl<|Zw rfl<|vF rfl U3 U5 rfl Yf rfl trivial<|Zn rfl U51 Tf.s5 Tf.z5 rfl rfl rfl rfl (.cons rfl rfl .nil) (fun b901 D901 hD901 hA901=>?_)
   skip
   refine sH (l:=[UInt8.ofNat (48+n.toNat)]) rfl U51 U5 U9 rfl (aFV hA901 (LO hn0 hn1)) Ye (fun _ _ _ _ _=>GT) rfl trivial<|Zi rfl<|L.n5<|Zah ?_;exact leave1 rfl rfl rfl rfl (fun D hD=>by show Value.string _=_;rw[GH hn0 hn1])
  ·omega
theorem aBC(n:Int)(hn0:0≤n)(hn1:n≤99)(D:aA):Fn Tryz.prog 64 #[.int .i64 n] D (fun _ v=>v=.string (uZ (itoa n))):=by
 refine enter 19 Tryz.func64 rfl rfl rfl rfl fun h0=>C.s1<|Zi rfl<|L.n4<|Za rfl<|Zac rfl<|L.n1<|aE rfl (fun hc1=>?_) (fun hc1=>?_)
 ·omega
 ·refine C.kn<|C.s2<|Za rfl<|Zac rfl<|L.n1<|aE rfl (fun hc2=>?_) (fun hc2=>?_)
  ·replace hn1:n≤9:=by omega
   refine C.s1<|Za rfl<|Zw rfl<|vF rfl U3 U5 rfl Yf rfl trivial<|Zn rfl U51 Tf.s5 Tf.z5 rfl rfl rfl rfl (.cons rfl rfl .nil) (fun b901 D901 hD901 hA901=>?_)
   skip
   refine sH (l:=[UInt8.ofNat (48+n.toNat)]) rfl U51 U5 U9 rfl (aFV hA901 (LO hn0 hn1)) Ye (fun _ _ _ _ _=>GT) rfl trivial<|Zi rfl<|L.n5<|Zah ?_;exact leave1 rfl rfl rfl rfl (fun D hD=>by show Value.string _=_;rw[GH hn0 hn1])
  ·have z1:=qN (n:=n / 10) Yd Yd;have z2:=qN (n:=n%10) Yd Yd;refine C.kn<|C.s1<|Za rfl<|DU rfl rfl rfl Yd Yd Yf rfl trivial<|Ze rfl (fun D1 hD1=>FA (n / 10) Yd Yd _)<|Za rfl<|wE rfl rfl rfl Yd Yd Yf rfl trivial<|Ze rfl (fun D2 hD2=>FA (n%10) Yd Yd _)<|iJ rfl rfl rfl Yd rfl trivial<|Zi rfl<|L.n5 ?_;exact leave1 rfl rfl rfl rfl (fun D hD=>by show Value.string _=_;rw[YU Yd hn1])
end L12
end Go.Fs
namespace Go.Fs
open Go.Proofs
namespace L12
open C12 Go.Lib
def gJ(w:ByteArray)(ns:List Int):ByteArray:=ns.foldl (fun s n=>s++(⟨#[32]⟩++uZ (itoa n))) w
theorem RF{w:ByteArray}{ns:List Int}{k:Nat}{x:Int}(h:ns[k]?= some x):gJ w (ns.take k)++(⟨#[32]⟩++uZ (itoa x))=gJ w (ns.take (k+1)):=by
 unfold gJ;rw[aMN,h,aOA];rfl
theorem j5{n:Int}(h0:0≤n)(h1:n≤99):(uZ (itoa n)).size≤2:=by
 by_cases h:n≤9
 ·rw[qN h0 h];omega
 ·rw[YU Yd h1,aPP,qN Yd Yd,qN Yd Yd];omega
end L12
end Go.Fs
namespace Go.Fs
open Go.Proofs
namespace L12
open C12 Go.Lib
theorem c7:∀{p:List UInt8} (l:List UInt8),(32:UInt8)∉p→jK (p++32::l)=p::jK l
 | [],l,_=>by simp[jK]
 |b::p,l,h=>by
  simp only[aLX,not_or]at h;rw[aOG,jK,aMM (fun e=>h.1 e.symm),c7 l h.2]
theorem HK(w:ByteArray):∀ns:List Int,(gJ w ns).data.toList=w.data.toList++ns.flatMap fun n=>32::itoa n:=by
 intro ns;induction ns generalizing w with
 |nil=>simp[gJ]
 |cons n ns ih=>
  show(gJ (w++(⟨#[32]⟩++uZ (itoa n))) ns).data.toList=_;rw[ih];simp[uZ]
theorem Z4:∀(ns:List Int) (p:List UInt8),(32:UInt8)∉p→(∀n∈ns,(32:UInt8)∉itoa n)→jK (p++ns.flatMap fun n=>32::itoa n)=p::ns.map itoa
 | [],p,hp,_=>by simp[qO hp]
 |n::ns,p,hp,h=>by
  rw[aNQ,aOG,c7 _ hp,Z4 ns (itoa n) (h n Ye) fun m hm=>h m (by simp[hm])];rfl
theorem JP:((List.range 100).all fun m=>kX (itoa (m:Int))==some (m:Int)&& !(itoa (m:Int)).contains 32)=true:=by decide+kernel
theorem DV{n:Int}(h0:0≤n)(h1:n≤99):kX (itoa n)=some n∧(32:UInt8)∉itoa n:=by
 obtain⟨m,rfl⟩:=Int.eq_ofNat_of_zero_le h0;have:=aMU.1 JP m (aPF.2 Yd);rw[aMC]at this;exact⟨eq_of_beq this.1,fun hm=>by simp[hm]at this⟩
theorem Z2:∀{ns:List Int},(∀n∈ns,0≤n∧n≤99)→(ns.map itoa).mapM kX=some ns
 | [],_=>rfl
 |n::ns,h=>by
  obtain⟨h0,h1⟩:=h n Ye;rw[aMZ,aPL,(DV h0 h1).1,Z2 (ns:=ns) fun m hm=>h m (by simp[hm])];rfl
theorem GD{w:ByteArray}{ns:List Int}{act:eR}(hw:(32:UInt8)∉w.data.toList)(hr:∀n∈ns,0≤n∧n≤99)(hf:fM.find? (fun x=>x.1==w.data.toList)=some (w.data.toList,ns.length,act)):gV (gJ w ns)=some (act,ns):=by
 unfold gV;rw[HK,Z4 ns _ hw fun n hn=>(DV (hr n hn).1 (hr n hn).2).2];simp only[hf,aOL,aOJ];rw[Z2 hr];rfl
end L12
end Go.Fs
namespace Go.Fs
open Go.Proofs
namespace L12
open C12 Go.Lib
section
variable{s:aH}{x p:ByteArray}{ps:List ByteArray}(h:dC x=p::ps)
include h
end
end L12
end Go.Fs
namespace Go.Fs
open Go.Proofs
namespace L12
open C12 Go.Lib
def iX(s:aH):Prop:=∀r∈s.table.heights,r.2≤r.1+2
theorem RV:iX nB:=by
 intro r hr;simp only[nB,aLX,GT,aNU,or_self]at hr;rw[hr];decide
theorem fQ{k:Int}{f:eR}(h:oS k f)(hk:¬k=2){s s':aH}{n:List Int}(hs:iX s)(e:f s n=.ok s'):iX s':=by
 have h2:=(h s n s' e).2.1.resolve_left hk;unfold iX;rw[h2];exact hs
theorem NS{s s':aH}{n:List Int}(hs:iX s)(e:tR s n=.ok s'):iX s':=by
 unfold tR at e;repeat' split at e
 all_goals cases e
 intro r hr;rcases aRE hr with h|rfl
 ·exact hs r h
 ·simp only;omega
theorem SR{s s':aH}{n:List Int}(hs:iX s)(e:wH s n=.ok s'):iX s':=by
 unfold wH at e;repeat' split at e
 all_goals cases e
 all_goals exact hs
theorem IM{s s':aH}{n:List Int}(hs:iX s)(e:sM s n=.ok s'):iX s':=by
 unfold sM at e;repeat' split at e
 all_goals cases e
 all_goals exact hs
theorem II{s s':aH}{n:List Int}(hs:iX s)(e:oV s n=.ok s'):iX s':=by
 unfold oV at e;repeat' split at e
 all_goals cases e
 all_goals exact hs
theorem NR{s s':aH}{n:List Int}(hs:iX s)(e:uC s n=.ok s'):iX s':=by
 unfold uC at e;repeat' split at e
 all_goals cases e
 all_goals exact hs
theorem DB{s s':aH}{n:List Int}(hs:iX s)(e:pI s n=.ok s'):iX s':=by
 unfold pI at e;repeat' split at e
 all_goals cases e
 all_goals exact hs
theorem QI:∀x∈fM,∀(s:aH) (n:List Int) (s':aH),iX s→x.2.2 s n=.ok s'→iX s':=by
 intro x hx s n s' hs e;simp only[fM,aLX,GT,aNU]at hx;rcases hx with rfl|rfl|rfl|rfl|rfl|rfl|rfl|rfl|rfl|rfl|rfl|rfl|rfl|rfl|rfl|rfl|rfl|rfl|rfl|rfl|rfl|rfl
 ·exact fQ CF Yu (n:=n) hs e
 ·exact fQ IL Yu (n:=n) hs e
 ·exact fQ (G5 false) Yu (n:=n) hs e
 ·exact fQ (G5 true) Yu (n:=n) hs e
 ·exact fQ T8 Yu (n:=n) hs e
 ·exact fQ EU Yu (n:=n) hs e
 ·exact fQ PQ Yu (n:=n) hs e
 ·exact NS hs e
 ·exact SR hs e
 ·exact IM hs e
 ·exact II hs e
 ·exact NR hs e
 ·exact DB hs e
 ·exact fQ (H2 1) Yu (n:=n) hs e
 ·exact fQ (H2 2) Yu (n:=n) hs e
 ·exact fQ m1 Yu (n:=n) hs e
 ·exact fQ x5 Yu (n:=n) hs e
 ·exact fQ AA Yu (n:=n) hs e
 ·exact fQ GY Yu (n:=n) hs e
 ·exact fQ NO Yu (n:=n) hs e
 ·exact fQ EH Yu (n:=n) hs e
 ·exact fQ T6 Yu (n:=n) hs e
theorem IG{line:ByteArray}{act:eR}{n:List Int}(h:gV line=some (act,n)):∃x∈fM,x.2.2=act:=by
 obtain⟨p,ps,hc⟩:=rW line;rw[vQ hc]at h;split at h
 ·cases h
 ·rename_i hf;split at h
  ·cases hm:ps.mapM pA with
   |none=>rw[hm]at h;cases h
   |some m=>rw[hm]at h;cases h;exact⟨_,List.mem_of_find?_eq_some hf,rfl⟩
  ·cases h
theorem aIX(s:aH)(line:ByteArray)(h:iX s):iX (mT s line).1:=by
 unfold mT;cases hp:gV line with
 |none=>exact h
 |some a=>
  obtain⟨act,n⟩:=a;simp only[];cases ha:act s n with
  |error c=>exact h
  |ok s'=>
   simp only[];split
   ·obtain⟨x,hx,rfl⟩:=IG hp;exact QI x hx s n s' h ha
   ·exact h
theorem i6(ls:List ByteArray):iX (dD ls).1:=Q4 (I:=iX) aIX RV ls
theorem TX:fM.find? (fun x=>x.1==(⟨#[119,114,111,110,103]⟩:ByteArray).data.toList)=some ([119,114,111,110,103],1,pY):=rfl
theorem aGN:fM.find? (fun x=>x.1==(⟨#[111,102,102]⟩:ByteArray).data.toList)=some ([111,102,102],1,U6):=rfl
theorem aBL:fM.find? (fun x=>x.1==(⟨#[115,116,101,112]⟩:ByteArray).data.toList)=some ([115,116,101,112],1,wH):=rfl
theorem aGY:fM.find? (fun x=>x.1==(⟨#[102,105,116]⟩:ByteArray).data.toList)=some ([102,105,116],1,U7):=rfl
theorem aDU:fM.find? (fun x=>x.1==(⟨#[115,101,101,110]⟩:ByteArray).data.toList)=some ([115,101,101,110],2,uG):=rfl
theorem aFM:fM.find? (fun x=>x.1==(⟨#[116,105,100,101]⟩:ByteArray).data.toList)=some ([116,105,100,101],3,tR):=rfl
theorem aAJ:fM.find? (fun x=>x.1==(⟨#[114,97,105,115,101]⟩:ByteArray).data.toList)=some ([114,97,105,115,101],2,oV):=rfl
theorem aCJ:fM.find? (fun x=>x.1==(⟨#[112,97,114,116]⟩:ByteArray).data.toList)=some ([112,97,114,116],3,sX):=rfl
theorem xU{α:Type}{l:List α}{i:Nat}{a:α}(h:l[i]?= some a):l.set i a=l:=by
 obtain⟨hi,rfl⟩:=aMH.1 h;exact List.set_getElem_self hi
theorem oC{α:Type}{l:List α}{i:Nat}(a:α)(h:i<l.length):l[i]?= some (l.getD i a):=by
 rw[aOB,LE h];rfl
def oU(p:C7.Pt)(i:Nat):Int:=if i=0 then p.a else if i=1 then p.b else p.c
theorem aCY(p:C7.Pt)(i:Nat):g9 p i (oU p i)=p:=by
 unfold g9 oU;by_cases h0:i=0
 ·rw[aMT h0,aMT h0]
 ·by_cases h1:i=1
  ·rw[aMM h0,aMT h1,aMM h0,aMT h1]
  ·rw[aMM h0,aMM h1,aMM h0,aMM h1]
theorem B3(p:C7.Pt)(i:Nat):oU p i∈p.l:=by
 unfold oU C7.Pt.l;split
 ·simp
 ·split<;>simp
def PO(s:aH)(k:Nat):List ByteArray:=if 0<s.row.places.length then [gJ ⟨#[115,101,101,110]⟩ [((k%s.row.places.length:Nat):Int),s.row.places.getD (k%s.row.places.length) 0]]else []
def TL(s:aH)(k:Nat):List ByteArray:=if 0<s.table.heights.length then [gJ ⟨#[116,105,100,101]⟩ [((k%s.table.heights.length:Nat):Int),(s.table.heights.getD (k%s.table.heights.length) (0,0)).1,(s.table.heights.getD (k%s.table.heights.length) (0,0)).2]]else []
def aAV(s:aH)(k:Nat):List ByteArray:=if 0<s.table.levels.length then [gJ ⟨#[114,97,105,115,101]⟩ [((k%s.table.levels.length:Nat):Int),s.table.levels.getD (k%s.table.levels.length) 0]]else []
def aJV(s:aH)(k:Nat):Int:=oU ((s.yard.chairs[k%s.yard.chairs.length]?).getD ⟨0,⟨0,0,0⟩⟩).parts (k / 8%3)
def aFU(s:aH)(k:Nat):List ByteArray:=if 0<s.yard.chairs.length∧aJV s k≠2 then [gJ ⟨#[112,97,114,116]⟩ [((k%s.yard.chairs.length:Nat):Int),((k / 8%3:Nat):Int),aJV s k]]else []
def eB(s:aH)(k:Nat):List ByteArray:=[gJ ⟨#[119,114,111,110,103]⟩ [s.row.wrong],gJ ⟨#[111,102,102]⟩ [s.row.off],gJ ⟨#[115,116,101,112]⟩ [s.table.step],gJ ⟨#[102,105,116]⟩ [s.yard.fit]]++PO s k++TL s k++aAV s k++aFU s k
structure UA(s:aH):Prop where
 row:C1.oO s.row
 tab:C2.z8 s.table
 yard:L7.aKS s.yard
 hts:iX s
theorem NF{s:aH}(h:dJ s=0)(hh:iX s):UA s:=by
 obtain⟨h1,h2,h3,h4,h5,h6⟩:=EB h;refine⟨C1.zS.1 ?_,C2.A1 h2,L7.aLF h5,hh⟩;unfold C1.dE at h1;split at h1
 ·exact h1
 ·rename_i hf;simpa using hf
section
variable{s:aH}(h:UA s)
include h
theorem HD:pY s [s.row.wrong]=.ok s:=by
 have:=h.row.wrong;show(if 6<s.row.wrong then _ else _)=_;rw[aMM Yd];rfl
theorem ZW:U6 s [s.row.off]=.ok s:=by
 have:=h.row.off;show(if 9<s.row.off then _ else _)=_;rw[aMM Yd];rfl
theorem RA:wH s [s.table.step]=.ok s:=by
 have:=h.tab.step;show(if 99<s.table.step then _ else _)=_;rw[aMM Yd];rfl
theorem YJ:U7 s [s.yard.fit]=.ok s:=by
 have:=h.yard.fit;show(if 9<s.yard.fit then _ else _)=_;rw[aMM Yd];rfl
theorem NK{i:Nat}(hi:i<s.row.places.length):uG s [(i:Int),s.row.places.getD i 0]=.ok s:=by
 have hg:=oC 0 hi;have hp:=h.row.place _ (aLW hg);show(if(s.row.places.length:Int)≤(i:Int)then _ else if 2<s.row.places.getD i 0 then _ else _)=_;rw[aMM Yd,aMM Yd,aNO,xU hg];rfl
theorem OC{i:Nat}(hi:i<s.table.heights.length):tR s [(i:Int),(s.table.heights.getD i (0,0)).1,(s.table.heights.getD i (0,0)).2]=.ok s:=by
 have hg:=oC (0,0) hi;have hm:=aLW hg;have hp:=h.tab.hts _ hm;have hq:=h.hts _ hm;unfold C2.fO C2.dW at hp;simp only[aMC,aMV,C1.cD]at hp;show(if(s.table.heights.length:Int)≤(i:Int)then _ else if(s.table.heights.getD i (0,0)).2<(s.table.heights.getD i (0,0)).1∨99<(s.table.heights.getD i (0,0)).2∨(s.table.heights.getD i (0,0)).1+2<(s.table.heights.getD i (0,0)).2 then _ else _)=_;rw[aMM Yd,aMM Yd,aNO,xU hg];rfl
theorem IZ{i:Nat}(hi:i<s.table.levels.length):oV s [(i:Int),s.table.levels.getD i 0]=.ok s:=by
 have hg:=oC 0 hi;have hp:=h.tab.levs _ (aLW hg);show(if(s.table.levels.length:Int)≤(i:Int)then _ else if 99<s.table.levels.getD i 0 then _ else _)=_;rw[aMM Yd,aMM Yd,aNO,xU hg];rfl
theorem RX{i j:Nat}(hi:i<s.yard.chairs.length)(hj:j<3):sX s [(i:Int),(j:Int),oU ((s.yard.chairs[i]?).getD ⟨0,⟨0,0,0⟩⟩).parts j]=.ok s:=by
 have hg:s.yard.chairs[i]?= some s.yard.chairs[i]:=LE hi;have hp:=h.yard.part _ (aLW hg) _ (B3 (s.yard.chairs[i]).parts j);rw[hg,aPG];show(match s.yard.chairs[((i:Int)).toNat]? with|none=>_|some x=>if 3≤(j:Int)then _ else if 2<oU (s.yard.chairs[i]).parts j then _ else _)=_;rw[aNO,hg];show(if 3≤(j:Int)then _ else if 2<oU (s.yard.chairs[i]).parts j then _ else _)=_;rw[aMM Yd,aMM Yd,aNO,aCY];show Except.ok (setYard s {s.yard with chairs:=s.yard.chairs.set i s.yard.chairs[i]})=_;rw[xU hg];rfl
theorem M8{k:Nat}(_hk8:k≤255)(hl:jA s):∀y∈eB s k,∃(w:ByteArray) (ns:List Int) (act:eR),y=gJ w ns∧w.size≤10∧ns.length≤3∧(32:UInt8)∉w.data.toList∧(∀n∈ns,0≤n∧n≤99)∧fM.find? (fun x=>x.1==w.data.toList)=some (w.data.toList,ns.length,act)∧act s ns=.ok s:=by
 have r1:=h.row.wrong;have r2:=h.row.off;have r3:=h.tab.step;have r4:=h.yard.fit;have l1:=hl.pl;have l2:=hl.ht;have l3:=hl.lev;have l4:=hl.ch;intro y hy;unfold eB at hy;simp only[aMO,aLX,GT,aNU]at hy;rcases hy with(((((rfl|rfl|rfl|rfl)|hy)|hy)|hy)|hy)
 ·exact⟨_,_,_,rfl,by decide,by simp,by decide,fun n hn=>by obtain rfl:=aML.1 hn;omega,TX,HD h⟩
 ·exact⟨_,_,_,rfl,by decide,by simp,by decide,fun n hn=>by obtain rfl:=aML.1 hn;omega,aGN,ZW h⟩
 ·exact⟨_,_,_,rfl,by decide,by simp,by decide,fun n hn=>by obtain rfl:=aML.1 hn;omega,aBL,RA h⟩
 ·exact⟨_,_,_,rfl,by decide,by simp,by decide,fun n hn=>by obtain rfl:=aML.1 hn;omega,aGY,YJ h⟩
 ·unfold PO at hy;split at hy
  ·rename_i h0;obtain rfl:=aML.1 hy;have hi:=aQG k h0;have hp:=h.row.place _ (aLW (oC 0 hi));exact⟨_,_,_,rfl,by decide,by simp,by decide,fun n hn=>by
    simp only[aLX,GT,aNU]at hn;rcases hn with rfl|rfl
    ·omega
    ·omega,aDU,NK h hi⟩
  ·cases hy
 ·unfold TL at hy;split at hy
  ·rename_i h0;obtain rfl:=aML.1 hy;have hi:=aQG k h0;have hp:=h.tab.hts _ (aLW (oC (0,0) hi));unfold C2.fO C2.dW at hp;simp only[aMC,aMV,C1.cD]at hp;exact⟨_,_,_,rfl,by decide,by simp,by decide,fun n hn=>by
    simp only[aLX,GT,aNU]at hn;rcases hn with rfl|rfl|rfl
    ·omega
    ·omega
    ·omega,aFM,OC h hi⟩
  ·cases hy
 ·unfold aAV at hy;split at hy
  ·rename_i h0;obtain rfl:=aML.1 hy;have hi:=aQG k h0;have hp:=h.tab.levs _ (aLW (oC 0 hi));exact⟨_,_,_,rfl,by decide,by simp,by decide,fun n hn=>by
    simp only[aLX,GT,aNU]at hn;rcases hn with rfl|rfl
    ·omega
    ·omega,aAJ,IZ h hi⟩
  ·cases hy
 ·unfold aFU at hy;split at hy
  ·rename_i h0;obtain rfl:=aML.1 hy;have hi:=aQG k h0.1;have hj:k / 8%3<3:=aQG _ Yu;have hg:s.yard.chairs[k%s.yard.chairs.length]?= some s.yard.chairs[k%s.yard.chairs.length]:=LE hi;have hp:=h.yard.part _ (aLW hg) _ (B3 (s.yard.chairs[k%s.yard.chairs.length]).parts (k / 8%3));have hq:aJV s k=oU (s.yard.chairs[k%s.yard.chairs.length]).parts (k / 8%3):=by unfold aJV;rw[hg,aPG]
   exact⟨_,_,_,rfl,by decide,by simp,by decide,fun n hn=>by
    simp only[aLX,GT,aNU]at hn;rcases hn with rfl|rfl|rfl
    ·omega
    ·omega
    ·rw[hq];omega,aCJ,RX h hi hj⟩
  ·cases hy
theorem HJ(h0:dJ s=0){k:Nat}(hk8:k≤255)(hl:jA s):∀y∈eB s k,mT s y=(s,0):=fun y hy=>by
 obtain⟨w,ns,act,rfl,_,_,hw,hr,hf,ha⟩:=M8 h hk8 hl y hy;exact LA (GD hw hr hf) ha h0
end
theorem SX{ns:List Int}(hr:∀n∈ns,0≤n∧n≤99):∀w:ByteArray,(gJ w ns).size≤w.size+3*ns.length:=by
 induction ns with
 |nil=>intro w;exact aMS _
 |cons n ns ih=>
  intro w;have h1:=ih (fun m hm=>hr m (aLZ _ hm)) (w++(⟨#[32]⟩++uZ (itoa n)));have h2:=j5 (hr n aMF).1 (hr n aMF).2;have h3:(⟨#[32]⟩:ByteArray).size=1:=rfl;rw[aPP,aPP]at h1;rw[aMI];exact aOU h1 Yd
theorem FV{s:aH}(h:UA s){k:Nat}(hk8:k≤255)(hl:jA s):∀y∈eB s k,y.size≤50:=fun y hy=>by
 obtain⟨w,ns,act,rfl,h1,h2,hw,hr,hf,ha⟩:=M8 h hk8 hl y hy;have:=SX hr w;omega
theorem zQ{s:aH}(h:UA s)(hl:jA s)(k:Nat):6≤(eB s k).length∧(eB s k).length≤8:=by
 have h1:=h.row.len0;have h2:=hl.ht;have e1:(PO s k).length=1:=by unfold PO;rw[aMT h1];rfl
 have e2:(TL s k).length=1:=by unfold TL;rw[aMT Yd];rfl
 have e3:(aAV s k).length≤1:=by unfold aAV;split<;>simp
 have e4:(aFU s k).length≤1:=by unfold aFU;split<;>simp
 unfold eB;simp only[aLY,aMI,aNX,e1,e2];omega
theorem AQ{s:aH}:∀{ms:List ByteArray},(∀y∈ms,mT s y=(s,0))→jB s ms=s∧xJ s ms=ms.map fun _=>(0:Int)
 | [],_=>⟨rfl,rfl⟩
 |m::ms,h=>by
  have hm:=h m aMF;obtain⟨h1,h2⟩:=AQ (ms:=ms) fun y hy=>h y (aLZ _ hy)
  constructor
  ·show jB (mT s m).1 ms=s;rw[hm];exact h1
  ·show(mT s m).2::xJ (mT s m).1 ms=_;rw[hm,h2];rfl
theorem DN{ls ms:List ByteArray}(hf:dI ls=0)(h32:ls.length≤32)(h1:ms.length≤8)(h2:∀y∈ms,y.size≤50):dI (ls++ms)=0:=
 DT (by rw[aLY];omega) fun z hz=>by
  rcases aMO.1 hz with h|h
  ·exact xN hf z h
  ·exact h2 z h
theorem FU{ls:List ByteArray}{k:Nat}(hf:dI ls=0)(h32:ls.length≤32)(hk8:k≤255):dI (ls++eB (dD ls).1 k)=0∧(dD (ls++eB (dD ls).1 k)).1=(dD ls).1∧∀i,ls.length≤i→i<ls.length+(eB (dD ls).1 k).length→(dD (ls++eB (dD ls).1 k)).2[i]?= some 0:=by
 have hn:=NF (tZ ls) (i6 ls);have hl:=uM ls;obtain⟨r1,r2⟩:=AQ (HJ hn (tZ ls) hk8 hl);refine⟨DN hf h32 (zQ hn hl k).2 (FV hn hk8 hl),by rw[W5];exact r1,fun i h1 h2=>?_⟩
 rw[W5];show((dD ls).2++xJ (dD ls).1 (eB (dD ls).1 k))[i]?= _;rw[aQL (by rw[A2];exact h1),A2,r2,aNB,LE Yd];rfl
theorem kW(w:ByteArray)(nv:Value)(ns:List Int)(D:aA)(hS:Sl D RI 1 nv ns)(hn:ns.length≤10)(hw:w.size≤10)(hr:∀n∈ns,0≤n∧n≤99):Fn Tryz.prog 32 #[.string w,nv] D (fun _ v=>v=.string (gJ w ns)):=by
 refine enter 21 Tryz.func32 rfl rfl rfl rfl fun h0=>C.s1<|Zi rfl<|L.n4<|Zi rfl<|L.n1<|Zai<|bT (γ:=Nat×ByteArray) (fun g=>ns.length-g.1) (fun g=>g.1≤ns.length∧g.2=gJ w (ns.take g.1)∧g.2.size≤10+3*g.1) (fun g=>[(5,.int .i64 (g.1:Int)),(0,.string g.2)]) [(4,_),(1,_)] (fun g=>[D]) (0,w) ⟨by simp,rfl,by simpa using hw⟩ ⟨Ya,Ya,cW⟩ C.rs (aD) ?_
 rintro⟨k,s⟩ ⟨h1,h2,h3⟩;simp only at h1 h2 h3;refine C.s2<|Za rfl<|Za rfl<|aO rfl U25 rfl hS rfl rfl trivial<|Zac rfl<|L.n1<|aE rfl (fun hc1=>?_) (fun hc1=>?_)
 ·simp only at hc1;have hk:k<ns.length:=by omega
  obtain⟨x,hx⟩:=C.ge ns k;obtain⟨hx0,hx1⟩:=hr x (aLW hx);have z1:=j5 hx0 hx1;have z2:(⟨#[32]⟩:ByteArray).size=1:=rfl;refine C.kn<|aK<|Zai<|C.rg<|Za rfl<|Za rfl<|Za rfl<|Zp rfl U25 Tf.s3 rfl hS rfl hx (fun b1 o1 cs1 hr1 hcl1 hA1=>?_);obtain rfl:cs1=[.int .i64 _]:=hr1;refine Zc 0 rfl Tf.a3 rfl hA1 rfl<|Ze rfl (fun D1 hD1=>aBC x hx0 hx1 _)<|iJ rfl rfl rfl Yd rfl trivial<|iJ rfl rfl rfl (by simp only[aPP];omega) rfl trivial<|Zi rfl<|Zaa<|Zak<|Zag<|C.rg<|Za rfl<|Zw rfl<|Zi rfl ?_;refine Zaa ?_;exact aG 18 (k+1,s++(⟨#[32]⟩++uZ (itoa x))) ⟨by simp only;omega,by simp only;rw[h2,RF hx],by simp only[aPP];omega⟩ Yl ⟨Ya,Ya,cW⟩ rfl rfl (LT _) (aD)
 ·obtain rfl:k=ns.length:=by simp only at hc1;omega
  refine aP<|Zaj<|Zaj<|Zam<|Zag<|C.s1<|Za rfl<|Zi rfl<|L.n5 ?_;exact leave1 rfl rfl rfl rfl (fun D hD=>by show Value.string s=_;rw[h2,aNL])
end L12
end Go.Fs
namespace Go.Fs
variable{P:Program}{X:Cx}{γb:Type}[Membership Nat γb]{bad:γb}{all:Array Oper}{K:Act→World→Prop}{Q:Exit→Act→World→Prop}
variable{σ:bI}{μ:aC}{Ds:List aA}{fls:List Bool}
structure j2 where
 i:Nat
 d:Nat
 ns:List Nat
 Φ:aA→Value→Prop
 up:∀D D' v,Le D D'→Φ D v→Φ D' v
def j2.v(i d:Nat)(ns:List Nat)(u:Value):j2:=⟨i,d,ns,fun _ v=>v=u,fun _ _ _ _ h=>h⟩
def j2.s{α:Type}(i d:Nat)(ns:List Nat)(R:Rd α)(hR:R.Up)(sz:Nat)(xs:List α):j2:=⟨i,d,ns,fun D v=>Sl D R sz v xs,fun _ _ _ hl h=>h.up hR hl⟩
def xS:List j2→Nat→Option j2
 | [],_=>none
 |e::T,i=>match Nat.beq e.i i with|true=>some e|false=>xS T i
theorem Y5{T:List j2}{i:Nat}{e:j2}(h:xS T i=some e):e∈T∧e.i=i:=by
 induction T with
 |nil=>cases h
 |cons x T ih=>
  unfold xS at h;cases hb:Nat.beq x.i i with
  |true=>rw[hb]at h;cases h;exact⟨aMF,aNH hb⟩
  |false=>rw[hb]at h;exact⟨aLZ _ (ih h).1,(ih h).2⟩
def SW(T:List j2)(D:aA):List Nat→bI→(bI→Prop)→Prop
 | [],σ,k=>k σ
 |i::ns,σ,k=>match xS T i with
  |none=>SW T D ns σ k
  |some e=>∀v,e.Φ D v→SW T D ns ((e.d,v)::σ) k
def aFZ(P:Program)(X:Cx){γb:Type}[Membership Nat γb](bad:γb)(all:Array Oper)(fls:List Bool)(Q:Exit→Act→World→Prop)(σ:bI)(μ:aC)(Ds:List aA)(T:List j2)(e:j2):Prop:=
 ∀(σx:bI) (D:aA),(∀D₁∈Ds,Le D₁ D)→SW T D e.ns (σ++σx) fun σ'=>WL P X bad all (fun a w=>∃v D',Le D D'∧e.Φ D' v∧Hl X ((e.d,v)::σ') μ (D'::Ds) a w) Q [(fls.getD e.i false,e.i)] σ' μ (D::Ds)
theorem l0{σ':bI}{d:Nat}{v:Value}{D:aA}{Φ:aA→Value→Prop}(h:Φ D v):WL P X bad all (fun a w=>∃v D',Le D D'∧Φ D' v∧Hl X ((d,v)::σ') μ (D'::Ds) a w) Q [] ((d,v)::σ') μ (D::Ds):=kT fun _ _ hh=>⟨v,D,Le.refl D,h,hh⟩
theorem xV{σ':bI}{d:Nat}{v:Value}{D D':aA}{Φ:aA→Value→Prop}(hl:Le D D')(h:Φ D' v):WL P X bad all (fun a w=>∃v D',Le D D'∧Φ D' v∧Hl X ((d,v)::σ') μ (D'::Ds) a w) Q [] ((d,v)::σ') μ (D'::D::Ds):=kT fun _ _ hh=>⟨v,D',hl,h,by
 obtain⟨h1,h2,h3,E,h4,h5,h6⟩:=hh;exact⟨h1,h2,h3,E,h4,fun D₁ hD₁=>h5 D₁ (by rcases aLX.1 hD₁ with rfl|h;exact aMF;exact aLZ _ (aLZ _ h)),h6⟩⟩
def I1(T:List j2):List Nat→List Nat→Bool
 |_,[]=>true
 |done,i::c=>(match xS T i with|none=>false|some e=>e.ns.all fun j=>done.contains j)&& !done.contains i&&I1 T (i::done) c
def G8(T:List j2):List Nat→eT→Bool
 |done,.fin c=>I1 T done c&&T.all fun e=>(c.reverse++done).contains e.i
 |done,.fork d p A q B=>I1 T done d&&I1 T (d.reverse++done) [p]&&G8 T (p::(d.reverse++done)) A&&I1 T (d.reverse++done) [q]&&G8 T (q::(d.reverse++done)) B
 |done,.forkN d p ps A=>I1 T done d&&(p::ps).all fun i=>I1 T (d.reverse++done) [i]&&G8 T (i::(d.reverse++done)) (A i)
def aAR:List j2→Bool
 | []=>true
 |e::T=>(T.all fun x=> !Nat.beq e.d x.d)&&aAR T
def KE(X:Cx)(σ:bI)(μ:aC)(Ds:List aA)(T:List j2)(done:List Nat)(a:Act)(w:World):Prop:=
 ∃σ' D,Hl X σ' μ (D::Ds) a w∧(∀s v,look σ s=some v→look σ' s=some v)∧(∀D₁∈Ds,Le D₁ D)∧∀i∈done,∀e,xS T i=some e→∃v,look σ' e.d=some v∧e.Φ D v
theorem QK{σ1 σ2:bI}{s:Nat}{v:Value}(h:look σ2 s=some v):∃u,look (σ1++σ2) s=some u:=by
 induction σ1 with
 |nil=>exact⟨v,h⟩
 |cons p r ih=>
  obtain⟨k,u⟩:=p;simp only[aOG,look];cases hb:Nat.beq k s with
  |true=>exact⟨u,rfl⟩
  |false=>exact ih
theorem nG{σ:bI}{k s:Nat}{u:Value}(h:k≠s):look ((k,u)::σ) s=look σ s:=by
 simp only[look];cases hb:Nat.beq k s with
 |true=>exact absurd (aNH hb) h
 |false=>rfl
theorem rU{σ:bI}{k:Nat}{u:Value}:look ((k,u)::σ) k=some u:=by simp[look]
theorem zF{T:List j2}{D:aA}{σ':bI}{k:bI→Prop}:∀{ns:List Nat} {σ0:bI},(∀i∈ns,∀e,xS T i=some e→∃v,look σ' e.d=some v∧e.Φ D v)→(∀s v,look σ0 s=some v→look σ' s=some v)→SW T D ns σ0 k→
  ∃σ2,(∀s v,look σ2 s=some v→look σ' s=some v)∧(∀s v,look σ0 s=some v→∃u,look σ2 s=some u)∧k σ2
 | [],σ0,_,h0,h=>⟨σ0,h0,fun s v hs=>⟨v,hs⟩,h⟩
 |i::ns,σ0,hd,h0,h=>by
  unfold SW at h;cases hf:xS T i with
  |none=>
   rw[hf]at h;exact zF (fun j hj=>hd j (aLZ _ hj)) h0 h
  |some e=>
   rw[hf]at h;obtain⟨v,hv,hΦ⟩:=hd i aMF e hf;obtain⟨σ2,h1,h2,h3⟩:=zF (fun j hj=>hd j (aLZ _ hj)) (fun s u hs=>by
    by_cases hk:e.d=s
    ·subst hk;rw[rU]at hs;rw[hv];exact hs
    ·rw[nG hk]at hs;exact h0 s u hs) (h v hΦ)
   refine⟨σ2,h1,fun s u hs=>?_,h3⟩;by_cases hk:e.d=s
   ·subst hk;exact h2 _ v rU
   ·exact h2 s u (by rw[nG hk];exact hs)
theorem aEU{T:List j2}(h:aAR T=true):∀{e x:j2},e∈T→x∈T→e.d=x.d→e=x:=by
 induction T with
 |nil=>intro e x he;cases he
 |cons y T ih=>
  rw[aAR,aMC,aMU]at h;intro e x he hx hd;have key:∀z∈T,y.d≠z.d:=fun z hz e=>by have:=h.1 z hz;rw[e]at this;simp at this
  rcases aLX.1 he with e1|he
  ·rcases aLX.1 hx with e2|hx
   ·rw[e1,e2]
   ·exact absurd (by rw[←e1,hd]) (key _ hx)
  ·rcases aLX.1 hx with e|hx
   ·exact absurd (by rw[hd,e]) (key _ he)
   ·exact ih h.2 he hx hd
theorem B6{xs:List (Bool×Oper)}{K1 K2:Act→World→Prop}{a:Act}{w:World}(h:mW X.r bad P all K1 Q xs a w)(hk:∀a w,K1 a w→K2 a w):mW X.r bad P all K2 Q xs a w:=by
 have:=kP (K:=K2) xs [] a w h hk;rw[aME]at this;exact this
section
variable{T:List j2}(hT:aAR T=true)(hσ:(T.all fun e=>(look σ e.d).isNone)=true)(hst:∀e∈T,aFZ P X bad all fls Q σ μ Ds T e)
include hT hσ hst
theorem vK{done:List Nat}{i:Nat}{a:Act}{w:World}(hc:I1 T done [i]=true)(h:KE X σ μ Ds T done a w):
  mW X.r bad P all (fun a w=>KE X σ μ Ds T (i::done) a w) Q (eS all [(fls.getD i false,i)]) a w:=by
 obtain⟨σ',D,hh,hb,hD,hd⟩:=h;simp only[I1,Bool.and_true,aMC]at hc;cases hf:xS T i with
 |none=>rw[hf]at hc;exact absurd hc.1 Ye
 |some e=>
  rw[hf]at hc;obtain⟨hm,rfl⟩:=Y5 hf;have hns:∀j∈e.ns,j∈done:=fun j hj=>by simpa using aMU.1 hc.1 j hj
  have hni:e.i∉done:=by simpa using hc.2
  obtain⟨σ2,h1,h2,h3⟩:=zF (σ':=σ') (fun j hj x hx=>hd j (hns j hj) x hx) (fun s v hs=>by
   rcases uI hs with h|h
   ·exact hb s v h
   ·exact h) (hst e hm σ' D hD)
  have hh2:Hl X σ2 μ (D::Ds) a w:=⟨hh.1,fun s v hs=>hh.2.1 s v (h1 s v hs),hh.2.2⟩
  have hback:∀s v,look σ' s=some v→look σ2 s=some v:=fun s v hs=>by
   obtain⟨u,hu⟩:=QK (σ1:=σ) hs;obtain⟨u2,hu2⟩:=h2 s u hu;have:=h1 s u2 hu2;rw[hs]at this;rw[hu2,←this]
  have:=WL.append (K:=fun a w=>KE X σ μ Ds T (e.i::done) a w) (ys:=[]) (h3 a w hh2) (fun a w hk=>(by
   obtain⟨v,D',hle,hΦ,hh3⟩:=hk;refine(⟨(e.d,v)::σ2,D',hh3,fun s u hs=>?_,fun D₁ hD₁=>(hD D₁ hD₁).trans hle,fun j hj x hx=>?_⟩:KE X σ μ Ds T (e.i::done) a w)
   ·have hne:e.d≠s:=by
     rintro rfl;have:=aMU.1 hσ e hm;rw[hs]at this;cases this
    rw[nG hne];exact hback s u (hb s u hs)
   ·rcases aLX.1 hj with rfl|hj
    ·obtain rfl:=aMY (hf.symm.trans hx);exact⟨v,rU,hΦ⟩
    ·obtain⟨u,hu,hux⟩:=hd j hj x hx;obtain⟨hxm,hxi⟩:=Y5 hx;have hne:e.d≠x.d:=fun e2=>hni (by rw[aEU hT hm hxm e2,hxi];exact hj)
     exact⟨u,by rw[nG hne];exact hback _ _ hu,x.up _ _ _ hle hux⟩))
  rw[aME]at this;exact this
theorem sG{K':Act→World→Prop}:∀(c:List Nat) {done:List Nat} {a:Act} {w:World},I1 T done c=true→KE X σ μ Ds T done a w→(∀a w,KE X σ μ Ds T (c.reverse++done) a w→K' a w)→
  mW X.r bad P all K' Q (eS all (c.map fun i=>(fls.getD i false,i))) a w
 | [],done,a,w,_,h,hk=>hk a w h
 |i::c,done,a,w,hc,h,hk=>by
  simp only[I1,aMC]at hc;have h1:=vK hT hσ hst (done:=done) (i:=i) (by simp only[I1,Bool.and_true,aMC];exact hc.1) h
  have:=WL.append (K:=K') (ys:=c.map fun i=>(fls.getD i false,i)) h1 (fun a w h2=>sG c hc.2 h2 (fun a w h3=>hk a w (by rw[List.reverse_cons,aMK];exact h3)));exact this
theorem vG{kont:Act→World→Prop}(hk:∀a w,KE X σ μ Ds T (T.map (·.i)) a w→kont a w):∀{pl:eT} {done:List Nat} {a:Act} {w:World},G8 T done pl=true→KE X σ μ Ds T done a w→rL X.r bad P all fls Q kont pl a w
 |.fin c,done,a,w,hc,h=>by
  simp only[G8,aMC]at hc;refine sG hT hσ hst c hc.1 h fun a w h2=>hk a w ?_
  obtain⟨σ',D,g1,g2,g3,g4⟩:=h2;refine⟨σ',D,g1,g2,g3,fun i hi e he=>?_⟩;obtain⟨x,hx,rfl⟩:=aMB.1 hi;exact g4 _ (by simpa using aMU.1 hc.2 x hx) e he
 |.fork d p A q B,done,a,w,hc,h=>by
  simp only[G8,aMC]at hc;obtain⟨⟨⟨⟨h1,h2⟩,h3⟩,h4⟩,h5⟩:=hc;exact sG hT hσ hst d h1 h fun a w g=>⟨B6 (vK hT hσ hst h2 g) fun a w g=>vG hk h3 g,B6 (vK hT hσ hst h4 g) fun a w g=>vG hk h5 g⟩
 |.forkN d p ps A,done,a,w,hc,h=>by
  simp only[G8,aMC,aMU]at hc;exact sG hT hσ hst d hc.1 h fun a w g i hi=>B6 (vK hT hσ hst (hc.2 i hi).1 g) fun a w g=>vG hk (hc.2 i hi).2 g
end
theorem aHT(T:List j2)(pl:eT)(rest:List eT){segs:List eT}(ho:segs=pl::rest)(hc:(aAR T&&G8 T [] pl)=true)(hσ:(T.all fun e=>(look σ e.d).isNone)=true)
  (hst:∀e∈T,aFZ P X bad all fls Q σ μ Ds T e) (k:∀D,(∀D₁∈Ds,Le D₁ D)→SW T D (T.map (·.i)) σ fun σ'=>WS P X bad all fls K Q rest σ' μ (D::Ds)):WS P X bad all fls K Q segs σ μ Ds:=by
 subst ho;rw[aMC]at hc;intro a w hh;refine vG hc.1 hσ hst (fun a w h=>?_) hc.2 ?_
 ·obtain⟨σ',D,g1,g2,g3,g4⟩:=h;obtain⟨σ2,h1,h2,h3⟩:=zF g4 g2 (k D g3);exact h3 a w ⟨g1.1,fun s v hs=>g1.2.1 s v (h1 s v hs),g1.2.2⟩
 ·obtain⟨g1,g2,g3,D,g4,g5,g6⟩:=hh;exact⟨σ,D,⟨g1,g2,g3,D,g4,fun D₁ hD₁=>by rcases aLX.1 hD₁ with rfl|h;exact Le.refl _;exact g5 D₁ h,g6⟩,fun _ _ h=>h,g5,fun i hi=>by cases hi⟩
def aLV(G:List (Nat×List Nat)):Nat→List Nat→eT
 |0,_=>.fin []
 |f+1,done=>match G.filter fun g=> !done.contains g.1&&g.2.all done.contains with
  | []=>.fin []
  |(p,_)::r=>.forkN [] p (r.map (·.1)) fun i=>aLV G f (i::done)
theorem all_cons{α:Type}{p:α→Prop}{x:α}{l:List α}(h:p x)(k:∀y∈l,p y):∀y∈x::l,p y:=fun y hy=>by
 rcases aLX.1 hy with rfl|hy
 ·exact h
 ·exact k y hy
end Go.Fs
namespace Go.Fs
open Go.Proofs
namespace L12
open C12 Go.Lib
section
variable{P:Program}{X:Cx}{γb:Type}[Membership Nat γb]{bad:γb}{all:Array Oper}{K:Act→World→Prop}{Q:Exit→Act→World→Prop}
variable{σ:bI}{μ:aC}{Ds:List aA}{os:List (Bool×Nat)}{fl:Bool}{ix d:Nat}{x y:Operand}{ty t t':TypeId}{pos:String}{aft:Array Edge}{g:Option (Nat×Bool)}{k:IntKind}{a b:Nat}
theorem lV(ho:all[ix]?= some ⟨some d,.binOp .rem t x y t',ty,pos,aft,g⟩)(hx:ev σ x=some (.int k (a:Int)))(hy:ev σ y=some (.int k (b:Int)))(h1:0<b)(hr:rM k ((a%b:Nat):Int))(hN:Nat.blt d X.N=true)(hg:cY all σ g)(kk:WL P X bad all K Q os ((d,.int k ((a%b:Nat):Int))::σ) μ Ds):
  WL P X bad all K Q ((fl,ix)::os) σ μ Ds:=wE ho hx hy Yd Yd hr hN hg kk
theorem JT(ho:all[ix]?= some ⟨some d,.binOp .quo t x y t',ty,pos,aft,g⟩)(hx:ev σ x=some (.int k (a:Int)))(hy:ev σ y=some (.int k (b:Int)))(h1:0<b)(hr:rM k ((a / b:Nat):Int))(hN:Nat.blt d X.N=true)(hg:cY all σ g)(kk:WL P X bad all K Q os ((d,.int k ((a / b:Nat):Int))::σ) μ Ds):
  WL P X bad all K Q ((fl,ix)::os) σ μ Ds:=DU ho hx hy Yd Yd hr hN hg kk
end
theorem aGC(p:C7.Pt){j:Nat}(hj:j<3):[Value.int .i64 p.a,.int .i64 p.b,.int .i64 p.c][((j:Int)).toNat*1]?= some (.int .i64 (oU p j)):=by
 obtain rfl|rfl|rfl:j=0∨j=1∨j=2:=by omega
 all_goals rfl
def TN(s:aH):List ByteArray:=[gJ ⟨#[119,114,111,110,103]⟩ [s.row.wrong],gJ ⟨#[111,102,102]⟩ [s.row.off],gJ ⟨#[115,116,101,112]⟩ [s.table.step],gJ ⟨#[102,105,116]⟩ [s.yard.fit]]
def sZ:Nat→aH→Nat→List ByteArray
 |1,s,k=>TN s++PO s k
 |2,s,k=>TN s++PO s k++TL s k
 |3,s,k=>TN s++PO s k++TL s k++aAV s k
 |_,s,_=>TN s
theorem m3(s:aH)(k n:Nat):(sZ n s k).length≤7:=by
 have h1:(PO s k).length≤1:=by unfold PO;split<;>simp
 have h2:(TL s k).length≤1:=by unfold TL;split<;>simp
 have h3:(aAV s k).length≤1:=by unfold aAV;split<;>simp
 unfold sZ;split
 ·rw[aLY];show 4+_≤7;omega
 ·rw[aLY,aLY];show 4+_+_≤7;omega
 ·rw[aLY,aLY,aLY];show 4+_+_+_≤7;omega
 ·show 4≤7;omega
section
variable{s:aH}{k:Nat}
theorem TQ(h:0<s.row.places.length):sZ 1 s k=TN s++[gJ ⟨#[115,101,101,110]⟩ [((k%s.row.places.length:Nat):Int),s.row.places.getD (k%s.row.places.length) 0]]:=by show TN s++PO s k=_;rw[PO,aMT h]
theorem aEO(h:¬0<s.row.places.length):sZ 1 s k=TN s:=by show TN s++PO s k=_;rw[PO,aMM h,aME]
theorem YX(h:0<s.table.heights.length):sZ 2 s k=sZ 1 s k++[gJ ⟨#[116,105,100,101]⟩ [((k%s.table.heights.length:Nat):Int),(s.table.heights.getD (k%s.table.heights.length) (0,0)).1,(s.table.heights.getD (k%s.table.heights.length) (0,0)).2]]:=by show sZ 1 s k++TL s k=_;rw[TL,aMT h]
theorem aEW(h:¬0<s.table.heights.length):sZ 2 s k=sZ 1 s k:=by show sZ 1 s k++TL s k=_;rw[TL,aMM h,aME]
theorem aAE(h:0<s.table.levels.length):sZ 3 s k=sZ 2 s k++[gJ ⟨#[114,97,105,115,101]⟩ [((k%s.table.levels.length:Nat):Int),s.table.levels.getD (k%s.table.levels.length) 0]]:=by show sZ 2 s k++aAV s k=_;rw[aAV,aMT h]
theorem aBN(h:¬0<s.table.levels.length):sZ 3 s k=sZ 2 s k:=by show sZ 2 s k++aAV s k=_;rw[aAV,aMM h,aME]
theorem XA(h:(decide ((s.yard.chairs.length:Int)>0)&&decide (oU (s.yard.chairs.getD (k%s.yard.chairs.length) ⟨0,⟨0,0,0⟩⟩).parts (k / 8%3)≠2))=true):0<s.yard.chairs.length∧aJV s k≠2:=by
 simp only[aMC,aMV]at h;exact⟨by omega,h.2⟩
theorem UF(h:(decide ((s.yard.chairs.length:Int)>0)&&decide (oU (s.yard.chairs.getD (k%s.yard.chairs.length) ⟨0,⟨0,0,0⟩⟩).parts (k / 8%3)≠2))=true):eB s k=sZ 3 s k++[gJ ⟨#[112,97,114,116]⟩ [((k%s.yard.chairs.length:Nat):Int),((k / 8%3:Nat):Int),oU (s.yard.chairs.getD (k%s.yard.chairs.length) ⟨0,⟨0,0,0⟩⟩).parts (k / 8%3)]]:=by show sZ 3 s k++aFU s k=_;rw[aFU,aMT (XA h)];rfl
theorem aCR(h:(decide ((s.yard.chairs.length:Int)>0)&&decide (oU (s.yard.chairs.getD (k%s.yard.chairs.length) ⟨0,⟨0,0,0⟩⟩).parts (k / 8%3)≠2))=false):eB s k=sZ 3 s k:=by
 show sZ 3 s k++aFU s k=_;rw[aFU,aMM,aME];rintro⟨h0,hne⟩;rw[Bool.and_eq_false_iff]at h;rcases h with h|h
 ·have:=aNI h;omega
 ·exact absurd hne (by have:=aNI h;exact this)
end
theorem HR(sv:Value)(s:aH)(k:Nat)(D:aA)(hs:fV D sv s)(hn:UA s)(hl:jA s)(hk:k≤255):Fn Tryz.prog 11 #[sv,.int .u8 (k:Int)] D (fun D' v=>Sl D' RS 1 v (eB s k)):=by
 obtain⟨pv,cv,hv,lv,mv,bl,bc,yc,yq,rfl,hL⟩:=hs;unfold bX;have r1:=hn.row.wrong;have r2:=hn.row.off;have r3:=hn.tab.step;have r4:=hn.yard.fit;have l1:=hl.pl;have l2:=hl.ht;have l3:=hl.lev;have l4:=hl.ch;refine enter 157 Tryz.func11 rfl rfl rfl rfl fun h0=>C.s1<|Zt rfl (fun q1 E1 hE1 hB1=>Zi rfl<|L.n3<|Za rfl<|vF rfl U5 U3 rfl Yf rfl trivial<|Zi rfl<|L.n1<|K7 (γ:=Value×aC) (fun g=>bM 9 1 g.1 (TN s).length ((TN s).map Value.string) g.2) (fun g=>[(6,g.1),(5,.int .i64 (k:Int)),(2,.pointer (some ⟨q1,0,none⟩))]) (fun g=>g.2++[]) (fun g=>[E1,D]) ?_ ?_)
 ·refine jV [] 7 [false,false,false,true,true,true,true,true,true,true,true,true,true,true,true,true,true,true,true,false,false,false] [.fin [0,1,2,5,6,7,10,11,12,15,16,17],aLV [(3,[]),(4,[3]),(8,[]),(9,[3,4,8]),(13,[]),(14,[3,4,8,9,13]),(18,[])] 8 [],.fin [19,20,21]] Tf.follows (fun _ _ _ h=>bP (P:=Tryz.prog) (fn:=Tryz.f11) _ _ _ h) Yg<|hP [(false,0),(false,1),(false,2),(true,5),(true,6),(true,7),(true,10),(true,11),(true,12),(true,15),(true,16),(true,17)] rfl<|Zj rfl Tf.f42_0 rfl<|Zj rfl Tf.f28_2 rfl<|Zc 2 rfl Tf.a3 rfl hB1 rfl<|Zj rfl Tf.f42_0 rfl<|Zj rfl Tf.f28_3 rfl<|Zc 3 rfl Tf.a3 rfl hB1 rfl<|Zj rfl Tf.f42_1 rfl<|Zj rfl Tf.f32_2 rfl<|Zc 6 rfl Tf.a3 rfl hB1 rfl<|Zj rfl Tf.f42_3 rfl ?_;refine Zj rfl Tf.f40_1 rfl<|Zc 15 rfl Tf.a3 rfl hB1 rfl<|Zaa<|aHT [.s 3 16 [] RI RI.up 1 [s.row.wrong],.v 4 17 [3] (.string (gJ ⟨#[119,114,111,110,103]⟩ [s.row.wrong])),.s 8 21 [] RI RI.up 1 [s.row.off],.v 9 22 [8] (.string (gJ ⟨#[111,102,102]⟩ [s.row.off])),.s 13 26 [] RI RI.up 1 [s.table.step],.v 14 27 [13] (.string (gJ ⟨#[115,116,101,112]⟩ [s.table.step])),.s 18 31 [] RI RI.up 1 [s.yard.fit]] (aLV [(3,[]),(4,[3]),(8,[]),(9,[3,4,8]),(13,[]),(14,[3,4,8,9,13]),(18,[])] 8 []) [.fin [19,20,21]] rfl Yg rfl (all_cons ?_ (all_cons ?_ (all_cons ?_ (all_cons ?_ (all_cons ?_ (all_cons ?_ (all_cons ?_ (fun _ h=>by cases h)))))))) ?_
  ·rintro σx E701 hE701;refine Zn rfl U25 Tf.s3 Tf.z3 rfl rfl rfl rfl (.cons rfl rfl .nil) (fun b901 D901 hD901 hA901=>?_);have hS901:=Sl.ofInts (l:=[_]) (n:=1) (cap:=1) hA901 rfl Yd Yd;exact xV (hD901 _ Ye) (hS901)
  ·rintro σx E701 hE701 u3 hu3;refine Ze rfl (fun D1 hD1=>kW _ _ [s.row.wrong] _ (hu3.up RI.up (hD1 _ Ye)) Ye Yu (fun n hn=>by obtain rfl:=aML.1 hn;omega)) ?_
   exact l0 rfl
  ·rintro σx E701 hE701;refine Zn rfl U25 Tf.s3 Tf.z3 rfl rfl rfl rfl (.cons rfl rfl .nil) (fun b902 D902 hD902 hA902=>?_);have hS902:=Sl.ofInts (l:=[_]) (n:=1) (cap:=1) hA902 rfl Yd Yd;exact xV (hD902 _ Ye) (hS902)
  ·rintro σx E701 hE701 u8 hu8;refine Ze rfl (fun D2 hD2=>kW _ _ [s.row.off] _ (hu8.up RI.up (hD2 _ Ye)) Ye Yu (fun n hn=>by obtain rfl:=aML.1 hn;omega)) ?_
   exact l0 rfl
  ·rintro σx E701 hE701;refine Zn rfl U25 Tf.s3 Tf.z3 rfl rfl rfl rfl (.cons rfl rfl .nil) (fun b903 D903 hD903 hA903=>?_);have hS903:=Sl.ofInts (l:=[_]) (n:=1) (cap:=1) hA903 rfl Yd Yd;exact xV (hD903 _ Ye) (hS903)
  ·rintro σx E701 hE701 u13 hu13;refine Ze rfl (fun D3 hD3=>kW _ _ [s.table.step] _ (hu13.up RI.up (hD3 _ Ye)) Ye Yu (fun n hn=>by obtain rfl:=aML.1 hn;omega)) ?_
   exact l0 rfl
  ·rintro σx E701 hE701;refine Zn rfl U25 Tf.s3 Tf.z3 rfl rfl rfl rfl (.cons rfl rfl .nil) (fun b904 D904 hD904 hA904=>?_);have hS904:=Sl.ofInts (l:=[_]) (n:=1) (cap:=1) hA904 rfl Yd Yd;exact xV (hD904 _ Ye) (hS904)
  rintro E701 hE701 u3 hu3 _ rfl u8 hu8 _ rfl u13 hu13 _ rfl u18 hu18;refine hP [(false,19),(false,20),(false,21)] rfl<|Ze rfl (fun D4 hD4=>kW _ _ [s.yard.fit] _ (hu18.up RI.up (hD4 _ Ye)) Ye Yu (fun n hn=>by obtain rfl:=aML.1 hn;omega))<|T9 rfl U22 Tf.s9 Tf.z9 rfl rfl rfl rfl (.cons rfl rfl (.cons rfl rfl (.cons rfl rfl (.cons rfl rfl .nil)))) rfl cW (fun b3 hacc=>Zi rfl<|Zaa<|iC<|nL ?_)
  have hJ0:bM 9 1 _ (TN s).length ((TN s).map Value.string) _:=hacc;exact fun a w hh=>⟨(_,[_]),hJ0,hh.weak C.rs (LT _) (fun D0 h=>by simp only[aLX,GT,aNU]at h;rcases h with rfl|rfl<;>exact⟨_,by simp,Le.refl _⟩)⟩
 rintro⟨u,ν⟩ ha;dsimp only at ha ⊢
 refine K7 (γ:=Value×aC) (fun g=>bM 9 1 g.1 (sZ 1 s k).length ((sZ 1 s k).map Value.string) g.2) (fun g=>[(6,g.1),(5,.int .i64 (k:Int)),(2,.pointer (some ⟨q1,0,none⟩))]) (fun g=>g.2++[]) (fun g=>[E1,D]) ?_ ?_
 ·refine C.s1<|Zj rfl Tf.f42_0 rfl<|Zj rfl Tf.f28_0 rfl<|Zc 0 rfl Tf.a25 rfl hB1 rfl<|aO rfl U25 rfl hL.pl rfl rfl trivial<|Zi rfl<|L.n3<|Za rfl<|dZ rfl rfl rfl rfl trivial<|L.n1<|aE rfl (fun hc1=>?_) (fun hc1=>?_)
  ·have h0:0<s.row.places.length:=by omega
   have hkm:=aQG k h0;have hg:=oC 0 hkm;have hp:=hn.row.place _ (aLW hg);refine C.drawA [] 7 17 32766 (fun _ _ _ h=>bP (P:=Tryz.prog) (fn:=Tryz.f11) _ _ _ h)<|Za rfl<|Za rfl<|Za rfl<|lV rfl rfl rfl Yd Yf rfl trivial<|Zj rfl Tf.f42_0 rfl<|Zj rfl Tf.f28_0 rfl<|Zc 0 rfl Tf.a25 rfl hB1 rfl<|Za rfl<|Za rfl<|lV rfl rfl rfl Yd Yf rfl trivial<|Zp rfl U25 Tf.s3 rfl hL.pl rfl hg (fun b1 o1 cs1 hr1 hcl1 hA1=>?_);obtain rfl:cs1=[.int .i64 _]:=hr1;refine Zc 0 rfl Tf.a3 rfl hA1 rfl<|Zn rfl U25 Tf.s3 Tf.z3 rfl rfl rfl rfl (.cons rfl rfl (.cons rfl rfl .nil)) (fun b906 D906 hD906 hA906=>?_);have hS906:=Sl.ofInts (l:=[_,_]) (n:=2) (cap:=2) hA906 rfl Yd Yd;refine Ze rfl (fun D5 hD5=>kW _ _ [((k%s.row.places.length:Nat):Int),s.row.places.getD (k%s.row.places.length) 0] _ (hS906.up RI.up (hD5 _ Ye)) Ye Yu (by intro n hn;simp only[aLX,GT,aNU]at hn;rcases hn with rfl|rfl<;>omega))<|Zn rfl U22 Tf.s9 Tf.z9 rfl rfl rfl rfl (.cons rfl rfl .nil) (fun b907 D907 hD907 hA907=>aV (A:=[]) (B:=[]) rfl U22 rfl rfl Tf.s9 Tf.z9 rfl Tf.i9 rfl rfl rfl ha (jM.lit hA907) Ye rfl Ye Yi (by show 4+1≤_;omega) (aMR rfl) rfl cW (fun v1 ν1 ha1=>?_))
   have hJ1:bM 9 1 v1 (sZ 1 s k).length ((sZ 1 s k).map Value.string) ν1:=by rw[TQ h0,aLY,aMP];exact ha1
   refine Zi rfl<|Zaa<|nL ?_;exact fun a w hh=>⟨(v1,ν1),hJ1,hh.weak C.rs (LT _) (fun D0 h=>by simp only[aLX,GT,aNU]at h;rcases h with rfl|rfl<;>exact⟨_,by simp,Le.refl _⟩)⟩
  ·refine bB<|nL ?_;have hJ1:bM 9 1 u (sZ 1 s k).length ((sZ 1 s k).map Value.string) ν:=by rw[aEO Yd];exact ha
   exact fun a w hh=>⟨(u,ν),hJ1,hh.weak C.rs (LT _) (fun D0 h=>by simp only[aLX,GT,aNU]at h;rcases h with rfl|rfl<;>exact⟨_,by simp,Le.refl _⟩)⟩
 rintro⟨u,ν⟩ ha;dsimp only at ha ⊢
 refine K7 (γ:=Value×aC) (fun g=>bM 9 1 g.1 (sZ 2 s k).length ((sZ 2 s k).map Value.string) g.2) (fun g=>[(6,g.1),(5,.int .i64 (k:Int)),(2,.pointer (some ⟨q1,0,none⟩))]) (fun g=>g.2++[]) (fun g=>[E1,D]) ?_ ?_
 ·refine C.s1<|Zj rfl Tf.f42_1 rfl<|Zj rfl Tf.f32_1 rfl<|Zc 5 rfl Tf.a29 rfl hB1 rfl<|aO rfl U29 rfl hL.ht rfl rfl trivial<|Zi rfl<|L.n3<|Za rfl<|dZ rfl rfl rfl rfl trivial<|L.n1<|aE rfl (fun hc2=>?_) (fun hc2=>?_)
  ·have h0:0<s.table.heights.length:=by omega
   have hkm:=aQG k h0;have hg:=oC (0,0) hkm;have hp:=hn.tab.hts _ (aLW hg);unfold C2.fO C2.dW at hp;simp only[aMC,aMV,C1.cD]at hp;refine C.drawA [] 8 27 33554430 (fun _ _ _ h=>bP (P:=Tryz.prog) (fn:=Tryz.f11) _ _ _ h)<|Za rfl<|Za rfl<|Za rfl<|lV rfl rfl rfl Yd Yf rfl trivial<|Zj rfl Tf.f42_1 rfl<|Zj rfl Tf.f32_1 rfl<|Zc 5 rfl Tf.a29 rfl hB1 rfl<|Za rfl<|Za rfl<|lV rfl rfl rfl Yd Yf rfl trivial<|Zp rfl U29 Tf.s99 rfl hL.ht rfl hg (fun b2 o2 cs2 hr2 hcl2 hA2=>?_);have e2:cs2=_:=hr2;subst e2;refine Zj rfl Tf.f99_0 rfl<|Zc 0 rfl Tf.a3 rfl hA2 rfl<|Zj rfl Tf.f42_1 rfl<|Zj rfl Tf.f32_1 rfl<|Zc 5 rfl Tf.a29 rfl hB1 rfl<|Za rfl<|Za rfl<|lV rfl rfl rfl Yd Yf rfl trivial<|Zp rfl U29 Tf.s99 rfl hL.ht rfl hg (fun b3 o3 cs3 hr3 hcl3 hA3=>?_);have e3:cs3=_:=hr3;subst e3;refine Zj rfl Tf.f99_1 rfl<|Zc 1 rfl Tf.a3 rfl hA3 rfl<|Zn rfl U25 Tf.s3 Tf.z3 rfl rfl rfl rfl (.cons rfl rfl (.cons rfl rfl (.cons rfl rfl .nil))) (fun b908 D908 hD908 hA908=>?_);have hS908:=Sl.ofInts (l:=[_,_,_]) (n:=3) (cap:=3) hA908 rfl Yd Yd;refine Ze rfl (fun D6 hD6=>kW _ _ [((k%s.table.heights.length:Nat):Int),(s.table.heights.getD (k%s.table.heights.length) (0,0)).1,(s.table.heights.getD (k%s.table.heights.length) (0,0)).2] _ (hS908.up RI.up (hD6 _ Ye)) Ye Yu (by intro n hn;simp only[aLX,GT,aNU]at hn;rcases hn with rfl|rfl|rfl<;>omega))<|Zn rfl U22 Tf.s9 Tf.z9 rfl rfl rfl rfl (.cons rfl rfl .nil) (fun b909 D909 hD909 hA909=>aV (A:=[]) (B:=[]) rfl U22 rfl rfl Tf.s9 Tf.z9 rfl Tf.i9 rfl rfl rfl ha (jM.lit hA909) Ye rfl Ye Yi (by have:=m3 s k 1;omega) (aMR rfl) rfl cW (fun v2 ν2 ha2=>?_))
   have hJ2:bM 9 1 v2 (sZ 2 s k).length ((sZ 2 s k).map Value.string) ν2:=by rw[YX h0,aLY,aMP];exact ha2
   refine Zi rfl<|Zaa<|nL ?_;exact fun a w hh=>⟨(v2,ν2),hJ2,hh.weak C.rs (LT _) (fun D0 h=>by simp only[aLX,GT,aNU]at h;rcases h with rfl|rfl<;>exact⟨_,by simp,Le.refl _⟩)⟩
  ·refine bB<|nL ?_;have hJ2:bM 9 1 u (sZ 2 s k).length ((sZ 2 s k).map Value.string) ν:=by rw[aEW Yd];exact ha
   exact fun a w hh=>⟨(u,ν),hJ2,hh.weak C.rs (LT _) (fun D0 h=>by simp only[aLX,GT,aNU]at h;rcases h with rfl|rfl<;>exact⟨_,by simp,Le.refl _⟩)⟩
 rintro⟨u,ν⟩ ha;dsimp only at ha ⊢
 refine K7 (γ:=Value×aC) (fun g=>bM 9 1 g.1 (sZ 3 s k).length ((sZ 3 s k).map Value.string) g.2) (fun g=>[(6,g.1),(5,.int .i64 (k:Int)),(2,.pointer (some ⟨q1,0,none⟩))]) (fun g=>g.2++[]) (fun g=>[E1,D]) ?_ ?_
 ·refine C.s1<|Zj rfl Tf.f42_1 rfl<|Zj rfl Tf.f32_3 rfl<|Zc 7 rfl Tf.a25 rfl hB1 rfl<|aO rfl U25 rfl hL.lev rfl rfl trivial<|Zi rfl<|L.n3<|Za rfl<|dZ rfl rfl rfl rfl trivial<|L.n1<|aE rfl (fun hc3=>?_) (fun hc3=>?_)
  ·have h0:0<s.table.levels.length:=by omega
   have hkm:=aQG k h0;have hg:=oC 0 hkm;have hp:=hn.tab.levs _ (aLW hg);refine C.drawA [] 7 17 32766 (fun _ _ _ h=>bP (P:=Tryz.prog) (fn:=Tryz.f11) _ _ _ h)<|Za rfl<|Za rfl<|Za rfl<|lV rfl rfl rfl Yd Yf rfl trivial<|Zj rfl Tf.f42_1 rfl<|Zj rfl Tf.f32_3 rfl<|Zc 7 rfl Tf.a25 rfl hB1 rfl<|Za rfl<|Za rfl<|lV rfl rfl rfl Yd Yf rfl trivial<|Zp rfl U25 Tf.s3 rfl hL.lev rfl hg (fun b4 o4 cs4 hr4 hcl4 hA4=>?_);obtain rfl:cs4=[.int .i64 _]:=hr4;refine Zc 0 rfl Tf.a3 rfl hA4 rfl<|Zn rfl U25 Tf.s3 Tf.z3 rfl rfl rfl rfl (.cons rfl rfl (.cons rfl rfl .nil)) (fun b910 D910 hD910 hA910=>?_);have hS910:=Sl.ofInts (l:=[_,_]) (n:=2) (cap:=2) hA910 rfl Yd Yd;refine Ze rfl (fun D7 hD7=>kW _ _ [((k%s.table.levels.length:Nat):Int),s.table.levels.getD (k%s.table.levels.length) 0] _ (hS910.up RI.up (hD7 _ Ye)) Ye Yu (by intro n hn;simp only[aLX,GT,aNU]at hn;rcases hn with rfl|rfl<;>omega))<|Zn rfl U22 Tf.s9 Tf.z9 rfl rfl rfl rfl (.cons rfl rfl .nil) (fun b911 D911 hD911 hA911=>aV (A:=[]) (B:=[]) rfl U22 rfl rfl Tf.s9 Tf.z9 rfl Tf.i9 rfl rfl rfl ha (jM.lit hA911) Ye rfl Ye Yi (by have:=m3 s k 2;omega) (aMR rfl) rfl cW (fun v3 ν3 ha3=>?_))
   have hJ3:bM 9 1 v3 (sZ 3 s k).length ((sZ 3 s k).map Value.string) ν3:=by rw[aAE h0,aLY,aMP];exact ha3
   refine Zi rfl<|Zaa<|nL ?_;exact fun a w hh=>⟨(v3,ν3),hJ3,hh.weak C.rs (LT _) (fun D0 h=>by simp only[aLX,GT,aNU]at h;rcases h with rfl|rfl<;>exact⟨_,by simp,Le.refl _⟩)⟩
  ·refine bB<|nL ?_;have hJ3:bM 9 1 u (sZ 3 s k).length ((sZ 3 s k).map Value.string) ν:=by rw[aBN Yd];exact ha
   exact fun a w hh=>⟨(u,ν),hJ3,hh.weak C.rs (LT _) (fun D0 h=>by simp only[aLX,GT,aNU]at h;rcases h with rfl|rfl<;>exact⟨_,by simp,Le.refl _⟩)⟩
 rintro⟨u,ν⟩ ha;dsimp only at ha ⊢
 refine K7 (γ:=Value×aC) (fun g=>bM 9 1 g.1 (eB s k).length ((eB s k).map Value.string) g.2) (fun g=>[(6,g.1),(5,.int .i64 (k:Int)),(2,.pointer (some ⟨q1,0,none⟩))]) (fun g=>g.2++[]) (fun g=>[E1,D]) ?_ ?_
 ·refine C.s1<|Zj rfl Tf.f42_3 rfl<|Zj rfl Tf.f40_0 rfl<|Zc 14 rfl Tf.a37 rfl hB1 rfl<|aO rfl U37 rfl hL.ch rfl rfl trivial<|Zi rfl<|L.n2<|C.drawA [] 8 18 16320 (fun _ _ _ h=>bP (P:=Tryz.prog) (fn:=Tryz.f11) _ _ _ h)<|Za rfl<|dZ rfl rfl rfl rfl trivial<|Za rfl ?_;refine' L.anK 15 (s:=116) (p:=131) rfl (fun hg1=>?_) (fun hg1=>?_) ?_;rotate_left
  ·have h0:0<s.yard.chairs.length:=by have h9:=hg1;simp at h9;omega
   have hkm:=aQG k h0;have hg:=oC (⟨0,⟨0,0,0⟩⟩:C7.Ch) hkm;refine Zk rfl Tf.f42_3 rfl<|Zk rfl Tf.f40_0 rfl<|Zd 14 rfl Tf.a37 rfl hB1 rfl<|Zb rfl<|Zb rfl<|lV rfl rfl rfl Yd Yf rfl ⟨_,rfl,rfl⟩<|Zb rfl<|JT (b:=8) rfl rfl rfl Yd Yf rfl ⟨_,rfl,rfl⟩<|lV (b:=3) rfl rfl rfl Yd Yf rfl ⟨_,rfl,rfl⟩<|cT rfl U37 Tf.s103 rfl hL.ch rfl Yd hg rfl ⟨_,rfl,rfl⟩ (fun b5 o5 cs5 hr5 hcl5 hA5=>?_);have e5:cs5=_:=hr5;subst e5;refine Zk rfl Tf.f103_1 rfl<|dN rfl U101 Tf.s3 rfl rfl Yd Yd rfl ⟨_,rfl,rfl⟩<|bC (o:=_+1) (k:=(((k / 8%3:Nat):Int)).toNat*1) rfl Tf.a3 rfl hA5.tail Yj (aGC _ (aQG _ Yu)) GT rfl ⟨_,rfl,rfl⟩<|mS rfl rfl rfl rfl ⟨_,rfl,rfl⟩<|Zy rfl ?_;exact L.cu 14
  ·refine Zh rfl<|Zh rfl<|Zh rfl<|Zh rfl<|Zh rfl<|Zh rfl<|Zh rfl<|Zh rfl<|Zh rfl<|Zh rfl<|Zh rfl<|Zh rfl ?_;refine Zh rfl<|Zh rfl<|Zz rfl ?_;exact L.cu 14
  refine L.n1<|aI rfl (fun hc4=>?_) (fun hc4=>?_)
  ·obtain⟨h0,hne⟩:=XA hc4;have hkm:=aQG k h0;have hg:=oC (⟨0,⟨0,0,0⟩⟩:C7.Ch) hkm;have hp:=hn.yard.part _ (aLW hg) _ (B3 (s.yard.chairs.getD (k%s.yard.chairs.length) ⟨0,⟨0,0,0⟩⟩).parts (k / 8%3));refine C.drawA [] 9 25 8388606 (fun _ _ _ h=>bP (P:=Tryz.prog) (fn:=Tryz.f11) _ _ _ h)<|Za rfl<|Za rfl<|Za rfl<|lV rfl rfl rfl Yd Yf rfl trivial<|Za rfl<|JT (b:=8) rfl rfl rfl Yd Yf rfl trivial<|lV (b:=3) rfl rfl rfl Yd Yf rfl trivial<|Zj rfl Tf.f42_3 rfl<|Zj rfl Tf.f40_0 rfl<|Zc 14 rfl Tf.a37 rfl hB1 rfl<|Za rfl ?_;refine Za rfl<|lV rfl rfl rfl Yd Yf rfl trivial<|Za rfl<|JT (b:=8) rfl rfl rfl Yd Yf rfl trivial<|lV (b:=3) rfl rfl rfl Yd Yf rfl trivial<|Zp rfl U37 Tf.s103 rfl hL.ch rfl hg (fun b6 o6 cs6 hr6 hcl6 hA6=>?_);have e6:cs6=_:=hr6;subst e6;refine Zj rfl Tf.f103_1 rfl<|dN rfl U101 Tf.s3 rfl rfl Yd Yd rfl trivial<|bC (o:=_+1) (k:=(((k / 8%3:Nat):Int)).toNat*1) rfl Tf.a3 rfl hA6.tail Yj (aGC _ (aQG _ Yu)) GT rfl trivial<|Zn rfl U25 Tf.s3 Tf.z3 rfl rfl rfl rfl (.cons rfl rfl (.cons rfl rfl (.cons rfl rfl .nil))) (fun b912 D912 hD912 hA912=>?_);have hS912:=Sl.ofInts (l:=[_,_,_]) (n:=3) (cap:=3) hA912 rfl Yd Yd;refine Ze rfl (fun D8 hD8=>kW _ _ [((k%s.yard.chairs.length:Nat):Int),((k / 8%3:Nat):Int),oU (s.yard.chairs.getD (k%s.yard.chairs.length) ⟨0,⟨0,0,0⟩⟩).parts (k / 8%3)] _ (hS912.up RI.up (hD8 _ Ye)) Ye Yu (by intro n hn;simp only[aLX,GT,aNU]at hn;rcases hn with rfl|rfl|rfl<;>omega))<|Zn rfl U22 Tf.s9 Tf.z9 rfl rfl rfl rfl (.cons rfl rfl .nil) (fun b913 D913 hD913 hA913=>aV (A:=[]) (B:=[]) rfl U22 rfl rfl Tf.s9 Tf.z9 rfl Tf.i9 rfl rfl rfl ha (jM.lit hA913) Ye rfl Ye Yi (by have:=m3 s k 3;omega) (aMR rfl) rfl cW (fun v4 ν4 ha4=>?_))
   have hJ4:bM 9 1 v4 (eB s k).length ((eB s k).map Value.string) ν4:=by rw[UF hc4,aLY,aMP];exact ha4
   refine Zi rfl<|Zaa<|nL ?_;exact fun a w hh=>⟨(v4,ν4),hJ4,hh.weak C.rs (LT _) (fun D0 h=>by simp only[aLX,GT,aNU]at h;rcases h with rfl|rfl<;>exact⟨_,by simp,Le.refl _⟩)⟩
  ·refine bB<|nL ?_;have hJ4:bM 9 1 u (eB s k).length ((eB s k).map Value.string) ν:=by rw[aCR hc4];exact ha
   exact fun a w hh=>⟨(u,ν),hJ4,hh.weak C.rs (LT _) (fun D0 h=>by simp only[aLX,GT,aNU]at h;rcases h with rfl|rfl<;>exact⟨_,by simp,Le.refl _⟩)⟩
 rintro⟨u,ν⟩ ha;dsimp only at ha ⊢
 refine C.s1<|Za rfl<|Zi rfl<|L.n5<|eN (A:=[]) (B:=[]) ha rfl (fun D9 hD9 hF9=>?_);exact leave1 rfl rfl rfl rfl (fun D' hD=>(hF9.strs (l:=eB s k) rfl (by have:=(zQ hn hl k).2;omega)).up RS.up (hD _ Ye))
end L12
end Go.Fs
namespace Go.Fs
open Go.Proofs
namespace L12
open C12 Go.Lib
theorem FC{lv:Value}{ls:List ByteArray}{D:aA}(hS:Sl D RS 1 lv ls)(hV:kG D)(hf:dI ls=0):Fn Tryz.prog 9 #[lv] D (fun D' v=>∃v1 v2,v=.tuple #[v1,v2,.int .i64 0]∧fV D' v1 (dD ls).1∧Sl D' RI 1 v2 (dD ls).2):=
 (xQ lv ls D hS hV).mono fun D' v _ h=>by rw[lU hf]at h;exact h
theorem n7(lv:Value)(ls:List ByteArray)(c:Int)(hc:0≤c∧c≤255)(D:aA)(hS:Sl D RS 1 lv ls)(hV:kG D):Fn Tryz.prog 3 #[lv,.int .u8 c] D (fun _ v=>v=.bool true):=by
 have hsl:=hS.len;obtain⟨k,rfl⟩:=Int.eq_ofNat_of_zero_le hc.1;refine enter 80 Tryz.func3 rfl rfl rfl rfl fun h0=>C.s1<|Zi rfl<|L.n4<|Za rfl<|Ze rfl (fun D1 hD1=>ID _ ls _ (hS.up RS.up (hD1 _ Ye)))<|Zae rfl<|Za rfl ?_
 refine' L.orK 4 (s:=16) (p:=20) rfl (fun hg1=>?_) (fun hg1=>?_) ?_;rotate_left
 ·refine Zb rfl<|aO rfl U22 rfl hS rfl rfl ⟨_,rfl,rfl⟩<|dZ rfl rfl rfl rfl ⟨_,rfl,rfl⟩<|Zz rfl ?_;exact L.cu 3
 ·refine Zh rfl<|Zh rfl<|Zh rfl<|Zy rfl ?_;exact L.cu 3
 refine L.n1<|aI rfl (fun hc1=>?_) (fun hc1=>?_)
 ·refine C.s1<|Ze rfl (fun D2 hD2=>DE _ (hV.up (hD2 _ Ye)))<|Zi rfl<|L.n5<|Zah ?_;exact leave1 rfl rfl rfl rfl (fun D hD=>rfl)
 ·obtain⟨hsh,h32⟩:t7 ls=true∧ls.length≤32:=by have h9:=hc1;simp only[aOM,Bool.not_eq_false',aNV]at h9;exact⟨h9.1,by omega⟩
  have hf0:=BI hsh;have hst:=tZ ls;have hok:=uM ls;have hn:=NF hst (i6 ls);obtain⟨ha6,ha8⟩:=zQ hn hok k;obtain⟨hf2,hsame,hzero⟩:=FU hf0 h32 (k:=k) Yd;have hle2:(dD (ls++eB (dD ls).1 k)).2.length=ls.length+(eB (dD ls).1 k).length:=by rw[A2,aLY]
  refine C.kn<|C.s1<|Za rfl<|bZ rfl rfl rfl (fun D3 hD3=>X5 _ ls _ (hS.up RS.up (hD3 _ Ye)) Yd) rfl cW (fun v3 D3 hD3 hp3=>?_);have hq1:=hp3;refine bZ rfl rfl rfl (fun D4 hD4=>FC (ls:=ls) (hq1.up RS.up (hD4 _ Ye)) (hV.up (hD4 _ Ye)) hf0) rfl cW (fun v4 D4 hD4 hp4=>?_);obtain⟨w11,w12,rfl,⟨pv1,cv1,hv1,lv1,mv1,bl1,bc1,yc1,yq1,rfl,hL1⟩,hes1⟩:=hp4;unfold bX;refine Za rfl<|Zab rfl<|Zab rfl<|Zab rfl<|Zv rfl Tf.z42 rfl (fun q1=>bK rfl rfl rfl rfl Tf.s42 Yb Yb (bS.head) (gR hL1) trivial<|Zi rfl<|Zi rfl<|L.n4<|Za rfl<|Zaf rfl<|L.n1 ?_);refine aE rfl (fun hc2=>?_) (fun hc2=>?_)
  ·exact(hc2 rfl).elim
  ·refine C.kn<|aK<|iE [] 2 [0,2,3,1,4,5,6] [false,true,true,true,false,false,false] [(false,0),(true,2),(true,3),(true,1),(false,4),(false,5),(false,6)] Tf.follows (fun _ _ _ h=>bP (P:=Tryz.prog) (fn:=Tryz.f3) _ _ _ h) Yg rfl<|Za rfl<|Zs rfl Tf.a42 rfl (List.Mem.head _) Tf.s42<|Za rfl<|eV rfl rfl rfl (fun D80 hD80=>HG _ ls _ (hS.up RS.up (hD80 _ Ye)) Yd) rfl cW (fun w80 D81 ν80 hD81 ha80=>bZ rfl rfl rfl (fun D5 hD5=>HR _ (dD ls).1 k _ ⟨pv1,cv1,hv1,lv1,mv1,bl1,bc1,yc1,yq1,rfl,hL1.up (hD5 _ Ye)⟩ hn hok Yd) rfl cW (fun v5 D5 hD5 hp5=>?_));have hag:=hp5;refine aV (A:=[]) (ν:=ν80) (B:=[(_,_)]) rfl U22 rfl rfl Tf.s9 Tf.z9 rfl Tf.i9 rfl rfl rfl ha80 (jM.strs hag) Ye Yal Yal (A3 _) Yd (aMR rfl) rfl cW (fun v81 ν81 ha81=>?_);have hap81:bM 9 1 v81 (ls++(eB (dD ls).1 k)).length ((ls++(eB (dD ls).1 k)).map Value.string) ν81:=by rw[aLY,aMP];exact ha81
   refine UY (A:=[]) (B:=[(_,_)]) hap81 rfl (fun D82 hD82 hF82=>?_);have hall:Sl D82 RS 1 v81 (ls++eB (dD ls).1 k):=hF82.strs rfl (by rw[aLY];omega)
   refine Zi rfl<|L.n3<|Za rfl<|bZ rfl rfl rfl (fun D6 hD6=>X5 _ (ls++eB (dD ls).1 k) _ (hall.up RS.up (hD6 _ Ye)) (by rw[aLY];omega)) rfl cW (fun v6 D6 hD6 hp6=>?_);have hq2:=hp6;refine bZ rfl rfl rfl (fun D7 hD7=>FC (ls:=(ls++eB (dD ls).1 k)) (hq2.up RS.up (hD7 _ Ye)) (hV.up (hD7 _ Ye)) hf2) rfl cW (fun v7 D7 hD7 hp7=>?_);obtain⟨w21,w22,rfl,⟨pv2,cv2,hv2,lv2,mv2,bl2,bc2,yc2,yq2,rfl,hL2⟩,hes2⟩:=hp7;unfold bX;refine Za rfl<|Zab rfl<|Zab rfl<|Zab rfl<|Zv rfl Tf.z42 rfl (fun q2=>bK rfl rfl rfl rfl Tf.s42 Yb Yb (bS.head) (gR hL2) trivial<|Zi rfl<|Zi rfl<|L.n4<|Za rfl<|Zaf rfl<|Za rfl ?_);refine' L.orK 6 (s:=46) (p:=52) rfl (fun hg2=>?_) (fun hg2=>?_) ?_;rotate_left
   ·refine Zb rfl<|aO rfl U43 rfl hes2 rfl rfl ⟨_,rfl,rfl⟩<|Zb rfl<|aO rfl U22 rfl hall rfl rfl ⟨_,rfl,rfl⟩<|mS rfl rfl rfl rfl ⟨_,rfl,rfl⟩<|Zz rfl ?_;exact L.cu 5
   ·refine Zh rfl<|Zh rfl<|Zh rfl<|Zh rfl<|Zh rfl<|Zy rfl ?_;exact L.cu 5
   refine Za rfl ?_;refine' L.orK 7 (s:=53) (p:=60) rfl (fun hg3=>?_) (fun hg3=>?_) ?_;rotate_left
   ·refine Zb rfl<|aO rfl U22 rfl hall rfl rfl ⟨_,rfl,rfl⟩<|Zb rfl<|aO rfl U22 rfl hS rfl rfl ⟨_,rfl,rfl⟩<|qU rfl rfl rfl Yf rfl ⟨_,rfl,rfl⟩<|MN rfl rfl rfl rfl ⟨_,rfl,rfl⟩<|Zz rfl ?_;exact L.cu 6
   ·refine Zh rfl<|Zh rfl<|Zh rfl<|Zh rfl<|Zh rfl<|Zh rfl<|Zy rfl ?_;exact L.cu 6
   refine L.n1<|aI rfl (fun hc3=>?_) (fun hc3=>?_)
   ·exact absurd hc3 (by rw[hle2,aLY];simp;omega)
   ·refine C.kn<|C.s2<|Za rfl<|aO rfl U22 rfl hS rfl rfl trivial<|Zi rfl<|L.n1<|Zai<|bT (γ:=Nat) (fun j=>(dD (ls++eB (dD ls).1 k)).2.length-j) (fun j=>ls.length≤j) (fun j=>[(12,.int .i64 (j:Int))]) [(10,_),(9,_),(5,_),(4,_)] (fun j=>[D7,D6,D82,D5,D81,D4,D3,D]) ls.length Ye ⟨Ya,cW⟩ C.rs (aD) ?_;rintro j h1;refine C.s2<|Za rfl<|Za rfl<|aO rfl U43 rfl hes2 rfl rfl trivial<|Zac rfl<|L.n1<|aE rfl (fun hc4=>?_) (fun hc4=>?_)
    ·have he:=hzero j h1 Yd;refine C.kn<|aK<|Zai<|C.s1<|Za rfl<|Za rfl<|Zp rfl U43 Tf.s44 rfl hes2 rfl he (fun b1 o1 cs1 hr1 hcl1 hA1=>?_);obtain rfl:cs1=[.int .i64 _]:=hr1;refine Zc 0 rfl Tf.a44 rfl hA1 rfl<|Zaf rfl<|L.n1<|aE rfl (fun hc5=>?_) (fun hc5=>?_)
     ·exact(hc5 rfl).elim
     ·refine bB<|Zak<|Zag<|C.rg<|Za rfl<|Zw rfl<|Zi rfl<|Zaa ?_;exact aG 13 (j+1) Yd Yd ⟨Ya,cW⟩ rfl rfl (LT _) (aD)
    ·refine aP<|Zaj<|Zaj<|Zam<|Zag<|C.s1<|Zs rfl Tf.a42 rfl (List.Mem.tail _ (List.Mem.head _)) Tf.s42<|Zs rfl Tf.a42 rfl (List.Mem.head _) Tf.s42<|Ze rfl (fun D8 hD8=>RH _ _ (dD ls).1 (dD (ls++eB (dD ls).1 k)).1 _ ⟨pv1,cv1,hv1,lv1,mv1,bl1,bc1,yc1,yq1,rfl,hL1.up (hD8 _ Ye)⟩ ⟨pv2,cv2,hv2,lv2,mv2,bl2,bc2,yc2,yq2,rfl,hL2.up (hD8 _ Ye)⟩)<|Za rfl ?_;refine' L.anK 2 (s:=77) (p:=79) rfl (fun hg4=>?_) (fun hg4=>?_) ?_;rotate_left
     ·refine Zf rfl (fun D9 hD9=>DE _ (hV.up (hD9 _ Ye)))<|Zy rfl ?_;exact L.cu 1
     ·refine Zh rfl<|Zz rfl ?_;exact L.cu 1
     refine Zi rfl<|L.n5 ?_;exact leave1 rfl rfl rfl rfl (fun D hD=>by rw[hsame];simp[DX];rfl)
end L12
end Go.Fs
