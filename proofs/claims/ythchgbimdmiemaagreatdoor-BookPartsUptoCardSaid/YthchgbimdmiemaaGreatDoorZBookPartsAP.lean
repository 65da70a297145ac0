/- Of the proof of BookParts: Eq9, BW32, BW33, BW34, BBulk12. -/
import Derived.Test.YthchgbimdmiemaaGreatDoorZBookPartsAE
import Derived.Test.YthchgbimdmiemaaGreatDoorZBookPartsAC
import Derived.Test.YthchgbimdmiemaaGreatDoorZBookPartsAO
import Derived.Test.YthchgbimdmiemaaGreatDoorZBookPartsAL
import Derived.Test.YthchgbimdmiemaaGreatDoorCards
import Derived.ChangeMaps5
namespace Go.Fs
variable{P:Program}{X:Cx}{γb:Type}[Membership Nat γb]{bad:γb}{all:Array Oper}{K:Act→World→Prop}{Q:Exit→Act→World→Prop}
variable{σ:bT}{μ:aC}{Ds:List aA}{os:List (Bool×Nat)}{fl:Bool}{ix:Nat}
variable{d:Nat}{x y z:Operand}{u v:Value}{ty:TypeId}{pos:String}{aft:Array Edge}{g:Option (Nat×Bool)}
theorem f5{dd:Nat}{f:Field}{fs:List Field}{xs ys:Array Value}{a b:Value}{r r':Bool}{w:World}(hn:f.name≠ "_")
  (h1:(part f.type xs f.offset).run P w=.ok a w) (h2:(part f.type ys f.offset).run P w=.ok b w) (h3:(Op.equalIn dd f.type a b).run P w=.ok r w) (h4:(Op.eqFields dd xs ys fs).run P w=.ok r' w):
  (Op.eqFields dd xs ys (f::fs)).run P w=.ok (r&&r') w:=by
 rw[Op.eqFields,aKS hn];simp only[Sem.run_bind,h1,h2,Result.andThen_ok];rw[h3];simp only[Result.andThen_ok];cases r with
 |true=>simpa using h4
 |false=>simp
theorem aFK{dd:Nat}{xs ys:Array Value}{w:World}:(Op.eqFields dd xs ys []).run P w=.ok true w:=rfl
inductive aEG(P:Program):Nat→Nat→List Field→Prop
 |nil {o}:aEG P o o []
 |cons {o e f fs} (hn:f.name≠ "_") (ho:f.offset=o) (ht:P.underlying f.type=some (.int .i64)) (r:aEG P (o+1) e fs):aEG P o e (f::fs)
theorem aEG.le{o e:Nat}{fs:List Field}(h:aEG P o e fs):o≤e:=by
 induction h with
 |nil=>exact aKR _
 |cons _ _ _ _ ih=>omega
theorem aEU(dd:Nat)(l m:List Int)(w:World){o e:Nat}{fs:List Field}(h:aEG P o e fs)(hl:l.length=e)(hm:m.length=e):(Op.eqFields (dd+1) (ints l).toArray (ints m).toArray fs).run P w=.ok (l.drop o==m.drop o) w:=by
 induction h with
 |nil=>
  rw[aLJ Yd,aLJ Yd];rfl
 | @cons o e f fs hn ho ht r ih=>
  have hle:=r.le;have h1:l[o]?= some (l[o]'Yd):=aJT _;have h2:m[o]?= some (m[o]'Yd):=aJT _;rw[f5 hn (dT ht (by rw[ho];simpa using cD h1) w) (dT ht (by rw[ho];simpa using cD h2) w) (run_equalIn_int w dd f.type .i64 .i64 _ _ ht) (ih hl hm)]
  congr 1;rw[show l.drop o=l[o]::l.drop (o+1)from aLV _,show m.drop o=m[o]::m.drop (o+1)from aLV _];rfl
theorem sF.str{f:Field}{o n:Nat}(hn:f.name≠ "_")(ho:f.offset=o)(hu:P.underlying f.type=some (.struct (P.fieldsOf f.type)))(hst:P.stoodInHeld f.type=false)(ha:TA P f.type true)(hs:TS P f.type n)(hc:aEG P 0 n (P.fieldsOf f.type).toList):sF P f o n:=by
 refine⟨hn,fun l m w hl hm=>⟨_,_,by rw[ho];exact tW ha hs hl w,by rw[ho];exact tW ha hs hm w,?_⟩⟩;have he:=run_equalIn_struct (P:=P) w 9998 f.type (ints ((l.drop o).take n)).toArray (ints ((m.drop o).take n)).toArray hu hst;show(Op.equalIn (9998+1) _ _ _).run P w=_;rw[he,aEU 9997 _ _ w hc (by rw[aMJ,aMR];omega) (by rw[aMJ,aMR];omega)]
 simp
structure KC(P:Program)(t:TypeId)(f0 f1 f2:Field):Prop where
 und:P.underlying t=some (.struct (P.fieldsOf t))
 held:P.stoodInHeld t=false
 guard:P.eqGuardType P.depth t=false
 fs:(P.fieldsOf t).toList=[f0,f1,f2]
 n0:f0.name≠ "_"
 n1:f1.name≠ "_"
 n2:f2.name≠ "_"
 o0:f0.offset=0
 o1:f1.offset=1
 o2:f2.offset=2
 t0:P.underlying f0.type=some .bool
 t1:P.underlying f1.type=some (.int .i64)
 t2:P.underlying f2.type=some (.int .i64)
theorem aEV{t:TypeId}{f0 f1 f2:Field}(h:KC P t f0 f1 f2)(a b:C1.rQ)(w:World):(Op.equal t (cV a) (cV b)).run P w=.ok (decide (a=b)) w:=by
 have he:=run_equalIn_struct (P:=P) w 9999 t #[.bool a.back,.int .i64 a.many,.int .i64 a.num] #[.bool b.back,.int .i64 b.many,.int .i64 b.num] h.und h.held;show(Op.equalIn (9999+1) t (cV a) (cV b)).run P w=_;refine he.trans ?_;rw[h.fs,f5 h.n0 (run_part_plain w (by simp[Program.plainKey,h.t0]) (by rw[h.o0];rfl)) (run_part_plain w (by simp[Program.plainKey,h.t0]) (by rw[h.o0];rfl)) (run_equalIn_bool w 9998 f0.type _ _ h.t0)
  (f5 h.n1 (dT h.t1 (by rw[h.o1];rfl) w) (dT h.t1 (by rw[h.o1];rfl) w) (run_equalIn_int w 9998 f1.type .i64 .i64 _ _ h.t1)
   (f5 h.n2 (dT h.t2 (by rw[h.o2];rfl) w) (dT h.t2 (by rw[h.o2];rfl) w) (run_equalIn_int w 9998 f2.type .i64 .i64 _ _ h.t2) aFK))]
 congr 1;obtain⟨a1,a2,a3⟩:=a;obtain⟨b1,b2,b3⟩:=b;rw[aIJ];simp[C1.rQ.mk.injEq]
theorem aHF{t t':TypeId}{f0 f1 f2:Field}{a b:C1.rQ}(ho:all[ix]?= some ⟨some d,.binOp .neq t x y t',ty,pos,aft,g⟩)(ht:KC P t f0 f1 f2)(hx:ev σ x=some (cV a))(hy:ev σ y=some (cV b))(hN:Nat.blt d X.N=true)(hg:cW all σ g)
  (kk:WL P X bad all K Q os ((d,.bool (!(decide (a=b))))::σ) μ Ds):WL P X bad all K Q ((fl,ix)::os) σ μ Ds:=
 DR ho (fun w=>by
  have hgd:(eqGuard .neq t x y (cV a) (cV b)).run P w=.ok () w:=by
   simp only[eqGuard,program,cV];simp[Sem.run,ht.guard,go_sem]
  rw[Sem.run_bind,hgd];show((do Pure.pure (Value.bool (!(←Op.equal t (cV a) (cV b))))):Sem Value).run P w=_;rw[Sem.run_bind,aEV ht];rfl) hx hy hN hg kk
end Go.Fs
namespace Go.Fs
open Go.Proofs
namespace L12
open C12
section
variable{α:Type}{xs ys:List α}{k:Nat}{a b:α}
theorem aHU{α:Type}[DecidableEq α]{a b:α}(h:(!decide (a=b))=false):a=b:=by simpa using h
theorem aHV{α:Type}[DecidableEq α]{a b:α}(h:(!decide (a=b))=true):a≠b:=by simpa using h
theorem FC(hl:xs.length=ys.length)(hk:xs.length≤k)(h:xs.take k=ys.take k):xs=ys:=by
 rwa [aLA hk,aLA Yd]at h
theorem y7(ha:xs[k]?= some a)(hb:ys[k]?= some b)(e:xs=ys):a=b:=by
 rw[e,hb]at ha;exact(aKZ ha).symm
end
theorem aEZ{l m:List Int}(h:(!(l==m))=false):l=m:=by simpa using h
theorem aFC{α:Type}{f:α→List Int}{a b:α}(h:(!(f a==f b))=true):a≠b:=fun e=>by rw[e]at h;simp at h
def aHR(p:Int×Int):List Int:=[p.1,p.2]
def aHZ(m:C2.Mk):List Int:=[m.frm,m.to,m.lo,m.hi]
def aHX(c:C3.Cn):List Int:=[c.after,c.lo,c.hi]
def aHY(l:C3.fC):List Int:=[l.kind,l.chair,l.token]
def aHQ(c:C7.Ch):List Int:=[c.size,c.parts.a,c.parts.b,c.parts.c]
theorem aGR{a b:Int×Int}(h:aHR a=aHR b):a=b:=by
 obtain⟨a1,a2⟩:=a;obtain⟨b1,b2⟩:=b
 simp only[aHR,aLS,and_true]at h;rw[h.1,h.2]
theorem aHI{a b:C2.Mk}(h:aHZ a=aHZ b):a=b:=by
 obtain⟨a1,a2,a3,a4⟩:=a;obtain⟨b1,b2,b3,b4⟩:=b
 simp only[aHZ,aLS,and_true]at h;rw[h.1,h.2.1,h.2.2.1,h.2.2.2]
theorem aHH{a b:C3.Cn}(h:aHX a=aHX b):a=b:=by
 obtain⟨a1,a2,a3⟩:=a;obtain⟨b1,b2,b3⟩:=b
 simp only[aHX,aLS,and_true]at h;rw[h.1,h.2.1,h.2.2]
theorem aHG{a b:C3.fC}(h:aHY a=aHY b):a=b:=by
 obtain⟨a1,a2,a3⟩:=a;obtain⟨b1,b2,b3⟩:=b
 simp only[aHY,aLS,and_true]at h;rw[h.1,h.2.1,h.2.2]
theorem aGQ{a b:C7.Ch}(h:aHQ a=aHQ b):a=b:=by
 obtain⟨a1,a2,a3,a4⟩:=a;obtain⟨b1,b2,b3,b4⟩:=b
 simp only[aHQ,aLS,and_true]at h;rw[h.1,h.2.1,h.2.2.1,h.2.2.2]
instance:DecidableEq C7.Ch:=fun a b=>decidable_of_iff (aHQ a=aHQ b) ⟨aGQ,fun e=>by rw[e]⟩
def IM(a b:C1.dJ):Bool:=decide (a.wrong=b.wrong∧a.off=b.off∧a.places=b.places∧a.counts=b.counts)
theorem aGV{a b:C1.dJ}(h:(decide (a.wrong≠b.wrong)||decide (a.off≠b.off)|| !decide (a.places=b.places)||decide ((a.counts.length:Int)≠(b.counts.length:Int)))=false):a.wrong=b.wrong∧a.off=b.off∧a.places=b.places∧a.counts.length=b.counts.length:=by
 simp only[aMM,Bool.not_eq_false',aLW,Decidable.not_not,aKU]at h;exact⟨h.1.1.1,h.1.1.2,h.1.2,by omega⟩
theorem aGI{a b:C1.dJ}(h:(decide (a.wrong≠b.wrong)||decide (a.off≠b.off)|| !decide (a.places=b.places)||decide ((a.counts.length:Int)≠(b.counts.length:Int)))=true):IM a b=false:=
 aNJ fun⟨e1,e2,e3,e4⟩=>by rw[e1,e2,e3,e4]at h;simp at h
def j9(a b:C2.bA):Bool:=decide (a.last=b.last∧a.step=b.step∧a.levels=b.levels∧a.heights=b.heights∧a.marks=b.marks)
theorem aFW{a b:C2.bA}(h:(decide (a.last≠b.last)||decide (a.step≠b.step)|| !decide (a.levels=b.levels)||decide ((a.heights.length:Int)≠(b.heights.length:Int))||decide ((a.marks.length:Int)≠(b.marks.length:Int)))=false):a.last=b.last∧a.step=b.step∧a.levels=b.levels∧a.heights.length=b.heights.length∧a.marks.length=b.marks.length:=by
 simp only[aMM,Bool.not_eq_false',aLW,Decidable.not_not,aKU]at h;exact⟨h.1.1.1.1,h.1.1.1.2,h.1.1.2,by omega,by omega⟩
theorem aFJ{a b:C2.bA}(h:(decide (a.last≠b.last)||decide (a.step≠b.step)|| !decide (a.levels=b.levels)||decide ((a.heights.length:Int)≠(b.heights.length:Int))||decide ((a.marks.length:Int)≠(b.marks.length:Int)))=true):j9 a b=false:=
 aNJ fun⟨e1,e2,e3,e4,e5⟩=>by rw[e1,e2,e3,e4,e5]at h;simp at h
def AU(a b:C3.aZ):Bool:=decide (a.chairs=b.chairs∧a.coin=b.coin∧a.box=b.box∧a.lines=b.lines∧a.counts=b.counts)
theorem aGN{a b:C3.aZ}(h:(decide (a.chairs≠b.chairs)||decide (a.coin≠b.coin)||decide (a.box≠b.box)||decide ((a.lines.length:Int)≠(b.lines.length:Int))||decide ((a.counts.length:Int)≠(b.counts.length:Int)))=false):a.chairs=b.chairs∧a.coin=b.coin∧a.box=b.box∧a.lines.length=b.lines.length∧a.counts.length=b.counts.length:=by
 simp only[aMM,aLW,Decidable.not_not]at h;exact⟨h.1.1.1.1,h.1.1.1.2,h.1.1.2,by omega,by omega⟩
theorem aFV{a b:C3.aZ}(h:(decide (a.chairs≠b.chairs)||decide (a.coin≠b.coin)||decide (a.box≠b.box)||decide ((a.lines.length:Int)≠(b.lines.length:Int))||decide ((a.counts.length:Int)≠(b.counts.length:Int)))=true):AU a b=false:=
 aNJ fun⟨e1,e2,e3,e4,e5⟩=>by rw[e1,e2,e3,e4,e5]at h;simp at h
def DB(a b:C7.bJ):Bool:=decide (a.fit=b.fit∧a.chairs=b.chairs∧a.claims=b.claims)
theorem aGE{a b:C7.bJ}(h:(decide (a.fit≠b.fit)||decide ((a.chairs.length:Int)≠(b.chairs.length:Int))||decide ((a.claims.length:Int)≠(b.claims.length:Int)))=false):a.fit=b.fit∧a.chairs.length=b.chairs.length∧a.claims.length=b.claims.length:=by
 simp only[aMM,aLW,Decidable.not_not]at h;exact⟨h.1.1,by omega,by omega⟩
theorem aFO{a b:C7.bJ}(h:(decide (a.fit≠b.fit)||decide ((a.chairs.length:Int)≠(b.chairs.length:Int))||decide ((a.claims.length:Int)≠(b.claims.length:Int)))=true):DB a b=false:=
 aNJ fun⟨e1,e2,e3⟩=>by rw[e1,e2,e3]at h;simp at h
def aFE(a b:aN):Bool:=IM a.row b.row&&j9 a.table b.table&&AU a.book b.book&&DB a.yard b.yard
theorem aEP(a:C1.dJ):IM a a=true:=by simp[IM]
theorem aEF(a:C2.bA):j9 a a=true:=by simp[j9]
theorem aEH(a:C3.aZ):AU a a=true:=by simp[AU]
theorem aEJ(a:C7.bJ):DB a a=true:=by simp[DB]
theorem aFP(a:aN):aFE a a=true:=by simp[aFE,aEP,aEF,aEH,aEJ]
theorem aHM:KS Tryz.prog 134 3:=by
 have hf:(Tryz.prog.fieldsOf 134).toList=[(Tryz.prog.fieldsOf 134)[0]!,(Tryz.prog.fieldsOf 134)[1]!,(Tryz.prog.fieldsOf 134)[2]!]:=by kernel_rfl
 refine⟨by kernel_rfl,by kernel_rfl,by kernel_rfl,?_⟩;rw[hf];exact .cons (sF.int Yt Yg Yg) (.cons (sF.int Yt Yg Yg) (.cons (sF.int Yt Yg Yg) .nil))
theorem aHW:KS Tryz.prog 55 2:=by
 have hf:(Tryz.prog.fieldsOf 55).toList=[(Tryz.prog.fieldsOf 55)[0]!,(Tryz.prog.fieldsOf 55)[1]!]:=by kernel_rfl
 refine⟨by kernel_rfl,by kernel_rfl,by kernel_rfl,?_⟩;rw[hf];exact .cons (sF.int Yt Yg Yg) (.cons (sF.int Yt Yg Yg) .nil)
theorem aHN:KS Tryz.prog 144 4:=by
 have hf:(Tryz.prog.fieldsOf 144).toList=[(Tryz.prog.fieldsOf 144)[0]!,(Tryz.prog.fieldsOf 144)[1]!,(Tryz.prog.fieldsOf 144)[2]!]:=by kernel_rfl
 refine⟨by kernel_rfl,by kernel_rfl,by kernel_rfl,?_⟩;rw[hf];refine .cons (sF.int Yt Yg Yg) (.cons (sF.int Yt Yg Yg) (.cons (n:=2) (sF.str Yt Yg Yg Yg ?_ ?_ ?_) .nil))
 ·rw[show(((Tryz.prog.fieldsOf 144)[2]!)).type=55 by kernel_rfl];exact Tf.a55
 ·rw[show(((Tryz.prog.fieldsOf 144)[2]!)).type=55 by kernel_rfl];exact Tf.s55
 ·rw[show(((Tryz.prog.fieldsOf 144)[2]!)).type=55 by kernel_rfl,show(Tryz.prog.fieldsOf 55).toList=[(Tryz.prog.fieldsOf 55)[0]!,(Tryz.prog.fieldsOf 55)[1]!] by kernel_rfl];exact .cons Yt Yg Yg (.cons Yt Yg Yg .nil)
theorem aHL:KS Tryz.prog 137 3:=by
 have hf:(Tryz.prog.fieldsOf 137).toList=[(Tryz.prog.fieldsOf 137)[0]!,(Tryz.prog.fieldsOf 137)[1]!]:=by kernel_rfl
 refine⟨by kernel_rfl,by kernel_rfl,by kernel_rfl,?_⟩;rw[hf];refine .cons (sF.int Yt Yg Yg) (.cons (n:=2) (sF.str Yt Yg Yg Yg ?_ ?_ ?_) .nil)
 ·rw[show(((Tryz.prog.fieldsOf 137)[1]!)).type=109 by kernel_rfl];exact Tf.a109
 ·rw[show(((Tryz.prog.fieldsOf 137)[1]!)).type=109 by kernel_rfl];exact Tf.s109
 ·rw[show(((Tryz.prog.fieldsOf 137)[1]!)).type=109 by kernel_rfl,show(Tryz.prog.fieldsOf 109).toList=[(Tryz.prog.fieldsOf 109)[0]!,(Tryz.prog.fieldsOf 109)[1]!] by kernel_rfl];exact .cons Yt Yg Yg (.cons Yt Yg Yg .nil)
theorem aHK:KS Tryz.prog 148 4:=by
 have hf:(Tryz.prog.fieldsOf 148).toList=[(Tryz.prog.fieldsOf 148)[0]!,(Tryz.prog.fieldsOf 148)[1]!]:=by kernel_rfl
 refine⟨by kernel_rfl,by kernel_rfl,by kernel_rfl,?_⟩;rw[hf];refine .cons (sF.int Yt Yg Yg) (.cons (n:=3) (sF.arr (e:=3) Yt Yg Yg Yg Yg ?_ ?_) .nil)
 ·rw[show(((Tryz.prog.fieldsOf 148)[1]!)).type=146 by kernel_rfl];exact Tf.a146
 ·rw[show(((Tryz.prog.fieldsOf 148)[1]!)).type=146 by kernel_rfl];exact Tf.s146
theorem aHS:KS Tryz.prog 69 2:=by
 have hf:(Tryz.prog.fieldsOf 69).toList=[(Tryz.prog.fieldsOf 69)[0]!,(Tryz.prog.fieldsOf 69)[1]!]:=by kernel_rfl
 refine⟨by kernel_rfl,by kernel_rfl,by kernel_rfl,?_⟩;rw[hf];exact .cons (sF.int Yt Yg Yg) (.cons (sF.int Yt Yg Yg) .nil)
theorem aHO:KC Tryz.prog 142 (Tryz.prog.fieldsOf 142)[0]! (Tryz.prog.fieldsOf 142)[1]! (Tryz.prog.fieldsOf 142)[2]! :=⟨by kernel_rfl,by kernel_rfl,by kernel_rfl,by kernel_rfl,by decide+kernel,by decide+kernel,by decide+kernel,by kernel_rfl,by kernel_rfl,by kernel_rfl,by kernel_rfl,by kernel_rfl,by kernel_rfl⟩
theorem aFA(av bv:Value)(a0 b0:C1.dJ)(D:aA)(hx:mL D av a0)(hy:mL D bv b0):Fn Tryz.prog 26 #[av,bv] D (fun _ v=>v=.bool (IM a0 b0)):=by
 obtain⟨pv,cv,rfl,hp0,hc0⟩:=hx;obtain⟨qv,dv,rfl,hq0,hd0⟩:=hy;have hlen0:=hc0.len;refine enter 53 Tryz.func26 rfl rfl rfl rfl fun h0=>C.s1<|Zu rfl (fun q1 E1 hE1 hB1=>Zu rfl (fun q2 E2 hE2 hB2=>Zj rfl<|L.n4<|Zk rfl Tf.f28_2 rfl<|Zd 2 rfl Tf.a3 rfl hB1 rfl<|Zk rfl Tf.f28_2 rfl<|Zd 2 rfl Tf.a3 rfl hB2 rfl<|Zaf rfl<|Zb rfl ?_))
 refine' iE [(false,6),(false,7),(false,8),(false,9),(false,10),(false,11)] [(false,12),(false,13),(false,14),(false,15),(false,16),(false,17),(false,18),(false,19),(false,20),(false,21),(false,22),(false,23),(false,24),(false,25),(false,26),(false,27),(false,28)] (s:=11) (p:=17) rfl rfl (fun hg1=>?_) (fun hg1=>?_) ?_;rotate_left
 ·refine Zl rfl Tf.f28_3 rfl<|Ze 3 rfl Tf.a3 rfl hB1 rfl<|Zl rfl Tf.f28_3 rfl<|Ze 3 rfl Tf.a3 rfl hB2 rfl<|eQ rfl rfl rfl rfl ⟨_,rfl,rfl⟩<|Zaa rfl ?_;exact L.cu 5
 ·refine Zi rfl<|Zi rfl<|Zi rfl<|Zi rfl<|Zi rfl<|Zz rfl ?_;exact L.cu 5
 refine Zb rfl ?_;refine' iE [(false,13),(false,14),(false,15),(false,16),(false,17),(false,18),(false,19)] [(false,20),(false,21),(false,22),(false,23),(false,24),(false,25),(false,26),(false,27),(false,28)] (s:=18) (p:=25) rfl rfl (fun hg2=>?_) (fun hg2=>?_) ?_;rotate_left
 ·refine Zl rfl Tf.f28_0 rfl<|Ze 0 rfl Tf.a25 rfl hB1 rfl<|Zl rfl Tf.f28_0 rfl<|Ze 0 rfl Tf.a25 rfl hB2 rfl<|Zg rfl (fun D1 hD1=>aFB _ _ a0.places b0.places _ (hp0.up RI.up (hD1 _ Ye)) (hq0.up RI.up (hD1 _ Ye)))<|jT rfl rfl rfl ⟨_,rfl,rfl⟩<|Zaa rfl ?_;exact L.cu 6
 ·refine Zi rfl<|Zi rfl<|Zi rfl<|Zi rfl<|Zi rfl<|Zi rfl<|Zz rfl ?_;exact L.cu 6
 refine Zb rfl ?_;refine' iE [(false,21),(false,22),(false,23),(false,24),(false,25),(false,26),(false,27),(false,28)] [] (s:=26) (p:=34) rfl rfl (fun hg3=>?_) (fun hg3=>?_) ?_;rotate_left
 ·refine Zl rfl Tf.f28_1 rfl<|Ze 1 rfl Tf.a26 rfl hB1 rfl<|aW rfl U26 rfl hc0 rfl rfl ⟨_,rfl,rfl⟩<|Zl rfl Tf.f28_1 rfl<|Ze 1 rfl Tf.a26 rfl hB2 rfl<|aW rfl U26 rfl hd0 rfl rfl ⟨_,rfl,rfl⟩<|eQ rfl rfl rfl rfl ⟨_,rfl,rfl⟩<|Zaa rfl ?_;exact L.cu 7
 ·refine Zi rfl<|Zi rfl<|Zi rfl<|Zi rfl<|Zi rfl<|Zi rfl<|Zi rfl<|Zz rfl ?_;exact L.cu 7
 refine L.n1<|aJ rfl (fun hc1=>?_) (fun hc1=>?_)
 ·refine C.s1<|Zj rfl<|L.n5<|Zah ?_;exact Za [_] rfl ⟨rfl,aNM⟩ (fun D hD=>aKJ Value.bool (aGI hc1).symm)
 ·obtain⟨hw,ho,hp,hl5⟩:=aGV hc1;refine C.kn<|C.s2<|Zj rfl<|L.n1<|Zak<|cN (γ:=Nat) (fun k=>(a0.counts).length-k) (fun k=>k≤(a0.counts).length∧(a0.counts).take k=(b0.counts).take k) (fun k=>[(5,.int .i64 (k:Int))]) [(4,_),(3,_),(2,_)] (fun k=>[E2,E1,D]) 0 Ye ⟨Ya,aNM⟩ C.rs (aD) ?_;rintro k ⟨h1,h2⟩;refine C.s2<|Zb rfl<|Zk rfl Tf.f28_1 rfl<|Zd 1 rfl Tf.a26 rfl hB1 rfl<|aW rfl U26 rfl hc0 rfl rfl trivial<|Zad rfl<|L.n1<|aF rfl (fun hc2=>?_) (fun hc2=>?_)
  ·have hk:k<(a0.counts).length:=by omega
   obtain⟨a,ha⟩:∃a,(a0.counts)[k]?= some a:=⟨_,aJT hk⟩
   obtain⟨b,hb⟩:∃b,(b0.counts)[k]?= some b:=⟨_,aJT Yd⟩
   refine C.kn<|aCX<|Zak<|aCX<|C.drawA [] 4 11 996 (fun _ _ _ h=>cZ (P:=Tryz.prog) (fn:=Tryz.f26) _ _ _ h)<|Zk rfl Tf.f28_1 rfl<|Zd 1 rfl Tf.a26 rfl hB1 rfl<|Zb rfl<|Zq rfl U26 Tf.s142 rfl hc0 rfl ha (fun b1 o1 cs1 hr1 hcl1 hA1=>?_);have e1:cs1=_:=hr1;subst e1;refine Zr rfl Tf.a142 rfl hA1 Tf.s142<|Zk rfl Tf.f28_1 rfl<|Zd 1 rfl Tf.a26 rfl hB2 rfl<|Zb rfl<|Zq rfl U26 Tf.s142 rfl hd0 rfl hb (fun b2 o2 cs2 hr2 hcl2 hA2=>?_);have e2:cs2=_:=hr2;subst e2;refine Zr rfl Tf.a142 rfl hA2 Tf.s142<|aHF rfl aHO rfl rfl rfl trivial<|L.n1<|aJ rfl (fun hc3=>?_) (fun hc3=>?_)
   ·refine C.s1<|Zj rfl<|L.n5<|Zam<|Zah<|Zah<|Zam<|Zah ?_;exact Za [_] rfl ⟨rfl,aNM⟩ (fun D hD=>aKJ Value.bool (aNJ (fun e=>absurd (y7 ha hb (e.2.2.2)) (aHV hc3))).symm)
   ·refine aAX<|Zal<|Zai<|C.rg<|Zb rfl<|Zx rfl<|Zj rfl<|Zy ?_;exact aH 20 (k+1) ⟨by omega,SK ha hb h2 (aHU hc3)⟩ Yd ⟨Ya,aNM⟩ rfl rfl (aJU _) (aD)
  ·have h5:a0.counts=b0.counts:=FC hl5 Yd h2;refine aR<|Zaj<|Zaj<|Zan<|Zai<|C.s1<|Zj rfl<|L.n5 ?_;exact Za [_] rfl ⟨rfl,aNM⟩ (fun D hD=>aKJ Value.bool (decide_eq_true (⟨hw,ho,hp,h5⟩)).symm)
theorem aEM(av bv:Value)(a0 b0:C2.bA)(D:aA)(hx:gL D av a0)(hy:gL D bv b0):Fn Tryz.prog 27 #[av,bv] D (fun _ v=>v=.bool (j9 a0 b0)):=by
 obtain⟨hv,lv,mv,rfl,hh0,hv0,hm0⟩:=hx;obtain⟨gv,kv,nv,rfl,gh0,gv0,gm0⟩:=hy;have hlen0:=hh0.len;have hlen1:=hm0.len;refine enter 81 Tryz.func27 rfl rfl rfl rfl fun h0=>C.s1<|Zu rfl (fun q1 E1 hE1 hB1=>Zu rfl (fun q2 E2 hE2 hB2=>Zj rfl<|L.n4<|Zk rfl Tf.f32_0 rfl<|Zd 0 rfl Tf.a3 rfl hB1 rfl<|Zk rfl Tf.f32_0 rfl<|Zd 0 rfl Tf.a3 rfl hB2 rfl<|Zaf rfl<|Zb rfl ?_))
 refine' iE [(false,6),(false,7),(false,8),(false,9),(false,10),(false,11)] [(false,12),(false,13),(false,14),(false,15),(false,16),(false,17),(false,18),(false,19),(false,20),(false,21),(false,22),(false,23),(false,24),(false,25),(false,26),(false,27),(false,28),(false,29),(false,30),(false,31),(false,32),(false,33),(false,34),(false,35),(false,36),(false,37)] (s:=12) (p:=18) rfl rfl (fun hg1=>?_) (fun hg1=>?_) ?_;rotate_left
 ·refine Zl rfl Tf.f32_2 rfl<|Ze 2 rfl Tf.a3 rfl hB1 rfl<|Zl rfl Tf.f32_2 rfl<|Ze 2 rfl Tf.a3 rfl hB2 rfl<|eQ rfl rfl rfl rfl ⟨_,rfl,rfl⟩<|Zaa rfl ?_;exact L.cu 5
 ·refine Zi rfl<|Zi rfl<|Zi rfl<|Zi rfl<|Zi rfl<|Zz rfl ?_;exact L.cu 5
 refine Zb rfl ?_;refine' iE [(false,13),(false,14),(false,15),(false,16),(false,17),(false,18),(false,19)] [(false,20),(false,21),(false,22),(false,23),(false,24),(false,25),(false,26),(false,27),(false,28),(false,29),(false,30),(false,31),(false,32),(false,33),(false,34),(false,35),(false,36),(false,37)] (s:=19) (p:=26) rfl rfl (fun hg2=>?_) (fun hg2=>?_) ?_;rotate_left
 ·refine Zl rfl Tf.f32_3 rfl<|Ze 3 rfl Tf.a25 rfl hB1 rfl<|Zl rfl Tf.f32_3 rfl<|Ze 3 rfl Tf.a25 rfl hB2 rfl<|Zg rfl (fun D1 hD1=>aFB _ _ a0.levels b0.levels _ (hv0.up RI.up (hD1 _ Ye)) (gv0.up RI.up (hD1 _ Ye)))<|jT rfl rfl rfl ⟨_,rfl,rfl⟩<|Zaa rfl ?_;exact L.cu 6
 ·refine Zi rfl<|Zi rfl<|Zi rfl<|Zi rfl<|Zi rfl<|Zi rfl<|Zz rfl ?_;exact L.cu 6
 refine Zb rfl ?_;refine' iE [(false,21),(false,22),(false,23),(false,24),(false,25),(false,26),(false,27),(false,28)] [(false,29),(false,30),(false,31),(false,32),(false,33),(false,34),(false,35),(false,36),(false,37)] (s:=27) (p:=35) rfl rfl (fun hg3=>?_) (fun hg3=>?_) ?_;rotate_left
 ·refine Zl rfl Tf.f32_1 rfl<|Ze 1 rfl Tf.a29 rfl hB1 rfl<|aW rfl U29 rfl hh0 rfl rfl ⟨_,rfl,rfl⟩<|Zl rfl Tf.f32_1 rfl<|Ze 1 rfl Tf.a29 rfl hB2 rfl<|aW rfl U29 rfl gh0 rfl rfl ⟨_,rfl,rfl⟩<|eQ rfl rfl rfl rfl ⟨_,rfl,rfl⟩<|Zaa rfl ?_;exact L.cu 7
 ·refine Zi rfl<|Zi rfl<|Zi rfl<|Zi rfl<|Zi rfl<|Zi rfl<|Zi rfl<|Zz rfl ?_;exact L.cu 7
 refine Zb rfl ?_;refine' iE [(false,30),(false,31),(false,32),(false,33),(false,34),(false,35),(false,36),(false,37)] [] (s:=36) (p:=44) rfl rfl (fun hg4=>?_) (fun hg4=>?_) ?_;rotate_left
 ·refine Zl rfl Tf.f32_4 rfl<|Ze 4 rfl Tf.a30 rfl hB1 rfl<|aW rfl U30 rfl hm0 rfl rfl ⟨_,rfl,rfl⟩<|Zl rfl Tf.f32_4 rfl<|Ze 4 rfl Tf.a30 rfl hB2 rfl<|aW rfl U30 rfl gm0 rfl rfl ⟨_,rfl,rfl⟩<|eQ rfl rfl rfl rfl ⟨_,rfl,rfl⟩<|Zaa rfl ?_;exact L.cu 7
 ·refine Zi rfl<|Zi rfl<|Zi rfl<|Zi rfl<|Zi rfl<|Zi rfl<|Zi rfl<|Zz rfl ?_;exact L.cu 7
 refine L.n1<|aJ rfl (fun hc1=>?_) (fun hc1=>?_)
 ·refine C.s1<|Zj rfl<|L.n5<|Zah ?_;exact Za [_] rfl ⟨rfl,aNM⟩ (fun D hD=>aKJ Value.bool (aFJ hc1).symm)
 ·obtain⟨hw,ho,hp,hl5,hl6⟩:=aFW hc1;refine C.kn<|C.s2<|Zj rfl<|L.n1<|Zak<|cN (γ:=Nat) (fun k=>(a0.heights).length-k) (fun k=>k≤(a0.heights).length∧(a0.heights).take k=(b0.heights).take k) (fun k=>[(5,.int .i64 (k:Int))]) [(4,_),(3,_),(2,_)] (fun k=>[E2,E1,D]) 0 Ye ⟨Ya,aNM⟩ C.rs (aD) ?_;rintro k ⟨h1,h2⟩;refine C.s2<|Zb rfl<|Zk rfl Tf.f32_1 rfl<|Zd 1 rfl Tf.a29 rfl hB1 rfl<|aW rfl U29 rfl hh0 rfl rfl trivial<|Zad rfl<|L.n1<|aF rfl (fun hc2=>?_) (fun hc2=>?_)
  ·have hk:k<(a0.heights).length:=by omega
   obtain⟨a,ha⟩:∃a,(a0.heights)[k]?= some a:=⟨_,aJT hk⟩
   obtain⟨b,hb⟩:∃b,(b0.heights)[k]?= some b:=⟨_,aJT Yd⟩
   refine C.kn<|aCX<|Zak<|aCX<|C.drawA [] 4 11 996 (fun _ _ _ h=>cZ (P:=Tryz.prog) (fn:=Tryz.f27) _ _ _ h)<|Zk rfl Tf.f32_1 rfl<|Zd 1 rfl Tf.a29 rfl hB1 rfl<|Zb rfl<|Zq rfl U29 Tf.s55 rfl hh0 rfl ha (fun b1 o1 cs1 hr1 hcl1 hA1=>?_);have e1:cs1=_:=hr1;subst e1;refine Zr rfl Tf.a55 rfl hA1 Tf.s55<|Zk rfl Tf.f32_1 rfl<|Zd 1 rfl Tf.a29 rfl hB2 rfl<|Zb rfl<|Zq rfl U29 Tf.s55 rfl gh0 rfl hb (fun b2 o2 cs2 hr2 hcl2 hA2=>?_);have e2:cs2=_:=hr2;subst e2;refine Zr rfl Tf.a55 rfl hA2 Tf.s55<|ZV (l:=[a.1,a.2]) (m:=[b.1,b.2]) rfl aHW rfl rfl rfl rfl rfl trivial<|L.n1<|aJ rfl (fun hc3=>?_) (fun hc3=>?_)
   ·refine C.s1<|Zj rfl<|L.n5<|Zam<|Zah<|Zah<|Zam<|Zah ?_;exact Za [_] rfl ⟨rfl,aNM⟩ (fun D hD=>aKJ Value.bool (aNJ (fun e=>absurd (y7 ha hb (e.2.2.2.1)) (aFC (f:=aHR) hc3))).symm)
   ·refine aAX<|Zal<|Zai<|C.rg<|Zb rfl<|Zx rfl<|Zj rfl<|Zy ?_;exact aH 20 (k+1) ⟨by omega,SK ha hb h2 (aGR (aEZ hc3))⟩ Yd ⟨Ya,aNM⟩ rfl rfl (aJU _) (aD)
  ·have h5:a0.heights=b0.heights:=FC hl5 Yd h2;refine aR<|Zaj<|Zaj<|Zan<|Zai<|C.s2<|Zj rfl<|L.n1<|Zak<|cN (γ:=Nat) (fun k=>(a0.marks).length-k) (fun k=>k≤(a0.marks).length∧(a0.marks).take k=(b0.marks).take k) (fun k=>[(6,.int .i64 (k:Int))]) [(4,_),(3,_),(2,_)] (fun k=>[E2,E1,D]) 0 Ye ⟨Ya,aNM⟩ C.rs (aD) ?_;rintro k ⟨h1,h2⟩;refine C.s2<|Zb rfl<|Zk rfl Tf.f32_4 rfl<|Zd 4 rfl Tf.a30 rfl hB1 rfl<|aW rfl U30 rfl hm0 rfl rfl trivial<|Zad rfl<|L.n1<|aF rfl (fun hc4=>?_) (fun hc4=>?_)
   ·have hk:k<(a0.marks).length:=by omega
    obtain⟨a,ha⟩:∃a,(a0.marks)[k]?= some a:=⟨_,aJT hk⟩
    obtain⟨b,hb⟩:∃b,(b0.marks)[k]?= some b:=⟨_,aJT Yd⟩
    refine C.kn<|aCX<|Zak<|aCX<|C.drawA [] 4 11 996 (fun _ _ _ h=>cZ (P:=Tryz.prog) (fn:=Tryz.f27) _ _ _ h)<|Zk rfl Tf.f32_4 rfl<|Zd 4 rfl Tf.a30 rfl hB1 rfl<|Zb rfl<|Zq rfl U30 Tf.s144 rfl hm0 rfl ha (fun b3 o3 cs3 hr3 hcl3 hA3=>?_);have e3:cs3=_:=hr3;subst e3;refine Zr rfl Tf.a144 rfl hA3 Tf.s144<|Zk rfl Tf.f32_4 rfl<|Zd 4 rfl Tf.a30 rfl hB2 rfl<|Zb rfl<|Zq rfl U30 Tf.s144 rfl gm0 rfl hb (fun b4 o4 cs4 hr4 hcl4 hA4=>?_);have e4:cs4=_:=hr4;subst e4;refine Zr rfl Tf.a144 rfl hA4 Tf.s144<|ZV (l:=[a.frm,a.to,a.lo,a.hi]) (m:=[b.frm,b.to,b.lo,b.hi]) rfl aHN rfl rfl rfl rfl rfl trivial<|L.n1<|aJ rfl (fun hc5=>?_) (fun hc5=>?_)
    ·refine C.s1<|Zj rfl<|L.n5<|Zam<|Zah<|Zah<|Zam<|Zah ?_;exact Za [_] rfl ⟨rfl,aNM⟩ (fun D hD=>aKJ Value.bool (aNJ (fun e=>absurd (y7 ha hb (e.2.2.2.2)) (aFC (f:=aHZ) hc5))).symm)
    ·refine aAX<|Zal<|Zai<|C.rg<|Zb rfl<|Zx rfl<|Zj rfl<|Zy ?_;exact aH 20 (k+1) ⟨by omega,SK ha hb h2 (aHI (aEZ hc5))⟩ Yd ⟨Ya,aNM⟩ rfl rfl (aJU _) (aD)
   ·have h6:a0.marks=b0.marks:=FC hl6 Yd h2;refine aR<|Zaj<|Zaj<|Zan<|Zai<|C.s1<|Zj rfl<|L.n5 ?_;exact Za [_] rfl ⟨rfl,aNM⟩ (fun D hD=>aKJ Value.bool (decide_eq_true (⟨hw,ho,hp,h5,h6⟩)).symm)
theorem aEQ(av bv:Value)(a0 b0:C3.aZ)(D:aA)(hx:fO D av a0)(hy:fO D bv b0):Fn Tryz.prog 28 #[av,bv] D (fun _ v=>v=.bool (AU a0 b0)):=by
 obtain⟨hv,mv,rfl,hh0,hm0⟩:=hx;obtain⟨gv,nv,rfl,gh0,gm0⟩:=hy;have hlen0:=hh0.len;have hlen1:=hm0.len;refine enter 80 Tryz.func28 rfl rfl rfl rfl fun h0=>C.s1<|Zu rfl (fun q1 E1 hE1 hB1=>Zu rfl (fun q2 E2 hE2 hB2=>Zj rfl<|L.n4<|Zk rfl Tf.f36_0 rfl<|Zd 0 rfl Tf.a3 rfl hB1 rfl<|Zk rfl Tf.f36_0 rfl<|Zd 0 rfl Tf.a3 rfl hB2 rfl<|Zaf rfl<|Zb rfl ?_))
 refine' iE [(false,6),(false,7),(false,8),(false,9),(false,10),(false,11)] [(false,12),(false,13),(false,14),(false,15),(false,16),(false,17),(false,18),(false,19),(false,20),(false,21),(false,22),(false,23),(false,24),(false,25),(false,26),(false,27),(false,28),(false,29),(false,30),(false,31),(false,32),(false,33),(false,34),(false,35),(false,36)] (s:=12) (p:=18) rfl rfl (fun hg1=>?_) (fun hg1=>?_) ?_;rotate_left
 ·refine Zl rfl Tf.f36_1 rfl<|Ze 1 rfl Tf.a3 rfl hB1 rfl<|Zl rfl Tf.f36_1 rfl<|Ze 1 rfl Tf.a3 rfl hB2 rfl<|eQ rfl rfl rfl rfl ⟨_,rfl,rfl⟩<|Zaa rfl ?_;exact L.cu 5
 ·refine Zi rfl<|Zi rfl<|Zi rfl<|Zi rfl<|Zi rfl<|Zz rfl ?_;exact L.cu 5
 refine Zb rfl ?_;refine' iE [(false,13),(false,14),(false,15),(false,16),(false,17),(false,18)] [(false,19),(false,20),(false,21),(false,22),(false,23),(false,24),(false,25),(false,26),(false,27),(false,28),(false,29),(false,30),(false,31),(false,32),(false,33),(false,34),(false,35),(false,36)] (s:=19) (p:=25) rfl rfl (fun hg2=>?_) (fun hg2=>?_) ?_;rotate_left
 ·refine Zl rfl Tf.f36_2 rfl<|Ze 2 rfl Tf.a3 rfl hB1 rfl<|Zl rfl Tf.f36_2 rfl<|Ze 2 rfl Tf.a3 rfl hB2 rfl<|eQ rfl rfl rfl rfl ⟨_,rfl,rfl⟩<|Zaa rfl ?_;exact L.cu 5
 ·refine Zi rfl<|Zi rfl<|Zi rfl<|Zi rfl<|Zi rfl<|Zz rfl ?_;exact L.cu 5
 refine Zb rfl ?_;refine' iE [(false,20),(false,21),(false,22),(false,23),(false,24),(false,25),(false,26),(false,27)] [(false,28),(false,29),(false,30),(false,31),(false,32),(false,33),(false,34),(false,35),(false,36)] (s:=26) (p:=34) rfl rfl (fun hg3=>?_) (fun hg3=>?_) ?_;rotate_left
 ·refine Zl rfl Tf.f36_3 rfl<|Ze 3 rfl Tf.a33 rfl hB1 rfl<|aW rfl U33 rfl hh0 rfl rfl ⟨_,rfl,rfl⟩<|Zl rfl Tf.f36_3 rfl<|Ze 3 rfl Tf.a33 rfl hB2 rfl<|aW rfl U33 rfl gh0 rfl rfl ⟨_,rfl,rfl⟩<|eQ rfl rfl rfl rfl ⟨_,rfl,rfl⟩<|Zaa rfl ?_;exact L.cu 7
 ·refine Zi rfl<|Zi rfl<|Zi rfl<|Zi rfl<|Zi rfl<|Zi rfl<|Zi rfl<|Zz rfl ?_;exact L.cu 7
 refine Zb rfl ?_;refine' iE [(false,29),(false,30),(false,31),(false,32),(false,33),(false,34),(false,35),(false,36)] [] (s:=35) (p:=43) rfl rfl (fun hg4=>?_) (fun hg4=>?_) ?_;rotate_left
 ·refine Zl rfl Tf.f36_4 rfl<|Ze 4 rfl Tf.a34 rfl hB1 rfl<|aW rfl U34 rfl hm0 rfl rfl ⟨_,rfl,rfl⟩<|Zl rfl Tf.f36_4 rfl<|Ze 4 rfl Tf.a34 rfl hB2 rfl<|aW rfl U34 rfl gm0 rfl rfl ⟨_,rfl,rfl⟩<|eQ rfl rfl rfl rfl ⟨_,rfl,rfl⟩<|Zaa rfl ?_;exact L.cu 7
 ·refine Zi rfl<|Zi rfl<|Zi rfl<|Zi rfl<|Zi rfl<|Zi rfl<|Zi rfl<|Zz rfl ?_;exact L.cu 7
 refine L.n1<|aJ rfl (fun hc1=>?_) (fun hc1=>?_)
 ·refine C.s1<|Zj rfl<|L.n5<|Zah ?_;exact Za [_] rfl ⟨rfl,aNM⟩ (fun D hD=>aKJ Value.bool (aFV hc1).symm)
 ·obtain⟨hw,ho,hp,hl5,hl6⟩:=aGN hc1;refine C.kn<|C.s2<|Zj rfl<|L.n1<|Zak<|cN (γ:=Nat) (fun k=>(a0.lines).length-k) (fun k=>k≤(a0.lines).length∧(a0.lines).take k=(b0.lines).take k) (fun k=>[(5,.int .i64 (k:Int))]) [(4,_),(3,_),(2,_)] (fun k=>[E2,E1,D]) 0 Ye ⟨Ya,aNM⟩ C.rs (aD) ?_;rintro k ⟨h1,h2⟩;refine C.s2<|Zb rfl<|Zk rfl Tf.f36_3 rfl<|Zd 3 rfl Tf.a33 rfl hB1 rfl<|aW rfl U33 rfl hh0 rfl rfl trivial<|Zad rfl<|L.n1<|aF rfl (fun hc2=>?_) (fun hc2=>?_)
  ·have hk:k<(a0.lines).length:=by omega
   obtain⟨a,ha⟩:∃a,(a0.lines)[k]?= some a:=⟨_,aJT hk⟩
   obtain⟨b,hb⟩:∃b,(b0.lines)[k]?= some b:=⟨_,aJT Yd⟩
   refine C.kn<|aCX<|Zak<|aCX<|C.drawA [] 4 11 996 (fun _ _ _ h=>cZ (P:=Tryz.prog) (fn:=Tryz.f28) _ _ _ h)<|Zk rfl Tf.f36_3 rfl<|Zd 3 rfl Tf.a33 rfl hB1 rfl<|Zb rfl<|Zq rfl U33 Tf.s134 rfl hh0 rfl ha (fun b1 o1 cs1 hr1 hcl1 hA1=>?_);have e1:cs1=_:=hr1;subst e1;refine Zr rfl Tf.a134 rfl hA1 Tf.s134<|Zk rfl Tf.f36_3 rfl<|Zd 3 rfl Tf.a33 rfl hB2 rfl<|Zb rfl<|Zq rfl U33 Tf.s134 rfl gh0 rfl hb (fun b2 o2 cs2 hr2 hcl2 hA2=>?_);have e2:cs2=_:=hr2;subst e2;refine Zr rfl Tf.a134 rfl hA2 Tf.s134<|ZV (l:=[a.kind,a.chair,a.token]) (m:=[b.kind,b.chair,b.token]) rfl aHM rfl rfl rfl rfl rfl trivial<|L.n1<|aJ rfl (fun hc3=>?_) (fun hc3=>?_)
   ·refine C.s1<|Zj rfl<|L.n5<|Zam<|Zah<|Zah<|Zam<|Zah ?_;exact Za [_] rfl ⟨rfl,aNM⟩ (fun D hD=>aKJ Value.bool (aNJ (fun e=>absurd (y7 ha hb (e.2.2.2.1)) (aFC (f:=aHY) hc3))).symm)
   ·refine aAX<|Zal<|Zai<|C.rg<|Zb rfl<|Zx rfl<|Zj rfl<|Zy ?_;exact aH 20 (k+1) ⟨by omega,SK ha hb h2 (aHG (aEZ hc3))⟩ Yd ⟨Ya,aNM⟩ rfl rfl (aJU _) (aD)
  ·have h5:a0.lines=b0.lines:=FC hl5 Yd h2;refine aR<|Zaj<|Zaj<|Zan<|Zai<|C.s2<|Zj rfl<|L.n1<|Zak<|cN (γ:=Nat) (fun k=>(a0.counts).length-k) (fun k=>k≤(a0.counts).length∧(a0.counts).take k=(b0.counts).take k) (fun k=>[(6,.int .i64 (k:Int))]) [(4,_),(3,_),(2,_)] (fun k=>[E2,E1,D]) 0 Ye ⟨Ya,aNM⟩ C.rs (aD) ?_;rintro k ⟨h1,h2⟩;refine C.s2<|Zb rfl<|Zk rfl Tf.f36_4 rfl<|Zd 4 rfl Tf.a34 rfl hB1 rfl<|aW rfl U34 rfl hm0 rfl rfl trivial<|Zad rfl<|L.n1<|aF rfl (fun hc4=>?_) (fun hc4=>?_)
   ·have hk:k<(a0.counts).length:=by omega
    obtain⟨a,ha⟩:∃a,(a0.counts)[k]?= some a:=⟨_,aJT hk⟩
    obtain⟨b,hb⟩:∃b,(b0.counts)[k]?= some b:=⟨_,aJT Yd⟩
    refine C.kn<|aCX<|Zak<|aCX<|C.drawA [] 4 11 996 (fun _ _ _ h=>cZ (P:=Tryz.prog) (fn:=Tryz.f28) _ _ _ h)<|Zk rfl Tf.f36_4 rfl<|Zd 4 rfl Tf.a34 rfl hB1 rfl<|Zb rfl<|Zq rfl U34 Tf.s137 rfl hm0 rfl ha (fun b3 o3 cs3 hr3 hcl3 hA3=>?_);have e3:cs3=_:=hr3;subst e3;refine Zr rfl Tf.a137 rfl hA3 Tf.s137<|Zk rfl Tf.f36_4 rfl<|Zd 4 rfl Tf.a34 rfl hB2 rfl<|Zb rfl<|Zq rfl U34 Tf.s137 rfl gm0 rfl hb (fun b4 o4 cs4 hr4 hcl4 hA4=>?_);have e4:cs4=_:=hr4;subst e4;refine Zr rfl Tf.a137 rfl hA4 Tf.s137<|ZV (l:=[a.after,a.lo,a.hi]) (m:=[b.after,b.lo,b.hi]) rfl aHL rfl rfl rfl rfl rfl trivial<|L.n1<|aJ rfl (fun hc5=>?_) (fun hc5=>?_)
    ·refine C.s1<|Zj rfl<|L.n5<|Zam<|Zah<|Zah<|Zam<|Zah ?_;exact Za [_] rfl ⟨rfl,aNM⟩ (fun D hD=>aKJ Value.bool (aNJ (fun e=>absurd (y7 ha hb (e.2.2.2.2)) (aFC (f:=aHX) hc5))).symm)
    ·refine aAX<|Zal<|Zai<|C.rg<|Zb rfl<|Zx rfl<|Zj rfl<|Zy ?_;exact aH 20 (k+1) ⟨by omega,SK ha hb h2 (aHH (aEZ hc5))⟩ Yd ⟨Ya,aNM⟩ rfl rfl (aJU _) (aD)
   ·have h6:a0.counts=b0.counts:=FC hl6 Yd h2;refine aR<|Zaj<|Zaj<|Zan<|Zai<|C.s1<|Zj rfl<|L.n5 ?_;exact Za [_] rfl ⟨rfl,aNM⟩ (fun D hD=>aKJ Value.bool (decide_eq_true (⟨hw,ho,hp,h5,h6⟩)).symm)
theorem aES(av bv:Value)(a0 b0:C7.bJ)(D:aA)(hx:lE D av a0)(hy:lE D bv b0):Fn Tryz.prog 29 #[av,bv] D (fun _ v=>v=.bool (DB a0 b0)):=by
 obtain⟨hv,mv,rfl,hh0,hm0⟩:=hx;obtain⟨gv,nv,rfl,gh0,gm0⟩:=hy;have hlen0:=hh0.len;have hlen1:=hm0.len;refine enter 66 Tryz.func29 rfl rfl rfl rfl fun h0=>C.s1<|Zu rfl (fun q1 E1 hE1 hB1=>Zu rfl (fun q2 E2 hE2 hB2=>Zj rfl<|L.n4<|Zk rfl Tf.f40_1 rfl<|Zd 1 rfl Tf.a3 rfl hB1 rfl<|Zk rfl Tf.f40_1 rfl<|Zd 1 rfl Tf.a3 rfl hB2 rfl<|Zaf rfl<|Zb rfl ?_))
 refine' iE [(false,6),(false,7),(false,8),(false,9),(false,10),(false,11),(false,12),(false,13)] [(false,14),(false,15),(false,16),(false,17),(false,18),(false,19),(false,20),(false,21),(false,22)] (s:=12) (p:=20) rfl rfl (fun hg1=>?_) (fun hg1=>?_) ?_;rotate_left
 ·refine Zl rfl Tf.f40_0 rfl<|Ze 0 rfl Tf.a37 rfl hB1 rfl<|aW rfl U37 rfl hh0 rfl rfl ⟨_,rfl,rfl⟩<|Zl rfl Tf.f40_0 rfl<|Ze 0 rfl Tf.a37 rfl hB2 rfl<|aW rfl U37 rfl gh0 rfl rfl ⟨_,rfl,rfl⟩<|eQ rfl rfl rfl rfl ⟨_,rfl,rfl⟩<|Zaa rfl ?_;exact L.cu 7
 ·refine Zi rfl<|Zi rfl<|Zi rfl<|Zi rfl<|Zi rfl<|Zi rfl<|Zi rfl<|Zz rfl ?_;exact L.cu 7
 refine Zb rfl ?_;refine' iE [(false,15),(false,16),(false,17),(false,18),(false,19),(false,20),(false,21),(false,22)] [] (s:=21) (p:=29) rfl rfl (fun hg2=>?_) (fun hg2=>?_) ?_;rotate_left
 ·refine Zl rfl Tf.f40_2 rfl<|Ze 2 rfl Tf.a38 rfl hB1 rfl<|aW rfl U38 rfl hm0 rfl rfl ⟨_,rfl,rfl⟩<|Zl rfl Tf.f40_2 rfl<|Ze 2 rfl Tf.a38 rfl hB2 rfl<|aW rfl U38 rfl gm0 rfl rfl ⟨_,rfl,rfl⟩<|eQ rfl rfl rfl rfl ⟨_,rfl,rfl⟩<|Zaa rfl ?_;exact L.cu 7
 ·refine Zi rfl<|Zi rfl<|Zi rfl<|Zi rfl<|Zi rfl<|Zi rfl<|Zi rfl<|Zz rfl ?_;exact L.cu 7
 refine L.n1<|aJ rfl (fun hc1=>?_) (fun hc1=>?_)
 ·refine C.s1<|Zj rfl<|L.n5<|Zah ?_;exact Za [_] rfl ⟨rfl,aNM⟩ (fun D hD=>aKJ Value.bool (aFO hc1).symm)
 ·obtain⟨hw,hl5,hl6⟩:=aGE hc1;refine C.kn<|C.s2<|Zj rfl<|L.n1<|Zak<|cN (γ:=Nat) (fun k=>(a0.chairs).length-k) (fun k=>k≤(a0.chairs).length∧(a0.chairs).take k=(b0.chairs).take k) (fun k=>[(5,.int .i64 (k:Int))]) [(4,_),(3,_),(2,_)] (fun k=>[E2,E1,D]) 0 Ye ⟨Ya,aNM⟩ C.rs (aD) ?_;rintro k ⟨h1,h2⟩;refine C.s2<|Zb rfl<|Zk rfl Tf.f40_0 rfl<|Zd 0 rfl Tf.a37 rfl hB1 rfl<|aW rfl U37 rfl hh0 rfl rfl trivial<|Zad rfl<|L.n1<|aF rfl (fun hc2=>?_) (fun hc2=>?_)
  ·have hk:k<(a0.chairs).length:=by omega
   obtain⟨a,ha⟩:∃a,(a0.chairs)[k]?= some a:=⟨_,aJT hk⟩
   obtain⟨b,hb⟩:∃b,(b0.chairs)[k]?= some b:=⟨_,aJT Yd⟩
   refine C.kn<|aCX<|Zak<|aCX<|C.drawA [] 4 11 996 (fun _ _ _ h=>cZ (P:=Tryz.prog) (fn:=Tryz.f29) _ _ _ h)<|Zk rfl Tf.f40_0 rfl<|Zd 0 rfl Tf.a37 rfl hB1 rfl<|Zb rfl<|Zq rfl U37 Tf.s148 rfl hh0 rfl ha (fun b1 o1 cs1 hr1 hcl1 hA1=>?_);have e1:cs1=_:=hr1;subst e1;refine Zr rfl Tf.a148 rfl hA1 Tf.s148<|Zk rfl Tf.f40_0 rfl<|Zd 0 rfl Tf.a37 rfl hB2 rfl<|Zb rfl<|Zq rfl U37 Tf.s148 rfl gh0 rfl hb (fun b2 o2 cs2 hr2 hcl2 hA2=>?_);have e2:cs2=_:=hr2;subst e2;refine Zr rfl Tf.a148 rfl hA2 Tf.s148<|ZV (l:=[a.size,a.parts.a,a.parts.b,a.parts.c]) (m:=[b.size,b.parts.a,b.parts.b,b.parts.c]) rfl aHK rfl rfl rfl rfl rfl trivial<|L.n1<|aJ rfl (fun hc3=>?_) (fun hc3=>?_)
   ·refine C.s1<|Zj rfl<|L.n5<|Zam<|Zah<|Zah<|Zam<|Zah ?_;exact Za [_] rfl ⟨rfl,aNM⟩ (fun D hD=>aKJ Value.bool (aNJ (fun e=>absurd (y7 ha hb (e.2.1)) (aFC (f:=aHQ) hc3))).symm)
   ·refine aAX<|Zal<|Zai<|C.rg<|Zb rfl<|Zx rfl<|Zj rfl<|Zy ?_;exact aH 20 (k+1) ⟨by omega,SK ha hb h2 (aGQ (aEZ hc3))⟩ Yd ⟨Ya,aNM⟩ rfl rfl (aJU _) (aD)
  ·have h5:a0.chairs=b0.chairs:=FC hl5 Yd h2;refine aR<|Zaj<|Zaj<|Zan<|Zai<|C.s2<|Zj rfl<|L.n1<|Zak<|cN (γ:=Nat) (fun k=>(a0.claims).length-k) (fun k=>k≤(a0.claims).length∧(a0.claims).take k=(b0.claims).take k) (fun k=>[(6,.int .i64 (k:Int))]) [(4,_),(3,_),(2,_)] (fun k=>[E2,E1,D]) 0 Ye ⟨Ya,aNM⟩ C.rs (aD) ?_;rintro k ⟨h1,h2⟩;refine C.s2<|Zb rfl<|Zk rfl Tf.f40_2 rfl<|Zd 2 rfl Tf.a38 rfl hB1 rfl<|aW rfl U38 rfl hm0 rfl rfl trivial<|Zad rfl<|L.n1<|aF rfl (fun hc4=>?_) (fun hc4=>?_)
   ·have hk:k<(a0.claims).length:=by omega
    obtain⟨a,ha⟩:∃a,(a0.claims)[k]?= some a:=⟨_,aJT hk⟩
    obtain⟨b,hb⟩:∃b,(b0.claims)[k]?= some b:=⟨_,aJT Yd⟩
    refine C.kn<|aCX<|Zak<|aCX<|C.drawA [] 4 11 996 (fun _ _ _ h=>cZ (P:=Tryz.prog) (fn:=Tryz.f29) _ _ _ h)<|Zk rfl Tf.f40_2 rfl<|Zd 2 rfl Tf.a38 rfl hB1 rfl<|Zb rfl<|Zq rfl U38 Tf.s69 rfl hm0 rfl ha (fun b3 o3 cs3 hr3 hcl3 hA3=>?_);have e3:cs3=_:=hr3;subst e3;refine Zr rfl Tf.a69 rfl hA3 Tf.s69<|Zk rfl Tf.f40_2 rfl<|Zd 2 rfl Tf.a38 rfl hB2 rfl<|Zb rfl<|Zq rfl U38 Tf.s69 rfl gm0 rfl hb (fun b4 o4 cs4 hr4 hcl4 hA4=>?_);have e4:cs4=_:=hr4;subst e4;refine Zr rfl Tf.a69 rfl hA4 Tf.s69<|ZV (l:=[a.1,a.2]) (m:=[b.1,b.2]) rfl aHS rfl rfl rfl rfl rfl trivial<|L.n1<|aJ rfl (fun hc5=>?_) (fun hc5=>?_)
    ·refine C.s1<|Zj rfl<|L.n5<|Zam<|Zah<|Zah<|Zam<|Zah ?_;exact Za [_] rfl ⟨rfl,aNM⟩ (fun D hD=>aKJ Value.bool (aNJ (fun e=>absurd (y7 ha hb (e.2.2)) (aFC (f:=aHR) hc5))).symm)
    ·refine aAX<|Zal<|Zai<|C.rg<|Zb rfl<|Zx rfl<|Zj rfl<|Zy ?_;exact aH 20 (k+1) ⟨by omega,SK ha hb h2 (aGR (aEZ hc5))⟩ Yd ⟨Ya,aNM⟩ rfl rfl (aJU _) (aD)
   ·have h6:a0.claims=b0.claims:=FC hl6 Yd h2;refine aR<|Zaj<|Zaj<|Zan<|Zai<|C.s1<|Zj rfl<|L.n5 ?_;exact Za [_] rfl ⟨rfl,aNM⟩ (fun D hD=>aKJ Value.bool (decide_eq_true (⟨hw,h5,h6⟩)).symm)
theorem aGT(av bv:Value)(a0 b0:aN)(D:aA)(hx:gW D av a0)(hy:gW D bv b0):Fn Tryz.prog 20 #[av,bv] D (fun _ v=>v=.bool (aFE a0 b0)):=by
 obtain⟨pv,cv,hv,lv,mv,bl,bc,yc,yq,rfl,hL⟩:=hx;obtain⟨pv2,cv2,hv2,lv2,mv2,bl2,bc2,yc2,yq2,rfl,hM⟩:=hy;unfold bS;refine enter 31 Tryz.func20 rfl rfl rfl rfl fun h0=>C.s1<|Zu rfl (fun q1 E1 hE1 hB1=>Zu rfl (fun q2 E2 hE2 hB2=>Zj rfl<|L.n3<|Zk rfl Tf.f42_0 rfl<|dO rfl (k:=0) Tf.a28 Tf.s28 rfl hB1 Yc rfl rfl aJN rfl trivial<|Zk rfl Tf.f42_0 rfl<|dO rfl (k:=0) Tf.a28 Tf.s28 rfl hB2 Yc rfl rfl aJN rfl trivial<|Zf rfl (fun D1 hD1=>aFA _ _ a0.row b0.row _ (hL.row.up (hD1 _ Ye)) (hM.row.up (hD1 _ Ye)))<|Zb rfl ?_))
 refine' cQ [(false,6),(false,7),(false,8),(false,9),(false,10),(false,11)] [(false,12),(false,13),(false,14),(false,15),(false,16),(false,17),(false,18),(false,19),(false,20),(false,21),(false,22),(false,23),(false,24),(false,25),(false,26)] (s:=10) (p:=16) rfl rfl (fun hg1=>?_) (fun hg1=>?_) ?_;rotate_left
 ·refine Zl rfl Tf.f42_1 rfl<|dO rfl (k:=4) Tf.a32 Tf.s32 rfl hB1 Yc rfl rfl aJN rfl ⟨_,rfl,rfl⟩<|Zl rfl Tf.f42_1 rfl<|dO rfl (k:=4) Tf.a32 Tf.s32 rfl hB2 Yc rfl rfl aJN rfl ⟨_,rfl,rfl⟩<|Zg rfl (fun D2 hD2=>aEM _ _ a0.table b0.table _ (hL.table.up (hD2 _ Ye)) (hM.table.up (hD2 _ Ye)))<|Zz rfl ?_;exact L.cu 5
 ·refine Zi rfl<|Zi rfl<|Zi rfl<|Zi rfl<|Zi rfl<|Zaa rfl ?_;exact L.cu 5
 refine Zb rfl ?_;refine' cQ [(false,13),(false,14),(false,15),(false,16),(false,17),(false,18)] [(false,19),(false,20),(false,21),(false,22),(false,23),(false,24),(false,25),(false,26)] (s:=17) (p:=23) rfl rfl (fun hg2=>?_) (fun hg2=>?_) ?_;rotate_left
 ·refine Zl rfl Tf.f42_2 rfl<|dO rfl (k:=9) Tf.a36 Tf.s36 rfl hB1 Yc rfl rfl aJN rfl ⟨_,rfl,rfl⟩<|Zl rfl Tf.f42_2 rfl<|dO rfl (k:=9) Tf.a36 Tf.s36 rfl hB2 Yc rfl rfl aJN rfl ⟨_,rfl,rfl⟩<|Zg rfl (fun D3 hD3=>aEQ _ _ a0.book b0.book _ (hL.book.up (hD3 _ Ye)) (hM.book.up (hD3 _ Ye)))<|Zz rfl ?_;exact L.cu 5
 ·refine Zi rfl<|Zi rfl<|Zi rfl<|Zi rfl<|Zi rfl<|Zaa rfl ?_;exact L.cu 5
 refine Zb rfl ?_;refine' cQ [(false,20),(false,21),(false,22),(false,23),(false,24),(false,25)] [(false,26)] (s:=24) (p:=30) rfl rfl (fun hg3=>?_) (fun hg3=>?_) ?_;rotate_left
 ·refine Zl rfl Tf.f42_3 rfl<|dO rfl (k:=14) Tf.a40 Tf.s40 rfl hB1 Yc rfl rfl aJN rfl ⟨_,rfl,rfl⟩<|Zl rfl Tf.f42_3 rfl<|dO rfl (k:=14) Tf.a40 Tf.s40 rfl hB2 Yc rfl rfl aJN rfl ⟨_,rfl,rfl⟩<|Zg rfl (fun D4 hD4=>aES _ _ a0.yard b0.yard _ (hL.yard.up (hD4 _ Ye)) (hM.yard.up (hD4 _ Ye)))<|Zz rfl ?_;exact L.cu 5
 ·refine Zi rfl<|Zi rfl<|Zi rfl<|Zi rfl<|Zi rfl<|Zaa rfl ?_;exact L.cu 5
 refine Zj rfl<|L.n5 ?_;exact Za [_] rfl ⟨rfl,aNM⟩ (fun D hD=>rfl)
end L12
end Go.Fs
namespace Go.Fs
open Go.Proofs
namespace L12
open C12
theorem aEL(ls:List ByteArray):(mM ls).2.length=ls.length:=by
 have key:∀(ls:List ByteArray) (p:aN×List Int),(ls.foldl (fun p l=>((uA p.1 l).1,p.2++[(uA p.1 l).2])) p).2.length=p.2.length+ls.length:=by
  intro ls;induction ls with
  |nil=>intro p;simp
  |cons l ls ih=>intro p;rw[aMF,ih];simp;omega
 have:=key ls (yA,[]);simpa [mM]using this
def oU(s:aN)(ls:List ByteArray):aN:=ls.foldl (fun s l=>(uA s l).1) s
def aEK(s:aN):List ByteArray→List Int
 | []=>[]
 |l::ls=>(uA s l).2::aEK (uA s l).1 ls
theorem aGU(s:aN)(l:ByteArray)(ls:List ByteArray):oU s (l::ls)=oU (uA s l).1 ls:=rfl
theorem aHD(s:aN)(ls ms:List ByteArray):oU s (ls++ms)=oU (oU s ls) ms:=by simp[oU,aMA]
theorem aGB(ms:List ByteArray):∀(ls:List ByteArray) (s:aN),aEK s (ls++ms)=aEK s ls++aEK (oU s ls) ms
 | [],_=>rfl
 |l::ls,s=>by
  show(uA s l).2::aEK (uA s l).1 (ls++ms)=(uA s l).2::(aEK (uA s l).1 ls++aEK (oU (uA s l).1 ls) ms);rw[aGB ms ls]
theorem aFD(ls:List ByteArray):mM ls=(oU yA ls,aEK yA ls):=by
 have key:∀(ls:List ByteArray) (s:aN) (es:List Int),ls.foldl (fun p l=>((uA p.1 l).1,p.2++[(uA p.1 l).2])) (s,es)=(oU s ls,es++aEK s ls):=by
  intro ls;induction ls with
  |nil=>intro s es;simp[oU,aEK]
  |cons l ls ih=>intro s es;rw[aMF,ih];simp[aGU,aEK]
 have:=key ls yA [];simpa [mM]using this
theorem aHP{s:aN}{l:ByteArray}(h:(uA s l).2≠0):(uA s l).1=s:=by
 unfold uA at h ⊢
 split
 ·rfl
 ·rename_i act n hp;rw[hp]at h;simp only at h;split
  ·rfl
  ·rename_i s2 ha;rw[ha]at h;simp only at h;split at h
   ·exact absurd rfl h
   ·rename_i hs;rw[aKO hs]
theorem aFQ{ls:List ByteArray}(h1:ls.length≤40)(h2:∀x∈ls,x.size≤50):dW ls=0:=MS h1 h2
end L12
end Go.Fs
namespace Go.Fs
open Go.Proofs
namespace L12
open C12
def P8(w:ByteArray):Int:=if w=⟨#[112,108,97,99,101]⟩∨w=⟨#[115,101,101,110]⟩∨w=⟨#[99,111,117,110,116]⟩∨w=⟨#[98,97,99,107]⟩∨w=⟨#[117,110,99,111,117,110,116]⟩∨w=⟨#[119,114,111,110,103]⟩∨w=⟨#[111,102,102]⟩then 1 else if w=⟨#[116,105,100,101]⟩∨w=⟨#[115,116,101,112]⟩∨w=⟨#[108,101,118,101,108]⟩∨w=⟨#[114,97,105,115,101]⟩∨w=⟨#[109,97,114,107]⟩∨w=⟨#[117,110,109,97,114,107]⟩then 2 else if w=⟨#[104,105,114,101]⟩∨w=⟨#[98,114,105,110,103]⟩∨w=⟨#[115,109,117,100,103,101]⟩∨w=⟨#[115,116,114,105,107,101]⟩then 3 else 4
theorem aHJ{w:ByteArray}(n0:¬w=⟨#[112,108,97,99,101]⟩)(n1:¬w=⟨#[115,101,101,110]⟩)(n2:¬w=⟨#[99,111,117,110,116]⟩)(n3:¬w=⟨#[98,97,99,107]⟩)(n4:¬w=⟨#[117,110,99,111,117,110,116]⟩)(n5:¬w=⟨#[119,114,111,110,103]⟩)(n6:¬w=⟨#[111,102,102]⟩)(n7:¬w=⟨#[116,105,100,101]⟩)(n8:¬w=⟨#[115,116,101,112]⟩)(n9:¬w=⟨#[108,101,118,101,108]⟩)(n10:¬w=⟨#[114,97,105,115,101]⟩)(n11:¬w=⟨#[109,97,114,107]⟩)(n12:¬w=⟨#[117,110,109,97,114,107]⟩)(n13:¬w=⟨#[104,105,114,101]⟩)(n14:¬w=⟨#[98,114,105,110,103]⟩)(n15:¬w=⟨#[115,109,117,100,103,101]⟩)(n16:¬w=⟨#[115,116,114,105,107,101]⟩):(4:Int)=P8 w:=by
 unfold P8;rw[aKO (by simp only[n0,n1,n2,n3,n4,n5,n6,or_self,aIZ]),aKO (by simp only[n7,n8,n9,n10,n11,n12,or_self,aIZ]),aKO (by simp only[n13,n14,n15,n16,or_self,aIZ])]
theorem aGX{ls ms:List ByteArray}(h:dW (ls++ms)=0):dW ls=0:=by
 have h1:=tH h;rw[aJZ]at h1;exact aFQ Yd fun y hy=>F0 h y (aKC _ hy)
theorem aER{ls:List ByteArray}(h:dW ls=0):(aL ls).2.2=0:=by rw[kF h]
theorem aHB{ls:List ByteArray}(h:dW ls=0):(aL ls).2.1.length=ls.length:=by rw[kF h];exact aEL ls
theorem aEI{ls:List ByteArray}(h:dW ls=0):(aL ls).1=(mM ls).1:=by rw[kF h]
theorem aEY(ls ms:List ByteArray):mM (ls++ms)=(oU (mM ls).1 ms,(mM ls).2++aEK (mM ls).1 ms):=by
 rw[aFD,aFD,aHD,aGB]
theorem aGW{ls:List ByteArray}{x:ByteArray}(h:dW (ls++[x])=0):(aL (ls++[x])).2.1[ls.length]?= some (uA (mM ls).1 x).2:=by
 rw[kF h,aEY];show((mM ls).2++aEK (mM ls).1 [x])[ls.length]?= _;rw[aJO (by rw[aEL];exact aKR _),aEL,Nat.sub_self];rfl
theorem aET{ls:List ByteArray}{x:ByteArray}:(mM (ls++[x])).1=(uA (mM ls).1 x).1:=by rw[aEY];rfl
def K6(k:Int)(f:fI):Prop:=∀s n s',f s n=.ok s'→(k=1∨s'.row=s.row)∧(k=2∨s'.table=s.table)∧(k=3∨s'.book=s.book)∧(k=4∨s'.yard=s.yard)
theorem aFR:K6 1 (xZ):=by
 intro s n s' e;unfold xZ at e;repeat' split at e
 all_goals cases e
 all_goals exact⟨.inl rfl,.inr rfl,.inr rfl,.inr rfl⟩
theorem aGO:K6 1 (H9):=by
 intro s n s' e;unfold H9 at e;repeat' split at e
 all_goals cases e
 all_goals exact⟨.inl rfl,.inr rfl,.inr rfl,.inr rfl⟩
theorem aEN(b:Bool):K6 1 (mK b):=by
 intro s n s' e;unfold mK at e;repeat' split at e
 all_goals cases e
 all_goals exact⟨.inl rfl,.inr rfl,.inr rfl,.inr rfl⟩
theorem aEX:K6 1 (pJ):=by
 intro s n s' e;unfold pJ at e;repeat' split at e
 all_goals cases e
 all_goals exact⟨.inl rfl,.inr rfl,.inr rfl,.inr rfl⟩
theorem aGD:K6 1 (xU):=by
 intro s n s' e;unfold xU at e;repeat' split at e
 all_goals cases e
 all_goals exact⟨.inl rfl,.inr rfl,.inr rfl,.inr rfl⟩
theorem aGS:K6 1 (LZ):=by
 intro s n s' e;unfold LZ at e;repeat' split at e
 all_goals cases e
 all_goals exact⟨.inl rfl,.inr rfl,.inr rfl,.inr rfl⟩
theorem aGM:K6 2 (K0):=by
 intro s n s' e;unfold K0 at e;repeat' split at e
 all_goals cases e
 all_goals exact⟨.inr rfl,.inl rfl,.inr rfl,.inr rfl⟩
theorem aGH:K6 2 (R0):=by
 intro s n s' e;unfold R0 at e;repeat' split at e
 all_goals cases e
 all_goals exact⟨.inr rfl,.inl rfl,.inr rfl,.inr rfl⟩
theorem aFY:K6 2 (vO):=by
 intro s n s' e;unfold vO at e;repeat' split at e
 all_goals cases e
 all_goals exact⟨.inr rfl,.inl rfl,.inr rfl,.inr rfl⟩
theorem aGC:K6 2 (vJ):=by
 intro s n s' e;unfold vJ at e;repeat' split at e
 all_goals cases e
 all_goals exact⟨.inr rfl,.inl rfl,.inr rfl,.inr rfl⟩
theorem aGJ:K6 2 (vY):=by
 intro s n s' e;unfold vY at e;repeat' split at e
 all_goals cases e
 all_goals exact⟨.inr rfl,.inl rfl,.inr rfl,.inr rfl⟩
theorem aFI:K6 2 (tJ):=by
 intro s n s' e;unfold tJ at e;repeat' split at e
 all_goals cases e
 all_goals exact⟨.inr rfl,.inl rfl,.inr rfl,.inr rfl⟩
theorem aEO(b:Int):K6 3 (mG b):=by
 intro s n s' e;unfold mG at e;repeat' split at e
 all_goals cases e
 all_goals exact⟨.inr rfl,.inr rfl,.inl rfl,.inr rfl⟩
theorem aFG:K6 3 (qI):=by
 intro s n s' e;unfold qI at e;repeat' split at e
 all_goals cases e
 all_goals exact⟨.inr rfl,.inr rfl,.inl rfl,.inr rfl⟩
theorem aFH:K6 3 (tN):=by
 intro s n s' e;unfold tN at e;repeat' split at e
 all_goals cases e
 all_goals exact⟨.inr rfl,.inr rfl,.inl rfl,.inr rfl⟩
theorem aFN:K6 4 (qV):=by
 intro s n s' e;unfold qV at e;repeat' split at e
 all_goals cases e
 all_goals exact⟨.inr rfl,.inr rfl,.inr rfl,.inl rfl⟩
theorem aGF:K6 4 (zC):=by
 intro s n s' e;unfold zC at e;repeat' split at e
 all_goals cases e
 all_goals exact⟨.inr rfl,.inr rfl,.inr rfl,.inl rfl⟩
theorem aHC:K6 4 (LB):=by
 intro s n s' e;unfold LB at e;repeat' split at e
 all_goals cases e
 all_goals exact⟨.inr rfl,.inr rfl,.inr rfl,.inl rfl⟩
theorem aGA:K6 4 (uX):=by
 intro s n s' e;unfold uX at e;repeat' split at e
 all_goals cases e
 all_goals exact⟨.inr rfl,.inr rfl,.inr rfl,.inl rfl⟩
theorem aEW:K6 4 (pV):=by
 intro s n s' e;unfold pV at e;repeat' split at e
 all_goals cases e
 all_goals exact⟨.inr rfl,.inr rfl,.inr rfl,.inl rfl⟩
theorem aGK:∀x∈lC,K6 (P8 ⟨x.1.toArray⟩) x.2.2:=by
 intro x hx;simp only[lC,aJX,aJN,aMT]at hx;rcases hx with rfl|rfl|rfl|rfl|rfl|rfl|rfl|rfl|rfl|rfl|rfl|rfl|rfl|rfl|rfl|rfl|rfl|rfl|rfl|rfl|rfl|rfl
 ·have hk:P8 ⟨[112,108,97,99,101].toArray⟩=1:=by decide+kernel
  show K6 (P8 ⟨[112,108,97,99,101].toArray⟩) _;rw[hk];exact aFR
 ·have hk:P8 ⟨[115,101,101,110].toArray⟩=1:=by decide+kernel
  show K6 (P8 ⟨[115,101,101,110].toArray⟩) _;rw[hk];exact aGO
 ·have hk:P8 ⟨[99,111,117,110,116].toArray⟩=1:=by decide+kernel
  show K6 (P8 ⟨[99,111,117,110,116].toArray⟩) _;rw[hk];exact aEN false
 ·have hk:P8 ⟨[98,97,99,107].toArray⟩=1:=by decide+kernel
  show K6 (P8 ⟨[98,97,99,107].toArray⟩) _;rw[hk];exact aEN true
 ·have hk:P8 ⟨[117,110,99,111,117,110,116].toArray⟩=1:=by decide+kernel
  show K6 (P8 ⟨[117,110,99,111,117,110,116].toArray⟩) _;rw[hk];exact aEX
 ·have hk:P8 ⟨[119,114,111,110,103].toArray⟩=1:=by decide+kernel
  show K6 (P8 ⟨[119,114,111,110,103].toArray⟩) _;rw[hk];exact aGD
 ·have hk:P8 ⟨[111,102,102].toArray⟩=1:=by decide+kernel
  show K6 (P8 ⟨[111,102,102].toArray⟩) _;rw[hk];exact aGS
 ·have hk:P8 ⟨[116,105,100,101].toArray⟩=2:=by decide+kernel
  show K6 (P8 ⟨[116,105,100,101].toArray⟩) _;rw[hk];exact aGM
 ·have hk:P8 ⟨[115,116,101,112].toArray⟩=2:=by decide+kernel
  show K6 (P8 ⟨[115,116,101,112].toArray⟩) _;rw[hk];exact aGH
 ·have hk:P8 ⟨[108,101,118,101,108].toArray⟩=2:=by decide+kernel
  show K6 (P8 ⟨[108,101,118,101,108].toArray⟩) _;rw[hk];exact aFY
 ·have hk:P8 ⟨[114,97,105,115,101].toArray⟩=2:=by decide+kernel
  show K6 (P8 ⟨[114,97,105,115,101].toArray⟩) _;rw[hk];exact aGC
 ·have hk:P8 ⟨[109,97,114,107].toArray⟩=2:=by decide+kernel
  show K6 (P8 ⟨[109,97,114,107].toArray⟩) _;rw[hk];exact aGJ
 ·have hk:P8 ⟨[117,110,109,97,114,107].toArray⟩=2:=by decide+kernel
  show K6 (P8 ⟨[117,110,109,97,114,107].toArray⟩) _;rw[hk];exact aFI
 ·have hk:P8 ⟨[104,105,114,101].toArray⟩=3:=by decide+kernel
  show K6 (P8 ⟨[104,105,114,101].toArray⟩) _;rw[hk];exact aEO 1
 ·have hk:P8 ⟨[98,114,105,110,103].toArray⟩=3:=by decide+kernel
  show K6 (P8 ⟨[98,114,105,110,103].toArray⟩) _;rw[hk];exact aEO 2
 ·have hk:P8 ⟨[115,109,117,100,103,101].toArray⟩=3:=by decide+kernel
  show K6 (P8 ⟨[115,109,117,100,103,101].toArray⟩) _;rw[hk];exact aFG
 ·have hk:P8 ⟨[115,116,114,105,107,101].toArray⟩=3:=by decide+kernel
  show K6 (P8 ⟨[115,116,114,105,107,101].toArray⟩) _;rw[hk];exact aFH
 ·have hk:P8 ⟨[98,114,111,107,101,110].toArray⟩=4:=by decide+kernel
  show K6 (P8 ⟨[98,114,111,107,101,110].toArray⟩) _;rw[hk];exact aFN
 ·have hk:P8 ⟨[112,97,114,116].toArray⟩=4:=by decide+kernel
  show K6 (P8 ⟨[112,97,114,116].toArray⟩) _;rw[hk];exact aGF
 ·have hk:P8 ⟨[102,105,116].toArray⟩=4:=by decide+kernel
  show K6 (P8 ⟨[102,105,116].toArray⟩) _;rw[hk];exact aHC
 ·have hk:P8 ⟨[99,108,97,105,109].toArray⟩=4:=by decide+kernel
  show K6 (P8 ⟨[99,108,97,105,109].toArray⟩) _;rw[hk];exact aGA
 ·have hk:P8 ⟨[117,110,99,108,97,105,109].toArray⟩=4:=by decide+kernel
  show K6 (P8 ⟨[117,110,99,108,97,105,109].toArray⟩) _;rw[hk];exact aEW
theorem aGZ{s:aN}{x p0:ByteArray}{ps:List ByteArray}(hc:dB x=p0::ps):(P8 p0=1∨(uA s x).1.row=s.row)∧(P8 p0=2∨(uA s x).1.table=s.table)∧(P8 p0=3∨(uA s x).1.book=s.book)∧(P8 p0=4∨(uA s x).1.yard=s.yard):=by
 have same:∀t:aN,t=s→(P8 p0=1∨t.row=s.row)∧(P8 p0=2∨t.table=s.table)∧(P8 p0=3∨t.book=s.book)∧(P8 p0=4∨t.yard=s.yard):=fun t e=>by subst e;exact⟨.inr rfl,.inr rfl,.inr rfl,.inr rfl⟩
 unfold uA;rw[yK hc];cases hf:lC.find? (fun y=>y.1==p0.data.toList)with
 |none=>exact same _ rfl
 |some y=>
  obtain⟨l,k,act⟩:=y;have hl:l=p0.data.toList:=by simpa using List.find?_some hf
  have ho:=aGK _ (List.mem_of_find?_eq_some hf);have hp:(⟨l.toArray⟩:ByteArray)=p0:=by rw[hl]
  simp only at ho ⊢
  rw[hp]at ho;split
  ·exact same _ rfl
  ·rename_i a n hm;split at hm
   ·obtain⟨m,_,hm⟩:=aMP.1 hm;cases hm;split
    ·exact same _ rfl
    ·rename_i s2 ha;split
     ·exact ho _ _ _ ha
     ·exact same _ rfl
   ·cases hm
theorem aGL{s:aN}{x p0:ByteArray}{ps:List ByteArray}(hc:dB x=p0::ps):(decide (P8 p0=1)||IM s.row (uA s x).1.row)=true∧(decide (P8 p0=2)||j9 s.table (uA s x).1.table)=true∧(decide (P8 p0=3)||AU s.book (uA s x).1.book)=true∧(decide (P8 p0=4)||DB s.yard (uA s x).1.yard)=true:=by
 obtain⟨h1,h2,h3,h4⟩:=aGZ (s:=s) hc;refine⟨?_,?_,?_,?_⟩
 ·rcases h1 with h|h
  ·rw[h];rfl
  ·rw[h,aEP,Bool.or_true]
 ·rcases h2 with h|h
  ·rw[h];rfl
  ·rw[h,aEF,Bool.or_true]
 ·rcases h3 with h|h
  ·rw[h];rfl
  ·rw[h,aEH,Bool.or_true]
 ·rcases h4 with h|h
  ·rw[h];rfl
  ·rw[h,aEJ,Bool.or_true]
theorem aHT(w:ByteArray)(D:aA):Fn Tryz.prog 24 #[.string w] D (fun _ v=>v=.int .i64 (P8 w)):=by
 refine enter 24 Tryz.func24 rfl rfl rfl rfl fun h0=>C.s1<|Zj rfl<|L.n4<|Zb rfl<|L.n1<|Zak<|C.s2<|Zag rfl<|Zj rfl<|L.n1<|aJ rfl (fun hc1=>?_) (fun hc1=>?_)
 ·refine C.kn<|gG rfl hc1<|C.s1<|Zj rfl<|L.n5<|Zam<|Zah ?_;exact Za [_] rfl ⟨rfl,aNM⟩ (fun D hD=>by obtain rfl:=aKW hc1;exact aKJ (Value.int .i64) Yt)
 ·refine C.s1<|Zag rfl<|Zj rfl<|L.n1<|aJ rfl (fun hc2=>?_) (fun hc2=>?_)
  ·refine C.kn<|gG rfl hc2<|C.s1<|Zj rfl<|L.n5<|Zam<|Zah ?_;exact Za [_] rfl ⟨rfl,aNM⟩ (fun D hD=>by obtain rfl:=aKW hc2;exact aKJ (Value.int .i64) Yt)
  ·refine C.s1<|Zag rfl<|Zj rfl<|L.n1<|aJ rfl (fun hc3=>?_) (fun hc3=>?_)
   ·refine C.kn<|gG rfl hc3<|C.s1<|Zj rfl<|L.n5<|Zam<|Zah ?_;exact Za [_] rfl ⟨rfl,aNM⟩ (fun D hD=>by obtain rfl:=aKW hc3;exact aKJ (Value.int .i64) Yt)
   ·refine C.s1<|Zag rfl<|Zj rfl<|L.n1<|aJ rfl (fun hc4=>?_) (fun hc4=>?_)
    ·refine C.kn<|gG rfl hc4<|C.s1<|Zj rfl<|L.n5<|Zam<|Zah ?_;exact Za [_] rfl ⟨rfl,aNM⟩ (fun D hD=>by obtain rfl:=aKW hc4;exact aKJ (Value.int .i64) Yt)
    ·refine C.s1<|Zag rfl<|Zj rfl<|L.n1<|aJ rfl (fun hc5=>?_) (fun hc5=>?_)
     ·refine C.kn<|gG rfl hc5<|C.s1<|Zj rfl<|L.n5<|Zam<|Zah ?_;exact Za [_] rfl ⟨rfl,aNM⟩ (fun D hD=>by obtain rfl:=aKW hc5;exact aKJ (Value.int .i64) Yt)
     ·refine C.s1<|Zag rfl<|Zj rfl<|L.n1<|aJ rfl (fun hc6=>?_) (fun hc6=>?_)
      ·refine C.kn<|gG rfl hc6<|C.s1<|Zj rfl<|L.n5<|Zam<|Zah ?_;exact Za [_] rfl ⟨rfl,aNM⟩ (fun D hD=>by obtain rfl:=aKW hc6;exact aKJ (Value.int .i64) Yt)
      ·refine C.rg<|Zag rfl<|Zj rfl<|L.n1<|aJ rfl (fun hc7=>?_) (fun hc7=>?_)
       ·refine C.s1<|Zj rfl<|L.n5<|Zam<|Zah ?_;exact Za [_] rfl ⟨rfl,aNM⟩ (fun D hD=>by obtain rfl:=aKW hc7;exact aKJ (Value.int .i64) Yt)
       ·refine C.s2<|Zag rfl<|Zj rfl<|L.n1<|aJ rfl (fun hc8=>?_) (fun hc8=>?_)
        ·refine C.kn<|gG rfl hc8<|C.s1<|Zj rfl<|L.n5<|Zam<|Zah ?_;exact Za [_] rfl ⟨rfl,aNM⟩ (fun D hD=>by obtain rfl:=aKW hc8;exact aKJ (Value.int .i64) Yt)
        ·refine C.s1<|Zag rfl<|Zj rfl<|L.n1<|aJ rfl (fun hc9=>?_) (fun hc9=>?_)
         ·refine C.kn<|gG rfl hc9<|C.s1<|Zj rfl<|L.n5<|Zam<|Zah ?_;exact Za [_] rfl ⟨rfl,aNM⟩ (fun D hD=>by obtain rfl:=aKW hc9;exact aKJ (Value.int .i64) Yt)
         ·refine C.s1<|Zag rfl<|Zj rfl<|L.n1<|aJ rfl (fun hc10=>?_) (fun hc10=>?_)
          ·refine C.kn<|gG rfl hc10<|C.s1<|Zj rfl<|L.n5<|Zam<|Zah ?_;exact Za [_] rfl ⟨rfl,aNM⟩ (fun D hD=>by obtain rfl:=aKW hc10;exact aKJ (Value.int .i64) Yt)
          ·refine C.s1<|Zag rfl<|Zj rfl<|L.n1<|aJ rfl (fun hc11=>?_) (fun hc11=>?_)
           ·refine C.kn<|gG rfl hc11<|C.s1<|Zj rfl<|L.n5<|Zam<|Zah ?_;exact Za [_] rfl ⟨rfl,aNM⟩ (fun D hD=>by obtain rfl:=aKW hc11;exact aKJ (Value.int .i64) Yt)
           ·refine C.s1<|Zag rfl<|Zj rfl<|L.n1<|aJ rfl (fun hc12=>?_) (fun hc12=>?_)
            ·refine C.kn<|gG rfl hc12<|C.s1<|Zj rfl<|L.n5<|Zam<|Zah ?_;exact Za [_] rfl ⟨rfl,aNM⟩ (fun D hD=>by obtain rfl:=aKW hc12;exact aKJ (Value.int .i64) Yt)
            ·refine C.rg<|Zag rfl<|Zj rfl<|L.n1<|aJ rfl (fun hc13=>?_) (fun hc13=>?_)
             ·refine C.s1<|Zj rfl<|L.n5<|Zam<|Zah ?_;exact Za [_] rfl ⟨rfl,aNM⟩ (fun D hD=>by obtain rfl:=aKW hc13;exact aKJ (Value.int .i64) Yt)
             ·refine C.s2<|Zag rfl<|Zj rfl<|L.n1<|aJ rfl (fun hc14=>?_) (fun hc14=>?_)
              ·refine C.kn<|gG rfl hc14<|C.s1<|Zj rfl<|L.n5<|Zam<|Zah ?_;exact Za [_] rfl ⟨rfl,aNM⟩ (fun D hD=>by obtain rfl:=aKW hc14;exact aKJ (Value.int .i64) Yt)
              ·refine C.s1<|Zag rfl<|Zj rfl<|L.n1<|aJ rfl (fun hc15=>?_) (fun hc15=>?_)
               ·refine C.kn<|gG rfl hc15<|C.s1<|Zj rfl<|L.n5<|Zam<|Zah ?_;exact Za [_] rfl ⟨rfl,aNM⟩ (fun D hD=>by obtain rfl:=aKW hc15;exact aKJ (Value.int .i64) Yt)
               ·refine C.s1<|Zag rfl<|Zj rfl<|L.n1<|aJ rfl (fun hc16=>?_) (fun hc16=>?_)
                ·refine C.kn<|gG rfl hc16<|C.s1<|Zj rfl<|L.n5<|Zam<|Zah ?_;exact Za [_] rfl ⟨rfl,aNM⟩ (fun D hD=>by obtain rfl:=aKW hc16;exact aKJ (Value.int .i64) Yt)
                ·refine C.rg<|Zag rfl<|Zj rfl<|L.n1<|aJ rfl (fun hc17=>?_) (fun hc17=>?_)
                 ·refine C.s1<|Zj rfl<|L.n5<|Zam<|Zah ?_;exact Za [_] rfl ⟨rfl,aNM⟩ (fun D hD=>by obtain rfl:=aKW hc17;exact aKJ (Value.int .i64) Yt)
                 ·refine aAX<|Zal<|Zai<|C.s1<|Zj rfl<|L.n5 ?_;exact Za [_] rfl ⟨rfl,aNM⟩ (fun D hD=>by show Value.int _ _=_;rw[aHJ (w:=w) (aKV hc1) (aKV hc2) (aKV hc3) (aKV hc4) (aKV hc5) (aKV hc6) (aKV hc7) (aKV hc8) (aKV hc9) (aKV hc10) (aKV hc11) (aKV hc12) (aKV hc13) (aKV hc14) (aKV hc15) (aKV hc16) (aKV hc17)])
theorem aGP(sv:Value)(xs:List ByteArray)(D:aA)(hS:Sl D RS 1 sv xs)(hl:xs.length≤10000000):BJ Tryz.prog 21 #[sv] D (fun _ v ν=>bR 9 1 v xs.length (xs.map Value.string) ν):=by
 refine mC 6 Tryz.func21 rfl rfl rfl rfl fun h0=>C.s1<|Zj rfl<|L.n3<|Zp rfl U22 Tf.s9 Tf.z9 rfl rfl rfl rfl .nil (fun b901 D901 hD901 hA901=>Zb rfl<|aX (A:=[]) (ν:=[]) (B:=[]) rfl U22 rfl rfl Tf.s9 Tf.z9 rfl Tf.i9 rfl rfl rfl bR.nil (jN.strs hS) Ye Yas rfl (MC _) Yd (aKP rfl) rfl aNM (fun v1 ν1 ha1=>Zj rfl<|L.n5 ?_))
 have ha2:bR 9 1 v1 xs.length (xs.map Value.string) ν1:=by simpa using ha1
 exact Za [_] rfl ⟨rfl,aNM⟩ (fun D' hD=>by simpa [nY]using ha2)
theorem aFM(lv:Value)(ls:List ByteArray)(x:ByteArray)(D:aA)(hS:Sl D RS 1 lv ls)(hV:kG D)(hbig:ls.length≤1048576):Fn Tryz.prog 6 #[lv,.string x] D (fun _ v=>v=.bool true):=by
 refine enter 112 Tryz.func6 rfl rfl rfl rfl fun h0=>C.s1<|Zj rfl<|L.n3<|Zb rfl<|eZ rfl rfl rfl (fun D80 hD80=>aGP _ ls _ (hS.up RS.up (hD80 _ Ye)) Yd) rfl aNM (fun w80 D81 ν80 hD81 ha80=>Zb rfl<|Zp rfl U22 Tf.s9 Tf.z9 rfl rfl rfl rfl (.cons rfl rfl .nil) (fun b901 D901 hD901 hA901=>aX (A:=[]) (ν:=ν80) (B:=[]) rfl U22 rfl rfl Tf.s9 Tf.z9 rfl Tf.i9 rfl rfl rfl ha80 (jN.lit Yk) Ye rfl Yas Yi Yd (aKP rfl) rfl aNM (fun v81 ν81 ha81=>?_)))
 have hap81:bR 9 1 v81 (ls++[x]).length ((ls++[x]).map Value.string) ν81:=by rw[aJZ,aKN];exact ha81
 refine Zj rfl<|L.n2<|aCX<|wR (A:=[]) (B:=[]) hap81 rfl (fun D82 hD82 hF82=>?_);have hall:Sl D82 RS 1 v81 (ls++[x]):=hF82.strs rfl Yad;refine C.rg<|Zb rfl<|Zf rfl (fun D1 hD1=>EV _ (ls++[x]) _ (hall.up RS.up (hD1 _ Ye)))<|Zae rfl<|L.n1<|aJ rfl (fun hc1=>?_) (fun hc1=>?_)
 ·refine C.s1<|Zf rfl (fun D2 hD2=>y2 _ (hV.up (hD2 _ Ye)))<|Zj rfl<|L.n5<|Zah ?_;exact Za [_] rfl ⟨rfl,aNM⟩ (fun D hD=>rfl)
 ·have hsh:g9 (ls++[x])=true:=by simpa using hc1
  have hf2:=p7 hsh;have hf1:=aGX hf2;have hxs:x.size≤50:=F0 hf2 x Ye;have h40:=tH hf1;have he1:=aER hf1;have he2:=aER hf2;have hll:=aHB hf2;refine C.kn<|C.s1<|Zb rfl<|bU rfl rfl rfl (fun D3 hD3=>IT _ ls _ (hS.up RS.up (hD3 _ Ye)) Yd) rfl aNM (fun v3 D3 hD3 hp3=>?_);have hq1:=hp3;refine bU rfl rfl rfl (fun D4 hD4=>xD _ ls _ (hq1.up RS.up (hD4 _ Ye)) (hV.up (hD4 _ Ye))) rfl aNM (fun v4 D4 hD4 hp4=>?_);obtain⟨w11,w12,rfl,⟨pv1,cv1,hv1,lv1,mv1,bl1,bc1,yc1,yq1,rfl,hL1⟩,hes1⟩:=hp4;unfold bS;refine Zb rfl<|Zab rfl<|Zab rfl<|Zab rfl<|Zv rfl Tf.z42 rfl (fun q1=>bH rfl rfl rfl rfl Tf.s42 Yb Yb (bO.head) (gU hL1) trivial<|Zj rfl<|Zj rfl<|L.n3<|Zb rfl<|bU rfl rfl rfl (fun D5 hD5=>IT _ (ls++[x]) _ (hall.up RS.up (hD5 _ Ye)) Yad) rfl aNM (fun v5 D5 hD5 hp5=>?_));have hq2:=hp5;refine bU rfl rfl rfl (fun D6 hD6=>xD _ (ls++[x]) _ (hq2.up RS.up (hD6 _ Ye)) (hV.up (hD6 _ Ye))) rfl aNM (fun v6 D6 hD6 hp6=>?_);obtain⟨w21,w22,rfl,⟨pv2,cv2,hv2,lv2,mv2,bl2,bc2,yc2,yq2,rfl,hL2⟩,hes2⟩:=hp6;unfold bS;refine Zb rfl<|Zab rfl<|Zab rfl<|Zab rfl<|Zv rfl Tf.z42 rfl (fun q2=>bH rfl rfl rfl rfl Tf.s42 Yb Yb (bO.head) (gU hL2) trivial<|Zj rfl<|Zj rfl<|L.n4<|Zb rfl<|Zaf rfl<|Zb rfl ?_);refine' iE [(false,3),(false,4),(false,5)] [(false,6),(false,7),(false,8),(false,9),(false,10),(false,11),(false,12)] (s:=38) (p:=41) rfl rfl (fun hg1=>?_) (fun hg1=>?_) ?_;rotate_left
  ·refine Zc rfl<|eQ rfl rfl rfl rfl ⟨_,rfl,rfl⟩<|Zaa rfl ?_;exact L.cu 2
  ·refine Zi rfl<|Zi rfl<|Zz rfl ?_;exact L.cu 2
  refine Zb rfl ?_;refine' iE [(false,7),(false,8),(false,9),(false,10),(false,11),(false,12)] [] (s:=42) (p:=48) rfl rfl (fun hg2=>?_) (fun hg2=>?_) ?_;rotate_left
  ·refine Zc rfl<|aW rfl U43 rfl hes2 rfl rfl ⟨_,rfl,rfl⟩<|Zc rfl<|aW rfl U22 rfl hall rfl rfl ⟨_,rfl,rfl⟩<|eQ rfl rfl rfl rfl ⟨_,rfl,rfl⟩<|Zaa rfl ?_;exact L.cu 5
  ·refine Zi rfl<|Zi rfl<|Zi rfl<|Zi rfl<|Zi rfl<|Zz rfl ?_;exact L.cu 5
  refine L.n1<|aJ rfl (fun hc2=>?_) (fun hc2=>?_)
  ·rw[he1,he2,hll]at hc2;simp at hc2
  ·have he:(aL (ls++[x])).2.1[ls.length]?= some (uA (mM ls).1 x).2:=aGW hf2;have hl2:(aL (ls++[x])).2.1.length=ls.length+1:=by rw[hll];simp
   refine C.kn<|C.s2<|Zb rfl<|Zb rfl<|aW rfl U43 rfl hes2 rfl rfl trivial<|fW rfl rfl rfl Yf rfl trivial<|Zq rfl U43 Tf.s44 rfl hes2 rfl (show(aL (ls++[x])).2.1[(((aL (ls++[x])).2.1.length:Int)-1).toNat]?= some (uA (mM ls).1 x).2 by rw[hl2,show(((ls.length+1:Nat):Int)-1).toNat=ls.length by omega];exact he) (fun b1 o1 cs1 hr1 hcl1 hA1=>?_);obtain rfl:cs1=[.int .i64 _]:=hr1;refine Zd 0 rfl Tf.a44 rfl hA1 rfl<|Zaf rfl<|L.n1<|aJ rfl (fun hc3=>?_) (fun hc3=>?_)
   ·refine C.s1<|Zo rfl Tf.a42 rfl (List.Mem.tail _ (List.Mem.head _)) Tf.s42<|Zo rfl Tf.a42 rfl (List.Mem.head _) Tf.s42<|Zf rfl (fun D7 hD7=>aGT _ _ (aL ls).1 (aL (ls++[x])).1 _ ⟨pv1,cv1,hv1,lv1,mv1,bl1,bc1,yc1,yq1,rfl,hL1.up (hD7 _ Ye)⟩ ⟨pv2,cv2,hv2,lv2,mv2,bl2,bc2,yc2,yq2,rfl,hL2.up (hD7 _ Ye)⟩)<|Zb rfl ?_;refine' cQ [(false,4),(false,5)] [(false,6)] (s:=59) (p:=61) rfl rfl (fun hg3=>?_) (fun hg3=>?_) ?_;rotate_left
    ·refine Zg rfl (fun D8 hD8=>y2 _ (hV.up (hD8 _ Ye)))<|Zz rfl ?_;exact L.cu 1
    ·refine Zi rfl<|Zaa rfl ?_;exact L.cu 1
    refine Zj rfl<|L.n5<|Zah ?_;exact Za [_] rfl ⟨rfl,aNM⟩ (fun D hD=>by rw[aEI hf1,aEI hf2,aET,aHP (by simpa using hc3)];simp[aFP];rfl)
   ·obtain⟨p0,ps,hcx⟩:=uO x;have hp0:(dB x)[0]?= some p0:=by rw[hcx];rfl
    refine C.kn<|C.s1<|Zb rfl<|bU rfl rfl rfl (fun D9 hD9=>U1 x Yd _) rfl aNM (fun v9 D9 hD9 hp9=>?_);have hW:=hp9;refine Zq rfl U22 Tf.s9 rfl hW rfl hp0 (fun b2 o2 cs2 hr2 hcl2 hA2=>?_);obtain rfl:cs2=[.string _]:=hr2;refine Zd 0 rfl Tf.a9 rfl hA2 rfl<|Zf rfl (fun D10 hD10=>aHT p0 _)<|Zj rfl<|L.n3<|Zb rfl<|dH rfl rfl rfl rfl trivial<|Zb rfl ?_;refine' iE [(false,3),(false,4),(false,5),(false,6),(false,7),(false,8)] [(false,9),(false,10),(false,11),(false,12),(false,13),(false,14),(false,15),(false,16),(false,17),(false,18),(false,19),(false,20),(false,21),(false,22),(false,23),(false,24),(false,25),(false,26),(false,27),(false,28),(false,29),(false,30),(false,31),(false,32),(false,33),(false,34),(false,35),(false,36),(false,37),(false,38),(false,39),(false,40),(false,41),(false,42),(false,43),(false,44),(false,45)] (s:=69) (p:=75) rfl rfl (fun hg4=>?_) (fun hg4=>?_) ?_;rotate_left
    ·refine Zl rfl Tf.f42_0 rfl<|cS rfl Tf.a28 Tf.s28 rfl (List.Mem.tail _ (List.Mem.head _)) rfl rfl aJN rfl ⟨_,rfl,rfl⟩<|Zl rfl Tf.f42_0 rfl<|cS rfl Tf.a28 Tf.s28 rfl (List.Mem.head _) rfl rfl aJN rfl ⟨_,rfl,rfl⟩<|Zg rfl (fun D11 hD11=>aFA _ _ (aL ls).1.row (aL (ls++[x])).1.row _ (hL1.row.up (hD11 _ Ye)) (hL2.row.up (hD11 _ Ye)))<|Zaa rfl ?_;exact L.cu 5
    ·refine Zi rfl<|Zi rfl<|Zi rfl<|Zi rfl<|Zi rfl<|Zz rfl ?_;exact L.cu 5
    refine Zb rfl ?_;refine' cQ [(false,10),(false,11),(false,12),(false,13),(false,14),(false,15),(false,16),(false,17),(false,18),(false,19)] [(false,20),(false,21),(false,22),(false,23),(false,24),(false,25),(false,26),(false,27),(false,28),(false,29),(false,30),(false,31),(false,32),(false,33),(false,34),(false,35),(false,36),(false,37),(false,38),(false,39),(false,40),(false,41),(false,42),(false,43),(false,44),(false,45)] (s:=76) (p:=86) rfl rfl (fun hg5=>?_) (fun hg5=>?_) ?_;rotate_left
    ·refine Zc rfl<|dH rfl rfl rfl rfl ⟨_,rfl,rfl⟩<|Zc rfl ?_;refine' iE [(false,13),(false,14),(false,15),(false,16),(false,17),(false,18)] [(false,19)] (s:=79) (p:=85) rfl rfl (fun hg6=>?_) (fun hg6=>?_) ?_;rotate_left
     ·refine Zl rfl Tf.f42_1 rfl<|cS rfl Tf.a32 Tf.s32 rfl (List.Mem.tail _ (List.Mem.head _)) rfl rfl aJN rfl ⟨_,rfl,rfl⟩<|Zl rfl Tf.f42_1 rfl<|cS rfl Tf.a32 Tf.s32 rfl (List.Mem.head _) rfl rfl aJN rfl ⟨_,rfl,rfl⟩<|Zg rfl (fun D12 hD12=>aEM _ _ (aL ls).1.table (aL (ls++[x])).1.table _ (hL1.table.up (hD12 _ Ye)) (hL2.table.up (hD12 _ Ye)))<|mS rfl rfl rfl rfl ⟨_,rfl,rfl⟩ ?_;exact L.cu 5
     ·refine Zi rfl<|Zi rfl<|Zi rfl<|Zi rfl<|Zi rfl<|mZ rfl rfl rfl rfl ⟨_,rfl,rfl⟩ ?_;exact L.cu 5
     refine Zz rfl ?_;exact L.cu 4
    ·refine Zi rfl<|Zi rfl<|Zi rfl<|Zi rfl<|Zi rfl<|Zi rfl<|Zi rfl<|Zi rfl<|Zi rfl<|Zaa rfl ?_;exact L.cu 9
    refine Zb rfl ?_;refine' cQ [(false,21),(false,22),(false,23),(false,24),(false,25),(false,26),(false,27),(false,28),(false,29),(false,30)] [(false,31),(false,32),(false,33),(false,34),(false,35),(false,36),(false,37),(false,38),(false,39),(false,40),(false,41),(false,42),(false,43),(false,44),(false,45)] (s:=87) (p:=97) rfl rfl (fun hg7=>?_) (fun hg7=>?_) ?_;rotate_left
    ·refine Zc rfl<|dH rfl rfl rfl rfl ⟨_,rfl,rfl⟩<|Zc rfl ?_;refine' iE [(false,24),(false,25),(false,26),(false,27),(false,28),(false,29)] [(false,30)] (s:=90) (p:=96) rfl rfl (fun hg8=>?_) (fun hg8=>?_) ?_;rotate_left
     ·refine Zl rfl Tf.f42_2 rfl<|cS rfl Tf.a36 Tf.s36 rfl (List.Mem.tail _ (List.Mem.head _)) rfl rfl aJN rfl ⟨_,rfl,rfl⟩<|Zl rfl Tf.f42_2 rfl<|cS rfl Tf.a36 Tf.s36 rfl (List.Mem.head _) rfl rfl aJN rfl ⟨_,rfl,rfl⟩<|Zg rfl (fun D13 hD13=>aEQ _ _ (aL ls).1.book (aL (ls++[x])).1.book _ (hL1.book.up (hD13 _ Ye)) (hL2.book.up (hD13 _ Ye)))<|mS rfl rfl rfl rfl ⟨_,rfl,rfl⟩ ?_;exact L.cu 5
     ·refine Zi rfl<|Zi rfl<|Zi rfl<|Zi rfl<|Zi rfl<|mZ rfl rfl rfl rfl ⟨_,rfl,rfl⟩ ?_;exact L.cu 5
     refine Zz rfl ?_;exact L.cu 4
    ·refine Zi rfl<|Zi rfl<|Zi rfl<|Zi rfl<|Zi rfl<|Zi rfl<|Zi rfl<|Zi rfl<|Zi rfl<|Zaa rfl ?_;exact L.cu 9
    refine Zb rfl ?_;refine' cQ [(false,32),(false,33),(false,34),(false,35),(false,36),(false,37),(false,38),(false,39),(false,40),(false,41)] [(false,42),(false,43),(false,44),(false,45)] (s:=98) (p:=108) rfl rfl (fun hg9=>?_) (fun hg9=>?_) ?_;rotate_left
    ·refine Zc rfl<|dH rfl rfl rfl rfl ⟨_,rfl,rfl⟩<|Zc rfl ?_;refine' iE [(false,35),(false,36),(false,37),(false,38),(false,39),(false,40)] [(false,41)] (s:=101) (p:=107) rfl rfl (fun hg10=>?_) (fun hg10=>?_) ?_;rotate_left
     ·refine Zl rfl Tf.f42_3 rfl<|cS rfl Tf.a40 Tf.s40 rfl (List.Mem.tail _ (List.Mem.head _)) rfl rfl aJN rfl ⟨_,rfl,rfl⟩<|Zl rfl Tf.f42_3 rfl<|cS rfl Tf.a40 Tf.s40 rfl (List.Mem.head _) rfl rfl aJN rfl ⟨_,rfl,rfl⟩<|Zg rfl (fun D14 hD14=>aES _ _ (aL ls).1.yard (aL (ls++[x])).1.yard _ (hL1.yard.up (hD14 _ Ye)) (hL2.yard.up (hD14 _ Ye)))<|mS rfl rfl rfl rfl ⟨_,rfl,rfl⟩ ?_;exact L.cu 5
     ·refine Zi rfl<|Zi rfl<|Zi rfl<|Zi rfl<|Zi rfl<|mZ rfl rfl rfl rfl ⟨_,rfl,rfl⟩ ?_;exact L.cu 5
     refine Zz rfl ?_;exact L.cu 4
    ·refine Zi rfl<|Zi rfl<|Zi rfl<|Zi rfl<|Zi rfl<|Zi rfl<|Zi rfl<|Zi rfl<|Zi rfl<|Zaa rfl ?_;exact L.cu 9
    refine Zb rfl ?_;refine' cQ [(false,43),(false,44)] [(false,45)] (s:=109) (p:=111) rfl rfl (fun hg11=>?_) (fun hg11=>?_) ?_;rotate_left
    ·refine Zg rfl (fun D15 hD15=>y2 _ (hV.up (hD15 _ Ye)))<|Zz rfl ?_;exact L.cu 1
    ·refine Zi rfl<|Zaa rfl ?_;exact L.cu 1
    refine Zj rfl<|L.n5 ?_;exact Za [_] rfl ⟨rfl,aNM⟩ (fun D hD=>by rw[aEI hf1,aEI hf2,aET];obtain⟨r1,r2,r3,r4⟩:=aGL (s:=(mM ls).1) hcx;rw[r1,r2,r3,r4];rfl)
end L12
end Go.Fs
namespace Go.Fs
open Go.Proofs
namespace L12
open Go.ChangeShapes Go.WideShapes Go.RowKit Go.Proofs.YthchgbimdmiemaaGreatDoor
theorem aHE{H:Type}(d:DataW H):1≤Rows.uptoBulk d:=by
 cases d with
 |lit l=>cases l<;>simp[Rows.uptoBulk]
 |nil=>simp[Rows.uptoBulk]
 |ptr d=>simp[Rows.uptoBulk]
 |slice elems spare=>simp[Rows.uptoBulk]
 |agg parts=>simp[Rows.uptoBulk]
 |iface t d=>simp[Rows.uptoBulk]
 |map entries=>simp[Rows.uptoBulk]
 |held h=>simp[Rows.uptoBulk]
theorem aFX{H:Type}(l:List (DataW H)):l.length≤Rows.uptoBulkAll l:=by
 induction l with
 |nil=>simp
 |cons x r ih=>have:=aHE x;simp only[Rows.uptoBulkAll,aKD];omega
theorem aGY{H:Type}{enc:TypeId×Value→H}{W:World}{v:Value}{xs:List ByteArray}{d:DataW H}{ps:List MemPlace}(hr:Sl (tZ W) RS 1 v xs)(hd:DataW.Trod enc Tryz.prog W 0 (fun _=>true) true 22 v d ps):xs.length≤Rows.uptoBulk d:=by
 obtain⟨a,cap,rfl,_⟩:=hr;obtain⟨fuel,hf⟩:=hd;rcases DataW.trod_slice U22 hf with⟨hc,_⟩|⟨a2,len,cap2,elems,rest,n,_,hc,hx,_,_,_,hl,_⟩
 ·simp only[Value.cells,aLS,Value.slice.injEq]at hc;have:=hc.1.2.1;omega
 ·simp only[Value.cells,aLS,Value.slice.injEq]at hc;have h1:=hc.1.2.1;rw[(Prod.mk.inj hx).1];have:=aFX (elems.map (·.1));rw[aMI]at this;simp only[Rows.uptoBulk];omega
theorem aGG{H:Type}{d:DataW H}{l:List (DataW H)}(h:Rows.uptoSmall H (d::l)=true):Rows.uptoBulk d≤1048576:=by
 have h2:Rows.uptoBulkAll (d::l)≤1048576:=by simpa [Rows.uptoSmall]using h
 simp only[Rows.uptoBulkAll]at h2;omega
end L12
end Go.Fs
