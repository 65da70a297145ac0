/- Of the proof of BookUndone: Eq9, BW32, BW33, BW34, BW35, BW36, BW38, BW37, BBulk12. -/
import Derived.Test.YtecfofnchcbojaaGreatDoorZBookUndoneAE
import Derived.Test.YtecfofnchcbojaaGreatDoorZBookUndoneAC
import Derived.Test.YtecfofnchcbojaaGreatDoorZBookUndoneAO
import Derived.Test.YtecfofnchcbojaaGreatDoorZBookUndoneAL
import Derived.Test.YtecfofnchcbojaaGreatDoorCards
import Derived.ChangeMaps5
namespace Go.Fs
variable{P:Program}{X:Cx}{γb:Type}[Membership Nat γb]{bad:γb}{all:Array Oper}{K:Act→World→Prop}{Q:Exit→Act→World→Prop}
variable{σ:bT}{μ:aC}{Ds:List aA}{os:List (Bool×Nat)}{fl:Bool}{ix:Nat}
variable{d:Nat}{x y z:Operand}{u v:Value}{ty:TypeId}{pos:String}{aft:Array Edge}{g:Option (Nat×Bool)}
theorem f5{dd:Nat}{f:Field}{fs:List Field}{xs ys:Array Value}{a b:Value}{r r':Bool}{w:World}(hn:f.name≠ "_")
  (h1:(part f.type xs f.offset).run P w=.ok a w) (h2:(part f.type ys f.offset).run P w=.ok b w) (h3:(Op.equalIn dd f.type a b).run P w=.ok r w) (h4:(Op.eqFields dd xs ys fs).run P w=.ok r' w):
  (Op.eqFields dd xs ys (f::fs)).run P w=.ok (r&&r') w:=by
 rw[Op.eqFields,aKS hn];simp only[Sem.run_bind,h1,h2,Result.andThen_ok];rw[h3];simp only[Result.andThen_ok];cases r with
 |true=>simpa using h4
 |false=>simp
theorem aFK{dd:Nat}{xs ys:Array Value}{w:World}:(Op.eqFields dd xs ys []).run P w=.ok true w:=rfl
inductive aEG(P:Program):Nat→Nat→List Field→Prop
 |nil {o}:aEG P o o []
 |cons {o e f fs} (hn:f.name≠ "_") (ho:f.offset=o) (ht:P.underlying f.type=some (.int .i64)) (r:aEG P (o+1) e fs):aEG P o e (f::fs)
theorem aEG.le{o e:Nat}{fs:List Field}(h:aEG P o e fs):o≤e:=by
 induction h with
 |nil=>exact aKR _
 |cons _ _ _ _ ih=>omega
theorem aEU(dd:Nat)(l m:List Int)(w:World){o e:Nat}{fs:List Field}(h:aEG P o e fs)(hl:l.length=e)(hm:m.length=e):(Op.eqFields (dd+1) (ints l).toArray (ints m).toArray fs).run P w=.ok (l.drop o==m.drop o) w:=by
 induction h with
 |nil=>
  rw[aLJ Yd,aLJ Yd];rfl
 | @cons o e f fs hn ho ht r ih=>
  have hle:=r.le;have h1:l[o]?= some (l[o]'Yd):=aJT _;have h2:m[o]?= some (m[o]'Yd):=aJT _;rw[f5 hn (dT ht (by rw[ho];simpa using cD h1) w) (dT ht (by rw[ho];simpa using cD h2) w) (run_equalIn_int w dd f.type .i64 .i64 _ _ ht) (ih hl hm)]
  congr 1;rw[show l.drop o=l[o]::l.drop (o+1)from aLV _,show m.drop o=m[o]::m.drop (o+1)from aLV _];rfl
theorem sF.str{f:Field}{o n:Nat}(hn:f.name≠ "_")(ho:f.offset=o)(hu:P.underlying f.type=some (.struct (P.fieldsOf f.type)))(hst:P.stoodInHeld f.type=false)(ha:TA P f.type true)(hs:TS P f.type n)(hc:aEG P 0 n (P.fieldsOf f.type).toList):sF P f o n:=by
 refine⟨hn,fun l m w hl hm=>⟨_,_,by rw[ho];exact tW ha hs hl w,by rw[ho];exact tW ha hs hm w,?_⟩⟩;have he:=run_equalIn_struct (P:=P) w 9998 f.type (ints ((l.drop o).take n)).toArray (ints ((m.drop o).take n)).toArray hu hst;show(Op.equalIn (9998+1) _ _ _).run P w=_;rw[he,aEU 9997 _ _ w hc (by rw[aMJ,aMR];omega) (by rw[aMJ,aMR];omega)]
 simp
structure KC(P:Program)(t:TypeId)(f0 f1 f2:Field):Prop where
 und:P.underlying t=some (.struct (P.fieldsOf t))
 held:P.stoodInHeld t=false
 guard:P.eqGuardType P.depth t=false
 fs:(P.fieldsOf t).toList=[f0,f1,f2]
 n0:f0.name≠ "_"
 n1:f1.name≠ "_"
 n2:f2.name≠ "_"
 o0:f0.offset=0
 o1:f1.offset=1
 o2:f2.offset=2
 t0:P.underlying f0.type=some .bool
 t1:P.underlying f1.type=some (.int .i64)
 t2:P.underlying f2.type=some (.int .i64)
theorem aEV{t:TypeId}{f0 f1 f2:Field}(h:KC P t f0 f1 f2)(a b:C1.rQ)(w:World):(Op.equal t (cV a) (cV b)).run P w=.ok (decide (a=b)) w:=by
 have he:=run_equalIn_struct (P:=P) w 9999 t #[.bool a.back,.int .i64 a.many,.int .i64 a.num] #[.bool b.back,.int .i64 b.many,.int .i64 b.num] h.und h.held;show(Op.equalIn (9999+1) t (cV a) (cV b)).run P w=_;refine he.trans ?_;rw[h.fs,f5 h.n0 (run_part_plain w (by simp[Program.plainKey,h.t0]) (by rw[h.o0];rfl)) (run_part_plain w (by simp[Program.plainKey,h.t0]) (by rw[h.o0];rfl)) (run_equalIn_bool w 9998 f0.type _ _ h.t0)
  (f5 h.n1 (dT h.t1 (by rw[h.o1];rfl) w) (dT h.t1 (by rw[h.o1];rfl) w) (run_equalIn_int w 9998 f1.type .i64 .i64 _ _ h.t1)
   (f5 h.n2 (dT h.t2 (by rw[h.o2];rfl) w) (dT h.t2 (by rw[h.o2];rfl) w) (run_equalIn_int w 9998 f2.type .i64 .i64 _ _ h.t2) aFK))]
 congr 1;obtain⟨a1,a2,a3⟩:=a;obtain⟨b1,b2,b3⟩:=b;rw[aNR];simp[C1.rQ.mk.injEq]
theorem aHF{t t':TypeId}{f0 f1 f2:Field}{a b:C1.rQ}(ho:all[ix]?= some ⟨some d,.binOp .neq t x y t',ty,pos,aft,g⟩)(ht:KC P t f0 f1 f2)(hx:ev σ x=some (cV a))(hy:ev σ y=some (cV b))(hN:Nat.blt d X.N=true)(hg:cW all σ g)
  (kk:WL P X bad all K Q os ((d,.bool (!(decide (a=b))))::σ) μ Ds):WL P X bad all K Q ((fl,ix)::os) σ μ Ds:=
 DR ho (fun w=>by
  have hgd:(eqGuard .neq t x y (cV a) (cV b)).run P w=.ok () w:=by
   simp only[eqGuard,program,cV];simp[Sem.run,ht.guard,go_sem]
  rw[Sem.run_bind,hgd];show((do Pure.pure (Value.bool (!(←Op.equal t (cV a) (cV b))))):Sem Value).run P w=_;rw[Sem.run_bind,aEV ht];rfl) hx hy hN hg kk
end Go.Fs
namespace Go.Fs
open Go.Proofs
namespace L12
open C12
section
variable{α:Type}{xs ys:List α}{k:Nat}{a b:α}
theorem aHU{α:Type}[DecidableEq α]{a b:α}(h:(!decide (a=b))=false):a=b:=by simpa using h
theorem aHV{α:Type}[DecidableEq α]{a b:α}(h:(!decide (a=b))=true):a≠b:=by simpa using h
theorem FC(hl:xs.length=ys.length)(hk:xs.length≤k)(h:xs.take k=ys.take k):xs=ys:=by
 rwa [aLA hk,aLA Yd]at h
theorem y7(ha:xs[k]?= some a)(hb:ys[k]?= some b)(e:xs=ys):a=b:=by
 rw[e,hb]at ha;exact(aKZ ha).symm
end
theorem aEZ{l m:List Int}(h:(!(l==m))=false):l=m:=by simpa using h
theorem aFC{α:Type}{f:α→List Int}{a b:α}(h:(!(f a==f b))=true):a≠b:=fun e=>by rw[e]at h;simp at h
def aHR(p:Int×Int):List Int:=[p.1,p.2]
def aHZ(m:C2.Mk):List Int:=[m.frm,m.to,m.lo,m.hi]
def aHX(c:C3.Cn):List Int:=[c.after,c.lo,c.hi]
def aHY(l:C3.fC):List Int:=[l.kind,l.chair,l.token]
def aHQ(c:C7.Ch):List Int:=[c.size,c.parts.a,c.parts.b,c.parts.c]
theorem aGR{a b:Int×Int}(h:aHR a=aHR b):a=b:=by
 obtain⟨a1,a2⟩:=a;obtain⟨b1,b2⟩:=b
 simp only[aHR,aLS,and_true]at h;rw[h.1,h.2]
theorem aHI{a b:C2.Mk}(h:aHZ a=aHZ b):a=b:=by
 obtain⟨a1,a2,a3,a4⟩:=a;obtain⟨b1,b2,b3,b4⟩:=b
 simp only[aHZ,aLS,and_true]at h;rw[h.1,h.2.1,h.2.2.1,h.2.2.2]
theorem aHH{a b:C3.Cn}(h:aHX a=aHX b):a=b:=by
 obtain⟨a1,a2,a3⟩:=a;obtain⟨b1,b2,b3⟩:=b
 simp only[aHX,aLS,and_true]at h;rw[h.1,h.2.1,h.2.2]
theorem aHG{a b:C3.fC}(h:aHY a=aHY b):a=b:=by
 obtain⟨a1,a2,a3⟩:=a;obtain⟨b1,b2,b3⟩:=b
 simp only[aHY,aLS,and_true]at h;rw[h.1,h.2.1,h.2.2]
theorem aGQ{a b:C7.Ch}(h:aHQ a=aHQ b):a=b:=by
 obtain⟨a1,a2,a3,a4⟩:=a;obtain⟨b1,b2,b3,b4⟩:=b
 simp only[aHQ,aLS,and_true]at h;rw[h.1,h.2.1,h.2.2.1,h.2.2.2]
instance:DecidableEq C7.Ch:=fun a b=>decidable_of_iff (aHQ a=aHQ b) ⟨aGQ,fun e=>by rw[e]⟩
def IM(a b:C1.dJ):Bool:=decide (a.wrong=b.wrong∧a.off=b.off∧a.places=b.places∧a.counts=b.counts)
theorem aGV{a b:C1.dJ}(h:(decide (a.wrong≠b.wrong)||decide (a.off≠b.off)|| !decide (a.places=b.places)||decide ((a.counts.length:Int)≠(b.counts.length:Int)))=false):a.wrong=b.wrong∧a.off=b.off∧a.places=b.places∧a.counts.length=b.counts.length:=by
 simp only[aMM,Bool.not_eq_false',aLW,Decidable.not_not,aKU]at h;exact⟨h.1.1.1,h.1.1.2,h.1.2,by omega⟩
theorem aGI{a b:C1.dJ}(h:(decide (a.wrong≠b.wrong)||decide (a.off≠b.off)|| !decide (a.places=b.places)||decide ((a.counts.length:Int)≠(b.counts.length:Int)))=true):IM a b=false:=
 aNJ fun⟨e1,e2,e3,e4⟩=>by rw[e1,e2,e3,e4]at h;simp at h
def j9(a b:C2.bA):Bool:=decide (a.last=b.last∧a.step=b.step∧a.levels=b.levels∧a.heights=b.heights∧a.marks=b.marks)
theorem aFW{a b:C2.bA}(h:(decide (a.last≠b.last)||decide (a.step≠b.step)|| !decide (a.levels=b.levels)||decide ((a.heights.length:Int)≠(b.heights.length:Int))||decide ((a.marks.length:Int)≠(b.marks.length:Int)))=false):a.last=b.last∧a.step=b.step∧a.levels=b.levels∧a.heights.length=b.heights.length∧a.marks.length=b.marks.length:=by
 simp only[aMM,Bool.not_eq_false',aLW,Decidable.not_not,aKU]at h;exact⟨h.1.1.1.1,h.1.1.1.2,h.1.1.2,by omega,by omega⟩
theorem aFJ{a b:C2.bA}(h:(decide (a.last≠b.last)||decide (a.step≠b.step)|| !decide (a.levels=b.levels)||decide ((a.heights.length:Int)≠(b.heights.length:Int))||decide ((a.marks.length:Int)≠(b.marks.length:Int)))=true):j9 a b=false:=
 aNJ fun⟨e1,e2,e3,e4,e5⟩=>by rw[e1,e2,e3,e4,e5]at h;simp at h
def AU(a b:C3.aZ):Bool:=decide (a.chairs=b.chairs∧a.coin=b.coin∧a.box=b.box∧a.lines=b.lines∧a.counts=b.counts)
theorem aGN{a b:C3.aZ}(h:(decide (a.chairs≠b.chairs)||decide (a.coin≠b.coin)||decide (a.box≠b.box)||decide ((a.lines.length:Int)≠(b.lines.length:Int))||decide ((a.counts.length:Int)≠(b.counts.length:Int)))=false):a.chairs=b.chairs∧a.coin=b.coin∧a.box=b.box∧a.lines.length=b.lines.length∧a.counts.length=b.counts.length:=by
 simp only[aMM,aLW,Decidable.not_not]at h;exact⟨h.1.1.1.1,h.1.1.1.2,h.1.1.2,by omega,by omega⟩
theorem aFV{a b:C3.aZ}(h:(decide (a.chairs≠b.chairs)||decide (a.coin≠b.coin)||decide (a.box≠b.box)||decide ((a.lines.length:Int)≠(b.lines.length:Int))||decide ((a.counts.length:Int)≠(b.counts.length:Int)))=true):AU a b=false:=
 aNJ fun⟨e1,e2,e3,e4,e5⟩=>by rw[e1,e2,e3,e4,e5]at h;simp at h
def DB(a b:C7.bJ):Bool:=decide (a.fit=b.fit∧a.chairs=b.chairs∧a.claims=b.claims)
theorem aGE{a b:C7.bJ}(h:(decide (a.fit≠b.fit)||decide ((a.chairs.length:Int)≠(b.chairs.length:Int))||decide ((a.claims.length:Int)≠(b.claims.length:Int)))=false):a.fit=b.fit∧a.chairs.length=b.chairs.length∧a.claims.length=b.claims.length:=by
 simp only[aMM,aLW,Decidable.not_not]at h;exact⟨h.1.1,by omega,by omega⟩
theorem aFO{a b:C7.bJ}(h:(decide (a.fit≠b.fit)||decide ((a.chairs.length:Int)≠(b.chairs.length:Int))||decide ((a.claims.length:Int)≠(b.claims.length:Int)))=true):DB a b=false:=
 aNJ fun⟨e1,e2,e3⟩=>by rw[e1,e2,e3]at h;simp at h
def aFE(a b:aN):Bool:=IM a.row b.row&&j9 a.table b.table&&AU a.book b.book&&DB a.yard b.yard
theorem aEP(a:C1.dJ):IM a a=true:=by simp[IM]
theorem aEF(a:C2.bA):j9 a a=true:=by simp[j9]
theorem aEH(a:C3.aZ):AU a a=true:=by simp[AU]
theorem aEJ(a:C7.bJ):DB a a=true:=by simp[DB]
theorem aFP(a:aN):aFE a a=true:=by simp[aFE,aEP,aEF,aEH,aEJ]
theorem aIR:KS Tryz.prog 123 3:=by
 have hf:(Tryz.prog.fieldsOf 123).toList=[(Tryz.prog.fieldsOf 123)[0]!,(Tryz.prog.fieldsOf 123)[1]!,(Tryz.prog.fieldsOf 123)[2]!]:=by kernel_rfl
 refine⟨by kernel_rfl,by kernel_rfl,by kernel_rfl,?_⟩;rw[hf];exact .cons (sF.int Yac Yg Yg) (.cons (sF.int Yac Yg Yg) (.cons (sF.int Yac Yg Yg) .nil))
theorem aJC:KS Tryz.prog 77 2:=by
 have hf:(Tryz.prog.fieldsOf 77).toList=[(Tryz.prog.fieldsOf 77)[0]!,(Tryz.prog.fieldsOf 77)[1]!]:=by kernel_rfl
 refine⟨by kernel_rfl,by kernel_rfl,by kernel_rfl,?_⟩;rw[hf];exact .cons (sF.int Yac Yg Yg) (.cons (sF.int Yac Yg Yg) .nil)
theorem aIS:KS Tryz.prog 121 4:=by
 have hf:(Tryz.prog.fieldsOf 121).toList=[(Tryz.prog.fieldsOf 121)[0]!,(Tryz.prog.fieldsOf 121)[1]!,(Tryz.prog.fieldsOf 121)[2]!]:=by kernel_rfl
 refine⟨by kernel_rfl,by kernel_rfl,by kernel_rfl,?_⟩;rw[hf];refine .cons (sF.int Yac Yg Yg) (.cons (sF.int Yac Yg Yg) (.cons (n:=2) (sF.str Yac Yg Yg Yg ?_ ?_ ?_) .nil))
 ·rw[show(((Tryz.prog.fieldsOf 121)[2]!)).type=77 by kernel_rfl];exact Tf.a77
 ·rw[show(((Tryz.prog.fieldsOf 121)[2]!)).type=77 by kernel_rfl];exact Tf.s77
 ·rw[show(((Tryz.prog.fieldsOf 121)[2]!)).type=77 by kernel_rfl,show(Tryz.prog.fieldsOf 77).toList=[(Tryz.prog.fieldsOf 77)[0]!,(Tryz.prog.fieldsOf 77)[1]!] by kernel_rfl];exact .cons Yac Yg Yg (.cons Yac Yg Yg .nil)
theorem aIT:KS Tryz.prog 125 3:=by
 have hf:(Tryz.prog.fieldsOf 125).toList=[(Tryz.prog.fieldsOf 125)[0]!,(Tryz.prog.fieldsOf 125)[1]!]:=by kernel_rfl
 refine⟨by kernel_rfl,by kernel_rfl,by kernel_rfl,?_⟩;rw[hf];refine .cons (sF.int Yac Yg Yg) (.cons (n:=2) (sF.str Yac Yg Yg Yg ?_ ?_ ?_) .nil)
 ·rw[show(((Tryz.prog.fieldsOf 125)[1]!)).type=55 by kernel_rfl];exact Tf.a55
 ·rw[show(((Tryz.prog.fieldsOf 125)[1]!)).type=55 by kernel_rfl];exact Tf.s55
 ·rw[show(((Tryz.prog.fieldsOf 125)[1]!)).type=55 by kernel_rfl,show(Tryz.prog.fieldsOf 55).toList=[(Tryz.prog.fieldsOf 55)[0]!,(Tryz.prog.fieldsOf 55)[1]!] by kernel_rfl];exact .cons Yac Yg Yg (.cons Yac Yg Yg .nil)
theorem aIY:KS Tryz.prog 81 4:=by
 have hf:(Tryz.prog.fieldsOf 81).toList=[(Tryz.prog.fieldsOf 81)[0]!,(Tryz.prog.fieldsOf 81)[1]!]:=by kernel_rfl
 refine⟨by kernel_rfl,by kernel_rfl,by kernel_rfl,?_⟩;rw[hf];refine .cons (sF.int Yac Yg Yg) (.cons (n:=3) (sF.arr (e:=3) Yac Yg Yg Yg Yg ?_ ?_) .nil)
 ·rw[show(((Tryz.prog.fieldsOf 81)[1]!)).type=79 by kernel_rfl];exact Tf.a79
 ·rw[show(((Tryz.prog.fieldsOf 81)[1]!)).type=79 by kernel_rfl];exact Tf.s79
theorem aIV:KS Tryz.prog 103 2:=by
 have hf:(Tryz.prog.fieldsOf 103).toList=[(Tryz.prog.fieldsOf 103)[0]!,(Tryz.prog.fieldsOf 103)[1]!]:=by kernel_rfl
 refine⟨by kernel_rfl,by kernel_rfl,by kernel_rfl,?_⟩;rw[hf];exact .cons (sF.int Yac Yg Yg) (.cons (sF.int Yac Yg Yg) .nil)
theorem aIP:KC Tryz.prog 119 (Tryz.prog.fieldsOf 119)[0]! (Tryz.prog.fieldsOf 119)[1]! (Tryz.prog.fieldsOf 119)[2]! :=⟨by kernel_rfl,by kernel_rfl,by kernel_rfl,by kernel_rfl,by decide+kernel,by decide+kernel,by decide+kernel,by kernel_rfl,by kernel_rfl,by kernel_rfl,by kernel_rfl,by kernel_rfl,by kernel_rfl⟩
theorem aFA(av bv:Value)(a0 b0:C1.dJ)(D:aA)(hx:mL D av a0)(hy:mL D bv b0):Fn Tryz.prog 25 #[av,bv] D (fun _ v=>v=.bool (IM a0 b0)):=by
 obtain⟨pv,cv,rfl,hp0,hc0⟩:=hx;obtain⟨qv,dv,rfl,hq0,hd0⟩:=hy;have hlen0:=hc0.len;refine enter 53 Tryz.func25 rfl rfl rfl rfl fun h0=>C.s1<|Zu rfl (fun q1 E1 hE1 hB1=>Zu rfl (fun q2 E2 hE2 hB2=>Zj rfl<|L.n4<|Zk rfl Tf.f29_2 rfl<|Zd 2 rfl Tf.a3 rfl hB1 rfl<|Zk rfl Tf.f29_2 rfl<|Zd 2 rfl Tf.a3 rfl hB2 rfl<|Zaf rfl<|Zb rfl ?_))
 refine' iE [(false,6),(false,7),(false,8),(false,9),(false,10),(false,11)] [(false,12),(false,13),(false,14),(false,15),(false,16),(false,17),(false,18),(false,19),(false,20),(false,21),(false,22),(false,23),(false,24),(false,25),(false,26),(false,27),(false,28)] (s:=11) (p:=17) rfl rfl (fun hg1=>?_) (fun hg1=>?_) ?_;rotate_left
 ·refine Zl rfl Tf.f29_3 rfl<|Ze 3 rfl Tf.a3 rfl hB1 rfl<|Zl rfl Tf.f29_3 rfl<|Ze 3 rfl Tf.a3 rfl hB2 rfl<|eQ rfl rfl rfl rfl ⟨_,rfl,rfl⟩<|Zab rfl ?_;exact L.cu 5
 ·refine Zi rfl<|Zi rfl<|Zi rfl<|Zi rfl<|Zi rfl<|Zaa rfl ?_;exact L.cu 5
 refine Zb rfl ?_;refine' iE [(false,13),(false,14),(false,15),(false,16),(false,17),(false,18),(false,19)] [(false,20),(false,21),(false,22),(false,23),(false,24),(false,25),(false,26),(false,27),(false,28)] (s:=18) (p:=25) rfl rfl (fun hg2=>?_) (fun hg2=>?_) ?_;rotate_left
 ·refine Zl rfl Tf.f29_0 rfl<|Ze 0 rfl Tf.a26 rfl hB1 rfl<|Zl rfl Tf.f29_0 rfl<|Ze 0 rfl Tf.a26 rfl hB2 rfl<|Zg rfl (fun D1 hD1=>aFB _ _ a0.places b0.places _ (hp0.up RI.up (hD1 _ Ye)) (hq0.up RI.up (hD1 _ Ye)))<|jT rfl rfl rfl ⟨_,rfl,rfl⟩<|Zab rfl ?_;exact L.cu 6
 ·refine Zi rfl<|Zi rfl<|Zi rfl<|Zi rfl<|Zi rfl<|Zi rfl<|Zaa rfl ?_;exact L.cu 6
 refine Zb rfl ?_;refine' iE [(false,21),(false,22),(false,23),(false,24),(false,25),(false,26),(false,27),(false,28)] [] (s:=26) (p:=34) rfl rfl (fun hg3=>?_) (fun hg3=>?_) ?_;rotate_left
 ·refine Zl rfl Tf.f29_1 rfl<|Ze 1 rfl Tf.a27 rfl hB1 rfl<|aW rfl U27 rfl hc0 rfl rfl ⟨_,rfl,rfl⟩<|Zl rfl Tf.f29_1 rfl<|Ze 1 rfl Tf.a27 rfl hB2 rfl<|aW rfl U27 rfl hd0 rfl rfl ⟨_,rfl,rfl⟩<|eQ rfl rfl rfl rfl ⟨_,rfl,rfl⟩<|Zab rfl ?_;exact L.cu 7
 ·refine Zi rfl<|Zi rfl<|Zi rfl<|Zi rfl<|Zi rfl<|Zi rfl<|Zi rfl<|Zaa rfl ?_;exact L.cu 7
 refine L.n1<|aJ rfl (fun hc1=>?_) (fun hc1=>?_)
 ·refine C.s1<|Zj rfl<|L.n5<|Zah ?_;exact Za [_] rfl ⟨rfl,aOQ⟩ (fun D hD=>aKJ Value.bool (aGI hc1).symm)
 ·obtain⟨hw,ho,hp,hl5⟩:=aGV hc1;refine C.kn<|C.s2<|Zj rfl<|L.n1<|Zaj<|cN (γ:=Nat) (fun k=>(a0.counts).length-k) (fun k=>k≤(a0.counts).length∧(a0.counts).take k=(b0.counts).take k) (fun k=>[(5,.int .i64 (k:Int))]) [(4,_),(3,_),(2,_)] (fun k=>[E2,E1,D]) 0 Ye ⟨Ya,aOQ⟩ C.rs (aD) ?_;rintro k ⟨h1,h2⟩;refine C.s2<|Zb rfl<|Zk rfl Tf.f29_1 rfl<|Zd 1 rfl Tf.a27 rfl hB1 rfl<|aW rfl U27 rfl hc0 rfl rfl trivial<|Zad rfl<|L.n1<|aF rfl (fun hc2=>?_) (fun hc2=>?_)
  ·have hk:k<(a0.counts).length:=by omega
   obtain⟨a,ha⟩:∃a,(a0.counts)[k]?= some a:=⟨_,aJT hk⟩
   obtain⟨b,hb⟩:∃b,(b0.counts)[k]?= some b:=⟨_,aJT Yd⟩
   refine C.kn<|aCX<|Zaj<|aCX<|C.drawA [] 4 11 996 (fun _ _ _ h=>cZ (P:=Tryz.prog) (fn:=Tryz.f25) _ _ _ h)<|Zk rfl Tf.f29_1 rfl<|Zd 1 rfl Tf.a27 rfl hB1 rfl<|Zb rfl<|Zq rfl U27 Tf.s119 rfl hc0 rfl ha (fun b1 o1 cs1 hr1 hcl1 hA1=>?_);have e1:cs1=_:=hr1;subst e1;refine Zr rfl Tf.a119 rfl hA1 Tf.s119<|Zk rfl Tf.f29_1 rfl<|Zd 1 rfl Tf.a27 rfl hB2 rfl<|Zb rfl<|Zq rfl U27 Tf.s119 rfl hd0 rfl hb (fun b2 o2 cs2 hr2 hcl2 hA2=>?_);have e2:cs2=_:=hr2;subst e2;refine Zr rfl Tf.a119 rfl hA2 Tf.s119<|aHF rfl aIP rfl rfl rfl trivial<|L.n1<|aJ rfl (fun hc3=>?_) (fun hc3=>?_)
   ·refine C.s1<|Zj rfl<|L.n5<|Zal<|Zah<|Zah<|Zal<|Zah ?_;exact Za [_] rfl ⟨rfl,aOQ⟩ (fun D hD=>aKJ Value.bool (aNJ (fun e=>absurd (y7 ha hb (e.2.2.2)) (aHV hc3))).symm)
   ·refine aAX<|Zak<|Zag<|C.rg<|Zb rfl<|Zx rfl<|Zj rfl<|Zy ?_;exact aH 20 (k+1) ⟨by omega,SK ha hb h2 (aHU hc3)⟩ Yd ⟨Ya,aOQ⟩ rfl rfl (aJU _) (aD)
  ·have h5:a0.counts=b0.counts:=FC hl5 Yd h2;refine aR<|Zai<|Zai<|Zam<|Zag<|C.s1<|Zj rfl<|L.n5 ?_;exact Za [_] rfl ⟨rfl,aOQ⟩ (fun D hD=>aKJ Value.bool (decide_eq_true (⟨hw,ho,hp,h5⟩)).symm)
theorem aEM(av bv:Value)(a0 b0:C2.bA)(D:aA)(hx:gL D av a0)(hy:gL D bv b0):Fn Tryz.prog 26 #[av,bv] D (fun _ v=>v=.bool (j9 a0 b0)):=by
 obtain⟨hv,lv,mv,rfl,hh0,hv0,hm0⟩:=hx;obtain⟨gv,kv,nv,rfl,gh0,gv0,gm0⟩:=hy;have hlen0:=hh0.len;have hlen1:=hm0.len;refine enter 81 Tryz.func26 rfl rfl rfl rfl fun h0=>C.s1<|Zu rfl (fun q1 E1 hE1 hB1=>Zu rfl (fun q2 E2 hE2 hB2=>Zj rfl<|L.n4<|Zk rfl Tf.f33_0 rfl<|Zd 0 rfl Tf.a3 rfl hB1 rfl<|Zk rfl Tf.f33_0 rfl<|Zd 0 rfl Tf.a3 rfl hB2 rfl<|Zaf rfl<|Zb rfl ?_))
 refine' iE [(false,6),(false,7),(false,8),(false,9),(false,10),(false,11)] [(false,12),(false,13),(false,14),(false,15),(false,16),(false,17),(false,18),(false,19),(false,20),(false,21),(false,22),(false,23),(false,24),(false,25),(false,26),(false,27),(false,28),(false,29),(false,30),(false,31),(false,32),(false,33),(false,34),(false,35),(false,36),(false,37)] (s:=12) (p:=18) rfl rfl (fun hg1=>?_) (fun hg1=>?_) ?_;rotate_left
 ·refine Zl rfl Tf.f33_2 rfl<|Ze 2 rfl Tf.a3 rfl hB1 rfl<|Zl rfl Tf.f33_2 rfl<|Ze 2 rfl Tf.a3 rfl hB2 rfl<|eQ rfl rfl rfl rfl ⟨_,rfl,rfl⟩<|Zab rfl ?_;exact L.cu 5
 ·refine Zi rfl<|Zi rfl<|Zi rfl<|Zi rfl<|Zi rfl<|Zaa rfl ?_;exact L.cu 5
 refine Zb rfl ?_;refine' iE [(false,13),(false,14),(false,15),(false,16),(false,17),(false,18),(false,19)] [(false,20),(false,21),(false,22),(false,23),(false,24),(false,25),(false,26),(false,27),(false,28),(false,29),(false,30),(false,31),(false,32),(false,33),(false,34),(false,35),(false,36),(false,37)] (s:=19) (p:=26) rfl rfl (fun hg2=>?_) (fun hg2=>?_) ?_;rotate_left
 ·refine Zl rfl Tf.f33_3 rfl<|Ze 3 rfl Tf.a26 rfl hB1 rfl<|Zl rfl Tf.f33_3 rfl<|Ze 3 rfl Tf.a26 rfl hB2 rfl<|Zg rfl (fun D1 hD1=>aFB _ _ a0.levels b0.levels _ (hv0.up RI.up (hD1 _ Ye)) (gv0.up RI.up (hD1 _ Ye)))<|jT rfl rfl rfl ⟨_,rfl,rfl⟩<|Zab rfl ?_;exact L.cu 6
 ·refine Zi rfl<|Zi rfl<|Zi rfl<|Zi rfl<|Zi rfl<|Zi rfl<|Zaa rfl ?_;exact L.cu 6
 refine Zb rfl ?_;refine' iE [(false,21),(false,22),(false,23),(false,24),(false,25),(false,26),(false,27),(false,28)] [(false,29),(false,30),(false,31),(false,32),(false,33),(false,34),(false,35),(false,36),(false,37)] (s:=27) (p:=35) rfl rfl (fun hg3=>?_) (fun hg3=>?_) ?_;rotate_left
 ·refine Zl rfl Tf.f33_1 rfl<|Ze 1 rfl Tf.a30 rfl hB1 rfl<|aW rfl U30 rfl hh0 rfl rfl ⟨_,rfl,rfl⟩<|Zl rfl Tf.f33_1 rfl<|Ze 1 rfl Tf.a30 rfl hB2 rfl<|aW rfl U30 rfl gh0 rfl rfl ⟨_,rfl,rfl⟩<|eQ rfl rfl rfl rfl ⟨_,rfl,rfl⟩<|Zab rfl ?_;exact L.cu 7
 ·refine Zi rfl<|Zi rfl<|Zi rfl<|Zi rfl<|Zi rfl<|Zi rfl<|Zi rfl<|Zaa rfl ?_;exact L.cu 7
 refine Zb rfl ?_;refine' iE [(false,30),(false,31),(false,32),(false,33),(false,34),(false,35),(false,36),(false,37)] [] (s:=36) (p:=44) rfl rfl (fun hg4=>?_) (fun hg4=>?_) ?_;rotate_left
 ·refine Zl rfl Tf.f33_4 rfl<|Ze 4 rfl Tf.a31 rfl hB1 rfl<|aW rfl U31 rfl hm0 rfl rfl ⟨_,rfl,rfl⟩<|Zl rfl Tf.f33_4 rfl<|Ze 4 rfl Tf.a31 rfl hB2 rfl<|aW rfl U31 rfl gm0 rfl rfl ⟨_,rfl,rfl⟩<|eQ rfl rfl rfl rfl ⟨_,rfl,rfl⟩<|Zab rfl ?_;exact L.cu 7
 ·refine Zi rfl<|Zi rfl<|Zi rfl<|Zi rfl<|Zi rfl<|Zi rfl<|Zi rfl<|Zaa rfl ?_;exact L.cu 7
 refine L.n1<|aJ rfl (fun hc1=>?_) (fun hc1=>?_)
 ·refine C.s1<|Zj rfl<|L.n5<|Zah ?_;exact Za [_] rfl ⟨rfl,aOQ⟩ (fun D hD=>aKJ Value.bool (aFJ hc1).symm)
 ·obtain⟨hw,ho,hp,hl5,hl6⟩:=aFW hc1;refine C.kn<|C.s2<|Zj rfl<|L.n1<|Zaj<|cN (γ:=Nat) (fun k=>(a0.heights).length-k) (fun k=>k≤(a0.heights).length∧(a0.heights).take k=(b0.heights).take k) (fun k=>[(5,.int .i64 (k:Int))]) [(4,_),(3,_),(2,_)] (fun k=>[E2,E1,D]) 0 Ye ⟨Ya,aOQ⟩ C.rs (aD) ?_;rintro k ⟨h1,h2⟩;refine C.s2<|Zb rfl<|Zk rfl Tf.f33_1 rfl<|Zd 1 rfl Tf.a30 rfl hB1 rfl<|aW rfl U30 rfl hh0 rfl rfl trivial<|Zad rfl<|L.n1<|aF rfl (fun hc2=>?_) (fun hc2=>?_)
  ·have hk:k<(a0.heights).length:=by omega
   obtain⟨a,ha⟩:∃a,(a0.heights)[k]?= some a:=⟨_,aJT hk⟩
   obtain⟨b,hb⟩:∃b,(b0.heights)[k]?= some b:=⟨_,aJT Yd⟩
   refine C.kn<|aCX<|Zaj<|aCX<|C.drawA [] 4 11 996 (fun _ _ _ h=>cZ (P:=Tryz.prog) (fn:=Tryz.f26) _ _ _ h)<|Zk rfl Tf.f33_1 rfl<|Zd 1 rfl Tf.a30 rfl hB1 rfl<|Zb rfl<|Zq rfl U30 Tf.s77 rfl hh0 rfl ha (fun b1 o1 cs1 hr1 hcl1 hA1=>?_);have e1:cs1=_:=hr1;subst e1;refine Zr rfl Tf.a77 rfl hA1 Tf.s77<|Zk rfl Tf.f33_1 rfl<|Zd 1 rfl Tf.a30 rfl hB2 rfl<|Zb rfl<|Zq rfl U30 Tf.s77 rfl gh0 rfl hb (fun b2 o2 cs2 hr2 hcl2 hA2=>?_);have e2:cs2=_:=hr2;subst e2;refine Zr rfl Tf.a77 rfl hA2 Tf.s77<|ZV (l:=[a.1,a.2]) (m:=[b.1,b.2]) rfl aJC rfl rfl rfl rfl rfl trivial<|L.n1<|aJ rfl (fun hc3=>?_) (fun hc3=>?_)
   ·refine C.s1<|Zj rfl<|L.n5<|Zal<|Zah<|Zah<|Zal<|Zah ?_;exact Za [_] rfl ⟨rfl,aOQ⟩ (fun D hD=>aKJ Value.bool (aNJ (fun e=>absurd (y7 ha hb (e.2.2.2.1)) (aFC (f:=aHR) hc3))).symm)
   ·refine aAX<|Zak<|Zag<|C.rg<|Zb rfl<|Zx rfl<|Zj rfl<|Zy ?_;exact aH 20 (k+1) ⟨by omega,SK ha hb h2 (aGR (aEZ hc3))⟩ Yd ⟨Ya,aOQ⟩ rfl rfl (aJU _) (aD)
  ·have h5:a0.heights=b0.heights:=FC hl5 Yd h2;refine aR<|Zai<|Zai<|Zam<|Zag<|C.s2<|Zj rfl<|L.n1<|Zaj<|cN (γ:=Nat) (fun k=>(a0.marks).length-k) (fun k=>k≤(a0.marks).length∧(a0.marks).take k=(b0.marks).take k) (fun k=>[(6,.int .i64 (k:Int))]) [(4,_),(3,_),(2,_)] (fun k=>[E2,E1,D]) 0 Ye ⟨Ya,aOQ⟩ C.rs (aD) ?_;rintro k ⟨h1,h2⟩;refine C.s2<|Zb rfl<|Zk rfl Tf.f33_4 rfl<|Zd 4 rfl Tf.a31 rfl hB1 rfl<|aW rfl U31 rfl hm0 rfl rfl trivial<|Zad rfl<|L.n1<|aF rfl (fun hc4=>?_) (fun hc4=>?_)
   ·have hk:k<(a0.marks).length:=by omega
    obtain⟨a,ha⟩:∃a,(a0.marks)[k]?= some a:=⟨_,aJT hk⟩
    obtain⟨b,hb⟩:∃b,(b0.marks)[k]?= some b:=⟨_,aJT Yd⟩
    refine C.kn<|aCX<|Zaj<|aCX<|C.drawA [] 4 11 996 (fun _ _ _ h=>cZ (P:=Tryz.prog) (fn:=Tryz.f26) _ _ _ h)<|Zk rfl Tf.f33_4 rfl<|Zd 4 rfl Tf.a31 rfl hB1 rfl<|Zb rfl<|Zq rfl U31 Tf.s121 rfl hm0 rfl ha (fun b3 o3 cs3 hr3 hcl3 hA3=>?_);have e3:cs3=_:=hr3;subst e3;refine Zr rfl Tf.a121 rfl hA3 Tf.s121<|Zk rfl Tf.f33_4 rfl<|Zd 4 rfl Tf.a31 rfl hB2 rfl<|Zb rfl<|Zq rfl U31 Tf.s121 rfl gm0 rfl hb (fun b4 o4 cs4 hr4 hcl4 hA4=>?_);have e4:cs4=_:=hr4;subst e4;refine Zr rfl Tf.a121 rfl hA4 Tf.s121<|ZV (l:=[a.frm,a.to,a.lo,a.hi]) (m:=[b.frm,b.to,b.lo,b.hi]) rfl aIS rfl rfl rfl rfl rfl trivial<|L.n1<|aJ rfl (fun hc5=>?_) (fun hc5=>?_)
    ·refine C.s1<|Zj rfl<|L.n5<|Zal<|Zah<|Zah<|Zal<|Zah ?_;exact Za [_] rfl ⟨rfl,aOQ⟩ (fun D hD=>aKJ Value.bool (aNJ (fun e=>absurd (y7 ha hb (e.2.2.2.2)) (aFC (f:=aHZ) hc5))).symm)
    ·refine aAX<|Zak<|Zag<|C.rg<|Zb rfl<|Zx rfl<|Zj rfl<|Zy ?_;exact aH 20 (k+1) ⟨by omega,SK ha hb h2 (aHI (aEZ hc5))⟩ Yd ⟨Ya,aOQ⟩ rfl rfl (aJU _) (aD)
   ·have h6:a0.marks=b0.marks:=FC hl6 Yd h2;refine aR<|Zai<|Zai<|Zam<|Zag<|C.s1<|Zj rfl<|L.n5 ?_;exact Za [_] rfl ⟨rfl,aOQ⟩ (fun D hD=>aKJ Value.bool (decide_eq_true (⟨hw,ho,hp,h5,h6⟩)).symm)
theorem aEQ(av bv:Value)(a0 b0:C3.aZ)(D:aA)(hx:fO D av a0)(hy:fO D bv b0):Fn Tryz.prog 27 #[av,bv] D (fun _ v=>v=.bool (AU a0 b0)):=by
 obtain⟨hv,mv,rfl,hh0,hm0⟩:=hx;obtain⟨gv,nv,rfl,gh0,gm0⟩:=hy;have hlen0:=hh0.len;have hlen1:=hm0.len;refine enter 80 Tryz.func27 rfl rfl rfl rfl fun h0=>C.s1<|Zu rfl (fun q1 E1 hE1 hB1=>Zu rfl (fun q2 E2 hE2 hB2=>Zj rfl<|L.n4<|Zk rfl Tf.f37_0 rfl<|Zd 0 rfl Tf.a3 rfl hB1 rfl<|Zk rfl Tf.f37_0 rfl<|Zd 0 rfl Tf.a3 rfl hB2 rfl<|Zaf rfl<|Zb rfl ?_))
 refine' iE [(false,6),(false,7),(false,8),(false,9),(false,10),(false,11)] [(false,12),(false,13),(false,14),(false,15),(false,16),(false,17),(false,18),(false,19),(false,20),(false,21),(false,22),(false,23),(false,24),(false,25),(false,26),(false,27),(false,28),(false,29),(false,30),(false,31),(false,32),(false,33),(false,34),(false,35),(false,36)] (s:=12) (p:=18) rfl rfl (fun hg1=>?_) (fun hg1=>?_) ?_;rotate_left
 ·refine Zl rfl Tf.f37_1 rfl<|Ze 1 rfl Tf.a3 rfl hB1 rfl<|Zl rfl Tf.f37_1 rfl<|Ze 1 rfl Tf.a3 rfl hB2 rfl<|eQ rfl rfl rfl rfl ⟨_,rfl,rfl⟩<|Zab rfl ?_;exact L.cu 5
 ·refine Zi rfl<|Zi rfl<|Zi rfl<|Zi rfl<|Zi rfl<|Zaa rfl ?_;exact L.cu 5
 refine Zb rfl ?_;refine' iE [(false,13),(false,14),(false,15),(false,16),(false,17),(false,18)] [(false,19),(false,20),(false,21),(false,22),(false,23),(false,24),(false,25),(false,26),(false,27),(false,28),(false,29),(false,30),(false,31),(false,32),(false,33),(false,34),(false,35),(false,36)] (s:=19) (p:=25) rfl rfl (fun hg2=>?_) (fun hg2=>?_) ?_;rotate_left
 ·refine Zl rfl Tf.f37_2 rfl<|Ze 2 rfl Tf.a3 rfl hB1 rfl<|Zl rfl Tf.f37_2 rfl<|Ze 2 rfl Tf.a3 rfl hB2 rfl<|eQ rfl rfl rfl rfl ⟨_,rfl,rfl⟩<|Zab rfl ?_;exact L.cu 5
 ·refine Zi rfl<|Zi rfl<|Zi rfl<|Zi rfl<|Zi rfl<|Zaa rfl ?_;exact L.cu 5
 refine Zb rfl ?_;refine' iE [(false,20),(false,21),(false,22),(false,23),(false,24),(false,25),(false,26),(false,27)] [(false,28),(false,29),(false,30),(false,31),(false,32),(false,33),(false,34),(false,35),(false,36)] (s:=26) (p:=34) rfl rfl (fun hg3=>?_) (fun hg3=>?_) ?_;rotate_left
 ·refine Zl rfl Tf.f37_3 rfl<|Ze 3 rfl Tf.a34 rfl hB1 rfl<|aW rfl U34 rfl hh0 rfl rfl ⟨_,rfl,rfl⟩<|Zl rfl Tf.f37_3 rfl<|Ze 3 rfl Tf.a34 rfl hB2 rfl<|aW rfl U34 rfl gh0 rfl rfl ⟨_,rfl,rfl⟩<|eQ rfl rfl rfl rfl ⟨_,rfl,rfl⟩<|Zab rfl ?_;exact L.cu 7
 ·refine Zi rfl<|Zi rfl<|Zi rfl<|Zi rfl<|Zi rfl<|Zi rfl<|Zi rfl<|Zaa rfl ?_;exact L.cu 7
 refine Zb rfl ?_;refine' iE [(false,29),(false,30),(false,31),(false,32),(false,33),(false,34),(false,35),(false,36)] [] (s:=35) (p:=43) rfl rfl (fun hg4=>?_) (fun hg4=>?_) ?_;rotate_left
 ·refine Zl rfl Tf.f37_4 rfl<|Ze 4 rfl Tf.a35 rfl hB1 rfl<|aW rfl U35 rfl hm0 rfl rfl ⟨_,rfl,rfl⟩<|Zl rfl Tf.f37_4 rfl<|Ze 4 rfl Tf.a35 rfl hB2 rfl<|aW rfl U35 rfl gm0 rfl rfl ⟨_,rfl,rfl⟩<|eQ rfl rfl rfl rfl ⟨_,rfl,rfl⟩<|Zab rfl ?_;exact L.cu 7
 ·refine Zi rfl<|Zi rfl<|Zi rfl<|Zi rfl<|Zi rfl<|Zi rfl<|Zi rfl<|Zaa rfl ?_;exact L.cu 7
 refine L.n1<|aJ rfl (fun hc1=>?_) (fun hc1=>?_)
 ·refine C.s1<|Zj rfl<|L.n5<|Zah ?_;exact Za [_] rfl ⟨rfl,aOQ⟩ (fun D hD=>aKJ Value.bool (aFV hc1).symm)
 ·obtain⟨hw,ho,hp,hl5,hl6⟩:=aGN hc1;refine C.kn<|C.s2<|Zj rfl<|L.n1<|Zaj<|cN (γ:=Nat) (fun k=>(a0.lines).length-k) (fun k=>k≤(a0.lines).length∧(a0.lines).take k=(b0.lines).take k) (fun k=>[(5,.int .i64 (k:Int))]) [(4,_),(3,_),(2,_)] (fun k=>[E2,E1,D]) 0 Ye ⟨Ya,aOQ⟩ C.rs (aD) ?_;rintro k ⟨h1,h2⟩;refine C.s2<|Zb rfl<|Zk rfl Tf.f37_3 rfl<|Zd 3 rfl Tf.a34 rfl hB1 rfl<|aW rfl U34 rfl hh0 rfl rfl trivial<|Zad rfl<|L.n1<|aF rfl (fun hc2=>?_) (fun hc2=>?_)
  ·have hk:k<(a0.lines).length:=by omega
   obtain⟨a,ha⟩:∃a,(a0.lines)[k]?= some a:=⟨_,aJT hk⟩
   obtain⟨b,hb⟩:∃b,(b0.lines)[k]?= some b:=⟨_,aJT Yd⟩
   refine C.kn<|aCX<|Zaj<|aCX<|C.drawA [] 4 11 996 (fun _ _ _ h=>cZ (P:=Tryz.prog) (fn:=Tryz.f27) _ _ _ h)<|Zk rfl Tf.f37_3 rfl<|Zd 3 rfl Tf.a34 rfl hB1 rfl<|Zb rfl<|Zq rfl U34 Tf.s123 rfl hh0 rfl ha (fun b1 o1 cs1 hr1 hcl1 hA1=>?_);have e1:cs1=_:=hr1;subst e1;refine Zr rfl Tf.a123 rfl hA1 Tf.s123<|Zk rfl Tf.f37_3 rfl<|Zd 3 rfl Tf.a34 rfl hB2 rfl<|Zb rfl<|Zq rfl U34 Tf.s123 rfl gh0 rfl hb (fun b2 o2 cs2 hr2 hcl2 hA2=>?_);have e2:cs2=_:=hr2;subst e2;refine Zr rfl Tf.a123 rfl hA2 Tf.s123<|ZV (l:=[a.kind,a.chair,a.token]) (m:=[b.kind,b.chair,b.token]) rfl aIR rfl rfl rfl rfl rfl trivial<|L.n1<|aJ rfl (fun hc3=>?_) (fun hc3=>?_)
   ·refine C.s1<|Zj rfl<|L.n5<|Zal<|Zah<|Zah<|Zal<|Zah ?_;exact Za [_] rfl ⟨rfl,aOQ⟩ (fun D hD=>aKJ Value.bool (aNJ (fun e=>absurd (y7 ha hb (e.2.2.2.1)) (aFC (f:=aHY) hc3))).symm)
   ·refine aAX<|Zak<|Zag<|C.rg<|Zb rfl<|Zx rfl<|Zj rfl<|Zy ?_;exact aH 20 (k+1) ⟨by omega,SK ha hb h2 (aHG (aEZ hc3))⟩ Yd ⟨Ya,aOQ⟩ rfl rfl (aJU _) (aD)
  ·have h5:a0.lines=b0.lines:=FC hl5 Yd h2;refine aR<|Zai<|Zai<|Zam<|Zag<|C.s2<|Zj rfl<|L.n1<|Zaj<|cN (γ:=Nat) (fun k=>(a0.counts).length-k) (fun k=>k≤(a0.counts).length∧(a0.counts).take k=(b0.counts).take k) (fun k=>[(6,.int .i64 (k:Int))]) [(4,_),(3,_),(2,_)] (fun k=>[E2,E1,D]) 0 Ye ⟨Ya,aOQ⟩ C.rs (aD) ?_;rintro k ⟨h1,h2⟩;refine C.s2<|Zb rfl<|Zk rfl Tf.f37_4 rfl<|Zd 4 rfl Tf.a35 rfl hB1 rfl<|aW rfl U35 rfl hm0 rfl rfl trivial<|Zad rfl<|L.n1<|aF rfl (fun hc4=>?_) (fun hc4=>?_)
   ·have hk:k<(a0.counts).length:=by omega
    obtain⟨a,ha⟩:∃a,(a0.counts)[k]?= some a:=⟨_,aJT hk⟩
    obtain⟨b,hb⟩:∃b,(b0.counts)[k]?= some b:=⟨_,aJT Yd⟩
    refine C.kn<|aCX<|Zaj<|aCX<|C.drawA [] 4 11 996 (fun _ _ _ h=>cZ (P:=Tryz.prog) (fn:=Tryz.f27) _ _ _ h)<|Zk rfl Tf.f37_4 rfl<|Zd 4 rfl Tf.a35 rfl hB1 rfl<|Zb rfl<|Zq rfl U35 Tf.s125 rfl hm0 rfl ha (fun b3 o3 cs3 hr3 hcl3 hA3=>?_);have e3:cs3=_:=hr3;subst e3;refine Zr rfl Tf.a125 rfl hA3 Tf.s125<|Zk rfl Tf.f37_4 rfl<|Zd 4 rfl Tf.a35 rfl hB2 rfl<|Zb rfl<|Zq rfl U35 Tf.s125 rfl gm0 rfl hb (fun b4 o4 cs4 hr4 hcl4 hA4=>?_);have e4:cs4=_:=hr4;subst e4;refine Zr rfl Tf.a125 rfl hA4 Tf.s125<|ZV (l:=[a.after,a.lo,a.hi]) (m:=[b.after,b.lo,b.hi]) rfl aIT rfl rfl rfl rfl rfl trivial<|L.n1<|aJ rfl (fun hc5=>?_) (fun hc5=>?_)
    ·refine C.s1<|Zj rfl<|L.n5<|Zal<|Zah<|Zah<|Zal<|Zah ?_;exact Za [_] rfl ⟨rfl,aOQ⟩ (fun D hD=>aKJ Value.bool (aNJ (fun e=>absurd (y7 ha hb (e.2.2.2.2)) (aFC (f:=aHX) hc5))).symm)
    ·refine aAX<|Zak<|Zag<|C.rg<|Zb rfl<|Zx rfl<|Zj rfl<|Zy ?_;exact aH 20 (k+1) ⟨by omega,SK ha hb h2 (aHH (aEZ hc5))⟩ Yd ⟨Ya,aOQ⟩ rfl rfl (aJU _) (aD)
   ·have h6:a0.counts=b0.counts:=FC hl6 Yd h2;refine aR<|Zai<|Zai<|Zam<|Zag<|C.s1<|Zj rfl<|L.n5 ?_;exact Za [_] rfl ⟨rfl,aOQ⟩ (fun D hD=>aKJ Value.bool (decide_eq_true (⟨hw,ho,hp,h5,h6⟩)).symm)
theorem aES(av bv:Value)(a0 b0:C7.bJ)(D:aA)(hx:lE D av a0)(hy:lE D bv b0):Fn Tryz.prog 28 #[av,bv] D (fun _ v=>v=.bool (DB a0 b0)):=by
 obtain⟨hv,mv,rfl,hh0,hm0⟩:=hx;obtain⟨gv,nv,rfl,gh0,gm0⟩:=hy;have hlen0:=hh0.len;have hlen1:=hm0.len;refine enter 66 Tryz.func28 rfl rfl rfl rfl fun h0=>C.s1<|Zu rfl (fun q1 E1 hE1 hB1=>Zu rfl (fun q2 E2 hE2 hB2=>Zj rfl<|L.n4<|Zk rfl Tf.f41_1 rfl<|Zd 1 rfl Tf.a3 rfl hB1 rfl<|Zk rfl Tf.f41_1 rfl<|Zd 1 rfl Tf.a3 rfl hB2 rfl<|Zaf rfl<|Zb rfl ?_))
 refine' iE [(false,6),(false,7),(false,8),(false,9),(false,10),(false,11),(false,12),(false,13)] [(false,14),(false,15),(false,16),(false,17),(false,18),(false,19),(false,20),(false,21),(false,22)] (s:=12) (p:=20) rfl rfl (fun hg1=>?_) (fun hg1=>?_) ?_;rotate_left
 ·refine Zl rfl Tf.f41_0 rfl<|Ze 0 rfl Tf.a38 rfl hB1 rfl<|aW rfl U38 rfl hh0 rfl rfl ⟨_,rfl,rfl⟩<|Zl rfl Tf.f41_0 rfl<|Ze 0 rfl Tf.a38 rfl hB2 rfl<|aW rfl U38 rfl gh0 rfl rfl ⟨_,rfl,rfl⟩<|eQ rfl rfl rfl rfl ⟨_,rfl,rfl⟩<|Zab rfl ?_;exact L.cu 7
 ·refine Zi rfl<|Zi rfl<|Zi rfl<|Zi rfl<|Zi rfl<|Zi rfl<|Zi rfl<|Zaa rfl ?_;exact L.cu 7
 refine Zb rfl ?_;refine' iE [(false,15),(false,16),(false,17),(false,18),(false,19),(false,20),(false,21),(false,22)] [] (s:=21) (p:=29) rfl rfl (fun hg2=>?_) (fun hg2=>?_) ?_;rotate_left
 ·refine Zl rfl Tf.f41_2 rfl<|Ze 2 rfl Tf.a39 rfl hB1 rfl<|aW rfl U39 rfl hm0 rfl rfl ⟨_,rfl,rfl⟩<|Zl rfl Tf.f41_2 rfl<|Ze 2 rfl Tf.a39 rfl hB2 rfl<|aW rfl U39 rfl gm0 rfl rfl ⟨_,rfl,rfl⟩<|eQ rfl rfl rfl rfl ⟨_,rfl,rfl⟩<|Zab rfl ?_;exact L.cu 7
 ·refine Zi rfl<|Zi rfl<|Zi rfl<|Zi rfl<|Zi rfl<|Zi rfl<|Zi rfl<|Zaa rfl ?_;exact L.cu 7
 refine L.n1<|aJ rfl (fun hc1=>?_) (fun hc1=>?_)
 ·refine C.s1<|Zj rfl<|L.n5<|Zah ?_;exact Za [_] rfl ⟨rfl,aOQ⟩ (fun D hD=>aKJ Value.bool (aFO hc1).symm)
 ·obtain⟨hw,hl5,hl6⟩:=aGE hc1;refine C.kn<|C.s2<|Zj rfl<|L.n1<|Zaj<|cN (γ:=Nat) (fun k=>(a0.chairs).length-k) (fun k=>k≤(a0.chairs).length∧(a0.chairs).take k=(b0.chairs).take k) (fun k=>[(5,.int .i64 (k:Int))]) [(4,_),(3,_),(2,_)] (fun k=>[E2,E1,D]) 0 Ye ⟨Ya,aOQ⟩ C.rs (aD) ?_;rintro k ⟨h1,h2⟩;refine C.s2<|Zb rfl<|Zk rfl Tf.f41_0 rfl<|Zd 0 rfl Tf.a38 rfl hB1 rfl<|aW rfl U38 rfl hh0 rfl rfl trivial<|Zad rfl<|L.n1<|aF rfl (fun hc2=>?_) (fun hc2=>?_)
  ·have hk:k<(a0.chairs).length:=by omega
   obtain⟨a,ha⟩:∃a,(a0.chairs)[k]?= some a:=⟨_,aJT hk⟩
   obtain⟨b,hb⟩:∃b,(b0.chairs)[k]?= some b:=⟨_,aJT Yd⟩
   refine C.kn<|aCX<|Zaj<|aCX<|C.drawA [] 4 11 996 (fun _ _ _ h=>cZ (P:=Tryz.prog) (fn:=Tryz.f28) _ _ _ h)<|Zk rfl Tf.f41_0 rfl<|Zd 0 rfl Tf.a38 rfl hB1 rfl<|Zb rfl<|Zq rfl U38 Tf.s81 rfl hh0 rfl ha (fun b1 o1 cs1 hr1 hcl1 hA1=>?_);have e1:cs1=_:=hr1;subst e1;refine Zr rfl Tf.a81 rfl hA1 Tf.s81<|Zk rfl Tf.f41_0 rfl<|Zd 0 rfl Tf.a38 rfl hB2 rfl<|Zb rfl<|Zq rfl U38 Tf.s81 rfl gh0 rfl hb (fun b2 o2 cs2 hr2 hcl2 hA2=>?_);have e2:cs2=_:=hr2;subst e2;refine Zr rfl Tf.a81 rfl hA2 Tf.s81<|ZV (l:=[a.size,a.parts.a,a.parts.b,a.parts.c]) (m:=[b.size,b.parts.a,b.parts.b,b.parts.c]) rfl aIY rfl rfl rfl rfl rfl trivial<|L.n1<|aJ rfl (fun hc3=>?_) (fun hc3=>?_)
   ·refine C.s1<|Zj rfl<|L.n5<|Zal<|Zah<|Zah<|Zal<|Zah ?_;exact Za [_] rfl ⟨rfl,aOQ⟩ (fun D hD=>aKJ Value.bool (aNJ (fun e=>absurd (y7 ha hb (e.2.1)) (aFC (f:=aHQ) hc3))).symm)
   ·refine aAX<|Zak<|Zag<|C.rg<|Zb rfl<|Zx rfl<|Zj rfl<|Zy ?_;exact aH 20 (k+1) ⟨by omega,SK ha hb h2 (aGQ (aEZ hc3))⟩ Yd ⟨Ya,aOQ⟩ rfl rfl (aJU _) (aD)
  ·have h5:a0.chairs=b0.chairs:=FC hl5 Yd h2;refine aR<|Zai<|Zai<|Zam<|Zag<|C.s2<|Zj rfl<|L.n1<|Zaj<|cN (γ:=Nat) (fun k=>(a0.claims).length-k) (fun k=>k≤(a0.claims).length∧(a0.claims).take k=(b0.claims).take k) (fun k=>[(6,.int .i64 (k:Int))]) [(4,_),(3,_),(2,_)] (fun k=>[E2,E1,D]) 0 Ye ⟨Ya,aOQ⟩ C.rs (aD) ?_;rintro k ⟨h1,h2⟩;refine C.s2<|Zb rfl<|Zk rfl Tf.f41_2 rfl<|Zd 2 rfl Tf.a39 rfl hB1 rfl<|aW rfl U39 rfl hm0 rfl rfl trivial<|Zad rfl<|L.n1<|aF rfl (fun hc4=>?_) (fun hc4=>?_)
   ·have hk:k<(a0.claims).length:=by omega
    obtain⟨a,ha⟩:∃a,(a0.claims)[k]?= some a:=⟨_,aJT hk⟩
    obtain⟨b,hb⟩:∃b,(b0.claims)[k]?= some b:=⟨_,aJT Yd⟩
    refine C.kn<|aCX<|Zaj<|aCX<|C.drawA [] 4 11 996 (fun _ _ _ h=>cZ (P:=Tryz.prog) (fn:=Tryz.f28) _ _ _ h)<|Zk rfl Tf.f41_2 rfl<|Zd 2 rfl Tf.a39 rfl hB1 rfl<|Zb rfl<|Zq rfl U39 Tf.s103 rfl hm0 rfl ha (fun b3 o3 cs3 hr3 hcl3 hA3=>?_);have e3:cs3=_:=hr3;subst e3;refine Zr rfl Tf.a103 rfl hA3 Tf.s103<|Zk rfl Tf.f41_2 rfl<|Zd 2 rfl Tf.a39 rfl hB2 rfl<|Zb rfl<|Zq rfl U39 Tf.s103 rfl gm0 rfl hb (fun b4 o4 cs4 hr4 hcl4 hA4=>?_);have e4:cs4=_:=hr4;subst e4;refine Zr rfl Tf.a103 rfl hA4 Tf.s103<|ZV (l:=[a.1,a.2]) (m:=[b.1,b.2]) rfl aIV rfl rfl rfl rfl rfl trivial<|L.n1<|aJ rfl (fun hc5=>?_) (fun hc5=>?_)
    ·refine C.s1<|Zj rfl<|L.n5<|Zal<|Zah<|Zah<|Zal<|Zah ?_;exact Za [_] rfl ⟨rfl,aOQ⟩ (fun D hD=>aKJ Value.bool (aNJ (fun e=>absurd (y7 ha hb (e.2.2)) (aFC (f:=aHR) hc5))).symm)
    ·refine aAX<|Zak<|Zag<|C.rg<|Zb rfl<|Zx rfl<|Zj rfl<|Zy ?_;exact aH 20 (k+1) ⟨by omega,SK ha hb h2 (aGR (aEZ hc5))⟩ Yd ⟨Ya,aOQ⟩ rfl rfl (aJU _) (aD)
   ·have h6:a0.claims=b0.claims:=FC hl6 Yd h2;refine aR<|Zai<|Zai<|Zam<|Zag<|C.s1<|Zj rfl<|L.n5 ?_;exact Za [_] rfl ⟨rfl,aOQ⟩ (fun D hD=>aKJ Value.bool (decide_eq_true (⟨hw,h5,h6⟩)).symm)
theorem aGT(av bv:Value)(a0 b0:aN)(D:aA)(hx:gW D av a0)(hy:gW D bv b0):Fn Tryz.prog 10 #[av,bv] D (fun _ v=>v=.bool (aFE a0 b0)):=by
 obtain⟨pv,cv,hv,lv,mv,bl,bc,yc,yq,rfl,hL⟩:=hx;obtain⟨pv2,cv2,hv2,lv2,mv2,bl2,bc2,yc2,yq2,rfl,hM⟩:=hy;unfold bS;refine enter 31 Tryz.func10 rfl rfl rfl rfl fun h0=>C.s1<|Zu rfl (fun q1 E1 hE1 hB1=>Zu rfl (fun q2 E2 hE2 hB2=>Zj rfl<|L.n3<|Zk rfl Tf.f43_0 rfl<|dO rfl (k:=0) Tf.a29 Tf.s29 rfl hB1 Yc rfl rfl aJN rfl trivial<|Zk rfl Tf.f43_0 rfl<|dO rfl (k:=0) Tf.a29 Tf.s29 rfl hB2 Yc rfl rfl aJN rfl trivial<|Zf rfl (fun D1 hD1=>aFA _ _ a0.row b0.row _ (hL.row.up (hD1 _ Ye)) (hM.row.up (hD1 _ Ye)))<|Zb rfl ?_))
 refine' cQ [(false,6),(false,7),(false,8),(false,9),(false,10),(false,11)] [(false,12),(false,13),(false,14),(false,15),(false,16),(false,17),(false,18),(false,19),(false,20),(false,21),(false,22),(false,23),(false,24),(false,25),(false,26)] (s:=10) (p:=16) rfl rfl (fun hg1=>?_) (fun hg1=>?_) ?_;rotate_left
 ·refine Zl rfl Tf.f43_1 rfl<|dO rfl (k:=4) Tf.a33 Tf.s33 rfl hB1 Yc rfl rfl aJN rfl ⟨_,rfl,rfl⟩<|Zl rfl Tf.f43_1 rfl<|dO rfl (k:=4) Tf.a33 Tf.s33 rfl hB2 Yc rfl rfl aJN rfl ⟨_,rfl,rfl⟩<|Zg rfl (fun D2 hD2=>aEM _ _ a0.table b0.table _ (hL.table.up (hD2 _ Ye)) (hM.table.up (hD2 _ Ye)))<|Zaa rfl ?_;exact L.cu 5
 ·refine Zi rfl<|Zi rfl<|Zi rfl<|Zi rfl<|Zi rfl<|Zab rfl ?_;exact L.cu 5
 refine Zb rfl ?_;refine' cQ [(false,13),(false,14),(false,15),(false,16),(false,17),(false,18)] [(false,19),(false,20),(false,21),(false,22),(false,23),(false,24),(false,25),(false,26)] (s:=17) (p:=23) rfl rfl (fun hg2=>?_) (fun hg2=>?_) ?_;rotate_left
 ·refine Zl rfl Tf.f43_2 rfl<|dO rfl (k:=9) Tf.a37 Tf.s37 rfl hB1 Yc rfl rfl aJN rfl ⟨_,rfl,rfl⟩<|Zl rfl Tf.f43_2 rfl<|dO rfl (k:=9) Tf.a37 Tf.s37 rfl hB2 Yc rfl rfl aJN rfl ⟨_,rfl,rfl⟩<|Zg rfl (fun D3 hD3=>aEQ _ _ a0.book b0.book _ (hL.book.up (hD3 _ Ye)) (hM.book.up (hD3 _ Ye)))<|Zaa rfl ?_;exact L.cu 5
 ·refine Zi rfl<|Zi rfl<|Zi rfl<|Zi rfl<|Zi rfl<|Zab rfl ?_;exact L.cu 5
 refine Zb rfl ?_;refine' cQ [(false,20),(false,21),(false,22),(false,23),(false,24),(false,25)] [(false,26)] (s:=24) (p:=30) rfl rfl (fun hg3=>?_) (fun hg3=>?_) ?_;rotate_left
 ·refine Zl rfl Tf.f43_3 rfl<|dO rfl (k:=14) Tf.a41 Tf.s41 rfl hB1 Yc rfl rfl aJN rfl ⟨_,rfl,rfl⟩<|Zl rfl Tf.f43_3 rfl<|dO rfl (k:=14) Tf.a41 Tf.s41 rfl hB2 Yc rfl rfl aJN rfl ⟨_,rfl,rfl⟩<|Zg rfl (fun D4 hD4=>aES _ _ a0.yard b0.yard _ (hL.yard.up (hD4 _ Ye)) (hM.yard.up (hD4 _ Ye)))<|Zaa rfl ?_;exact L.cu 5
 ·refine Zi rfl<|Zi rfl<|Zi rfl<|Zi rfl<|Zi rfl<|Zab rfl ?_;exact L.cu 5
 refine Zj rfl<|L.n5 ?_;exact Za [_] rfl ⟨rfl,aOQ⟩ (fun D hD=>rfl)
end L12
end Go.Fs
namespace Go.Fs
open Go.Proofs
namespace L12
open C12
theorem aEL(ls:List ByteArray):(mM ls).2.length=ls.length:=by
 have key:∀(ls:List ByteArray) (p:aN×List Int),(ls.foldl (fun p l=>((uA p.1 l).1,p.2++[(uA p.1 l).2])) p).2.length=p.2.length+ls.length:=by
  intro ls;induction ls with
  |nil=>intro p;simp
  |cons l ls ih=>intro p;rw[aMF,ih];simp;omega
 have:=key ls (yA,[]);simpa [mM]using this
def oU(s:aN)(ls:List ByteArray):aN:=ls.foldl (fun s l=>(uA s l).1) s
def aEK(s:aN):List ByteArray→List Int
 | []=>[]
 |l::ls=>(uA s l).2::aEK (uA s l).1 ls
theorem aGU(s:aN)(l:ByteArray)(ls:List ByteArray):oU s (l::ls)=oU (uA s l).1 ls:=rfl
theorem aHD(s:aN)(ls ms:List ByteArray):oU s (ls++ms)=oU (oU s ls) ms:=by simp[oU,aMA]
theorem aGB(ms:List ByteArray):∀(ls:List ByteArray) (s:aN),aEK s (ls++ms)=aEK s ls++aEK (oU s ls) ms
 | [],_=>rfl
 |l::ls,s=>by
  show(uA s l).2::aEK (uA s l).1 (ls++ms)=(uA s l).2::(aEK (uA s l).1 ls++aEK (oU (uA s l).1 ls) ms);rw[aGB ms ls]
theorem aFD(ls:List ByteArray):mM ls=(oU yA ls,aEK yA ls):=by
 have key:∀(ls:List ByteArray) (s:aN) (es:List Int),ls.foldl (fun p l=>((uA p.1 l).1,p.2++[(uA p.1 l).2])) (s,es)=(oU s ls,es++aEK s ls):=by
  intro ls;induction ls with
  |nil=>intro s es;simp[oU,aEK]
  |cons l ls ih=>intro s es;rw[aMF,ih];simp[aGU,aEK]
 have:=key ls yA [];simpa [mM]using this
theorem aFQ{ls:List ByteArray}(h1:ls.length≤40)(h2:∀x∈ls,x.size≤50):dW ls=0:=MS h1 h2
end L12
end Go.Fs
namespace Go.Fs
open Go.Proofs
namespace L12
open C12
theorem aGX{ls ms:List ByteArray}(h:dW (ls++ms)=0):dW ls=0:=by
 have h1:=tH h;rw[aJZ]at h1;exact aFQ Yd fun y hy=>F0 h y (aKC _ hy)
theorem aER{ls:List ByteArray}(h:dW ls=0):(aL ls).2.2=0:=by rw[kF h]
theorem aHB{ls:List ByteArray}(h:dW ls=0):(aL ls).2.1.length=ls.length:=by rw[kF h];exact aEL ls
theorem aEI{ls:List ByteArray}(h:dW ls=0):(aL ls).1=(mM ls).1:=by rw[kF h]
theorem aEY(ls ms:List ByteArray):mM (ls++ms)=(oU (mM ls).1 ms,(mM ls).2++aEK (mM ls).1 ms):=by
 rw[aFD,aFD,aHD,aGB]
theorem aGW{ls:List ByteArray}{x:ByteArray}(h:dW (ls++[x])=0):(aL (ls++[x])).2.1[ls.length]?= some (uA (mM ls).1 x).2:=by
 rw[kF h,aEY];show((mM ls).2++aEK (mM ls).1 [x])[ls.length]?= _;rw[aJO (by rw[aEL];exact aKR _),aEL,Nat.sub_self];rfl
theorem aGP(sv:Value)(xs:List ByteArray)(D:aA)(hS:Sl D RS 1 sv xs)(hl:xs.length≤10000000):BJ Tryz.prog 6 #[sv] D (fun _ v ν=>bR 9 1 v xs.length (xs.map Value.string) ν):=by
 refine mC 6 Tryz.func6 rfl rfl rfl rfl fun h0=>C.s1<|Zj rfl<|L.n3<|Zo rfl U22 Tf.s9 Tf.z9 rfl rfl rfl rfl .nil (fun b901 D901 hD901 hA901=>Zb rfl<|aX (A:=[]) (ν:=[]) (B:=[]) rfl U22 rfl rfl Tf.s9 Tf.z9 rfl Tf.i9 rfl rfl rfl bR.nil (jN.strs hS) Ye Yal rfl (MC _) Yd (aKP rfl) rfl aOQ (fun v1 ν1 ha1=>Zj rfl<|L.n5 ?_))
 have ha2:bR 9 1 v1 xs.length (xs.map Value.string) ν1:=by simpa using ha1
 exact Za [_] rfl ⟨rfl,aOQ⟩ (fun D' hD=>by simpa [nY]using ha2)
end L12
end Go.Fs
namespace Go.Fs
open Go.Proofs
namespace L12
open C12 Go.Lib
theorem aJB{D:aA}{b:Nat}{x:UInt8}{v:Value}(hA:At D b 0 ([v]++[]))(hv:v=.int .u8 (x.toNat:Int)):Sl D RU 1 (.slice (some ⟨b,0,none⟩) 1 1) [x]:=by
 refine⟨_,_,rfl,aKR _,by simp,aKB ⟨b,0,rfl,fun i y hi=>⟨_,rfl,rfl,fun j u hj=>?_⟩⟩⟩;obtain rfl:i=0:=by have:=(aKH.1 hi).1;simpa using this
 obtain rfl:x=y:=by simpa using hi
 cases j with
 |zero=>
  obtain rfl:Value.int .u8 x.toNat=u:=by simpa using hj
  have:=hA 0 v rfl;rw[hv]at this;simpa using this
 |succ j=>simp at hj
theorem aIM{n:Int}(h0:0≤n)(h1:n≤9):Value.int .u8 (48+n)=.int .u8 ((UInt8.ofNat (48+n.toNat)).toNat:Int):=by
 rw[UInt8.toNat_ofNat'];congr 1;omega
theorem aII{n:Int}(h0:0≤n)(h1:n≤9):f8 (itoa n)=⟨#[UInt8.ofNat (48+n.toNat)]⟩:=by
 obtain⟨m,rfl⟩:=Int.eq_ofNat_of_zero_le h0;have key:((List.range 10).all fun m=>itoa (m:Int)== [UInt8.ofNat (48+m)])=true:=by decide+kernel
 have:=aKX.1 key m (aNN.2 Yd);rw[eq_of_beq this];rfl
theorem P8{n:Int}(h0:0≤n)(h1:n≤9):(f8 (itoa n)).size=1:=by rw[aII h0 h1];rfl
theorem n7(n:Int)(hn0:0≤n)(hn1:n≤9)(D:aA):Fn Tryz.prog 24 #[.int .i64 n] D (fun _ v=>v=.string (f8 (itoa n))):=by
 refine enter 19 Tryz.func24 rfl rfl rfl rfl fun h0=>C.s1<|Zj rfl<|L.n4<|Zb rfl<|Zad rfl<|L.n1<|aF rfl (fun hc1=>?_) (fun hc1=>?_)
 ·omega
 ·refine C.kn<|C.s2<|Zb rfl<|Zad rfl<|L.n1<|aF rfl (fun hc2=>?_) (fun hc2=>?_)
  ·refine C.s1<|Zb rfl<|Zx rfl<|Z3 rfl U3 U5 rfl Yf rfl trivial<|Zo rfl U64 Tf.s5 Tf.z5 rfl rfl rfl rfl (.cons rfl rfl .nil) (fun b901 D901 hD901 hA901=>?_)
   skip
   refine X7 (l:=[UInt8.ofNat (48+n.toNat)]) rfl U64 U5 U9 rfl (aJB hA901 (aIM hn0 hn1)) Ye (fun _ _ _ _ _=>aJN) rfl trivial<|Zj rfl<|L.n5<|Zah ?_;exact Za [_] rfl ⟨rfl,aOQ⟩ (fun D hD=>by show Value.string _=_;rw[aII hn0 hn1])
  ·omega
end L12
end Go.Fs
namespace Go.Fs
open Go.Proofs
namespace L12
open C12 Go.Lib
def aDF(w:ByteArray)(ns:List Int):ByteArray:=ns.foldl (fun s n=>s++(⟨#[32]⟩++f8 (itoa n))) w
end L12
end Go.Fs
namespace Go.Fs
open Go.Proofs
namespace L12
open C12 Go.Lib
theorem aEW:∀{p:List UInt8} (l:List UInt8),(32:UInt8)∉p→kI (p++32::l)=p::kI l
 | [],l,_=>by simp[kI]
 |b::p,l,h=>by
  simp only[aJX,not_or]at h;rw[aML,kI,aKO (fun e=>h.1 e.symm),aEW l h.2]
theorem aHJ(w:ByteArray):∀ns:List Int,(aDF w ns).data.toList=w.data.toList++ns.flatMap fun n=>32::itoa n:=by
 intro ns;induction ns generalizing w with
 |nil=>simp[aDF]
 |cons n ns ih=>
  show(aDF (w++(⟨#[32]⟩++f8 (itoa n))) ns).data.toList=_;rw[ih];simp[f8]
theorem aET:∀(ns:List Int) (p:List UInt8),(32:UInt8)∉p→(∀n∈ns,(32:UInt8)∉itoa n)→kI (p++ns.flatMap fun n=>32::itoa n)=p::ns.map itoa
 | [],p,hp,_=>by simp[tM hp]
 |n::ns,p,hp,h=>by
  rw[aLO,aML,aEW _ hp,aET ns (itoa n) (h n Ye) fun m hm=>h m (by simp[hm])];rfl
theorem aHL:((List.range 100).all fun m=>lM (itoa (m:Int))==some (m:Int)&& !(itoa (m:Int)).contains 32)=true:=by decide+kernel
theorem aFY{n:Int}(h0:0≤n)(h1:n≤99):lM (itoa n)=some n∧(32:UInt8)∉itoa n:=by
 obtain⟨m,rfl⟩:=Int.eq_ofNat_of_zero_le h0;have:=aKX.1 aHL m (aNN.2 Yd);rw[aKG]at this;exact⟨eq_of_beq this.1,fun hm=>by simp[hm]at this⟩
theorem aEN:∀{ns:List Int},(∀n∈ns,0≤n∧n≤99)→(ns.map itoa).mapM lM=some ns
 | [],_=>rfl
 |n::ns,h=>by
  obtain⟨h0,h1⟩:=h n Ye;rw[aLB,aNO,(aFY h0 h1).1,aEN (ns:=ns) fun m hm=>h m (by simp[hm])];rfl
theorem aGZ{w:ByteArray}{ns:List Int}{act:fI}(hw:(32:UInt8)∉w.data.toList)(hr:∀n∈ns,0≤n∧n≤99)(hf:lC.find? (fun x=>x.1==w.data.toList)=some (w.data.toList,ns.length,act)):jW (aDF w ns)=some (act,ns):=by
 unfold jW;rw[aHJ,aET ns _ hw fun n hn=>(aFY (hr n hn).1 (hr n hn).2).2];simp only[hf,aMI,aMG];rw[aEN hr];rfl
end L12
end Go.Fs
namespace Go.Fs
open Go.Proofs
namespace L12
open C12 Go.Lib
def K6(s:aN)(x:ByteArray):ByteArray:=match dB x with
 | []=>⟨#[]⟩
 |p::_=>if p=⟨#[99,111,117,110,116]⟩∨p=⟨#[98,97,99,107]⟩then⟨#[117,110,99,111,117,110,116,32]⟩++f8 (itoa (s.row.counts.length:Int))else if p=⟨#[109,97,114,107]⟩then⟨#[117,110,109,97,114,107,32]⟩++f8 (itoa (s.table.marks.length:Int))else if p=⟨#[104,105,114,101]⟩∨p=⟨#[98,114,105,110,103]⟩then⟨#[115,116,114,105,107,101,32]⟩++f8 (itoa (s.book.lines.length:Int))else if p=⟨#[99,108,97,105,109]⟩then⟨#[117,110,99,108,97,105,109,32]⟩++f8 (itoa (s.yard.claims.length:Int))else⟨#[]⟩
section
variable{s:aN}{x p:ByteArray}{ps:List ByteArray}(h:dB x=p::ps)
include h
theorem aFG(e:p=⟨#[99,111,117,110,116]⟩∨p=⟨#[98,97,99,107]⟩):K6 s x=⟨#[117,110,99,111,117,110,116,32]⟩++f8 (itoa (s.row.counts.length:Int)):=by
 unfold K6;rw[h];exact aKS e
theorem aHW(n1:¬p=⟨#[99,111,117,110,116]⟩)(n2:¬p=⟨#[98,97,99,107]⟩)(e:p=⟨#[109,97,114,107]⟩):K6 s x=⟨#[117,110,109,97,114,107,32]⟩++f8 (itoa (s.table.marks.length:Int)):=by
 unfold K6;rw[h];exact(aKO (by simp only[n1,n2,or_self,aNP])).trans (aKS e)
theorem aEX(n1:¬p=⟨#[99,111,117,110,116]⟩)(n2:¬p=⟨#[98,97,99,107]⟩)(n3:¬p=⟨#[109,97,114,107]⟩)(e:p=⟨#[104,105,114,101]⟩∨p=⟨#[98,114,105,110,103]⟩):K6 s x=⟨#[115,116,114,105,107,101,32]⟩++f8 (itoa (s.book.lines.length:Int)):=by
 unfold K6;rw[h];exact(aKO (by simp only[n1,n2,or_self,aNP])).trans ((aKO n3).trans (aKS e))
theorem aIA(n1:¬p=⟨#[99,111,117,110,116]⟩)(n2:¬p=⟨#[98,97,99,107]⟩)(n3:¬p=⟨#[109,97,114,107]⟩)(n4:¬p=⟨#[104,105,114,101]⟩)(n5:¬p=⟨#[98,114,105,110,103]⟩)(e:p=⟨#[99,108,97,105,109]⟩):K6 s x=⟨#[117,110,99,108,97,105,109,32]⟩++f8 (itoa (s.yard.claims.length:Int)):=by
 unfold K6;rw[h];exact(aKO (by simp only[n1,n2,or_self,aNP])).trans ((aKO n3).trans ((aKO (by simp only[n4,n5,or_self,aNP])).trans (aKS e)))
theorem aEO(n1:¬p=⟨#[99,111,117,110,116]⟩)(n2:¬p=⟨#[98,97,99,107]⟩)(n3:¬p=⟨#[109,97,114,107]⟩)(n4:¬p=⟨#[104,105,114,101]⟩)(n5:¬p=⟨#[98,114,105,110,103]⟩)(n6:¬p=⟨#[99,108,97,105,109]⟩):K6 s x=⟨#[]⟩:=by
 unfold K6;rw[h]
 simp only[n1,n2,n3,n4,n5,n6,or_self,aMN]
end
theorem n9(s:aN)(x:ByteArray):(∃p ps,dB x=p::ps∧(((p=⟨#[99,111,117,110,116]⟩∨p=⟨#[98,97,99,107]⟩)∧K6 s x=⟨#[117,110,99,111,117,110,116,32]⟩++f8 (itoa (s.row.counts.length:Int)))∨(p=⟨#[109,97,114,107]⟩∧K6 s x=⟨#[117,110,109,97,114,107,32]⟩++f8 (itoa (s.table.marks.length:Int)))∨((p=⟨#[104,105,114,101]⟩∨p=⟨#[98,114,105,110,103]⟩)∧K6 s x=⟨#[115,116,114,105,107,101,32]⟩++f8 (itoa (s.book.lines.length:Int)))∨(p=⟨#[99,108,97,105,109]⟩∧K6 s x=⟨#[117,110,99,108,97,105,109,32]⟩++f8 (itoa (s.yard.claims.length:Int)))))∨K6 s x=⟨#[]⟩:=by
 obtain⟨p,ps,h⟩:=uO x;by_cases n1:p=⟨#[99,111,117,110,116]⟩
 ·exact aKP ⟨p,ps,h,aKP ⟨aKP n1,aFG h (aKP n1)⟩⟩
 by_cases n2:p=⟨#[98,97,99,107]⟩
 ·exact aKP ⟨p,ps,h,aKP ⟨aKB n2,aFG h (aKB n2)⟩⟩
 by_cases n3:p=⟨#[109,97,114,107]⟩
 ·exact aKP ⟨p,ps,h,aKB (aKP ⟨n3,aHW h n1 n2 n3⟩)⟩
 by_cases n4:p=⟨#[104,105,114,101]⟩
 ·exact aKP ⟨p,ps,h,aKB (aKB (aKP ⟨aKP n4,aEX h n1 n2 n3 (aKP n4)⟩))⟩
 by_cases n5:p=⟨#[98,114,105,110,103]⟩
 ·exact aKP ⟨p,ps,h,aKB (aKB (aKP ⟨aKB n5,aEX h n1 n2 n3 (aKB n5)⟩))⟩
 by_cases n6:p=⟨#[99,108,97,105,109]⟩
 ·exact aKP ⟨p,ps,h,aKB (aKB (aKB ⟨n6,aIA h n1 n2 n3 n4 n5 n6⟩))⟩
 exact aKB (aEO h n1 n2 n3 n4 n5 n6)
theorem aHK{s:aN}(hk:kD s)(x:ByteArray):(K6 s x).size≤50:=by
 have z0:=P8 (n:=(s.row.counts.length:Int)) Yd (by have:=hk.ct;omega);have z1:=P8 (n:=(s.table.marks.length:Int)) Yd (by have:=hk.mks;omega)
 have z2:=P8 (n:=(s.book.lines.length:Int)) Yd (by have:=hk.ln;omega);have z3:=P8 (n:=(s.yard.claims.length:Int)) Yd (by have:=hk.cl;omega)
 rcases n9 s x with⟨p,ps,_,⟨_,e⟩|⟨_,e⟩|⟨_,e⟩|⟨_,e⟩⟩|e<;>rw[e]
 ·rw[aNX,z0];decide
 ·rw[aNX,z1];decide
 ·rw[aNX,z2];decide
 ·rw[aNX,z3];decide
 ·decide
theorem aIB:lC.find? (fun x=>x.1==(⟨#[99,111,117,110,116]⟩:ByteArray).data.toList)=some ([99,111,117,110,116],2,mK false):=rfl
theorem aIJ:lC.find? (fun x=>x.1==(⟨#[98,97,99,107]⟩:ByteArray).data.toList)=some ([98,97,99,107],2,mK true):=rfl
theorem aIK:lC.find? (fun x=>x.1==(⟨#[109,97,114,107]⟩:ByteArray).data.toList)=some ([109,97,114,107],4,vY):=rfl
theorem aIN:lC.find? (fun x=>x.1==(⟨#[104,105,114,101]⟩:ByteArray).data.toList)=some ([104,105,114,101],2,mG 1):=rfl
theorem aIF:lC.find? (fun x=>x.1==(⟨#[98,114,105,110,103]⟩:ByteArray).data.toList)=some ([98,114,105,110,103],2,mG 2):=rfl
theorem aIC:lC.find? (fun x=>x.1==(⟨#[99,108,97,105,109]⟩:ByteArray).data.toList)=some ([99,108,97,105,109],2,uX):=rfl
theorem aAA:lC.find? (fun x=>x.1==(⟨#[117,110,99,111,117,110,116]⟩:ByteArray).data.toList)=some ([117,110,99,111,117,110,116],1,pJ):=rfl
theorem aHO:lC.find? (fun x=>x.1==(⟨#[117,110,109,97,114,107]⟩:ByteArray).data.toList)=some ([117,110,109,97,114,107],1,tJ):=rfl
theorem aBP:lC.find? (fun x=>x.1==(⟨#[115,116,114,105,107,101]⟩:ByteArray).data.toList)=some ([115,116,114,105,107,101],1,tN):=rfl
theorem aHM:lC.find? (fun x=>x.1==(⟨#[117,110,99,108,97,105,109]⟩:ByteArray).data.toList)=some ([117,110,99,108,97,105,109],1,pV):=rfl
theorem aGD(b:Bool){s s':aN}{n:List Int}(e:mK b s n=.ok s'):pJ s' [(s.row.counts.length:Int)]=.ok s:=by
 unfold mK at e;repeat' split at e
 all_goals cases e
 all_goals (show(if((s.row.counts++[_]).length:Int)≤(s.row.counts.length:Int)then _ else _)=_;rw[aKO Yao];show Except.ok _=_;congr 1;rw[aLX];simp only[setRow,List.eraseIdx_append_of_length_le (aKR _),Nat.sub_self,List.eraseIdx_zero,List.tail_cons,aKF])
theorem aGK(b:Bool){s:aN}{n:List Int}{c:Int}(e:mK b s n=.error c):c≠0:=by
 unfold mK at e;repeat' split at e
 all_goals cases e
 all_goals decide
theorem aIO{s s':aN}{n:List Int}(e:vY s n=.ok s'):tJ s' [(s.table.marks.length:Int)]=.ok s:=by
 unfold vY at e;repeat' split at e
 all_goals cases e
 all_goals (show(if((s.table.marks++[_]).length:Int)≤(s.table.marks.length:Int)then _ else _)=_;rw[aKO Yao];show Except.ok _=_;congr 1;rw[aLX];simp only[setTable,List.eraseIdx_append_of_length_le (aKR _),Nat.sub_self,List.eraseIdx_zero,List.tail_cons,aKF])
theorem aIL{s:aN}{n:List Int}{c:Int}(e:vY s n=.error c):c≠0:=by
 unfold vY at e;repeat' split at e
 all_goals cases e
 all_goals decide
theorem aGH(b:Int){s s':aN}{n:List Int}(e:mG b s n=.ok s'):tN s' [(s.book.lines.length:Int)]=.ok s:=by
 unfold mG at e;repeat' split at e
 all_goals cases e
 all_goals (show(if((s.book.lines++[_]).length:Int)≤(s.book.lines.length:Int)then _ else _)=_;rw[aKO Yao];show Except.ok _=_;congr 1;rw[aLX];simp only[setBook,List.eraseIdx_append_of_length_le (aKR _),Nat.sub_self,List.eraseIdx_zero,List.tail_cons,aKF])
theorem aGC(b:Int){s:aN}{n:List Int}{c:Int}(e:mG b s n=.error c):c≠0:=by
 unfold mG at e;repeat' split at e
 all_goals cases e
 all_goals decide
theorem aHT{s s':aN}{n:List Int}(e:uX s n=.ok s'):pV s' [(s.yard.claims.length:Int)]=.ok s:=by
 unfold uX at e;repeat' split at e
 all_goals cases e
 all_goals (show(if((s.yard.claims++[_]).length:Int)≤(s.yard.claims.length:Int)then _ else _)=_;rw[aKO Yao];show Except.ok _=_;congr 1;rw[aLX];simp only[setYard,List.eraseIdx_append_of_length_le (aKR _),Nat.sub_self,List.eraseIdx_zero,List.tail_cons,aKF])
theorem aIE{s:aN}{n:List Int}{c:Int}(e:uX s n=.error c):c≠0:=by
 unfold uX at e;repeat' split at e
 all_goals cases e
 all_goals decide
theorem aIG{x p:ByteArray}{ps:List ByteArray}{l:List UInt8}{k:Nat}{act a:fI}{n:List Int}(h:dB x=p::ps)(hf:lC.find? (fun x=>x.1==p.data.toList)=some (l,k,act))(hp:jW x=some (a,n)):a=act:=by
 rw[yK h,hf]at hp;simp only[]at hp;split at hp
 ·cases hm:ps.mapM oQ with
  |none=>rw[hm]at hp;cases hp
  |some m=>rw[hm]at hp;cases hp;rfl
 ·cases hp
theorem n8{s:aN}{x p:ByteArray}{ps:List ByteArray}{l:List UInt8}{k:Nat}{act:fI}(h:dB x=p::ps)(hf:lC.find? (fun x=>x.1==p.data.toList)=some (l,k,act))(her:∀n c,act s n=.error c→c≠0)(hd:(uA s x).2=0):∃n,act s n=.ok (uA s x).1:=by
 unfold uA at hd ⊢
 cases hp:jW x with
 |none=>rw[hp]at hd;cases hd
 |some a=>
  obtain⟨a,n⟩:=a;obtain rfl:=aIG h hf hp;rw[hp]at hd;simp only[]at hd ⊢
  cases ha:a s n with
  |error c=>rw[ha]at hd;exact absurd hd (her n c ha)
  |ok s'=>
   rw[ha]at hd;simp only[]at hd ⊢
   split at hd
   ·rename_i h0;rw[aKS h0];exact⟨n,ha⟩
   ·rename_i h0;exact absurd hd h0
theorem aIH(w:ByteArray)(n:Int):aDF w [n]=w++(⟨#[32]⟩++f8 (itoa n)):=rfl
theorem f6{w v:ByteArray}{act:fI}{n:Int}{s s':aN}(hv:v=w++⟨#[32]⟩)(hw:(32:UInt8)∉w.data.toList)(hf:lC.find? (fun x=>x.1==w.data.toList)=some (w.data.toList,1,act))(h0:0≤n)(h1:n≤99)(ha:act s' [n]=.ok s)(hs:dG s=0):uA s' (v++f8 (itoa n))=(s,0):=by
 have e:v++f8 (itoa n)=aDF w [n]:=by rw[aIH,hv,ByteArray.append_assoc]
 rw[e];exact VJ (aGZ hw (fun m hm=>by obtain rfl:=aKQ.1 hm;exact⟨h0,h1⟩) hf) ha hs
theorem aFH{s:aN}{x:ByteArray}(hk:kD s)(hs:dG s=0)(hd:(uA s x).2=0)(hu:¬K6 s x=⟨#[]⟩):uA (uA s x).1 (K6 s x)=(s,0):=by
 rcases n9 s x with⟨p,ps,hx,⟨rfl|rfl,e⟩|⟨rfl,e⟩|⟨rfl|rfl,e⟩|⟨rfl,e⟩⟩|e
 ·obtain⟨n,ha⟩:=n8 hx aIB (fun n c=>aGK false) hd;rw[e];exact f6 rfl Yah aAA Yd (by have:=hk.ct;omega) (aGD false ha) hs
 ·obtain⟨n,ha⟩:=n8 hx aIJ (fun n c=>aGK true) hd;rw[e];exact f6 rfl Yah aAA Yd (by have:=hk.ct;omega) (aGD true ha) hs
 ·obtain⟨n,ha⟩:=n8 hx aIK (fun n c=>aIL) hd;rw[e];exact f6 rfl Yah aHO Yd (by have:=hk.mks;omega) (aIO ha) hs
 ·obtain⟨n,ha⟩:=n8 hx aIN (fun n c=>aGC 1) hd;rw[e];exact f6 rfl Yah aBP Yd (by have:=hk.ln;omega) (aGH 1 ha) hs
 ·obtain⟨n,ha⟩:=n8 hx aIF (fun n c=>aGC 2) hd;rw[e];exact f6 rfl Yah aBP Yd (by have:=hk.ln;omega) (aGH 2 ha) hs
 ·obtain⟨n,ha⟩:=n8 hx aIC (fun n c=>aIE) hd;rw[e];exact f6 rfl Yah aHM Yd (by have:=hk.cl;omega) (aHT ha) hs
 ·exact absurd e hu
theorem aFN{ls:List ByteArray}(h:dW ls=0):kD (aL ls).1:=by rw[aEI h];exact G1 ls
theorem aHN{ls:List ByteArray}{x:ByteArray}(hc:(uA (mM ls).1 x).2=0∧¬K6 (aL ls).1 x=⟨#[]⟩)(hf:dW ls=0):uA (uA (mM ls).1 x).1 (K6 (aL ls).1 x)=((mM ls).1,0):=by
 have h:=hc.2;rw[aEI hf]at h ⊢
 exact aFH (G1 ls) (aGS ls) hc.1 h
theorem aFI{ls:List ByteArray}{x y:ByteArray}(hf:dW (ls++[x,x])=0)(hy:y.size≤50):dW (ls++[x,y])=0:=by
 have h1:=tH hf;rw[aJZ]at h1;refine aFQ (by rw[aJZ];exact h1) fun z hz=>?_
 rcases aKM.1 hz with h|h
 ·exact F0 hf z (aKC _ h)
 ·simp only[aJX,aJN,aMT]at h;rcases h with rfl|rfl
  ·exact F0 hf z Ye
  ·exact hy
theorem aGL(ls:List ByteArray)(x y:ByteArray):mM (ls++[x,y])=((uA (uA (mM ls).1 x).1 y).1,(mM ls).2++[(uA (mM ls).1 x).2,(uA (uA (mM ls).1 x).1 y).2]):=by rw[aEY];rfl
theorem aFM{ls:List ByteArray}{x y:ByteArray}{s:aN}(hf:dW (ls++[x,y])=0)(hr:uA (uA (mM ls).1 x).1 y=(s,0)):(aL (ls++[x,y])).2.1[ls.length+1]?= some 0:=by
 rw[kF hf,aGL,hr];show((mM ls).2++[_,0])[ls.length+1]?= _;rw[aJO (by rw[aEL];omega),aEL,show ls.length+1-ls.length=1 by omega];rfl
theorem aGO{ls:List ByteArray}{x y:ByteArray}(hf:dW ls=0)(hf2:dW (ls++[x,y])=0)(hr:uA (uA (mM ls).1 x).1 y=((mM ls).1,0)):(aL (ls++[x,y])).1=(aL ls).1:=by
 rw[aEI hf2,aEI hf,aGL,hr]
theorem aHP(sv:Value)(s0:aN)(x:ByteArray)(hxs:x.size≤1000)(D:aA)(hs:gW D sv s0)(hk:kD s0):Fn Tryz.prog 9 #[sv,.string x] D (fun _ v=>v=.string (K6 s0 x)):=by
 obtain⟨pv,cv,hv,lv,mv,bl,bc,yc,yq,rfl,hL⟩:=hs;unfold bS;obtain⟨p0,ps,hcx⟩:=uO x;have hp0:(dB x)[0]?= some p0:=by rw[hcx];rfl
 have z0:=P8 (n:=(s0.row.counts.length:Int)) Yd (by have:=hk.ct;omega);have z1:=P8 (n:=(s0.table.marks.length:Int)) Yd (by have:=hk.mks;omega)
 have z2:=P8 (n:=(s0.book.lines.length:Int)) Yd (by have:=hk.ln;omega);have z3:=P8 (n:=(s0.yard.claims.length:Int)) Yd (by have:=hk.cl;omega)
 have y0:(⟨#[117,110,99,111,117,110,116,32]⟩:ByteArray).size=8:=rfl;have y1:(⟨#[117,110,109,97,114,107,32]⟩:ByteArray).size=7:=rfl;have y2:(⟨#[115,116,114,105,107,101,32]⟩:ByteArray).size=7:=rfl;have y3:(⟨#[117,110,99,108,97,105,109,32]⟩:ByteArray).size=8:=rfl;refine enter 43 Tryz.func9 rfl rfl rfl rfl fun h0=>C.s1<|Zu rfl (fun q1 E1 hE1 hB1=>Zj rfl<|L.n4<|Zb rfl<|bU rfl rfl rfl (fun D1 hD1=>U1 x hxs _) rfl aOQ (fun v1 D1 hD1 hp1=>?_))
 have hW:=hp1;refine Zq rfl U22 Tf.s9 rfl hW rfl hp0 (fun b1 o1 cs1 hr1 hcl1 hA1=>?_);obtain rfl:cs1=[.string _]:=hr1;refine Zd 0 rfl Tf.a9 rfl hA1 rfl<|L.n1<|Zaj<|C.s2<|cB rfl rfl rfl rfl trivial<|Zj rfl<|L.n1<|aJ rfl (fun hc1=>?_) (fun hc1=>?_)
 ·refine C.kn<|gG rfl hc1<|C.s1<|Zk rfl Tf.f43_0 rfl<|Zk rfl Tf.f29_1 rfl<|Zd 1 rfl Tf.a27 rfl hB1 rfl<|aW rfl U27 rfl hL.ct rfl rfl trivial<|Zf rfl (fun D2 hD2=>n7 (s0.row.counts.length:Int) Yd (by have:=hk.ct;omega) _)<|kU rfl rfl rfl Yd rfl trivial<|Zj rfl<|L.n5<|Zal ?_;refine Zah ?_;exact Za [_] rfl ⟨rfl,aOQ⟩ (fun D hD=>by show Value.string _=_;rw[aFG hcx (aKP (aKW hc1))])
 ·refine C.rg<|cB rfl rfl rfl rfl trivial<|Zj rfl<|L.n1<|aJ rfl (fun hc2=>?_) (fun hc2=>?_)
  ·refine C.s1<|Zk rfl Tf.f43_0 rfl<|Zk rfl Tf.f29_1 rfl<|Zd 1 rfl Tf.a27 rfl hB1 rfl<|aW rfl U27 rfl hL.ct rfl rfl trivial<|Zf rfl (fun D3 hD3=>n7 (s0.row.counts.length:Int) Yd (by have:=hk.ct;omega) _)<|kU rfl rfl rfl Yd rfl trivial<|Zj rfl<|L.n5<|Zal<|Zah ?_;exact Za [_] rfl ⟨rfl,aOQ⟩ (fun D hD=>by show Value.string _=_;rw[aFG hcx (aKB (aKW hc2))])
  ·refine C.s1<|cB rfl rfl rfl rfl trivial<|Zj rfl<|L.n1<|aJ rfl (fun hc3=>?_) (fun hc3=>?_)
   ·refine C.s1<|Zk rfl Tf.f43_1 rfl<|Zk rfl Tf.f33_4 rfl<|Zd 8 rfl Tf.a31 rfl hB1 rfl<|aW rfl U31 rfl hL.mks rfl rfl trivial<|Zf rfl (fun D4 hD4=>n7 (s0.table.marks.length:Int) Yd (by have:=hk.mks;omega) _)<|kU rfl rfl rfl Yd rfl trivial<|Zj rfl<|L.n5<|Zal<|Zah ?_;exact Za [_] rfl ⟨rfl,aOQ⟩ (fun D hD=>by show Value.string _=_;rw[aHW hcx (aKV hc1) (aKV hc2) (aKW hc3)])
   ·refine C.s2<|cB rfl rfl rfl rfl trivial<|Zj rfl<|L.n1<|aJ rfl (fun hc4=>?_) (fun hc4=>?_)
    ·refine C.kn<|gG rfl hc4<|C.s1<|Zk rfl Tf.f43_2 rfl<|Zk rfl Tf.f37_3 rfl<|Zd 12 rfl Tf.a34 rfl hB1 rfl<|aW rfl U34 rfl hL.ln rfl rfl trivial<|Zf rfl (fun D5 hD5=>n7 (s0.book.lines.length:Int) Yd (by have:=hk.ln;omega) _)<|kU rfl rfl rfl Yd rfl trivial<|Zj rfl<|L.n5<|Zal ?_;refine Zah ?_;exact Za [_] rfl ⟨rfl,aOQ⟩ (fun D hD=>by show Value.string _=_;rw[aEX hcx (aKV hc1) (aKV hc2) (aKV hc3) (aKP (aKW hc4))])
    ·refine C.rg<|cB rfl rfl rfl rfl trivial<|Zj rfl<|L.n1<|aJ rfl (fun hc5=>?_) (fun hc5=>?_)
     ·refine C.s1<|Zk rfl Tf.f43_2 rfl<|Zk rfl Tf.f37_3 rfl<|Zd 12 rfl Tf.a34 rfl hB1 rfl<|aW rfl U34 rfl hL.ln rfl rfl trivial<|Zf rfl (fun D6 hD6=>n7 (s0.book.lines.length:Int) Yd (by have:=hk.ln;omega) _)<|kU rfl rfl rfl Yd rfl trivial<|Zj rfl<|L.n5<|Zal<|Zah ?_;exact Za [_] rfl ⟨rfl,aOQ⟩ (fun D hD=>by show Value.string _=_;rw[aEX hcx (aKV hc1) (aKV hc2) (aKV hc3) (aKB (aKW hc5))])
     ·refine C.s1<|cB rfl rfl rfl rfl trivial<|Zj rfl<|L.n1<|aJ rfl (fun hc6=>?_) (fun hc6=>?_)
      ·refine C.s1<|Zk rfl Tf.f43_3 rfl<|Zk rfl Tf.f41_2 rfl<|Zd 16 rfl Tf.a39 rfl hB1 rfl<|aW rfl U39 rfl hL.cl rfl rfl trivial<|Zf rfl (fun D7 hD7=>n7 (s0.yard.claims.length:Int) Yd (by have:=hk.cl;omega) _)<|kU rfl rfl rfl Yd rfl trivial<|Zj rfl<|L.n5<|Zal<|Zah ?_;exact Za [_] rfl ⟨rfl,aOQ⟩ (fun D hD=>by show Value.string _=_;rw[aIA hcx (aKV hc1) (aKV hc2) (aKV hc3) (aKV hc4) (aKV hc5) (aKW hc6)])
      ·refine aAX<|Zak<|Zag<|C.s1<|Zj rfl<|L.n5 ?_;exact Za [_] rfl ⟨rfl,aOQ⟩ (fun D hD=>by show Value.string _=_;rw[aEO hcx (aKV hc1) (aKV hc2) (aKV hc3) (aKV hc4) (aKV hc5) (aKV hc6)])
theorem aBE(lv:Value)(ls:List ByteArray)(x:ByteArray)(D:aA)(hS:Sl D RS 1 lv ls)(hV:kG D)(hbig:ls.length≤1048576):Fn Tryz.prog 3 #[lv,.string x] D (fun _ v=>v=.bool true):=by
 refine enter 107 Tryz.func3 rfl rfl rfl rfl fun h0=>C.s1<|Zj rfl<|L.n4<|Zb rfl<|eZ rfl rfl rfl (fun D80 hD80=>aGP _ ls _ (hS.up RS.up (hD80 _ Ye)) Yd) rfl aOQ (fun w80 D81 ν80 hD81 ha80=>Zb rfl<|Zb rfl<|Zo rfl U22 Tf.s9 Tf.z9 rfl rfl rfl rfl (.cons rfl rfl (.cons rfl rfl .nil)) (fun b901 D901 hD901 hA901=>aX (A:=[]) (ν:=ν80) (B:=[]) rfl U22 rfl rfl Tf.s9 Tf.z9 rfl Tf.i9 rfl rfl rfl ha80 (jN.lit Yk) Ye rfl Yal Yi Yd (aKP rfl) rfl aOQ (fun v81 ν81 ha81=>?_)))
 have hap81:bR 9 1 v81 (ls++[x,x]).length ((ls++[x,x]).map Value.string) ν81:=by rw[aJZ,aKN];exact ha81
 refine aBA (A:=[]) (B:=[]) hap81 rfl (fun D82 hD82 hF82=>?_);have hall80:Sl D82 RS 1 v81 (ls++[x,x]):=hF82.strs rfl Yad;refine Zf rfl (fun D1 hD1=>EV _ (ls++[x,x]) _ (hall80.up RS.up (hD1 _ Ye)))<|Zae rfl<|L.n1<|aJ rfl (fun hc1=>?_) (fun hc1=>?_)
 ·refine C.s1<|Zf rfl (fun D2 hD2=>PY _ (hV.up (hD2 _ Ye)))<|Zj rfl<|L.n5<|Zah ?_;exact Za [_] rfl ⟨rfl,aOQ⟩ (fun D hD=>rfl)
 ·have hsh:g9 (ls++[x,x])=true:=by simpa using hc1
  have hf0:=p7 hsh;have hf1:=aGX hf0;have hxs:x.size≤50:=F0 hf0 x Ye;have h40:=tH hf0;rw[aJZ]at h40;simp only[aKD,aLY]at h40;have hf2:dW (ls++[x])=0:=aGX (ms:=[x]) (by rw[aKK];exact hf0)
  have he1:=aER hf1;have he2:=aER hf2;have hll:=aHB hf2;have hl1:(aL (ls++[x])).2.1.length=ls.length+1:=by rw[hll];simp
  refine C.kn<|C.s1<|Zb rfl<|bU rfl rfl rfl (fun D3 hD3=>IT _ ls _ (hS.up RS.up (hD3 _ Ye)) Yd) rfl aOQ (fun v3 D3 hD3 hp3=>?_);have hq1:=hp3;refine bU rfl rfl rfl (fun D4 hD4=>xD _ ls _ (hq1.up RS.up (hD4 _ Ye)) (hV.up (hD4 _ Ye))) rfl aOQ (fun v4 D4 hD4 hp4=>?_);obtain⟨w11,w12,rfl,⟨pv1,cv1,hv1,lv1,mv1,bl1,bc1,yc1,yq1,rfl,hL1⟩,hes1⟩:=hp4;unfold bS;refine Zb rfl<|Zz rfl<|Zz rfl<|Zz rfl<|Zv rfl Tf.z43 rfl (fun q1=>bH rfl rfl rfl rfl Tf.s43 Yb Yb (bO.head) (gU hL1) trivial<|Zj rfl<|Zj rfl<|L.n3<|Zb rfl<|eZ rfl rfl rfl (fun D84 hD84=>aGP _ ls _ (hS.up RS.up (hD84 _ Ye)) Yd) rfl aOQ (fun w84 D85 ν84 hD85 ha84=>Zb rfl ?_));refine Zo rfl U22 Tf.s9 Tf.z9 rfl rfl rfl rfl (.cons rfl rfl .nil) (fun b902 D902 hD902 hA902=>aX (A:=[]) (ν:=ν84) (B:=[(_,_)]) rfl U22 rfl rfl Tf.s9 Tf.z9 rfl Tf.i9 rfl rfl rfl ha84 (jN.lit Yk) Ye rfl Yal Yi Yd (aKP rfl) rfl aOQ (fun v85 ν85 ha85=>?_));have hap85:bR 9 1 v85 (ls++[x]).length ((ls++[x]).map Value.string) ν85:=by rw[aJZ,aKN];exact ha85
  refine aBA (A:=[]) (B:=[(_,_)]) hap85 rfl (fun D86 hD86 hF86=>?_);have hall84:Sl D86 RS 1 v85 (ls++[x]):=hF86.strs rfl Yad;refine bU rfl rfl rfl (fun D5 hD5=>xD _ (ls++[x]) _ (hall84.up RS.up (hD5 _ Ye)) (hV.up (hD5 _ Ye))) rfl aOQ (fun v5 D5 hD5 hp5=>?_);obtain⟨w21,w22,rfl,⟨pv2,cv2,hv2,lv2,mv2,bl2,bc2,yc2,yq2,rfl,hL2⟩,hes2⟩:=hp5;unfold bS;refine Zb rfl<|Zz rfl<|Zz rfl<|Zz rfl<|Zv rfl Tf.z43 rfl (fun q2=>bH rfl rfl rfl rfl Tf.s43 Yb Yb (bO.head) (gU hL2) trivial<|Zj rfl<|Zj rfl<|L.n4<|Zb rfl<|Zaf rfl<|Zb rfl ?_);refine' iE [(false,3),(false,4),(false,5)] [(false,6),(false,7),(false,8),(false,9),(false,10),(false,11),(false,12),(false,13)] (s:=43) (p:=46) rfl rfl (fun hg1=>?_) (fun hg1=>?_) ?_;rotate_left
  ·refine Zc rfl<|eQ rfl rfl rfl rfl ⟨_,rfl,rfl⟩<|Zab rfl ?_;exact L.cu 2
  ·refine Zi rfl<|Zi rfl<|Zaa rfl ?_;exact L.cu 2
  refine Zb rfl ?_;refine' iE [(false,7),(false,8),(false,9),(false,10),(false,11),(false,12),(false,13)] [] (s:=47) (p:=54) rfl rfl (fun hg2=>?_) (fun hg2=>?_) ?_;rotate_left
  ·refine Zc rfl<|aW rfl U44 rfl hes2 rfl rfl ⟨_,rfl,rfl⟩<|Zc rfl<|aW rfl U22 rfl hS rfl rfl ⟨_,rfl,rfl⟩<|rI rfl rfl rfl Yf rfl ⟨_,rfl,rfl⟩<|eQ rfl rfl rfl rfl ⟨_,rfl,rfl⟩<|Zab rfl ?_;exact L.cu 6
  ·refine Zi rfl<|Zi rfl<|Zi rfl<|Zi rfl<|Zi rfl<|Zi rfl<|Zaa rfl ?_;exact L.cu 6
  refine L.n1<|aJ rfl (fun hc2=>?_) (fun hc2=>?_)
  ·rw[he1,he2,hl1]at hc2;simp at hc2
  ·have he:(aL (ls++[x])).2.1[ls.length]?= some (uA (mM ls).1 x).2:=aGW hf2;refine C.kn<|C.s1<|Zp rfl Tf.a43 rfl (List.Mem.tail _ (List.Mem.head _)) Tf.s43<|Zb rfl<|Zf rfl (fun D6 hD6=>aHP _ (aL ls).1 x Yd _ ⟨pv1,cv1,hv1,lv1,mv1,bl1,bc1,yc1,yq1,rfl,hL1.up (hD6 _ Ye)⟩ (aFN hf1))<|Zj rfl<|L.n4<|Zb rfl<|Zb rfl<|aW rfl U22 rfl hS rfl rfl trivial<|Zq rfl U44 Tf.s45 rfl hes2 rfl he (fun b1 o1 cs1 hr1 hcl1 hA1=>?_);obtain rfl:cs1=[.int .i64 _]:=hr1;refine Zd 0 rfl Tf.a45 rfl hA1 rfl<|Zaf rfl<|Zb rfl ?_;refine' iE [(false,7),(false,8),(false,9)] [] (s:=64) (p:=67) rfl rfl (fun hg3=>?_) (fun hg3=>?_) ?_;rotate_left
   ·refine Zc rfl<|cB rfl rfl rfl rfl ⟨_,rfl,rfl⟩<|Zab rfl ?_;exact L.cu 2
   ·refine Zi rfl<|Zi rfl<|Zaa rfl ?_;exact L.cu 2
   refine L.n1<|aJ rfl (fun hc3=>?_) (fun hc3=>?_)
   ·refine C.s1<|Zf rfl (fun D7 hD7=>PY _ (hV.up (hD7 _ Ye)))<|Zj rfl<|L.n5<|Zah ?_;exact Za [_] rfl ⟨rfl,aOQ⟩ (fun D hD=>rfl)
   ·have hr:=aHN (ls:=ls) (x:=x) (by simpa using hc3) hf1;have hf3:=aFI hf0 (aHK (aFN hf1) x);have hc9:=aER hf3;have hl3:(aL (ls++[x,K6 (aL ls).1 x])).2.1.length=ls.length+2:=by rw[aHB hf3];simp
    have he3:=aFM hf3 hr;have hst:=aGO hf1 hf3 hr;refine C.kn<|C.s1<|Zb rfl<|eZ rfl rfl rfl (fun D88 hD88=>aGP _ ls _ (hS.up RS.up (hD88 _ Ye)) Yd) rfl aOQ (fun w88 D89 ν88 hD89 ha88=>Zb rfl<|Zb rfl<|Zo rfl U22 Tf.s9 Tf.z9 rfl rfl rfl rfl (.cons rfl rfl (.cons rfl rfl .nil)) (fun b903 D903 hD903 hA903=>aX (A:=[]) (ν:=ν88) (B:=[(_,_),(_,_)]) rfl U22 rfl rfl Tf.s9 Tf.z9 rfl Tf.i9 rfl rfl rfl ha88 (jN.lit Yk) Ye rfl Yal Yi Yd (aKP rfl) rfl aOQ (fun v89 ν89 ha89=>?_)));have hap89:bR 9 1 v89 (ls++[x,K6 (aL ls).1 x]).length ((ls++[x,K6 (aL ls).1 x]).map Value.string) ν89:=by rw[aJZ,aKN];exact ha89
    refine aBA (A:=[]) (B:=[(_,_),(_,_)]) hap89 rfl (fun D90 hD90 hF90=>?_);have hall88:Sl D90 RS 1 v89 (ls++[x,K6 (aL ls).1 x]):=hF90.strs rfl Yad;refine bU rfl rfl rfl (fun D8 hD8=>xD _ (ls++[x,K6 (aL ls).1 x]) _ (hall88.up RS.up (hD8 _ Ye)) (hV.up (hD8 _ Ye))) rfl aOQ (fun v8 D8 hD8 hp8=>?_);obtain⟨w31,w32,rfl,⟨pv3,cv3,hv3,lv3,mv3,bl3,bc3,yc3,yq3,rfl,hL3⟩,hes3⟩:=hp8;unfold bS;refine Zb rfl<|Zz rfl<|Zz rfl<|Zz rfl<|Zv rfl Tf.z43 rfl (fun q3=>bH rfl rfl rfl rfl Tf.s43 Yb Yb (bO.head) (gU hL3) trivial<|Zj rfl<|Zj rfl<|L.n3<|Zb rfl<|dH rfl rfl rfl rfl trivial<|Zb rfl ?_);refine' cQ [(false,3),(false,4),(false,5),(false,6),(false,7),(false,8),(false,9)] [(false,10),(false,11),(false,12),(false,13),(false,14),(false,15),(false,16),(false,17),(false,18),(false,19),(false,20),(false,21),(false,22),(false,23),(false,24),(false,25),(false,26),(false,27)] (s:=82) (p:=89) rfl rfl (fun hg4=>?_) (fun hg4=>?_) ?_;rotate_left
    ·refine Zc rfl<|aW rfl U44 rfl hes3 rfl rfl ⟨_,rfl,rfl⟩<|Zc rfl<|aW rfl U22 rfl hS rfl rfl ⟨_,rfl,rfl⟩<|rI rfl rfl rfl Yf rfl ⟨_,rfl,rfl⟩<|dH rfl rfl rfl rfl ⟨_,rfl,rfl⟩<|Zaa rfl ?_;exact L.cu 6
    ·refine Zi rfl<|Zi rfl<|Zi rfl<|Zi rfl<|Zi rfl<|Zi rfl<|Zab rfl ?_;exact L.cu 6
    refine Zb rfl ?_;refine' cQ [(false,11),(false,12),(false,13),(false,14),(false,15),(false,16),(false,17),(false,18)] [(false,19),(false,20),(false,21),(false,22),(false,23),(false,24),(false,25),(false,26),(false,27)] (s:=90) (p:=98) rfl rfl (fun hg5=>?_) (fun hg5=>?_) ?_;rotate_left
    ·refine Zc rfl<|Zc rfl<|aW rfl U22 rfl hS rfl rfl ⟨_,rfl,rfl⟩<|rI rfl rfl rfl Yf rfl ⟨_,rfl,rfl⟩<|cR rfl U44 Tf.s45 rfl hes3 rfl Yd he3 rfl ⟨_,rfl,rfl⟩ (fun b2 o2 cs2 hr2 hcl2 hA2=>?_);obtain rfl:cs2=[.int .i64 _]:=hr2;refine Ze 0 rfl Tf.a45 rfl hA2 rfl<|dH rfl rfl rfl rfl ⟨_,rfl,rfl⟩<|Zaa rfl ?_;exact L.cu 7
    ·refine Zi rfl<|Zi rfl<|Zi rfl<|Zi rfl<|Zi rfl<|Zi rfl<|Zi rfl<|Zab rfl ?_;exact L.cu 7
    refine Zb rfl ?_;refine' cQ [(false,20),(false,21),(false,22),(false,23)] [(false,24),(false,25),(false,26),(false,27)] (s:=99) (p:=103) rfl rfl (fun hg6=>?_) (fun hg6=>?_) ?_;rotate_left
    ·refine aY rfl Tf.a43 rfl (aJS _ (aJS _ (aNM _))) Tf.s43 aJN rfl ⟨_,rfl,rfl⟩<|aY rfl Tf.a43 rfl (List.Mem.head _) Tf.s43 aJN rfl ⟨_,rfl,rfl⟩<|Zg rfl (fun D9 hD9=>aGT _ _ (aL ls).1 (aL (ls++[x,K6 (aL ls).1 x])).1 _ ⟨pv1,cv1,hv1,lv1,mv1,bl1,bc1,yc1,yq1,rfl,hL1.up (hD9 _ Ye)⟩ ⟨pv3,cv3,hv3,lv3,mv3,bl3,bc3,yc3,yq3,rfl,hL3.up (hD9 _ Ye)⟩)<|Zaa rfl ?_;exact L.cu 3
    ·refine Zi rfl<|Zi rfl<|Zi rfl<|Zab rfl ?_;exact L.cu 3
    refine Zb rfl ?_;refine' cQ [(false,25),(false,26)] [(false,27)] (s:=104) (p:=106) rfl rfl (fun hg7=>?_) (fun hg7=>?_) ?_;rotate_left
    ·refine Zg rfl (fun D10 hD10=>PY _ (hV.up (hD10 _ Ye)))<|Zaa rfl ?_;exact L.cu 1
    ·refine Zi rfl<|Zab rfl ?_;exact L.cu 1
    refine Zj rfl<|L.n5 ?_;exact Za [_] rfl ⟨rfl,aOQ⟩ (fun D hD=>by rw[hc9,hl3,hst];simp[aFP];rfl)
end L12
end Go.Fs
namespace Go.Fs
open Go.Proofs
namespace L12
open Go.ChangeShapes Go.WideShapes Go.RowKit Go.Proofs.YtecfofnchcbojaaGreatDoor
theorem aHE{H:Type}(d:DataW H):1≤Rows.uptoBulk d:=by
 cases d with
 |lit l=>cases l<;>simp[Rows.uptoBulk]
 |nil=>simp[Rows.uptoBulk]
 |ptr d=>simp[Rows.uptoBulk]
 |slice elems spare=>simp[Rows.uptoBulk]
 |agg parts=>simp[Rows.uptoBulk]
 |iface t d=>simp[Rows.uptoBulk]
 |map entries=>simp[Rows.uptoBulk]
 |held h=>simp[Rows.uptoBulk]
theorem aFX{H:Type}(l:List (DataW H)):l.length≤Rows.uptoBulkAll l:=by
 induction l with
 |nil=>simp
 |cons x r ih=>have:=aHE x;simp only[Rows.uptoBulkAll,aKD];omega
theorem aGY{H:Type}{enc:TypeId×Value→H}{W:World}{v:Value}{xs:List ByteArray}{d:DataW H}{ps:List MemPlace}(hr:Sl (tZ W) RS 1 v xs)(hd:DataW.Trod enc Tryz.prog W 0 (fun _=>true) true 22 v d ps):xs.length≤Rows.uptoBulk d:=by
 obtain⟨a,cap,rfl,_⟩:=hr;obtain⟨fuel,hf⟩:=hd;rcases DataW.trod_slice U22 hf with⟨hc,_⟩|⟨a2,len,cap2,elems,rest,n,_,hc,hx,_,_,_,hl,_⟩
 ·simp only[Value.cells,aLS,Value.slice.injEq]at hc;have:=hc.1.2.1;omega
 ·simp only[Value.cells,aLS,Value.slice.injEq]at hc;have h1:=hc.1.2.1;rw[(Prod.mk.inj hx).1];have:=aFX (elems.map (·.1));rw[aMI]at this;simp only[Rows.uptoBulk];omega
theorem aGG{H:Type}{d:DataW H}{l:List (DataW H)}(h:Rows.uptoSmall H (d::l)=true):Rows.uptoBulk d≤1048576:=by
 have h2:Rows.uptoBulkAll (d::l)≤1048576:=by simpa [Rows.uptoSmall]using h
 simp only[Rows.uptoBulkAll]at h2;omega
end L12
end Go.Fs
