/- Of the proof of BookReplays: BW30, BW31, Eq9, BW32, BW33. -/
import Derived.Test.YthchgbimdmiemaaGreatDoorZBookReplaysAO
import Derived.Test.YthchgbimdmiemaaGreatDoorZBookReplaysAE
import Derived.Test.YthchgbimdmiemaaGreatDoorZBookReplaysAC
namespace Go.Fs
open Go.Proofs
namespace L12
open C12 Go.Lib
instance(x:Int):Decidable (NB x):=inferInstanceAs (Decidable (_∧_))
def yV:List ByteArray:=[(⟨#[112,108,97,99,101]⟩:ByteArray),⟨#[115,101,101,110,32,50,32,49]⟩,⟨#[99,111,117,110,116,32,51,32,50]⟩,⟨#[98,97,99,107,32,51,32,51]⟩,⟨#[116,105,100,101,32,50,32,56,32,57]⟩,⟨#[115,116,101,112,32,52]⟩,⟨#[108,101,118,101,108,32,54]⟩,⟨#[109,97,114,107,32,49,32,51,32,57,32,57]⟩,⟨#[104,105,114,101,32,48,32,49]⟩,⟨#[104,105,114,101,32,49,32,50]⟩,⟨#[98,114,105,110,103,32,48,32,49]⟩,⟨#[115,109,117,100,103,101,32,49]⟩,⟨#[98,114,111,107,101,110,32,52,32,49,32,48,32,48]⟩,⟨#[98,114,111,107,101,110,32,53,32,48,32,49,32,50]⟩,⟨#[99,108,97,105,109,32,48,32,50]⟩]
def AD:List ByteArray:=[(⟨#[115,116,101,112,32,48]⟩:ByteArray),⟨#[115,109,117,100,103,101,32,49]⟩,⟨#[108,101,118,101,108,32,48,53]⟩]
def aB:List ByteArray:=[(⟨#[97]⟩:ByteArray)]
theorem X8{D:aA}{b:Nat}{l:List ByteArray}(hA:At D b 0 (l.map Value.string))(hl:l.length≤1000):Sl D RS 1 (.slice (some ⟨b,0,none⟩) l.length l.length) l:=by
 refine⟨_,_,rfl,aKS _,by omega,aKB ⟨b,0,rfl,fun i x hi=>⟨_,rfl,rfl,fun j v hj=>?_⟩⟩⟩;cases j with
 |zero=>
  obtain rfl:Value.string x=v:=by simpa using hj
  have h:=hA i (.string x) (by rw[aLA,hi];rfl);simpa using h
 |succ j=>simp at hj
theorem US:SI (aL yV).1:=⟨by decide+kernel,by decide+kernel,by decide+kernel,by decide+kernel,by decide+kernel,by decide+kernel,by decide+kernel,by decide+kernel,by decide+kernel,by decide+kernel,by decide+kernel⟩
theorem aDF:K2 Tryz.prog 56:=⟨by kernel_rfl,by kernel_rfl,by kernel_rfl⟩
theorem ZK:K2 Tryz.prog 109:=⟨by kernel_rfl,by kernel_rfl,by kernel_rfl⟩
theorem X9(D:aA):Fn Tryz.prog 49 #[.slice none 0 0] D (fun D' v=>Sl D' RS 1 v yV):=by
 refine enter 6 Tryz.func49 rfl rfl rfl rfl fun h0=>C.s1<|Zj rfl<|L.n3<|Zp rfl U22 Tf.s9 Tf.z9 rfl rfl rfl rfl (.cons rfl rfl (.cons rfl rfl (.cons rfl rfl (.cons rfl rfl (.cons rfl rfl (.cons rfl rfl (.cons rfl rfl (.cons rfl rfl (.cons rfl rfl (.cons rfl rfl (.cons rfl rfl (.cons rfl rfl (.cons rfl rfl (.cons rfl rfl (.cons rfl rfl .nil))))))))))))))) (fun b901 D901 hD901 hA901=>Zb rfl<|CK rfl U22 rfl rfl Tf.s9 rfl rfl (aKS _) rfl trivial<|Zj rfl<|L.n5 ?_)
 exact Za [_] rfl ⟨rfl,aMN⟩ (fun D hD=>(X8 (l:=yV) hA901 Yak).up RS.up (hD _ Ye))
theorem UX(mv:Value)(ms:List ByteArray)(D:aA)(hS:Sl D RS 1 mv ms)(hm0:0<ms.length)(hm:ms.length≤1000):Fn Tryz.prog 49 #[mv] D (fun D' v=>Sl D' RS 1 v (yV++ms)):=by
 refine enter 6 Tryz.func49 rfl rfl rfl rfl fun h0=>C.s1<|Zj rfl<|L.n3<|Zp rfl U22 Tf.s9 Tf.z9 rfl rfl rfl rfl (.cons rfl rfl (.cons rfl rfl (.cons rfl rfl (.cons rfl rfl (.cons rfl rfl (.cons rfl rfl (.cons rfl rfl (.cons rfl rfl (.cons rfl rfl (.cons rfl rfl (.cons rfl rfl (.cons rfl rfl (.cons rfl rfl (.cons rfl rfl (.cons rfl rfl .nil))))))))))))))) (fun b901 D901 hD901 hA901=>Zb rfl<|MI (cells:=[.string ⟨#[112,108,97,99,101]⟩,.string ⟨#[115,101,101,110,32,50,32,49]⟩,.string ⟨#[99,111,117,110,116,32,51,32,50]⟩,.string ⟨#[98,97,99,107,32,51,32,51]⟩,.string ⟨#[116,105,100,101,32,50,32,56,32,57]⟩,.string ⟨#[115,116,101,112,32,52]⟩,.string ⟨#[108,101,118,101,108,32,54]⟩,.string ⟨#[109,97,114,107,32,49,32,51,32,57,32,57]⟩,.string ⟨#[104,105,114,101,32,48,32,49]⟩,.string ⟨#[104,105,114,101,32,49,32,50]⟩,.string ⟨#[98,114,105,110,103,32,48,32,49]⟩,.string ⟨#[115,109,117,100,103,101,32,49]⟩,.string ⟨#[98,114,111,107,101,110,32,52,32,49,32,48,32,48]⟩,.string ⟨#[98,114,111,107,101,110,32,53,32,48,32,49,32,50]⟩,.string ⟨#[99,108,97,105,109,32,48,32,50]⟩]) rfl U22 rfl rfl Tf.s9 Tf.z9 rfl Tf.i9 rfl rfl hA901 Ye rfl (jN.strs hS) Ye (by rw[aLT,aHG]) hm0 Yd rfl aMN (fun v1 ν1 ha1=>Zj rfl<|L.n5 ?_))
 have ha2:bR 9 1 v1 (15+ms.length) ((yV++ms).map Value.string) (ν1++[]):=by rw[aKN,aKF];exact ha1
 refine eO (A:=[]) (ν:=ν1) (B:=[]) (by simpa using ha2) rfl (fun D2 hD2 hF=>?_);exact Za [_] rfl ⟨rfl,aMN⟩ (fun D' hD=>(hF.strs (by rw[aKA];rfl) Yd).up RS.up (hD _ Ye))
theorem y2(D:aA)(hV:kG D):Fn Tryz.prog 17 #[] D (fun _ v=>v=.bool true):=by
 refine enter 87 Tryz.func17 rfl rfl rfl rfl fun h0=>C.s1<|Zj rfl<|L.n3<|bU rfl rfl rfl (fun D1 hD1=>X9 _) rfl aMN (fun v1 D1 hD1 hp1=>?_)
 have hd1:=hp1;refine Zf rfl (fun D2 hD2=>xH _ yV _ (hd1.up RS.up (hD2 _ Ye)) (hV.up (hD2 _ Ye)))<|Zb rfl<|Zz rfl<|Zz rfl<|Zv rfl Tf.z109 rfl (fun q1=>bH rfl rfl rfl rfl Tf.s109 Yb Yb (bO.head) Yi trivial<|Zj rfl<|L.n3<|bU rfl rfl rfl (fun D3 hD3=>X9 _) rfl aMN (fun v3 D3 hD3 hp3=>?_));have hd2:=hp3;refine Zf rfl (fun D4 hD4=>yQ _ yV _ (hd2.up RS.up (hD4 _ Ye)) (hV.up (hD4 _ Ye)))<|Zb rfl<|Zz rfl<|Zz rfl<|Zv rfl Tf.z56 rfl (fun q2=>bH rfl rfl rfl rfl Tf.s56 Yb Yb (bO.head) Yi trivial<|Zj rfl<|L.n3<|bU rfl rfl rfl (fun D5 hD5=>X9 _) rfl aMN (fun v5 D5 hD5 hp5=>?_));have hd3:=hp5;refine Zf rfl (fun D6 hD6=>JJ _ yV _ (hd3.up RS.up (hD6 _ Ye)) (hV.up (hD6 _ Ye)) (fun _=>US))<|Zb rfl<|Zz rfl<|Zz rfl<|Zj rfl<|Zj rfl<|L.n3<|Zp rfl U22 Tf.s9 Tf.z9 rfl rfl rfl rfl (.cons rfl rfl .nil) (fun b901 D901 hD901 hA901=>bU rfl rfl rfl (fun D7 hD7=>RA _ aB _ ((X8 (l:=aB) hA901 Yak).up RS.up (hD7 _ Ye))) rfl aMN (fun v7 D7 hD7 hp7=>?_));obtain⟨wv,rfl,hwr⟩:=hp7;refine Zb rfl<|Zz rfl<|Zz rfl<|Zj rfl<|Zj rfl<|L.n3<|Zp rfl U22 Tf.s9 Tf.z9 rfl rfl rfl rfl (.cons rfl rfl (.cons rfl rfl (.cons rfl rfl .nil))) (fun b902 D902 hD902 hA902=>bU rfl rfl rfl (fun D8 hD8=>UX _ AD _ ((X8 (l:=AD) hA902 Yak).up RS.up (hD8 _ Ye)) Yak Yak) rfl aMN (fun v8 D8 hD8 hp8=>?_));have hd5:=hp8;refine bU rfl rfl rfl (fun D9 hD9=>xD _ (yV++AD) _ (hd5.up RS.up (hD9 _ Ye)) (hV.up (hD9 _ Ye))) rfl aMN (fun v9 D9 hD9 hp9=>?_);obtain⟨w1,w2,rfl,⟨pv,cv,hv,lv,mv,bl,bc,yc,yq,rfl,hL⟩,hes⟩:=hp9;unfold bS;obtain⟨ea,ec,rfl⟩:=hes.shape;have p3len:(aL (yV++AD)).2.1.length=18:=by decide+kernel
 refine Zb rfl<|Zz rfl<|Zz rfl<|Zz rfl<|Zv rfl Tf.z42 rfl (fun q3=>bH rfl rfl rfl rfl Tf.s42 Yb Yb (bO.head) (gU hL) trivial<|Zj rfl<|Zj rfl<|L.n3<|Zb rfl<|dH rfl rfl rfl rfl trivial<|Zb rfl ?_);refine' cQ [(false,3),(false,4),(false,5),(false,6)] [(false,7),(false,8),(false,9),(false,10),(false,11),(false,12),(false,13),(false,14),(false,15),(false,16),(false,17),(false,18),(false,19),(false,20),(false,21),(false,22),(false,23),(false,24),(false,25),(false,26),(false,27),(false,28),(false,29),(false,30),(false,31),(false,32),(false,33),(false,34),(false,35),(false,36),(false,37),(false,38),(false,39),(false,40),(false,41),(false,42),(false,43),(false,44),(false,45),(false,46),(false,47),(false,48)] (s:=41) (p:=45) rfl rfl (fun hg1=>?_) (fun hg1=>?_) ?_;rotate_left
 ·refine aY rfl Tf.a109 rfl (aJT _ (aJT _ (aJB _))) Tf.s109 aJN rfl ⟨_,rfl,rfl⟩<|hG (cs:=[.int .i64 25,.int .i64 25]) rfl Tf.p109 Tf.z109 rfl rfl rfl ⟨_,rfl,rfl⟩<|ON (a:=(J7 yV).1) (b:=(25,25)) rfl Yg ZK rfl rfl rfl ⟨_,rfl,rfl⟩<|Zaa rfl ?_;exact L.cu 3
 ·refine Zi rfl<|Zi rfl<|Zi rfl<|Zab rfl ?_;exact L.cu 3
 refine Zb rfl ?_;refine' cQ [(false,8),(false,9),(false,10)] [(false,11),(false,12),(false,13),(false,14),(false,15),(false,16),(false,17),(false,18),(false,19),(false,20),(false,21),(false,22),(false,23),(false,24),(false,25),(false,26),(false,27),(false,28),(false,29),(false,30),(false,31),(false,32),(false,33),(false,34),(false,35),(false,36),(false,37),(false,38),(false,39),(false,40),(false,41),(false,42),(false,43),(false,44),(false,45),(false,46),(false,47),(false,48)] (s:=46) (p:=49) rfl rfl (fun hg2=>?_) (fun hg2=>?_) ?_;rotate_left
 ·refine Zc rfl<|dH rfl rfl rfl rfl ⟨_,rfl,rfl⟩<|Zaa rfl ?_;exact L.cu 2
 ·refine Zi rfl<|Zi rfl<|Zab rfl ?_;exact L.cu 2
 refine Zb rfl ?_;refine' cQ [(false,12),(false,13),(false,14),(false,15)] [(false,16),(false,17),(false,18),(false,19),(false,20),(false,21),(false,22),(false,23),(false,24),(false,25),(false,26),(false,27),(false,28),(false,29),(false,30),(false,31),(false,32),(false,33),(false,34),(false,35),(false,36),(false,37),(false,38),(false,39),(false,40),(false,41),(false,42),(false,43),(false,44),(false,45),(false,46),(false,47),(false,48)] (s:=50) (p:=54) rfl rfl (fun hg3=>?_) (fun hg3=>?_) ?_;rotate_left
 ·refine aY rfl Tf.a56 rfl (aJT _ (aJB _)) Tf.s56 aJN rfl ⟨_,rfl,rfl⟩<|hG (cs:=[.int .i64 4,.int .i64 4]) rfl Tf.p56 Tf.z56 rfl rfl rfl ⟨_,rfl,rfl⟩<|ON (a:=(wO yV).1) (b:=(4,4)) rfl Yg aDF rfl rfl rfl ⟨_,rfl,rfl⟩<|Zaa rfl ?_;exact L.cu 3
 ·refine Zi rfl<|Zi rfl<|Zi rfl<|Zab rfl ?_;exact L.cu 3
 refine Zb rfl ?_;refine' cQ [(false,17),(false,18),(false,19)] [(false,20),(false,21),(false,22),(false,23),(false,24),(false,25),(false,26),(false,27),(false,28),(false,29),(false,30),(false,31),(false,32),(false,33),(false,34),(false,35),(false,36),(false,37),(false,38),(false,39),(false,40),(false,41),(false,42),(false,43),(false,44),(false,45),(false,46),(false,47),(false,48)] (s:=55) (p:=58) rfl rfl (fun hg4=>?_) (fun hg4=>?_) ?_;rotate_left
 ·refine Zc rfl<|dH rfl rfl rfl rfl ⟨_,rfl,rfl⟩<|Zaa rfl ?_;exact L.cu 2
 ·refine Zi rfl<|Zi rfl<|Zab rfl ?_;exact L.cu 2
 refine Zb rfl ?_;refine' cQ [(false,21),(false,22),(false,23)] [(false,24),(false,25),(false,26),(false,27),(false,28),(false,29),(false,30),(false,31),(false,32),(false,33),(false,34),(false,35),(false,36),(false,37),(false,38),(false,39),(false,40),(false,41),(false,42),(false,43),(false,44),(false,45),(false,46),(false,47),(false,48)] (s:=59) (p:=62) rfl rfl (fun hg5=>?_) (fun hg5=>?_) ?_;rotate_left
 ·refine Zc rfl<|cB rfl rfl rfl rfl ⟨_,rfl,rfl⟩<|Zaa rfl ?_;exact L.cu 2
 ·refine Zi rfl<|Zi rfl<|Zab rfl ?_;exact L.cu 2
 refine Zb rfl ?_;refine' cQ [(false,25),(false,26),(false,27)] [(false,28),(false,29),(false,30),(false,31),(false,32),(false,33),(false,34),(false,35),(false,36),(false,37),(false,38),(false,39),(false,40),(false,41),(false,42),(false,43),(false,44),(false,45),(false,46),(false,47),(false,48)] (s:=63) (p:=66) rfl rfl (fun hg6=>?_) (fun hg6=>?_) ?_;rotate_left
 ·refine Zc rfl<|dH rfl rfl rfl rfl ⟨_,rfl,rfl⟩<|Zaa rfl ?_;exact L.cu 2
 ·refine Zi rfl<|Zi rfl<|Zab rfl ?_;exact L.cu 2
 refine Zb rfl ?_;refine' cQ [(false,29),(false,30),(false,31),(false,32)] [(false,33),(false,34),(false,35),(false,36),(false,37),(false,38),(false,39),(false,40),(false,41),(false,42),(false,43),(false,44),(false,45),(false,46),(false,47),(false,48)] (s:=67) (p:=71) rfl rfl (fun hg7=>?_) (fun hg7=>?_) ?_;rotate_left
 ·refine Zc rfl<|X7 rfl U115 U5 U9 rfl hwr Ye (fun _ _ _ _ _=>aJN) rfl ⟨_,rfl,rfl⟩<|cB rfl rfl rfl rfl ⟨_,rfl,rfl⟩<|Zaa rfl ?_;exact L.cu 3
 ·refine Zi rfl<|Zi rfl<|Zi rfl<|Zab rfl ?_;exact L.cu 3
 refine Zb rfl ?_;refine' cQ [(false,34),(false,35),(false,36)] [(false,37),(false,38),(false,39),(false,40),(false,41),(false,42),(false,43),(false,44),(false,45),(false,46),(false,47),(false,48)] (s:=72) (p:=75) rfl rfl (fun hg8=>?_) (fun hg8=>?_) ?_;rotate_left
 ·refine Zc rfl<|dH rfl rfl rfl rfl ⟨_,rfl,rfl⟩<|Zaa rfl ?_;exact L.cu 2
 ·refine Zi rfl<|Zi rfl<|Zab rfl ?_;exact L.cu 2
 refine Zb rfl ?_;refine' cQ [(false,38),(false,39),(false,40),(false,41)] [(false,42),(false,43),(false,44),(false,45),(false,46),(false,47),(false,48)] (s:=76) (p:=80) rfl rfl (fun hg9=>?_) (fun hg9=>?_) ?_;rotate_left
 ·refine Zc rfl<|aW rfl U43 rfl hes rfl rfl ⟨_,rfl,rfl⟩<|dH rfl rfl rfl rfl ⟨_,rfl,rfl⟩<|Zaa rfl ?_;exact L.cu 3
 ·refine Zi rfl<|Zi rfl<|Zi rfl<|Zab rfl ?_;exact L.cu 3
 refine Zb rfl ?_;refine' cQ [(false,43),(false,44),(false,45),(false,46),(false,47)] [(false,48)] (s:=81) (p:=86) rfl rfl (fun hg10=>?_) (fun hg10=>?_) ?_;rotate_left
 ·refine Zc rfl<|Q2 (j:=15) rfl U43 Tf.s44 rfl hes rfl (by rw[p3len];omega) rfl ⟨_,rfl,rfl⟩ (fun ta hT=>vS rfl U25 Tf.s3 Tf.z3 rfl rfl rfl rfl (.cons rfl rfl (.cons rfl rfl (.cons rfl rfl .nil))) rfl ⟨_,rfl,rfl⟩ (fun b903 D903 hD903 hA903=>?_));have hS903:=Sl.ofInts (l:=[_,_,_]) (n:=3) (cap:=3) hA903 rfl Yd Yd;refine Zg rfl (fun D10 hD10=>BR _ _ ((aL (yV++AD)).2.1.drop 15) [9,6,4] _ (hT.up RI.up (hD10 _ Ye)) (hS903.up RI.up (hD10 _ Ye)))<|Zaa rfl ?_;exact aG fun a w hh=>(hh.cutK 4 rfl).ds (fun _ h=>aJT _ (h))
 ·refine Zi rfl<|Zi rfl<|Zi rfl<|Zi rfl<|Zab rfl ?_;exact L.cu 4
 refine Zj rfl<|L.n5 ?_;exact Za [_] rfl ⟨rfl,aMN⟩ (fun D hD=>aKL Value.bool Yac)
end L12
end Go.Fs
namespace Go.Fs
open Go.Proofs
namespace L12
open C12 Go.Lib
end L12
end Go.Fs
namespace Go.Fs
variable{P:Program}{X:Cx}{γb:Type}[Membership Nat γb]{bad:γb}{all:Array Oper}{K:Act→World→Prop}{Q:Exit→Act→World→Prop}
variable{σ:bT}{μ:aC}{Ds:List aA}{os:List (Bool×Nat)}{fl:Bool}{ix:Nat}
variable{d:Nat}{x y z:Operand}{u v:Value}{ty:TypeId}{pos:String}{aft:Array Edge}{g:Option (Nat×Bool)}
theorem P8{dd:Nat}{f:Field}{fs:List Field}{xs ys:Array Value}{a b:Value}{r r':Bool}{w:World}(hn:f.name≠ "_")
  (h1:(part f.type xs f.offset).run P w=.ok a w) (h2:(part f.type ys f.offset).run P w=.ok b w) (h3:(Op.equalIn dd f.type a b).run P w=.ok r w) (h4:(Op.eqFields dd xs ys fs).run P w=.ok r' w):
  (Op.eqFields dd xs ys (f::fs)).run P w=.ok (r&&r') w:=by
 rw[Op.eqFields,aKR hn];simp only[Sem.run_bind,h1,h2,Result.andThen_ok];rw[h3];simp only[Result.andThen_ok];cases r with
 |true=>simpa using h4
 |false=>simp
theorem aFA{dd:Nat}{xs ys:Array Value}{w:World}:(Op.eqFields dd xs ys []).run P w=.ok true w:=rfl
inductive aEG(P:Program):Nat→Nat→List Field→Prop
 |nil {o}:aEG P o o []
 |cons {o e f fs} (hn:f.name≠ "_") (ho:f.offset=o) (ht:P.underlying f.type=some (.int .i64)) (r:aEG P (o+1) e fs):aEG P o e (f::fs)
theorem aEG.le{o e:Nat}{fs:List Field}(h:aEG P o e fs):o≤e:=by
 induction h with
 |nil=>exact aKS _
 |cons _ _ _ _ ih=>omega
theorem aEP(dd:Nat)(l m:List Int)(w:World){o e:Nat}{fs:List Field}(h:aEG P o e fs)(hl:l.length=e)(hm:m.length=e):(Op.eqFields (dd+1) (ints l).toArray (ints m).toArray fs).run P w=.ok (l.drop o==m.drop o) w:=by
 induction h with
 |nil=>
  rw[aLH Yd,aLH Yd];rfl
 | @cons o e f fs hn ho ht r ih=>
  have hle:=r.le;have h1:l[o]?= some (l[o]'Yd):=aJS _;have h2:m[o]?= some (m[o]'Yd):=aJS _;rw[P8 hn (dT ht (by rw[ho];simpa using cD h1) w) (dT ht (by rw[ho];simpa using cD h2) w) (run_equalIn_int w dd f.type .i64 .i64 _ _ ht) (ih hl hm)]
  congr 1;rw[show l.drop o=l[o]::l.drop (o+1)from aLV _,show m.drop o=m[o]::m.drop (o+1)from aLV _];rfl
theorem sF.str{f:Field}{o n:Nat}(hn:f.name≠ "_")(ho:f.offset=o)(hu:P.underlying f.type=some (.struct (P.fieldsOf f.type)))(hst:P.stoodInHeld f.type=false)(ha:TA P f.type true)(hs:TS P f.type n)(hc:aEG P 0 n (P.fieldsOf f.type).toList):sF P f o n:=by
 refine⟨hn,fun l m w hl hm=>⟨_,_,by rw[ho];exact tW ha hs hl w,by rw[ho];exact tW ha hs hm w,?_⟩⟩;have he:=run_equalIn_struct (P:=P) w 9998 f.type (ints ((l.drop o).take n)).toArray (ints ((m.drop o).take n)).toArray hu hst;show(Op.equalIn (9998+1) _ _ _).run P w=_;rw[he,aEP 9997 _ _ w hc (by rw[aHC,aHP];omega) (by rw[aHC,aHP];omega)]
 simp
structure KC(P:Program)(t:TypeId)(f0 f1 f2:Field):Prop where
 und:P.underlying t=some (.struct (P.fieldsOf t))
 held:P.stoodInHeld t=false
 guard:P.eqGuardType P.depth t=false
 fs:(P.fieldsOf t).toList=[f0,f1,f2]
 n0:f0.name≠ "_"
 n1:f1.name≠ "_"
 n2:f2.name≠ "_"
 o0:f0.offset=0
 o1:f1.offset=1
 o2:f2.offset=2
 t0:P.underlying f0.type=some .bool
 t1:P.underlying f1.type=some (.int .i64)
 t2:P.underlying f2.type=some (.int .i64)
theorem aEQ{t:TypeId}{f0 f1 f2:Field}(h:KC P t f0 f1 f2)(a b:C1.rQ)(w:World):(Op.equal t (cV a) (cV b)).run P w=.ok (decide (a=b)) w:=by
 have he:=run_equalIn_struct (P:=P) w 9999 t #[.bool a.back,.int .i64 a.many,.int .i64 a.num] #[.bool b.back,.int .i64 b.many,.int .i64 b.num] h.und h.held;show(Op.equalIn (9999+1) t (cV a) (cV b)).run P w=_;refine he.trans ?_;rw[h.fs,P8 h.n0 (run_part_plain w (by simp[Program.plainKey,h.t0]) (by rw[h.o0];rfl)) (run_part_plain w (by simp[Program.plainKey,h.t0]) (by rw[h.o0];rfl)) (run_equalIn_bool w 9998 f0.type _ _ h.t0)
  (P8 h.n1 (dT h.t1 (by rw[h.o1];rfl) w) (dT h.t1 (by rw[h.o1];rfl) w) (run_equalIn_int w 9998 f1.type .i64 .i64 _ _ h.t1)
   (P8 h.n2 (dT h.t2 (by rw[h.o2];rfl) w) (dT h.t2 (by rw[h.o2];rfl) w) (run_equalIn_int w 9998 f2.type .i64 .i64 _ _ h.t2) aFA))]
 congr 1;obtain⟨a1,a2,a3⟩:=a;obtain⟨b1,b2,b3⟩:=b;rw[aIJ];simp[C1.rQ.mk.injEq]
theorem aGE{t t':TypeId}{f0 f1 f2:Field}{a b:C1.rQ}(ho:all[ix]?= some ⟨some d,.binOp .neq t x y t',ty,pos,aft,g⟩)(ht:KC P t f0 f1 f2)(hx:ev σ x=some (cV a))(hy:ev σ y=some (cV b))(hN:Nat.blt d X.N=true)(hg:cW all σ g)
  (kk:WL P X bad all K Q os ((d,.bool (!(decide (a=b))))::σ) μ Ds):WL P X bad all K Q ((fl,ix)::os) σ μ Ds:=
 DR ho (fun w=>by
  have hgd:(eqGuard .neq t x y (cV a) (cV b)).run P w=.ok () w:=by
   simp only[eqGuard,program,cV];simp[Sem.run,ht.guard,go_sem]
  rw[Sem.run_bind,hgd];show((do Pure.pure (Value.bool (!(←Op.equal t (cV a) (cV b))))):Sem Value).run P w=_;rw[Sem.run_bind,aEQ ht];rfl) hx hy hN hg kk
end Go.Fs
namespace Go.Fs
open Go.Proofs
namespace L12
open C12
section
variable{α:Type}{xs ys:List α}{k:Nat}{a b:α}
theorem aGU{α:Type}[DecidableEq α]{a b:α}(h:(!decide (a=b))=false):a=b:=by simpa using h
theorem aGW{α:Type}[DecidableEq α]{a b:α}(h:(!decide (a=b))=true):a≠b:=by simpa using h
theorem y7(hl:xs.length=ys.length)(hk:xs.length≤k)(h:xs.take k=ys.take k):xs=ys:=by
 rwa [aKZ hk,aKZ Yd]at h
theorem f5(ha:xs[k]?= some a)(hb:ys[k]?= some b)(e:xs=ys):a=b:=by
 rw[e,hb]at ha;exact(aKX ha).symm
end
theorem aEU{l m:List Int}(h:(!(l==m))=false):l=m:=by simpa using h
theorem aEV{α:Type}{f:α→List Int}{a b:α}(h:(!(f a==f b))=true):a≠b:=fun e=>by rw[e]at h;simp at h
def aGT(p:Int×Int):List Int:=[p.1,p.2]
def aHA(m:C2.Mk):List Int:=[m.frm,m.to,m.lo,m.hi]
def aGZ(c:C3.Cn):List Int:=[c.after,c.lo,c.hi]
def aGY(l:C3.fC):List Int:=[l.kind,l.chair,l.token]
def aGS(c:C7.Ch):List Int:=[c.size,c.parts.a,c.parts.b,c.parts.c]
theorem aFS{a b:Int×Int}(h:aGT a=aGT b):a=b:=by
 obtain⟨a1,a2⟩:=a;obtain⟨b1,b2⟩:=b
 simp only[aGT,aLY,and_true]at h;rw[h.1,h.2]
theorem aGK{a b:C2.Mk}(h:aHA a=aHA b):a=b:=by
 obtain⟨a1,a2,a3,a4⟩:=a;obtain⟨b1,b2,b3,b4⟩:=b
 simp only[aHA,aLY,and_true]at h;rw[h.1,h.2.1,h.2.2.1,h.2.2.2]
theorem aGI{a b:C3.Cn}(h:aGZ a=aGZ b):a=b:=by
 obtain⟨a1,a2,a3⟩:=a;obtain⟨b1,b2,b3⟩:=b
 simp only[aGZ,aLY,and_true]at h;rw[h.1,h.2.1,h.2.2]
theorem aGL{a b:C3.fC}(h:aGY a=aGY b):a=b:=by
 obtain⟨a1,a2,a3⟩:=a;obtain⟨b1,b2,b3⟩:=b
 simp only[aGY,aLY,and_true]at h;rw[h.1,h.2.1,h.2.2]
theorem aFT{a b:C7.Ch}(h:aGS a=aGS b):a=b:=by
 obtain⟨a1,a2,a3,a4⟩:=a;obtain⟨b1,b2,b3,b4⟩:=b
 simp only[aGS,aLY,and_true]at h;rw[h.1,h.2.1,h.2.2.1,h.2.2.2]
instance:DecidableEq C7.Ch:=fun a b=>decidable_of_iff (aGS a=aGS b) ⟨aFT,fun e=>by rw[e]⟩
def aEI(a b:C1.dJ):Bool:=decide (a.wrong=b.wrong∧a.off=b.off∧a.places=b.places∧a.counts=b.counts)
theorem aFV{a b:C1.dJ}(h:(decide (a.wrong≠b.wrong)||decide (a.off≠b.off)|| !decide (a.places=b.places)||decide ((a.counts.length:Int)≠(b.counts.length:Int)))=false):a.wrong=b.wrong∧a.off=b.off∧a.places=b.places∧a.counts.length=b.counts.length:=by
 simp only[aHW,Bool.not_eq_false',aHF,Decidable.not_not,aKU]at h;exact⟨h.1.1.1,h.1.1.2,h.1.2,by omega⟩
theorem aFO{a b:C1.dJ}(h:(decide (a.wrong≠b.wrong)||decide (a.off≠b.off)|| !decide (a.places=b.places)||decide ((a.counts.length:Int)≠(b.counts.length:Int)))=true):aEI a b=false:=
 aMM fun⟨e1,e2,e3,e4⟩=>by rw[e1,e2,e3,e4]at h;simp at h
def j9(a b:C2.bA):Bool:=decide (a.last=b.last∧a.step=b.step∧a.levels=b.levels∧a.heights=b.heights∧a.marks=b.marks)
theorem aFE{a b:C2.bA}(h:(decide (a.last≠b.last)||decide (a.step≠b.step)|| !decide (a.levels=b.levels)||decide ((a.heights.length:Int)≠(b.heights.length:Int))||decide ((a.marks.length:Int)≠(b.marks.length:Int)))=false):a.last=b.last∧a.step=b.step∧a.levels=b.levels∧a.heights.length=b.heights.length∧a.marks.length=b.marks.length:=by
 simp only[aHW,Bool.not_eq_false',aHF,Decidable.not_not,aKU]at h;exact⟨h.1.1.1.1,h.1.1.1.2,h.1.1.2,by omega,by omega⟩
theorem aFB{a b:C2.bA}(h:(decide (a.last≠b.last)||decide (a.step≠b.step)|| !decide (a.levels=b.levels)||decide ((a.heights.length:Int)≠(b.heights.length:Int))||decide ((a.marks.length:Int)≠(b.marks.length:Int)))=true):j9 a b=false:=
 aMM fun⟨e1,e2,e3,e4,e5⟩=>by rw[e1,e2,e3,e4,e5]at h;simp at h
def FC(a b:C3.aZ):Bool:=decide (a.chairs=b.chairs∧a.coin=b.coin∧a.box=b.box∧a.lines=b.lines∧a.counts=b.counts)
theorem aFP{a b:C3.aZ}(h:(decide (a.chairs≠b.chairs)||decide (a.coin≠b.coin)||decide (a.box≠b.box)||decide ((a.lines.length:Int)≠(b.lines.length:Int))||decide ((a.counts.length:Int)≠(b.counts.length:Int)))=false):a.chairs=b.chairs∧a.coin=b.coin∧a.box=b.box∧a.lines.length=b.lines.length∧a.counts.length=b.counts.length:=by
 simp only[aHW,aHF,Decidable.not_not]at h;exact⟨h.1.1.1.1,h.1.1.1.2,h.1.1.2,by omega,by omega⟩
theorem aFK{a b:C3.aZ}(h:(decide (a.chairs≠b.chairs)||decide (a.coin≠b.coin)||decide (a.box≠b.box)||decide ((a.lines.length:Int)≠(b.lines.length:Int))||decide ((a.counts.length:Int)≠(b.counts.length:Int)))=true):FC a b=false:=
 aMM fun⟨e1,e2,e3,e4,e5⟩=>by rw[e1,e2,e3,e4,e5]at h;simp at h
def IM(a b:C7.bJ):Bool:=decide (a.fit=b.fit∧a.chairs=b.chairs∧a.claims=b.claims)
theorem aFL{a b:C7.bJ}(h:(decide (a.fit≠b.fit)||decide ((a.chairs.length:Int)≠(b.chairs.length:Int))||decide ((a.claims.length:Int)≠(b.claims.length:Int)))=false):a.fit=b.fit∧a.chairs.length=b.chairs.length∧a.claims.length=b.claims.length:=by
 simp only[aHW,aHF,Decidable.not_not]at h;exact⟨h.1.1,by omega,by omega⟩
theorem aFD{a b:C7.bJ}(h:(decide (a.fit≠b.fit)||decide ((a.chairs.length:Int)≠(b.chairs.length:Int))||decide ((a.claims.length:Int)≠(b.claims.length:Int)))=true):IM a b=false:=
 aMM fun⟨e1,e2,e3⟩=>by rw[e1,e2,e3]at h;simp at h
def aEX(a b:aN):Bool:=aEI a.row b.row&&j9 a.table b.table&&FC a.book b.book&&IM a.yard b.yard
theorem aFC(a:C1.dJ):aEI a a=true:=by simp[aEI]
theorem aER(a:C2.bA):j9 a a=true:=by simp[j9]
theorem aEY(a:C3.aZ):FC a a=true:=by simp[FC]
theorem aEZ(a:C7.bJ):IM a a=true:=by simp[IM]
theorem aFG(a:aN):aEX a a=true:=by simp[aEX,aFC,aER,aEY,aEZ]
theorem aGR:KS Tryz.prog 134 3:=by
 have hf:(Tryz.prog.fieldsOf 134).toList=[(Tryz.prog.fieldsOf 134)[0]!,(Tryz.prog.fieldsOf 134)[1]!,(Tryz.prog.fieldsOf 134)[2]!]:=by kernel_rfl
 refine⟨by kernel_rfl,by kernel_rfl,by kernel_rfl,?_⟩;rw[hf];exact .cons (sF.int Yac Yg Yg) (.cons (sF.int Yac Yg Yg) (.cons (sF.int Yac Yg Yg) .nil))
theorem aGX:KS Tryz.prog 55 2:=by
 have hf:(Tryz.prog.fieldsOf 55).toList=[(Tryz.prog.fieldsOf 55)[0]!,(Tryz.prog.fieldsOf 55)[1]!]:=by kernel_rfl
 refine⟨by kernel_rfl,by kernel_rfl,by kernel_rfl,?_⟩;rw[hf];exact .cons (sF.int Yac Yg Yg) (.cons (sF.int Yac Yg Yg) .nil)
theorem aGO:KS Tryz.prog 144 4:=by
 have hf:(Tryz.prog.fieldsOf 144).toList=[(Tryz.prog.fieldsOf 144)[0]!,(Tryz.prog.fieldsOf 144)[1]!,(Tryz.prog.fieldsOf 144)[2]!]:=by kernel_rfl
 refine⟨by kernel_rfl,by kernel_rfl,by kernel_rfl,?_⟩;rw[hf];refine .cons (sF.int Yac Yg Yg) (.cons (sF.int Yac Yg Yg) (.cons (n:=2) (sF.str Yac Yg Yg Yg ?_ ?_ ?_) .nil))
 ·rw[show(((Tryz.prog.fieldsOf 144)[2]!)).type=55 by kernel_rfl];exact Tf.a55
 ·rw[show(((Tryz.prog.fieldsOf 144)[2]!)).type=55 by kernel_rfl];exact Tf.s55
 ·rw[show(((Tryz.prog.fieldsOf 144)[2]!)).type=55 by kernel_rfl,show(Tryz.prog.fieldsOf 55).toList=[(Tryz.prog.fieldsOf 55)[0]!,(Tryz.prog.fieldsOf 55)[1]!] by kernel_rfl];exact .cons Yac Yg Yg (.cons Yac Yg Yg .nil)
theorem aGN:KS Tryz.prog 137 3:=by
 have hf:(Tryz.prog.fieldsOf 137).toList=[(Tryz.prog.fieldsOf 137)[0]!,(Tryz.prog.fieldsOf 137)[1]!]:=by kernel_rfl
 refine⟨by kernel_rfl,by kernel_rfl,by kernel_rfl,?_⟩;rw[hf];refine .cons (sF.int Yac Yg Yg) (.cons (n:=2) (sF.str Yac Yg Yg Yg ?_ ?_ ?_) .nil)
 ·rw[show(((Tryz.prog.fieldsOf 137)[1]!)).type=109 by kernel_rfl];exact Tf.a109
 ·rw[show(((Tryz.prog.fieldsOf 137)[1]!)).type=109 by kernel_rfl];exact Tf.s109
 ·rw[show(((Tryz.prog.fieldsOf 137)[1]!)).type=109 by kernel_rfl,show(Tryz.prog.fieldsOf 109).toList=[(Tryz.prog.fieldsOf 109)[0]!,(Tryz.prog.fieldsOf 109)[1]!] by kernel_rfl];exact .cons Yac Yg Yg (.cons Yac Yg Yg .nil)
theorem aGQ:KS Tryz.prog 148 4:=by
 have hf:(Tryz.prog.fieldsOf 148).toList=[(Tryz.prog.fieldsOf 148)[0]!,(Tryz.prog.fieldsOf 148)[1]!]:=by kernel_rfl
 refine⟨by kernel_rfl,by kernel_rfl,by kernel_rfl,?_⟩;rw[hf];refine .cons (sF.int Yac Yg Yg) (.cons (n:=3) (sF.arr (e:=3) Yac Yg Yg Yg Yg ?_ ?_) .nil)
 ·rw[show(((Tryz.prog.fieldsOf 148)[1]!)).type=146 by kernel_rfl];exact Tf.a146
 ·rw[show(((Tryz.prog.fieldsOf 148)[1]!)).type=146 by kernel_rfl];exact Tf.s146
theorem aGV:KS Tryz.prog 69 2:=by
 have hf:(Tryz.prog.fieldsOf 69).toList=[(Tryz.prog.fieldsOf 69)[0]!,(Tryz.prog.fieldsOf 69)[1]!]:=by kernel_rfl
 refine⟨by kernel_rfl,by kernel_rfl,by kernel_rfl,?_⟩;rw[hf];exact .cons (sF.int Yac Yg Yg) (.cons (sF.int Yac Yg Yg) .nil)
theorem aGP:KC Tryz.prog 142 (Tryz.prog.fieldsOf 142)[0]! (Tryz.prog.fieldsOf 142)[1]! (Tryz.prog.fieldsOf 142)[2]! :=⟨by kernel_rfl,by kernel_rfl,by kernel_rfl,by kernel_rfl,by decide+kernel,by decide+kernel,by decide+kernel,by kernel_rfl,by kernel_rfl,by kernel_rfl,by kernel_rfl,by kernel_rfl,by kernel_rfl⟩
theorem aFU(av bv:Value)(a0 b0:C1.dJ)(D:aA)(hx:mL D av a0)(hy:mL D bv b0):Fn Tryz.prog 26 #[av,bv] D (fun _ v=>v=.bool (aEI a0 b0)):=by
 obtain⟨pv,cv,rfl,hp0,hc0⟩:=hx;obtain⟨qv,dv,rfl,hq0,hd0⟩:=hy;have hlen0:=hc0.len;refine enter 53 Tryz.func26 rfl rfl rfl rfl fun h0=>C.s1<|Zu rfl (fun q1 E1 hE1 hB1=>Zu rfl (fun q2 E2 hE2 hB2=>Zj rfl<|L.n4<|Zk rfl Tf.f28_2 rfl<|Zd 2 rfl Tf.a3 rfl hB1 rfl<|Zk rfl Tf.f28_2 rfl<|Zd 2 rfl Tf.a3 rfl hB2 rfl<|Zaf rfl<|Zb rfl ?_))
 refine' iE [(false,6),(false,7),(false,8),(false,9),(false,10),(false,11)] [(false,12),(false,13),(false,14),(false,15),(false,16),(false,17),(false,18),(false,19),(false,20),(false,21),(false,22),(false,23),(false,24),(false,25),(false,26),(false,27),(false,28)] (s:=11) (p:=17) rfl rfl (fun hg1=>?_) (fun hg1=>?_) ?_;rotate_left
 ·refine Zl rfl Tf.f28_3 rfl<|Ze 3 rfl Tf.a3 rfl hB1 rfl<|Zl rfl Tf.f28_3 rfl<|Ze 3 rfl Tf.a3 rfl hB2 rfl<|eQ rfl rfl rfl rfl ⟨_,rfl,rfl⟩<|Zab rfl ?_;exact L.cu 5
 ·refine Zi rfl<|Zi rfl<|Zi rfl<|Zi rfl<|Zi rfl<|Zaa rfl ?_;exact L.cu 5
 refine Zb rfl ?_;refine' iE [(false,13),(false,14),(false,15),(false,16),(false,17),(false,18),(false,19)] [(false,20),(false,21),(false,22),(false,23),(false,24),(false,25),(false,26),(false,27),(false,28)] (s:=18) (p:=25) rfl rfl (fun hg2=>?_) (fun hg2=>?_) ?_;rotate_left
 ·refine Zl rfl Tf.f28_0 rfl<|Ze 0 rfl Tf.a25 rfl hB1 rfl<|Zl rfl Tf.f28_0 rfl<|Ze 0 rfl Tf.a25 rfl hB2 rfl<|Zg rfl (fun D1 hD1=>aES _ _ a0.places b0.places _ (hp0.up RI.up (hD1 _ Ye)) (hq0.up RI.up (hD1 _ Ye)))<|jT rfl rfl rfl ⟨_,rfl,rfl⟩<|Zab rfl ?_;exact L.cu 6
 ·refine Zi rfl<|Zi rfl<|Zi rfl<|Zi rfl<|Zi rfl<|Zi rfl<|Zaa rfl ?_;exact L.cu 6
 refine Zb rfl ?_;refine' iE [(false,21),(false,22),(false,23),(false,24),(false,25),(false,26),(false,27),(false,28)] [] (s:=26) (p:=34) rfl rfl (fun hg3=>?_) (fun hg3=>?_) ?_;rotate_left
 ·refine Zl rfl Tf.f28_1 rfl<|Ze 1 rfl Tf.a26 rfl hB1 rfl<|aW rfl U26 rfl hc0 rfl rfl ⟨_,rfl,rfl⟩<|Zl rfl Tf.f28_1 rfl<|Ze 1 rfl Tf.a26 rfl hB2 rfl<|aW rfl U26 rfl hd0 rfl rfl ⟨_,rfl,rfl⟩<|eQ rfl rfl rfl rfl ⟨_,rfl,rfl⟩<|Zab rfl ?_;exact L.cu 7
 ·refine Zi rfl<|Zi rfl<|Zi rfl<|Zi rfl<|Zi rfl<|Zi rfl<|Zi rfl<|Zaa rfl ?_;exact L.cu 7
 refine L.n1<|aJ rfl (fun hc1=>?_) (fun hc1=>?_)
 ·refine C.s1<|Zj rfl<|L.n5<|Zah ?_;exact Za [_] rfl ⟨rfl,aMN⟩ (fun D hD=>aKL Value.bool (aFO hc1).symm)
 ·obtain⟨hw,ho,hp,hl5⟩:=aFV hc1;refine C.kn<|C.s2<|Zj rfl<|L.n1<|Zaj<|cN (γ:=Nat) (fun k=>(a0.counts).length-k) (fun k=>k≤(a0.counts).length∧(a0.counts).take k=(b0.counts).take k) (fun k=>[(5,.int .i64 (k:Int))]) [(4,_),(3,_),(2,_)] (fun k=>[E2,E1,D]) 0 Ye ⟨Ya,aMN⟩ C.rs (aD) ?_;rintro k ⟨h1,h2⟩;refine C.s2<|Zb rfl<|Zk rfl Tf.f28_1 rfl<|Zd 1 rfl Tf.a26 rfl hB1 rfl<|aW rfl U26 rfl hc0 rfl rfl trivial<|Zad rfl<|L.n1<|aF rfl (fun hc2=>?_) (fun hc2=>?_)
  ·have hk:k<(a0.counts).length:=by omega
   obtain⟨a,ha⟩:∃a,(a0.counts)[k]?= some a:=⟨_,aJS hk⟩
   obtain⟨b,hb⟩:∃b,(b0.counts)[k]?= some b:=⟨_,aJS Yd⟩
   refine C.kn<|aCX<|Zaj<|aCX<|C.drawA [] 4 11 996 (fun _ _ _ h=>cZ (P:=Tryz.prog) (fn:=Tryz.f26) _ _ _ h)<|Zk rfl Tf.f28_1 rfl<|Zd 1 rfl Tf.a26 rfl hB1 rfl<|Zb rfl<|Zq rfl U26 Tf.s142 rfl hc0 rfl ha (fun b1 o1 cs1 hr1 hcl1 hA1=>?_);have e1:cs1=_:=hr1;subst e1;refine Zr rfl Tf.a142 rfl hA1 Tf.s142<|Zk rfl Tf.f28_1 rfl<|Zd 1 rfl Tf.a26 rfl hB2 rfl<|Zb rfl<|Zq rfl U26 Tf.s142 rfl hd0 rfl hb (fun b2 o2 cs2 hr2 hcl2 hA2=>?_);have e2:cs2=_:=hr2;subst e2;refine Zr rfl Tf.a142 rfl hA2 Tf.s142<|aGE rfl aGP rfl rfl rfl trivial<|L.n1<|aJ rfl (fun hc3=>?_) (fun hc3=>?_)
   ·refine C.s1<|Zj rfl<|L.n5<|Zal<|Zah<|Zah<|Zal<|Zah ?_;exact Za [_] rfl ⟨rfl,aMN⟩ (fun D hD=>aKL Value.bool (aMM (fun e=>absurd (f5 ha hb (e.2.2.2)) (aGW hc3))).symm)
   ·refine aAX<|Zak<|Zag<|C.rg<|Zb rfl<|Zx rfl<|Zj rfl<|Zy ?_;exact aH 20 (k+1) ⟨by omega,SK ha hb h2 (aGU hc3)⟩ Yd ⟨Ya,aMN⟩ rfl rfl (aJU _) (aD)
  ·have h5:a0.counts=b0.counts:=y7 hl5 Yd h2;refine aR<|Zai<|Zai<|Zam<|Zag<|C.s1<|Zj rfl<|L.n5 ?_;exact Za [_] rfl ⟨rfl,aMN⟩ (fun D hD=>aKL Value.bool (decide_eq_true (⟨hw,ho,hp,h5⟩)).symm)
theorem aFJ(av bv:Value)(a0 b0:C2.bA)(D:aA)(hx:gL D av a0)(hy:gL D bv b0):Fn Tryz.prog 27 #[av,bv] D (fun _ v=>v=.bool (j9 a0 b0)):=by
 obtain⟨hv,lv,mv,rfl,hh0,hv0,hm0⟩:=hx;obtain⟨gv,kv,nv,rfl,gh0,gv0,gm0⟩:=hy;have hlen0:=hh0.len;have hlen1:=hm0.len;refine enter 81 Tryz.func27 rfl rfl rfl rfl fun h0=>C.s1<|Zu rfl (fun q1 E1 hE1 hB1=>Zu rfl (fun q2 E2 hE2 hB2=>Zj rfl<|L.n4<|Zk rfl Tf.f32_0 rfl<|Zd 0 rfl Tf.a3 rfl hB1 rfl<|Zk rfl Tf.f32_0 rfl<|Zd 0 rfl Tf.a3 rfl hB2 rfl<|Zaf rfl<|Zb rfl ?_))
 refine' iE [(false,6),(false,7),(false,8),(false,9),(false,10),(false,11)] [(false,12),(false,13),(false,14),(false,15),(false,16),(false,17),(false,18),(false,19),(false,20),(false,21),(false,22),(false,23),(false,24),(false,25),(false,26),(false,27),(false,28),(false,29),(false,30),(false,31),(false,32),(false,33),(false,34),(false,35),(false,36),(false,37)] (s:=12) (p:=18) rfl rfl (fun hg1=>?_) (fun hg1=>?_) ?_;rotate_left
 ·refine Zl rfl Tf.f32_2 rfl<|Ze 2 rfl Tf.a3 rfl hB1 rfl<|Zl rfl Tf.f32_2 rfl<|Ze 2 rfl Tf.a3 rfl hB2 rfl<|eQ rfl rfl rfl rfl ⟨_,rfl,rfl⟩<|Zab rfl ?_;exact L.cu 5
 ·refine Zi rfl<|Zi rfl<|Zi rfl<|Zi rfl<|Zi rfl<|Zaa rfl ?_;exact L.cu 5
 refine Zb rfl ?_;refine' iE [(false,13),(false,14),(false,15),(false,16),(false,17),(false,18),(false,19)] [(false,20),(false,21),(false,22),(false,23),(false,24),(false,25),(false,26),(false,27),(false,28),(false,29),(false,30),(false,31),(false,32),(false,33),(false,34),(false,35),(false,36),(false,37)] (s:=19) (p:=26) rfl rfl (fun hg2=>?_) (fun hg2=>?_) ?_;rotate_left
 ·refine Zl rfl Tf.f32_3 rfl<|Ze 3 rfl Tf.a25 rfl hB1 rfl<|Zl rfl Tf.f32_3 rfl<|Ze 3 rfl Tf.a25 rfl hB2 rfl<|Zg rfl (fun D1 hD1=>aES _ _ a0.levels b0.levels _ (hv0.up RI.up (hD1 _ Ye)) (gv0.up RI.up (hD1 _ Ye)))<|jT rfl rfl rfl ⟨_,rfl,rfl⟩<|Zab rfl ?_;exact L.cu 6
 ·refine Zi rfl<|Zi rfl<|Zi rfl<|Zi rfl<|Zi rfl<|Zi rfl<|Zaa rfl ?_;exact L.cu 6
 refine Zb rfl ?_;refine' iE [(false,21),(false,22),(false,23),(false,24),(false,25),(false,26),(false,27),(false,28)] [(false,29),(false,30),(false,31),(false,32),(false,33),(false,34),(false,35),(false,36),(false,37)] (s:=27) (p:=35) rfl rfl (fun hg3=>?_) (fun hg3=>?_) ?_;rotate_left
 ·refine Zl rfl Tf.f32_1 rfl<|Ze 1 rfl Tf.a29 rfl hB1 rfl<|aW rfl U29 rfl hh0 rfl rfl ⟨_,rfl,rfl⟩<|Zl rfl Tf.f32_1 rfl<|Ze 1 rfl Tf.a29 rfl hB2 rfl<|aW rfl U29 rfl gh0 rfl rfl ⟨_,rfl,rfl⟩<|eQ rfl rfl rfl rfl ⟨_,rfl,rfl⟩<|Zab rfl ?_;exact L.cu 7
 ·refine Zi rfl<|Zi rfl<|Zi rfl<|Zi rfl<|Zi rfl<|Zi rfl<|Zi rfl<|Zaa rfl ?_;exact L.cu 7
 refine Zb rfl ?_;refine' iE [(false,30),(false,31),(false,32),(false,33),(false,34),(false,35),(false,36),(false,37)] [] (s:=36) (p:=44) rfl rfl (fun hg4=>?_) (fun hg4=>?_) ?_;rotate_left
 ·refine Zl rfl Tf.f32_4 rfl<|Ze 4 rfl Tf.a30 rfl hB1 rfl<|aW rfl U30 rfl hm0 rfl rfl ⟨_,rfl,rfl⟩<|Zl rfl Tf.f32_4 rfl<|Ze 4 rfl Tf.a30 rfl hB2 rfl<|aW rfl U30 rfl gm0 rfl rfl ⟨_,rfl,rfl⟩<|eQ rfl rfl rfl rfl ⟨_,rfl,rfl⟩<|Zab rfl ?_;exact L.cu 7
 ·refine Zi rfl<|Zi rfl<|Zi rfl<|Zi rfl<|Zi rfl<|Zi rfl<|Zi rfl<|Zaa rfl ?_;exact L.cu 7
 refine L.n1<|aJ rfl (fun hc1=>?_) (fun hc1=>?_)
 ·refine C.s1<|Zj rfl<|L.n5<|Zah ?_;exact Za [_] rfl ⟨rfl,aMN⟩ (fun D hD=>aKL Value.bool (aFB hc1).symm)
 ·obtain⟨hw,ho,hp,hl5,hl6⟩:=aFE hc1;refine C.kn<|C.s2<|Zj rfl<|L.n1<|Zaj<|cN (γ:=Nat) (fun k=>(a0.heights).length-k) (fun k=>k≤(a0.heights).length∧(a0.heights).take k=(b0.heights).take k) (fun k=>[(5,.int .i64 (k:Int))]) [(4,_),(3,_),(2,_)] (fun k=>[E2,E1,D]) 0 Ye ⟨Ya,aMN⟩ C.rs (aD) ?_;rintro k ⟨h1,h2⟩;refine C.s2<|Zb rfl<|Zk rfl Tf.f32_1 rfl<|Zd 1 rfl Tf.a29 rfl hB1 rfl<|aW rfl U29 rfl hh0 rfl rfl trivial<|Zad rfl<|L.n1<|aF rfl (fun hc2=>?_) (fun hc2=>?_)
  ·have hk:k<(a0.heights).length:=by omega
   obtain⟨a,ha⟩:∃a,(a0.heights)[k]?= some a:=⟨_,aJS hk⟩
   obtain⟨b,hb⟩:∃b,(b0.heights)[k]?= some b:=⟨_,aJS Yd⟩
   refine C.kn<|aCX<|Zaj<|aCX<|C.drawA [] 4 11 996 (fun _ _ _ h=>cZ (P:=Tryz.prog) (fn:=Tryz.f27) _ _ _ h)<|Zk rfl Tf.f32_1 rfl<|Zd 1 rfl Tf.a29 rfl hB1 rfl<|Zb rfl<|Zq rfl U29 Tf.s55 rfl hh0 rfl ha (fun b1 o1 cs1 hr1 hcl1 hA1=>?_);have e1:cs1=_:=hr1;subst e1;refine Zr rfl Tf.a55 rfl hA1 Tf.s55<|Zk rfl Tf.f32_1 rfl<|Zd 1 rfl Tf.a29 rfl hB2 rfl<|Zb rfl<|Zq rfl U29 Tf.s55 rfl gh0 rfl hb (fun b2 o2 cs2 hr2 hcl2 hA2=>?_);have e2:cs2=_:=hr2;subst e2;refine Zr rfl Tf.a55 rfl hA2 Tf.s55<|ZV (l:=[a.1,a.2]) (m:=[b.1,b.2]) rfl aGX rfl rfl rfl rfl rfl trivial<|L.n1<|aJ rfl (fun hc3=>?_) (fun hc3=>?_)
   ·refine C.s1<|Zj rfl<|L.n5<|Zal<|Zah<|Zah<|Zal<|Zah ?_;exact Za [_] rfl ⟨rfl,aMN⟩ (fun D hD=>aKL Value.bool (aMM (fun e=>absurd (f5 ha hb (e.2.2.2.1)) (aEV (f:=aGT) hc3))).symm)
   ·refine aAX<|Zak<|Zag<|C.rg<|Zb rfl<|Zx rfl<|Zj rfl<|Zy ?_;exact aH 20 (k+1) ⟨by omega,SK ha hb h2 (aFS (aEU hc3))⟩ Yd ⟨Ya,aMN⟩ rfl rfl (aJU _) (aD)
  ·have h5:a0.heights=b0.heights:=y7 hl5 Yd h2;refine aR<|Zai<|Zai<|Zam<|Zag<|C.s2<|Zj rfl<|L.n1<|Zaj<|cN (γ:=Nat) (fun k=>(a0.marks).length-k) (fun k=>k≤(a0.marks).length∧(a0.marks).take k=(b0.marks).take k) (fun k=>[(6,.int .i64 (k:Int))]) [(4,_),(3,_),(2,_)] (fun k=>[E2,E1,D]) 0 Ye ⟨Ya,aMN⟩ C.rs (aD) ?_;rintro k ⟨h1,h2⟩;refine C.s2<|Zb rfl<|Zk rfl Tf.f32_4 rfl<|Zd 4 rfl Tf.a30 rfl hB1 rfl<|aW rfl U30 rfl hm0 rfl rfl trivial<|Zad rfl<|L.n1<|aF rfl (fun hc4=>?_) (fun hc4=>?_)
   ·have hk:k<(a0.marks).length:=by omega
    obtain⟨a,ha⟩:∃a,(a0.marks)[k]?= some a:=⟨_,aJS hk⟩
    obtain⟨b,hb⟩:∃b,(b0.marks)[k]?= some b:=⟨_,aJS Yd⟩
    refine C.kn<|aCX<|Zaj<|aCX<|C.drawA [] 4 11 996 (fun _ _ _ h=>cZ (P:=Tryz.prog) (fn:=Tryz.f27) _ _ _ h)<|Zk rfl Tf.f32_4 rfl<|Zd 4 rfl Tf.a30 rfl hB1 rfl<|Zb rfl<|Zq rfl U30 Tf.s144 rfl hm0 rfl ha (fun b3 o3 cs3 hr3 hcl3 hA3=>?_);have e3:cs3=_:=hr3;subst e3;refine Zr rfl Tf.a144 rfl hA3 Tf.s144<|Zk rfl Tf.f32_4 rfl<|Zd 4 rfl Tf.a30 rfl hB2 rfl<|Zb rfl<|Zq rfl U30 Tf.s144 rfl gm0 rfl hb (fun b4 o4 cs4 hr4 hcl4 hA4=>?_);have e4:cs4=_:=hr4;subst e4;refine Zr rfl Tf.a144 rfl hA4 Tf.s144<|ZV (l:=[a.frm,a.to,a.lo,a.hi]) (m:=[b.frm,b.to,b.lo,b.hi]) rfl aGO rfl rfl rfl rfl rfl trivial<|L.n1<|aJ rfl (fun hc5=>?_) (fun hc5=>?_)
    ·refine C.s1<|Zj rfl<|L.n5<|Zal<|Zah<|Zah<|Zal<|Zah ?_;exact Za [_] rfl ⟨rfl,aMN⟩ (fun D hD=>aKL Value.bool (aMM (fun e=>absurd (f5 ha hb (e.2.2.2.2)) (aEV (f:=aHA) hc5))).symm)
    ·refine aAX<|Zak<|Zag<|C.rg<|Zb rfl<|Zx rfl<|Zj rfl<|Zy ?_;exact aH 20 (k+1) ⟨by omega,SK ha hb h2 (aGK (aEU hc5))⟩ Yd ⟨Ya,aMN⟩ rfl rfl (aJU _) (aD)
   ·have h6:a0.marks=b0.marks:=y7 hl6 Yd h2;refine aR<|Zai<|Zai<|Zam<|Zag<|C.s1<|Zj rfl<|L.n5 ?_;exact Za [_] rfl ⟨rfl,aMN⟩ (fun D hD=>aKL Value.bool (decide_eq_true (⟨hw,ho,hp,h5,h6⟩)).symm)
theorem aFM(av bv:Value)(a0 b0:C3.aZ)(D:aA)(hx:fO D av a0)(hy:fO D bv b0):Fn Tryz.prog 28 #[av,bv] D (fun _ v=>v=.bool (FC a0 b0)):=by
 obtain⟨hv,mv,rfl,hh0,hm0⟩:=hx;obtain⟨gv,nv,rfl,gh0,gm0⟩:=hy;have hlen0:=hh0.len;have hlen1:=hm0.len;refine enter 80 Tryz.func28 rfl rfl rfl rfl fun h0=>C.s1<|Zu rfl (fun q1 E1 hE1 hB1=>Zu rfl (fun q2 E2 hE2 hB2=>Zj rfl<|L.n4<|Zk rfl Tf.f36_0 rfl<|Zd 0 rfl Tf.a3 rfl hB1 rfl<|Zk rfl Tf.f36_0 rfl<|Zd 0 rfl Tf.a3 rfl hB2 rfl<|Zaf rfl<|Zb rfl ?_))
 refine' iE [(false,6),(false,7),(false,8),(false,9),(false,10),(false,11)] [(false,12),(false,13),(false,14),(false,15),(false,16),(false,17),(false,18),(false,19),(false,20),(false,21),(false,22),(false,23),(false,24),(false,25),(false,26),(false,27),(false,28),(false,29),(false,30),(false,31),(false,32),(false,33),(false,34),(false,35),(false,36)] (s:=12) (p:=18) rfl rfl (fun hg1=>?_) (fun hg1=>?_) ?_;rotate_left
 ·refine Zl rfl Tf.f36_1 rfl<|Ze 1 rfl Tf.a3 rfl hB1 rfl<|Zl rfl Tf.f36_1 rfl<|Ze 1 rfl Tf.a3 rfl hB2 rfl<|eQ rfl rfl rfl rfl ⟨_,rfl,rfl⟩<|Zab rfl ?_;exact L.cu 5
 ·refine Zi rfl<|Zi rfl<|Zi rfl<|Zi rfl<|Zi rfl<|Zaa rfl ?_;exact L.cu 5
 refine Zb rfl ?_;refine' iE [(false,13),(false,14),(false,15),(false,16),(false,17),(false,18)] [(false,19),(false,20),(false,21),(false,22),(false,23),(false,24),(false,25),(false,26),(false,27),(false,28),(false,29),(false,30),(false,31),(false,32),(false,33),(false,34),(false,35),(false,36)] (s:=19) (p:=25) rfl rfl (fun hg2=>?_) (fun hg2=>?_) ?_;rotate_left
 ·refine Zl rfl Tf.f36_2 rfl<|Ze 2 rfl Tf.a3 rfl hB1 rfl<|Zl rfl Tf.f36_2 rfl<|Ze 2 rfl Tf.a3 rfl hB2 rfl<|eQ rfl rfl rfl rfl ⟨_,rfl,rfl⟩<|Zab rfl ?_;exact L.cu 5
 ·refine Zi rfl<|Zi rfl<|Zi rfl<|Zi rfl<|Zi rfl<|Zaa rfl ?_;exact L.cu 5
 refine Zb rfl ?_;refine' iE [(false,20),(false,21),(false,22),(false,23),(false,24),(false,25),(false,26),(false,27)] [(false,28),(false,29),(false,30),(false,31),(false,32),(false,33),(false,34),(false,35),(false,36)] (s:=26) (p:=34) rfl rfl (fun hg3=>?_) (fun hg3=>?_) ?_;rotate_left
 ·refine Zl rfl Tf.f36_3 rfl<|Ze 3 rfl Tf.a33 rfl hB1 rfl<|aW rfl U33 rfl hh0 rfl rfl ⟨_,rfl,rfl⟩<|Zl rfl Tf.f36_3 rfl<|Ze 3 rfl Tf.a33 rfl hB2 rfl<|aW rfl U33 rfl gh0 rfl rfl ⟨_,rfl,rfl⟩<|eQ rfl rfl rfl rfl ⟨_,rfl,rfl⟩<|Zab rfl ?_;exact L.cu 7
 ·refine Zi rfl<|Zi rfl<|Zi rfl<|Zi rfl<|Zi rfl<|Zi rfl<|Zi rfl<|Zaa rfl ?_;exact L.cu 7
 refine Zb rfl ?_;refine' iE [(false,29),(false,30),(false,31),(false,32),(false,33),(false,34),(false,35),(false,36)] [] (s:=35) (p:=43) rfl rfl (fun hg4=>?_) (fun hg4=>?_) ?_;rotate_left
 ·refine Zl rfl Tf.f36_4 rfl<|Ze 4 rfl Tf.a34 rfl hB1 rfl<|aW rfl U34 rfl hm0 rfl rfl ⟨_,rfl,rfl⟩<|Zl rfl Tf.f36_4 rfl<|Ze 4 rfl Tf.a34 rfl hB2 rfl<|aW rfl U34 rfl gm0 rfl rfl ⟨_,rfl,rfl⟩<|eQ rfl rfl rfl rfl ⟨_,rfl,rfl⟩<|Zab rfl ?_;exact L.cu 7
 ·refine Zi rfl<|Zi rfl<|Zi rfl<|Zi rfl<|Zi rfl<|Zi rfl<|Zi rfl<|Zaa rfl ?_;exact L.cu 7
 refine L.n1<|aJ rfl (fun hc1=>?_) (fun hc1=>?_)
 ·refine C.s1<|Zj rfl<|L.n5<|Zah ?_;exact Za [_] rfl ⟨rfl,aMN⟩ (fun D hD=>aKL Value.bool (aFK hc1).symm)
 ·obtain⟨hw,ho,hp,hl5,hl6⟩:=aFP hc1;refine C.kn<|C.s2<|Zj rfl<|L.n1<|Zaj<|cN (γ:=Nat) (fun k=>(a0.lines).length-k) (fun k=>k≤(a0.lines).length∧(a0.lines).take k=(b0.lines).take k) (fun k=>[(5,.int .i64 (k:Int))]) [(4,_),(3,_),(2,_)] (fun k=>[E2,E1,D]) 0 Ye ⟨Ya,aMN⟩ C.rs (aD) ?_;rintro k ⟨h1,h2⟩;refine C.s2<|Zb rfl<|Zk rfl Tf.f36_3 rfl<|Zd 3 rfl Tf.a33 rfl hB1 rfl<|aW rfl U33 rfl hh0 rfl rfl trivial<|Zad rfl<|L.n1<|aF rfl (fun hc2=>?_) (fun hc2=>?_)
  ·have hk:k<(a0.lines).length:=by omega
   obtain⟨a,ha⟩:∃a,(a0.lines)[k]?= some a:=⟨_,aJS hk⟩
   obtain⟨b,hb⟩:∃b,(b0.lines)[k]?= some b:=⟨_,aJS Yd⟩
   refine C.kn<|aCX<|Zaj<|aCX<|C.drawA [] 4 11 996 (fun _ _ _ h=>cZ (P:=Tryz.prog) (fn:=Tryz.f28) _ _ _ h)<|Zk rfl Tf.f36_3 rfl<|Zd 3 rfl Tf.a33 rfl hB1 rfl<|Zb rfl<|Zq rfl U33 Tf.s134 rfl hh0 rfl ha (fun b1 o1 cs1 hr1 hcl1 hA1=>?_);have e1:cs1=_:=hr1;subst e1;refine Zr rfl Tf.a134 rfl hA1 Tf.s134<|Zk rfl Tf.f36_3 rfl<|Zd 3 rfl Tf.a33 rfl hB2 rfl<|Zb rfl<|Zq rfl U33 Tf.s134 rfl gh0 rfl hb (fun b2 o2 cs2 hr2 hcl2 hA2=>?_);have e2:cs2=_:=hr2;subst e2;refine Zr rfl Tf.a134 rfl hA2 Tf.s134<|ZV (l:=[a.kind,a.chair,a.token]) (m:=[b.kind,b.chair,b.token]) rfl aGR rfl rfl rfl rfl rfl trivial<|L.n1<|aJ rfl (fun hc3=>?_) (fun hc3=>?_)
   ·refine C.s1<|Zj rfl<|L.n5<|Zal<|Zah<|Zah<|Zal<|Zah ?_;exact Za [_] rfl ⟨rfl,aMN⟩ (fun D hD=>aKL Value.bool (aMM (fun e=>absurd (f5 ha hb (e.2.2.2.1)) (aEV (f:=aGY) hc3))).symm)
   ·refine aAX<|Zak<|Zag<|C.rg<|Zb rfl<|Zx rfl<|Zj rfl<|Zy ?_;exact aH 20 (k+1) ⟨by omega,SK ha hb h2 (aGL (aEU hc3))⟩ Yd ⟨Ya,aMN⟩ rfl rfl (aJU _) (aD)
  ·have h5:a0.lines=b0.lines:=y7 hl5 Yd h2;refine aR<|Zai<|Zai<|Zam<|Zag<|C.s2<|Zj rfl<|L.n1<|Zaj<|cN (γ:=Nat) (fun k=>(a0.counts).length-k) (fun k=>k≤(a0.counts).length∧(a0.counts).take k=(b0.counts).take k) (fun k=>[(6,.int .i64 (k:Int))]) [(4,_),(3,_),(2,_)] (fun k=>[E2,E1,D]) 0 Ye ⟨Ya,aMN⟩ C.rs (aD) ?_;rintro k ⟨h1,h2⟩;refine C.s2<|Zb rfl<|Zk rfl Tf.f36_4 rfl<|Zd 4 rfl Tf.a34 rfl hB1 rfl<|aW rfl U34 rfl hm0 rfl rfl trivial<|Zad rfl<|L.n1<|aF rfl (fun hc4=>?_) (fun hc4=>?_)
   ·have hk:k<(a0.counts).length:=by omega
    obtain⟨a,ha⟩:∃a,(a0.counts)[k]?= some a:=⟨_,aJS hk⟩
    obtain⟨b,hb⟩:∃b,(b0.counts)[k]?= some b:=⟨_,aJS Yd⟩
    refine C.kn<|aCX<|Zaj<|aCX<|C.drawA [] 4 11 996 (fun _ _ _ h=>cZ (P:=Tryz.prog) (fn:=Tryz.f28) _ _ _ h)<|Zk rfl Tf.f36_4 rfl<|Zd 4 rfl Tf.a34 rfl hB1 rfl<|Zb rfl<|Zq rfl U34 Tf.s137 rfl hm0 rfl ha (fun b3 o3 cs3 hr3 hcl3 hA3=>?_);have e3:cs3=_:=hr3;subst e3;refine Zr rfl Tf.a137 rfl hA3 Tf.s137<|Zk rfl Tf.f36_4 rfl<|Zd 4 rfl Tf.a34 rfl hB2 rfl<|Zb rfl<|Zq rfl U34 Tf.s137 rfl gm0 rfl hb (fun b4 o4 cs4 hr4 hcl4 hA4=>?_);have e4:cs4=_:=hr4;subst e4;refine Zr rfl Tf.a137 rfl hA4 Tf.s137<|ZV (l:=[a.after,a.lo,a.hi]) (m:=[b.after,b.lo,b.hi]) rfl aGN rfl rfl rfl rfl rfl trivial<|L.n1<|aJ rfl (fun hc5=>?_) (fun hc5=>?_)
    ·refine C.s1<|Zj rfl<|L.n5<|Zal<|Zah<|Zah<|Zal<|Zah ?_;exact Za [_] rfl ⟨rfl,aMN⟩ (fun D hD=>aKL Value.bool (aMM (fun e=>absurd (f5 ha hb (e.2.2.2.2)) (aEV (f:=aGZ) hc5))).symm)
    ·refine aAX<|Zak<|Zag<|C.rg<|Zb rfl<|Zx rfl<|Zj rfl<|Zy ?_;exact aH 20 (k+1) ⟨by omega,SK ha hb h2 (aGI (aEU hc5))⟩ Yd ⟨Ya,aMN⟩ rfl rfl (aJU _) (aD)
   ·have h6:a0.counts=b0.counts:=y7 hl6 Yd h2;refine aR<|Zai<|Zai<|Zam<|Zag<|C.s1<|Zj rfl<|L.n5 ?_;exact Za [_] rfl ⟨rfl,aMN⟩ (fun D hD=>aKL Value.bool (decide_eq_true (⟨hw,ho,hp,h5,h6⟩)).symm)
theorem aFN(av bv:Value)(a0 b0:C7.bJ)(D:aA)(hx:lE D av a0)(hy:lE D bv b0):Fn Tryz.prog 29 #[av,bv] D (fun _ v=>v=.bool (IM a0 b0)):=by
 obtain⟨hv,mv,rfl,hh0,hm0⟩:=hx;obtain⟨gv,nv,rfl,gh0,gm0⟩:=hy;have hlen0:=hh0.len;have hlen1:=hm0.len;refine enter 66 Tryz.func29 rfl rfl rfl rfl fun h0=>C.s1<|Zu rfl (fun q1 E1 hE1 hB1=>Zu rfl (fun q2 E2 hE2 hB2=>Zj rfl<|L.n4<|Zk rfl Tf.f40_1 rfl<|Zd 1 rfl Tf.a3 rfl hB1 rfl<|Zk rfl Tf.f40_1 rfl<|Zd 1 rfl Tf.a3 rfl hB2 rfl<|Zaf rfl<|Zb rfl ?_))
 refine' iE [(false,6),(false,7),(false,8),(false,9),(false,10),(false,11),(false,12),(false,13)] [(false,14),(false,15),(false,16),(false,17),(false,18),(false,19),(false,20),(false,21),(false,22)] (s:=12) (p:=20) rfl rfl (fun hg1=>?_) (fun hg1=>?_) ?_;rotate_left
 ·refine Zl rfl Tf.f40_0 rfl<|Ze 0 rfl Tf.a37 rfl hB1 rfl<|aW rfl U37 rfl hh0 rfl rfl ⟨_,rfl,rfl⟩<|Zl rfl Tf.f40_0 rfl<|Ze 0 rfl Tf.a37 rfl hB2 rfl<|aW rfl U37 rfl gh0 rfl rfl ⟨_,rfl,rfl⟩<|eQ rfl rfl rfl rfl ⟨_,rfl,rfl⟩<|Zab rfl ?_;exact L.cu 7
 ·refine Zi rfl<|Zi rfl<|Zi rfl<|Zi rfl<|Zi rfl<|Zi rfl<|Zi rfl<|Zaa rfl ?_;exact L.cu 7
 refine Zb rfl ?_;refine' iE [(false,15),(false,16),(false,17),(false,18),(false,19),(false,20),(false,21),(false,22)] [] (s:=21) (p:=29) rfl rfl (fun hg2=>?_) (fun hg2=>?_) ?_;rotate_left
 ·refine Zl rfl Tf.f40_2 rfl<|Ze 2 rfl Tf.a38 rfl hB1 rfl<|aW rfl U38 rfl hm0 rfl rfl ⟨_,rfl,rfl⟩<|Zl rfl Tf.f40_2 rfl<|Ze 2 rfl Tf.a38 rfl hB2 rfl<|aW rfl U38 rfl gm0 rfl rfl ⟨_,rfl,rfl⟩<|eQ rfl rfl rfl rfl ⟨_,rfl,rfl⟩<|Zab rfl ?_;exact L.cu 7
 ·refine Zi rfl<|Zi rfl<|Zi rfl<|Zi rfl<|Zi rfl<|Zi rfl<|Zi rfl<|Zaa rfl ?_;exact L.cu 7
 refine L.n1<|aJ rfl (fun hc1=>?_) (fun hc1=>?_)
 ·refine C.s1<|Zj rfl<|L.n5<|Zah ?_;exact Za [_] rfl ⟨rfl,aMN⟩ (fun D hD=>aKL Value.bool (aFD hc1).symm)
 ·obtain⟨hw,hl5,hl6⟩:=aFL hc1;refine C.kn<|C.s2<|Zj rfl<|L.n1<|Zaj<|cN (γ:=Nat) (fun k=>(a0.chairs).length-k) (fun k=>k≤(a0.chairs).length∧(a0.chairs).take k=(b0.chairs).take k) (fun k=>[(5,.int .i64 (k:Int))]) [(4,_),(3,_),(2,_)] (fun k=>[E2,E1,D]) 0 Ye ⟨Ya,aMN⟩ C.rs (aD) ?_;rintro k ⟨h1,h2⟩;refine C.s2<|Zb rfl<|Zk rfl Tf.f40_0 rfl<|Zd 0 rfl Tf.a37 rfl hB1 rfl<|aW rfl U37 rfl hh0 rfl rfl trivial<|Zad rfl<|L.n1<|aF rfl (fun hc2=>?_) (fun hc2=>?_)
  ·have hk:k<(a0.chairs).length:=by omega
   obtain⟨a,ha⟩:∃a,(a0.chairs)[k]?= some a:=⟨_,aJS hk⟩
   obtain⟨b,hb⟩:∃b,(b0.chairs)[k]?= some b:=⟨_,aJS Yd⟩
   refine C.kn<|aCX<|Zaj<|aCX<|C.drawA [] 4 11 996 (fun _ _ _ h=>cZ (P:=Tryz.prog) (fn:=Tryz.f29) _ _ _ h)<|Zk rfl Tf.f40_0 rfl<|Zd 0 rfl Tf.a37 rfl hB1 rfl<|Zb rfl<|Zq rfl U37 Tf.s148 rfl hh0 rfl ha (fun b1 o1 cs1 hr1 hcl1 hA1=>?_);have e1:cs1=_:=hr1;subst e1;refine Zr rfl Tf.a148 rfl hA1 Tf.s148<|Zk rfl Tf.f40_0 rfl<|Zd 0 rfl Tf.a37 rfl hB2 rfl<|Zb rfl<|Zq rfl U37 Tf.s148 rfl gh0 rfl hb (fun b2 o2 cs2 hr2 hcl2 hA2=>?_);have e2:cs2=_:=hr2;subst e2;refine Zr rfl Tf.a148 rfl hA2 Tf.s148<|ZV (l:=[a.size,a.parts.a,a.parts.b,a.parts.c]) (m:=[b.size,b.parts.a,b.parts.b,b.parts.c]) rfl aGQ rfl rfl rfl rfl rfl trivial<|L.n1<|aJ rfl (fun hc3=>?_) (fun hc3=>?_)
   ·refine C.s1<|Zj rfl<|L.n5<|Zal<|Zah<|Zah<|Zal<|Zah ?_;exact Za [_] rfl ⟨rfl,aMN⟩ (fun D hD=>aKL Value.bool (aMM (fun e=>absurd (f5 ha hb (e.2.1)) (aEV (f:=aGS) hc3))).symm)
   ·refine aAX<|Zak<|Zag<|C.rg<|Zb rfl<|Zx rfl<|Zj rfl<|Zy ?_;exact aH 20 (k+1) ⟨by omega,SK ha hb h2 (aFT (aEU hc3))⟩ Yd ⟨Ya,aMN⟩ rfl rfl (aJU _) (aD)
  ·have h5:a0.chairs=b0.chairs:=y7 hl5 Yd h2;refine aR<|Zai<|Zai<|Zam<|Zag<|C.s2<|Zj rfl<|L.n1<|Zaj<|cN (γ:=Nat) (fun k=>(a0.claims).length-k) (fun k=>k≤(a0.claims).length∧(a0.claims).take k=(b0.claims).take k) (fun k=>[(6,.int .i64 (k:Int))]) [(4,_),(3,_),(2,_)] (fun k=>[E2,E1,D]) 0 Ye ⟨Ya,aMN⟩ C.rs (aD) ?_;rintro k ⟨h1,h2⟩;refine C.s2<|Zb rfl<|Zk rfl Tf.f40_2 rfl<|Zd 2 rfl Tf.a38 rfl hB1 rfl<|aW rfl U38 rfl hm0 rfl rfl trivial<|Zad rfl<|L.n1<|aF rfl (fun hc4=>?_) (fun hc4=>?_)
   ·have hk:k<(a0.claims).length:=by omega
    obtain⟨a,ha⟩:∃a,(a0.claims)[k]?= some a:=⟨_,aJS hk⟩
    obtain⟨b,hb⟩:∃b,(b0.claims)[k]?= some b:=⟨_,aJS Yd⟩
    refine C.kn<|aCX<|Zaj<|aCX<|C.drawA [] 4 11 996 (fun _ _ _ h=>cZ (P:=Tryz.prog) (fn:=Tryz.f29) _ _ _ h)<|Zk rfl Tf.f40_2 rfl<|Zd 2 rfl Tf.a38 rfl hB1 rfl<|Zb rfl<|Zq rfl U38 Tf.s69 rfl hm0 rfl ha (fun b3 o3 cs3 hr3 hcl3 hA3=>?_);have e3:cs3=_:=hr3;subst e3;refine Zr rfl Tf.a69 rfl hA3 Tf.s69<|Zk rfl Tf.f40_2 rfl<|Zd 2 rfl Tf.a38 rfl hB2 rfl<|Zb rfl<|Zq rfl U38 Tf.s69 rfl gm0 rfl hb (fun b4 o4 cs4 hr4 hcl4 hA4=>?_);have e4:cs4=_:=hr4;subst e4;refine Zr rfl Tf.a69 rfl hA4 Tf.s69<|ZV (l:=[a.1,a.2]) (m:=[b.1,b.2]) rfl aGV rfl rfl rfl rfl rfl trivial<|L.n1<|aJ rfl (fun hc5=>?_) (fun hc5=>?_)
    ·refine C.s1<|Zj rfl<|L.n5<|Zal<|Zah<|Zah<|Zal<|Zah ?_;exact Za [_] rfl ⟨rfl,aMN⟩ (fun D hD=>aKL Value.bool (aMM (fun e=>absurd (f5 ha hb (e.2.2)) (aEV (f:=aGT) hc5))).symm)
    ·refine aAX<|Zak<|Zag<|C.rg<|Zb rfl<|Zx rfl<|Zj rfl<|Zy ?_;exact aH 20 (k+1) ⟨by omega,SK ha hb h2 (aFS (aEU hc5))⟩ Yd ⟨Ya,aMN⟩ rfl rfl (aJU _) (aD)
   ·have h6:a0.claims=b0.claims:=y7 hl6 Yd h2;refine aR<|Zai<|Zai<|Zam<|Zag<|C.s1<|Zj rfl<|L.n5 ?_;exact Za [_] rfl ⟨rfl,aMN⟩ (fun D hD=>aKL Value.bool (decide_eq_true (⟨hw,h5,h6⟩)).symm)
theorem aET(av bv:Value)(a0 b0:aN)(D:aA)(hx:gW D av a0)(hy:gW D bv b0):Fn Tryz.prog 20 #[av,bv] D (fun _ v=>v=.bool (aEX a0 b0)):=by
 obtain⟨pv,cv,hv,lv,mv,bl,bc,yc,yq,rfl,hL⟩:=hx;obtain⟨pv2,cv2,hv2,lv2,mv2,bl2,bc2,yc2,yq2,rfl,hM⟩:=hy;unfold bS;refine enter 31 Tryz.func20 rfl rfl rfl rfl fun h0=>C.s1<|Zu rfl (fun q1 E1 hE1 hB1=>Zu rfl (fun q2 E2 hE2 hB2=>Zj rfl<|L.n3<|Zk rfl Tf.f42_0 rfl<|dO rfl (k:=0) Tf.a28 Tf.s28 rfl hB1 Yc rfl rfl aJN rfl trivial<|Zk rfl Tf.f42_0 rfl<|dO rfl (k:=0) Tf.a28 Tf.s28 rfl hB2 Yc rfl rfl aJN rfl trivial<|Zf rfl (fun D1 hD1=>aFU _ _ a0.row b0.row _ (hL.row.up (hD1 _ Ye)) (hM.row.up (hD1 _ Ye)))<|Zb rfl ?_))
 refine' cQ [(false,6),(false,7),(false,8),(false,9),(false,10),(false,11)] [(false,12),(false,13),(false,14),(false,15),(false,16),(false,17),(false,18),(false,19),(false,20),(false,21),(false,22),(false,23),(false,24),(false,25),(false,26)] (s:=10) (p:=16) rfl rfl (fun hg1=>?_) (fun hg1=>?_) ?_;rotate_left
 ·refine Zl rfl Tf.f42_1 rfl<|dO rfl (k:=4) Tf.a32 Tf.s32 rfl hB1 Yc rfl rfl aJN rfl ⟨_,rfl,rfl⟩<|Zl rfl Tf.f42_1 rfl<|dO rfl (k:=4) Tf.a32 Tf.s32 rfl hB2 Yc rfl rfl aJN rfl ⟨_,rfl,rfl⟩<|Zg rfl (fun D2 hD2=>aFJ _ _ a0.table b0.table _ (hL.table.up (hD2 _ Ye)) (hM.table.up (hD2 _ Ye)))<|Zaa rfl ?_;exact L.cu 5
 ·refine Zi rfl<|Zi rfl<|Zi rfl<|Zi rfl<|Zi rfl<|Zab rfl ?_;exact L.cu 5
 refine Zb rfl ?_;refine' cQ [(false,13),(false,14),(false,15),(false,16),(false,17),(false,18)] [(false,19),(false,20),(false,21),(false,22),(false,23),(false,24),(false,25),(false,26)] (s:=17) (p:=23) rfl rfl (fun hg2=>?_) (fun hg2=>?_) ?_;rotate_left
 ·refine Zl rfl Tf.f42_2 rfl<|dO rfl (k:=9) Tf.a36 Tf.s36 rfl hB1 Yc rfl rfl aJN rfl ⟨_,rfl,rfl⟩<|Zl rfl Tf.f42_2 rfl<|dO rfl (k:=9) Tf.a36 Tf.s36 rfl hB2 Yc rfl rfl aJN rfl ⟨_,rfl,rfl⟩<|Zg rfl (fun D3 hD3=>aFM _ _ a0.book b0.book _ (hL.book.up (hD3 _ Ye)) (hM.book.up (hD3 _ Ye)))<|Zaa rfl ?_;exact L.cu 5
 ·refine Zi rfl<|Zi rfl<|Zi rfl<|Zi rfl<|Zi rfl<|Zab rfl ?_;exact L.cu 5
 refine Zb rfl ?_;refine' cQ [(false,20),(false,21),(false,22),(false,23),(false,24),(false,25)] [(false,26)] (s:=24) (p:=30) rfl rfl (fun hg3=>?_) (fun hg3=>?_) ?_;rotate_left
 ·refine Zl rfl Tf.f42_3 rfl<|dO rfl (k:=14) Tf.a40 Tf.s40 rfl hB1 Yc rfl rfl aJN rfl ⟨_,rfl,rfl⟩<|Zl rfl Tf.f42_3 rfl<|dO rfl (k:=14) Tf.a40 Tf.s40 rfl hB2 Yc rfl rfl aJN rfl ⟨_,rfl,rfl⟩<|Zg rfl (fun D4 hD4=>aFN _ _ a0.yard b0.yard _ (hL.yard.up (hD4 _ Ye)) (hM.yard.up (hD4 _ Ye)))<|Zaa rfl ?_;exact L.cu 5
 ·refine Zi rfl<|Zi rfl<|Zi rfl<|Zi rfl<|Zi rfl<|Zab rfl ?_;exact L.cu 5
 refine Zj rfl<|L.n5 ?_;exact Za [_] rfl ⟨rfl,aMN⟩ (fun D hD=>rfl)
end L12
end Go.Fs
namespace Go.Fs
open Go.Proofs
namespace L12
open C12
theorem aFW(ls:List ByteArray):(mM ls).2.length=ls.length:=by
 have key:∀(ls:List ByteArray) (p:aN×List Int),(ls.foldl (fun p l=>((uA p.1 l).1,p.2++[(uA p.1 l).2])) p).2.length=p.2.length+ls.length:=by
  intro ls;induction ls with
  |nil=>intro p;simp
  |cons l ls ih=>intro p;rw[aME,ih];simp;omega
 have:=key ls (yA,[]);simpa [mM]using this
def DB(ls:List ByteArray)(es:List Int)(k:Nat):List ByteArray:=(((ls.zip es).take k).filter (fun p=>p.2==0)).map (·.1)
def K6(ls:List ByteArray):List ByteArray:=DB ls (mM ls).2 ls.length
theorem aGF{ls:List ByteArray}{es:List Int}{k:Nat}{x:ByteArray}{e:Int}(hx:ls[k]?= some x)(he:es[k]?= some e):(ls.zip es)[k]?= some (x,e):=by
 rw[List.getElem?_zip_eq_some];exact⟨hx,he⟩
theorem aGB{ls:List ByteArray}{es:List Int}{k:Nat}{x:ByteArray}{e:Int}(hx:ls[k]?= some x)(he:es[k]?= some e)(hz:e=0):DB ls es (k+1)=DB ls es k++[x]:=by
 unfold DB;rw[aKK,aGF hx he,aHJ,aKN];simp[hz]
theorem aGM{ls:List ByteArray}{es:List Int}{k:Nat}{x:ByteArray}{e:Int}(hx:ls[k]?= some x)(he:es[k]?= some e)(hz:e≠0):DB ls es (k+1)=DB ls es k:=by
 unfold DB;rw[aKK,aGF hx he,aHJ,aKN];simp[hz]
theorem aEN(ls:List ByteArray)(es:List Int)(k:Nat):(DB ls es k).length≤ls.length:=by
 unfold DB;rw[aLT];refine aHM (aHR _ _) ?_;rw[aHC,List.length_zip];omega
def oU(s:aN)(ls:List ByteArray):aN:=ls.foldl (fun s l=>(uA s l).1) s
def aEK(s:aN):List ByteArray→List Int
 | []=>[]
 |l::ls=>(uA s l).2::aEK (uA s l).1 ls
def aEL(s:aN):List ByteArray→List ByteArray
 | []=>[]
 |l::ls=>if(uA s l).2=0 then l::aEL (uA s l).1 ls else aEL (uA s l).1 ls
theorem aEF(s:aN)(l:ByteArray)(ls:List ByteArray):oU s (l::ls)=oU (uA s l).1 ls:=rfl
theorem aGH(ms:List ByteArray):∀(ls:List ByteArray) (s:aN),aEK s (ls++ms)=aEK s ls++aEK (oU s ls) ms
 | [],_=>rfl
 |l::ls,s=>by
  show(uA s l).2::aEK (uA s l).1 (ls++ms)=(uA s l).2::(aEK (uA s l).1 ls++aEK (oU (uA s l).1 ls) ms);rw[aGH ms ls]
theorem aEJ(ls:List ByteArray):mM ls=(oU yA ls,aEK yA ls):=by
 have key:∀(ls:List ByteArray) (s:aN) (es:List Int),ls.foldl (fun p l=>((uA p.1 l).1,p.2++[(uA p.1 l).2])) (s,es)=(oU s ls,es++aEK s ls):=by
  intro ls;induction ls with
  |nil=>intro s es;simp[oU,aEK]
  |cons l ls ih=>intro s es;rw[aME,ih];simp[aEF,aEK]
 have:=key ls yA [];simpa [mM]using this
theorem aGC{s:aN}{l:ByteArray}(h:(uA s l).2≠0):(uA s l).1=s:=by
 unfold uA at h ⊢
 split
 ·rfl
 ·rename_i act n hp;rw[hp]at h;simp only at h;split
  ·rfl
  ·rename_i s2 ha;rw[ha]at h;simp only at h;split at h
   ·exact absurd rfl h
   ·rename_i hs;rw[aKO hs]
theorem aFF:∀(ls:List ByteArray) (s:aN),DB ls (aEK s ls) ls.length=aEL s ls
 | [],_=>rfl
 |l::ls,s=>by
  have ih:=aFF ls (uA s l).1;unfold DB at ih ⊢
  show(((((l,(uA s l).2)::ls.zip (aEK (uA s l).1 ls)).take (ls.length+1)).filter _).map _)=_;rw[List.take_succ_cons,aID,aEL];by_cases h:(uA s l).2=0
  ·rw[aKR h,aKR Yam,aKY,ih]
  ·rw[aKO h,aKO Yam,ih]
theorem AU(ls:List ByteArray):K6 ls=aEL yA ls:=by
 unfold K6;rw[aEJ];exact aFF ls yA
theorem aEH:∀(ls:List ByteArray) (s:aN),oU s (aEL s ls)=oU s ls
 | [],_=>rfl
 |l::ls,s=>by
  rw[aEL];by_cases h:(uA s l).2=0
  ·rw[aKR h,aEF,aEF,aEH ls]
  ·rw[aKO h,aEF];have:=aEH ls (uA s l).1;rw[aGC h]at this ⊢;exact this
theorem aEM:∀(ls:List ByteArray) (s:aN),aEL s (aEL s ls)=aEL s ls
 | [],_=>rfl
 |l::ls,s=>by
  rw[aEL];by_cases h:(uA s l).2=0
  ·rw[aKR h,aEL,aKR h,aEM ls]
  ·rw[aKO h];have:=aEM ls (uA s l).1;rw[aGC h]at this ⊢;exact this
theorem aFX(ls:List ByteArray):(mM (K6 ls)).1=(mM ls).1:=by
 rw[AU,aEJ,aEJ];exact aEH ls yA
theorem aGJ(ls:List ByteArray):K6 (K6 ls)=K6 ls:=by
 rw[AU ls,AU];exact aEM ls yA
theorem aFR(ls:List ByteArray):(K6 ls).length≤ls.length∧∀x∈K6 ls,x∈ls:=by
 refine⟨aEN ls _ _,fun x hx=>?_⟩;obtain⟨p,hp,rfl⟩:=aJX.1 hx;exact(List.of_mem_zip (aJP (List.mem_filter.1 hp).1)).1
theorem aFI{ls:List ByteArray}(h1:ls.length≤40)(h2:∀x∈ls,x.size≤50):dW ls=0:=MS h1 h2
theorem aFZ{ls:List ByteArray}(hf:dW ls=0):dW (K6 ls)=0:=
 aFI (aHM (aFR ls).1 (tH hf)) fun x hx=>F0 hf x ((aFR ls).2 x hx)
theorem XC(lv:Value)(ls:List ByteArray)(D:aA)(hS:Sl D RS 1 lv ls)(hV:kG D)(hf:dW ls=0):Fn Tryz.prog 18 #[lv] D (fun D' v=>∃v1 v2,v=.tuple #[v1,v2,.bool true]∧Sl D' RS 1 v1 (K6 ls)∧gW D' v2 (mM ls).1):=by
 refine enter 47 Tryz.func18 rfl rfl rfl rfl fun h0=>C.s1<|Zj rfl<|Zv rfl Tf.z42 rfl (fun q1=>Zj rfl<|L.n3<|Zb rfl<|bU rfl rfl rfl (fun D1 hD1=>IT _ ls _ (hS.up RS.up (hD1 _ Ye)) (by have:=tH hf;omega)) rfl aMN (fun v1 D1 hD1 hp1=>?_))
 have hq:=hp1;refine bU rfl rfl rfl (fun D2 hD2=>xD _ ls _ (hq.up RS.up (hD2 _ Ye)) (hV.up (hD2 _ Ye))) rfl aMN (fun v2 D2 hD2 hp2=>?_);obtain⟨w1,w2,rfl,⟨pv,cv,hv,lv,mv,bl,bc,yc,yq,rfl,hL⟩,hes⟩:=hp2;rw[show(aL ls).2.1=(mM ls).2 by rw[kF hf]]at hes;unfold bS;have hle:(mM ls).2.length=ls.length:=aFW ls;have h40:=tH hf;have hcd:(aL ls).2.2=0:=by rw[kF hf]
 refine Zb rfl<|Zz rfl<|Zz rfl<|Zz rfl<|Zv rfl Tf.z42 rfl (fun q2=>bH rfl rfl rfl rfl Tf.s42 Yb Yb (bO.head) (gU hL) trivial<|Zj rfl<|Zj rfl<|L.n4<|Zb rfl<|Zaf rfl<|Zb rfl ?_);refine' iE [(false,3),(false,4),(false,5),(false,6),(false,7),(false,8)] [] (s:=19) (p:=25) rfl rfl (fun hg1=>?_) (fun hg1=>?_) ?_;rotate_left
 ·refine Zc rfl<|aW rfl U43 rfl hes rfl rfl ⟨_,rfl,rfl⟩<|Zc rfl<|aW rfl U22 rfl hS rfl rfl ⟨_,rfl,rfl⟩<|eQ rfl rfl rfl rfl ⟨_,rfl,rfl⟩<|Zab rfl ?_;exact L.cu 5
 ·refine Zi rfl<|Zi rfl<|Zi rfl<|Zi rfl<|Zi rfl<|Zaa rfl ?_;exact L.cu 5
 refine L.n1<|aJ rfl (fun hc1=>?_) (fun hc1=>?_)
 ·rw[hcd,hle]at hc1;simp at hc1
 ·refine C.kn<|C.s1<|Zj rfl<|L.n4<|Zj rfl<|L.n1<|Zaj<|cE (γ:=Nat×Value×aC) (fun g=>ls.length-g.1) (fun g=>g.1≤ls.length∧bR 9 1 g.2.1 (DB ls (mM ls).2 g.1).length ((DB ls (mM ls).2 g.1).map Value.string) g.2.2) (fun g=>[(9,.int .i64 (g.1:Int)),(8,g.2.1)]) [(6,_),(5,_),(4,_),(3,_),(2,_),(0,_)] (fun g=>g.2.2++[(q2,.cells (bS (aL ls).1 pv cv hv lv mv bl bc yc yq).toArray 42 (0,0)),(q1,.cells [.slice none 0 0,.slice none 0 0,.int .i64 0,.int .i64 0,.int .i64 0,.slice none 0 0,.int .i64 0,.slice none 0 0,.slice none 0 0,.int .i64 0,.int .i64 0,.int .i64 0,.slice none 0 0,.slice none 0 0,.slice none 0 0,.int .i64 0,.slice none 0 0].toArray 42 (0,0))]) (fun g=>[D2,D1,D]) (0,.slice none 0 0,[]) ⟨by simp,by simpa [DB]using bR.nil⟩ ⟨Ya,Ya,aMN⟩ C.rs (aJU _) (aD) ?_;rintro⟨k,v,ν⟩ ⟨h1,ha⟩;simp only at h1 ha;have hal:=aEN ls (mM ls).2 k;refine C.s2<|Zb rfl<|Zb rfl<|aW rfl U43 rfl hes rfl rfl trivial<|Zad rfl<|L.n1<|aF rfl (fun hc2=>?_) (fun hc2=>?_)
  ·have hlt:k<ls.length:=by omega
   obtain⟨x,hx⟩:∃x,ls[k]?= some x:=⟨_,aJS hlt⟩
   obtain⟨e,he⟩:∃e,(mM ls).2[k]?= some e:=⟨_,aJS Yd⟩
   refine C.kn<|aCX<|Zaj<|C.s1<|Zb rfl<|Zb rfl<|Zq rfl U43 Tf.s44 rfl hes rfl he (fun b1 o1 cs1 hr1 hcl1 hA1=>?_);obtain rfl:cs1=[.int .i64 _]:=hr1;refine Zd 0 rfl Tf.a44 rfl hA1 rfl<|dH rfl rfl rfl rfl trivial<|L.n1<|aF rfl (fun hc3=>?_) (fun hc3=>?_)
   ·have hz:e=0:=by omega
    refine C.rg<|Zb rfl<|Zb rfl<|Zb rfl<|Zq rfl U22 Tf.s9 rfl hS rfl hx (fun b2 o2 cs2 hr2 hcl2 hA2=>?_);obtain rfl:cs2=[.string _]:=hr2;refine Zd 0 rfl Tf.a9 rfl hA2 rfl<|Zp rfl U22 Tf.s9 Tf.z9 rfl rfl rfl rfl (.cons rfl rfl .nil) (fun b901 D901 hD901 hA901=>aX (A:=[]) (ν:=ν) (B:=[(_,_),(_,_)]) rfl U22 rfl rfl Tf.s9 Tf.z9 rfl Tf.i9 rfl rfl rfl ha (jN.lit Yk) Ye rfl (by rw[aLT,aHG]) Yi Yd (aKP rfl) rfl aMN (fun v1 ν1 ha1=>?_));have ha2:bR 9 1 v1 (DB ls (mM ls).2 (k+1)).length ((DB ls (mM ls).2 (k+1)).map Value.string) ν1:=by rw[aGB hx he hz];simpa using ha1
    refine Zj rfl<|Zy<|Zak<|Zag<|C.rg<|Zb rfl<|Zx rfl<|Zj rfl<|Zy ?_;exact aH 22 (k+1,v1,ν1) ⟨by simp only;omega,ha2⟩ Yl ⟨Ya,Ya,aMN⟩ rfl rfl (aJU _) (fun D h=>⟨D,aJT _ (h),Le.refl D⟩)
   ·have hz:e≠0:=by omega
    have ha2:bR 9 1 v (DB ls (mM ls).2 (k+1)).length ((DB ls (mM ls).2 (k+1)).map Value.string) ν:=by rw[aGM hx he hz];exact ha
    refine aAX<|Zak<|Zag<|C.rg<|Zb rfl<|Zx rfl<|Zj rfl<|Zy ?_;exact aH 14 (k+1,v,ν) ⟨by simp only;omega,ha2⟩ Yl ⟨Ya,Ya,aMN⟩ rfl rfl (aJU _) (aD)
  ·refine aR<|Zai<|Zai<|Zam<|Zag<|aCX<|C.drawA [] 1 5 6 (fun _ _ _ h=>cZ (P:=Tryz.prog) (fn:=Tryz.f18) _ _ _ h)<|Zb rfl<|Zo rfl Tf.a42 rfl (aJW _ (List.Mem.head _)) Tf.s42<|Zj rfl<|bH rfl rfl rfl rfl Tf.s42 Yb Yb (.app (.tail (bO.head))) (gU hL) trivial<|Zj rfl ?_;refine L.n5 ?_;obtain rfl:k=ls.length:=by omega
   refine eO (A:=[]) (B:=[(_,_),(_,_)]) ha rfl (fun D9 hD9 hF9=>?_);exact Za [_,_,_] rfl ⟨rfl,⟨_,_,_,rfl,aJT _ (aJB _),aKB ⟨Tf.a42,Tf.s42,rfl⟩⟩,rfl,aMN⟩ (fun D hD=>⟨_,_,rfl,(hF9.strs (l:=K6 ls) rfl (by have:=aEN ls (mM ls).2 ls.length;omega)).up RS.up (hD _ Ye),⟨pv,cv,hv,lv,mv,bl,bc,yc,yq,by rw[kF hf]<;>rfl,by have:=hL.up (hD _ Ye);rw[kF hf]at this;exact this⟩⟩)
theorem aEO(lv:Value)(ls:List ByteArray)(D:aA)(hS:Sl D RS 1 lv ls)(hV:kG D):Fn Tryz.prog 4 #[lv] D (fun _ v=>v=.bool true):=by
 refine enter 59 Tryz.func4 rfl rfl rfl rfl fun h0=>C.s1<|Zj rfl<|L.n4<|Zb rfl<|Zf rfl (fun D1 hD1=>EV _ ls _ (hS.up RS.up (hD1 _ Ye)))<|Zae rfl<|L.n1<|aJ rfl (fun hc1=>?_) (fun hc1=>?_)
 ·refine C.s1<|Zf rfl (fun D2 hD2=>y2 _ (hV.up (hD2 _ Ye)))<|Zj rfl<|L.n5<|Zah ?_;exact Za [_] rfl ⟨rfl,aMN⟩ (fun D hD=>rfl)
 ·have hsh:g9 ls=true:=by simpa using hc1
  have hf0:=p7 hsh;refine C.kn<|C.s1<|Zb rfl<|bU rfl rfl rfl (fun D3 hD3=>XC _ ls _ (hS.up RS.up (hD3 _ Ye)) (hV.up (hD3 _ Ye)) hf0) rfl aMN (fun v3 D3 hD3 hp3=>?_);obtain⟨w1,z1,rfl,hA10,⟨pv1,cv1,hv1,lv1,mv1,bl1,bc1,yc1,yq1,rfl,hL1⟩⟩:=hp3;unfold bS;refine Zb rfl<|Zz rfl<|Zz rfl<|Zz rfl<|Zv rfl Tf.z42 rfl (fun q1=>Zj rfl<|bH rfl rfl rfl rfl Tf.s42 Yb Yb (bO.head) (gU hL1) trivial<|Zj rfl<|L.n3<|Zb rfl<|bU rfl rfl rfl (fun D4 hD4=>XC _ (K6 ls) _ (hA10.up RS.up (hD4 _ Ye)) (hV.up (hD4 _ Ye)) (aFZ hf0)) rfl aMN (fun v4 D4 hD4 hp4=>?_));obtain⟨w2,z2,rfl,hA20,⟨pv2,cv2,hv2,lv2,mv2,bl2,bc2,yc2,yq2,rfl,hL2⟩⟩:=hp4;unfold bS;refine Zb rfl<|Zz rfl<|Zz rfl<|Zz rfl<|Zv rfl Tf.z42 rfl (fun q2=>Zj rfl<|bH rfl rfl rfl rfl Tf.s42 Yb Yb (bO.head) (gU hL2) trivial<|Zj rfl<|L.n3<|Zb rfl<|bU rfl rfl rfl (fun D5 hD5=>XC _ ls _ (hS.up RS.up (hD5 _ Ye)) (hV.up (hD5 _ Ye)) hf0) rfl aMN (fun v5 D5 hD5 hp5=>?_));obtain⟨w3,z3,rfl,hA30,⟨pv3,cv3,hv3,lv3,mv3,bl3,bc3,yc3,yq3,rfl,hL3⟩⟩:=hp5;unfold bS;refine Zb rfl<|Zz rfl<|Zz rfl<|Zz rfl<|Zv rfl Tf.z42 rfl (fun q3=>Zj rfl<|bH rfl rfl rfl rfl Tf.s42 Yb Yb (bO.head) (gU hL3) trivial<|Zj rfl<|L.n3<|Zb rfl<|Zb rfl ?_);refine' cQ [(false,2),(false,3)] [(false,4),(false,5),(false,6),(false,7),(false,8),(false,9),(false,10),(false,11),(false,12),(false,13),(false,14),(false,15),(false,16),(false,17),(false,18),(false,19),(false,20),(false,21),(false,22),(false,23),(false,24),(false,25)] (s:=35) (p:=37) rfl rfl (fun hg1=>?_) (fun hg1=>?_) ?_;rotate_left
  ·refine Zc rfl<|Zaa rfl ?_;exact L.cu 1
  ·refine Zi rfl<|Zab rfl ?_;exact L.cu 1
  refine Zb rfl ?_;refine' cQ [(false,5),(false,6)] [(false,7),(false,8),(false,9),(false,10),(false,11),(false,12),(false,13),(false,14),(false,15),(false,16),(false,17),(false,18),(false,19),(false,20),(false,21),(false,22),(false,23),(false,24),(false,25)] (s:=38) (p:=40) rfl rfl (fun hg2=>?_) (fun hg2=>?_) ?_;rotate_left
  ·refine Zc rfl<|Zaa rfl ?_;exact L.cu 1
  ·refine Zi rfl<|Zab rfl ?_;exact L.cu 1
  refine Zb rfl ?_;refine' cQ [(false,8),(false,9),(false,10),(false,11)] [(false,12),(false,13),(false,14),(false,15),(false,16),(false,17),(false,18),(false,19),(false,20),(false,21),(false,22),(false,23),(false,24),(false,25)] (s:=41) (p:=45) rfl rfl (fun hg3=>?_) (fun hg3=>?_) ?_;rotate_left
  ·refine Zc rfl<|Zc rfl<|Zg rfl (fun D6 hD6=>aFQ _ _ (K6 ls) (K6 (K6 ls)) _ (hA10.up RS.up (hD6 _ Ye)) (hA20.up RS.up (hD6 _ Ye)))<|Zaa rfl ?_;exact L.cu 3
  ·refine Zi rfl<|Zi rfl<|Zi rfl<|Zab rfl ?_;exact L.cu 3
  refine Zb rfl ?_;refine' cQ [(false,13),(false,14),(false,15),(false,16)] [(false,17),(false,18),(false,19),(false,20),(false,21),(false,22),(false,23),(false,24),(false,25)] (s:=46) (p:=50) rfl rfl (fun hg4=>?_) (fun hg4=>?_) ?_;rotate_left
  ·refine aY rfl Tf.a42 rfl (aJT _ (aJT _ (aJB _))) Tf.s42 aJN rfl ⟨_,rfl,rfl⟩<|aY rfl Tf.a42 rfl (List.Mem.tail _ (List.Mem.head _)) Tf.s42 aJN rfl ⟨_,rfl,rfl⟩<|Zg rfl (fun D7 hD7=>aET _ _ (mM ls).1 (mM (K6 ls)).1 _ ⟨pv1,cv1,hv1,lv1,mv1,bl1,bc1,yc1,yq1,rfl,hL1.up (hD7 _ Ye)⟩ ⟨pv2,cv2,hv2,lv2,mv2,bl2,bc2,yc2,yq2,rfl,hL2.up (hD7 _ Ye)⟩)<|Zaa rfl ?_;exact L.cu 3
  ·refine Zi rfl<|Zi rfl<|Zi rfl<|Zab rfl ?_;exact L.cu 3
  refine Zb rfl ?_;refine' cQ [(false,18),(false,19),(false,20),(false,21)] [(false,22),(false,23),(false,24),(false,25)] (s:=51) (p:=55) rfl rfl (fun hg5=>?_) (fun hg5=>?_) ?_;rotate_left
  ·refine aY rfl Tf.a42 rfl (aJT _ (aJT _ (aJB _))) Tf.s42 aJN rfl ⟨_,rfl,rfl⟩<|aY rfl Tf.a42 rfl (List.Mem.head _) Tf.s42 aJN rfl ⟨_,rfl,rfl⟩<|Zg rfl (fun D8 hD8=>aET _ _ (mM ls).1 (mM ls).1 _ ⟨pv1,cv1,hv1,lv1,mv1,bl1,bc1,yc1,yq1,rfl,hL1.up (hD8 _ Ye)⟩ ⟨pv3,cv3,hv3,lv3,mv3,bl3,bc3,yc3,yq3,rfl,hL3.up (hD8 _ Ye)⟩)<|Zaa rfl ?_;exact L.cu 3
  ·refine Zi rfl<|Zi rfl<|Zi rfl<|Zab rfl ?_;exact L.cu 3
  refine Zb rfl ?_;refine' cQ [(false,23),(false,24)] [(false,25)] (s:=56) (p:=58) rfl rfl (fun hg6=>?_) (fun hg6=>?_) ?_;rotate_left
  ·refine Zg rfl (fun D9 hD9=>y2 _ (hV.up (hD9 _ Ye)))<|Zaa rfl ?_;exact L.cu 1
  ·refine Zi rfl<|Zab rfl ?_;exact L.cu 1
  refine Zj rfl<|L.n5 ?_;exact Za [_] rfl ⟨rfl,aMN⟩ (fun D hD=>by rw[aGJ,aFX];simp[aFG];rfl)
end L12
end Go.Fs
