/- Of the proof of TopEntered: Yy, Base, State. -/
import Derived.KernelRfl
import Derived.OrdersIn
import Derived.RangeFuncIn
import Derived.WalkKit
namespace Go
theorem Ya{p:Prop}(h:p:=by first|rfl|(simp only[aQ, *];done)|(simp only[aQ, *];rfl)|(simp only[aQ, *];omega)):p:=h
theorem Yb{p:Prop}(h:p:=by first|rfl|(show some (Value.int _ _)=some (Value.int _ _);congr 2;omega)):p:=h
theorem Yc{p:Prop}(h:p:=by first|simp|assumption):p:=h
theorem Yd{p:Prop}(h:p:=by omega):p:=h
theorem Ye{p:Prop}(h:p:=by simp):p:=h
theorem Yf{p:Prop}(h:p:=by simp only[qD];omega):p:=h
theorem Yg{p:Prop}(h:p:=by kernel_rfl):p:=h
theorem Yh{p:Prop}(h:p:=by intro D0 hD0;simp only[List.mem_cons,List.not_mem_nil,or_false]at hD0;rcases hD0 with rfl|rfl|rfl|rfl|rfl|rfl|rfl<;>exact⟨_,by simp,Le.refl _⟩):p:=h
theorem Yi{p:Prop}(h:p:=by first|exact fF _|simp[cell1]):p:=h
theorem Yj{p:Prop}(h:p:=by intro n hn;simp only[List.mem_cons,List.not_mem_nil,or_false]at hn;rcases hn with rfl|rfl<;>omega):p:=h
theorem Yk{p:Prop}(h:p:=by first|assumption|simp):p:=h
theorem Yl{p:Prop}(h:p:=by assumption):p:=h
theorem Ym{p:Prop}(h:p:=by simp[cell1]):p:=h
theorem Yn{p:Prop}(h:p:=by first|exact Or.inl rfl|exact Or.inr (fun p hp=>jD.in_ (hnu p hp))):p:=h
theorem Yo{p:Prop}(h:p:=by simp only;omega):p:=h
theorem Yp{p:Prop}(h:p:=by first|exact Or.inl rfl|exact Or.inr (fun p hp=>by cases hp)):p:=h
theorem Yq{p:Prop}(h:p:=by rw[List.length_map,Nat.mul_one]):p:=h
theorem Yr{p:Prop}(h:p:=by rw[←hHas.keys];exact List.mem_map.2 ⟨p,hp,rfl⟩):p:=h
theorem Ys{p:Prop}(h:p:=by first|exact Tf.s163|(simp only[*];exact Tf.s163)):p:=h
theorem Yt{p:Prop}(h:p:=by first|exact Tf.s177|(simp only[aQ, *];exact Tf.s177)):p:=h
theorem Yu{p:Prop}(h:p:=by first|exact Tf.s146|(simp only[aQ, *];exact Tf.s146)):p:=h
theorem Yw{p:Prop}(h:p:=by first|rfl|(simp only[*];done)|(simp only[aQ, *];rfl)|(simp only[aQ, *];omega)):p:=h
theorem Yx{p:Prop}(h:p:=by rwa [List.take_of_length_le Yd]at h2):p:=h
theorem Yy{p:Prop}(h:p:=by rw[List.length_append,hl1,←Nat.add_mul];exact Nat.le_trans (Nat.mul_le_mul_right _ Yd) (Nat.le_add_right _ _)):p:=h
theorem Yz{p:Prop}(h:p:=by decide):p:=h
theorem Yaa{p:Prop}(h:p:=by simp;omega):p:=h
theorem Yab{p:Prop}(h:p:=by simpa using hl):p:=h
end Go
namespace Go.Fs

def FW(r:Option Nat):Fence:={fn:=fun _=>True,depth:=none,alive:=false,round:=r}
theorem wA(r:Option Nat)(n:Nat):(FW r).room n:=fun _ h=>by simp[FW]at h
theorem DL(r:Option Nat)(P:Program)(m:Machine):m.fenced P (FW r):=
 fun _ _=>⟨fun h=>by simp[FW]at h,Or.inl trivial,fun _ _=>trivial,fun _ h=>by simp[FW]at h⟩
theorem yB{r:Option Nat}{P:Program}{m m':Machine}:StepsIn (Machine.fenced P (FW r)) P m m' ↔ Steps P m m':=
 ⟨StepsIn.steps,fun h=>(StepsIn.of_steps h).mono fun m _=>DL r P m⟩
theorem oH{r:Option Nat}{P:Program}{m m':Machine}{e:Ending}:ComesIn (Machine.fenced P (FW r)) P m m' e ↔ Comes P m m' e:=by
 cases e with
 |returned v=>exact yB
 |panicked chain=>exact yB
 |outgrown=>exact Iff.rfl
theorem cQ{r:Option Nat}{n:Nat}{P:Program}{f:FuncId}{args:Array Value}{w:World}{R:Ending→World→Prop}:
    CallsIn (FW r) n P f args w R ↔ Calls P f args w R:=
  ⟨fun h cs=>let ⟨e,w',fr,r,s,x⟩:=h.2 cs (wA _ _);⟨e,w',fr,r,oH.1 s,x⟩,
   fun h=>⟨trivial,fun cs _=>let ⟨e,w',fr,r,s,x⟩:=h cs;⟨e,w',fr,r,oH.2 s,x⟩⟩⟩
def KY(P:Program)(l:Nat)(f:FuncId)(tmps:Array Value)(assign body:Code)(w:World)(R:Ending→World→Prop):Prop:=
 RoundIn (FW none) 0 P l f tmps assign body w R
theorem xP{r:Option Nat}{n:Nat}{P:Program}{l:Nat}{f:FuncId}{tmps:Array Value}{assign body:Code}{w:World}{R:Ending→World→Prop}
  (h:KY P l f tmps assign body w R):RoundIn (FW r) n P l f tmps assign body w R:=
 ⟨trivial,fun c cs _=>let ⟨e,w',q,s⟩:=h.2 c cs (wA _ _);⟨e,w',q,oH.2 (oH.1 s)⟩⟩

def jP{γb:Type}[Membership Nat γb](bad:γb)(w w':World):Prop:=w.heap.size≤w'.heap.size∧∀b,b<w.heap.size→b∉bad→w'.heap[b]?= w.heap[b]?
structure jD where
 l:List Nat
instance:Membership Nat jD:=⟨fun s b=>b∉s.l⟩
theorem jD.out{l:List Nat}{b:Nat}(h:b∈l):b∉(jD.mk l):=fun hn=>hn h
theorem jD.in_{l:List Nat}{b:Nat}(h:b∉l):b∈(jD.mk l):=h
theorem jP.refl{γb:Type}[Membership Nat γb](bad:γb)(w:World):jP bad w w:=⟨Nat.le_refl _,fun _ _ _=>rfl⟩
theorem jP.trans{γb:Type}[Membership Nat γb]{bad:γb}{w w1 w2:World}(h:jP bad w w1)(h':jP bad w1 w2):jP bad w w2:=
 ⟨Nat.le_trans h.1 h'.1,fun b hb hn=>(h'.2 b (Nat.lt_of_lt_of_le hb h.1) hn).trans (h.2 b hb hn)⟩

def fU:Op→Bool
 |.move _|.assign _|.pick _ _ _|.load _ _|.nilCheck _|.binOp _ _ _ _ _|.unOp _ _ _|.convert _ _ _|.fieldAddr _ _ _|.field _ _ _
 |.indexAddr _ _ _|.index _ _ _|.extract _ _|.slice _ _ _ _ _|.build _ _|.makeFunc _ _ _|.makeInterface _ _|.lookup _ _ _ _|.typeAssert _ _ _ _=>true
 |.call c=>match c.callee with|.builtin .len|.builtin .cap|.builtin .max|.builtin .min=>true|_=>false
 |_=>false
def jA:Op→Bool
 |.defer _=>true
 |.select _ _=>true
 |_=>false
def Yv{γb:Type}[Membership Nat γb](bad:γb)(P:Program)(all:Array Oper)(o:Oper)(a:Act)(w:World)(v:Value):Prop:=
 (Region.wanted o (yielded all a.tmps)=true∧∀w',jP bad w w'→(execOp a.eval o).run P w'=.ok (.value v) w')∨
 (Region.wanted o (yielded all a.tmps)=false∧v=undef)
def rL(r:Option Nat){γb:Type}[Membership Nat γb](bad:γb)(P:Program)(all:Array Oper)(Q:Exit→Act→World→Prop)(o:Oper)(fl:Bool)(K:Act→World→Prop)(a:Act)(w:World):Prop:=
 if Region.wanted o (yielded all a.tmps)=true then o.wpIn (FW r) 0 P a w (fun a' w'=>(fl=true→jP bad w w')∧K a' w') Q
 else K (a.put o.dst undef) w
def lI(r:Option Nat){γb:Type}[Membership Nat γb](bad:γb)(P:Program)(all:Array Oper)(K:Act→World→Prop)(Q:Exit→Act→World→Prop):List (Bool×Oper)→Act→World→Prop
 | [],a,w=>K a w
 |(fl,o)::os,a,w=>
  if fU o.op=true then ∃v,Yv bad P all o a w v∧lI r bad P all K Q os (a.put o.dst v) w
  else rL r bad P all Q o fl (lI r bad P all K Q os) a w
variable{r:Option Nat}{γb:Type}[Membership Nat γb]{bad:γb}{P:Program}{all:Array Oper}{Q:Exit→Act→World→Prop}
theorem rY{o:Oper}(h:jA o.op=false)(ro:Option Nat)(ρ:Operand→Value):Oper.semAt ro ρ o=execOp ρ o:=
 Oper.semAt_eq ro ρ o fun c hc=>by rw[hc]at h;cases h
theorem rH{o:Op}(h:fU o=true):jA o=false:=by
 cases o<;>first|rfl|(cases h)
theorem Yv.run{o:Oper}{a:Act}{w:World}{v:Value}(h:Yv bad P all o a w v)(hk:fU o.op=true){K:Act→World→Prop}{i:Nat}(hi:all[i]?= some o){n:Nat}
  (hK:K (a.put o.dst v) w):wpOpIn (FW r) n P all Q i K a w:=by
 unfold wpOpIn;simp only[hi];rcases h with⟨hw,hv⟩|⟨hw,rfl⟩
 ·rw[if_pos hw];refine⟨fun _ _=>trivial,?_⟩;rw[rY (rH hk),hv w (jP.refl _ _)];exact hK
 ·rw[if_neg (by simp[hw])];exact⟨fun _ _=>trivial,hK⟩
theorem X7{n:Nat}{o:Oper}{a:Act}{w:World}{K:Act→World→Prop}(h:o.wpIn (FW r) 0 P a w K Q):o.wpIn (FW r) n P a w K Q:=by
 refine⟨h.1,?_⟩;have h2:=h.2;generalize (o.semAt (FW r).round a.eval).run P w=x at *;cases x with
 |ok x w'=>
  cases x<;>simp only[Oper.uponIn]at h2 ⊢ <;>first
   |exact h2
   |exact⟨fun h=>by simp[FW]at h,cQ.2 (cQ.1 h2.2)⟩
   |exact⟨fun h=>by simp[FW]at h,fun c cs _=>h2.2 c cs (wA _ _)⟩
   |exact⟨fun h=>by simp[FW]at h,trivial,fun c cs _=>h2.2.2 c cs (wA _ _)⟩
 |halt x w'=>cases x<;>exact h2

theorem wN{n:Nat}{K:Act→World→Prop}(hK:∀a w,K a w→Q .normal a w):∀(os:List (Bool×Oper)) (is:List Nat),is.map (fun i=>all[i]?)=os.map (fun o=>some o.2)→
  ∀a w,lI r bad P all K Q os a w→wpOpsIn (FW r) n P all Q is a w:=by
 intro os;induction os with
 |nil=>intro is h a w H;cases is with|nil=>exact hK _ _ H|cons=>simp at h
 |cons o os ih=>
  intro is h a w H;cases is with
  |nil=>simp at h
  |cons i is=>
   obtain⟨fl,o⟩:=o;simp only[List.map_cons,List.cons.injEq]at h;rw[wpOpsIn_cons];simp only[lI]at H;split at H
   ·rename_i hq;obtain⟨v,hy,H⟩:=H;exact hy.run hq h.1 (ih is h.2 _ _ H)
   ·unfold wpOpIn;simp only[h.1];unfold rL at H;split at H
    ·rename_i hw;rw[if_pos hw];exact X7 (Oper.wpIn_mono (fun a w hh=>ih is h.2 _ _ hh.2) H)
    ·rename_i hw;rw[if_neg hw];exact⟨fun _ _=>trivial,ih is h.2 _ _ H⟩
theorem zK(all:Array Oper):(List.range all.size).map (fun i=>all[i]?)=all.toList.map some:=by
 apply List.ext_getElem
 ·simp
 ·intro i h1 h2;simp
theorem HA{id:Nat}{a:Act}{w:World}(h:lI r [] P all (fun a w=>Q .normal a w) Q (all.toList.map fun o=>(false,o)) a w):
  (Code.region id all false).wpIn (FW r) 0 P Q a w:=
 wpIn_region (wN (fun _ _ h=>h) _ _ (by rw[zK];simp) _ _ h)

def gZ(all:Array Oper):Nat→Nat→Nat→Bool
 |0,_,_=>false
 |n+1,i,x=>((all[i]?).map fun o=>o.after.toList.any fun e=>Region.binds .any e&&(Nat.beq e.on x||gZ all n e.on x)).getD false
def kB(all:Array Oper)(n:Nat)(i:Nat):List Nat→Bool
 | []=>false
 |x::xs=> !gZ all n i x||kB all n i xs
def eP(all:Array Oper)(x:Nat):Bool:=((all[x]?).map fun o=>fU o.op).getD false
def jM(all:Array Oper)(x i:Nat):Bool:=
 match all[x]?,all[i]? with
 |some x,some i=>x.apart all i
 |_,_=>false
def JT(all:Array Oper)(n:Nat)(i:Nat)(before:List Nat):Bool:=
 before.all fun x=>gZ all n i x||(eP all x&&jM all x i)
def oY(all:Array Oper)(i:Nat)(before:List Nat):Bool:=
 ((all[i]?).map fun o=>o.after.toList.all fun e=> !Region.binds .any e||before.contains e.on).getD false
def lE(all:Array Oper)(n:Nat):List Nat→List Nat→Bool
 |_,[]=>true
 |before,i::rest=>JT all n i before&&oY all i before&& !before.contains i&&lE all n (before++[i]) rest
def jO(all:Array Oper):Bool:=all.toList.all fun o=> !jA o.op
def B1(all:Array Oper)(n:Nat)(c:List Nat):Bool:=
 jO all&&(c.length==all.size)&&((List.range all.size).all fun i=>c.contains i)&&lE all n [] c
def uC(r:Option Nat){γb:Type}[Membership Nat γb](bad:γb)(P:Program)(all:Array Oper)(fl:Nat→Bool)(K:Act→World→Prop)(Q:Exit→Act→World→Prop):List Nat→Act→World→Prop
 | [],a,w=>K a w
 |i::is,a,w=>
  match all[i]? with
  |none=>False
  |some o=>
   if fU o.op=true then ∃v,Yv bad P all o a w v∧uC r bad P all fl K Q is (a.put o.dst v) w
   else rL r bad P all Q o (fl i) (uC r bad P all fl K Q is) a w
def gQ(r:Option Nat){γb:Type}[Membership Nat γb](bad:γb)(P:Program)(all:Array Oper)(fl:Nat→Bool)(Q:Exit→Act→World→Prop)(i:Nat)(K:Act→World→Prop)(a:Act)(w:World):Prop:=
 match all[i]? with
 |none=>False
 |some o=>
  if fU o.op=true then ∃v,Yv bad P all o a w v∧K (a.put o.dst v) w
  else rL r bad P all Q o (fl i) K a w
theorem jE{fl:Nat→Bool}{K:Act→World→Prop}(i:Nat)(is:List Nat)(a:Act)(w:World):
  uC r bad P all fl K Q (i::is) a w=gQ r bad P all fl Q i (uC r bad P all fl K Q is) a w:=by
 rfl
theorem rL.mono{o:Oper}{f:Bool}{K K':Act→World→Prop}{a:Act}{w:World}(h:∀a w,K a w→K' a w)(H:rL r bad P all Q o f K a w):
  rL r bad P all Q o f K' a w:=by
 unfold rL at *;split at H
 ·rename_i hw;rw[if_pos hw];exact Oper.wpIn_mono (fun a w hh=>⟨hh.1,h _ _ hh.2⟩) H
 ·rename_i hw;rw[if_neg hw];exact h _ _ H
theorem gQ.mono{fl:Nat→Bool}{i:Nat}{K K':Act→World→Prop}{a:Act}{w:World}(h:∀a w,K a w→K' a w)(H:gQ r bad P all fl Q i K a w):
  gQ r bad P all fl Q i K' a w:=by
 unfold gQ at *;split at H
 ·exact H
 ·split at H
  ·rename_i hq;rw[if_pos hq];obtain⟨v,y,k⟩:=H;exact⟨v,y,h _ _ k⟩
  ·rename_i hq;rw[if_neg hq];exact H.mono h
theorem lN{fl:Nat→Bool}{K K':Act→World→Prop}(h:∀a w,K a w→K' a w):∀(is:List Nat) {a:Act} {w:World},uC r bad P all fl K Q is a w→uC r bad P all fl K' Q is a w
 | [],_,_,H=>h _ _ H
 |i::is,a,w,H=>by
  rw[jE]at H ⊢
  exact H.mono fun a w=>lN h is
theorem Yv.of_same{o:Oper}{v:Value}{a a':Act}{w w':World}(hy:Yv bad P all o a w v)(hk:jP bad w w')(he:execOp a'.eval o=execOp a.eval o)
  (hw:Region.wanted o (yielded all a'.tmps)=Region.wanted o (yielded all a.tmps)):Yv bad P all o a' w' v:=by
 rcases hy with⟨h1,h2⟩|⟨h1,h2⟩
 ·exact Or.inl ⟨hw.trans h1,fun w2 hk2=>he▸h2 w2 (hk.trans hk2)⟩
 ·exact Or.inr ⟨hw.trans h1,h2⟩
def pJ:Op→Bool
 |.build _ _=>true
 |.extract _ _=>true
 |.move _=>true
 |.assign _=>true
 |_=>false
def oL(all:Array Oper)(x:Nat):Bool:=((all[x]?).map fun o=>pJ o.op).getD false
def WI{α:Type}(x:Sem α):Prop:=∀(P:Program) w v w1,x.run P w=.ok v w1→w1=w∧∀w',x.run P w'=.ok v w'
theorem WI.pure{α:Type}(a:α):WI (Pure.pure a:Sem α):=fun P w v w1 h=>by
 rw[Sem.run_pure]at h;cases h;exact⟨rfl,fun w'=>Sem.run_pure ..⟩
theorem WI.bind{α β:Type}{x:Sem α}{f:α→Sem β}(hx:WI x)(hf:∀a,WI (f a)):WI (x >>= f):=fun P w v w1 h=>by
 rw[Sem.run_bind]at h;cases hr:x.run P w with
 |ok a w2=>
  rw[hr]at h;obtain⟨rfl,h2⟩:=hx P w a w2 hr;obtain⟨rfl,h3⟩:=hf a P _ v w1 h;exact⟨rfl,fun w'=>by rw[Sem.run_bind,h2 w'];exact h3 w'⟩
 |halt z w2=>rw[hr]at h;cases h
theorem WI.halt{α:Type}(z:Halt):WI (Sem.halt z:Sem α):=fun P w v w1 h=>by cases h
theorem WI.program:WI program:=fun P w v w1 h=>by cases h;exact⟨rfl,fun w'=>rfl⟩
theorem WI.typeInfo(t:TypeId):WI (typeInfo t):=by
 unfold Go.typeInfo;refine WI.bind WI.program fun p=>?_
 split
 ·exact WI.pure _
 ·exact WI.halt _
theorem WI.underlying(t:TypeId):WI (underlying t):=by
 unfold Go.underlying;refine WI.bind WI.program fun p=>?_
 split
 ·exact WI.pure _
 ·exact WI.halt _
theorem WI.sizeOf(t:TypeId):WI (sizeOf t):=WI.bind (WI.typeInfo t) fun _=>WI.pure _
theorem WI.zeroValue(t:TypeId):WI (zeroValue t):=by
 unfold Go.zeroValue;refine WI.bind (WI.typeInfo t) fun p=>?_
 split
 ·exact WI.pure _
 ·exact WI.halt _
theorem WI.mapM{α β:Type}{f:α→Sem β}(hf:∀a,WI (f a))(as:Array α):WI (as.mapM f):=by
 rw[Array.mapM_eq_mapM_toList];refine WI.bind ?_ fun _=>WI.pure _
 generalize as.toList=l;induction l with
 |nil=>exact WI.pure _
 |cons a l ih=>
  rw[List.mapM_cons];exact WI.bind (hf a) fun _=>WI.bind ih fun _=>WI.pure _
theorem WI.build(t:TypeId)(parts:Array (Nat×Value)):WI (Instr.build t parts):=by
 unfold Instr.build;refine WI.bind (WI.zeroValue t) fun z=>WI.bind (WI.underlying t) fun u=>?_
 split
 ·refine WI.bind (WI.mapM (fun f=>WI.bind (WI.sizeOf _) fun _=>WI.pure _) _) fun pl=>?_
  split
  ·exact WI.pure _
  ·exact WI.halt _
 ·refine WI.bind (WI.sizeOf _) fun sz=>?_
  split
  ·exact WI.pure _
  ·exact WI.halt _
 ·exact WI.halt _
theorem WI.extract(t:Value)(i:Nat):WI (Instr.extract t i):=by
 unfold Instr.extract;split
 ·split
  ·exact WI.pure _
  ·exact WI.halt _
 ·exact WI.halt _
theorem IL{o:Oper}(hp:pJ o.op=true){ρ:Operand→Value}{P:Program}{w:World}{v:Value}(hr:(execOp ρ o).run P w=.ok (.value v) w):∀w',(execOp ρ o).run P w'=.ok (.value v) w':=by
 have:WI (execOp ρ o):=by
  cases o with
  |mk dst op type pos after guard=>
   cases op<;>first|(cases hp)|skip
   all_goals unfold execOp
   ·exact WI.pure _
   ·exact WI.pure _
   ·exact WI.bind (WI.build _ _) fun _=>WI.pure _
   ·exact WI.bind (WI.extract _ _) fun _=>WI.pure _
 exact(this P w _ w hr).2
theorem Yv.of_same'{o:Oper}{v:Value}{a a':Act}{w w':World}(hy:Yv bad P all o a w v)(hk:jP bad w w'∨pJ o.op=true)(he:execOp a'.eval o=execOp a.eval o)
  (hw:Region.wanted o (yielded all a'.tmps)=Region.wanted o (yielded all a.tmps)):Yv bad P all o a' w' v:=by
 rcases hk with hk|hk
 ·exact hy.of_same hk he hw
 ·rcases hy with⟨h1,h2⟩|⟨h1,h2⟩
  ·exact Or.inl ⟨hw.trans h1,fun w2 _=>he▸IL hk (h2 w (jP.refl _ _)) w2⟩
  ·exact Or.inr ⟨hw.trans h1,h2⟩
def PI(Q:Exit→Act→World→Prop):Prop:=∀c (a a':Act) w,a'.defers=a.defers→Q (.panic c) a w→Q (.panic c) a' w
theorem I6(a:Act)(d:Option Tmp)(v:Value):(a.put d v).defers=a.defers:=by cases d<;>rfl
theorem lT{o:Oper}(h:jA o.op=false):∀cs b,o.op≠.select cs b:=fun cs b e=>by rw[e]at h;cases h
theorem GC{x o:Oper}{f:Bool}{v:Value}(hap:x.apart all o=true)(hx:jA x.op=false)(ho:jA o.op=false)(hf:f=true∨pJ x.op=true)(hQ:PI Q)
  {K:Act→World→Prop} {a:Act} {w:World} (hy:Yv bad P all x a w v) (h:rL r bad P all Q o f K (a.put x.dst v) w):
  rL r bad P all Q o f (fun a' w'=>Yv bad P all x a' w' v∧K (a'.put x.dst v) w') a w:=by
 obtain⟨h1,h2,h3⟩:=Oper.apart_spec hap;have keep:∀u w',(f=true→jP bad w w')→Yv bad P all x (a.put o.dst u) w' v:=fun u w' hk=>
  hy.of_same' (hf.imp hk id) (execOp_put x (lT hx) a o.dst u h3) (wanted_put x a o.dst u h3)
 unfold rL at *;rw[wanted_put o a x.dst v h1]at h;split at h
 ·rename_i hw;rw[if_pos hw];refine⟨fun _ _=>trivial,?_⟩;have h:=h.2;rw[rY ho,execOp_put o (lT ho) a x.dst v h1]at h;rw[rY ho];generalize (execOp a.eval o).run P w=z at *;cases z with
  |ok z w'=>
   cases z<;>simp only[Oper.uponIn]at h ⊢
   case value u=>exact⟨h.1,keep u w' h.1,by rw[←Act.put_comm a v u h2];exact h.2⟩
   case skip=>exact⟨h.1,keep _ w' h.1,by rw[←Act.put_comm a v undef h2];exact h.2⟩
   case defer d=>
    refine⟨h.1,?_,?_⟩
    ·exact(hy.of_same' (a':={a with defers:=d::a.defers}.put o.dst undef) (hf.imp h.1 id)
      ((execOp_put x (lT hx) {a with defers:=d::a.defers} o.dst undef h3).trans rfl) ((wanted_put x {a with defers:=d::a.defers} o.dst undef h3).trans rfl))
    ·have e:=h.2;rw[Act.put_defers,Act.put_comm _ v undef h2]at e;exact e
   case enter f args=>
    refine⟨h.1,CallsIn.mono h.2 fun e w'' he=>?_⟩;cases e with
    |returned u=>exact⟨he.1,keep u w'' he.1,by rw[←Act.put_comm a v u h2];exact he.2⟩
    |panicked c=>exact hQ _ _ _ _ (I6 _ _ _).symm he
    |outgrown=>exact he
   case row row args=>exact⟨h.1,RowsIn.mono h.2 fun u w'' he=>⟨he.1,keep u w'' he.1,by rw[←Act.put_comm a v u h2];exact he.2⟩⟩
   case round l f tmps assign body=>
    refine⟨h.1,RoundIn.mono h.2 fun e w'' he=>?_⟩;cases e with
    |returned u=>exact⟨he.1,keep u w'' he.1,by rw[←Act.put_comm a v u h2];exact he.2⟩
    |panicked c=>exact hQ _ _ _ _ (I6 _ _ _).symm he
    |outgrown=>exact he
  |halt z w'=>
   cases z<;>simp only[Oper.uponIn]at h ⊢
   case panic u=>exact hQ _ _ _ _ (I6 _ _ _).symm h
 ·rename_i hw;rw[if_neg hw];exact⟨keep _ w (fun _=>jP.refl _ _),by rw[←Act.put_comm a v undef h2];exact h⟩
theorem sV{x:Nat}(h:eP all x=true):∃o,all[x]?= some o∧fU o.op=true:=by
 unfold eP at h;cases hx:all[x]? with
 |none=>simp[hx]at h
 |some o=>exact⟨o,rfl,by simpa [hx]using h⟩
theorem qS(h:jO all=true){i:Nat}{o:Oper}(ho:all[i]?= some o):jA o.op=false:=by
 have hm:o∈all.toList:=by
  rw[Array.getElem?_eq_some_iff]at ho;obtain⟨hi,rfl⟩:=ho;simp
 have:=List.all_eq_true.1 h o hm;simpa using this
theorem BY{fl:Nat→Bool}{x i:Nat}(hnd:jO all=true)(hq:eP all x=true)(hap:jM all x i=true)(hf:eP all i=true∨fl i=true∨oL all x=true)
  (hQ:PI Q) {K:Act→World→Prop} {a:Act} {w:World}
  (h:gQ r bad P all fl Q x (gQ r bad P all fl Q i K) a w):gQ r bad P all fl Q i (gQ r bad P all fl Q x K) a w:=by
 obtain⟨ox,hx,hqx⟩:=sV hq;cases hi:all[i]? with
 |none=>simp[jM,hx,hi]at hap
 |some oi=>
  have hap':ox.apart all oi=true:=by simpa [jM,hx,hi]using hap
  have dx:=qS hnd hx;have di:=qS hnd hi;obtain⟨h1,h2,h3⟩:=Oper.apart_spec hap';simp only[gQ,hx,hi,hqx,if_true]at h ⊢
  obtain⟨v,hy,h⟩:=h;split at h
  ·rename_i hqi;obtain⟨u,hu,h⟩:=h;rw[if_pos hqi];refine⟨u,hu.of_same (jP.refl _ _) (execOp_put oi (lT di) a ox.dst v h1).symm (wanted_put oi a ox.dst v h1).symm,v,
    hy.of_same (jP.refl _ _) (execOp_put ox (lT dx) a oi.dst u h3) (wanted_put ox a oi.dst u h3),?_⟩
   rw[←Act.put_comm a v u h2];exact h
  ·rename_i hqi;rw[if_neg hqi];have hfl:fl i=true∨pJ ox.op=true:=by
    rcases hf with hf|hf|hf
    ·obtain⟨o,ho,hqo⟩:=sV hf;rw[hi]at ho;cases ho;exact absurd hqo hqi
    ·exact Or.inl hf
    ·exact Or.inr (by simpa [oL,hx]using hf)
   refine(GC hap' dx di hfl hQ hy h).mono fun a w hh=>?_
   rw[gQ,hx];simp only[hqx,if_true];exact⟨v,hh.1,hh.2⟩
theorem lG{fl:Nat→Bool}{i:Nat}(hnd:jO all=true)(hQ:PI Q){K:Act→World→Prop}:
  ∀(c1 c2:List Nat) (a:Act) (w:World),(∀x∈c1,eP all x=true∧jM all x i=true∧(eP all i=true∨fl i=true∨oL all x=true))→
   uC r bad P all fl K Q (c1++i::c2) a w→gQ r bad P all fl Q i (uC r bad P all fl K Q (c1++c2)) a w:=by
 intro c1;induction c1 with
 |nil=>intro c2 a w _ h;rw[List.nil_append,jE]at h;exact h
 |cons x c1 ih=>
  intro c2 a w hc h;rw[List.cons_append,jE]at h;have h':=h.mono fun a w hh=>ih c2 a w (fun y hy=>hc y (List.mem_cons_of_mem _ hy)) hh
  obtain⟨h1,h2,h3⟩:=hc x List.mem_cons_self;have:=BY hnd h1 h2 h3 hQ h';exact this.mono fun a w hh=>by rw[List.cons_append,jE];exact hh
theorem gQ.wpOpIn{fl:Nat→Bool}{i:Nat}{n:Nat}{K:Act→World→Prop}{a:Act}{w:World}(h:gQ r bad P all fl Q i K a w):wpOpIn (FW r) n P all Q i K a w:=by
 unfold gQ at h;split at h
 ·exact h.elim
 ·rename_i o ho;split at h
  ·rename_i hq;obtain⟨v,hy,h⟩:=h;exact hy.run hq ho h
  ·unfold Go.wpOpIn;simp only[ho];unfold rL at h;split at h
   ·rename_i hw;rw[if_pos hw];exact X7 (Oper.wpIn_mono (fun a w hh=>hh.2) h)
   ·rename_i hw;rw[if_neg hw];exact⟨fun _ _=>trivial,h⟩
def s6(all:Array Oper)(bJ:Array Bool):Prop:=
 ∀(i:Nat) (o:Oper),all[i]?= some o→bJ.getD i false=true→∀e∈o.after,Region.binds .any e=true→bJ.getD e.on false=true
theorem lB{bJ:Array Bool}(hc:s6 all bJ):∀(n i x:Nat) (o:Oper),all[i]?= some o→(∀e∈o.after,Region.binds .any e=true→bJ.getD e.on false=true)→
  (∀j,bJ.getD j false=true→j<all.size)→gZ all n i x=true→bJ.getD x false=true:=by
 intro n;induction n with
 |zero=>intro i x o _ _ _ h;simp[gZ]at h
 |succ n ih=>
  intro i x o ho hall hlt h;simp only[gZ,ho,Option.map_some,Option.getD_some,List.any_eq_true,Bool.and_eq_true,Bool.or_eq_true]at h;obtain⟨e,he,hb,h⟩:=h;have hl:=hall e (by simpa using he) hb;rcases h with h|h
  ·rw[Nat.eq_of_beq_eq_true h]at hl;exact hl
  ·have hj:=hlt _ hl;exact ih e.on x all[e.on] (by simp[hj]) (hc e.on _ (by simp[hj]) hl) hlt h
theorem kN{n:Nat}:∀(c before c1:List Nat) (i:Nat) (c2:List Nat),lE all n before c=true→c=c1++i::c2→
  JT all n i (before++c1)=true∧oY all i (before++c1)=true∧i∉before++c1:=by
 intro c;induction c with
 |nil=>intro before c1 i c2 _ h;simp at h
 |cons x c ih=>
  intro before c1 i c2 hc h;simp only[lE,Bool.and_eq_true]at hc;cases c1 with
  |nil=>simp only[List.nil_append,List.cons.injEq]at h;rw[←h.1];simpa [and_assoc]using hc.1
  |cons y c1=>
   simp only[List.cons_append,List.cons.injEq]at h;have:=ih (before++[x]) c1 i c2 hc.2 h.2;rw[h.1]at this;simpa using this
def pR(all:Array Oper)(n:Nat)(fl:Nat→Bool)(c:List Nat):Prop:=
 ∀c1 i c2,c=c1++i::c2→∀x∈c1,gZ all n i x=true∨(eP all x=true∧jM all x i=true∧(eP all i=true∨fl i=true∨oL all x=true))
theorem pR.erase{n:Nat}{fl:Nat→Bool}{c1 c2:List Nat}{i:Nat}(h:pR all n fl (c1++i::c2)):pR all n fl (c1++c2):=by
 intro d1 j d2 he x hx;by_cases hl:d1.length<c1.length
 ·obtain⟨t,ht⟩:∃t,c1=d1++j::t:=by
   have h1:(c1++c2)[d1.length]?= some j:=by rw[he];simp
   rw[List.getElem?_append_left hl]at h1;have h2:c1.take d1.length=d1:=by
    have:=congrArg (List.take d1.length) he;rw[List.take_append_of_le_length (Nat.le_of_lt hl)]at this;simpa using this
   refine⟨c1.drop (d1.length+1),?_⟩;have h3:=List.take_append_drop d1.length c1;rw[h2,List.drop_eq_getElem_cons hl]at h3;rw[List.getElem?_eq_getElem hl]at h1;rw[Option.some.inj h1]at h3;exact h3.symm
  exact h d1 j (t++i::c2) (by rw[ht];simp) x hx
 ·obtain⟨t,ht⟩:∃t,d1=c1++t:=by
   have h2:d1.take c1.length=c1:=by
    have:=congrArg (List.take c1.length) he;rw[List.take_append_of_le_length (Nat.le_refl _),List.take_length,List.take_append_of_le_length Yd]at this;exact this.symm
   exact⟨d1.drop c1.length,by rw[←h2,List.length_take,Nat.min_eq_left Yd,List.take_append_drop]⟩
  subst ht;have hc2:c2=t++j::d2:=by
   rw[List.append_assoc]at he;exact List.append_cancel_left he
  refine h (c1++i::t) j d2 (by rw[hc2];simp) x ?_;simp only[List.mem_append,List.mem_cons]at hx ⊢
  rcases hx with hx|hx
  ·exact Or.inl hx
  ·exact Or.inr (Or.inr hx)
def nG(all:Array Oper)(bJ:Array Bool)(c:List Nat):Prop:=
 ∀c1 i c2,c=c1++i::c2→∀o,all[i]?= some o→∀e∈o.after,Region.binds .any e=true→bJ.getD e.on false=true∨e.on∈c1
theorem vK{c1 c2 d1 d2:List Nat}{j:Nat}(he:c1++c2=d1++j::d2):
  (∃t,c1=d1++j::t∧d2=t++c2)∨(∃t,d1=c1++t∧c2=t++j::d2):=by
 rcases List.append_eq_append_iff.1 he with⟨t,h1,h2⟩|⟨t,h1,h2⟩
 ·exact Or.inr ⟨t,h1,h2⟩
 ·cases t with
  |nil=>exact Or.inr ⟨[],by simpa using h1.symm,by simpa using h2.symm⟩
  |cons x t=>
   simp only[List.cons_append,List.cons.injEq]at h2;exact Or.inl ⟨t,by rw[h1,h2.1],h2.2⟩
theorem nG.erase{bJ:Array Bool}{c1 c2:List Nat}{i:Nat}(hi:i<bJ.size)(h:nG all bJ (c1++i::c2)):nG all (bJ.setIfInBounds i true) (c1++c2):=by
 intro d1 j d2 he o ho e hm hb;rcases vK he with⟨t,h1,h2⟩|⟨t,h1,h2⟩
 ·rcases h d1 j (t++i::c2) (by rw[h1];simp) o ho e hm hb with hl|hl
  ·exact Or.inl (getD_set_true hl)
  ·exact Or.inr hl
 ·rcases h (c1++i::t) j d2 (by rw[h2];simp) o ho e hm hb with hl|hl
  ·exact Or.inl (getD_set_true hl)
  ·simp only[List.mem_append,List.mem_cons]at hl;rcases hl with hl|hl|hl
   ·exact Or.inr (by rw[h1];simp[hl])
   ·rw[hl];exact Or.inl (by simp[hi])
   ·exact Or.inr (by rw[h1];simp[hl])
theorem iO{bJ:Array Bool}{i:Nat}(h:i<bJ.size):(bJ.setIfInBounds i true).getD i false=true:=by simp[h]
theorem xI{n:Nat}{fl:Nat→Bool}(hnd:jO all=true)(hQ:PI Q):
  ∀(c:List Nat) (bJ:Array Bool) (a:Act) (w:World),bJ.size=all.size→s6 all bJ→c.Nodup→
   (∀i,i<all.size→(i∈c ↔ bJ.getD i false=false))→(∀i∈c,i<all.size)→pR all n fl c→nG all bJ c→
   uC r bad P all fl (fun a w=>Q .normal a w) Q c a w→wpAnyIn (FW r) 0 P .any all Q c.length bJ a w:=by
 intro c;induction hlen:c.length generalizing c with
 |zero=>
  intro bJ a w hs _ _ hm _ _ _ h;have hc:c=[]:=List.length_eq_zero_iff.1 hlen;subst hc;refine⟨?_,h⟩;rw[List.eq_nil_iff_forall_not_mem];intro i hi;obtain⟨hun,o,ho,_⟩:=mem_ready.1 hi;have hlt:i<all.size:=(Array.getElem?_eq_some_iff.1 ho).1;have:=(hm i hlt).2 (by rw[Array.getD_eq_getD_getElem?]at hun ⊢;rw[Array.getElem?_eq_getElem Yd]at hun ⊢;exact hun)
  simp at this
 |succ k ih=>
  intro bJ a w hs hcl hnodup hm hlt hg ht h;constructor
  ·intro h0;exfalso
   -- the first of the list is ready
   match c,hlen with
   |i::c',_=>
    have hi:i∈Region.ready .any all bJ:=by
     refine mem_ready.2 ⟨?_,all[i]'(hlt i List.mem_cons_self),by simp[hlt i List.mem_cons_self],?_⟩
     ·have:=(hm i (hlt i List.mem_cons_self)).1 List.mem_cons_self;rw[Array.getD_eq_getD_getElem?]at this ⊢
      rw[Array.getElem?_eq_getElem (by rw[hs];exact hlt i List.mem_cons_self)]at this ⊢
      exact this
     ·intro e he hb;rcases ht [] i c' rfl _ (by simp[hlt i List.mem_cons_self]) e he hb with h|h
      ·exact h
      ·cases h
    rw[h0]at hi;cases hi
  ·intro i hi;obtain⟨hun,o,ho,hpre⟩:=mem_ready.1 hi;have hil:i<all.size:=(Array.getElem?_eq_some_iff.1 ho).1;have hun':bJ.getD i false=false:=by
    rw[Array.getD_eq_getD_getElem?]at hun ⊢
    rw[Array.getElem?_eq_getElem Yd]at hun ⊢
    exact hun
   have hmem:=(hm i hil).2 hun';obtain⟨c1,c2,rfl⟩:=List.append_of_mem hmem;have hfront:∀x∈c1,eP all x=true∧jM all x i=true∧(eP all i=true∨fl i=true∨oL all x=true):=by
    intro x hx;rcases hg c1 i c2 rfl x hx with hr|hr
    ·have hxl:=hlt x (by simp[hx]);have:=lB hcl n i x o ho (fun e he hb=>hpre e he hb) (fun j hj=>by
      rcases Nat.lt_or_ge j bJ.size with h|h
      ·omega
      ·simp[Array.getElem?_eq_none h]at hj) hr
     have h2:=(hm x hxl).1 (by simp[hx]);rw[h2]at this;cases this
    ·exact hr
   have hst:=lG hnd hQ c1 c2 a w hfront h;refine wpOpIn_mono (fun a w hh=>?_) hst.wpOpIn;have hlen':(c1++c2).length=k:=by simp at hlen ⊢;omega
   refine ih (c1++c2) hlen' (bJ.setIfInBounds i true) a w (by simpa using hs) ?_ ?_ ?_ ?_ hg.erase (ht.erase Yd) hh
   ·intro j oj hj hlj e he hb;by_cases hij:i=j
    ·subst hij;rw[ho]at hj;cases hj
     exact getD_set_true (hpre e he hb)
    ·rw[getD_set_ne false hij]at hlj;exact getD_set_true (hcl j oj hj hlj e he hb)
   ·rw[List.nodup_append]at hnodup ⊢
    refine⟨hnodup.1,(List.nodup_cons.1 hnodup.2.1).2,fun x hx y hy=>hnodup.2.2 x hx y (List.mem_cons_of_mem _ hy)⟩
   ·intro j hj;by_cases hij:i=j
    ·subst hij;rw[iO Yd];constructor
     ·intro hmem;exfalso
      rw[List.nodup_append]at hnodup;rcases List.mem_append.1 hmem with hm1|hm2
      ·exact hnodup.2.2 i hm1 i List.mem_cons_self rfl
      ·exact(List.nodup_cons.1 hnodup.2.1).1 hm2
     ·intro h;cases h
    ·rw[getD_set_ne false hij,←hm j hj];simp only[List.mem_append,List.mem_cons];constructor
     ·rintro(h|h)
      ·exact Or.inl h
      ·exact Or.inr (Or.inr h)
     ·rintro(h|h|h)
      ·exact Or.inl h
      ·exact absurd h.symm hij
      ·exact Or.inr h
   ·intro j hj;refine hlt j ?_;simp only[List.mem_append,List.mem_cons]at hj ⊢
    rcases hj with h|h
    ·exact Or.inl h
    ·exact Or.inr (Or.inr h)
def bJ(all:Array Oper)(n:Nat):List Nat→List Nat→List (Bool×Oper)
 |_,[]=>[]
 |before,i::rest=>(kB all n i before,all.getD i default)::bJ all n (before++[i]) rest
theorem p8{n:Nat}{K:Act→World→Prop}{fl:Nat→Bool}:∀(c before:List Nat) (a:Act) (w:World),(∀i∈c,i<all.size)→
  (∀c1 i c2,c=c1++i::c2→fl i=kB all n i (before++c1))→lI r bad P all K Q (bJ all n before c) a w→uC r bad P all fl K Q c a w:=by
 intro c;induction c with
 |nil=>intro before a w _ _ h;exact h
 |cons i c ih=>
  intro before a w hlt hf h;have hi:=hlt i List.mem_cons_self;have ho:all[i]?= some all[i]:=by simp[hi]
  have hd:all.getD i default=all[i]:=by simp[hi]
  have hfi:fl i=kB all n i before:=by simpa using hf [] i c rfl
  have hrec:∀a w,lI r bad P all K Q (bJ all n (before++[i]) c) a w→uC r bad P all fl K Q c a w:=fun a w hh=>
   ih (before++[i]) a w (fun j hj=>hlt j (List.mem_cons_of_mem _ hj)) (fun c1 j c2 he=>by
    rw[hf (i::c1) j c2 (by rw[he];rfl)];simp) hh
  simp only[bJ,lI,hd]at h;simp only[uC,ho];split at h
  ·rename_i hq;obtain⟨v,hy,h⟩:=h;rw[if_pos hq];exact⟨v,hy,hrec _ _ h⟩
  ·rename_i hq;rw[if_neg hq,hfi];exact h.mono hrec
theorem rG{n:Nat}:∀(c before:List Nat),lE all n before c=true→before.Nodup→(before++c).Nodup:=by
 intro c;induction c with
 |nil=>intro before _ h;simpa using h
 |cons i c ih=>
  intro before h hb;simp only[lE,Bool.and_eq_true,Bool.not_eq_true',List.contains_eq_mem,decide_eq_false_iff_not]at h;have:=ih (before++[i]) h.2 (by
   rw[List.nodup_append];refine⟨hb,by simp,fun x hx y hy=>?_⟩;simp only[List.mem_singleton]at hy;rintro rfl;exact h.1.2 (hy▸hx))
  simpa using this
theorem kI{n i x:Nat}:∀{l:List Nat},x∈l→gZ all n i x=false→kB all n i l=true
 |y::l,hx,hr=>by
  simp only[kB,Bool.or_eq_true,Bool.not_eq_true'];rcases List.mem_cons.1 hx with rfl|hx
  ·exact Or.inl hr
  ·exact Or.inr (kI hx hr)
theorem OL{id n:Nat}{c:List Nat}{a:Act}{w:World}(hm:P.follows .mixedOrders=true)(hc:B1 all n c=true)(hQ:PI Q)
  (h:lI r bad P all (fun a w=>Q .normal a w) Q (bJ all n [] c) a {w with drawn:=w.drawn+1}):
  (Code.region id all true).wpIn (FW r) 0 P Q a w:=by
 simp only[B1,Bool.and_eq_true,beq_iff_eq,List.all_eq_true,List.mem_range,List.contains_eq_mem,decide_eq_true_eq]at hc;obtain⟨⟨⟨hnd,hlen⟩,hall⟩,hfrom⟩:=hc;have hnodup:c.Nodup:=by simpa using rG c [] hfrom List.nodup_nil
 have hlt:∀i∈c,i<all.size:=by
  intro i hi;obtain⟨c1,c2,rfl⟩:=List.append_of_mem hi;have:=(kN _ [] c1 i c2 hfrom rfl).2.1;unfold oY at this;rcases Nat.lt_or_ge i all.size with h|h
  ·exact h
  ·simp[Array.getElem?_eq_none h]at this
 refine wpIn_region_any hm ?_;rw[←hlen];refine xI (bad:=bad) (fl:=fun i=>kB all n i (c.take (c.idxOf i))) (n:=n) hnd hQ c _ a _ (by simp[hlen]) ?_ hnodup ?_ hlt ?_ ?_ ?_
 ·intro i o ho hl;simp[Array.getD_eq_getD_getElem?,Array.getElem?_replicate]at hl;split at hl<;>simp at hl
 ·intro i hi;simp only[Array.getD_eq_getD_getElem?,Array.getElem?_replicate,hlen,hi,if_true,Option.getD_some,iff_true];exact hall i hi
 ·intro c1 i c2 he x hx;obtain⟨hg,_,_⟩:=kN _ [] c1 i c2 hfrom he;have h1:=List.all_eq_true.1 hg x (by simpa using hx);simp only[Bool.or_eq_true,Bool.and_eq_true]at h1;cases hr:gZ all n i x with
  |true=>exact Or.inl rfl
  |false=>
   rw[hr]at h1;have h1:=h1.resolve_left Ye;refine Or.inr ⟨h1.1,h1.2,Or.inr (Or.inl ?_)⟩;have hni:i∉c1:=by
    rw[he,List.nodup_append]at hnodup;intro hm;exact hnodup.2.2 i hm i List.mem_cons_self rfl
   have:c.take (c.idxOf i)=c1:=by
    rw[he,List.idxOf_append,if_neg hni,List.idxOf_cons_self];simp
   show kB all n i (c.take (c.idxOf i))=true;rw[this];exact kI hx hr
 ·intro c1 i c2 he o ho e hm hb;obtain⟨_,ht,_⟩:=kN _ [] c1 i c2 hfrom he;unfold oY at ht;rw[ho]at ht;simp only[Option.map_some,Option.getD_some,List.all_eq_true,Bool.or_eq_true,Bool.not_eq_true',List.nil_append,List.contains_eq_mem,decide_eq_true_eq]at ht;rcases ht e (by simpa using hm)with h|h
  ·rw[hb]at h;cases h
  ·exact Or.inr h
 ·refine p8 (n:=n) c [] a _ hlt ?_ h;intro c1 i c2 he;have hni:i∉c1:=by
   rw[he,List.nodup_append]at hnodup;intro hm;exact hnodup.2.2 i hm i List.mem_cons_self rfl
  have:c.take (c.idxOf i)=c1:=by
   rw[he,List.idxOf_append,if_neg hni,List.idxOf_cons_self];simp
  show kB all n i (c.take (c.idxOf i))=_;rw[this];rfl
def rJ(all:Array Oper)(n:Nat):List Nat→List Nat→List Bool
 |_,[]=>[]
 |before,i::rest=>kB all n i before::rJ all n (before++[i]) rest
def eB(all:Array Oper)(is:List (Bool×Nat)):List (Bool×Oper):=is.map fun p=>(p.1,all.getD p.2 default)
theorem H8(all:Array Oper)(n:Nat):∀(c before:List Nat),bJ all n before c=eB all ((rJ all n before c).zip c)
 | [],_=>rfl
 |i::c,before=>by simp only[bJ,rJ,eB,List.zip_cons_cons,List.map_cons,H8 all n c]
theorem GH(all:Array Oper):(all.toList.map fun o=>(false,o))=eB all ((List.range all.size).map fun i=>(false,i)):=by
 apply List.ext_getElem
 ·simp[eB]
 ·intro i h1 h2;simp[eB]at h1 ⊢
  simp[h1]

def K4(all:Array Oper)(n:Nat)(fls:List Bool)(E:List Nat)(i:Nat)(before:List Nat):Bool:=
 before.all fun x=>E.contains x||gZ all n i x||(eP all x&&jM all x i&&(eP all i||(fls.getD i false||oL all x)))
def qV(all:Array Oper)(n:Nat)(E:List Nat)(fl:Nat→Bool)(c:List Nat):Prop:=
 ∀c1 i c2,c=c1++i::c2→∀x∈c1,x∈E∨gZ all n i x=true∨(eP all x=true∧jM all x i=true∧(eP all i=true∨fl i=true∨oL all x=true))
theorem qV.erase{n:Nat}{E:List Nat}{fl:Nat→Bool}{c1 c2:List Nat}{i:Nat}(h:qV all n E fl (c1++i::c2)):qV all n E fl (c1++c2):=by
 intro d1 j d2 he x hx;rcases vK he with⟨t,h1,h2⟩|⟨t,h1,h2⟩
 ·exact h d1 j (t++i::c2) (by rw[h1];simp) x hx
 ·refine h (c1++i::t) j d2 (by rw[h2];simp) x ?_;rw[h1]at hx;simp only[List.mem_append,List.mem_cons]at hx ⊢
  rcases hx with hx|hx
  ·exact Or.inl hx
  ·exact Or.inr (Or.inr hx)
theorem qV.none{n:Nat}{E:List Nat}{fl:Nat→Bool}{c:List Nat}(h:qV all n E fl c)(hp:∀e∈E,e∉c):pR all n fl c:=by
 intro c1 i c2 he x hx;rcases h c1 i c2 he x hx with h|h
 ·exact absurd (by rw[he];simp[hx]) (hp x h)
 ·exact h
theorem iX{fl:Nat→Bool}{K:Act→World→Prop}:∀(c d:List Nat) (a:Act) (w:World),uC r bad P all fl (uC r bad P all fl K Q d) Q c a w→uC r bad P all fl K Q (c++d) a w
 | [],d,a,w,h=>h
 |i::c,d,a,w,h=>by
  rw[List.cons_append,jE];rw[jE]at h;exact h.mono fun a w=>iX c d a w
structure zP(all:Array Oper)(n:Nat)(bJ:Array Bool)(c:List Nat):Prop where
 size:bJ.size=all.size
 closed:s6 all bJ
 nodup:c.Nodup
 mem:∀i,i<all.size→(i∈c ↔ bJ.getD i false=false)
 lt:∀i∈c,i<all.size
 topo:nG all bJ c
theorem zP.step{n:Nat}{bJ:Array Bool}{c1 c2:List Nat}{i:Nat}{o:Oper}(h:zP all n bJ (c1++i::c2))(ho:all[i]?= some o)(hpre:∀e∈o.after,Region.binds .any e=true→bJ.getD e.on false=true):zP all n (bJ.setIfInBounds i true) (c1++c2):=by
 have hil:i<all.size:=(Array.getElem?_eq_some_iff.1 ho).1;have hs:=h.size;refine⟨by simpa using hs,?_,?_,?_,?_,h.topo.erase Yd⟩
 ·intro j oj hj hlj e he hb;by_cases hij:i=j
  ·subst hij;rw[ho]at hj;cases hj
   exact getD_set_true (hpre e he hb)
  ·rw[getD_set_ne false hij]at hlj;exact getD_set_true (h.closed j oj hj hlj e he hb)
 ·have hnodup:=h.nodup;rw[List.nodup_append]at hnodup ⊢
  exact⟨hnodup.1,(List.nodup_cons.1 hnodup.2.1).2,fun x hx y hy=>hnodup.2.2 x hx y (List.mem_cons_of_mem _ hy)⟩
 ·intro j hj;have hnodup:=h.nodup;by_cases hij:i=j
  ·subst hij;rw[iO Yd];constructor
   ·intro hmem;exfalso
    rw[List.nodup_append]at hnodup;rcases List.mem_append.1 hmem with hm1|hm2
    ·exact hnodup.2.2 i hm1 i List.mem_cons_self rfl
    ·exact(List.nodup_cons.1 hnodup.2.1).1 hm2
   ·intro h;cases h
  ·rw[getD_set_ne false hij,←h.mem j hj];simp only[List.mem_append,List.mem_cons];constructor
   ·rintro(h|h)
    ·exact Or.inl h
    ·exact Or.inr (Or.inr h)
   ·rintro(h|h|h)
    ·exact Or.inl h
    ·exact absurd h.symm hij
    ·exact Or.inr h
 ·intro j hj;refine h.lt j ?_;simp only[List.mem_append,List.mem_cons]at hj ⊢
  rcases hj with h|h
  ·exact Or.inl h
  ·exact Or.inr (Or.inr h)
inductive eH where
 |fin (c:List Nat)
 |fork (d:List Nat) (p:Nat) (A:eH) (q:Nat) (B:eH)
 |forkN (d:List Nat) (p:Nat) (ps:List Nat) (A:Nat→eH)
def eH.list:eH→List Nat
 |.fin c=>c
 |.fork d p A _ _=>d++p::A.list
 |.forkN d p _ A=>d++p::(A p).list
def kW:List eH→List Nat
 | []=>[]
 |pl::segs=>pl.list++kW segs
def FE(r:Option Nat){γb:Type}[Membership Nat γb](bad:γb)(P:Program)(all:Array Oper)(fl:Nat→Bool)(Q:Exit→Act→World→Prop)(kont:Act→World→Prop):eH→Act→World→Prop
 |.fin c=>uC r bad P all fl kont Q c
 |.fork d p A q B=>uC r bad P all fl (fun a w=>gQ r bad P all fl Q p (FE r bad P all fl Q kont A) a w∧gQ r bad P all fl Q q (FE r bad P all fl Q kont B) a w) Q d
 |.forkN d p ps A=>uC r bad P all fl (fun a w=>∀i∈p::ps,gQ r bad P all fl Q i (FE r bad P all fl Q kont (A i)) a w) Q d
def UI(r:Option Nat){γb:Type}[Membership Nat γb](bad:γb)(P:Program)(all:Array Oper)(fl:Nat→Bool)(Q:Exit→Act→World→Prop):List eH→Act→World→Prop
 | []=>fun a w=>Q .normal a w
 |pl::segs=>FE r bad P all fl Q (UI r bad P all fl Q segs) pl
def fG(all:Array Oper)(n:Nat)(cont:List Nat→List Nat→Array Bool→Prop)(rest:List Nat):eH→List Nat→List Nat→Array Bool→Prop
 |.fin c,pre,E,L=>cont (pre++c) E L
 |.fork d p A q B,pre,E,L=>fG all n cont rest A (pre++d++[p]) (p::E) L∧fG all n cont rest B (pre++d++[q]) (q::E) L∧q∈A.list++rest∧A.list.length=B.list.length∧∀i∈A.list++rest,i=q∨gZ all n i p=true∨gZ all n i q=true
 |.forkN d p ps A,pre,E,L=>(∀i∈p::ps,fG all n cont rest (A i) (pre++d++[i]) (i::E) L∧(A i).list.length=(A p).list.length∧(i=p∨i∈(A p).list++rest))∧∀i∈(A p).list++rest,i∈ps∨∃q∈p::ps,gZ all n i q=true
def IR(all:Array Oper)(n:Nat)(fl:Nat→Bool):List eH→List Nat→List Nat→Array Bool→Prop
 | [],pre,E,L=>zP all n L pre∧qV all n E fl pre
 |pl::segs,pre,E,L=>fG all n (IR all n fl segs) (kW segs) pl pre E L
structure wM(all:Array Oper)(n:Nat)(fl:Nat→Bool)(cont:List Nat→List Nat→Array Bool→Prop)(rest:List Nat):Prop where
 part:∀pre E L,cont pre E L→zP all n L (pre++rest)
 good:∀pre E L,cont pre E L→qV all n E fl pre
 erase:∀c1 i c2 E L (o:Oper),all[i]?= some o→(∀e∈o.after,Region.binds .any e=true→L.getD e.on false=true)→cont (c1++i::c2) E L→cont (c1++c2) E (L.setIfInBounds i true)
theorem fG.part{n:Nat}{fl:Nat→Bool}{cont:List Nat→List Nat→Array Bool→Prop}{rest:List Nat}(hc:wM all n fl cont rest):∀{pl:eH} {pre E:List Nat} {L:Array Bool},fG all n cont rest pl pre E L→zP all n L (pre++(pl.list++rest))
 |.fin c,pre,E,L,h=>by
  have:=hc.part _ _ _ h;rw[List.append_assoc]at this;exact this
 |.fork d p A q B,pre,E,L,h=>by
  have:=fG.part hc h.1;simpa [eH.list]using this
 |.forkN d p ps A,pre,E,L,h=>by
  have:=fG.part hc (h.1 p List.mem_cons_self).1;simpa [eH.list]using this
theorem fG.good{n:Nat}{fl:Nat→Bool}{cont:List Nat→List Nat→Array Bool→Prop}{rest:List Nat}(hc:wM all n fl cont rest):∀{pl:eH} {pre E:List Nat} {L:Array Bool},fG all n cont rest pl pre E L→qV all n E fl pre
 |.fin c,pre,E,L,h=>by
  intro c1 i c2 he x hx;exact hc.good _ _ _ h c1 i (c2++c) (by rw[he];simp) x hx
 |.fork d p A q B,pre,E,L,h=>by
  intro c1 i c2 he x hx;have h1:=fG.good hc h.1 c1 i (c2++d++[p]) (by rw[he];simp) x hx
  have hn:=(fG.part hc h.1).nodup;rcases h1 with h1|h1
  ·rcases List.mem_cons.1 h1 with rfl|h1
   ·exfalso
    rw[he]at hn;simp only[List.append_assoc]at hn;rw[List.nodup_append]at hn;exact hn.2.2 x hx x Ye rfl
   ·exact Or.inl h1
  ·exact Or.inr h1
 |.forkN d p ps A,pre,E,L,h=>by
  intro c1 i c2 he x hx;have h1:=fG.good hc (h.1 p List.mem_cons_self).1 c1 i (c2++d++[p]) (by rw[he];simp) x hx
  have hn:=(fG.part hc (h.1 p List.mem_cons_self).1).nodup;rcases h1 with h1|h1
  ·rcases List.mem_cons.1 h1 with rfl|h1
   ·exfalso
    rw[he]at hn;simp only[List.append_assoc]at hn;rw[List.nodup_append]at hn;exact hn.2.2 x hx x Ye rfl
   ·exact Or.inl h1
  ·exact Or.inr h1
theorem fG.erase{n:Nat}{fl:Nat→Bool}{cont:List Nat→List Nat→Array Bool→Prop}{rest:List Nat}(hc:wM all n fl cont rest){i:Nat}{o:Oper}(ho:all[i]?= some o){L:Array Bool}(hpre:∀e∈o.after,Region.binds .any e=true→L.getD e.on false=true):∀{pl:eH} {c1 c2 E:List Nat},fG all n cont rest pl (c1++i::c2) E L→fG all n cont rest pl (c1++c2) E (L.setIfInBounds i true)
 |.fin c,c1,c2,E,h=>by
  have h':cont (c1++i::(c2++c)) E L:=by
   have h2:cont (c1++i::c2++c) E L:=h;simpa using h2
  have:=hc.erase c1 i (c2++c) E L o ho hpre h';show cont (c1++c2++c) E _;rw[List.append_assoc];exact this
 |.fork d p A q B,c1,c2,E,h=>by
  obtain⟨h1,h2,h3⟩:=h;have e:∀z:Nat,c1++i::c2++d++[z]=c1++i::(c2++d++[z]):=fun z=>by simp
  have e':∀z:Nat,c1++(c2++d++[z])=c1++c2++d++[z]:=fun z=>by simp
  rw[e]at h1 h2;have s1:=fG.erase hc ho hpre h1;have s2:=fG.erase hc ho hpre h2;rw[e']at s1 s2;exact⟨s1,s2,h3⟩
 |.forkN d p ps A,c1,c2,E,h=>by
  refine⟨fun z hz=>?_,h.2⟩;obtain⟨h1,h2,h3⟩:=h.1 z hz;have e:c1++i::c2++d++[z]=c1++i::(c2++d++[z]):=by simp
  have e':c1++(c2++d++[z])=c1++c2++d++[z]:=by simp
  rw[e]at h1;have s1:=fG.erase hc ho hpre h1;rw[e']at s1;exact⟨s1,h2,h3⟩
theorem L6(n:Nat)(fl:Nat→Bool):∀segs:List eH,wM all n fl (IR all n fl segs) (kW segs)
 | []=>⟨fun pre E L h=>by rw[kW,List.append_nil];exact h.1,fun pre E L h=>h.2,fun c1 i c2 E L o ho hpre h=>⟨h.1.step ho hpre,h.2.erase⟩⟩
 |_::segs=>⟨fun pre E L h=>fG.part (L6 n fl segs) h,fun pre E L h=>fG.good (L6 n fl segs) h,fun c1 i c2 E L o ho hpre h=>fG.erase (L6 n fl segs) ho hpre h⟩
theorem zP.frontE{n:Nat}{E:List Nat}{fl:Nat→Bool}{bJ:Array Bool}{c1 c2 c3:List Nat}{i:Nat}{o:Oper}(h:zP all n bJ (c1++i::c3))(hg:qV all n E fl (c1++i::c2))(ho:all[i]?= some o)(hpre:∀e∈o.after,Region.binds .any e=true→bJ.getD e.on false=true)(hE:∀e∈E,e∉c1):
  ∀x∈c1,eP all x=true∧jM all x i=true∧(eP all i=true∨fl i=true∨oL all x=true):=by
 intro x hx;rcases hg c1 i c2 rfl x hx with he|hr|hr
 ·exact absurd hx (hE x he)
 ·have hxl:=h.lt x (by simp[hx]);have:=lB h.closed n i x o ho hpre (fun j hj=>by
   rcases Nat.lt_or_ge j bJ.size with h'|h'
   ·have:=h.size;omega
   ·simp[Array.getElem?_eq_none h']at hj) hr
  have h2:=(h.mem x hxl).1 (by simp[hx]);rw[h2]at this;cases this
 ·exact hr
theorem rQ{fl:Nat→Bool}{K:Act→World→Prop}{i:Nat}{a:Act}{w:World}(h:gQ r bad P all fl Q i K a w):uC r bad P all fl K Q [i] a w:=by
 rw[jE];exact h
theorem mD{n:Nat}{fl:Nat→Bool}{cont:List Nat→List Nat→Array Bool→Prop}{rest:List Nat}{kont:Act→World→Prop}(hnd:jO all=true)(hQ:PI Q)(hc:wM all n fl cont rest)
  (hcont:∀(pre E:List Nat) (L:Array Bool) (a:Act) (w:World),(∀e∈E,L.getD e false=true)→cont pre E L→uC r bad P all fl kont Q pre a w→wpAnyIn (FW r) 0 P .any all Q (pre++rest).length L a w):
  ∀(pl:eH) (pre E:List Nat) (L:Array Bool) (a:Act) (w:World),(∀e∈E,L.getD e false=true)→fG all n cont rest pl pre E L→uC r bad P all fl (FE r bad P all fl Q kont pl) Q pre a w→
  wpAnyIn (FW r) 0 P .any all Q (pre++(pl.list++rest)).length L a w
 |.fin c,pre,E,L,a,w,hE,hr,h=>by
  have:=hcont (pre++c) E L a w hE hr (iX pre c a w h);rw[List.append_assoc]at this;exact this
 |.fork d p A q B,pre,E,L,a,w,hE,hr,h=>by
  have hmain:∀(m:Nat) (d':List Nat) (L:Array Bool) (a:Act) (w:World),d'.length=m→(∀e∈E,L.getD e false=true)→fG all n cont rest A (d'++[p]) (p::E) L→fG all n cont rest B (d'++[q]) (q::E) L→q∈A.list++rest→A.list.length=B.list.length→(∀i∈A.list++rest,i=q∨gZ all n i p=true∨gZ all n i q=true)→
    uC r bad P all fl (fun a w=>gQ r bad P all fl Q p (FE r bad P all fl Q kont A) a w∧gQ r bad P all fl Q q (FE r bad P all fl Q kont B) a w) Q d' a w→wpAnyIn (FW r) 0 P .any all Q (d'++p::(A.list++rest)).length L a w:=by
   intro m;induction m using Nat.strongRecOn with
   |_ m ih=>
   intro d' L a w hm hE hA hB hqA hlen he h;have h1:=fG.part hc hA;have h2:=fG.part hc hB;rw[List.append_assoc]at h1 h2;have gA:=fG.good hc hA;have gB:=fG.good hc hB;simp only[List.singleton_append]at h1 h2;obtain⟨k,hk⟩:∃k,(d'++p::(A.list++rest)).length=k+1:=⟨d'.length+(A.list++rest).length,by simp;omega⟩
   rw[hk];constructor
   ·intro h0;exfalso
    match hcc:d'++p::(A.list++rest),hk with
    |i::c',_=>
     rw[hcc]at h1;have hil:=h1.lt i List.mem_cons_self;have hi:i∈Region.ready .any all L:=by
      refine mem_ready.2 ⟨?_,all[i],by simp[hil],?_⟩
      ·have:=(h1.mem i hil).1 List.mem_cons_self;rw[Array.getD_eq_getD_getElem?]at this ⊢
       rw[Array.getElem?_eq_getElem (by rw[h1.size];exact hil)]at this ⊢
       exact this
      ·intro e he hb;rcases h1.topo [] i c' rfl _ (by simp[hil]) e he hb with h|h
       ·exact h
       ·cases h
     rw[h0]at hi;cases hi
   ·intro i hi;obtain⟨hun,o,ho,hpre⟩:=mem_ready.1 hi;have hil:i<all.size:=(Array.getElem?_eq_some_iff.1 ho).1;have hun':L.getD i false=false:=by
     have:=h1.size;rw[Array.getD_eq_getD_getElem?]at hun ⊢
     rw[Array.getElem?_eq_getElem Yd]at hun ⊢
     exact hun
    have hmem:=(h1.mem i hil).2 hun';have hun2:∀x,x∈d'++p::(A.list++rest)→gZ all n i x=true→False:=by
     intro x hx hr;have:=lB h1.closed n i x o ho hpre (fun j hj=>by
      rcases Nat.lt_or_ge j L.size with h'|h'
      ·have:=h1.size;omega
      ·simp[Array.getElem?_eq_none h']at hj) hr
     have h2:=(h1.mem x (h1.lt x hx)).1 hx;rw[h2]at this;cases this
    have hEd:∀e∈E,e∉d':=fun e he hm=>by
     have:=(h1.mem e (h1.lt e (by simp[hm]))).1 (by simp[hm]);rw[hE e he]at this;cases this
    have hnA:p∉d':=fun hp=>by
     have hn:=h1.nodup;rw[List.nodup_append]at hn;exact hn.2.2 p hp p Ye rfl
    have hnB:q∉d':=fun hp=>by
     have hn:=h2.nodup;rw[List.nodup_append]at hn;exact hn.2.2 q hp q Ye rfl
    rw[List.mem_append,List.mem_cons]at hmem;rcases hmem with hm'|rfl|hm'
    ·obtain⟨c1,c2,rfl⟩:=List.append_of_mem hm';have q1:∀z:Nat,(c1++i::c2)++[z]=c1++i::(c2++[z]):=fun z=>by simp
     have q2:∀z:Nat,c1++(c2++[z])=(c1++c2)++[z]:=fun z=>by simp
     rw[q1]at hA hB gA;have hk2:(c1++i::(c2++p::(A.list++rest))).length=k+1:=by rw[←hk];simp
     have h1':zP all n L (c1++i::(c2++p::(A.list++rest))):=by simpa using h1
     have hf:=h1'.frontE gA ho hpre (fun e he hm=>by
      rcases List.mem_cons.1 he with rfl|he
      ·exact hnA (by simp[hm])
      ·exact hEd e he (by simp[hm]))
     have hst:=lG hnd hQ c1 c2 a w hf h;refine wpOpIn_mono (fun a w hh=>?_) hst.wpOpIn;have sA:=fG.erase hc ho hpre hA;have sB:=fG.erase hc ho hpre hB;rw[q2]at sA sB;have:=ih (c1++c2).length (by rw[←hm];simp) (c1++c2) _ a w rfl (fun e he=>getD_set_true (hE e he)) sA sB hqA hlen ‹_› hh
     have hl:((c1++c2)++p::(A.list++rest)).length=k:=by simp at hk2 ⊢;omega
     rw[hl]at this;exact this
    ·have hw:=iX (K:=fun a w=>FE r bad P all fl Q kont A a w) d' [i] a w (lN (fun _ _ h=>rQ h.1) d' h);have hf:=h1.frontE (c2:=[]) gA ho hpre (fun e he hm=>by
      rcases List.mem_cons.1 he with rfl|he
      ·exact hnA hm
      ·exact hEd e he hm)
     have hst:=lG hnd hQ d' [] a w hf hw;refine wpOpIn_mono (fun a w hh=>?_) hst.wpOpIn;have sA:=fG.erase hc ho hpre hA;rw[List.append_nil]at sA hh;have:=mD hnd hQ hc hcont A d' (i::E) _ a w (fun e he=>by
      rcases List.mem_cons.1 he with rfl|he
      ·exact iO (by rw[h1.size];exact hil)
      ·exact getD_set_true (hE e he)) sA hh
     have hl:(d'++(A.list++rest)).length=k:=by simp at hk ⊢;omega
     rw[hl]at this;exact this
    ·by_cases hiq:i=q
     ·subst hiq;have hw:=iX (K:=fun a w=>FE r bad P all fl Q kont B a w) d' [i] a w (lN (fun _ _ h=>rQ h.2) d' h);have hf:=h2.frontE (c2:=[]) gB ho hpre (fun e he hm=>by
       rcases List.mem_cons.1 he with rfl|he
       ·exact hnB hm
       ·exact hEd e he hm)
      have hst:=lG hnd hQ d' [] a w hf hw;refine wpOpIn_mono (fun a w hh=>?_) hst.wpOpIn;have sB:=fG.erase hc ho hpre hB;rw[List.append_nil]at sB hh;have:=mD hnd hQ hc hcont B d' (i::E) _ a w (fun e he=>by
       rcases List.mem_cons.1 he with rfl|he
       ·exact iO (by rw[h1.size];exact hil)
       ·exact getD_set_true (hE e he)) sB hh
      have hl:(d'++(B.list++rest)).length=k:=by simp at hk ⊢;omega
      rw[hl]at this;exact this
     ·exfalso
      rcases he i hm' with hr|hr|hr
      ·exact hiq hr
      ·exact hun2 p Ye hr
      ·exact hun2 q (List.mem_append_right _ (List.mem_cons_of_mem _ hqA)) hr
  obtain⟨hA,hB,hqA,hlen,he⟩:=hr;have:=hmain (pre++d).length (pre++d) L a w rfl hE hA hB hqA hlen he (iX pre d a w h);have e:pre++d++p::(A.list++rest)=pre++((eH.fork d p A q B).list++rest):=by simp[eH.list]
  rw[e]at this;exact this

 |.forkN d p ps A,pre,E,L,a,w,hE,hr,h=>by
  have hmain:∀(m:Nat) (d':List Nat) (L:Array Bool) (a:Act) (w:World),d'.length=m→(∀e∈E,L.getD e false=true)→(∀i∈p::ps,fG all n cont rest (A i) (d'++[i]) (i::E) L∧(A i).list.length=(A p).list.length∧(i=p∨i∈(A p).list++rest))→(∀i∈(A p).list++rest,i∈ps∨∃q∈p::ps,gZ all n i q=true)→
    uC r bad P all fl (fun a w=>∀i∈p::ps,gQ r bad P all fl Q i (FE r bad P all fl Q kont (A i)) a w) Q d' a w→wpAnyIn (FW r) 0 P .any all Q (d'++p::((A p).list++rest)).length L a w:=by
   intro m;induction m using Nat.strongRecOn with
   |_ m ih=>
   intro d' L a w hm hE hA he h;have h1:=fG.part hc (hA p List.mem_cons_self).1;rw[List.append_assoc]at h1;simp only[List.singleton_append]at h1;obtain⟨k,hk⟩:∃k,(d'++p::((A p).list++rest)).length=k+1:=⟨d'.length+((A p).list++rest).length,by simp;omega⟩
   rw[hk];constructor
   ·intro h0;exfalso
    match hcc:d'++p::((A p).list++rest),hk with
    |i::c',_=>
     rw[hcc]at h1;have hil:=h1.lt i List.mem_cons_self;have hi:i∈Region.ready .any all L:=by
      refine mem_ready.2 ⟨?_,all[i],by simp[hil],?_⟩
      ·have:=(h1.mem i hil).1 List.mem_cons_self;rw[Array.getD_eq_getD_getElem?]at this ⊢
       rw[Array.getElem?_eq_getElem (by rw[h1.size];exact hil)]at this ⊢
       exact this
      ·intro e he hb;rcases h1.topo [] i c' rfl _ (by simp[hil]) e he hb with h|h
       ·exact h
       ·cases h
     rw[h0]at hi;cases hi
   ·intro i hi;obtain⟨hun,o,ho,hpre⟩:=mem_ready.1 hi;have hil:i<all.size:=(Array.getElem?_eq_some_iff.1 ho).1;have hun':L.getD i false=false:=by
     have:=h1.size;rw[Array.getD_eq_getD_getElem?]at hun ⊢
     rw[Array.getElem?_eq_getElem Yd]at hun ⊢
     exact hun
    have hmem:=(h1.mem i hil).2 hun';have hun2:∀x,x∈d'++p::((A p).list++rest)→gZ all n i x=true→False:=by
     intro x hx hr;have:=lB h1.closed n i x o ho hpre (fun j hj=>by
      rcases Nat.lt_or_ge j L.size with h'|h'
      ·have:=h1.size;omega
      ·simp[Array.getElem?_eq_none h']at hj) hr
     have h2:=(h1.mem x (h1.lt x hx)).1 hx;rw[h2]at this;cases this
    have hEd:∀e∈E,e∉d':=fun e he hm=>by
     have:=(h1.mem e (h1.lt e (by simp[hm]))).1 (by simp[hm]);rw[hE e he]at this;cases this
    have hnz:∀z∈p::ps,z∉d':=fun z hz hp=>by
     have hn:=(fG.part hc (hA z hz).1).nodup;rw[List.append_assoc,List.nodup_append]at hn;exact hn.2.2 z hp z Ye rfl
    have hin:∀z∈p::ps,z∈d'++p::((A p).list++rest):=fun z hz=>by
     rcases(hA z hz).2.2 with rfl|hz'
     ·simp
     ·exact List.mem_append_right _ (List.mem_cons_of_mem _ hz')
    by_cases hz:i∈p::ps
    ·have h2:=fG.part hc (hA i hz).1;rw[List.append_assoc]at h2;simp only[List.singleton_append]at h2;have hw:=iX (K:=fun a w=>FE r bad P all fl Q kont (A i) a w) d' [i] a w (lN (fun _ _ h=>rQ (h i hz)) d' h);have hf:=h2.frontE (c2:=[]) (fG.good hc (hA i hz).1) ho hpre (fun e he hm=>by
      rcases List.mem_cons.1 he with rfl|he
      ·exact hnz _ hz hm
      ·exact hEd e he hm)
     have hst:=lG hnd hQ d' [] a w hf hw;refine wpOpIn_mono (fun a w hh=>?_) hst.wpOpIn;have sA:=fG.erase hc ho hpre (hA i hz).1;rw[List.append_nil]at sA hh;have:=mD hnd hQ hc hcont (A i) d' (i::E) _ a w (fun e he=>by
      rcases List.mem_cons.1 he with rfl|he
      ·exact iO (by rw[h1.size];exact hil)
      ·exact getD_set_true (hE e he)) sA hh
     have hl:(d'++((A i).list++rest)).length=k:=by
      have:=(hA i hz).2.1;simp at hk ⊢;omega
     rw[hl]at this;exact this
    ·rw[List.mem_append,List.mem_cons]at hmem;rcases hmem with hm'|rfl|hm'
     ·obtain⟨c1,c2,rfl⟩:=List.append_of_mem hm';have q1:∀z:Nat,(c1++i::c2)++[z]=c1++i::(c2++[z]):=fun z=>by simp
      have q2:∀z:Nat,c1++(c2++[z])=(c1++c2)++[z]:=fun z=>by simp
      have gA:=fG.good hc (hA p List.mem_cons_self).1;rw[q1]at gA;have hk2:(c1++i::(c2++p::((A p).list++rest))).length=k+1:=by rw[←hk];simp
      have h1':zP all n L (c1++i::(c2++p::((A p).list++rest))):=by simpa using h1
      have hf:=h1'.frontE gA ho hpre (fun e he hm=>by
       rcases List.mem_cons.1 he with rfl|he
       ·exact hnz _ List.mem_cons_self (by simp[hm])
       ·exact hEd e he (by simp[hm]))
      have hst:=lG hnd hQ c1 c2 a w hf h;refine wpOpIn_mono (fun a w hh=>?_) hst.wpOpIn;have:=ih (c1++c2).length (by rw[←hm];simp) (c1++c2) _ a w rfl (fun e he=>getD_set_true (hE e he)) (fun z hz=>by
       have hz1:=(hA z hz).1;rw[q1]at hz1;have sA:=fG.erase hc ho hpre hz1;rw[q2]at sA;exact⟨sA,(hA z hz).2⟩) he hh
      have hl:((c1++c2)++p::((A p).list++rest)).length=k:=by simp at hk2 ⊢;omega
      rw[hl]at this;exact this
     ·exact absurd List.mem_cons_self hz
     ·rcases he i hm' with hr|⟨q,hq,hr⟩
      ·exact absurd (List.mem_cons_of_mem _ hr) hz
      ·exact(hun2 q (hin q hq) hr).elim
  obtain⟨hA,he⟩:=hr;have:=hmain (pre++d).length (pre++d) L a w rfl hE hA he (iX pre d a w h);have e:pre++d++p::((A p).list++rest)=pre++((eH.forkN d p ps A).list++rest):=by simp[eH.list]
  rw[e]at this;exact this
theorem vD{n:Nat}{fl:Nat→Bool}(hnd:jO all=true)(hQ:PI Q):∀(segs:List eH) (pre E:List Nat) (L:Array Bool) (a:Act) (w:World),(∀e∈E,L.getD e false=true)→IR all n fl segs pre E L→uC r bad P all fl (UI r bad P all fl Q segs) Q pre a w→
  wpAnyIn (FW r) 0 P .any all Q (pre++kW segs).length L a w
 | [],pre,E,L,a,w,hE,hr,h=>by
  obtain⟨hp,hg⟩:=hr;rw[kW,List.append_nil];refine xI hnd hQ pre L a w hp.size hp.closed hp.nodup hp.mem hp.lt (hg.none fun e he hm=>?_) hp.topo h;have:=(hp.mem e (hp.lt e hm)).1 hm;rw[hE e he]at this;cases this
 |pl::segs,pre,E,L,a,w,hE,hr,h=>
  mD hnd hQ (L6 n fl segs) (vD hnd hQ segs) pl pre E L a w hE hr h

def AN(all:Array Oper)(n:Nat)(fls:List Bool)(S:List Nat)(i:Nat):Bool:=S.all fun x=>gZ all n i x||(eP all x&&jM all x i&&(eP all i||(fls.getD i false||oL all x)))
def lO(all:Array Oper)(n:Nat)(fls:List Bool)(S E:List Nat):List Nat→List Nat→Bool
 |_,[]=>true
 |before,i::rest=>K4 all n fls E i before&&AN all n fls S i&&oY all i (S++before)&& !(S++before).contains i&&Nat.blt i all.size&&lO all n fls S E (before++[i]) rest
def mE(all:Array Oper)(n:Nat)(fls:List Bool)(S rest T:List Nat):eH→List Nat→List Nat→Bool
 |.fin c,pre,E=>lO all n fls S E [] (pre++c)&&Nat.beq (pre++c).length T.length&&(pre++c).all T.contains&&T.all (pre++c).contains
 |.fork d p A q B,pre,E=>mE all n fls S rest T A (pre++d++[p]) (p::E)&&mE all n fls S rest T B (pre++d++[q]) (q::E)&&((A.list++rest).any fun i=>Nat.beq i q)&&Nat.beq A.list.length B.list.length&&(A.list++rest).all fun i=>Nat.beq i q||(gZ all n i p||gZ all n i q)
 |.forkN d p ps A,pre,E=>(p::ps).all (fun i=>mE all n fls S rest T (A i) (pre++d++[i]) (i::E)&&Nat.beq (A i).list.length (A p).list.length&&(Nat.beq i p||((A p).list++rest).contains i))&&((A p).list++rest).all fun i=>ps.contains i||(p::ps).any fun q=>gZ all n i q
def kD(all:Array Oper)(n:Nat)(fls:List Bool):List Nat→List eH→Bool
 |S,[]=>jO all&&Nat.beq S.length all.size&&(List.range all.size).all S.contains
 |S,pl::segs=>mE all n fls S (kW segs) pl.list pl [] []&&kD all n fls (S++pl.list) segs
structure I1(all:Array Oper)(n:Nat)(fls:List Bool)(S pre E:List Nat):Prop where
 nodup:pre.Nodup
 mem:∀i,i∈pre ↔ i∈S
 lt:∀i∈pre,i<all.size
 good:qV all n E (fun i=>fls.getD i false) pre
 topo:nG all (Array.replicate all.size false) pre
 len:pre.length=S.length
theorem I7{n:Nat}{S E:List Nat}{fls:List Bool}:∀(c before c1:List Nat) (i:Nat) (c2:List Nat),lO all n fls S E before c=true→c=c1++i::c2→
  K4 all n fls E i (before++c1)=true∧AN all n fls S i=true∧oY all i (S++(before++c1))=true∧i∉S++(before++c1)∧i<all.size:=by
 intro c;induction c with
 |nil=>intro before c1 i c2 _ h;simp at h
 |cons x c ih=>
  intro before c1 i c2 hc h;simp only[lO,Bool.and_eq_true]at hc;obtain⟨⟨⟨⟨⟨g,cr⟩,t⟩,nm⟩,lt⟩,hc⟩:=hc;cases c1 with
  |nil=>
   simp only[List.nil_append,List.cons.injEq]at h;rw[←h.1,List.append_nil];exact⟨g,cr,t,by simpa using nm,by simpa [Nat.blt_eq]using lt⟩
  |cons y c1=>
   simp only[List.cons_append,List.cons.injEq]at h;have:=ih (before++[x]) c1 i c2 hc h.2;rw[h.1]at this;simpa using this
theorem I1.more{n:Nat}{fls:List Bool}{S pre E E' T c:List Nat}(h:I1 all n fls S pre E)(hE:∀e∈E,e∈E')(hc:lO all n fls S E' [] c=true)(hT:∀i,i∈c ↔ i∈T)(hl:c.length=T.length):I1 all n fls (S++T) (pre++c) E':=by
 have sp:=fun c1 i c2 he=>I7 c [] c1 i c2 hc he
 simp only[List.nil_append]at sp;have hcn:c.Nodup:=by
  have key:∀(c before:List Nat),lO all n fls S E' before c=true→before.Nodup→(before++c).Nodup:=by
   intro c;induction c with
   |nil=>intro before _ h;simpa using h
   |cons i c ih=>
    intro before h hb;simp only[lO,Bool.and_eq_true]at h;have hn:i∉S++before:=by simpa using h.1.1.2
    have:=ih (before++[i]) h.2 (by
     rw[List.nodup_append];refine⟨hb,by simp,fun x hx y hy=>?_⟩;simp only[List.mem_singleton]at hy;rintro rfl;exact hn (List.mem_append_right _ (hy▸hx)))
    simpa using this
  simpa using key c [] hc List.nodup_nil
 have hcS:∀i∈c,i∉S:=fun i hi=>by
  obtain⟨c1,c2,rfl⟩:=List.append_of_mem hi;have:=(sp c1 i c2 rfl).2.2.2.1;exact fun hS=>this (List.mem_append_left _ hS)
 refine⟨?_,fun i=>?_,fun i hi=>?_,?_,?_,by simp[h.len,hl]⟩
 ·rw[List.nodup_append];exact⟨h.nodup,hcn,fun x hx y hy=>by rintro rfl;exact hcS x hy ((h.mem x).1 hx)⟩
 ·simp[h.mem,hT]
 ·rcases List.mem_append.1 hi with hi|hi
  ·exact h.lt i hi
  ·obtain⟨c1,c2,rfl⟩:=List.append_of_mem hi;exact(sp c1 i c2 rfl).2.2.2.2
 ·intro d1 i d2 he x hx;rcases List.append_eq_append_iff.1 he with⟨t,h1,h2⟩|⟨t,h1,h2⟩
  · -- i lies in c
   rw[h1]at hx;obtain⟨g,cr,_⟩:=sp t i d2 h2;rcases List.mem_append.1 hx with hx|hx
   ·have:=List.all_eq_true.1 cr x ((h.mem x).1 hx);simp only[Bool.or_eq_true,Bool.and_eq_true]at this;rcases this with h'|h'
    ·exact Or.inr (Or.inl h')
    ·exact Or.inr (Or.inr ⟨h'.1.1,h'.1.2,h'.2⟩)
   ·have:=List.all_eq_true.1 g x hx;simp only[Bool.or_eq_true,Bool.and_eq_true]at this;rcases this with(h'|h')|h'
    ·exact Or.inl (by simpa using h')
    ·exact Or.inr (Or.inl h')
    ·exact Or.inr (Or.inr ⟨h'.1.1,h'.1.2,h'.2⟩)
  ·cases t with
   |nil=>
    rw[List.append_nil]at h1;rw[List.nil_append]at h2;rw[←h1]at hx;obtain⟨g,cr,_⟩:=sp [] i d2 h2.symm;have:=List.all_eq_true.1 cr x ((h.mem x).1 hx);simp only[Bool.or_eq_true,Bool.and_eq_true]at this;rcases this with h'|h'
    ·exact Or.inr (Or.inl h')
    ·exact Or.inr (Or.inr ⟨h'.1.1,h'.1.2,h'.2⟩)
   |cons z t=>
    simp only[List.cons_append,List.cons.injEq]at h2;rw[←h2.1]at h1;rcases h.good d1 i t h1 x hx with h'|h'
    ·exact Or.inl (hE x h')
    ·exact Or.inr h'
 ·intro d1 i d2 he o ho e hm hb;rcases List.append_eq_append_iff.1 he with⟨t,h1,h2⟩|⟨t,h1,h2⟩
  ·obtain⟨_,_,tp,_⟩:=sp t i d2 h2;unfold oY at tp;rw[ho]at tp;simp only[Option.map_some,Option.getD_some,List.all_eq_true,Bool.or_eq_true,Bool.not_eq_true',List.contains_eq_mem,decide_eq_true_eq]at tp;rcases tp e (by simpa using hm)with h'|h'
   ·rw[hb]at h';cases h'
   ·rw[h1];rcases List.mem_append.1 h' with h'|h'
    ·exact Or.inr (List.mem_append_left _ ((h.mem _).2 h'))
    ·exact Or.inr (List.mem_append_right _ h')
  ·cases t with
   |nil=>
    rw[List.append_nil]at h1;rw[List.nil_append]at h2;obtain⟨_,_,tp,_⟩:=sp [] i d2 h2.symm;unfold oY at tp;rw[ho]at tp;simp only[Option.map_some,Option.getD_some,List.all_eq_true,Bool.or_eq_true,Bool.not_eq_true',List.contains_eq_mem,decide_eq_true_eq]at tp;rcases tp e (by simpa using hm)with h'|h'
    ·rw[hb]at h';cases h'
    ·rw[←h1];rcases List.mem_append.1 h' with h'|h'
     ·exact Or.inr ((h.mem _).2 h')
     ·cases h'
   |cons z t=>
    simp only[List.cons_append,List.cons.injEq]at h2;rw[←h2.1]at h1;exact h.topo d1 i t h1 o ho e hm hb
theorem mM{n:Nat}{fls:List Bool}{S rest T pre E:List Nat}{cont:List Nat→List Nat→Array Bool→Prop}(h:I1 all n fls S pre E)(hcont:∀pre' E',I1 all n fls (S++T) pre' E'→cont pre' E' (Array.replicate all.size false)):
  ∀{pl:eH} {lp Ep:List Nat},mE all n fls S rest T pl lp Ep=true→fG all n cont rest pl (pre++lp) (Ep++E) (Array.replicate all.size false)
 |.fin c,lp,Ep,hc=>by
  simp only[mE,Bool.and_eq_true,List.all_eq_true]at hc;obtain⟨⟨⟨h1,h2⟩,h3⟩,h4⟩:=hc;have h1':lO all n fls S (Ep++E) [] (lp++c)=true:=by
   have key:∀(c before:List Nat),lO all n fls S Ep before c=true→lO all n fls S (Ep++E) before c=true:=by
    intro c;induction c with
    |nil=>intro _ _;rfl
    |cons i c ih=>
     intro before hh;simp only[lO,Bool.and_eq_true]at hh ⊢
     refine⟨⟨⟨⟨⟨?_,hh.1.1.1.1.2⟩,hh.1.1.1.2⟩,hh.1.1.2⟩,hh.1.2⟩,ih _ hh.2⟩;unfold K4 at hh ⊢
     rw[List.all_eq_true];intro x hx;have:=List.all_eq_true.1 hh.1.1.1.1.1 x hx;simp only[Bool.or_eq_true]at this ⊢
     rcases this with(h'|h')|h'
     ·exact Or.inl (Or.inl (by simp only[List.contains_eq_mem,decide_eq_true_eq]at h' ⊢;exact List.mem_append_left _ h'))
     ·exact Or.inl (Or.inr h')
     ·exact Or.inr h'
   exact key _ _ h1
  have:=h.more (fun e he=>List.mem_append_right Ep he) h1' (T:=T) (fun i=>⟨fun hi=>by simpa using h3 i hi,fun hi=>by simpa using h4 i hi⟩) (Nat.eq_of_beq_eq_true h2);show cont (pre++lp++c) (Ep++E) _;rw[List.append_assoc];exact hcont _ _ this
 |.fork d p A q B,lp,Ep,hc=>by
  simp only[mE,Bool.and_eq_true]at hc;obtain⟨⟨⟨⟨hA,hB⟩,hq⟩,hl⟩,he⟩:=hc;have rA:=mM h hcont hA;have rB:=mM h hcont hB;simp only[←List.append_assoc]at rA rB;refine⟨rA,rB,?_,Nat.eq_of_beq_eq_true hl,fun i hi=>?_⟩
  ·obtain⟨x,hx,hb⟩:=List.any_eq_true.1 hq;rw[←Nat.eq_of_beq_eq_true hb];exact hx
  ·simpa using List.all_eq_true.1 he i hi
 |.forkN d p ps A,lp,Ep,hc=>by
  simp only[mE,Bool.and_eq_true]at hc;obtain⟨hA,he⟩:=hc;refine⟨fun i hi=>?_,fun i hi=>?_⟩
  ·have h1:=List.all_eq_true.1 hA i hi;simp only[Bool.and_eq_true]at h1;have rA:=mM h hcont h1.1.1;simp only[←List.append_assoc]at rA;refine⟨rA,Nat.eq_of_beq_eq_true h1.1.2,?_⟩;have h2:=h1.2;rw[Bool.or_eq_true]at h2;rcases h2 with h2|h2
   ·exact Or.inl (Nat.eq_of_beq_eq_true h2)
   ·exact Or.inr (by simpa using h2)
  ·have:=List.all_eq_true.1 he i hi;rw[Bool.or_eq_true]at this;rcases this with h1|h1
   ·exact Or.inl (by simpa using h1)
   ·obtain⟨q,hq,hr⟩:=List.any_eq_true.1 h1;exact Or.inr ⟨q,hq,hr⟩
theorem vI{n:Nat}{fls:List Bool}:∀{segs:List eH} {S pre E:List Nat},I1 all n fls S pre E→kD all n fls S segs=true→IR all n (fun i=>fls.getD i false) segs pre E (Array.replicate all.size false)
 | [],S,pre,E,h,hc=>by
  simp only[kD,Bool.and_eq_true,List.all_eq_true,List.mem_range,List.contains_eq_mem,decide_eq_true_eq]at hc;refine⟨⟨by simp,?_,h.nodup,fun i hi=>?_,h.lt,h.topo⟩,h.good⟩
  ·intro i o ho hl;simp[Array.getD_eq_getD_getElem?,Array.getElem?_replicate]at hl;split at hl<;>simp at hl
  ·simp only[Array.getD_eq_getD_getElem?,Array.getElem?_replicate,hi,if_true,Option.getD_some,iff_true];exact(h.mem i).2 (hc.2 i hi)
 |pl::segs,S,pre,E,h,hc=>by
  simp only[kD,Bool.and_eq_true]at hc;have:=mM (cont:=IR all n (fun i=>fls.getD i false) segs) (rest:=kW segs) (T:=pl.list) h (fun pre' E' h'=>vI h' hc.2) hc.1;rw[List.append_nil,List.nil_append]at this;exact this
theorem I2{n:Nat}{fls:List Bool}:∀{segs:List eH} {S:List Nat},kD all n fls S segs=true→jO all=true∧(S++kW segs).length=all.size
 | [],S,hc=>by
  simp only[kD,Bool.and_eq_true]at hc;rw[kW,List.append_nil];exact⟨hc.1.1,Nat.eq_of_beq_eq_true hc.1.2⟩
 |pl::segs,S,hc=>by
  simp only[kD,Bool.and_eq_true]at hc;obtain⟨h1,h2⟩:=I2 hc.2;rw[List.append_assoc]at h2;exact⟨h1,h2⟩
theorem lL{K:Act→World→Prop}{fl:Nat→Bool}:∀(c:List Nat) (a:Act) (w:World),(∀i∈c,i<all.size)→lI r bad P all K Q (eB all (c.map fun i=>(fl i,i))) a w→uC r bad P all fl K Q c a w:=by
 intro c;induction c with
 |nil=>intro a w _ h;exact h
 |cons i c ih=>
  intro a w hlt h;have hi:=hlt i List.mem_cons_self;have ho:all[i]?= some all[i]:=by simp[hi]
  have hd:all.getD i default=all[i]:=by simp[hi]
  have hrec:∀a w,lI r bad P all K Q (eB all (c.map fun i=>(fl i,i))) a w→uC r bad P all fl K Q c a w:=fun a w hh=>ih a w (fun j hj=>hlt j (List.mem_cons_of_mem _ hj)) hh
  simp only[eB,List.map_cons,lI,hd]at h;simp only[uC,ho];split at h
  ·rename_i hq;obtain⟨v,hy,h⟩:=h;rw[if_pos hq];exact⟨v,hy,hrec _ _ h⟩
  ·rename_i hq;rw[if_neg hq];exact h.mono hrec
def nT(r:Option Nat){γb:Type}[Membership Nat γb](bad:γb)(P:Program)(all:Array Oper)(fls:List Bool)(Q:Exit→Act→World→Prop)(kont:Act→World→Prop):eH→Act→World→Prop
 |.fin c=>lI r bad P all kont Q (eB all (c.map fun i=>(fls.getD i false,i)))
 |.fork d p A q B=>lI r bad P all (fun a w=>lI r bad P all (nT r bad P all fls Q kont A) Q (eB all [(fls.getD p false,p)]) a w∧lI r bad P all (nT r bad P all fls Q kont B) Q (eB all [(fls.getD q false,q)]) a w) Q (eB all (d.map fun i=>(fls.getD i false,i)))
 |.forkN d p ps A=>lI r bad P all (fun a w=>∀i∈p::ps,lI r bad P all (nT r bad P all fls Q kont (A i)) Q (eB all [(fls.getD i false,i)]) a w) Q (eB all (d.map fun i=>(fls.getD i false,i)))
def K5(r:Option Nat){γb:Type}[Membership Nat γb](bad:γb)(P:Program)(all:Array Oper)(fls:List Bool)(Q:Exit→Act→World→Prop)(K:Act→World→Prop):List eH→Act→World→Prop
 | []=>K
 |pl::segs=>nT r bad P all fls Q (K5 r bad P all fls Q K segs) pl
def mO(N:Nat):eH→Bool
 |.fin c=>c.all fun i=>Nat.blt i N
 |.fork d p A q B=>d.all (fun i=>Nat.blt i N)&&Nat.blt p N&&Nat.blt q N&&mO N A&&mO N B
 |.forkN d p ps A=>d.all (fun i=>Nat.blt i N)&&(p::ps).all fun i=>Nat.blt i N&&mO N (A i)
theorem mG{fls:List Bool}{kont kont':Act→World→Prop}(hk:∀a w,kont a w→kont' a w):∀{pl:eH} {a:Act} {w:World},mO all.size pl=true→nT r bad P all fls Q kont pl a w→FE r bad P all (fun i=>fls.getD i false) Q kont' pl a w
 |.fin c,a,w,hl,h=>lN hk c (lL c a w (fun i hi=>by simpa [Nat.blt_eq]using List.all_eq_true.1 hl i hi) h)
 |.fork d p A q B,a,w,hl,h=>by
  simp only[mO,Bool.and_eq_true,Nat.blt_eq]at hl;obtain⟨⟨⟨⟨h1,h2⟩,h3⟩,h4⟩,h5⟩:=hl;refine lN ?_ d (lL d a w (fun i hi=>by simpa [Nat.blt_eq]using List.all_eq_true.1 h1 i hi) h);rintro a w ⟨g1,g2⟩;have one:∀(z:Nat) (K:Act→World→Prop),z<all.size→lI r bad P all K Q (eB all [(fls.getD z false,z)]) a w→gQ r bad P all (fun i=>fls.getD i false) Q z K a w:=fun z K hz h=>by
   have:=lL (all:=all) (fl:=fun i=>fls.getD i false) [z] a w (by simpa using hz) h;rw[jE]at this;exact this
  exact⟨(one p _ h2 g1).mono fun a w h=>mG hk h4 h,(one q _ h3 g2).mono fun a w h=>mG hk h5 h⟩
 |.forkN d p ps A,a,w,hl,h=>by
  simp only[mO,Bool.and_eq_true]at hl;obtain⟨h1,h2⟩:=hl;refine lN ?_ d (lL d a w (fun i hi=>by simpa [Nat.blt_eq]using List.all_eq_true.1 h1 i hi) h);intro a w g i hi;have h3:=List.all_eq_true.1 h2 i hi;simp only[Bool.and_eq_true,Nat.blt_eq]at h3;have one:∀(z:Nat) (K:Act→World→Prop),z<all.size→lI r bad P all K Q (eB all [(fls.getD z false,z)]) a w→gQ r bad P all (fun i=>fls.getD i false) Q z K a w:=fun z K hz h=>by
   have:=lL (all:=all) (fl:=fun i=>fls.getD i false) [z] a w (by simpa using hz) h;rw[jE]at this;exact this
  exact(one i _ h3.1 (g i hi)).mono fun a w h=>mG hk h3.2 h
theorem uX{fls:List Bool}:∀{segs:List eH} {a:Act} {w:World},(segs.all fun pl=>mO all.size pl)=true→K5 r bad P all fls Q (fun a w=>Q .normal a w) segs a w→UI r bad P all (fun i=>fls.getD i false) Q segs a w
 | [],a,w,_,h=>h
 |pl::segs,a,w,hl,h=>by
  rw[List.all_cons,Bool.and_eq_true]at hl;exact mG (fun a w h=>uX hl.2 h) hl.1 h
theorem IE{id n:Nat}{fls:List Bool}{segs:List eH}{a:Act}{w:World}(hm:P.follows .mixedOrders=true)(hc:(kD all n fls [] segs&&segs.all fun pl=>mO all.size pl)=true)(hQ:PI Q)
  (h:K5 r bad P all fls Q (fun a w=>Q .normal a w) segs a {w with drawn:=w.drawn+1}):(Code.region id all true).wpIn (FW r) 0 P Q a w:=by
 rw[Bool.and_eq_true]at hc;obtain⟨hnd,hlen⟩:=I2 hc.1;have hr:=vI (S:=[]) (pre:=[]) (E:=[]) ⟨List.nodup_nil,fun i=>Iff.rfl,(fun i hi=>by cases hi),(fun c1 i c2 he=>by simp at he),(fun c1 i c2 he=>by simp at he),rfl⟩ hc.1;refine wpIn_region_any hm ?_;have:=vD (P:=P) (r:=r) (bad:=bad) (n:=n) (fl:=fun i=>fls.getD i false) hnd hQ segs [] [] (Array.replicate all.size false) a {w with drawn:=w.drawn+1} (fun e he=>by cases he) hr (uX hc.2 h);rw[hlen]at this;exact this
end Go.Fs
namespace Go.Fs
abbrev bF:=List (Nat×Value)
abbrev aB:=List (Nat×Obj)
abbrev aA:=Nat→List Value
def look:bF→Nat→Option Value
 | [],_=>none
 |(k,v)::r,s=>match Nat.beq k s with|true=>some v|false=>look r s
def ev(σ:bF):Operand→Option Value
 |.tmp t=>look σ t
 |.const v=>some v
 |.global g=>some (.pointer (some ⟨g,0,none⟩))
 |.func f=>some (.func (.func f) #[] #[])
def Le(D D':aA):Prop:=(∀b,D b <+: D' b)∧D' 0=D 0
theorem Le.refl(D:aA):Le D D:=⟨fun _=>List.prefix_refl _,rfl⟩
theorem Le.trans{D D' D'':aA}(h:Le D D')(h':Le D' D''):Le D D'':=⟨fun b=>(h.1 b).trans (h'.1 b),h'.2.trans h.2⟩
theorem Le.get{D D':aA}(h:Le D D'){b i:Nat}{v:Value}(hv:(D b)[i]?= some v):(D' b)[i]?= some v:=by
 obtain⟨t,ht⟩:=h.1 b;rw[←ht,List.getElem?_append_left]
 ·exact hv
 ·exact(List.getElem?_eq_some_iff.1 hv).1
def dD(D:aA)(w:World):Prop:=(∀b,D b≠[]→∃cs e fz,w.heap[b]?= some (.cells cs e fz)∧D b <+: cs.toList)∧D 0≠[]∧∃e fz,w.heap[0]?= some (.cells (D 0).toArray e fz)
theorem dD.of{D D':aA}{w w':World}(h:dD D w)(h1:∀b,D' b≠[]→∃cs e fz,w'.heap[b]?= some (.cells cs e fz)∧D' b <+: cs.toList)(hD:D' 0=D 0)(hw:w'.heap[0]?= w.heap[0]?):dD D' w':=by
 refine⟨h1,?_⟩;rw[hD,hw];exact h.2
theorem dD.ne0{D:aA}{w:World}(h:dD D w){b:Nat}(hb:D b=[]):b≠0:=fun e=>h.2.1 (e▸hb)
theorem dD.pos{D:aA}{w:World}(h:dD D w):0<w.heap.size:=by
 obtain⟨-, -,e,fz,h⟩:=h;exact(Array.getElem?_eq_some_iff.1 h).1
def cB:Obj→Prop
 |.cells _ _ z=>z=(0,0)
 |_=>True
def S9(w:World):Os×Array (Nat×ByteArray):=(w.os,w.output)
structure H0 where
 arr:Array Obj
 env:Option (Os×Array (Nat×ByteArray))
abbrev H0.size(h:H0):Nat:=h.arr.size
abbrev hd(w:World):H0:=⟨w.heap,some (S9 w)⟩
structure fA(h0:H0)(lo:Nat)(D0:aA)(mods:List Nat)(μ:aB)(D:aA)(w:World):Prop where
 hlo:h0.size≤lo
 size:lo≤w.heap.size
 old:∀b,b<h0.size→b∉mods→w.heap[b]?= h0.arr[b]?
 dold:∀b,b<h0.size→D b=D0 b
 agr:dD D w
 box:∀p∈μ,w.heap[p.1]?= some p.2∧D p.1=[]∧(lo≤p.1∨p.1∈mods)
 nd:(μ.map (·.1)).Nodup
 fz:∀p∈μ,cB p.2
 env:∀e,h0.env=some e→S9 w=e
def uS(lo:Nat)(D:aA)(w:World):Prop:=dD D w∧lo≤w.heap.size
theorem fA.dom{h0:H0}{lo:Nat}{D0:aA}{mods:List Nat}{μ:aB}{D:aA}{w:World}(h:fA h0 lo D0 mods μ D w):uS lo D w:=⟨h.agr,h.size⟩
def LU(β:List Nat)(D:aA)(w:World)(D':aA)(w':World):Prop:=w.heap.size≤w'.heap.size∧(∀b,b<w.heap.size→b∉β→w'.heap[b]?= w.heap[b]?∧D' b=D b)∧S9 w'=S9 w
theorem LU.refl(β:List Nat)(D:aA)(w:World):LU β D w D w:=⟨Nat.le_refl _,fun _ _ _=>⟨rfl,rfl⟩,rfl⟩
structure vS(lo:Nat)(J:List Nat→aA→World→Prop):Prop where
 low:∀β D w D' w',J β D w→LU β D w D' w'→uS lo D' w'→J β D' w'
 own:∀β β' D w,J β D w→(∀b∈β',b∈β∨w.heap.size≤b)→J β' D w
structure Cx where
 r:Option Nat
 N:Nat
 ds:List Deferred
 h0:H0
 lo:Nat
 D0:aA
 mods:List Nat
 ex:Option (List Nat→aA→World→Prop)
def sG(X:Cx)(μ:aB)(D:aA)(w:World):Prop:=
 match X.ex with
 |none=>True
 |some J=>vS X.lo J∧J (μ.map (·.1)) D w
theorem sG.step{X:Cx}{μ μ':aB}{D D':aA}{w w':World}(h:sG X μ D w)(hk:X.ex≠none→∀p∈μ',p.1∈μ.map (·.1)∨w.heap.size≤p.1)(hl:X.ex≠none→LU (μ.map (·.1)) D w D' w')(hd:uS X.lo D' w'):sG X μ' D' w':=by
 unfold sG at *;cases hx:X.ex with
 |none=>trivial
 |some J=>
  rw[hx]at h;have hne:X.ex≠none:=by simp[hx]
  refine⟨h.1,?_⟩;have h1:=h.1.own _ (μ'.map (·.1)++μ.map (·.1)) D w h.2 (fun b hb=>by
   rcases List.mem_append.1 hb with hb|hb
   ·obtain⟨p,hp,rfl⟩:=List.mem_map.1 hb;exact hk hne p hp
   ·exact Or.inl hb)
  have h2:=h.1.low _ D w D' w' h1 ⟨(hl hne).1,fun b hb hn=>(hl hne).2.1 b hb (fun hm=>hn (List.mem_append_right _ hm)),(hl hne).2.2⟩ hd;exact h.1.own _ _ D' w' h2 (fun b hb=>Or.inl (List.mem_append_left _ hb))
def Hl(X:Cx)(σ:bF)(μ:aB)(Ds:List aA)(a:Act)(w:World):Prop:=
 a.tmps.size=X.N∧(∀s v,look σ s=some v→a.tmps[s]?= some v)∧a.defers=X.ds∧∃D,fA X.h0 X.lo X.D0 X.mods μ D w∧(∀D₁∈Ds,Le D₁ D)∧sG X μ D w
def WL(P:Program)(X:Cx){γb:Type}[Membership Nat γb](bad:γb)(all:Array Oper)(K:Act→World→Prop)(Q:Exit→Act→World→Prop)(os:List (Bool×Nat))(σ:bF)(μ:aB)(Ds:List aA):Prop:=
 ∀a w,Hl X σ μ Ds a w→lI X.r bad P all K Q (eB all os) a w
def WC(P:Program)(X:Cx)(Q:Exit→Act→World→Prop)(c:Code)(σ:bF)(μ:aB)(Ds:List aA):Prop:=
 ∀a w,Hl X σ μ Ds a w→c.wpIn (FW X.r) 0 P Q a w
variable{P:Program}{X:Cx}{γb:Type}[Membership Nat γb]{bad:γb}{all:Array Oper}{K:Act→World→Prop}{Q:Exit→Act→World→Prop}
variable{σ:bF}{μ:aB}{Ds:List aA}{os:List (Bool×Nat)}{fl:Bool}{ix:Nat}
theorem Hl.eval{a:Act}{w:World}(h:Hl X σ μ Ds a w){x:Operand}{v:Value}(hx:ev σ x=some v):a.eval x=v:=by
 cases x with
 |tmp t=>
  have:=h.2.1 t v hx;show a.tmps.getD t undef=v;rw[Array.getD_eq_getD_getElem?,this];rfl
 |const v=>exact Option.some.inj hx
 |global g=>exact Option.some.inj hx
 |func f=>exact Option.some.inj hx
theorem Hl.put{a:Act}{w:World}(h:Hl X σ μ Ds a w){d:Nat}(hd:Nat.blt d X.N=true)(v:Value):Hl X ((d,v)::σ) μ Ds (a.put (some d) v) w:=by
 have hd':d<X.N:=by simpa [Nat.blt_eq]using hd
 refine⟨by simpa [Act.put]using h.1,fun s u hs=>?_,h.2.2.1,h.2.2.2⟩;simp only[look]at hs;simp only[Act.put];cases hb:Nat.beq d s with
 |true=>
  rw[hb]at hs;obtain rfl:=Nat.eq_of_beq_eq_true hb;cases hs;rw[Array.getElem?_setIfInBounds_self_of_lt (by rw[h.1];exact hd')]
 |false=>
  rw[hb]at hs;rw[Array.getElem?_setIfInBounds_ne (fun e=>by subst e;simp at hb)]
  exact h.2.1 s u hs
def J6:bF→bF→Prop
 |_,[]=>True
 |σ,(k,v)::r=>look σ k=some v∧J6 σ r
theorem J6.look{σ σ':bF}(h:J6 σ σ'){s:Nat}{v:Value}(hv:look σ' s=some v):look σ s=some v:=by
 induction σ' with
 |nil=>cases hv
 |cons p r ih=>
  obtain⟨k,u⟩:=p;simp only[Fs.look]at hv;cases hb:Nat.beq k s with
  |true=>rw[hb]at hv;cases hv;obtain rfl:=Nat.eq_of_beq_eq_true hb;exact h.1
  |false=>rw[hb]at hv;exact ih h.2 hv
theorem fA.sub{h0:H0}{lo:Nat}{D0:aA}{mods:List Nat}{μ μ':aB}{D:aA}{w:World}(h:fA h0 lo D0 mods μ D w)(hs:∀p∈μ',p∈μ)(hn:(μ'.map (·.1)).Nodup):fA h0 lo D0 mods μ' D w:=
 ⟨h.hlo,h.size,h.old,h.dold,h.agr,fun p hp=>h.box p (hs p hp),hn,fun p hp=>h.fz p (hs p hp),h.env⟩
theorem Hl.weak{σ':bF}{μ':aB}{Ds':List aA}{a:Act}{w:World}(h:Hl X σ μ Ds a w)(hσ:J6 σ σ')(hμ:μ'.Sublist μ)(hD:∀D∈Ds',∃D'∈Ds,Le D D'):Hl X σ' μ' Ds' a w:=by
 obtain⟨h1,h2,h3,D,h4,h5,h6⟩:=h;refine⟨h1,fun s v hv=>h2 s v (hσ.look hv),h3,D,h4.sub (fun p hp=>hμ.mem hp) ((hμ.map (·.1)).nodup h4.nd),fun D₁ hD₁=>?_,h6.step (fun _ p hp=>Or.inl (List.mem_map.2 ⟨p,hμ.mem hp,rfl⟩)) (fun _=>LU.refl _ _ _) h4.dom⟩;obtain⟨D₂,hm,hle⟩:=hD D₁ hD₁;exact hle.trans (h5 D₂ hm)
theorem J6.app{σ σ1 σ2:bF}(h1:J6 σ σ1)(h2:J6 σ σ2):J6 σ (σ1++σ2):=by
 induction σ1 with
 |nil=>exact h2
 |cons p r ih=>exact⟨h1.1,ih h1.2⟩
theorem uU{σ1 σ2:bF}{s:Nat}{v:Value}(h:look (σ1++σ2) s=some v):look σ1 s=some v∨look σ2 s=some v:=by
 induction σ1 with
 |nil=>exact Or.inr h
 |cons p r ih=>
  obtain⟨k,u⟩:=p;simp only[List.cons_append,look]at h ⊢
  cases hb:Nat.beq k s with
  |true=>rw[hb]at h;exact Or.inl h
  |false=>rw[hb]at h;exact ih h

def NP(Q:Exit→Act→World→Prop):Prop:=∀c a w,¬Q (.panic c) a w
theorem NP.pi(h:NP Q):PI Q:=fun c a _ w _ hq=>absurd hq (h c a w)
theorem TR{x y:Code}(h:WC P X (Exit.then (y.wpIn (FW X.r) 0 P Q) Q) x σ μ Ds):WC P X Q (.seq x y) σ μ Ds:=
 fun a w hh=>wpIn_seq (h a w hh)
theorem _root_.Go.Fs.Zy{x:Code}{y:Code}(h:WC P X (Exit.then (y.wpIn (FW X.r) 0 P Q) Q) x σ μ Ds):WC P X Q (.seq x y) σ μ Ds:=TR h
theorem RH(h:∀a w,Hl X σ μ Ds a w→Q .normal a w):WC P X Q .skip σ μ Ds:=fun a w hh=>wpIn_skip (h a w hh)
theorem _root_.Go.Fs.Zac(h:∀a w,Hl X σ μ Ds a w→Q .normal a w):WC P X Q .skip σ μ Ds:=RH h
theorem aZ{id:Nat}(h:∀a w,Hl X σ μ Ds a w→Q (.exit id) a w):WC P X Q (.exit id) σ μ Ds:=fun a w hh=>wpIn_exit (h a w hh)
theorem aC(h:∀a w,Hl X σ μ Ds a w→Q .ret a w):WC P X Q .ret σ μ Ds:=fun a w hh=>wpIn_ret (h a w hh)
theorem PQ{y:Code}(h:WC P X Q y σ μ Ds):∀a w,Hl X σ μ Ds a w→(Exit.then (y.wpIn (FW X.r) 0 P Q) Q) .normal a w:=h
theorem _root_.Go.Fs.Zx{y:Code}(h:WC P X Q y σ μ Ds):∀a w,Hl X σ μ Ds a w→(Exit.then (y.wpIn (FW X.r) 0 P Q) Q) .normal a w:=PQ h
theorem aP{c:Operand}{x y:Code}{b:Bool}(hc:ev σ c=some (.bool b))(ht:b=true→WC P X Q x σ μ Ds)(hf:b=false→WC P X Q y σ μ Ds):WC P X Q (.cond c x y) σ μ Ds:=
 fun a w hh=>wpIn_cond_split (hh.eval hc) (fun e=>ht e a w hh) (fun e=>hf e a w hh)
theorem NG{id:Nat}{c:Code}(h:WC P X (Exit.inBlock id Q) c σ μ Ds):WC P X Q (.block id c) σ μ Ds:=fun a w hh=>wpIn_block (h a w hh)
theorem _root_.Go.Fs.Zae{id:Nat}{c:Code}(h:WC P X (Exit.inBlock id Q) c σ μ Ds):WC P X Q (.block id c) σ μ Ds:=NG h
theorem L8{id:Nat}{a:Act}{w:World}(h:Q .normal a w):Exit.inBlock id Q (.exit id) a w:=by simp[Exit.inBlock,h]
theorem zM{id id':Nat}(hne:Nat.beq id' id=false){a:Act}{w:World}(h:Q (.exit id') a w):Exit.inBlock id Q (.exit id') a w:=by
 have:id'≠id:=fun e=>by subst e;simp at hne
 simp[Exit.inBlock,this,h]
theorem HK(is:List (Bool×Nat)){id:Nat}{ops:Array Oper}(hi:is=(List.range ops.size).map fun i=>(false,i))(h:WL P X [] ops (fun a w=>Q .normal a w) Q is σ μ Ds):WC P X Q (.region id ops false) σ μ Ds:=
 fun a w hh=>HA (by rw[GH,←hi];exact h a w hh)
theorem C.rg{id:Nat}{ops:Array Oper}(h:WL P X [] ops (fun a w=>Q .normal a w) Q ((List.range ops.size).map fun i=>(false,i)) σ μ Ds):WC P X Q (.region id ops false) σ μ Ds:=HK _ rfl h
theorem C.rs{p:Prop}(h:p:=by repeat (first|exact trivial|refine⟨rfl,?_⟩)):p:=h
theorem C.fo{Q:Program}(h:Q.follows .mixedOrders=true:=by exact Tf.follows):Q.follows .mixedOrders=true:=h
theorem Hl.drew{a:Act}{w:World}(h:Hl X σ μ Ds a w):Hl X σ μ Ds a {w with drawn:=w.drawn+1}:=by
 obtain⟨h1,h2,h3,D,h4,h5,h6⟩:=h;exact⟨h1,h2,h3,D,⟨h4.hlo,h4.size,h4.old,h4.dold,h4.agr,h4.box,h4.nd,h4.fz,h4.env⟩,h5,h6.step (fun _ p hp=>Or.inl (List.mem_map.2 ⟨p,hp,rfl⟩)) (fun _=>⟨Nat.le_refl _,fun _ _ _=>⟨rfl,rfl⟩,rfl⟩) h4.dom⟩
theorem N8{γb:Type}[Membership Nat γb](bad:γb)(n:Nat)(c:List Nat)(bits:List Bool)(is:List (Bool×Nat)){id:Nat}{ops:Array Oper}(hm:P.follows .mixedOrders=true)(hQ:PI Q)(hc:(B1 ops n c&&(rJ ops n [] c==bits))=true)(hi:is=bits.zip c)
  (h:WL P X bad ops (fun a w=>Q .normal a w) Q is σ μ Ds):WC P X Q (.region id ops true) σ μ Ds:=by
 rw[Bool.and_eq_true]at hc;intro a w hh;refine OL (bad:=bad) hm hc.1 hQ ?_;rw[H8,eq_of_beq hc.2,←hi];exact h a _ hh.drew
theorem mW{γb:Type}[Membership Nat γb](bad:γb)(n:Nat)(c:List Nat)(bits:List Bool)(is:List (Bool×Nat)){id:Nat}{ops:Array Oper}(hm:P.follows .mixedOrders=true)(hQ:NP Q)(hc:(B1 ops n c&&(rJ ops n [] c==bits))=true)(hi:is=bits.zip c)
    (h:WL P X bad ops (fun a w=>Q .normal a w) Q is σ μ Ds):WC P X Q (.region id ops true) σ μ Ds:=N8 bad n c bits is hm hQ.pi hc hi h
theorem C.zm(f:Nat→Bool):∀l:List Nat,(l.map f).zip l=l.map fun i=>(f i,i)
 | []=>rfl
 |a::l=>by rw[List.map_cons,List.zip_cons_cons,C.zm f l];rfl
def C.ms(n m:Nat):List (Bool×Nat):=(List.range n).map fun i=>(Nat.testBit m i,i)
theorem C.drawPA{γb:Type}[Membership Nat γb](bad:γb)(n k m:Nat){id:Nat}{ops:Array Oper}(hQ:PI Q)(h:WL P X bad ops (fun a w=>Q .normal a w) Q (C.ms k m) σ μ Ds)(hc:(B1 ops n (List.range k)&&(rJ ops n [] (List.range k)==(List.range k).map fun i=>Nat.testBit m i))=true:=by kernel_rfl)(hm:P.follows .mixedOrders=true:=by exact Tf.follows):WC P X Q (.region id ops true) σ μ Ds:=
 N8 bad n _ _ _ hm hQ hc (C.zm _ _).symm h
theorem C.drawA{γb:Type}[Membership Nat γb](bad:γb)(n k m:Nat){id:Nat}{ops:Array Oper}(hQ:NP Q)(h:WL P X bad ops (fun a w=>Q .normal a w) Q (C.ms k m) σ μ Ds)(hc:(B1 ops n (List.range k)&&(rJ ops n [] (List.range k)==(List.range k).map fun i=>Nat.testBit m i))=true:=by kernel_rfl)(hm:P.follows .mixedOrders=true:=by exact Tf.follows):WC P X Q (.region id ops true) σ μ Ds:=C.drawPA bad n k m hQ.pi h hc hm
def WS(P:Program)(X:Cx){γb:Type}[Membership Nat γb](bad:γb)(all:Array Oper)(fls:List Bool)(K:Act→World→Prop)(Q:Exit→Act→World→Prop)(segs:List eH)(σ:bF)(μ:aB)(Ds:List aA):Prop:=
 ∀a w,Hl X σ μ Ds a w→K5 X.r bad P all fls Q K segs a w
def WP(P:Program)(X:Cx){γb:Type}[Membership Nat γb](bad:γb)(all:Array Oper)(fls:List Bool)(kont:Act→World→Prop)(Q:Exit→Act→World→Prop)(pl:eH)(σ:bF)(μ:aB)(Ds:List aA):Prop:=
 ∀a w,Hl X σ μ Ds a w→nT X.r bad P all fls Q kont pl a w
theorem JP{γb:Type}[Membership Nat γb](bad:γb)(n:Nat)(fls:List Bool)(segs:List eH){id:Nat}{ops:Array Oper}(hm:P.follows .mixedOrders=true)(hQ:PI Q)(hc:(kD ops n fls [] segs&&segs.all fun pl=>mO ops.size pl)=true)
  (h:WS P X bad ops fls (fun a w=>Q .normal a w) Q segs σ μ Ds):WC P X Q (.region id ops true) σ μ Ds:=by
 intro a w hh;exact IE (bad:=bad) hm hc hQ (h a _ hh.drew)
theorem wE{γb:Type}[Membership Nat γb](bad:γb)(n:Nat)(fls:List Bool)(segs:List eH){id:Nat}{ops:Array Oper}(hm:P.follows .mixedOrders=true)(hQ:NP Q)(hc:(kD ops n fls [] segs&&segs.all fun pl=>mO ops.size pl)=true)
  (h:WS P X bad ops fls (fun a w=>Q .normal a w) Q segs σ μ Ds):WC P X Q (.region id ops true) σ μ Ds:=JP bad n fls segs hm hQ.pi hc h
section segments
variable{fls:List Bool}{kont:Act→World→Prop}
theorem yK(h:∀a w,Hl X σ μ Ds a w→K a w):WS P X bad all fls K Q [] σ μ Ds:=h
theorem xK{c:List Nat}{segs:List eH}(is:List (Bool×Nat))(hi:is=c.map fun i=>(fls.getD i false,i))(h:WL P X bad all (fun a w=>K5 X.r bad P all fls Q K segs a w) Q is σ μ Ds):WS P X bad all fls K Q (.fin c::segs) σ μ Ds:=by
 subst hi;exact h
theorem O1{pl:eH}{segs:List eH}(h:WP P X bad all fls (fun a w=>K5 X.r bad P all fls Q K segs a w) Q pl σ μ Ds):WS P X bad all fls K Q (pl::segs) σ μ Ds:=h
theorem cE{c:List Nat}(is:List (Bool×Nat))(hi:is=c.map fun i=>(fls.getD i false,i))(h:WL P X bad all kont Q is σ μ Ds):WP P X bad all fls kont Q (.fin c) σ μ Ds:=by
 subst hi;exact h
theorem dS{d:List Nat}{p q:Nat}{A B:eH}(is:List (Bool×Nat))(hi:is=d.map fun i=>(fls.getD i false,i))
  (h:WL P X bad all (fun a w=>lI X.r bad P all (nT X.r bad P all fls Q kont A) Q (eB all [(fls.getD p false,p)]) a w∧lI X.r bad P all (nT X.r bad P all fls Q kont B) Q (eB all [(fls.getD q false,q)]) a w) Q is σ μ Ds):WP P X bad all fls kont Q (.fork d p A q B) σ μ Ds:=by
 subst hi;exact h
theorem gJ{p q:Nat}{A B:eH}(bp bq:Bool)(hp:fls.getD p false=bp)(hq:fls.getD q false=bq)(h1:WL P X bad all (fun a w=>nT X.r bad P all fls Q kont A a w) Q [(bp,p)] σ μ Ds)(h2:WL P X bad all (fun a w=>nT X.r bad P all fls Q kont B a w) Q [(bq,q)] σ μ Ds):
  ∀a w,Hl X σ μ Ds a w→lI X.r bad P all (nT X.r bad P all fls Q kont A) Q (eB all [(fls.getD p false,p)]) a w∧lI X.r bad P all (nT X.r bad P all fls Q kont B) Q (eB all [(fls.getD q false,q)]) a w:=fun a w hh=>by
 subst hp hq;exact⟨h1 a w hh,h2 a w hh⟩
theorem vL{d:List Nat}{p:Nat}{ps:List Nat}{A:Nat→eH}(is:List (Bool×Nat))(hi:is=d.map fun i=>(fls.getD i false,i))
  (h:WL P X bad all (fun a w=>∀i∈p::ps,lI X.r bad P all (nT X.r bad P all fls Q kont (A i)) Q (eB all [(fls.getD i false,i)]) a w) Q is σ μ Ds):WP P X bad all fls kont Q (.forkN d p ps A) σ μ Ds:=by
 subst hi;exact h
theorem V1{A:Nat→eH}:∀a w,Hl X σ μ Ds a w→∀i∈([]:List Nat),lI X.r bad P all (nT X.r bad P all fls Q kont (A i)) Q (eB all [(fls.getD i false,i)]) a w:=fun _ _ _ _ h=>by cases h
theorem lF{A:Nat→eH}{p:Nat}{ps:List Nat}(b:Bool){B:eH}(hb:fls.getD p false=b)(hB:A p=B)(h1:WL P X bad all (fun a w=>nT X.r bad P all fls Q kont B a w) Q [(b,p)] σ μ Ds)
  (h2:∀a w,Hl X σ μ Ds a w→∀i∈ps,lI X.r bad P all (nT X.r bad P all fls Q kont (A i)) Q (eB all [(fls.getD i false,i)]) a w):
  ∀a w,Hl X σ μ Ds a w→∀i∈p::ps,lI X.r bad P all (nT X.r bad P all fls Q kont (A i)) Q (eB all [(fls.getD i false,i)]) a w:=fun a w hh i hi=>by
 rcases List.mem_cons.1 hi with rfl|hi
 ·rw[hb,hB];exact h1 a w hh
 ·exact h2 a w hh i hi
end segments
def JK:List (Nat×eH)→Nat→eH
 | [],_=>.fin []
 |(j,pl)::l,i=>bif Nat.beq i j then pl else JK l i
theorem RK{γ:Type}{c:Code}(m:γ→Nat)(I:γ→Prop)(S:γ→bF)(M:γ→aB)(E:γ→List aA)(g₀:γ)(h₀:I g₀)(hσ:J6 σ (S g₀))(hμ:(M g₀).Sublist μ)(hD:∀D∈E g₀,∃D'∈Ds,Le D D')
  (round:∀g,I g→WC P X (Exit.then (fun a w=>∃g',I g'∧m g'<m g∧Hl X (S g') (M g') (E g') a w) Q) c (S g) (M g) (E g)):WC P X Q (.loop c) σ μ Ds:=by
 let p:Act→World→Nat→Prop:=fun a w n=>∃g,I g∧m g=n∧Hl X (S g) (M g) (E g) a w
 have ex:∀a w,(∃n,p a w n)→∃n,p a w n∧∀k,p a w k→n≤k:=by
  intro a w ⟨n,hn⟩;induction n using Nat.strongRecOn with
  |_ n ih=>
   by_cases h:∃k,k<n∧p a w k
   ·obtain⟨k,hk,hp⟩:=h;exact ih k hk hp
   ·exact⟨n,hn,fun k hk=>Nat.le_of_not_lt fun hl=>h ⟨k,hl,hk⟩⟩
 intro a w hh;refine wpIn_loop (fun a w=>∃n,p a w n) (fun a w=>open Classical in if h:∃n,p a w n then(ex a w h).choose else 0) ⟨_,g₀,h₀,rfl,hh.weak hσ hμ hD⟩ ?_;intro a w hI;obtain⟨⟨g,hg,hm,hst⟩,hmin⟩:=(ex a w hI).choose_spec;refine wpIn_mono (round g hg a w hst) fun e a' w' hq=>?_
 cases e with
 |normal=>
  obtain⟨g',hg',hlt,hst'⟩:=hq;have hI':∃n,p a' w' n:=⟨_,g',hg',rfl,hst'⟩
  refine⟨hI',?_⟩;simp only[dif_pos hI',dif_pos hI];have:=(ex a' w' hI').choose_spec.2 _ ⟨g',hg',rfl,hst'⟩;omega
 |_=>exact hq

def cR(all:Array Oper)(σ:bF):Option (Nat×Bool)→Prop
 |none=>True
 |some (j,want)=>∃s,(all[j]?).bind (·.dst)=some s∧look σ s=some (.bool want)
def UN(all:Array Oper)(σ:bF):Option (Nat×Bool)→Prop
 |none=>False
 |some (j,want)=>∃s v,(all[j]?).bind (·.dst)=some s∧look σ s=some v∧(match v with|.bool b=>Bool.xor b want|_=>true)=true
theorem Hl.wanted{a:Act}{w:World}(h:Hl X σ μ Ds a w){o:Oper}(hg:cR all σ o.guard):Region.wanted o (yielded all a.tmps)=true:=by
 unfold Region.wanted;cases hgd:o.guard with
 |none=>rfl
 |some p=>
  obtain⟨j,want⟩:=p;rw[hgd]at hg;obtain⟨s,hs,hl⟩:=hg;simp[yielded,hs,h.2.1 s _ hl]
theorem Hl.unwanted{a:Act}{w:World}(h:Hl X σ μ Ds a w){o:Oper}(hg:UN all σ o.guard):Region.wanted o (yielded all a.tmps)=false:=by
 unfold Region.wanted;cases hgd:o.guard with
 |none=>rw[hgd]at hg;exact hg.elim
 |some p=>
  obtain⟨j,want⟩:=p;rw[hgd]at hg;obtain⟨s,v,hs,hl,hv⟩:=hg;have hy:yielded all a.tmps j=(match v with|.bool b=>some b|_=>none):=by
   simp only[yielded,hs,Option.bind_some,h.2.1 s _ hl];cases v<;>rfl
  simp only[hy];cases v with
  |bool b=>cases b<;>cases want<;>first|rfl|(simp at hv)
  |_=>rfl
theorem aF(h:∀a w,Hl X σ μ Ds a w→K a w):WL P X bad all K Q [] σ μ Ds:=fun a w hh=>h a w hh
theorem _root_.Go.Fs.Zo(h:∀a w,Hl X σ μ Ds a w→K a w):WL P X bad all K Q [] σ μ Ds:=aF h
theorem oJ{o:Oper}(ho:all[ix]?= some o):eB all ((fl,ix)::os)=(fl,o)::eB all os:=by simp[eB,ho]
theorem kE{o:Oper}{d:Nat}{v:Value}(ho:all[ix]?= some o)(hq:fU o.op=true)(hd:o.dst=some d)(hN:Nat.blt d X.N=true)(hg:cR all σ o.guard)
  (hv:∀a w,Hl X σ μ Ds a w→∀w',jP bad w w'→(execOp a.eval o).run P w'=.ok (.value v) w') (k:WL P X bad all K Q os ((d,v)::σ) μ Ds):WL P X bad all K Q ((fl,ix)::os) σ μ Ds:=by
 intro a w hh;rw[oJ ho];simp only[lI,hq,if_true];refine⟨v,Or.inl ⟨hh.wanted hg,hv a w hh⟩,?_⟩;rw[hd];exact k _ _ (hh.put hN v)
theorem bD{o:Oper}{d:Nat}{v:Value}(ho:all[ix]?= some o)(hq:fU o.op=true)(hd:o.dst=some d)(hN:Nat.blt d X.N=true)(hg:cR all σ o.guard)
  (hv:∀ρ:Operand→Value,(∀x u,ev σ x=some u→ρ x=u)→∀w',(execOp ρ o).run P w'=.ok (.value v) w') (k:WL P X bad all K Q os ((d,v)::σ) μ Ds):WL P X bad all K Q ((fl,ix)::os) σ μ Ds:=
 kE ho hq hd hN hg (fun a _ hh w' _=>hv a.eval (fun _ _ hx=>hh.eval hx) w') k
theorem SA{o:Oper}{d:Nat}(ho:all[ix]?= some o)(hd:o.dst=some d)(hN:Nat.blt d X.N=true)(hg:UN all σ o.guard)(k:WL P X bad all K Q os ((d,undef)::σ) μ Ds):WL P X bad all K Q ((fl,ix)::os) σ μ Ds:=by
 intro a w hh;rw[oJ ho];simp only[lI];split
 ·refine⟨undef,Or.inr ⟨hh.unwanted hg,rfl⟩,?_⟩;rw[hd];exact k _ _ (hh.put hN _)
 ·unfold rL;rw[if_neg (by rw[hh.unwanted hg];simp),hd]
  exact k _ _ (hh.put hN _)
theorem _root_.Go.Fs.Zi{o:Oper}{d:Nat}(e9:(all[ix]?,o.dst)=(some o,some d))(k:WL P X bad all K Q os ((d,undef)::σ) μ Ds)(hN:Nat.blt d X.N=true:=by exact rfl)(hg:UN all σ o.guard:=by exact⟨_,_,rfl,rfl,rfl⟩):WL P X bad all K Q ((fl,ix)::os) σ μ Ds:=SA (congrArg (fun z=>z.1) e9) (congrArg (fun z=>z.2) e9) hN hg k
theorem jX{K':Act→World→Prop}:∀(xs ys:List (Bool×Oper)) (a:Act) (w:World),lI X.r bad P all (fun a w=>K' a w) Q xs a w→(∀a w,K' a w→lI X.r bad P all K Q ys a w)→lI X.r bad P all K Q (xs++ys) a w
 | [],ys,a,w,h,hk=>hk a w h
 |(fl,o)::xs,ys,a,w,h,hk=>by
  simp only[List.cons_append,lI]at h ⊢
  split at h
  ·rename_i hq;rw[if_pos hq];obtain⟨v,hy,h⟩:=h;exact⟨v,hy,jX xs ys _ _ h hk⟩
  ·rename_i hq;rw[if_neg hq];exact h.mono fun a w hh=>jX xs ys a w hh hk
theorem WL.append{K':Act→World→Prop}{xs ys:List (Bool×Nat)}{a:Act}{w:World}(h:lI X.r bad P all (fun a w=>K' a w) Q (eB all xs) a w)(hk:∀a w,K' a w→lI X.r bad P all K Q (eB all ys) a w):
  lI X.r bad P all K Q (eB all (xs++ys)) a w:=by
 rw[eB,List.map_append];exact jX _ _ a w h hk
theorem C5(xs ys:List (Bool×Nat)){s p:Nat}{b c want:Bool}(ho:os=xs++ys)(hs:look σ s=some (.bool b))
  (hyes:b=want→WL P X bad all (fun a w=>Hl X ((p,.bool c)::(s,.bool want)::σ) μ Ds a w) Q xs ((s,.bool want)::σ) μ Ds)
  (hno:b= !want→WL P X bad all (fun a w=>Hl X ((p,.bool (!want))::(s,.bool (!want))::σ) μ Ds a w) Q xs ((s,.bool (!want))::σ) μ Ds)
  (k:WL P X bad all K Q ys ((p,.bool (bif want then b&&c else b||c))::σ) μ Ds):WL P X bad all K Q os σ μ Ds:=by
 have hsub:∀u,Value.bool b=u→∀a w,Hl X σ μ Ds a w→Hl X ((s,u)::σ) μ Ds a w:=by
  rintro _ rfl a w ⟨h1,h2,h3⟩;refine⟨h1,fun t v ht=>?_,h3⟩;simp only[look]at ht;cases hb:Nat.beq s t with
  |true=>rw[hb]at ht;cases ht;obtain rfl:=Nat.eq_of_beq_eq_true hb;exact h2 _ _ hs
  |false=>rw[hb]at ht;exact h2 _ _ ht
 have hback:∀u v,Value.bool b=u→∀a w,Hl X ((p,v)::(s,u)::σ) μ Ds a w→Hl X ((p,v)::σ) μ Ds a w:=by
  rintro _ v rfl a w ⟨h1,h2,h3⟩;refine⟨h1,fun t v' ht=>?_,h3⟩;refine h2 t v' ?_;simp only[look]at ht ⊢
  cases hp:Nat.beq p t with
  |true=>rw[hp]at ht;exact ht
  |false=>
   rw[hp]at ht;cases hb:Nat.beq s t with
   |true=>obtain rfl:=Nat.eq_of_beq_eq_true hb;rw[←ht,hs]
   |false=>exact ht
 subst ho;intro a w hh;have kk:∀v,v=Value.bool (bif want then b&&c else b||c)→∀a w,Hl X ((p,v)::σ) μ Ds a w→lI X.r bad P all K Q (eB all ys) a w:=by rintro _ rfl a w h;exact k a w h
 cases b<;>cases want
 ·exact WL.append (hyes rfl a w (hsub _ rfl a w hh)) fun a w h=>kk _ rfl a w (hback _ _ rfl a w h)
 ·exact WL.append (hno rfl a w (hsub _ rfl a w hh)) fun a w h=>kk _ rfl a w (hback _ _ rfl a w h)
 ·exact WL.append (hno rfl a w (hsub _ rfl a w hh)) fun a w h=>kk _ rfl a w (hback _ _ rfl a w h)
 ·exact WL.append (hyes rfl a w (hsub _ rfl a w hh)) fun a w h=>kk _ rfl a w (hback _ _ rfl a w h)
theorem qH{fls:List Bool}{k1 k2:Act→World→Prop}(hk:∀a w,k1 a w→k2 a w):∀(pl:eH) (a:Act) (w:World),nT X.r bad P all fls Q k1 pl a w→nT X.r bad P all fls Q k2 pl a w
 |.fin c,a,w,h=>by
  have:=jX (X:=X) (K':=k1) _ [] a w h (fun a w h=>hk a w h);rw[List.append_nil]at this;exact this
 |.fork d p A q B,a,w,h=>by
  have one:∀(xs:List (Bool×Oper)) (K1 K2:Act→World→Prop) (a:Act) (w:World),lI X.r bad P all K1 Q xs a w→(∀a w,K1 a w→K2 a w)→lI X.r bad P all K2 Q xs a w:=fun xs K1 K2 a w h hh=>by
   have:=jX (X:=X) (K':=K1) xs [] a w h (fun a w h=>hh a w h);rw[List.append_nil]at this;exact this
  exact one _ _ _ a w h fun a w hh=>⟨one _ _ _ a w hh.1 (qH hk A),one _ _ _ a w hh.2 (qH hk B)⟩
 |.forkN d p ps A,a,w,h=>by
  have one:∀(xs:List (Bool×Oper)) (K1 K2:Act→World→Prop) (a:Act) (w:World),lI X.r bad P all K1 Q xs a w→(∀a w,K1 a w→K2 a w)→lI X.r bad P all K2 Q xs a w:=fun xs K1 K2 a w h hh=>by
   have:=jX (X:=X) (K':=K1) xs [] a w h (fun a w h=>hh a w h);rw[List.append_nil]at this;exact this
  exact one _ _ _ a w h fun a w hh i hi=>one _ _ _ a w (hh i hi) (qH hk (A i))
theorem vG{fls:List Bool}{K':Act→World→Prop}:∀(xs ys:List eH) (a:Act) (w:World),K5 X.r bad P all fls Q K' xs a w→(∀a w,K' a w→K5 X.r bad P all fls Q K ys a w)→K5 X.r bad P all fls Q K (xs++ys) a w
 | [],_,a,w,h,hk=>hk a w h
 |x::xs,ys,a,w,h,hk=>qH (fun a w h=>vG xs ys a w h hk) x a w h
theorem KH{fls:List Bool}{γ:Type}(I:γ→Prop)(S:γ→bF)(M:γ→aB)(E:γ→List aA)(xs ys:List eH){segs:List eH}(ho:segs=xs++ys)(h1:WS P X bad all fls (fun a w=>∃g,I g∧Hl X (S g) (M g) (E g) a w) Q xs σ μ Ds)
  (h2:∀g,I g→WS P X bad all fls K Q ys (S g) (M g) (E g)):WS P X bad all fls K Q segs σ μ Ds:=by
 subst ho;intro a w hh;exact vG xs ys a w (h1 a w hh) fun a w ⟨g,hg,h⟩=>h2 g hg a w h
theorem dA(xs ys:List (Bool×Nat)){s p:Nat}{b c:Bool}(ho:os=xs++ys)(hs:look σ s=some (.bool b))
  (hyes:b=true→WL P X bad all (fun a w=>Hl X ((p,.bool c)::(s,.bool true)::σ) μ Ds a w) Q xs ((s,.bool true)::σ) μ Ds)
  (hno:b=false→WL P X bad all (fun a w=>Hl X ((p,.bool false)::(s,.bool false)::σ) μ Ds a w) Q xs ((s,.bool false)::σ) μ Ds)
  (k:WL P X bad all K Q ys ((p,.bool (b&&c))::σ) μ Ds):WL P X bad all K Q os σ μ Ds:=
 C5 xs ys (want:=true) ho hs hyes hno k
theorem eI(xs ys:List (Bool×Nat)){s p:Nat}{b c:Bool}(ho:os=xs++ys)(hs:look σ s=some (.bool b))
  (hyes:b=false→WL P X bad all (fun a w=>Hl X ((p,.bool c)::(s,.bool false)::σ) μ Ds a w) Q xs ((s,.bool false)::σ) μ Ds)
  (hno:b=true→WL P X bad all (fun a w=>Hl X ((p,.bool true)::(s,.bool true)::σ) μ Ds a w) Q xs ((s,.bool true)::σ) μ Ds)
  (k:WL P X bad all K Q ys ((p,.bool (b||c))::σ) μ Ds):WL P X bad all K Q os σ μ Ds:=
 C5 xs ys (want:=false) ho hs hyes hno k
def tI:Nat→bF→Bool
 |0,_=>true
 |_,[]=>true
 |n+1,(k,_)::r=>(match look (r.drop n) k with|none=>true|some _=>false)&&tI n r
theorem qE:∀(n:Nat) (σ:bF),tI n σ=true→∀s v,look (σ.drop n) s=some v→look σ s=some v
 |0,σ,_,s,v,h=>h
 |n+1,[],_,s,v,h=>h
 |n+1,(k,u)::r,hd,s,v,h=>by
  simp only[tI,Bool.and_eq_true]at hd;simp only[List.drop_succ_cons]at h;have h2:=qE n r hd.2 s v h;simp only[look];cases hb:Nat.beq k s with
  |false=>exact h2
  |true=>
   obtain rfl:=Nat.eq_of_beq_eq_true hb;have:=hd.1;rw[h]at this;cases this
theorem Hl.cutK{p:Nat}{v:Value}{a:Act}{w:World}(n:Nat)(h:Hl X ((p,v)::σ) μ Ds a w)(hd:tI n σ=true):Hl X ((p,v)::σ.drop n) μ Ds a w:=by
 obtain⟨h1,h2,h3⟩:=h;refine⟨h1,fun s u hs=>h2 s u ?_,h3⟩;simp only[look]at hs ⊢
 cases hb:Nat.beq p s with
 |true=>rw[hb]at hs;exact hs
 |false=>rw[hb]at hs;exact qE n σ hd s u hs

theorem BG{k:Act→World→Prop}(h:∀a w,Hl X σ μ Ds a w→Q .ret a w):∀a w,Hl X σ μ Ds a w→Exit.then k Q .ret a w:=h
theorem _root_.Go.Fs.Zad{k:Act→World→Prop}(h:∀a w,Hl X σ μ Ds a w→Q .ret a w):∀a w,Hl X σ μ Ds a w→Exit.then k Q .ret a w:=BG h
theorem s8{k:Act→World→Prop}{id:Nat}(h:∀a w,Hl X σ μ Ds a w→Q (.exit id) a w):∀a w,Hl X σ μ Ds a w→Exit.then k Q (.exit id) a w:=h
theorem _root_.Go.Fs.Zaf{k:Act→World→Prop}{id:Nat}(h:∀a w,Hl X σ μ Ds a w→Q (.exit id) a w):∀a w,Hl X σ μ Ds a w→Exit.then k Q (.exit id) a w:=s8 h
theorem aD{id:Nat}(h:∀a w,Hl X σ μ Ds a w→Q .ret a w):∀a w,Hl X σ μ Ds a w→Exit.inBlock id Q .ret a w:=h
theorem q9{id:Nat}(h:∀a w,Hl X σ μ Ds a w→Q .normal a w):∀a w,Hl X σ μ Ds a w→Exit.inBlock id Q .normal a w:=h
theorem _root_.Go.Fs.Zag{id:Nat}(h:∀a w,Hl X σ μ Ds a w→Q .normal a w):∀a w,Hl X σ μ Ds a w→Exit.inBlock id Q .normal a w:=q9 h
theorem aE{id:Nat}(h:∀a w,Hl X σ μ Ds a w→Q .normal a w):∀a w,Hl X σ μ Ds a w→Exit.inBlock id Q (.exit id) a w:=fun a w hh=>L8 (h a w hh)
theorem vO{id id':Nat}(hne:Nat.beq id' id=false)(h:∀a w,Hl X σ μ Ds a w→Q (.exit id') a w):∀a w,Hl X σ μ Ds a w→Exit.inBlock id Q (.exit id') a w:=fun a w hh=>zM hne (h a w hh)
theorem cZ{γ:Type}{c:Code}(m:γ→Nat)(I:γ→Prop)(ch:γ→bF)(rest:bF)(M:γ→aB)(E:γ→List aA)(g₀:γ)(h₀:I g₀)(hch:J6 σ (ch g₀))(hrest:J6 σ rest)(hμ:(M g₀).Sublist μ)(hD:∀D∈E g₀,∃D'∈Ds,Le D D')
  (round:∀g,I g→WC P X (Exit.then (fun a w=>∃g',I g'∧m g'<m g∧Hl X (ch g'++rest) (M g') (E g') a w) Q) c (ch g++rest) (M g) (E g)):WC P X Q (.loop c) σ μ Ds:=
 RK m I (fun g=>ch g++rest) M E g₀ h₀ (J6.app hch hrest) hμ hD round
theorem bS{γ:Type}{c:Code}(m:γ→Nat)(I:γ→Prop)(ch:γ→bF)(rest:bF)(E:γ→List aA)(g₀:γ)(h₀:I g₀)(hch:J6 σ (ch g₀))(hrest:J6 σ rest)(hD:∀D∈E g₀,∃D'∈Ds,Le D D')
  (round:∀g,I g→WC P X (Exit.then (fun a w=>∃g',I g'∧m g'<m g∧Hl X (ch g'++rest) ((fun _=>μ) g') (E g') a w) Q) c (ch g++rest) μ (E g)):WC P X Q (.loop c) σ μ Ds:=
 cZ m I ch rest (fun _=>μ) E g₀ h₀ hch hrest (List.Sublist.refl _) hD round
theorem aN{γ:Type}{m:γ→Nat}{I:γ→Prop}{ch:γ→bF}{rest:bF}{M:γ→aB}{E:γ→List aA}{g:γ}(n:Nat)(g':γ)(h1:I g')(h2:m g'<m g)(hch:J6 σ (ch g'))(hn:tI n σ=true)(hr:σ.drop n=rest)(hμ:(M g').Sublist μ)(hD:∀D∈E g',∃D'∈Ds,Le D D'):
  ∀a w,Hl X σ μ Ds a w→Exit.then (fun a w=>∃g',I g'∧m g'<m g∧Hl X (ch g'++rest) (M g') (E g') a w) Q .normal a w:=by
 intro a w hh;refine⟨g',h1,h2,?_⟩;have h3:=hh.weak (σ':=ch g') hch hμ hD;refine⟨h3.1,fun s v hs=>?_,h3.2.2⟩;rcases uU hs with hs|hs
 ·exact h3.2.1 s v hs
 ·subst hr;exact hh.2.1 s v (qE n σ hn s v hs)
theorem aG{Ds:List aA}:∀D∈Ds,∃D'∈Ds,Le D D':=fun D h=>⟨D,h,Le.refl D⟩
section ops
variable{d:Nat}{x y z:Operand}{u v:Value}{ty:TypeId}{pos:String}{aft:Array Edge}{g:Option (Nat×Bool)}
theorem FI(ho:all[ix]?= some ⟨some d,.move x,ty,pos,aft,g⟩)(hx:ev σ x=some v)(hN:Nat.blt d X.N=true)(hg:cR all σ g)(k:WL P X bad all K Q os ((d,v)::σ) μ Ds):WL P X bad all K Q ((fl,ix)::os) σ μ Ds:=
 bD ho rfl rfl hN hg (fun ρ hρ w'=>by simp[execOp,hρ x v hx,Pure.pure]) k
theorem _root_.Go.Fs.Za(e9:(all[ix]?,ev σ x)=(some ⟨some d,.move x,ty,pos,aft,g⟩,some v))(k:WL P X bad all K Q os ((d,v)::σ) μ Ds)(hN:Nat.blt d X.N=true:=by exact rfl)(hg:cR all σ g:=by exact trivial):WL P X bad all K Q ((fl,ix)::os) σ μ Ds:=FI (congrArg (fun z=>z.1) e9) (congrArg (fun z=>z.2) e9) hN hg k
theorem _root_.Go.Fs.Zb(e9:(all[ix]?,ev σ x)=(some ⟨some d,.move x,ty,pos,aft,g⟩,some v))(k:WL P X bad all K Q os ((d,v)::σ) μ Ds)(hN:Nat.blt d X.N=true:=by exact rfl)(hg:cR all σ g:=by exact⟨_,rfl,rfl⟩):WL P X bad all K Q ((fl,ix)::os) σ μ Ds:=FI (congrArg (fun z=>z.1) e9) (congrArg (fun z=>z.2) e9) hN hg k
theorem GF(ho:all[ix]?= some ⟨some d,.assign x,ty,pos,aft,g⟩)(hx:ev σ x=some v)(hN:Nat.blt d X.N=true)(hg:cR all σ g)(k:WL P X bad all K Q os ((d,v)::σ) μ Ds):WL P X bad all K Q ((fl,ix)::os) σ μ Ds:=
 bD ho rfl rfl hN hg (fun ρ hρ w'=>by simp[execOp,hρ x v hx,Pure.pure]) k
theorem _root_.Go.Fs.Zj(e9:(all[ix]?,ev σ x)=(some ⟨some d,.assign x,ty,pos,aft,g⟩,some v))(k:WL P X bad all K Q os ((d,v)::σ) μ Ds)(hN:Nat.blt d X.N=true:=by exact rfl)(hg:cR all σ g:=by exact trivial):WL P X bad all K Q ((fl,ix)::os) σ μ Ds:=GF (congrArg (fun z=>z.1) e9) (congrArg (fun z=>z.2) e9) hN hg k
theorem mJ(ho:all[ix]?= some ⟨some d,.pick x y z,ty,pos,aft,g⟩)(hx:ev σ x=some (.bool true))(hy:ev σ y=some v)(hN:Nat.blt d X.N=true)(hg:cR all σ g)(k:WL P X bad all K Q os ((d,v)::σ) μ Ds):WL P X bad all K Q ((fl,ix)::os) σ μ Ds:=
 bD ho rfl rfl hN hg (fun ρ hρ w'=>by simp[execOp,hρ x _ hx,hρ y _ hy,asBool,go_sem]) k
theorem _root_.Go.Fs.Zv(e9:(all[ix]?,ev σ x,ev σ y)=(some ⟨some d,.pick x y z,ty,pos,aft,g⟩,some (.bool true),some v))(k:WL P X bad all K Q os ((d,v)::σ) μ Ds)(hN:Nat.blt d X.N=true:=by exact rfl)(hg:cR all σ g:=by exact trivial):WL P X bad all K Q ((fl,ix)::os) σ μ Ds:=mJ (congrArg (fun z=>z.1) e9) (congrArg (fun z=>z.2.1) e9) (congrArg (fun z=>z.2.2) e9) hN hg k
theorem mA(ho:all[ix]?= some ⟨some d,.pick x y z,ty,pos,aft,g⟩)(hx:ev σ x=some (.bool false))(hy:ev σ z=some v)(hN:Nat.blt d X.N=true)(hg:cR all σ g)(k:WL P X bad all K Q os ((d,v)::σ) μ Ds):WL P X bad all K Q ((fl,ix)::os) σ μ Ds:=
 bD ho rfl rfl hN hg (fun ρ hρ w'=>by simp[execOp,hρ x _ hx,hρ z _ hy,asBool,go_sem]) k
theorem _root_.Go.Fs.Zw(e9:(all[ix]?,ev σ x,ev σ z)=(some ⟨some d,.pick x y z,ty,pos,aft,g⟩,some (.bool false),some v))(k:WL P X bad all K Q os ((d,v)::σ) μ Ds)(hN:Nat.blt d X.N=true:=by exact rfl)(hg:cR all σ g:=by exact trivial):WL P X bad all K Q ((fl,ix)::os) σ μ Ds:=mA (congrArg (fun z=>z.1) e9) (congrArg (fun z=>z.2.1) e9) (congrArg (fun z=>z.2.2) e9) hN hg k
theorem bV{b:Bool}{t:TypeId}(ho:all[ix]?= some ⟨some d,.unOp .not t x,ty,pos,aft,g⟩)(hx:ev σ x=some (.bool b))(hN:Nat.blt d X.N=true)(hg:cR all σ g)(k:WL P X bad all K Q os ((d,.bool (!b))::σ) μ Ds):WL P X bad all K Q ((fl,ix)::os) σ μ Ds:=
 bD ho rfl rfl hN hg (fun ρ hρ w'=>by simp[execOp,hρ x _ hx,Op.unary,go_sem]) k
end ops
end Go.Fs
