/- Of the proof of BookGoesOn: Yy, Base, State. -/
import Derived.KernelRfl
import Derived.OrdersIn
import Derived.RangeFuncIn
import Derived.WalkKit
namespace Go
theorem GE : type_of% @List.Mem.head := @List.Mem.head
theorem GT : type_of% @List.not_mem_nil := @List.not_mem_nil
theorem LE : type_of% @List.Sublist.refl := @List.Sublist.refl
theorem LT : type_of% @List.Mem.tail := @List.Mem.tail
theorem aIW : type_of% @List.mem_cons := @List.mem_cons
theorem aIX : type_of% @List.length_append := @List.length_append
theorem aIY : type_of% @List.mem_map := @List.mem_map
theorem aIZ : type_of% @List.mem_append_right := @List.mem_append_right
theorem aJA : type_of% @List.mem_of_getElem? := @List.mem_of_getElem?
theorem aJB : type_of% @List.mem_cons_of_mem := @List.mem_cons_of_mem
theorem aJC : type_of% @List.getElem?_eq_getElem := @List.getElem?_eq_getElem
theorem aJD : type_of% @List.length_cons := @List.length_cons
theorem aJE : type_of% @Or.inr := @Or.inr
theorem aJF : type_of% @List.append_nil := @List.append_nil
theorem aJG : type_of% @List.mem_append_left := @List.mem_append_left
theorem aJH : type_of% @List.mem_cons_self := @List.mem_cons_self
theorem aJI : type_of% @Bool.and_eq_true := @Bool.and_eq_true
theorem aJJ : type_of% @List.nodup_append := @List.nodup_append
theorem aJK : type_of% @List.getElem?_eq_some_iff := @List.getElem?_eq_some_iff
theorem aJL : type_of% @List.append_assoc := @List.append_assoc
theorem aJM : type_of% @if_neg := @if_neg
theorem aJN : type_of% @List.map_append := @List.map_append
theorem aJO : type_of% @List.mem_append := @List.mem_append
theorem aJP : type_of% @List.take_add_one := @List.take_add_one
theorem aJQ : type_of% @Or.inl := @Or.inl
theorem aJR : type_of% @List.mem_singleton := @List.mem_singleton
theorem aJS : type_of% @congrArg := @congrArg
theorem aJT : type_of% @if_pos := @if_pos
theorem aJU : type_of% @Nat.le_refl := @Nat.le_refl
theorem aJV : type_of% @decide_eq_true_eq := @decide_eq_true_eq
theorem aJW : type_of% @List.all_eq_true := @List.all_eq_true
theorem aJX : type_of% @List.count_append := @List.count_append
theorem aJY : type_of% @List.map_cons := @List.map_cons
theorem aJZ : type_of% @Option.some.inj := @Option.some.inj
theorem aKA : type_of% @List.getElem?_map := @List.getElem?_map
theorem aKB : type_of% @List.Sublist.cons := @List.Sublist.cons
theorem aKC : type_of% @List.take_of_length_le := @List.take_of_length_le
theorem aKD : type_of% @List.count_cons := @List.count_cons
theorem aKE : type_of% @List.flatMap_append := @List.flatMap_append
theorem aKF : type_of% @List.nil_append := @List.nil_append
theorem aKG : type_of% @List.count_nil := @List.count_nil
theorem aKH : type_of% @List.size_toArray := @List.size_toArray
theorem aKI : type_of% @Bool.false_eq_true := @Bool.false_eq_true
theorem aKJ : type_of% @Option.map_some := @Option.map_some
theorem aKK : type_of% @List.drop_eq_nil_of_le := @List.drop_eq_nil_of_le
theorem aKL : type_of% @List.length_take := @List.length_take
theorem aKM : type_of% @List.take_append_of_le_length := @List.take_append_of_le_length
theorem aKN : type_of% @List.take_length := @List.take_length
theorem aKO : type_of% @of_decide_eq_true := @of_decide_eq_true
theorem aKP : type_of% @of_decide_eq_false := @of_decide_eq_false
theorem aKQ : type_of% @Nat.eq_of_beq_eq_true := @Nat.eq_of_beq_eq_true
theorem aKR : type_of% @List.flatMap_cons := @List.flatMap_cons
theorem aKS : type_of% @Bool.or_eq_true := @Bool.or_eq_true
theorem aKT : type_of% @Int.toNat_natCast := @Int.toNat_natCast
theorem aKU : type_of% @List.length_eraseIdx := @List.length_eraseIdx
theorem aKV : type_of% @List.flatMap_singleton := @List.flatMap_singleton
theorem aKW : type_of% @List.nodup_cons := @List.nodup_cons
theorem aKX : type_of% @List.getD_eq_getElem?_getD := @List.getD_eq_getElem?_getD
theorem aKY : type_of% @Array.getD_eq_getD_getElem? := @Array.getD_eq_getD_getElem?
theorem aKZ : type_of% @List.length_nil := @List.length_nil
theorem aLA : type_of% @List.length_map := @List.length_map
theorem aLB : type_of% @List.length_drop := @List.length_drop
theorem aLC : type_of% @Option.toList_some := @Option.toList_some
theorem aLD : type_of% @List.take_append_drop := @List.take_append_drop
theorem aLE : type_of% @List.foldl_append := @List.foldl_append
theorem aLF : type_of% @Option.map_none := @Option.map_none
theorem aLG : type_of% @List.range_succ := @List.range_succ
theorem aLH : type_of% @if_true := @if_true
theorem aLI : type_of% @List.nodup_nil := @List.nodup_nil
theorem aLJ : type_of% @Nat.le_of_ble_eq_true := @Nat.le_of_ble_eq_true
theorem aLK : type_of% @List.foldl_cons := @List.foldl_cons
theorem aLL : type_of% @List.drop_eq_getElem_cons := @List.drop_eq_getElem_cons
theorem aLM : type_of% @List.getElem?_drop := @List.getElem?_drop
theorem aLN : type_of% @List.cons.injEq := @List.cons.injEq
theorem aLO : type_of% @List.cons_append := @List.cons_append
theorem aLP : type_of% @List.filter_append := @List.filter_append
theorem aLQ : type_of% @Array.getElem?_setIfInBounds_ne := @Array.getElem?_setIfInBounds_ne
theorem aLR : type_of% @if_false := @if_false
theorem aLS : type_of% @Nat.le_trans := @Nat.le_trans
theorem aLT : type_of% @or_false := @or_false
theorem aLU : type_of% @Nat.lt_of_lt_of_le := @Nat.lt_of_lt_of_le
theorem aLV : type_of% @Nat.mul_one := @Nat.mul_one
theorem aLW : type_of% @Nat.add_mul := @Nat.add_mul
theorem aLX : type_of% @Array.getElem?_append_left := @Array.getElem?_append_left
theorem aLY : type_of% @decide_eq_false_iff_not := @decide_eq_false_iff_not
theorem aLZ : type_of% @List.length_filter_le := @List.length_filter_le
theorem aMA : type_of% @List.getElem?_append_left := @List.getElem?_append_left
theorem aMB : type_of% @Option.map_eq_some_iff := @Option.map_eq_some_iff
theorem aMC : type_of% @Nat.zero_add := @Nat.zero_add
theorem aMD : type_of% @List.getElem?_take_of_lt := @List.getElem?_take_of_lt
theorem aME : type_of% @Array.getElem?_eq_some_iff := @Array.getElem?_eq_some_iff
theorem aMF : type_of% @List.length_eq_zero_iff := @List.length_eq_zero_iff
theorem aMG : type_of% @List.getElem?_eq_none := @List.getElem?_eq_none
theorem aMH : type_of% @List.length_pos_iff := @List.length_pos_iff
theorem aMI : type_of% @List.getLast?_eq_some_getLast := @List.getLast?_eq_some_getLast
theorem aMJ : type_of% @List.mem_range := @List.mem_range
theorem aMK : type_of% @Bool.or_eq_false_iff := @Bool.or_eq_false_iff
theorem aML : type_of% @Nat.sub_zero := @Nat.sub_zero
theorem aMM : type_of% @List.length_singleton := @List.length_singleton
theorem aMN : type_of% @Bool.eq_iff_iff := @Bool.eq_iff_iff
theorem aMO : type_of% @Option.getD_some := @Option.getD_some
theorem aMP : type_of% @List.mapM_cons := @List.mapM_cons
theorem aMQ : type_of% @List.filter_cons := @List.filter_cons
theorem aMR : type_of% @Nat.pow_le_pow_right := @Nat.pow_le_pow_right
theorem aMS : type_of% @List.drop_zero := @List.drop_zero
theorem aMT : type_of% @List.any_append := @List.any_append
theorem aMU : type_of% @List.singleton_append := @List.singleton_append
theorem aMV : type_of% @List.mem_iff_getElem? := @List.mem_iff_getElem?
theorem aMW : type_of% @Prod.mk.injEq := @Prod.mk.injEq
theorem aMX : type_of% @Nat.zero_le := @Nat.zero_le
theorem aMY : type_of% @List.drop_append := @List.drop_append
theorem aMZ : type_of% @List.drop_drop := @List.drop_drop
theorem aNA : type_of% @Bool.true_and := @Bool.true_and
theorem aNB : type_of% @Array.getElem?_eq_getElem := @Array.getElem?_eq_getElem
theorem aNC : type_of% @List.map_nil := @List.map_nil
theorem aND : type_of% @List.length_set := @List.length_set
theorem aNE : type_of% @List.map_singleton := @List.map_singleton
theorem aNF : type_of% @Nat.zero_mul := @Nat.zero_mul
theorem aNG : type_of% @Nat.not_lt_zero := @Nat.not_lt_zero
theorem aNH : type_of% @Nat.min_eq_left := @Nat.min_eq_left
theorem aNI : type_of% @List.drop_length_add_append := @List.drop_length_add_append
theorem aNJ : type_of% @List.length_eraseIdx_of_lt := @List.length_eraseIdx_of_lt
theorem aNK : type_of% @List.getElem?_append_right := @List.getElem?_append_right
theorem aNL : type_of% @List.take_left := @List.take_left
theorem aNM : type_of% @and_self := @and_self
theorem aNN : type_of% @Nat.mul_le_mul_right := @Nat.mul_le_mul_right
theorem aNO : type_of% @List.mem_of_mem_take := @List.mem_of_mem_take
theorem aNP : type_of% @List.contains_eq_mem := @List.contains_eq_mem
theorem aNQ : type_of% @not_false_eq_true := @not_false_eq_true
theorem aNR : type_of% @beq_iff_eq := @beq_iff_eq
theorem aNS : type_of% @Bool.not_eq_true' := @Bool.not_eq_true'
theorem aNT : type_of% @List.map_map := @List.map_map
theorem aNU : type_of% @List.take_succ_cons := @List.take_succ_cons
theorem aNV : type_of% @List.length_take_le := @List.length_take_le
theorem aNW : type_of% @List.getElem?_range := @List.getElem?_range
theorem aNX : type_of% @List.getD_cons_succ := @List.getD_cons_succ
theorem aNY : type_of% @List.eq_nil_of_length_eq_zero := @List.eq_nil_of_length_eq_zero
theorem aNZ : type_of% @Array.toList_map := @Array.toList_map
theorem aOA : type_of% @Bool.not_false := @Bool.not_false
theorem aOB : type_of% @List.zip_cons_cons := @List.zip_cons_cons
theorem aOC : type_of% @List.nil_prefix := @List.nil_prefix
theorem aOD : type_of% @Option.some.injEq := @Option.some.injEq
theorem aOE : type_of% @List.ext_getElem? := @List.ext_getElem?
theorem aOF : type_of% @Bool.not_true := @Bool.not_true
theorem aOG : type_of% @List.mem_flatMap := @List.mem_flatMap
theorem aOH : type_of% @List.any_eq_true := @List.any_eq_true
theorem aOI : type_of% @List.drop_succ_cons := @List.drop_succ_cons
theorem aOJ : type_of% @trivial := @trivial
theorem Ya{p:Prop}(h:p:=by first|rfl|(simp only[aH, *];done)|(simp only[aH, *];rfl)|(simp only[aH, *];omega)):p:=h
theorem Yb{p:Prop}(h:p:=by first|rfl|(show some (Value.int _ _)=some (Value.int _ _);congr 2;omega)):p:=h
theorem Yc{p:Prop}(h:p:=by first|simp|assumption):p:=h
theorem Yd{p:Prop}(h:p:=by omega):p:=h
theorem Ye{p:Prop}(h:p:=by simp):p:=h
theorem Yf{p:Prop}(h:p:=by simp only[qR];omega):p:=h
theorem Yg{p:Prop}(h:p:=by kernel_rfl):p:=h
theorem Yh{p:Prop}(h:p:=by first|exact cY _|simp[cell1]):p:=h
theorem Yi{p:Prop}(h:p:=by simp[cell1]):p:=h
theorem Yj{p:Prop}(h:p:=by first|assumption|simp):p:=h
theorem Yk{p:Prop}(h:p:=by assumption):p:=h
theorem Yl{p:Prop}(h:p:=by simp only;omega):p:=h
theorem Ym{p:Prop}(h:p:=by rw[aJR];rintro rfl;exact hap (aIY.2 ⟨_,(LT _ (LT _ (GE _))),rfl⟩)):p:=h
theorem Yn{p:Prop}(h:p:=by rw[aJR];rintro rfl;exact hap (aIY.2 ⟨_,(LT _ (GE _)),rfl⟩)):p:=h
theorem Yo{p:Prop}(h:p:=by rw[aJR];rintro rfl;exact hap (aIY.2 ⟨_,(LT _ (LT _ (LT _ (GE _)))),rfl⟩)):p:=h
theorem Yp{p:Prop}(h:p:=by first|exact Or.inl rfl|exact Or.inr (fun p hp=>dO.in_ (hnu p hp))):p:=h
theorem Yq{p:Prop}(h:p:=by rw[←hHas.keys];exact aIY.2 ⟨p,hp,rfl⟩):p:=h
theorem Yr{p:Prop}(h:p:=by rw[aJR];rintro rfl;exact hap (aIY.2 ⟨_,(GE _),rfl⟩)):p:=h
theorem Ys{p:Prop}(h:p:=by first|omega|(simp only[ByteArray.size_append,xT,pS,aKH,aJD,aKZ];omega)):p:=h
theorem Yt{p:Prop}(h:p:=by rw[aJR];rintro rfl;exact hap (aIY.2 ⟨_,LT _ (GE _),rfl⟩)):p:=h
theorem Yu{p:Prop}(h:p:=by first|omega|(simp only[aND];omega)):p:=h
theorem Yw{p:Prop}(h:p:=by first|exact Tf.s282|(simp only[aH, *];exact Tf.s282)):p:=h
theorem Yx{p:Prop}(h:p:=by first|exact Tf.s179|(simp only[aH, *];exact Tf.s179)):p:=h
theorem Yy{p:Prop}(h:p:=by first|exact Tf.s101|(simp only[aH, *];exact Tf.s101)):p:=h
theorem Yz{p:Prop}(h:p:=by simp<;>omega):p:=h
theorem Yaa{p:Prop}(h:p:=by first|exact sK h4 h5|(rw[List.getElem?_set_ne Yd,List.getElem?_set_ne Yd];exact sK h4 h5)|(rw[List.getElem?_set_ne Yd,List.getElem?_set_ne Yd,List.getElem?_set_ne Yd];exact sK h4 h5)):p:=h
theorem Yab{p:Prop}(h:p:=by rwa [aKC Yd]at h2):p:=h
theorem Yac{p:Prop}(h:p:=by rw[aIX,hl1,←aLW];exact aLS (aNN _ Yd) (Nat.le_add_right _ _)):p:=h
theorem Yad{p:Prop}(h:p:=by first|rfl|(simp only[*];done)|(simp only[aH, *];rfl)|(simp only[aH, *];omega)):p:=h
theorem Yae{p:Prop}(h:p:=by rw[aJR];rintro rfl;exact hap (aIY.2 ⟨p,aJG _ hp,rfl⟩)):p:=h
theorem Yaf{p:Prop}(h:p:=by simp;omega):p:=h
theorem Yag{p:Prop}(h:p:=by first|omega|(simp only;omega)):p:=h
theorem Yah{p:Prop}(h:p:=by decide):p:=h
theorem Yai{p:Prop}(h:p:=by simpa using h):p:=h
theorem Yaj{p:Prop}(h:p:=by simpa using hi):p:=h
theorem Yak{p:Prop}(h:p:=by simpa using hc2):p:=h
theorem Yal{p:Prop}(h:p:=by first|assumption|exact aJB _ hDr):p:=h
theorem Yam{p:Prop}(h:p:=by simpa using hl):p:=h
theorem Yan{p:Prop}(h:p:=by rw[aLA,aLV]):p:=h
theorem Yao{p:Prop}(h:p:=by rw[←hm.keys];exact aIY.2 ⟨p,hp,rfl⟩):p:=h
end Go
namespace Go.Fs

def FW(r:Option Nat):Fence:={fn:=fun _=>True,depth:=none,alive:=false,round:=r}
theorem G7(r:Option Nat)(n:Nat):(FW r).room n:=fun _ h=>by simp[FW]at h
theorem OY(r:Option Nat)(P:Program)(m:Machine):m.fenced P (FW r):=
 fun _ _=>⟨fun h=>by simp[FW]at h,aJQ aOJ,fun _ _=>trivial,fun _ h=>by simp[FW]at h⟩
theorem L5{r:Option Nat}{P:Program}{m m':Machine}:StepsIn (Machine.fenced P (FW r)) P m m' ↔ Steps P m m':=
 ⟨StepsIn.steps,fun h=>(StepsIn.of_steps h).mono fun m _=>OY r P m⟩
theorem rH{r:Option Nat}{P:Program}{m m':Machine}{e:Ending}:ComesIn (Machine.fenced P (FW r)) P m m' e ↔ Comes P m m' e:=by
 cases e with
 |returned v=>exact L5
 |panicked chain=>exact L5
 |outgrown=>exact Iff.rfl
theorem cS{r:Option Nat}{n:Nat}{P:Program}{f:FuncId}{args:Array Value}{w:World}{R:Ending→World→Prop}:
    CallsIn (FW r) n P f args w R ↔ Calls P f args w R:=
  ⟨fun h cs=>let ⟨e,w',fr,r,s,x⟩:=h.2 cs (G7 _ _);⟨e,w',fr,r,rH.1 s,x⟩,
   fun h=>⟨aOJ,fun cs _=>let ⟨e,w',fr,r,s,x⟩:=h cs;⟨e,w',fr,r,rH.2 s,x⟩⟩⟩
def WW(P:Program)(l:Nat)(f:FuncId)(tmps:Array Value)(assign body:Code)(w:World)(R:Ending→World→Prop):Prop:=
 RoundIn (FW none) 0 P l f tmps assign body w R
theorem P8{r:Option Nat}{n:Nat}{P:Program}{l:Nat}{f:FuncId}{tmps:Array Value}{assign body:Code}{w:World}{R:Ending→World→Prop}
  (h:WW P l f tmps assign body w R):RoundIn (FW r) n P l f tmps assign body w R:=
 ⟨aOJ,fun c cs _=>let ⟨e,w',q,s⟩:=h.2 c cs (G7 _ _);⟨e,w',q,rH.2 (rH.1 s)⟩⟩

def jW{γb:Type}[Membership Nat γb](bad:γb)(w w':World):Prop:=w.heap.size≤w'.heap.size∧∀b,b<w.heap.size→b∉bad→w'.heap[b]?= w.heap[b]?
structure dO where
 l:List Nat
instance:Membership Nat dO:=⟨fun s b=>b∉s.l⟩
theorem dO.out{l:List Nat}{b:Nat}(h:b∈l):b∉(dO.mk l):=fun hn=>hn h
theorem dO.in_{l:List Nat}{b:Nat}(h:b∉l):b∈(dO.mk l):=h
theorem jW.refl{γb:Type}[Membership Nat γb](bad:γb)(w:World):jW bad w w:=⟨aJU _,fun _ _ _=>rfl⟩
theorem jW.trans{γb:Type}[Membership Nat γb]{bad:γb}{w w1 w2:World}(h:jW bad w w1)(h':jW bad w1 w2):jW bad w w2:=
 ⟨aLS h.1 h'.1,fun b hb hn=>(h'.2 b (aLU hb h.1) hn).trans (h.2 b hb hn)⟩

def hG:Op→Bool
 |.move _|.assign _|.pick _ _ _|.load _ _|.nilCheck _|.binOp _ _ _ _ _|.unOp _ _ _|.convert _ _ _|.fieldAddr _ _ _|.field _ _ _
 |.indexAddr _ _ _|.index _ _ _|.extract _ _|.slice _ _ _ _ _|.build _ _|.makeFunc _ _ _|.makeInterface _ _|.lookup _ _ _ _|.typeAssert _ _ _ _=>true
 |.call c=>match c.callee with|.builtin .len|.builtin .cap|.builtin .max|.builtin .min=>true|_=>false
 |_=>false
def kM:Op→Bool
 |.defer _=>true
 |.select _ _=>true
 |_=>false
def Yv{γb:Type}[Membership Nat γb](bad:γb)(P:Program)(all:Array Oper)(o:Oper)(a:Act)(w:World)(v:Value):Prop:=
 (Region.wanted o (yielded all a.tmps)=true∧∀w',jW bad w w'→(execOp a.eval o).run P w'=.ok (.value v) w')∨
 (Region.wanted o (yielded all a.tmps)=false∧v=undef)
def wB(r:Option Nat){γb:Type}[Membership Nat γb](bad:γb)(P:Program)(all:Array Oper)(Q:Exit→Act→World→Prop)(o:Oper)(fl:Bool)(K:Act→World→Prop)(a:Act)(w:World):Prop:=
 if Region.wanted o (yielded all a.tmps)=true then o.wpIn (FW r) 0 P a w (fun a' w'=>(fl=true→jW bad w w')∧K a' w') Q
 else K (a.put o.dst undef) w
def nL(r:Option Nat){γb:Type}[Membership Nat γb](bad:γb)(P:Program)(all:Array Oper)(K:Act→World→Prop)(Q:Exit→Act→World→Prop):List (Bool×Oper)→Act→World→Prop
 | [],a,w=>K a w
 |(fl,o)::os,a,w=>
  if hG o.op=true then ∃v,Yv bad P all o a w v∧nL r bad P all K Q os (a.put o.dst v) w
  else wB r bad P all Q o fl (nL r bad P all K Q os) a w
variable{r:Option Nat}{γb:Type}[Membership Nat γb]{bad:γb}{P:Program}{all:Array Oper}{Q:Exit→Act→World→Prop}
theorem yG{o:Oper}(h:kM o.op=false)(ro:Option Nat)(ρ:Operand→Value):Oper.semAt ro ρ o=execOp ρ o:=
 Oper.semAt_eq ro ρ o fun c hc=>by rw[hc]at h;cases h
theorem vI{o:Op}(h:hG o=true):kM o=false:=by
 cases o<;>first|rfl|(cases h)
theorem Yv.run{o:Oper}{a:Act}{w:World}{v:Value}(h:Yv bad P all o a w v)(hk:hG o.op=true){K:Act→World→Prop}{i:Nat}(hi:all[i]?= some o){n:Nat}
  (hK:K (a.put o.dst v) w):wpOpIn (FW r) n P all Q i K a w:=by
 unfold wpOpIn;simp only[hi];rcases h with⟨hw,hv⟩|⟨hw,rfl⟩
 ·rw[aJT hw];refine⟨fun _ _=>trivial,?_⟩;rw[yG (vI hk),hv w (jW.refl _ _)];exact hK
 ·rw[aJM (by simp[hw])];exact⟨fun _ _=>trivial,hK⟩
theorem BD{n:Nat}{o:Oper}{a:Act}{w:World}{K:Act→World→Prop}(h:o.wpIn (FW r) 0 P a w K Q):o.wpIn (FW r) n P a w K Q:=by
 refine⟨h.1,?_⟩;have h2:=h.2;generalize (o.semAt (FW r).round a.eval).run P w=x at *;cases x with
 |ok x w'=>
  cases x<;>simp only[Oper.uponIn]at h2 ⊢ <;>first
   |exact h2
   |exact⟨fun h=>by simp[FW]at h,cS.2 (cS.1 h2.2)⟩
   |exact⟨fun h=>by simp[FW]at h,fun c cs _=>h2.2 c cs (G7 _ _)⟩
   |exact⟨fun h=>by simp[FW]at h,aOJ,fun c cs _=>h2.2.2 c cs (G7 _ _)⟩
 |halt x w'=>cases x<;>exact h2

theorem L9{n:Nat}{K:Act→World→Prop}(hK:∀a w,K a w→Q .normal a w):∀(os:List (Bool×Oper)) (is:List Nat),is.map (fun i=>all[i]?)=os.map (fun o=>some o.2)→
  ∀a w,nL r bad P all K Q os a w→wpOpsIn (FW r) n P all Q is a w:=by
 intro os;induction os with
 |nil=>intro is h a w H;cases is with|nil=>exact hK _ _ H|cons=>simp at h
 |cons o os ih=>
  intro is h a w H;cases is with
  |nil=>simp at h
  |cons i is=>
   obtain⟨fl,o⟩:=o;simp only[aJY,aLN]at h;rw[wpOpsIn_cons];simp only[nL]at H;split at H
   ·rename_i hq;obtain⟨v,hy,H⟩:=H;exact hy.run hq h.1 (ih is h.2 _ _ H)
   ·unfold wpOpIn;simp only[h.1];unfold wB at H;split at H
    ·rename_i hw;rw[aJT hw];exact BD (Oper.wpIn_mono (fun a w hh=>ih is h.2 _ _ hh.2) H)
    ·rename_i hw;rw[aJM hw];exact⟨fun _ _=>trivial,ih is h.2 _ _ H⟩
theorem U2(all:Array Oper):(List.range all.size).map (fun i=>all[i]?)=all.toList.map some:=by
 apply List.ext_getElem
 ·simp
 ·intro i h1 h2;simp
theorem UP{id:Nat}{a:Act}{w:World}(h:nL r [] P all (fun a w=>Q .normal a w) Q (all.toList.map fun o=>(false,o)) a w):
  (Code.region id all false).wpIn (FW r) 0 P Q a w:=
 wpIn_region (L9 (fun _ _ h=>h) _ _ (by rw[U2];simp) _ _ h)

def jD(all:Array Oper):Nat→Nat→Nat→Bool
 |0,_,_=>false
 |n+1,i,x=>((all[i]?).map fun o=>o.after.toList.any fun e=>Region.binds .any e&&(Nat.beq e.on x||jD all n e.on x)).getD false
def mA(all:Array Oper)(n:Nat)(i:Nat):List Nat→Bool
 | []=>false
 |x::xs=> !jD all n i x||mA all n i xs
def fV(all:Array Oper)(x:Nat):Bool:=((all[x]?).map fun o=>hG o.op).getD false
def lD(all:Array Oper)(x i:Nat):Bool:=
 match all[x]?,all[i]? with
 |some x,some i=>x.apart all i
 |_,_=>false
def YL(all:Array Oper)(n:Nat)(i:Nat)(before:List Nat):Bool:=
 before.all fun x=>jD all n i x||(fV all x&&lD all x i)
def sM(all:Array Oper)(i:Nat)(before:List Nat):Bool:=
 ((all[i]?).map fun o=>o.after.toList.all fun e=> !Region.binds .any e||before.contains e.on).getD false
def nJ(all:Array Oper)(n:Nat):List Nat→List Nat→Bool
 |_,[]=>true
 |before,i::rest=>YL all n i before&&sM all i before&& !before.contains i&&nJ all n (before++[i]) rest
def kX(all:Array Oper):Bool:=all.toList.all fun o=> !kM o.op
def Z4(all:Array Oper)(n:Nat)(c:List Nat):Bool:=
 kX all&&(c.length==all.size)&&((List.range all.size).all fun i=>c.contains i)&&nJ all n [] c
def yO(r:Option Nat){γb:Type}[Membership Nat γb](bad:γb)(P:Program)(all:Array Oper)(fl:Nat→Bool)(K:Act→World→Prop)(Q:Exit→Act→World→Prop):List Nat→Act→World→Prop
 | [],a,w=>K a w
 |i::is,a,w=>
  match all[i]? with
  |none=>False
  |some o=>
   if hG o.op=true then ∃v,Yv bad P all o a w v∧yO r bad P all fl K Q is (a.put o.dst v) w
   else wB r bad P all Q o (fl i) (yO r bad P all fl K Q is) a w
def iQ(r:Option Nat){γb:Type}[Membership Nat γb](bad:γb)(P:Program)(all:Array Oper)(fl:Nat→Bool)(Q:Exit→Act→World→Prop)(i:Nat)(K:Act→World→Prop)(a:Act)(w:World):Prop:=
 match all[i]? with
 |none=>False
 |some o=>
  if hG o.op=true then ∃v,Yv bad P all o a w v∧K (a.put o.dst v) w
  else wB r bad P all Q o (fl i) K a w
theorem kR{fl:Nat→Bool}{K:Act→World→Prop}(i:Nat)(is:List Nat)(a:Act)(w:World):
  yO r bad P all fl K Q (i::is) a w=iQ r bad P all fl Q i (yO r bad P all fl K Q is) a w:=by
 rfl
theorem wB.mono{o:Oper}{f:Bool}{K K':Act→World→Prop}{a:Act}{w:World}(h:∀a w,K a w→K' a w)(H:wB r bad P all Q o f K a w):
  wB r bad P all Q o f K' a w:=by
 unfold wB at *;split at H
 ·rename_i hw;rw[aJT hw];exact Oper.wpIn_mono (fun a w hh=>⟨hh.1,h _ _ hh.2⟩) H
 ·rename_i hw;rw[aJM hw];exact h _ _ H
theorem iQ.mono{fl:Nat→Bool}{i:Nat}{K K':Act→World→Prop}{a:Act}{w:World}(h:∀a w,K a w→K' a w)(H:iQ r bad P all fl Q i K a w):
  iQ r bad P all fl Q i K' a w:=by
 unfold iQ at *;split at H
 ·exact H
 ·split at H
  ·rename_i hq;rw[aJT hq];obtain⟨v,y,k⟩:=H;exact⟨v,y,h _ _ k⟩
  ·rename_i hq;rw[aJM hq];exact H.mono h
theorem oC{fl:Nat→Bool}{K K':Act→World→Prop}(h:∀a w,K a w→K' a w):∀(is:List Nat) {a:Act} {w:World},yO r bad P all fl K Q is a w→yO r bad P all fl K' Q is a w
 | [],_,_,H=>h _ _ H
 |i::is,a,w,H=>by
  rw[kR]at H ⊢
  exact H.mono fun a w=>oC h is
theorem Yv.of_same{o:Oper}{v:Value}{a a':Act}{w w':World}(hy:Yv bad P all o a w v)(hk:jW bad w w')(he:execOp a'.eval o=execOp a.eval o)
  (hw:Region.wanted o (yielded all a'.tmps)=Region.wanted o (yielded all a.tmps)):Yv bad P all o a' w' v:=by
 rcases hy with⟨h1,h2⟩|⟨h1,h2⟩
 ·exact aJQ ⟨hw.trans h1,fun w2 hk2=>he▸h2 w2 (hk.trans hk2)⟩
 ·exact aJE ⟨hw.trans h1,h2⟩
def sD:Op→Bool
 |.build _ _=>true
 |.extract _ _=>true
 |.move _=>true
 |.assign _=>true
 |_=>false
def rE(all:Array Oper)(x:Nat):Bool:=((all[x]?).map fun o=>sD o.op).getD false
def WI{α:Type}(x:Sem α):Prop:=∀(P:Program) w v w1,x.run P w=.ok v w1→w1=w∧∀w',x.run P w'=.ok v w'
theorem WI.pure{α:Type}(a:α):WI (Pure.pure a:Sem α):=fun P w v w1 h=>by
 rw[Sem.run_pure]at h;cases h;exact⟨rfl,fun w'=>Sem.run_pure ..⟩
theorem WI.bind{α β:Type}{x:Sem α}{f:α→Sem β}(hx:WI x)(hf:∀a,WI (f a)):WI (x >>= f):=fun P w v w1 h=>by
 rw[Sem.run_bind]at h;cases hr:x.run P w with
 |ok a w2=>
  rw[hr]at h;obtain⟨rfl,h2⟩:=hx P w a w2 hr;obtain⟨rfl,h3⟩:=hf a P _ v w1 h;exact⟨rfl,fun w'=>by rw[Sem.run_bind,h2 w'];exact h3 w'⟩
 |halt z w2=>rw[hr]at h;cases h
theorem WI.halt{α:Type}(z:Halt):WI (Sem.halt z:Sem α):=fun P w v w1 h=>by cases h
theorem WI.program:WI program:=fun P w v w1 h=>by cases h;exact⟨rfl,fun w'=>rfl⟩
theorem WI.typeInfo(t:TypeId):WI (typeInfo t):=by
 unfold Go.typeInfo;refine WI.bind WI.program fun p=>?_
 split
 ·exact WI.pure _
 ·exact WI.halt _
theorem WI.underlying(t:TypeId):WI (underlying t):=by
 unfold Go.underlying;refine WI.bind WI.program fun p=>?_
 split
 ·exact WI.pure _
 ·exact WI.halt _
theorem WI.sizeOf(t:TypeId):WI (sizeOf t):=WI.bind (WI.typeInfo t) fun _=>WI.pure _
theorem WI.zeroValue(t:TypeId):WI (zeroValue t):=by
 unfold Go.zeroValue;refine WI.bind (WI.typeInfo t) fun p=>?_
 split
 ·exact WI.pure _
 ·exact WI.halt _
theorem WI.mapM{α β:Type}{f:α→Sem β}(hf:∀a,WI (f a))(as:Array α):WI (as.mapM f):=by
 rw[Array.mapM_eq_mapM_toList];refine WI.bind ?_ fun _=>WI.pure _
 generalize as.toList=l;induction l with
 |nil=>exact WI.pure _
 |cons a l ih=>
  rw[aMP];exact WI.bind (hf a) fun _=>WI.bind ih fun _=>WI.pure _
theorem WI.build(t:TypeId)(parts:Array (Nat×Value)):WI (Instr.build t parts):=by
 unfold Instr.build;refine WI.bind (WI.zeroValue t) fun z=>WI.bind (WI.underlying t) fun u=>?_
 split
 ·refine WI.bind (WI.mapM (fun f=>WI.bind (WI.sizeOf _) fun _=>WI.pure _) _) fun pl=>?_
  split
  ·exact WI.pure _
  ·exact WI.halt _
 ·refine WI.bind (WI.sizeOf _) fun sz=>?_
  split
  ·exact WI.pure _
  ·exact WI.halt _
 ·exact WI.halt _
theorem WI.extract(t:Value)(i:Nat):WI (Instr.extract t i):=by
 unfold Instr.extract;split
 ·split
  ·exact WI.pure _
  ·exact WI.halt _
 ·exact WI.halt _
theorem WH{o:Oper}(hp:sD o.op=true){ρ:Operand→Value}{P:Program}{w:World}{v:Value}(hr:(execOp ρ o).run P w=.ok (.value v) w):∀w',(execOp ρ o).run P w'=.ok (.value v) w':=by
 have:WI (execOp ρ o):=by
  cases o with
  |mk dst op type pos after guard=>
   cases op<;>first|(cases hp)|skip
   all_goals unfold execOp
   ·exact WI.pure _
   ·exact WI.pure _
   ·exact WI.bind (WI.build _ _) fun _=>WI.pure _
   ·exact WI.bind (WI.extract _ _) fun _=>WI.pure _
 exact(this P w _ w hr).2
theorem Yv.of_same'{o:Oper}{v:Value}{a a':Act}{w w':World}(hy:Yv bad P all o a w v)(hk:jW bad w w'∨sD o.op=true)(he:execOp a'.eval o=execOp a.eval o)
  (hw:Region.wanted o (yielded all a'.tmps)=Region.wanted o (yielded all a.tmps)):Yv bad P all o a' w' v:=by
 rcases hk with hk|hk
 ·exact hy.of_same hk he hw
 ·rcases hy with⟨h1,h2⟩|⟨h1,h2⟩
  ·exact aJQ ⟨hw.trans h1,fun w2 _=>he▸WH hk (h2 w (jW.refl _ _)) w2⟩
  ·exact aJE ⟨hw.trans h1,h2⟩
def PI(Q:Exit→Act→World→Prop):Prop:=∀c (a a':Act) w,a'.defers=a.defers→Q (.panic c) a w→Q (.panic c) a' w
theorem n7(a:Act)(d:Option Tmp)(v:Value):(a.put d v).defers=a.defers:=by cases d<;>rfl
theorem oI{o:Oper}(h:kM o.op=false):∀cs b,o.op≠.select cs b:=fun cs b e=>by rw[e]at h;cases h
theorem YO{x o:Oper}{f:Bool}{v:Value}(hap:x.apart all o=true)(hx:kM x.op=false)(ho:kM o.op=false)(hf:f=true∨sD x.op=true)(hQ:PI Q)
  {K:Act→World→Prop} {a:Act} {w:World} (hy:Yv bad P all x a w v) (h:wB r bad P all Q o f K (a.put x.dst v) w):
  wB r bad P all Q o f (fun a' w'=>Yv bad P all x a' w' v∧K (a'.put x.dst v) w') a w:=by
 obtain⟨h1,h2,h3⟩:=Oper.apart_spec hap;have keep:∀u w',(f=true→jW bad w w')→Yv bad P all x (a.put o.dst u) w' v:=fun u w' hk=>
  hy.of_same' (hf.imp hk id) (execOp_put x (oI hx) a o.dst u h3) (wanted_put x a o.dst u h3)
 unfold wB at *;rw[wanted_put o a x.dst v h1]at h;split at h
 ·rename_i hw;rw[aJT hw];refine⟨fun _ _=>trivial,?_⟩;have h:=h.2;rw[yG ho,execOp_put o (oI ho) a x.dst v h1]at h;rw[yG ho];generalize (execOp a.eval o).run P w=z at *;cases z with
  |ok z w'=>
   cases z<;>simp only[Oper.uponIn]at h ⊢
   case value u=>exact⟨h.1,keep u w' h.1,by rw[←Act.put_comm a v u h2];exact h.2⟩
   case skip=>exact⟨h.1,keep _ w' h.1,by rw[←Act.put_comm a v undef h2];exact h.2⟩
   case defer d=>
    refine⟨h.1,?_,?_⟩
    ·exact(hy.of_same' (a':={a with defers:=d::a.defers}.put o.dst undef) (hf.imp h.1 id)
      ((execOp_put x (oI hx) {a with defers:=d::a.defers} o.dst undef h3).trans rfl) ((wanted_put x {a with defers:=d::a.defers} o.dst undef h3).trans rfl))
    ·have e:=h.2;rw[Act.put_defers,Act.put_comm _ v undef h2]at e;exact e
   case enter f args=>
    refine⟨h.1,CallsIn.mono h.2 fun e w'' he=>?_⟩;cases e with
    |returned u=>exact⟨he.1,keep u w'' he.1,by rw[←Act.put_comm a v u h2];exact he.2⟩
    |panicked c=>exact hQ _ _ _ _ (n7 _ _ _).symm he
    |outgrown=>exact he
   case row row args=>exact⟨h.1,RowsIn.mono h.2 fun u w'' he=>⟨he.1,keep u w'' he.1,by rw[←Act.put_comm a v u h2];exact he.2⟩⟩
   case round l f tmps assign body=>
    refine⟨h.1,RoundIn.mono h.2 fun e w'' he=>?_⟩;cases e with
    |returned u=>exact⟨he.1,keep u w'' he.1,by rw[←Act.put_comm a v u h2];exact he.2⟩
    |panicked c=>exact hQ _ _ _ _ (n7 _ _ _).symm he
    |outgrown=>exact he
  |halt z w'=>
   cases z<;>simp only[Oper.uponIn]at h ⊢
   case panic u=>exact hQ _ _ _ _ (n7 _ _ _).symm h
 ·rename_i hw;rw[aJM hw];exact⟨keep _ w (fun _=>jW.refl _ _),by rw[←Act.put_comm a v undef h2];exact h⟩
theorem xO{x:Nat}(h:fV all x=true):∃o,all[x]?= some o∧hG o.op=true:=by
 unfold fV at h;cases hx:all[x]? with
 |none=>simp[hx]at h
 |some o=>exact⟨o,rfl,by simpa [hx]using h⟩
theorem uQ(h:kX all=true){i:Nat}{o:Oper}(ho:all[i]?= some o):kM o.op=false:=by
 have hm:o∈all.toList:=by
  rw[aME]at ho;obtain⟨hi,rfl⟩:=ho;simp
 have:=aJW.1 h o hm;simpa using this
theorem NN{fl:Nat→Bool}{x i:Nat}(hnd:kX all=true)(hq:fV all x=true)(hap:lD all x i=true)(hf:fV all i=true∨fl i=true∨rE all x=true)
  (hQ:PI Q) {K:Act→World→Prop} {a:Act} {w:World}
  (h:iQ r bad P all fl Q x (iQ r bad P all fl Q i K) a w):iQ r bad P all fl Q i (iQ r bad P all fl Q x K) a w:=by
 obtain⟨ox,hx,hqx⟩:=xO hq;cases hi:all[i]? with
 |none=>simp[lD,hx,hi]at hap
 |some oi=>
  have hap':ox.apart all oi=true:=by simpa [lD,hx,hi]using hap
  have dx:=uQ hnd hx;have di:=uQ hnd hi;obtain⟨h1,h2,h3⟩:=Oper.apart_spec hap';simp only[iQ,hx,hi,hqx,aLH]at h ⊢
  obtain⟨v,hy,h⟩:=h;split at h
  ·rename_i hqi;obtain⟨u,hu,h⟩:=h;rw[aJT hqi];refine⟨u,hu.of_same (jW.refl _ _) (execOp_put oi (oI di) a ox.dst v h1).symm (wanted_put oi a ox.dst v h1).symm,v,
    hy.of_same (jW.refl _ _) (execOp_put ox (oI dx) a oi.dst u h3) (wanted_put ox a oi.dst u h3),?_⟩
   rw[←Act.put_comm a v u h2];exact h
  ·rename_i hqi;rw[aJM hqi];have hfl:fl i=true∨sD ox.op=true:=by
    rcases hf with hf|hf|hf
    ·obtain⟨o,ho,hqo⟩:=xO hf;rw[hi]at ho;cases ho;exact absurd hqo hqi
    ·exact aJQ hf
    ·exact aJE (by simpa [rE,hx]using hf)
   refine(YO hap' dx di hfl hQ hy h).mono fun a w hh=>?_
   rw[iQ,hx];simp only[hqx,aLH];exact⟨v,hh.1,hh.2⟩
theorem nN{fl:Nat→Bool}{i:Nat}(hnd:kX all=true)(hQ:PI Q){K:Act→World→Prop}:
  ∀(c1 c2:List Nat) (a:Act) (w:World),(∀x∈c1,fV all x=true∧lD all x i=true∧(fV all i=true∨fl i=true∨rE all x=true))→
   yO r bad P all fl K Q (c1++i::c2) a w→iQ r bad P all fl Q i (yO r bad P all fl K Q (c1++c2)) a w:=by
 intro c1;induction c1 with
 |nil=>intro c2 a w _ h;rw[aKF,kR]at h;exact h
 |cons x c1 ih=>
  intro c2 a w hc h;rw[aLO,kR]at h;have h':=h.mono fun a w hh=>ih c2 a w (fun y hy=>hc y (aJB _ hy)) hh
  obtain⟨h1,h2,h3⟩:=hc x aJH;have:=NN hnd h1 h2 h3 hQ h';exact this.mono fun a w hh=>by rw[aLO,kR];exact hh
theorem iQ.wpOpIn{fl:Nat→Bool}{i:Nat}{n:Nat}{K:Act→World→Prop}{a:Act}{w:World}(h:iQ r bad P all fl Q i K a w):wpOpIn (FW r) n P all Q i K a w:=by
 unfold iQ at h;split at h
 ·exact h.elim
 ·rename_i o ho;split at h
  ·rename_i hq;obtain⟨v,hy,h⟩:=h;exact hy.run hq ho h
  ·unfold Go.wpOpIn;simp only[ho];unfold wB at h;split at h
   ·rename_i hw;rw[aJT hw];exact BD (Oper.wpIn_mono (fun a w hh=>hh.2) h)
   ·rename_i hw;rw[aJM hw];exact⟨fun _ _=>trivial,h⟩
def GD(all:Array Oper)(bZ:Array Bool):Prop:=
 ∀(i:Nat) (o:Oper),all[i]?= some o→bZ.getD i false=true→∀e∈o.after,Region.binds .any e=true→bZ.getD e.on false=true
theorem nF{bZ:Array Bool}(hc:GD all bZ):∀(n i x:Nat) (o:Oper),all[i]?= some o→(∀e∈o.after,Region.binds .any e=true→bZ.getD e.on false=true)→
  (∀j,bZ.getD j false=true→j<all.size)→jD all n i x=true→bZ.getD x false=true:=by
 intro n;induction n with
 |zero=>intro i x o _ _ _ h;simp[jD]at h
 |succ n ih=>
  intro i x o ho hall hlt h;simp only[jD,ho,aKJ,aMO,aOH,aJI,aKS]at h;obtain⟨e,he,hb,h⟩:=h;have hl:=hall e (by simpa using he) hb;rcases h with h|h
  ·rw[aKQ h]at hl;exact hl
  ·have hj:=hlt _ hl;exact ih e.on x all[e.on] (by simp[hj]) (hc e.on _ (by simp[hj]) hl) hlt h
theorem mP{n:Nat}:∀(c before c1:List Nat) (i:Nat) (c2:List Nat),nJ all n before c=true→c=c1++i::c2→
  YL all n i (before++c1)=true∧sM all i (before++c1)=true∧i∉before++c1:=by
 intro c;induction c with
 |nil=>intro before c1 i c2 _ h;simp at h
 |cons x c ih=>
  intro before c1 i c2 hc h;simp only[nJ,aJI]at hc;cases c1 with
  |nil=>simp only[aKF,aLN]at h;rw[←h.1];simpa [and_assoc]using hc.1
  |cons y c1=>
   simp only[aLO,aLN]at h;have:=ih (before++[x]) c1 i c2 hc.2 h.2;rw[h.1]at this;simpa using this
def tB(all:Array Oper)(n:Nat)(fl:Nat→Bool)(c:List Nat):Prop:=
 ∀c1 i c2,c=c1++i::c2→∀x∈c1,jD all n i x=true∨(fV all x=true∧lD all x i=true∧(fV all i=true∨fl i=true∨rE all x=true))
theorem tB.erase{n:Nat}{fl:Nat→Bool}{c1 c2:List Nat}{i:Nat}(h:tB all n fl (c1++i::c2)):tB all n fl (c1++c2):=by
 intro d1 j d2 he x hx;by_cases hl:d1.length<c1.length
 ·obtain⟨t,ht⟩:∃t,c1=d1++j::t:=by
   have h1:(c1++c2)[d1.length]?= some j:=by rw[he];simp
   rw[aMA hl]at h1;have h2:c1.take d1.length=d1:=by
    have:=aJS (List.take d1.length) he;rw[aKM (Nat.le_of_lt hl)]at this;simpa using this
   refine⟨c1.drop (d1.length+1),?_⟩;have h3:=aLD d1.length c1;rw[h2,aLL hl]at h3;rw[aJC hl]at h1;rw[aJZ h1]at h3;exact h3.symm
  exact h d1 j (t++i::c2) (by rw[ht];simp) x hx
 ·obtain⟨t,ht⟩:∃t,d1=c1++t:=by
   have h2:d1.take c1.length=c1:=by
    have:=aJS (List.take c1.length) he;rw[aKM (aJU _),aKN,aKM Yd]at this;exact this.symm
   exact⟨d1.drop c1.length,by rw[←h2,aKL,aNH Yd,aLD]⟩
  subst ht;have hc2:c2=t++j::d2:=by
   rw[aJL]at he;exact List.append_cancel_left he
  refine h (c1++i::t) j d2 (by rw[hc2];simp) x ?_;simp only[aJO,aIW]at hx ⊢
  rcases hx with hx|hx
  ·exact aJQ hx
  ·exact aJE (aJE hx)
def qH(all:Array Oper)(bZ:Array Bool)(c:List Nat):Prop:=
 ∀c1 i c2,c=c1++i::c2→∀o,all[i]?= some o→∀e∈o.after,Region.binds .any e=true→bZ.getD e.on false=true∨e.on∈c1
theorem B7{c1 c2 d1 d2:List Nat}{j:Nat}(he:c1++c2=d1++j::d2):
  (∃t,c1=d1++j::t∧d2=t++c2)∨(∃t,d1=c1++t∧c2=t++j::d2):=by
 rcases List.append_eq_append_iff.1 he with⟨t,h1,h2⟩|⟨t,h1,h2⟩
 ·exact aJE ⟨t,h1,h2⟩
 ·cases t with
  |nil=>exact aJE ⟨[],by simpa using h1.symm,by simpa using h2.symm⟩
  |cons x t=>
   simp only[aLO,aLN]at h2;exact aJQ ⟨t,by rw[h1,h2.1],h2.2⟩
theorem qH.erase{bZ:Array Bool}{c1 c2:List Nat}{i:Nat}(hi:i<bZ.size)(h:qH all bZ (c1++i::c2)):qH all (bZ.setIfInBounds i true) (c1++c2):=by
 intro d1 j d2 he o ho e hm hb;rcases B7 he with⟨t,h1,h2⟩|⟨t,h1,h2⟩
 ·rcases h d1 j (t++i::c2) (by rw[h1];simp) o ho e hm hb with hl|hl
  ·exact aJQ (getD_set_true hl)
  ·exact aJE hl
 ·rcases h (c1++i::t) j d2 (by rw[h2];simp) o ho e hm hb with hl|hl
  ·exact aJQ (getD_set_true hl)
  ·simp only[aJO,aIW]at hl;rcases hl with hl|hl|hl
   ·exact aJE (by rw[h1];simp[hl])
   ·rw[hl];exact aJQ (by simp[hi])
   ·exact aJE (by rw[h1];simp[hl])
theorem jX{bZ:Array Bool}{i:Nat}(h:i<bZ.size):(bZ.setIfInBounds i true).getD i false=true:=by simp[h]
theorem P5{n:Nat}{fl:Nat→Bool}(hnd:kX all=true)(hQ:PI Q):
  ∀(c:List Nat) (bZ:Array Bool) (a:Act) (w:World),bZ.size=all.size→GD all bZ→c.Nodup→
   (∀i,i<all.size→(i∈c ↔ bZ.getD i false=false))→(∀i∈c,i<all.size)→tB all n fl c→qH all bZ c→
   yO r bad P all fl (fun a w=>Q .normal a w) Q c a w→wpAnyIn (FW r) 0 P .any all Q c.length bZ a w:=by
 intro c;induction hlen:c.length generalizing c with
 |zero=>
  intro bZ a w hs _ _ hm _ _ _ h;have hc:c=[]:=aMF.1 hlen;subst hc;refine⟨?_,h⟩;rw[List.eq_nil_iff_forall_not_mem];intro i hi;obtain⟨hun,o,ho,_⟩:=mem_ready.1 hi;have hlt:i<all.size:=(aME.1 ho).1;have:=(hm i hlt).2 (by rw[aKY]at hun ⊢;rw[aNB Yd]at hun ⊢;exact hun)
  simp at this
 |succ k ih=>
  intro bZ a w hs hcl hnodup hm hlt hg ht h;constructor
  ·intro h0;exfalso
   match c,hlen with
   |i::c',_=>
    have hi:i∈Region.ready .any all bZ:=by
     refine mem_ready.2 ⟨?_,all[i]'(hlt i aJH),by simp[hlt i aJH],?_⟩
     ·have:=(hm i (hlt i aJH)).1 aJH;rw[aKY]at this ⊢
      rw[aNB (by rw[hs];exact hlt i aJH)]at this ⊢
      exact this
     ·intro e he hb;rcases ht [] i c' rfl _ (by simp[hlt i aJH]) e he hb with h|h
      ·exact h
      ·cases h
    rw[h0]at hi;cases hi
  ·intro i hi;obtain⟨hun,o,ho,hpre⟩:=mem_ready.1 hi;have hil:i<all.size:=(aME.1 ho).1;have hun':bZ.getD i false=false:=by
    rw[aKY]at hun ⊢
    rw[aNB Yd]at hun ⊢
    exact hun
   have hmem:=(hm i hil).2 hun';obtain⟨c1,c2,rfl⟩:=List.append_of_mem hmem;have hfront:∀x∈c1,fV all x=true∧lD all x i=true∧(fV all i=true∨fl i=true∨rE all x=true):=by
    intro x hx;rcases hg c1 i c2 rfl x hx with hr|hr
    ·have hxl:=hlt x (by simp[hx]);have:=nF hcl n i x o ho (fun e he hb=>hpre e he hb) (fun j hj=>by
      rcases Nat.lt_or_ge j bZ.size with h|h
      ·omega
      ·simp[Array.getElem?_eq_none h]at hj) hr
     have h2:=(hm x hxl).1 (by simp[hx]);rw[h2]at this;cases this
    ·exact hr
   have hst:=nN hnd hQ c1 c2 a w hfront h;refine wpOpIn_mono (fun a w hh=>?_) hst.wpOpIn;have hlen':(c1++c2).length=k:=by simp at hlen ⊢;omega
   refine ih (c1++c2) hlen' (bZ.setIfInBounds i true) a w (by simpa using hs) ?_ ?_ ?_ ?_ hg.erase (ht.erase Yd) hh
   ·intro j oj hj hlj e he hb;by_cases hij:i=j
    ·subst hij;rw[ho]at hj;cases hj
     exact getD_set_true (hpre e he hb)
    ·rw[getD_set_ne false hij]at hlj;exact getD_set_true (hcl j oj hj hlj e he hb)
   ·rw[aJJ]at hnodup ⊢
    refine⟨hnodup.1,(aKW.1 hnodup.2.1).2,fun x hx y hy=>hnodup.2.2 x hx y (aJB _ hy)⟩
   ·intro j hj;by_cases hij:i=j
    ·subst hij;rw[jX Yd];constructor
     ·intro hmem;exfalso
      rw[aJJ]at hnodup;rcases aJO.1 hmem with hm1|hm2
      ·exact hnodup.2.2 i hm1 i aJH rfl
      ·exact(aKW.1 hnodup.2.1).1 hm2
     ·intro h;cases h
    ·rw[getD_set_ne false hij,←hm j hj];simp only[aJO,aIW];constructor
     ·rintro(h|h)
      ·exact aJQ h
      ·exact aJE (aJE h)
     ·rintro(h|h|h)
      ·exact aJQ h
      ·exact absurd h.symm hij
      ·exact aJE h
   ·intro j hj;refine hlt j ?_;simp only[aJO,aIW]at hj ⊢
    rcases hj with h|h
    ·exact aJQ h
    ·exact aJE (aJE h)
def bZ(all:Array Oper)(n:Nat):List Nat→List Nat→List (Bool×Oper)
 |_,[]=>[]
 |before,i::rest=>(mA all n i before,all.getD i default)::bZ all n (before++[i]) rest
theorem GK{n:Nat}{K:Act→World→Prop}{fl:Nat→Bool}:∀(c before:List Nat) (a:Act) (w:World),(∀i∈c,i<all.size)→
  (∀c1 i c2,c=c1++i::c2→fl i=mA all n i (before++c1))→nL r bad P all K Q (bZ all n before c) a w→yO r bad P all fl K Q c a w:=by
 intro c;induction c with
 |nil=>intro before a w _ _ h;exact h
 |cons i c ih=>
  intro before a w hlt hf h;have hi:=hlt i aJH;have ho:all[i]?= some all[i]:=by simp[hi]
  have hd:all.getD i default=all[i]:=by simp[hi]
  have hfi:fl i=mA all n i before:=by simpa using hf [] i c rfl
  have hrec:∀a w,nL r bad P all K Q (bZ all n (before++[i]) c) a w→yO r bad P all fl K Q c a w:=fun a w hh=>
   ih (before++[i]) a w (fun j hj=>hlt j (aJB _ hj)) (fun c1 j c2 he=>by
    rw[hf (i::c1) j c2 (by rw[he];rfl)];simp) hh
  simp only[bZ,nL,hd]at h;simp only[yO,ho];split at h
  ·rename_i hq;obtain⟨v,hy,h⟩:=h;rw[aJT hq];exact⟨v,hy,hrec _ _ h⟩
  ·rename_i hq;rw[aJM hq,hfi];exact h.mono hrec
theorem vM{n:Nat}:∀(c before:List Nat),nJ all n before c=true→before.Nodup→(before++c).Nodup:=by
 intro c;induction c with
 |nil=>intro before _ h;simpa using h
 |cons i c ih=>
  intro before h hb;simp only[nJ,aJI,aNS,aNP,aLY]at h;have:=ih (before++[i]) h.2 (by
   rw[aJJ];refine⟨hb,by simp,fun x hx y hy=>?_⟩;simp only[aJR]at hy;rintro rfl;exact h.1.2 (hy▸hx))
  simpa using this
theorem mH{n i x:Nat}:∀{l:List Nat},x∈l→jD all n i x=false→mA all n i l=true
 |y::l,hx,hr=>by
  simp only[mA,aKS,aNS];rcases aIW.1 hx with rfl|hx
  ·exact aJQ hr
  ·exact aJE (mH hx hr)
theorem aAI{id n:Nat}{c:List Nat}{a:Act}{w:World}(hm:P.follows .mixedOrders=true)(hc:Z4 all n c=true)(hQ:PI Q)
  (h:nL r bad P all (fun a w=>Q .normal a w) Q (bZ all n [] c) a {w with drawn:=w.drawn+1}):
  (Code.region id all true).wpIn (FW r) 0 P Q a w:=by
 simp only[Z4,aJI,aNR,aJW,aMJ,aNP,aJV]at hc;obtain⟨⟨⟨hnd,hlen⟩,hall⟩,hfrom⟩:=hc;have hnodup:c.Nodup:=by simpa using vM c [] hfrom aLI
 have hlt:∀i∈c,i<all.size:=by
  intro i hi;obtain⟨c1,c2,rfl⟩:=List.append_of_mem hi;have:=(mP _ [] c1 i c2 hfrom rfl).2.1;unfold sM at this;rcases Nat.lt_or_ge i all.size with h|h
  ·exact h
  ·simp[Array.getElem?_eq_none h]at this
 refine wpIn_region_any hm ?_;rw[←hlen];refine P5 (bad:=bad) (fl:=fun i=>mA all n i (c.take (c.idxOf i))) (n:=n) hnd hQ c _ a _ (by simp[hlen]) ?_ hnodup ?_ hlt ?_ ?_ ?_
 ·intro i o ho hl;simp[aKY,Array.getElem?_replicate]at hl;split at hl<;>simp at hl
 ·intro i hi;simp only[aKY,Array.getElem?_replicate,hlen,hi,aLH,aMO,iff_true];exact hall i hi
 ·intro c1 i c2 he x hx;obtain⟨hg,_,_⟩:=mP _ [] c1 i c2 hfrom he;have h1:=aJW.1 hg x (by simpa using hx);simp only[aKS,aJI]at h1;cases hr:jD all n i x with
  |true=>exact aJQ rfl
  |false=>
   rw[hr]at h1;have h1:=h1.resolve_left Ye;refine aJE ⟨h1.1,h1.2,aJE (aJQ ?_)⟩;have hni:i∉c1:=by
    rw[he,aJJ]at hnodup;intro hm;exact hnodup.2.2 i hm i aJH rfl
   have:c.take (c.idxOf i)=c1:=by
    rw[he,List.idxOf_append,aJM hni,List.idxOf_cons_self];simp
   show mA all n i (c.take (c.idxOf i))=true;rw[this];exact mH hx hr
 ·intro c1 i c2 he o ho e hm hb;obtain⟨_,ht,_⟩:=mP _ [] c1 i c2 hfrom he;unfold sM at ht;rw[ho]at ht;simp only[aKJ,aMO,aJW,aKS,aNS,aKF,aNP,aJV]at ht;rcases ht e (by simpa using hm)with h|h
  ·rw[hb]at h;cases h
  ·exact aJE h
 ·refine GK (n:=n) c [] a _ hlt ?_ h;intro c1 i c2 he;have hni:i∉c1:=by
   rw[he,aJJ]at hnodup;intro hm;exact hnodup.2.2 i hm i aJH rfl
  have:c.take (c.idxOf i)=c1:=by
   rw[he,List.idxOf_append,aJM hni,List.idxOf_cons_self];simp
  show mA all n i (c.take (c.idxOf i))=_;rw[this];rfl
def vN(all:Array Oper)(n:Nat):List Nat→List Nat→List Bool
 |_,[]=>[]
 |before,i::rest=>mA all n i before::vN all n (before++[i]) rest
def eY(all:Array Oper)(is:List (Bool×Nat)):List (Bool×Oper):=is.map fun p=>(p.1,all.getD p.2 default)
theorem X4(all:Array Oper)(n:Nat):∀(c before:List Nat),bZ all n before c=eY all ((vN all n before c).zip c)
 | [],_=>rfl
 |i::c,before=>by simp only[bZ,vN,eY,aOB,aJY,X4 all n c]
theorem SL(all:Array Oper):(all.toList.map fun o=>(false,o))=eY all ((List.range all.size).map fun i=>(false,i)):=by
 apply List.ext_getElem
 ·simp[eY]
 ·intro i h1 h2;simp[eY]at h1 ⊢
  simp[h1]

def n8(all:Array Oper)(n:Nat)(fls:List Bool)(E:List Nat)(i:Nat)(before:List Nat):Bool:=
 before.all fun x=>E.contains x||jD all n i x||(fV all x&&lD all x i&&(fV all i||(fls.getD i false||rE all x)))
def uV(all:Array Oper)(n:Nat)(E:List Nat)(fl:Nat→Bool)(c:List Nat):Prop:=
 ∀c1 i c2,c=c1++i::c2→∀x∈c1,x∈E∨jD all n i x=true∨(fV all x=true∧lD all x i=true∧(fV all i=true∨fl i=true∨rE all x=true))
theorem uV.erase{n:Nat}{E:List Nat}{fl:Nat→Bool}{c1 c2:List Nat}{i:Nat}(h:uV all n E fl (c1++i::c2)):uV all n E fl (c1++c2):=by
 intro d1 j d2 he x hx;rcases B7 he with⟨t,h1,h2⟩|⟨t,h1,h2⟩
 ·exact h d1 j (t++i::c2) (by rw[h1];simp) x hx
 ·refine h (c1++i::t) j d2 (by rw[h2];simp) x ?_;rw[h1]at hx;simp only[aJO,aIW]at hx ⊢
  rcases hx with hx|hx
  ·exact aJQ hx
  ·exact aJE (aJE hx)
theorem uV.none{n:Nat}{E:List Nat}{fl:Nat→Bool}{c:List Nat}(h:uV all n E fl c)(hp:∀e∈E,e∉c):tB all n fl c:=by
 intro c1 i c2 he x hx;rcases h c1 i c2 he x hx with h|h
 ·exact absurd (by rw[he];simp[hx]) (hp x h)
 ·exact h
theorem kI{fl:Nat→Bool}{K:Act→World→Prop}:∀(c d:List Nat) (a:Act) (w:World),yO r bad P all fl (yO r bad P all fl K Q d) Q c a w→yO r bad P all fl K Q (c++d) a w
 | [],d,a,w,h=>h
 |i::c,d,a,w,h=>by
  rw[aLO,kR];rw[kR]at h;exact h.mono fun a w=>kI c d a w
structure S7(all:Array Oper)(n:Nat)(bZ:Array Bool)(c:List Nat):Prop where
 size:bZ.size=all.size
 closed:GD all bZ
 nodup:c.Nodup
 mem:∀i,i<all.size→(i∈c ↔ bZ.getD i false=false)
 lt:∀i∈c,i<all.size
 topo:qH all bZ c
theorem S7.step{n:Nat}{bZ:Array Bool}{c1 c2:List Nat}{i:Nat}{o:Oper}(h:S7 all n bZ (c1++i::c2))(ho:all[i]?= some o)(hpre:∀e∈o.after,Region.binds .any e=true→bZ.getD e.on false=true):S7 all n (bZ.setIfInBounds i true) (c1++c2):=by
 have hil:i<all.size:=(aME.1 ho).1;have hs:=h.size;refine⟨by simpa using hs,?_,?_,?_,?_,h.topo.erase Yd⟩
 ·intro j oj hj hlj e he hb;by_cases hij:i=j
  ·subst hij;rw[ho]at hj;cases hj
   exact getD_set_true (hpre e he hb)
  ·rw[getD_set_ne false hij]at hlj;exact getD_set_true (h.closed j oj hj hlj e he hb)
 ·have hnodup:=h.nodup;rw[aJJ]at hnodup ⊢
  exact⟨hnodup.1,(aKW.1 hnodup.2.1).2,fun x hx y hy=>hnodup.2.2 x hx y (aJB _ hy)⟩
 ·intro j hj;have hnodup:=h.nodup;by_cases hij:i=j
  ·subst hij;rw[jX Yd];constructor
   ·intro hmem;exfalso
    rw[aJJ]at hnodup;rcases aJO.1 hmem with hm1|hm2
    ·exact hnodup.2.2 i hm1 i aJH rfl
    ·exact(aKW.1 hnodup.2.1).1 hm2
   ·intro h;cases h
  ·rw[getD_set_ne false hij,←h.mem j hj];simp only[aJO,aIW];constructor
   ·rintro(h|h)
    ·exact aJQ h
    ·exact aJE (aJE h)
   ·rintro(h|h|h)
    ·exact aJQ h
    ·exact absurd h.symm hij
    ·exact aJE h
 ·intro j hj;refine h.lt j ?_;simp only[aJO,aIW]at hj ⊢
  rcases hj with h|h
  ·exact aJQ h
  ·exact aJE (aJE h)
inductive fK where
 |fin (c:List Nat)
 |fork (d:List Nat) (p:Nat) (A:fK) (q:Nat) (B:fK)
 |forkN (d:List Nat) (p:Nat) (ps:List Nat) (A:Nat→fK)
def fK.list:fK→List Nat
 |.fin c=>c
 |.fork d p A _ _=>d++p::A.list
 |.forkN d p _ A=>d++p::(A p).list
def kA:List fK→List Nat
 | []=>[]
 |pl::segs=>pl.list++kA segs
def QO(r:Option Nat){γb:Type}[Membership Nat γb](bad:γb)(P:Program)(all:Array Oper)(fl:Nat→Bool)(Q:Exit→Act→World→Prop)(kont:Act→World→Prop):fK→Act→World→Prop
 |.fin c=>yO r bad P all fl kont Q c
 |.fork d p A q B=>yO r bad P all fl (fun a w=>iQ r bad P all fl Q p (QO r bad P all fl Q kont A) a w∧iQ r bad P all fl Q q (QO r bad P all fl Q kont B) a w) Q d
 |.forkN d p ps A=>yO r bad P all fl (fun a w=>∀i∈p::ps,iQ r bad P all fl Q i (QO r bad P all fl Q kont (A i)) a w) Q d
def aIJ(r:Option Nat){γb:Type}[Membership Nat γb](bad:γb)(P:Program)(all:Array Oper)(fl:Nat→Bool)(Q:Exit→Act→World→Prop):List fK→Act→World→Prop
 | []=>fun a w=>Q .normal a w
 |pl::segs=>QO r bad P all fl Q (aIJ r bad P all fl Q segs) pl
def gQ(all:Array Oper)(n:Nat)(cont:List Nat→List Nat→Array Bool→Prop)(rest:List Nat):fK→List Nat→List Nat→Array Bool→Prop
 |.fin c,pre,E,L=>cont (pre++c) E L
 |.fork d p A q B,pre,E,L=>gQ all n cont rest A (pre++d++[p]) (p::E) L∧gQ all n cont rest B (pre++d++[q]) (q::E) L∧q∈A.list++rest∧A.list.length=B.list.length∧∀i∈A.list++rest,i=q∨jD all n i p=true∨jD all n i q=true
 |.forkN d p ps A,pre,E,L=>(∀i∈p::ps,gQ all n cont rest (A i) (pre++d++[i]) (i::E) L∧(A i).list.length=(A p).list.length∧(i=p∨i∈(A p).list++rest))∧∀i∈(A p).list++rest,i∈ps∨∃q∈p::ps,jD all n i q=true
def YT(all:Array Oper)(n:Nat)(fl:Nat→Bool):List fK→List Nat→List Nat→Array Bool→Prop
 | [],pre,E,L=>S7 all n L pre∧uV all n E fl pre
 |pl::segs,pre,E,L=>gQ all n (YT all n fl segs) (kA segs) pl pre E L
structure K8(all:Array Oper)(n:Nat)(fl:Nat→Bool)(cont:List Nat→List Nat→Array Bool→Prop)(rest:List Nat):Prop where
 part:∀pre E L,cont pre E L→S7 all n L (pre++rest)
 good:∀pre E L,cont pre E L→uV all n E fl pre
 erase:∀c1 i c2 E L (o:Oper),all[i]?= some o→(∀e∈o.after,Region.binds .any e=true→L.getD e.on false=true)→cont (c1++i::c2) E L→cont (c1++c2) E (L.setIfInBounds i true)
theorem gQ.part{n:Nat}{fl:Nat→Bool}{cont:List Nat→List Nat→Array Bool→Prop}{rest:List Nat}(hc:K8 all n fl cont rest):∀{pl:fK} {pre E:List Nat} {L:Array Bool},gQ all n cont rest pl pre E L→S7 all n L (pre++(pl.list++rest))
 |.fin c,pre,E,L,h=>by
  have:=hc.part _ _ _ h;rw[aJL]at this;exact this
 |.fork d p A q B,pre,E,L,h=>by
  have:=gQ.part hc h.1;simpa [fK.list]using this
 |.forkN d p ps A,pre,E,L,h=>by
  have:=gQ.part hc (h.1 p aJH).1;simpa [fK.list]using this
theorem gQ.good{n:Nat}{fl:Nat→Bool}{cont:List Nat→List Nat→Array Bool→Prop}{rest:List Nat}(hc:K8 all n fl cont rest):∀{pl:fK} {pre E:List Nat} {L:Array Bool},gQ all n cont rest pl pre E L→uV all n E fl pre
 |.fin c,pre,E,L,h=>by
  intro c1 i c2 he x hx;exact hc.good _ _ _ h c1 i (c2++c) (by rw[he];simp) x hx
 |.fork d p A q B,pre,E,L,h=>by
  intro c1 i c2 he x hx;have h1:=gQ.good hc h.1 c1 i (c2++d++[p]) (by rw[he];simp) x hx
  have hn:=(gQ.part hc h.1).nodup;rcases h1 with h1|h1
  ·rcases aIW.1 h1 with rfl|h1
   ·exfalso
    rw[he]at hn;simp only[aJL]at hn;rw[aJJ]at hn;exact hn.2.2 x hx x Ye rfl
   ·exact aJQ h1
  ·exact aJE h1
 |.forkN d p ps A,pre,E,L,h=>by
  intro c1 i c2 he x hx;have h1:=gQ.good hc (h.1 p aJH).1 c1 i (c2++d++[p]) (by rw[he];simp) x hx
  have hn:=(gQ.part hc (h.1 p aJH).1).nodup;rcases h1 with h1|h1
  ·rcases aIW.1 h1 with rfl|h1
   ·exfalso
    rw[he]at hn;simp only[aJL]at hn;rw[aJJ]at hn;exact hn.2.2 x hx x Ye rfl
   ·exact aJQ h1
  ·exact aJE h1
theorem gQ.erase{n:Nat}{fl:Nat→Bool}{cont:List Nat→List Nat→Array Bool→Prop}{rest:List Nat}(hc:K8 all n fl cont rest){i:Nat}{o:Oper}(ho:all[i]?= some o){L:Array Bool}(hpre:∀e∈o.after,Region.binds .any e=true→L.getD e.on false=true):∀{pl:fK} {c1 c2 E:List Nat},gQ all n cont rest pl (c1++i::c2) E L→gQ all n cont rest pl (c1++c2) E (L.setIfInBounds i true)
 |.fin c,c1,c2,E,h=>by
  have h':cont (c1++i::(c2++c)) E L:=by
   have h2:cont (c1++i::c2++c) E L:=h;simpa using h2
  have:=hc.erase c1 i (c2++c) E L o ho hpre h';show cont (c1++c2++c) E _;rw[aJL];exact this
 |.fork d p A q B,c1,c2,E,h=>by
  obtain⟨h1,h2,h3⟩:=h;have e:∀z:Nat,c1++i::c2++d++[z]=c1++i::(c2++d++[z]):=fun z=>by simp
  have e':∀z:Nat,c1++(c2++d++[z])=c1++c2++d++[z]:=fun z=>by simp
  rw[e]at h1 h2;have s1:=gQ.erase hc ho hpre h1;have s2:=gQ.erase hc ho hpre h2;rw[e']at s1 s2;exact⟨s1,s2,h3⟩
 |.forkN d p ps A,c1,c2,E,h=>by
  refine⟨fun z hz=>?_,h.2⟩;obtain⟨h1,h2,h3⟩:=h.1 z hz;have e:c1++i::c2++d++[z]=c1++i::(c2++d++[z]):=by simp
  have e':c1++(c2++d++[z])=c1++c2++d++[z]:=by simp
  rw[e]at h1;have s1:=gQ.erase hc ho hpre h1;rw[e']at s1;exact⟨s1,h2,h3⟩
theorem s6(n:Nat)(fl:Nat→Bool):∀segs:List fK,K8 all n fl (YT all n fl segs) (kA segs)
 | []=>⟨fun pre E L h=>by rw[kA,aJF];exact h.1,fun pre E L h=>h.2,fun c1 i c2 E L o ho hpre h=>⟨h.1.step ho hpre,h.2.erase⟩⟩
 |_::segs=>⟨fun pre E L h=>gQ.part (s6 n fl segs) h,fun pre E L h=>gQ.good (s6 n fl segs) h,fun c1 i c2 E L o ho hpre h=>gQ.erase (s6 n fl segs) ho hpre h⟩
theorem S7.frontE{n:Nat}{E:List Nat}{fl:Nat→Bool}{bZ:Array Bool}{c1 c2 c3:List Nat}{i:Nat}{o:Oper}(h:S7 all n bZ (c1++i::c3))(hg:uV all n E fl (c1++i::c2))(ho:all[i]?= some o)(hpre:∀e∈o.after,Region.binds .any e=true→bZ.getD e.on false=true)(hE:∀e∈E,e∉c1):
  ∀x∈c1,fV all x=true∧lD all x i=true∧(fV all i=true∨fl i=true∨rE all x=true):=by
 intro x hx;rcases hg c1 i c2 rfl x hx with he|hr|hr
 ·exact absurd hx (hE x he)
 ·have hxl:=h.lt x (by simp[hx]);have:=nF h.closed n i x o ho hpre (fun j hj=>by
   rcases Nat.lt_or_ge j bZ.size with h'|h'
   ·have:=h.size;omega
   ·simp[Array.getElem?_eq_none h']at hj) hr
  have h2:=(h.mem x hxl).1 (by simp[hx]);rw[h2]at this;cases this
 ·exact hr
theorem wD{fl:Nat→Bool}{K:Act→World→Prop}{i:Nat}{a:Act}{w:World}(h:iQ r bad P all fl Q i K a w):yO r bad P all fl K Q [i] a w:=by
 rw[kR];exact h
theorem oU{n:Nat}{fl:Nat→Bool}{cont:List Nat→List Nat→Array Bool→Prop}{rest:List Nat}{kont:Act→World→Prop}(hnd:kX all=true)(hQ:PI Q)(hc:K8 all n fl cont rest)
  (hcont:∀(pre E:List Nat) (L:Array Bool) (a:Act) (w:World),(∀e∈E,L.getD e false=true)→cont pre E L→yO r bad P all fl kont Q pre a w→wpAnyIn (FW r) 0 P .any all Q (pre++rest).length L a w):
  ∀(pl:fK) (pre E:List Nat) (L:Array Bool) (a:Act) (w:World),(∀e∈E,L.getD e false=true)→gQ all n cont rest pl pre E L→yO r bad P all fl (QO r bad P all fl Q kont pl) Q pre a w→
  wpAnyIn (FW r) 0 P .any all Q (pre++(pl.list++rest)).length L a w
 |.fin c,pre,E,L,a,w,hE,hr,h=>by
  have:=hcont (pre++c) E L a w hE hr (kI pre c a w h);rw[aJL]at this;exact this
 |.fork d p A q B,pre,E,L,a,w,hE,hr,h=>by
  have hmain:∀(m:Nat) (d':List Nat) (L:Array Bool) (a:Act) (w:World),d'.length=m→(∀e∈E,L.getD e false=true)→gQ all n cont rest A (d'++[p]) (p::E) L→gQ all n cont rest B (d'++[q]) (q::E) L→q∈A.list++rest→A.list.length=B.list.length→(∀i∈A.list++rest,i=q∨jD all n i p=true∨jD all n i q=true)→
    yO r bad P all fl (fun a w=>iQ r bad P all fl Q p (QO r bad P all fl Q kont A) a w∧iQ r bad P all fl Q q (QO r bad P all fl Q kont B) a w) Q d' a w→wpAnyIn (FW r) 0 P .any all Q (d'++p::(A.list++rest)).length L a w:=by
   intro m;induction m using Nat.strongRecOn with
   |_ m ih=>
   intro d' L a w hm hE hA hB hqA hlen he h;have h1:=gQ.part hc hA;have h2:=gQ.part hc hB;rw[aJL]at h1 h2;have gA:=gQ.good hc hA;have gB:=gQ.good hc hB;simp only[aMU]at h1 h2;obtain⟨k,hk⟩:∃k,(d'++p::(A.list++rest)).length=k+1:=⟨d'.length+(A.list++rest).length,by simp;omega⟩
   rw[hk];constructor
   ·intro h0;exfalso
    match hcc:d'++p::(A.list++rest),hk with
    |i::c',_=>
     rw[hcc]at h1;have hil:=h1.lt i aJH;have hi:i∈Region.ready .any all L:=by
      refine mem_ready.2 ⟨?_,all[i],by simp[hil],?_⟩
      ·have:=(h1.mem i hil).1 aJH;rw[aKY]at this ⊢
       rw[aNB (by rw[h1.size];exact hil)]at this ⊢
       exact this
      ·intro e he hb;rcases h1.topo [] i c' rfl _ (by simp[hil]) e he hb with h|h
       ·exact h
       ·cases h
     rw[h0]at hi;cases hi
   ·intro i hi;obtain⟨hun,o,ho,hpre⟩:=mem_ready.1 hi;have hil:i<all.size:=(aME.1 ho).1;have hun':L.getD i false=false:=by
     have:=h1.size;rw[aKY]at hun ⊢
     rw[aNB Yd]at hun ⊢
     exact hun
    have hmem:=(h1.mem i hil).2 hun';have hun2:∀x,x∈d'++p::(A.list++rest)→jD all n i x=true→False:=by
     intro x hx hr;have:=nF h1.closed n i x o ho hpre (fun j hj=>by
      rcases Nat.lt_or_ge j L.size with h'|h'
      ·have:=h1.size;omega
      ·simp[Array.getElem?_eq_none h']at hj) hr
     have h2:=(h1.mem x (h1.lt x hx)).1 hx;rw[h2]at this;cases this
    have hEd:∀e∈E,e∉d':=fun e he hm=>by
     have:=(h1.mem e (h1.lt e (by simp[hm]))).1 (by simp[hm]);rw[hE e he]at this;cases this
    have hnA:p∉d':=fun hp=>by
     have hn:=h1.nodup;rw[aJJ]at hn;exact hn.2.2 p hp p Ye rfl
    have hnB:q∉d':=fun hp=>by
     have hn:=h2.nodup;rw[aJJ]at hn;exact hn.2.2 q hp q Ye rfl
    rw[aJO,aIW]at hmem;rcases hmem with hm'|rfl|hm'
    ·obtain⟨c1,c2,rfl⟩:=List.append_of_mem hm';have q1:∀z:Nat,(c1++i::c2)++[z]=c1++i::(c2++[z]):=fun z=>by simp
     have q2:∀z:Nat,c1++(c2++[z])=(c1++c2)++[z]:=fun z=>by simp
     rw[q1]at hA hB gA;have hk2:(c1++i::(c2++p::(A.list++rest))).length=k+1:=by rw[←hk];simp
     have h1':S7 all n L (c1++i::(c2++p::(A.list++rest))):=by simpa using h1
     have hf:=h1'.frontE gA ho hpre (fun e he hm=>by
      rcases aIW.1 he with rfl|he
      ·exact hnA (by simp[hm])
      ·exact hEd e he (by simp[hm]))
     have hst:=nN hnd hQ c1 c2 a w hf h;refine wpOpIn_mono (fun a w hh=>?_) hst.wpOpIn;have sA:=gQ.erase hc ho hpre hA;have sB:=gQ.erase hc ho hpre hB;rw[q2]at sA sB;have:=ih (c1++c2).length (by rw[←hm];simp) (c1++c2) _ a w rfl (fun e he=>getD_set_true (hE e he)) sA sB hqA hlen ‹_› hh
     have hl:((c1++c2)++p::(A.list++rest)).length=k:=by simp at hk2 ⊢;omega
     rw[hl]at this;exact this
    ·have hw:=kI (K:=fun a w=>QO r bad P all fl Q kont A a w) d' [i] a w (oC (fun _ _ h=>wD h.1) d' h);have hf:=h1.frontE (c2:=[]) gA ho hpre (fun e he hm=>by
      rcases aIW.1 he with rfl|he
      ·exact hnA hm
      ·exact hEd e he hm)
     have hst:=nN hnd hQ d' [] a w hf hw;refine wpOpIn_mono (fun a w hh=>?_) hst.wpOpIn;have sA:=gQ.erase hc ho hpre hA;rw[aJF]at sA hh;have:=oU hnd hQ hc hcont A d' (i::E) _ a w (fun e he=>by
      rcases aIW.1 he with rfl|he
      ·exact jX (by rw[h1.size];exact hil)
      ·exact getD_set_true (hE e he)) sA hh
     have hl:(d'++(A.list++rest)).length=k:=by simp at hk ⊢;omega
     rw[hl]at this;exact this
    ·by_cases hiq:i=q
     ·subst hiq;have hw:=kI (K:=fun a w=>QO r bad P all fl Q kont B a w) d' [i] a w (oC (fun _ _ h=>wD h.2) d' h);have hf:=h2.frontE (c2:=[]) gB ho hpre (fun e he hm=>by
       rcases aIW.1 he with rfl|he
       ·exact hnB hm
       ·exact hEd e he hm)
      have hst:=nN hnd hQ d' [] a w hf hw;refine wpOpIn_mono (fun a w hh=>?_) hst.wpOpIn;have sB:=gQ.erase hc ho hpre hB;rw[aJF]at sB hh;have:=oU hnd hQ hc hcont B d' (i::E) _ a w (fun e he=>by
       rcases aIW.1 he with rfl|he
       ·exact jX (by rw[h1.size];exact hil)
       ·exact getD_set_true (hE e he)) sB hh
      have hl:(d'++(B.list++rest)).length=k:=by simp at hk ⊢;omega
      rw[hl]at this;exact this
     ·exfalso
      rcases he i hm' with hr|hr|hr
      ·exact hiq hr
      ·exact hun2 p Ye hr
      ·exact hun2 q (aIZ _ (aJB _ hqA)) hr
  obtain⟨hA,hB,hqA,hlen,he⟩:=hr;have:=hmain (pre++d).length (pre++d) L a w rfl hE hA hB hqA hlen he (kI pre d a w h);have e:pre++d++p::(A.list++rest)=pre++((fK.fork d p A q B).list++rest):=by simp[fK.list]
  rw[e]at this;exact this

 |.forkN d p ps A,pre,E,L,a,w,hE,hr,h=>by
  have hmain:∀(m:Nat) (d':List Nat) (L:Array Bool) (a:Act) (w:World),d'.length=m→(∀e∈E,L.getD e false=true)→(∀i∈p::ps,gQ all n cont rest (A i) (d'++[i]) (i::E) L∧(A i).list.length=(A p).list.length∧(i=p∨i∈(A p).list++rest))→(∀i∈(A p).list++rest,i∈ps∨∃q∈p::ps,jD all n i q=true)→
    yO r bad P all fl (fun a w=>∀i∈p::ps,iQ r bad P all fl Q i (QO r bad P all fl Q kont (A i)) a w) Q d' a w→wpAnyIn (FW r) 0 P .any all Q (d'++p::((A p).list++rest)).length L a w:=by
   intro m;induction m using Nat.strongRecOn with
   |_ m ih=>
   intro d' L a w hm hE hA he h;have h1:=gQ.part hc (hA p aJH).1;rw[aJL]at h1;simp only[aMU]at h1;obtain⟨k,hk⟩:∃k,(d'++p::((A p).list++rest)).length=k+1:=⟨d'.length+((A p).list++rest).length,by simp;omega⟩
   rw[hk];constructor
   ·intro h0;exfalso
    match hcc:d'++p::((A p).list++rest),hk with
    |i::c',_=>
     rw[hcc]at h1;have hil:=h1.lt i aJH;have hi:i∈Region.ready .any all L:=by
      refine mem_ready.2 ⟨?_,all[i],by simp[hil],?_⟩
      ·have:=(h1.mem i hil).1 aJH;rw[aKY]at this ⊢
       rw[aNB (by rw[h1.size];exact hil)]at this ⊢
       exact this
      ·intro e he hb;rcases h1.topo [] i c' rfl _ (by simp[hil]) e he hb with h|h
       ·exact h
       ·cases h
     rw[h0]at hi;cases hi
   ·intro i hi;obtain⟨hun,o,ho,hpre⟩:=mem_ready.1 hi;have hil:i<all.size:=(aME.1 ho).1;have hun':L.getD i false=false:=by
     have:=h1.size;rw[aKY]at hun ⊢
     rw[aNB Yd]at hun ⊢
     exact hun
    have hmem:=(h1.mem i hil).2 hun';have hun2:∀x,x∈d'++p::((A p).list++rest)→jD all n i x=true→False:=by
     intro x hx hr;have:=nF h1.closed n i x o ho hpre (fun j hj=>by
      rcases Nat.lt_or_ge j L.size with h'|h'
      ·have:=h1.size;omega
      ·simp[Array.getElem?_eq_none h']at hj) hr
     have h2:=(h1.mem x (h1.lt x hx)).1 hx;rw[h2]at this;cases this
    have hEd:∀e∈E,e∉d':=fun e he hm=>by
     have:=(h1.mem e (h1.lt e (by simp[hm]))).1 (by simp[hm]);rw[hE e he]at this;cases this
    have hnz:∀z∈p::ps,z∉d':=fun z hz hp=>by
     have hn:=(gQ.part hc (hA z hz).1).nodup;rw[aJL,aJJ]at hn;exact hn.2.2 z hp z Ye rfl
    have hin:∀z∈p::ps,z∈d'++p::((A p).list++rest):=fun z hz=>by
     rcases(hA z hz).2.2 with rfl|hz'
     ·simp
     ·exact aIZ _ (aJB _ hz')
    by_cases hz:i∈p::ps
    ·have h2:=gQ.part hc (hA i hz).1;rw[aJL]at h2;simp only[aMU]at h2;have hw:=kI (K:=fun a w=>QO r bad P all fl Q kont (A i) a w) d' [i] a w (oC (fun _ _ h=>wD (h i hz)) d' h);have hf:=h2.frontE (c2:=[]) (gQ.good hc (hA i hz).1) ho hpre (fun e he hm=>by
      rcases aIW.1 he with rfl|he
      ·exact hnz _ hz hm
      ·exact hEd e he hm)
     have hst:=nN hnd hQ d' [] a w hf hw;refine wpOpIn_mono (fun a w hh=>?_) hst.wpOpIn;have sA:=gQ.erase hc ho hpre (hA i hz).1;rw[aJF]at sA hh;have:=oU hnd hQ hc hcont (A i) d' (i::E) _ a w (fun e he=>by
      rcases aIW.1 he with rfl|he
      ·exact jX (by rw[h1.size];exact hil)
      ·exact getD_set_true (hE e he)) sA hh
     have hl:(d'++((A i).list++rest)).length=k:=by
      have:=(hA i hz).2.1;simp at hk ⊢;omega
     rw[hl]at this;exact this
    ·rw[aJO,aIW]at hmem;rcases hmem with hm'|rfl|hm'
     ·obtain⟨c1,c2,rfl⟩:=List.append_of_mem hm';have q1:∀z:Nat,(c1++i::c2)++[z]=c1++i::(c2++[z]):=fun z=>by simp
      have q2:∀z:Nat,c1++(c2++[z])=(c1++c2)++[z]:=fun z=>by simp
      have gA:=gQ.good hc (hA p aJH).1;rw[q1]at gA;have hk2:(c1++i::(c2++p::((A p).list++rest))).length=k+1:=by rw[←hk];simp
      have h1':S7 all n L (c1++i::(c2++p::((A p).list++rest))):=by simpa using h1
      have hf:=h1'.frontE gA ho hpre (fun e he hm=>by
       rcases aIW.1 he with rfl|he
       ·exact hnz _ aJH (by simp[hm])
       ·exact hEd e he (by simp[hm]))
      have hst:=nN hnd hQ c1 c2 a w hf h;refine wpOpIn_mono (fun a w hh=>?_) hst.wpOpIn;have:=ih (c1++c2).length (by rw[←hm];simp) (c1++c2) _ a w rfl (fun e he=>getD_set_true (hE e he)) (fun z hz=>by
       have hz1:=(hA z hz).1;rw[q1]at hz1;have sA:=gQ.erase hc ho hpre hz1;rw[q2]at sA;exact⟨sA,(hA z hz).2⟩) he hh
      have hl:((c1++c2)++p::((A p).list++rest)).length=k:=by simp at hk2 ⊢;omega
      rw[hl]at this;exact this
     ·exact absurd aJH hz
     ·rcases he i hm' with hr|⟨q,hq,hr⟩
      ·exact absurd (aJB _ hr) hz
      ·exact(hun2 q (hin q hq) hr).elim
  obtain⟨hA,he⟩:=hr;have:=hmain (pre++d).length (pre++d) L a w rfl hE hA he (kI pre d a w h);have e:pre++d++p::((A p).list++rest)=pre++((fK.forkN d p ps A).list++rest):=by simp[fK.list]
  rw[e]at this;exact this
theorem B6{n:Nat}{fl:Nat→Bool}(hnd:kX all=true)(hQ:PI Q):∀(segs:List fK) (pre E:List Nat) (L:Array Bool) (a:Act) (w:World),(∀e∈E,L.getD e false=true)→YT all n fl segs pre E L→yO r bad P all fl (aIJ r bad P all fl Q segs) Q pre a w→
  wpAnyIn (FW r) 0 P .any all Q (pre++kA segs).length L a w
 | [],pre,E,L,a,w,hE,hr,h=>by
  obtain⟨hp,hg⟩:=hr;rw[kA,aJF];refine P5 hnd hQ pre L a w hp.size hp.closed hp.nodup hp.mem hp.lt (hg.none fun e he hm=>?_) hp.topo h;have:=(hp.mem e (hp.lt e hm)).1 hm;rw[hE e he]at this;cases this
 |pl::segs,pre,E,L,a,w,hE,hr,h=>
  oU hnd hQ (s6 n fl segs) (B6 hnd hQ segs) pl pre E L a w hE hr h

def KX(all:Array Oper)(n:Nat)(fls:List Bool)(S:List Nat)(i:Nat):Bool:=S.all fun x=>jD all n i x||(fV all x&&lD all x i&&(fV all i||(fls.getD i false||rE all x)))
def nX(all:Array Oper)(n:Nat)(fls:List Bool)(S E:List Nat):List Nat→List Nat→Bool
 |_,[]=>true
 |before,i::rest=>n8 all n fls E i before&&KX all n fls S i&&sM all i (S++before)&& !(S++before).contains i&&Nat.blt i all.size&&nX all n fls S E (before++[i]) rest
def oM(all:Array Oper)(n:Nat)(fls:List Bool)(S rest T:List Nat):fK→List Nat→List Nat→Bool
 |.fin c,pre,E=>nX all n fls S E [] (pre++c)&&Nat.beq (pre++c).length T.length&&(pre++c).all T.contains&&T.all (pre++c).contains
 |.fork d p A q B,pre,E=>oM all n fls S rest T A (pre++d++[p]) (p::E)&&oM all n fls S rest T B (pre++d++[q]) (q::E)&&((A.list++rest).any fun i=>Nat.beq i q)&&Nat.beq A.list.length B.list.length&&(A.list++rest).all fun i=>Nat.beq i q||(jD all n i p||jD all n i q)
 |.forkN d p ps A,pre,E=>(p::ps).all (fun i=>oM all n fls S rest T (A i) (pre++d++[i]) (i::E)&&Nat.beq (A i).list.length (A p).list.length&&(Nat.beq i p||((A p).list++rest).contains i))&&((A p).list++rest).all fun i=>ps.contains i||(p::ps).any fun q=>jD all n i q
def mC(all:Array Oper)(n:Nat)(fls:List Bool):List Nat→List fK→Bool
 |S,[]=>kX all&&Nat.beq S.length all.size&&(List.range all.size).all S.contains
 |S,pl::segs=>oM all n fls S (kA segs) pl.list pl [] []&&mC all n fls (S++pl.list) segs
structure Z6(all:Array Oper)(n:Nat)(fls:List Bool)(S pre E:List Nat):Prop where
 nodup:pre.Nodup
 mem:∀i,i∈pre ↔ i∈S
 lt:∀i∈pre,i<all.size
 good:uV all n E (fun i=>fls.getD i false) pre
 topo:qH all (Array.replicate all.size false) pre
 len:pre.length=S.length
theorem f8{n:Nat}{S E:List Nat}{fls:List Bool}:∀(c before c1:List Nat) (i:Nat) (c2:List Nat),nX all n fls S E before c=true→c=c1++i::c2→
  n8 all n fls E i (before++c1)=true∧KX all n fls S i=true∧sM all i (S++(before++c1))=true∧i∉S++(before++c1)∧i<all.size:=by
 intro c;induction c with
 |nil=>intro before c1 i c2 _ h;simp at h
 |cons x c ih=>
  intro before c1 i c2 hc h;simp only[nX,aJI]at hc;obtain⟨⟨⟨⟨⟨g,cr⟩,t⟩,nm⟩,lt⟩,hc⟩:=hc;cases c1 with
  |nil=>
   simp only[aKF,aLN]at h;rw[←h.1,aJF];exact⟨g,cr,t,by simpa using nm,by simpa [Nat.blt_eq]using lt⟩
  |cons y c1=>
   simp only[aLO,aLN]at h;have:=ih (before++[x]) c1 i c2 hc h.2;rw[h.1]at this;simpa using this
theorem Z6.more{n:Nat}{fls:List Bool}{S pre E E' T c:List Nat}(h:Z6 all n fls S pre E)(hE:∀e∈E,e∈E')(hc:nX all n fls S E' [] c=true)(hT:∀i,i∈c ↔ i∈T)(hl:c.length=T.length):Z6 all n fls (S++T) (pre++c) E':=by
 have sp:=fun c1 i c2 he=>f8 c [] c1 i c2 hc he
 simp only[aKF]at sp;have hcn:c.Nodup:=by
  have key:∀(c before:List Nat),nX all n fls S E' before c=true→before.Nodup→(before++c).Nodup:=by
   intro c;induction c with
   |nil=>intro before _ h;simpa using h
   |cons i c ih=>
    intro before h hb;simp only[nX,aJI]at h;have hn:i∉S++before:=by simpa using h.1.1.2
    have:=ih (before++[i]) h.2 (by
     rw[aJJ];refine⟨hb,by simp,fun x hx y hy=>?_⟩;simp only[aJR]at hy;rintro rfl;exact hn (aIZ _ (hy▸hx)))
    simpa using this
  simpa using key c [] hc aLI
 have hcS:∀i∈c,i∉S:=fun i hi=>by
  obtain⟨c1,c2,rfl⟩:=List.append_of_mem hi;have:=(sp c1 i c2 rfl).2.2.2.1;exact fun hS=>this (aJG _ hS)
 refine⟨?_,fun i=>?_,fun i hi=>?_,?_,?_,by simp[h.len,hl]⟩
 ·rw[aJJ];exact⟨h.nodup,hcn,fun x hx y hy=>by rintro rfl;exact hcS x hy ((h.mem x).1 hx)⟩
 ·simp[h.mem,hT]
 ·rcases aJO.1 hi with hi|hi
  ·exact h.lt i hi
  ·obtain⟨c1,c2,rfl⟩:=List.append_of_mem hi;exact(sp c1 i c2 rfl).2.2.2.2
 ·intro d1 i d2 he x hx;rcases List.append_eq_append_iff.1 he with⟨t,h1,h2⟩|⟨t,h1,h2⟩
  ·rw[h1]at hx;obtain⟨g,cr,_⟩:=sp t i d2 h2;rcases aJO.1 hx with hx|hx
   ·have:=aJW.1 cr x ((h.mem x).1 hx);simp only[aKS,aJI]at this;rcases this with h'|h'
    ·exact aJE (aJQ h')
    ·exact aJE (aJE ⟨h'.1.1,h'.1.2,h'.2⟩)
   ·have:=aJW.1 g x hx;simp only[aKS,aJI]at this;rcases this with(h'|h')|h'
    ·exact aJQ (by simpa using h')
    ·exact aJE (aJQ h')
    ·exact aJE (aJE ⟨h'.1.1,h'.1.2,h'.2⟩)
  ·cases t with
   |nil=>
    rw[aJF]at h1;rw[aKF]at h2;rw[←h1]at hx;obtain⟨g,cr,_⟩:=sp [] i d2 h2.symm;have:=aJW.1 cr x ((h.mem x).1 hx);simp only[aKS,aJI]at this;rcases this with h'|h'
    ·exact aJE (aJQ h')
    ·exact aJE (aJE ⟨h'.1.1,h'.1.2,h'.2⟩)
   |cons z t=>
    simp only[aLO,aLN]at h2;rw[←h2.1]at h1;rcases h.good d1 i t h1 x hx with h'|h'
    ·exact aJQ (hE x h')
    ·exact aJE h'
 ·intro d1 i d2 he o ho e hm hb;rcases List.append_eq_append_iff.1 he with⟨t,h1,h2⟩|⟨t,h1,h2⟩
  ·obtain⟨_,_,tp,_⟩:=sp t i d2 h2;unfold sM at tp;rw[ho]at tp;simp only[aKJ,aMO,aJW,aKS,aNS,aNP,aJV]at tp;rcases tp e (by simpa using hm)with h'|h'
   ·rw[hb]at h';cases h'
   ·rw[h1];rcases aJO.1 h' with h'|h'
    ·exact aJE (aJG _ ((h.mem _).2 h'))
    ·exact aJE (aIZ _ h')
  ·cases t with
   |nil=>
    rw[aJF]at h1;rw[aKF]at h2;obtain⟨_,_,tp,_⟩:=sp [] i d2 h2.symm;unfold sM at tp;rw[ho]at tp;simp only[aKJ,aMO,aJW,aKS,aNS,aNP,aJV]at tp;rcases tp e (by simpa using hm)with h'|h'
    ·rw[hb]at h';cases h'
    ·rw[←h1];rcases aJO.1 h' with h'|h'
     ·exact aJE ((h.mem _).2 h')
     ·cases h'
   |cons z t=>
    simp only[aLO,aLN]at h2;rw[←h2.1]at h1;exact h.topo d1 i t h1 o ho e hm hb
theorem oP{n:Nat}{fls:List Bool}{S rest T pre E:List Nat}{cont:List Nat→List Nat→Array Bool→Prop}(h:Z6 all n fls S pre E)(hcont:∀pre' E',Z6 all n fls (S++T) pre' E'→cont pre' E' (Array.replicate all.size false)):
  ∀{pl:fK} {lp Ep:List Nat},oM all n fls S rest T pl lp Ep=true→gQ all n cont rest pl (pre++lp) (Ep++E) (Array.replicate all.size false)
 |.fin c,lp,Ep,hc=>by
  simp only[oM,aJI,aJW]at hc;obtain⟨⟨⟨h1,h2⟩,h3⟩,h4⟩:=hc;have h1':nX all n fls S (Ep++E) [] (lp++c)=true:=by
   have key:∀(c before:List Nat),nX all n fls S Ep before c=true→nX all n fls S (Ep++E) before c=true:=by
    intro c;induction c with
    |nil=>intro _ _;rfl
    |cons i c ih=>
     intro before hh;simp only[nX,aJI]at hh ⊢
     refine⟨⟨⟨⟨⟨?_,hh.1.1.1.1.2⟩,hh.1.1.1.2⟩,hh.1.1.2⟩,hh.1.2⟩,ih _ hh.2⟩;unfold n8 at hh ⊢
     rw[aJW];intro x hx;have:=aJW.1 hh.1.1.1.1.1 x hx;simp only[aKS]at this ⊢
     rcases this with(h'|h')|h'
     ·exact aJQ (aJQ (by simp only[aNP,aJV]at h' ⊢;exact aJG _ h'))
     ·exact aJQ (aJE h')
     ·exact aJE h'
   exact key _ _ h1
  have:=h.more (fun e he=>aIZ Ep he) h1' (T:=T) (fun i=>⟨fun hi=>by simpa using h3 i hi,fun hi=>by simpa using h4 i hi⟩) (aKQ h2);show cont (pre++lp++c) (Ep++E) _;rw[aJL];exact hcont _ _ this
 |.fork d p A q B,lp,Ep,hc=>by
  simp only[oM,aJI]at hc;obtain⟨⟨⟨⟨hA,hB⟩,hq⟩,hl⟩,he⟩:=hc;have rA:=oP h hcont hA;have rB:=oP h hcont hB;simp only[←aJL]at rA rB;refine⟨rA,rB,?_,aKQ hl,fun i hi=>?_⟩
  ·obtain⟨x,hx,hb⟩:=aOH.1 hq;rw[←aKQ hb];exact hx
  ·simpa using aJW.1 he i hi
 |.forkN d p ps A,lp,Ep,hc=>by
  simp only[oM,aJI]at hc;obtain⟨hA,he⟩:=hc;refine⟨fun i hi=>?_,fun i hi=>?_⟩
  ·have h1:=aJW.1 hA i hi;simp only[aJI]at h1;have rA:=oP h hcont h1.1.1;simp only[←aJL]at rA;refine⟨rA,aKQ h1.1.2,?_⟩;have h2:=h1.2;rw[aKS]at h2;rcases h2 with h2|h2
   ·exact aJQ (aKQ h2)
   ·exact aJE (by simpa using h2)
  ·have:=aJW.1 he i hi;rw[aKS]at this;rcases this with h1|h1
   ·exact aJQ (by simpa using h1)
   ·obtain⟨q,hq,hr⟩:=aOH.1 h1;exact aJE ⟨q,hq,hr⟩
theorem A3{n:Nat}{fls:List Bool}:∀{segs:List fK} {S pre E:List Nat},Z6 all n fls S pre E→mC all n fls S segs=true→YT all n (fun i=>fls.getD i false) segs pre E (Array.replicate all.size false)
 | [],S,pre,E,h,hc=>by
  simp only[mC,aJI,aJW,aMJ,aNP,aJV]at hc;refine⟨⟨by simp,?_,h.nodup,fun i hi=>?_,h.lt,h.topo⟩,h.good⟩
  ·intro i o ho hl;simp[aKY,Array.getElem?_replicate]at hl;split at hl<;>simp at hl
  ·simp only[aKY,Array.getElem?_replicate,hi,aLH,aMO,iff_true];exact(h.mem i).2 (hc.2 i hi)
 |pl::segs,S,pre,E,h,hc=>by
  simp only[mC,aJI]at hc;have:=oP (cont:=YT all n (fun i=>fls.getD i false) segs) (rest:=kA segs) (T:=pl.list) h (fun pre' E' h'=>A3 h' hc.2) hc.1;rw[aJF,aKF]at this;exact this
theorem X8{n:Nat}{fls:List Bool}:∀{segs:List fK} {S:List Nat},mC all n fls S segs=true→kX all=true∧(S++kA segs).length=all.size
 | [],S,hc=>by
  simp only[mC,aJI]at hc;rw[kA,aJF];exact⟨hc.1.1,aKQ hc.1.2⟩
 |pl::segs,S,hc=>by
  simp only[mC,aJI]at hc;obtain⟨h1,h2⟩:=X8 hc.2;rw[aJL]at h2;exact⟨h1,h2⟩
theorem nP{K:Act→World→Prop}{fl:Nat→Bool}:∀(c:List Nat) (a:Act) (w:World),(∀i∈c,i<all.size)→nL r bad P all K Q (eY all (c.map fun i=>(fl i,i))) a w→yO r bad P all fl K Q c a w:=by
 intro c;induction c with
 |nil=>intro a w _ h;exact h
 |cons i c ih=>
  intro a w hlt h;have hi:=hlt i aJH;have ho:all[i]?= some all[i]:=by simp[hi]
  have hd:all.getD i default=all[i]:=by simp[hi]
  have hrec:∀a w,nL r bad P all K Q (eY all (c.map fun i=>(fl i,i))) a w→yO r bad P all fl K Q c a w:=fun a w hh=>ih a w (fun j hj=>hlt j (aJB _ hj)) hh
  simp only[eY,aJY,nL,hd]at h;simp only[yO,ho];split at h
  ·rename_i hq;obtain⟨v,hy,h⟩:=h;rw[aJT hq];exact⟨v,hy,hrec _ _ h⟩
  ·rename_i hq;rw[aJM hq];exact h.mono hrec
def rG(r:Option Nat){γb:Type}[Membership Nat γb](bad:γb)(P:Program)(all:Array Oper)(fls:List Bool)(Q:Exit→Act→World→Prop)(kont:Act→World→Prop):fK→Act→World→Prop
 |.fin c=>nL r bad P all kont Q (eY all (c.map fun i=>(fls.getD i false,i)))
 |.fork d p A q B=>nL r bad P all (fun a w=>nL r bad P all (rG r bad P all fls Q kont A) Q (eY all [(fls.getD p false,p)]) a w∧nL r bad P all (rG r bad P all fls Q kont B) Q (eY all [(fls.getD q false,q)]) a w) Q (eY all (d.map fun i=>(fls.getD i false,i)))
 |.forkN d p ps A=>nL r bad P all (fun a w=>∀i∈p::ps,nL r bad P all (rG r bad P all fls Q kont (A i)) Q (eY all [(fls.getD i false,i)]) a w) Q (eY all (d.map fun i=>(fls.getD i false,i)))
def p4(r:Option Nat){γb:Type}[Membership Nat γb](bad:γb)(P:Program)(all:Array Oper)(fls:List Bool)(Q:Exit→Act→World→Prop)(K:Act→World→Prop):List fK→Act→World→Prop
 | []=>K
 |pl::segs=>rG r bad P all fls Q (p4 r bad P all fls Q K segs) pl
def pC(N:Nat):fK→Bool
 |.fin c=>c.all fun i=>Nat.blt i N
 |.fork d p A q B=>d.all (fun i=>Nat.blt i N)&&Nat.blt p N&&Nat.blt q N&&pC N A&&pC N B
 |.forkN d p ps A=>d.all (fun i=>Nat.blt i N)&&(p::ps).all fun i=>Nat.blt i N&&pC N (A i)
theorem oO{fls:List Bool}{kont kont':Act→World→Prop}(hk:∀a w,kont a w→kont' a w):∀{pl:fK} {a:Act} {w:World},pC all.size pl=true→rG r bad P all fls Q kont pl a w→QO r bad P all (fun i=>fls.getD i false) Q kont' pl a w
 |.fin c,a,w,hl,h=>oC hk c (nP c a w (fun i hi=>by simpa [Nat.blt_eq]using aJW.1 hl i hi) h)
 |.fork d p A q B,a,w,hl,h=>by
  simp only[pC,aJI,Nat.blt_eq]at hl;obtain⟨⟨⟨⟨h1,h2⟩,h3⟩,h4⟩,h5⟩:=hl;refine oC ?_ d (nP d a w (fun i hi=>by simpa [Nat.blt_eq]using aJW.1 h1 i hi) h);rintro a w ⟨g1,g2⟩;have one:∀(z:Nat) (K:Act→World→Prop),z<all.size→nL r bad P all K Q (eY all [(fls.getD z false,z)]) a w→iQ r bad P all (fun i=>fls.getD i false) Q z K a w:=fun z K hz h=>by
   have:=nP (all:=all) (fl:=fun i=>fls.getD i false) [z] a w (by simpa using hz) h;rw[kR]at this;exact this
  exact⟨(one p _ h2 g1).mono fun a w h=>oO hk h4 h,(one q _ h3 g2).mono fun a w h=>oO hk h5 h⟩
 |.forkN d p ps A,a,w,hl,h=>by
  simp only[pC,aJI]at hl;obtain⟨h1,h2⟩:=hl;refine oC ?_ d (nP d a w (fun i hi=>by simpa [Nat.blt_eq]using aJW.1 h1 i hi) h);intro a w g i hi;have h3:=aJW.1 h2 i hi;simp only[aJI,Nat.blt_eq]at h3;have one:∀(z:Nat) (K:Act→World→Prop),z<all.size→nL r bad P all K Q (eY all [(fls.getD z false,z)]) a w→iQ r bad P all (fun i=>fls.getD i false) Q z K a w:=fun z K hz h=>by
   have:=nP (all:=all) (fl:=fun i=>fls.getD i false) [z] a w (by simpa using hz) h;rw[kR]at this;exact this
  exact(one i _ h3.1 (g i hi)).mono fun a w h=>oO hk h3.2 h
theorem zW{fls:List Bool}:∀{segs:List fK} {a:Act} {w:World},(segs.all fun pl=>pC all.size pl)=true→p4 r bad P all fls Q (fun a w=>Q .normal a w) segs a w→aIJ r bad P all (fun i=>fls.getD i false) Q segs a w
 | [],a,w,_,h=>h
 |pl::segs,a,w,hl,h=>by
  rw[List.all_cons,aJI]at hl;exact oO (fun a w h=>zW hl.2 h) hl.1 h
theorem TB{id n:Nat}{fls:List Bool}{segs:List fK}{a:Act}{w:World}(hm:P.follows .mixedOrders=true)(hc:(mC all n fls [] segs&&segs.all fun pl=>pC all.size pl)=true)(hQ:PI Q)
  (h:p4 r bad P all fls Q (fun a w=>Q .normal a w) segs a {w with drawn:=w.drawn+1}):(Code.region id all true).wpIn (FW r) 0 P Q a w:=by
 rw[aJI]at hc;obtain⟨hnd,hlen⟩:=X8 hc.1;have hr:=A3 (S:=[]) (pre:=[]) (E:=[]) ⟨aLI,fun i=>Iff.rfl,(fun i hi=>by cases hi),(fun c1 i c2 he=>by simp at he),(fun c1 i c2 he=>by simp at he),rfl⟩ hc.1;refine wpIn_region_any hm ?_;have:=B6 (P:=P) (r:=r) (bad:=bad) (n:=n) (fl:=fun i=>fls.getD i false) hnd hQ segs [] [] (Array.replicate all.size false) a {w with drawn:=w.drawn+1} (fun e he=>by cases he) hr (zW hc.2 h);rw[hlen]at this;exact this
end Go.Fs
namespace Go.Fs
abbrev bS:=List (Nat×Value)
abbrev aC:=List (Nat×Obj)
abbrev aA:=Nat→List Value
def look:bS→Nat→Option Value
 | [],_=>none
 |(k,v)::r,s=>match Nat.beq k s with|true=>some v|false=>look r s
def ev(σ:bS):Operand→Option Value
 |.tmp t=>look σ t
 |.const v=>some v
 |.global g=>some (.pointer (some ⟨g,0,none⟩))
 |.func f=>some (.func (.func f) #[] #[])
def Le(D D':aA):Prop:=(∀b,D b <+: D' b)∧D' 0=D 0
theorem Le.refl(D:aA):Le D D:=⟨fun _=>List.prefix_refl _,rfl⟩
theorem Le.trans{D D' D'':aA}(h:Le D D')(h':Le D' D''):Le D D'':=⟨fun b=>(h.1 b).trans (h'.1 b),h'.2.trans h.2⟩
theorem Le.get{D D':aA}(h:Le D D'){b i:Nat}{v:Value}(hv:(D b)[i]?= some v):(D' b)[i]?= some v:=by
 obtain⟨t,ht⟩:=h.1 b;rw[←ht,aMA]
 ·exact hv
 ·exact(aJK.1 hv).1
def dM(D:aA)(w:World):Prop:=(∀b,D b≠[]→∃cs e fz,w.heap[b]?= some (.cells cs e fz)∧D b <+: cs.toList)∧D 0≠[]∧∃e fz,w.heap[0]?= some (.cells (D 0).toArray e fz)
theorem dM.of{D D':aA}{w w':World}(h:dM D w)(h1:∀b,D' b≠[]→∃cs e fz,w'.heap[b]?= some (.cells cs e fz)∧D' b <+: cs.toList)(hD:D' 0=D 0)(hw:w'.heap[0]?= w.heap[0]?):dM D' w':=by
 refine⟨h1,?_⟩;rw[hD,hw];exact h.2
theorem dM.ne0{D:aA}{w:World}(h:dM D w){b:Nat}(hb:D b=[]):b≠0:=fun e=>h.2.1 (e▸hb)
theorem dM.pos{D:aA}{w:World}(h:dM D w):0<w.heap.size:=by
 obtain⟨-, -,e,fz,h⟩:=h;exact(aME.1 h).1
def cN:Obj→Prop
 |.cells _ _ z=>z=(0,0)
 |_=>True
def BA(w:World):Os×Array (Nat×ByteArray):=(w.os,w.output)
structure H0 where
 arr:Array Obj
 env:Option (Os×Array (Nat×ByteArray))
abbrev H0.size(h:H0):Nat:=h.arr.size
abbrev hd(w:World):H0:=⟨w.heap,some (BA w)⟩
structure fP(h0:H0)(lo:Nat)(D0:aA)(mods:List Nat)(μ:aC)(D:aA)(w:World):Prop where
 hlo:h0.size≤lo
 size:lo≤w.heap.size
 old:∀b,b<h0.size→b∉mods→w.heap[b]?= h0.arr[b]?
 dold:∀b,b<h0.size→D b=D0 b
 agr:dM D w
 box:∀p∈μ,w.heap[p.1]?= some p.2∧D p.1=[]∧(lo≤p.1∨p.1∈mods)
 nd:(μ.map (·.1)).Nodup
 fz:∀p∈μ,cN p.2
 env:∀e,h0.env=some e→BA w=e
def tJ(lo:Nat)(D:aA)(w:World):Prop:=dM D w∧lo≤w.heap.size
theorem fP.dom{h0:H0}{lo:Nat}{D0:aA}{mods:List Nat}{μ:aC}{D:aA}{w:World}(h:fP h0 lo D0 mods μ D w):tJ lo D w:=⟨h.agr,h.size⟩
def XZ(β:List Nat)(D:aA)(w:World)(D':aA)(w':World):Prop:=w.heap.size≤w'.heap.size∧(∀b,b<w.heap.size→b∉β→w'.heap[b]?= w.heap[b]?∧D' b=D b)∧BA w'=BA w
theorem XZ.refl(β:List Nat)(D:aA)(w:World):XZ β D w D w:=⟨aJU _,fun _ _ _=>⟨rfl,rfl⟩,rfl⟩
structure vE(lo:Nat)(J:List Nat→aA→World→Prop):Prop where
 low:∀β D w D' w',J β D w→XZ β D w D' w'→tJ lo D' w'→J β D' w'
 own:∀β β' D w,J β D w→(∀b∈β',b∈β∨w.heap.size≤b)→J β' D w
structure Cx where
 r:Option Nat
 N:Nat
 ds:List Deferred
 h0:H0
 lo:Nat
 D0:aA
 mods:List Nat
 ex:Option (List Nat→aA→World→Prop)
def uO(X:Cx)(μ:aC)(D:aA)(w:World):Prop:=
 match X.ex with
 |none=>True
 |some J=>vE X.lo J∧J (μ.map (·.1)) D w
theorem uO.step{X:Cx}{μ μ':aC}{D D':aA}{w w':World}(h:uO X μ D w)(hk:X.ex≠none→∀p∈μ',p.1∈μ.map (·.1)∨w.heap.size≤p.1)(hl:X.ex≠none→XZ (μ.map (·.1)) D w D' w')(hd:tJ X.lo D' w'):uO X μ' D' w':=by
 unfold uO at *;cases hx:X.ex with
 |none=>trivial
 |some J=>
  rw[hx]at h;have hne:X.ex≠none:=by simp[hx]
  refine⟨h.1,?_⟩;have h1:=h.1.own _ (μ'.map (·.1)++μ.map (·.1)) D w h.2 (fun b hb=>by
   rcases aJO.1 hb with hb|hb
   ·obtain⟨p,hp,rfl⟩:=aIY.1 hb;exact hk hne p hp
   ·exact aJQ hb)
  have h2:=h.1.low _ D w D' w' h1 ⟨(hl hne).1,fun b hb hn=>(hl hne).2.1 b hb (fun hm=>hn (aIZ _ hm)),(hl hne).2.2⟩ hd;exact h.1.own _ _ D' w' h2 (fun b hb=>aJQ (aJG _ hb))
def Hl(X:Cx)(σ:bS)(μ:aC)(Ds:List aA)(a:Act)(w:World):Prop:=
 a.tmps.size=X.N∧(∀s v,look σ s=some v→a.tmps[s]?= some v)∧a.defers=X.ds∧∃D,fP X.h0 X.lo X.D0 X.mods μ D w∧(∀D₁∈Ds,Le D₁ D)∧uO X μ D w
def WL(P:Program)(X:Cx){γb:Type}[Membership Nat γb](bad:γb)(all:Array Oper)(K:Act→World→Prop)(Q:Exit→Act→World→Prop)(os:List (Bool×Nat))(σ:bS)(μ:aC)(Ds:List aA):Prop:=
 ∀a w,Hl X σ μ Ds a w→nL X.r bad P all K Q (eY all os) a w
def WC(P:Program)(X:Cx)(Q:Exit→Act→World→Prop)(c:Code)(σ:bS)(μ:aC)(Ds:List aA):Prop:=
 ∀a w,Hl X σ μ Ds a w→c.wpIn (FW X.r) 0 P Q a w
variable{P:Program}{X:Cx}{γb:Type}[Membership Nat γb]{bad:γb}{all:Array Oper}{K:Act→World→Prop}{Q:Exit→Act→World→Prop}
variable{σ:bS}{μ:aC}{Ds:List aA}{os:List (Bool×Nat)}{fl:Bool}{ix:Nat}
theorem Hl.eval{a:Act}{w:World}(h:Hl X σ μ Ds a w){x:Operand}{v:Value}(hx:ev σ x=some v):a.eval x=v:=by
 cases x with
 |tmp t=>
  have:=h.2.1 t v hx;show a.tmps.getD t undef=v;rw[aKY,this];rfl
 |const v=>exact aJZ hx
 |global g=>exact aJZ hx
 |func f=>exact aJZ hx
theorem Hl.put{a:Act}{w:World}(h:Hl X σ μ Ds a w){d:Nat}(hd:Nat.blt d X.N=true)(v:Value):Hl X ((d,v)::σ) μ Ds (a.put (some d) v) w:=by
 have hd':d<X.N:=by simpa [Nat.blt_eq]using hd
 refine⟨by simpa [Act.put]using h.1,fun s u hs=>?_,h.2.2.1,h.2.2.2⟩;simp only[look]at hs;simp only[Act.put];cases hb:Nat.beq d s with
 |true=>
  rw[hb]at hs;obtain rfl:=aKQ hb;cases hs;rw[Array.getElem?_setIfInBounds_self_of_lt (by rw[h.1];exact hd')]
 |false=>
  rw[hb]at hs;rw[aLQ (fun e=>by subst e;simp at hb)]
  exact h.2.1 s u hs
def o8:bS→bS→Prop
 |_,[]=>True
 |σ,(k,v)::r=>look σ k=some v∧o8 σ r
theorem o8.look{σ σ':bS}(h:o8 σ σ'){s:Nat}{v:Value}(hv:look σ' s=some v):look σ s=some v:=by
 induction σ' with
 |nil=>cases hv
 |cons p r ih=>
  obtain⟨k,u⟩:=p;simp only[Fs.look]at hv;cases hb:Nat.beq k s with
  |true=>rw[hb]at hv;cases hv;obtain rfl:=aKQ hb;exact h.1
  |false=>rw[hb]at hv;exact ih h.2 hv
theorem fP.sub{h0:H0}{lo:Nat}{D0:aA}{mods:List Nat}{μ μ':aC}{D:aA}{w:World}(h:fP h0 lo D0 mods μ D w)(hs:∀p∈μ',p∈μ)(hn:(μ'.map (·.1)).Nodup):fP h0 lo D0 mods μ' D w:=
 ⟨h.hlo,h.size,h.old,h.dold,h.agr,fun p hp=>h.box p (hs p hp),hn,fun p hp=>h.fz p (hs p hp),h.env⟩
theorem Hl.weak{σ':bS}{μ':aC}{Ds':List aA}{a:Act}{w:World}(h:Hl X σ μ Ds a w)(hσ:o8 σ σ')(hμ:μ'.Sublist μ)(hD:∀D∈Ds',∃D'∈Ds,Le D D'):Hl X σ' μ' Ds' a w:=by
 obtain⟨h1,h2,h3,D,h4,h5,h6⟩:=h;refine⟨h1,fun s v hv=>h2 s v (hσ.look hv),h3,D,h4.sub (fun p hp=>hμ.mem hp) ((hμ.map (·.1)).nodup h4.nd),fun D₁ hD₁=>?_,h6.step (fun _ p hp=>aJQ (aIY.2 ⟨p,hμ.mem hp,rfl⟩)) (fun _=>XZ.refl _ _ _) h4.dom⟩;obtain⟨D₂,hm,hle⟩:=hD D₁ hD₁;exact hle.trans (h5 D₂ hm)
theorem o8.app{σ σ1 σ2:bS}(h1:o8 σ σ1)(h2:o8 σ σ2):o8 σ (σ1++σ2):=by
 induction σ1 with
 |nil=>exact h2
 |cons p r ih=>exact⟨h1.1,ih h1.2⟩
theorem A7{σ1 σ2:bS}{s:Nat}{v:Value}(h:look (σ1++σ2) s=some v):look σ1 s=some v∨look σ2 s=some v:=by
 induction σ1 with
 |nil=>exact aJE h
 |cons p r ih=>
  obtain⟨k,u⟩:=p;simp only[aLO,look]at h ⊢
  cases hb:Nat.beq k s with
  |true=>rw[hb]at h;exact aJQ h
  |false=>rw[hb]at h;exact ih h

def NP(Q:Exit→Act→World→Prop):Prop:=∀c a w,¬Q (.panic c) a w
theorem NP.pi(h:NP Q):PI Q:=fun c a _ w _ hq=>absurd hq (h c a w)
theorem aM{x y:Code}(h:WC P X (Exit.then (y.wpIn (FW X.r) 0 P Q) Q) x σ μ Ds):WC P X Q (.seq x y) σ μ Ds:=
 fun a w hh=>wpIn_seq (h a w hh)
theorem bQ(h:∀a w,Hl X σ μ Ds a w→Q .normal a w):WC P X Q .skip σ μ Ds:=fun a w hh=>wpIn_skip (h a w hh)
theorem aQ{id:Nat}(h:∀a w,Hl X σ μ Ds a w→Q (.exit id) a w):WC P X Q (.exit id) σ μ Ds:=fun a w hh=>wpIn_exit (h a w hh)
theorem N9(h:∀a w,Hl X σ μ Ds a w→Q .ret a w):WC P X Q .ret σ μ Ds:=fun a w hh=>wpIn_ret (h a w hh)
theorem FR{y:Code}(h:WC P X Q y σ μ Ds):∀a w,Hl X σ μ Ds a w→(Exit.then (y.wpIn (FW X.r) 0 P Q) Q) .normal a w:=h
theorem _root_.Go.Fs.Zah{y:Code}(h:WC P X Q y σ μ Ds):∀a w,Hl X σ μ Ds a w→(Exit.then (y.wpIn (FW X.r) 0 P Q) Q) .normal a w:=FR h
theorem aJ{c:Operand}{x y:Code}{b:Bool}(hc:ev σ c=some (.bool b))(ht:b=true→WC P X Q x σ μ Ds)(hf:b=false→WC P X Q y σ μ Ds):WC P X Q (.cond c x y) σ μ Ds:=
 fun a w hh=>wpIn_cond_split (hh.eval hc) (fun e=>ht e a w hh) (fun e=>hf e a w hh)
theorem aBL{id:Nat}{c:Code}(h:WC P X (Exit.inBlock id Q) c σ μ Ds):WC P X Q (.block id c) σ μ Ds:=fun a w hh=>wpIn_block (h a w hh)
theorem _root_.Go.Fs.Zaj{id:Nat}{c:Code}(h:WC P X (Exit.inBlock id Q) c σ μ Ds):WC P X Q (.block id c) σ μ Ds:=aBL h
theorem m6{id:Nat}{a:Act}{w:World}(h:Q .normal a w):Exit.inBlock id Q (.exit id) a w:=by simp[Exit.inBlock,h]
theorem S5{id id':Nat}(hne:Nat.beq id' id=false){a:Act}{w:World}(h:Q (.exit id') a w):Exit.inBlock id Q (.exit id') a w:=by
 have:id'≠id:=fun e=>by subst e;simp at hne
 simp[Exit.inBlock,this,h]
theorem TG(is:List (Bool×Nat)){id:Nat}{ops:Array Oper}(hi:is=(List.range ops.size).map fun i=>(false,i))(h:WL P X [] ops (fun a w=>Q .normal a w) Q is σ μ Ds):WC P X Q (.region id ops false) σ μ Ds:=
 fun a w hh=>UP (by rw[SL,←hi];exact h a w hh)
theorem C.rg{id:Nat}{ops:Array Oper}(h:WL P X [] ops (fun a w=>Q .normal a w) Q ((List.range ops.size).map fun i=>(false,i)) σ μ Ds):WC P X Q (.region id ops false) σ μ Ds:=TG _ rfl h
theorem C.rs{p:Prop}(h:p:=by repeat (first|exact trivial|refine⟨rfl,?_⟩)):p:=h
theorem C.fo{Q:Program}(h:Q.follows .mixedOrders=true:=by exact Tf.follows):Q.follows .mixedOrders=true:=h
theorem C.ge{α:Type}(l:List α)(i:Nat)(h:i<l.length:=by omega):∃x,l[i]?= some x:=⟨_,aJC h⟩
theorem Hl.drew{a:Act}{w:World}(h:Hl X σ μ Ds a w):Hl X σ μ Ds a {w with drawn:=w.drawn+1}:=by
 obtain⟨h1,h2,h3,D,h4,h5,h6⟩:=h;exact⟨h1,h2,h3,D,⟨h4.hlo,h4.size,h4.old,h4.dold,h4.agr,h4.box,h4.nd,h4.fz,h4.env⟩,h5,h6.step (fun _ p hp=>aJQ (aIY.2 ⟨p,hp,rfl⟩)) (fun _=>⟨aJU _,fun _ _ _=>⟨rfl,rfl⟩,rfl⟩) h4.dom⟩
theorem t6{γb:Type}[Membership Nat γb](bad:γb)(n:Nat)(c:List Nat)(bits:List Bool)(is:List (Bool×Nat)){id:Nat}{ops:Array Oper}(hm:P.follows .mixedOrders=true)(hQ:PI Q)(hc:(Z4 ops n c&&(vN ops n [] c==bits))=true)(hi:is=bits.zip c)
  (h:WL P X bad ops (fun a w=>Q .normal a w) Q is σ μ Ds):WC P X Q (.region id ops true) σ μ Ds:=by
 rw[aJI]at hc;intro a w hh;refine aAI (bad:=bad) hm hc.1 hQ ?_;rw[X4,eq_of_beq hc.2,←hi];exact h a _ hh.drew
theorem iW{γb:Type}[Membership Nat γb](bad:γb)(n:Nat)(c:List Nat)(bits:List Bool)(is:List (Bool×Nat)){id:Nat}{ops:Array Oper}(hm:P.follows .mixedOrders=true)(hQ:NP Q)(hc:(Z4 ops n c&&(vN ops n [] c==bits))=true)(hi:is=bits.zip c)
    (h:WL P X bad ops (fun a w=>Q .normal a w) Q is σ μ Ds):WC P X Q (.region id ops true) σ μ Ds:=t6 bad n c bits is hm hQ.pi hc hi h
theorem C.zm(f:Nat→Bool):∀l:List Nat,(l.map f).zip l=l.map fun i=>(f i,i)
 | []=>rfl
 |a::l=>by rw[aJY,aOB,C.zm f l];rfl
def C.ms(n m:Nat):List (Bool×Nat):=(List.range n).map fun i=>(Nat.testBit m i,i)
theorem C.drawPA{γb:Type}[Membership Nat γb](bad:γb)(n k m:Nat){id:Nat}{ops:Array Oper}(hQ:PI Q)(h:WL P X bad ops (fun a w=>Q .normal a w) Q (C.ms k m) σ μ Ds)(hc:(Z4 ops n (List.range k)&&(vN ops n [] (List.range k)==(List.range k).map fun i=>Nat.testBit m i))=true:=by kernel_rfl)(hm:P.follows .mixedOrders=true:=by exact Tf.follows):WC P X Q (.region id ops true) σ μ Ds:=
 t6 bad n _ _ _ hm hQ hc (C.zm _ _).symm h
theorem C.drawA{γb:Type}[Membership Nat γb](bad:γb)(n k m:Nat){id:Nat}{ops:Array Oper}(hQ:NP Q)(h:WL P X bad ops (fun a w=>Q .normal a w) Q (C.ms k m) σ μ Ds)(hc:(Z4 ops n (List.range k)&&(vN ops n [] (List.range k)==(List.range k).map fun i=>Nat.testBit m i))=true:=by kernel_rfl)(hm:P.follows .mixedOrders=true:=by exact Tf.follows):WC P X Q (.region id ops true) σ μ Ds:=C.drawPA bad n k m hQ.pi h hc hm
def WS(P:Program)(X:Cx){γb:Type}[Membership Nat γb](bad:γb)(all:Array Oper)(fls:List Bool)(K:Act→World→Prop)(Q:Exit→Act→World→Prop)(segs:List fK)(σ:bS)(μ:aC)(Ds:List aA):Prop:=
 ∀a w,Hl X σ μ Ds a w→p4 X.r bad P all fls Q K segs a w
def WP(P:Program)(X:Cx){γb:Type}[Membership Nat γb](bad:γb)(all:Array Oper)(fls:List Bool)(kont:Act→World→Prop)(Q:Exit→Act→World→Prop)(pl:fK)(σ:bS)(μ:aC)(Ds:List aA):Prop:=
 ∀a w,Hl X σ μ Ds a w→rG X.r bad P all fls Q kont pl a w
theorem UF{γb:Type}[Membership Nat γb](bad:γb)(n:Nat)(fls:List Bool)(segs:List fK){id:Nat}{ops:Array Oper}(hm:P.follows .mixedOrders=true)(hQ:PI Q)(hc:(mC ops n fls [] segs&&segs.all fun pl=>pC ops.size pl)=true)
  (h:WS P X bad ops fls (fun a w=>Q .normal a w) Q segs σ μ Ds):WC P X Q (.region id ops true) σ μ Ds:=by
 intro a w hh;exact TB (bad:=bad) hm hc hQ (h a _ hh.drew)
theorem kV{γb:Type}[Membership Nat γb](bad:γb)(n:Nat)(fls:List Bool)(segs:List fK){id:Nat}{ops:Array Oper}(hm:P.follows .mixedOrders=true)(hQ:NP Q)(hc:(mC ops n fls [] segs&&segs.all fun pl=>pC ops.size pl)=true)
  (h:WS P X bad ops fls (fun a w=>Q .normal a w) Q segs σ μ Ds):WC P X Q (.region id ops true) σ μ Ds:=UF bad n fls segs hm hQ.pi hc h
section segments
variable{fls:List Bool}{kont:Act→World→Prop}
theorem kS(h:∀a w,Hl X σ μ Ds a w→K a w):WS P X bad all fls K Q [] σ μ Ds:=h
theorem kY{c:List Nat}{segs:List fK}(is:List (Bool×Nat))(hi:is=c.map fun i=>(fls.getD i false,i))(h:WL P X bad all (fun a w=>p4 X.r bad P all fls Q K segs a w) Q is σ μ Ds):WS P X bad all fls K Q (.fin c::segs) σ μ Ds:=by
 subst hi;exact h
theorem nR{pl:fK}{segs:List fK}(h:WP P X bad all fls (fun a w=>p4 X.r bad P all fls Q K segs a w) Q pl σ μ Ds):WS P X bad all fls K Q (pl::segs) σ μ Ds:=h
theorem aP{c:List Nat}(is:List (Bool×Nat))(hi:is=c.map fun i=>(fls.getD i false,i))(h:WL P X bad all kont Q is σ μ Ds):WP P X bad all fls kont Q (.fin c) σ μ Ds:=by
 subst hi;exact h
theorem bE{d:List Nat}{p q:Nat}{A B:fK}(is:List (Bool×Nat))(hi:is=d.map fun i=>(fls.getD i false,i))
  (h:WL P X bad all (fun a w=>nL X.r bad P all (rG X.r bad P all fls Q kont A) Q (eY all [(fls.getD p false,p)]) a w∧nL X.r bad P all (rG X.r bad P all fls Q kont B) Q (eY all [(fls.getD q false,q)]) a w) Q is σ μ Ds):WP P X bad all fls kont Q (.fork d p A q B) σ μ Ds:=by
 subst hi;exact h
theorem cZ{p q:Nat}{A B:fK}(bp bq:Bool)(hp:fls.getD p false=bp)(hq:fls.getD q false=bq)(h1:WL P X bad all (fun a w=>rG X.r bad P all fls Q kont A a w) Q [(bp,p)] σ μ Ds)(h2:WL P X bad all (fun a w=>rG X.r bad P all fls Q kont B a w) Q [(bq,q)] σ μ Ds):
  ∀a w,Hl X σ μ Ds a w→nL X.r bad P all (rG X.r bad P all fls Q kont A) Q (eY all [(fls.getD p false,p)]) a w∧nL X.r bad P all (rG X.r bad P all fls Q kont B) Q (eY all [(fls.getD q false,q)]) a w:=fun a w hh=>by
 subst hp hq;exact⟨h1 a w hh,h2 a w hh⟩
theorem mJ{d:List Nat}{p:Nat}{ps:List Nat}{A:Nat→fK}(is:List (Bool×Nat))(hi:is=d.map fun i=>(fls.getD i false,i))
  (h:WL P X bad all (fun a w=>∀i∈p::ps,nL X.r bad P all (rG X.r bad P all fls Q kont (A i)) Q (eY all [(fls.getD i false,i)]) a w) Q is σ μ Ds):WP P X bad all fls kont Q (.forkN d p ps A) σ μ Ds:=by
 subst hi;exact h
theorem sI{A:Nat→fK}:∀a w,Hl X σ μ Ds a w→∀i∈([]:List Nat),nL X.r bad P all (rG X.r bad P all fls Q kont (A i)) Q (eY all [(fls.getD i false,i)]) a w:=fun _ _ _ _ h=>by cases h
theorem eM{A:Nat→fK}{p:Nat}{ps:List Nat}(b:Bool){B:fK}(hb:fls.getD p false=b)(hB:A p=B)(h1:WL P X bad all (fun a w=>rG X.r bad P all fls Q kont B a w) Q [(b,p)] σ μ Ds)
  (h2:∀a w,Hl X σ μ Ds a w→∀i∈ps,nL X.r bad P all (rG X.r bad P all fls Q kont (A i)) Q (eY all [(fls.getD i false,i)]) a w):
  ∀a w,Hl X σ μ Ds a w→∀i∈p::ps,nL X.r bad P all (rG X.r bad P all fls Q kont (A i)) Q (eY all [(fls.getD i false,i)]) a w:=fun a w hh i hi=>by
 rcases aIW.1 hi with rfl|hi
 ·rw[hb,hB];exact h1 a w hh
 ·exact h2 a w hh i hi
end segments
def O2:List (Nat×fK)→Nat→fK
 | [],_=>.fin []
 |(j,pl)::l,i=>bif Nat.beq i j then pl else O2 l i
theorem aEK{γ:Type}{c:Code}(m:γ→Nat)(I:γ→Prop)(S:γ→bS)(M:γ→aC)(E:γ→List aA)(g₀:γ)(h₀:I g₀)(hσ:o8 σ (S g₀))(hμ:(M g₀).Sublist μ)(hD:∀D∈E g₀,∃D'∈Ds,Le D D')
  (round:∀g,I g→WC P X (Exit.then (fun a w=>∃g',I g'∧m g'<m g∧Hl X (S g') (M g') (E g') a w) Q) c (S g) (M g) (E g)):WC P X Q (.loop c) σ μ Ds:=by
 let p:Act→World→Nat→Prop:=fun a w n=>∃g,I g∧m g=n∧Hl X (S g) (M g) (E g) a w
 have ex:∀a w,(∃n,p a w n)→∃n,p a w n∧∀k,p a w k→n≤k:=by
  intro a w ⟨n,hn⟩;induction n using Nat.strongRecOn with
  |_ n ih=>
   by_cases h:∃k,k<n∧p a w k
   ·obtain⟨k,hk,hp⟩:=h;exact ih k hk hp
   ·exact⟨n,hn,fun k hk=>Nat.le_of_not_lt fun hl=>h ⟨k,hl,hk⟩⟩
 intro a w hh;refine wpIn_loop (fun a w=>∃n,p a w n) (fun a w=>open Classical in if h:∃n,p a w n then(ex a w h).choose else 0) ⟨_,g₀,h₀,rfl,hh.weak hσ hμ hD⟩ ?_;intro a w hI;obtain⟨⟨g,hg,hm,hst⟩,hmin⟩:=(ex a w hI).choose_spec;refine wpIn_mono (round g hg a w hst) fun e a' w' hq=>?_
 cases e with
 |normal=>
  obtain⟨g',hg',hlt,hst'⟩:=hq;have hI':∃n,p a' w' n:=⟨_,g',hg',rfl,hst'⟩
  refine⟨hI',?_⟩;simp only[dif_pos hI',dif_pos hI];have:=(ex a' w' hI').choose_spec.2 _ ⟨g',hg',rfl,hst'⟩;omega
 |_=>exact hq

def cT(all:Array Oper)(σ:bS):Option (Nat×Bool)→Prop
 |none=>True
 |some (j,want)=>∃s,(all[j]?).bind (·.dst)=some s∧look σ s=some (.bool want)
def aIG(all:Array Oper)(σ:bS):Option (Nat×Bool)→Prop
 |none=>False
 |some (j,want)=>∃s v,(all[j]?).bind (·.dst)=some s∧look σ s=some v∧(match v with|.bool b=>Bool.xor b want|_=>true)=true
theorem Hl.wanted{a:Act}{w:World}(h:Hl X σ μ Ds a w){o:Oper}(hg:cT all σ o.guard):Region.wanted o (yielded all a.tmps)=true:=by
 unfold Region.wanted;cases hgd:o.guard with
 |none=>rfl
 |some p=>
  obtain⟨j,want⟩:=p;rw[hgd]at hg;obtain⟨s,hs,hl⟩:=hg;simp[yielded,hs,h.2.1 s _ hl]
theorem Hl.unwanted{a:Act}{w:World}(h:Hl X σ μ Ds a w){o:Oper}(hg:aIG all σ o.guard):Region.wanted o (yielded all a.tmps)=false:=by
 unfold Region.wanted;cases hgd:o.guard with
 |none=>rw[hgd]at hg;exact hg.elim
 |some p=>
  obtain⟨j,want⟩:=p;rw[hgd]at hg;obtain⟨s,v,hs,hl,hv⟩:=hg;have hy:yielded all a.tmps j=(match v with|.bool b=>some b|_=>none):=by
   simp only[yielded,hs,Option.bind_some,h.2.1 s _ hl];cases v<;>rfl
  simp only[hy];cases v with
  |bool b=>cases b<;>cases want<;>first|rfl|(simp at hv)
  |_=>rfl
theorem A8(h:∀a w,Hl X σ μ Ds a w→K a w):WL P X bad all K Q [] σ μ Ds:=fun a w hh=>h a w hh
theorem _root_.Go.Fs.Zab(h:∀a w,Hl X σ μ Ds a w→K a w):WL P X bad all K Q [] σ μ Ds:=A8 h
theorem qW{o:Oper}(ho:all[ix]?= some o):eY all ((fl,ix)::os)=(fl,o)::eY all os:=by simp[eY,ho]
theorem jL{o:Oper}{d:Nat}{v:Value}(ho:all[ix]?= some o)(hq:hG o.op=true)(hd:o.dst=some d)(hN:Nat.blt d X.N=true)(hg:cT all σ o.guard)
  (hv:∀a w,Hl X σ μ Ds a w→∀w',jW bad w w'→(execOp a.eval o).run P w'=.ok (.value v) w') (k:WL P X bad all K Q os ((d,v)::σ) μ Ds):WL P X bad all K Q ((fl,ix)::os) σ μ Ds:=by
 intro a w hh;rw[qW ho];simp only[nL,hq,aLH];refine⟨v,aJQ ⟨hh.wanted hg,hv a w hh⟩,?_⟩;rw[hd];exact k _ _ (hh.put hN v)
theorem bG{o:Oper}{d:Nat}{v:Value}(ho:all[ix]?= some o)(hq:hG o.op=true)(hd:o.dst=some d)(hN:Nat.blt d X.N=true)(hg:cT all σ o.guard)
  (hv:∀ρ:Operand→Value,(∀x u,ev σ x=some u→ρ x=u)→∀w',(execOp ρ o).run P w'=.ok (.value v) w') (k:WL P X bad all K Q os ((d,v)::σ) μ Ds):WL P X bad all K Q ((fl,ix)::os) σ μ Ds:=
 jL ho hq hd hN hg (fun a _ hh w' _=>hv a.eval (fun _ _ hx=>hh.eval hx) w') k
theorem aEQ{o:Oper}{d:Nat}(ho:all[ix]?= some o)(hd:o.dst=some d)(hN:Nat.blt d X.N=true)(hg:aIG all σ o.guard)(k:WL P X bad all K Q os ((d,undef)::σ) μ Ds):WL P X bad all K Q ((fl,ix)::os) σ μ Ds:=by
 intro a w hh;rw[qW ho];simp only[nL];split
 ·refine⟨undef,aJE ⟨hh.unwanted hg,rfl⟩,?_⟩;rw[hd];exact k _ _ (hh.put hN _)
 ·unfold wB;rw[aJM (by rw[hh.unwanted hg];simp),hd]
  exact k _ _ (hh.put hN _)
theorem _root_.Go.Fs.Zk{o:Oper}{d:Nat}(e9:(all[ix]?,o.dst)=(some o,some d))(k:WL P X bad all K Q os ((d,undef)::σ) μ Ds)(hN:Nat.blt d X.N=true:=by exact rfl)(hg:aIG all σ o.guard:=by exact⟨_,_,rfl,rfl,rfl⟩):WL P X bad all K Q ((fl,ix)::os) σ μ Ds:=aEQ (aJS (fun z=>z.1) e9) (aJS (fun z=>z.2) e9) hN hg k
theorem lP{K':Act→World→Prop}:∀(xs ys:List (Bool×Oper)) (a:Act) (w:World),nL X.r bad P all (fun a w=>K' a w) Q xs a w→(∀a w,K' a w→nL X.r bad P all K Q ys a w)→nL X.r bad P all K Q (xs++ys) a w
 | [],ys,a,w,h,hk=>hk a w h
 |(fl,o)::xs,ys,a,w,h,hk=>by
  simp only[aLO,nL]at h ⊢
  split at h
  ·rename_i hq;rw[aJT hq];obtain⟨v,hy,h⟩:=h;exact⟨v,hy,lP xs ys _ _ h hk⟩
  ·rename_i hq;rw[aJM hq];exact h.mono fun a w hh=>lP xs ys a w hh hk
theorem WL.append{K':Act→World→Prop}{xs ys:List (Bool×Nat)}{a:Act}{w:World}(h:nL X.r bad P all (fun a w=>K' a w) Q (eY all xs) a w)(hk:∀a w,K' a w→nL X.r bad P all K Q (eY all ys) a w):
  nL X.r bad P all K Q (eY all (xs++ys)) a w:=by
 rw[eY,aJN];exact lP _ _ a w h hk
theorem V7(xs ys:List (Bool×Nat)){s p:Nat}{b c want:Bool}(ho:os=xs++ys)(hs:look σ s=some (.bool b))
  (hyes:b=want→WL P X bad all (fun a w=>Hl X ((p,.bool c)::(s,.bool want)::σ) μ Ds a w) Q xs ((s,.bool want)::σ) μ Ds)
  (hno:b= !want→WL P X bad all (fun a w=>Hl X ((p,.bool (!want))::(s,.bool (!want))::σ) μ Ds a w) Q xs ((s,.bool (!want))::σ) μ Ds)
  (k:WL P X bad all K Q ys ((p,.bool (bif want then b&&c else b||c))::σ) μ Ds):WL P X bad all K Q os σ μ Ds:=by
 have hsub:∀u,Value.bool b=u→∀a w,Hl X σ μ Ds a w→Hl X ((s,u)::σ) μ Ds a w:=by
  rintro _ rfl a w ⟨h1,h2,h3⟩;refine⟨h1,fun t v ht=>?_,h3⟩;simp only[look]at ht;cases hb:Nat.beq s t with
  |true=>rw[hb]at ht;cases ht;obtain rfl:=aKQ hb;exact h2 _ _ hs
  |false=>rw[hb]at ht;exact h2 _ _ ht
 have hback:∀u v,Value.bool b=u→∀a w,Hl X ((p,v)::(s,u)::σ) μ Ds a w→Hl X ((p,v)::σ) μ Ds a w:=by
  rintro _ v rfl a w ⟨h1,h2,h3⟩;refine⟨h1,fun t v' ht=>?_,h3⟩;refine h2 t v' ?_;simp only[look]at ht ⊢
  cases hp:Nat.beq p t with
  |true=>rw[hp]at ht;exact ht
  |false=>
   rw[hp]at ht;cases hb:Nat.beq s t with
   |true=>obtain rfl:=aKQ hb;rw[←ht,hs]
   |false=>exact ht
 subst ho;intro a w hh;have kk:∀v,v=Value.bool (bif want then b&&c else b||c)→∀a w,Hl X ((p,v)::σ) μ Ds a w→nL X.r bad P all K Q (eY all ys) a w:=by rintro _ rfl a w h;exact k a w h
 cases b<;>cases want
 ·exact WL.append (hyes rfl a w (hsub _ rfl a w hh)) fun a w h=>kk _ rfl a w (hback _ _ rfl a w h)
 ·exact WL.append (hno rfl a w (hsub _ rfl a w hh)) fun a w h=>kk _ rfl a w (hback _ _ rfl a w h)
 ·exact WL.append (hno rfl a w (hsub _ rfl a w hh)) fun a w h=>kk _ rfl a w (hback _ _ rfl a w h)
 ·exact WL.append (hyes rfl a w (hsub _ rfl a w hh)) fun a w h=>kk _ rfl a w (hback _ _ rfl a w h)
theorem L.anK(k:Nat){s p:Nat}{b c:Bool}(hs:look σ s=some (.bool b))
 (hyes:b=true→WL P X bad all (fun a w=>Hl X ((p,.bool c)::(s,.bool true)::σ) μ Ds a w) Q (os.take k) ((s,.bool true)::σ) μ Ds)
 (hno:b=false→WL P X bad all (fun a w=>Hl X ((p,.bool false)::(s,.bool false)::σ) μ Ds a w) Q (os.take k) ((s,.bool false)::σ) μ Ds)
 (kk:WL P X bad all K Q (os.drop k) ((p,.bool (b&&c))::σ) μ Ds):WL P X bad all K Q os σ μ Ds:=V7 (os.take k) (os.drop k) (want:=true) (aLD k os).symm hs hyes hno kk
theorem L.orK(k:Nat){s p:Nat}{b c:Bool}(hs:look σ s=some (.bool b))
 (hyes:b=false→WL P X bad all (fun a w=>Hl X ((p,.bool c)::(s,.bool false)::σ) μ Ds a w) Q (os.take k) ((s,.bool false)::σ) μ Ds)
 (hno:b=true→WL P X bad all (fun a w=>Hl X ((p,.bool true)::(s,.bool true)::σ) μ Ds a w) Q (os.take k) ((s,.bool true)::σ) μ Ds)
 (kk:WL P X bad all K Q (os.drop k) ((p,.bool (b||c))::σ) μ Ds):WL P X bad all K Q os σ μ Ds:=V7 (os.take k) (os.drop k) (want:=false) (aLD k os).symm hs hyes hno kk
theorem uK{fls:List Bool}{k1 k2:Act→World→Prop}(hk:∀a w,k1 a w→k2 a w):∀(pl:fK) (a:Act) (w:World),rG X.r bad P all fls Q k1 pl a w→rG X.r bad P all fls Q k2 pl a w
 |.fin c,a,w,h=>by
  have:=lP (X:=X) (K':=k1) _ [] a w h (fun a w h=>hk a w h);rw[aJF]at this;exact this
 |.fork d p A q B,a,w,h=>by
  have one:∀(xs:List (Bool×Oper)) (K1 K2:Act→World→Prop) (a:Act) (w:World),nL X.r bad P all K1 Q xs a w→(∀a w,K1 a w→K2 a w)→nL X.r bad P all K2 Q xs a w:=fun xs K1 K2 a w h hh=>by
   have:=lP (X:=X) (K':=K1) xs [] a w h (fun a w h=>hh a w h);rw[aJF]at this;exact this
  exact one _ _ _ a w h fun a w hh=>⟨one _ _ _ a w hh.1 (uK hk A),one _ _ _ a w hh.2 (uK hk B)⟩
 |.forkN d p ps A,a,w,h=>by
  have one:∀(xs:List (Bool×Oper)) (K1 K2:Act→World→Prop) (a:Act) (w:World),nL X.r bad P all K1 Q xs a w→(∀a w,K1 a w→K2 a w)→nL X.r bad P all K2 Q xs a w:=fun xs K1 K2 a w h hh=>by
   have:=lP (X:=X) (K':=K1) xs [] a w h (fun a w h=>hh a w h);rw[aJF]at this;exact this
  exact one _ _ _ a w h fun a w hh i hi=>one _ _ _ a w (hh i hi) (uK hk (A i))
theorem zY{fls:List Bool}{K':Act→World→Prop}:∀(xs ys:List fK) (a:Act) (w:World),p4 X.r bad P all fls Q K' xs a w→(∀a w,K' a w→p4 X.r bad P all fls Q K ys a w)→p4 X.r bad P all fls Q K (xs++ys) a w
 | [],_,a,w,h,hk=>hk a w h
 |x::xs,ys,a,w,h,hk=>uK (fun a w h=>zY xs ys a w h hk) x a w h
theorem P2{fls:List Bool}{γ:Type}(I:γ→Prop)(S:γ→bS)(M:γ→aC)(E:γ→List aA)(xs ys:List fK){segs:List fK}(ho:segs=xs++ys)(h1:WS P X bad all fls (fun a w=>∃g,I g∧Hl X (S g) (M g) (E g) a w) Q xs σ μ Ds)
  (h2:∀g,I g→WS P X bad all fls K Q ys (S g) (M g) (E g)):WS P X bad all fls K Q segs σ μ Ds:=by
 subst ho;intro a w hh;exact zY xs ys a w (h1 a w hh) fun a w ⟨g,hg,h⟩=>h2 g hg a w h
def vD:Nat→bS→Bool
 |0,_=>true
 |_,[]=>true
 |n+1,(k,_)::r=>(match look (r.drop n) k with|none=>true|some _=>false)&&vD n r
theorem tS:∀(n:Nat) (σ:bS),vD n σ=true→∀s v,look (σ.drop n) s=some v→look σ s=some v
 |0,σ,_,s,v,h=>h
 |n+1,[],_,s,v,h=>h
 |n+1,(k,u)::r,hd,s,v,h=>by
  simp only[vD,aJI]at hd;simp only[aOI]at h;have h2:=tS n r hd.2 s v h;simp only[look];cases hb:Nat.beq k s with
  |false=>exact h2
  |true=>
   obtain rfl:=aKQ hb;have:=hd.1;rw[h]at this;cases this
theorem Hl.cutK{p:Nat}{v:Value}{a:Act}{w:World}(n:Nat)(h:Hl X ((p,v)::σ) μ Ds a w)(hd:vD n σ=true):Hl X ((p,v)::σ.drop n) μ Ds a w:=by
 obtain⟨h1,h2,h3⟩:=h;refine⟨h1,fun s u hs=>h2 s u ?_,h3⟩;simp only[look]at hs ⊢
 cases hb:Nat.beq p s with
 |true=>rw[hb]at hs;exact hs
 |false=>rw[hb]at hs;exact tS n σ hd s u hs
theorem L.cu{p:Nat}{v:Value}(n:Nat)(hd:vD n σ=true:=by exact rfl):WL P X bad all (fun a w=>Hl X ((p,v)::σ.drop n) μ Ds a w) Q [] ((p,v)::σ) μ Ds:=A8 fun _ _ hh=>hh.cutK n hd
theorem C.s1{z:Code}{id:Nat}{ops:Array Oper}(h:WL P X [] ops (fun a w=>(Exit.then (z.wpIn (FW X.r) 0 P Q) Q) .normal a w) (Exit.then (z.wpIn (FW X.r) 0 P Q) Q) ((List.range ops.size).map fun i=>(false,i)) σ μ Ds):WC P X Q (.seq (.region id ops false) z) σ μ Ds:=aM (C.rg h)
theorem C.s2{y z:Code}{id:Nat}{ops:Array Oper}(h:WL P X [] ops (fun a w=>(Exit.then (y.wpIn (FW X.r) 0 P (Exit.then (z.wpIn (FW X.r) 0 P Q) Q)) (Exit.then (z.wpIn (FW X.r) 0 P Q) Q)) .normal a w) (Exit.then (y.wpIn (FW X.r) 0 P (Exit.then (z.wpIn (FW X.r) 0 P Q) Q)) (Exit.then (z.wpIn (FW X.r) 0 P Q) Q)) ((List.range ops.size).map fun i=>(false,i)) σ μ Ds):WC P X Q (.seq (.seq (.region id ops false) y) z) σ μ Ds:=aM (C.s1 h)
theorem L.n1{y:Code}{R:Exit→Act→World→Prop}(h:WC P X Q y σ μ Ds):WL P X bad all (fun a w=>(Exit.then (y.wpIn (FW X.r) 0 P Q) Q) .normal a w) R [] σ μ Ds:=A8 (FR h)
theorem L.n2{x y:Code}{R:Exit→Act→World→Prop}(h:WC P X (Exit.then (y.wpIn (FW X.r) 0 P Q) Q) x σ μ Ds):WL P X bad all (fun a w=>(Exit.then ((Code.seq x y).wpIn (FW X.r) 0 P Q) Q) .normal a w) R [] σ μ Ds:=L.n1 (aM h)
theorem L.n3{z:Code}{id:Nat}{ops:Array Oper}{R:Exit→Act→World→Prop}(h:WL P X [] ops (fun a w=>(Exit.then (z.wpIn (FW X.r) 0 P Q) Q) .normal a w) (Exit.then (z.wpIn (FW X.r) 0 P Q) Q) ((List.range ops.size).map fun i=>(false,i)) σ μ Ds):WL P X bad all (fun a w=>(Exit.then ((Code.seq (.region id ops false) z).wpIn (FW X.r) 0 P Q) Q) .normal a w) R [] σ μ Ds:=L.n1 (C.s1 h)
theorem L.n4{y z:Code}{id:Nat}{ops:Array Oper}{R:Exit→Act→World→Prop}(h:WL P X [] ops (fun a w=>(Exit.then (y.wpIn (FW X.r) 0 P (Exit.then (z.wpIn (FW X.r) 0 P Q) Q)) (Exit.then (z.wpIn (FW X.r) 0 P Q) Q)) .normal a w) (Exit.then (y.wpIn (FW X.r) 0 P (Exit.then (z.wpIn (FW X.r) 0 P Q) Q)) (Exit.then (z.wpIn (FW X.r) 0 P Q) Q)) ((List.range ops.size).map fun i=>(false,i)) σ μ Ds):WL P X bad all (fun a w=>(Exit.then ((Code.seq (.seq (.region id ops false) y) z).wpIn (FW X.r) 0 P Q) Q) .normal a w) R [] σ μ Ds:=L.n1 (C.s2 h)
theorem L.n5{R:Exit→Act→World→Prop}(h:∀a w,Hl X σ μ Ds a w→Q .ret a w):WL P X bad all (fun a w=>(Exit.then (Code.ret.wpIn (FW X.r) 0 P Q) Q) .normal a w) R [] σ μ Ds:=L.n1 (N9 h)
theorem C.kn{y:Code}(h:WC P X Q y σ μ Ds):WC P X (Exit.then (y.wpIn (FW X.r) 0 P Q) Q) .skip σ μ Ds:=bQ (FR h)

theorem OE{k:Act→World→Prop}(h:∀a w,Hl X σ μ Ds a w→Q .ret a w):∀a w,Hl X σ μ Ds a w→Exit.then k Q .ret a w:=h
theorem _root_.Go.Fs.Zai{k:Act→World→Prop}(h:∀a w,Hl X σ μ Ds a w→Q .ret a w):∀a w,Hl X σ μ Ds a w→Exit.then k Q .ret a w:=OE h
theorem GO{k:Act→World→Prop}{id:Nat}(h:∀a w,Hl X σ μ Ds a w→Q (.exit id) a w):∀a w,Hl X σ μ Ds a w→Exit.then k Q (.exit id) a w:=h
theorem _root_.Go.Fs.Zak{k:Act→World→Prop}{id:Nat}(h:∀a w,Hl X σ μ Ds a w→Q (.exit id) a w):∀a w,Hl X σ μ Ds a w→Exit.then k Q (.exit id) a w:=GO h
theorem EI{id:Nat}(h:∀a w,Hl X σ μ Ds a w→Q .ret a w):∀a w,Hl X σ μ Ds a w→Exit.inBlock id Q .ret a w:=h
theorem _root_.Go.Fs.Zam{id:Nat}(h:∀a w,Hl X σ μ Ds a w→Q .ret a w):∀a w,Hl X σ μ Ds a w→Exit.inBlock id Q .ret a w:=EI h
theorem HA{id:Nat}(h:∀a w,Hl X σ μ Ds a w→Q .normal a w):∀a w,Hl X σ μ Ds a w→Exit.inBlock id Q .normal a w:=h
theorem _root_.Go.Fs.Zal{id:Nat}(h:∀a w,Hl X σ μ Ds a w→Q .normal a w):∀a w,Hl X σ μ Ds a w→Exit.inBlock id Q .normal a w:=HA h
theorem AT{id:Nat}(h:∀a w,Hl X σ μ Ds a w→Q .normal a w):∀a w,Hl X σ μ Ds a w→Exit.inBlock id Q (.exit id) a w:=fun a w hh=>m6 (h a w hh)
theorem _root_.Go.Fs.Zan{id:Nat}(h:∀a w,Hl X σ μ Ds a w→Q .normal a w):∀a w,Hl X σ μ Ds a w→Exit.inBlock id Q (.exit id) a w:=AT h
theorem mN{id id':Nat}(hne:Nat.beq id' id=false)(h:∀a w,Hl X σ μ Ds a w→Q (.exit id') a w):∀a w,Hl X σ μ Ds a w→Exit.inBlock id Q (.exit id') a w:=fun a w hh=>S5 hne (h a w hh)
theorem cE{γ:Type}{c:Code}(m:γ→Nat)(I:γ→Prop)(ch:γ→bS)(rest:bS)(M:γ→aC)(E:γ→List aA)(g₀:γ)(h₀:I g₀)(hch:o8 σ (ch g₀))(hrest:o8 σ rest)(hμ:(M g₀).Sublist μ)(hD:∀D∈E g₀,∃D'∈Ds,Le D D')
  (round:∀g,I g→WC P X (Exit.then (fun a w=>∃g',I g'∧m g'<m g∧Hl X (ch g'++rest) (M g') (E g') a w) Q) c (ch g++rest) (M g) (E g)):WC P X Q (.loop c) σ μ Ds:=
 aEK m I (fun g=>ch g++rest) M E g₀ h₀ (o8.app hch hrest) hμ hD round
theorem cJ{γ:Type}{c:Code}(m:γ→Nat)(I:γ→Prop)(ch:γ→bS)(rest:bS)(E:γ→List aA)(g₀:γ)(h₀:I g₀)(hch:o8 σ (ch g₀))(hrest:o8 σ rest)(hD:∀D∈E g₀,∃D'∈Ds,Le D D')
  (round:∀g,I g→WC P X (Exit.then (fun a w=>∃g',I g'∧m g'<m g∧Hl X (ch g'++rest) ((fun _=>μ) g') (E g') a w) Q) c (ch g++rest) μ (E g)):WC P X Q (.loop c) σ μ Ds:=
 cE m I ch rest (fun _=>μ) E g₀ h₀ hch hrest (LE _) hD round
theorem aG{γ:Type}{m:γ→Nat}{I:γ→Prop}{ch:γ→bS}{rest:bS}{M:γ→aC}{E:γ→List aA}{g:γ}(n:Nat)(g':γ)(h1:I g')(h2:m g'<m g)(hch:o8 σ (ch g'))(hn:vD n σ=true)(hr:σ.drop n=rest)(hμ:(M g').Sublist μ)(hD:∀D∈E g',∃D'∈Ds,Le D D'):
  ∀a w,Hl X σ μ Ds a w→Exit.then (fun a w=>∃g',I g'∧m g'<m g∧Hl X (ch g'++rest) (M g') (E g') a w) Q .normal a w:=by
 intro a w hh;refine⟨g',h1,h2,?_⟩;have h3:=hh.weak (σ':=ch g') hch hμ hD;refine⟨h3.1,fun s v hs=>?_,h3.2.2⟩;rcases A7 hs with hs|hs
 ·exact h3.2.1 s v hs
 ·subst hr;exact hh.2.1 s v (tS n σ hn s v hs)
theorem aD{Ds:List aA}:∀D∈Ds,∃D'∈Ds,Le D D':=fun D h=>⟨D,h,Le.refl D⟩
section ops
variable{d:Nat}{x y z:Operand}{u v:Value}{ty:TypeId}{pos:String}{aft:Array Edge}{g:Option (Nat×Bool)}
theorem XB(ho:all[ix]?= some ⟨some d,.move x,ty,pos,aft,g⟩)(hx:ev σ x=some v)(hN:Nat.blt d X.N=true)(hg:cT all σ g)(k:WL P X bad all K Q os ((d,v)::σ) μ Ds):WL P X bad all K Q ((fl,ix)::os) σ μ Ds:=
 bG ho rfl rfl hN hg (fun ρ hρ w'=>by simp[execOp,hρ x v hx,Pure.pure]) k
theorem _root_.Go.Fs.Za(e9:(all[ix]?,ev σ x)=(some ⟨some d,.move x,ty,pos,aft,g⟩,some v))(k:WL P X bad all K Q os ((d,v)::σ) μ Ds)(hN:Nat.blt d X.N=true:=by exact rfl)(hg:cT all σ g:=by exact aOJ):WL P X bad all K Q ((fl,ix)::os) σ μ Ds:=XB (aJS (fun z=>z.1) e9) (aJS (fun z=>z.2) e9) hN hg k
theorem _root_.Go.Fs.Zb(e9:(all[ix]?,ev σ x)=(some ⟨some d,.move x,ty,pos,aft,g⟩,some v))(k:WL P X bad all K Q os ((d,v)::σ) μ Ds)(hN:Nat.blt d X.N=true:=by exact rfl)(hg:cT all σ g:=by exact⟨_,rfl,rfl⟩):WL P X bad all K Q ((fl,ix)::os) σ μ Ds:=XB (aJS (fun z=>z.1) e9) (aJS (fun z=>z.2) e9) hN hg k
theorem TK(ho:all[ix]?= some ⟨some d,.assign x,ty,pos,aft,g⟩)(hx:ev σ x=some v)(hN:Nat.blt d X.N=true)(hg:cT all σ g)(k:WL P X bad all K Q os ((d,v)::σ) μ Ds):WL P X bad all K Q ((fl,ix)::os) σ μ Ds:=
 bG ho rfl rfl hN hg (fun ρ hρ w'=>by simp[execOp,hρ x v hx,Pure.pure]) k
theorem _root_.Go.Fs.Zh(e9:(all[ix]?,ev σ x)=(some ⟨some d,.assign x,ty,pos,aft,g⟩,some v))(k:WL P X bad all K Q os ((d,v)::σ) μ Ds)(hN:Nat.blt d X.N=true:=by exact rfl)(hg:cT all σ g:=by exact aOJ):WL P X bad all K Q ((fl,ix)::os) σ μ Ds:=TK (aJS (fun z=>z.1) e9) (aJS (fun z=>z.2) e9) hN hg k
theorem nH(ho:all[ix]?= some ⟨some d,.pick x y z,ty,pos,aft,g⟩)(hx:ev σ x=some (.bool true))(hy:ev σ y=some v)(hN:Nat.blt d X.N=true)(hg:cT all σ g)(k:WL P X bad all K Q os ((d,v)::σ) μ Ds):WL P X bad all K Q ((fl,ix)::os) σ μ Ds:=
 bG ho rfl rfl hN hg (fun ρ hρ w'=>by simp[execOp,hρ x _ hx,hρ y _ hy,asBool,go_sem]) k
theorem _root_.Go.Fs.Zac(e9:(all[ix]?,ev σ x,ev σ y)=(some ⟨some d,.pick x y z,ty,pos,aft,g⟩,some (.bool true),some v))(k:WL P X bad all K Q os ((d,v)::σ) μ Ds)(hN:Nat.blt d X.N=true:=by exact rfl)(hg:cT all σ g:=by exact aOJ):WL P X bad all K Q ((fl,ix)::os) σ μ Ds:=nH (aJS (fun z=>z.1) e9) (aJS (fun z=>z.2.1) e9) (aJS (fun z=>z.2.2) e9) hN hg k
theorem mZ(ho:all[ix]?= some ⟨some d,.pick x y z,ty,pos,aft,g⟩)(hx:ev σ x=some (.bool false))(hy:ev σ z=some v)(hN:Nat.blt d X.N=true)(hg:cT all σ g)(k:WL P X bad all K Q os ((d,v)::σ) μ Ds):WL P X bad all K Q ((fl,ix)::os) σ μ Ds:=
 bG ho rfl rfl hN hg (fun ρ hρ w'=>by simp[execOp,hρ x _ hx,hρ z _ hy,asBool,go_sem]) k
theorem _root_.Go.Fs.Zad(e9:(all[ix]?,ev σ x,ev σ z)=(some ⟨some d,.pick x y z,ty,pos,aft,g⟩,some (.bool false),some v))(k:WL P X bad all K Q os ((d,v)::σ) μ Ds)(hN:Nat.blt d X.N=true:=by exact rfl)(hg:cT all σ g:=by exact aOJ):WL P X bad all K Q ((fl,ix)::os) σ μ Ds:=mZ (aJS (fun z=>z.1) e9) (aJS (fun z=>z.2.1) e9) (aJS (fun z=>z.2.2) e9) hN hg k
theorem jU{b:Bool}{t:TypeId}(ho:all[ix]?= some ⟨some d,.unOp .not t x,ty,pos,aft,g⟩)(hx:ev σ x=some (.bool b))(hN:Nat.blt d X.N=true)(hg:cT all σ g)(k:WL P X bad all K Q os ((d,.bool (!b))::σ) μ Ds):WL P X bad all K Q ((fl,ix)::os) σ μ Ds:=
 bG ho rfl rfl hN hg (fun ρ hρ w'=>by simp[execOp,hρ x _ hx,Op.unary,go_sem]) k
theorem _root_.Go.Fs.Zag{b:Bool}{t:TypeId}(e9:(all[ix]?,ev σ x)=(some ⟨some d,.unOp .not t x,ty,pos,aft,g⟩,some (.bool b)))(k:WL P X bad all K Q os ((d,.bool (!b))::σ) μ Ds)(hN:Nat.blt d X.N=true:=by exact rfl)(hg:cT all σ g:=by exact aOJ):WL P X bad all K Q ((fl,ix)::os) σ μ Ds:=jU (aJS (fun z=>z.1) e9) (aJS (fun z=>z.2) e9) hN hg k
end ops
end Go.Fs
