/- Of the proof of BookWrites: Yy, Base, State. -/
import Derived.KernelRfl
import Derived.OrdersIn
import Derived.RangeFuncIn
import Derived.WalkKit
namespace Go
theorem GE : type_of% @List.Mem.head := @List.Mem.head
theorem GT : type_of% @List.not_mem_nil := @List.not_mem_nil
theorem LE : type_of% @List.Mem.tail := @List.Mem.tail
theorem LT : type_of% @List.Sublist.refl := @List.Sublist.refl
theorem aFZ : type_of% @List.mem_append_right := @List.mem_append_right
theorem aGA : type_of% @List.mem_map := @List.mem_map
theorem aGB : type_of% @List.mem_cons := @List.mem_cons
theorem aGC : type_of% @List.length_append := @List.length_append
theorem aGD : type_of% @List.mem_of_getElem? := @List.mem_of_getElem?
theorem aGE : type_of% @List.mem_cons_of_mem := @List.mem_cons_of_mem
theorem aGF : type_of% @List.getElem?_eq_getElem := @List.getElem?_eq_getElem
theorem aGG : type_of% @List.append_nil := @List.append_nil
theorem aGH : type_of% @Or.inr := @Or.inr
theorem aGI : type_of% @List.mem_append_left := @List.mem_append_left
theorem aGJ : type_of% @List.getElem?_eq_some_iff := @List.getElem?_eq_some_iff
theorem aGK : type_of% @List.nodup_append := @List.nodup_append
theorem aGL : type_of% @List.mem_cons_self := @List.mem_cons_self
theorem aGM : type_of% @List.length_cons := @List.length_cons
theorem aGN : type_of% @List.append_assoc := @List.append_assoc
theorem aGO : type_of% @Bool.and_eq_true := @Bool.and_eq_true
theorem aGP : type_of% @List.mem_append := @List.mem_append
theorem aGQ : type_of% @if_neg := @if_neg
theorem aGR : type_of% @Or.inl := @Or.inl
theorem aGS : type_of% @List.map_append := @List.map_append
theorem aGT : type_of% @List.take_add_one := @List.take_add_one
theorem aGU : type_of% @List.mem_singleton := @List.mem_singleton
theorem aGV : type_of% @congrArg := @congrArg
theorem aGW : type_of% @Nat.le_refl := @Nat.le_refl
theorem aGX : type_of% @if_pos := @if_pos
theorem aGY : type_of% @List.all_eq_true := @List.all_eq_true
theorem aGZ : type_of% @decide_eq_true_eq := @decide_eq_true_eq
theorem aHA : type_of% @List.count_append := @List.count_append
theorem aHB : type_of% @List.map_cons := @List.map_cons
theorem aHC : type_of% @Option.some.inj := @Option.some.inj
theorem aHD : type_of% @List.getElem?_map := @List.getElem?_map
theorem aHE : type_of% @List.take_of_length_le := @List.take_of_length_le
theorem aHF : type_of% @List.count_cons := @List.count_cons
theorem aHG : type_of% @List.flatMap_append := @List.flatMap_append
theorem aHH : type_of% @List.Sublist.cons := @List.Sublist.cons
theorem aHI : type_of% @List.nil_append := @List.nil_append
theorem aHJ : type_of% @List.count_nil := @List.count_nil
theorem aHK : type_of% @List.size_toArray := @List.size_toArray
theorem aHL : type_of% @Bool.false_eq_true := @Bool.false_eq_true
theorem aHM : type_of% @Option.map_some := @Option.map_some
theorem aHN : type_of% @List.take_append_of_le_length := @List.take_append_of_le_length
theorem aHO : type_of% @List.drop_eq_nil_of_le := @List.drop_eq_nil_of_le
theorem aHP : type_of% @List.getD_eq_getElem?_getD := @List.getD_eq_getElem?_getD
theorem aHQ : type_of% @Nat.eq_of_beq_eq_true := @Nat.eq_of_beq_eq_true
theorem aHR : type_of% @List.length_map := @List.length_map
theorem aHS : type_of% @List.flatMap_cons := @List.flatMap_cons
theorem aHT : type_of% @List.take_length := @List.take_length
theorem aHU : type_of% @List.length_drop := @List.length_drop
theorem aHV : type_of% @List.length_eraseIdx := @List.length_eraseIdx
theorem aHW : type_of% @List.flatMap_singleton := @List.flatMap_singleton
theorem aHX : type_of% @List.nodup_cons := @List.nodup_cons
theorem aHY : type_of% @Array.getD_eq_getD_getElem? := @Array.getD_eq_getD_getElem?
theorem aHZ : type_of% @List.length_take := @List.length_take
theorem aIA : type_of% @List.length_nil := @List.length_nil
theorem aIB : type_of% @Option.toList_some := @Option.toList_some
theorem aIC : type_of% @Bool.or_eq_true := @Bool.or_eq_true
theorem aID : type_of% @List.nodup_nil := @List.nodup_nil
theorem aIE : type_of% @Nat.le_of_ble_eq_true := @Nat.le_of_ble_eq_true
theorem aIF : type_of% @List.range_succ := @List.range_succ
theorem aIG : type_of% @List.foldl_append := @List.foldl_append
theorem aIH : type_of% @Int.toNat_natCast := @Int.toNat_natCast
theorem aII : type_of% @if_true := @if_true
theorem aIJ : type_of% @List.drop_eq_getElem_cons := @List.drop_eq_getElem_cons
theorem aIK : type_of% @Option.map_none := @Option.map_none
theorem aIL : type_of% @if_false := @if_false
theorem aIM : type_of% @List.take_append_drop := @List.take_append_drop
theorem aIN : type_of% @List.cons_append := @List.cons_append
theorem aIO : type_of% @List.foldl_cons := @List.foldl_cons
theorem aIP : type_of% @List.cons.injEq := @List.cons.injEq
theorem aIQ : type_of% @List.getElem?_drop := @List.getElem?_drop
theorem aIR : type_of% @Nat.mul_one := @Nat.mul_one
theorem aIS : type_of% @Array.getElem?_setIfInBounds_ne := @Array.getElem?_setIfInBounds_ne
theorem aIT : type_of% @decide_eq_false_iff_not := @decide_eq_false_iff_not
theorem aIU : type_of% @List.getElem?_append_left := @List.getElem?_append_left
theorem aIV : type_of% @Nat.lt_of_lt_of_le := @Nat.lt_of_lt_of_le
theorem aIW : type_of% @Nat.add_mul := @Nat.add_mul
theorem aIX : type_of% @Array.getElem?_append_left := @Array.getElem?_append_left
theorem aIY : type_of% @or_false := @or_false
theorem aIZ : type_of% @Option.map_eq_some_iff := @Option.map_eq_some_iff
theorem aJA : type_of% @Nat.zero_add := @Nat.zero_add
theorem aJB : type_of% @Nat.le_trans := @Nat.le_trans
theorem aJC : type_of% @List.getElem?_take_of_lt := @List.getElem?_take_of_lt
theorem aJD : type_of% @Array.getElem?_eq_some_iff := @Array.getElem?_eq_some_iff
theorem aJE : type_of% @List.length_singleton := @List.length_singleton
theorem aJF : type_of% @List.length_eq_zero_iff := @List.length_eq_zero_iff
theorem aJG : type_of% @List.filter_append := @List.filter_append
theorem aJH : type_of% @List.mem_range := @List.mem_range
theorem aJI : type_of% @List.length_filter_le := @List.length_filter_le
theorem aJJ : type_of% @List.getElem?_eq_none := @List.getElem?_eq_none
theorem aJK : type_of% @List.length_pos_iff := @List.length_pos_iff
theorem aJL : type_of% @List.getLast?_eq_some_getLast := @List.getLast?_eq_some_getLast
theorem aJM : type_of% @Bool.or_eq_false_iff := @Bool.or_eq_false_iff
theorem aJN : type_of% @Nat.sub_zero := @Nat.sub_zero
theorem aJO : type_of% @Bool.eq_iff_iff := @Bool.eq_iff_iff
theorem aJP : type_of% @Option.getD_some := @Option.getD_some
theorem aJQ : type_of% @List.any_append := @List.any_append
theorem aJR : type_of% @Array.getElem?_eq_getElem := @Array.getElem?_eq_getElem
theorem aJS : type_of% @List.singleton_append := @List.singleton_append
theorem aJT : type_of% @List.mem_iff_getElem? := @List.mem_iff_getElem?
theorem aJU : type_of% @List.drop_zero := @List.drop_zero
theorem aJV : type_of% @Prod.mk.injEq := @Prod.mk.injEq
theorem aJW : type_of% @Nat.pow_le_pow_right := @Nat.pow_le_pow_right
theorem aJX : type_of% @List.filter_cons := @List.filter_cons
theorem aJY : type_of% @List.drop_append := @List.drop_append
theorem aJZ : type_of% @List.mapM_cons := @List.mapM_cons
theorem aKA : type_of% @List.drop_drop := @List.drop_drop
theorem aKB : type_of% @Bool.true_and := @Bool.true_and
theorem aKC : type_of% @Nat.min_eq_left := @Nat.min_eq_left
theorem aKD : type_of% @List.map_nil := @List.map_nil
theorem aKE : type_of% @List.length_set := @List.length_set
theorem aKF : type_of% @Array.toList_map := @Array.toList_map
theorem aKG : type_of% @Nat.zero_mul := @Nat.zero_mul
theorem aKH : type_of% @Bool.not_eq_true' := @Bool.not_eq_true'
theorem aKI : type_of% @Nat.not_lt_zero := @Nat.not_lt_zero
theorem aKJ : type_of% @List.getD_cons_succ := @List.getD_cons_succ
theorem aKK : type_of% @List.drop_length_add_append := @List.drop_length_add_append
theorem aKL : type_of% @List.length_eraseIdx_of_lt := @List.length_eraseIdx_of_lt
theorem aKM : type_of% @List.getElem?_append_right := @List.getElem?_append_right
theorem aKN : type_of% @List.map_singleton := @List.map_singleton
theorem aKO : type_of% @Nat.zero_le := @Nat.zero_le
theorem aKP : type_of% @List.take_left := @List.take_left
theorem aKQ : type_of% @Bool.not_false := @Bool.not_false
theorem aKR : type_of% @Nat.mul_le_mul_right := @Nat.mul_le_mul_right
theorem aKS : type_of% @List.mem_of_mem_take := @List.mem_of_mem_take
theorem aKT : type_of% @List.contains_eq_mem := @List.contains_eq_mem
theorem aKU : type_of% @not_false_eq_true := @not_false_eq_true
theorem aKV : type_of% @beq_iff_eq := @beq_iff_eq
theorem aKW : type_of% @List.nil_prefix := @List.nil_prefix
theorem aKX : type_of% @List.length_take_le := @List.length_take_le
theorem aKY : type_of% @List.getElem?_range := @List.getElem?_range
theorem aKZ : type_of% @List.drop_succ_cons := @List.drop_succ_cons
theorem aLA : type_of% @and_self := @and_self
theorem aLB : type_of% @List.zip_cons_cons := @List.zip_cons_cons
theorem aLC : type_of% @ByteArray.size_append := @ByteArray.size_append
theorem aLD : type_of% @Option.some.injEq := @Option.some.injEq
theorem aLE : type_of% @List.ext_getElem? := @List.ext_getElem?
theorem aLF : type_of% @Bool.not_true := @Bool.not_true
theorem aLG : type_of% @List.mem_flatMap := @List.mem_flatMap
theorem aLH : type_of% @List.any_eq_true := @List.any_eq_true
theorem aLI : type_of% @List.take_succ_cons := @List.take_succ_cons
theorem aLJ : type_of% @trivial := @trivial
theorem Ya{p:Prop}(h:p:=by first|rfl|(simp only[aI, *];done)|(simp only[aI, *];rfl)|(simp only[aI, *];omega)):p:=h
theorem Yb{p:Prop}(h:p:=by first|rfl|(show some (Value.int _ _)=some (Value.int _ _);congr 2;omega)):p:=h
theorem Yc{p:Prop}(h:p:=by first|simp|assumption):p:=h
theorem Yd{p:Prop}(h:p:=by omega):p:=h
theorem Ye{p:Prop}(h:p:=by simp):p:=h
theorem Yf{p:Prop}(h:p:=by simp only[rJ];omega):p:=h
theorem Yg{p:Prop}(h:p:=by kernel_rfl):p:=h
theorem Yh{p:Prop}(h:p:=by first|exact cW _|simp[cell1]):p:=h
theorem Yi{p:Prop}(h:p:=by simp[cell1]):p:=h
theorem Yj{p:Prop}(h:p:=by first|assumption|simp):p:=h
theorem Yk{p:Prop}(h:p:=by assumption):p:=h
theorem Yl{p:Prop}(h:p:=by rw[aGU];rintro rfl;exact hap (aGA.2 ⟨_,(LE _ (LE _ (GE _))),rfl⟩)):p:=h
theorem Ym{p:Prop}(h:p:=by rw[aGU];rintro rfl;exact hap (aGA.2 ⟨_,(LE _ (GE _)),rfl⟩)):p:=h
theorem Yn{p:Prop}(h:p:=by simp only;omega):p:=h
theorem Yo{p:Prop}(h:p:=by rw[aGU];rintro rfl;exact hap (aGA.2 ⟨_,(LE _ (LE _ (LE _ (GE _)))),rfl⟩)):p:=h
theorem Yp{p:Prop}(h:p:=by first|exact Or.inl rfl|exact Or.inr (fun p hp=>dN.in_ (hnu p hp))):p:=h
theorem Yq{p:Prop}(h:p:=by rw[←hHas.keys];exact aGA.2 ⟨p,hp,rfl⟩):p:=h
theorem Yr{p:Prop}(h:p:=by rw[aGU];rintro rfl;exact hap (aGA.2 ⟨_,(GE _),rfl⟩)):p:=h
theorem Ys{p:Prop}(h:p:=by first|omega|(simp only[aLC,nV,qC,aHK,aGM,aIA];omega)):p:=h
theorem Yt{p:Prop}(h:p:=by rw[aGU];rintro rfl;exact hap (aGA.2 ⟨_,LE _ (GE _),rfl⟩)):p:=h
theorem Yu{p:Prop}(h:p:=by first|omega|(simp only[aKE];omega)):p:=h
theorem Yw{p:Prop}(h:p:=by first|exact Tf.s282|(simp only[aI, *];exact Tf.s282)):p:=h
theorem Yx{p:Prop}(h:p:=by first|exact Tf.s179|(simp only[aI, *];exact Tf.s179)):p:=h
theorem Yy{p:Prop}(h:p:=by first|exact Tf.s101|(simp only[aI, *];exact Tf.s101)):p:=h
theorem Yz{p:Prop}(h:p:=by simp<;>omega):p:=h
theorem Yaa{p:Prop}(h:p:=by first|exact rV h4 h5|(rw[List.getElem?_set_ne Yd,List.getElem?_set_ne Yd];exact rV h4 h5)|(rw[List.getElem?_set_ne Yd,List.getElem?_set_ne Yd,List.getElem?_set_ne Yd];exact rV h4 h5)):p:=h
theorem Yab{p:Prop}(h:p:=by rwa [aHE Yd]at h2):p:=h
theorem Yac{p:Prop}(h:p:=by rw[aGC,hl1,←aIW];exact aJB (aKR _ Yd) (Nat.le_add_right _ _)):p:=h
theorem Yad{p:Prop}(h:p:=by first|rfl|(simp only[*];done)|(simp only[aI, *];rfl)|(simp only[aI, *];omega)):p:=h
theorem Yae{p:Prop}(h:p:=by rw[aGU];rintro rfl;exact hap (aGA.2 ⟨p,aGI _ hp,rfl⟩)):p:=h
theorem Yaf{p:Prop}(h:p:=by simp;omega):p:=h
theorem Yag{p:Prop}(h:p:=by decide):p:=h
theorem Yah{p:Prop}(h:p:=by first|omega|(simp only[aLC];omega)):p:=h
theorem Yai{p:Prop}(h:p:=by first|assumption|exact aGE _ hDr):p:=h
theorem Yaj{p:Prop}(h:p:=by simpa using hi):p:=h
theorem Yak{p:Prop}(h:p:=by simpa using hc2):p:=h
theorem Yal{p:Prop}(h:p:=by simpa using h):p:=h
theorem Yam{p:Prop}(h:p:=by simpa using hl):p:=h
theorem Yan{p:Prop}(h:p:=by rw[←hm.keys];exact aGA.2 ⟨p,hp,rfl⟩):p:=h
end Go
namespace Go.Fs

def FW(r:Option Nat):Fence:={fn:=fun _=>True,depth:=none,alive:=false,round:=r}
theorem A4(r:Option Nat)(n:Nat):(FW r).room n:=fun _ h=>by simp[FW]at h
theorem JX(r:Option Nat)(P:Program)(m:Machine):m.fenced P (FW r):=
 fun _ _=>⟨fun h=>by simp[FW]at h,aGR aLJ,fun _ _=>trivial,fun _ h=>by simp[FW]at h⟩
theorem J7{r:Option Nat}{P:Program}{m m':Machine}:StepsIn (Machine.fenced P (FW r)) P m m' ↔ Steps P m m':=
 ⟨StepsIn.steps,fun h=>(StepsIn.of_steps h).mono fun m _=>JX r P m⟩
theorem qJ{r:Option Nat}{P:Program}{m m':Machine}{e:Ending}:ComesIn (Machine.fenced P (FW r)) P m m' e ↔ Comes P m m' e:=by
 cases e with
 |returned v=>exact J7
 |panicked chain=>exact J7
 |outgrown=>exact Iff.rfl
theorem cU{r:Option Nat}{n:Nat}{P:Program}{f:FuncId}{args:Array Value}{w:World}{R:Ending→World→Prop}:
    CallsIn (FW r) n P f args w R ↔ Calls P f args w R:=
  ⟨fun h cs=>let ⟨e,w',fr,r,s,x⟩:=h.2 cs (A4 _ _);⟨e,w',fr,r,qJ.1 s,x⟩,
   fun h=>⟨aLJ,fun cs _=>let ⟨e,w',fr,r,s,x⟩:=h cs;⟨e,w',fr,r,qJ.2 s,x⟩⟩⟩
def ST(P:Program)(l:Nat)(f:FuncId)(tmps:Array Value)(assign body:Code)(w:World)(R:Ending→World→Prop):Prop:=
 RoundIn (FW none) 0 P l f tmps assign body w R
theorem N1{r:Option Nat}{n:Nat}{P:Program}{l:Nat}{f:FuncId}{tmps:Array Value}{assign body:Code}{w:World}{R:Ending→World→Prop}
  (h:ST P l f tmps assign body w R):RoundIn (FW r) n P l f tmps assign body w R:=
 ⟨aLJ,fun c cs _=>let ⟨e,w',q,s⟩:=h.2 c cs (A4 _ _);⟨e,w',q,qJ.2 (qJ.1 s)⟩⟩

def jI{γb:Type}[Membership Nat γb](bad:γb)(w w':World):Prop:=w.heap.size≤w'.heap.size∧∀b,b<w.heap.size→b∉bad→w'.heap[b]?= w.heap[b]?
structure dN where
 l:List Nat
instance:Membership Nat dN:=⟨fun s b=>b∉s.l⟩
theorem dN.out{l:List Nat}{b:Nat}(h:b∈l):b∉(dN.mk l):=fun hn=>hn h
theorem dN.in_{l:List Nat}{b:Nat}(h:b∉l):b∈(dN.mk l):=h
theorem jI.refl{γb:Type}[Membership Nat γb](bad:γb)(w:World):jI bad w w:=⟨aGW _,fun _ _ _=>rfl⟩
theorem jI.trans{γb:Type}[Membership Nat γb]{bad:γb}{w w1 w2:World}(h:jI bad w w1)(h':jI bad w1 w2):jI bad w w2:=
 ⟨aJB h.1 h'.1,fun b hb hn=>(h'.2 b (aIV hb h.1) hn).trans (h.2 b hb hn)⟩

def gO:Op→Bool
 |.move _|.assign _|.pick _ _ _|.load _ _|.nilCheck _|.binOp _ _ _ _ _|.unOp _ _ _|.convert _ _ _|.fieldAddr _ _ _|.field _ _ _
 |.indexAddr _ _ _|.index _ _ _|.extract _ _|.slice _ _ _ _ _|.build _ _|.makeFunc _ _ _|.makeInterface _ _|.lookup _ _ _ _|.typeAssert _ _ _ _=>true
 |.call c=>match c.callee with|.builtin .len|.builtin .cap|.builtin .max|.builtin .min=>true|_=>false
 |_=>false
def kD:Op→Bool
 |.defer _=>true
 |.select _ _=>true
 |_=>false
def Yv{γb:Type}[Membership Nat γb](bad:γb)(P:Program)(all:Array Oper)(o:Oper)(a:Act)(w:World)(v:Value):Prop:=
 (Region.wanted o (yielded all a.tmps)=true∧∀w',jI bad w w'→(execOp a.eval o).run P w'=.ok (.value v) w')∨
 (Region.wanted o (yielded all a.tmps)=false∧v=undef)
def uE(r:Option Nat){γb:Type}[Membership Nat γb](bad:γb)(P:Program)(all:Array Oper)(Q:Exit→Act→World→Prop)(o:Oper)(fl:Bool)(K:Act→World→Prop)(a:Act)(w:World):Prop:=
 if Region.wanted o (yielded all a.tmps)=true then o.wpIn (FW r) 0 P a w (fun a' w'=>(fl=true→jI bad w w')∧K a' w') Q
 else K (a.put o.dst undef) w
def mH(r:Option Nat){γb:Type}[Membership Nat γb](bad:γb)(P:Program)(all:Array Oper)(K:Act→World→Prop)(Q:Exit→Act→World→Prop):List (Bool×Oper)→Act→World→Prop
 | [],a,w=>K a w
 |(fl,o)::os,a,w=>
  if gO o.op=true then ∃v,Yv bad P all o a w v∧mH r bad P all K Q os (a.put o.dst v) w
  else uE r bad P all Q o fl (mH r bad P all K Q os) a w
variable{r:Option Nat}{γb:Type}[Membership Nat γb]{bad:γb}{P:Program}{all:Array Oper}{Q:Exit→Act→World→Prop}
theorem sV{o:Oper}(h:kD o.op=false)(ro:Option Nat)(ρ:Operand→Value):Oper.semAt ro ρ o=execOp ρ o:=
 Oper.semAt_eq ro ρ o fun c hc=>by rw[hc]at h;cases h
theorem uU{o:Op}(h:gO o=true):kD o=false:=by
 cases o<;>first|rfl|(cases h)
theorem Yv.run{o:Oper}{a:Act}{w:World}{v:Value}(h:Yv bad P all o a w v)(hk:gO o.op=true){K:Act→World→Prop}{i:Nat}(hi:all[i]?= some o){n:Nat}
  (hK:K (a.put o.dst v) w):wpOpIn (FW r) n P all Q i K a w:=by
 unfold wpOpIn;simp only[hi];rcases h with⟨hw,hv⟩|⟨hw,rfl⟩
 ·rw[aGX hw];refine⟨fun _ _=>trivial,?_⟩;rw[sV (uU hk),hv w (jI.refl _ _)];exact hK
 ·rw[aGQ (by simp[hw])];exact⟨fun _ _=>trivial,hK⟩
theorem P9{n:Nat}{o:Oper}{a:Act}{w:World}{K:Act→World→Prop}(h:o.wpIn (FW r) 0 P a w K Q):o.wpIn (FW r) n P a w K Q:=by
 refine⟨h.1,?_⟩;have h2:=h.2;generalize (o.semAt (FW r).round a.eval).run P w=x at *;cases x with
 |ok x w'=>
  cases x<;>simp only[Oper.uponIn]at h2 ⊢ <;>first
   |exact h2
   |exact⟨fun h=>by simp[FW]at h,cU.2 (cU.1 h2.2)⟩
   |exact⟨fun h=>by simp[FW]at h,fun c cs _=>h2.2 c cs (A4 _ _)⟩
   |exact⟨fun h=>by simp[FW]at h,aLJ,fun c cs _=>h2.2.2 c cs (A4 _ _)⟩
 |halt x w'=>cases x<;>exact h2

theorem sQ{n:Nat}{K:Act→World→Prop}(hK:∀a w,K a w→Q .normal a w):∀(os:List (Bool×Oper)) (is:List Nat),is.map (fun i=>all[i]?)=os.map (fun o=>some o.2)→
  ∀a w,mH r bad P all K Q os a w→wpOpsIn (FW r) n P all Q is a w:=by
 intro os;induction os with
 |nil=>intro is h a w H;cases is with|nil=>exact hK _ _ H|cons=>simp at h
 |cons o os ih=>
  intro is h a w H;cases is with
  |nil=>simp at h
  |cons i is=>
   obtain⟨fl,o⟩:=o;simp only[aHB,aIP]at h;rw[wpOpsIn_cons];simp only[mH]at H;split at H
   ·rename_i hq;obtain⟨v,hy,H⟩:=H;exact hy.run hq h.1 (ih is h.2 _ _ H)
   ·unfold wpOpIn;simp only[h.1];unfold uE at H;split at H
    ·rename_i hw;rw[aGX hw];exact P9 (Oper.wpIn_mono (fun a w hh=>ih is h.2 _ _ hh.2) H)
    ·rename_i hw;rw[aGQ hw];exact⟨fun _ _=>trivial,ih is h.2 _ _ H⟩
theorem Q7(all:Array Oper):(List.range all.size).map (fun i=>all[i]?)=all.toList.map some:=by
 apply List.ext_getElem
 ·simp
 ·intro i h1 h2;simp
theorem QW{id:Nat}{a:Act}{w:World}(h:mH r [] P all (fun a w=>Q .normal a w) Q (all.toList.map fun o=>(false,o)) a w):
  (Code.region id all false).wpIn (FW r) 0 P Q a w:=
 wpIn_region (sQ (fun _ _ h=>h) _ _ (by rw[Q7];simp) _ _ h)

def iU(all:Array Oper):Nat→Nat→Nat→Bool
 |0,_,_=>false
 |n+1,i,x=>((all[i]?).map fun o=>o.after.toList.any fun e=>Region.binds .any e&&(Nat.beq e.on x||iU all n e.on x)).getD false
def lK(all:Array Oper)(n:Nat)(i:Nat):List Nat→Bool
 | []=>false
 |x::xs=> !iU all n i x||lK all n i xs
def fQ(all:Array Oper)(x:Nat):Bool:=((all[x]?).map fun o=>gO o.op).getD false
def kI(all:Array Oper)(x i:Nat):Bool:=
 match all[x]?,all[i]? with
 |some x,some i=>x.apart all i
 |_,_=>false
def PY(all:Array Oper)(n:Nat)(i:Nat)(before:List Nat):Bool:=
 before.all fun x=>iU all n i x||(fQ all x&&kI all x i)
def rT(all:Array Oper)(i:Nat)(before:List Nat):Bool:=
 ((all[i]?).map fun o=>o.after.toList.all fun e=> !Region.binds .any e||before.contains e.on).getD false
def mZ(all:Array Oper)(n:Nat):List Nat→List Nat→Bool
 |_,[]=>true
 |before,i::rest=>PY all n i before&&rT all i before&& !before.contains i&&mZ all n (before++[i]) rest
def kU(all:Array Oper):Bool:=all.toList.all fun o=> !kD o.op
def T7(all:Array Oper)(n:Nat)(c:List Nat):Bool:=
 kU all&&(c.length==all.size)&&((List.range all.size).all fun i=>c.contains i)&&mZ all n [] c
def xV(r:Option Nat){γb:Type}[Membership Nat γb](bad:γb)(P:Program)(all:Array Oper)(fl:Nat→Bool)(K:Act→World→Prop)(Q:Exit→Act→World→Prop):List Nat→Act→World→Prop
 | [],a,w=>K a w
 |i::is,a,w=>
  match all[i]? with
  |none=>False
  |some o=>
   if gO o.op=true then ∃v,Yv bad P all o a w v∧xV r bad P all fl K Q is (a.put o.dst v) w
   else uE r bad P all Q o (fl i) (xV r bad P all fl K Q is) a w
def iI(r:Option Nat){γb:Type}[Membership Nat γb](bad:γb)(P:Program)(all:Array Oper)(fl:Nat→Bool)(Q:Exit→Act→World→Prop)(i:Nat)(K:Act→World→Prop)(a:Act)(w:World):Prop:=
 match all[i]? with
 |none=>False
 |some o=>
  if gO o.op=true then ∃v,Yv bad P all o a w v∧K (a.put o.dst v) w
  else uE r bad P all Q o (fl i) K a w
theorem kG{fl:Nat→Bool}{K:Act→World→Prop}(i:Nat)(is:List Nat)(a:Act)(w:World):
  xV r bad P all fl K Q (i::is) a w=iI r bad P all fl Q i (xV r bad P all fl K Q is) a w:=by
 rfl
theorem uE.mono{o:Oper}{f:Bool}{K K':Act→World→Prop}{a:Act}{w:World}(h:∀a w,K a w→K' a w)(H:uE r bad P all Q o f K a w):
  uE r bad P all Q o f K' a w:=by
 unfold uE at *;split at H
 ·rename_i hw;rw[aGX hw];exact Oper.wpIn_mono (fun a w hh=>⟨hh.1,h _ _ hh.2⟩) H
 ·rename_i hw;rw[aGQ hw];exact h _ _ H
theorem iI.mono{fl:Nat→Bool}{i:Nat}{K K':Act→World→Prop}{a:Act}{w:World}(h:∀a w,K a w→K' a w)(H:iI r bad P all fl Q i K a w):
  iI r bad P all fl Q i K' a w:=by
 unfold iI at *;split at H
 ·exact H
 ·split at H
  ·rename_i hq;rw[aGX hq];obtain⟨v,y,k⟩:=H;exact⟨v,y,h _ _ k⟩
  ·rename_i hq;rw[aGQ hq];exact H.mono h
theorem nR{fl:Nat→Bool}{K K':Act→World→Prop}(h:∀a w,K a w→K' a w):∀(is:List Nat) {a:Act} {w:World},xV r bad P all fl K Q is a w→xV r bad P all fl K' Q is a w
 | [],_,_,H=>h _ _ H
 |i::is,a,w,H=>by
  rw[kG]at H ⊢
  exact H.mono fun a w=>nR h is
theorem Yv.of_same{o:Oper}{v:Value}{a a':Act}{w w':World}(hy:Yv bad P all o a w v)(hk:jI bad w w')(he:execOp a'.eval o=execOp a.eval o)
  (hw:Region.wanted o (yielded all a'.tmps)=Region.wanted o (yielded all a.tmps)):Yv bad P all o a' w' v:=by
 rcases hy with⟨h1,h2⟩|⟨h1,h2⟩
 ·exact aGR ⟨hw.trans h1,fun w2 hk2=>he▸h2 w2 (hk.trans hk2)⟩
 ·exact aGH ⟨hw.trans h1,h2⟩
def sS:Op→Bool
 |.build _ _=>true
 |.extract _ _=>true
 |.move _=>true
 |.assign _=>true
 |_=>false
def rE(all:Array Oper)(x:Nat):Bool:=((all[x]?).map fun o=>sS o.op).getD false
def WI{α:Type}(x:Sem α):Prop:=∀(P:Program) w v w1,x.run P w=.ok v w1→w1=w∧∀w',x.run P w'=.ok v w'
theorem WI.pure{α:Type}(a:α):WI (Pure.pure a:Sem α):=fun P w v w1 h=>by
 rw[Sem.run_pure]at h;cases h;exact⟨rfl,fun w'=>Sem.run_pure ..⟩
theorem WI.bind{α β:Type}{x:Sem α}{f:α→Sem β}(hx:WI x)(hf:∀a,WI (f a)):WI (x >>= f):=fun P w v w1 h=>by
 rw[Sem.run_bind]at h;cases hr:x.run P w with
 |ok a w2=>
  rw[hr]at h;obtain⟨rfl,h2⟩:=hx P w a w2 hr;obtain⟨rfl,h3⟩:=hf a P _ v w1 h;exact⟨rfl,fun w'=>by rw[Sem.run_bind,h2 w'];exact h3 w'⟩
 |halt z w2=>rw[hr]at h;cases h
theorem WI.halt{α:Type}(z:Halt):WI (Sem.halt z:Sem α):=fun P w v w1 h=>by cases h
theorem WI.program:WI program:=fun P w v w1 h=>by cases h;exact⟨rfl,fun w'=>rfl⟩
theorem WI.typeInfo(t:TypeId):WI (typeInfo t):=by
 unfold Go.typeInfo;refine WI.bind WI.program fun p=>?_
 split
 ·exact WI.pure _
 ·exact WI.halt _
theorem WI.underlying(t:TypeId):WI (underlying t):=by
 unfold Go.underlying;refine WI.bind WI.program fun p=>?_
 split
 ·exact WI.pure _
 ·exact WI.halt _
theorem WI.sizeOf(t:TypeId):WI (sizeOf t):=WI.bind (WI.typeInfo t) fun _=>WI.pure _
theorem WI.zeroValue(t:TypeId):WI (zeroValue t):=by
 unfold Go.zeroValue;refine WI.bind (WI.typeInfo t) fun p=>?_
 split
 ·exact WI.pure _
 ·exact WI.halt _
theorem WI.mapM{α β:Type}{f:α→Sem β}(hf:∀a,WI (f a))(as:Array α):WI (as.mapM f):=by
 rw[Array.mapM_eq_mapM_toList];refine WI.bind ?_ fun _=>WI.pure _
 generalize as.toList=l;induction l with
 |nil=>exact WI.pure _
 |cons a l ih=>
  rw[aJZ];exact WI.bind (hf a) fun _=>WI.bind ih fun _=>WI.pure _
theorem WI.build(t:TypeId)(parts:Array (Nat×Value)):WI (Instr.build t parts):=by
 unfold Instr.build;refine WI.bind (WI.zeroValue t) fun z=>WI.bind (WI.underlying t) fun u=>?_
 split
 ·refine WI.bind (WI.mapM (fun f=>WI.bind (WI.sizeOf _) fun _=>WI.pure _) _) fun pl=>?_
  split
  ·exact WI.pure _
  ·exact WI.halt _
 ·refine WI.bind (WI.sizeOf _) fun sz=>?_
  split
  ·exact WI.pure _
  ·exact WI.halt _
 ·exact WI.halt _
theorem WI.extract(t:Value)(i:Nat):WI (Instr.extract t i):=by
 unfold Instr.extract;split
 ·split
  ·exact WI.pure _
  ·exact WI.halt _
 ·exact WI.halt _
theorem UN{o:Oper}(hp:sS o.op=true){ρ:Operand→Value}{P:Program}{w:World}{v:Value}(hr:(execOp ρ o).run P w=.ok (.value v) w):∀w',(execOp ρ o).run P w'=.ok (.value v) w':=by
 have:WI (execOp ρ o):=by
  cases o with
  |mk dst op type pos after guard=>
   cases op<;>first|(cases hp)|skip
   all_goals unfold execOp
   ·exact WI.pure _
   ·exact WI.pure _
   ·exact WI.bind (WI.build _ _) fun _=>WI.pure _
   ·exact WI.bind (WI.extract _ _) fun _=>WI.pure _
 exact(this P w _ w hr).2
theorem Yv.of_same'{o:Oper}{v:Value}{a a':Act}{w w':World}(hy:Yv bad P all o a w v)(hk:jI bad w w'∨sS o.op=true)(he:execOp a'.eval o=execOp a.eval o)
  (hw:Region.wanted o (yielded all a'.tmps)=Region.wanted o (yielded all a.tmps)):Yv bad P all o a' w' v:=by
 rcases hk with hk|hk
 ·exact hy.of_same hk he hw
 ·rcases hy with⟨h1,h2⟩|⟨h1,h2⟩
  ·exact aGR ⟨hw.trans h1,fun w2 _=>he▸UN hk (h2 w (jI.refl _ _)) w2⟩
  ·exact aGH ⟨hw.trans h1,h2⟩
def PI(Q:Exit→Act→World→Prop):Prop:=∀c (a a':Act) w,a'.defers=a.defers→Q (.panic c) a w→Q (.panic c) a' w
theorem m1(a:Act)(d:Option Tmp)(v:Value):(a.put d v).defers=a.defers:=by cases d<;>rfl
theorem nB{o:Oper}(h:kD o.op=false):∀cs b,o.op≠.select cs b:=fun cs b e=>by rw[e]at h;cases h
theorem SN{x o:Oper}{f:Bool}{v:Value}(hap:x.apart all o=true)(hx:kD x.op=false)(ho:kD o.op=false)(hf:f=true∨sS x.op=true)(hQ:PI Q)
  {K:Act→World→Prop} {a:Act} {w:World} (hy:Yv bad P all x a w v) (h:uE r bad P all Q o f K (a.put x.dst v) w):
  uE r bad P all Q o f (fun a' w'=>Yv bad P all x a' w' v∧K (a'.put x.dst v) w') a w:=by
 obtain⟨h1,h2,h3⟩:=Oper.apart_spec hap;have keep:∀u w',(f=true→jI bad w w')→Yv bad P all x (a.put o.dst u) w' v:=fun u w' hk=>
  hy.of_same' (hf.imp hk id) (execOp_put x (nB hx) a o.dst u h3) (wanted_put x a o.dst u h3)
 unfold uE at *;rw[wanted_put o a x.dst v h1]at h;split at h
 ·rename_i hw;rw[aGX hw];refine⟨fun _ _=>trivial,?_⟩;have h:=h.2;rw[sV ho,execOp_put o (nB ho) a x.dst v h1]at h;rw[sV ho];generalize (execOp a.eval o).run P w=z at *;cases z with
  |ok z w'=>
   cases z<;>simp only[Oper.uponIn]at h ⊢
   case value u=>exact⟨h.1,keep u w' h.1,by rw[←Act.put_comm a v u h2];exact h.2⟩
   case skip=>exact⟨h.1,keep _ w' h.1,by rw[←Act.put_comm a v undef h2];exact h.2⟩
   case defer d=>
    refine⟨h.1,?_,?_⟩
    ·exact(hy.of_same' (a':={a with defers:=d::a.defers}.put o.dst undef) (hf.imp h.1 id)
      ((execOp_put x (nB hx) {a with defers:=d::a.defers} o.dst undef h3).trans rfl) ((wanted_put x {a with defers:=d::a.defers} o.dst undef h3).trans rfl))
    ·have e:=h.2;rw[Act.put_defers,Act.put_comm _ v undef h2]at e;exact e
   case enter f args=>
    refine⟨h.1,CallsIn.mono h.2 fun e w'' he=>?_⟩;cases e with
    |returned u=>exact⟨he.1,keep u w'' he.1,by rw[←Act.put_comm a v u h2];exact he.2⟩
    |panicked c=>exact hQ _ _ _ _ (m1 _ _ _).symm he
    |outgrown=>exact he
   case row row args=>exact⟨h.1,RowsIn.mono h.2 fun u w'' he=>⟨he.1,keep u w'' he.1,by rw[←Act.put_comm a v u h2];exact he.2⟩⟩
   case round l f tmps assign body=>
    refine⟨h.1,RoundIn.mono h.2 fun e w'' he=>?_⟩;cases e with
    |returned u=>exact⟨he.1,keep u w'' he.1,by rw[←Act.put_comm a v u h2];exact he.2⟩
    |panicked c=>exact hQ _ _ _ _ (m1 _ _ _).symm he
    |outgrown=>exact he
  |halt z w'=>
   cases z<;>simp only[Oper.uponIn]at h ⊢
   case panic u=>exact hQ _ _ _ _ (m1 _ _ _).symm h
 ·rename_i hw;rw[aGQ hw];exact⟨keep _ w (fun _=>jI.refl _ _),by rw[←Act.put_comm a v undef h2];exact h⟩
theorem wT{x:Nat}(h:fQ all x=true):∃o,all[x]?= some o∧gO o.op=true:=by
 unfold fQ at h;cases hx:all[x]? with
 |none=>simp[hx]at h
 |some o=>exact⟨o,rfl,by simpa [hx]using h⟩
theorem uG(h:kU all=true){i:Nat}{o:Oper}(ho:all[i]?= some o):kD o.op=false:=by
 have hm:o∈all.toList:=by
  rw[aJD]at ho;obtain⟨hi,rfl⟩:=ho;simp
 have:=aGY.1 h o hm;simpa using this
theorem NX{fl:Nat→Bool}{x i:Nat}(hnd:kU all=true)(hq:fQ all x=true)(hap:kI all x i=true)(hf:fQ all i=true∨fl i=true∨rE all x=true)
  (hQ:PI Q) {K:Act→World→Prop} {a:Act} {w:World}
  (h:iI r bad P all fl Q x (iI r bad P all fl Q i K) a w):iI r bad P all fl Q i (iI r bad P all fl Q x K) a w:=by
 obtain⟨ox,hx,hqx⟩:=wT hq;cases hi:all[i]? with
 |none=>simp[kI,hx,hi]at hap
 |some oi=>
  have hap':ox.apart all oi=true:=by simpa [kI,hx,hi]using hap
  have dx:=uG hnd hx;have di:=uG hnd hi;obtain⟨h1,h2,h3⟩:=Oper.apart_spec hap';simp only[iI,hx,hi,hqx,aII]at h ⊢
  obtain⟨v,hy,h⟩:=h;split at h
  ·rename_i hqi;obtain⟨u,hu,h⟩:=h;rw[aGX hqi];refine⟨u,hu.of_same (jI.refl _ _) (execOp_put oi (nB di) a ox.dst v h1).symm (wanted_put oi a ox.dst v h1).symm,v,
    hy.of_same (jI.refl _ _) (execOp_put ox (nB dx) a oi.dst u h3) (wanted_put ox a oi.dst u h3),?_⟩
   rw[←Act.put_comm a v u h2];exact h
  ·rename_i hqi;rw[aGQ hqi];have hfl:fl i=true∨sS ox.op=true:=by
    rcases hf with hf|hf|hf
    ·obtain⟨o,ho,hqo⟩:=wT hf;rw[hi]at ho;cases ho;exact absurd hqo hqi
    ·exact aGR hf
    ·exact aGH (by simpa [rE,hx]using hf)
   refine(SN hap' dx di hfl hQ hy h).mono fun a w hh=>?_
   rw[iI,hx];simp only[hqx,aII];exact⟨v,hh.1,hh.2⟩
theorem mX{fl:Nat→Bool}{i:Nat}(hnd:kU all=true)(hQ:PI Q){K:Act→World→Prop}:
  ∀(c1 c2:List Nat) (a:Act) (w:World),(∀x∈c1,fQ all x=true∧kI all x i=true∧(fQ all i=true∨fl i=true∨rE all x=true))→
   xV r bad P all fl K Q (c1++i::c2) a w→iI r bad P all fl Q i (xV r bad P all fl K Q (c1++c2)) a w:=by
 intro c1;induction c1 with
 |nil=>intro c2 a w _ h;rw[aHI,kG]at h;exact h
 |cons x c1 ih=>
  intro c2 a w hc h;rw[aIN,kG]at h;have h':=h.mono fun a w hh=>ih c2 a w (fun y hy=>hc y (aGE _ hy)) hh
  obtain⟨h1,h2,h3⟩:=hc x aGL;have:=NX hnd h1 h2 h3 hQ h';exact this.mono fun a w hh=>by rw[aIN,kG];exact hh
theorem iI.wpOpIn{fl:Nat→Bool}{i:Nat}{n:Nat}{K:Act→World→Prop}{a:Act}{w:World}(h:iI r bad P all fl Q i K a w):wpOpIn (FW r) n P all Q i K a w:=by
 unfold iI at h;split at h
 ·exact h.elim
 ·rename_i o ho;split at h
  ·rename_i hq;obtain⟨v,hy,h⟩:=h;exact hy.run hq ho h
  ·unfold Go.wpOpIn;simp only[ho];unfold uE at h;split at h
   ·rename_i hw;rw[aGX hw];exact P9 (Oper.wpIn_mono (fun a w hh=>hh.2) h)
   ·rename_i hw;rw[aGQ hw];exact⟨fun _ _=>trivial,h⟩
def FU(all:Array Oper)(bW:Array Bool):Prop:=
 ∀(i:Nat) (o:Oper),all[i]?= some o→bW.getD i false=true→∀e∈o.after,Region.binds .any e=true→bW.getD e.on false=true
theorem mN{bW:Array Bool}(hc:FU all bW):∀(n i x:Nat) (o:Oper),all[i]?= some o→(∀e∈o.after,Region.binds .any e=true→bW.getD e.on false=true)→
  (∀j,bW.getD j false=true→j<all.size)→iU all n i x=true→bW.getD x false=true:=by
 intro n;induction n with
 |zero=>intro i x o _ _ _ h;simp[iU]at h
 |succ n ih=>
  intro i x o ho hall hlt h;simp only[iU,ho,aHM,aJP,aLH,aGO,aIC]at h;obtain⟨e,he,hb,h⟩:=h;have hl:=hall e (by simpa using he) hb;rcases h with h|h
  ·rw[aHQ h]at hl;exact hl
  ·have hj:=hlt _ hl;exact ih e.on x all[e.on] (by simp[hj]) (hc e.on _ (by simp[hj]) hl) hlt h
theorem lY{n:Nat}:∀(c before c1:List Nat) (i:Nat) (c2:List Nat),mZ all n before c=true→c=c1++i::c2→
  PY all n i (before++c1)=true∧rT all i (before++c1)=true∧i∉before++c1:=by
 intro c;induction c with
 |nil=>intro before c1 i c2 _ h;simp at h
 |cons x c ih=>
  intro before c1 i c2 hc h;simp only[mZ,aGO]at hc;cases c1 with
  |nil=>simp only[aHI,aIP]at h;rw[←h.1];simpa [and_assoc]using hc.1
  |cons y c1=>
   simp only[aIN,aIP]at h;have:=ih (before++[x]) c1 i c2 hc.2 h.2;rw[h.1]at this;simpa using this
def sE(all:Array Oper)(n:Nat)(fl:Nat→Bool)(c:List Nat):Prop:=
 ∀c1 i c2,c=c1++i::c2→∀x∈c1,iU all n i x=true∨(fQ all x=true∧kI all x i=true∧(fQ all i=true∨fl i=true∨rE all x=true))
theorem sE.erase{n:Nat}{fl:Nat→Bool}{c1 c2:List Nat}{i:Nat}(h:sE all n fl (c1++i::c2)):sE all n fl (c1++c2):=by
 intro d1 j d2 he x hx;by_cases hl:d1.length<c1.length
 ·obtain⟨t,ht⟩:∃t,c1=d1++j::t:=by
   have h1:(c1++c2)[d1.length]?= some j:=by rw[he];simp
   rw[aIU hl]at h1;have h2:c1.take d1.length=d1:=by
    have:=aGV (List.take d1.length) he;rw[aHN (Nat.le_of_lt hl)]at this;simpa using this
   refine⟨c1.drop (d1.length+1),?_⟩;have h3:=aIM d1.length c1;rw[h2,aIJ hl]at h3;rw[aGF hl]at h1;rw[aHC h1]at h3;exact h3.symm
  exact h d1 j (t++i::c2) (by rw[ht];simp) x hx
 ·obtain⟨t,ht⟩:∃t,d1=c1++t:=by
   have h2:d1.take c1.length=c1:=by
    have:=aGV (List.take c1.length) he;rw[aHN (aGW _),aHT,aHN Yd]at this;exact this.symm
   exact⟨d1.drop c1.length,by rw[←h2,aHZ,aKC Yd,aIM]⟩
  subst ht;have hc2:c2=t++j::d2:=by
   rw[aGN]at he;exact List.append_cancel_left he
  refine h (c1++i::t) j d2 (by rw[hc2];simp) x ?_;simp only[aGP,aGB]at hx ⊢
  rcases hx with hx|hx
  ·exact aGR hx
  ·exact aGH (aGH hx)
def pJ(all:Array Oper)(bW:Array Bool)(c:List Nat):Prop:=
 ∀c1 i c2,c=c1++i::c2→∀o,all[i]?= some o→∀e∈o.after,Region.binds .any e=true→bW.getD e.on false=true∨e.on∈c1
theorem zK{c1 c2 d1 d2:List Nat}{j:Nat}(he:c1++c2=d1++j::d2):
  (∃t,c1=d1++j::t∧d2=t++c2)∨(∃t,d1=c1++t∧c2=t++j::d2):=by
 rcases List.append_eq_append_iff.1 he with⟨t,h1,h2⟩|⟨t,h1,h2⟩
 ·exact aGH ⟨t,h1,h2⟩
 ·cases t with
  |nil=>exact aGH ⟨[],by simpa using h1.symm,by simpa using h2.symm⟩
  |cons x t=>
   simp only[aIN,aIP]at h2;exact aGR ⟨t,by rw[h1,h2.1],h2.2⟩
theorem pJ.erase{bW:Array Bool}{c1 c2:List Nat}{i:Nat}(hi:i<bW.size)(h:pJ all bW (c1++i::c2)):pJ all (bW.setIfInBounds i true) (c1++c2):=by
 intro d1 j d2 he o ho e hm hb;rcases zK he with⟨t,h1,h2⟩|⟨t,h1,h2⟩
 ·rcases h d1 j (t++i::c2) (by rw[h1];simp) o ho e hm hb with hl|hl
  ·exact aGR (getD_set_true hl)
  ·exact aGH hl
 ·rcases h (c1++i::t) j d2 (by rw[h2];simp) o ho e hm hb with hl|hl
  ·exact aGR (getD_set_true hl)
  ·simp only[aGP,aGB]at hl;rcases hl with hl|hl|hl
   ·exact aGH (by rw[h1];simp[hl])
   ·rw[hl];exact aGR (by simp[hi])
   ·exact aGH (by rw[h1];simp[hl])
theorem jH{bW:Array Bool}{i:Nat}(h:i<bW.size):(bW.setIfInBounds i true).getD i false=true:=by simp[h]
theorem O9{n:Nat}{fl:Nat→Bool}(hnd:kU all=true)(hQ:PI Q):
  ∀(c:List Nat) (bW:Array Bool) (a:Act) (w:World),bW.size=all.size→FU all bW→c.Nodup→
   (∀i,i<all.size→(i∈c ↔ bW.getD i false=false))→(∀i∈c,i<all.size)→sE all n fl c→pJ all bW c→
   xV r bad P all fl (fun a w=>Q .normal a w) Q c a w→wpAnyIn (FW r) 0 P .any all Q c.length bW a w:=by
 intro c;induction hlen:c.length generalizing c with
 |zero=>
  intro bW a w hs _ _ hm _ _ _ h;have hc:c=[]:=aJF.1 hlen;subst hc;refine⟨?_,h⟩;rw[List.eq_nil_iff_forall_not_mem];intro i hi;obtain⟨hun,o,ho,_⟩:=mem_ready.1 hi;have hlt:i<all.size:=(aJD.1 ho).1;have:=(hm i hlt).2 (by rw[aHY]at hun ⊢;rw[aJR Yd]at hun ⊢;exact hun)
  simp at this
 |succ k ih=>
  intro bW a w hs hcl hnodup hm hlt hg ht h;constructor
  ·intro h0;exfalso
   match c,hlen with
   |i::c',_=>
    have hi:i∈Region.ready .any all bW:=by
     refine mem_ready.2 ⟨?_,all[i]'(hlt i aGL),by simp[hlt i aGL],?_⟩
     ·have:=(hm i (hlt i aGL)).1 aGL;rw[aHY]at this ⊢
      rw[aJR (by rw[hs];exact hlt i aGL)]at this ⊢
      exact this
     ·intro e he hb;rcases ht [] i c' rfl _ (by simp[hlt i aGL]) e he hb with h|h
      ·exact h
      ·cases h
    rw[h0]at hi;cases hi
  ·intro i hi;obtain⟨hun,o,ho,hpre⟩:=mem_ready.1 hi;have hil:i<all.size:=(aJD.1 ho).1;have hun':bW.getD i false=false:=by
    rw[aHY]at hun ⊢
    rw[aJR Yd]at hun ⊢
    exact hun
   have hmem:=(hm i hil).2 hun';obtain⟨c1,c2,rfl⟩:=List.append_of_mem hmem;have hfront:∀x∈c1,fQ all x=true∧kI all x i=true∧(fQ all i=true∨fl i=true∨rE all x=true):=by
    intro x hx;rcases hg c1 i c2 rfl x hx with hr|hr
    ·have hxl:=hlt x (by simp[hx]);have:=mN hcl n i x o ho (fun e he hb=>hpre e he hb) (fun j hj=>by
      rcases Nat.lt_or_ge j bW.size with h|h
      ·omega
      ·simp[Array.getElem?_eq_none h]at hj) hr
     have h2:=(hm x hxl).1 (by simp[hx]);rw[h2]at this;cases this
    ·exact hr
   have hst:=mX hnd hQ c1 c2 a w hfront h;refine wpOpIn_mono (fun a w hh=>?_) hst.wpOpIn;have hlen':(c1++c2).length=k:=by simp at hlen ⊢;omega
   refine ih (c1++c2) hlen' (bW.setIfInBounds i true) a w (by simpa using hs) ?_ ?_ ?_ ?_ hg.erase (ht.erase Yd) hh
   ·intro j oj hj hlj e he hb;by_cases hij:i=j
    ·subst hij;rw[ho]at hj;cases hj
     exact getD_set_true (hpre e he hb)
    ·rw[getD_set_ne false hij]at hlj;exact getD_set_true (hcl j oj hj hlj e he hb)
   ·rw[aGK]at hnodup ⊢
    refine⟨hnodup.1,(aHX.1 hnodup.2.1).2,fun x hx y hy=>hnodup.2.2 x hx y (aGE _ hy)⟩
   ·intro j hj;by_cases hij:i=j
    ·subst hij;rw[jH Yd];constructor
     ·intro hmem;exfalso
      rw[aGK]at hnodup;rcases aGP.1 hmem with hm1|hm2
      ·exact hnodup.2.2 i hm1 i aGL rfl
      ·exact(aHX.1 hnodup.2.1).1 hm2
     ·intro h;cases h
    ·rw[getD_set_ne false hij,←hm j hj];simp only[aGP,aGB];constructor
     ·rintro(h|h)
      ·exact aGR h
      ·exact aGH (aGH h)
     ·rintro(h|h|h)
      ·exact aGR h
      ·exact absurd h.symm hij
      ·exact aGH h
   ·intro j hj;refine hlt j ?_;simp only[aGP,aGB]at hj ⊢
    rcases hj with h|h
    ·exact aGR h
    ·exact aGH (aGH h)
def bW(all:Array Oper)(n:Nat):List Nat→List Nat→List (Bool×Oper)
 |_,[]=>[]
 |before,i::rest=>(lK all n i before,all.getD i default)::bW all n (before++[i]) rest
theorem FT{n:Nat}{K:Act→World→Prop}{fl:Nat→Bool}:∀(c before:List Nat) (a:Act) (w:World),(∀i∈c,i<all.size)→
  (∀c1 i c2,c=c1++i::c2→fl i=lK all n i (before++c1))→mH r bad P all K Q (bW all n before c) a w→xV r bad P all fl K Q c a w:=by
 intro c;induction c with
 |nil=>intro before a w _ _ h;exact h
 |cons i c ih=>
  intro before a w hlt hf h;have hi:=hlt i aGL;have ho:all[i]?= some all[i]:=by simp[hi]
  have hd:all.getD i default=all[i]:=by simp[hi]
  have hfi:fl i=lK all n i before:=by simpa using hf [] i c rfl
  have hrec:∀a w,mH r bad P all K Q (bW all n (before++[i]) c) a w→xV r bad P all fl K Q c a w:=fun a w hh=>
   ih (before++[i]) a w (fun j hj=>hlt j (aGE _ hj)) (fun c1 j c2 he=>by
    rw[hf (i::c1) j c2 (by rw[he];rfl)];simp) hh
  simp only[bW,mH,hd]at h;simp only[xV,ho];split at h
  ·rename_i hq;obtain⟨v,hy,h⟩:=h;rw[aGX hq];exact⟨v,hy,hrec _ _ h⟩
  ·rename_i hq;rw[aGQ hq,hfi];exact h.mono hrec
theorem vG{n:Nat}:∀(c before:List Nat),mZ all n before c=true→before.Nodup→(before++c).Nodup:=by
 intro c;induction c with
 |nil=>intro before _ h;simpa using h
 |cons i c ih=>
  intro before h hb;simp only[mZ,aGO,aKH,aKT,aIT]at h;have:=ih (before++[i]) h.2 (by
   rw[aGK];refine⟨hb,by simp,fun x hx y hy=>?_⟩;simp only[aGU]at hy;rintro rfl;exact h.1.2 (hy▸hx))
  simpa using this
theorem lR{n i x:Nat}:∀{l:List Nat},x∈l→iU all n i x=false→lK all n i l=true
 |y::l,hx,hr=>by
  simp only[lK,aIC,aKH];rcases aGB.1 hx with rfl|hx
  ·exact aGR hr
  ·exact aGH (lR hx hr)
theorem YA{id n:Nat}{c:List Nat}{a:Act}{w:World}(hm:P.follows .mixedOrders=true)(hc:T7 all n c=true)(hQ:PI Q)
  (h:mH r bad P all (fun a w=>Q .normal a w) Q (bW all n [] c) a {w with drawn:=w.drawn+1}):
  (Code.region id all true).wpIn (FW r) 0 P Q a w:=by
 simp only[T7,aGO,aKV,aGY,aJH,aKT,aGZ]at hc;obtain⟨⟨⟨hnd,hlen⟩,hall⟩,hfrom⟩:=hc;have hnodup:c.Nodup:=by simpa using vG c [] hfrom aID
 have hlt:∀i∈c,i<all.size:=by
  intro i hi;obtain⟨c1,c2,rfl⟩:=List.append_of_mem hi;have:=(lY _ [] c1 i c2 hfrom rfl).2.1;unfold rT at this;rcases Nat.lt_or_ge i all.size with h|h
  ·exact h
  ·simp[Array.getElem?_eq_none h]at this
 refine wpIn_region_any hm ?_;rw[←hlen];refine O9 (bad:=bad) (fl:=fun i=>lK all n i (c.take (c.idxOf i))) (n:=n) hnd hQ c _ a _ (by simp[hlen]) ?_ hnodup ?_ hlt ?_ ?_ ?_
 ·intro i o ho hl;simp[aHY,Array.getElem?_replicate]at hl;split at hl<;>simp at hl
 ·intro i hi;simp only[aHY,Array.getElem?_replicate,hlen,hi,aII,aJP,iff_true];exact hall i hi
 ·intro c1 i c2 he x hx;obtain⟨hg,_,_⟩:=lY _ [] c1 i c2 hfrom he;have h1:=aGY.1 hg x (by simpa using hx);simp only[aIC,aGO]at h1;cases hr:iU all n i x with
  |true=>exact aGR rfl
  |false=>
   rw[hr]at h1;have h1:=h1.resolve_left Ye;refine aGH ⟨h1.1,h1.2,aGH (aGR ?_)⟩;have hni:i∉c1:=by
    rw[he,aGK]at hnodup;intro hm;exact hnodup.2.2 i hm i aGL rfl
   have:c.take (c.idxOf i)=c1:=by
    rw[he,List.idxOf_append,aGQ hni,List.idxOf_cons_self];simp
   show lK all n i (c.take (c.idxOf i))=true;rw[this];exact lR hx hr
 ·intro c1 i c2 he o ho e hm hb;obtain⟨_,ht,_⟩:=lY _ [] c1 i c2 hfrom he;unfold rT at ht;rw[ho]at ht;simp only[aHM,aJP,aGY,aIC,aKH,aHI,aKT,aGZ]at ht;rcases ht e (by simpa using hm)with h|h
  ·rw[hb]at h;cases h
  ·exact aGH h
 ·refine FT (n:=n) c [] a _ hlt ?_ h;intro c1 i c2 he;have hni:i∉c1:=by
   rw[he,aGK]at hnodup;intro hm;exact hnodup.2.2 i hm i aGL rfl
  have:c.take (c.idxOf i)=c1:=by
   rw[he,List.idxOf_append,aGQ hni,List.idxOf_cons_self];simp
  show lK all n i (c.take (c.idxOf i))=_;rw[this];rfl
def vA(all:Array Oper)(n:Nat):List Nat→List Nat→List Bool
 |_,[]=>[]
 |before,i::rest=>lK all n i before::vA all n (before++[i]) rest
def eN(all:Array Oper)(is:List (Bool×Nat)):List (Bool×Oper):=is.map fun p=>(p.1,all.getD p.2 default)
theorem W9(all:Array Oper)(n:Nat):∀(c before:List Nat),bW all n before c=eN all ((vA all n before c).zip c)
 | [],_=>rfl
 |i::c,before=>by simp only[bW,vA,eN,aLB,aHB,W9 all n c]
theorem VP(all:Array Oper):(all.toList.map fun o=>(false,o))=eN all ((List.range all.size).map fun i=>(false,i)):=by
 apply List.ext_getElem
 ·simp[eN]
 ·intro i h1 h2;simp[eN]at h1 ⊢
  simp[h1]

def i7(all:Array Oper)(n:Nat)(fls:List Bool)(E:List Nat)(i:Nat)(before:List Nat):Bool:=
 before.all fun x=>E.contains x||iU all n i x||(fQ all x&&kI all x i&&(fQ all i||(fls.getD i false||rE all x)))
def uM(all:Array Oper)(n:Nat)(E:List Nat)(fl:Nat→Bool)(c:List Nat):Prop:=
 ∀c1 i c2,c=c1++i::c2→∀x∈c1,x∈E∨iU all n i x=true∨(fQ all x=true∧kI all x i=true∧(fQ all i=true∨fl i=true∨rE all x=true))
theorem uM.erase{n:Nat}{E:List Nat}{fl:Nat→Bool}{c1 c2:List Nat}{i:Nat}(h:uM all n E fl (c1++i::c2)):uM all n E fl (c1++c2):=by
 intro d1 j d2 he x hx;rcases zK he with⟨t,h1,h2⟩|⟨t,h1,h2⟩
 ·exact h d1 j (t++i::c2) (by rw[h1];simp) x hx
 ·refine h (c1++i::t) j d2 (by rw[h2];simp) x ?_;rw[h1]at hx;simp only[aGP,aGB]at hx ⊢
  rcases hx with hx|hx
  ·exact aGR hx
  ·exact aGH (aGH hx)
theorem uM.none{n:Nat}{E:List Nat}{fl:Nat→Bool}{c:List Nat}(h:uM all n E fl c)(hp:∀e∈E,e∉c):sE all n fl c:=by
 intro c1 i c2 he x hx;rcases h c1 i c2 he x hx with h|h
 ·exact absurd (by rw[he];simp[hx]) (hp x h)
 ·exact h
theorem jY{fl:Nat→Bool}{K:Act→World→Prop}:∀(c d:List Nat) (a:Act) (w:World),xV r bad P all fl (xV r bad P all fl K Q d) Q c a w→xV r bad P all fl K Q (c++d) a w
 | [],d,a,w,h=>h
 |i::c,d,a,w,h=>by
  rw[aIN,kG];rw[kG]at h;exact h.mono fun a w=>jY c d a w
structure Q9(all:Array Oper)(n:Nat)(bW:Array Bool)(c:List Nat):Prop where
 size:bW.size=all.size
 closed:FU all bW
 nodup:c.Nodup
 mem:∀i,i<all.size→(i∈c ↔ bW.getD i false=false)
 lt:∀i∈c,i<all.size
 topo:pJ all bW c
theorem Q9.step{n:Nat}{bW:Array Bool}{c1 c2:List Nat}{i:Nat}{o:Oper}(h:Q9 all n bW (c1++i::c2))(ho:all[i]?= some o)(hpre:∀e∈o.after,Region.binds .any e=true→bW.getD e.on false=true):Q9 all n (bW.setIfInBounds i true) (c1++c2):=by
 have hil:i<all.size:=(aJD.1 ho).1;have hs:=h.size;refine⟨by simpa using hs,?_,?_,?_,?_,h.topo.erase Yd⟩
 ·intro j oj hj hlj e he hb;by_cases hij:i=j
  ·subst hij;rw[ho]at hj;cases hj
   exact getD_set_true (hpre e he hb)
  ·rw[getD_set_ne false hij]at hlj;exact getD_set_true (h.closed j oj hj hlj e he hb)
 ·have hnodup:=h.nodup;rw[aGK]at hnodup ⊢
  exact⟨hnodup.1,(aHX.1 hnodup.2.1).2,fun x hx y hy=>hnodup.2.2 x hx y (aGE _ hy)⟩
 ·intro j hj;have hnodup:=h.nodup;by_cases hij:i=j
  ·subst hij;rw[jH Yd];constructor
   ·intro hmem;exfalso
    rw[aGK]at hnodup;rcases aGP.1 hmem with hm1|hm2
    ·exact hnodup.2.2 i hm1 i aGL rfl
    ·exact(aHX.1 hnodup.2.1).1 hm2
   ·intro h;cases h
  ·rw[getD_set_ne false hij,←h.mem j hj];simp only[aGP,aGB];constructor
   ·rintro(h|h)
    ·exact aGR h
    ·exact aGH (aGH h)
   ·rintro(h|h|h)
    ·exact aGR h
    ·exact absurd h.symm hij
    ·exact aGH h
 ·intro j hj;refine h.lt j ?_;simp only[aGP,aGB]at hj ⊢
  rcases hj with h|h
  ·exact aGR h
  ·exact aGH (aGH h)
inductive fG where
 |fin (c:List Nat)
 |fork (d:List Nat) (p:Nat) (A:fG) (q:Nat) (B:fG)
 |forkN (d:List Nat) (p:Nat) (ps:List Nat) (A:Nat→fG)
def fG.list:fG→List Nat
 |.fin c=>c
 |.fork d p A _ _=>d++p::A.list
 |.forkN d p _ A=>d++p::(A p).list
def jP:List fG→List Nat
 | []=>[]
 |pl::segs=>pl.list++jP segs
def OA(r:Option Nat){γb:Type}[Membership Nat γb](bad:γb)(P:Program)(all:Array Oper)(fl:Nat→Bool)(Q:Exit→Act→World→Prop)(kont:Act→World→Prop):fG→Act→World→Prop
 |.fin c=>xV r bad P all fl kont Q c
 |.fork d p A q B=>xV r bad P all fl (fun a w=>iI r bad P all fl Q p (OA r bad P all fl Q kont A) a w∧iI r bad P all fl Q q (OA r bad P all fl Q kont B) a w) Q d
 |.forkN d p ps A=>xV r bad P all fl (fun a w=>∀i∈p::ps,iI r bad P all fl Q i (OA r bad P all fl Q kont (A i)) a w) Q d
def aFN(r:Option Nat){γb:Type}[Membership Nat γb](bad:γb)(P:Program)(all:Array Oper)(fl:Nat→Bool)(Q:Exit→Act→World→Prop):List fG→Act→World→Prop
 | []=>fun a w=>Q .normal a w
 |pl::segs=>OA r bad P all fl Q (aFN r bad P all fl Q segs) pl
def gI(all:Array Oper)(n:Nat)(cont:List Nat→List Nat→Array Bool→Prop)(rest:List Nat):fG→List Nat→List Nat→Array Bool→Prop
 |.fin c,pre,E,L=>cont (pre++c) E L
 |.fork d p A q B,pre,E,L=>gI all n cont rest A (pre++d++[p]) (p::E) L∧gI all n cont rest B (pre++d++[q]) (q::E) L∧q∈A.list++rest∧A.list.length=B.list.length∧∀i∈A.list++rest,i=q∨iU all n i p=true∨iU all n i q=true
 |.forkN d p ps A,pre,E,L=>(∀i∈p::ps,gI all n cont rest (A i) (pre++d++[i]) (i::E) L∧(A i).list.length=(A p).list.length∧(i=p∨i∈(A p).list++rest))∧∀i∈(A p).list++rest,i∈ps∨∃q∈p::ps,iU all n i q=true
def SY(all:Array Oper)(n:Nat)(fl:Nat→Bool):List fG→List Nat→List Nat→Array Bool→Prop
 | [],pre,E,L=>Q9 all n L pre∧uM all n E fl pre
 |pl::segs,pre,E,L=>gI all n (SY all n fl segs) (jP segs) pl pre E L
structure O4(all:Array Oper)(n:Nat)(fl:Nat→Bool)(cont:List Nat→List Nat→Array Bool→Prop)(rest:List Nat):Prop where
 part:∀pre E L,cont pre E L→Q9 all n L (pre++rest)
 good:∀pre E L,cont pre E L→uM all n E fl pre
 erase:∀c1 i c2 E L (o:Oper),all[i]?= some o→(∀e∈o.after,Region.binds .any e=true→L.getD e.on false=true)→cont (c1++i::c2) E L→cont (c1++c2) E (L.setIfInBounds i true)
theorem gI.part{n:Nat}{fl:Nat→Bool}{cont:List Nat→List Nat→Array Bool→Prop}{rest:List Nat}(hc:O4 all n fl cont rest):∀{pl:fG} {pre E:List Nat} {L:Array Bool},gI all n cont rest pl pre E L→Q9 all n L (pre++(pl.list++rest))
 |.fin c,pre,E,L,h=>by
  have:=hc.part _ _ _ h;rw[aGN]at this;exact this
 |.fork d p A q B,pre,E,L,h=>by
  have:=gI.part hc h.1;simpa [fG.list]using this
 |.forkN d p ps A,pre,E,L,h=>by
  have:=gI.part hc (h.1 p aGL).1;simpa [fG.list]using this
theorem gI.good{n:Nat}{fl:Nat→Bool}{cont:List Nat→List Nat→Array Bool→Prop}{rest:List Nat}(hc:O4 all n fl cont rest):∀{pl:fG} {pre E:List Nat} {L:Array Bool},gI all n cont rest pl pre E L→uM all n E fl pre
 |.fin c,pre,E,L,h=>by
  intro c1 i c2 he x hx;exact hc.good _ _ _ h c1 i (c2++c) (by rw[he];simp) x hx
 |.fork d p A q B,pre,E,L,h=>by
  intro c1 i c2 he x hx;have h1:=gI.good hc h.1 c1 i (c2++d++[p]) (by rw[he];simp) x hx
  have hn:=(gI.part hc h.1).nodup;rcases h1 with h1|h1
  ·rcases aGB.1 h1 with rfl|h1
   ·exfalso
    rw[he]at hn;simp only[aGN]at hn;rw[aGK]at hn;exact hn.2.2 x hx x Ye rfl
   ·exact aGR h1
  ·exact aGH h1
 |.forkN d p ps A,pre,E,L,h=>by
  intro c1 i c2 he x hx;have h1:=gI.good hc (h.1 p aGL).1 c1 i (c2++d++[p]) (by rw[he];simp) x hx
  have hn:=(gI.part hc (h.1 p aGL).1).nodup;rcases h1 with h1|h1
  ·rcases aGB.1 h1 with rfl|h1
   ·exfalso
    rw[he]at hn;simp only[aGN]at hn;rw[aGK]at hn;exact hn.2.2 x hx x Ye rfl
   ·exact aGR h1
  ·exact aGH h1
theorem gI.erase{n:Nat}{fl:Nat→Bool}{cont:List Nat→List Nat→Array Bool→Prop}{rest:List Nat}(hc:O4 all n fl cont rest){i:Nat}{o:Oper}(ho:all[i]?= some o){L:Array Bool}(hpre:∀e∈o.after,Region.binds .any e=true→L.getD e.on false=true):∀{pl:fG} {c1 c2 E:List Nat},gI all n cont rest pl (c1++i::c2) E L→gI all n cont rest pl (c1++c2) E (L.setIfInBounds i true)
 |.fin c,c1,c2,E,h=>by
  have h':cont (c1++i::(c2++c)) E L:=by
   have h2:cont (c1++i::c2++c) E L:=h;simpa using h2
  have:=hc.erase c1 i (c2++c) E L o ho hpre h';show cont (c1++c2++c) E _;rw[aGN];exact this
 |.fork d p A q B,c1,c2,E,h=>by
  obtain⟨h1,h2,h3⟩:=h;have e:∀z:Nat,c1++i::c2++d++[z]=c1++i::(c2++d++[z]):=fun z=>by simp
  have e':∀z:Nat,c1++(c2++d++[z])=c1++c2++d++[z]:=fun z=>by simp
  rw[e]at h1 h2;have s1:=gI.erase hc ho hpre h1;have s2:=gI.erase hc ho hpre h2;rw[e']at s1 s2;exact⟨s1,s2,h3⟩
 |.forkN d p ps A,c1,c2,E,h=>by
  refine⟨fun z hz=>?_,h.2⟩;obtain⟨h1,h2,h3⟩:=h.1 z hz;have e:c1++i::c2++d++[z]=c1++i::(c2++d++[z]):=by simp
  have e':c1++(c2++d++[z])=c1++c2++d++[z]:=by simp
  rw[e]at h1;have s1:=gI.erase hc ho hpre h1;rw[e']at s1;exact⟨s1,h2,h3⟩
theorem Z8(n:Nat)(fl:Nat→Bool):∀segs:List fG,O4 all n fl (SY all n fl segs) (jP segs)
 | []=>⟨fun pre E L h=>by rw[jP,aGG];exact h.1,fun pre E L h=>h.2,fun c1 i c2 E L o ho hpre h=>⟨h.1.step ho hpre,h.2.erase⟩⟩
 |_::segs=>⟨fun pre E L h=>gI.part (Z8 n fl segs) h,fun pre E L h=>gI.good (Z8 n fl segs) h,fun c1 i c2 E L o ho hpre h=>gI.erase (Z8 n fl segs) ho hpre h⟩
theorem Q9.frontE{n:Nat}{E:List Nat}{fl:Nat→Bool}{bW:Array Bool}{c1 c2 c3:List Nat}{i:Nat}{o:Oper}(h:Q9 all n bW (c1++i::c3))(hg:uM all n E fl (c1++i::c2))(ho:all[i]?= some o)(hpre:∀e∈o.after,Region.binds .any e=true→bW.getD e.on false=true)(hE:∀e∈E,e∉c1):
  ∀x∈c1,fQ all x=true∧kI all x i=true∧(fQ all i=true∨fl i=true∨rE all x=true):=by
 intro x hx;rcases hg c1 i c2 rfl x hx with he|hr|hr
 ·exact absurd hx (hE x he)
 ·have hxl:=h.lt x (by simp[hx]);have:=mN h.closed n i x o ho hpre (fun j hj=>by
   rcases Nat.lt_or_ge j bW.size with h'|h'
   ·have:=h.size;omega
   ·simp[Array.getElem?_eq_none h']at hj) hr
  have h2:=(h.mem x hxl).1 (by simp[hx]);rw[h2]at this;cases this
 ·exact hr
theorem vK{fl:Nat→Bool}{K:Act→World→Prop}{i:Nat}{a:Act}{w:World}(h:iI r bad P all fl Q i K a w):xV r bad P all fl K Q [i] a w:=by
 rw[kG];exact h
theorem oK{n:Nat}{fl:Nat→Bool}{cont:List Nat→List Nat→Array Bool→Prop}{rest:List Nat}{kont:Act→World→Prop}(hnd:kU all=true)(hQ:PI Q)(hc:O4 all n fl cont rest)
  (hcont:∀(pre E:List Nat) (L:Array Bool) (a:Act) (w:World),(∀e∈E,L.getD e false=true)→cont pre E L→xV r bad P all fl kont Q pre a w→wpAnyIn (FW r) 0 P .any all Q (pre++rest).length L a w):
  ∀(pl:fG) (pre E:List Nat) (L:Array Bool) (a:Act) (w:World),(∀e∈E,L.getD e false=true)→gI all n cont rest pl pre E L→xV r bad P all fl (OA r bad P all fl Q kont pl) Q pre a w→
  wpAnyIn (FW r) 0 P .any all Q (pre++(pl.list++rest)).length L a w
 |.fin c,pre,E,L,a,w,hE,hr,h=>by
  have:=hcont (pre++c) E L a w hE hr (jY pre c a w h);rw[aGN]at this;exact this
 |.fork d p A q B,pre,E,L,a,w,hE,hr,h=>by
  have hmain:∀(m:Nat) (d':List Nat) (L:Array Bool) (a:Act) (w:World),d'.length=m→(∀e∈E,L.getD e false=true)→gI all n cont rest A (d'++[p]) (p::E) L→gI all n cont rest B (d'++[q]) (q::E) L→q∈A.list++rest→A.list.length=B.list.length→(∀i∈A.list++rest,i=q∨iU all n i p=true∨iU all n i q=true)→
    xV r bad P all fl (fun a w=>iI r bad P all fl Q p (OA r bad P all fl Q kont A) a w∧iI r bad P all fl Q q (OA r bad P all fl Q kont B) a w) Q d' a w→wpAnyIn (FW r) 0 P .any all Q (d'++p::(A.list++rest)).length L a w:=by
   intro m;induction m using Nat.strongRecOn with
   |_ m ih=>
   intro d' L a w hm hE hA hB hqA hlen he h;have h1:=gI.part hc hA;have h2:=gI.part hc hB;rw[aGN]at h1 h2;have gA:=gI.good hc hA;have gB:=gI.good hc hB;simp only[aJS]at h1 h2;obtain⟨k,hk⟩:∃k,(d'++p::(A.list++rest)).length=k+1:=⟨d'.length+(A.list++rest).length,by simp;omega⟩
   rw[hk];constructor
   ·intro h0;exfalso
    match hcc:d'++p::(A.list++rest),hk with
    |i::c',_=>
     rw[hcc]at h1;have hil:=h1.lt i aGL;have hi:i∈Region.ready .any all L:=by
      refine mem_ready.2 ⟨?_,all[i],by simp[hil],?_⟩
      ·have:=(h1.mem i hil).1 aGL;rw[aHY]at this ⊢
       rw[aJR (by rw[h1.size];exact hil)]at this ⊢
       exact this
      ·intro e he hb;rcases h1.topo [] i c' rfl _ (by simp[hil]) e he hb with h|h
       ·exact h
       ·cases h
     rw[h0]at hi;cases hi
   ·intro i hi;obtain⟨hun,o,ho,hpre⟩:=mem_ready.1 hi;have hil:i<all.size:=(aJD.1 ho).1;have hun':L.getD i false=false:=by
     have:=h1.size;rw[aHY]at hun ⊢
     rw[aJR Yd]at hun ⊢
     exact hun
    have hmem:=(h1.mem i hil).2 hun';have hun2:∀x,x∈d'++p::(A.list++rest)→iU all n i x=true→False:=by
     intro x hx hr;have:=mN h1.closed n i x o ho hpre (fun j hj=>by
      rcases Nat.lt_or_ge j L.size with h'|h'
      ·have:=h1.size;omega
      ·simp[Array.getElem?_eq_none h']at hj) hr
     have h2:=(h1.mem x (h1.lt x hx)).1 hx;rw[h2]at this;cases this
    have hEd:∀e∈E,e∉d':=fun e he hm=>by
     have:=(h1.mem e (h1.lt e (by simp[hm]))).1 (by simp[hm]);rw[hE e he]at this;cases this
    have hnA:p∉d':=fun hp=>by
     have hn:=h1.nodup;rw[aGK]at hn;exact hn.2.2 p hp p Ye rfl
    have hnB:q∉d':=fun hp=>by
     have hn:=h2.nodup;rw[aGK]at hn;exact hn.2.2 q hp q Ye rfl
    rw[aGP,aGB]at hmem;rcases hmem with hm'|rfl|hm'
    ·obtain⟨c1,c2,rfl⟩:=List.append_of_mem hm';have q1:∀z:Nat,(c1++i::c2)++[z]=c1++i::(c2++[z]):=fun z=>by simp
     have q2:∀z:Nat,c1++(c2++[z])=(c1++c2)++[z]:=fun z=>by simp
     rw[q1]at hA hB gA;have hk2:(c1++i::(c2++p::(A.list++rest))).length=k+1:=by rw[←hk];simp
     have h1':Q9 all n L (c1++i::(c2++p::(A.list++rest))):=by simpa using h1
     have hf:=h1'.frontE gA ho hpre (fun e he hm=>by
      rcases aGB.1 he with rfl|he
      ·exact hnA (by simp[hm])
      ·exact hEd e he (by simp[hm]))
     have hst:=mX hnd hQ c1 c2 a w hf h;refine wpOpIn_mono (fun a w hh=>?_) hst.wpOpIn;have sA:=gI.erase hc ho hpre hA;have sB:=gI.erase hc ho hpre hB;rw[q2]at sA sB;have:=ih (c1++c2).length (by rw[←hm];simp) (c1++c2) _ a w rfl (fun e he=>getD_set_true (hE e he)) sA sB hqA hlen ‹_› hh
     have hl:((c1++c2)++p::(A.list++rest)).length=k:=by simp at hk2 ⊢;omega
     rw[hl]at this;exact this
    ·have hw:=jY (K:=fun a w=>OA r bad P all fl Q kont A a w) d' [i] a w (nR (fun _ _ h=>vK h.1) d' h);have hf:=h1.frontE (c2:=[]) gA ho hpre (fun e he hm=>by
      rcases aGB.1 he with rfl|he
      ·exact hnA hm
      ·exact hEd e he hm)
     have hst:=mX hnd hQ d' [] a w hf hw;refine wpOpIn_mono (fun a w hh=>?_) hst.wpOpIn;have sA:=gI.erase hc ho hpre hA;rw[aGG]at sA hh;have:=oK hnd hQ hc hcont A d' (i::E) _ a w (fun e he=>by
      rcases aGB.1 he with rfl|he
      ·exact jH (by rw[h1.size];exact hil)
      ·exact getD_set_true (hE e he)) sA hh
     have hl:(d'++(A.list++rest)).length=k:=by simp at hk ⊢;omega
     rw[hl]at this;exact this
    ·by_cases hiq:i=q
     ·subst hiq;have hw:=jY (K:=fun a w=>OA r bad P all fl Q kont B a w) d' [i] a w (nR (fun _ _ h=>vK h.2) d' h);have hf:=h2.frontE (c2:=[]) gB ho hpre (fun e he hm=>by
       rcases aGB.1 he with rfl|he
       ·exact hnB hm
       ·exact hEd e he hm)
      have hst:=mX hnd hQ d' [] a w hf hw;refine wpOpIn_mono (fun a w hh=>?_) hst.wpOpIn;have sB:=gI.erase hc ho hpre hB;rw[aGG]at sB hh;have:=oK hnd hQ hc hcont B d' (i::E) _ a w (fun e he=>by
       rcases aGB.1 he with rfl|he
       ·exact jH (by rw[h1.size];exact hil)
       ·exact getD_set_true (hE e he)) sB hh
      have hl:(d'++(B.list++rest)).length=k:=by simp at hk ⊢;omega
      rw[hl]at this;exact this
     ·exfalso
      rcases he i hm' with hr|hr|hr
      ·exact hiq hr
      ·exact hun2 p Ye hr
      ·exact hun2 q (aFZ _ (aGE _ hqA)) hr
  obtain⟨hA,hB,hqA,hlen,he⟩:=hr;have:=hmain (pre++d).length (pre++d) L a w rfl hE hA hB hqA hlen he (jY pre d a w h);have e:pre++d++p::(A.list++rest)=pre++((fG.fork d p A q B).list++rest):=by simp[fG.list]
  rw[e]at this;exact this

 |.forkN d p ps A,pre,E,L,a,w,hE,hr,h=>by
  have hmain:∀(m:Nat) (d':List Nat) (L:Array Bool) (a:Act) (w:World),d'.length=m→(∀e∈E,L.getD e false=true)→(∀i∈p::ps,gI all n cont rest (A i) (d'++[i]) (i::E) L∧(A i).list.length=(A p).list.length∧(i=p∨i∈(A p).list++rest))→(∀i∈(A p).list++rest,i∈ps∨∃q∈p::ps,iU all n i q=true)→
    xV r bad P all fl (fun a w=>∀i∈p::ps,iI r bad P all fl Q i (OA r bad P all fl Q kont (A i)) a w) Q d' a w→wpAnyIn (FW r) 0 P .any all Q (d'++p::((A p).list++rest)).length L a w:=by
   intro m;induction m using Nat.strongRecOn with
   |_ m ih=>
   intro d' L a w hm hE hA he h;have h1:=gI.part hc (hA p aGL).1;rw[aGN]at h1;simp only[aJS]at h1;obtain⟨k,hk⟩:∃k,(d'++p::((A p).list++rest)).length=k+1:=⟨d'.length+((A p).list++rest).length,by simp;omega⟩
   rw[hk];constructor
   ·intro h0;exfalso
    match hcc:d'++p::((A p).list++rest),hk with
    |i::c',_=>
     rw[hcc]at h1;have hil:=h1.lt i aGL;have hi:i∈Region.ready .any all L:=by
      refine mem_ready.2 ⟨?_,all[i],by simp[hil],?_⟩
      ·have:=(h1.mem i hil).1 aGL;rw[aHY]at this ⊢
       rw[aJR (by rw[h1.size];exact hil)]at this ⊢
       exact this
      ·intro e he hb;rcases h1.topo [] i c' rfl _ (by simp[hil]) e he hb with h|h
       ·exact h
       ·cases h
     rw[h0]at hi;cases hi
   ·intro i hi;obtain⟨hun,o,ho,hpre⟩:=mem_ready.1 hi;have hil:i<all.size:=(aJD.1 ho).1;have hun':L.getD i false=false:=by
     have:=h1.size;rw[aHY]at hun ⊢
     rw[aJR Yd]at hun ⊢
     exact hun
    have hmem:=(h1.mem i hil).2 hun';have hun2:∀x,x∈d'++p::((A p).list++rest)→iU all n i x=true→False:=by
     intro x hx hr;have:=mN h1.closed n i x o ho hpre (fun j hj=>by
      rcases Nat.lt_or_ge j L.size with h'|h'
      ·have:=h1.size;omega
      ·simp[Array.getElem?_eq_none h']at hj) hr
     have h2:=(h1.mem x (h1.lt x hx)).1 hx;rw[h2]at this;cases this
    have hEd:∀e∈E,e∉d':=fun e he hm=>by
     have:=(h1.mem e (h1.lt e (by simp[hm]))).1 (by simp[hm]);rw[hE e he]at this;cases this
    have hnz:∀z∈p::ps,z∉d':=fun z hz hp=>by
     have hn:=(gI.part hc (hA z hz).1).nodup;rw[aGN,aGK]at hn;exact hn.2.2 z hp z Ye rfl
    have hin:∀z∈p::ps,z∈d'++p::((A p).list++rest):=fun z hz=>by
     rcases(hA z hz).2.2 with rfl|hz'
     ·simp
     ·exact aFZ _ (aGE _ hz')
    by_cases hz:i∈p::ps
    ·have h2:=gI.part hc (hA i hz).1;rw[aGN]at h2;simp only[aJS]at h2;have hw:=jY (K:=fun a w=>OA r bad P all fl Q kont (A i) a w) d' [i] a w (nR (fun _ _ h=>vK (h i hz)) d' h);have hf:=h2.frontE (c2:=[]) (gI.good hc (hA i hz).1) ho hpre (fun e he hm=>by
      rcases aGB.1 he with rfl|he
      ·exact hnz _ hz hm
      ·exact hEd e he hm)
     have hst:=mX hnd hQ d' [] a w hf hw;refine wpOpIn_mono (fun a w hh=>?_) hst.wpOpIn;have sA:=gI.erase hc ho hpre (hA i hz).1;rw[aGG]at sA hh;have:=oK hnd hQ hc hcont (A i) d' (i::E) _ a w (fun e he=>by
      rcases aGB.1 he with rfl|he
      ·exact jH (by rw[h1.size];exact hil)
      ·exact getD_set_true (hE e he)) sA hh
     have hl:(d'++((A i).list++rest)).length=k:=by
      have:=(hA i hz).2.1;simp at hk ⊢;omega
     rw[hl]at this;exact this
    ·rw[aGP,aGB]at hmem;rcases hmem with hm'|rfl|hm'
     ·obtain⟨c1,c2,rfl⟩:=List.append_of_mem hm';have q1:∀z:Nat,(c1++i::c2)++[z]=c1++i::(c2++[z]):=fun z=>by simp
      have q2:∀z:Nat,c1++(c2++[z])=(c1++c2)++[z]:=fun z=>by simp
      have gA:=gI.good hc (hA p aGL).1;rw[q1]at gA;have hk2:(c1++i::(c2++p::((A p).list++rest))).length=k+1:=by rw[←hk];simp
      have h1':Q9 all n L (c1++i::(c2++p::((A p).list++rest))):=by simpa using h1
      have hf:=h1'.frontE gA ho hpre (fun e he hm=>by
       rcases aGB.1 he with rfl|he
       ·exact hnz _ aGL (by simp[hm])
       ·exact hEd e he (by simp[hm]))
      have hst:=mX hnd hQ c1 c2 a w hf h;refine wpOpIn_mono (fun a w hh=>?_) hst.wpOpIn;have:=ih (c1++c2).length (by rw[←hm];simp) (c1++c2) _ a w rfl (fun e he=>getD_set_true (hE e he)) (fun z hz=>by
       have hz1:=(hA z hz).1;rw[q1]at hz1;have sA:=gI.erase hc ho hpre hz1;rw[q2]at sA;exact⟨sA,(hA z hz).2⟩) he hh
      have hl:((c1++c2)++p::((A p).list++rest)).length=k:=by simp at hk2 ⊢;omega
      rw[hl]at this;exact this
     ·exact absurd aGL hz
     ·rcases he i hm' with hr|⟨q,hq,hr⟩
      ·exact absurd (aGE _ hr) hz
      ·exact(hun2 q (hin q hq) hr).elim
  obtain⟨hA,he⟩:=hr;have:=hmain (pre++d).length (pre++d) L a w rfl hE hA he (jY pre d a w h);have e:pre++d++p::((A p).list++rest)=pre++((fG.forkN d p ps A).list++rest):=by simp[fG.list]
  rw[e]at this;exact this
theorem zC{n:Nat}{fl:Nat→Bool}(hnd:kU all=true)(hQ:PI Q):∀(segs:List fG) (pre E:List Nat) (L:Array Bool) (a:Act) (w:World),(∀e∈E,L.getD e false=true)→SY all n fl segs pre E L→xV r bad P all fl (aFN r bad P all fl Q segs) Q pre a w→
  wpAnyIn (FW r) 0 P .any all Q (pre++jP segs).length L a w
 | [],pre,E,L,a,w,hE,hr,h=>by
  obtain⟨hp,hg⟩:=hr;rw[jP,aGG];refine O9 hnd hQ pre L a w hp.size hp.closed hp.nodup hp.mem hp.lt (hg.none fun e he hm=>?_) hp.topo h;have:=(hp.mem e (hp.lt e hm)).1 hm;rw[hE e he]at this;cases this
 |pl::segs,pre,E,L,a,w,hE,hr,h=>
  oK hnd hQ (Z8 n fl segs) (zC hnd hQ segs) pl pre E L a w hE hr h

def GB(all:Array Oper)(n:Nat)(fls:List Bool)(S:List Nat)(i:Nat):Bool:=S.all fun x=>iU all n i x||(fQ all x&&kI all x i&&(fQ all i||(fls.getD i false||rE all x)))
def nL(all:Array Oper)(n:Nat)(fls:List Bool)(S E:List Nat):List Nat→List Nat→Bool
 |_,[]=>true
 |before,i::rest=>i7 all n fls E i before&&GB all n fls S i&&rT all i (S++before)&& !(S++before).contains i&&Nat.blt i all.size&&nL all n fls S E (before++[i]) rest
def oI(all:Array Oper)(n:Nat)(fls:List Bool)(S rest T:List Nat):fG→List Nat→List Nat→Bool
 |.fin c,pre,E=>nL all n fls S E [] (pre++c)&&Nat.beq (pre++c).length T.length&&(pre++c).all T.contains&&T.all (pre++c).contains
 |.fork d p A q B,pre,E=>oI all n fls S rest T A (pre++d++[p]) (p::E)&&oI all n fls S rest T B (pre++d++[q]) (q::E)&&((A.list++rest).any fun i=>Nat.beq i q)&&Nat.beq A.list.length B.list.length&&(A.list++rest).all fun i=>Nat.beq i q||(iU all n i p||iU all n i q)
 |.forkN d p ps A,pre,E=>(p::ps).all (fun i=>oI all n fls S rest T (A i) (pre++d++[i]) (i::E)&&Nat.beq (A i).list.length (A p).list.length&&(Nat.beq i p||((A p).list++rest).contains i))&&((A p).list++rest).all fun i=>ps.contains i||(p::ps).any fun q=>iU all n i q
def lJ(all:Array Oper)(n:Nat)(fls:List Bool):List Nat→List fG→Bool
 |S,[]=>kU all&&Nat.beq S.length all.size&&(List.range all.size).all S.contains
 |S,pl::segs=>oI all n fls S (jP segs) pl.list pl [] []&&lJ all n fls (S++pl.list) segs
structure Z0(all:Array Oper)(n:Nat)(fls:List Bool)(S pre E:List Nat):Prop where
 nodup:pre.Nodup
 mem:∀i,i∈pre ↔ i∈S
 lt:∀i∈pre,i<all.size
 good:uM all n E (fun i=>fls.getD i false) pre
 topo:pJ all (Array.replicate all.size false) pre
 len:pre.length=S.length
theorem Z7{n:Nat}{S E:List Nat}{fls:List Bool}:∀(c before c1:List Nat) (i:Nat) (c2:List Nat),nL all n fls S E before c=true→c=c1++i::c2→
  i7 all n fls E i (before++c1)=true∧GB all n fls S i=true∧rT all i (S++(before++c1))=true∧i∉S++(before++c1)∧i<all.size:=by
 intro c;induction c with
 |nil=>intro before c1 i c2 _ h;simp at h
 |cons x c ih=>
  intro before c1 i c2 hc h;simp only[nL,aGO]at hc;obtain⟨⟨⟨⟨⟨g,cr⟩,t⟩,nm⟩,lt⟩,hc⟩:=hc;cases c1 with
  |nil=>
   simp only[aHI,aIP]at h;rw[←h.1,aGG];exact⟨g,cr,t,by simpa using nm,by simpa [Nat.blt_eq]using lt⟩
  |cons y c1=>
   simp only[aIN,aIP]at h;have:=ih (before++[x]) c1 i c2 hc h.2;rw[h.1]at this;simpa using this
theorem Z0.more{n:Nat}{fls:List Bool}{S pre E E' T c:List Nat}(h:Z0 all n fls S pre E)(hE:∀e∈E,e∈E')(hc:nL all n fls S E' [] c=true)(hT:∀i,i∈c ↔ i∈T)(hl:c.length=T.length):Z0 all n fls (S++T) (pre++c) E':=by
 have sp:=fun c1 i c2 he=>Z7 c [] c1 i c2 hc he
 simp only[aHI]at sp;have hcn:c.Nodup:=by
  have key:∀(c before:List Nat),nL all n fls S E' before c=true→before.Nodup→(before++c).Nodup:=by
   intro c;induction c with
   |nil=>intro before _ h;simpa using h
   |cons i c ih=>
    intro before h hb;simp only[nL,aGO]at h;have hn:i∉S++before:=by simpa using h.1.1.2
    have:=ih (before++[i]) h.2 (by
     rw[aGK];refine⟨hb,by simp,fun x hx y hy=>?_⟩;simp only[aGU]at hy;rintro rfl;exact hn (aFZ _ (hy▸hx)))
    simpa using this
  simpa using key c [] hc aID
 have hcS:∀i∈c,i∉S:=fun i hi=>by
  obtain⟨c1,c2,rfl⟩:=List.append_of_mem hi;have:=(sp c1 i c2 rfl).2.2.2.1;exact fun hS=>this (aGI _ hS)
 refine⟨?_,fun i=>?_,fun i hi=>?_,?_,?_,by simp[h.len,hl]⟩
 ·rw[aGK];exact⟨h.nodup,hcn,fun x hx y hy=>by rintro rfl;exact hcS x hy ((h.mem x).1 hx)⟩
 ·simp[h.mem,hT]
 ·rcases aGP.1 hi with hi|hi
  ·exact h.lt i hi
  ·obtain⟨c1,c2,rfl⟩:=List.append_of_mem hi;exact(sp c1 i c2 rfl).2.2.2.2
 ·intro d1 i d2 he x hx;rcases List.append_eq_append_iff.1 he with⟨t,h1,h2⟩|⟨t,h1,h2⟩
  ·rw[h1]at hx;obtain⟨g,cr,_⟩:=sp t i d2 h2;rcases aGP.1 hx with hx|hx
   ·have:=aGY.1 cr x ((h.mem x).1 hx);simp only[aIC,aGO]at this;rcases this with h'|h'
    ·exact aGH (aGR h')
    ·exact aGH (aGH ⟨h'.1.1,h'.1.2,h'.2⟩)
   ·have:=aGY.1 g x hx;simp only[aIC,aGO]at this;rcases this with(h'|h')|h'
    ·exact aGR (by simpa using h')
    ·exact aGH (aGR h')
    ·exact aGH (aGH ⟨h'.1.1,h'.1.2,h'.2⟩)
  ·cases t with
   |nil=>
    rw[aGG]at h1;rw[aHI]at h2;rw[←h1]at hx;obtain⟨g,cr,_⟩:=sp [] i d2 h2.symm;have:=aGY.1 cr x ((h.mem x).1 hx);simp only[aIC,aGO]at this;rcases this with h'|h'
    ·exact aGH (aGR h')
    ·exact aGH (aGH ⟨h'.1.1,h'.1.2,h'.2⟩)
   |cons z t=>
    simp only[aIN,aIP]at h2;rw[←h2.1]at h1;rcases h.good d1 i t h1 x hx with h'|h'
    ·exact aGR (hE x h')
    ·exact aGH h'
 ·intro d1 i d2 he o ho e hm hb;rcases List.append_eq_append_iff.1 he with⟨t,h1,h2⟩|⟨t,h1,h2⟩
  ·obtain⟨_,_,tp,_⟩:=sp t i d2 h2;unfold rT at tp;rw[ho]at tp;simp only[aHM,aJP,aGY,aIC,aKH,aKT,aGZ]at tp;rcases tp e (by simpa using hm)with h'|h'
   ·rw[hb]at h';cases h'
   ·rw[h1];rcases aGP.1 h' with h'|h'
    ·exact aGH (aGI _ ((h.mem _).2 h'))
    ·exact aGH (aFZ _ h')
  ·cases t with
   |nil=>
    rw[aGG]at h1;rw[aHI]at h2;obtain⟨_,_,tp,_⟩:=sp [] i d2 h2.symm;unfold rT at tp;rw[ho]at tp;simp only[aHM,aJP,aGY,aIC,aKH,aKT,aGZ]at tp;rcases tp e (by simpa using hm)with h'|h'
    ·rw[hb]at h';cases h'
    ·rw[←h1];rcases aGP.1 h' with h'|h'
     ·exact aGH ((h.mem _).2 h')
     ·cases h'
   |cons z t=>
    simp only[aIN,aIP]at h2;rw[←h2.1]at h1;exact h.topo d1 i t h1 o ho e hm hb
theorem oL{n:Nat}{fls:List Bool}{S rest T pre E:List Nat}{cont:List Nat→List Nat→Array Bool→Prop}(h:Z0 all n fls S pre E)(hcont:∀pre' E',Z0 all n fls (S++T) pre' E'→cont pre' E' (Array.replicate all.size false)):
  ∀{pl:fG} {lp Ep:List Nat},oI all n fls S rest T pl lp Ep=true→gI all n cont rest pl (pre++lp) (Ep++E) (Array.replicate all.size false)
 |.fin c,lp,Ep,hc=>by
  simp only[oI,aGO,aGY]at hc;obtain⟨⟨⟨h1,h2⟩,h3⟩,h4⟩:=hc;have h1':nL all n fls S (Ep++E) [] (lp++c)=true:=by
   have key:∀(c before:List Nat),nL all n fls S Ep before c=true→nL all n fls S (Ep++E) before c=true:=by
    intro c;induction c with
    |nil=>intro _ _;rfl
    |cons i c ih=>
     intro before hh;simp only[nL,aGO]at hh ⊢
     refine⟨⟨⟨⟨⟨?_,hh.1.1.1.1.2⟩,hh.1.1.1.2⟩,hh.1.1.2⟩,hh.1.2⟩,ih _ hh.2⟩;unfold i7 at hh ⊢
     rw[aGY];intro x hx;have:=aGY.1 hh.1.1.1.1.1 x hx;simp only[aIC]at this ⊢
     rcases this with(h'|h')|h'
     ·exact aGR (aGR (by simp only[aKT,aGZ]at h' ⊢;exact aGI _ h'))
     ·exact aGR (aGH h')
     ·exact aGH h'
   exact key _ _ h1
  have:=h.more (fun e he=>aFZ Ep he) h1' (T:=T) (fun i=>⟨fun hi=>by simpa using h3 i hi,fun hi=>by simpa using h4 i hi⟩) (aHQ h2);show cont (pre++lp++c) (Ep++E) _;rw[aGN];exact hcont _ _ this
 |.fork d p A q B,lp,Ep,hc=>by
  simp only[oI,aGO]at hc;obtain⟨⟨⟨⟨hA,hB⟩,hq⟩,hl⟩,he⟩:=hc;have rA:=oL h hcont hA;have rB:=oL h hcont hB;simp only[←aGN]at rA rB;refine⟨rA,rB,?_,aHQ hl,fun i hi=>?_⟩
  ·obtain⟨x,hx,hb⟩:=aLH.1 hq;rw[←aHQ hb];exact hx
  ·simpa using aGY.1 he i hi
 |.forkN d p ps A,lp,Ep,hc=>by
  simp only[oI,aGO]at hc;obtain⟨hA,he⟩:=hc;refine⟨fun i hi=>?_,fun i hi=>?_⟩
  ·have h1:=aGY.1 hA i hi;simp only[aGO]at h1;have rA:=oL h hcont h1.1.1;simp only[←aGN]at rA;refine⟨rA,aHQ h1.1.2,?_⟩;have h2:=h1.2;rw[aIC]at h2;rcases h2 with h2|h2
   ·exact aGR (aHQ h2)
   ·exact aGH (by simpa using h2)
  ·have:=aGY.1 he i hi;rw[aIC]at this;rcases this with h1|h1
   ·exact aGR (by simpa using h1)
   ·obtain⟨q,hq,hr⟩:=aLH.1 h1;exact aGH ⟨q,hq,hr⟩
theorem zH{n:Nat}{fls:List Bool}:∀{segs:List fG} {S pre E:List Nat},Z0 all n fls S pre E→lJ all n fls S segs=true→SY all n (fun i=>fls.getD i false) segs pre E (Array.replicate all.size false)
 | [],S,pre,E,h,hc=>by
  simp only[lJ,aGO,aGY,aJH,aKT,aGZ]at hc;refine⟨⟨by simp,?_,h.nodup,fun i hi=>?_,h.lt,h.topo⟩,h.good⟩
  ·intro i o ho hl;simp[aHY,Array.getElem?_replicate]at hl;split at hl<;>simp at hl
  ·simp only[aHY,Array.getElem?_replicate,hi,aII,aJP,iff_true];exact(h.mem i).2 (hc.2 i hi)
 |pl::segs,S,pre,E,h,hc=>by
  simp only[lJ,aGO]at hc;have:=oL (cont:=SY all n (fun i=>fls.getD i false) segs) (rest:=jP segs) (T:=pl.list) h (fun pre' E' h'=>zH h' hc.2) hc.1;rw[aGG,aHI]at this;exact this
theorem V7{n:Nat}{fls:List Bool}:∀{segs:List fG} {S:List Nat},lJ all n fls S segs=true→kU all=true∧(S++jP segs).length=all.size
 | [],S,hc=>by
  simp only[lJ,aGO]at hc;rw[jP,aGG];exact⟨hc.1.1,aHQ hc.1.2⟩
 |pl::segs,S,hc=>by
  simp only[lJ,aGO]at hc;obtain⟨h1,h2⟩:=V7 hc.2;rw[aGN]at h2;exact⟨h1,h2⟩
theorem nD{K:Act→World→Prop}{fl:Nat→Bool}:∀(c:List Nat) (a:Act) (w:World),(∀i∈c,i<all.size)→mH r bad P all K Q (eN all (c.map fun i=>(fl i,i))) a w→xV r bad P all fl K Q c a w:=by
 intro c;induction c with
 |nil=>intro a w _ h;exact h
 |cons i c ih=>
  intro a w hlt h;have hi:=hlt i aGL;have ho:all[i]?= some all[i]:=by simp[hi]
  have hd:all.getD i default=all[i]:=by simp[hi]
  have hrec:∀a w,mH r bad P all K Q (eN all (c.map fun i=>(fl i,i))) a w→xV r bad P all fl K Q c a w:=fun a w hh=>ih a w (fun j hj=>hlt j (aGE _ hj)) hh
  simp only[eN,aHB,mH,hd]at h;simp only[xV,ho];split at h
  ·rename_i hq;obtain⟨v,hy,h⟩:=h;rw[aGX hq];exact⟨v,hy,hrec _ _ h⟩
  ·rename_i hq;rw[aGQ hq];exact h.mono hrec
def qO(r:Option Nat){γb:Type}[Membership Nat γb](bad:γb)(P:Program)(all:Array Oper)(fls:List Bool)(Q:Exit→Act→World→Prop)(kont:Act→World→Prop):fG→Act→World→Prop
 |.fin c=>mH r bad P all kont Q (eN all (c.map fun i=>(fls.getD i false,i)))
 |.fork d p A q B=>mH r bad P all (fun a w=>mH r bad P all (qO r bad P all fls Q kont A) Q (eN all [(fls.getD p false,p)]) a w∧mH r bad P all (qO r bad P all fls Q kont B) Q (eN all [(fls.getD q false,q)]) a w) Q (eN all (d.map fun i=>(fls.getD i false,i)))
 |.forkN d p ps A=>mH r bad P all (fun a w=>∀i∈p::ps,mH r bad P all (qO r bad P all fls Q kont (A i)) Q (eN all [(fls.getD i false,i)]) a w) Q (eN all (d.map fun i=>(fls.getD i false,i)))
def g7(r:Option Nat){γb:Type}[Membership Nat γb](bad:γb)(P:Program)(all:Array Oper)(fls:List Bool)(Q:Exit→Act→World→Prop)(K:Act→World→Prop):List fG→Act→World→Prop
 | []=>K
 |pl::segs=>qO r bad P all fls Q (g7 r bad P all fls Q K segs) pl
def oV(N:Nat):fG→Bool
 |.fin c=>c.all fun i=>Nat.blt i N
 |.fork d p A q B=>d.all (fun i=>Nat.blt i N)&&Nat.blt p N&&Nat.blt q N&&oV N A&&oV N B
 |.forkN d p ps A=>d.all (fun i=>Nat.blt i N)&&(p::ps).all fun i=>Nat.blt i N&&oV N (A i)
theorem oB{fls:List Bool}{kont kont':Act→World→Prop}(hk:∀a w,kont a w→kont' a w):∀{pl:fG} {a:Act} {w:World},oV all.size pl=true→qO r bad P all fls Q kont pl a w→OA r bad P all (fun i=>fls.getD i false) Q kont' pl a w
 |.fin c,a,w,hl,h=>nR hk c (nD c a w (fun i hi=>by simpa [Nat.blt_eq]using aGY.1 hl i hi) h)
 |.fork d p A q B,a,w,hl,h=>by
  simp only[oV,aGO,Nat.blt_eq]at hl;obtain⟨⟨⟨⟨h1,h2⟩,h3⟩,h4⟩,h5⟩:=hl;refine nR ?_ d (nD d a w (fun i hi=>by simpa [Nat.blt_eq]using aGY.1 h1 i hi) h);rintro a w ⟨g1,g2⟩;have one:∀(z:Nat) (K:Act→World→Prop),z<all.size→mH r bad P all K Q (eN all [(fls.getD z false,z)]) a w→iI r bad P all (fun i=>fls.getD i false) Q z K a w:=fun z K hz h=>by
   have:=nD (all:=all) (fl:=fun i=>fls.getD i false) [z] a w (by simpa using hz) h;rw[kG]at this;exact this
  exact⟨(one p _ h2 g1).mono fun a w h=>oB hk h4 h,(one q _ h3 g2).mono fun a w h=>oB hk h5 h⟩
 |.forkN d p ps A,a,w,hl,h=>by
  simp only[oV,aGO]at hl;obtain⟨h1,h2⟩:=hl;refine nR ?_ d (nD d a w (fun i hi=>by simpa [Nat.blt_eq]using aGY.1 h1 i hi) h);intro a w g i hi;have h3:=aGY.1 h2 i hi;simp only[aGO,Nat.blt_eq]at h3;have one:∀(z:Nat) (K:Act→World→Prop),z<all.size→mH r bad P all K Q (eN all [(fls.getD z false,z)]) a w→iI r bad P all (fun i=>fls.getD i false) Q z K a w:=fun z K hz h=>by
   have:=nD (all:=all) (fl:=fun i=>fls.getD i false) [z] a w (by simpa using hz) h;rw[kG]at this;exact this
  exact(one i _ h3.1 (g i hi)).mono fun a w h=>oB hk h3.2 h
theorem zJ{fls:List Bool}:∀{segs:List fG} {a:Act} {w:World},(segs.all fun pl=>oV all.size pl)=true→g7 r bad P all fls Q (fun a w=>Q .normal a w) segs a w→aFN r bad P all (fun i=>fls.getD i false) Q segs a w
 | [],a,w,_,h=>h
 |pl::segs,a,w,hl,h=>by
  rw[List.all_cons,aGO]at hl;exact oB (fun a w h=>zJ hl.2 h) hl.1 h
theorem PL{id n:Nat}{fls:List Bool}{segs:List fG}{a:Act}{w:World}(hm:P.follows .mixedOrders=true)(hc:(lJ all n fls [] segs&&segs.all fun pl=>oV all.size pl)=true)(hQ:PI Q)
  (h:g7 r bad P all fls Q (fun a w=>Q .normal a w) segs a {w with drawn:=w.drawn+1}):(Code.region id all true).wpIn (FW r) 0 P Q a w:=by
 rw[aGO]at hc;obtain⟨hnd,hlen⟩:=V7 hc.1;have hr:=zH (S:=[]) (pre:=[]) (E:=[]) ⟨aID,fun i=>Iff.rfl,(fun i hi=>by cases hi),(fun c1 i c2 he=>by simp at he),(fun c1 i c2 he=>by simp at he),rfl⟩ hc.1;refine wpIn_region_any hm ?_;have:=zC (P:=P) (r:=r) (bad:=bad) (n:=n) (fl:=fun i=>fls.getD i false) hnd hQ segs [] [] (Array.replicate all.size false) a {w with drawn:=w.drawn+1} (fun e he=>by cases he) hr (zJ hc.2 h);rw[hlen]at this;exact this
end Go.Fs
namespace Go.Fs
abbrev bQ:=List (Nat×Value)
abbrev aC:=List (Nat×Obj)
abbrev aA:=Nat→List Value
def look:bQ→Nat→Option Value
 | [],_=>none
 |(k,v)::r,s=>match Nat.beq k s with|true=>some v|false=>look r s
def ev(σ:bQ):Operand→Option Value
 |.tmp t=>look σ t
 |.const v=>some v
 |.global g=>some (.pointer (some ⟨g,0,none⟩))
 |.func f=>some (.func (.func f) #[] #[])
def Le(D D':aA):Prop:=(∀b,D b <+: D' b)∧D' 0=D 0
theorem Le.refl(D:aA):Le D D:=⟨fun _=>List.prefix_refl _,rfl⟩
theorem Le.trans{D D' D'':aA}(h:Le D D')(h':Le D' D''):Le D D'':=⟨fun b=>(h.1 b).trans (h'.1 b),h'.2.trans h.2⟩
theorem Le.get{D D':aA}(h:Le D D'){b i:Nat}{v:Value}(hv:(D b)[i]?= some v):(D' b)[i]?= some v:=by
 obtain⟨t,ht⟩:=h.1 b;rw[←ht,aIU]
 ·exact hv
 ·exact(aGJ.1 hv).1
def dQ(D:aA)(w:World):Prop:=(∀b,D b≠[]→∃cs e fz,w.heap[b]?= some (.cells cs e fz)∧D b <+: cs.toList)∧D 0≠[]∧∃e fz,w.heap[0]?= some (.cells (D 0).toArray e fz)
theorem dQ.of{D D':aA}{w w':World}(h:dQ D w)(h1:∀b,D' b≠[]→∃cs e fz,w'.heap[b]?= some (.cells cs e fz)∧D' b <+: cs.toList)(hD:D' 0=D 0)(hw:w'.heap[0]?= w.heap[0]?):dQ D' w':=by
 refine⟨h1,?_⟩;rw[hD,hw];exact h.2
theorem dQ.ne0{D:aA}{w:World}(h:dQ D w){b:Nat}(hb:D b=[]):b≠0:=fun e=>h.2.1 (e▸hb)
theorem dQ.pos{D:aA}{w:World}(h:dQ D w):0<w.heap.size:=by
 obtain⟨-, -,e,fz,h⟩:=h;exact(aJD.1 h).1
def cF:Obj→Prop
 |.cells _ _ z=>z=(0,0)
 |_=>True
def Q3(w:World):Os×Array (Nat×ByteArray):=(w.os,w.output)
structure H0 where
 arr:Array Obj
 env:Option (Os×Array (Nat×ByteArray))
abbrev H0.size(h:H0):Nat:=h.arr.size
abbrev hd(w:World):H0:=⟨w.heap,some (Q3 w)⟩
structure fI(h0:H0)(lo:Nat)(D0:aA)(mods:List Nat)(μ:aC)(D:aA)(w:World):Prop where
 hlo:h0.size≤lo
 size:lo≤w.heap.size
 old:∀b,b<h0.size→b∉mods→w.heap[b]?= h0.arr[b]?
 dold:∀b,b<h0.size→D b=D0 b
 agr:dQ D w
 box:∀p∈μ,w.heap[p.1]?= some p.2∧D p.1=[]∧(lo≤p.1∨p.1∈mods)
 nd:(μ.map (·.1)).Nodup
 fz:∀p∈μ,cF p.2
 env:∀e,h0.env=some e→Q3 w=e
def sJ(lo:Nat)(D:aA)(w:World):Prop:=dQ D w∧lo≤w.heap.size
theorem fI.dom{h0:H0}{lo:Nat}{D0:aA}{mods:List Nat}{μ:aC}{D:aA}{w:World}(h:fI h0 lo D0 mods μ D w):sJ lo D w:=⟨h.agr,h.size⟩
def OX(β:List Nat)(D:aA)(w:World)(D':aA)(w':World):Prop:=w.heap.size≤w'.heap.size∧(∀b,b<w.heap.size→b∉β→w'.heap[b]?= w.heap[b]?∧D' b=D b)∧Q3 w'=Q3 w
theorem OX.refl(β:List Nat)(D:aA)(w:World):OX β D w D w:=⟨aGW _,fun _ _ _=>⟨rfl,rfl⟩,rfl⟩
structure vI(lo:Nat)(J:List Nat→aA→World→Prop):Prop where
 low:∀β D w D' w',J β D w→OX β D w D' w'→sJ lo D' w'→J β D' w'
 own:∀β β' D w,J β D w→(∀b∈β',b∈β∨w.heap.size≤b)→J β' D w
structure Cx where
 r:Option Nat
 N:Nat
 ds:List Deferred
 h0:H0
 lo:Nat
 D0:aA
 mods:List Nat
 ex:Option (List Nat→aA→World→Prop)
def uF(X:Cx)(μ:aC)(D:aA)(w:World):Prop:=
 match X.ex with
 |none=>True
 |some J=>vI X.lo J∧J (μ.map (·.1)) D w
theorem uF.step{X:Cx}{μ μ':aC}{D D':aA}{w w':World}(h:uF X μ D w)(hk:X.ex≠none→∀p∈μ',p.1∈μ.map (·.1)∨w.heap.size≤p.1)(hl:X.ex≠none→OX (μ.map (·.1)) D w D' w')(hd:sJ X.lo D' w'):uF X μ' D' w':=by
 unfold uF at *;cases hx:X.ex with
 |none=>trivial
 |some J=>
  rw[hx]at h;have hne:X.ex≠none:=by simp[hx]
  refine⟨h.1,?_⟩;have h1:=h.1.own _ (μ'.map (·.1)++μ.map (·.1)) D w h.2 (fun b hb=>by
   rcases aGP.1 hb with hb|hb
   ·obtain⟨p,hp,rfl⟩:=aGA.1 hb;exact hk hne p hp
   ·exact aGR hb)
  have h2:=h.1.low _ D w D' w' h1 ⟨(hl hne).1,fun b hb hn=>(hl hne).2.1 b hb (fun hm=>hn (aFZ _ hm)),(hl hne).2.2⟩ hd;exact h.1.own _ _ D' w' h2 (fun b hb=>aGR (aGI _ hb))
def Hl(X:Cx)(σ:bQ)(μ:aC)(Ds:List aA)(a:Act)(w:World):Prop:=
 a.tmps.size=X.N∧(∀s v,look σ s=some v→a.tmps[s]?= some v)∧a.defers=X.ds∧∃D,fI X.h0 X.lo X.D0 X.mods μ D w∧(∀D₁∈Ds,Le D₁ D)∧uF X μ D w
def WL(P:Program)(X:Cx){γb:Type}[Membership Nat γb](bad:γb)(all:Array Oper)(K:Act→World→Prop)(Q:Exit→Act→World→Prop)(os:List (Bool×Nat))(σ:bQ)(μ:aC)(Ds:List aA):Prop:=
 ∀a w,Hl X σ μ Ds a w→mH X.r bad P all K Q (eN all os) a w
def WC(P:Program)(X:Cx)(Q:Exit→Act→World→Prop)(c:Code)(σ:bQ)(μ:aC)(Ds:List aA):Prop:=
 ∀a w,Hl X σ μ Ds a w→c.wpIn (FW X.r) 0 P Q a w
variable{P:Program}{X:Cx}{γb:Type}[Membership Nat γb]{bad:γb}{all:Array Oper}{K:Act→World→Prop}{Q:Exit→Act→World→Prop}
variable{σ:bQ}{μ:aC}{Ds:List aA}{os:List (Bool×Nat)}{fl:Bool}{ix:Nat}
theorem Hl.eval{a:Act}{w:World}(h:Hl X σ μ Ds a w){x:Operand}{v:Value}(hx:ev σ x=some v):a.eval x=v:=by
 cases x with
 |tmp t=>
  have:=h.2.1 t v hx;show a.tmps.getD t undef=v;rw[aHY,this];rfl
 |const v=>exact aHC hx
 |global g=>exact aHC hx
 |func f=>exact aHC hx
theorem Hl.put{a:Act}{w:World}(h:Hl X σ μ Ds a w){d:Nat}(hd:Nat.blt d X.N=true)(v:Value):Hl X ((d,v)::σ) μ Ds (a.put (some d) v) w:=by
 have hd':d<X.N:=by simpa [Nat.blt_eq]using hd
 refine⟨by simpa [Act.put]using h.1,fun s u hs=>?_,h.2.2.1,h.2.2.2⟩;simp only[look]at hs;simp only[Act.put];cases hb:Nat.beq d s with
 |true=>
  rw[hb]at hs;obtain rfl:=aHQ hb;cases hs;rw[Array.getElem?_setIfInBounds_self_of_lt (by rw[h.1];exact hd')]
 |false=>
  rw[hb]at hs;rw[aIS (fun e=>by subst e;simp at hb)]
  exact h.2.1 s u hs
def m7:bQ→bQ→Prop
 |_,[]=>True
 |σ,(k,v)::r=>look σ k=some v∧m7 σ r
theorem m7.look{σ σ':bQ}(h:m7 σ σ'){s:Nat}{v:Value}(hv:look σ' s=some v):look σ s=some v:=by
 induction σ' with
 |nil=>cases hv
 |cons p r ih=>
  obtain⟨k,u⟩:=p;simp only[Fs.look]at hv;cases hb:Nat.beq k s with
  |true=>rw[hb]at hv;cases hv;obtain rfl:=aHQ hb;exact h.1
  |false=>rw[hb]at hv;exact ih h.2 hv
theorem fI.sub{h0:H0}{lo:Nat}{D0:aA}{mods:List Nat}{μ μ':aC}{D:aA}{w:World}(h:fI h0 lo D0 mods μ D w)(hs:∀p∈μ',p∈μ)(hn:(μ'.map (·.1)).Nodup):fI h0 lo D0 mods μ' D w:=
 ⟨h.hlo,h.size,h.old,h.dold,h.agr,fun p hp=>h.box p (hs p hp),hn,fun p hp=>h.fz p (hs p hp),h.env⟩
theorem Hl.weak{σ':bQ}{μ':aC}{Ds':List aA}{a:Act}{w:World}(h:Hl X σ μ Ds a w)(hσ:m7 σ σ')(hμ:μ'.Sublist μ)(hD:∀D∈Ds',∃D'∈Ds,Le D D'):Hl X σ' μ' Ds' a w:=by
 obtain⟨h1,h2,h3,D,h4,h5,h6⟩:=h;refine⟨h1,fun s v hv=>h2 s v (hσ.look hv),h3,D,h4.sub (fun p hp=>hμ.mem hp) ((hμ.map (·.1)).nodup h4.nd),fun D₁ hD₁=>?_,h6.step (fun _ p hp=>aGR (aGA.2 ⟨p,hμ.mem hp,rfl⟩)) (fun _=>OX.refl _ _ _) h4.dom⟩;obtain⟨D₂,hm,hle⟩:=hD D₁ hD₁;exact hle.trans (h5 D₂ hm)
theorem m7.app{σ σ1 σ2:bQ}(h1:m7 σ σ1)(h2:m7 σ σ2):m7 σ (σ1++σ2):=by
 induction σ1 with
 |nil=>exact h2
 |cons p r ih=>exact⟨h1.1,ih h1.2⟩
theorem zV{σ1 σ2:bQ}{s:Nat}{v:Value}(h:look (σ1++σ2) s=some v):look σ1 s=some v∨look σ2 s=some v:=by
 induction σ1 with
 |nil=>exact aGH h
 |cons p r ih=>
  obtain⟨k,u⟩:=p;simp only[aIN,look]at h ⊢
  cases hb:Nat.beq k s with
  |true=>rw[hb]at h;exact aGR h
  |false=>rw[hb]at h;exact ih h

def NP(Q:Exit→Act→World→Prop):Prop:=∀c a w,¬Q (.panic c) a w
theorem NP.pi(h:NP Q):PI Q:=fun c a _ w _ hq=>absurd hq (h c a w)
theorem aL{x y:Code}(h:WC P X (Exit.then (y.wpIn (FW X.r) 0 P Q) Q) x σ μ Ds):WC P X Q (.seq x y) σ μ Ds:=
 fun a w hh=>wpIn_seq (h a w hh)
theorem bR(h:∀a w,Hl X σ μ Ds a w→Q .normal a w):WC P X Q .skip σ μ Ds:=fun a w hh=>wpIn_skip (h a w hh)
theorem aR{id:Nat}(h:∀a w,Hl X σ μ Ds a w→Q (.exit id) a w):WC P X Q (.exit id) σ μ Ds:=fun a w hh=>wpIn_exit (h a w hh)
theorem H8(h:∀a w,Hl X σ μ Ds a w→Q .ret a w):WC P X Q .ret σ μ Ds:=fun a w hh=>wpIn_ret (h a w hh)
theorem CT{y:Code}(h:WC P X Q y σ μ Ds):∀a w,Hl X σ μ Ds a w→(Exit.then (y.wpIn (FW X.r) 0 P Q) Q) .normal a w:=h
theorem _root_.Go.Fs.Zag{y:Code}(h:WC P X Q y σ μ Ds):∀a w,Hl X σ μ Ds a w→(Exit.then (y.wpIn (FW X.r) 0 P Q) Q) .normal a w:=CT h
theorem aQ{c:Operand}{x y:Code}{b:Bool}(hc:ev σ c=some (.bool b))(ht:b=true→WC P X Q x σ μ Ds)(hf:b=false→WC P X Q y σ μ Ds):WC P X Q (.cond c x y) σ μ Ds:=
 fun a w hh=>wpIn_cond_split (hh.eval hc) (fun e=>ht e a w hh) (fun e=>hf e a w hh)
theorem YD{id:Nat}{c:Code}(h:WC P X (Exit.inBlock id Q) c σ μ Ds):WC P X Q (.block id c) σ μ Ds:=fun a w hh=>wpIn_block (h a w hh)
theorem _root_.Go.Fs.Zah{id:Nat}{c:Code}(h:WC P X (Exit.inBlock id Q) c σ μ Ds):WC P X Q (.block id c) σ μ Ds:=YD h
theorem Z6{id:Nat}{a:Act}{w:World}(h:Q .normal a w):Exit.inBlock id Q (.exit id) a w:=by simp[Exit.inBlock,h]
theorem S3{id id':Nat}(hne:Nat.beq id' id=false){a:Act}{w:World}(h:Q (.exit id') a w):Exit.inBlock id Q (.exit id') a w:=by
 have:id'≠id:=fun e=>by subst e;simp at hne
 simp[Exit.inBlock,this,h]
theorem UA(is:List (Bool×Nat)){id:Nat}{ops:Array Oper}(hi:is=(List.range ops.size).map fun i=>(false,i))(h:WL P X [] ops (fun a w=>Q .normal a w) Q is σ μ Ds):WC P X Q (.region id ops false) σ μ Ds:=
 fun a w hh=>QW (by rw[VP,←hi];exact h a w hh)
theorem C.rg{id:Nat}{ops:Array Oper}(h:WL P X [] ops (fun a w=>Q .normal a w) Q ((List.range ops.size).map fun i=>(false,i)) σ μ Ds):WC P X Q (.region id ops false) σ μ Ds:=UA _ rfl h
theorem C.rs{p:Prop}(h:p:=by repeat (first|exact trivial|refine⟨rfl,?_⟩)):p:=h
theorem C.fo{Q:Program}(h:Q.follows .mixedOrders=true:=by exact Tf.follows):Q.follows .mixedOrders=true:=h
theorem C.ge{α:Type}(l:List α)(i:Nat)(h:i<l.length:=by omega):∃x,l[i]?= some x:=⟨_,aGF h⟩
theorem Hl.drew{a:Act}{w:World}(h:Hl X σ μ Ds a w):Hl X σ μ Ds a {w with drawn:=w.drawn+1}:=by
 obtain⟨h1,h2,h3,D,h4,h5,h6⟩:=h;exact⟨h1,h2,h3,D,⟨h4.hlo,h4.size,h4.old,h4.dold,h4.agr,h4.box,h4.nd,h4.fz,h4.env⟩,h5,h6.step (fun _ p hp=>aGR (aGA.2 ⟨p,hp,rfl⟩)) (fun _=>⟨aGW _,fun _ _ _=>⟨rfl,rfl⟩,rfl⟩) h4.dom⟩
theorem d9{γb:Type}[Membership Nat γb](bad:γb)(n:Nat)(c:List Nat)(bits:List Bool)(is:List (Bool×Nat)){id:Nat}{ops:Array Oper}(hm:P.follows .mixedOrders=true)(hQ:PI Q)(hc:(T7 ops n c&&(vA ops n [] c==bits))=true)(hi:is=bits.zip c)
  (h:WL P X bad ops (fun a w=>Q .normal a w) Q is σ μ Ds):WC P X Q (.region id ops true) σ μ Ds:=by
 rw[aGO]at hc;intro a w hh;refine YA (bad:=bad) hm hc.1 hQ ?_;rw[W9,eq_of_beq hc.2,←hi];exact h a _ hh.drew
theorem iS{γb:Type}[Membership Nat γb](bad:γb)(n:Nat)(c:List Nat)(bits:List Bool)(is:List (Bool×Nat)){id:Nat}{ops:Array Oper}(hm:P.follows .mixedOrders=true)(hQ:NP Q)(hc:(T7 ops n c&&(vA ops n [] c==bits))=true)(hi:is=bits.zip c)
    (h:WL P X bad ops (fun a w=>Q .normal a w) Q is σ μ Ds):WC P X Q (.region id ops true) σ μ Ds:=d9 bad n c bits is hm hQ.pi hc hi h
theorem C.zm(f:Nat→Bool):∀l:List Nat,(l.map f).zip l=l.map fun i=>(f i,i)
 | []=>rfl
 |a::l=>by rw[aHB,aLB,C.zm f l];rfl
def C.ms(n m:Nat):List (Bool×Nat):=(List.range n).map fun i=>(Nat.testBit m i,i)
theorem C.drawPA{γb:Type}[Membership Nat γb](bad:γb)(n k m:Nat){id:Nat}{ops:Array Oper}(hQ:PI Q)(h:WL P X bad ops (fun a w=>Q .normal a w) Q (C.ms k m) σ μ Ds)(hc:(T7 ops n (List.range k)&&(vA ops n [] (List.range k)==(List.range k).map fun i=>Nat.testBit m i))=true:=by kernel_rfl)(hm:P.follows .mixedOrders=true:=by exact Tf.follows):WC P X Q (.region id ops true) σ μ Ds:=
 d9 bad n _ _ _ hm hQ hc (C.zm _ _).symm h
theorem C.drawA{γb:Type}[Membership Nat γb](bad:γb)(n k m:Nat){id:Nat}{ops:Array Oper}(hQ:NP Q)(h:WL P X bad ops (fun a w=>Q .normal a w) Q (C.ms k m) σ μ Ds)(hc:(T7 ops n (List.range k)&&(vA ops n [] (List.range k)==(List.range k).map fun i=>Nat.testBit m i))=true:=by kernel_rfl)(hm:P.follows .mixedOrders=true:=by exact Tf.follows):WC P X Q (.region id ops true) σ μ Ds:=C.drawPA bad n k m hQ.pi h hc hm
def WS(P:Program)(X:Cx){γb:Type}[Membership Nat γb](bad:γb)(all:Array Oper)(fls:List Bool)(K:Act→World→Prop)(Q:Exit→Act→World→Prop)(segs:List fG)(σ:bQ)(μ:aC)(Ds:List aA):Prop:=
 ∀a w,Hl X σ μ Ds a w→g7 X.r bad P all fls Q K segs a w
def WP(P:Program)(X:Cx){γb:Type}[Membership Nat γb](bad:γb)(all:Array Oper)(fls:List Bool)(kont:Act→World→Prop)(Q:Exit→Act→World→Prop)(pl:fG)(σ:bQ)(μ:aC)(Ds:List aA):Prop:=
 ∀a w,Hl X σ μ Ds a w→qO X.r bad P all fls Q kont pl a w
theorem PH{γb:Type}[Membership Nat γb](bad:γb)(n:Nat)(fls:List Bool)(segs:List fG){id:Nat}{ops:Array Oper}(hm:P.follows .mixedOrders=true)(hQ:PI Q)(hc:(lJ ops n fls [] segs&&segs.all fun pl=>oV ops.size pl)=true)
  (h:WS P X bad ops fls (fun a w=>Q .normal a w) Q segs σ μ Ds):WC P X Q (.region id ops true) σ μ Ds:=by
 intro a w hh;exact PL (bad:=bad) hm hc hQ (h a _ hh.drew)
theorem kK{γb:Type}[Membership Nat γb](bad:γb)(n:Nat)(fls:List Bool)(segs:List fG){id:Nat}{ops:Array Oper}(hm:P.follows .mixedOrders=true)(hQ:NP Q)(hc:(lJ ops n fls [] segs&&segs.all fun pl=>oV ops.size pl)=true)
  (h:WS P X bad ops fls (fun a w=>Q .normal a w) Q segs σ μ Ds):WC P X Q (.region id ops true) σ μ Ds:=PH bad n fls segs hm hQ.pi hc h
section segments
variable{fls:List Bool}{kont:Act→World→Prop}
theorem kE(h:∀a w,Hl X σ μ Ds a w→K a w):WS P X bad all fls K Q [] σ μ Ds:=h
theorem kW{c:List Nat}{segs:List fG}(is:List (Bool×Nat))(hi:is=c.map fun i=>(fls.getD i false,i))(h:WL P X bad all (fun a w=>g7 X.r bad P all fls Q K segs a w) Q is σ μ Ds):WS P X bad all fls K Q (.fin c::segs) σ μ Ds:=by
 subst hi;exact h
theorem nE{pl:fG}{segs:List fG}(h:WP P X bad all fls (fun a w=>g7 X.r bad P all fls Q K segs a w) Q pl σ μ Ds):WS P X bad all fls K Q (pl::segs) σ μ Ds:=h
theorem aP{c:List Nat}(is:List (Bool×Nat))(hi:is=c.map fun i=>(fls.getD i false,i))(h:WL P X bad all kont Q is σ μ Ds):WP P X bad all fls kont Q (.fin c) σ μ Ds:=by
 subst hi;exact h
theorem bE{d:List Nat}{p q:Nat}{A B:fG}(is:List (Bool×Nat))(hi:is=d.map fun i=>(fls.getD i false,i))
  (h:WL P X bad all (fun a w=>mH X.r bad P all (qO X.r bad P all fls Q kont A) Q (eN all [(fls.getD p false,p)]) a w∧mH X.r bad P all (qO X.r bad P all fls Q kont B) Q (eN all [(fls.getD q false,q)]) a w) Q is σ μ Ds):WP P X bad all fls kont Q (.fork d p A q B) σ μ Ds:=by
 subst hi;exact h
theorem cX{p q:Nat}{A B:fG}(bp bq:Bool)(hp:fls.getD p false=bp)(hq:fls.getD q false=bq)(h1:WL P X bad all (fun a w=>qO X.r bad P all fls Q kont A a w) Q [(bp,p)] σ μ Ds)(h2:WL P X bad all (fun a w=>qO X.r bad P all fls Q kont B a w) Q [(bq,q)] σ μ Ds):
  ∀a w,Hl X σ μ Ds a w→mH X.r bad P all (qO X.r bad P all fls Q kont A) Q (eN all [(fls.getD p false,p)]) a w∧mH X.r bad P all (qO X.r bad P all fls Q kont B) Q (eN all [(fls.getD q false,q)]) a w:=fun a w hh=>by
 subst hp hq;exact⟨h1 a w hh,h2 a w hh⟩
theorem lX{d:List Nat}{p:Nat}{ps:List Nat}{A:Nat→fG}(is:List (Bool×Nat))(hi:is=d.map fun i=>(fls.getD i false,i))
  (h:WL P X bad all (fun a w=>∀i∈p::ps,mH X.r bad P all (qO X.r bad P all fls Q kont (A i)) Q (eN all [(fls.getD i false,i)]) a w) Q is σ μ Ds):WP P X bad all fls kont Q (.forkN d p ps A) σ μ Ds:=by
 subst hi;exact h
theorem rU{A:Nat→fG}:∀a w,Hl X σ μ Ds a w→∀i∈([]:List Nat),mH X.r bad P all (qO X.r bad P all fls Q kont (A i)) Q (eN all [(fls.getD i false,i)]) a w:=fun _ _ _ _ h=>by cases h
theorem eH{A:Nat→fG}{p:Nat}{ps:List Nat}(b:Bool){B:fG}(hb:fls.getD p false=b)(hB:A p=B)(h1:WL P X bad all (fun a w=>qO X.r bad P all fls Q kont B a w) Q [(b,p)] σ μ Ds)
  (h2:∀a w,Hl X σ μ Ds a w→∀i∈ps,mH X.r bad P all (qO X.r bad P all fls Q kont (A i)) Q (eN all [(fls.getD i false,i)]) a w):
  ∀a w,Hl X σ μ Ds a w→∀i∈p::ps,mH X.r bad P all (qO X.r bad P all fls Q kont (A i)) Q (eN all [(fls.getD i false,i)]) a w:=fun a w hh i hi=>by
 rcases aGB.1 hi with rfl|hi
 ·rw[hb,hB];exact h1 a w hh
 ·exact h2 a w hh i hi
end segments
def G2:List (Nat×fG)→Nat→fG
 | [],_=>.fin []
 |(j,pl)::l,i=>bif Nat.beq i j then pl else G2 l i
theorem aBK{γ:Type}{c:Code}(m:γ→Nat)(I:γ→Prop)(S:γ→bQ)(M:γ→aC)(E:γ→List aA)(g₀:γ)(h₀:I g₀)(hσ:m7 σ (S g₀))(hμ:(M g₀).Sublist μ)(hD:∀D∈E g₀,∃D'∈Ds,Le D D')
  (round:∀g,I g→WC P X (Exit.then (fun a w=>∃g',I g'∧m g'<m g∧Hl X (S g') (M g') (E g') a w) Q) c (S g) (M g) (E g)):WC P X Q (.loop c) σ μ Ds:=by
 let p:Act→World→Nat→Prop:=fun a w n=>∃g,I g∧m g=n∧Hl X (S g) (M g) (E g) a w
 have ex:∀a w,(∃n,p a w n)→∃n,p a w n∧∀k,p a w k→n≤k:=by
  intro a w ⟨n,hn⟩;induction n using Nat.strongRecOn with
  |_ n ih=>
   by_cases h:∃k,k<n∧p a w k
   ·obtain⟨k,hk,hp⟩:=h;exact ih k hk hp
   ·exact⟨n,hn,fun k hk=>Nat.le_of_not_lt fun hl=>h ⟨k,hl,hk⟩⟩
 intro a w hh;refine wpIn_loop (fun a w=>∃n,p a w n) (fun a w=>open Classical in if h:∃n,p a w n then(ex a w h).choose else 0) ⟨_,g₀,h₀,rfl,hh.weak hσ hμ hD⟩ ?_;intro a w hI;obtain⟨⟨g,hg,hm,hst⟩,hmin⟩:=(ex a w hI).choose_spec;refine wpIn_mono (round g hg a w hst) fun e a' w' hq=>?_
 cases e with
 |normal=>
  obtain⟨g',hg',hlt,hst'⟩:=hq;have hI':∃n,p a' w' n:=⟨_,g',hg',rfl,hst'⟩
  refine⟨hI',?_⟩;simp only[dif_pos hI',dif_pos hI];have:=(ex a' w' hI').choose_spec.2 _ ⟨g',hg',rfl,hst'⟩;omega
 |_=>exact hq

def cS(all:Array Oper)(σ:bQ):Option (Nat×Bool)→Prop
 |none=>True
 |some (j,want)=>∃s,(all[j]?).bind (·.dst)=some s∧look σ s=some (.bool want)
def aFW(all:Array Oper)(σ:bQ):Option (Nat×Bool)→Prop
 |none=>False
 |some (j,want)=>∃s v,(all[j]?).bind (·.dst)=some s∧look σ s=some v∧(match v with|.bool b=>Bool.xor b want|_=>true)=true
theorem Hl.wanted{a:Act}{w:World}(h:Hl X σ μ Ds a w){o:Oper}(hg:cS all σ o.guard):Region.wanted o (yielded all a.tmps)=true:=by
 unfold Region.wanted;cases hgd:o.guard with
 |none=>rfl
 |some p=>
  obtain⟨j,want⟩:=p;rw[hgd]at hg;obtain⟨s,hs,hl⟩:=hg;simp[yielded,hs,h.2.1 s _ hl]
theorem Hl.unwanted{a:Act}{w:World}(h:Hl X σ μ Ds a w){o:Oper}(hg:aFW all σ o.guard):Region.wanted o (yielded all a.tmps)=false:=by
 unfold Region.wanted;cases hgd:o.guard with
 |none=>rw[hgd]at hg;exact hg.elim
 |some p=>
  obtain⟨j,want⟩:=p;rw[hgd]at hg;obtain⟨s,v,hs,hl,hv⟩:=hg;have hy:yielded all a.tmps j=(match v with|.bool b=>some b|_=>none):=by
   simp only[yielded,hs,Option.bind_some,h.2.1 s _ hl];cases v<;>rfl
  simp only[hy];cases v with
  |bool b=>cases b<;>cases want<;>first|rfl|(simp at hv)
  |_=>rfl
theorem zS(h:∀a w,Hl X σ μ Ds a w→K a w):WL P X bad all K Q [] σ μ Ds:=fun a w hh=>h a w hh
theorem _root_.Go.Fs.Zz(h:∀a w,Hl X σ μ Ds a w→K a w):WL P X bad all K Q [] σ μ Ds:=zS h
theorem nP{o:Oper}(ho:all[ix]?= some o):eN all ((fl,ix)::os)=(fl,o)::eN all os:=by simp[eN,ho]
theorem jA{o:Oper}{d:Nat}{v:Value}(ho:all[ix]?= some o)(hq:gO o.op=true)(hd:o.dst=some d)(hN:Nat.blt d X.N=true)(hg:cS all σ o.guard)
  (hv:∀a w,Hl X σ μ Ds a w→∀w',jI bad w w'→(execOp a.eval o).run P w'=.ok (.value v) w') (k:WL P X bad all K Q os ((d,v)::σ) μ Ds):WL P X bad all K Q ((fl,ix)::os) σ μ Ds:=by
 intro a w hh;rw[nP ho];simp only[mH,hq,aII];refine⟨v,aGR ⟨hh.wanted hg,hv a w hh⟩,?_⟩;rw[hd];exact k _ _ (hh.put hN v)
theorem bH{o:Oper}{d:Nat}{v:Value}(ho:all[ix]?= some o)(hq:gO o.op=true)(hd:o.dst=some d)(hN:Nat.blt d X.N=true)(hg:cS all σ o.guard)
  (hv:∀ρ:Operand→Value,(∀x u,ev σ x=some u→ρ x=u)→∀w',(execOp ρ o).run P w'=.ok (.value v) w') (k:WL P X bad all K Q os ((d,v)::σ) μ Ds):WL P X bad all K Q ((fl,ix)::os) σ μ Ds:=
 jA ho hq hd hN hg (fun a _ hh w' _=>hv a.eval (fun _ _ hx=>hh.eval hx) w') k
theorem aBF{o:Oper}{d:Nat}(ho:all[ix]?= some o)(hd:o.dst=some d)(hN:Nat.blt d X.N=true)(hg:aFW all σ o.guard)(k:WL P X bad all K Q os ((d,undef)::σ) μ Ds):WL P X bad all K Q ((fl,ix)::os) σ μ Ds:=by
 intro a w hh;rw[nP ho];simp only[mH];split
 ·refine⟨undef,aGH ⟨hh.unwanted hg,rfl⟩,?_⟩;rw[hd];exact k _ _ (hh.put hN _)
 ·unfold uE;rw[aGQ (by rw[hh.unwanted hg];simp),hd]
  exact k _ _ (hh.put hN _)
theorem _root_.Go.Fs.Zk{o:Oper}{d:Nat}(e9:(all[ix]?,o.dst)=(some o,some d))(k:WL P X bad all K Q os ((d,undef)::σ) μ Ds)(hN:Nat.blt d X.N=true:=by exact rfl)(hg:aFW all σ o.guard:=by exact⟨_,_,rfl,rfl,rfl⟩):WL P X bad all K Q ((fl,ix)::os) σ μ Ds:=aBF (aGV (fun z=>z.1) e9) (aGV (fun z=>z.2) e9) hN hg k
theorem lB{K':Act→World→Prop}:∀(xs ys:List (Bool×Oper)) (a:Act) (w:World),mH X.r bad P all (fun a w=>K' a w) Q xs a w→(∀a w,K' a w→mH X.r bad P all K Q ys a w)→mH X.r bad P all K Q (xs++ys) a w
 | [],ys,a,w,h,hk=>hk a w h
 |(fl,o)::xs,ys,a,w,h,hk=>by
  simp only[aIN,mH]at h ⊢
  split at h
  ·rename_i hq;rw[aGX hq];obtain⟨v,hy,h⟩:=h;exact⟨v,hy,lB xs ys _ _ h hk⟩
  ·rename_i hq;rw[aGQ hq];exact h.mono fun a w hh=>lB xs ys a w hh hk
theorem WL.append{K':Act→World→Prop}{xs ys:List (Bool×Nat)}{a:Act}{w:World}(h:mH X.r bad P all (fun a w=>K' a w) Q (eN all xs) a w)(hk:∀a w,K' a w→mH X.r bad P all K Q (eN all ys) a w):
  mH X.r bad P all K Q (eN all (xs++ys)) a w:=by
 rw[eN,aGS];exact lB _ _ a w h hk
theorem V0(xs ys:List (Bool×Nat)){s p:Nat}{b c want:Bool}(ho:os=xs++ys)(hs:look σ s=some (.bool b))
  (hyes:b=want→WL P X bad all (fun a w=>Hl X ((p,.bool c)::(s,.bool want)::σ) μ Ds a w) Q xs ((s,.bool want)::σ) μ Ds)
  (hno:b= !want→WL P X bad all (fun a w=>Hl X ((p,.bool (!want))::(s,.bool (!want))::σ) μ Ds a w) Q xs ((s,.bool (!want))::σ) μ Ds)
  (k:WL P X bad all K Q ys ((p,.bool (bif want then b&&c else b||c))::σ) μ Ds):WL P X bad all K Q os σ μ Ds:=by
 have hsub:∀u,Value.bool b=u→∀a w,Hl X σ μ Ds a w→Hl X ((s,u)::σ) μ Ds a w:=by
  rintro _ rfl a w ⟨h1,h2,h3⟩;refine⟨h1,fun t v ht=>?_,h3⟩;simp only[look]at ht;cases hb:Nat.beq s t with
  |true=>rw[hb]at ht;cases ht;obtain rfl:=aHQ hb;exact h2 _ _ hs
  |false=>rw[hb]at ht;exact h2 _ _ ht
 have hback:∀u v,Value.bool b=u→∀a w,Hl X ((p,v)::(s,u)::σ) μ Ds a w→Hl X ((p,v)::σ) μ Ds a w:=by
  rintro _ v rfl a w ⟨h1,h2,h3⟩;refine⟨h1,fun t v' ht=>?_,h3⟩;refine h2 t v' ?_;simp only[look]at ht ⊢
  cases hp:Nat.beq p t with
  |true=>rw[hp]at ht;exact ht
  |false=>
   rw[hp]at ht;cases hb:Nat.beq s t with
   |true=>obtain rfl:=aHQ hb;rw[←ht,hs]
   |false=>exact ht
 subst ho;intro a w hh;have kk:∀v,v=Value.bool (bif want then b&&c else b||c)→∀a w,Hl X ((p,v)::σ) μ Ds a w→mH X.r bad P all K Q (eN all ys) a w:=by rintro _ rfl a w h;exact k a w h
 cases b<;>cases want
 ·exact WL.append (hyes rfl a w (hsub _ rfl a w hh)) fun a w h=>kk _ rfl a w (hback _ _ rfl a w h)
 ·exact WL.append (hno rfl a w (hsub _ rfl a w hh)) fun a w h=>kk _ rfl a w (hback _ _ rfl a w h)
 ·exact WL.append (hno rfl a w (hsub _ rfl a w hh)) fun a w h=>kk _ rfl a w (hback _ _ rfl a w h)
 ·exact WL.append (hyes rfl a w (hsub _ rfl a w hh)) fun a w h=>kk _ rfl a w (hback _ _ rfl a w h)
theorem L.anK(k:Nat){s p:Nat}{b c:Bool}(hs:look σ s=some (.bool b))
 (hyes:b=true→WL P X bad all (fun a w=>Hl X ((p,.bool c)::(s,.bool true)::σ) μ Ds a w) Q (os.take k) ((s,.bool true)::σ) μ Ds)
 (hno:b=false→WL P X bad all (fun a w=>Hl X ((p,.bool false)::(s,.bool false)::σ) μ Ds a w) Q (os.take k) ((s,.bool false)::σ) μ Ds)
 (kk:WL P X bad all K Q (os.drop k) ((p,.bool (b&&c))::σ) μ Ds):WL P X bad all K Q os σ μ Ds:=V0 (os.take k) (os.drop k) (want:=true) (aIM k os).symm hs hyes hno kk
theorem L.orK(k:Nat){s p:Nat}{b c:Bool}(hs:look σ s=some (.bool b))
 (hyes:b=false→WL P X bad all (fun a w=>Hl X ((p,.bool c)::(s,.bool false)::σ) μ Ds a w) Q (os.take k) ((s,.bool false)::σ) μ Ds)
 (hno:b=true→WL P X bad all (fun a w=>Hl X ((p,.bool true)::(s,.bool true)::σ) μ Ds a w) Q (os.take k) ((s,.bool true)::σ) μ Ds)
 (kk:WL P X bad all K Q (os.drop k) ((p,.bool (b||c))::σ) μ Ds):WL P X bad all K Q os σ μ Ds:=V0 (os.take k) (os.drop k) (want:=false) (aIM k os).symm hs hyes hno kk
theorem tW{fls:List Bool}{k1 k2:Act→World→Prop}(hk:∀a w,k1 a w→k2 a w):∀(pl:fG) (a:Act) (w:World),qO X.r bad P all fls Q k1 pl a w→qO X.r bad P all fls Q k2 pl a w
 |.fin c,a,w,h=>by
  have:=lB (X:=X) (K':=k1) _ [] a w h (fun a w h=>hk a w h);rw[aGG]at this;exact this
 |.fork d p A q B,a,w,h=>by
  have one:∀(xs:List (Bool×Oper)) (K1 K2:Act→World→Prop) (a:Act) (w:World),mH X.r bad P all K1 Q xs a w→(∀a w,K1 a w→K2 a w)→mH X.r bad P all K2 Q xs a w:=fun xs K1 K2 a w h hh=>by
   have:=lB (X:=X) (K':=K1) xs [] a w h (fun a w h=>hh a w h);rw[aGG]at this;exact this
  exact one _ _ _ a w h fun a w hh=>⟨one _ _ _ a w hh.1 (tW hk A),one _ _ _ a w hh.2 (tW hk B)⟩
 |.forkN d p ps A,a,w,h=>by
  have one:∀(xs:List (Bool×Oper)) (K1 K2:Act→World→Prop) (a:Act) (w:World),mH X.r bad P all K1 Q xs a w→(∀a w,K1 a w→K2 a w)→mH X.r bad P all K2 Q xs a w:=fun xs K1 K2 a w h hh=>by
   have:=lB (X:=X) (K':=K1) xs [] a w h (fun a w h=>hh a w h);rw[aGG]at this;exact this
  exact one _ _ _ a w h fun a w hh i hi=>one _ _ _ a w (hh i hi) (tW hk (A i))
theorem zQ{fls:List Bool}{K':Act→World→Prop}:∀(xs ys:List fG) (a:Act) (w:World),g7 X.r bad P all fls Q K' xs a w→(∀a w,K' a w→g7 X.r bad P all fls Q K ys a w)→g7 X.r bad P all fls Q K (xs++ys) a w
 | [],_,a,w,h,hk=>hk a w h
 |x::xs,ys,a,w,h,hk=>tW (fun a w h=>zQ xs ys a w h hk) x a w h
theorem C4{fls:List Bool}{γ:Type}(I:γ→Prop)(S:γ→bQ)(M:γ→aC)(E:γ→List aA)(xs ys:List fG){segs:List fG}(ho:segs=xs++ys)(h1:WS P X bad all fls (fun a w=>∃g,I g∧Hl X (S g) (M g) (E g) a w) Q xs σ μ Ds)
  (h2:∀g,I g→WS P X bad all fls K Q ys (S g) (M g) (E g)):WS P X bad all fls K Q segs σ μ Ds:=by
 subst ho;intro a w hh;exact zQ xs ys a w (h1 a w hh) fun a w ⟨g,hg,h⟩=>h2 g hg a w h
def uY:Nat→bQ→Bool
 |0,_=>true
 |_,[]=>true
 |n+1,(k,_)::r=>(match look (r.drop n) k with|none=>true|some _=>false)&&uY n r
theorem uB:∀(n:Nat) (σ:bQ),uY n σ=true→∀s v,look (σ.drop n) s=some v→look σ s=some v
 |0,σ,_,s,v,h=>h
 |n+1,[],_,s,v,h=>h
 |n+1,(k,u)::r,hd,s,v,h=>by
  simp only[uY,aGO]at hd;simp only[aKZ]at h;have h2:=uB n r hd.2 s v h;simp only[look];cases hb:Nat.beq k s with
  |false=>exact h2
  |true=>
   obtain rfl:=aHQ hb;have:=hd.1;rw[h]at this;cases this
theorem Hl.cutK{p:Nat}{v:Value}{a:Act}{w:World}(n:Nat)(h:Hl X ((p,v)::σ) μ Ds a w)(hd:uY n σ=true):Hl X ((p,v)::σ.drop n) μ Ds a w:=by
 obtain⟨h1,h2,h3⟩:=h;refine⟨h1,fun s u hs=>h2 s u ?_,h3⟩;simp only[look]at hs ⊢
 cases hb:Nat.beq p s with
 |true=>rw[hb]at hs;exact hs
 |false=>rw[hb]at hs;exact uB n σ hd s u hs
theorem L.cu{p:Nat}{v:Value}(n:Nat)(hd:uY n σ=true:=by exact rfl):WL P X bad all (fun a w=>Hl X ((p,v)::σ.drop n) μ Ds a w) Q [] ((p,v)::σ) μ Ds:=zS fun _ _ hh=>hh.cutK n hd
theorem C.s1{z:Code}{id:Nat}{ops:Array Oper}(h:WL P X [] ops (fun a w=>(Exit.then (z.wpIn (FW X.r) 0 P Q) Q) .normal a w) (Exit.then (z.wpIn (FW X.r) 0 P Q) Q) ((List.range ops.size).map fun i=>(false,i)) σ μ Ds):WC P X Q (.seq (.region id ops false) z) σ μ Ds:=aL (C.rg h)
theorem C.s2{y z:Code}{id:Nat}{ops:Array Oper}(h:WL P X [] ops (fun a w=>(Exit.then (y.wpIn (FW X.r) 0 P (Exit.then (z.wpIn (FW X.r) 0 P Q) Q)) (Exit.then (z.wpIn (FW X.r) 0 P Q) Q)) .normal a w) (Exit.then (y.wpIn (FW X.r) 0 P (Exit.then (z.wpIn (FW X.r) 0 P Q) Q)) (Exit.then (z.wpIn (FW X.r) 0 P Q) Q)) ((List.range ops.size).map fun i=>(false,i)) σ μ Ds):WC P X Q (.seq (.seq (.region id ops false) y) z) σ μ Ds:=aL (C.s1 h)
theorem L.n1{y:Code}{R:Exit→Act→World→Prop}(h:WC P X Q y σ μ Ds):WL P X bad all (fun a w=>(Exit.then (y.wpIn (FW X.r) 0 P Q) Q) .normal a w) R [] σ μ Ds:=zS (CT h)
theorem L.n2{x y:Code}{R:Exit→Act→World→Prop}(h:WC P X (Exit.then (y.wpIn (FW X.r) 0 P Q) Q) x σ μ Ds):WL P X bad all (fun a w=>(Exit.then ((Code.seq x y).wpIn (FW X.r) 0 P Q) Q) .normal a w) R [] σ μ Ds:=L.n1 (aL h)
theorem L.n3{z:Code}{id:Nat}{ops:Array Oper}{R:Exit→Act→World→Prop}(h:WL P X [] ops (fun a w=>(Exit.then (z.wpIn (FW X.r) 0 P Q) Q) .normal a w) (Exit.then (z.wpIn (FW X.r) 0 P Q) Q) ((List.range ops.size).map fun i=>(false,i)) σ μ Ds):WL P X bad all (fun a w=>(Exit.then ((Code.seq (.region id ops false) z).wpIn (FW X.r) 0 P Q) Q) .normal a w) R [] σ μ Ds:=L.n1 (C.s1 h)
theorem L.n4{y z:Code}{id:Nat}{ops:Array Oper}{R:Exit→Act→World→Prop}(h:WL P X [] ops (fun a w=>(Exit.then (y.wpIn (FW X.r) 0 P (Exit.then (z.wpIn (FW X.r) 0 P Q) Q)) (Exit.then (z.wpIn (FW X.r) 0 P Q) Q)) .normal a w) (Exit.then (y.wpIn (FW X.r) 0 P (Exit.then (z.wpIn (FW X.r) 0 P Q) Q)) (Exit.then (z.wpIn (FW X.r) 0 P Q) Q)) ((List.range ops.size).map fun i=>(false,i)) σ μ Ds):WL P X bad all (fun a w=>(Exit.then ((Code.seq (.seq (.region id ops false) y) z).wpIn (FW X.r) 0 P Q) Q) .normal a w) R [] σ μ Ds:=L.n1 (C.s2 h)
theorem L.n5{R:Exit→Act→World→Prop}(h:∀a w,Hl X σ μ Ds a w→Q .ret a w):WL P X bad all (fun a w=>(Exit.then (Code.ret.wpIn (FW X.r) 0 P Q) Q) .normal a w) R [] σ μ Ds:=L.n1 (H8 h)
theorem C.kn{y:Code}(h:WC P X Q y σ μ Ds):WC P X (Exit.then (y.wpIn (FW X.r) 0 P Q) Q) .skip σ μ Ds:=bR (CT h)

theorem LU{k:Act→World→Prop}(h:∀a w,Hl X σ μ Ds a w→Q .ret a w):∀a w,Hl X σ μ Ds a w→Exit.then k Q .ret a w:=h
theorem _root_.Go.Fs.Zaj{k:Act→World→Prop}(h:∀a w,Hl X σ μ Ds a w→Q .ret a w):∀a w,Hl X σ μ Ds a w→Exit.then k Q .ret a w:=LU h
theorem DT{k:Act→World→Prop}{id:Nat}(h:∀a w,Hl X σ μ Ds a w→Q (.exit id) a w):∀a w,Hl X σ μ Ds a w→Exit.then k Q (.exit id) a w:=h
theorem _root_.Go.Fs.Zai{k:Act→World→Prop}{id:Nat}(h:∀a w,Hl X σ μ Ds a w→Q (.exit id) a w):∀a w,Hl X σ μ Ds a w→Exit.then k Q (.exit id) a w:=DT h
theorem aG{id:Nat}(h:∀a w,Hl X σ μ Ds a w→Q .ret a w):∀a w,Hl X σ μ Ds a w→Exit.inBlock id Q .ret a w:=h
theorem FH{id:Nat}(h:∀a w,Hl X σ μ Ds a w→Q .normal a w):∀a w,Hl X σ μ Ds a w→Exit.inBlock id Q .normal a w:=h
theorem _root_.Go.Fs.Zak{id:Nat}(h:∀a w,Hl X σ μ Ds a w→Q .normal a w):∀a w,Hl X σ μ Ds a w→Exit.inBlock id Q .normal a w:=FH h
theorem AF{id:Nat}(h:∀a w,Hl X σ μ Ds a w→Q .normal a w):∀a w,Hl X σ μ Ds a w→Exit.inBlock id Q (.exit id) a w:=fun a w hh=>Z6 (h a w hh)
theorem _root_.Go.Fs.Zal{id:Nat}(h:∀a w,Hl X σ μ Ds a w→Q .normal a w):∀a w,Hl X σ μ Ds a w→Exit.inBlock id Q (.exit id) a w:=AF h
theorem lQ{id id':Nat}(hne:Nat.beq id' id=false)(h:∀a w,Hl X σ μ Ds a w→Q (.exit id') a w):∀a w,Hl X σ μ Ds a w→Exit.inBlock id Q (.exit id') a w:=fun a w hh=>S3 hne (h a w hh)
theorem cJ{γ:Type}{c:Code}(m:γ→Nat)(I:γ→Prop)(ch:γ→bQ)(rest:bQ)(M:γ→aC)(E:γ→List aA)(g₀:γ)(h₀:I g₀)(hch:m7 σ (ch g₀))(hrest:m7 σ rest)(hμ:(M g₀).Sublist μ)(hD:∀D∈E g₀,∃D'∈Ds,Le D D')
  (round:∀g,I g→WC P X (Exit.then (fun a w=>∃g',I g'∧m g'<m g∧Hl X (ch g'++rest) (M g') (E g') a w) Q) c (ch g++rest) (M g) (E g)):WC P X Q (.loop c) σ μ Ds:=
 aBK m I (fun g=>ch g++rest) M E g₀ h₀ (m7.app hch hrest) hμ hD round
theorem cG{γ:Type}{c:Code}(m:γ→Nat)(I:γ→Prop)(ch:γ→bQ)(rest:bQ)(E:γ→List aA)(g₀:γ)(h₀:I g₀)(hch:m7 σ (ch g₀))(hrest:m7 σ rest)(hD:∀D∈E g₀,∃D'∈Ds,Le D D')
  (round:∀g,I g→WC P X (Exit.then (fun a w=>∃g',I g'∧m g'<m g∧Hl X (ch g'++rest) ((fun _=>μ) g') (E g') a w) Q) c (ch g++rest) μ (E g)):WC P X Q (.loop c) σ μ Ds:=
 cJ m I ch rest (fun _=>μ) E g₀ h₀ hch hrest (LT _) hD round
theorem aH{γ:Type}{m:γ→Nat}{I:γ→Prop}{ch:γ→bQ}{rest:bQ}{M:γ→aC}{E:γ→List aA}{g:γ}(n:Nat)(g':γ)(h1:I g')(h2:m g'<m g)(hch:m7 σ (ch g'))(hn:uY n σ=true)(hr:σ.drop n=rest)(hμ:(M g').Sublist μ)(hD:∀D∈E g',∃D'∈Ds,Le D D'):
  ∀a w,Hl X σ μ Ds a w→Exit.then (fun a w=>∃g',I g'∧m g'<m g∧Hl X (ch g'++rest) (M g') (E g') a w) Q .normal a w:=by
 intro a w hh;refine⟨g',h1,h2,?_⟩;have h3:=hh.weak (σ':=ch g') hch hμ hD;refine⟨h3.1,fun s v hs=>?_,h3.2.2⟩;rcases zV hs with hs|hs
 ·exact h3.2.1 s v hs
 ·subst hr;exact hh.2.1 s v (uB n σ hn s v hs)
theorem aD{Ds:List aA}:∀D∈Ds,∃D'∈Ds,Le D D':=fun D h=>⟨D,h,Le.refl D⟩
section ops
variable{d:Nat}{x y z:Operand}{u v:Value}{ty:TypeId}{pos:String}{aft:Array Edge}{g:Option (Nat×Bool)}
theorem QR(ho:all[ix]?= some ⟨some d,.move x,ty,pos,aft,g⟩)(hx:ev σ x=some v)(hN:Nat.blt d X.N=true)(hg:cS all σ g)(k:WL P X bad all K Q os ((d,v)::σ) μ Ds):WL P X bad all K Q ((fl,ix)::os) σ μ Ds:=
 bH ho rfl rfl hN hg (fun ρ hρ w'=>by simp[execOp,hρ x v hx,Pure.pure]) k
theorem _root_.Go.Fs.Za(e9:(all[ix]?,ev σ x)=(some ⟨some d,.move x,ty,pos,aft,g⟩,some v))(k:WL P X bad all K Q os ((d,v)::σ) μ Ds)(hN:Nat.blt d X.N=true:=by exact rfl)(hg:cS all σ g:=by exact aLJ):WL P X bad all K Q ((fl,ix)::os) σ μ Ds:=QR (aGV (fun z=>z.1) e9) (aGV (fun z=>z.2) e9) hN hg k
theorem _root_.Go.Fs.Zb(e9:(all[ix]?,ev σ x)=(some ⟨some d,.move x,ty,pos,aft,g⟩,some v))(k:WL P X bad all K Q os ((d,v)::σ) μ Ds)(hN:Nat.blt d X.N=true:=by exact rfl)(hg:cS all σ g:=by exact⟨_,rfl,rfl⟩):WL P X bad all K Q ((fl,ix)::os) σ μ Ds:=QR (aGV (fun z=>z.1) e9) (aGV (fun z=>z.2) e9) hN hg k
theorem SK(ho:all[ix]?= some ⟨some d,.assign x,ty,pos,aft,g⟩)(hx:ev σ x=some v)(hN:Nat.blt d X.N=true)(hg:cS all σ g)(k:WL P X bad all K Q os ((d,v)::σ) μ Ds):WL P X bad all K Q ((fl,ix)::os) σ μ Ds:=
 bH ho rfl rfl hN hg (fun ρ hρ w'=>by simp[execOp,hρ x v hx,Pure.pure]) k
theorem _root_.Go.Fs.Zh(e9:(all[ix]?,ev σ x)=(some ⟨some d,.assign x,ty,pos,aft,g⟩,some v))(k:WL P X bad all K Q os ((d,v)::σ) μ Ds)(hN:Nat.blt d X.N=true:=by exact rfl)(hg:cS all σ g:=by exact aLJ):WL P X bad all K Q ((fl,ix)::os) σ μ Ds:=SK (aGV (fun z=>z.1) e9) (aGV (fun z=>z.2) e9) hN hg k
theorem A5(ho:all[ix]?= some ⟨some d,.pick x y z,ty,pos,aft,g⟩)(hx:ev σ x=some (.bool true))(hy:ev σ y=some v)(hN:Nat.blt d X.N=true)(hg:cS all σ g)(k:WL P X bad all K Q os ((d,v)::σ) μ Ds):WL P X bad all K Q ((fl,ix)::os) σ μ Ds:=
 bH ho rfl rfl hN hg (fun ρ hρ w'=>by simp[execOp,hρ x _ hx,hρ y _ hy,asBool,go_sem]) k
theorem _root_.Go.Fs.Zab(e9:(all[ix]?,ev σ x,ev σ y)=(some ⟨some d,.pick x y z,ty,pos,aft,g⟩,some (.bool true),some v))(k:WL P X bad all K Q os ((d,v)::σ) μ Ds)(hN:Nat.blt d X.N=true:=by exact rfl)(hg:cS all σ g:=by exact aLJ):WL P X bad all K Q ((fl,ix)::os) σ μ Ds:=A5 (aGV (fun z=>z.1) e9) (aGV (fun z=>z.2.1) e9) (aGV (fun z=>z.2.2) e9) hN hg k
theorem B6(ho:all[ix]?= some ⟨some d,.pick x y z,ty,pos,aft,g⟩)(hx:ev σ x=some (.bool false))(hy:ev σ z=some v)(hN:Nat.blt d X.N=true)(hg:cS all σ g)(k:WL P X bad all K Q os ((d,v)::σ) μ Ds):WL P X bad all K Q ((fl,ix)::os) σ μ Ds:=
 bH ho rfl rfl hN hg (fun ρ hρ w'=>by simp[execOp,hρ x _ hx,hρ z _ hy,asBool,go_sem]) k
theorem _root_.Go.Fs.Zac(e9:(all[ix]?,ev σ x,ev σ z)=(some ⟨some d,.pick x y z,ty,pos,aft,g⟩,some (.bool false),some v))(k:WL P X bad all K Q os ((d,v)::σ) μ Ds)(hN:Nat.blt d X.N=true:=by exact rfl)(hg:cS all σ g:=by exact aLJ):WL P X bad all K Q ((fl,ix)::os) σ μ Ds:=B6 (aGV (fun z=>z.1) e9) (aGV (fun z=>z.2.1) e9) (aGV (fun z=>z.2.2) e9) hN hg k
theorem iW{b:Bool}{t:TypeId}(ho:all[ix]?= some ⟨some d,.unOp .not t x,ty,pos,aft,g⟩)(hx:ev σ x=some (.bool b))(hN:Nat.blt d X.N=true)(hg:cS all σ g)(k:WL P X bad all K Q os ((d,.bool (!b))::σ) μ Ds):WL P X bad all K Q ((fl,ix)::os) σ μ Ds:=
 bH ho rfl rfl hN hg (fun ρ hρ w'=>by simp[execOp,hρ x _ hx,Op.unary,go_sem]) k
theorem _root_.Go.Fs.Zaf{b:Bool}{t:TypeId}(e9:(all[ix]?,ev σ x)=(some ⟨some d,.unOp .not t x,ty,pos,aft,g⟩,some (.bool b)))(k:WL P X bad all K Q os ((d,.bool (!b))::σ) μ Ds)(hN:Nat.blt d X.N=true:=by exact rfl)(hg:cS all σ g:=by exact aLJ):WL P X bad all K Q ((fl,ix)::os) σ μ Ds:=iW (aGV (fun z=>z.1) e9) (aGV (fun z=>z.2) e9) hN hg k
end ops
end Go.Fs
