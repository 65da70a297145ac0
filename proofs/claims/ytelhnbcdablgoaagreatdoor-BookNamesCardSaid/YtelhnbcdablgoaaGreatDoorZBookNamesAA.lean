/- Of the proof of BookNames: Yy, Base, State. -/
import Derived.KernelRfl
import Derived.OrdersIn
import Derived.RangeFuncIn
import Derived.WalkKit
namespace Go
theorem n3 : type_of% @List.not_mem_nil := @List.not_mem_nil
theorem n4 : type_of% @List.mem_map := @List.mem_map
theorem n5 : type_of% @List.mem_append_right := @List.mem_append_right
theorem GE : type_of% @List.mem_cons := @List.mem_cons
theorem GT : type_of% @List.length_append := @List.length_append
theorem LE : type_of% @List.mem_cons_of_mem := @List.mem_cons_of_mem
theorem LT : type_of% @List.mem_of_getElem? := @List.mem_of_getElem?
theorem aXR : type_of% @Or.inr := @Or.inr
theorem aXS : type_of% @List.append_nil := @List.append_nil
theorem aXT : type_of% @List.getElem?_eq_getElem := @List.getElem?_eq_getElem
theorem aXU : type_of% @List.mem_append_left := @List.mem_append_left
theorem aXV : type_of% @congrArg := @congrArg
theorem aXW : type_of% @List.mem_cons_self := @List.mem_cons_self
theorem aXX : type_of% @List.nodup_append := @List.nodup_append
theorem aXY : type_of% @List.length_cons := @List.length_cons
theorem aXZ : type_of% @List.getElem?_eq_some_iff := @List.getElem?_eq_some_iff
theorem aYA : type_of% @List.append_assoc := @List.append_assoc
theorem aYB : type_of% @Bool.and_eq_true := @Bool.and_eq_true
theorem aYC : type_of% @if_neg := @if_neg
theorem aYD : type_of% @List.mem_append := @List.mem_append
theorem aYE : type_of% @List.map_append := @List.map_append
theorem aYF : type_of% @Or.inl := @Or.inl
theorem aYG : type_of% @List.take_add_one := @List.take_add_one
theorem aYH : type_of% @List.mem_singleton := @List.mem_singleton
theorem aYI : type_of% @Nat.le_refl := @Nat.le_refl
theorem aYJ : type_of% @if_pos := @if_pos
theorem aYK : type_of% @List.Mem.tail := @List.Mem.tail
theorem aYL : type_of% @List.all_eq_true := @List.all_eq_true
theorem aYM : type_of% @decide_eq_true_eq := @decide_eq_true_eq
theorem aYN : type_of% @List.map_cons := @List.map_cons
theorem aYO : type_of% @List.take_of_length_le := @List.take_of_length_le
theorem aYP : type_of% @List.flatMap_append := @List.flatMap_append
theorem aYQ : type_of% @List.getElem?_map := @List.getElem?_map
theorem aYR : type_of% @List.Sublist.cons := @List.Sublist.cons
theorem aYS : type_of% @Option.some.inj := @Option.some.inj
theorem aYT : type_of% @List.nil_append := @List.nil_append
theorem aYU : type_of% @List.size_toArray := @List.size_toArray
theorem aYV : type_of% @List.drop_eq_nil_of_le := @List.drop_eq_nil_of_le
theorem aYW : type_of% @List.length_nil := @List.length_nil
theorem aYX : type_of% @Option.map_some := @Option.map_some
theorem aYY : type_of% @Bool.false_eq_true := @Bool.false_eq_true
theorem aYZ : type_of% @Nat.eq_of_beq_eq_true := @Nat.eq_of_beq_eq_true
theorem aZA : type_of% @List.take_append_of_le_length := @List.take_append_of_le_length
theorem aZB : type_of% @List.take_length := @List.take_length
theorem aZC : type_of% @Nat.le_of_ble_eq_true := @Nat.le_of_ble_eq_true
theorem aZD : type_of% @List.flatMap_cons := @List.flatMap_cons
theorem aZE : type_of% @Array.getD_eq_getD_getElem? := @Array.getD_eq_getD_getElem?
theorem aZF : type_of% @List.length_eraseIdx := @List.length_eraseIdx
theorem aZG : type_of% @List.flatMap_singleton := @List.flatMap_singleton
theorem aZH : type_of% @Option.toList_some := @Option.toList_some
theorem aZI : type_of% @List.nodup_cons := @List.nodup_cons
theorem aZJ : type_of% @List.length_take := @List.length_take
theorem aZK : type_of% @decide_eq_false_iff_not := @decide_eq_false_iff_not
theorem aZL : type_of% @List.length_map := @List.length_map
theorem aZM : type_of% @List.foldl_append := @List.foldl_append
theorem aZN : type_of% @Int.toNat_natCast := @Int.toNat_natCast
theorem aZO : type_of% @List.drop_eq_getElem_cons := @List.drop_eq_getElem_cons
theorem aZP : type_of% @List.nodup_nil := @List.nodup_nil
theorem aZQ : type_of% @List.getD_eq_getElem?_getD := @List.getD_eq_getElem?_getD
theorem aZR : type_of% @List.range_succ := @List.range_succ
theorem aZS : type_of% @List.cons.injEq := @List.cons.injEq
theorem aZT : type_of% @Bool.or_eq_true := @Bool.or_eq_true
theorem aZU : type_of% @if_true := @if_true
theorem aZV : type_of% @List.cons_append := @List.cons_append
theorem aZW : type_of% @if_false := @if_false
theorem aZX : type_of% @Option.map_none := @Option.map_none
theorem aZY : type_of% @List.foldl_cons := @List.foldl_cons
theorem aZZ : type_of% @Array.getElem?_setIfInBounds_ne := @Array.getElem?_setIfInBounds_ne
theorem bAA : type_of% @List.length_drop := @List.length_drop
theorem bAB : type_of% @Bool.or_eq_false_iff := @Bool.or_eq_false_iff
theorem bAC : type_of% @Nat.lt_of_lt_of_le := @Nat.lt_of_lt_of_le
theorem bAD : type_of% @List.getElem?_drop := @List.getElem?_drop
theorem bAE : type_of% @Option.map_eq_some_iff := @Option.map_eq_some_iff
theorem bAF : type_of% @Nat.mul_one := @Nat.mul_one
theorem bAG : type_of% @Nat.add_mul := @Nat.add_mul
theorem bAH : type_of% @Array.getElem?_eq_some_iff := @Array.getElem?_eq_some_iff
theorem bAI : type_of% @Array.getElem?_append_left := @Array.getElem?_append_left
theorem bAJ : type_of% @List.take_append_drop := @List.take_append_drop
theorem bAK : type_of% @List.getElem?_append_left := @List.getElem?_append_left
theorem bAL : type_of% @Nat.zero_add := @Nat.zero_add
theorem bAM : type_of% @Nat.le_trans := @Nat.le_trans
theorem bAN : type_of% @List.getElem?_take_of_lt := @List.getElem?_take_of_lt
theorem bAO : type_of% @or_false := @or_false
theorem bAP : type_of% @List.length_eq_zero_iff := @List.length_eq_zero_iff
theorem bAQ : type_of% @List.filter_append := @List.filter_append
theorem bAR : type_of% @List.mem_range := @List.mem_range
theorem bAS : type_of% @List.length_filter_le := @List.length_filter_le
theorem bAT : type_of% @List.getElem?_eq_none := @List.getElem?_eq_none
theorem bAU : type_of% @List.length_pos_iff := @List.length_pos_iff
theorem bAV : type_of% @List.getLast?_eq_some_getLast := @List.getLast?_eq_some_getLast
theorem bAW : type_of% @decide_eq_false := @decide_eq_false
theorem bAX : type_of% @Nat.sub_zero := @Nat.sub_zero
theorem bAY : type_of% @Bool.eq_iff_iff := @Bool.eq_iff_iff
theorem bAZ : type_of% @Option.getD_some := @Option.getD_some
theorem bBA : type_of% @List.any_append := @List.any_append
theorem bBB : type_of% @Array.getElem?_eq_getElem := @Array.getElem?_eq_getElem
theorem bBC : type_of% @List.singleton_append := @List.singleton_append
theorem bBD : type_of% @List.mem_iff_getElem? := @List.mem_iff_getElem?
theorem bBE : type_of% @List.length_singleton := @List.length_singleton
theorem bBF : type_of% @List.drop_zero := @List.drop_zero
theorem bBG : type_of% @Prod.mk.injEq := @Prod.mk.injEq
theorem bBH : type_of% @Nat.min_eq_left := @Nat.min_eq_left
theorem bBI : type_of% @Nat.pow_le_pow_right := @Nat.pow_le_pow_right
theorem bBJ : type_of% @List.filter_cons := @List.filter_cons
theorem bBK : type_of% @List.mapM_cons := @List.mapM_cons
theorem bBL : type_of% @Bool.true_and := @Bool.true_and
theorem bBM : type_of% @List.map_nil := @List.map_nil
theorem bBN : type_of% @List.length_set := @List.length_set
theorem bBO : type_of% @List.drop_append := @List.drop_append
theorem bBP : type_of% @Nat.not_lt_zero := @Nat.not_lt_zero
theorem bBQ : type_of% @List.drop_length_add_append := @List.drop_length_add_append
theorem bBR : type_of% @List.length_eraseIdx_of_lt := @List.length_eraseIdx_of_lt
theorem bBS : type_of% @Nat.zero_mul := @Nat.zero_mul
theorem bBT : type_of% @List.map_singleton := @List.map_singleton
theorem bBU : type_of% @List.Mem.head := @List.Mem.head
theorem bBV : type_of% @ByteArray.size_append := @ByteArray.size_append
theorem bBW : type_of% @List.take_left := @List.take_left
theorem bBX : type_of% @List.drop_drop := @List.drop_drop
theorem bBY : type_of% @Nat.mul_le_mul_right := @Nat.mul_le_mul_right
theorem bBZ : type_of% @List.mem_of_mem_take := @List.mem_of_mem_take
theorem bCA : type_of% @List.contains_eq_mem := @List.contains_eq_mem
theorem bCB : type_of% @not_false_eq_true := @not_false_eq_true
theorem bCC : type_of% @beq_iff_eq := @beq_iff_eq
theorem bCD : type_of% @List.nil_prefix := @List.nil_prefix
theorem bCE : type_of% @Nat.zero_le := @Nat.zero_le
theorem bCF : type_of% @List.length_take_le := @List.length_take_le
theorem bCG : type_of% @List.getElem?_range := @List.getElem?_range
theorem bCH : type_of% @Array.toList_map := @Array.toList_map
theorem bCI : type_of% @Bool.not_false := @Bool.not_false
theorem bCJ : type_of% @List.zip_cons_cons := @List.zip_cons_cons
theorem bCK : type_of% @Array.getElem?_setIfInBounds_self_of_lt := @Array.getElem?_setIfInBounds_self_of_lt
theorem bCL : type_of% @and_self := @and_self
theorem bCM : type_of% @Option.some.injEq := @Option.some.injEq
theorem bCN : type_of% @List.ext_getElem? := @List.ext_getElem?
theorem bCO : type_of% @Bool.not_true := @Bool.not_true
theorem bCP : type_of% @Bool.not_eq_true' := @Bool.not_eq_true'
theorem bCQ : type_of% @List.getElem?_append_right := @List.getElem?_append_right
theorem bCR : type_of% @Nat.mul_le_mul := @Nat.mul_le_mul
theorem bCS : type_of% @List.mem_flatMap := @List.mem_flatMap
theorem bCT : type_of% @List.any_eq_true := @List.any_eq_true
theorem bCU : type_of% @Nat.blt_eq := @Nat.blt_eq
theorem bCV : type_of% @trivial := @trivial
theorem Mm0{α:Type}{a:α}{l:List α}:a∈a::l:=bBU _
theorem Mm1{α:Type}{a b:α}{l:List α}:a∈b::a::l:=aYK _ (bBU _)
theorem Mm2{α:Type}{a b c:α}{l:List α}:a∈b::c::a::l:=aYK _ (aYK _ (bBU _))
theorem Mm3{α:Type}{a b c d:α}{l:List α}:a∈b::c::d::a::l:=aYK _ (aYK _ (aYK _ (bBU _)))
theorem Mm5{α:Type}{l:List α}:l.Sublist l:=List.Sublist.refl _
theorem Ya{p:Prop}(h:p:=by first|rfl|(simp only[aN, *];done)|(simp only[aN, *];rfl)|(simp only[aN, *];omega)):p:=h
theorem Yb{p:Prop}(h:p:=by first|rfl|(show some (Value.int _ _)=some (Value.int _ _);congr 2;omega)):p:=h
theorem Yc{p:Prop}(h:p:=by first|simp|assumption):p:=h
theorem Yd{p:Prop}(h:p:=by omega):p:=h
theorem Ye{p:Prop}(h:p:=by simp):p:=h
theorem Yf{p:Prop}(h:p:=by kernel_rfl):p:=h
theorem Yg{p:Prop}(h:p:=by simp only[xO];omega):p:=h
theorem Yh{p:Prop}(h:p:=by first|exact dF _|simp[cell1]):p:=h
theorem Yi{p:Prop}(h:p:=by exact fun p hp=>by cases hp):p:=h
theorem Yj{p:Prop}(h:p:=by simp[cell1]):p:=h
theorem Yk{p:Prop}(h:p:=by exact C4 fun _=>by simp only[List.count_append,List.count_cons,List.count_nil,cR];omega):p:=h
theorem Yl{p:Prop}(h:p:=by exact C4 fun _=>by simp only[List.count_append,List.count_cons,List.count_nil];omega):p:=h
theorem Ym{p:Prop}(h:p:=by assumption):p:=h
theorem Yn{p:Prop}(h:p:=by first|assumption|simp):p:=h
theorem Yo{p:Prop}(h:p:=by simp only;omega):p:=h
theorem Yp{p:Prop}(h:p:=by first|exact Or.inl rfl|exact Or.inr (fun p hp=>eQ.in_ (hnu p hp))):p:=h
theorem Yq{p:Prop}(h:p:=by rw[←hHas.keys];exact n4.2 ⟨p,hp,rfl⟩):p:=h
theorem Yr{p:Prop}(h:p:=by first|omega|(simp only[bBV,uQ,yH,aYU,aXY,aYW];omega)):p:=h
theorem Ys{p:Prop}(h:p:=by rw[aYH];rintro rfl;exact hap (n4.2 ⟨_,Mm2,rfl⟩)):p:=h
theorem Yt{p:Prop}(h:p:=by rw[aYH];rintro rfl;exact hap (n4.2 ⟨_,Mm1,rfl⟩)):p:=h
theorem Yu{p:Prop}(h:p:=by rw[aYH];rintro rfl;exact hap (n4.2 ⟨_,Mm0,rfl⟩)):p:=h
theorem Yw{p:Prop}(h:p:=by exact fun D0 h=>by simp only[GE,n3,bAO]at h;rcases h with rfl|rfl<;>exact⟨_,by simp,Le.refl _⟩):p:=h
theorem Yx{p:Prop}(h:p:=by exact fun D0 h=>by simp only[GE,n3,bAO]at h;rcases h with h|h;exact⟨D10,by simp,h▸Le.refl _⟩;exact⟨D,by simp,h▸Le.refl _⟩):p:=h
theorem Yy{p:Prop}(h:p:=by rw[aYH];rintro rfl;exact hap (n4.2 ⟨_,aYK _ Mm0,rfl⟩)):p:=h
theorem Yz{p:Prop}(h:p:=by first|omega|(simp only[bBN];omega)):p:=h
theorem Yaa{p:Prop}(h:p:=by first|exact iZ|(simp only[aN, *];exact iZ)):p:=h
theorem Yab{p:Prop}(h:p:=by first|exact dW|(simp only[aN, *];exact dW)):p:=h
theorem Yac{p:Prop}(h:p:=by first|exact mJ|(simp only[aN, *];exact mJ)):p:=h
theorem Yad{p:Prop}(h:p:=by decide):p:=h
theorem Yae{p:Prop}(h:p:=by simp<;>omega):p:=h
theorem Yaf{p:Prop}(h:p:=by decide+kernel):p:=h
theorem Yag{p:Prop}(h:p:=by first|exact xS h4 h5|(rw[List.getElem?_set_ne Yd,List.getElem?_set_ne Yd];exact xS h4 h5)|(rw[List.getElem?_set_ne Yd,List.getElem?_set_ne Yd,List.getElem?_set_ne Yd];exact xS h4 h5)):p:=h
theorem Yah{p:Prop}(h:p:=by rwa [aYO Yd]at h2):p:=h
theorem Yai{p:Prop}(h:p:=by rw[aYH];rintro rfl;exact hap (n4.2 ⟨_,Mm3,rfl⟩)):p:=h
theorem Yaj{p:Prop}(h:p:=by rw[GT,hl1,←bAG];exact bAM (bBY _ Yd) (Nat.le_add_right _ _)):p:=h
theorem Yak{p:Prop}(h:p:=by first|rfl|(simp only[*];done)|(simp only[aN, *];rfl)|(simp only[aN, *];omega)):p:=h
theorem Yal{p:Prop}(h:p:=by rw[aYH];rintro rfl;exact hap (n4.2 ⟨p,aXU _ hp,rfl⟩)):p:=h
theorem Yam{p:Prop}(h:p:=by simp;omega):p:=h
theorem Yan{p:Prop}(h:p:=by first|omega|(simp only[bBV];omega)):p:=h
theorem Yao{p:Prop}(h:p:=by first|assumption|exact LE _ hDr):p:=h
theorem Yap{p:Prop}(h:p:=by simpa using hi):p:=h
theorem Yaq{p:Prop}(h:p:=by simpa using hc2):p:=h
theorem Yar{p:Prop}(h:p:=by simpa using h):p:=h
theorem Yas{p:Prop}(h:p:=by simpa using hl):p:=h
theorem Yat{p:Prop}(h:p:=by rw[←hm.keys];exact n4.2 ⟨p,hp,rfl⟩):p:=h
theorem Yau{p:Prop}(h:p:=by have:=hin.2;omega):p:=h
theorem Yav{p:Prop}(h:p:=by rfl):p:=h
theorem Yaw{p:Prop}(h:p:=by rw[aZJ,bAA];omega):p:=h
theorem Yax{p:Prop}(h:p:=by cases k<;>simp[binOp,Op.intCmp,Pure.pure]):p:=h
theorem Yay{p:Prop}(h:p:=by first|exact Or.inl rfl|exact Or.inr Ye):p:=h
theorem Yaz{p:Prop}(h:p:=by cases k<;>simp[binOp,Op.intArith,pQ hr,Pure.pure]):p:=h
theorem Ya0{p:Prop}(h:p:=by cases b2<;>simp at hJ2;exact aXR hJ2;exact aYF hJ2):p:=h
theorem Ya1{p:Prop}(h:p:=by simp only[aZT,aYM,not_or];exact⟨⟨by simpa using hlarge,by omega⟩,by omega⟩):p:=h
theorem Ya2{p:Prop}(h:p:=by simp only[bBV,uQ,yH,aYU,aXY,aYW];omega):p:=h
theorem Ya3{p:Prop}(h:p:=by show some (Value.int _ _)=some (Value.int _ _);congr 2;rw[ZQ hb];push_cast;rw[Int.add_assoc]):p:=h
end Go
namespace Go.Fs

abbrev qI(n:Int):Value:=.int .i64 n
abbrev qP(b:Nat):Value:=.pointer (some ⟨b,0,none⟩)
abbrev qN:Value:=.slice none 0 0
abbrev qS(b n c:Nat):Value:=.slice (some ⟨b,0,none⟩) n c
abbrev qC(l:List Value)(e:TypeId):Obj:=.cells l.toArray e (0,0)
def FW(r:Option Nat):Fence:={fn:=fun _=>True,depth:=none,alive:=false,round:=r}
theorem Z8(r:Option Nat)(n:Nat):(FW r).room n:=fun _ h=>by simp[FW]at h
theorem ZF(r:Option Nat)(P:Program)(m:Machine):m.fenced P (FW r):=
 fun _ _=>⟨fun h=>by simp[FW]at h,aYF bCV,fun _ _=>trivial,fun _ h=>by simp[FW]at h⟩
theorem m8{r:Option Nat}{P:Program}{m m':Machine}:StepsIn (Machine.fenced P (FW r)) P m m' ↔ Steps P m m':=
 ⟨StepsIn.steps,fun h=>(StepsIn.of_steps h).mono fun m _=>ZF r P m⟩
theorem xJ{r:Option Nat}{P:Program}{m m':Machine}{e:Ending}:ComesIn (Machine.fenced P (FW r)) P m m' e ↔ Comes P m m' e:=by
 cases e with
 |returned v=>exact m8
 |panicked chain=>exact m8
 |outgrown=>exact Iff.rfl
theorem dN{r:Option Nat}{n:Nat}{P:Program}{f:FuncId}{args:Array Value}{w:World}{R:Ending→World→Prop}:
    CallsIn (FW r) n P f args w R ↔ Calls P f args w R:=
  ⟨fun h cs=>let ⟨e,w',fr,r,s,x⟩:=h.2 cs (Z8 _ _);⟨e,w',fr,r,xJ.1 s,x⟩,
   fun h=>⟨bCV,fun cs _=>let ⟨e,w',fr,r,s,x⟩:=h cs;⟨e,w',fr,r,xJ.2 s,x⟩⟩⟩
def aFF(P:Program)(l:Nat)(f:FuncId)(tmps:Array Value)(assign body:Code)(w:World)(R:Ending→World→Prop):Prop:=
 RoundIn (FW none) 0 P l f tmps assign body w R
theorem p7{r:Option Nat}{n:Nat}{P:Program}{l:Nat}{f:FuncId}{tmps:Array Value}{assign body:Code}{w:World}{R:Ending→World→Prop}
  (h:aFF P l f tmps assign body w R):RoundIn (FW r) n P l f tmps assign body w R:=
 ⟨bCV,fun c cs _=>let ⟨e,w',q,s⟩:=h.2 c cs (Z8 _ _);⟨e,w',q,xJ.2 (xJ.1 s)⟩⟩

def nC{γb:Type}[Membership Nat γb](bad:γb)(w w':World):Prop:=w.heap.size≤w'.heap.size∧∀b,b<w.heap.size→b∉bad→w'.heap[b]?= w.heap[b]?
structure eQ where
 l:List Nat
instance:Membership Nat eQ:=⟨fun s b=>b∉s.l⟩
theorem eQ.out{l:List Nat}{b:Nat}(h:b∈l):b∉(eQ.mk l):=fun hn=>hn h
theorem eQ.in_{l:List Nat}{b:Nat}(h:b∉l):b∈(eQ.mk l):=h
theorem nC.refl{γb:Type}[Membership Nat γb](bad:γb)(w:World):nC bad w w:=⟨aYI _,fun _ _ _=>rfl⟩
theorem nC.trans{γb:Type}[Membership Nat γb]{bad:γb}{w G I:World}(h:nC bad w G)(h':nC bad G I):nC bad w I:=
 ⟨bAM h.1 h'.1,fun b hb hn=>(h'.2 b (bAC hb h.1) hn).trans (h.2 b hb hn)⟩

def kH:Op→Bool
 |.move _|.assign _|.pick _ _ _|.load _ _|.nilCheck _|.binOp _ _ _ _ _|.unOp _ _ _|.convert _ _ _|.fieldAddr _ _ _|.field _ _ _
 |.indexAddr _ _ _|.index _ _ _|.extract _ _|.slice _ _ _ _ _|.build _ _|.makeFunc _ _ _|.makeInterface _ _|.lookup _ _ _ _|.typeAssert _ _ _ _=>true
 |.call c=>match c.callee with|.builtin .len|.builtin .cap|.builtin .max|.builtin .min=>true|_=>false
 |_=>false
def nU:Op→Bool
 |.defer _=>true
 |.select _ _=>true
 |_=>false
def Yv{γb:Type}[Membership Nat γb](bad:γb)(P:Program)(all:Array Oper)(o:Oper)(a:Act)(w:World)(v:Value):Prop:=
 (Region.wanted o (yielded all a.tmps)=true∧∀w',nC bad w w'→(execOp a.eval o).run P w'=.ok (.value v) w')∨
 (Region.wanted o (yielded all a.tmps)=false∧v=undef)
def G4(r:Option Nat){γb:Type}[Membership Nat γb](bad:γb)(P:Program)(all:Array Oper)(Q:Exit→Act→World→Prop)(o:Oper)(fl:Bool)(K:Act→World→Prop)(a:Act)(w:World):Prop:=
 if Region.wanted o (yielded all a.tmps)=true then o.wpIn (FW r) 0 P a w (fun a' w'=>(fl=true→nC bad w w')∧K a' w') Q
 else K (a.put o.dst undef) w
def rQ(r:Option Nat){γb:Type}[Membership Nat γb](bad:γb)(P:Program)(all:Array Oper)(K:Act→World→Prop)(Q:Exit→Act→World→Prop):List (Bool×Oper)→Act→World→Prop
 | [],a,w=>K a w
 |(fl,o)::os,a,w=>
  if kH o.op=true then ∃v,Yv bad P all o a w v∧rQ r bad P all K Q os (a.put o.dst v) w
  else G4 r bad P all Q o fl (rQ r bad P all K Q os) a w
variable{r:Option Nat}{γb:Type}[Membership Nat γb]{bad:γb}{P:Program}{all:Array Oper}{Q:Exit→Act→World→Prop}
theorem wA{o:Oper}(h:nU o.op=false)(ro:Option Nat)(ρ:Operand→Value):Oper.semAt ro ρ o=execOp ρ o:=
 Oper.semAt_eq ro ρ o fun c hc=>by rw[hc]at h;cases h
theorem G0{o:Op}(h:kH o=true):nU o=false:=by
 cases o<;>first|rfl|(cases h)
theorem Yv.run{o:Oper}{a:Act}{w:World}{v:Value}(h:Yv bad P all o a w v)(hk:kH o.op=true){K:Act→World→Prop}{i:Nat}(hi:all[i]?= some o){n:Nat}
  (hK:K (a.put o.dst v) w):wpOpIn (FW r) n P all Q i K a w:=by
 unfold wpOpIn;simp only[hi];rcases h with⟨hw,hv⟩|⟨hw,rfl⟩
 ·rw[aYJ hw];refine⟨fun _ _=>trivial,?_⟩;rw[wA (G0 hk),hv w (nC.refl _ _)];exact hK
 ·rw[aYC (by simp[hw])];exact⟨fun _ _=>trivial,hK⟩
theorem JR{n:Nat}{o:Oper}{a:Act}{w:World}{K:Act→World→Prop}(h:o.wpIn (FW r) 0 P a w K Q):o.wpIn (FW r) n P a w K Q:=by
 refine⟨h.1,?_⟩;have h2:=h.2;generalize (o.semAt (FW r).round a.eval).run P w=x at *;cases x with
 |ok x w'=>
  cases x<;>simp only[Oper.uponIn]at h2 ⊢ <;>first
   |exact h2
   |exact⟨fun h=>by simp[FW]at h,dN.2 (dN.1 h2.2)⟩
   |exact⟨fun h=>by simp[FW]at h,fun c cs _=>h2.2 c cs (Z8 _ _)⟩
   |exact⟨fun h=>by simp[FW]at h,bCV,fun c cs _=>h2.2.2 c cs (Z8 _ _)⟩
 |halt x w'=>cases x<;>exact h2

theorem zE{n:Nat}{K:Act→World→Prop}(hK:∀a w,K a w→Q .normal a w):∀(os:List (Bool×Oper)) (is:List Nat),is.map (fun i=>all[i]?)=os.map (fun o=>some o.2)→
  ∀a w,rQ r bad P all K Q os a w→wpOpsIn (FW r) n P all Q is a w:=by
 intro os;induction os with
 |nil=>intro is h a w H;cases is with|nil=>exact hK _ _ H|cons=>simp at h
 |cons o os ih=>
  intro is h a w H;cases is with
  |nil=>simp at h
  |cons i is=>
   obtain⟨fl,o⟩:=o;simp only[aYN,aZS]at h;rw[wpOpsIn_cons];simp only[rQ]at H;split at H
   ·rename_i hq;obtain⟨v,hy,H⟩:=H;exact hy.run hq h.1 (ih is h.2 _ _ H)
   ·unfold wpOpIn;simp only[h.1];unfold G4 at H;split at H
    ·rename_i hw;rw[aYJ hw];exact JR (Oper.wpIn_mono (fun a w hh=>ih is h.2 _ _ hh.2) H)
    ·rename_i hw;rw[aYC hw];exact⟨fun _ _=>trivial,ih is h.2 _ _ H⟩
theorem BQ(all:Array Oper):(List.range all.size).map (fun i=>all[i]?)=all.toList.map some:=by
 apply List.ext_getElem
 ·simp
 ·intro i h1 h2;simp
theorem aJR{id:Nat}{a:Act}{w:World}(h:rQ r [] P all (fun a w=>Q .normal a w) Q (all.toList.map fun o=>(false,o)) a w):
  (Code.region id all false).wpIn (FW r) 0 P Q a w:=
 wpIn_region (zE (fun _ _ h=>h) _ _ (by rw[BQ];simp) _ _ h)

def lO(all:Array Oper):Nat→Nat→Nat→Bool
 |0,_,_=>false
 |n+1,i,x=>((all[i]?).map fun o=>o.after.toList.any fun e=>Region.binds .any e&&(Nat.beq e.on x||lO all n e.on x)).getD false
def pL(all:Array Oper)(n:Nat)(i:Nat):List Nat→Bool
 | []=>false
 |x::xs=> !lO all n i x||pL all n i xs
def iM(all:Array Oper)(x:Nat):Bool:=((all[x]?).map fun o=>kH o.op).getD false
def oP(all:Array Oper)(x i:Nat):Bool:=
 match all[x]?,all[i]? with
 |some x,some i=>x.apart all i
 |_,_=>false
def aET(all:Array Oper)(n:Nat)(i:Nat)(before:List Nat):Bool:=
 before.all fun x=>lO all n i x||(iM all x&&oP all x i)
def yG(all:Array Oper)(i:Nat)(before:List Nat):Bool:=
 ((all[i]?).map fun o=>o.after.toList.all fun e=> !Region.binds .any e||before.contains e.on).getD false
def rM(all:Array Oper)(n:Nat):List Nat→List Nat→Bool
 |_,[]=>true
 |before,i::rest=>aET all n i before&&yG all i before&& !before.contains i&&rM all n (before++[i]) rest
def oN(all:Array Oper):Bool:=all.toList.all fun o=> !nU o.op
def W7(all:Array Oper)(n:Nat)(c:List Nat):Bool:=
 oN all&&(c.length==all.size)&&((List.range all.size).all fun i=>c.contains i)&&rM all n [] c
def Q7(r:Option Nat){γb:Type}[Membership Nat γb](bad:γb)(P:Program)(all:Array Oper)(fl:Nat→Bool)(K:Act→World→Prop)(Q:Exit→Act→World→Prop):List Nat→Act→World→Prop
 | [],a,w=>K a w
 |i::is,a,w=>
  match all[i]? with
  |none=>False
  |some o=>
   if kH o.op=true then ∃v,Yv bad P all o a w v∧Q7 r bad P all fl K Q is (a.put o.dst v) w
   else G4 r bad P all Q o (fl i) (Q7 r bad P all fl K Q is) a w
def lF(r:Option Nat){γb:Type}[Membership Nat γb](bad:γb)(P:Program)(all:Array Oper)(fl:Nat→Bool)(Q:Exit→Act→World→Prop)(i:Nat)(K:Act→World→Prop)(a:Act)(w:World):Prop:=
 match all[i]? with
 |none=>False
 |some o=>
  if kH o.op=true then ∃v,Yv bad P all o a w v∧K (a.put o.dst v) w
  else G4 r bad P all Q o (fl i) K a w
theorem oO{fl:Nat→Bool}{K:Act→World→Prop}(i:Nat)(is:List Nat)(a:Act)(w:World):
  Q7 r bad P all fl K Q (i::is) a w=lF r bad P all fl Q i (Q7 r bad P all fl K Q is) a w:=by
 rfl
theorem G4.mono{o:Oper}{f:Bool}{K K':Act→World→Prop}{a:Act}{w:World}(h:∀a w,K a w→K' a w)(H:G4 r bad P all Q o f K a w):
  G4 r bad P all Q o f K' a w:=by
 unfold G4 at *;split at H
 ·rename_i hw;rw[aYJ hw];exact Oper.wpIn_mono (fun a w hh=>⟨hh.1,h _ _ hh.2⟩) H
 ·rename_i hw;rw[aYC hw];exact h _ _ H
theorem lF.mono{fl:Nat→Bool}{i:Nat}{K K':Act→World→Prop}{a:Act}{w:World}(h:∀a w,K a w→K' a w)(H:lF r bad P all fl Q i K a w):
  lF r bad P all fl Q i K' a w:=by
 unfold lF at *;split at H
 ·exact H
 ·split at H
  ·rename_i hq;rw[aYJ hq];obtain⟨v,y,k⟩:=H;exact⟨v,y,h _ _ k⟩
  ·rename_i hq;rw[aYC hq];exact H.mono h
theorem sD{fl:Nat→Bool}{K K':Act→World→Prop}(h:∀a w,K a w→K' a w):∀(is:List Nat) {a:Act} {w:World},Q7 r bad P all fl K Q is a w→Q7 r bad P all fl K' Q is a w
 | [],_,_,H=>h _ _ H
 |i::is,a,w,H=>by
  rw[oO]at H ⊢
  exact H.mono fun a w=>sD h is
theorem Yv.of_same{o:Oper}{v:Value}{a a':Act}{w w':World}(hy:Yv bad P all o a w v)(hk:nC bad w w')(he:execOp a'.eval o=execOp a.eval o)
  (hw:Region.wanted o (yielded all a'.tmps)=Region.wanted o (yielded all a.tmps)):Yv bad P all o a' w' v:=by
 rcases hy with⟨h1,h2⟩|⟨h1,h2⟩
 ·exact aYF ⟨hw.trans h1,fun I G=>he▸h2 I (hk.trans G)⟩
 ·exact aXR ⟨hw.trans h1,h2⟩
def yW:Op→Bool
 |.build _ _=>true
 |.extract _ _=>true
 |.move _=>true
 |.assign _=>true
 |_=>false
def wU(all:Array Oper)(x:Nat):Bool:=((all[x]?).map fun o=>yW o.op).getD false
def WI{α:Type}(x:Sem α):Prop:=∀(P:Program) w v w1,x.run P w=.ok v w1→w1=w∧∀w',x.run P w'=.ok v w'
theorem WI.pure{α:Type}(a:α):WI (Pure.pure a:Sem α):=fun P w v G h=>by
 rw[Sem.run_pure]at h;cases h;exact⟨rfl,fun w'=>Sem.run_pure ..⟩
theorem WI.bind{α β:Type}{x:Sem α}{f:α→Sem β}(hx:WI x)(hf:∀a,WI (f a)):WI (x >>= f):=fun P w v I h=>by
 rw[Sem.run_bind]at h;cases hr:x.run P w with
 |ok a G=>
  rw[hr]at h;obtain⟨rfl,h2⟩:=hx P w a G hr;obtain⟨rfl,h3⟩:=hf a P _ v I h;exact⟨rfl,fun w'=>by rw[Sem.run_bind,h2 w'];exact h3 w'⟩
 |halt z G=>rw[hr]at h;cases h
theorem WI.halt{α:Type}(z:Halt):WI (Sem.halt z:Sem α):=fun P w v G h=>by cases h
theorem WI.program:WI program:=fun P w v G h=>by cases h;exact⟨rfl,fun w'=>rfl⟩
theorem WI.typeInfo(t:TypeId):WI (typeInfo t):=by
 unfold Go.typeInfo;refine WI.bind WI.program fun p=>?_
 split
 ·exact WI.pure _
 ·exact WI.halt _
theorem WI.underlying(t:TypeId):WI (underlying t):=by
 unfold Go.underlying;refine WI.bind WI.program fun p=>?_
 split
 ·exact WI.pure _
 ·exact WI.halt _
theorem WI.sizeOf(t:TypeId):WI (sizeOf t):=WI.bind (WI.typeInfo t) fun _=>WI.pure _
theorem WI.zeroValue(t:TypeId):WI (zeroValue t):=by
 unfold Go.zeroValue;refine WI.bind (WI.typeInfo t) fun p=>?_
 split
 ·exact WI.pure _
 ·exact WI.halt _
theorem WI.mapM{α β:Type}{f:α→Sem β}(hf:∀a,WI (f a))(as:Array α):WI (as.mapM f):=by
 rw[Array.mapM_eq_mapM_toList];refine WI.bind ?_ fun _=>WI.pure _
 generalize as.toList=l;induction l with
 |nil=>exact WI.pure _
 |cons a l ih=>
  rw[bBK];exact WI.bind (hf a) fun _=>WI.bind ih fun _=>WI.pure _
theorem WI.build(t:TypeId)(parts:Array (Nat×Value)):WI (Instr.build t parts):=by
 unfold Instr.build;refine WI.bind (WI.zeroValue t) fun z=>WI.bind (WI.underlying t) fun u=>?_
 split
 ·refine WI.bind (WI.mapM (fun f=>WI.bind (WI.sizeOf _) fun _=>WI.pure _) _) fun pl=>?_
  split
  ·exact WI.pure _
  ·exact WI.halt _
 ·refine WI.bind (WI.sizeOf _) fun sz=>?_
  split
  ·exact WI.pure _
  ·exact WI.halt _
 ·exact WI.halt _
theorem WI.extract(t:Value)(i:Nat):WI (Instr.extract t i):=by
 unfold Instr.extract;split
 ·split
  ·exact WI.pure _
  ·exact WI.halt _
 ·exact WI.halt _
theorem aCL{o:Oper}(hp:yW o.op=true){ρ:Operand→Value}{P:Program}{w:World}{v:Value}(hr:(execOp ρ o).run P w=.ok (.value v) w):∀w',(execOp ρ o).run P w'=.ok (.value v) w':=by
 have:WI (execOp ρ o):=by
  cases o with
  |mk dst op type pos after guard=>
   cases op<;>first|(cases hp)|skip
   all_goals unfold execOp
   ·exact WI.pure _
   ·exact WI.pure _
   ·exact WI.bind (WI.build _ _) fun _=>WI.pure _
   ·exact WI.bind (WI.extract _ _) fun _=>WI.pure _
 exact(this P w _ w hr).2
theorem Yv.of_same'{o:Oper}{v:Value}{a a':Act}{w w':World}(hy:Yv bad P all o a w v)(hk:nC bad w w'∨yW o.op=true)(he:execOp a'.eval o=execOp a.eval o)
  (hw:Region.wanted o (yielded all a'.tmps)=Region.wanted o (yielded all a.tmps)):Yv bad P all o a' w' v:=by
 rcases hk with hk|hk
 ·exact hy.of_same hk he hw
 ·rcases hy with⟨h1,h2⟩|⟨h1,h2⟩
  ·exact aYF ⟨hw.trans h1,fun G _=>he▸aCL hk (h2 w (nC.refl _ _)) G⟩
  ·exact aXR ⟨hw.trans h1,h2⟩
def PI(Q:Exit→Act→World→Prop):Prop:=∀c (a a':Act) w,a'.defers=a.defers→Q (.panic c) a w→Q (.panic c) a' w
theorem HE(a:Act)(d:Option Tmp)(v:Value):(a.put d v).defers=a.defers:=by cases d<;>rfl
theorem sW{o:Oper}(h:nU o.op=false):∀cs b,o.op≠.select cs b:=fun cs b e=>by rw[e]at h;cases h
theorem aIK{x o:Oper}{f:Bool}{v:Value}(hap:x.apart all o=true)(hx:nU x.op=false)(ho:nU o.op=false)(hf:f=true∨yW x.op=true)(hQ:PI Q)
  {K:Act→World→Prop} {a:Act} {w:World} (hy:Yv bad P all x a w v) (h:G4 r bad P all Q o f K (a.put x.dst v) w):
  G4 r bad P all Q o f (fun a' w'=>Yv bad P all x a' w' v∧K (a'.put x.dst v) w') a w:=by
 obtain⟨h1,h2,h3⟩:=Oper.apart_spec hap;have keep:∀u w',(f=true→nC bad w w')→Yv bad P all x (a.put o.dst u) w' v:=fun u w' hk=>
  hy.of_same' (hf.imp hk id) (execOp_put x (sW hx) a o.dst u h3) (wanted_put x a o.dst u h3)
 unfold G4 at *;rw[wanted_put o a x.dst v h1]at h;split at h
 ·rename_i hw;rw[aYJ hw];refine⟨fun _ _=>trivial,?_⟩;have h:=h.2;rw[wA ho,execOp_put o (sW ho) a x.dst v h1]at h;rw[wA ho];generalize (execOp a.eval o).run P w=z at *;cases z with
  |ok z w'=>
   cases z<;>simp only[Oper.uponIn]at h ⊢
   case value u=>exact⟨h.1,keep u w' h.1,by rw[←Act.put_comm a v u h2];exact h.2⟩
   case skip=>exact⟨h.1,keep _ w' h.1,by rw[←Act.put_comm a v undef h2];exact h.2⟩
   case defer d=>
    refine⟨h.1,?_,?_⟩
    ·exact(hy.of_same' (a':={a with defers:=d::a.defers}.put o.dst undef) (hf.imp h.1 id)
      ((execOp_put x (sW hx) {a with defers:=d::a.defers} o.dst undef h3).trans rfl) ((wanted_put x {a with defers:=d::a.defers} o.dst undef h3).trans rfl))
    ·have e:=h.2;rw[Act.put_defers,Act.put_comm _ v undef h2]at e;exact e
   case enter f args=>
    refine⟨h.1,CallsIn.mono h.2 fun e w'' he=>?_⟩;cases e with
    |returned u=>exact⟨he.1,keep u w'' he.1,by rw[←Act.put_comm a v u h2];exact he.2⟩
    |panicked c=>exact hQ _ _ _ _ (HE _ _ _).symm he
    |outgrown=>exact he
   case row row args=>exact⟨h.1,RowsIn.mono h.2 fun u w'' he=>⟨he.1,keep u w'' he.1,by rw[←Act.put_comm a v u h2];exact he.2⟩⟩
   case round l f tmps assign body=>
    refine⟨h.1,RoundIn.mono h.2 fun e w'' he=>?_⟩;cases e with
    |returned u=>exact⟨he.1,keep u w'' he.1,by rw[←Act.put_comm a v u h2];exact he.2⟩
    |panicked c=>exact hQ _ _ _ _ (HE _ _ _).symm he
    |outgrown=>exact he
  |halt z w'=>
   cases z<;>simp only[Oper.uponIn]at h ⊢
   case panic u=>exact hQ _ _ _ _ (HE _ _ _).symm h
 ·rename_i hw;rw[aYC hw];exact⟨keep _ w (fun _=>nC.refl _ _),by rw[←Act.put_comm a v undef h2];exact h⟩
theorem M7{x:Nat}(h:iM all x=true):∃o,all[x]?= some o∧kH o.op=true:=by
 unfold iM at h;cases hx:all[x]? with
 |none=>simp[hx]at h
 |some o=>exact⟨o,rfl,by simpa [hx]using h⟩
theorem B9(h:oN all=true){i:Nat}{o:Oper}(ho:all[i]?= some o):nU o.op=false:=by
 have hm:o∈all.toList:=by
  rw[bAH]at ho;obtain⟨hi,rfl⟩:=ho;simp
 have:=aYL.1 h o hm;simpa using this
theorem ZU{fl:Nat→Bool}{x i:Nat}(hnd:oN all=true)(hq:iM all x=true)(hap:oP all x i=true)(hf:iM all i=true∨fl i=true∨wU all x=true)
  (hQ:PI Q) {K:Act→World→Prop} {a:Act} {w:World}
  (h:lF r bad P all fl Q x (lF r bad P all fl Q i K) a w):lF r bad P all fl Q i (lF r bad P all fl Q x K) a w:=by
 obtain⟨ox,hx,hqx⟩:=M7 hq;cases hi:all[i]? with
 |none=>simp[oP,hx,hi]at hap
 |some oi=>
  have hap':ox.apart all oi=true:=by simpa [oP,hx,hi]using hap
  have dx:=B9 hnd hx;have di:=B9 hnd hi;obtain⟨h1,h2,h3⟩:=Oper.apart_spec hap';simp only[lF,hx,hi,hqx,aZU]at h ⊢
  obtain⟨v,hy,h⟩:=h;split at h
  ·rename_i hqi;obtain⟨u,hu,h⟩:=h;rw[aYJ hqi];refine⟨u,hu.of_same (nC.refl _ _) (execOp_put oi (sW di) a ox.dst v h1).symm (wanted_put oi a ox.dst v h1).symm,v,
    hy.of_same (nC.refl _ _) (execOp_put ox (sW dx) a oi.dst u h3) (wanted_put ox a oi.dst u h3),?_⟩
   rw[←Act.put_comm a v u h2];exact h
  ·rename_i hqi;rw[aYC hqi];have hfl:fl i=true∨yW ox.op=true:=by
    rcases hf with hf|hf|hf
    ·obtain⟨o,ho,hqo⟩:=M7 hf;rw[hi]at ho;cases ho;exact absurd hqo hqi
    ·exact aYF hf
    ·exact aXR (by simpa [wU,hx]using hf)
   refine(aIK hap' dx di hfl hQ hy h).mono fun a w hh=>?_
   rw[lF,hx];simp only[hqx,aZU];exact⟨v,hh.1,hh.2⟩
theorem rN{fl:Nat→Bool}{i:Nat}(hnd:oN all=true)(hQ:PI Q){K:Act→World→Prop}:
  ∀(c1 c2:List Nat) (a:Act) (w:World),(∀x∈c1,iM all x=true∧oP all x i=true∧(iM all i=true∨fl i=true∨wU all x=true))→
   Q7 r bad P all fl K Q (c1++i::c2) a w→lF r bad P all fl Q i (Q7 r bad P all fl K Q (c1++c2)) a w:=by
 intro c1;induction c1 with
 |nil=>intro c2 a w _ h;rw[aYT,oO]at h;exact h
 |cons x c1 ih=>
  intro c2 a w hc h;rw[aZV,oO]at h;have h':=h.mono fun a w hh=>ih c2 a w (fun y hy=>hc y (LE _ hy)) hh
  obtain⟨h1,h2,h3⟩:=hc x aXW;have:=ZU hnd h1 h2 h3 hQ h';exact this.mono fun a w hh=>by rw[aZV,oO];exact hh
theorem lF.wpOpIn{fl:Nat→Bool}{i:Nat}{n:Nat}{K:Act→World→Prop}{a:Act}{w:World}(h:lF r bad P all fl Q i K a w):wpOpIn (FW r) n P all Q i K a w:=by
 unfold lF at h;split at h
 ·exact h.elim
 ·rename_i o ho;split at h
  ·rename_i hq;obtain⟨v,hy,h⟩:=h;exact hy.run hq ho h
  ·unfold Go.wpOpIn;simp only[ho];unfold G4 at h;split at h
   ·rename_i hw;rw[aYJ hw];exact JR (Oper.wpIn_mono (fun a w hh=>hh.2) h)
   ·rename_i hw;rw[aYC hw];exact⟨fun _ _=>trivial,h⟩
def OL(all:Array Oper)(cW:Array Bool):Prop:=
 ∀(i:Nat) (o:Oper),all[i]?= some o→cW.getD i false=true→∀e∈o.after,Region.binds .any e=true→cW.getD e.on false=true
theorem rI{cW:Array Bool}(hc:OL all cW):∀(n i x:Nat) (o:Oper),all[i]?= some o→(∀e∈o.after,Region.binds .any e=true→cW.getD e.on false=true)→
  (∀j,cW.getD j false=true→j<all.size)→lO all n i x=true→cW.getD x false=true:=by
 intro n;induction n with
 |zero=>intro i x o _ _ _ h;simp[lO]at h
 |succ n ih=>
  intro i x o ho hall hlt h;simp only[lO,ho,aYX,bAZ,bCT,aYB,aZT]at h;obtain⟨e,he,hb,h⟩:=h;have hl:=hall e (by simpa using he) hb;rcases h with h|h
  ·rw[aYZ h]at hl;exact hl
  ·have hj:=hlt _ hl;exact ih e.on x all[e.on] (by simp[hj]) (hc e.on _ (by simp[hj]) hl) hlt h
theorem qM{n:Nat}:∀(c before c1:List Nat) (i:Nat) (c2:List Nat),rM all n before c=true→c=c1++i::c2→
  aET all n i (before++c1)=true∧yG all i (before++c1)=true∧i∉before++c1:=by
 intro c;induction c with
 |nil=>intro before c1 i c2 _ h;simp at h
 |cons x c ih=>
  intro before c1 i c2 hc h;simp only[rM,aYB]at hc;cases c1 with
  |nil=>simp only[aYT,aZS]at h;rw[←h.1];simpa [and_assoc]using hc.1
  |cons y c1=>
   simp only[aZV,aZS]at h;have:=ih (before++[x]) c1 i c2 hc.2 h.2;rw[h.1]at this;simpa using this
def yL(all:Array Oper)(n:Nat)(fl:Nat→Bool)(c:List Nat):Prop:=
 ∀c1 i c2,c=c1++i::c2→∀x∈c1,lO all n i x=true∨(iM all x=true∧oP all x i=true∧(iM all i=true∨fl i=true∨wU all x=true))
theorem yL.erase{n:Nat}{fl:Nat→Bool}{c1 c2:List Nat}{i:Nat}(h:yL all n fl (c1++i::c2)):yL all n fl (c1++c2):=by
 intro G j d2 he x hx;by_cases hl:G.length<c1.length
 ·obtain⟨t,ht⟩:∃t,c1=G++j::t:=by
   have h1:(c1++c2)[G.length]?= some j:=by rw[he];simp
   rw[bAK hl]at h1;have h2:c1.take G.length=G:=by
    have:=aXV (List.take G.length) he;rw[aZA (Nat.le_of_lt hl)]at this;simpa using this
   refine⟨c1.drop (G.length+1),?_⟩;have h3:=bAJ G.length c1;rw[h2,aZO hl]at h3;rw[aXT hl]at h1;rw[aYS h1]at h3;exact h3.symm
  exact h G j (t++i::c2) (by rw[ht];simp) x hx
 ·obtain⟨t,ht⟩:∃t,G=c1++t:=by
   have h2:G.take c1.length=c1:=by
    have:=aXV (List.take c1.length) he;rw[aZA (aYI _),aZB,aZA Yd]at this;exact this.symm
   exact⟨G.drop c1.length,by rw[←h2,aZJ,bBH Yd,bAJ]⟩
  subst ht;have hc2:c2=t++j::d2:=by
   rw[aYA]at he;exact List.append_cancel_left he
  refine h (c1++i::t) j d2 (by rw[hc2];simp) x ?_;simp only[aYD,GE]at hx ⊢
  rcases hx with hx|hx
  ·exact aYF hx
  ·exact aXR (aXR hx)
def vD(all:Array Oper)(cW:Array Bool)(c:List Nat):Prop:=
 ∀c1 i c2,c=c1++i::c2→∀o,all[i]?= some o→∀e∈o.after,Region.binds .any e=true→cW.getD e.on false=true∨e.on∈c1
theorem W3{c1 c2 G d2:List Nat}{j:Nat}(he:c1++c2=G++j::d2):
  (∃t,c1=G++j::t∧d2=t++c2)∨(∃t,G=c1++t∧c2=t++j::d2):=by
 rcases List.append_eq_append_iff.1 he with⟨t,h1,h2⟩|⟨t,h1,h2⟩
 ·exact aXR ⟨t,h1,h2⟩
 ·cases t with
  |nil=>exact aXR ⟨[],by simpa using h1.symm,by simpa using h2.symm⟩
  |cons x t=>
   simp only[aZV,aZS]at h2;exact aYF ⟨t,by rw[h1,h2.1],h2.2⟩
theorem vD.erase{cW:Array Bool}{c1 c2:List Nat}{i:Nat}(hi:i<cW.size)(h:vD all cW (c1++i::c2)):vD all (cW.setIfInBounds i true) (c1++c2):=by
 intro G j d2 he o ho e hm hb;rcases W3 he with⟨t,h1,h2⟩|⟨t,h1,h2⟩
 ·rcases h G j (t++i::c2) (by rw[h1];simp) o ho e hm hb with hl|hl
  ·exact aYF (getD_set_true hl)
  ·exact aXR hl
 ·rcases h (c1++i::t) j d2 (by rw[h2];simp) o ho e hm hb with hl|hl
  ·exact aYF (getD_set_true hl)
  ·simp only[aYD,GE]at hl;rcases hl with hl|hl|hl
   ·exact aXR (by rw[h1];simp[hl])
   ·rw[hl];exact aYF (by simp[hi])
   ·exact aXR (by rw[h1];simp[hl])
theorem mZ{cW:Array Bool}{i:Nat}(h:i<cW.size):(cW.setIfInBounds i true).getD i false=true:=by simp[h]
theorem l6{n:Nat}{fl:Nat→Bool}(hnd:oN all=true)(hQ:PI Q):
  ∀(c:List Nat) (cW:Array Bool) (a:Act) (w:World),cW.size=all.size→OL all cW→c.Nodup→
   (∀i,i<all.size→(i∈c ↔ cW.getD i false=false))→(∀i∈c,i<all.size)→yL all n fl c→vD all cW c→
   Q7 r bad P all fl (fun a w=>Q .normal a w) Q c a w→wpAnyIn (FW r) 0 P .any all Q c.length cW a w:=by
 intro c;induction hlen:c.length generalizing c with
 |zero=>
  intro cW a w hs _ _ hm _ _ _ h;have hc:c=[]:=bAP.1 hlen;subst hc;refine⟨?_,h⟩;rw[List.eq_nil_iff_forall_not_mem];intro i hi;obtain⟨hun,o,ho,_⟩:=mem_ready.1 hi;have hlt:i<all.size:=(bAH.1 ho).1;have:=(hm i hlt).2 (by rw[aZE]at hun ⊢;rw[bBB Yd]at hun ⊢;exact hun)
  simp at this
 |succ k ih=>
  intro cW a w hs hcl hnodup hm hlt hg ht h;constructor
  ·intro h0;exfalso
   match c,hlen with
   |i::c',_=>
    have hi:i∈Region.ready .any all cW:=by
     refine mem_ready.2 ⟨?_,all[i]'(hlt i aXW),by simp[hlt i aXW],?_⟩
     ·have:=(hm i (hlt i aXW)).1 aXW;rw[aZE]at this ⊢
      rw[bBB (by rw[hs];exact hlt i aXW)]at this ⊢
      exact this
     ·intro e he hb;rcases ht [] i c' rfl _ (by simp[hlt i aXW]) e he hb with h|h
      ·exact h
      ·cases h
    rw[h0]at hi;cases hi
  ·intro i hi;obtain⟨hun,o,ho,hpre⟩:=mem_ready.1 hi;have hil:i<all.size:=(bAH.1 ho).1;have hun':cW.getD i false=false:=by
    rw[aZE]at hun ⊢
    rw[bBB Yd]at hun ⊢
    exact hun
   have hmem:=(hm i hil).2 hun';obtain⟨c1,c2,rfl⟩:=List.append_of_mem hmem;have hfront:∀x∈c1,iM all x=true∧oP all x i=true∧(iM all i=true∨fl i=true∨wU all x=true):=by
    intro x hx;rcases hg c1 i c2 rfl x hx with hr|hr
    ·have hxl:=hlt x (by simp[hx]);have:=rI hcl n i x o ho (fun e he hb=>hpre e he hb) (fun j hj=>by
      rcases Nat.lt_or_ge j cW.size with h|h
      ·omega
      ·simp[Array.getElem?_eq_none h]at hj) hr
     have h2:=(hm x hxl).1 (by simp[hx]);rw[h2]at this;cases this
    ·exact hr
   have hst:=rN hnd hQ c1 c2 a w hfront h;refine wpOpIn_mono (fun a w hh=>?_) hst.wpOpIn;have hlen':(c1++c2).length=k:=by simp at hlen ⊢;omega
   refine ih (c1++c2) hlen' (cW.setIfInBounds i true) a w (by simpa using hs) ?_ ?_ ?_ ?_ hg.erase (ht.erase Yd) hh
   ·intro j oj hj hlj e he hb;by_cases hij:i=j
    ·subst hij;rw[ho]at hj;cases hj
     exact getD_set_true (hpre e he hb)
    ·rw[getD_set_ne false hij]at hlj;exact getD_set_true (hcl j oj hj hlj e he hb)
   ·rw[aXX]at hnodup ⊢
    refine⟨hnodup.1,(aZI.1 hnodup.2.1).2,fun x hx y hy=>hnodup.2.2 x hx y (LE _ hy)⟩
   ·intro j hj;by_cases hij:i=j
    ·subst hij;rw[mZ Yd];constructor
     ·intro hmem;exfalso
      rw[aXX]at hnodup;rcases aYD.1 hmem with G|I
      ·exact hnodup.2.2 i G i aXW rfl
      ·exact(aZI.1 hnodup.2.1).1 I
     ·intro h;cases h
    ·rw[getD_set_ne false hij,←hm j hj];simp only[aYD,GE];constructor
     ·rintro(h|h)
      ·exact aYF h
      ·exact aXR (aXR h)
     ·rintro(h|h|h)
      ·exact aYF h
      ·exact absurd h.symm hij
      ·exact aXR h
   ·intro j hj;refine hlt j ?_;simp only[aYD,GE]at hj ⊢
    rcases hj with h|h
    ·exact aYF h
    ·exact aXR (aXR h)
def cW(all:Array Oper)(n:Nat):List Nat→List Nat→List (Bool×Oper)
 |_,[]=>[]
 |before,i::rest=>(pL all n i before,all.getD i default)::cW all n (before++[i]) rest
theorem OG{n:Nat}{K:Act→World→Prop}{fl:Nat→Bool}:∀(c before:List Nat) (a:Act) (w:World),(∀i∈c,i<all.size)→
  (∀c1 i c2,c=c1++i::c2→fl i=pL all n i (before++c1))→rQ r bad P all K Q (cW all n before c) a w→Q7 r bad P all fl K Q c a w:=by
 intro c;induction c with
 |nil=>intro before a w _ _ h;exact h
 |cons i c ih=>
  intro before a w hlt hf h;have hi:=hlt i aXW;have ho:all[i]?= some all[i]:=by simp[hi]
  have hd:all.getD i default=all[i]:=by simp[hi]
  have hfi:fl i=pL all n i before:=by simpa using hf [] i c rfl
  have hrec:∀a w,rQ r bad P all K Q (cW all n (before++[i]) c) a w→Q7 r bad P all fl K Q c a w:=fun a w hh=>
   ih (before++[i]) a w (fun j hj=>hlt j (LE _ hj)) (fun c1 j c2 he=>by
    rw[hf (i::c1) j c2 (by rw[he];rfl)];simp) hh
  simp only[cW,rQ,hd]at h;simp only[Q7,ho];split at h
  ·rename_i hq;obtain⟨v,hy,h⟩:=h;rw[aYJ hq];exact⟨v,hy,hrec _ _ h⟩
  ·rename_i hq;rw[aYC hq,hfi];exact h.mono hrec
theorem E0{n:Nat}:∀(c before:List Nat),rM all n before c=true→before.Nodup→(before++c).Nodup:=by
 intro c;induction c with
 |nil=>intro before _ h;simpa using h
 |cons i c ih=>
  intro before h hb;simp only[rM,aYB,bCP,bCA,aZK]at h;have:=ih (before++[i]) h.2 (by
   rw[aXX];refine⟨hb,by simp,fun x hx y hy=>?_⟩;simp only[aYH]at hy;rintro rfl;exact h.1.2 (hy▸hx))
  simpa using this
theorem pV{n i x:Nat}:∀{l:List Nat},x∈l→lO all n i x=false→pL all n i l=true
 |y::l,hx,hr=>by
  simp only[pL,aZT,bCP];rcases GE.1 hx with rfl|hx
  ·exact aYF hr
  ·exact aXR (pV hx hr)
theorem aOC{id n:Nat}{c:List Nat}{a:Act}{w:World}(hm:P.follows .mixedOrders=true)(hc:W7 all n c=true)(hQ:PI Q)
  (h:rQ r bad P all (fun a w=>Q .normal a w) Q (cW all n [] c) a {w with drawn:=w.drawn+1}):
  (Code.region id all true).wpIn (FW r) 0 P Q a w:=by
 simp only[W7,aYB,bCC,aYL,bAR,bCA,aYM]at hc;obtain⟨⟨⟨hnd,hlen⟩,hall⟩,hfrom⟩:=hc;have hnodup:c.Nodup:=by simpa using E0 c [] hfrom aZP
 have hlt:∀i∈c,i<all.size:=by
  intro i hi;obtain⟨c1,c2,rfl⟩:=List.append_of_mem hi;have:=(qM _ [] c1 i c2 hfrom rfl).2.1;unfold yG at this;rcases Nat.lt_or_ge i all.size with h|h
  ·exact h
  ·simp[Array.getElem?_eq_none h]at this
 refine wpIn_region_any hm ?_;rw[←hlen];refine l6 (bad:=bad) (fl:=fun i=>pL all n i (c.take (c.idxOf i))) (n:=n) hnd hQ c _ a _ (by simp[hlen]) ?_ hnodup ?_ hlt ?_ ?_ ?_
 ·intro i o ho hl;simp[aZE,Array.getElem?_replicate]at hl;split at hl<;>simp at hl
 ·intro i hi;simp only[aZE,Array.getElem?_replicate,hlen,hi,aZU,bAZ,iff_true];exact hall i hi
 ·intro c1 i c2 he x hx;obtain⟨hg,_,_⟩:=qM _ [] c1 i c2 hfrom he;have h1:=aYL.1 hg x (by simpa using hx);simp only[aZT,aYB]at h1;cases hr:lO all n i x with
  |true=>exact aYF rfl
  |false=>
   rw[hr]at h1;have h1:=h1.resolve_left Ye;refine aXR ⟨h1.1,h1.2,aXR (aYF ?_)⟩;have hni:i∉c1:=by
    rw[he,aXX]at hnodup;intro hm;exact hnodup.2.2 i hm i aXW rfl
   have:c.take (c.idxOf i)=c1:=by
    rw[he,List.idxOf_append,aYC hni,List.idxOf_cons_self];simp
   show pL all n i (c.take (c.idxOf i))=true;rw[this];exact pV hx hr
 ·intro c1 i c2 he o ho e hm hb;obtain⟨_,ht,_⟩:=qM _ [] c1 i c2 hfrom he;unfold yG at ht;rw[ho]at ht;simp only[aYX,bAZ,aYL,aZT,bCP,aYT,bCA,aYM]at ht;rcases ht e (by simpa using hm)with h|h
  ·rw[hb]at h;cases h
  ·exact aXR h
 ·refine OG (n:=n) c [] a _ hlt ?_ h;intro c1 i c2 he;have hni:i∉c1:=by
   rw[he,aXX]at hnodup;intro hm;exact hnodup.2.2 i hm i aXW rfl
  have:c.take (c.idxOf i)=c1:=by
   rw[he,List.idxOf_append,aYC hni,List.idxOf_cons_self];simp
  show pL all n i (c.take (c.idxOf i))=_;rw[this];rfl
def wW(all:Array Oper)(n:Nat):List Nat→List Nat→List Bool
 |_,[]=>[]
 |before,i::rest=>pL all n i before::wW all n (before++[i]) rest
def gH(all:Array Oper)(is:List (Bool×Nat)):List (Bool×Oper):=is.map fun p=>(p.1,all.getD p.2 default)
theorem DQ(all:Array Oper)(n:Nat):∀(c before:List Nat),cW all n before c=gH all ((wW all n before c).zip c)
 | [],_=>rfl
 |i::c,before=>by simp only[cW,wW,gH,bCJ,aYN,DQ all n c]
theorem aHC(all:Array Oper):(all.toList.map fun o=>(false,o))=gH all ((List.range all.size).map fun i=>(false,i)):=by
 apply List.ext_getElem
 ·simp[gH]
 ·intro i h1 h2;simp[gH]at h1 ⊢
  simp[h1]

def GG(all:Array Oper)(n:Nat)(fls:List Bool)(E:List Nat)(i:Nat)(before:List Nat):Bool:=
 before.all fun x=>E.contains x||lO all n i x||(iM all x&&oP all x i&&(iM all i||(fls.getD i false||wU all x)))
def B1(all:Array Oper)(n:Nat)(E:List Nat)(fl:Nat→Bool)(c:List Nat):Prop:=
 ∀c1 i c2,c=c1++i::c2→∀x∈c1,x∈E∨lO all n i x=true∨(iM all x=true∧oP all x i=true∧(iM all i=true∨fl i=true∨wU all x=true))
theorem B1.erase{n:Nat}{E:List Nat}{fl:Nat→Bool}{c1 c2:List Nat}{i:Nat}(h:B1 all n E fl (c1++i::c2)):B1 all n E fl (c1++c2):=by
 intro G j d2 he x hx;rcases W3 he with⟨t,h1,h2⟩|⟨t,h1,h2⟩
 ·exact h G j (t++i::c2) (by rw[h1];simp) x hx
 ·refine h (c1++i::t) j d2 (by rw[h2];simp) x ?_;rw[h1]at hx;simp only[aYD,GE]at hx ⊢
  rcases hx with hx|hx
  ·exact aYF hx
  ·exact aXR (aXR hx)
theorem B1.none{n:Nat}{E:List Nat}{fl:Nat→Bool}{c:List Nat}(h:B1 all n E fl c)(hp:∀e∈E,e∉c):yL all n fl c:=by
 intro c1 i c2 he x hx;rcases h c1 i c2 he x hx with h|h
 ·exact absurd (by rw[he];simp[hx]) (hp x h)
 ·exact h
theorem nO{fl:Nat→Bool}{K:Act→World→Prop}:∀(c d:List Nat) (a:Act) (w:World),Q7 r bad P all fl (Q7 r bad P all fl K Q d) Q c a w→Q7 r bad P all fl K Q (c++d) a w
 | [],d,a,w,h=>h
 |i::c,d,a,w,h=>by
  rw[aZV,oO];rw[oO]at h;exact h.mono fun a w=>nO c d a w
structure BS(all:Array Oper)(n:Nat)(cW:Array Bool)(c:List Nat):Prop where
 size:cW.size=all.size
 closed:OL all cW
 nodup:c.Nodup
 mem:∀i,i<all.size→(i∈c ↔ cW.getD i false=false)
 lt:∀i∈c,i<all.size
 topo:vD all cW c
theorem BS.step{n:Nat}{cW:Array Bool}{c1 c2:List Nat}{i:Nat}{o:Oper}(h:BS all n cW (c1++i::c2))(ho:all[i]?= some o)(hpre:∀e∈o.after,Region.binds .any e=true→cW.getD e.on false=true):BS all n (cW.setIfInBounds i true) (c1++c2):=by
 have hil:i<all.size:=(bAH.1 ho).1;have hs:=h.size;refine⟨by simpa using hs,?_,?_,?_,?_,h.topo.erase Yd⟩
 ·intro j oj hj hlj e he hb;by_cases hij:i=j
  ·subst hij;rw[ho]at hj;cases hj
   exact getD_set_true (hpre e he hb)
  ·rw[getD_set_ne false hij]at hlj;exact getD_set_true (h.closed j oj hj hlj e he hb)
 ·have hnodup:=h.nodup;rw[aXX]at hnodup ⊢
  exact⟨hnodup.1,(aZI.1 hnodup.2.1).2,fun x hx y hy=>hnodup.2.2 x hx y (LE _ hy)⟩
 ·intro j hj;have hnodup:=h.nodup;by_cases hij:i=j
  ·subst hij;rw[mZ Yd];constructor
   ·intro hmem;exfalso
    rw[aXX]at hnodup;rcases aYD.1 hmem with G|I
    ·exact hnodup.2.2 i G i aXW rfl
    ·exact(aZI.1 hnodup.2.1).1 I
   ·intro h;cases h
  ·rw[getD_set_ne false hij,←h.mem j hj];simp only[aYD,GE];constructor
   ·rintro(h|h)
    ·exact aYF h
    ·exact aXR (aXR h)
   ·rintro(h|h|h)
    ·exact aYF h
    ·exact absurd h.symm hij
    ·exact aXR h
 ·intro j hj;refine h.lt j ?_;simp only[aYD,GE]at hj ⊢
  rcases hj with h|h
  ·exact aYF h
  ·exact aXR (aXR h)
inductive hC where
 |fin (c:List Nat)
 |fork (d:List Nat) (p:Nat) (A:hC) (q:Nat) (B:hC)
 |forkN (d:List Nat) (p:Nat) (ps:List Nat) (A:Nat→hC)
def hC.list:hC→List Nat
 |.fin c=>c
 |.fork d p A _ _=>d++p::A.list
 |.forkN d p _ A=>d++p::(A p).list
def mX:List hC→List Nat
 | []=>[]
 |pl::segs=>pl.list++mX segs
def aBO(r:Option Nat){γb:Type}[Membership Nat γb](bad:γb)(P:Program)(all:Array Oper)(fl:Nat→Bool)(Q:Exit→Act→World→Prop)(kont:Act→World→Prop):hC→Act→World→Prop
 |.fin c=>Q7 r bad P all fl kont Q c
 |.fork d p A q B=>Q7 r bad P all fl (fun a w=>lF r bad P all fl Q p (aBO r bad P all fl Q kont A) a w∧lF r bad P all fl Q q (aBO r bad P all fl Q kont B) a w) Q d
 |.forkN d p ps A=>Q7 r bad P all fl (fun a w=>∀i∈p::ps,lF r bad P all fl Q i (aBO r bad P all fl Q kont (A i)) a w) Q d
def aXO(r:Option Nat){γb:Type}[Membership Nat γb](bad:γb)(P:Program)(all:Array Oper)(fl:Nat→Bool)(Q:Exit→Act→World→Prop):List hC→Act→World→Prop
 | []=>fun a w=>Q .normal a w
 |pl::segs=>aBO r bad P all fl Q (aXO r bad P all fl Q segs) pl
def jO(all:Array Oper)(n:Nat)(cont:List Nat→List Nat→Array Bool→Prop)(rest:List Nat):hC→List Nat→List Nat→Array Bool→Prop
 |.fin c,pre,E,L=>cont (pre++c) E L
 |.fork d p A q B,pre,E,L=>jO all n cont rest A (pre++d++[p]) (p::E) L∧jO all n cont rest B (pre++d++[q]) (q::E) L∧q∈A.list++rest∧A.list.length=B.list.length∧∀i∈A.list++rest,i=q∨lO all n i p=true∨lO all n i q=true
 |.forkN d p ps A,pre,E,L=>(∀i∈p::ps,jO all n cont rest (A i) (pre++d++[i]) (i::E) L∧(A i).list.length=(A p).list.length∧(i=p∨i∈(A p).list++rest))∧∀i∈(A p).list++rest,i∈ps∨∃q∈p::ps,lO all n i q=true
def aDI(all:Array Oper)(n:Nat)(fl:Nat→Bool):List hC→List Nat→List Nat→Array Bool→Prop
 | [],pre,E,L=>BS all n L pre∧B1 all n E fl pre
 |pl::segs,pre,E,L=>jO all n (aDI all n fl segs) (mX segs) pl pre E L
structure l5(all:Array Oper)(n:Nat)(fl:Nat→Bool)(cont:List Nat→List Nat→Array Bool→Prop)(rest:List Nat):Prop where
 part:∀pre E L,cont pre E L→BS all n L (pre++rest)
 good:∀pre E L,cont pre E L→B1 all n E fl pre
 erase:∀c1 i c2 E L (o:Oper),all[i]?= some o→(∀e∈o.after,Region.binds .any e=true→L.getD e.on false=true)→cont (c1++i::c2) E L→cont (c1++c2) E (L.setIfInBounds i true)
theorem jO.part{n:Nat}{fl:Nat→Bool}{cont:List Nat→List Nat→Array Bool→Prop}{rest:List Nat}(hc:l5 all n fl cont rest):∀{pl:hC} {pre E:List Nat} {L:Array Bool},jO all n cont rest pl pre E L→BS all n L (pre++(pl.list++rest))
 |.fin c,pre,E,L,h=>by
  have:=hc.part _ _ _ h;rw[aYA]at this;exact this
 |.fork d p A q B,pre,E,L,h=>by
  have:=jO.part hc h.1;simpa [hC.list]using this
 |.forkN d p ps A,pre,E,L,h=>by
  have:=jO.part hc (h.1 p aXW).1;simpa [hC.list]using this
theorem jO.good{n:Nat}{fl:Nat→Bool}{cont:List Nat→List Nat→Array Bool→Prop}{rest:List Nat}(hc:l5 all n fl cont rest):∀{pl:hC} {pre E:List Nat} {L:Array Bool},jO all n cont rest pl pre E L→B1 all n E fl pre
 |.fin c,pre,E,L,h=>by
  intro c1 i c2 he x hx;exact hc.good _ _ _ h c1 i (c2++c) (by rw[he];simp) x hx
 |.fork d p A q B,pre,E,L,h=>by
  intro c1 i c2 he x hx;have h1:=jO.good hc h.1 c1 i (c2++d++[p]) (by rw[he];simp) x hx
  have hn:=(jO.part hc h.1).nodup;rcases h1 with h1|h1
  ·rcases GE.1 h1 with rfl|h1
   ·exfalso
    rw[he]at hn;simp only[aYA]at hn;rw[aXX]at hn;exact hn.2.2 x hx x Ye rfl
   ·exact aYF h1
  ·exact aXR h1
 |.forkN d p ps A,pre,E,L,h=>by
  intro c1 i c2 he x hx;have h1:=jO.good hc (h.1 p aXW).1 c1 i (c2++d++[p]) (by rw[he];simp) x hx
  have hn:=(jO.part hc (h.1 p aXW).1).nodup;rcases h1 with h1|h1
  ·rcases GE.1 h1 with rfl|h1
   ·exfalso
    rw[he]at hn;simp only[aYA]at hn;rw[aXX]at hn;exact hn.2.2 x hx x Ye rfl
   ·exact aYF h1
  ·exact aXR h1
theorem jO.erase{n:Nat}{fl:Nat→Bool}{cont:List Nat→List Nat→Array Bool→Prop}{rest:List Nat}(hc:l5 all n fl cont rest){i:Nat}{o:Oper}(ho:all[i]?= some o){L:Array Bool}(hpre:∀e∈o.after,Region.binds .any e=true→L.getD e.on false=true):∀{pl:hC} {c1 c2 E:List Nat},jO all n cont rest pl (c1++i::c2) E L→jO all n cont rest pl (c1++c2) E (L.setIfInBounds i true)
 |.fin c,c1,c2,E,h=>by
  have h':cont (c1++i::(c2++c)) E L:=by
   have h2:cont (c1++i::c2++c) E L:=h;simpa using h2
  have:=hc.erase c1 i (c2++c) E L o ho hpre h';show cont (c1++c2++c) E _;rw[aYA];exact this
 |.fork d p A q B,c1,c2,E,h=>by
  obtain⟨h1,h2,h3⟩:=h;have e:∀z:Nat,c1++i::c2++d++[z]=c1++i::(c2++d++[z]):=fun z=>by simp
  have e':∀z:Nat,c1++(c2++d++[z])=c1++c2++d++[z]:=fun z=>by simp
  rw[e]at h1 h2;have G:=jO.erase hc ho hpre h1;have I:=jO.erase hc ho hpre h2;rw[e']at G I;exact⟨G,I,h3⟩
 |.forkN d p ps A,c1,c2,E,h=>by
  refine⟨fun z hz=>?_,h.2⟩;obtain⟨h1,h2,h3⟩:=h.1 z hz;have e:c1++i::c2++d++[z]=c1++i::(c2++d++[z]):=by simp
  have e':c1++(c2++d++[z])=c1++c2++d++[z]:=by simp
  rw[e]at h1;have G:=jO.erase hc ho hpre h1;rw[e']at G;exact⟨G,h2,h3⟩
theorem HZ(n:Nat)(fl:Nat→Bool):∀segs:List hC,l5 all n fl (aDI all n fl segs) (mX segs)
 | []=>⟨fun pre E L h=>by rw[mX,aXS];exact h.1,fun pre E L h=>h.2,fun c1 i c2 E L o ho hpre h=>⟨h.1.step ho hpre,h.2.erase⟩⟩
 |_::segs=>⟨fun pre E L h=>jO.part (HZ n fl segs) h,fun pre E L h=>jO.good (HZ n fl segs) h,fun c1 i c2 E L o ho hpre h=>jO.erase (HZ n fl segs) ho hpre h⟩
theorem BS.frontE{n:Nat}{E:List Nat}{fl:Nat→Bool}{cW:Array Bool}{c1 c2 c3:List Nat}{i:Nat}{o:Oper}(h:BS all n cW (c1++i::c3))(hg:B1 all n E fl (c1++i::c2))(ho:all[i]?= some o)(hpre:∀e∈o.after,Region.binds .any e=true→cW.getD e.on false=true)(hE:∀e∈E,e∉c1):
  ∀x∈c1,iM all x=true∧oP all x i=true∧(iM all i=true∨fl i=true∨wU all x=true):=by
 intro x hx;rcases hg c1 i c2 rfl x hx with he|hr|hr
 ·exact absurd hx (hE x he)
 ·have hxl:=h.lt x (by simp[hx]);have:=rI h.closed n i x o ho hpre (fun j hj=>by
   rcases Nat.lt_or_ge j cW.size with h'|h'
   ·have:=h.size;omega
   ·simp[Array.getElem?_eq_none h']at hj) hr
  have h2:=(h.mem x hxl).1 (by simp[hx]);rw[h2]at this;cases this
 ·exact hr
theorem I2{fl:Nat→Bool}{K:Act→World→Prop}{i:Nat}{a:Act}{w:World}(h:lF r bad P all fl Q i K a w):Q7 r bad P all fl K Q [i] a w:=by
 rw[oO];exact h
theorem tM{n:Nat}{fl:Nat→Bool}{cont:List Nat→List Nat→Array Bool→Prop}{rest:List Nat}{kont:Act→World→Prop}(hnd:oN all=true)(hQ:PI Q)(hc:l5 all n fl cont rest)
  (hcont:∀(pre E:List Nat) (L:Array Bool) (a:Act) (w:World),(∀e∈E,L.getD e false=true)→cont pre E L→Q7 r bad P all fl kont Q pre a w→wpAnyIn (FW r) 0 P .any all Q (pre++rest).length L a w):
  ∀(pl:hC) (pre E:List Nat) (L:Array Bool) (a:Act) (w:World),(∀e∈E,L.getD e false=true)→jO all n cont rest pl pre E L→Q7 r bad P all fl (aBO r bad P all fl Q kont pl) Q pre a w→
  wpAnyIn (FW r) 0 P .any all Q (pre++(pl.list++rest)).length L a w
 |.fin c,pre,E,L,a,w,hE,hr,h=>by
  have:=hcont (pre++c) E L a w hE hr (nO pre c a w h);rw[aYA]at this;exact this
 |.fork d p A q B,pre,E,L,a,w,hE,hr,h=>by
  have hmain:∀(m:Nat) (d':List Nat) (L:Array Bool) (a:Act) (w:World),d'.length=m→(∀e∈E,L.getD e false=true)→jO all n cont rest A (d'++[p]) (p::E) L→jO all n cont rest B (d'++[q]) (q::E) L→q∈A.list++rest→A.list.length=B.list.length→(∀i∈A.list++rest,i=q∨lO all n i p=true∨lO all n i q=true)→
    Q7 r bad P all fl (fun a w=>lF r bad P all fl Q p (aBO r bad P all fl Q kont A) a w∧lF r bad P all fl Q q (aBO r bad P all fl Q kont B) a w) Q d' a w→wpAnyIn (FW r) 0 P .any all Q (d'++p::(A.list++rest)).length L a w:=by
   intro m;induction m using Nat.strongRecOn with
   |_ m ih=>
   intro d' L a w hm hE hA hB hqA hlen he h;have h1:=jO.part hc hA;have h2:=jO.part hc hB;rw[aYA]at h1 h2;have gA:=jO.good hc hA;have gB:=jO.good hc hB;simp only[bBC]at h1 h2;obtain⟨k,hk⟩:∃k,(d'++p::(A.list++rest)).length=k+1:=⟨d'.length+(A.list++rest).length,by simp;omega⟩
   rw[hk];constructor
   ·intro h0;exfalso
    match hcc:d'++p::(A.list++rest),hk with
    |i::c',_=>
     rw[hcc]at h1;have hil:=h1.lt i aXW;have hi:i∈Region.ready .any all L:=by
      refine mem_ready.2 ⟨?_,all[i],by simp[hil],?_⟩
      ·have:=(h1.mem i hil).1 aXW;rw[aZE]at this ⊢
       rw[bBB (by rw[h1.size];exact hil)]at this ⊢
       exact this
      ·intro e he hb;rcases h1.topo [] i c' rfl _ (by simp[hil]) e he hb with h|h
       ·exact h
       ·cases h
     rw[h0]at hi;cases hi
   ·intro i hi;obtain⟨hun,o,ho,hpre⟩:=mem_ready.1 hi;have hil:i<all.size:=(bAH.1 ho).1;have hun':L.getD i false=false:=by
     have:=h1.size;rw[aZE]at hun ⊢
     rw[bBB Yd]at hun ⊢
     exact hun
    have hmem:=(h1.mem i hil).2 hun';have G:∀x,x∈d'++p::(A.list++rest)→lO all n i x=true→False:=by
     intro x hx hr;have:=rI h1.closed n i x o ho hpre (fun j hj=>by
      rcases Nat.lt_or_ge j L.size with h'|h'
      ·have:=h1.size;omega
      ·simp[Array.getElem?_eq_none h']at hj) hr
     have h2:=(h1.mem x (h1.lt x hx)).1 hx;rw[h2]at this;cases this
    have hEd:∀e∈E,e∉d':=fun e he hm=>by
     have:=(h1.mem e (h1.lt e (by simp[hm]))).1 (by simp[hm]);rw[hE e he]at this;cases this
    have hnA:p∉d':=fun hp=>by
     have hn:=h1.nodup;rw[aXX]at hn;exact hn.2.2 p hp p Ye rfl
    have hnB:q∉d':=fun hp=>by
     have hn:=h2.nodup;rw[aXX]at hn;exact hn.2.2 q hp q Ye rfl
    rw[aYD,GE]at hmem;rcases hmem with hm'|rfl|hm'
    ·obtain⟨c1,c2,rfl⟩:=List.append_of_mem hm';have O:∀z:Nat,(c1++i::c2)++[z]=c1++i::(c2++[z]):=fun z=>by simp
     have R:∀z:Nat,c1++(c2++[z])=(c1++c2)++[z]:=fun z=>by simp
     rw[O]at hA hB gA;have I:(c1++i::(c2++p::(A.list++rest))).length=k+1:=by rw[←hk];simp
     have h1':BS all n L (c1++i::(c2++p::(A.list++rest))):=by simpa using h1
     have hf:=h1'.frontE gA ho hpre (fun e he hm=>by
      rcases GE.1 he with rfl|he
      ·exact hnA (by simp[hm])
      ·exact hEd e he (by simp[hm]))
     have hst:=rN hnd hQ c1 c2 a w hf h;refine wpOpIn_mono (fun a w hh=>?_) hst.wpOpIn;have sA:=jO.erase hc ho hpre hA;have sB:=jO.erase hc ho hpre hB;rw[R]at sA sB;have:=ih (c1++c2).length (by rw[←hm];simp) (c1++c2) _ a w rfl (fun e he=>getD_set_true (hE e he)) sA sB hqA hlen ‹_› hh
     have hl:((c1++c2)++p::(A.list++rest)).length=k:=by simp at I ⊢;omega
     rw[hl]at this;exact this
    ·have hw:=nO (K:=fun a w=>aBO r bad P all fl Q kont A a w) d' [i] a w (sD (fun _ _ h=>I2 h.1) d' h);have hf:=h1.frontE (c2:=[]) gA ho hpre (fun e he hm=>by
      rcases GE.1 he with rfl|he
      ·exact hnA hm
      ·exact hEd e he hm)
     have hst:=rN hnd hQ d' [] a w hf hw;refine wpOpIn_mono (fun a w hh=>?_) hst.wpOpIn;have sA:=jO.erase hc ho hpre hA;rw[aXS]at sA hh;have:=tM hnd hQ hc hcont A d' (i::E) _ a w (fun e he=>by
      rcases GE.1 he with rfl|he
      ·exact mZ (by rw[h1.size];exact hil)
      ·exact getD_set_true (hE e he)) sA hh
     have hl:(d'++(A.list++rest)).length=k:=by simp at hk ⊢;omega
     rw[hl]at this;exact this
    ·by_cases hiq:i=q
     ·subst hiq;have hw:=nO (K:=fun a w=>aBO r bad P all fl Q kont B a w) d' [i] a w (sD (fun _ _ h=>I2 h.2) d' h);have hf:=h2.frontE (c2:=[]) gB ho hpre (fun e he hm=>by
       rcases GE.1 he with rfl|he
       ·exact hnB hm
       ·exact hEd e he hm)
      have hst:=rN hnd hQ d' [] a w hf hw;refine wpOpIn_mono (fun a w hh=>?_) hst.wpOpIn;have sB:=jO.erase hc ho hpre hB;rw[aXS]at sB hh;have:=tM hnd hQ hc hcont B d' (i::E) _ a w (fun e he=>by
       rcases GE.1 he with rfl|he
       ·exact mZ (by rw[h1.size];exact hil)
       ·exact getD_set_true (hE e he)) sB hh
      have hl:(d'++(B.list++rest)).length=k:=by simp at hk ⊢;omega
      rw[hl]at this;exact this
     ·exfalso
      rcases he i hm' with hr|hr|hr
      ·exact hiq hr
      ·exact G p Ye hr
      ·exact G q (n5 _ (LE _ hqA)) hr
  obtain⟨hA,hB,hqA,hlen,he⟩:=hr;have:=hmain (pre++d).length (pre++d) L a w rfl hE hA hB hqA hlen he (nO pre d a w h);have e:pre++d++p::(A.list++rest)=pre++((hC.fork d p A q B).list++rest):=by simp[hC.list]
  rw[e]at this;exact this

 |.forkN d p ps A,pre,E,L,a,w,hE,hr,h=>by
  have hmain:∀(m:Nat) (d':List Nat) (L:Array Bool) (a:Act) (w:World),d'.length=m→(∀e∈E,L.getD e false=true)→(∀i∈p::ps,jO all n cont rest (A i) (d'++[i]) (i::E) L∧(A i).list.length=(A p).list.length∧(i=p∨i∈(A p).list++rest))→(∀i∈(A p).list++rest,i∈ps∨∃q∈p::ps,lO all n i q=true)→
    Q7 r bad P all fl (fun a w=>∀i∈p::ps,lF r bad P all fl Q i (aBO r bad P all fl Q kont (A i)) a w) Q d' a w→wpAnyIn (FW r) 0 P .any all Q (d'++p::((A p).list++rest)).length L a w:=by
   intro m;induction m using Nat.strongRecOn with
   |_ m ih=>
   intro d' L a w hm hE hA he h;have h1:=jO.part hc (hA p aXW).1;rw[aYA]at h1;simp only[bBC]at h1;obtain⟨k,hk⟩:∃k,(d'++p::((A p).list++rest)).length=k+1:=⟨d'.length+((A p).list++rest).length,by simp;omega⟩
   rw[hk];constructor
   ·intro h0;exfalso
    match hcc:d'++p::((A p).list++rest),hk with
    |i::c',_=>
     rw[hcc]at h1;have hil:=h1.lt i aXW;have hi:i∈Region.ready .any all L:=by
      refine mem_ready.2 ⟨?_,all[i],by simp[hil],?_⟩
      ·have:=(h1.mem i hil).1 aXW;rw[aZE]at this ⊢
       rw[bBB (by rw[h1.size];exact hil)]at this ⊢
       exact this
      ·intro e he hb;rcases h1.topo [] i c' rfl _ (by simp[hil]) e he hb with h|h
       ·exact h
       ·cases h
     rw[h0]at hi;cases hi
   ·intro i hi;obtain⟨hun,o,ho,hpre⟩:=mem_ready.1 hi;have hil:i<all.size:=(bAH.1 ho).1;have hun':L.getD i false=false:=by
     have:=h1.size;rw[aZE]at hun ⊢
     rw[bBB Yd]at hun ⊢
     exact hun
    have hmem:=(h1.mem i hil).2 hun';have G:∀x,x∈d'++p::((A p).list++rest)→lO all n i x=true→False:=by
     intro x hx hr;have:=rI h1.closed n i x o ho hpre (fun j hj=>by
      rcases Nat.lt_or_ge j L.size with h'|h'
      ·have:=h1.size;omega
      ·simp[Array.getElem?_eq_none h']at hj) hr
     have h2:=(h1.mem x (h1.lt x hx)).1 hx;rw[h2]at this;cases this
    have hEd:∀e∈E,e∉d':=fun e he hm=>by
     have:=(h1.mem e (h1.lt e (by simp[hm]))).1 (by simp[hm]);rw[hE e he]at this;cases this
    have hnz:∀z∈p::ps,z∉d':=fun z hz hp=>by
     have hn:=(jO.part hc (hA z hz).1).nodup;rw[aYA,aXX]at hn;exact hn.2.2 z hp z Ye rfl
    have hin:∀z∈p::ps,z∈d'++p::((A p).list++rest):=fun z hz=>by
     rcases(hA z hz).2.2 with rfl|hz'
     ·simp
     ·exact n5 _ (LE _ hz')
    by_cases hz:i∈p::ps
    ·have h2:=jO.part hc (hA i hz).1;rw[aYA]at h2;simp only[bBC]at h2;have hw:=nO (K:=fun a w=>aBO r bad P all fl Q kont (A i) a w) d' [i] a w (sD (fun _ _ h=>I2 (h i hz)) d' h);have hf:=h2.frontE (c2:=[]) (jO.good hc (hA i hz).1) ho hpre (fun e he hm=>by
      rcases GE.1 he with rfl|he
      ·exact hnz _ hz hm
      ·exact hEd e he hm)
     have hst:=rN hnd hQ d' [] a w hf hw;refine wpOpIn_mono (fun a w hh=>?_) hst.wpOpIn;have sA:=jO.erase hc ho hpre (hA i hz).1;rw[aXS]at sA hh;have:=tM hnd hQ hc hcont (A i) d' (i::E) _ a w (fun e he=>by
      rcases GE.1 he with rfl|he
      ·exact mZ (by rw[h1.size];exact hil)
      ·exact getD_set_true (hE e he)) sA hh
     have hl:(d'++((A i).list++rest)).length=k:=by
      have:=(hA i hz).2.1;simp at hk ⊢;omega
     rw[hl]at this;exact this
    ·rw[aYD,GE]at hmem;rcases hmem with hm'|rfl|hm'
     ·obtain⟨c1,c2,rfl⟩:=List.append_of_mem hm';have O:∀z:Nat,(c1++i::c2)++[z]=c1++i::(c2++[z]):=fun z=>by simp
      have R:∀z:Nat,c1++(c2++[z])=(c1++c2)++[z]:=fun z=>by simp
      have gA:=jO.good hc (hA p aXW).1;rw[O]at gA;have I:(c1++i::(c2++p::((A p).list++rest))).length=k+1:=by rw[←hk];simp
      have h1':BS all n L (c1++i::(c2++p::((A p).list++rest))):=by simpa using h1
      have hf:=h1'.frontE gA ho hpre (fun e he hm=>by
       rcases GE.1 he with rfl|he
       ·exact hnz _ aXW (by simp[hm])
       ·exact hEd e he (by simp[hm]))
      have hst:=rN hnd hQ c1 c2 a w hf h;refine wpOpIn_mono (fun a w hh=>?_) hst.wpOpIn;have:=ih (c1++c2).length (by rw[←hm];simp) (c1++c2) _ a w rfl (fun e he=>getD_set_true (hE e he)) (fun z hz=>by
       have M:=(hA z hz).1;rw[O]at M;have sA:=jO.erase hc ho hpre M;rw[R]at sA;exact⟨sA,(hA z hz).2⟩) he hh
      have hl:((c1++c2)++p::((A p).list++rest)).length=k:=by simp at I ⊢;omega
      rw[hl]at this;exact this
     ·exact absurd aXW hz
     ·rcases he i hm' with hr|⟨q,hq,hr⟩
      ·exact absurd (LE _ hr) hz
      ·exact(G q (hin q hq) hr).elim
  obtain⟨hA,he⟩:=hr;have:=hmain (pre++d).length (pre++d) L a w rfl hE hA he (nO pre d a w h);have e:pre++d++p::((A p).list++rest)=pre++((hC.forkN d p ps A).list++rest):=by simp[hC.list]
  rw[e]at this;exact this
theorem W6{n:Nat}{fl:Nat→Bool}(hnd:oN all=true)(hQ:PI Q):∀(segs:List hC) (pre E:List Nat) (L:Array Bool) (a:Act) (w:World),(∀e∈E,L.getD e false=true)→aDI all n fl segs pre E L→Q7 r bad P all fl (aXO r bad P all fl Q segs) Q pre a w→
  wpAnyIn (FW r) 0 P .any all Q (pre++mX segs).length L a w
 | [],pre,E,L,a,w,hE,hr,h=>by
  obtain⟨hp,hg⟩:=hr;rw[mX,aXS];refine l6 hnd hQ pre L a w hp.size hp.closed hp.nodup hp.mem hp.lt (hg.none fun e he hm=>?_) hp.topo h;have:=(hp.mem e (hp.lt e hm)).1 hm;rw[hE e he]at this;cases this
 |pl::segs,pre,E,L,a,w,hE,hr,h=>
  tM hnd hQ (HZ n fl segs) (W6 hnd hQ segs) pl pre E L a w hE hr h

def SW(all:Array Oper)(n:Nat)(fls:List Bool)(S:List Nat)(i:Nat):Bool:=S.all fun x=>lO all n i x||(iM all x&&oP all x i&&(iM all i||(fls.getD i false||wU all x)))
def sN(all:Array Oper)(n:Nat)(fls:List Bool)(S E:List Nat):List Nat→List Nat→Bool
 |_,[]=>true
 |before,i::rest=>GG all n fls E i before&&SW all n fls S i&&yG all i (S++before)&& !(S++before).contains i&&Nat.blt i all.size&&sN all n fls S E (before++[i]) rest
def tP(all:Array Oper)(n:Nat)(fls:List Bool)(S rest T:List Nat):hC→List Nat→List Nat→Bool
 |.fin c,pre,E=>sN all n fls S E [] (pre++c)&&Nat.beq (pre++c).length T.length&&(pre++c).all T.contains&&T.all (pre++c).contains
 |.fork d p A q B,pre,E=>tP all n fls S rest T A (pre++d++[p]) (p::E)&&tP all n fls S rest T B (pre++d++[q]) (q::E)&&((A.list++rest).any fun i=>Nat.beq i q)&&Nat.beq A.list.length B.list.length&&(A.list++rest).all fun i=>Nat.beq i q||(lO all n i p||lO all n i q)
 |.forkN d p ps A,pre,E=>(p::ps).all (fun i=>tP all n fls S rest T (A i) (pre++d++[i]) (i::E)&&Nat.beq (A i).list.length (A p).list.length&&(Nat.beq i p||((A p).list++rest).contains i))&&((A p).list++rest).all fun i=>ps.contains i||(p::ps).any fun q=>lO all n i q
def pN(all:Array Oper)(n:Nat)(fls:List Bool):List Nat→List hC→Bool
 |S,[]=>oN all&&Nat.beq S.length all.size&&(List.range all.size).all S.contains
 |S,pl::segs=>tP all n fls S (mX segs) pl.list pl [] []&&pN all n fls (S++pl.list) segs
structure DE(all:Array Oper)(n:Nat)(fls:List Bool)(S pre E:List Nat):Prop where
 nodup:pre.Nodup
 mem:∀i,i∈pre ↔ i∈S
 lt:∀i∈pre,i<all.size
 good:B1 all n E (fun i=>fls.getD i false) pre
 topo:vD all (Array.replicate all.size false) pre
 len:pre.length=S.length
theorem HA{n:Nat}{S E:List Nat}{fls:List Bool}:∀(c before c1:List Nat) (i:Nat) (c2:List Nat),sN all n fls S E before c=true→c=c1++i::c2→
  GG all n fls E i (before++c1)=true∧SW all n fls S i=true∧yG all i (S++(before++c1))=true∧i∉S++(before++c1)∧i<all.size:=by
 intro c;induction c with
 |nil=>intro before c1 i c2 _ h;simp at h
 |cons x c ih=>
  intro before c1 i c2 hc h;simp only[sN,aYB]at hc;obtain⟨⟨⟨⟨⟨g,cr⟩,t⟩,nm⟩,lt⟩,hc⟩:=hc;cases c1 with
  |nil=>
   simp only[aYT,aZS]at h;rw[←h.1,aXS];exact⟨g,cr,t,by simpa using nm,by simpa [bCU]using lt⟩
  |cons y c1=>
   simp only[aZV,aZS]at h;have:=ih (before++[x]) c1 i c2 hc h.2;rw[h.1]at this;simpa using this
theorem DE.more{n:Nat}{fls:List Bool}{S pre E E' T c:List Nat}(h:DE all n fls S pre E)(hE:∀e∈E,e∈E')(hc:sN all n fls S E' [] c=true)(hT:∀i,i∈c ↔ i∈T)(hl:c.length=T.length):DE all n fls (S++T) (pre++c) E':=by
 have sp:=fun c1 i c2 he=>HA c [] c1 i c2 hc he
 simp only[aYT]at sp;have hcn:c.Nodup:=by
  have key:∀(c before:List Nat),sN all n fls S E' before c=true→before.Nodup→(before++c).Nodup:=by
   intro c;induction c with
   |nil=>intro before _ h;simpa using h
   |cons i c ih=>
    intro before h hb;simp only[sN,aYB]at h;have hn:i∉S++before:=by simpa using h.1.1.2
    have:=ih (before++[i]) h.2 (by
     rw[aXX];refine⟨hb,by simp,fun x hx y hy=>?_⟩;simp only[aYH]at hy;rintro rfl;exact hn (n5 _ (hy▸hx)))
    simpa using this
  simpa using key c [] hc aZP
 have hcS:∀i∈c,i∉S:=fun i hi=>by
  obtain⟨c1,c2,rfl⟩:=List.append_of_mem hi;have:=(sp c1 i c2 rfl).2.2.2.1;exact fun hS=>this (aXU _ hS)
 refine⟨?_,fun i=>?_,fun i hi=>?_,?_,?_,by simp[h.len,hl]⟩
 ·rw[aXX];exact⟨h.nodup,hcn,fun x hx y hy=>by rintro rfl;exact hcS x hy ((h.mem x).1 hx)⟩
 ·simp[h.mem,hT]
 ·rcases aYD.1 hi with hi|hi
  ·exact h.lt i hi
  ·obtain⟨c1,c2,rfl⟩:=List.append_of_mem hi;exact(sp c1 i c2 rfl).2.2.2.2
 ·intro G i d2 he x hx;rcases List.append_eq_append_iff.1 he with⟨t,h1,h2⟩|⟨t,h1,h2⟩
  ·rw[h1]at hx;obtain⟨g,cr,_⟩:=sp t i d2 h2;rcases aYD.1 hx with hx|hx
   ·have:=aYL.1 cr x ((h.mem x).1 hx);simp only[aZT,aYB]at this;rcases this with h'|h'
    ·exact aXR (aYF h')
    ·exact aXR (aXR ⟨h'.1.1,h'.1.2,h'.2⟩)
   ·have:=aYL.1 g x hx;simp only[aZT,aYB]at this;rcases this with(h'|h')|h'
    ·exact aYF (by simpa using h')
    ·exact aXR (aYF h')
    ·exact aXR (aXR ⟨h'.1.1,h'.1.2,h'.2⟩)
  ·cases t with
   |nil=>
    rw[aXS]at h1;rw[aYT]at h2;rw[←h1]at hx;obtain⟨g,cr,_⟩:=sp [] i d2 h2.symm;have:=aYL.1 cr x ((h.mem x).1 hx);simp only[aZT,aYB]at this;rcases this with h'|h'
    ·exact aXR (aYF h')
    ·exact aXR (aXR ⟨h'.1.1,h'.1.2,h'.2⟩)
   |cons z t=>
    simp only[aZV,aZS]at h2;rw[←h2.1]at h1;rcases h.good G i t h1 x hx with h'|h'
    ·exact aYF (hE x h')
    ·exact aXR h'
 ·intro G i d2 he o ho e hm hb;rcases List.append_eq_append_iff.1 he with⟨t,h1,h2⟩|⟨t,h1,h2⟩
  ·obtain⟨_,_,tp,_⟩:=sp t i d2 h2;unfold yG at tp;rw[ho]at tp;simp only[aYX,bAZ,aYL,aZT,bCP,bCA,aYM]at tp;rcases tp e (by simpa using hm)with h'|h'
   ·rw[hb]at h';cases h'
   ·rw[h1];rcases aYD.1 h' with h'|h'
    ·exact aXR (aXU _ ((h.mem _).2 h'))
    ·exact aXR (n5 _ h')
  ·cases t with
   |nil=>
    rw[aXS]at h1;rw[aYT]at h2;obtain⟨_,_,tp,_⟩:=sp [] i d2 h2.symm;unfold yG at tp;rw[ho]at tp;simp only[aYX,bAZ,aYL,aZT,bCP,bCA,aYM]at tp;rcases tp e (by simpa using hm)with h'|h'
    ·rw[hb]at h';cases h'
    ·rw[←h1];rcases aYD.1 h' with h'|h'
     ·exact aXR ((h.mem _).2 h')
     ·cases h'
   |cons z t=>
    simp only[aZV,aZS]at h2;rw[←h2.1]at h1;exact h.topo G i t h1 o ho e hm hb
theorem tX{n:Nat}{fls:List Bool}{S rest T pre E:List Nat}{cont:List Nat→List Nat→Array Bool→Prop}(h:DE all n fls S pre E)(hcont:∀pre' E',DE all n fls (S++T) pre' E'→cont pre' E' (Array.replicate all.size false)):
  ∀{pl:hC} {lp Ep:List Nat},tP all n fls S rest T pl lp Ep=true→jO all n cont rest pl (pre++lp) (Ep++E) (Array.replicate all.size false)
 |.fin c,lp,Ep,hc=>by
  simp only[tP,aYB,aYL]at hc;obtain⟨⟨⟨h1,h2⟩,h3⟩,h4⟩:=hc;have h1':sN all n fls S (Ep++E) [] (lp++c)=true:=by
   have key:∀(c before:List Nat),sN all n fls S Ep before c=true→sN all n fls S (Ep++E) before c=true:=by
    intro c;induction c with
    |nil=>intro _ _;rfl
    |cons i c ih=>
     intro before hh;simp only[sN,aYB]at hh ⊢
     refine⟨⟨⟨⟨⟨?_,hh.1.1.1.1.2⟩,hh.1.1.1.2⟩,hh.1.1.2⟩,hh.1.2⟩,ih _ hh.2⟩;unfold GG at hh ⊢
     rw[aYL];intro x hx;have:=aYL.1 hh.1.1.1.1.1 x hx;simp only[aZT]at this ⊢
     rcases this with(h'|h')|h'
     ·exact aYF (aYF (by simp only[bCA,aYM]at h' ⊢;exact aXU _ h'))
     ·exact aYF (aXR h')
     ·exact aXR h'
   exact key _ _ h1
  have:=h.more (fun e he=>n5 Ep he) h1' (T:=T) (fun i=>⟨fun hi=>by simpa using h3 i hi,fun hi=>by simpa using h4 i hi⟩) (aYZ h2);show cont (pre++lp++c) (Ep++E) _;rw[aYA];exact hcont _ _ this
 |.fork d p A q B,lp,Ep,hc=>by
  simp only[tP,aYB]at hc;obtain⟨⟨⟨⟨hA,hB⟩,hq⟩,hl⟩,he⟩:=hc;have rA:=tX h hcont hA;have rB:=tX h hcont hB;simp only[←aYA]at rA rB;refine⟨rA,rB,?_,aYZ hl,fun i hi=>?_⟩
  ·obtain⟨x,hx,hb⟩:=bCT.1 hq;rw[←aYZ hb];exact hx
  ·simpa using aYL.1 he i hi
 |.forkN d p ps A,lp,Ep,hc=>by
  simp only[tP,aYB]at hc;obtain⟨hA,he⟩:=hc;refine⟨fun i hi=>?_,fun i hi=>?_⟩
  ·have h1:=aYL.1 hA i hi;simp only[aYB]at h1;have rA:=tX h hcont h1.1.1;simp only[←aYA]at rA;refine⟨rA,aYZ h1.1.2,?_⟩;have h2:=h1.2;rw[aZT]at h2;rcases h2 with h2|h2
   ·exact aYF (aYZ h2)
   ·exact aXR (by simpa using h2)
  ·have:=aYL.1 he i hi;rw[aZT]at this;rcases this with h1|h1
   ·exact aYF (by simpa using h1)
   ·obtain⟨q,hq,hr⟩:=bCT.1 h1;exact aXR ⟨q,hq,hr⟩
theorem X7{n:Nat}{fls:List Bool}:∀{segs:List hC} {S pre E:List Nat},DE all n fls S pre E→pN all n fls S segs=true→aDI all n (fun i=>fls.getD i false) segs pre E (Array.replicate all.size false)
 | [],S,pre,E,h,hc=>by
  simp only[pN,aYB,aYL,bAR,bCA,aYM]at hc;refine⟨⟨by simp,?_,h.nodup,fun i hi=>?_,h.lt,h.topo⟩,h.good⟩
  ·intro i o ho hl;simp[aZE,Array.getElem?_replicate]at hl;split at hl<;>simp at hl
  ·simp only[aZE,Array.getElem?_replicate,hi,aZU,bAZ,iff_true];exact(h.mem i).2 (hc.2 i hi)
 |pl::segs,S,pre,E,h,hc=>by
  simp only[pN,aYB]at hc;have:=tX (cont:=aDI all n (fun i=>fls.getD i false) segs) (rest:=mX segs) (T:=pl.list) h (fun pre' E' h'=>X7 h' hc.2) hc.1;rw[aXS,aYT]at this;exact this
theorem EW{n:Nat}{fls:List Bool}:∀{segs:List hC} {S:List Nat},pN all n fls S segs=true→oN all=true∧(S++mX segs).length=all.size
 | [],S,hc=>by
  simp only[pN,aYB]at hc;rw[mX,aXS];exact⟨hc.1.1,aYZ hc.1.2⟩
 |pl::segs,S,hc=>by
  simp only[pN,aYB]at hc;obtain⟨h1,h2⟩:=EW hc.2;rw[aYA]at h2;exact⟨h1,h2⟩
theorem sQ{K:Act→World→Prop}{fl:Nat→Bool}:∀(c:List Nat) (a:Act) (w:World),(∀i∈c,i<all.size)→rQ r bad P all K Q (gH all (c.map fun i=>(fl i,i))) a w→Q7 r bad P all fl K Q c a w:=by
 intro c;induction c with
 |nil=>intro a w _ h;exact h
 |cons i c ih=>
  intro a w hlt h;have hi:=hlt i aXW;have ho:all[i]?= some all[i]:=by simp[hi]
  have hd:all.getD i default=all[i]:=by simp[hi]
  have hrec:∀a w,rQ r bad P all K Q (gH all (c.map fun i=>(fl i,i))) a w→Q7 r bad P all fl K Q c a w:=fun a w hh=>ih a w (fun j hj=>hlt j (LE _ hj)) hh
  simp only[gH,aYN,rQ,hd]at h;simp only[Q7,ho];split at h
  ·rename_i hq;obtain⟨v,hy,h⟩:=h;rw[aYJ hq];exact⟨v,hy,hrec _ _ h⟩
  ·rename_i hq;rw[aYC hq];exact h.mono hrec
def wF(r:Option Nat){γb:Type}[Membership Nat γb](bad:γb)(P:Program)(all:Array Oper)(fls:List Bool)(Q:Exit→Act→World→Prop)(kont:Act→World→Prop):hC→Act→World→Prop
 |.fin c=>rQ r bad P all kont Q (gH all (c.map fun i=>(fls.getD i false,i)))
 |.fork d p A q B=>rQ r bad P all (fun a w=>rQ r bad P all (wF r bad P all fls Q kont A) Q (gH all [(fls.getD p false,p)]) a w∧rQ r bad P all (wF r bad P all fls Q kont B) Q (gH all [(fls.getD q false,q)]) a w) Q (gH all (d.map fun i=>(fls.getD i false,i)))
 |.forkN d p ps A=>rQ r bad P all (fun a w=>∀i∈p::ps,rQ r bad P all (wF r bad P all fls Q kont (A i)) Q (gH all [(fls.getD i false,i)]) a w) Q (gH all (d.map fun i=>(fls.getD i false,i)))
def IF(r:Option Nat){γb:Type}[Membership Nat γb](bad:γb)(P:Program)(all:Array Oper)(fls:List Bool)(Q:Exit→Act→World→Prop)(K:Act→World→Prop):List hC→Act→World→Prop
 | []=>K
 |pl::segs=>wF r bad P all fls Q (IF r bad P all fls Q K segs) pl
def uH(N:Nat):hC→Bool
 |.fin c=>c.all fun i=>Nat.blt i N
 |.fork d p A q B=>d.all (fun i=>Nat.blt i N)&&Nat.blt p N&&Nat.blt q N&&uH N A&&uH N B
 |.forkN d p ps A=>d.all (fun i=>Nat.blt i N)&&(p::ps).all fun i=>Nat.blt i N&&uH N (A i)
theorem tS{fls:List Bool}{kont kont':Act→World→Prop}(hk:∀a w,kont a w→kont' a w):∀{pl:hC} {a:Act} {w:World},uH all.size pl=true→wF r bad P all fls Q kont pl a w→aBO r bad P all (fun i=>fls.getD i false) Q kont' pl a w
 |.fin c,a,w,hl,h=>sD hk c (sQ c a w (fun i hi=>by simpa [bCU]using aYL.1 hl i hi) h)
 |.fork d p A q B,a,w,hl,h=>by
  simp only[uH,aYB,bCU]at hl;obtain⟨⟨⟨⟨h1,h2⟩,h3⟩,h4⟩,h5⟩:=hl;refine sD ?_ d (sQ d a w (fun i hi=>by simpa [bCU]using aYL.1 h1 i hi) h);rintro a w ⟨g1,g2⟩;have one:∀(z:Nat) (K:Act→World→Prop),z<all.size→rQ r bad P all K Q (gH all [(fls.getD z false,z)]) a w→lF r bad P all (fun i=>fls.getD i false) Q z K a w:=fun z K hz h=>by
   have:=sQ (all:=all) (fl:=fun i=>fls.getD i false) [z] a w (by simpa using hz) h;rw[oO]at this;exact this
  exact⟨(one p _ h2 g1).mono fun a w h=>tS hk h4 h,(one q _ h3 g2).mono fun a w h=>tS hk h5 h⟩
 |.forkN d p ps A,a,w,hl,h=>by
  simp only[uH,aYB]at hl;obtain⟨h1,h2⟩:=hl;refine sD ?_ d (sQ d a w (fun i hi=>by simpa [bCU]using aYL.1 h1 i hi) h);intro a w g i hi;have h3:=aYL.1 h2 i hi;simp only[aYB,bCU]at h3;have one:∀(z:Nat) (K:Act→World→Prop),z<all.size→rQ r bad P all K Q (gH all [(fls.getD z false,z)]) a w→lF r bad P all (fun i=>fls.getD i false) Q z K a w:=fun z K hz h=>by
   have:=sQ (all:=all) (fl:=fun i=>fls.getD i false) [z] a w (by simpa using hz) h;rw[oO]at this;exact this
  exact(one i _ h3.1 (g i hi)).mono fun a w h=>tS hk h3.2 h
theorem W9{fls:List Bool}:∀{segs:List hC} {a:Act} {w:World},(segs.all fun pl=>uH all.size pl)=true→IF r bad P all fls Q (fun a w=>Q .normal a w) segs a w→aXO r bad P all (fun i=>fls.getD i false) Q segs a w
 | [],a,w,_,h=>h
 |pl::segs,a,w,hl,h=>by
  rw[List.all_cons,aYB]at hl;exact tS (fun a w h=>W9 hl.2 h) hl.1 h
theorem aHP{id n:Nat}{fls:List Bool}{segs:List hC}{a:Act}{w:World}(hm:P.follows .mixedOrders=true)(hc:(pN all n fls [] segs&&segs.all fun pl=>uH all.size pl)=true)(hQ:PI Q)
  (h:IF r bad P all fls Q (fun a w=>Q .normal a w) segs a {w with drawn:=w.drawn+1}):(Code.region id all true).wpIn (FW r) 0 P Q a w:=by
 rw[aYB]at hc;obtain⟨hnd,hlen⟩:=EW hc.1;have hr:=X7 (S:=[]) (pre:=[]) (E:=[]) ⟨aZP,fun i=>Iff.rfl,(fun i hi=>by cases hi),(fun c1 i c2 he=>by simp at he),(fun c1 i c2 he=>by simp at he),rfl⟩ hc.1;refine wpIn_region_any hm ?_;have:=W6 (P:=P) (r:=r) (bad:=bad) (n:=n) (fl:=fun i=>fls.getD i false) hnd hQ segs [] [] (Array.replicate all.size false) a {w with drawn:=w.drawn+1} (fun e he=>by cases he) hr (W9 hc.2 h);rw[hlen]at this;exact this
abbrev cG:=List (Nat×Value)
abbrev aD:=List (Nat×Obj)
abbrev aC:=Nat→List Value
def look:cG→Nat→Option Value
 | [],_=>none
 |(k,v)::r,s=>match Nat.beq k s with|true=>some v|false=>look r s
def ev(σ:cG):Operand→Option Value
 |.tmp t=>look σ t
 |.const v=>some v
 |.global g=>some (qP g)
 |.func f=>some (.func (.func f) #[] #[])
def Le(D D':aC):Prop:=(∀b,D b <+: D' b)∧D' 0=D 0
theorem Le.refl(D:aC):Le D D:=⟨fun _=>List.prefix_refl _,rfl⟩
theorem Le.trans{D D' D'':aC}(h:Le D D')(h':Le D' D''):Le D D'':=⟨fun b=>(h.1 b).trans (h'.1 b),h'.2.trans h.2⟩
theorem Le.get{D D':aC}(h:Le D D'){b i:Nat}{v:Value}(hv:(D b)[i]?= some v):(D' b)[i]?= some v:=by
 obtain⟨t,ht⟩:=h.1 b;rw[←ht,bAK]
 ·exact hv
 ·exact(aXZ.1 hv).1
def eO(D:aC)(w:World):Prop:=(∀b,D b≠[]→∃cs e fz,w.heap[b]?= some (.cells cs e fz)∧D b <+: cs.toList)∧D 0≠[]∧∃e fz,w.heap[0]?= some (.cells (D 0).toArray e fz)
theorem eO.of{D D':aC}{w w':World}(h:eO D w)(h1:∀b,D' b≠[]→∃cs e fz,w'.heap[b]?= some (.cells cs e fz)∧D' b <+: cs.toList)(hD:D' 0=D 0)(hw:w'.heap[0]?= w.heap[0]?):eO D' w':=by
 refine⟨h1,?_⟩;rw[hD,hw];exact h.2
theorem eO.ne0{D:aC}{w:World}(h:eO D w){b:Nat}(hb:D b=[]):b≠0:=fun e=>h.2.1 (e▸hb)
theorem eO.pos{D:aC}{w:World}(h:eO D w):0<w.heap.size:=by
 obtain⟨-, -,e,fz,h⟩:=h;exact(bAH.1 h).1
def dD:Obj→Prop
 |.cells _ _ z=>z=(0,0)
 |_=>True
def BG(w:World):Os×Array (Nat×ByteArray):=(w.os,w.output)
structure H0 where
 arr:Array Obj
 env:Option (Os×Array (Nat×ByteArray))
abbrev H0.size(h:H0):Nat:=h.arr.size
abbrev hd(w:World):H0:=⟨w.heap,some (BG w)⟩
structure hP(h0:H0)(lo:Nat)(D0:aC)(mods:List Nat)(μ:aD)(D:aC)(w:World):Prop where
 hlo:h0.size≤lo
 size:lo≤w.heap.size
 old:∀b,b<h0.size→b∉mods→w.heap[b]?= h0.arr[b]?
 dold:∀b,b<h0.size→D b=D0 b
 agr:eO D w
 box:∀p∈μ,w.heap[p.1]?= some p.2∧D p.1=[]∧(lo≤p.1∨p.1∈mods)
 nd:(μ.map (·.1)).Nodup
 fz:∀p∈μ,dD p.2
 env:∀e,h0.env=some e→BG w=e
def xZ(lo:Nat)(D:aC)(w:World):Prop:=eO D w∧lo≤w.heap.size
theorem hP.dom{h0:H0}{lo:Nat}{D0:aC}{mods:List Nat}{μ:aD}{D:aC}{w:World}(h:hP h0 lo D0 mods μ D w):xZ lo D w:=⟨h.agr,h.size⟩
def aHE(β:List Nat)(D:aC)(w:World)(D':aC)(w':World):Prop:=w.heap.size≤w'.heap.size∧(∀b,b<w.heap.size→b∉β→w'.heap[b]?= w.heap[b]?∧D' b=D b)∧BG w'=BG w
theorem aHE.refl(β:List Nat)(D:aC)(w:World):aHE β D w D w:=⟨aYI _,fun _ _ _=>⟨rfl,rfl⟩,rfl⟩
structure G8(lo:Nat)(J:List Nat→aC→World→Prop):Prop where
 low:∀β D w D' w',J β D w→aHE β D w D' w'→xZ lo D' w'→J β D' w'
 own:∀β β' D w,J β D w→(∀b∈β',b∈β∨w.heap.size≤b)→J β' D w
structure Cx where
 r:Option Nat
 N:Nat
 ds:List Deferred
 h0:H0
 lo:Nat
 D0:aC
 mods:List Nat
 ex:Option (List Nat→aC→World→Prop)
def A8(X:Cx)(μ:aD)(D:aC)(w:World):Prop:=
 match X.ex with
 |none=>True
 |some J=>G8 X.lo J∧J (μ.map (·.1)) D w
theorem A8.step{X:Cx}{μ μ':aD}{D D':aC}{w w':World}(h:A8 X μ D w)(hk:X.ex≠none→∀p∈μ',p.1∈μ.map (·.1)∨w.heap.size≤p.1)(hl:X.ex≠none→aHE (μ.map (·.1)) D w D' w')(hd:xZ X.lo D' w'):A8 X μ' D' w':=by
 unfold A8 at *;cases hx:X.ex with
 |none=>trivial
 |some J=>
  rw[hx]at h;have hne:X.ex≠none:=by simp[hx]
  refine⟨h.1,?_⟩;have h1:=h.1.own _ (μ'.map (·.1)++μ.map (·.1)) D w h.2 (fun b hb=>by
   rcases aYD.1 hb with hb|hb
   ·obtain⟨p,hp,rfl⟩:=n4.1 hb;exact hk hne p hp
   ·exact aYF hb)
  have h2:=h.1.low _ D w D' w' h1 ⟨(hl hne).1,fun b hb hn=>(hl hne).2.1 b hb (fun hm=>hn (n5 _ hm)),(hl hne).2.2⟩ hd;exact h.1.own _ _ D' w' h2 (fun b hb=>aYF (aXU _ hb))
def Hl(X:Cx)(σ:cG)(μ:aD)(Ds:List aC)(a:Act)(w:World):Prop:=
 a.tmps.size=X.N∧(∀s v,look σ s=some v→a.tmps[s]?= some v)∧a.defers=X.ds∧∃D,hP X.h0 X.lo X.D0 X.mods μ D w∧(∀D₁∈Ds,Le D₁ D)∧A8 X μ D w
def WL(P:Program)(X:Cx){γb:Type}[Membership Nat γb](bad:γb)(all:Array Oper)(K:Act→World→Prop)(Q:Exit→Act→World→Prop)(os:List (Bool×Nat))(σ:cG)(μ:aD)(Ds:List aC):Prop:=
 ∀a w,Hl X σ μ Ds a w→rQ X.r bad P all K Q (gH all os) a w
def WC(P:Program)(X:Cx)(Q:Exit→Act→World→Prop)(c:Code)(σ:cG)(μ:aD)(Ds:List aC):Prop:=
 ∀a w,Hl X σ μ Ds a w→c.wpIn (FW X.r) 0 P Q a w
variable{P:Program}{X:Cx}{γb:Type}[Membership Nat γb]{bad:γb}{all:Array Oper}{K:Act→World→Prop}{Q:Exit→Act→World→Prop}
variable{σ:cG}{μ:aD}{Ds:List aC}{os:List (Bool×Nat)}{fl:Bool}{ix:Nat}
theorem Hl.eval{a:Act}{w:World}(h:Hl X σ μ Ds a w){x:Operand}{v:Value}(hx:ev σ x=some v):a.eval x=v:=by
 cases x with
 |tmp t=>
  have:=h.2.1 t v hx;show a.tmps.getD t undef=v;rw[aZE,this];rfl
 |const v=>exact aYS hx
 |global g=>exact aYS hx
 |func f=>exact aYS hx
theorem Hl.put{a:Act}{w:World}(h:Hl X σ μ Ds a w){d:Nat}(hd:Nat.blt d X.N=true)(v:Value):Hl X ((d,v)::σ) μ Ds (a.put (some d) v) w:=by
 have hd':d<X.N:=by simpa [bCU]using hd
 refine⟨by simpa [Act.put]using h.1,fun s u hs=>?_,h.2.2.1,h.2.2.2⟩;simp only[look]at hs;simp only[Act.put];cases hb:Nat.beq d s with
 |true=>
  rw[hb]at hs;obtain rfl:=aYZ hb;cases hs;rw[bCK (by rw[h.1];exact hd')]
 |false=>
  rw[hb]at hs;rw[aZZ (fun e=>by subst e;simp at hb)]
  exact h.2.1 s u hs
def HI:cG→cG→Prop
 |_,[]=>True
 |σ,(k,v)::r=>look σ k=some v∧HI σ r
theorem HI.look{σ σ':cG}(h:HI σ σ'){s:Nat}{v:Value}(hv:look σ' s=some v):look σ s=some v:=by
 induction σ' with
 |nil=>cases hv
 |cons p r ih=>
  obtain⟨k,u⟩:=p;simp only[Fs.look]at hv;cases hb:Nat.beq k s with
  |true=>rw[hb]at hv;cases hv;obtain rfl:=aYZ hb;exact h.1
  |false=>rw[hb]at hv;exact ih h.2 hv
theorem hP.sub{h0:H0}{lo:Nat}{D0:aC}{mods:List Nat}{μ μ':aD}{D:aC}{w:World}(h:hP h0 lo D0 mods μ D w)(hs:∀p∈μ',p∈μ)(hn:(μ'.map (·.1)).Nodup):hP h0 lo D0 mods μ' D w:=
 ⟨h.hlo,h.size,h.old,h.dold,h.agr,fun p hp=>h.box p (hs p hp),hn,fun p hp=>h.fz p (hs p hp),h.env⟩
theorem Hl.weak{σ':cG}{μ':aD}{Ds':List aC}{a:Act}{w:World}(h:Hl X σ μ Ds a w)(hσ:HI σ σ')(hμ:μ'.Sublist μ)(hD:∀D∈Ds',∃D'∈Ds,Le D D'):Hl X σ' μ' Ds' a w:=by
 obtain⟨h1,h2,h3,D,h4,h5,G⟩:=h;refine⟨h1,fun s v hv=>h2 s v (hσ.look hv),h3,D,h4.sub (fun p hp=>hμ.mem hp) ((hμ.map (·.1)).nodup h4.nd),fun D₁ hD₁=>?_,G.step (fun _ p hp=>aYF (n4.2 ⟨p,hμ.mem hp,rfl⟩)) (fun _=>aHE.refl _ _ _) h4.dom⟩;obtain⟨D₂,hm,hle⟩:=hD D₁ hD₁;exact hle.trans (h5 D₂ hm)
theorem HI.app{σ σ1 σ2:cG}(h1:HI σ σ1)(h2:HI σ σ2):HI σ (σ1++σ2):=by
 induction σ1 with
 |nil=>exact h2
 |cons p r ih=>exact⟨h1.1,ih h1.2⟩
theorem Y8{σ1 σ2:cG}{s:Nat}{v:Value}(h:look (σ1++σ2) s=some v):look σ1 s=some v∨look σ2 s=some v:=by
 induction σ1 with
 |nil=>exact aXR h
 |cons p r ih=>
  obtain⟨k,u⟩:=p;simp only[aZV,look]at h ⊢
  cases hb:Nat.beq k s with
  |true=>rw[hb]at h;exact aYF h
  |false=>rw[hb]at h;exact ih h

def NP(Q:Exit→Act→World→Prop):Prop:=∀c a w,¬Q (.panic c) a w
theorem NP.pi(h:NP Q):PI Q:=fun c a _ w _ hq=>absurd hq (h c a w)
theorem aO{x y:Code}(h:WC P X (Exit.then (y.wpIn (FW X.r) 0 P Q) Q) x σ μ Ds):WC P X Q (.seq x y) σ μ Ds:=
 fun a w hh=>wpIn_seq (h a w hh)
theorem cB(h:∀a w,Hl X σ μ Ds a w→Q .normal a w):WC P X Q .skip σ μ Ds:=fun a w hh=>wpIn_skip (h a w hh)
theorem aT{id:Nat}(h:∀a w,Hl X σ μ Ds a w→Q (.exit id) a w):WC P X Q (.exit id) σ μ Ds:=fun a w hh=>wpIn_exit (h a w hh)
theorem z6(h:∀a w,Hl X σ μ Ds a w→Q .ret a w):WC P X Q .ret σ μ Ds:=fun a w hh=>wpIn_ret (h a w hh)
theorem PY{y:Code}(h:WC P X Q y σ μ Ds):∀a w,Hl X σ μ Ds a w→(Exit.then (y.wpIn (FW X.r) 0 P Q) Q) .normal a w:=h
theorem _root_.Go.Fs.Zap{y:Code}(h:WC P X Q y σ μ Ds):∀a w,Hl X σ μ Ds a w→(Exit.then (y.wpIn (FW X.r) 0 P Q) Q) .normal a w:=PY h
theorem aW{c:Operand}{x y:Code}{b:Bool}(hc:ev σ c=some (.bool b))(ht:b=true→WC P X Q x σ μ Ds)(hf:b=false→WC P X Q y σ μ Ds):WC P X Q (.cond c x y) σ μ Ds:=
 fun a w hh=>wpIn_cond_split (hh.eval hc) (fun e=>ht e a w hh) (fun e=>hf e a w hh)
theorem aLJ{id:Nat}{c:Code}(h:WC P X (Exit.inBlock id Q) c σ μ Ds):WC P X Q (.block id c) σ μ Ds:=fun a w hh=>wpIn_block (h a w hh)
theorem _root_.Go.Fs.Zar{id:Nat}{c:Code}(h:WC P X (Exit.inBlock id Q) c σ μ Ds):WC P X Q (.block id c) σ μ Ds:=aLJ h
theorem FK{id:Nat}{a:Act}{w:World}(h:Q .normal a w):Exit.inBlock id Q (.exit id) a w:=by simp[Exit.inBlock,h]
theorem BH{id id':Nat}(hne:Nat.beq id' id=false){a:Act}{w:World}(h:Q (.exit id') a w):Exit.inBlock id Q (.exit id') a w:=by
 have:id'≠id:=fun e=>by subst e;simp at hne
 simp[Exit.inBlock,this,h]
theorem aHZ(is:List (Bool×Nat)){id:Nat}{ops:Array Oper}(hi:is=(List.range ops.size).map fun i=>(false,i))(h:WL P X [] ops (fun a w=>Q .normal a w) Q is σ μ Ds):WC P X Q (.region id ops false) σ μ Ds:=
 fun a w hh=>aJR (by rw[aHC,←hi];exact h a w hh)
theorem aX{id:Nat}{ops:Array Oper}(h:WL P X [] ops (fun a w=>Q .normal a w) Q ((List.range ops.size).map fun i=>(false,i)) σ μ Ds):WC P X Q (.region id ops false) σ μ Ds:=aHZ _ rfl h
theorem bA{p:Prop}(h:p:=by repeat (first|exact trivial|refine⟨rfl,?_⟩)):p:=h
theorem C.fo{Q:Program}(h:Q.follows .mixedOrders=true:=by exact bI):Q.follows .mixedOrders=true:=h
theorem dX{α:Type}(l:List α)(i:Nat)(h:i<l.length:=by omega):∃x,l[i]?= some x:=⟨_,aXT h⟩
theorem Hl.drew{a:Act}{w:World}(h:Hl X σ μ Ds a w):Hl X σ μ Ds a {w with drawn:=w.drawn+1}:=by
 obtain⟨h1,h2,h3,D,h4,h5,G⟩:=h;exact⟨h1,h2,h3,D,⟨h4.hlo,h4.size,h4.old,h4.dold,h4.agr,h4.box,h4.nd,h4.fz,h4.env⟩,h5,G.step (fun _ p hp=>aYF (n4.2 ⟨p,hp,rfl⟩)) (fun _=>⟨aYI _,fun _ _ _=>⟨rfl,rfl⟩,rfl⟩) h4.dom⟩
theorem IE{γb:Type}[Membership Nat γb](bad:γb)(n:Nat)(c:List Nat)(bits:List Bool)(is:List (Bool×Nat)){id:Nat}{ops:Array Oper}(hm:P.follows .mixedOrders=true)(hQ:PI Q)(hc:(W7 ops n c&&(wW ops n [] c==bits))=true)(hi:is=bits.zip c)
  (h:WL P X bad ops (fun a w=>Q .normal a w) Q is σ μ Ds):WC P X Q (.region id ops true) σ μ Ds:=by
 rw[aYB]at hc;intro a w hh;refine aOC (bad:=bad) hm hc.1 hQ ?_;rw[DQ,eq_of_beq hc.2,←hi];exact h a _ hh.drew
theorem lR{γb:Type}[Membership Nat γb](bad:γb)(n:Nat)(c:List Nat)(bits:List Bool)(is:List (Bool×Nat)){id:Nat}{ops:Array Oper}(hm:P.follows .mixedOrders=true)(hQ:NP Q)(hc:(W7 ops n c&&(wW ops n [] c==bits))=true)(hi:is=bits.zip c)
    (h:WL P X bad ops (fun a w=>Q .normal a w) Q is σ μ Ds):WC P X Q (.region id ops true) σ μ Ds:=IE bad n c bits is hm hQ.pi hc hi h
theorem aWH(f:Nat→Bool):∀l:List Nat,(l.map f).zip l=l.map fun i=>(f i,i)
 | []=>rfl
 |a::l=>by rw[aYN,bCJ,aWH f l];rfl
def aNH(n m:Nat):List (Bool×Nat):=(List.range n).map fun i=>(Nat.testBit m i,i)
theorem x4{γb:Type}[Membership Nat γb](bad:γb)(n k m:Nat){id:Nat}{ops:Array Oper}(hQ:PI Q)(h:WL P X bad ops (fun a w=>Q .normal a w) Q (aNH k m) σ μ Ds)(hc:(W7 ops n (List.range k)&&(wW ops n [] (List.range k)==(List.range k).map fun i=>Nat.testBit m i))=true:=by kernel_rfl)(hm:P.follows .mixedOrders=true:=by exact bI):WC P X Q (.region id ops true) σ μ Ds:=
 IE bad n _ _ _ hm hQ hc (aWH _ _).symm h
theorem PI.thn{k:Act→World→Prop}(h:PI Q):PI (Exit.then k Q):=fun c a b w d q=>h c a b w d q
theorem PI.inb{i:Nat}(h:PI Q):PI (Exit.inBlock i Q):=fun c a b w d q=>h c a b w d q
theorem NP.inb{i:Nat}(h:NP Q):NP (Exit.inBlock i Q):=fun c a w q=>h c a w q
theorem NP.thn{k:Act→World→Prop}(h:NP Q):NP (Exit.then k Q):=fun c a w q=>h c a w q
theorem cX{γb:Type}[Membership Nat γb](bad:γb)(n k m:Nat){id:Nat}{ops:Array Oper}(h:WL P X bad ops (fun a w=>Q .normal a w) Q (aNH k m) σ μ Ds)(hQ:PI Q:=by repeat (first|exact TG|refine PI.thn ?_|refine PI.inb ?_|refine PI.ngt ?_))(hc:(W7 ops n (List.range k)&&(wW ops n [] (List.range k)==(List.range k).map fun i=>Nat.testBit m i))=true:=by kernel_rfl)(hm:P.follows .mixedOrders=true:=by exact bI):WC P X Q (.region id ops true) σ μ Ds:=x4 bad n k m hQ h hc hm
theorem pR{γb:Type}[Membership Nat γb](bad:γb)(n k m:Nat){id:Nat}{ops:Array Oper}(hQ:NP Q)(h:WL P X bad ops (fun a w=>Q .normal a w) Q (aNH k m) σ μ Ds)(hc:(W7 ops n (List.range k)&&(wW ops n [] (List.range k)==(List.range k).map fun i=>Nat.testBit m i))=true:=by kernel_rfl)(hm:P.follows .mixedOrders=true:=by exact bI):WC P X Q (.region id ops true) σ μ Ds:=x4 bad n k m hQ.pi h hc hm
theorem bM{γb:Type}[Membership Nat γb](bad:γb)(n k m:Nat){id:Nat}{ops:Array Oper}(h:WL P X bad ops (fun a w=>Q .normal a w) Q (aNH k m) σ μ Ds)(hQ:NP Q:=by repeat (first|exact iO|exact jF|exact O9|refine NP.thn ?_|refine NP.inb ?_|refine NP.ngt ?_))(hc:(W7 ops n (List.range k)&&(wW ops n [] (List.range k)==(List.range k).map fun i=>Nat.testBit m i))=true:=by kernel_rfl)(hm:P.follows .mixedOrders=true:=by exact bI):WC P X Q (.region id ops true) σ μ Ds:=x4 bad n k m hQ.pi h hc hm
def WS(P:Program)(X:Cx){γb:Type}[Membership Nat γb](bad:γb)(all:Array Oper)(fls:List Bool)(K:Act→World→Prop)(Q:Exit→Act→World→Prop)(segs:List hC)(σ:cG)(μ:aD)(Ds:List aC):Prop:=
 ∀a w,Hl X σ μ Ds a w→IF X.r bad P all fls Q K segs a w
def WP(P:Program)(X:Cx){γb:Type}[Membership Nat γb](bad:γb)(all:Array Oper)(fls:List Bool)(kont:Act→World→Prop)(Q:Exit→Act→World→Prop)(pl:hC)(σ:cG)(μ:aD)(Ds:List aC):Prop:=
 ∀a w,Hl X σ μ Ds a w→wF X.r bad P all fls Q kont pl a w
theorem aEN{γb:Type}[Membership Nat γb](bad:γb)(n:Nat)(fls:List Bool)(segs:List hC){id:Nat}{ops:Array Oper}(hm:P.follows .mixedOrders=true)(hQ:PI Q)(hc:(pN ops n fls [] segs&&segs.all fun pl=>uH ops.size pl)=true)
  (h:WS P X bad ops fls (fun a w=>Q .normal a w) Q segs σ μ Ds):WC P X Q (.region id ops true) σ μ Ds:=by
 intro a w hh;exact aHP (bad:=bad) hm hc hQ (h a _ hh.drew)
theorem lC{γb:Type}[Membership Nat γb](bad:γb)(n:Nat)(fls:List Bool)(segs:List hC){id:Nat}{ops:Array Oper}(hm:P.follows .mixedOrders=true)(hQ:NP Q)(hc:(pN ops n fls [] segs&&segs.all fun pl=>uH ops.size pl)=true)
  (h:WS P X bad ops fls (fun a w=>Q .normal a w) Q segs σ μ Ds):WC P X Q (.region id ops true) σ μ Ds:=aEN bad n fls segs hm hQ.pi hc h
section segments
variable{fls:List Bool}{kont:Act→World→Prop}
theorem kU(h:∀a w,Hl X σ μ Ds a w→K a w):WS P X bad all fls K Q [] σ μ Ds:=h
theorem kQ{c:List Nat}{segs:List hC}(is:List (Bool×Nat))(hi:is=c.map fun i=>(fls.getD i false,i))(h:WL P X bad all (fun a w=>IF X.r bad P all fls Q K segs a w) Q is σ μ Ds):WS P X bad all fls K Q (.fin c::segs) σ μ Ds:=by
 subst hi;exact h
theorem oJ{pl:hC}{segs:List hC}(h:WP P X bad all fls (fun a w=>IF X.r bad P all fls Q K segs a w) Q pl σ μ Ds):WS P X bad all fls K Q (pl::segs) σ μ Ds:=h
theorem aS{c:List Nat}(is:List (Bool×Nat))(hi:is=c.map fun i=>(fls.getD i false,i))(h:WL P X bad all kont Q is σ μ Ds):WP P X bad all fls kont Q (.fin c) σ μ Ds:=by
 subst hi;exact h
theorem bL{d:List Nat}{p q:Nat}{A B:hC}(is:List (Bool×Nat))(hi:is=d.map fun i=>(fls.getD i false,i))
  (h:WL P X bad all (fun a w=>rQ X.r bad P all (wF X.r bad P all fls Q kont A) Q (gH all [(fls.getD p false,p)]) a w∧rQ X.r bad P all (wF X.r bad P all fls Q kont B) Q (gH all [(fls.getD q false,q)]) a w) Q is σ μ Ds):WP P X bad all fls kont Q (.fork d p A q B) σ μ Ds:=by
 subst hi;exact h
theorem dP{p q:Nat}{A B:hC}(bp bq:Bool)(hp:fls.getD p false=bp)(hq:fls.getD q false=bq)(h1:WL P X bad all (fun a w=>wF X.r bad P all fls Q kont A a w) Q [(bp,p)] σ μ Ds)(h2:WL P X bad all (fun a w=>wF X.r bad P all fls Q kont B a w) Q [(bq,q)] σ μ Ds):
  ∀a w,Hl X σ μ Ds a w→rQ X.r bad P all (wF X.r bad P all fls Q kont A) Q (gH all [(fls.getD p false,p)]) a w∧rQ X.r bad P all (wF X.r bad P all fls Q kont B) Q (gH all [(fls.getD q false,q)]) a w:=fun a w hh=>by
 subst hp hq;exact⟨h1 a w hh,h2 a w hh⟩
theorem pZ{d:List Nat}{p:Nat}{ps:List Nat}{A:Nat→hC}(is:List (Bool×Nat))(hi:is=d.map fun i=>(fls.getD i false,i))
  (h:WL P X bad all (fun a w=>∀i∈p::ps,rQ X.r bad P all (wF X.r bad P all fls Q kont (A i)) Q (gH all [(fls.getD i false,i)]) a w) Q is σ μ Ds):WP P X bad all fls kont Q (.forkN d p ps A) σ μ Ds:=by
 subst hi;exact h
theorem yY{A:Nat→hC}:∀a w,Hl X σ μ Ds a w→∀i∈([]:List Nat),rQ X.r bad P all (wF X.r bad P all fls Q kont (A i)) Q (gH all [(fls.getD i false,i)]) a w:=fun _ _ _ _ h=>by cases h
theorem fV{A:Nat→hC}{p:Nat}{ps:List Nat}(b:Bool){B:hC}(hb:fls.getD p false=b)(hB:A p=B)(h1:WL P X bad all (fun a w=>wF X.r bad P all fls Q kont B a w) Q [(b,p)] σ μ Ds)
  (h2:∀a w,Hl X σ μ Ds a w→∀i∈ps,rQ X.r bad P all (wF X.r bad P all fls Q kont (A i)) Q (gH all [(fls.getD i false,i)]) a w):
  ∀a w,Hl X σ μ Ds a w→∀i∈p::ps,rQ X.r bad P all (wF X.r bad P all fls Q kont (A i)) Q (gH all [(fls.getD i false,i)]) a w:=fun a w hh i hi=>by
 rcases GE.1 hi with rfl|hi
 ·rw[hb,hB];exact h1 a w hh
 ·exact h2 a w hh i hi
end segments
def m4:List (Nat×hC)→Nat→hC
 | [],_=>.fin []
 |(j,pl)::l,i=>bif Nat.beq i j then pl else m4 l i
theorem aUM{γ:Type}{c:Code}(m:γ→Nat)(I:γ→Prop)(S:γ→cG)(M:γ→aD)(E:γ→List aC)(g₀:γ)(h₀:I g₀)(hσ:HI σ (S g₀))(hμ:(M g₀).Sublist μ)(hD:∀D∈E g₀,∃D'∈Ds,Le D D')
  (round:∀g,I g→WC P X (Exit.then (fun a w=>∃g',I g'∧m g'<m g∧Hl X (S g') (M g') (E g') a w) Q) c (S g) (M g) (E g)):WC P X Q (.loop c) σ μ Ds:=by
 let p:Act→World→Nat→Prop:=fun a w n=>∃g,I g∧m g=n∧Hl X (S g) (M g) (E g) a w
 have ex:∀a w,(∃n,p a w n)→∃n,p a w n∧∀k,p a w k→n≤k:=by
  intro a w ⟨n,hn⟩;induction n using Nat.strongRecOn with
  |_ n ih=>
   by_cases h:∃k,k<n∧p a w k
   ·obtain⟨k,hk,hp⟩:=h;exact ih k hk hp
   ·exact⟨n,hn,fun k hk=>Nat.le_of_not_lt fun hl=>h ⟨k,hl,hk⟩⟩
 intro a w hh;refine wpIn_loop (fun a w=>∃n,p a w n) (fun a w=>open Classical in if h:∃n,p a w n then(ex a w h).choose else 0) ⟨_,g₀,h₀,rfl,hh.weak hσ hμ hD⟩ ?_;intro a w hI;obtain⟨⟨g,hg,hm,hst⟩,hmin⟩:=(ex a w hI).choose_spec;refine wpIn_mono (round g hg a w hst) fun e a' w' hq=>?_
 cases e with
 |normal=>
  obtain⟨g',hg',hlt,hst'⟩:=hq;have hI':∃n,p a' w' n:=⟨_,g',hg',rfl,hst'⟩
  refine⟨hI',?_⟩;simp only[dif_pos hI',dif_pos hI];have:=(ex a' w' hI').choose_spec.2 _ ⟨g',hg',rfl,hst'⟩;omega
 |_=>exact hq

def dE(all:Array Oper)(σ:cG):Option (Nat×Bool)→Prop
 |none=>True
 |some (j,want)=>∃s,(all[j]?).bind (·.dst)=some s∧look σ s=some (.bool want)
def aXE(all:Array Oper)(σ:cG):Option (Nat×Bool)→Prop
 |none=>False
 |some (j,want)=>∃s v,(all[j]?).bind (·.dst)=some s∧look σ s=some v∧(match v with|.bool b=>Bool.xor b want|_=>true)=true
theorem Hl.wanted{a:Act}{w:World}(h:Hl X σ μ Ds a w){o:Oper}(hg:dE all σ o.guard):Region.wanted o (yielded all a.tmps)=true:=by
 unfold Region.wanted;cases hgd:o.guard with
 |none=>rfl
 |some p=>
  obtain⟨j,want⟩:=p;rw[hgd]at hg;obtain⟨s,hs,hl⟩:=hg;simp[yielded,hs,h.2.1 s _ hl]
theorem Hl.unwanted{a:Act}{w:World}(h:Hl X σ μ Ds a w){o:Oper}(hg:aXE all σ o.guard):Region.wanted o (yielded all a.tmps)=false:=by
 unfold Region.wanted;cases hgd:o.guard with
 |none=>rw[hgd]at hg;exact hg.elim
 |some p=>
  obtain⟨j,want⟩:=p;rw[hgd]at hg;obtain⟨s,v,hs,hl,hv⟩:=hg;have hy:yielded all a.tmps j=(match v with|.bool b=>some b|_=>none):=by
   simp only[yielded,hs,Option.bind_some,h.2.1 s _ hl];cases v<;>rfl
  simp only[hy];cases v with
  |bool b=>cases b<;>cases want<;>first|rfl|(simp at hv)
  |_=>rfl
theorem xN(h:∀a w,Hl X σ μ Ds a w→K a w):WL P X bad all K Q [] σ μ Ds:=fun a w hh=>h a w hh
theorem _root_.Go.Fs.Zae(h:∀a w,Hl X σ μ Ds a w→K a w):WL P X bad all K Q [] σ μ Ds:=xN h
theorem sS{o:Oper}(ho:all[ix]?= some o):gH all ((fl,ix)::os)=(fl,o)::gH all os:=by simp[gH,ho]
theorem mA{o:Oper}{d:Nat}{v:Value}(ho:all[ix]?= some o)(hq:kH o.op=true)(hd:o.dst=some d)(hN:Nat.blt d X.N=true)(hg:dE all σ o.guard)
  (hv:∀a w,Hl X σ μ Ds a w→∀w',nC bad w w'→(execOp a.eval o).run P w'=.ok (.value v) w') (k:WL P X bad all K Q os ((d,v)::σ) μ Ds):WL P X bad all K Q ((fl,ix)::os) σ μ Ds:=by
 intro a w hh;rw[sS ho];simp only[rQ,hq,aZU];refine⟨v,aYF ⟨hh.wanted hg,hv a w hh⟩,?_⟩;rw[hd];exact k _ _ (hh.put hN v)
theorem bX{o:Oper}{d:Nat}{v:Value}(ho:all[ix]?= some o)(hq:kH o.op=true)(hd:o.dst=some d)(hN:Nat.blt d X.N=true)(hg:dE all σ o.guard)
  (hv:∀ρ:Operand→Value,(∀x u,ev σ x=some u→ρ x=u)→∀w',(execOp ρ o).run P w'=.ok (.value v) w') (k:WL P X bad all K Q os ((d,v)::σ) μ Ds):WL P X bad all K Q ((fl,ix)::os) σ μ Ds:=
 mA ho hq hd hN hg (fun a _ hh w' _=>hv a.eval (fun _ _ hx=>hh.eval hx) w') k
theorem aTY{o:Oper}{d:Nat}(ho:all[ix]?= some o)(hd:o.dst=some d)(hN:Nat.blt d X.N=true)(hg:aXE all σ o.guard)(k:WL P X bad all K Q os ((d,undef)::σ) μ Ds):WL P X bad all K Q ((fl,ix)::os) σ μ Ds:=by
 intro a w hh;rw[sS ho];simp only[rQ];split
 ·refine⟨undef,aXR ⟨hh.unwanted hg,rfl⟩,?_⟩;rw[hd];exact k _ _ (hh.put hN _)
 ·unfold G4;rw[aYC (by rw[hh.unwanted hg];simp),hd]
  exact k _ _ (hh.put hN _)
theorem _root_.Go.Fs.Zk{o:Oper}{d:Nat}(e9:(all[ix]?,o.dst)=(some o,some d))(k:WL P X bad all K Q os ((d,undef)::σ) μ Ds)(hN:Nat.blt d X.N=true:=by exact rfl)(hg:aXE all σ o.guard:=by exact⟨_,_,rfl,rfl,rfl⟩):WL P X bad all K Q ((fl,ix)::os) σ μ Ds:=aTY (aXV (fun z=>z.1) e9) (aXV (fun z=>z.2) e9) hN hg k
theorem pA{K':Act→World→Prop}:∀(xs ys:List (Bool×Oper)) (a:Act) (w:World),rQ X.r bad P all (fun a w=>K' a w) Q xs a w→(∀a w,K' a w→rQ X.r bad P all K Q ys a w)→rQ X.r bad P all K Q (xs++ys) a w
 | [],ys,a,w,h,hk=>hk a w h
 |(fl,o)::xs,ys,a,w,h,hk=>by
  simp only[aZV,rQ]at h ⊢
  split at h
  ·rename_i hq;rw[aYJ hq];obtain⟨v,hy,h⟩:=h;exact⟨v,hy,pA xs ys _ _ h hk⟩
  ·rename_i hq;rw[aYC hq];exact h.mono fun a w hh=>pA xs ys a w hh hk
theorem WL.append{K':Act→World→Prop}{xs ys:List (Bool×Nat)}{a:Act}{w:World}(h:rQ X.r bad P all (fun a w=>K' a w) Q (gH all xs) a w)(hk:∀a w,K' a w→rQ X.r bad P all K Q (gH all ys) a w):
  rQ X.r bad P all K Q (gH all (xs++ys)) a w:=by
 rw[gH,aYE];exact pA _ _ a w h hk
theorem DH(xs ys:List (Bool×Nat)){s p:Nat}{b c want:Bool}(ho:os=xs++ys)(hs:look σ s=some (.bool b))
  (hyes:b=want→WL P X bad all (fun a w=>Hl X ((p,.bool c)::(s,.bool want)::σ) μ Ds a w) Q xs ((s,.bool want)::σ) μ Ds)
  (hno:b= !want→WL P X bad all (fun a w=>Hl X ((p,.bool (!want))::(s,.bool (!want))::σ) μ Ds a w) Q xs ((s,.bool (!want))::σ) μ Ds)
  (k:WL P X bad all K Q ys ((p,.bool (bif want then b&&c else b||c))::σ) μ Ds):WL P X bad all K Q os σ μ Ds:=by
 have hsub:∀u,Value.bool b=u→∀a w,Hl X σ μ Ds a w→Hl X ((s,u)::σ) μ Ds a w:=by
  rintro _ rfl a w ⟨h1,h2,h3⟩;refine⟨h1,fun t v ht=>?_,h3⟩;simp only[look]at ht;cases hb:Nat.beq s t with
  |true=>rw[hb]at ht;cases ht;obtain rfl:=aYZ hb;exact h2 _ _ hs
  |false=>rw[hb]at ht;exact h2 _ _ ht
 have hback:∀u v,Value.bool b=u→∀a w,Hl X ((p,v)::(s,u)::σ) μ Ds a w→Hl X ((p,v)::σ) μ Ds a w:=by
  rintro _ v rfl a w ⟨h1,h2,h3⟩;refine⟨h1,fun t v' ht=>?_,h3⟩;refine h2 t v' ?_;simp only[look]at ht ⊢
  cases hp:Nat.beq p t with
  |true=>rw[hp]at ht;exact ht
  |false=>
   rw[hp]at ht;cases hb:Nat.beq s t with
   |true=>obtain rfl:=aYZ hb;rw[←ht,hs]
   |false=>exact ht
 subst ho;intro a w hh;have kk:∀v,v=Value.bool (bif want then b&&c else b||c)→∀a w,Hl X ((p,v)::σ) μ Ds a w→rQ X.r bad P all K Q (gH all ys) a w:=by rintro _ rfl a w h;exact k a w h
 cases b<;>cases want
 ·exact WL.append (hyes rfl a w (hsub _ rfl a w hh)) fun a w h=>kk _ rfl a w (hback _ _ rfl a w h)
 ·exact WL.append (hno rfl a w (hsub _ rfl a w hh)) fun a w h=>kk _ rfl a w (hback _ _ rfl a w h)
 ·exact WL.append (hno rfl a w (hsub _ rfl a w hh)) fun a w h=>kk _ rfl a w (hback _ _ rfl a w h)
 ·exact WL.append (hyes rfl a w (hsub _ rfl a w hh)) fun a w h=>kk _ rfl a w (hback _ _ rfl a w h)
theorem dM(k:Nat){s p:Nat}{b c:Bool}(hs:look σ s=some (.bool b))
 (hyes:b=true→WL P X bad all (fun a w=>Hl X ((p,.bool c)::(s,.bool true)::σ) μ Ds a w) Q (os.take k) ((s,.bool true)::σ) μ Ds)
 (hno:b=false→WL P X bad all (fun a w=>Hl X ((p,.bool false)::(s,.bool false)::σ) μ Ds a w) Q (os.take k) ((s,.bool false)::σ) μ Ds)
 (kk:WL P X bad all K Q (os.drop k) ((p,.bool (b&&c))::σ) μ Ds):WL P X bad all K Q os σ μ Ds:=DH (os.take k) (os.drop k) (want:=true) (bAJ k os).symm hs hyes hno kk
theorem dY(k:Nat){s p:Nat}{b c:Bool}(hs:look σ s=some (.bool b))
 (hyes:b=false→WL P X bad all (fun a w=>Hl X ((p,.bool c)::(s,.bool false)::σ) μ Ds a w) Q (os.take k) ((s,.bool false)::σ) μ Ds)
 (hno:b=true→WL P X bad all (fun a w=>Hl X ((p,.bool true)::(s,.bool true)::σ) μ Ds a w) Q (os.take k) ((s,.bool true)::σ) μ Ds)
 (kk:WL P X bad all K Q (os.drop k) ((p,.bool (b||c))::σ) μ Ds):WL P X bad all K Q os σ μ Ds:=DH (os.take k) (os.drop k) (want:=false) (bAJ k os).symm hs hyes hno kk
theorem A5{fls:List Bool}{I M:Act→World→Prop}(hk:∀a w,I a w→M a w):∀(pl:hC) (a:Act) (w:World),wF X.r bad P all fls Q I pl a w→wF X.r bad P all fls Q M pl a w
 |.fin c,a,w,h=>by
  have:=pA (X:=X) (K':=I) _ [] a w h (fun a w h=>hk a w h);rw[aXS]at this;exact this
 |.fork d p A q B,a,w,h=>by
  have one:∀(xs:List (Bool×Oper)) (G K2:Act→World→Prop) (a:Act) (w:World),rQ X.r bad P all G Q xs a w→(∀a w,G a w→K2 a w)→rQ X.r bad P all K2 Q xs a w:=fun xs G K2 a w h hh=>by
   have:=pA (X:=X) (K':=G) xs [] a w h (fun a w h=>hh a w h);rw[aXS]at this;exact this
  exact one _ _ _ a w h fun a w hh=>⟨one _ _ _ a w hh.1 (A5 hk A),one _ _ _ a w hh.2 (A5 hk B)⟩
 |.forkN d p ps A,a,w,h=>by
  have one:∀(xs:List (Bool×Oper)) (G K2:Act→World→Prop) (a:Act) (w:World),rQ X.r bad P all G Q xs a w→(∀a w,G a w→K2 a w)→rQ X.r bad P all K2 Q xs a w:=fun xs G K2 a w h hh=>by
   have:=pA (X:=X) (K':=G) xs [] a w h (fun a w h=>hh a w h);rw[aXS]at this;exact this
  exact one _ _ _ a w h fun a w hh i hi=>one _ _ _ a w (hh i hi) (A5 hk (A i))
theorem Y1{fls:List Bool}{K':Act→World→Prop}:∀(xs ys:List hC) (a:Act) (w:World),IF X.r bad P all fls Q K' xs a w→(∀a w,K' a w→IF X.r bad P all fls Q K ys a w)→IF X.r bad P all fls Q K (xs++ys) a w
 | [],_,a,w,h,hk=>hk a w h
 |x::xs,ys,a,w,h,hk=>A5 (fun a w h=>Y1 xs ys a w h hk) x a w h
theorem s7{fls:List Bool}{γ:Type}(I:γ→Prop)(S:γ→cG)(M:γ→aD)(E:γ→List aC)(xs ys:List hC){segs:List hC}(ho:segs=xs++ys)(h1:WS P X bad all fls (fun a w=>∃g,I g∧Hl X (S g) (M g) (E g) a w) Q xs σ μ Ds)
  (h2:∀g,I g→WS P X bad all fls K Q ys (S g) (M g) (E g)):WS P X bad all fls K Q segs σ μ Ds:=by
 subst ho;intro a w hh;exact Y1 xs ys a w (h1 a w hh) fun a w ⟨g,hg,h⟩=>h2 g hg a w h
def G5:Nat→cG→Bool
 |0,_=>true
 |_,[]=>true
 |n+1,(k,_)::r=>(match look (r.drop n) k with|none=>true|some _=>false)&&G5 n r
theorem zR:∀(n:Nat) (σ:cG),G5 n σ=true→∀s v,look (σ.drop n) s=some v→look σ s=some v
 |0,σ,_,s,v,h=>h
 |n+1,[],_,s,v,h=>h
 |n+1,(k,u)::r,hd,s,v,h=>by
  simp only[G5,aYB]at hd;simp only[List.drop_succ_cons]at h;have h2:=zR n r hd.2 s v h;simp only[look];cases hb:Nat.beq k s with
  |false=>exact h2
  |true=>
   obtain rfl:=aYZ hb;have:=hd.1;rw[h]at this;cases this
theorem Hl.cutK{p:Nat}{v:Value}{a:Act}{w:World}(n:Nat)(h:Hl X ((p,v)::σ) μ Ds a w)(hd:G5 n σ=true):Hl X ((p,v)::σ.drop n) μ Ds a w:=by
 obtain⟨h1,h2,h3⟩:=h;refine⟨h1,fun s u hs=>h2 s u ?_,h3⟩;simp only[look]at hs ⊢
 cases hb:Nat.beq p s with
 |true=>rw[hb]at hs;exact hs
 |false=>rw[hb]at hs;exact zR n σ hd s u hs
theorem aR{p:Nat}{v:Value}(n:Nat)(hd:G5 n σ=true:=by exact rfl):WL P X bad all (fun a w=>Hl X ((p,v)::σ.drop n) μ Ds a w) Q [] ((p,v)::σ) μ Ds:=xN fun _ _ hh=>hh.cutK n hd
theorem aA{z:Code}{id:Nat}{ops:Array Oper}(h:WL P X [] ops (fun a w=>(Exit.then (z.wpIn (FW X.r) 0 P Q) Q) .normal a w) (Exit.then (z.wpIn (FW X.r) 0 P Q) Q) ((List.range ops.size).map fun i=>(false,i)) σ μ Ds):WC P X Q (.seq (.region id ops false) z) σ μ Ds:=aO (aX h)
theorem dV{y z:Code}{id:Nat}{ops:Array Oper}(h:WL P X [] ops (fun a w=>(Exit.then (y.wpIn (FW X.r) 0 P (Exit.then (z.wpIn (FW X.r) 0 P Q) Q)) (Exit.then (z.wpIn (FW X.r) 0 P Q) Q)) .normal a w) (Exit.then (y.wpIn (FW X.r) 0 P (Exit.then (z.wpIn (FW X.r) 0 P Q) Q)) (Exit.then (z.wpIn (FW X.r) 0 P Q) Q)) ((List.range ops.size).map fun i=>(false,i)) σ μ Ds):WC P X Q (.seq (.seq (.region id ops false) y) z) σ μ Ds:=aO (aA h)
theorem aG{y:Code}{R:Exit→Act→World→Prop}(h:WC P X Q y σ μ Ds):WL P X bad all (fun a w=>(Exit.then (y.wpIn (FW X.r) 0 P Q) Q) .normal a w) R [] σ μ Ds:=xN (PY h)
theorem bR{x y:Code}{R:Exit→Act→World→Prop}(h:WC P X (Exit.then (y.wpIn (FW X.r) 0 P Q) Q) x σ μ Ds):WL P X bad all (fun a w=>(Exit.then ((Code.seq x y).wpIn (FW X.r) 0 P Q) Q) .normal a w) R [] σ μ Ds:=aG (aO h)
theorem aK{z:Code}{id:Nat}{ops:Array Oper}{R:Exit→Act→World→Prop}(h:WL P X [] ops (fun a w=>(Exit.then (z.wpIn (FW X.r) 0 P Q) Q) .normal a w) (Exit.then (z.wpIn (FW X.r) 0 P Q) Q) ((List.range ops.size).map fun i=>(false,i)) σ μ Ds):WL P X bad all (fun a w=>(Exit.then ((Code.seq (.region id ops false) z).wpIn (FW X.r) 0 P Q) Q) .normal a w) R [] σ μ Ds:=aG (aA h)
theorem bW{y z:Code}{id:Nat}{ops:Array Oper}{R:Exit→Act→World→Prop}(h:WL P X [] ops (fun a w=>(Exit.then (y.wpIn (FW X.r) 0 P (Exit.then (z.wpIn (FW X.r) 0 P Q) Q)) (Exit.then (z.wpIn (FW X.r) 0 P Q) Q)) .normal a w) (Exit.then (y.wpIn (FW X.r) 0 P (Exit.then (z.wpIn (FW X.r) 0 P Q) Q)) (Exit.then (z.wpIn (FW X.r) 0 P Q) Q)) ((List.range ops.size).map fun i=>(false,i)) σ μ Ds):WL P X bad all (fun a w=>(Exit.then ((Code.seq (.seq (.region id ops false) y) z).wpIn (FW X.r) 0 P Q) Q) .normal a w) R [] σ μ Ds:=aG (dV h)
theorem aH{R:Exit→Act→World→Prop}(h:∀a w,Hl X σ μ Ds a w→Q .ret a w):WL P X bad all (fun a w=>(Exit.then (Code.ret.wpIn (FW X.r) 0 P Q) Q) .normal a w) R [] σ μ Ds:=aG (z6 h)
theorem aZ{y:Code}(h:WC P X Q y σ μ Ds):WC P X (Exit.then (y.wpIn (FW X.r) 0 P Q) Q) .skip σ μ Ds:=cB (PY h)

theorem ZL{k:Act→World→Prop}(h:∀a w,Hl X σ μ Ds a w→Q .ret a w):∀a w,Hl X σ μ Ds a w→Exit.then k Q .ret a w:=h
theorem _root_.Go.Fs.Zas{k:Act→World→Prop}(h:∀a w,Hl X σ μ Ds a w→Q .ret a w):∀a w,Hl X σ μ Ds a w→Exit.then k Q .ret a w:=ZL h
theorem OQ{k:Act→World→Prop}{id:Nat}(h:∀a w,Hl X σ μ Ds a w→Q (.exit id) a w):∀a w,Hl X σ μ Ds a w→Exit.then k Q (.exit id) a w:=h
theorem _root_.Go.Fs.Zaq{k:Act→World→Prop}{id:Nat}(h:∀a w,Hl X σ μ Ds a w→Q (.exit id) a w):∀a w,Hl X σ μ Ds a w→Exit.then k Q (.exit id) a w:=OQ h
theorem RN{id:Nat}(h:∀a w,Hl X σ μ Ds a w→Q .ret a w):∀a w,Hl X σ μ Ds a w→Exit.inBlock id Q .ret a w:=h
theorem _root_.Go.Fs.Zav{id:Nat}(h:∀a w,Hl X σ μ Ds a w→Q .ret a w):∀a w,Hl X σ μ Ds a w→Exit.inBlock id Q .ret a w:=RN h
theorem PR{id:Nat}(h:∀a w,Hl X σ μ Ds a w→Q .normal a w):∀a w,Hl X σ μ Ds a w→Exit.inBlock id Q .normal a w:=h
theorem _root_.Go.Fs.Zat{id:Nat}(h:∀a w,Hl X σ μ Ds a w→Q .normal a w):∀a w,Hl X σ μ Ds a w→Exit.inBlock id Q .normal a w:=PR h
theorem JJ{id:Nat}(h:∀a w,Hl X σ μ Ds a w→Q .normal a w):∀a w,Hl X σ μ Ds a w→Exit.inBlock id Q (.exit id) a w:=fun a w hh=>FK (h a w hh)
theorem _root_.Go.Fs.Zau{id:Nat}(h:∀a w,Hl X σ μ Ds a w→Q .normal a w):∀a w,Hl X σ μ Ds a w→Exit.inBlock id Q (.exit id) a w:=JJ h
theorem pS{id id':Nat}(hne:Nat.beq id' id=false)(h:∀a w,Hl X σ μ Ds a w→Q (.exit id') a w):∀a w,Hl X σ μ Ds a w→Exit.inBlock id Q (.exit id') a w:=fun a w hh=>BH hne (h a w hh)
theorem dB{γ:Type}{c:Code}(m:γ→Nat)(I:γ→Prop)(ch:γ→cG)(rest:cG)(M:γ→aD)(E:γ→List aC)(g₀:γ)(h₀:I g₀)(hch:HI σ (ch g₀))(hrest:HI σ rest)(hμ:(M g₀).Sublist μ)(hD:∀D∈E g₀,∃D'∈Ds,Le D D')
  (round:∀g,I g→WC P X (Exit.then (fun a w=>∃g',I g'∧m g'<m g∧Hl X (ch g'++rest) (M g') (E g') a w) Q) c (ch g++rest) (M g) (E g)):WC P X Q (.loop c) σ μ Ds:=
 aUM m I (fun g=>ch g++rest) M E g₀ h₀ (HI.app hch hrest) hμ hD round
theorem bP{γ:Type}{c:Code}(m:γ→Nat)(I:γ→Prop)(ch:γ→cG)(rest:cG)(E:γ→List aC)(g₀:γ)(h₀:I g₀)(hch:HI σ (ch g₀))(hrest:HI σ rest)(hD:∀D∈E g₀,∃D'∈Ds,Le D D')
  (round:∀g,I g→WC P X (Exit.then (fun a w=>∃g',I g'∧m g'<m g∧Hl X (ch g'++rest) ((fun _=>μ) g') (E g') a w) Q) c (ch g++rest) μ (E g)):WC P X Q (.loop c) σ μ Ds:=
 dB m I ch rest (fun _=>μ) E g₀ h₀ hch hrest Mm5 hD round
theorem aM{γ:Type}{m:γ→Nat}{I:γ→Prop}{ch:γ→cG}{rest:cG}{M:γ→aD}{E:γ→List aC}{g:γ}(n:Nat)(g':γ)(h1:I g')(h2:m g'<m g)(hch:HI σ (ch g'))(hn:G5 n σ=true)(hr:σ.drop n=rest)(hμ:(M g').Sublist μ)(hD:∀D∈E g',∃D'∈Ds,Le D D'):
  ∀a w,Hl X σ μ Ds a w→Exit.then (fun a w=>∃g',I g'∧m g'<m g∧Hl X (ch g'++rest) (M g') (E g') a w) Q .normal a w:=by
 intro a w hh;refine⟨g',h1,h2,?_⟩;have h3:=hh.weak (σ':=ch g') hch hμ hD;refine⟨h3.1,fun s v hs=>?_,h3.2.2⟩;rcases Y8 hs with hs|hs
 ·exact h3.2.1 s v hs
 ·subst hr;exact hh.2.1 s v (zR n σ hn s v hs)
theorem aE{Ds:List aC}:∀D∈Ds,∃D'∈Ds,Le D D':=fun D h=>⟨D,h,Le.refl D⟩
section ops
variable{d:Nat}{x y z:Operand}{u v:Value}{ty:TypeId}{pos:String}{aft:Array Edge}{g:Option (Nat×Bool)}
theorem aCR(ho:all[ix]?= some ⟨some d,.move x,ty,pos,aft,g⟩)(hx:ev σ x=some v)(hN:Nat.blt d X.N=true)(hg:dE all σ g)(k:WL P X bad all K Q os ((d,v)::σ) μ Ds):WL P X bad all K Q ((fl,ix)::os) σ μ Ds:=
 bX ho rfl rfl hN hg (fun ρ hρ w'=>by simp[execOp,hρ x v hx,Pure.pure]) k
theorem _root_.Go.Fs.Za(e9:(all[ix]?,ev σ x)=(some ⟨some d,.move x,ty,pos,aft,g⟩,some v))(k:WL P X bad all K Q os ((d,v)::σ) μ Ds)(hN:Nat.blt d X.N=true:=by exact rfl)(hg:dE all σ g:=by exact bCV):WL P X bad all K Q ((fl,ix)::os) σ μ Ds:=aCR (aXV (fun z=>z.1) e9) (aXV (fun z=>z.2) e9) hN hg k
theorem _root_.Go.Fs.Zb(e9:(all[ix]?,ev σ x)=(some ⟨some d,.move x,ty,pos,aft,g⟩,some v))(k:WL P X bad all K Q os ((d,v)::σ) μ Ds)(hN:Nat.blt d X.N=true:=by exact rfl)(hg:dE all σ g:=by exact⟨_,rfl,rfl⟩):WL P X bad all K Q ((fl,ix)::os) σ μ Ds:=aCR (aXV (fun z=>z.1) e9) (aXV (fun z=>z.2) e9) hN hg k
theorem aEB(ho:all[ix]?= some ⟨some d,.assign x,ty,pos,aft,g⟩)(hx:ev σ x=some v)(hN:Nat.blt d X.N=true)(hg:dE all σ g)(k:WL P X bad all K Q os ((d,v)::σ) μ Ds):WL P X bad all K Q ((fl,ix)::os) σ μ Ds:=
 bX ho rfl rfl hN hg (fun ρ hρ w'=>by simp[execOp,hρ x v hx,Pure.pure]) k
theorem _root_.Go.Fs.Zj(e9:(all[ix]?,ev σ x)=(some ⟨some d,.assign x,ty,pos,aft,g⟩,some v))(k:WL P X bad all K Q os ((d,v)::σ) μ Ds)(hN:Nat.blt d X.N=true:=by exact rfl)(hg:dE all σ g:=by exact bCV):WL P X bad all K Q ((fl,ix)::os) σ μ Ds:=aEB (aXV (fun z=>z.1) e9) (aXV (fun z=>z.2) e9) hN hg k
theorem Z5(ho:all[ix]?= some ⟨some d,.pick x y z,ty,pos,aft,g⟩)(hx:ev σ x=some (.bool true))(hy:ev σ y=some v)(hN:Nat.blt d X.N=true)(hg:dE all σ g)(k:WL P X bad all K Q os ((d,v)::σ) μ Ds):WL P X bad all K Q ((fl,ix)::os) σ μ Ds:=
 bX ho rfl rfl hN hg (fun ρ hρ w'=>by simp[execOp,hρ x _ hx,hρ y _ hy,asBool,go_sem]) k
theorem _root_.Go.Fs.Zag(e9:(all[ix]?,ev σ x,ev σ y)=(some ⟨some d,.pick x y z,ty,pos,aft,g⟩,some (.bool true),some v))(k:WL P X bad all K Q os ((d,v)::σ) μ Ds)(hN:Nat.blt d X.N=true:=by exact rfl)(hg:dE all σ g:=by exact bCV):WL P X bad all K Q ((fl,ix)::os) σ μ Ds:=Z5 (aXV (fun z=>z.1) e9) (aXV (fun z=>z.2.1) e9) (aXV (fun z=>z.2.2) e9) hN hg k
theorem g8(ho:all[ix]?= some ⟨some d,.pick x y z,ty,pos,aft,g⟩)(hx:ev σ x=some (.bool false))(hy:ev σ z=some v)(hN:Nat.blt d X.N=true)(hg:dE all σ g)(k:WL P X bad all K Q os ((d,v)::σ) μ Ds):WL P X bad all K Q ((fl,ix)::os) σ μ Ds:=
 bX ho rfl rfl hN hg (fun ρ hρ w'=>by simp[execOp,hρ x _ hx,hρ z _ hy,asBool,go_sem]) k
theorem _root_.Go.Fs.Zah(e9:(all[ix]?,ev σ x,ev σ z)=(some ⟨some d,.pick x y z,ty,pos,aft,g⟩,some (.bool false),some v))(k:WL P X bad all K Q os ((d,v)::σ) μ Ds)(hN:Nat.blt d X.N=true:=by exact rfl)(hg:dE all σ g:=by exact bCV):WL P X bad all K Q ((fl,ix)::os) σ μ Ds:=g8 (aXV (fun z=>z.1) e9) (aXV (fun z=>z.2.1) e9) (aXV (fun z=>z.2.2) e9) hN hg k
theorem aRA{b:Bool}{t:TypeId}(ho:all[ix]?= some ⟨some d,.unOp .not t x,ty,pos,aft,g⟩)(hx:ev σ x=some (.bool b))(hN:Nat.blt d X.N=true)(hg:dE all σ g)(k:WL P X bad all K Q os ((d,.bool (!b))::σ) μ Ds):WL P X bad all K Q ((fl,ix)::os) σ μ Ds:=
 bX ho rfl rfl hN hg (fun ρ hρ w'=>by simp[execOp,hρ x _ hx,Op.unary,go_sem]) k
theorem _root_.Go.Fs.Zak{b:Bool}{t:TypeId}(e9:(all[ix]?,ev σ x)=(some ⟨some d,.unOp .not t x,ty,pos,aft,g⟩,some (.bool b)))(k:WL P X bad all K Q os ((d,.bool (!b))::σ) μ Ds)(hN:Nat.blt d X.N=true:=by exact rfl)(hg:dE all σ g:=by exact bCV):WL P X bad all K Q ((fl,ix)::os) σ μ Ds:=aRA (aXV (fun z=>z.1) e9) (aXV (fun z=>z.2) e9) hN hg k
theorem _root_.Go.Fs.Zal{b:Bool}{t:TypeId}(e9:(all[ix]?,ev σ x)=(some ⟨some d,.unOp .not t x,ty,pos,aft,g⟩,some (.bool b)))(k:WL P X bad all K Q os ((d,.bool (!b))::σ) μ Ds)(hN:Nat.blt d X.N=true:=by exact rfl)(hg:dE all σ g:=by exact⟨_,rfl,rfl⟩):WL P X bad all K Q ((fl,ix)::os) σ μ Ds:=aRA (aXV (fun z=>z.1) e9) (aXV (fun z=>z.2) e9) hN hg k
end ops
end Go.Fs
