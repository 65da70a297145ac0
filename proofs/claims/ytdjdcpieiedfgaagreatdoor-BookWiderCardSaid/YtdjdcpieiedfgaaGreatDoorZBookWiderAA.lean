/- Of the proof of BookWider: Yy, Base, State. -/
import Derived.KernelRfl
import Derived.OrdersIn
import Derived.RangeFuncIn
import Derived.WalkKit
namespace Go
theorem n3 : type_of% @List.not_mem_nil := @List.not_mem_nil
theorem n4 : type_of% @List.mem_cons := @List.mem_cons
theorem n5 : type_of% @List.mem_cons_of_mem := @List.mem_cons_of_mem
theorem GE : type_of% @List.mem_append_right := @List.mem_append_right
theorem GT : type_of% @List.mem_map := @List.mem_map
theorem LE : type_of% @List.mem_of_getElem? := @List.mem_of_getElem?
theorem LT : type_of% @List.mem_cons_self := @List.mem_cons_self
theorem aYS : type_of% @List.length_append := @List.length_append
theorem aYT : type_of% @Bool.and_eq_true := @Bool.and_eq_true
theorem aYU : type_of% @List.getElem?_eq_getElem := @List.getElem?_eq_getElem
theorem aYV : type_of% @List.getElem?_eq_some_iff := @List.getElem?_eq_some_iff
theorem aYW : type_of% @List.length_cons := @List.length_cons
theorem aYX : type_of% @List.mem_append_left := @List.mem_append_left
theorem aYY : type_of% @congrArg := @congrArg
theorem aYZ : type_of% @Or.inr := @Or.inr
theorem aZA : type_of% @List.append_nil := @List.append_nil
theorem aZB : type_of% @if_neg := @if_neg
theorem aZC : type_of% @List.nodup_append := @List.nodup_append
theorem aZD : type_of% @List.append_assoc := @List.append_assoc
theorem aZE : type_of% @Or.inl := @Or.inl
theorem aZF : type_of% @List.mem_append := @List.mem_append
theorem aZG : type_of% @List.take_add_one := @List.take_add_one
theorem aZH : type_of% @List.map_append := @List.map_append
theorem aZI : type_of% @decide_eq_true_eq := @decide_eq_true_eq
theorem aZJ : type_of% @List.Mem.tail := @List.Mem.tail
theorem aZK : type_of% @if_pos := @if_pos
theorem aZL : type_of% @Nat.le_refl := @Nat.le_refl
theorem aZM : type_of% @List.mem_singleton := @List.mem_singleton
theorem aZN : type_of% @List.all_eq_true := @List.all_eq_true
theorem aZO : type_of% @Option.some.inj := @Option.some.inj
theorem aZP : type_of% @List.take_of_length_le := @List.take_of_length_le
theorem aZQ : type_of% @List.Sublist.cons := @List.Sublist.cons
theorem aZR : type_of% @List.map_cons := @List.map_cons
theorem aZS : type_of% @List.flatMap_append := @List.flatMap_append
theorem aZT : type_of% @List.getElem?_map := @List.getElem?_map
theorem aZU : type_of% @List.nil_append := @List.nil_append
theorem aZV : type_of% @List.size_toArray := @List.size_toArray
theorem aZW : type_of% @of_decide_eq_true := @of_decide_eq_true
theorem aZX : type_of% @Option.map_some := @Option.map_some
theorem aZY : type_of% @of_decide_eq_false := @of_decide_eq_false
theorem aZZ : type_of% @List.drop_eq_nil_of_le := @List.drop_eq_nil_of_le
theorem bAA : type_of% @List.take_length := @List.take_length
theorem bAB : type_of% @List.take_append_of_le_length := @List.take_append_of_le_length
theorem bAC : type_of% @List.flatMap_cons := @List.flatMap_cons
theorem bAD : type_of% @Bool.or_eq_true := @Bool.or_eq_true
theorem bAE : type_of% @Bool.false_eq_true := @Bool.false_eq_true
theorem bAF : type_of% @Nat.eq_of_beq_eq_true := @Nat.eq_of_beq_eq_true
theorem bAG : type_of% @List.foldl_cons := @List.foldl_cons
theorem bAH : type_of% @decide_eq_false_iff_not := @decide_eq_false_iff_not
theorem bAI : type_of% @List.length_eraseIdx := @List.length_eraseIdx
theorem bAJ : type_of% @List.flatMap_singleton := @List.flatMap_singleton
theorem bAK : type_of% @Int.toNat_natCast := @Int.toNat_natCast
theorem bAL : type_of% @Array.getD_eq_getD_getElem? := @Array.getD_eq_getD_getElem?
theorem bAM : type_of% @List.drop_eq_getElem_cons := @List.drop_eq_getElem_cons
theorem bAN : type_of% @List.foldl_append := @List.foldl_append
theorem bAO : type_of% @List.nodup_cons := @List.nodup_cons
theorem bAP : type_of% @List.length_nil := @List.length_nil
theorem bAQ : type_of% @List.getD_eq_getElem?_getD := @List.getD_eq_getElem?_getD
theorem bAR : type_of% @Option.toList_some := @Option.toList_some
theorem bAS : type_of% @List.range_succ := @List.range_succ
theorem bAT : type_of% @List.cons.injEq := @List.cons.injEq
theorem bAU : type_of% @Bool.or_eq_false_iff := @Bool.or_eq_false_iff
theorem bAV : type_of% @List.nodup_nil := @List.nodup_nil
theorem bAW : type_of% @List.cons_append := @List.cons_append
theorem bAX : type_of% @if_true := @if_true
theorem bAY : type_of% @List.length_map := @List.length_map
theorem bAZ : type_of% @Nat.le_of_ble_eq_true := @Nat.le_of_ble_eq_true
theorem bBA : type_of% @Option.map_none := @Option.map_none
theorem bBB : type_of% @or_false := @or_false
theorem bBC : type_of% @Nat.lt_of_lt_of_le := @Nat.lt_of_lt_of_le
theorem bBD : type_of% @Array.getElem?_append_left := @Array.getElem?_append_left
theorem bBE : type_of% @Nat.le_trans := @Nat.le_trans
theorem bBF : type_of% @List.mem_range := @List.mem_range
theorem bBG : type_of% @Array.getElem?_setIfInBounds_ne := @Array.getElem?_setIfInBounds_ne
theorem bBH : type_of% @if_false := @if_false
theorem bBI : type_of% @List.length_take := @List.length_take
theorem bBJ : type_of% @List.getElem?_drop := @List.getElem?_drop
theorem bBK : type_of% @List.filter_append := @List.filter_append
theorem bBL : type_of% @List.getElem?_take_of_lt := @List.getElem?_take_of_lt
theorem bBM : type_of% @Array.getElem?_eq_some_iff := @Array.getElem?_eq_some_iff
theorem bBN : type_of% @List.length_set := @List.length_set
theorem bBO : type_of% @List.length_filter_le := @List.length_filter_le
theorem bBP : type_of% @List.length_eq_zero_iff := @List.length_eq_zero_iff
theorem bBQ : type_of% @Nat.mul_one := @Nat.mul_one
theorem bBR : type_of% @List.getElem?_append_left := @List.getElem?_append_left
theorem bBS : type_of% @Option.map_eq_some_iff := @Option.map_eq_some_iff
theorem bBT : type_of% @List.length_drop := @List.length_drop
theorem bBU : type_of% @Nat.add_mul := @Nat.add_mul
theorem bBV : type_of% @List.take_append_drop := @List.take_append_drop
theorem bBW : type_of% @List.mem_iff_getElem? := @List.mem_iff_getElem?
theorem bBX : type_of% @List.getElem?_eq_none := @List.getElem?_eq_none
theorem bBY : type_of% @List.length_pos_iff := @List.length_pos_iff
theorem bBZ : type_of% @List.getLast?_eq_some_getLast := @List.getLast?_eq_some_getLast
theorem bCA : type_of% @List.mapM_cons := @List.mapM_cons
theorem bCB : type_of% @Nat.zero_add := @Nat.zero_add
theorem bCC : type_of% @decide_eq_false := @decide_eq_false
theorem bCD : type_of% @List.length_singleton := @List.length_singleton
theorem bCE : type_of% @Nat.pow_le_pow_right := @Nat.pow_le_pow_right
theorem bCF : type_of% @List.any_append := @List.any_append
theorem bCG : type_of% @Bool.eq_iff_iff := @Bool.eq_iff_iff
theorem bCH : type_of% @Option.getD_some := @Option.getD_some
theorem bCI : type_of% @List.filter_cons := @List.filter_cons
theorem bCJ : type_of% @Int.le_refl := @Int.le_refl
theorem bCK : type_of% @List.singleton_append := @List.singleton_append
theorem bCL : type_of% @ByteArray.size_append := @ByteArray.size_append
theorem bCM : type_of% @Nat.sub_zero := @Nat.sub_zero
theorem bCN : type_of% @List.drop_zero := @List.drop_zero
theorem bCO : type_of% @Array.getElem?_eq_getElem := @Array.getElem?_eq_getElem
theorem bCP : type_of% @List.map_singleton := @List.map_singleton
theorem bCQ : type_of% @Prod.mk.injEq := @Prod.mk.injEq
theorem bCR : type_of% @Bool.true_and := @Bool.true_and
theorem bCS : type_of% @Nat.zero_mul := @Nat.zero_mul
theorem bCT : type_of% @List.map_nil := @List.map_nil
theorem bCU : type_of% @Option.some.injEq := @Option.some.injEq
theorem bCV : type_of% @Nat.not_lt_zero := @Nat.not_lt_zero
theorem bCW : type_of% @Nat.min_eq_left := @Nat.min_eq_left
theorem bCX : type_of% @List.drop_length_add_append := @List.drop_length_add_append
theorem bCY : type_of% @List.length_eraseIdx_of_lt := @List.length_eraseIdx_of_lt
theorem bCZ : type_of% @List.getElem?_append_right := @List.getElem?_append_right
theorem bDA : type_of% @List.drop_append := @List.drop_append
theorem bDB : type_of% @List.mem_or_eq_of_mem_set := @List.mem_or_eq_of_mem_set
theorem bDC : type_of% @List.contains_eq_mem := @List.contains_eq_mem
theorem bDD : type_of% @not_false_eq_true := @not_false_eq_true
theorem bDE : type_of% @List.ext_getElem? := @List.ext_getElem?
theorem bDF : type_of% @Classical.not_not := @Classical.not_not
theorem bDG : type_of% @Bool.not_eq_true' := @Bool.not_eq_true'
theorem bDH : type_of% @List.length_take_le := @List.length_take_le
theorem bDI : type_of% @List.getElem?_range := @List.getElem?_range
theorem bDJ : type_of% @List.Mem.head := @List.Mem.head
theorem bDK : type_of% @List.mem_flatMap := @List.mem_flatMap
theorem bDL : type_of% @List.eq_nil_of_length_eq_zero := @List.eq_nil_of_length_eq_zero
theorem bDM : type_of% @Array.toList_map := @Array.toList_map
theorem bDN : type_of% @List.take_left := @List.take_left
theorem bDO : type_of% @and_self := @and_self
theorem bDP : type_of% @List.nil_prefix := @List.nil_prefix
theorem bDQ : type_of% @List.map_map := @List.map_map
theorem bDR : type_of% @beq_iff_eq := @beq_iff_eq
theorem bDS : type_of% @List.all_cons := @List.all_cons
theorem bDT : type_of% @Nat.mul_le_mul_right := @Nat.mul_le_mul_right
theorem bDU : type_of% @List.mem_of_mem_take := @List.mem_of_mem_take
theorem bDV : type_of% @List.getElem?_zip_eq_some := @List.getElem?_zip_eq_some
theorem bDW : type_of% @List.any_eq_true := @List.any_eq_true
theorem bDX : type_of% @List.map_congr_left := @List.map_congr_left
theorem bDY : type_of% @trivial := @trivial
theorem Mm0{α:Type}{a:α}{l:List α}:a∈a::l:=bDJ _
theorem Mm1{α:Type}{a b:α}{l:List α}:a∈b::a::l:=aZJ _ (bDJ _)
theorem Mm2{α:Type}{a b c:α}{l:List α}:a∈b::c::a::l:=aZJ _ (aZJ _ (bDJ _))
theorem Mm3{α:Type}{a b c d:α}{l:List α}:a∈b::c::d::a::l:=aZJ _ (aZJ _ (aZJ _ (bDJ _)))
theorem Mm5{α:Type}{l:List α}:l.Sublist l:=List.Sublist.refl _
theorem Ya{p:Prop}(h:p:=by first|rfl|(simp only[aO, *];done)|(simp only[aO, *];rfl)|(simp only[aO, *];omega)):p:=h
theorem Yb{p:Prop}(h:p:=by first|rfl|(show some (Value.int _ _)=some (Value.int _ _);congr 2;omega)):p:=h
theorem Yc{p:Prop}(h:p:=by first|simp|assumption):p:=h
theorem Yd{p:Prop}(h:p:=by omega):p:=h
theorem Ye{p:Prop}(h:p:=by simp):p:=h
theorem Yf{p:Prop}(h:p:=by simp only[uN];omega):p:=h
theorem Yg{p:Prop}(h:p:=by kernel_rfl):p:=h
theorem Yh{p:Prop}(h:p:=by first|exact dR _|simp[cell1]):p:=h
theorem Yi{p:Prop}(h:p:=by exact fun p hp=>by cases hp):p:=h
theorem Yj{p:Prop}(h:p:=by exact mQ fun _=>by simp only[List.count_append,List.count_cons,List.count_nil,dO];omega):p:=h
theorem Yk{p:Prop}(h:p:=by simp[cell1]):p:=h
theorem Yl{p:Prop}(h:p:=by assumption):p:=h
theorem Ym{p:Prop}(h:p:=by simp only;omega):p:=h
theorem Yn{p:Prop}(h:p:=by first|assumption|simp):p:=h
theorem Yo{p:Prop}(h:p:=by first|exact Or.inl rfl|exact Or.inr (fun p hp=>gN.in_ (hnu p hp))):p:=h
theorem Yp{p:Prop}(h:p:=by first|omega|(simp only[bCL,y0,yD,aZV,aYW,bAP];omega)):p:=h
theorem Yq{p:Prop}(h:p:=by rw[←hHas.keys];exact GT.2 ⟨p,hp,rfl⟩):p:=h
theorem Yr{p:Prop}(h:p:=by exact fun D0 h=>by simp only[n4,n3,bBB]at h;rcases h with h|h;exact⟨D10,by simp,h▸Le.refl _⟩;exact⟨D,by simp,h▸Le.refl _⟩):p:=h
theorem Ys{p:Prop}(h:p:=by rw[aZM];rintro rfl;exact hap (GT.2 ⟨_,aZJ _ Mm0,rfl⟩)):p:=h
theorem Yt{p:Prop}(h:p:=by first|omega|(simp only[bBN];omega)):p:=h
theorem Yu{p:Prop}(h:p:=by first|exact iR|(simp only[aO, *];exact iR)):p:=h
theorem Yw{p:Prop}(h:p:=by first|exact dZ|(simp only[aO, *];exact dZ)):p:=h
theorem Yx{p:Prop}(h:p:=by first|exact mA|(simp only[aO, *];exact mA)):p:=h
theorem Yy{p:Prop}(h:p:=by decide):p:=h
theorem Yz{p:Prop}(h:p:=by exact mQ fun _=>by simp only[List.count_append,List.count_cons,List.count_nil,dO,setTable];omega):p:=h
theorem Yaa{p:Prop}(h:p:=by first|exact zH h4 h5|(rw[List.getElem?_set_ne Yd,List.getElem?_set_ne Yd];exact zH h4 h5)|(rw[List.getElem?_set_ne Yd,List.getElem?_set_ne Yd,List.getElem?_set_ne Yd];exact zH h4 h5)):p:=h
theorem Yab{p:Prop}(h:p:=by rwa [aZP Yd]at h2):p:=h
theorem Yac{p:Prop}(h:p:=by exact mQ fun _=>by simp only[List.count_append,List.count_cons,List.count_nil,dO,setRow];omega):p:=h
theorem Yad{p:Prop}(h:p:=by decide+kernel):p:=h
theorem Yae{p:Prop}(h:p:=by rw[aYS,hl1,←bBU];exact bBE (bDT _ Yd) (Nat.le_add_right _ _)):p:=h
theorem Yaf{p:Prop}(h:p:=by first|rfl|(simp only[*];done)|(simp only[aO, *];rfl)|(simp only[aO, *];omega)):p:=h
theorem Yag{p:Prop}(h:p:=by exact mQ fun _=>by simp only[List.count_append,List.count_cons,List.count_nil,dO,setYard];omega):p:=h
theorem Yah{p:Prop}(h:p:=by exact mQ fun _=>by simp only[List.count_append,List.count_cons,List.count_nil,dO,setBook];omega):p:=h
theorem Yai{p:Prop}(h:p:=by rw[aZM];rintro rfl;exact hap (GT.2 ⟨p,aYX _ hp,rfl⟩)):p:=h
theorem Yaj{p:Prop}(h:p:=by simp;omega):p:=h
theorem Yak{p:Prop}(h:p:=by first|omega|(simp only;omega)):p:=h
theorem Yal{p:Prop}(h:p:=by simpa using hi):p:=h
theorem Yam{p:Prop}(h:p:=by first|assumption|exact n5 _ hDr):p:=h
theorem Yan{p:Prop}(h:p:=by simpa using hl):p:=h
theorem Yao{p:Prop}(h:p:=by simpa using h):p:=h
theorem Yap{p:Prop}(h:p:=by simpa using hc2):p:=h
theorem Yaq{p:Prop}(h:p:=by rw[bAY,bBQ]):p:=h
theorem Yar{p:Prop}(h:p:=by rw[←hm.keys];exact GT.2 ⟨p,hp,rfl⟩):p:=h
theorem Yas{p:Prop}(h:p:=by rw[bAK];exact TK hb):p:=h
theorem Yat{p:Prop}(h:p:=by have:=hin.2;omega):p:=h
theorem Yau{p:Prop}(h:p:=by rw[bBI,bBT];omega):p:=h
theorem Yav{p:Prop}(h:p:=by cases k<;>simp[binOp,Op.intCmp,Pure.pure]):p:=h
theorem Yaw{p:Prop}(h:p:=by exact fun D0 h=>by simp only[n4,n3,bBB]at h;rcases h with rfl|rfl<;>exact⟨_,by simp,Le.refl _⟩):p:=h
theorem Yax{p:Prop}(h:p:=by rfl):p:=h
theorem Yay{p:Prop}(h:p:=by first|exact Or.inl rfl|exact Or.inr Ye):p:=h
theorem Yaz{p:Prop}(h:p:=by cases k<;>simp[binOp,Op.intArith,rM hr,Pure.pure]):p:=h
theorem Ya0{p:Prop}(h:p:=by cases b2<;>simp at hJ2;exact aYZ hJ2;exact aZE hJ2):p:=h
theorem Ya1{p:Prop}(h:p:=by simp only[bCL,y0,yD,aZV,aYW,bAP];omega):p:=h
theorem Ya2{p:Prop}(h:p:=by intro n hn;simp only[n4,n3,bBB]at hn;rcases hn with rfl|rfl|rfl<;>omega):p:=h
end Go
namespace Go.Fs

abbrev qI(n:Int):Value:=.int .i64 n
abbrev qP(b:Nat):Value:=.pointer (some ⟨b,0,none⟩)
abbrev qN:Value:=.slice none 0 0
abbrev qS(b n c:Nat):Value:=.slice (some ⟨b,0,none⟩) n c
abbrev qC(l:List Value)(e:TypeId):Obj:=.cells l.toArray e (0,0)
def FW(r:Option Nat):Fence:={fn:=fun _=>True,depth:=none,alive:=false,round:=r}
theorem g9(r:Option Nat)(n:Nat):(FW r).room n:=fun _ h=>by simp[FW]at h
theorem ZA(r:Option Nat)(P:Program)(m:Machine):m.fenced P (FW r):=
 fun _ _=>⟨fun h=>by simp[FW]at h,aZE bDY,fun _ _=>trivial,fun _ h=>by simp[FW]at h⟩
theorem o8{r:Option Nat}{P:Program}{m m':Machine}:StepsIn (Machine.fenced P (FW r)) P m m' ↔ Steps P m m':=
 ⟨StepsIn.steps,fun h=>(StepsIn.of_steps h).mono fun m _=>ZA r P m⟩
theorem wK{r:Option Nat}{P:Program}{m m':Machine}{e:Ending}:ComesIn (Machine.fenced P (FW r)) P m m' e ↔ Comes P m m' e:=by
 cases e with
 |returned v=>exact o8
 |panicked chain=>exact o8
 |outgrown=>exact Iff.rfl
theorem dP{r:Option Nat}{n:Nat}{P:Program}{f:FuncId}{args:Array Value}{w:World}{R:Ending→World→Prop}:
    CallsIn (FW r) n P f args w R ↔ Calls P f args w R:=
  ⟨fun h cs=>let ⟨e,w',fr,r,s,x⟩:=h.2 cs (g9 _ _);⟨e,w',fr,r,wK.1 s,x⟩,
   fun h=>⟨bDY,fun cs _=>let ⟨e,w',fr,r,s,x⟩:=h cs;⟨e,w',fr,r,wK.2 s,x⟩⟩⟩
def aGS(P:Program)(l:Nat)(f:FuncId)(tmps:Array Value)(assign body:Code)(w:World)(R:Ending→World→Prop):Prop:=
 RoundIn (FW none) 0 P l f tmps assign body w R
theorem s7{r:Option Nat}{n:Nat}{P:Program}{l:Nat}{f:FuncId}{tmps:Array Value}{assign body:Code}{w:World}{R:Ending→World→Prop}
  (h:aGS P l f tmps assign body w R):RoundIn (FW r) n P l f tmps assign body w R:=
 ⟨bDY,fun c cs _=>let ⟨e,w',q,s⟩:=h.2 c cs (g9 _ _);⟨e,w',q,wK.2 (wK.1 s)⟩⟩

def nZ{γb:Type}[Membership Nat γb](bad:γb)(w w':World):Prop:=w.heap.size≤w'.heap.size∧∀b,b<w.heap.size→b∉bad→w'.heap[b]?= w.heap[b]?
structure gN where
 l:List Nat
instance:Membership Nat gN:=⟨fun s b=>b∉s.l⟩
theorem gN.out{l:List Nat}{b:Nat}(h:b∈l):b∉(gN.mk l):=fun hn=>hn h
theorem gN.in_{l:List Nat}{b:Nat}(h:b∉l):b∈(gN.mk l):=h
theorem nZ.refl{γb:Type}[Membership Nat γb](bad:γb)(w:World):nZ bad w w:=⟨aZL _,fun _ _ _=>rfl⟩
theorem nZ.trans{γb:Type}[Membership Nat γb]{bad:γb}{w w1 w2:World}(h:nZ bad w w1)(h':nZ bad w1 w2):nZ bad w w2:=
 ⟨bBE h.1 h'.1,fun b hb hn=>(h'.2 b (bBC hb h.1) hn).trans (h.2 b hb hn)⟩

def jW:Op→Bool
 |.move _|.assign _|.pick _ _ _|.load _ _|.nilCheck _|.binOp _ _ _ _ _|.unOp _ _ _|.convert _ _ _|.fieldAddr _ _ _|.field _ _ _
 |.indexAddr _ _ _|.index _ _ _|.extract _ _|.slice _ _ _ _ _|.build _ _|.makeFunc _ _ _|.makeInterface _ _|.lookup _ _ _ _|.typeAssert _ _ _ _=>true
 |.call c=>match c.callee with|.builtin .len|.builtin .cap|.builtin .max|.builtin .min=>true|_=>false
 |_=>false
def nU:Op→Bool
 |.defer _=>true
 |.select _ _=>true
 |_=>false
def Yv{γb:Type}[Membership Nat γb](bad:γb)(P:Program)(all:Array Oper)(o:Oper)(a:Act)(w:World)(v:Value):Prop:=
 (Region.wanted o (yielded all a.tmps)=true∧∀w',nZ bad w w'→(execOp a.eval o).run P w'=.ok (.value v) w')∨
 (Region.wanted o (yielded all a.tmps)=false∧v=undef)
def I1(r:Option Nat){γb:Type}[Membership Nat γb](bad:γb)(P:Program)(all:Array Oper)(Q:Exit→Act→World→Prop)(o:Oper)(fl:Bool)(K:Act→World→Prop)(a:Act)(w:World):Prop:=
 if Region.wanted o (yielded all a.tmps)=true then o.wpIn (FW r) 0 P a w (fun a' w'=>(fl=true→nZ bad w w')∧K a' w') Q
 else K (a.put o.dst undef) w
def sY(r:Option Nat){γb:Type}[Membership Nat γb](bad:γb)(P:Program)(all:Array Oper)(K:Act→World→Prop)(Q:Exit→Act→World→Prop):List (Bool×Oper)→Act→World→Prop
 | [],a,w=>K a w
 |(fl,o)::os,a,w=>
  if jW o.op=true then ∃v,Yv bad P all o a w v∧sY r bad P all K Q os (a.put o.dst v) w
  else I1 r bad P all Q o fl (sY r bad P all K Q os) a w
variable{r:Option Nat}{γb:Type}[Membership Nat γb]{bad:γb}{P:Program}{all:Array Oper}{Q:Exit→Act→World→Prop}
theorem O2{o:Oper}(h:nU o.op=false)(ro:Option Nat)(ρ:Operand→Value):Oper.semAt ro ρ o=execOp ρ o:=
 Oper.semAt_eq ro ρ o fun c hc=>by rw[hc]at h;cases h
theorem H5{o:Op}(h:jW o=true):nU o=false:=by
 cases o<;>first|rfl|(cases h)
theorem Yv.run{o:Oper}{a:Act}{w:World}{v:Value}(h:Yv bad P all o a w v)(hk:jW o.op=true){K:Act→World→Prop}{i:Nat}(hi:all[i]?= some o){n:Nat}
  (hK:K (a.put o.dst v) w):wpOpIn (FW r) n P all Q i K a w:=by
 unfold wpOpIn;simp only[hi];rcases h with⟨hw,hv⟩|⟨hw,rfl⟩
 ·rw[aZK hw];refine⟨fun _ _=>trivial,?_⟩;rw[O2 (H5 hk),hv w (nZ.refl _ _)];exact hK
 ·rw[aZB (by simp[hw])];exact⟨fun _ _=>trivial,hK⟩
theorem NN{n:Nat}{o:Oper}{a:Act}{w:World}{K:Act→World→Prop}(h:o.wpIn (FW r) 0 P a w K Q):o.wpIn (FW r) n P a w K Q:=by
 refine⟨h.1,?_⟩;have h2:=h.2;generalize (o.semAt (FW r).round a.eval).run P w=x at *;cases x with
 |ok x w'=>
  cases x<;>simp only[Oper.uponIn]at h2 ⊢ <;>first
   |exact h2
   |exact⟨fun h=>by simp[FW]at h,dP.2 (dP.1 h2.2)⟩
   |exact⟨fun h=>by simp[FW]at h,fun c cs _=>h2.2 c cs (g9 _ _)⟩
   |exact⟨fun h=>by simp[FW]at h,bDY,fun c cs _=>h2.2.2 c cs (g9 _ _)⟩
 |halt x w'=>cases x<;>exact h2

theorem m5{n:Nat}{K:Act→World→Prop}(hK:∀a w,K a w→Q .normal a w):∀(os:List (Bool×Oper)) (is:List Nat),is.map (fun i=>all[i]?)=os.map (fun o=>some o.2)→
  ∀a w,sY r bad P all K Q os a w→wpOpsIn (FW r) n P all Q is a w:=by
 intro os;induction os with
 |nil=>intro is h a w H;cases is with|nil=>exact hK _ _ H|cons=>simp at h
 |cons o os ih=>
  intro is h a w H;cases is with
  |nil=>simp at h
  |cons i is=>
   obtain⟨fl,o⟩:=o;simp only[aZR,bAT]at h;rw[wpOpsIn_cons];simp only[sY]at H;split at H
   ·rename_i hq;obtain⟨v,hy,H⟩:=H;exact hy.run hq h.1 (ih is h.2 _ _ H)
   ·unfold wpOpIn;simp only[h.1];unfold I1 at H;split at H
    ·rename_i hw;rw[aZK hw];exact NN (Oper.wpIn_mono (fun a w hh=>ih is h.2 _ _ hh.2) H)
    ·rename_i hw;rw[aZB hw];exact⟨fun _ _=>trivial,ih is h.2 _ _ H⟩
theorem AY(all:Array Oper):(List.range all.size).map (fun i=>all[i]?)=all.toList.map some:=by
 apply List.ext_getElem
 ·simp
 ·intro i h1 h2;simp
theorem aFJ{id:Nat}{a:Act}{w:World}(h:sY r [] P all (fun a w=>Q .normal a w) Q (all.toList.map fun o=>(false,o)) a w):
  (Code.region id all false).wpIn (FW r) 0 P Q a w:=
 wpIn_region (m5 (fun _ _ h=>h) _ _ (by rw[AY];simp) _ _ h)

def lS(all:Array Oper):Nat→Nat→Nat→Bool
 |0,_,_=>false
 |n+1,i,x=>((all[i]?).map fun o=>o.after.toList.any fun e=>Region.binds .any e&&(Nat.beq e.on x||lS all n e.on x)).getD false
def rO(all:Array Oper)(n:Nat)(i:Nat):List Nat→Bool
 | []=>false
 |x::xs=> !lS all n i x||rO all n i xs
def iE(all:Array Oper)(x:Nat):Bool:=((all[x]?).map fun o=>jW o.op).getD false
def oX(all:Array Oper)(x i:Nat):Bool:=
 match all[x]?,all[i]? with
 |some x,some i=>x.apart all i
 |_,_=>false
def aET(all:Array Oper)(n:Nat)(i:Nat)(before:List Nat):Bool:=
 before.all fun x=>lS all n i x||(iE all x&&oX all x i)
def yL(all:Array Oper)(i:Nat)(before:List Nat):Bool:=
 ((all[i]?).map fun o=>o.after.toList.all fun e=> !Region.binds .any e||before.contains e.on).getD false
def sG(all:Array Oper)(n:Nat):List Nat→List Nat→Bool
 |_,[]=>true
 |before,i::rest=>aET all n i before&&yL all i before&& !before.contains i&&sG all n (before++[i]) rest
def oJ(all:Array Oper):Bool:=all.toList.all fun o=> !nU o.op
def aSC(all:Array Oper)(n:Nat)(c:List Nat):Bool:=
 oJ all&&(c.length==all.size)&&((List.range all.size).all fun i=>c.contains i)&&sG all n [] c
def T5(r:Option Nat){γb:Type}[Membership Nat γb](bad:γb)(P:Program)(all:Array Oper)(fl:Nat→Bool)(K:Act→World→Prop)(Q:Exit→Act→World→Prop):List Nat→Act→World→Prop
 | [],a,w=>K a w
 |i::is,a,w=>
  match all[i]? with
  |none=>False
  |some o=>
   if jW o.op=true then ∃v,Yv bad P all o a w v∧T5 r bad P all fl K Q is (a.put o.dst v) w
   else I1 r bad P all Q o (fl i) (T5 r bad P all fl K Q is) a w
def lD(r:Option Nat){γb:Type}[Membership Nat γb](bad:γb)(P:Program)(all:Array Oper)(fl:Nat→Bool)(Q:Exit→Act→World→Prop)(i:Nat)(K:Act→World→Prop)(a:Act)(w:World):Prop:=
 match all[i]? with
 |none=>False
 |some o=>
  if jW o.op=true then ∃v,Yv bad P all o a w v∧K (a.put o.dst v) w
  else I1 r bad P all Q o (fl i) K a w
theorem oW{fl:Nat→Bool}{K:Act→World→Prop}(i:Nat)(is:List Nat)(a:Act)(w:World):
  T5 r bad P all fl K Q (i::is) a w=lD r bad P all fl Q i (T5 r bad P all fl K Q is) a w:=by
 rfl
theorem I1.mono{o:Oper}{f:Bool}{K K':Act→World→Prop}{a:Act}{w:World}(h:∀a w,K a w→K' a w)(H:I1 r bad P all Q o f K a w):
  I1 r bad P all Q o f K' a w:=by
 unfold I1 at *;split at H
 ·rename_i hw;rw[aZK hw];exact Oper.wpIn_mono (fun a w hh=>⟨hh.1,h _ _ hh.2⟩) H
 ·rename_i hw;rw[aZB hw];exact h _ _ H
theorem lD.mono{fl:Nat→Bool}{i:Nat}{K K':Act→World→Prop}{a:Act}{w:World}(h:∀a w,K a w→K' a w)(H:lD r bad P all fl Q i K a w):
  lD r bad P all fl Q i K' a w:=by
 unfold lD at *;split at H
 ·exact H
 ·split at H
  ·rename_i hq;rw[aZK hq];obtain⟨v,y,k⟩:=H;exact⟨v,y,h _ _ k⟩
  ·rename_i hq;rw[aZB hq];exact H.mono h
theorem tF{fl:Nat→Bool}{K K':Act→World→Prop}(h:∀a w,K a w→K' a w):∀(is:List Nat) {a:Act} {w:World},T5 r bad P all fl K Q is a w→T5 r bad P all fl K' Q is a w
 | [],_,_,H=>h _ _ H
 |i::is,a,w,H=>by
  rw[oW]at H ⊢
  exact H.mono fun a w=>tF h is
theorem Yv.of_same{o:Oper}{v:Value}{a a':Act}{w w':World}(hy:Yv bad P all o a w v)(hk:nZ bad w w')(he:execOp a'.eval o=execOp a.eval o)
  (hw:Region.wanted o (yielded all a'.tmps)=Region.wanted o (yielded all a.tmps)):Yv bad P all o a' w' v:=by
 rcases hy with⟨h1,h2⟩|⟨h1,h2⟩
 ·exact aZE ⟨hw.trans h1,fun w2 G=>he▸h2 w2 (hk.trans G)⟩
 ·exact aYZ ⟨hw.trans h1,h2⟩
def yK:Op→Bool
 |.build _ _=>true
 |.extract _ _=>true
 |.move _=>true
 |.assign _=>true
 |_=>false
def wR(all:Array Oper)(x:Nat):Bool:=((all[x]?).map fun o=>yK o.op).getD false
def WI{α:Type}(x:Sem α):Prop:=∀(P:Program) w v w1,x.run P w=.ok v w1→w1=w∧∀w',x.run P w'=.ok v w'
theorem WI.pure{α:Type}(a:α):WI (Pure.pure a:Sem α):=fun P w v w1 h=>by
 rw[Sem.run_pure]at h;cases h;exact⟨rfl,fun w'=>Sem.run_pure ..⟩
theorem WI.bind{α β:Type}{x:Sem α}{f:α→Sem β}(hx:WI x)(hf:∀a,WI (f a)):WI (x >>= f):=fun P w v w1 h=>by
 rw[Sem.run_bind]at h;cases hr:x.run P w with
 |ok a w2=>
  rw[hr]at h;obtain⟨rfl,h2⟩:=hx P w a w2 hr;obtain⟨rfl,h3⟩:=hf a P _ v w1 h;exact⟨rfl,fun w'=>by rw[Sem.run_bind,h2 w'];exact h3 w'⟩
 |halt z w2=>rw[hr]at h;cases h
theorem WI.halt{α:Type}(z:Halt):WI (Sem.halt z:Sem α):=fun P w v w1 h=>by cases h
theorem WI.program:WI program:=fun P w v w1 h=>by cases h;exact⟨rfl,fun w'=>rfl⟩
theorem WI.typeInfo(t:TypeId):WI (typeInfo t):=by
 unfold Go.typeInfo;refine WI.bind WI.program fun p=>?_
 split
 ·exact WI.pure _
 ·exact WI.halt _
theorem WI.underlying(t:TypeId):WI (underlying t):=by
 unfold Go.underlying;refine WI.bind WI.program fun p=>?_
 split
 ·exact WI.pure _
 ·exact WI.halt _
theorem WI.sizeOf(t:TypeId):WI (sizeOf t):=WI.bind (WI.typeInfo t) fun _=>WI.pure _
theorem WI.zeroValue(t:TypeId):WI (zeroValue t):=by
 unfold Go.zeroValue;refine WI.bind (WI.typeInfo t) fun p=>?_
 split
 ·exact WI.pure _
 ·exact WI.halt _
theorem WI.mapM{α β:Type}{f:α→Sem β}(hf:∀a,WI (f a))(as:Array α):WI (as.mapM f):=by
 rw[Array.mapM_eq_mapM_toList];refine WI.bind ?_ fun _=>WI.pure _
 generalize as.toList=l;induction l with
 |nil=>exact WI.pure _
 |cons a l ih=>
  rw[bCA];exact WI.bind (hf a) fun _=>WI.bind ih fun _=>WI.pure _
theorem WI.build(t:TypeId)(parts:Array (Nat×Value)):WI (Instr.build t parts):=by
 unfold Instr.build;refine WI.bind (WI.zeroValue t) fun z=>WI.bind (WI.underlying t) fun u=>?_
 split
 ·refine WI.bind (WI.mapM (fun f=>WI.bind (WI.sizeOf _) fun _=>WI.pure _) _) fun pl=>?_
  split
  ·exact WI.pure _
  ·exact WI.halt _
 ·refine WI.bind (WI.sizeOf _) fun sz=>?_
  split
  ·exact WI.pure _
  ·exact WI.halt _
 ·exact WI.halt _
theorem WI.extract(t:Value)(i:Nat):WI (Instr.extract t i):=by
 unfold Instr.extract;split
 ·split
  ·exact WI.pure _
  ·exact WI.halt _
 ·exact WI.halt _
theorem aHK{o:Oper}(hp:yK o.op=true){ρ:Operand→Value}{P:Program}{w:World}{v:Value}(hr:(execOp ρ o).run P w=.ok (.value v) w):∀w',(execOp ρ o).run P w'=.ok (.value v) w':=by
 have:WI (execOp ρ o):=by
  cases o with
  |mk dst op type pos after guard=>
   cases op<;>first|(cases hp)|skip
   all_goals unfold execOp
   ·exact WI.pure _
   ·exact WI.pure _
   ·exact WI.bind (WI.build _ _) fun _=>WI.pure _
   ·exact WI.bind (WI.extract _ _) fun _=>WI.pure _
 exact(this P w _ w hr).2
theorem Yv.of_same'{o:Oper}{v:Value}{a a':Act}{w w':World}(hy:Yv bad P all o a w v)(hk:nZ bad w w'∨yK o.op=true)(he:execOp a'.eval o=execOp a.eval o)
  (hw:Region.wanted o (yielded all a'.tmps)=Region.wanted o (yielded all a.tmps)):Yv bad P all o a' w' v:=by
 rcases hk with hk|hk
 ·exact hy.of_same hk he hw
 ·rcases hy with⟨h1,h2⟩|⟨h1,h2⟩
  ·exact aZE ⟨hw.trans h1,fun w2 _=>he▸aHK hk (h2 w (nZ.refl _ _)) w2⟩
  ·exact aYZ ⟨hw.trans h1,h2⟩
def PI(Q:Exit→Act→World→Prop):Prop:=∀c (a a':Act) w,a'.defers=a.defers→Q (.panic c) a w→Q (.panic c) a' w
theorem FO(a:Act)(d:Option Tmp)(v:Value):(a.put d v).defers=a.defers:=by cases d<;>rfl
theorem tE{o:Oper}(h:nU o.op=false):∀cs b,o.op≠.select cs b:=fun cs b e=>by rw[e]at h;cases h
theorem aKN{x o:Oper}{f:Bool}{v:Value}(hap:x.apart all o=true)(hx:nU x.op=false)(ho:nU o.op=false)(hf:f=true∨yK x.op=true)(hQ:PI Q)
  {K:Act→World→Prop} {a:Act} {w:World} (hy:Yv bad P all x a w v) (h:I1 r bad P all Q o f K (a.put x.dst v) w):
  I1 r bad P all Q o f (fun a' w'=>Yv bad P all x a' w' v∧K (a'.put x.dst v) w') a w:=by
 obtain⟨h1,h2,h3⟩:=Oper.apart_spec hap;have keep:∀u w',(f=true→nZ bad w w')→Yv bad P all x (a.put o.dst u) w' v:=fun u w' hk=>
  hy.of_same' (hf.imp hk id) (execOp_put x (tE hx) a o.dst u h3) (wanted_put x a o.dst u h3)
 unfold I1 at *;rw[wanted_put o a x.dst v h1]at h;split at h
 ·rename_i hw;rw[aZK hw];refine⟨fun _ _=>trivial,?_⟩;have h:=h.2;rw[O2 ho,execOp_put o (tE ho) a x.dst v h1]at h;rw[O2 ho];generalize (execOp a.eval o).run P w=z at *;cases z with
  |ok z w'=>
   cases z<;>simp only[Oper.uponIn]at h ⊢
   case value u=>exact⟨h.1,keep u w' h.1,by rw[←Act.put_comm a v u h2];exact h.2⟩
   case skip=>exact⟨h.1,keep _ w' h.1,by rw[←Act.put_comm a v undef h2];exact h.2⟩
   case defer d=>
    refine⟨h.1,?_,?_⟩
    ·exact(hy.of_same' (a':={a with defers:=d::a.defers}.put o.dst undef) (hf.imp h.1 id)
      ((execOp_put x (tE hx) {a with defers:=d::a.defers} o.dst undef h3).trans rfl) ((wanted_put x {a with defers:=d::a.defers} o.dst undef h3).trans rfl))
    ·have e:=h.2;rw[Act.put_defers,Act.put_comm _ v undef h2]at e;exact e
   case enter f args=>
    refine⟨h.1,CallsIn.mono h.2 fun e w'' he=>?_⟩;cases e with
    |returned u=>exact⟨he.1,keep u w'' he.1,by rw[←Act.put_comm a v u h2];exact he.2⟩
    |panicked c=>exact hQ _ _ _ _ (FO _ _ _).symm he
    |outgrown=>exact he
   case row row args=>exact⟨h.1,RowsIn.mono h.2 fun u w'' he=>⟨he.1,keep u w'' he.1,by rw[←Act.put_comm a v u h2];exact he.2⟩⟩
   case round l f tmps assign body=>
    refine⟨h.1,RoundIn.mono h.2 fun e w'' he=>?_⟩;cases e with
    |returned u=>exact⟨he.1,keep u w'' he.1,by rw[←Act.put_comm a v u h2];exact he.2⟩
    |panicked c=>exact hQ _ _ _ _ (FO _ _ _).symm he
    |outgrown=>exact he
  |halt z w'=>
   cases z<;>simp only[Oper.uponIn]at h ⊢
   case panic u=>exact hQ _ _ _ _ (FO _ _ _).symm h
 ·rename_i hw;rw[aZB hw];exact⟨keep _ w (fun _=>nZ.refl _ _),by rw[←Act.put_comm a v undef h2];exact h⟩
theorem P2{x:Nat}(h:iE all x=true):∃o,all[x]?= some o∧jW o.op=true:=by
 unfold iE at h;cases hx:all[x]? with
 |none=>simp[hx]at h
 |some o=>exact⟨o,rfl,by simpa [hx]using h⟩
theorem G7(h:oJ all=true){i:Nat}{o:Oper}(ho:all[i]?= some o):nU o.op=false:=by
 have hm:o∈all.toList:=by
  rw[bBM]at ho;obtain⟨hi,rfl⟩:=ho;simp
 have:=aZN.1 h o hm;simpa using this
theorem YX{fl:Nat→Bool}{x i:Nat}(hnd:oJ all=true)(hq:iE all x=true)(hap:oX all x i=true)(hf:iE all i=true∨fl i=true∨wR all x=true)
  (hQ:PI Q) {K:Act→World→Prop} {a:Act} {w:World}
  (h:lD r bad P all fl Q x (lD r bad P all fl Q i K) a w):lD r bad P all fl Q i (lD r bad P all fl Q x K) a w:=by
 obtain⟨ox,hx,hqx⟩:=P2 hq;cases hi:all[i]? with
 |none=>simp[oX,hx,hi]at hap
 |some oi=>
  have hap':ox.apart all oi=true:=by simpa [oX,hx,hi]using hap
  have dx:=G7 hnd hx;have di:=G7 hnd hi;obtain⟨h1,h2,h3⟩:=Oper.apart_spec hap';simp only[lD,hx,hi,hqx,bAX]at h ⊢
  obtain⟨v,hy,h⟩:=h;split at h
  ·rename_i hqi;obtain⟨u,hu,h⟩:=h;rw[aZK hqi];refine⟨u,hu.of_same (nZ.refl _ _) (execOp_put oi (tE di) a ox.dst v h1).symm (wanted_put oi a ox.dst v h1).symm,v,
    hy.of_same (nZ.refl _ _) (execOp_put ox (tE dx) a oi.dst u h3) (wanted_put ox a oi.dst u h3),?_⟩
   rw[←Act.put_comm a v u h2];exact h
  ·rename_i hqi;rw[aZB hqi];have hfl:fl i=true∨yK ox.op=true:=by
    rcases hf with hf|hf|hf
    ·obtain⟨o,ho,hqo⟩:=P2 hf;rw[hi]at ho;cases ho;exact absurd hqo hqi
    ·exact aZE hf
    ·exact aYZ (by simpa [wR,hx]using hf)
   refine(aKN hap' dx di hfl hQ hy h).mono fun a w hh=>?_
   rw[lD,hx];simp only[hqx,bAX];exact⟨v,hh.1,hh.2⟩
theorem sD{fl:Nat→Bool}{i:Nat}(hnd:oJ all=true)(hQ:PI Q){K:Act→World→Prop}:
  ∀(c1 c2:List Nat) (a:Act) (w:World),(∀x∈c1,iE all x=true∧oX all x i=true∧(iE all i=true∨fl i=true∨wR all x=true))→
   T5 r bad P all fl K Q (c1++i::c2) a w→lD r bad P all fl Q i (T5 r bad P all fl K Q (c1++c2)) a w:=by
 intro c1;induction c1 with
 |nil=>intro c2 a w _ h;rw[aZU,oW]at h;exact h
 |cons x c1 ih=>
  intro c2 a w hc h;rw[bAW,oW]at h;have h':=h.mono fun a w hh=>ih c2 a w (fun y hy=>hc y (n5 _ hy)) hh
  obtain⟨h1,h2,h3⟩:=hc x LT;have:=YX hnd h1 h2 h3 hQ h';exact this.mono fun a w hh=>by rw[bAW,oW];exact hh
theorem lD.wpOpIn{fl:Nat→Bool}{i:Nat}{n:Nat}{K:Act→World→Prop}{a:Act}{w:World}(h:lD r bad P all fl Q i K a w):wpOpIn (FW r) n P all Q i K a w:=by
 unfold lD at h;split at h
 ·exact h.elim
 ·rename_i o ho;split at h
  ·rename_i hq;obtain⟨v,hy,h⟩:=h;exact hy.run hq ho h
  ·unfold Go.wpOpIn;simp only[ho];unfold I1 at h;split at h
   ·rename_i hw;rw[aZK hw];exact NN (Oper.wpIn_mono (fun a w hh=>hh.2) h)
   ·rename_i hw;rw[aZB hw];exact⟨fun _ _=>trivial,h⟩
def SH(all:Array Oper)(cY:Array Bool):Prop:=
 ∀(i:Nat) (o:Oper),all[i]?= some o→cY.getD i false=true→∀e∈o.after,Region.binds .any e=true→cY.getD e.on false=true
theorem rG{cY:Array Bool}(hc:SH all cY):∀(n i x:Nat) (o:Oper),all[i]?= some o→(∀e∈o.after,Region.binds .any e=true→cY.getD e.on false=true)→
  (∀j,cY.getD j false=true→j<all.size)→lS all n i x=true→cY.getD x false=true:=by
 intro n;induction n with
 |zero=>intro i x o _ _ _ h;simp[lS]at h
 |succ n ih=>
  intro i x o ho hall hlt h;simp only[lS,ho,aZX,bCH,bDW,aYT,bAD]at h;obtain⟨e,he,hb,h⟩:=h;have hl:=hall e (by simpa using he) hb;rcases h with h|h
  ·rw[bAF h]at hl;exact hl
  ·have hj:=hlt _ hl;exact ih e.on x all[e.on] (by simp[hj]) (hc e.on _ (by simp[hj]) hl) hlt h
theorem qY{n:Nat}:∀(c before c1:List Nat) (i:Nat) (c2:List Nat),sG all n before c=true→c=c1++i::c2→
  aET all n i (before++c1)=true∧yL all i (before++c1)=true∧i∉before++c1:=by
 intro c;induction c with
 |nil=>intro before c1 i c2 _ h;simp at h
 |cons x c ih=>
  intro before c1 i c2 hc h;simp only[sG,aYT]at hc;cases c1 with
  |nil=>simp only[aZU,bAT]at h;rw[←h.1];simpa [and_assoc]using hc.1
  |cons y c1=>
   simp only[bAW,bAT]at h;have:=ih (before++[x]) c1 i c2 hc.2 h.2;rw[h.1]at this;simpa using this
def yJ(all:Array Oper)(n:Nat)(fl:Nat→Bool)(c:List Nat):Prop:=
 ∀c1 i c2,c=c1++i::c2→∀x∈c1,lS all n i x=true∨(iE all x=true∧oX all x i=true∧(iE all i=true∨fl i=true∨wR all x=true))
theorem yJ.erase{n:Nat}{fl:Nat→Bool}{c1 c2:List Nat}{i:Nat}(h:yJ all n fl (c1++i::c2)):yJ all n fl (c1++c2):=by
 intro d1 j d2 he x hx;by_cases hl:d1.length<c1.length
 ·obtain⟨t,ht⟩:∃t,c1=d1++j::t:=by
   have h1:(c1++c2)[d1.length]?= some j:=by rw[he];simp
   rw[bBR hl]at h1;have h2:c1.take d1.length=d1:=by
    have:=aYY (List.take d1.length) he;rw[bAB (Nat.le_of_lt hl)]at this;simpa using this
   refine⟨c1.drop (d1.length+1),?_⟩;have h3:=bBV d1.length c1;rw[h2,bAM hl]at h3;rw[aYU hl]at h1;rw[aZO h1]at h3;exact h3.symm
  exact h d1 j (t++i::c2) (by rw[ht];simp) x hx
 ·obtain⟨t,ht⟩:∃t,d1=c1++t:=by
   have h2:d1.take c1.length=c1:=by
    have:=aYY (List.take c1.length) he;rw[bAB (aZL _),bAA,bAB Yd]at this;exact this.symm
   exact⟨d1.drop c1.length,by rw[←h2,bBI,bCW Yd,bBV]⟩
  subst ht;have hc2:c2=t++j::d2:=by
   rw[aZD]at he;exact List.append_cancel_left he
  refine h (c1++i::t) j d2 (by rw[hc2];simp) x ?_;simp only[aZF,n4]at hx ⊢
  rcases hx with hx|hx
  ·exact aZE hx
  ·exact aYZ (aYZ hx)
def vZ(all:Array Oper)(cY:Array Bool)(c:List Nat):Prop:=
 ∀c1 i c2,c=c1++i::c2→∀o,all[i]?= some o→∀e∈o.after,Region.binds .any e=true→cY.getD e.on false=true∨e.on∈c1
theorem W8{c1 c2 d1 d2:List Nat}{j:Nat}(he:c1++c2=d1++j::d2):
  (∃t,c1=d1++j::t∧d2=t++c2)∨(∃t,d1=c1++t∧c2=t++j::d2):=by
 rcases List.append_eq_append_iff.1 he with⟨t,h1,h2⟩|⟨t,h1,h2⟩
 ·exact aYZ ⟨t,h1,h2⟩
 ·cases t with
  |nil=>exact aYZ ⟨[],by simpa using h1.symm,by simpa using h2.symm⟩
  |cons x t=>
   simp only[bAW,bAT]at h2;exact aZE ⟨t,by rw[h1,h2.1],h2.2⟩
theorem vZ.erase{cY:Array Bool}{c1 c2:List Nat}{i:Nat}(hi:i<cY.size)(h:vZ all cY (c1++i::c2)):vZ all (cY.setIfInBounds i true) (c1++c2):=by
 intro d1 j d2 he o ho e hm hb;rcases W8 he with⟨t,h1,h2⟩|⟨t,h1,h2⟩
 ·rcases h d1 j (t++i::c2) (by rw[h1];simp) o ho e hm hb with hl|hl
  ·exact aZE (getD_set_true hl)
  ·exact aYZ hl
 ·rcases h (c1++i::t) j d2 (by rw[h2];simp) o ho e hm hb with hl|hl
  ·exact aZE (getD_set_true hl)
  ·simp only[aZF,n4]at hl;rcases hl with hl|hl|hl
   ·exact aYZ (by rw[h1];simp[hl])
   ·rw[hl];exact aZE (by simp[hi])
   ·exact aYZ (by rw[h1];simp[hl])
theorem mX{cY:Array Bool}{i:Nat}(h:i<cY.size):(cY.setIfInBounds i true).getD i false=true:=by simp[h]
theorem z8{n:Nat}{fl:Nat→Bool}(hnd:oJ all=true)(hQ:PI Q):
  ∀(c:List Nat) (cY:Array Bool) (a:Act) (w:World),cY.size=all.size→SH all cY→c.Nodup→
   (∀i,i<all.size→(i∈c ↔ cY.getD i false=false))→(∀i∈c,i<all.size)→yJ all n fl c→vZ all cY c→
   T5 r bad P all fl (fun a w=>Q .normal a w) Q c a w→wpAnyIn (FW r) 0 P .any all Q c.length cY a w:=by
 intro c;induction hlen:c.length generalizing c with
 |zero=>
  intro cY a w hs _ _ hm _ _ _ h;have hc:c=[]:=bBP.1 hlen;subst hc;refine⟨?_,h⟩;rw[List.eq_nil_iff_forall_not_mem];intro i hi;obtain⟨hun,o,ho,_⟩:=mem_ready.1 hi;have hlt:i<all.size:=(bBM.1 ho).1;have:=(hm i hlt).2 (by rw[bAL]at hun ⊢;rw[bCO Yd]at hun ⊢;exact hun)
  simp at this
 |succ k ih=>
  intro cY a w hs hcl hnodup hm hlt hg ht h;constructor
  ·intro h0;exfalso
   match c,hlen with
   |i::c',_=>
    have hi:i∈Region.ready .any all cY:=by
     refine mem_ready.2 ⟨?_,all[i]'(hlt i LT),by simp[hlt i LT],?_⟩
     ·have:=(hm i (hlt i LT)).1 LT;rw[bAL]at this ⊢
      rw[bCO (by rw[hs];exact hlt i LT)]at this ⊢
      exact this
     ·intro e he hb;rcases ht [] i c' rfl _ (by simp[hlt i LT]) e he hb with h|h
      ·exact h
      ·cases h
    rw[h0]at hi;cases hi
  ·intro i hi;obtain⟨hun,o,ho,hpre⟩:=mem_ready.1 hi;have hil:i<all.size:=(bBM.1 ho).1;have hun':cY.getD i false=false:=by
    rw[bAL]at hun ⊢
    rw[bCO Yd]at hun ⊢
    exact hun
   have hmem:=(hm i hil).2 hun';obtain⟨c1,c2,rfl⟩:=List.append_of_mem hmem;have hfront:∀x∈c1,iE all x=true∧oX all x i=true∧(iE all i=true∨fl i=true∨wR all x=true):=by
    intro x hx;rcases hg c1 i c2 rfl x hx with hr|hr
    ·have hxl:=hlt x (by simp[hx]);have:=rG hcl n i x o ho (fun e he hb=>hpre e he hb) (fun j hj=>by
      rcases Nat.lt_or_ge j cY.size with h|h
      ·omega
      ·simp[Array.getElem?_eq_none h]at hj) hr
     have h2:=(hm x hxl).1 (by simp[hx]);rw[h2]at this;cases this
    ·exact hr
   have hst:=sD hnd hQ c1 c2 a w hfront h;refine wpOpIn_mono (fun a w hh=>?_) hst.wpOpIn;have hlen':(c1++c2).length=k:=by simp at hlen ⊢;omega
   refine ih (c1++c2) hlen' (cY.setIfInBounds i true) a w (by simpa using hs) ?_ ?_ ?_ ?_ hg.erase (ht.erase Yd) hh
   ·intro j oj hj hlj e he hb;by_cases hij:i=j
    ·subst hij;rw[ho]at hj;cases hj
     exact getD_set_true (hpre e he hb)
    ·rw[getD_set_ne false hij]at hlj;exact getD_set_true (hcl j oj hj hlj e he hb)
   ·rw[aZC]at hnodup ⊢
    refine⟨hnodup.1,(bAO.1 hnodup.2.1).2,fun x hx y hy=>hnodup.2.2 x hx y (n5 _ hy)⟩
   ·intro j hj;by_cases hij:i=j
    ·subst hij;rw[mX Yd];constructor
     ·intro hmem;exfalso
      rw[aZC]at hnodup;rcases aZF.1 hmem with G|I
      ·exact hnodup.2.2 i G i LT rfl
      ·exact(bAO.1 hnodup.2.1).1 I
     ·intro h;cases h
    ·rw[getD_set_ne false hij,←hm j hj];simp only[aZF,n4];constructor
     ·rintro(h|h)
      ·exact aZE h
      ·exact aYZ (aYZ h)
     ·rintro(h|h|h)
      ·exact aZE h
      ·exact absurd h.symm hij
      ·exact aYZ h
   ·intro j hj;refine hlt j ?_;simp only[aZF,n4]at hj ⊢
    rcases hj with h|h
    ·exact aZE h
    ·exact aYZ (aYZ h)
def cY(all:Array Oper)(n:Nat):List Nat→List Nat→List (Bool×Oper)
 |_,[]=>[]
 |before,i::rest=>(rO all n i before,all.getD i default)::cY all n (before++[i]) rest
theorem PC{n:Nat}{K:Act→World→Prop}{fl:Nat→Bool}:∀(c before:List Nat) (a:Act) (w:World),(∀i∈c,i<all.size)→
  (∀c1 i c2,c=c1++i::c2→fl i=rO all n i (before++c1))→sY r bad P all K Q (cY all n before c) a w→T5 r bad P all fl K Q c a w:=by
 intro c;induction c with
 |nil=>intro before a w _ _ h;exact h
 |cons i c ih=>
  intro before a w hlt hf h;have hi:=hlt i LT;have ho:all[i]?= some all[i]:=by simp[hi]
  have hd:all.getD i default=all[i]:=by simp[hi]
  have hfi:fl i=rO all n i before:=by simpa using hf [] i c rfl
  have hrec:∀a w,sY r bad P all K Q (cY all n (before++[i]) c) a w→T5 r bad P all fl K Q c a w:=fun a w hh=>
   ih (before++[i]) a w (fun j hj=>hlt j (n5 _ hj)) (fun c1 j c2 he=>by
    rw[hf (i::c1) j c2 (by rw[he];rfl)];simp) hh
  simp only[cY,sY,hd]at h;simp only[T5,ho];split at h
  ·rename_i hq;obtain⟨v,hy,h⟩:=h;rw[aZK hq];exact⟨v,hy,hrec _ _ h⟩
  ·rename_i hq;rw[aZB hq,hfi];exact h.mono hrec
theorem I6{n:Nat}:∀(c before:List Nat),sG all n before c=true→before.Nodup→(before++c).Nodup:=by
 intro c;induction c with
 |nil=>intro before _ h;simpa using h
 |cons i c ih=>
  intro before h hb;simp only[sG,aYT,bDG,bDC,bAH]at h;have:=ih (before++[i]) h.2 (by
   rw[aZC];refine⟨hb,by simp,fun x hx y hy=>?_⟩;simp only[aZM]at hy;rintro rfl;exact h.1.2 (hy▸hx))
  simpa using this
theorem qL{n i x:Nat}:∀{l:List Nat},x∈l→lS all n i x=false→rO all n i l=true
 |y::l,hx,hr=>by
  simp only[rO,bAD,bDG];rcases n4.1 hx with rfl|hx
  ·exact aZE hr
  ·exact aYZ (qL hx hr)
theorem aXV{id n:Nat}{c:List Nat}{a:Act}{w:World}(hm:P.follows .mixedOrders=true)(hc:aSC all n c=true)(hQ:PI Q)
  (h:sY r bad P all (fun a w=>Q .normal a w) Q (cY all n [] c) a {w with drawn:=w.drawn+1}):
  (Code.region id all true).wpIn (FW r) 0 P Q a w:=by
 simp only[aSC,aYT,bDR,aZN,bBF,bDC,aZI]at hc;obtain⟨⟨⟨hnd,hlen⟩,hall⟩,hfrom⟩:=hc;have hnodup:c.Nodup:=by simpa using I6 c [] hfrom bAV
 have hlt:∀i∈c,i<all.size:=by
  intro i hi;obtain⟨c1,c2,rfl⟩:=List.append_of_mem hi;have:=(qY _ [] c1 i c2 hfrom rfl).2.1;unfold yL at this;rcases Nat.lt_or_ge i all.size with h|h
  ·exact h
  ·simp[Array.getElem?_eq_none h]at this
 refine wpIn_region_any hm ?_;rw[←hlen];refine z8 (bad:=bad) (fl:=fun i=>rO all n i (c.take (c.idxOf i))) (n:=n) hnd hQ c _ a _ (by simp[hlen]) ?_ hnodup ?_ hlt ?_ ?_ ?_
 ·intro i o ho hl;simp[bAL,Array.getElem?_replicate]at hl;split at hl<;>simp at hl
 ·intro i hi;simp only[bAL,Array.getElem?_replicate,hlen,hi,bAX,bCH,iff_true];exact hall i hi
 ·intro c1 i c2 he x hx;obtain⟨hg,_,_⟩:=qY _ [] c1 i c2 hfrom he;have h1:=aZN.1 hg x (by simpa using hx);simp only[bAD,aYT]at h1;cases hr:lS all n i x with
  |true=>exact aZE rfl
  |false=>
   rw[hr]at h1;have h1:=h1.resolve_left Ye;refine aYZ ⟨h1.1,h1.2,aYZ (aZE ?_)⟩;have hni:i∉c1:=by
    rw[he,aZC]at hnodup;intro hm;exact hnodup.2.2 i hm i LT rfl
   have:c.take (c.idxOf i)=c1:=by
    rw[he,List.idxOf_append,aZB hni,List.idxOf_cons_self];simp
   show rO all n i (c.take (c.idxOf i))=true;rw[this];exact qL hx hr
 ·intro c1 i c2 he o ho e hm hb;obtain⟨_,ht,_⟩:=qY _ [] c1 i c2 hfrom he;unfold yL at ht;rw[ho]at ht;simp only[aZX,bCH,aZN,bAD,bDG,aZU,bDC,aZI]at ht;rcases ht e (by simpa using hm)with h|h
  ·rw[hb]at h;cases h
  ·exact aYZ h
 ·refine PC (n:=n) c [] a _ hlt ?_ h;intro c1 i c2 he;have hni:i∉c1:=by
   rw[he,aZC]at hnodup;intro hm;exact hnodup.2.2 i hm i LT rfl
  have:c.take (c.idxOf i)=c1:=by
   rw[he,List.idxOf_append,aZB hni,List.idxOf_cons_self];simp
  show rO all n i (c.take (c.idxOf i))=_;rw[this];rfl
def hG(all:Array Oper)(is:List (Bool×Nat)):List (Bool×Oper):=is.map fun p=>(p.1,all.getD p.2 default)
theorem aKA(all:Array Oper):(all.toList.map fun o=>(false,o))=hG all ((List.range all.size).map fun i=>(false,i)):=by
 apply List.ext_getElem
 ·simp[hG]
 ·intro i h1 h2;simp[hG]at h1 ⊢
  simp[h1]

def HG(all:Array Oper)(n:Nat)(fls:List Bool)(E:List Nat)(i:Nat)(before:List Nat):Bool:=
 before.all fun x=>E.contains x||lS all n i x||(iE all x&&oX all x i&&(iE all i||(fls.getD i false||wR all x)))
def G5(all:Array Oper)(n:Nat)(E:List Nat)(fl:Nat→Bool)(c:List Nat):Prop:=
 ∀c1 i c2,c=c1++i::c2→∀x∈c1,x∈E∨lS all n i x=true∨(iE all x=true∧oX all x i=true∧(iE all i=true∨fl i=true∨wR all x=true))
theorem G5.erase{n:Nat}{E:List Nat}{fl:Nat→Bool}{c1 c2:List Nat}{i:Nat}(h:G5 all n E fl (c1++i::c2)):G5 all n E fl (c1++c2):=by
 intro d1 j d2 he x hx;rcases W8 he with⟨t,h1,h2⟩|⟨t,h1,h2⟩
 ·exact h d1 j (t++i::c2) (by rw[h1];simp) x hx
 ·refine h (c1++i::t) j d2 (by rw[h2];simp) x ?_;rw[h1]at hx;simp only[aZF,n4]at hx ⊢
  rcases hx with hx|hx
  ·exact aZE hx
  ·exact aYZ (aYZ hx)
theorem G5.none{n:Nat}{E:List Nat}{fl:Nat→Bool}{c:List Nat}(h:G5 all n E fl c)(hp:∀e∈E,e∉c):yJ all n fl c:=by
 intro c1 i c2 he x hx;rcases h c1 i c2 he x hx with h|h
 ·exact absurd (by rw[he];simp[hx]) (hp x h)
 ·exact h
theorem nO{fl:Nat→Bool}{K:Act→World→Prop}:∀(c d:List Nat) (a:Act) (w:World),T5 r bad P all fl (T5 r bad P all fl K Q d) Q c a w→T5 r bad P all fl K Q (c++d) a w
 | [],d,a,w,h=>h
 |i::c,d,a,w,h=>by
  rw[bAW,oW];rw[oW]at h;exact h.mono fun a w=>nO c d a w
structure AZ(all:Array Oper)(n:Nat)(cY:Array Bool)(c:List Nat):Prop where
 size:cY.size=all.size
 closed:SH all cY
 nodup:c.Nodup
 mem:∀i,i<all.size→(i∈c ↔ cY.getD i false=false)
 lt:∀i∈c,i<all.size
 topo:vZ all cY c
theorem AZ.step{n:Nat}{cY:Array Bool}{c1 c2:List Nat}{i:Nat}{o:Oper}(h:AZ all n cY (c1++i::c2))(ho:all[i]?= some o)(hpre:∀e∈o.after,Region.binds .any e=true→cY.getD e.on false=true):AZ all n (cY.setIfInBounds i true) (c1++c2):=by
 have hil:i<all.size:=(bBM.1 ho).1;have hs:=h.size;refine⟨by simpa using hs,?_,?_,?_,?_,h.topo.erase Yd⟩
 ·intro j oj hj hlj e he hb;by_cases hij:i=j
  ·subst hij;rw[ho]at hj;cases hj
   exact getD_set_true (hpre e he hb)
  ·rw[getD_set_ne false hij]at hlj;exact getD_set_true (h.closed j oj hj hlj e he hb)
 ·have hnodup:=h.nodup;rw[aZC]at hnodup ⊢
  exact⟨hnodup.1,(bAO.1 hnodup.2.1).2,fun x hx y hy=>hnodup.2.2 x hx y (n5 _ hy)⟩
 ·intro j hj;have hnodup:=h.nodup;by_cases hij:i=j
  ·subst hij;rw[mX Yd];constructor
   ·intro hmem;exfalso
    rw[aZC]at hnodup;rcases aZF.1 hmem with G|I
    ·exact hnodup.2.2 i G i LT rfl
    ·exact(bAO.1 hnodup.2.1).1 I
   ·intro h;cases h
  ·rw[getD_set_ne false hij,←h.mem j hj];simp only[aZF,n4];constructor
   ·rintro(h|h)
    ·exact aZE h
    ·exact aYZ (aYZ h)
   ·rintro(h|h|h)
    ·exact aZE h
    ·exact absurd h.symm hij
    ·exact aYZ h
 ·intro j hj;refine h.lt j ?_;simp only[aZF,n4]at hj ⊢
  rcases hj with h|h
  ·exact aZE h
  ·exact aYZ (aYZ h)
inductive gU where
 |fin (c:List Nat)
 |fork (d:List Nat) (p:Nat) (A:gU) (q:Nat) (B:gU)
 |forkN (d:List Nat) (p:Nat) (ps:List Nat) (A:Nat→gU)
def gU.list:gU→List Nat
 |.fin c=>c
 |.fork d p A _ _=>d++p::A.list
 |.forkN d p _ A=>d++p::(A p).list
def mT:List gU→List Nat
 | []=>[]
 |pl::segs=>pl.list++mT segs
def aDJ(r:Option Nat){γb:Type}[Membership Nat γb](bad:γb)(P:Program)(all:Array Oper)(fl:Nat→Bool)(Q:Exit→Act→World→Prop)(kont:Act→World→Prop):gU→Act→World→Prop
 |.fin c=>T5 r bad P all fl kont Q c
 |.fork d p A q B=>T5 r bad P all fl (fun a w=>lD r bad P all fl Q p (aDJ r bad P all fl Q kont A) a w∧lD r bad P all fl Q q (aDJ r bad P all fl Q kont B) a w) Q d
 |.forkN d p ps A=>T5 r bad P all fl (fun a w=>∀i∈p::ps,lD r bad P all fl Q i (aDJ r bad P all fl Q kont (A i)) a w) Q d
def aYL(r:Option Nat){γb:Type}[Membership Nat γb](bad:γb)(P:Program)(all:Array Oper)(fl:Nat→Bool)(Q:Exit→Act→World→Prop):List gU→Act→World→Prop
 | []=>fun a w=>Q .normal a w
 |pl::segs=>aDJ r bad P all fl Q (aYL r bad P all fl Q segs) pl
def jB(all:Array Oper)(n:Nat)(cont:List Nat→List Nat→Array Bool→Prop)(rest:List Nat):gU→List Nat→List Nat→Array Bool→Prop
 |.fin c,pre,E,L=>cont (pre++c) E L
 |.fork d p A q B,pre,E,L=>jB all n cont rest A (pre++d++[p]) (p::E) L∧jB all n cont rest B (pre++d++[q]) (q::E) L∧q∈A.list++rest∧A.list.length=B.list.length∧∀i∈A.list++rest,i=q∨lS all n i p=true∨lS all n i q=true
 |.forkN d p ps A,pre,E,L=>(∀i∈p::ps,jB all n cont rest (A i) (pre++d++[i]) (i::E) L∧(A i).list.length=(A p).list.length∧(i=p∨i∈(A p).list++rest))∧∀i∈(A p).list++rest,i∈ps∨∃q∈p::ps,lS all n i q=true
def aED(all:Array Oper)(n:Nat)(fl:Nat→Bool):List gU→List Nat→List Nat→Array Bool→Prop
 | [],pre,E,L=>AZ all n L pre∧G5 all n E fl pre
 |pl::segs,pre,E,L=>jB all n (aED all n fl segs) (mT segs) pl pre E L
structure n6(all:Array Oper)(n:Nat)(fl:Nat→Bool)(cont:List Nat→List Nat→Array Bool→Prop)(rest:List Nat):Prop where
 part:∀pre E L,cont pre E L→AZ all n L (pre++rest)
 good:∀pre E L,cont pre E L→G5 all n E fl pre
 erase:∀c1 i c2 E L (o:Oper),all[i]?= some o→(∀e∈o.after,Region.binds .any e=true→L.getD e.on false=true)→cont (c1++i::c2) E L→cont (c1++c2) E (L.setIfInBounds i true)
theorem jB.part{n:Nat}{fl:Nat→Bool}{cont:List Nat→List Nat→Array Bool→Prop}{rest:List Nat}(hc:n6 all n fl cont rest):∀{pl:gU} {pre E:List Nat} {L:Array Bool},jB all n cont rest pl pre E L→AZ all n L (pre++(pl.list++rest))
 |.fin c,pre,E,L,h=>by
  have:=hc.part _ _ _ h;rw[aZD]at this;exact this
 |.fork d p A q B,pre,E,L,h=>by
  have:=jB.part hc h.1;simpa [gU.list]using this
 |.forkN d p ps A,pre,E,L,h=>by
  have:=jB.part hc (h.1 p LT).1;simpa [gU.list]using this
theorem jB.good{n:Nat}{fl:Nat→Bool}{cont:List Nat→List Nat→Array Bool→Prop}{rest:List Nat}(hc:n6 all n fl cont rest):∀{pl:gU} {pre E:List Nat} {L:Array Bool},jB all n cont rest pl pre E L→G5 all n E fl pre
 |.fin c,pre,E,L,h=>by
  intro c1 i c2 he x hx;exact hc.good _ _ _ h c1 i (c2++c) (by rw[he];simp) x hx
 |.fork d p A q B,pre,E,L,h=>by
  intro c1 i c2 he x hx;have h1:=jB.good hc h.1 c1 i (c2++d++[p]) (by rw[he];simp) x hx
  have hn:=(jB.part hc h.1).nodup;rcases h1 with h1|h1
  ·rcases n4.1 h1 with rfl|h1
   ·exfalso
    rw[he]at hn;simp only[aZD]at hn;rw[aZC]at hn;exact hn.2.2 x hx x Ye rfl
   ·exact aZE h1
  ·exact aYZ h1
 |.forkN d p ps A,pre,E,L,h=>by
  intro c1 i c2 he x hx;have h1:=jB.good hc (h.1 p LT).1 c1 i (c2++d++[p]) (by rw[he];simp) x hx
  have hn:=(jB.part hc (h.1 p LT).1).nodup;rcases h1 with h1|h1
  ·rcases n4.1 h1 with rfl|h1
   ·exfalso
    rw[he]at hn;simp only[aZD]at hn;rw[aZC]at hn;exact hn.2.2 x hx x Ye rfl
   ·exact aZE h1
  ·exact aYZ h1
theorem jB.erase{n:Nat}{fl:Nat→Bool}{cont:List Nat→List Nat→Array Bool→Prop}{rest:List Nat}(hc:n6 all n fl cont rest){i:Nat}{o:Oper}(ho:all[i]?= some o){L:Array Bool}(hpre:∀e∈o.after,Region.binds .any e=true→L.getD e.on false=true):∀{pl:gU} {c1 c2 E:List Nat},jB all n cont rest pl (c1++i::c2) E L→jB all n cont rest pl (c1++c2) E (L.setIfInBounds i true)
 |.fin c,c1,c2,E,h=>by
  have h':cont (c1++i::(c2++c)) E L:=by
   have h2:cont (c1++i::c2++c) E L:=h;simpa using h2
  have:=hc.erase c1 i (c2++c) E L o ho hpre h';show cont (c1++c2++c) E _;rw[aZD];exact this
 |.fork d p A q B,c1,c2,E,h=>by
  obtain⟨h1,h2,h3⟩:=h;have e:∀z:Nat,c1++i::c2++d++[z]=c1++i::(c2++d++[z]):=fun z=>by simp
  have e':∀z:Nat,c1++(c2++d++[z])=c1++c2++d++[z]:=fun z=>by simp
  rw[e]at h1 h2;have G:=jB.erase hc ho hpre h1;have I:=jB.erase hc ho hpre h2;rw[e']at G I;exact⟨G,I,h3⟩
 |.forkN d p ps A,c1,c2,E,h=>by
  refine⟨fun z hz=>?_,h.2⟩;obtain⟨h1,h2,h3⟩:=h.1 z hz;have e:c1++i::c2++d++[z]=c1++i::(c2++d++[z]):=by simp
  have e':c1++(c2++d++[z])=c1++c2++d++[z]:=by simp
  rw[e]at h1;have G:=jB.erase hc ho hpre h1;rw[e']at G;exact⟨G,h2,h3⟩
theorem HE(n:Nat)(fl:Nat→Bool):∀segs:List gU,n6 all n fl (aED all n fl segs) (mT segs)
 | []=>⟨fun pre E L h=>by rw[mT,aZA];exact h.1,fun pre E L h=>h.2,fun c1 i c2 E L o ho hpre h=>⟨h.1.step ho hpre,h.2.erase⟩⟩
 |_::segs=>⟨fun pre E L h=>jB.part (HE n fl segs) h,fun pre E L h=>jB.good (HE n fl segs) h,fun c1 i c2 E L o ho hpre h=>jB.erase (HE n fl segs) ho hpre h⟩
theorem AZ.frontE{n:Nat}{E:List Nat}{fl:Nat→Bool}{cY:Array Bool}{c1 c2 c3:List Nat}{i:Nat}{o:Oper}(h:AZ all n cY (c1++i::c3))(hg:G5 all n E fl (c1++i::c2))(ho:all[i]?= some o)(hpre:∀e∈o.after,Region.binds .any e=true→cY.getD e.on false=true)(hE:∀e∈E,e∉c1):
  ∀x∈c1,iE all x=true∧oX all x i=true∧(iE all i=true∨fl i=true∨wR all x=true):=by
 intro x hx;rcases hg c1 i c2 rfl x hx with he|hr|hr
 ·exact absurd hx (hE x he)
 ·have hxl:=h.lt x (by simp[hx]);have:=rG h.closed n i x o ho hpre (fun j hj=>by
   rcases Nat.lt_or_ge j cY.size with h'|h'
   ·have:=h.size;omega
   ·simp[Array.getElem?_eq_none h']at hj) hr
  have h2:=(h.mem x hxl).1 (by simp[hx]);rw[h2]at this;cases this
 ·exact hr
theorem I5{fl:Nat→Bool}{K:Act→World→Prop}{i:Nat}{a:Act}{w:World}(h:lD r bad P all fl Q i K a w):T5 r bad P all fl K Q [i] a w:=by
 rw[oW];exact h
theorem uI{n:Nat}{fl:Nat→Bool}{cont:List Nat→List Nat→Array Bool→Prop}{rest:List Nat}{kont:Act→World→Prop}(hnd:oJ all=true)(hQ:PI Q)(hc:n6 all n fl cont rest)
  (hcont:∀(pre E:List Nat) (L:Array Bool) (a:Act) (w:World),(∀e∈E,L.getD e false=true)→cont pre E L→T5 r bad P all fl kont Q pre a w→wpAnyIn (FW r) 0 P .any all Q (pre++rest).length L a w):
  ∀(pl:gU) (pre E:List Nat) (L:Array Bool) (a:Act) (w:World),(∀e∈E,L.getD e false=true)→jB all n cont rest pl pre E L→T5 r bad P all fl (aDJ r bad P all fl Q kont pl) Q pre a w→
  wpAnyIn (FW r) 0 P .any all Q (pre++(pl.list++rest)).length L a w
 |.fin c,pre,E,L,a,w,hE,hr,h=>by
  have:=hcont (pre++c) E L a w hE hr (nO pre c a w h);rw[aZD]at this;exact this
 |.fork d p A q B,pre,E,L,a,w,hE,hr,h=>by
  have hmain:∀(m:Nat) (d':List Nat) (L:Array Bool) (a:Act) (w:World),d'.length=m→(∀e∈E,L.getD e false=true)→jB all n cont rest A (d'++[p]) (p::E) L→jB all n cont rest B (d'++[q]) (q::E) L→q∈A.list++rest→A.list.length=B.list.length→(∀i∈A.list++rest,i=q∨lS all n i p=true∨lS all n i q=true)→
    T5 r bad P all fl (fun a w=>lD r bad P all fl Q p (aDJ r bad P all fl Q kont A) a w∧lD r bad P all fl Q q (aDJ r bad P all fl Q kont B) a w) Q d' a w→wpAnyIn (FW r) 0 P .any all Q (d'++p::(A.list++rest)).length L a w:=by
   intro m;induction m using Nat.strongRecOn with
   |_ m ih=>
   intro d' L a w hm hE hA hB hqA hlen he h;have h1:=jB.part hc hA;have h2:=jB.part hc hB;rw[aZD]at h1 h2;have gA:=jB.good hc hA;have gB:=jB.good hc hB;simp only[bCK]at h1 h2;obtain⟨k,hk⟩:∃k,(d'++p::(A.list++rest)).length=k+1:=⟨d'.length+(A.list++rest).length,by simp;omega⟩
   rw[hk];constructor
   ·intro h0;exfalso
    match hcc:d'++p::(A.list++rest),hk with
    |i::c',_=>
     rw[hcc]at h1;have hil:=h1.lt i LT;have hi:i∈Region.ready .any all L:=by
      refine mem_ready.2 ⟨?_,all[i],by simp[hil],?_⟩
      ·have:=(h1.mem i hil).1 LT;rw[bAL]at this ⊢
       rw[bCO (by rw[h1.size];exact hil)]at this ⊢
       exact this
      ·intro e he hb;rcases h1.topo [] i c' rfl _ (by simp[hil]) e he hb with h|h
       ·exact h
       ·cases h
     rw[h0]at hi;cases hi
   ·intro i hi;obtain⟨hun,o,ho,hpre⟩:=mem_ready.1 hi;have hil:i<all.size:=(bBM.1 ho).1;have hun':L.getD i false=false:=by
     have:=h1.size;rw[bAL]at hun ⊢
     rw[bCO Yd]at hun ⊢
     exact hun
    have hmem:=(h1.mem i hil).2 hun';have G:∀x,x∈d'++p::(A.list++rest)→lS all n i x=true→False:=by
     intro x hx hr;have:=rG h1.closed n i x o ho hpre (fun j hj=>by
      rcases Nat.lt_or_ge j L.size with h'|h'
      ·have:=h1.size;omega
      ·simp[Array.getElem?_eq_none h']at hj) hr
     have h2:=(h1.mem x (h1.lt x hx)).1 hx;rw[h2]at this;cases this
    have hEd:∀e∈E,e∉d':=fun e he hm=>by
     have:=(h1.mem e (h1.lt e (by simp[hm]))).1 (by simp[hm]);rw[hE e he]at this;cases this
    have hnA:p∉d':=fun hp=>by
     have hn:=h1.nodup;rw[aZC]at hn;exact hn.2.2 p hp p Ye rfl
    have hnB:q∉d':=fun hp=>by
     have hn:=h2.nodup;rw[aZC]at hn;exact hn.2.2 q hp q Ye rfl
    rw[aZF,n4]at hmem;rcases hmem with hm'|rfl|hm'
    ·obtain⟨c1,c2,rfl⟩:=List.append_of_mem hm';have q1:∀z:Nat,(c1++i::c2)++[z]=c1++i::(c2++[z]):=fun z=>by simp
     have q2:∀z:Nat,c1++(c2++[z])=(c1++c2)++[z]:=fun z=>by simp
     rw[q1]at hA hB gA;have I:(c1++i::(c2++p::(A.list++rest))).length=k+1:=by rw[←hk];simp
     have h1':AZ all n L (c1++i::(c2++p::(A.list++rest))):=by simpa using h1
     have hf:=h1'.frontE gA ho hpre (fun e he hm=>by
      rcases n4.1 he with rfl|he
      ·exact hnA (by simp[hm])
      ·exact hEd e he (by simp[hm]))
     have hst:=sD hnd hQ c1 c2 a w hf h;refine wpOpIn_mono (fun a w hh=>?_) hst.wpOpIn;have sA:=jB.erase hc ho hpre hA;have sB:=jB.erase hc ho hpre hB;rw[q2]at sA sB;have:=ih (c1++c2).length (by rw[←hm];simp) (c1++c2) _ a w rfl (fun e he=>getD_set_true (hE e he)) sA sB hqA hlen ‹_› hh
     have hl:((c1++c2)++p::(A.list++rest)).length=k:=by simp at I ⊢;omega
     rw[hl]at this;exact this
    ·have hw:=nO (K:=fun a w=>aDJ r bad P all fl Q kont A a w) d' [i] a w (tF (fun _ _ h=>I5 h.1) d' h);have hf:=h1.frontE (c2:=[]) gA ho hpre (fun e he hm=>by
      rcases n4.1 he with rfl|he
      ·exact hnA hm
      ·exact hEd e he hm)
     have hst:=sD hnd hQ d' [] a w hf hw;refine wpOpIn_mono (fun a w hh=>?_) hst.wpOpIn;have sA:=jB.erase hc ho hpre hA;rw[aZA]at sA hh;have:=uI hnd hQ hc hcont A d' (i::E) _ a w (fun e he=>by
      rcases n4.1 he with rfl|he
      ·exact mX (by rw[h1.size];exact hil)
      ·exact getD_set_true (hE e he)) sA hh
     have hl:(d'++(A.list++rest)).length=k:=by simp at hk ⊢;omega
     rw[hl]at this;exact this
    ·by_cases hiq:i=q
     ·subst hiq;have hw:=nO (K:=fun a w=>aDJ r bad P all fl Q kont B a w) d' [i] a w (tF (fun _ _ h=>I5 h.2) d' h);have hf:=h2.frontE (c2:=[]) gB ho hpre (fun e he hm=>by
       rcases n4.1 he with rfl|he
       ·exact hnB hm
       ·exact hEd e he hm)
      have hst:=sD hnd hQ d' [] a w hf hw;refine wpOpIn_mono (fun a w hh=>?_) hst.wpOpIn;have sB:=jB.erase hc ho hpre hB;rw[aZA]at sB hh;have:=uI hnd hQ hc hcont B d' (i::E) _ a w (fun e he=>by
       rcases n4.1 he with rfl|he
       ·exact mX (by rw[h1.size];exact hil)
       ·exact getD_set_true (hE e he)) sB hh
      have hl:(d'++(B.list++rest)).length=k:=by simp at hk ⊢;omega
      rw[hl]at this;exact this
     ·exfalso
      rcases he i hm' with hr|hr|hr
      ·exact hiq hr
      ·exact G p Ye hr
      ·exact G q (GE _ (n5 _ hqA)) hr
  obtain⟨hA,hB,hqA,hlen,he⟩:=hr;have:=hmain (pre++d).length (pre++d) L a w rfl hE hA hB hqA hlen he (nO pre d a w h);have e:pre++d++p::(A.list++rest)=pre++((gU.fork d p A q B).list++rest):=by simp[gU.list]
  rw[e]at this;exact this

 |.forkN d p ps A,pre,E,L,a,w,hE,hr,h=>by
  have hmain:∀(m:Nat) (d':List Nat) (L:Array Bool) (a:Act) (w:World),d'.length=m→(∀e∈E,L.getD e false=true)→(∀i∈p::ps,jB all n cont rest (A i) (d'++[i]) (i::E) L∧(A i).list.length=(A p).list.length∧(i=p∨i∈(A p).list++rest))→(∀i∈(A p).list++rest,i∈ps∨∃q∈p::ps,lS all n i q=true)→
    T5 r bad P all fl (fun a w=>∀i∈p::ps,lD r bad P all fl Q i (aDJ r bad P all fl Q kont (A i)) a w) Q d' a w→wpAnyIn (FW r) 0 P .any all Q (d'++p::((A p).list++rest)).length L a w:=by
   intro m;induction m using Nat.strongRecOn with
   |_ m ih=>
   intro d' L a w hm hE hA he h;have h1:=jB.part hc (hA p LT).1;rw[aZD]at h1;simp only[bCK]at h1;obtain⟨k,hk⟩:∃k,(d'++p::((A p).list++rest)).length=k+1:=⟨d'.length+((A p).list++rest).length,by simp;omega⟩
   rw[hk];constructor
   ·intro h0;exfalso
    match hcc:d'++p::((A p).list++rest),hk with
    |i::c',_=>
     rw[hcc]at h1;have hil:=h1.lt i LT;have hi:i∈Region.ready .any all L:=by
      refine mem_ready.2 ⟨?_,all[i],by simp[hil],?_⟩
      ·have:=(h1.mem i hil).1 LT;rw[bAL]at this ⊢
       rw[bCO (by rw[h1.size];exact hil)]at this ⊢
       exact this
      ·intro e he hb;rcases h1.topo [] i c' rfl _ (by simp[hil]) e he hb with h|h
       ·exact h
       ·cases h
     rw[h0]at hi;cases hi
   ·intro i hi;obtain⟨hun,o,ho,hpre⟩:=mem_ready.1 hi;have hil:i<all.size:=(bBM.1 ho).1;have hun':L.getD i false=false:=by
     have:=h1.size;rw[bAL]at hun ⊢
     rw[bCO Yd]at hun ⊢
     exact hun
    have hmem:=(h1.mem i hil).2 hun';have G:∀x,x∈d'++p::((A p).list++rest)→lS all n i x=true→False:=by
     intro x hx hr;have:=rG h1.closed n i x o ho hpre (fun j hj=>by
      rcases Nat.lt_or_ge j L.size with h'|h'
      ·have:=h1.size;omega
      ·simp[Array.getElem?_eq_none h']at hj) hr
     have h2:=(h1.mem x (h1.lt x hx)).1 hx;rw[h2]at this;cases this
    have hEd:∀e∈E,e∉d':=fun e he hm=>by
     have:=(h1.mem e (h1.lt e (by simp[hm]))).1 (by simp[hm]);rw[hE e he]at this;cases this
    have hnz:∀z∈p::ps,z∉d':=fun z hz hp=>by
     have hn:=(jB.part hc (hA z hz).1).nodup;rw[aZD,aZC]at hn;exact hn.2.2 z hp z Ye rfl
    have hin:∀z∈p::ps,z∈d'++p::((A p).list++rest):=fun z hz=>by
     rcases(hA z hz).2.2 with rfl|hz'
     ·simp
     ·exact GE _ (n5 _ hz')
    by_cases hz:i∈p::ps
    ·have h2:=jB.part hc (hA i hz).1;rw[aZD]at h2;simp only[bCK]at h2;have hw:=nO (K:=fun a w=>aDJ r bad P all fl Q kont (A i) a w) d' [i] a w (tF (fun _ _ h=>I5 (h i hz)) d' h);have hf:=h2.frontE (c2:=[]) (jB.good hc (hA i hz).1) ho hpre (fun e he hm=>by
      rcases n4.1 he with rfl|he
      ·exact hnz _ hz hm
      ·exact hEd e he hm)
     have hst:=sD hnd hQ d' [] a w hf hw;refine wpOpIn_mono (fun a w hh=>?_) hst.wpOpIn;have sA:=jB.erase hc ho hpre (hA i hz).1;rw[aZA]at sA hh;have:=uI hnd hQ hc hcont (A i) d' (i::E) _ a w (fun e he=>by
      rcases n4.1 he with rfl|he
      ·exact mX (by rw[h1.size];exact hil)
      ·exact getD_set_true (hE e he)) sA hh
     have hl:(d'++((A i).list++rest)).length=k:=by
      have:=(hA i hz).2.1;simp at hk ⊢;omega
     rw[hl]at this;exact this
    ·rw[aZF,n4]at hmem;rcases hmem with hm'|rfl|hm'
     ·obtain⟨c1,c2,rfl⟩:=List.append_of_mem hm';have q1:∀z:Nat,(c1++i::c2)++[z]=c1++i::(c2++[z]):=fun z=>by simp
      have q2:∀z:Nat,c1++(c2++[z])=(c1++c2)++[z]:=fun z=>by simp
      have gA:=jB.good hc (hA p LT).1;rw[q1]at gA;have I:(c1++i::(c2++p::((A p).list++rest))).length=k+1:=by rw[←hk];simp
      have h1':AZ all n L (c1++i::(c2++p::((A p).list++rest))):=by simpa using h1
      have hf:=h1'.frontE gA ho hpre (fun e he hm=>by
       rcases n4.1 he with rfl|he
       ·exact hnz _ LT (by simp[hm])
       ·exact hEd e he (by simp[hm]))
      have hst:=sD hnd hQ c1 c2 a w hf h;refine wpOpIn_mono (fun a w hh=>?_) hst.wpOpIn;have:=ih (c1++c2).length (by rw[←hm];simp) (c1++c2) _ a w rfl (fun e he=>getD_set_true (hE e he)) (fun z hz=>by
       have M:=(hA z hz).1;rw[q1]at M;have sA:=jB.erase hc ho hpre M;rw[q2]at sA;exact⟨sA,(hA z hz).2⟩) he hh
      have hl:((c1++c2)++p::((A p).list++rest)).length=k:=by simp at I ⊢;omega
      rw[hl]at this;exact this
     ·exact absurd LT hz
     ·rcases he i hm' with hr|⟨q,hq,hr⟩
      ·exact absurd (n5 _ hr) hz
      ·exact(G q (hin q hq) hr).elim
  obtain⟨hA,he⟩:=hr;have:=hmain (pre++d).length (pre++d) L a w rfl hE hA he (nO pre d a w h);have e:pre++d++p::((A p).list++rest)=pre++((gU.forkN d p ps A).list++rest):=by simp[gU.list]
  rw[e]at this;exact this
theorem W7{n:Nat}{fl:Nat→Bool}(hnd:oJ all=true)(hQ:PI Q):∀(segs:List gU) (pre E:List Nat) (L:Array Bool) (a:Act) (w:World),(∀e∈E,L.getD e false=true)→aED all n fl segs pre E L→T5 r bad P all fl (aYL r bad P all fl Q segs) Q pre a w→
  wpAnyIn (FW r) 0 P .any all Q (pre++mT segs).length L a w
 | [],pre,E,L,a,w,hE,hr,h=>by
  obtain⟨hp,hg⟩:=hr;rw[mT,aZA];refine z8 hnd hQ pre L a w hp.size hp.closed hp.nodup hp.mem hp.lt (hg.none fun e he hm=>?_) hp.topo h;have:=(hp.mem e (hp.lt e hm)).1 hm;rw[hE e he]at this;cases this
 |pl::segs,pre,E,L,a,w,hE,hr,h=>
  uI hnd hQ (HE n fl segs) (W7 hnd hQ segs) pl pre E L a w hE hr h

def VO(all:Array Oper)(n:Nat)(fls:List Bool)(S:List Nat)(i:Nat):Bool:=S.all fun x=>lS all n i x||(iE all x&&oX all x i&&(iE all i||(fls.getD i false||wR all x)))
def sV(all:Array Oper)(n:Nat)(fls:List Bool)(S E:List Nat):List Nat→List Nat→Bool
 |_,[]=>true
 |before,i::rest=>HG all n fls E i before&&VO all n fls S i&&yL all i (S++before)&& !(S++before).contains i&&Nat.blt i all.size&&sV all n fls S E (before++[i]) rest
def uF(all:Array Oper)(n:Nat)(fls:List Bool)(S rest T:List Nat):gU→List Nat→List Nat→Bool
 |.fin c,pre,E=>sV all n fls S E [] (pre++c)&&Nat.beq (pre++c).length T.length&&(pre++c).all T.contains&&T.all (pre++c).contains
 |.fork d p A q B,pre,E=>uF all n fls S rest T A (pre++d++[p]) (p::E)&&uF all n fls S rest T B (pre++d++[q]) (q::E)&&((A.list++rest).any fun i=>Nat.beq i q)&&Nat.beq A.list.length B.list.length&&(A.list++rest).all fun i=>Nat.beq i q||(lS all n i p||lS all n i q)
 |.forkN d p ps A,pre,E=>(p::ps).all (fun i=>uF all n fls S rest T (A i) (pre++d++[i]) (i::E)&&Nat.beq (A i).list.length (A p).list.length&&(Nat.beq i p||((A p).list++rest).contains i))&&((A p).list++rest).all fun i=>ps.contains i||(p::ps).any fun q=>lS all n i q
def jI(all:Array Oper)(n:Nat)(fls:List Bool):List Nat→List gU→Bool
 |S,[]=>oJ all&&Nat.beq S.length all.size&&(List.range all.size).all S.contains
 |S,pl::segs=>uF all n fls S (mT segs) pl.list pl [] []&&jI all n fls (S++pl.list) segs
structure ER(all:Array Oper)(n:Nat)(fls:List Bool)(S pre E:List Nat):Prop where
 nodup:pre.Nodup
 mem:∀i,i∈pre ↔ i∈S
 lt:∀i∈pre,i<all.size
 good:G5 all n E (fun i=>fls.getD i false) pre
 topo:vZ all (Array.replicate all.size false) pre
 len:pre.length=S.length
theorem FC{n:Nat}{S E:List Nat}{fls:List Bool}:∀(c before c1:List Nat) (i:Nat) (c2:List Nat),sV all n fls S E before c=true→c=c1++i::c2→
  HG all n fls E i (before++c1)=true∧VO all n fls S i=true∧yL all i (S++(before++c1))=true∧i∉S++(before++c1)∧i<all.size:=by
 intro c;induction c with
 |nil=>intro before c1 i c2 _ h;simp at h
 |cons x c ih=>
  intro before c1 i c2 hc h;simp only[sV,aYT]at hc;obtain⟨⟨⟨⟨⟨g,cr⟩,t⟩,nm⟩,lt⟩,hc⟩:=hc;cases c1 with
  |nil=>
   simp only[aZU,bAT]at h;rw[←h.1,aZA];exact⟨g,cr,t,by simpa using nm,by simpa [Nat.blt_eq]using lt⟩
  |cons y c1=>
   simp only[bAW,bAT]at h;have:=ih (before++[x]) c1 i c2 hc h.2;rw[h.1]at this;simpa using this
theorem ER.more{n:Nat}{fls:List Bool}{S pre E E' T c:List Nat}(h:ER all n fls S pre E)(hE:∀e∈E,e∈E')(hc:sV all n fls S E' [] c=true)(hT:∀i,i∈c ↔ i∈T)(hl:c.length=T.length):ER all n fls (S++T) (pre++c) E':=by
 have sp:=fun c1 i c2 he=>FC c [] c1 i c2 hc he
 simp only[aZU]at sp;have hcn:c.Nodup:=by
  have key:∀(c before:List Nat),sV all n fls S E' before c=true→before.Nodup→(before++c).Nodup:=by
   intro c;induction c with
   |nil=>intro before _ h;simpa using h
   |cons i c ih=>
    intro before h hb;simp only[sV,aYT]at h;have hn:i∉S++before:=by simpa using h.1.1.2
    have:=ih (before++[i]) h.2 (by
     rw[aZC];refine⟨hb,by simp,fun x hx y hy=>?_⟩;simp only[aZM]at hy;rintro rfl;exact hn (GE _ (hy▸hx)))
    simpa using this
  simpa using key c [] hc bAV
 have hcS:∀i∈c,i∉S:=fun i hi=>by
  obtain⟨c1,c2,rfl⟩:=List.append_of_mem hi;have:=(sp c1 i c2 rfl).2.2.2.1;exact fun hS=>this (aYX _ hS)
 refine⟨?_,fun i=>?_,fun i hi=>?_,?_,?_,by simp[h.len,hl]⟩
 ·rw[aZC];exact⟨h.nodup,hcn,fun x hx y hy=>by rintro rfl;exact hcS x hy ((h.mem x).1 hx)⟩
 ·simp[h.mem,hT]
 ·rcases aZF.1 hi with hi|hi
  ·exact h.lt i hi
  ·obtain⟨c1,c2,rfl⟩:=List.append_of_mem hi;exact(sp c1 i c2 rfl).2.2.2.2
 ·intro d1 i d2 he x hx;rcases List.append_eq_append_iff.1 he with⟨t,h1,h2⟩|⟨t,h1,h2⟩
  ·rw[h1]at hx;obtain⟨g,cr,_⟩:=sp t i d2 h2;rcases aZF.1 hx with hx|hx
   ·have:=aZN.1 cr x ((h.mem x).1 hx);simp only[bAD,aYT]at this;rcases this with h'|h'
    ·exact aYZ (aZE h')
    ·exact aYZ (aYZ ⟨h'.1.1,h'.1.2,h'.2⟩)
   ·have:=aZN.1 g x hx;simp only[bAD,aYT]at this;rcases this with(h'|h')|h'
    ·exact aZE (by simpa using h')
    ·exact aYZ (aZE h')
    ·exact aYZ (aYZ ⟨h'.1.1,h'.1.2,h'.2⟩)
  ·cases t with
   |nil=>
    rw[aZA]at h1;rw[aZU]at h2;rw[←h1]at hx;obtain⟨g,cr,_⟩:=sp [] i d2 h2.symm;have:=aZN.1 cr x ((h.mem x).1 hx);simp only[bAD,aYT]at this;rcases this with h'|h'
    ·exact aYZ (aZE h')
    ·exact aYZ (aYZ ⟨h'.1.1,h'.1.2,h'.2⟩)
   |cons z t=>
    simp only[bAW,bAT]at h2;rw[←h2.1]at h1;rcases h.good d1 i t h1 x hx with h'|h'
    ·exact aZE (hE x h')
    ·exact aYZ h'
 ·intro d1 i d2 he o ho e hm hb;rcases List.append_eq_append_iff.1 he with⟨t,h1,h2⟩|⟨t,h1,h2⟩
  ·obtain⟨_,_,tp,_⟩:=sp t i d2 h2;unfold yL at tp;rw[ho]at tp;simp only[aZX,bCH,aZN,bAD,bDG,bDC,aZI]at tp;rcases tp e (by simpa using hm)with h'|h'
   ·rw[hb]at h';cases h'
   ·rw[h1];rcases aZF.1 h' with h'|h'
    ·exact aYZ (aYX _ ((h.mem _).2 h'))
    ·exact aYZ (GE _ h')
  ·cases t with
   |nil=>
    rw[aZA]at h1;rw[aZU]at h2;obtain⟨_,_,tp,_⟩:=sp [] i d2 h2.symm;unfold yL at tp;rw[ho]at tp;simp only[aZX,bCH,aZN,bAD,bDG,bDC,aZI]at tp;rcases tp e (by simpa using hm)with h'|h'
    ·rw[hb]at h';cases h'
    ·rw[←h1];rcases aZF.1 h' with h'|h'
     ·exact aYZ ((h.mem _).2 h')
     ·cases h'
   |cons z t=>
    simp only[bAW,bAT]at h2;rw[←h2.1]at h1;exact h.topo d1 i t h1 o ho e hm hb
theorem uE{n:Nat}{fls:List Bool}{S rest T pre E:List Nat}{cont:List Nat→List Nat→Array Bool→Prop}(h:ER all n fls S pre E)(hcont:∀pre' E',ER all n fls (S++T) pre' E'→cont pre' E' (Array.replicate all.size false)):
  ∀{pl:gU} {lp Ep:List Nat},uF all n fls S rest T pl lp Ep=true→jB all n cont rest pl (pre++lp) (Ep++E) (Array.replicate all.size false)
 |.fin c,lp,Ep,hc=>by
  simp only[uF,aYT,aZN]at hc;obtain⟨⟨⟨h1,h2⟩,h3⟩,h4⟩:=hc;have h1':sV all n fls S (Ep++E) [] (lp++c)=true:=by
   have key:∀(c before:List Nat),sV all n fls S Ep before c=true→sV all n fls S (Ep++E) before c=true:=by
    intro c;induction c with
    |nil=>intro _ _;rfl
    |cons i c ih=>
     intro before hh;simp only[sV,aYT]at hh ⊢
     refine⟨⟨⟨⟨⟨?_,hh.1.1.1.1.2⟩,hh.1.1.1.2⟩,hh.1.1.2⟩,hh.1.2⟩,ih _ hh.2⟩;unfold HG at hh ⊢
     rw[aZN];intro x hx;have:=aZN.1 hh.1.1.1.1.1 x hx;simp only[bAD]at this ⊢
     rcases this with(h'|h')|h'
     ·exact aZE (aZE (by simp only[bDC,aZI]at h' ⊢;exact aYX _ h'))
     ·exact aZE (aYZ h')
     ·exact aYZ h'
   exact key _ _ h1
  have:=h.more (fun e he=>GE Ep he) h1' (T:=T) (fun i=>⟨fun hi=>by simpa using h3 i hi,fun hi=>by simpa using h4 i hi⟩) (bAF h2);show cont (pre++lp++c) (Ep++E) _;rw[aZD];exact hcont _ _ this
 |.fork d p A q B,lp,Ep,hc=>by
  simp only[uF,aYT]at hc;obtain⟨⟨⟨⟨hA,hB⟩,hq⟩,hl⟩,he⟩:=hc;have rA:=uE h hcont hA;have rB:=uE h hcont hB;simp only[←aZD]at rA rB;refine⟨rA,rB,?_,bAF hl,fun i hi=>?_⟩
  ·obtain⟨x,hx,hb⟩:=bDW.1 hq;rw[←bAF hb];exact hx
  ·simpa using aZN.1 he i hi
 |.forkN d p ps A,lp,Ep,hc=>by
  simp only[uF,aYT]at hc;obtain⟨hA,he⟩:=hc;refine⟨fun i hi=>?_,fun i hi=>?_⟩
  ·have h1:=aZN.1 hA i hi;simp only[aYT]at h1;have rA:=uE h hcont h1.1.1;simp only[←aZD]at rA;refine⟨rA,bAF h1.1.2,?_⟩;have h2:=h1.2;rw[bAD]at h2;rcases h2 with h2|h2
   ·exact aZE (bAF h2)
   ·exact aYZ (by simpa using h2)
  ·have:=aZN.1 he i hi;rw[bAD]at this;rcases this with h1|h1
   ·exact aZE (by simpa using h1)
   ·obtain⟨q,hq,hr⟩:=bDW.1 h1;exact aYZ ⟨q,hq,hr⟩
theorem Z2{n:Nat}{fls:List Bool}:∀{segs:List gU} {S pre E:List Nat},ER all n fls S pre E→jI all n fls S segs=true→aED all n (fun i=>fls.getD i false) segs pre E (Array.replicate all.size false)
 | [],S,pre,E,h,hc=>by
  simp only[jI,aYT,aZN,bBF,bDC,aZI]at hc;refine⟨⟨by simp,?_,h.nodup,fun i hi=>?_,h.lt,h.topo⟩,h.good⟩
  ·intro i o ho hl;simp[bAL,Array.getElem?_replicate]at hl;split at hl<;>simp at hl
  ·simp only[bAL,Array.getElem?_replicate,hi,bAX,bCH,iff_true];exact(h.mem i).2 (hc.2 i hi)
 |pl::segs,S,pre,E,h,hc=>by
  simp only[jI,aYT]at hc;have:=uE (cont:=aED all n (fun i=>fls.getD i false) segs) (rest:=mT segs) (T:=pl.list) h (fun pre' E' h'=>Z2 h' hc.2) hc.1;rw[aZA,aZU]at this;exact this
theorem EM{n:Nat}{fls:List Bool}:∀{segs:List gU} {S:List Nat},jI all n fls S segs=true→oJ all=true∧(S++mT segs).length=all.size
 | [],S,hc=>by
  simp only[jI,aYT]at hc;rw[mT,aZA];exact⟨hc.1.1,bAF hc.1.2⟩
 |pl::segs,S,hc=>by
  simp only[jI,aYT]at hc;obtain⟨h1,h2⟩:=EM hc.2;rw[aZD]at h2;exact⟨h1,h2⟩
theorem sX{K:Act→World→Prop}{fl:Nat→Bool}:∀(c:List Nat) (a:Act) (w:World),(∀i∈c,i<all.size)→sY r bad P all K Q (hG all (c.map fun i=>(fl i,i))) a w→T5 r bad P all fl K Q c a w:=by
 intro c;induction c with
 |nil=>intro a w _ h;exact h
 |cons i c ih=>
  intro a w hlt h;have hi:=hlt i LT;have ho:all[i]?= some all[i]:=by simp[hi]
  have hd:all.getD i default=all[i]:=by simp[hi]
  have hrec:∀a w,sY r bad P all K Q (hG all (c.map fun i=>(fl i,i))) a w→T5 r bad P all fl K Q c a w:=fun a w hh=>ih a w (fun j hj=>hlt j (n5 _ hj)) hh
  simp only[hG,aZR,sY,hd]at h;simp only[T5,ho];split at h
  ·rename_i hq;obtain⟨v,hy,h⟩:=h;rw[aZK hq];exact⟨v,hy,hrec _ _ h⟩
  ·rename_i hq;rw[aZB hq];exact h.mono hrec
def wY(r:Option Nat){γb:Type}[Membership Nat γb](bad:γb)(P:Program)(all:Array Oper)(fls:List Bool)(Q:Exit→Act→World→Prop)(kont:Act→World→Prop):gU→Act→World→Prop
 |.fin c=>sY r bad P all kont Q (hG all (c.map fun i=>(fls.getD i false,i)))
 |.fork d p A q B=>sY r bad P all (fun a w=>sY r bad P all (wY r bad P all fls Q kont A) Q (hG all [(fls.getD p false,p)]) a w∧sY r bad P all (wY r bad P all fls Q kont B) Q (hG all [(fls.getD q false,q)]) a w) Q (hG all (d.map fun i=>(fls.getD i false,i)))
 |.forkN d p ps A=>sY r bad P all (fun a w=>∀i∈p::ps,sY r bad P all (wY r bad P all fls Q kont (A i)) Q (hG all [(fls.getD i false,i)]) a w) Q (hG all (d.map fun i=>(fls.getD i false,i)))
def HV(r:Option Nat){γb:Type}[Membership Nat γb](bad:γb)(P:Program)(all:Array Oper)(fls:List Bool)(Q:Exit→Act→World→Prop)(K:Act→World→Prop):List gU→Act→World→Prop
 | []=>K
 |pl::segs=>wY r bad P all fls Q (HV r bad P all fls Q K segs) pl
def mO(N:Nat):gU→Bool
 |.fin c=>c.all fun i=>Nat.blt i N
 |.fork d p A q B=>d.all (fun i=>Nat.blt i N)&&Nat.blt p N&&Nat.blt q N&&mO N A&&mO N B
 |.forkN d p ps A=>d.all (fun i=>Nat.blt i N)&&(p::ps).all fun i=>Nat.blt i N&&mO N (A i)
theorem tR{fls:List Bool}{kont kont':Act→World→Prop}(hk:∀a w,kont a w→kont' a w):∀{pl:gU} {a:Act} {w:World},mO all.size pl=true→wY r bad P all fls Q kont pl a w→aDJ r bad P all (fun i=>fls.getD i false) Q kont' pl a w
 |.fin c,a,w,hl,h=>tF hk c (sX c a w (fun i hi=>by simpa [Nat.blt_eq]using aZN.1 hl i hi) h)
 |.fork d p A q B,a,w,hl,h=>by
  simp only[mO,aYT,Nat.blt_eq]at hl;obtain⟨⟨⟨⟨h1,h2⟩,h3⟩,h4⟩,h5⟩:=hl;refine tF ?_ d (sX d a w (fun i hi=>by simpa [Nat.blt_eq]using aZN.1 h1 i hi) h);rintro a w ⟨g1,g2⟩;have one:∀(z:Nat) (K:Act→World→Prop),z<all.size→sY r bad P all K Q (hG all [(fls.getD z false,z)]) a w→lD r bad P all (fun i=>fls.getD i false) Q z K a w:=fun z K hz h=>by
   have:=sX (all:=all) (fl:=fun i=>fls.getD i false) [z] a w (by simpa using hz) h;rw[oW]at this;exact this
  exact⟨(one p _ h2 g1).mono fun a w h=>tR hk h4 h,(one q _ h3 g2).mono fun a w h=>tR hk h5 h⟩
 |.forkN d p ps A,a,w,hl,h=>by
  simp only[mO,aYT]at hl;obtain⟨h1,h2⟩:=hl;refine tF ?_ d (sX d a w (fun i hi=>by simpa [Nat.blt_eq]using aZN.1 h1 i hi) h);intro a w g i hi;have h3:=aZN.1 h2 i hi;simp only[aYT,Nat.blt_eq]at h3;have one:∀(z:Nat) (K:Act→World→Prop),z<all.size→sY r bad P all K Q (hG all [(fls.getD z false,z)]) a w→lD r bad P all (fun i=>fls.getD i false) Q z K a w:=fun z K hz h=>by
   have:=sX (all:=all) (fl:=fun i=>fls.getD i false) [z] a w (by simpa using hz) h;rw[oW]at this;exact this
  exact(one i _ h3.1 (g i hi)).mono fun a w h=>tR hk h3.2 h
theorem Y7{fls:List Bool}:∀{segs:List gU} {a:Act} {w:World},(segs.all fun pl=>mO all.size pl)=true→HV r bad P all fls Q (fun a w=>Q .normal a w) segs a w→aYL r bad P all (fun i=>fls.getD i false) Q segs a w
 | [],a,w,_,h=>h
 |pl::segs,a,w,hl,h=>by
  rw[bDS,aYT]at hl;exact tR (fun a w h=>Y7 hl.2 h) hl.1 h
theorem aFO{id n:Nat}{fls:List Bool}{segs:List gU}{a:Act}{w:World}(hm:P.follows .mixedOrders=true)(hc:(jI all n fls [] segs&&segs.all fun pl=>mO all.size pl)=true)(hQ:PI Q)
  (h:HV r bad P all fls Q (fun a w=>Q .normal a w) segs a {w with drawn:=w.drawn+1}):(Code.region id all true).wpIn (FW r) 0 P Q a w:=by
 rw[aYT]at hc;obtain⟨hnd,hlen⟩:=EM hc.1;have hr:=Z2 (S:=[]) (pre:=[]) (E:=[]) ⟨bAV,fun i=>Iff.rfl,(fun i hi=>by cases hi),(fun c1 i c2 he=>by simp at he),(fun c1 i c2 he=>by simp at he),rfl⟩ hc.1;refine wpIn_region_any hm ?_;have:=W7 (P:=P) (r:=r) (bad:=bad) (n:=n) (fl:=fun i=>fls.getD i false) hnd hQ segs [] [] (Array.replicate all.size false) a {w with drawn:=w.drawn+1} (fun e he=>by cases he) hr (Y7 hc.2 h);rw[hlen]at this;exact this
abbrev bO:=List (Nat×Value)
abbrev aD:=List (Nat×Obj)
abbrev aC:=Nat→List Value
def look:bO→Nat→Option Value
 | [],_=>none
 |(k,v)::r,s=>match Nat.beq k s with|true=>some v|false=>look r s
def ev(σ:bO):Operand→Option Value
 |.tmp t=>look σ t
 |.const v=>some v
 |.global g=>some (qP g)
 |.func f=>some (.func (.func f) #[] #[])
def Le(D D':aC):Prop:=(∀b,D b <+: D' b)∧D' 0=D 0
theorem Le.refl(D:aC):Le D D:=⟨fun _=>List.prefix_refl _,rfl⟩
theorem Le.trans{D D' D'':aC}(h:Le D D')(h':Le D' D''):Le D D'':=⟨fun b=>(h.1 b).trans (h'.1 b),h'.2.trans h.2⟩
theorem Le.get{D D':aC}(h:Le D D'){b i:Nat}{v:Value}(hv:(D b)[i]?= some v):(D' b)[i]?= some v:=by
 obtain⟨t,ht⟩:=h.1 b;rw[←ht,bBR]
 ·exact hv
 ·exact(aYV.1 hv).1
def eX(D:aC)(w:World):Prop:=(∀b,D b≠[]→∃cs e fz,w.heap[b]?= some (.cells cs e fz)∧D b <+: cs.toList)∧D 0≠[]∧∃e fz,w.heap[0]?= some (.cells (D 0).toArray e fz)
theorem eX.of{D D':aC}{w w':World}(h:eX D w)(h1:∀b,D' b≠[]→∃cs e fz,w'.heap[b]?= some (.cells cs e fz)∧D' b <+: cs.toList)(hD:D' 0=D 0)(hw:w'.heap[0]?= w.heap[0]?):eX D' w':=by
 refine⟨h1,?_⟩;rw[hD,hw];exact h.2
theorem eX.ne0{D:aC}{w:World}(h:eX D w){b:Nat}(hb:D b=[]):b≠0:=fun e=>h.2.1 (e▸hb)
theorem eX.pos{D:aC}{w:World}(h:eX D w):0<w.heap.size:=by
 obtain⟨-, -,e,fz,h⟩:=h;exact(bBM.1 h).1
def dB:Obj→Prop
 |.cells _ _ z=>z=(0,0)
 |_=>True
def JE(w:World):Os×Array (Nat×ByteArray):=(w.os,w.output)
structure H0 where
 arr:Array Obj
 env:Option (Os×Array (Nat×ByteArray))
abbrev H0.size(h:H0):Nat:=h.arr.size
abbrev hd(w:World):H0:=⟨w.heap,some (JE w)⟩
structure iD(h0:H0)(lo:Nat)(D0:aC)(mods:List Nat)(μ:aD)(D:aC)(w:World):Prop where
 hlo:h0.size≤lo
 size:lo≤w.heap.size
 old:∀b,b<h0.size→b∉mods→w.heap[b]?= h0.arr[b]?
 dold:∀b,b<h0.size→D b=D0 b
 agr:eX D w
 box:∀p∈μ,w.heap[p.1]?= some p.2∧D p.1=[]∧(lo≤p.1∨p.1∈mods)
 nd:(μ.map (·.1)).Nodup
 fz:∀p∈μ,dB p.2
 env:∀e,h0.env=some e→JE w=e
def zF(lo:Nat)(D:aC)(w:World):Prop:=eX D w∧lo≤w.heap.size
theorem iD.dom{h0:H0}{lo:Nat}{D0:aC}{mods:List Nat}{μ:aD}{D:aC}{w:World}(h:iD h0 lo D0 mods μ D w):zF lo D w:=⟨h.agr,h.size⟩
def aKU(β:List Nat)(D:aC)(w:World)(D':aC)(w':World):Prop:=w.heap.size≤w'.heap.size∧(∀b,b<w.heap.size→b∉β→w'.heap[b]?= w.heap[b]?∧D' b=D b)∧JE w'=JE w
theorem aKU.refl(β:List Nat)(D:aC)(w:World):aKU β D w D w:=⟨aZL _,fun _ _ _=>⟨rfl,rfl⟩,rfl⟩
structure I8(lo:Nat)(J:List Nat→aC→World→Prop):Prop where
 low:∀β D w D' w',J β D w→aKU β D w D' w'→zF lo D' w'→J β D' w'
 own:∀β β' D w,J β D w→(∀b∈β',b∈β∨w.heap.size≤b)→J β' D w
structure Cx where
 r:Option Nat
 N:Nat
 ds:List Deferred
 h0:H0
 lo:Nat
 D0:aC
 mods:List Nat
 ex:Option (List Nat→aC→World→Prop)
def C4(X:Cx)(μ:aD)(D:aC)(w:World):Prop:=
 match X.ex with
 |none=>True
 |some J=>I8 X.lo J∧J (μ.map (·.1)) D w
theorem C4.step{X:Cx}{μ μ':aD}{D D':aC}{w w':World}(h:C4 X μ D w)(hk:X.ex≠none→∀p∈μ',p.1∈μ.map (·.1)∨w.heap.size≤p.1)(hl:X.ex≠none→aKU (μ.map (·.1)) D w D' w')(hd:zF X.lo D' w'):C4 X μ' D' w':=by
 unfold C4 at *;cases hx:X.ex with
 |none=>trivial
 |some J=>
  rw[hx]at h;have hne:X.ex≠none:=by simp[hx]
  refine⟨h.1,?_⟩;have h1:=h.1.own _ (μ'.map (·.1)++μ.map (·.1)) D w h.2 (fun b hb=>by
   rcases aZF.1 hb with hb|hb
   ·obtain⟨p,hp,rfl⟩:=GT.1 hb;exact hk hne p hp
   ·exact aZE hb)
  have h2:=h.1.low _ D w D' w' h1 ⟨(hl hne).1,fun b hb hn=>(hl hne).2.1 b hb (fun hm=>hn (GE _ hm)),(hl hne).2.2⟩ hd;exact h.1.own _ _ D' w' h2 (fun b hb=>aZE (aYX _ hb))
def Hl(X:Cx)(σ:bO)(μ:aD)(Ds:List aC)(a:Act)(w:World):Prop:=
 a.tmps.size=X.N∧(∀s v,look σ s=some v→a.tmps[s]?= some v)∧a.defers=X.ds∧∃D,iD X.h0 X.lo X.D0 X.mods μ D w∧(∀D₁∈Ds,Le D₁ D)∧C4 X μ D w
def WL(P:Program)(X:Cx){γb:Type}[Membership Nat γb](bad:γb)(all:Array Oper)(K:Act→World→Prop)(Q:Exit→Act→World→Prop)(os:List (Bool×Nat))(σ:bO)(μ:aD)(Ds:List aC):Prop:=
 ∀a w,Hl X σ μ Ds a w→sY X.r bad P all K Q (hG all os) a w
def WC(P:Program)(X:Cx)(Q:Exit→Act→World→Prop)(c:Code)(σ:bO)(μ:aD)(Ds:List aC):Prop:=
 ∀a w,Hl X σ μ Ds a w→c.wpIn (FW X.r) 0 P Q a w
variable{P:Program}{X:Cx}{γb:Type}[Membership Nat γb]{bad:γb}{all:Array Oper}{K:Act→World→Prop}{Q:Exit→Act→World→Prop}
variable{σ:bO}{μ:aD}{Ds:List aC}{os:List (Bool×Nat)}{fl:Bool}{ix:Nat}
theorem Hl.eval{a:Act}{w:World}(h:Hl X σ μ Ds a w){x:Operand}{v:Value}(hx:ev σ x=some v):a.eval x=v:=by
 cases x with
 |tmp t=>
  have:=h.2.1 t v hx;show a.tmps.getD t undef=v;rw[bAL,this];rfl
 |const v=>exact aZO hx
 |global g=>exact aZO hx
 |func f=>exact aZO hx
theorem Hl.put{a:Act}{w:World}(h:Hl X σ μ Ds a w){d:Nat}(hd:Nat.blt d X.N=true)(v:Value):Hl X ((d,v)::σ) μ Ds (a.put (some d) v) w:=by
 have hd':d<X.N:=by simpa [Nat.blt_eq]using hd
 refine⟨by simpa [Act.put]using h.1,fun s u hs=>?_,h.2.2.1,h.2.2.2⟩;simp only[look]at hs;simp only[Act.put];cases hb:Nat.beq d s with
 |true=>
  rw[hb]at hs;obtain rfl:=bAF hb;cases hs;rw[Array.getElem?_setIfInBounds_self_of_lt (by rw[h.1];exact hd')]
 |false=>
  rw[hb]at hs;rw[bBG (fun e=>by subst e;simp at hb)]
  exact h.2.1 s u hs
def AM:bO→bO→Prop
 |_,[]=>True
 |σ,(k,v)::r=>look σ k=some v∧AM σ r
theorem AM.look{σ σ':bO}(h:AM σ σ'){s:Nat}{v:Value}(hv:look σ' s=some v):look σ s=some v:=by
 induction σ' with
 |nil=>cases hv
 |cons p r ih=>
  obtain⟨k,u⟩:=p;simp only[Fs.look]at hv;cases hb:Nat.beq k s with
  |true=>rw[hb]at hv;cases hv;obtain rfl:=bAF hb;exact h.1
  |false=>rw[hb]at hv;exact ih h.2 hv
theorem iD.sub{h0:H0}{lo:Nat}{D0:aC}{mods:List Nat}{μ μ':aD}{D:aC}{w:World}(h:iD h0 lo D0 mods μ D w)(hs:∀p∈μ',p∈μ)(hn:(μ'.map (·.1)).Nodup):iD h0 lo D0 mods μ' D w:=
 ⟨h.hlo,h.size,h.old,h.dold,h.agr,fun p hp=>h.box p (hs p hp),hn,fun p hp=>h.fz p (hs p hp),h.env⟩
theorem Hl.weak{σ':bO}{μ':aD}{Ds':List aC}{a:Act}{w:World}(h:Hl X σ μ Ds a w)(hσ:AM σ σ')(hμ:μ'.Sublist μ)(hD:∀D∈Ds',∃D'∈Ds,Le D D'):Hl X σ' μ' Ds' a w:=by
 obtain⟨h1,h2,h3,D,h4,h5,G⟩:=h;refine⟨h1,fun s v hv=>h2 s v (hσ.look hv),h3,D,h4.sub (fun p hp=>hμ.mem hp) ((hμ.map (·.1)).nodup h4.nd),fun D₁ hD₁=>?_,G.step (fun _ p hp=>aZE (GT.2 ⟨p,hμ.mem hp,rfl⟩)) (fun _=>aKU.refl _ _ _) h4.dom⟩;obtain⟨D₂,hm,hle⟩:=hD D₁ hD₁;exact hle.trans (h5 D₂ hm)
theorem AM.app{σ σ1 σ2:bO}(h1:AM σ σ1)(h2:AM σ σ2):AM σ (σ1++σ2):=by
 induction σ1 with
 |nil=>exact h2
 |cons p r ih=>exact⟨h1.1,ih h1.2⟩
theorem W5{σ1 σ2:bO}{s:Nat}{v:Value}(h:look (σ1++σ2) s=some v):look σ1 s=some v∨look σ2 s=some v:=by
 induction σ1 with
 |nil=>exact aYZ h
 |cons p r ih=>
  obtain⟨k,u⟩:=p;simp only[bAW,look]at h ⊢
  cases hb:Nat.beq k s with
  |true=>rw[hb]at h;exact aZE h
  |false=>rw[hb]at h;exact ih h

def NP(Q:Exit→Act→World→Prop):Prop:=∀c a w,¬Q (.panic c) a w
theorem NP.pi(h:NP Q):PI Q:=fun c a _ w _ hq=>absurd hq (h c a w)
theorem aS{x y:Code}(h:WC P X (Exit.then (y.wpIn (FW X.r) 0 P Q) Q) x σ μ Ds):WC P X Q (.seq x y) σ μ Ds:=
 fun a w hh=>wpIn_seq (h a w hh)
theorem bM(h:∀a w,Hl X σ μ Ds a w→Q .normal a w):WC P X Q .skip σ μ Ds:=fun a w hh=>wpIn_skip (h a w hh)
theorem aW{id:Nat}(h:∀a w,Hl X σ μ Ds a w→Q (.exit id) a w):WC P X Q (.exit id) σ μ Ds:=fun a w hh=>wpIn_exit (h a w hh)
theorem CG(h:∀a w,Hl X σ μ Ds a w→Q .ret a w):WC P X Q .ret σ μ Ds:=fun a w hh=>wpIn_ret (h a w hh)
theorem SS{y:Code}(h:WC P X Q y σ μ Ds):∀a w,Hl X σ μ Ds a w→(Exit.then (y.wpIn (FW X.r) 0 P Q) Q) .normal a w:=h
theorem _root_.Go.Fs.Zaq{y:Code}(h:WC P X Q y σ μ Ds):∀a w,Hl X σ μ Ds a w→(Exit.then (y.wpIn (FW X.r) 0 P Q) Q) .normal a w:=SS h
theorem aP{c:Operand}{x y:Code}{b:Bool}(hc:ev σ c=some (.bool b))(ht:b=true→WC P X Q x σ μ Ds)(hf:b=false→WC P X Q y σ μ Ds):WC P X Q (.cond c x y) σ μ Ds:=
 fun a w hh=>wpIn_cond_split (hh.eval hc) (fun e=>ht e a w hh) (fun e=>hf e a w hh)
theorem aNV{id:Nat}{c:Code}(h:WC P X (Exit.inBlock id Q) c σ μ Ds):WC P X Q (.block id c) σ μ Ds:=fun a w hh=>wpIn_block (h a w hh)
theorem _root_.Go.Fs.Zar{id:Nat}{c:Code}(h:WC P X (Exit.inBlock id Q) c σ μ Ds):WC P X Q (.block id c) σ μ Ds:=aNV h
theorem IF{id:Nat}{a:Act}{w:World}(h:Q .normal a w):Exit.inBlock id Q (.exit id) a w:=by simp[Exit.inBlock,h]
theorem AU{id id':Nat}(hne:Nat.beq id' id=false){a:Act}{w:World}(h:Q (.exit id') a w):Exit.inBlock id Q (.exit id') a w:=by
 have:id'≠id:=fun e=>by subst e;simp at hne
 simp[Exit.inBlock,this,h]
theorem aJL(is:List (Bool×Nat)){id:Nat}{ops:Array Oper}(hi:is=(List.range ops.size).map fun i=>(false,i))(h:WL P X [] ops (fun a w=>Q .normal a w) Q is σ μ Ds):WC P X Q (.region id ops false) σ μ Ds:=
 fun a w hh=>aFJ (by rw[aKA,←hi];exact h a w hh)
theorem aU{id:Nat}{ops:Array Oper}(h:WL P X [] ops (fun a w=>Q .normal a w) Q ((List.range ops.size).map fun i=>(false,i)) σ μ Ds):WC P X Q (.region id ops false) σ μ Ds:=aJL _ rfl h
theorem cQ{p:Prop}(h:p:=by repeat (first|exact trivial|refine⟨rfl,?_⟩)):p:=h
theorem C.fo{Q:Program}(h:Q.follows .mixedOrders=true:=by exact bI):Q.follows .mixedOrders=true:=h
theorem dV{α:Type}(l:List α)(i:Nat)(h:i<l.length:=by omega):∃x,l[i]?= some x:=⟨_,aYU h⟩
theorem Hl.drew{a:Act}{w:World}(h:Hl X σ μ Ds a w):Hl X σ μ Ds a {w with drawn:=w.drawn+1}:=by
 obtain⟨h1,h2,h3,D,h4,h5,G⟩:=h;exact⟨h1,h2,h3,D,⟨h4.hlo,h4.size,h4.old,h4.dold,h4.agr,h4.box,h4.nd,h4.fz,h4.env⟩,h5,G.step (fun _ p hp=>aZE (GT.2 ⟨p,hp,rfl⟩)) (fun _=>⟨aZL _,fun _ _ _=>⟨rfl,rfl⟩,rfl⟩) h4.dom⟩
def WS(P:Program)(X:Cx){γb:Type}[Membership Nat γb](bad:γb)(all:Array Oper)(fls:List Bool)(K:Act→World→Prop)(Q:Exit→Act→World→Prop)(segs:List gU)(σ:bO)(μ:aD)(Ds:List aC):Prop:=
 ∀a w,Hl X σ μ Ds a w→HV X.r bad P all fls Q K segs a w
def WP(P:Program)(X:Cx){γb:Type}[Membership Nat γb](bad:γb)(all:Array Oper)(fls:List Bool)(kont:Act→World→Prop)(Q:Exit→Act→World→Prop)(pl:gU)(σ:bO)(μ:aD)(Ds:List aC):Prop:=
 ∀a w,Hl X σ μ Ds a w→wY X.r bad P all fls Q kont pl a w
theorem n7{γb:Type}[Membership Nat γb](bad:γb)(n:Nat)(fls:List Bool)(segs:List gU){id:Nat}{ops:Array Oper}(hm:P.follows .mixedOrders=true)(hQ:PI Q)(hc:(jI ops n fls [] segs&&segs.all fun pl=>mO ops.size pl)=true)
  (h:WS P X bad ops fls (fun a w=>Q .normal a w) Q segs σ μ Ds):WC P X Q (.region id ops true) σ μ Ds:=by
 intro a w hh;exact aFO (bad:=bad) hm hc hQ (h a _ hh.drew)
theorem pY{γb:Type}[Membership Nat γb](bad:γb)(n:Nat)(fls:List Bool)(segs:List gU){id:Nat}{ops:Array Oper}(hm:P.follows .mixedOrders=true)(hQ:NP Q)(hc:(jI ops n fls [] segs&&segs.all fun pl=>mO ops.size pl)=true)
  (h:WS P X bad ops fls (fun a w=>Q .normal a w) Q segs σ μ Ds):WC P X Q (.region id ops true) σ μ Ds:=n7 bad n fls segs hm hQ.pi hc h
section segments
variable{fls:List Bool}{kont:Act→World→Prop}
theorem qF(h:∀a w,Hl X σ μ Ds a w→K a w):WS P X bad all fls K Q [] σ μ Ds:=h
theorem oM{c:List Nat}{segs:List gU}(is:List (Bool×Nat))(hi:is=c.map fun i=>(fls.getD i false,i))(h:WL P X bad all (fun a w=>HV X.r bad P all fls Q K segs a w) Q is σ μ Ds):WS P X bad all fls K Q (.fin c::segs) σ μ Ds:=by
 subst hi;exact h
theorem uP{pl:gU}{segs:List gU}(h:WP P X bad all fls (fun a w=>HV X.r bad P all fls Q K segs a w) Q pl σ μ Ds):WS P X bad all fls K Q (pl::segs) σ μ Ds:=h
theorem aZ{c:List Nat}(is:List (Bool×Nat))(hi:is=c.map fun i=>(fls.getD i false,i))(h:WL P X bad all kont Q is σ μ Ds):WP P X bad all fls kont Q (.fin c) σ μ Ds:=by
 subst hi;exact h
theorem bL{d:List Nat}{p q:Nat}{A B:gU}(is:List (Bool×Nat))(hi:is=d.map fun i=>(fls.getD i false,i))
  (h:WL P X bad all (fun a w=>sY X.r bad P all (wY X.r bad P all fls Q kont A) Q (hG all [(fls.getD p false,p)]) a w∧sY X.r bad P all (wY X.r bad P all fls Q kont B) Q (hG all [(fls.getD q false,q)]) a w) Q is σ μ Ds):WP P X bad all fls kont Q (.fork d p A q B) σ μ Ds:=by
 subst hi;exact h
theorem eE{p q:Nat}{A B:gU}(bp bq:Bool)(hp:fls.getD p false=bp)(hq:fls.getD q false=bq)(h1:WL P X bad all (fun a w=>wY X.r bad P all fls Q kont A a w) Q [(bp,p)] σ μ Ds)(h2:WL P X bad all (fun a w=>wY X.r bad P all fls Q kont B a w) Q [(bq,q)] σ μ Ds):
  ∀a w,Hl X σ μ Ds a w→sY X.r bad P all (wY X.r bad P all fls Q kont A) Q (hG all [(fls.getD p false,p)]) a w∧sY X.r bad P all (wY X.r bad P all fls Q kont B) Q (hG all [(fls.getD q false,q)]) a w:=fun a w hh=>by
 subst hp hq;exact⟨h1 a w hh,h2 a w hh⟩
theorem qG{d:List Nat}{p:Nat}{ps:List Nat}{A:Nat→gU}(is:List (Bool×Nat))(hi:is=d.map fun i=>(fls.getD i false,i))
  (h:WL P X bad all (fun a w=>∀i∈p::ps,sY X.r bad P all (wY X.r bad P all fls Q kont (A i)) Q (hG all [(fls.getD i false,i)]) a w) Q is σ μ Ds):WP P X bad all fls kont Q (.forkN d p ps A) σ μ Ds:=by
 subst hi;exact h
theorem zM{A:Nat→gU}:∀a w,Hl X σ μ Ds a w→∀i∈([]:List Nat),sY X.r bad P all (wY X.r bad P all fls Q kont (A i)) Q (hG all [(fls.getD i false,i)]) a w:=fun _ _ _ _ h=>by cases h
theorem fU{A:Nat→gU}{p:Nat}{ps:List Nat}(b:Bool){B:gU}(hb:fls.getD p false=b)(hB:A p=B)(h1:WL P X bad all (fun a w=>wY X.r bad P all fls Q kont B a w) Q [(b,p)] σ μ Ds)
  (h2:∀a w,Hl X σ μ Ds a w→∀i∈ps,sY X.r bad P all (wY X.r bad P all fls Q kont (A i)) Q (hG all [(fls.getD i false,i)]) a w):
  ∀a w,Hl X σ μ Ds a w→∀i∈p::ps,sY X.r bad P all (wY X.r bad P all fls Q kont (A i)) Q (hG all [(fls.getD i false,i)]) a w:=fun a w hh i hi=>by
 rcases n4.1 hi with rfl|hi
 ·rw[hb,hB];exact h1 a w hh
 ·exact h2 a w hh i hi
end segments
def JU(c:List Nat)(bits:List Bool):List Bool:=(List.range c.length).map fun i=>(bits.zip c).any fun p=>p.1&&Nat.beq p.2 i
theorem SW{γb:Type}[Membership Nat γb](bad:γb)(n:Nat)(c:List Nat)(bits:List Bool)(is:List (Bool×Nat)){id:Nat}{ops:Array Oper}(hm:P.follows .mixedOrders=true)(hQ:PI Q)(hc:((jI ops n (JU c bits) [] [.fin c]&&mO ops.size (.fin c))&&(bits.zip c==c.map fun i=>((JU c bits).getD i false,i)))=true)(hi:is=bits.zip c)
  (h:WL P X bad ops (fun a w=>Q .normal a w) Q is σ μ Ds):WC P X Q (.region id ops true) σ μ Ds:=by
 rw[aYT]at hc;exact n7 bad n (JU c bits) [.fin c] hm hQ (by rw[bDS,List.all_nil,Bool.and_true];exact hc.1) (oM is (hi.trans (eq_of_beq hc.2)) h)
theorem lI{γb:Type}[Membership Nat γb](bad:γb)(n:Nat)(c:List Nat)(bits:List Bool)(is:List (Bool×Nat)){id:Nat}{ops:Array Oper}(hm:P.follows .mixedOrders=true)(hQ:NP Q)(hc:((jI ops n (JU c bits) [] [.fin c]&&mO ops.size (.fin c))&&(bits.zip c==c.map fun i=>((JU c bits).getD i false,i)))=true)(hi:is=bits.zip c)
    (h:WL P X bad ops (fun a w=>Q .normal a w) Q is σ μ Ds):WC P X Q (.region id ops true) σ μ Ds:=SW bad n c bits is hm hQ.pi hc hi h
def ZK(n m:Nat):List (Bool×Nat):=(List.range n).map fun i=>(Nat.testBit m i,i)
def RL(k m:Nat):List Bool:=(List.range k).map fun i=>Nat.testBit m i
theorem aYE(k m:Nat):ZK k m=(List.range k).map fun i=>((RL k m).getD i false,i):=bDX fun i hi=>by
  have h:=bBF.1 hi;simp[RL,h]
theorem l5{γb:Type}[Membership Nat γb](bad:γb)(n k m:Nat){id:Nat}{ops:Array Oper}(hQ:PI Q)(h:WL P X bad ops (fun a w=>Q .normal a w) Q (ZK k m) σ μ Ds)(hc:(jI ops n (RL k m) [] [.fin (List.range k)]&&mO ops.size (.fin (List.range k)))=true:=by kernel_rfl)(hm:P.follows .mixedOrders=true:=by exact bI):WC P X Q (.region id ops true) σ μ Ds:=
 n7 bad n (RL k m) [.fin (List.range k)] hm hQ (by rw[bDS,List.all_nil,Bool.and_true];exact hc) (oM (ZK k m) (aYE k m) h)
theorem PI.thn{k:Act→World→Prop}(h:PI Q):PI (Exit.then k Q):=fun c a b w d q=>h c a b w d q
theorem PI.inb{i:Nat}(h:PI Q):PI (Exit.inBlock i Q):=fun c a b w d q=>h c a b w d q
theorem NP.inb{i:Nat}(h:NP Q):NP (Exit.inBlock i Q):=fun c a w q=>h c a w q
theorem NP.thn{k:Act→World→Prop}(h:NP Q):NP (Exit.then k Q):=fun c a w q=>h c a w q
theorem cO{γb:Type}[Membership Nat γb](bad:γb)(n k m:Nat){id:Nat}{ops:Array Oper}(h:WL P X bad ops (fun a w=>Q .normal a w) Q (ZK k m) σ μ Ds)(hQ:PI Q:=by repeat (first|exact VH|refine PI.thn ?_|refine PI.inb ?_|refine PI.ngt ?_))(hc:(jI ops n (RL k m) [] [.fin (List.range k)]&&mO ops.size (.fin (List.range k)))=true:=by kernel_rfl)(hm:P.follows .mixedOrders=true:=by exact bI):WC P X Q (.region id ops true) σ μ Ds:=l5 bad n k m hQ h hc hm
theorem rK{γb:Type}[Membership Nat γb](bad:γb)(n k m:Nat){id:Nat}{ops:Array Oper}(hQ:NP Q)(h:WL P X bad ops (fun a w=>Q .normal a w) Q (ZK k m) σ μ Ds)(hc:(jI ops n (RL k m) [] [.fin (List.range k)]&&mO ops.size (.fin (List.range k)))=true:=by kernel_rfl)(hm:P.follows .mixedOrders=true:=by exact bI):WC P X Q (.region id ops true) σ μ Ds:=l5 bad n k m hQ.pi h hc hm
theorem bW{γb:Type}[Membership Nat γb](bad:γb)(n k m:Nat){id:Nat}{ops:Array Oper}(h:WL P X bad ops (fun a w=>Q .normal a w) Q (ZK k m) σ μ Ds)(hQ:NP Q:=by repeat (first|exact kL|exact jA|exact L8|refine NP.thn ?_|refine NP.inb ?_|refine NP.ngt ?_))(hc:(jI ops n (RL k m) [] [.fin (List.range k)]&&mO ops.size (.fin (List.range k)))=true:=by kernel_rfl)(hm:P.follows .mixedOrders=true:=by exact bI):WC P X Q (.region id ops true) σ μ Ds:=l5 bad n k m hQ.pi h hc hm
def z6:List (Nat×gU)→Nat→gU
 | [],_=>.fin []
 |(j,pl)::l,i=>bif Nat.beq i j then pl else z6 l i
theorem aSW{γ:Type}{c:Code}(m:γ→Nat)(I:γ→Prop)(S:γ→bO)(M:γ→aD)(E:γ→List aC)(g₀:γ)(h₀:I g₀)(hσ:AM σ (S g₀))(hμ:(M g₀).Sublist μ)(hD:∀D∈E g₀,∃D'∈Ds,Le D D')
  (round:∀g,I g→WC P X (Exit.then (fun a w=>∃g',I g'∧m g'<m g∧Hl X (S g') (M g') (E g') a w) Q) c (S g) (M g) (E g)):WC P X Q (.loop c) σ μ Ds:=by
 let p:Act→World→Nat→Prop:=fun a w n=>∃g,I g∧m g=n∧Hl X (S g) (M g) (E g) a w
 have ex:∀a w,(∃n,p a w n)→∃n,p a w n∧∀k,p a w k→n≤k:=by
  intro a w ⟨n,hn⟩;induction n using Nat.strongRecOn with
  |_ n ih=>
   by_cases h:∃k,k<n∧p a w k
   ·obtain⟨k,hk,hp⟩:=h;exact ih k hk hp
   ·exact⟨n,hn,fun k hk=>Nat.le_of_not_lt fun hl=>h ⟨k,hl,hk⟩⟩
 intro a w hh;refine wpIn_loop (fun a w=>∃n,p a w n) (fun a w=>open Classical in if h:∃n,p a w n then(ex a w h).choose else 0) ⟨_,g₀,h₀,rfl,hh.weak hσ hμ hD⟩ ?_;intro a w hI;obtain⟨⟨g,hg,hm,hst⟩,hmin⟩:=(ex a w hI).choose_spec;refine wpIn_mono (round g hg a w hst) fun e a' w' hq=>?_
 cases e with
 |normal=>
  obtain⟨g',hg',hlt,hst'⟩:=hq;have hI':∃n,p a' w' n:=⟨_,g',hg',rfl,hst'⟩
  refine⟨hI',?_⟩;simp only[dif_pos hI',dif_pos hI];have:=(ex a' w' hI').choose_spec.2 _ ⟨g',hg',rfl,hst'⟩;omega
 |_=>exact hq

def dE(all:Array Oper)(σ:bO):Option (Nat×Bool)→Prop
 |none=>True
 |some (j,want)=>∃s,(all[j]?).bind (·.dst)=some s∧look σ s=some (.bool want)
def aYQ(all:Array Oper)(σ:bO):Option (Nat×Bool)→Prop
 |none=>False
 |some (j,want)=>∃s v,(all[j]?).bind (·.dst)=some s∧look σ s=some v∧(match v with|.bool b=>Bool.xor b want|_=>true)=true
theorem Hl.wanted{a:Act}{w:World}(h:Hl X σ μ Ds a w){o:Oper}(hg:dE all σ o.guard):Region.wanted o (yielded all a.tmps)=true:=by
 unfold Region.wanted;cases hgd:o.guard with
 |none=>rfl
 |some p=>
  obtain⟨j,want⟩:=p;rw[hgd]at hg;obtain⟨s,hs,hl⟩:=hg;simp[yielded,hs,h.2.1 s _ hl]
theorem Hl.unwanted{a:Act}{w:World}(h:Hl X σ μ Ds a w){o:Oper}(hg:aYQ all σ o.guard):Region.wanted o (yielded all a.tmps)=false:=by
 unfold Region.wanted;cases hgd:o.guard with
 |none=>rw[hgd]at hg;exact hg.elim
 |some p=>
  obtain⟨j,want⟩:=p;rw[hgd]at hg;obtain⟨s,v,hs,hl,hv⟩:=hg;have hy:yielded all a.tmps j=(match v with|.bool b=>some b|_=>none):=by
   simp only[yielded,hs,Option.bind_some,h.2.1 s _ hl];cases v<;>rfl
  simp only[hy];cases v with
  |bool b=>cases b<;>cases want<;>first|rfl|(simp at hv)
  |_=>rfl
theorem X0(h:∀a w,Hl X σ μ Ds a w→K a w):WL P X bad all K Q [] σ μ Ds:=fun a w hh=>h a w hh
theorem _root_.Go.Fs.Zah(h:∀a w,Hl X σ μ Ds a w→K a w):WL P X bad all K Q [] σ μ Ds:=X0 h
theorem xD{o:Oper}(ho:all[ix]?= some o):hG all ((fl,ix)::os)=(fl,o)::hG all os:=by simp[hG,ho]
theorem nE{o:Oper}{d:Nat}{v:Value}(ho:all[ix]?= some o)(hq:jW o.op=true)(hd:o.dst=some d)(hN:Nat.blt d X.N=true)(hg:dE all σ o.guard)
  (hv:∀a w,Hl X σ μ Ds a w→∀w',nZ bad w w'→(execOp a.eval o).run P w'=.ok (.value v) w') (k:WL P X bad all K Q os ((d,v)::σ) μ Ds):WL P X bad all K Q ((fl,ix)::os) σ μ Ds:=by
 intro a w hh;rw[xD ho];simp only[sY,hq,bAX];refine⟨v,aZE ⟨hh.wanted hg,hv a w hh⟩,?_⟩;rw[hd];exact k _ _ (hh.put hN v)
theorem bQ{o:Oper}{d:Nat}{v:Value}(ho:all[ix]?= some o)(hq:jW o.op=true)(hd:o.dst=some d)(hN:Nat.blt d X.N=true)(hg:dE all σ o.guard)
  (hv:∀ρ:Operand→Value,(∀x u,ev σ x=some u→ρ x=u)→∀w',(execOp ρ o).run P w'=.ok (.value v) w') (k:WL P X bad all K Q os ((d,v)::σ) μ Ds):WL P X bad all K Q ((fl,ix)::os) σ μ Ds:=
 nE ho hq hd hN hg (fun a _ hh w' _=>hv a.eval (fun _ _ hx=>hh.eval hx) w') k
theorem aTC{o:Oper}{d:Nat}(ho:all[ix]?= some o)(hd:o.dst=some d)(hN:Nat.blt d X.N=true)(hg:aYQ all σ o.guard)(k:WL P X bad all K Q os ((d,undef)::σ) μ Ds):WL P X bad all K Q ((fl,ix)::os) σ μ Ds:=by
 intro a w hh;rw[xD ho];simp only[sY];split
 ·refine⟨undef,aYZ ⟨hh.unwanted hg,rfl⟩,?_⟩;rw[hd];exact k _ _ (hh.put hN _)
 ·unfold I1;rw[aZB (by rw[hh.unwanted hg];simp),hd]
  exact k _ _ (hh.put hN _)
theorem _root_.Go.Fs.Zf{o:Oper}{d:Nat}(e9:(all[ix]?,o.dst)=(some o,some d))(k:WL P X bad all K Q os ((d,undef)::σ) μ Ds)(hN:Nat.blt d X.N=true:=by exact rfl)(hg:aYQ all σ o.guard:=by exact⟨_,_,rfl,rfl,rfl⟩):WL P X bad all K Q ((fl,ix)::os) σ μ Ds:=aTC (aYY (fun z=>z.1) e9) (aYY (fun z=>z.2) e9) hN hg k
theorem pE{K':Act→World→Prop}:∀(xs ys:List (Bool×Oper)) (a:Act) (w:World),sY X.r bad P all (fun a w=>K' a w) Q xs a w→(∀a w,K' a w→sY X.r bad P all K Q ys a w)→sY X.r bad P all K Q (xs++ys) a w
 | [],ys,a,w,h,hk=>hk a w h
 |(fl,o)::xs,ys,a,w,h,hk=>by
  simp only[bAW,sY]at h ⊢
  split at h
  ·rename_i hq;rw[aZK hq];obtain⟨v,hy,h⟩:=h;exact⟨v,hy,pE xs ys _ _ h hk⟩
  ·rename_i hq;rw[aZB hq];exact h.mono fun a w hh=>pE xs ys a w hh hk
theorem WL.append{K':Act→World→Prop}{xs ys:List (Bool×Nat)}{a:Act}{w:World}(h:sY X.r bad P all (fun a w=>K' a w) Q (hG all xs) a w)(hk:∀a w,K' a w→sY X.r bad P all K Q (hG all ys) a w):
  sY X.r bad P all K Q (hG all (xs++ys)) a w:=by
 rw[hG,aZH];exact pE _ _ a w h hk
theorem EN(xs ys:List (Bool×Nat)){s p:Nat}{b c want:Bool}(ho:os=xs++ys)(hs:look σ s=some (.bool b))
  (hyes:b=want→WL P X bad all (fun a w=>Hl X ((p,.bool c)::(s,.bool want)::σ) μ Ds a w) Q xs ((s,.bool want)::σ) μ Ds)
  (hno:b= !want→WL P X bad all (fun a w=>Hl X ((p,.bool (!want))::(s,.bool (!want))::σ) μ Ds a w) Q xs ((s,.bool (!want))::σ) μ Ds)
  (k:WL P X bad all K Q ys ((p,.bool (bif want then b&&c else b||c))::σ) μ Ds):WL P X bad all K Q os σ μ Ds:=by
 have hsub:∀u,Value.bool b=u→∀a w,Hl X σ μ Ds a w→Hl X ((s,u)::σ) μ Ds a w:=by
  rintro _ rfl a w ⟨h1,h2,h3⟩;refine⟨h1,fun t v ht=>?_,h3⟩;simp only[look]at ht;cases hb:Nat.beq s t with
  |true=>rw[hb]at ht;cases ht;obtain rfl:=bAF hb;exact h2 _ _ hs
  |false=>rw[hb]at ht;exact h2 _ _ ht
 have hback:∀u v,Value.bool b=u→∀a w,Hl X ((p,v)::(s,u)::σ) μ Ds a w→Hl X ((p,v)::σ) μ Ds a w:=by
  rintro _ v rfl a w ⟨h1,h2,h3⟩;refine⟨h1,fun t v' ht=>?_,h3⟩;refine h2 t v' ?_;simp only[look]at ht ⊢
  cases hp:Nat.beq p t with
  |true=>rw[hp]at ht;exact ht
  |false=>
   rw[hp]at ht;cases hb:Nat.beq s t with
   |true=>obtain rfl:=bAF hb;rw[←ht,hs]
   |false=>exact ht
 subst ho;intro a w hh;have kk:∀v,v=Value.bool (bif want then b&&c else b||c)→∀a w,Hl X ((p,v)::σ) μ Ds a w→sY X.r bad P all K Q (hG all ys) a w:=by rintro _ rfl a w h;exact k a w h
 cases b<;>cases want
 ·exact WL.append (hyes rfl a w (hsub _ rfl a w hh)) fun a w h=>kk _ rfl a w (hback _ _ rfl a w h)
 ·exact WL.append (hno rfl a w (hsub _ rfl a w hh)) fun a w h=>kk _ rfl a w (hback _ _ rfl a w h)
 ·exact WL.append (hno rfl a w (hsub _ rfl a w hh)) fun a w h=>kk _ rfl a w (hback _ _ rfl a w h)
 ·exact WL.append (hyes rfl a w (hsub _ rfl a w hh)) fun a w h=>kk _ rfl a w (hback _ _ rfl a w h)
theorem dJ(k:Nat){s p:Nat}{b c:Bool}(hs:look σ s=some (.bool b))
 (hyes:b=true→WL P X bad all (fun a w=>Hl X ((p,.bool c)::(s,.bool true)::σ) μ Ds a w) Q (os.take k) ((s,.bool true)::σ) μ Ds)
 (hno:b=false→WL P X bad all (fun a w=>Hl X ((p,.bool false)::(s,.bool false)::σ) μ Ds a w) Q (os.take k) ((s,.bool false)::σ) μ Ds)
 (kk:WL P X bad all K Q (os.drop k) ((p,.bool (b&&c))::σ) μ Ds):WL P X bad all K Q os σ μ Ds:=EN (os.take k) (os.drop k) (want:=true) (bBV k os).symm hs hyes hno kk
theorem cR(k:Nat){s p:Nat}{b c:Bool}(hs:look σ s=some (.bool b))
 (hyes:b=false→WL P X bad all (fun a w=>Hl X ((p,.bool c)::(s,.bool false)::σ) μ Ds a w) Q (os.take k) ((s,.bool false)::σ) μ Ds)
 (hno:b=true→WL P X bad all (fun a w=>Hl X ((p,.bool true)::(s,.bool true)::σ) μ Ds a w) Q (os.take k) ((s,.bool true)::σ) μ Ds)
 (kk:WL P X bad all K Q (os.drop k) ((p,.bool (b||c))::σ) μ Ds):WL P X bad all K Q os σ μ Ds:=EN (os.take k) (os.drop k) (want:=false) (bBV k os).symm hs hyes hno kk
theorem A4{fls:List Bool}{I M:Act→World→Prop}(hk:∀a w,I a w→M a w):∀(pl:gU) (a:Act) (w:World),wY X.r bad P all fls Q I pl a w→wY X.r bad P all fls Q M pl a w
 |.fin c,a,w,h=>by
  have:=pE (X:=X) (K':=I) _ [] a w h (fun a w h=>hk a w h);rw[aZA]at this;exact this
 |.fork d p A q B,a,w,h=>by
  have one:∀(xs:List (Bool×Oper)) (G K2:Act→World→Prop) (a:Act) (w:World),sY X.r bad P all G Q xs a w→(∀a w,G a w→K2 a w)→sY X.r bad P all K2 Q xs a w:=fun xs G K2 a w h hh=>by
   have:=pE (X:=X) (K':=G) xs [] a w h (fun a w h=>hh a w h);rw[aZA]at this;exact this
  exact one _ _ _ a w h fun a w hh=>⟨one _ _ _ a w hh.1 (A4 hk A),one _ _ _ a w hh.2 (A4 hk B)⟩
 |.forkN d p ps A,a,w,h=>by
  have one:∀(xs:List (Bool×Oper)) (G K2:Act→World→Prop) (a:Act) (w:World),sY X.r bad P all G Q xs a w→(∀a w,G a w→K2 a w)→sY X.r bad P all K2 Q xs a w:=fun xs G K2 a w h hh=>by
   have:=pE (X:=X) (K':=G) xs [] a w h (fun a w h=>hh a w h);rw[aZA]at this;exact this
  exact one _ _ _ a w h fun a w hh i hi=>one _ _ _ a w (hh i hi) (A4 hk (A i))
theorem X6{fls:List Bool}{K':Act→World→Prop}:∀(xs ys:List gU) (a:Act) (w:World),HV X.r bad P all fls Q K' xs a w→(∀a w,K' a w→HV X.r bad P all fls Q K ys a w)→HV X.r bad P all fls Q K (xs++ys) a w
 | [],_,a,w,h,hk=>hk a w h
 |x::xs,ys,a,w,h,hk=>A4 (fun a w h=>X6 xs ys a w h hk) x a w h
theorem y9{fls:List Bool}{γ:Type}(I:γ→Prop)(S:γ→bO)(M:γ→aD)(E:γ→List aC)(xs ys:List gU){segs:List gU}(ho:segs=xs++ys)(h1:WS P X bad all fls (fun a w=>∃g,I g∧Hl X (S g) (M g) (E g) a w) Q xs σ μ Ds)
  (h2:∀g,I g→WS P X bad all fls K Q ys (S g) (M g) (E g)):WS P X bad all fls K Q segs σ μ Ds:=by
 subst ho;intro a w hh;exact X6 xs ys a w (h1 a w hh) fun a w ⟨g,hg,h⟩=>h2 g hg a w h
def I3:Nat→bO→Bool
 |0,_=>true
 |_,[]=>true
 |n+1,(k,_)::r=>(match look (r.drop n) k with|none=>true|some _=>false)&&I3 n r
theorem zT:∀(n:Nat) (σ:bO),I3 n σ=true→∀s v,look (σ.drop n) s=some v→look σ s=some v
 |0,σ,_,s,v,h=>h
 |n+1,[],_,s,v,h=>h
 |n+1,(k,u)::r,hd,s,v,h=>by
  simp only[I3,aYT]at hd;simp only[List.drop_succ_cons]at h;have h2:=zT n r hd.2 s v h;simp only[look];cases hb:Nat.beq k s with
  |false=>exact h2
  |true=>
   obtain rfl:=bAF hb;have:=hd.1;rw[h]at this;cases this
theorem Hl.cutK{p:Nat}{v:Value}{a:Act}{w:World}(n:Nat)(h:Hl X ((p,v)::σ) μ Ds a w)(hd:I3 n σ=true):Hl X ((p,v)::σ.drop n) μ Ds a w:=by
 obtain⟨h1,h2,h3⟩:=h;refine⟨h1,fun s u hs=>h2 s u ?_,h3⟩;simp only[look]at hs ⊢
 cases hb:Nat.beq p s with
 |true=>rw[hb]at hs;exact hs
 |false=>rw[hb]at hs;exact zT n σ hd s u hs
theorem aQ{p:Nat}{v:Value}(n:Nat)(hd:I3 n σ=true:=by exact rfl):WL P X bad all (fun a w=>Hl X ((p,v)::σ.drop n) μ Ds a w) Q [] ((p,v)::σ) μ Ds:=X0 fun _ _ hh=>hh.cutK n hd
theorem aA{z:Code}{id:Nat}{ops:Array Oper}(h:WL P X [] ops (fun a w=>(Exit.then (z.wpIn (FW X.r) 0 P Q) Q) .normal a w) (Exit.then (z.wpIn (FW X.r) 0 P Q) Q) ((List.range ops.size).map fun i=>(false,i)) σ μ Ds):WC P X Q (.seq (.region id ops false) z) σ μ Ds:=aS (aU h)
theorem eH{y z:Code}{id:Nat}{ops:Array Oper}(h:WL P X [] ops (fun a w=>(Exit.then (y.wpIn (FW X.r) 0 P (Exit.then (z.wpIn (FW X.r) 0 P Q) Q)) (Exit.then (z.wpIn (FW X.r) 0 P Q) Q)) .normal a w) (Exit.then (y.wpIn (FW X.r) 0 P (Exit.then (z.wpIn (FW X.r) 0 P Q) Q)) (Exit.then (z.wpIn (FW X.r) 0 P Q) Q)) ((List.range ops.size).map fun i=>(false,i)) σ μ Ds):WC P X Q (.seq (.seq (.region id ops false) y) z) σ μ Ds:=aS (aA h)
theorem aF{y:Code}{R:Exit→Act→World→Prop}(h:WC P X Q y σ μ Ds):WL P X bad all (fun a w=>(Exit.then (y.wpIn (FW X.r) 0 P Q) Q) .normal a w) R [] σ μ Ds:=X0 (SS h)
theorem bT{x y:Code}{R:Exit→Act→World→Prop}(h:WC P X (Exit.then (y.wpIn (FW X.r) 0 P Q) Q) x σ μ Ds):WL P X bad all (fun a w=>(Exit.then ((Code.seq x y).wpIn (FW X.r) 0 P Q) Q) .normal a w) R [] σ μ Ds:=aF (aS h)
theorem aL{z:Code}{id:Nat}{ops:Array Oper}{R:Exit→Act→World→Prop}(h:WL P X [] ops (fun a w=>(Exit.then (z.wpIn (FW X.r) 0 P Q) Q) .normal a w) (Exit.then (z.wpIn (FW X.r) 0 P Q) Q) ((List.range ops.size).map fun i=>(false,i)) σ μ Ds):WL P X bad all (fun a w=>(Exit.then ((Code.seq (.region id ops false) z).wpIn (FW X.r) 0 P Q) Q) .normal a w) R [] σ μ Ds:=aF (aA h)
theorem bJ{y z:Code}{id:Nat}{ops:Array Oper}{R:Exit→Act→World→Prop}(h:WL P X [] ops (fun a w=>(Exit.then (y.wpIn (FW X.r) 0 P (Exit.then (z.wpIn (FW X.r) 0 P Q) Q)) (Exit.then (z.wpIn (FW X.r) 0 P Q) Q)) .normal a w) (Exit.then (y.wpIn (FW X.r) 0 P (Exit.then (z.wpIn (FW X.r) 0 P Q) Q)) (Exit.then (z.wpIn (FW X.r) 0 P Q) Q)) ((List.range ops.size).map fun i=>(false,i)) σ μ Ds):WL P X bad all (fun a w=>(Exit.then ((Code.seq (.seq (.region id ops false) y) z).wpIn (FW X.r) 0 P Q) Q) .normal a w) R [] σ μ Ds:=aF (eH h)
theorem aG{R:Exit→Act→World→Prop}(h:∀a w,Hl X σ μ Ds a w→Q .ret a w):WL P X bad all (fun a w=>(Exit.then (Code.ret.wpIn (FW X.r) 0 P Q) Q) .normal a w) R [] σ μ Ds:=aF (CG h)
theorem aT{y:Code}(h:WC P X Q y σ μ Ds):WC P X (Exit.then (y.wpIn (FW X.r) 0 P Q) Q) .skip σ μ Ds:=bM (SS h)

theorem ZP{k:Act→World→Prop}(h:∀a w,Hl X σ μ Ds a w→Q .ret a w):∀a w,Hl X σ μ Ds a w→Exit.then k Q .ret a w:=h
theorem _root_.Go.Fs.Zap{k:Act→World→Prop}(h:∀a w,Hl X σ μ Ds a w→Q .ret a w):∀a w,Hl X σ μ Ds a w→Exit.then k Q .ret a w:=ZP h
theorem QO{k:Act→World→Prop}{id:Nat}(h:∀a w,Hl X σ μ Ds a w→Q (.exit id) a w):∀a w,Hl X σ μ Ds a w→Exit.then k Q (.exit id) a w:=h
theorem _root_.Go.Fs.Zas{k:Act→World→Prop}{id:Nat}(h:∀a w,Hl X σ μ Ds a w→Q (.exit id) a w):∀a w,Hl X σ μ Ds a w→Exit.then k Q (.exit id) a w:=QO h
theorem RF{id:Nat}(h:∀a w,Hl X σ μ Ds a w→Q .ret a w):∀a w,Hl X σ μ Ds a w→Exit.inBlock id Q .ret a w:=h
theorem _root_.Go.Fs.Zau{id:Nat}(h:∀a w,Hl X σ μ Ds a w→Q .ret a w):∀a w,Hl X σ μ Ds a w→Exit.inBlock id Q .ret a w:=RF h
theorem PS{id:Nat}(h:∀a w,Hl X σ μ Ds a w→Q .normal a w):∀a w,Hl X σ μ Ds a w→Exit.inBlock id Q .normal a w:=h
theorem _root_.Go.Fs.Zat{id:Nat}(h:∀a w,Hl X σ μ Ds a w→Q .normal a w):∀a w,Hl X σ μ Ds a w→Exit.inBlock id Q .normal a w:=PS h
theorem LN{id:Nat}(h:∀a w,Hl X σ μ Ds a w→Q .normal a w):∀a w,Hl X σ μ Ds a w→Exit.inBlock id Q (.exit id) a w:=fun a w hh=>IF (h a w hh)
theorem _root_.Go.Fs.Zav{id:Nat}(h:∀a w,Hl X σ μ Ds a w→Q .normal a w):∀a w,Hl X σ μ Ds a w→Exit.inBlock id Q (.exit id) a w:=LN h
theorem tS{id id':Nat}(hne:Nat.beq id' id=false)(h:∀a w,Hl X σ μ Ds a w→Q (.exit id') a w):∀a w,Hl X σ μ Ds a w→Exit.inBlock id Q (.exit id') a w:=fun a w hh=>AU hne (h a w hh)
theorem dD{γ:Type}{c:Code}(m:γ→Nat)(I:γ→Prop)(ch:γ→bO)(rest:bO)(M:γ→aD)(E:γ→List aC)(g₀:γ)(h₀:I g₀)(hch:AM σ (ch g₀))(hrest:AM σ rest)(hμ:(M g₀).Sublist μ)(hD:∀D∈E g₀,∃D'∈Ds,Le D D')
  (round:∀g,I g→WC P X (Exit.then (fun a w=>∃g',I g'∧m g'<m g∧Hl X (ch g'++rest) (M g') (E g') a w) Q) c (ch g++rest) (M g) (E g)):WC P X Q (.loop c) σ μ Ds:=
 aSW m I (fun g=>ch g++rest) M E g₀ h₀ (AM.app hch hrest) hμ hD round
theorem gX{γ:Type}{c:Code}(m:γ→Nat)(I:γ→Prop)(ch:γ→bO)(rest:bO)(E:γ→List aC)(g₀:γ)(h₀:I g₀)(hch:AM σ (ch g₀))(hrest:AM σ rest)(hD:∀D∈E g₀,∃D'∈Ds,Le D D')
  (round:∀g,I g→WC P X (Exit.then (fun a w=>∃g',I g'∧m g'<m g∧Hl X (ch g'++rest) ((fun _=>μ) g') (E g') a w) Q) c (ch g++rest) μ (E g)):WC P X Q (.loop c) σ μ Ds:=
 dD m I ch rest (fun _=>μ) E g₀ h₀ hch hrest Mm5 hD round
theorem _root_.Go.Fs.Zl(γ:Type){c:Code}(m:γ→Nat)(I:γ→Prop)(ch:γ→bO)(rest:bO)(E:γ→List aC)(g₀:γ)(hch:AM σ (ch g₀))(round:∀g,I g→WC P X (Exit.then (fun a w=>∃g',I g'∧m g'<m g∧Hl X (ch g'++rest) ((fun _=>μ) g') (E g') a w) Q) c (ch g++rest) μ (E g))(h₀:I g₀:=by exact Ye)(hrest:AM σ rest:=by exact cQ)(hD:∀D∈E g₀,∃D'∈Ds,Le D D':=by exact(aH)):WC P X Q (.loop c) σ μ Ds:=gX (γ:=γ) m I ch rest E g₀ h₀ hch hrest hD round
theorem aK{γ:Type}{m:γ→Nat}{I:γ→Prop}{ch:γ→bO}{rest:bO}{M:γ→aD}{E:γ→List aC}{g:γ}(n:Nat)(g':γ)(h1:I g')(h2:m g'<m g)(hch:AM σ (ch g'))(hn:I3 n σ=true)(hr:σ.drop n=rest)(hμ:(M g').Sublist μ)(hD:∀D∈E g',∃D'∈Ds,Le D D'):
  ∀a w,Hl X σ μ Ds a w→Exit.then (fun a w=>∃g',I g'∧m g'<m g∧Hl X (ch g'++rest) (M g') (E g') a w) Q .normal a w:=by
 intro a w hh;refine⟨g',h1,h2,?_⟩;have h3:=hh.weak (σ':=ch g') hch hμ hD;refine⟨h3.1,fun s v hs=>?_,h3.2.2⟩;rcases W5 hs with hs|hs
 ·exact h3.2.1 s v hs
 ·subst hr;exact hh.2.1 s v (zT n σ hn s v hs)
theorem aH{Ds:List aC}:∀D∈Ds,∃D'∈Ds,Le D D':=fun D h=>⟨D,h,Le.refl D⟩
section ops
variable{d:Nat}{x y z:Operand}{u v:Value}{ty:TypeId}{pos:String}{aft:Array Edge}{g:Option (Nat×Bool)}
theorem aJV(ho:all[ix]?= some ⟨some d,.move x,ty,pos,aft,g⟩)(hx:ev σ x=some v)(hN:Nat.blt d X.N=true)(hg:dE all σ g)(k:WL P X bad all K Q os ((d,v)::σ) μ Ds):WL P X bad all K Q ((fl,ix)::os) σ μ Ds:=
 bQ ho rfl rfl hN hg (fun ρ hρ w'=>by simp[execOp,hρ x v hx,Pure.pure]) k
theorem _root_.Go.Fs.Za(e9:(all[ix]?,ev σ x)=(some ⟨some d,.move x,ty,pos,aft,g⟩,some v))(k:WL P X bad all K Q os ((d,v)::σ) μ Ds)(hN:Nat.blt d X.N=true:=by exact rfl)(hg:dE all σ g:=by exact bDY):WL P X bad all K Q ((fl,ix)::os) σ μ Ds:=aJV (aYY (fun z=>z.1) e9) (aYY (fun z=>z.2) e9) hN hg k
theorem _root_.Go.Fs.Zb(e9:(all[ix]?,ev σ x)=(some ⟨some d,.move x,ty,pos,aft,g⟩,some v))(k:WL P X bad all K Q os ((d,v)::σ) μ Ds)(hN:Nat.blt d X.N=true:=by exact rfl)(hg:dE all σ g:=by exact⟨_,rfl,rfl⟩):WL P X bad all K Q ((fl,ix)::os) σ μ Ds:=aJV (aYY (fun z=>z.1) e9) (aYY (fun z=>z.2) e9) hN hg k
theorem aGY(ho:all[ix]?= some ⟨some d,.assign x,ty,pos,aft,g⟩)(hx:ev σ x=some v)(hN:Nat.blt d X.N=true)(hg:dE all σ g)(k:WL P X bad all K Q os ((d,v)::σ) μ Ds):WL P X bad all K Q ((fl,ix)::os) σ μ Ds:=
 bQ ho rfl rfl hN hg (fun ρ hρ w'=>by simp[execOp,hρ x v hx,Pure.pure]) k
theorem _root_.Go.Fs.Zg(e9:(all[ix]?,ev σ x)=(some ⟨some d,.assign x,ty,pos,aft,g⟩,some v))(k:WL P X bad all K Q os ((d,v)::σ) μ Ds)(hN:Nat.blt d X.N=true:=by exact rfl)(hg:dE all σ g:=by exact bDY):WL P X bad all K Q ((fl,ix)::os) σ μ Ds:=aGY (aYY (fun z=>z.1) e9) (aYY (fun z=>z.2) e9) hN hg k
theorem rQ(ho:all[ix]?= some ⟨some d,.pick x y z,ty,pos,aft,g⟩)(hx:ev σ x=some (.bool true))(hy:ev σ y=some v)(hN:Nat.blt d X.N=true)(hg:dE all σ g)(k:WL P X bad all K Q os ((d,v)::σ) μ Ds):WL P X bad all K Q ((fl,ix)::os) σ μ Ds:=
 bQ ho rfl rfl hN hg (fun ρ hρ w'=>by simp[execOp,hρ x _ hx,hρ y _ hy,asBool,go_sem]) k
theorem _root_.Go.Fs.Zad(e9:(all[ix]?,ev σ x,ev σ y)=(some ⟨some d,.pick x y z,ty,pos,aft,g⟩,some (.bool true),some v))(k:WL P X bad all K Q os ((d,v)::σ) μ Ds)(hN:Nat.blt d X.N=true:=by exact rfl)(hg:dE all σ g:=by exact bDY):WL P X bad all K Q ((fl,ix)::os) σ μ Ds:=rQ (aYY (fun z=>z.1) e9) (aYY (fun z=>z.2.1) e9) (aYY (fun z=>z.2.2) e9) hN hg k
theorem rP(ho:all[ix]?= some ⟨some d,.pick x y z,ty,pos,aft,g⟩)(hx:ev σ x=some (.bool false))(hy:ev σ z=some v)(hN:Nat.blt d X.N=true)(hg:dE all σ g)(k:WL P X bad all K Q os ((d,v)::σ) μ Ds):WL P X bad all K Q ((fl,ix)::os) σ μ Ds:=
 bQ ho rfl rfl hN hg (fun ρ hρ w'=>by simp[execOp,hρ x _ hx,hρ z _ hy,asBool,go_sem]) k
theorem _root_.Go.Fs.Zae(e9:(all[ix]?,ev σ x,ev σ z)=(some ⟨some d,.pick x y z,ty,pos,aft,g⟩,some (.bool false),some v))(k:WL P X bad all K Q os ((d,v)::σ) μ Ds)(hN:Nat.blt d X.N=true:=by exact rfl)(hg:dE all σ g:=by exact bDY):WL P X bad all K Q ((fl,ix)::os) σ μ Ds:=rP (aYY (fun z=>z.1) e9) (aYY (fun z=>z.2.1) e9) (aYY (fun z=>z.2.2) e9) hN hg k
theorem lJ{b:Bool}{t:TypeId}(ho:all[ix]?= some ⟨some d,.unOp .not t x,ty,pos,aft,g⟩)(hx:ev σ x=some (.bool b))(hN:Nat.blt d X.N=true)(hg:dE all σ g)(k:WL P X bad all K Q os ((d,.bool (!b))::σ) μ Ds):WL P X bad all K Q ((fl,ix)::os) σ μ Ds:=
 bQ ho rfl rfl hN hg (fun ρ hρ w'=>by simp[execOp,hρ x _ hx,Op.unary,go_sem]) k
theorem _root_.Go.Fs.Zal{b:Bool}{t:TypeId}(e9:(all[ix]?,ev σ x)=(some ⟨some d,.unOp .not t x,ty,pos,aft,g⟩,some (.bool b)))(k:WL P X bad all K Q os ((d,.bool (!b))::σ) μ Ds)(hN:Nat.blt d X.N=true:=by exact rfl)(hg:dE all σ g:=by exact bDY):WL P X bad all K Q ((fl,ix)::os) σ μ Ds:=lJ (aYY (fun z=>z.1) e9) (aYY (fun z=>z.2) e9) hN hg k
end ops
end Go.Fs
