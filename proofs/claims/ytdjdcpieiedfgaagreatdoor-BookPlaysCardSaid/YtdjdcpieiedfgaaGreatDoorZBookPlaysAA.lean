/- Of BookPlays. -/
import Derived.KernelRfl
import Derived.OrdersIn
import Derived.RangeFuncIn
import Derived.WalkKit
namespace Go
abbrev Γ:=Value
abbrev Δ:=World
abbrev Θ:=TypeId
abbrev Λ:=ByteArray
theorem Ξ:type_of% @Result.andThen_ok:=@Result.andThen_ok
theorem Ω:type_of% @Sem.run_bind:=@Sem.run_bind
theorem ε:type_of% @Sem.run_pure:=@Sem.run_pure
theorem n4 : type_of% @List.not_mem_nil := @List.not_mem_nil
theorem n5 : type_of% @List.append_nil := @List.append_nil
theorem GE : type_of% @List.length_append := @List.length_append
theorem GT : type_of% @List.mem_of_getElem? := @List.mem_of_getElem?
theorem LE : type_of% @List.mem_append_right := @List.mem_append_right
theorem LT : type_of% @decide_eq_true_eq := @decide_eq_true_eq
theorem bKW : type_of% @Bool.and_eq_true := @Bool.and_eq_true
theorem bKX : type_of% @List.mem_map := @List.mem_map
theorem bKY : type_of% @List.mem_cons_of_mem := @List.mem_cons_of_mem
theorem bKZ : type_of% @List.mem_cons_self := @List.mem_cons_self
theorem bLA : type_of% @List.take_add_one := @List.take_add_one
theorem bLB : type_of% @List.getElem?_eq_getElem := @List.getElem?_eq_getElem
theorem bLC : type_of% @decide_eq_false_iff_not := @decide_eq_false_iff_not
theorem bLD : type_of% @List.getElem?_eq_some_iff := @List.getElem?_eq_some_iff
theorem bLE : type_of% @congrArg := @congrArg
theorem bLF : type_of% @List.length_cons := @List.length_cons
theorem bLG : type_of% @Or.inr := @Or.inr
theorem bLH : type_of% @List.mem_append_left := @List.mem_append_left
theorem bLI : type_of% @if_neg := @if_neg
theorem bLJ : type_of% @List.nodup_append := @List.nodup_append
theorem bLK : type_of% @List.append_assoc := @List.append_assoc
theorem bLL : type_of% @Or.inl := @Or.inl
theorem bLM : type_of% @List.mem_append := @List.mem_append
theorem bLN : type_of% @List.flatMap_append := @List.flatMap_append
theorem bLO : type_of% @List.map_append := @List.map_append
theorem bLP : type_of% @List.Mem.tail := @List.Mem.tail
theorem bLQ : type_of% @Nat.le_refl := @Nat.le_refl
theorem bLR : type_of% @if_pos := @if_pos
theorem bLS : type_of% @List.mem_singleton := @List.mem_singleton
theorem bLT : type_of% @Option.toList_some := @Option.toList_some
theorem bLU : type_of% @List.take_length := @List.take_length
theorem bLV : type_of% @of_decide_eq_false := @of_decide_eq_false
theorem bLW : type_of% @of_decide_eq_true := @of_decide_eq_true
theorem bLX : type_of% @List.all_eq_true := @List.all_eq_true
theorem bLY : type_of% @Option.some.inj := @Option.some.inj
theorem bLZ : type_of% @List.take_of_length_le := @List.take_of_length_le
theorem bMA : type_of% @List.flatMap_cons := @List.flatMap_cons
theorem bMB : type_of% @List.Sublist.cons := @List.Sublist.cons
theorem bMC : type_of% @List.flatMap_singleton := @List.flatMap_singleton
theorem bMD : type_of% @List.map_cons := @List.map_cons
theorem bME : type_of% @List.foldl_cons := @List.foldl_cons
theorem bMF : type_of% @Bool.or_eq_true := @Bool.or_eq_true
theorem bMG : type_of% @Bool.or_eq_false_iff := @Bool.or_eq_false_iff
theorem bMH : type_of% @List.nil_append := @List.nil_append
theorem bMI : type_of% @List.getElem?_map := @List.getElem?_map
theorem bMJ : type_of% @List.filter_append := @List.filter_append
theorem bMK : type_of% @List.length_map := @List.length_map
theorem bML : type_of% @List.size_toArray := @List.size_toArray
theorem bMM : type_of% @List.drop_eq_getElem_cons := @List.drop_eq_getElem_cons
theorem bMN : type_of% @List.range_succ := @List.range_succ
theorem bMO : type_of% @List.length_filter_le := @List.length_filter_le
theorem bMP : type_of% @List.take_append_of_le_length := @List.take_append_of_le_length
theorem bMQ : type_of% @List.drop_eq_nil_of_le := @List.drop_eq_nil_of_le
theorem bMR : type_of% @Int.toNat_natCast := @Int.toNat_natCast
theorem bMS : type_of% @Option.map_some := @Option.map_some
theorem bMT : type_of% @List.foldl_append := @List.foldl_append
theorem bMU : type_of% @Bool.false_eq_true := @Bool.false_eq_true
theorem bMV : type_of% @List.length_take := @List.length_take
theorem bMW : type_of% @Nat.eq_of_beq_eq_true := @Nat.eq_of_beq_eq_true
theorem bMX : type_of% @List.nodup_cons := @List.nodup_cons
theorem bMY : type_of% @Nat.pow_le_pow_right := @Nat.pow_le_pow_right
theorem bMZ : type_of% @List.mem_range := @List.mem_range
theorem bNB : type_of% @List.length_set := @List.length_set
theorem bNC : type_of% @Array.getD_eq_getD_getElem? := @Array.getD_eq_getD_getElem?
theorem bND : type_of% @or_false := @or_false
theorem bNE : type_of% @List.length_nil := @List.length_nil
theorem bNF : type_of% @List.length_eraseIdx_of_lt := @List.length_eraseIdx_of_lt
theorem bNG : type_of% @List.getD_eq_getElem?_getD := @List.getD_eq_getElem?_getD
theorem bNH : type_of% @List.nodup_nil := @List.nodup_nil
theorem bNI : type_of% @List.cons.injEq := @List.cons.injEq
theorem bNJ : type_of% @Nat.le_of_ble_eq_true := @Nat.le_of_ble_eq_true
theorem bNK : type_of% @Nat.le_trans := @Nat.le_trans
theorem bNL : type_of% @Nat.mul_one := @Nat.mul_one
theorem bNM : type_of% @if_true := @if_true
theorem bNN : type_of% @List.filter_cons := @List.filter_cons
theorem bNO : type_of% @List.cons_append := @List.cons_append
theorem bNP : type_of% @List.getElem?_append_left := @List.getElem?_append_left
theorem bNQ : type_of% @Option.map_none := @Option.map_none
theorem bNR : type_of% @Nat.lt_of_lt_of_le := @Nat.lt_of_lt_of_le
theorem bNS : type_of% @List.getElem?_drop := @List.getElem?_drop
theorem bNT : type_of% @Array.getElem?_append_left := @Array.getElem?_append_left
theorem bNU : type_of% @if_false := @if_false
theorem bNV : type_of% @Nat.add_mul := @Nat.add_mul
theorem bNW : type_of% @List.length_singleton := @List.length_singleton
theorem bNX : type_of% @List.getElem?_eq_none := @List.getElem?_eq_none
theorem bNY : type_of% @Bool.not_eq_true' := @Bool.not_eq_true'
theorem bNZ : type_of% @Array.getElem?_setIfInBounds_ne := @Array.getElem?_setIfInBounds_ne
theorem bOA : type_of% @Nat.min_eq_left := @Nat.min_eq_left
theorem bOB : type_of% @List.length_take_le := @List.length_take_le
theorem bOC : type_of% @Bool.eq_iff_iff := @Bool.eq_iff_iff
theorem bOD : type_of% @List.getElem?_take_of_lt := @List.getElem?_take_of_lt
theorem bOE : type_of% @Array.getElem?_eq_some_iff := @Array.getElem?_eq_some_iff
theorem bOF : type_of% @List.eq_nil_of_length_eq_zero := @List.eq_nil_of_length_eq_zero
theorem bOG : type_of% @Option.map_eq_some_iff := @Option.map_eq_some_iff
theorem bOH : type_of% @Nat.zero_add := @Nat.zero_add
theorem bOI : type_of% @List.length_drop := @List.length_drop
theorem bOJ : type_of% @List.take_append_drop := @List.take_append_drop
theorem bOK : type_of% @List.length_pos_iff := @List.length_pos_iff
theorem bOL : type_of% @List.length_eq_zero_iff := @List.length_eq_zero_iff
theorem bOM : type_of% @decide_eq_false := @decide_eq_false
theorem bON : type_of% @List.mem_filter := @List.mem_filter
theorem bOO : type_of% @List.getLast?_eq_some_getLast := @List.getLast?_eq_some_getLast
theorem bOP : type_of% @List.any_append := @List.any_append
theorem bOQ : type_of% @Option.getD_some := @Option.getD_some
theorem bOR : type_of% @List.mapM_cons := @List.mapM_cons
theorem bOS : type_of% @List.zip_cons_cons := @List.zip_cons_cons
theorem bOT : type_of% @List.map_singleton := @List.map_singleton
theorem bOU : type_of% @Prod.mk.injEq := @Prod.mk.injEq
theorem bOV : type_of% @List.mem_flatMap := @List.mem_flatMap
theorem bOW : type_of% @List.singleton_append := @List.singleton_append
theorem bOX : type_of% @List.mem_iff_getElem? := @List.mem_iff_getElem?
theorem bOY : type_of% @List.drop_zero := @List.drop_zero
theorem bOZ : type_of% @List.all_cons := @List.all_cons
theorem bPA : type_of% @Bool.not_eq_false' := @Bool.not_eq_false'
theorem bPB : type_of% @Nat.sub_zero := @Nat.sub_zero
theorem bPC : type_of% @List.getElem?_append_right := @List.getElem?_append_right
theorem bPD : type_of% @List.length_range := @List.length_range
theorem bPE : type_of% @Bool.true_and := @Bool.true_and
theorem bPF : type_of% @Array.getElem?_eq_getElem := @Array.getElem?_eq_getElem
theorem bPG : type_of% @Nat.zero_mul := @Nat.zero_mul
theorem bPH : type_of% @List.drop_append := @List.drop_append
theorem bPI : type_of% @List.any_eq_true := @List.any_eq_true
theorem bPJ : type_of% @Nat.mul_le_mul_right := @Nat.mul_le_mul_right
theorem bPK : type_of% @List.map_nil := @List.map_nil
theorem bPL : type_of% @Option.some.injEq := @Option.some.injEq
theorem bPM : type_of% @Nat.not_lt_zero := @Nat.not_lt_zero
theorem bPN : type_of% @List.getElem?_range := @List.getElem?_range
theorem bPO : type_of% @List.drop_length_add_append := @List.drop_length_add_append
theorem bPP : type_of% @List.map_map := @List.map_map
theorem bPQ : type_of% @Int.natCast_nonneg := @Int.natCast_nonneg
theorem bPR : type_of% @Bool.and_eq_false_iff := @Bool.and_eq_false_iff
theorem bPS : type_of% @Nat.mul_le_mul := @Nat.mul_le_mul
theorem bPT : type_of% @List.contains_eq_mem := @List.contains_eq_mem
theorem bPU : type_of% @not_false_eq_true := @not_false_eq_true
theorem bPV : type_of% @List.Mem.head := @List.Mem.head
theorem bPW : type_of% @Array.toList_map := @Array.toList_map
theorem bPX : type_of% @beq_iff_eq := @beq_iff_eq
theorem bPY : type_of% @List.take_left := @List.take_left
theorem bPZ : type_of% @and_self := @and_self
theorem bQA : type_of% @Nat.zero_le := @Nat.zero_le
theorem bQB : type_of% @List.nil_prefix := @List.nil_prefix
theorem bQC : type_of% @List.all_eq_false := @List.all_eq_false
theorem bQD : type_of% @List.Sublist.refl := @List.Sublist.refl
theorem bQE : type_of% @not_or := @not_or
theorem bQF : type_of% @List.mem_of_mem_take := @List.mem_of_mem_take
theorem bQG : type_of% @List.getElem?_zip_eq_some := @List.getElem?_zip_eq_some
theorem bQH : type_of% @Int.mul_nonneg := @Int.mul_nonneg
theorem bQI : type_of% @List.drop_length := @List.drop_length
theorem bQJ : type_of% @List.map_congr_left := @List.map_congr_left
theorem bNA : type_of% @List.mem_cons := @List.mem_cons
theorem bQK : type_of% @trivial := @trivial
theorem Mm0{α:Type}{a:α}{l:List α}:a∈a::l:=bPV _
theorem Mm1{α:Type}{a b:α}{l:List α}:a∈b::a::l:=bLP _ (bPV _)
theorem Mm2{α:Type}{a b c:α}{l:List α}:a∈b::c::a::l:=bLP _ (bLP _ (bPV _))
theorem Mm3{α:Type}{a b c d:α}{l:List α}:a∈b::c::d::a::l:=bLP _ (bLP _ (bLP _ (bPV _)))
theorem Mm5{α:Type}{l:List α}:l.Sublist l:=bQD _
theorem Ya{p:Prop}(h:p:=by first|rfl|(show some (Value.int _ _)=some (Value.int _ _);congr 2;omega)):p:=h
theorem Yb{p:Prop}(h:p:=by first|rfl|(simp only[aN, *];done)|(simp only[aN, *];rfl)|(simp only[aN, *];omega)):p:=h
theorem Yc{p:Prop}(h:p:=by first|simp|assumption):p:=h
theorem Yd{p:Prop}(h:p:=by omega):p:=h
theorem Ye{p:Prop}(h:p:=by simp):p:=h
theorem Yf{p:Prop}(h:p:=by simp only[wD];omega):p:=h
theorem Yg{p:Prop}(h:p:=by kernel_rfl):p:=h
theorem Yh{p:Prop}(h:p:=by first|exact dI _|simp[cell1]):p:=h
theorem Yi{p:Prop}(h:p:=by exact fun p hp=>by cases hp):p:=h
theorem Yj{p:Prop}(h:p:=by exact oM fun _=>by simp only[List.count_append,List.count_cons,List.count_nil,cZ];omega):p:=h
theorem Yk{p:Prop}(h:p:=by simp[cell1]):p:=h
theorem Yl{p:Prop}(h:p:=by simp only;omega):p:=h
theorem Ym{p:Prop}(h:p:=by first|assumption|simp):p:=h
theorem Yn{p:Prop}(h:p:=by assumption):p:=h
theorem Yo{p:Prop}(h:p:=by first|exact Or.inl rfl|exact Or.inr fun p hp=>dN.in_ (hnu p hp)):p:=h
theorem Yp{p:Prop}(h:p:=by exact fun D0 h=>by simp only[bNA,n4,bND]at h;rcases h with rfl|rfl|rfl|rfl<;>exact⟨_,by simp,Le.refl _⟩):p:=h
theorem Yq{p:Prop}(h:p:=by first|exact Or.inl rfl|exact Or.inr fun p hp=>dN.in_ (hnu p (by simp[hp]))):p:=h
theorem Yr{p:Prop}(h:p:=by first|omega|(simp only[ByteArray.size_append,GY,H9,bML,bLF,bNE];omega)):p:=h
theorem Ys{p:Prop}(h:p:=by rw[←hHas.keys];exact bKX.2 ⟨p,hp,rfl⟩):p:=h
theorem Yt{p:Prop}(h:p:=by decide):p:=h
theorem Yu{p:Prop}(h:p:=by exact oM fun _=>by simp only[List.count_append,List.count_cons,List.count_nil,cZ,ES];omega):p:=h
theorem Yw{p:Prop}(h:p:=by exact fun D0 h=>by simp only[bNA,n4,bND]at h;rcases h with h|h|h|h;exact⟨Dn,by simp,h▸Le.refl _⟩;exact⟨Do,by simp,h▸Le.refl _⟩;exact⟨E1,by simp,h▸Le.refl _⟩;exact⟨D,by simp,h▸Le.refl _⟩):p:=h
theorem Yx{p:Prop}(h:p:=by exact oM fun _=>by simp only[List.count_append,List.count_cons,List.count_nil,cZ,HD];omega):p:=h
theorem Yy{p:Prop}(h:p:=by exact fun D0 h=>by simp only[bNA,n4,bND]at h;rcases h with h|h;exact⟨D10,by simp,h▸Le.refl _⟩;exact⟨D,by simp,h▸Le.refl _⟩):p:=h
theorem Yz{p:Prop}(h:p:=by rw[bLS];rintro rfl;exact hap (bKX.2 ⟨_,bLP _ Mm0,rfl⟩)):p:=h
theorem Yaa{p:Prop}(h:p:=by first|omega|(simp only[bNB];omega)):p:=h
theorem Yab{p:Prop}(h:p:=by first|exact kA|(simp only[aN, *];exact kA)):p:=h
theorem Yac{p:Prop}(h:p:=by first|exact eF|(simp only[aN, *];exact eF)):p:=h
theorem Yad{p:Prop}(h:p:=by first|exact nT|(simp only[aN, *];exact nT)):p:=h
theorem Yae{p:Prop}(h:p:=by rw[GE,hl1,←bNV];exact bNK (bPJ _ Yd) (Nat.le_add_right _ _)):p:=h
theorem Yaf{p:Prop}(h:p:=by exact fun D0 h=>by simp only[bNA,n4,bND]at h;rcases h with h|h|h;exact⟨Dn,by simp,h▸Le.refl _⟩;exact⟨E1,by simp,h▸Le.refl _⟩;exact⟨D,by simp,h▸Le.refl _⟩):p:=h
theorem Yag{p:Prop}(h:p:=by exact oM fun _=>by simp only[List.count_append,List.count_cons,List.count_nil,cZ,GV];omega):p:=h
theorem Yah{p:Prop}(h:p:=by exact oM fun _=>by simp only[List.count_append,List.count_cons,List.count_nil,cZ,HH];omega):p:=h
theorem Yai{p:Prop}(h:p:=by first|omega|(simp only;omega)):p:=h
theorem Yaj{p:Prop}(h:p:=by first|exact K5 h4 h5|(rw[List.getElem?_set_ne Yd,List.getElem?_set_ne Yd];exact K5 h4 h5)|(rw[List.getElem?_set_ne Yd,List.getElem?_set_ne Yd,List.getElem?_set_ne Yd];exact K5 h4 h5)):p:=h
theorem Yak{p:Prop}(h:p:=by rwa [bLZ Yd]at h2):p:=h
theorem Yal{p:Prop}(h:p:=by exact fun D0 h=>by simp only[bNA,n4,bND]at h;rcases h with rfl|rfl<;>exact⟨_,by simp,Le.refl _⟩):p:=h
theorem Yam{p:Prop}(h:p:=by unfold oH;simp only[];repeat (first|rw[bLR Yd]|rw[bLI Yd])):p:=h
theorem Yan{p:Prop}(h:p:=by unfold oF;simp only[];repeat (first|rw[bLR Yd]|rw[bLI Yd])):p:=h
theorem Yao{p:Prop}(h:p:=by decide+kernel):p:=h
theorem Yap{p:Prop}(h:p:=by first|rfl|(simp only[*];done)|(simp only[aN, *];rfl)|(simp only[aN, *];omega)):p:=h
theorem Yaq{p:Prop}(h:p:=by simp;omega):p:=h
theorem Yar{p:Prop}(h:p:=by rw[bLS];rintro rfl;exact hap (bKX.2 ⟨p,bLH _ hp,rfl⟩)):p:=h
theorem Yas{p:Prop}(h:p:=by rw[aS (n:=3) fun _=>rfl,bMV,bOA Yd]):p:=h
theorem Yat{p:Prop}(h:p:=by first|exact Or.inl rfl|exact Or.inr Yi):p:=h
theorem Yau{p:Prop}(h:p:=by simpa using hi):p:=h
theorem Yav{p:Prop}(h:p:=by simpa using hc2):p:=h
theorem Yaw{p:Prop}(h:p:=by first|assumption|exact bKY _ hDr):p:=h
theorem Yax{p:Prop}(h:p:=by simpa using h):p:=h
theorem Yay{p:Prop}(h:p:=by simpa using hl):p:=h
theorem Yaz{p:Prop}(h:p:=by rw[←hm.keys];exact bKX.2 ⟨p,hp,rfl⟩):p:=h
theorem Ya0{p:Prop}(h:p:=by rw[bMR];exact aEV hb):p:=h
theorem Ya1{p:Prop}(h:p:=by unfold sK;simp only[];repeat (first|rw[bLR Yd]|rw[bLI Yd])):p:=h
theorem Ya2{p:Prop}(h:p:=by unfold xP;simp only[];repeat (first|rw[bLR Yd]|rw[bLI Yd])):p:=h
theorem Ya3{p:Prop}(h:p:=by unfold xR;simp only[];repeat (first|rw[bLR Yd]|rw[bLI Yd])):p:=h
theorem Ya4{p:Prop}(h:p:=by unfold xI;simp only[];repeat (first|rw[bLR Yd]|rw[bLI Yd])):p:=h
theorem Ya5{p:Prop}(h:p:=by unfold R3;simp only[];repeat (first|rw[bLR Yd]|rw[bLI Yd])):p:=h
theorem Ya6{p:Prop}(h:p:=by unfold S6;simp only[];repeat (first|rw[bLR Yd]|rw[bLI Yd])):p:=h
theorem Ya7{p:Prop}(h:p:=by unfold yT;simp only[];repeat (first|rw[bLR Yd]|rw[bLI Yd])):p:=h
theorem Ya8{p:Prop}(h:p:=by rw[bMH]):p:=h
theorem Ya9{p:Prop}(h:p:=by have:=hin.2;omega):p:=h
theorem Yba{p:Prop}(h:p:=by rw[bMV,bOI];omega):p:=h
theorem Ybb{p:Prop}(h:p:=by cases k<;>simp[binOp,Op.intCmp,Pure.pure]):p:=h
theorem Ybc{p:Prop}(h:p:=by rfl):p:=h
theorem Ybd{p:Prop}(h:p:=by first|exact Or.inl rfl|exact Or.inr hbx):p:=h
theorem Ybe{p:Prop}(h:p:=by first|exact Or.inl rfl|exact Or.inr Ye):p:=h
theorem Ybf{p:Prop}(h:p:=by cases k<;>simp[binOp,Op.intArith,sP hr,Pure.pure]):p:=h
theorem Ybg{p:Prop}(h:p:=by cases b2<;>simp at hJ2;exact bLG hJ2;exact bLL hJ2):p:=h
theorem Ybh{p:Prop}(h:p:=by simp only[ByteArray.size_append,GY,H9,bML,bLF,bNE];omega):p:=h
theorem Xaa{p:Prop}(h:p:=by cases h):p:=h
theorem Xab{p:Prop}(h:p:=by simp[FW]at h):p:=h
theorem Xac{p:Prop}(h:p:=by simpa using bD.nil):p:=h
theorem Xad{p:Prop}(h:p:=by simp at h):p:=h
theorem Xae{p:Prop}(h:p:=by simpa using h1):p:=h
theorem Xaf{p:Prop}(h:p:=by rw[h];simp):p:=h
theorem Xag{p:Prop}(h:p:=by simp[hm]):p:=h
theorem Xah{p:Prop}(h:p:=by show Value.int _ _=_;rw[iE Yak]):p:=h
theorem Xai{p:Prop}(h:p:=by show Value.bool (decide _)=_;rw[lP]):p:=h
theorem Xaj{p:Prop}(h:p:=by simpa [ints]using bD.nil):p:=h
theorem Xak{p:Prop}(h:p:=by rw[e];rfl):p:=h
theorem Xal{p:Prop}(h:p:=by first|exact eF|(simp only[*];exact eF)):p:=h
theorem Xam{p:Prop}(h:p:=by show Value.int _ _=_;rw[lH hx h2 hc2]):p:=h
theorem Xan{p:Prop}(h:p:=by show Value.bool (!_)=_;rw[pB]):p:=h
theorem Xao{p:Prop}(h:p:=by simpa using h2):p:=h
theorem Xap{p:Prop}(h:p:=by first|exact cY|(simp only[bML,aN, *];exact cY)):p:=h
theorem Xaq{p:Prop}(h:p:=by first|exact eC|(simp only[bML,aN, *];exact eC)):p:=h
theorem Xar{p:Prop}(h:p:=by simpa using hc3):p:=h
theorem Xas{p:Prop}(h:p:=by simpa using hs9):p:=h
theorem Xat{p:Prop}(h:p:=by simpa using hf50):p:=h
theorem Xau{p:Prop}(h:p:=by first|exact fD|(simp only[aN, *];exact fD)):p:=h
theorem Xav{p:Prop}(h:p:=by simpa using hx):p:=h
theorem Xaw{p:Prop}(h:p:=by rw[h1.size];exact hil):p:=h
theorem Xax{p:Prop}(h:p:=by rw[hs.dold _ hl];exact h2):p:=h
theorem Xay{p:Prop}(h:p:=by rw[hw'.1];simp):p:=h
theorem Xaz{p:Prop}(h:p:=by simpa using hk):p:=h
theorem Xba{p:Prop}(h:p:=by unfold Q6;rw[hex];trivial):p:=h
theorem Xbb{p:Prop}(h:p:=by have:=hok.len9;omega):p:=h
theorem Xbc{p:Prop}(h:p:=by simpa using dI _):p:=h
theorem Xbd{p:Prop}(h:p:=by simpa using hc1):p:=h
theorem Xbe{p:Prop}(h:p:=by simpa using hp5.1):p:=h
theorem Xbf{p:Prop}(h:p:=by simpa using hf52):p:=h
theorem Xbg{p:Prop}(h:p:=by simp only[bNA,n4,bND]at hp;rcases hp with rfl|rfl<;>rfl):p:=h
theorem Xbh{p:Prop}(h:p:=by rcases bNA.1 hp with rfl|hp;exact Or.inr (bLQ _);exact Or.inl (bKX.2 ⟨p,hp,rfl⟩)):p:=h
theorem Xbi{p:Prop}(h:p:=by rw[h0]at hb;exact absurd hb (bPM _)):p:=h
theorem Xbj{p:Prop}(h:p:=by rw[hs.old _ hl hne];exact h1):p:=h
theorem Xbk{p:Prop}(h:p:=by show Value.int _ _=_;rw[L1.lH hx h2 hc2]):p:=h
theorem Xbl{p:Prop}(h:p:=by show Value.int _ _=_;rw[L1.iE Yak]):p:=h
theorem Xbm{p:Prop}(h:p:=by show Value.bool (decide _)=_;rw[L1.lP]):p:=h
theorem Xbn{p:Prop}(h:p:=by simp only[bLS]at h;subst h;simp):p:=h
theorem Xbo{p:Prop}(h:p:=by first|exact jU|(simp only[bML,aN, *];exact jU)):p:=h
theorem Xbp{p:Prop}(h:p:=by first|exact cJ|(simp only[bML,aN, *];exact cJ)):p:=h
theorem Xbq{p:Prop}(h:p:=by show Value.bool (!_)=_;rw[L1.pB]):p:=h
theorem Xbr{p:Prop}(h:p:=by show Value.tuple _=_;rw[bLR he0,he0];rfl):p:=h
theorem Xbs{p:Prop}(h:p:=by rw[show(ints _).length=10 by simp[hs10]];exact eB):p:=h
theorem Xbt{p:Prop}(h:p:=by rw[show(ints _).toArray.size=10 by simp[hs10]];exact eB):p:=h
theorem Xbu{p:Prop}(h:p:=by unfold xH;simp only[];repeat (first|rw[bLR Yd]|rw[bLI Yd])):p:=h
theorem Xbv{p:Prop}(h:p:=by unfold xM;simp only[];repeat (first|rw[bLR Yd]|rw[bLI Yd])):p:=h
theorem Xbw{p:Prop}(h:p:=by unfold IA;simp only[];repeat (first|rw[bLR Yd]|rw[bLI Yd])):p:=h
theorem Xbx{p:Prop}(h:p:=by unfold R6;simp only[];repeat (first|rw[bLR Yd]|rw[bLI Yd])):p:=h
theorem Xby{p:Prop}(h:p:=by unfold HX;simp only[];repeat (first|rw[bLR Yd]|rw[bLI Yd])):p:=h
theorem Xbz{p:Prop}(h:p:=by simp[nK,V5]<;>omega):p:=h
theorem Xca{p:Prop}(h:p:=by simp[cell1];exact ha.cell1 _ Ye):p:=h
theorem Xcb{p:Prop}(h:p:=by rw[←Act.put_comm a v u h2];exact he.2):p:=h
theorem Xcc{p:Prop}(h:p:=by unfold Q6;show(match X.ex with|none=>True|some J=>_);rw[hex];trivial):p:=h
theorem Xcd{p:Prop}(h:p:=by simp only[bLS]at h1;subst h1;exact Le.refl _):p:=h
theorem Xce{p:Prop}(h:p:=by show oC bd::X.ds=_;rw[hds]):p:=h
theorem Xcf{p:Prop}(h:p:=by show Value.int _ _=_;rw[bLZ Yd]):p:=h
theorem Xcg{p:Prop}(h:p:=by first|exact uA|(simp only[aN, *];exact uA)):p:=h
theorem Xch{p:Prop}(h:p:=by rw[mQ];split<;>simp only[wD]<;>omega):p:=h
theorem Xci{p:Prop}(h:p:=by first|exact kA|(simp only[*];exact kA)):p:=h
theorem Xcj{p:Prop}(h:p:=by show Value.tuple _=_;rw[bLI hc1];rfl):p:=h
theorem Xck{p:Prop}(h:p:=by show Value.bool _=_;rw[bOY,K0]):p:=h
theorem Xcl{p:Prop}(h:p:=by rw[show(ints (T0 (dO y (V4 x)))).length=9 by simpa using hs9];exact iJ):p:=h
theorem Xcm{p:Prop}(h:p:=by unfold oQ;simp only[];repeat (first|rw[bLR Yd]|rw[bLI Yd])):p:=h
theorem Xcn{p:Prop}(h:p:=by unfold sG;simp only[];repeat (first|rw[bLR Yd]|rw[bLI Yd])):p:=h
theorem Xco{p:Prop}(h:p:=by unfold sM;simp only[];repeat (first|rw[bLR Yd]|rw[bLI Yd])):p:=h
theorem Xcp{p:Prop}(h:p:=by unfold oP;simp only[];repeat (first|rw[bLR Yd]|rw[bLI Yd])):p:=h
theorem Xcq{p:Prop}(h:p:=by first|omega|(simp only[];omega)):p:=h
theorem Xcr{p:Prop}(h:p:=by cases k<;>(simp[binOp,Op.intCmp,Pure.pure];by_cases h:m=n<;>simp[h])):p:=h
theorem Xcs{p:Prop}(h:p:=by simp only[show(0:Nat)≠w.heap.size by have:=h.agr.pos;omega,bNU]):p:=h
theorem Xct{p:Prop}(h:p:=by rcases bLM.1 hp with hp|hp;exact bLH _ (bLH _ hp);exact LE _ hp):p:=h
theorem Xcu{p:Prop}(h:p:=by simp only[execOp,hρ x _ hx,hρ y _ hy];rw[Ω,hr w'];rfl):p:=h
theorem Xcv{p:Prop}(h:p:=by unfold jC;rw[bLI (fun e=>hM p hp (by rw[e];exact hbo))];exact p2):p:=h
theorem Xcw{p:Prop}(h:p:=by show Value.bool (decide (n≥lo)&&decide (n≤hi))=_;rfl):p:=h
theorem Xcx{p:Prop}(h:p:=by obtain⟨p,hp,rfl⟩:=bKX.1 hbm;exact bR (hb p hp).1):p:=h
theorem Xcy{p:Prop}(h:p:=by simpa using JL (f:=cL) (n:=3) (k:=2) (fun _=>rfl) hx Yd rfl):p:=h
theorem Xcz{p:Prop}(h:p:=by simp only[bNA,n4,bND]at hD ⊢;rcases hD with rfl|rfl|rfl|rfl<;>simp):p:=h
theorem Xda{p:Prop}(h:p:=by rw[hp];exact⟨pv,cv,hv,lv,mv,bl,bc,yc,yq,rfl,hL.up (hD _ Ye)⟩):p:=h
theorem Xdb{p:Prop}(h:p:=by show some (Value.int _ _)=some (Value.int _ _);congr 2;simp only;omega):p:=h
theorem Xdc{p:Prop}(h:p:=by rw[bLS];rintro rfl;exact hap (bKX.2 ⟨_,Mm1,rfl⟩)):p:=h
theorem Xdd{p:Prop}(h:p:=by rw[bLS];rintro rfl;exact hap (bKX.2 ⟨_,Mm0,rfl⟩)):p:=h
theorem Xde{p:Prop}(h:p:=by show Value.bool _=_;rw[OZ hp hq2 hx1 hx2,VB hpb hqb]):p:=h
structure τ(q:Prop):Prop where
 o:q
variable{p q:Prop}
theorem Wa(k:q)(h:τ q→p:=by intro zz;refine Za6<|Za1<|aP<|Za rfl<|Zah rfl<|Zk rfl<|Zap zz.o):p:=h ⟨k⟩
theorem Wb(k:q)(h:τ q→p:=by intro zz;refine Zh rfl<|Zh rfl<|Zh rfl<|Zal rfl zz.o):p:=h ⟨k⟩
theorem Wc(k:q)(h:τ q→p:=by intro zz;refine Zh rfl<|Zh rfl<|Zh rfl<|Zh rfl<|Zak rfl zz.o):p:=h ⟨k⟩
theorem Wd(k:q)(h:τ q→p:=by intro zz;refine Za6<|Za1<|aP<|Zah rfl<|Za rfl<|Zap zz.o):p:=h ⟨k⟩
theorem We(k:q)(h:τ q→p:=by intro zz;refine Zk rfl<|aG zz.o):p:=h ⟨k⟩
theorem Wf(k:q)(h:τ q→p:=by intro zz;refine Za rfl<|aF<|Za3<|Zn Nat (fun k=>xs.length-k) (fun k=>k≤xs.length∧(xs.take k).any p=false) (fun k=>[(8,qI k)]) [(7,_),(4,_),(0,_),(1,_)] (fun k=>[D]) 0 ⟨Ya,bQK⟩ zz.o):p:=h ⟨k⟩
theorem Wg(k:q)(h:τ q→p:=by intro zz;refine Zk rfl<|aG<|Za7<|Za2<|Za2<|Za7<|Za2 zz.o):p:=h ⟨k⟩
theorem Wh(k:q)(h:τ q→p:=by intro zz;refine aA<|Zk rfl<|aG<|Za2<|Za7<|Za2 zz.o):p:=h ⟨k⟩
theorem Wi(k:q)(h:τ q→p:=by intro zz;refine Zk rfl<|aG<|Za2 zz.o):p:=h ⟨k⟩
theorem Wj(k:q)(h:τ q→p:=by intro zz;refine Za8<|Za4<|Za4<|Za9<|Za1<|aA<|We zz.o):p:=h ⟨k⟩
theorem Wk(k:q)(h:τ q→p:=by intro zz;refine iD rfl rfl rfl rfl ⟨_,rfl,rfl⟩<|Zak rfl zz.o):p:=h ⟨k⟩
theorem Wl(k:q)(h:τ q→p:=by intro zz;refine aA<|Zk rfl<|aG<|Za7<|Za2 zz.o):p:=h ⟨k⟩
theorem Wm(k:q)(h:τ q→p:=by intro zz;refine Zac ((q5,_)::(q4,qC [u] 25)::(q3,qC [v] 170)::(wb,qC [cv,qI y.fit,qv,.map (some mb)] 299)::(mb,.map U V)::(ν1x++(ω1x++[(l,_),(bd,_)]))) ((bLK _ _ _).trans (bLK _ _ _))<|bP rfl rfl rfl ha1x.cells1 a7 (.tail (.tail .head)) Ye rfl ha1x.cell1 bQK<|bP rfl rfl rfl ha2x.cells1 fR (.tail .head) Ye rfl ha2x.cell1 bQK zz.o):p:=h ⟨k⟩
theorem Wn(k:q)(h:τ q→p:=by intro zz;refine Za8<|Za4<|Za4<|Za9<|Za1<|aA<|Za rfl<|We zz.o):p:=h ⟨k⟩
theorem Wo(k:q)(h:τ q→p:=by intro zz;refine sU rfl rfl rfl rfl ⟨_,rfl,rfl⟩<|Zal rfl zz.o):p:=h ⟨k⟩
theorem Wp(k:q)(h:τ q→p:=by intro zz;refine Zh rfl<|Zh rfl<|Wb zz.o):p:=h ⟨k⟩
theorem Wq(k:q)(h:τ q→p:=by intro zz;refine aP<|Zk rfl<|aF<|Za3<|Zc (Nat×Γ×aD) (fun g=>t.marks.length-g.1) (fun g=>g.1≤t.marks.length∧bD 204 4 g.2.1 g.1 ((t.marks.take g.1).flatMap cM) g.2.2) (fun g=>[(5,qI (g.1:Int))]) [(3,_),(2,_),(1,_)] (fun g=>(q3,.cells [qI t.last,w1,qI t.step,.slice va t.levels.length vc,g.2.1].toArray 32 (0,0))::(q2,.cells [qI 0,qN,qI 0,qN,qN].toArray 32 (0,0))::(g.2.2++[])) (fun g=>[D8,D1,E1,D]) (0,qN,[]) ⟨Ye,Xac⟩ ⟨Ya,bQK⟩ Mm5 zz.o):p:=h ⟨k⟩
theorem Wr(k:q)(h:τ q→p:=by intro zz;refine aF<|Za3<|Zc (Nat×Γ×aD) (fun g=>b.counts.length-g.1) (fun g=>g.1≤b.counts.length∧bD 208 3 g.2.1 g.1 ((b.counts.take g.1).flatMap aHO) g.2.2) (fun g=>[(4,qI (g.1:Int))]) [(3,_),(2,_),(1,_)] (fun g=>(q3,.cells [qI b.chairs,qI b.coin,qI b.box,.slice va b.lines.length vc,g.2.1].toArray 36 (0,0))::(q2,.cells [qI 0,qI 0,qI 0,qN,qN].toArray 36 (0,0))::(g.2.2++[])) (fun g=>[D1,E1,D]) (0,qN,[]) ⟨Ye,Xac⟩ ⟨Ya,bQK⟩ Mm5 zz.o):p:=h ⟨k⟩
theorem Ws(k:q)(h:τ q→p:=by intro zz;refine aF<|Za3<|Zc (Nat×Γ×aD) (fun g=>t.heights.length-g.1) (fun g=>g.1≤t.heights.length∧bD 93 2 g.2.1 g.1 ((t.heights.take g.1).flatMap cP) g.2.2) (fun g=>[(4,qI (g.1:Int))]) [(3,_),(2,_),(1,_)] (fun g=>(q3,.cells [qI t.last,g.2.1,qI t.step,.slice va t.levels.length vc,qN].toArray 32 (0,0))::(q2,.cells [qI 0,qN,qI 0,qN,qN].toArray 32 (0,0))::(g.2.2++[])) (fun g=>[D1,E1,D]) (0,qN,[]) ⟨Ye,Xac⟩ ⟨Ya,bQK⟩ Mm5 zz.o):p:=h ⟨k⟩
theorem Wt(k:q)(h:τ q→p:=by intro zz;refine aF<|Za3<|Zc (Nat×Γ×aD) (fun g=>r.counts.length-g.1) (fun g=>g.1≤r.counts.length∧bD 202 3 g.2.1 g.1 ((r.counts.take g.1).flatMap cC) g.2.2) (fun g=>[(4,qI (g.1:Int))]) [(3,_),(2,_),(1,_)] (fun g=>(q3,.cells [.slice va r.places.length vc,g.2.1,qI r.wrong,qI r.off].toArray 28 (0,0))::(q2,.cells [qN,qN,qI 0,qI 0].toArray 28 (0,0))::(g.2.2++[])) (fun g=>[D1,E1,D]) (0,qN,[]) ⟨Ye,Xac⟩ ⟨Ya,bQK⟩ Mm5 zz.o):p:=h ⟨k⟩
theorem Wu(k:q)(h:τ q→p:=by intro zz;refine cA rfl U232 aJ rfl rfl Yt Yt rfl ⟨_,rfl,rfl⟩<|Zq rfl aH rfl Mm1 rfl<|cA rfl U232 aJ rfl rfl Yt Yt rfl ⟨_,rfl,rfl⟩<|Zq rfl aH rfl Mm0 rfl<|yJ rfl rfl rfl Yf rfl ⟨_,rfl,rfl⟩<|Zat rfl<|Zak rfl zz.o):p:=h ⟨k⟩
theorem Wv(k:q)(h:τ q→p:=by intro zz;refine cA rfl U232 aJ rfl rfl Yt Yt rfl ⟨_,rfl,rfl⟩<|Zq rfl aH rfl Mm0 rfl<|cA rfl U232 aJ rfl rfl Yt Yt rfl ⟨_,rfl,rfl⟩<|Zq rfl aH rfl Mm1 rfl<|yJ rfl rfl rfl Yf rfl ⟨_,rfl,rfl⟩<|Zat rfl<|Zak rfl zz.o):p:=h ⟨k⟩
theorem Ww(k:q)(h:τ q→p:=by intro zz;refine Zh rfl<|Zh rfl<|Zh rfl<|Zh rfl<|Zh rfl<|Zh rfl<|Zh rfl<|Zh rfl zz.o):p:=h ⟨k⟩
theorem Wx(k:q)(h:τ q→p:=by intro zz;refine Zh rfl<|Zh rfl<|pH rfl rfl rfl rfl ⟨_,rfl,rfl⟩ zz.o):p:=h ⟨k⟩
theorem Wy(k:q)(h:τ q→p:=by intro zz;refine Zh rfl<|Zh rfl<|Zh rfl<|Wc zz.o):p:=h ⟨k⟩
theorem Wz(k:q)(h:τ q→p:=by intro zz;refine Zk rfl<|Zap<|Wa zz.o):p:=h ⟨k⟩
theorem Waa(k:q)(h:τ q→p:=by intro zz;refine gL hA rfl rfl rfl rfl (.tail (.tail (.tail ζ))) eP rfl<|Zap zz.o):p:=h ⟨k⟩
theorem Wab(k:q)(h:τ q→p:=by intro zz;refine Zf rfl (fun V O=>hf x _ (O _ Ye))<|Zau rfl<|We zz.o):p:=h ⟨k⟩
theorem Wac(k:q)(h:τ q→p:=by intro zz;refine lR rfl rfl rfl rfl bQK<|We zz.o):p:=h ⟨k⟩
theorem Wad(k:q)(h:τ q→p:=by intro zz;refine gL hA rfl rfl rfl rfl (.tail (.tail ζ)) eP rfl<|Zap zz.o):p:=h ⟨k⟩
theorem Wae(k:q)(h:τ q→p:=by intro zz;refine Zat rfl<|Zal rfl zz.o):p:=h ⟨k⟩
theorem Waf(k:q)(h:τ q→p:=by intro zz;refine Zav rfl<|Zal rfl zz.o):p:=h ⟨k⟩
theorem Wag(k:q)(h:τ q→p:=by intro zz;refine Za6<|Za1<|aA<|We zz.o):p:=h ⟨k⟩
theorem Wah(k:q)(h:τ q→p:=by intro zz;refine rJ rfl rfl rfl rfl ⟨_,rfl,rfl⟩<|Zak rfl zz.o):p:=h ⟨k⟩
theorem Wai(k:q)(h:τ q→p:=by intro zz;refine aA<|Zk rfl<|aL<|Za rfl<|Za rfl<|iD rfl rfl rfl rfl bQK<|Za rfl zz.o):p:=h ⟨k⟩
theorem Waj(k:q)(h:τ q→p:=by intro zz;refine Za rfl<|aX rfl hn<|Za rfl<|aX rfl hn zz.o):p:=h ⟨k⟩
theorem Wak(k:q)(h:τ q→p:=by intro zz;refine bL (e:=242) (fz:=(0,0)) rfl lA rfl Mm1 Xbs n4 rfl bQK<|cQ rfl rfl rfl rfl eB (by simp[hs10]) Ybc .head (dI _) bQK<|Wi zz.o):p:=h ⟨k⟩
theorem Wal(k:q)(h:τ q→p:=by intro zz;refine Zd 0 rfl aH rfl R rfl<|Zk rfl<|bK<|Zk rfl<|aF<|Za3<|dW (γ:=Nat) (fun k=>xs.length-k) (fun k=>k≤xs.length) (fun k=>[(3,qI ((xs.take k).foldl min x)),(4,qI (k+1:Int))]) [(2,_),(0,_)] (fun k=>[D]) 0 Yd ⟨Ya,Ya,bQK⟩ cR (aK) zz.o):p:=h ⟨k⟩
theorem Wam(k:q)(h:τ q→p:=by intro zz;refine Zk rfl<|aL<|Za rfl<|Za0 rfl<|Zf rfl (fun O I=>nV _ _ xs (fun x=> !p x) _ (Sl.at RI.up I Yn Ye) ⟨_,[],[qP b],rfl,fun x R hl=>J7 b fv p x R (hp.up ((I _ Ye).trans hl)) (hB.up ((I _ Ye).trans hl))⟩)<|Zau rfl<|We zz.o):p:=h ⟨k⟩
theorem Wan(k:q)(h:τ q→p:=by intro zz;refine gL hA rfl rfl rfl rfl (.tail ζ) eP rfl<|Zap zz.o):p:=h ⟨k⟩
theorem Wao(k:q)(h:τ q→p:=by intro zz;refine Zf rfl (fun D3 hD3=>GB [k0,k1,k2,k3] _ rfl)<|kB (cs:=[qI (i:Int),qI (min c0 1),qI (min c1 1),qI (min c2 1),qI (min c3 1),qI (min k0 1),qI (min k1 1),qI (min k2 1),qI (min k3 1)]) rfl NW P7 rfl Yg rfl bQK<|Zap zz.o):p:=h ⟨k⟩
theorem Wap(k:q)(h:τ q→p:=by intro zz;refine rJ rfl rfl rfl rfl ⟨_,rfl,rfl⟩<|pE rfl rfl rfl rfl ⟨_,rfl,rfl⟩ zz.o):p:=h ⟨k⟩
theorem Waq(k:q)(h:τ q→p:=by intro zz;refine Zh rfl<|Zh rfl<|Zh rfl<|Zh rfl<|Ww zz.o):p:=h ⟨k⟩
theorem War(k:q)(h:τ q→p:=by intro zz;refine aA<|Zk rfl<|aL<|Zd 0 rfl rE rfl hB rfl<|Za rfl<|Zf rfl (fun O I=>hf x _ (I _ Ye))<|Zau rfl<|We zz.o):p:=h ⟨k⟩
theorem Was(k:q)(h:τ q→p:=by intro zz;refine Zk rfl<|Zap<|Wd zz.o):p:=h ⟨k⟩
theorem Wat(k:q)(h:τ q→p:=by intro zz;refine aQ<|bM<|Zk rfl<|aF<|Za3<|Zn Nat (fun k=>xs.length-k) (fun k=>k≤xs.length∧xs.take k=ys.take k) (fun k=>[(5,qI (k:Int))]) [(4,_),(0,_),(1,_)] (fun k=>[D]) 0 ⟨Ya,bQK⟩ zz.o):p:=h ⟨k⟩
theorem Wau(k:q)(h:τ q→p:=by intro zz;refine gL hA rfl rfl rfl rfl ζ eP rfl<|Zap zz.o):p:=h ⟨k⟩
theorem Wav(k:q)(h:τ q→p:=by intro zz;refine Zas rfl<|Za rfl zz.o):p:=h ⟨k⟩
theorem Waw(k:q)(h:τ q→p:=by intro zz;refine aA<|Zk rfl<|aL<|Za rfl<|Zf rfl (fun O I=>GC _ x xs _ (Sl.at RI.up I Yn Ye))<|We zz.o):p:=h ⟨k⟩
theorem Wax(k:q)(h:τ q→p:=by intro zz;refine Zh rfl<|Zh rfl<|Zal rfl zz.o):p:=h ⟨k⟩
theorem Waz(k:q)(h:τ q→p:=by intro zz;refine Zb rfl<|oK rfl rfl rfl rfl ⟨_,rfl,rfl⟩<|Zb rfl zz.o):p:=h ⟨k⟩
theorem Wba(k:q)(h:τ q→p:=by intro zz;refine bE [] 4 14 2044<|Zi rfl gD rfl<|Zp rfl pK rfl Mm1 rfl<|Zi rfl t6 rfl<|Zp rfl aH rfl Mm0 rfl<|Zi rfl n8 rfl<|Zp rfl aH rfl Mm0 rfl<|Zi rfl N2 rfl zz.o):p:=h ⟨k⟩
theorem Wbb(k:q)(h:τ q→p:=by intro zz;refine lR rfl rfl rfl rfl bQK<|aF zz.o):p:=h ⟨k⟩
theorem Wbc(k:q)(h:τ q→p:=by intro zz;refine Za rfl<|Za rfl zz.o):p:=h ⟨k⟩
theorem Wbd(k:q)(h:τ q→p:=by intro zz;refine Zaw rfl<|Za rfl zz.o):p:=h ⟨k⟩
theorem Wbe(k:q)(h:τ q→p:=by intro zz;refine aA<|Za rfl<|Zk rfl<|Wi zz.o):p:=h ⟨k⟩
theorem Wbf(k:q)(h:τ q→p:=by intro zz;refine aP<|Zi rfl gF rfl<|Zp rfl pL rfl Mm1 rfl<|Zi rfl y1 rfl<|Zp rfl a8 rfl Mm0 rfl<|Zi rfl O4 rfl<|Zp rfl aH rfl Mm0 rfl<|Zi rfl uX rfl zz.o):p:=h ⟨k⟩
theorem Wbg(k:q)(h:τ q→p:=by intro zz;refine Zh rfl<|Wp zz.o):p:=h ⟨k⟩
theorem Wbh(k:q)(h:τ q→p:=by intro zz;refine Zac ((wb,_)::(ν1++νx)) aIE.symm<|Zao rfl<|Zi rfl iB rfl<|Zs (cZ s pv O hv lv mv bl bc yc yq) rfl hx.cells1 DE .head rfl hx.cell1 zz.o):p:=h ⟨k⟩
theorem Wbi(k:q)(h:τ q→p:=by intro zz;refine aA<|Za rfl<|Wg zz.o):p:=h ⟨k⟩
theorem Wbj(k:q)(h:τ q→p:=by intro zz;refine Zb rfl<|Zb rfl<|Wk zz.o):p:=h ⟨k⟩
theorem Wbk(k:q)(h:τ q→p:=by intro zz;refine Zk rfl<|aL<|Za rfl<|Zax rfl zz.o):p:=h ⟨k⟩
theorem Wbl(k:q)(h:τ q→p:=by intro zz;refine aX rfl hn<|Za rfl<|Zao rfl<|Zi rfl bA rfl<|Zi rfl eR rfl<|Zi rfl cS rfl<|Zp rfl fU rfl Mm0 rfl<|cE rfl U33 rfl ha rfl rfl bQK zz.o):p:=h ⟨k⟩
theorem Wbm(k:q)(h:τ q→p:=by intro zz;refine rJ rfl rfl rfl rfl ⟨_,rfl,rfl⟩<|Zal rfl zz.o):p:=h ⟨k⟩
theorem Wbn(k:q)(h:τ q→p:=by intro zz;refine Zao rfl<|Zi rfl iC rfl<|Zs (cZ s pv cv hv lv mv v1 bc yc yq) rfl hx.cells1 EG .head rfl hx.cell1<|Zap<|Za6<|Za1<|aA<|Zk rfl zz.o):p:=h ⟨k⟩
theorem Wbo(k:q)(h:τ q→p:=by intro zz;refine aA<|Zk rfl<|aL<|Za rfl<|Za rfl<|lR rfl rfl rfl rfl bQK<|Za rfl zz.o):p:=h ⟨k⟩
theorem Wbp(k:q)(h:τ q→p:=by intro zz;refine aY (dN.mk [bt,wb]) 2 19 65534<|Za rfl<|Za rfl<|Zao rfl<|Zi rfl iB rfl<|bG rfl qM rfl Mm0 rfl Ym rfl bQK<|Za rfl<|Zay rfl zz.o):p:=h ⟨k⟩
theorem Wbq(k:q)(h:τ q→p:=by intro zz;refine Za8<|Za4<|Za4<|Za9<|Wa zz.o):p:=h ⟨k⟩
theorem Wbr(k:q)(h:τ q→p:=by intro zz;refine Zz rfl eE ζ (fP hL)<|Zk rfl<|Zk rfl<|bK<|Za rfl<|Zax rfl<|aF zz.o):p:=h ⟨k⟩
theorem Wbs(k:q)(h:τ q→p:=by intro zz;refine Zk rfl<|aG<|Za2<|Za7<|Za2<|Za2<|Za7<|Za2 zz.o):p:=h ⟨k⟩
theorem Wbt(k:q)(h:τ q→p:=by intro zz;refine Ze 1 rfl aH rfl I rfl<|Wk zz.o):p:=h ⟨k⟩
theorem Wbu(k:q)(h:τ q→p:=by intro zz;refine Zau rfl<|Za rfl zz.o):p:=h ⟨k⟩
theorem Wbv(k:q)(h:τ q→p:=by intro zz;refine bJ<|Wa zz.o):p:=h ⟨k⟩
theorem Wbw(k:q)(h:τ q→p:=by intro zz;refine Zh rfl<|Wc zz.o):p:=h ⟨k⟩
theorem Wbx(k:q)(h:τ q→p:=by intro zz;refine Zah rfl<|Zk rfl<|Zap zz.o):p:=h ⟨k⟩
theorem Wby(k:q)(h:τ q→p:=by intro zz;refine aA<|Zk rfl<|aL<|Za rfl<|Za rfl<|Zf rfl (fun O I=>xV _ _ xs p _ (Sl.at RI.up I Yn Ye) (hp.up (I _ Ye)))<|Wac zz.o):p:=h ⟨k⟩
theorem Wbz(k:q)(h:τ q→p:=by intro zz;refine Za rfl<|Za rfl<|Zao rfl<|Zi rfl bA rfl<|Zi rfl eG rfl<|Zi rfl hZ rfl<|bG rfl qE rfl Mm0 rfl Ym rfl bQK<|Waj zz.o):p:=h ⟨k⟩
theorem Wca(k:q)(h:τ q→p:=by intro zz;refine Za rfl<|Za rfl<|Zao rfl<|Zi rfl bA rfl<|Zi rfl cW rfl<|Zi rfl gD rfl<|bG rfl pK rfl Mm0 rfl Ym rfl bQK<|Waj zz.o):p:=h ⟨k⟩
theorem Wcb(k:q)(h:τ q→p:=by intro zz;refine Za rfl<|aX rfl hn<|Za rfl<|Zao rfl<|Zi rfl iC rfl<|Zp rfl qW rfl Mm0 rfl<|cE rfl U57 rfl I rfl rfl bQK<|Wbb zz.o):p:=h ⟨k⟩
theorem Wcc(k:q)(h:τ q→p:=by intro zz;refine aP<|Za rfl<|Zah rfl<|Wz zz.o):p:=h ⟨k⟩
theorem Wcd(k:q)(h:τ q→p:=by intro zz;refine OP SP b rfl rfl rfl rfl aJ (.tail .head) Yd bQK<|Zap zz.o):p:=h ⟨k⟩
theorem Wce(k:q)(h:τ q→p:=by intro zz;refine Zao rfl<|Zi rfl jS rfl<|Zs (cZ s pv cv hv lv v1 bl bc yc yq) rfl hx.cells1 PO .head rfl hx.cell1<|Zap zz.o):p:=h ⟨k⟩
theorem Wcf(k:q)(h:τ q→p:=by intro zz;refine bJ<|Wd zz.o):p:=h ⟨k⟩
theorem Wcg(k:q)(h:τ q→p:=by intro zz;refine aA<|Wi zz.o):p:=h ⟨k⟩
theorem Wch(k:q)(h:τ q→p:=by intro zz;refine Zh rfl<|Zh rfl<|pE rfl rfl rfl rfl ⟨_,rfl,rfl⟩ zz.o):p:=h ⟨k⟩
theorem Wci(k:q)(h:τ q→p:=by intro zz;refine Zav rfl<|Zak rfl zz.o):p:=h ⟨k⟩
theorem Wcj(k:q)(h:τ q→p:=by intro zz;refine Zp rfl bX rfl Mm0 rfl<|Za rfl<|aX rfl hn<|Za rfl<|aX rfl hn<|eU rfl U25 aJ rfl rfl Yd Yd rfl bQK zz.o):p:=h ⟨k⟩
theorem Wck(k:q)(h:τ q→p:=by intro zz;refine PE TE (x2:={x with token:= -1}) (k:=2) rfl rfl rfl rfl aJ (.tail .head) hx Yd rfl Yd bQK<|Zap zz.o):p:=h ⟨k⟩
theorem Wcl(k:q)(h:τ q→p:=by intro zz;refine Zax rfl<|Za rfl zz.o):p:=h ⟨k⟩
theorem Wcm(k:q)(h:τ q→p:=by intro zz;refine Zan rfl<|Za rfl zz.o):p:=h ⟨k⟩
theorem Wcn(k:q)(h:τ q→p:=by intro zz;refine Zh rfl<|Zh rfl<|Zh rfl<|Zak rfl zz.o):p:=h ⟨k⟩
end Go
namespace Go.Fs

abbrev qI(n:Int):Γ:=.int .i64 n
abbrev qP(b:Nat):Γ:=.pointer (some ⟨b,0,none⟩)
abbrev qN:Γ:=.slice none 0 0
abbrev qS(b n c:Nat):Γ:=.slice (some ⟨b,0,none⟩) n c
abbrev qC(l:List Γ)(e:Θ):Obj:=.cells l.toArray e (0,0)
def FW(r:Option Nat):Fence:={fn:=fun _=>True,depth:=none,alive:=false,round:=r}
theorem CQ(r:Option Nat)(n:Nat):(FW r).room n:=fun _ h=>by simp[FW]at h
theorem aIK(r:Option Nat)(P:Program)(m:Machine):m.fenced P (FW r):=
 fun _ _=>⟨fun h=>Xab,bLL bQK,fun _ _=>trivial,fun _ h=>Xab⟩
theorem FB{r:Option Nat}{P:Program}{m m':Machine}:StepsIn (Machine.fenced P (FW r)) P m m' ↔ Steps P m m':=
 ⟨StepsIn.steps,fun h=>(StepsIn.of_steps h).mono fun m _=>aIK r P m⟩
theorem zW{r:Option Nat}{P:Program}{m m':Machine}{e:Ending}:ComesIn (Machine.fenced P (FW r)) P m m' e ↔ Comes P m m' e:=by
 cases e with
 |returned v=>exact FB
 |panicked chain=>exact FB
 |outgrown=>exact Iff.rfl
theorem dY{r:Option Nat}{n:Nat}{P:Program}{f:FuncId}{args:Array Γ}{w:Δ}{R:Ending→Δ→Prop}:
    CallsIn (FW r) n P f args w R ↔ Calls P f args w R:=
  ⟨fun h cs=>let ⟨e,w',fr,r,s,x⟩:=h.2 cs (CQ _ _);⟨e,w',fr,r,zW.1 s,x⟩,
   fun h=>⟨bQK,fun cs _=>let ⟨e,w',fr,r,s,x⟩:=h cs;⟨e,w',fr,r,zW.2 s,x⟩⟩⟩
def aTF(P:Program)(l:Nat)(f:FuncId)(tmps:Array Γ)(assign body:Code)(w:Δ)(R:Ending→Δ→Prop):Prop:=
 RoundIn (FW none) 0 P l f tmps assign body w R
theorem FY{r:Option Nat}{n:Nat}{P:Program}{l:Nat}{f:FuncId}{tmps:Array Γ}{assign body:Code}{w:Δ}{R:Ending→Δ→Prop}
  (h:aTF P l f tmps assign body w R):RoundIn (FW r) n P l f tmps assign body w R:=
 ⟨bQK,fun c cs _=>let ⟨e,w',q,s⟩:=h.2 c cs (CQ _ _);⟨e,w',q,zW.2 (zW.1 s)⟩⟩

def qA{γb:Type}[Membership Nat γb](bad:γb)(w w':Δ):Prop:=w.heap.size≤w'.heap.size∧∀b,b<w.heap.size→b∉bad→w'.heap[b]?= w.heap[b]?
structure dN where
 l:List Nat
instance:Membership Nat dN:=⟨fun s b=>b∉s.l⟩
theorem dN.out{l:List Nat}{b:Nat}(h:b∈l):b∉(dN.mk l):=fun hn=>hn h
theorem dN.in_{l:List Nat}{b:Nat}(h:b∉l):b∈(dN.mk l):=h
theorem qA.refl{γb:Type}[Membership Nat γb](bad:γb)(w:Δ):qA bad w w:=⟨bLQ _,fun _ _ _=>rfl⟩
theorem qA.trans{γb:Type}[Membership Nat γb]{bad:γb}{w I O:Δ}(h:qA bad w I)(h':qA bad I O):qA bad w O:=
 ⟨bNK h.1 h'.1,fun b hb hn=>(h'.2 b (bNR hb h.1) hn).trans (h.2 b hb hn)⟩

def lM:Op→Bool
 |.move _|.assign _|.pick _ _ _|.load _ _|.nilCheck _|.binOp _ _ _ _ _|.unOp _ _ _|.convert _ _ _|.fieldAddr _ _ _|.field _ _ _
 |.indexAddr _ _ _|.index _ _ _|.extract _ _|.slice _ _ _ _ _|.build _ _|.makeFunc _ _ _|.makeInterface _ _|.lookup _ _ _ _|.typeAssert _ _ _ _=>true
 |.call c=>match c.callee with|.builtin .len|.builtin .cap|.builtin .max|.builtin .min=>true|_=>false
 |_=>false
def pT:Op→Bool
 |.defer _=>true
 |.select _ _=>true
 |_=>false
def Yv{γb:Type}[Membership Nat γb](bad:γb)(P:Program)(all:Array Oper)(o:Oper)(a:Act)(w:Δ)(v:Γ):Prop:=
 (Region.wanted o (yielded all a.tmps)=true∧∀w',qA bad w w'→(execOp a.eval o).run P w'=.ok (.value v) w')∨
 (Region.wanted o (yielded all a.tmps)=false∧v=undef)
def T4(r:Option Nat){γb:Type}[Membership Nat γb](bad:γb)(P:Program)(all:Array Oper)(Q:Exit→Act→Δ→Prop)(o:Oper)(fl:Bool)(K:Act→Δ→Prop)(a:Act)(w:Δ):Prop:=
 if Region.wanted o (yielded all a.tmps)=true then o.wpIn (FW r) 0 P a w (fun a' w'=>(fl=true→qA bad w w')∧K a' w') Q
 else K (a.put o.dst undef) w
def vQ(r:Option Nat){γb:Type}[Membership Nat γb](bad:γb)(P:Program)(all:Array Oper)(K:Act→Δ→Prop)(Q:Exit→Act→Δ→Prop):List (Bool×Oper)→Act→Δ→Prop
 | [],a,w=>K a w
 |(fl,o)::os,a,w=>
  if lM o.op=true then ∃v,Yv bad P all o a w v∧vQ r bad P all K Q os (a.put o.dst v) w
  else T4 r bad P all Q o fl (vQ r bad P all K Q os) a w
variable{r:Option Nat}{γb:Type}[Membership Nat γb]{bad:γb}{P:Program}{all:Array Oper}{Q:Exit→Act→Δ→Prop}
theorem Y9{o:Oper}(h:pT o.op=false)(ro:Option Nat)(ρ:Operand→Γ):Oper.semAt ro ρ o=execOp ρ o:=
 Oper.semAt_eq ro ρ o fun c hc=>by rw[hc]at h;cases h
theorem V8{o:Op}(h:lM o=true):pT o=false:=by
 cases o<;>first|rfl|(cases h)
theorem Yv.run{o:Oper}{a:Act}{w:Δ}{v:Γ}(h:Yv bad P all o a w v)(hk:lM o.op=true){K:Act→Δ→Prop}{i:Nat}(hi:all[i]?= some o){n:Nat}
  (hK:K (a.put o.dst v) w):wpOpIn (FW r) n P all Q i K a w:=by
 unfold wpOpIn;simp only[hi];rcases h with⟨hw,hv⟩|⟨hw,rfl⟩
 ·rw[bLR hw];refine⟨fun _ _=>trivial,?_⟩;rw[Y9 (V8 hk),hv w (qA.refl _ _)];exact hK
 ·rw[bLI (by simp[hw])];exact⟨fun _ _=>trivial,hK⟩
theorem US{n:Nat}{o:Oper}{a:Act}{w:Δ}{K:Act→Δ→Prop}(h:o.wpIn (FW r) 0 P a w K Q):o.wpIn (FW r) n P a w K Q:=by
 refine⟨h.1,?_⟩;have h2:=h.2;generalize (o.semAt (FW r).round a.eval).run P w=x at *;cases x with
 |ok x w'=>
  cases x<;>simp only[Oper.uponIn]at h2 ⊢ <;>first
   |exact h2
   |exact⟨fun h=>Xab,dY.2 (dY.1 h2.2)⟩
   |exact⟨fun h=>Xab,fun c cs _=>h2.2 c cs (CQ _ _)⟩
   |exact⟨fun h=>Xab,bQK,fun c cs _=>h2.2.2 c cs (CQ _ _)⟩
 |halt x w'=>cases x<;>exact h2

theorem FU{n:Nat}{K:Act→Δ→Prop}(hK:∀a w,K a w→Q .normal a w):∀(os:List (Bool×Oper)) (is:List Nat),is.map (fun i=>all[i]?)=os.map (fun o=>some o.2)→
  ∀a w,vQ r bad P all K Q os a w→wpOpsIn (FW r) n P all Q is a w:=by
 intro os;induction os with
 |nil=>intro is h a w H;cases is with|nil=>exact hK _ _ H|cons=>simp at h
 |cons o os ih=>
  intro is h a w H;cases is with
  |nil=>simp at h
  |cons i is=>
   obtain⟨fl,o⟩:=o;simp only[bMD,bNI]at h;rw[wpOpsIn_cons];simp only[vQ]at H;split at H
   ·rename_i hq;obtain⟨v,hy,H⟩:=H;exact hy.run hq h.1 (ih is h.2 _ _ H)
   ·unfold wpOpIn;simp only[h.1];unfold T4 at H;split at H
    ·rename_i hw;rw[bLR hw];exact US (Oper.wpIn_mono (fun a w hh=>ih is h.2 _ _ hh.2) H)
    ·rename_i hw;rw[bLI hw];exact⟨fun _ _=>trivial,ih is h.2 _ _ H⟩
theorem HT(all:Array Oper):(List.range all.size).map (fun i=>all[i]?)=all.toList.map some:=by
 apply List.ext_getElem
 ·simp
 ·intro i h1 h2;simp
theorem aOA{id:Nat}{a:Act}{w:Δ}(h:vQ r [] P all (fun a w=>Q .normal a w) Q (all.toList.map fun o=>(false,o)) a w):
  (Code.region id all false).wpIn (FW r) 0 P Q a w:=
 wpIn_region (FU (fun _ _ h=>h) _ _ (by rw[HT];simp) _ _ h)

def nB(all:Array Oper):Nat→Nat→Nat→Bool
 |0,_,_=>false
 |n+1,i,x=>((all[i]?).map fun o=>o.after.toList.any fun e=>Region.binds .any e&&(Nat.beq e.on x||nB all n e.on x)).getD false
def tT(all:Array Oper)(n:Nat)(i:Nat):List Nat→Bool
 | []=>false
 |x::xs=> !nB all n i x||tT all n i xs
def jK(all:Array Oper)(x:Nat):Bool:=((all[x]?).map fun o=>lM o.op).getD false
def qH(all:Array Oper)(x i:Nat):Bool:=
 match all[x]?,all[i]? with
 |some x,some i=>x.apart all i
 |_,_=>false
def aOM(all:Array Oper)(n:Nat)(i:Nat)(before:List Nat):Bool:=
 before.all fun x=>nB all n i x||(jK all x&&qH all x i)
def I8(all:Array Oper)(i:Nat)(before:List Nat):Bool:=
 ((all[i]?).map fun o=>o.after.toList.all fun e=> !Region.binds .any e||before.contains e.on).getD false
def uT(all:Array Oper)(n:Nat):List Nat→List Nat→Bool
 |_,[]=>true
 |before,i::rest=>aOM all n i before&&I8 all i before&& !before.contains i&&uT all n (before++[i]) rest
def rC(all:Array Oper):Bool:=all.toList.all fun o=> !pT o.op
def bEA(all:Array Oper)(n:Nat)(c:List Nat):Bool:=
 rC all&&(c.length==all.size)&&((List.range all.size).all fun i=>c.contains i)&&uT all n [] c
def y6(r:Option Nat){γb:Type}[Membership Nat γb](bad:γb)(P:Program)(all:Array Oper)(fl:Nat→Bool)(K:Act→Δ→Prop)(Q:Exit→Act→Δ→Prop):List Nat→Act→Δ→Prop
 | [],a,w=>K a w
 |i::is,a,w=>
  match all[i]? with
  |none=>False
  |some o=>
   if lM o.op=true then ∃v,Yv bad P all o a w v∧y6 r bad P all fl K Q is (a.put o.dst v) w
   else T4 r bad P all Q o (fl i) (y6 r bad P all fl K Q is) a w
def mV(r:Option Nat){γb:Type}[Membership Nat γb](bad:γb)(P:Program)(all:Array Oper)(fl:Nat→Bool)(Q:Exit→Act→Δ→Prop)(i:Nat)(K:Act→Δ→Prop)(a:Act)(w:Δ):Prop:=
 match all[i]? with
 |none=>False
 |some o=>
  if lM o.op=true then ∃v,Yv bad P all o a w v∧K (a.put o.dst v) w
  else T4 r bad P all Q o (fl i) K a w
theorem qL{fl:Nat→Bool}{K:Act→Δ→Prop}(i:Nat)(is:List Nat)(a:Act)(w:Δ):
  y6 r bad P all fl K Q (i::is) a w=mV r bad P all fl Q i (y6 r bad P all fl K Q is) a w:=by
 rfl
theorem T4.mono{o:Oper}{f:Bool}{K K':Act→Δ→Prop}{a:Act}{w:Δ}(h:∀a w,K a w→K' a w)(H:T4 r bad P all Q o f K a w):
  T4 r bad P all Q o f K' a w:=by
 unfold T4 at *;split at H
 ·rename_i hw;rw[bLR hw];exact Oper.wpIn_mono (fun a w hh=>⟨hh.1,h _ _ hh.2⟩) H
 ·rename_i hw;rw[bLI hw];exact h _ _ H
theorem mV.mono{fl:Nat→Bool}{i:Nat}{K K':Act→Δ→Prop}{a:Act}{w:Δ}(h:∀a w,K a w→K' a w)(H:mV r bad P all fl Q i K a w):
  mV r bad P all fl Q i K' a w:=by
 unfold mV at *;split at H
 ·exact H
 ·split at H
  ·rename_i hq;rw[bLR hq];obtain⟨v,y,k⟩:=H;exact⟨v,y,h _ _ k⟩
  ·rename_i hq;rw[bLI hq];exact H.mono h
theorem vD{fl:Nat→Bool}{K K':Act→Δ→Prop}(h:∀a w,K a w→K' a w):∀(is:List Nat) {a:Act} {w:Δ},y6 r bad P all fl K Q is a w→y6 r bad P all fl K' Q is a w
 | [],_,_,H=>h _ _ H
 |i::is,a,w,H=>by
  rw[qL]at H ⊢
  exact H.mono fun a w=>vD h is
theorem Yv.of_same{o:Oper}{v:Γ}{a a':Act}{w w':Δ}(hy:Yv bad P all o a w v)(hk:qA bad w w')(he:execOp a'.eval o=execOp a.eval o)
  (hw:Region.wanted o (yielded all a'.tmps)=Region.wanted o (yielded all a.tmps)):Yv bad P all o a' w' v:=by
 rcases hy with⟨h1,h2⟩|⟨h1,h2⟩
 ·exact bLL ⟨hw.trans h1,fun O I=>he▸h2 O (hk.trans I)⟩
 ·exact bLG ⟨hw.trans h1,h2⟩
def H3:Op→Bool
 |.build _ _=>true
 |.extract _ _=>true
 |.move _=>true
 |.assign _=>true
 |_=>false
def A7(all:Array Oper)(x:Nat):Bool:=((all[x]?).map fun o=>H3 o.op).getD false
def WI{α:Type}(x:Sem α):Prop:=∀(P:Program) w v w1,x.run P w=.ok v w1→w1=w∧∀w',x.run P w'=.ok v w'
theorem WI.pure{α:Type}(a:α):WI (Pure.pure a:Sem α):=fun P w v I h=>by
 rw[ε]at h;cases h;exact⟨rfl,fun w'=>ε ..⟩
theorem WI.bind{α β:Type}{x:Sem α}{f:α→Sem β}(hx:WI x)(hf:∀a,WI (f a)):WI (x >>= f):=fun P w v O h=>by
 rw[Ω]at h;cases hr:x.run P w with
 |ok a I=>
  rw[hr]at h;obtain⟨rfl,h2⟩:=hx P w a I hr;obtain⟨rfl,h3⟩:=hf a P _ v O h;exact⟨rfl,fun w'=>by rw[Ω,h2 w'];exact h3 w'⟩
 |halt z I=>rw[hr]at h;cases h
theorem WI.halt{α:Type}(z:Halt):WI (Sem.halt z:Sem α):=fun P w v I h=>by cases h
theorem WI.program:WI program:=fun P w v I h=>by cases h;exact⟨rfl,fun w'=>rfl⟩
theorem WI.typeInfo(t:Θ):WI (typeInfo t):=by
 unfold Go.typeInfo;refine WI.bind WI.program fun p=>?_
 split
 ·exact WI.pure _
 ·exact WI.halt _
theorem WI.underlying(t:Θ):WI (underlying t):=by
 unfold Go.underlying;refine WI.bind WI.program fun p=>?_
 split
 ·exact WI.pure _
 ·exact WI.halt _
theorem WI.sizeOf(t:Θ):WI (sizeOf t):=WI.bind (WI.typeInfo t) fun _=>WI.pure _
theorem WI.zeroValue(t:Θ):WI (zeroValue t):=by
 unfold Go.zeroValue;refine WI.bind (WI.typeInfo t) fun p=>?_
 split
 ·exact WI.pure _
 ·exact WI.halt _
theorem WI.mapM{α β:Type}{f:α→Sem β}(hf:∀a,WI (f a))(as:Array α):WI (as.mapM f):=by
 rw[Array.mapM_eq_mapM_toList];refine WI.bind ?_ fun _=>WI.pure _
 generalize as.toList=l;induction l with
 |nil=>exact WI.pure _
 |cons a l ih=>
  rw[bOR];exact WI.bind (hf a) fun _=>WI.bind ih fun _=>WI.pure _
theorem WI.build(t:Θ)(parts:Array (Nat×Γ)):WI (Instr.build t parts):=by
 unfold Instr.build;refine WI.bind (WI.zeroValue t) fun z=>WI.bind (WI.underlying t) fun u=>?_
 split
 ·refine WI.bind (WI.mapM (fun f=>WI.bind (WI.sizeOf _) fun _=>WI.pure _) _) fun pl=>?_
  split
  ·exact WI.pure _
  ·exact WI.halt _
 ·refine WI.bind (WI.sizeOf _) fun sz=>?_
  split
  ·exact WI.pure _
  ·exact WI.halt _
 ·exact WI.halt _
theorem WI.extract(t:Γ)(i:Nat):WI (Instr.extract t i):=by
 unfold Instr.extract;split
 ·split
  ·exact WI.pure _
  ·exact WI.halt _
 ·exact WI.halt _
theorem aSV{o:Oper}(hp:H3 o.op=true){ρ:Operand→Γ}{P:Program}{w:Δ}{v:Γ}(hr:(execOp ρ o).run P w=.ok (.value v) w):∀w',(execOp ρ o).run P w'=.ok (.value v) w':=by
 have:WI (execOp ρ o):=by
  cases o with
  |mk dst op type pos after guard=>
   cases op<;>first|(cases hp)|skip
   all_goals unfold execOp
   ·exact WI.pure _
   ·exact WI.pure _
   ·exact WI.bind (WI.build _ _) fun _=>WI.pure _
   ·exact WI.bind (WI.extract _ _) fun _=>WI.pure _
 exact(this P w _ w hr).2
theorem Yv.of_same'{o:Oper}{v:Γ}{a a':Act}{w w':Δ}(hy:Yv bad P all o a w v)(hk:qA bad w w'∨H3 o.op=true)(he:execOp a'.eval o=execOp a.eval o)
  (hw:Region.wanted o (yielded all a'.tmps)=Region.wanted o (yielded all a.tmps)):Yv bad P all o a' w' v:=by
 rcases hk with hk|hk
 ·exact hy.of_same hk he hw
 ·rcases hy with⟨h1,h2⟩|⟨h1,h2⟩
  ·exact bLL ⟨hw.trans h1,fun I _=>he▸aSV hk (h2 w (qA.refl _ _)) I⟩
  ·exact bLG ⟨hw.trans h1,h2⟩
def PI(Q:Exit→Act→Δ→Prop):Prop:=∀c (a a':Act) w,a'.defers=a.defers→Q (.panic c) a w→Q (.panic c) a' w
theorem PZ(a:Act)(d:Option Tmp)(v:Γ):(a.put d v).defers=a.defers:=by cases d<;>rfl
theorem vI{o:Oper}(h:pT o.op=false):∀cs b,o.op≠.select cs b:=fun cs b e=>by rw[e]at h;cases h
theorem aSL{x o:Oper}{f:Bool}{v:Γ}(hap:x.apart all o=true)(hx:pT x.op=false)(ho:pT o.op=false)(hf:f=true∨H3 x.op=true)(hQ:PI Q)
  {K:Act→Δ→Prop} {a:Act} {w:Δ} (hy:Yv bad P all x a w v) (h:T4 r bad P all Q o f K (a.put x.dst v) w):
  T4 r bad P all Q o f (fun a' w'=>Yv bad P all x a' w' v∧K (a'.put x.dst v) w') a w:=by
 obtain⟨h1,h2,h3⟩:=Oper.apart_spec hap;have keep:∀u w',(f=true→qA bad w w')→Yv bad P all x (a.put o.dst u) w' v:=fun u w' hk=>
  hy.of_same' (hf.imp hk id) (execOp_put x (vI hx) a o.dst u h3) (wanted_put x a o.dst u h3)
 unfold T4 at *;rw[wanted_put o a x.dst v h1]at h;split at h
 ·rename_i hw;rw[bLR hw];refine⟨fun _ _=>trivial,?_⟩;have h:=h.2;rw[Y9 ho,execOp_put o (vI ho) a x.dst v h1]at h;rw[Y9 ho];generalize (execOp a.eval o).run P w=z at *;cases z with
  |ok z w'=>
   cases z<;>simp only[Oper.uponIn]at h ⊢
   case value u=>exact⟨h.1,keep u w' h.1,by rw[←Act.put_comm a v u h2];exact h.2⟩
   case skip=>exact⟨h.1,keep _ w' h.1,by rw[←Act.put_comm a v undef h2];exact h.2⟩
   case defer d=>
    refine⟨h.1,?_,?_⟩
    ·exact(hy.of_same' (a':={a with defers:=d::a.defers}.put o.dst undef) (hf.imp h.1 id)
      ((execOp_put x (vI hx) {a with defers:=d::a.defers} o.dst undef h3).trans rfl) ((wanted_put x {a with defers:=d::a.defers} o.dst undef h3).trans rfl))
    ·have e:=h.2;rw[Act.put_defers,Act.put_comm _ v undef h2]at e;exact e
   case enter f args=>
    refine⟨h.1,CallsIn.mono h.2 fun e w'' he=>?_⟩;cases e with
    |returned u=>exact⟨he.1,keep u w'' he.1,Xcb⟩
    |panicked c=>exact hQ _ _ _ _ (PZ _ _ _).symm he
    |outgrown=>exact he
   case row row args=>exact⟨h.1,RowsIn.mono h.2 fun u w'' he=>⟨he.1,keep u w'' he.1,Xcb⟩⟩
   case round l f tmps assign body=>
    refine⟨h.1,RoundIn.mono h.2 fun e w'' he=>?_⟩;cases e with
    |returned u=>exact⟨he.1,keep u w'' he.1,Xcb⟩
    |panicked c=>exact hQ _ _ _ _ (PZ _ _ _).symm he
    |outgrown=>exact he
  |halt z w'=>
   cases z<;>simp only[Oper.uponIn]at h ⊢
   case panic u=>exact hQ _ _ _ _ (PZ _ _ _).symm h
 ·rename_i hw;rw[bLI hw];exact⟨keep _ w fun _=>qA.refl _ _,by rw[←Act.put_comm a v undef h2];exact h⟩
theorem m6{x:Nat}(h:jK all x=true):∃o,all[x]?= some o∧lM o.op=true:=by
 unfold jK at h;cases hx:all[x]? with
 |none=>simp[hx]at h
 |some o=>exact⟨o,rfl,by simpa [hx]using h⟩
theorem R9(h:rC all=true){i:Nat}{o:Oper}(ho:all[i]?= some o):pT o.op=false:=by
 have hm:o∈all.toList:=by
  rw[bOE]at ho;obtain⟨hi,rfl⟩:=ho;simp
 have:=bLX.1 h o hm;simpa using this
theorem aIL{fl:Nat→Bool}{x i:Nat}(hnd:rC all=true)(hq:jK all x=true)(hap:qH all x i=true)(hf:jK all i=true∨fl i=true∨A7 all x=true)
  (hQ:PI Q) {K:Act→Δ→Prop} {a:Act} {w:Δ}
  (h:mV r bad P all fl Q x (mV r bad P all fl Q i K) a w):mV r bad P all fl Q i (mV r bad P all fl Q x K) a w:=by
 obtain⟨ox,hx,hqx⟩:=m6 hq;cases hi:all[i]? with
 |none=>simp[qH,hx,hi]at hap
 |some oi=>
  have hap':ox.apart all oi=true:=by simpa [qH,hx,hi]using hap
  have dx:=R9 hnd hx;have di:=R9 hnd hi;obtain⟨h1,h2,h3⟩:=Oper.apart_spec hap';simp only[mV,hx,hi,hqx,bNM]at h ⊢
  obtain⟨v,hy,h⟩:=h;split at h
  ·rename_i hqi;obtain⟨u,hu,h⟩:=h;rw[bLR hqi];refine⟨u,hu.of_same (qA.refl _ _) (execOp_put oi (vI di) a ox.dst v h1).symm (wanted_put oi a ox.dst v h1).symm,v,
    hy.of_same (qA.refl _ _) (execOp_put ox (vI dx) a oi.dst u h3) (wanted_put ox a oi.dst u h3),?_⟩
   rw[←Act.put_comm a v u h2];exact h
  ·rename_i hqi;rw[bLI hqi];have hfl:fl i=true∨H3 ox.op=true:=by
    rcases hf with hf|hf|hf
    ·obtain⟨o,ho,hqo⟩:=m6 hf;rw[hi]at ho;cases ho;exact absurd hqo hqi
    ·exact bLL hf
    ·exact bLG (by simpa [A7,hx]using hf)
   refine(aSL hap' dx di hfl hQ hy h).mono fun a w hh=>?_
   rw[mV,hx];simp only[hqx,bNM];exact⟨v,hh.1,hh.2⟩
theorem uW{fl:Nat→Bool}{i:Nat}(hnd:rC all=true)(hQ:PI Q){K:Act→Δ→Prop}:
  ∀(c1 c2:List Nat) (a:Act) (w:Δ),(∀x∈c1,jK all x=true∧qH all x i=true∧(jK all i=true∨fl i=true∨A7 all x=true))→
   y6 r bad P all fl K Q (c1++i::c2) a w→mV r bad P all fl Q i (y6 r bad P all fl K Q (c1++c2)) a w:=by
 intro c1;induction c1 with
 |nil=>intro c2 a w _ h;rw[bMH,qL]at h;exact h
 |cons x c1 ih=>
  intro c2 a w hc h;rw[bNO,qL]at h;have h':=h.mono fun a w hh=>ih c2 a w (fun y hy=>hc y (bKY _ hy)) hh
  obtain⟨h1,h2,h3⟩:=hc x bKZ;have:=aIL hnd h1 h2 h3 hQ h';exact this.mono fun a w hh=>by rw[bNO,qL];exact hh
theorem mV.wpOpIn{fl:Nat→Bool}{i:Nat}{n:Nat}{K:Act→Δ→Prop}{a:Act}{w:Δ}(h:mV r bad P all fl Q i K a w):wpOpIn (FW r) n P all Q i K a w:=by
 unfold mV at h;split at h
 ·exact h.elim
 ·rename_i o ho;split at h
  ·rename_i hq;obtain⟨v,hy,h⟩:=h;exact hy.run hq ho h
  ·unfold Go.wpOpIn;simp only[ho];unfold T4 at h;split at h
   ·rename_i hw;rw[bLR hw];exact US (Oper.wpIn_mono (fun a w hh=>hh.2) h)
   ·rename_i hw;rw[bLI hw];exact⟨fun _ _=>trivial,h⟩
def XE(all:Array Oper)(dF:Array Bool):Prop:=
 ∀(i:Nat) (o:Oper),all[i]?= some o→dF.getD i false=true→∀e∈o.after,Region.binds .any e=true→dF.getD e.on false=true
theorem tY{dF:Array Bool}(hc:XE all dF):∀(n i x:Nat) (o:Oper),all[i]?= some o→(∀e∈o.after,Region.binds .any e=true→dF.getD e.on false=true)→
  (∀j,dF.getD j false=true→j<all.size)→nB all n i x=true→dF.getD x false=true:=by
 intro n;induction n with
 |zero=>intro i x o _ _ _ h;simp[nB]at h
 |succ n ih=>
  intro i x o ho hall hlt h;simp only[nB,ho,bMS,bOQ,bPI,bKW,bMF]at h;obtain⟨e,he,hb,h⟩:=h;have hl:=hall e (by simpa using he) hb;rcases h with h|h
  ·rw[bMW h]at hl;exact hl
  ·have hj:=hlt _ hl;exact ih e.on x all[e.on] (by simp[hj]) (hc e.on _ (by simp[hj]) hl) hlt h
theorem tM{n:Nat}:∀(c before c1:List Nat) (i:Nat) (c2:List Nat),uT all n before c=true→c=c1++i::c2→
  aOM all n i (before++c1)=true∧I8 all i (before++c1)=true∧i∉before++c1:=by
 intro c;induction c with
 |nil=>intro before c1 i c2 _ h;simp at h
 |cons x c ih=>
  intro before c1 i c2 hc h;simp only[uT,bKW]at hc;cases c1 with
  |nil=>simp only[bMH,bNI]at h;rw[←h.1];simpa [and_assoc]using hc.1
  |cons y c1=>
   simp only[bNO,bNI]at h;have:=ih (before++[x]) c1 i c2 hc.2 h.2;rw[h.1]at this;simpa using this
def H1(all:Array Oper)(n:Nat)(fl:Nat→Bool)(c:List Nat):Prop:=
 ∀c1 i c2,c=c1++i::c2→∀x∈c1,nB all n i x=true∨(jK all x=true∧qH all x i=true∧(jK all i=true∨fl i=true∨A7 all x=true))
theorem H1.erase{n:Nat}{fl:Nat→Bool}{c1 c2:List Nat}{i:Nat}(h:H1 all n fl (c1++i::c2)):H1 all n fl (c1++c2):=by
 intro I j d2 he x hx;by_cases hl:I.length<c1.length
 ·obtain⟨t,ht⟩:∃t,c1=I++j::t:=by
   have h1:(c1++c2)[I.length]?= some j:=by rw[he];simp
   rw[bNP hl]at h1;have h2:c1.take I.length=I:=by
    have:=bLE (List.take I.length) he;rw[bMP (Nat.le_of_lt hl)]at this;simpa using this
   refine⟨c1.drop (I.length+1),?_⟩;have h3:=bOJ I.length c1;rw[h2,bMM hl]at h3;rw[bLB hl]at h1;rw[bLY h1]at h3;exact h3.symm
  exact h I j (t++i::c2) (by rw[ht];simp) x hx
 ·obtain⟨t,ht⟩:∃t,I=c1++t:=by
   have h2:I.take c1.length=c1:=by
    have:=bLE (List.take c1.length) he;rw[bMP (bLQ _),bLU,bMP Yd]at this;exact this.symm
   exact⟨I.drop c1.length,by rw[←h2,bMV,bOA Yd,bOJ]⟩
  subst ht;have hc2:c2=t++j::d2:=by
   rw[bLK]at he;exact List.append_cancel_left he
  refine h (c1++i::t) j d2 (by rw[hc2];simp) x ?_;simp only[bLM,bNA]at hx ⊢
  rcases hx with hx|hx
  ·exact bLL hx
  ·exact bLG (bLG hx)
def yR(all:Array Oper)(dF:Array Bool)(c:List Nat):Prop:=
 ∀c1 i c2,c=c1++i::c2→∀o,all[i]?= some o→∀e∈o.after,Region.binds .any e=true→dF.getD e.on false=true∨e.on∈c1
theorem BE{c1 c2 I d2:List Nat}{j:Nat}(he:c1++c2=I++j::d2):
  (∃t,c1=I++j::t∧d2=t++c2)∨(∃t,I=c1++t∧c2=t++j::d2):=by
 rcases List.append_eq_append_iff.1 he with⟨t,h1,h2⟩|⟨t,h1,h2⟩
 ·exact bLG ⟨t,h1,h2⟩
 ·cases t with
  |nil=>exact bLG ⟨[],by simpa using h1.symm,by simpa using h2.symm⟩
  |cons x t=>
   simp only[bNO,bNI]at h2;exact bLL ⟨t,by rw[h1,h2.1],h2.2⟩
theorem yR.erase{dF:Array Bool}{c1 c2:List Nat}{i:Nat}(hi:i<dF.size)(h:yR all dF (c1++i::c2)):yR all (dF.setIfInBounds i true) (c1++c2):=by
 intro I j d2 he o ho e hm hb;rcases BE he with⟨t,h1,h2⟩|⟨t,h1,h2⟩
 ·rcases h I j (t++i::c2) (by rw[h1];simp) o ho e hm hb with hl|hl
  ·exact bLL (getD_set_true hl)
  ·exact bLG hl
 ·rcases h (c1++i::t) j d2 (by rw[h2];simp) o ho e hm hb with hl|hl
  ·exact bLL (getD_set_true hl)
  ·simp only[bLM,bNA]at hl;rcases hl with hl|hl|hl
   ·exact bLG (by rw[h1];simp[hl])
   ·rw[hl];exact bLL (by simp[hi])
   ·exact bLG (by rw[h1];simp[hl])
theorem oN{dF:Array Bool}{i:Nat}(h:i<dF.size):(dF.setIfInBounds i true).getD i false=true:=by simp[h]
theorem GD{n:Nat}{fl:Nat→Bool}(hnd:rC all=true)(hQ:PI Q):
  ∀(c:List Nat) (dF:Array Bool) (a:Act) (w:Δ),dF.size=all.size→XE all dF→c.Nodup→
   (∀i,i<all.size→(i∈c ↔ dF.getD i false=false))→(∀i∈c,i<all.size)→H1 all n fl c→yR all dF c→
   y6 r bad P all fl (fun a w=>Q .normal a w) Q c a w→wpAnyIn (FW r) 0 P .any all Q c.length dF a w:=by
 intro c;induction hlen:c.length generalizing c with
 |zero=>
  intro dF a w hs _ _ hm _ _ _ h;have hc:c=[]:=bOL.1 hlen;subst hc;refine⟨?_,h⟩;rw[List.eq_nil_iff_forall_not_mem];intro i hi;obtain⟨hun,o,ho,_⟩:=mem_ready.1 hi;have hlt:i<all.size:=(bOE.1 ho).1;have:=(hm i hlt).2 (by rw[bNC]at hun ⊢;rw[bPF Yd]at hun ⊢;exact hun)
  simp at this
 |succ k ih=>
  intro dF a w hs hcl hnodup hm hlt hg ht h;constructor
  ·intro h0;exfalso
   match c,hlen with
   |i::c',_=>
    have hi:i∈Region.ready .any all dF:=by
     refine mem_ready.2 ⟨?_,all[i]'(hlt i bKZ),by simp[hlt i bKZ],?_⟩
     ·have:=(hm i (hlt i bKZ)).1 bKZ;rw[bNC]at this ⊢
      rw[bPF (by rw[hs];exact hlt i bKZ)]at this ⊢
      exact this
     ·intro e he hb;rcases ht [] i c' rfl _ (by simp[hlt i bKZ]) e he hb with h|h
      ·exact h
      ·cases h
    rw[h0]at hi;cases hi
  ·intro i hi;obtain⟨hun,o,ho,hpre⟩:=mem_ready.1 hi;have hil:i<all.size:=(bOE.1 ho).1;have hun':dF.getD i false=false:=by
    rw[bNC]at hun ⊢
    rw[bPF Yd]at hun ⊢
    exact hun
   have hmem:=(hm i hil).2 hun';obtain⟨c1,c2,rfl⟩:=List.append_of_mem hmem;have hfront:∀x∈c1,jK all x=true∧qH all x i=true∧(jK all i=true∨fl i=true∨A7 all x=true):=by
    intro x hx;rcases hg c1 i c2 rfl x hx with hr|hr
    ·have hxl:=hlt x (by simp[hx]);have:=tY hcl n i x o ho (fun e he hb=>hpre e he hb) (fun j hj=>by
      rcases Nat.lt_or_ge j dF.size with h|h
      ·omega
      ·simp[Array.getElem?_eq_none h]at hj) hr
     have h2:=(hm x hxl).1 (by simp[hx]);rw[h2]at this;cases this
    ·exact hr
   have hst:=uW hnd hQ c1 c2 a w hfront h;refine wpOpIn_mono (fun a w hh=>?_) hst.wpOpIn;have hlen':(c1++c2).length=k:=by simp at hlen ⊢;omega
   refine ih (c1++c2) hlen' (dF.setIfInBounds i true) a w (by simpa using hs) ?_ ?_ ?_ ?_ hg.erase (ht.erase Yd) hh
   ·intro j oj hj hlj e he hb;by_cases hij:i=j
    ·subst hij;rw[ho]at hj;cases hj
     exact getD_set_true (hpre e he hb)
    ·rw[getD_set_ne false hij]at hlj;exact getD_set_true (hcl j oj hj hlj e he hb)
   ·rw[bLJ]at hnodup ⊢
    refine⟨hnodup.1,(bMX.1 hnodup.2.1).2,fun x hx y hy=>hnodup.2.2 x hx y (bKY _ hy)⟩
   ·intro j hj;by_cases hij:i=j
    ·subst hij;rw[oN Yd];constructor
     ·intro hmem;exfalso
      rw[bLJ]at hnodup;rcases bLM.1 hmem with I|O
      ·exact hnodup.2.2 i I i bKZ rfl
      ·exact(bMX.1 hnodup.2.1).1 O
     ·intro h;cases h
    ·rw[getD_set_ne false hij,←hm j hj];simp only[bLM,bNA];constructor
     ·rintro(h|h)
      ·exact bLL h
      ·exact bLG (bLG h)
     ·rintro(h|h|h)
      ·exact bLL h
      ·exact absurd h.symm hij
      ·exact bLG h
   ·intro j hj;refine hlt j ?_;simp only[bLM,bNA]at hj ⊢
    rcases hj with h|h
    ·exact bLL h
    ·exact bLG (bLG h)
def dF(all:Array Oper)(n:Nat):List Nat→List Nat→List (Bool×Oper)
 |_,[]=>[]
 |before,i::rest=>(tT all n i before,all.getD i default)::dF all n (before++[i]) rest
theorem YN{n:Nat}{K:Act→Δ→Prop}{fl:Nat→Bool}:∀(c before:List Nat) (a:Act) (w:Δ),(∀i∈c,i<all.size)→
  (∀c1 i c2,c=c1++i::c2→fl i=tT all n i (before++c1))→vQ r bad P all K Q (dF all n before c) a w→y6 r bad P all fl K Q c a w:=by
 intro c;induction c with
 |nil=>intro before a w _ _ h;exact h
 |cons i c ih=>
  intro before a w hlt hf h;have hi:=hlt i bKZ;have ho:all[i]?= some all[i]:=by simp[hi]
  have hd:all.getD i default=all[i]:=by simp[hi]
  have hfi:fl i=tT all n i before:=by simpa using hf [] i c rfl
  have hrec:∀a w,vQ r bad P all K Q (dF all n (before++[i]) c) a w→y6 r bad P all fl K Q c a w:=fun a w hh=>
   ih (before++[i]) a w (fun j hj=>hlt j (bKY _ hj)) (fun c1 j c2 he=>by
    rw[hf (i::c1) j c2 (by rw[he];rfl)];simp) hh
  simp only[dF,vQ,hd]at h;simp only[y6,ho];split at h
  ·rename_i hq;obtain⟨v,hy,h⟩:=h;rw[bLR hq];exact⟨v,hy,hrec _ _ h⟩
  ·rename_i hq;rw[bLI hq,hfi];exact h.mono hrec
theorem U0{n:Nat}:∀(c before:List Nat),uT all n before c=true→before.Nodup→(before++c).Nodup:=by
 intro c;induction c with
 |nil=>intro before _ h;simpa using h
 |cons i c ih=>
  intro before h hb;simp only[uT,bKW,bNY,bPT,bLC]at h;have:=ih (before++[i]) h.2 (by
   rw[bLJ];refine⟨hb,Ye,fun x hx y hy=>?_⟩;simp only[bLS]at hy;rintro rfl;exact h.1.2 (hy▸hx))
  simpa using this
theorem tB{n i x:Nat}:∀{l:List Nat},x∈l→nB all n i x=false→tT all n i l=true
 |y::l,hx,hr=>by
  simp only[tT,bMF,bNY];rcases bNA.1 hx with rfl|hx
  ·exact bLL hr
  ·exact bLG (tB hx hr)
theorem bKC{id n:Nat}{c:List Nat}{a:Act}{w:Δ}(hm:P.follows .mixedOrders=true)(hc:bEA all n c=true)(hQ:PI Q)
  (h:vQ r bad P all (fun a w=>Q .normal a w) Q (dF all n [] c) a {w with drawn:=w.drawn+1}):
  (Code.region id all true).wpIn (FW r) 0 P Q a w:=by
 simp only[bEA,bKW,bPX,bLX,bMZ,bPT,LT]at hc;obtain⟨⟨⟨hnd,hlen⟩,hall⟩,hfrom⟩:=hc;have hnodup:c.Nodup:=by simpa using U0 c [] hfrom bNH
 have hlt:∀i∈c,i<all.size:=by
  intro i hi;obtain⟨c1,c2,rfl⟩:=List.append_of_mem hi;have:=(tM _ [] c1 i c2 hfrom rfl).2.1;unfold I8 at this;rcases Nat.lt_or_ge i all.size with h|h
  ·exact h
  ·simp[Array.getElem?_eq_none h]at this
 refine wpIn_region_any hm ?_;rw[←hlen];refine GD (bad:=bad) (fl:=fun i=>tT all n i (c.take (c.idxOf i))) (n:=n) hnd hQ c _ a _ (by simp[hlen]) ?_ hnodup ?_ hlt ?_ ?_ ?_
 ·intro i o ho hl;simp[Array.getElem?_replicate]at hl;split at hl<;>simp at hl
 ·intro i hi;simp only[bNC,Array.getElem?_replicate,hlen,hi,bNM,bOQ,iff_true];exact hall i hi
 ·intro c1 i c2 he x hx;obtain⟨hg,_,_⟩:=tM _ [] c1 i c2 hfrom he;have h1:=bLX.1 hg x Xav;simp only[bMF,bKW]at h1;cases hr:nB all n i x with
  |true=>exact bLL rfl
  |false=>
   rw[hr]at h1;have h1:=h1.resolve_left Ye;refine bLG ⟨h1.1,h1.2,bLG (bLL ?_)⟩;have hni:i∉c1:=by
    rw[he,bLJ]at hnodup;intro hm;exact hnodup.2.2 i hm i bKZ rfl
   have:c.take (c.idxOf i)=c1:=by
    rw[he,List.idxOf_append,bLI hni,List.idxOf_cons_self];simp
   show tT all n i (c.take (c.idxOf i))=true;rw[this];exact tB hx hr
 ·intro c1 i c2 he o ho e hm hb;obtain⟨_,ht,_⟩:=tM _ [] c1 i c2 hfrom he;unfold I8 at ht;rw[ho]at ht;simp only[bMS,bOQ,bLX,bMF,bNY,bMH,bPT,LT]at ht;rcases ht e (by simpa using hm)with h|h
  ·rw[hb]at h;cases h
  ·exact bLG h
 ·refine YN (n:=n) c [] a _ hlt ?_ h;intro c1 i c2 he;have hni:i∉c1:=by
   rw[he,bLJ]at hnodup;intro hm;exact hnodup.2.2 i hm i bKZ rfl
  have:c.take (c.idxOf i)=c1:=by
   rw[he,List.idxOf_append,bLI hni,List.idxOf_cons_self];simp
  show tT all n i (c.take (c.idxOf i))=_;rw[this];rfl
def jF(all:Array Oper)(is:List (Bool×Nat)):List (Bool×Oper):=is.map fun p=>(p.1,all.getD p.2 default)
theorem aST(all:Array Oper):(all.toList.map fun o=>(false,o))=jF all ((List.range all.size).map fun i=>(false,i)):=by
 apply List.ext_getElem
 ·simp[jF]
 ·intro i h1 h2;simp[jF]at h1 ⊢
  simp[h1]

def QA(all:Array Oper)(n:Nat)(fls:List Bool)(E:List Nat)(i:Nat)(before:List Nat):Bool:=
 before.all fun x=>E.contains x||nB all n i x||(jK all x&&qH all x i&&(jK all i||(fls.getD i false||A7 all x)))
def R7(all:Array Oper)(n:Nat)(E:List Nat)(fl:Nat→Bool)(c:List Nat):Prop:=
 ∀c1 i c2,c=c1++i::c2→∀x∈c1,x∈E∨nB all n i x=true∨(jK all x=true∧qH all x i=true∧(jK all i=true∨fl i=true∨A7 all x=true))
theorem R7.erase{n:Nat}{E:List Nat}{fl:Nat→Bool}{c1 c2:List Nat}{i:Nat}(h:R7 all n E fl (c1++i::c2)):R7 all n E fl (c1++c2):=by
 intro I j d2 he x hx;rcases BE he with⟨t,h1,h2⟩|⟨t,h1,h2⟩
 ·exact h I j (t++i::c2) (by rw[h1];simp) x hx
 ·refine h (c1++i::t) j d2 (by rw[h2];simp) x ?_;rw[h1]at hx;simp only[bLM,bNA]at hx ⊢
  rcases hx with hx|hx
  ·exact bLL hx
  ·exact bLG (bLG hx)
theorem R7.none{n:Nat}{E:List Nat}{fl:Nat→Bool}{c:List Nat}(h:R7 all n E fl c)(hp:∀e∈E,e∉c):H1 all n fl c:=by
 intro c1 i c2 he x hx;rcases h c1 i c2 he x hx with h|h
 ·exact absurd (by rw[he];simp[hx]) (hp x h)
 ·exact h
theorem pM{fl:Nat→Bool}{K:Act→Δ→Prop}:∀(c d:List Nat) (a:Act) (w:Δ),y6 r bad P all fl (y6 r bad P all fl K Q d) Q c a w→y6 r bad P all fl K Q (c++d) a w
 | [],d,a,w,h=>h
 |i::c,d,a,w,h=>by
  rw[bNO,qL];rw[qL]at h;exact h.mono fun a w=>pM c d a w
structure ID(all:Array Oper)(n:Nat)(dF:Array Bool)(c:List Nat):Prop where
 size:dF.size=all.size
 closed:XE all dF
 nodup:c.Nodup
 mem:∀i,i<all.size→(i∈c ↔ dF.getD i false=false)
 lt:∀i∈c,i<all.size
 topo:yR all dF c
theorem ID.step{n:Nat}{dF:Array Bool}{c1 c2:List Nat}{i:Nat}{o:Oper}(h:ID all n dF (c1++i::c2))(ho:all[i]?= some o)(hpre:∀e∈o.after,Region.binds .any e=true→dF.getD e.on false=true):ID all n (dF.setIfInBounds i true) (c1++c2):=by
 have hil:i<all.size:=(bOE.1 ho).1;have hs:=h.size;refine⟨by simpa using hs,?_,?_,?_,?_,h.topo.erase Yd⟩
 ·intro j oj hj hlj e he hb;by_cases hij:i=j
  ·subst hij;rw[ho]at hj;cases hj
   exact getD_set_true (hpre e he hb)
  ·rw[getD_set_ne false hij]at hlj;exact getD_set_true (h.closed j oj hj hlj e he hb)
 ·have hnodup:=h.nodup;rw[bLJ]at hnodup ⊢
  exact⟨hnodup.1,(bMX.1 hnodup.2.1).2,fun x hx y hy=>hnodup.2.2 x hx y (bKY _ hy)⟩
 ·intro j hj;have hnodup:=h.nodup;by_cases hij:i=j
  ·subst hij;rw[oN Yd];constructor
   ·intro hmem;exfalso
    rw[bLJ]at hnodup;rcases bLM.1 hmem with I|O
    ·exact hnodup.2.2 i I i bKZ rfl
    ·exact(bMX.1 hnodup.2.1).1 O
   ·intro h;cases h
  ·rw[getD_set_ne false hij,←h.mem j hj];simp only[bLM,bNA];constructor
   ·rintro(h|h)
    ·exact bLL h
    ·exact bLG (bLG h)
   ·rintro(h|h|h)
    ·exact bLL h
    ·exact absurd h.symm hij
    ·exact bLG h
 ·intro j hj;refine h.lt j ?_;simp only[bLM,bNA]at hj ⊢
  rcases hj with h|h
  ·exact bLL h
  ·exact bLG (bLG h)
inductive iU where
 |fin (c:List Nat)
 |fork (d:List Nat) (p:Nat) (A:iU) (q:Nat) (B:iU)
 |forkN (d:List Nat) (p:Nat) (ps:List Nat) (A:Nat→iU)
def iU.list:iU→List Nat
 |.fin c=>c
 |.fork d p A _ _=>d++p::A.list
 |.forkN d p _ A=>d++p::(A p).list
def oJ:List iU→List Nat
 | []=>[]
 |pl::segs=>pl.list++oJ segs
def aMG(r:Option Nat){γb:Type}[Membership Nat γb](bad:γb)(P:Program)(all:Array Oper)(fl:Nat→Bool)(Q:Exit→Act→Δ→Prop)(kont:Act→Δ→Prop):iU→Act→Δ→Prop
 |.fin c=>y6 r bad P all fl kont Q c
 |.fork d p A q B=>y6 r bad P all fl (fun a w=>mV r bad P all fl Q p (aMG r bad P all fl Q kont A) a w∧mV r bad P all fl Q q (aMG r bad P all fl Q kont B) a w) Q d
 |.forkN d p ps A=>y6 r bad P all fl (fun a w=>∀i∈p::ps,mV r bad P all fl Q i (aMG r bad P all fl Q kont (A i)) a w) Q d
def bKP(r:Option Nat){γb:Type}[Membership Nat γb](bad:γb)(P:Program)(all:Array Oper)(fl:Nat→Bool)(Q:Exit→Act→Δ→Prop):List iU→Act→Δ→Prop
 | []=>fun a w=>Q .normal a w
 |pl::segs=>aMG r bad P all fl Q (bKP r bad P all fl Q segs) pl
def kQ(all:Array Oper)(n:Nat)(cont:List Nat→List Nat→Array Bool→Prop)(rest:List Nat):iU→List Nat→List Nat→Array Bool→Prop
 |.fin c,pre,E,L=>cont (pre++c) E L
 |.fork d p A q B,pre,E,L=>kQ all n cont rest A (pre++d++[p]) (p::E) L∧kQ all n cont rest B (pre++d++[q]) (q::E) L∧q∈A.list++rest∧A.list.length=B.list.length∧∀i∈A.list++rest,i=q∨nB all n i p=true∨nB all n i q=true
 |.forkN d p ps A,pre,E,L=>(∀i∈p::ps,kQ all n cont rest (A i) (pre++d++[i]) (i::E) L∧(A i).list.length=(A p).list.length∧(i=p∨i∈(A p).list++rest))∧∀i∈(A p).list++rest,i∈ps∨∃q∈p::ps,nB all n i q=true
def aOI(all:Array Oper)(n:Nat)(fl:Nat→Bool):List iU→List Nat→List Nat→Array Bool→Prop
 | [],pre,E,L=>ID all n L pre∧R7 all n E fl pre
 |pl::segs,pre,E,L=>kQ all n (aOI all n fl segs) (oJ segs) pl pre E L
structure GS(all:Array Oper)(n:Nat)(fl:Nat→Bool)(cont:List Nat→List Nat→Array Bool→Prop)(rest:List Nat):Prop where
 part:∀pre E L,cont pre E L→ID all n L (pre++rest)
 good:∀pre E L,cont pre E L→R7 all n E fl pre
 erase:∀c1 i c2 E L (o:Oper),all[i]?= some o→(∀e∈o.after,Region.binds .any e=true→L.getD e.on false=true)→cont (c1++i::c2) E L→cont (c1++c2) E (L.setIfInBounds i true)
theorem kQ.part{n:Nat}{fl:Nat→Bool}{cont:List Nat→List Nat→Array Bool→Prop}{rest:List Nat}(hc:GS all n fl cont rest):∀{pl:iU} {pre E:List Nat} {L:Array Bool},kQ all n cont rest pl pre E L→ID all n L (pre++(pl.list++rest))
 |.fin c,pre,E,L,h=>by
  have:=hc.part _ _ _ h;rw[bLK]at this;exact this
 |.fork d p A q B,pre,E,L,h=>by
  have:=kQ.part hc h.1;simpa [iU.list]using this
 |.forkN d p ps A,pre,E,L,h=>by
  have:=kQ.part hc (h.1 p bKZ).1;simpa [iU.list]using this
theorem kQ.good{n:Nat}{fl:Nat→Bool}{cont:List Nat→List Nat→Array Bool→Prop}{rest:List Nat}(hc:GS all n fl cont rest):∀{pl:iU} {pre E:List Nat} {L:Array Bool},kQ all n cont rest pl pre E L→R7 all n E fl pre
 |.fin c,pre,E,L,h=>by
  intro c1 i c2 he x hx;exact hc.good _ _ _ h c1 i (c2++c) (by rw[he];simp) x hx
 |.fork d p A q B,pre,E,L,h=>by
  intro c1 i c2 he x hx;have h1:=kQ.good hc h.1 c1 i (c2++d++[p]) (by rw[he];simp) x hx
  have hn:=(kQ.part hc h.1).nodup;rcases h1 with h1|h1
  ·rcases bNA.1 h1 with rfl|h1
   ·exfalso
    rw[he]at hn;simp only[bLK]at hn;rw[bLJ]at hn;exact hn.2.2 x hx x Ye rfl
   ·exact bLL h1
  ·exact bLG h1
 |.forkN d p ps A,pre,E,L,h=>by
  intro c1 i c2 he x hx;have h1:=kQ.good hc (h.1 p bKZ).1 c1 i (c2++d++[p]) (by rw[he];simp) x hx
  have hn:=(kQ.part hc (h.1 p bKZ).1).nodup;rcases h1 with h1|h1
  ·rcases bNA.1 h1 with rfl|h1
   ·exfalso
    rw[he]at hn;simp only[bLK]at hn;rw[bLJ]at hn;exact hn.2.2 x hx x Ye rfl
   ·exact bLL h1
  ·exact bLG h1
theorem kQ.erase{n:Nat}{fl:Nat→Bool}{cont:List Nat→List Nat→Array Bool→Prop}{rest:List Nat}(hc:GS all n fl cont rest){i:Nat}{o:Oper}(ho:all[i]?= some o){L:Array Bool}(hpre:∀e∈o.after,Region.binds .any e=true→L.getD e.on false=true):∀{pl:iU} {c1 c2 E:List Nat},kQ all n cont rest pl (c1++i::c2) E L→kQ all n cont rest pl (c1++c2) E (L.setIfInBounds i true)
 |.fin c,c1,c2,E,h=>by
  have h':cont (c1++i::(c2++c)) E L:=by
   have h2:cont (c1++i::c2++c) E L:=h;simpa using h2
  have:=hc.erase c1 i (c2++c) E L o ho hpre h';show cont (c1++c2++c) E _;rw[bLK];exact this
 |.fork d p A q B,c1,c2,E,h=>by
  obtain⟨h1,h2,h3⟩:=h;have e:∀z:Nat,c1++i::c2++d++[z]=c1++i::(c2++d++[z]):=fun z=>by simp
  have e':∀z:Nat,c1++(c2++d++[z])=c1++c2++d++[z]:=fun z=>by simp
  rw[e]at h1 h2;have I:=kQ.erase hc ho hpre h1;have O:=kQ.erase hc ho hpre h2;rw[e']at I O;exact⟨I,O,h3⟩
 |.forkN d p ps A,c1,c2,E,h=>by
  refine⟨fun z hz=>?_,h.2⟩;obtain⟨h1,h2,h3⟩:=h.1 z hz;have e:c1++i::c2++d++[z]=c1++i::(c2++d++[z]):=by simp
  have e':c1++(c2++d++[z])=c1++c2++d++[z]:=by simp
  rw[e]at h1;have I:=kQ.erase hc ho hpre h1;rw[e']at I;exact⟨I,h2,h3⟩
theorem PU(n:Nat)(fl:Nat→Bool):∀segs:List iU,GS all n fl (aOI all n fl segs) (oJ segs)
 | []=>⟨fun pre E L h=>by rw[oJ,n5];exact h.1,fun pre E L h=>h.2,fun c1 i c2 E L o ho hpre h=>⟨h.1.step ho hpre,h.2.erase⟩⟩
 |_::segs=>⟨fun pre E L h=>kQ.part (PU n fl segs) h,fun pre E L h=>kQ.good (PU n fl segs) h,fun c1 i c2 E L o ho hpre h=>kQ.erase (PU n fl segs) ho hpre h⟩
theorem ID.frontE{n:Nat}{E:List Nat}{fl:Nat→Bool}{dF:Array Bool}{c1 c2 c3:List Nat}{i:Nat}{o:Oper}(h:ID all n dF (c1++i::c3))(hg:R7 all n E fl (c1++i::c2))(ho:all[i]?= some o)(hpre:∀e∈o.after,Region.binds .any e=true→dF.getD e.on false=true)(hE:∀e∈E,e∉c1):
  ∀x∈c1,jK all x=true∧qH all x i=true∧(jK all i=true∨fl i=true∨A7 all x=true):=by
 intro x hx;rcases hg c1 i c2 rfl x hx with he|hr|hr
 ·exact absurd hx (hE x he)
 ·have hxl:=h.lt x (by simp[hx]);have:=tY h.closed n i x o ho hpre (fun j hj=>by
   rcases Nat.lt_or_ge j dF.size with h'|h'
   ·have:=h.size;omega
   ·simp[Array.getElem?_eq_none h']at hj) hr
  have h2:=(h.mem x hxl).1 (by simp[hx]);rw[h2]at this;cases this
 ·exact hr
theorem W3{fl:Nat→Bool}{K:Act→Δ→Prop}{i:Nat}{a:Act}{w:Δ}(h:mV r bad P all fl Q i K a w):y6 r bad P all fl K Q [i] a w:=by
 rw[qL];exact h
theorem wS{n:Nat}{fl:Nat→Bool}{cont:List Nat→List Nat→Array Bool→Prop}{rest:List Nat}{kont:Act→Δ→Prop}(hnd:rC all=true)(hQ:PI Q)(hc:GS all n fl cont rest)
  (hcont:∀(pre E:List Nat) (L:Array Bool) (a:Act) (w:Δ),(∀e∈E,L.getD e false=true)→cont pre E L→y6 r bad P all fl kont Q pre a w→wpAnyIn (FW r) 0 P .any all Q (pre++rest).length L a w):
  ∀(pl:iU) (pre E:List Nat) (L:Array Bool) (a:Act) (w:Δ),(∀e∈E,L.getD e false=true)→kQ all n cont rest pl pre E L→y6 r bad P all fl (aMG r bad P all fl Q kont pl) Q pre a w→
  wpAnyIn (FW r) 0 P .any all Q (pre++(pl.list++rest)).length L a w
 |.fin c,pre,E,L,a,w,hE,hr,h=>by
  have:=hcont (pre++c) E L a w hE hr (pM pre c a w h);rw[bLK]at this;exact this
 |.fork d p A q B,pre,E,L,a,w,hE,hr,h=>by
  have hmain:∀(m:Nat) (d':List Nat) (L:Array Bool) (a:Act) (w:Δ),d'.length=m→(∀e∈E,L.getD e false=true)→kQ all n cont rest A (d'++[p]) (p::E) L→kQ all n cont rest B (d'++[q]) (q::E) L→q∈A.list++rest→A.list.length=B.list.length→(∀i∈A.list++rest,i=q∨nB all n i p=true∨nB all n i q=true)→
    y6 r bad P all fl (fun a w=>mV r bad P all fl Q p (aMG r bad P all fl Q kont A) a w∧mV r bad P all fl Q q (aMG r bad P all fl Q kont B) a w) Q d' a w→wpAnyIn (FW r) 0 P .any all Q (d'++p::(A.list++rest)).length L a w:=by
   intro m;induction m using Nat.strongRecOn with
   |_ m ih=>
   intro d' L a w hm hE hA hB hqA hlen he h;have h1:=kQ.part hc hA;have h2:=kQ.part hc hB;rw[bLK]at h1 h2;have gA:=kQ.good hc hA;have gB:=kQ.good hc hB;simp only[bOW]at h1 h2;obtain⟨k,hk⟩:∃k,(d'++p::(A.list++rest)).length=k+1:=⟨d'.length+(A.list++rest).length,Yaq⟩
   rw[hk];constructor
   ·intro h0;exfalso
    match hcc:d'++p::(A.list++rest),hk with
    |i::c',_=>
     rw[hcc]at h1;have hil:=h1.lt i bKZ;have hi:i∈Region.ready .any all L:=by
      refine mem_ready.2 ⟨?_,all[i],by simp[hil],?_⟩
      ·have:=(h1.mem i hil).1 bKZ;rw[bNC]at this ⊢
       rw[bPF Xaw]at this ⊢
       exact this
      ·intro e he hb;rcases h1.topo [] i c' rfl _ (by simp[hil]) e he hb with h|h
       ·exact h
       ·cases h
     rw[h0]at hi;cases hi
   ·intro i hi;obtain⟨hun,o,ho,hpre⟩:=mem_ready.1 hi;have hil:i<all.size:=(bOE.1 ho).1;have hun':L.getD i false=false:=by
     have:=h1.size;rw[bNC]at hun ⊢
     rw[bPF Yd]at hun ⊢
     exact hun
    have hmem:=(h1.mem i hil).2 hun';have I:∀x,x∈d'++p::(A.list++rest)→nB all n i x=true→False:=by
     intro x hx hr;have:=tY h1.closed n i x o ho hpre (fun j hj=>by
      rcases Nat.lt_or_ge j L.size with h'|h'
      ·have:=h1.size;omega
      ·simp[Array.getElem?_eq_none h']at hj) hr
     have h2:=(h1.mem x (h1.lt x hx)).1 hx;rw[h2]at this;cases this
    have hEd:∀e∈E,e∉d':=fun e he hm=>by
     have:=(h1.mem e (h1.lt e Xag)).1 Xag;rw[hE e he]at this;cases this
    have hnA:p∉d':=fun hp=>by
     have hn:=h1.nodup;rw[bLJ]at hn;exact hn.2.2 p hp p Ye rfl
    have hnB:q∉d':=fun hp=>by
     have hn:=h2.nodup;rw[bLJ]at hn;exact hn.2.2 q hp q Ye rfl
    rw[bLM,bNA]at hmem;rcases hmem with hm'|rfl|hm'
    ·obtain⟨c1,c2,rfl⟩:=List.append_of_mem hm';have U:∀z:Nat,(c1++i::c2)++[z]=c1++i::(c2++[z]):=fun z=>by simp
     have V:∀z:Nat,c1++(c2++[z])=(c1++c2)++[z]:=fun z=>by simp
     rw[U]at hA hB gA;have O:(c1++i::(c2++p::(A.list++rest))).length=k+1:=by rw[←hk];simp
     have h1':ID all n L (c1++i::(c2++p::(A.list++rest))):=by simpa using h1
     have hf:=h1'.frontE gA ho hpre (fun e he hm=>by
      rcases bNA.1 he with rfl|he
      ·exact hnA Xag
      ·exact hEd e he Xag)
     have hst:=uW hnd hQ c1 c2 a w hf h;refine wpOpIn_mono (fun a w hh=>?_) hst.wpOpIn;have sA:=kQ.erase hc ho hpre hA;have sB:=kQ.erase hc ho hpre hB;rw[V]at sA sB;have:=ih (c1++c2).length (by rw[←hm];simp) (c1++c2) _ a w rfl (fun e he=>getD_set_true (hE e he)) sA sB hqA hlen ‹_› hh
     have hl:((c1++c2)++p::(A.list++rest)).length=k:=by simp at O ⊢;omega
     rw[hl]at this;exact this
    ·have hw:=pM (K:=fun a w=>aMG r bad P all fl Q kont A a w) d' [i] a w (vD (fun _ _ h=>W3 h.1) d' h);have hf:=h1.frontE (c2:=[]) gA ho hpre (fun e he hm=>by
      rcases bNA.1 he with rfl|he
      ·exact hnA hm
      ·exact hEd e he hm)
     have hst:=uW hnd hQ d' [] a w hf hw;refine wpOpIn_mono (fun a w hh=>?_) hst.wpOpIn;have sA:=kQ.erase hc ho hpre hA;rw[n5]at sA hh;have:=wS hnd hQ hc hcont A d' (i::E) _ a w (fun e he=>by
      rcases bNA.1 he with rfl|he
      ·exact oN Xaw
      ·exact getD_set_true (hE e he)) sA hh
     have hl:(d'++(A.list++rest)).length=k:=by simp at hk ⊢;omega
     rw[hl]at this;exact this
    ·by_cases hiq:i=q
     ·subst hiq;have hw:=pM (K:=fun a w=>aMG r bad P all fl Q kont B a w) d' [i] a w (vD (fun _ _ h=>W3 h.2) d' h);have hf:=h2.frontE (c2:=[]) gB ho hpre (fun e he hm=>by
       rcases bNA.1 he with rfl|he
       ·exact hnB hm
       ·exact hEd e he hm)
      have hst:=uW hnd hQ d' [] a w hf hw;refine wpOpIn_mono (fun a w hh=>?_) hst.wpOpIn;have sB:=kQ.erase hc ho hpre hB;rw[n5]at sB hh;have:=wS hnd hQ hc hcont B d' (i::E) _ a w (fun e he=>by
       rcases bNA.1 he with rfl|he
       ·exact oN Xaw
       ·exact getD_set_true (hE e he)) sB hh
      have hl:(d'++(B.list++rest)).length=k:=by simp at hk ⊢;omega
      rw[hl]at this;exact this
     ·exfalso
      rcases he i hm' with hr|hr|hr
      ·exact hiq hr
      ·exact I p Ye hr
      ·exact I q (LE _ (bKY _ hqA)) hr
  obtain⟨hA,hB,hqA,hlen,he⟩:=hr;have:=hmain (pre++d).length (pre++d) L a w rfl hE hA hB hqA hlen he (pM pre d a w h);have e:pre++d++p::(A.list++rest)=pre++((iU.fork d p A q B).list++rest):=by simp[iU.list]
  rw[e]at this;exact this

 |.forkN d p ps A,pre,E,L,a,w,hE,hr,h=>by
  have hmain:∀(m:Nat) (d':List Nat) (L:Array Bool) (a:Act) (w:Δ),d'.length=m→(∀e∈E,L.getD e false=true)→(∀i∈p::ps,kQ all n cont rest (A i) (d'++[i]) (i::E) L∧(A i).list.length=(A p).list.length∧(i=p∨i∈(A p).list++rest))→(∀i∈(A p).list++rest,i∈ps∨∃q∈p::ps,nB all n i q=true)→
    y6 r bad P all fl (fun a w=>∀i∈p::ps,mV r bad P all fl Q i (aMG r bad P all fl Q kont (A i)) a w) Q d' a w→wpAnyIn (FW r) 0 P .any all Q (d'++p::((A p).list++rest)).length L a w:=by
   intro m;induction m using Nat.strongRecOn with
   |_ m ih=>
   intro d' L a w hm hE hA he h;have h1:=kQ.part hc (hA p bKZ).1;rw[bLK]at h1;simp only[bOW]at h1;obtain⟨k,hk⟩:∃k,(d'++p::((A p).list++rest)).length=k+1:=⟨d'.length+((A p).list++rest).length,Yaq⟩
   rw[hk];constructor
   ·intro h0;exfalso
    match hcc:d'++p::((A p).list++rest),hk with
    |i::c',_=>
     rw[hcc]at h1;have hil:=h1.lt i bKZ;have hi:i∈Region.ready .any all L:=by
      refine mem_ready.2 ⟨?_,all[i],by simp[hil],?_⟩
      ·have:=(h1.mem i hil).1 bKZ;rw[bNC]at this ⊢
       rw[bPF Xaw]at this ⊢
       exact this
      ·intro e he hb;rcases h1.topo [] i c' rfl _ (by simp[hil]) e he hb with h|h
       ·exact h
       ·cases h
     rw[h0]at hi;cases hi
   ·intro i hi;obtain⟨hun,o,ho,hpre⟩:=mem_ready.1 hi;have hil:i<all.size:=(bOE.1 ho).1;have hun':L.getD i false=false:=by
     have:=h1.size;rw[bNC]at hun ⊢
     rw[bPF Yd]at hun ⊢
     exact hun
    have hmem:=(h1.mem i hil).2 hun';have I:∀x,x∈d'++p::((A p).list++rest)→nB all n i x=true→False:=by
     intro x hx hr;have:=tY h1.closed n i x o ho hpre (fun j hj=>by
      rcases Nat.lt_or_ge j L.size with h'|h'
      ·have:=h1.size;omega
      ·simp[Array.getElem?_eq_none h']at hj) hr
     have h2:=(h1.mem x (h1.lt x hx)).1 hx;rw[h2]at this;cases this
    have hEd:∀e∈E,e∉d':=fun e he hm=>by
     have:=(h1.mem e (h1.lt e Xag)).1 Xag;rw[hE e he]at this;cases this
    have hnz:∀z∈p::ps,z∉d':=fun z hz hp=>by
     have hn:=(kQ.part hc (hA z hz).1).nodup;rw[bLK,bLJ]at hn;exact hn.2.2 z hp z Ye rfl
    have hin:∀z∈p::ps,z∈d'++p::((A p).list++rest):=fun z hz=>by
     rcases(hA z hz).2.2 with rfl|hz'
     ·simp
     ·exact LE _ (bKY _ hz')
    by_cases hz:i∈p::ps
    ·have h2:=kQ.part hc (hA i hz).1;rw[bLK]at h2;simp only[bOW]at h2;have hw:=pM (K:=fun a w=>aMG r bad P all fl Q kont (A i) a w) d' [i] a w (vD (fun _ _ h=>W3 (h i hz)) d' h);have hf:=h2.frontE (c2:=[]) (kQ.good hc (hA i hz).1) ho hpre (fun e he hm=>by
      rcases bNA.1 he with rfl|he
      ·exact hnz _ hz hm
      ·exact hEd e he hm)
     have hst:=uW hnd hQ d' [] a w hf hw;refine wpOpIn_mono (fun a w hh=>?_) hst.wpOpIn;have sA:=kQ.erase hc ho hpre (hA i hz).1;rw[n5]at sA hh;have:=wS hnd hQ hc hcont (A i) d' (i::E) _ a w (fun e he=>by
      rcases bNA.1 he with rfl|he
      ·exact oN Xaw
      ·exact getD_set_true (hE e he)) sA hh
     have hl:(d'++((A i).list++rest)).length=k:=by
      have:=(hA i hz).2.1;simp at hk ⊢;omega
     rw[hl]at this;exact this
    ·rw[bLM,bNA]at hmem;rcases hmem with hm'|rfl|hm'
     ·obtain⟨c1,c2,rfl⟩:=List.append_of_mem hm';have U:∀z:Nat,(c1++i::c2)++[z]=c1++i::(c2++[z]):=fun z=>by simp
      have V:∀z:Nat,c1++(c2++[z])=(c1++c2)++[z]:=fun z=>by simp
      have gA:=kQ.good hc (hA p bKZ).1;rw[U]at gA;have O:(c1++i::(c2++p::((A p).list++rest))).length=k+1:=by rw[←hk];simp
      have h1':ID all n L (c1++i::(c2++p::((A p).list++rest))):=by simpa using h1
      have hf:=h1'.frontE gA ho hpre (fun e he hm=>by
       rcases bNA.1 he with rfl|he
       ·exact hnz _ bKZ Xag
       ·exact hEd e he Xag)
      have hst:=uW hnd hQ c1 c2 a w hf h;refine wpOpIn_mono (fun a w hh=>?_) hst.wpOpIn;have:=ih (c1++c2).length (by rw[←hm];simp) (c1++c2) _ a w rfl (fun e he=>getD_set_true (hE e he)) (fun z hz=>by
       have R:=(hA z hz).1;rw[U]at R;have sA:=kQ.erase hc ho hpre R;rw[V]at sA;exact⟨sA,(hA z hz).2⟩) he hh
      have hl:((c1++c2)++p::((A p).list++rest)).length=k:=by simp at O ⊢;omega
      rw[hl]at this;exact this
     ·exact absurd bKZ hz
     ·rcases he i hm' with hr|⟨q,hq,hr⟩
      ·exact absurd (bKY _ hr) hz
      ·exact(I q (hin q hq) hr).elim
  obtain⟨hA,he⟩:=hr;have:=hmain (pre++d).length (pre++d) L a w rfl hE hA he (pM pre d a w h);have e:pre++d++p::((A p).list++rest)=pre++((iU.forkN d p ps A).list++rest):=by simp[iU.list]
  rw[e]at this;exact this
theorem AC{n:Nat}{fl:Nat→Bool}(hnd:rC all=true)(hQ:PI Q):∀(segs:List iU) (pre E:List Nat) (L:Array Bool) (a:Act) (w:Δ),(∀e∈E,L.getD e false=true)→aOI all n fl segs pre E L→y6 r bad P all fl (bKP r bad P all fl Q segs) Q pre a w→
  wpAnyIn (FW r) 0 P .any all Q (pre++oJ segs).length L a w
 | [],pre,E,L,a,w,hE,hr,h=>by
  obtain⟨hp,hg⟩:=hr;rw[oJ,n5];refine GD hnd hQ pre L a w hp.size hp.closed hp.nodup hp.mem hp.lt (hg.none fun e he hm=>?_) hp.topo h;have:=(hp.mem e (hp.lt e hm)).1 hm;rw[hE e he]at this;cases this
 |pl::segs,pre,E,L,a,w,hE,hr,h=>
  wS hnd hQ (PU n fl segs) (AC hnd hQ segs) pl pre E L a w hE hr h

def aCE(all:Array Oper)(n:Nat)(fls:List Bool)(S:List Nat)(i:Nat):Bool:=S.all fun x=>nB all n i x||(jK all x&&qH all x i&&(jK all i||(fls.getD i false||A7 all x)))
def vR(all:Array Oper)(n:Nat)(fls:List Bool)(S E:List Nat):List Nat→List Nat→Bool
 |_,[]=>true
 |before,i::rest=>QA all n fls E i before&&aCE all n fls S i&&I8 all i (S++before)&& !(S++before).contains i&&Nat.blt i all.size&&vR all n fls S E (before++[i]) rest
def wO(all:Array Oper)(n:Nat)(fls:List Bool)(S rest T:List Nat):iU→List Nat→List Nat→Bool
 |.fin c,pre,E=>vR all n fls S E [] (pre++c)&&Nat.beq (pre++c).length T.length&&(pre++c).all T.contains&&T.all (pre++c).contains
 |.fork d p A q B,pre,E=>wO all n fls S rest T A (pre++d++[p]) (p::E)&&wO all n fls S rest T B (pre++d++[q]) (q::E)&&((A.list++rest).any fun i=>Nat.beq i q)&&Nat.beq A.list.length B.list.length&&(A.list++rest).all fun i=>Nat.beq i q||(nB all n i p||nB all n i q)
 |.forkN d p ps A,pre,E=>(p::ps).all (fun i=>wO all n fls S rest T (A i) (pre++d++[i]) (i::E)&&Nat.beq (A i).list.length (A p).list.length&&(Nat.beq i p||((A p).list++rest).contains i))&&((A p).list++rest).all fun i=>ps.contains i||(p::ps).any fun q=>nB all n i q
def kY(all:Array Oper)(n:Nat)(fls:List Bool):List Nat→List iU→Bool
 |S,[]=>rC all&&Nat.beq S.length all.size&&(List.range all.size).all S.contains
 |S,pl::segs=>wO all n fls S (oJ segs) pl.list pl [] []&&kY all n fls (S++pl.list) segs
structure KY(all:Array Oper)(n:Nat)(fls:List Bool)(S pre E:List Nat):Prop where
 nodup:pre.Nodup
 mem:∀i,i∈pre ↔ i∈S
 lt:∀i∈pre,i<all.size
 good:R7 all n E (fun i=>fls.getD i false) pre
 topo:yR all (Array.replicate all.size false) pre
 len:pre.length=S.length
theorem PN{n:Nat}{S E:List Nat}{fls:List Bool}:∀(c before c1:List Nat) (i:Nat) (c2:List Nat),vR all n fls S E before c=true→c=c1++i::c2→
  QA all n fls E i (before++c1)=true∧aCE all n fls S i=true∧I8 all i (S++(before++c1))=true∧i∉S++(before++c1)∧i<all.size:=by
 intro c;induction c with
 |nil=>intro before c1 i c2 _ h;simp at h
 |cons x c ih=>
  intro before c1 i c2 hc h;simp only[vR,bKW]at hc;obtain⟨⟨⟨⟨⟨g,cr⟩,t⟩,nm⟩,lt⟩,hc⟩:=hc;cases c1 with
  |nil=>
   simp only[bMH,bNI]at h;rw[←h.1,n5];exact⟨g,cr,t,by simpa using nm,by simpa [Nat.blt_eq]using lt⟩
  |cons y c1=>
   simp only[bNO,bNI]at h;have:=ih (before++[x]) c1 i c2 hc h.2;rw[h.1]at this;simpa using this
theorem KY.more{n:Nat}{fls:List Bool}{S pre E E' T c:List Nat}(h:KY all n fls S pre E)(hE:∀e∈E,e∈E')(hc:vR all n fls S E' [] c=true)(hT:∀i,i∈c ↔ i∈T)(hl:c.length=T.length):KY all n fls (S++T) (pre++c) E':=by
 have sp:=fun c1 i c2 he=>PN c [] c1 i c2 hc he
 simp only[bMH]at sp;have hcn:c.Nodup:=by
  have key:∀(c before:List Nat),vR all n fls S E' before c=true→before.Nodup→(before++c).Nodup:=by
   intro c;induction c with
   |nil=>intro before _ h;simpa using h
   |cons i c ih=>
    intro before h hb;simp only[vR,bKW]at h;have hn:i∉S++before:=by simpa using h.1.1.2
    have:=ih (before++[i]) h.2 (by
     rw[bLJ];refine⟨hb,Ye,fun x hx y hy=>?_⟩;simp only[bLS]at hy;rintro rfl;exact hn (LE _ (hy▸hx)))
    simpa using this
  simpa using key c [] hc bNH
 have hcS:∀i∈c,i∉S:=fun i hi=>by
  obtain⟨c1,c2,rfl⟩:=List.append_of_mem hi;have:=(sp c1 i c2 rfl).2.2.2.1;exact fun hS=>this (bLH _ hS)
 refine⟨?_,fun i=>?_,fun i hi=>?_,?_,?_,by simp[h.len,hl]⟩
 ·rw[bLJ];exact⟨h.nodup,hcn,fun x hx y hy=>by rintro rfl;exact hcS x hy ((h.mem x).1 hx)⟩
 ·simp[h.mem,hT]
 ·rcases bLM.1 hi with hi|hi
  ·exact h.lt i hi
  ·obtain⟨c1,c2,rfl⟩:=List.append_of_mem hi;exact(sp c1 i c2 rfl).2.2.2.2
 ·intro I i d2 he x hx;rcases List.append_eq_append_iff.1 he with⟨t,h1,h2⟩|⟨t,h1,h2⟩
  ·rw[h1]at hx;obtain⟨g,cr,_⟩:=sp t i d2 h2;rcases bLM.1 hx with hx|hx
   ·have:=bLX.1 cr x ((h.mem x).1 hx);simp only[bMF,bKW]at this;rcases this with h'|h'
    ·exact bLG (bLL h')
    ·exact bLG (bLG ⟨h'.1.1,h'.1.2,h'.2⟩)
   ·have:=bLX.1 g x hx;simp only[bMF,bKW]at this;rcases this with(h'|h')|h'
    ·exact bLL (by simpa using h')
    ·exact bLG (bLL h')
    ·exact bLG (bLG ⟨h'.1.1,h'.1.2,h'.2⟩)
  ·cases t with
   |nil=>
    rw[n5]at h1;rw[bMH]at h2;rw[←h1]at hx;obtain⟨g,cr,_⟩:=sp [] i d2 h2.symm;have:=bLX.1 cr x ((h.mem x).1 hx);simp only[bMF,bKW]at this;rcases this with h'|h'
    ·exact bLG (bLL h')
    ·exact bLG (bLG ⟨h'.1.1,h'.1.2,h'.2⟩)
   |cons z t=>
    simp only[bNO,bNI]at h2;rw[←h2.1]at h1;rcases h.good I i t h1 x hx with h'|h'
    ·exact bLL (hE x h')
    ·exact bLG h'
 ·intro I i d2 he o ho e hm hb;rcases List.append_eq_append_iff.1 he with⟨t,h1,h2⟩|⟨t,h1,h2⟩
  ·obtain⟨_,_,tp,_⟩:=sp t i d2 h2;unfold I8 at tp;rw[ho]at tp;simp only[bMS,bOQ,bLX,bMF,bNY,bPT,LT]at tp;rcases tp e (by simpa using hm)with h'|h'
   ·rw[hb]at h';cases h'
   ·rw[h1];rcases bLM.1 h' with h'|h'
    ·exact bLG (bLH _ ((h.mem _).2 h'))
    ·exact bLG (LE _ h')
  ·cases t with
   |nil=>
    rw[n5]at h1;rw[bMH]at h2;obtain⟨_,_,tp,_⟩:=sp [] i d2 h2.symm;unfold I8 at tp;rw[ho]at tp;simp only[bMS,bOQ,bLX,bMF,bNY,bPT,LT]at tp;rcases tp e (by simpa using hm)with h'|h'
    ·rw[hb]at h';cases h'
    ·rw[←h1];rcases bLM.1 h' with h'|h'
     ·exact bLG ((h.mem _).2 h')
     ·cases h'
   |cons z t=>
    simp only[bNO,bNI]at h2;rw[←h2.1]at h1;exact h.topo I i t h1 o ho e hm hb
theorem xC{n:Nat}{fls:List Bool}{S rest T pre E:List Nat}{cont:List Nat→List Nat→Array Bool→Prop}(h:KY all n fls S pre E)(hcont:∀pre' E',KY all n fls (S++T) pre' E'→cont pre' E' (Array.replicate all.size false)):
  ∀{pl:iU} {lp Ep:List Nat},wO all n fls S rest T pl lp Ep=true→kQ all n cont rest pl (pre++lp) (Ep++E) (Array.replicate all.size false)
 |.fin c,lp,Ep,hc=>by
  simp only[wO,bKW,bLX]at hc;obtain⟨⟨⟨h1,h2⟩,h3⟩,h4⟩:=hc;have h1':vR all n fls S (Ep++E) [] (lp++c)=true:=by
   have key:∀(c before:List Nat),vR all n fls S Ep before c=true→vR all n fls S (Ep++E) before c=true:=by
    intro c;induction c with
    |nil=>intro _ _;rfl
    |cons i c ih=>
     intro before hh;simp only[vR,bKW]at hh ⊢
     refine⟨⟨⟨⟨⟨?_,hh.1.1.1.1.2⟩,hh.1.1.1.2⟩,hh.1.1.2⟩,hh.1.2⟩,ih _ hh.2⟩;unfold QA at hh ⊢
     rw[bLX];intro x hx;have:=bLX.1 hh.1.1.1.1.1 x hx;simp only[bMF]at this ⊢
     rcases this with(h'|h')|h'
     ·exact bLL (bLL (by simp only[bPT,LT]at h' ⊢;exact bLH _ h'))
     ·exact bLL (bLG h')
     ·exact bLG h'
   exact key _ _ h1
  have:=h.more (fun e he=>LE Ep he) h1' (T:=T) (fun i=>⟨fun hi=>by simpa using h3 i hi,fun hi=>by simpa using h4 i hi⟩) (bMW h2);show cont (pre++lp++c) (Ep++E) _;rw[bLK];exact hcont _ _ this
 |.fork d p A q B,lp,Ep,hc=>by
  simp only[wO,bKW]at hc;obtain⟨⟨⟨⟨hA,hB⟩,hq⟩,hl⟩,he⟩:=hc;have rA:=xC h hcont hA;have rB:=xC h hcont hB;simp only[←bLK]at rA rB;refine⟨rA,rB,?_,bMW hl,fun i hi=>?_⟩
  ·obtain⟨x,hx,hb⟩:=bPI.1 hq;rw[←bMW hb];exact hx
  ·simpa using bLX.1 he i hi
 |.forkN d p ps A,lp,Ep,hc=>by
  simp only[wO,bKW]at hc;obtain⟨hA,he⟩:=hc;refine⟨fun i hi=>?_,fun i hi=>?_⟩
  ·have h1:=bLX.1 hA i hi;simp only[bKW]at h1;have rA:=xC h hcont h1.1.1;simp only[←bLK]at rA;refine⟨rA,bMW h1.1.2,?_⟩;have h2:=h1.2;rw[bMF]at h2;rcases h2 with h2|h2
   ·exact bLL (bMW h2)
   ·exact bLG Xao
  ·have:=bLX.1 he i hi;rw[bMF]at this;rcases this with h1|h1
   ·exact bLL Xae
   ·obtain⟨q,hq,hr⟩:=bPI.1 h1;exact bLG ⟨q,hq,hr⟩
theorem AG{n:Nat}{fls:List Bool}:∀{segs:List iU} {S pre E:List Nat},KY all n fls S pre E→kY all n fls S segs=true→aOI all n (fun i=>fls.getD i false) segs pre E (Array.replicate all.size false)
 | [],S,pre,E,h,hc=>by
  simp only[kY,bKW,bLX,bMZ,bPT,LT]at hc;refine⟨⟨Ye,?_,h.nodup,fun i hi=>?_,h.lt,h.topo⟩,h.good⟩
  ·intro i o ho hl;simp[Array.getElem?_replicate]at hl;split at hl<;>simp at hl
  ·simp only[bNC,Array.getElem?_replicate,hi,bNM,bOQ,iff_true];exact(h.mem i).2 (hc.2 i hi)
 |pl::segs,S,pre,E,h,hc=>by
  simp only[kY,bKW]at hc;have:=xC (cont:=aOI all n (fun i=>fls.getD i false) segs) (rest:=oJ segs) (T:=pl.list) h (fun pre' E' h'=>AG h' hc.2) hc.1;rw[n5,bMH]at this;exact this
theorem IS{n:Nat}{fls:List Bool}:∀{segs:List iU} {S:List Nat},kY all n fls S segs=true→rC all=true∧(S++oJ segs).length=all.size
 | [],S,hc=>by
  simp only[kY,bKW]at hc;rw[oJ,n5];exact⟨hc.1.1,bMW hc.1.2⟩
 |pl::segs,S,hc=>by
  simp only[kY,bKW]at hc;obtain⟨h1,h2⟩:=IS hc.2;rw[bLK]at h2;exact⟨h1,h2⟩
theorem vG{K:Act→Δ→Prop}{fl:Nat→Bool}:∀(c:List Nat) (a:Act) (w:Δ),(∀i∈c,i<all.size)→vQ r bad P all K Q (jF all (c.map fun i=>(fl i,i))) a w→y6 r bad P all fl K Q c a w:=by
 intro c;induction c with
 |nil=>intro a w _ h;exact h
 |cons i c ih=>
  intro a w hlt h;have hi:=hlt i bKZ;have ho:all[i]?= some all[i]:=by simp[hi]
  have hd:all.getD i default=all[i]:=by simp[hi]
  have hrec:∀a w,vQ r bad P all K Q (jF all (c.map fun i=>(fl i,i))) a w→y6 r bad P all fl K Q c a w:=fun a w hh=>ih a w (fun j hj=>hlt j (bKY _ hj)) hh
  simp only[jF,bMD,vQ,hd]at h;simp only[y6,ho];split at h
  ·rename_i hq;obtain⟨v,hy,h⟩:=h;rw[bLR hq];exact⟨v,hy,hrec _ _ h⟩
  ·rename_i hq;rw[bLI hq];exact h.mono hrec
def B2(r:Option Nat){γb:Type}[Membership Nat γb](bad:γb)(P:Program)(all:Array Oper)(fls:List Bool)(Q:Exit→Act→Δ→Prop)(kont:Act→Δ→Prop):iU→Act→Δ→Prop
 |.fin c=>vQ r bad P all kont Q (jF all (c.map fun i=>(fls.getD i false,i)))
 |.fork d p A q B=>vQ r bad P all (fun a w=>vQ r bad P all (B2 r bad P all fls Q kont A) Q (jF all [(fls.getD p false,p)]) a w∧vQ r bad P all (B2 r bad P all fls Q kont B) Q (jF all [(fls.getD q false,q)]) a w) Q (jF all (d.map fun i=>(fls.getD i false,i)))
 |.forkN d p ps A=>vQ r bad P all (fun a w=>∀i∈p::ps,vQ r bad P all (B2 r bad P all fls Q kont (A i)) Q (jF all [(fls.getD i false,i)]) a w) Q (jF all (d.map fun i=>(fls.getD i false,i)))
def QI(r:Option Nat){γb:Type}[Membership Nat γb](bad:γb)(P:Program)(all:Array Oper)(fls:List Bool)(Q:Exit→Act→Δ→Prop)(K:Act→Δ→Prop):List iU→Act→Δ→Prop
 | []=>K
 |pl::segs=>B2 r bad P all fls Q (QI r bad P all fls Q K segs) pl
def nY(N:Nat):iU→Bool
 |.fin c=>c.all fun i=>Nat.blt i N
 |.fork d p A q B=>d.all (fun i=>Nat.blt i N)&&Nat.blt p N&&Nat.blt q N&&nY N A&&nY N B
 |.forkN d p ps A=>d.all (fun i=>Nat.blt i N)&&(p::ps).all fun i=>Nat.blt i N&&nY N (A i)
theorem wL{fls:List Bool}{kont kont':Act→Δ→Prop}(hk:∀a w,kont a w→kont' a w):∀{pl:iU} {a:Act} {w:Δ},nY all.size pl=true→B2 r bad P all fls Q kont pl a w→aMG r bad P all (fun i=>fls.getD i false) Q kont' pl a w
 |.fin c,a,w,hl,h=>vD hk c (vG c a w (fun i hi=>by simpa [Nat.blt_eq]using bLX.1 hl i hi) h)
 |.fork d p A q B,a,w,hl,h=>by
  simp only[nY,bKW,Nat.blt_eq]at hl;obtain⟨⟨⟨⟨h1,h2⟩,h3⟩,h4⟩,h5⟩:=hl;refine vD ?_ d (vG d a w (fun i hi=>by simpa [Nat.blt_eq]using bLX.1 h1 i hi) h);rintro a w ⟨g1,g2⟩;have one:∀(z:Nat) (K:Act→Δ→Prop),z<all.size→vQ r bad P all K Q (jF all [(fls.getD z false,z)]) a w→mV r bad P all (fun i=>fls.getD i false) Q z K a w:=fun z K hz h=>by
   have:=vG (all:=all) (fl:=fun i=>fls.getD i false) [z] a w (by simpa using hz) h;rw[qL]at this;exact this
  exact⟨(one p _ h2 g1).mono fun a w h=>wL hk h4 h,(one q _ h3 g2).mono fun a w h=>wL hk h5 h⟩
 |.forkN d p ps A,a,w,hl,h=>by
  simp only[nY,bKW]at hl;obtain⟨h1,h2⟩:=hl;refine vD ?_ d (vG d a w (fun i hi=>by simpa [Nat.blt_eq]using bLX.1 h1 i hi) h);intro a w g i hi;have h3:=bLX.1 h2 i hi;simp only[bKW,Nat.blt_eq]at h3;have one:∀(z:Nat) (K:Act→Δ→Prop),z<all.size→vQ r bad P all K Q (jF all [(fls.getD z false,z)]) a w→mV r bad P all (fun i=>fls.getD i false) Q z K a w:=fun z K hz h=>by
   have:=vG (all:=all) (fl:=fun i=>fls.getD i false) [z] a w (by simpa using hz) h;rw[qL]at this;exact this
  exact(one i _ h3.1 (g i hi)).mono fun a w h=>wL hk h3.2 h
theorem AN{fls:List Bool}:∀{segs:List iU} {a:Act} {w:Δ},(segs.all fun pl=>nY all.size pl)=true→QI r bad P all fls Q (fun a w=>Q .normal a w) segs a w→bKP r bad P all (fun i=>fls.getD i false) Q segs a w
 | [],a,w,_,h=>h
 |pl::segs,a,w,hl,h=>by
  rw[bOZ,bKW]at hl;exact wL (fun a w h=>AN hl.2 h) hl.1 h
theorem aRZ{id n:Nat}{fls:List Bool}{segs:List iU}{a:Act}{w:Δ}(hm:P.follows .mixedOrders=true)(hc:(kY all n fls [] segs&&segs.all fun pl=>nY all.size pl)=true)(hQ:PI Q)
  (h:QI r bad P all fls Q (fun a w=>Q .normal a w) segs a {w with drawn:=w.drawn+1}):(Code.region id all true).wpIn (FW r) 0 P Q a w:=by
 rw[bKW]at hc;obtain⟨hnd,hlen⟩:=IS hc.1;have hr:=AG (S:=[]) (pre:=[]) (E:=[]) ⟨bNH,fun i=>Iff.rfl,(fun i hi=>by cases hi),(fun c1 i c2 he=>by simp at he),(fun c1 i c2 he=>by simp at he),rfl⟩ hc.1;refine wpIn_region_any hm ?_;have:=AC (P:=P) (r:=r) (bad:=bad) (n:=n) (fl:=fun i=>fls.getD i false) hnd hQ segs [] [] (Array.replicate all.size false) a {w with drawn:=w.drawn+1} (fun e he=>by cases he) hr (AN hc.2 h);rw[hlen]at this;exact this
abbrev cD:=List (Nat×Γ)
abbrev aD:=List (Nat×Obj)
abbrev aC:=Nat→List Γ
def look:cD→Nat→Option Γ
 | [],_=>none
 |(k,v)::r,s=>match Nat.beq k s with|true=>some v|false=>look r s
def ev(σ:cD):Operand→Option Γ
 |.tmp t=>look σ t
 |.const v=>some v
 |.global g=>some (qP g)
 |.func f=>some (.func (.func f) #[] #[])
def Le(D D':aC):Prop:=(∀b,D b <+: D' b)∧D' 0=D 0
theorem Le.refl(D:aC):Le D D:=⟨fun _=>List.prefix_refl _,rfl⟩
theorem Le.trans{D D' D'':aC}(h:Le D D')(h':Le D' D''):Le D D'':=⟨fun b=>(h.1 b).trans (h'.1 b),h'.2.trans h.2⟩
theorem Le.get{D D':aC}(h:Le D D'){b i:Nat}{v:Γ}(hv:(D b)[i]?= some v):(D' b)[i]?= some v:=by
 obtain⟨t,ht⟩:=h.1 b;rw[←ht,bNP]
 ·exact hv
 ·exact(bLD.1 hv).1
def fO(D:aC)(w:Δ):Prop:=(∀b,D b≠[]→∃cs e fz,w.heap[b]?= some (.cells cs e fz)∧D b <+: cs.toList)∧D 0≠[]∧∃e fz,w.heap[0]?= some (.cells (D 0).toArray e fz)
theorem fO.of{D D':aC}{w w':Δ}(h:fO D w)(h1:∀b,D' b≠[]→∃cs e fz,w'.heap[b]?= some (.cells cs e fz)∧D' b <+: cs.toList)(hD:D' 0=D 0)(hw:w'.heap[0]?= w.heap[0]?):fO D' w':=by
 refine⟨h1,?_⟩;rw[hD,hw];exact h.2
theorem fO.ne0{D:aC}{w:Δ}(h:fO D w){b:Nat}(hb:D b=[]):b≠0:=fun e=>h.2.1 (e▸hb)
theorem fO.pos{D:aC}{w:Δ}(h:fO D w):0<w.heap.size:=by
 obtain⟨-, -,e,fz,h⟩:=h;exact(bOE.1 h).1
def dC:Obj→Prop
 |.cells _ _ z=>z=(0,0)
 |_=>True
def VX(w:Δ):Os×Array (Nat×Λ):=(w.os,w.output)
structure H0 where
 arr:Array Obj
 env:Option (Os×Array (Nat×Λ))
abbrev H0.size(h:H0):Nat:=h.arr.size
abbrev hd(w:Δ):H0:=⟨w.heap,some (VX w)⟩
structure jE(h0:H0)(lo:Nat)(D0:aC)(mods:List Nat)(μ:aD)(D:aC)(w:Δ):Prop where
 hlo:h0.size≤lo
 size:lo≤w.heap.size
 old:∀b,b<h0.size→b∉mods→w.heap[b]?= h0.arr[b]?
 dold:∀b,b<h0.size→D b=D0 b
 agr:fO D w
 box:∀p∈μ,w.heap[p.1]?= some p.2∧D p.1=[]∧(lo≤p.1∨p.1∈mods)
 nd:(μ.map (·.1)).Nodup
 fz:∀p∈μ,dC p.2
 env:∀e,h0.env=some e→VX w=e
def G2(lo:Nat)(D:aC)(w:Δ):Prop:=fO D w∧lo≤w.heap.size
theorem jE.dom{h0:H0}{lo:Nat}{D0:aC}{mods:List Nat}{μ:aD}{D:aC}{w:Δ}(h:jE h0 lo D0 mods μ D w):G2 lo D w:=⟨h.agr,h.size⟩
def aVF(β:List Nat)(D:aC)(w:Δ)(D':aC)(w':Δ):Prop:=w.heap.size≤w'.heap.size∧(∀b,b<w.heap.size→b∉β→w'.heap[b]?= w.heap[b]?∧D' b=D b)∧VX w'=VX w
theorem aVF.refl(β:List Nat)(D:aC)(w:Δ):aVF β D w D w:=⟨bLQ _,fun _ _ _=>⟨rfl,rfl⟩,rfl⟩
structure T1(lo:Nat)(J:List Nat→aC→Δ→Prop):Prop where
 low:∀β D w D' w',J β D w→aVF β D w D' w'→G2 lo D' w'→J β D' w'
 own:∀β β' D w,J β D w→(∀b∈β',b∈β∨w.heap.size≤b)→J β' D w
structure Cx where
 r:Option Nat
 N:Nat
 ds:List Deferred
 h0:H0
 lo:Nat
 D0:aC
 mods:List Nat
 ex:Option (List Nat→aC→Δ→Prop)
def Q6(X:Cx)(μ:aD)(D:aC)(w:Δ):Prop:=
 match X.ex with
 |none=>True
 |some J=>T1 X.lo J∧J (μ.map (·.1)) D w
theorem Q6.step{X:Cx}{μ μ':aD}{D D':aC}{w w':Δ}(h:Q6 X μ D w)(hk:X.ex≠none→∀p∈μ',p.1∈μ.map (·.1)∨w.heap.size≤p.1)(hl:X.ex≠none→aVF (μ.map (·.1)) D w D' w')(hd:G2 X.lo D' w'):Q6 X μ' D' w':=by
 unfold Q6 at *;cases hx:X.ex with
 |none=>trivial
 |some J=>
  rw[hx]at h;have hne:X.ex≠none:=by simp[hx]
  refine⟨h.1,?_⟩;have h1:=h.1.own _ (μ'.map (·.1)++μ.map (·.1)) D w h.2 (fun b hb=>by
   rcases bLM.1 hb with hb|hb
   ·obtain⟨p,hp,rfl⟩:=bKX.1 hb;exact hk hne p hp
   ·exact bLL hb)
  have h2:=h.1.low _ D w D' w' h1 ⟨(hl hne).1,fun b hb hn=>(hl hne).2.1 b hb fun hm=>hn (LE _ hm),(hl hne).2.2⟩ hd;exact h.1.own _ _ D' w' h2 fun b hb=>bLL (bLH _ hb)
def Hl(X:Cx)(σ:cD)(μ:aD)(Ds:List aC)(a:Act)(w:Δ):Prop:=
 a.tmps.size=X.N∧(∀s v,look σ s=some v→a.tmps[s]?= some v)∧a.defers=X.ds∧∃D,jE X.h0 X.lo X.D0 X.mods μ D w∧(∀D₁∈Ds,Le D₁ D)∧Q6 X μ D w
def WL(P:Program)(X:Cx){γb:Type}[Membership Nat γb](bad:γb)(all:Array Oper)(K:Act→Δ→Prop)(Q:Exit→Act→Δ→Prop)(os:List (Bool×Nat))(σ:cD)(μ:aD)(Ds:List aC):Prop:=
 ∀a w,Hl X σ μ Ds a w→vQ X.r bad P all K Q (jF all os) a w
def WC(P:Program)(X:Cx)(Q:Exit→Act→Δ→Prop)(c:Code)(σ:cD)(μ:aD)(Ds:List aC):Prop:=
 ∀a w,Hl X σ μ Ds a w→c.wpIn (FW X.r) 0 P Q a w
variable{P:Program}{X:Cx}{γb:Type}[Membership Nat γb]{bad:γb}{all:Array Oper}{K:Act→Δ→Prop}{Q:Exit→Act→Δ→Prop}
variable{σ:cD}{μ:aD}{Ds:List aC}{os:List (Bool×Nat)}{fl:Bool}{ix:Nat}
theorem Hl.eval{a:Act}{w:Δ}(h:Hl X σ μ Ds a w){x:Operand}{v:Γ}(hx:ev σ x=some v):a.eval x=v:=by
 cases x with
 |tmp t=>
  have:=h.2.1 t v hx;show a.tmps.getD t undef=v;rw[bNC,this];rfl
 |const v=>exact bLY hx
 |global g=>exact bLY hx
 |func f=>exact bLY hx
theorem Hl.put{a:Act}{w:Δ}(h:Hl X σ μ Ds a w){d:Nat}(hd:Nat.blt d X.N=true)(v:Γ):Hl X ((d,v)::σ) μ Ds (a.put (some d) v) w:=by
 have hd':d<X.N:=by simpa [Nat.blt_eq]using hd
 refine⟨by simpa [Act.put]using h.1,fun s u hs=>?_,h.2.2.1,h.2.2.2⟩;simp only[look]at hs;simp only[Act.put];cases hb:Nat.beq d s with
 |true=>
  rw[hb]at hs;obtain rfl:=bMW hb;cases hs;rw[Array.getElem?_setIfInBounds_self_of_lt (by rw[h.1];exact hd')]
 |false=>
  rw[hb]at hs;rw[bNZ (fun e=>by subst e;simp at hb)]
  exact h.2.1 s u hs
def CG:cD→cD→Prop
 |_,[]=>True
 |σ,(k,v)::r=>look σ k=some v∧CG σ r
theorem CG.look{σ σ':cD}(h:CG σ σ'){s:Nat}{v:Γ}(hv:look σ' s=some v):look σ s=some v:=by
 induction σ' with
 |nil=>cases hv
 |cons p r ih=>
  obtain⟨k,u⟩:=p;simp only[Fs.look]at hv;cases hb:Nat.beq k s with
  |true=>rw[hb]at hv;cases hv;obtain rfl:=bMW hb;exact h.1
  |false=>rw[hb]at hv;exact ih h.2 hv
theorem jE.sub{h0:H0}{lo:Nat}{D0:aC}{mods:List Nat}{μ μ':aD}{D:aC}{w:Δ}(h:jE h0 lo D0 mods μ D w)(hs:∀p∈μ',p∈μ)(hn:(μ'.map (·.1)).Nodup):jE h0 lo D0 mods μ' D w:=
 ⟨h.hlo,h.size,h.old,h.dold,h.agr,fun p hp=>h.box p (hs p hp),hn,fun p hp=>h.fz p (hs p hp),h.env⟩
theorem Hl.weak{σ':cD}{μ':aD}{Ds':List aC}{a:Act}{w:Δ}(h:Hl X σ μ Ds a w)(hσ:CG σ σ')(hμ:μ'.Sublist μ)(hD:∀D∈Ds',∃D'∈Ds,Le D D'):Hl X σ' μ' Ds' a w:=by
 obtain⟨h1,h2,h3,D,h4,h5,I⟩:=h;refine⟨h1,fun s v hv=>h2 s v (hσ.look hv),h3,D,h4.sub (fun p hp=>hμ.mem hp) ((hμ.map (·.1)).nodup h4.nd),fun D₁ hD₁=>?_,I.step (fun _ p hp=>bLL (bKX.2 ⟨p,hμ.mem hp,rfl⟩)) (fun _=>aVF.refl _ _ _) h4.dom⟩;obtain⟨D₂,hm,hle⟩:=hD D₁ hD₁;exact hle.trans (h5 D₂ hm)
theorem CG.app{σ σ1 σ2:cD}(h1:CG σ σ1)(h2:CG σ σ2):CG σ (σ1++σ2):=by
 induction σ1 with
 |nil=>exact h2
 |cons p r ih=>exact⟨h1.1,ih h1.2⟩
theorem AP{σ1 σ2:cD}{s:Nat}{v:Γ}(h:look (σ1++σ2) s=some v):look σ1 s=some v∨look σ2 s=some v:=by
 induction σ1 with
 |nil=>exact bLG h
 |cons p r ih=>
  obtain⟨k,u⟩:=p;simp only[bNO,look]at h ⊢
  cases hb:Nat.beq k s with
  |true=>rw[hb]at h;exact bLL h
  |false=>rw[hb]at h;exact ih h

def NP(Q:Exit→Act→Δ→Prop):Prop:=∀c a w,¬Q (.panic c) a w
theorem NP.pi(h:NP Q):PI Q:=fun c a _ w _ hq=>absurd hq (h c a w)
theorem aFJ{x y:Code}(h:WC P X (Exit.then (y.wpIn (FW X.r) 0 P Q) Q) x σ μ Ds):WC P X Q (.seq x y) σ μ Ds:=
 fun a w hh=>wpIn_seq (h a w hh)
theorem _root_.Go.Fs.Za5{x:Code}{y:Code}(h:WC P X (Exit.then (y.wpIn (FW X.r) 0 P Q) Q) x σ μ Ds):WC P X Q (.seq x y) σ μ Ds:=aFJ h
theorem bJ(h:∀a w,Hl X σ μ Ds a w→Q .normal a w):WC P X Q .skip σ μ Ds:=fun a w hh=>wpIn_skip (h a w hh)
theorem bGY{id:Nat}(h:∀a w,Hl X σ μ Ds a w→Q (.exit id) a w):WC P X Q (.exit id) σ μ Ds:=fun a w hh=>wpIn_exit (h a w hh)
theorem _root_.Go.Fs.Za8{id:Nat}(h:∀a w,Hl X σ μ Ds a w→Q (.exit id) a w):WC P X Q (.exit id) σ μ Ds:=bGY h
theorem IX(h:∀a w,Hl X σ μ Ds a w→Q .ret a w):WC P X Q .ret σ μ Ds:=fun a w hh=>wpIn_ret (h a w hh)
theorem XN{y:Code}(h:WC P X Q y σ μ Ds):∀a w,Hl X σ μ Ds a w→(Exit.then (y.wpIn (FW X.r) 0 P Q) Q) .normal a w:=h
theorem _root_.Go.Fs.Za1{y:Code}(h:WC P X Q y σ μ Ds):∀a w,Hl X σ μ Ds a w→(Exit.then (y.wpIn (FW X.r) 0 P Q) Q) .normal a w:=XN h
theorem aAF{c:Operand}{x y:Code}{b:Bool}(hc:ev σ c=some (.bool b))(ht:b=true→WC P X Q x σ μ Ds)(hf:b=false→WC P X Q y σ μ Ds):WC P X Q (.cond c x y) σ μ Ds:=
 fun a w hh=>wpIn_cond_split (hh.eval hc) (fun e=>ht e a w hh) fun e=>hf e a w hh
theorem _root_.Go.Fs.Zaf{c:Operand}{x:Code}{y:Code}{b:Bool}(hc:ev σ c=some (.bool b))(ht:b=true→WC P X Q x σ μ Ds)(hf:b=false→WC P X Q y σ μ Ds):WC P X Q (.cond c x y) σ μ Ds:=aAF hc ht hf
theorem bDB{id:Nat}{c:Code}(h:WC P X (Exit.inBlock id Q) c σ μ Ds):WC P X Q (.block id c) σ μ Ds:=fun a w hh=>wpIn_block (h a w hh)
theorem _root_.Go.Fs.Za3{id:Nat}{c:Code}(h:WC P X (Exit.inBlock id Q) c σ μ Ds):WC P X Q (.block id c) σ μ Ds:=bDB h
theorem ON{id:Nat}{a:Act}{w:Δ}(h:Q .normal a w):Exit.inBlock id Q (.exit id) a w:=by simp[Exit.inBlock,h]
theorem HG{id id':Nat}(hne:Nat.beq id' id=false){a:Act}{w:Δ}(h:Q (.exit id') a w):Exit.inBlock id Q (.exit id') a w:=by
 have:id'≠id:=fun e=>by subst e;simp at hne
 simp[Exit.inBlock,this,h]
theorem aOX(is:List (Bool×Nat)){id:Nat}{ops:Array Oper}(hi:is=(List.range ops.size).map fun i=>(false,i))(h:WL P X [] ops (fun a w=>Q .normal a w) Q is σ μ Ds):WC P X Q (.region id ops false) σ μ Ds:=
 fun a w hh=>aOA (by rw[aST,←hi];exact h a w hh)
theorem aP{id:Nat}{ops:Array Oper}(h:WL P X [] ops (fun a w=>Q .normal a w) Q ((List.range ops.size).map fun i=>(false,i)) σ μ Ds):WC P X Q (.region id ops false) σ μ Ds:=aOX _ rfl h
theorem cR{p:Prop}(h:p:=by repeat (first|exact trivial|refine⟨rfl,?_⟩)):p:=h
theorem C.fo{Q:Program}(h:Q.follows .mixedOrders=true:=by exact bC):Q.follows .mixedOrders=true:=h
theorem cB{α:Type}(l:List α)(i:Nat)(h:i<l.length:=by omega):∃x,l[i]?= some x:=⟨_,bLB h⟩
theorem Hl.drew{a:Act}{w:Δ}(h:Hl X σ μ Ds a w):Hl X σ μ Ds a {w with drawn:=w.drawn+1}:=by
 obtain⟨h1,h2,h3,D,h4,h5,I⟩:=h;exact⟨h1,h2,h3,D,⟨h4.hlo,h4.size,h4.old,h4.dold,h4.agr,h4.box,h4.nd,h4.fz,h4.env⟩,h5,I.step (fun _ p hp=>bLL (bKX.2 ⟨p,hp,rfl⟩)) (fun _=>⟨bLQ _,fun _ _ _=>⟨rfl,rfl⟩,rfl⟩) h4.dom⟩
def WS(P:Program)(X:Cx){γb:Type}[Membership Nat γb](bad:γb)(all:Array Oper)(fls:List Bool)(K:Act→Δ→Prop)(Q:Exit→Act→Δ→Prop)(segs:List iU)(σ:cD)(μ:aD)(Ds:List aC):Prop:=
 ∀a w,Hl X σ μ Ds a w→QI X.r bad P all fls Q K segs a w
def WP(P:Program)(X:Cx){γb:Type}[Membership Nat γb](bad:γb)(all:Array Oper)(fls:List Bool)(kont:Act→Δ→Prop)(Q:Exit→Act→Δ→Prop)(pl:iU)(σ:cD)(μ:aD)(Ds:List aC):Prop:=
 ∀a w,Hl X σ μ Ds a w→B2 X.r bad P all fls Q kont pl a w
theorem EW{γb:Type}[Membership Nat γb](bad:γb)(n:Nat)(fls:List Bool)(segs:List iU){id:Nat}{ops:Array Oper}(hm:P.follows .mixedOrders=true)(hQ:PI Q)(hc:(kY ops n fls [] segs&&segs.all fun pl=>nY ops.size pl)=true)
  (h:WS P X bad ops fls (fun a w=>Q .normal a w) Q segs σ μ Ds):WC P X Q (.region id ops true) σ μ Ds:=by
 intro a w hh;exact aRZ (bad:=bad) hm hc hQ (h a _ hh.drew)
theorem mT{γb:Type}[Membership Nat γb](bad:γb)(n:Nat)(fls:List Bool)(segs:List iU){id:Nat}{ops:Array Oper}(hm:P.follows .mixedOrders=true)(hQ:NP Q)(hc:(kY ops n fls [] segs&&segs.all fun pl=>nY ops.size pl)=true)
  (h:WS P X bad ops fls (fun a w=>Q .normal a w) Q segs σ μ Ds):WC P X Q (.region id ops true) σ μ Ds:=EW bad n fls segs hm hQ.pi hc h
section segments
variable{fls:List Bool}{kont:Act→Δ→Prop}
theorem mG(h:∀a w,Hl X σ μ Ds a w→K a w):WS P X bad all fls K Q [] σ μ Ds:=h
theorem lI{c:List Nat}{segs:List iU}(is:List (Bool×Nat))(hi:is=c.map fun i=>(fls.getD i false,i))(h:WL P X bad all (fun a w=>QI X.r bad P all fls Q K segs a w) Q is σ μ Ds):WS P X bad all fls K Q (.fin c::segs) σ μ Ds:=by
 subst hi;exact h
theorem qT{pl:iU}{segs:List iU}(h:WP P X bad all fls (fun a w=>QI X.r bad P all fls Q K segs a w) Q pl σ μ Ds):WS P X bad all fls K Q (pl::segs) σ μ Ds:=h
theorem aV{c:List Nat}(is:List (Bool×Nat))(hi:is=c.map fun i=>(fls.getD i false,i))(h:WL P X bad all kont Q is σ μ Ds):WP P X bad all fls kont Q (.fin c) σ μ Ds:=by
 subst hi;exact h
theorem bQ{d:List Nat}{p q:Nat}{A B:iU}(is:List (Bool×Nat))(hi:is=d.map fun i=>(fls.getD i false,i))
  (h:WL P X bad all (fun a w=>vQ X.r bad P all (B2 X.r bad P all fls Q kont A) Q (jF all [(fls.getD p false,p)]) a w∧vQ X.r bad P all (B2 X.r bad P all fls Q kont B) Q (jF all [(fls.getD q false,q)]) a w) Q is σ μ Ds):WP P X bad all fls kont Q (.fork d p A q B) σ μ Ds:=by
 subst hi;exact h
theorem dV{p q:Nat}{A B:iU}(bp bq:Bool)(hp:fls.getD p false=bp)(hq:fls.getD q false=bq)(h1:WL P X bad all (fun a w=>B2 X.r bad P all fls Q kont A a w) Q [(bp,p)] σ μ Ds)(h2:WL P X bad all (fun a w=>B2 X.r bad P all fls Q kont B a w) Q [(bq,q)] σ μ Ds):
  ∀a w,Hl X σ μ Ds a w→vQ X.r bad P all (B2 X.r bad P all fls Q kont A) Q (jF all [(fls.getD p false,p)]) a w∧vQ X.r bad P all (B2 X.r bad P all fls Q kont B) Q (jF all [(fls.getD q false,q)]) a w:=fun a w hh=>by
 subst hp hq;exact⟨h1 a w hh,h2 a w hh⟩
theorem sW{d:List Nat}{p:Nat}{ps:List Nat}{A:Nat→iU}(is:List (Bool×Nat))(hi:is=d.map fun i=>(fls.getD i false,i))
  (h:WL P X bad all (fun a w=>∀i∈p::ps,vQ X.r bad P all (B2 X.r bad P all fls Q kont (A i)) Q (jF all [(fls.getD i false,i)]) a w) Q is σ μ Ds):WP P X bad all fls kont Q (.forkN d p ps A) σ μ Ds:=by
 subst hi;exact h
theorem G7{A:Nat→iU}:∀a w,Hl X σ μ Ds a w→∀i∈([]:List Nat),vQ X.r bad P all (B2 X.r bad P all fls Q kont (A i)) Q (jF all [(fls.getD i false,i)]) a w:=fun _ _ _ _ h=>by cases h
theorem gY{A:Nat→iU}{p:Nat}{ps:List Nat}(b:Bool){B:iU}(hb:fls.getD p false=b)(hB:A p=B)(h1:WL P X bad all (fun a w=>B2 X.r bad P all fls Q kont B a w) Q [(b,p)] σ μ Ds)
  (h2:∀a w,Hl X σ μ Ds a w→∀i∈ps,vQ X.r bad P all (B2 X.r bad P all fls Q kont (A i)) Q (jF all [(fls.getD i false,i)]) a w):
  ∀a w,Hl X σ μ Ds a w→∀i∈p::ps,vQ X.r bad P all (B2 X.r bad P all fls Q kont (A i)) Q (jF all [(fls.getD i false,i)]) a w:=fun a w hh i hi=>by
 rcases bNA.1 hi with rfl|hi
 ·rw[hb,hB];exact h1 a w hh
 ·exact h2 a w hh i hi
end segments
def UY(c:List Nat)(bits:List Bool):List Bool:=(List.range c.length).map fun i=>(bits.zip c).any fun p=>p.1&&Nat.beq p.2 i
theorem aDC{γb:Type}[Membership Nat γb](bad:γb)(n:Nat)(c:List Nat)(bits:List Bool)(is:List (Bool×Nat)){id:Nat}{ops:Array Oper}(hm:P.follows .mixedOrders=true)(hQ:PI Q)(hc:((kY ops n (UY c bits) [] [.fin c]&&nY ops.size (.fin c))&&(bits.zip c==c.map fun i=>((UY c bits).getD i false,i)))=true)(hi:is=bits.zip c)
  (h:WL P X bad ops (fun a w=>Q .normal a w) Q is σ μ Ds):WC P X Q (.region id ops true) σ μ Ds:=by
 rw[bKW]at hc;exact EW bad n (UY c bits) [.fin c] hm hQ (by rw[bOZ,List.all_nil,Bool.and_true];exact hc.1) (lI is (hi.trans (eq_of_beq hc.2)) h)
theorem iZ{γb:Type}[Membership Nat γb](bad:γb)(n:Nat)(c:List Nat)(bits:List Bool)(is:List (Bool×Nat)){id:Nat}{ops:Array Oper}(hm:P.follows .mixedOrders=true)(hQ:NP Q)(hc:((kY ops n (UY c bits) [] [.fin c]&&nY ops.size (.fin c))&&(bits.zip c==c.map fun i=>((UY c bits).getD i false,i)))=true)(hi:is=bits.zip c)
    (h:WL P X bad ops (fun a w=>Q .normal a w) Q is σ μ Ds):WC P X Q (.region id ops true) σ μ Ds:=aDC bad n c bits is hm hQ.pi hc hi h
def aKD(n m:Nat):List (Bool×Nat):=(List.range n).map fun i=>(Nat.testBit m i,i)
def XO(k m:Nat):List Bool:=(List.range k).map fun i=>Nat.testBit m i
theorem bKR(k m:Nat):aKD k m=(List.range k).map fun i=>((XO k m).getD i false,i):=bQJ fun i hi=>by
  have h:=bMZ.1 hi;simp[XO,h]
theorem GU{γb:Type}[Membership Nat γb](bad:γb)(n k m:Nat){id:Nat}{ops:Array Oper}(hQ:PI Q)(h:WL P X bad ops (fun a w=>Q .normal a w) Q (aKD k m) σ μ Ds)(hc:(kY ops n (XO k m) [] [.fin (List.range k)]&&nY ops.size (.fin (List.range k)))=true:=by kernel_rfl)(hm:P.follows .mixedOrders=true:=by exact bC):WC P X Q (.region id ops true) σ μ Ds:=
 EW bad n (XO k m) [.fin (List.range k)] hm hQ (by rw[bOZ,List.all_nil,Bool.and_true];exact hc) (lI (aKD k m) (bKR k m) h)
theorem PI.thn{k:Act→Δ→Prop}(h:PI Q):PI (Exit.then k Q):=fun c a b w d q=>h c a b w d q
theorem PI.inb{i:Nat}(h:PI Q):PI (Exit.inBlock i Q):=fun c a b w d q=>h c a b w d q
theorem NP.inb{i:Nat}(h:NP Q):NP (Exit.inBlock i Q):=fun c a w q=>h c a w q
theorem NP.thn{k:Act→Δ→Prop}(h:NP Q):NP (Exit.then k Q):=fun c a w q=>h c a w q
theorem aY{γb:Type}[Membership Nat γb](bad:γb)(n k m:Nat){id:Nat}{ops:Array Oper}(h:WL P X bad ops (fun a w=>Q .normal a w) Q (aKD k m) σ μ Ds)(hQ:PI Q:=by repeat (first|exact aBV|refine PI.thn ?_|refine PI.inb ?_|refine PI.ngt ?_))(hc:(kY ops n (XO k m) [] [.fin (List.range k)]&&nY ops.size (.fin (List.range k)))=true:=by kernel_rfl)(hm:P.follows .mixedOrders=true:=by exact bC):WC P X Q (.region id ops true) σ μ Ds:=GU bad n k m hQ h hc hm
theorem uJ{γb:Type}[Membership Nat γb](bad:γb)(n k m:Nat){id:Nat}{ops:Array Oper}(hQ:NP Q)(h:WL P X bad ops (fun a w=>Q .normal a w) Q (aKD k m) σ μ Ds)(hc:(kY ops n (XO k m) [] [.fin (List.range k)]&&nY ops.size (.fin (List.range k)))=true:=by kernel_rfl)(hm:P.follows .mixedOrders=true:=by exact bC):WC P X Q (.region id ops true) σ μ Ds:=GU bad n k m hQ.pi h hc hm
theorem bE{γb:Type}[Membership Nat γb](bad:γb)(n k m:Nat){id:Nat}{ops:Array Oper}(h:WL P X bad ops (fun a w=>Q .normal a w) Q (aKD k m) σ μ Ds)(hQ:NP Q:=by repeat (first|exact eZ|exact kK|exact j2|refine NP.thn ?_|refine NP.inb ?_|refine NP.ngt ?_))(hc:(kY ops n (XO k m) [] [.fin (List.range k)]&&nY ops.size (.fin (List.range k)))=true:=by kernel_rfl)(hm:P.follows .mixedOrders=true:=by exact bC):WC P X Q (.region id ops true) σ μ Ds:=GU bad n k m hQ.pi h hc hm
def FC:List (Nat×iU)→Nat→iU
 | [],_=>.fin []
 |(j,pl)::l,i=>bif Nat.beq i j then pl else FC l i
theorem bEZ{γ:Type}{c:Code}(m:γ→Nat)(I:γ→Prop)(S:γ→cD)(M:γ→aD)(E:γ→List aC)(g₀:γ)(h₀:I g₀)(hσ:CG σ (S g₀))(hμ:(M g₀).Sublist μ)(hD:∀D∈E g₀,∃D'∈Ds,Le D D')
  (round:∀g,I g→WC P X (Exit.then (fun a w=>∃g',I g'∧m g'<m g∧Hl X (S g') (M g') (E g') a w) Q) c (S g) (M g) (E g)):WC P X Q (.loop c) σ μ Ds:=by
 let p:Act→Δ→Nat→Prop:=fun a w n=>∃g,I g∧m g=n∧Hl X (S g) (M g) (E g) a w
 have ex:∀a w,(∃n,p a w n)→∃n,p a w n∧∀k,p a w k→n≤k:=by
  intro a w ⟨n,hn⟩;induction n using Nat.strongRecOn with
  |_ n ih=>
   by_cases h:∃k,k<n∧p a w k
   ·obtain⟨k,hk,hp⟩:=h;exact ih k hk hp
   ·exact⟨n,hn,fun k hk=>Nat.le_of_not_lt fun hl=>h ⟨k,hl,hk⟩⟩
 intro a w hh;refine wpIn_loop (fun a w=>∃n,p a w n) (fun a w=>open Classical in if h:∃n,p a w n then(ex a w h).choose else 0) ⟨_,g₀,h₀,rfl,hh.weak hσ hμ hD⟩ ?_;intro a w hI;obtain⟨⟨g,hg,hm,hst⟩,hmin⟩:=(ex a w hI).choose_spec;refine wpIn_mono (round g hg a w hst) fun e a' w' hq=>?_
 cases e with
 |normal=>
  obtain⟨g',hg',hlt,hst'⟩:=hq;have hI':∃n,p a' w' n:=⟨_,g',hg',rfl,hst'⟩
  refine⟨hI',?_⟩;simp only[dif_pos hI',dif_pos hI];have:=(ex a' w' hI').choose_spec.2 _ ⟨g',hg',rfl,hst'⟩;omega
 |_=>exact hq

def dH(all:Array Oper)(σ:cD):Option (Nat×Bool)→Prop
 |none=>True
 |some (j,want)=>∃s,(all[j]?).bind (·.dst)=some s∧look σ s=some (.bool want)
def bKO(all:Array Oper)(σ:cD):Option (Nat×Bool)→Prop
 |none=>False
 |some (j,want)=>∃s v,(all[j]?).bind (·.dst)=some s∧look σ s=some v∧(match v with|.bool b=>Bool.xor b want|_=>true)=true
theorem Hl.wanted{a:Act}{w:Δ}(h:Hl X σ μ Ds a w){o:Oper}(hg:dH all σ o.guard):Region.wanted o (yielded all a.tmps)=true:=by
 unfold Region.wanted;cases hgd:o.guard with
 |none=>rfl
 |some p=>
  obtain⟨j,want⟩:=p;rw[hgd]at hg;obtain⟨s,hs,hl⟩:=hg;simp[yielded,hs,h.2.1 s _ hl]
theorem Hl.unwanted{a:Act}{w:Δ}(h:Hl X σ μ Ds a w){o:Oper}(hg:bKO all σ o.guard):Region.wanted o (yielded all a.tmps)=false:=by
 unfold Region.wanted;cases hgd:o.guard with
 |none=>rw[hgd]at hg;exact hg.elim
 |some p=>
  obtain⟨j,want⟩:=p;rw[hgd]at hg;obtain⟨s,v,hs,hl,hv⟩:=hg;have hy:yielded all a.tmps j=(match v with|.bool b=>some b|_=>none):=by
   simp only[yielded,hs,Option.bind_some,h.2.1 s _ hl];cases v<;>rfl
  simp only[hy];cases v with
  |bool b=>cases b<;>cases want<;>first|rfl|(simp at hv)
  |_=>rfl
theorem l3(h:∀a w,Hl X σ μ Ds a w→K a w):WL P X bad all K Q [] σ μ Ds:=fun a w hh=>h a w hh
theorem _root_.Go.Fs.Zap(h:∀a w,Hl X σ μ Ds a w→K a w):WL P X bad all K Q [] σ μ Ds:=l3 h
theorem B5{o:Oper}(ho:all[ix]?= some o):jF all ((fl,ix)::os)=(fl,o)::jF all os:=by simp[jF,ho]
theorem pD{o:Oper}{d:Nat}{v:Γ}(ho:all[ix]?= some o)(hq:lM o.op=true)(hd:o.dst=some d)(hN:Nat.blt d X.N=true)(hg:dH all σ o.guard)
  (hv:∀a w,Hl X σ μ Ds a w→∀w',qA bad w w'→(execOp a.eval o).run P w'=.ok (.value v) w') (k:WL P X bad all K Q os ((d,v)::σ) μ Ds):WL P X bad all K Q ((fl,ix)::os) σ μ Ds:=by
 intro a w hh;rw[B5 ho];simp only[vQ,hq,bNM];refine⟨v,bLL ⟨hh.wanted hg,hv a w hh⟩,?_⟩;rw[hd];exact k _ _ (hh.put hN v)
theorem bZ{o:Oper}{d:Nat}{v:Γ}(ho:all[ix]?= some o)(hq:lM o.op=true)(hd:o.dst=some d)(hN:Nat.blt d X.N=true)(hg:dH all σ o.guard)
  (hv:∀ρ:Operand→Γ,(∀x u,ev σ x=some u→ρ x=u)→∀w',(execOp ρ o).run P w'=.ok (.value v) w') (k:WL P X bad all K Q os ((d,v)::σ) μ Ds):WL P X bad all K Q ((fl,ix)::os) σ μ Ds:=
 pD ho hq hd hN hg (fun a _ hh w' _=>hv a.eval (fun _ _ hx=>hh.eval hx) w') k
theorem bGO{o:Oper}{d:Nat}(ho:all[ix]?= some o)(hd:o.dst=some d)(hN:Nat.blt d X.N=true)(hg:bKO all σ o.guard)(k:WL P X bad all K Q os ((d,undef)::σ) μ Ds):WL P X bad all K Q ((fl,ix)::os) σ μ Ds:=by
 intro a w hh;rw[B5 ho];simp only[vQ];split
 ·refine⟨undef,bLG ⟨hh.unwanted hg,rfl⟩,?_⟩;rw[hd];exact k _ _ (hh.put hN _)
 ·unfold T4;rw[bLI (by rw[hh.unwanted hg];simp),hd]
  exact k _ _ (hh.put hN _)
theorem _root_.Go.Fs.Zh{o:Oper}{d:Nat}(e9:(all[ix]?,o.dst)=(some o,some d))(k:WL P X bad all K Q os ((d,undef)::σ) μ Ds)(hN:Nat.blt d X.N=true:=by exact rfl)(hg:bKO all σ o.guard:=by exact⟨_,_,rfl,rfl,rfl⟩):WL P X bad all K Q ((fl,ix)::os) σ μ Ds:=bGO (bLE (fun z=>z.1) e9) (bLE (fun z=>z.2) e9) hN hg k
theorem rM{K':Act→Δ→Prop}:∀(xs ys:List (Bool×Oper)) (a:Act) (w:Δ),vQ X.r bad P all (fun a w=>K' a w) Q xs a w→(∀a w,K' a w→vQ X.r bad P all K Q ys a w)→vQ X.r bad P all K Q (xs++ys) a w
 | [],ys,a,w,h,hk=>hk a w h
 |(fl,o)::xs,ys,a,w,h,hk=>by
  simp only[bNO,vQ]at h ⊢
  split at h
  ·rename_i hq;rw[bLR hq];obtain⟨v,hy,h⟩:=h;exact⟨v,hy,rM xs ys _ _ h hk⟩
  ·rename_i hq;rw[bLI hq];exact h.mono fun a w hh=>rM xs ys a w hh hk
theorem WL.append{K':Act→Δ→Prop}{xs ys:List (Bool×Nat)}{a:Act}{w:Δ}(h:vQ X.r bad P all (fun a w=>K' a w) Q (jF all xs) a w)(hk:∀a w,K' a w→vQ X.r bad P all K Q (jF all ys) a w):
  vQ X.r bad P all K Q (jF all (xs++ys)) a w:=by
 rw[jF,bLO];exact rM _ _ a w h hk
theorem KJ(xs ys:List (Bool×Nat)){s p:Nat}{b c want:Bool}(ho:os=xs++ys)(hs:look σ s=some (.bool b))
  (hyes:b=want→WL P X bad all (fun a w=>Hl X ((p,.bool c)::(s,.bool want)::σ) μ Ds a w) Q xs ((s,.bool want)::σ) μ Ds)
  (hno:b= !want→WL P X bad all (fun a w=>Hl X ((p,.bool (!want))::(s,.bool (!want))::σ) μ Ds a w) Q xs ((s,.bool (!want))::σ) μ Ds)
  (k:WL P X bad all K Q ys ((p,.bool (bif want then b&&c else b||c))::σ) μ Ds):WL P X bad all K Q os σ μ Ds:=by
 have hsub:∀u,Value.bool b=u→∀a w,Hl X σ μ Ds a w→Hl X ((s,u)::σ) μ Ds a w:=by
  rintro _ rfl a w ⟨h1,h2,h3⟩;refine⟨h1,fun t v ht=>?_,h3⟩;simp only[look]at ht;cases hb:Nat.beq s t with
  |true=>rw[hb]at ht;cases ht;obtain rfl:=bMW hb;exact h2 _ _ hs
  |false=>rw[hb]at ht;exact h2 _ _ ht
 have hback:∀u v,Value.bool b=u→∀a w,Hl X ((p,v)::(s,u)::σ) μ Ds a w→Hl X ((p,v)::σ) μ Ds a w:=by
  rintro _ v rfl a w ⟨h1,h2,h3⟩;refine⟨h1,fun t v' ht=>?_,h3⟩;refine h2 t v' ?_;simp only[look]at ht ⊢
  cases hp:Nat.beq p t with
  |true=>rw[hp]at ht;exact ht
  |false=>
   rw[hp]at ht;cases hb:Nat.beq s t with
   |true=>obtain rfl:=bMW hb;rw[←ht,hs]
   |false=>exact ht
 subst ho;intro a w hh;have kk:∀v,v=Value.bool (bif want then b&&c else b||c)→∀a w,Hl X ((p,v)::σ) μ Ds a w→vQ X.r bad P all K Q (jF all ys) a w:=by rintro _ rfl a w h;exact k a w h
 cases b<;>cases want
 ·exact WL.append (hyes rfl a w (hsub _ rfl a w hh)) fun a w h=>kk _ rfl a w (hback _ _ rfl a w h)
 ·exact WL.append (hno rfl a w (hsub _ rfl a w hh)) fun a w h=>kk _ rfl a w (hback _ _ rfl a w h)
 ·exact WL.append (hno rfl a w (hsub _ rfl a w hh)) fun a w h=>kk _ rfl a w (hback _ _ rfl a w h)
 ·exact WL.append (hyes rfl a w (hsub _ rfl a w hh)) fun a w h=>kk _ rfl a w (hback _ _ rfl a w h)
theorem bW(k:Nat){s p:Nat}{b c:Bool}(hs:look σ s=some (.bool b))
 (hyes:b=true→WL P X bad all (fun a w=>Hl X ((p,.bool c)::(s,.bool true)::σ) μ Ds a w) Q (os.take k) ((s,.bool true)::σ) μ Ds)
 (hno:b=false→WL P X bad all (fun a w=>Hl X ((p,.bool false)::(s,.bool false)::σ) μ Ds a w) Q (os.take k) ((s,.bool false)::σ) μ Ds)
 (kk:WL P X bad all K Q (os.drop k) ((p,.bool (b&&c))::σ) μ Ds):WL P X bad all K Q os σ μ Ds:=KJ (os.take k) (os.drop k) (want:=true) (bOJ k os).symm hs hyes hno kk
theorem cT(k:Nat){s p:Nat}{b c:Bool}(hs:look σ s=some (.bool b))
 (hyes:b=false→WL P X bad all (fun a w=>Hl X ((p,.bool c)::(s,.bool false)::σ) μ Ds a w) Q (os.take k) ((s,.bool false)::σ) μ Ds)
 (hno:b=true→WL P X bad all (fun a w=>Hl X ((p,.bool true)::(s,.bool true)::σ) μ Ds a w) Q (os.take k) ((s,.bool true)::σ) μ Ds)
 (kk:WL P X bad all K Q (os.drop k) ((p,.bool (b||c))::σ) μ Ds):WL P X bad all K Q os σ μ Ds:=KJ (os.take k) (os.drop k) (want:=false) (bOJ k os).symm hs hyes hno kk
theorem P9{fls:List Bool}{O k2:Act→Δ→Prop}(hk:∀a w,O a w→k2 a w):∀(pl:iU) (a:Act) (w:Δ),B2 X.r bad P all fls Q O pl a w→B2 X.r bad P all fls Q k2 pl a w
 |.fin c,a,w,h=>by
  have:=rM (X:=X) (K':=O) _ [] a w h fun a w h=>hk a w h;rw[n5]at this;exact this
 |.fork d p A q B,a,w,h=>by
  have one:∀(xs:List (Bool×Oper)) (I K2:Act→Δ→Prop) (a:Act) (w:Δ),vQ X.r bad P all I Q xs a w→(∀a w,I a w→K2 a w)→vQ X.r bad P all K2 Q xs a w:=fun xs I K2 a w h hh=>by
   have:=rM (X:=X) (K':=I) xs [] a w h fun a w h=>hh a w h;rw[n5]at this;exact this
  exact one _ _ _ a w h fun a w hh=>⟨one _ _ _ a w hh.1 (P9 hk A),one _ _ _ a w hh.2 (P9 hk B)⟩
 |.forkN d p ps A,a,w,h=>by
  have one:∀(xs:List (Bool×Oper)) (I K2:Act→Δ→Prop) (a:Act) (w:Δ),vQ X.r bad P all I Q xs a w→(∀a w,I a w→K2 a w)→vQ X.r bad P all K2 Q xs a w:=fun xs I K2 a w h hh=>by
   have:=rM (X:=X) (K':=I) xs [] a w h fun a w h=>hh a w h;rw[n5]at this;exact this
  exact one _ _ _ a w h fun a w hh i hi=>one _ _ _ a w (hh i hi) (P9 hk (A i))
theorem AB{fls:List Bool}{K':Act→Δ→Prop}:∀(xs ys:List iU) (a:Act) (w:Δ),QI X.r bad P all fls Q K' xs a w→(∀a w,K' a w→QI X.r bad P all fls Q K ys a w)→QI X.r bad P all fls Q K (xs++ys) a w
 | [],_,a,w,h,hk=>hk a w h
 |x::xs,ys,a,w,h,hk=>P9 (fun a w h=>AB xs ys a w h hk) x a w h
theorem FR{fls:List Bool}{γ:Type}(I:γ→Prop)(S:γ→cD)(M:γ→aD)(E:γ→List aC)(xs ys:List iU){segs:List iU}(ho:segs=xs++ys)(h1:WS P X bad all fls (fun a w=>∃g,I g∧Hl X (S g) (M g) (E g) a w) Q xs σ μ Ds)
  (h2:∀g,I g→WS P X bad all fls K Q ys (S g) (M g) (E g)):WS P X bad all fls K Q segs σ μ Ds:=by
 subst ho;intro a w hh;exact AB xs ys a w (h1 a w hh) fun a w ⟨g,hg,h⟩=>h2 g hg a w h
def V2:Nat→cD→Bool
 |0,_=>true
 |_,[]=>true
 |n+1,(k,_)::r=>(match look (r.drop n) k with|none=>true|some _=>false)&&V2 n r
theorem P5:∀(n:Nat) (σ:cD),V2 n σ=true→∀s v,look (σ.drop n) s=some v→look σ s=some v
 |0,σ,_,s,v,h=>h
 |n+1,[],_,s,v,h=>h
 |n+1,(k,u)::r,hd,s,v,h=>by
  simp only[V2,bKW]at hd;simp only[List.drop_succ_cons]at h;have h2:=P5 n r hd.2 s v h;simp only[look];cases hb:Nat.beq k s with
  |false=>exact h2
  |true=>
   obtain rfl:=bMW hb;have:=hd.1;rw[h]at this;cases this
theorem Hl.cutK{p:Nat}{v:Γ}{a:Act}{w:Δ}(n:Nat)(h:Hl X ((p,v)::σ) μ Ds a w)(hd:V2 n σ=true):Hl X ((p,v)::σ.drop n) μ Ds a w:=by
 obtain⟨h1,h2,h3⟩:=h;refine⟨h1,fun s u hs=>h2 s u ?_,h3⟩;simp only[look]at hs ⊢
 cases hb:Nat.beq p s with
 |true=>rw[hb]at hs;exact hs
 |false=>rw[hb]at hs;exact P5 n σ hd s u hs
theorem aM{p:Nat}{v:Γ}(n:Nat)(hd:V2 n σ=true:=by exact rfl):WL P X bad all (fun a w=>Hl X ((p,v)::σ.drop n) μ Ds a w) Q [] ((p,v)::σ) μ Ds:=l3 fun _ _ hh=>hh.cutK n hd
theorem aA{z:Code}{id:Nat}{ops:Array Oper}(h:WL P X [] ops (fun a w=>(Exit.then (z.wpIn (FW X.r) 0 P Q) Q) .normal a w) (Exit.then (z.wpIn (FW X.r) 0 P Q) Q) ((List.range ops.size).map fun i=>(false,i)) σ μ Ds):WC P X Q (.seq (.region id ops false) z) σ μ Ds:=aFJ (aP h)
theorem bM{y z:Code}{id:Nat}{ops:Array Oper}(h:WL P X [] ops (fun a w=>(Exit.then (y.wpIn (FW X.r) 0 P (Exit.then (z.wpIn (FW X.r) 0 P Q) Q)) (Exit.then (z.wpIn (FW X.r) 0 P Q) Q)) .normal a w) (Exit.then (y.wpIn (FW X.r) 0 P (Exit.then (z.wpIn (FW X.r) 0 P Q) Q)) (Exit.then (z.wpIn (FW X.r) 0 P Q) Q)) ((List.range ops.size).map fun i=>(false,i)) σ μ Ds):WC P X Q (.seq (.seq (.region id ops false) y) z) σ μ Ds:=aFJ (aA h)
theorem aF{y:Code}{R:Exit→Act→Δ→Prop}(h:WC P X Q y σ μ Ds):WL P X bad all (fun a w=>(Exit.then (y.wpIn (FW X.r) 0 P Q) Q) .normal a w) R [] σ μ Ds:=l3 (XN h)
theorem bS{x y:Code}{R:Exit→Act→Δ→Prop}(h:WC P X (Exit.then (y.wpIn (FW X.r) 0 P Q) Q) x σ μ Ds):WL P X bad all (fun a w=>(Exit.then ((Code.seq x y).wpIn (FW X.r) 0 P Q) Q) .normal a w) R [] σ μ Ds:=aF (aFJ h)
theorem aL{z:Code}{id:Nat}{ops:Array Oper}{R:Exit→Act→Δ→Prop}(h:WL P X [] ops (fun a w=>(Exit.then (z.wpIn (FW X.r) 0 P Q) Q) .normal a w) (Exit.then (z.wpIn (FW X.r) 0 P Q) Q) ((List.range ops.size).map fun i=>(false,i)) σ μ Ds):WL P X bad all (fun a w=>(Exit.then ((Code.seq (.region id ops false) z).wpIn (FW X.r) 0 P Q) Q) .normal a w) R [] σ μ Ds:=aF (aA h)
theorem bK{y z:Code}{id:Nat}{ops:Array Oper}{R:Exit→Act→Δ→Prop}(h:WL P X [] ops (fun a w=>(Exit.then (y.wpIn (FW X.r) 0 P (Exit.then (z.wpIn (FW X.r) 0 P Q) Q)) (Exit.then (z.wpIn (FW X.r) 0 P Q) Q)) .normal a w) (Exit.then (y.wpIn (FW X.r) 0 P (Exit.then (z.wpIn (FW X.r) 0 P Q) Q)) (Exit.then (z.wpIn (FW X.r) 0 P Q) Q)) ((List.range ops.size).map fun i=>(false,i)) σ μ Ds):WL P X bad all (fun a w=>(Exit.then ((Code.seq (.seq (.region id ops false) y) z).wpIn (FW X.r) 0 P Q) Q) .normal a w) R [] σ μ Ds:=aF (bM h)
theorem aG{R:Exit→Act→Δ→Prop}(h:∀a w,Hl X σ μ Ds a w→Q .ret a w):WL P X bad all (fun a w=>(Exit.then (Code.ret.wpIn (FW X.r) 0 P Q) Q) .normal a w) R [] σ μ Ds:=aF (IX h)
theorem aQ{y:Code}(h:WC P X Q y σ μ Ds):WC P X (Exit.then (y.wpIn (FW X.r) 0 P Q) Q) .skip σ μ Ds:=bJ (XN h)

theorem aIP{k:Act→Δ→Prop}(h:∀a w,Hl X σ μ Ds a w→Q .ret a w):∀a w,Hl X σ μ Ds a w→Exit.then k Q .ret a w:=h
theorem _root_.Go.Fs.Za2{k:Act→Δ→Prop}(h:∀a w,Hl X σ μ Ds a w→Q .ret a w):∀a w,Hl X σ μ Ds a w→Exit.then k Q .ret a w:=aIP h
theorem aBH{k:Act→Δ→Prop}{id:Nat}(h:∀a w,Hl X σ μ Ds a w→Q (.exit id) a w):∀a w,Hl X σ μ Ds a w→Exit.then k Q (.exit id) a w:=h
theorem _root_.Go.Fs.Za4{k:Act→Δ→Prop}{id:Nat}(h:∀a w,Hl X σ μ Ds a w→Q (.exit id) a w):∀a w,Hl X σ μ Ds a w→Exit.then k Q (.exit id) a w:=aBH h
theorem WT{id:Nat}(h:∀a w,Hl X σ μ Ds a w→Q .ret a w):∀a w,Hl X σ μ Ds a w→Exit.inBlock id Q .ret a w:=h
theorem _root_.Go.Fs.Za7{id:Nat}(h:∀a w,Hl X σ μ Ds a w→Q .ret a w):∀a w,Hl X σ μ Ds a w→Exit.inBlock id Q .ret a w:=WT h
theorem WQ{id:Nat}(h:∀a w,Hl X σ μ Ds a w→Q .normal a w):∀a w,Hl X σ μ Ds a w→Exit.inBlock id Q .normal a w:=h
theorem _root_.Go.Fs.Za6{id:Nat}(h:∀a w,Hl X σ μ Ds a w→Q .normal a w):∀a w,Hl X σ μ Ds a w→Exit.inBlock id Q .normal a w:=WQ h
theorem UE{id:Nat}(h:∀a w,Hl X σ μ Ds a w→Q .normal a w):∀a w,Hl X σ μ Ds a w→Exit.inBlock id Q (.exit id) a w:=fun a w hh=>ON (h a w hh)
theorem _root_.Go.Fs.Za9{id:Nat}(h:∀a w,Hl X σ μ Ds a w→Q .normal a w):∀a w,Hl X σ μ Ds a w→Exit.inBlock id Q (.exit id) a w:=UE h
theorem xD{id id':Nat}(hne:Nat.beq id' id=false)(h:∀a w,Hl X σ μ Ds a w→Q (.exit id') a w):∀a w,Hl X σ μ Ds a w→Exit.inBlock id Q (.exit id') a w:=fun a w hh=>HG hne (h a w hh)
theorem hU{γ:Type}{c:Code}(m:γ→Nat)(I:γ→Prop)(ch:γ→cD)(rest:cD)(M:γ→aD)(E:γ→List aC)(g₀:γ)(h₀:I g₀)(hch:CG σ (ch g₀))(hrest:CG σ rest)(hμ:(M g₀).Sublist μ)(hD:∀D∈E g₀,∃D'∈Ds,Le D D')
  (round:∀g,I g→WC P X (Exit.then (fun a w=>∃g',I g'∧m g'<m g∧Hl X (ch g'++rest) (M g') (E g') a w) Q) c (ch g++rest) (M g) (E g)):WC P X Q (.loop c) σ μ Ds:=
 bEZ m I (fun g=>ch g++rest) M E g₀ h₀ (CG.app hch hrest) hμ hD round
theorem _root_.Go.Fs.Zc(γ:Type){c:Code}(m:γ→Nat)(I:γ→Prop)(ch:γ→cD)(rest:cD)(M:γ→aD)(E:γ→List aC)(g₀:γ)(h₀:I g₀)(hch:CG σ (ch g₀))(hμ:(M g₀).Sublist μ)(round:∀g,I g→WC P X (Exit.then (fun a w=>∃g',I g'∧m g'<m g∧Hl X (ch g'++rest) (M g') (E g') a w) Q) c (ch g++rest) (M g) (E g))(hrest:CG σ rest:=by exact cR)(hD:∀D∈E g₀,∃D'∈Ds,Le D D':=by exact(aK)):WC P X Q (.loop c) σ μ Ds:=hU (γ:=γ) m I ch rest M E g₀ h₀ hch hrest hμ hD round
theorem dW{γ:Type}{c:Code}(m:γ→Nat)(I:γ→Prop)(ch:γ→cD)(rest:cD)(E:γ→List aC)(g₀:γ)(h₀:I g₀)(hch:CG σ (ch g₀))(hrest:CG σ rest)(hD:∀D∈E g₀,∃D'∈Ds,Le D D')
  (round:∀g,I g→WC P X (Exit.then (fun a w=>∃g',I g'∧m g'<m g∧Hl X (ch g'++rest) ((fun _=>μ) g') (E g') a w) Q) c (ch g++rest) μ (E g)):WC P X Q (.loop c) σ μ Ds:=
 hU m I ch rest (fun _=>μ) E g₀ h₀ hch hrest Mm5 hD round
theorem _root_.Go.Fs.Zn(γ:Type){c:Code}(m:γ→Nat)(I:γ→Prop)(ch:γ→cD)(rest:cD)(E:γ→List aC)(g₀:γ)(hch:CG σ (ch g₀))(round:∀g,I g→WC P X (Exit.then (fun a w=>∃g',I g'∧m g'<m g∧Hl X (ch g'++rest) ((fun _=>μ) g') (E g') a w) Q) c (ch g++rest) μ (E g))(h₀:I g₀:=by exact Ye)(hrest:CG σ rest:=by exact cR)(hD:∀D∈E g₀,∃D'∈Ds,Le D D':=by exact(aK)):WC P X Q (.loop c) σ μ Ds:=dW (γ:=γ) m I ch rest E g₀ h₀ hch hrest hD round
theorem aI{γ:Type}{m:γ→Nat}{I:γ→Prop}{ch:γ→cD}{rest:cD}{M:γ→aD}{E:γ→List aC}{g:γ}(n:Nat)(g':γ)(h1:I g')(h2:m g'<m g)(hch:CG σ (ch g'))(hn:V2 n σ=true)(hr:σ.drop n=rest)(hμ:(M g').Sublist μ)(hD:∀D∈E g',∃D'∈Ds,Le D D'):
  ∀a w,Hl X σ μ Ds a w→Exit.then (fun a w=>∃g',I g'∧m g'<m g∧Hl X (ch g'++rest) (M g') (E g') a w) Q .normal a w:=by
 intro a w hh;refine⟨g',h1,h2,?_⟩;have h3:=hh.weak (σ':=ch g') hch hμ hD;refine⟨h3.1,fun s v hs=>?_,h3.2.2⟩;rcases AP hs with hs|hs
 ·exact h3.2.1 s v hs
 ·subst hr;exact hh.2.1 s v (P5 n σ hn s v hs)
theorem aK{Ds:List aC}:∀D∈Ds,∃D'∈Ds,Le D D':=fun D h=>⟨D,h,Le.refl D⟩
section ops
variable{d:Nat}{x y z:Operand}{u v:Γ}{ty:Θ}{pos:String}{aft:Array Edge}{g:Option (Nat×Bool)}
theorem aOT(ho:all[ix]?= some ⟨some d,.move x,ty,pos,aft,g⟩)(hx:ev σ x=some v)(hN:Nat.blt d X.N=true)(hg:dH all σ g)(k:WL P X bad all K Q os ((d,v)::σ) μ Ds):WL P X bad all K Q ((fl,ix)::os) σ μ Ds:=
 bZ ho rfl rfl hN hg (fun ρ hρ w'=>by simp[execOp,hρ x v hx,Pure.pure]) k
theorem _root_.Go.Fs.Za(e9:(all[ix]?,ev σ x)=(some ⟨some d,.move x,ty,pos,aft,g⟩,some v))(k:WL P X bad all K Q os ((d,v)::σ) μ Ds)(hN:Nat.blt d X.N=true:=by exact rfl)(hg:dH all σ g:=by exact bQK):WL P X bad all K Q ((fl,ix)::os) σ μ Ds:=aOT (bLE (fun z=>z.1) e9) (bLE (fun z=>z.2) e9) hN hg k
theorem _root_.Go.Fs.Zb(e9:(all[ix]?,ev σ x)=(some ⟨some d,.move x,ty,pos,aft,g⟩,some v))(k:WL P X bad all K Q os ((d,v)::σ) μ Ds)(hN:Nat.blt d X.N=true:=by exact rfl)(hg:dH all σ g:=by exact⟨_,rfl,rfl⟩):WL P X bad all K Q ((fl,ix)::os) σ μ Ds:=aOT (bLE (fun z=>z.1) e9) (bLE (fun z=>z.2) e9) hN hg k
theorem aPL(ho:all[ix]?= some ⟨some d,.assign x,ty,pos,aft,g⟩)(hx:ev σ x=some v)(hN:Nat.blt d X.N=true)(hg:dH all σ g)(k:WL P X bad all K Q os ((d,v)::σ) μ Ds):WL P X bad all K Q ((fl,ix)::os) σ μ Ds:=
 bZ ho rfl rfl hN hg (fun ρ hρ w'=>by simp[execOp,hρ x v hx,Pure.pure]) k
theorem _root_.Go.Fs.Zk(e9:(all[ix]?,ev σ x)=(some ⟨some d,.assign x,ty,pos,aft,g⟩,some v))(k:WL P X bad all K Q os ((d,v)::σ) μ Ds)(hN:Nat.blt d X.N=true:=by exact rfl)(hg:dH all σ g:=by exact bQK):WL P X bad all K Q ((fl,ix)::os) σ μ Ds:=aPL (bLE (fun z=>z.1) e9) (bLE (fun z=>z.2) e9) hN hg k
theorem pH(ho:all[ix]?= some ⟨some d,.pick x y z,ty,pos,aft,g⟩)(hx:ev σ x=some (.bool true))(hy:ev σ y=some v)(hN:Nat.blt d X.N=true)(hg:dH all σ g)(k:WL P X bad all K Q os ((d,v)::σ) μ Ds):WL P X bad all K Q ((fl,ix)::os) σ μ Ds:=
 bZ ho rfl rfl hN hg (fun ρ hρ w'=>by simp[execOp,hρ x _ hx,hρ y _ hy,asBool,go_sem]) k
theorem _root_.Go.Fs.Zak(e9:(all[ix]?,ev σ x,ev σ y)=(some ⟨some d,.pick x y z,ty,pos,aft,g⟩,some (.bool true),some v))(k:WL P X bad all K Q os ((d,v)::σ) μ Ds)(hN:Nat.blt d X.N=true:=by exact rfl)(hg:dH all σ g:=by exact bQK):WL P X bad all K Q ((fl,ix)::os) σ μ Ds:=pH (bLE (fun z=>z.1) e9) (bLE (fun z=>z.2.1) e9) (bLE (fun z=>z.2.2) e9) hN hg k
theorem pE(ho:all[ix]?= some ⟨some d,.pick x y z,ty,pos,aft,g⟩)(hx:ev σ x=some (.bool false))(hy:ev σ z=some v)(hN:Nat.blt d X.N=true)(hg:dH all σ g)(k:WL P X bad all K Q os ((d,v)::σ) μ Ds):WL P X bad all K Q ((fl,ix)::os) σ μ Ds:=
 bZ ho rfl rfl hN hg (fun ρ hρ w'=>by simp[execOp,hρ x _ hx,hρ z _ hy,asBool,go_sem]) k
theorem _root_.Go.Fs.Zal(e9:(all[ix]?,ev σ x,ev σ z)=(some ⟨some d,.pick x y z,ty,pos,aft,g⟩,some (.bool false),some v))(k:WL P X bad all K Q os ((d,v)::σ) μ Ds)(hN:Nat.blt d X.N=true:=by exact rfl)(hg:dH all σ g:=by exact bQK):WL P X bad all K Q ((fl,ix)::os) σ μ Ds:=pE (bLE (fun z=>z.1) e9) (bLE (fun z=>z.2.1) e9) (bLE (fun z=>z.2.2) e9) hN hg k
theorem bDN{b:Bool}{t:Θ}(ho:all[ix]?= some ⟨some d,.unOp .not t x,ty,pos,aft,g⟩)(hx:ev σ x=some (.bool b))(hN:Nat.blt d X.N=true)(hg:dH all σ g)(k:WL P X bad all K Q os ((d,.bool (!b))::σ) μ Ds):WL P X bad all K Q ((fl,ix)::os) σ μ Ds:=
 bZ ho rfl rfl hN hg (fun ρ hρ w'=>by simp[execOp,hρ x _ hx,Op.unary,go_sem]) k
theorem _root_.Go.Fs.Zau{b:Bool}{t:Θ}(e9:(all[ix]?,ev σ x)=(some ⟨some d,.unOp .not t x,ty,pos,aft,g⟩,some (.bool b)))(k:WL P X bad all K Q os ((d,.bool (!b))::σ) μ Ds)(hN:Nat.blt d X.N=true:=by exact rfl)(hg:dH all σ g:=by exact bQK):WL P X bad all K Q ((fl,ix)::os) σ μ Ds:=bDN (bLE (fun z=>z.1) e9) (bLE (fun z=>z.2) e9) hN hg k
theorem _root_.Go.Fs.Zav{b:Bool}{t:Θ}(e9:(all[ix]?,ev σ x)=(some ⟨some d,.unOp .not t x,ty,pos,aft,g⟩,some (.bool b)))(k:WL P X bad all K Q os ((d,.bool (!b))::σ) μ Ds)(hN:Nat.blt d X.N=true:=by exact rfl)(hg:dH all σ g:=by exact⟨_,rfl,rfl⟩):WL P X bad all K Q ((fl,ix)::os) σ μ Ds:=bDN (bLE (fun z=>z.1) e9) (bLE (fun z=>z.2) e9) hN hg k
end ops
variable{d:Nat}{x y z:Operand}{u v:Γ}{ty:Θ}{pos:String}{aft:Array Edge}{g:Option (Nat×Bool)}

def wD:IntKind→Int→Prop
 |.i8,n=> -128≤n∧n≤127
 |.i16,n=> -32768≤n∧n≤32767
 |.i32,n=> -2147483648≤n∧n≤2147483647
 |.i64,n=> -9223372036854775808≤n∧n≤9223372036854775807
 |.u8,n=>0≤n∧n≤255
 |.u16,n=>0≤n∧n≤65535
 |.u32,n=>0≤n∧n≤4294967295
 |.u64,n=>0≤n∧n≤18446744073709551615
theorem sP{k:IntKind}{n:Int}(h:wD k n):k.wrap n=n:=by
 cases k<;>simp only[wD]at h<;>simp only[IntKind.wrap,IntKind.bits,IntKind.signed,bPE,Bool.false_and,bMU,bNU,LT,ge_iff_le]<;>
  (first|(split<;>omega)|omega)
section nums
variable{k:IntKind}{m n:Int}{t t':Θ}
theorem mU{op:BinOp}{w:Δ}{r:Γ}(he:op≠.shl∧op≠.shr)(h:(binOp op t (.int k m) (.int k n)).run P w=.ok r w){ρ:Operand→Γ}(hx:ρ x=.int k m)(hy:ρ y=.int k n):
  (execOp ρ ⟨some d,.binOp op t x y t',ty,pos,aft,g⟩).run P w=.ok (.value r) w:=by
 have hg:∀w,(eqGuard op t x y (.int k m) (.int k n)).run P w=.ok () w:=by
  intro w;unfold eqGuard;split<;>rfl
 simp[execOp,hx,hy,h,go_sem]
theorem yJ(ho:all[ix]?= some ⟨some d,.binOp .add t x y t',ty,pos,aft,g⟩)(hx:ev σ x=some (.int k m))(hy:ev σ y=some (.int k n))(hr:wD k (m+n))(hN:Nat.blt d X.N=true)(hg:dH all σ g)(kk:WL P X bad all K Q os ((d,.int k (m+n))::σ) μ Ds):
  WL P X bad all K Q ((fl,ix)::os) σ μ Ds:=
 bZ ho rfl rfl hN hg (fun ρ hρ w'=>mU Ye Ybf (hρ x _ hx) (hρ y _ hy)) kk
theorem _root_.Go.Fs.Zah(e9:(all[ix]?,ev σ x,ev σ y)=(some ⟨some d,.binOp .add t x y t',ty,pos,aft,g⟩,some (.int k m),some (.int k n)))(kk:WL P X bad all K Q os ((d,.int k (m+n))::σ) μ Ds)(hr:wD k (m+n):=by exact Yf)(hN:Nat.blt d X.N=true:=by exact rfl)(hg:dH all σ g:=by exact bQK):WL P X bad all K Q ((fl,ix)::os) σ μ Ds:=yJ (bLE (fun z=>z.1) e9) (bLE (fun z=>z.2.1) e9) (bLE (fun z=>z.2.2) e9) hr hN hg kk
theorem zF(ho:all[ix]?= some ⟨some d,.binOp .sub t x y t',ty,pos,aft,g⟩)(hx:ev σ x=some (.int k m))(hy:ev σ y=some (.int k n))(hr:wD k (m-n))(hN:Nat.blt d X.N=true)(hg:dH all σ g)(kk:WL P X bad all K Q os ((d,.int k (m-n))::σ) μ Ds):
  WL P X bad all K Q ((fl,ix)::os) σ μ Ds:=
 bZ ho rfl rfl hN hg (fun ρ hρ w'=>mU Ye Ybf (hρ x _ hx) (hρ y _ hy)) kk
theorem _root_.Go.Fs.Zaz(e9:(all[ix]?,ev σ x,ev σ y)=(some ⟨some d,.binOp .sub t x y t',ty,pos,aft,g⟩,some (.int k m),some (.int k n)))(kk:WL P X bad all K Q os ((d,.int k (m-n))::σ) μ Ds)(hr:wD k (m-n):=by exact Yf)(hN:Nat.blt d X.N=true:=by exact rfl)(hg:dH all σ g:=by exact bQK):WL P X bad all K Q ((fl,ix)::os) σ μ Ds:=zF (bLE (fun z=>z.1) e9) (bLE (fun z=>z.2.1) e9) (bLE (fun z=>z.2.2) e9) hr hN hg kk
theorem AO(ho:all[ix]?= some ⟨some d,.binOp .mul t x y t',ty,pos,aft,g⟩)(hx:ev σ x=some (.int k m))(hy:ev σ y=some (.int k n))(hr:wD k (m*n))(hN:Nat.blt d X.N=true)(hg:dH all σ g)(kk:WL P X bad all K Q os ((d,.int k (m*n))::σ) μ Ds):
  WL P X bad all K Q ((fl,ix)::os) σ μ Ds:=
 bZ ho rfl rfl hN hg (fun ρ hρ w'=>mU Ye Ybf (hρ x _ hx) (hρ y _ hy)) kk
theorem IQ(ho:all[ix]?= some ⟨some d,.binOp .lss t x y t',ty,pos,aft,g⟩)(hx:ev σ x=some (.int k m))(hy:ev σ y=some (.int k n))(hN:Nat.blt d X.N=true)(hg:dH all σ g)(kk:WL P X bad all K Q os ((d,.bool (decide (m<n)))::σ) μ Ds):
  WL P X bad all K Q ((fl,ix)::os) σ μ Ds:=
 bZ ho rfl rfl hN hg (fun ρ hρ w'=>mU Ye Ybb (hρ x _ hx) (hρ y _ hy)) kk
theorem _root_.Go.Fs.Zan(e9:(all[ix]?,ev σ x,ev σ y)=(some ⟨some d,.binOp .lss t x y t',ty,pos,aft,g⟩,some (.int k m),some (.int k n)))(kk:WL P X bad all K Q os ((d,.bool (decide (m<n)))::σ) μ Ds)(hN:Nat.blt d X.N=true:=by exact rfl)(hg:dH all σ g:=by exact bQK):WL P X bad all K Q ((fl,ix)::os) σ μ Ds:=IQ (bLE (fun z=>z.1) e9) (bLE (fun z=>z.2.1) e9) (bLE (fun z=>z.2.2) e9) hN hg kk
theorem iD(ho:all[ix]?= some ⟨some d,.binOp .leq t x y t',ty,pos,aft,g⟩)(hx:ev σ x=some (.int k m))(hy:ev σ y=some (.int k n))(hN:Nat.blt d X.N=true)(hg:dH all σ g)(kk:WL P X bad all K Q os ((d,.bool (decide (m≤n)))::σ) μ Ds):
  WL P X bad all K Q ((fl,ix)::os) σ μ Ds:=
 bZ ho rfl rfl hN hg (fun ρ hρ w'=>mU Ye Ybb (hρ x _ hx) (hρ y _ hy)) kk
theorem bDO(ho:all[ix]?= some ⟨some d,.binOp .gtr t x y t',ty,pos,aft,g⟩)(hx:ev σ x=some (.int k m))(hy:ev σ y=some (.int k n))(hN:Nat.blt d X.N=true)(hg:dH all σ g)(kk:WL P X bad all K Q os ((d,.bool (decide (n<m)))::σ) μ Ds):
  WL P X bad all K Q ((fl,ix)::os) σ μ Ds:=
 bZ ho rfl rfl hN hg (fun ρ hρ w'=>mU Ye Ybb (hρ x _ hx) (hρ y _ hy)) kk
theorem _root_.Go.Fs.Zas(e9:(all[ix]?,ev σ x,ev σ y)=(some ⟨some d,.binOp .gtr t x y t',ty,pos,aft,g⟩,some (.int k m),some (.int k n)))(kk:WL P X bad all K Q os ((d,.bool (decide (n<m)))::σ) μ Ds)(hN:Nat.blt d X.N=true:=by exact rfl)(hg:dH all σ g:=by exact bQK):WL P X bad all K Q ((fl,ix)::os) σ μ Ds:=bDO (bLE (fun z=>z.1) e9) (bLE (fun z=>z.2.1) e9) (bLE (fun z=>z.2.2) e9) hN hg kk
theorem _root_.Go.Fs.Zat(e9:(all[ix]?,ev σ x,ev σ y)=(some ⟨some d,.binOp .gtr t x y t',ty,pos,aft,g⟩,some (.int k m),some (.int k n)))(kk:WL P X bad all K Q os ((d,.bool (decide (n<m)))::σ) μ Ds)(hN:Nat.blt d X.N=true:=by exact rfl)(hg:dH all σ g:=by exact⟨_,rfl,rfl⟩):WL P X bad all K Q ((fl,ix)::os) σ μ Ds:=bDO (bLE (fun z=>z.1) e9) (bLE (fun z=>z.2.1) e9) (bLE (fun z=>z.2.2) e9) hN hg kk
theorem lR(ho:all[ix]?= some ⟨some d,.binOp .geq t x y t',ty,pos,aft,g⟩)(hx:ev σ x=some (.int k m))(hy:ev σ y=some (.int k n))(hN:Nat.blt d X.N=true)(hg:dH all σ g)(kk:WL P X bad all K Q os ((d,.bool (decide (n≤m)))::σ) μ Ds):
  WL P X bad all K Q ((fl,ix)::os) σ μ Ds:=
 bZ ho rfl rfl hN hg (fun ρ hρ w'=>mU Ye Ybb (hρ x _ hx) (hρ y _ hy)) kk
theorem rJ(ho:all[ix]?= some ⟨some d,.binOp .eql t x y t',ty,pos,aft,g⟩)(hx:ev σ x=some (.int k m))(hy:ev σ y=some (.int k n))(hN:Nat.blt d X.N=true)(hg:dH all σ g)(kk:WL P X bad all K Q os ((d,.bool (decide (m=n)))::σ) μ Ds):
  WL P X bad all K Q ((fl,ix)::os) σ μ Ds:=
 bZ ho rfl rfl hN hg (fun ρ hρ w'=>mU Ye Xcr (hρ x _ hx) (hρ y _ hy)) kk
theorem _root_.Go.Fs.Zaw(e9:(all[ix]?,ev σ x,ev σ y)=(some ⟨some d,.binOp .eql t x y t',ty,pos,aft,g⟩,some (.int k m),some (.int k n)))(kk:WL P X bad all K Q os ((d,.bool (decide (m=n)))::σ) μ Ds)(hN:Nat.blt d X.N=true:=by exact rfl)(hg:dH all σ g:=by exact bQK):WL P X bad all K Q ((fl,ix)::os) σ μ Ds:=rJ (bLE (fun z=>z.1) e9) (bLE (fun z=>z.2.1) e9) (bLE (fun z=>z.2.2) e9) hN hg kk
theorem sU(ho:all[ix]?= some ⟨some d,.binOp .neq t x y t',ty,pos,aft,g⟩)(hx:ev σ x=some (.int k m))(hy:ev σ y=some (.int k n))(hN:Nat.blt d X.N=true)(hg:dH all σ g)(kk:WL P X bad all K Q os ((d,.bool (decide (m≠n)))::σ) μ Ds):
  WL P X bad all K Q ((fl,ix)::os) σ μ Ds:=
 bZ ho rfl rfl hN hg (fun ρ hρ w'=>mU Ye Xcr (hρ x _ hx) (hρ y _ hy)) kk
theorem _root_.Go.Fs.Zax(e9:(all[ix]?,ev σ x,ev σ y)=(some ⟨some d,.binOp .neq t x y t',ty,pos,aft,g⟩,some (.int k m),some (.int k n)))(kk:WL P X bad all K Q os ((d,.bool (decide (m≠n)))::σ) μ Ds)(hN:Nat.blt d X.N=true:=by exact rfl)(hg:dH all σ g:=by exact bQK):WL P X bad all K Q ((fl,ix)::os) σ μ Ds:=sU (bLE (fun z=>z.1) e9) (bLE (fun z=>z.2.1) e9) (bLE (fun z=>z.2.2) e9) hN hg kk
theorem C4(ho:all[ix]?= some ⟨some d,.binOp .rem t x y t',ty,pos,aft,g⟩)(hx:ev σ x=some (.int k m))(hy:ev σ y=some (.int k n))(h0:0≤m)(h1:0<n)(hr:wD k (m%n))(hN:Nat.blt d X.N=true)(hg:dH all σ g)(kk:WL P X bad all K Q os ((d,.int k (m%n))::σ) μ Ds):
  WL P X bad all K Q ((fl,ix)::os) σ μ Ds:=
 bZ ho rfl rfl hN hg (fun ρ hρ w'=>mU Ye (by
  have hn:¬n=0:=by omega
  have e:m.tmod n=m%n:=Int.tmod_eq_emod_of_nonneg h0;cases k<;>simp[binOp,Op.intDiv,hn,e,Pure.pure]) (hρ x _ hx) (hρ y _ hy)) kk
theorem UF(ho:all[ix]?= some ⟨some d,.binOp .quo t x y t',ty,pos,aft,g⟩)(hx:ev σ x=some (.int k m))(hy:ev σ y=some (.int k n))(h0:0≤m)(h1:0<n)(hr:wD k (m / n))(hN:Nat.blt d X.N=true)(hg:dH all σ g)(kk:WL P X bad all K Q os ((d,.int k (m / n))::σ) μ Ds):
  WL P X bad all K Q ((fl,ix)::os) σ μ Ds:=
 bZ ho rfl rfl hN hg (fun ρ hρ w'=>mU Ye (by
  have hn:¬n=0:=by omega
  have e:m.tdiv n=m / n:=Int.tdiv_eq_ediv_of_nonneg h0;cases k<;>simp[binOp,Op.intDiv,hn,e,sP hr,Pure.pure]) (hρ x _ hx) (hρ y _ hy)) kk
end nums
theorem aWK{c:Operand}{a b:Code}{p:Prop}[Decidable p](hc:ev σ c=some (.bool (decide p)))(ht:p→WC P X Q a σ μ Ds)(hf:¬p→WC P X Q b σ μ Ds):WC P X Q (.cond c a b) σ μ Ds:=
 aAF hc (fun e=>ht (bLW e)) fun e=>hf (bLV e)
theorem _root_.Go.Fs.Zag{c:Operand}{a:Code}{b:Code}{p:Prop}[Decidable p](hc:ev σ c=some (.bool (decide p)))(ht:p→WC P X Q a σ μ Ds)(hf:¬p→WC P X Q b σ μ Ds):WC P X Q (.cond c a b) σ μ Ds:=aWK hc ht hf

def TA(P:Program)(t:Θ)(b:Bool):Prop:=∀w,(isAgg t).run P w=.ok b w
def TS(P:Program)(t:Θ)(n:Nat):Prop:=∀w,(sizeOf t).run P w=.ok n w
def TU(P:Program)(t:Θ)(u:TypeDesc):Prop:=∀w,(underlying t).run P w=.ok u w
def TZ(P:Program)(t:Θ)(v:Γ):Prop:=∀w,(zeroValue t).run P w=.ok v w
theorem TU.of{t:Θ}{u:TypeDesc}(h:P.underlying t=some u):TU P t u:=fun w=>by simp[underlying,program,Sem.run,h,go_sem]
theorem TA.of{t:Θ}{u:TypeDesc}(h:P.underlying t=some u)(b:Bool)(hb:(match u with|.struct _=>true|.array _ _=>true|_=>false)=b):TA P t b:=fun w=>by
 have:=TU.of h w;unfold isAgg;rw[Ω,this];subst hb;cases u<;>rfl
theorem TS.of{t:Θ}{n:Nat}(h:(P.info? t).map (·.size)=some n):TS P t n:=fun w=>by
 cases hi:P.info? t with
 |none=>simp[hi]at h
 |some i=>simp[hi]at h;simp[sizeOf,typeInfo,program,Sem.run,hi,h,go_sem]
theorem TZ.of{t:Θ}{v:Γ}(h:(P.info? t).bind (·.zero)=some v):TZ P t v:=fun w=>by
 cases hi:P.info? t with
 |none=>simp[hi]at h
 |some i=>simp[hi]at h;simp[zeroValue,typeInfo,program,Sem.run,hi,h,go_sem]

theorem sQ{w:Δ}{b off:Nat}{cs:Array Γ}{e:Θ}{fz:Nat×Nat}{v:Γ}(h:w.heap[b]?= some (.cells cs e fz))(hv:cs[off]?= some v):w.cell? ⟨b,off,none⟩=some v:=by
 simp[World.cell?,h,hv]
theorem TN{w:Δ}{a:Addr}{v:Γ}(h:w.cell? a=some v):(load a).run P w=.ok v w:=by
 simp[load,Sem.run,h]
theorem wG{w:Δ}{b off:Nat}:∀(n i:Nat) (acc:Array Γ) (vs:List Γ),vs.length=n→(∀j v,vs[j]?= some v→w.cell? ⟨b,off+(i+j),none⟩=some v)→
  (loadCellsFrom ⟨b,off,none⟩ i n acc).run P w=.ok (acc++vs.toArray) w:=by
 intro n;induction n with
 |zero=>intro i acc vs hl _;have:vs=[]:=bOL.1 hl;subst this;simp[loadCellsFrom,Pure.pure]
 |succ n ih=>
  intro i acc vs hl h;cases vs with
  |nil=>simp at hl
  |cons v vs=>
   have h0:=h 0 v rfl;have ha:(⟨b,off,none⟩:Addr).add i=⟨b,off+i,none⟩:=by
    unfold Addr.add;split
    ·rename_i h;subst h;rfl
    ·rfl
   simp only[loadCellsFrom];rw[Ω,ha,TN (by simpa using h0)];show(loadCellsFrom ⟨b,off,none⟩ (i+1) n (acc.push v)).run P w=_;rw[ih (i+1) (acc.push v) vs Yay (fun j u hu=>by
    have:=h (j+1) u (by simpa using hu);rw[show off+(i+(j+1))=off+(i+1+j) by omega]at this;exact this)]
   simp
def aMU(w:Δ)(b off:Nat)(vs:List Γ):Prop:=∀j v,vs[j]?= some v→w.cell? ⟨b,off+j,none⟩=some v
theorem mW{w:Δ}{t:Θ}{b off:Nat}{vs:List Γ}(ha:TA P t true)(hs:TS P t vs.length)(h:aMU w b off vs):(Instr.loadAt t (.pointer (some ⟨b,off,none⟩))).run P w=.ok (.agg vs.toArray) w:=by
 unfold Instr.loadAt Instr.sureAddr loadVar loadCells;simp only[Ω,ε,Result.andThen,ha w,hs w,bNM,pure_bind];rw[wG vs.length 0 #[] vs rfl (fun j v hv=>by rw[show off+(0+j)=off+j by omega];exact h j v hv)]
 simp
theorem vM{w:Δ}{t:Θ}{b off:Nat}{v:Γ}(ha:TA P t false)(h:w.cell? ⟨b,off,none⟩=some v):(Instr.loadAt t (.pointer (some ⟨b,off,none⟩))).run P w=.ok v w:=by
 unfold Instr.loadAt Instr.sureAddr loadVar;simp only[Ω,Result.andThen,ha w,pure_bind];exact TN h

theorem bR{w:Δ}{b:Nat}{o:Obj}(h:w.heap[b]?= some o):b<w.heap.size:=(bOE.1 h).1
theorem Hl.boxAt{a:Act}{w w':Δ}(h:Hl X σ μ Ds a w){b:Nat}{o:Obj}(hm:(b,o)∈μ)(hb:b∉bad)(hk:qA bad w w'):w'.heap[b]?= some o:=by
 obtain⟨_,_,_,D,hs,_⟩:=h;have:=(hs.box _ hm).1;rw[hk.2 b (bR this) hb];exact this
theorem fO.cell{D:aC}{w:Δ}(h:fO D w){b i:Nat}{v:Γ}(hv:(D b)[i]?= some v):w.cell? ⟨b,i,none⟩=some v:=by
 have hne:D b≠[]:=fun e=>by rw[e]at hv;simp at hv
 obtain⟨cs,e,fz,hc,hp⟩:=h.1 b hne;obtain⟨t,ht⟩:=hp;refine sQ hc ?_;have hl:=(bLD.1 hv).1;have:cs.toList[i]?= some v:=by rw[←ht,bNP hl];exact hv
 simpa using this
theorem Hl.dataAt{a:Act}{w w':Δ}(h:Hl X σ μ Ds a w){D₁:aC}(hD:D₁∈Ds){b i:Nat}{v:Γ}(hv:(D₁ b)[i]?= some v)(hb:b∉bad)(hk:qA bad w w'):
  w'.cell? ⟨b,i,none⟩=some v:=by
 obtain⟨_,_,_,D,hs,hl,_⟩:=h;have hc:=hs.agr.cell ((hl D₁ hD).get hv);unfold World.cell? at hc ⊢
 cases hw:w.heap[b]? with
 |none=>simp[hw]at hc
 |some o=>rw[show(⟨b,i,none⟩:Addr).block=b from rfl,hk.2 b (bR hw) hb];exact hc
def At(D:aC)(b o:Nat)(cs:List Γ):Prop:=∀j v,cs[j]?= some v→(D b)[o+j]?= some v
theorem At.up{D D':aC}{b o:Nat}{cs:List Γ}(h:At D b o cs)(hl:Le D D'):At D' b o cs:=fun j v hv=>hl.get (h j v hv)
theorem Hl.liesD{a:Act}{w w':Δ}(h:Hl X σ μ Ds a w){D₁:aC}(hD:D₁∈Ds){b o:Nat}{cs:List Γ}(hA:At D₁ b o cs)(hb:b∉bad)(hk:qA bad w w'):aMU w' b o cs:=
 fun j v hv=>h.dataAt hD (hA j v hv) hb hk

theorem bG{t:Θ}{b off:Nat}{vs:List Γ}{e:Θ}{fz:Nat×Nat}(ho:all[ix]?= some ⟨some d,.load t x,ty,pos,aft,g⟩)(ha:TA P t false)(hx:ev σ x=some (.pointer (some ⟨b,off,none⟩)))(hm:(b,.cells vs.toArray e fz)∈μ)(hv:vs[off]?= some v)(hb:b∉bad)
  (hN:Nat.blt d X.N=true) (hg:dH all σ g) (kk:WL P X bad all K Q os ((d,v)::σ) μ Ds):WL P X bad all K Q ((fl,ix)::os) σ μ Ds:=
 pD ho rfl rfl hN hg (fun a w hh w' hk=>by
  simp only[execOp,hh.eval hx];rw[Ω,vM ha (sQ (hh.boxAt hm hb hk) (by simpa using hv))];rfl) kk
theorem _root_.Go.Fs.Zp{t:Θ}{b:Nat}{off:Nat}{vs:List Γ}{e:Θ}{fz:Nat×Nat}(ho:all[ix]?= some ⟨some d,.load t x,ty,pos,aft,g⟩)(ha:TA P t false)(hx:ev σ x=some (.pointer (some ⟨b,off,none⟩)))(hm:(b,.cells vs.toArray e fz)∈μ)(hv:vs[off]?= some v)(kk:WL P X bad all K Q os ((d,v)::σ) μ Ds)(hb:b∉bad:=by exact n4)(hN:Nat.blt d X.N=true:=by exact rfl)(hg:dH all σ g:=by exact bQK):WL P X bad all K Q ((fl,ix)::os) σ μ Ds:=bG ho ha hx hm hv hb hN hg kk
theorem _root_.Go.Fs.Zq{t:Θ}{b:Nat}{off:Nat}{vs:List Γ}{e:Θ}{fz:Nat×Nat}(ho:all[ix]?= some ⟨some d,.load t x,ty,pos,aft,g⟩)(ha:TA P t false)(hx:ev σ x=some (.pointer (some ⟨b,off,none⟩)))(hm:(b,.cells vs.toArray e fz)∈μ)(hv:vs[off]?= some v)(kk:WL P X bad all K Q os ((d,v)::σ) μ Ds)(hb:b∉bad:=by exact n4)(hN:Nat.blt d X.N=true:=by exact rfl)(hg:dH all σ g:=by exact⟨_,rfl,rfl⟩):WL P X bad all K Q ((fl,ix)::os) σ μ Ds:=bG ho ha hx hm hv hb hN hg kk
theorem bL{t:Θ}{b:Nat}{vs:List Γ}{e:Θ}{fz:Nat×Nat}(ho:all[ix]?= some ⟨some d,.load t x,ty,pos,aft,g⟩)(ha:TA P t true)(hx:ev σ x=some (qP b))(hm:(b,.cells vs.toArray e fz)∈μ)(hs:TS P t vs.length)(hb:b∉bad)
  (hN:Nat.blt d X.N=true) (hg:dH all σ g) (kk:WL P X bad all K Q os ((d,.agg vs.toArray)::σ) μ Ds):WL P X bad all K Q ((fl,ix)::os) σ μ Ds:=
 pD ho rfl rfl hN hg (fun a w hh w' hk=>by
  simp only[execOp,hh.eval hx];rw[Ω,mW ha hs (fun j v hv=>sQ (hh.boxAt hm hb hk) (by simpa using hv))];rfl) kk
theorem _root_.Go.Fs.Zae{t:Θ}{b:Nat}{vs:List Γ}{e:Θ}{fz:Nat×Nat}(ho:all[ix]?= some ⟨some d,.load t x,ty,pos,aft,g⟩)(ha:TA P t true)(hx:ev σ x=some (qP b))(hm:(b,.cells vs.toArray e fz)∈μ)(hs:TS P t vs.length)(kk:WL P X bad all K Q os ((d,.agg vs.toArray)::σ) μ Ds)(hb:b∉bad:=by exact n4)(hN:Nat.blt d X.N=true:=by exact rfl)(hg:dH all σ g:=by exact bQK):WL P X bad all K Q ((fl,ix)::os) σ μ Ds:=bL ho ha hx hm hs hb hN hg kk
theorem eD{t:Θ}{b off n:Nat}{vs us:List Γ}{e:Θ}{fz:Nat×Nat}(ho:all[ix]?= some ⟨some d,.load t x,ty,pos,aft,g⟩)(ha:TA P t true)(hs:TS P t n)(hx:ev σ x=some (.pointer (some ⟨b,off,none⟩)))(hm:(b,.cells vs.toArray e fz)∈μ)
  (hu:(vs.drop off).take n=us) (hl:us.length=n) (hb:b∉bad)
  (hN:Nat.blt d X.N=true) (hg:dH all σ g) (kk:WL P X bad all K Q os ((d,.agg us.toArray)::σ) μ Ds):WL P X bad all K Q ((fl,ix)::os) σ μ Ds:=
 pD ho rfl rfl hN hg (fun a w hh w' hk=>by
  subst hl;simp only[execOp,hh.eval hx];rw[Ω,mW ha hs (fun j v hv=>sQ (hh.boxAt hm hb hk) (by
   have hl:=(bLD.1 hv).1;rw[←hu,bOD hl,bNS]at hv;simpa using hv))]
  rfl) kk
theorem dZ{t:Θ}{D₁:aC}{b o k:Nat}{cs:List Γ}(ho:all[ix]?= some ⟨some d,.load t x,ty,pos,aft,g⟩)(ha:TA P t false)(hx:ev σ x=some (.pointer (some ⟨b,o+k,none⟩)))(hA:At D₁ b o cs)(hD:D₁∈Ds)(hv:cs[k]?= some v)(hb:b∉bad)
  (hN:Nat.blt d X.N=true) (hg:dH all σ g) (kk:WL P X bad all K Q os ((d,v)::σ) μ Ds):WL P X bad all K Q ((fl,ix)::os) σ μ Ds:=
 pD ho rfl rfl hN hg (fun a w hh w' hk=>by
  simp only[execOp,hh.eval hx];rw[Ω,vM ha (hh.liesD hD hA hb hk k v hv)];rfl) kk
theorem _root_.Go.Fs.Zd{t:Θ}{D₁:aC}{b:Nat}{o:Nat}(k:Nat){cs:List Γ}(ho:all[ix]?= some ⟨some d,.load t x,ty,pos,aft,g⟩)(ha:TA P t false)(hx:ev σ x=some (.pointer (some ⟨b,o+k,none⟩)))(hA:At D₁ b o cs)(hv:cs[k]?= some v)(kk:WL P X bad all K Q os ((d,v)::σ) μ Ds)(hD:D₁∈Ds:=by exact Yc)(hb:b∉bad:=by exact n4)(hN:Nat.blt d X.N=true:=by exact rfl)(hg:dH all σ g:=by exact bQK):WL P X bad all K Q ((fl,ix)::os) σ μ Ds:=dZ (k:=k) ho ha hx hA hD hv hb hN hg kk
theorem _root_.Go.Fs.Ze{t:Θ}{D₁:aC}{b:Nat}{o:Nat}(k:Nat){cs:List Γ}(ho:all[ix]?= some ⟨some d,.load t x,ty,pos,aft,g⟩)(ha:TA P t false)(hx:ev σ x=some (.pointer (some ⟨b,o+k,none⟩)))(hA:At D₁ b o cs)(hv:cs[k]?= some v)(kk:WL P X bad all K Q os ((d,v)::σ) μ Ds)(hD:D₁∈Ds:=by exact Yc)(hb:b∉bad:=by exact n4)(hN:Nat.blt d X.N=true:=by exact rfl)(hg:dH all σ g:=by exact⟨_,rfl,rfl⟩):WL P X bad all K Q ((fl,ix)::os) σ μ Ds:=dZ (k:=k) ho ha hx hA hD hv hb hN hg kk
theorem dG{t:Θ}{D₁:aC}{b o:Nat}{cs:List Γ}(ho:all[ix]?= some ⟨some d,.load t x,ty,pos,aft,g⟩)(ha:TA P t true)(hx:ev σ x=some (.pointer (some ⟨b,o,none⟩)))(hA:At D₁ b o cs)(hD:D₁∈Ds)(hs:TS P t cs.length)(hb:b∉bad)
  (hN:Nat.blt d X.N=true) (hg:dH all σ g) (kk:WL P X bad all K Q os ((d,.agg cs.toArray)::σ) μ Ds):WL P X bad all K Q ((fl,ix)::os) σ μ Ds:=
 pD ho rfl rfl hN hg (fun a w hh w' hk=>by
  simp only[execOp,hh.eval hx];rw[Ω,mW ha hs (hh.liesD hD hA hb hk)];rfl) kk
theorem _root_.Go.Fs.Zv{t:Θ}{D₁:aC}{b:Nat}{o:Nat}{cs:List Γ}(ho:all[ix]?= some ⟨some d,.load t x,ty,pos,aft,g⟩)(ha:TA P t true)(hx:ev σ x=some (.pointer (some ⟨b,o,none⟩)))(hA:At D₁ b o cs)(hs:TS P t cs.length)(kk:WL P X bad all K Q os ((d,.agg cs.toArray)::σ) μ Ds)(hD:D₁∈Ds:=by exact Yc)(hb:b∉bad:=by exact n4)(hN:Nat.blt d X.N=true:=by exact rfl)(hg:dH all σ g:=by exact bQK):WL P X bad all K Q ((fl,ix)::os) σ μ Ds:=dG ho ha hx hA hD hs hb hN hg kk
theorem jW{t:Θ}{D₁:aC}{b o k n:Nat}{cs us:List Γ}(ho:all[ix]?= some ⟨some d,.load t x,ty,pos,aft,g⟩)(ha:TA P t true)(hs:TS P t n)(hx:ev σ x=some (.pointer (some ⟨b,o+k,none⟩)))(hA:At D₁ b o cs)(hD:D₁∈Ds)(hu:(cs.drop k).take n=us)(hl:us.length=n)(hb:b∉bad)
  (hN:Nat.blt d X.N=true) (hg:dH all σ g) (kk:WL P X bad all K Q os ((d,.agg us.toArray)::σ) μ Ds):WL P X bad all K Q ((fl,ix)::os) σ μ Ds:=
 pD ho rfl rfl hN hg (fun a w hh w' hk=>by
  subst hl;simp only[execOp,hh.eval hx];rw[Ω,mW ha hs (fun j v hv=>by
   have hl:=(bLD.1 hv).1;rw[←hu,bOD hl,bNS]at hv;have:=hh.liesD hD hA hb hk (k+j) v hv;rw[←Nat.add_assoc]at this;exact this)]
  rfl) kk
theorem _root_.Go.Fs.Zam{t:Θ}{D₁:aC}{b:Nat}{o:Nat}(k:Nat){n:Nat}{cs:List Γ}{us:List Γ}(ho:all[ix]?= some ⟨some d,.load t x,ty,pos,aft,g⟩)(ha:TA P t true)(hs:TS P t n)(hx:ev σ x=some (.pointer (some ⟨b,o+k,none⟩)))(hA:At D₁ b o cs)(e9:((cs.drop k).take n,us.length)=(us,n))(kk:WL P X bad all K Q os ((d,.agg us.toArray)::σ) μ Ds)(hD:D₁∈Ds:=by exact Yc)(hb:b∉bad:=by exact n4)(hN:Nat.blt d X.N=true:=by exact rfl)(hg:dH all σ g:=by exact bQK):WL P X bad all K Q ((fl,ix)::os) σ μ Ds:=jW (k:=k) ho ha hs hx hA hD (bLE (fun z=>z.1) e9) (bLE (fun z=>z.2) e9) hb hN hg kk

def TF(P:Program)(t:Θ)(i k:Nat):Prop:=∀(a:Addr) w,(Instr.fieldAt t (.pointer (some a)) i).run P w=.ok (.pointer (some (a.add k))) w
theorem TF.of{t:Θ}{i k ft:Nat}{fs:Array Field}{n:Nat}(h:P.underlying t=some (.struct fs))(hk:(fs[i]?).map (fun f=>(f.offset,f.type))=some (k,ft))(hs:TS P ft n)(hn:Nat.beq n 0=false):TF P t i k:=fun a w=>by
 have hn':n≠0:=fun e=>by subst e;simp at hn
 cases hf:fs[i]? with
 |none=>simp[hf]at hk
 |some f=>
  simp only[hf,bMS,bPL,bOU]at hk;obtain⟨rfl,rfl⟩:=hk;unfold Instr.fieldAt fieldPlace Instr.sureAddr;simp only[Ω,TU.of h w,Ξ,hf,hs w,ε,bLI hn',pure_bind]
theorem iI(b o k:Nat):(⟨b,o,none⟩:Addr).add k=⟨b,o+k,none⟩:=by
 unfold Addr.add;split
 ·rename_i h;subst h;rfl
 ·rfl
theorem AF{t:Θ}{i k b o:Nat}(ho:all[ix]?= some ⟨some d,.fieldAddr t x i,ty,pos,aft,g⟩)(h:TF P t i k)(hx:ev σ x=some (.pointer (some ⟨b,o,none⟩)))
  (hN:Nat.blt d X.N=true) (hg:dH all σ g) (kk:WL P X bad all K Q os ((d,.pointer (some ⟨b,o+k,none⟩))::σ) μ Ds):WL P X bad all K Q ((fl,ix)::os) σ μ Ds:=
 bZ ho rfl rfl hN hg (fun ρ hρ w'=>by
  simp only[execOp,hρ x _ hx];rw[Ω,h,iI];rfl) kk
theorem _root_.Go.Fs.Zi{t:Θ}{i:Nat}{k:Nat}{b:Nat}{o:Nat}(ho:all[ix]?= some ⟨some d,.fieldAddr t x i,ty,pos,aft,g⟩)(h:TF P t i k)(hx:ev σ x=some (.pointer (some ⟨b,o,none⟩)))(kk:WL P X bad all K Q os ((d,.pointer (some ⟨b,o+k,none⟩))::σ) μ Ds)(hN:Nat.blt d X.N=true:=by exact rfl)(hg:dH all σ g:=by exact bQK):WL P X bad all K Q ((fl,ix)::os) σ μ Ds:=AF ho h hx hN hg kk
theorem _root_.Go.Fs.Zj{t:Θ}{i:Nat}{k:Nat}{b:Nat}{o:Nat}(ho:all[ix]?= some ⟨some d,.fieldAddr t x i,ty,pos,aft,g⟩)(h:TF P t i k)(hx:ev σ x=some (.pointer (some ⟨b,o,none⟩)))(kk:WL P X bad all K Q os ((d,.pointer (some ⟨b,o+k,none⟩))::σ) μ Ds)(hN:Nat.blt d X.N=true:=by exact rfl)(hg:dH all σ g:=by exact⟨_,rfl,rfl⟩):WL P X bad all K Q ((fl,ix)::os) σ μ Ds:=AF ho h hx hN hg kk
theorem vW{a:Addr}(ho:all[ix]?= some ⟨some d,.nilCheck x,ty,pos,aft,g⟩)(hx:ev σ x=some (.pointer (some a)))
  (hN:Nat.blt d X.N=true) (hg:dH all σ g) (kk:WL P X bad all K Q os ((d,.pointer (some a))::σ) μ Ds):WL P X bad all K Q ((fl,ix)::os) σ μ Ds:=
 bZ ho rfl rfl hN hg (fun ρ hρ w'=>by simp only[execOp,hρ x _ hx];rfl) kk
theorem _root_.Go.Fs.Zao{a:Addr}(e9:(all[ix]?,ev σ x)=(some ⟨some d,.nilCheck x,ty,pos,aft,g⟩,some (.pointer (some a))))(kk:WL P X bad all K Q os ((d,.pointer (some a))::σ) μ Ds)(hN:Nat.blt d X.N=true:=by exact rfl)(hg:dH all σ g:=by exact bQK):WL P X bad all K Q ((fl,ix)::os) σ μ Ds:=vW (bLE (fun z=>z.1) e9) (bLE (fun z=>z.2) e9) hN hg kk
theorem eV{t e:Θ}{n sz b o:Nat}{k:IntKind}{i:Int}(ho:all[ix]?= some ⟨some d,.indexAddr t x y,ty,pos,aft,g⟩)(ht:P.underlying t=some (.array n e))(hs:TS P e sz)(hx:ev σ x=some (.pointer (some ⟨b,o,none⟩)))(hy:ev σ y=some (.int k i))(h0:0≤i)(h1:i<n)
  (hN:Nat.blt d X.N=true) (hg:dH all σ g) (kk:WL P X bad all K Q os ((d,.pointer (some ⟨b,o+i.toNat*sz,none⟩))::σ) μ Ds):WL P X bad all K Q ((fl,ix)::os) σ μ Ds:=
 bZ ho rfl rfl hN hg (fun ρ hρ w'=>by
  simp only[execOp,hρ x _ hx,hρ y _ hy];unfold Instr.indexAt asIntOf Instr.sureAddr;simp only[Ω,TU.of ht w',Ξ,hs w',ε,pure_bind,h0,h1,bPZ,bNM,iI]) kk

abbrev Rd(α:Type):=aC→α→List Γ→Prop
def Rd.Up{α:Type}(R:Rd α):Prop:=∀{D D':aC},Le D D'→∀{x:α} {cs:List Γ},R D x cs→R D' x cs
def Sl{α:Type}(D:aC)(R:Rd α)(sz:Nat)(v:Γ)(xs:List α):Prop:=
 ∃a cap,v=.slice a xs.length cap∧xs.length≤cap∧xs.length≤9223372036854775807∧(xs=[]∨∃b o,a=some ⟨b,o,none⟩∧∀i x,xs[i]?= some x→∃cs,R D x cs∧cs.length=sz∧At D b (o+i*sz) cs)
theorem Sl.up{α:Type}{R:Rd α}(hR:R.Up){D D':aC}(hl:Le D D'){sz:Nat}{v:Γ}{xs:List α}(h:Sl D R sz v xs):Sl D' R sz v xs:=by
 obtain⟨a,cap,hv,h1,h2,h3⟩:=h;refine⟨a,cap,hv,h1,h2,h3.imp id ?_⟩;rintro⟨b,o,ha,he⟩;refine⟨b,o,ha,fun i x hx=>?_⟩;obtain⟨cs,hr,hc,hA⟩:=he i x hx;exact⟨cs,hR hl hr,hc,hA.up hl⟩
theorem Sl.cells1{α:Type}{R:Rd α}{D:aC}{sz:Nat}{v:Γ}{xs:List α}(h:Sl D R sz v xs):v.cells=[v].toArray:=by
 obtain⟨a,cap,rfl,_⟩:=h;rfl
theorem Sl.nil{α:Type}{R:Rd α}{D:aC}{sz:Nat}:Sl D R sz (qN) ([]:List α):=⟨none,0,rfl,bLQ _,Ye,bLL rfl⟩
theorem Sl.len{α:Type}{R:Rd α}{D:aC}{sz:Nat}{v:Γ}{xs:List α}(h:Sl D R sz v xs):xs.length≤9223372036854775807:=by
 obtain⟨a,cap,hv,h1,h2,h3⟩:=h;exact h2
def RI:Rd Int:=fun _ n cs=>cs=[qI n]
theorem RI.up:RI.Up:=fun _ _ _ h=>h
def RL:Rd (List Int):=fun D l cs=>∃v,cs=[v]∧Sl D RI 1 v l
theorem RL.up:RL.Up:=fun hl _ _ ⟨v,hc,hs⟩=>⟨v,hc,hs.up RI.up hl⟩
theorem Sl.at{α:Type}{R:Rd α}(hR:R.Up){D D₁:aC}{Ds:List aC}(hD:∀D₁∈Ds,Le D₁ D){sz:Nat}{v:Γ}{xs:List α}(h:Sl D₁ R sz v xs)(hm:D₁∈Ds):Sl D R sz v xs:=h.up hR (hD _ hm)

theorem dD{α:Type}{R:Rd α}{D₁:aC}{sz:Nat}{t e tr:Θ}{xs:List α}{ats:Array Θ}(ho:all[ix]?= some ⟨some d,.call {callee:=.builtin .len,args:=#[x],argTypes:=ats},tr,pos,aft,g⟩)(ht:P.underlying t=some (.slice e))(hx:ev σ x=some v)(hS:Sl D₁ R sz v xs)(hat:ats[0]?= some t)
  (hN:Nat.blt d X.N=true) (hg:dH all σ g) (kk:WL P X bad all K Q os ((d,qI (xs.length:Int))::σ) μ Ds):
  WL P X bad all K Q ((fl,ix)::os) σ μ Ds:=
 bZ ho rfl rfl hN hg (fun ρ hρ w'=>by
  obtain⟨a,cap,rfl,_⟩:=hS;have hx':=hρ x _ hx;simp[Builtin.len_,hat,hx',TU.of ht w',goInt,go_sem]) kk
theorem _root_.Go.Fs.Zai{α:Type}{R:Rd α}{D₁:aC}{sz:Nat}{t:Θ}{e:Θ}{tr:Θ}{xs:List α}{ats:Array Θ}(ho:all[ix]?= some ⟨some d,.call {callee:=.builtin .len,args:=#[x],argTypes:=ats},tr,pos,aft,g⟩)(ht:P.underlying t=some (.slice e))(hx:ev σ x=some v)(hS:Sl D₁ R sz v xs)(hat:ats[0]?= some t)(kk:WL P X bad all K Q os ((d,qI (xs.length:Int))::σ) μ Ds)(hN:Nat.blt d X.N=true:=by exact rfl)(hg:dH all σ g:=by exact bQK):WL P X bad all K Q ((fl,ix)::os) σ μ Ds:=dD ho ht hx hS hat hN hg kk
theorem dX{α:Type}{R:Rd α}{D₁:aC}{sz:Nat}{t e:Θ}{xs:List α}{k:IntKind}{i:Int}{el:α}(ho:all[ix]?= some ⟨some d,.indexAddr t x y,ty,pos,aft,g⟩)(ht:P.underlying t=some (.slice e))(hs:TS P e sz)(hx:ev σ x=some v)(hS:Sl D₁ R sz v xs)
  (hy:ev σ y=some (.int k i)) (h0:0≤i) (hi:xs[i.toNat]?= some el) (hN:Nat.blt d X.N=true) (hg:dH all σ g)
  (kk:∀b o cs,R D₁ el cs→cs.length=sz→At D₁ b o cs→WL P X bad all K Q os ((d,.pointer (some ⟨b,o,none⟩))::σ) μ Ds):
  WL P X bad all K Q ((fl,ix)::os) σ μ Ds:=by
 obtain⟨a,cap,rfl,h1,h2,h3⟩:=hS;have hlt:i.toNat<xs.length:=(bLD.1 hi).1;rcases h3 with rfl|⟨b,o,rfl,h3⟩
 ·simp at hlt
 ·obtain⟨cs,hr,hc,hA⟩:=h3 _ _ hi;refine bZ ho rfl rfl hN hg (fun ρ hρ w'=>?_) (kk b _ cs hr hc hA);have h1':i<(xs.length:Int):=by omega
  simp only[execOp,hρ x _ hx,hρ y _ hy];unfold Instr.indexAt asIntOf;simp only[Ω,TU.of ht w',Ξ,hs w',ε,pure_bind,h0,h1',bPZ,bNM,iI]
section
variable{t e t2:Θ}{D₁:aC}{xs:List Int}{k:IntKind}{i el:Int}{ix2 d2:Nat}{x2:Operand}{ty2:Θ}{pos2:String}{aft2:Array Edge}{g2:Option (Nat×Bool)}{fl2:Bool}
theorem iN{γ:Type}[Membership Nat γ]{bad:γ}(e9:(all[ix]?,all[ix2]?,ev σ x)=(some ⟨some d,.indexAddr t x y,ty,pos,aft,g⟩,some ⟨some d2,.load t2 x2,ty2,pos2,aft2,g2⟩,some v))(hS:Sl D₁ RI 1 v xs)(hy:ev σ y=some (.int k i))(hi:xs[i.toNat]?= some el)
  (kk:∀b o,WL P X bad all K Q os ((d2,qI el)::(d,.pointer (some ⟨b,o,none⟩))::σ) μ Ds) (hb:∀b:Nat,b∉bad:=by exact fun _=>n4) (hx2:∀b o,ev ((d,.pointer (some ⟨b,o,none⟩))::σ) x2=some (.pointer (some ⟨b,o+0,none⟩)):=by exact fun _ _=>rfl) (h0:0≤i:=by omega) (ht:P.underlying t=some (.slice e):=by exact U25) (hs:TS P e 1:=by exact aJ) (ha:TA P t2 false:=by exact aH) (hD:D₁∈Ds:=by first|simp|assumption)
  (hN:Nat.blt d X.N=true:=by exact rfl) (hg:dH all σ g:=by exact bQK) (hN2:Nat.blt d2 X.N=true:=by exact rfl) (hg2:∀b o,dH all ((d,.pointer (some ⟨b,o,none⟩))::σ) g2:=by exact fun _ _=>trivial):WL P X bad all K Q ((fl,ix)::(fl2,ix2)::os) σ μ Ds:=
 dX (bLE (fun z=>z.1) e9) ht hs (bLE (fun z=>z.2.2) e9) hS hy h0 hi hN hg fun b o cs hr hcl hA=>by
  obtain rfl:cs=[qI _]:=hr;exact dZ (k:=0) (bLE (fun z=>z.2.1) e9) ha (hx2 b o) hA hD rfl (hb b) hN2 (hg2 b o) (kk b o)
end
theorem _root_.Go.Fs.Zw{α:Type}{R:Rd α}{D₁:aC}{sz:Nat}{t:Θ}{e:Θ}{xs:List α}{k:IntKind}{i:Int}{el:α}(ho:all[ix]?= some ⟨some d,.indexAddr t x y,ty,pos,aft,g⟩)(ht:P.underlying t=some (.slice e))(hs:TS P e sz)(hx:ev σ x=some v)(hS:Sl D₁ R sz v xs)(hy:ev σ y=some (.int k i))(hi:xs[i.toNat]?= some el)(kk:∀b o cs,R D₁ el cs→cs.length=sz→At D₁ b o cs→WL P X bad all K Q os ((d,.pointer (some ⟨b,o,none⟩))::σ) μ Ds)(h0:0≤i:=by exact Yd)(hN:Nat.blt d X.N=true:=by exact rfl)(hg:dH all σ g:=by exact bQK):WL P X bad all K Q ((fl,ix)::os) σ μ Ds:=dX ho ht hs hx hS hy h0 hi hN hg kk
theorem JO{vs:Array Γ}{i:Nat}(ho:all[ix]?= some ⟨some d,.extract x i,ty,pos,aft,g⟩)(hx:ev σ x=some (.tuple vs))(hi:vs.toList[i]?= some v)(hN:Nat.blt d X.N=true)(hg:dH all σ g)(kk:WL P X bad all K Q os ((d,v)::σ) μ Ds):
  WL P X bad all K Q ((fl,ix)::os) σ μ Ds:=
 bZ ho rfl rfl hN hg (fun ρ hρ w'=>by rw[Array.getElem?_toList]at hi;simp[execOp,hρ x _ hx,Instr.extract,hi,go_sem]) kk
theorem _root_.Go.Fs.Zaq{vs:Array Γ}{i:Nat}(e9:(all[ix]?,ev σ x,vs.toList[i]?)=(some ⟨some d,.extract x i,ty,pos,aft,g⟩,some (.tuple vs),some v))(kk:WL P X bad all K Q os ((d,v)::σ) μ Ds)(hN:Nat.blt d X.N=true:=by exact rfl)(hg:dH all σ g:=by exact bQK):WL P X bad all K Q ((fl,ix)::os) σ μ Ds:=JO (bLE (fun z=>z.1) e9) (bLE (fun z=>z.2.1) e9) (bLE (fun z=>z.2.2) e9) hN hg kk
theorem qF{k:IntKind}{m n:Int}{ats:Array Θ}(ho:all[ix]?= some ⟨some d,.call {callee:=.builtin .max,args:=#[x,y],argTypes:=ats},ty,pos,aft,g⟩)(hx:ev σ x=some (.int k m))(hy:ev σ y=some (.int k n))(hN:Nat.blt d X.N=true)(hg:dH all σ g)(kk:WL P X bad all K Q os ((d,.int k (max m n))::σ) μ Ds):
  WL P X bad all K Q ((fl,ix)::os) σ μ Ds:=
 bZ ho rfl rfl hN hg (fun ρ hρ w'=>by
  have hx':=hρ x _ hx;have hy':=hρ y _ hy;have e:(if n>m then n else m)=max m n:=by split<;>omega
  simp[Builtin.max_,Builtin.max2,hx',hy',go_sem,e]) kk
theorem OX{k:IntKind}{m n:Int}{ats:Array Θ}(ho:all[ix]?= some ⟨some d,.call {callee:=.builtin .min,args:=#[x,y],argTypes:=ats},ty,pos,aft,g⟩)(hx:ev σ x=some (.int k m))(hy:ev σ y=some (.int k n))(hN:Nat.blt d X.N=true)(hg:dH all σ g)(kk:WL P X bad all K Q os ((d,.int k (min m n))::σ) μ Ds):
  WL P X bad all K Q ((fl,ix)::os) σ μ Ds:=
 bZ ho rfl rfl hN hg (fun ρ hρ w'=>by
  have hx':=hρ x _ hx;have hy':=hρ y _ hy;have e:(if n<m then n else m)=min m n:=by split<;>omega
  simp[Builtin.min_,Builtin.min2,hx',hy',go_sem,e]) kk
theorem Hl.ds{Ds':List aC}{a:Act}{w:Δ}(h:Hl X σ μ Ds a w)(hD:∀D∈Ds',D∈Ds):Hl X σ μ Ds' a w:=by
 obtain⟨h1,h2,h3,D,h4,h5,I⟩:=h;exact⟨h1,h2,h3,D,h4,fun D₁ hD₁=>h5 D₁ (hD D₁ hD₁),I⟩

def EF(P:Program)(f:FuncId):Prop:=∀args w,(callFunc f args).run P w=.ok (.enter f args) w
theorem EF.of{f:FuncId}{fn:Func}{c:Code}(h:P.funcs[f]?= some fn)(hn:(fn.name== "runtime.NumGoroutine")=false)(hb:fn.body=some c):EF P f:=fun args w=>by
 have hn':¬fn.name= "runtime.NumGoroutine" :=by simpa using hn
 simp[callFunc,program,Sem.run,h,hn',hb,go_sem]
def Fn(P:Program)(f:FuncId)(args:Array Γ)(D:aC)(post:aC→Γ→Prop):Prop:=
 EF P f∧∀w,fO D w→Calls P f args w fun e w'=>∃v D',e=.returned v∧jE (hd w) w.heap.size D [] [] D' w'∧post D' v
theorem iF{D D':aC}{w w':Δ}{mods:List Nat}{μ:aD}(hw:fO D w)(hs:jE (hd w) w.heap.size D mods μ D' w'):Le D D':=by
 refine⟨fun b=>?_,hs.dold 0 hw.pos⟩;by_cases hb:b<w.heap.size
 ·rw[hs.dold b hb];exact List.prefix_refl _
 ·have:D b=[]:=by
   refine Decidable.byContradiction fun hne=>?_
   obtain⟨cs,e,fz,hc,_⟩:=hw.1 b hne;exact hb (bR hc)
  rw[this];exact bQB
theorem Fn.mono{f:FuncId}{args:Array Γ}{D:aC}{post post':aC→Γ→Prop}(h:Fn P f args D post)(hp:∀D' v,Le D D'→post D' v→post' D' v):Fn P f args D post':=by
 refine⟨h.1,fun w hw=>(h.2 w hw).mono ?_⟩;rintro e w' ⟨v,D',rfl,hs,hpost⟩;exact⟨v,D',rfl,hs,hp _ _ (iF hw hs) hpost⟩
theorem jE.after{h0:H0}{lo:Nat}{D0 D D':aC}{mods:List Nat}{μ:aD}{w w':Δ}(h:jE h0 lo D0 mods μ D w)(hs:jE (hd w) w.heap.size D [] [] D' w'):jE h0 lo D0 mods μ D' w':=by
 have hle:=bNK h.hlo h.size;refine⟨h.hlo,bNK h.size hs.size,fun b hb hm=>?_,fun b hb=>?_,hs.agr,fun p hp=>?_,h.nd,h.fz,fun e he=>(hs.env _ rfl).trans (h.env e he)⟩
 ·rw[hs.old b (bNR hb hle) Ye];exact h.old b hb hm
 ·rw[hs.dold b (bNR hb hle)];exact h.dold b hb
 ·obtain⟨h1,h2,h3⟩:=h.box p hp;have hl:=bR h1;exact⟨by rw[hs.old _ hl Ye];exact h1,Xax,h3⟩
theorem jE.low{D D':aC}{μ:aD}{w w':Δ}(hs:jE (hd w) w.heap.size D [] μ D' w')(β:List Nat):aVF β D w D' w':=⟨hs.size,fun b hb _=>⟨hs.old b hb Ye,hs.dold b hb⟩,hs.env _ rfl⟩
theorem jE.keep{D D':aC}{μ:aD}{w w':Δ}(hs:jE (hd w) w.heap.size D [] μ D' w'){γb:Type}[Membership Nat γb](bad:γb):qA bad w w':=⟨hs.size,fun b hb _=>hs.old b hb Ye⟩
def x5(σ:cD):List Operand→Option (List Γ)
 | []=>some []
 |x::xs=>match ev σ x,x5 σ xs with
  |some v,some vs=>some (v::vs)
  |_,_=>none
theorem mD{ρ:Operand→Γ}(hρ:∀x u,ev σ x=some u→ρ x=u):∀{xs:List Operand} {vs:List Γ},x5 σ xs=some vs→xs.map ρ=vs
 | [],vs,h=>by simp[x5]at h;simp[h]
 |x::xs,vs,h=>by
  simp only[x5]at h;cases h1:ev σ x with
  |none=>simp[h1]at h
  |some I=>
   cases h2:x5 σ xs with
   |none=>simp[h1,h2]at h
   |some v2=>
    simp[h1,h2]at h;rw[←h,bMD,hρ x I h1,mD hρ h2]
theorem fG{o:Oper}(ho:all[ix]?= some o)(hq:lM o.op=false)(hdf:pT o.op=false)(hg:dH all σ o.guard)
  (h:∀a w,Hl X σ μ Ds a w→o.uponIn (FW X.r) 0 P a (fun a' w'=>(fl=true→qA bad w w')∧vQ X.r bad P all K Q (jF all os) a' w') Q ((execOp a.eval o).run P w)):WL P X bad all K Q ((fl,ix)::os) σ μ Ds:=by
 intro a w hh;rw[B5 ho];simp only[vQ,hq,bMU,bNU];unfold T4;rw[bLR (hh.wanted hg)];refine⟨fun _ _=>trivial,?_⟩;rw[Y9 hdf];exact h a w hh
theorem xY{w:Δ}{ρ:Operand→Γ}{c:Operand}{xs:Array Operand}{ats:Array Θ}{f:FuncId}{c1 c2:List Γ}{vs:List Γ}{dst:Option Nat}(hEF:EF P f)(hc:ρ c=.func (.func f) c1.toArray c2.toArray)(hvs:xs.toList.map ρ=vs):
  (execOp ρ ⟨dst,.call {callee:=.value c,args:=xs,argTypes:=ats},ty,pos,aft,g⟩).run P w=.ok (.enter f (c1++vs++c2).toArray) w:=by
 have e:xs.map ρ=vs.toArray:=by rw[←hvs,←bPW]
 simp only[execOp,resolve,hc,Deferred.ofValue,pure_bind,invoke,e];rw[hEF];simp
theorem WY{c:Operand}{xs:Array Operand}{ats:Array Θ}{f:FuncId}{c1 c2:List Γ}{vs:List Γ}{post:aC→Γ→Prop}(ho:all[ix]?= some ⟨some d,.call {callee:=.value c,args:=xs,argTypes:=ats},ty,pos,aft,g⟩)(hc:ev σ c=some (.func (.func f) c1.toArray c2.toArray))(hxs:x5 σ xs.toList=some vs)
  (hf:∀D,(∀D₁∈Ds,Le D₁ D)→Fn P f (c1++vs++c2).toArray D post) (hN:Nat.blt d X.N=true) (hg:dH all σ g)
  (kk:∀v D,(∀D₁∈Ds,Le D₁ D)→post D v→WL P X bad all K Q os ((d,v)::σ) μ (D::Ds)):
  WL P X bad all K Q ((fl,ix)::os) σ μ Ds:=by
 refine fG ho rfl rfl hg fun a w hh=>?_
 obtain⟨h1,h2,h3,D,h4,h5,h6⟩:=id hh;have hF:=hf D h5;rw[xY hF.1 (hh.eval hc) (mD (fun _ _ hx=>hh.eval hx) hxs)];refine⟨fun h=>Xab,dY.2 ((hF.2 w h4.agr).mono ?_)⟩;rintro e w' ⟨v,D',rfl,hs,hpost⟩;have hle:=iF h4.agr hs;refine⟨fun _=>hs.keep bad,kk v D' (fun D₁ hD₁=>(h5 D₁ hD₁).trans hle) hpost _ _ ?_⟩;refine Hl.put ⟨h1,h2,h3,D',h4.after hs,fun D₁ hD₁=>?_,h6.step (fun _ p hp=>bLL (bKX.2 ⟨p,hp,rfl⟩)) (fun _=>hs.low _) (h4.after hs).dom⟩ hN v;rcases bNA.1 hD₁ with rfl|hD₁
 ·exact Le.refl _
 ·exact(h5 D₁ hD₁).trans hle
theorem _root_.Go.Fs.Zaa{c:Operand}{xs:Array Operand}{ats:Array Θ}{f:FuncId}{c1:List Γ}{c2:List Γ}{vs:List Γ}{post:aC→Γ→Prop}(e9:(all[ix]?,ev σ c,x5 σ xs.toList)=(some ⟨some d,.call {callee:=.value c,args:=xs,argTypes:=ats},ty,pos,aft,g⟩,some (.func (.func f) c1.toArray c2.toArray),some vs))(hf:∀D,(∀D₁∈Ds,Le D₁ D)→Fn P f (c1++vs++c2).toArray D post)(kk:∀v D,(∀D₁∈Ds,Le D₁ D)→post D v→WL P X bad all K Q os ((d,v)::σ) μ (D::Ds))(hN:Nat.blt d X.N=true:=by exact rfl)(hg:dH all σ g:=by exact bQK):WL P X bad all K Q ((fl,ix)::os) σ μ Ds:=WY (bLE (fun z=>z.1) e9) (bLE (fun z=>z.2.1) e9) (bLE (fun z=>z.2.2) e9) hf hN hg kk
theorem aBT{c:Operand}{xs:Array Operand}{ats:Array Θ}{f:FuncId}{c1 c2:List Γ}{vs:List Γ}{r:Γ}(ho:all[ix]?= some ⟨some d,.call {callee:=.value c,args:=xs,argTypes:=ats},ty,pos,aft,g⟩)(hc:ev σ c=some (.func (.func f) c1.toArray c2.toArray))(hxs:x5 σ xs.toList=some vs)
  (hf:∀D,(∀D₁∈Ds,Le D₁ D)→Fn P f (c1++vs++c2).toArray D fun _ v=>v=r) (hN:Nat.blt d X.N=true) (hg:dH all σ g)
  (kk:WL P X bad all K Q os ((d,r)::σ) μ Ds):
  WL P X bad all K Q ((fl,ix)::os) σ μ Ds:=
 WY ho hc hxs hf hN hg fun _ _ _ hv=>by
  subst hv;exact fun a w hh=>kk a w (hh.ds fun D hD=>bKY _ hD)
theorem _root_.Go.Fs.Zf{c:Operand}{xs:Array Operand}{ats:Array Θ}{f:FuncId}{c1:List Γ}{c2:List Γ}{vs:List Γ}{r:Γ}(e9:(all[ix]?,ev σ c,x5 σ xs.toList)=(some ⟨some d,.call {callee:=.value c,args:=xs,argTypes:=ats},ty,pos,aft,g⟩,some (.func (.func f) c1.toArray c2.toArray),some vs))(hf:∀D,(∀D₁∈Ds,Le D₁ D)→Fn P f (c1++vs++c2).toArray D fun _ v=>v=r)(kk:WL P X bad all K Q os ((d,r)::σ) μ Ds)(hN:Nat.blt d X.N=true:=by exact rfl)(hg:dH all σ g:=by exact bQK):WL P X bad all K Q ((fl,ix)::os) σ μ Ds:=aBT (bLE (fun z=>z.1) e9) (bLE (fun z=>z.2.1) e9) (bLE (fun z=>z.2.2) e9) hf hN hg kk
theorem _root_.Go.Fs.Zg{c:Operand}{xs:Array Operand}{ats:Array Θ}{f:FuncId}{c1:List Γ}{c2:List Γ}{vs:List Γ}{r:Γ}(e9:(all[ix]?,ev σ c,x5 σ xs.toList)=(some ⟨some d,.call {callee:=.value c,args:=xs,argTypes:=ats},ty,pos,aft,g⟩,some (.func (.func f) c1.toArray c2.toArray),some vs))(hf:∀D,(∀D₁∈Ds,Le D₁ D)→Fn P f (c1++vs++c2).toArray D fun _ v=>v=r)(kk:WL P X bad all K Q os ((d,r)::σ) μ Ds)(hN:Nat.blt d X.N=true:=by exact rfl)(hg:dH all σ g:=by exact⟨_,rfl,rfl⟩):WL P X bad all K Q ((fl,ix)::os) σ μ Ds:=aBT (bLE (fun z=>z.1) e9) (bLE (fun z=>z.2.1) e9) (bLE (fun z=>z.2.2) e9) hf hN hg kk

theorem dR{w:Δ}{o:Obj}{b:Nat}(h:b<w.heap.size):(w.heap.push o)[b]?= w.heap[b]? :=by
 rw[Array.getElem?_push,bLI Yd]
theorem fO.push{D:aC}{w:Δ}(h:fO D w)(o:Obj):fO D {w with heap:=w.heap.push o}:=by
 refine h.of (fun b hb=>?_) rfl (dR h.pos);obtain⟨cs,e,fz,hc,hp⟩:=h.1 b hb;exact⟨cs,e,fz,by show(w.heap.push o)[b]?= _;rw[dR (bR hc)];exact hc,hp⟩
theorem fO.fresh{D:aC}{w:Δ}(h:fO D w){b:Nat}(hb:w.heap.size≤b):D b=[]:=
 Decidable.byContradiction fun hne=>by
  obtain⟨cs,e,fz,hc,_⟩:=h.1 b hne;have:=bR hc;omega
theorem jE.push{h0:H0}{lo:Nat}{D0 D:aC}{mods:List Nat}{μ:aD}{w:Δ}(h:jE h0 lo D0 mods μ D w)(o:Obj)(ho:dC o):jE h0 lo D0 mods ((w.heap.size,o)::μ) D {w with heap:=w.heap.push o}:=by
 have hle:=bNK h.hlo h.size;refine⟨h.hlo,by have:=h.size;simp;omega,fun b hb hm=>?_,h.dold,h.agr.push o,fun p hp=>?_,?_,(fun p hp=>by rcases bNA.1 hp with rfl|hp;exact ho;exact h.fz p hp),h.env⟩
 ·show(w.heap.push o)[b]?= _;rw[dR (bNR hb hle)];exact h.old b hb hm
 ·rcases bNA.1 hp with rfl|hp
  ·exact⟨Ye,h.agr.fresh (bLQ _),bLL h.size⟩
  ·obtain⟨h1,h2,h3⟩:=h.box p hp;exact⟨by show(w.heap.push o)[p.1]?= _;rw[dR (bR h1)];exact h1,h2,h3⟩
 ·simp only[bMD,bMX];refine⟨fun hm=>?_,h.nd⟩;obtain⟨p,hp,he⟩:=bKX.1 hm;have:=bR (h.box p hp).1;omega
theorem pV{γb:Type}[Membership Nat γb](bad:γb)(w:Δ)(o:Obj):qA bad w {w with heap:=w.heap.push o}:=⟨Ye,fun b hb _=>dR hb⟩
theorem K6(β:List Nat){D:aC}{w:Δ}(o:Obj):aVF β D w D {w with heap:=w.heap.push o}:=⟨Ye,fun b hb _=>⟨dR hb,rfl⟩,rfl⟩
theorem jE.pushD{h0:H0}{lo:Nat}{D0 D:aC}{mods:List Nat}{μ:aD}{w:Δ}(h:jE h0 lo D0 mods μ D w)(vs:List Γ)(e:Θ):
  ∃D',Le D D'∧D' w.heap.size=vs∧(∀b,b≠w.heap.size→D' b=D b)∧jE h0 lo D0 mods μ D' {w with heap:=w.heap.push (.cells vs.toArray e (0,0))}:=by
 have hf:=h.agr.fresh (bLQ w.heap.size);refine⟨fun b=>if b=w.heap.size then vs else D b,⟨fun b=>?_,Xcs⟩,Ye,(fun b hb=>by simp[hb]),?_⟩
 ·by_cases hb:b=w.heap.size
  ·subst hb;rw[hf];exact bQB
  ·simp[hb]
 ·have hle:=bNK h.hlo h.size;refine⟨h.hlo,by have:=h.size;simp;omega,fun b hb hm=>?_,fun b hb=>?_,h.agr.of (fun b hb=>?_) Xcs (dR h.agr.pos),fun p hp=>?_,h.nd,h.fz,h.env⟩
  ·show(w.heap.push _)[b]?= _;rw[dR (bNR hb hle)];exact h.old b hb hm
  ·have hne:b≠w.heap.size:=by omega
   simp only[hne,bNU];exact h.dold b hb
  ·by_cases he:b=w.heap.size
   ·subst he;exact⟨vs.toArray,e,(0,0),Ye,Ye⟩
   ·simp only[he,bNU]at hb ⊢
    obtain⟨cs,e',fz,hc,hp⟩:=h.agr.1 b hb;exact⟨cs,e',fz,by show(w.heap.push _)[b]?= _;rw[dR (bR hc)];exact hc,hp⟩
  ·obtain⟨h1,h2,h3⟩:=h.box p hp;have hl:=bR h1;refine⟨by show(w.heap.push _)[p.1]?= _;rw[dR hl];exact h1,?_,h3⟩
   have hne:p.1≠w.heap.size:=by omega
   simp only[hne,bNU];exact h2
theorem kO{w:Δ}{e:Θ}{cs:Array Γ}:(newRow e cs).run P w=.ok ⟨w.heap.size,0,none⟩ {w with heap:=w.heap.push (.cells cs e (0,0))}:=rfl
theorem GN{e:Θ}{vs:List Γ}(ho:all[ix]?= some ⟨some d,.box e x,ty,pos,aft,g⟩)(hx:ev σ x=some v)(hv:v.cells=vs.toArray)(hN:Nat.blt d X.N=true)(hg:dH all σ g)
  (kk:∀b,WL P X bad all K Q os ((d,qP b)::σ) ((b,.cells vs.toArray e (0,0))::μ) Ds):
  WL P X bad all K Q ((fl,ix)::os) σ μ Ds:=by
 refine fG ho rfl rfl hg fun a w hh=>?_
 obtain⟨h1,h2,h3,D,h4,h5,I⟩:=id hh;have:(execOp a.eval ⟨some d,.box e x,ty,pos,aft,g⟩).run P w=.ok (.value (.pointer (some ⟨w.heap.size,0,none⟩))) {w with heap:=w.heap.push (.cells vs.toArray e (0,0))}:=by
  simp only[execOp,hh.eval hx,Instr.box,newVar,hv,Ω,kO,Ξ,ε]
 rw[this];exact⟨fun _=>pV _ _ _,kk _ _ _ (Hl.put ⟨h1,h2,h3,D,h4.push _ (show dC (.cells _ _ (0,0))from rfl),h5,I.step (fun _ p hp=>Xbh) (fun _=>K6 _ _) (h4.push _ (show dC (.cells _ _ (0,0))from rfl)).dom⟩ hN _)⟩
theorem aWB{e:Θ}{vs:List Γ}{z0:Γ}(ho:all[ix]?= some ⟨some d,.alloc e,ty,pos,aft,g⟩)(hz:TZ P e z0)(hv:z0.cells=vs.toArray)(hN:Nat.blt d X.N=true)(hg:dH all σ g)
  (kk:∀b,WL P X bad all K Q os ((d,qP b)::σ) ((b,.cells vs.toArray e (0,0))::μ) Ds):
  WL P X bad all K Q ((fl,ix)::os) σ μ Ds:=by
 refine fG ho rfl rfl hg fun a w hh=>?_
 obtain⟨h1,h2,h3,D,h4,h5,h6⟩:=id hh;have:(execOp a.eval ⟨some d,.alloc e,ty,pos,aft,g⟩).run P w=.ok (.value (.pointer (some ⟨w.heap.size,0,none⟩))) {w with heap:=w.heap.push (.cells vs.toArray e (0,0))}:=by
  simp only[execOp,Instr.alloc,newVar,Ω,hz w,Ξ,hv,kO,ε]
 rw[this];exact⟨fun _=>pV _ _ _,kk _ _ _ (Hl.put ⟨h1,h2,h3,D,h4.push _ (show dC (.cells _ _ (0,0))from rfl),h5,h6.step (fun _ p hp=>Xbh) (fun _=>K6 _ _) (h4.push _ (show dC (.cells _ _ (0,0))from rfl)).dom⟩ hN _)⟩
theorem _root_.Go.Fs.Zad{e:Θ}{vs:List Γ}{z0:Γ}(ho:all[ix]?= some ⟨some d,.alloc e,ty,pos,aft,g⟩)(hz:TZ P e z0)(hv:z0.cells=vs.toArray)(kk:∀b,WL P X bad all K Q os ((d,qP b)::σ) ((b,.cells vs.toArray e (0,0))::μ) Ds)(hN:Nat.blt d X.N=true:=by exact rfl)(hg:dH all σ g:=by exact bQK):WL P X bad all K Q ((fl,ix)::os) σ μ Ds:=aWB ho hz hv hN hg kk

inductive bO:aD→Nat→Obj→Obj→aD→Prop
 |head {b o o' μ}:bO ((b,o)::μ) b o o' ((b,o')::μ)
 |tail {p b o o' μ μ'} (h:bO μ b o o' μ'):bO (p::μ) b o o' (p::μ')
 |app {ν b o o' μ μ'} (h:bO μ b o o' μ'):bO (ν++μ) b o o' (ν++μ')
theorem ζ:type_of% @bO.head:=@bO.head
theorem bO.mem{μ μ':aD}{b:Nat}{o o':Obj}(h:bO μ b o o' μ'):(b,o)∈μ:=by
 induction h with
 |head=>exact bKZ
 |tail _ ih=>exact bKY _ ih
 |app _ ih=>exact LE _ ih
theorem bO.keys{μ μ':aD}{b:Nat}{o o':Obj}(h:bO μ b o o' μ'):μ'.map (·.1)=μ.map (·.1):=by
 induction h with
 |head=>rfl
 |tail _ ih=>simp[ih]
 |app _ ih=>simp[ih]
theorem bO.other{μ μ':aD}{b:Nat}{o o':Obj}(h:bO μ b o o' μ'):∀p∈μ',p=(b,o')∨p∈μ:=by
 induction h with
 |head=>intro p hp;rcases bNA.1 hp with rfl|hp;exact Or.inl rfl;exact Or.inr (bKY _ hp)
 |tail _ ih=>intro p hp;rcases bNA.1 hp with rfl|hp;exact Or.inr bKZ;exact(ih p hp).imp id (bKY _)
 |app _ ih=>intro p hp;rcases bLM.1 hp with hp|hp;exact Or.inr (bLH _ hp);exact(ih p hp).imp id (LE _)
theorem bO.apart{μ μ':aD}{b:Nat}{o o':Obj}(h:bO μ b o o' μ')(hn:(μ.map (·.1)).Nodup):∀p∈μ',p.1=b→p=(b,o'):=by
 induction h with
 | @head b o o' μ=>
  intro p hp he;rcases bNA.1 hp with rfl|hp
  ·rfl
  ·exfalso
   simp only[bMD,bMX]at hn;exact hn.1 (bKX.2 ⟨p,hp,he⟩)
 | @tail q b o o' μ μ' h ih=>
  intro p hp he;simp only[bMD,bMX]at hn;rcases bNA.1 hp with rfl|hp
  ·exact absurd (bKX.2 ⟨_,h.mem,he.symm⟩) hn.1
  ·exact ih hn.2 p hp he
 | @app ν b o o' μ μ' h ih=>
  intro p hp he;rw[bLO,bLJ]at hn;rcases bLM.1 hp with hp|hp
  ·exact absurd rfl (hn.2.2 p.1 (bKX.2 ⟨p,hp,rfl⟩) b (bKX.2 ⟨_,h.mem,rfl⟩)|>fun hne=>he▸hne)
  ·exact ih hn.2.1 p hp he
def bBJ(w:Δ)(b:Nat)(o:Obj)(w':Δ):Prop:=w'.heap=w.heap.setIfInBounds b o∧VX w'=VX w
theorem jE.set{h0:H0}{lo:Nat}{D0 D:aC}{mods:List Nat}{μ μ':aD}{w w':Δ}{b:Nat}{o o':Obj}(h:jE h0 lo D0 mods μ D w)(hm:bO μ b o o' μ')(hwe:bBJ w b o' w')(hu:dC o'):jE h0 lo D0 mods μ' D w':=by
 have hw:=hwe.1;have hb:=h.box _ hm.mem;have hlt:b<w.heap.size:=bR hb.1;have hsame:∀c,c≠b→w'.heap[c]?= w.heap[c]? :=fun c hc=>by rw[hw,bNZ (Ne.symm hc)]
 refine⟨h.hlo,by rw[hw];simpa using h.size,fun c hc hmods=>?_,h.dold,h.agr.of (fun c hc=>?_) rfl (hsame 0 fun e=>h.agr.2.1 (e▸hb.2.1)),fun p hp=>?_,by rw[hm.keys];exact h.nd,fun p hp=>?_,fun e he=>hwe.2.trans (h.env e he)⟩
 ·rw[hsame c ?_]
  ·exact h.old c hc hmods
  ·rintro rfl;rcases hb.2.2 with h'|h'
   ·have:=h.hlo;simp at h';omega
   ·exact hmods h'
 ·have:c≠b:=by rintro rfl;exact hc hb.2.1
  obtain⟨cs,e,fz,h1,h2⟩:=h.agr.1 c hc;exact⟨cs,e,fz,by rw[hsame c this];exact h1,h2⟩
 ·by_cases he:p.1=b
  ·obtain rfl:=hm.apart h.nd p hp he;exact⟨by rw[hw];simp[hlt],hb.2.1,hb.2.2⟩
  ·rcases hm.other p hp with rfl|hp'
   ·exact absurd rfl he
   ·obtain⟨h1,h2,h3⟩:=h.box p hp';exact⟨by rw[hsame _ he];exact h1,h2,h3⟩
 ·by_cases he:p.1=b
  ·obtain rfl:=hm.apart h.nd p hp he;exact hu
  ·rcases hm.other p hp with rfl|hp'
   ·exact hu
   ·exact h.fz p hp'
def cell1:Γ→Bool
 |.agg _=>false
 |.tuple _=>false
 |_=>true
theorem QL{w:Δ}{b off:Nat}{cs:Array Γ}{e:Θ}{fz:Nat×Nat}{v:Γ}(h:w.heap[b]?= some (.cells cs e fz)):(w.setCell ⟨b,off,none⟩ v).heap=w.heap.setIfInBounds b (.cells (cs.setIfInBounds off v) e fz):=by
 simp only[World.setCell];apply Array.ext_getElem?;intro i;rw[Array.getElem?_modify,Array.getElem?_setIfInBounds];by_cases hi:b=i
 ·subst hi;simp[bR h,(bOE.1 h).2]
 ·simp[hi]
theorem lG:∀(us:List Γ) (i:Nat) (w:Δ) (b off:Nat) (vs:List Γ) (e:Θ),w.heap[b]?= some (.cells vs.toArray e (0,0))→off+i+us.length≤vs.length→(∀u∈us,cell1 u=true)→
  ∃w',(storeCells ⟨b,off,none⟩ us i).run P w=.ok () w'∧bBJ w b (.cells (vs.take (off+i)++us++vs.drop (off+i+us.length)).toArray e (0,0)) w'
 | [],i,w,b,off,vs,e,h,hl,_=>by
  refine⟨w,rfl,?_,rfl⟩;simp only[n5,bNE,Nat.add_zero,bOJ];apply Array.ext_getElem?;intro j;rw[Array.getElem?_setIfInBounds];split
  ·rename_i hj;subst hj;simp[bR h,(bOE.1 h).2]
  ·rfl
 |u::us,i,w,b,off,vs,e,h,hl,ho=>by
  have hu:=ho u bKZ;simp only[bLF]at hl;have hcell:∃v,w.cell? ⟨b,off+i,none⟩=some v:=⟨vs[off+i],sQ h (by simp[show off+i<vs.length by omega])⟩
  obtain⟨v0,hv0⟩:=hcell;have hfz:w.frozen? ⟨b,off+i,none⟩=false:=by simp[World.frozen?,h]
  have hs:(store ⟨b,off+i,none⟩ u).run P w=.ok () (w.setCell ⟨b,off+i,none⟩ u):=by
   cases u<;>first|(simp[cell1]at hu;done)|simp[store,Sem.run,hv0,hfz]
  have hh:=QL (v:=u) (off:=off+i) h;have h':(w.setCell ⟨b,off+i,none⟩ u).heap[b]?= some (.cells (vs.set (off+i) u).toArray e (0,0)):=by
   rw[hh];simp[bR h]
  obtain⟨w',hr,hw'⟩:=lG us (i+1) _ b off (vs.set (off+i) u) e h' Yaq fun u hu=>ho u (bKY _ hu);refine⟨w',?_,?_,hw'.2⟩
  ·simp only[storeCells,Ω,iI,hs,Ξ];exact hr
  ·rw[hw'.1,hh];apply Array.ext_getElem?;intro j;simp only[Array.getElem?_setIfInBounds,Array.size_setIfInBounds];split
   ·have hlt:off+i<vs.length:=by omega
    have h1:(vs.set (off+i) u).take (off+(i+1))=vs.take (off+i)++[u]:=by
     rw[show off+(i+1)=off+i+1 by omega,List.take_succ_eq_append_getElem (by simpa using hlt),List.take_set_of_le (bLQ _)];simp
    have h2:(vs.set (off+i) u).drop (off+(i+1)+us.length)=vs.drop (off+i+(us.length+1)):=by
     rw[List.drop_set_of_lt Yd];congr 1;omega
    simp only[h1,h2,bLF,bLK,bOW]
   ·rfl
theorem L5{w:Δ}{t:Θ}{b off:Nat}{vs us:List Γ}{e:Θ}{v:Γ}(hs:TS P t us.length)(hv:v.cells=us.toArray)(h:w.heap[b]?= some (.cells vs.toArray e (0,0)))(hl:off+us.length≤vs.length)(ho:∀u∈us,cell1 u=true):
  ∃w',(Instr.storeAt t (.pointer (some ⟨b,off,none⟩)) v).run P w=.ok () w'∧bBJ w b (.cells (vs.take off++us++vs.drop (off+us.length)).toArray e (0,0)) w':=by
 obtain⟨w',hr,hw⟩:=lG (P:=P) us 0 w b off vs e h Yay ho;refine⟨w',?_,by simpa using hw⟩;unfold Instr.storeAt Instr.sureAddr storeVar;simp only[pure_bind,Ω,hs w,Ξ,hv,bML,ne_eq,not_true_eq_false,bNU];exact hr
theorem lX{β:List Nat}{D:aC}{w w':Δ}{b:Nat}{o:Obj}(hw:bBJ w b o w')(h:b∈β):aVF β D w D w':=
 ⟨by rw[hw.1];simp,fun c _ hn=>⟨by rw[hw.1,bNZ (by rintro rfl;exact hn h)],rfl⟩,hw.2⟩
theorem bP{t:Θ}{b off:Nat}{vs us ws:List Γ}{e:Θ}{μ':aD}(ho:all[ix]?= some ⟨none,.store t x y,ty,pos,aft,g⟩)(hx:ev σ x=some (.pointer (some ⟨b,off,none⟩)))(hy:ev σ y=some v)(hv:v.cells=us.toArray)(hs:TS P t us.length)
  (hm:bO μ b (.cells vs.toArray e (0,0)) (.cells ws.toArray e (0,0)) μ') (hl:off+us.length≤vs.length) (hw:vs.take off++us++vs.drop (off+us.length)=ws) (hc1:∀u∈us,cell1 u=true) (hg:dH all σ g)
  (kk:WL P X bad all K Q os σ μ' Ds):WL P X bad all K Q ((false,ix)::os) σ μ Ds:=by
 refine fG ho rfl rfl hg fun a w hh=>?_
 obtain⟨h1,h2,h3,D,h4,h5,h6⟩:=id hh;obtain⟨w',hr,hw'⟩:=L5 (P:=P) hs hv (h4.box _ hm.mem).1 hl hc1;have:(execOp a.eval ⟨none,.store t x y,ty,pos,aft,g⟩).run P w=.ok .skip w':=by
  simp only[execOp,hh.eval hx,hh.eval hy,Ω,hr,Ξ,ε]
 rw[this];rw[hw]at hw';exact⟨fun h=>Xad,kk _ _ ⟨h1,h2,h3,D,h4.set hm hw' rfl,h5,h6.step (fun _ p hp=>bLL Yaz) (fun _=>lX hw' (bKX.2 ⟨_,hm.mem,rfl⟩)) (h4.set hm hw' rfl).dom⟩⟩
theorem _root_.Go.Fs.Zr{t:Θ}{b:Nat}{off:Nat}{vs:List Γ}{us:List Γ}{ws:List Γ}{e:Θ}{μ':aD}(e9:(all[ix]?,ev σ x,ev σ y,v.cells)=(some ⟨none,.store t x y,ty,pos,aft,g⟩,some (.pointer (some ⟨b,off,none⟩)),some v,us.toArray))(hs:TS P t us.length)(hm:bO μ b (.cells vs.toArray e (0,0)) (.cells ws.toArray e (0,0)) μ')(hw:vs.take off++us++vs.drop (off+us.length)=ws)(kk:WL P X bad all K Q os σ μ' Ds)(hl:off+us.length≤vs.length:=by exact Ye)(hc1:∀u∈us,cell1 u=true:=by exact Yk)(hg:dH all σ g:=by exact bQK):WL P X bad all K Q ((false,ix)::os) σ μ Ds:=bP (bLE (fun z=>z.1) e9) (bLE (fun z=>z.2.1) e9) (bLE (fun z=>z.2.2.1) e9) (bLE (fun z=>z.2.2.2) e9) hs hm hl hw hc1 hg kk
theorem _root_.Go.Fs.Zs{t:Θ}{b:Nat}{off:Nat}{vs:List Γ}{us:List Γ}(ws:List Γ){e:Θ}{μ':aD}(e9:(all[ix]?,ev σ x,ev σ y)=(some ⟨none,.store t x y,ty,pos,aft,g⟩,some (.pointer (some ⟨b,off,none⟩)),some v))(hv:v.cells=us.toArray)(hs:TS P t us.length)(hm:bO μ b (.cells vs.toArray e (0,0)) (.cells ws.toArray e (0,0)) μ')(hw:vs.take off++us++vs.drop (off+us.length)=ws)(hc1:∀u∈us,cell1 u=true)(kk:WL P X bad all K Q os σ μ' Ds)(hl:off+us.length≤vs.length:=by exact Ye)(hg:dH all σ g:=by exact bQK):WL P X bad all K Q ((false,ix)::os) σ μ Ds:=bP (ws:=ws) (bLE (fun z=>z.1) e9) (bLE (fun z=>z.2.1) e9) (bLE (fun z=>z.2.2) e9) hv hs hm hl hw hc1 hg kk

def jY:Nat→List Γ→cD
 |_,[]=>[]
 |i,v::vs=>(i,v)::jY (i+1) vs
theorem gV:∀(vs:List Γ) (i s:Nat) (v:Γ),look (jY i vs) s=some v→i≤s∧vs[s-i]?= some v
 | [],i,s,v,h=>by cases h
 |u::vs,i,s,v,h=>by
  simp only[jY,look]at h;cases hb:Nat.beq i s with
  |true=>rw[hb]at h;cases h;obtain rfl:=bMW hb;simp
  |false=>
   rw[hb]at h;obtain⟨h1,h2⟩:=gV vs (i+1) s v h;refine⟨Yd,?_⟩;rw[show s-i=(s-(i+1))+1 by omega];simpa using h2
def rG(X:Cx)(post:aC→Γ→aD→Prop):Ending→Δ→Prop:=fun e w'=>∃v D' μ',e=.returned v∧jE X.h0 X.lo X.D0 X.mods μ' D' w'∧post D' v μ'
theorem eZ{fn:Func}{post:aC→Γ→aD→Prop}:NP (bodyPost P fn (rG X post)):=by
 rintro c a w ⟨_,v,D',μ',h,_⟩;cases h
theorem enter{f:FuncId}{fn:Func}{c:Code}{args:List Γ}{D:aC}{post:aC→Γ→Prop}(N:Nat)(hf:P.funcs[f]?= some fn)(hn:(fn.name== "runtime.NumGoroutine")=false)(hb:fn.body=some c)(hN:fn.ntmps=N)(hsz:Nat.ble args.length N=true)
  (h:∀h0:H0,WC P ⟨none,N,[],h0,h0.size,D,[],none⟩ (bodyPost P fn (rG ⟨none,N,[],h0,h0.size,D,[],none⟩ fun D' v _=>post D' v)) c (jY 0 args) [] [D]):Fn P f args.toArray D post:=by
 refine⟨EF.of hf hn hb,fun w hw=>?_⟩;subst hN;have hsz:=bNJ hsz;refine(dY (r:=none) (n:=0)).1 ((callsIn_of_wp (R:=rG ⟨none,fn.ntmps,[],hd w,w.heap.size,D,[],none⟩ fun D' v _=>post D' v) hf hb bQK (h (hd w) _ w ⟨?_,fun s v hs=>?_,rfl,D,⟨bLQ _,bLQ _,fun _ _ _=>rfl,fun _ _=>rfl,hw,Yi,bNH,Yi,fun e he=>bLY he⟩,fun D₁ h1=>?_,bQK⟩) rfl).mono ?_)
 ·simp;omega
 ·obtain⟨_,h2⟩:=gV args 0 s v hs;have hl:=(bLD.1 h2).1;simp only[bPB]at h2 hl;show(args.toArray++_)[s]?= some v;rw[bNT Yay];simpa using h2
 ·simp only[bLS]at h1;subst h1;exact Le.refl _
 ·rintro e w' ⟨v,D',μ',rfl,hs,hp⟩;exact⟨v,D',rfl,hs.sub (by intro p hp;cases hp) bNH,hp⟩
theorem _root_.Go.Fs.Zx{f:FuncId}{fn:Func}{c:Code}{args:List Γ}{D:aC}{post:aC→Γ→Prop}(N:Nat)(hf:P.funcs[f]?= some fn)(e9:((fn.name== "runtime.NumGoroutine"),fn.body,fn.ntmps,Nat.ble args.length N)=(false,some c,N,true))(h:∀h0:H0,WC P ⟨none,N,[],h0,h0.size,D,[],none⟩ (bodyPost P fn (rG ⟨none,N,[],h0,h0.size,D,[],none⟩ fun D' v _=>post D' v)) c (jY 0 args) [] [D]):Fn P f args.toArray D post:=enter N hf (bLE (fun z=>z.1) e9) (bLE (fun z=>z.2.1) e9) (bLE (fun z=>z.2.2.1) e9) (bLE (fun z=>z.2.2.2) e9) h
def A1(P:Program)(X:Cx)(σ:cD)(μ:aD):List ResultVar→List Γ→Prop
 | [],[]=>True
 |.tmp t::rs,v::vs=>look σ t=some v∧A1 P X σ μ rs vs
 |.cell a t::rs,v::vs=>(∃b us e,look σ a=some (qP b)∧(b,.cells us e (0,0))∈μ∧
   ((TA P t false∧us=#[v])∨(TA P t true∧TS P t us.size∧v=.agg us)))∧A1 P X σ μ rs vs
 |_,_=>False
def u5(tmps:Array Γ)(r:ResultVar):Sem Γ:=
 match r with
 |.tmp t=>pure (tmps.getD t undef)
 |.cell a t=>do loadVar t (←asAddr (tmps.getD a undef))
theorem FS{a:Act}{w:Δ}(hh:Hl X σ μ Ds a w):∀(rs:List ResultVar) (vs:List Γ),A1 P X σ μ rs vs→(rs.mapM (u5 a.tmps)).run P w=.ok vs w
 | [],[],_=>rfl
 | [],_::_,h=>h.elim
 |.tmp t::rs,[],h=>h.elim
 |.cell _ _::rs,[],h=>h.elim
 |.tmp t::rs,v::vs,h=>by
  have hv:=hh.2.1 _ _ h.1;have he:a.tmps.getD t undef=v:=by rw[bNC,hv];rfl
  have h1:(u5 a.tmps (.tmp t)).run P w=.ok v w:=by simp only[u5,he,ε]
  rw[bOR,Ω,h1,Ξ,Ω,FS hh rs vs h.2];rfl
 |.cell s t::rs,v::vs,h=>by
  obtain⟨⟨b,us,e,hs,hm,hc⟩,hr⟩:=h;have hv:=hh.2.1 _ _ hs;have he:a.tmps.getD s undef=qP b:=by rw[bNC,hv];rfl
  have hbox:=hh.boxAt (bad:=[]) hm Ye (qA.refl _ w);have hload:(loadVar t ⟨b,0,none⟩).run P w=.ok v w:=by
   rcases hc with⟨ha,hu⟩|⟨ha,hsz,hu⟩
   ·have:=vM (P:=P) (t:=t) (b:=b) (off:=0) (v:=v) ha (sQ hbox (by rw[hu];rfl));simpa [Instr.loadAt,Instr.sureAddr]using this
   ·have:=mW (P:=P) (t:=t) (b:=b) (off:=0) (vs:=us.toList) ha (by simpa using hsz) (fun j u hj=>sQ hbox (by simpa using hj));rw[hu];simpa [Instr.loadAt,Instr.sureAddr]using this
  have h1:(u5 a.tmps (.cell s t)).run P w=.ok v w:=by simp only[u5,he,asAddr,pure_bind];exact hload
  rw[bOR,Ω,h1,Ξ,Ω,FS hh rs vs hr];rfl
def tA:List Γ→Γ
 | [v]=>v
 |vs=>.tuple vs.toArray
theorem jN{fn:Func}{a:Act}{w:Δ}(hh:Hl X σ μ Ds a w){rs:List ResultVar}{vs:List Γ}(hr:fn.results=rs.toArray)(h:A1 P X σ μ rs vs):(results fn a.tmps).run P w=.ok (tA vs) w:=by
 have e:results fn a.tmps=(rs.toArray.mapM (u5 a.tmps) >>= fun vs=>Pure.pure (if h:vs.size=1 then vs[0]else .tuple vs)):=by rw[←hr];rfl
 rw[e,List.mapM_toArray,Ω,Sem.run_map,FS hh rs vs h];simp only[Ξ,ε];match vs with
 | []=>rfl
 | [v]=>rfl
 |_::_::_=>rfl
theorem lU{fn:Func}{post:aC→Γ→aD→Prop}{e:Exit}(he:(match e with|.normal=>true|.ret=>true|_=>false)=true){rs:List ResultVar}{vs:List Γ}(hds:X.ds=[])(hr:fn.results=rs.toArray)(h:A1 P X σ μ rs vs)
  (hp:∀D,(∀D₁∈Ds,Le D₁ D)→post D (tA vs) μ):∀a w,Hl X σ μ Ds a w→bodyPost P fn (rG X post) e a w:=by
 intro a w hh;have hrun:=jN hh hr h;obtain⟨h1,h2,h3,D,h4,h5,h6⟩:=hh;have:a.defers=[]∧∃v,(results fn a.tmps).run P w=.ok v w∧rG X post (.returned v) w:=⟨h3.trans hds,_,hrun,_,D,μ,rfl,h4,hp D h5⟩
 cases e<;>first|exact this|cases he
theorem aE{fn:Func}{post:aC→Γ→aD→Prop}{e:Exit}{t:Nat}{v:Γ}(e9:((match e with|.normal=>true|.ret=>true|_=>false),X.ds,fn.results,look σ t)=(true,[],#[.tmp t],some v))
 (hp:∀D,(∀D₁∈Ds,Le D₁ D)→post D (tA [v]) μ):∀a w,Hl X σ μ Ds a w→bodyPost P fn (rG X post) e a w:=lU (rs:=[.tmp t]) (vs:=[v]) (bLE (fun z=>z.1) e9) (bLE (fun z=>z.2.1) e9) (bLE (fun z=>z.2.2.1) e9) ⟨bLE (fun z=>z.2.2.2) e9,bQK⟩ hp
theorem _root_.Go.Fs.Zo{fn:Func}{post:aC→Γ→aD→Prop}{e:Exit}{rs:List ResultVar}(vs:List Γ)(e9:((match e with|.normal=>true|.ret=>true|_=>false),X.ds,fn.results)=(true,[],rs.toArray))(h:A1 P X σ μ rs vs)(hp:∀D,(∀D₁∈Ds,Le D₁ D)→post D (tA vs) μ):∀a w,Hl X σ μ Ds a w→bodyPost P fn (rG X post) e a w:=lU (vs:=vs) (bLE (fun z=>z.1) e9) (bLE (fun z=>z.2.1) e9) (bLE (fun z=>z.2.2) e9) h hp
end Go.Fs
