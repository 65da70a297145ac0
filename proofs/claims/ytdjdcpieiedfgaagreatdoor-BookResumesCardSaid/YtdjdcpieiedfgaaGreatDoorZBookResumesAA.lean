/- Of BookResumes. -/
import Derived.KernelRfl
import Derived.OrdersIn
import Derived.RangeFuncIn
import Derived.WalkKit
namespace Go
variable{p:Prop}
abbrev Γ:=Value
abbrev Δ:=World
abbrev Θ:=TypeId
abbrev Λ:=ByteArray
theorem Ξ:type_of% @Result.andThen_ok:=@Result.andThen_ok
theorem Ω:type_of% @Sem.run_bind:=@Sem.run_bind
theorem ε:type_of% @Sem.run_pure:=@Sem.run_pure
theorem n4:type_of% @List.not_mem_nil:=@List.not_mem_nil
theorem n5:type_of% @List.mem_of_getElem?:=@List.mem_of_getElem?
theorem GE:type_of% @List.mem_append_right:=@List.mem_append_right
theorem GT:type_of% @decide_eq_true_eq:=@decide_eq_true_eq
theorem LE:type_of% @List.length_append:=@List.length_append
theorem LT:type_of% @List.mem_cons:=@List.mem_cons
theorem bMR:type_of% @List.mem_map:=@List.mem_map
theorem bMS:type_of% @Bool.and_eq_true:=@Bool.and_eq_true
theorem bMT:type_of% @List.mem_cons_of_mem:=@List.mem_cons_of_mem
theorem bMU:type_of% @List.getElem?_eq_getElem:=@List.getElem?_eq_getElem
theorem bMV:type_of% @List.mem_cons_self:=@List.mem_cons_self
theorem bMW:type_of% @List.getElem?_eq_some_iff:=@List.getElem?_eq_some_iff
theorem bMX:type_of% @List.length_cons:=@List.length_cons
theorem bMY:type_of% @decide_eq_false_iff_not:=@decide_eq_false_iff_not
theorem bMZ:type_of% @List.take_add_one:=@List.take_add_one
theorem bNA:type_of% @if_neg:=@if_neg
theorem bNB:type_of% @congrArg:=@congrArg
theorem bNC:type_of% @Or.inr:=@Or.inr
theorem bND:type_of% @List.append_assoc:=@List.append_assoc
theorem bNE:type_of% @List.mem_append_left:=@List.mem_append_left
theorem bNF:type_of% @List.nodup_append:=@List.nodup_append
theorem bNG:type_of% @List.map_append:=@List.map_append
theorem bNH:type_of% @List.mem_append:=@List.mem_append
theorem bNI:type_of% @Or.inl:=@Or.inl
theorem bNJ:type_of% @Nat.le_refl:=@Nat.le_refl
theorem bNK:type_of% @if_pos:=@if_pos
theorem bNL:type_of% @List.mem_singleton:=@List.mem_singleton
theorem bNM:type_of% @List.Mem.tail:=@List.Mem.tail
theorem bNN:type_of% @List.append_nil:=@List.append_nil
theorem bNO:type_of% @of_decide_eq_false:=@of_decide_eq_false
theorem bNP:type_of% @of_decide_eq_true:=@of_decide_eq_true
theorem bNQ:type_of% @List.all_eq_true:=@List.all_eq_true
theorem bNR:type_of% @List.take_length:=@List.take_length
theorem bNS:type_of% @Option.some.inj:=@Option.some.inj
theorem bNT:type_of% @List.map_cons:=@List.map_cons
theorem bNU:type_of% @Option.toList_some:=@Option.toList_some
theorem bNV:type_of% @List.take_of_length_le:=@List.take_of_length_le
theorem bNW:type_of% @List.flatMap_cons:=@List.flatMap_cons
theorem bNX:type_of% @List.foldl_cons:=@List.foldl_cons
theorem bNY:type_of% @List.Sublist.cons:=@List.Sublist.cons
theorem bNZ:type_of% @Bool.or_eq_true:=@Bool.or_eq_true
theorem bOA:type_of% @List.nil_append:=@List.nil_append
theorem bOB:type_of% @List.length_map:=@List.length_map
theorem bOC:type_of% @List.flatMap_append:=@List.flatMap_append
theorem bOD:type_of% @List.getElem?_map:=@List.getElem?_map
theorem bOE:type_of% @List.filter_append:=@List.filter_append
theorem bOF:type_of% @List.drop_eq_getElem_cons:=@List.drop_eq_getElem_cons
theorem bOG:type_of% @List.range_succ:=@List.range_succ
theorem bOH:type_of% @Bool.or_eq_false_iff:=@Bool.or_eq_false_iff
theorem bOI:type_of% @Int.toNat_natCast:=@Int.toNat_natCast
theorem bOJ:type_of% @List.length_filter_le:=@List.length_filter_le
theorem bOK:type_of% @List.take_append_of_le_length:=@List.take_append_of_le_length
theorem bOL:type_of% @List.drop_eq_nil_of_le:=@List.drop_eq_nil_of_le
theorem bOM:type_of% @List.size_toArray:=@List.size_toArray
theorem bON:type_of% @List.length_take:=@List.length_take
theorem bOO:type_of% @Option.map_some:=@Option.map_some
theorem bOP:type_of% @List.getD_eq_getElem?_getD:=@List.getD_eq_getElem?_getD
theorem bOQ:type_of% @List.mem_range:=@List.mem_range
theorem bOR:type_of% @List.foldl_append:=@List.foldl_append
theorem bOS:type_of% @Bool.false_eq_true:=@Bool.false_eq_true
theorem bOT:type_of% @List.nodup_cons:=@List.nodup_cons
theorem bOU:type_of% @List.length_drop:=@List.length_drop
theorem bOV:type_of% @Nat.eq_of_beq_eq_true:=@Nat.eq_of_beq_eq_true
theorem bOW:type_of% @Nat.pow_le_pow_right:=@Nat.pow_le_pow_right
theorem bOX:type_of% @Array.getD_eq_getD_getElem?:=@Array.getD_eq_getD_getElem?
theorem bOY:type_of% @List.length_nil:=@List.length_nil
theorem bOZ:type_of% @or_false:=@or_false
theorem bPA:type_of% @List.nodup_nil:=@List.nodup_nil
theorem bPB:type_of% @List.length_singleton:=@List.length_singleton
theorem bPC:type_of% @List.getElem?_drop:=@List.getElem?_drop
theorem bPD:type_of% @Nat.le_trans:=@Nat.le_trans
theorem bPE:type_of% @Nat.le_of_ble_eq_true:=@Nat.le_of_ble_eq_true
theorem bPF:type_of% @List.cons_append:=@List.cons_append
theorem bPG:type_of% @if_true:=@if_true
theorem bPH:type_of% @List.getElem?_append_left:=@List.getElem?_append_left
theorem bPI:type_of% @Option.map_none:=@Option.map_none
theorem bPJ:type_of% @List.take_append_drop:=@List.take_append_drop
theorem bPK:type_of% @Nat.mul_one:=@Nat.mul_one
theorem bPL:type_of% @if_false:=@if_false
theorem bPM:type_of% @List.flatMap_singleton:=@List.flatMap_singleton
theorem bPN:type_of% @List.cons.injEq:=@List.cons.injEq
theorem bPO:type_of% @Nat.lt_of_lt_of_le:=@Nat.lt_of_lt_of_le
theorem bPP:type_of% @List.filter_cons:=@List.filter_cons
theorem bPQ:type_of% @Bool.not_eq_true':=@Bool.not_eq_true'
theorem bPR:type_of% @Nat.add_mul:=@Nat.add_mul
theorem bPS:type_of% @Array.getElem?_append_left:=@Array.getElem?_append_left
theorem bPT:type_of% @Bool.eq_iff_iff:=@Bool.eq_iff_iff
theorem bPU:type_of% @List.getElem?_eq_none:=@List.getElem?_eq_none
theorem bPV:type_of% @Array.getElem?_setIfInBounds_ne:=@Array.getElem?_setIfInBounds_ne
theorem bPW:type_of% @List.length_take_le:=@List.length_take_le
theorem bPX:type_of% @List.getElem?_take_of_lt:=@List.getElem?_take_of_lt
theorem bPY:type_of% @List.getElem?_append_right:=@List.getElem?_append_right
theorem bPZ:type_of% @Array.getElem?_eq_some_iff:=@Array.getElem?_eq_some_iff
theorem bQA:type_of% @List.eq_nil_of_length_eq_zero:=@List.eq_nil_of_length_eq_zero
theorem bQB:type_of% @Nat.zero_add:=@Nat.zero_add
theorem bQC:type_of% @List.length_eq_zero_iff:=@List.length_eq_zero_iff
theorem bQD:type_of% @Option.map_eq_some_iff:=@Option.map_eq_some_iff
theorem bQE:type_of% @List.length_pos_iff:=@List.length_pos_iff
theorem bQF:type_of% @List.mem_filter:=@List.mem_filter
theorem bQG:type_of% @List.getLast?_eq_some_getLast:=@List.getLast?_eq_some_getLast
theorem bQH:type_of% @Nat.sub_zero:=@Nat.sub_zero
theorem bQI:type_of% @Nat.min_eq_left:=@Nat.min_eq_left
theorem bQJ:type_of% @List.singleton_append:=@List.singleton_append
theorem bQK:type_of% @List.any_append:=@List.any_append
theorem bQL:type_of% @Option.getD_some:=@Option.getD_some
theorem bQM:type_of% @List.mapM_cons:=@List.mapM_cons
theorem bQN:type_of% @Nat.mul_le_mul_right:=@Nat.mul_le_mul_right
theorem bQO:type_of% @List.zip_cons_cons:=@List.zip_cons_cons
theorem bQP:type_of% @List.map_singleton:=@List.map_singleton
theorem bQQ:type_of% @List.drop_zero:=@List.drop_zero
theorem bQR:type_of% @Array.getElem?_eq_getElem:=@Array.getElem?_eq_getElem
theorem bQS:type_of% @Prod.mk.injEq:=@Prod.mk.injEq
theorem bQT:type_of% @List.mem_flatMap:=@List.mem_flatMap
theorem bQU:type_of% @List.all_cons:=@List.all_cons
theorem bQV:type_of% @List.mem_iff_getElem?:=@List.mem_iff_getElem?
theorem bQW:type_of% @List.length_range:=@List.length_range
theorem bQX:type_of% @List.drop_drop:=@List.drop_drop
theorem bQY:type_of% @List.length_set:=@List.length_set
theorem bQZ:type_of% @Bool.true_and:=@Bool.true_and
theorem bRA:type_of% @List.drop_append:=@List.drop_append
theorem bRB:type_of% @Nat.zero_mul:=@Nat.zero_mul
theorem bRC:type_of% @Nat.zero_le:=@Nat.zero_le
theorem bRD:type_of% @List.any_eq_true:=@List.any_eq_true
theorem bRE:type_of% @Array.toList_map:=@Array.toList_map
theorem bRF:type_of% @List.map_nil:=@List.map_nil
theorem bRG:type_of% @Option.some.injEq:=@Option.some.injEq
theorem bRH:type_of% @Nat.not_lt_zero:=@Nat.not_lt_zero
theorem bRI:type_of% @List.getElem?_range:=@List.getElem?_range
theorem bRJ:type_of% @List.getD_cons_succ:=@List.getD_cons_succ
theorem bRK:type_of% @List.drop_length_add_append:=@List.drop_length_add_append
theorem bRL:type_of% @beq_iff_eq:=@beq_iff_eq
theorem bRM:type_of% @List.map_map:=@List.map_map
theorem bRN:type_of% @List.Mem.head:=@List.Mem.head
theorem bRO:type_of% @Int.natCast_nonneg:=@Int.natCast_nonneg
theorem bRP:type_of% @Bool.not_eq_false':=@Bool.not_eq_false'
theorem bRQ:type_of% @Bool.and_eq_false_iff:=@Bool.and_eq_false_iff
theorem bRR:type_of% @Nat.mul_le_mul:=@Nat.mul_le_mul
theorem bRS:type_of% @and_self:=@and_self
theorem bRT:type_of% @List.mem_of_mem_take:=@List.mem_of_mem_take
theorem bRU:type_of% @List.contains_eq_mem:=@List.contains_eq_mem
theorem bRV:type_of% @not_false_eq_true:=@not_false_eq_true
theorem bRW:type_of% @List.nil_prefix:=@List.nil_prefix
theorem bRX:type_of% @List.take_succ_cons:=@List.take_succ_cons
theorem bRY:type_of% @List.drop_succ_cons:=@List.drop_succ_cons
theorem bRZ:type_of% @List.take_left:=@List.take_left
theorem bSA:type_of% @List.all_eq_false:=@List.all_eq_false
theorem bSB:type_of% @List.Sublist.refl:=@List.Sublist.refl
theorem bSC:type_of% @Function.comp_def:=@Function.comp_def
theorem bSD:type_of% @Bool.not_true:=@Bool.not_true
theorem bSE:type_of% @Bool.and_true:=@Bool.and_true
theorem bSF:type_of% @not_or:=@not_or
theorem bSG:type_of% @List.length_eraseIdx_of_lt:=@List.length_eraseIdx_of_lt
theorem bSH:type_of% @List.getElem?_zip_eq_some:=@List.getElem?_zip_eq_some
theorem bSI:type_of% @Int.mul_nonneg:=@Int.mul_nonneg
theorem bSJ:type_of% @Bool.not_false:=@Bool.not_false
theorem bSK:type_of% @List.drop_length:=@List.drop_length
theorem bSL:type_of% @List.map_congr_left:=@List.map_congr_left
theorem bSM:type_of% @trivial:=@trivial
theorem Mm0{α:Type}{a:α}{l:List α}:a∈a::l:=bRN _
theorem Mm1{α:Type}{a b:α}{l:List α}:a∈b::a::l:=bNM _ (bRN _)
theorem Mm2{α:Type}{a b c:α}{l:List α}:a∈b::c::a::l:=bNM _ (bNM _ (bRN _))
theorem Mm3{α:Type}{a b c d:α}{l:List α}:a∈b::c::d::a::l:=bNM _ (bNM _ (bNM _ (bRN _)))
theorem Mm5{α:Type}{l:List α}:l.Sublist l:=bSB _
theorem Ya(h:p:=by first|rfl|(show some (Value.int _ _)=some (Value.int _ _);congr 2;omega)):p:=h
theorem Yb(h:p:=by first|rfl|(simp only[aP, *];done)|(simp only[aP, *];rfl)|(simp only[aP, *];omega)):p:=h
theorem Yc(h:p:=by first|simp|assumption):p:=h
theorem Yd(h:p:=by omega):p:=h
theorem Ye(h:p:=by simp only[wD];omega):p:=h
theorem Yf(h:p:=by simp):p:=h
theorem Yg(h:p:=by kernel_rfl):p:=h
theorem Yh(h:p:=by first|exact dP _|simp[cell1]):p:=h
theorem Yi(h:p:=by exact fun p hp=>by cases hp):p:=h
theorem Yj(h:p:=by exact oH fun _=>by simp only[List.count_append,List.count_cons,List.count_nil,dO];omega):p:=h
theorem Yk(h:p:=by simp[cell1]):p:=h
theorem Yl(h:p:=by first|assumption|simp):p:=h
theorem Ym(h:p:=by assumption):p:=h
theorem Yn(h:p:=by simp only;omega):p:=h
theorem Yo(h:p:=by exact fun D0 h=>by simp only[LT,n4,bOZ]at h;rcases h with rfl|rfl<;>exact⟨_,by simp,Le.refl _⟩):p:=h
theorem Yp(h:p:=by first|exact Or.inl rfl|exact Or.inr fun p hp=>cZ.in_ (hnu p hp)):p:=h
theorem Yq(h:p:=by exact fun D0 h=>by simp only[LT,n4,bOZ]at h;rcases h with rfl|rfl|rfl|rfl<;>exact⟨_,by simp,Le.refl _⟩):p:=h
theorem Yr(h:p:=by first|exact Or.inl rfl|exact Or.inr fun p hp=>cZ.in_ (hnu p (by simp[hp]))):p:=h
theorem Ys(h:p:=by first|omega|(simp only[ByteArray.size_append,yT,O2,bOM,bMX,bOY];omega)):p:=h
theorem Yt(h:p:=by decide):p:=h
theorem Yu(h:p:=by rw[←hHas.keys];exact bMR.2 ⟨p,hp,rfl⟩):p:=h
theorem Yw(h:p:=by exact oH fun _=>by simp only[List.count_append,List.count_cons,List.count_nil,dO,iK];omega):p:=h
theorem Yx(h:p:=by exact fun D0 h=>by simp only[LT,n4,bOZ]at h;rcases h with h|h|h|h;exact⟨Dn,by simp,h▸Le.refl _⟩;exact⟨Do,by simp,h▸Le.refl _⟩;exact⟨E1,by simp,h▸Le.refl _⟩;exact⟨D,by simp,h▸Le.refl _⟩):p:=h
theorem Yy(h:p:=by exact oH fun _=>by simp only[List.count_append,List.count_cons,List.count_nil,dO,mD];omega):p:=h
theorem Yz(h:p:=by exact fun D0 h=>by simp only[LT,n4,bOZ]at h;rcases h with h|h;exact⟨D10,by simp,h▸Le.refl _⟩;exact⟨D,by simp,h▸Le.refl _⟩):p:=h
theorem Yaa(h:p:=by rw[bNL];rintro rfl;exact hap (bMR.2 ⟨_,bNM _ Mm0,rfl⟩)):p:=h
theorem Yab(h:p:=by first|omega|(simp only[bQY];omega)):p:=h
theorem Yac(h:p:=by first|exact jN|(simp only[aP, *];exact jN)):p:=h
theorem Yad(h:p:=by first|exact eB|(simp only[aP, *];exact eB)):p:=h
theorem Yae(h:p:=by first|exact oO|(simp only[aP, *];exact oO)):p:=h
theorem Yaf(h:p:=by rw[LE,hl1,←bPR];exact bPD (bQN _ Yd) (Nat.le_add_right _ _)):p:=h
theorem Yag(h:p:=by exact fun D0 h=>by simp only[LT,n4,bOZ]at h;rcases h with h|h|h;exact⟨Dn,by simp,h▸Le.refl _⟩;exact⟨E1,by simp,h▸Le.refl _⟩;exact⟨D,by simp,h▸Le.refl _⟩):p:=h
theorem Yah(h:p:=by exact oH fun _=>by simp only[List.count_append,List.count_cons,List.count_nil,dO,kK];omega):p:=h
theorem Yai(h:p:=by exact oH fun _=>by simp only[List.count_append,List.count_cons,List.count_nil,dO,oZ];omega):p:=h
theorem Yaj(h:p:=by first|omega|(simp only;omega)):p:=h
theorem Yak(h:p:=by first|exact J7 h4 h5|(rw[List.getElem?_set_ne Yd,List.getElem?_set_ne Yd];exact J7 h4 h5)|(rw[List.getElem?_set_ne Yd,List.getElem?_set_ne Yd,List.getElem?_set_ne Yd];exact J7 h4 h5)):p:=h
theorem Yal(h:p:=by rwa [bNV Yd]at h2):p:=h
theorem Yam(h:p:=by first|exact Or.inl rfl|exact Or.inr Yi):p:=h
theorem Yan(h:p:=by unfold pE;simp only[];repeat (first|rw[bNK Yd]|rw[bNA Yd])):p:=h
theorem Yao(h:p:=by unfold pJ;simp only[];repeat (first|rw[bNK Yd]|rw[bNA Yd])):p:=h
theorem Yap(h:p:=by rw[bOB,bPK]):p:=h
theorem Yaq(h:p:=by simp;omega):p:=h
theorem Yar(h:p:=by first|rfl|(simp only[*];done)|(simp only[aP, *];rfl)|(simp only[aP, *];omega)):p:=h
theorem Yas(h:p:=by rw[bNL];rintro rfl;exact hap (bMR.2 ⟨p,bNE _ hp,rfl⟩)):p:=h
theorem Yat(h:p:=by first|omega|(simp only[ByteArray.size_append];omega)):p:=h
theorem Yau(h:p:=by simpa using hi):p:=h
theorem Yav(h:p:=by simpa using hc2):p:=h
theorem Yaw(h:p:=by simpa using h):p:=h
theorem Yax(h:p:=by first|assumption|exact bMT _ hDr):p:=h
theorem Yay(h:p:=by rw[bOI];exact aDI hb):p:=h
theorem Yaz(h:p:=by simpa using hl):p:=h
theorem Ya0(h:p:=by rw[←hm.keys];exact bMR.2 ⟨p,hp,rfl⟩):p:=h
theorem Ya1(h:p:=by unfold uE;simp only[];repeat (first|rw[bNK Yd]|rw[bNA Yd])):p:=h
theorem Ya2(h:p:=by unfold B4;simp only[];repeat (first|rw[bNK Yd]|rw[bNA Yd])):p:=h
theorem Ya3(h:p:=by unfold zZ;simp only[];repeat (first|rw[bNK Yd]|rw[bNA Yd])):p:=h
theorem Ya4(h:p:=by unfold B8;simp only[];repeat (first|rw[bNK Yd]|rw[bNA Yd])):p:=h
theorem Ya5(h:p:=by unfold p9;simp only[];repeat (first|rw[bNK Yd]|rw[bNA Yd])):p:=h
theorem Ya6(h:p:=by unfold o7;simp only[];repeat (first|rw[bNK Yd]|rw[bNA Yd])):p:=h
theorem Ya7(h:p:=by unfold C8;simp only[];repeat (first|rw[bNK Yd]|rw[bNA Yd])):p:=h
theorem Ya8(h:p:=by show some (Value.int _ _)=some (Value.int _ _);congr 2;simp only;omega):p:=h
theorem Ya9(h:p:=by rw[bOA]):p:=h
theorem Yba(h:p:=by have:=hin.2;omega):p:=h
theorem Ybb(h:p:=by rfl):p:=h
theorem Ybc(h:p:=by cases k<;>simp[binOp,Op.intCmp,Pure.pure]):p:=h
theorem Ybd(h:p:=by first|exact Or.inl rfl|exact Or.inr hbx):p:=h
theorem Ybe(h:p:=by first|exact Or.inl rfl|exact Or.inr Yf):p:=h
theorem Ybf(h:p:=by decide+kernel):p:=h
theorem Ybg(h:p:=by cases k<;>simp[binOp,Op.intArith,sE hr,Pure.pure]):p:=h
theorem Ybh(h:p:=by cases b2<;>simp at hJ2;exact bNC hJ2;exact bNI hJ2):p:=h
theorem Ybi(h:p:=by simp only[ByteArray.size_append,yT,O2,bOM,bMX,bOY];omega):p:=h
theorem Ybj(h:p:=by show some (Value.int _ _)=some (Value.int _ _);congr 2;rw[aKB hb];push_cast;rw[Int.add_assoc]):p:=h
theorem Xaa(h:p:=by simpa using hc1):p:=h
theorem Xab(h:p:=by cases h):p:=h
theorem Xac(h:p:=by simpa using hc3):p:=h
theorem Xad(h:p:=by simp[FW]at h):p:=h
theorem Xae(h:p:=by simpa using h1):p:=h
theorem Xaf(h:p:=by simp at h):p:=h
theorem Xag(h:p:=by simpa using hx):p:=h
theorem Xah(h:p:=by simpa using hc4):p:=h
theorem Xai(h:p:=by simpa using h2):p:=h
theorem Xaj(h:p:=by rw[h];simp):p:=h
theorem Xak(h:p:=by cases e):p:=h
theorem Xal(h:p:=by simp[hm]):p:=h
theorem Xam(h:p:=by simpa using hj):p:=h
theorem Xan(h:p:=by show Value.int _ _=_;rw[iC Yal]):p:=h
theorem Xao(h:p:=by show Value.bool (decide _)=_;rw[lG]):p:=h
theorem Xap(h:p:=by simpa [ints]using bI.nil):p:=h
theorem Xaq(h:p:=by rw[e];rfl):p:=h
theorem Xar(h:p:=by first|exact eB|(simp only[*];exact eB)):p:=h
theorem Xas(h:p:=by simpa using hm):p:=h
theorem Xat(h:p:=by show Value.int _ _=_;rw[lB hx h2 hc2]):p:=h
theorem Xau(h:p:=by show Value.bool (!_)=_;rw[oP]):p:=h
theorem Xav(h:p:=by simp only[bNL]at h;subst h;simp):p:=h
theorem Xaw(h:p:=by simpa using hf50):p:=h
theorem Xax(h:p:=by simpa using hb):p:=h
theorem Xay(h:p:=by simpa using hk):p:=h
theorem Xaz(h:p:=by simpa using hs9):p:=h
theorem Xba(h:p:=by simpa using bI.nil):p:=h
theorem Xbb(h:p:=by first|exact fP|(simp only[aP, *];exact fP)):p:=h
theorem Xbc(h:p:=by rw[h1.size];exact hil):p:=h
theorem Xbd(h:p:=by rw[hs.dold _ hl];exact h2):p:=h
theorem Xbe(h:p:=by simp[hh.eval hx,hh.eval hy]):p:=h
theorem Xbf(h:p:=by rw[hw'.1];simp):p:=h
theorem Xbg(h:p:=by unfold S9;rw[hex];trivial):p:=h
theorem Xbh(h:p:=by have:=hok.len9;omega):p:=h
theorem Xbi(h:p:=by simpa using dP _):p:=h
theorem Xbj(h:p:=by first|exact dV|(simp only[bOM,aP, *];exact dV)):p:=h
theorem Xbk(h:p:=by first|exact eQ|(simp only[bOM,aP, *];exact eQ)):p:=h
theorem Xbl(h:p:=by simpa using hp5.1):p:=h
theorem Xbm(h:p:=by simpa using hf52):p:=h
theorem Xbn(h:p:=by simp only[LT,n4,bOZ]at hp;rcases hp with rfl|rfl<;>rfl):p:=h
theorem Xbo(h:p:=by simp only[show(0:Nat)≠w.heap.size by have:=h.agr.pos;omega,bPL]):p:=h
theorem Xbp(h:p:=by rcases LT.1 hp with rfl|hp;exact Or.inr (bNJ _);exact Or.inl (bMR.2 ⟨p,hp,rfl⟩)):p:=h
theorem Xbq(h:p:=by rw[h0]at hb;exact absurd hb (bRH _)):p:=h
theorem Xbr(h:p:=by have:=bOQ.1 hj;omega):p:=h
theorem Xbs(h:p:=by rw[hs.old _ hl hne];exact h1):p:=h
theorem Xbt(h:p:=by show Value.int _ _=_;rw[L1.lB hx h2 hc2]):p:=h
theorem Xbu(h:p:=by show Value.int _ _=_;rw[L1.iC Yal]):p:=h
theorem Xbv(h:p:=by show Value.bool (decide _)=_;rw[L1.lG]):p:=h
theorem Xbw(h:p:=by first|exact jK|(simp only[bOM,aP, *];exact jK)):p:=h
theorem Xbx(h:p:=by show Value.bool (!_)=_;rw[L1.oP]):p:=h
theorem Xby(h:p:=by show Value.tuple _=_;rw[bNK he0,he0];rfl):p:=h
theorem Xbz(h:p:=by rw[show(ints _).length=10 by simp[hs10]];exact dY):p:=h
theorem Xca(h:p:=by rw[show(ints _).toArray.size=10 by simp[hs10]];exact dY):p:=h
theorem Xcb(h:p:=by unfold zT;simp only[];repeat (first|rw[bNK Yd]|rw[bNA Yd])):p:=h
theorem Xcc(h:p:=by unfold C0;simp only[];repeat (first|rw[bNK Yd]|rw[bNA Yd])):p:=h
theorem Xcd(h:p:=by unfold NZ;simp only[];repeat (first|rw[bNK Yd]|rw[bNA Yd])):p:=h
theorem Xce(h:p:=by unfold l6;simp only[];repeat (first|rw[bNK Yd]|rw[bNA Yd])):p:=h
theorem Xcf(h:p:=by unfold QP;simp only[];repeat (first|rw[bNK Yd]|rw[bNA Yd])):p:=h
theorem Xcg(h:p:=by simp[mC,V8]<;>omega):p:=h
theorem Xch(h:p:=by show Value.string _=_;rw[i7 hz0]):p:=h
theorem Xci(h:p:=by rw[←Act.put_comm a v u h2];exact he.2):p:=h
theorem Xcj(h:p:=by unfold S9;show(match X.ex with|none=>True|some J=>_);rw[hex];trivial):p:=h
theorem Xck(h:p:=by simp only[bNL]at h1;subst h1;exact Le.refl _):p:=h
theorem Xcl(h:p:=by show nZ bd::X.ds=_;rw[hds]):p:=h
theorem Xcm(h:p:=by show Value.int _ _=_;rw[bNV Yd]):p:=h
theorem Xcn(h:p:=by first|exact uB|(simp only[aP, *];exact uB)):p:=h
theorem Xco(h:p:=by first|exact dQ|(simp only[bOM,aP, *];exact dQ)):p:=h
theorem Xcp(h:p:=by rw[mN];split<;>simp only[wD]<;>omega):p:=h
theorem Xcq(h:p:=by show Value.int _ _=_;congr 1):p:=h
theorem Xcr(h:p:=by first|exact jN|(simp only[*];exact jN)):p:=h
theorem Xcs(h:p:=by show Value.tuple _=_;rw[bNA hc1];rfl):p:=h
theorem Xct(h:p:=by show Value.bool _=_;rw[bQQ,I4]):p:=h
theorem Xcu(h:p:=by rw[show(ints (X4 (dF y (Y0 x)))).length=9 by simpa using hs9];exact iD):p:=h
theorem Xcv(h:p:=by unfold qM;simp only[];repeat (first|rw[bNK Yd]|rw[bNA Yd])):p:=h
theorem Xcw(h:p:=by unfold uH;simp only[];repeat (first|rw[bNK Yd]|rw[bNA Yd])):p:=h
theorem Xcx(h:p:=by unfold tX;simp only[];repeat (first|rw[bNK Yd]|rw[bNA Yd])):p:=h
theorem Xcy(h:p:=by unfold pY;simp only[];repeat (first|rw[bNK Yd]|rw[bNA Yd])):p:=h
theorem Xcz(h:p:=by first|omega|(simp only[];omega)):p:=h
theorem Xda(h:p:=by cases k<;>(simp[binOp,Op.intCmp,Pure.pure];by_cases h:m=n<;>simp[h])):p:=h
theorem Xdb(h:p:=by rcases bNH.1 hp with hp|hp;exact bNE _ (bNE _ hp);exact GE _ hp):p:=h
theorem Xdc(h:p:=by simp only[execOp,hρ x _ hx,hρ y _ hy];rw[Ω,hr w'];rfl):p:=h
theorem Xdd(h:p:=by unfold gI;rw[bNA (fun e=>hM p hp (by rw[e];exact hbo))];exact p2):p:=h
theorem Xde(h:p:=by show Value.bool (decide (n≥lo)&&decide (n≤hi))=_;rfl):p:=h
theorem Xdf(h:p:=by obtain⟨p,hp,rfl⟩:=bMR.1 hbm;exact bJ (hb p hp).1):p:=h
theorem Xdg(h:p:=by simpa using KY (f:=cL) (n:=3) (k:=2) (fun _=>rfl) hx Yd rfl):p:=h
theorem Xdh(h:p:=by simp only[LT,n4,bOZ]at hD ⊢;rcases hD with rfl|rfl|rfl|rfl<;>simp):p:=h
theorem Xdi(h:p:=by rw[hp];exact⟨pv,cv,hv,lv,mv,bl,bc,yc,yq,rfl,hL.up (hD _ Yf)⟩):p:=h
theorem Xdj(h:p:=by show some (Value.int _ _)=some (Value.int _ _);congr 2):p:=h
theorem Xdk(h:p:=by have:=CU hb hs;have:=QC (s:=s) (k:=k) hs;simp only[wD];omega):p:=h
theorem Xdl(h:p:=by show(((bs.drop 3).take (3+n-3))).length≤1000;simp;omega):p:=h
theorem Xdm(h:p:=by rw[O8]at hb;exact HL hb9 hln hlen hF4 (by simpa using hb)):p:=h
theorem Xdn(h:p:=by rw[O8]at hb;exact EJ hb9 hln hlen hF4 (by simpa using hb)):p:=h
theorem Xdo(h:p:=by rw[bNL];rintro rfl;exact hap (bMR.2 ⟨_,Mm1,rfl⟩)):p:=h
theorem Xdp(h:p:=by rw[bNL];rintro rfl;exact hap (bMR.2 ⟨_,Mm0,rfl⟩)):p:=h
theorem Xdq(h:p:=by show Value.bool _=_;rw[QY hp hq2 hx1 hx2,TY hpb hqb]):p:=h
structure τ(q:Prop):Prop where
 o:q
variable{q:Prop}
theorem Wa(k:q)(h:τ q→p:=by intro zz;refine Za4<|Zaz<|aO<|Za rfl<|Zad rfl<|Zf rfl<|Zao zz.o):p:=h ⟨k⟩
theorem Wb(k:q)(h:τ q→p:=by intro zz;refine Za4<|Zaz<|aO<|Zad rfl<|Za rfl<|Zao zz.o):p:=h ⟨k⟩
theorem Wc(k:q)(h:τ q→p:=by intro zz;refine Zg rfl<|Zg rfl<|Zg rfl<|Zal rfl zz.o):p:=h ⟨k⟩
theorem Wd(k:q)(h:τ q→p:=by intro zz;refine Za rfl<|aF<|Za1<|bM (γ:=Nat) (fun k=>xs.length-k) (fun k=>k≤xs.length∧(xs.take k).any p=false) (fun k=>[(8,qI k)]) [(7,_),(4,_),(0,_),(1,_)] (fun k=>[D]) 0 Yf ⟨Ya,bSM⟩ cF (aK) zz.o):p:=h ⟨k⟩
theorem We(k:q)(h:τ q→p:=by intro zz;refine Zf rfl<|aG zz.o):p:=h ⟨k⟩
theorem Wf(k:q)(h:τ q→p:=by intro zz;refine Zg rfl<|Zg rfl<|Zg rfl<|Zg rfl<|Zak rfl zz.o):p:=h ⟨k⟩
theorem Wg(k:q)(h:τ q→p:=by intro zz;refine Zf rfl<|aG<|Za0 zz.o):p:=h ⟨k⟩
theorem Wh(k:q)(h:τ q→p:=by intro zz;refine aA<|Zf rfl<|aG<|Za0<|Za5<|Za0 zz.o):p:=h ⟨k⟩
theorem Wi(k:q)(h:τ q→p:=by intro zz;refine Zf rfl<|aG<|Za5<|Za0<|Za0<|Za5<|Za0 zz.o):p:=h ⟨k⟩
theorem Wj(k:q)(h:τ q→p:=by intro zz;refine gJ rfl rfl rfl rfl ⟨_,rfl,rfl⟩<|Zak rfl zz.o):p:=h ⟨k⟩
theorem Wk(k:q)(h:τ q→p:=by intro zz;refine aA<|Zf rfl<|aG<|Za5<|Za0 zz.o):p:=h ⟨k⟩
theorem Wl(k:q)(h:τ q→p:=by intro zz;refine Za6<|Za2<|Za2<|Za7<|Zaz<|aA<|We zz.o):p:=h ⟨k⟩
theorem Wm(k:q)(h:τ q→p:=by intro zz;refine Za6<|Za2<|Za2<|Za7<|Zaz<|aA<|Za rfl<|We zz.o):p:=h ⟨k⟩
theorem Wn(k:q)(h:τ q→p:=by intro zz;refine Zaa ((q5,_)::(q4,qC [u] 25)::(q3,qC [v] 170)::(wb,qC [cv,qI y.fit,qv,.map (some mb)] 299)::(mb,.map U V)::(ν1x++(ω1x++[(l,_),(bd,_)]))) ((bND _ _ _).trans (bND _ _ _))<|cR rfl rfl rfl ha1x.cells1 n8 (.tail (.tail .head)) Yf rfl ha1x.cell1 bSM<|cR rfl rfl rfl ha2x.cells1 fR (.tail .head) Yf rfl ha2x.cell1 bSM zz.o):p:=h ⟨k⟩
theorem Wo(k:q)(h:τ q→p:=by intro zz;refine Zg rfl<|Zg rfl<|Wc zz.o):p:=h ⟨k⟩
theorem Wp(k:q)(h:τ q→p:=by intro zz;refine Zg rfl<|Zg rfl<|Zg rfl<|Zg rfl<|Zg rfl<|Zg rfl<|Zg rfl<|Zg rfl zz.o):p:=h ⟨k⟩
theorem Wq(k:q)(h:τ q→p:=by intro zz;refine cA rfl U232 aH rfl rfl Yt Yt rfl ⟨_,rfl,rfl⟩<|Zq rfl aI rfl Mm1 rfl<|cA rfl U232 aH rfl rfl Yt Yt rfl ⟨_,rfl,rfl⟩<|Zq rfl aI rfl Mm0 rfl<|oC rfl rfl rfl Ye rfl ⟨_,rfl,rfl⟩<|Zar rfl<|Zak rfl zz.o):p:=h ⟨k⟩
theorem Wr(k:q)(h:τ q→p:=by intro zz;refine cA rfl U232 aH rfl rfl Yt Yt rfl ⟨_,rfl,rfl⟩<|Zq rfl aI rfl Mm0 rfl<|cA rfl U232 aH rfl rfl Yt Yt rfl ⟨_,rfl,rfl⟩<|Zq rfl aI rfl Mm1 rfl<|oC rfl rfl rfl Ye rfl ⟨_,rfl,rfl⟩<|Zar rfl<|Zak rfl zz.o):p:=h ⟨k⟩
theorem Ws(k:q)(h:τ q→p:=by intro zz;refine Zg rfl<|Zg rfl<|oY rfl rfl rfl rfl ⟨_,rfl,rfl⟩ zz.o):p:=h ⟨k⟩
theorem Wt(k:q)(h:τ q→p:=by intro zz;refine Za rfl<|sQ rfl rfl rfl Yd Yd Ye rfl bSM<|Zd rfl (fun Y R=>a8 (n%10) Yd Yd _)<|gS rfl rfl rfl Yd rfl bSM<|Zf rfl zz.o):p:=h ⟨k⟩
theorem Wu(k:q)(h:τ q→p:=by intro zz;refine Zf rfl<|Zao<|Wa zz.o):p:=h ⟨k⟩
theorem Wv(k:q)(h:τ q→p:=by intro zz;refine gH hA rfl rfl rfl rfl (.tail (.tail (.tail ζ))) eR rfl<|Zao zz.o):p:=h ⟨k⟩
theorem Ww(k:q)(h:τ q→p:=by intro zz;refine Zar rfl<|Zal rfl zz.o):p:=h ⟨k⟩
theorem Wx(k:q)(h:τ q→p:=by intro zz;refine pZ rfl rfl rfl rfl ⟨_,rfl,rfl⟩<|Zak rfl zz.o):p:=h ⟨k⟩
theorem Wy(k:q)(h:τ q→p:=by intro zz;refine Za rfl<|Zag rfl OP rfl Mm0 wJ<|Za rfl<|Za rfl<|Zd rfl (fun D2 hO=>y6 i ⟨((bs.drop 3).take (3+n-3)).toArray⟩ Yd Xdl _)<|aDE (l:=m4 [bs.getD 2 0,bs.getD (3+n) 0,bs.getD (8+n) 0,f0,f1,f2,f3]) (m:=m4 (zD i ((bs.drop 3).take (3+n-3)))) rfl aCB rfl rfl rfl rfl rfl bSM<|Zf rfl<|We zz.o):p:=h ⟨k⟩
theorem Wz(k:q)(h:τ q→p:=by intro zz;refine Zd rfl (fun U O=>hf x _ (O _ Yf))<|Zat rfl<|We zz.o):p:=h ⟨k⟩
theorem Waa(k:q)(h:τ q→p:=by intro zz;refine lH rfl rfl rfl rfl bSM<|We zz.o):p:=h ⟨k⟩
theorem Wab(k:q)(h:τ q→p:=by intro zz;refine gH hA rfl rfl rfl rfl (.tail (.tail ζ)) eR rfl<|Zao zz.o):p:=h ⟨k⟩
theorem Wac(k:q)(h:τ q→p:=by intro zz;refine Za4<|Zaz<|aA<|We zz.o):p:=h ⟨k⟩
theorem Wad(k:q)(h:τ q→p:=by intro zz;refine aA<|Zf rfl<|aJ<|Za rfl<|Za rfl<|gJ rfl rfl rfl rfl bSM<|Za rfl zz.o):p:=h ⟨k⟩
theorem Wae(k:q)(h:τ q→p:=by intro zz;refine Za rfl<|aT rfl hn<|Za rfl<|aT rfl hn zz.o):p:=h ⟨k⟩
theorem Waf(k:q)(h:τ q→p:=by intro zz;refine bL (e:=242) (fz:=(0,0)) rfl kL rfl Mm1 Xbz n4 rfl bSM<|eF rfl rfl rfl rfl dY (by simp[hs10]) Ybb .head (dP _) bSM<|Wg zz.o):p:=h ⟨k⟩
theorem Wag(k:q)(h:τ q→p:=by intro zz;refine Zh 0 rfl aI rfl R rfl<|Zf rfl<|bC<|Zf rfl<|aF<|Za1<|bM (γ:=Nat) (fun k=>xs.length-k) (fun k=>k≤xs.length) (fun k=>[(3,qI ((xs.take k).foldl min x)),(4,qI (k+1:Int))]) [(2,_),(0,_)] (fun k=>[D]) 0 Yd ⟨Ya,Ya,bSM⟩ cF (aK) zz.o):p:=h ⟨k⟩
theorem Wah(k:q)(h:τ q→p:=by intro zz;refine Zg rfl<|Zg rfl<|Zg rfl<|Zg rfl<|Wp zz.o):p:=h ⟨k⟩
theorem Wai(k:q)(h:τ q→p:=by intro zz;refine Zf rfl<|aJ<|Za rfl<|Zay rfl<|Zd rfl (fun O I=>nP _ _ xs (fun x=> !p x) _ (Sl.at RI.up I Ym Yf) ⟨_,[],[qP b],rfl,fun x R hl=>H5 b fv p x R (hp.up ((I _ Yf).trans hl)) (hB.up ((I _ Yf).trans hl))⟩)<|Zat rfl<|We zz.o):p:=h ⟨k⟩
theorem Waj(k:q)(h:τ q→p:=by intro zz;refine gH hA rfl rfl rfl rfl (.tail ζ) eR rfl<|Zao zz.o):p:=h ⟨k⟩
theorem Wak(k:q)(h:τ q→p:=by intro zz;refine Zd rfl (fun D3 hD3=>GX [k0,k1,k2,k3] _ rfl)<|jM (cs:=[qI (i:Int),qI (min c0 1),qI (min c1 1),qI (min c2 1),qI (min c3 1),qI (min k0 1),qI (min k1 1),qI (min k2 1),qI (min k3 1)]) rfl NL Q6 rfl Yg rfl bSM<|Zao zz.o):p:=h ⟨k⟩
theorem Wal(k:q)(h:τ q→p:=by intro zz;refine Zau rfl<|Zal rfl zz.o):p:=h ⟨k⟩
theorem Wam(k:q)(h:τ q→p:=by intro zz;refine pZ rfl rfl rfl rfl ⟨_,rfl,rfl⟩<|oT rfl rfl rfl rfl ⟨_,rfl,rfl⟩ zz.o):p:=h ⟨k⟩
theorem Wan(k:q)(h:τ q→p:=by intro zz;refine Zf rfl<|Zao<|Wb zz.o):p:=h ⟨k⟩
theorem Wao(k:q)(h:τ q→p:=by intro zz;refine aA<|Zf rfl<|aJ<|Zh 0 rfl qY rfl hB rfl<|Za rfl<|Zd rfl (fun O I=>hf x _ (I _ Yf))<|Zat rfl<|We zz.o):p:=h ⟨k⟩
theorem Wap(k:q)(h:τ q→p:=by intro zz;refine gH hA rfl rfl rfl rfl ζ eR rfl<|Zao zz.o):p:=h ⟨k⟩
theorem Waq(k:q)(h:τ q→p:=by intro zz;refine Zg rfl<|Zg rfl<|Zg rfl<|Wf zz.o):p:=h ⟨k⟩
theorem War(k:q)(h:τ q→p:=by intro zz;refine Zg rfl<|Zg rfl<|Zal rfl zz.o):p:=h ⟨k⟩
theorem Was(k:q)(h:τ q→p:=by intro zz;refine Zaq rfl<|Za rfl zz.o):p:=h ⟨k⟩
theorem Wat(k:q)(h:τ q→p:=by intro zz;refine lW rfl rfl rfl rfl ⟨_,rfl,rfl⟩<|Zak rfl zz.o):p:=h ⟨k⟩
theorem Wau(k:q)(h:τ q→p:=by intro zz;refine aA<|Za rfl<|Zf rfl<|Wg zz.o):p:=h ⟨k⟩
theorem Wav(k:q)(h:τ q→p:=by intro zz;refine aA<|Zf rfl<|aJ<|Za rfl<|Zd rfl (fun O I=>EE _ x xs _ (Sl.at RI.up I Ym Yf))<|We zz.o):p:=h ⟨k⟩
theorem Waw(k:q)(h:τ q→p:=by intro zz;refine Zas rfl<|Za rfl zz.o):p:=h ⟨k⟩
theorem Wax(k:q)(h:τ q→p:=by intro zz;refine Zf rfl<|aG<|Za0<|Za5<|Za0<|Za0<|Za5<|Za0 zz.o):p:=h ⟨k⟩
theorem Waz(k:q)(h:τ q→p:=by intro zz;refine Zf rfl<|aJ<|Za rfl<|Zax rfl zz.o):p:=h ⟨k⟩
theorem Wba(k:q)(h:τ q→p:=by intro zz;refine Zb rfl<|lW rfl rfl rfl rfl ⟨_,rfl,rfl⟩<|Zb rfl zz.o):p:=h ⟨k⟩
theorem Wbb(k:q)(h:τ q→p:=by intro zz;refine lH rfl rfl rfl rfl bSM<|aF zz.o):p:=h ⟨k⟩
theorem Wbc(k:q)(h:τ q→p:=by intro zz;refine Za rfl<|Za rfl zz.o):p:=h ⟨k⟩
theorem Wbd(k:q)(h:τ q→p:=by intro zz;refine Zg rfl<|Wo zz.o):p:=h ⟨k⟩
theorem Wbe(k:q)(h:τ q→p:=by intro zz;refine Zaa ((wb,_)::(ν1++νx)) aJW.symm<|Zam rfl<|Zj rfl jX rfl<|Zs (dO s pv v1 hv lv mv bl bc yc yq) rfl hx.cells1 DZ .head rfl hx.cell1 zz.o):p:=h ⟨k⟩
theorem Wbf(k:q)(h:τ q→p:=by intro zz;refine aA<|Za rfl<|Wi zz.o):p:=h ⟨k⟩
theorem Wbg(k:q)(h:τ q→p:=by intro zz;refine Zat rfl<|Za rfl zz.o):p:=h ⟨k⟩
theorem Wbh(k:q)(h:τ q→p:=by intro zz;refine Zb rfl<|Zb rfl<|Wj zz.o):p:=h ⟨k⟩
theorem Wbi(k:q)(h:τ q→p:=by intro zz;refine Zg rfl<|Zg rfl<|Zak rfl zz.o):p:=h ⟨k⟩
theorem Wbj(k:q)(h:τ q→p:=by intro zz;refine aT rfl hn<|Za rfl<|Zam rfl<|Zj rfl aY rfl<|Zj rfl fV rfl<|Zj rfl dM rfl<|Zp rfl iB rfl Mm0 rfl<|bR rfl U33 rfl ha rfl rfl bSM zz.o):p:=h ⟨k⟩
theorem Wbk(k:q)(h:τ q→p:=by intro zz;refine pZ rfl rfl rfl rfl ⟨_,rfl,rfl⟩<|Zal rfl zz.o):p:=h ⟨k⟩
theorem Wbl(k:q)(h:τ q→p:=by intro zz;refine Zam rfl<|Zj rfl iG rfl<|Zs (dO s pv cv hv lv mv v1 bc yc yq) rfl hx.cells1 ID .head rfl hx.cell1<|Zao<|Za4<|Zaz<|aA<|Zf rfl zz.o):p:=h ⟨k⟩
theorem Wbm(k:q)(h:τ q→p:=by intro zz;refine aA<|Zf rfl<|aJ<|Za rfl<|Za rfl<|lH rfl rfl rfl rfl bSM<|Za rfl zz.o):p:=h ⟨k⟩
theorem Wbn(k:q)(h:τ q→p:=by intro zz;refine Zac rfl eD ζ (eU hL)<|Zf rfl<|Zf rfl<|bC<|Za rfl<|Zax rfl<|aF zz.o):p:=h ⟨k⟩
theorem Wbo(k:q)(h:τ q→p:=by intro zz;refine aU (cZ.mk [bt,wb]) 2 19 65534<|Za rfl<|Za rfl<|Zam rfl<|Zj rfl jX rfl<|bD rfl xM rfl Mm0 rfl Yl rfl bSM<|Za rfl<|Zaw rfl zz.o):p:=h ⟨k⟩
theorem Wbp(k:q)(h:τ q→p:=by intro zz;refine Za6<|Za2<|Za2<|Za7<|Wa zz.o):p:=h ⟨k⟩
theorem Wbq(k:q)(h:τ q→p:=by intro zz;refine Zi 1 rfl aI rfl I rfl<|Wj zz.o):p:=h ⟨k⟩
theorem Wbr(k:q)(h:τ q→p:=by intro zz;refine Zau rfl<|Zak rfl zz.o):p:=h ⟨k⟩
theorem Wbs(k:q)(h:τ q→p:=by intro zz;refine bG<|Wb zz.o):p:=h ⟨k⟩
theorem Wbt(k:q)(h:τ q→p:=by intro zz;refine Zad rfl<|Zf rfl<|Zao zz.o):p:=h ⟨k⟩
theorem Wbu(k:q)(h:τ q→p:=by intro zz;refine aA<|Zf rfl<|aJ<|Za rfl<|Za rfl<|Zd rfl (fun O I=>xL _ _ xs p _ (Sl.at RI.up I Ym Yf) (hp.up (I _ Yf)))<|Waa zz.o):p:=h ⟨k⟩
theorem Wbv(k:q)(h:τ q→p:=by intro zz;refine Za rfl<|Za rfl<|Zam rfl<|Zj rfl aY rfl<|Zj rfl eX rfl<|Zj rfl mR rfl<|bD rfl J4 rfl Mm0 rfl Yl rfl bSM<|Wae zz.o):p:=h ⟨k⟩
theorem Wbw(k:q)(h:τ q→p:=by intro zz;refine Za rfl<|Za rfl<|Zam rfl<|Zj rfl aY rfl<|Zj rfl cY rfl<|Zj rfl mO rfl<|bD rfl I9 rfl Mm0 rfl Yl rfl bSM<|Wae zz.o):p:=h ⟨k⟩
theorem Wbx(k:q)(h:τ q→p:=by intro zz;refine Za rfl<|aT rfl hn<|Za rfl<|Zam rfl<|Zj rfl iG rfl<|Zp rfl sC rfl Mm0 rfl<|bR rfl U57 rfl I rfl rfl bSM<|Wbb zz.o):p:=h ⟨k⟩
theorem Wby(k:q)(h:τ q→p:=by intro zz;refine aA<|Zf rfl<|Wg zz.o):p:=h ⟨k⟩
theorem Wbz(k:q)(h:τ q→p:=by intro zz;refine aO<|Za rfl<|Zad rfl<|Wu zz.o):p:=h ⟨k⟩
theorem Wca(k:q)(h:τ q→p:=by intro zz;refine y9 aNH b rfl rfl rfl rfl aH (.tail .head) Yd bSM<|Zao zz.o):p:=h ⟨k⟩
theorem Wcb(k:q)(h:τ q→p:=by intro zz;refine Zan rfl<|Za rfl zz.o):p:=h ⟨k⟩
theorem Wcc(k:q)(h:τ q→p:=by intro zz;refine Zam rfl<|Zj rfl mQ rfl<|Zs (dO s pv cv hv lv v1 bl bc yc yq) rfl hx.cells1 RE .head rfl hx.cell1<|Zao zz.o):p:=h ⟨k⟩
theorem Wcd(k:q)(h:τ q→p:=by intro zz;refine Zf rfl<|We zz.o):p:=h ⟨k⟩
theorem Wce(k:q)(h:τ q→p:=by intro zz;refine Zg rfl<|Zg rfl<|oT rfl rfl rfl rfl ⟨_,rfl,rfl⟩ zz.o):p:=h ⟨k⟩
theorem Wcf(k:q)(h:τ q→p:=by intro zz;refine Zp rfl cD rfl Mm0 rfl<|Za rfl<|aT rfl hn<|Za rfl<|aT rfl hn<|eY rfl U25 aH rfl rfl Yd Yd rfl bSM zz.o):p:=h ⟨k⟩
theorem Wcg(k:q)(h:τ q→p:=by intro zz;refine PE bFN (x2:={x with token:= -1}) (k:=2) rfl rfl rfl rfl aH (.tail .head) hx Yd rfl Yd bSM<|Zao zz.o):p:=h ⟨k⟩
theorem Wch(k:q)(h:τ q→p:=by intro zz;refine bG<|Wa zz.o):p:=h ⟨k⟩
theorem Wci(k:q)(h:τ q→p:=by intro zz;refine aA<|Wg zz.o):p:=h ⟨k⟩
theorem Wcj(k:q)(h:τ q→p:=by intro zz;refine gJ rfl rfl rfl rfl bSM<|Za rfl zz.o):p:=h ⟨k⟩
theorem Wck(k:q)(h:τ q→p:=by intro zz;refine Zf rfl<|aJ<|Zay rfl<|We zz.o):p:=h ⟨k⟩
end Go
namespace Go.Fs

abbrev qI(n:Int):Γ:=.int .i64 n
abbrev qP(b:Nat):Γ:=.pointer (some ⟨b,0,none⟩)
abbrev qN:Γ:=.slice none 0 0
abbrev qS(b n c:Nat):Γ:=.slice (some ⟨b,0,none⟩) n c
abbrev qC(l:List Γ)(e:Θ):Obj:=.cells l.toArray e (0,0)
def FW(r:Option Nat):Fence:={fn:=fun _=>True,depth:=none,alive:=false,round:=r}
theorem CW(r:Option Nat)(n:Nat):(FW r).room n:=fun _ h=>by simp[FW]at h
theorem aNA(r:Option Nat)(P:Program)(m:Machine):m.fenced P (FW r):=
 fun _ _=>⟨fun h=>Xad,bNI bSM,fun _ _=>trivial,fun _ h=>Xad⟩
theorem HW{r:Option Nat}{P:Program}{m m':Machine}:StepsIn (Machine.fenced P (FW r)) P m m' ↔ Steps P m m':=
 ⟨StepsIn.steps,fun h=>(StepsIn.of_steps h).mono fun m _=>aNA r P m⟩
theorem B6{r:Option Nat}{P:Program}{m m':Machine}{e:Ending}:ComesIn (Machine.fenced P (FW r)) P m m' e ↔ Comes P m m' e:=by
 cases e with
 |returned v=>exact HW
 |panicked chain=>exact HW
 |outgrown=>exact Iff.rfl
theorem dR{r:Option Nat}{n:Nat}{P:Program}{f:FuncId}{args:Array Γ}{w:Δ}{R:Ending→Δ→Prop}:
    CallsIn (FW r) n P f args w R ↔ Calls P f args w R:=
  ⟨fun h cs=>let ⟨e,w',fr,r,s,x⟩:=h.2 cs (CW _ _);⟨e,w',fr,r,B6.1 s,x⟩,
   fun h=>⟨bSM,fun cs _=>let ⟨e,w',fr,r,s,x⟩:=h cs;⟨e,w',fr,r,B6.2 s,x⟩⟩⟩
def aWA(P:Program)(l:Nat)(f:FuncId)(tmps:Array Γ)(assign body:Code)(w:Δ)(R:Ending→Δ→Prop):Prop:=
 RoundIn (FW none) 0 P l f tmps assign body w R
theorem IC{r:Option Nat}{n:Nat}{P:Program}{l:Nat}{f:FuncId}{tmps:Array Γ}{assign body:Code}{w:Δ}{R:Ending→Δ→Prop}
  (h:aWA P l f tmps assign body w R):RoundIn (FW r) n P l f tmps assign body w R:=
 ⟨bSM,fun c cs _=>let ⟨e,w',q,s⟩:=h.2 c cs (CW _ _);⟨e,w',q,B6.2 (B6.1 s)⟩⟩

def pX{γb:Type}[Membership Nat γb](bad:γb)(w w':Δ):Prop:=w.heap.size≤w'.heap.size∧∀b,b<w.heap.size→b∉bad→w'.heap[b]?= w.heap[b]?
structure cZ where
 l:List Nat
instance:Membership Nat cZ:=⟨fun s b=>b∉s.l⟩
theorem cZ.out{l:List Nat}{b:Nat}(h:b∈l):b∉(cZ.mk l):=fun hn=>hn h
theorem cZ.in_{l:List Nat}{b:Nat}(h:b∉l):b∈(cZ.mk l):=h
theorem pX.refl{γb:Type}[Membership Nat γb](bad:γb)(w:Δ):pX bad w w:=⟨bNJ _,fun _ _ _=>rfl⟩
theorem pX.trans{γb:Type}[Membership Nat γb]{bad:γb}{w I O:Δ}(h:pX bad w I)(h':pX bad I O):pX bad w O:=
 ⟨bPD h.1 h'.1,fun b hb hn=>(h'.2 b (bPO hb h.1) hn).trans (h.2 b hb hn)⟩

def kV:Op→Bool
 |.move _|.assign _|.pick _ _ _|.load _ _|.nilCheck _|.binOp _ _ _ _ _|.unOp _ _ _|.convert _ _ _|.fieldAddr _ _ _|.field _ _ _
 |.indexAddr _ _ _|.index _ _ _|.extract _ _|.slice _ _ _ _ _|.build _ _|.makeFunc _ _ _|.makeInterface _ _|.lookup _ _ _ _|.typeAssert _ _ _ _=>true
 |.call c=>match c.callee with|.builtin .len|.builtin .cap|.builtin .max|.builtin .min=>true|_=>false
 |_=>false
def pR:Op→Bool
 |.defer _=>true
 |.select _ _=>true
 |_=>false
def Yv{γb:Type}[Membership Nat γb](bad:γb)(P:Program)(all:Array Oper)(o:Oper)(a:Act)(w:Δ)(v:Γ):Prop:=
 (Region.wanted o (yielded all a.tmps)=true∧∀w',pX bad w w'→(execOp a.eval o).run P w'=.ok (.value v) w')∨
 (Region.wanted o (yielded all a.tmps)=false∧v=undef)
def T1(r:Option Nat){γb:Type}[Membership Nat γb](bad:γb)(P:Program)(all:Array Oper)(Q:Exit→Act→Δ→Prop)(o:Oper)(fl:Bool)(K:Act→Δ→Prop)(a:Act)(w:Δ):Prop:=
 if Region.wanted o (yielded all a.tmps)=true then o.wpIn (FW r) 0 P a w (fun a' w'=>(fl=true→pX bad w w')∧K a' w') Q
 else K (a.put o.dst undef) w
def tM(r:Option Nat){γb:Type}[Membership Nat γb](bad:γb)(P:Program)(all:Array Oper)(K:Act→Δ→Prop)(Q:Exit→Act→Δ→Prop):List (Bool×Oper)→Act→Δ→Prop
 | [],a,w=>K a w
 |(fl,o)::os,a,w=>
  if kV o.op=true then ∃v,Yv bad P all o a w v∧tM r bad P all K Q os (a.put o.dst v) w
  else T1 r bad P all Q o fl (tM r bad P all K Q os) a w
variable{r:Option Nat}{γb:Type}[Membership Nat γb]{bad:γb}{P:Program}{all:Array Oper}{Q:Exit→Act→Δ→Prop}
theorem J9{o:Oper}(h:pR o.op=false)(ro:Option Nat)(ρ:Operand→Γ):Oper.semAt ro ρ o=execOp ρ o:=
 Oper.semAt_eq ro ρ o fun c hc=>by rw[hc]at h;cases h
theorem V7{o:Op}(h:kV o=true):pR o=false:=by
 cases o<;>first|rfl|(cases h)
theorem Yv.run{o:Oper}{a:Act}{w:Δ}{v:Γ}(h:Yv bad P all o a w v)(hk:kV o.op=true){K:Act→Δ→Prop}{i:Nat}(hi:all[i]?= some o){n:Nat}
  (hK:K (a.put o.dst v) w):wpOpIn (FW r) n P all Q i K a w:=by
 unfold wpOpIn;simp only[hi];rcases h with⟨hw,hv⟩|⟨hw,rfl⟩
 ·rw[bNK hw];refine⟨fun _ _=>trivial,?_⟩;rw[J9 (V7 hk),hv w (pX.refl _ _)];exact hK
 ·rw[bNA (by simp[hw])];exact⟨fun _ _=>trivial,hK⟩
theorem EP{n:Nat}{o:Oper}{a:Act}{w:Δ}{K:Act→Δ→Prop}(h:o.wpIn (FW r) 0 P a w K Q):o.wpIn (FW r) n P a w K Q:=by
 refine⟨h.1,?_⟩;have h2:=h.2;generalize (o.semAt (FW r).round a.eval).run P w=x at *;cases x with
 |ok x w'=>
  cases x<;>simp only[Oper.uponIn]at h2 ⊢ <;>first
   |exact h2
   |exact⟨fun h=>Xad,dR.2 (dR.1 h2.2)⟩
   |exact⟨fun h=>Xad,fun c cs _=>h2.2 c cs (CW _ _)⟩
   |exact⟨fun h=>Xad,bSM,fun c cs _=>h2.2.2 c cs (CW _ _)⟩
 |halt x w'=>cases x<;>exact h2

theorem K6{n:Nat}{K:Act→Δ→Prop}(hK:∀a w,K a w→Q .normal a w):∀(os:List (Bool×Oper)) (is:List Nat),is.map (fun i=>all[i]?)=os.map (fun o=>some o.2)→
  ∀a w,tM r bad P all K Q os a w→wpOpsIn (FW r) n P all Q is a w:=by
 intro os;induction os with
 |nil=>intro is h a w H;cases is with|nil=>exact hK _ _ H|cons=>simp at h
 |cons o os ih=>
  intro is h a w H;cases is with
  |nil=>simp at h
  |cons i is=>
   obtain⟨fl,o⟩:=o;simp only[bNT,bPN]at h;rw[wpOpsIn_cons];simp only[tM]at H;split at H
   ·rename_i hq;obtain⟨v,hy,H⟩:=H;exact hy.run hq h.1 (ih is h.2 _ _ H)
   ·unfold wpOpIn;simp only[h.1];unfold T1 at H;split at H
    ·rename_i hw;rw[bNK hw];exact EP (Oper.wpIn_mono (fun a w hh=>ih is h.2 _ _ hh.2) H)
    ·rename_i hw;rw[bNA hw];exact⟨fun _ _=>trivial,ih is h.2 _ _ H⟩
theorem JC(all:Array Oper):(List.range all.size).map (fun i=>all[i]?)=all.toList.map some:=by
 apply List.ext_getElem
 ·simp
 ·intro i h1 h2;simp
theorem aSO{id:Nat}{a:Act}{w:Δ}(h:tM r [] P all (fun a w=>Q .normal a w) Q (all.toList.map fun o=>(false,o)) a w):
  (Code.region id all false).wpIn (FW r) 0 P Q a w:=
 wpIn_region (K6 (fun _ _ h=>h) _ _ (by rw[JC];simp) _ _ h)

def mT(all:Array Oper):Nat→Nat→Nat→Bool
 |0,_,_=>false
 |n+1,i,x=>((all[i]?).map fun o=>o.after.toList.any fun e=>Region.binds .any e&&(Nat.beq e.on x||mT all n e.on x)).getD false
def tV(all:Array Oper)(n:Nat)(i:Nat):List Nat→Bool
 | []=>false
 |x::xs=> !mT all n i x||tV all n i xs
def jF(all:Array Oper)(x:Nat):Bool:=((all[x]?).map fun o=>kV o.op).getD false
def qG(all:Array Oper)(x i:Nat):Bool:=
 match all[x]?,all[i]? with
 |some x,some i=>x.apart all i
 |_,_=>false
def aPI(all:Array Oper)(n:Nat)(i:Nat)(before:List Nat):Bool:=
 before.all fun x=>mT all n i x||(jF all x&&qG all x i)
def N2(all:Array Oper)(i:Nat)(before:List Nat):Bool:=
 ((all[i]?).map fun o=>o.after.toList.all fun e=> !Region.binds .any e||before.contains e.on).getD false
def uN(all:Array Oper)(n:Nat):List Nat→List Nat→Bool
 |_,[]=>true
 |before,i::rest=>aPI all n i before&&N2 all i before&& !before.contains i&&uN all n (before++[i]) rest
def qJ(all:Array Oper):Bool:=all.toList.all fun o=> !pR o.op
def bFI(all:Array Oper)(n:Nat)(c:List Nat):Bool:=
 qJ all&&(c.length==all.size)&&((List.range all.size).all fun i=>c.contains i)&&uN all n [] c
def t7(r:Option Nat){γb:Type}[Membership Nat γb](bad:γb)(P:Program)(all:Array Oper)(fl:Nat→Bool)(K:Act→Δ→Prop)(Q:Exit→Act→Δ→Prop):List Nat→Act→Δ→Prop
 | [],a,w=>K a w
 |i::is,a,w=>
  match all[i]? with
  |none=>False
  |some o=>
   if kV o.op=true then ∃v,Yv bad P all o a w v∧t7 r bad P all fl K Q is (a.put o.dst v) w
   else T1 r bad P all Q o (fl i) (t7 r bad P all fl K Q is) a w
def mI(r:Option Nat){γb:Type}[Membership Nat γb](bad:γb)(P:Program)(all:Array Oper)(fl:Nat→Bool)(Q:Exit→Act→Δ→Prop)(i:Nat)(K:Act→Δ→Prop)(a:Act)(w:Δ):Prop:=
 match all[i]? with
 |none=>False
 |some o=>
  if kV o.op=true then ∃v,Yv bad P all o a w v∧K (a.put o.dst v) w
  else T1 r bad P all Q o (fl i) K a w
theorem qA{fl:Nat→Bool}{K:Act→Δ→Prop}(i:Nat)(is:List Nat)(a:Act)(w:Δ):
  t7 r bad P all fl K Q (i::is) a w=mI r bad P all fl Q i (t7 r bad P all fl K Q is) a w:=by
 rfl
theorem T1.mono{o:Oper}{f:Bool}{K K':Act→Δ→Prop}{a:Act}{w:Δ}(h:∀a w,K a w→K' a w)(H:T1 r bad P all Q o f K a w):
  T1 r bad P all Q o f K' a w:=by
 unfold T1 at *;split at H
 ·rename_i hw;rw[bNK hw];exact Oper.wpIn_mono (fun a w hh=>⟨hh.1,h _ _ hh.2⟩) H
 ·rename_i hw;rw[bNA hw];exact h _ _ H
theorem mI.mono{fl:Nat→Bool}{i:Nat}{K K':Act→Δ→Prop}{a:Act}{w:Δ}(h:∀a w,K a w→K' a w)(H:mI r bad P all fl Q i K a w):
  mI r bad P all fl Q i K' a w:=by
 unfold mI at *;split at H
 ·exact H
 ·split at H
  ·rename_i hq;rw[bNK hq];obtain⟨v,y,k⟩:=H;exact⟨v,y,h _ _ k⟩
  ·rename_i hq;rw[bNA hq];exact H.mono h
theorem vY{fl:Nat→Bool}{K K':Act→Δ→Prop}(h:∀a w,K a w→K' a w):∀(is:List Nat) {a:Act} {w:Δ},t7 r bad P all fl K Q is a w→t7 r bad P all fl K' Q is a w
 | [],_,_,H=>h _ _ H
 |i::is,a,w,H=>by
  rw[qA]at H ⊢
  exact H.mono fun a w=>vY h is
theorem Yv.of_same{o:Oper}{v:Γ}{a a':Act}{w w':Δ}(hy:Yv bad P all o a w v)(hk:pX bad w w')(he:execOp a'.eval o=execOp a.eval o)
  (hw:Region.wanted o (yielded all a'.tmps)=Region.wanted o (yielded all a.tmps)):Yv bad P all o a' w' v:=by
 rcases hy with⟨h1,h2⟩|⟨h1,h2⟩
 ·exact bNI ⟨hw.trans h1,fun O I=>he▸h2 O (hk.trans I)⟩
 ·exact bNC ⟨hw.trans h1,h2⟩
def N7:Op→Bool
 |.build _ _=>true
 |.extract _ _=>true
 |.move _=>true
 |.assign _=>true
 |_=>false
def B9(all:Array Oper)(x:Nat):Bool:=((all[x]?).map fun o=>N7 o.op).getD false
def WI{α:Type}(x:Sem α):Prop:=∀(P:Program) w v w1,x.run P w=.ok v w1→w1=w∧∀w',x.run P w'=.ok v w'
theorem WI.pure{α:Type}(a:α):WI (Pure.pure a:Sem α):=fun P w v I h=>by
 rw[ε]at h;cases h;exact⟨rfl,fun w'=>ε ..⟩
theorem WI.bind{α β:Type}{x:Sem α}{f:α→Sem β}(hx:WI x)(hf:∀a,WI (f a)):WI (x >>= f):=fun P w v O h=>by
 rw[Ω]at h;cases hr:x.run P w with
 |ok a I=>
  rw[hr]at h;obtain⟨rfl,h2⟩:=hx P w a I hr;obtain⟨rfl,h3⟩:=hf a P _ v O h;exact⟨rfl,fun w'=>by rw[Ω,h2 w'];exact h3 w'⟩
 |halt z I=>rw[hr]at h;cases h
theorem WI.halt{α:Type}(z:Halt):WI (Sem.halt z:Sem α):=fun P w v I h=>by cases h
theorem WI.program:WI program:=fun P w v I h=>by cases h;exact⟨rfl,fun w'=>rfl⟩
theorem WI.typeInfo(t:Θ):WI (typeInfo t):=by
 unfold Go.typeInfo;refine WI.bind WI.program fun p=>?_
 split
 ·exact WI.pure _
 ·exact WI.halt _
theorem WI.underlying(t:Θ):WI (underlying t):=by
 unfold Go.underlying;refine WI.bind WI.program fun p=>?_
 split
 ·exact WI.pure _
 ·exact WI.halt _
theorem WI.sizeOf(t:Θ):WI (sizeOf t):=WI.bind (WI.typeInfo t) fun _=>WI.pure _
theorem WI.zeroValue(t:Θ):WI (zeroValue t):=by
 unfold Go.zeroValue;refine WI.bind (WI.typeInfo t) fun p=>?_
 split
 ·exact WI.pure _
 ·exact WI.halt _
theorem WI.mapM{α β:Type}{f:α→Sem β}(hf:∀a,WI (f a))(as:Array α):WI (as.mapM f):=by
 rw[Array.mapM_eq_mapM_toList];refine WI.bind ?_ fun _=>WI.pure _
 generalize as.toList=l;induction l with
 |nil=>exact WI.pure _
 |cons a l ih=>
  rw[bQM];exact WI.bind (hf a) fun _=>WI.bind ih fun _=>WI.pure _
theorem WI.build(t:Θ)(parts:Array (Nat×Γ)):WI (Instr.build t parts):=by
 unfold Instr.build;refine WI.bind (WI.zeroValue t) fun z=>WI.bind (WI.underlying t) fun u=>?_
 split
 ·refine WI.bind (WI.mapM (fun f=>WI.bind (WI.sizeOf _) fun _=>WI.pure _) _) fun pl=>?_
  split
  ·exact WI.pure _
  ·exact WI.halt _
 ·refine WI.bind (WI.sizeOf _) fun sz=>?_
  split
  ·exact WI.pure _
  ·exact WI.halt _
 ·exact WI.halt _
theorem WI.extract(t:Γ)(i:Nat):WI (Instr.extract t i):=by
 unfold Instr.extract;split
 ·split
  ·exact WI.pure _
  ·exact WI.halt _
 ·exact WI.halt _
theorem aUO{o:Oper}(hp:N7 o.op=true){ρ:Operand→Γ}{P:Program}{w:Δ}{v:Γ}(hr:(execOp ρ o).run P w=.ok (.value v) w):∀w',(execOp ρ o).run P w'=.ok (.value v) w':=by
 have:WI (execOp ρ o):=by
  cases o with
  |mk dst op type pos after guard=>
   cases op<;>first|(cases hp)|skip
   all_goals unfold execOp
   ·exact WI.pure _
   ·exact WI.pure _
   ·exact WI.bind (WI.build _ _) fun _=>WI.pure _
   ·exact WI.bind (WI.extract _ _) fun _=>WI.pure _
 exact(this P w _ w hr).2
theorem Yv.of_same'{o:Oper}{v:Γ}{a a':Act}{w w':Δ}(hy:Yv bad P all o a w v)(hk:pX bad w w'∨N7 o.op=true)(he:execOp a'.eval o=execOp a.eval o)
  (hw:Region.wanted o (yielded all a'.tmps)=Region.wanted o (yielded all a.tmps)):Yv bad P all o a' w' v:=by
 rcases hk with hk|hk
 ·exact hy.of_same hk he hw
 ·rcases hy with⟨h1,h2⟩|⟨h1,h2⟩
  ·exact bNI ⟨hw.trans h1,fun I _=>he▸aUO hk (h2 w (pX.refl _ _)) I⟩
  ·exact bNC ⟨hw.trans h1,h2⟩
def PI(Q:Exit→Act→Δ→Prop):Prop:=∀c (a a':Act) w,a'.defers=a.defers→Q (.panic c) a w→Q (.panic c) a' w
theorem NI(a:Act)(d:Option Tmp)(v:Γ):(a.put d v).defers=a.defers:=by cases d<;>rfl
theorem vZ{o:Oper}(h:pR o.op=false):∀cs b,o.op≠.select cs b:=fun cs b e=>by rw[e]at h;cases h
theorem aQD{x o:Oper}{f:Bool}{v:Γ}(hap:x.apart all o=true)(hx:pR x.op=false)(ho:pR o.op=false)(hf:f=true∨N7 x.op=true)(hQ:PI Q)
  {K:Act→Δ→Prop} {a:Act} {w:Δ} (hy:Yv bad P all x a w v) (h:T1 r bad P all Q o f K (a.put x.dst v) w):
  T1 r bad P all Q o f (fun a' w'=>Yv bad P all x a' w' v∧K (a'.put x.dst v) w') a w:=by
 obtain⟨h1,h2,h3⟩:=Oper.apart_spec hap;have keep:∀u w',(f=true→pX bad w w')→Yv bad P all x (a.put o.dst u) w' v:=fun u w' hk=>
  hy.of_same' (hf.imp hk id) (execOp_put x (vZ hx) a o.dst u h3) (wanted_put x a o.dst u h3)
 unfold T1 at *;rw[wanted_put o a x.dst v h1]at h;split at h
 ·rename_i hw;rw[bNK hw];refine⟨fun _ _=>trivial,?_⟩;have h:=h.2;rw[J9 ho,execOp_put o (vZ ho) a x.dst v h1]at h;rw[J9 ho];generalize (execOp a.eval o).run P w=z at *;cases z with
  |ok z w'=>
   cases z<;>simp only[Oper.uponIn]at h ⊢
   case value u=>exact⟨h.1,keep u w' h.1,by rw[←Act.put_comm a v u h2];exact h.2⟩
   case skip=>exact⟨h.1,keep _ w' h.1,by rw[←Act.put_comm a v undef h2];exact h.2⟩
   case defer d=>
    refine⟨h.1,?_,?_⟩
    ·exact(hy.of_same' (a':={a with defers:=d::a.defers}.put o.dst undef) (hf.imp h.1 id)
      ((execOp_put x (vZ hx) {a with defers:=d::a.defers} o.dst undef h3).trans rfl) ((wanted_put x {a with defers:=d::a.defers} o.dst undef h3).trans rfl))
    ·have e:=h.2;rw[Act.put_defers,Act.put_comm _ v undef h2]at e;exact e
   case enter f args=>
    refine⟨h.1,CallsIn.mono h.2 fun e w'' he=>?_⟩;cases e with
    |returned u=>exact⟨he.1,keep u w'' he.1,Xci⟩
    |panicked c=>exact hQ _ _ _ _ (NI _ _ _).symm he
    |outgrown=>exact he
   case row row args=>exact⟨h.1,RowsIn.mono h.2 fun u w'' he=>⟨he.1,keep u w'' he.1,Xci⟩⟩
   case round l f tmps assign body=>
    refine⟨h.1,RoundIn.mono h.2 fun e w'' he=>?_⟩;cases e with
    |returned u=>exact⟨he.1,keep u w'' he.1,Xci⟩
    |panicked c=>exact hQ _ _ _ _ (NI _ _ _).symm he
    |outgrown=>exact he
  |halt z w'=>
   cases z<;>simp only[Oper.uponIn]at h ⊢
   case panic u=>exact hQ _ _ _ _ (NI _ _ _).symm h
 ·rename_i hw;rw[bNA hw];exact⟨keep _ w fun _=>pX.refl _ _,by rw[←Act.put_comm a v undef h2];exact h⟩
theorem l4{x:Nat}(h:jF all x=true):∃o,all[x]?= some o∧kV o.op=true:=by
 unfold jF at h;cases hx:all[x]? with
 |none=>simp[hx]at h
 |some o=>exact⟨o,rfl,by simpa [hx]using h⟩
theorem T7(h:qJ all=true){i:Nat}{o:Oper}(ho:all[i]?= some o):pR o.op=false:=by
 have hm:o∈all.toList:=by
  rw[bPZ]at ho;obtain⟨hi,rfl⟩:=ho;simp
 have:=bNQ.1 h o hm;simpa using this
theorem aKS{fl:Nat→Bool}{x i:Nat}(hnd:qJ all=true)(hq:jF all x=true)(hap:qG all x i=true)(hf:jF all i=true∨fl i=true∨B9 all x=true)
  (hQ:PI Q) {K:Act→Δ→Prop} {a:Act} {w:Δ}
  (h:mI r bad P all fl Q x (mI r bad P all fl Q i K) a w):mI r bad P all fl Q i (mI r bad P all fl Q x K) a w:=by
 obtain⟨ox,hx,hqx⟩:=l4 hq;cases hi:all[i]? with
 |none=>simp[qG,hx,hi]at hap
 |some oi=>
  have hap':ox.apart all oi=true:=by simpa [qG,hx,hi]using hap
  have dx:=T7 hnd hx;have di:=T7 hnd hi;obtain⟨h1,h2,h3⟩:=Oper.apart_spec hap';simp only[mI,hx,hi,hqx,bPG]at h ⊢
  obtain⟨v,hy,h⟩:=h;split at h
  ·rename_i hqi;obtain⟨u,hu,h⟩:=h;rw[bNK hqi];refine⟨u,hu.of_same (pX.refl _ _) (execOp_put oi (vZ di) a ox.dst v h1).symm (wanted_put oi a ox.dst v h1).symm,v,
    hy.of_same (pX.refl _ _) (execOp_put ox (vZ dx) a oi.dst u h3) (wanted_put ox a oi.dst u h3),?_⟩
   rw[←Act.put_comm a v u h2];exact h
  ·rename_i hqi;rw[bNA hqi];have hfl:fl i=true∨N7 ox.op=true:=by
    rcases hf with hf|hf|hf
    ·obtain⟨o,ho,hqo⟩:=l4 hf;rw[hi]at ho;cases ho;exact absurd hqo hqi
    ·exact bNI hf
    ·exact bNC (by simpa [B9,hx]using hf)
   refine(aQD hap' dx di hfl hQ hy h).mono fun a w hh=>?_
   rw[mI,hx];simp only[hqx,bPG];exact⟨v,hh.1,hh.2⟩
theorem uQ{fl:Nat→Bool}{i:Nat}(hnd:qJ all=true)(hQ:PI Q){K:Act→Δ→Prop}:
  ∀(c1 c2:List Nat) (a:Act) (w:Δ),(∀x∈c1,jF all x=true∧qG all x i=true∧(jF all i=true∨fl i=true∨B9 all x=true))→
   t7 r bad P all fl K Q (c1++i::c2) a w→mI r bad P all fl Q i (t7 r bad P all fl K Q (c1++c2)) a w:=by
 intro c1;induction c1 with
 |nil=>intro c2 a w _ h;rw[bOA,qA]at h;exact h
 |cons x c1 ih=>
  intro c2 a w hc h;rw[bPF,qA]at h;have h':=h.mono fun a w hh=>ih c2 a w (fun y hy=>hc y (bMT _ hy)) hh
  obtain⟨h1,h2,h3⟩:=hc x bMV;have:=aKS hnd h1 h2 h3 hQ h';exact this.mono fun a w hh=>by rw[bPF,qA];exact hh
theorem mI.wpOpIn{fl:Nat→Bool}{i:Nat}{n:Nat}{K:Act→Δ→Prop}{a:Act}{w:Δ}(h:mI r bad P all fl Q i K a w):wpOpIn (FW r) n P all Q i K a w:=by
 unfold mI at h;split at h
 ·exact h.elim
 ·rename_i o ho;split at h
  ·rename_i hq;obtain⟨v,hy,h⟩:=h;exact hy.run hq ho h
  ·unfold Go.wpOpIn;simp only[ho];unfold T1 at h;split at h
   ·rename_i hw;rw[bNK hw];exact EP (Oper.wpIn_mono (fun a w hh=>hh.2) h)
   ·rename_i hw;rw[bNA hw];exact⟨fun _ _=>trivial,h⟩
def XI(all:Array Oper)(cW:Array Bool):Prop:=
 ∀(i:Nat) (o:Oper),all[i]?= some o→cW.getD i false=true→∀e∈o.after,Region.binds .any e=true→cW.getD e.on false=true
theorem uC{cW:Array Bool}(hc:XI all cW):∀(n i x:Nat) (o:Oper),all[i]?= some o→(∀e∈o.after,Region.binds .any e=true→cW.getD e.on false=true)→
  (∀j,cW.getD j false=true→j<all.size)→mT all n i x=true→cW.getD x false=true:=by
 intro n;induction n with
 |zero=>intro i x o _ _ _ h;simp[mT]at h
 |succ n ih=>
  intro i x o ho hall hlt h;simp only[mT,ho,bOO,bQL,bRD,bMS,bNZ]at h;obtain⟨e,he,hb,h⟩:=h;have hl:=hall e (by simpa using he) hb;rcases h with h|h
  ·rw[bOV h]at hl;exact hl
  ·have hj:=hlt _ hl;exact ih e.on x all[e.on] (by simp[hj]) (hc e.on _ (by simp[hj]) hl) hlt h
theorem tF{n:Nat}:∀(c before c1:List Nat) (i:Nat) (c2:List Nat),uN all n before c=true→c=c1++i::c2→
  aPI all n i (before++c1)=true∧N2 all i (before++c1)=true∧i∉before++c1:=by
 intro c;induction c with
 |nil=>intro before c1 i c2 _ h;simp at h
 |cons x c ih=>
  intro before c1 i c2 hc h;simp only[uN,bMS]at hc;cases c1 with
  |nil=>simp only[bOA,bPN]at h;rw[←h.1];simpa [and_assoc]using hc.1
  |cons y c1=>
   simp only[bPF,bPN]at h;have:=ih (before++[x]) c1 i c2 hc.2 h.2;rw[h.1]at this;simpa using this
def K8(all:Array Oper)(n:Nat)(fl:Nat→Bool)(c:List Nat):Prop:=
 ∀c1 i c2,c=c1++i::c2→∀x∈c1,mT all n i x=true∨(jF all x=true∧qG all x i=true∧(jF all i=true∨fl i=true∨B9 all x=true))
theorem K8.erase{n:Nat}{fl:Nat→Bool}{c1 c2:List Nat}{i:Nat}(h:K8 all n fl (c1++i::c2)):K8 all n fl (c1++c2):=by
 intro d1 j d2 he x hx;by_cases hl:d1.length<c1.length
 ·obtain⟨t,ht⟩:∃t,c1=d1++j::t:=by
   have h1:(c1++c2)[d1.length]?= some j:=by rw[he];simp
   rw[bPH hl]at h1;have h2:c1.take d1.length=d1:=by
    have:=bNB (List.take d1.length) he;rw[bOK (Nat.le_of_lt hl)]at this;simpa using this
   refine⟨c1.drop (d1.length+1),?_⟩;have h3:=bPJ d1.length c1;rw[h2,bOF hl]at h3;rw[bMU hl]at h1;rw[bNS h1]at h3;exact h3.symm
  exact h d1 j (t++i::c2) (by rw[ht];simp) x hx
 ·obtain⟨t,ht⟩:∃t,d1=c1++t:=by
   have h2:d1.take c1.length=c1:=by
    have:=bNB (List.take c1.length) he;rw[bOK (bNJ _),bNR,bOK Yd]at this;exact this.symm
   exact⟨d1.drop c1.length,by rw[←h2,bON,bQI Yd,bPJ]⟩
  subst ht;have hc2:c2=t++j::d2:=by
   rw[bND]at he;exact List.append_cancel_left he
  refine h (c1++i::t) j d2 (by rw[hc2];simp) x ?_;simp only[bNH,LT]at hx ⊢
  rcases hx with hx|hx
  ·exact bNI hx
  ·exact bNC (bNC hx)
def yZ(all:Array Oper)(cW:Array Bool)(c:List Nat):Prop:=
 ∀c1 i c2,c=c1++i::c2→∀o,all[i]?= some o→∀e∈o.after,Region.binds .any e=true→cW.getD e.on false=true∨e.on∈c1
theorem BN{c1 c2 d1 d2:List Nat}{j:Nat}(he:c1++c2=d1++j::d2):
  (∃t,c1=d1++j::t∧d2=t++c2)∨(∃t,d1=c1++t∧c2=t++j::d2):=by
 rcases List.append_eq_append_iff.1 he with⟨t,h1,h2⟩|⟨t,h1,h2⟩
 ·exact bNC ⟨t,h1,h2⟩
 ·cases t with
  |nil=>exact bNC ⟨[],by simpa using h1.symm,by simpa using h2.symm⟩
  |cons x t=>
   simp only[bPF,bPN]at h2;exact bNI ⟨t,by rw[h1,h2.1],h2.2⟩
theorem yZ.erase{cW:Array Bool}{c1 c2:List Nat}{i:Nat}(hi:i<cW.size)(h:yZ all cW (c1++i::c2)):yZ all (cW.setIfInBounds i true) (c1++c2):=by
 intro d1 j d2 he o ho e hm hb;rcases BN he with⟨t,h1,h2⟩|⟨t,h1,h2⟩
 ·rcases h d1 j (t++i::c2) (by rw[h1];simp) o ho e hm hb with hl|hl
  ·exact bNI (getD_set_true hl)
  ·exact bNC hl
 ·rcases h (c1++i::t) j d2 (by rw[h2];simp) o ho e hm hb with hl|hl
  ·exact bNI (getD_set_true hl)
  ·simp only[bNH,LT]at hl;rcases hl with hl|hl|hl
   ·exact bNC (by rw[h1];simp[hl])
   ·rw[hl];exact bNI (by simp[hi])
   ·exact bNC (by rw[h1];simp[hl])
theorem oN{cW:Array Bool}{i:Nat}(h:i<cW.size):(cW.setIfInBounds i true).getD i false=true:=by simp[h]
theorem HB{n:Nat}{fl:Nat→Bool}(hnd:qJ all=true)(hQ:PI Q):
  ∀(c:List Nat) (cW:Array Bool) (a:Act) (w:Δ),cW.size=all.size→XI all cW→c.Nodup→
   (∀i,i<all.size→(i∈c ↔ cW.getD i false=false))→(∀i∈c,i<all.size)→K8 all n fl c→yZ all cW c→
   t7 r bad P all fl (fun a w=>Q .normal a w) Q c a w→wpAnyIn (FW r) 0 P .any all Q c.length cW a w:=by
 intro c;induction hlen:c.length generalizing c with
 |zero=>
  intro cW a w hs _ _ hm _ _ _ h;have hc:c=[]:=bQC.1 hlen;subst hc;refine⟨?_,h⟩;rw[List.eq_nil_iff_forall_not_mem];intro i hi;obtain⟨hun,o,ho,_⟩:=mem_ready.1 hi;have hlt:i<all.size:=(bPZ.1 ho).1;have:=(hm i hlt).2 (by rw[bOX]at hun ⊢;rw[bQR Yd]at hun ⊢;exact hun)
  simp at this
 |succ k ih=>
  intro cW a w hs hcl hnodup hm hlt hg ht h;constructor
  ·intro h0;exfalso
   match c,hlen with
   |i::c',_=>
    have hi:i∈Region.ready .any all cW:=by
     refine mem_ready.2 ⟨?_,all[i]'(hlt i bMV),by simp[hlt i bMV],?_⟩
     ·have:=(hm i (hlt i bMV)).1 bMV;rw[bOX]at this ⊢
      rw[bQR (by rw[hs];exact hlt i bMV)]at this ⊢
      exact this
     ·intro e he hb;rcases ht [] i c' rfl _ (by simp[hlt i bMV]) e he hb with h|h
      ·exact h
      ·cases h
    rw[h0]at hi;cases hi
  ·intro i hi;obtain⟨hun,o,ho,hpre⟩:=mem_ready.1 hi;have hil:i<all.size:=(bPZ.1 ho).1;have hun':cW.getD i false=false:=by
    rw[bOX]at hun ⊢
    rw[bQR Yd]at hun ⊢
    exact hun
   have hmem:=(hm i hil).2 hun';obtain⟨c1,c2,rfl⟩:=List.append_of_mem hmem;have hfront:∀x∈c1,jF all x=true∧qG all x i=true∧(jF all i=true∨fl i=true∨B9 all x=true):=by
    intro x hx;rcases hg c1 i c2 rfl x hx with hr|hr
    ·have hxl:=hlt x (by simp[hx]);have:=uC hcl n i x o ho (fun e he hb=>hpre e he hb) (fun j hj=>by
      rcases Nat.lt_or_ge j cW.size with h|h
      ·omega
      ·simp[Array.getElem?_eq_none h]at hj) hr
     have h2:=(hm x hxl).1 (by simp[hx]);rw[h2]at this;cases this
    ·exact hr
   have hst:=uQ hnd hQ c1 c2 a w hfront h;refine wpOpIn_mono (fun a w hh=>?_) hst.wpOpIn;have hlen':(c1++c2).length=k:=by simp at hlen ⊢;omega
   refine ih (c1++c2) hlen' (cW.setIfInBounds i true) a w (by simpa using hs) ?_ ?_ ?_ ?_ hg.erase (ht.erase Yd) hh
   ·intro j oj hj hlj e he hb;by_cases hij:i=j
    ·subst hij;rw[ho]at hj;cases hj
     exact getD_set_true (hpre e he hb)
    ·rw[getD_set_ne false hij]at hlj;exact getD_set_true (hcl j oj hj hlj e he hb)
   ·rw[bNF]at hnodup ⊢
    refine⟨hnodup.1,(bOT.1 hnodup.2.1).2,fun x hx y hy=>hnodup.2.2 x hx y (bMT _ hy)⟩
   ·intro j hj;by_cases hij:i=j
    ·subst hij;rw[oN Yd];constructor
     ·intro hmem;exfalso
      rw[bNF]at hnodup;rcases bNH.1 hmem with I|O
      ·exact hnodup.2.2 i I i bMV rfl
      ·exact(bOT.1 hnodup.2.1).1 O
     ·intro h;cases h
    ·rw[getD_set_ne false hij,←hm j hj];simp only[bNH,LT];constructor
     ·rintro(h|h)
      ·exact bNI h
      ·exact bNC (bNC h)
     ·rintro(h|h|h)
      ·exact bNI h
      ·exact absurd h.symm hij
      ·exact bNC h
   ·intro j hj;refine hlt j ?_;simp only[bNH,LT]at hj ⊢
    rcases hj with h|h
    ·exact bNI h
    ·exact bNC (bNC h)
def cW(all:Array Oper)(n:Nat):List Nat→List Nat→List (Bool×Oper)
 |_,[]=>[]
 |before,i::rest=>(tV all n i before,all.getD i default)::cW all n (before++[i]) rest
theorem YY{n:Nat}{K:Act→Δ→Prop}{fl:Nat→Bool}:∀(c before:List Nat) (a:Act) (w:Δ),(∀i∈c,i<all.size)→
  (∀c1 i c2,c=c1++i::c2→fl i=tV all n i (before++c1))→tM r bad P all K Q (cW all n before c) a w→t7 r bad P all fl K Q c a w:=by
 intro c;induction c with
 |nil=>intro before a w _ _ h;exact h
 |cons i c ih=>
  intro before a w hlt hf h;have hi:=hlt i bMV;have ho:all[i]?= some all[i]:=by simp[hi]
  have hd:all.getD i default=all[i]:=by simp[hi]
  have hfi:fl i=tV all n i before:=by simpa using hf [] i c rfl
  have hrec:∀a w,tM r bad P all K Q (cW all n (before++[i]) c) a w→t7 r bad P all fl K Q c a w:=fun a w hh=>
   ih (before++[i]) a w (fun j hj=>hlt j (bMT _ hj)) (fun c1 j c2 he=>by
    rw[hf (i::c1) j c2 (by rw[he];rfl)];simp) hh
  simp only[cW,tM,hd]at h;simp only[t7,ho];split at h
  ·rename_i hq;obtain⟨v,hy,h⟩:=h;rw[bNK hq];exact⟨v,hy,hrec _ _ h⟩
  ·rename_i hq;rw[bNA hq,hfi];exact h.mono hrec
theorem W3{n:Nat}:∀(c before:List Nat),uN all n before c=true→before.Nodup→(before++c).Nodup:=by
 intro c;induction c with
 |nil=>intro before _ h;simpa using h
 |cons i c ih=>
  intro before h hb;simp only[uN,bMS,bPQ,bRU,bMY]at h;have:=ih (before++[i]) h.2 (by
   rw[bNF];refine⟨hb,Yf,fun x hx y hy=>?_⟩;simp only[bNL]at hy;rintro rfl;exact h.1.2 (hy▸hx))
  simpa using this
theorem sV{n i x:Nat}:∀{l:List Nat},x∈l→mT all n i x=false→tV all n i l=true
 |y::l,hx,hr=>by
  simp only[tV,bNZ,bPQ];rcases LT.1 hx with rfl|hx
  ·exact bNI hr
  ·exact bNC (sV hx hr)
theorem bLS{id n:Nat}{c:List Nat}{a:Act}{w:Δ}(hm:P.follows .mixedOrders=true)(hc:bFI all n c=true)(hQ:PI Q)
  (h:tM r bad P all (fun a w=>Q .normal a w) Q (cW all n [] c) a {w with drawn:=w.drawn+1}):
  (Code.region id all true).wpIn (FW r) 0 P Q a w:=by
 simp only[bFI,bMS,bRL,bNQ,bOQ,bRU,GT]at hc;obtain⟨⟨⟨hnd,hlen⟩,hall⟩,hfrom⟩:=hc;have hnodup:c.Nodup:=by simpa using W3 c [] hfrom bPA
 have hlt:∀i∈c,i<all.size:=by
  intro i hi;obtain⟨c1,c2,rfl⟩:=List.append_of_mem hi;have:=(tF _ [] c1 i c2 hfrom rfl).2.1;unfold N2 at this;rcases Nat.lt_or_ge i all.size with h|h
  ·exact h
  ·simp[Array.getElem?_eq_none h]at this
 refine wpIn_region_any hm ?_;rw[←hlen];refine HB (bad:=bad) (fl:=fun i=>tV all n i (c.take (c.idxOf i))) (n:=n) hnd hQ c _ a _ (by simp[hlen]) ?_ hnodup ?_ hlt ?_ ?_ ?_
 ·intro i o ho hl;simp[Array.getElem?_replicate]at hl;split at hl<;>simp at hl
 ·intro i hi;simp only[bOX,Array.getElem?_replicate,hlen,hi,bPG,bQL,iff_true];exact hall i hi
 ·intro c1 i c2 he x hx;obtain⟨hg,_,_⟩:=tF _ [] c1 i c2 hfrom he;have h1:=bNQ.1 hg x Xag;simp only[bNZ,bMS]at h1;cases hr:mT all n i x with
  |true=>exact bNI rfl
  |false=>
   rw[hr]at h1;have h1:=h1.resolve_left Yf;refine bNC ⟨h1.1,h1.2,bNC (bNI ?_)⟩;have hni:i∉c1:=by
    rw[he,bNF]at hnodup;intro hm;exact hnodup.2.2 i hm i bMV rfl
   have:c.take (c.idxOf i)=c1:=by
    rw[he,List.idxOf_append,bNA hni,List.idxOf_cons_self];simp
   show tV all n i (c.take (c.idxOf i))=true;rw[this];exact sV hx hr
 ·intro c1 i c2 he o ho e hm hb;obtain⟨_,ht,_⟩:=tF _ [] c1 i c2 hfrom he;unfold N2 at ht;rw[ho]at ht;simp only[bOO,bQL,bNQ,bNZ,bPQ,bOA,bRU,GT]at ht;rcases ht e Xas with h|h
  ·rw[hb]at h;cases h
  ·exact bNC h
 ·refine YY (n:=n) c [] a _ hlt ?_ h;intro c1 i c2 he;have hni:i∉c1:=by
   rw[he,bNF]at hnodup;intro hm;exact hnodup.2.2 i hm i bMV rfl
  have:c.take (c.idxOf i)=c1:=by
   rw[he,List.idxOf_append,bNA hni,List.idxOf_cons_self];simp
  show tV all n i (c.take (c.idxOf i))=_;rw[this];rfl
def iS(all:Array Oper)(is:List (Bool×Nat)):List (Bool×Oper):=is.map fun p=>(p.1,all.getD p.2 default)
theorem aWL(all:Array Oper):(all.toList.map fun o=>(false,o))=iS all ((List.range all.size).map fun i=>(false,i)):=by
 apply List.ext_getElem
 ·simp[iS]
 ·intro i h1 h2;simp[iS]at h1 ⊢
  simp[h1]

def PL(all:Array Oper)(n:Nat)(fls:List Bool)(E:List Nat)(i:Nat)(before:List Nat):Bool:=
 before.all fun x=>E.contains x||mT all n i x||(jF all x&&qG all x i&&(jF all i||(fls.getD i false||B9 all x)))
def V2(all:Array Oper)(n:Nat)(E:List Nat)(fl:Nat→Bool)(c:List Nat):Prop:=
 ∀c1 i c2,c=c1++i::c2→∀x∈c1,x∈E∨mT all n i x=true∨(jF all x=true∧qG all x i=true∧(jF all i=true∨fl i=true∨B9 all x=true))
theorem V2.erase{n:Nat}{E:List Nat}{fl:Nat→Bool}{c1 c2:List Nat}{i:Nat}(h:V2 all n E fl (c1++i::c2)):V2 all n E fl (c1++c2):=by
 intro d1 j d2 he x hx;rcases BN he with⟨t,h1,h2⟩|⟨t,h1,h2⟩
 ·exact h d1 j (t++i::c2) (by rw[h1];simp) x hx
 ·refine h (c1++i::t) j d2 (by rw[h2];simp) x ?_;rw[h1]at hx;simp only[bNH,LT]at hx ⊢
  rcases hx with hx|hx
  ·exact bNI hx
  ·exact bNC (bNC hx)
theorem V2.none{n:Nat}{E:List Nat}{fl:Nat→Bool}{c:List Nat}(h:V2 all n E fl c)(hp:∀e∈E,e∉c):K8 all n fl c:=by
 intro c1 i c2 he x hx;rcases h c1 i c2 he x hx with h|h
 ·exact absurd (by rw[he];simp[hx]) (hp x h)
 ·exact h
theorem pG{fl:Nat→Bool}{K:Act→Δ→Prop}:∀(c d:List Nat) (a:Act) (w:Δ),t7 r bad P all fl (t7 r bad P all fl K Q d) Q c a w→t7 r bad P all fl K Q (c++d) a w
 | [],d,a,w,h=>h
 |i::c,d,a,w,h=>by
  rw[bPF,qA];rw[qA]at h;exact h.mono fun a w=>pG c d a w
structure IP(all:Array Oper)(n:Nat)(cW:Array Bool)(c:List Nat):Prop where
 size:cW.size=all.size
 closed:XI all cW
 nodup:c.Nodup
 mem:∀i,i<all.size→(i∈c ↔ cW.getD i false=false)
 lt:∀i∈c,i<all.size
 topo:yZ all cW c
theorem IP.step{n:Nat}{cW:Array Bool}{c1 c2:List Nat}{i:Nat}{o:Oper}(h:IP all n cW (c1++i::c2))(ho:all[i]?= some o)(hpre:∀e∈o.after,Region.binds .any e=true→cW.getD e.on false=true):IP all n (cW.setIfInBounds i true) (c1++c2):=by
 have hil:i<all.size:=(bPZ.1 ho).1;have hs:=h.size;refine⟨by simpa using hs,?_,?_,?_,?_,h.topo.erase Yd⟩
 ·intro j oj hj hlj e he hb;by_cases hij:i=j
  ·subst hij;rw[ho]at hj;cases hj
   exact getD_set_true (hpre e he hb)
  ·rw[getD_set_ne false hij]at hlj;exact getD_set_true (h.closed j oj hj hlj e he hb)
 ·have hnodup:=h.nodup;rw[bNF]at hnodup ⊢
  exact⟨hnodup.1,(bOT.1 hnodup.2.1).2,fun x hx y hy=>hnodup.2.2 x hx y (bMT _ hy)⟩
 ·intro j hj;have hnodup:=h.nodup;by_cases hij:i=j
  ·subst hij;rw[oN Yd];constructor
   ·intro hmem;exfalso
    rw[bNF]at hnodup;rcases bNH.1 hmem with I|O
    ·exact hnodup.2.2 i I i bMV rfl
    ·exact(bOT.1 hnodup.2.1).1 O
   ·intro h;cases h
  ·rw[getD_set_ne false hij,←h.mem j hj];simp only[bNH,LT];constructor
   ·rintro(h|h)
    ·exact bNI h
    ·exact bNC (bNC h)
   ·rintro(h|h|h)
    ·exact bNI h
    ·exact absurd h.symm hij
    ·exact bNC h
 ·intro j hj;refine h.lt j ?_;simp only[bNH,LT]at hj ⊢
  rcases hj with h|h
  ·exact bNI h
  ·exact bNC (bNC h)
inductive iR where
 |fin (c:List Nat)
 |fork (d:List Nat) (p:Nat) (A:iR) (q:Nat) (B:iR)
 |forkN (d:List Nat) (p:Nat) (ps:List Nat) (A:Nat→iR)
def iR.list:iR→List Nat
 |.fin c=>c
 |.fork d p A _ _=>d++p::A.list
 |.forkN d p _ A=>d++p::(A p).list
def oE:List iR→List Nat
 | []=>[]
 |pl::segs=>pl.list++oE segs
def aNG(r:Option Nat){γb:Type}[Membership Nat γb](bad:γb)(P:Program)(all:Array Oper)(fl:Nat→Bool)(Q:Exit→Act→Δ→Prop)(kont:Act→Δ→Prop):iR→Act→Δ→Prop
 |.fin c=>t7 r bad P all fl kont Q c
 |.fork d p A q B=>t7 r bad P all fl (fun a w=>mI r bad P all fl Q p (aNG r bad P all fl Q kont A) a w∧mI r bad P all fl Q q (aNG r bad P all fl Q kont B) a w) Q d
 |.forkN d p ps A=>t7 r bad P all fl (fun a w=>∀i∈p::ps,mI r bad P all fl Q i (aNG r bad P all fl Q kont (A i)) a w) Q d
def bME(r:Option Nat){γb:Type}[Membership Nat γb](bad:γb)(P:Program)(all:Array Oper)(fl:Nat→Bool)(Q:Exit→Act→Δ→Prop):List iR→Act→Δ→Prop
 | []=>fun a w=>Q .normal a w
 |pl::segs=>aNG r bad P all fl Q (bME r bad P all fl Q segs) pl
def jZ(all:Array Oper)(n:Nat)(cont:List Nat→List Nat→Array Bool→Prop)(rest:List Nat):iR→List Nat→List Nat→Array Bool→Prop
 |.fin c,pre,E,L=>cont (pre++c) E L
 |.fork d p A q B,pre,E,L=>jZ all n cont rest A (pre++d++[p]) (p::E) L∧jZ all n cont rest B (pre++d++[q]) (q::E) L∧q∈A.list++rest∧A.list.length=B.list.length∧∀i∈A.list++rest,i=q∨mT all n i p=true∨mT all n i q=true
 |.forkN d p ps A,pre,E,L=>(∀i∈p::ps,jZ all n cont rest (A i) (pre++d++[i]) (i::E) L∧(A i).list.length=(A p).list.length∧(i=p∨i∈(A p).list++rest))∧∀i∈(A p).list++rest,i∈ps∨∃q∈p::ps,mT all n i q=true
def aTM(all:Array Oper)(n:Nat)(fl:Nat→Bool):List iR→List Nat→List Nat→Array Bool→Prop
 | [],pre,E,L=>IP all n L pre∧V2 all n E fl pre
 |pl::segs,pre,E,L=>jZ all n (aTM all n fl segs) (oE segs) pl pre E L
structure HR(all:Array Oper)(n:Nat)(fl:Nat→Bool)(cont:List Nat→List Nat→Array Bool→Prop)(rest:List Nat):Prop where
 part:∀pre E L,cont pre E L→IP all n L (pre++rest)
 good:∀pre E L,cont pre E L→V2 all n E fl pre
 erase:∀c1 i c2 E L (o:Oper),all[i]?= some o→(∀e∈o.after,Region.binds .any e=true→L.getD e.on false=true)→cont (c1++i::c2) E L→cont (c1++c2) E (L.setIfInBounds i true)
theorem jZ.part{n:Nat}{fl:Nat→Bool}{cont:List Nat→List Nat→Array Bool→Prop}{rest:List Nat}(hc:HR all n fl cont rest):∀{pl:iR} {pre E:List Nat} {L:Array Bool},jZ all n cont rest pl pre E L→IP all n L (pre++(pl.list++rest))
 |.fin c,pre,E,L,h=>by
  have:=hc.part _ _ _ h;rw[bND]at this;exact this
 |.fork d p A q B,pre,E,L,h=>by
  have:=jZ.part hc h.1;simpa [iR.list]using this
 |.forkN d p ps A,pre,E,L,h=>by
  have:=jZ.part hc (h.1 p bMV).1;simpa [iR.list]using this
theorem jZ.good{n:Nat}{fl:Nat→Bool}{cont:List Nat→List Nat→Array Bool→Prop}{rest:List Nat}(hc:HR all n fl cont rest):∀{pl:iR} {pre E:List Nat} {L:Array Bool},jZ all n cont rest pl pre E L→V2 all n E fl pre
 |.fin c,pre,E,L,h=>by
  intro c1 i c2 he x hx;exact hc.good _ _ _ h c1 i (c2++c) (by rw[he];simp) x hx
 |.fork d p A q B,pre,E,L,h=>by
  intro c1 i c2 he x hx;have h1:=jZ.good hc h.1 c1 i (c2++d++[p]) (by rw[he];simp) x hx
  have hn:=(jZ.part hc h.1).nodup;rcases h1 with h1|h1
  ·rcases LT.1 h1 with rfl|h1
   ·exfalso
    rw[he]at hn;simp only[bND]at hn;rw[bNF]at hn;exact hn.2.2 x hx x Yf rfl
   ·exact bNI h1
  ·exact bNC h1
 |.forkN d p ps A,pre,E,L,h=>by
  intro c1 i c2 he x hx;have h1:=jZ.good hc (h.1 p bMV).1 c1 i (c2++d++[p]) (by rw[he];simp) x hx
  have hn:=(jZ.part hc (h.1 p bMV).1).nodup;rcases h1 with h1|h1
  ·rcases LT.1 h1 with rfl|h1
   ·exfalso
    rw[he]at hn;simp only[bND]at hn;rw[bNF]at hn;exact hn.2.2 x hx x Yf rfl
   ·exact bNI h1
  ·exact bNC h1
theorem jZ.erase{n:Nat}{fl:Nat→Bool}{cont:List Nat→List Nat→Array Bool→Prop}{rest:List Nat}(hc:HR all n fl cont rest){i:Nat}{o:Oper}(ho:all[i]?= some o){L:Array Bool}(hpre:∀e∈o.after,Region.binds .any e=true→L.getD e.on false=true):∀{pl:iR} {c1 c2 E:List Nat},jZ all n cont rest pl (c1++i::c2) E L→jZ all n cont rest pl (c1++c2) E (L.setIfInBounds i true)
 |.fin c,c1,c2,E,h=>by
  have h':cont (c1++i::(c2++c)) E L:=by
   have h2:cont (c1++i::c2++c) E L:=h;simpa using h2
  have:=hc.erase c1 i (c2++c) E L o ho hpre h';show cont (c1++c2++c) E _;rw[bND];exact this
 |.fork d p A q B,c1,c2,E,h=>by
  obtain⟨h1,h2,h3⟩:=h;have e:∀z:Nat,c1++i::c2++d++[z]=c1++i::(c2++d++[z]):=fun z=>by simp
  have e':∀z:Nat,c1++(c2++d++[z])=c1++c2++d++[z]:=fun z=>by simp
  rw[e]at h1 h2;have I:=jZ.erase hc ho hpre h1;have O:=jZ.erase hc ho hpre h2;rw[e']at I O;exact⟨I,O,h3⟩
 |.forkN d p ps A,c1,c2,E,h=>by
  refine⟨fun z hz=>?_,h.2⟩;obtain⟨h1,h2,h3⟩:=h.1 z hz;have e:c1++i::c2++d++[z]=c1++i::(c2++d++[z]):=Yf
  have e':c1++(c2++d++[z])=c1++c2++d++[z]:=Yf
  rw[e]at h1;have I:=jZ.erase hc ho hpre h1;rw[e']at I;exact⟨I,h2,h3⟩
theorem QU(n:Nat)(fl:Nat→Bool):∀segs:List iR,HR all n fl (aTM all n fl segs) (oE segs)
 | []=>⟨fun pre E L h=>by rw[oE,bNN];exact h.1,fun pre E L h=>h.2,fun c1 i c2 E L o ho hpre h=>⟨h.1.step ho hpre,h.2.erase⟩⟩
 |_::segs=>⟨fun pre E L h=>jZ.part (QU n fl segs) h,fun pre E L h=>jZ.good (QU n fl segs) h,fun c1 i c2 E L o ho hpre h=>jZ.erase (QU n fl segs) ho hpre h⟩
theorem IP.frontE{n:Nat}{E:List Nat}{fl:Nat→Bool}{cW:Array Bool}{c1 c2 c3:List Nat}{i:Nat}{o:Oper}(h:IP all n cW (c1++i::c3))(hg:V2 all n E fl (c1++i::c2))(ho:all[i]?= some o)(hpre:∀e∈o.after,Region.binds .any e=true→cW.getD e.on false=true)(hE:∀e∈E,e∉c1):
  ∀x∈c1,jF all x=true∧qG all x i=true∧(jF all i=true∨fl i=true∨B9 all x=true):=by
 intro x hx;rcases hg c1 i c2 rfl x hx with he|hr|hr
 ·exact absurd hx (hE x he)
 ·have hxl:=h.lt x (by simp[hx]);have:=uC h.closed n i x o ho hpre (fun j hj=>by
   rcases Nat.lt_or_ge j cW.size with h'|h'
   ·have:=h.size;omega
   ·simp[Array.getElem?_eq_none h']at hj) hr
  have h2:=(h.mem x hxl).1 (by simp[hx]);rw[h2]at this;cases this
 ·exact hr
theorem X9{fl:Nat→Bool}{K:Act→Δ→Prop}{i:Nat}{a:Act}{w:Δ}(h:mI r bad P all fl Q i K a w):t7 r bad P all fl K Q [i] a w:=by
 rw[qA];exact h
theorem wR{n:Nat}{fl:Nat→Bool}{cont:List Nat→List Nat→Array Bool→Prop}{rest:List Nat}{kont:Act→Δ→Prop}(hnd:qJ all=true)(hQ:PI Q)(hc:HR all n fl cont rest)
  (hcont:∀(pre E:List Nat) (L:Array Bool) (a:Act) (w:Δ),(∀e∈E,L.getD e false=true)→cont pre E L→t7 r bad P all fl kont Q pre a w→wpAnyIn (FW r) 0 P .any all Q (pre++rest).length L a w):
  ∀(pl:iR) (pre E:List Nat) (L:Array Bool) (a:Act) (w:Δ),(∀e∈E,L.getD e false=true)→jZ all n cont rest pl pre E L→t7 r bad P all fl (aNG r bad P all fl Q kont pl) Q pre a w→
  wpAnyIn (FW r) 0 P .any all Q (pre++(pl.list++rest)).length L a w
 |.fin c,pre,E,L,a,w,hE,hr,h=>by
  have:=hcont (pre++c) E L a w hE hr (pG pre c a w h);rw[bND]at this;exact this
 |.fork d p A q B,pre,E,L,a,w,hE,hr,h=>by
  have hmain:∀(m:Nat) (d':List Nat) (L:Array Bool) (a:Act) (w:Δ),d'.length=m→(∀e∈E,L.getD e false=true)→jZ all n cont rest A (d'++[p]) (p::E) L→jZ all n cont rest B (d'++[q]) (q::E) L→q∈A.list++rest→A.list.length=B.list.length→(∀i∈A.list++rest,i=q∨mT all n i p=true∨mT all n i q=true)→
    t7 r bad P all fl (fun a w=>mI r bad P all fl Q p (aNG r bad P all fl Q kont A) a w∧mI r bad P all fl Q q (aNG r bad P all fl Q kont B) a w) Q d' a w→wpAnyIn (FW r) 0 P .any all Q (d'++p::(A.list++rest)).length L a w:=by
   intro m;induction m using Nat.strongRecOn with
   |_ m ih=>
   intro d' L a w hm hE hA hB hqA hlen he h;have h1:=jZ.part hc hA;have h2:=jZ.part hc hB;rw[bND]at h1 h2;have gA:=jZ.good hc hA;have gB:=jZ.good hc hB;simp only[bQJ]at h1 h2;obtain⟨k,hk⟩:∃k,(d'++p::(A.list++rest)).length=k+1:=⟨d'.length+(A.list++rest).length,Yaq⟩
   rw[hk];constructor
   ·intro h0;exfalso
    match hcc:d'++p::(A.list++rest),hk with
    |i::c',_=>
     rw[hcc]at h1;have hil:=h1.lt i bMV;have hi:i∈Region.ready .any all L:=by
      refine mem_ready.2 ⟨?_,all[i],by simp[hil],?_⟩
      ·have:=(h1.mem i hil).1 bMV;rw[bOX]at this ⊢
       rw[bQR Xbc]at this ⊢
       exact this
      ·intro e he hb;rcases h1.topo [] i c' rfl _ (by simp[hil]) e he hb with h|h
       ·exact h
       ·cases h
     rw[h0]at hi;cases hi
   ·intro i hi;obtain⟨hun,o,ho,hpre⟩:=mem_ready.1 hi;have hil:i<all.size:=(bPZ.1 ho).1;have hun':L.getD i false=false:=by
     have:=h1.size;rw[bOX]at hun ⊢
     rw[bQR Yd]at hun ⊢
     exact hun
    have hmem:=(h1.mem i hil).2 hun';have I:∀x,x∈d'++p::(A.list++rest)→mT all n i x=true→False:=by
     intro x hx hr;have:=uC h1.closed n i x o ho hpre (fun j hj=>by
      rcases Nat.lt_or_ge j L.size with h'|h'
      ·have:=h1.size;omega
      ·simp[Array.getElem?_eq_none h']at hj) hr
     have h2:=(h1.mem x (h1.lt x hx)).1 hx;rw[h2]at this;cases this
    have hEd:∀e∈E,e∉d':=fun e he hm=>by
     have:=(h1.mem e (h1.lt e Xal)).1 Xal;rw[hE e he]at this;cases this
    have hnA:p∉d':=fun hp=>by
     have hn:=h1.nodup;rw[bNF]at hn;exact hn.2.2 p hp p Yf rfl
    have hnB:q∉d':=fun hp=>by
     have hn:=h2.nodup;rw[bNF]at hn;exact hn.2.2 q hp q Yf rfl
    rw[bNH,LT]at hmem;rcases hmem with hm'|rfl|hm'
    ·obtain⟨c1,c2,rfl⟩:=List.append_of_mem hm';have q1:∀z:Nat,(c1++i::c2)++[z]=c1++i::(c2++[z]):=fun z=>by simp
     have U:∀z:Nat,c1++(c2++[z])=(c1++c2)++[z]:=fun z=>by simp
     rw[q1]at hA hB gA;have O:(c1++i::(c2++p::(A.list++rest))).length=k+1:=by rw[←hk];simp
     have h1':IP all n L (c1++i::(c2++p::(A.list++rest))):=Xae
     have hf:=h1'.frontE gA ho hpre (fun e he hm=>by
      rcases LT.1 he with rfl|he
      ·exact hnA Xal
      ·exact hEd e he Xal)
     have hst:=uQ hnd hQ c1 c2 a w hf h;refine wpOpIn_mono (fun a w hh=>?_) hst.wpOpIn;have sA:=jZ.erase hc ho hpre hA;have sB:=jZ.erase hc ho hpre hB;rw[U]at sA sB;have:=ih (c1++c2).length (by rw[←hm];simp) (c1++c2) _ a w rfl (fun e he=>getD_set_true (hE e he)) sA sB hqA hlen ‹_› hh
     have hl:((c1++c2)++p::(A.list++rest)).length=k:=by simp at O ⊢;omega
     rw[hl]at this;exact this
    ·have hw:=pG (K:=fun a w=>aNG r bad P all fl Q kont A a w) d' [i] a w (vY (fun _ _ h=>X9 h.1) d' h);have hf:=h1.frontE (c2:=[]) gA ho hpre (fun e he hm=>by
      rcases LT.1 he with rfl|he
      ·exact hnA hm
      ·exact hEd e he hm)
     have hst:=uQ hnd hQ d' [] a w hf hw;refine wpOpIn_mono (fun a w hh=>?_) hst.wpOpIn;have sA:=jZ.erase hc ho hpre hA;rw[bNN]at sA hh;have:=wR hnd hQ hc hcont A d' (i::E) _ a w (fun e he=>by
      rcases LT.1 he with rfl|he
      ·exact oN Xbc
      ·exact getD_set_true (hE e he)) sA hh
     have hl:(d'++(A.list++rest)).length=k:=by simp at hk ⊢;omega
     rw[hl]at this;exact this
    ·by_cases hiq:i=q
     ·subst hiq;have hw:=pG (K:=fun a w=>aNG r bad P all fl Q kont B a w) d' [i] a w (vY (fun _ _ h=>X9 h.2) d' h);have hf:=h2.frontE (c2:=[]) gB ho hpre (fun e he hm=>by
       rcases LT.1 he with rfl|he
       ·exact hnB hm
       ·exact hEd e he hm)
      have hst:=uQ hnd hQ d' [] a w hf hw;refine wpOpIn_mono (fun a w hh=>?_) hst.wpOpIn;have sB:=jZ.erase hc ho hpre hB;rw[bNN]at sB hh;have:=wR hnd hQ hc hcont B d' (i::E) _ a w (fun e he=>by
       rcases LT.1 he with rfl|he
       ·exact oN Xbc
       ·exact getD_set_true (hE e he)) sB hh
      have hl:(d'++(B.list++rest)).length=k:=by simp at hk ⊢;omega
      rw[hl]at this;exact this
     ·exfalso
      rcases he i hm' with hr|hr|hr
      ·exact hiq hr
      ·exact I p Yf hr
      ·exact I q (GE _ (bMT _ hqA)) hr
  obtain⟨hA,hB,hqA,hlen,he⟩:=hr;have:=hmain (pre++d).length (pre++d) L a w rfl hE hA hB hqA hlen he (pG pre d a w h);have e:pre++d++p::(A.list++rest)=pre++((iR.fork d p A q B).list++rest):=by simp[iR.list]
  rw[e]at this;exact this

 |.forkN d p ps A,pre,E,L,a,w,hE,hr,h=>by
  have hmain:∀(m:Nat) (d':List Nat) (L:Array Bool) (a:Act) (w:Δ),d'.length=m→(∀e∈E,L.getD e false=true)→(∀i∈p::ps,jZ all n cont rest (A i) (d'++[i]) (i::E) L∧(A i).list.length=(A p).list.length∧(i=p∨i∈(A p).list++rest))→(∀i∈(A p).list++rest,i∈ps∨∃q∈p::ps,mT all n i q=true)→
    t7 r bad P all fl (fun a w=>∀i∈p::ps,mI r bad P all fl Q i (aNG r bad P all fl Q kont (A i)) a w) Q d' a w→wpAnyIn (FW r) 0 P .any all Q (d'++p::((A p).list++rest)).length L a w:=by
   intro m;induction m using Nat.strongRecOn with
   |_ m ih=>
   intro d' L a w hm hE hA he h;have h1:=jZ.part hc (hA p bMV).1;rw[bND]at h1;simp only[bQJ]at h1;obtain⟨k,hk⟩:∃k,(d'++p::((A p).list++rest)).length=k+1:=⟨d'.length+((A p).list++rest).length,Yaq⟩
   rw[hk];constructor
   ·intro h0;exfalso
    match hcc:d'++p::((A p).list++rest),hk with
    |i::c',_=>
     rw[hcc]at h1;have hil:=h1.lt i bMV;have hi:i∈Region.ready .any all L:=by
      refine mem_ready.2 ⟨?_,all[i],by simp[hil],?_⟩
      ·have:=(h1.mem i hil).1 bMV;rw[bOX]at this ⊢
       rw[bQR Xbc]at this ⊢
       exact this
      ·intro e he hb;rcases h1.topo [] i c' rfl _ (by simp[hil]) e he hb with h|h
       ·exact h
       ·cases h
     rw[h0]at hi;cases hi
   ·intro i hi;obtain⟨hun,o,ho,hpre⟩:=mem_ready.1 hi;have hil:i<all.size:=(bPZ.1 ho).1;have hun':L.getD i false=false:=by
     have:=h1.size;rw[bOX]at hun ⊢
     rw[bQR Yd]at hun ⊢
     exact hun
    have hmem:=(h1.mem i hil).2 hun';have I:∀x,x∈d'++p::((A p).list++rest)→mT all n i x=true→False:=by
     intro x hx hr;have:=uC h1.closed n i x o ho hpre (fun j hj=>by
      rcases Nat.lt_or_ge j L.size with h'|h'
      ·have:=h1.size;omega
      ·simp[Array.getElem?_eq_none h']at hj) hr
     have h2:=(h1.mem x (h1.lt x hx)).1 hx;rw[h2]at this;cases this
    have hEd:∀e∈E,e∉d':=fun e he hm=>by
     have:=(h1.mem e (h1.lt e Xal)).1 Xal;rw[hE e he]at this;cases this
    have hnz:∀z∈p::ps,z∉d':=fun z hz hp=>by
     have hn:=(jZ.part hc (hA z hz).1).nodup;rw[bND,bNF]at hn;exact hn.2.2 z hp z Yf rfl
    have hin:∀z∈p::ps,z∈d'++p::((A p).list++rest):=fun z hz=>by
     rcases(hA z hz).2.2 with rfl|hz'
     ·simp
     ·exact GE _ (bMT _ hz')
    by_cases hz:i∈p::ps
    ·have h2:=jZ.part hc (hA i hz).1;rw[bND]at h2;simp only[bQJ]at h2;have hw:=pG (K:=fun a w=>aNG r bad P all fl Q kont (A i) a w) d' [i] a w (vY (fun _ _ h=>X9 (h i hz)) d' h);have hf:=h2.frontE (c2:=[]) (jZ.good hc (hA i hz).1) ho hpre (fun e he hm=>by
      rcases LT.1 he with rfl|he
      ·exact hnz _ hz hm
      ·exact hEd e he hm)
     have hst:=uQ hnd hQ d' [] a w hf hw;refine wpOpIn_mono (fun a w hh=>?_) hst.wpOpIn;have sA:=jZ.erase hc ho hpre (hA i hz).1;rw[bNN]at sA hh;have:=wR hnd hQ hc hcont (A i) d' (i::E) _ a w (fun e he=>by
      rcases LT.1 he with rfl|he
      ·exact oN Xbc
      ·exact getD_set_true (hE e he)) sA hh
     have hl:(d'++((A i).list++rest)).length=k:=by
      have:=(hA i hz).2.1;simp at hk ⊢;omega
     rw[hl]at this;exact this
    ·rw[bNH,LT]at hmem;rcases hmem with hm'|rfl|hm'
     ·obtain⟨c1,c2,rfl⟩:=List.append_of_mem hm';have q1:∀z:Nat,(c1++i::c2)++[z]=c1++i::(c2++[z]):=fun z=>by simp
      have U:∀z:Nat,c1++(c2++[z])=(c1++c2)++[z]:=fun z=>by simp
      have gA:=jZ.good hc (hA p bMV).1;rw[q1]at gA;have O:(c1++i::(c2++p::((A p).list++rest))).length=k+1:=by rw[←hk];simp
      have h1':IP all n L (c1++i::(c2++p::((A p).list++rest))):=Xae
      have hf:=h1'.frontE gA ho hpre (fun e he hm=>by
       rcases LT.1 he with rfl|he
       ·exact hnz _ bMV Xal
       ·exact hEd e he Xal)
      have hst:=uQ hnd hQ c1 c2 a w hf h;refine wpOpIn_mono (fun a w hh=>?_) hst.wpOpIn;have:=ih (c1++c2).length (by rw[←hm];simp) (c1++c2) _ a w rfl (fun e he=>getD_set_true (hE e he)) (fun z hz=>by
       have R:=(hA z hz).1;rw[q1]at R;have sA:=jZ.erase hc ho hpre R;rw[U]at sA;exact⟨sA,(hA z hz).2⟩) he hh
      have hl:((c1++c2)++p::((A p).list++rest)).length=k:=by simp at O ⊢;omega
      rw[hl]at this;exact this
     ·exact absurd bMV hz
     ·rcases he i hm' with hr|⟨q,hq,hr⟩
      ·exact absurd (bMT _ hr) hz
      ·exact(I q (hin q hq) hr).elim
  obtain⟨hA,he⟩:=hr;have:=hmain (pre++d).length (pre++d) L a w rfl hE hA he (pG pre d a w h);have e:pre++d++p::((A p).list++rest)=pre++((iR.forkN d p ps A).list++rest):=by simp[iR.list]
  rw[e]at this;exact this
theorem BV{n:Nat}{fl:Nat→Bool}(hnd:qJ all=true)(hQ:PI Q):∀(segs:List iR) (pre E:List Nat) (L:Array Bool) (a:Act) (w:Δ),(∀e∈E,L.getD e false=true)→aTM all n fl segs pre E L→t7 r bad P all fl (bME r bad P all fl Q segs) Q pre a w→
  wpAnyIn (FW r) 0 P .any all Q (pre++oE segs).length L a w
 | [],pre,E,L,a,w,hE,hr,h=>by
  obtain⟨hp,hg⟩:=hr;rw[oE,bNN];refine HB hnd hQ pre L a w hp.size hp.closed hp.nodup hp.mem hp.lt (hg.none fun e he hm=>?_) hp.topo h;have:=(hp.mem e (hp.lt e hm)).1 hm;rw[hE e he]at this;cases this
 |pl::segs,pre,E,L,a,w,hE,hr,h=>
  wR hnd hQ (QU n fl segs) (BV hnd hQ segs) pl pre E L a w hE hr h

def aBZ(all:Array Oper)(n:Nat)(fls:List Bool)(S:List Nat)(i:Nat):Bool:=S.all fun x=>mT all n i x||(jF all x&&qG all x i&&(jF all i||(fls.getD i false||B9 all x)))
def vO(all:Array Oper)(n:Nat)(fls:List Bool)(S E:List Nat):List Nat→List Nat→Bool
 |_,[]=>true
 |before,i::rest=>PL all n fls E i before&&aBZ all n fls S i&&N2 all i (S++before)&& !(S++before).contains i&&Nat.blt i all.size&&vO all n fls S E (before++[i]) rest
def wS(all:Array Oper)(n:Nat)(fls:List Bool)(S rest T:List Nat):iR→List Nat→List Nat→Bool
 |.fin c,pre,E=>vO all n fls S E [] (pre++c)&&Nat.beq (pre++c).length T.length&&(pre++c).all T.contains&&T.all (pre++c).contains
 |.fork d p A q B,pre,E=>wS all n fls S rest T A (pre++d++[p]) (p::E)&&wS all n fls S rest T B (pre++d++[q]) (q::E)&&((A.list++rest).any fun i=>Nat.beq i q)&&Nat.beq A.list.length B.list.length&&(A.list++rest).all fun i=>Nat.beq i q||(mT all n i p||mT all n i q)
 |.forkN d p ps A,pre,E=>(p::ps).all (fun i=>wS all n fls S rest T (A i) (pre++d++[i]) (i::E)&&Nat.beq (A i).list.length (A p).list.length&&(Nat.beq i p||((A p).list++rest).contains i))&&((A p).list++rest).all fun i=>ps.contains i||(p::ps).any fun q=>mT all n i q
def kJ(all:Array Oper)(n:Nat)(fls:List Bool):List Nat→List iR→Bool
 |S,[]=>qJ all&&Nat.beq S.length all.size&&(List.range all.size).all S.contains
 |S,pl::segs=>wS all n fls S (oE segs) pl.list pl [] []&&kJ all n fls (S++pl.list) segs
structure KX(all:Array Oper)(n:Nat)(fls:List Bool)(S pre E:List Nat):Prop where
 nodup:pre.Nodup
 mem:∀i,i∈pre ↔ i∈S
 lt:∀i∈pre,i<all.size
 good:V2 all n E (fun i=>fls.getD i false) pre
 topo:yZ all (Array.replicate all.size false) pre
 len:pre.length=S.length
theorem PF{n:Nat}{S E:List Nat}{fls:List Bool}:∀(c before c1:List Nat) (i:Nat) (c2:List Nat),vO all n fls S E before c=true→c=c1++i::c2→
  PL all n fls E i (before++c1)=true∧aBZ all n fls S i=true∧N2 all i (S++(before++c1))=true∧i∉S++(before++c1)∧i<all.size:=by
 intro c;induction c with
 |nil=>intro before c1 i c2 _ h;simp at h
 |cons x c ih=>
  intro before c1 i c2 hc h;simp only[vO,bMS]at hc;obtain⟨⟨⟨⟨⟨g,cr⟩,t⟩,nm⟩,lt⟩,hc⟩:=hc;cases c1 with
  |nil=>
   simp only[bOA,bPN]at h;rw[←h.1,bNN];exact⟨g,cr,t,by simpa using nm,by simpa [Nat.blt_eq]using lt⟩
  |cons y c1=>
   simp only[bPF,bPN]at h;have:=ih (before++[x]) c1 i c2 hc h.2;rw[h.1]at this;simpa using this
theorem KX.more{n:Nat}{fls:List Bool}{S pre E E' T c:List Nat}(h:KX all n fls S pre E)(hE:∀e∈E,e∈E')(hc:vO all n fls S E' [] c=true)(hT:∀i,i∈c ↔ i∈T)(hl:c.length=T.length):KX all n fls (S++T) (pre++c) E':=by
 have sp:=fun c1 i c2 he=>PF c [] c1 i c2 hc he
 simp only[bOA]at sp;have hcn:c.Nodup:=by
  have key:∀(c before:List Nat),vO all n fls S E' before c=true→before.Nodup→(before++c).Nodup:=by
   intro c;induction c with
   |nil=>intro before _ h;simpa using h
   |cons i c ih=>
    intro before h hb;simp only[vO,bMS]at h;have hn:i∉S++before:=by simpa using h.1.1.2
    have:=ih (before++[i]) h.2 (by
     rw[bNF];refine⟨hb,Yf,fun x hx y hy=>?_⟩;simp only[bNL]at hy;rintro rfl;exact hn (GE _ (hy▸hx)))
    simpa using this
  simpa using key c [] hc bPA
 have hcS:∀i∈c,i∉S:=fun i hi=>by
  obtain⟨c1,c2,rfl⟩:=List.append_of_mem hi;have:=(sp c1 i c2 rfl).2.2.2.1;exact fun hS=>this (bNE _ hS)
 refine⟨?_,fun i=>?_,fun i hi=>?_,?_,?_,by simp[h.len,hl]⟩
 ·rw[bNF];exact⟨h.nodup,hcn,fun x hx y hy=>by rintro rfl;exact hcS x hy ((h.mem x).1 hx)⟩
 ·simp[h.mem,hT]
 ·rcases bNH.1 hi with hi|hi
  ·exact h.lt i hi
  ·obtain⟨c1,c2,rfl⟩:=List.append_of_mem hi;exact(sp c1 i c2 rfl).2.2.2.2
 ·intro d1 i d2 he x hx;rcases List.append_eq_append_iff.1 he with⟨t,h1,h2⟩|⟨t,h1,h2⟩
  ·rw[h1]at hx;obtain⟨g,cr,_⟩:=sp t i d2 h2;rcases bNH.1 hx with hx|hx
   ·have:=bNQ.1 cr x ((h.mem x).1 hx);simp only[bNZ,bMS]at this;rcases this with h'|h'
    ·exact bNC (bNI h')
    ·exact bNC (bNC ⟨h'.1.1,h'.1.2,h'.2⟩)
   ·have:=bNQ.1 g x hx;simp only[bNZ,bMS]at this;rcases this with(h'|h')|h'
    ·exact bNI (by simpa using h')
    ·exact bNC (bNI h')
    ·exact bNC (bNC ⟨h'.1.1,h'.1.2,h'.2⟩)
  ·cases t with
   |nil=>
    rw[bNN]at h1;rw[bOA]at h2;rw[←h1]at hx;obtain⟨g,cr,_⟩:=sp [] i d2 h2.symm;have:=bNQ.1 cr x ((h.mem x).1 hx);simp only[bNZ,bMS]at this;rcases this with h'|h'
    ·exact bNC (bNI h')
    ·exact bNC (bNC ⟨h'.1.1,h'.1.2,h'.2⟩)
   |cons z t=>
    simp only[bPF,bPN]at h2;rw[←h2.1]at h1;rcases h.good d1 i t h1 x hx with h'|h'
    ·exact bNI (hE x h')
    ·exact bNC h'
 ·intro d1 i d2 he o ho e hm hb;rcases List.append_eq_append_iff.1 he with⟨t,h1,h2⟩|⟨t,h1,h2⟩
  ·obtain⟨_,_,tp,_⟩:=sp t i d2 h2;unfold N2 at tp;rw[ho]at tp;simp only[bOO,bQL,bNQ,bNZ,bPQ,bRU,GT]at tp;rcases tp e Xas with h'|h'
   ·rw[hb]at h';cases h'
   ·rw[h1];rcases bNH.1 h' with h'|h'
    ·exact bNC (bNE _ ((h.mem _).2 h'))
    ·exact bNC (GE _ h')
  ·cases t with
   |nil=>
    rw[bNN]at h1;rw[bOA]at h2;obtain⟨_,_,tp,_⟩:=sp [] i d2 h2.symm;unfold N2 at tp;rw[ho]at tp;simp only[bOO,bQL,bNQ,bNZ,bPQ,bRU,GT]at tp;rcases tp e Xas with h'|h'
    ·rw[hb]at h';cases h'
    ·rw[←h1];rcases bNH.1 h' with h'|h'
     ·exact bNC ((h.mem _).2 h')
     ·cases h'
   |cons z t=>
    simp only[bPF,bPN]at h2;rw[←h2.1]at h1;exact h.topo d1 i t h1 o ho e hm hb
theorem wU{n:Nat}{fls:List Bool}{S rest T pre E:List Nat}{cont:List Nat→List Nat→Array Bool→Prop}(h:KX all n fls S pre E)(hcont:∀pre' E',KX all n fls (S++T) pre' E'→cont pre' E' (Array.replicate all.size false)):
  ∀{pl:iR} {lp Ep:List Nat},wS all n fls S rest T pl lp Ep=true→jZ all n cont rest pl (pre++lp) (Ep++E) (Array.replicate all.size false)
 |.fin c,lp,Ep,hc=>by
  simp only[wS,bMS,bNQ]at hc;obtain⟨⟨⟨h1,h2⟩,h3⟩,h4⟩:=hc;have h1':vO all n fls S (Ep++E) [] (lp++c)=true:=by
   have key:∀(c before:List Nat),vO all n fls S Ep before c=true→vO all n fls S (Ep++E) before c=true:=by
    intro c;induction c with
    |nil=>intro _ _;rfl
    |cons i c ih=>
     intro before hh;simp only[vO,bMS]at hh ⊢
     refine⟨⟨⟨⟨⟨?_,hh.1.1.1.1.2⟩,hh.1.1.1.2⟩,hh.1.1.2⟩,hh.1.2⟩,ih _ hh.2⟩;unfold PL at hh ⊢
     rw[bNQ];intro x hx;have:=bNQ.1 hh.1.1.1.1.1 x hx;simp only[bNZ]at this ⊢
     rcases this with(h'|h')|h'
     ·exact bNI (bNI (by simp only[bRU,GT]at h' ⊢;exact bNE _ h'))
     ·exact bNI (bNC h')
     ·exact bNC h'
   exact key _ _ h1
  have:=h.more (fun e he=>GE Ep he) h1' (T:=T) (fun i=>⟨fun hi=>by simpa using h3 i hi,fun hi=>by simpa using h4 i hi⟩) (bOV h2);show cont (pre++lp++c) (Ep++E) _;rw[bND];exact hcont _ _ this
 |.fork d p A q B,lp,Ep,hc=>by
  simp only[wS,bMS]at hc;obtain⟨⟨⟨⟨hA,hB⟩,hq⟩,hl⟩,he⟩:=hc;have rA:=wU h hcont hA;have rB:=wU h hcont hB;simp only[←bND]at rA rB;refine⟨rA,rB,?_,bOV hl,fun i hi=>?_⟩
  ·obtain⟨x,hx,hb⟩:=bRD.1 hq;rw[←bOV hb];exact hx
  ·simpa using bNQ.1 he i hi
 |.forkN d p ps A,lp,Ep,hc=>by
  simp only[wS,bMS]at hc;obtain⟨hA,he⟩:=hc;refine⟨fun i hi=>?_,fun i hi=>?_⟩
  ·have h1:=bNQ.1 hA i hi;simp only[bMS]at h1;have rA:=wU h hcont h1.1.1;simp only[←bND]at rA;refine⟨rA,bOV h1.1.2,?_⟩;have h2:=h1.2;rw[bNZ]at h2;rcases h2 with h2|h2
   ·exact bNI (bOV h2)
   ·exact bNC Xai
  ·have:=bNQ.1 he i hi;rw[bNZ]at this;rcases this with h1|h1
   ·exact bNI Xae
   ·obtain⟨q,hq,hr⟩:=bRD.1 h1;exact bNC ⟨q,hq,hr⟩
theorem AX{n:Nat}{fls:List Bool}:∀{segs:List iR} {S pre E:List Nat},KX all n fls S pre E→kJ all n fls S segs=true→aTM all n (fun i=>fls.getD i false) segs pre E (Array.replicate all.size false)
 | [],S,pre,E,h,hc=>by
  simp only[kJ,bMS,bNQ,bOQ,bRU,GT]at hc;refine⟨⟨Yf,?_,h.nodup,fun i hi=>?_,h.lt,h.topo⟩,h.good⟩
  ·intro i o ho hl;simp[Array.getElem?_replicate]at hl;split at hl<;>simp at hl
  ·simp only[bOX,Array.getElem?_replicate,hi,bPG,bQL,iff_true];exact(h.mem i).2 (hc.2 i hi)
 |pl::segs,S,pre,E,h,hc=>by
  simp only[kJ,bMS]at hc;have:=wU (cont:=aTM all n (fun i=>fls.getD i false) segs) (rest:=oE segs) (T:=pl.list) h (fun pre' E' h'=>AX h' hc.2) hc.1;rw[bNN,bOA]at this;exact this
theorem LM{n:Nat}{fls:List Bool}:∀{segs:List iR} {S:List Nat},kJ all n fls S segs=true→qJ all=true∧(S++oE segs).length=all.size
 | [],S,hc=>by
  simp only[kJ,bMS]at hc;rw[oE,bNN];exact⟨hc.1.1,bOV hc.1.2⟩
 |pl::segs,S,hc=>by
  simp only[kJ,bMS]at hc;obtain⟨h1,h2⟩:=LM hc.2;rw[bND]at h2;exact⟨h1,h2⟩
theorem vM{K:Act→Δ→Prop}{fl:Nat→Bool}:∀(c:List Nat) (a:Act) (w:Δ),(∀i∈c,i<all.size)→tM r bad P all K Q (iS all (c.map fun i=>(fl i,i))) a w→t7 r bad P all fl K Q c a w:=by
 intro c;induction c with
 |nil=>intro a w _ h;exact h
 |cons i c ih=>
  intro a w hlt h;have hi:=hlt i bMV;have ho:all[i]?= some all[i]:=by simp[hi]
  have hd:all.getD i default=all[i]:=by simp[hi]
  have hrec:∀a w,tM r bad P all K Q (iS all (c.map fun i=>(fl i,i))) a w→t7 r bad P all fl K Q c a w:=fun a w hh=>ih a w (fun j hj=>hlt j (bMT _ hj)) hh
  simp only[iS,bNT,tM,hd]at h;simp only[t7,ho];split at h
  ·rename_i hq;obtain⟨v,hy,h⟩:=h;rw[bNK hq];exact⟨v,hy,hrec _ _ h⟩
  ·rename_i hq;rw[bNA hq];exact h.mono hrec
def C4(r:Option Nat){γb:Type}[Membership Nat γb](bad:γb)(P:Program)(all:Array Oper)(fls:List Bool)(Q:Exit→Act→Δ→Prop)(kont:Act→Δ→Prop):iR→Act→Δ→Prop
 |.fin c=>tM r bad P all kont Q (iS all (c.map fun i=>(fls.getD i false,i)))
 |.fork d p A q B=>tM r bad P all (fun a w=>tM r bad P all (C4 r bad P all fls Q kont A) Q (iS all [(fls.getD p false,p)]) a w∧tM r bad P all (C4 r bad P all fls Q kont B) Q (iS all [(fls.getD q false,q)]) a w) Q (iS all (d.map fun i=>(fls.getD i false,i)))
 |.forkN d p ps A=>tM r bad P all (fun a w=>∀i∈p::ps,tM r bad P all (C4 r bad P all fls Q kont (A i)) Q (iS all [(fls.getD i false,i)]) a w) Q (iS all (d.map fun i=>(fls.getD i false,i)))
def NX(r:Option Nat){γb:Type}[Membership Nat γb](bad:γb)(P:Program)(all:Array Oper)(fls:List Bool)(Q:Exit→Act→Δ→Prop)(K:Act→Δ→Prop):List iR→Act→Δ→Prop
 | []=>K
 |pl::segs=>C4 r bad P all fls Q (NX r bad P all fls Q K segs) pl
def nX(N:Nat):iR→Bool
 |.fin c=>c.all fun i=>Nat.blt i N
 |.fork d p A q B=>d.all (fun i=>Nat.blt i N)&&Nat.blt p N&&Nat.blt q N&&nX N A&&nX N B
 |.forkN d p ps A=>d.all (fun i=>Nat.blt i N)&&(p::ps).all fun i=>Nat.blt i N&&nX N (A i)
theorem wI{fls:List Bool}{kont kont':Act→Δ→Prop}(hk:∀a w,kont a w→kont' a w):∀{pl:iR} {a:Act} {w:Δ},nX all.size pl=true→C4 r bad P all fls Q kont pl a w→aNG r bad P all (fun i=>fls.getD i false) Q kont' pl a w
 |.fin c,a,w,hl,h=>vY hk c (vM c a w (fun i hi=>by simpa [Nat.blt_eq]using bNQ.1 hl i hi) h)
 |.fork d p A q B,a,w,hl,h=>by
  simp only[nX,bMS,Nat.blt_eq]at hl;obtain⟨⟨⟨⟨h1,h2⟩,h3⟩,h4⟩,h5⟩:=hl;refine vY ?_ d (vM d a w (fun i hi=>by simpa [Nat.blt_eq]using bNQ.1 h1 i hi) h);rintro a w ⟨g1,g2⟩;have one:∀(z:Nat) (K:Act→Δ→Prop),z<all.size→tM r bad P all K Q (iS all [(fls.getD z false,z)]) a w→mI r bad P all (fun i=>fls.getD i false) Q z K a w:=fun z K hz h=>by
   have:=vM (all:=all) (fl:=fun i=>fls.getD i false) [z] a w (by simpa using hz) h;rw[qA]at this;exact this
  exact⟨(one p _ h2 g1).mono fun a w h=>wI hk h4 h,(one q _ h3 g2).mono fun a w h=>wI hk h5 h⟩
 |.forkN d p ps A,a,w,hl,h=>by
  simp only[nX,bMS]at hl;obtain⟨h1,h2⟩:=hl;refine vY ?_ d (vM d a w (fun i hi=>by simpa [Nat.blt_eq]using bNQ.1 h1 i hi) h);intro a w g i hi;have h3:=bNQ.1 h2 i hi;simp only[bMS,Nat.blt_eq]at h3;have one:∀(z:Nat) (K:Act→Δ→Prop),z<all.size→tM r bad P all K Q (iS all [(fls.getD z false,z)]) a w→mI r bad P all (fun i=>fls.getD i false) Q z K a w:=fun z K hz h=>by
   have:=vM (all:=all) (fl:=fun i=>fls.getD i false) [z] a w (by simpa using hz) h;rw[qA]at this;exact this
  exact(one i _ h3.1 (g i hi)).mono fun a w h=>wI hk h3.2 h
theorem BJ{fls:List Bool}:∀{segs:List iR} {a:Act} {w:Δ},(segs.all fun pl=>nX all.size pl)=true→NX r bad P all fls Q (fun a w=>Q .normal a w) segs a w→bME r bad P all (fun i=>fls.getD i false) Q segs a w
 | [],a,w,_,h=>h
 |pl::segs,a,w,hl,h=>by
  rw[bQU,bMS]at hl;exact wI (fun a w h=>BJ hl.2 h) hl.1 h
theorem aVS{id n:Nat}{fls:List Bool}{segs:List iR}{a:Act}{w:Δ}(hm:P.follows .mixedOrders=true)(hc:(kJ all n fls [] segs&&segs.all fun pl=>nX all.size pl)=true)(hQ:PI Q)
  (h:NX r bad P all fls Q (fun a w=>Q .normal a w) segs a {w with drawn:=w.drawn+1}):(Code.region id all true).wpIn (FW r) 0 P Q a w:=by
 rw[bMS]at hc;obtain⟨hnd,hlen⟩:=LM hc.1;have hr:=AX (S:=[]) (pre:=[]) (E:=[]) ⟨bPA,fun i=>Iff.rfl,(fun i hi=>by cases hi),(fun c1 i c2 he=>by simp at he),(fun c1 i c2 he=>by simp at he),rfl⟩ hc.1;refine wpIn_region_any hm ?_;have:=BV (P:=P) (r:=r) (bad:=bad) (n:=n) (fl:=fun i=>fls.getD i false) hnd hQ segs [] [] (Array.replicate all.size false) a {w with drawn:=w.drawn+1} (fun e he=>by cases he) hr (BJ hc.2 h);rw[hlen]at this;exact this
abbrev bU:=List (Nat×Γ)
abbrev aD:=List (Nat×Obj)
abbrev aC:=Nat→List Γ
def look:bU→Nat→Option Γ
 | [],_=>none
 |(k,v)::r,s=>match Nat.beq k s with|true=>some v|false=>look r s
def ev(σ:bU):Operand→Option Γ
 |.tmp t=>look σ t
 |.const v=>some v
 |.global g=>some (qP g)
 |.func f=>some (.func (.func f) #[] #[])
def Le(D D':aC):Prop:=(∀b,D b <+: D' b)∧D' 0=D 0
theorem Le.refl(D:aC):Le D D:=⟨fun _=>List.prefix_refl _,rfl⟩
theorem Le.trans{D D' D'':aC}(h:Le D D')(h':Le D' D''):Le D D'':=⟨fun b=>(h.1 b).trans (h'.1 b),h'.2.trans h.2⟩
theorem Le.get{D D':aC}(h:Le D D'){b i:Nat}{v:Γ}(hv:(D b)[i]?= some v):(D' b)[i]?= some v:=by
 obtain⟨t,ht⟩:=h.1 b;rw[←ht,bPH]
 ·exact hv
 ·exact(bMW.1 hv).1
def fA(D:aC)(w:Δ):Prop:=(∀b,D b≠[]→∃cs e fz,w.heap[b]?= some (.cells cs e fz)∧D b <+: cs.toList)∧D 0≠[]∧∃e fz,w.heap[0]?= some (.cells (D 0).toArray e fz)
theorem fA.of{D D':aC}{w w':Δ}(h:fA D w)(h1:∀b,D' b≠[]→∃cs e fz,w'.heap[b]?= some (.cells cs e fz)∧D' b <+: cs.toList)(hD:D' 0=D 0)(hw:w'.heap[0]?= w.heap[0]?):fA D' w':=by
 refine⟨h1,?_⟩;rw[hD,hw];exact h.2
theorem fA.ne0{D:aC}{w:Δ}(h:fA D w){b:Nat}(hb:D b=[]):b≠0:=fun e=>h.2.1 (e▸hb)
theorem fA.pos{D:aC}{w:Δ}(h:fA D w):0<w.heap.size:=by
 obtain⟨-, -,e,fz,h⟩:=h;exact(bPZ.1 h).1
def cU:Obj→Prop
 |.cells _ _ z=>z=(0,0)
 |_=>True
def IV(w:Δ):Os×Array (Nat×Λ):=(w.os,w.output)
structure H0 where
 arr:Array Obj
 env:Option (Os×Array (Nat×Λ))
abbrev H0.size(h:H0):Nat:=h.arr.size
abbrev hd(w:Δ):H0:=⟨w.heap,some (IV w)⟩
structure iT(h0:H0)(lo:Nat)(D0:aC)(mods:List Nat)(μ:aD)(D:aC)(w:Δ):Prop where
 hlo:h0.size≤lo
 size:lo≤w.heap.size
 old:∀b,b<h0.size→b∉mods→w.heap[b]?= h0.arr[b]?
 dold:∀b,b<h0.size→D b=D0 b
 agr:fA D w
 box:∀p∈μ,w.heap[p.1]?= some p.2∧D p.1=[]∧(lo≤p.1∨p.1∈mods)
 nd:(μ.map (·.1)).Nodup
 fz:∀p∈μ,cU p.2
 env:∀e,h0.env=some e→IV w=e
def N9(lo:Nat)(D:aC)(w:Δ):Prop:=fA D w∧lo≤w.heap.size
theorem iT.dom{h0:H0}{lo:Nat}{D0:aC}{mods:List Nat}{μ:aD}{D:aC}{w:Δ}(h:iT h0 lo D0 mods μ D w):N9 lo D w:=⟨h.agr,h.size⟩
def aNV(β:List Nat)(D:aC)(w:Δ)(D':aC)(w':Δ):Prop:=w.heap.size≤w'.heap.size∧(∀b,b<w.heap.size→b∉β→w'.heap[b]?= w.heap[b]?∧D' b=D b)∧IV w'=IV w
theorem aNV.refl(β:List Nat)(D:aC)(w:Δ):aNV β D w D w:=⟨bNJ _,fun _ _ _=>⟨rfl,rfl⟩,rfl⟩
structure V6(lo:Nat)(J:List Nat→aC→Δ→Prop):Prop where
 low:∀β D w D' w',J β D w→aNV β D w D' w'→N9 lo D' w'→J β D' w'
 own:∀β β' D w,J β D w→(∀b∈β',b∈β∨w.heap.size≤b)→J β' D w
structure Cx where
 r:Option Nat
 N:Nat
 ds:List Deferred
 h0:H0
 lo:Nat
 D0:aC
 mods:List Nat
 ex:Option (List Nat→aC→Δ→Prop)
def S9(X:Cx)(μ:aD)(D:aC)(w:Δ):Prop:=
 match X.ex with
 |none=>True
 |some J=>V6 X.lo J∧J (μ.map (·.1)) D w
theorem S9.step{X:Cx}{μ μ':aD}{D D':aC}{w w':Δ}(h:S9 X μ D w)(hk:X.ex≠none→∀p∈μ',p.1∈μ.map (·.1)∨w.heap.size≤p.1)(hl:X.ex≠none→aNV (μ.map (·.1)) D w D' w')(hd:N9 X.lo D' w'):S9 X μ' D' w':=by
 unfold S9 at *;cases hx:X.ex with
 |none=>trivial
 |some J=>
  rw[hx]at h;have hne:X.ex≠none:=by simp[hx]
  refine⟨h.1,?_⟩;have h1:=h.1.own _ (μ'.map (·.1)++μ.map (·.1)) D w h.2 (fun b hb=>by
   rcases bNH.1 hb with hb|hb
   ·obtain⟨p,hp,rfl⟩:=bMR.1 hb;exact hk hne p hp
   ·exact bNI hb)
  have h2:=h.1.low _ D w D' w' h1 ⟨(hl hne).1,fun b hb hn=>(hl hne).2.1 b hb fun hm=>hn (GE _ hm),(hl hne).2.2⟩ hd;exact h.1.own _ _ D' w' h2 fun b hb=>bNI (bNE _ hb)
def Hl(X:Cx)(σ:bU)(μ:aD)(Ds:List aC)(a:Act)(w:Δ):Prop:=
 a.tmps.size=X.N∧(∀s v,look σ s=some v→a.tmps[s]?= some v)∧a.defers=X.ds∧∃D,iT X.h0 X.lo X.D0 X.mods μ D w∧(∀D₁∈Ds,Le D₁ D)∧S9 X μ D w
def WL(P:Program)(X:Cx){γb:Type}[Membership Nat γb](bad:γb)(all:Array Oper)(K:Act→Δ→Prop)(Q:Exit→Act→Δ→Prop)(os:List (Bool×Nat))(σ:bU)(μ:aD)(Ds:List aC):Prop:=
 ∀a w,Hl X σ μ Ds a w→tM X.r bad P all K Q (iS all os) a w
def WC(P:Program)(X:Cx)(Q:Exit→Act→Δ→Prop)(c:Code)(σ:bU)(μ:aD)(Ds:List aC):Prop:=
 ∀a w,Hl X σ μ Ds a w→c.wpIn (FW X.r) 0 P Q a w
variable{P:Program}{X:Cx}{γb:Type}[Membership Nat γb]{bad:γb}{all:Array Oper}{K:Act→Δ→Prop}{Q:Exit→Act→Δ→Prop}
variable{σ:bU}{μ:aD}{Ds:List aC}{os:List (Bool×Nat)}{fl:Bool}{ix:Nat}
theorem Hl.eval{a:Act}{w:Δ}(h:Hl X σ μ Ds a w){x:Operand}{v:Γ}(hx:ev σ x=some v):a.eval x=v:=by
 cases x with
 |tmp t=>
  have:=h.2.1 t v hx;show a.tmps.getD t undef=v;rw[bOX,this];rfl
 |const v=>exact bNS hx
 |global g=>exact bNS hx
 |func f=>exact bNS hx
theorem Hl.put{a:Act}{w:Δ}(h:Hl X σ μ Ds a w){d:Nat}(hd:Nat.blt d X.N=true)(v:Γ):Hl X ((d,v)::σ) μ Ds (a.put (some d) v) w:=by
 have hd':d<X.N:=by simpa [Nat.blt_eq]using hd
 refine⟨by simpa [Act.put]using h.1,fun s u hs=>?_,h.2.2.1,h.2.2.2⟩;simp only[look]at hs;simp only[Act.put];cases hb:Nat.beq d s with
 |true=>
  rw[hb]at hs;obtain rfl:=bOV hb;cases hs;rw[Array.getElem?_setIfInBounds_self_of_lt (by rw[h.1];exact hd')]
 |false=>
  rw[hb]at hs;rw[bPV (fun e=>by subst e;simp at hb)]
  exact h.2.1 s u hs
def EV:bU→bU→Prop
 |_,[]=>True
 |σ,(k,v)::r=>look σ k=some v∧EV σ r
theorem EV.look{σ σ':bU}(h:EV σ σ'){s:Nat}{v:Γ}(hv:look σ' s=some v):look σ s=some v:=by
 induction σ' with
 |nil=>cases hv
 |cons p r ih=>
  obtain⟨k,u⟩:=p;simp only[Fs.look]at hv;cases hb:Nat.beq k s with
  |true=>rw[hb]at hv;cases hv;obtain rfl:=bOV hb;exact h.1
  |false=>rw[hb]at hv;exact ih h.2 hv
theorem iT.sub{h0:H0}{lo:Nat}{D0:aC}{mods:List Nat}{μ μ':aD}{D:aC}{w:Δ}(h:iT h0 lo D0 mods μ D w)(hs:∀p∈μ',p∈μ)(hn:(μ'.map (·.1)).Nodup):iT h0 lo D0 mods μ' D w:=
 ⟨h.hlo,h.size,h.old,h.dold,h.agr,fun p hp=>h.box p (hs p hp),hn,fun p hp=>h.fz p (hs p hp),h.env⟩
theorem Hl.weak{σ':bU}{μ':aD}{Ds':List aC}{a:Act}{w:Δ}(h:Hl X σ μ Ds a w)(hσ:EV σ σ')(hμ:μ'.Sublist μ)(hD:∀D∈Ds',∃D'∈Ds,Le D D'):Hl X σ' μ' Ds' a w:=by
 obtain⟨h1,h2,h3,D,h4,h5,I⟩:=h;refine⟨h1,fun s v hv=>h2 s v (hσ.look hv),h3,D,h4.sub (fun p hp=>hμ.mem hp) ((hμ.map (·.1)).nodup h4.nd),fun D₁ hD₁=>?_,I.step (fun _ p hp=>bNI (bMR.2 ⟨p,hμ.mem hp,rfl⟩)) (fun _=>aNV.refl _ _ _) h4.dom⟩;obtain⟨D₂,hm,hle⟩:=hD D₁ hD₁;exact hle.trans (h5 D₂ hm)
theorem EV.app{σ σ1 σ2:bU}(h1:EV σ σ1)(h2:EV σ σ2):EV σ (σ1++σ2):=by
 induction σ1 with
 |nil=>exact h2
 |cons p r ih=>exact⟨h1.1,ih h1.2⟩
theorem BY{σ1 σ2:bU}{s:Nat}{v:Γ}(h:look (σ1++σ2) s=some v):look σ1 s=some v∨look σ2 s=some v:=by
 induction σ1 with
 |nil=>exact bNC h
 |cons p r ih=>
  obtain⟨k,u⟩:=p;simp only[bPF,look]at h ⊢
  cases hb:Nat.beq k s with
  |true=>rw[hb]at h;exact bNI h
  |false=>rw[hb]at h;exact ih h

def NP(Q:Exit→Act→Δ→Prop):Prop:=∀c a w,¬Q (.panic c) a w
theorem NP.pi(h:NP Q):PI Q:=fun c a _ w _ hq=>absurd hq (h c a w)
theorem aER{x y:Code}(h:WC P X (Exit.then (y.wpIn (FW X.r) 0 P Q) Q) x σ μ Ds):WC P X Q (.seq x y) σ μ Ds:=
 fun a w hh=>wpIn_seq (h a w hh)
theorem _root_.Go.Fs.Za3{x:Code}{y:Code}(h:WC P X (Exit.then (y.wpIn (FW X.r) 0 P Q) Q) x σ μ Ds):WC P X Q (.seq x y) σ μ Ds:=aER h
theorem bG(h:∀a w,Hl X σ μ Ds a w→Q .normal a w):WC P X Q .skip σ μ Ds:=fun a w hh=>wpIn_skip (h a w hh)
theorem bHV{id:Nat}(h:∀a w,Hl X σ μ Ds a w→Q (.exit id) a w):WC P X Q (.exit id) σ μ Ds:=fun a w hh=>wpIn_exit (h a w hh)
theorem _root_.Go.Fs.Za6{id:Nat}(h:∀a w,Hl X σ μ Ds a w→Q (.exit id) a w):WC P X Q (.exit id) σ μ Ds:=bHV h
theorem HQ(h:∀a w,Hl X σ μ Ds a w→Q .ret a w):WC P X Q .ret σ μ Ds:=fun a w hh=>wpIn_ret (h a w hh)
theorem XA{y:Code}(h:WC P X Q y σ μ Ds):∀a w,Hl X σ μ Ds a w→(Exit.then (y.wpIn (FW X.r) 0 P Q) Q) .normal a w:=h
theorem _root_.Go.Fs.Zaz{y:Code}(h:WC P X Q y σ μ Ds):∀a w,Hl X σ μ Ds a w→(Exit.then (y.wpIn (FW X.r) 0 P Q) Q) .normal a w:=XA h
theorem ZV{c:Operand}{x y:Code}{b:Bool}(hc:ev σ c=some (.bool b))(ht:b=true→WC P X Q x σ μ Ds)(hf:b=false→WC P X Q y σ μ Ds):WC P X Q (.cond c x y) σ μ Ds:=
 fun a w hh=>wpIn_cond_split (hh.eval hc) (fun e=>ht e a w hh) fun e=>hf e a w hh
theorem _root_.Go.Fs.Zaf{c:Operand}{x:Code}{y:Code}{b:Bool}(hc:ev σ c=some (.bool b))(ht:b=true→WC P X Q x σ μ Ds)(hf:b=false→WC P X Q y σ μ Ds):WC P X Q (.cond c x y) σ μ Ds:=ZV hc ht hf
theorem aZH{id:Nat}{c:Code}(h:WC P X (Exit.inBlock id Q) c σ μ Ds):WC P X Q (.block id c) σ μ Ds:=fun a w hh=>wpIn_block (h a w hh)
theorem _root_.Go.Fs.Za1{id:Nat}{c:Code}(h:WC P X (Exit.inBlock id Q) c σ μ Ds):WC P X Q (.block id c) σ μ Ds:=aZH h
theorem NU{id:Nat}{a:Act}{w:Δ}(h:Q .normal a w):Exit.inBlock id Q (.exit id) a w:=by simp[Exit.inBlock,h]
theorem IN{id id':Nat}(hne:Nat.beq id' id=false){a:Act}{w:Δ}(h:Q (.exit id') a w):Exit.inBlock id Q (.exit id') a w:=by
 have:id'≠id:=fun e=>by subst e;simp at hne
 simp[Exit.inBlock,this,h]
theorem aRA(is:List (Bool×Nat)){id:Nat}{ops:Array Oper}(hi:is=(List.range ops.size).map fun i=>(false,i))(h:WL P X [] ops (fun a w=>Q .normal a w) Q is σ μ Ds):WC P X Q (.region id ops false) σ μ Ds:=
 fun a w hh=>aSO (by rw[aWL,←hi];exact h a w hh)
theorem aO{id:Nat}{ops:Array Oper}(h:WL P X [] ops (fun a w=>Q .normal a w) Q ((List.range ops.size).map fun i=>(false,i)) σ μ Ds):WC P X Q (.region id ops false) σ μ Ds:=aRA _ rfl h
theorem cF{p:Prop}(h:p:=by repeat (first|exact trivial|refine⟨rfl,?_⟩)):p:=h
theorem C.fo{Q:Program}(h:Q.follows .mixedOrders=true:=by exact bB):Q.follows .mixedOrders=true:=h
theorem cT{α:Type}(l:List α)(i:Nat)(h:i<l.length:=by omega):∃x,l[i]?= some x:=⟨_,bMU h⟩
theorem Hl.drew{a:Act}{w:Δ}(h:Hl X σ μ Ds a w):Hl X σ μ Ds a {w with drawn:=w.drawn+1}:=by
 obtain⟨h1,h2,h3,D,h4,h5,I⟩:=h;exact⟨h1,h2,h3,D,⟨h4.hlo,h4.size,h4.old,h4.dold,h4.agr,h4.box,h4.nd,h4.fz,h4.env⟩,h5,I.step (fun _ p hp=>bNI (bMR.2 ⟨p,hp,rfl⟩)) (fun _=>⟨bNJ _,fun _ _ _=>⟨rfl,rfl⟩,rfl⟩) h4.dom⟩
def WS(P:Program)(X:Cx){γb:Type}[Membership Nat γb](bad:γb)(all:Array Oper)(fls:List Bool)(K:Act→Δ→Prop)(Q:Exit→Act→Δ→Prop)(segs:List iR)(σ:bU)(μ:aD)(Ds:List aC):Prop:=
 ∀a w,Hl X σ μ Ds a w→NX X.r bad P all fls Q K segs a w
def WP(P:Program)(X:Cx){γb:Type}[Membership Nat γb](bad:γb)(all:Array Oper)(fls:List Bool)(kont:Act→Δ→Prop)(Q:Exit→Act→Δ→Prop)(pl:iR)(σ:bU)(μ:aD)(Ds:List aC):Prop:=
 ∀a w,Hl X σ μ Ds a w→C4 X.r bad P all fls Q kont pl a w
theorem HO{γb:Type}[Membership Nat γb](bad:γb)(n:Nat)(fls:List Bool)(segs:List iR){id:Nat}{ops:Array Oper}(hm:P.follows .mixedOrders=true)(hQ:PI Q)(hc:(kJ ops n fls [] segs&&segs.all fun pl=>nX ops.size pl)=true)
  (h:WS P X bad ops fls (fun a w=>Q .normal a w) Q segs σ μ Ds):WC P X Q (.region id ops true) σ μ Ds:=by
 intro a w hh;exact aVS (bad:=bad) hm hc hQ (h a _ hh.drew)
theorem oS{γb:Type}[Membership Nat γb](bad:γb)(n:Nat)(fls:List Bool)(segs:List iR){id:Nat}{ops:Array Oper}(hm:P.follows .mixedOrders=true)(hQ:NP Q)(hc:(kJ ops n fls [] segs&&segs.all fun pl=>nX ops.size pl)=true)
  (h:WS P X bad ops fls (fun a w=>Q .normal a w) Q segs σ μ Ds):WC P X Q (.region id ops true) σ μ Ds:=HO bad n fls segs hm hQ.pi hc h
section segments
variable{fls:List Bool}{kont:Act→Δ→Prop}
theorem oL(h:∀a w,Hl X σ μ Ds a w→K a w):WS P X bad all fls K Q [] σ μ Ds:=h
theorem mS{c:List Nat}{segs:List iR}(is:List (Bool×Nat))(hi:is=c.map fun i=>(fls.getD i false,i))(h:WL P X bad all (fun a w=>NX X.r bad P all fls Q K segs a w) Q is σ μ Ds):WS P X bad all fls K Q (.fin c::segs) σ μ Ds:=by
 subst hi;exact h
theorem tI{pl:iR}{segs:List iR}(h:WP P X bad all fls (fun a w=>NX X.r bad P all fls Q K segs a w) Q pl σ μ Ds):WS P X bad all fls K Q (pl::segs) σ μ Ds:=h
theorem aW{c:List Nat}(is:List (Bool×Nat))(hi:is=c.map fun i=>(fls.getD i false,i))(h:WL P X bad all kont Q is σ μ Ds):WP P X bad all fls kont Q (.fin c) σ μ Ds:=by
 subst hi;exact h
theorem bQ{d:List Nat}{p q:Nat}{A B:iR}(is:List (Bool×Nat))(hi:is=d.map fun i=>(fls.getD i false,i))
  (h:WL P X bad all (fun a w=>tM X.r bad P all (C4 X.r bad P all fls Q kont A) Q (iS all [(fls.getD p false,p)]) a w∧tM X.r bad P all (C4 X.r bad P all fls Q kont B) Q (iS all [(fls.getD q false,q)]) a w) Q is σ μ Ds):WP P X bad all fls kont Q (.fork d p A q B) σ μ Ds:=by
 subst hi;exact h
theorem dZ{p q:Nat}{A B:iR}(bp bq:Bool)(hp:fls.getD p false=bp)(hq:fls.getD q false=bq)(h1:WL P X bad all (fun a w=>C4 X.r bad P all fls Q kont A a w) Q [(bp,p)] σ μ Ds)(h2:WL P X bad all (fun a w=>C4 X.r bad P all fls Q kont B a w) Q [(bq,q)] σ μ Ds):
  ∀a w,Hl X σ μ Ds a w→tM X.r bad P all (C4 X.r bad P all fls Q kont A) Q (iS all [(fls.getD p false,p)]) a w∧tM X.r bad P all (C4 X.r bad P all fls Q kont B) Q (iS all [(fls.getD q false,q)]) a w:=fun a w hh=>by
 subst hp hq;exact⟨h1 a w hh,h2 a w hh⟩
theorem sP{d:List Nat}{p:Nat}{ps:List Nat}{A:Nat→iR}(is:List (Bool×Nat))(hi:is=d.map fun i=>(fls.getD i false,i))
  (h:WL P X bad all (fun a w=>∀i∈p::ps,tM X.r bad P all (C4 X.r bad P all fls Q kont (A i)) Q (iS all [(fls.getD i false,i)]) a w) Q is σ μ Ds):WP P X bad all fls kont Q (.forkN d p ps A) σ μ Ds:=by
 subst hi;exact h
theorem J6{A:Nat→iR}:∀a w,Hl X σ μ Ds a w→∀i∈([]:List Nat),tM X.r bad P all (C4 X.r bad P all fls Q kont (A i)) Q (iS all [(fls.getD i false,i)]) a w:=fun _ _ _ _ h=>by cases h
theorem gZ{A:Nat→iR}{p:Nat}{ps:List Nat}(b:Bool){B:iR}(hb:fls.getD p false=b)(hB:A p=B)(h1:WL P X bad all (fun a w=>C4 X.r bad P all fls Q kont B a w) Q [(b,p)] σ μ Ds)
  (h2:∀a w,Hl X σ μ Ds a w→∀i∈ps,tM X.r bad P all (C4 X.r bad P all fls Q kont (A i)) Q (iS all [(fls.getD i false,i)]) a w):
  ∀a w,Hl X σ μ Ds a w→∀i∈p::ps,tM X.r bad P all (C4 X.r bad P all fls Q kont (A i)) Q (iS all [(fls.getD i false,i)]) a w:=fun a w hh i hi=>by
 rcases LT.1 hi with rfl|hi
 ·rw[hb,hB];exact h1 a w hh
 ·exact h2 a w hh i hi
end segments
def VI(c:List Nat)(bits:List Bool):List Bool:=(List.range c.length).map fun i=>(bits.zip c).any fun p=>p.1&&Nat.beq p.2 i
theorem aEN{γb:Type}[Membership Nat γb](bad:γb)(n:Nat)(c:List Nat)(bits:List Bool)(is:List (Bool×Nat)){id:Nat}{ops:Array Oper}(hm:P.follows .mixedOrders=true)(hQ:PI Q)(hc:((kJ ops n (VI c bits) [] [.fin c]&&nX ops.size (.fin c))&&(bits.zip c==c.map fun i=>((VI c bits).getD i false,i)))=true)(hi:is=bits.zip c)
  (h:WL P X bad ops (fun a w=>Q .normal a w) Q is σ μ Ds):WC P X Q (.region id ops true) σ μ Ds:=by
 rw[bMS]at hc;exact HO bad n (VI c bits) [.fin c] hm hQ (by rw[bQU,List.all_nil,bSE];exact hc.1) (mS is (hi.trans (eq_of_beq hc.2)) h)
theorem iZ{γb:Type}[Membership Nat γb](bad:γb)(n:Nat)(c:List Nat)(bits:List Bool)(is:List (Bool×Nat)){id:Nat}{ops:Array Oper}(hm:P.follows .mixedOrders=true)(hQ:NP Q)(hc:((kJ ops n (VI c bits) [] [.fin c]&&nX ops.size (.fin c))&&(bits.zip c==c.map fun i=>((VI c bits).getD i false,i)))=true)(hi:is=bits.zip c)
    (h:WL P X bad ops (fun a w=>Q .normal a w) Q is σ μ Ds):WC P X Q (.region id ops true) σ μ Ds:=aEN bad n c bits is hm hQ.pi hc hi h
def aNB(n m:Nat):List (Bool×Nat):=(List.range n).map fun i=>(Nat.testBit m i,i)
def ZN(k m:Nat):List Bool:=(List.range k).map fun i=>Nat.testBit m i
theorem bMA(k m:Nat):aNB k m=(List.range k).map fun i=>((ZN k m).getD i false,i):=bSL fun i hi=>by
  have h:=bOQ.1 hi;simp[ZN,h]
theorem EA{γb:Type}[Membership Nat γb](bad:γb)(n k m:Nat){id:Nat}{ops:Array Oper}(hQ:PI Q)(h:WL P X bad ops (fun a w=>Q .normal a w) Q (aNB k m) σ μ Ds)(hc:(kJ ops n (ZN k m) [] [.fin (List.range k)]&&nX ops.size (.fin (List.range k)))=true:=by kernel_rfl)(hm:P.follows .mixedOrders=true:=by exact bB):WC P X Q (.region id ops true) σ μ Ds:=
 HO bad n (ZN k m) [.fin (List.range k)] hm hQ (by rw[bQU,List.all_nil,bSE];exact hc) (mS (aNB k m) (bMA k m) h)
theorem PI.thn{k:Act→Δ→Prop}(h:PI Q):PI (Exit.then k Q):=fun c a b w d q=>h c a b w d q
theorem PI.inb{i:Nat}(h:PI Q):PI (Exit.inBlock i Q):=fun c a b w d q=>h c a b w d q
theorem NP.inb{i:Nat}(h:NP Q):NP (Exit.inBlock i Q):=fun c a w q=>h c a w q
theorem NP.thn{k:Act→Δ→Prop}(h:NP Q):NP (Exit.then k Q):=fun c a w q=>h c a w q
theorem aU{γb:Type}[Membership Nat γb](bad:γb)(n k m:Nat){id:Nat}{ops:Array Oper}(h:WL P X bad ops (fun a w=>Q .normal a w) Q (aNB k m) σ μ Ds)(hQ:PI Q:=by repeat (first|exact aFN|refine PI.thn ?_|refine PI.inb ?_|refine PI.ngt ?_))(hc:(kJ ops n (ZN k m) [] [.fin (List.range k)]&&nX ops.size (.fin (List.range k)))=true:=by kernel_rfl)(hm:P.follows .mixedOrders=true:=by exact bB):WC P X Q (.region id ops true) σ μ Ds:=EA bad n k m hQ h hc hm
theorem sF{γb:Type}[Membership Nat γb](bad:γb)(n k m:Nat){id:Nat}{ops:Array Oper}(hQ:NP Q)(h:WL P X bad ops (fun a w=>Q .normal a w) Q (aNB k m) σ μ Ds)(hc:(kJ ops n (ZN k m) [] [.fin (List.range k)]&&nX ops.size (.fin (List.range k)))=true:=by kernel_rfl)(hm:P.follows .mixedOrders=true:=by exact bB):WC P X Q (.region id ops true) σ μ Ds:=EA bad n k m hQ.pi h hc hm
theorem bN{γb:Type}[Membership Nat γb](bad:γb)(n k m:Nat){id:Nat}{ops:Array Oper}(h:WL P X bad ops (fun a w=>Q .normal a w) Q (aNB k m) σ μ Ds)(hQ:NP Q:=by repeat (first|exact fW|exact jW|exact j3|refine NP.thn ?_|refine NP.inb ?_|refine NP.ngt ?_))(hc:(kJ ops n (ZN k m) [] [.fin (List.range k)]&&nX ops.size (.fin (List.range k)))=true:=by kernel_rfl)(hm:P.follows .mixedOrders=true:=by exact bB):WC P X Q (.region id ops true) σ μ Ds:=EA bad n k m hQ.pi h hc hm
def EZ:List (Nat×iR)→Nat→iR
 | [],_=>.fin []
 |(j,pl)::l,i=>bif Nat.beq i j then pl else EZ l i
theorem bIB{γ:Type}{c:Code}(m:γ→Nat)(I:γ→Prop)(S:γ→bU)(M:γ→aD)(E:γ→List aC)(g₀:γ)(h₀:I g₀)(hσ:EV σ (S g₀))(hμ:(M g₀).Sublist μ)(hD:∀D∈E g₀,∃D'∈Ds,Le D D')
  (round:∀g,I g→WC P X (Exit.then (fun a w=>∃g',I g'∧m g'<m g∧Hl X (S g') (M g') (E g') a w) Q) c (S g) (M g) (E g)):WC P X Q (.loop c) σ μ Ds:=by
 let p:Act→Δ→Nat→Prop:=fun a w n=>∃g,I g∧m g=n∧Hl X (S g) (M g) (E g) a w
 have ex:∀a w,(∃n,p a w n)→∃n,p a w n∧∀k,p a w k→n≤k:=by
  intro a w ⟨n,hn⟩;induction n using Nat.strongRecOn with
  |_ n ih=>
   by_cases h:∃k,k<n∧p a w k
   ·obtain⟨k,hk,hp⟩:=h;exact ih k hk hp
   ·exact⟨n,hn,fun k hk=>Nat.le_of_not_lt fun hl=>h ⟨k,hl,hk⟩⟩
 intro a w hh;refine wpIn_loop (fun a w=>∃n,p a w n) (fun a w=>open Classical in if h:∃n,p a w n then(ex a w h).choose else 0) ⟨_,g₀,h₀,rfl,hh.weak hσ hμ hD⟩ ?_;intro a w hI;obtain⟨⟨g,hg,hm,hst⟩,hmin⟩:=(ex a w hI).choose_spec;refine wpIn_mono (round g hg a w hst) fun e a' w' hq=>?_
 cases e with
 |normal=>
  obtain⟨g',hg',hlt,hst'⟩:=hq;have hI':∃n,p a' w' n:=⟨_,g',hg',rfl,hst'⟩
  refine⟨hI',?_⟩;simp only[dif_pos hI',dif_pos hI];have:=(ex a' w' hI').choose_spec.2 _ ⟨g',hg',rfl,hst'⟩;omega
 |_=>exact hq

def cQ(all:Array Oper)(σ:bU):Option (Nat×Bool)→Prop
 |none=>True
 |some (j,want)=>∃s,(all[j]?).bind (·.dst)=some s∧look σ s=some (.bool want)
def bMO(all:Array Oper)(σ:bU):Option (Nat×Bool)→Prop
 |none=>False
 |some (j,want)=>∃s v,(all[j]?).bind (·.dst)=some s∧look σ s=some v∧(match v with|.bool b=>Bool.xor b want|_=>true)=true
theorem Hl.wanted{a:Act}{w:Δ}(h:Hl X σ μ Ds a w){o:Oper}(hg:cQ all σ o.guard):Region.wanted o (yielded all a.tmps)=true:=by
 unfold Region.wanted;cases hgd:o.guard with
 |none=>rfl
 |some p=>
  obtain⟨j,want⟩:=p;rw[hgd]at hg;obtain⟨s,hs,hl⟩:=hg;simp[yielded,hs,h.2.1 s _ hl]
theorem Hl.unwanted{a:Act}{w:Δ}(h:Hl X σ μ Ds a w){o:Oper}(hg:bMO all σ o.guard):Region.wanted o (yielded all a.tmps)=false:=by
 unfold Region.wanted;cases hgd:o.guard with
 |none=>rw[hgd]at hg;exact hg.elim
 |some p=>
  obtain⟨j,want⟩:=p;rw[hgd]at hg;obtain⟨s,v,hs,hl,hv⟩:=hg;have hy:yielded all a.tmps j=(match v with|.bool b=>some b|_=>none):=by
   simp only[yielded,hs,Option.bind_some,h.2.1 s _ hl];cases v<;>rfl
  simp only[hy];cases v with
  |bool b=>cases b<;>cases want<;>first|rfl|(simp at hv)
  |_=>rfl
theorem BC(h:∀a w,Hl X σ μ Ds a w→K a w):WL P X bad all K Q [] σ μ Ds:=fun a w hh=>h a w hh
theorem _root_.Go.Fs.Zao(h:∀a w,Hl X σ μ Ds a w→K a w):WL P X bad all K Q [] σ μ Ds:=BC h
theorem vT{o:Oper}(ho:all[ix]?= some o):iS all ((fl,ix)::os)=(fl,o)::iS all os:=by simp[iS,ho]
theorem pA{o:Oper}{d:Nat}{v:Γ}(ho:all[ix]?= some o)(hq:kV o.op=true)(hd:o.dst=some d)(hN:Nat.blt d X.N=true)(hg:cQ all σ o.guard)
  (hv:∀a w,Hl X σ μ Ds a w→∀w',pX bad w w'→(execOp a.eval o).run P w'=.ok (.value v) w') (k:WL P X bad all K Q os ((d,v)::σ) μ Ds):WL P X bad all K Q ((fl,ix)::os) σ μ Ds:=by
 intro a w hh;rw[vT ho];simp only[tM,hq,bPG];refine⟨v,bNI ⟨hh.wanted hg,hv a w hh⟩,?_⟩;rw[hd];exact k _ _ (hh.put hN v)
theorem bW{o:Oper}{d:Nat}{v:Γ}(ho:all[ix]?= some o)(hq:kV o.op=true)(hd:o.dst=some d)(hN:Nat.blt d X.N=true)(hg:cQ all σ o.guard)
  (hv:∀ρ:Operand→Γ,(∀x u,ev σ x=some u→ρ x=u)→∀w',(execOp ρ o).run P w'=.ok (.value v) w') (k:WL P X bad all K Q os ((d,v)::σ) μ Ds):WL P X bad all K Q ((fl,ix)::os) σ μ Ds:=
 pA ho hq hd hN hg (fun a _ hh w' _=>hv a.eval (fun _ _ hx=>hh.eval hx) w') k
theorem bHT{o:Oper}{d:Nat}(ho:all[ix]?= some o)(hd:o.dst=some d)(hN:Nat.blt d X.N=true)(hg:bMO all σ o.guard)(k:WL P X bad all K Q os ((d,undef)::σ) μ Ds):WL P X bad all K Q ((fl,ix)::os) σ μ Ds:=by
 intro a w hh;rw[vT ho];simp only[tM];split
 ·refine⟨undef,bNC ⟨hh.unwanted hg,rfl⟩,?_⟩;rw[hd];exact k _ _ (hh.put hN _)
 ·unfold T1;rw[bNA (by rw[hh.unwanted hg];simp),hd]
  exact k _ _ (hh.put hN _)
theorem _root_.Go.Fs.Zg{o:Oper}{d:Nat}(e9:(all[ix]?,o.dst)=(some o,some d))(k:WL P X bad all K Q os ((d,undef)::σ) μ Ds)(hN:Nat.blt d X.N=true:=by exact rfl)(hg:bMO all σ o.guard:=by exact⟨_,_,rfl,rfl,rfl⟩):WL P X bad all K Q ((fl,ix)::os) σ μ Ds:=bHT (bNB (fun z=>z.1) e9) (bNB (fun z=>z.2) e9) hN hg k
theorem rS{K':Act→Δ→Prop}:∀(xs ys:List (Bool×Oper)) (a:Act) (w:Δ),tM X.r bad P all (fun a w=>K' a w) Q xs a w→(∀a w,K' a w→tM X.r bad P all K Q ys a w)→tM X.r bad P all K Q (xs++ys) a w
 | [],ys,a,w,h,hk=>hk a w h
 |(fl,o)::xs,ys,a,w,h,hk=>by
  simp only[bPF,tM]at h ⊢
  split at h
  ·rename_i hq;rw[bNK hq];obtain⟨v,hy,h⟩:=h;exact⟨v,hy,rS xs ys _ _ h hk⟩
  ·rename_i hq;rw[bNA hq];exact h.mono fun a w hh=>rS xs ys a w hh hk
theorem WL.append{K':Act→Δ→Prop}{xs ys:List (Bool×Nat)}{a:Act}{w:Δ}(h:tM X.r bad P all (fun a w=>K' a w) Q (iS all xs) a w)(hk:∀a w,K' a w→tM X.r bad P all K Q (iS all ys) a w):
  tM X.r bad P all K Q (iS all (xs++ys)) a w:=by
 rw[iS,bNG];exact rS _ _ a w h hk
theorem LU(xs ys:List (Bool×Nat)){s p:Nat}{b c want:Bool}(ho:os=xs++ys)(hs:look σ s=some (.bool b))
  (hyes:b=want→WL P X bad all (fun a w=>Hl X ((p,.bool c)::(s,.bool want)::σ) μ Ds a w) Q xs ((s,.bool want)::σ) μ Ds)
  (hno:b= !want→WL P X bad all (fun a w=>Hl X ((p,.bool (!want))::(s,.bool (!want))::σ) μ Ds a w) Q xs ((s,.bool (!want))::σ) μ Ds)
  (k:WL P X bad all K Q ys ((p,.bool (bif want then b&&c else b||c))::σ) μ Ds):WL P X bad all K Q os σ μ Ds:=by
 have hsub:∀u,Value.bool b=u→∀a w,Hl X σ μ Ds a w→Hl X ((s,u)::σ) μ Ds a w:=by
  rintro _ rfl a w ⟨h1,h2,h3⟩;refine⟨h1,fun t v ht=>?_,h3⟩;simp only[look]at ht;cases hb:Nat.beq s t with
  |true=>rw[hb]at ht;cases ht;obtain rfl:=bOV hb;exact h2 _ _ hs
  |false=>rw[hb]at ht;exact h2 _ _ ht
 have hback:∀u v,Value.bool b=u→∀a w,Hl X ((p,v)::(s,u)::σ) μ Ds a w→Hl X ((p,v)::σ) μ Ds a w:=by
  rintro _ v rfl a w ⟨h1,h2,h3⟩;refine⟨h1,fun t v' ht=>?_,h3⟩;refine h2 t v' ?_;simp only[look]at ht ⊢
  cases hp:Nat.beq p t with
  |true=>rw[hp]at ht;exact ht
  |false=>
   rw[hp]at ht;cases hb:Nat.beq s t with
   |true=>obtain rfl:=bOV hb;rw[←ht,hs]
   |false=>exact ht
 subst ho;intro a w hh;have kk:∀v,v=Value.bool (bif want then b&&c else b||c)→∀a w,Hl X ((p,v)::σ) μ Ds a w→tM X.r bad P all K Q (iS all ys) a w:=by rintro _ rfl a w h;exact k a w h
 cases b<;>cases want
 ·exact WL.append (hyes rfl a w (hsub _ rfl a w hh)) fun a w h=>kk _ rfl a w (hback _ _ rfl a w h)
 ·exact WL.append (hno rfl a w (hsub _ rfl a w hh)) fun a w h=>kk _ rfl a w (hback _ _ rfl a w h)
 ·exact WL.append (hno rfl a w (hsub _ rfl a w hh)) fun a w h=>kk _ rfl a w (hback _ _ rfl a w h)
 ·exact WL.append (hyes rfl a w (hsub _ rfl a w hh)) fun a w h=>kk _ rfl a w (hback _ _ rfl a w h)
theorem bX(k:Nat){s p:Nat}{b c:Bool}(hs:look σ s=some (.bool b))
 (hyes:b=true→WL P X bad all (fun a w=>Hl X ((p,.bool c)::(s,.bool true)::σ) μ Ds a w) Q (os.take k) ((s,.bool true)::σ) μ Ds)
 (hno:b=false→WL P X bad all (fun a w=>Hl X ((p,.bool false)::(s,.bool false)::σ) μ Ds a w) Q (os.take k) ((s,.bool false)::σ) μ Ds)
 (kk:WL P X bad all K Q (os.drop k) ((p,.bool (b&&c))::σ) μ Ds):WL P X bad all K Q os σ μ Ds:=LU (os.take k) (os.drop k) (want:=true) (bPJ k os).symm hs hyes hno kk
theorem dL(k:Nat){s p:Nat}{b c:Bool}(hs:look σ s=some (.bool b))
 (hyes:b=false→WL P X bad all (fun a w=>Hl X ((p,.bool c)::(s,.bool false)::σ) μ Ds a w) Q (os.take k) ((s,.bool false)::σ) μ Ds)
 (hno:b=true→WL P X bad all (fun a w=>Hl X ((p,.bool true)::(s,.bool true)::σ) μ Ds a w) Q (os.take k) ((s,.bool true)::σ) μ Ds)
 (kk:WL P X bad all K Q (os.drop k) ((p,.bool (b||c))::σ) μ Ds):WL P X bad all K Q os σ μ Ds:=LU (os.take k) (os.drop k) (want:=false) (bPJ k os).symm hs hyes hno kk
theorem R8{fls:List Bool}{O k2:Act→Δ→Prop}(hk:∀a w,O a w→k2 a w):∀(pl:iR) (a:Act) (w:Δ),C4 X.r bad P all fls Q O pl a w→C4 X.r bad P all fls Q k2 pl a w
 |.fin c,a,w,h=>by
  have:=rS (X:=X) (K':=O) _ [] a w h fun a w h=>hk a w h;rw[bNN]at this;exact this
 |.fork d p A q B,a,w,h=>by
  have one:∀(xs:List (Bool×Oper)) (I K2:Act→Δ→Prop) (a:Act) (w:Δ),tM X.r bad P all I Q xs a w→(∀a w,I a w→K2 a w)→tM X.r bad P all K2 Q xs a w:=fun xs I K2 a w h hh=>by
   have:=rS (X:=X) (K':=I) xs [] a w h fun a w h=>hh a w h;rw[bNN]at this;exact this
  exact one _ _ _ a w h fun a w hh=>⟨one _ _ _ a w hh.1 (R8 hk A),one _ _ _ a w hh.2 (R8 hk B)⟩
 |.forkN d p ps A,a,w,h=>by
  have one:∀(xs:List (Bool×Oper)) (I K2:Act→Δ→Prop) (a:Act) (w:Δ),tM X.r bad P all I Q xs a w→(∀a w,I a w→K2 a w)→tM X.r bad P all K2 Q xs a w:=fun xs I K2 a w h hh=>by
   have:=rS (X:=X) (K':=I) xs [] a w h fun a w h=>hh a w h;rw[bNN]at this;exact this
  exact one _ _ _ a w h fun a w hh i hi=>one _ _ _ a w (hh i hi) (R8 hk (A i))
theorem BP{fls:List Bool}{K':Act→Δ→Prop}:∀(xs ys:List iR) (a:Act) (w:Δ),NX X.r bad P all fls Q K' xs a w→(∀a w,K' a w→NX X.r bad P all fls Q K ys a w)→NX X.r bad P all fls Q K (xs++ys) a w
 | [],_,a,w,h,hk=>hk a w h
 |x::xs,ys,a,w,h,hk=>R8 (fun a w h=>BP xs ys a w h hk) x a w h
theorem HU{fls:List Bool}{γ:Type}(I:γ→Prop)(S:γ→bU)(M:γ→aD)(E:γ→List aC)(xs ys:List iR){segs:List iR}(ho:segs=xs++ys)(h1:WS P X bad all fls (fun a w=>∃g,I g∧Hl X (S g) (M g) (E g) a w) Q xs σ μ Ds)
  (h2:∀g,I g→WS P X bad all fls K Q ys (S g) (M g) (E g)):WS P X bad all fls K Q segs σ μ Ds:=by
 subst ho;intro a w hh;exact BP xs ys a w (h1 a w hh) fun a w ⟨g,hg,h⟩=>h2 g hg a w h
def K9:Nat→bU→Bool
 |0,_=>true
 |_,[]=>true
 |n+1,(k,_)::r=>(match look (r.drop n) k with|none=>true|some _=>false)&&K9 n r
theorem R6:∀(n:Nat) (σ:bU),K9 n σ=true→∀s v,look (σ.drop n) s=some v→look σ s=some v
 |0,σ,_,s,v,h=>h
 |n+1,[],_,s,v,h=>h
 |n+1,(k,u)::r,hd,s,v,h=>by
  simp only[K9,bMS]at hd;simp only[bRY]at h;have h2:=R6 n r hd.2 s v h;simp only[look];cases hb:Nat.beq k s with
  |false=>exact h2
  |true=>
   obtain rfl:=bOV hb;have:=hd.1;rw[h]at this;cases this
theorem Hl.cutK{p:Nat}{v:Γ}{a:Act}{w:Δ}(n:Nat)(h:Hl X ((p,v)::σ) μ Ds a w)(hd:K9 n σ=true):Hl X ((p,v)::σ.drop n) μ Ds a w:=by
 obtain⟨h1,h2,h3⟩:=h;refine⟨h1,fun s u hs=>h2 s u ?_,h3⟩;simp only[look]at hs ⊢
 cases hb:Nat.beq p s with
 |true=>rw[hb]at hs;exact hs
 |false=>rw[hb]at hs;exact R6 n σ hd s u hs
theorem aN{p:Nat}{v:Γ}(n:Nat)(hd:K9 n σ=true:=by exact rfl):WL P X bad all (fun a w=>Hl X ((p,v)::σ.drop n) μ Ds a w) Q [] ((p,v)::σ) μ Ds:=BC fun _ _ hh=>hh.cutK n hd
theorem aA{z:Code}{id:Nat}{ops:Array Oper}(h:WL P X [] ops (fun a w=>(Exit.then (z.wpIn (FW X.r) 0 P Q) Q) .normal a w) (Exit.then (z.wpIn (FW X.r) 0 P Q) Q) ((List.range ops.size).map fun i=>(false,i)) σ μ Ds):WC P X Q (.seq (.region id ops false) z) σ μ Ds:=aER (aO h)
theorem bZ{y z:Code}{id:Nat}{ops:Array Oper}(h:WL P X [] ops (fun a w=>(Exit.then (y.wpIn (FW X.r) 0 P (Exit.then (z.wpIn (FW X.r) 0 P Q) Q)) (Exit.then (z.wpIn (FW X.r) 0 P Q) Q)) .normal a w) (Exit.then (y.wpIn (FW X.r) 0 P (Exit.then (z.wpIn (FW X.r) 0 P Q) Q)) (Exit.then (z.wpIn (FW X.r) 0 P Q) Q)) ((List.range ops.size).map fun i=>(false,i)) σ μ Ds):WC P X Q (.seq (.seq (.region id ops false) y) z) σ μ Ds:=aER (aA h)
theorem aF{y:Code}{R:Exit→Act→Δ→Prop}(h:WC P X Q y σ μ Ds):WL P X bad all (fun a w=>(Exit.then (y.wpIn (FW X.r) 0 P Q) Q) .normal a w) R [] σ μ Ds:=BC (XA h)
theorem bO{x y:Code}{R:Exit→Act→Δ→Prop}(h:WC P X (Exit.then (y.wpIn (FW X.r) 0 P Q) Q) x σ μ Ds):WL P X bad all (fun a w=>(Exit.then ((Code.seq x y).wpIn (FW X.r) 0 P Q) Q) .normal a w) R [] σ μ Ds:=aF (aER h)
theorem aJ{z:Code}{id:Nat}{ops:Array Oper}{R:Exit→Act→Δ→Prop}(h:WL P X [] ops (fun a w=>(Exit.then (z.wpIn (FW X.r) 0 P Q) Q) .normal a w) (Exit.then (z.wpIn (FW X.r) 0 P Q) Q) ((List.range ops.size).map fun i=>(false,i)) σ μ Ds):WL P X bad all (fun a w=>(Exit.then ((Code.seq (.region id ops false) z).wpIn (FW X.r) 0 P Q) Q) .normal a w) R [] σ μ Ds:=aF (aA h)
theorem bC{y z:Code}{id:Nat}{ops:Array Oper}{R:Exit→Act→Δ→Prop}(h:WL P X [] ops (fun a w=>(Exit.then (y.wpIn (FW X.r) 0 P (Exit.then (z.wpIn (FW X.r) 0 P Q) Q)) (Exit.then (z.wpIn (FW X.r) 0 P Q) Q)) .normal a w) (Exit.then (y.wpIn (FW X.r) 0 P (Exit.then (z.wpIn (FW X.r) 0 P Q) Q)) (Exit.then (z.wpIn (FW X.r) 0 P Q) Q)) ((List.range ops.size).map fun i=>(false,i)) σ μ Ds):WL P X bad all (fun a w=>(Exit.then ((Code.seq (.seq (.region id ops false) y) z).wpIn (FW X.r) 0 P Q) Q) .normal a w) R [] σ μ Ds:=aF (bZ h)
theorem aG{R:Exit→Act→Δ→Prop}(h:∀a w,Hl X σ μ Ds a w→Q .ret a w):WL P X bad all (fun a w=>(Exit.then (Code.ret.wpIn (FW X.r) 0 P Q) Q) .normal a w) R [] σ μ Ds:=aF (HQ h)
theorem aQ{y:Code}(h:WC P X Q y σ μ Ds):WC P X (Exit.then (y.wpIn (FW X.r) 0 P Q) Q) .skip σ μ Ds:=bG (XA h)

theorem aKE{k:Act→Δ→Prop}(h:∀a w,Hl X σ μ Ds a w→Q .ret a w):∀a w,Hl X σ μ Ds a w→Exit.then k Q .ret a w:=h
theorem _root_.Go.Fs.Za0{k:Act→Δ→Prop}(h:∀a w,Hl X σ μ Ds a w→Q .ret a w):∀a w,Hl X σ μ Ds a w→Exit.then k Q .ret a w:=aKE h
theorem WZ{k:Act→Δ→Prop}{id:Nat}(h:∀a w,Hl X σ μ Ds a w→Q (.exit id) a w):∀a w,Hl X σ μ Ds a w→Exit.then k Q (.exit id) a w:=h
theorem _root_.Go.Fs.Za2{k:Act→Δ→Prop}{id:Nat}(h:∀a w,Hl X σ μ Ds a w→Q (.exit id) a w):∀a w,Hl X σ μ Ds a w→Exit.then k Q (.exit id) a w:=WZ h
theorem XZ{id:Nat}(h:∀a w,Hl X σ μ Ds a w→Q .ret a w):∀a w,Hl X σ μ Ds a w→Exit.inBlock id Q .ret a w:=h
theorem _root_.Go.Fs.Za5{id:Nat}(h:∀a w,Hl X σ μ Ds a w→Q .ret a w):∀a w,Hl X σ μ Ds a w→Exit.inBlock id Q .ret a w:=XZ h
theorem ZW{id:Nat}(h:∀a w,Hl X σ μ Ds a w→Q .normal a w):∀a w,Hl X σ μ Ds a w→Exit.inBlock id Q .normal a w:=h
theorem _root_.Go.Fs.Za4{id:Nat}(h:∀a w,Hl X σ μ Ds a w→Q .normal a w):∀a w,Hl X σ μ Ds a w→Exit.inBlock id Q .normal a w:=ZW h
theorem ST{id:Nat}(h:∀a w,Hl X σ μ Ds a w→Q .normal a w):∀a w,Hl X σ μ Ds a w→Exit.inBlock id Q (.exit id) a w:=fun a w hh=>NU (h a w hh)
theorem _root_.Go.Fs.Za7{id:Nat}(h:∀a w,Hl X σ μ Ds a w→Q .normal a w):∀a w,Hl X σ μ Ds a w→Exit.inBlock id Q (.exit id) a w:=ST h
theorem sR{id id':Nat}(hne:Nat.beq id' id=false)(h:∀a w,Hl X σ μ Ds a w→Q (.exit id') a w):∀a w,Hl X σ μ Ds a w→Exit.inBlock id Q (.exit id') a w:=fun a w hh=>IN hne (h a w hh)
theorem gT{γ:Type}{c:Code}(m:γ→Nat)(I:γ→Prop)(ch:γ→bU)(rest:bU)(M:γ→aD)(E:γ→List aC)(g₀:γ)(h₀:I g₀)(hch:EV σ (ch g₀))(hrest:EV σ rest)(hμ:(M g₀).Sublist μ)(hD:∀D∈E g₀,∃D'∈Ds,Le D D')
  (round:∀g,I g→WC P X (Exit.then (fun a w=>∃g',I g'∧m g'<m g∧Hl X (ch g'++rest) (M g') (E g') a w) Q) c (ch g++rest) (M g) (E g)):WC P X Q (.loop c) σ μ Ds:=
 bIB m I (fun g=>ch g++rest) M E g₀ h₀ (EV.app hch hrest) hμ hD round
theorem _root_.Go.Fs.Zc(γ:Type){c:Code}(m:γ→Nat)(I:γ→Prop)(ch:γ→bU)(rest:bU)(M:γ→aD)(E:γ→List aC)(g₀:γ)(h₀:I g₀)(hch:EV σ (ch g₀))(hμ:(M g₀).Sublist μ)(round:∀g,I g→WC P X (Exit.then (fun a w=>∃g',I g'∧m g'<m g∧Hl X (ch g'++rest) (M g') (E g') a w) Q) c (ch g++rest) (M g) (E g))(hrest:EV σ rest:=by exact cF)(hD:∀D∈E g₀,∃D'∈Ds,Le D D':=by exact(aK)):WC P X Q (.loop c) σ μ Ds:=gT (γ:=γ) m I ch rest M E g₀ h₀ hch hrest hμ hD round
theorem bM{γ:Type}{c:Code}(m:γ→Nat)(I:γ→Prop)(ch:γ→bU)(rest:bU)(E:γ→List aC)(g₀:γ)(h₀:I g₀)(hch:EV σ (ch g₀))(hrest:EV σ rest)(hD:∀D∈E g₀,∃D'∈Ds,Le D D')
  (round:∀g,I g→WC P X (Exit.then (fun a w=>∃g',I g'∧m g'<m g∧Hl X (ch g'++rest) ((fun _=>μ) g') (E g') a w) Q) c (ch g++rest) μ (E g)):WC P X Q (.loop c) σ μ Ds:=
 gT m I ch rest (fun _=>μ) E g₀ h₀ hch hrest Mm5 hD round
theorem aL{γ:Type}{m:γ→Nat}{I:γ→Prop}{ch:γ→bU}{rest:bU}{M:γ→aD}{E:γ→List aC}{g:γ}(n:Nat)(g':γ)(h1:I g')(h2:m g'<m g)(hch:EV σ (ch g'))(hn:K9 n σ=true)(hr:σ.drop n=rest)(hμ:(M g').Sublist μ)(hD:∀D∈E g',∃D'∈Ds,Le D D'):
  ∀a w,Hl X σ μ Ds a w→Exit.then (fun a w=>∃g',I g'∧m g'<m g∧Hl X (ch g'++rest) (M g') (E g') a w) Q .normal a w:=by
 intro a w hh;refine⟨g',h1,h2,?_⟩;have h3:=hh.weak (σ':=ch g') hch hμ hD;refine⟨h3.1,fun s v hs=>?_,h3.2.2⟩;rcases BY hs with hs|hs
 ·exact h3.2.1 s v hs
 ·subst hr;exact hh.2.1 s v (R6 n σ hn s v hs)
theorem _root_.Go.Fs.Zn{γ:Type}{m:γ→Nat}{I:γ→Prop}{ch:γ→bU}{rest:bU}{M:γ→aD}{E:γ→List aC}{g:γ}(n:Nat)(g':γ)(hch:EV σ (ch g'))(e9:(K9 n σ,σ.drop n)=(true,rest))(hμ:(M g').Sublist μ)(h1:I g':=by exact Yd)(h2:m g'<m g:=by exact Yd)(hD:∀D∈E g',∃D'∈Ds,Le D D':=by exact(aK)):∀a w,Hl X σ μ Ds a w→Exit.then (fun a w=>∃g',I g'∧m g'<m g∧Hl X (ch g'++rest) (M g') (E g') a w) Q .normal a w:=aL n g' h1 h2 hch (bNB (fun z=>z.1) e9) (bNB (fun z=>z.2) e9) hμ hD
theorem aK{Ds:List aC}:∀D∈Ds,∃D'∈Ds,Le D D':=fun D h=>⟨D,h,Le.refl D⟩
section ops
variable{d:Nat}{x y z:Operand}{u v:Γ}{ty:Θ}{pos:String}{aft:Array Edge}{g:Option (Nat×Bool)}
theorem aPZ(ho:all[ix]?= some ⟨some d,.move x,ty,pos,aft,g⟩)(hx:ev σ x=some v)(hN:Nat.blt d X.N=true)(hg:cQ all σ g)(k:WL P X bad all K Q os ((d,v)::σ) μ Ds):WL P X bad all K Q ((fl,ix)::os) σ μ Ds:=
 bW ho rfl rfl hN hg (fun ρ hρ w'=>by simp[execOp,hρ x v hx,Pure.pure]) k
theorem _root_.Go.Fs.Za(e9:(all[ix]?,ev σ x)=(some ⟨some d,.move x,ty,pos,aft,g⟩,some v))(k:WL P X bad all K Q os ((d,v)::σ) μ Ds)(hN:Nat.blt d X.N=true:=by exact rfl)(hg:cQ all σ g:=by exact bSM):WL P X bad all K Q ((fl,ix)::os) σ μ Ds:=aPZ (bNB (fun z=>z.1) e9) (bNB (fun z=>z.2) e9) hN hg k
theorem _root_.Go.Fs.Zb(e9:(all[ix]?,ev σ x)=(some ⟨some d,.move x,ty,pos,aft,g⟩,some v))(k:WL P X bad all K Q os ((d,v)::σ) μ Ds)(hN:Nat.blt d X.N=true:=by exact rfl)(hg:cQ all σ g:=by exact⟨_,rfl,rfl⟩):WL P X bad all K Q ((fl,ix)::os) σ μ Ds:=aPZ (bNB (fun z=>z.1) e9) (bNB (fun z=>z.2) e9) hN hg k
theorem aRB(ho:all[ix]?= some ⟨some d,.assign x,ty,pos,aft,g⟩)(hx:ev σ x=some v)(hN:Nat.blt d X.N=true)(hg:cQ all σ g)(k:WL P X bad all K Q os ((d,v)::σ) μ Ds):WL P X bad all K Q ((fl,ix)::os) σ μ Ds:=
 bW ho rfl rfl hN hg (fun ρ hρ w'=>by simp[execOp,hρ x v hx,Pure.pure]) k
theorem _root_.Go.Fs.Zf(e9:(all[ix]?,ev σ x)=(some ⟨some d,.assign x,ty,pos,aft,g⟩,some v))(k:WL P X bad all K Q os ((d,v)::σ) μ Ds)(hN:Nat.blt d X.N=true:=by exact rfl)(hg:cQ all σ g:=by exact bSM):WL P X bad all K Q ((fl,ix)::os) σ μ Ds:=aRB (bNB (fun z=>z.1) e9) (bNB (fun z=>z.2) e9) hN hg k
theorem oY(ho:all[ix]?= some ⟨some d,.pick x y z,ty,pos,aft,g⟩)(hx:ev σ x=some (.bool true))(hy:ev σ y=some v)(hN:Nat.blt d X.N=true)(hg:cQ all σ g)(k:WL P X bad all K Q os ((d,v)::σ) μ Ds):WL P X bad all K Q ((fl,ix)::os) σ μ Ds:=
 bW ho rfl rfl hN hg (fun ρ hρ w'=>by simp[execOp,hρ x _ hx,hρ y _ hy,asBool,go_sem]) k
theorem _root_.Go.Fs.Zak(e9:(all[ix]?,ev σ x,ev σ y)=(some ⟨some d,.pick x y z,ty,pos,aft,g⟩,some (.bool true),some v))(k:WL P X bad all K Q os ((d,v)::σ) μ Ds)(hN:Nat.blt d X.N=true:=by exact rfl)(hg:cQ all σ g:=by exact bSM):WL P X bad all K Q ((fl,ix)::os) σ μ Ds:=oY (bNB (fun z=>z.1) e9) (bNB (fun z=>z.2.1) e9) (bNB (fun z=>z.2.2) e9) hN hg k
theorem oT(ho:all[ix]?= some ⟨some d,.pick x y z,ty,pos,aft,g⟩)(hx:ev σ x=some (.bool false))(hy:ev σ z=some v)(hN:Nat.blt d X.N=true)(hg:cQ all σ g)(k:WL P X bad all K Q os ((d,v)::σ) μ Ds):WL P X bad all K Q ((fl,ix)::os) σ μ Ds:=
 bW ho rfl rfl hN hg (fun ρ hρ w'=>by simp[execOp,hρ x _ hx,hρ z _ hy,asBool,go_sem]) k
theorem _root_.Go.Fs.Zal(e9:(all[ix]?,ev σ x,ev σ z)=(some ⟨some d,.pick x y z,ty,pos,aft,g⟩,some (.bool false),some v))(k:WL P X bad all K Q os ((d,v)::σ) μ Ds)(hN:Nat.blt d X.N=true:=by exact rfl)(hg:cQ all σ g:=by exact bSM):WL P X bad all K Q ((fl,ix)::os) σ μ Ds:=oT (bNB (fun z=>z.1) e9) (bNB (fun z=>z.2.1) e9) (bNB (fun z=>z.2.2) e9) hN hg k
theorem bFG{b:Bool}{t:Θ}(ho:all[ix]?= some ⟨some d,.unOp .not t x,ty,pos,aft,g⟩)(hx:ev σ x=some (.bool b))(hN:Nat.blt d X.N=true)(hg:cQ all σ g)(k:WL P X bad all K Q os ((d,.bool (!b))::σ) μ Ds):WL P X bad all K Q ((fl,ix)::os) σ μ Ds:=
 bW ho rfl rfl hN hg (fun ρ hρ w'=>by simp[execOp,hρ x _ hx,Op.unary,go_sem]) k
theorem _root_.Go.Fs.Zat{b:Bool}{t:Θ}(e9:(all[ix]?,ev σ x)=(some ⟨some d,.unOp .not t x,ty,pos,aft,g⟩,some (.bool b)))(k:WL P X bad all K Q os ((d,.bool (!b))::σ) μ Ds)(hN:Nat.blt d X.N=true:=by exact rfl)(hg:cQ all σ g:=by exact bSM):WL P X bad all K Q ((fl,ix)::os) σ μ Ds:=bFG (bNB (fun z=>z.1) e9) (bNB (fun z=>z.2) e9) hN hg k
theorem _root_.Go.Fs.Zau{b:Bool}{t:Θ}(e9:(all[ix]?,ev σ x)=(some ⟨some d,.unOp .not t x,ty,pos,aft,g⟩,some (.bool b)))(k:WL P X bad all K Q os ((d,.bool (!b))::σ) μ Ds)(hN:Nat.blt d X.N=true:=by exact rfl)(hg:cQ all σ g:=by exact⟨_,rfl,rfl⟩):WL P X bad all K Q ((fl,ix)::os) σ μ Ds:=bFG (bNB (fun z=>z.1) e9) (bNB (fun z=>z.2) e9) hN hg k
end ops
variable{d:Nat}{x y z:Operand}{u v:Γ}{ty:Θ}{pos:String}{aft:Array Edge}{g:Option (Nat×Bool)}

def wD:IntKind→Int→Prop
 |.i8,n=> -128≤n∧n≤127
 |.i16,n=> -32768≤n∧n≤32767
 |.i32,n=> -2147483648≤n∧n≤2147483647
 |.i64,n=> -9223372036854775808≤n∧n≤9223372036854775807
 |.u8,n=>0≤n∧n≤255
 |.u16,n=>0≤n∧n≤65535
 |.u32,n=>0≤n∧n≤4294967295
 |.u64,n=>0≤n∧n≤18446744073709551615
theorem sE{k:IntKind}{n:Int}(h:wD k n):k.wrap n=n:=by
 cases k<;>simp only[wD]at h<;>simp only[IntKind.wrap,IntKind.bits,IntKind.signed,bQZ,Bool.false_and,bOS,bPL,GT,ge_iff_le]<;>
  (first|(split<;>omega)|omega)
section nums
variable{k:IntKind}{m n:Int}{t t':Θ}
theorem mL{op:BinOp}{w:Δ}{r:Γ}(he:op≠.shl∧op≠.shr)(h:(binOp op t (.int k m) (.int k n)).run P w=.ok r w){ρ:Operand→Γ}(hx:ρ x=.int k m)(hy:ρ y=.int k n):
  (execOp ρ ⟨some d,.binOp op t x y t',ty,pos,aft,g⟩).run P w=.ok (.value r) w:=by
 have hg:∀w,(eqGuard op t x y (.int k m) (.int k n)).run P w=.ok () w:=by
  intro w;unfold eqGuard;split<;>rfl
 simp[execOp,hx,hy,h,go_sem]
theorem oC(ho:all[ix]?= some ⟨some d,.binOp .add t x y t',ty,pos,aft,g⟩)(hx:ev σ x=some (.int k m))(hy:ev σ y=some (.int k n))(hr:wD k (m+n))(hN:Nat.blt d X.N=true)(hg:cQ all σ g)(kk:WL P X bad all K Q os ((d,.int k (m+n))::σ) μ Ds):
  WL P X bad all K Q ((fl,ix)::os) σ μ Ds:=
 bW ho rfl rfl hN hg (fun ρ hρ w'=>mL Yf Ybg (hρ x _ hx) (hρ y _ hy)) kk
theorem _root_.Go.Fs.Zad(e9:(all[ix]?,ev σ x,ev σ y)=(some ⟨some d,.binOp .add t x y t',ty,pos,aft,g⟩,some (.int k m),some (.int k n)))(kk:WL P X bad all K Q os ((d,.int k (m+n))::σ) μ Ds)(hr:wD k (m+n):=by exact Ye)(hN:Nat.blt d X.N=true:=by exact rfl)(hg:cQ all σ g:=by exact bSM):WL P X bad all K Q ((fl,ix)::os) σ μ Ds:=oC (bNB (fun z=>z.1) e9) (bNB (fun z=>z.2.1) e9) (bNB (fun z=>z.2.2) e9) hr hN hg kk
theorem yP(ho:all[ix]?= some ⟨some d,.binOp .sub t x y t',ty,pos,aft,g⟩)(hx:ev σ x=some (.int k m))(hy:ev σ y=some (.int k n))(hr:wD k (m-n))(hN:Nat.blt d X.N=true)(hg:cQ all σ g)(kk:WL P X bad all K Q os ((d,.int k (m-n))::σ) μ Ds):
  WL P X bad all K Q ((fl,ix)::os) σ μ Ds:=
 bW ho rfl rfl hN hg (fun ρ hρ w'=>mL Yf Ybg (hρ x _ hx) (hρ y _ hy)) kk
theorem _root_.Go.Fs.Zav(e9:(all[ix]?,ev σ x,ev σ y)=(some ⟨some d,.binOp .sub t x y t',ty,pos,aft,g⟩,some (.int k m),some (.int k n)))(kk:WL P X bad all K Q os ((d,.int k (m-n))::σ) μ Ds)(hr:wD k (m-n):=by exact Ye)(hN:Nat.blt d X.N=true:=by exact rfl)(hg:cQ all σ g:=by exact bSM):WL P X bad all K Q ((fl,ix)::os) σ μ Ds:=yP (bNB (fun z=>z.1) e9) (bNB (fun z=>z.2.1) e9) (bNB (fun z=>z.2.2) e9) hr hN hg kk
theorem F9(ho:all[ix]?= some ⟨some d,.binOp .mul t x y t',ty,pos,aft,g⟩)(hx:ev σ x=some (.int k m))(hy:ev σ y=some (.int k n))(hr:wD k (m*n))(hN:Nat.blt d X.N=true)(hg:cQ all σ g)(kk:WL P X bad all K Q os ((d,.int k (m*n))::σ) μ Ds):
  WL P X bad all K Q ((fl,ix)::os) σ μ Ds:=
 bW ho rfl rfl hN hg (fun ρ hρ w'=>mL Yf Ybg (hρ x _ hx) (hρ y _ hy)) kk
theorem GV(ho:all[ix]?= some ⟨some d,.binOp .lss t x y t',ty,pos,aft,g⟩)(hx:ev σ x=some (.int k m))(hy:ev σ y=some (.int k n))(hN:Nat.blt d X.N=true)(hg:cQ all σ g)(kk:WL P X bad all K Q os ((d,.bool (decide (m<n)))::σ) μ Ds):
  WL P X bad all K Q ((fl,ix)::os) σ μ Ds:=
 bW ho rfl rfl hN hg (fun ρ hρ w'=>mL Yf Ybc (hρ x _ hx) (hρ y _ hy)) kk
theorem _root_.Go.Fs.Zan(e9:(all[ix]?,ev σ x,ev σ y)=(some ⟨some d,.binOp .lss t x y t',ty,pos,aft,g⟩,some (.int k m),some (.int k n)))(kk:WL P X bad all K Q os ((d,.bool (decide (m<n)))::σ) μ Ds)(hN:Nat.blt d X.N=true:=by exact rfl)(hg:cQ all σ g:=by exact bSM):WL P X bad all K Q ((fl,ix)::os) σ μ Ds:=GV (bNB (fun z=>z.1) e9) (bNB (fun z=>z.2.1) e9) (bNB (fun z=>z.2.2) e9) hN hg kk
theorem gJ(ho:all[ix]?= some ⟨some d,.binOp .leq t x y t',ty,pos,aft,g⟩)(hx:ev σ x=some (.int k m))(hy:ev σ y=some (.int k n))(hN:Nat.blt d X.N=true)(hg:cQ all σ g)(kk:WL P X bad all K Q os ((d,.bool (decide (m≤n)))::σ) μ Ds):
  WL P X bad all K Q ((fl,ix)::os) σ μ Ds:=
 bW ho rfl rfl hN hg (fun ρ hρ w'=>mL Yf Ybc (hρ x _ hx) (hρ y _ hy)) kk
theorem bFE(ho:all[ix]?= some ⟨some d,.binOp .gtr t x y t',ty,pos,aft,g⟩)(hx:ev σ x=some (.int k m))(hy:ev σ y=some (.int k n))(hN:Nat.blt d X.N=true)(hg:cQ all σ g)(kk:WL P X bad all K Q os ((d,.bool (decide (n<m)))::σ) μ Ds):
  WL P X bad all K Q ((fl,ix)::os) σ μ Ds:=
 bW ho rfl rfl hN hg (fun ρ hρ w'=>mL Yf Ybc (hρ x _ hx) (hρ y _ hy)) kk
theorem _root_.Go.Fs.Zaq(e9:(all[ix]?,ev σ x,ev σ y)=(some ⟨some d,.binOp .gtr t x y t',ty,pos,aft,g⟩,some (.int k m),some (.int k n)))(kk:WL P X bad all K Q os ((d,.bool (decide (n<m)))::σ) μ Ds)(hN:Nat.blt d X.N=true:=by exact rfl)(hg:cQ all σ g:=by exact bSM):WL P X bad all K Q ((fl,ix)::os) σ μ Ds:=bFE (bNB (fun z=>z.1) e9) (bNB (fun z=>z.2.1) e9) (bNB (fun z=>z.2.2) e9) hN hg kk
theorem _root_.Go.Fs.Zar(e9:(all[ix]?,ev σ x,ev σ y)=(some ⟨some d,.binOp .gtr t x y t',ty,pos,aft,g⟩,some (.int k m),some (.int k n)))(kk:WL P X bad all K Q os ((d,.bool (decide (n<m)))::σ) μ Ds)(hN:Nat.blt d X.N=true:=by exact rfl)(hg:cQ all σ g:=by exact⟨_,rfl,rfl⟩):WL P X bad all K Q ((fl,ix)::os) σ μ Ds:=bFE (bNB (fun z=>z.1) e9) (bNB (fun z=>z.2.1) e9) (bNB (fun z=>z.2.2) e9) hN hg kk
theorem lH(ho:all[ix]?= some ⟨some d,.binOp .geq t x y t',ty,pos,aft,g⟩)(hx:ev σ x=some (.int k m))(hy:ev σ y=some (.int k n))(hN:Nat.blt d X.N=true)(hg:cQ all σ g)(kk:WL P X bad all K Q os ((d,.bool (decide (n≤m)))::σ) μ Ds):
  WL P X bad all K Q ((fl,ix)::os) σ μ Ds:=
 bW ho rfl rfl hN hg (fun ρ hρ w'=>mL Yf Ybc (hρ x _ hx) (hρ y _ hy)) kk
theorem pZ(ho:all[ix]?= some ⟨some d,.binOp .eql t x y t',ty,pos,aft,g⟩)(hx:ev σ x=some (.int k m))(hy:ev σ y=some (.int k n))(hN:Nat.blt d X.N=true)(hg:cQ all σ g)(kk:WL P X bad all K Q os ((d,.bool (decide (m=n)))::σ) μ Ds):
  WL P X bad all K Q ((fl,ix)::os) σ μ Ds:=
 bW ho rfl rfl hN hg (fun ρ hρ w'=>mL Yf Xda (hρ x _ hx) (hρ y _ hy)) kk
theorem _root_.Go.Fs.Zas(e9:(all[ix]?,ev σ x,ev σ y)=(some ⟨some d,.binOp .eql t x y t',ty,pos,aft,g⟩,some (.int k m),some (.int k n)))(kk:WL P X bad all K Q os ((d,.bool (decide (m=n)))::σ) μ Ds)(hN:Nat.blt d X.N=true:=by exact rfl)(hg:cQ all σ g:=by exact bSM):WL P X bad all K Q ((fl,ix)::os) σ μ Ds:=pZ (bNB (fun z=>z.1) e9) (bNB (fun z=>z.2.1) e9) (bNB (fun z=>z.2.2) e9) hN hg kk
theorem LB(ho:all[ix]?= some ⟨some d,.binOp .neq t x y t',ty,pos,aft,g⟩)(hx:ev σ x=some (.int k m))(hy:ev σ y=some (.int k n))(hN:Nat.blt d X.N=true)(hg:cQ all σ g)(kk:WL P X bad all K Q os ((d,.bool (decide (m≠n)))::σ) μ Ds):
  WL P X bad all K Q ((fl,ix)::os) σ μ Ds:=
 bW ho rfl rfl hN hg (fun ρ hρ w'=>mL Yf Xda (hρ x _ hx) (hρ y _ hy)) kk
theorem _root_.Go.Fs.Zax(e9:(all[ix]?,ev σ x,ev σ y)=(some ⟨some d,.binOp .neq t x y t',ty,pos,aft,g⟩,some (.int k m),some (.int k n)))(kk:WL P X bad all K Q os ((d,.bool (decide (m≠n)))::σ) μ Ds)(hN:Nat.blt d X.N=true:=by exact rfl)(hg:cQ all σ g:=by exact bSM):WL P X bad all K Q ((fl,ix)::os) σ μ Ds:=LB (bNB (fun z=>z.1) e9) (bNB (fun z=>z.2.1) e9) (bNB (fun z=>z.2.2) e9) hN hg kk
theorem sQ(ho:all[ix]?= some ⟨some d,.binOp .rem t x y t',ty,pos,aft,g⟩)(hx:ev σ x=some (.int k m))(hy:ev σ y=some (.int k n))(h0:0≤m)(h1:0<n)(hr:wD k (m%n))(hN:Nat.blt d X.N=true)(hg:cQ all σ g)(kk:WL P X bad all K Q os ((d,.int k (m%n))::σ) μ Ds):
  WL P X bad all K Q ((fl,ix)::os) σ μ Ds:=
 bW ho rfl rfl hN hg (fun ρ hρ w'=>mL Yf (by
  have hn:¬n=0:=Yd
  have e:m.tmod n=m%n:=Int.tmod_eq_emod_of_nonneg h0;cases k<;>simp[binOp,Op.intDiv,hn,e,Pure.pure]) (hρ x _ hx) (hρ y _ hy)) kk
theorem j4(ho:all[ix]?= some ⟨some d,.binOp .quo t x y t',ty,pos,aft,g⟩)(hx:ev σ x=some (.int k m))(hy:ev σ y=some (.int k n))(h0:0≤m)(h1:0<n)(hr:wD k (m / n))(hN:Nat.blt d X.N=true)(hg:cQ all σ g)(kk:WL P X bad all K Q os ((d,.int k (m / n))::σ) μ Ds):
  WL P X bad all K Q ((fl,ix)::os) σ μ Ds:=
 bW ho rfl rfl hN hg (fun ρ hρ w'=>mL Yf (by
  have hn:¬n=0:=Yd
  have e:m.tdiv n=m / n:=Int.tdiv_eq_ediv_of_nonneg h0;cases k<;>simp[binOp,Op.intDiv,hn,e,sE hr,Pure.pure]) (hρ x _ hx) (hρ y _ hy)) kk
end nums
theorem bCH{c:Operand}{a b:Code}{p:Prop}[Decidable p](hc:ev σ c=some (.bool (decide p)))(ht:p→WC P X Q a σ μ Ds)(hf:¬p→WC P X Q b σ μ Ds):WC P X Q (.cond c a b) σ μ Ds:=
 ZV hc (fun e=>ht (bNP e)) fun e=>hf (bNO e)
theorem _root_.Go.Fs.Zae{c:Operand}{a:Code}{b:Code}{p:Prop}[Decidable p](hc:ev σ c=some (.bool (decide p)))(ht:p→WC P X Q a σ μ Ds)(hf:¬p→WC P X Q b σ μ Ds):WC P X Q (.cond c a b) σ μ Ds:=bCH hc ht hf

def TA(P:Program)(t:Θ)(b:Bool):Prop:=∀w,(isAgg t).run P w=.ok b w
def TS(P:Program)(t:Θ)(n:Nat):Prop:=∀w,(sizeOf t).run P w=.ok n w
def TU(P:Program)(t:Θ)(u:TypeDesc):Prop:=∀w,(underlying t).run P w=.ok u w
def TZ(P:Program)(t:Θ)(v:Γ):Prop:=∀w,(zeroValue t).run P w=.ok v w
theorem TU.of{t:Θ}{u:TypeDesc}(h:P.underlying t=some u):TU P t u:=fun w=>by simp[underlying,program,Sem.run,h,go_sem]
theorem TA.of{t:Θ}{u:TypeDesc}(h:P.underlying t=some u)(b:Bool)(hb:(match u with|.struct _=>true|.array _ _=>true|_=>false)=b):TA P t b:=fun w=>by
 have:=TU.of h w;unfold isAgg;rw[Ω,this];subst hb;cases u<;>rfl
theorem TS.of{t:Θ}{n:Nat}(h:(P.info? t).map (·.size)=some n):TS P t n:=fun w=>by
 cases hi:P.info? t with
 |none=>simp[hi]at h
 |some i=>simp[hi]at h;simp[sizeOf,typeInfo,program,Sem.run,hi,h,go_sem]
theorem TZ.of{t:Θ}{v:Γ}(h:(P.info? t).bind (·.zero)=some v):TZ P t v:=fun w=>by
 cases hi:P.info? t with
 |none=>simp[hi]at h
 |some i=>simp[hi]at h;simp[zeroValue,typeInfo,program,Sem.run,hi,h,go_sem]

theorem sL{w:Δ}{b off:Nat}{cs:Array Γ}{e:Θ}{fz:Nat×Nat}{v:Γ}(h:w.heap[b]?= some (.cells cs e fz))(hv:cs[off]?= some v):w.cell? ⟨b,off,none⟩=some v:=by
 simp[World.cell?,h,hv]
theorem SU{w:Δ}{a:Addr}{v:Γ}(h:w.cell? a=some v):(load a).run P w=.ok v w:=by
 simp[load,Sem.run,h]
theorem wP{w:Δ}{b off:Nat}:∀(n i:Nat) (acc:Array Γ) (vs:List Γ),vs.length=n→(∀j v,vs[j]?= some v→w.cell? ⟨b,off+(i+j),none⟩=some v)→
  (loadCellsFrom ⟨b,off,none⟩ i n acc).run P w=.ok (acc++vs.toArray) w:=by
 intro n;induction n with
 |zero=>intro i acc vs hl _;have:vs=[]:=bQC.1 hl;subst this;simp[loadCellsFrom,Pure.pure]
 |succ n ih=>
  intro i acc vs hl h;cases vs with
  |nil=>simp at hl
  |cons v vs=>
   have h0:=h 0 v rfl;have ha:(⟨b,off,none⟩:Addr).add i=⟨b,off+i,none⟩:=by
    unfold Addr.add;split
    ·rename_i h;subst h;rfl
    ·rfl
   simp only[loadCellsFrom];rw[Ω,ha,SU (by simpa using h0)];show(loadCellsFrom ⟨b,off,none⟩ (i+1) n (acc.push v)).run P w=_;rw[ih (i+1) (acc.push v) vs Yaz (fun j u hu=>by
    have:=h (j+1) u (by simpa using hu);rw[show off+(i+(j+1))=off+(i+1+j) by omega]at this;exact this)]
   simp
def aSL(w:Δ)(b off:Nat)(vs:List Γ):Prop:=∀j v,vs[j]?= some v→w.cell? ⟨b,off+j,none⟩=some v
theorem nB{w:Δ}{t:Θ}{b off:Nat}{vs:List Γ}(ha:TA P t true)(hs:TS P t vs.length)(h:aSL w b off vs):(Instr.loadAt t (.pointer (some ⟨b,off,none⟩))).run P w=.ok (.agg vs.toArray) w:=by
 unfold Instr.loadAt Instr.sureAddr loadVar loadCells;simp only[Ω,ε,Result.andThen,ha w,hs w,bPG,pure_bind];rw[wP vs.length 0 #[] vs rfl (fun j v hv=>by rw[show off+(0+j)=off+j by omega];exact h j v hv)]
 simp
theorem vU{w:Δ}{t:Θ}{b off:Nat}{v:Γ}(ha:TA P t false)(h:w.cell? ⟨b,off,none⟩=some v):(Instr.loadAt t (.pointer (some ⟨b,off,none⟩))).run P w=.ok v w:=by
 unfold Instr.loadAt Instr.sureAddr loadVar;simp only[Ω,Result.andThen,ha w,pure_bind];exact SU h

theorem bJ{w:Δ}{b:Nat}{o:Obj}(h:w.heap[b]?= some o):b<w.heap.size:=(bPZ.1 h).1
theorem Hl.boxAt{a:Act}{w w':Δ}(h:Hl X σ μ Ds a w){b:Nat}{o:Obj}(hm:(b,o)∈μ)(hb:b∉bad)(hk:pX bad w w'):w'.heap[b]?= some o:=by
 obtain⟨_,_,_,D,hs,_⟩:=h;have:=(hs.box _ hm).1;rw[hk.2 b (bJ this) hb];exact this
theorem fA.cell{D:aC}{w:Δ}(h:fA D w){b i:Nat}{v:Γ}(hv:(D b)[i]?= some v):w.cell? ⟨b,i,none⟩=some v:=by
 have hne:D b≠[]:=fun e=>by rw[e]at hv;simp at hv
 obtain⟨cs,e,fz,hc,hp⟩:=h.1 b hne;obtain⟨t,ht⟩:=hp;refine sL hc ?_;have hl:=(bMW.1 hv).1;have:cs.toList[i]?= some v:=by rw[←ht,bPH hl];exact hv
 simpa using this
theorem Hl.dataAt{a:Act}{w w':Δ}(h:Hl X σ μ Ds a w){D₁:aC}(hD:D₁∈Ds){b i:Nat}{v:Γ}(hv:(D₁ b)[i]?= some v)(hb:b∉bad)(hk:pX bad w w'):
  w'.cell? ⟨b,i,none⟩=some v:=by
 obtain⟨_,_,_,D,hs,hl,_⟩:=h;have hc:=hs.agr.cell ((hl D₁ hD).get hv);unfold World.cell? at hc ⊢
 cases hw:w.heap[b]? with
 |none=>simp[hw]at hc
 |some o=>rw[show(⟨b,i,none⟩:Addr).block=b from rfl,hk.2 b (bJ hw) hb];exact hc
def At(D:aC)(b o:Nat)(cs:List Γ):Prop:=∀j v,cs[j]?= some v→(D b)[o+j]?= some v
theorem At.up{D D':aC}{b o:Nat}{cs:List Γ}(h:At D b o cs)(hl:Le D D'):At D' b o cs:=fun j v hv=>hl.get (h j v hv)
theorem Hl.liesD{a:Act}{w w':Δ}(h:Hl X σ μ Ds a w){D₁:aC}(hD:D₁∈Ds){b o:Nat}{cs:List Γ}(hA:At D₁ b o cs)(hb:b∉bad)(hk:pX bad w w'):aSL w' b o cs:=
 fun j v hv=>h.dataAt hD (hA j v hv) hb hk

theorem bD{t:Θ}{b off:Nat}{vs:List Γ}{e:Θ}{fz:Nat×Nat}(ho:all[ix]?= some ⟨some d,.load t x,ty,pos,aft,g⟩)(ha:TA P t false)(hx:ev σ x=some (.pointer (some ⟨b,off,none⟩)))(hm:(b,.cells vs.toArray e fz)∈μ)(hv:vs[off]?= some v)(hb:b∉bad)
  (hN:Nat.blt d X.N=true) (hg:cQ all σ g) (kk:WL P X bad all K Q os ((d,v)::σ) μ Ds):WL P X bad all K Q ((fl,ix)::os) σ μ Ds:=
 pA ho rfl rfl hN hg (fun a w hh w' hk=>by
  simp only[execOp,hh.eval hx];rw[Ω,vU ha (sL (hh.boxAt hm hb hk) (by simpa using hv))];rfl) kk
theorem _root_.Go.Fs.Zp{t:Θ}{b:Nat}{off:Nat}{vs:List Γ}{e:Θ}{fz:Nat×Nat}(ho:all[ix]?= some ⟨some d,.load t x,ty,pos,aft,g⟩)(ha:TA P t false)(hx:ev σ x=some (.pointer (some ⟨b,off,none⟩)))(hm:(b,.cells vs.toArray e fz)∈μ)(hv:vs[off]?= some v)(kk:WL P X bad all K Q os ((d,v)::σ) μ Ds)(hb:b∉bad:=by exact n4)(hN:Nat.blt d X.N=true:=by exact rfl)(hg:cQ all σ g:=by exact bSM):WL P X bad all K Q ((fl,ix)::os) σ μ Ds:=bD ho ha hx hm hv hb hN hg kk
theorem _root_.Go.Fs.Zq{t:Θ}{b:Nat}{off:Nat}{vs:List Γ}{e:Θ}{fz:Nat×Nat}(ho:all[ix]?= some ⟨some d,.load t x,ty,pos,aft,g⟩)(ha:TA P t false)(hx:ev σ x=some (.pointer (some ⟨b,off,none⟩)))(hm:(b,.cells vs.toArray e fz)∈μ)(hv:vs[off]?= some v)(kk:WL P X bad all K Q os ((d,v)::σ) μ Ds)(hb:b∉bad:=by exact n4)(hN:Nat.blt d X.N=true:=by exact rfl)(hg:cQ all σ g:=by exact⟨_,rfl,rfl⟩):WL P X bad all K Q ((fl,ix)::os) σ μ Ds:=bD ho ha hx hm hv hb hN hg kk
theorem bL{t:Θ}{b:Nat}{vs:List Γ}{e:Θ}{fz:Nat×Nat}(ho:all[ix]?= some ⟨some d,.load t x,ty,pos,aft,g⟩)(ha:TA P t true)(hx:ev σ x=some (qP b))(hm:(b,.cells vs.toArray e fz)∈μ)(hs:TS P t vs.length)(hb:b∉bad)
  (hN:Nat.blt d X.N=true) (hg:cQ all σ g) (kk:WL P X bad all K Q os ((d,.agg vs.toArray)::σ) μ Ds):WL P X bad all K Q ((fl,ix)::os) σ μ Ds:=
 pA ho rfl rfl hN hg (fun a w hh w' hk=>by
  simp only[execOp,hh.eval hx];rw[Ω,nB ha hs (fun j v hv=>sL (hh.boxAt hm hb hk) (by simpa using hv))];rfl) kk
theorem _root_.Go.Fs.Zag{t:Θ}{b:Nat}{vs:List Γ}{e:Θ}{fz:Nat×Nat}(ho:all[ix]?= some ⟨some d,.load t x,ty,pos,aft,g⟩)(ha:TA P t true)(hx:ev σ x=some (qP b))(hm:(b,.cells vs.toArray e fz)∈μ)(hs:TS P t vs.length)(kk:WL P X bad all K Q os ((d,.agg vs.toArray)::σ) μ Ds)(hb:b∉bad:=by exact n4)(hN:Nat.blt d X.N=true:=by exact rfl)(hg:cQ all σ g:=by exact bSM):WL P X bad all K Q ((fl,ix)::os) σ μ Ds:=bL ho ha hx hm hs hb hN hg kk
theorem eN{t:Θ}{b off n:Nat}{vs us:List Γ}{e:Θ}{fz:Nat×Nat}(ho:all[ix]?= some ⟨some d,.load t x,ty,pos,aft,g⟩)(ha:TA P t true)(hs:TS P t n)(hx:ev σ x=some (.pointer (some ⟨b,off,none⟩)))(hm:(b,.cells vs.toArray e fz)∈μ)
  (hu:(vs.drop off).take n=us) (hl:us.length=n) (hb:b∉bad)
  (hN:Nat.blt d X.N=true) (hg:cQ all σ g) (kk:WL P X bad all K Q os ((d,.agg us.toArray)::σ) μ Ds):WL P X bad all K Q ((fl,ix)::os) σ μ Ds:=
 pA ho rfl rfl hN hg (fun a w hh w' hk=>by
  subst hl;simp only[execOp,hh.eval hx];rw[Ω,nB ha hs (fun j v hv=>sL (hh.boxAt hm hb hk) (by
   have hl:=(bMW.1 hv).1;rw[←hu,bPX hl,bPC]at hv;simpa using hv))]
  rfl) kk
theorem dU{t:Θ}{D₁:aC}{b o k:Nat}{cs:List Γ}(ho:all[ix]?= some ⟨some d,.load t x,ty,pos,aft,g⟩)(ha:TA P t false)(hx:ev σ x=some (.pointer (some ⟨b,o+k,none⟩)))(hA:At D₁ b o cs)(hD:D₁∈Ds)(hv:cs[k]?= some v)(hb:b∉bad)
  (hN:Nat.blt d X.N=true) (hg:cQ all σ g) (kk:WL P X bad all K Q os ((d,v)::σ) μ Ds):WL P X bad all K Q ((fl,ix)::os) σ μ Ds:=
 pA ho rfl rfl hN hg (fun a w hh w' hk=>by
  simp only[execOp,hh.eval hx];rw[Ω,vU ha (hh.liesD hD hA hb hk k v hv)];rfl) kk
theorem _root_.Go.Fs.Zh{t:Θ}{D₁:aC}{b:Nat}{o:Nat}(k:Nat){cs:List Γ}(ho:all[ix]?= some ⟨some d,.load t x,ty,pos,aft,g⟩)(ha:TA P t false)(hx:ev σ x=some (.pointer (some ⟨b,o+k,none⟩)))(hA:At D₁ b o cs)(hv:cs[k]?= some v)(kk:WL P X bad all K Q os ((d,v)::σ) μ Ds)(hD:D₁∈Ds:=by exact Yc)(hb:b∉bad:=by exact n4)(hN:Nat.blt d X.N=true:=by exact rfl)(hg:cQ all σ g:=by exact bSM):WL P X bad all K Q ((fl,ix)::os) σ μ Ds:=dU (k:=k) ho ha hx hA hD hv hb hN hg kk
theorem _root_.Go.Fs.Zi{t:Θ}{D₁:aC}{b:Nat}{o:Nat}(k:Nat){cs:List Γ}(ho:all[ix]?= some ⟨some d,.load t x,ty,pos,aft,g⟩)(ha:TA P t false)(hx:ev σ x=some (.pointer (some ⟨b,o+k,none⟩)))(hA:At D₁ b o cs)(hv:cs[k]?= some v)(kk:WL P X bad all K Q os ((d,v)::σ) μ Ds)(hD:D₁∈Ds:=by exact Yc)(hb:b∉bad:=by exact n4)(hN:Nat.blt d X.N=true:=by exact rfl)(hg:cQ all σ g:=by exact⟨_,rfl,rfl⟩):WL P X bad all K Q ((fl,ix)::os) σ μ Ds:=dU (k:=k) ho ha hx hA hD hv hb hN hg kk
theorem cK{t:Θ}{D₁:aC}{b o:Nat}{cs:List Γ}(ho:all[ix]?= some ⟨some d,.load t x,ty,pos,aft,g⟩)(ha:TA P t true)(hx:ev σ x=some (.pointer (some ⟨b,o,none⟩)))(hA:At D₁ b o cs)(hD:D₁∈Ds)(hs:TS P t cs.length)(hb:b∉bad)
  (hN:Nat.blt d X.N=true) (hg:cQ all σ g) (kk:WL P X bad all K Q os ((d,.agg cs.toArray)::σ) μ Ds):WL P X bad all K Q ((fl,ix)::os) σ μ Ds:=
 pA ho rfl rfl hN hg (fun a w hh w' hk=>by
  simp only[execOp,hh.eval hx];rw[Ω,nB ha hs (hh.liesD hD hA hb hk)];rfl) kk
theorem _root_.Go.Fs.Zv{t:Θ}{D₁:aC}{b:Nat}{o:Nat}{cs:List Γ}(ho:all[ix]?= some ⟨some d,.load t x,ty,pos,aft,g⟩)(ha:TA P t true)(hx:ev σ x=some (.pointer (some ⟨b,o,none⟩)))(hA:At D₁ b o cs)(hs:TS P t cs.length)(kk:WL P X bad all K Q os ((d,.agg cs.toArray)::σ) μ Ds)(hD:D₁∈Ds:=by exact Yc)(hb:b∉bad:=by exact n4)(hN:Nat.blt d X.N=true:=by exact rfl)(hg:cQ all σ g:=by exact bSM):WL P X bad all K Q ((fl,ix)::os) σ μ Ds:=cK ho ha hx hA hD hs hb hN hg kk
theorem dX{t:Θ}{D₁:aC}{b o k n:Nat}{cs us:List Γ}(ho:all[ix]?= some ⟨some d,.load t x,ty,pos,aft,g⟩)(ha:TA P t true)(hs:TS P t n)(hx:ev σ x=some (.pointer (some ⟨b,o+k,none⟩)))(hA:At D₁ b o cs)(hD:D₁∈Ds)(hu:(cs.drop k).take n=us)(hl:us.length=n)(hb:b∉bad)
  (hN:Nat.blt d X.N=true) (hg:cQ all σ g) (kk:WL P X bad all K Q os ((d,.agg us.toArray)::σ) μ Ds):WL P X bad all K Q ((fl,ix)::os) σ μ Ds:=
 pA ho rfl rfl hN hg (fun a w hh w' hk=>by
  subst hl;simp only[execOp,hh.eval hx];rw[Ω,nB ha hs (fun j v hv=>by
   have hl:=(bMW.1 hv).1;rw[←hu,bPX hl,bPC]at hv;have:=hh.liesD hD hA hb hk (k+j) v hv;rw[←Nat.add_assoc]at this;exact this)]
  rfl) kk

def TF(P:Program)(t:Θ)(i k:Nat):Prop:=∀(a:Addr) w,(Instr.fieldAt t (.pointer (some a)) i).run P w=.ok (.pointer (some (a.add k))) w
theorem TF.of{t:Θ}{i k ft:Nat}{fs:Array Field}{n:Nat}(h:P.underlying t=some (.struct fs))(hk:(fs[i]?).map (fun f=>(f.offset,f.type))=some (k,ft))(hs:TS P ft n)(hn:Nat.beq n 0=false):TF P t i k:=fun a w=>by
 have hn':n≠0:=fun e=>by subst e;simp at hn
 cases hf:fs[i]? with
 |none=>simp[hf]at hk
 |some f=>
  simp only[hf,bOO,bRG,bQS]at hk;obtain⟨rfl,rfl⟩:=hk;unfold Instr.fieldAt fieldPlace Instr.sureAddr;simp only[Ω,TU.of h w,Ξ,hf,hs w,ε,bNA hn',pure_bind]
theorem gY(b o k:Nat):(⟨b,o,none⟩:Addr).add k=⟨b,o+k,none⟩:=by
 unfold Addr.add;split
 ·rename_i h;subst h;rfl
 ·rfl
theorem BL{t:Θ}{i k b o:Nat}(ho:all[ix]?= some ⟨some d,.fieldAddr t x i,ty,pos,aft,g⟩)(h:TF P t i k)(hx:ev σ x=some (.pointer (some ⟨b,o,none⟩)))
  (hN:Nat.blt d X.N=true) (hg:cQ all σ g) (kk:WL P X bad all K Q os ((d,.pointer (some ⟨b,o+k,none⟩))::σ) μ Ds):WL P X bad all K Q ((fl,ix)::os) σ μ Ds:=
 bW ho rfl rfl hN hg (fun ρ hρ w'=>by
  simp only[execOp,hρ x _ hx];rw[Ω,h,gY];rfl) kk
theorem _root_.Go.Fs.Zj{t:Θ}{i:Nat}{k:Nat}{b:Nat}{o:Nat}(ho:all[ix]?= some ⟨some d,.fieldAddr t x i,ty,pos,aft,g⟩)(h:TF P t i k)(hx:ev σ x=some (.pointer (some ⟨b,o,none⟩)))(kk:WL P X bad all K Q os ((d,.pointer (some ⟨b,o+k,none⟩))::σ) μ Ds)(hN:Nat.blt d X.N=true:=by exact rfl)(hg:cQ all σ g:=by exact bSM):WL P X bad all K Q ((fl,ix)::os) σ μ Ds:=BL ho h hx hN hg kk
theorem _root_.Go.Fs.Zk{t:Θ}{i:Nat}{k:Nat}{b:Nat}{o:Nat}(ho:all[ix]?= some ⟨some d,.fieldAddr t x i,ty,pos,aft,g⟩)(h:TF P t i k)(hx:ev σ x=some (.pointer (some ⟨b,o,none⟩)))(kk:WL P X bad all K Q os ((d,.pointer (some ⟨b,o+k,none⟩))::σ) μ Ds)(hN:Nat.blt d X.N=true:=by exact rfl)(hg:cQ all σ g:=by exact⟨_,rfl,rfl⟩):WL P X bad all K Q ((fl,ix)::os) σ μ Ds:=BL ho h hx hN hg kk
theorem uZ{a:Addr}(ho:all[ix]?= some ⟨some d,.nilCheck x,ty,pos,aft,g⟩)(hx:ev σ x=some (.pointer (some a)))
  (hN:Nat.blt d X.N=true) (hg:cQ all σ g) (kk:WL P X bad all K Q os ((d,.pointer (some a))::σ) μ Ds):WL P X bad all K Q ((fl,ix)::os) σ μ Ds:=
 bW ho rfl rfl hN hg (fun ρ hρ w'=>by simp only[execOp,hρ x _ hx];rfl) kk
theorem _root_.Go.Fs.Zam{a:Addr}(e9:(all[ix]?,ev σ x)=(some ⟨some d,.nilCheck x,ty,pos,aft,g⟩,some (.pointer (some a))))(kk:WL P X bad all K Q os ((d,.pointer (some a))::σ) μ Ds)(hN:Nat.blt d X.N=true:=by exact rfl)(hg:cQ all σ g:=by exact bSM):WL P X bad all K Q ((fl,ix)::os) σ μ Ds:=uZ (bNB (fun z=>z.1) e9) (bNB (fun z=>z.2) e9) hN hg kk
theorem eT{t e:Θ}{n sz b o:Nat}{k:IntKind}{i:Int}(ho:all[ix]?= some ⟨some d,.indexAddr t x y,ty,pos,aft,g⟩)(ht:P.underlying t=some (.array n e))(hs:TS P e sz)(hx:ev σ x=some (.pointer (some ⟨b,o,none⟩)))(hy:ev σ y=some (.int k i))(h0:0≤i)(h1:i<n)
  (hN:Nat.blt d X.N=true) (hg:cQ all σ g) (kk:WL P X bad all K Q os ((d,.pointer (some ⟨b,o+i.toNat*sz,none⟩))::σ) μ Ds):WL P X bad all K Q ((fl,ix)::os) σ μ Ds:=
 bW ho rfl rfl hN hg (fun ρ hρ w'=>by
  simp only[execOp,hρ x _ hx,hρ y _ hy];unfold Instr.indexAt asIntOf Instr.sureAddr;simp only[Ω,TU.of ht w',Ξ,hs w',ε,pure_bind,h0,h1,bRS,bPG,gY]) kk

abbrev Rd(α:Type):=aC→α→List Γ→Prop
def Rd.Up{α:Type}(R:Rd α):Prop:=∀{D D':aC},Le D D'→∀{x:α} {cs:List Γ},R D x cs→R D' x cs
def Sl{α:Type}(D:aC)(R:Rd α)(sz:Nat)(v:Γ)(xs:List α):Prop:=
 ∃a cap,v=.slice a xs.length cap∧xs.length≤cap∧xs.length≤9223372036854775807∧(xs=[]∨∃b o,a=some ⟨b,o,none⟩∧∀i x,xs[i]?= some x→∃cs,R D x cs∧cs.length=sz∧At D b (o+i*sz) cs)
theorem Sl.up{α:Type}{R:Rd α}(hR:R.Up){D D':aC}(hl:Le D D'){sz:Nat}{v:Γ}{xs:List α}(h:Sl D R sz v xs):Sl D' R sz v xs:=by
 obtain⟨a,cap,hv,h1,h2,h3⟩:=h;refine⟨a,cap,hv,h1,h2,h3.imp id ?_⟩;rintro⟨b,o,ha,he⟩;refine⟨b,o,ha,fun i x hx=>?_⟩;obtain⟨cs,hr,hc,hA⟩:=he i x hx;exact⟨cs,hR hl hr,hc,hA.up hl⟩
theorem Sl.cells1{α:Type}{R:Rd α}{D:aC}{sz:Nat}{v:Γ}{xs:List α}(h:Sl D R sz v xs):v.cells=[v].toArray:=by
 obtain⟨a,cap,rfl,_⟩:=h;rfl
theorem Sl.nil{α:Type}{R:Rd α}{D:aC}{sz:Nat}:Sl D R sz (qN) ([]:List α):=⟨none,0,rfl,bNJ _,Yf,bNI rfl⟩
theorem Sl.len{α:Type}{R:Rd α}{D:aC}{sz:Nat}{v:Γ}{xs:List α}(h:Sl D R sz v xs):xs.length≤9223372036854775807:=by
 obtain⟨a,cap,hv,h1,h2,h3⟩:=h;exact h2
def RI:Rd Int:=fun _ n cs=>cs=[qI n]
theorem RI.up:RI.Up:=fun _ _ _ h=>h
def RL:Rd (List Int):=fun D l cs=>∃v,cs=[v]∧Sl D RI 1 v l
theorem RL.up:RL.Up:=fun hl _ _ ⟨v,hc,hs⟩=>⟨v,hc,hs.up RI.up hl⟩
theorem Sl.at{α:Type}{R:Rd α}(hR:R.Up){D D₁:aC}{Ds:List aC}(hD:∀D₁∈Ds,Le D₁ D){sz:Nat}{v:Γ}{xs:List α}(h:Sl D₁ R sz v xs)(hm:D₁∈Ds):Sl D R sz v xs:=h.up hR (hD _ hm)

theorem eE{α:Type}{R:Rd α}{D₁:aC}{sz:Nat}{t e tr:Θ}{xs:List α}{ats:Array Θ}(ho:all[ix]?= some ⟨some d,.call {callee:=.builtin .len,args:=#[x],argTypes:=ats},tr,pos,aft,g⟩)(ht:P.underlying t=some (.slice e))(hx:ev σ x=some v)(hS:Sl D₁ R sz v xs)(hat:ats[0]?= some t)
  (hN:Nat.blt d X.N=true) (hg:cQ all σ g) (kk:WL P X bad all K Q os ((d,qI (xs.length:Int))::σ) μ Ds):
  WL P X bad all K Q ((fl,ix)::os) σ μ Ds:=
 bW ho rfl rfl hN hg (fun ρ hρ w'=>by
  obtain⟨a,cap,rfl,_⟩:=hS;have hx':=hρ x _ hx;simp[Builtin.len_,hat,hx',TU.of ht w',goInt,go_sem]) kk
theorem _root_.Go.Fs.Zai{α:Type}{R:Rd α}{D₁:aC}{sz:Nat}{t:Θ}{e:Θ}{tr:Θ}{xs:List α}{ats:Array Θ}(ho:all[ix]?= some ⟨some d,.call {callee:=.builtin .len,args:=#[x],argTypes:=ats},tr,pos,aft,g⟩)(ht:P.underlying t=some (.slice e))(hx:ev σ x=some v)(hS:Sl D₁ R sz v xs)(hat:ats[0]?= some t)(kk:WL P X bad all K Q os ((d,qI (xs.length:Int))::σ) μ Ds)(hN:Nat.blt d X.N=true:=by exact rfl)(hg:cQ all σ g:=by exact bSM):WL P X bad all K Q ((fl,ix)::os) σ μ Ds:=eE ho ht hx hS hat hN hg kk
theorem dW{α:Type}{R:Rd α}{D₁:aC}{sz:Nat}{t e:Θ}{xs:List α}{k:IntKind}{i:Int}{el:α}(ho:all[ix]?= some ⟨some d,.indexAddr t x y,ty,pos,aft,g⟩)(ht:P.underlying t=some (.slice e))(hs:TS P e sz)(hx:ev σ x=some v)(hS:Sl D₁ R sz v xs)
  (hy:ev σ y=some (.int k i)) (h0:0≤i) (hi:xs[i.toNat]?= some el) (hN:Nat.blt d X.N=true) (hg:cQ all σ g)
  (kk:∀b o cs,R D₁ el cs→cs.length=sz→At D₁ b o cs→WL P X bad all K Q os ((d,.pointer (some ⟨b,o,none⟩))::σ) μ Ds):
  WL P X bad all K Q ((fl,ix)::os) σ μ Ds:=by
 obtain⟨a,cap,rfl,h1,h2,h3⟩:=hS;have hlt:i.toNat<xs.length:=(bMW.1 hi).1;rcases h3 with rfl|⟨b,o,rfl,h3⟩
 ·simp at hlt
 ·obtain⟨cs,hr,hc,hA⟩:=h3 _ _ hi;refine bW ho rfl rfl hN hg (fun ρ hρ w'=>?_) (kk b _ cs hr hc hA);have h1':i<(xs.length:Int):=Yd
  simp only[execOp,hρ x _ hx,hρ y _ hy];unfold Instr.indexAt asIntOf;simp only[Ω,TU.of ht w',Ξ,hs w',ε,pure_bind,h0,h1',bRS,bPG,gY]
section
variable{t e t2:Θ}{D₁:aC}{xs:List Int}{k:IntKind}{i el:Int}{ix2 d2:Nat}{x2:Operand}{ty2:Θ}{pos2:String}{aft2:Array Edge}{g2:Option (Nat×Bool)}{fl2:Bool}
theorem iW{γ:Type}[Membership Nat γ]{bad:γ}(e9:(all[ix]?,all[ix2]?,ev σ x)=(some ⟨some d,.indexAddr t x y,ty,pos,aft,g⟩,some ⟨some d2,.load t2 x2,ty2,pos2,aft2,g2⟩,some v))(hS:Sl D₁ RI 1 v xs)(hy:ev σ y=some (.int k i))(hi:xs[i.toNat]?= some el)
  (kk:∀b o,WL P X bad all K Q os ((d2,qI el)::(d,.pointer (some ⟨b,o,none⟩))::σ) μ Ds) (hb:∀b:Nat,b∉bad:=by exact fun _=>n4) (hx2:∀b o,ev ((d,.pointer (some ⟨b,o,none⟩))::σ) x2=some (.pointer (some ⟨b,o+0,none⟩)):=by exact fun _ _=>rfl) (h0:0≤i:=by omega) (ht:P.underlying t=some (.slice e):=by exact U25) (hs:TS P e 1:=by exact aH) (ha:TA P t2 false:=by exact aI) (hD:D₁∈Ds:=by first|simp|assumption)
  (hN:Nat.blt d X.N=true:=by exact rfl) (hg:cQ all σ g:=by exact bSM) (hN2:Nat.blt d2 X.N=true:=by exact rfl) (hg2:∀b o,cQ all ((d,.pointer (some ⟨b,o,none⟩))::σ) g2:=by exact fun _ _=>trivial):WL P X bad all K Q ((fl,ix)::(fl2,ix2)::os) σ μ Ds:=
 dW (bNB (fun z=>z.1) e9) ht hs (bNB (fun z=>z.2.2) e9) hS hy h0 hi hN hg fun b o cs hr hcl hA=>by
  obtain rfl:cs=[qI _]:=hr;exact dU (k:=0) (bNB (fun z=>z.2.1) e9) ha (hx2 b o) hA hD rfl (hb b) hN2 (hg2 b o) (kk b o)
end
theorem _root_.Go.Fs.Zx{α:Type}{R:Rd α}{D₁:aC}{sz:Nat}{t:Θ}{e:Θ}{xs:List α}{k:IntKind}{i:Int}{el:α}(ho:all[ix]?= some ⟨some d,.indexAddr t x y,ty,pos,aft,g⟩)(ht:P.underlying t=some (.slice e))(hs:TS P e sz)(hx:ev σ x=some v)(hS:Sl D₁ R sz v xs)(hy:ev σ y=some (.int k i))(hi:xs[i.toNat]?= some el)(kk:∀b o cs,R D₁ el cs→cs.length=sz→At D₁ b o cs→WL P X bad all K Q os ((d,.pointer (some ⟨b,o,none⟩))::σ) μ Ds)(h0:0≤i:=by exact Yd)(hN:Nat.blt d X.N=true:=by exact rfl)(hg:cQ all σ g:=by exact bSM):WL P X bad all K Q ((fl,ix)::os) σ μ Ds:=dW ho ht hs hx hS hy h0 hi hN hg kk
theorem KC{vs:Array Γ}{i:Nat}(ho:all[ix]?= some ⟨some d,.extract x i,ty,pos,aft,g⟩)(hx:ev σ x=some (.tuple vs))(hi:vs.toList[i]?= some v)(hN:Nat.blt d X.N=true)(hg:cQ all σ g)(kk:WL P X bad all K Q os ((d,v)::σ) μ Ds):
  WL P X bad all K Q ((fl,ix)::os) σ μ Ds:=
 bW ho rfl rfl hN hg (fun ρ hρ w'=>by rw[Array.getElem?_toList]at hi;simp[execOp,hρ x _ hx,Instr.extract,hi,go_sem]) kk
theorem _root_.Go.Fs.Zap{vs:Array Γ}{i:Nat}(e9:(all[ix]?,ev σ x,vs.toList[i]?)=(some ⟨some d,.extract x i,ty,pos,aft,g⟩,some (.tuple vs),some v))(kk:WL P X bad all K Q os ((d,v)::σ) μ Ds)(hN:Nat.blt d X.N=true:=by exact rfl)(hg:cQ all σ g:=by exact bSM):WL P X bad all K Q ((fl,ix)::os) σ μ Ds:=KC (bNB (fun z=>z.1) e9) (bNB (fun z=>z.2.1) e9) (bNB (fun z=>z.2.2) e9) hN hg kk
theorem qW{k:IntKind}{m n:Int}{ats:Array Θ}(ho:all[ix]?= some ⟨some d,.call {callee:=.builtin .max,args:=#[x,y],argTypes:=ats},ty,pos,aft,g⟩)(hx:ev σ x=some (.int k m))(hy:ev σ y=some (.int k n))(hN:Nat.blt d X.N=true)(hg:cQ all σ g)(kk:WL P X bad all K Q os ((d,.int k (max m n))::σ) μ Ds):
  WL P X bad all K Q ((fl,ix)::os) σ μ Ds:=
 bW ho rfl rfl hN hg (fun ρ hρ w'=>by
  have hx':=hρ x _ hx;have hy':=hρ y _ hy;have e:(if n>m then n else m)=max m n:=by split<;>omega
  simp[Builtin.max_,Builtin.max2,hx',hy',go_sem,e]) kk
theorem NT{k:IntKind}{m n:Int}{ats:Array Θ}(ho:all[ix]?= some ⟨some d,.call {callee:=.builtin .min,args:=#[x,y],argTypes:=ats},ty,pos,aft,g⟩)(hx:ev σ x=some (.int k m))(hy:ev σ y=some (.int k n))(hN:Nat.blt d X.N=true)(hg:cQ all σ g)(kk:WL P X bad all K Q os ((d,.int k (min m n))::σ) μ Ds):
  WL P X bad all K Q ((fl,ix)::os) σ μ Ds:=
 bW ho rfl rfl hN hg (fun ρ hρ w'=>by
  have hx':=hρ x _ hx;have hy':=hρ y _ hy;have e:(if n<m then n else m)=min m n:=by split<;>omega
  simp[Builtin.min_,Builtin.min2,hx',hy',go_sem,e]) kk
theorem Hl.ds{Ds':List aC}{a:Act}{w:Δ}(h:Hl X σ μ Ds a w)(hD:∀D∈Ds',D∈Ds):Hl X σ μ Ds' a w:=by
 obtain⟨h1,h2,h3,D,h4,h5,I⟩:=h;exact⟨h1,h2,h3,D,h4,fun D₁ hD₁=>h5 D₁ (hD D₁ hD₁),I⟩

def EF(P:Program)(f:FuncId):Prop:=∀args w,(callFunc f args).run P w=.ok (.enter f args) w
theorem EF.of{f:FuncId}{fn:Func}{c:Code}(h:P.funcs[f]?= some fn)(hn:(fn.name== "runtime.NumGoroutine")=false)(hb:fn.body=some c):EF P f:=fun args w=>by
 have hn':¬fn.name= "runtime.NumGoroutine" :=by simpa using hn
 simp[callFunc,program,Sem.run,h,hn',hb,go_sem]
def Fn(P:Program)(f:FuncId)(args:Array Γ)(D:aC)(post:aC→Γ→Prop):Prop:=
 EF P f∧∀w,fA D w→Calls P f args w fun e w'=>∃v D',e=.returned v∧iT (hd w) w.heap.size D [] [] D' w'∧post D' v
theorem gO{D D':aC}{w w':Δ}{mods:List Nat}{μ:aD}(hw:fA D w)(hs:iT (hd w) w.heap.size D mods μ D' w'):Le D D':=by
 refine⟨fun b=>?_,hs.dold 0 hw.pos⟩;by_cases hb:b<w.heap.size
 ·rw[hs.dold b hb];exact List.prefix_refl _
 ·have:D b=[]:=by
   refine Decidable.byContradiction fun hne=>?_
   obtain⟨cs,e,fz,hc,_⟩:=hw.1 b hne;exact hb (bJ hc)
  rw[this];exact bRW
theorem Fn.mono{f:FuncId}{args:Array Γ}{D:aC}{post post':aC→Γ→Prop}(h:Fn P f args D post)(hp:∀D' v,Le D D'→post D' v→post' D' v):Fn P f args D post':=by
 refine⟨h.1,fun w hw=>(h.2 w hw).mono ?_⟩;rintro e w' ⟨v,D',rfl,hs,hpost⟩;exact⟨v,D',rfl,hs,hp _ _ (gO hw hs) hpost⟩
theorem iT.after{h0:H0}{lo:Nat}{D0 D D':aC}{mods:List Nat}{μ:aD}{w w':Δ}(h:iT h0 lo D0 mods μ D w)(hs:iT (hd w) w.heap.size D [] [] D' w'):iT h0 lo D0 mods μ D' w':=by
 have hle:=bPD h.hlo h.size;refine⟨h.hlo,bPD h.size hs.size,fun b hb hm=>?_,fun b hb=>?_,hs.agr,fun p hp=>?_,h.nd,h.fz,fun e he=>(hs.env _ rfl).trans (h.env e he)⟩
 ·rw[hs.old b (bPO hb hle) Yf];exact h.old b hb hm
 ·rw[hs.dold b (bPO hb hle)];exact h.dold b hb
 ·obtain⟨h1,h2,h3⟩:=h.box p hp;have hl:=bJ h1;exact⟨by rw[hs.old _ hl Yf];exact h1,Xbd,h3⟩
theorem iT.low{D D':aC}{μ:aD}{w w':Δ}(hs:iT (hd w) w.heap.size D [] μ D' w')(β:List Nat):aNV β D w D' w':=⟨hs.size,fun b hb _=>⟨hs.old b hb Yf,hs.dold b hb⟩,hs.env _ rfl⟩
theorem iT.keep{D D':aC}{μ:aD}{w w':Δ}(hs:iT (hd w) w.heap.size D [] μ D' w'){γb:Type}[Membership Nat γb](bad:γb):pX bad w w':=⟨hs.size,fun b hb _=>hs.old b hb Yf⟩
def q9(σ:bU):List Operand→Option (List Γ)
 | []=>some []
 |x::xs=>match ev σ x,q9 σ xs with
  |some v,some vs=>some (v::vs)
  |_,_=>none
theorem kT{ρ:Operand→Γ}(hρ:∀x u,ev σ x=some u→ρ x=u):∀{xs:List Operand} {vs:List Γ},q9 σ xs=some vs→xs.map ρ=vs
 | [],vs,h=>by simp[q9]at h;simp[h]
 |x::xs,vs,h=>by
  simp only[q9]at h;cases h1:ev σ x with
  |none=>simp[h1]at h
  |some v1=>
   cases h2:q9 σ xs with
   |none=>simp[h1,h2]at h
   |some v2=>
    simp[h1,h2]at h;rw[←h,bNT,hρ x v1 h1,kT hρ h2]
theorem fF{o:Oper}(ho:all[ix]?= some o)(hq:kV o.op=false)(hdf:pR o.op=false)(hg:cQ all σ o.guard)
  (h:∀a w,Hl X σ μ Ds a w→o.uponIn (FW X.r) 0 P a (fun a' w'=>(fl=true→pX bad w w')∧tM X.r bad P all K Q (iS all os) a' w') Q ((execOp a.eval o).run P w)):WL P X bad all K Q ((fl,ix)::os) σ μ Ds:=by
 intro a w hh;rw[vT ho];simp only[tM,hq,bOS,bPL];unfold T1;rw[bNK (hh.wanted hg)];refine⟨fun _ _=>trivial,?_⟩;rw[J9 hdf];exact h a w hh
theorem uY{w:Δ}{ρ:Operand→Γ}{c:Operand}{xs:Array Operand}{ats:Array Θ}{f:FuncId}{c1 c2:List Γ}{vs:List Γ}{dst:Option Nat}(hEF:EF P f)(hc:ρ c=.func (.func f) c1.toArray c2.toArray)(hvs:xs.toList.map ρ=vs):
  (execOp ρ ⟨dst,.call {callee:=.value c,args:=xs,argTypes:=ats},ty,pos,aft,g⟩).run P w=.ok (.enter f (c1++vs++c2).toArray) w:=by
 have e:xs.map ρ=vs.toArray:=by rw[←hvs,←bRE]
 simp only[execOp,resolve,hc,Deferred.ofValue,pure_bind,invoke,e];rw[hEF];simp
theorem aBJ{c:Operand}{xs:Array Operand}{ats:Array Θ}{f:FuncId}{c1 c2:List Γ}{vs:List Γ}{post:aC→Γ→Prop}(ho:all[ix]?= some ⟨some d,.call {callee:=.value c,args:=xs,argTypes:=ats},ty,pos,aft,g⟩)(hc:ev σ c=some (.func (.func f) c1.toArray c2.toArray))(hxs:q9 σ xs.toList=some vs)
  (hf:∀D,(∀D₁∈Ds,Le D₁ D)→Fn P f (c1++vs++c2).toArray D post) (hN:Nat.blt d X.N=true) (hg:cQ all σ g)
  (kk:∀v D,(∀D₁∈Ds,Le D₁ D)→post D v→WL P X bad all K Q os ((d,v)::σ) μ (D::Ds)):
  WL P X bad all K Q ((fl,ix)::os) σ μ Ds:=by
 refine fF ho rfl rfl hg fun a w hh=>?_
 obtain⟨h1,h2,h3,D,h4,h5,h6⟩:=id hh;have hF:=hf D h5;rw[uY hF.1 (hh.eval hc) (kT (fun _ _ hx=>hh.eval hx) hxs)];refine⟨fun h=>Xad,dR.2 ((hF.2 w h4.agr).mono ?_)⟩;rintro e w' ⟨v,D',rfl,hs,hpost⟩;have hle:=gO h4.agr hs;refine⟨fun _=>hs.keep bad,kk v D' (fun D₁ hD₁=>(h5 D₁ hD₁).trans hle) hpost _ _ ?_⟩;refine Hl.put ⟨h1,h2,h3,D',h4.after hs,fun D₁ hD₁=>?_,h6.step (fun _ p hp=>bNI (bMR.2 ⟨p,hp,rfl⟩)) (fun _=>hs.low _) (h4.after hs).dom⟩ hN v;rcases LT.1 hD₁ with rfl|hD₁
 ·exact Le.refl _
 ·exact(h5 D₁ hD₁).trans hle
theorem _root_.Go.Fs.Zy{c:Operand}{xs:Array Operand}{ats:Array Θ}{f:FuncId}{c1:List Γ}{c2:List Γ}{vs:List Γ}{post:aC→Γ→Prop}(e9:(all[ix]?,ev σ c,q9 σ xs.toList)=(some ⟨some d,.call {callee:=.value c,args:=xs,argTypes:=ats},ty,pos,aft,g⟩,some (.func (.func f) c1.toArray c2.toArray),some vs))(hf:∀D,(∀D₁∈Ds,Le D₁ D)→Fn P f (c1++vs++c2).toArray D post)(kk:∀v D,(∀D₁∈Ds,Le D₁ D)→post D v→WL P X bad all K Q os ((d,v)::σ) μ (D::Ds))(hN:Nat.blt d X.N=true:=by exact rfl)(hg:cQ all σ g:=by exact bSM):WL P X bad all K Q ((fl,ix)::os) σ μ Ds:=aBJ (bNB (fun z=>z.1) e9) (bNB (fun z=>z.2.1) e9) (bNB (fun z=>z.2.2) e9) hf hN hg kk
theorem aCP{c:Operand}{xs:Array Operand}{ats:Array Θ}{f:FuncId}{c1 c2:List Γ}{vs:List Γ}{r:Γ}(ho:all[ix]?= some ⟨some d,.call {callee:=.value c,args:=xs,argTypes:=ats},ty,pos,aft,g⟩)(hc:ev σ c=some (.func (.func f) c1.toArray c2.toArray))(hxs:q9 σ xs.toList=some vs)
  (hf:∀D,(∀D₁∈Ds,Le D₁ D)→Fn P f (c1++vs++c2).toArray D fun _ v=>v=r) (hN:Nat.blt d X.N=true) (hg:cQ all σ g)
  (kk:WL P X bad all K Q os ((d,r)::σ) μ Ds):
  WL P X bad all K Q ((fl,ix)::os) σ μ Ds:=
 aBJ ho hc hxs hf hN hg fun _ _ _ hv=>by
  subst hv;exact fun a w hh=>kk a w (hh.ds fun D hD=>bMT _ hD)
theorem _root_.Go.Fs.Zd{c:Operand}{xs:Array Operand}{ats:Array Θ}{f:FuncId}{c1:List Γ}{c2:List Γ}{vs:List Γ}{r:Γ}(e9:(all[ix]?,ev σ c,q9 σ xs.toList)=(some ⟨some d,.call {callee:=.value c,args:=xs,argTypes:=ats},ty,pos,aft,g⟩,some (.func (.func f) c1.toArray c2.toArray),some vs))(hf:∀D,(∀D₁∈Ds,Le D₁ D)→Fn P f (c1++vs++c2).toArray D fun _ v=>v=r)(kk:WL P X bad all K Q os ((d,r)::σ) μ Ds)(hN:Nat.blt d X.N=true:=by exact rfl)(hg:cQ all σ g:=by exact bSM):WL P X bad all K Q ((fl,ix)::os) σ μ Ds:=aCP (bNB (fun z=>z.1) e9) (bNB (fun z=>z.2.1) e9) (bNB (fun z=>z.2.2) e9) hf hN hg kk
theorem _root_.Go.Fs.Ze{c:Operand}{xs:Array Operand}{ats:Array Θ}{f:FuncId}{c1:List Γ}{c2:List Γ}{vs:List Γ}{r:Γ}(e9:(all[ix]?,ev σ c,q9 σ xs.toList)=(some ⟨some d,.call {callee:=.value c,args:=xs,argTypes:=ats},ty,pos,aft,g⟩,some (.func (.func f) c1.toArray c2.toArray),some vs))(hf:∀D,(∀D₁∈Ds,Le D₁ D)→Fn P f (c1++vs++c2).toArray D fun _ v=>v=r)(kk:WL P X bad all K Q os ((d,r)::σ) μ Ds)(hN:Nat.blt d X.N=true:=by exact rfl)(hg:cQ all σ g:=by exact⟨_,rfl,rfl⟩):WL P X bad all K Q ((fl,ix)::os) σ μ Ds:=aCP (bNB (fun z=>z.1) e9) (bNB (fun z=>z.2.1) e9) (bNB (fun z=>z.2.2) e9) hf hN hg kk

theorem dJ{w:Δ}{o:Obj}{b:Nat}(h:b<w.heap.size):(w.heap.push o)[b]?= w.heap[b]? :=by
 rw[Array.getElem?_push,bNA Yd]
theorem fA.push{D:aC}{w:Δ}(h:fA D w)(o:Obj):fA D {w with heap:=w.heap.push o}:=by
 refine h.of (fun b hb=>?_) rfl (dJ h.pos);obtain⟨cs,e,fz,hc,hp⟩:=h.1 b hb;exact⟨cs,e,fz,by show(w.heap.push o)[b]?= _;rw[dJ (bJ hc)];exact hc,hp⟩
theorem fA.fresh{D:aC}{w:Δ}(h:fA D w){b:Nat}(hb:w.heap.size≤b):D b=[]:=
 Decidable.byContradiction fun hne=>by
  obtain⟨cs,e,fz,hc,_⟩:=h.1 b hne;have:=bJ hc;omega
theorem iT.push{h0:H0}{lo:Nat}{D0 D:aC}{mods:List Nat}{μ:aD}{w:Δ}(h:iT h0 lo D0 mods μ D w)(o:Obj)(ho:cU o):iT h0 lo D0 mods ((w.heap.size,o)::μ) D {w with heap:=w.heap.push o}:=by
 have hle:=bPD h.hlo h.size;refine⟨h.hlo,by have:=h.size;simp;omega,fun b hb hm=>?_,h.dold,h.agr.push o,fun p hp=>?_,?_,(fun p hp=>by rcases LT.1 hp with rfl|hp;exact ho;exact h.fz p hp),h.env⟩
 ·show(w.heap.push o)[b]?= _;rw[dJ (bPO hb hle)];exact h.old b hb hm
 ·rcases LT.1 hp with rfl|hp
  ·exact⟨Yf,h.agr.fresh (bNJ _),bNI h.size⟩
  ·obtain⟨h1,h2,h3⟩:=h.box p hp;exact⟨by show(w.heap.push o)[p.1]?= _;rw[dJ (bJ h1)];exact h1,h2,h3⟩
 ·simp only[bNT,bOT];refine⟨fun hm=>?_,h.nd⟩;obtain⟨p,hp,he⟩:=bMR.1 hm;have:=bJ (h.box p hp).1;omega
theorem pU{γb:Type}[Membership Nat γb](bad:γb)(w:Δ)(o:Obj):pX bad w {w with heap:=w.heap.push o}:=⟨Yf,fun b hb _=>dJ hb⟩
theorem G7(β:List Nat){D:aC}{w:Δ}(o:Obj):aNV β D w D {w with heap:=w.heap.push o}:=⟨Yf,fun b hb _=>⟨dJ hb,rfl⟩,rfl⟩
theorem iT.pushD{h0:H0}{lo:Nat}{D0 D:aC}{mods:List Nat}{μ:aD}{w:Δ}(h:iT h0 lo D0 mods μ D w)(vs:List Γ)(e:Θ):
  ∃D',Le D D'∧D' w.heap.size=vs∧(∀b,b≠w.heap.size→D' b=D b)∧iT h0 lo D0 mods μ D' {w with heap:=w.heap.push (.cells vs.toArray e (0,0))}:=by
 have hf:=h.agr.fresh (bNJ w.heap.size);refine⟨fun b=>if b=w.heap.size then vs else D b,⟨fun b=>?_,Xbo⟩,Yf,(fun b hb=>by simp[hb]),?_⟩
 ·by_cases hb:b=w.heap.size
  ·subst hb;rw[hf];exact bRW
  ·simp[hb]
 ·have hle:=bPD h.hlo h.size;refine⟨h.hlo,by have:=h.size;simp;omega,fun b hb hm=>?_,fun b hb=>?_,h.agr.of (fun b hb=>?_) Xbo (dJ h.agr.pos),fun p hp=>?_,h.nd,h.fz,h.env⟩
  ·show(w.heap.push _)[b]?= _;rw[dJ (bPO hb hle)];exact h.old b hb hm
  ·have hne:b≠w.heap.size:=Yd
   simp only[hne,bPL];exact h.dold b hb
  ·by_cases he:b=w.heap.size
   ·subst he;exact⟨vs.toArray,e,(0,0),Yf,Yf⟩
   ·simp only[he,bPL]at hb ⊢
    obtain⟨cs,e',fz,hc,hp⟩:=h.agr.1 b hb;exact⟨cs,e',fz,by show(w.heap.push _)[b]?= _;rw[dJ (bJ hc)];exact hc,hp⟩
  ·obtain⟨h1,h2,h3⟩:=h.box p hp;have hl:=bJ h1;refine⟨by show(w.heap.push _)[p.1]?= _;rw[dJ hl];exact h1,?_,h3⟩
   have hne:p.1≠w.heap.size:=Yd
   simp only[hne,bPL];exact h2
theorem kB{w:Δ}{e:Θ}{cs:Array Γ}:(newRow e cs).run P w=.ok ⟨w.heap.size,0,none⟩ {w with heap:=w.heap.push (.cells cs e (0,0))}:=rfl
theorem EQ{e:Θ}{vs:List Γ}(ho:all[ix]?= some ⟨some d,.box e x,ty,pos,aft,g⟩)(hx:ev σ x=some v)(hv:v.cells=vs.toArray)(hN:Nat.blt d X.N=true)(hg:cQ all σ g)
  (kk:∀b,WL P X bad all K Q os ((d,qP b)::σ) ((b,.cells vs.toArray e (0,0))::μ) Ds):
  WL P X bad all K Q ((fl,ix)::os) σ μ Ds:=by
 refine fF ho rfl rfl hg fun a w hh=>?_
 obtain⟨h1,h2,h3,D,h4,h5,I⟩:=id hh;have:(execOp a.eval ⟨some d,.box e x,ty,pos,aft,g⟩).run P w=.ok (.value (.pointer (some ⟨w.heap.size,0,none⟩))) {w with heap:=w.heap.push (.cells vs.toArray e (0,0))}:=by
  simp only[execOp,hh.eval hx,Instr.box,newVar,hv,Ω,kB,Ξ,ε]
 rw[this];exact⟨fun _=>pU _ _ _,kk _ _ _ (Hl.put ⟨h1,h2,h3,D,h4.push _ (show cU (.cells _ _ (0,0))from rfl),h5,I.step (fun _ p hp=>Xbp) (fun _=>G7 _ _) (h4.push _ (show cU (.cells _ _ (0,0))from rfl)).dom⟩ hN _)⟩
theorem aZQ{e:Θ}{vs:List Γ}{z0:Γ}(ho:all[ix]?= some ⟨some d,.alloc e,ty,pos,aft,g⟩)(hz:TZ P e z0)(hv:z0.cells=vs.toArray)(hN:Nat.blt d X.N=true)(hg:cQ all σ g)
  (kk:∀b,WL P X bad all K Q os ((d,qP b)::σ) ((b,.cells vs.toArray e (0,0))::μ) Ds):
  WL P X bad all K Q ((fl,ix)::os) σ μ Ds:=by
 refine fF ho rfl rfl hg fun a w hh=>?_
 obtain⟨h1,h2,h3,D,h4,h5,h6⟩:=id hh;have:(execOp a.eval ⟨some d,.alloc e,ty,pos,aft,g⟩).run P w=.ok (.value (.pointer (some ⟨w.heap.size,0,none⟩))) {w with heap:=w.heap.push (.cells vs.toArray e (0,0))}:=by
  simp only[execOp,Instr.alloc,newVar,Ω,hz w,Ξ,hv,kB,ε]
 rw[this];exact⟨fun _=>pU _ _ _,kk _ _ _ (Hl.put ⟨h1,h2,h3,D,h4.push _ (show cU (.cells _ _ (0,0))from rfl),h5,h6.step (fun _ p hp=>Xbp) (fun _=>G7 _ _) (h4.push _ (show cU (.cells _ _ (0,0))from rfl)).dom⟩ hN _)⟩
theorem _root_.Go.Fs.Zah{e:Θ}{vs:List Γ}{z0:Γ}(ho:all[ix]?= some ⟨some d,.alloc e,ty,pos,aft,g⟩)(hz:TZ P e z0)(hv:z0.cells=vs.toArray)(kk:∀b,WL P X bad all K Q os ((d,qP b)::σ) ((b,.cells vs.toArray e (0,0))::μ) Ds)(hN:Nat.blt d X.N=true:=by exact rfl)(hg:cQ all σ g:=by exact bSM):WL P X bad all K Q ((fl,ix)::os) σ μ Ds:=aZQ ho hz hv hN hg kk

inductive bP:aD→Nat→Obj→Obj→aD→Prop
 |head {b o o' μ}:bP ((b,o)::μ) b o o' ((b,o')::μ)
 |tail {p b o o' μ μ'} (h:bP μ b o o' μ'):bP (p::μ) b o o' (p::μ')
 |app {ν b o o' μ μ'} (h:bP μ b o o' μ'):bP (ν++μ) b o o' (ν++μ')
theorem ζ:type_of% @bP.head:=@bP.head
theorem bP.mem{μ μ':aD}{b:Nat}{o o':Obj}(h:bP μ b o o' μ'):(b,o)∈μ:=by
 induction h with
 |head=>exact bMV
 |tail _ ih=>exact bMT _ ih
 |app _ ih=>exact GE _ ih
theorem bP.keys{μ μ':aD}{b:Nat}{o o':Obj}(h:bP μ b o o' μ'):μ'.map (·.1)=μ.map (·.1):=by
 induction h with
 |head=>rfl
 |tail _ ih=>simp[ih]
 |app _ ih=>simp[ih]
theorem bP.other{μ μ':aD}{b:Nat}{o o':Obj}(h:bP μ b o o' μ'):∀p∈μ',p=(b,o')∨p∈μ:=by
 induction h with
 |head=>intro p hp;rcases LT.1 hp with rfl|hp;exact Or.inl rfl;exact Or.inr (bMT _ hp)
 |tail _ ih=>intro p hp;rcases LT.1 hp with rfl|hp;exact Or.inr bMV;exact(ih p hp).imp id (bMT _)
 |app _ ih=>intro p hp;rcases bNH.1 hp with hp|hp;exact Or.inr (bNE _ hp);exact(ih p hp).imp id (GE _)
theorem bP.apart{μ μ':aD}{b:Nat}{o o':Obj}(h:bP μ b o o' μ')(hn:(μ.map (·.1)).Nodup):∀p∈μ',p.1=b→p=(b,o'):=by
 induction h with
 | @head b o o' μ=>
  intro p hp he;rcases LT.1 hp with rfl|hp
  ·rfl
  ·exfalso
   simp only[bNT,bOT]at hn;exact hn.1 (bMR.2 ⟨p,hp,he⟩)
 | @tail q b o o' μ μ' h ih=>
  intro p hp he;simp only[bNT,bOT]at hn;rcases LT.1 hp with rfl|hp
  ·exact absurd (bMR.2 ⟨_,h.mem,he.symm⟩) hn.1
  ·exact ih hn.2 p hp he
 | @app ν b o o' μ μ' h ih=>
  intro p hp he;rw[bNG,bNF]at hn;rcases bNH.1 hp with hp|hp
  ·exact absurd rfl (hn.2.2 p.1 (bMR.2 ⟨p,hp,rfl⟩) b (bMR.2 ⟨_,h.mem,rfl⟩)|>fun hne=>he▸hne)
  ·exact ih hn.2.1 p hp he
def bEP(w:Δ)(b:Nat)(o:Obj)(w':Δ):Prop:=w'.heap=w.heap.setIfInBounds b o∧IV w'=IV w
theorem iT.set{h0:H0}{lo:Nat}{D0 D:aC}{mods:List Nat}{μ μ':aD}{w w':Δ}{b:Nat}{o o':Obj}(h:iT h0 lo D0 mods μ D w)(hm:bP μ b o o' μ')(hwe:bEP w b o' w')(hu:cU o'):iT h0 lo D0 mods μ' D w':=by
 have hw:=hwe.1;have hb:=h.box _ hm.mem;have hlt:b<w.heap.size:=bJ hb.1;have hsame:∀c,c≠b→w'.heap[c]?= w.heap[c]? :=fun c hc=>by rw[hw,bPV (Ne.symm hc)]
 refine⟨h.hlo,by rw[hw];simpa using h.size,fun c hc hmods=>?_,h.dold,h.agr.of (fun c hc=>?_) rfl (hsame 0 fun e=>h.agr.2.1 (e▸hb.2.1)),fun p hp=>?_,by rw[hm.keys];exact h.nd,fun p hp=>?_,fun e he=>hwe.2.trans (h.env e he)⟩
 ·rw[hsame c ?_]
  ·exact h.old c hc hmods
  ·rintro rfl;rcases hb.2.2 with h'|h'
   ·have:=h.hlo;simp at h';omega
   ·exact hmods h'
 ·have:c≠b:=by rintro rfl;exact hc hb.2.1
  obtain⟨cs,e,fz,h1,h2⟩:=h.agr.1 c hc;exact⟨cs,e,fz,by rw[hsame c this];exact h1,h2⟩
 ·by_cases he:p.1=b
  ·obtain rfl:=hm.apart h.nd p hp he;exact⟨by rw[hw];simp[hlt],hb.2.1,hb.2.2⟩
  ·rcases hm.other p hp with rfl|hp'
   ·exact absurd rfl he
   ·obtain⟨h1,h2,h3⟩:=h.box p hp';exact⟨by rw[hsame _ he];exact h1,h2,h3⟩
 ·by_cases he:p.1=b
  ·obtain rfl:=hm.apart h.nd p hp he;exact hu
  ·rcases hm.other p hp with rfl|hp'
   ·exact hu
   ·exact h.fz p hp'
def cell1:Γ→Bool
 |.agg _=>false
 |.tuple _=>false
 |_=>true
theorem PU{w:Δ}{b off:Nat}{cs:Array Γ}{e:Θ}{fz:Nat×Nat}{v:Γ}(h:w.heap[b]?= some (.cells cs e fz)):(w.setCell ⟨b,off,none⟩ v).heap=w.heap.setIfInBounds b (.cells (cs.setIfInBounds off v) e fz):=by
 simp only[World.setCell];apply Array.ext_getElem?;intro i;rw[Array.getElem?_modify,Array.getElem?_setIfInBounds];by_cases hi:b=i
 ·subst hi;simp[bJ h,(bPZ.1 h).2]
 ·simp[hi]
theorem kY:∀(us:List Γ) (i:Nat) (w:Δ) (b off:Nat) (vs:List Γ) (e:Θ),w.heap[b]?= some (.cells vs.toArray e (0,0))→off+i+us.length≤vs.length→(∀u∈us,cell1 u=true)→
  ∃w',(storeCells ⟨b,off,none⟩ us i).run P w=.ok () w'∧bEP w b (.cells (vs.take (off+i)++us++vs.drop (off+i+us.length)).toArray e (0,0)) w'
 | [],i,w,b,off,vs,e,h,hl,_=>by
  refine⟨w,rfl,?_,rfl⟩;simp only[bNN,bOY,Nat.add_zero,bPJ];apply Array.ext_getElem?;intro j;rw[Array.getElem?_setIfInBounds];split
  ·rename_i hj;subst hj;simp[bJ h,(bPZ.1 h).2]
  ·rfl
 |u::us,i,w,b,off,vs,e,h,hl,ho=>by
  have hu:=ho u bMV;simp only[bMX]at hl;have hcell:∃v,w.cell? ⟨b,off+i,none⟩=some v:=⟨vs[off+i],sL h (by simp[show off+i<vs.length by omega])⟩
  obtain⟨v0,hv0⟩:=hcell;have hfz:w.frozen? ⟨b,off+i,none⟩=false:=by simp[World.frozen?,h]
  have hs:(store ⟨b,off+i,none⟩ u).run P w=.ok () (w.setCell ⟨b,off+i,none⟩ u):=by
   cases u<;>first|(simp[cell1]at hu;done)|simp[store,Sem.run,hv0,hfz]
  have hh:=PU (v:=u) (off:=off+i) h;have h':(w.setCell ⟨b,off+i,none⟩ u).heap[b]?= some (.cells (vs.set (off+i) u).toArray e (0,0)):=by
   rw[hh];simp[bJ h]
  obtain⟨w',hr,hw'⟩:=kY us (i+1) _ b off (vs.set (off+i) u) e h' Yaq fun u hu=>ho u (bMT _ hu);refine⟨w',?_,?_,hw'.2⟩
  ·simp only[storeCells,Ω,gY,hs,Ξ];exact hr
  ·rw[hw'.1,hh];apply Array.ext_getElem?;intro j;simp only[Array.getElem?_setIfInBounds,Array.size_setIfInBounds];split
   ·have hlt:off+i<vs.length:=Yd
    have h1:(vs.set (off+i) u).take (off+(i+1))=vs.take (off+i)++[u]:=by
     rw[show off+(i+1)=off+i+1 by omega,List.take_succ_eq_append_getElem (by simpa using hlt),List.take_set_of_le (bNJ _)];simp
    have h2:(vs.set (off+i) u).drop (off+(i+1)+us.length)=vs.drop (off+i+(us.length+1)):=by
     rw[List.drop_set_of_lt Yd];congr 1;omega
    simp only[h1,h2,bMX,bND,bQJ]
   ·rfl
theorem I1{w:Δ}{t:Θ}{b off:Nat}{vs us:List Γ}{e:Θ}{v:Γ}(hs:TS P t us.length)(hv:v.cells=us.toArray)(h:w.heap[b]?= some (.cells vs.toArray e (0,0)))(hl:off+us.length≤vs.length)(ho:∀u∈us,cell1 u=true):
  ∃w',(Instr.storeAt t (.pointer (some ⟨b,off,none⟩)) v).run P w=.ok () w'∧bEP w b (.cells (vs.take off++us++vs.drop (off+us.length)).toArray e (0,0)) w':=by
 obtain⟨w',hr,hw⟩:=kY (P:=P) us 0 w b off vs e h Yaz ho;refine⟨w',?_,by simpa using hw⟩;unfold Instr.storeAt Instr.sureAddr storeVar;simp only[pure_bind,Ω,hs w,Ξ,hv,bOM,ne_eq,not_true_eq_false,bPL];exact hr
theorem lO{β:List Nat}{D:aC}{w w':Δ}{b:Nat}{o:Obj}(hw:bEP w b o w')(h:b∈β):aNV β D w D w':=
 ⟨by rw[hw.1];simp,fun c _ hn=>⟨by rw[hw.1,bPV (by rintro rfl;exact hn h)],rfl⟩,hw.2⟩
theorem cR{t:Θ}{b off:Nat}{vs us ws:List Γ}{e:Θ}{μ':aD}(ho:all[ix]?= some ⟨none,.store t x y,ty,pos,aft,g⟩)(hx:ev σ x=some (.pointer (some ⟨b,off,none⟩)))(hy:ev σ y=some v)(hv:v.cells=us.toArray)(hs:TS P t us.length)
  (hm:bP μ b (.cells vs.toArray e (0,0)) (.cells ws.toArray e (0,0)) μ') (hl:off+us.length≤vs.length) (hw:vs.take off++us++vs.drop (off+us.length)=ws) (hc1:∀u∈us,cell1 u=true) (hg:cQ all σ g)
  (kk:WL P X bad all K Q os σ μ' Ds):WL P X bad all K Q ((false,ix)::os) σ μ Ds:=by
 refine fF ho rfl rfl hg fun a w hh=>?_
 obtain⟨h1,h2,h3,D,h4,h5,h6⟩:=id hh;obtain⟨w',hr,hw'⟩:=I1 (P:=P) hs hv (h4.box _ hm.mem).1 hl hc1;have:(execOp a.eval ⟨none,.store t x y,ty,pos,aft,g⟩).run P w=.ok .skip w':=by
  simp only[execOp,hh.eval hx,hh.eval hy,Ω,hr,Ξ,ε]
 rw[this];rw[hw]at hw';exact⟨fun h=>Xaf,kk _ _ ⟨h1,h2,h3,D,h4.set hm hw' rfl,h5,h6.step (fun _ p hp=>bNI Ya0) (fun _=>lO hw' (bMR.2 ⟨_,hm.mem,rfl⟩)) (h4.set hm hw' rfl).dom⟩⟩
theorem _root_.Go.Fs.Zr{t:Θ}{b:Nat}{off:Nat}{vs:List Γ}{us:List Γ}{ws:List Γ}{e:Θ}{μ':aD}(e9:(all[ix]?,ev σ x,ev σ y,v.cells)=(some ⟨none,.store t x y,ty,pos,aft,g⟩,some (.pointer (some ⟨b,off,none⟩)),some v,us.toArray))(hs:TS P t us.length)(hm:bP μ b (.cells vs.toArray e (0,0)) (.cells ws.toArray e (0,0)) μ')(hw:vs.take off++us++vs.drop (off+us.length)=ws)(kk:WL P X bad all K Q os σ μ' Ds)(hl:off+us.length≤vs.length:=by exact Yf)(hc1:∀u∈us,cell1 u=true:=by exact Yk)(hg:cQ all σ g:=by exact bSM):WL P X bad all K Q ((false,ix)::os) σ μ Ds:=cR (bNB (fun z=>z.1) e9) (bNB (fun z=>z.2.1) e9) (bNB (fun z=>z.2.2.1) e9) (bNB (fun z=>z.2.2.2) e9) hs hm hl hw hc1 hg kk
theorem _root_.Go.Fs.Zs{t:Θ}{b:Nat}{off:Nat}{vs:List Γ}{us:List Γ}(ws:List Γ){e:Θ}{μ':aD}(e9:(all[ix]?,ev σ x,ev σ y)=(some ⟨none,.store t x y,ty,pos,aft,g⟩,some (.pointer (some ⟨b,off,none⟩)),some v))(hv:v.cells=us.toArray)(hs:TS P t us.length)(hm:bP μ b (.cells vs.toArray e (0,0)) (.cells ws.toArray e (0,0)) μ')(hw:vs.take off++us++vs.drop (off+us.length)=ws)(hc1:∀u∈us,cell1 u=true)(kk:WL P X bad all K Q os σ μ' Ds)(hl:off+us.length≤vs.length:=by exact Yf)(hg:cQ all σ g:=by exact bSM):WL P X bad all K Q ((false,ix)::os) σ μ Ds:=cR (ws:=ws) (bNB (fun z=>z.1) e9) (bNB (fun z=>z.2.1) e9) (bNB (fun z=>z.2.2) e9) hv hs hm hl hw hc1 hg kk

def jP:Nat→List Γ→bU
 |_,[]=>[]
 |i,v::vs=>(i,v)::jP (i+1) vs
theorem gX:∀(vs:List Γ) (i s:Nat) (v:Γ),look (jP i vs) s=some v→i≤s∧vs[s-i]?= some v
 | [],i,s,v,h=>by cases h
 |u::vs,i,s,v,h=>by
  simp only[jP,look]at h;cases hb:Nat.beq i s with
  |true=>rw[hb]at h;cases h;obtain rfl:=bOV hb;simp
  |false=>
   rw[hb]at h;obtain⟨h1,h2⟩:=gX vs (i+1) s v h;refine⟨Yd,?_⟩;rw[show s-i=(s-(i+1))+1 by omega];simpa using h2
def qV(X:Cx)(post:aC→Γ→aD→Prop):Ending→Δ→Prop:=fun e w'=>∃v D' μ',e=.returned v∧iT X.h0 X.lo X.D0 X.mods μ' D' w'∧post D' v μ'
theorem fW{fn:Func}{post:aC→Γ→aD→Prop}:NP (bodyPost P fn (qV X post)):=by
 rintro c a w ⟨_,v,D',μ',h,_⟩;cases h
theorem enter{f:FuncId}{fn:Func}{c:Code}{args:List Γ}{D:aC}{post:aC→Γ→Prop}(N:Nat)(hf:P.funcs[f]?= some fn)(hn:(fn.name== "runtime.NumGoroutine")=false)(hb:fn.body=some c)(hN:fn.ntmps=N)(hsz:Nat.ble args.length N=true)
  (h:∀h0:H0,WC P ⟨none,N,[],h0,h0.size,D,[],none⟩ (bodyPost P fn (qV ⟨none,N,[],h0,h0.size,D,[],none⟩ fun D' v _=>post D' v)) c (jP 0 args) [] [D]):Fn P f args.toArray D post:=by
 refine⟨EF.of hf hn hb,fun w hw=>?_⟩;subst hN;have hsz:=bPE hsz;refine(dR (r:=none) (n:=0)).1 ((callsIn_of_wp (R:=qV ⟨none,fn.ntmps,[],hd w,w.heap.size,D,[],none⟩ fun D' v _=>post D' v) hf hb bSM (h (hd w) _ w ⟨?_,fun s v hs=>?_,rfl,D,⟨bNJ _,bNJ _,fun _ _ _=>rfl,fun _ _=>rfl,hw,Yi,bPA,Yi,fun e he=>bNS he⟩,fun D₁ h1=>?_,bSM⟩) rfl).mono ?_)
 ·simp;omega
 ·obtain⟨_,h2⟩:=gX args 0 s v hs;have hl:=(bMW.1 h2).1;simp only[bQH]at h2 hl;show(args.toArray++_)[s]?= some v;rw[bPS Yaz];simpa using h2
 ·simp only[bNL]at h1;subst h1;exact Le.refl _
 ·rintro e w' ⟨v,D',μ',rfl,hs,hp⟩;exact⟨v,D',rfl,hs.sub (by intro p hp;cases hp) bPA,hp⟩
theorem _root_.Go.Fs.Zw{f:FuncId}{fn:Func}{c:Code}{args:List Γ}{D:aC}{post:aC→Γ→Prop}(N:Nat)(hf:P.funcs[f]?= some fn)(e9:((fn.name== "runtime.NumGoroutine"),fn.body,fn.ntmps,Nat.ble args.length N)=(false,some c,N,true))(h:∀h0:H0,WC P ⟨none,N,[],h0,h0.size,D,[],none⟩ (bodyPost P fn (qV ⟨none,N,[],h0,h0.size,D,[],none⟩ fun D' v _=>post D' v)) c (jP 0 args) [] [D]):Fn P f args.toArray D post:=enter N hf (bNB (fun z=>z.1) e9) (bNB (fun z=>z.2.1) e9) (bNB (fun z=>z.2.2.1) e9) (bNB (fun z=>z.2.2.2) e9) h
def C5(P:Program)(X:Cx)(σ:bU)(μ:aD):List ResultVar→List Γ→Prop
 | [],[]=>True
 |.tmp t::rs,v::vs=>look σ t=some v∧C5 P X σ μ rs vs
 |.cell a t::rs,v::vs=>(∃b us e,look σ a=some (qP b)∧(b,.cells us e (0,0))∈μ∧
   ((TA P t false∧us=#[v])∨(TA P t true∧TS P t us.size∧v=.agg us)))∧C5 P X σ μ rs vs
 |_,_=>False
def AE(tmps:Array Γ)(r:ResultVar):Sem Γ:=
 match r with
 |.tmp t=>pure (tmps.getD t undef)
 |.cell a t=>do loadVar t (←asAddr (tmps.getD a undef))
theorem HE{a:Act}{w:Δ}(hh:Hl X σ μ Ds a w):∀(rs:List ResultVar) (vs:List Γ),C5 P X σ μ rs vs→(rs.mapM (AE a.tmps)).run P w=.ok vs w
 | [],[],_=>rfl
 | [],_::_,h=>h.elim
 |.tmp t::rs,[],h=>h.elim
 |.cell _ _::rs,[],h=>h.elim
 |.tmp t::rs,v::vs,h=>by
  have hv:=hh.2.1 _ _ h.1;have he:a.tmps.getD t undef=v:=by rw[bOX,hv];rfl
  have h1:(AE a.tmps (.tmp t)).run P w=.ok v w:=by simp only[AE,he,ε]
  rw[bQM,Ω,h1,Ξ,Ω,HE hh rs vs h.2];rfl
 |.cell s t::rs,v::vs,h=>by
  obtain⟨⟨b,us,e,hs,hm,hc⟩,hr⟩:=h;have hv:=hh.2.1 _ _ hs;have he:a.tmps.getD s undef=qP b:=by rw[bOX,hv];rfl
  have hbox:=hh.boxAt (bad:=[]) hm Yf (pX.refl _ w);have hload:(loadVar t ⟨b,0,none⟩).run P w=.ok v w:=by
   rcases hc with⟨ha,hu⟩|⟨ha,hsz,hu⟩
   ·have:=vU (P:=P) (t:=t) (b:=b) (off:=0) (v:=v) ha (sL hbox (by rw[hu];rfl));simpa [Instr.loadAt,Instr.sureAddr]using this
   ·have:=nB (P:=P) (t:=t) (b:=b) (off:=0) (vs:=us.toList) ha (by simpa using hsz) fun j u hj=>sL hbox Xam;rw[hu];simpa [Instr.loadAt,Instr.sureAddr]using this
  have h1:(AE a.tmps (.cell s t)).run P w=.ok v w:=by simp only[AE,he,asAddr,pure_bind];exact hload
  rw[bQM,Ω,h1,Ξ,Ω,HE hh rs vs hr];rfl
def qO:List Γ→Γ
 | [v]=>v
 |vs=>.tuple vs.toArray
theorem jG{fn:Func}{a:Act}{w:Δ}(hh:Hl X σ μ Ds a w){rs:List ResultVar}{vs:List Γ}(hr:fn.results=rs.toArray)(h:C5 P X σ μ rs vs):(results fn a.tmps).run P w=.ok (qO vs) w:=by
 have e:results fn a.tmps=(rs.toArray.mapM (AE a.tmps) >>= fun vs=>Pure.pure (if h:vs.size=1 then vs[0]else .tuple vs)):=by rw[←hr];rfl
 rw[e,List.mapM_toArray,Ω,Sem.run_map,HE hh rs vs h];simp only[Ξ,ε];match vs with
 | []=>rfl
 | [v]=>rfl
 |_::_::_=>rfl
theorem aCO{fn:Func}{post:aC→Γ→aD→Prop}{e:Exit}(he:(match e with|.normal=>true|.ret=>true|_=>false)=true){rs:List ResultVar}{vs:List Γ}(hds:X.ds=[])(hr:fn.results=rs.toArray)(h:C5 P X σ μ rs vs)
  (hp:∀D,(∀D₁∈Ds,Le D₁ D)→post D (qO vs) μ):∀a w,Hl X σ μ Ds a w→bodyPost P fn (qV X post) e a w:=by
 intro a w hh;have hrun:=jG hh hr h;obtain⟨h1,h2,h3,D,h4,h5,h6⟩:=hh;have:a.defers=[]∧∃v,(results fn a.tmps).run P w=.ok v w∧qV X post (.returned v) w:=⟨h3.trans hds,_,hrun,_,D,μ,rfl,h4,hp D h5⟩
 cases e<;>first|exact this|cases he
theorem aE{fn:Func}{post:aC→Γ→aD→Prop}{e:Exit}{t:Nat}{v:Γ}(e9:((match e with|.normal=>true|.ret=>true|_=>false),X.ds,fn.results,look σ t)=(true,[],#[.tmp t],some v))
 (hp:∀D,(∀D₁∈Ds,Le D₁ D)→post D (qO [v]) μ):∀a w,Hl X σ μ Ds a w→bodyPost P fn (qV X post) e a w:=aCO (rs:=[.tmp t]) (vs:=[v]) (bNB (fun z=>z.1) e9) (bNB (fun z=>z.2.1) e9) (bNB (fun z=>z.2.2.1) e9) ⟨bNB (fun z=>z.2.2.2) e9,bSM⟩ hp
theorem _root_.Go.Fs.Zo{fn:Func}{post:aC→Γ→aD→Prop}{e:Exit}{rs:List ResultVar}(vs:List Γ)(e9:((match e with|.normal=>true|.ret=>true|_=>false),X.ds,fn.results)=(true,[],rs.toArray))(h:C5 P X σ μ rs vs)(hp:∀D,(∀D₁∈Ds,Le D₁ D)→post D (qO vs) μ):∀a w,Hl X σ μ Ds a w→bodyPost P fn (qV X post) e a w:=aCO (vs:=vs) (bNB (fun z=>z.1) e9) (bNB (fun z=>z.2.1) e9) (bNB (fun z=>z.2.2) e9) h hp
end Go.Fs
