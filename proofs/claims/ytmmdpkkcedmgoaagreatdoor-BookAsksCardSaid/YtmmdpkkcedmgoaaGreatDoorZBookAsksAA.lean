/- Of BookAsks. -/
import Derived.KernelRfl
import Derived.OrdersIn
import Derived.RangeFuncIn
import Derived.WalkKit
namespace Go
abbrev Γ:=Value
abbrev Δ:=World
abbrev Θ:=TypeId
abbrev Λ:=ByteArray
theorem Ξ:type_of% @Result.andThen_ok:=@Result.andThen_ok
theorem Ω:type_of% @Sem.run_bind:=@Sem.run_bind
theorem ε:type_of% @Sem.run_pure:=@Sem.run_pure
theorem n4 : type_of% @List.not_mem_nil := @List.not_mem_nil
theorem n5 : type_of% @List.mem_of_getElem? := @List.mem_of_getElem?
theorem GE : type_of% @List.mem_map := @List.mem_map
theorem GT : type_of% @List.mem_append_right := @List.mem_append_right
theorem LE : type_of% @List.mem_cons_of_mem := @List.mem_cons_of_mem
theorem LT : type_of% @decide_eq_true_eq := @decide_eq_true_eq
theorem bLO : type_of% @List.mem_cons := @List.mem_cons
theorem bLP : type_of% @List.mem_cons_self := @List.mem_cons_self
theorem bLQ : type_of% @Bool.and_eq_true := @Bool.and_eq_true
theorem bLR : type_of% @List.getElem?_eq_getElem := @List.getElem?_eq_getElem
theorem bLS : type_of% @List.getElem?_eq_some_iff := @List.getElem?_eq_some_iff
theorem bLT : type_of% @List.length_append := @List.length_append
theorem bLU : type_of% @List.length_cons := @List.length_cons
theorem bLV : type_of% @decide_eq_false_iff_not := @decide_eq_false_iff_not
theorem bLW : type_of% @List.take_add_one := @List.take_add_one
theorem bLX : type_of% @if_neg := @if_neg
theorem bLY : type_of% @Or.inr := @Or.inr
theorem bLZ : type_of% @congrArg := @congrArg
theorem bMA : type_of% @List.mem_append_left := @List.mem_append_left
theorem bMB : type_of% @List.nodup_append := @List.nodup_append
theorem bMC : type_of% @List.append_assoc := @List.append_assoc
theorem bMD : type_of% @List.mem_append := @List.mem_append
theorem bME : type_of% @List.map_append := @List.map_append
theorem bMF : type_of% @Or.inl := @Or.inl
theorem bMG : type_of% @if_pos := @if_pos
theorem bMH : type_of% @Nat.le_refl := @Nat.le_refl
theorem bMI : type_of% @List.mem_singleton := @List.mem_singleton
theorem bMJ : type_of% @List.Mem.tail := @List.Mem.tail
theorem bMK : type_of% @List.all_eq_true := @List.all_eq_true
theorem bML : type_of% @of_decide_eq_false := @of_decide_eq_false
theorem bMM : type_of% @List.append_nil := @List.append_nil
theorem bMN : type_of% @of_decide_eq_true := @of_decide_eq_true
theorem bMO : type_of% @List.foldl_cons := @List.foldl_cons
theorem bMP : type_of% @List.take_length := @List.take_length
theorem bMQ : type_of% @Option.some.inj := @Option.some.inj
theorem bMR : type_of% @Option.toList_some := @Option.toList_some
theorem bMS : type_of% @List.flatMap_cons := @List.flatMap_cons
theorem bMT : type_of% @List.map_cons := @List.map_cons
theorem bMU : type_of% @Bool.or_eq_true := @Bool.or_eq_true
theorem bMV : type_of% @List.take_of_length_le := @List.take_of_length_le
theorem bMW : type_of% @List.nil_append := @List.nil_append
theorem bMX : type_of% @List.Sublist.cons := @List.Sublist.cons
theorem bMY : type_of% @List.filter_append := @List.filter_append
theorem bMZ : type_of% @List.flatMap_append := @List.flatMap_append
theorem bNA : type_of% @List.size_toArray := @List.size_toArray
theorem bNB : type_of% @List.getElem?_map := @List.getElem?_map
theorem bNC : type_of% @List.drop_eq_getElem_cons := @List.drop_eq_getElem_cons
theorem bND : type_of% @List.range_succ := @List.range_succ
theorem bNE : type_of% @List.length_map := @List.length_map
theorem bNF : type_of% @List.length_filter_le := @List.length_filter_le
theorem bNG : type_of% @Bool.or_eq_false_iff := @Bool.or_eq_false_iff
theorem bNH : type_of% @List.take_append_of_le_length := @List.take_append_of_le_length
theorem bNI : type_of% @Int.toNat_natCast := @Int.toNat_natCast
theorem bNJ : type_of% @List.mem_range := @List.mem_range
theorem bNK : type_of% @List.drop_eq_nil_of_le := @List.drop_eq_nil_of_le
theorem bNL : type_of% @Option.map_some := @Option.map_some
theorem bNM : type_of% @List.foldl_append := @List.foldl_append
theorem bNN : type_of% @Bool.false_eq_true := @Bool.false_eq_true
theorem bNO : type_of% @Nat.eq_of_beq_eq_true := @Nat.eq_of_beq_eq_true
theorem bNP : type_of% @List.nodup_cons := @List.nodup_cons
theorem bNQ : type_of% @Nat.pow_le_pow_right := @Nat.pow_le_pow_right
theorem bNR : type_of% @List.getD_eq_getElem?_getD := @List.getD_eq_getElem?_getD
theorem bNS : type_of% @Array.getD_eq_getD_getElem? := @Array.getD_eq_getD_getElem?
theorem bNT : type_of% @List.length_take := @List.length_take
theorem bNU : type_of% @List.length_nil := @List.length_nil
theorem bNV : type_of% @or_false := @or_false
theorem bNW : type_of% @List.nodup_nil := @List.nodup_nil
theorem bNX : type_of% @List.getElem?_append_left := @List.getElem?_append_left
theorem bNY : type_of% @Nat.mul_one := @Nat.mul_one
theorem bNZ : type_of% @Nat.le_of_ble_eq_true := @Nat.le_of_ble_eq_true
theorem bOA : type_of% @List.filter_cons := @List.filter_cons
theorem bOB : type_of% @Nat.le_trans := @Nat.le_trans
theorem bOC : type_of% @if_true := @if_true
theorem bOD : type_of% @List.length_singleton := @List.length_singleton
theorem bOE : type_of% @List.flatMap_singleton := @List.flatMap_singleton
theorem bOF : type_of% @List.cons_append := @List.cons_append
theorem bOG : type_of% @Option.map_none := @Option.map_none
theorem bOH : type_of% @List.cons.injEq := @List.cons.injEq
theorem bOI : type_of% @Nat.lt_of_lt_of_le := @Nat.lt_of_lt_of_le
theorem bOJ : type_of% @List.getElem?_drop := @List.getElem?_drop
theorem bOK : type_of% @Nat.add_mul := @Nat.add_mul
theorem bOL : type_of% @List.eq_nil_of_length_eq_zero := @List.eq_nil_of_length_eq_zero
theorem bOM : type_of% @Nat.zero_add := @Nat.zero_add
theorem bON : type_of% @Array.getElem?_append_left := @Array.getElem?_append_left
theorem bOO : type_of% @if_false := @if_false
theorem bOP : type_of% @List.getElem?_eq_none := @List.getElem?_eq_none
theorem bOQ : type_of% @Bool.not_eq_true' := @Bool.not_eq_true'
theorem bOR : type_of% @Array.getElem?_setIfInBounds_ne := @Array.getElem?_setIfInBounds_ne
theorem bOS : type_of% @List.length_drop := @List.length_drop
theorem bOT : type_of% @List.length_take_le := @List.length_take_le
theorem bOU : type_of% @List.getElem?_take_of_lt := @List.getElem?_take_of_lt
theorem bOV : type_of% @List.getElem?_append_right := @List.getElem?_append_right
theorem bOW : type_of% @Array.getElem?_eq_some_iff := @Array.getElem?_eq_some_iff
theorem bOX : type_of% @Bool.eq_iff_iff := @Bool.eq_iff_iff
theorem bOY : type_of% @Option.map_eq_some_iff := @Option.map_eq_some_iff
theorem bOZ : type_of% @List.mem_filter := @List.mem_filter
theorem bPA : type_of% @List.map_singleton := @List.map_singleton
theorem bPB : type_of% @List.take_append_drop := @List.take_append_drop
theorem bPC : type_of% @List.length_pos_iff := @List.length_pos_iff
theorem bPD : type_of% @List.length_eq_zero_iff := @List.length_eq_zero_iff
theorem bPE : type_of% @List.mem_flatMap := @List.mem_flatMap
theorem bPF : type_of% @List.getLast?_eq_some_getLast := @List.getLast?_eq_some_getLast
theorem bPG : type_of% @Nat.mul_le_mul_right := @Nat.mul_le_mul_right
theorem bPH : type_of% @Nat.min_eq_left := @Nat.min_eq_left
theorem bPI : type_of% @List.singleton_append := @List.singleton_append
theorem bPJ : type_of% @List.any_append := @List.any_append
theorem bPK : type_of% @Option.getD_some := @Option.getD_some
theorem bPL : type_of% @List.mapM_cons := @List.mapM_cons
theorem bPM : type_of% @List.zip_cons_cons := @List.zip_cons_cons
theorem bPN : type_of% @List.drop_zero := @List.drop_zero
theorem bPO : type_of% @Prod.mk.injEq := @Prod.mk.injEq
theorem bPP : type_of% @List.mem_iff_getElem? := @List.mem_iff_getElem?
theorem bPQ : type_of% @List.length_range := @List.length_range
theorem bPR : type_of% @List.length_set := @List.length_set
theorem bPS : type_of% @List.all_cons := @List.all_cons
theorem bPT : type_of% @Bool.true_and := @Bool.true_and
theorem bPU : type_of% @Nat.sub_zero := @Nat.sub_zero
theorem bPV : type_of% @Option.some.injEq := @Option.some.injEq
theorem bPW : type_of% @List.getElem?_range := @List.getElem?_range
theorem bPX : type_of% @Array.getElem?_eq_getElem := @Array.getElem?_eq_getElem
theorem bPY : type_of% @Nat.zero_mul := @Nat.zero_mul
theorem bPZ : type_of% @List.drop_append := @List.drop_append
theorem bQA : type_of% @List.any_eq_true := @List.any_eq_true
theorem bQB : type_of% @List.map_nil := @List.map_nil
theorem bQC : type_of% @List.map_map := @List.map_map
theorem bQD : type_of% @Classical.not_not := @Classical.not_not
theorem bQE : type_of% @Nat.not_lt_zero := @Nat.not_lt_zero
theorem bQF : type_of% @List.drop_length_add_append := @List.drop_length_add_append
theorem bQG : type_of% @Int.natCast_nonneg := @Int.natCast_nonneg
theorem bQH : type_of% @Bool.not_eq_false' := @Bool.not_eq_false'
theorem bQI : type_of% @Bool.and_eq_false_iff := @Bool.and_eq_false_iff
theorem bQJ : type_of% @Nat.mul_le_mul := @Nat.mul_le_mul
theorem bQK : type_of% @List.mem_of_mem_take := @List.mem_of_mem_take
theorem bQL : type_of% @List.contains_eq_mem := @List.contains_eq_mem
theorem bQM : type_of% @not_false_eq_true := @not_false_eq_true
theorem bQN : type_of% @List.map_congr_left := @List.map_congr_left
theorem bQO : type_of% @List.Mem.head := @List.Mem.head
theorem bQP : type_of% @List.drop_length := @List.drop_length
theorem bQQ : type_of% @Array.toList_map := @Array.toList_map
theorem bQR : type_of% @beq_iff_eq := @beq_iff_eq
theorem bQS : type_of% @List.take_left := @List.take_left
theorem bQT : type_of% @and_self := @and_self
theorem bQU : type_of% @List.nil_prefix := @List.nil_prefix
theorem bQV : type_of% @List.all_eq_false := @List.all_eq_false
theorem bQW : type_of% @List.Sublist.refl := @List.Sublist.refl
theorem bQX : type_of% @not_or := @not_or
theorem bQY : type_of% @List.length_eraseIdx_of_lt := @List.length_eraseIdx_of_lt
theorem bQZ : type_of% @List.getElem?_zip_eq_some := @List.getElem?_zip_eq_some
theorem bRA : type_of% @Int.mul_nonneg := @Int.mul_nonneg
theorem bRB : type_of% @Nat.zero_le := @Nat.zero_le
theorem bRC : type_of% @Nat.add_zero := @Nat.add_zero
theorem bRD : type_of% @trivial := @trivial
theorem Mm0{α:Type}{a:α}{l:List α}:a∈a::l:=bQO _
theorem Mm1{α:Type}{a b:α}{l:List α}:a∈b::a::l:=bMJ _ (bQO _)
theorem Mm2{α:Type}{a b c:α}{l:List α}:a∈b::c::a::l:=bMJ _ (bMJ _ (bQO _))
theorem Mm3{α:Type}{a b c d:α}{l:List α}:a∈b::c::d::a::l:=bMJ _ (bMJ _ (bMJ _ (bQO _)))
theorem Mm5{α:Type}{l:List α}:l.Sublist l:=bQW _
theorem Ya{p:Prop}(h:p:=by first|rfl|(show some (Value.int _ _)=some (Value.int _ _);congr 2;omega)):p:=h
theorem Yb{p:Prop}(h:p:=by first|rfl|(simp only[aM, *];done)|(simp only[aM, *];rfl)|(simp only[aM, *];omega)):p:=h
theorem Yc{p:Prop}(h:p:=by first|simp|assumption):p:=h
theorem Yd{p:Prop}(h:p:=by omega):p:=h
theorem Ye{p:Prop}(h:p:=by simp only[tQ];omega):p:=h
theorem Yf{p:Prop}(h:p:=by simp):p:=h
theorem Yg{p:Prop}(h:p:=by kernel_rfl):p:=h
theorem Yh{p:Prop}(h:p:=by first|exact dS _|simp[cell1]):p:=h
theorem Yi{p:Prop}(h:p:=by exact fun p hp=>by cases hp):p:=h
theorem Yj{p:Prop}(h:p:=by exact oL fun _=>by simp only[List.count_append,List.count_cons,List.count_nil,dR];omega):p:=h
theorem Yk{p:Prop}(h:p:=by simp[cell1]):p:=h
theorem Yl{p:Prop}(h:p:=by assumption):p:=h
theorem Ym{p:Prop}(h:p:=by first|assumption|simp):p:=h
theorem Yn{p:Prop}(h:p:=by simp only;omega):p:=h
theorem Yo{p:Prop}(h:p:=by first|exact Or.inl rfl|exact Or.inr fun p hp=>dC.in_ (hnu p hp)):p:=h
theorem Yp{p:Prop}(h:p:=by exact fun D0 h=>by simp only[bLO,n4,bNV]at h;rcases h with rfl|rfl|rfl|rfl<;>exact⟨_,by simp,Le.refl _⟩):p:=h
theorem Yq{p:Prop}(h:p:=by first|exact Or.inl rfl|exact Or.inr fun p hp=>dC.in_ (hnu p (by simp[hp]))):p:=h
theorem Yr{p:Prop}(h:p:=by first|omega|(simp only[ByteArray.size_append,EH,I5,bNA,bLU,bNU];omega)):p:=h
theorem Ys{p:Prop}(h:p:=by exact fun D0 h=>by simp only[bLO,n4,bNV]at h;rcases h with h|h|h;exact⟨Dn,by simp,h▸Le.refl _⟩;exact⟨E1,by simp,h▸Le.refl _⟩;exact⟨D,by simp,h▸Le.refl _⟩):p:=h
theorem Yt{p:Prop}(h:p:=by rw[←hHas.keys];exact GE.2 ⟨p,hp,rfl⟩):p:=h
theorem Yu{p:Prop}(h:p:=by decide):p:=h
theorem Yw{p:Prop}(h:p:=by exact oL fun _=>by simp only[List.count_append,List.count_cons,List.count_nil,dR,iG];omega):p:=h
theorem Yx{p:Prop}(h:p:=by exact fun D0 h=>by simp only[bLO,n4,bNV]at h;rcases h with h|h|h|h;exact⟨Dn,by simp,h▸Le.refl _⟩;exact⟨Do,by simp,h▸Le.refl _⟩;exact⟨E1,by simp,h▸Le.refl _⟩;exact⟨D,by simp,h▸Le.refl _⟩):p:=h
theorem Yy{p:Prop}(h:p:=by exact oL fun _=>by simp only[List.count_append,List.count_cons,List.count_nil,dR,mA];omega):p:=h
theorem Yz{p:Prop}(h:p:=by exact fun D0 h=>by simp only[bLO,n4,bNV]at h;rcases h with h|h;exact⟨D10,by simp,h▸Le.refl _⟩;exact⟨D,by simp,h▸Le.refl _⟩):p:=h
theorem Yaa{p:Prop}(h:p:=by rw[bMI];rintro rfl;exact hap (GE.2 ⟨_,bMJ _ Mm0,rfl⟩)):p:=h
theorem Yab{p:Prop}(h:p:=by first|omega|(simp only[bPR];omega)):p:=h
theorem Yac{p:Prop}(h:p:=by first|exact oQ|(simp only[aM, *];exact oQ)):p:=h
theorem Yad{p:Prop}(h:p:=by first|exact jL|(simp only[aM, *];exact jL)):p:=h
theorem Yae{p:Prop}(h:p:=by first|exact eH|(simp only[aM, *];exact eH)):p:=h
theorem Yaf{p:Prop}(h:p:=by rw[bLT,hl1,←bOK];exact bOB (bPG _ Yd) (Nat.le_add_right _ _)):p:=h
theorem Yag{p:Prop}(h:p:=by exact oL fun _=>by simp only[List.count_append,List.count_cons,List.count_nil,dR,kR];omega):p:=h
theorem Yah{p:Prop}(h:p:=by exact oL fun _=>by simp only[List.count_append,List.count_cons,List.count_nil,dR,oY];omega):p:=h
theorem Yai{p:Prop}(h:p:=by first|omega|(simp only;omega)):p:=h
theorem Yaj{p:Prop}(h:p:=by first|exact N3 h4 h5|(rw[List.getElem?_set_ne Yd,List.getElem?_set_ne Yd];exact N3 h4 h5)|(rw[List.getElem?_set_ne Yd,List.getElem?_set_ne Yd,List.getElem?_set_ne Yd];exact N3 h4 h5)):p:=h
theorem Yak{p:Prop}(h:p:=by rwa [bMV Yd]at h2):p:=h
theorem Yal{p:Prop}(h:p:=by exact fun D0 h=>by simp only[bLO,n4,bNV]at h;rcases h with rfl|rfl<;>exact⟨_,by simp,Le.refl _⟩):p:=h
theorem Yam{p:Prop}(h:p:=by unfold pL;simp only[];repeat (first|rw[bMG Yd]|rw[bLX Yd])):p:=h
theorem Yan{p:Prop}(h:p:=by unfold pJ;simp only[];repeat (first|rw[bMG Yd]|rw[bLX Yd])):p:=h
theorem Yao{p:Prop}(h:p:=by first|rfl|(simp only[*];done)|(simp only[aM, *];rfl)|(simp only[aM, *];omega)):p:=h
theorem Yap{p:Prop}(h:p:=by simp;omega):p:=h
theorem Yaq{p:Prop}(h:p:=by rw[bMI];rintro rfl;exact hap (GE.2 ⟨p,bMA _ hp,rfl⟩)):p:=h
theorem Yar{p:Prop}(h:p:=by first|exact Or.inl rfl|exact Or.inr Yi):p:=h
theorem Yas{p:Prop}(h:p:=by simpa using hi):p:=h
theorem Yat{p:Prop}(h:p:=by simpa using hc2):p:=h
theorem Yau{p:Prop}(h:p:=by exact fun D0 h=>by simp only[bLO,n4,bNV]at h;rcases h with h|h|h;exact⟨D901,by simp,h▸Le.refl _⟩;exact⟨E1,by simp,h▸Le.refl _⟩;exact⟨D,by simp,h▸Le.refl _⟩):p:=h
theorem Yav{p:Prop}(h:p:=by exact fun D0 h=>by simp only[bLO,n4,bNV]at h;rcases h with h|h|h;exact⟨D,by simp,h▸Le.refl _⟩;exact⟨E1,by simp,h▸Le.refl _⟩;exact⟨D,by simp,h▸Le.refl _⟩):p:=h
theorem Yaw{p:Prop}(h:p:=by first|assumption|exact LE _ hDr):p:=h
theorem Yax{p:Prop}(h:p:=by simpa using h):p:=h
theorem Yay{p:Prop}(h:p:=by simpa using hl):p:=h
theorem Yaz{p:Prop}(h:p:=by rw[←hm.keys];exact GE.2 ⟨p,hp,rfl⟩):p:=h
theorem Ya0{p:Prop}(h:p:=by rw[bNI];exact aDD hb):p:=h
theorem Ya1{p:Prop}(h:p:=by unfold tZ;simp only[];repeat (first|rw[bMG Yd]|rw[bLX Yd])):p:=h
theorem Ya2{p:Prop}(h:p:=by unfold zW;simp only[];repeat (first|rw[bMG Yd]|rw[bLX Yd])):p:=h
theorem Ya3{p:Prop}(h:p:=by unfold B6;simp only[];repeat (first|rw[bMG Yd]|rw[bLX Yd])):p:=h
theorem Ya4{p:Prop}(h:p:=by unfold C9;simp only[];repeat (first|rw[bMG Yd]|rw[bLX Yd])):p:=h
theorem Ya5{p:Prop}(h:p:=by unfold o9;simp only[];repeat (first|rw[bMG Yd]|rw[bLX Yd])):p:=h
theorem Ya6{p:Prop}(h:p:=by unfold Y1;simp only[];repeat (first|rw[bMG Yd]|rw[bLX Yd])):p:=h
theorem Ya7{p:Prop}(h:p:=by unfold G5;simp only[];repeat (first|rw[bMG Yd]|rw[bLX Yd])):p:=h
theorem Ya8{p:Prop}(h:p:=by rw[bMW]):p:=h
theorem Ya9{p:Prop}(h:p:=by have:=hin.2;omega):p:=h
theorem Yba{p:Prop}(h:p:=by cases k<;>simp[binOp,Op.intCmp,Pure.pure]):p:=h
theorem Ybb{p:Prop}(h:p:=by rfl):p:=h
theorem Ybc{p:Prop}(h:p:=by first|exact Or.inl rfl|exact Or.inr hbx):p:=h
theorem Ybd{p:Prop}(h:p:=by first|exact Or.inl rfl|exact Or.inr Yf):p:=h
theorem Ybe{p:Prop}(h:p:=by cases k<;>simp[binOp,Op.intArith,sF hr,Pure.pure]):p:=h
theorem Ybf{p:Prop}(h:p:=by cases b2<;>simp at hJ2;exact bLY hJ2;exact bMF hJ2):p:=h
theorem Ybg{p:Prop}(h:p:=by simp only[ByteArray.size_append,EH,I5,bNA,bLU,bNU];omega):p:=h
theorem Ybh{p:Prop}(h:p:=by rw[h];simp):p:=h
theorem Xaa{p:Prop}(h:p:=by decide+kernel):p:=h
theorem Xab{p:Prop}(h:p:=by cases h):p:=h
theorem Xac{p:Prop}(h:p:=by simp[FW]at h):p:=h
theorem Xad{p:Prop}(h:p:=by simp at h):p:=h
theorem Xae{p:Prop}(h:p:=by simpa using h1):p:=h
theorem Xaf{p:Prop}(h:p:=by rw[e];rfl):p:=h
theorem Xag{p:Prop}(h:p:=by simp[hm]):p:=h
theorem Xah{p:Prop}(h:p:=by show Value.int _ _=_;rw[hC Yak]):p:=h
theorem Xai{p:Prop}(h:p:=by show Value.bool (decide _)=_;rw[lC]):p:=h
theorem Xaj{p:Prop}(h:p:=by simpa [ints]using bM.nil):p:=h
theorem Xak{p:Prop}(h:p:=by first|exact eH|(simp only[*];exact eH)):p:=h
theorem Xal{p:Prop}(h:p:=by simpa using h2):p:=h
theorem Xam{p:Prop}(h:p:=by show Value.int _ _=_;rw[kY hx h2 hc2]):p:=h
theorem Xan{p:Prop}(h:p:=by show Value.bool (!_)=_;rw[oO]):p:=h
theorem Xao{p:Prop}(h:p:=by simpa using hc3):p:=h
theorem Xap{p:Prop}(h:p:=by simpa using hs9):p:=h
theorem Xaq{p:Prop}(h:p:=by simpa using hf50):p:=h
theorem Xar{p:Prop}(h:p:=by simpa using bM.nil):p:=h
theorem Xas{p:Prop}(h:p:=by first|exact fO|(simp only[aM, *];exact fO)):p:=h
theorem Xat{p:Prop}(h:p:=by simpa using hx):p:=h
theorem Xau{p:Prop}(h:p:=by simpa using hm):p:=h
theorem Xav{p:Prop}(h:p:=by rw[h1.size];exact hil):p:=h
theorem Xaw{p:Prop}(h:p:=by rw[hs.dold _ hl];exact h2):p:=h
theorem Xax{p:Prop}(h:p:=by rw[hw'.1];simp):p:=h
theorem Xay{p:Prop}(h:p:=by simpa using hk):p:=h
theorem Xaz{p:Prop}(h:p:=by unfold S2;rw[hex];trivial):p:=h
theorem Xba{p:Prop}(h:p:=by have:=hok.len9;omega):p:=h
theorem Xbb{p:Prop}(h:p:=by simpa using dS _):p:=h
theorem Xbc{p:Prop}(h:p:=by first|exact cQ|(simp only[bNA,aM, *];exact cQ)):p:=h
theorem Xbd{p:Prop}(h:p:=by first|exact eF|(simp only[bNA,aM, *];exact eF)):p:=h
theorem Xbe{p:Prop}(h:p:=by simpa using hc1):p:=h
theorem Xbf{p:Prop}(h:p:=by simpa using hp5.1):p:=h
theorem Xbg{p:Prop}(h:p:=by simpa using hf52):p:=h
theorem Xbh{p:Prop}(h:p:=by simp only[bLO,n4,bNV]at hp;rcases hp with rfl|rfl<;>rfl):p:=h
theorem Xbi{p:Prop}(h:p:=by rcases bLO.1 hp with rfl|hp;exact Or.inr (bMH _);exact Or.inl (GE.2 ⟨p,hp,rfl⟩)):p:=h
theorem Xbj{p:Prop}(h:p:=by rw[h0]at hb;exact absurd hb (bQE _)):p:=h
theorem Xbk{p:Prop}(h:p:=by rw[hs.old _ hl hne];exact h1):p:=h
theorem Xbl{p:Prop}(h:p:=by show Value.int _ _=_;rw[L1.kY hx h2 hc2]):p:=h
theorem Xbm{p:Prop}(h:p:=by show Value.int _ _=_;rw[L1.hC Yak]):p:=h
theorem Xbn{p:Prop}(h:p:=by show Value.bool (decide _)=_;rw[L1.lC]):p:=h
theorem Xbo{p:Prop}(h:p:=by simp only[bMI]at h;subst h;simp):p:=h
theorem Xbp{p:Prop}(h:p:=by first|exact iE|(simp only[bNA,aM, *];exact iE)):p:=h
theorem Xbq{p:Prop}(h:p:=by show Value.bool (!_)=_;rw[L1.oO]):p:=h
theorem Xbr{p:Prop}(h:p:=by show Value.tuple _=_;rw[bMG he0,he0];rfl):p:=h
theorem Xbs{p:Prop}(h:p:=by rw[show(ints _).length=10 by simp[hs10]];exact eD):p:=h
theorem Xbt{p:Prop}(h:p:=by rw[show(ints _).toArray.size=10 by simp[hs10]];exact eD):p:=h
theorem Xbu{p:Prop}(h:p:=by unfold zY;simp only[];repeat (first|rw[bMG Yd]|rw[bLX Yd])):p:=h
theorem Xbv{p:Prop}(h:p:=by unfold A8;simp only[];repeat (first|rw[bMG Yd]|rw[bLX Yd])):p:=h
theorem Xbw{p:Prop}(h:p:=by unfold NN;simp only[];repeat (first|rw[bMG Yd]|rw[bLX Yd])):p:=h
theorem Xbx{p:Prop}(h:p:=by unfold Z8;simp only[];repeat (first|rw[bMG Yd]|rw[bLX Yd])):p:=h
theorem Xby{p:Prop}(h:p:=by unfold PM;simp only[];repeat (first|rw[bMG Yd]|rw[bLX Yd])):p:=h
theorem Xbz{p:Prop}(h:p:=by simp[mP,X2]<;>omega):p:=h
theorem Xca{p:Prop}(h:p:=by rw[←Act.put_comm a v u h2];exact he.2):p:=h
theorem Xcb{p:Prop}(h:p:=by unfold S2;show(match X.ex with|none=>True|some J=>_);rw[hex];trivial):p:=h
theorem Xcc{p:Prop}(h:p:=by simp only[bMI]at h1;subst h1;exact Le.refl _):p:=h
theorem Xcd{p:Prop}(h:p:=by show nV bd::X.ds=_;rw[hds]):p:=h
theorem Xce{p:Prop}(h:p:=by show Value.int _ _=_;rw[bMV Yd]):p:=h
theorem Xcf{p:Prop}(h:p:=by first|exact uE|(simp only[aM, *];exact uE)):p:=h
theorem Xcg{p:Prop}(h:p:=by first|exact cN|(simp only[bNA,aM, *];exact cN)):p:=h
theorem Xch{p:Prop}(h:p:=by rw[mH];split<;>simp only[tQ]<;>omega):p:=h
theorem Xci{p:Prop}(h:p:=by first|exact jL|(simp only[*];exact jL)):p:=h
theorem Xcj{p:Prop}(h:p:=by show Value.tuple _=_;rw[bLX hc1];rfl):p:=h
theorem Xck{p:Prop}(h:p:=by show Value.bool _=_;rw[bPN,N4]):p:=h
theorem Xcl{p:Prop}(h:p:=by rw[show(ints (X1 (dK y (W4 x)))).length=9 by simpa using hs9];exact hZ):p:=h
theorem Xcm{p:Prop}(h:p:=by unfold qY;simp only[];repeat (first|rw[bMG Yd]|rw[bLX Yd])):p:=h
theorem Xcn{p:Prop}(h:p:=by unfold tJ;simp only[];repeat (first|rw[bMG Yd]|rw[bLX Yd])):p:=h
theorem Xco{p:Prop}(h:p:=by unfold tR;simp only[];repeat (first|rw[bMG Yd]|rw[bLX Yd])):p:=h
theorem Xcp{p:Prop}(h:p:=by unfold qH;simp only[];repeat (first|rw[bMG Yd]|rw[bLX Yd])):p:=h
theorem Xcq{p:Prop}(h:p:=by first|omega|(simp only[];omega)):p:=h
theorem Xcr{p:Prop}(h:p:=by first|exact qK|(simp only[bNA,aM, *];exact qK)):p:=h
theorem Xcs{p:Prop}(h:p:=by first|exact pZ|(simp only[bNA,aM, *];exact pZ)):p:=h
theorem Xct{p:Prop}(h:p:=by obtain⟨a,b,c,d,e⟩:=hlin l hl;exact⟨a,b,by omega,d,by omega⟩):p:=h
theorem Xcu{p:Prop}(h:p:=by cases k<;>(simp[binOp,Op.intCmp,Pure.pure];by_cases h:m=n<;>simp[h])):p:=h
theorem Xcv{p:Prop}(h:p:=by simp only[show(0:Nat)≠w.heap.size by have:=h.agr.pos;omega,bOO]):p:=h
theorem Xcw{p:Prop}(h:p:=by rcases bMD.1 hp with hp|hp;exact bMA _ (bMA _ hp);exact GT _ hp):p:=h
theorem Xcx{p:Prop}(h:p:=by simp only[execOp,hρ x _ hx,hρ y _ hy];rw[Ω,hr w'];rfl):p:=h
theorem Xcy{p:Prop}(h:p:=by unfold iT;rw[bLX (fun e=>hM p hp (by rw[e];exact hbo))];exact p2):p:=h
theorem Xcz{p:Prop}(h:p:=by show Value.bool (decide (n≥lo)&&decide (n≤hi))=_;rfl):p:=h
theorem Xda{p:Prop}(h:p:=by obtain⟨p,hp,rfl⟩:=GE.1 hbm;exact bO (hb p hp).1):p:=h
theorem Xdb{p:Prop}(h:p:=by simpa using IQ (f:=cL) (n:=3) (k:=2) (fun _=>rfl) hx Yd rfl):p:=h
theorem Xdc{p:Prop}(h:p:=by simp only[bLO,n4,bNV]at hD ⊢;rcases hD with rfl|rfl|rfl|rfl<;>simp):p:=h
theorem Xdd{p:Prop}(h:p:=by rw[hp];exact⟨pv,cv,hv,lv,mv,bl,bc,yc,yq,rfl,hL.up (hD _ Yf)⟩):p:=h
theorem Xde{p:Prop}(h:p:=by show some (Value.int _ _)=some (Value.int _ _);congr 2;simp only;omega):p:=h
theorem Xdf{p:Prop}(h:p:=by rw[bMI];rintro rfl;exact hap (GE.2 ⟨_,Mm1,rfl⟩)):p:=h
theorem Xdg{p:Prop}(h:p:=by rw[bMI];rintro rfl;exact hap (GE.2 ⟨_,Mm0,rfl⟩)):p:=h
theorem Xdh{p:Prop}(h:p:=by show Value.bool _=_;rw[PG hp hq2 hx1 hx2,SP hpb hqb]):p:=h
structure τ(q:Prop):Prop where
 o:q
variable{p q:Prop}
theorem Wa(k:q)(h:τ q→p:=by intro zz;refine Za3<|Zay<|aP<|Za rfl<|Zae rfl<|Zf rfl<|Zan zz.o):p:=h ⟨k⟩
theorem Wb(k:q)(h:τ q→p:=by intro zz;refine Zg rfl<|Zg rfl<|Zg rfl<|Zak rfl zz.o):p:=h ⟨k⟩
theorem Wc(k:q)(h:τ q→p:=by intro zz;refine Za3<|Zay<|aP<|Zae rfl<|Za rfl<|Zan zz.o):p:=h ⟨k⟩
theorem Wd(k:q)(h:τ q→p:=by intro zz;refine Za rfl<|aF<|Za0<|bK (γ:=Nat) (fun k=>xs.length-k) (fun k=>k≤xs.length∧(xs.take k).any p=false) (fun k=>[(8,qI k)]) [(7,_),(4,_),(0,_),(1,_)] (fun k=>[D]) 0 Yf ⟨Ya,bRD⟩ bQ (aK) zz.o):p:=h ⟨k⟩
theorem We(k:q)(h:τ q→p:=by intro zz;refine Zf rfl<|aG zz.o):p:=h ⟨k⟩
theorem Wf(k:q)(h:τ q→p:=by intro zz;refine Zg rfl<|Zg rfl<|Zg rfl<|Zg rfl<|Zaj rfl zz.o):p:=h ⟨k⟩
theorem Wg(k:q)(h:τ q→p:=by intro zz;refine aA<|Zf rfl<|aG<|Zaz<|Za4<|Zaz zz.o):p:=h ⟨k⟩
theorem Wh(k:q)(h:τ q→p:=by intro zz;refine Zf rfl<|aG<|Za4<|Zaz<|Zaz<|Za4<|Zaz zz.o):p:=h ⟨k⟩
theorem Wi(k:q)(h:τ q→p:=by intro zz;refine Zf rfl<|aG<|Zaz zz.o):p:=h ⟨k⟩
theorem Wj(k:q)(h:τ q→p:=by intro zz;refine gX rfl rfl rfl rfl ⟨_,rfl,rfl⟩<|Zaj rfl zz.o):p:=h ⟨k⟩
theorem Wk(k:q)(h:τ q→p:=by intro zz;refine Za5<|Za1<|Za1<|Za6<|Zay<|aA<|We zz.o):p:=h ⟨k⟩
theorem Wl(k:q)(h:τ q→p:=by intro zz;refine Za5<|Za1<|Za1<|Za6<|Zay<|aA<|Za rfl<|We zz.o):p:=h ⟨k⟩
theorem Wm(k:q)(h:τ q→p:=by intro zz;refine aA<|Zf rfl<|aG<|Za4<|Zaz zz.o):p:=h ⟨k⟩
theorem Wn(k:q)(h:τ q→p:=by intro zz;refine Zab ((q5,_)::(q4,qC [u] 35)::(q3,qC [v] 212)::(wb,qC [cv,qI y.fit,qv,.map (some mb)] 319)::(mb,.map U V)::(ν1x++(ω1x++[(l,_),(bd,_)]))) ((bMC _ _ _).trans (bMC _ _ _))<|cY rfl rfl rfl ha1x.cells1 Z1 (.tail (.tail .head)) Yf rfl ha1x.cell1 bRD<|cY rfl rfl rfl ha2x.cells1 fK (.tail .head) Yf rfl ha2x.cell1 bRD zz.o):p:=h ⟨k⟩
theorem Wo(k:q)(h:τ q→p:=by intro zz;refine Zg rfl<|Zg rfl<|Zg rfl<|Wb zz.o):p:=h ⟨k⟩
theorem Wp(k:q)(h:τ q→p:=by intro zz;refine cD rfl U265 aI rfl rfl Yu Yu rfl ⟨_,rfl,rfl⟩<|Zp rfl aH rfl Mm1 rfl<|cD rfl U265 aI rfl rfl Yu Yu rfl ⟨_,rfl,rfl⟩<|Zp rfl aH rfl Mm0 rfl<|wJ rfl rfl rfl Ye rfl ⟨_,rfl,rfl⟩<|Zar rfl<|Zaj rfl zz.o):p:=h ⟨k⟩
theorem Wq(k:q)(h:τ q→p:=by intro zz;refine cD rfl U265 aI rfl rfl Yu Yu rfl ⟨_,rfl,rfl⟩<|Zp rfl aH rfl Mm0 rfl<|cD rfl U265 aI rfl rfl Yu Yu rfl ⟨_,rfl,rfl⟩<|Zp rfl aH rfl Mm1 rfl<|wJ rfl rfl rfl Ye rfl ⟨_,rfl,rfl⟩<|Zar rfl<|Zaj rfl zz.o):p:=h ⟨k⟩
theorem Wr(k:q)(h:τ q→p:=by intro zz;refine Zg rfl<|Zg rfl<|Zg rfl<|Zg rfl<|Zg rfl<|Zg rfl<|Zg rfl<|Zg rfl zz.o):p:=h ⟨k⟩
theorem Ws(k:q)(h:τ q→p:=by intro zz;refine Zg rfl<|Zg rfl<|oV rfl rfl rfl rfl ⟨_,rfl,rfl⟩ zz.o):p:=h ⟨k⟩
theorem Wt(k:q)(h:τ q→p:=by intro zz;refine Zf rfl<|Zan<|Wa zz.o):p:=h ⟨k⟩
theorem Wu(k:q)(h:τ q→p:=by intro zz;refine gJ hA rfl rfl rfl rfl (.tail (.tail (.tail ζ))) eR rfl<|Zan zz.o):p:=h ⟨k⟩
theorem Wv(k:q)(h:τ q→p:=by intro zz;refine Zd rfl (fun V O=>hf x _ (O _ Yf))<|Zas rfl<|We zz.o):p:=h ⟨k⟩
theorem Ww(k:q)(h:τ q→p:=by intro zz;refine jT rfl rfl rfl rfl bRD<|We zz.o):p:=h ⟨k⟩
theorem Wx(k:q)(h:τ q→p:=by intro zz;refine gJ hA rfl rfl rfl rfl (.tail (.tail ζ)) eR rfl<|Zan zz.o):p:=h ⟨k⟩
theorem Wy(k:q)(h:τ q→p:=by intro zz;refine Zar rfl<|Zak rfl zz.o):p:=h ⟨k⟩
theorem Wz(k:q)(h:τ q→p:=by intro zz;refine Za3<|Zay<|aA<|We zz.o):p:=h ⟨k⟩
theorem Waa(k:q)(h:τ q→p:=by intro zz;refine rH rfl rfl rfl rfl ⟨_,rfl,rfl⟩<|Zaj rfl zz.o):p:=h ⟨k⟩
theorem Wab(k:q)(h:τ q→p:=by intro zz;refine aA<|Zf rfl<|aJ<|Za rfl<|Za rfl<|gX rfl rfl rfl rfl bRD<|Za rfl zz.o):p:=h ⟨k⟩
theorem Wac(k:q)(h:τ q→p:=by intro zz;refine Za rfl<|aS rfl hn<|Za rfl<|aS rfl hn zz.o):p:=h ⟨k⟩
theorem Wad(k:q)(h:τ q→p:=by intro zz;refine bI (e:=161) (fz:=(0,0)) rfl kN rfl Mm1 Xbs n4 rfl bRD<|bE rfl rfl rfl rfl eD (by simp[hs10]) Ybb .head (dS _) bRD<|Wi zz.o):p:=h ⟨k⟩
theorem Wae(k:q)(h:τ q→p:=by intro zz;refine Zh 0 rfl aH rfl R rfl<|Zf rfl<|bG<|Zf rfl<|aF<|Za0<|bK (γ:=Nat) (fun k=>xs.length-k) (fun k=>k≤xs.length) (fun k=>[(3,qI ((xs.take k).foldl min x)),(4,qI (k+1:Int))]) [(2,_),(0,_)] (fun k=>[D]) 0 Yd ⟨Ya,Ya,bRD⟩ bQ (aK) zz.o):p:=h ⟨k⟩
theorem Waf(k:q)(h:τ q→p:=by intro zz;refine Zat rfl<|Zak rfl zz.o):p:=h ⟨k⟩
theorem Wag(k:q)(h:τ q→p:=by intro zz;refine Zf rfl<|aJ<|Za rfl<|Zax rfl<|Zd rfl (fun O I=>nN _ _ xs (fun x=> !p x) _ (Sl.at RI.up I Yl Yf) ⟨_,[],[qP b],rfl,fun x R hl=>N0 b fv p x R (hp.up ((I _ Yf).trans hl)) (hB.up ((I _ Yf).trans hl))⟩)<|Zas rfl<|We zz.o):p:=h ⟨k⟩
theorem Wah(k:q)(h:τ q→p:=by intro zz;refine gJ hA rfl rfl rfl rfl (.tail ζ) eR rfl<|Zan zz.o):p:=h ⟨k⟩
theorem Wai(k:q)(h:τ q→p:=by intro zz;refine Zd rfl (fun D3 hD3=>EW [k0,k1,k2,k3] _ rfl)<|iB (cs:=[qI (i:Int),qI (min c0 1),qI (min c1 1),qI (min c2 1),qI (min c3 1),qI (min k0 1),qI (min k1 1),qI (min k2 1),qI (min k3 1)]) rfl NC R4 rfl Yg rfl bRD<|Zan zz.o):p:=h ⟨k⟩
theorem Waj(k:q)(h:τ q→p:=by intro zz;refine rH rfl rfl rfl rfl ⟨_,rfl,rfl⟩<|oW rfl rfl rfl rfl ⟨_,rfl,rfl⟩ zz.o):p:=h ⟨k⟩
theorem Wak(k:q)(h:τ q→p:=by intro zz;refine Zg rfl<|Zg rfl<|Zg rfl<|Zg rfl<|Wr zz.o):p:=h ⟨k⟩
theorem Wal(k:q)(h:τ q→p:=by intro zz;refine Zg rfl<|Zg rfl<|Zg rfl<|Wf zz.o):p:=h ⟨k⟩
theorem Wam(k:q)(h:τ q→p:=by intro zz;refine aA<|Zf rfl<|aJ<|Zh 0 rfl qF rfl hB rfl<|Za rfl<|Zd rfl (fun O I=>hf x _ (I _ Yf))<|Zas rfl<|We zz.o):p:=h ⟨k⟩
theorem Wan(k:q)(h:τ q→p:=by intro zz;refine Zf rfl<|Zan<|Wc zz.o):p:=h ⟨k⟩
theorem Wao(k:q)(h:τ q→p:=by intro zz;refine gJ hA rfl rfl rfl rfl ζ eR rfl<|Zan zz.o):p:=h ⟨k⟩
theorem Wap(k:q)(h:τ q→p:=by intro zz;refine Zaq rfl<|Za rfl zz.o):p:=h ⟨k⟩
theorem Waq(k:q)(h:τ q→p:=by intro zz;refine bE rfl rfl rfl rfl fC Yb Yb ζ (gE hL) bRD<|Zf rfl<|Zf rfl<|bG<|Za rfl<|Zaw rfl<|aF zz.o):p:=h ⟨k⟩
theorem War(k:q)(h:τ q→p:=by intro zz;refine aA<|Zf rfl<|aJ<|Za rfl<|Zd rfl (fun O I=>FP _ x xs _ (Sl.at RI.up I Yl Yf))<|We zz.o):p:=h ⟨k⟩
theorem Was(k:q)(h:τ q→p:=by intro zz;refine Zap rfl<|Za rfl zz.o):p:=h ⟨k⟩
theorem Wat(k:q)(h:τ q→p:=by intro zz;refine Zg rfl<|Zg rfl<|Zak rfl zz.o):p:=h ⟨k⟩
theorem Wau(k:q)(h:τ q→p:=by intro zz;refine Zb rfl<|oK rfl rfl rfl rfl ⟨_,rfl,rfl⟩<|Zb rfl zz.o):p:=h ⟨k⟩
theorem Wav(k:q)(h:τ q→p:=by intro zz;refine jT rfl rfl rfl rfl bRD<|aF zz.o):p:=h ⟨k⟩
theorem Waw(k:q)(h:τ q→p:=by intro zz;refine Za rfl<|Za rfl zz.o):p:=h ⟨k⟩
theorem Wax(k:q)(h:τ q→p:=by intro zz;refine aA<|Za rfl<|Zf rfl<|Wi zz.o):p:=h ⟨k⟩
theorem Waz(k:q)(h:τ q→p:=by intro zz;refine iB (cs:=[qI 0,qI 0]) rfl A2 lL rfl rfl rfl ⟨_,rfl,rfl⟩<|x9 (a:=(mX ls).1) (b:=(0,0)) rfl Yg aDX rfl rfl rfl ⟨_,rfl,rfl⟩<|Zaj rfl zz.o):p:=h ⟨k⟩
theorem Wba(k:q)(h:τ q→p:=by intro zz;refine Zd rfl (fun hR O=>L1.V0 _ (C1.truths (cJ ls).1.row) 0 (((cJ ls).1.row.places.length:Int)-1) _ (V.up RL.up (O _ Yf)) z1 z2 Yd z3 z4)<|Zan zz.o):p:=h ⟨k⟩
theorem Wbb(k:q)(h:τ q→p:=by intro zz;refine Zab ((wb,_)::(ν1++νx)) aIF.symm<|Zal rfl<|Zj rfl jX rfl<|Zs (dR s pv O hv lv mv bl bc yc yq) rfl hx.cells1 FK .head rfl hx.cell1 zz.o):p:=h ⟨k⟩
theorem Wbc(k:q)(h:τ q→p:=by intro zz;refine aA<|Za rfl<|Wh zz.o):p:=h ⟨k⟩
theorem Wbd(k:q)(h:τ q→p:=by intro zz;refine Zan<|Za3<|Zay<|aP<|Za rfl<|Zae rfl zz.o):p:=h ⟨k⟩
theorem Wbe(k:q)(h:τ q→p:=by intro zz;refine Zb rfl<|Zb rfl<|Wj zz.o):p:=h ⟨k⟩
theorem Wbf(k:q)(h:τ q→p:=by intro zz;refine Zg rfl<|Zg rfl<|Wb zz.o):p:=h ⟨k⟩
theorem Wbg(k:q)(h:τ q→p:=by intro zz;refine Zf rfl<|aJ<|Za rfl<|Zaw rfl zz.o):p:=h ⟨k⟩
theorem Wbh(k:q)(h:τ q→p:=by intro zz;refine aS rfl hn<|Za rfl<|Zal rfl<|Zj rfl aZ rfl<|Zj rfl fS rfl<|Zj rfl dN rfl<|Zo rfl hG rfl Mm0 rfl<|cG rfl U80 rfl ha rfl rfl bRD zz.o):p:=h ⟨k⟩
theorem Wbi(k:q)(h:τ q→p:=by intro zz;refine rH rfl rfl rfl rfl ⟨_,rfl,rfl⟩<|Zak rfl zz.o):p:=h ⟨k⟩
theorem Wbj(k:q)(h:τ q→p:=by intro zz;refine Zal rfl<|Zj rfl gF rfl<|Zs (dR s pv cv hv lv mv v1 bc yc yq) rfl hx.cells1 I3 .head rfl hx.cell1<|Zan<|Za3<|Zay<|aA<|Zf rfl zz.o):p:=h ⟨k⟩
theorem Wbk(k:q)(h:τ q→p:=by intro zz;refine aA<|Zf rfl<|aJ<|Za rfl<|Za rfl<|jT rfl rfl rfl rfl bRD<|Za rfl zz.o):p:=h ⟨k⟩
theorem Wbl(k:q)(h:τ q→p:=by intro zz;refine Zf rfl<|Zan zz.o):p:=h ⟨k⟩
theorem Wbm(k:q)(h:τ q→p:=by intro zz;refine aV (dC.mk [bt,wb]) 2 19 65534<|Za rfl<|Za rfl<|Zal rfl<|Zj rfl jX rfl<|bD rfl xR rfl Mm0 rfl Ym rfl bRD<|Za rfl<|Zav rfl zz.o):p:=h ⟨k⟩
theorem Wbn(k:q)(h:τ q→p:=by intro zz;refine Za5<|Za1<|Za1<|Za6<|Wa zz.o):p:=h ⟨k⟩
theorem Wbo(k:q)(h:τ q→p:=by intro zz;refine Zg rfl<|Zg rfl<|Zg rfl<|Zaj rfl zz.o):p:=h ⟨k⟩
theorem Wbp(k:q)(h:τ q→p:=by intro zz;refine Zf rfl<|aG<|Zaz<|Za4<|Zaz<|Zaz<|Za4<|Zaz zz.o):p:=h ⟨k⟩
theorem Wbq(k:q)(h:τ q→p:=by intro zz;refine Zi 1 rfl aH rfl I rfl<|Wj zz.o):p:=h ⟨k⟩
theorem Wbr(k:q)(h:τ q→p:=by intro zz;refine Zas rfl<|Za rfl zz.o):p:=h ⟨k⟩
theorem Wbs(k:q)(h:τ q→p:=by intro zz;refine bH<|Wa zz.o):p:=h ⟨k⟩
theorem Wbt(k:q)(h:τ q→p:=by intro zz;refine Za rfl<|Za rfl<|Zal rfl<|Zj rfl aZ rfl<|Zj rfl eU rfl<|Zj rfl nD rfl<|bD rfl L4 rfl Mm0 rfl Ym rfl bRD<|Wac zz.o):p:=h ⟨k⟩
theorem Wbu(k:q)(h:τ q→p:=by intro zz;refine Za rfl<|Za rfl<|Zal rfl<|Zj rfl aZ rfl<|Zj rfl dA rfl<|Zj rfl nH rfl<|bD rfl H7 rfl Mm0 rfl Ym rfl bRD<|Wac zz.o):p:=h ⟨k⟩
theorem Wbv(k:q)(h:τ q→p:=by intro zz;refine Za rfl<|aS rfl hn<|Za rfl<|Zal rfl<|Zj rfl gF rfl<|Zo rfl nB rfl Mm0 rfl<|cG rfl U43 rfl I rfl rfl bRD<|Wav zz.o):p:=h ⟨k⟩
theorem Wbw(k:q)(h:τ q→p:=by intro zz;refine aA<|Zf rfl<|aJ<|Za rfl<|Za rfl<|Zd rfl (fun O I=>xN _ _ xs p _ (Sl.at RI.up I Yl Yf) (hp.up (I _ Yf)))<|Ww zz.o):p:=h ⟨k⟩
theorem Wbx(k:q)(h:τ q→p:=by intro zz;refine aP<|Za rfl<|Zae rfl<|Wt zz.o):p:=h ⟨k⟩
theorem Wby(k:q)(h:τ q→p:=by intro zz;refine y5 aMJ b rfl rfl rfl rfl aI (.tail .head) Yd bRD<|Zan zz.o):p:=h ⟨k⟩
theorem Wbz(k:q)(h:τ q→p:=by intro zz;refine Zal rfl<|Zj rfl mT rfl<|Zs (dR s pv cv hv lv v1 bl bc yc yq) rfl hx.cells1 NE .head rfl hx.cell1<|Zan zz.o):p:=h ⟨k⟩
theorem Wca(k:q)(h:τ q→p:=by intro zz;refine bH<|Wc zz.o):p:=h ⟨k⟩
theorem Wcb(k:q)(h:τ q→p:=by intro zz;refine Zg rfl<|Zg rfl<|oW rfl rfl rfl rfl ⟨_,rfl,rfl⟩ zz.o):p:=h ⟨k⟩
theorem Wcc(k:q)(h:τ q→p:=by intro zz;refine Zat rfl<|Zaj rfl zz.o):p:=h ⟨k⟩
theorem Wcd(k:q)(h:τ q→p:=by intro zz;refine Zo rfl cF rfl Mm0 rfl<|Za rfl<|aS rfl hn<|Za rfl<|aS rfl hn<|eP rfl U35 aI rfl rfl Yd Yd rfl bRD zz.o):p:=h ⟨k⟩
theorem Wce(k:q)(h:τ q→p:=by intro zz;refine PP bEK (x2:={x with token:= -1}) (k:=2) rfl rfl rfl rfl aI (.tail .head) hx Yd rfl Yd bRD<|Zan zz.o):p:=h ⟨k⟩
theorem Wcf(k:q)(h:τ q→p:=by intro zz;refine Zam rfl<|Za rfl zz.o):p:=h ⟨k⟩
end Go
namespace Go.Fs

abbrev qI(n:Int):Γ:=.int .i64 n
abbrev qP(b:Nat):Γ:=.pointer (some ⟨b,0,none⟩)
abbrev qN:Γ:=.slice none 0 0
abbrev qS(b n c:Nat):Γ:=.slice (some ⟨b,0,none⟩) n c
abbrev qC(l:List Γ)(e:Θ):Obj:=.cells l.toArray e (0,0)
def FW(r:Option Nat):Fence:={fn:=fun _=>True,depth:=none,alive:=false,round:=r}
theorem DF(r:Option Nat)(n:Nat):(FW r).room n:=fun _ h=>by simp[FW]at h
theorem aJI(r:Option Nat)(P:Program)(m:Machine):m.fenced P (FW r):=
 fun _ _=>⟨fun h=>Xac,bMF bRD,fun _ _=>trivial,fun _ h=>Xac⟩
theorem EN{r:Option Nat}{P:Program}{m m':Machine}:StepsIn (Machine.fenced P (FW r)) P m m' ↔ Steps P m m':=
 ⟨StepsIn.steps,fun h=>(StepsIn.of_steps h).mono fun m _=>aJI r P m⟩
theorem zT{r:Option Nat}{P:Program}{m m':Machine}{e:Ending}:ComesIn (Machine.fenced P (FW r)) P m m' e ↔ Comes P m m' e:=by
 cases e with
 |returned v=>exact EN
 |panicked chain=>exact EN
 |outgrown=>exact Iff.rfl
theorem dZ{r:Option Nat}{n:Nat}{P:Program}{f:FuncId}{args:Array Γ}{w:Δ}{R:Ending→Δ→Prop}:
    CallsIn (FW r) n P f args w R ↔ Calls P f args w R:=
  ⟨fun h cs=>let ⟨e,w',fr,r,s,x⟩:=h.2 cs (DF _ _);⟨e,w',fr,r,zT.1 s,x⟩,
   fun h=>⟨bRD,fun cs _=>let ⟨e,w',fr,r,s,x⟩:=h cs;⟨e,w',fr,r,zT.2 s,x⟩⟩⟩
def aPS(P:Program)(l:Nat)(f:FuncId)(tmps:Array Γ)(assign body:Code)(w:Δ)(R:Ending→Δ→Prop):Prop:=
 RoundIn (FW none) 0 P l f tmps assign body w R
theorem EE{r:Option Nat}{n:Nat}{P:Program}{l:Nat}{f:FuncId}{tmps:Array Γ}{assign body:Code}{w:Δ}{R:Ending→Δ→Prop}
  (h:aPS P l f tmps assign body w R):RoundIn (FW r) n P l f tmps assign body w R:=
 ⟨bRD,fun c cs _=>let ⟨e,w',q,s⟩:=h.2 c cs (DF _ _);⟨e,w',q,zT.2 (zT.1 s)⟩⟩

def pV{γb:Type}[Membership Nat γb](bad:γb)(w w':Δ):Prop:=w.heap.size≤w'.heap.size∧∀b,b<w.heap.size→b∉bad→w'.heap[b]?= w.heap[b]?
structure dC where
 l:List Nat
instance:Membership Nat dC:=⟨fun s b=>b∉s.l⟩
theorem dC.out{l:List Nat}{b:Nat}(h:b∈l):b∉(dC.mk l):=fun hn=>hn h
theorem dC.in_{l:List Nat}{b:Nat}(h:b∉l):b∈(dC.mk l):=h
theorem pV.refl{γb:Type}[Membership Nat γb](bad:γb)(w:Δ):pV bad w w:=⟨bMH _,fun _ _ _=>rfl⟩
theorem pV.trans{γb:Type}[Membership Nat γb]{bad:γb}{w I O:Δ}(h:pV bad w I)(h':pV bad I O):pV bad w O:=
 ⟨bOB h.1 h'.1,fun b hb hn=>(h'.2 b (bOI hb h.1) hn).trans (h.2 b hb hn)⟩

def kX:Op→Bool
 |.move _|.assign _|.pick _ _ _|.load _ _|.nilCheck _|.binOp _ _ _ _ _|.unOp _ _ _|.convert _ _ _|.fieldAddr _ _ _|.field _ _ _
 |.indexAddr _ _ _|.index _ _ _|.extract _ _|.slice _ _ _ _ _|.build _ _|.makeFunc _ _ _|.makeInterface _ _|.lookup _ _ _ _|.typeAssert _ _ _ _=>true
 |.call c=>match c.callee with|.builtin .len|.builtin .cap|.builtin .max|.builtin .min=>true|_=>false
 |_=>false
def pN:Op→Bool
 |.defer _=>true
 |.select _ _=>true
 |_=>false
def Yv{γb:Type}[Membership Nat γb](bad:γb)(P:Program)(all:Array Oper)(o:Oper)(a:Act)(w:Δ)(v:Γ):Prop:=
 (Region.wanted o (yielded all a.tmps)=true∧∀w',pV bad w w'→(execOp a.eval o).run P w'=.ok (.value v) w')∨
 (Region.wanted o (yielded all a.tmps)=false∧v=undef)
def W7(r:Option Nat){γb:Type}[Membership Nat γb](bad:γb)(P:Program)(all:Array Oper)(Q:Exit→Act→Δ→Prop)(o:Oper)(fl:Bool)(K:Act→Δ→Prop)(a:Act)(w:Δ):Prop:=
 if Region.wanted o (yielded all a.tmps)=true then o.wpIn (FW r) 0 P a w (fun a' w'=>(fl=true→pV bad w w')∧K a' w') Q
 else K (a.put o.dst undef) w
def vG(r:Option Nat){γb:Type}[Membership Nat γb](bad:γb)(P:Program)(all:Array Oper)(K:Act→Δ→Prop)(Q:Exit→Act→Δ→Prop):List (Bool×Oper)→Act→Δ→Prop
 | [],a,w=>K a w
 |(fl,o)::os,a,w=>
  if kX o.op=true then ∃v,Yv bad P all o a w v∧vG r bad P all K Q os (a.put o.dst v) w
  else W7 r bad P all Q o fl (vG r bad P all K Q os) a w
variable{r:Option Nat}{γb:Type}[Membership Nat γb]{bad:γb}{P:Program}{all:Array Oper}{Q:Exit→Act→Δ→Prop}
theorem m4{o:Oper}(h:pN o.op=false)(ro:Option Nat)(ρ:Operand→Γ):Oper.semAt ro ρ o=execOp ρ o:=
 Oper.semAt_eq ro ρ o fun c hc=>by rw[hc]at h;cases h
theorem V8{o:Op}(h:kX o=true):pN o=false:=by
 cases o<;>first|rfl|(cases h)
theorem Yv.run{o:Oper}{a:Act}{w:Δ}{v:Γ}(h:Yv bad P all o a w v)(hk:kX o.op=true){K:Act→Δ→Prop}{i:Nat}(hi:all[i]?= some o){n:Nat}
  (hK:K (a.put o.dst v) w):wpOpIn (FW r) n P all Q i K a w:=by
 unfold wpOpIn;simp only[hi];rcases h with⟨hw,hv⟩|⟨hw,rfl⟩
 ·rw[bMG hw];refine⟨fun _ _=>trivial,?_⟩;rw[m4 (V8 hk),hv w (pV.refl _ _)];exact hK
 ·rw[bLX (by simp[hw])];exact⟨fun _ _=>trivial,hK⟩
theorem SY{n:Nat}{o:Oper}{a:Act}{w:Δ}{K:Act→Δ→Prop}(h:o.wpIn (FW r) 0 P a w K Q):o.wpIn (FW r) n P a w K Q:=by
 refine⟨h.1,?_⟩;have h2:=h.2;generalize (o.semAt (FW r).round a.eval).run P w=x at *;cases x with
 |ok x w'=>
  cases x<;>simp only[Oper.uponIn]at h2 ⊢ <;>first
   |exact h2
   |exact⟨fun h=>Xac,dZ.2 (dZ.1 h2.2)⟩
   |exact⟨fun h=>Xac,fun c cs _=>h2.2 c cs (DF _ _)⟩
   |exact⟨fun h=>Xac,bRD,fun c cs _=>h2.2.2 c cs (DF _ _)⟩
 |halt x w'=>cases x<;>exact h2

theorem DP{n:Nat}{K:Act→Δ→Prop}(hK:∀a w,K a w→Q .normal a w):∀(os:List (Bool×Oper)) (is:List Nat),is.map (fun i=>all[i]?)=os.map (fun o=>some o.2)→
  ∀a w,vG r bad P all K Q os a w→wpOpsIn (FW r) n P all Q is a w:=by
 intro os;induction os with
 |nil=>intro is h a w H;cases is with|nil=>exact hK _ _ H|cons=>simp at h
 |cons o os ih=>
  intro is h a w H;cases is with
  |nil=>simp at h
  |cons i is=>
   obtain⟨fl,o⟩:=o;simp only[bMT,bOH]at h;rw[wpOpsIn_cons];simp only[vG]at H;split at H
   ·rename_i hq;obtain⟨v,hy,H⟩:=H;exact hy.run hq h.1 (ih is h.2 _ _ H)
   ·unfold wpOpIn;simp only[h.1];unfold W7 at H;split at H
    ·rename_i hw;rw[bMG hw];exact SY (Oper.wpIn_mono (fun a w hh=>ih is h.2 _ _ hh.2) H)
    ·rename_i hw;rw[bLX hw];exact⟨fun _ _=>trivial,ih is h.2 _ _ H⟩
theorem IC(all:Array Oper):(List.range all.size).map (fun i=>all[i]?)=all.toList.map some:=by
 apply List.ext_getElem
 ·simp
 ·intro i h1 h2;simp
theorem aUG{id:Nat}{a:Act}{w:Δ}(h:vG r [] P all (fun a w=>Q .normal a w) Q (all.toList.map fun o=>(false,o)) a w):
  (Code.region id all false).wpIn (FW r) 0 P Q a w:=
 wpIn_region (DP (fun _ _ h=>h) _ _ (by rw[IC];simp) _ _ h)

def nG(all:Array Oper):Nat→Nat→Nat→Bool
 |0,_,_=>false
 |n+1,i,x=>((all[i]?).map fun o=>o.after.toList.any fun e=>Region.binds .any e&&(Nat.beq e.on x||nG all n e.on x)).getD false
def tS(all:Array Oper)(n:Nat)(i:Nat):List Nat→Bool
 | []=>false
 |x::xs=> !nG all n i x||tS all n i xs
def jD(all:Array Oper)(x:Nat):Bool:=((all[x]?).map fun o=>kX o.op).getD false
def qQ(all:Array Oper)(x i:Nat):Bool:=
 match all[x]?,all[i]? with
 |some x,some i=>x.apart all i
 |_,_=>false
def aNZ(all:Array Oper)(n:Nat)(i:Nat)(before:List Nat):Bool:=
 before.all fun x=>nG all n i x||(jD all x&&qQ all x i)
def I8(all:Array Oper)(i:Nat)(before:List Nat):Bool:=
 ((all[i]?).map fun o=>o.after.toList.all fun e=> !Region.binds .any e||before.contains e.on).getD false
def uI(all:Array Oper)(n:Nat):List Nat→List Nat→Bool
 |_,[]=>true
 |before,i::rest=>aNZ all n i before&&I8 all i before&& !before.contains i&&uI all n (before++[i]) rest
def qG(all:Array Oper):Bool:=all.toList.all fun o=> !pN o.op
def bEP(all:Array Oper)(n:Nat)(c:List Nat):Bool:=
 qG all&&(c.length==all.size)&&((List.range all.size).all fun i=>c.contains i)&&uI all n [] c
def p6(r:Option Nat){γb:Type}[Membership Nat γb](bad:γb)(P:Program)(all:Array Oper)(fl:Nat→Bool)(K:Act→Δ→Prop)(Q:Exit→Act→Δ→Prop):List Nat→Act→Δ→Prop
 | [],a,w=>K a w
 |i::is,a,w=>
  match all[i]? with
  |none=>False
  |some o=>
   if kX o.op=true then ∃v,Yv bad P all o a w v∧p6 r bad P all fl K Q is (a.put o.dst v) w
   else W7 r bad P all Q o (fl i) (p6 r bad P all fl K Q is) a w
def mJ(r:Option Nat){γb:Type}[Membership Nat γb](bad:γb)(P:Program)(all:Array Oper)(fl:Nat→Bool)(Q:Exit→Act→Δ→Prop)(i:Nat)(K:Act→Δ→Prop)(a:Act)(w:Δ):Prop:=
 match all[i]? with
 |none=>False
 |some o=>
  if kX o.op=true then ∃v,Yv bad P all o a w v∧K (a.put o.dst v) w
  else W7 r bad P all Q o (fl i) K a w
theorem qZ{fl:Nat→Bool}{K:Act→Δ→Prop}(i:Nat)(is:List Nat)(a:Act)(w:Δ):
  p6 r bad P all fl K Q (i::is) a w=mJ r bad P all fl Q i (p6 r bad P all fl K Q is) a w:=by
 rfl
theorem W7.mono{o:Oper}{f:Bool}{K K':Act→Δ→Prop}{a:Act}{w:Δ}(h:∀a w,K a w→K' a w)(H:W7 r bad P all Q o f K a w):
  W7 r bad P all Q o f K' a w:=by
 unfold W7 at *;split at H
 ·rename_i hw;rw[bMG hw];exact Oper.wpIn_mono (fun a w hh=>⟨hh.1,h _ _ hh.2⟩) H
 ·rename_i hw;rw[bLX hw];exact h _ _ H
theorem mJ.mono{fl:Nat→Bool}{i:Nat}{K K':Act→Δ→Prop}{a:Act}{w:Δ}(h:∀a w,K a w→K' a w)(H:mJ r bad P all fl Q i K a w):
  mJ r bad P all fl Q i K' a w:=by
 unfold mJ at *;split at H
 ·exact H
 ·split at H
  ·rename_i hq;rw[bMG hq];obtain⟨v,y,k⟩:=H;exact⟨v,y,h _ _ k⟩
  ·rename_i hq;rw[bLX hq];exact H.mono h
theorem uU{fl:Nat→Bool}{K K':Act→Δ→Prop}(h:∀a w,K a w→K' a w):∀(is:List Nat) {a:Act} {w:Δ},p6 r bad P all fl K Q is a w→p6 r bad P all fl K' Q is a w
 | [],_,_,H=>h _ _ H
 |i::is,a,w,H=>by
  rw[qZ]at H ⊢
  exact H.mono fun a w=>uU h is
theorem Yv.of_same{o:Oper}{v:Γ}{a a':Act}{w w':Δ}(hy:Yv bad P all o a w v)(hk:pV bad w w')(he:execOp a'.eval o=execOp a.eval o)
  (hw:Region.wanted o (yielded all a'.tmps)=Region.wanted o (yielded all a.tmps)):Yv bad P all o a' w' v:=by
 rcases hy with⟨h1,h2⟩|⟨h1,h2⟩
 ·exact bMF ⟨hw.trans h1,fun O I=>he▸h2 O (hk.trans I)⟩
 ·exact bLY ⟨hw.trans h1,h2⟩
def J6:Op→Bool
 |.build _ _=>true
 |.extract _ _=>true
 |.move _=>true
 |.assign _=>true
 |_=>false
def B7(all:Array Oper)(x:Nat):Bool:=((all[x]?).map fun o=>J6 o.op).getD false
def WI{α:Type}(x:Sem α):Prop:=∀(P:Program) w v w1,x.run P w=.ok v w1→w1=w∧∀w',x.run P w'=.ok v w'
theorem WI.pure{α:Type}(a:α):WI (Pure.pure a:Sem α):=fun P w v I h=>by
 rw[ε]at h;cases h;exact⟨rfl,fun w'=>ε ..⟩
theorem WI.bind{α β:Type}{x:Sem α}{f:α→Sem β}(hx:WI x)(hf:∀a,WI (f a)):WI (x >>= f):=fun P w v O h=>by
 rw[Ω]at h;cases hr:x.run P w with
 |ok a I=>
  rw[hr]at h;obtain⟨rfl,h2⟩:=hx P w a I hr;obtain⟨rfl,h3⟩:=hf a P _ v O h;exact⟨rfl,fun w'=>by rw[Ω,h2 w'];exact h3 w'⟩
 |halt z I=>rw[hr]at h;cases h
theorem WI.halt{α:Type}(z:Halt):WI (Sem.halt z:Sem α):=fun P w v I h=>by cases h
theorem WI.program:WI program:=fun P w v I h=>by cases h;exact⟨rfl,fun w'=>rfl⟩
theorem WI.typeInfo(t:Θ):WI (typeInfo t):=by
 unfold Go.typeInfo;refine WI.bind WI.program fun p=>?_
 split
 ·exact WI.pure _
 ·exact WI.halt _
theorem WI.underlying(t:Θ):WI (underlying t):=by
 unfold Go.underlying;refine WI.bind WI.program fun p=>?_
 split
 ·exact WI.pure _
 ·exact WI.halt _
theorem WI.sizeOf(t:Θ):WI (sizeOf t):=WI.bind (WI.typeInfo t) fun _=>WI.pure _
theorem WI.zeroValue(t:Θ):WI (zeroValue t):=by
 unfold Go.zeroValue;refine WI.bind (WI.typeInfo t) fun p=>?_
 split
 ·exact WI.pure _
 ·exact WI.halt _
theorem WI.mapM{α β:Type}{f:α→Sem β}(hf:∀a,WI (f a))(as:Array α):WI (as.mapM f):=by
 rw[Array.mapM_eq_mapM_toList];refine WI.bind ?_ fun _=>WI.pure _
 generalize as.toList=l;induction l with
 |nil=>exact WI.pure _
 |cons a l ih=>
  rw[bPL];exact WI.bind (hf a) fun _=>WI.bind ih fun _=>WI.pure _
theorem WI.build(t:Θ)(parts:Array (Nat×Γ)):WI (Instr.build t parts):=by
 unfold Instr.build;refine WI.bind (WI.zeroValue t) fun z=>WI.bind (WI.underlying t) fun u=>?_
 split
 ·refine WI.bind (WI.mapM (fun f=>WI.bind (WI.sizeOf _) fun _=>WI.pure _) _) fun pl=>?_
  split
  ·exact WI.pure _
  ·exact WI.halt _
 ·refine WI.bind (WI.sizeOf _) fun sz=>?_
  split
  ·exact WI.pure _
  ·exact WI.halt _
 ·exact WI.halt _
theorem WI.extract(t:Γ)(i:Nat):WI (Instr.extract t i):=by
 unfold Instr.extract;split
 ·split
  ·exact WI.pure _
  ·exact WI.halt _
 ·exact WI.halt _
theorem aOW{o:Oper}(hp:J6 o.op=true){ρ:Operand→Γ}{P:Program}{w:Δ}{v:Γ}(hr:(execOp ρ o).run P w=.ok (.value v) w):∀w',(execOp ρ o).run P w'=.ok (.value v) w':=by
 have:WI (execOp ρ o):=by
  cases o with
  |mk dst op type pos after guard=>
   cases op<;>first|(cases hp)|skip
   all_goals unfold execOp
   ·exact WI.pure _
   ·exact WI.pure _
   ·exact WI.bind (WI.build _ _) fun _=>WI.pure _
   ·exact WI.bind (WI.extract _ _) fun _=>WI.pure _
 exact(this P w _ w hr).2
theorem Yv.of_same'{o:Oper}{v:Γ}{a a':Act}{w w':Δ}(hy:Yv bad P all o a w v)(hk:pV bad w w'∨J6 o.op=true)(he:execOp a'.eval o=execOp a.eval o)
  (hw:Region.wanted o (yielded all a'.tmps)=Region.wanted o (yielded all a.tmps)):Yv bad P all o a' w' v:=by
 rcases hk with hk|hk
 ·exact hy.of_same hk he hw
 ·rcases hy with⟨h1,h2⟩|⟨h1,h2⟩
  ·exact bMF ⟨hw.trans h1,fun I _=>he▸aOW hk (h2 w (pV.refl _ _)) I⟩
  ·exact bLY ⟨hw.trans h1,h2⟩
def PI(Q:Exit→Act→Δ→Prop):Prop:=∀c (a a':Act) w,a'.defers=a.defers→Q (.panic c) a w→Q (.panic c) a' w
theorem PJ(a:Act)(d:Option Tmp)(v:Γ):(a.put d v).defers=a.defers:=by cases d<;>rfl
theorem uV{o:Oper}(h:pN o.op=false):∀cs b,o.op≠.select cs b:=fun cs b e=>by rw[e]at h;cases h
theorem aPY{x o:Oper}{f:Bool}{v:Γ}(hap:x.apart all o=true)(hx:pN x.op=false)(ho:pN o.op=false)(hf:f=true∨J6 x.op=true)(hQ:PI Q)
  {K:Act→Δ→Prop} {a:Act} {w:Δ} (hy:Yv bad P all x a w v) (h:W7 r bad P all Q o f K (a.put x.dst v) w):
  W7 r bad P all Q o f (fun a' w'=>Yv bad P all x a' w' v∧K (a'.put x.dst v) w') a w:=by
 obtain⟨h1,h2,h3⟩:=Oper.apart_spec hap;have keep:∀u w',(f=true→pV bad w w')→Yv bad P all x (a.put o.dst u) w' v:=fun u w' hk=>
  hy.of_same' (hf.imp hk id) (execOp_put x (uV hx) a o.dst u h3) (wanted_put x a o.dst u h3)
 unfold W7 at *;rw[wanted_put o a x.dst v h1]at h;split at h
 ·rename_i hw;rw[bMG hw];refine⟨fun _ _=>trivial,?_⟩;have h:=h.2;rw[m4 ho,execOp_put o (uV ho) a x.dst v h1]at h;rw[m4 ho];generalize (execOp a.eval o).run P w=z at *;cases z with
  |ok z w'=>
   cases z<;>simp only[Oper.uponIn]at h ⊢
   case value u=>exact⟨h.1,keep u w' h.1,by rw[←Act.put_comm a v u h2];exact h.2⟩
   case skip=>exact⟨h.1,keep _ w' h.1,by rw[←Act.put_comm a v undef h2];exact h.2⟩
   case defer d=>
    refine⟨h.1,?_,?_⟩
    ·exact(hy.of_same' (a':={a with defers:=d::a.defers}.put o.dst undef) (hf.imp h.1 id)
      ((execOp_put x (uV hx) {a with defers:=d::a.defers} o.dst undef h3).trans rfl) ((wanted_put x {a with defers:=d::a.defers} o.dst undef h3).trans rfl))
    ·have e:=h.2;rw[Act.put_defers,Act.put_comm _ v undef h2]at e;exact e
   case enter f args=>
    refine⟨h.1,CallsIn.mono h.2 fun e w'' he=>?_⟩;cases e with
    |returned u=>exact⟨he.1,keep u w'' he.1,Xca⟩
    |panicked c=>exact hQ _ _ _ _ (PJ _ _ _).symm he
    |outgrown=>exact he
   case row row args=>exact⟨h.1,RowsIn.mono h.2 fun u w'' he=>⟨he.1,keep u w'' he.1,Xca⟩⟩
   case round l f tmps assign body=>
    refine⟨h.1,RoundIn.mono h.2 fun e w'' he=>?_⟩;cases e with
    |returned u=>exact⟨he.1,keep u w'' he.1,Xca⟩
    |panicked c=>exact hQ _ _ _ _ (PJ _ _ _).symm he
    |outgrown=>exact he
  |halt z w'=>
   cases z<;>simp only[Oper.uponIn]at h ⊢
   case panic u=>exact hQ _ _ _ _ (PJ _ _ _).symm h
 ·rename_i hw;rw[bLX hw];exact⟨keep _ w fun _=>pV.refl _ _,by rw[←Act.put_comm a v undef h2];exact h⟩
theorem l5{x:Nat}(h:jD all x=true):∃o,all[x]?= some o∧kX o.op=true:=by
 unfold jD at h;cases hx:all[x]? with
 |none=>simp[hx]at h
 |some o=>exact⟨o,rfl,by simpa [hx]using h⟩
theorem S8(h:qG all=true){i:Nat}{o:Oper}(ho:all[i]?= some o):pN o.op=false:=by
 have hm:o∈all.toList:=by
  rw[bOW]at ho;obtain⟨hi,rfl⟩:=ho;simp
 have:=bMK.1 h o hm;simpa using this
theorem aKJ{fl:Nat→Bool}{x i:Nat}(hnd:qG all=true)(hq:jD all x=true)(hap:qQ all x i=true)(hf:jD all i=true∨fl i=true∨B7 all x=true)
  (hQ:PI Q) {K:Act→Δ→Prop} {a:Act} {w:Δ}
  (h:mJ r bad P all fl Q x (mJ r bad P all fl Q i K) a w):mJ r bad P all fl Q i (mJ r bad P all fl Q x K) a w:=by
 obtain⟨ox,hx,hqx⟩:=l5 hq;cases hi:all[i]? with
 |none=>simp[qQ,hx,hi]at hap
 |some oi=>
  have hap':ox.apart all oi=true:=by simpa [qQ,hx,hi]using hap
  have dx:=S8 hnd hx;have di:=S8 hnd hi;obtain⟨h1,h2,h3⟩:=Oper.apart_spec hap';simp only[mJ,hx,hi,hqx,bOC]at h ⊢
  obtain⟨v,hy,h⟩:=h;split at h
  ·rename_i hqi;obtain⟨u,hu,h⟩:=h;rw[bMG hqi];refine⟨u,hu.of_same (pV.refl _ _) (execOp_put oi (uV di) a ox.dst v h1).symm (wanted_put oi a ox.dst v h1).symm,v,
    hy.of_same (pV.refl _ _) (execOp_put ox (uV dx) a oi.dst u h3) (wanted_put ox a oi.dst u h3),?_⟩
   rw[←Act.put_comm a v u h2];exact h
  ·rename_i hqi;rw[bLX hqi];have hfl:fl i=true∨J6 ox.op=true:=by
    rcases hf with hf|hf|hf
    ·obtain⟨o,ho,hqo⟩:=l5 hf;rw[hi]at ho;cases ho;exact absurd hqo hqi
    ·exact bMF hf
    ·exact bLY (by simpa [B7,hx]using hf)
   refine(aPY hap' dx di hfl hQ hy h).mono fun a w hh=>?_
   rw[mJ,hx];simp only[hqx,bOC];exact⟨v,hh.1,hh.2⟩
theorem uQ{fl:Nat→Bool}{i:Nat}(hnd:qG all=true)(hQ:PI Q){K:Act→Δ→Prop}:
  ∀(c1 c2:List Nat) (a:Act) (w:Δ),(∀x∈c1,jD all x=true∧qQ all x i=true∧(jD all i=true∨fl i=true∨B7 all x=true))→
   p6 r bad P all fl K Q (c1++i::c2) a w→mJ r bad P all fl Q i (p6 r bad P all fl K Q (c1++c2)) a w:=by
 intro c1;induction c1 with
 |nil=>intro c2 a w _ h;rw[bMW,qZ]at h;exact h
 |cons x c1 ih=>
  intro c2 a w hc h;rw[bOF,qZ]at h;have h':=h.mono fun a w hh=>ih c2 a w (fun y hy=>hc y (LE _ hy)) hh
  obtain⟨h1,h2,h3⟩:=hc x bLP;have:=aKJ hnd h1 h2 h3 hQ h';exact this.mono fun a w hh=>by rw[bOF,qZ];exact hh
theorem mJ.wpOpIn{fl:Nat→Bool}{i:Nat}{n:Nat}{K:Act→Δ→Prop}{a:Act}{w:Δ}(h:mJ r bad P all fl Q i K a w):wpOpIn (FW r) n P all Q i K a w:=by
 unfold mJ at h;split at h
 ·exact h.elim
 ·rename_i o ho;split at h
  ·rename_i hq;obtain⟨v,hy,h⟩:=h;exact hy.run hq ho h
  ·unfold Go.wpOpIn;simp only[ho];unfold W7 at h;split at h
   ·rename_i hw;rw[bMG hw];exact SY (Oper.wpIn_mono (fun a w hh=>hh.2) h)
   ·rename_i hw;rw[bLX hw];exact⟨fun _ _=>trivial,h⟩
def XU(all:Array Oper)(dD:Array Bool):Prop:=
 ∀(i:Nat) (o:Oper),all[i]?= some o→dD.getD i false=true→∀e∈o.after,Region.binds .any e=true→dD.getD e.on false=true
theorem tW{dD:Array Bool}(hc:XU all dD):∀(n i x:Nat) (o:Oper),all[i]?= some o→(∀e∈o.after,Region.binds .any e=true→dD.getD e.on false=true)→
  (∀j,dD.getD j false=true→j<all.size)→nG all n i x=true→dD.getD x false=true:=by
 intro n;induction n with
 |zero=>intro i x o _ _ _ h;simp[nG]at h
 |succ n ih=>
  intro i x o ho hall hlt h;simp only[nG,ho,bNL,bPK,bQA,bLQ,bMU]at h;obtain⟨e,he,hb,h⟩:=h;have hl:=hall e (by simpa using he) hb;rcases h with h|h
  ·rw[bNO h]at hl;exact hl
  ·have hj:=hlt _ hl;exact ih e.on x all[e.on] (by simp[hj]) (hc e.on _ (by simp[hj]) hl) hlt h
theorem tB{n:Nat}:∀(c before c1:List Nat) (i:Nat) (c2:List Nat),uI all n before c=true→c=c1++i::c2→
  aNZ all n i (before++c1)=true∧I8 all i (before++c1)=true∧i∉before++c1:=by
 intro c;induction c with
 |nil=>intro before c1 i c2 _ h;simp at h
 |cons x c ih=>
  intro before c1 i c2 hc h;simp only[uI,bLQ]at hc;cases c1 with
  |nil=>simp only[bMW,bOH]at h;rw[←h.1];simpa [and_assoc]using hc.1
  |cons y c1=>
   simp only[bOF,bOH]at h;have:=ih (before++[x]) c1 i c2 hc.2 h.2;rw[h.1]at this;simpa using this
def J8(all:Array Oper)(n:Nat)(fl:Nat→Bool)(c:List Nat):Prop:=
 ∀c1 i c2,c=c1++i::c2→∀x∈c1,nG all n i x=true∨(jD all x=true∧qQ all x i=true∧(jD all i=true∨fl i=true∨B7 all x=true))
theorem J8.erase{n:Nat}{fl:Nat→Bool}{c1 c2:List Nat}{i:Nat}(h:J8 all n fl (c1++i::c2)):J8 all n fl (c1++c2):=by
 intro I j d2 he x hx;by_cases hl:I.length<c1.length
 ·obtain⟨t,ht⟩:∃t,c1=I++j::t:=by
   have h1:(c1++c2)[I.length]?= some j:=by rw[he];simp
   rw[bNX hl]at h1;have h2:c1.take I.length=I:=by
    have:=bLZ (List.take I.length) he;rw[bNH (Nat.le_of_lt hl)]at this;simpa using this
   refine⟨c1.drop (I.length+1),?_⟩;have h3:=bPB I.length c1;rw[h2,bNC hl]at h3;rw[bLR hl]at h1;rw[bMQ h1]at h3;exact h3.symm
  exact h I j (t++i::c2) (by rw[ht];simp) x hx
 ·obtain⟨t,ht⟩:∃t,I=c1++t:=by
   have h2:I.take c1.length=c1:=by
    have:=bLZ (List.take c1.length) he;rw[bNH (bMH _),bMP,bNH Yd]at this;exact this.symm
   exact⟨I.drop c1.length,by rw[←h2,bNT,bPH Yd,bPB]⟩
  subst ht;have hc2:c2=t++j::d2:=by
   rw[bMC]at he;exact List.append_cancel_left he
  refine h (c1++i::t) j d2 (by rw[hc2];simp) x ?_;simp only[bMD,bLO]at hx ⊢
  rcases hx with hx|hx
  ·exact bMF hx
  ·exact bLY (bLY hx)
def yP(all:Array Oper)(dD:Array Bool)(c:List Nat):Prop:=
 ∀c1 i c2,c=c1++i::c2→∀o,all[i]?= some o→∀e∈o.after,Region.binds .any e=true→dD.getD e.on false=true∨e.on∈c1
theorem BR{c1 c2 I d2:List Nat}{j:Nat}(he:c1++c2=I++j::d2):
  (∃t,c1=I++j::t∧d2=t++c2)∨(∃t,I=c1++t∧c2=t++j::d2):=by
 rcases List.append_eq_append_iff.1 he with⟨t,h1,h2⟩|⟨t,h1,h2⟩
 ·exact bLY ⟨t,h1,h2⟩
 ·cases t with
  |nil=>exact bLY ⟨[],by simpa using h1.symm,by simpa using h2.symm⟩
  |cons x t=>
   simp only[bOF,bOH]at h2;exact bMF ⟨t,by rw[h1,h2.1],h2.2⟩
theorem yP.erase{dD:Array Bool}{c1 c2:List Nat}{i:Nat}(hi:i<dD.size)(h:yP all dD (c1++i::c2)):yP all (dD.setIfInBounds i true) (c1++c2):=by
 intro I j d2 he o ho e hm hb;rcases BR he with⟨t,h1,h2⟩|⟨t,h1,h2⟩
 ·rcases h I j (t++i::c2) (by rw[h1];simp) o ho e hm hb with hl|hl
  ·exact bMF (getD_set_true hl)
  ·exact bLY hl
 ·rcases h (c1++i::t) j d2 (by rw[h2];simp) o ho e hm hb with hl|hl
  ·exact bMF (getD_set_true hl)
  ·simp only[bMD,bLO]at hl;rcases hl with hl|hl|hl
   ·exact bLY (by rw[h1];simp[hl])
   ·rw[hl];exact bMF (by simp[hi])
   ·exact bLY (by rw[h1];simp[hl])
theorem oH{dD:Array Bool}{i:Nat}(h:i<dD.size):(dD.setIfInBounds i true).getD i false=true:=by simp[h]
theorem GA{n:Nat}{fl:Nat→Bool}(hnd:qG all=true)(hQ:PI Q):
  ∀(c:List Nat) (dD:Array Bool) (a:Act) (w:Δ),dD.size=all.size→XU all dD→c.Nodup→
   (∀i,i<all.size→(i∈c ↔ dD.getD i false=false))→(∀i∈c,i<all.size)→J8 all n fl c→yP all dD c→
   p6 r bad P all fl (fun a w=>Q .normal a w) Q c a w→wpAnyIn (FW r) 0 P .any all Q c.length dD a w:=by
 intro c;induction hlen:c.length generalizing c with
 |zero=>
  intro dD a w hs _ _ hm _ _ _ h;have hc:c=[]:=bPD.1 hlen;subst hc;refine⟨?_,h⟩;rw[List.eq_nil_iff_forall_not_mem];intro i hi;obtain⟨hun,o,ho,_⟩:=mem_ready.1 hi;have hlt:i<all.size:=(bOW.1 ho).1;have:=(hm i hlt).2 (by rw[bNS]at hun ⊢;rw[bPX Yd]at hun ⊢;exact hun)
  simp at this
 |succ k ih=>
  intro dD a w hs hcl hnodup hm hlt hg ht h;constructor
  ·intro h0;exfalso
   match c,hlen with
   |i::c',_=>
    have hi:i∈Region.ready .any all dD:=by
     refine mem_ready.2 ⟨?_,all[i]'(hlt i bLP),by simp[hlt i bLP],?_⟩
     ·have:=(hm i (hlt i bLP)).1 bLP;rw[bNS]at this ⊢
      rw[bPX (by rw[hs];exact hlt i bLP)]at this ⊢
      exact this
     ·intro e he hb;rcases ht [] i c' rfl _ (by simp[hlt i bLP]) e he hb with h|h
      ·exact h
      ·cases h
    rw[h0]at hi;cases hi
  ·intro i hi;obtain⟨hun,o,ho,hpre⟩:=mem_ready.1 hi;have hil:i<all.size:=(bOW.1 ho).1;have hun':dD.getD i false=false:=by
    rw[bNS]at hun ⊢
    rw[bPX Yd]at hun ⊢
    exact hun
   have hmem:=(hm i hil).2 hun';obtain⟨c1,c2,rfl⟩:=List.append_of_mem hmem;have hfront:∀x∈c1,jD all x=true∧qQ all x i=true∧(jD all i=true∨fl i=true∨B7 all x=true):=by
    intro x hx;rcases hg c1 i c2 rfl x hx with hr|hr
    ·have hxl:=hlt x (by simp[hx]);have:=tW hcl n i x o ho (fun e he hb=>hpre e he hb) (fun j hj=>by
      rcases Nat.lt_or_ge j dD.size with h|h
      ·omega
      ·simp[Array.getElem?_eq_none h]at hj) hr
     have h2:=(hm x hxl).1 (by simp[hx]);rw[h2]at this;cases this
    ·exact hr
   have hst:=uQ hnd hQ c1 c2 a w hfront h;refine wpOpIn_mono (fun a w hh=>?_) hst.wpOpIn;have hlen':(c1++c2).length=k:=by simp at hlen ⊢;omega
   refine ih (c1++c2) hlen' (dD.setIfInBounds i true) a w (by simpa using hs) ?_ ?_ ?_ ?_ hg.erase (ht.erase Yd) hh
   ·intro j oj hj hlj e he hb;by_cases hij:i=j
    ·subst hij;rw[ho]at hj;cases hj
     exact getD_set_true (hpre e he hb)
    ·rw[getD_set_ne false hij]at hlj;exact getD_set_true (hcl j oj hj hlj e he hb)
   ·rw[bMB]at hnodup ⊢
    refine⟨hnodup.1,(bNP.1 hnodup.2.1).2,fun x hx y hy=>hnodup.2.2 x hx y (LE _ hy)⟩
   ·intro j hj;by_cases hij:i=j
    ·subst hij;rw[oH Yd];constructor
     ·intro hmem;exfalso
      rw[bMB]at hnodup;rcases bMD.1 hmem with I|O
      ·exact hnodup.2.2 i I i bLP rfl
      ·exact(bNP.1 hnodup.2.1).1 O
     ·intro h;cases h
    ·rw[getD_set_ne false hij,←hm j hj];simp only[bMD,bLO];constructor
     ·rintro(h|h)
      ·exact bMF h
      ·exact bLY (bLY h)
     ·rintro(h|h|h)
      ·exact bMF h
      ·exact absurd h.symm hij
      ·exact bLY h
   ·intro j hj;refine hlt j ?_;simp only[bMD,bLO]at hj ⊢
    rcases hj with h|h
    ·exact bMF h
    ·exact bLY (bLY h)
def dD(all:Array Oper)(n:Nat):List Nat→List Nat→List (Bool×Oper)
 |_,[]=>[]
 |before,i::rest=>(tS all n i before,all.getD i default)::dD all n (before++[i]) rest
theorem WK{n:Nat}{K:Act→Δ→Prop}{fl:Nat→Bool}:∀(c before:List Nat) (a:Act) (w:Δ),(∀i∈c,i<all.size)→
  (∀c1 i c2,c=c1++i::c2→fl i=tS all n i (before++c1))→vG r bad P all K Q (dD all n before c) a w→p6 r bad P all fl K Q c a w:=by
 intro c;induction c with
 |nil=>intro before a w _ _ h;exact h
 |cons i c ih=>
  intro before a w hlt hf h;have hi:=hlt i bLP;have ho:all[i]?= some all[i]:=by simp[hi]
  have hd:all.getD i default=all[i]:=by simp[hi]
  have hfi:fl i=tS all n i before:=by simpa using hf [] i c rfl
  have hrec:∀a w,vG r bad P all K Q (dD all n (before++[i]) c) a w→p6 r bad P all fl K Q c a w:=fun a w hh=>
   ih (before++[i]) a w (fun j hj=>hlt j (LE _ hj)) (fun c1 j c2 he=>by
    rw[hf (i::c1) j c2 (by rw[he];rfl)];simp) hh
  simp only[dD,vG,hd]at h;simp only[p6,ho];split at h
  ·rename_i hq;obtain⟨v,hy,h⟩:=h;rw[bMG hq];exact⟨v,hy,hrec _ _ h⟩
  ·rename_i hq;rw[bLX hq,hfi];exact h.mono hrec
theorem X0{n:Nat}:∀(c before:List Nat),uI all n before c=true→before.Nodup→(before++c).Nodup:=by
 intro c;induction c with
 |nil=>intro before _ h;simpa using h
 |cons i c ih=>
  intro before h hb;simp only[uI,bLQ,bOQ,bQL,bLV]at h;have:=ih (before++[i]) h.2 (by
   rw[bMB];refine⟨hb,Yf,fun x hx y hy=>?_⟩;simp only[bMI]at hy;rintro rfl;exact h.1.2 (hy▸hx))
  simpa using this
theorem sT{n i x:Nat}:∀{l:List Nat},x∈l→nG all n i x=false→tS all n i l=true
 |y::l,hx,hr=>by
  simp only[tS,bMU,bOQ];rcases bLO.1 hx with rfl|hx
  ·exact bMF hr
  ·exact bLY (sT hx hr)
theorem bKW{id n:Nat}{c:List Nat}{a:Act}{w:Δ}(hm:P.follows .mixedOrders=true)(hc:bEP all n c=true)(hQ:PI Q)
  (h:vG r bad P all (fun a w=>Q .normal a w) Q (dD all n [] c) a {w with drawn:=w.drawn+1}):
  (Code.region id all true).wpIn (FW r) 0 P Q a w:=by
 simp only[bEP,bLQ,bQR,bMK,bNJ,bQL,LT]at hc;obtain⟨⟨⟨hnd,hlen⟩,hall⟩,hfrom⟩:=hc;have hnodup:c.Nodup:=by simpa using X0 c [] hfrom bNW
 have hlt:∀i∈c,i<all.size:=by
  intro i hi;obtain⟨c1,c2,rfl⟩:=List.append_of_mem hi;have:=(tB _ [] c1 i c2 hfrom rfl).2.1;unfold I8 at this;rcases Nat.lt_or_ge i all.size with h|h
  ·exact h
  ·simp[Array.getElem?_eq_none h]at this
 refine wpIn_region_any hm ?_;rw[←hlen];refine GA (bad:=bad) (fl:=fun i=>tS all n i (c.take (c.idxOf i))) (n:=n) hnd hQ c _ a _ (by simp[hlen]) ?_ hnodup ?_ hlt ?_ ?_ ?_
 ·intro i o ho hl;simp[Array.getElem?_replicate]at hl;split at hl<;>simp at hl
 ·intro i hi;simp only[bNS,Array.getElem?_replicate,hlen,hi,bOC,bPK,iff_true];exact hall i hi
 ·intro c1 i c2 he x hx;obtain⟨hg,_,_⟩:=tB _ [] c1 i c2 hfrom he;have h1:=bMK.1 hg x Xat;simp only[bMU,bLQ]at h1;cases hr:nG all n i x with
  |true=>exact bMF rfl
  |false=>
   rw[hr]at h1;have h1:=h1.resolve_left Yf;refine bLY ⟨h1.1,h1.2,bLY (bMF ?_)⟩;have hni:i∉c1:=by
    rw[he,bMB]at hnodup;intro hm;exact hnodup.2.2 i hm i bLP rfl
   have:c.take (c.idxOf i)=c1:=by
    rw[he,List.idxOf_append,bLX hni,List.idxOf_cons_self];simp
   show tS all n i (c.take (c.idxOf i))=true;rw[this];exact sT hx hr
 ·intro c1 i c2 he o ho e hm hb;obtain⟨_,ht,_⟩:=tB _ [] c1 i c2 hfrom he;unfold I8 at ht;rw[ho]at ht;simp only[bNL,bPK,bMK,bMU,bOQ,bMW,bQL,LT]at ht;rcases ht e Xau with h|h
  ·rw[hb]at h;cases h
  ·exact bLY h
 ·refine WK (n:=n) c [] a _ hlt ?_ h;intro c1 i c2 he;have hni:i∉c1:=by
   rw[he,bMB]at hnodup;intro hm;exact hnodup.2.2 i hm i bLP rfl
  have:c.take (c.idxOf i)=c1:=by
   rw[he,List.idxOf_append,bLX hni,List.idxOf_cons_self];simp
  show tS all n i (c.take (c.idxOf i))=_;rw[this];rfl
def iZ(all:Array Oper)(is:List (Bool×Nat)):List (Bool×Oper):=is.map fun p=>(p.1,all.getD p.2 default)
theorem aVQ(all:Array Oper):(all.toList.map fun o=>(false,o))=iZ all ((List.range all.size).map fun i=>(false,i)):=by
 apply List.ext_getElem
 ·simp[iZ]
 ·intro i h1 h2;simp[iZ]at h1 ⊢
  simp[h1]

def QD(all:Array Oper)(n:Nat)(fls:List Bool)(E:List Nat)(i:Nat)(before:List Nat):Bool:=
 before.all fun x=>E.contains x||nG all n i x||(jD all x&&qQ all x i&&(jD all i||(fls.getD i false||B7 all x)))
def T4(all:Array Oper)(n:Nat)(E:List Nat)(fl:Nat→Bool)(c:List Nat):Prop:=
 ∀c1 i c2,c=c1++i::c2→∀x∈c1,x∈E∨nG all n i x=true∨(jD all x=true∧qQ all x i=true∧(jD all i=true∨fl i=true∨B7 all x=true))
theorem T4.erase{n:Nat}{E:List Nat}{fl:Nat→Bool}{c1 c2:List Nat}{i:Nat}(h:T4 all n E fl (c1++i::c2)):T4 all n E fl (c1++c2):=by
 intro I j d2 he x hx;rcases BR he with⟨t,h1,h2⟩|⟨t,h1,h2⟩
 ·exact h I j (t++i::c2) (by rw[h1];simp) x hx
 ·refine h (c1++i::t) j d2 (by rw[h2];simp) x ?_;rw[h1]at hx;simp only[bMD,bLO]at hx ⊢
  rcases hx with hx|hx
  ·exact bMF hx
  ·exact bLY (bLY hx)
theorem T4.none{n:Nat}{E:List Nat}{fl:Nat→Bool}{c:List Nat}(h:T4 all n E fl c)(hp:∀e∈E,e∉c):J8 all n fl c:=by
 intro c1 i c2 he x hx;rcases h c1 i c2 he x hx with h|h
 ·exact absurd (by rw[he];simp[hx]) (hp x h)
 ·exact h
theorem pC{fl:Nat→Bool}{K:Act→Δ→Prop}:∀(c d:List Nat) (a:Act) (w:Δ),p6 r bad P all fl (p6 r bad P all fl K Q d) Q c a w→p6 r bad P all fl K Q (c++d) a w
 | [],d,a,w,h=>h
 |i::c,d,a,w,h=>by
  rw[bOF,qZ];rw[qZ]at h;exact h.mono fun a w=>pC c d a w
structure ID(all:Array Oper)(n:Nat)(dD:Array Bool)(c:List Nat):Prop where
 size:dD.size=all.size
 closed:XU all dD
 nodup:c.Nodup
 mem:∀i,i<all.size→(i∈c ↔ dD.getD i false=false)
 lt:∀i∈c,i<all.size
 topo:yP all dD c
theorem ID.step{n:Nat}{dD:Array Bool}{c1 c2:List Nat}{i:Nat}{o:Oper}(h:ID all n dD (c1++i::c2))(ho:all[i]?= some o)(hpre:∀e∈o.after,Region.binds .any e=true→dD.getD e.on false=true):ID all n (dD.setIfInBounds i true) (c1++c2):=by
 have hil:i<all.size:=(bOW.1 ho).1;have hs:=h.size;refine⟨by simpa using hs,?_,?_,?_,?_,h.topo.erase Yd⟩
 ·intro j oj hj hlj e he hb;by_cases hij:i=j
  ·subst hij;rw[ho]at hj;cases hj
   exact getD_set_true (hpre e he hb)
  ·rw[getD_set_ne false hij]at hlj;exact getD_set_true (h.closed j oj hj hlj e he hb)
 ·have hnodup:=h.nodup;rw[bMB]at hnodup ⊢
  exact⟨hnodup.1,(bNP.1 hnodup.2.1).2,fun x hx y hy=>hnodup.2.2 x hx y (LE _ hy)⟩
 ·intro j hj;have hnodup:=h.nodup;by_cases hij:i=j
  ·subst hij;rw[oH Yd];constructor
   ·intro hmem;exfalso
    rw[bMB]at hnodup;rcases bMD.1 hmem with I|O
    ·exact hnodup.2.2 i I i bLP rfl
    ·exact(bNP.1 hnodup.2.1).1 O
   ·intro h;cases h
  ·rw[getD_set_ne false hij,←h.mem j hj];simp only[bMD,bLO];constructor
   ·rintro(h|h)
    ·exact bMF h
    ·exact bLY (bLY h)
   ·rintro(h|h|h)
    ·exact bMF h
    ·exact absurd h.symm hij
    ·exact bLY h
 ·intro j hj;refine h.lt j ?_;simp only[bMD,bLO]at hj ⊢
  rcases hj with h|h
  ·exact bMF h
  ·exact bLY (bLY h)
inductive iP where
 |fin (c:List Nat)
 |fork (d:List Nat) (p:Nat) (A:iP) (q:Nat) (B:iP)
 |forkN (d:List Nat) (p:Nat) (ps:List Nat) (A:Nat→iP)
def iP.list:iP→List Nat
 |.fin c=>c
 |.fork d p A _ _=>d++p::A.list
 |.forkN d p _ A=>d++p::(A p).list
def oG:List iP→List Nat
 | []=>[]
 |pl::segs=>pl.list++oG segs
def aMO(r:Option Nat){γb:Type}[Membership Nat γb](bad:γb)(P:Program)(all:Array Oper)(fl:Nat→Bool)(Q:Exit→Act→Δ→Prop)(kont:Act→Δ→Prop):iP→Act→Δ→Prop
 |.fin c=>p6 r bad P all fl kont Q c
 |.fork d p A q B=>p6 r bad P all fl (fun a w=>mJ r bad P all fl Q p (aMO r bad P all fl Q kont A) a w∧mJ r bad P all fl Q q (aMO r bad P all fl Q kont B) a w) Q d
 |.forkN d p ps A=>p6 r bad P all fl (fun a w=>∀i∈p::ps,mJ r bad P all fl Q i (aMO r bad P all fl Q kont (A i)) a w) Q d
def bLE(r:Option Nat){γb:Type}[Membership Nat γb](bad:γb)(P:Program)(all:Array Oper)(fl:Nat→Bool)(Q:Exit→Act→Δ→Prop):List iP→Act→Δ→Prop
 | []=>fun a w=>Q .normal a w
 |pl::segs=>aMO r bad P all fl Q (bLE r bad P all fl Q segs) pl
def kA(all:Array Oper)(n:Nat)(cont:List Nat→List Nat→Array Bool→Prop)(rest:List Nat):iP→List Nat→List Nat→Array Bool→Prop
 |.fin c,pre,E,L=>cont (pre++c) E L
 |.fork d p A q B,pre,E,L=>kA all n cont rest A (pre++d++[p]) (p::E) L∧kA all n cont rest B (pre++d++[q]) (q::E) L∧q∈A.list++rest∧A.list.length=B.list.length∧∀i∈A.list++rest,i=q∨nG all n i p=true∨nG all n i q=true
 |.forkN d p ps A,pre,E,L=>(∀i∈p::ps,kA all n cont rest (A i) (pre++d++[i]) (i::E) L∧(A i).list.length=(A p).list.length∧(i=p∨i∈(A p).list++rest))∧∀i∈(A p).list++rest,i∈ps∨∃q∈p::ps,nG all n i q=true
def aTE(all:Array Oper)(n:Nat)(fl:Nat→Bool):List iP→List Nat→List Nat→Array Bool→Prop
 | [],pre,E,L=>ID all n L pre∧T4 all n E fl pre
 |pl::segs,pre,E,L=>kA all n (aTE all n fl segs) (oG segs) pl pre E L
structure ET(all:Array Oper)(n:Nat)(fl:Nat→Bool)(cont:List Nat→List Nat→Array Bool→Prop)(rest:List Nat):Prop where
 part:∀pre E L,cont pre E L→ID all n L (pre++rest)
 good:∀pre E L,cont pre E L→T4 all n E fl pre
 erase:∀c1 i c2 E L (o:Oper),all[i]?= some o→(∀e∈o.after,Region.binds .any e=true→L.getD e.on false=true)→cont (c1++i::c2) E L→cont (c1++c2) E (L.setIfInBounds i true)
theorem kA.part{n:Nat}{fl:Nat→Bool}{cont:List Nat→List Nat→Array Bool→Prop}{rest:List Nat}(hc:ET all n fl cont rest):∀{pl:iP} {pre E:List Nat} {L:Array Bool},kA all n cont rest pl pre E L→ID all n L (pre++(pl.list++rest))
 |.fin c,pre,E,L,h=>by
  have:=hc.part _ _ _ h;rw[bMC]at this;exact this
 |.fork d p A q B,pre,E,L,h=>by
  have:=kA.part hc h.1;simpa [iP.list]using this
 |.forkN d p ps A,pre,E,L,h=>by
  have:=kA.part hc (h.1 p bLP).1;simpa [iP.list]using this
theorem kA.good{n:Nat}{fl:Nat→Bool}{cont:List Nat→List Nat→Array Bool→Prop}{rest:List Nat}(hc:ET all n fl cont rest):∀{pl:iP} {pre E:List Nat} {L:Array Bool},kA all n cont rest pl pre E L→T4 all n E fl pre
 |.fin c,pre,E,L,h=>by
  intro c1 i c2 he x hx;exact hc.good _ _ _ h c1 i (c2++c) (by rw[he];simp) x hx
 |.fork d p A q B,pre,E,L,h=>by
  intro c1 i c2 he x hx;have h1:=kA.good hc h.1 c1 i (c2++d++[p]) (by rw[he];simp) x hx
  have hn:=(kA.part hc h.1).nodup;rcases h1 with h1|h1
  ·rcases bLO.1 h1 with rfl|h1
   ·exfalso
    rw[he]at hn;simp only[bMC]at hn;rw[bMB]at hn;exact hn.2.2 x hx x Yf rfl
   ·exact bMF h1
  ·exact bLY h1
 |.forkN d p ps A,pre,E,L,h=>by
  intro c1 i c2 he x hx;have h1:=kA.good hc (h.1 p bLP).1 c1 i (c2++d++[p]) (by rw[he];simp) x hx
  have hn:=(kA.part hc (h.1 p bLP).1).nodup;rcases h1 with h1|h1
  ·rcases bLO.1 h1 with rfl|h1
   ·exfalso
    rw[he]at hn;simp only[bMC]at hn;rw[bMB]at hn;exact hn.2.2 x hx x Yf rfl
   ·exact bMF h1
  ·exact bLY h1
theorem kA.erase{n:Nat}{fl:Nat→Bool}{cont:List Nat→List Nat→Array Bool→Prop}{rest:List Nat}(hc:ET all n fl cont rest){i:Nat}{o:Oper}(ho:all[i]?= some o){L:Array Bool}(hpre:∀e∈o.after,Region.binds .any e=true→L.getD e.on false=true):∀{pl:iP} {c1 c2 E:List Nat},kA all n cont rest pl (c1++i::c2) E L→kA all n cont rest pl (c1++c2) E (L.setIfInBounds i true)
 |.fin c,c1,c2,E,h=>by
  have h':cont (c1++i::(c2++c)) E L:=by
   have h2:cont (c1++i::c2++c) E L:=h;simpa using h2
  have:=hc.erase c1 i (c2++c) E L o ho hpre h';show cont (c1++c2++c) E _;rw[bMC];exact this
 |.fork d p A q B,c1,c2,E,h=>by
  obtain⟨h1,h2,h3⟩:=h;have e:∀z:Nat,c1++i::c2++d++[z]=c1++i::(c2++d++[z]):=fun z=>by simp
  have e':∀z:Nat,c1++(c2++d++[z])=c1++c2++d++[z]:=fun z=>by simp
  rw[e]at h1 h2;have I:=kA.erase hc ho hpre h1;have O:=kA.erase hc ho hpre h2;rw[e']at I O;exact⟨I,O,h3⟩
 |.forkN d p ps A,c1,c2,E,h=>by
  refine⟨fun z hz=>?_,h.2⟩;obtain⟨h1,h2,h3⟩:=h.1 z hz;have e:c1++i::c2++d++[z]=c1++i::(c2++d++[z]):=by simp
  have e':c1++(c2++d++[z])=c1++c2++d++[z]:=by simp
  rw[e]at h1;have I:=kA.erase hc ho hpre h1;rw[e']at I;exact⟨I,h2,h3⟩
theorem PD(n:Nat)(fl:Nat→Bool):∀segs:List iP,ET all n fl (aTE all n fl segs) (oG segs)
 | []=>⟨fun pre E L h=>by rw[oG,bMM];exact h.1,fun pre E L h=>h.2,fun c1 i c2 E L o ho hpre h=>⟨h.1.step ho hpre,h.2.erase⟩⟩
 |_::segs=>⟨fun pre E L h=>kA.part (PD n fl segs) h,fun pre E L h=>kA.good (PD n fl segs) h,fun c1 i c2 E L o ho hpre h=>kA.erase (PD n fl segs) ho hpre h⟩
theorem ID.frontE{n:Nat}{E:List Nat}{fl:Nat→Bool}{dD:Array Bool}{c1 c2 c3:List Nat}{i:Nat}{o:Oper}(h:ID all n dD (c1++i::c3))(hg:T4 all n E fl (c1++i::c2))(ho:all[i]?= some o)(hpre:∀e∈o.after,Region.binds .any e=true→dD.getD e.on false=true)(hE:∀e∈E,e∉c1):
  ∀x∈c1,jD all x=true∧qQ all x i=true∧(jD all i=true∨fl i=true∨B7 all x=true):=by
 intro x hx;rcases hg c1 i c2 rfl x hx with he|hr|hr
 ·exact absurd hx (hE x he)
 ·have hxl:=h.lt x (by simp[hx]);have:=tW h.closed n i x o ho hpre (fun j hj=>by
   rcases Nat.lt_or_ge j dD.size with h'|h'
   ·have:=h.size;omega
   ·simp[Array.getElem?_eq_none h']at hj) hr
  have h2:=(h.mem x hxl).1 (by simp[hx]);rw[h2]at this;cases this
 ·exact hr
theorem W3{fl:Nat→Bool}{K:Act→Δ→Prop}{i:Nat}{a:Act}{w:Δ}(h:mJ r bad P all fl Q i K a w):p6 r bad P all fl K Q [i] a w:=by
 rw[qZ];exact h
theorem wI{n:Nat}{fl:Nat→Bool}{cont:List Nat→List Nat→Array Bool→Prop}{rest:List Nat}{kont:Act→Δ→Prop}(hnd:qG all=true)(hQ:PI Q)(hc:ET all n fl cont rest)
  (hcont:∀(pre E:List Nat) (L:Array Bool) (a:Act) (w:Δ),(∀e∈E,L.getD e false=true)→cont pre E L→p6 r bad P all fl kont Q pre a w→wpAnyIn (FW r) 0 P .any all Q (pre++rest).length L a w):
  ∀(pl:iP) (pre E:List Nat) (L:Array Bool) (a:Act) (w:Δ),(∀e∈E,L.getD e false=true)→kA all n cont rest pl pre E L→p6 r bad P all fl (aMO r bad P all fl Q kont pl) Q pre a w→
  wpAnyIn (FW r) 0 P .any all Q (pre++(pl.list++rest)).length L a w
 |.fin c,pre,E,L,a,w,hE,hr,h=>by
  have:=hcont (pre++c) E L a w hE hr (pC pre c a w h);rw[bMC]at this;exact this
 |.fork d p A q B,pre,E,L,a,w,hE,hr,h=>by
  have hmain:∀(m:Nat) (d':List Nat) (L:Array Bool) (a:Act) (w:Δ),d'.length=m→(∀e∈E,L.getD e false=true)→kA all n cont rest A (d'++[p]) (p::E) L→kA all n cont rest B (d'++[q]) (q::E) L→q∈A.list++rest→A.list.length=B.list.length→(∀i∈A.list++rest,i=q∨nG all n i p=true∨nG all n i q=true)→
    p6 r bad P all fl (fun a w=>mJ r bad P all fl Q p (aMO r bad P all fl Q kont A) a w∧mJ r bad P all fl Q q (aMO r bad P all fl Q kont B) a w) Q d' a w→wpAnyIn (FW r) 0 P .any all Q (d'++p::(A.list++rest)).length L a w:=by
   intro m;induction m using Nat.strongRecOn with
   |_ m ih=>
   intro d' L a w hm hE hA hB hqA hlen he h;have h1:=kA.part hc hA;have h2:=kA.part hc hB;rw[bMC]at h1 h2;have gA:=kA.good hc hA;have gB:=kA.good hc hB;simp only[bPI]at h1 h2;obtain⟨k,hk⟩:∃k,(d'++p::(A.list++rest)).length=k+1:=⟨d'.length+(A.list++rest).length,Yap⟩
   rw[hk];constructor
   ·intro h0;exfalso
    match hcc:d'++p::(A.list++rest),hk with
    |i::c',_=>
     rw[hcc]at h1;have hil:=h1.lt i bLP;have hi:i∈Region.ready .any all L:=by
      refine mem_ready.2 ⟨?_,all[i],by simp[hil],?_⟩
      ·have:=(h1.mem i hil).1 bLP;rw[bNS]at this ⊢
       rw[bPX Xav]at this ⊢
       exact this
      ·intro e he hb;rcases h1.topo [] i c' rfl _ (by simp[hil]) e he hb with h|h
       ·exact h
       ·cases h
     rw[h0]at hi;cases hi
   ·intro i hi;obtain⟨hun,o,ho,hpre⟩:=mem_ready.1 hi;have hil:i<all.size:=(bOW.1 ho).1;have hun':L.getD i false=false:=by
     have:=h1.size;rw[bNS]at hun ⊢
     rw[bPX Yd]at hun ⊢
     exact hun
    have hmem:=(h1.mem i hil).2 hun';have I:∀x,x∈d'++p::(A.list++rest)→nG all n i x=true→False:=by
     intro x hx hr;have:=tW h1.closed n i x o ho hpre (fun j hj=>by
      rcases Nat.lt_or_ge j L.size with h'|h'
      ·have:=h1.size;omega
      ·simp[Array.getElem?_eq_none h']at hj) hr
     have h2:=(h1.mem x (h1.lt x hx)).1 hx;rw[h2]at this;cases this
    have hEd:∀e∈E,e∉d':=fun e he hm=>by
     have:=(h1.mem e (h1.lt e Xag)).1 Xag;rw[hE e he]at this;cases this
    have hnA:p∉d':=fun hp=>by
     have hn:=h1.nodup;rw[bMB]at hn;exact hn.2.2 p hp p Yf rfl
    have hnB:q∉d':=fun hp=>by
     have hn:=h2.nodup;rw[bMB]at hn;exact hn.2.2 q hp q Yf rfl
    rw[bMD,bLO]at hmem;rcases hmem with hm'|rfl|hm'
    ·obtain⟨c1,c2,rfl⟩:=List.append_of_mem hm';have U:∀z:Nat,(c1++i::c2)++[z]=c1++i::(c2++[z]):=fun z=>by simp
     have V:∀z:Nat,c1++(c2++[z])=(c1++c2)++[z]:=fun z=>by simp
     rw[U]at hA hB gA;have O:(c1++i::(c2++p::(A.list++rest))).length=k+1:=by rw[←hk];simp
     have h1':ID all n L (c1++i::(c2++p::(A.list++rest))):=by simpa using h1
     have hf:=h1'.frontE gA ho hpre (fun e he hm=>by
      rcases bLO.1 he with rfl|he
      ·exact hnA Xag
      ·exact hEd e he Xag)
     have hst:=uQ hnd hQ c1 c2 a w hf h;refine wpOpIn_mono (fun a w hh=>?_) hst.wpOpIn;have sA:=kA.erase hc ho hpre hA;have sB:=kA.erase hc ho hpre hB;rw[V]at sA sB;have:=ih (c1++c2).length (by rw[←hm];simp) (c1++c2) _ a w rfl (fun e he=>getD_set_true (hE e he)) sA sB hqA hlen ‹_› hh
     have hl:((c1++c2)++p::(A.list++rest)).length=k:=by simp at O ⊢;omega
     rw[hl]at this;exact this
    ·have hw:=pC (K:=fun a w=>aMO r bad P all fl Q kont A a w) d' [i] a w (uU (fun _ _ h=>W3 h.1) d' h);have hf:=h1.frontE (c2:=[]) gA ho hpre (fun e he hm=>by
      rcases bLO.1 he with rfl|he
      ·exact hnA hm
      ·exact hEd e he hm)
     have hst:=uQ hnd hQ d' [] a w hf hw;refine wpOpIn_mono (fun a w hh=>?_) hst.wpOpIn;have sA:=kA.erase hc ho hpre hA;rw[bMM]at sA hh;have:=wI hnd hQ hc hcont A d' (i::E) _ a w (fun e he=>by
      rcases bLO.1 he with rfl|he
      ·exact oH Xav
      ·exact getD_set_true (hE e he)) sA hh
     have hl:(d'++(A.list++rest)).length=k:=by simp at hk ⊢;omega
     rw[hl]at this;exact this
    ·by_cases hiq:i=q
     ·subst hiq;have hw:=pC (K:=fun a w=>aMO r bad P all fl Q kont B a w) d' [i] a w (uU (fun _ _ h=>W3 h.2) d' h);have hf:=h2.frontE (c2:=[]) gB ho hpre (fun e he hm=>by
       rcases bLO.1 he with rfl|he
       ·exact hnB hm
       ·exact hEd e he hm)
      have hst:=uQ hnd hQ d' [] a w hf hw;refine wpOpIn_mono (fun a w hh=>?_) hst.wpOpIn;have sB:=kA.erase hc ho hpre hB;rw[bMM]at sB hh;have:=wI hnd hQ hc hcont B d' (i::E) _ a w (fun e he=>by
       rcases bLO.1 he with rfl|he
       ·exact oH Xav
       ·exact getD_set_true (hE e he)) sB hh
      have hl:(d'++(B.list++rest)).length=k:=by simp at hk ⊢;omega
      rw[hl]at this;exact this
     ·exfalso
      rcases he i hm' with hr|hr|hr
      ·exact hiq hr
      ·exact I p Yf hr
      ·exact I q (GT _ (LE _ hqA)) hr
  obtain⟨hA,hB,hqA,hlen,he⟩:=hr;have:=hmain (pre++d).length (pre++d) L a w rfl hE hA hB hqA hlen he (pC pre d a w h);have e:pre++d++p::(A.list++rest)=pre++((iP.fork d p A q B).list++rest):=by simp[iP.list]
  rw[e]at this;exact this

 |.forkN d p ps A,pre,E,L,a,w,hE,hr,h=>by
  have hmain:∀(m:Nat) (d':List Nat) (L:Array Bool) (a:Act) (w:Δ),d'.length=m→(∀e∈E,L.getD e false=true)→(∀i∈p::ps,kA all n cont rest (A i) (d'++[i]) (i::E) L∧(A i).list.length=(A p).list.length∧(i=p∨i∈(A p).list++rest))→(∀i∈(A p).list++rest,i∈ps∨∃q∈p::ps,nG all n i q=true)→
    p6 r bad P all fl (fun a w=>∀i∈p::ps,mJ r bad P all fl Q i (aMO r bad P all fl Q kont (A i)) a w) Q d' a w→wpAnyIn (FW r) 0 P .any all Q (d'++p::((A p).list++rest)).length L a w:=by
   intro m;induction m using Nat.strongRecOn with
   |_ m ih=>
   intro d' L a w hm hE hA he h;have h1:=kA.part hc (hA p bLP).1;rw[bMC]at h1;simp only[bPI]at h1;obtain⟨k,hk⟩:∃k,(d'++p::((A p).list++rest)).length=k+1:=⟨d'.length+((A p).list++rest).length,Yap⟩
   rw[hk];constructor
   ·intro h0;exfalso
    match hcc:d'++p::((A p).list++rest),hk with
    |i::c',_=>
     rw[hcc]at h1;have hil:=h1.lt i bLP;have hi:i∈Region.ready .any all L:=by
      refine mem_ready.2 ⟨?_,all[i],by simp[hil],?_⟩
      ·have:=(h1.mem i hil).1 bLP;rw[bNS]at this ⊢
       rw[bPX Xav]at this ⊢
       exact this
      ·intro e he hb;rcases h1.topo [] i c' rfl _ (by simp[hil]) e he hb with h|h
       ·exact h
       ·cases h
     rw[h0]at hi;cases hi
   ·intro i hi;obtain⟨hun,o,ho,hpre⟩:=mem_ready.1 hi;have hil:i<all.size:=(bOW.1 ho).1;have hun':L.getD i false=false:=by
     have:=h1.size;rw[bNS]at hun ⊢
     rw[bPX Yd]at hun ⊢
     exact hun
    have hmem:=(h1.mem i hil).2 hun';have I:∀x,x∈d'++p::((A p).list++rest)→nG all n i x=true→False:=by
     intro x hx hr;have:=tW h1.closed n i x o ho hpre (fun j hj=>by
      rcases Nat.lt_or_ge j L.size with h'|h'
      ·have:=h1.size;omega
      ·simp[Array.getElem?_eq_none h']at hj) hr
     have h2:=(h1.mem x (h1.lt x hx)).1 hx;rw[h2]at this;cases this
    have hEd:∀e∈E,e∉d':=fun e he hm=>by
     have:=(h1.mem e (h1.lt e Xag)).1 Xag;rw[hE e he]at this;cases this
    have hnz:∀z∈p::ps,z∉d':=fun z hz hp=>by
     have hn:=(kA.part hc (hA z hz).1).nodup;rw[bMC,bMB]at hn;exact hn.2.2 z hp z Yf rfl
    have hin:∀z∈p::ps,z∈d'++p::((A p).list++rest):=fun z hz=>by
     rcases(hA z hz).2.2 with rfl|hz'
     ·simp
     ·exact GT _ (LE _ hz')
    by_cases hz:i∈p::ps
    ·have h2:=kA.part hc (hA i hz).1;rw[bMC]at h2;simp only[bPI]at h2;have hw:=pC (K:=fun a w=>aMO r bad P all fl Q kont (A i) a w) d' [i] a w (uU (fun _ _ h=>W3 (h i hz)) d' h);have hf:=h2.frontE (c2:=[]) (kA.good hc (hA i hz).1) ho hpre (fun e he hm=>by
      rcases bLO.1 he with rfl|he
      ·exact hnz _ hz hm
      ·exact hEd e he hm)
     have hst:=uQ hnd hQ d' [] a w hf hw;refine wpOpIn_mono (fun a w hh=>?_) hst.wpOpIn;have sA:=kA.erase hc ho hpre (hA i hz).1;rw[bMM]at sA hh;have:=wI hnd hQ hc hcont (A i) d' (i::E) _ a w (fun e he=>by
      rcases bLO.1 he with rfl|he
      ·exact oH Xav
      ·exact getD_set_true (hE e he)) sA hh
     have hl:(d'++((A i).list++rest)).length=k:=by
      have:=(hA i hz).2.1;simp at hk ⊢;omega
     rw[hl]at this;exact this
    ·rw[bMD,bLO]at hmem;rcases hmem with hm'|rfl|hm'
     ·obtain⟨c1,c2,rfl⟩:=List.append_of_mem hm';have U:∀z:Nat,(c1++i::c2)++[z]=c1++i::(c2++[z]):=fun z=>by simp
      have V:∀z:Nat,c1++(c2++[z])=(c1++c2)++[z]:=fun z=>by simp
      have gA:=kA.good hc (hA p bLP).1;rw[U]at gA;have O:(c1++i::(c2++p::((A p).list++rest))).length=k+1:=by rw[←hk];simp
      have h1':ID all n L (c1++i::(c2++p::((A p).list++rest))):=by simpa using h1
      have hf:=h1'.frontE gA ho hpre (fun e he hm=>by
       rcases bLO.1 he with rfl|he
       ·exact hnz _ bLP Xag
       ·exact hEd e he Xag)
      have hst:=uQ hnd hQ c1 c2 a w hf h;refine wpOpIn_mono (fun a w hh=>?_) hst.wpOpIn;have:=ih (c1++c2).length (by rw[←hm];simp) (c1++c2) _ a w rfl (fun e he=>getD_set_true (hE e he)) (fun z hz=>by
       have R:=(hA z hz).1;rw[U]at R;have sA:=kA.erase hc ho hpre R;rw[V]at sA;exact⟨sA,(hA z hz).2⟩) he hh
      have hl:((c1++c2)++p::((A p).list++rest)).length=k:=by simp at O ⊢;omega
      rw[hl]at this;exact this
     ·exact absurd bLP hz
     ·rcases he i hm' with hr|⟨q,hq,hr⟩
      ·exact absurd (LE _ hr) hz
      ·exact(I q (hin q hq) hr).elim
  obtain⟨hA,he⟩:=hr;have:=hmain (pre++d).length (pre++d) L a w rfl hE hA he (pC pre d a w h);have e:pre++d++p::((A p).list++rest)=pre++((iP.forkN d p ps A).list++rest):=by simp[iP.list]
  rw[e]at this;exact this
theorem AR{n:Nat}{fl:Nat→Bool}(hnd:qG all=true)(hQ:PI Q):∀(segs:List iP) (pre E:List Nat) (L:Array Bool) (a:Act) (w:Δ),(∀e∈E,L.getD e false=true)→aTE all n fl segs pre E L→p6 r bad P all fl (bLE r bad P all fl Q segs) Q pre a w→
  wpAnyIn (FW r) 0 P .any all Q (pre++oG segs).length L a w
 | [],pre,E,L,a,w,hE,hr,h=>by
  obtain⟨hp,hg⟩:=hr;rw[oG,bMM];refine GA hnd hQ pre L a w hp.size hp.closed hp.nodup hp.mem hp.lt (hg.none fun e he hm=>?_) hp.topo h;have:=(hp.mem e (hp.lt e hm)).1 hm;rw[hE e he]at this;cases this
 |pl::segs,pre,E,L,a,w,hE,hr,h=>
  wI hnd hQ (PD n fl segs) (AR hnd hQ segs) pl pre E L a w hE hr h

def aBY(all:Array Oper)(n:Nat)(fls:List Bool)(S:List Nat)(i:Nat):Bool:=S.all fun x=>nG all n i x||(jD all x&&qQ all x i&&(jD all i||(fls.getD i false||B7 all x)))
def vI(all:Array Oper)(n:Nat)(fls:List Bool)(S E:List Nat):List Nat→List Nat→Bool
 |_,[]=>true
 |before,i::rest=>QD all n fls E i before&&aBY all n fls S i&&I8 all i (S++before)&& !(S++before).contains i&&Nat.blt i all.size&&vI all n fls S E (before++[i]) rest
def xD(all:Array Oper)(n:Nat)(fls:List Bool)(S rest T:List Nat):iP→List Nat→List Nat→Bool
 |.fin c,pre,E=>vI all n fls S E [] (pre++c)&&Nat.beq (pre++c).length T.length&&(pre++c).all T.contains&&T.all (pre++c).contains
 |.fork d p A q B,pre,E=>xD all n fls S rest T A (pre++d++[p]) (p::E)&&xD all n fls S rest T B (pre++d++[q]) (q::E)&&((A.list++rest).any fun i=>Nat.beq i q)&&Nat.beq A.list.length B.list.length&&(A.list++rest).all fun i=>Nat.beq i q||(nG all n i p||nG all n i q)
 |.forkN d p ps A,pre,E=>(p::ps).all (fun i=>xD all n fls S rest T (A i) (pre++d++[i]) (i::E)&&Nat.beq (A i).list.length (A p).list.length&&(Nat.beq i p||((A p).list++rest).contains i))&&((A p).list++rest).all fun i=>ps.contains i||(p::ps).any fun q=>nG all n i q
def kS(all:Array Oper)(n:Nat)(fls:List Bool):List Nat→List iP→Bool
 |S,[]=>qG all&&Nat.beq S.length all.size&&(List.range all.size).all S.contains
 |S,pl::segs=>xD all n fls S (oG segs) pl.list pl [] []&&kS all n fls (S++pl.list) segs
structure JP(all:Array Oper)(n:Nat)(fls:List Bool)(S pre E:List Nat):Prop where
 nodup:pre.Nodup
 mem:∀i,i∈pre ↔ i∈S
 lt:∀i∈pre,i<all.size
 good:T4 all n E (fun i=>fls.getD i false) pre
 topo:yP all (Array.replicate all.size false) pre
 len:pre.length=S.length
theorem NU{n:Nat}{S E:List Nat}{fls:List Bool}:∀(c before c1:List Nat) (i:Nat) (c2:List Nat),vI all n fls S E before c=true→c=c1++i::c2→
  QD all n fls E i (before++c1)=true∧aBY all n fls S i=true∧I8 all i (S++(before++c1))=true∧i∉S++(before++c1)∧i<all.size:=by
 intro c;induction c with
 |nil=>intro before c1 i c2 _ h;simp at h
 |cons x c ih=>
  intro before c1 i c2 hc h;simp only[vI,bLQ]at hc;obtain⟨⟨⟨⟨⟨g,cr⟩,t⟩,nm⟩,lt⟩,hc⟩:=hc;cases c1 with
  |nil=>
   simp only[bMW,bOH]at h;rw[←h.1,bMM];exact⟨g,cr,t,by simpa using nm,by simpa [Nat.blt_eq]using lt⟩
  |cons y c1=>
   simp only[bOF,bOH]at h;have:=ih (before++[x]) c1 i c2 hc h.2;rw[h.1]at this;simpa using this
theorem JP.more{n:Nat}{fls:List Bool}{S pre E E' T c:List Nat}(h:JP all n fls S pre E)(hE:∀e∈E,e∈E')(hc:vI all n fls S E' [] c=true)(hT:∀i,i∈c ↔ i∈T)(hl:c.length=T.length):JP all n fls (S++T) (pre++c) E':=by
 have sp:=fun c1 i c2 he=>NU c [] c1 i c2 hc he
 simp only[bMW]at sp;have hcn:c.Nodup:=by
  have key:∀(c before:List Nat),vI all n fls S E' before c=true→before.Nodup→(before++c).Nodup:=by
   intro c;induction c with
   |nil=>intro before _ h;simpa using h
   |cons i c ih=>
    intro before h hb;simp only[vI,bLQ]at h;have hn:i∉S++before:=by simpa using h.1.1.2
    have:=ih (before++[i]) h.2 (by
     rw[bMB];refine⟨hb,Yf,fun x hx y hy=>?_⟩;simp only[bMI]at hy;rintro rfl;exact hn (GT _ (hy▸hx)))
    simpa using this
  simpa using key c [] hc bNW
 have hcS:∀i∈c,i∉S:=fun i hi=>by
  obtain⟨c1,c2,rfl⟩:=List.append_of_mem hi;have:=(sp c1 i c2 rfl).2.2.2.1;exact fun hS=>this (bMA _ hS)
 refine⟨?_,fun i=>?_,fun i hi=>?_,?_,?_,by simp[h.len,hl]⟩
 ·rw[bMB];exact⟨h.nodup,hcn,fun x hx y hy=>by rintro rfl;exact hcS x hy ((h.mem x).1 hx)⟩
 ·simp[h.mem,hT]
 ·rcases bMD.1 hi with hi|hi
  ·exact h.lt i hi
  ·obtain⟨c1,c2,rfl⟩:=List.append_of_mem hi;exact(sp c1 i c2 rfl).2.2.2.2
 ·intro I i d2 he x hx;rcases List.append_eq_append_iff.1 he with⟨t,h1,h2⟩|⟨t,h1,h2⟩
  ·rw[h1]at hx;obtain⟨g,cr,_⟩:=sp t i d2 h2;rcases bMD.1 hx with hx|hx
   ·have:=bMK.1 cr x ((h.mem x).1 hx);simp only[bMU,bLQ]at this;rcases this with h'|h'
    ·exact bLY (bMF h')
    ·exact bLY (bLY ⟨h'.1.1,h'.1.2,h'.2⟩)
   ·have:=bMK.1 g x hx;simp only[bMU,bLQ]at this;rcases this with(h'|h')|h'
    ·exact bMF (by simpa using h')
    ·exact bLY (bMF h')
    ·exact bLY (bLY ⟨h'.1.1,h'.1.2,h'.2⟩)
  ·cases t with
   |nil=>
    rw[bMM]at h1;rw[bMW]at h2;rw[←h1]at hx;obtain⟨g,cr,_⟩:=sp [] i d2 h2.symm;have:=bMK.1 cr x ((h.mem x).1 hx);simp only[bMU,bLQ]at this;rcases this with h'|h'
    ·exact bLY (bMF h')
    ·exact bLY (bLY ⟨h'.1.1,h'.1.2,h'.2⟩)
   |cons z t=>
    simp only[bOF,bOH]at h2;rw[←h2.1]at h1;rcases h.good I i t h1 x hx with h'|h'
    ·exact bMF (hE x h')
    ·exact bLY h'
 ·intro I i d2 he o ho e hm hb;rcases List.append_eq_append_iff.1 he with⟨t,h1,h2⟩|⟨t,h1,h2⟩
  ·obtain⟨_,_,tp,_⟩:=sp t i d2 h2;unfold I8 at tp;rw[ho]at tp;simp only[bNL,bPK,bMK,bMU,bOQ,bQL,LT]at tp;rcases tp e Xau with h'|h'
   ·rw[hb]at h';cases h'
   ·rw[h1];rcases bMD.1 h' with h'|h'
    ·exact bLY (bMA _ ((h.mem _).2 h'))
    ·exact bLY (GT _ h')
  ·cases t with
   |nil=>
    rw[bMM]at h1;rw[bMW]at h2;obtain⟨_,_,tp,_⟩:=sp [] i d2 h2.symm;unfold I8 at tp;rw[ho]at tp;simp only[bNL,bPK,bMK,bMU,bOQ,bQL,LT]at tp;rcases tp e Xau with h'|h'
    ·rw[hb]at h';cases h'
    ·rw[←h1];rcases bMD.1 h' with h'|h'
     ·exact bLY ((h.mem _).2 h')
     ·cases h'
   |cons z t=>
    simp only[bOF,bOH]at h2;rw[←h2.1]at h1;exact h.topo I i t h1 o ho e hm hb
theorem wN{n:Nat}{fls:List Bool}{S rest T pre E:List Nat}{cont:List Nat→List Nat→Array Bool→Prop}(h:JP all n fls S pre E)(hcont:∀pre' E',JP all n fls (S++T) pre' E'→cont pre' E' (Array.replicate all.size false)):
  ∀{pl:iP} {lp Ep:List Nat},xD all n fls S rest T pl lp Ep=true→kA all n cont rest pl (pre++lp) (Ep++E) (Array.replicate all.size false)
 |.fin c,lp,Ep,hc=>by
  simp only[xD,bLQ,bMK]at hc;obtain⟨⟨⟨h1,h2⟩,h3⟩,h4⟩:=hc;have h1':vI all n fls S (Ep++E) [] (lp++c)=true:=by
   have key:∀(c before:List Nat),vI all n fls S Ep before c=true→vI all n fls S (Ep++E) before c=true:=by
    intro c;induction c with
    |nil=>intro _ _;rfl
    |cons i c ih=>
     intro before hh;simp only[vI,bLQ]at hh ⊢
     refine⟨⟨⟨⟨⟨?_,hh.1.1.1.1.2⟩,hh.1.1.1.2⟩,hh.1.1.2⟩,hh.1.2⟩,ih _ hh.2⟩;unfold QD at hh ⊢
     rw[bMK];intro x hx;have:=bMK.1 hh.1.1.1.1.1 x hx;simp only[bMU]at this ⊢
     rcases this with(h'|h')|h'
     ·exact bMF (bMF (by simp only[bQL,LT]at h' ⊢;exact bMA _ h'))
     ·exact bMF (bLY h')
     ·exact bLY h'
   exact key _ _ h1
  have:=h.more (fun e he=>GT Ep he) h1' (T:=T) (fun i=>⟨fun hi=>by simpa using h3 i hi,fun hi=>by simpa using h4 i hi⟩) (bNO h2);show cont (pre++lp++c) (Ep++E) _;rw[bMC];exact hcont _ _ this
 |.fork d p A q B,lp,Ep,hc=>by
  simp only[xD,bLQ]at hc;obtain⟨⟨⟨⟨hA,hB⟩,hq⟩,hl⟩,he⟩:=hc;have rA:=wN h hcont hA;have rB:=wN h hcont hB;simp only[←bMC]at rA rB;refine⟨rA,rB,?_,bNO hl,fun i hi=>?_⟩
  ·obtain⟨x,hx,hb⟩:=bQA.1 hq;rw[←bNO hb];exact hx
  ·simpa using bMK.1 he i hi
 |.forkN d p ps A,lp,Ep,hc=>by
  simp only[xD,bLQ]at hc;obtain⟨hA,he⟩:=hc;refine⟨fun i hi=>?_,fun i hi=>?_⟩
  ·have h1:=bMK.1 hA i hi;simp only[bLQ]at h1;have rA:=wN h hcont h1.1.1;simp only[←bMC]at rA;refine⟨rA,bNO h1.1.2,?_⟩;have h2:=h1.2;rw[bMU]at h2;rcases h2 with h2|h2
   ·exact bMF (bNO h2)
   ·exact bLY Xal
  ·have:=bMK.1 he i hi;rw[bMU]at this;rcases this with h1|h1
   ·exact bMF Xae
   ·obtain⟨q,hq,hr⟩:=bQA.1 h1;exact bLY ⟨q,hq,hr⟩
theorem BN{n:Nat}{fls:List Bool}:∀{segs:List iP} {S pre E:List Nat},JP all n fls S pre E→kS all n fls S segs=true→aTE all n (fun i=>fls.getD i false) segs pre E (Array.replicate all.size false)
 | [],S,pre,E,h,hc=>by
  simp only[kS,bLQ,bMK,bNJ,bQL,LT]at hc;refine⟨⟨Yf,?_,h.nodup,fun i hi=>?_,h.lt,h.topo⟩,h.good⟩
  ·intro i o ho hl;simp[Array.getElem?_replicate]at hl;split at hl<;>simp at hl
  ·simp only[bNS,Array.getElem?_replicate,hi,bOC,bPK,iff_true];exact(h.mem i).2 (hc.2 i hi)
 |pl::segs,S,pre,E,h,hc=>by
  simp only[kS,bLQ]at hc;have:=wN (cont:=aTE all n (fun i=>fls.getD i false) segs) (rest:=oG segs) (T:=pl.list) h (fun pre' E' h'=>BN h' hc.2) hc.1;rw[bMM,bMW]at this;exact this
theorem KC{n:Nat}{fls:List Bool}:∀{segs:List iP} {S:List Nat},kS all n fls S segs=true→qG all=true∧(S++oG segs).length=all.size
 | [],S,hc=>by
  simp only[kS,bLQ]at hc;rw[oG,bMM];exact⟨hc.1.1,bNO hc.1.2⟩
 |pl::segs,S,hc=>by
  simp only[kS,bLQ]at hc;obtain⟨h1,h2⟩:=KC hc.2;rw[bMC]at h2;exact⟨h1,h2⟩
theorem vS{K:Act→Δ→Prop}{fl:Nat→Bool}:∀(c:List Nat) (a:Act) (w:Δ),(∀i∈c,i<all.size)→vG r bad P all K Q (iZ all (c.map fun i=>(fl i,i))) a w→p6 r bad P all fl K Q c a w:=by
 intro c;induction c with
 |nil=>intro a w _ h;exact h
 |cons i c ih=>
  intro a w hlt h;have hi:=hlt i bLP;have ho:all[i]?= some all[i]:=by simp[hi]
  have hd:all.getD i default=all[i]:=by simp[hi]
  have hrec:∀a w,vG r bad P all K Q (iZ all (c.map fun i=>(fl i,i))) a w→p6 r bad P all fl K Q c a w:=fun a w hh=>ih a w (fun j hj=>hlt j (LE _ hj)) hh
  simp only[iZ,bMT,vG,hd]at h;simp only[p6,ho];split at h
  ·rename_i hq;obtain⟨v,hy,h⟩:=h;rw[bMG hq];exact⟨v,hy,hrec _ _ h⟩
  ·rename_i hq;rw[bLX hq];exact h.mono hrec
def G0(r:Option Nat){γb:Type}[Membership Nat γb](bad:γb)(P:Program)(all:Array Oper)(fls:List Bool)(Q:Exit→Act→Δ→Prop)(kont:Act→Δ→Prop):iP→Act→Δ→Prop
 |.fin c=>vG r bad P all kont Q (iZ all (c.map fun i=>(fls.getD i false,i)))
 |.fork d p A q B=>vG r bad P all (fun a w=>vG r bad P all (G0 r bad P all fls Q kont A) Q (iZ all [(fls.getD p false,p)]) a w∧vG r bad P all (G0 r bad P all fls Q kont B) Q (iZ all [(fls.getD q false,q)]) a w) Q (iZ all (d.map fun i=>(fls.getD i false,i)))
 |.forkN d p ps A=>vG r bad P all (fun a w=>∀i∈p::ps,vG r bad P all (G0 r bad P all fls Q kont (A i)) Q (iZ all [(fls.getD i false,i)]) a w) Q (iZ all (d.map fun i=>(fls.getD i false,i)))
def PS(r:Option Nat){γb:Type}[Membership Nat γb](bad:γb)(P:Program)(all:Array Oper)(fls:List Bool)(Q:Exit→Act→Δ→Prop)(K:Act→Δ→Prop):List iP→Act→Δ→Prop
 | []=>K
 |pl::segs=>G0 r bad P all fls Q (PS r bad P all fls Q K segs) pl
def nY(N:Nat):iP→Bool
 |.fin c=>c.all fun i=>Nat.blt i N
 |.fork d p A q B=>d.all (fun i=>Nat.blt i N)&&Nat.blt p N&&Nat.blt q N&&nY N A&&nY N B
 |.forkN d p ps A=>d.all (fun i=>Nat.blt i N)&&(p::ps).all fun i=>Nat.blt i N&&nY N (A i)
theorem wT{fls:List Bool}{kont kont':Act→Δ→Prop}(hk:∀a w,kont a w→kont' a w):∀{pl:iP} {a:Act} {w:Δ},nY all.size pl=true→G0 r bad P all fls Q kont pl a w→aMO r bad P all (fun i=>fls.getD i false) Q kont' pl a w
 |.fin c,a,w,hl,h=>uU hk c (vS c a w (fun i hi=>by simpa [Nat.blt_eq]using bMK.1 hl i hi) h)
 |.fork d p A q B,a,w,hl,h=>by
  simp only[nY,bLQ,Nat.blt_eq]at hl;obtain⟨⟨⟨⟨h1,h2⟩,h3⟩,h4⟩,h5⟩:=hl;refine uU ?_ d (vS d a w (fun i hi=>by simpa [Nat.blt_eq]using bMK.1 h1 i hi) h);rintro a w ⟨g1,g2⟩;have one:∀(z:Nat) (K:Act→Δ→Prop),z<all.size→vG r bad P all K Q (iZ all [(fls.getD z false,z)]) a w→mJ r bad P all (fun i=>fls.getD i false) Q z K a w:=fun z K hz h=>by
   have:=vS (all:=all) (fl:=fun i=>fls.getD i false) [z] a w (by simpa using hz) h;rw[qZ]at this;exact this
  exact⟨(one p _ h2 g1).mono fun a w h=>wT hk h4 h,(one q _ h3 g2).mono fun a w h=>wT hk h5 h⟩
 |.forkN d p ps A,a,w,hl,h=>by
  simp only[nY,bLQ]at hl;obtain⟨h1,h2⟩:=hl;refine uU ?_ d (vS d a w (fun i hi=>by simpa [Nat.blt_eq]using bMK.1 h1 i hi) h);intro a w g i hi;have h3:=bMK.1 h2 i hi;simp only[bLQ,Nat.blt_eq]at h3;have one:∀(z:Nat) (K:Act→Δ→Prop),z<all.size→vG r bad P all K Q (iZ all [(fls.getD z false,z)]) a w→mJ r bad P all (fun i=>fls.getD i false) Q z K a w:=fun z K hz h=>by
   have:=vS (all:=all) (fl:=fun i=>fls.getD i false) [z] a w (by simpa using hz) h;rw[qZ]at this;exact this
  exact(one i _ h3.1 (g i hi)).mono fun a w h=>wT hk h3.2 h
theorem BE{fls:List Bool}:∀{segs:List iP} {a:Act} {w:Δ},(segs.all fun pl=>nY all.size pl)=true→PS r bad P all fls Q (fun a w=>Q .normal a w) segs a w→bLE r bad P all (fun i=>fls.getD i false) Q segs a w
 | [],a,w,_,h=>h
 |pl::segs,a,w,hl,h=>by
  rw[bPS,bLQ]at hl;exact wT (fun a w h=>BE hl.2 h) hl.1 h
theorem aQI{id n:Nat}{fls:List Bool}{segs:List iP}{a:Act}{w:Δ}(hm:P.follows .mixedOrders=true)(hc:(kS all n fls [] segs&&segs.all fun pl=>nY all.size pl)=true)(hQ:PI Q)
  (h:PS r bad P all fls Q (fun a w=>Q .normal a w) segs a {w with drawn:=w.drawn+1}):(Code.region id all true).wpIn (FW r) 0 P Q a w:=by
 rw[bLQ]at hc;obtain⟨hnd,hlen⟩:=KC hc.1;have hr:=BN (S:=[]) (pre:=[]) (E:=[]) ⟨bNW,fun i=>Iff.rfl,(fun i hi=>by cases hi),(fun c1 i c2 he=>by simp at he),(fun c1 i c2 he=>by simp at he),rfl⟩ hc.1;refine wpIn_region_any hm ?_;have:=AR (P:=P) (r:=r) (bad:=bad) (n:=n) (fl:=fun i=>fls.getD i false) hnd hQ segs [] [] (Array.replicate all.size false) a {w with drawn:=w.drawn+1} (fun e he=>by cases he) hr (BE hc.2 h);rw[hlen]at this;exact this
abbrev bX:=List (Nat×Γ)
abbrev aD:=List (Nat×Obj)
abbrev aC:=Nat→List Γ
def look:bX→Nat→Option Γ
 | [],_=>none
 |(k,v)::r,s=>match Nat.beq k s with|true=>some v|false=>look r s
def ev(σ:bX):Operand→Option Γ
 |.tmp t=>look σ t
 |.const v=>some v
 |.global g=>some (qP g)
 |.func f=>some (.func (.func f) #[] #[])
def Le(D D':aC):Prop:=(∀b,D b <+: D' b)∧D' 0=D 0
theorem Le.refl(D:aC):Le D D:=⟨fun _=>List.prefix_refl _,rfl⟩
theorem Le.trans{D D' D'':aC}(h:Le D D')(h':Le D' D''):Le D D'':=⟨fun b=>(h.1 b).trans (h'.1 b),h'.2.trans h.2⟩
theorem Le.get{D D':aC}(h:Le D D'){b i:Nat}{v:Γ}(hv:(D b)[i]?= some v):(D' b)[i]?= some v:=by
 obtain⟨t,ht⟩:=h.1 b;rw[←ht,bNX]
 ·exact hv
 ·exact(bLS.1 hv).1
def fR(D:aC)(w:Δ):Prop:=(∀b,D b≠[]→∃cs e fz,w.heap[b]?= some (.cells cs e fz)∧D b <+: cs.toList)∧D 0≠[]∧∃e fz,w.heap[0]?= some (.cells (D 0).toArray e fz)
theorem fR.of{D D':aC}{w w':Δ}(h:fR D w)(h1:∀b,D' b≠[]→∃cs e fz,w'.heap[b]?= some (.cells cs e fz)∧D' b <+: cs.toList)(hD:D' 0=D 0)(hw:w'.heap[0]?= w.heap[0]?):fR D' w':=by
 refine⟨h1,?_⟩;rw[hD,hw];exact h.2
theorem fR.ne0{D:aC}{w:Δ}(h:fR D w){b:Nat}(hb:D b=[]):b≠0:=fun e=>h.2.1 (e▸hb)
theorem fR.pos{D:aC}{w:Δ}(h:fR D w):0<w.heap.size:=by
 obtain⟨-, -,e,fz,h⟩:=h;exact(bOW.1 h).1
def dE:Obj→Prop
 |.cells _ _ z=>z=(0,0)
 |_=>True
def QT(w:Δ):Os×Array (Nat×Λ):=(w.os,w.output)
structure H0 where
 arr:Array Obj
 env:Option (Os×Array (Nat×Λ))
abbrev H0.size(h:H0):Nat:=h.arr.size
abbrev hd(w:Δ):H0:=⟨w.heap,some (QT w)⟩
structure iX(h0:H0)(lo:Nat)(D0:aC)(mods:List Nat)(μ:aD)(D:aC)(w:Δ):Prop where
 hlo:h0.size≤lo
 size:lo≤w.heap.size
 old:∀b,b<h0.size→b∉mods→w.heap[b]?= h0.arr[b]?
 dold:∀b,b<h0.size→D b=D0 b
 agr:fR D w
 box:∀p∈μ,w.heap[p.1]?= some p.2∧D p.1=[]∧(lo≤p.1∨p.1∈mods)
 nd:(μ.map (·.1)).Nodup
 fz:∀p∈μ,dE p.2
 env:∀e,h0.env=some e→QT w=e
def I4(lo:Nat)(D:aC)(w:Δ):Prop:=fR D w∧lo≤w.heap.size
theorem iX.dom{h0:H0}{lo:Nat}{D0:aC}{mods:List Nat}{μ:aD}{D:aC}{w:Δ}(h:iX h0 lo D0 mods μ D w):I4 lo D w:=⟨h.agr,h.size⟩
def aSN(β:List Nat)(D:aC)(w:Δ)(D':aC)(w':Δ):Prop:=w.heap.size≤w'.heap.size∧(∀b,b<w.heap.size→b∉β→w'.heap[b]?= w.heap[b]?∧D' b=D b)∧QT w'=QT w
theorem aSN.refl(β:List Nat)(D:aC)(w:Δ):aSN β D w D w:=⟨bMH _,fun _ _ _=>⟨rfl,rfl⟩,rfl⟩
structure V6(lo:Nat)(J:List Nat→aC→Δ→Prop):Prop where
 low:∀β D w D' w',J β D w→aSN β D w D' w'→I4 lo D' w'→J β D' w'
 own:∀β β' D w,J β D w→(∀b∈β',b∈β∨w.heap.size≤b)→J β' D w
structure Cx where
 r:Option Nat
 N:Nat
 ds:List Deferred
 h0:H0
 lo:Nat
 D0:aC
 mods:List Nat
 ex:Option (List Nat→aC→Δ→Prop)
def S2(X:Cx)(μ:aD)(D:aC)(w:Δ):Prop:=
 match X.ex with
 |none=>True
 |some J=>V6 X.lo J∧J (μ.map (·.1)) D w
theorem S2.step{X:Cx}{μ μ':aD}{D D':aC}{w w':Δ}(h:S2 X μ D w)(hk:X.ex≠none→∀p∈μ',p.1∈μ.map (·.1)∨w.heap.size≤p.1)(hl:X.ex≠none→aSN (μ.map (·.1)) D w D' w')(hd:I4 X.lo D' w'):S2 X μ' D' w':=by
 unfold S2 at *;cases hx:X.ex with
 |none=>trivial
 |some J=>
  rw[hx]at h;have hne:X.ex≠none:=by simp[hx]
  refine⟨h.1,?_⟩;have h1:=h.1.own _ (μ'.map (·.1)++μ.map (·.1)) D w h.2 (fun b hb=>by
   rcases bMD.1 hb with hb|hb
   ·obtain⟨p,hp,rfl⟩:=GE.1 hb;exact hk hne p hp
   ·exact bMF hb)
  have h2:=h.1.low _ D w D' w' h1 ⟨(hl hne).1,fun b hb hn=>(hl hne).2.1 b hb fun hm=>hn (GT _ hm),(hl hne).2.2⟩ hd;exact h.1.own _ _ D' w' h2 fun b hb=>bMF (bMA _ hb)
def Hl(X:Cx)(σ:bX)(μ:aD)(Ds:List aC)(a:Act)(w:Δ):Prop:=
 a.tmps.size=X.N∧(∀s v,look σ s=some v→a.tmps[s]?= some v)∧a.defers=X.ds∧∃D,iX X.h0 X.lo X.D0 X.mods μ D w∧(∀D₁∈Ds,Le D₁ D)∧S2 X μ D w
def WL(P:Program)(X:Cx){γb:Type}[Membership Nat γb](bad:γb)(all:Array Oper)(K:Act→Δ→Prop)(Q:Exit→Act→Δ→Prop)(os:List (Bool×Nat))(σ:bX)(μ:aD)(Ds:List aC):Prop:=
 ∀a w,Hl X σ μ Ds a w→vG X.r bad P all K Q (iZ all os) a w
def WC(P:Program)(X:Cx)(Q:Exit→Act→Δ→Prop)(c:Code)(σ:bX)(μ:aD)(Ds:List aC):Prop:=
 ∀a w,Hl X σ μ Ds a w→c.wpIn (FW X.r) 0 P Q a w
variable{P:Program}{X:Cx}{γb:Type}[Membership Nat γb]{bad:γb}{all:Array Oper}{K:Act→Δ→Prop}{Q:Exit→Act→Δ→Prop}
variable{σ:bX}{μ:aD}{Ds:List aC}{os:List (Bool×Nat)}{fl:Bool}{ix:Nat}
theorem Hl.eval{a:Act}{w:Δ}(h:Hl X σ μ Ds a w){x:Operand}{v:Γ}(hx:ev σ x=some v):a.eval x=v:=by
 cases x with
 |tmp t=>
  have:=h.2.1 t v hx;show a.tmps.getD t undef=v;rw[bNS,this];rfl
 |const v=>exact bMQ hx
 |global g=>exact bMQ hx
 |func f=>exact bMQ hx
theorem Hl.put{a:Act}{w:Δ}(h:Hl X σ μ Ds a w){d:Nat}(hd:Nat.blt d X.N=true)(v:Γ):Hl X ((d,v)::σ) μ Ds (a.put (some d) v) w:=by
 have hd':d<X.N:=by simpa [Nat.blt_eq]using hd
 refine⟨by simpa [Act.put]using h.1,fun s u hs=>?_,h.2.2.1,h.2.2.2⟩;simp only[look]at hs;simp only[Act.put];cases hb:Nat.beq d s with
 |true=>
  rw[hb]at hs;obtain rfl:=bNO hb;cases hs;rw[Array.getElem?_setIfInBounds_self_of_lt (by rw[h.1];exact hd')]
 |false=>
  rw[hb]at hs;rw[bOR (fun e=>by subst e;simp at hb)]
  exact h.2.1 s u hs
def FA:bX→bX→Prop
 |_,[]=>True
 |σ,(k,v)::r=>look σ k=some v∧FA σ r
theorem FA.look{σ σ':bX}(h:FA σ σ'){s:Nat}{v:Γ}(hv:look σ' s=some v):look σ s=some v:=by
 induction σ' with
 |nil=>cases hv
 |cons p r ih=>
  obtain⟨k,u⟩:=p;simp only[Fs.look]at hv;cases hb:Nat.beq k s with
  |true=>rw[hb]at hv;cases hv;obtain rfl:=bNO hb;exact h.1
  |false=>rw[hb]at hv;exact ih h.2 hv
theorem iX.sub{h0:H0}{lo:Nat}{D0:aC}{mods:List Nat}{μ μ':aD}{D:aC}{w:Δ}(h:iX h0 lo D0 mods μ D w)(hs:∀p∈μ',p∈μ)(hn:(μ'.map (·.1)).Nodup):iX h0 lo D0 mods μ' D w:=
 ⟨h.hlo,h.size,h.old,h.dold,h.agr,fun p hp=>h.box p (hs p hp),hn,fun p hp=>h.fz p (hs p hp),h.env⟩
theorem Hl.weak{σ':bX}{μ':aD}{Ds':List aC}{a:Act}{w:Δ}(h:Hl X σ μ Ds a w)(hσ:FA σ σ')(hμ:μ'.Sublist μ)(hD:∀D∈Ds',∃D'∈Ds,Le D D'):Hl X σ' μ' Ds' a w:=by
 obtain⟨h1,h2,h3,D,h4,h5,I⟩:=h;refine⟨h1,fun s v hv=>h2 s v (hσ.look hv),h3,D,h4.sub (fun p hp=>hμ.mem hp) ((hμ.map (·.1)).nodup h4.nd),fun D₁ hD₁=>?_,I.step (fun _ p hp=>bMF (GE.2 ⟨p,hμ.mem hp,rfl⟩)) (fun _=>aSN.refl _ _ _) h4.dom⟩;obtain⟨D₂,hm,hle⟩:=hD D₁ hD₁;exact hle.trans (h5 D₂ hm)
theorem FA.app{σ σ1 σ2:bX}(h1:FA σ σ1)(h2:FA σ σ2):FA σ (σ1++σ2):=by
 induction σ1 with
 |nil=>exact h2
 |cons p r ih=>exact⟨h1.1,ih h1.2⟩
theorem BA{σ1 σ2:bX}{s:Nat}{v:Γ}(h:look (σ1++σ2) s=some v):look σ1 s=some v∨look σ2 s=some v:=by
 induction σ1 with
 |nil=>exact bLY h
 |cons p r ih=>
  obtain⟨k,u⟩:=p;simp only[bOF,look]at h ⊢
  cases hb:Nat.beq k s with
  |true=>rw[hb]at h;exact bMF h
  |false=>rw[hb]at h;exact ih h

def NP(Q:Exit→Act→Δ→Prop):Prop:=∀c a w,¬Q (.panic c) a w
theorem NP.pi(h:NP Q):PI Q:=fun c a _ w _ hq=>absurd hq (h c a w)
theorem aFG{x y:Code}(h:WC P X (Exit.then (y.wpIn (FW X.r) 0 P Q) Q) x σ μ Ds):WC P X Q (.seq x y) σ μ Ds:=
 fun a w hh=>wpIn_seq (h a w hh)
theorem _root_.Go.Fs.Za2{x:Code}{y:Code}(h:WC P X (Exit.then (y.wpIn (FW X.r) 0 P Q) Q) x σ μ Ds):WC P X Q (.seq x y) σ μ Ds:=aFG h
theorem bH(h:∀a w,Hl X σ μ Ds a w→Q .normal a w):WC P X Q .skip σ μ Ds:=fun a w hh=>wpIn_skip (h a w hh)
theorem bIX{id:Nat}(h:∀a w,Hl X σ μ Ds a w→Q (.exit id) a w):WC P X Q (.exit id) σ μ Ds:=fun a w hh=>wpIn_exit (h a w hh)
theorem _root_.Go.Fs.Za5{id:Nat}(h:∀a w,Hl X σ μ Ds a w→Q (.exit id) a w):WC P X Q (.exit id) σ μ Ds:=bIX h
theorem JS(h:∀a w,Hl X σ μ Ds a w→Q .ret a w):WC P X Q .ret σ μ Ds:=fun a w hh=>wpIn_ret (h a w hh)
theorem ZY{y:Code}(h:WC P X Q y σ μ Ds):∀a w,Hl X σ μ Ds a w→(Exit.then (y.wpIn (FW X.r) 0 P Q) Q) .normal a w:=h
theorem _root_.Go.Fs.Zay{y:Code}(h:WC P X Q y σ μ Ds):∀a w,Hl X σ μ Ds a w→(Exit.then (y.wpIn (FW X.r) 0 P Q) Q) .normal a w:=ZY h
theorem WX{c:Operand}{x y:Code}{b:Bool}(hc:ev σ c=some (.bool b))(ht:b=true→WC P X Q x σ μ Ds)(hf:b=false→WC P X Q y σ μ Ds):WC P X Q (.cond c x y) σ μ Ds:=
 fun a w hh=>wpIn_cond_split (hh.eval hc) (fun e=>ht e a w hh) fun e=>hf e a w hh
theorem _root_.Go.Fs.Zag{c:Operand}{x:Code}{y:Code}{b:Bool}(hc:ev σ c=some (.bool b))(ht:b=true→WC P X Q x σ μ Ds)(hf:b=false→WC P X Q y σ μ Ds):WC P X Q (.cond c x y) σ μ Ds:=WX hc ht hf
theorem aWO{id:Nat}{c:Code}(h:WC P X (Exit.inBlock id Q) c σ μ Ds):WC P X Q (.block id c) σ μ Ds:=fun a w hh=>wpIn_block (h a w hh)
theorem _root_.Go.Fs.Za0{id:Nat}{c:Code}(h:WC P X (Exit.inBlock id Q) c σ μ Ds):WC P X Q (.block id c) σ μ Ds:=aWO h
theorem OM{id:Nat}{a:Act}{w:Δ}(h:Q .normal a w):Exit.inBlock id Q (.exit id) a w:=by simp[Exit.inBlock,h]
theorem HR{id id':Nat}(hne:Nat.beq id' id=false){a:Act}{w:Δ}(h:Q (.exit id') a w):Exit.inBlock id Q (.exit id') a w:=by
 have:id'≠id:=fun e=>by subst e;simp at hne
 simp[Exit.inBlock,this,h]
theorem aRF(is:List (Bool×Nat)){id:Nat}{ops:Array Oper}(hi:is=(List.range ops.size).map fun i=>(false,i))(h:WL P X [] ops (fun a w=>Q .normal a w) Q is σ μ Ds):WC P X Q (.region id ops false) σ μ Ds:=
 fun a w hh=>aUG (by rw[aVQ,←hi];exact h a w hh)
theorem aP{id:Nat}{ops:Array Oper}(h:WL P X [] ops (fun a w=>Q .normal a w) Q ((List.range ops.size).map fun i=>(false,i)) σ μ Ds):WC P X Q (.region id ops false) σ μ Ds:=aRF _ rfl h
theorem bQ{p:Prop}(h:p:=by repeat (first|exact trivial|refine⟨rfl,?_⟩)):p:=h
theorem C.fo{Q:Program}(h:Q.follows .mixedOrders=true:=by exact bB):Q.follows .mixedOrders=true:=h
theorem cR{α:Type}(l:List α)(i:Nat)(h:i<l.length:=by omega):∃x,l[i]?= some x:=⟨_,bLR h⟩
theorem Hl.drew{a:Act}{w:Δ}(h:Hl X σ μ Ds a w):Hl X σ μ Ds a {w with drawn:=w.drawn+1}:=by
 obtain⟨h1,h2,h3,D,h4,h5,I⟩:=h;exact⟨h1,h2,h3,D,⟨h4.hlo,h4.size,h4.old,h4.dold,h4.agr,h4.box,h4.nd,h4.fz,h4.env⟩,h5,I.step (fun _ p hp=>bMF (GE.2 ⟨p,hp,rfl⟩)) (fun _=>⟨bMH _,fun _ _ _=>⟨rfl,rfl⟩,rfl⟩) h4.dom⟩
def WS(P:Program)(X:Cx){γb:Type}[Membership Nat γb](bad:γb)(all:Array Oper)(fls:List Bool)(K:Act→Δ→Prop)(Q:Exit→Act→Δ→Prop)(segs:List iP)(σ:bX)(μ:aD)(Ds:List aC):Prop:=
 ∀a w,Hl X σ μ Ds a w→PS X.r bad P all fls Q K segs a w
def WP(P:Program)(X:Cx){γb:Type}[Membership Nat γb](bad:γb)(all:Array Oper)(fls:List Bool)(kont:Act→Δ→Prop)(Q:Exit→Act→Δ→Prop)(pl:iP)(σ:bX)(μ:aD)(Ds:List aC):Prop:=
 ∀a w,Hl X σ μ Ds a w→G0 X.r bad P all fls Q kont pl a w
theorem EV{γb:Type}[Membership Nat γb](bad:γb)(n:Nat)(fls:List Bool)(segs:List iP){id:Nat}{ops:Array Oper}(hm:P.follows .mixedOrders=true)(hQ:PI Q)(hc:(kS ops n fls [] segs&&segs.all fun pl=>nY ops.size pl)=true)
  (h:WS P X bad ops fls (fun a w=>Q .normal a w) Q segs σ μ Ds):WC P X Q (.region id ops true) σ μ Ds:=by
 intro a w hh;exact aQI (bad:=bad) hm hc hQ (h a _ hh.drew)
theorem oT{γb:Type}[Membership Nat γb](bad:γb)(n:Nat)(fls:List Bool)(segs:List iP){id:Nat}{ops:Array Oper}(hm:P.follows .mixedOrders=true)(hQ:NP Q)(hc:(kS ops n fls [] segs&&segs.all fun pl=>nY ops.size pl)=true)
  (h:WS P X bad ops fls (fun a w=>Q .normal a w) Q segs σ μ Ds):WC P X Q (.region id ops true) σ μ Ds:=EV bad n fls segs hm hQ.pi hc h
section segments
variable{fls:List Bool}{kont:Act→Δ→Prop}
theorem pQ(h:∀a w,Hl X σ μ Ds a w→K a w):WS P X bad all fls K Q [] σ μ Ds:=h
theorem nT{c:List Nat}{segs:List iP}(is:List (Bool×Nat))(hi:is=c.map fun i=>(fls.getD i false,i))(h:WL P X bad all (fun a w=>PS X.r bad P all fls Q K segs a w) Q is σ μ Ds):WS P X bad all fls K Q (.fin c::segs) σ μ Ds:=by
 subst hi;exact h
theorem sX{pl:iP}{segs:List iP}(h:WP P X bad all fls (fun a w=>PS X.r bad P all fls Q K segs a w) Q pl σ μ Ds):WS P X bad all fls K Q (pl::segs) σ μ Ds:=h
theorem aT{c:List Nat}(is:List (Bool×Nat))(hi:is=c.map fun i=>(fls.getD i false,i))(h:WL P X bad all kont Q is σ μ Ds):WP P X bad all fls kont Q (.fin c) σ μ Ds:=by
 subst hi;exact h
theorem bP{d:List Nat}{p q:Nat}{A B:iP}(is:List (Bool×Nat))(hi:is=d.map fun i=>(fls.getD i false,i))
  (h:WL P X bad all (fun a w=>vG X.r bad P all (G0 X.r bad P all fls Q kont A) Q (iZ all [(fls.getD p false,p)]) a w∧vG X.r bad P all (G0 X.r bad P all fls Q kont B) Q (iZ all [(fls.getD q false,q)]) a w) Q is σ μ Ds):WP P X bad all fls kont Q (.fork d p A q B) σ μ Ds:=by
 subst hi;exact h
theorem dV{p q:Nat}{A B:iP}(bp bq:Bool)(hp:fls.getD p false=bp)(hq:fls.getD q false=bq)(h1:WL P X bad all (fun a w=>G0 X.r bad P all fls Q kont A a w) Q [(bp,p)] σ μ Ds)(h2:WL P X bad all (fun a w=>G0 X.r bad P all fls Q kont B a w) Q [(bq,q)] σ μ Ds):
  ∀a w,Hl X σ μ Ds a w→vG X.r bad P all (G0 X.r bad P all fls Q kont A) Q (iZ all [(fls.getD p false,p)]) a w∧vG X.r bad P all (G0 X.r bad P all fls Q kont B) Q (iZ all [(fls.getD q false,q)]) a w:=fun a w hh=>by
 subst hp hq;exact⟨h1 a w hh,h2 a w hh⟩
theorem sR{d:List Nat}{p:Nat}{ps:List Nat}{A:Nat→iP}(is:List (Bool×Nat))(hi:is=d.map fun i=>(fls.getD i false,i))
  (h:WL P X bad all (fun a w=>∀i∈p::ps,vG X.r bad P all (G0 X.r bad P all fls Q kont (A i)) Q (iZ all [(fls.getD i false,i)]) a w) Q is σ μ Ds):WP P X bad all fls kont Q (.forkN d p ps A) σ μ Ds:=by
 subst hi;exact h
theorem K5{A:Nat→iP}:∀a w,Hl X σ μ Ds a w→∀i∈([]:List Nat),vG X.r bad P all (G0 X.r bad P all fls Q kont (A i)) Q (iZ all [(fls.getD i false,i)]) a w:=fun _ _ _ _ h=>by cases h
theorem gT{A:Nat→iP}{p:Nat}{ps:List Nat}(b:Bool){B:iP}(hb:fls.getD p false=b)(hB:A p=B)(h1:WL P X bad all (fun a w=>G0 X.r bad P all fls Q kont B a w) Q [(b,p)] σ μ Ds)
  (h2:∀a w,Hl X σ μ Ds a w→∀i∈ps,vG X.r bad P all (G0 X.r bad P all fls Q kont (A i)) Q (iZ all [(fls.getD i false,i)]) a w):
  ∀a w,Hl X σ μ Ds a w→∀i∈p::ps,vG X.r bad P all (G0 X.r bad P all fls Q kont (A i)) Q (iZ all [(fls.getD i false,i)]) a w:=fun a w hh i hi=>by
 rcases bLO.1 hi with rfl|hi
 ·rw[hb,hB];exact h1 a w hh
 ·exact h2 a w hh i hi
end segments
def SG(c:List Nat)(bits:List Bool):List Bool:=(List.range c.length).map fun i=>(bits.zip c).any fun p=>p.1&&Nat.beq p.2 i
theorem aDQ{γb:Type}[Membership Nat γb](bad:γb)(n:Nat)(c:List Nat)(bits:List Bool)(is:List (Bool×Nat)){id:Nat}{ops:Array Oper}(hm:P.follows .mixedOrders=true)(hQ:PI Q)(hc:((kS ops n (SG c bits) [] [.fin c]&&nY ops.size (.fin c))&&(bits.zip c==c.map fun i=>((SG c bits).getD i false,i)))=true)(hi:is=bits.zip c)
  (h:WL P X bad ops (fun a w=>Q .normal a w) Q is σ μ Ds):WC P X Q (.region id ops true) σ μ Ds:=by
 rw[bLQ]at hc;exact EV bad n (SG c bits) [.fin c] hm hQ (by rw[bPS,List.all_nil,Bool.and_true];exact hc.1) (nT is (hi.trans (eq_of_beq hc.2)) h)
theorem iK{γb:Type}[Membership Nat γb](bad:γb)(n:Nat)(c:List Nat)(bits:List Bool)(is:List (Bool×Nat)){id:Nat}{ops:Array Oper}(hm:P.follows .mixedOrders=true)(hQ:NP Q)(hc:((kS ops n (SG c bits) [] [.fin c]&&nY ops.size (.fin c))&&(bits.zip c==c.map fun i=>((SG c bits).getD i false,i)))=true)(hi:is=bits.zip c)
    (h:WL P X bad ops (fun a w=>Q .normal a w) Q is σ μ Ds):WC P X Q (.region id ops true) σ μ Ds:=aDQ bad n c bits is hm hQ.pi hc hi h
def aHB(n m:Nat):List (Bool×Nat):=(List.range n).map fun i=>(Nat.testBit m i,i)
def XR(k m:Nat):List Bool:=(List.range k).map fun i=>Nat.testBit m i
theorem bLL(k m:Nat):aHB k m=(List.range k).map fun i=>((XR k m).getD i false,i):=bQN fun i hi=>by
  have h:=bNJ.1 hi;simp[XR,h]
theorem GC{γb:Type}[Membership Nat γb](bad:γb)(n k m:Nat){id:Nat}{ops:Array Oper}(hQ:PI Q)(h:WL P X bad ops (fun a w=>Q .normal a w) Q (aHB k m) σ μ Ds)(hc:(kS ops n (XR k m) [] [.fin (List.range k)]&&nY ops.size (.fin (List.range k)))=true:=by kernel_rfl)(hm:P.follows .mixedOrders=true:=by exact bB):WC P X Q (.region id ops true) σ μ Ds:=
 EV bad n (XR k m) [.fin (List.range k)] hm hQ (by rw[bPS,List.all_nil,Bool.and_true];exact hc) (nT (aHB k m) (bLL k m) h)
theorem PI.thn{k:Act→Δ→Prop}(h:PI Q):PI (Exit.then k Q):=fun c a b w d q=>h c a b w d q
theorem PI.inb{i:Nat}(h:PI Q):PI (Exit.inBlock i Q):=fun c a b w d q=>h c a b w d q
theorem NP.inb{i:Nat}(h:NP Q):NP (Exit.inBlock i Q):=fun c a w q=>h c a w q
theorem NP.thn{k:Act→Δ→Prop}(h:NP Q):NP (Exit.then k Q):=fun c a w q=>h c a w q
theorem aV{γb:Type}[Membership Nat γb](bad:γb)(n k m:Nat){id:Nat}{ops:Array Oper}(h:WL P X bad ops (fun a w=>Q .normal a w) Q (aHB k m) σ μ Ds)(hQ:PI Q:=by repeat (first|exact aBL|refine PI.thn ?_|refine PI.inb ?_|refine PI.ngt ?_))(hc:(kS ops n (XR k m) [] [.fin (List.range k)]&&nY ops.size (.fin (List.range k)))=true:=by kernel_rfl)(hm:P.follows .mixedOrders=true:=by exact bB):WC P X Q (.region id ops true) σ μ Ds:=GC bad n k m hQ h hc hm
theorem uG{γb:Type}[Membership Nat γb](bad:γb)(n k m:Nat){id:Nat}{ops:Array Oper}(hQ:NP Q)(h:WL P X bad ops (fun a w=>Q .normal a w) Q (aHB k m) σ μ Ds)(hc:(kS ops n (XR k m) [] [.fin (List.range k)]&&nY ops.size (.fin (List.range k)))=true:=by kernel_rfl)(hm:P.follows .mixedOrders=true:=by exact bB):WC P X Q (.region id ops true) σ μ Ds:=GC bad n k m hQ.pi h hc hm
theorem bS{γb:Type}[Membership Nat γb](bad:γb)(n k m:Nat){id:Nat}{ops:Array Oper}(h:WL P X bad ops (fun a w=>Q .normal a w) Q (aHB k m) σ μ Ds)(hQ:NP Q:=by repeat (first|exact fM|exact jV|exact c8|refine NP.thn ?_|refine NP.inb ?_|refine NP.ngt ?_))(hc:(kS ops n (XR k m) [] [.fin (List.range k)]&&nY ops.size (.fin (List.range k)))=true:=by kernel_rfl)(hm:P.follows .mixedOrders=true:=by exact bB):WC P X Q (.region id ops true) σ μ Ds:=GC bad n k m hQ.pi h hc hm
def DX:List (Nat×iP)→Nat→iP
 | [],_=>.fin []
 |(j,pl)::l,i=>bif Nat.beq i j then pl else DX l i
theorem bIQ{γ:Type}{c:Code}(m:γ→Nat)(I:γ→Prop)(S:γ→bX)(M:γ→aD)(E:γ→List aC)(g₀:γ)(h₀:I g₀)(hσ:FA σ (S g₀))(hμ:(M g₀).Sublist μ)(hD:∀D∈E g₀,∃D'∈Ds,Le D D')
  (round:∀g,I g→WC P X (Exit.then (fun a w=>∃g',I g'∧m g'<m g∧Hl X (S g') (M g') (E g') a w) Q) c (S g) (M g) (E g)):WC P X Q (.loop c) σ μ Ds:=by
 let p:Act→Δ→Nat→Prop:=fun a w n=>∃g,I g∧m g=n∧Hl X (S g) (M g) (E g) a w
 have ex:∀a w,(∃n,p a w n)→∃n,p a w n∧∀k,p a w k→n≤k:=by
  intro a w ⟨n,hn⟩;induction n using Nat.strongRecOn with
  |_ n ih=>
   by_cases h:∃k,k<n∧p a w k
   ·obtain⟨k,hk,hp⟩:=h;exact ih k hk hp
   ·exact⟨n,hn,fun k hk=>Nat.le_of_not_lt fun hl=>h ⟨k,hl,hk⟩⟩
 intro a w hh;refine wpIn_loop (fun a w=>∃n,p a w n) (fun a w=>open Classical in if h:∃n,p a w n then(ex a w h).choose else 0) ⟨_,g₀,h₀,rfl,hh.weak hσ hμ hD⟩ ?_;intro a w hI;obtain⟨⟨g,hg,hm,hst⟩,hmin⟩:=(ex a w hI).choose_spec;refine wpIn_mono (round g hg a w hst) fun e a' w' hq=>?_
 cases e with
 |normal=>
  obtain⟨g',hg',hlt,hst'⟩:=hq;have hI':∃n,p a' w' n:=⟨_,g',hg',rfl,hst'⟩
  refine⟨hI',?_⟩;simp only[dif_pos hI',dif_pos hI];have:=(ex a' w' hI').choose_spec.2 _ ⟨g',hg',rfl,hst'⟩;omega
 |_=>exact hq

def cZ(all:Array Oper)(σ:bX):Option (Nat×Bool)→Prop
 |none=>True
 |some (j,want)=>∃s,(all[j]?).bind (·.dst)=some s∧look σ s=some (.bool want)
def bLA(all:Array Oper)(σ:bX):Option (Nat×Bool)→Prop
 |none=>False
 |some (j,want)=>∃s v,(all[j]?).bind (·.dst)=some s∧look σ s=some v∧(match v with|.bool b=>Bool.xor b want|_=>true)=true
theorem Hl.wanted{a:Act}{w:Δ}(h:Hl X σ μ Ds a w){o:Oper}(hg:cZ all σ o.guard):Region.wanted o (yielded all a.tmps)=true:=by
 unfold Region.wanted;cases hgd:o.guard with
 |none=>rfl
 |some p=>
  obtain⟨j,want⟩:=p;rw[hgd]at hg;obtain⟨s,hs,hl⟩:=hg;simp[yielded,hs,h.2.1 s _ hl]
theorem Hl.unwanted{a:Act}{w:Δ}(h:Hl X σ μ Ds a w){o:Oper}(hg:bLA all σ o.guard):Region.wanted o (yielded all a.tmps)=false:=by
 unfold Region.wanted;cases hgd:o.guard with
 |none=>rw[hgd]at hg;exact hg.elim
 |some p=>
  obtain⟨j,want⟩:=p;rw[hgd]at hg;obtain⟨s,v,hs,hl,hv⟩:=hg;have hy:yielded all a.tmps j=(match v with|.bool b=>some b|_=>none):=by
   simp only[yielded,hs,Option.bind_some,h.2.1 s _ hl];cases v<;>rfl
  simp only[hy];cases v with
  |bool b=>cases b<;>cases want<;>first|rfl|(simp at hv)
  |_=>rfl
theorem BJ(h:∀a w,Hl X σ μ Ds a w→K a w):WL P X bad all K Q [] σ μ Ds:=fun a w hh=>h a w hh
theorem _root_.Go.Fs.Zan(h:∀a w,Hl X σ μ Ds a w→K a w):WL P X bad all K Q [] σ μ Ds:=BJ h
theorem C5{o:Oper}(ho:all[ix]?= some o):iZ all ((fl,ix)::os)=(fl,o)::iZ all os:=by simp[iZ,ho]
theorem oZ{o:Oper}{d:Nat}{v:Γ}(ho:all[ix]?= some o)(hq:kX o.op=true)(hd:o.dst=some d)(hN:Nat.blt d X.N=true)(hg:cZ all σ o.guard)
  (hv:∀a w,Hl X σ μ Ds a w→∀w',pV bad w w'→(execOp a.eval o).run P w'=.ok (.value v) w') (k:WL P X bad all K Q os ((d,v)::σ) μ Ds):WL P X bad all K Q ((fl,ix)::os) σ μ Ds:=by
 intro a w hh;rw[C5 ho];simp only[vG,hq,bOC];refine⟨v,bMF ⟨hh.wanted hg,hv a w hh⟩,?_⟩;rw[hd];exact k _ _ (hh.put hN v)
theorem cA{o:Oper}{d:Nat}{v:Γ}(ho:all[ix]?= some o)(hq:kX o.op=true)(hd:o.dst=some d)(hN:Nat.blt d X.N=true)(hg:cZ all σ o.guard)
  (hv:∀ρ:Operand→Γ,(∀x u,ev σ x=some u→ρ x=u)→∀w',(execOp ρ o).run P w'=.ok (.value v) w') (k:WL P X bad all K Q os ((d,v)::σ) μ Ds):WL P X bad all K Q ((fl,ix)::os) σ μ Ds:=
 oZ ho hq hd hN hg (fun a _ hh w' _=>hv a.eval (fun _ _ hx=>hh.eval hx) w') k
theorem bGJ{o:Oper}{d:Nat}(ho:all[ix]?= some o)(hd:o.dst=some d)(hN:Nat.blt d X.N=true)(hg:bLA all σ o.guard)(k:WL P X bad all K Q os ((d,undef)::σ) μ Ds):WL P X bad all K Q ((fl,ix)::os) σ μ Ds:=by
 intro a w hh;rw[C5 ho];simp only[vG];split
 ·refine⟨undef,bLY ⟨hh.unwanted hg,rfl⟩,?_⟩;rw[hd];exact k _ _ (hh.put hN _)
 ·unfold W7;rw[bLX (by rw[hh.unwanted hg];simp),hd]
  exact k _ _ (hh.put hN _)
theorem _root_.Go.Fs.Zg{o:Oper}{d:Nat}(e9:(all[ix]?,o.dst)=(some o,some d))(k:WL P X bad all K Q os ((d,undef)::σ) μ Ds)(hN:Nat.blt d X.N=true:=by exact rfl)(hg:bLA all σ o.guard:=by exact⟨_,_,rfl,rfl,rfl⟩):WL P X bad all K Q ((fl,ix)::os) σ μ Ds:=bGJ (bLZ (fun z=>z.1) e9) (bLZ (fun z=>z.2) e9) hN hg k
theorem rX{K':Act→Δ→Prop}:∀(xs ys:List (Bool×Oper)) (a:Act) (w:Δ),vG X.r bad P all (fun a w=>K' a w) Q xs a w→(∀a w,K' a w→vG X.r bad P all K Q ys a w)→vG X.r bad P all K Q (xs++ys) a w
 | [],ys,a,w,h,hk=>hk a w h
 |(fl,o)::xs,ys,a,w,h,hk=>by
  simp only[bOF,vG]at h ⊢
  split at h
  ·rename_i hq;rw[bMG hq];obtain⟨v,hy,h⟩:=h;exact⟨v,hy,rX xs ys _ _ h hk⟩
  ·rename_i hq;rw[bLX hq];exact h.mono fun a w hh=>rX xs ys a w hh hk
theorem WL.append{K':Act→Δ→Prop}{xs ys:List (Bool×Nat)}{a:Act}{w:Δ}(h:vG X.r bad P all (fun a w=>K' a w) Q (iZ all xs) a w)(hk:∀a w,K' a w→vG X.r bad P all K Q (iZ all ys) a w):
  vG X.r bad P all K Q (iZ all (xs++ys)) a w:=by
 rw[iZ,bME];exact rX _ _ a w h hk
theorem LX(xs ys:List (Bool×Nat)){s p:Nat}{b c want:Bool}(ho:os=xs++ys)(hs:look σ s=some (.bool b))
  (hyes:b=want→WL P X bad all (fun a w=>Hl X ((p,.bool c)::(s,.bool want)::σ) μ Ds a w) Q xs ((s,.bool want)::σ) μ Ds)
  (hno:b= !want→WL P X bad all (fun a w=>Hl X ((p,.bool (!want))::(s,.bool (!want))::σ) μ Ds a w) Q xs ((s,.bool (!want))::σ) μ Ds)
  (k:WL P X bad all K Q ys ((p,.bool (bif want then b&&c else b||c))::σ) μ Ds):WL P X bad all K Q os σ μ Ds:=by
 have hsub:∀u,Value.bool b=u→∀a w,Hl X σ μ Ds a w→Hl X ((s,u)::σ) μ Ds a w:=by
  rintro _ rfl a w ⟨h1,h2,h3⟩;refine⟨h1,fun t v ht=>?_,h3⟩;simp only[look]at ht;cases hb:Nat.beq s t with
  |true=>rw[hb]at ht;cases ht;obtain rfl:=bNO hb;exact h2 _ _ hs
  |false=>rw[hb]at ht;exact h2 _ _ ht
 have hback:∀u v,Value.bool b=u→∀a w,Hl X ((p,v)::(s,u)::σ) μ Ds a w→Hl X ((p,v)::σ) μ Ds a w:=by
  rintro _ v rfl a w ⟨h1,h2,h3⟩;refine⟨h1,fun t v' ht=>?_,h3⟩;refine h2 t v' ?_;simp only[look]at ht ⊢
  cases hp:Nat.beq p t with
  |true=>rw[hp]at ht;exact ht
  |false=>
   rw[hp]at ht;cases hb:Nat.beq s t with
   |true=>obtain rfl:=bNO hb;rw[←ht,hs]
   |false=>exact ht
 subst ho;intro a w hh;have kk:∀v,v=Value.bool (bif want then b&&c else b||c)→∀a w,Hl X ((p,v)::σ) μ Ds a w→vG X.r bad P all K Q (iZ all ys) a w:=by rintro _ rfl a w h;exact k a w h
 cases b<;>cases want
 ·exact WL.append (hyes rfl a w (hsub _ rfl a w hh)) fun a w h=>kk _ rfl a w (hback _ _ rfl a w h)
 ·exact WL.append (hno rfl a w (hsub _ rfl a w hh)) fun a w h=>kk _ rfl a w (hback _ _ rfl a w h)
 ·exact WL.append (hno rfl a w (hsub _ rfl a w hh)) fun a w h=>kk _ rfl a w (hback _ _ rfl a w h)
 ·exact WL.append (hyes rfl a w (hsub _ rfl a w hh)) fun a w h=>kk _ rfl a w (hback _ _ rfl a w h)
theorem bU(k:Nat){s p:Nat}{b c:Bool}(hs:look σ s=some (.bool b))
 (hyes:b=true→WL P X bad all (fun a w=>Hl X ((p,.bool c)::(s,.bool true)::σ) μ Ds a w) Q (os.take k) ((s,.bool true)::σ) μ Ds)
 (hno:b=false→WL P X bad all (fun a w=>Hl X ((p,.bool false)::(s,.bool false)::σ) μ Ds a w) Q (os.take k) ((s,.bool false)::σ) μ Ds)
 (kk:WL P X bad all K Q (os.drop k) ((p,.bool (b&&c))::σ) μ Ds):WL P X bad all K Q os σ μ Ds:=LX (os.take k) (os.drop k) (want:=true) (bPB k os).symm hs hyes hno kk
theorem dQ(k:Nat){s p:Nat}{b c:Bool}(hs:look σ s=some (.bool b))
 (hyes:b=false→WL P X bad all (fun a w=>Hl X ((p,.bool c)::(s,.bool false)::σ) μ Ds a w) Q (os.take k) ((s,.bool false)::σ) μ Ds)
 (hno:b=true→WL P X bad all (fun a w=>Hl X ((p,.bool true)::(s,.bool true)::σ) μ Ds a w) Q (os.take k) ((s,.bool true)::σ) μ Ds)
 (kk:WL P X bad all K Q (os.drop k) ((p,.bool (b||c))::σ) μ Ds):WL P X bad all K Q os σ μ Ds:=LX (os.take k) (os.drop k) (want:=false) (bPB k os).symm hs hyes hno kk
theorem O5{fls:List Bool}{O k2:Act→Δ→Prop}(hk:∀a w,O a w→k2 a w):∀(pl:iP) (a:Act) (w:Δ),G0 X.r bad P all fls Q O pl a w→G0 X.r bad P all fls Q k2 pl a w
 |.fin c,a,w,h=>by
  have:=rX (X:=X) (K':=O) _ [] a w h fun a w h=>hk a w h;rw[bMM]at this;exact this
 |.fork d p A q B,a,w,h=>by
  have one:∀(xs:List (Bool×Oper)) (I K2:Act→Δ→Prop) (a:Act) (w:Δ),vG X.r bad P all I Q xs a w→(∀a w,I a w→K2 a w)→vG X.r bad P all K2 Q xs a w:=fun xs I K2 a w h hh=>by
   have:=rX (X:=X) (K':=I) xs [] a w h fun a w h=>hh a w h;rw[bMM]at this;exact this
  exact one _ _ _ a w h fun a w hh=>⟨one _ _ _ a w hh.1 (O5 hk A),one _ _ _ a w hh.2 (O5 hk B)⟩
 |.forkN d p ps A,a,w,h=>by
  have one:∀(xs:List (Bool×Oper)) (I K2:Act→Δ→Prop) (a:Act) (w:Δ),vG X.r bad P all I Q xs a w→(∀a w,I a w→K2 a w)→vG X.r bad P all K2 Q xs a w:=fun xs I K2 a w h hh=>by
   have:=rX (X:=X) (K':=I) xs [] a w h fun a w h=>hh a w h;rw[bMM]at this;exact this
  exact one _ _ _ a w h fun a w hh i hi=>one _ _ _ a w (hh i hi) (O5 hk (A i))
theorem BD{fls:List Bool}{K':Act→Δ→Prop}:∀(xs ys:List iP) (a:Act) (w:Δ),PS X.r bad P all fls Q K' xs a w→(∀a w,K' a w→PS X.r bad P all fls Q K ys a w)→PS X.r bad P all fls Q K (xs++ys) a w
 | [],_,a,w,h,hk=>hk a w h
 |x::xs,ys,a,w,h,hk=>O5 (fun a w h=>BD xs ys a w h hk) x a w h
theorem AC{fls:List Bool}{γ:Type}(I:γ→Prop)(S:γ→bX)(M:γ→aD)(E:γ→List aC)(xs ys:List iP){segs:List iP}(ho:segs=xs++ys)(h1:WS P X bad all fls (fun a w=>∃g,I g∧Hl X (S g) (M g) (E g) a w) Q xs σ μ Ds)
  (h2:∀g,I g→WS P X bad all fls K Q ys (S g) (M g) (E g)):WS P X bad all fls K Q segs σ μ Ds:=by
 subst ho;intro a w hh;exact BD xs ys a w (h1 a w hh) fun a w ⟨g,hg,h⟩=>h2 g hg a w h
def I1:Nat→bX→Bool
 |0,_=>true
 |_,[]=>true
 |n+1,(k,_)::r=>(match look (r.drop n) k with|none=>true|some _=>false)&&I1 n r
theorem P2:∀(n:Nat) (σ:bX),I1 n σ=true→∀s v,look (σ.drop n) s=some v→look σ s=some v
 |0,σ,_,s,v,h=>h
 |n+1,[],_,s,v,h=>h
 |n+1,(k,u)::r,hd,s,v,h=>by
  simp only[I1,bLQ]at hd;simp only[List.drop_succ_cons]at h;have h2:=P2 n r hd.2 s v h;simp only[look];cases hb:Nat.beq k s with
  |false=>exact h2
  |true=>
   obtain rfl:=bNO hb;have:=hd.1;rw[h]at this;cases this
theorem Hl.cutK{p:Nat}{v:Γ}{a:Act}{w:Δ}(n:Nat)(h:Hl X ((p,v)::σ) μ Ds a w)(hd:I1 n σ=true):Hl X ((p,v)::σ.drop n) μ Ds a w:=by
 obtain⟨h1,h2,h3⟩:=h;refine⟨h1,fun s u hs=>h2 s u ?_,h3⟩;simp only[look]at hs ⊢
 cases hb:Nat.beq p s with
 |true=>rw[hb]at hs;exact hs
 |false=>rw[hb]at hs;exact P2 n σ hd s u hs
theorem aN{p:Nat}{v:Γ}(n:Nat)(hd:I1 n σ=true:=by exact rfl):WL P X bad all (fun a w=>Hl X ((p,v)::σ.drop n) μ Ds a w) Q [] ((p,v)::σ) μ Ds:=BJ fun _ _ hh=>hh.cutK n hd
theorem aA{z:Code}{id:Nat}{ops:Array Oper}(h:WL P X [] ops (fun a w=>(Exit.then (z.wpIn (FW X.r) 0 P Q) Q) .normal a w) (Exit.then (z.wpIn (FW X.r) 0 P Q) Q) ((List.range ops.size).map fun i=>(false,i)) σ μ Ds):WC P X Q (.seq (.region id ops false) z) σ μ Ds:=aFG (aP h)
theorem bZ{y z:Code}{id:Nat}{ops:Array Oper}(h:WL P X [] ops (fun a w=>(Exit.then (y.wpIn (FW X.r) 0 P (Exit.then (z.wpIn (FW X.r) 0 P Q) Q)) (Exit.then (z.wpIn (FW X.r) 0 P Q) Q)) .normal a w) (Exit.then (y.wpIn (FW X.r) 0 P (Exit.then (z.wpIn (FW X.r) 0 P Q) Q)) (Exit.then (z.wpIn (FW X.r) 0 P Q) Q)) ((List.range ops.size).map fun i=>(false,i)) σ μ Ds):WC P X Q (.seq (.seq (.region id ops false) y) z) σ μ Ds:=aFG (aA h)
theorem aF{y:Code}{R:Exit→Act→Δ→Prop}(h:WC P X Q y σ μ Ds):WL P X bad all (fun a w=>(Exit.then (y.wpIn (FW X.r) 0 P Q) Q) .normal a w) R [] σ μ Ds:=BJ (ZY h)
theorem bW{x y:Code}{R:Exit→Act→Δ→Prop}(h:WC P X (Exit.then (y.wpIn (FW X.r) 0 P Q) Q) x σ μ Ds):WL P X bad all (fun a w=>(Exit.then ((Code.seq x y).wpIn (FW X.r) 0 P Q) Q) .normal a w) R [] σ μ Ds:=aF (aFG h)
theorem aJ{z:Code}{id:Nat}{ops:Array Oper}{R:Exit→Act→Δ→Prop}(h:WL P X [] ops (fun a w=>(Exit.then (z.wpIn (FW X.r) 0 P Q) Q) .normal a w) (Exit.then (z.wpIn (FW X.r) 0 P Q) Q) ((List.range ops.size).map fun i=>(false,i)) σ μ Ds):WL P X bad all (fun a w=>(Exit.then ((Code.seq (.region id ops false) z).wpIn (FW X.r) 0 P Q) Q) .normal a w) R [] σ μ Ds:=aF (aA h)
theorem bG{y z:Code}{id:Nat}{ops:Array Oper}{R:Exit→Act→Δ→Prop}(h:WL P X [] ops (fun a w=>(Exit.then (y.wpIn (FW X.r) 0 P (Exit.then (z.wpIn (FW X.r) 0 P Q) Q)) (Exit.then (z.wpIn (FW X.r) 0 P Q) Q)) .normal a w) (Exit.then (y.wpIn (FW X.r) 0 P (Exit.then (z.wpIn (FW X.r) 0 P Q) Q)) (Exit.then (z.wpIn (FW X.r) 0 P Q) Q)) ((List.range ops.size).map fun i=>(false,i)) σ μ Ds):WL P X bad all (fun a w=>(Exit.then ((Code.seq (.seq (.region id ops false) y) z).wpIn (FW X.r) 0 P Q) Q) .normal a w) R [] σ μ Ds:=aF (bZ h)
theorem aG{R:Exit→Act→Δ→Prop}(h:∀a w,Hl X σ μ Ds a w→Q .ret a w):WL P X bad all (fun a w=>(Exit.then (Code.ret.wpIn (FW X.r) 0 P Q) Q) .normal a w) R [] σ μ Ds:=aF (JS h)
theorem aQ{y:Code}(h:WC P X Q y σ μ Ds):WC P X (Exit.then (y.wpIn (FW X.r) 0 P Q) Q) .skip σ μ Ds:=bH (ZY h)

theorem aKG{k:Act→Δ→Prop}(h:∀a w,Hl X σ μ Ds a w→Q .ret a w):∀a w,Hl X σ μ Ds a w→Exit.then k Q .ret a w:=h
theorem _root_.Go.Fs.Zaz{k:Act→Δ→Prop}(h:∀a w,Hl X σ μ Ds a w→Q .ret a w):∀a w,Hl X σ μ Ds a w→Exit.then k Q .ret a w:=aKG h
theorem aAV{k:Act→Δ→Prop}{id:Nat}(h:∀a w,Hl X σ μ Ds a w→Q (.exit id) a w):∀a w,Hl X σ μ Ds a w→Exit.then k Q (.exit id) a w:=h
theorem _root_.Go.Fs.Za1{k:Act→Δ→Prop}{id:Nat}(h:∀a w,Hl X σ μ Ds a w→Q (.exit id) a w):∀a w,Hl X σ μ Ds a w→Exit.then k Q (.exit id) a w:=aAV h
theorem aAW{id:Nat}(h:∀a w,Hl X σ μ Ds a w→Q .ret a w):∀a w,Hl X σ μ Ds a w→Exit.inBlock id Q .ret a w:=h
theorem _root_.Go.Fs.Za4{id:Nat}(h:∀a w,Hl X σ μ Ds a w→Q .ret a w):∀a w,Hl X σ μ Ds a w→Exit.inBlock id Q .ret a w:=aAW h
theorem aBF{id:Nat}(h:∀a w,Hl X σ μ Ds a w→Q .normal a w):∀a w,Hl X σ μ Ds a w→Exit.inBlock id Q .normal a w:=h
theorem _root_.Go.Fs.Za3{id:Nat}(h:∀a w,Hl X σ μ Ds a w→Q .normal a w):∀a w,Hl X σ μ Ds a w→Exit.inBlock id Q .normal a w:=aBF h
theorem VC{id:Nat}(h:∀a w,Hl X σ μ Ds a w→Q .normal a w):∀a w,Hl X σ μ Ds a w→Exit.inBlock id Q (.exit id) a w:=fun a w hh=>OM (h a w hh)
theorem _root_.Go.Fs.Za6{id:Nat}(h:∀a w,Hl X σ μ Ds a w→Q .normal a w):∀a w,Hl X σ μ Ds a w→Exit.inBlock id Q (.exit id) a w:=VC h
theorem wH{id id':Nat}(hne:Nat.beq id' id=false)(h:∀a w,Hl X σ μ Ds a w→Q (.exit id') a w):∀a w,Hl X σ μ Ds a w→Exit.inBlock id Q (.exit id') a w:=fun a w hh=>HR hne (h a w hh)
theorem fZ{γ:Type}{c:Code}(m:γ→Nat)(I:γ→Prop)(ch:γ→bX)(rest:bX)(M:γ→aD)(E:γ→List aC)(g₀:γ)(h₀:I g₀)(hch:FA σ (ch g₀))(hrest:FA σ rest)(hμ:(M g₀).Sublist μ)(hD:∀D∈E g₀,∃D'∈Ds,Le D D')
  (round:∀g,I g→WC P X (Exit.then (fun a w=>∃g',I g'∧m g'<m g∧Hl X (ch g'++rest) (M g') (E g') a w) Q) c (ch g++rest) (M g) (E g)):WC P X Q (.loop c) σ μ Ds:=
 bIQ m I (fun g=>ch g++rest) M E g₀ h₀ (FA.app hch hrest) hμ hD round
theorem _root_.Go.Fs.Zc(γ:Type){c:Code}(m:γ→Nat)(I:γ→Prop)(ch:γ→bX)(rest:bX)(M:γ→aD)(E:γ→List aC)(g₀:γ)(h₀:I g₀)(hch:FA σ (ch g₀))(hμ:(M g₀).Sublist μ)(round:∀g,I g→WC P X (Exit.then (fun a w=>∃g',I g'∧m g'<m g∧Hl X (ch g'++rest) (M g') (E g') a w) Q) c (ch g++rest) (M g) (E g))(hrest:FA σ rest:=by exact bQ)(hD:∀D∈E g₀,∃D'∈Ds,Le D D':=by exact(aK)):WC P X Q (.loop c) σ μ Ds:=fZ (γ:=γ) m I ch rest M E g₀ h₀ hch hrest hμ hD round
theorem bK{γ:Type}{c:Code}(m:γ→Nat)(I:γ→Prop)(ch:γ→bX)(rest:bX)(E:γ→List aC)(g₀:γ)(h₀:I g₀)(hch:FA σ (ch g₀))(hrest:FA σ rest)(hD:∀D∈E g₀,∃D'∈Ds,Le D D')
  (round:∀g,I g→WC P X (Exit.then (fun a w=>∃g',I g'∧m g'<m g∧Hl X (ch g'++rest) ((fun _=>μ) g') (E g') a w) Q) c (ch g++rest) μ (E g)):WC P X Q (.loop c) σ μ Ds:=
 fZ m I ch rest (fun _=>μ) E g₀ h₀ hch hrest Mm5 hD round
theorem aL{γ:Type}{m:γ→Nat}{I:γ→Prop}{ch:γ→bX}{rest:bX}{M:γ→aD}{E:γ→List aC}{g:γ}(n:Nat)(g':γ)(h1:I g')(h2:m g'<m g)(hch:FA σ (ch g'))(hn:I1 n σ=true)(hr:σ.drop n=rest)(hμ:(M g').Sublist μ)(hD:∀D∈E g',∃D'∈Ds,Le D D'):
  ∀a w,Hl X σ μ Ds a w→Exit.then (fun a w=>∃g',I g'∧m g'<m g∧Hl X (ch g'++rest) (M g') (E g') a w) Q .normal a w:=by
 intro a w hh;refine⟨g',h1,h2,?_⟩;have h3:=hh.weak (σ':=ch g') hch hμ hD;refine⟨h3.1,fun s v hs=>?_,h3.2.2⟩;rcases BA hs with hs|hs
 ·exact h3.2.1 s v hs
 ·subst hr;exact hh.2.1 s v (P2 n σ hn s v hs)
theorem _root_.Go.Fs.Zn{γ:Type}{m:γ→Nat}{I:γ→Prop}{ch:γ→bX}{rest:bX}{M:γ→aD}{E:γ→List aC}{g:γ}(n:Nat)(g':γ)(hch:FA σ (ch g'))(e9:(I1 n σ,σ.drop n)=(true,rest))(hμ:(M g').Sublist μ)(h1:I g':=by exact Yd)(h2:m g'<m g:=by exact Yd)(hD:∀D∈E g',∃D'∈Ds,Le D D':=by exact(aK)):∀a w,Hl X σ μ Ds a w→Exit.then (fun a w=>∃g',I g'∧m g'<m g∧Hl X (ch g'++rest) (M g') (E g') a w) Q .normal a w:=aL n g' h1 h2 hch (bLZ (fun z=>z.1) e9) (bLZ (fun z=>z.2) e9) hμ hD
theorem aK{Ds:List aC}:∀D∈Ds,∃D'∈Ds,Le D D':=fun D h=>⟨D,h,Le.refl D⟩
section ops
variable{d:Nat}{x y z:Operand}{u v:Γ}{ty:Θ}{pos:String}{aft:Array Edge}{g:Option (Nat×Bool)}
theorem aMT(ho:all[ix]?= some ⟨some d,.move x,ty,pos,aft,g⟩)(hx:ev σ x=some v)(hN:Nat.blt d X.N=true)(hg:cZ all σ g)(k:WL P X bad all K Q os ((d,v)::σ) μ Ds):WL P X bad all K Q ((fl,ix)::os) σ μ Ds:=
 cA ho rfl rfl hN hg (fun ρ hρ w'=>by simp[execOp,hρ x v hx,Pure.pure]) k
theorem _root_.Go.Fs.Za(e9:(all[ix]?,ev σ x)=(some ⟨some d,.move x,ty,pos,aft,g⟩,some v))(k:WL P X bad all K Q os ((d,v)::σ) μ Ds)(hN:Nat.blt d X.N=true:=by exact rfl)(hg:cZ all σ g:=by exact bRD):WL P X bad all K Q ((fl,ix)::os) σ μ Ds:=aMT (bLZ (fun z=>z.1) e9) (bLZ (fun z=>z.2) e9) hN hg k
theorem _root_.Go.Fs.Zb(e9:(all[ix]?,ev σ x)=(some ⟨some d,.move x,ty,pos,aft,g⟩,some v))(k:WL P X bad all K Q os ((d,v)::σ) μ Ds)(hN:Nat.blt d X.N=true:=by exact rfl)(hg:cZ all σ g:=by exact⟨_,rfl,rfl⟩):WL P X bad all K Q ((fl,ix)::os) σ μ Ds:=aMT (bLZ (fun z=>z.1) e9) (bLZ (fun z=>z.2) e9) hN hg k
theorem aTI(ho:all[ix]?= some ⟨some d,.assign x,ty,pos,aft,g⟩)(hx:ev σ x=some v)(hN:Nat.blt d X.N=true)(hg:cZ all σ g)(k:WL P X bad all K Q os ((d,v)::σ) μ Ds):WL P X bad all K Q ((fl,ix)::os) σ μ Ds:=
 cA ho rfl rfl hN hg (fun ρ hρ w'=>by simp[execOp,hρ x v hx,Pure.pure]) k
theorem _root_.Go.Fs.Zf(e9:(all[ix]?,ev σ x)=(some ⟨some d,.assign x,ty,pos,aft,g⟩,some v))(k:WL P X bad all K Q os ((d,v)::σ) μ Ds)(hN:Nat.blt d X.N=true:=by exact rfl)(hg:cZ all σ g:=by exact bRD):WL P X bad all K Q ((fl,ix)::os) σ μ Ds:=aTI (bLZ (fun z=>z.1) e9) (bLZ (fun z=>z.2) e9) hN hg k
theorem oV(ho:all[ix]?= some ⟨some d,.pick x y z,ty,pos,aft,g⟩)(hx:ev σ x=some (.bool true))(hy:ev σ y=some v)(hN:Nat.blt d X.N=true)(hg:cZ all σ g)(k:WL P X bad all K Q os ((d,v)::σ) μ Ds):WL P X bad all K Q ((fl,ix)::os) σ μ Ds:=
 cA ho rfl rfl hN hg (fun ρ hρ w'=>by simp[execOp,hρ x _ hx,hρ y _ hy,asBool,go_sem]) k
theorem _root_.Go.Fs.Zaj(e9:(all[ix]?,ev σ x,ev σ y)=(some ⟨some d,.pick x y z,ty,pos,aft,g⟩,some (.bool true),some v))(k:WL P X bad all K Q os ((d,v)::σ) μ Ds)(hN:Nat.blt d X.N=true:=by exact rfl)(hg:cZ all σ g:=by exact bRD):WL P X bad all K Q ((fl,ix)::os) σ μ Ds:=oV (bLZ (fun z=>z.1) e9) (bLZ (fun z=>z.2.1) e9) (bLZ (fun z=>z.2.2) e9) hN hg k
theorem oW(ho:all[ix]?= some ⟨some d,.pick x y z,ty,pos,aft,g⟩)(hx:ev σ x=some (.bool false))(hy:ev σ z=some v)(hN:Nat.blt d X.N=true)(hg:cZ all σ g)(k:WL P X bad all K Q os ((d,v)::σ) μ Ds):WL P X bad all K Q ((fl,ix)::os) σ μ Ds:=
 cA ho rfl rfl hN hg (fun ρ hρ w'=>by simp[execOp,hρ x _ hx,hρ z _ hy,asBool,go_sem]) k
theorem _root_.Go.Fs.Zak(e9:(all[ix]?,ev σ x,ev σ z)=(some ⟨some d,.pick x y z,ty,pos,aft,g⟩,some (.bool false),some v))(k:WL P X bad all K Q os ((d,v)::σ) μ Ds)(hN:Nat.blt d X.N=true:=by exact rfl)(hg:cZ all σ g:=by exact bRD):WL P X bad all K Q ((fl,ix)::os) σ μ Ds:=oW (bLZ (fun z=>z.1) e9) (bLZ (fun z=>z.2.1) e9) (bLZ (fun z=>z.2.2) e9) hN hg k
theorem bES{b:Bool}{t:Θ}(ho:all[ix]?= some ⟨some d,.unOp .not t x,ty,pos,aft,g⟩)(hx:ev σ x=some (.bool b))(hN:Nat.blt d X.N=true)(hg:cZ all σ g)(k:WL P X bad all K Q os ((d,.bool (!b))::σ) μ Ds):WL P X bad all K Q ((fl,ix)::os) σ μ Ds:=
 cA ho rfl rfl hN hg (fun ρ hρ w'=>by simp[execOp,hρ x _ hx,Op.unary,go_sem]) k
theorem _root_.Go.Fs.Zas{b:Bool}{t:Θ}(e9:(all[ix]?,ev σ x)=(some ⟨some d,.unOp .not t x,ty,pos,aft,g⟩,some (.bool b)))(k:WL P X bad all K Q os ((d,.bool (!b))::σ) μ Ds)(hN:Nat.blt d X.N=true:=by exact rfl)(hg:cZ all σ g:=by exact bRD):WL P X bad all K Q ((fl,ix)::os) σ μ Ds:=bES (bLZ (fun z=>z.1) e9) (bLZ (fun z=>z.2) e9) hN hg k
theorem _root_.Go.Fs.Zat{b:Bool}{t:Θ}(e9:(all[ix]?,ev σ x)=(some ⟨some d,.unOp .not t x,ty,pos,aft,g⟩,some (.bool b)))(k:WL P X bad all K Q os ((d,.bool (!b))::σ) μ Ds)(hN:Nat.blt d X.N=true:=by exact rfl)(hg:cZ all σ g:=by exact⟨_,rfl,rfl⟩):WL P X bad all K Q ((fl,ix)::os) σ μ Ds:=bES (bLZ (fun z=>z.1) e9) (bLZ (fun z=>z.2) e9) hN hg k
end ops
variable{d:Nat}{x y z:Operand}{u v:Γ}{ty:Θ}{pos:String}{aft:Array Edge}{g:Option (Nat×Bool)}

def tQ:IntKind→Int→Prop
 |.i8,n=> -128≤n∧n≤127
 |.i16,n=> -32768≤n∧n≤32767
 |.i32,n=> -2147483648≤n∧n≤2147483647
 |.i64,n=> -9223372036854775808≤n∧n≤9223372036854775807
 |.u8,n=>0≤n∧n≤255
 |.u16,n=>0≤n∧n≤65535
 |.u32,n=>0≤n∧n≤4294967295
 |.u64,n=>0≤n∧n≤18446744073709551615
theorem sF{k:IntKind}{n:Int}(h:tQ k n):k.wrap n=n:=by
 cases k<;>simp only[tQ]at h<;>simp only[IntKind.wrap,IntKind.bits,IntKind.signed,bPT,Bool.false_and,bNN,bOO,LT,ge_iff_le]<;>
  (first|(split<;>omega)|omega)
section nums
variable{k:IntKind}{m n:Int}{t t':Θ}
theorem mE{op:BinOp}{w:Δ}{r:Γ}(he:op≠.shl∧op≠.shr)(h:(binOp op t (.int k m) (.int k n)).run P w=.ok r w){ρ:Operand→Γ}(hx:ρ x=.int k m)(hy:ρ y=.int k n):
  (execOp ρ ⟨some d,.binOp op t x y t',ty,pos,aft,g⟩).run P w=.ok (.value r) w:=by
 have hg:∀w,(eqGuard op t x y (.int k m) (.int k n)).run P w=.ok () w:=by
  intro w;unfold eqGuard;split<;>rfl
 simp[execOp,hx,hy,h,go_sem]
theorem wJ(ho:all[ix]?= some ⟨some d,.binOp .add t x y t',ty,pos,aft,g⟩)(hx:ev σ x=some (.int k m))(hy:ev σ y=some (.int k n))(hr:tQ k (m+n))(hN:Nat.blt d X.N=true)(hg:cZ all σ g)(kk:WL P X bad all K Q os ((d,.int k (m+n))::σ) μ Ds):
  WL P X bad all K Q ((fl,ix)::os) σ μ Ds:=
 cA ho rfl rfl hN hg (fun ρ hρ w'=>mE Yf Ybe (hρ x _ hx) (hρ y _ hy)) kk
theorem _root_.Go.Fs.Zae(e9:(all[ix]?,ev σ x,ev σ y)=(some ⟨some d,.binOp .add t x y t',ty,pos,aft,g⟩,some (.int k m),some (.int k n)))(kk:WL P X bad all K Q os ((d,.int k (m+n))::σ) μ Ds)(hr:tQ k (m+n):=by exact Ye)(hN:Nat.blt d X.N=true:=by exact rfl)(hg:cZ all σ g:=by exact bRD):WL P X bad all K Q ((fl,ix)::os) σ μ Ds:=wJ (bLZ (fun z=>z.1) e9) (bLZ (fun z=>z.2.1) e9) (bLZ (fun z=>z.2.2) e9) hr hN hg kk
theorem xF(ho:all[ix]?= some ⟨some d,.binOp .sub t x y t',ty,pos,aft,g⟩)(hx:ev σ x=some (.int k m))(hy:ev σ y=some (.int k n))(hr:tQ k (m-n))(hN:Nat.blt d X.N=true)(hg:cZ all σ g)(kk:WL P X bad all K Q os ((d,.int k (m-n))::σ) μ Ds):
  WL P X bad all K Q ((fl,ix)::os) σ μ Ds:=
 cA ho rfl rfl hN hg (fun ρ hρ w'=>mE Yf Ybe (hρ x _ hx) (hρ y _ hy)) kk
theorem _root_.Go.Fs.Zau(e9:(all[ix]?,ev σ x,ev σ y)=(some ⟨some d,.binOp .sub t x y t',ty,pos,aft,g⟩,some (.int k m),some (.int k n)))(kk:WL P X bad all K Q os ((d,.int k (m-n))::σ) μ Ds)(hr:tQ k (m-n):=by exact Ye)(hN:Nat.blt d X.N=true:=by exact rfl)(hg:cZ all σ g:=by exact bRD):WL P X bad all K Q ((fl,ix)::os) σ μ Ds:=xF (bLZ (fun z=>z.1) e9) (bLZ (fun z=>z.2.1) e9) (bLZ (fun z=>z.2.2) e9) hr hN hg kk
theorem BT(ho:all[ix]?= some ⟨some d,.binOp .mul t x y t',ty,pos,aft,g⟩)(hx:ev σ x=some (.int k m))(hy:ev σ y=some (.int k n))(hr:tQ k (m*n))(hN:Nat.blt d X.N=true)(hg:cZ all σ g)(kk:WL P X bad all K Q os ((d,.int k (m*n))::σ) μ Ds):
  WL P X bad all K Q ((fl,ix)::os) σ μ Ds:=
 cA ho rfl rfl hN hg (fun ρ hρ w'=>mE Yf Ybe (hρ x _ hx) (hρ y _ hy)) kk
theorem LB(ho:all[ix]?= some ⟨some d,.binOp .lss t x y t',ty,pos,aft,g⟩)(hx:ev σ x=some (.int k m))(hy:ev σ y=some (.int k n))(hN:Nat.blt d X.N=true)(hg:cZ all σ g)(kk:WL P X bad all K Q os ((d,.bool (decide (m<n)))::σ) μ Ds):
  WL P X bad all K Q ((fl,ix)::os) σ μ Ds:=
 cA ho rfl rfl hN hg (fun ρ hρ w'=>mE Yf Yba (hρ x _ hx) (hρ y _ hy)) kk
theorem _root_.Go.Fs.Zam(e9:(all[ix]?,ev σ x,ev σ y)=(some ⟨some d,.binOp .lss t x y t',ty,pos,aft,g⟩,some (.int k m),some (.int k n)))(kk:WL P X bad all K Q os ((d,.bool (decide (m<n)))::σ) μ Ds)(hN:Nat.blt d X.N=true:=by exact rfl)(hg:cZ all σ g:=by exact bRD):WL P X bad all K Q ((fl,ix)::os) σ μ Ds:=LB (bLZ (fun z=>z.1) e9) (bLZ (fun z=>z.2.1) e9) (bLZ (fun z=>z.2.2) e9) hN hg kk
theorem gX(ho:all[ix]?= some ⟨some d,.binOp .leq t x y t',ty,pos,aft,g⟩)(hx:ev σ x=some (.int k m))(hy:ev σ y=some (.int k n))(hN:Nat.blt d X.N=true)(hg:cZ all σ g)(kk:WL P X bad all K Q os ((d,.bool (decide (m≤n)))::σ) μ Ds):
  WL P X bad all K Q ((fl,ix)::os) σ μ Ds:=
 cA ho rfl rfl hN hg (fun ρ hρ w'=>mE Yf Yba (hρ x _ hx) (hρ y _ hy)) kk
theorem bEQ(ho:all[ix]?= some ⟨some d,.binOp .gtr t x y t',ty,pos,aft,g⟩)(hx:ev σ x=some (.int k m))(hy:ev σ y=some (.int k n))(hN:Nat.blt d X.N=true)(hg:cZ all σ g)(kk:WL P X bad all K Q os ((d,.bool (decide (n<m)))::σ) μ Ds):
  WL P X bad all K Q ((fl,ix)::os) σ μ Ds:=
 cA ho rfl rfl hN hg (fun ρ hρ w'=>mE Yf Yba (hρ x _ hx) (hρ y _ hy)) kk
theorem _root_.Go.Fs.Zaq(e9:(all[ix]?,ev σ x,ev σ y)=(some ⟨some d,.binOp .gtr t x y t',ty,pos,aft,g⟩,some (.int k m),some (.int k n)))(kk:WL P X bad all K Q os ((d,.bool (decide (n<m)))::σ) μ Ds)(hN:Nat.blt d X.N=true:=by exact rfl)(hg:cZ all σ g:=by exact bRD):WL P X bad all K Q ((fl,ix)::os) σ μ Ds:=bEQ (bLZ (fun z=>z.1) e9) (bLZ (fun z=>z.2.1) e9) (bLZ (fun z=>z.2.2) e9) hN hg kk
theorem _root_.Go.Fs.Zar(e9:(all[ix]?,ev σ x,ev σ y)=(some ⟨some d,.binOp .gtr t x y t',ty,pos,aft,g⟩,some (.int k m),some (.int k n)))(kk:WL P X bad all K Q os ((d,.bool (decide (n<m)))::σ) μ Ds)(hN:Nat.blt d X.N=true:=by exact rfl)(hg:cZ all σ g:=by exact⟨_,rfl,rfl⟩):WL P X bad all K Q ((fl,ix)::os) σ μ Ds:=bEQ (bLZ (fun z=>z.1) e9) (bLZ (fun z=>z.2.1) e9) (bLZ (fun z=>z.2.2) e9) hN hg kk
theorem jT(ho:all[ix]?= some ⟨some d,.binOp .geq t x y t',ty,pos,aft,g⟩)(hx:ev σ x=some (.int k m))(hy:ev σ y=some (.int k n))(hN:Nat.blt d X.N=true)(hg:cZ all σ g)(kk:WL P X bad all K Q os ((d,.bool (decide (n≤m)))::σ) μ Ds):
  WL P X bad all K Q ((fl,ix)::os) σ μ Ds:=
 cA ho rfl rfl hN hg (fun ρ hρ w'=>mE Yf Yba (hρ x _ hx) (hρ y _ hy)) kk
theorem rH(ho:all[ix]?= some ⟨some d,.binOp .eql t x y t',ty,pos,aft,g⟩)(hx:ev σ x=some (.int k m))(hy:ev σ y=some (.int k n))(hN:Nat.blt d X.N=true)(hg:cZ all σ g)(kk:WL P X bad all K Q os ((d,.bool (decide (m=n)))::σ) μ Ds):
  WL P X bad all K Q ((fl,ix)::os) σ μ Ds:=
 cA ho rfl rfl hN hg (fun ρ hρ w'=>mE Yf Xcu (hρ x _ hx) (hρ y _ hy)) kk
theorem _root_.Go.Fs.Zap(e9:(all[ix]?,ev σ x,ev σ y)=(some ⟨some d,.binOp .eql t x y t',ty,pos,aft,g⟩,some (.int k m),some (.int k n)))(kk:WL P X bad all K Q os ((d,.bool (decide (m=n)))::σ) μ Ds)(hN:Nat.blt d X.N=true:=by exact rfl)(hg:cZ all σ g:=by exact bRD):WL P X bad all K Q ((fl,ix)::os) σ μ Ds:=rH (bLZ (fun z=>z.1) e9) (bLZ (fun z=>z.2.1) e9) (bLZ (fun z=>z.2.2) e9) hN hg kk
theorem IY(ho:all[ix]?= some ⟨some d,.binOp .neq t x y t',ty,pos,aft,g⟩)(hx:ev σ x=some (.int k m))(hy:ev σ y=some (.int k n))(hN:Nat.blt d X.N=true)(hg:cZ all σ g)(kk:WL P X bad all K Q os ((d,.bool (decide (m≠n)))::σ) μ Ds):
  WL P X bad all K Q ((fl,ix)::os) σ μ Ds:=
 cA ho rfl rfl hN hg (fun ρ hρ w'=>mE Yf Xcu (hρ x _ hx) (hρ y _ hy)) kk
theorem _root_.Go.Fs.Zaw(e9:(all[ix]?,ev σ x,ev σ y)=(some ⟨some d,.binOp .neq t x y t',ty,pos,aft,g⟩,some (.int k m),some (.int k n)))(kk:WL P X bad all K Q os ((d,.bool (decide (m≠n)))::σ) μ Ds)(hN:Nat.blt d X.N=true:=by exact rfl)(hg:cZ all σ g:=by exact bRD):WL P X bad all K Q ((fl,ix)::os) σ μ Ds:=IY (bLZ (fun z=>z.1) e9) (bLZ (fun z=>z.2.1) e9) (bLZ (fun z=>z.2.2) e9) hN hg kk
theorem yJ(ho:all[ix]?= some ⟨some d,.binOp .rem t x y t',ty,pos,aft,g⟩)(hx:ev σ x=some (.int k m))(hy:ev σ y=some (.int k n))(h0:0≤m)(h1:0<n)(hr:tQ k (m%n))(hN:Nat.blt d X.N=true)(hg:cZ all σ g)(kk:WL P X bad all K Q os ((d,.int k (m%n))::σ) μ Ds):
  WL P X bad all K Q ((fl,ix)::os) σ μ Ds:=
 cA ho rfl rfl hN hg (fun ρ hρ w'=>mE Yf (by
  have hn:¬n=0:=by omega
  have e:m.tmod n=m%n:=Int.tmod_eq_emod_of_nonneg h0;cases k<;>simp[binOp,Op.intDiv,hn,e,Pure.pure]) (hρ x _ hx) (hρ y _ hy)) kk
theorem KO(ho:all[ix]?= some ⟨some d,.binOp .quo t x y t',ty,pos,aft,g⟩)(hx:ev σ x=some (.int k m))(hy:ev σ y=some (.int k n))(h0:0≤m)(h1:0<n)(hr:tQ k (m / n))(hN:Nat.blt d X.N=true)(hg:cZ all σ g)(kk:WL P X bad all K Q os ((d,.int k (m / n))::σ) μ Ds):
  WL P X bad all K Q ((fl,ix)::os) σ μ Ds:=
 cA ho rfl rfl hN hg (fun ρ hρ w'=>mE Yf (by
  have hn:¬n=0:=by omega
  have e:m.tdiv n=m / n:=Int.tdiv_eq_ediv_of_nonneg h0;cases k<;>simp[binOp,Op.intDiv,hn,e,sF hr,Pure.pure]) (hρ x _ hx) (hρ y _ hy)) kk
end nums
theorem bDY{c:Operand}{a b:Code}{p:Prop}[Decidable p](hc:ev σ c=some (.bool (decide p)))(ht:p→WC P X Q a σ μ Ds)(hf:¬p→WC P X Q b σ μ Ds):WC P X Q (.cond c a b) σ μ Ds:=
 WX hc (fun e=>ht (bMN e)) fun e=>hf (bML e)
theorem _root_.Go.Fs.Zaf{c:Operand}{a:Code}{b:Code}{p:Prop}[Decidable p](hc:ev σ c=some (.bool (decide p)))(ht:p→WC P X Q a σ μ Ds)(hf:¬p→WC P X Q b σ μ Ds):WC P X Q (.cond c a b) σ μ Ds:=bDY hc ht hf

def TA(P:Program)(t:Θ)(b:Bool):Prop:=∀w,(isAgg t).run P w=.ok b w
def TS(P:Program)(t:Θ)(n:Nat):Prop:=∀w,(sizeOf t).run P w=.ok n w
def TU(P:Program)(t:Θ)(u:TypeDesc):Prop:=∀w,(underlying t).run P w=.ok u w
def TZ(P:Program)(t:Θ)(v:Γ):Prop:=∀w,(zeroValue t).run P w=.ok v w
theorem TU.of{t:Θ}{u:TypeDesc}(h:P.underlying t=some u):TU P t u:=fun w=>by simp[underlying,program,Sem.run,h,go_sem]
theorem TA.of{t:Θ}{u:TypeDesc}(h:P.underlying t=some u)(b:Bool)(hb:(match u with|.struct _=>true|.array _ _=>true|_=>false)=b):TA P t b:=fun w=>by
 have:=TU.of h w;unfold isAgg;rw[Ω,this];subst hb;cases u<;>rfl
theorem TS.of{t:Θ}{n:Nat}(h:(P.info? t).map (·.size)=some n):TS P t n:=fun w=>by
 cases hi:P.info? t with
 |none=>simp[hi]at h
 |some i=>simp[hi]at h;simp[sizeOf,typeInfo,program,Sem.run,hi,h,go_sem]
theorem TZ.of{t:Θ}{v:Γ}(h:(P.info? t).bind (·.zero)=some v):TZ P t v:=fun w=>by
 cases hi:P.info? t with
 |none=>simp[hi]at h
 |some i=>simp[hi]at h;simp[zeroValue,typeInfo,program,Sem.run,hi,h,go_sem]

theorem sK{w:Δ}{b off:Nat}{cs:Array Γ}{e:Θ}{fz:Nat×Nat}{v:Γ}(h:w.heap[b]?= some (.cells cs e fz))(hv:cs[off]?= some v):w.cell? ⟨b,off,none⟩=some v:=by
 simp[World.cell?,h,hv]
theorem QL{w:Δ}{a:Addr}{v:Γ}(h:w.cell? a=some v):(load a).run P w=.ok v w:=by
 simp[load,Sem.run,h]
theorem wF{w:Δ}{b off:Nat}:∀(n i:Nat) (acc:Array Γ) (vs:List Γ),vs.length=n→(∀j v,vs[j]?= some v→w.cell? ⟨b,off+(i+j),none⟩=some v)→
  (loadCellsFrom ⟨b,off,none⟩ i n acc).run P w=.ok (acc++vs.toArray) w:=by
 intro n;induction n with
 |zero=>intro i acc vs hl _;have:vs=[]:=bPD.1 hl;subst this;simp[loadCellsFrom,Pure.pure]
 |succ n ih=>
  intro i acc vs hl h;cases vs with
  |nil=>simp at hl
  |cons v vs=>
   have h0:=h 0 v rfl;have ha:(⟨b,off,none⟩:Addr).add i=⟨b,off+i,none⟩:=by
    unfold Addr.add;split
    ·rename_i h;subst h;rfl
    ·rfl
   simp only[loadCellsFrom];rw[Ω,ha,QL (by simpa using h0)];show(loadCellsFrom ⟨b,off,none⟩ (i+1) n (acc.push v)).run P w=_;rw[ih (i+1) (acc.push v) vs Yay (fun j u hu=>by
    have:=h (j+1) u (by simpa using hu);rw[show off+(i+(j+1))=off+(i+1+j) by omega]at this;exact this)]
   simp
def aRD(w:Δ)(b off:Nat)(vs:List Γ):Prop:=∀j v,vs[j]?= some v→w.cell? ⟨b,off+j,none⟩=some v
theorem mV{w:Δ}{t:Θ}{b off:Nat}{vs:List Γ}(ha:TA P t true)(hs:TS P t vs.length)(h:aRD w b off vs):(Instr.loadAt t (.pointer (some ⟨b,off,none⟩))).run P w=.ok (.agg vs.toArray) w:=by
 unfold Instr.loadAt Instr.sureAddr loadVar loadCells;simp only[Ω,ε,Result.andThen,ha w,hs w,bOC,pure_bind];rw[wF vs.length 0 #[] vs rfl (fun j v hv=>by rw[show off+(0+j)=off+j by omega];exact h j v hv)]
 simp
theorem vO{w:Δ}{t:Θ}{b off:Nat}{v:Γ}(ha:TA P t false)(h:w.cell? ⟨b,off,none⟩=some v):(Instr.loadAt t (.pointer (some ⟨b,off,none⟩))).run P w=.ok v w:=by
 unfold Instr.loadAt Instr.sureAddr loadVar;simp only[Ω,Result.andThen,ha w,pure_bind];exact QL h

theorem bO{w:Δ}{b:Nat}{o:Obj}(h:w.heap[b]?= some o):b<w.heap.size:=(bOW.1 h).1
theorem Hl.boxAt{a:Act}{w w':Δ}(h:Hl X σ μ Ds a w){b:Nat}{o:Obj}(hm:(b,o)∈μ)(hb:b∉bad)(hk:pV bad w w'):w'.heap[b]?= some o:=by
 obtain⟨_,_,_,D,hs,_⟩:=h;have:=(hs.box _ hm).1;rw[hk.2 b (bO this) hb];exact this
theorem fR.cell{D:aC}{w:Δ}(h:fR D w){b i:Nat}{v:Γ}(hv:(D b)[i]?= some v):w.cell? ⟨b,i,none⟩=some v:=by
 have hne:D b≠[]:=fun e=>by rw[e]at hv;simp at hv
 obtain⟨cs,e,fz,hc,hp⟩:=h.1 b hne;obtain⟨t,ht⟩:=hp;refine sK hc ?_;have hl:=(bLS.1 hv).1;have:cs.toList[i]?= some v:=by rw[←ht,bNX hl];exact hv
 simpa using this
theorem Hl.dataAt{a:Act}{w w':Δ}(h:Hl X σ μ Ds a w){D₁:aC}(hD:D₁∈Ds){b i:Nat}{v:Γ}(hv:(D₁ b)[i]?= some v)(hb:b∉bad)(hk:pV bad w w'):
  w'.cell? ⟨b,i,none⟩=some v:=by
 obtain⟨_,_,_,D,hs,hl,_⟩:=h;have hc:=hs.agr.cell ((hl D₁ hD).get hv);unfold World.cell? at hc ⊢
 cases hw:w.heap[b]? with
 |none=>simp[hw]at hc
 |some o=>rw[show(⟨b,i,none⟩:Addr).block=b from rfl,hk.2 b (bO hw) hb];exact hc
def At(D:aC)(b o:Nat)(cs:List Γ):Prop:=∀j v,cs[j]?= some v→(D b)[o+j]?= some v
theorem At.up{D D':aC}{b o:Nat}{cs:List Γ}(h:At D b o cs)(hl:Le D D'):At D' b o cs:=fun j v hv=>hl.get (h j v hv)
theorem Hl.liesD{a:Act}{w w':Δ}(h:Hl X σ μ Ds a w){D₁:aC}(hD:D₁∈Ds){b o:Nat}{cs:List Γ}(hA:At D₁ b o cs)(hb:b∉bad)(hk:pV bad w w'):aRD w' b o cs:=
 fun j v hv=>h.dataAt hD (hA j v hv) hb hk

theorem bD{t:Θ}{b off:Nat}{vs:List Γ}{e:Θ}{fz:Nat×Nat}(ho:all[ix]?= some ⟨some d,.load t x,ty,pos,aft,g⟩)(ha:TA P t false)(hx:ev σ x=some (.pointer (some ⟨b,off,none⟩)))(hm:(b,.cells vs.toArray e fz)∈μ)(hv:vs[off]?= some v)(hb:b∉bad)
  (hN:Nat.blt d X.N=true) (hg:cZ all σ g) (kk:WL P X bad all K Q os ((d,v)::σ) μ Ds):WL P X bad all K Q ((fl,ix)::os) σ μ Ds:=
 oZ ho rfl rfl hN hg (fun a w hh w' hk=>by
  simp only[execOp,hh.eval hx];rw[Ω,vO ha (sK (hh.boxAt hm hb hk) (by simpa using hv))];rfl) kk
theorem _root_.Go.Fs.Zo{t:Θ}{b:Nat}{off:Nat}{vs:List Γ}{e:Θ}{fz:Nat×Nat}(ho:all[ix]?= some ⟨some d,.load t x,ty,pos,aft,g⟩)(ha:TA P t false)(hx:ev σ x=some (.pointer (some ⟨b,off,none⟩)))(hm:(b,.cells vs.toArray e fz)∈μ)(hv:vs[off]?= some v)(kk:WL P X bad all K Q os ((d,v)::σ) μ Ds)(hb:b∉bad:=by exact n4)(hN:Nat.blt d X.N=true:=by exact rfl)(hg:cZ all σ g:=by exact bRD):WL P X bad all K Q ((fl,ix)::os) σ μ Ds:=bD ho ha hx hm hv hb hN hg kk
theorem _root_.Go.Fs.Zp{t:Θ}{b:Nat}{off:Nat}{vs:List Γ}{e:Θ}{fz:Nat×Nat}(ho:all[ix]?= some ⟨some d,.load t x,ty,pos,aft,g⟩)(ha:TA P t false)(hx:ev σ x=some (.pointer (some ⟨b,off,none⟩)))(hm:(b,.cells vs.toArray e fz)∈μ)(hv:vs[off]?= some v)(kk:WL P X bad all K Q os ((d,v)::σ) μ Ds)(hb:b∉bad:=by exact n4)(hN:Nat.blt d X.N=true:=by exact rfl)(hg:cZ all σ g:=by exact⟨_,rfl,rfl⟩):WL P X bad all K Q ((fl,ix)::os) σ μ Ds:=bD ho ha hx hm hv hb hN hg kk
theorem bI{t:Θ}{b:Nat}{vs:List Γ}{e:Θ}{fz:Nat×Nat}(ho:all[ix]?= some ⟨some d,.load t x,ty,pos,aft,g⟩)(ha:TA P t true)(hx:ev σ x=some (qP b))(hm:(b,.cells vs.toArray e fz)∈μ)(hs:TS P t vs.length)(hb:b∉bad)
  (hN:Nat.blt d X.N=true) (hg:cZ all σ g) (kk:WL P X bad all K Q os ((d,.agg vs.toArray)::σ) μ Ds):WL P X bad all K Q ((fl,ix)::os) σ μ Ds:=
 oZ ho rfl rfl hN hg (fun a w hh w' hk=>by
  simp only[execOp,hh.eval hx];rw[Ω,mV ha hs (fun j v hv=>sK (hh.boxAt hm hb hk) (by simpa using hv))];rfl) kk
theorem _root_.Go.Fs.Zac{t:Θ}{b:Nat}{vs:List Γ}{e:Θ}{fz:Nat×Nat}(ho:all[ix]?= some ⟨some d,.load t x,ty,pos,aft,g⟩)(ha:TA P t true)(hx:ev σ x=some (qP b))(hm:(b,.cells vs.toArray e fz)∈μ)(hs:TS P t vs.length)(kk:WL P X bad all K Q os ((d,.agg vs.toArray)::σ) μ Ds)(hb:b∉bad:=by exact n4)(hN:Nat.blt d X.N=true:=by exact rfl)(hg:cZ all σ g:=by exact bRD):WL P X bad all K Q ((fl,ix)::os) σ μ Ds:=bI ho ha hx hm hs hb hN hg kk
theorem dX{t:Θ}{b off n:Nat}{vs us:List Γ}{e:Θ}{fz:Nat×Nat}(ho:all[ix]?= some ⟨some d,.load t x,ty,pos,aft,g⟩)(ha:TA P t true)(hs:TS P t n)(hx:ev σ x=some (.pointer (some ⟨b,off,none⟩)))(hm:(b,.cells vs.toArray e fz)∈μ)
  (hu:(vs.drop off).take n=us) (hl:us.length=n) (hb:b∉bad)
  (hN:Nat.blt d X.N=true) (hg:cZ all σ g) (kk:WL P X bad all K Q os ((d,.agg us.toArray)::σ) μ Ds):WL P X bad all K Q ((fl,ix)::os) σ μ Ds:=
 oZ ho rfl rfl hN hg (fun a w hh w' hk=>by
  subst hl;simp only[execOp,hh.eval hx];rw[Ω,mV ha hs (fun j v hv=>sK (hh.boxAt hm hb hk) (by
   have hl:=(bLS.1 hv).1;rw[←hu,bOU hl,bOJ]at hv;simpa using hv))]
  rfl) kk
theorem dW{t:Θ}{D₁:aC}{b o k:Nat}{cs:List Γ}(ho:all[ix]?= some ⟨some d,.load t x,ty,pos,aft,g⟩)(ha:TA P t false)(hx:ev σ x=some (.pointer (some ⟨b,o+k,none⟩)))(hA:At D₁ b o cs)(hD:D₁∈Ds)(hv:cs[k]?= some v)(hb:b∉bad)
  (hN:Nat.blt d X.N=true) (hg:cZ all σ g) (kk:WL P X bad all K Q os ((d,v)::σ) μ Ds):WL P X bad all K Q ((fl,ix)::os) σ μ Ds:=
 oZ ho rfl rfl hN hg (fun a w hh w' hk=>by
  simp only[execOp,hh.eval hx];rw[Ω,vO ha (hh.liesD hD hA hb hk k v hv)];rfl) kk
theorem _root_.Go.Fs.Zh{t:Θ}{D₁:aC}{b:Nat}{o:Nat}(k:Nat){cs:List Γ}(ho:all[ix]?= some ⟨some d,.load t x,ty,pos,aft,g⟩)(ha:TA P t false)(hx:ev σ x=some (.pointer (some ⟨b,o+k,none⟩)))(hA:At D₁ b o cs)(hv:cs[k]?= some v)(kk:WL P X bad all K Q os ((d,v)::σ) μ Ds)(hD:D₁∈Ds:=by exact Yc)(hb:b∉bad:=by exact n4)(hN:Nat.blt d X.N=true:=by exact rfl)(hg:cZ all σ g:=by exact bRD):WL P X bad all K Q ((fl,ix)::os) σ μ Ds:=dW (k:=k) ho ha hx hA hD hv hb hN hg kk
theorem _root_.Go.Fs.Zi{t:Θ}{D₁:aC}{b:Nat}{o:Nat}(k:Nat){cs:List Γ}(ho:all[ix]?= some ⟨some d,.load t x,ty,pos,aft,g⟩)(ha:TA P t false)(hx:ev σ x=some (.pointer (some ⟨b,o+k,none⟩)))(hA:At D₁ b o cs)(hv:cs[k]?= some v)(kk:WL P X bad all K Q os ((d,v)::σ) μ Ds)(hD:D₁∈Ds:=by exact Yc)(hb:b∉bad:=by exact n4)(hN:Nat.blt d X.N=true:=by exact rfl)(hg:cZ all σ g:=by exact⟨_,rfl,rfl⟩):WL P X bad all K Q ((fl,ix)::os) σ μ Ds:=dW (k:=k) ho ha hx hA hD hv hb hN hg kk
theorem cU{t:Θ}{D₁:aC}{b o:Nat}{cs:List Γ}(ho:all[ix]?= some ⟨some d,.load t x,ty,pos,aft,g⟩)(ha:TA P t true)(hx:ev σ x=some (.pointer (some ⟨b,o,none⟩)))(hA:At D₁ b o cs)(hD:D₁∈Ds)(hs:TS P t cs.length)(hb:b∉bad)
  (hN:Nat.blt d X.N=true) (hg:cZ all σ g) (kk:WL P X bad all K Q os ((d,.agg cs.toArray)::σ) μ Ds):WL P X bad all K Q ((fl,ix)::os) σ μ Ds:=
 oZ ho rfl rfl hN hg (fun a w hh w' hk=>by
  simp only[execOp,hh.eval hx];rw[Ω,mV ha hs (hh.liesD hD hA hb hk)];rfl) kk
theorem _root_.Go.Fs.Zv{t:Θ}{D₁:aC}{b:Nat}{o:Nat}{cs:List Γ}(ho:all[ix]?= some ⟨some d,.load t x,ty,pos,aft,g⟩)(ha:TA P t true)(hx:ev σ x=some (.pointer (some ⟨b,o,none⟩)))(hA:At D₁ b o cs)(hs:TS P t cs.length)(kk:WL P X bad all K Q os ((d,.agg cs.toArray)::σ) μ Ds)(hD:D₁∈Ds:=by exact Yc)(hb:b∉bad:=by exact n4)(hN:Nat.blt d X.N=true:=by exact rfl)(hg:cZ all σ g:=by exact bRD):WL P X bad all K Q ((fl,ix)::os) σ μ Ds:=cU ho ha hx hA hD hs hb hN hg kk
theorem dY{t:Θ}{D₁:aC}{b o k n:Nat}{cs us:List Γ}(ho:all[ix]?= some ⟨some d,.load t x,ty,pos,aft,g⟩)(ha:TA P t true)(hs:TS P t n)(hx:ev σ x=some (.pointer (some ⟨b,o+k,none⟩)))(hA:At D₁ b o cs)(hD:D₁∈Ds)(hu:(cs.drop k).take n=us)(hl:us.length=n)(hb:b∉bad)
  (hN:Nat.blt d X.N=true) (hg:cZ all σ g) (kk:WL P X bad all K Q os ((d,.agg us.toArray)::σ) μ Ds):WL P X bad all K Q ((fl,ix)::os) σ μ Ds:=
 oZ ho rfl rfl hN hg (fun a w hh w' hk=>by
  subst hl;simp only[execOp,hh.eval hx];rw[Ω,mV ha hs (fun j v hv=>by
   have hl:=(bLS.1 hv).1;rw[←hu,bOU hl,bOJ]at hv;have:=hh.liesD hD hA hb hk (k+j) v hv;rw[←Nat.add_assoc]at this;exact this)]
  rfl) kk

def TF(P:Program)(t:Θ)(i k:Nat):Prop:=∀(a:Addr) w,(Instr.fieldAt t (.pointer (some a)) i).run P w=.ok (.pointer (some (a.add k))) w
theorem TF.of{t:Θ}{i k ft:Nat}{fs:Array Field}{n:Nat}(h:P.underlying t=some (.struct fs))(hk:(fs[i]?).map (fun f=>(f.offset,f.type))=some (k,ft))(hs:TS P ft n)(hn:Nat.beq n 0=false):TF P t i k:=fun a w=>by
 have hn':n≠0:=fun e=>by subst e;simp at hn
 cases hf:fs[i]? with
 |none=>simp[hf]at hk
 |some f=>
  simp only[hf,bNL,bPV,bPO]at hk;obtain⟨rfl,rfl⟩:=hk;unfold Instr.fieldAt fieldPlace Instr.sureAddr;simp only[Ω,TU.of h w,Ξ,hf,hs w,ε,bLX hn',pure_bind]
theorem gY(b o k:Nat):(⟨b,o,none⟩:Addr).add k=⟨b,o+k,none⟩:=by
 unfold Addr.add;split
 ·rename_i h;subst h;rfl
 ·rfl
theorem BS{t:Θ}{i k b o:Nat}(ho:all[ix]?= some ⟨some d,.fieldAddr t x i,ty,pos,aft,g⟩)(h:TF P t i k)(hx:ev σ x=some (.pointer (some ⟨b,o,none⟩)))
  (hN:Nat.blt d X.N=true) (hg:cZ all σ g) (kk:WL P X bad all K Q os ((d,.pointer (some ⟨b,o+k,none⟩))::σ) μ Ds):WL P X bad all K Q ((fl,ix)::os) σ μ Ds:=
 cA ho rfl rfl hN hg (fun ρ hρ w'=>by
  simp only[execOp,hρ x _ hx];rw[Ω,h,gY];rfl) kk
theorem _root_.Go.Fs.Zj{t:Θ}{i:Nat}{k:Nat}{b:Nat}{o:Nat}(ho:all[ix]?= some ⟨some d,.fieldAddr t x i,ty,pos,aft,g⟩)(h:TF P t i k)(hx:ev σ x=some (.pointer (some ⟨b,o,none⟩)))(kk:WL P X bad all K Q os ((d,.pointer (some ⟨b,o+k,none⟩))::σ) μ Ds)(hN:Nat.blt d X.N=true:=by exact rfl)(hg:cZ all σ g:=by exact bRD):WL P X bad all K Q ((fl,ix)::os) σ μ Ds:=BS ho h hx hN hg kk
theorem _root_.Go.Fs.Zk{t:Θ}{i:Nat}{k:Nat}{b:Nat}{o:Nat}(ho:all[ix]?= some ⟨some d,.fieldAddr t x i,ty,pos,aft,g⟩)(h:TF P t i k)(hx:ev σ x=some (.pointer (some ⟨b,o,none⟩)))(kk:WL P X bad all K Q os ((d,.pointer (some ⟨b,o+k,none⟩))::σ) μ Ds)(hN:Nat.blt d X.N=true:=by exact rfl)(hg:cZ all σ g:=by exact⟨_,rfl,rfl⟩):WL P X bad all K Q ((fl,ix)::os) σ μ Ds:=BS ho h hx hN hg kk
theorem vE{a:Addr}(ho:all[ix]?= some ⟨some d,.nilCheck x,ty,pos,aft,g⟩)(hx:ev σ x=some (.pointer (some a)))
  (hN:Nat.blt d X.N=true) (hg:cZ all σ g) (kk:WL P X bad all K Q os ((d,.pointer (some a))::σ) μ Ds):WL P X bad all K Q ((fl,ix)::os) σ μ Ds:=
 cA ho rfl rfl hN hg (fun ρ hρ w'=>by simp only[execOp,hρ x _ hx];rfl) kk
theorem _root_.Go.Fs.Zal{a:Addr}(e9:(all[ix]?,ev σ x)=(some ⟨some d,.nilCheck x,ty,pos,aft,g⟩,some (.pointer (some a))))(kk:WL P X bad all K Q os ((d,.pointer (some a))::σ) μ Ds)(hN:Nat.blt d X.N=true:=by exact rfl)(hg:cZ all σ g:=by exact bRD):WL P X bad all K Q ((fl,ix)::os) σ μ Ds:=vE (bLZ (fun z=>z.1) e9) (bLZ (fun z=>z.2) e9) hN hg kk
theorem eX{t e:Θ}{n sz b o:Nat}{k:IntKind}{i:Int}(ho:all[ix]?= some ⟨some d,.indexAddr t x y,ty,pos,aft,g⟩)(ht:P.underlying t=some (.array n e))(hs:TS P e sz)(hx:ev σ x=some (.pointer (some ⟨b,o,none⟩)))(hy:ev σ y=some (.int k i))(h0:0≤i)(h1:i<n)
  (hN:Nat.blt d X.N=true) (hg:cZ all σ g) (kk:WL P X bad all K Q os ((d,.pointer (some ⟨b,o+i.toNat*sz,none⟩))::σ) μ Ds):WL P X bad all K Q ((fl,ix)::os) σ μ Ds:=
 cA ho rfl rfl hN hg (fun ρ hρ w'=>by
  simp only[execOp,hρ x _ hx,hρ y _ hy];unfold Instr.indexAt asIntOf Instr.sureAddr;simp only[Ω,TU.of ht w',Ξ,hs w',ε,pure_bind,h0,h1,bQT,bOC,gY]) kk

abbrev Rd(α:Type):=aC→α→List Γ→Prop
def Rd.Up{α:Type}(R:Rd α):Prop:=∀{D D':aC},Le D D'→∀{x:α} {cs:List Γ},R D x cs→R D' x cs
def Sl{α:Type}(D:aC)(R:Rd α)(sz:Nat)(v:Γ)(xs:List α):Prop:=
 ∃a cap,v=.slice a xs.length cap∧xs.length≤cap∧xs.length≤9223372036854775807∧(xs=[]∨∃b o,a=some ⟨b,o,none⟩∧∀i x,xs[i]?= some x→∃cs,R D x cs∧cs.length=sz∧At D b (o+i*sz) cs)
theorem Sl.up{α:Type}{R:Rd α}(hR:R.Up){D D':aC}(hl:Le D D'){sz:Nat}{v:Γ}{xs:List α}(h:Sl D R sz v xs):Sl D' R sz v xs:=by
 obtain⟨a,cap,hv,h1,h2,h3⟩:=h;refine⟨a,cap,hv,h1,h2,h3.imp id ?_⟩;rintro⟨b,o,ha,he⟩;refine⟨b,o,ha,fun i x hx=>?_⟩;obtain⟨cs,hr,hc,hA⟩:=he i x hx;exact⟨cs,hR hl hr,hc,hA.up hl⟩
theorem Sl.cells1{α:Type}{R:Rd α}{D:aC}{sz:Nat}{v:Γ}{xs:List α}(h:Sl D R sz v xs):v.cells=[v].toArray:=by
 obtain⟨a,cap,rfl,_⟩:=h;rfl
theorem Sl.nil{α:Type}{R:Rd α}{D:aC}{sz:Nat}:Sl D R sz (qN) ([]:List α):=⟨none,0,rfl,bMH _,Yf,bMF rfl⟩
theorem Sl.len{α:Type}{R:Rd α}{D:aC}{sz:Nat}{v:Γ}{xs:List α}(h:Sl D R sz v xs):xs.length≤9223372036854775807:=by
 obtain⟨a,cap,hv,h1,h2,h3⟩:=h;exact h2
def RI:Rd Int:=fun _ n cs=>cs=[qI n]
theorem RI.up:RI.Up:=fun _ _ _ h=>h
def RL:Rd (List Int):=fun D l cs=>∃v,cs=[v]∧Sl D RI 1 v l
theorem RL.up:RL.Up:=fun hl _ _ ⟨v,hc,hs⟩=>⟨v,hc,hs.up RI.up hl⟩
theorem Sl.at{α:Type}{R:Rd α}(hR:R.Up){D D₁:aC}{Ds:List aC}(hD:∀D₁∈Ds,Le D₁ D){sz:Nat}{v:Γ}{xs:List α}(h:Sl D₁ R sz v xs)(hm:D₁∈Ds):Sl D R sz v xs:=h.up hR (hD _ hm)

theorem eN{α:Type}{R:Rd α}{D₁:aC}{sz:Nat}{t e tr:Θ}{xs:List α}{ats:Array Θ}(ho:all[ix]?= some ⟨some d,.call {callee:=.builtin .len,args:=#[x],argTypes:=ats},tr,pos,aft,g⟩)(ht:P.underlying t=some (.slice e))(hx:ev σ x=some v)(hS:Sl D₁ R sz v xs)(hat:ats[0]?= some t)
  (hN:Nat.blt d X.N=true) (hg:cZ all σ g) (kk:WL P X bad all K Q os ((d,qI (xs.length:Int))::σ) μ Ds):
  WL P X bad all K Q ((fl,ix)::os) σ μ Ds:=
 cA ho rfl rfl hN hg (fun ρ hρ w'=>by
  obtain⟨a,cap,rfl,_⟩:=hS;have hx':=hρ x _ hx;simp[Builtin.len_,hat,hx',TU.of ht w',goInt,go_sem]) kk
theorem _root_.Go.Fs.Zah{α:Type}{R:Rd α}{D₁:aC}{sz:Nat}{t:Θ}{e:Θ}{tr:Θ}{xs:List α}{ats:Array Θ}(ho:all[ix]?= some ⟨some d,.call {callee:=.builtin .len,args:=#[x],argTypes:=ats},tr,pos,aft,g⟩)(ht:P.underlying t=some (.slice e))(hx:ev σ x=some v)(hS:Sl D₁ R sz v xs)(hat:ats[0]?= some t)(kk:WL P X bad all K Q os ((d,qI (xs.length:Int))::σ) μ Ds)(hN:Nat.blt d X.N=true:=by exact rfl)(hg:cZ all σ g:=by exact bRD):WL P X bad all K Q ((fl,ix)::os) σ μ Ds:=eN ho ht hx hS hat hN hg kk
theorem eA{α:Type}{R:Rd α}{D₁:aC}{sz:Nat}{t e:Θ}{xs:List α}{k:IntKind}{i:Int}{el:α}(ho:all[ix]?= some ⟨some d,.indexAddr t x y,ty,pos,aft,g⟩)(ht:P.underlying t=some (.slice e))(hs:TS P e sz)(hx:ev σ x=some v)(hS:Sl D₁ R sz v xs)
  (hy:ev σ y=some (.int k i)) (h0:0≤i) (hi:xs[i.toNat]?= some el) (hN:Nat.blt d X.N=true) (hg:cZ all σ g)
  (kk:∀b o cs,R D₁ el cs→cs.length=sz→At D₁ b o cs→WL P X bad all K Q os ((d,.pointer (some ⟨b,o,none⟩))::σ) μ Ds):
  WL P X bad all K Q ((fl,ix)::os) σ μ Ds:=by
 obtain⟨a,cap,rfl,h1,h2,h3⟩:=hS;have hlt:i.toNat<xs.length:=(bLS.1 hi).1;rcases h3 with rfl|⟨b,o,rfl,h3⟩
 ·simp at hlt
 ·obtain⟨cs,hr,hc,hA⟩:=h3 _ _ hi;refine cA ho rfl rfl hN hg (fun ρ hρ w'=>?_) (kk b _ cs hr hc hA);have h1':i<(xs.length:Int):=by omega
  simp only[execOp,hρ x _ hx,hρ y _ hy];unfold Instr.indexAt asIntOf;simp only[Ω,TU.of ht w',Ξ,hs w',ε,pure_bind,h0,h1',bQT,bOC,gY]
section
variable{t e t2:Θ}{D₁:aC}{xs:List Int}{k:IntKind}{i el:Int}{ix2 d2:Nat}{x2:Operand}{ty2:Θ}{pos2:String}{aft2:Array Edge}{g2:Option (Nat×Bool)}{fl2:Bool}
theorem jA{γ:Type}[Membership Nat γ]{bad:γ}(e9:(all[ix]?,all[ix2]?,ev σ x)=(some ⟨some d,.indexAddr t x y,ty,pos,aft,g⟩,some ⟨some d2,.load t2 x2,ty2,pos2,aft2,g2⟩,some v))(hS:Sl D₁ RI 1 v xs)(hy:ev σ y=some (.int k i))(hi:xs[i.toNat]?= some el)
  (kk:∀b o,WL P X bad all K Q os ((d2,qI el)::(d,.pointer (some ⟨b,o,none⟩))::σ) μ Ds) (hb:∀b:Nat,b∉bad:=by exact fun _=>n4) (hx2:∀b o,ev ((d,.pointer (some ⟨b,o,none⟩))::σ) x2=some (.pointer (some ⟨b,o+0,none⟩)):=by exact fun _ _=>rfl) (h0:0≤i:=by omega) (ht:P.underlying t=some (.slice e):=by exact U35) (hs:TS P e 1:=by exact aI) (ha:TA P t2 false:=by exact aH) (hD:D₁∈Ds:=by first|simp|assumption)
  (hN:Nat.blt d X.N=true:=by exact rfl) (hg:cZ all σ g:=by exact bRD) (hN2:Nat.blt d2 X.N=true:=by exact rfl) (hg2:∀b o,cZ all ((d,.pointer (some ⟨b,o,none⟩))::σ) g2:=by exact fun _ _=>trivial):WL P X bad all K Q ((fl,ix)::(fl2,ix2)::os) σ μ Ds:=
 eA (bLZ (fun z=>z.1) e9) ht hs (bLZ (fun z=>z.2.2) e9) hS hy h0 hi hN hg fun b o cs hr hcl hA=>by
  obtain rfl:cs=[qI _]:=hr;exact dW (k:=0) (bLZ (fun z=>z.2.1) e9) ha (hx2 b o) hA hD rfl (hb b) hN2 (hg2 b o) (kk b o)
end
theorem _root_.Go.Fs.Zx{α:Type}{R:Rd α}{D₁:aC}{sz:Nat}{t:Θ}{e:Θ}{xs:List α}{k:IntKind}{i:Int}{el:α}(ho:all[ix]?= some ⟨some d,.indexAddr t x y,ty,pos,aft,g⟩)(ht:P.underlying t=some (.slice e))(hs:TS P e sz)(hx:ev σ x=some v)(hS:Sl D₁ R sz v xs)(hy:ev σ y=some (.int k i))(hi:xs[i.toNat]?= some el)(kk:∀b o cs,R D₁ el cs→cs.length=sz→At D₁ b o cs→WL P X bad all K Q os ((d,.pointer (some ⟨b,o,none⟩))::σ) μ Ds)(h0:0≤i:=by exact Yd)(hN:Nat.blt d X.N=true:=by exact rfl)(hg:cZ all σ g:=by exact bRD):WL P X bad all K Q ((fl,ix)::os) σ μ Ds:=eA ho ht hs hx hS hy h0 hi hN hg kk
theorem JG{vs:Array Γ}{i:Nat}(ho:all[ix]?= some ⟨some d,.extract x i,ty,pos,aft,g⟩)(hx:ev σ x=some (.tuple vs))(hi:vs.toList[i]?= some v)(hN:Nat.blt d X.N=true)(hg:cZ all σ g)(kk:WL P X bad all K Q os ((d,v)::σ) μ Ds):
  WL P X bad all K Q ((fl,ix)::os) σ μ Ds:=
 cA ho rfl rfl hN hg (fun ρ hρ w'=>by rw[Array.getElem?_toList]at hi;simp[execOp,hρ x _ hx,Instr.extract,hi,go_sem]) kk
theorem _root_.Go.Fs.Zao{vs:Array Γ}{i:Nat}(e9:(all[ix]?,ev σ x,vs.toList[i]?)=(some ⟨some d,.extract x i,ty,pos,aft,g⟩,some (.tuple vs),some v))(kk:WL P X bad all K Q os ((d,v)::σ) μ Ds)(hN:Nat.blt d X.N=true:=by exact rfl)(hg:cZ all σ g:=by exact bRD):WL P X bad all K Q ((fl,ix)::os) σ μ Ds:=JG (bLZ (fun z=>z.1) e9) (bLZ (fun z=>z.2.1) e9) (bLZ (fun z=>z.2.2) e9) hN hg kk
theorem nZ{k:IntKind}{m n:Int}{ats:Array Θ}(ho:all[ix]?= some ⟨some d,.call {callee:=.builtin .max,args:=#[x,y],argTypes:=ats},ty,pos,aft,g⟩)(hx:ev σ x=some (.int k m))(hy:ev σ y=some (.int k n))(hN:Nat.blt d X.N=true)(hg:cZ all σ g)(kk:WL P X bad all K Q os ((d,.int k (max m n))::σ) μ Ds):
  WL P X bad all K Q ((fl,ix)::os) σ μ Ds:=
 cA ho rfl rfl hN hg (fun ρ hρ w'=>by
  have hx':=hρ x _ hx;have hy':=hρ y _ hy;have e:(if n>m then n else m)=max m n:=by split<;>omega
  simp[Builtin.max_,Builtin.max2,hx',hy',go_sem,e]) kk
theorem y7{k:IntKind}{m n:Int}{ats:Array Θ}(ho:all[ix]?= some ⟨some d,.call {callee:=.builtin .min,args:=#[x,y],argTypes:=ats},ty,pos,aft,g⟩)(hx:ev σ x=some (.int k m))(hy:ev σ y=some (.int k n))(hN:Nat.blt d X.N=true)(hg:cZ all σ g)(kk:WL P X bad all K Q os ((d,.int k (min m n))::σ) μ Ds):
  WL P X bad all K Q ((fl,ix)::os) σ μ Ds:=
 cA ho rfl rfl hN hg (fun ρ hρ w'=>by
  have hx':=hρ x _ hx;have hy':=hρ y _ hy;have e:(if n<m then n else m)=min m n:=by split<;>omega
  simp[Builtin.min_,Builtin.min2,hx',hy',go_sem,e]) kk
theorem Hl.ds{Ds':List aC}{a:Act}{w:Δ}(h:Hl X σ μ Ds a w)(hD:∀D∈Ds',D∈Ds):Hl X σ μ Ds' a w:=by
 obtain⟨h1,h2,h3,D,h4,h5,I⟩:=h;exact⟨h1,h2,h3,D,h4,fun D₁ hD₁=>h5 D₁ (hD D₁ hD₁),I⟩

def EF(P:Program)(f:FuncId):Prop:=∀args w,(callFunc f args).run P w=.ok (.enter f args) w
theorem EF.of{f:FuncId}{fn:Func}{c:Code}(h:P.funcs[f]?= some fn)(hn:(fn.name== "runtime.NumGoroutine")=false)(hb:fn.body=some c):EF P f:=fun args w=>by
 have hn':¬fn.name= "runtime.NumGoroutine" :=by simpa using hn
 simp[callFunc,program,Sem.run,h,hn',hb,go_sem]
def Fn(P:Program)(f:FuncId)(args:Array Γ)(D:aC)(post:aC→Γ→Prop):Prop:=
 EF P f∧∀w,fR D w→Calls P f args w fun e w'=>∃v D',e=.returned v∧iX (hd w) w.heap.size D [] [] D' w'∧post D' v
theorem hU{D D':aC}{w w':Δ}{mods:List Nat}{μ:aD}(hw:fR D w)(hs:iX (hd w) w.heap.size D mods μ D' w'):Le D D':=by
 refine⟨fun b=>?_,hs.dold 0 hw.pos⟩;by_cases hb:b<w.heap.size
 ·rw[hs.dold b hb];exact List.prefix_refl _
 ·have:D b=[]:=by
   refine Decidable.byContradiction fun hne=>?_
   obtain⟨cs,e,fz,hc,_⟩:=hw.1 b hne;exact hb (bO hc)
  rw[this];exact bQU
theorem Fn.mono{f:FuncId}{args:Array Γ}{D:aC}{post post':aC→Γ→Prop}(h:Fn P f args D post)(hp:∀D' v,Le D D'→post D' v→post' D' v):Fn P f args D post':=by
 refine⟨h.1,fun w hw=>(h.2 w hw).mono ?_⟩;rintro e w' ⟨v,D',rfl,hs,hpost⟩;exact⟨v,D',rfl,hs,hp _ _ (hU hw hs) hpost⟩
theorem iX.after{h0:H0}{lo:Nat}{D0 D D':aC}{mods:List Nat}{μ:aD}{w w':Δ}(h:iX h0 lo D0 mods μ D w)(hs:iX (hd w) w.heap.size D [] [] D' w'):iX h0 lo D0 mods μ D' w':=by
 have hle:=bOB h.hlo h.size;refine⟨h.hlo,bOB h.size hs.size,fun b hb hm=>?_,fun b hb=>?_,hs.agr,fun p hp=>?_,h.nd,h.fz,fun e he=>(hs.env _ rfl).trans (h.env e he)⟩
 ·rw[hs.old b (bOI hb hle) Yf];exact h.old b hb hm
 ·rw[hs.dold b (bOI hb hle)];exact h.dold b hb
 ·obtain⟨h1,h2,h3⟩:=h.box p hp;have hl:=bO h1;exact⟨by rw[hs.old _ hl Yf];exact h1,Xaw,h3⟩
theorem iX.low{D D':aC}{μ:aD}{w w':Δ}(hs:iX (hd w) w.heap.size D [] μ D' w')(β:List Nat):aSN β D w D' w':=⟨hs.size,fun b hb _=>⟨hs.old b hb Yf,hs.dold b hb⟩,hs.env _ rfl⟩
theorem iX.keep{D D':aC}{μ:aD}{w w':Δ}(hs:iX (hd w) w.heap.size D [] μ D' w'){γb:Type}[Membership Nat γb](bad:γb):pV bad w w':=⟨hs.size,fun b hb _=>hs.old b hb Yf⟩
def x5(σ:bX):List Operand→Option (List Γ)
 | []=>some []
 |x::xs=>match ev σ x,x5 σ xs with
  |some v,some vs=>some (v::vs)
  |_,_=>none
theorem lO{ρ:Operand→Γ}(hρ:∀x u,ev σ x=some u→ρ x=u):∀{xs:List Operand} {vs:List Γ},x5 σ xs=some vs→xs.map ρ=vs
 | [],vs,h=>by simp[x5]at h;simp[h]
 |x::xs,vs,h=>by
  simp only[x5]at h;cases h1:ev σ x with
  |none=>simp[h1]at h
  |some I=>
   cases h2:x5 σ xs with
   |none=>simp[h1,h2]at h
   |some v2=>
    simp[h1,h2]at h;rw[←h,bMT,hρ x I h1,lO hρ h2]
theorem fJ{o:Oper}(ho:all[ix]?= some o)(hq:kX o.op=false)(hdf:pN o.op=false)(hg:cZ all σ o.guard)
  (h:∀a w,Hl X σ μ Ds a w→o.uponIn (FW X.r) 0 P a (fun a' w'=>(fl=true→pV bad w w')∧vG X.r bad P all K Q (iZ all os) a' w') Q ((execOp a.eval o).run P w)):WL P X bad all K Q ((fl,ix)::os) σ μ Ds:=by
 intro a w hh;rw[C5 ho];simp only[vG,hq,bNN,bOO];unfold W7;rw[bMG (hh.wanted hg)];refine⟨fun _ _=>trivial,?_⟩;rw[m4 hdf];exact h a w hh
theorem yH{w:Δ}{ρ:Operand→Γ}{c:Operand}{xs:Array Operand}{ats:Array Θ}{f:FuncId}{c1 c2:List Γ}{vs:List Γ}{dst:Option Nat}(hEF:EF P f)(hc:ρ c=.func (.func f) c1.toArray c2.toArray)(hvs:xs.toList.map ρ=vs):
  (execOp ρ ⟨dst,.call {callee:=.value c,args:=xs,argTypes:=ats},ty,pos,aft,g⟩).run P w=.ok (.enter f (c1++vs++c2).toArray) w:=by
 have e:xs.map ρ=vs.toArray:=by rw[←hvs,←bQQ]
 simp only[execOp,resolve,hc,Deferred.ofValue,pure_bind,invoke,e];rw[hEF];simp
theorem aTB{c:Operand}{xs:Array Operand}{ats:Array Θ}{f:FuncId}{c1 c2:List Γ}{vs:List Γ}{post:aC→Γ→Prop}(ho:all[ix]?= some ⟨some d,.call {callee:=.value c,args:=xs,argTypes:=ats},ty,pos,aft,g⟩)(hc:ev σ c=some (.func (.func f) c1.toArray c2.toArray))(hxs:x5 σ xs.toList=some vs)
  (hf:∀D,(∀D₁∈Ds,Le D₁ D)→Fn P f (c1++vs++c2).toArray D post) (hN:Nat.blt d X.N=true) (hg:cZ all σ g)
  (kk:∀v D,(∀D₁∈Ds,Le D₁ D)→post D v→WL P X bad all K Q os ((d,v)::σ) μ (D::Ds)):
  WL P X bad all K Q ((fl,ix)::os) σ μ Ds:=by
 refine fJ ho rfl rfl hg fun a w hh=>?_
 obtain⟨h1,h2,h3,D,h4,h5,h6⟩:=id hh;have hF:=hf D h5;rw[yH hF.1 (hh.eval hc) (lO (fun _ _ hx=>hh.eval hx) hxs)];refine⟨fun h=>Xac,dZ.2 ((hF.2 w h4.agr).mono ?_)⟩;rintro e w' ⟨v,D',rfl,hs,hpost⟩;have hle:=hU h4.agr hs;refine⟨fun _=>hs.keep bad,kk v D' (fun D₁ hD₁=>(h5 D₁ hD₁).trans hle) hpost _ _ ?_⟩;refine Hl.put ⟨h1,h2,h3,D',h4.after hs,fun D₁ hD₁=>?_,h6.step (fun _ p hp=>bMF (GE.2 ⟨p,hp,rfl⟩)) (fun _=>hs.low _) (h4.after hs).dom⟩ hN v;rcases bLO.1 hD₁ with rfl|hD₁
 ·exact Le.refl _
 ·exact(h5 D₁ hD₁).trans hle
theorem _root_.Go.Fs.Zaa{c:Operand}{xs:Array Operand}{ats:Array Θ}{f:FuncId}{c1:List Γ}{c2:List Γ}{vs:List Γ}{post:aC→Γ→Prop}(e9:(all[ix]?,ev σ c,x5 σ xs.toList)=(some ⟨some d,.call {callee:=.value c,args:=xs,argTypes:=ats},ty,pos,aft,g⟩,some (.func (.func f) c1.toArray c2.toArray),some vs))(hf:∀D,(∀D₁∈Ds,Le D₁ D)→Fn P f (c1++vs++c2).toArray D post)(kk:∀v D,(∀D₁∈Ds,Le D₁ D)→post D v→WL P X bad all K Q os ((d,v)::σ) μ (D::Ds))(hN:Nat.blt d X.N=true:=by exact rfl)(hg:cZ all σ g:=by exact bRD):WL P X bad all K Q ((fl,ix)::os) σ μ Ds:=aTB (bLZ (fun z=>z.1) e9) (bLZ (fun z=>z.2.1) e9) (bLZ (fun z=>z.2.2) e9) hf hN hg kk
theorem aEA{c:Operand}{xs:Array Operand}{ats:Array Θ}{f:FuncId}{c1 c2:List Γ}{vs:List Γ}{r:Γ}(ho:all[ix]?= some ⟨some d,.call {callee:=.value c,args:=xs,argTypes:=ats},ty,pos,aft,g⟩)(hc:ev σ c=some (.func (.func f) c1.toArray c2.toArray))(hxs:x5 σ xs.toList=some vs)
  (hf:∀D,(∀D₁∈Ds,Le D₁ D)→Fn P f (c1++vs++c2).toArray D fun _ v=>v=r) (hN:Nat.blt d X.N=true) (hg:cZ all σ g)
  (kk:WL P X bad all K Q os ((d,r)::σ) μ Ds):
  WL P X bad all K Q ((fl,ix)::os) σ μ Ds:=
 aTB ho hc hxs hf hN hg fun _ _ _ hv=>by
  subst hv;exact fun a w hh=>kk a w (hh.ds fun D hD=>LE _ hD)
theorem _root_.Go.Fs.Zd{c:Operand}{xs:Array Operand}{ats:Array Θ}{f:FuncId}{c1:List Γ}{c2:List Γ}{vs:List Γ}{r:Γ}(e9:(all[ix]?,ev σ c,x5 σ xs.toList)=(some ⟨some d,.call {callee:=.value c,args:=xs,argTypes:=ats},ty,pos,aft,g⟩,some (.func (.func f) c1.toArray c2.toArray),some vs))(hf:∀D,(∀D₁∈Ds,Le D₁ D)→Fn P f (c1++vs++c2).toArray D fun _ v=>v=r)(kk:WL P X bad all K Q os ((d,r)::σ) μ Ds)(hN:Nat.blt d X.N=true:=by exact rfl)(hg:cZ all σ g:=by exact bRD):WL P X bad all K Q ((fl,ix)::os) σ μ Ds:=aEA (bLZ (fun z=>z.1) e9) (bLZ (fun z=>z.2.1) e9) (bLZ (fun z=>z.2.2) e9) hf hN hg kk
theorem _root_.Go.Fs.Ze{c:Operand}{xs:Array Operand}{ats:Array Θ}{f:FuncId}{c1:List Γ}{c2:List Γ}{vs:List Γ}{r:Γ}(e9:(all[ix]?,ev σ c,x5 σ xs.toList)=(some ⟨some d,.call {callee:=.value c,args:=xs,argTypes:=ats},ty,pos,aft,g⟩,some (.func (.func f) c1.toArray c2.toArray),some vs))(hf:∀D,(∀D₁∈Ds,Le D₁ D)→Fn P f (c1++vs++c2).toArray D fun _ v=>v=r)(kk:WL P X bad all K Q os ((d,r)::σ) μ Ds)(hN:Nat.blt d X.N=true:=by exact rfl)(hg:cZ all σ g:=by exact⟨_,rfl,rfl⟩):WL P X bad all K Q ((fl,ix)::os) σ μ Ds:=aEA (bLZ (fun z=>z.1) e9) (bLZ (fun z=>z.2.1) e9) (bLZ (fun z=>z.2.2) e9) hf hN hg kk

theorem dP{w:Δ}{o:Obj}{b:Nat}(h:b<w.heap.size):(w.heap.push o)[b]?= w.heap[b]? :=by
 rw[Array.getElem?_push,bLX Yd]
theorem fR.push{D:aC}{w:Δ}(h:fR D w)(o:Obj):fR D {w with heap:=w.heap.push o}:=by
 refine h.of (fun b hb=>?_) rfl (dP h.pos);obtain⟨cs,e,fz,hc,hp⟩:=h.1 b hb;exact⟨cs,e,fz,by show(w.heap.push o)[b]?= _;rw[dP (bO hc)];exact hc,hp⟩
theorem fR.fresh{D:aC}{w:Δ}(h:fR D w){b:Nat}(hb:w.heap.size≤b):D b=[]:=
 Decidable.byContradiction fun hne=>by
  obtain⟨cs,e,fz,hc,_⟩:=h.1 b hne;have:=bO hc;omega
theorem iX.push{h0:H0}{lo:Nat}{D0 D:aC}{mods:List Nat}{μ:aD}{w:Δ}(h:iX h0 lo D0 mods μ D w)(o:Obj)(ho:dE o):iX h0 lo D0 mods ((w.heap.size,o)::μ) D {w with heap:=w.heap.push o}:=by
 have hle:=bOB h.hlo h.size;refine⟨h.hlo,by have:=h.size;simp;omega,fun b hb hm=>?_,h.dold,h.agr.push o,fun p hp=>?_,?_,(fun p hp=>by rcases bLO.1 hp with rfl|hp;exact ho;exact h.fz p hp),h.env⟩
 ·show(w.heap.push o)[b]?= _;rw[dP (bOI hb hle)];exact h.old b hb hm
 ·rcases bLO.1 hp with rfl|hp
  ·exact⟨Yf,h.agr.fresh (bMH _),bMF h.size⟩
  ·obtain⟨h1,h2,h3⟩:=h.box p hp;exact⟨by show(w.heap.push o)[p.1]?= _;rw[dP (bO h1)];exact h1,h2,h3⟩
 ·simp only[bMT,bNP];refine⟨fun hm=>?_,h.nd⟩;obtain⟨p,hp,he⟩:=GE.1 hm;have:=bO (h.box p hp).1;omega
theorem pU{γb:Type}[Membership Nat γb](bad:γb)(w:Δ)(o:Obj):pV bad w {w with heap:=w.heap.push o}:=⟨Yf,fun b hb _=>dP hb⟩
theorem L5(β:List Nat){D:aC}{w:Δ}(o:Obj):aSN β D w D {w with heap:=w.heap.push o}:=⟨Yf,fun b hb _=>⟨dP hb,rfl⟩,rfl⟩
theorem iX.pushD{h0:H0}{lo:Nat}{D0 D:aC}{mods:List Nat}{μ:aD}{w:Δ}(h:iX h0 lo D0 mods μ D w)(vs:List Γ)(e:Θ):
  ∃D',Le D D'∧D' w.heap.size=vs∧(∀b,b≠w.heap.size→D' b=D b)∧iX h0 lo D0 mods μ D' {w with heap:=w.heap.push (.cells vs.toArray e (0,0))}:=by
 have hf:=h.agr.fresh (bMH w.heap.size);refine⟨fun b=>if b=w.heap.size then vs else D b,⟨fun b=>?_,Xcv⟩,Yf,(fun b hb=>by simp[hb]),?_⟩
 ·by_cases hb:b=w.heap.size
  ·subst hb;rw[hf];exact bQU
  ·simp[hb]
 ·have hle:=bOB h.hlo h.size;refine⟨h.hlo,by have:=h.size;simp;omega,fun b hb hm=>?_,fun b hb=>?_,h.agr.of (fun b hb=>?_) Xcv (dP h.agr.pos),fun p hp=>?_,h.nd,h.fz,h.env⟩
  ·show(w.heap.push _)[b]?= _;rw[dP (bOI hb hle)];exact h.old b hb hm
  ·have hne:b≠w.heap.size:=by omega
   simp only[hne,bOO];exact h.dold b hb
  ·by_cases he:b=w.heap.size
   ·subst he;exact⟨vs.toArray,e,(0,0),Yf,Yf⟩
   ·simp only[he,bOO]at hb ⊢
    obtain⟨cs,e',fz,hc,hp⟩:=h.agr.1 b hb;exact⟨cs,e',fz,by show(w.heap.push _)[b]?= _;rw[dP (bO hc)];exact hc,hp⟩
  ·obtain⟨h1,h2,h3⟩:=h.box p hp;have hl:=bO h1;refine⟨by show(w.heap.push _)[p.1]?= _;rw[dP hl];exact h1,?_,h3⟩
   have hne:p.1≠w.heap.size:=by omega
   simp only[hne,bOO];exact h2
theorem jY{w:Δ}{e:Θ}{cs:Array Γ}:(newRow e cs).run P w=.ok ⟨w.heap.size,0,none⟩ {w with heap:=w.heap.push (.cells cs e (0,0))}:=rfl
theorem FS{e:Θ}{vs:List Γ}(ho:all[ix]?= some ⟨some d,.box e x,ty,pos,aft,g⟩)(hx:ev σ x=some v)(hv:v.cells=vs.toArray)(hN:Nat.blt d X.N=true)(hg:cZ all σ g)
  (kk:∀b,WL P X bad all K Q os ((d,qP b)::σ) ((b,.cells vs.toArray e (0,0))::μ) Ds):
  WL P X bad all K Q ((fl,ix)::os) σ μ Ds:=by
 refine fJ ho rfl rfl hg fun a w hh=>?_
 obtain⟨h1,h2,h3,D,h4,h5,I⟩:=id hh;have:(execOp a.eval ⟨some d,.box e x,ty,pos,aft,g⟩).run P w=.ok (.value (.pointer (some ⟨w.heap.size,0,none⟩))) {w with heap:=w.heap.push (.cells vs.toArray e (0,0))}:=by
  simp only[execOp,hh.eval hx,Instr.box,newVar,hv,Ω,jY,Ξ,ε]
 rw[this];exact⟨fun _=>pU _ _ _,kk _ _ _ (Hl.put ⟨h1,h2,h3,D,h4.push _ (show dE (.cells _ _ (0,0))from rfl),h5,I.step (fun _ p hp=>Xbi) (fun _=>L5 _ _) (h4.push _ (show dE (.cells _ _ (0,0))from rfl)).dom⟩ hN _)⟩
theorem bDQ{e:Θ}{vs:List Γ}{z0:Γ}(ho:all[ix]?= some ⟨some d,.alloc e,ty,pos,aft,g⟩)(hz:TZ P e z0)(hv:z0.cells=vs.toArray)(hN:Nat.blt d X.N=true)(hg:cZ all σ g)
  (kk:∀b,WL P X bad all K Q os ((d,qP b)::σ) ((b,.cells vs.toArray e (0,0))::μ) Ds):
  WL P X bad all K Q ((fl,ix)::os) σ μ Ds:=by
 refine fJ ho rfl rfl hg fun a w hh=>?_
 obtain⟨h1,h2,h3,D,h4,h5,h6⟩:=id hh;have:(execOp a.eval ⟨some d,.alloc e,ty,pos,aft,g⟩).run P w=.ok (.value (.pointer (some ⟨w.heap.size,0,none⟩))) {w with heap:=w.heap.push (.cells vs.toArray e (0,0))}:=by
  simp only[execOp,Instr.alloc,newVar,Ω,hz w,Ξ,hv,jY,ε]
 rw[this];exact⟨fun _=>pU _ _ _,kk _ _ _ (Hl.put ⟨h1,h2,h3,D,h4.push _ (show dE (.cells _ _ (0,0))from rfl),h5,h6.step (fun _ p hp=>Xbi) (fun _=>L5 _ _) (h4.push _ (show dE (.cells _ _ (0,0))from rfl)).dom⟩ hN _)⟩
theorem _root_.Go.Fs.Zad{e:Θ}{vs:List Γ}{z0:Γ}(ho:all[ix]?= some ⟨some d,.alloc e,ty,pos,aft,g⟩)(hz:TZ P e z0)(hv:z0.cells=vs.toArray)(kk:∀b,WL P X bad all K Q os ((d,qP b)::σ) ((b,.cells vs.toArray e (0,0))::μ) Ds)(hN:Nat.blt d X.N=true:=by exact rfl)(hg:cZ all σ g:=by exact bRD):WL P X bad all K Q ((fl,ix)::os) σ μ Ds:=bDQ ho hz hv hN hg kk

inductive bR:aD→Nat→Obj→Obj→aD→Prop
 |head {b o o' μ}:bR ((b,o)::μ) b o o' ((b,o')::μ)
 |tail {p b o o' μ μ'} (h:bR μ b o o' μ'):bR (p::μ) b o o' (p::μ')
 |app {ν b o o' μ μ'} (h:bR μ b o o' μ'):bR (ν++μ) b o o' (ν++μ')
theorem ζ:type_of% @bR.head:=@bR.head
theorem bR.mem{μ μ':aD}{b:Nat}{o o':Obj}(h:bR μ b o o' μ'):(b,o)∈μ:=by
 induction h with
 |head=>exact bLP
 |tail _ ih=>exact LE _ ih
 |app _ ih=>exact GT _ ih
theorem bR.keys{μ μ':aD}{b:Nat}{o o':Obj}(h:bR μ b o o' μ'):μ'.map (·.1)=μ.map (·.1):=by
 induction h with
 |head=>rfl
 |tail _ ih=>simp[ih]
 |app _ ih=>simp[ih]
theorem bR.other{μ μ':aD}{b:Nat}{o o':Obj}(h:bR μ b o o' μ'):∀p∈μ',p=(b,o')∨p∈μ:=by
 induction h with
 |head=>intro p hp;rcases bLO.1 hp with rfl|hp;exact Or.inl rfl;exact Or.inr (LE _ hp)
 |tail _ ih=>intro p hp;rcases bLO.1 hp with rfl|hp;exact Or.inr bLP;exact(ih p hp).imp id (LE _)
 |app _ ih=>intro p hp;rcases bMD.1 hp with hp|hp;exact Or.inr (bMA _ hp);exact(ih p hp).imp id (GT _)
theorem bR.apart{μ μ':aD}{b:Nat}{o o':Obj}(h:bR μ b o o' μ')(hn:(μ.map (·.1)).Nodup):∀p∈μ',p.1=b→p=(b,o'):=by
 induction h with
 | @head b o o' μ=>
  intro p hp he;rcases bLO.1 hp with rfl|hp
  ·rfl
  ·exfalso
   simp only[bMT,bNP]at hn;exact hn.1 (GE.2 ⟨p,hp,he⟩)
 | @tail q b o o' μ μ' h ih=>
  intro p hp he;simp only[bMT,bNP]at hn;rcases bLO.1 hp with rfl|hp
  ·exact absurd (GE.2 ⟨_,h.mem,he.symm⟩) hn.1
  ·exact ih hn.2 p hp he
 | @app ν b o o' μ μ' h ih=>
  intro p hp he;rw[bME,bMB]at hn;rcases bMD.1 hp with hp|hp
  ·exact absurd rfl (hn.2.2 p.1 (GE.2 ⟨p,hp,rfl⟩) b (GE.2 ⟨_,h.mem,rfl⟩)|>fun hne=>he▸hne)
  ·exact ih hn.2.1 p hp he
def bBL(w:Δ)(b:Nat)(o:Obj)(w':Δ):Prop:=w'.heap=w.heap.setIfInBounds b o∧QT w'=QT w
theorem iX.set{h0:H0}{lo:Nat}{D0 D:aC}{mods:List Nat}{μ μ':aD}{w w':Δ}{b:Nat}{o o':Obj}(h:iX h0 lo D0 mods μ D w)(hm:bR μ b o o' μ')(hwe:bBL w b o' w')(hu:dE o'):iX h0 lo D0 mods μ' D w':=by
 have hw:=hwe.1;have hb:=h.box _ hm.mem;have hlt:b<w.heap.size:=bO hb.1;have hsame:∀c,c≠b→w'.heap[c]?= w.heap[c]? :=fun c hc=>by rw[hw,bOR (Ne.symm hc)]
 refine⟨h.hlo,by rw[hw];simpa using h.size,fun c hc hmods=>?_,h.dold,h.agr.of (fun c hc=>?_) rfl (hsame 0 fun e=>h.agr.2.1 (e▸hb.2.1)),fun p hp=>?_,by rw[hm.keys];exact h.nd,fun p hp=>?_,fun e he=>hwe.2.trans (h.env e he)⟩
 ·rw[hsame c ?_]
  ·exact h.old c hc hmods
  ·rintro rfl;rcases hb.2.2 with h'|h'
   ·have:=h.hlo;simp at h';omega
   ·exact hmods h'
 ·have:c≠b:=by rintro rfl;exact hc hb.2.1
  obtain⟨cs,e,fz,h1,h2⟩:=h.agr.1 c hc;exact⟨cs,e,fz,by rw[hsame c this];exact h1,h2⟩
 ·by_cases he:p.1=b
  ·obtain rfl:=hm.apart h.nd p hp he;exact⟨by rw[hw];simp[hlt],hb.2.1,hb.2.2⟩
  ·rcases hm.other p hp with rfl|hp'
   ·exact absurd rfl he
   ·obtain⟨h1,h2,h3⟩:=h.box p hp';exact⟨by rw[hsame _ he];exact h1,h2,h3⟩
 ·by_cases he:p.1=b
  ·obtain rfl:=hm.apart h.nd p hp he;exact hu
  ·rcases hm.other p hp with rfl|hp'
   ·exact hu
   ·exact h.fz p hp'
def cell1:Γ→Bool
 |.agg _=>false
 |.tuple _=>false
 |_=>true
theorem MU{w:Δ}{b off:Nat}{cs:Array Γ}{e:Θ}{fz:Nat×Nat}{v:Γ}(h:w.heap[b]?= some (.cells cs e fz)):(w.setCell ⟨b,off,none⟩ v).heap=w.heap.setIfInBounds b (.cells (cs.setIfInBounds off v) e fz):=by
 simp only[World.setCell];apply Array.ext_getElem?;intro i;rw[Array.getElem?_modify,Array.getElem?_setIfInBounds];by_cases hi:b=i
 ·subst hi;simp[bO h,(bOW.1 h).2]
 ·simp[hi]
theorem kV:∀(us:List Γ) (i:Nat) (w:Δ) (b off:Nat) (vs:List Γ) (e:Θ),w.heap[b]?= some (.cells vs.toArray e (0,0))→off+i+us.length≤vs.length→(∀u∈us,cell1 u=true)→
  ∃w',(storeCells ⟨b,off,none⟩ us i).run P w=.ok () w'∧bBL w b (.cells (vs.take (off+i)++us++vs.drop (off+i+us.length)).toArray e (0,0)) w'
 | [],i,w,b,off,vs,e,h,hl,_=>by
  refine⟨w,rfl,?_,rfl⟩;simp only[bMM,bNU,bRC,bPB];apply Array.ext_getElem?;intro j;rw[Array.getElem?_setIfInBounds];split
  ·rename_i hj;subst hj;simp[bO h,(bOW.1 h).2]
  ·rfl
 |u::us,i,w,b,off,vs,e,h,hl,ho=>by
  have hu:=ho u bLP;simp only[bLU]at hl;have hcell:∃v,w.cell? ⟨b,off+i,none⟩=some v:=⟨vs[off+i],sK h (by simp[show off+i<vs.length by omega])⟩
  obtain⟨v0,hv0⟩:=hcell;have hfz:w.frozen? ⟨b,off+i,none⟩=false:=by simp[World.frozen?,h]
  have hs:(store ⟨b,off+i,none⟩ u).run P w=.ok () (w.setCell ⟨b,off+i,none⟩ u):=by
   cases u<;>first|(simp[cell1]at hu;done)|simp[store,Sem.run,hv0,hfz]
  have hh:=MU (v:=u) (off:=off+i) h;have h':(w.setCell ⟨b,off+i,none⟩ u).heap[b]?= some (.cells (vs.set (off+i) u).toArray e (0,0)):=by
   rw[hh];simp[bO h]
  obtain⟨w',hr,hw'⟩:=kV us (i+1) _ b off (vs.set (off+i) u) e h' Yap fun u hu=>ho u (LE _ hu);refine⟨w',?_,?_,hw'.2⟩
  ·simp only[storeCells,Ω,gY,hs,Ξ];exact hr
  ·rw[hw'.1,hh];apply Array.ext_getElem?;intro j;simp only[Array.getElem?_setIfInBounds,Array.size_setIfInBounds];split
   ·have hlt:off+i<vs.length:=by omega
    have h1:(vs.set (off+i) u).take (off+(i+1))=vs.take (off+i)++[u]:=by
     rw[show off+(i+1)=off+i+1 by omega,List.take_succ_eq_append_getElem (by simpa using hlt),List.take_set_of_le (bMH _)];simp
    have h2:(vs.set (off+i) u).drop (off+(i+1)+us.length)=vs.drop (off+i+(us.length+1)):=by
     rw[List.drop_set_of_lt Yd];congr 1;omega
    simp only[h1,h2,bLU,bMC,bPI]
   ·rfl
theorem N6{w:Δ}{t:Θ}{b off:Nat}{vs us:List Γ}{e:Θ}{v:Γ}(hs:TS P t us.length)(hv:v.cells=us.toArray)(h:w.heap[b]?= some (.cells vs.toArray e (0,0)))(hl:off+us.length≤vs.length)(ho:∀u∈us,cell1 u=true):
  ∃w',(Instr.storeAt t (.pointer (some ⟨b,off,none⟩)) v).run P w=.ok () w'∧bBL w b (.cells (vs.take off++us++vs.drop (off+us.length)).toArray e (0,0)) w':=by
 obtain⟨w',hr,hw⟩:=kV (P:=P) us 0 w b off vs e h Yay ho;refine⟨w',?_,by simpa using hw⟩;unfold Instr.storeAt Instr.sureAddr storeVar;simp only[pure_bind,Ω,hs w,Ξ,hv,bNA,ne_eq,not_true_eq_false,bOO];exact hr
theorem lJ{β:List Nat}{D:aC}{w w':Δ}{b:Nat}{o:Obj}(hw:bBL w b o w')(h:b∈β):aSN β D w D w':=
 ⟨by rw[hw.1];simp,fun c _ hn=>⟨by rw[hw.1,bOR (by rintro rfl;exact hn h)],rfl⟩,hw.2⟩
theorem cY{t:Θ}{b off:Nat}{vs us ws:List Γ}{e:Θ}{μ':aD}(ho:all[ix]?= some ⟨none,.store t x y,ty,pos,aft,g⟩)(hx:ev σ x=some (.pointer (some ⟨b,off,none⟩)))(hy:ev σ y=some v)(hv:v.cells=us.toArray)(hs:TS P t us.length)
  (hm:bR μ b (.cells vs.toArray e (0,0)) (.cells ws.toArray e (0,0)) μ') (hl:off+us.length≤vs.length) (hw:vs.take off++us++vs.drop (off+us.length)=ws) (hc1:∀u∈us,cell1 u=true) (hg:cZ all σ g)
  (kk:WL P X bad all K Q os σ μ' Ds):WL P X bad all K Q ((false,ix)::os) σ μ Ds:=by
 refine fJ ho rfl rfl hg fun a w hh=>?_
 obtain⟨h1,h2,h3,D,h4,h5,h6⟩:=id hh;obtain⟨w',hr,hw'⟩:=N6 (P:=P) hs hv (h4.box _ hm.mem).1 hl hc1;have:(execOp a.eval ⟨none,.store t x y,ty,pos,aft,g⟩).run P w=.ok .skip w':=by
  simp only[execOp,hh.eval hx,hh.eval hy,Ω,hr,Ξ,ε]
 rw[this];rw[hw]at hw';exact⟨fun h=>Xad,kk _ _ ⟨h1,h2,h3,D,h4.set hm hw' rfl,h5,h6.step (fun _ p hp=>bMF Yaz) (fun _=>lJ hw' (GE.2 ⟨_,hm.mem,rfl⟩)) (h4.set hm hw' rfl).dom⟩⟩
theorem _root_.Go.Fs.Zr{t:Θ}{b:Nat}{off:Nat}{vs:List Γ}{us:List Γ}{ws:List Γ}{e:Θ}{μ':aD}(e9:(all[ix]?,ev σ x,ev σ y,v.cells)=(some ⟨none,.store t x y,ty,pos,aft,g⟩,some (.pointer (some ⟨b,off,none⟩)),some v,us.toArray))(hs:TS P t us.length)(hm:bR μ b (.cells vs.toArray e (0,0)) (.cells ws.toArray e (0,0)) μ')(hw:vs.take off++us++vs.drop (off+us.length)=ws)(kk:WL P X bad all K Q os σ μ' Ds)(hl:off+us.length≤vs.length:=by exact Yf)(hc1:∀u∈us,cell1 u=true:=by exact Yk)(hg:cZ all σ g:=by exact bRD):WL P X bad all K Q ((false,ix)::os) σ μ Ds:=cY (bLZ (fun z=>z.1) e9) (bLZ (fun z=>z.2.1) e9) (bLZ (fun z=>z.2.2.1) e9) (bLZ (fun z=>z.2.2.2) e9) hs hm hl hw hc1 hg kk
theorem _root_.Go.Fs.Zs{t:Θ}{b:Nat}{off:Nat}{vs:List Γ}{us:List Γ}(ws:List Γ){e:Θ}{μ':aD}(e9:(all[ix]?,ev σ x,ev σ y)=(some ⟨none,.store t x y,ty,pos,aft,g⟩,some (.pointer (some ⟨b,off,none⟩)),some v))(hv:v.cells=us.toArray)(hs:TS P t us.length)(hm:bR μ b (.cells vs.toArray e (0,0)) (.cells ws.toArray e (0,0)) μ')(hw:vs.take off++us++vs.drop (off+us.length)=ws)(hc1:∀u∈us,cell1 u=true)(kk:WL P X bad all K Q os σ μ' Ds)(hl:off+us.length≤vs.length:=by exact Yf)(hg:cZ all σ g:=by exact bRD):WL P X bad all K Q ((false,ix)::os) σ μ Ds:=cY (ws:=ws) (bLZ (fun z=>z.1) e9) (bLZ (fun z=>z.2.1) e9) (bLZ (fun z=>z.2.2) e9) hv hs hm hl hw hc1 hg kk

def jJ:Nat→List Γ→bX
 |_,[]=>[]
 |i,v::vs=>(i,v)::jJ (i+1) vs
theorem gR:∀(vs:List Γ) (i s:Nat) (v:Γ),look (jJ i vs) s=some v→i≤s∧vs[s-i]?= some v
 | [],i,s,v,h=>by cases h
 |u::vs,i,s,v,h=>by
  simp only[jJ,look]at h;cases hb:Nat.beq i s with
  |true=>rw[hb]at h;cases h;obtain rfl:=bNO hb;simp
  |false=>
   rw[hb]at h;obtain⟨h1,h2⟩:=gR vs (i+1) s v h;refine⟨Yd,?_⟩;rw[show s-i=(s-(i+1))+1 by omega];simpa using h2
def rE(X:Cx)(post:aC→Γ→aD→Prop):Ending→Δ→Prop:=fun e w'=>∃v D' μ',e=.returned v∧iX X.h0 X.lo X.D0 X.mods μ' D' w'∧post D' v μ'
theorem fM{fn:Func}{post:aC→Γ→aD→Prop}:NP (bodyPost P fn (rE X post)):=by
 rintro c a w ⟨_,v,D',μ',h,_⟩;cases h
theorem enter{f:FuncId}{fn:Func}{c:Code}{args:List Γ}{D:aC}{post:aC→Γ→Prop}(N:Nat)(hf:P.funcs[f]?= some fn)(hn:(fn.name== "runtime.NumGoroutine")=false)(hb:fn.body=some c)(hN:fn.ntmps=N)(hsz:Nat.ble args.length N=true)
  (h:∀h0:H0,WC P ⟨none,N,[],h0,h0.size,D,[],none⟩ (bodyPost P fn (rE ⟨none,N,[],h0,h0.size,D,[],none⟩ fun D' v _=>post D' v)) c (jJ 0 args) [] [D]):Fn P f args.toArray D post:=by
 refine⟨EF.of hf hn hb,fun w hw=>?_⟩;subst hN;have hsz:=bNZ hsz;refine(dZ (r:=none) (n:=0)).1 ((callsIn_of_wp (R:=rE ⟨none,fn.ntmps,[],hd w,w.heap.size,D,[],none⟩ fun D' v _=>post D' v) hf hb bRD (h (hd w) _ w ⟨?_,fun s v hs=>?_,rfl,D,⟨bMH _,bMH _,fun _ _ _=>rfl,fun _ _=>rfl,hw,Yi,bNW,Yi,fun e he=>bMQ he⟩,fun D₁ h1=>?_,bRD⟩) rfl).mono ?_)
 ·simp;omega
 ·obtain⟨_,h2⟩:=gR args 0 s v hs;have hl:=(bLS.1 h2).1;simp only[bPU]at h2 hl;show(args.toArray++_)[s]?= some v;rw[bON Yay];simpa using h2
 ·simp only[bMI]at h1;subst h1;exact Le.refl _
 ·rintro e w' ⟨v,D',μ',rfl,hs,hp⟩;exact⟨v,D',rfl,hs.sub (by intro p hp;cases hp) bNW,hp⟩
theorem _root_.Go.Fs.Zw{f:FuncId}{fn:Func}{c:Code}{args:List Γ}{D:aC}{post:aC→Γ→Prop}(N:Nat)(hf:P.funcs[f]?= some fn)(e9:((fn.name== "runtime.NumGoroutine"),fn.body,fn.ntmps,Nat.ble args.length N)=(false,some c,N,true))(h:∀h0:H0,WC P ⟨none,N,[],h0,h0.size,D,[],none⟩ (bodyPost P fn (rE ⟨none,N,[],h0,h0.size,D,[],none⟩ fun D' v _=>post D' v)) c (jJ 0 args) [] [D]):Fn P f args.toArray D post:=enter N hf (bLZ (fun z=>z.1) e9) (bLZ (fun z=>z.2.1) e9) (bLZ (fun z=>z.2.2.1) e9) (bLZ (fun z=>z.2.2.2) e9) h
def G9(P:Program)(X:Cx)(σ:bX)(μ:aD):List ResultVar→List Γ→Prop
 | [],[]=>True
 |.tmp t::rs,v::vs=>look σ t=some v∧G9 P X σ μ rs vs
 |.cell a t::rs,v::vs=>(∃b us e,look σ a=some (qP b)∧(b,.cells us e (0,0))∈μ∧
   ((TA P t false∧us=#[v])∨(TA P t true∧TS P t us.size∧v=.agg us)))∧G9 P X σ μ rs vs
 |_,_=>False
def AJ(tmps:Array Γ)(r:ResultVar):Sem Γ:=
 match r with
 |.tmp t=>pure (tmps.getD t undef)
 |.cell a t=>do loadVar t (←asAddr (tmps.getD a undef))
theorem DQ{a:Act}{w:Δ}(hh:Hl X σ μ Ds a w):∀(rs:List ResultVar) (vs:List Γ),G9 P X σ μ rs vs→(rs.mapM (AJ a.tmps)).run P w=.ok vs w
 | [],[],_=>rfl
 | [],_::_,h=>h.elim
 |.tmp t::rs,[],h=>h.elim
 |.cell _ _::rs,[],h=>h.elim
 |.tmp t::rs,v::vs,h=>by
  have hv:=hh.2.1 _ _ h.1;have he:a.tmps.getD t undef=v:=by rw[bNS,hv];rfl
  have h1:(AJ a.tmps (.tmp t)).run P w=.ok v w:=by simp only[AJ,he,ε]
  rw[bPL,Ω,h1,Ξ,Ω,DQ hh rs vs h.2];rfl
 |.cell s t::rs,v::vs,h=>by
  obtain⟨⟨b,us,e,hs,hm,hc⟩,hr⟩:=h;have hv:=hh.2.1 _ _ hs;have he:a.tmps.getD s undef=qP b:=by rw[bNS,hv];rfl
  have hbox:=hh.boxAt (bad:=[]) hm Yf (pV.refl _ w);have hload:(loadVar t ⟨b,0,none⟩).run P w=.ok v w:=by
   rcases hc with⟨ha,hu⟩|⟨ha,hsz,hu⟩
   ·have:=vO (P:=P) (t:=t) (b:=b) (off:=0) (v:=v) ha (sK hbox (by rw[hu];rfl));simpa [Instr.loadAt,Instr.sureAddr]using this
   ·have:=mV (P:=P) (t:=t) (b:=b) (off:=0) (vs:=us.toList) ha (by simpa using hsz) (fun j u hj=>sK hbox (by simpa using hj));rw[hu];simpa [Instr.loadAt,Instr.sureAddr]using this
  have h1:(AJ a.tmps (.cell s t)).run P w=.ok v w:=by simp only[AJ,he,asAddr,pure_bind];exact hload
  rw[bPL,Ω,h1,Ξ,Ω,DQ hh rs vs hr];rfl
def rG:List Γ→Γ
 | [v]=>v
 |vs=>.tuple vs.toArray
theorem jE{fn:Func}{a:Act}{w:Δ}(hh:Hl X σ μ Ds a w){rs:List ResultVar}{vs:List Γ}(hr:fn.results=rs.toArray)(h:G9 P X σ μ rs vs):(results fn a.tmps).run P w=.ok (rG vs) w:=by
 have e:results fn a.tmps=(rs.toArray.mapM (AJ a.tmps) >>= fun vs=>Pure.pure (if h:vs.size=1 then vs[0]else .tuple vs)):=by rw[←hr];rfl
 rw[e,List.mapM_toArray,Ω,Sem.run_map,DQ hh rs vs h];simp only[Ξ,ε];match vs with
 | []=>rfl
 | [v]=>rfl
 |_::_::_=>rfl
theorem aVB{fn:Func}{post:aC→Γ→aD→Prop}{e:Exit}(he:(match e with|.normal=>true|.ret=>true|_=>false)=true){rs:List ResultVar}{vs:List Γ}(hds:X.ds=[])(hr:fn.results=rs.toArray)(h:G9 P X σ μ rs vs)
  (hp:∀D,(∀D₁∈Ds,Le D₁ D)→post D (rG vs) μ):∀a w,Hl X σ μ Ds a w→bodyPost P fn (rE X post) e a w:=by
 intro a w hh;have hrun:=jE hh hr h;obtain⟨h1,h2,h3,D,h4,h5,h6⟩:=hh;have:a.defers=[]∧∃v,(results fn a.tmps).run P w=.ok v w∧rE X post (.returned v) w:=⟨h3.trans hds,_,hrun,_,D,μ,rfl,h4,hp D h5⟩
 cases e<;>first|exact this|cases he
theorem aE{fn:Func}{post:aC→Γ→aD→Prop}{e:Exit}{t:Nat}{v:Γ}(e9:((match e with|.normal=>true|.ret=>true|_=>false),X.ds,fn.results,look σ t)=(true,[],#[.tmp t],some v))
 (hp:∀D,(∀D₁∈Ds,Le D₁ D)→post D (rG [v]) μ):∀a w,Hl X σ μ Ds a w→bodyPost P fn (rE X post) e a w:=aVB (rs:=[.tmp t]) (vs:=[v]) (bLZ (fun z=>z.1) e9) (bLZ (fun z=>z.2.1) e9) (bLZ (fun z=>z.2.2.1) e9) ⟨bLZ (fun z=>z.2.2.2) e9,bRD⟩ hp
theorem _root_.Go.Fs.Zq{fn:Func}{post:aC→Γ→aD→Prop}{e:Exit}{rs:List ResultVar}(vs:List Γ)(e9:((match e with|.normal=>true|.ret=>true|_=>false),X.ds,fn.results)=(true,[],rs.toArray))(h:G9 P X σ μ rs vs)(hp:∀D,(∀D₁∈Ds,Le D₁ D)→post D (rG vs) μ):∀a w,Hl X σ μ Ds a w→bodyPost P fn (rE X post) e a w:=aVB (vs:=vs) (bLZ (fun z=>z.1) e9) (bLZ (fun z=>z.2.1) e9) (bLZ (fun z=>z.2.2) e9) h hp
end Go.Fs
