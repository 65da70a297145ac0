/- Of BookReports. -/
import Derived.KernelRfl
import Derived.OrdersIn
import Derived.RangeFuncIn
import Derived.WalkKit
namespace Go
theorem C{α:Sort _}{a:α}:a=a:=rfl
variable{p:Prop}
abbrev Γ:=Value
abbrev Δ:=World
abbrev Θ:=TypeId
abbrev Λ:=ByteArray
theorem Ξ:type_of% @Result.andThen_ok:=@Result.andThen_ok
theorem Ω:type_of% @Sem.run_bind:=@Sem.run_bind
theorem ε:type_of% @Sem.run_pure:=@Sem.run_pure
theorem n4:type_of% @List.not_mem_nil:=@List.not_mem_nil
theorem n5:type_of% @List.mem_map:=@List.mem_map
theorem GE:type_of% @List.mem_of_getElem?:=@List.mem_of_getElem?
theorem GT:type_of% @List.mem_cons_of_mem:=@List.mem_cons_of_mem
theorem LE:type_of% @decide_eq_true_eq:=@decide_eq_true_eq
theorem LT:type_of% @List.mem_append_right:=@List.mem_append_right
theorem zj:type_of% @List.mem_cons_self:=@List.mem_cons_self
theorem zl:type_of% @Bool.and_eq_true:=@Bool.and_eq_true
theorem zm:type_of% @List.mem_cons:=@List.mem_cons
theorem yz:type_of% @List.getElem?_eq_getElem:=@List.getElem?_eq_getElem
theorem yx:type_of% @List.getElem?_eq_some_iff:=@List.getElem?_eq_some_iff
theorem zf:type_of% @List.length_append:=@List.length_append
theorem zg:type_of% @List.take_add_one:=@List.take_add_one
theorem yt:type_of% @decide_eq_false_iff_not:=@decide_eq_false_iff_not
theorem zh:type_of% @List.length_cons:=@List.length_cons
theorem zv:type_of% @if_neg:=@if_neg
theorem zt:type_of% @Or.inr:=@Or.inr
theorem yw:type_of% @List.mem_append_left:=@List.mem_append_left
theorem zn:type_of% @congrArg:=@congrArg
theorem za:type_of% @List.nodup_append:=@List.nodup_append
theorem yy:type_of% @List.append_assoc:=@List.append_assoc
theorem ze:type_of% @List.map_append:=@List.map_append
theorem zk:type_of% @Nat.le_refl:=@Nat.le_refl
theorem zo:type_of% @if_pos:=@if_pos
theorem zd:type_of% @List.mem_append:=@List.mem_append
theorem zq:type_of% @Or.inl:=@Or.inl
theorem zb:type_of% @List.Mem.tail:=@List.Mem.tail
theorem yu:type_of% @List.all_eq_true:=@List.all_eq_true
theorem yn:type_of% @of_decide_eq_true:=@of_decide_eq_true
theorem yf:type_of% @List.mem_singleton:=@List.mem_singleton
theorem yr:type_of% @List.append_nil:=@List.append_nil
theorem ym:type_of% @List.take_length:=@List.take_length
theorem yp:type_of% @List.foldl_cons:=@List.foldl_cons
theorem ye:type_of% @of_decide_eq_false:=@of_decide_eq_false
theorem yd:type_of% @Option.toList_some:=@Option.toList_some
theorem xc:type_of% @List.drop_eq_getElem_cons:=@List.drop_eq_getElem_cons
theorem yi:type_of% @Option.some.inj:=@Option.some.inj
theorem yh:type_of% @List.length_map:=@List.length_map
theorem xy:type_of% @List.flatMap_cons:=@List.flatMap_cons
theorem yg:type_of% @Bool.or_eq_true:=@Bool.or_eq_true
theorem yl:type_of% @List.map_cons:=@List.map_cons
theorem xu:type_of% @List.filter_append:=@List.filter_append
theorem wd:type_of% @List.size_toArray:=@List.size_toArray
theorem yj:type_of% @List.mem_range:=@List.mem_range
theorem xm:type_of% @List.length_filter_le:=@List.length_filter_le
theorem On:type_of% @List.Sublist.cons:=@List.Sublist.cons
theorem yb:type_of% @List.range_succ:=@List.range_succ
theorem xn:type_of% @Bool.or_eq_false_iff:=@Bool.or_eq_false_iff
theorem ya:type_of% @List.nil_append:=@List.nil_append
theorem ww:type_of% @List.take_of_length_le:=@List.take_of_length_le
theorem xt:type_of% @List.getElem?_map:=@List.getElem?_map
theorem xr:type_of% @Int.toNat_natCast:=@Int.toNat_natCast
theorem xl:type_of% @List.flatMap_append:=@List.flatMap_append
theorem wi:type_of% @List.getD_eq_getElem?_getD:=@List.getD_eq_getElem?_getD
theorem xk:type_of% @List.foldl_append:=@List.foldl_append
theorem wl:type_of% @List.drop_eq_nil_of_le:=@List.drop_eq_nil_of_le
theorem wu:type_of% @Nat.pow_le_pow_right:=@Nat.pow_le_pow_right
theorem xo:type_of% @Option.map_some:=@Option.map_some
theorem vg:type_of% @List.take_append_of_le_length:=@List.take_append_of_le_length
theorem wt:type_of% @Bool.false_eq_true:=@Bool.false_eq_true
theorem wa:type_of% @Nat.eq_of_beq_eq_true:=@Nat.eq_of_beq_eq_true
theorem xg:type_of% @List.nodup_cons:=@List.nodup_cons
theorem xf:type_of% @List.mem_filter:=@List.mem_filter
theorem wq:type_of% @List.length_take:=@List.length_take
theorem uq:type_of% @Array.getD_eq_getD_getElem?:=@Array.getD_eq_getD_getElem?
theorem yk:type_of% @or_false:=@or_false
theorem wp:type_of% @List.length_nil:=@List.length_nil
theorem wz:type_of% @List.nodup_nil:=@List.nodup_nil
theorem wj:type_of% @List.filter_cons:=@List.filter_cons
theorem xp:type_of% @Nat.mul_one:=@Nat.mul_one
theorem uo:type_of% @List.getElem?_append_left:=@List.getElem?_append_left
theorem xj:type_of% @Nat.le_trans:=@Nat.le_trans
theorem vf:type_of% @Nat.le_of_ble_eq_true:=@Nat.le_of_ble_eq_true
theorem ve:type_of% @List.length_singleton:=@List.length_singleton
theorem vz:type_of% @List.length_range:=@List.length_range
theorem we:type_of% @List.cons_append:=@List.cons_append
theorem sc:type_of% @List.eq_nil_of_length_eq_zero:=@List.eq_nil_of_length_eq_zero
theorem yo:type_of% @if_true:=@if_true
theorem um:type_of% @List.flatMap_singleton:=@List.flatMap_singleton
theorem vt:type_of% @Bool.not_eq_true':=@Bool.not_eq_true'
theorem vy:type_of% @Option.map_none:=@Option.map_none
theorem vx:type_of% @List.cons.injEq:=@List.cons.injEq
theorem vc:type_of% @Nat.lt_of_lt_of_le:=@Nat.lt_of_lt_of_le
theorem vb:type_of% @List.getElem?_drop:=@List.getElem?_drop
theorem xb:type_of% @Nat.add_mul:=@Nat.add_mul
theorem vr:type_of% @List.mem_flatMap:=@List.mem_flatMap
theorem vq:type_of% @List.length_drop:=@List.length_drop
theorem wo:type_of% @Nat.zero_add:=@Nat.zero_add
theorem sb:type_of% @Array.getElem?_append_left:=@Array.getElem?_append_left
theorem xx:type_of% @if_false:=@if_false
theorem vv:type_of% @Bool.eq_iff_iff:=@Bool.eq_iff_iff
theorem tq:type_of% @List.getElem?_eq_none:=@List.getElem?_eq_none
theorem qp:type_of% @Array.getElem?_setIfInBounds_ne:=@Array.getElem?_setIfInBounds_ne
theorem ul:type_of% @List.length_take_le:=@List.length_take_le
theorem sa:type_of% @List.getElem?_take_of_lt:=@List.getElem?_take_of_lt
theorem rk:type_of% @List.getElem?_append_right:=@List.getElem?_append_right
theorem rj:type_of% @Array.getElem?_eq_some_iff:=@Array.getElem?_eq_some_iff
theorem va:type_of% @Option.getD_some:=@Option.getD_some
theorem sq:type_of% @List.take_append_drop:=@List.take_append_drop
theorem s_:type_of% @Option.map_eq_some_iff:=@Option.map_eq_some_iff
theorem so:type_of% @Nat.mul_le_mul_right:=@Nat.mul_le_mul_right
theorem uk:type_of% @Option.some.injEq:=@Option.some.injEq
theorem tn:type_of% @List.map_singleton:=@List.map_singleton
theorem sn:type_of% @List.length_pos_iff:=@List.length_pos_iff
theorem ri:type_of% @List.length_eq_zero_iff:=@List.length_eq_zero_iff
theorem ph:type_of% @List.getLast?_eq_some_getLast:=@List.getLast?_eq_some_getLast
theorem uj:type_of% @Nat.min_eq_left:=@Nat.min_eq_left
theorem rh:type_of% @List.singleton_append:=@List.singleton_append
theorem ui:type_of% @List.any_append:=@List.any_append
theorem uy:type_of% @List.mapM_cons:=@List.mapM_cons
theorem v_:type_of% @Bool.true_and:=@Bool.true_and
theorem s3:type_of% @List.zip_cons_cons:=@List.zip_cons_cons
theorem ry:type_of% @Bool.not_eq_false':=@Bool.not_eq_false'
theorem sk:type_of% @List.drop_zero:=@List.drop_zero
theorem ux:type_of% @Prod.mk.injEq:=@Prod.mk.injEq
theorem rg:type_of% @Nat.testBit_two_pow:=@Nat.testBit_two_pow
theorem rf:type_of% @List.getElem?_range:=@List.getElem?_range
theorem qo:type_of% @List.mem_iff_getElem?:=@List.mem_iff_getElem?
theorem tm:type_of% @Nat.testBit_or:=@Nat.testBit_or
theorem sj:type_of% @List.length_set:=@List.length_set
theorem uh:type_of% @List.all_cons:=@List.all_cons
theorem re:type_of% @Int.natCast_nonneg:=@Int.natCast_nonneg
theorem uw:type_of% @Nat.sub_zero:=@Nat.sub_zero
theorem rx:type_of% @List.any_eq_true:=@List.any_eq_true
theorem qn:type_of% @List.map_congr_left:=@List.map_congr_left
theorem ne:type_of% @Array.getElem?_eq_getElem:=@Array.getElem?_eq_getElem
theorem ug:type_of% @Nat.zero_mul:=@Nat.zero_mul
theorem pg:type_of% @Nat.not_lt_zero:=@Nat.not_lt_zero
theorem uf:type_of% @List.map_map:=@List.map_map
theorem li:type_of% @List.eq_nil_iff_forall_not_mem:=@List.eq_nil_iff_forall_not_mem
theorem pf:type_of% @Bool.and_eq_false_iff:=@Bool.and_eq_false_iff
theorem rd:type_of% @List.drop_append:=@List.drop_append
theorem pd:type_of% @List.mem_of_mem_take:=@List.mem_of_mem_take
theorem tl:type_of% @Nat.add_zero:=@Nat.add_zero
theorem tj:type_of% @List.map_nil:=@List.map_nil
theorem ql:type_of% @List.all_eq_false:=@List.all_eq_false
theorem qk:type_of% @Classical.not_not:=@Classical.not_not
theorem lh:type_of% @List.drop_length_add_append:=@List.drop_length_add_append
theorem nc:type_of% @Nat.testBit_shiftRight:=@Nat.testBit_shiftRight
theorem qj:type_of% @Nat.zero_testBit:=@Nat.zero_testBit
theorem na:type_of% @ByteArray.size_append:=@ByteArray.size_append
theorem rc:type_of% @Nat.mul_le_mul:=@Nat.mul_le_mul
theorem n_:type_of% @Nat.eq_of_testBit_eq:=@Nat.eq_of_testBit_eq
theorem n3:type_of% @List.contains_eq_mem:=@List.contains_eq_mem
theorem p_:type_of% @not_false_eq_true:=@not_false_eq_true
theorem rb:type_of% @List.Mem.head:=@List.Mem.head
theorem lg:type_of% @Int.eq_ofNat_of_zero_le:=@Int.eq_ofNat_of_zero_le
theorem oz:type_of% @decide_eq_decide:=@decide_eq_decide
theorem oy:type_of% @List.drop_length:=@List.drop_length
theorem ow:type_of% @Int.min_eq_right:=@Int.min_eq_right
theorem ou:type_of% @Array.toList_map:=@Array.toList_map
theorem th:type_of% @beq_iff_eq:=@beq_iff_eq
theorem qi:type_of% @List.take_left:=@List.take_left
theorem vl:type_of% @and_self:=@and_self
theorem oq:type_of% @List.nil_prefix:=@List.nil_prefix
theorem n2:type_of% @List.Sublist.refl:=@List.Sublist.refl
theorem wn:type_of% @not_or:=@not_or
theorem jr:type_of% @List.length_eraseIdx_of_lt:=@List.length_eraseIdx_of_lt
theorem oo:type_of% @decide_eq_true:=@decide_eq_true
theorem jq:type_of% @List.mem_of_find?_eq_some:=@List.mem_of_find?_eq_some
theorem jp:type_of% @List.getElem?_zip_eq_some:=@List.getElem?_zip_eq_some
theorem om:type_of% @Int.mul_nonneg:=@Int.mul_nonneg
theorem ra:type_of% @Nat.zero_le:=@Nat.zero_le
theorem qh:type_of% @Int.le_total:=@Int.le_total
theorem zy:type_of% @trivial:=@trivial
theorem zu{α:Type}{a:α}{l:List α}:a∈a::l:=rb _
theorem zi{α:Type}{a b:α}{l:List α}:a∈b::a::l:=zb _ (rb _)
theorem xq{α:Type}{a b c:α}{l:List α}:a∈b::c::a::l:=zb _ (zb _ (rb _))
theorem ue{α:Type}{a b c d:α}{l:List α}:a∈b::c::d::a::l:=zb _ (zb _ (zb _ (rb _)))
theorem zp{α:Type}{l:List α}:l.Sublist l:=n2 _
theorem Ya(h:p:=by first|rfl|(show some (Value.int _ _)=some (Value.int _ _);congr 2;omega)):p:=h
theorem Yb(h:p:=by first|rfl|(simp only[aL, *];done)|(simp only[aL, *];rfl)|(simp only[aL, *];omega)):p:=h
theorem Yc(h:p:=by first|simp|assumption):p:=h
theorem Yd(h:p:=by omega):p:=h
theorem Ye(h:p:=by simp only[vE];omega):p:=h
theorem Yf(h:p:=by simp):p:=h
theorem Yg(h:p:=by kernel_rfl):p:=h
theorem Yh(h:p:=by first|exact dZ _|simp[cell1]):p:=h
theorem Yi(h:p:=by exact λp hp=>by cases hp):p:=h
theorem Yj(h:p:=by exact pQ λ_=>by simp only[List.count_append,List.count_cons,List.count_nil,dY];omega):p:=h
theorem Yk(h:p:=by first|omega|(simp only[na];omega)):p:=h
theorem Yl(h:p:=by simp only;omega):p:=h
theorem Ym(h:p:=by simp[cell1]):p:=h
theorem Yn(h:p:=by assumption):p:=h
theorem Yo(h:p:=by first|assumption|simp):p:=h
theorem Yp(h:p:=by exact λD0 h=>by simp only[zm,n4,yk]at h;rcases h with h|h|h;exact⟨Dn,by simp,h▸Le.refl _⟩;exact⟨E1,by simp,h▸Le.refl _⟩;exact⟨D,by simp,h▸Le.refl _⟩):p:=h
theorem Yq(h:p:=by first|exact Or.inl rfl|exact Or.inr λp hp=>dI.in_ (hnu p hp)):p:=h
theorem Yr(h:p:=by exact λD0 h=>by simp only[zm,n4,yk]at h;rcases h with rfl|rfl|rfl|rfl<;>exact⟨_,by simp,Le.refl _⟩):p:=h
theorem Ys(h:p:=by first|exact Or.inl rfl|exact Or.inr λp hp=>dI.in_ (hnu p (by simp[hp]))):p:=h
theorem Yt(h:p:=by first|omega|(simp only[na,uB,R7,wd,zh,wp];omega)):p:=h
theorem Yu(h:p:=by decide):p:=h
theorem Yw(h:p:=by rw[←hHas.keys];exact n5.2 ⟨p,hp,rfl⟩):p:=h
theorem Yx(h:p:=by exact pQ λ_=>by simp only[List.count_append,List.count_cons,List.count_nil,dY,iR];omega):p:=h
theorem Yy(h:p:=by exact λD0 h=>by simp only[zm,n4,yk]at h;rcases h with h|h|h|h;exact⟨Dn,by simp,h▸Le.refl _⟩;exact⟨Do,by simp,h▸Le.refl _⟩;exact⟨E1,by simp,h▸Le.refl _⟩;exact⟨D,by simp,h▸Le.refl _⟩):p:=h
theorem Yz(h:p:=by exact pQ λ_=>by simp only[List.count_append,List.count_cons,List.count_nil,dY,nC];omega):p:=h
theorem ik(h:p:=by exact λD0 h=>by simp only[zm,n4,yk]at h;rcases h with h|h;exact⟨D10,by simp,h▸Le.refl _⟩;exact⟨D,by simp,h▸Le.refl _⟩):p:=h
theorem mc(h:p:=by rw[yf];rintro rfl;exact hap (n5.2 ⟨_,zb _ zu,rfl⟩)):p:=h
theorem rq(h:p:=by first|omega|(simp only[sj];omega)):p:=h
theorem pw(h:p:=by first|exact pX|(simp only[aL, *];exact pX)):p:=h
theorem pu(h:p:=by first|exact kC|(simp only[aL, *];exact kC)):p:=h
theorem pr(h:p:=by first|exact eN|(simp only[aL, *];exact eN)):p:=h
theorem kj(h:p:=by rw[zf,hl1,←xb];exact xj (so _ Yd) (Nat.le_add_right _ _)):p:=h
theorem ew(h:p:=by exact λD0 h=>by simp only[zm,n4,yk]at h;rcases h with h|h|h;exact⟨D,by simp,h▸Le.refl _⟩;exact⟨E1,by simp,h▸Le.refl _⟩;exact⟨D,by simp,h▸Le.refl _⟩):p:=h
theorem ki(h:p:=by exact pQ λ_=>by simp only[List.count_append,List.count_cons,List.count_nil,dY,lK];omega):p:=h
theorem kg(h:p:=by exact pQ λ_=>by simp only[List.count_append,List.count_cons,List.count_nil,dY,pW];omega):p:=h
theorem tz(h:p:=by first|omega|(simp only;omega)):p:=h
theorem eu(h:p:=by first|exact O5 h4 h5|(rw[List.getElem?_set_ne Yd,List.getElem?_set_ne Yd];exact O5 h4 h5)|(rw[List.getElem?_set_ne Yd,List.getElem?_set_ne Yd,List.getElem?_set_ne Yd];exact O5 h4 h5)):p:=h
theorem Xx(h:p:=by rwa [ww Yd]at h2):p:=h
theorem ij(h:p:=by exact λD0 h=>by simp only[zm,n4,yk]at h;rcases h with rfl|rfl<;>exact⟨_,by simp,Le.refl _⟩):p:=h
theorem tf(h:p:=by unfold qF;simp only[];repeat (first|rw[zo Yd]|rw[zv Yd])):p:=h
theorem td(h:p:=by unfold qK;simp only[];repeat (first|rw[zo Yd]|rw[zv Yd])):p:=h
theorem ii(h:p:=by first|rfl|(simp only[*];done)|(simp only[aL, *];rfl)|(simp only[aL, *];omega)):p:=h
theorem xw(h:p:=by simp;omega):p:=h
theorem ie(h:p:=by rw[yf];rintro rfl;exact hap (n5.2 ⟨p,yw _ hp,rfl⟩)):p:=h
theorem pq(h:p:=by first|exact Or.inl rfl|exact Or.inr Yi):p:=h
theorem wm(h:p:=by simpa using hc2):p:=h
theorem wy(h:p:=by simpa using hi):p:=h
theorem xd(h:p:=by simpa using h):p:=h
theorem Xw(h:p:=by exact λD0 h=>by simp only[zm,n4,yk]at h;rcases h with h|h|h;exact⟨D901,by simp,h▸Le.refl _⟩;exact⟨E1,by simp,h▸Le.refl _⟩;exact⟨D,by simp,h▸Le.refl _⟩):p:=h
theorem kf(h:p:=by first|assumption|exact GT _ hDr):p:=h
theorem uu(h:p:=by simpa using hl):p:=h
theorem il(h:p:=by rw[←hm.keys];exact n5.2 ⟨p,hp,rfl⟩):p:=h
theorem kl(h:p:=by rw[xr];exact Sa hb):p:=h
theorem mj(h:p:=by unfold vC;simp only[];repeat (first|rw[zo Yd]|rw[zv Yd])):p:=h
theorem mh(h:p:=by unfold K9;simp only[];repeat (first|rw[zo Yd]|rw[zv Yd])):p:=h
theorem mg(h:p:=by unfold G0;simp only[];repeat (first|rw[zo Yd]|rw[zv Yd])):p:=h
theorem mf(h:p:=by unfold I3;simp only[];repeat (first|rw[zo Yd]|rw[zv Yd])):p:=h
theorem me(h:p:=by unfold BQ;simp only[];repeat (first|rw[zo Yd]|rw[zv Yd])):p:=h
theorem md(h:p:=by unfold n8;simp only[];repeat (first|rw[zo Yd]|rw[zv Yd])):p:=h
theorem px(h:p:=by unfold N1;simp only[];repeat (first|rw[zo Yd]|rw[zv Yd])):p:=h
theorem u_(h:p:=by rw[h];simp):p:=h
theorem pp(h:p:=by rw[ya]):p:=h
theorem po(h:p:=by have:=hin.2;omega):p:=h
theorem vj(h:p:=by simpa using h1):p:=h
theorem ic(h:p:=by cases k<;>simp[binOp,Op.intCmp,Pure.pure]):p:=h
theorem xa(h:p:=by rfl):p:=h
theorem ib(h:p:=by first|exact Or.inl rfl|exact Or.inr hbx):p:=h
theorem ia(h:p:=by first|exact Or.inl rfl|exact Or.inr Yf):p:=h
theorem et(h:p:=by cases k<;>simp[binOp,Op.intArith,tL hr,Pure.pure]):p:=h
theorem er(h:p:=by cases b2<;>simp at hJ2;exact zt hJ2;exact zq hJ2):p:=h
theorem Xv(h:p:=by simp only[na,uB,R7,wd,zh,wp];omega):p:=h
theorem xh(h:p:=by decide+kernel):p:=h
theorem xe(h:p:=by simpa using hc1):p:=h
theorem wg(h:p:=by cases h):p:=h
theorem vu(h:p:=by simp at h):p:=h
theorem vk(h:p:=by simp[FW]at h):p:=h
theorem ua(h:p:=by simpa using hc3):p:=h
theorem rt(h:p:=by simpa using h2):p:=h
theorem qz(h:p:=by simpa [ints]using bM.nil):p:=h
theorem qy(h:p:=by rw[e];rfl):p:=h
theorem qe(h:p:=by simp[hm]):p:=h
theorem qd(h:p:=by simpa using hj):p:=h
theorem q_(h:p:=by show Value.int _ _=_;rw[iG Xx]):p:=h
theorem q9(h:p:=by show Value.bool (decide _)=_;rw[lU]):p:=h
theorem pz(h:p:=by simpa using hc4):p:=h
theorem py(h:p:=by first|exact eN|(simp only[*];exact eN)):p:=h
theorem ob(h:p:=by simpa using hm):p:=h
theorem o_(h:p:=by show Value.int _ _=_;rw[lS hx h2 hc2]):p:=h
theorem o0(h:p:=by show Value.bool (!_)=_;rw[pU]):p:=h
theorem nz(h:p:=by simpa using hne):p:=h
theorem ny(h:p:=by simpa using hf50):p:=h
theorem mr(h:p:=by simpa using hx):p:=h
theorem mq(h:p:=by simpa using hs9):p:=h
theorem mn(h:p:=by simpa using bM.nil):p:=h
theorem ml(h:p:=by first|exact fX|(simp only[aL, *];exact fX)):p:=h
theorem l2(h:p:=by rw[h1.size];exact hil):p:=h
theorem l1(h:p:=by rw[hs.dold _ hl];exact h2):p:=h
theorem kz(h:p:=by simp[hh.eval hx,hh.eval hy]):p:=h
theorem ky(h:p:=by rw[hw'.1];simp):p:=h
theorem kx(h:p:=by simpa using hk):p:=h
theorem kw(h:p:=by unfold Y5;rw[hex];trivial):p:=h
theorem kv(h:p:=by have:=hok.len9;omega):p:=h
theorem ku(h:p:=by simpa using dZ _):p:=h
theorem kt(h:p:=by first|exact cU|(simp only[wd,aL, *];exact cU)):p:=h
theorem kr(h:p:=by first|exact eY|(simp only[wd,aL, *];exact eY)):p:=h
theorem kq(h:p:=by simpa using hp5.1):p:=h
theorem ko(h:p:=by simpa using hf52):p:=h
theorem kn(h:p:=by simp only[zm,n4,yk]at hp;rcases hp with rfl|rfl<;>rfl):p:=h
theorem km(h:p:=by simpa using ha1):p:=h
theorem jh(h:p:=by rcases zm.1 hp with rfl|hp;exact Or.inr (zk _);exact Or.inl (n5.2 ⟨p,hp,rfl⟩)):p:=h
theorem jg(h:p:=by rw[h0]at hb;exact absurd hb (pg _)):p:=h
theorem jf(h:p:=by rw[hs.old _ hl hne];exact h1):p:=h
theorem je(h:p:=by show Value.int _ _=_;rw[L1.lS hx h2 hc2]):p:=h
theorem jd(h:p:=by show Value.int _ _=_;rw[L1.iG Xx]):p:=h
theorem jc(h:p:=by show Value.bool (decide _)=_;rw[L1.lU]):p:=h
theorem jb(h:p:=by simp only[yf]at h;subst h;simp):p:=h
theorem ja(h:p:=by first|exact jW|(simp only[wd,aL, *];exact jW)):p:=h
theorem j_(h:p:=by show Value.bool (!_)=_;rw[L1.pU]):p:=h
theorem iz(h:p:=by show Value.tuple _=_;rw[zo he0,he0];rfl):p:=h
theorem al(h:p:=by rw[show(ints _).length=10 by simp[hs10]];exact eG):p:=h
theorem iy(h:p:=by rw[show(ints _).toArray.size=10 by simp[hs10]];exact eG):p:=h
theorem iw(h:p:=by unfold J4;simp only[];repeat (first|rw[zo Yd]|rw[zv Yd])):p:=h
theorem iu(h:p:=by unfold K3;simp only[];repeat (first|rw[zo Yd]|rw[zv Yd])):p:=h
theorem it(h:p:=by unfold UP;simp only[];repeat (first|rw[zo Yd]|rw[zv Yd])):p:=h
theorem ir(h:p:=by unfold BN;simp only[];repeat (first|rw[zo Yd]|rw[zv Yd])):p:=h
theorem iq(h:p:=by unfold TJ;simp only[];repeat (first|rw[zo Yd]|rw[zv Yd])):p:=h
theorem ip(h:p:=by simp[oO,l4]<;>omega):p:=h
theorem io(h:p:=by first|exact kJ|(simp only[wd,aL, *];exact kJ)):p:=h
theorem im(h:p:=by obtain⟨a,b,c,d,e⟩:=hlin l hl;exact⟨a,b,by omega,d,by omega⟩):p:=h
theorem fx(h:p:=by rw[←Act.put_comm a v u h2];exact he.2):p:=h
theorem fw(h:p:=by unfold Y5;show(match X.ex with|none=>True|some J=>_);rw[hex];trivial):p:=h
theorem fu(h:p:=by simp only[yf]at h1;subst h1;exact Le.refl _):p:=h
theorem fq(h:p:=by show pE bd::X.ds=_;rw[hds]):p:=h
theorem fp(h:p:=by show Value.int _ _=_;rw[ww Yd]):p:=h
theorem fm(h:p:=by first|exact vM|(simp only[aL, *];exact vM)):p:=h
theorem fk(h:p:=by first|exact cR|(simp only[wd,aL, *];exact cR)):p:=h
theorem fj(h:p:=by rw[nO];split<;>simp only[vE]<;>omega):p:=h
theorem fi(h:p:=by first|exact kC|(simp only[*];exact kC)):p:=h
theorem fh(h:p:=by show Value.tuple _=_;rw[zv hc1];rfl):p:=h
theorem fg(h:p:=by show Value.bool _=_;rw[sk,R0]):p:=h
theorem ff(h:p:=by rw[show(ints (l7 (dQ y (j9 x)))).length=9 by simpa using hs9];exact iN):p:=h
theorem fe(h:p:=by unfold rS;simp only[];repeat (first|rw[zo Yd]|rw[zv Yd])):p:=h
theorem fd(h:p:=by unfold vT;simp only[];repeat (first|rw[zo Yd]|rw[zv Yd])):p:=h
theorem fc(h:p:=by unfold uY;simp only[];repeat (first|rw[zo Yd]|rw[zv Yd])):p:=h
theorem fa(h:p:=by unfold sI;simp only[];repeat (first|rw[zo Yd]|rw[zv Yd])):p:=h
theorem f_(h:p:=by first|omega|(simp only[];omega)):p:=h
theorem ez(h:p:=by first|exact rT|(simp only[wd,aL, *];exact rT)):p:=h
theorem ey(h:p:=by first|exact fD|(simp only[wd,aL, *];exact fD)):p:=h
theorem ak(h:p:=by cases k<;>(simp[binOp,Op.intCmp,Pure.pure];by_cases h:m=n<;>simp[h])):p:=h
theorem aj(h:p:=by simp only[show(0:Nat)≠w.heap.size by have:=h.agr.pos;omega,xx]):p:=h
theorem ai(h:p:=by rcases zd.1 hp with hp|hp;exact yw _ (yw _ hp);exact LT _ hp):p:=h
theorem ag(h:p:=by simp only[execOp,hρ x _ hx,hρ y _ hy];rw[Ω,hr w'];rfl):p:=h
theorem af(h:p:=by unfold jD;rw[zv (λe=>hM p hp (by rw[e];exact hbo))];exact p2):p:=h
theorem ae(h:p:=by show Value.bool (decide (n≥lo)&&decide (n≤hi))=_;rfl):p:=h
theorem ab(h:p:=by obtain⟨p,hp,rfl⟩:=n5.1 hbm;exact bR (hb p hp).1):p:=h
theorem aa(h:p:=by simpa using OW (f:=cL) (n:=3) (k:=2) (λ_=>rfl) hx Yd rfl):p:=h
theorem a_(h:p:=by simp only[zm,n4,yk]at hD ⊢;rcases hD with rfl|rfl|rfl|rfl<;>simp):p:=h
theorem a1(h:p:=by rw[hp];exact⟨pv,cv,hv,lv,mv,bl,bc,yc,yq,rfl,hL.up (hD _ Yf)⟩):p:=h
theorem Z_(h:p:=by show some (Value.int _ _)=some (Value.int _ _);congr 2;simp only;omega):p:=h
theorem Y_(h:p:=by rw[yf];rintro rfl;exact hap (n5.2 ⟨_,zi,rfl⟩)):p:=h
theorem Xz(h:p:=by rw[yf];rintro rfl;exact hap (n5.2 ⟨_,zu,rfl⟩)):p:=h
theorem Xy(h:p:=by show Value.bool _=_;rw[SO hp hq2 hx1 hx2,VO hpb hqb]):p:=h
structure τ(q:Prop):Prop where
 o:q
variable{q:Prop}
theorem Wa(k:q)(h:τ q→p:=by intro zz;refine Za7<|Za2<|aM<|Za rfl<|Zaf rfl<|Zf rfl<|Zap zz.o):p:=h ⟨k⟩
theorem Wb(k:q)(h:τ q→p:=by intro zz;refine Zg rfl<|Zg rfl<|Zg rfl<|Zan rfl zz.o):p:=h ⟨k⟩
theorem Wc(k:q)(h:τ q→p:=by intro zz;refine Za7<|Za2<|aM<|Zaf rfl<|Za rfl<|Zap zz.o):p:=h ⟨k⟩
theorem Wd(k:q)(h:τ q→p:=by intro zz;refine Zf rfl<|aG zz.o):p:=h ⟨k⟩
theorem We(k:q)(h:τ q→p:=by intro zz;refine Za rfl<|aE<|Za4<|cW (γ:=Nat) (λk=>xs.length-k) (λk=>k≤xs.length∧(xs.take k).any p=false) (λk=>[(8,qI k)]) [(7,_),(4,_),(0,_),(1,_)] (λk=>[D]) 0 Yf ⟨Ya,zy⟩ cE (aN) zz.o):p:=h ⟨k⟩
theorem Wf(k:q)(h:τ q→p:=by intro zz;refine Zg rfl<|Zg rfl<|Zg rfl<|Zg rfl<|Zam rfl zz.o):p:=h ⟨k⟩
theorem Wg(k:q)(h:τ q→p:=by intro zz;refine Zf rfl<|aG<|Za8<|Za3<|Za3<|Za8<|Za3 zz.o):p:=h ⟨k⟩
theorem Wh(k:q)(h:τ q→p:=by intro zz;refine aA<|Zf rfl<|aG<|Za3<|Za8<|Za3 zz.o):p:=h ⟨k⟩
theorem Wi(k:q)(h:τ q→p:=by intro zz;refine Zf rfl<|aG<|Za3 zz.o):p:=h ⟨k⟩
theorem Wj(k:q)(h:τ q→p:=by intro zz;refine Za9<|Za5<|Za5<|Zba<|Za2<|aA<|Za rfl<|Wd zz.o):p:=h ⟨k⟩
theorem Wk(k:q)(h:τ q→p:=by intro zz;refine Za9<|Za5<|Za5<|Zba<|Za2<|aA<|Wd zz.o):p:=h ⟨k⟩
theorem Wl(k:q)(h:τ q→p:=by intro zz;refine iB rfl rfl rfl rfl ⟨_,rfl,rfl⟩<|Zam rfl zz.o):p:=h ⟨k⟩
theorem Wm(k:q)(h:τ q→p:=by intro zz;refine aA<|Zf rfl<|aG<|Za8<|Za3 zz.o):p:=h ⟨k⟩
theorem Wn(k:q)(h:τ q→p:=by intro zz;refine Zad ((q5,_)::(q4,qC [u] 35)::(q3,qC [v] 212)::(wb,qC [cv,qI y.fit,qv,.map (some mb)] 319)::(mb,.map R U)::(ν1x++(ω1x++[(l,_),(bd,_)]))) ((yy _ _ _).trans (yy _ _ _))<|dD rfl rfl rfl ha1x.cells1 m9 (.tail (.tail .head)) Yf rfl ha1x.cell1 zy<|dD rfl rfl rfl ha2x.cells1 eZ (.tail .head) Yf rfl ha2x.cell1 zy zz.o):p:=h ⟨k⟩
theorem Wo(k:q)(h:τ q→p:=by intro zz;refine Zg rfl<|Zg rfl<|Zg rfl<|Wb zz.o):p:=h ⟨k⟩
theorem Wp(k:q)(h:τ q→p:=by intro zz;refine Zf rfl<|Zap<|Wa zz.o):p:=h ⟨k⟩
theorem Wq(k:q)(h:τ q→p:=by intro zz;refine cD rfl U265 aI rfl rfl Yu Yu rfl ⟨_,rfl,rfl⟩<|Zr rfl aH rfl zi rfl<|cD rfl U265 aI rfl rfl Yu Yu rfl ⟨_,rfl,rfl⟩<|Zr rfl aH rfl zu rfl<|xN rfl rfl rfl Ye rfl ⟨_,rfl,rfl⟩<|Zau rfl<|Zam rfl zz.o):p:=h ⟨k⟩
theorem Wr(k:q)(h:τ q→p:=by intro zz;refine cD rfl U265 aI rfl rfl Yu Yu rfl ⟨_,rfl,rfl⟩<|Zr rfl aH rfl zu rfl<|cD rfl U265 aI rfl rfl Yu Yu rfl ⟨_,rfl,rfl⟩<|Zr rfl aH rfl zi rfl<|xN rfl rfl rfl Ye rfl ⟨_,rfl,rfl⟩<|Zau rfl<|Zam rfl zz.o):p:=h ⟨k⟩
theorem Ws(k:q)(h:τ q→p:=by intro zz;refine Zg rfl<|Zg rfl<|Zg rfl<|Zg rfl<|Zg rfl<|Zg rfl<|Zg rfl<|Zg rfl zz.o):p:=h ⟨k⟩
theorem Wt(k:q)(h:τ q→p:=by intro zz;refine Zg rfl<|Zg rfl<|oR rfl rfl rfl rfl ⟨_,rfl,rfl⟩ zz.o):p:=h ⟨k⟩
theorem Wu(k:q)(h:τ q→p:=by intro zz;refine gS hA rfl rfl rfl rfl (.tail (.tail (.tail ζ))) fC rfl<|Zap zz.o):p:=h ⟨k⟩
theorem Wv(k:q)(h:τ q→p:=by intro zz;refine Zd rfl (λV O=>hf x _ (O _ Yf))<|Zav rfl<|Wd zz.o):p:=h ⟨k⟩
theorem Ww(k:q)(h:τ q→p:=by intro zz;refine kE rfl rfl rfl rfl zy<|Wd zz.o):p:=h ⟨k⟩
theorem Wx(k:q)(h:τ q→p:=by intro zz;refine gS hA rfl rfl rfl rfl (.tail (.tail ζ)) fC rfl<|Zap zz.o):p:=h ⟨k⟩
theorem Wy(k:q)(h:τ q→p:=by intro zz;refine Zau rfl<|Zan rfl zz.o):p:=h ⟨k⟩
theorem Wz(k:q)(h:τ q→p:=by intro zz;refine Za7<|Za2<|aA<|Wd zz.o):p:=h ⟨k⟩
theorem lf(k:q)(h:τ q→p:=by intro zz;refine aA<|Zf rfl<|aJ<|Za rfl<|Za rfl<|iB rfl rfl rfl rfl zy<|Za rfl zz.o):p:=h ⟨k⟩
theorem n1(k:q)(h:τ q→p:=by intro zz;refine Za rfl<|aX rfl hn<|Za rfl<|aX rfl hn zz.o):p:=h ⟨k⟩
theorem gd(k:q)(h:τ q→p:=by intro zz;refine bN (e:=161) (fz:=(0,0)) rfl lF rfl zi al n4 rfl zy<|fG rfl rfl rfl rfl eG (by simp[hs10]) xa .head (dZ _) zy<|Wi zz.o):p:=h ⟨k⟩
theorem vp(k:q)(h:τ q→p:=by intro zz;refine Zaw rfl<|Zan rfl zz.o):p:=h ⟨k⟩
theorem bj(k:q)(h:τ q→p:=by intro zz;refine Zf rfl<|aJ<|Za rfl<|Za1 rfl<|Zd rfl (λO I=>oV _ _ xs (λx=> !p x) _ (Sl.at RI.up I Yn Yf) ⟨_,[],[qP b],rfl,λx R hl=>O3 b fv p x R (hp.up ((I _ Yf).trans hl)) (hB.up ((I _ Yf).trans hl))⟩)<|Zav rfl<|Wd zz.o):p:=h ⟨k⟩
theorem n0(k:q)(h:τ q→p:=by intro zz;refine gS hA rfl rfl rfl rfl (.tail ζ) fC rfl<|Zap zz.o):p:=h ⟨k⟩
theorem bi(k:q)(h:τ q→p:=by intro zz;refine Zh 0 rfl aH rfl R rfl<|Zf rfl<|bD<|Zf rfl<|aE<|Za4<|Zo Nat (λk=>xs.length-k) (λk=>k≤xs.length) (λk=>[(3,qI ((xs.take k).foldl min x)),(4,qI (k+1:Int))]) [(2,_),(0,_)] (λk=>[D]) 0 ⟨Ya,Ya,zy⟩ zz.o):p:=h ⟨k⟩
theorem bg(k:q)(h:τ q→p:=by intro zz;refine Zd rfl (λD3 hD3=>IR [k0,k1,k2,k3] _ rfl)<|lJ (cs:=[qI (i:Int),qI (min c0 1),qI (min c1 1),qI (min c2 1),qI (min c3 1),qI (min k0 1),qI (min k1 1),qI (min k2 1),qI (min k3 1)]) rfl TV V4 rfl Yg rfl zy<|Zap zz.o):p:=h ⟨k⟩
theorem jo(k:q)(h:τ q→p:=by intro zz;refine sQ rfl rfl rfl rfl ⟨_,rfl,rfl⟩<|oU rfl rfl rfl rfl ⟨_,rfl,rfl⟩ zz.o):p:=h ⟨k⟩
theorem mz(k:q)(h:τ q→p:=by intro zz;refine sQ rfl rfl rfl rfl ⟨_,rfl,rfl⟩<|Zam rfl zz.o):p:=h ⟨k⟩
theorem ol(k:q)(h:τ q→p:=by intro zz;refine Zg rfl<|Zg rfl<|Zg rfl<|Zg rfl<|Ws zz.o):p:=h ⟨k⟩
theorem oh(k:q)(h:τ q→p:=by intro zz;refine Zg rfl<|Zg rfl<|Zg rfl<|Zg rfl<|Wf zz.o):p:=h ⟨k⟩
theorem ru(k:q)(h:τ q→p:=by intro zz;refine Zg rfl<|Zg rfl<|Zan rfl zz.o):p:=h ⟨k⟩
theorem gc(k:q)(h:τ q→p:=by intro zz;refine aA<|Zf rfl<|aJ<|Zh 0 rfl sG rfl hB rfl<|Za rfl<|Zd rfl (λO I=>hf x _ (I _ Yf))<|Zav rfl<|Wd zz.o):p:=h ⟨k⟩
theorem uz(k:q)(h:τ q→p:=by intro zz;refine Zf rfl<|Zap<|Wc zz.o):p:=h ⟨k⟩
theorem my(k:q)(h:τ q→p:=by intro zz;refine gS hA rfl rfl rfl rfl ζ fC rfl<|Zap zz.o):p:=h ⟨k⟩
theorem uv(k:q)(h:τ q→p:=by intro zz;refine Zat rfl<|Za rfl zz.o):p:=h ⟨k⟩
theorem ld(k:q)(h:τ q→p:=by intro zz;refine mR rfl rfl rfl rfl ⟨_,rfl,rfl⟩<|Zam rfl zz.o):p:=h ⟨k⟩
theorem ga(k:q)(h:τ q→p:=by intro zz;refine aA<|Zf rfl<|aJ<|Za rfl<|Zd rfl (λO I=>KW _ x xs _ (Sl.at RI.up I Yn Yf))<|Wd zz.o):p:=h ⟨k⟩
theorem ud(k:q)(h:τ q→p:=by intro zz;refine Zas rfl<|Za rfl zz.o):p:=h ⟨k⟩
theorem xz(k:q)(h:τ q→p:=by intro zz;refine bE<|Wa zz.o):p:=h ⟨k⟩
theorem mx(k:q)(h:τ q→p:=by intro zz;refine Zg rfl<|Zg rfl<|Zg rfl<|Zam rfl zz.o):p:=h ⟨k⟩
theorem jn(k:q)(h:τ q→p:=by intro zz;refine Zg rfl<|Zg rfl<|oU rfl rfl rfl rfl ⟨_,rfl,rfl⟩ zz.o):p:=h ⟨k⟩
theorem jm(k:q)(h:τ q→p:=by intro zz;refine Zb rfl<|mR rfl rfl rfl rfl ⟨_,rfl,rfl⟩<|Zb rfl zz.o):p:=h ⟨k⟩
theorem mw(k:q)(h:τ q→p:=by intro zz;refine kE rfl rfl rfl rfl zy<|aE zz.o):p:=h ⟨k⟩
theorem uc(k:q)(h:τ q→p:=by intro zz;refine aA<|Za rfl<|Wg zz.o):p:=h ⟨k⟩
theorem ub(k:q)(h:τ q→p:=by intro zz;refine Za rfl<|Za rfl zz.o):p:=h ⟨k⟩
theorem l_(k:q)(h:τ q→p:=by intro zz;refine Za2<|aM<|Za rfl<|Zaf rfl<|Zf rfl<|Zap zz.o):p:=h ⟨k⟩
theorem qg(k:q)(h:τ q→p:=by intro zz;refine aA<|Za rfl<|Zf rfl<|Wi zz.o):p:=h ⟨k⟩
theorem vw(k:q)(h:τ q→p:=by intro zz;refine Zg rfl<|Wb zz.o):p:=h ⟨k⟩
theorem b_(k:q)(h:τ q→p:=by intro zz;refine Zad ((wb,_)::(ν1++νx)) ke.symm<|Zao rfl<|Zj rfl kL rfl<|Zt (dY s pv O hv lv mv bl bc yc yq) rfl hx.cells1 KF .head rfl hx.cell1 zz.o):p:=h ⟨k⟩
theorem l3(k:q)(h:τ q→p:=by intro zz;refine Zap<|Za7<|Za2<|aM<|Za rfl<|Zaf rfl zz.o):p:=h ⟨k⟩
theorem si(k:q)(h:τ q→p:=by intro zz;refine Zav rfl<|Za rfl zz.o):p:=h ⟨k⟩
theorem sh(k:q)(h:τ q→p:=by intro zz;refine Zal rfl<|Za rfl zz.o):p:=h ⟨k⟩
theorem r_(k:q)(h:τ q→p:=by intro zz;refine Zb rfl<|Zb rfl<|Wl zz.o):p:=h ⟨k⟩
theorem og(k:q)(h:τ q→p:=by intro zz;refine aM<|Za rfl<|Zaf rfl<|Wp zz.o):p:=h ⟨k⟩
theorem mu(k:q)(h:τ q→p:=by intro zz;refine Zf rfl<|aJ<|Za rfl<|Za0 rfl zz.o):p:=h ⟨k⟩
theorem b9(k:q)(h:τ q→p:=by intro zz;refine aX rfl hn<|Za rfl<|Zao rfl<|Zj rfl bC rfl<|Zj rfl gJ rfl<|Zj rfl dX rfl<|Zq rfl iK rfl zu rfl<|cG rfl U80 rfl ha rfl rfl zy zz.o):p:=h ⟨k⟩
theorem jl(k:q)(h:τ q→p:=by intro zz;refine sQ rfl rfl rfl rfl ⟨_,rfl,rfl⟩<|Zan rfl zz.o):p:=h ⟨k⟩
theorem az(k:q)(h:τ q→p:=by intro zz;refine Zao rfl<|Zj rfl eK rfl<|Zt (dY s pv cv hv lv mv v1 bc yc yq) rfl hx.cells1 wJ .head rfl hx.cell1<|Zap<|Za7<|Za2<|aA<|Zf rfl zz.o):p:=h ⟨k⟩
theorem g_(k:q)(h:τ q→p:=by intro zz;refine aA<|Zf rfl<|aJ<|Za rfl<|Za rfl<|kE rfl rfl rfl rfl zy<|Za rfl zz.o):p:=h ⟨k⟩
theorem g5(k:q)(h:τ q→p:=by intro zz;refine Zab rfl fN ζ (gO hL)<|Zf rfl<|Zf rfl<|bD<|Za rfl<|Za0 rfl<|aE zz.o):p:=h ⟨k⟩
theorem jk(k:q)(h:τ q→p:=by intro zz;refine Zap<|Za7<|Za2<|aM<|Za rfl<|Zaf rfl<|Zf rfl zz.o):p:=h ⟨k⟩
theorem ax(k:q)(h:τ q→p:=by intro zz;refine aZ (dI.mk [bt,wb]) 2 19 65534<|Za rfl<|Za rfl<|Zao rfl<|Zj rfl kL rfl<|bG rfl zF rfl zu rfl Yo rfl zy<|Za rfl<|Zay rfl zz.o):p:=h ⟨k⟩
theorem oe(k:q)(h:τ q→p:=by intro zz;refine Za9<|Za5<|Za5<|Zba<|Wa zz.o):p:=h ⟨k⟩
theorem jj(k:q)(h:τ q→p:=by intro zz;refine Zf rfl<|aG<|Za3<|Za8<|Za3<|Za3<|Za8<|Za3 zz.o):p:=h ⟨k⟩
theorem mt(k:q)(h:τ q→p:=by intro zz;refine Zi 1 rfl aH rfl I rfl<|Wl zz.o):p:=h ⟨k⟩
theorem aw(k:q)(h:τ q→p:=by intro zz;refine Za rfl<|Za rfl<|Zao rfl<|Zj rfl bC rfl<|Zj rfl fF rfl<|Zj rfl nV rfl<|bG rfl P3 rfl zu rfl Yo rfl zy<|n1 zz.o):p:=h ⟨k⟩
theorem au(k:q)(h:τ q→p:=by intro zz;refine Za rfl<|Za rfl<|Zao rfl<|Zj rfl bC rfl<|Zj rfl dK rfl<|Zj rfl nZ rfl<|bG rfl P8 rfl zu rfl Yo rfl zy<|n1 zz.o):p:=h ⟨k⟩
theorem ar(k:q)(h:τ q→p:=by intro zz;refine Za rfl<|aX rfl hn<|Za rfl<|Zao rfl<|Zj rfl eK rfl<|Zq rfl kG rfl zu rfl<|cG rfl U43 rfl I rfl rfl zy<|mw zz.o):p:=h ⟨k⟩
theorem ap(k:q)(h:τ q→p:=by intro zz;refine aA<|Zf rfl<|aJ<|Za rfl<|Za rfl<|Zd rfl (λO I=>yZ _ _ xs p _ (Sl.at RI.up I Yn Yf) (hp.up (I _ Yf)))<|Ww zz.o):p:=h ⟨k⟩
theorem fy(k:q)(h:τ q→p:=by intro zz;refine DL rp b rfl rfl rfl rfl aI (.tail .head) Yd zy<|Zap zz.o):p:=h ⟨k⟩
theorem ao(k:q)(h:τ q→p:=by intro zz;refine Zao rfl<|Zj rfl oK rfl<|Zt (dY s pv cv hv lv v1 bl bc yc yq) rfl hx.cells1 UH .head rfl hx.cell1<|Zap zz.o):p:=h ⟨k⟩
theorem xi(k:q)(h:τ q→p:=by intro zz;refine bE<|Wc zz.o):p:=h ⟨k⟩
theorem qf(k:q)(h:τ q→p:=by intro zz;refine Zaw rfl<|Zam rfl zz.o):p:=h ⟨k⟩
theorem ji(k:q)(h:τ q→p:=by intro zz;refine Zg rfl<|Zg rfl<|Zg rfl<|Zg rfl<|Wo zz.o):p:=h ⟨k⟩
theorem an(k:q)(h:τ q→p:=by intro zz;refine Zq rfl bW rfl zu rfl<|Za rfl<|aX rfl hn<|Za rfl<|aX rfl hn<|eV rfl U35 aI rfl rfl Yd Yd rfl zy zz.o):p:=h ⟨k⟩
theorem am(k:q)(h:τ q→p:=by intro zz;refine QP nl (x2:={x with token:= -1}) (k:=2) rfl rfl rfl rfl aI (.tail .head) hx Yd rfl Yd zy<|Zap zz.o):p:=h ⟨k⟩
theorem sg(k:q)(h:τ q→p:=by intro zz;refine Zf rfl<|Zap zz.o):p:=h ⟨k⟩
theorem tg(k:q)(h:τ q→p:=by intro zz;refine Zf rfl<|Wd zz.o):p:=h ⟨k⟩
end Go
namespace Go.Fs

abbrev qI(n:Int):Γ:=.int .i64 n
abbrev qP(b:Nat):Γ:=.pointer (some ⟨b,0,none⟩)
abbrev qN:Γ:=.slice none 0 0
abbrev qS(b n c:Nat):Γ:=.slice (some ⟨b,0,none⟩) n c
abbrev qC(l:List Γ)(e:Θ):Obj:=.cells l.toArray e (0,0)
def FW(r:Option Nat):Fence:={fn:=λ_=>True,depth:=none,alive:=false,round:=r}
theorem GP(r:Option Nat)(n:Nat):(FW r).room n:=λ_ h=>by simp[FW]at h
theorem Kg(r:Option Nat)(P:Program)(m:Machine):m.fenced P (FW r):=
 λ_ _=>⟨λh=>vk,zq zy,λ_ _=>trivial,λ_ h=>vk⟩
theorem JN{r:Option Nat}{P:Program}{m m':Machine}:StepsIn (Machine.fenced P (FW r)) P m m' ↔ Steps P m m':=
 ⟨StepsIn.steps,λh=>(StepsIn.of_steps h).mono λm _=>Kg r P m⟩
theorem H9{r:Option Nat}{P:Program}{m m':Machine}{e:Ending}:ComesIn (Machine.fenced P (FW r)) P m m' e ↔ Comes P m m' e:=by
 cases e with
 |returned v=>exact JN
 |panicked chain=>exact JN
 |outgrown=>exact Iff.rfl
theorem eC{r:Option Nat}{n:Nat}{P:Program}{f:FuncId}{args:Array Γ}{w:Δ}{R:Ending→Δ→Prop}:
    CallsIn (FW r) n P f args w R ↔ Calls P f args w R:=
  ⟨λh cs=>let ⟨e,w',fr,r,s,x⟩:=h.2 cs (GP _ _);⟨e,w',fr,r,H9.1 s,x⟩,
   λh=>⟨zy,λcs _=>let ⟨e,w',fr,r,s,x⟩:=h cs;⟨e,w',fr,r,H9.2 s,x⟩⟩⟩
def Ri(P:Program)(l:Nat)(f:FuncId)(tmps:Array Γ)(assign body:Code)(w:Δ)(R:Ending→Δ→Prop):Prop:=
 RoundIn (FW none) 0 P l f tmps assign body w R
theorem JF{r:Option Nat}{n:Nat}{P:Program}{l:Nat}{f:FuncId}{tmps:Array Γ}{assign body:Code}{w:Δ}{R:Ending→Δ→Prop}
  (h:Ri P l f tmps assign body w R):RoundIn (FW r) n P l f tmps assign body w R:=
 ⟨zy,λc cs _=>let ⟨e,w',q,s⟩:=h.2 c cs (GP _ _);⟨e,w',q,H9.2 (H9.1 s)⟩⟩

def rL{γb:Type}[Membership Nat γb](H:γb)(w w':Δ):Prop:=w.heap.size≤w'.heap.size∧∀b,b<w.heap.size→b∉H→w'.heap[b]?= w.heap[b]?
structure dI where
 l:List Nat
instance:Membership Nat dI:=⟨λs b=>b∉s.l⟩
theorem dI.out{l:List Nat}{b:Nat}(h:b∈l):b∉(dI.mk l):=λhn=>hn h
theorem dI.in_{l:List Nat}{b:Nat}(h:b∉l):b∈(dI.mk l):=h
theorem rL.refl{γb:Type}[Membership Nat γb](H:γb)(w:Δ):rL H w w:=⟨zk _,λ_ _ _=>C⟩
theorem rL.trans{γb:Type}[Membership Nat γb]{H:γb}{w I O:Δ}(h:rL H w I)(h':rL H I O):rL H w O:=
 ⟨xj h.1 h'.1,λb hb hn=>(h'.2 b (vc hb h.1) hn).trans (h.2 b hb hn)⟩

def lW:Op→Bool
 |.move _|.assign _|.pick _ _ _|.load _ _|.nilCheck _|.binOp _ _ _ _ _|.unOp _ _ _|.convert _ _ _|.fieldAddr _ _ _|.field _ _ _
 |.indexAddr _ _ _|.index _ _ _|.extract _ _|.slice _ _ _ _ _|.build _ _|.makeFunc _ _ _|.makeInterface _ _|.lookup _ _ _ _|.typeAssert _ _ _ _=>true
 |.call c=>match c.callee with|.builtin .len|.builtin .cap|.builtin .max|.builtin .min=>true|_=>false
 |_=>false
def qZ:Op→Bool
 |.defer _=>true
 |.select _ _=>true
 |_=>false
def Yv{γb:Type}[Membership Nat γb](H:γb)(P:Program)(G:Array Oper)(o:Oper)(a:Act)(w:Δ)(v:Γ):Prop:=
 (Region.wanted o (yielded G a.tmps)=true∧∀w',rL H w w'→(execOp a.eval o).run P w'=.ok (.value v) w')∨
 (Region.wanted o (yielded G a.tmps)=false∧v=undef)
def m4(r:Option Nat){γb:Type}[Membership Nat γb](H:γb)(P:Program)(G:Array Oper)(Q:Exit→Act→Δ→Prop)(o:Oper)(fl:Bool)(K:Act→Δ→Prop)(a:Act)(w:Δ):Prop:=
 if Region.wanted o (yielded G a.tmps)=true then o.wpIn (FW r) 0 P a w (λa' w'=>(fl=true→rL H w w')∧K a' w') Q
 else K (a.put o.dst undef) w
def wT(r:Option Nat){γb:Type}[Membership Nat γb](H:γb)(P:Program)(G:Array Oper)(K:Act→Δ→Prop)(Q:Exit→Act→Δ→Prop):List (Bool×Oper)→Act→Δ→Prop
 | [],a,w=>K a w
 |(fl,o)::os,a,w=>
  if lW o.op=true then ∃v,Yv H P G o a w v∧wT r H P G K Q os (a.put o.dst v) w
  else m4 r H P G Q o fl (wT r H P G K Q os) a w
variable{r:Option Nat}{γb:Type}[Membership Nat γb]{H:γb}{P:Program}{G:Array Oper}{Q:Exit→Act→Δ→Prop}
theorem AH{o:Oper}(h:qZ o.op=false)(ro:Option Nat)(ρ:Operand→Γ):Oper.semAt ro ρ o=execOp ρ o:=
 Oper.semAt_eq ro ρ o λc hc=>by rw[hc]at h;cases h
theorem Wab{o:Op}(h:lW o=true):qZ o=false:=by
 cases o<;>first|rfl|(cases h)
theorem Yv.run{o:Oper}{a:Act}{w:Δ}{v:Γ}(h:Yv H P G o a w v)(hk:lW o.op=true){K:Act→Δ→Prop}{i:Nat}(hi:G[i]?= some o){n:Nat}
  (hK:K (a.put o.dst v) w):wpOpIn (FW r) n P G Q i K a w:=by
 unfold wpOpIn;simp only[hi];rcases h with⟨hw,hv⟩|⟨hw,rfl⟩
 ·rw[zo hw];refine⟨λ_ _=>trivial,?_⟩;rw[AH (Wab hk),hv w (rL.refl _ _)];exact hK
 ·rw[zv (by simp[hw])];exact⟨λ_ _=>trivial,hK⟩
theorem WY{n:Nat}{o:Oper}{a:Act}{w:Δ}{K:Act→Δ→Prop}(h:o.wpIn (FW r) 0 P a w K Q):o.wpIn (FW r) n P a w K Q:=by
 refine⟨h.1,?_⟩;have h2:=h.2;generalize (o.semAt (FW r).round a.eval).run P w=x at *;cases x with
 |ok x w'=>
  cases x<;>simp only[Oper.uponIn]at h2 ⊢ <;>first
   |exact h2
   |exact⟨λh=>vk,eC.2 (eC.1 h2.2)⟩
   |exact⟨λh=>vk,λc cs _=>h2.2 c cs (GP _ _)⟩
   |exact⟨λh=>vk,zy,λc cs _=>h2.2.2 c cs (GP _ _)⟩
 |halt x w'=>cases x<;>exact h2

theorem HW{n:Nat}{K:Act→Δ→Prop}(hK:∀a w,K a w→Q .normal a w):∀(os:List (Bool×Oper)) (is:List Nat),is.map (λi=>G[i]?)=os.map (λo=>some o.2)→
  ∀a w,wT r H P G K Q os a w→wpOpsIn (FW r) n P G Q is a w:=by
 intro os;induction os with
 |nil=>intro is h a w x_;cases is with|nil=>exact hK _ _ x_|cons=>simp at h
 |cons o os ih=>
  intro is h a w x_;cases is with
  |nil=>simp at h
  |cons i is=>
   obtain⟨fl,o⟩:=o;simp only[yl,vx]at h;rw[wpOpsIn_cons];simp only[wT]at x_;split at x_
   ·rename_i hq;obtain⟨v,hy,x_⟩:=x_;exact hy.run hq h.1 (ih is h.2 _ _ x_)
   ·unfold wpOpIn;simp only[h.1];unfold m4 at x_;split at x_
    ·rename_i hw;rw[zo hw];exact WY (Oper.wpIn_mono (λa w hh=>ih is h.2 _ _ hh.2) x_)
    ·rename_i hw;rw[zv hw];exact⟨λ_ _=>trivial,ih is h.2 _ _ x_⟩
theorem ME(G:Array Oper):(List.range G.size).map (λi=>G[i]?)=G.toList.map some:=by
 apply List.ext_getElem
 ·simp
 ·intro i h1 h2;simp
theorem aGP{id:Nat}{a:Act}{w:Δ}(h:wT r [] P G (λa w=>Q .normal a w) Q (G.toList.map λo=>(false,o)) a w):
  (Code.region id G false).wpIn (FW r) 0 P Q a w:=
 wpIn_region (HW (λ_ _ h=>h) _ _ (by rw[ME];simp) _ _ h)

def oA(G:Array Oper):Nat→Nat→Nat→Bool
 |0,_,_=>false
 |n+1,i,x=>((G[i]?).map λo=>o.after.toList.any λe=>Region.binds .any e&&(Nat.beq e.on x||oA G n e.on x)).getD false
def vH(G:Array Oper)(n:Nat)(i:Nat):List Nat→Bool
 | []=>false
 |x::xs=> !oA G n i x||vH G n i xs
def jL(G:Array Oper)(x:Nat):Bool:=((G[x]?).map λo=>lW o.op).getD false
def rQ(G:Array Oper)(x i:Nat):Bool:=
 match G[x]?,G[i]? with
 |some x,some i=>x.apart G i
 |_,_=>false
def Pz(G:Array Oper)(n:Nat)(i:Nat)(before:List Nat):Bool:=
 before.all λx=>oA G n i x||(jL G x&&rQ G x i)
def S4(G:Array Oper)(i:Nat)(before:List Nat):Bool:=
 ((G[i]?).map λo=>o.after.toList.all λe=> !Region.binds .any e||before.contains e.on).getD false
def vW(G:Array Oper)(n:Nat):List Nat→List Nat→Bool
 |_,[]=>true
 |before,i::rest=>Pz G n i before&&S4 G i before&& !before.contains i&&vW G n (before++[i]) rest
def rY(G:Array Oper):Bool:=G.toList.all λo=> !qZ o.op
def Pi(G:Array Oper)(n:Nat)(c:List Nat):Bool:=
 rY G&&(c.length==G.size)&&((List.range G.size).all λi=>c.contains i)&&vW G n [] c
def DU(r:Option Nat){γb:Type}[Membership Nat γb](H:γb)(P:Program)(G:Array Oper)(fl:Nat→Bool)(K:Act→Δ→Prop)(Q:Exit→Act→Δ→Prop):List Nat→Act→Δ→Prop
 | [],a,w=>K a w
 |i::is,a,w=>
  match G[i]? with
  |none=>False
  |some o=>
   if lW o.op=true then ∃v,Yv H P G o a w v∧DU r H P G fl K Q is (a.put o.dst v) w
   else m4 r H P G Q o (fl i) (DU r H P G fl K Q is) a w
def nQ(r:Option Nat){γb:Type}[Membership Nat γb](H:γb)(P:Program)(G:Array Oper)(fl:Nat→Bool)(Q:Exit→Act→Δ→Prop)(i:Nat)(K:Act→Δ→Prop)(a:Act)(w:Δ):Prop:=
 match G[i]? with
 |none=>False
 |some o=>
  if lW o.op=true then ∃v,Yv H P G o a w v∧K (a.put o.dst v) w
  else m4 r H P G Q o (fl i) K a w
theorem rR{fl:Nat→Bool}{K:Act→Δ→Prop}(i:Nat)(is:List Nat)(a:Act)(w:Δ):
  DU r H P G fl K Q (i::is) a w=nQ r H P G fl Q i (DU r H P G fl K Q is) a w:=by
 rfl
theorem m4.mono{o:Oper}{f:Bool}{K K':Act→Δ→Prop}{a:Act}{w:Δ}(h:∀a w,K a w→K' a w)(x_:m4 r H P G Q o f K a w):
  m4 r H P G Q o f K' a w:=by
 unfold m4 at *;split at x_
 ·rename_i hw;rw[zo hw];exact Oper.wpIn_mono (λa w hh=>⟨hh.1,h _ _ hh.2⟩) x_
 ·rename_i hw;rw[zv hw];exact h _ _ x_
theorem nQ.mono{fl:Nat→Bool}{i:Nat}{K K':Act→Δ→Prop}{a:Act}{w:Δ}(h:∀a w,K a w→K' a w)(x_:nQ r H P G fl Q i K a w):
  nQ r H P G fl Q i K' a w:=by
 unfold nQ at *;split at x_
 ·exact x_
 ·split at x_
  ·rename_i hq;rw[zo hq];obtain⟨v,y,k⟩:=x_;exact⟨v,y,h _ _ k⟩
  ·rename_i hq;rw[zv hq];exact x_.mono h
theorem wR{fl:Nat→Bool}{K K':Act→Δ→Prop}(h:∀a w,K a w→K' a w):∀(is:List Nat) {a:Act} {w:Δ},DU r H P G fl K Q is a w→DU r H P G fl K' Q is a w
 | [],_,_,x_=>h _ _ x_
 |i::is,a,w,x_=>by
  rw[rR]at x_ ⊢
  exact x_.mono λa w=>wR h is
theorem Yv.of_same{o:Oper}{v:Γ}{a a':Act}{w w':Δ}(hy:Yv H P G o a w v)(hk:rL H w w')(he:execOp a'.eval o=execOp a.eval o)
  (hw:Region.wanted o (yielded G a'.tmps)=Region.wanted o (yielded G a.tmps)):Yv H P G o a' w' v:=by
 rcases hy with⟨h1,h2⟩|⟨h1,h2⟩
 ·exact zq ⟨hw.trans h1,λO I=>he▸h2 O (hk.trans I)⟩
 ·exact zt ⟨hw.trans h1,h2⟩
def T1:Op→Bool
 |.build _ _=>true
 |.extract _ _=>true
 |.move _=>true
 |.assign _=>true
 |_=>false
def L4(G:Array Oper)(x:Nat):Bool:=((G[x]?).map λo=>T1 o.op).getD false
def WI{α:Type}(x:Sem α):Prop:=∀(P:Program) w v w1,x.run P w=.ok v w1→w1=w∧∀w',x.run P w'=.ok v w'
theorem WI.pure{α:Type}(a:α):WI (Pure.pure a:Sem α):=λP w v I h=>by
 rw[ε]at h;cases h;exact⟨C,λw'=>ε ..⟩
theorem WI.bind{α β:Type}{x:Sem α}{f:α→Sem β}(hx:WI x)(hf:∀a,WI (f a)):WI (x >>= f):=λP w v O h=>by
 rw[Ω]at h;cases hr:x.run P w with
 |ok a I=>
  rw[hr]at h;obtain⟨rfl,h2⟩:=hx P w a I hr;obtain⟨rfl,h3⟩:=hf a P _ v O h;exact⟨C,λw'=>by rw[Ω,h2 w'];exact h3 w'⟩
 |halt z I=>rw[hr]at h;cases h
theorem WI.halt{α:Type}(z:Halt):WI (Sem.halt z:Sem α):=λP w v I h=>by cases h
theorem WI.program:WI program:=λP w v I h=>by cases h;exact⟨C,λw'=>C⟩
theorem WI.typeInfo(t:Θ):WI (typeInfo t):=by
 unfold Go.typeInfo;refine WI.bind WI.program λp=>?_
 split
 ·exact WI.pure _
 ·exact WI.halt _
theorem WI.underlying(t:Θ):WI (underlying t):=by
 unfold Go.underlying;refine WI.bind WI.program λp=>?_
 split
 ·exact WI.pure _
 ·exact WI.halt _
theorem WI.sizeOf(t:Θ):WI (sizeOf t):=WI.bind (WI.typeInfo t) λ_=>WI.pure _
theorem WI.zeroValue(t:Θ):WI (zeroValue t):=by
 unfold Go.zeroValue;refine WI.bind (WI.typeInfo t) λp=>?_
 split
 ·exact WI.pure _
 ·exact WI.halt _
theorem WI.mapM{α β:Type}{f:α→Sem β}(hf:∀a,WI (f a))(as:Array α):WI (as.mapM f):=by
 rw[Array.mapM_eq_mapM_toList];refine WI.bind ?_ λ_=>WI.pure _
 generalize as.toList=l;induction l with
 |nil=>exact WI.pure _
 |cons a l ih=>
  rw[uy];exact WI.bind (hf a) λ_=>WI.bind ih λ_=>WI.pure _
theorem WI.build(t:Θ)(parts:Array (Nat×Γ)):WI (Instr.build t parts):=by
 unfold Instr.build;refine WI.bind (WI.zeroValue t) λz=>WI.bind (WI.underlying t) λu=>?_
 split
 ·refine WI.bind (WI.mapM (λf=>WI.bind (WI.sizeOf _) λ_=>WI.pure _) _) λpl=>?_
  split
  ·exact WI.pure _
  ·exact WI.halt _
 ·refine WI.bind (WI.sizeOf _) λsz=>?_
  split
  ·exact WI.pure _
  ·exact WI.halt _
 ·exact WI.halt _
theorem WI.extract(t:Γ)(i:Nat):WI (Instr.extract t i):=by
 unfold Instr.extract;split
 ·split
  ·exact WI.pure _
  ·exact WI.halt _
 ·exact WI.halt _
theorem aHU{o:Oper}(hp:T1 o.op=true){ρ:Operand→Γ}{P:Program}{w:Δ}{v:Γ}(hr:(execOp ρ o).run P w=.ok (.value v) w):∀w',(execOp ρ o).run P w'=.ok (.value v) w':=by
 have:WI (execOp ρ o):=by
  cases o with
  |mk dst op type pos after guard=>
   cases op<;>first|(cases hp)|skip
   all_goals unfold execOp
   ·exact WI.pure _
   ·exact WI.pure _
   ·exact WI.bind (WI.build _ _) λ_=>WI.pure _
   ·exact WI.bind (WI.extract _ _) λ_=>WI.pure _
 exact(this P w _ w hr).2
theorem Yv.of_same'{o:Oper}{v:Γ}{a a':Act}{w w':Δ}(hy:Yv H P G o a w v)(hk:rL H w w'∨T1 o.op=true)(he:execOp a'.eval o=execOp a.eval o)
  (hw:Region.wanted o (yielded G a'.tmps)=Region.wanted o (yielded G a.tmps)):Yv H P G o a' w' v:=by
 rcases hk with hk|hk
 ·exact hy.of_same hk he hw
 ·rcases hy with⟨h1,h2⟩|⟨h1,h2⟩
  ·exact zq ⟨hw.trans h1,λI _=>he▸aHU hk (h2 w (rL.refl _ _)) I⟩
  ·exact zt ⟨hw.trans h1,h2⟩
def PI(Q:Exit→Act→Δ→Prop):Prop:=∀c (a a':Act) w,a'.defers=a.defers→Q (.panic c) a w→Q (.panic c) a' w
theorem UM(a:Act)(d:Option Tmp)(v:Γ):(a.put d v).defers=a.defers:=by cases d<;>rfl
theorem xI{o:Oper}(h:qZ o.op=false):∀cs b,o.op≠.select cs b:=λcs b e=>by rw[e]at h;cases h
theorem Dj{x o:Oper}{f:Bool}{v:Γ}(hap:x.apart G o=true)(hx:qZ x.op=false)(ho:qZ o.op=false)(hf:f=true∨T1 x.op=true)(hQ:PI Q)
  {K:Act→Δ→Prop} {a:Act} {w:Δ} (hy:Yv H P G x a w v) (h:m4 r H P G Q o f K (a.put x.dst v) w):
  m4 r H P G Q o f (λa' w'=>Yv H P G x a' w' v∧K (a'.put x.dst v) w') a w:=by
 obtain⟨h1,h2,h3⟩:=Oper.apart_spec hap;have keep:∀u w',(f=true→rL H w w')→Yv H P G x (a.put o.dst u) w' v:=λu w' hk=>
  hy.of_same' (hf.imp hk id) (execOp_put x (xI hx) a o.dst u h3) (wanted_put x a o.dst u h3)
 unfold m4 at *;rw[wanted_put o a x.dst v h1]at h;split at h
 ·rename_i hw;rw[zo hw];refine⟨λ_ _=>trivial,?_⟩;have h:=h.2;rw[AH ho,execOp_put o (xI ho) a x.dst v h1]at h;rw[AH ho];generalize (execOp a.eval o).run P w=z at *;cases z with
  |ok z w'=>
   cases z<;>simp only[Oper.uponIn]at h ⊢
   case value u=>exact⟨h.1,keep u w' h.1,by rw[←Act.put_comm a v u h2];exact h.2⟩
   case skip=>exact⟨h.1,keep _ w' h.1,by rw[←Act.put_comm a v undef h2];exact h.2⟩
   case defer d=>
    refine⟨h.1,?_,?_⟩
    ·exact(hy.of_same' (a':={a with defers:=d::a.defers}.put o.dst undef) (hf.imp h.1 id)
      ((execOp_put x (xI hx) {a with defers:=d::a.defers} o.dst undef h3).trans C) ((wanted_put x {a with defers:=d::a.defers} o.dst undef h3).trans C))
    ·have e:=h.2;rw[Act.put_defers,Act.put_comm _ v undef h2]at e;exact e
   case enter f args=>
    refine⟨h.1,CallsIn.mono h.2 λe w'' he=>?_⟩;cases e with
    |returned u=>exact⟨he.1,keep u w'' he.1,fx⟩
    |panicked c=>exact hQ _ _ _ _ (UM _ _ _).symm he
    |outgrown=>exact he
   case row row args=>exact⟨h.1,RowsIn.mono h.2 λu w'' he=>⟨he.1,keep u w'' he.1,fx⟩⟩
   case round l f tmps assign body=>
    refine⟨h.1,RoundIn.mono h.2 λe w'' he=>?_⟩;cases e with
    |returned u=>exact⟨he.1,keep u w'' he.1,fx⟩
    |panicked c=>exact hQ _ _ _ _ (UM _ _ _).symm he
    |outgrown=>exact he
  |halt z w'=>
   cases z<;>simp only[Oper.uponIn]at h ⊢
   case panic u=>exact hQ _ _ _ _ (UM _ _ _).symm h
 ·rename_i hw;rw[zv hw];exact⟨keep _ w λ_=>rL.refl _ _,by rw[←Act.put_comm a v undef h2];exact h⟩
theorem p5{x:Nat}(h:jL G x=true):∃o,G[x]?= some o∧lW o.op=true:=by
 unfold jL at h;cases hx:G[x]? with
 |none=>simp[hx]at h
 |some o=>exact⟨o,C,by simpa [hx]using h⟩
theorem a7(h:rY G=true){i:Nat}{o:Oper}(ho:G[i]?= some o):qZ o.op=false:=by
 have hm:o∈G.toList:=by
  rw[rj]at ho;obtain⟨hi,rfl⟩:=ho;simp
 have:=yu.1 h o hm;simpa using this
theorem Kc{fl:Nat→Bool}{x i:Nat}(hnd:rY G=true)(hq:jL G x=true)(hap:rQ G x i=true)(hf:jL G i=true∨fl i=true∨L4 G x=true)
  (hQ:PI Q) {K:Act→Δ→Prop} {a:Act} {w:Δ}
  (h:nQ r H P G fl Q x (nQ r H P G fl Q i K) a w):nQ r H P G fl Q i (nQ r H P G fl Q x K) a w:=by
 obtain⟨ox,hx,hqx⟩:=p5 hq;cases hi:G[i]? with
 |none=>simp[rQ,hx,hi]at hap
 |some oi=>
  have hap':ox.apart G oi=true:=by simpa [rQ,hx,hi]using hap
  have dx:=a7 hnd hx;have di:=a7 hnd hi;obtain⟨h1,h2,h3⟩:=Oper.apart_spec hap';simp only[nQ,hx,hi,hqx,yo]at h ⊢
  obtain⟨v,hy,h⟩:=h;split at h
  ·rename_i hqi;obtain⟨u,hu,h⟩:=h;rw[zo hqi];refine⟨u,hu.of_same (rL.refl _ _) (execOp_put oi (xI di) a ox.dst v h1).symm (wanted_put oi a ox.dst v h1).symm,v,
    hy.of_same (rL.refl _ _) (execOp_put ox (xI dx) a oi.dst u h3) (wanted_put ox a oi.dst u h3),?_⟩
   rw[←Act.put_comm a v u h2];exact h
  ·rename_i hqi;rw[zv hqi];have hfl:fl i=true∨T1 ox.op=true:=by
    rcases hf with hf|hf|hf
    ·obtain⟨o,ho,hqo⟩:=p5 hf;rw[hi]at ho;cases ho;exact absurd hqo hqi
    ·exact zq hf
    ·exact zt (by simpa [L4,hx]using hf)
   refine(Dj hap' dx di hfl hQ hy h).mono λa w hh=>?_
   rw[nQ,hx];simp only[hqx,yo];exact⟨v,hh.1,hh.2⟩
theorem vU{fl:Nat→Bool}{i:Nat}(hnd:rY G=true)(hQ:PI Q){K:Act→Δ→Prop}:
  ∀(c1 c2:List Nat) (a:Act) (w:Δ),(∀x∈c1,jL G x=true∧rQ G x i=true∧(jL G i=true∨fl i=true∨L4 G x=true))→
   DU r H P G fl K Q (c1++i::c2) a w→nQ r H P G fl Q i (DU r H P G fl K Q (c1++c2)) a w:=by
 intro c1;induction c1 with
 |nil=>intro c2 a w _ h;rw[ya,rR]at h;exact h
 |cons x c1 ih=>
  intro c2 a w hc h;rw[we,rR]at h;have h':=h.mono λa w hh=>ih c2 a w (λy hy=>hc y (GT _ hy)) hh
  obtain⟨h1,h2,h3⟩:=hc x zj;have:=Kc hnd h1 h2 h3 hQ h';exact this.mono λa w hh=>by rw[we,rR];exact hh
theorem nQ.wpOpIn{fl:Nat→Bool}{i:Nat}{n:Nat}{K:Act→Δ→Prop}{a:Act}{w:Δ}(h:nQ r H P G fl Q i K a w):wpOpIn (FW r) n P G Q i K a w:=by
 unfold nQ at h;split at h
 ·exact h.elim
 ·rename_i o ho;split at h
  ·rename_i hq;obtain⟨v,hy,h⟩:=h;exact hy.run hq ho h
  ·unfold Go.wpOpIn;simp only[ho];unfold m4 at h;split at h
   ·rename_i hw;rw[zo hw];exact WY (Oper.wpIn_mono (λa w hh=>hh.2) h)
   ·rename_i hw;rw[zv hw];exact⟨λ_ _=>trivial,h⟩
def e_(G:Array Oper)(dL:Array Bool):Prop:=
 ∀(i:Nat) (o:Oper),G[i]?= some o→dL.getD i false=true→∀e∈o.after,Region.binds .any e=true→dL.getD e.on false=true
theorem uV{dL:Array Bool}(hc:e_ G dL):∀(n i x:Nat) (o:Oper),G[i]?= some o→(∀e∈o.after,Region.binds .any e=true→dL.getD e.on false=true)→
  (∀j,dL.getD j false=true→j<G.size)→oA G n i x=true→dL.getD x false=true:=by
 intro n;induction n with
 |zero=>intro i x o _ _ _ h;simp[oA]at h
 |succ n ih=>
  intro i x o ho hall hlt h;simp only[oA,ho,xo,va,rx,zl,yg]at h;obtain⟨e,he,hb,h⟩:=h;have hl:=hall e (by simpa using he) hb;rcases h with h|h
  ·rw[wa h]at hl;exact hl
  ·have hj:=hlt _ hl;exact ih e.on x G[e.on] (by simp[hj]) (hc e.on _ (by simp[hj]) hl) hlt h
theorem uF{n:Nat}:∀(c before c1:List Nat) (i:Nat) (c2:List Nat),vW G n before c=true→c=c1++i::c2→
  Pz G n i (before++c1)=true∧S4 G i (before++c1)=true∧i∉before++c1:=by
 intro c;induction c with
 |nil=>intro before c1 i c2 _ h;simp at h
 |cons x c ih=>
  intro before c1 i c2 hc h;simp only[vW,zl]at hc;cases c1 with
  |nil=>simp only[ya,vx]at h;rw[←h.1];simpa [and_assoc]using hc.1
  |cons y c1=>
   simp only[we,vx]at h;have:=ih (before++[x]) c1 i c2 hc.2 h.2;rw[h.1]at this;simpa using this
def S1(G:Array Oper)(n:Nat)(fl:Nat→Bool)(c:List Nat):Prop:=
 ∀c1 i c2,c=c1++i::c2→∀x∈c1,oA G n i x=true∨(jL G x=true∧rQ G x i=true∧(jL G i=true∨fl i=true∨L4 G x=true))
theorem S1.erase{n:Nat}{fl:Nat→Bool}{c1 c2:List Nat}{i:Nat}(h:S1 G n fl (c1++i::c2)):S1 G n fl (c1++c2):=by
 intro I j d2 he x hx;by_cases hl:I.length<c1.length
 ·obtain⟨t,ht⟩:∃t,c1=I++j::t:=by
   have h1:(c1++c2)[I.length]?= some j:=by rw[he];simp
   rw[uo hl]at h1;have h2:c1.take I.length=I:=by
    have:=zn (List.take I.length) he;rw[vg (Nat.le_of_lt hl)]at this;simpa using this
   refine⟨c1.drop (I.length+1),?_⟩;have h3:=sq I.length c1;rw[h2,xc hl]at h3;rw[yz hl]at h1;rw[yi h1]at h3;exact h3.symm
  exact h I j (t++i::c2) (by rw[ht];simp) x hx
 ·obtain⟨t,ht⟩:∃t,I=c1++t:=by
   have h2:I.take c1.length=c1:=by
    have:=zn (List.take c1.length) he;rw[vg (zk _),ym,vg Yd]at this;exact this.symm
   exact⟨I.drop c1.length,by rw[←h2,wq,uj Yd,sq]⟩
  subst ht;have hc2:c2=t++j::d2:=by
   rw[yy]at he;exact List.append_cancel_left he
  refine h (c1++i::t) j d2 (by rw[hc2];simp) x ?_;simp only[zd,zm]at hx ⊢
  rcases hx with hx|hx
  ·exact zq hx
  ·exact zt (zt hx)
def zX(G:Array Oper)(dL:Array Bool)(c:List Nat):Prop:=
 ∀c1 i c2,c=c1++i::c2→∀o,G[i]?= some o→∀e∈o.after,Region.binds .any e=true→dL.getD e.on false=true∨e.on∈c1
theorem FB{c1 c2 I d2:List Nat}{j:Nat}(he:c1++c2=I++j::d2):
  (∃t,c1=I++j::t∧d2=t++c2)∨(∃t,I=c1++t∧c2=t++j::d2):=by
 rcases List.append_eq_append_iff.1 he with⟨t,h1,h2⟩|⟨t,h1,h2⟩
 ·exact zt ⟨t,h1,h2⟩
 ·cases t with
  |nil=>exact zt ⟨[],by simpa using h1.symm,by simpa using h2.symm⟩
  |cons x t=>
   simp only[we,vx]at h2;exact zq ⟨t,by rw[h1,h2.1],h2.2⟩
theorem zX.erase{dL:Array Bool}{c1 c2:List Nat}{i:Nat}(hi:i<dL.size)(h:zX G dL (c1++i::c2)):zX G (dL.setIfInBounds i true) (c1++c2):=by
 intro I j d2 he o ho e hm hb;rcases FB he with⟨t,h1,h2⟩|⟨t,h1,h2⟩
 ·rcases h I j (t++i::c2) (by rw[h1];simp) o ho e hm hb with hl|hl
  ·exact zq (getD_set_true hl)
  ·exact zt hl
 ·rcases h (c1++i::t) j d2 (by rw[h2];simp) o ho e hm hb with hl|hl
  ·exact zq (getD_set_true hl)
  ·simp only[zd,zm]at hl;rcases hl with hl|hl|hl
   ·exact zt (by rw[h1];simp[hl])
   ·rw[hl];exact zq (by simp[hi])
   ·exact zt (by rw[h1];simp[hl])
theorem pO{dL:Array Bool}{i:Nat}(h:i<dL.size):(dL.setIfInBounds i true).getD i false=true:=by simp[h]
theorem JR{n:Nat}{fl:Nat→Bool}(hnd:rY G=true)(hQ:PI Q):
  ∀(c:List Nat) (dL:Array Bool) (a:Act) (w:Δ),dL.size=G.size→e_ G dL→c.Nodup→
   (∀i,i<G.size→(i∈c ↔ dL.getD i false=false))→(∀i∈c,i<G.size)→S1 G n fl c→zX G dL c→
   DU r H P G fl (λa w=>Q .normal a w) Q c a w→wpAnyIn (FW r) 0 P .any G Q c.length dL a w:=by
 intro c;induction hlen:c.length generalizing c with
 |zero=>
  intro dL a w hs _ _ hm _ _ _ h;have hc:c=[]:=ri.1 hlen;subst hc;refine⟨?_,h⟩;rw[li];intro i hi;obtain⟨hun,o,ho,_⟩:=mem_ready.1 hi;have hlt:i<G.size:=(rj.1 ho).1;have:=(hm i hlt).2 (by rw[uq]at hun ⊢;rw[ne Yd]at hun ⊢;exact hun)
  simp at this
 |succ k ih=>
  intro dL a w hs hcl hnodup hm hlt hg ht h;constructor
  ·intro h0;exfalso
   match c,hlen with
   |i::c',_=>
    have hi:i∈Region.ready .any G dL:=by
     refine mem_ready.2 ⟨?_,G[i]'(hlt i zj),by simp[hlt i zj],?_⟩
     ·have:=(hm i (hlt i zj)).1 zj;rw[uq]at this ⊢
      rw[ne (by rw[hs];exact hlt i zj)]at this ⊢
      exact this
     ·intro e he hb;rcases ht [] i c' C _ (by simp[hlt i zj]) e he hb with h|h
      ·exact h
      ·cases h
    rw[h0]at hi;cases hi
  ·intro i hi;obtain⟨hun,o,ho,hpre⟩:=mem_ready.1 hi;have hil:i<G.size:=(rj.1 ho).1;have hun':dL.getD i false=false:=by
    rw[uq]at hun ⊢
    rw[ne Yd]at hun ⊢
    exact hun
   have hmem:=(hm i hil).2 hun';obtain⟨c1,c2,rfl⟩:=List.append_of_mem hmem;have hfront:∀x∈c1,jL G x=true∧rQ G x i=true∧(jL G i=true∨fl i=true∨L4 G x=true):=by
    intro x hx;rcases hg c1 i c2 C x hx with hr|hr
    ·have hxl:=hlt x (by simp[hx]);have:=uV hcl n i x o ho (λe he hb=>hpre e he hb) (λj hj=>by
      rcases Nat.lt_or_ge j dL.size with h|h
      ·omega
      ·simp[Array.getElem?_eq_none h]at hj) hr
     have h2:=(hm x hxl).1 (by simp[hx]);rw[h2]at this;cases this
    ·exact hr
   have hst:=vU hnd hQ c1 c2 a w hfront h;refine wpOpIn_mono (λa w hh=>?_) hst.wpOpIn;have hlen':(c1++c2).length=k:=by simp at hlen ⊢;omega
   refine ih (c1++c2) hlen' (dL.setIfInBounds i true) a w (by simpa using hs) ?_ ?_ ?_ ?_ hg.erase (ht.erase Yd) hh
   ·intro j oj hj hlj e he hb;by_cases hij:i=j
    ·subst hij;rw[ho]at hj;cases hj
     exact getD_set_true (hpre e he hb)
    ·rw[getD_set_ne false hij]at hlj;exact getD_set_true (hcl j oj hj hlj e he hb)
   ·rw[za]at hnodup ⊢
    refine⟨hnodup.1,(xg.1 hnodup.2.1).2,λx hx y hy=>hnodup.2.2 x hx y (GT _ hy)⟩
   ·intro j hj;by_cases hij:i=j
    ·subst hij;rw[pO Yd];constructor
     ·intro hmem;exfalso
      rw[za]at hnodup;rcases zd.1 hmem with I|O
      ·exact hnodup.2.2 i I i zj C
      ·exact(xg.1 hnodup.2.1).1 O
     ·intro h;cases h
    ·rw[getD_set_ne false hij,←hm j hj];simp only[zd,zm];constructor
     ·rintro(h|h)
      ·exact zq h
      ·exact zt (zt h)
     ·rintro(h|h|h)
      ·exact zq h
      ·exact absurd h.symm hij
      ·exact zt h
   ·intro j hj;refine hlt j ?_;simp only[zd,zm]at hj ⊢
    rcases hj with h|h
    ·exact zq h
    ·exact zt (zt h)
def dL(G:Array Oper)(n:Nat):List Nat→List Nat→List (Bool×Oper)
 |_,[]=>[]
 |before,i::rest=>(vH G n i before,G.getD i default)::dL G n (before++[i]) rest
theorem Mp{n:Nat}{K:Act→Δ→Prop}{fl:Nat→Bool}:∀(c before:List Nat) (a:Act) (w:Δ),(∀i∈c,i<G.size)→
  (∀c1 i c2,c=c1++i::c2→fl i=vH G n i (before++c1))→wT r H P G K Q (dL G n before c) a w→DU r H P G fl K Q c a w:=by
 intro c;induction c with
 |nil=>intro before a w _ _ h;exact h
 |cons i c ih=>
  intro before a w hlt hf h;have hi:=hlt i zj;have ho:G[i]?= some G[i]:=by simp[hi]
  have hd:G.getD i default=G[i]:=by simp[hi]
  have hfi:fl i=vH G n i before:=by simpa using hf [] i c C
  have hrec:∀a w,wT r H P G K Q (dL G n (before++[i]) c) a w→DU r H P G fl K Q c a w:=λa w hh=>
   ih (before++[i]) a w (λj hj=>hlt j (GT _ hj)) (λc1 j c2 he=>by
    rw[hf (i::c1) j c2 (by rw[he];rfl)];simp) hh
  simp only[dL,wT,hd]at h;simp only[DU,ho];split at h
  ·rename_i hq;obtain⟨v,hy,h⟩:=h;rw[zo hq];exact⟨v,hy,hrec _ _ h⟩
  ·rename_i hq;rw[zv hq,hfi];exact h.mono hrec
theorem Wad{n:Nat}:∀(c before:List Nat),vW G n before c=true→before.Nodup→(before++c).Nodup:=by
 intro c;induction c with
 |nil=>intro before _ h;simpa using h
 |cons i c ih=>
  intro before h hb;simp only[vW,zl,vt,n3,yt]at h;have:=ih (before++[i]) h.2 (by
   rw[za];refine⟨hb,Yf,λx hx y hy=>?_⟩;simp only[yf]at hy;rintro rfl;exact h.1.2 (hy▸hx))
  simpa using this
theorem tY{n i x:Nat}:∀{l:List Nat},x∈l→oA G n i x=false→vH G n i l=true
 |y::l,hx,hr=>by
  simp only[vH,yg,vt];rcases zm.1 hx with rfl|hx
  ·exact zq hr
  ·exact zt (tY hx hr)
theorem Mm0{id n:Nat}{c:List Nat}{a:Act}{w:Δ}(hm:P.follows .mixedOrders=true)(hc:Pi G n c=true)(hQ:PI Q)
  (h:wT r H P G (λa w=>Q .normal a w) Q (dL G n [] c) a {w with drawn:=w.drawn+1}):
  (Code.region id G true).wpIn (FW r) 0 P Q a w:=by
 simp only[Pi,zl,th,yu,yj,n3,LE]at hc;obtain⟨⟨⟨hnd,hlen⟩,hall⟩,hfrom⟩:=hc;have hnodup:c.Nodup:=by simpa using Wad c [] hfrom wz
 have hlt:∀i∈c,i<G.size:=by
  intro i hi;obtain⟨c1,c2,rfl⟩:=List.append_of_mem hi;have:=(uF _ [] c1 i c2 hfrom C).2.1;unfold S4 at this;rcases Nat.lt_or_ge i G.size with h|h
  ·exact h
  ·simp[Array.getElem?_eq_none h]at this
 refine wpIn_region_any hm ?_;rw[←hlen];refine JR (H:=H) (fl:=λi=>vH G n i (c.take (c.idxOf i))) (n:=n) hnd hQ c _ a _ (by simp[hlen]) ?_ hnodup ?_ hlt ?_ ?_ ?_
 ·intro i o ho hl;simp[Array.getElem?_replicate]at hl;split at hl<;>simp at hl
 ·intro i hi;simp only[uq,Array.getElem?_replicate,hlen,hi,yo,va,iff_true];exact hall i hi
 ·intro c1 i c2 he x hx;obtain⟨hg,_,_⟩:=uF _ [] c1 i c2 hfrom he;have h1:=yu.1 hg x mr;simp only[yg,zl]at h1;cases hr:oA G n i x with
  |true=>exact zq C
  |false=>
   rw[hr]at h1;have h1:=h1.resolve_left Yf;refine zt ⟨h1.1,h1.2,zt (zq ?_)⟩;have hni:i∉c1:=by
    rw[he,za]at hnodup;intro hm;exact hnodup.2.2 i hm i zj C
   have:c.take (c.idxOf i)=c1:=by
    rw[he,List.idxOf_append,zv hni,List.idxOf_cons_self];simp
   show vH G n i (c.take (c.idxOf i))=true;rw[this];exact tY hx hr
 ·intro c1 i c2 he o ho e hm hb;obtain⟨_,ht,_⟩:=uF _ [] c1 i c2 hfrom he;unfold S4 at ht;rw[ho]at ht;simp only[xo,va,yu,yg,vt,ya,n3,LE]at ht;rcases ht e ob with h|h
  ·rw[hb]at h;cases h
  ·exact zt h
 ·refine Mp (n:=n) c [] a _ hlt ?_ h;intro c1 i c2 he;have hni:i∉c1:=by
   rw[he,za]at hnodup;intro hm;exact hnodup.2.2 i hm i zj C
  have:c.take (c.idxOf i)=c1:=by
   rw[he,List.idxOf_append,zv hni,List.idxOf_cons_self];simp
  show vH G n i (c.take (c.idxOf i))=_;rw[this];rfl
def jC(G:Array Oper)(is:List (Bool×Nat)):List (Bool×Oper):=is.map λp=>(p.1,G.getD p.2 default)
theorem Bi(G:Array Oper):(G.toList.map λo=>(false,o))=jC G ((List.range G.size).map λi=>(false,i)):=by
 apply List.ext_getElem
 ·simp[jC]
 ·intro i h1 h2;simp[jC]at h1 ⊢
  simp[h1]

def UZ(G:Array Oper)(n:Nat)(fls:List Bool)(E:List Nat)(i:Nat)(before:List Nat):Bool:=
 before.all λx=>E.contains x||oA G n i x||(jL G x&&rQ G x i&&(jL G i||(fls.getD i false||L4 G x)))
def b8(G:Array Oper)(n:Nat)(E:List Nat)(fl:Nat→Bool)(c:List Nat):Prop:=
 ∀c1 i c2,c=c1++i::c2→∀x∈c1,x∈E∨oA G n i x=true∨(jL G x=true∧rQ G x i=true∧(jL G i=true∨fl i=true∨L4 G x=true))
theorem b8.erase{n:Nat}{E:List Nat}{fl:Nat→Bool}{c1 c2:List Nat}{i:Nat}(h:b8 G n E fl (c1++i::c2)):b8 G n E fl (c1++c2):=by
 intro I j d2 he x hx;rcases FB he with⟨t,h1,h2⟩|⟨t,h1,h2⟩
 ·exact h I j (t++i::c2) (by rw[h1];simp) x hx
 ·refine h (c1++i::t) j d2 (by rw[h2];simp) x ?_;rw[h1]at hx;simp only[zd,zm]at hx ⊢
  rcases hx with hx|hx
  ·exact zq hx
  ·exact zt (zt hx)
theorem b8.none{n:Nat}{E:List Nat}{fl:Nat→Bool}{c:List Nat}(h:b8 G n E fl c)(hp:∀e∈E,e∉c):S1 G n fl c:=by
 intro c1 i c2 he x hx;rcases h c1 i c2 he x hx with h|h
 ·exact absurd (by rw[he];simp[hx]) (hp x h)
 ·exact h
theorem qU{fl:Nat→Bool}{K:Act→Δ→Prop}:∀(c d:List Nat) (a:Act) (w:Δ),DU r H P G fl (DU r H P G fl K Q d) Q c a w→DU r H P G fl K Q (c++d) a w
 | [],d,a,w,h=>h
 |i::c,d,a,w,h=>by
  rw[we,rR];rw[rR]at h;exact h.mono λa w=>qU c d a w
structure MB(G:Array Oper)(n:Nat)(dL:Array Bool)(c:List Nat):Prop where
 size:dL.size=G.size
 closed:e_ G dL
 nodup:c.Nodup
 mem:∀i,i<G.size→(i∈c ↔ dL.getD i false=false)
 lt:∀i∈c,i<G.size
 topo:zX G dL c
theorem MB.step{n:Nat}{dL:Array Bool}{c1 c2:List Nat}{i:Nat}{o:Oper}(h:MB G n dL (c1++i::c2))(ho:G[i]?= some o)(hpre:∀e∈o.after,Region.binds .any e=true→dL.getD e.on false=true):MB G n (dL.setIfInBounds i true) (c1++c2):=by
 have hil:i<G.size:=(rj.1 ho).1;have hs:=h.size;refine⟨by simpa using hs,?_,?_,?_,?_,h.topo.erase Yd⟩
 ·intro j oj hj hlj e he hb;by_cases hij:i=j
  ·subst hij;rw[ho]at hj;cases hj
   exact getD_set_true (hpre e he hb)
  ·rw[getD_set_ne false hij]at hlj;exact getD_set_true (h.closed j oj hj hlj e he hb)
 ·have hnodup:=h.nodup;rw[za]at hnodup ⊢
  exact⟨hnodup.1,(xg.1 hnodup.2.1).2,λx hx y hy=>hnodup.2.2 x hx y (GT _ hy)⟩
 ·intro j hj;have hnodup:=h.nodup;by_cases hij:i=j
  ·subst hij;rw[pO Yd];constructor
   ·intro hmem;exfalso
    rw[za]at hnodup;rcases zd.1 hmem with I|O
    ·exact hnodup.2.2 i I i zj C
    ·exact(xg.1 hnodup.2.1).1 O
   ·intro h;cases h
  ·rw[getD_set_ne false hij,←h.mem j hj];simp only[zd,zm];constructor
   ·rintro(h|h)
    ·exact zq h
    ·exact zt (zt h)
   ·rintro(h|h|h)
    ·exact zq h
    ·exact absurd h.symm hij
    ·exact zt h
 ·intro j hj;refine h.lt j ?_;simp only[zd,zm]at hj ⊢
  rcases hj with h|h
  ·exact zq h
  ·exact zt (zt h)
inductive jA where
 |fin (c:List Nat)
 |fork (d:List Nat) (p:Nat) (A:jA) (q:Nat) (B:jA)
 |forkN (d:List Nat) (p:Nat) (ps:List Nat) (A:Nat→jA)
def jA.list:jA→List Nat
 |.fin c=>c
 |.fork d p A _ _=>d++p::A.list
 |.forkN d p _ A=>d++p::(A p).list
def pR:List jA→List Nat
 | []=>[]
 |pl::segs=>pl.list++pR segs
def sr(r:Option Nat){γb:Type}[Membership Nat γb](H:γb)(P:Program)(G:Array Oper)(fl:Nat→Bool)(Q:Exit→Act→Δ→Prop)(kont:Act→Δ→Prop):jA→Act→Δ→Prop
 |.fin c=>DU r H P G fl kont Q c
 |.fork d p A q B=>DU r H P G fl (λa w=>nQ r H P G fl Q p (sr r H P G fl Q kont A) a w∧nQ r H P G fl Q q (sr r H P G fl Q kont B) a w) Q d
 |.forkN d p ps A=>DU r H P G fl (λa w=>∀i∈p::ps,nQ r H P G fl Q i (sr r H P G fl Q kont (A i)) a w) Q d
def ca(r:Option Nat){γb:Type}[Membership Nat γb](H:γb)(P:Program)(G:Array Oper)(fl:Nat→Bool)(Q:Exit→Act→Δ→Prop):List jA→Act→Δ→Prop
 | []=>λa w=>Q .normal a w
 |pl::segs=>sr r H P G fl Q (ca r H P G fl Q segs) pl
def kW(G:Array Oper)(n:Nat)(cont:List Nat→List Nat→Array Bool→Prop)(rest:List Nat):jA→List Nat→List Nat→Array Bool→Prop
 |.fin c,pre,E,w_=>cont (pre++c) E w_
 |.fork d p A q B,pre,E,w_=>kW G n cont rest A (pre++d++[p]) (p::E) w_∧kW G n cont rest B (pre++d++[q]) (q::E) w_∧q∈A.list++rest∧A.list.length=B.list.length∧∀i∈A.list++rest,i=q∨oA G n i p=true∨oA G n i q=true
 |.forkN d p ps A,pre,E,w_=>(∀i∈p::ps,kW G n cont rest (A i) (pre++d++[i]) (i::E) w_∧(A i).list.length=(A p).list.length∧(i=p∨i∈(A p).list++rest))∧∀i∈(A p).list++rest,i∈ps∨∃q∈p::ps,oA G n i q=true
def jz(G:Array Oper)(n:Nat)(fl:Nat→Bool):List jA→List Nat→List Nat→Array Bool→Prop
 | [],pre,E,w_=>MB G n w_ pre∧b8 G n E fl pre
 |pl::segs,pre,E,w_=>kW G n (jz G n fl segs) (pR segs) pl pre E w_
structure IF(G:Array Oper)(n:Nat)(fl:Nat→Bool)(cont:List Nat→List Nat→Array Bool→Prop)(rest:List Nat):Prop where
 part:∀pre E w_,cont pre E w_→MB G n w_ (pre++rest)
 good:∀pre E w_,cont pre E w_→b8 G n E fl pre
 erase:∀c1 i c2 E w_ (o:Oper),G[i]?= some o→(∀e∈o.after,Region.binds .any e=true→w_.getD e.on false=true)→cont (c1++i::c2) E w_→cont (c1++c2) E (w_.setIfInBounds i true)
theorem kW.part{n:Nat}{fl:Nat→Bool}{cont:List Nat→List Nat→Array Bool→Prop}{rest:List Nat}(hc:IF G n fl cont rest):∀{pl:jA} {pre E:List Nat} {w_:Array Bool},kW G n cont rest pl pre E w_→MB G n w_ (pre++(pl.list++rest))
 |.fin c,pre,E,w_,h=>by
  have:=hc.part _ _ _ h;rw[yy]at this;exact this
 |.fork d p A q B,pre,E,w_,h=>by
  have:=kW.part hc h.1;simpa [jA.list]using this
 |.forkN d p ps A,pre,E,w_,h=>by
  have:=kW.part hc (h.1 p zj).1;simpa [jA.list]using this
theorem kW.good{n:Nat}{fl:Nat→Bool}{cont:List Nat→List Nat→Array Bool→Prop}{rest:List Nat}(hc:IF G n fl cont rest):∀{pl:jA} {pre E:List Nat} {w_:Array Bool},kW G n cont rest pl pre E w_→b8 G n E fl pre
 |.fin c,pre,E,w_,h=>by
  intro c1 i c2 he x hx;exact hc.good _ _ _ h c1 i (c2++c) (by rw[he];simp) x hx
 |.fork d p A q B,pre,E,w_,h=>by
  intro c1 i c2 he x hx;have h1:=kW.good hc h.1 c1 i (c2++d++[p]) (by rw[he];simp) x hx
  have hn:=(kW.part hc h.1).nodup;rcases h1 with h1|h1
  ·rcases zm.1 h1 with rfl|h1
   ·exfalso
    rw[he]at hn;simp only[yy]at hn;rw[za]at hn;exact hn.2.2 x hx x Yf C
   ·exact zq h1
  ·exact zt h1
 |.forkN d p ps A,pre,E,w_,h=>by
  intro c1 i c2 he x hx;have h1:=kW.good hc (h.1 p zj).1 c1 i (c2++d++[p]) (by rw[he];simp) x hx
  have hn:=(kW.part hc (h.1 p zj).1).nodup;rcases h1 with h1|h1
  ·rcases zm.1 h1 with rfl|h1
   ·exfalso
    rw[he]at hn;simp only[yy]at hn;rw[za]at hn;exact hn.2.2 x hx x Yf C
   ·exact zq h1
  ·exact zt h1
theorem kW.erase{n:Nat}{fl:Nat→Bool}{cont:List Nat→List Nat→Array Bool→Prop}{rest:List Nat}(hc:IF G n fl cont rest){i:Nat}{o:Oper}(ho:G[i]?= some o){w_:Array Bool}(hpre:∀e∈o.after,Region.binds .any e=true→w_.getD e.on false=true):∀{pl:jA} {c1 c2 E:List Nat},kW G n cont rest pl (c1++i::c2) E w_→kW G n cont rest pl (c1++c2) E (w_.setIfInBounds i true)
 |.fin c,c1,c2,E,h=>by
  have h':cont (c1++i::(c2++c)) E w_:=by
   have h2:cont (c1++i::c2++c) E w_:=h;simpa using h2
  have:=hc.erase c1 i (c2++c) E w_ o ho hpre h';show cont (c1++c2++c) E _;rw[yy];exact this
 |.fork d p A q B,c1,c2,E,h=>by
  obtain⟨h1,h2,h3⟩:=h;have e:∀z:Nat,c1++i::c2++d++[z]=c1++i::(c2++d++[z]):=λz=>by simp
  have e':∀z:Nat,c1++(c2++d++[z])=c1++c2++d++[z]:=λz=>by simp
  rw[e]at h1 h2;have I:=kW.erase hc ho hpre h1;have O:=kW.erase hc ho hpre h2;rw[e']at I O;exact⟨I,O,h3⟩
 |.forkN d p ps A,c1,c2,E,h=>by
  refine⟨λz hz=>?_,h.2⟩;obtain⟨h1,h2,h3⟩:=h.1 z hz;have e:c1++i::c2++d++[z]=c1++i::(c2++d++[z]):=Yf
  have e':c1++(c2++d++[z])=c1++c2++d++[z]:=Yf
  rw[e]at h1;have I:=kW.erase hc ho hpre h1;rw[e']at I;exact⟨I,h2,h3⟩
theorem UC(n:Nat)(fl:Nat→Bool):∀segs:List jA,IF G n fl (jz G n fl segs) (pR segs)
 | []=>⟨λpre E w_ h=>by rw[pR,yr];exact h.1,λpre E w_ h=>h.2,λc1 i c2 E w_ o ho hpre h=>⟨h.1.step ho hpre,h.2.erase⟩⟩
 |_::segs=>⟨λpre E w_ h=>kW.part (UC n fl segs) h,λpre E w_ h=>kW.good (UC n fl segs) h,λc1 i c2 E w_ o ho hpre h=>kW.erase (UC n fl segs) ho hpre h⟩
theorem MB.frontE{n:Nat}{E:List Nat}{fl:Nat→Bool}{dL:Array Bool}{c1 c2 c3:List Nat}{i:Nat}{o:Oper}(h:MB G n dL (c1++i::c3))(hg:b8 G n E fl (c1++i::c2))(ho:G[i]?= some o)(hpre:∀e∈o.after,Region.binds .any e=true→dL.getD e.on false=true)(hE:∀e∈E,e∉c1):
  ∀x∈c1,jL G x=true∧rQ G x i=true∧(jL G i=true∨fl i=true∨L4 G x=true):=by
 intro x hx;rcases hg c1 i c2 C x hx with he|hr|hr
 ·exact absurd hx (hE x he)
 ·have hxl:=h.lt x (by simp[hx]);have:=uV h.closed n i x o ho hpre (λj hj=>by
   rcases Nat.lt_or_ge j dL.size with h'|h'
   ·have:=h.size;omega
   ·simp[Array.getElem?_eq_none h']at hj) hr
  have h2:=(h.mem x hxl).1 (by simp[hx]);rw[h2]at this;cases this
 ·exact hr
theorem j1{fl:Nat→Bool}{K:Act→Δ→Prop}{i:Nat}{a:Act}{w:Δ}(h:nQ r H P G fl Q i K a w):DU r H P G fl K Q [i] a w:=by
 rw[rR];exact h
theorem xU{n:Nat}{fl:Nat→Bool}{cont:List Nat→List Nat→Array Bool→Prop}{rest:List Nat}{kont:Act→Δ→Prop}(hnd:rY G=true)(hQ:PI Q)(hc:IF G n fl cont rest)
  (hcont:∀(pre E:List Nat) (w_:Array Bool) (a:Act) (w:Δ),(∀e∈E,w_.getD e false=true)→cont pre E w_→DU r H P G fl kont Q pre a w→wpAnyIn (FW r) 0 P .any G Q (pre++rest).length w_ a w):
  ∀(pl:jA) (pre E:List Nat) (w_:Array Bool) (a:Act) (w:Δ),(∀e∈E,w_.getD e false=true)→kW G n cont rest pl pre E w_→DU r H P G fl (sr r H P G fl Q kont pl) Q pre a w→
  wpAnyIn (FW r) 0 P .any G Q (pre++(pl.list++rest)).length w_ a w
 |.fin c,pre,E,w_,a,w,hE,hr,h=>by
  have:=hcont (pre++c) E w_ a w hE hr (qU pre c a w h);rw[yy]at this;exact this
 |.fork d p A q B,pre,E,w_,a,w,hE,hr,h=>by
  have hmain:∀(m:Nat) (d':List Nat) (w_:Array Bool) (a:Act) (w:Δ),d'.length=m→(∀e∈E,w_.getD e false=true)→kW G n cont rest A (d'++[p]) (p::E) w_→kW G n cont rest B (d'++[q]) (q::E) w_→q∈A.list++rest→A.list.length=B.list.length→(∀i∈A.list++rest,i=q∨oA G n i p=true∨oA G n i q=true)→
    DU r H P G fl (λa w=>nQ r H P G fl Q p (sr r H P G fl Q kont A) a w∧nQ r H P G fl Q q (sr r H P G fl Q kont B) a w) Q d' a w→wpAnyIn (FW r) 0 P .any G Q (d'++p::(A.list++rest)).length w_ a w:=by
   intro m;induction m using Nat.strongRecOn with
   |_ m ih=>
   intro d' w_ a w hm hE hA hB hqA hlen he h;have h1:=kW.part hc hA;have h2:=kW.part hc hB;rw[yy]at h1 h2;have gA:=kW.good hc hA;have gB:=kW.good hc hB;simp only[rh]at h1 h2;obtain⟨k,hk⟩:∃k,(d'++p::(A.list++rest)).length=k+1:=⟨d'.length+(A.list++rest).length,xw⟩
   rw[hk];constructor
   ·intro h0;exfalso
    match hcc:d'++p::(A.list++rest),hk with
    |i::c',_=>
     rw[hcc]at h1;have hil:=h1.lt i zj;have hi:i∈Region.ready .any G w_:=by
      refine mem_ready.2 ⟨?_,G[i],by simp[hil],?_⟩
      ·have:=(h1.mem i hil).1 zj;rw[uq]at this ⊢
       rw[ne l2]at this ⊢
       exact this
      ·intro e he hb;rcases h1.topo [] i c' C _ (by simp[hil]) e he hb with h|h
       ·exact h
       ·cases h
     rw[h0]at hi;cases hi
   ·intro i hi;obtain⟨hun,o,ho,hpre⟩:=mem_ready.1 hi;have hil:i<G.size:=(rj.1 ho).1;have hun':w_.getD i false=false:=by
     have:=h1.size;rw[uq]at hun ⊢
     rw[ne Yd]at hun ⊢
     exact hun
    have hmem:=(h1.mem i hil).2 hun';have I:∀x,x∈d'++p::(A.list++rest)→oA G n i x=true→False:=by
     intro x hx hr;have:=uV h1.closed n i x o ho hpre (λj hj=>by
      rcases Nat.lt_or_ge j w_.size with h'|h'
      ·have:=h1.size;omega
      ·simp[Array.getElem?_eq_none h']at hj) hr
     have h2:=(h1.mem x (h1.lt x hx)).1 hx;rw[h2]at this;cases this
    have hEd:∀e∈E,e∉d':=λe he hm=>by
     have:=(h1.mem e (h1.lt e qe)).1 qe;rw[hE e he]at this;cases this
    have hnA:p∉d':=λhp=>by
     have hn:=h1.nodup;rw[za]at hn;exact hn.2.2 p hp p Yf C
    have hnB:q∉d':=λhp=>by
     have hn:=h2.nodup;rw[za]at hn;exact hn.2.2 q hp q Yf C
    rw[zd,zm]at hmem;rcases hmem with hm'|rfl|hm'
    ·obtain⟨c1,c2,rfl⟩:=List.append_of_mem hm';have U:∀z:Nat,(c1++i::c2)++[z]=c1++i::(c2++[z]):=λz=>by simp
     have V:∀z:Nat,c1++(c2++[z])=(c1++c2)++[z]:=λz=>by simp
     rw[U]at hA hB gA;have O:(c1++i::(c2++p::(A.list++rest))).length=k+1:=by rw[←hk];simp
     have h1':MB G n w_ (c1++i::(c2++p::(A.list++rest))):=vj
     have hf:=h1'.frontE gA ho hpre (λe he hm=>by
      rcases zm.1 he with rfl|he
      ·exact hnA qe
      ·exact hEd e he qe)
     have hst:=vU hnd hQ c1 c2 a w hf h;refine wpOpIn_mono (λa w hh=>?_) hst.wpOpIn;have sA:=kW.erase hc ho hpre hA;have sB:=kW.erase hc ho hpre hB;rw[V]at sA sB;have:=ih (c1++c2).length (by rw[←hm];simp) (c1++c2) _ a w C (λe he=>getD_set_true (hE e he)) sA sB hqA hlen ‹_› hh
     have hl:((c1++c2)++p::(A.list++rest)).length=k:=by simp at O ⊢;omega
     rw[hl]at this;exact this
    ·have hw:=qU (K:=λa w=>sr r H P G fl Q kont A a w) d' [i] a w (wR (λ_ _ h=>j1 h.1) d' h);have hf:=h1.frontE (c2:=[]) gA ho hpre (λe he hm=>by
      rcases zm.1 he with rfl|he
      ·exact hnA hm
      ·exact hEd e he hm)
     have hst:=vU hnd hQ d' [] a w hf hw;refine wpOpIn_mono (λa w hh=>?_) hst.wpOpIn;have sA:=kW.erase hc ho hpre hA;rw[yr]at sA hh;have:=xU hnd hQ hc hcont A d' (i::E) _ a w (λe he=>by
      rcases zm.1 he with rfl|he
      ·exact pO l2
      ·exact getD_set_true (hE e he)) sA hh
     have hl:(d'++(A.list++rest)).length=k:=by simp at hk ⊢;omega
     rw[hl]at this;exact this
    ·by_cases hiq:i=q
     ·subst hiq;have hw:=qU (K:=λa w=>sr r H P G fl Q kont B a w) d' [i] a w (wR (λ_ _ h=>j1 h.2) d' h);have hf:=h2.frontE (c2:=[]) gB ho hpre (λe he hm=>by
       rcases zm.1 he with rfl|he
       ·exact hnB hm
       ·exact hEd e he hm)
      have hst:=vU hnd hQ d' [] a w hf hw;refine wpOpIn_mono (λa w hh=>?_) hst.wpOpIn;have sB:=kW.erase hc ho hpre hB;rw[yr]at sB hh;have:=xU hnd hQ hc hcont B d' (i::E) _ a w (λe he=>by
       rcases zm.1 he with rfl|he
       ·exact pO l2
       ·exact getD_set_true (hE e he)) sB hh
      have hl:(d'++(B.list++rest)).length=k:=by simp at hk ⊢;omega
      rw[hl]at this;exact this
     ·exfalso
      rcases he i hm' with hr|hr|hr
      ·exact hiq hr
      ·exact I p Yf hr
      ·exact I q (LT _ (GT _ hqA)) hr
  obtain⟨hA,hB,hqA,hlen,he⟩:=hr;have:=hmain (pre++d).length (pre++d) w_ a w C hE hA hB hqA hlen he (qU pre d a w h);have e:pre++d++p::(A.list++rest)=pre++((jA.fork d p A q B).list++rest):=by simp[jA.list]
  rw[e]at this;exact this

 |.forkN d p ps A,pre,E,w_,a,w,hE,hr,h=>by
  have hmain:∀(m:Nat) (d':List Nat) (w_:Array Bool) (a:Act) (w:Δ),d'.length=m→(∀e∈E,w_.getD e false=true)→(∀i∈p::ps,kW G n cont rest (A i) (d'++[i]) (i::E) w_∧(A i).list.length=(A p).list.length∧(i=p∨i∈(A p).list++rest))→(∀i∈(A p).list++rest,i∈ps∨∃q∈p::ps,oA G n i q=true)→
    DU r H P G fl (λa w=>∀i∈p::ps,nQ r H P G fl Q i (sr r H P G fl Q kont (A i)) a w) Q d' a w→wpAnyIn (FW r) 0 P .any G Q (d'++p::((A p).list++rest)).length w_ a w:=by
   intro m;induction m using Nat.strongRecOn with
   |_ m ih=>
   intro d' w_ a w hm hE hA he h;have h1:=kW.part hc (hA p zj).1;rw[yy]at h1;simp only[rh]at h1;obtain⟨k,hk⟩:∃k,(d'++p::((A p).list++rest)).length=k+1:=⟨d'.length+((A p).list++rest).length,xw⟩
   rw[hk];constructor
   ·intro h0;exfalso
    match hcc:d'++p::((A p).list++rest),hk with
    |i::c',_=>
     rw[hcc]at h1;have hil:=h1.lt i zj;have hi:i∈Region.ready .any G w_:=by
      refine mem_ready.2 ⟨?_,G[i],by simp[hil],?_⟩
      ·have:=(h1.mem i hil).1 zj;rw[uq]at this ⊢
       rw[ne l2]at this ⊢
       exact this
      ·intro e he hb;rcases h1.topo [] i c' C _ (by simp[hil]) e he hb with h|h
       ·exact h
       ·cases h
     rw[h0]at hi;cases hi
   ·intro i hi;obtain⟨hun,o,ho,hpre⟩:=mem_ready.1 hi;have hil:i<G.size:=(rj.1 ho).1;have hun':w_.getD i false=false:=by
     have:=h1.size;rw[uq]at hun ⊢
     rw[ne Yd]at hun ⊢
     exact hun
    have hmem:=(h1.mem i hil).2 hun';have I:∀x,x∈d'++p::((A p).list++rest)→oA G n i x=true→False:=by
     intro x hx hr;have:=uV h1.closed n i x o ho hpre (λj hj=>by
      rcases Nat.lt_or_ge j w_.size with h'|h'
      ·have:=h1.size;omega
      ·simp[Array.getElem?_eq_none h']at hj) hr
     have h2:=(h1.mem x (h1.lt x hx)).1 hx;rw[h2]at this;cases this
    have hEd:∀e∈E,e∉d':=λe he hm=>by
     have:=(h1.mem e (h1.lt e qe)).1 qe;rw[hE e he]at this;cases this
    have hnz:∀z∈p::ps,z∉d':=λz hz hp=>by
     have hn:=(kW.part hc (hA z hz).1).nodup;rw[yy,za]at hn;exact hn.2.2 z hp z Yf C
    have hin:∀z∈p::ps,z∈d'++p::((A p).list++rest):=λz hz=>by
     rcases(hA z hz).2.2 with rfl|hz'
     ·simp
     ·exact LT _ (GT _ hz')
    by_cases hz:i∈p::ps
    ·have h2:=kW.part hc (hA i hz).1;rw[yy]at h2;simp only[rh]at h2;have hw:=qU (K:=λa w=>sr r H P G fl Q kont (A i) a w) d' [i] a w (wR (λ_ _ h=>j1 (h i hz)) d' h);have hf:=h2.frontE (c2:=[]) (kW.good hc (hA i hz).1) ho hpre (λe he hm=>by
      rcases zm.1 he with rfl|he
      ·exact hnz _ hz hm
      ·exact hEd e he hm)
     have hst:=vU hnd hQ d' [] a w hf hw;refine wpOpIn_mono (λa w hh=>?_) hst.wpOpIn;have sA:=kW.erase hc ho hpre (hA i hz).1;rw[yr]at sA hh;have:=xU hnd hQ hc hcont (A i) d' (i::E) _ a w (λe he=>by
      rcases zm.1 he with rfl|he
      ·exact pO l2
      ·exact getD_set_true (hE e he)) sA hh
     have hl:(d'++((A i).list++rest)).length=k:=by
      have:=(hA i hz).2.1;simp at hk ⊢;omega
     rw[hl]at this;exact this
    ·rw[zd,zm]at hmem;rcases hmem with hm'|rfl|hm'
     ·obtain⟨c1,c2,rfl⟩:=List.append_of_mem hm';have U:∀z:Nat,(c1++i::c2)++[z]=c1++i::(c2++[z]):=λz=>by simp
      have V:∀z:Nat,c1++(c2++[z])=(c1++c2)++[z]:=λz=>by simp
      have gA:=kW.good hc (hA p zj).1;rw[U]at gA;have O:(c1++i::(c2++p::((A p).list++rest))).length=k+1:=by rw[←hk];simp
      have h1':MB G n w_ (c1++i::(c2++p::((A p).list++rest))):=vj
      have hf:=h1'.frontE gA ho hpre (λe he hm=>by
       rcases zm.1 he with rfl|he
       ·exact hnz _ zj qe
       ·exact hEd e he qe)
      have hst:=vU hnd hQ c1 c2 a w hf h;refine wpOpIn_mono (λa w hh=>?_) hst.wpOpIn;have:=ih (c1++c2).length (by rw[←hm];simp) (c1++c2) _ a w C (λe he=>getD_set_true (hE e he)) (λz hz=>by
       have R:=(hA z hz).1;rw[U]at R;have sA:=kW.erase hc ho hpre R;rw[V]at sA;exact⟨sA,(hA z hz).2⟩) he hh
      have hl:((c1++c2)++p::((A p).list++rest)).length=k:=by simp at O ⊢;omega
      rw[hl]at this;exact this
     ·exact absurd zj hz
     ·rcases he i hm' with hr|⟨q,hq,hr⟩
      ·exact absurd (GT _ hr) hz
      ·exact(I q (hin q hq) hr).elim
  obtain⟨hA,he⟩:=hr;have:=hmain (pre++d).length (pre++d) w_ a w C hE hA he (qU pre d a w h);have e:pre++d++p::((A p).list++rest)=pre++((jA.forkN d p ps A).list++rest):=by simp[jA.list]
  rw[e]at this;exact this
theorem DZ{n:Nat}{fl:Nat→Bool}(hnd:rY G=true)(hQ:PI Q):∀(segs:List jA) (pre E:List Nat) (w_:Array Bool) (a:Act) (w:Δ),(∀e∈E,w_.getD e false=true)→jz G n fl segs pre E w_→DU r H P G fl (ca r H P G fl Q segs) Q pre a w→
  wpAnyIn (FW r) 0 P .any G Q (pre++pR segs).length w_ a w
 | [],pre,E,w_,a,w,hE,hr,h=>by
  obtain⟨hp,hg⟩:=hr;rw[pR,yr];refine JR hnd hQ pre w_ a w hp.size hp.closed hp.nodup hp.mem hp.lt (hg.none λe he hm=>?_) hp.topo h;have:=(hp.mem e (hp.lt e hm)).1 hm;rw[hE e he]at this;cases this
 |pl::segs,pre,E,w_,a,w,hE,hr,h=>
  xU hnd hQ (UC n fl segs) (DZ hnd hQ segs) pl pre E w_ a w hE hr h

def Sm(G:Array Oper)(n:Nat)(fls:List Bool)(S:List Nat)(i:Nat):Bool:=S.all λx=>oA G n i x||(jL G x&&rQ G x i&&(jL G i||(fls.getD i false||L4 G x)))
def wN(G:Array Oper)(n:Nat)(fls:List Bool)(S E:List Nat):List Nat→List Nat→Bool
 |_,[]=>true
 |before,i::rest=>UZ G n fls E i before&&Sm G n fls S i&&S4 G i (S++before)&& !(S++before).contains i&&Nat.blt i G.size&&wN G n fls S E (before++[i]) rest
def xY(G:Array Oper)(n:Nat)(fls:List Bool)(S rest w9:List Nat):jA→List Nat→List Nat→Bool
 |.fin c,pre,E=>wN G n fls S E [] (pre++c)&&Nat.beq (pre++c).length w9.length&&(pre++c).all w9.contains&&w9.all (pre++c).contains
 |.fork d p A q B,pre,E=>xY G n fls S rest w9 A (pre++d++[p]) (p::E)&&xY G n fls S rest w9 B (pre++d++[q]) (q::E)&&((A.list++rest).any λi=>Nat.beq i q)&&Nat.beq A.list.length B.list.length&&(A.list++rest).all λi=>Nat.beq i q||(oA G n i p||oA G n i q)
 |.forkN d p ps A,pre,E=>(p::ps).all (λi=>xY G n fls S rest w9 (A i) (pre++d++[i]) (i::E)&&Nat.beq (A i).list.length (A p).list.length&&(Nat.beq i p||((A p).list++rest).contains i))&&((A p).list++rest).all λi=>ps.contains i||(p::ps).any λq=>oA G n i q
def lN(G:Array Oper)(n:Nat)(fls:List Bool):List Nat→List jA→Bool
 |S,[]=>rY G&&Nat.beq S.length G.size&&(List.range G.size).all S.contains
 |S,pl::segs=>xY G n fls S (pR segs) pl.list pl [] []&&lN G n fls (S++pl.list) segs
structure PP(G:Array Oper)(n:Nat)(fls:List Bool)(S pre E:List Nat):Prop where
 nodup:pre.Nodup
 mem:∀i,i∈pre ↔ i∈S
 lt:∀i∈pre,i<G.size
 good:b8 G n E (λi=>fls.getD i false) pre
 topo:zX G (Array.replicate G.size false) pre
 len:pre.length=S.length
theorem RE{n:Nat}{S E:List Nat}{fls:List Bool}:∀(c before c1:List Nat) (i:Nat) (c2:List Nat),wN G n fls S E before c=true→c=c1++i::c2→
  UZ G n fls E i (before++c1)=true∧Sm G n fls S i=true∧S4 G i (S++(before++c1))=true∧i∉S++(before++c1)∧i<G.size:=by
 intro c;induction c with
 |nil=>intro before c1 i c2 _ h;simp at h
 |cons x c ih=>
  intro before c1 i c2 hc h;simp only[wN,zl]at hc;obtain⟨⟨⟨⟨⟨g,cr⟩,t⟩,nm⟩,lt⟩,hc⟩:=hc;cases c1 with
  |nil=>
   simp only[ya,vx]at h;rw[←h.1,yr];exact⟨g,cr,t,by simpa using nm,by simpa [Nat.blt_eq]using lt⟩
  |cons y c1=>
   simp only[we,vx]at h;have:=ih (before++[x]) c1 i c2 hc h.2;rw[h.1]at this;simpa using this
theorem PP.more{n:Nat}{fls:List Bool}{S pre E E' w9 c:List Nat}(h:PP G n fls S pre E)(hE:∀e∈E,e∈E')(hc:wN G n fls S E' [] c=true)(hT:∀i,i∈c ↔ i∈w9)(hl:c.length=w9.length):PP G n fls (S++w9) (pre++c) E':=by
 have sp:=λc1 i c2 he=>RE c [] c1 i c2 hc he
 simp only[ya]at sp;have hcn:c.Nodup:=by
  have key:∀(c before:List Nat),wN G n fls S E' before c=true→before.Nodup→(before++c).Nodup:=by
   intro c;induction c with
   |nil=>intro before _ h;simpa using h
   |cons i c ih=>
    intro before h hb;simp only[wN,zl]at h;have hn:i∉S++before:=by simpa using h.1.1.2
    have:=ih (before++[i]) h.2 (by
     rw[za];refine⟨hb,Yf,λx hx y hy=>?_⟩;simp only[yf]at hy;rintro rfl;exact hn (LT _ (hy▸hx)))
    simpa using this
  simpa using key c [] hc wz
 have hcS:∀i∈c,i∉S:=λi hi=>by
  obtain⟨c1,c2,rfl⟩:=List.append_of_mem hi;have:=(sp c1 i c2 C).2.2.2.1;exact λhS=>this (yw _ hS)
 refine⟨?_,λi=>?_,λi hi=>?_,?_,?_,by simp[h.len,hl]⟩
 ·rw[za];exact⟨h.nodup,hcn,λx hx y hy=>by rintro rfl;exact hcS x hy ((h.mem x).1 hx)⟩
 ·simp[h.mem,hT]
 ·rcases zd.1 hi with hi|hi
  ·exact h.lt i hi
  ·obtain⟨c1,c2,rfl⟩:=List.append_of_mem hi;exact(sp c1 i c2 C).2.2.2.2
 ·intro I i d2 he x hx;rcases List.append_eq_append_iff.1 he with⟨t,h1,h2⟩|⟨t,h1,h2⟩
  ·rw[h1]at hx;obtain⟨g,cr,_⟩:=sp t i d2 h2;rcases zd.1 hx with hx|hx
   ·have:=yu.1 cr x ((h.mem x).1 hx);simp only[yg,zl]at this;rcases this with h'|h'
    ·exact zt (zq h')
    ·exact zt (zt ⟨h'.1.1,h'.1.2,h'.2⟩)
   ·have:=yu.1 g x hx;simp only[yg,zl]at this;rcases this with(h'|h')|h'
    ·exact zq (by simpa using h')
    ·exact zt (zq h')
    ·exact zt (zt ⟨h'.1.1,h'.1.2,h'.2⟩)
  ·cases t with
   |nil=>
    rw[yr]at h1;rw[ya]at h2;rw[←h1]at hx;obtain⟨g,cr,_⟩:=sp [] i d2 h2.symm;have:=yu.1 cr x ((h.mem x).1 hx);simp only[yg,zl]at this;rcases this with h'|h'
    ·exact zt (zq h')
    ·exact zt (zt ⟨h'.1.1,h'.1.2,h'.2⟩)
   |cons z t=>
    simp only[we,vx]at h2;rw[←h2.1]at h1;rcases h.good I i t h1 x hx with h'|h'
    ·exact zq (hE x h')
    ·exact zt h'
 ·intro I i d2 he o ho e hm hb;rcases List.append_eq_append_iff.1 he with⟨t,h1,h2⟩|⟨t,h1,h2⟩
  ·obtain⟨_,_,tp,_⟩:=sp t i d2 h2;unfold S4 at tp;rw[ho]at tp;simp only[xo,va,yu,yg,vt,n3,LE]at tp;rcases tp e ob with h'|h'
   ·rw[hb]at h';cases h'
   ·rw[h1];rcases zd.1 h' with h'|h'
    ·exact zt (yw _ ((h.mem _).2 h'))
    ·exact zt (LT _ h')
  ·cases t with
   |nil=>
    rw[yr]at h1;rw[ya]at h2;obtain⟨_,_,tp,_⟩:=sp [] i d2 h2.symm;unfold S4 at tp;rw[ho]at tp;simp only[xo,va,yu,yg,vt,n3,LE]at tp;rcases tp e ob with h'|h'
    ·rw[hb]at h';cases h'
    ·rw[←h1];rcases zd.1 h' with h'|h'
     ·exact zt ((h.mem _).2 h')
     ·cases h'
   |cons z t=>
    simp only[we,vx]at h2;rw[←h2.1]at h1;exact h.topo I i t h1 o ho e hm hb
theorem yG{n:Nat}{fls:List Bool}{S rest w9 pre E:List Nat}{cont:List Nat→List Nat→Array Bool→Prop}(h:PP G n fls S pre E)(hcont:∀pre' E',PP G n fls (S++w9) pre' E'→cont pre' E' (Array.replicate G.size false)):
  ∀{pl:jA} {lp Ep:List Nat},xY G n fls S rest w9 pl lp Ep=true→kW G n cont rest pl (pre++lp) (Ep++E) (Array.replicate G.size false)
 |.fin c,lp,Ep,hc=>by
  simp only[xY,zl,yu]at hc;obtain⟨⟨⟨h1,h2⟩,h3⟩,h4⟩:=hc;have h1':wN G n fls S (Ep++E) [] (lp++c)=true:=by
   have key:∀(c before:List Nat),wN G n fls S Ep before c=true→wN G n fls S (Ep++E) before c=true:=by
    intro c;induction c with
    |nil=>intro _ _;rfl
    |cons i c ih=>
     intro before hh;simp only[wN,zl]at hh ⊢
     refine⟨⟨⟨⟨⟨?_,hh.1.1.1.1.2⟩,hh.1.1.1.2⟩,hh.1.1.2⟩,hh.1.2⟩,ih _ hh.2⟩;unfold UZ at hh ⊢
     rw[yu];intro x hx;have:=yu.1 hh.1.1.1.1.1 x hx;simp only[yg]at this ⊢
     rcases this with(h'|h')|h'
     ·exact zq (zq (by simp only[n3,LE]at h' ⊢;exact yw _ h'))
     ·exact zq (zt h')
     ·exact zt h'
   exact key _ _ h1
  have:=h.more (λe he=>LT Ep he) h1' (w9:=w9) (λi=>⟨λhi=>by simpa using h3 i hi,λhi=>by simpa using h4 i hi⟩) (wa h2);show cont (pre++lp++c) (Ep++E) _;rw[yy];exact hcont _ _ this
 |.fork d p A q B,lp,Ep,hc=>by
  simp only[xY,zl]at hc;obtain⟨⟨⟨⟨hA,hB⟩,hq⟩,hl⟩,he⟩:=hc;have rA:=yG h hcont hA;have rB:=yG h hcont hB;simp only[←yy]at rA rB;refine⟨rA,rB,?_,wa hl,λi hi=>?_⟩
  ·obtain⟨x,hx,hb⟩:=rx.1 hq;rw[←wa hb];exact hx
  ·simpa using yu.1 he i hi
 |.forkN d p ps A,lp,Ep,hc=>by
  simp only[xY,zl]at hc;obtain⟨hA,he⟩:=hc;refine⟨λi hi=>?_,λi hi=>?_⟩
  ·have h1:=yu.1 hA i hi;simp only[zl]at h1;have rA:=yG h hcont h1.1.1;simp only[←yy]at rA;refine⟨rA,wa h1.1.2,?_⟩;have h2:=h1.2;rw[yg]at h2;rcases h2 with h2|h2
   ·exact zq (wa h2)
   ·exact zt rt
  ·have:=yu.1 he i hi;rw[yg]at this;rcases this with h1|h1
   ·exact zq vj
   ·obtain⟨q,hq,hr⟩:=rx.1 h1;exact zt ⟨q,hq,hr⟩
theorem EU{n:Nat}{fls:List Bool}:∀{segs:List jA} {S pre E:List Nat},PP G n fls S pre E→lN G n fls S segs=true→jz G n (λi=>fls.getD i false) segs pre E (Array.replicate G.size false)
 | [],S,pre,E,h,hc=>by
  simp only[lN,zl,yu,yj,n3,LE]at hc;refine⟨⟨Yf,?_,h.nodup,λi hi=>?_,h.lt,h.topo⟩,h.good⟩
  ·intro i o ho hl;simp[Array.getElem?_replicate]at hl;split at hl<;>simp at hl
  ·simp only[uq,Array.getElem?_replicate,hi,yo,va,iff_true];exact(h.mem i).2 (hc.2 i hi)
 |pl::segs,S,pre,E,h,hc=>by
  simp only[lN,zl]at hc;have:=yG (cont:=jz G n (λi=>fls.getD i false) segs) (rest:=pR segs) (w9:=pl.list) h (λpre' E' h'=>EU h' hc.2) hc.1;rw[yr,ya]at this;exact this
theorem ND{n:Nat}{fls:List Bool}:∀{segs:List jA} {S:List Nat},lN G n fls S segs=true→rY G=true∧(S++pR segs).length=G.size
 | [],S,hc=>by
  simp only[lN,zl]at hc;rw[pR,yr];exact⟨hc.1.1,wa hc.1.2⟩
 |pl::segs,S,hc=>by
  simp only[lN,zl]at hc;obtain⟨h1,h2⟩:=ND hc.2;rw[yy]at h2;exact⟨h1,h2⟩
theorem wU{K:Act→Δ→Prop}{fl:Nat→Bool}:∀(c:List Nat) (a:Act) (w:Δ),(∀i∈c,i<G.size)→wT r H P G K Q (jC G (c.map λi=>(fl i,i))) a w→DU r H P G fl K Q c a w:=by
 intro c;induction c with
 |nil=>intro a w _ h;exact h
 |cons i c ih=>
  intro a w hlt h;have hi:=hlt i zj;have ho:G[i]?= some G[i]:=by simp[hi]
  have hd:G.getD i default=G[i]:=by simp[hi]
  have hrec:∀a w,wT r H P G K Q (jC G (c.map λi=>(fl i,i))) a w→DU r H P G fl K Q c a w:=λa w hh=>ih a w (λj hj=>hlt j (GT _ hj)) hh
  simp only[jC,yl,wT,hd]at h;simp only[DU,ho];split at h
  ·rename_i hq;obtain⟨v,hy,h⟩:=h;rw[zo hq];exact⟨v,hy,hrec _ _ h⟩
  ·rename_i hq;rw[zv hq];exact h.mono hrec
def I1(r:Option Nat){γb:Type}[Membership Nat γb](H:γb)(P:Program)(G:Array Oper)(fls:List Bool)(Q:Exit→Act→Δ→Prop)(kont:Act→Δ→Prop):jA→Act→Δ→Prop
 |.fin c=>wT r H P G kont Q (jC G (c.map λi=>(fls.getD i false,i)))
 |.fork d p A q B=>wT r H P G (λa w=>wT r H P G (I1 r H P G fls Q kont A) Q (jC G [(fls.getD p false,p)]) a w∧wT r H P G (I1 r H P G fls Q kont B) Q (jC G [(fls.getD q false,q)]) a w) Q (jC G (d.map λi=>(fls.getD i false,i)))
 |.forkN d p ps A=>wT r H P G (λa w=>∀i∈p::ps,wT r H P G (I1 r H P G fls Q kont (A i)) Q (jC G [(fls.getD i false,i)]) a w) Q (jC G (d.map λi=>(fls.getD i false,i)))
def SB(r:Option Nat){γb:Type}[Membership Nat γb](H:γb)(P:Program)(G:Array Oper)(fls:List Bool)(Q:Exit→Act→Δ→Prop)(K:Act→Δ→Prop):List jA→Act→Δ→Prop
 | []=>K
 |pl::segs=>I1 r H P G fls Q (SB r H P G fls Q K segs) pl
def pH(N:Nat):jA→Bool
 |.fin c=>c.all λi=>Nat.blt i N
 |.fork d p A q B=>d.all (λi=>Nat.blt i N)&&Nat.blt p N&&Nat.blt q N&&pH N A&&pH N B
 |.forkN d p ps A=>d.all (λi=>Nat.blt i N)&&(p::ps).all λi=>Nat.blt i N&&pH N (A i)
theorem xV{fls:List Bool}{kont kont':Act→Δ→Prop}(hk:∀a w,kont a w→kont' a w):∀{pl:jA} {a:Act} {w:Δ},pH G.size pl=true→I1 r H P G fls Q kont pl a w→sr r H P G (λi=>fls.getD i false) Q kont' pl a w
 |.fin c,a,w,hl,h=>wR hk c (wU c a w (λi hi=>by simpa [Nat.blt_eq]using yu.1 hl i hi) h)
 |.fork d p A q B,a,w,hl,h=>by
  simp only[pH,zl,Nat.blt_eq]at hl;obtain⟨⟨⟨⟨h1,h2⟩,h3⟩,h4⟩,h5⟩:=hl;refine wR ?_ d (wU d a w (λi hi=>by simpa [Nat.blt_eq]using yu.1 h1 i hi) h);rintro a w ⟨g1,g2⟩;have one:∀(z:Nat) (K:Act→Δ→Prop),z<G.size→wT r H P G K Q (jC G [(fls.getD z false,z)]) a w→nQ r H P G (λi=>fls.getD i false) Q z K a w:=λz K hz h=>by
   have:=wU (G:=G) (fl:=λi=>fls.getD i false) [z] a w (by simpa using hz) h;rw[rR]at this;exact this
  exact⟨(one p _ h2 g1).mono λa w h=>xV hk h4 h,(one q _ h3 g2).mono λa w h=>xV hk h5 h⟩
 |.forkN d p ps A,a,w,hl,h=>by
  simp only[pH,zl]at hl;obtain⟨h1,h2⟩:=hl;refine wR ?_ d (wU d a w (λi hi=>by simpa [Nat.blt_eq]using yu.1 h1 i hi) h);intro a w g i hi;have h3:=yu.1 h2 i hi;simp only[zl,Nat.blt_eq]at h3;have one:∀(z:Nat) (K:Act→Δ→Prop),z<G.size→wT r H P G K Q (jC G [(fls.getD z false,z)]) a w→nQ r H P G (λi=>fls.getD i false) Q z K a w:=λz K hz h=>by
   have:=wU (G:=G) (fl:=λi=>fls.getD i false) [z] a w (by simpa using hz) h;rw[rR]at this;exact this
  exact(one i _ h3.1 (g i hi)).mono λa w h=>xV hk h3.2 h
theorem FC{fls:List Bool}:∀{segs:List jA} {a:Act} {w:Δ},(segs.all λpl=>pH G.size pl)=true→SB r H P G fls Q (λa w=>Q .normal a w) segs a w→ca r H P G (λi=>fls.getD i false) Q segs a w
 | [],a,w,_,h=>h
 |pl::segs,a,w,hl,h=>by
  rw[uh,zl]at hl;exact xV (λa w h=>FC hl.2 h) hl.1 h
theorem aHJ{id n:Nat}{fls:List Bool}{segs:List jA}{a:Act}{w:Δ}(hm:P.follows .mixedOrders=true)(hc:(lN G n fls [] segs&&segs.all λpl=>pH G.size pl)=true)(hQ:PI Q)
  (h:SB r H P G fls Q (λa w=>Q .normal a w) segs a {w with drawn:=w.drawn+1}):(Code.region id G true).wpIn (FW r) 0 P Q a w:=by
 rw[zl]at hc;obtain⟨hnd,hlen⟩:=ND hc.1;have hr:=EU (S:=[]) (pre:=[]) (E:=[]) ⟨wz,λi=>Iff.rfl,(λi hi=>by cases hi),(λc1 i c2 he=>by simp at he),(λc1 i c2 he=>by simp at he),C⟩ hc.1;refine wpIn_region_any hm ?_;have:=DZ (P:=P) (r:=r) (H:=H) (n:=n) (fl:=λi=>fls.getD i false) hnd hQ segs [] [] (Array.replicate G.size false) a {w with drawn:=w.drawn+1} (λe he=>by cases he) hr (FC hc.2 h);rw[hlen]at this;exact this
abbrev bZ:=List (Nat×Γ)
abbrev aF:=List (Nat×Obj)
abbrev aC:=Nat→List Γ
def look:bZ→Nat→Option Γ
 | [],_=>none
 |(k,v)::r,s=>match Nat.beq k s with|true=>some v|false=>look r s
def ev(T:bZ):Operand→Option Γ
 |.tmp t=>look T t
 |.const v=>some v
 |.global g=>some (qP g)
 |.func f=>some (.func (.func f) #[] #[])
def Le(D D':aC):Prop:=(∀b,D b <+: D' b)∧D' 0=D 0
theorem Le.refl(D:aC):Le D D:=⟨λ_=>List.prefix_refl _,C⟩
theorem Le.trans{D D' D'':aC}(h:Le D D')(h':Le D' D''):Le D D'':=⟨λb=>(h.1 b).trans (h'.1 b),h'.2.trans h.2⟩
theorem Le.get{D D':aC}(h:Le D D'){b i:Nat}{v:Γ}(hv:(D b)[i]?= some v):(D' b)[i]?= some v:=by
 obtain⟨t,ht⟩:=h.1 b;rw[←ht,uo]
 ·exact hv
 ·exact(yx.1 hv).1
def gI(D:aC)(w:Δ):Prop:=(∀b,D b≠[]→∃cs e fz,w.heap[b]?= some (.cells cs e fz)∧D b <+: cs.toList)∧D 0≠[]∧∃e fz,w.heap[0]?= some (.cells (D 0).toArray e fz)
theorem gI.of{D D':aC}{w w':Δ}(h:gI D w)(h1:∀b,D' b≠[]→∃cs e fz,w'.heap[b]?= some (.cells cs e fz)∧D' b <+: cs.toList)(hD:D' 0=D 0)(hw:w'.heap[0]?= w.heap[0]?):gI D' w':=by
 refine⟨h1,?_⟩;rw[hD,hw];exact h.2
theorem gI.ne0{D:aC}{w:Δ}(h:gI D w){b:Nat}(hb:D b=[]):b≠0:=λe=>h.2.1 (e▸hb)
theorem gI.pos{D:aC}{w:Δ}(h:gI D w):0<w.heap.size:=by
 obtain⟨-, -,e,fz,h⟩:=h;exact(rj.1 h).1
def dH:Obj→Prop
 |.cells _ _ z=>z=(0,0)
 |_=>True
def VM(w:Δ):Os×Array (Nat×Λ):=(w.os,w.output)
structure H0 where
 arr:Array Obj
 env:Option (Os×Array (Nat×Λ))
abbrev H0.size(h:H0):Nat:=h.arr.size
abbrev hd(w:Δ):H0:=⟨w.heap,some (VM w)⟩
structure jH(h0:H0)(lo:Nat)(D0:aC)(mods:List Nat)(L:aF)(D:aC)(w:Δ):Prop where
 hlo:h0.size≤lo
 size:lo≤w.heap.size
 old:∀b,b<h0.size→b∉mods→w.heap[b]?= h0.arr[b]?
 dold:∀b,b<h0.size→D b=D0 b
 agr:gI D w
 box:∀p∈L,w.heap[p.1]?= some p.2∧D p.1=[]∧(lo≤p.1∨p.1∈mods)
 nd:(L.map (·.1)).Nodup
 fz:∀p∈L,dH p.2
 env:∀e,h0.env=some e→VM w=e
def Q3(lo:Nat)(D:aC)(w:Δ):Prop:=gI D w∧lo≤w.heap.size
theorem jH.dom{h0:H0}{lo:Nat}{D0:aC}{mods:List Nat}{L:aF}{D:aC}{w:Δ}(h:jH h0 lo D0 mods L D w):Q3 lo D w:=⟨h.agr,h.size⟩
def sd(β:List Nat)(D:aC)(w:Δ)(D':aC)(w':Δ):Prop:=w.heap.size≤w'.heap.size∧(∀b,b<w.heap.size→b∉β→w'.heap[b]?= w.heap[b]?∧D' b=D b)∧VM w'=VM w
theorem sd.refl(β:List Nat)(D:aC)(w:Δ):sd β D w D w:=⟨zk _,λ_ _ _=>⟨C,C⟩,C⟩
structure k9(lo:Nat)(J:List Nat→aC→Δ→Prop):Prop where
 low:∀β D w D' w',J β D w→sd β D w D' w'→Q3 lo D' w'→J β D' w'
 own:∀β β' D w,J β D w→(∀b∈β',b∈β∨w.heap.size≤b)→J β' D w
structure Cx where
 r:Option Nat
 N:Nat
 ds:List Deferred
 h0:H0
 lo:Nat
 D0:aC
 mods:List Nat
 ex:Option (List Nat→aC→Δ→Prop)
def Y5(X:Cx)(L:aF)(D:aC)(w:Δ):Prop:=
 match X.ex with
 |none=>True
 |some J=>k9 X.lo J∧J (L.map (·.1)) D w
theorem Y5.step{X:Cx}{L μ':aF}{D D':aC}{w w':Δ}(h:Y5 X L D w)(hk:X.ex≠none→∀p∈μ',p.1∈L.map (·.1)∨w.heap.size≤p.1)(hl:X.ex≠none→sd (L.map (·.1)) D w D' w')(hd:Q3 X.lo D' w'):Y5 X μ' D' w':=by
 unfold Y5 at *;cases hx:X.ex with
 |none=>trivial
 |some J=>
  rw[hx]at h;have hne:X.ex≠none:=by simp[hx]
  refine⟨h.1,?_⟩;have h1:=h.1.own _ (μ'.map (·.1)++L.map (·.1)) D w h.2 (λb hb=>by
   rcases zd.1 hb with hb|hb
   ·obtain⟨p,hp,rfl⟩:=n5.1 hb;exact hk hne p hp
   ·exact zq hb)
  have h2:=h.1.low _ D w D' w' h1 ⟨(hl hne).1,λb hb hn=>(hl hne).2.1 b hb λhm=>hn (LT _ hm),(hl hne).2.2⟩ hd;exact h.1.own _ _ D' w' h2 λb hb=>zq (yw _ hb)
def Hl(X:Cx)(T:bZ)(L:aF)(W:List aC)(a:Act)(w:Δ):Prop:=
 a.tmps.size=X.N∧(∀s v,look T s=some v→a.tmps[s]?= some v)∧a.defers=X.ds∧∃D,jH X.h0 X.lo X.D0 X.mods L D w∧(∀D₁∈W,Le D₁ D)∧Y5 X L D w
def WL(P:Program)(X:Cx){γb:Type}[Membership Nat γb](H:γb)(G:Array Oper)(K:Act→Δ→Prop)(Q:Exit→Act→Δ→Prop)(os:List (Bool×Nat))(T:bZ)(L:aF)(W:List aC):Prop:=
 ∀a w,Hl X T L W a w→wT X.r H P G K Q (jC G os) a w
def WC(P:Program)(X:Cx)(Q:Exit→Act→Δ→Prop)(c:Code)(T:bZ)(L:aF)(W:List aC):Prop:=
 ∀a w,Hl X T L W a w→c.wpIn (FW X.r) 0 P Q a w
variable{P:Program}{X:Cx}{γb:Type}[Membership Nat γb]{H:γb}{G:Array Oper}{K:Act→Δ→Prop}{Q:Exit→Act→Δ→Prop}
variable{T:bZ}{L:aF}{W:List aC}{os:List (Bool×Nat)}{fl:Bool}{ix:Nat}
theorem Hl.eval{a:Act}{w:Δ}(h:Hl X T L W a w){x:Operand}{v:Γ}(hx:ev T x=some v):a.eval x=v:=by
 cases x with
 |tmp t=>
  have:=h.2.1 t v hx;show a.tmps.getD t undef=v;rw[uq,this];rfl
 |const v=>exact yi hx
 |global g=>exact yi hx
 |func f=>exact yi hx
theorem Hl.put{a:Act}{w:Δ}(h:Hl X T L W a w){d:Nat}(hd:Nat.blt d X.N=true)(v:Γ):Hl X ((d,v)::T) L W (a.put (some d) v) w:=by
 have hd':d<X.N:=by simpa [Nat.blt_eq]using hd
 refine⟨by simpa [Act.put]using h.1,λs u hs=>?_,h.2.2.1,h.2.2.2⟩;simp only[look]at hs;simp only[Act.put];cases hb:Nat.beq d s with
 |true=>
  rw[hb]at hs;obtain rfl:=wa hb;cases hs;rw[Array.getElem?_setIfInBounds_self_of_lt (by rw[h.1];exact hd')]
 |false=>
  rw[hb]at hs;rw[qp (λe=>by subst e;simp at hb)]
  exact h.2.1 s u hs
def FM:bZ→bZ→Prop
 |_,[]=>True
 |T,(k,v)::r=>look T k=some v∧FM T r
theorem FM.look{T σ':bZ}(h:FM T σ'){s:Nat}{v:Γ}(hv:look σ' s=some v):look T s=some v:=by
 induction σ' with
 |nil=>cases hv
 |cons p r ih=>
  obtain⟨k,u⟩:=p;simp only[Fs.look]at hv;cases hb:Nat.beq k s with
  |true=>rw[hb]at hv;cases hv;obtain rfl:=wa hb;exact h.1
  |false=>rw[hb]at hv;exact ih h.2 hv
theorem jH.sub{h0:H0}{lo:Nat}{D0:aC}{mods:List Nat}{L μ':aF}{D:aC}{w:Δ}(h:jH h0 lo D0 mods L D w)(hs:∀p∈μ',p∈L)(hn:(μ'.map (·.1)).Nodup):jH h0 lo D0 mods μ' D w:=
 ⟨h.hlo,h.size,h.old,h.dold,h.agr,λp hp=>h.box p (hs p hp),hn,λp hp=>h.fz p (hs p hp),h.env⟩
theorem Hl.weak{σ':bZ}{μ':aF}{Ds':List aC}{a:Act}{w:Δ}(h:Hl X T L W a w)(hσ:FM T σ')(hμ:μ'.Sublist L)(hD:∀D∈Ds',∃D'∈W,Le D D'):Hl X σ' μ' Ds' a w:=by
 obtain⟨h1,h2,h3,D,h4,h5,I⟩:=h;refine⟨h1,λs v hv=>h2 s v (hσ.look hv),h3,D,h4.sub (λp hp=>hμ.mem hp) ((hμ.map (·.1)).nodup h4.nd),λD₁ hD₁=>?_,I.step (λ_ p hp=>zq (n5.2 ⟨p,hμ.mem hp,C⟩)) (λ_=>sd.refl _ _ _) h4.dom⟩;obtain⟨D₂,hm,hle⟩:=hD D₁ hD₁;exact hle.trans (h5 D₂ hm)
theorem FM.app{T σ1 σ2:bZ}(h1:FM T σ1)(h2:FM T σ2):FM T (σ1++σ2):=by
 induction σ1 with
 |nil=>exact h2
 |cons p r ih=>exact⟨h1.1,ih h1.2⟩
theorem EE{σ1 σ2:bZ}{s:Nat}{v:Γ}(h:look (σ1++σ2) s=some v):look σ1 s=some v∨look σ2 s=some v:=by
 induction σ1 with
 |nil=>exact zt h
 |cons p r ih=>
  obtain⟨k,u⟩:=p;simp only[we,look]at h ⊢
  cases hb:Nat.beq k s with
  |true=>rw[hb]at h;exact zq h
  |false=>rw[hb]at h;exact ih h

def NP(Q:Exit→Act→Δ→Prop):Prop:=∀c a w,¬Q (.panic c) a w
theorem NP.pi(h:NP Q):PI Q:=λc a _ w _ hq=>absurd hq (h c a w)
theorem h_{x y:Code}(h:WC P X (Exit.then (y.wpIn (FW X.r) 0 P Q) Q) x T L W):WC P X Q (.seq x y) T L W:=
 λa w hh=>wpIn_seq (h a w hh)
theorem _root_.Go.Fs.Za6{x:Code}{y:Code}(h:WC P X (Exit.then (y.wpIn (FW X.r) 0 P Q) Q) x T L W):WC P X Q (.seq x y) T L W:=h_ h
theorem bE(h:∀a w,Hl X T L W a w→Q .normal a w):WC P X Q .skip T L W:=λa w hh=>wpIn_skip (h a w hh)
theorem Xcg{id:Nat}(h:∀a w,Hl X T L W a w→Q (.exit id) a w):WC P X Q (.exit id) T L W:=λa w hh=>wpIn_exit (h a w hh)
theorem _root_.Go.Fs.Za9{id:Nat}(h:∀a w,Hl X T L W a w→Q (.exit id) a w):WC P X Q (.exit id) T L W:=Xcg h
theorem PL(h:∀a w,Hl X T L W a w→Q .ret a w):WC P X Q .ret T L W:=λa w hh=>wpIn_ret (h a w hh)
theorem ek{y:Code}(h:WC P X Q y T L W):∀a w,Hl X T L W a w→(Exit.then (y.wpIn (FW X.r) 0 P Q) Q) .normal a w:=h
theorem _root_.Go.Fs.Za2{y:Code}(h:WC P X Q y T L W):∀a w,Hl X T L W a w→(Exit.then (y.wpIn (FW X.r) 0 P Q) Q) .normal a w:=ek h
theorem dw{c:Operand}{x y:Code}{b:Bool}(hc:ev T c=some (.bool b))(ht:b=true→WC P X Q x T L W)(hf:b=false→WC P X Q y T L W):WC P X Q (.cond c x y) T L W:=
 λa w hh=>wpIn_cond_split (hh.eval hc) (λe=>ht e a w hh) λe=>hf e a w hh
theorem _root_.Go.Fs.Zai{c:Operand}{x:Code}{y:Code}{b:Bool}(hc:ev T c=some (.bool b))(ht:b=true→WC P X Q x T L W)(hf:b=false→WC P X Q y T L W):WC P X Q (.cond c x y) T L W:=dw hc ht hf
theorem aBB{id:Nat}{c:Code}(h:WC P X (Exit.inBlock id Q) c T L W):WC P X Q (.block id c) T L W:=λa w hh=>wpIn_block (h a w hh)
theorem _root_.Go.Fs.Za4{id:Nat}{c:Code}(h:WC P X (Exit.inBlock id Q) c T L W):WC P X Q (.block id c) T L W:=aBB h
theorem UW{id:Nat}{a:Act}{w:Δ}(h:Q .normal a w):Exit.inBlock id Q (.exit id) a w:=by simp[Exit.inBlock,h]
theorem MO{id id':Nat}(hne:Nat.beq id' id=false){a:Act}{w:Δ}(h:Q (.exit id') a w):Exit.inBlock id Q (.exit id') a w:=by
 have:id'≠id:=λe=>by subst e;simp at hne
 simp[Exit.inBlock,this,h]
theorem Af(is:List (Bool×Nat)){id:Nat}{ops:Array Oper}(hi:is=(List.range ops.size).map λi=>(false,i))(h:WL P X [] ops (λa w=>Q .normal a w) Q is T L W):WC P X Q (.region id ops false) T L W:=
 λa w hh=>aGP (by rw[Bi,←hi];exact h a w hh)
theorem aM{id:Nat}{ops:Array Oper}(h:WL P X [] ops (λa w=>Q .normal a w) Q ((List.range ops.size).map λi=>(false,i)) T L W):WC P X Q (.region id ops false) T L W:=Af _ C h
theorem cE{p:Prop}(h:p:=by repeat (first|exact trivial|refine⟨C,?_⟩)):p:=h
theorem C.fo{Q:Program}(h:Q.follows .mixedOrders=true:=by exact aV):Q.follows .mixedOrders=true:=h
theorem cF{α:Type}(l:List α)(i:Nat)(h:i<l.length:=by omega):∃x,l[i]?= some x:=⟨_,yz h⟩
theorem Hl.drew{a:Act}{w:Δ}(h:Hl X T L W a w):Hl X T L W a {w with drawn:=w.drawn+1}:=by
 obtain⟨h1,h2,h3,D,h4,h5,I⟩:=h;exact⟨h1,h2,h3,D,⟨h4.hlo,h4.size,h4.old,h4.dold,h4.agr,h4.box,h4.nd,h4.fz,h4.env⟩,h5,I.step (λ_ p hp=>zq (n5.2 ⟨p,hp,C⟩)) (λ_=>⟨zk _,λ_ _ _=>⟨C,C⟩,C⟩) h4.dom⟩
def WS(P:Program)(X:Cx){γb:Type}[Membership Nat γb](H:γb)(G:Array Oper)(fls:List Bool)(K:Act→Δ→Prop)(Q:Exit→Act→Δ→Prop)(segs:List jA)(T:bZ)(L:aF)(W:List aC):Prop:=
 ∀a w,Hl X T L W a w→SB X.r H P G fls Q K segs a w
def WP(P:Program)(X:Cx){γb:Type}[Membership Nat γb](H:γb)(G:Array Oper)(fls:List Bool)(kont:Act→Δ→Prop)(Q:Exit→Act→Δ→Prop)(pl:jA)(T:bZ)(L:aF)(W:List aC):Prop:=
 ∀a w,Hl X T L W a w→I1 X.r H P G fls Q kont pl a w
theorem HD{γb:Type}[Membership Nat γb](H:γb)(n:Nat)(fls:List Bool)(segs:List jA){id:Nat}{ops:Array Oper}(hm:P.follows .mixedOrders=true)(hQ:PI Q)(hc:(lN ops n fls [] segs&&segs.all λpl=>pH ops.size pl)=true)
  (h:WS P X H ops fls (λa w=>Q .normal a w) Q segs T L W):WC P X Q (.region id ops true) T L W:=by
 intro a w hh;exact aHJ (H:=H) hm hc hQ (h a _ hh.drew)
theorem pY{γb:Type}[Membership Nat γb](H:γb)(n:Nat)(fls:List Bool)(segs:List jA){id:Nat}{ops:Array Oper}(hm:P.follows .mixedOrders=true)(hQ:NP Q)(hc:(lN ops n fls [] segs&&segs.all λpl=>pH ops.size pl)=true)
  (h:WS P X H ops fls (λa w=>Q .normal a w) Q segs T L W):WC P X Q (.region id ops true) T L W:=HD H n fls segs hm hQ.pi hc h
section segments
variable{fls:List Bool}{kont:Act→Δ→Prop}
theorem qW(h:∀a w,Hl X T L W a w→K a w):WS P X H G fls K Q [] T L W:=h
theorem pC{c:List Nat}{segs:List jA}(is:List (Bool×Nat))(hi:is=c.map λi=>(fls.getD i false,i))(h:WL P X H G (λa w=>SB X.r H P G fls Q K segs a w) Q is T L W):WS P X H G fls K Q (.fin c::segs) T L W:=by
 subst hi;exact h
theorem uG{pl:jA}{segs:List jA}(h:WP P X H G fls (λa w=>SB X.r H P G fls Q K segs a w) Q pl T L W):WS P X H G fls K Q (pl::segs) T L W:=h
theorem aY{c:List Nat}(is:List (Bool×Nat))(hi:is=c.map λi=>(fls.getD i false,i))(h:WL P X H G kont Q is T L W):WP P X H G fls kont Q (.fin c) T L W:=by
 subst hi;exact h
theorem bS{d:List Nat}{p q:Nat}{A B:jA}(is:List (Bool×Nat))(hi:is=d.map λi=>(fls.getD i false,i))
  (h:WL P X H G (λa w=>wT X.r H P G (I1 X.r H P G fls Q kont A) Q (jC G [(fls.getD p false,p)]) a w∧wT X.r H P G (I1 X.r H P G fls Q kont B) Q (jC G [(fls.getD q false,q)]) a w) Q is T L W):WP P X H G fls kont Q (.fork d p A q B) T L W:=by
 subst hi;exact h
theorem eB{p q:Nat}{A B:jA}(bp bq:Bool)(hp:fls.getD p false=bp)(hq:fls.getD q false=bq)(h1:WL P X H G (λa w=>I1 X.r H P G fls Q kont A a w) Q [(bp,p)] T L W)(h2:WL P X H G (λa w=>I1 X.r H P G fls Q kont B a w) Q [(bq,q)] T L W):
  ∀a w,Hl X T L W a w→wT X.r H P G (I1 X.r H P G fls Q kont A) Q (jC G [(fls.getD p false,p)]) a w∧wT X.r H P G (I1 X.r H P G fls Q kont B) Q (jC G [(fls.getD q false,q)]) a w:=λa w hh=>by
 subst hp hq;exact⟨h1 a w hh,h2 a w hh⟩
theorem uE{d:List Nat}{p:Nat}{ps:List Nat}{A:Nat→jA}(is:List (Bool×Nat))(hi:is=d.map λi=>(fls.getD i false,i))
  (h:WL P X H G (λa w=>∀i∈p::ps,wT X.r H P G (I1 X.r H P G fls Q kont (A i)) Q (jC G [(fls.getD i false,i)]) a w) Q is T L W):WP P X H G fls kont Q (.forkN d p ps A) T L W:=by
 subst hi;exact h
theorem N7{A:Nat→jA}:∀a w,Hl X T L W a w→∀i∈([]:List Nat),wT X.r H P G (I1 X.r H P G fls Q kont (A i)) Q (jC G [(fls.getD i false,i)]) a w:=λ_ _ _ _ h=>by cases h
theorem iA{A:Nat→jA}{p:Nat}{ps:List Nat}(b:Bool){B:jA}(hb:fls.getD p false=b)(hB:A p=B)(h1:WL P X H G (λa w=>I1 X.r H P G fls Q kont B a w) Q [(b,p)] T L W)
  (h2:∀a w,Hl X T L W a w→∀i∈ps,wT X.r H P G (I1 X.r H P G fls Q kont (A i)) Q (jC G [(fls.getD i false,i)]) a w):
  ∀a w,Hl X T L W a w→∀i∈p::ps,wT X.r H P G (I1 X.r H P G fls Q kont (A i)) Q (jC G [(fls.getD i false,i)]) a w:=λa w hh i hi=>by
 rcases zm.1 hi with rfl|hi
 ·rw[hb,hB];exact h1 a w hh
 ·exact h2 a w hh i hi
end segments
def XE(c:List Nat)(bits:List Bool):List Bool:=(List.range c.length).map λi=>(bits.zip c).any λp=>p.1&&Nat.beq p.2 i
theorem Vd{γb:Type}[Membership Nat γb](H:γb)(n:Nat)(c:List Nat)(bits:List Bool)(is:List (Bool×Nat)){id:Nat}{ops:Array Oper}(hm:P.follows .mixedOrders=true)(hQ:PI Q)(hc:((lN ops n (XE c bits) [] [.fin c]&&pH ops.size (.fin c))&&(bits.zip c==c.map λi=>((XE c bits).getD i false,i)))=true)(hi:is=bits.zip c)
  (h:WL P X H ops (λa w=>Q .normal a w) Q is T L W):WC P X Q (.region id ops true) T L W:=by
 rw[zl]at hc;exact HD H n (XE c bits) [.fin c] hm hQ (by rw[uh,List.all_nil,Bool.and_true];exact hc.1) (pC is (hi.trans (eq_of_beq hc.2)) h)
theorem fS{γb:Type}[Membership Nat γb](H:γb)(n:Nat)(c:List Nat)(bits:List Bool)(is:List (Bool×Nat)){id:Nat}{ops:Array Oper}(hm:P.follows .mixedOrders=true)(hQ:NP Q)(hc:((lN ops n (XE c bits) [] [.fin c]&&pH ops.size (.fin c))&&(bits.zip c==c.map λi=>((XE c bits).getD i false,i)))=true)(hi:is=bits.zip c)
    (h:WL P X H ops (λa w=>Q .normal a w) Q is T L W):WC P X Q (.region id ops true) T L W:=Vd H n c bits is hm hQ.pi hc hi h
def ly(n m:Nat):List (Bool×Nat):=(List.range n).map λi=>(Nat.testBit m i,i)
def nx(k m:Nat):List Bool:=(List.range k).map λi=>Nat.testBit m i
theorem Wal(k m:Nat):ly k m=(List.range k).map λi=>((nx k m).getD i false,i):=qn λi hi=>by
  have h:=yj.1 hi;simp[nx,h]
theorem JU{γb:Type}[Membership Nat γb](H:γb)(n k m:Nat){id:Nat}{ops:Array Oper}(hQ:PI Q)(h:WL P X H ops (λa w=>Q .normal a w) Q (ly k m) T L W)(hc:(lN ops n (nx k m) [] [.fin (List.range k)]&&pH ops.size (.fin (List.range k)))=true:=by kernel_rfl)(hm:P.follows .mixedOrders=true:=by exact aV):WC P X Q (.region id ops true) T L W:=
 HD H n (nx k m) [.fin (List.range k)] hm hQ (by rw[uh,List.all_nil,Bool.and_true];exact hc) (pC (ly k m) (Wal k m) h)
theorem PI.thn{k:Act→Δ→Prop}(h:PI Q):PI (Exit.then k Q):=λc a b w d q=>h c a b w d q
theorem PI.inb{i:Nat}(h:PI Q):PI (Exit.inBlock i Q):=λc a b w d q=>h c a b w d q
theorem NP.inb{i:Nat}(h:NP Q):NP (Exit.inBlock i Q):=λc a w q=>h c a w q
theorem NP.thn{k:Act→Δ→Prop}(h:NP Q):NP (Exit.then k Q):=λc a w q=>h c a w q
theorem aZ{γb:Type}[Membership Nat γb](H:γb)(n k m:Nat){id:Nat}{ops:Array Oper}(h:WL P X H ops (λa w=>Q .normal a w) Q (ly k m) T L W)(hQ:PI Q:=by repeat (first|exact Td|refine PI.thn ?_|refine PI.inb ?_|refine PI.ngt ?_))(hc:(lN ops n (nx k m) [] [.fin (List.range k)]&&pH ops.size (.fin (List.range k)))=true:=by kernel_rfl)(hm:P.follows .mixedOrders=true:=by exact aV):WC P X Q (.region id ops true) T L W:=JU H n k m hQ h hc hm
theorem vR{γb:Type}[Membership Nat γb](H:γb)(n k m:Nat){id:Nat}{ops:Array Oper}(hQ:NP Q)(h:WL P X H ops (λa w=>Q .normal a w) Q (ly k m) T L W)(hc:(lN ops n (nx k m) [] [.fin (List.range k)]&&pH ops.size (.fin (List.range k)))=true:=by kernel_rfl)(hm:P.follows .mixedOrders=true:=by exact aV):WC P X Q (.region id ops true) T L W:=JU H n k m hQ.pi h hc hm
theorem bK{γb:Type}[Membership Nat γb](H:γb)(n k m:Nat){id:Nat}{ops:Array Oper}(h:WL P X H ops (λa w=>Q .normal a w) Q (ly k m) T L W)(hQ:NP Q:=by repeat (first|exact eA|exact kQ|exact AO|refine NP.thn ?_|refine NP.inb ?_|refine NP.ngt ?_))(hc:(lN ops n (nx k m) [] [.fin (List.range k)]&&pH ops.size (.fin (List.range k)))=true:=by kernel_rfl)(hm:P.follows .mixedOrders=true:=by exact aV):WC P X Q (.region id ops true) T L W:=JU H n k m hQ.pi h hc hm
def IA:List (Nat×jA)→Nat→jA
 | [],_=>.fin []
 |(j,pl)::l,i=>bif Nat.beq i j then pl else IA l i
theorem Xaq{γ:Type}{c:Code}(m:γ→Nat)(I:γ→Prop)(S:γ→bZ)(M:γ→aF)(E:γ→List aC)(g₀:γ)(h₀:I g₀)(hσ:FM T (S g₀))(hμ:(M g₀).Sublist L)(hD:∀D∈E g₀,∃D'∈W,Le D D')
  (round:∀g,I g→WC P X (Exit.then (λa w=>∃g',I g'∧m g'<m g∧Hl X (S g') (M g') (E g') a w) Q) c (S g) (M g) (E g)):WC P X Q (.loop c) T L W:=by
 let p:Act→Δ→Nat→Prop:=λa w n=>∃g,I g∧m g=n∧Hl X (S g) (M g) (E g) a w
 have ex:∀a w,(∃n,p a w n)→∃n,p a w n∧∀k,p a w k→n≤k:=by
  intro a w ⟨n,hn⟩;induction n using Nat.strongRecOn with
  |_ n ih=>
   by_cases h:∃k,k<n∧p a w k
   ·obtain⟨k,hk,hp⟩:=h;exact ih k hk hp
   ·exact⟨n,hn,λk hk=>Nat.le_of_not_lt λhl=>h ⟨k,hl,hk⟩⟩
 intro a w hh;refine wpIn_loop (λa w=>∃n,p a w n) (λa w=>open Classical in if h:∃n,p a w n then(ex a w h).choose else 0) ⟨_,g₀,h₀,C,hh.weak hσ hμ hD⟩ ?_;intro a w hI;obtain⟨⟨g,hg,hm,hst⟩,hmin⟩:=(ex a w hI).choose_spec;refine wpIn_mono (round g hg a w hst) λe a' w' hq=>?_
 cases e with
 |normal=>
  obtain⟨g',hg',hlt,hst'⟩:=hq;have hI':∃n,p a' w' n:=⟨_,g',hg',C,hst'⟩
  refine⟨hI',?_⟩;simp only[dif_pos hI',dif_pos hI];have:=(ex a' w' hI').choose_spec.2 _ ⟨g',hg',C,hst'⟩;omega
 |_=>exact hq

def dF(G:Array Oper)(T:bZ):Option (Nat×Bool)→Prop
 |none=>True
 |some (j,want)=>∃s,(G[j]?).bind (·.dst)=some s∧look T s=some (.bool want)
def bu(G:Array Oper)(T:bZ):Option (Nat×Bool)→Prop
 |none=>False
 |some (j,want)=>∃s v,(G[j]?).bind (·.dst)=some s∧look T s=some v∧(match v with|.bool b=>Bool.xor b want|_=>true)=true
theorem Hl.wanted{a:Act}{w:Δ}(h:Hl X T L W a w){o:Oper}(hg:dF G T o.guard):Region.wanted o (yielded G a.tmps)=true:=by
 unfold Region.wanted;cases hgd:o.guard with
 |none=>rfl
 |some p=>
  obtain⟨j,want⟩:=p;rw[hgd]at hg;obtain⟨s,hs,hl⟩:=hg;simp[yielded,hs,h.2.1 s _ hl]
theorem Hl.unwanted{a:Act}{w:Δ}(h:Hl X T L W a w){o:Oper}(hg:bu G T o.guard):Region.wanted o (yielded G a.tmps)=false:=by
 unfold Region.wanted;cases hgd:o.guard with
 |none=>rw[hgd]at hg;exact hg.elim
 |some p=>
  obtain⟨j,want⟩:=p;rw[hgd]at hg;obtain⟨s,v,hs,hl,hv⟩:=hg;have hy:yielded G a.tmps j=(match v with|.bool b=>some b|_=>none):=by
   simp only[yielded,hs,Option.bind_some,h.2.1 s _ hl];cases v<;>rfl
  simp only[hy];cases v with
  |bool b=>cases b<;>cases want<;>first|rfl|(simp at hv)
  |_=>rfl
theorem x7(h:∀a w,Hl X T L W a w→K a w):WL P X H G K Q [] T L W:=λa w hh=>h a w hh
theorem _root_.Go.Fs.Zap(h:∀a w,Hl X T L W a w→K a w):WL P X H G K Q [] T L W:=x7 h
theorem I7{o:Oper}(ho:G[ix]?= some o):jC G ((fl,ix)::os)=(fl,o)::jC G os:=by simp[jC,ho]
theorem qA{o:Oper}{d:Nat}{v:Γ}(ho:G[ix]?= some o)(hq:lW o.op=true)(hd:o.dst=some d)(hN:Nat.blt d X.N=true)(hg:dF G T o.guard)
  (hv:∀a w,Hl X T L W a w→∀w',rL H w w'→(execOp a.eval o).run P w'=.ok (.value v) w') (k:WL P X H G K Q os ((d,v)::T) L W):WL P X H G K Q ((fl,ix)::os) T L W:=by
 intro a w hh;rw[I7 ho];simp only[wT,hq,yo];refine⟨v,zq ⟨hh.wanted hg,hv a w hh⟩,?_⟩;rw[hd];exact k _ _ (hh.put hN v)
theorem cB{o:Oper}{d:Nat}{v:Γ}(ho:G[ix]?= some o)(hq:lW o.op=true)(hd:o.dst=some d)(hN:Nat.blt d X.N=true)(hg:dF G T o.guard)
  (hv:∀ρ:Operand→Γ,(∀x u,ev T x=some u→ρ x=u)→∀w',(execOp ρ o).run P w'=.ok (.value v) w') (k:WL P X H G K Q os ((d,v)::T) L W):WL P X H G K Q ((fl,ix)::os) T L W:=
 qA ho hq hd hN hg (λa _ hh w' _=>hv a.eval (λ_ _ hx=>hh.eval hx) w') k
theorem Xbf{o:Oper}{d:Nat}(ho:G[ix]?= some o)(hd:o.dst=some d)(hN:Nat.blt d X.N=true)(hg:bu G T o.guard)(k:WL P X H G K Q os ((d,undef)::T) L W):WL P X H G K Q ((fl,ix)::os) T L W:=by
 intro a w hh;rw[I7 ho];simp only[wT];split
 ·refine⟨undef,zt ⟨hh.unwanted hg,C⟩,?_⟩;rw[hd];exact k _ _ (hh.put hN _)
 ·unfold m4;rw[zv (by rw[hh.unwanted hg];simp),hd]
  exact k _ _ (hh.put hN _)
theorem _root_.Go.Fs.Zg{o:Oper}{d:Nat}(e9:(G[ix]?,o.dst)=(some o,some d))(k:WL P X H G K Q os ((d,undef)::T) L W)(hN:Nat.blt d X.N=true:=by exact C)(hg:bu G T o.guard:=by exact⟨_,_,C,C,C⟩):WL P X H G K Q ((fl,ix)::os) T L W:=Xbf (zn (λz=>z.1) e9) (zn (λz=>z.2) e9) hN hg k
theorem sV{K':Act→Δ→Prop}:∀(xs ys:List (Bool×Oper)) (a:Act) (w:Δ),wT X.r H P G (λa w=>K' a w) Q xs a w→(∀a w,K' a w→wT X.r H P G K Q ys a w)→wT X.r H P G K Q (xs++ys) a w
 | [],ys,a,w,h,hk=>hk a w h
 |(fl,o)::xs,ys,a,w,h,hk=>by
  simp only[we,wT]at h ⊢
  split at h
  ·rename_i hq;rw[zo hq];obtain⟨v,hy,h⟩:=h;exact⟨v,hy,sV xs ys _ _ h hk⟩
  ·rename_i hq;rw[zv hq];exact h.mono λa w hh=>sV xs ys a w hh hk
theorem WL.append{K':Act→Δ→Prop}{xs ys:List (Bool×Nat)}{a:Act}{w:Δ}(h:wT X.r H P G (λa w=>K' a w) Q (jC G xs) a w)(hk:∀a w,K' a w→wT X.r H P G K Q (jC G ys) a w):
  wT X.r H P G K Q (jC G (xs++ys)) a w:=by
 rw[jC,ze];exact sV _ _ a w h hk
theorem OO(xs ys:List (Bool×Nat)){s p:Nat}{b c want:Bool}(ho:os=xs++ys)(hs:look T s=some (.bool b))
  (hyes:b=want→WL P X H G (λa w=>Hl X ((p,.bool c)::(s,.bool want)::T) L W a w) Q xs ((s,.bool want)::T) L W)
  (hno:b= !want→WL P X H G (λa w=>Hl X ((p,.bool (!want))::(s,.bool (!want))::T) L W a w) Q xs ((s,.bool (!want))::T) L W)
  (k:WL P X H G K Q ys ((p,.bool (bif want then b&&c else b||c))::T) L W):WL P X H G K Q os T L W:=by
 have hsub:∀u,Value.bool b=u→∀a w,Hl X T L W a w→Hl X ((s,u)::T) L W a w:=by
  rintro _ rfl a w ⟨h1,h2,h3⟩;refine⟨h1,λt v ht=>?_,h3⟩;simp only[look]at ht;cases hb:Nat.beq s t with
  |true=>rw[hb]at ht;cases ht;obtain rfl:=wa hb;exact h2 _ _ hs
  |false=>rw[hb]at ht;exact h2 _ _ ht
 have hback:∀u v,Value.bool b=u→∀a w,Hl X ((p,v)::(s,u)::T) L W a w→Hl X ((p,v)::T) L W a w:=by
  rintro _ v rfl a w ⟨h1,h2,h3⟩;refine⟨h1,λt v' ht=>?_,h3⟩;refine h2 t v' ?_;simp only[look]at ht ⊢
  cases hp:Nat.beq p t with
  |true=>rw[hp]at ht;exact ht
  |false=>
   rw[hp]at ht;cases hb:Nat.beq s t with
   |true=>obtain rfl:=wa hb;rw[←ht,hs]
   |false=>exact ht
 subst ho;intro a w hh;have kk:∀v,v=Value.bool (bif want then b&&c else b||c)→∀a w,Hl X ((p,v)::T) L W a w→wT X.r H P G K Q (jC G ys) a w:=by rintro _ rfl a w h;exact k a w h
 cases b<;>cases want
 ·exact WL.append (hyes C a w (hsub _ C a w hh)) λa w h=>kk _ C a w (hback _ _ C a w h)
 ·exact WL.append (hno C a w (hsub _ C a w hh)) λa w h=>kk _ C a w (hback _ _ C a w h)
 ·exact WL.append (hno C a w (hsub _ C a w hh)) λa w h=>kk _ C a w (hback _ _ C a w h)
 ·exact WL.append (hyes C a w (hsub _ C a w hh)) λa w h=>kk _ C a w (hback _ _ C a w h)
theorem bU(k:Nat){s p:Nat}{b c:Bool}(hs:look T s=some (.bool b))
 (hyes:b=true→WL P X H G (λa w=>Hl X ((p,.bool c)::(s,.bool true)::T) L W a w) Q (os.take k) ((s,.bool true)::T) L W)
 (hno:b=false→WL P X H G (λa w=>Hl X ((p,.bool false)::(s,.bool false)::T) L W a w) Q (os.take k) ((s,.bool false)::T) L W)
 (kk:WL P X H G K Q (os.drop k) ((p,.bool (b&&c))::T) L W):WL P X H G K Q os T L W:=OO (os.take k) (os.drop k) (want:=true) (sq k os).symm hs hyes hno kk
theorem dU(k:Nat){s p:Nat}{b c:Bool}(hs:look T s=some (.bool b))
 (hyes:b=false→WL P X H G (λa w=>Hl X ((p,.bool c)::(s,.bool false)::T) L W a w) Q (os.take k) ((s,.bool false)::T) L W)
 (hno:b=true→WL P X H G (λa w=>Hl X ((p,.bool true)::(s,.bool true)::T) L W a w) Q (os.take k) ((s,.bool true)::T) L W)
 (kk:WL P X H G K Q (os.drop k) ((p,.bool (b||c))::T) L W):WL P X H G K Q os T L W:=OO (os.take k) (os.drop k) (want:=false) (sq k os).symm hs hyes hno kk
theorem V9{fls:List Bool}{O k2:Act→Δ→Prop}(hk:∀a w,O a w→k2 a w):∀(pl:jA) (a:Act) (w:Δ),I1 X.r H P G fls Q O pl a w→I1 X.r H P G fls Q k2 pl a w
 |.fin c,a,w,h=>by
  have:=sV (X:=X) (K':=O) _ [] a w h λa w h=>hk a w h;rw[yr]at this;exact this
 |.fork d p A q B,a,w,h=>by
  have one:∀(xs:List (Bool×Oper)) (I K2:Act→Δ→Prop) (a:Act) (w:Δ),wT X.r H P G I Q xs a w→(∀a w,I a w→K2 a w)→wT X.r H P G K2 Q xs a w:=λxs I K2 a w h hh=>by
   have:=sV (X:=X) (K':=I) xs [] a w h λa w h=>hh a w h;rw[yr]at this;exact this
  exact one _ _ _ a w h λa w hh=>⟨one _ _ _ a w hh.1 (V9 hk A),one _ _ _ a w hh.2 (V9 hk B)⟩
 |.forkN d p ps A,a,w,h=>by
  have one:∀(xs:List (Bool×Oper)) (I K2:Act→Δ→Prop) (a:Act) (w:Δ),wT X.r H P G I Q xs a w→(∀a w,I a w→K2 a w)→wT X.r H P G K2 Q xs a w:=λxs I K2 a w h hh=>by
   have:=sV (X:=X) (K':=I) xs [] a w h λa w h=>hh a w h;rw[yr]at this;exact this
  exact one _ _ _ a w h λa w hh i hi=>one _ _ _ a w (hh i hi) (V9 hk (A i))
theorem EC{fls:List Bool}{K':Act→Δ→Prop}:∀(xs ys:List jA) (a:Act) (w:Δ),SB X.r H P G fls Q K' xs a w→(∀a w,K' a w→SB X.r H P G fls Q K ys a w)→SB X.r H P G fls Q K (xs++ys) a w
 | [],_,a,w,h,hk=>hk a w h
 |x::xs,ys,a,w,h,hk=>V9 (λa w h=>EC xs ys a w h hk) x a w h
theorem BX{fls:List Bool}{γ:Type}(I:γ→Prop)(S:γ→bZ)(M:γ→aF)(E:γ→List aC)(xs ys:List jA){segs:List jA}(ho:segs=xs++ys)(h1:WS P X H G fls (λa w=>∃g,I g∧Hl X (S g) (M g) (E g) a w) Q xs T L W)
  (h2:∀g,I g→WS P X H G fls K Q ys (S g) (M g) (E g)):WS P X H G fls K Q segs T L W:=by
 subst ho;intro a w hh;exact EC xs ys a w (h1 a w hh) λa w ⟨g,hg,h⟩=>h2 g hg a w h
def P6:Nat→bZ→Bool
 |0,_=>true
 |_,[]=>true
 |n+1,(k,_)::r=>(match look (r.drop n) k with|none=>true|some _=>false)&&P6 n r
theorem W2:∀(n:Nat) (T:bZ),P6 n T=true→∀s v,look (T.drop n) s=some v→look T s=some v
 |0,T,_,s,v,h=>h
 |n+1,[],_,s,v,h=>h
 |n+1,(k,u)::r,hd,s,v,h=>by
  simp only[P6,zl]at hd;simp only[List.drop_succ_cons]at h;have h2:=W2 n r hd.2 s v h;simp only[look];cases hb:Nat.beq k s with
  |false=>exact h2
  |true=>
   obtain rfl:=wa hb;have:=hd.1;rw[h]at this;cases this
theorem Hl.cutK{p:Nat}{v:Γ}{a:Act}{w:Δ}(n:Nat)(h:Hl X ((p,v)::T) L W a w)(hd:P6 n T=true):Hl X ((p,v)::T.drop n) L W a w:=by
 obtain⟨h1,h2,h3⟩:=h;refine⟨h1,λs u hs=>h2 s u ?_,h3⟩;simp only[look]at hs ⊢
 cases hb:Nat.beq p s with
 |true=>rw[hb]at hs;exact hs
 |false=>rw[hb]at hs;exact W2 n T hd s u hs
theorem aQ{p:Nat}{v:Γ}(n:Nat)(hd:P6 n T=true:=by exact C):WL P X H G (λa w=>Hl X ((p,v)::T.drop n) L W a w) Q [] ((p,v)::T) L W:=x7 λ_ _ hh=>hh.cutK n hd
theorem aA{z:Code}{id:Nat}{ops:Array Oper}(h:WL P X [] ops (λa w=>(Exit.then (z.wpIn (FW X.r) 0 P Q) Q) .normal a w) (Exit.then (z.wpIn (FW X.r) 0 P Q) Q) ((List.range ops.size).map λi=>(false,i)) T L W):WC P X Q (.seq (.region id ops false) z) T L W:=h_ (aM h)
theorem bL{y z:Code}{id:Nat}{ops:Array Oper}(h:WL P X [] ops (λa w=>(Exit.then (y.wpIn (FW X.r) 0 P (Exit.then (z.wpIn (FW X.r) 0 P Q) Q)) (Exit.then (z.wpIn (FW X.r) 0 P Q) Q)) .normal a w) (Exit.then (y.wpIn (FW X.r) 0 P (Exit.then (z.wpIn (FW X.r) 0 P Q) Q)) (Exit.then (z.wpIn (FW X.r) 0 P Q) Q)) ((List.range ops.size).map λi=>(false,i)) T L W):WC P X Q (.seq (.seq (.region id ops false) y) z) T L W:=h_ (aA h)
theorem aE{y:Code}{R:Exit→Act→Δ→Prop}(h:WC P X Q y T L W):WL P X H G (λa w=>(Exit.then (y.wpIn (FW X.r) 0 P Q) Q) .normal a w) R [] T L W:=x7 (ek h)
theorem bX{x y:Code}{R:Exit→Act→Δ→Prop}(h:WC P X (Exit.then (y.wpIn (FW X.r) 0 P Q) Q) x T L W):WL P X H G (λa w=>(Exit.then ((Code.seq x y).wpIn (FW X.r) 0 P Q) Q) .normal a w) R [] T L W:=aE (h_ h)
theorem aJ{z:Code}{id:Nat}{ops:Array Oper}{R:Exit→Act→Δ→Prop}(h:WL P X [] ops (λa w=>(Exit.then (z.wpIn (FW X.r) 0 P Q) Q) .normal a w) (Exit.then (z.wpIn (FW X.r) 0 P Q) Q) ((List.range ops.size).map λi=>(false,i)) T L W):WL P X H G (λa w=>(Exit.then ((Code.seq (.region id ops false) z).wpIn (FW X.r) 0 P Q) Q) .normal a w) R [] T L W:=aE (aA h)
theorem bD{y z:Code}{id:Nat}{ops:Array Oper}{R:Exit→Act→Δ→Prop}(h:WL P X [] ops (λa w=>(Exit.then (y.wpIn (FW X.r) 0 P (Exit.then (z.wpIn (FW X.r) 0 P Q) Q)) (Exit.then (z.wpIn (FW X.r) 0 P Q) Q)) .normal a w) (Exit.then (y.wpIn (FW X.r) 0 P (Exit.then (z.wpIn (FW X.r) 0 P Q) Q)) (Exit.then (z.wpIn (FW X.r) 0 P Q) Q)) ((List.range ops.size).map λi=>(false,i)) T L W):WL P X H G (λa w=>(Exit.then ((Code.seq (.seq (.region id ops false) y) z).wpIn (FW X.r) 0 P Q) Q) .normal a w) R [] T L W:=aE (bL h)
theorem aG{R:Exit→Act→Δ→Prop}(h:∀a w,Hl X T L W a w→Q .ret a w):WL P X H G (λa w=>(Exit.then (Code.ret.wpIn (FW X.r) 0 P Q) Q) .normal a w) R [] T L W:=aE (PL h)
theorem aP{y:Code}(h:WC P X Q y T L W):WC P X (Exit.then (y.wpIn (FW X.r) 0 P Q) Q) .skip T L W:=bE (ek h)

theorem Fw{k:Act→Δ→Prop}(h:∀a w,Hl X T L W a w→Q .ret a w):∀a w,Hl X T L W a w→Exit.then k Q .ret a w:=h
theorem _root_.Go.Fs.Za3{k:Act→Δ→Prop}(h:∀a w,Hl X T L W a w→Q .ret a w):∀a w,Hl X T L W a w→Exit.then k Q .ret a w:=Fw h
theorem Nz{k:Act→Δ→Prop}{id:Nat}(h:∀a w,Hl X T L W a w→Q (.exit id) a w):∀a w,Hl X T L W a w→Exit.then k Q (.exit id) a w:=h
theorem _root_.Go.Fs.Za5{k:Act→Δ→Prop}{id:Nat}(h:∀a w,Hl X T L W a w→Q (.exit id) a w):∀a w,Hl X T L W a w→Exit.then k Q (.exit id) a w:=Nz h
theorem Lc{id:Nat}(h:∀a w,Hl X T L W a w→Q .ret a w):∀a w,Hl X T L W a w→Exit.inBlock id Q .ret a w:=h
theorem _root_.Go.Fs.Za8{id:Nat}(h:∀a w,Hl X T L W a w→Q .ret a w):∀a w,Hl X T L W a w→Exit.inBlock id Q .ret a w:=Lc h
theorem Nw{id:Nat}(h:∀a w,Hl X T L W a w→Q .normal a w):∀a w,Hl X T L W a w→Exit.inBlock id Q .normal a w:=h
theorem _root_.Go.Fs.Za7{id:Nat}(h:∀a w,Hl X T L W a w→Q .normal a w):∀a w,Hl X T L W a w→Exit.inBlock id Q .normal a w:=Nw h
theorem ZV{id:Nat}(h:∀a w,Hl X T L W a w→Q .normal a w):∀a w,Hl X T L W a w→Exit.inBlock id Q (.exit id) a w:=λa w hh=>UW (h a w hh)
theorem _root_.Go.Fs.Zba{id:Nat}(h:∀a w,Hl X T L W a w→Q .normal a w):∀a w,Hl X T L W a w→Exit.inBlock id Q (.exit id) a w:=ZV h
theorem yE{id id':Nat}(hne:Nat.beq id' id=false)(h:∀a w,Hl X T L W a w→Q (.exit id') a w):∀a w,Hl X T L W a w→Exit.inBlock id Q (.exit id') a w:=λa w hh=>MO hne (h a w hh)
theorem fE{γ:Type}{c:Code}(m:γ→Nat)(I:γ→Prop)(ch:γ→bZ)(rest:bZ)(M:γ→aF)(E:γ→List aC)(g₀:γ)(h₀:I g₀)(hch:FM T (ch g₀))(hrest:FM T rest)(hμ:(M g₀).Sublist L)(hD:∀D∈E g₀,∃D'∈W,Le D D')
  (round:∀g,I g→WC P X (Exit.then (λa w=>∃g',I g'∧m g'<m g∧Hl X (ch g'++rest) (M g') (E g') a w) Q) c (ch g++rest) (M g) (E g)):WC P X Q (.loop c) T L W:=
 Xaq m I (λg=>ch g++rest) M E g₀ h₀ (FM.app hch hrest) hμ hD round
theorem _root_.Go.Fs.Zc(γ:Type){c:Code}(m:γ→Nat)(I:γ→Prop)(ch:γ→bZ)(rest:bZ)(M:γ→aF)(E:γ→List aC)(g₀:γ)(h₀:I g₀)(hch:FM T (ch g₀))(hμ:(M g₀).Sublist L)(round:∀g,I g→WC P X (Exit.then (λa w=>∃g',I g'∧m g'<m g∧Hl X (ch g'++rest) (M g') (E g') a w) Q) c (ch g++rest) (M g) (E g))(hrest:FM T rest:=by exact cE)(hD:∀D∈E g₀,∃D'∈W,Le D D':=by exact(aN)):WC P X Q (.loop c) T L W:=fE (γ:=γ) m I ch rest M E g₀ h₀ hch hrest hμ hD round
theorem cW{γ:Type}{c:Code}(m:γ→Nat)(I:γ→Prop)(ch:γ→bZ)(rest:bZ)(E:γ→List aC)(g₀:γ)(h₀:I g₀)(hch:FM T (ch g₀))(hrest:FM T rest)(hD:∀D∈E g₀,∃D'∈W,Le D D')
  (round:∀g,I g→WC P X (Exit.then (λa w=>∃g',I g'∧m g'<m g∧Hl X (ch g'++rest) ((λ_=>L) g') (E g') a w) Q) c (ch g++rest) L (E g)):WC P X Q (.loop c) T L W:=
 fE m I ch rest (λ_=>L) E g₀ h₀ hch hrest zp hD round
theorem _root_.Go.Fs.Zo(γ:Type){c:Code}(m:γ→Nat)(I:γ→Prop)(ch:γ→bZ)(rest:bZ)(E:γ→List aC)(g₀:γ)(hch:FM T (ch g₀))(round:∀g,I g→WC P X (Exit.then (λa w=>∃g',I g'∧m g'<m g∧Hl X (ch g'++rest) ((λ_=>L) g') (E g') a w) Q) c (ch g++rest) L (E g))(h₀:I g₀:=by exact Yd)(hrest:FM T rest:=by exact cE)(hD:∀D∈E g₀,∃D'∈W,Le D D':=by exact(aN)):WC P X Q (.loop c) T L W:=cW (γ:=γ) m I ch rest E g₀ h₀ hch hrest hD round
theorem aK{γ:Type}{m:γ→Nat}{I:γ→Prop}{ch:γ→bZ}{rest:bZ}{M:γ→aF}{E:γ→List aC}{g:γ}(n:Nat)(g':γ)(h1:I g')(h2:m g'<m g)(hch:FM T (ch g'))(hn:P6 n T=true)(hr:T.drop n=rest)(hμ:(M g').Sublist L)(hD:∀D∈E g',∃D'∈W,Le D D'):
  ∀a w,Hl X T L W a w→Exit.then (λa w=>∃g',I g'∧m g'<m g∧Hl X (ch g'++rest) (M g') (E g') a w) Q .normal a w:=by
 intro a w hh;refine⟨g',h1,h2,?_⟩;have h3:=hh.weak (σ':=ch g') hch hμ hD;refine⟨h3.1,λs v hs=>?_,h3.2.2⟩;rcases EE hs with hs|hs
 ·exact h3.2.1 s v hs
 ·subst hr;exact hh.2.1 s v (W2 n T hn s v hs)
theorem _root_.Go.Fs.Zl{γ:Type}{m:γ→Nat}{I:γ→Prop}{ch:γ→bZ}{rest:bZ}{M:γ→aF}{E:γ→List aC}{g:γ}(n:Nat)(g':γ)(hch:FM T (ch g'))(e9:(P6 n T,T.drop n)=(true,rest))(hμ:(M g').Sublist L)(h1:I g':=by exact Yd)(h2:m g'<m g:=by exact Yd)(hD:∀D∈E g',∃D'∈W,Le D D':=by exact(aN)):∀a w,Hl X T L W a w→Exit.then (λa w=>∃g',I g'∧m g'<m g∧Hl X (ch g'++rest) (M g') (E g') a w) Q .normal a w:=aK n g' h1 h2 hch (zn (λz=>z.1) e9) (zn (λz=>z.2) e9) hμ hD
theorem aN{W:List aC}:∀D∈W,∃D'∈W,Le D D':=λD h=>⟨D,h,Le.refl D⟩
section ops
variable{d:Nat}{x y z:Operand}{u v:Γ}{ty:Θ}{pos:String}{aft:Array Edge}{g:Option (Nat×Bool)}
theorem Qt(ho:G[ix]?= some ⟨some d,.move x,ty,pos,aft,g⟩)(hx:ev T x=some v)(hN:Nat.blt d X.N=true)(hg:dF G T g)(k:WL P X H G K Q os ((d,v)::T) L W):WL P X H G K Q ((fl,ix)::os) T L W:=
 cB ho C C hN hg (λρ hρ w'=>by simp[execOp,hρ x v hx,Pure.pure]) k
theorem _root_.Go.Fs.Za(e9:(G[ix]?,ev T x)=(some ⟨some d,.move x,ty,pos,aft,g⟩,some v))(k:WL P X H G K Q os ((d,v)::T) L W)(hN:Nat.blt d X.N=true:=by exact C)(hg:dF G T g:=by exact zy):WL P X H G K Q ((fl,ix)::os) T L W:=Qt (zn (λz=>z.1) e9) (zn (λz=>z.2) e9) hN hg k
theorem _root_.Go.Fs.Zb(e9:(G[ix]?,ev T x)=(some ⟨some d,.move x,ty,pos,aft,g⟩,some v))(k:WL P X H G K Q os ((d,v)::T) L W)(hN:Nat.blt d X.N=true:=by exact C)(hg:dF G T g:=by exact⟨_,C,C⟩):WL P X H G K Q ((fl,ix)::os) T L W:=Qt (zn (λz=>z.1) e9) (zn (λz=>z.2) e9) hN hg k
theorem aHK(ho:G[ix]?= some ⟨some d,.assign x,ty,pos,aft,g⟩)(hx:ev T x=some v)(hN:Nat.blt d X.N=true)(hg:dF G T g)(k:WL P X H G K Q os ((d,v)::T) L W):WL P X H G K Q ((fl,ix)::os) T L W:=
 cB ho C C hN hg (λρ hρ w'=>by simp[execOp,hρ x v hx,Pure.pure]) k
theorem _root_.Go.Fs.Zf(e9:(G[ix]?,ev T x)=(some ⟨some d,.assign x,ty,pos,aft,g⟩,some v))(k:WL P X H G K Q os ((d,v)::T) L W)(hN:Nat.blt d X.N=true:=by exact C)(hg:dF G T g:=by exact zy):WL P X H G K Q ((fl,ix)::os) T L W:=aHK (zn (λz=>z.1) e9) (zn (λz=>z.2) e9) hN hg k
theorem oR(ho:G[ix]?= some ⟨some d,.pick x y z,ty,pos,aft,g⟩)(hx:ev T x=some (.bool true))(hy:ev T y=some v)(hN:Nat.blt d X.N=true)(hg:dF G T g)(k:WL P X H G K Q os ((d,v)::T) L W):WL P X H G K Q ((fl,ix)::os) T L W:=
 cB ho C C hN hg (λρ hρ w'=>by simp[execOp,hρ x _ hx,hρ y _ hy,asBool,go_sem]) k
theorem _root_.Go.Fs.Zam(e9:(G[ix]?,ev T x,ev T y)=(some ⟨some d,.pick x y z,ty,pos,aft,g⟩,some (.bool true),some v))(k:WL P X H G K Q os ((d,v)::T) L W)(hN:Nat.blt d X.N=true:=by exact C)(hg:dF G T g:=by exact zy):WL P X H G K Q ((fl,ix)::os) T L W:=oR (zn (λz=>z.1) e9) (zn (λz=>z.2.1) e9) (zn (λz=>z.2.2) e9) hN hg k
theorem oU(ho:G[ix]?= some ⟨some d,.pick x y z,ty,pos,aft,g⟩)(hx:ev T x=some (.bool false))(hy:ev T z=some v)(hN:Nat.blt d X.N=true)(hg:dF G T g)(k:WL P X H G K Q os ((d,v)::T) L W):WL P X H G K Q ((fl,ix)::os) T L W:=
 cB ho C C hN hg (λρ hρ w'=>by simp[execOp,hρ x _ hx,hρ z _ hy,asBool,go_sem]) k
theorem _root_.Go.Fs.Zan(e9:(G[ix]?,ev T x,ev T z)=(some ⟨some d,.pick x y z,ty,pos,aft,g⟩,some (.bool false),some v))(k:WL P X H G K Q os ((d,v)::T) L W)(hN:Nat.blt d X.N=true:=by exact C)(hg:dF G T g:=by exact zy):WL P X H G K Q ((fl,ix)::os) T L W:=oU (zn (λz=>z.1) e9) (zn (λz=>z.2.1) e9) (zn (λz=>z.2.2) e9) hN hg k
theorem Pa{b:Bool}{t:Θ}(ho:G[ix]?= some ⟨some d,.unOp .not t x,ty,pos,aft,g⟩)(hx:ev T x=some (.bool b))(hN:Nat.blt d X.N=true)(hg:dF G T g)(k:WL P X H G K Q os ((d,.bool (!b))::T) L W):WL P X H G K Q ((fl,ix)::os) T L W:=
 cB ho C C hN hg (λρ hρ w'=>by simp[execOp,hρ x _ hx,Op.unary,go_sem]) k
theorem _root_.Go.Fs.Zav{b:Bool}{t:Θ}(e9:(G[ix]?,ev T x)=(some ⟨some d,.unOp .not t x,ty,pos,aft,g⟩,some (.bool b)))(k:WL P X H G K Q os ((d,.bool (!b))::T) L W)(hN:Nat.blt d X.N=true:=by exact C)(hg:dF G T g:=by exact zy):WL P X H G K Q ((fl,ix)::os) T L W:=Pa (zn (λz=>z.1) e9) (zn (λz=>z.2) e9) hN hg k
theorem _root_.Go.Fs.Zaw{b:Bool}{t:Θ}(e9:(G[ix]?,ev T x)=(some ⟨some d,.unOp .not t x,ty,pos,aft,g⟩,some (.bool b)))(k:WL P X H G K Q os ((d,.bool (!b))::T) L W)(hN:Nat.blt d X.N=true:=by exact C)(hg:dF G T g:=by exact⟨_,C,C⟩):WL P X H G K Q ((fl,ix)::os) T L W:=Pa (zn (λz=>z.1) e9) (zn (λz=>z.2) e9) hN hg k
end ops
variable{d:Nat}{x y z:Operand}{u v:Γ}{ty:Θ}{pos:String}{aft:Array Edge}{g:Option (Nat×Bool)}

def vE:IntKind→Int→Prop
 |.i8,n=> -128≤n∧n≤127
 |.i16,n=> -32768≤n∧n≤32767
 |.i32,n=> -2147483648≤n∧n≤2147483647
 |.i64,n=> -9223372036854775808≤n∧n≤9223372036854775807
 |.u8,n=>0≤n∧n≤255
 |.u16,n=>0≤n∧n≤65535
 |.u32,n=>0≤n∧n≤4294967295
 |.u64,n=>0≤n∧n≤18446744073709551615
theorem tL{k:IntKind}{n:Int}(h:vE k n):k.wrap n=n:=by
 cases k<;>simp only[vE]at h<;>simp only[IntKind.wrap,IntKind.bits,IntKind.signed,v_,Bool.false_and,wt,xx,LE,ge_iff_le]<;>
  (first|(split<;>omega)|omega)
section nums
variable{k:IntKind}{m n:Int}{t t':Θ}
theorem nL{op:BinOp}{w:Δ}{r:Γ}(he:op≠.shl∧op≠.shr)(h:(binOp op t (.int k m) (.int k n)).run P w=.ok r w){ρ:Operand→Γ}(hx:ρ x=.int k m)(hy:ρ y=.int k n):
  (execOp ρ ⟨some d,.binOp op t x y t',ty,pos,aft,g⟩).run P w=.ok (.value r) w:=by
 have hg:∀w,(eqGuard op t x y (.int k m) (.int k n)).run P w=.ok () w:=by
  intro w;unfold eqGuard;split<;>rfl
 simp[execOp,hx,hy,h,go_sem]
theorem xN(ho:G[ix]?= some ⟨some d,.binOp .add t x y t',ty,pos,aft,g⟩)(hx:ev T x=some (.int k m))(hy:ev T y=some (.int k n))(hr:vE k (m+n))(hN:Nat.blt d X.N=true)(hg:dF G T g)(kk:WL P X H G K Q os ((d,.int k (m+n))::T) L W):
  WL P X H G K Q ((fl,ix)::os) T L W:=
 cB ho C C hN hg (λρ hρ w'=>nL Yf et (hρ x _ hx) (hρ y _ hy)) kk
theorem _root_.Go.Fs.Zaf(e9:(G[ix]?,ev T x,ev T y)=(some ⟨some d,.binOp .add t x y t',ty,pos,aft,g⟩,some (.int k m),some (.int k n)))(kk:WL P X H G K Q os ((d,.int k (m+n))::T) L W)(hr:vE k (m+n):=by exact Ye)(hN:Nat.blt d X.N=true:=by exact C)(hg:dF G T g:=by exact zy):WL P X H G K Q ((fl,ix)::os) T L W:=xN (zn (λz=>z.1) e9) (zn (λz=>z.2.1) e9) (zn (λz=>z.2.2) e9) hr hN hg kk
theorem xO(ho:G[ix]?= some ⟨some d,.binOp .sub t x y t',ty,pos,aft,g⟩)(hx:ev T x=some (.int k m))(hy:ev T y=some (.int k n))(hr:vE k (m-n))(hN:Nat.blt d X.N=true)(hg:dF G T g)(kk:WL P X H G K Q os ((d,.int k (m-n))::T) L W):
  WL P X H G K Q ((fl,ix)::os) T L W:=
 cB ho C C hN hg (λρ hρ w'=>nL Yf et (hρ x _ hx) (hρ y _ hy)) kk
theorem _root_.Go.Fs.Zax(e9:(G[ix]?,ev T x,ev T y)=(some ⟨some d,.binOp .sub t x y t',ty,pos,aft,g⟩,some (.int k m),some (.int k n)))(kk:WL P X H G K Q os ((d,.int k (m-n))::T) L W)(hr:vE k (m-n):=by exact Ye)(hN:Nat.blt d X.N=true:=by exact C)(hg:dF G T g:=by exact zy):WL P X H G K Q ((fl,ix)::os) T L W:=xO (zn (λz=>z.1) e9) (zn (λz=>z.2.1) e9) (zn (λz=>z.2.2) e9) hr hN hg kk
theorem EM(ho:G[ix]?= some ⟨some d,.binOp .mul t x y t',ty,pos,aft,g⟩)(hx:ev T x=some (.int k m))(hy:ev T y=some (.int k n))(hr:vE k (m*n))(hN:Nat.blt d X.N=true)(hg:dF G T g)(kk:WL P X H G K Q os ((d,.int k (m*n))::T) L W):
  WL P X H G K Q ((fl,ix)::os) T L W:=
 cB ho C C hN hg (λρ hρ w'=>nL Yf et (hρ x _ hx) (hρ y _ hy)) kk
theorem IU(ho:G[ix]?= some ⟨some d,.binOp .lss t x y t',ty,pos,aft,g⟩)(hx:ev T x=some (.int k m))(hy:ev T y=some (.int k n))(hN:Nat.blt d X.N=true)(hg:dF G T g)(kk:WL P X H G K Q os ((d,.bool (decide (m<n)))::T) L W):
  WL P X H G K Q ((fl,ix)::os) T L W:=
 cB ho C C hN hg (λρ hρ w'=>nL Yf ic (hρ x _ hx) (hρ y _ hy)) kk
theorem _root_.Go.Fs.Zal(e9:(G[ix]?,ev T x,ev T y)=(some ⟨some d,.binOp .lss t x y t',ty,pos,aft,g⟩,some (.int k m),some (.int k n)))(kk:WL P X H G K Q os ((d,.bool (decide (m<n)))::T) L W)(hN:Nat.blt d X.N=true:=by exact C)(hg:dF G T g:=by exact zy):WL P X H G K Q ((fl,ix)::os) T L W:=IU (zn (λz=>z.1) e9) (zn (λz=>z.2.1) e9) (zn (λz=>z.2.2) e9) hN hg kk
theorem iB(ho:G[ix]?= some ⟨some d,.binOp .leq t x y t',ty,pos,aft,g⟩)(hx:ev T x=some (.int k m))(hy:ev T y=some (.int k n))(hN:Nat.blt d X.N=true)(hg:dF G T g)(kk:WL P X H G K Q os ((d,.bool (decide (m≤n)))::T) L W):
  WL P X H G K Q ((fl,ix)::os) T L W:=
 cB ho C C hN hg (λρ hρ w'=>nL Yf ic (hρ x _ hx) (hρ y _ hy)) kk
theorem Pl(ho:G[ix]?= some ⟨some d,.binOp .gtr t x y t',ty,pos,aft,g⟩)(hx:ev T x=some (.int k m))(hy:ev T y=some (.int k n))(hN:Nat.blt d X.N=true)(hg:dF G T g)(kk:WL P X H G K Q os ((d,.bool (decide (n<m)))::T) L W):
  WL P X H G K Q ((fl,ix)::os) T L W:=
 cB ho C C hN hg (λρ hρ w'=>nL Yf ic (hρ x _ hx) (hρ y _ hy)) kk
theorem _root_.Go.Fs.Zat(e9:(G[ix]?,ev T x,ev T y)=(some ⟨some d,.binOp .gtr t x y t',ty,pos,aft,g⟩,some (.int k m),some (.int k n)))(kk:WL P X H G K Q os ((d,.bool (decide (n<m)))::T) L W)(hN:Nat.blt d X.N=true:=by exact C)(hg:dF G T g:=by exact zy):WL P X H G K Q ((fl,ix)::os) T L W:=Pl (zn (λz=>z.1) e9) (zn (λz=>z.2.1) e9) (zn (λz=>z.2.2) e9) hN hg kk
theorem _root_.Go.Fs.Zau(e9:(G[ix]?,ev T x,ev T y)=(some ⟨some d,.binOp .gtr t x y t',ty,pos,aft,g⟩,some (.int k m),some (.int k n)))(kk:WL P X H G K Q os ((d,.bool (decide (n<m)))::T) L W)(hN:Nat.blt d X.N=true:=by exact C)(hg:dF G T g:=by exact⟨_,C,C⟩):WL P X H G K Q ((fl,ix)::os) T L W:=Pl (zn (λz=>z.1) e9) (zn (λz=>z.2.1) e9) (zn (λz=>z.2.2) e9) hN hg kk
theorem kE(ho:G[ix]?= some ⟨some d,.binOp .geq t x y t',ty,pos,aft,g⟩)(hx:ev T x=some (.int k m))(hy:ev T y=some (.int k n))(hN:Nat.blt d X.N=true)(hg:dF G T g)(kk:WL P X H G K Q os ((d,.bool (decide (n≤m)))::T) L W):
  WL P X H G K Q ((fl,ix)::os) T L W:=
 cB ho C C hN hg (λρ hρ w'=>nL Yf ic (hρ x _ hx) (hρ y _ hy)) kk
theorem sQ(ho:G[ix]?= some ⟨some d,.binOp .eql t x y t',ty,pos,aft,g⟩)(hx:ev T x=some (.int k m))(hy:ev T y=some (.int k n))(hN:Nat.blt d X.N=true)(hg:dF G T g)(kk:WL P X H G K Q os ((d,.bool (decide (m=n)))::T) L W):
  WL P X H G K Q ((fl,ix)::os) T L W:=
 cB ho C C hN hg (λρ hρ w'=>nL Yf ak (hρ x _ hx) (hρ y _ hy)) kk
theorem _root_.Go.Fs.Zas(e9:(G[ix]?,ev T x,ev T y)=(some ⟨some d,.binOp .eql t x y t',ty,pos,aft,g⟩,some (.int k m),some (.int k n)))(kk:WL P X H G K Q os ((d,.bool (decide (m=n)))::T) L W)(hN:Nat.blt d X.N=true:=by exact C)(hg:dF G T g:=by exact zy):WL P X H G K Q ((fl,ix)::os) T L W:=sQ (zn (λz=>z.1) e9) (zn (λz=>z.2.1) e9) (zn (λz=>z.2.2) e9) hN hg kk
theorem KD(ho:G[ix]?= some ⟨some d,.binOp .neq t x y t',ty,pos,aft,g⟩)(hx:ev T x=some (.int k m))(hy:ev T y=some (.int k n))(hN:Nat.blt d X.N=true)(hg:dF G T g)(kk:WL P X H G K Q os ((d,.bool (decide (m≠n)))::T) L W):
  WL P X H G K Q ((fl,ix)::os) T L W:=
 cB ho C C hN hg (λρ hρ w'=>nL Yf ak (hρ x _ hx) (hρ y _ hy)) kk
theorem _root_.Go.Fs.Za0(e9:(G[ix]?,ev T x,ev T y)=(some ⟨some d,.binOp .neq t x y t',ty,pos,aft,g⟩,some (.int k m),some (.int k n)))(kk:WL P X H G K Q os ((d,.bool (decide (m≠n)))::T) L W)(hN:Nat.blt d X.N=true:=by exact C)(hg:dF G T g:=by exact zy):WL P X H G K Q ((fl,ix)::os) T L W:=KD (zn (λz=>z.1) e9) (zn (λz=>z.2.1) e9) (zn (λz=>z.2.2) e9) hN hg kk
theorem uR(ho:G[ix]?= some ⟨some d,.binOp .rem t x y t',ty,pos,aft,g⟩)(hx:ev T x=some (.int k m))(hy:ev T y=some (.int k n))(h0:0≤m)(h1:0<n)(hr:vE k (m%n))(hN:Nat.blt d X.N=true)(hg:dF G T g)(kk:WL P X H G K Q os ((d,.int k (m%n))::T) L W):
  WL P X H G K Q ((fl,ix)::os) T L W:=
 cB ho C C hN hg (λρ hρ w'=>nL Yf (by
  have hn:¬n=0:=Yd
  have e:m.tmod n=m%n:=Int.tmod_eq_emod_of_nonneg h0;cases k<;>simp[binOp,Op.intDiv,hn,e,Pure.pure]) (hρ x _ hx) (hρ y _ hy)) kk
theorem HX(ho:G[ix]?= some ⟨some d,.binOp .quo t x y t',ty,pos,aft,g⟩)(hx:ev T x=some (.int k m))(hy:ev T y=some (.int k n))(h0:0≤m)(h1:0<n)(hr:vE k (m / n))(hN:Nat.blt d X.N=true)(hg:dF G T g)(kk:WL P X H G K Q os ((d,.int k (m / n))::T) L W):
  WL P X H G K Q ((fl,ix)::os) T L W:=
 cB ho C C hN hg (λρ hρ w'=>nL Yf (by
  have hn:¬n=0:=Yd
  have e:m.tdiv n=m / n:=Int.tdiv_eq_ediv_of_nonneg h0;cases k<;>simp[binOp,Op.intDiv,hn,e,tL hr,Pure.pure]) (hρ x _ hx) (hρ y _ hy)) kk
end nums
theorem aCN{c:Operand}{a b:Code}{p:Prop}[Decidable p](hc:ev T c=some (.bool (decide p)))(ht:p→WC P X Q a T L W)(hf:¬p→WC P X Q b T L W):WC P X Q (.cond c a b) T L W:=
 dw hc (λe=>ht (yn e)) λe=>hf (ye e)
theorem _root_.Go.Fs.Zae{c:Operand}{a:Code}{b:Code}{p:Prop}[Decidable p](hc:ev T c=some (.bool (decide p)))(ht:p→WC P X Q a T L W)(hf:¬p→WC P X Q b T L W):WC P X Q (.cond c a b) T L W:=aCN hc ht hf

def TA(P:Program)(t:Θ)(b:Bool):Prop:=∀w,(isAgg t).run P w=.ok b w
def TS(P:Program)(t:Θ)(n:Nat):Prop:=∀w,(sizeOf t).run P w=.ok n w
def TU(P:Program)(t:Θ)(u:TypeDesc):Prop:=∀w,(underlying t).run P w=.ok u w
def TZ(P:Program)(t:Θ)(v:Γ):Prop:=∀w,(zeroValue t).run P w=.ok v w
theorem TU.of{t:Θ}{u:TypeDesc}(h:P.underlying t=some u):TU P t u:=λw=>by simp[underlying,program,Sem.run,h,go_sem]
theorem TA.of{t:Θ}{u:TypeDesc}(h:P.underlying t=some u)(b:Bool)(hb:(match u with|.struct _=>true|.array _ _=>true|_=>false)=b):TA P t b:=λw=>by
 have:=TU.of h w;unfold isAgg;rw[Ω,this];subst hb;cases u<;>rfl
theorem TS.of{t:Θ}{n:Nat}(h:(P.info? t).map (·.size)=some n):TS P t n:=λw=>by
 cases hi:P.info? t with
 |none=>simp[hi]at h
 |some i=>simp[hi]at h;simp[sizeOf,typeInfo,program,Sem.run,hi,h,go_sem]
theorem TZ.of{t:Θ}{v:Γ}(h:(P.info? t).bind (·.zero)=some v):TZ P t v:=λw=>by
 cases hi:P.info? t with
 |none=>simp[hi]at h
 |some i=>simp[hi]at h;simp[zeroValue,typeInfo,program,Sem.run,hi,h,go_sem]

theorem tO{w:Δ}{b off:Nat}{cs:Array Γ}{e:Θ}{fz:Nat×Nat}{v:Γ}(h:w.heap[b]?= some (.cells cs e fz))(hv:cs[off]?= some v):w.cell? ⟨b,off,none⟩=some v:=by
 simp[World.cell?,h,hv]
theorem XI{w:Δ}{a:Addr}{v:Γ}(h:w.cell? a=some v):(load a).run P w=.ok v w:=by
 simp[load,Sem.run,h]
theorem yN{w:Δ}{b off:Nat}:∀(n i:Nat) (acc:Array Γ) (vs:List Γ),vs.length=n→(∀j v,vs[j]?= some v→w.cell? ⟨b,off+(i+j),none⟩=some v)→
  (loadCellsFrom ⟨b,off,none⟩ i n acc).run P w=.ok (acc++vs.toArray) w:=by
 intro n;induction n with
 |zero=>intro i acc vs hl _;have:vs=[]:=ri.1 hl;subst this;simp[loadCellsFrom,Pure.pure]
 |succ n ih=>
  intro i acc vs hl h;cases vs with
  |nil=>simp at hl
  |cons v vs=>
   have h0:=h 0 v C;have ha:(⟨b,off,none⟩:Addr).add i=⟨b,off+i,none⟩:=by
    unfold Addr.add;split
    ·rename_i h;subst h;rfl
    ·rfl
   simp only[loadCellsFrom];rw[Ω,ha,XI (by simpa using h0)];show(loadCellsFrom ⟨b,off,none⟩ (i+1) n (acc.push v)).run P w=_;rw[ih (i+1) (acc.push v) vs uu (λj u hu=>by
    have:=h (j+1) u (by simpa using hu);rw[show off+(i+(j+1))=off+(i+1+j) by omega]at this;exact this)]
   simp
def k_(w:Δ)(b off:Nat)(vs:List Γ):Prop:=∀j v,vs[j]?= some v→w.cell? ⟨b,off+j,none⟩=some v
theorem oG{w:Δ}{t:Θ}{b off:Nat}{vs:List Γ}(ha:TA P t true)(hs:TS P t vs.length)(h:k_ w b off vs):(Instr.loadAt t (.pointer (some ⟨b,off,none⟩))).run P w=.ok (.agg vs.toArray) w:=by
 unfold Instr.loadAt Instr.sureAddr loadVar loadCells;simp only[Ω,ε,Result.andThen,ha w,hs w,yo,pure_bind];rw[yN vs.length 0 #[] vs C (λj v hv=>by rw[show off+(0+j)=off+j by omega];exact h j v hv)]
 simp
theorem wL{w:Δ}{t:Θ}{b off:Nat}{v:Γ}(ha:TA P t false)(h:w.cell? ⟨b,off,none⟩=some v):(Instr.loadAt t (.pointer (some ⟨b,off,none⟩))).run P w=.ok v w:=by
 unfold Instr.loadAt Instr.sureAddr loadVar;simp only[Ω,Result.andThen,ha w,pure_bind];exact XI h

theorem bR{w:Δ}{b:Nat}{o:Obj}(h:w.heap[b]?= some o):b<w.heap.size:=(rj.1 h).1
theorem Hl.boxAt{a:Act}{w w':Δ}(h:Hl X T L W a w){b:Nat}{o:Obj}(hm:(b,o)∈L)(hb:b∉H)(hk:rL H w w'):w'.heap[b]?= some o:=by
 obtain⟨_,_,_,D,hs,_⟩:=h;have:=(hs.box _ hm).1;rw[hk.2 b (bR this) hb];exact this
theorem gI.cell{D:aC}{w:Δ}(h:gI D w){b i:Nat}{v:Γ}(hv:(D b)[i]?= some v):w.cell? ⟨b,i,none⟩=some v:=by
 have hne:D b≠[]:=λe=>by rw[e]at hv;simp at hv
 obtain⟨cs,e,fz,hc,hp⟩:=h.1 b hne;obtain⟨t,ht⟩:=hp;refine tO hc ?_;have hl:=(yx.1 hv).1;have:cs.toList[i]?= some v:=by rw[←ht,uo hl];exact hv
 simpa using this
theorem Hl.dataAt{a:Act}{w w':Δ}(h:Hl X T L W a w){D₁:aC}(hD:D₁∈W){b i:Nat}{v:Γ}(hv:(D₁ b)[i]?= some v)(hb:b∉H)(hk:rL H w w'):
  w'.cell? ⟨b,i,none⟩=some v:=by
 obtain⟨_,_,_,D,hs,hl,_⟩:=h;have hc:=hs.agr.cell ((hl D₁ hD).get hv);unfold World.cell? at hc ⊢
 cases hw:w.heap[b]? with
 |none=>simp[hw]at hc
 |some o=>rw[show(⟨b,i,none⟩:Addr).block=b from C,hk.2 b (bR hw) hb];exact hc
def At(D:aC)(b o:Nat)(cs:List Γ):Prop:=∀j v,cs[j]?= some v→(D b)[o+j]?= some v
theorem At.up{D D':aC}{b o:Nat}{cs:List Γ}(h:At D b o cs)(hl:Le D D'):At D' b o cs:=λj v hv=>hl.get (h j v hv)
theorem Hl.liesD{a:Act}{w w':Δ}(h:Hl X T L W a w){D₁:aC}(hD:D₁∈W){b o:Nat}{cs:List Γ}(hA:At D₁ b o cs)(hb:b∉H)(hk:rL H w w'):k_ w' b o cs:=
 λj v hv=>h.dataAt hD (hA j v hv) hb hk

theorem bG{t:Θ}{b off:Nat}{vs:List Γ}{e:Θ}{fz:Nat×Nat}(ho:G[ix]?= some ⟨some d,.load t x,ty,pos,aft,g⟩)(ha:TA P t false)(hx:ev T x=some (.pointer (some ⟨b,off,none⟩)))(hm:(b,.cells vs.toArray e fz)∈L)(hv:vs[off]?= some v)(hb:b∉H)
  (hN:Nat.blt d X.N=true) (hg:dF G T g) (kk:WL P X H G K Q os ((d,v)::T) L W):WL P X H G K Q ((fl,ix)::os) T L W:=
 qA ho C C hN hg (λa w hh w' hk=>by
  simp only[execOp,hh.eval hx];rw[Ω,wL ha (tO (hh.boxAt hm hb hk) (by simpa using hv))];rfl) kk
theorem _root_.Go.Fs.Zq{t:Θ}{b:Nat}{off:Nat}{vs:List Γ}{e:Θ}{fz:Nat×Nat}(ho:G[ix]?= some ⟨some d,.load t x,ty,pos,aft,g⟩)(ha:TA P t false)(hx:ev T x=some (.pointer (some ⟨b,off,none⟩)))(hm:(b,.cells vs.toArray e fz)∈L)(hv:vs[off]?= some v)(kk:WL P X H G K Q os ((d,v)::T) L W)(hb:b∉H:=by exact n4)(hN:Nat.blt d X.N=true:=by exact C)(hg:dF G T g:=by exact zy):WL P X H G K Q ((fl,ix)::os) T L W:=bG ho ha hx hm hv hb hN hg kk
theorem _root_.Go.Fs.Zr{t:Θ}{b:Nat}{off:Nat}{vs:List Γ}{e:Θ}{fz:Nat×Nat}(ho:G[ix]?= some ⟨some d,.load t x,ty,pos,aft,g⟩)(ha:TA P t false)(hx:ev T x=some (.pointer (some ⟨b,off,none⟩)))(hm:(b,.cells vs.toArray e fz)∈L)(hv:vs[off]?= some v)(kk:WL P X H G K Q os ((d,v)::T) L W)(hb:b∉H:=by exact n4)(hN:Nat.blt d X.N=true:=by exact C)(hg:dF G T g:=by exact⟨_,C,C⟩):WL P X H G K Q ((fl,ix)::os) T L W:=bG ho ha hx hm hv hb hN hg kk
theorem bN{t:Θ}{b:Nat}{vs:List Γ}{e:Θ}{fz:Nat×Nat}(ho:G[ix]?= some ⟨some d,.load t x,ty,pos,aft,g⟩)(ha:TA P t true)(hx:ev T x=some (qP b))(hm:(b,.cells vs.toArray e fz)∈L)(hs:TS P t vs.length)(hb:b∉H)
  (hN:Nat.blt d X.N=true) (hg:dF G T g) (kk:WL P X H G K Q os ((d,.agg vs.toArray)::T) L W):WL P X H G K Q ((fl,ix)::os) T L W:=
 qA ho C C hN hg (λa w hh w' hk=>by
  simp only[execOp,hh.eval hx];rw[Ω,oG ha hs (λj v hv=>tO (hh.boxAt hm hb hk) (by simpa using hv))];rfl) kk
theorem _root_.Go.Fs.Zah{t:Θ}{b:Nat}{vs:List Γ}{e:Θ}{fz:Nat×Nat}(ho:G[ix]?= some ⟨some d,.load t x,ty,pos,aft,g⟩)(ha:TA P t true)(hx:ev T x=some (qP b))(hm:(b,.cells vs.toArray e fz)∈L)(hs:TS P t vs.length)(kk:WL P X H G K Q os ((d,.agg vs.toArray)::T) L W)(hb:b∉H:=by exact n4)(hN:Nat.blt d X.N=true:=by exact C)(hg:dF G T g:=by exact zy):WL P X H G K Q ((fl,ix)::os) T L W:=bN ho ha hx hm hs hb hN hg kk
theorem eW{t:Θ}{b off n:Nat}{vs us:List Γ}{e:Θ}{fz:Nat×Nat}(ho:G[ix]?= some ⟨some d,.load t x,ty,pos,aft,g⟩)(ha:TA P t true)(hs:TS P t n)(hx:ev T x=some (.pointer (some ⟨b,off,none⟩)))(hm:(b,.cells vs.toArray e fz)∈L)
  (hu:(vs.drop off).take n=us) (hl:us.length=n) (hb:b∉H)
  (hN:Nat.blt d X.N=true) (hg:dF G T g) (kk:WL P X H G K Q os ((d,.agg us.toArray)::T) L W):WL P X H G K Q ((fl,ix)::os) T L W:=
 qA ho C C hN hg (λa w hh w' hk=>by
  subst hl;simp only[execOp,hh.eval hx];rw[Ω,oG ha hs (λj v hv=>tO (hh.boxAt hm hb hk) (by
   have hl:=(yx.1 hv).1;rw[←hu,sa hl,vb]at hv;simpa using hv))]
  rfl) kk
theorem eE{t:Θ}{D₁:aC}{b o k:Nat}{cs:List Γ}(ho:G[ix]?= some ⟨some d,.load t x,ty,pos,aft,g⟩)(ha:TA P t false)(hx:ev T x=some (.pointer (some ⟨b,o+k,none⟩)))(hA:At D₁ b o cs)(hD:D₁∈W)(hv:cs[k]?= some v)(hb:b∉H)
  (hN:Nat.blt d X.N=true) (hg:dF G T g) (kk:WL P X H G K Q os ((d,v)::T) L W):WL P X H G K Q ((fl,ix)::os) T L W:=
 qA ho C C hN hg (λa w hh w' hk=>by
  simp only[execOp,hh.eval hx];rw[Ω,wL ha (hh.liesD hD hA hb hk k v hv)];rfl) kk
theorem _root_.Go.Fs.Zh{t:Θ}{D₁:aC}{b:Nat}{o:Nat}(k:Nat){cs:List Γ}(ho:G[ix]?= some ⟨some d,.load t x,ty,pos,aft,g⟩)(ha:TA P t false)(hx:ev T x=some (.pointer (some ⟨b,o+k,none⟩)))(hA:At D₁ b o cs)(hv:cs[k]?= some v)(kk:WL P X H G K Q os ((d,v)::T) L W)(hD:D₁∈W:=by exact Yc)(hb:b∉H:=by exact n4)(hN:Nat.blt d X.N=true:=by exact C)(hg:dF G T g:=by exact zy):WL P X H G K Q ((fl,ix)::os) T L W:=eE (k:=k) ho ha hx hA hD hv hb hN hg kk
theorem _root_.Go.Fs.Zi{t:Θ}{D₁:aC}{b:Nat}{o:Nat}(k:Nat){cs:List Γ}(ho:G[ix]?= some ⟨some d,.load t x,ty,pos,aft,g⟩)(ha:TA P t false)(hx:ev T x=some (.pointer (some ⟨b,o+k,none⟩)))(hA:At D₁ b o cs)(hv:cs[k]?= some v)(kk:WL P X H G K Q os ((d,v)::T) L W)(hD:D₁∈W:=by exact Yc)(hb:b∉H:=by exact n4)(hN:Nat.blt d X.N=true:=by exact C)(hg:dF G T g:=by exact⟨_,C,C⟩):WL P X H G K Q ((fl,ix)::os) T L W:=eE (k:=k) ho ha hx hA hD hv hb hN hg kk
theorem cQ{t:Θ}{D₁:aC}{b o:Nat}{cs:List Γ}(ho:G[ix]?= some ⟨some d,.load t x,ty,pos,aft,g⟩)(ha:TA P t true)(hx:ev T x=some (.pointer (some ⟨b,o,none⟩)))(hA:At D₁ b o cs)(hD:D₁∈W)(hs:TS P t cs.length)(hb:b∉H)
  (hN:Nat.blt d X.N=true) (hg:dF G T g) (kk:WL P X H G K Q os ((d,.agg cs.toArray)::T) L W):WL P X H G K Q ((fl,ix)::os) T L W:=
 qA ho C C hN hg (λa w hh w' hk=>by
  simp only[execOp,hh.eval hx];rw[Ω,oG ha hs (hh.liesD hD hA hb hk)];rfl) kk
theorem _root_.Go.Fs.Zv{t:Θ}{D₁:aC}{b:Nat}{o:Nat}{cs:List Γ}(ho:G[ix]?= some ⟨some d,.load t x,ty,pos,aft,g⟩)(ha:TA P t true)(hx:ev T x=some (.pointer (some ⟨b,o,none⟩)))(hA:At D₁ b o cs)(hs:TS P t cs.length)(kk:WL P X H G K Q os ((d,.agg cs.toArray)::T) L W)(hD:D₁∈W:=by exact Yc)(hb:b∉H:=by exact n4)(hN:Nat.blt d X.N=true:=by exact C)(hg:dF G T g:=by exact zy):WL P X H G K Q ((fl,ix)::os) T L W:=cQ ho ha hx hA hD hs hb hN hg kk
theorem sL{t:Θ}{D₁:aC}{b o k n:Nat}{cs us:List Γ}(ho:G[ix]?= some ⟨some d,.load t x,ty,pos,aft,g⟩)(ha:TA P t true)(hs:TS P t n)(hx:ev T x=some (.pointer (some ⟨b,o+k,none⟩)))(hA:At D₁ b o cs)(hD:D₁∈W)(hu:(cs.drop k).take n=us)(hl:us.length=n)(hb:b∉H)
  (hN:Nat.blt d X.N=true) (hg:dF G T g) (kk:WL P X H G K Q os ((d,.agg us.toArray)::T) L W):WL P X H G K Q ((fl,ix)::os) T L W:=
 qA ho C C hN hg (λa w hh w' hk=>by
  subst hl;simp only[execOp,hh.eval hx];rw[Ω,oG ha hs (λj v hv=>by
   have hl:=(yx.1 hv).1;rw[←hu,sa hl,vb]at hv;have:=hh.liesD hD hA hb hk (k+j) v hv;rw[←Nat.add_assoc]at this;exact this)]
  rfl) kk
theorem _root_.Go.Fs.Zaq{t:Θ}{D₁:aC}{b:Nat}{o:Nat}(k:Nat){n:Nat}{cs:List Γ}{us:List Γ}(ho:G[ix]?= some ⟨some d,.load t x,ty,pos,aft,g⟩)(ha:TA P t true)(hs:TS P t n)(hx:ev T x=some (.pointer (some ⟨b,o+k,none⟩)))(hA:At D₁ b o cs)(e9:((cs.drop k).take n,us.length)=(us,n))(kk:WL P X H G K Q os ((d,.agg us.toArray)::T) L W)(hD:D₁∈W:=by exact Yc)(hb:b∉H:=by exact n4)(hN:Nat.blt d X.N=true:=by exact C)(hg:dF G T g:=by exact zy):WL P X H G K Q ((fl,ix)::os) T L W:=sL (k:=k) ho ha hs hx hA hD (zn (λz=>z.1) e9) (zn (λz=>z.2) e9) hb hN hg kk

def TF(P:Program)(t:Θ)(i k:Nat):Prop:=∀(a:Addr) w,(Instr.fieldAt t (.pointer (some a)) i).run P w=.ok (.pointer (some (a.add k))) w
theorem TF.of{t:Θ}{i k ft:Nat}{fs:Array Field}{n:Nat}(h:P.underlying t=some (.struct fs))(hk:(fs[i]?).map (λf=>(f.offset,f.type))=some (k,ft))(hs:TS P ft n)(hn:Nat.beq n 0=false):TF P t i k:=λa w=>by
 have hn':n≠0:=λe=>by subst e;simp at hn
 cases hf:fs[i]? with
 |none=>simp[hf]at hk
 |some f=>
  simp only[hf,xo,uk,ux]at hk;obtain⟨rfl,rfl⟩:=hk;unfold Instr.fieldAt fieldPlace Instr.sureAddr;simp only[Ω,TU.of h w,Ξ,hf,hs w,ε,zv hn',pure_bind]
theorem iL(b o k:Nat):(⟨b,o,none⟩:Addr).add k=⟨b,o+k,none⟩:=by
 unfold Addr.add;split
 ·rename_i h;subst h;rfl
 ·rfl
theorem FD{t:Θ}{i k b o:Nat}(ho:G[ix]?= some ⟨some d,.fieldAddr t x i,ty,pos,aft,g⟩)(h:TF P t i k)(hx:ev T x=some (.pointer (some ⟨b,o,none⟩)))
  (hN:Nat.blt d X.N=true) (hg:dF G T g) (kk:WL P X H G K Q os ((d,.pointer (some ⟨b,o+k,none⟩))::T) L W):WL P X H G K Q ((fl,ix)::os) T L W:=
 cB ho C C hN hg (λρ hρ w'=>by
  simp only[execOp,hρ x _ hx];rw[Ω,h,iL];rfl) kk
theorem _root_.Go.Fs.Zj{t:Θ}{i:Nat}{k:Nat}{b:Nat}{o:Nat}(ho:G[ix]?= some ⟨some d,.fieldAddr t x i,ty,pos,aft,g⟩)(h:TF P t i k)(hx:ev T x=some (.pointer (some ⟨b,o,none⟩)))(kk:WL P X H G K Q os ((d,.pointer (some ⟨b,o+k,none⟩))::T) L W)(hN:Nat.blt d X.N=true:=by exact C)(hg:dF G T g:=by exact zy):WL P X H G K Q ((fl,ix)::os) T L W:=FD ho h hx hN hg kk
theorem _root_.Go.Fs.Zk{t:Θ}{i:Nat}{k:Nat}{b:Nat}{o:Nat}(ho:G[ix]?= some ⟨some d,.fieldAddr t x i,ty,pos,aft,g⟩)(h:TF P t i k)(hx:ev T x=some (.pointer (some ⟨b,o,none⟩)))(kk:WL P X H G K Q os ((d,.pointer (some ⟨b,o+k,none⟩))::T) L W)(hN:Nat.blt d X.N=true:=by exact C)(hg:dF G T g:=by exact⟨_,C,C⟩):WL P X H G K Q ((fl,ix)::os) T L W:=FD ho h hx hN hg kk
theorem wK{a:Addr}(ho:G[ix]?= some ⟨some d,.nilCheck x,ty,pos,aft,g⟩)(hx:ev T x=some (.pointer (some a)))
  (hN:Nat.blt d X.N=true) (hg:dF G T g) (kk:WL P X H G K Q os ((d,.pointer (some a))::T) L W):WL P X H G K Q ((fl,ix)::os) T L W:=
 cB ho C C hN hg (λρ hρ w'=>by simp only[execOp,hρ x _ hx];rfl) kk
theorem _root_.Go.Fs.Zao{a:Addr}(e9:(G[ix]?,ev T x)=(some ⟨some d,.nilCheck x,ty,pos,aft,g⟩,some (.pointer (some a))))(kk:WL P X H G K Q os ((d,.pointer (some a))::T) L W)(hN:Nat.blt d X.N=true:=by exact C)(hg:dF G T g:=by exact zy):WL P X H G K Q ((fl,ix)::os) T L W:=wK (zn (λz=>z.1) e9) (zn (λz=>z.2) e9) hN hg kk
theorem fH{t e:Θ}{n sz b o:Nat}{k:IntKind}{i:Int}(ho:G[ix]?= some ⟨some d,.indexAddr t x y,ty,pos,aft,g⟩)(ht:P.underlying t=some (.array n e))(hs:TS P e sz)(hx:ev T x=some (.pointer (some ⟨b,o,none⟩)))(hy:ev T y=some (.int k i))(h0:0≤i)(h1:i<n)
  (hN:Nat.blt d X.N=true) (hg:dF G T g) (kk:WL P X H G K Q os ((d,.pointer (some ⟨b,o+i.toNat*sz,none⟩))::T) L W):WL P X H G K Q ((fl,ix)::os) T L W:=
 cB ho C C hN hg (λρ hρ w'=>by
  simp only[execOp,hρ x _ hx,hρ y _ hy];unfold Instr.indexAt asIntOf Instr.sureAddr;simp only[Ω,TU.of ht w',Ξ,hs w',ε,pure_bind,h0,h1,vl,yo,iL]) kk

abbrev Rd(α:Type):=aC→α→List Γ→Prop
def Rd.Up{α:Type}(R:Rd α):Prop:=∀{D D':aC},Le D D'→∀{x:α} {cs:List Γ},R D x cs→R D' x cs
def Sl{α:Type}(D:aC)(R:Rd α)(sz:Nat)(v:Γ)(xs:List α):Prop:=
 ∃a cap,v=.slice a xs.length cap∧xs.length≤cap∧xs.length≤9223372036854775807∧(xs=[]∨∃b o,a=some ⟨b,o,none⟩∧∀i x,xs[i]?= some x→∃cs,R D x cs∧cs.length=sz∧At D b (o+i*sz) cs)
theorem Sl.up{α:Type}{R:Rd α}(hR:R.Up){D D':aC}(hl:Le D D'){sz:Nat}{v:Γ}{xs:List α}(h:Sl D R sz v xs):Sl D' R sz v xs:=by
 obtain⟨a,cap,hv,h1,h2,h3⟩:=h;refine⟨a,cap,hv,h1,h2,h3.imp id ?_⟩;rintro⟨b,o,ha,he⟩;refine⟨b,o,ha,λi x hx=>?_⟩;obtain⟨cs,hr,hc,hA⟩:=he i x hx;exact⟨cs,hR hl hr,hc,hA.up hl⟩
theorem Sl.cells1{α:Type}{R:Rd α}{D:aC}{sz:Nat}{v:Γ}{xs:List α}(h:Sl D R sz v xs):v.cells=[v].toArray:=by
 obtain⟨a,cap,rfl,_⟩:=h;rfl
theorem Sl.nil{α:Type}{R:Rd α}{D:aC}{sz:Nat}:Sl D R sz (qN) ([]:List α):=⟨none,0,C,zk _,Yf,zq C⟩
theorem Sl.len{α:Type}{R:Rd α}{D:aC}{sz:Nat}{v:Γ}{xs:List α}(h:Sl D R sz v xs):xs.length≤9223372036854775807:=by
 obtain⟨a,cap,hv,h1,h2,h3⟩:=h;exact h2
def RI:Rd Int:=λ_ n cs=>cs=[qI n]
theorem RI.up:RI.Up:=λ_ _ _ h=>h
def RL:Rd (List Int):=λD l cs=>∃v,cs=[v]∧Sl D RI 1 v l
theorem RL.up:RL.Up:=λhl _ _ ⟨v,hc,hs⟩=>⟨v,hc,hs.up RI.up hl⟩
theorem Sl.at{α:Type}{R:Rd α}(hR:R.Up){D D₁:aC}{W:List aC}(hD:∀D₁∈W,Le D₁ D){sz:Nat}{v:Γ}{xs:List α}(h:Sl D₁ R sz v xs)(hm:D₁∈W):Sl D R sz v xs:=h.up hR (hD _ hm)

theorem eQ{α:Type}{R:Rd α}{D₁:aC}{sz:Nat}{t e tr:Θ}{xs:List α}{ats:Array Θ}(ho:G[ix]?= some ⟨some d,.call {callee:=.builtin .len,args:=#[x],argTypes:=ats},tr,pos,aft,g⟩)(ht:P.underlying t=some (.slice e))(hx:ev T x=some v)(hS:Sl D₁ R sz v xs)(hat:ats[0]?= some t)
  (hN:Nat.blt d X.N=true) (hg:dF G T g) (kk:WL P X H G K Q os ((d,qI (xs.length:Int))::T) L W):
  WL P X H G K Q ((fl,ix)::os) T L W:=
 cB ho C C hN hg (λρ hρ w'=>by
  obtain⟨a,cap,rfl,_⟩:=hS;have hx':=hρ x _ hx;simp[Builtin.len_,hat,hx',TU.of ht w',goInt,go_sem]) kk
theorem _root_.Go.Fs.Zaj{α:Type}{R:Rd α}{D₁:aC}{sz:Nat}{t:Θ}{e:Θ}{tr:Θ}{xs:List α}{ats:Array Θ}(ho:G[ix]?= some ⟨some d,.call {callee:=.builtin .len,args:=#[x],argTypes:=ats},tr,pos,aft,g⟩)(ht:P.underlying t=some (.slice e))(hx:ev T x=some v)(hS:Sl D₁ R sz v xs)(hat:ats[0]?= some t)(kk:WL P X H G K Q os ((d,qI (xs.length:Int))::T) L W)(hN:Nat.blt d X.N=true:=by exact C)(hg:dF G T g:=by exact zy):WL P X H G K Q ((fl,ix)::os) T L W:=eQ ho ht hx hS hat hN hg kk
theorem eF{α:Type}{R:Rd α}{D₁:aC}{sz:Nat}{t e:Θ}{xs:List α}{k:IntKind}{i:Int}{el:α}(ho:G[ix]?= some ⟨some d,.indexAddr t x y,ty,pos,aft,g⟩)(ht:P.underlying t=some (.slice e))(hs:TS P e sz)(hx:ev T x=some v)(hS:Sl D₁ R sz v xs)
  (hy:ev T y=some (.int k i)) (h0:0≤i) (hi:xs[i.toNat]?= some el) (hN:Nat.blt d X.N=true) (hg:dF G T g)
  (kk:∀b o cs,R D₁ el cs→cs.length=sz→At D₁ b o cs→WL P X H G K Q os ((d,.pointer (some ⟨b,o,none⟩))::T) L W):
  WL P X H G K Q ((fl,ix)::os) T L W:=by
 obtain⟨a,cap,rfl,h1,h2,h3⟩:=hS;have hlt:i.toNat<xs.length:=(yx.1 hi).1;rcases h3 with rfl|⟨b,o,rfl,h3⟩
 ·simp at hlt
 ·obtain⟨cs,hr,hc,hA⟩:=h3 _ _ hi;refine cB ho C C hN hg (λρ hρ w'=>?_) (kk b _ cs hr hc hA);have h1':i<(xs.length:Int):=Yd
  simp only[execOp,hρ x _ hx,hρ y _ hy];unfold Instr.indexAt asIntOf;simp only[Ω,TU.of ht w',Ξ,hs w',ε,pure_bind,h0,h1',vl,yo,iL]
section
variable{t e t2:Θ}{D₁:aC}{xs:List Int}{k:IntKind}{i el:Int}{ix2 d2:Nat}{x2:Operand}{ty2:Θ}{pos2:String}{aft2:Array Edge}{g2:Option (Nat×Bool)}{fl2:Bool}
theorem gH{γ:Type}[Membership Nat γ]{H:γ}(e9:(G[ix]?,G[ix2]?,ev T x)=(some ⟨some d,.indexAddr t x y,ty,pos,aft,g⟩,some ⟨some d2,.load t2 x2,ty2,pos2,aft2,g2⟩,some v))(hS:Sl D₁ RI 1 v xs)(hy:ev T y=some (.int k i))(hi:xs[i.toNat]?= some el)
  (kk:∀b o,WL P X H G K Q os ((d2,qI el)::(d,.pointer (some ⟨b,o,none⟩))::T) L W) (hb:∀b:Nat,b∉H:=by exact λ_=>n4) (hx2:∀b o,ev ((d,.pointer (some ⟨b,o,none⟩))::T) x2=some (.pointer (some ⟨b,o+0,none⟩)):=by exact λ_ _=>C) (h0:0≤i:=by omega) (ht:P.underlying t=some (.slice e):=by exact U35) (hs:TS P e 1:=by exact aI) (ha:TA P t2 false:=by exact aH) (hD:D₁∈W:=by first|simp|assumption)
  (hN:Nat.blt d X.N=true:=by exact C) (hg:dF G T g:=by exact zy) (hN2:Nat.blt d2 X.N=true:=by exact C) (hg2:∀b o,dF G ((d,.pointer (some ⟨b,o,none⟩))::T) g2:=by exact λ_ _=>trivial):WL P X H G K Q ((fl,ix)::(fl2,ix2)::os) T L W:=
 eF (zn (λz=>z.1) e9) ht hs (zn (λz=>z.2.2) e9) hS hy h0 hi hN hg λb o cs hr hcl hA=>by
  obtain rfl:cs=[qI _]:=hr;exact eE (k:=0) (zn (λz=>z.2.1) e9) ha (hx2 b o) hA hD C (hb b) hN2 (hg2 b o) (kk b o)
end
theorem _root_.Go.Fs.Zy{α:Type}{R:Rd α}{D₁:aC}{sz:Nat}{t:Θ}{e:Θ}{xs:List α}{k:IntKind}{i:Int}{el:α}(ho:G[ix]?= some ⟨some d,.indexAddr t x y,ty,pos,aft,g⟩)(ht:P.underlying t=some (.slice e))(hs:TS P e sz)(hx:ev T x=some v)(hS:Sl D₁ R sz v xs)(hy:ev T y=some (.int k i))(hi:xs[i.toNat]?= some el)(kk:∀b o cs,R D₁ el cs→cs.length=sz→At D₁ b o cs→WL P X H G K Q os ((d,.pointer (some ⟨b,o,none⟩))::T) L W)(h0:0≤i:=by exact Yd)(hN:Nat.blt d X.N=true:=by exact C)(hg:dF G T g:=by exact zy):WL P X H G K Q ((fl,ix)::os) T L W:=eF ho ht hs hx hS hy h0 hi hN hg kk
theorem OE{vs:Array Γ}{i:Nat}(ho:G[ix]?= some ⟨some d,.extract x i,ty,pos,aft,g⟩)(hx:ev T x=some (.tuple vs))(hi:vs.toList[i]?= some v)(hN:Nat.blt d X.N=true)(hg:dF G T g)(kk:WL P X H G K Q os ((d,v)::T) L W):
  WL P X H G K Q ((fl,ix)::os) T L W:=
 cB ho C C hN hg (λρ hρ w'=>by rw[Array.getElem?_toList]at hi;simp[execOp,hρ x _ hx,Instr.extract,hi,go_sem]) kk
theorem _root_.Go.Fs.Zar{vs:Array Γ}{i:Nat}(e9:(G[ix]?,ev T x,vs.toList[i]?)=(some ⟨some d,.extract x i,ty,pos,aft,g⟩,some (.tuple vs),some v))(kk:WL P X H G K Q os ((d,v)::T) L W)(hN:Nat.blt d X.N=true:=by exact C)(hg:dF G T g:=by exact zy):WL P X H G K Q ((fl,ix)::os) T L W:=OE (zn (λz=>z.1) e9) (zn (λz=>z.2.1) e9) (zn (λz=>z.2.2) e9) hN hg kk
theorem mL{k:IntKind}{m n:Int}{ats:Array Θ}(ho:G[ix]?= some ⟨some d,.call {callee:=.builtin .max,args:=#[x,y],argTypes:=ats},ty,pos,aft,g⟩)(hx:ev T x=some (.int k m))(hy:ev T y=some (.int k n))(hN:Nat.blt d X.N=true)(hg:dF G T g)(kk:WL P X H G K Q os ((d,.int k (max m n))::T) L W):
  WL P X H G K Q ((fl,ix)::os) T L W:=
 cB ho C C hN hg (λρ hρ w'=>by
  have hx':=hρ x _ hx;have hy':=hρ y _ hy;have e:(if n>m then n else m)=max m n:=by split<;>omega
  simp[Builtin.max_,Builtin.max2,hx',hy',go_sem,e]) kk
theorem zL{k:IntKind}{m n:Int}{ats:Array Θ}(ho:G[ix]?= some ⟨some d,.call {callee:=.builtin .min,args:=#[x,y],argTypes:=ats},ty,pos,aft,g⟩)(hx:ev T x=some (.int k m))(hy:ev T y=some (.int k n))(hN:Nat.blt d X.N=true)(hg:dF G T g)(kk:WL P X H G K Q os ((d,.int k (min m n))::T) L W):
  WL P X H G K Q ((fl,ix)::os) T L W:=
 cB ho C C hN hg (λρ hρ w'=>by
  have hx':=hρ x _ hx;have hy':=hρ y _ hy;have e:(if n<m then n else m)=min m n:=by split<;>omega
  simp[Builtin.min_,Builtin.min2,hx',hy',go_sem,e]) kk
theorem Hl.ds{Ds':List aC}{a:Act}{w:Δ}(h:Hl X T L W a w)(hD:∀D∈Ds',D∈W):Hl X T L Ds' a w:=by
 obtain⟨h1,h2,h3,D,h4,h5,I⟩:=h;exact⟨h1,h2,h3,D,h4,λD₁ hD₁=>h5 D₁ (hD D₁ hD₁),I⟩

def EF(P:Program)(f:FuncId):Prop:=∀args w,(callFunc f args).run P w=.ok (.enter f args) w
theorem EF.of{f:FuncId}{fn:Func}{c:Code}(h:P.funcs[f]?= some fn)(hn:(fn.name== "runtime.NumGoroutine")=false)(hb:fn.body=some c):EF P f:=λargs w=>by
 have hn':¬fn.name= "runtime.NumGoroutine" :=by simpa using hn
 simp[callFunc,program,Sem.run,h,hn',hb,go_sem]
def Fn(P:Program)(f:FuncId)(args:Array Γ)(D:aC)(post:aC→Γ→Prop):Prop:=
 EF P f∧∀w,gI D w→Calls P f args w λe w'=>∃v D',e=.returned v∧jH (hd w) w.heap.size D [] [] D' w'∧post D' v
theorem iJ{D D':aC}{w w':Δ}{mods:List Nat}{L:aF}(hw:gI D w)(hs:jH (hd w) w.heap.size D mods L D' w'):Le D D':=by
 refine⟨λb=>?_,hs.dold 0 hw.pos⟩;by_cases hb:b<w.heap.size
 ·rw[hs.dold b hb];exact List.prefix_refl _
 ·have:D b=[]:=by
   refine Decidable.byContradiction λhne=>?_
   obtain⟨cs,e,fz,hc,_⟩:=hw.1 b hne;exact hb (bR hc)
  rw[this];exact oq
theorem Fn.mono{f:FuncId}{args:Array Γ}{D:aC}{post post':aC→Γ→Prop}(h:Fn P f args D post)(hp:∀D' v,Le D D'→post D' v→post' D' v):Fn P f args D post':=by
 refine⟨h.1,λw hw=>(h.2 w hw).mono ?_⟩;rintro e w' ⟨v,D',rfl,hs,hpost⟩;exact⟨v,D',C,hs,hp _ _ (iJ hw hs) hpost⟩
theorem jH.after{h0:H0}{lo:Nat}{D0 D D':aC}{mods:List Nat}{L:aF}{w w':Δ}(h:jH h0 lo D0 mods L D w)(hs:jH (hd w) w.heap.size D [] [] D' w'):jH h0 lo D0 mods L D' w':=by
 have hle:=xj h.hlo h.size;refine⟨h.hlo,xj h.size hs.size,λb hb hm=>?_,λb hb=>?_,hs.agr,λp hp=>?_,h.nd,h.fz,λe he=>(hs.env _ C).trans (h.env e he)⟩
 ·rw[hs.old b (vc hb hle) Yf];exact h.old b hb hm
 ·rw[hs.dold b (vc hb hle)];exact h.dold b hb
 ·obtain⟨h1,h2,h3⟩:=h.box p hp;have hl:=bR h1;exact⟨by rw[hs.old _ hl Yf];exact h1,l1,h3⟩
theorem jH.low{D D':aC}{L:aF}{w w':Δ}(hs:jH (hd w) w.heap.size D [] L D' w')(β:List Nat):sd β D w D' w':=⟨hs.size,λb hb _=>⟨hs.old b hb Yf,hs.dold b hb⟩,hs.env _ C⟩
theorem jH.keep{D D':aC}{L:aF}{w w':Δ}(hs:jH (hd w) w.heap.size D [] L D' w'){γb:Type}[Membership Nat γb](H:γb):rL H w w':=⟨hs.size,λb hb _=>hs.old b hb Yf⟩
def CM(T:bZ):List Operand→Option (List Γ)
 | []=>some []
 |x::xs=>match ev T x,CM T xs with
  |some v,some vs=>some (v::vs)
  |_,_=>none
theorem mY{ρ:Operand→Γ}(hρ:∀x u,ev T x=some u→ρ x=u):∀{xs:List Operand} {vs:List Γ},CM T xs=some vs→xs.map ρ=vs
 | [],vs,h=>by simp[CM]at h;simp[h]
 |x::xs,vs,h=>by
  simp only[CM]at h;cases h1:ev T x with
  |none=>simp[h1]at h
  |some I=>
   cases h2:CM T xs with
   |none=>simp[h1,h2]at h
   |some v2=>
    simp[h1,h2]at h;rw[←h,yl,hρ x I h1,mY hρ h2]
theorem fW{o:Oper}(ho:G[ix]?= some o)(hq:lW o.op=false)(hdf:qZ o.op=false)(hg:dF G T o.guard)
  (h:∀a w,Hl X T L W a w→o.uponIn (FW X.r) 0 P a (λa' w'=>(fl=true→rL H w w')∧wT X.r H P G K Q (jC G os) a' w') Q ((execOp a.eval o).run P w)):WL P X H G K Q ((fl,ix)::os) T L W:=by
 intro a w hh;rw[I7 ho];simp only[wT,hq,wt,xx];unfold m4;rw[zo (hh.wanted hg)];refine⟨λ_ _=>trivial,?_⟩;rw[AH hdf];exact h a w hh
theorem zR{w:Δ}{ρ:Operand→Γ}{c:Operand}{xs:Array Operand}{ats:Array Θ}{f:FuncId}{c1 c2:List Γ}{vs:List Γ}{dst:Option Nat}(hEF:EF P f)(hc:ρ c=.func (.func f) c1.toArray c2.toArray)(hvs:xs.toList.map ρ=vs):
  (execOp ρ ⟨dst,.call {callee:=.value c,args:=xs,argTypes:=ats},ty,pos,aft,g⟩).run P w=.ok (.enter f (c1++vs++c2).toArray) w:=by
 have e:xs.map ρ=vs.toArray:=by rw[←hvs,←ou]
 simp only[execOp,resolve,hc,Deferred.ofValue,pure_bind,invoke,e];rw[hEF];simp
theorem e3{c:Operand}{xs:Array Operand}{ats:Array Θ}{f:FuncId}{c1 c2:List Γ}{vs:List Γ}{post:aC→Γ→Prop}(ho:G[ix]?= some ⟨some d,.call {callee:=.value c,args:=xs,argTypes:=ats},ty,pos,aft,g⟩)(hc:ev T c=some (.func (.func f) c1.toArray c2.toArray))(hxs:CM T xs.toList=some vs)
  (hf:∀D,(∀D₁∈W,Le D₁ D)→Fn P f (c1++vs++c2).toArray D post) (hN:Nat.blt d X.N=true) (hg:dF G T g)
  (kk:∀v D,(∀D₁∈W,Le D₁ D)→post D v→WL P X H G K Q os ((d,v)::T) L (D::W)):
  WL P X H G K Q ((fl,ix)::os) T L W:=by
 refine fW ho C C hg λa w hh=>?_
 obtain⟨h1,h2,h3,D,h4,h5,h6⟩:=id hh;have hF:=hf D h5;rw[zR hF.1 (hh.eval hc) (mY (λ_ _ hx=>hh.eval hx) hxs)];refine⟨λh=>vk,eC.2 ((hF.2 w h4.agr).mono ?_)⟩;rintro e w' ⟨v,D',rfl,hs,hpost⟩;have hle:=iJ h4.agr hs;refine⟨λ_=>hs.keep H,kk v D' (λD₁ hD₁=>(h5 D₁ hD₁).trans hle) hpost _ _ ?_⟩;refine Hl.put ⟨h1,h2,h3,D',h4.after hs,λD₁ hD₁=>?_,h6.step (λ_ p hp=>zq (n5.2 ⟨p,hp,C⟩)) (λ_=>hs.low _) (h4.after hs).dom⟩ hN v;rcases zm.1 hD₁ with rfl|hD₁
 ·exact Le.refl _
 ·exact(h5 D₁ hD₁).trans hle
theorem _root_.Go.Fs.Zz{c:Operand}{xs:Array Operand}{ats:Array Θ}{f:FuncId}{c1:List Γ}{c2:List Γ}{vs:List Γ}{post:aC→Γ→Prop}(e9:(G[ix]?,ev T c,CM T xs.toList)=(some ⟨some d,.call {callee:=.value c,args:=xs,argTypes:=ats},ty,pos,aft,g⟩,some (.func (.func f) c1.toArray c2.toArray),some vs))(hf:∀D,(∀D₁∈W,Le D₁ D)→Fn P f (c1++vs++c2).toArray D post)(kk:∀v D,(∀D₁∈W,Le D₁ D)→post D v→WL P X H G K Q os ((d,v)::T) L (D::W))(hN:Nat.blt d X.N=true:=by exact C)(hg:dF G T g:=by exact zy):WL P X H G K Q ((fl,ix)::os) T L W:=e3 (zn (λz=>z.1) e9) (zn (λz=>z.2.1) e9) (zn (λz=>z.2.2) e9) hf hN hg kk
theorem To{c:Operand}{xs:Array Operand}{ats:Array Θ}{f:FuncId}{c1 c2:List Γ}{vs:List Γ}{r:Γ}(ho:G[ix]?= some ⟨some d,.call {callee:=.value c,args:=xs,argTypes:=ats},ty,pos,aft,g⟩)(hc:ev T c=some (.func (.func f) c1.toArray c2.toArray))(hxs:CM T xs.toList=some vs)
  (hf:∀D,(∀D₁∈W,Le D₁ D)→Fn P f (c1++vs++c2).toArray D λ_ v=>v=r) (hN:Nat.blt d X.N=true) (hg:dF G T g)
  (kk:WL P X H G K Q os ((d,r)::T) L W):
  WL P X H G K Q ((fl,ix)::os) T L W:=
 e3 ho hc hxs hf hN hg λ_ _ _ hv=>by
  subst hv;exact λa w hh=>kk a w (hh.ds λD hD=>GT _ hD)
theorem _root_.Go.Fs.Zd{c:Operand}{xs:Array Operand}{ats:Array Θ}{f:FuncId}{c1:List Γ}{c2:List Γ}{vs:List Γ}{r:Γ}(e9:(G[ix]?,ev T c,CM T xs.toList)=(some ⟨some d,.call {callee:=.value c,args:=xs,argTypes:=ats},ty,pos,aft,g⟩,some (.func (.func f) c1.toArray c2.toArray),some vs))(hf:∀D,(∀D₁∈W,Le D₁ D)→Fn P f (c1++vs++c2).toArray D λ_ v=>v=r)(kk:WL P X H G K Q os ((d,r)::T) L W)(hN:Nat.blt d X.N=true:=by exact C)(hg:dF G T g:=by exact zy):WL P X H G K Q ((fl,ix)::os) T L W:=To (zn (λz=>z.1) e9) (zn (λz=>z.2.1) e9) (zn (λz=>z.2.2) e9) hf hN hg kk
theorem _root_.Go.Fs.Ze{c:Operand}{xs:Array Operand}{ats:Array Θ}{f:FuncId}{c1:List Γ}{c2:List Γ}{vs:List Γ}{r:Γ}(e9:(G[ix]?,ev T c,CM T xs.toList)=(some ⟨some d,.call {callee:=.value c,args:=xs,argTypes:=ats},ty,pos,aft,g⟩,some (.func (.func f) c1.toArray c2.toArray),some vs))(hf:∀D,(∀D₁∈W,Le D₁ D)→Fn P f (c1++vs++c2).toArray D λ_ v=>v=r)(kk:WL P X H G K Q os ((d,r)::T) L W)(hN:Nat.blt d X.N=true:=by exact C)(hg:dF G T g:=by exact⟨_,C,C⟩):WL P X H G K Q ((fl,ix)::os) T L W:=To (zn (λz=>z.1) e9) (zn (λz=>z.2.1) e9) (zn (λz=>z.2.2) e9) hf hN hg kk

theorem dV{w:Δ}{o:Obj}{b:Nat}(h:b<w.heap.size):(w.heap.push o)[b]?= w.heap[b]? :=by
 rw[Array.getElem?_push,zv Yd]
theorem gI.push{D:aC}{w:Δ}(h:gI D w)(o:Obj):gI D {w with heap:=w.heap.push o}:=by
 refine h.of (λb hb=>?_) C (dV h.pos);obtain⟨cs,e,fz,hc,hp⟩:=h.1 b hb;exact⟨cs,e,fz,by show(w.heap.push o)[b]?= _;rw[dV (bR hc)];exact hc,hp⟩
theorem gI.fresh{D:aC}{w:Δ}(h:gI D w){b:Nat}(hb:w.heap.size≤b):D b=[]:=
 Decidable.byContradiction λhne=>by
  obtain⟨cs,e,fz,hc,_⟩:=h.1 b hne;have:=bR hc;omega
theorem jH.push{h0:H0}{lo:Nat}{D0 D:aC}{mods:List Nat}{L:aF}{w:Δ}(h:jH h0 lo D0 mods L D w)(o:Obj)(ho:dH o):jH h0 lo D0 mods ((w.heap.size,o)::L) D {w with heap:=w.heap.push o}:=by
 have hle:=xj h.hlo h.size;refine⟨h.hlo,by have:=h.size;simp;omega,λb hb hm=>?_,h.dold,h.agr.push o,λp hp=>?_,?_,(λp hp=>by rcases zm.1 hp with rfl|hp;exact ho;exact h.fz p hp),h.env⟩
 ·show(w.heap.push o)[b]?= _;rw[dV (vc hb hle)];exact h.old b hb hm
 ·rcases zm.1 hp with rfl|hp
  ·exact⟨Yf,h.agr.fresh (zk _),zq h.size⟩
  ·obtain⟨h1,h2,h3⟩:=h.box p hp;exact⟨by show(w.heap.push o)[p.1]?= _;rw[dV (bR h1)];exact h1,h2,h3⟩
 ·simp only[yl,xg];refine⟨λhm=>?_,h.nd⟩;obtain⟨p,hp,he⟩:=n5.1 hm;have:=bR (h.box p hp).1;omega
theorem rH{γb:Type}[Membership Nat γb](H:γb)(w:Δ)(o:Obj):rL H w {w with heap:=w.heap.push o}:=⟨Yf,λb hb _=>dV hb⟩
theorem S5(β:List Nat){D:aC}{w:Δ}(o:Obj):sd β D w D {w with heap:=w.heap.push o}:=⟨Yf,λb hb _=>⟨dV hb,C⟩,C⟩
theorem jH.pushD{h0:H0}{lo:Nat}{D0 D:aC}{mods:List Nat}{L:aF}{w:Δ}(h:jH h0 lo D0 mods L D w)(vs:List Γ)(e:Θ):
  ∃D',Le D D'∧D' w.heap.size=vs∧(∀b,b≠w.heap.size→D' b=D b)∧jH h0 lo D0 mods L D' {w with heap:=w.heap.push (.cells vs.toArray e (0,0))}:=by
 have hf:=h.agr.fresh (zk w.heap.size);refine⟨λb=>if b=w.heap.size then vs else D b,⟨λb=>?_,aj⟩,Yf,(λb hb=>by simp[hb]),?_⟩
 ·by_cases hb:b=w.heap.size
  ·subst hb;rw[hf];exact oq
  ·simp[hb]
 ·have hle:=xj h.hlo h.size;refine⟨h.hlo,by have:=h.size;simp;omega,λb hb hm=>?_,λb hb=>?_,h.agr.of (λb hb=>?_) aj (dV h.agr.pos),λp hp=>?_,h.nd,h.fz,h.env⟩
  ·show(w.heap.push _)[b]?= _;rw[dV (vc hb hle)];exact h.old b hb hm
  ·have hne:b≠w.heap.size:=Yd
   simp only[hne,xx];exact h.dold b hb
  ·by_cases he:b=w.heap.size
   ·subst he;exact⟨vs.toArray,e,(0,0),Yf,Yf⟩
   ·simp only[he,xx]at hb ⊢
    obtain⟨cs,e',fz,hc,hp⟩:=h.agr.1 b hb;exact⟨cs,e',fz,by show(w.heap.push _)[b]?= _;rw[dV (bR hc)];exact hc,hp⟩
  ·obtain⟨h1,h2,h3⟩:=h.box p hp;have hl:=bR h1;refine⟨by show(w.heap.push _)[p.1]?= _;rw[dV hl];exact h1,?_,h3⟩
   have hne:p.1≠w.heap.size:=Yd
   simp only[hne,xx];exact h2
theorem kV{w:Δ}{e:Θ}{cs:Array Γ}:(newRow e cs).run P w=.ok ⟨w.heap.size,0,none⟩ {w with heap:=w.heap.push (.cells cs e (0,0))}:=rfl
theorem JK{e:Θ}{vs:List Γ}(ho:G[ix]?= some ⟨some d,.box e x,ty,pos,aft,g⟩)(hx:ev T x=some v)(hv:v.cells=vs.toArray)(hN:Nat.blt d X.N=true)(hg:dF G T g)
  (kk:∀b,WL P X H G K Q os ((d,qP b)::T) ((b,.cells vs.toArray e (0,0))::L) W):
  WL P X H G K Q ((fl,ix)::os) T L W:=by
 refine fW ho C C hg λa w hh=>?_
 obtain⟨h1,h2,h3,D,h4,h5,I⟩:=id hh;have:(execOp a.eval ⟨some d,.box e x,ty,pos,aft,g⟩).run P w=.ok (.value (.pointer (some ⟨w.heap.size,0,none⟩))) {w with heap:=w.heap.push (.cells vs.toArray e (0,0))}:=by
  simp only[execOp,hh.eval hx,Instr.box,newVar,hv,Ω,kV,Ξ,ε]
 rw[this];exact⟨λ_=>rH _ _ _,kk _ _ _ (Hl.put ⟨h1,h2,h3,D,h4.push _ (show dH (.cells _ _ (0,0))from C),h5,I.step (λ_ p hp=>jh) (λ_=>S5 _ _) (h4.push _ (show dH (.cells _ _ (0,0))from C)).dom⟩ hN _)⟩
theorem aAM{e:Θ}{vs:List Γ}{z0:Γ}(ho:G[ix]?= some ⟨some d,.alloc e,ty,pos,aft,g⟩)(hz:TZ P e z0)(hv:z0.cells=vs.toArray)(hN:Nat.blt d X.N=true)(hg:dF G T g)
  (kk:∀b,WL P X H G K Q os ((d,qP b)::T) ((b,.cells vs.toArray e (0,0))::L) W):
  WL P X H G K Q ((fl,ix)::os) T L W:=by
 refine fW ho C C hg λa w hh=>?_
 obtain⟨h1,h2,h3,D,h4,h5,h6⟩:=id hh;have:(execOp a.eval ⟨some d,.alloc e,ty,pos,aft,g⟩).run P w=.ok (.value (.pointer (some ⟨w.heap.size,0,none⟩))) {w with heap:=w.heap.push (.cells vs.toArray e (0,0))}:=by
  simp only[execOp,Instr.alloc,newVar,Ω,hz w,Ξ,hv,kV,ε]
 rw[this];exact⟨λ_=>rH _ _ _,kk _ _ _ (Hl.put ⟨h1,h2,h3,D,h4.push _ (show dH (.cells _ _ (0,0))from C),h5,h6.step (λ_ p hp=>jh) (λ_=>S5 _ _) (h4.push _ (show dH (.cells _ _ (0,0))from C)).dom⟩ hN _)⟩
theorem _root_.Go.Fs.Zag{e:Θ}{vs:List Γ}{z0:Γ}(ho:G[ix]?= some ⟨some d,.alloc e,ty,pos,aft,g⟩)(hz:TZ P e z0)(hv:z0.cells=vs.toArray)(kk:∀b,WL P X H G K Q os ((d,qP b)::T) ((b,.cells vs.toArray e (0,0))::L) W)(hN:Nat.blt d X.N=true:=by exact C)(hg:dF G T g:=by exact zy):WL P X H G K Q ((fl,ix)::os) T L W:=aAM ho hz hv hN hg kk

inductive bO:aF→Nat→Obj→Obj→aF→Prop
 |head {b o o' L}:bO ((b,o)::L) b o o' ((b,o')::L)
 |tail {p b o o' L μ'} (h:bO L b o o' μ'):bO (p::L) b o o' (p::μ')
 |app {ν b o o' L μ'} (h:bO L b o o' μ'):bO (ν++L) b o o' (ν++μ')
theorem ζ:type_of% @bO.head:=@bO.head
theorem bO.mem{L μ':aF}{b:Nat}{o o':Obj}(h:bO L b o o' μ'):(b,o)∈L:=by
 induction h with
 |head=>exact zj
 |tail _ ih=>exact GT _ ih
 |app _ ih=>exact LT _ ih
theorem bO.keys{L μ':aF}{b:Nat}{o o':Obj}(h:bO L b o o' μ'):μ'.map (·.1)=L.map (·.1):=by
 induction h with
 |head=>rfl
 |tail _ ih=>simp[ih]
 |app _ ih=>simp[ih]
theorem bO.other{L μ':aF}{b:Nat}{o o':Obj}(h:bO L b o o' μ'):∀p∈μ',p=(b,o')∨p∈L:=by
 induction h with
 |head=>intro p hp;rcases zm.1 hp with rfl|hp;exact Or.inl C;exact Or.inr (GT _ hp)
 |tail _ ih=>intro p hp;rcases zm.1 hp with rfl|hp;exact Or.inr zj;exact(ih p hp).imp id (GT _)
 |app _ ih=>intro p hp;rcases zd.1 hp with hp|hp;exact Or.inr (yw _ hp);exact(ih p hp).imp id (LT _)
theorem bO.apart{L μ':aF}{b:Nat}{o o':Obj}(h:bO L b o o' μ')(hn:(L.map (·.1)).Nodup):∀p∈μ',p.1=b→p=(b,o'):=by
 induction h with
 | @head b o o' L=>
  intro p hp he;rcases zm.1 hp with rfl|hp
  ·rfl
  ·exfalso
   simp only[yl,xg]at hn;exact hn.1 (n5.2 ⟨p,hp,he⟩)
 | @tail q b o o' L μ' h ih=>
  intro p hp he;simp only[yl,xg]at hn;rcases zm.1 hp with rfl|hp
  ·exact absurd (n5.2 ⟨_,h.mem,he.symm⟩) hn.1
  ·exact ih hn.2 p hp he
 | @app ν b o o' L μ' h ih=>
  intro p hp he;rw[ze,za]at hn;rcases zd.1 hp with hp|hp
  ·exact absurd C (hn.2.2 p.1 (n5.2 ⟨p,hp,C⟩) b (n5.2 ⟨_,h.mem,C⟩)|>λhne=>he▸hne)
  ·exact ih hn.2.1 p hp he
def gm(w:Δ)(b:Nat)(o:Obj)(w':Δ):Prop:=w'.heap=w.heap.setIfInBounds b o∧VM w'=VM w
theorem jH.set{h0:H0}{lo:Nat}{D0 D:aC}{mods:List Nat}{L μ':aF}{w w':Δ}{b:Nat}{o o':Obj}(h:jH h0 lo D0 mods L D w)(hm:bO L b o o' μ')(hwe:gm w b o' w')(hu:dH o'):jH h0 lo D0 mods μ' D w':=by
 have hw:=hwe.1;have hb:=h.box _ hm.mem;have hlt:b<w.heap.size:=bR hb.1;have hsame:∀c,c≠b→w'.heap[c]?= w.heap[c]? :=λc hc=>by rw[hw,qp (Ne.symm hc)]
 refine⟨h.hlo,by rw[hw];simpa using h.size,λc hc hmods=>?_,h.dold,h.agr.of (λc hc=>?_) C (hsame 0 λe=>h.agr.2.1 (e▸hb.2.1)),λp hp=>?_,by rw[hm.keys];exact h.nd,λp hp=>?_,λe he=>hwe.2.trans (h.env e he)⟩
 ·rw[hsame c ?_]
  ·exact h.old c hc hmods
  ·rintro rfl;rcases hb.2.2 with h'|h'
   ·have:=h.hlo;simp at h';omega
   ·exact hmods h'
 ·have:c≠b:=by rintro rfl;exact hc hb.2.1
  obtain⟨cs,e,fz,h1,h2⟩:=h.agr.1 c hc;exact⟨cs,e,fz,by rw[hsame c this];exact h1,h2⟩
 ·by_cases he:p.1=b
  ·obtain rfl:=hm.apart h.nd p hp he;exact⟨by rw[hw];simp[hlt],hb.2.1,hb.2.2⟩
  ·rcases hm.other p hp with rfl|hp'
   ·exact absurd C he
   ·obtain⟨h1,h2,h3⟩:=h.box p hp';exact⟨by rw[hsame _ he];exact h1,h2,h3⟩
 ·by_cases he:p.1=b
  ·obtain rfl:=hm.apart h.nd p hp he;exact hu
  ·rcases hm.other p hp with rfl|hp'
   ·exact hu
   ·exact h.fz p hp'
def cell1:Γ→Bool
 |.agg _=>false
 |.tuple _=>false
 |_=>true
theorem UA{w:Δ}{b off:Nat}{cs:Array Γ}{e:Θ}{fz:Nat×Nat}{v:Γ}(h:w.heap[b]?= some (.cells cs e fz)):(w.setCell ⟨b,off,none⟩ v).heap=w.heap.setIfInBounds b (.cells (cs.setIfInBounds off v) e fz):=by
 simp only[World.setCell];apply Array.ext_getElem?;intro i;rw[Array.getElem?_modify,Array.getElem?_setIfInBounds];by_cases hi:b=i
 ·subst hi;simp[bR h,(rj.1 h).2]
 ·simp[hi]
theorem lX:∀(us:List Γ) (i:Nat) (w:Δ) (b off:Nat) (vs:List Γ) (e:Θ),w.heap[b]?= some (.cells vs.toArray e (0,0))→off+i+us.length≤vs.length→(∀u∈us,cell1 u=true)→
  ∃w',(storeCells ⟨b,off,none⟩ us i).run P w=.ok () w'∧gm w b (.cells (vs.take (off+i)++us++vs.drop (off+i+us.length)).toArray e (0,0)) w'
 | [],i,w,b,off,vs,e,h,hl,_=>by
  refine⟨w,C,?_,C⟩;simp only[yr,wp,tl,sq];apply Array.ext_getElem?;intro j;rw[Array.getElem?_setIfInBounds];split
  ·rename_i hj;subst hj;simp[bR h,(rj.1 h).2]
  ·rfl
 |u::us,i,w,b,off,vs,e,h,hl,ho=>by
  have hu:=ho u zj;simp only[zh]at hl;have hcell:∃v,w.cell? ⟨b,off+i,none⟩=some v:=⟨vs[off+i],tO h (by simp[show off+i<vs.length by omega])⟩
  obtain⟨v0,hv0⟩:=hcell;have hfz:w.frozen? ⟨b,off+i,none⟩=false:=by simp[World.frozen?,h]
  have hs:(store ⟨b,off+i,none⟩ u).run P w=.ok () (w.setCell ⟨b,off+i,none⟩ u):=by
   cases u<;>first|(simp[cell1]at hu;done)|simp[store,Sem.run,hv0,hfz]
  have hh:=UA (v:=u) (off:=off+i) h;have h':(w.setCell ⟨b,off+i,none⟩ u).heap[b]?= some (.cells (vs.set (off+i) u).toArray e (0,0)):=by
   rw[hh];simp[bR h]
  obtain⟨w',hr,hw'⟩:=lX us (i+1) _ b off (vs.set (off+i) u) e h' xw λu hu=>ho u (GT _ hu);refine⟨w',?_,?_,hw'.2⟩
  ·simp only[storeCells,Ω,iL,hs,Ξ];exact hr
  ·rw[hw'.1,hh];apply Array.ext_getElem?;intro j;simp only[Array.getElem?_setIfInBounds,Array.size_setIfInBounds];split
   ·have hlt:off+i<vs.length:=Yd
    have h1:(vs.set (off+i) u).take (off+(i+1))=vs.take (off+i)++[u]:=by
     rw[show off+(i+1)=off+i+1 by omega,List.take_succ_eq_append_getElem (by simpa using hlt),List.take_set_of_le (zk _)];simp
    have h2:(vs.set (off+i) u).drop (off+(i+1)+us.length)=vs.drop (off+i+(us.length+1)):=by
     rw[List.drop_set_of_lt Yd];congr 1;omega
    simp only[h1,h2,zh,yy,rh]
   ·rfl
theorem P4{w:Δ}{t:Θ}{b off:Nat}{vs us:List Γ}{e:Θ}{v:Γ}(hs:TS P t us.length)(hv:v.cells=us.toArray)(h:w.heap[b]?= some (.cells vs.toArray e (0,0)))(hl:off+us.length≤vs.length)(ho:∀u∈us,cell1 u=true):
  ∃w',(Instr.storeAt t (.pointer (some ⟨b,off,none⟩)) v).run P w=.ok () w'∧gm w b (.cells (vs.take off++us++vs.drop (off+us.length)).toArray e (0,0)) w':=by
 obtain⟨w',hr,hw⟩:=lX (P:=P) us 0 w b off vs e h uu ho;refine⟨w',?_,by simpa using hw⟩;unfold Instr.storeAt Instr.sureAddr storeVar;simp only[pure_bind,Ω,hs w,Ξ,hv,wd,ne_eq,not_true_eq_false,xx];exact hr
theorem mK{β:List Nat}{D:aC}{w w':Δ}{b:Nat}{o:Obj}(hw:gm w b o w')(h:b∈β):sd β D w D w':=
 ⟨by rw[hw.1];simp,λc _ hn=>⟨by rw[hw.1,qp (by rintro rfl;exact hn h)],C⟩,hw.2⟩
theorem dD{t:Θ}{b off:Nat}{vs us ws:List Γ}{e:Θ}{μ':aF}(ho:G[ix]?= some ⟨none,.store t x y,ty,pos,aft,g⟩)(hx:ev T x=some (.pointer (some ⟨b,off,none⟩)))(hy:ev T y=some v)(hv:v.cells=us.toArray)(hs:TS P t us.length)
  (hm:bO L b (.cells vs.toArray e (0,0)) (.cells ws.toArray e (0,0)) μ') (hl:off+us.length≤vs.length) (hw:vs.take off++us++vs.drop (off+us.length)=ws) (hc1:∀u∈us,cell1 u=true) (hg:dF G T g)
  (kk:WL P X H G K Q os T μ' W):WL P X H G K Q ((false,ix)::os) T L W:=by
 refine fW ho C C hg λa w hh=>?_
 obtain⟨h1,h2,h3,D,h4,h5,h6⟩:=id hh;obtain⟨w',hr,hw'⟩:=P4 (P:=P) hs hv (h4.box _ hm.mem).1 hl hc1;have:(execOp a.eval ⟨none,.store t x y,ty,pos,aft,g⟩).run P w=.ok .skip w':=by
  simp only[execOp,hh.eval hx,hh.eval hy,Ω,hr,Ξ,ε]
 rw[this];rw[hw]at hw';exact⟨λh=>vu,kk _ _ ⟨h1,h2,h3,D,h4.set hm hw' C,h5,h6.step (λ_ p hp=>zq il) (λ_=>mK hw' (n5.2 ⟨_,hm.mem,C⟩)) (h4.set hm hw' C).dom⟩⟩
theorem _root_.Go.Fs.Zs{t:Θ}{b:Nat}{off:Nat}{vs:List Γ}{us:List Γ}{ws:List Γ}{e:Θ}{μ':aF}(e9:(G[ix]?,ev T x,ev T y,v.cells)=(some ⟨none,.store t x y,ty,pos,aft,g⟩,some (.pointer (some ⟨b,off,none⟩)),some v,us.toArray))(hs:TS P t us.length)(hm:bO L b (.cells vs.toArray e (0,0)) (.cells ws.toArray e (0,0)) μ')(hw:vs.take off++us++vs.drop (off+us.length)=ws)(kk:WL P X H G K Q os T μ' W)(hl:off+us.length≤vs.length:=by exact Yf)(hc1:∀u∈us,cell1 u=true:=by exact Ym)(hg:dF G T g:=by exact zy):WL P X H G K Q ((false,ix)::os) T L W:=dD (zn (λz=>z.1) e9) (zn (λz=>z.2.1) e9) (zn (λz=>z.2.2.1) e9) (zn (λz=>z.2.2.2) e9) hs hm hl hw hc1 hg kk
theorem _root_.Go.Fs.Zt{t:Θ}{b:Nat}{off:Nat}{vs:List Γ}{us:List Γ}(ws:List Γ){e:Θ}{μ':aF}(e9:(G[ix]?,ev T x,ev T y)=(some ⟨none,.store t x y,ty,pos,aft,g⟩,some (.pointer (some ⟨b,off,none⟩)),some v))(hv:v.cells=us.toArray)(hs:TS P t us.length)(hm:bO L b (.cells vs.toArray e (0,0)) (.cells ws.toArray e (0,0)) μ')(hw:vs.take off++us++vs.drop (off+us.length)=ws)(hc1:∀u∈us,cell1 u=true)(kk:WL P X H G K Q os T μ' W)(hl:off+us.length≤vs.length:=by exact Yf)(hg:dF G T g:=by exact zy):WL P X H G K Q ((false,ix)::os) T L W:=dD (ws:=ws) (zn (λz=>z.1) e9) (zn (λz=>z.2.1) e9) (zn (λz=>z.2.2) e9) hv hs hm hl hw hc1 hg kk

def kA:Nat→List Γ→bZ
 |_,[]=>[]
 |i,v::vs=>(i,v)::kA (i+1) vs
theorem gV:∀(vs:List Γ) (i s:Nat) (v:Γ),look (kA i vs) s=some v→i≤s∧vs[s-i]?= some v
 | [],i,s,v,h=>by cases h
 |u::vs,i,s,v,h=>by
  simp only[kA,look]at h;cases hb:Nat.beq i s with
  |true=>rw[hb]at h;cases h;obtain rfl:=wa hb;simp
  |false=>
   rw[hb]at h;obtain⟨h1,h2⟩:=gV vs (i+1) s v h;refine⟨Yd,?_⟩;rw[show s-i=(s-(i+1))+1 by omega];simpa using h2
def sN(X:Cx)(post:aC→Γ→aF→Prop):Ending→Δ→Prop:=λe w'=>∃v D' μ',e=.returned v∧jH X.h0 X.lo X.D0 X.mods μ' D' w'∧post D' v μ'
theorem eA{fn:Func}{post:aC→Γ→aF→Prop}:NP (bodyPost P fn (sN X post)):=by
 rintro c a w ⟨_,v,D',μ',h,_⟩;cases h
theorem enter{f:FuncId}{fn:Func}{c:Code}{args:List Γ}{D:aC}{post:aC→Γ→Prop}(N:Nat)(hf:P.funcs[f]?= some fn)(hn:(fn.name== "runtime.NumGoroutine")=false)(hb:fn.body=some c)(hN:fn.ntmps=N)(hsz:Nat.ble args.length N=true)
  (h:∀h0:H0,WC P ⟨none,N,[],h0,h0.size,D,[],none⟩ (bodyPost P fn (sN ⟨none,N,[],h0,h0.size,D,[],none⟩ λD' v _=>post D' v)) c (kA 0 args) [] [D]):Fn P f args.toArray D post:=by
 refine⟨EF.of hf hn hb,λw hw=>?_⟩;subst hN;have hsz:=vf hsz;refine(eC (r:=none) (n:=0)).1 ((callsIn_of_wp (R:=sN ⟨none,fn.ntmps,[],hd w,w.heap.size,D,[],none⟩ λD' v _=>post D' v) hf hb zy (h (hd w) _ w ⟨?_,λs v hs=>?_,C,D,⟨zk _,zk _,λ_ _ _=>C,λ_ _=>C,hw,Yi,wz,Yi,λe he=>yi he⟩,λD₁ h1=>?_,zy⟩) C).mono ?_)
 ·simp;omega
 ·obtain⟨_,h2⟩:=gV args 0 s v hs;have hl:=(yx.1 h2).1;simp only[uw]at h2 hl;show(args.toArray++_)[s]?= some v;rw[sb uu];simpa using h2
 ·simp only[yf]at h1;subst h1;exact Le.refl _
 ·rintro e w' ⟨v,D',μ',rfl,hs,hp⟩;exact⟨v,D',C,hs.sub (by intro p hp;cases hp) wz,hp⟩
theorem _root_.Go.Fs.Zx{f:FuncId}{fn:Func}{c:Code}{args:List Γ}{D:aC}{post:aC→Γ→Prop}(N:Nat)(hf:P.funcs[f]?= some fn)(e9:((fn.name== "runtime.NumGoroutine"),fn.body,fn.ntmps,Nat.ble args.length N)=(false,some c,N,true))(h:∀h0:H0,WC P ⟨none,N,[],h0,h0.size,D,[],none⟩ (bodyPost P fn (sN ⟨none,N,[],h0,h0.size,D,[],none⟩ λD' v _=>post D' v)) c (kA 0 args) [] [D]):Fn P f args.toArray D post:=enter N hf (zn (λz=>z.1) e9) (zn (λz=>z.2.1) e9) (zn (λz=>z.2.2.1) e9) (zn (λz=>z.2.2.2) e9) h
def N3(P:Program)(X:Cx)(T:bZ)(L:aF):List ResultVar→List Γ→Prop
 | [],[]=>True
 |.tmp t::rs,v::vs=>look T t=some v∧N3 P X T L rs vs
 |.cell a t::rs,v::vs=>(∃b us e,look T a=some (qP b)∧(b,.cells us e (0,0))∈L∧
   ((TA P t false∧us=#[v])∨(TA P t true∧TS P t us.size∧v=.agg us)))∧N3 P X T L rs vs
 |_,_=>False
def DA(tmps:Array Γ)(r:ResultVar):Sem Γ:=
 match r with
 |.tmp t=>pure (tmps.getD t undef)
 |.cell a t=>do loadVar t (←asAddr (tmps.getD a undef))
theorem LK{a:Act}{w:Δ}(hh:Hl X T L W a w):∀(rs:List ResultVar) (vs:List Γ),N3 P X T L rs vs→(rs.mapM (DA a.tmps)).run P w=.ok vs w
 | [],[],_=>rfl
 | [],_::_,h=>h.elim
 |.tmp t::rs,[],h=>h.elim
 |.cell _ _::rs,[],h=>h.elim
 |.tmp t::rs,v::vs,h=>by
  have hv:=hh.2.1 _ _ h.1;have he:a.tmps.getD t undef=v:=by rw[uq,hv];rfl
  have h1:(DA a.tmps (.tmp t)).run P w=.ok v w:=by simp only[DA,he,ε]
  rw[uy,Ω,h1,Ξ,Ω,LK hh rs vs h.2];rfl
 |.cell s t::rs,v::vs,h=>by
  obtain⟨⟨b,us,e,hs,hm,hc⟩,hr⟩:=h;have hv:=hh.2.1 _ _ hs;have he:a.tmps.getD s undef=qP b:=by rw[uq,hv];rfl
  have hbox:=hh.boxAt (H:=[]) hm Yf (rL.refl _ w);have hload:(loadVar t ⟨b,0,none⟩).run P w=.ok v w:=by
   rcases hc with⟨ha,hu⟩|⟨ha,hsz,hu⟩
   ·have:=wL (P:=P) (t:=t) (b:=b) (off:=0) (v:=v) ha (tO hbox (by rw[hu];rfl));simpa [Instr.loadAt,Instr.sureAddr]using this
   ·have:=oG (P:=P) (t:=t) (b:=b) (off:=0) (vs:=us.toList) ha (by simpa using hsz) λj u hj=>tO hbox qd;rw[hu];simpa [Instr.loadAt,Instr.sureAddr]using this
  have h1:(DA a.tmps (.cell s t)).run P w=.ok v w:=by simp only[DA,he,asAddr,pure_bind];exact hload
  rw[uy,Ω,h1,Ξ,Ω,LK hh rs vs hr];rfl
def sR:List Γ→Γ
 | [v]=>v
 |vs=>.tuple vs.toArray
theorem jP{fn:Func}{a:Act}{w:Δ}(hh:Hl X T L W a w){rs:List ResultVar}{vs:List Γ}(hr:fn.results=rs.toArray)(h:N3 P X T L rs vs):(results fn a.tmps).run P w=.ok (sR vs) w:=by
 have e:results fn a.tmps=(rs.toArray.mapM (DA a.tmps) >>= λvs=>Pure.pure (if h:vs.size=1 then vs[0]else .tuple vs)):=by rw[←hr];rfl
 rw[e,List.mapM_toArray,Ω,Sem.run_map,LK hh rs vs h];simp only[Ξ,ε];match vs with
 | []=>rfl
 | [v]=>rfl
 |_::_::_=>rfl
theorem db{fn:Func}{post:aC→Γ→aF→Prop}{e:Exit}(he:(match e with|.normal=>true|.ret=>true|_=>false)=true){rs:List ResultVar}{vs:List Γ}(hds:X.ds=[])(hr:fn.results=rs.toArray)(h:N3 P X T L rs vs)
  (hp:∀D,(∀D₁∈W,Le D₁ D)→post D (sR vs) L):∀a w,Hl X T L W a w→bodyPost P fn (sN X post) e a w:=by
 intro a w hh;have hrun:=jP hh hr h;obtain⟨h1,h2,h3,D,h4,h5,h6⟩:=hh;have:a.defers=[]∧∃v,(results fn a.tmps).run P w=.ok v w∧sN X post (.returned v) w:=⟨h3.trans hds,_,hrun,_,D,L,C,h4,hp D h5⟩
 cases e<;>first|exact this|cases he
theorem aD{fn:Func}{post:aC→Γ→aF→Prop}{e:Exit}{t:Nat}{v:Γ}(e9:((match e with|.normal=>true|.ret=>true|_=>false),X.ds,fn.results,look T t)=(true,[],#[.tmp t],some v))
 (hp:∀D,(∀D₁∈W,Le D₁ D)→post D (sR [v]) L):∀a w,Hl X T L W a w→bodyPost P fn (sN X post) e a w:=db (rs:=[.tmp t]) (vs:=[v]) (zn (λz=>z.1) e9) (zn (λz=>z.2.1) e9) (zn (λz=>z.2.2.1) e9) ⟨zn (λz=>z.2.2.2) e9,zy⟩ hp
theorem _root_.Go.Fs.Zp{fn:Func}{post:aC→Γ→aF→Prop}{e:Exit}{rs:List ResultVar}(vs:List Γ)(e9:((match e with|.normal=>true|.ret=>true|_=>false),X.ds,fn.results)=(true,[],rs.toArray))(h:N3 P X T L rs vs)(hp:∀D,(∀D₁∈W,Le D₁ D)→post D (sR vs) L):∀a w,Hl X T L W a w→bodyPost P fn (sN X post) e a w:=db (vs:=vs) (zn (λz=>z.1) e9) (zn (λz=>z.2.1) e9) (zn (λz=>z.2.2) e9) h hp

def ints(l:List Int):List Γ:=l.map (Value.int .i64)
@[simp] theorem aL(l:List Int):(ints l).length=l.length:=by simp[ints]
theorem dA{l:List Int}{k:Nat}{n:Int}(h:l[k]?= some n):(ints l)[k]?= some (qI n):=by simp[ints,h]
theorem dZ(l:List Int):∀v∈ints l,cell1 v=true:=by intro v hv;simp[ints]at hv;obtain⟨n,_,rfl⟩:=hv;rfl
theorem cD{t e:Θ}{n b:Nat}{k:IntKind}{i:Int}(ho:G[ix]?= some ⟨some d,.indexAddr t x y,ty,pos,aft,g⟩)(ht:P.underlying t=some (.array n e))(hs:TS P e 1)(hx:ev T x=some (qP b))(hy:ev T y=some (.int k i))(h0:0≤i)(h1:i<n)
  (hN:Nat.blt d X.N=true) (hg:dF G T g) (kk:WL P X H G K Q os ((d,.pointer (some ⟨b,i.toNat,none⟩))::T) L W):WL P X H G K Q ((fl,ix)::os) T L W:=
 fH ho ht hs hx hy h0 h1 hN hg (by simpa using kk)
theorem BH{t:Θ}{b k:Nat}{l:List Int}{n:Int}{e:Θ}{μ':aF}(ho:G[ix]?= some ⟨none,.store t x y,ty,pos,aft,g⟩)(hs:TS P t 1)(hx:ev T x=some (.pointer (some ⟨b,k,none⟩)))(hy:ev T y=some (qI n))
  (hm:bO L b (.cells (ints l).toArray e (0,0)) (.cells (ints (l.set k n)).toArray e (0,0)) μ') (hl:k<l.length) (hg:dF G T g)
  (kk:WL P X H G K Q os T μ' W):WL P X H G K Q ((false,ix)::os) T L W:=
 dD (us:=[qI n]) (vs:=ints l) (ws:=ints (l.set k n)) ho hx hy C hs hm xw (by
  rw[show ints (l.set k n)=(ints l).set k (qI n) by simp[ints,List.map_set],List.set_eq_take_append_cons_drop,zo uu];simp) Ym hg kk

def HN(T:bZ):List (Nat×Operand)→Option (List (Nat×Γ))
 | []=>some []
 |(i,x)::xs=>match ev T x,HN T xs with
  |some v,some vs=>some ((i,v)::vs)
  |_,_=>none
theorem A8{ρ:Operand→Γ}(hρ:∀x u,ev T x=some u→ρ x=u):∀{xs:List (Nat×Operand)} {vs:List (Nat×Γ)},HN T xs=some vs→(xs.map λp=>(p.1,ρ p.2))=vs
 | [],vs,h=>by simp[HN]at h;simp[h]
 |(i,x)::xs,vs,h=>by
  simp only[HN]at h;cases h1:ev T x with
  |none=>simp[h1]at h
  |some I=>
   cases h2:HN T xs with
   |none=>simp[h1,h2]at h
   |some v2=>
    simp[h1,h2]at h;rw[←h,yl,hρ x I h1,A8 hρ h2]
def TP(P:Program)(t:Θ)(pl:List (Nat×Nat)):Prop:=
 ∃fs,P.underlying t=some (.struct fs)∧∀w,(fs.mapM (λf=>do pure (f.offset,←sizeOf f.type):Field→Sem (Nat×Nat))).run P w=.ok pl.toArray w
theorem JX{P:Program}:∀(fs:List Field) (pl:List (Nat×Nat)),(fs.map λf=>(f.offset,P.cellsOf f.type))=pl→(∀f∈fs,(P.info? f.type).isSome=true)→∀w,
  (fs.mapM (λf=>do pure (f.offset,←sizeOf f.type):Field→Sem (Nat×Nat))).run P w=.ok pl w
 | [],pl,h,_,w=>by subst h;rfl
 |f::fs,pl,h,hi,w=>by
  subst h;have hs:(sizeOf f.type).run P w=.ok (P.cellsOf f.type) w:=by
   have:=hi f zj;obtain⟨i,hi⟩:=Option.isSome_iff_exists.1 this;exact TS.of (by rw[hi];simp[Program.cellsOf,hi]) w
  rw[uy,Ω,Ω,hs];simp only[Ξ,ε];rw[Ω,JX fs _ C (λf hf=>hi f (GT _ hf)) w];rfl
theorem TP.of{t:Θ}{fs:Array Field}{pl:List (Nat×Nat)}(h:P.underlying t=some (.struct fs))(hp:(fs.toList.map λf=>(f.offset,P.cellsOf f.type))=pl)(hi:(fs.toList.all λf=>(P.info? f.type).isSome)=true):TP P t pl:=by
 refine⟨fs,h,λw=>?_⟩;have hr:=JX (P:=P) fs.toList pl hp (λf hf=>yu.1 hi f hf) w;have e:fs=fs.toList.toArray:=rfl;rw[e,List.mapM_toArray,Sem.run_map];simp only[hr,Ξ]
theorem lJ{t:Θ}{parts:Array (Nat×Operand)}{us:List (Nat×Γ)}{zs cs:List Γ}{pl:List (Nat×Nat)}(ho:G[ix]?= some ⟨some d,.build t parts,ty,pos,aft,g⟩)(hpl:TP P t pl)(hz:TZ P t (.agg zs.toArray))(hu:HN T parts.toList=some us)
  (hf:Instr.fill (λi=>pl[i]?) zs.toArray us=some cs.toArray) (hN:Nat.blt d X.N=true) (hg:dF G T g) (kk:WL P X H G K Q os ((d,.agg cs.toArray)::T) L W):WL P X H G K Q ((fl,ix)::os) T L W:=
 cB ho C C hN hg (λρ hρ w'=>by
  obtain⟨fs,h,hp⟩:=hpl;have e:(parts.map λ(i,x)=>(i,ρ x)).toList=us:=by rw[←A8 hρ hu];simp
  have hf':Instr.fill (λi=>pl.toArray[i]?) zs.toArray us=some cs.toArray:=by simpa using hf
  simp only[execOp,Instr.build,Ω,hz w',Ξ,TU.of h w',hp w',Value.cells,e,hf',ε]) kk
theorem _root_.Go.Fs.Zw{t:Θ}{parts:Array (Nat×Operand)}{us:List (Nat×Γ)}{zs:List Γ}(cs:List Γ){pl:List (Nat×Nat)}(ho:G[ix]?= some ⟨some d,.build t parts,ty,pos,aft,g⟩)(hpl:TP P t pl)(hz:TZ P t (.agg zs.toArray))(e9:(HN T parts.toList,Instr.fill (λi=>pl[i]?) zs.toArray us)=(some us,some cs.toArray))(kk:WL P X H G K Q os ((d,.agg cs.toArray)::T) L W)(hN:Nat.blt d X.N=true:=by exact C)(hg:dF G T g:=by exact zy):WL P X H G K Q ((fl,ix)::os) T L W:=lJ (cs:=cs) ho hpl hz (zn (λz=>z.1) e9) (zn (λz=>z.2) e9) hN hg kk

inductive SH(sz:Nat):Nat→List (Nat×Γ)→List Γ→Prop
 |nil {k}:SH sz k [] []
 |cons {k v cs r rs} (hv:v.cells=cs.toArray) (hc:cs.length=sz) (h:SH sz (k+1) r rs):SH sz k ((k,v)::r) (cs++rs)
theorem SH.len{sz k:Nat}{r:List (Nat×Γ)}{rs:List Γ}(h:SH sz k r rs):rs.length=r.length*sz:=by
 induction h with
 |nil=>simp
 |cons hv hc h ih=>simp[ih,hc,xb];omega
theorem PU:∀(cs:List Γ) (j off:Nat) (pre mid post:List Γ),pre.length=off+j→mid.length=cs.length→
  (cs.zipIdx j).foldl (λ(a:Array Γ) (p:Γ×Nat)=>a.setIfInBounds (off+p.2) p.1) (pre++mid++post).toArray=(pre++cs++post).toArray
 | [],j,off,pre,mid,post,h1,h2=>by have:mid=[]:=ri.1 h2;subst this;rfl
 |c::cs,j,off,pre,[],post,h1,h2=>by simp at h2
 |c::cs,j,off,pre,m::mid,post,h1,h2=>by
  rw[List.zipIdx_cons,yp];have e:(pre++(m::mid)++post).toArray.setIfInBounds (off+j) c=((pre++[c])++mid++post).toArray:=by
   rw[←h1];simp
  rw[e,PU cs (j+1) off (pre++[c]) mid post xw rt];simp
theorem NO{sz:Nat}{k:Nat}{r:List (Nat×Γ)}{rs:List Γ}(h:SH sz k r rs):∀(pre zs:List Γ),pre.length=k*sz→zs.length=rs.length→
  Instr.fill (λi=>some (i*sz,sz)) (pre++zs).toArray r=some (pre++rs).toArray:=by
 induction h with
 |nil=>intro pre zs h1 h2;have:zs=[]:=ri.1 h2;subst this;rfl
 | @cons k v cs r rs hv hc h ih=>
  intro pre zs h1 h2;obtain⟨m,post,rfl,hm⟩:∃m post,zs=m++post∧m.length=cs.length:=⟨zs.take cs.length,zs.drop cs.length,Yf,by rw[wq,h2];simp⟩
  have hpost:post.length=rs.length:=by simp[hm]at h2;omega
  simp only[Instr.fill];rw[zv]
  ·rw[hv];have hz:(cs.toArray.zipIdx.foldl (λ(a:Array Γ) (p:Γ×Nat)=>a.setIfInBounds (k*sz+p.2) p.1) (pre++m++post).toArray)=(pre++cs++post).toArray:=by
    have:=PU cs 0 (k*sz) pre m post vj hm;rw[←this,←Array.foldl_toList];simp
   have e:(pre++(m++post)).toArray=(pre++m++post).toArray:=Yf
   rw[e];rw[hz,ih (pre++cs) post (by simp[h1,hc,xb]) hpost];simp
  ·rw[hv];simp[h1,hc,hm]
theorem u0{t e:Θ}{sz n:Nat}{parts:Array (Nat×Operand)}{us:List (Nat×Γ)}{rs:List Γ}{z0:Γ}(ho:G[ix]?= some ⟨some d,.buildSlice t n parts,ty,pos,aft,g⟩)(ht:P.underlying t=some (.slice e))(hs:TS P e sz)(hz:TZ P e z0)(_hz1:Nat.beq z0.cells.size sz=true)
  (hu:HN T parts.toList=some us) (hn:us.length=n) (hnz:Nat.ble (n*sz) 4096=true) (hf:SH sz 0 us rs) (hN:Nat.blt d X.N=true) (hg:dF G T g)
  (kk:∀b D,(∀D₁∈W,Le D₁ D)→At D b 0 rs→WL P X H G K Q os ((d,qS b n n)::T) L (D::W)):WL P X H G K Q ((fl,ix)::os) T L W:=by
 refine fW ho C C hg λa w hh=>?_
 obtain⟨h1,h2,h3,D,h4,h5,h6⟩:=id hh;have hnz':n*sz≤4096:=vf hnz;have hlen:rs.length=n*sz:=by rw[hf.len,hn]
 have e1:(parts.map λ(i,x)=>(i,a.eval x)).toList=us:=by rw[←A8 (λ_ _ hx=>hh.eval hx) hu];simp
 have hrun:(execOp a.eval ⟨some d,.buildSlice t n parts,ty,pos,aft,g⟩).run P w=.ok (.value (.slice (some ⟨w.heap.size,0,none⟩) n n)) {w with heap:=w.heap.push (.cells rs.toArray e (0,0))}:=by
  simp only[execOp,Instr.buildSlice,Ω,TU.of ht w,Ξ,hs w];rw[zv Yd];simp only[pure_bind];have key:∀zc:Array Γ,Instr.fill (λi=>some (i*sz,sz)) ((Array.range (n*sz)).map (zc[· %zc.size]!)) us=some rs.toArray:=by
   intro zc;have:=NO hf [] ((Array.range (n*sz)).map (zc[· %zc.size]!)).toList Yf (by simp[hlen]);rw[ya,ya]at this;exact this
  split
  ·simp only[Ω,ε,Ξ,e1,key,kV]
  ·simp only[Ω,ε,Ξ,hz w,e1,key,kV]
 rw[hrun];obtain⟨D',hle,hD',hDo,hs'⟩:=h4.pushD rs e;refine⟨λ_=>rH _ _ _,kk w.heap.size D' (λD₁ hD₁=>(h5 D₁ hD₁).trans hle) (λj v hj=>by rw[hD'];simpa using hj) _ _ (Hl.put ⟨h1,h2,h3,D',hs',λD₁ hD₁=>?_,h6.step (λ_ p hp=>zq (n5.2 ⟨p,hp,C⟩)) (λ_=>⟨Yf,λb hb _=>⟨dV hb,hDo b Yd⟩,C⟩) hs'.dom⟩ hN _)⟩
 rcases zm.1 hD₁ with rfl|hD₁
 ·exact Le.refl _
 ·exact(h5 D₁ hD₁).trans hle
theorem _root_.Go.Fs.Zu{t:Θ}{e:Θ}{sz:Nat}{n:Nat}{parts:Array (Nat×Operand)}{us:List (Nat×Γ)}{rs:List Γ}{z0:Γ}(ho:G[ix]?= some ⟨some d,.buildSlice t n parts,ty,pos,aft,g⟩)(ht:P.underlying t=some (.slice e))(hs:TS P e sz)(hz:TZ P e z0)(e9:(Nat.beq z0.cells.size sz,HN T parts.toList,us.length,Nat.ble (n*sz) 4096)=(true,some us,n,true))(hf:SH sz 0 us rs)(kk:∀b D,(∀D₁∈W,Le D₁ D)→At D b 0 rs→WL P X H G K Q os ((d,qS b n n)::T) L (D::W))(hN:Nat.blt d X.N=true:=by exact C)(hg:dF G T g:=by exact zy):WL P X H G K Q ((fl,ix)::os) T L W:=u0 ho ht hs hz (zn (λz=>z.1) e9) (zn (λz=>z.2.1) e9) (zn (λz=>z.2.2.1) e9) (zn (λz=>z.2.2.2) e9) hf hN hg kk
theorem Sl.of_at{α:Type}{R:Rd α}{D:aC}{sz b n cap:Nat}{xs:List α}{rs:List Γ}(hA:At D b 0 rs)(hn:xs.length=n)(hc:n≤cap)(hb:n≤9223372036854775807)(h:∀i x,xs[i]?= some x→∃cs,R D x cs∧cs.length=sz∧(rs.drop (i*sz)).take sz=cs):Sl D R sz (qS b n cap) xs:=by
 subst hn;refine⟨_,cap,C,hc,hb,zt ⟨b,0,C,λi x hx=>?_⟩⟩;obtain⟨cs,hr,hl,hcs⟩:=h i x hx;refine⟨cs,hr,hl,λj v hj=>?_⟩;have hlt:=(yx.1 hj).1;rw[←hcs,sa Yd,vb]at hj;have:=hA _ _ hj;simpa [Nat.add_assoc]using this
theorem Sl.ofInts{D:aC}{b cap:Nat}{l:List Int}{n:Nat}(hA:At D b 0 (ints l))(hn:l.length=n)(hc:n≤cap)(hb:n≤9223372036854775807):Sl D RI 1 (qS b n cap) l:=
 Sl.of_at hA hn hc hb λi x hx=>⟨[qI x],C,C,by
  have h:=dA hx;have hl:=(yx.1 h).1;rw[xp,xc hl];rw[yz hl]at h;simp[yi h]⟩
theorem Mq{f:FuncId}{xs ys:Array Operand}{vs us:List Γ}(ho:G[ix]?= some ⟨some d,.makeFunc (.func f) xs ys,ty,pos,aft,g⟩)(hx:CM T xs.toList=some vs)(hy:CM T ys.toList=some us)(hN:Nat.blt d X.N=true)(hg:dF G T g)
  (kk:WL P X H G K Q os ((d,.func (.func f) vs.toArray us.toArray)::T) L W):WL P X H G K Q ((fl,ix)::os) T L W:=
 cB ho C C hN hg (λρ hρ w'=>by
  have e1:xs.map ρ=vs.toArray:=by rw[←mY hρ hx,←ou]
  have e2:ys.map ρ=us.toArray:=by rw[←mY hρ hy,←ou]
  simp only[execOp,Instr.makeFunc,e1,e2,pure_bind,ε]) kk
theorem _root_.Go.Fs.Za1{f:FuncId}{xs:Array Operand}{ys:Array Operand}{vs:List Γ}{us:List Γ}(e9:(G[ix]?,CM T xs.toList,CM T ys.toList)=(some ⟨some d,.makeFunc (.func f) xs ys,ty,pos,aft,g⟩,some vs,some us))(kk:WL P X H G K Q os ((d,.func (.func f) vs.toArray us.toArray)::T) L W)(hN:Nat.blt d X.N=true:=by exact C)(hg:dF G T g:=by exact zy):WL P X H G K Q ((fl,ix)::os) T L W:=Mq (zn (λz=>z.1) e9) (zn (λz=>z.2.1) e9) (zn (λz=>z.2.2) e9) hN hg kk
theorem uH{e:Θ}{vs:List Γ}(ho:G[ix]?= some ⟨some d,.box e x,ty,pos,aft,g⟩)(hx:ev T x=some v)(hv:v.cells=vs.toArray)(hN:Nat.blt d X.N=true)(hg:dF G T g)
  (kk:∀b D,(∀D₁∈W,Le D₁ D)→At D b 0 vs→WL P X H G K Q os ((d,qP b)::T) L (D::W)):WL P X H G K Q ((fl,ix)::os) T L W:=by
 refine fW ho C C hg λa w hh=>?_
 obtain⟨h1,h2,h3,D,h4,h5,h6⟩:=id hh;have:(execOp a.eval ⟨some d,.box e x,ty,pos,aft,g⟩).run P w=.ok (.value (.pointer (some ⟨w.heap.size,0,none⟩))) {w with heap:=w.heap.push (.cells vs.toArray e (0,0))}:=by
  simp only[execOp,hh.eval hx,Instr.box,newVar,hv,Ω,kV,Ξ,ε]
 rw[this];obtain⟨D',hle,hD',hDo,hs'⟩:=h4.pushD vs e;refine⟨λ_=>rH _ _ _,kk w.heap.size D' (λD₁ hD₁=>(h5 D₁ hD₁).trans hle) (λj v hj=>by rw[hD'];simpa using hj) _ _ (Hl.put ⟨h1,h2,h3,D',hs',λD₁ hD₁=>?_,h6.step (λ_ p hp=>zq (n5.2 ⟨p,hp,C⟩)) (λ_=>⟨Yf,λb hb _=>⟨dV hb,hDo b Yd⟩,C⟩) hs'.dom⟩ hN _)⟩
 rcases zm.1 hD₁ with rfl|hD₁
 ·exact Le.refl _
 ·exact(h5 D₁ hD₁).trans hle
theorem _root_.Go.Fs.Zac{e:Θ}{vs:List Γ}(e9:(G[ix]?,ev T x,v.cells)=(some ⟨some d,.box e x,ty,pos,aft,g⟩,some v,vs.toArray))(kk:∀b D,(∀D₁∈W,Le D₁ D)→At D b 0 vs→WL P X H G K Q os ((d,qP b)::T) L (D::W))(hN:Nat.blt d X.N=true:=by exact C)(hg:dF G T g:=by exact zy):WL P X H G K Q ((fl,ix)::os) T L W:=uH (zn (λz=>z.1) e9) (zn (λz=>z.2.1) e9) (zn (λz=>z.2.2) e9) hN hg kk
def dJ{α:Type}(P:Program)(D:aC)(val:α→Γ)(fv:Γ)(p:α→Bool):Prop:=
 ∃f c1 c2,fv=.func (.func f) (List.toArray c1) (List.toArray c2)∧∀x D',Le D D'→Fn P f (c1++[val x]++c2).toArray D' λ_ v=>v=.bool (p x)
theorem dJ.up{α:Type}{D D':aC}{val:α→Γ}{fv:Γ}{p:α→Bool}(h:dJ P D val fv p)(hl:Le D D'):dJ P D' val fv p:=by
 obtain⟨f,c1,c2,h1,h2⟩:=h;exact⟨f,c1,c2,h1,λx D'' hl'=>h2 x D'' (hl.trans hl')⟩
theorem dJ.of{α:Type}{D:aC}{val:α→Γ}{f:FuncId}{p:α→Bool}(h:∀x D',Fn P f #[val x] D' λ_ v=>v=.bool (p x)):dJ P D val (.func (.func f) #[] #[]) p:=
 ⟨f,[],[],C,λx D' _=>h x D'⟩
end Go.Fs
