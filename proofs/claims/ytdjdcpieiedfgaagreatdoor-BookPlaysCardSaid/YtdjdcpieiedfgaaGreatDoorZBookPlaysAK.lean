/- Of BookPlays. -/
import Derived.Test.YtdjdcpieiedfgaaGreatDoorZBookPlaysAJ
namespace Go.Fs
open Go.Proofs Tryz
namespace L12
open C12 Go.Lib
section
variable{G G':List Λ}{w:Λ}{act:eI}{s s':aO}{ns:List Int}{e:Int}
theorem bU.neg(h:bU G w act s ns e s')(he:e<0):e= -1∧s'=s∧w∉G:=by
 rcases h with h|⟨h,_⟩|⟨h,_⟩
 ·exact h
 ·omega
 ·omega
theorem bU.add(h:bU G' w act s ns e s')(h0:w∉G):bU (G++G') w act s ns e s':=by
 rcases h with⟨h1,h2,h3⟩|h
 ·exact bLL ⟨h1,h2,fun hm=>(bLM.1 hm).elim h0 h3⟩
 ·exact bLG h
theorem bU.keep(h:bU G w act s ns e s')(he:¬e<0):bU G' w act s ns e s':=by
 rcases h with⟨h1,_⟩|h
 ·omega
 ·exact bLG h
theorem bU.zero(h:bU G w act s ns e s')(he:e=0):act s ns=.ok s':=by
 rcases h with⟨h,_⟩|⟨_,h⟩|⟨h,_⟩
 ·omega
 ·exact h
 ·omega
theorem bU.errs(h:bU [w] w act s ns e s')(he:¬e=0):act s ns=.error e:=by
 rcases h with⟨_,_,h⟩|⟨h,_⟩|⟨_,h⟩
 ·exact absurd bKZ h
 ·omega
 ·exact h
end
theorem aNJ{o:Option (List Int)}{b:Bool}{Q:List Int→Prop}(h:match o with|some ns=>b=true∧Q ns|none=>b=false)(hb:b=true):∃ns,o=some ns∧Q ns:=by
 cases o with
 |none=>rw[hb]at h;cases h
 |some ns=>exact⟨ns,rfl,h.2⟩
theorem aAT{line:Λ}{ns:List Int}(h:iT line.data.toList=some ns):∃p0 ps act,eA line=p0::ps∧C6 p0 ns act∧jZ line=some (act,ns):=by
 obtain⟨p0,ps,hc⟩:=pJ line;rw[X6 hc]at h;split at h
 ·rename_i hm;unfold S5 at hm;split at hm
  ·rename_i l k act hf;have hk:ps.length=k:=by omega
   have hl:ns.length=ps.length:=by have h8:=GK (ps:=gT ps) (by rw[W0];exact h);rwa [aBE]at h8
   have e:l=p0.data.toList:=by have:=List.find?_some hf;simpa using this
   refine⟨p0,ps,act,hc,?_,j6 hc hf hk h⟩;unfold C6;rw[hf,e,hl,hk]
  ·omega
 ·cases h
theorem IF{line:Λ}(h:iT line.data.toList=none):jZ line=none:=by
 obtain⟨p0,ps,hc⟩:=pJ line;rw[X6 hc]at h;rw[vA hc];unfold S5 at h;split
 ·rfl
 ·rename_i l k act hf;rw[hf]at h;simp only at h;split
  ·rename_i hk;rw[bLR Yd]at h;rw[h];rfl
  ·rfl
theorem WW{line:Λ}{act:eI}{n:List Int}{s I:aO}(h:jZ line=some (act,n))(hk:iY s)(hg:kF s)(ha:act s n=.ok I):kF I:=by
 obtain⟨x,hx,rfl⟩:=EC h;exact GX x hx s n I hk hg (I3 h) ha
theorem ZE{q:Nat}{s:aO}{nv:Γ}{w:Λ}{ns:List Int}{act:eI}{ν:aD}{D:aC}(hn:Sl D RI 1 nv ns)(hact:C6 w ns act)(hr:∀x∈ns,0≤x∧x≤999)(hk:iY s)(hg:kF s)(h:pR aMC D q s ν):kW prog 105 [qP q,.string w,nv] D ν (fun D' v ν'=>∃(e:Int) (s':aO),v=qI e∧bU uE w act s ns e s'∧pR aMC D' q s' ν') (fun _=>False):=by
 obtain⟨pv,cv,hv,lv,mv,bl,bc,yc,yq,ν1,ν2,ν3,ν4,ν5,ν6,ν7,ν8,rfl,hO⟩:=h;refine kW.reorder ((YQ q s pv cv hv lv mv bl bc yc yq nv w ns act ν1 ν2 D hn hact hr hk hg hO.pl hO.ct).frameB (ν8++(ν7++(ν6++(ν5++(ν4++(ν3))))))) Yj ?_ fun _ h=>h;rintro D' v _ hle ⟨_,⟨e,r,rfl,hP,pv',cv',μ1,μ2,rfl,I,O⟩,rfl⟩;exact⟨_,Yx,e,_,rfl,hP,pv',cv',hv,lv,mv,bl,bc,yc,yq,μ1,μ2,ν3,ν4,ν5,ν6,ν7,ν8,rfl,⟨I,O,hO.ht,hO.lev,hO.mks,hO.ln,hO.cn.up tC.up hle,hO.ch,hO.cl⟩⟩
theorem aQF{q:Nat}{s:aO}{nv:Γ}{w:Λ}{ns:List Int}{act:eI}{ν:aD}{D:aC}(hn:Sl D RI 1 nv ns)(hact:C6 w ns act)(hr:∀x∈ns,0≤x∧x≤999)(hk:iY s)(hg:kF s)(h:pR aMC D q s ν):kW prog 106 [.pointer (some ⟨q,4,none⟩),.string w,nv] D ν (fun D' v ν'=>∃(e:Int) (s':aO),v=qI e∧bU j9 w act s ns e s'∧pR aMC D' q s' ν') (fun _=>False):=by
 obtain⟨pv,cv,hv,lv,mv,bl,bc,yc,yq,ν1,ν2,ν3,ν4,ν5,ν6,ν7,ν8,rfl,hO⟩:=h;refine kW.reorder ((aSE q s pv cv hv lv mv bl bc yc yq nv w ns act ν3 ν4 ν5 D hn hact hr hk hg hO.ht hO.lev hO.mks).frameB (ν8++(ν7++(ν6++(ν2++(ν1)))))) Yj ?_ fun _ h=>h;rintro D' v _ hle ⟨_,⟨e,r,rfl,hP,hv',lv',mv',μ3,μ4,μ5,rfl,I,O,R⟩,rfl⟩;exact⟨_,Yu,e,_,rfl,hP,pv,cv,hv',lv',mv',bl,bc,yc,yq,ν1,ν2,μ3,μ4,μ5,ν6,ν7,ν8,rfl,⟨hO.pl,hO.ct,I,O,R,hO.ln,hO.cn.up tC.up hle,hO.ch,hO.cl⟩⟩
theorem aGQ{q:Nat}{s:aO}{nv:Γ}{w:Λ}{ns:List Int}{act:eI}{ν:aD}{D:aC}(hn:Sl D RI 1 nv ns)(hact:C6 w ns act)(hr:∀x∈ns,0≤x∧x≤999)(hk:iY s)(hg:kF s)(h:pR aMC D q s ν):kW prog 107 [.pointer (some ⟨q,9,none⟩),.string w,nv] D ν (fun D' v ν'=>∃(e:Int) (s':aO),v=qI e∧bU H7 w act s ns e s'∧pR aMC D' q s' ν') (fun _=>False):=by
 obtain⟨pv,cv,hv,lv,mv,bl,bc,yc,yq,ν1,ν2,ν3,ν4,ν5,ν6,ν7,ν8,rfl,hO⟩:=h;refine kW.reorder ((aHK q s pv cv hv lv mv bl bc yc yq nv w ns act ν6 D hn hact hr hk hg hO.ln).frameB (ν8++(ν7++(ν5++(ν4++(ν3++(ν2++(ν1)))))))) Yj ?_ fun _ h=>h;rintro D' v _ hle ⟨_,⟨e,r,rfl,hP,bl',μ6,rfl,I,hcq⟩,rfl⟩;exact⟨_,Yah,e,_,rfl,hP,pv,cv,hv,lv,mv,bl',bc,yc,yq,ν1,ν2,ν3,ν4,ν5,μ6,ν7,ν8,rfl,⟨hO.pl,hO.ct,hO.ht,hO.lev,hO.mks,I,by show Sl D' tC 3 bc r.counts;rw[hcq];exact hO.cn.up tC.up hle,hO.ch,hO.cl⟩⟩
theorem aJZ{q:Nat}{s:aO}{nv:Γ}{w:Λ}{ns:List Int}{act:eI}{ν:aD}{D:aC}(hn:Sl D RI 1 nv ns)(hact:C6 w ns act)(I:w∉uE)(O:w∉j9)(R:w∉H7)(hr:∀x∈ns,0≤x∧x≤999)(hk:iY s)(hg:kF s)(h:pR aMC D q s ν):kW prog 108 [.pointer (some ⟨q,14,none⟩),.string w,nv] D ν (fun D' v ν'=>∃(e:Int) (s':aO),v=qI e∧bU [w] w act s ns e s'∧pR aMC D' q s' ν') (fun _=>False):=by
 obtain⟨pv,cv,hv,lv,mv,bl,bc,yc,yq,ν1,ν2,ν3,ν4,ν5,ν6,ν7,ν8,rfl,hO⟩:=h;refine kW.reorder ((aJO q s pv cv hv lv mv bl bc yc yq nv w ns act ν7 ν8 D hn hact I O R hr hk hg hO.ch hO.cl).frameB (ν6++(ν5++(ν4++(ν3++(ν2++(ν1))))))) Yj ?_ fun _ h=>h;rintro D' v _ hle ⟨_,⟨e,r,rfl,hP,yc',yq',μ7,μ8,rfl,U,V⟩,rfl⟩;exact⟨_,Yag,e,_,rfl,hP,pv,cv,hv,lv,mv,bl,bc,yc',yq',ν1,ν2,ν3,ν4,ν5,ν6,μ7,μ8,rfl,⟨hO.pl,hO.ct,hO.ht,hO.lev,hO.mks,hO.ln,hO.cn.up tC.up hle,U,V⟩⟩
theorem bEE(sv:Γ)(s:aO)(line:Λ)(D:aC)(hs:fW D sv s)(hk:iY s)(hg:kF s)(hl:line.size≤1000):Fn prog 44 #[sv,.string line] D (fun D' v=>∃v1,v=.tuple #[v1,qI (C8 s line).2]∧fW D' v1 (C8 s line).1):=by
 have hs0:=hs;obtain⟨pv,cv,hv,lv,mv,bl,bc,yc,yq,rfl,hL⟩:=hs;unfold cZ;refine Zx 56 func44 rfl fun h0=>aA<|Zab rfl fun q1 E1 hE1 Z=>Zad rfl G3 rfl fun O=>Zk rfl<|aL<|Za rfl<|Zaa rfl (fun D1 hD1=>AJ line hl _) fun v1 D1 hD1 hp1=>?_;obtain⟨nv,nb,rfl,hm⟩:=hp1;refine Za rfl<|Zaq rfl<|Zaq rfl<|Zk rfl<|Zk rfl<|bK<|Za rfl<|Zau rfl<|aF<|Zaf rfl (fun hc1=>?_) fun hc1=>?_
 ·have hnone:=LU Xbd hm;refine aA<|Zv rfl mL rfl Z gR<|Zz rfl gR ζ (fP hL)<|Wi ?_;exact Zo [_,_] rfl ⟨⟨_,_,_,rfl,Mm0,Or.inr ⟨mL,gR,rfl⟩⟩,rfl,bQK⟩ fun D' hD=>N7 (QJ (IF hnone)) ⟨pv,cv,hv,lv,mv,bl,bc,yc,yq,rfl,hL.up (hD _ Ye)⟩
 ·obtain⟨ns,hns,hnS⟩:=aNJ hm Xbd;obtain⟨p0,ps,act,hcut,hfw,hpa⟩:=aAT hns;have hr:=I3 hpa;have hp0:(eA line)[0]?= some p0:=by rw[hcut];rfl
  have hcl:=N9 line;refine aQ<|aA<|Zv rfl mL rfl Z gR<|gG rfl rfl rfl (fun D20 hJ=>WR _ s _ (hs0.up (hJ _ Ye)) hk.small) rfl bQK fun v20 D21 νC hD21 hw=>?_;obtain⟨cs,νD,νz,rfl,rfl,hK,hcc,hown⟩:=hw;refine Zad rfl G3 rfl fun q3=>cQ rfl rfl rfl rfl gR hK Ybc .head hcc bQK<|bS<|IH (((q3,qC cs 66)::νD)++(νz++[(O,_)])) bKJ ?_;have hO:=hown q3;generalize (q3,Obj.cells cs.toArray 66 (0,0))::νD=νW at hO ⊢
  refine bHD (List.Sublist.append Mm5 (List.sublist_append_right _ _))<|aP<|Za rfl<|Zaa rfl (fun D2 hD2=>o7 line hl _) fun v2 D2 hD2 hp2=>?_;have hwd:=hp2;refine Zw rfl U22 lS rfl hwd rfl hp0 fun b1 o1 cs1 hr1 hcl1 hA1=>?_;obtain rfl:cs1=[.string _]:=hr1;refine Zd 0 rfl wY rfl hA1 rfl<|Zk rfl<|aL<|Zi rfl sS rfl<|Za rfl<|Za rfl<|Zm [] [(O,_)] νW rfl (Z8 hO) (fun D30 R=>ZE (hnS.up RI.up (R _ Ye)) hfw hr hk hg (hO.up (R _ Ye))) (fun _ _ _ h=>h.elim) fun v30 D31 hN R hR=>?_;obtain⟨e,I,rfl,hP,hO⟩:=hR;refine Zk rfl<|aF<|aAB (γ:=Int×aO×aD×aC) (fun g=>pR aMC g.2.2.2 q3 g.2.1 g.2.2.1∧bU (uE++j9) p0 act s ns g.1 g.2.1) (fun g=>[(10,qI g.1),(9,.string p0),(6,nv),(8,qP q3),(4,qP O),(2,qP q1)]) (fun g=>g.2.2.1++[(O,qC [qN,qN,qI 0,qI 0,qI 0,qN,qI 0,qN,qN,qI 0,qI 0,qI 0,qN,qN,qN,qI 0,qN] 66)]) (fun g=>[g.2.2.2,D1,E1,D]) ?_ ?_
  ·refine aA<|Za rfl<|Zan rfl<|aF<|Zag rfl (fun hc2=>?_) (fun hc2=>?_)
   ·obtain⟨he2,hs2,hn2⟩:=hP.neg hc2;rw[hs2]at hO;refine aP<|Zi rfl nO rfl<|Za rfl<|Za rfl<|Zm [] [(O,_)] hN rfl (Z8 hO) (fun D40 U=>aQF (hnS.up RI.up (U _ Ye)) hfw hr hk hg (hO.up (U _ Ye))) (fun _ _ _ h=>h.elim) fun v40 D41 ν40 U hS=>?_;obtain⟨e,I,rfl,hP,hO⟩:=hS;refine Zk rfl<|Zap<|P8 ?_;exact fun a w hh=>⟨(e,I,ν40,D41),⟨hO,hP.add hn2⟩,hh.weak cR Mm5 Yp⟩
   ·refine bJ<|P8 ?_;exact fun a w hh=>⟨(e,I,hN,D31),⟨hO,hP.keep hc2⟩,hh.weak cR Mm5 Yp⟩
  rintro⟨e,I,ν,Dn⟩ ⟨hO,hP⟩;dsimp only at hO hP ⊢
  refine aAB (γ:=Int×aO×aD×aC) (fun g=>pR aMC g.2.2.2 q3 g.2.1 g.2.2.1∧bU ((uE++j9)++H7) p0 act s ns g.1 g.2.1) (fun g=>[(10,qI g.1),(9,.string p0),(6,nv),(8,qP q3),(4,qP O),(2,qP q1)]) (fun g=>g.2.2.1++[(O,qC [qN,qN,qI 0,qI 0,qI 0,qN,qI 0,qN,qN,qI 0,qI 0,qI 0,qN,qN,qN,qI 0,qN] 66)]) (fun g=>[g.2.2.2,D1,E1,D]) ?_ ?_
  ·refine aA<|Za rfl<|Zan rfl<|aF<|Zag rfl (fun hc3=>?_) (fun hc3=>?_)
   ·obtain⟨he3,hs3,hn3⟩:=hP.neg hc3;rw[hs3]at hO;refine aP<|Zi rfl yA rfl<|Za rfl<|Za rfl<|Zm [] [(O,_)] ν rfl (Z8 hO) (fun D50 V=>aGQ (hnS.up RI.up (V _ Ye)) hfw hr hk hg (hO.up (V _ Ye))) (fun _ _ _ h=>h.elim) fun v50 D51 ν50 V hX=>?_;obtain⟨e,I,rfl,hP,hO⟩:=hX;refine Zk rfl<|Zap<|P8 ?_;exact fun a w hh=>⟨(e,I,ν50,D51),⟨hO,hP.add hn3⟩,hh.weak cR Mm5 Yp⟩
   ·refine bJ<|P8 ?_;exact fun a w hh=>⟨(e,I,ν,Dn),⟨hO,hP.keep hc3⟩,hh.weak cR Mm5 Yp⟩
  rintro⟨e,I,ν,Dn⟩ ⟨hO,hP⟩;dsimp only at hO hP ⊢
  refine aAB (γ:=Int×aO×aD×aC) (fun g=>pR aMC g.2.2.2 q3 g.2.1 g.2.2.1∧bU [p0] p0 act s ns g.1 g.2.1) (fun g=>[(10,qI g.1),(9,.string p0),(6,nv),(8,qP q3),(4,qP O),(2,qP q1)]) (fun g=>g.2.2.1++[(O,qC [qN,qN,qI 0,qI 0,qI 0,qN,qI 0,qN,qN,qI 0,qI 0,qI 0,qN,qN,qN,qI 0,qN] 66)]) (fun g=>[g.2.2.2,D1,E1,D]) ?_ ?_
  ·refine aA<|Za rfl<|Zan rfl<|aF<|Zag rfl (fun hF=>?_) (fun hF=>?_)
   ·obtain⟨he4,hs4,hB⟩:=hP.neg hF;rw[hs4]at hO;simp only[bLM,bQE]at hB;refine aP<|Zi rfl nP rfl<|Za rfl<|Za rfl<|Zm [] [(O,_)] ν rfl (Z8 hO) (fun D60 Y=>aJZ (hnS.up RI.up (Y _ Ye)) hfw hB.1.1 hB.1.2 hB.2 hr hk hg (hO.up (Y _ Ye))) (fun _ _ _ h=>h.elim) fun v60 D61 ν60 Y hY=>?_;obtain⟨e,I,rfl,hP,hO⟩:=hY;refine Zk rfl<|Zap<|P8 ?_;exact fun a w hh=>⟨(e,I,ν60,D61),⟨hO,hP⟩,hh.weak cR Mm5 Yp⟩
   ·refine bJ<|P8 ?_;exact fun a w hh=>⟨(e,I,ν,Dn),⟨hO,hP.keep hF⟩,hh.weak cR Mm5 Yp⟩
  rintro⟨e,I,ν,Dn⟩ ⟨hO,hP⟩;dsimp only at hO hP ⊢
  refine bM<|Za rfl<|Zaw rfl<|aF<|Zag rfl (fun hE=>?_) fun hE=>?_
  ·have hact:=hP.zero hE;have rA:=DM hpa hk hact;have hg2:=WW hpa hk hg hact;refine AV (T:=aMC) (B:=[(_,_)]) hO rfl Ye rA.small fun D9 rB cv2 hv2 lv2 mv2 bl2 bc2 yc2 yq2 hD9 hH=>?_;unfold cZ;refine aP<|Zae rfl mL rfl Mm0 gR<|Zf rfl (fun D3 hD3=>ZG _ I _ ⟨rB,cv2,hv2,lv2,mv2,bl2,bc2,yc2,yq2,rfl,hH.up (hD3 _ Ye)⟩ rA hg2)<|Zk rfl<|bK<|Za rfl<|Zax rfl<|aF<|Zag rfl (fun hI=>?_) (fun hI=>?_)
   ·refine aA<|Zv rfl mL rfl Z gR<|Za rfl<|Zz rfl gR (.tail ζ) (fP hL)<|Wi ?_;exact Zo [_,_] rfl ⟨⟨_,_,_,rfl,Mm1,Or.inr ⟨mL,gR,rfl⟩⟩,rfl,bQK⟩ fun D' hD=>N7 (aPX hpa hact hI) ⟨pv,cv,hv,lv,mv,bl,bc,yc,yq,rfl,hL.up (hD _ Ye)⟩
   ·refine aQ<|aA<|Zae rfl mL rfl Mm0 gR<|Zz rfl gR (.tail ζ) (fP hH)<|We ?_;exact Zo [_,_] rfl ⟨⟨_,_,_,rfl,Mm1,Or.inr ⟨mL,gR,rfl⟩⟩,rfl,bQK⟩ fun D' hD=>N7 (aDA hpa hact (Classical.not_not.1 hI)) ⟨rB,cv2,hv2,lv2,mv2,bl2,bc2,yc2,yq2,rfl,hH.up (hD _ Ye)⟩
  ·refine aQ<|bM<|Za rfl<|Zax rfl<|aF<|Zag rfl (fun hc7=>?_) (fun hc7=>?_)
   ·refine aA<|Zv rfl mL rfl Z gR<|Za rfl<|Zz rfl gR (.app ζ) (fP hL)<|Wi ?_;exact Zo [_,_] rfl ⟨⟨_,_,_,rfl,(LE _ Mm0),Or.inr ⟨mL,gR,rfl⟩⟩,rfl,bQK⟩ fun D' hD=>N7 (aQW hpa (hP.errs hE)) ⟨pv,cv,hv,lv,mv,bl,bc,yc,yq,rfl,hL.up (hD _ Ye)⟩
   ·exact(hc7 hE).elim
theorem aRK(lv:Γ)(ls:List Λ)(D:aC)(hS:Sl D RS 1 lv ls)(hn:ls.length≤1000)(hsz:∀l∈ls,l.size≤1000):Fn prog 15 #[lv] D (fun D' v=>∃R v2,v=.tuple #[R,v2]∧fW D' R (nD ls).1∧Sl D' RI 1 v2 (nD ls).2):=by
 refine Zx 30 func15 rfl fun h0=>aA<|Zad rfl G3 rfl fun q1=>Zk rfl<|aL<|Zaa rfl (fun D1 Y=>aKI _) fun R D1 Y Z=>?_;obtain⟨pv,cv,hv,O,mv,bl,bc,yc,yq,rfl,hL⟩:=Z;unfold cZ;refine Zad rfl G3 rfl (fun q2=>Zz rfl gR ζ (fP hL)<|aL<|Zk rfl<|bK<|Zk rfl<|aF<|Za3<|hU (γ:=bDQ) (fun g=>ls.length-g.k) (fun g=>g.k≤ls.length∧nD (ls.take g.k)=(g.s,g.es)∧g.es.length=g.k∧bD 3 1 g.v g.k (ints g.es) g.ν∧kJ g.Dn g.s g.pv g.cv g.hv g.lv g.mv g.bl g.bc g.yc g.yq∧(iY g.s∧kF g.s)) (fun g=>[(6,qI (g.k:Int)),(5,g.v)]) [(4,_),(3,_),(2,_),(0,_)] (fun g=>g.ν++[(q2,qC (cZ g.s g.pv g.cv g.hv g.lv g.mv g.bl g.bc g.yc g.yq) 66),(q1,qC [qN,qN,qI 0,qI 0,qI 0,qN,qI 0,qN,qN,qI 0,qI 0,qI 0,qN,qN,qN,qI 0,qN] 66)]) (fun g=>[g.Dn,D]) ⟨0,I5,[],pv,cv,hv,O,mv,bl,bc,yc,yq,qN,[],D1⟩ ⟨Ye,by simp[nD],rfl,Xaj,hL,zX,EQ⟩ ⟨Ya,Ya,bQK⟩ cR Mm5 (Yal) ?_);rintro⟨k,s,es,pv,cv,hv,lv,mv,bl,bc,yc,yq,v,ν,Dn⟩ ⟨h1,hp,h3,ha,hL,hk⟩;simp only at h1 hp h3 ha hL hk;refine bM<|Za rfl<|Za rfl<|Zai rfl U22 rfl hS rfl<|Zan rfl<|aF<|Zag rfl (fun hc1=>?_) fun hc1=>?_
 ·simp only at hc1;have hlt:k<ls.length:=by omega
  obtain⟨x,hx⟩:=cB ls k;refine aQ<|Za5<|Za3<|aA<|Zk rfl<|bS<|bE [] 4 11 30<|Zae rfl mL rfl (LE _ Mm0) gR<|Za rfl<|Za rfl<|Zw rfl U22 lS rfl (hS.up RS.up (Le.refl _)) rfl hx fun b1 o1 hB hE hcl1 hF=>?_;obtain rfl:hB=[.string _]:=hE;refine Zd 0 rfl wY rfl hF rfl<|Zaa rfl (fun D2 U=>bEE _ s x _ ⟨pv,cv,hv,lv,mv,bl,bc,yc,yq,rfl,hL.up (U _ Ye)⟩ hk.1 hk.2 (hsz x (GT hx))) fun v2 D2 U hH=>?_;obtain⟨w1,rfl,hI,hJ,hK,O,hN,hO,hP,hR,hX,rfl,V⟩:=hH;have hY:=And.intro (MN hk.1 x) (aEE hk.1 hk.2 x);unfold cZ;refine Za rfl<|Zaq rfl<|Zaq rfl<|Zz rfl gR (.app ζ) (fP V)<|Zk rfl<|aF<|aP<|Za rfl<|Za rfl<|Zu rfl U25 aJ cK rfl (.cons rfl rfl .nil) fun b901 D901 rA I=>?_;have rB:=Sl.ofInts (l:=[_]) (n:=1) (cap:=1) I rfl Yd Yd;refine aR (A:=[]) (B:=[(_,_),(_,_)]) rfl U25 rfl rfl aJ cK rfl kE rfl rfl rfl ha (iL.lit I) Ye rfl (by simp[ints,h3]) Yk Yd (bLL rfl) rfl bQK fun R ν1 ha1=>?_;have ha2:bD 3 1 R (k+1) (ints (es++[(C8 s x).2])) ν1:=by rw[←eW];exact ha1
  refine Wz ?_;exact aI 25 ⟨k+1,(C8 s x).1,es++[(C8 s x).2],hI,hJ,hK,O,hN,hO,hP,hR,hX,R,ν1,D2⟩ ⟨Yl,by simp only;rw[CT hx,hp],by simp[h3],ha2,V,hY⟩ Yl ⟨Ya,Ya,bQK⟩ rfl rfl Mm5 (Yal)
 ·obtain rfl:k=ls.length:=by simp only at hc1;omega
  rw[bLU]at hp;refine Za8<|Za4<|Za4<|Za9<|Za1<|aA<|Zae rfl mL rfl (LE _ Mm0) gR<|Za rfl<|Zz rfl gR (.app (.tail ζ)) (fP hL)<|Zk rfl<|aG<|Zar [] [(_,_),(_,_)] ha rfl fun D9 hD9 hF9=>?_;have hes:=hF9.ints (l:=es) h3 Yd;exact Zo [_,_] rfl ⟨⟨_,_,_,rfl,bLP _ Mm0,bLG ⟨mL,gR,rfl⟩⟩,rfl,bQK⟩ fun D hD=>⟨_,_,rfl,Xda,by rw[hp];exact hes.up RI.up (hD _ Ye)⟩
theorem OJ(lv:Γ)(ls:List Λ)(D:aC)(hS:Sl D RS 1 lv ls)(hV:pU D):Fn prog 3 #[lv] D (fun _ v=>v=.bool true):=by
 have hsl:=hS.len;refine Zx 66 func3 rfl fun h0=>aA<|Zk rfl<|bK<|Za rfl<|Zf rfl (fun D1 hJ=>aHU _ ls _ (hS.up RS.up (hJ _ Ye)))<|Wbu ?_;refine' cT 4 (s:=12) (p:=16) rfl (fun Y=>?_) (fun Y=>?_) ?_;rotate_left
 ·obtain⟨hK,U⟩:=N1.1 (show FK ls=true by simpa using Y);refine Zb rfl<|Zg rfl (fun D2 hN=>ZF _ ls _ (hS.up RS.up (hN _ Ye)) Yd fun x hx=>by have:=U x hx;omega)<|Waf ?_
  exact aM 3
 ·refine Wcn ?_;exact aM 3
 refine aF<|Zaf rfl (fun hc1=>?_) fun hc1=>?_
 ·refine aA<|Zf rfl (fun D3 hO=>DF _ (hV.up (hO _ Ye)))<|Wi ?_;exact aE rfl fun D hD=>rfl
 ·obtain⟨hK,U⟩:=N1.1 (show FK ls=true by have h9:=hc1;simp only[bMG,bPA]at h9;exact h9.1);refine aQ<|aA<|Za rfl<|Zaa rfl (fun D4 Z=>aKT _ ls _ (hS.up RS.up (Z _ Ye)) Yd) fun v4 D4 Z hP=>?_;have hq:=hP;refine Zaa rfl (fun D5 V=>d4 _ ls _ (hq.up RS.up (V _ Ye)) (hV.up (V _ Ye))) fun v5 D5 V hp5=>?_;obtain⟨w1,w2,rfl,⟨pv,cv,hv,lv,mv,bl,bc,yc,yq,rfl,hL⟩,hes⟩:=hp5;unfold cZ;refine Za rfl<|Zaq rfl<|Zaq rfl<|Zaq rfl<|Zad rfl oG rfl fun q1=>Zz rfl eE ζ (fP hL)<|Zk rfl<|Zk rfl<|bK<|Za rfl<|Zf rfl (fun D6 hR=>WM _ ls _ (hS.up RS.up (hR _ Ye)))<|Zk rfl ?_;refine aL<|Za rfl<|Zax rfl<|aF<|Zag rfl (fun hc2=>?_) (fun hc2=>?_)
  ·refine aA<|Za rfl<|Za rfl<|Wbd ?_;refine' bW 4 (s:=32) (p:=36) rfl (fun hX=>?_) (fun hX=>?_) ?_;rotate_left
   ·refine Zb rfl<|dD rfl U43 rfl hes rfl rfl ⟨_,rfl,rfl⟩<|Wah ?_;exact aM 3
   ·refine Wb ?_;exact aM 3
   refine Za rfl ?_;refine' bW 4 (s:=37) (p:=41) rfl (fun hY=>?_) (fun hY=>?_) ?_;rotate_left
   ·refine bL rfl kG rfl Mm0 eE n4 rfl ⟨_,rfl,rfl⟩<|kB (cs:=[qN,qN,qI 0,qI 0,qI 0,qN,qI 0,qN,qN,qI 0,qI 0,qI 0,qN,qN,qN,qI 0,qN]) rfl XU oG rfl Yg rfl ⟨_,rfl,rfl⟩<|Zg rfl (fun D7 rA=>LV _ _ (aT ls).1 aCO _ ⟨pv,cv,hv,lv,mv,bl,bc,yc,yq,rfl,hL.up (rA _ Ye)⟩ (aEP _))<|Zak rfl ?_;exact aM 3
   ·refine Wb ?_;exact aM 3
   refine Za rfl ?_;refine' bW 2 (s:=42) (p:=44) rfl (fun rB=>?_) (fun rB=>?_) ?_;rotate_left
   ·refine Zg rfl (fun D8 hD8=>DF _ (hV.up (hD8 _ Ye)))<|Zak rfl ?_;exact aM 1
   ·refine Zh rfl<|Zal rfl ?_;exact aM 1
   refine Wi ?_;exact aE rfl fun D hD=>bLE Value.bool (by rw[vT hc2];simp[AZ])
  ·have hf0:gX ls=0:=Classical.not_not.1 hc2;refine aQ<|aA<|Za rfl<|Zaa rfl (fun D9 hB=>aRK _ ls _ (hS.up RS.up (hB _ Ye)) Yd fun x hx=>by have:=U x hx;omega) (fun v9 D9 hB hp9=>?_)
   obtain⟨u1,u2,rfl,⟨pv2,cv2,hv2,lv2,mv2,bl2,bc2,yc2,yq2,rfl,hE⟩,hF⟩:=hp9;unfold cZ;refine Za rfl<|Zaq rfl<|Zaq rfl<|Zad rfl G3 rfl fun q2=>Zz rfl gR ζ (fP hE)<|Zk rfl<|bS<|bE [] 7 17 1552<|Za rfl<|Wbd ?_;refine' bW 4 (s:=52) (p:=56) rfl (fun hg5=>?_) (fun hg5=>?_) ?_;rotate_left
   ·refine Zb rfl<|Zb rfl<|Zg rfl (fun D10 I=>ER _ _ (aT ls).2.1 (nD ls).2 _ (hes.up RI.up (I _ Ye)) (hF.up RI.up (I _ Ye)))<|Zak rfl ?_;exact aM 3
   ·refine Wb ?_;exact aM 3
   refine Za rfl ?_;refine' bW 5 (s:=57) (p:=62) rfl (fun hg6=>?_) (fun hg6=>?_) ?_;rotate_left
   ·refine bL rfl kG rfl Mm1 eE n4 rfl ⟨_,rfl,rfl⟩<|bL rfl mL rfl Mm0 gR n4 rfl ⟨_,rfl,rfl⟩<|WY rfl rfl rfl (fun D11 O=>aAR _ (nD ls).1 _ ⟨pv2,cv2,hv2,lv2,mv2,bl2,bc2,yc2,yq2,rfl,hE.up (O _ Ye)⟩ (X8 ls) (by rw[(ZJ ls).bk.2.2];exact bQA _)) rfl ⟨_,rfl,rfl⟩ fun v11 D11 O hH=>?_;have hsg:=hH;refine Zg rfl (fun D12 R=>LV _ _ (aT ls).1 (nD ls).1 _ ⟨pv,cv,hv,lv,mv,bl,bc,yc,yq,rfl,hL.up (R _ Ye)⟩ (hsg.up (R _ Ye)))<|Zak rfl ?_;exact l3 fun a w hh=>(hh.cutK 4 rfl).ds fun _ h=>bLP _ (h)
   ·refine Zh rfl<|Wb ?_;exact aM 4
   refine Za rfl ?_;refine' bW 2 (s:=63) (p:=65) rfl (fun hg7=>?_) (fun hg7=>?_) ?_;rotate_left
   ·refine Zg rfl (fun D13 hI=>DF _ (hV.up (hI _ Ye)))<|Zak rfl ?_;exact aM 1
   ·refine Zh rfl<|Zal rfl ?_;exact aM 1
   refine We ?_;exact aE rfl fun D hD=>bLE Value.bool (by rw[rV hf0];simp[AZ])
end L12
end Go.Fs
