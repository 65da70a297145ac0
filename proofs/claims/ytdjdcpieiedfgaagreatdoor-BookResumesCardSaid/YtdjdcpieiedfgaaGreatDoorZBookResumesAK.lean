/- Of BookResumes. -/
import Derived.Test.YtdjdcpieiedfgaaGreatDoorZBookResumesAJ
import Derived.Lib.ConvBytes
namespace Go.Fs
open Go.Proofs Tryz
namespace L12
open C12 Go.Lib
section
variable{G G':List Λ}{w:Λ}{act:eH}{s s':aM}{ns:List Int}{e:Int}
theorem bT.neg(h:bT G w act s ns e s')(he:e<0):e= -1∧s'=s∧w∉G:=by
 rcases h with h|⟨h,_⟩|⟨h,_⟩
 ·exact h
 ·omega
 ·omega
theorem bT.add(h:bT G' w act s ns e s')(h0:w∉G):bT (G++G') w act s ns e s':=by
 rcases h with⟨h1,h2,h3⟩|h
 ·exact bNI ⟨h1,h2,fun hm=>(bNH.1 hm).elim h0 h3⟩
 ·exact bNC h
theorem bT.keep(h:bT G w act s ns e s')(he:¬e<0):bT G' w act s ns e s':=by
 rcases h with⟨h1,_⟩|h
 ·omega
 ·exact bNC h
theorem bT.zero(h:bT G w act s ns e s')(he:e=0):act s ns=.ok s':=by
 rcases h with⟨h,_⟩|⟨_,h⟩|⟨h,_⟩
 ·omega
 ·exact h
 ·omega
theorem bT.errs(h:bT [w] w act s ns e s')(he:¬e=0):act s ns=.error e:=by
 rcases h with⟨_,_,h⟩|⟨h,_⟩|⟨_,h⟩
 ·exact absurd bMV h
 ·omega
 ·exact h
end
theorem aTN{o:Option (List Int)}{b:Bool}{Q:List Int→Prop}(h:match o with|some ns=>b=true∧Q ns|none=>b=false)(hb:b=true):∃ns,o=some ns∧Q ns:=by
 cases o with
 |none=>rw[hb]at h;cases h
 |some ns=>exact⟨ns,rfl,h.2⟩
theorem XO{line:Λ}{ns:List Int}(h:iQ line.data.toList=some ns):∃p0 ps act,eA line=p0::ps∧F0 p0 ns act∧jO line=some (act,ns):=by
 obtain⟨p0,ps,hc⟩:=pD line;rw[i6 hc]at h;split at h
 ·rename_i hm;unfold T4 at hm;split at hm
  ·rename_i l k act hf;have hk:ps.length=k:=Yd
   have hl:ns.length=ps.length:=by have h8:=IE (ps:=eL ps) (by rw[X6];exact h);rwa [X2]at h8
   have e:l=p0.data.toList:=by have:=List.find?_some hf;simpa using this
   refine⟨p0,ps,act,hc,?_,d9 hc hf hk h⟩;unfold F0;rw[hf,e,hl,hk]
  ·omega
 ·cases h
theorem IK{line:Λ}(h:iQ line.data.toList=none):jO line=none:=by
 obtain⟨p0,ps,hc⟩:=pD line;rw[i6 hc]at h;rw[uR hc];unfold T4 at h;split
 ·rfl
 ·rename_i l k act hf;rw[hf]at h;simp only at h;split
  ·rename_i hk;rw[bNK Yd]at h;rw[h];rfl
  ·rfl
theorem XS{line:Λ}{act:eH}{n:List Int}{s I:aM}(h:jO line=some (act,n))(hk:lY s)(hg:kG s)(ha:act s n=.ok I):kG I:=by
 obtain⟨x,hx,rfl⟩:=FU h;exact HP x hx s n I hk hg (O0 h) ha
theorem XN{q:Nat}{s:aM}{nv:Γ}{w:Λ}{ns:List Int}{act:eH}{ν:aD}{D:aC}(hn:Sl D RI 1 nv ns)(hact:F0 w ns act)(hr:∀x∈ns,0≤x∧x≤999)(hk:lY s)(hg:kG s)(h:pQ aIJ D q s ν):kH prog 105 [qP q,.string w,nv] D ν (fun D' v ν'=>∃(e:Int) (s':aM),v=qI e∧bT uF w act s ns e s'∧pQ aIJ D' q s' ν') (fun _=>False):=by
 obtain⟨pv,cv,hv,lv,mv,bl,bc,yc,yq,ν1,ν2,ν3,ν4,ν5,ν6,ν7,ν8,rfl,hO⟩:=h;refine kH.reorder ((ZL q s pv cv hv lv mv bl bc yc yq nv w ns act ν1 ν2 D hn hact hr hk hg hO.pl hO.ct).frameB (ν8++(ν7++(ν6++(ν5++(ν4++(ν3))))))) Yj ?_ fun _ h=>h;rintro D' v _ hle ⟨_,⟨e,r,rfl,hP,pv',cv',μ1,μ2,rfl,I,O⟩,rfl⟩;exact⟨_,Yy,e,_,rfl,hP,pv',cv',hv,lv,mv,bl,bc,yc,yq,μ1,μ2,ν3,ν4,ν5,ν6,ν7,ν8,rfl,⟨I,O,hO.ht,hO.lev,hO.mks,hO.ln,hO.cn.up vK.up hle,hO.ch,hO.cl⟩⟩
theorem aVT{q:Nat}{s:aM}{nv:Γ}{w:Λ}{ns:List Int}{act:eH}{ν:aD}{D:aC}(hn:Sl D RI 1 nv ns)(hact:F0 w ns act)(hr:∀x∈ns,0≤x∧x≤999)(hk:lY s)(hg:kG s)(h:pQ aIJ D q s ν):kH prog 106 [.pointer (some ⟨q,4,none⟩),.string w,nv] D ν (fun D' v ν'=>∃(e:Int) (s':aM),v=qI e∧bT Z6 w act s ns e s'∧pQ aIJ D' q s' ν') (fun _=>False):=by
 obtain⟨pv,cv,hv,lv,mv,bl,bc,yc,yq,ν1,ν2,ν3,ν4,ν5,ν6,ν7,ν8,rfl,hO⟩:=h;refine kH.reorder ((aRC q s pv cv hv lv mv bl bc yc yq nv w ns act ν3 ν4 ν5 D hn hact hr hk hg hO.ht hO.lev hO.mks).frameB (ν8++(ν7++(ν6++(ν2++(ν1)))))) Yj ?_ fun _ h=>h;rintro D' v _ hle ⟨_,⟨e,r,rfl,hP,hv',lv',mv',μ3,μ4,μ5,rfl,I,O,R⟩,rfl⟩;exact⟨_,Yw,e,_,rfl,hP,pv,cv,hv',lv',mv',bl,bc,yc,yq,ν1,ν2,μ3,μ4,μ5,ν6,ν7,ν8,rfl,⟨hO.pl,hO.ct,I,O,R,hO.ln,hO.cn.up vK.up hle,hO.ch,hO.cl⟩⟩
theorem aMC{q:Nat}{s:aM}{nv:Γ}{w:Λ}{ns:List Int}{act:eH}{ν:aD}{D:aC}(hn:Sl D RI 1 nv ns)(hact:F0 w ns act)(hr:∀x∈ns,0≤x∧x≤999)(hk:lY s)(hg:kG s)(h:pQ aIJ D q s ν):kH prog 107 [.pointer (some ⟨q,9,none⟩),.string w,nv] D ν (fun D' v ν'=>∃(e:Int) (s':aM),v=qI e∧bT H7 w act s ns e s'∧pQ aIJ D' q s' ν') (fun _=>False):=by
 obtain⟨pv,cv,hv,lv,mv,bl,bc,yc,yq,ν1,ν2,ν3,ν4,ν5,ν6,ν7,ν8,rfl,hO⟩:=h;refine kH.reorder ((aHB q s pv cv hv lv mv bl bc yc yq nv w ns act ν6 D hn hact hr hk hg hO.ln).frameB (ν8++(ν7++(ν5++(ν4++(ν3++(ν2++(ν1)))))))) Yj ?_ fun _ h=>h;rintro D' v _ hle ⟨_,⟨e,r,rfl,hP,bl',μ6,rfl,I,hcq⟩,rfl⟩;exact⟨_,Yai,e,_,rfl,hP,pv,cv,hv,lv,mv,bl',bc,yc,yq,ν1,ν2,ν3,ν4,ν5,μ6,ν7,ν8,rfl,⟨hO.pl,hO.ct,hO.ht,hO.lev,hO.mks,I,by show Sl D' vK 3 bc r.counts;rw[hcq];exact hO.cn.up vK.up hle,hO.ch,hO.cl⟩⟩
theorem aKC{q:Nat}{s:aM}{nv:Γ}{w:Λ}{ns:List Int}{act:eH}{ν:aD}{D:aC}(hn:Sl D RI 1 nv ns)(hact:F0 w ns act)(I:w∉uF)(O:w∉Z6)(R:w∉H7)(hr:∀x∈ns,0≤x∧x≤999)(hk:lY s)(hg:kG s)(h:pQ aIJ D q s ν):kH prog 108 [.pointer (some ⟨q,14,none⟩),.string w,nv] D ν (fun D' v ν'=>∃(e:Int) (s':aM),v=qI e∧bT [w] w act s ns e s'∧pQ aIJ D' q s' ν') (fun _=>False):=by
 obtain⟨pv,cv,hv,lv,mv,bl,bc,yc,yq,ν1,ν2,ν3,ν4,ν5,ν6,ν7,ν8,rfl,hO⟩:=h;refine kH.reorder ((aJQ q s pv cv hv lv mv bl bc yc yq nv w ns act ν7 ν8 D hn hact I O R hr hk hg hO.ch hO.cl).frameB (ν6++(ν5++(ν4++(ν3++(ν2++(ν1))))))) Yj ?_ fun _ h=>h;rintro D' v _ hle ⟨_,⟨e,r,rfl,hP,yc',yq',μ7,μ8,rfl,U,V⟩,rfl⟩;exact⟨_,Yah,e,_,rfl,hP,pv,cv,hv,lv,mv,bl,bc,yc',yq',ν1,ν2,ν3,ν4,ν5,ν6,μ7,μ8,rfl,⟨hO.pl,hO.ct,hO.ht,hO.lev,hO.mks,hO.ln,hO.cn.up vK.up hle,U,V⟩⟩
theorem bGU(sv:Γ)(s:aM)(line:Λ)(D:aC)(hs:gG D sv s)(hk:lY s)(hg:kG s)(hl:line.size≤1000):Fn prog 44 #[sv,.string line] D (fun D' v=>∃v1,v=.tuple #[v1,qI (pO s line).2]∧gG D' v1 (pO s line).1):=by
 have hs0:=hs;obtain⟨pv,cv,hv,lv,mv,bl,bc,yc,yq,rfl,hL⟩:=hs;unfold dO;refine Zw 56 func44 rfl fun h0=>aA<|Zz rfl fun q1 E1 hE1 Z=>Zah rfl L5 rfl fun O=>Zf rfl<|aJ<|Za rfl<|Zy rfl (fun D1 hD1=>BD line hl _) fun v1 D1 hD1 hp1=>?_;obtain⟨nv,nb,rfl,hm⟩:=hp1;refine Za rfl<|Zap rfl<|Zap rfl<|Zf rfl<|Zf rfl<|bC<|Za rfl<|Zat rfl<|aF<|Zaf rfl (fun hc1=>?_) fun hc1=>?_
 ·have hnone:=JQ Xaa hm;refine aA<|Zv rfl nF rfl Z hG<|Zac rfl hG ζ (eU hL)<|Wg ?_;exact Zo [_,_] rfl ⟨⟨_,_,_,rfl,Mm0,Or.inr ⟨nF,hG,rfl⟩⟩,rfl,bSM⟩ fun D' hD=>S2 (QX (IK hnone)) ⟨pv,cv,hv,lv,mv,bl,bc,yc,yq,rfl,hL.up (hD _ Yf)⟩
 ·obtain⟨ns,hns,hnS⟩:=aTN hm Xaa;obtain⟨p0,ps,act,hcut,hfw,hpa⟩:=XO hns;have hr:=O0 hpa;have hp0:(eA line)[0]?= some p0:=by rw[hcut];rfl
  have hcl:=P6 line;refine aQ<|aA<|Zv rfl nF rfl Z hG<|fX rfl rfl rfl (fun D20 hI=>XB _ s _ (hs0.up (hI _ Yf)) hk.small) rfl bSM fun v20 D21 νC hD21 hw=>?_;obtain⟨cs,νD,νz,rfl,rfl,hJ,hcc,hown⟩:=hw;refine Zah rfl L5 rfl fun q3=>eF rfl rfl rfl rfl hG hJ Ybb .head hcc bSM<|bO<|MR (((q3,qC cs 66)::νD)++(νz++[(O,_)])) bMJ ?_;have hO:=hown q3;generalize (q3,Obj.cells cs.toArray 66 (0,0))::νD=νW at hO ⊢
  refine aUR (List.Sublist.append Mm5 (List.sublist_append_right _ _))<|aO<|Za rfl<|Zy rfl (fun D2 hD2=>u6 line hl _) fun v2 D2 hD2 hp2=>?_;have hwd:=hp2;refine Zx rfl U22 fU rfl hwd rfl hp0 fun b1 o1 cs1 hr1 hcl1 hA1=>?_;obtain rfl:cs1=[.string _]:=hr1;refine Zh 0 rfl sZ rfl hA1 rfl<|Zf rfl<|aJ<|Zj rfl uW rfl<|Za rfl<|Za rfl<|Zm [] [(O,_)] νW rfl (Z5 hO) (fun D30 R=>XN (hnS.up RI.up (R _ Yf)) hfw hr hk hg (hO.up (R _ Yf))) (fun _ _ _ h=>h.elim) fun v30 D31 hK R hN=>?_;obtain⟨e,I,rfl,hP,hO⟩:=hN;refine Zf rfl<|aF<|aAZ (γ:=Int×aM×aD×aC) (fun g=>pQ aIJ g.2.2.2 q3 g.2.1 g.2.2.1∧bT (uF++Z6) p0 act s ns g.1 g.2.1) (fun g=>[(10,qI g.1),(9,.string p0),(6,nv),(8,qP q3),(4,qP O),(2,qP q1)]) (fun g=>g.2.2.1++[(O,qC [qN,qN,qI 0,qI 0,qI 0,qN,qI 0,qN,qN,qI 0,qI 0,qI 0,qN,qN,qN,qI 0,qN] 66)]) (fun g=>[g.2.2.2,D1,E1,D]) ?_ ?_
  ·refine aA<|Za rfl<|Zan rfl<|aF<|Zae rfl (fun hc2=>?_) (fun hc2=>?_)
   ·obtain⟨he2,hs2,hn2⟩:=hP.neg hc2;rw[hs2]at hO;refine aO<|Zj rfl oF rfl<|Za rfl<|Za rfl<|Zm [] [(O,_)] hK rfl (Z5 hO) (fun D40 U=>aVT (hnS.up RI.up (U _ Yf)) hfw hr hk hg (hO.up (U _ Yf))) (fun _ _ _ h=>h.elim) fun v40 D41 ν40 U hR=>?_;obtain⟨e,I,rfl,hP,hO⟩:=hR;refine Zf rfl<|Zao<|P1 ?_;exact fun a w hh=>⟨(e,I,ν40,D41),⟨hO,hP.add hn2⟩,hh.weak cF Mm5 Yq⟩
   ·refine bG<|P1 ?_;exact fun a w hh=>⟨(e,I,hK,D31),⟨hO,hP.keep hc2⟩,hh.weak cF Mm5 Yq⟩
  rintro⟨e,I,ν,Dn⟩ ⟨hO,hP⟩;dsimp only at hO hP ⊢
  refine aAZ (γ:=Int×aM×aD×aC) (fun g=>pQ aIJ g.2.2.2 q3 g.2.1 g.2.2.1∧bT ((uF++Z6)++H7) p0 act s ns g.1 g.2.1) (fun g=>[(10,qI g.1),(9,.string p0),(6,nv),(8,qP q3),(4,qP O),(2,qP q1)]) (fun g=>g.2.2.1++[(O,qC [qN,qN,qI 0,qI 0,qI 0,qN,qI 0,qN,qN,qI 0,qI 0,qI 0,qN,qN,qN,qI 0,qN] 66)]) (fun g=>[g.2.2.2,D1,E1,D]) ?_ ?_
  ·refine aA<|Za rfl<|Zan rfl<|aF<|Zae rfl (fun hc3=>?_) (fun hc3=>?_)
   ·obtain⟨he3,hs3,hn3⟩:=hP.neg hc3;rw[hs3]at hO;refine aO<|Zj rfl J8 rfl<|Za rfl<|Za rfl<|Zm [] [(O,_)] ν rfl (Z5 hO) (fun D50 V=>aMC (hnS.up RI.up (V _ Yf)) hfw hr hk hg (hO.up (V _ Yf))) (fun _ _ _ h=>h.elim) fun v50 D51 ν50 V hS=>?_;obtain⟨e,I,rfl,hP,hO⟩:=hS;refine Zf rfl<|Zao<|P1 ?_;exact fun a w hh=>⟨(e,I,ν50,D51),⟨hO,hP.add hn3⟩,hh.weak cF Mm5 Yq⟩
   ·refine bG<|P1 ?_;exact fun a w hh=>⟨(e,I,ν,Dn),⟨hO,hP.keep hc3⟩,hh.weak cF Mm5 Yq⟩
  rintro⟨e,I,ν,Dn⟩ ⟨hO,hP⟩;dsimp only at hO hP ⊢
  refine aAZ (γ:=Int×aM×aD×aC) (fun g=>pQ aIJ g.2.2.2 q3 g.2.1 g.2.2.1∧bT [p0] p0 act s ns g.1 g.2.1) (fun g=>[(10,qI g.1),(9,.string p0),(6,nv),(8,qP q3),(4,qP O),(2,qP q1)]) (fun g=>g.2.2.1++[(O,qC [qN,qN,qI 0,qI 0,qI 0,qN,qI 0,qN,qN,qI 0,qI 0,qI 0,qN,qN,qN,qI 0,qN] 66)]) (fun g=>[g.2.2.2,D1,E1,D]) ?_ ?_
  ·refine aA<|Za rfl<|Zan rfl<|aF<|Zae rfl (fun hc4=>?_) (fun hc4=>?_)
   ·obtain⟨he4,hs4,hB⟩:=hP.neg hc4;rw[hs4]at hO;simp only[bNH,bSF]at hB;refine aO<|Zj rfl oA rfl<|Za rfl<|Za rfl<|Zm [] [(O,_)] ν rfl (Z5 hO) (fun D60 Y=>aKC (hnS.up RI.up (Y _ Yf)) hfw hB.1.1 hB.1.2 hB.2 hr hk hg (hO.up (Y _ Yf))) (fun _ _ _ h=>h.elim) fun v60 D61 ν60 Y hX=>?_;obtain⟨e,I,rfl,hP,hO⟩:=hX;refine Zf rfl<|Zao<|P1 ?_;exact fun a w hh=>⟨(e,I,ν60,D61),⟨hO,hP⟩,hh.weak cF Mm5 Yq⟩
   ·refine bG<|P1 ?_;exact fun a w hh=>⟨(e,I,ν,Dn),⟨hO,hP.keep hc4⟩,hh.weak cF Mm5 Yq⟩
  rintro⟨e,I,ν,Dn⟩ ⟨hO,hP⟩;dsimp only at hO hP ⊢
  refine bZ<|Za rfl<|Zas rfl<|aF<|Zae rfl (fun hE=>?_) fun hE=>?_
  ·have hact:=hP.zero hE;have hY:=FA hpa hk hact;have hg2:=XS hpa hk hg hact;refine BE (T:=aIJ) (B:=[(_,_)]) hO rfl Yf hY.small fun D9 rA rB hv2 lv2 mv2 bl2 bc2 yc2 yq2 hD9 hF=>?_;unfold dO;refine aO<|Zag rfl nF rfl Mm0 hG<|Zd rfl (fun D3 hD3=>ZF _ I _ ⟨rA,rB,hv2,lv2,mv2,bl2,bc2,yc2,yq2,rfl,hF.up (hD3 _ Yf)⟩ hY hg2)<|Zf rfl<|bC<|Za rfl<|Zax rfl<|aF<|Zae rfl (fun hH=>?_) (fun hH=>?_)
   ·refine aA<|Zv rfl nF rfl Z hG<|Za rfl<|Zac rfl hG (.tail ζ) (eU hL)<|Wg ?_;exact Zo [_,_] rfl ⟨⟨_,_,_,rfl,Mm1,Or.inr ⟨nF,hG,rfl⟩⟩,rfl,bSM⟩ fun D' hD=>S2 (aOT hpa hact hH) ⟨pv,cv,hv,lv,mv,bl,bc,yc,yq,rfl,hL.up (hD _ Yf)⟩
   ·refine aQ<|aA<|Zag rfl nF rfl Mm0 hG<|Zac rfl hG (.tail ζ) (eU hF)<|We ?_;exact Zo [_,_] rfl ⟨⟨_,_,_,rfl,Mm1,Or.inr ⟨nF,hG,rfl⟩⟩,rfl,bSM⟩ fun D' hD=>S2 (aEX hpa hact (Classical.not_not.1 hH)) ⟨rA,rB,hv2,lv2,mv2,bl2,bc2,yc2,yq2,rfl,hF.up (hD _ Yf)⟩
  ·refine aQ<|bZ<|Za rfl<|Zax rfl<|aF<|Zae rfl (fun hc7=>?_) (fun hc7=>?_)
   ·refine aA<|Zv rfl nF rfl Z hG<|Za rfl<|Zac rfl hG (.app ζ) (eU hL)<|Wg ?_;exact Zo [_,_] rfl ⟨⟨_,_,_,rfl,(GE _ Mm0),Or.inr ⟨nF,hG,rfl⟩⟩,rfl,bSM⟩ fun D' hD=>S2 (aNN hpa (hP.errs hE)) ⟨pv,cv,hv,lv,mv,bl,bc,yc,yq,rfl,hL.up (hD _ Yf)⟩
   ·exact(hc7 hE).elim
theorem aOK(lv:Γ)(ls:List Λ)(D:aC)(hS:Sl D RS 1 lv ls)(hn:ls.length≤1000)(hsz:∀l∈ls,l.size≤1000):Fn prog 15 #[lv] D (fun D' v=>∃v1 v2,v=.tuple #[v1,v2]∧gG D' v1 (gK ls).1∧Sl D' RI 1 v2 (gK ls).2):=by
 refine Zw 30 func15 rfl fun h0=>aA<|Zah rfl L5 rfl fun q1=>Zf rfl<|aJ<|Zy rfl (fun D1 V=>aKI _) fun v1 D1 V Y=>?_;obtain⟨pv,cv,hv,O,mv,bl,bc,yc,yq,rfl,hL⟩:=Y;unfold dO;refine Zah rfl L5 rfl (fun q2=>Zac rfl hG ζ (eU hL)<|aJ<|Zf rfl<|bC<|Zf rfl<|aF<|Za1<|gT (γ:=bEZ) (fun g=>ls.length-g.k) (fun g=>g.k≤ls.length∧gK (ls.take g.k)=(g.s,g.es)∧g.es.length=g.k∧bI 3 1 g.v g.k (ints g.es) g.ν∧jR g.Dn g.s g.pv g.cv g.hv g.lv g.mv g.bl g.bc g.yc g.yq∧(lY g.s∧kG g.s)) (fun g=>[(6,qI (g.k:Int)),(5,g.v)]) [(4,_),(3,_),(2,_),(0,_)] (fun g=>g.ν++[(q2,qC (dO g.s g.pv g.cv g.hv g.lv g.mv g.bl g.bc g.yc g.yq) 66),(q1,qC [qN,qN,qI 0,qI 0,qI 0,qN,qI 0,qN,qN,qI 0,qI 0,qI 0,qN,qN,qN,qI 0,qN] 66)]) (fun g=>[g.Dn,D]) ⟨0,vN,[],pv,cv,hv,O,mv,bl,bc,yc,yq,qN,[],D1⟩ ⟨Yf,by simp[gK],rfl,Xap,hL,V3,ZP⟩ ⟨Ya,Ya,bSM⟩ cF Mm5 (Yo) ?_);rintro⟨k,s,es,pv,cv,hv,lv,mv,bl,bc,yc,yq,v,ν,Dn⟩ ⟨h1,hp,h3,ha,hL,hk⟩;simp only at h1 hp h3 ha hL hk;refine bZ<|Za rfl<|Za rfl<|Zai rfl U22 rfl hS rfl<|Zan rfl<|aF<|Zae rfl (fun hc1=>?_) fun hc1=>?_
 ·simp only at hc1;have hlt:k<ls.length:=Yd
  obtain⟨x,hx⟩:=cT ls k;refine aQ<|Za3<|Za1<|aA<|Zf rfl<|bO<|bN [] 4 11 30<|Zag rfl nF rfl (GE _ Mm0) hG<|Za rfl<|Za rfl<|Zx rfl U22 fU rfl (hS.up RS.up (Le.refl _)) rfl hx fun b1 o1 Z hB hcl1 hE=>?_;obtain rfl:Z=[.string _]:=hB;refine Zh 0 rfl sZ rfl hE rfl<|Zy rfl (fun D2 R=>bGU _ s x _ ⟨pv,cv,hv,lv,mv,bl,bc,yc,yq,rfl,hL.up (R _ Yf)⟩ hk.1 hk.2 (hsz x (n5 hx))) fun v2 D2 R hF=>?_;obtain⟨w1,rfl,hH,hI,hJ,O,hK,hN,hO,hP,hR,rfl,U⟩:=hF;have hX:=And.intro (OY hk.1 x) (aXN hk.1 hk.2 x);unfold dO;refine Za rfl<|Zap rfl<|Zap rfl<|Zac rfl hG (.app ζ) (eU U)<|Zf rfl<|aF<|aO<|Za rfl<|Za rfl<|Zt rfl U25 aH cE rfl (.cons rfl rfl .nil) fun b901 D901 hY I=>?_;have rA:=Sl.ofInts (l:=[_]) (n:=1) (cap:=1) I rfl Yd Yd;refine aS (A:=[]) (B:=[(_,_),(_,_)]) rfl U25 rfl rfl aH cE rfl kD rfl rfl rfl ha (jY.lit I) Yf rfl (by simp[ints,h3]) Yk Yd (bNI rfl) rfl bSM fun v1 ν1 rB=>?_;have ha2:bI 3 1 v1 (k+1) (ints (es++[(pO s x).2])) ν1:=by rw[←eV];exact rB
  refine Wu ?_;exact aL 25 ⟨k+1,(pO s x).1,es++[(pO s x).2],hH,hI,hJ,O,hK,hN,hO,hP,hR,v1,ν1,D2⟩ ⟨Yn,by simp only;rw[DV hx,hp],by simp[h3],ha2,U,hX⟩ Yn ⟨Ya,Ya,bSM⟩ rfl rfl Mm5 (Yo)
 ·obtain rfl:k=ls.length:=by simp only at hc1;omega
  rw[bNR]at hp;refine Za6<|Za2<|Za2<|Za7<|Zaz<|aA<|Zag rfl nF rfl (GE _ Mm0) hG<|Za rfl<|Zac rfl hG (.app (.tail ζ)) (eU hL)<|Zf rfl<|aG<|dS (A:=[]) (B:=[(_,_),(_,_)]) ha rfl fun D9 hD9 hF9=>?_;have hes:=hF9.ints (l:=es) h3 Yd;exact Zo [_,_] rfl ⟨⟨_,_,_,rfl,bNM _ Mm0,bNC ⟨nF,hG,rfl⟩⟩,rfl,bSM⟩ fun D hD=>⟨_,_,rfl,Xdi,by rw[hp];exact hes.up RI.up (hD _ Yf)⟩
def xJ:Nat→Nat→List UInt8
 |_,0=>[]
 |n,k+1=>xJ (n / 10) k++[UInt8.ofNat (48+n%10)]
theorem UP:∀(k n:Nat),(xJ n k).length=k
 |0,_=>rfl
 |k+1,n=>by rw[xJ,LE,UP k];rfl
theorem uT(k n:Nat):(rF (xJ n k)).size=k:=by rw[yT,UP]
theorem i7{n:Int}(h:0≤n){k:Nat}:rF (xJ (n / 10).toNat k)++rF (itoa (n%10))=rF (xJ n.toNat (k+1)):=by
 obtain⟨m,rfl⟩:=Int.eq_ofNat_of_zero_le h;rw[ZK Yd Yd,xJ,show((m:Int) / 10).toNat=(m:Int).toNat / 10 by omega,show((m:Int)%10).toNat=(m:Int).toNat%10 by omega];apply Go.WideShapes.bytes_inj;simp[rF]
theorem aTV{i:Nat}{s:Λ}:((((rF (xJ ((s.size:Nat):Int).toNat 2)++⟨#[59]⟩)++s)++⟨#[59]⟩)++rF (xJ ((jU i s.data.toList:Nat):Int).toNat 4))++⟨#[10]⟩=rF (fE i s.data.toList):=by
 apply Go.WideShapes.bytes_inj;simp[rF,fE,qK,xJ,nS,Nat.div_div_eq_div_mul]
theorem IW(i:Nat)(s:Λ):(rF (fE i s.data.toList)).size=9+s.size:=by rw[yT,mU];rfl
theorem aLR{ls:List Λ}{k:Nat}{x:Λ}(h:ls[k]?= some x):rF (rG ((eL ls).take k))++rF (fE k x.data.toList)=rF (rG ((eL ls).take (k+1))):=by
 rw[EB (DS h)];apply Go.WideShapes.bytes_inj;simp[rF]
theorem EM{ls:List Λ}(k:Nat)(hn:ls.length≤100)(hsz:∀x∈ls,x.size≤50):(rF (rG ((eL ls).take k))).size≤6000:=by
 have h:=B0 ((eL ls).take k) 0 50 (fun l hl=>by
  obtain⟨x,hx,rfl⟩:=bMR.1 (bRT hl);exact hsz x hx)
 rw[yT];refine bPD h ?_;rw[bON,X2];omega
theorem aYI(n:Int)(_hz0:0≤n)(_hz1:n≤1000000)(D:aC):Fn prog 184 #[qI n,qI 0] D (fun _ v=>v=.string (rF (xJ n.toNat 0))):=by
 refine Zw 16 func184 rfl fun h0=>aA<|Zf rfl<|bC<|Za rfl<|Zas rfl<|aF<|Zae rfl (fun hc1=>?_) fun hc1=>?_
 ·refine Wci ?_;exact aE rfl fun D hD=>rfl
 ·exact(hc1 rfl).elim
theorem aWY(n:Int)(hz0:0≤n)(I:n≤1000000)(D:aC):Fn prog 184 #[qI n,qI 1] D (fun _ v=>v=.string (rF (xJ n.toNat 1))):=by
 refine Zw 16 func184 rfl fun h0=>aA<|Zf rfl<|bC<|Za rfl<|Zas rfl<|aF<|Zae rfl (fun hc1=>?_) fun hc1=>?_
 ·exact absurd hc1 Yt
 ·have U:=S3 (n:=n%10) Yd Yd;have z2:(rF (xJ (n / 10).toNat 0)).size=0:=uT _ _;refine aQ<|aA<|Za rfl<|j4 rfl rfl rfl Yd Yd Ye rfl bSM<|Za rfl<|Zav rfl<|Zd rfl (fun V O=>aYI (n / 10) Yd Yd _)<|Wt ?_;refine aG ?_;exact aE rfl fun D hD=>Xch
theorem aFD(n:Int)(hz0:0≤n)(I:n≤1000000)(D:aC):Fn prog 184 #[qI n,qI 2] D (fun _ v=>v=.string (rF (xJ n.toNat 2))):=by
 refine Zw 16 func184 rfl fun h0=>aA<|Zf rfl<|bC<|Za rfl<|Zas rfl<|aF<|Zae rfl (fun hc1=>?_) fun hc1=>?_
 ·exact absurd hc1 Yt
 ·have U:=S3 (n:=n%10) Yd Yd;have z2:(rF (xJ (n / 10).toNat 1)).size=1:=uT _ _;refine aQ<|aA<|Za rfl<|j4 rfl rfl rfl Yd Yd Ye rfl bSM<|Za rfl<|Zav rfl<|Zd rfl (fun V O=>aWY (n / 10) Yd Yd _)<|Wt ?_;refine aG ?_;exact aE rfl fun D hD=>Xch
theorem bDK(n:Int)(hz0:0≤n)(I:n≤1000000)(D:aC):Fn prog 184 #[qI n,qI 3] D (fun _ v=>v=.string (rF (xJ n.toNat 3))):=by
 refine Zw 16 func184 rfl fun h0=>aA<|Zf rfl<|bC<|Za rfl<|Zas rfl<|aF<|Zae rfl (fun hc1=>?_) fun hc1=>?_
 ·exact absurd hc1 Yt
 ·have U:=S3 (n:=n%10) Yd Yd;have z2:(rF (xJ (n / 10).toNat 2)).size=2:=uT _ _;refine aQ<|aA<|Za rfl<|j4 rfl rfl rfl Yd Yd Ye rfl bSM<|Za rfl<|Zav rfl<|Zd rfl (fun V O=>aFD (n / 10) Yd Yd _)<|Wt ?_;refine aG ?_;exact aE rfl fun D hD=>Xch
theorem bEQ(n:Int)(hz0:0≤n)(I:n≤1000000)(D:aC):Fn prog 184 #[qI n,qI 4] D (fun _ v=>v=.string (rF (xJ n.toNat 4))):=by
 refine Zw 16 func184 rfl fun h0=>aA<|Zf rfl<|bC<|Za rfl<|Zas rfl<|aF<|Zae rfl (fun hc1=>?_) fun hc1=>?_
 ·exact absurd hc1 Yt
 ·have U:=S3 (n:=n%10) Yd Yd;have z2:(rF (xJ (n / 10).toNat 3)).size=3:=uT _ _;refine aQ<|aA<|Za rfl<|j4 rfl rfl rfl Yd Yd Ye rfl bSM<|Za rfl<|Zav rfl<|Zd rfl (fun V O=>bDK (n / 10) Yd Yd _)<|Wt ?_;refine aG ?_;exact aE rfl fun D hD=>Xch
theorem aLM(i:Nat)(s:Λ)(hi:i≤100000)(hs:s.size≤1000)(D:aC):Fn prog 185 #[qI (i:Int),.string s] D (fun _ v=>v=qI ((jU i s.data.toList:Nat):Int)):=by
 refine Zw 28 func185 rfl fun h0=>aA<|Zf rfl<|aJ<|Za rfl<|Zad rfl<|F9 rfl rfl rfl Ye rfl bSM<|Zf rfl<|bC<|Zf rfl<|aF<|Za1 ?_;refine bM (γ:=Nat) (fun k=>s.size-k) (fun k=>k≤s.size) (fun k=>[(6,qI (k:Int)),(5,qI ((37*(i+1)+L0 0 (s.data.toList.take k):Nat):Int))]) [(4,_),(1,_)] (fun k=>[D]) 0 Yd ⟨Ya,Xdj,bSM⟩ cF (aK) ?_
 rintro k hI;refine bZ<|Za rfl<|Za rfl<|gR rfl U9 rfl rfl rfl bSM<|Zan rfl<|aF<|Zae rfl (fun hc1=>?_) fun hc1=>?_
 ·have hk:k<s.size:=Yd
  obtain⟨b,hb⟩:∃b,s.data.toList[k]?= some b:=⟨_,bMU Xay⟩
  have I:=b.toNat_lt;refine aQ<|Za3<|Za1<|aO<|Za rfl<|Za rfl<|F9 rfl rfl rfl Ye rfl bSM<|Zad rfl<|Za rfl<|Za rfl<|pN rfl U9 rfl rfl Yd Yay rfl bSM<|oU rfl U5 U3 rfl Ye rfl bSM ?_;refine F9 rfl rfl rfl (by have:=CU hb hs;simp only[wD];omega) rfl bSM<|oC rfl rfl rfl Xdk rfl bSM<|Wu ?_
  exact Zn 20 (k+1) ⟨(by rw[show((k:Int)+1)=((k+1:Nat):Int) by omega];rfl),Ybj,bSM⟩ rfl Mm5
 ·obtain rfl:k=s.size:=Yd
  have htk:s.data.toList.take s.size=s.data.toList:=bNV (show s.data.toList.length≤s.size by simp);have hsm:=QC (s:=s) (k:=s.size) hs;rw[htk]at hsm ⊢
  refine Za6<|Za2<|Za2<|Za7<|Zaz<|aA<|Za rfl<|sQ rfl rfl rfl Yd Yd Ye rfl bSM<|We ?_;exact aE rfl fun D hD=>Xcq
theorem HG(i:Nat)(s:Λ)(hi:i≤100000)(hs:s.size≤99)(D:aC):Fn prog 94 #[qI (i:Int),.string s] D (fun _ v=>v=.string (rF (fE i s.data.toList))):=by
 have hck:=MO i s.data.toList;have U:(rF (xJ ((s.size:Nat):Int).toNat 2)).size=2:=uT _ _;have z2:(rF (xJ ((jU i s.data.toList:Nat):Int).toNat 4)).size=4:=uT _ _;have z3:(⟨#[59]⟩:Λ).size=1:=rfl;have z4:(⟨#[10]⟩:Λ).size=1:=rfl;refine Zw 18 func94 rfl fun h0=>aA<|Zf rfl<|aJ<|Za rfl<|gR rfl U9 rfl rfl rfl bSM<|Zd rfl (fun V I=>aFD ((s.size:Nat):Int) Yd Yd _)<|gS rfl rfl rfl Yat rfl bSM<|Za rfl<|gS rfl rfl rfl Yat rfl bSM<|gS rfl rfl rfl Yat rfl bSM<|Za rfl ?_;refine Za rfl<|Zd rfl (fun Y O=>aLM i s hi Yd _)<|Zd rfl (fun Z R=>bEQ ((jU i s.data.toList:Nat):Int) Yd Yd _)<|gS rfl rfl rfl Yat rfl bSM<|gS rfl rfl rfl Yat rfl bSM<|We ?_;exact aE rfl fun D hD=>by show Value.string _=_;rw[aTV]
theorem aVM(lv:Γ)(ls:List Λ)(D:aC)(hS:Sl D RS 1 lv ls)(hn:ls.length≤100)(hsz:∀x∈ls,x.size≤50):Fn prog 32 #[lv] D (fun _ v=>v=.string (rF (rG (eL ls)))):=by
 refine Zw 20 func32 rfl fun h0=>aA<|Zf rfl<|aJ<|Zf rfl<|bC<|Zf rfl<|aF<|Za1<|bM (γ:=Nat) (fun k=>ls.length-k) (fun k=>k≤ls.length) (fun k=>[(4,qI (k:Int)),(3,.string (rF (rG ((eL ls).take k))))]) [(2,_),(0,_)] (fun k=>[D]) 0 Yf ⟨Ya,Ya,bSM⟩ cF (aK) ?_;rintro k h1;refine bZ<|Za rfl<|Za rfl<|Zai rfl U22 rfl hS rfl<|Zan rfl<|aF<|Zae rfl (fun hc1=>?_) fun hc1=>?_
 ·have hk:k<ls.length:=Yd
  obtain⟨x,hx⟩:=cT ls k;have U:=hsz x (n5 hx);have hfz:=EM k hn hsz;have hrz:=IW k x;refine aQ<|Za3<|Za1<|aO<|Za rfl<|Za rfl<|Za rfl<|Za rfl<|Zx rfl U22 fU rfl hS rfl hx fun Z o1 I O V R=>?_;obtain rfl:I=[.string _]:=O;refine Zh 0 rfl sZ rfl R rfl<|Zd rfl (fun D1 Y=>HG k x Yd Yd _)<|gS rfl rfl rfl Yat rfl bSM<|Wu ?_;exact Zn 18 (k+1) ⟨(by rw[show((k:Int)+1)=((k+1:Nat):Int) by omega];rfl),(by show some (Value.string _)=some (Value.string _);rw[aLR hx]),bSM⟩ rfl Mm5
 ·obtain rfl:k=ls.length:=Yd
  refine Wm ?_;exact aE rfl fun D hD=>by show Value.string _=_;rw[bNV (by rw[X2];exact bNJ _)]
end L12
open Go.Lib
variable{P:Program}{X:Cx}{γb:Type}[Membership Nat γb]{bad:γb}{all:Array Oper}{K:Act→Δ→Prop}{Q:Exit→Act→Δ→Prop}
variable{σ:bU}{μ:aD}{Ds:List aC}{os:List (Bool×Nat)}{fl:Bool}{ix:Nat}
variable{d:Nat}{x y z:Operand}{u v:Γ}{ty:Θ}{pos:String}{aft:Array Edge}{g:Option (Nat×Bool)}
theorem iT.pushW{h0:H0}{lo:Nat}{D0 D:aC}{mods:List Nat}{μ:aD}{w w':Δ}(h:iT h0 lo D0 mods μ D w)(vs:List Γ){e:Θ}{fz:Nat×Nat}(hold:∀b,b<w.heap.size→w'.heap[b]?= w.heap[b]?)(hnew:w'.heap[w.heap.size]?= some (.cells vs.toArray e fz))(hsz:w'.heap.size=w.heap.size+1)(henv:IV w'=IV w):
  ∃D',Le D D'∧D' w.heap.size=vs∧(∀b,b≠w.heap.size→D' b=D b)∧iT h0 lo D0 mods μ D' w':=by
 have hf:=h.agr.fresh (bNJ w.heap.size);refine⟨fun b=>if b=w.heap.size then vs else D b,⟨fun b=>?_,Xbo⟩,Yf,(fun b hb=>by simp[hb]),?_⟩
 ·by_cases hb:b=w.heap.size
  ·subst hb;rw[hf];exact bRW
  ·simp[hb]
 ·have hle:=bPD h.hlo h.size;refine⟨h.hlo,by have:=h.size;omega,fun b hb hm=>?_,fun b hb=>?_,h.agr.of (fun b hb=>?_) Xbo (hold 0 h.agr.pos),fun p hp=>?_,h.nd,h.fz,fun e he=>henv.trans (h.env e he)⟩
  ·rw[hold b (bPO hb hle)];exact h.old b hb hm
  ·have hne:b≠w.heap.size:=Yd
   simp only[hne,bPL];exact h.dold b hb
  ·by_cases he:b=w.heap.size
   ·subst he;exact⟨vs.toArray,e,fz,hnew,Yf⟩
   ·simp only[he,bPL]at hb ⊢
    obtain⟨cs,e',fz',hc,hp⟩:=h.agr.1 b hb;exact⟨cs,e',fz',by rw[hold b (bJ hc)];exact hc,hp⟩
  ·obtain⟨h1,h2,h3⟩:=h.box p hp;have hl:=bJ h1;refine⟨by rw[hold p.1 hl];exact h1,?_,h3⟩
   have hne:p.1≠w.heap.size:=Yd
   simp only[hne,bPL];exact h2
theorem aAU{r:Option Nat}{n:Nat}{K:Act→Δ→Prop}(is2:List Nat)(hK:∀a w,K a w→wpOpsIn (FW r) n P all Q is2 a w):∀(os:List (Bool×Oper)) (is:List Nat),is.map (fun i=>all[i]?)=os.map (fun o=>some o.2)→
  ∀a w,tM r bad P all K Q os a w→wpOpsIn (FW r) n P all Q (is++is2) a w:=by
 intro os;induction os with
 |nil=>intro is h a w H;cases is with|nil=>exact hK _ _ H|cons=>simp at h
 |cons o os ih=>
  intro is h a w H;cases is with
  |nil=>simp at h
  |cons i is=>
   obtain⟨fl,o⟩:=o;simp only[bNT,bPN]at h;rw[bPF,wpOpsIn_cons];simp only[tM]at H;split at H
   ·rename_i hq;obtain⟨v,hy,H⟩:=H;exact hy.run hq h.1 (ih is h.2 _ _ H)
   ·unfold wpOpIn;simp only[h.1];unfold T1 at H;split at H
    ·rename_i hw;rw[bNK hw];exact EP (Oper.wpIn_mono (fun a w hh=>ih is h.2 _ _ hh.2) H)
    ·rename_i hw;rw[bNA hw];exact⟨fun _ _=>trivial,ih is h.2 _ _ H⟩
theorem X5:∀{is:List Nat},(∀i∈is,i<all.size)→is.map (fun i=>all[i]?)=(iS all (is.map fun i=>(false,i))).map fun o=>some o.2
 | [],_=>rfl
 |i::is,h=>by
  obtain⟨o,hi⟩:∃o,all[i]?= some o:=⟨_,bQR (h i bMV)⟩
  rw[bNT,bNT,vT hi,bNT,hi,X5 fun j hj=>h j (bMT _ hj)]
theorem aMQ(k:Nat){id:Nat}{ops:Array Oper}(hk:k<ops.size)(h:WL P X [] ops (fun a w=>wpOpsIn (FW X.r) 0 P ops Q (k::(List.range ops.size).drop (k+1)) a w) Q ((List.range k).map fun i=>(false,i)) σ μ Ds):WC P X Q (.region id ops false) σ μ Ds:=fun a w hh=>by
 have e:List.range ops.size=List.range k++k::(List.range ops.size).drop (k+1):=by
  have h1:=(bPJ k (List.range ops.size)).symm;rw[List.take_range,bQI Yd,bOF (by rw[bQW];exact hk),List.getElem_range]at h1
  exact h1
 refine wpIn_region ?_;rw[e];exact aAU _ (fun _ _ h=>h) _ _ (X5 fun i hi=>by have:=bOQ.1 hi;omega) _ _ (h a w hh)
theorem aXF{i:Nat}{rest:List Nat}{t1 t2 e:Θ}{s:Λ}(ho:all[i]?= some ⟨some d,.convert t1 t2 x,ty,pos,aft,g⟩)(h1:P.underlying t1=some .string)(h2:P.underlying t2=some (.slice e))(he:P.underlying e=some (.int .u8))(hx:ev σ x=some (.string s))(hs:s.size≤1000000000)(hv:∀i∈rest,i<all.size)(hN:Nat.blt d X.N=true)(hg:cQ all σ g)
  (kk:∀v D,(∀D₁∈Ds,Le D₁ D)→Sl D RU 1 v s.data.toList→WL P X [] all (fun a w=>Q .normal a w) Q (rest.map fun i=>(false,i)) ((d,v)::σ) μ (D::Ds)):∀a w,Hl X σ μ Ds a w→wpOpsIn (FW X.r) 0 P all Q (i::rest) a w:=by
 intro a w hh;obtain⟨I,k2,O,D,h4,h5,R⟩:=id hh;have hrun:(execOp a.eval ⟨some d,.convert t1 t2 x,ty,pos,aft,g⟩).run P w=.ok (.value (.slice (some ⟨w.heap.size,0,none⟩) s.size (grownCap w s.size 0 e))) (bytesWorld w e s):=by
  simp only[execOp,hh.eval hx];rw[Ω,Go.Lib.run_convert_string_bytes w t1 t2 e s h1 h2 he];rfl
 rw[wpOpsIn_cons];unfold wpOpIn;simp only[ho];rw[bNK (hh.wanted hg)];refine⟨fun _ _=>trivial,?_⟩;rw[J9 rfl,hrun];obtain⟨D',hle,hD',hDo,hs'⟩:=h4.pushW (bytesCells w e s).toList (fun b hb=>bytesWorld_at_old w e s b hb) (by rw[Array.toArray_toList];exact bytesWorld_at_new w e s) (bytesWorld_size w e s) rfl
 have hA:At D' w.heap.size 0 (bc s.data.toList):=fun j v hj=>by
  rw[hD',bQB];unfold bytesCells;rw[Array.toList_append,bPH]
  ·rw[bRE];exact hj
  ·have:=(bMW.1 hj).1;rw[mC]at this;rw[bRE,bOB];exact this
 have hS:Sl D' RU 1 (.slice (some ⟨w.heap.size,0,none⟩) s.size (grownCap w s.size 0 e)) s.data.toList:=
  Sl.of_at hA rfl (grownCap_ge w s.size 0 e) Yd fun i b hb=>⟨[.int .u8 b.toNat],rfl,rfl,by
   have h:=aOV hb;have hl:=(bMW.1 h).1;rw[bPK,bOF hl];rw[bMU hl]at h;rw[bRX,List.take_zero,bNS h]⟩
 refine K6 (fun _ _ h=>h) _ _ (X5 hv) _ _ (kk _ D' (fun D₁ hD₁=>(h5 D₁ hD₁).trans hle) hS _ _ (Hl.put ⟨I,k2,O,D',hs',fun D₁ hD₁=>?_,R.step (fun _ p hp=>bNI (bMR.2 ⟨p,hp,rfl⟩)) (fun _=>⟨by rw[bytesWorld_size];omega,fun b hb _=>⟨bytesWorld_at_old w e s b hb,hDo b Yd⟩,rfl⟩) hs'.dom⟩ hN _));rcases LT.1 hD₁ with rfl|hD₁
 ·exact Le.refl _
 ·exact(h5 D₁ hD₁).trans hle
namespace L12
open C12 Go.Lib
section
variable{P:Program}{X:Cx}{γb:Type}[Membership Nat γb]{bad:γb}{all:Array Oper}{K:Act→Δ→Prop}{Q:Exit→Act→Δ→Prop}
variable{σ:bU}{μ:aD}{Ds:List aC}{os:List (Bool×Nat)}{fl:Bool}{ix d:Nat}{x y z:Operand}{ty:Θ}{pos:String}{aft:Array Edge}{g:Option (Nat×Bool)}
theorem N8{t:Θ}{s:Λ}{I k2:IntKind}{a e:Nat}(ho:all[ix]?= some ⟨some d,.slice t x (some y) (some z) none,ty,pos,aft,g⟩)(ht:P.underlying t=some .string)(hx:ev σ x=some (.string s))(hy:ev σ y=some (.int I (a:Int)))(hz:ev σ z=some (.int k2 (e:Int)))(h1:a≤e)(h2:e≤s.size)(hN:Nat.blt d X.N=true)(hg:cQ all σ g)
  (kk:WL P X bad all K Q os ((d,.string (s.extract a e))::σ) μ Ds):WL P X bad all K Q ((fl,ix)::os) σ μ Ds:=GB ho ht hx hy hz Yd Yd Yd hN hg kk
end
theorem d8(l:List UInt8):(rF l).data.toList=l:=by simp[rF]
theorem bLG{α:Type}{l:List α}(h:6≤l.length):∃a b c d e f t,l=a::b::c::d::e::f::t:=by
 match l,h with
 |a::b::c::d::e::f::t,_=>exact⟨a,b,c,d,e,f,t,rfl⟩
theorem aZE{b:List UInt8}{n:Nat}(h:G3 b=some n):∃t,b=nS n 1::nS n 0::t:=by
 unfold G3 at h;split at h
 ·rename_i c d t;split at h
  ·rename_i hh;obtain⟨h1,h2,h3⟩:=hh;rw[R3]at h1 h2;cases h;refine⟨t,?_⟩;have I:c=nS ((c.toNat-48)*10+(d.toNat-48)) 1:=UInt8.toNat_inj.1 (by rw[P9];omega)
   have O:d=nS ((c.toNat-48)*10+(d.toNat-48)) 0:=UInt8.toNat_inj.1 (by rw[P9];omega);rw[←I,←O]
  ·cases h
 ·cases h
theorem aJF{i:Nat}{b l:List UInt8}(h:iJ i b=some l):fE i l=b.take (9+l.length)∧l=(b.drop 3).take l.length:=by
 have hl:=vB h;unfold iJ at h;split at h
 ·cases h
 ·rename_i h9;split at h
  ·cases h
  ·rename_i n hn;split at h
   ·cases h
   ·rename_i hb;split at h
    ·rename_i ha;have hle:l.length=n:=by rw[←bNS h,bON,bOU];omega
     have I:(b.drop 3).take n=l:=bNS h;rw[hle];refine⟨?_,I.symm⟩;obtain⟨t,rfl⟩:=aZE hn;rw[I]at ha;cases t with
     |nil=>simp at h9
     |cons s u=>
      have hv:6≤(u.drop n).length:=by rw[bOU];simp only[bMX]at hb;omega
      obtain⟨v0,v1,v2,v3,v4,v5,w,hw⟩:=bLG hv;have hg:∀k,u.getD (n+k) 0=(u.drop n).getD k 0:=fun k=>by rw[bOP,bOP,bPC]
      unfold R0 zD at ha;rw[show 3+n=n+0+1+1+1 by omega,show 8+n=n+5+1+1+1 by omega,show 4+n=n+1+1+1+1 by omega]at ha;simp only[bRJ,List.getD_cons_zero,bRY]at ha;rw[show u.getD n 0=(u.drop n).getD 0 0 from hg 0,hg 5,←bQX,hw]at ha;have hu:u.take n=l:=by rw[←I];rfl
      have ht:(nS n 1::nS n 0::s::u).take (9+n)=nS n 1::nS n 0::s::(u.take n++(u.drop n).take 6):=by
       rw[show 9+n=(n+6)+1+1+1 by omega,bRX,bRX,bRX,List.take_add]
      rw[ht,hu,hw];unfold fE;rw[hle];unfold qK at ha ⊢
      simp at ha;obtain⟨rfl,rfl,rfl,h1,h2,h3,h4⟩:=ha;simp[h1,h2,h3,h4]
    ·cases h
def bGK(b:Λ)(i p n:Nat):Prop:=p+9+n≤b.size∧rF (fE i (b.extract (p+3) (p+3+n)).data.toList)=b.extract p (p+9+n)
section
variable{b:Λ}{i p n:Nat}
theorem OM(_h:p+9+n≤b.size):(b.extract (p+3) (p+3+n)).data.toList=((b.data.toList.drop p).drop 3).take n∧(b.extract p (p+9+n)).data.toList=(b.data.toList.drop p).take (9+n):=by
 rw[HM,HM,bQX,show p+3+n-(p+3)=n by omega,show p+9+n-p=9+n by omega];exact⟨rfl,rfl⟩
theorem bFW(hn:n≤50)(h:bGK b i p n):iJ i (b.data.toList.drop p)=some (b.extract (p+3) (p+3+n)).data.toList:=by
 obtain⟨h1,h2⟩:=h;have h3:(rF (fE i (b.extract (p+3) (p+3+n)).data.toList)).data.toList=(b.extract p (p+9+n)).data.toList:=by rw[h2]
 rw[d8,(OM h1).2]at h3;have hl:(b.extract (p+3) (p+3+n)).data.toList.length=n:=by rw[(OM h1).1,bON,bOU,bOU];show min n (b.size-p-3)=n;omega
 rw[←bPJ (9+n) (b.data.toList.drop p),←h3];exact aBT Yd i _
theorem bAW(h:∀m,m≤50→¬bGK b i p m):iJ i (b.data.toList.drop p)=none:=by
 cases hw:iJ i (b.data.toList.drop p)with
 |none=>rfl
 |some l=>
  have h1:=vB hw;obtain⟨h2,h3⟩:=aJF hw;have h4:=h1.2;rw[bOU]at h4;have h5:p+9+l.length≤b.size:=by have:b.data.toList.length=b.size:=rfl;omega
  refine absurd ⟨h5,?_⟩ (h l.length h1.1);apply Go.WideShapes.bytes_inj;rw[d8,(OM h5).1,(OM h5).2,←h3,h2]
theorem bKT{k:Nat}(hk:k=i)(h:(decide ((p:Int)+9+(n:Int)≤(b.size:Int))&&decide (rF (fE k (b.extract (p+3) (p+3+n)).data.toList)=b.extract p (p+9+n)))=true):bGK b i p n:=by
 subst hk;simp only[bMS,GT]at h;exact⟨Yd,h.2⟩
theorem bHO{k:Nat}(hk:k=i)(h:(decide ((p:Int)+9+(n:Int)≤(b.size:Int))&&decide (rF (fE k (b.extract (p+3) (p+3+n)).data.toList)=b.extract p (p+9+n)))=false):¬bGK b i p n:=by
 subst hk;rintro⟨h1,h2⟩;rw[decide_eq_true h2,bSE]at h;have:=bNO h;omega
end
theorem bLK{n:Nat}{f:Bool}(h:(decide ((n:Int)≤50)&& !f)=true):n≤50∧f=false:=by
 simp only[bMS,GT,bPQ]at h;exact⟨Yd,h.2⟩
theorem bIP{n:Nat}(h:(decide ((n:Int)≤50)&& !false)=false):50<n:=by
 simp only[bSJ,bSE,bMY]at h;omega
theorem aGJ{p q:Nat}{A B:List Λ}{R S:Prop}(h:(false=false∧q=p∧A=B∧R)∨(false=true∧S)):p=q∧A=B∧R:=by
 rcases h with h|h
 ·exact⟨h.2.1.symm,h.2.2⟩
 ·cases h.1
theorem aWB{p q:Nat}{i:Nat}{A B:List Λ}{b:List UInt8}{R:Prop}(h:(true=false∧R)∨(true=true∧∃s:Λ,iJ i b=some s.data.toList∧q=p+9+s.size∧A=B++[s])):∃s:Λ,iJ i b=some s.data.toList∧q=p+9+s.size∧A=B++[s]:=by
 rcases h with h|h
 ·cases h.1
 ·exact h.2
theorem aJV(l:List UInt8):(⟨l.toArray⟩:Λ)=rF l:=rfl
theorem aUX(b:Λ)(hK:b.size≤1000)(D:aC):Fn prog 30 #[.string b] D (fun D' v=>∃lv,v=.tuple #[lv,qI (aMT (sY 40 0 0 b.data.toList):Int)]∧Sl D' RS 1 lv ((sY 40 0 0 b.data.toList).map (·.1))):=by
 refine Zw 68 func30 rfl fun h0=>aA<|Zf rfl<|Zf rfl<|aJ<|Zf rfl<|aJ<|Zf rfl<|bO<|Za1<|Zc (Nat×List (Λ×Nat)×Γ×aD) (fun g=>40-g.2.1.length) (fun g=>g.2.1.length≤40∧g.1≤b.size∧sY 40 0 0 b.data.toList=g.2.1++sY (40-g.2.1.length) g.2.1.length g.1 b.data.toList∧aMT g.2.1=g.1∧bI 9 1 g.2.2.1 g.2.1.length ((g.2.1.map (·.1)).map Value.string) g.2.2.2) (fun g=>[(4,g.2.2.1),(5,qI (g.1:Int))]) [(3,_),(2,_),(0,_)] (fun g=>g.2.2.2++[]) (fun g=>[D]) (0,[],qN,[]) ⟨Yf,Yf,rfl,rfl,Xba⟩ ⟨Ya,Ya,bSM⟩ Mm5 ?_;rintro⟨p,dn,v,ν⟩ ⟨h1,h2,hxs,hen,ha⟩;simp only at h1 h2 hxs hen ha;refine bZ<|Za rfl<|bR rfl U22 rfl ha rfl rfl bSM<|Zan rfl<|aF<|Zae rfl (fun hc1=>?_) fun hc1=>?_
 ·have U:dn.length<40:=Yd
  have hdl:(dn.map (·.1)).length=dn.length:=bOB _;refine aQ<|Za1<|aA<|Zf rfl<|bC<|Zf rfl<|aF<|Za1<|Zc (Nat×Bool×Nat×List Λ×Γ×aD) (fun g=>51-g.1) (fun g=>g.1≤51∧bI 9 1 g.2.2.2.2.1 g.2.2.2.1.length (g.2.2.2.1.map Value.string) g.2.2.2.2.2∧((g.2.1=false∧g.2.2.1=p∧g.2.2.2.1=dn.map (·.1)∧∀m,m<g.1→¬bGK b dn.length p m)∨(g.2.1=true∧∃s:Λ,iJ dn.length (b.data.toList.drop p)=some s.data.toList∧g.2.2.1=p+9+s.size∧g.2.2.2.1=dn.map (·.1)++[s]))) (fun g=>[(7,qI (g.1:Int)),(6,.bool g.2.1),(5,qI (g.2.2.1:Int)),(4,g.2.2.2.2.1)]) [(10,_),(9,_),(8,_),(3,_),(2,_),(0,_)] (fun g=>g.2.2.2.2.2++[]) (fun g=>[D]) (0,false,p,dn.map (·.1),v,ν) ⟨Yf,by rw[bOB];exact ha,bNI ⟨rfl,rfl,rfl,fun m hm=>by simp only at hm;omega⟩⟩ ⟨Ya,Ya,Ya,Ya,bSM⟩ Mm5 ?_
  rintro⟨n,f,q,ls,u,ω⟩ ⟨h3,hb,hor⟩;simp only at h3 hb hor;refine bZ<|Za rfl<|Wcj ?_;refine' bX 3 (s:=13) (p:=16) rfl (fun Y=>?_) (fun Y=>?_) ?_;rotate_left
  ·refine Zb rfl<|Wbr ?_;exact aN 2
  ·refine War ?_;exact aN 2
  refine aF<|Zaf rfl (fun hc2=>?_) fun hc2=>?_
  ·obtain⟨h5,rfl⟩:=bLK hc2;obtain⟨rfl,rfl,hno⟩:=aGJ hor;refine aQ<|Za3<|Za1<|Za3<|iZ [] 6 [0,1,2,3,4,5,6,7,8,9,10,11,12,13,14,15,16,17,19,20,21,22,23,24,25,18,26,27] [false,false,true,false,true,true,false,false,false,false,true,true,true,true,true,true,true,true,true,true,true,true,true,true,true,true,false,false] [(false,0),(false,1),(true,2),(false,3),(true,4),(true,5),(false,6),(false,7),(false,8),(false,9),(true,10),(true,11),(true,12),(true,13),(true,14),(true,15),(true,16),(true,17),(true,19),(true,20),(true,21),(true,22),(true,23),(true,24),(true,25),(true,18),(false,26),(false,27)] bB (fun _ _ _ h=>fW (P:=prog) (fn:=f30) _ _ _ h) Yg rfl<|Za rfl<|Zad rfl<|Za rfl<|Zad rfl<|Za rfl<|gR rfl U9 rfl rfl rfl bSM<|gJ rfl rfl rfl rfl bSM ?_;refine Za rfl ?_;refine' bX 20 (s:=26) (p:=46) rfl (fun V=>?_) (fun V=>?_) ?_;rotate_left
   ·have hpn:p+9+n≤b.size:=by have h9:=V;simp at h9;omega
    have hsz:(b.extract (p+3) (p+3+n)).size=n:=by rw[ByteArray.size_extract];omega
    refine Zb rfl<|bR rfl U22 rfl hb rfl rfl ⟨_,rfl,rfl⟩<|Zb rfl<|Zb rfl<|oC rfl rfl rfl Ye rfl ⟨_,rfl,rfl⟩<|Zb rfl<|oC rfl rfl rfl Ye rfl ⟨_,rfl,rfl⟩<|Zb rfl<|oC rfl rfl rfl Ye rfl ⟨_,rfl,rfl⟩<|N8 (a:=p+3) (e:=p+3+n) rfl U9 rfl Ya Ya Yd Yd rfl ⟨_,rfl,rfl⟩<|Zb rfl<|Zb rfl ?_;refine Zb rfl<|oC rfl rfl rfl Ye rfl ⟨_,rfl,rfl⟩<|Zb rfl<|oC rfl rfl rfl Ye rfl ⟨_,rfl,rfl⟩<|N8 (a:=p) (e:=p+9+n) rfl U9 rfl Ya Ya Yd Yd rfl ⟨_,rfl,rfl⟩<|Ze rfl (fun D1 hN=>HG (dn.map (·.1)).length (b.extract (p+3) (p+3+n)) Yd Yd _)<|Wat ?_;exact aN 19
   ·refine Wah ?_;refine Zg rfl<|Wbd ?_;exact aN 19
   refine aF<|Zaf rfl (fun hc3=>?_) fun hc3=>?_
   ·have hM:bGK b dn.length p n:=bKT hdl Xac;have hpn:=hM.1;have hsz:(b.extract (p+3) (p+3+n)).size=n:=by rw[ByteArray.size_extract];omega
    refine aA<|Za rfl<|Za rfl<|Za rfl<|Zad rfl<|Za rfl<|Zad rfl<|Za rfl<|Zad rfl<|N8 (a:=p+3) (e:=p+3+n) rfl U9 rfl Ya Ya Yd Yd rfl bSM<|Zt rfl U22 fU tf_z9 rfl (.cons rfl rfl .nil) fun hH hI Z O=>aS (A:=[]) (B:=[]) rfl U22 rfl rfl fU tf_z9 rfl G6 rfl rfl rfl hb (jY.lit O) Yf rfl Yap Yk Yd (bNI rfl) rfl bSM fun v1 ν1 hB=>?_;have hE:bI 9 1 v1 (dn.map (·.1)++[(b.extract (p+3) (p+3+n))]).length ((dn.map (·.1)++[(b.extract (p+3) (p+3+n))]).map Value.string) ν1:=by rw[LE,bNG];exact hB
    refine aV (ν1++[]) rfl<|Zf rfl<|aJ<|Za rfl<|Za rfl<|Zad rfl<|Zad rfl<|Zf rfl<|aF<|aO<|Zf rfl<|Zao ?_;refine Wa ?_;exact aL 38 (n+1,true,p+9+(b.extract (p+3) (p+3+n)).size,dn.map (·.1)++[(b.extract (p+3) (p+3+n))],v1,ν1) ⟨Yn,hE,Or.inr ⟨rfl,_,bFW h5 hM,rfl,rfl⟩⟩ Yn ⟨Ya,rfl,Ya8,rfl,bSM⟩ rfl rfl Mm5 fun D h=>⟨D,bNM _ (h),Le.refl D⟩
   ·have hM:¬bGK b dn.length p n:=bHO hdl hc3;refine Wch ?_;exact aL 20 (n+1,false,p,dn.map (·.1),u,ω) ⟨Yn,hb,Or.inl ⟨rfl,rfl,rfl,fun m hm=>by rcases Nat.lt_succ_iff_lt_or_eq.1 hm with h|rfl;exact hno m h;exact hM⟩⟩ Yn ⟨Ya,rfl,Ya,rfl,bSM⟩ rfl rfl Mm5 (aK)
  ·refine Za6<|Za2<|Za2<|Za7<|Zaz<|aA<|Za rfl<|Zat rfl<|aF<|Zaf rfl (fun hc4=>?_) (fun hc4=>?_)
   ·obtain rfl:f=false:=Xah
    obtain⟨rfl,rfl,hno⟩:=aGJ hor;have hJ:50<n:=bIP hc2;refine aA<|Za rfl<|Za rfl<|Zf rfl<|Zf rfl<|aG<|Za5<|Za0<|Za5<|Za0 ?_;have I:sY 40 0 0 b.data.toList=dn:=UD hxs (bAW fun m hm hM=>hno m Yd hM);refine dS (A:=[]) (B:=[]) hb rfl fun D9 hF R=>?_;exact Zo [_,_] rfl cF fun D hD=>⟨_,by rw[I,hen];rfl,by rw[I];exact(R.strs rfl Yd).up RS.up (hD _ Yf)⟩
   ·obtain rfl:f=true:=Xah
    obtain⟨s,hw,rfl,rfl⟩:=aWB hor;have hwl:=(vB hw).2;rw[bOU]at hwl;have hsl:s.data.toList.length=s.size:=rfl;have hbl:b.data.toList.length=b.size:=rfl;refine bG<|Za4 ?_;exact aL 13 (p+9+s.size,dn++[(s,p+9+s.size)],u,ω) ⟨by simp only[LE,bPB];omega,Yn,by simp only;rw[LE,bPB,bND];exact VX U hxs hw,JL _ _,Xax⟩ (by simp only[LE,bPB];omega) ⟨Ya,Ya,bSM⟩ rfl rfl Mm5 (aK)
 ·have U:dn.length=40:=Yd
  refine Za6<|Za2<|Za2<|Za7<|Zaz<|aA<|Za rfl<|Za rfl<|Wcd ?_;have I:sY 40 0 0 b.data.toList=dn:=by rw[hxs,show 40-dn.length=0 by omega];exact bNN _
  refine dS (A:=[]) (B:=[]) ha rfl fun D9 hF R=>?_;exact Zo [_,_] rfl cF fun D hD=>⟨_,by rw[I,hen];rfl,by rw[I];exact(R.strs (bOB _) Yd).up RS.up (hD _ Yf)⟩
theorem aCK:∀(ls:List Λ) (s:aM) {k:Nat} {x:Λ},ls[k]?= some x→(x4 s ls)[k]?= some (pO (kW s (ls.take k)) x).2
 | [],_,_,_,h=>by simp at h
 |l::ls,s,0,x,h=>by
  obtain rfl:l=x:=Yaw
  rfl
 |l::ls,s,k+1,x,h=>aCK ls (pO s l).1 (k:=k) Yaw
section
variable{bs:List UInt8}{more:List Λ}
theorem YT(h:eG more≠0):nM bs more=([],eG more):=bNK h
theorem SD(h:eG more=0)(hl:40<(vX bs more).length):nM bs more=([],3):=by unfold nM;rw[bNA Yd,bNK hl]
theorem KW(h:eG more=0)(hl:¬40<(vX bs more).length):nM bs more=(rG (eL (vX bs more)),0):=by unfold nM;rw[bNA Yd,bNA hl]
end
theorem GO(b:Λ)(mv:Γ)(more:List Λ)(D:aC)(hM:Sl D RS 1 mv more)(hV:oD D):Fn prog 7 #[.string b,mv] D (fun _ v=>v=.bool true):=by
 have hml:=hM.len;have hbs:b.data.toList.length=b.size:=rfl;refine Zw 119 func7 rfl fun h0=>aA<|Zf rfl<|bC<|Za rfl<|Zd rfl (fun D1 hD1=>aJA _ more _ (hM.up RS.up (hD1 _ Yf)))<|Wbg ?_;refine' dL 4 (s:=18) (p:=22) rfl (fun hg1=>?_) (fun hg1=>?_) ?_;rotate_left
 ·refine Zb rfl<|gR rfl U9 rfl rfl rfl ⟨_,rfl,rfl⟩<|Ww ?_;exact aN 3
 ·refine Zg rfl<|Wbi ?_;exact aN 3
 refine Za rfl ?_;refine' dL 4 (s:=23) (p:=27) rfl (fun hg2=>?_) (fun hg2=>?_) ?_;rotate_left
 ·refine Zb rfl<|eE rfl U22 rfl hM rfl rfl ⟨_,rfl,rfl⟩<|Ww ?_;exact aN 3
 ·refine Zg rfl<|Wbi ?_;exact aN 3
 refine aF<|Zaf rfl (fun hc1=>?_) fun hc1=>?_
 ·refine aA<|Zd rfl (fun D2 hD2=>G5 _ (hV.up (hD2 _ Yf)))<|Wg ?_;exact aE rfl fun D hD=>rfl
 ·obtain⟨⟨hth,hb4⟩,hm20⟩:(KH more=true∧b.size≤400)∧more.length≤20:=by have h9:=hc1;simp only[bOH,bRP,bMY]at h9;exact⟨⟨h9.1.1,Yd⟩,Yd⟩
  obtain⟨h45,h70⟩:=AS.1 hth;have hrl:=zO b.data.toList;have hrs:=t8 b.data.toList;have hsz:∀x∈(dI b.data.toList++more),x.size≤1000:=fun x hx=>(bNH.1 hx).elim (fun h=>by have:=hrs x h;omega) fun h=>by have:=h70 x h;omega
  refine aQ<|aA<|Za rfl<|Zy rfl (fun D3 hD3=>aUX b Yd _) fun v3 D3 hD3 hp3=>?_;obtain⟨hF,rfl,hR0⟩:=hp3;have hR:Sl D3 RS 1 hF (dI b.data.toList):=hR0;refine Za rfl<|Zap rfl<|Zap rfl<|Zf rfl<|Zf rfl<|aJ<|Zt rfl U22 fU tf_z9 rfl .nil fun b901 hH hD901 hA901=>Za rfl<|aS (A:=[]) (ν:=[]) (B:=[]) rfl U22 rfl rfl fU tf_z9 rfl G6 rfl rfl rfl bI.nil (jY.strs hR) Yf Yap rfl (Q5 _) Yd Yam rfl bSM fun v70 hI U=>?_;have hJ:bI 9 1 v70 ((dI b.data.toList)).length (((dI b.data.toList)).map Value.string) hI:=by simpa using U
  refine Za rfl<|aS (A:=[]) (ν:=hI) (B:=[]) rfl U22 rfl rfl fU tf_z9 rfl G6 rfl rfl rfl hJ (jY.strs hM) Yf Yap Yap (Q5 _) Yd (bNI rfl) rfl bSM fun hK ν71 hN=>?_;have V:bI 9 1 hK ((dI b.data.toList)++more).length (((dI b.data.toList)++more).map Value.string) ν71:=by rw[LE,bNG];exact hN
  refine HH (A:=[]) (B:=[]) V rfl fun hO hD72 hP=>?_;have hall:Sl hO RS 1 hK (dI b.data.toList++more):=hP.strs rfl (by rw[LE];omega)
  refine Zf rfl<|bC<|Za rfl<|Zd rfl (fun D4 hD4=>aAE _ (dI b.data.toList++more) _ (hall.up RS.up (hD4 _ Yf)) (by rw[LE];omega) hsz)<|Zat rfl<|aF<|Zaf rfl (fun hc2=>?_) fun hc2=>?_
  ·refine aA<|Zd rfl (fun D5 hD5=>G5 _ (hV.up (hD5 _ Yf)))<|Wg ?_;exact aE rfl fun D hD=>rfl
  ·refine aQ<|Za3<|aMQ 1 Yt<|Za rfl<|Zao (aXF rfl U9 U99 U5 rfl Yd Yt rfl bSM fun bv9 D99 hD99 hB9=>Za rfl<|Zy rfl (fun D6 hS=>aLB _ more _ (hM.up RS.up (hS _ Yf)) Yd) fun v6 D6 hS hp6=>?_);have hq:=hp6;refine Zy rfl (fun D7 O=>aJT _ _ b.data.toList more _ (hB9.up RU.up (O _ Yf)) Yd (hq.up RS.up (O _ Yf)) (hV.up (O _ Yf))) fun v7 D7 O hp7=>?_;obtain⟨wv,rfl,hwb⟩:=hp7;refine Za rfl<|Zap rfl<|Zap rfl<|Zf rfl<|Zf rfl<|bC<|Za rfl<|Zd rfl (fun D8 hD8=>ZU _ more _ (hM.up RS.up (hD8 _ Yf)))<|Waz ?_;refine aF<|Zae rfl (fun hc3=>?_) (fun hc3=>?_)
   ·refine aA<|Za rfl<|Za rfl<|Waw ?_;refine' bX 4 (s:=58) (p:=62) rfl (fun hg3=>?_) (fun hg3=>?_) ?_;rotate_left
    ·refine Zb rfl<|eE rfl U99 rfl hwb rfl rfl ⟨_,rfl,rfl⟩<|Wx ?_;exact aN 3
    ·refine Wc ?_;exact aN 3
    refine Za rfl ?_;refine' bX 2 (s:=63) (p:=65) rfl (fun hg4=>?_) (fun hg4=>?_) ?_;rotate_left
    ·refine Ze rfl (fun D9 hD9=>G5 _ (hV.up (hD9 _ Yf)))<|Zak rfl ?_;exact aN 1
    ·refine Zg rfl<|Zal rfl ?_;exact aN 1
    refine Wg ?_;exact aE rfl fun D hD=>bNB Value.bool (by rw[YT hc3];simp)
   ·have hf:eG more=0:=Classical.not_not.1 hc3;refine aQ<|aA<|Za rfl<|Zy rfl (fun D10 R=>aOK _ (dI b.data.toList++more) _ (hall.up RS.up (R _ Yf)) (by rw[LE];omega) hsz) (fun v10 D10 R hX=>?_)
    obtain⟨u1,u2,rfl,⟨pv2,cv2,hv2,hF,mv2,bl2,bc2,yc2,yq2,rfl,hL2⟩,hY⟩:=hX;unfold dO;refine Za rfl<|Zap rfl<|Zap rfl<|Zah rfl L5 rfl fun q1=>Zac rfl hG ζ (eU hL2)<|Zf rfl<|bO<|aUR (List.nil_sublist _)<|aO<|Zt rfl U22 fU tf_z9 rfl .nil fun b902 rA hD902 hA902=>Za rfl<|aS (A:=[]) (ν:=[]) (B:=[]) rfl U22 rfl rfl fU tf_z9 rfl G6 rfl rfl rfl bI.nil (jY.strs hR) Yf Yap rfl (Q5 _) Yd Yam rfl bSM fun v75 rB Y=>?_;have ha75:bI 9 1 v75 ((dI b.data.toList)).length (((dI b.data.toList)).map Value.string) rB:=by simpa using Y
    refine Zf rfl<|bC<|Za rfl<|Zai rfl U22 rfl hR rfl<|Zf rfl<|aF<|Za1<|Zc (Nat×Γ×aD) (fun g=>more.length-g.1) (fun g=>g.1≤more.length∧bI 9 1 g.2.1 (dI b.data.toList++xT (gK (dI b.data.toList)).1 (more.take g.1)).length ((dI b.data.toList++xT (gK (dI b.data.toList)).1 (more.take g.1)).map Value.string) g.2.2) (fun g=>[(14,qI (((dI b.data.toList).length+g.1:Nat):Int)),(13,g.2.1)]) [(12,_),(9,_),(8,_),(7,_),(4,_)] (fun g=>g.2.2++[]) (fun g=>[rA,D10,D7,D6,D99,hO,hH,D3,D]) (0,v75,rB) ⟨Yf,by simpa [xT]using ha75⟩ ⟨Ya,Ya,bSM⟩ Mm5 ?_;rintro⟨j,v,Z⟩ ⟨h1,I⟩;simp only at h1 I;refine bZ<|Za rfl<|Za rfl<|Zai rfl U22 rfl hall rfl<|Zan rfl<|aF<|Zae rfl (fun hc4=>?_) fun hc4=>?_
    ·have hj:j<more.length:=by have h9:=hc4;simp only[LE]at h9;omega
     obtain⟨x,hx⟩:=cT more j;have hxa:(dI b.data.toList++more)[((((dI b.data.toList).length+j:Nat):Int)).toNat]?= some x:=by rw[bOI,bPY (Nat.le_add_right _ _),Nat.add_sub_cancel_left];exact hx
     have he:(gK (dI b.data.toList++more)).2[((((dI b.data.toList).length+j:Nat):Int)).toNat]?= some (pO (kW (gK (dI b.data.toList)).1 (more.take j)) x).2:=by rw[bOI,aIW,bPY (by rw[KV];exact Nat.le_add_right _ _),KV,Nat.add_sub_cancel_left];exact aCK more _ hx
     have hkl:=K4 (more.take j) (gK (dI b.data.toList)).1;rw[bON]at hkl;refine aQ<|Za3<|Za1<|aA<|Za rfl<|Za rfl<|iW rfl hY rfl he fun b1 o1=>Zas rfl<|aF<|Zae rfl (fun hB=>?_) fun hB=>?_
     ·refine aO<|Za rfl<|Za rfl<|Za rfl<|Zx rfl U22 fU rfl hall rfl hxa fun b2 o2 cs2 hr2 hcl2 hA2=>?_;obtain rfl:cs2=[.string _]:=hr2;refine Zh 0 rfl sZ rfl hA2 rfl<|Zt rfl U22 fU tf_z9 rfl (.cons rfl rfl .nil) (fun b903 D903 hD903 hA903=>aS (A:=[]) (ν:=Z) (B:=[]) rfl U22 rfl rfl fU tf_z9 rfl G6 rfl rfl rfl I (jY.lit Ym) Yf rfl Yap Yk (by rw[LE];omega) (bNI rfl) rfl bSM fun v79 ν79 ha79=>?_)
      have hE:bI 9 1 v79 ((dI b.data.toList++xT (gK (dI b.data.toList)).1 (more.take j))++[x]).length (((dI b.data.toList++xT (gK (dI b.data.toList)).1 (more.take j))++[x]).map Value.string) ν79:=by rw[LE,bNG];exact ha79
      refine Wu ?_;exact aL 22 (j+1,v79,ν79) ⟨Yn,by simp only;rw[Q7 hx,bNK hB,←bND];exact hE⟩ Yn ⟨Ya,Ya,bSM⟩ rfl rfl Mm5 fun D h=>⟨D,bNM _ (h),Le.refl D⟩
     ·refine Wch ?_;exact aL 14 (j+1,v,Z) ⟨Yn,by simp only;rw[Q7 hx,bNA hB,bNN];exact I⟩ Yn ⟨Ya,Ya,bSM⟩ rfl rfl Mm5 (aK)
    ·obtain rfl:j=more.length:=by have h9:=hc4;simp only[LE]at h9;omega
     rw[bNR]at I;have hkl:=K4 more (gK (dI b.data.toList)).1;have hkr:=MC b.data.toList more;change bI 9 1 v (vX b.data.toList more).length ((vX b.data.toList more).map Value.string) Z at I;refine Za6<|Za2<|Za2<|Za7<|Zaz<|bZ<|Za rfl<|bR rfl U22 rfl I rfl rfl bSM<|Zaq rfl<|aF<|Zae rfl (fun hc6=>?_) fun hc6=>?_
     ·refine aA<|Za rfl<|Waw ?_;refine' bX 4 (s:=99) (p:=103) rfl (fun hg5=>?_) (fun hg5=>?_) ?_;rotate_left
      ·refine Zb rfl<|eE rfl U99 rfl hwb rfl rfl ⟨_,rfl,rfl⟩<|Wx ?_;exact aN 3
      ·refine Wc ?_;exact aN 3
      refine Za rfl ?_;refine' bX 2 (s:=104) (p:=106) rfl (fun hg6=>?_) (fun hg6=>?_) ?_;rotate_left
      ·refine Ze rfl (fun D11 hD11=>G5 _ (hV.up (hD11 _ Yf)))<|Zak rfl ?_;exact aN 1
      ·refine Zg rfl<|Zal rfl ?_;exact aN 1
      refine Wg ?_;exact aE rfl fun D hD=>bNB Value.bool (by rw[SD hf Yd];simp)
     ·rw[KW hf Yd]at hwb;refine aQ<|Za3<|sN (A:=[]) (B:=[]) I rfl fun D88 hD88 hF88=>?_;have hks:Sl D88 RS 1 v (vX b.data.toList more):=hF88.strs rfl Yd;refine bN [] 5 13 96<|Za rfl<|Waw ?_;refine' bX 6 (s:=109) (p:=115) rfl (fun hg7=>?_) (fun hg7=>?_) ?_;rotate_left
      ·refine Zb rfl<|uD rfl U99 U5 U9 rfl hwb Yf (fun _ _ _ _ _=>n4) rfl ⟨_,rfl,rfl⟩<|Zb rfl<|Ze rfl (fun D12 hD12=>aVM _ (vX b.data.toList more) _ (hks.up RS.up (hD12 _ Yf)) Yd fun x hx=>WE hf x hx)<|Wat ?_;exact aN 5
      ·refine Wo ?_;exact aN 5
      refine Za rfl ?_;refine' bX 2 (s:=116) (p:=118) rfl (fun hg8=>?_) (fun hg8=>?_) ?_;rotate_left
      ·refine Ze rfl (fun D13 hD13=>G5 _ (hV.up (hD13 _ Yf)))<|Zak rfl ?_;exact aN 1
      ·refine Zg rfl<|Zal rfl ?_;exact aN 1
      refine We ?_;exact aE rfl fun D hD=>bNB Value.bool (by rw[KW hf Yd];simp;exact aJV _)
end L12
end Go.Fs
