/- Of the proof of BookAgain: V22, V23, V24, V29, SW9, SW10, SW11, SW12. -/
import Derived.Test.YtelhnbcdablgoaaGreatDoorZBookAgainAG
import Derived.Test.YtelhnbcdablgoaaGreatDoorZBookAgainAD
import Derived.Test.YtelhnbcdablgoaaGreatDoorZBookAgainAF
import Derived.Test.YtelhnbcdablgoaaGreatDoorZBookAgainAE
namespace Go.Fs
open Go.Proofs
namespace L3
open L1
open C3
section
variable{P:Program}{X:Cx}{Q:Exit→Act→World→Prop}{σ:bI}{μ:aC}{Ds:List aA}
theorem MW{c:Code}{μ':aC}(n:Nat)(he:μ.drop n=μ')(h:WC P X Q c σ μ' Ds):WC P X Q c σ μ Ds:=fun a w hh=>by
 subst he;exact h a w (hh.dropBoxes n)
end
def lD(bh bs bl bo blo bY br n:Nat)(c:List Sc)(cl:List Int):aC:=[(bh,.cells [.func (.func 235) #[] #[.pointer (some ⟨br,0,none⟩),.pointer (some ⟨bs,0,none⟩),.pointer (some ⟨bl,0,none⟩),.pointer (some ⟨bY,0,none⟩),.pointer (some ⟨bh,0,none⟩)]].toArray 191 (0,0)),(bs,.cells [.slice (some ⟨bo,0,none⟩) (n+1) (n+1)].toArray 303 (0,0)),(bl,.cells [.slice (some ⟨blo,0,none⟩) n n].toArray 33 (0,0)),(bo,.cells (bQ c).toArray 207 (0,0)),(blo,.cells (ints cl).toArray 160 (0,0))]
theorem wP{bh bs bl bo blo bY br n:Nat}{c:List Sc}{cl:List Int}:(bo,Obj.cells (bQ c).toArray 207 (0,0))∈lD bh bs bl bo blo bY br n c cl:=aRH _ (aRH _ (aRH _ (GE _)))
def MS(n bo:Nat)(vs:List Value):Prop:=∃blo,vs=[.slice (some ⟨blo,0,none⟩) n n,.slice (some ⟨bo,0,none⟩) (n+1) (n+1)]
def aEZ{α:Type}(P:Program)(Dr:aA)(lo l:Nat)(J Jx:List α→pC)(xs:List α)(enc:Nat→List Value→Prop)(cells:α→List Value):Prop:=∀pre x β D w bo vs,(∃r,xs=pre++x::r)→uR lo D w→J pre β D w→(∀b∈β,b<w.heap.size)→Le Dr D→enc bo vs→j7 β D w bo (cells x)→
   fY P l vs w fun b D' w'=>uR lo D' w'∧tJ β D w D' w'∧(if b then J (pre++[x]) β D' w' else Jx (pre++[x]) β D' w')
def vV(c:List Sc):Prop:=∀s∈c,(iI s).length=10
theorem vV.set{c:List Sc}{s:Sc}(h:vV c)(hs:(iI s).length=10)(i:Nat):vV (c.set i s):=fun u hu=>by
 rcases aRE hu with hu|rfl
 ·exact h u hu
 ·exact hs
theorem JB{c:List Sc}(h:vV c):(bQ c).length=c.length*10:=by
 induction c with
 |nil=>rfl
 |cons u c ih=>
  have:=ih fun s hs=>h s (aLZ _ hs)
  rw[show bQ (u::c)=ints (iI u)++bQ c from rfl,aLY,aJ,h u aMF,this,aMI];omega
theorem HW{c:List Sc}(h:vV c){i:Nat}{s:Sc}(hs:(iI s).length=10)(hi:i<c.length):(bQ c).take (i*10)++ints (iI s)++(bQ c).drop (i*10+(ints (iI s)).length)=bQ (c.set i s):=by
 rw[aJ,hs];induction c generalizing i with
 |nil=>simp at hi
 |cons u c ih=>
  have hu:(ints (iI u)).length=10:=by rw[aJ,h u aMF]
  have e:bQ (u::c)=ints (iI u)++bQ c:=rfl;rw[e];cases i with
  |zero=>
   rw[List.set_cons_zero,show bQ (s::c)=ints (iI s)++bQ c from rfl,aQF,List.take_zero,aNE,aPC,aQE,aNM Yd,aNE,hu];simp
  |succ i=>
   rw[List.set_cons_succ,show bQ (u::c.set i s)=ints (iI u)++bQ (c.set i s)from rfl,←ih (fun t ht=>h t (aLZ _ ht)) Yaj];rw[List.take_append,aNA Yd,hu,aQE,aNM Yd,aNE,hu,show(i+1)*10-10=i*10 by omega,show(i+1)*10+10-10=i*10+10 by omega];simp
def sE:Sc:=⟨[0,0,0,0],[0,0,0,0],0,0⟩
theorem eW(n:Nat):ints (List.replicate (n*10) 0)=bQ (List.replicate n sE):=by
 induction n with
 |zero=>rfl
 |succ n ih=>rw[List.replicate_succ,show bQ (sE::List.replicate n sE)=ints (iI sE)++bQ (List.replicate n sE)from rfl,←ih,show(n+1)*10=10+n*10 by omega,←List.replicate_append_replicate,eQ];rfl
def wr(l:List Int)(k:Nat)(us:List Int):List Int:=l.take k++us++l.drop (k+us.length)
theorem aBH{l us:List Int}{k:Nat}(h:k+us.length≤l.length):(wr l k us).length=l.length:=by unfold wr;simp;omega
theorem ND{l us:List Int}{k:Nat}:(ints l).take k++ints us++(ints l).drop (k+(ints us).length)=ints (wr l k us):=by
 unfold wr ints;simp
def jB(b:aZ)(i:Nat)(s:Sc):List (List Sc):=(uH b (b.lines.drop i) i s).map (·.2)
def GR(b:aZ)(i:Nat)(s:Sc)(z:fE)(pre:List Sc)(k:Nat):List (List Sc):=((bR b.chairs z).take k).flatMap fun r=>if eI s r=true then(jB b (i+1) (bW b s i r)).map (fun t=>(pre++[s])++t)else []
theorem aEV{b:aZ}{i:Nat}{s:Sc}(h:eY b s i=false):jB b i s=[]:=by
 unfold jB;cases e:b.lines.drop i with
 |nil=>unfold uH;rw[aMM (by rw[h];simp)];rfl
 |cons l ls=>unfold uH;rw[aMM (by rw[h];simp)];rfl
theorem YA{b:aZ}{i:Nat}{s:Sc}(h:eY b s i=true)(hi:b.lines.length≤i):jB b i s=[[s]]:=by
 unfold jB;rw[aNM hi];unfold uH;rw[aMT h];rfl
theorem OV{b:aZ}{i:Nat}{s:Sc}{z:fE}{pre:List Sc}(h:eY b s i=true)(hd:b.lines.drop i=z::b.lines.drop (i+1)):(jB b i s).map (fun t=>pre++t)=GR b i s z pre (bR b.chairs z).length:=by
 unfold jB GR;rw[hd,aNL];unfold uH;rw[aMT h,List.map_flatMap,List.map_flatMap];congr 1;funext r;by_cases hc:eI s r=true
 ·rw[aMT hc,aMT hc,aQY,aQY];unfold jB;rw[aQY];congr 1;funext x;simp
 ·rw[aMM hc,aMM hc];rfl
theorem ZK{b:aZ}{i:Nat}{s:Sc}{z:fE}{pre:List Sc}:GR b i s z pre 0=[]:=rfl
theorem ZD{b:aZ}{i:Nat}{s:Sc}{z x:fE}{pre:List Sc}{k:Nat}(hx:(bR b.chairs z)[k]?= some x)(h:eI s x=false):GR b i s z pre (k+1)=GR b i s z pre k:=by
 unfold GR;rw[aMN,hx,aOD,aND,aNT,aMM (by rw[h];simp),aME]
theorem J7{b:aZ}{i:Nat}{s:Sc}{z x:fE}{pre:List Sc}{k:Nat}(hx:(bR b.chairs z)[k]?= some x)(h:eI s x=true):GR b i s z pre (k+1)=GR b i s z pre k++(jB b (i+1) (bW b s i x)).map (fun t=>(pre++[s])++t):=by
 unfold GR;rw[aMN,hx,aOD,aND,aNT,aMT h]
theorem EJ{b:aZ}{i:Nat}{s:Sc}{z:fE}{pre:List Sc}{k:Nat}:∃r,GR b i s z pre (bR b.chairs z).length=GR b i s z pre k++r:=by
 unfold GR;rw[aNL]
 conv=>enter [1,r,1];rw[←aPU k (bR b.chairs z),aND]
 exact⟨_,rfl⟩
theorem uY{c pre:List Sc}{i:Nat}{s s':Sc}(h:c.take (i+1+1)=(pre++[s])++[s'])(hl:pre.length=i):c.take (i+1)=pre++[s]:=by
 have:=aMQ (List.take (i+1)) h;rw[List.take_take,aQI (Nat.le_succ _)]at this;rw[this,aNP Yah,aNA Yah]
theorem W6{c pre:List Sc}{i:Nat}{s':Sc}(hi:i<c.length)(h:c.take i=pre):(c.set i s').take (i+1)=pre++[s']:=by
 rw[aMN,List.getElem?_set_self hi,aOD,List.take_set_of_le (aMS _),h]
theorem ZA{c pre:List Sc}{i:Nat}{s:Sc}(h:c.take (i+1)=pre++[s])(hl:pre.length=i):c[i]?= some s:=by
 have:(c.take (i+1))[i]?= (pre++[s])[i]? :=by rw[h]
 rw[aPA (Nat.lt_succ_self i),aQL Yd]at this;rw[this];simp[hl]
theorem aLP{bh bs bl bo blo bY br n q1 q2:Nat}{c:List Sc}{cl:List Int}{o1 o2:Obj}(hap:br∉aC.ks ((q2,o2)::(q1,o1)::lD bh bs bl bo blo bY br n c cl))(hnd:(((q2,o2)::(q1,o1)::lD bh bs bl bo blo bY br n c cl).map fun p=>p.1).Nodup):q2∉[br,bs,bo,q1]:=by
 intro h;simp only[aLX,GT,aNU]at h;rcases h with rfl|rfl|rfl|rfl
 ·exact hap (by simp[aC.ks])
 ·simp[lD]at hnd
 ·simp[lD]at hnd
 ·simp at hnd
theorem aDB{bh bs bl bo blo bY br n q1 q2:Nat}{c:List Sc}{cl:List Int}{o1 o2:Obj}(hnd:(((q2,o2)::(q1,o1)::lD bh bs bl bo blo bY br n c cl).map fun p=>p.1).Nodup):blo∉[bl,bs,q1,q2]∧bo∉[bl,bs,q1,q2]:=by
 constructor
 ·intro h;simp only[aLX,GT,aNU]at h;rcases h with rfl|rfl|rfl|rfl<;>simp[lD]at hnd
 ·intro h;simp only[aLX,GT,aNU]at h;rcases h with rfl|rfl|rfl|rfl<;>simp[lD]at hnd
def aKP(b:aZ)(J Jx:List (List Sc)→pC)(bh bs bl bo blo bY br:Nat)(pre:List Sc)(s:Sc)(i:Nat)(done:List (List Sc))(v:Value)(J':pC)(μ':aC):Prop:=
 ∃bb c' cl',v=.bool bb∧c'.length=b.lines.length+1∧vV c'∧cl'.length=b.lines.length*3∧c'.take (i+1)=pre++[s]∧μ'=lD bh bs bl bo blo bY br b.lines.length c' cl'∧(if bb=true then J'=J (done++(jB b i s).map fun t=>pre++t)else ∃p,J'=Jx p)
set_option maxHeartbeats 1000000 in
theorem aFP{lo l:Nat}{b:aZ}{bv:Value}{xs:List (List Sc)}{Dr Dy:aA}{bh bs bl bo blo bY br:Nat}{lv cv:Value}(hbo:SB b)(hbv:bv=.agg #[.int .i64 b.chairs,.int .i64 b.coin,.int .i64 b.box,lv,cv])(hb0:fJ Dr bv b)
  (hA:At Dr br 0 [.int .i64 b.chairs,.int .i64 b.coin,.int .i64 b.box,lv,cv]) (hB:At Dy bY 0 [.func (.yield l) #[] #[]]):
  ∀(j i:Nat) (pre:List Sc) (s:Sc) (c:List Sc) (cl:List Int) (done rest:List (List Sc)) (iv:Int) (Ds:List aA),Dr∈Ds→Dy∈Ds→iv=i→i+j=b.lines.length→pre.length=i→c.length=b.lines.length+1→vV c→cl.length=b.lines.length*3→c.take (i+1)=pre++[s]→aKO b s i→
   xs=done++(jB b i s).map (fun t=>pre++t)++rest→∀(J Jx:List (List Sc)→pC),(∀pre,xE lo (J pre))→(∀pre,xE lo (Jx pre))→aEZ Tryz.prog Dr lo l J Jx xs (MS b.lines.length) bQ→
   aJK Tryz.prog 235 [.int .i64 iv,.pointer (some ⟨br,0,none⟩),.pointer (some ⟨bs,0,none⟩),.pointer (some ⟨bl,0,none⟩),.pointer (some ⟨bY,0,none⟩),.pointer (some ⟨bh,0,none⟩)] lo (J done) (lD bh bs bl bo blo bY br b.lines.length c cl) Ds (aKP b J Jx bh bs bl bo blo bY br pre s i done):=by
 subst hbv;intro j;induction j using Nat.strongRecOn with
 |_ j ih=>
 intro i pre s c cl done rest iv Ds hDr hDy hiv hij hl h9 h10 h11 hp hsb hxs J Jx hs hsx hY;replace ih:=fun j hj i pre s c cl done rest iv Ds h1 h2 h3 h4 h5 h6 h7 h8 h9 h10 h11=>ih j hj i pre s c cl done rest iv Ds h1 h2 h3 h4 h5 h6 h7 h8 h9 h10 h11 J Jx hs hsx hY
 subst hiv;obtain⟨lv',cv',he,hl',hc'⟩:=id hb0;obtain⟨rfl,rfl⟩:=y2 he;have hl8:=hbo.l8;have hch:=hbo.ch;have hco:=hbo.co;have hbx:=hbo.bx;have hmo:=hsb.mo;have hmi:=hsb.mi;have hs10:=vI hsb.lc hsb.lt;refine xI (μ:=lD bh bs bl bo blo bY br b.lines.length c cl) 68 Tryz.func235 rfl rfl rfl rfl<|C.s1<|Zi rfl<|L.n2<|aK<|C.drawA [] 4 8 62 (fun _ _ _ h=>oA (P:=Tryz.prog) (fn:=Tryz.f235) _ _ _ h)<|Zq rfl Tf.a36 rfl hA Tf.s36<|Zl rfl Tf.a303 rfl (List.Mem.tail _ (List.Mem.head _)) rfl<|Za rfl<|eH rfl U303 Tf.s207 rfl rfl Yd (by push_cast;omega) rfl trivial<|dM (n:=10) (us:=ints (iI s)) rfl Tf.a207 Tf.s207 rfl (aRH _ (aRH _ (aRH _ (GE _)))) (by rw[show 0+((i:Int)).toNat*10=i*10 by omega];exact wY h10 (ZA hp hl)) (by simp[hs10]) GT rfl trivial<|Za rfl ?_;refine Ze rfl (fun D1 hD1=>S1 _ b s i _ (hb0.up (hD1 _ Yak)) hsb.lc hsb.lt)<|Zae rfl<|L.n1<|aI rfl (fun hc1=>?_) (fun hc1=>?_)
 ·refine C.s1<|Zi rfl<|L.n5<|Zah ?_;exact iP (P:=Tryz.prog) (fn:=Tryz.f235) (N:=68) (vs:=[_]) rfl rfl ⟨rfl,cW⟩ (fun D h=>⟨D,h,Le.refl D⟩) ⟨true,c,cl,rfl,h9,h10,h11,hp,rfl,by simp only[aOJ];rw[aEV (by simpa using hc1)];simp⟩
 ·have hcd:eY b s i=true:=by simpa using hc1
  refine C.kn<|C.s2<|Za rfl<|Zl rfl Tf.a33 rfl (List.Mem.tail _ (List.Mem.tail _ (List.Mem.head _))) rfl<|iR rfl U33 rfl rfl rfl trivial<|dU rfl rfl rfl rfl trivial<|L.n1<|aE rfl (fun hc2=>?_) (fun hc2=>?_)
  ·have hrun:=YA hcd (show b.lines.length≤i by omega);have hleaf:pre++[s]=c:=by rw[←hp,aNA Yd]
   rw[hrun,aQD,hleaf,aMK,aPV]at hxs;refine C.s1<|Zc 0 rfl Tf.a362 rfl hB rfl<|Zl rfl Tf.a33 rfl (List.Mem.tail _ (List.Mem.tail _ (List.Mem.head _))) rfl<|Zl rfl Tf.a303 rfl (List.Mem.tail _ (List.Mem.head _)) rfl<|X9 (l:=l) (J1:=J (done++[c])) (J0:=Jx (done++[c])) rfl rfl rfl rfl (hs _) (hsx _) (fun D w hd hJ hb hl=>hY done c _ D w bo _ ⟨rest,hxs⟩ hd hJ (fun b hbm=>by obtain⟨p,hp,rfl⟩:=aMB.1 hbm;exact bE (hb p hp).1) (hl _ hDr) ⟨blo,rfl⟩ ⟨aMB.2 ⟨_,wP,rfl⟩,(hb _ wP).2,_,_,(hb _ wP).1⟩) rfl cW (fun b1 J1 hJ1=>Zi rfl<|L.n5<|Zah ?_)
   exact iP (P:=Tryz.prog) (fn:=Tryz.f235) (N:=68) (vs:=[_]) rfl rfl ⟨rfl,cW⟩ (fun D h=>⟨D,h,Le.refl D⟩) ⟨b1,c,cl,rfl,h9,h10,h11,hp,rfl,by cases b1<;>simp only[hJ1,aOJ,aNJ,aOP];exact⟨_,rfl⟩;rw[hrun,aQD,hleaf]⟩
  ·have hil:i<b.lines.length:=by omega
   obtain⟨z,hz⟩:=C.ge b.lines i;have hdr:b.lines.drop i=z::b.lines.drop (i+1):=by rw[aNZ hil];congr 1;exact aMY ((LE hil).symm.trans hz)
   have hrun:=OV (pre:=pre) hcd hdr;rw[hrun]at hxs;refine C.kn<|aK<|aK<|iE [] 1 [0,1,2,3,4,5,8,6,7] [false,true,true,true,true,true,true,true,true] [(false,0),(true,1),(true,2),(true,3),(true,4),(true,5),(true,8),(true,6),(true,7)] Tf.follows (fun _ _ _ h=>oA (P:=Tryz.prog) (fn:=Tryz.f235) _ _ _ h) Yg rfl<|Zq rfl Tf.a36 rfl hA Tf.s36<|Zj rfl Tf.f36_3 rfl<|Zc 3 rfl Tf.a33 rfl hA rfl<|Za rfl<|Zp rfl U33 Tf.s160 rfl hl' rfl hz (fun b1 o1 cs1 hr1 hcl1 hA1=>?_);obtain rfl:cs1=[.int .i64 _,.int .i64 _,.int .i64 _]:=hr1;refine Zq rfl Tf.a160 rfl hA1 Tf.s160<|Za rfl<|bZ rfl rfl rfl (fun D2 hD2=>mL _ b z _ (hb0.up (hD2 _ Yak)) Yd) rfl cW (fun v2 D2 hD2 hp2=>?_);have hr_:=hp2;have hrl:=hr_.len;refine aO rfl U33 rfl Yk rfl rfl trivial<|L.n1<|Zai<|J5 (γ:=Nat×List Sc×List Int) (fun g=>(bR b.chairs z).length-g.1) (fun g=>g.1≤(bR b.chairs z).length∧g.2.1.length=b.lines.length+1∧vV g.2.1∧g.2.2.length=b.lines.length*3∧g.2.1.take (i+1)=pre++[s]) (fun g=>J (done++GR b i s z pre g.1)) (fun g=>[(36,.int .i64 (g.1:Int))]) [(35,_),(34,_),(7,_),(0,_),(1,_),(2,_),(3,_),(5,_)] (fun g=>lD bh bs bl bo blo bY br b.lines.length g.2.1 g.2.2) (fun g=>D2::Ds) (0,c,cl) ⟨by simp,h9,h10,h11,hp⟩ (by simp[ZK]) ⟨Ya,cW⟩ C.rs (LT _) (aD) ?_;rintro⟨k,c1,cl1⟩ ⟨h12,h91,h92,h93,hp1⟩;simp only at h12 h91 h92 h93 hp1;refine C.s1<|Zac rfl<|L.n2<|aE rfl (fun hc3=>?_) (fun hc3=>?_)
   ·simp only at hc3;obtain⟨x,hx⟩:=C.ge (bR b.chairs z) k;have hin:=((nR (hbo.ln z (aLW hz))).1 (aLW hx)).1;have hn10:(iI (bW b s i x)).length=10:=wV hsb.lc hsb.lt;have hif:(iI (if eI s x=true then bW b s i x else s)).length=10:=by split;exact hn10;exact hs10
    refine C.kn<|aK<|Zai<|C.s1<|Zp rfl U33 Tf.s160 rfl hr_ rfl hx (fun b2 o2 cs2 hr2 hcl2 hA2=>?_);obtain rfl:cs2=[.int .i64 _,.int .i64 _,.int .i64 _]:=hr2;refine Zq rfl Tf.a160 rfl hA2 Tf.s160<|Zv rfl Tf.z160 rfl (fun q1=>Zu rfl Tf.s160 (bS.head)<|L.n2<|jV (dF.mk [br,bs,bo,q1]) 5 [false,true,true,true,true,true,true,true,false,false,true,true,true,false] [.fork [0,1,2,3,4,5,6] 7 (.fin [8,9,10,11]) 11 (.fin [7,8,9,10]),.fin [12,13]] Tf.follows (fun _ _ _ h=>oA (P:=Tryz.prog) (fn:=Tryz.f235) _ _ _ h) Yg ?_);apply XJ (γ:=Nat) (fun _=>True) _ _ _ [.fork [0,1,2,3,4,5,6] 7 (.fin [8,9,10,11]) 11 (.fin [7,8,9,10])] [.fin [12,13]] rfl
    ·refine nA<|bG [(false,0),(true,1),(true,2),(true,3),(true,4),(true,5),(true,6)] rfl<|cU rfl Tf.a36 rfl hA (aLZ _ hDr) Tf.s36 (dF.out Ye) rfl trivial<|aT rfl Tf.a303 rfl (List.Mem.tail _ (List.Mem.tail _ (List.Mem.head _))) rfl (dF.out Ye) rfl trivial<|Za rfl<|eH rfl U303 Tf.s207 rfl rfl Yd (by push_cast;omega) rfl trivial<|dM (n:=10) (us:=ints (iI s)) rfl Tf.a207 Tf.s207 rfl (aRH _ (aRH _ (aRH _ (aRH _ (GE _))))) (by rw[show 0+((i:Int)).toNat*10=i*10 by omega];exact wY h92 (ZA hp1 hl)) (by simp[hs10]) (dF.out Ye) rfl trivial<|Za rfl<|bA (e:=160) (fz:=(0,0)) rfl Tf.a160 rfl (GE _) Tf.s160 (dF.out Ye) rfl trivial<|Zaa (dB true true rfl rfl ?_ ?_)
     ·refine Ze rfl (fun D3 hD3=>pL _ b s i x _ (hb0.up (hD3 _ Yak)) hsb.lc hsb.lt (by have:=hin.2;omega) (by have:=hin.2;omega) Yd Yd Yd Yd)<|Zaa<|aR [(false,8),(false,9),(true,10),(true,11)] rfl<|Za rfl<|Zab rfl<|Zab rfl<|Zv rfl Tf.z207 rfl (fun q2=>Zaa ?_);exact fun a w hh=>⟨q2,cW,hh⟩
     ·refine Zv rfl Tf.z207 rfl (fun q2=>Zaa<|aR [(true,7),(false,8),(false,9),(true,10)] rfl<|Ze rfl (fun D3 hD3=>pL _ b s i x _ (hb0.up (hD3 _ Yak)) hsb.lc hsb.lt (by have:=hin.2;omega) (by have:=hin.2;omega) Yd Yd Yd Yd)<|Za rfl<|Zab rfl<|Zab rfl<|Zaa ?_);exact fun a w hh=>⟨q2,cW,hh.weak C.rs (LT _) aD⟩
    rintro q2 -;refine hP [(true,12),(false,13)] rfl<|bD hA Yak (fun hap=>V6 (fun hnd=>gF (off:=0) (us:=ints (iI (if eI s x=true then bW b s i x else s))) (ws:=ints (iI (if eI s x=true then bW b s i x else s))) rfl rfl rfl rfl (by rw[show(ints _).length=10 by simp[hif]];exact Tf.s207) (bS.head) (by simp[hif]) (by simp[hif]) (bU _) (aMD (dF.in_ (aLP hap hnd))) trivial<|Zi rfl<|Zaa<|iC<|Zag<|C.s2<|Za rfl<|Zae rfl<|L.n1 ?_));refine aI rfl (fun hc4=>?_) (fun hc4=>?_)
    ·have hcan:eI s x=false:=by simpa using hc4
     refine aP<|Zaj<|Zam<|Zag<|C.rg<|Zw rfl<|Za rfl<|Zaa ?_;exact lM 22 (k+1,c1,cl1) ⟨by simp only;omega,h91,h92,h93,hp1⟩ Yl (by rw[ZD hx hcan]) ⟨Ya,cW⟩ rfl rfl (List.Sublist.cons _ (List.Sublist.cons _ (LT _))) (aD)
    ·have hcan:eI s x=true:=by simpa using hc4
     rw[aMT hcan];obtain⟨rr,hr⟩:=EJ (b:=b) (i:=i) (s:=s) (z:=z) (pre:=pre) (k:=k+1);refine C.kn<|aK<|C.drawA (dF.mk [bl,bs,q1,q2]) 1 11 510 (fun _ _ _ h=>oA (P:=Tryz.prog) (fn:=Tryz.f235) _ _ _ h)<|aT rfl Tf.a33 rfl (List.Mem.tail _ (List.Mem.tail _ (List.Mem.tail _ (List.Mem.tail _ (List.Mem.head _))))) rfl (dF.out Ye) rfl trivial<|Za rfl<|aT rfl Tf.a303 rfl (List.Mem.tail _ (List.Mem.tail _ (List.Mem.tail _ (List.Mem.head _)))) rfl (dF.out Ye) rfl trivial<|Za rfl<|Zw rfl<|bA (e:=160) (fz:=(0,0)) rfl Tf.a160 rfl (aRH _ (GE _)) Tf.s160 (dF.out Ye) rfl trivial<|bA (e:=207) (fz:=(0,0)) rfl Tf.a207 rfl (GE _) (by rw[show(ints _).length=10 by simp[hn10]];exact Tf.s207) (dF.out Ye) rfl trivial<|eH rfl U33 Tf.s160 rfl rfl Yd Yd rfl trivial<|V6 (fun hnd=>?_);refine gF (off:=i*3) (us:=ints [x.kind,x.chair,x.token]) (ws:=ints (wr cl1 (i*3) [x.kind,x.chair,x.token])) rfl (nC Yd) rfl rfl Tf.s160 (.tail (.tail (.tail (.tail (.tail (.tail .head)))))) Yah ND (bU _) (aMD (dF.in_ (aDB hnd).1)) trivial<|eH rfl U303 Tf.s207 rfl rfl Yd (by push_cast;omega) rfl trivial<|gF (off:=(i+1)*10) (us:=ints (iI (bW b s i x))) (ws:=bQ (c1.set (i+1) (bW b s i x))) rfl (nC Yd) rfl rfl (by rw[show(ints _).length=10 by simp[hn10]];exact Tf.s207) (.tail (.tail (.tail (.tail (.tail .head))))) (by rw[JB h92,aJ,hn10];omega) (HW h92 hn10 Yd) (bU _) (aMD (dF.in_ (aDB hnd).2)) trivial<|L.n2<|MW (μ':=lD bh bs bl bo blo bY br b.lines.length (c1.set (i+1) (bW b s i x)) (wr cl1 (i*3) [x.kind,x.chair,x.token])) 2 rfl<|C.rg<|Zl rfl Tf.a191 rfl (List.Mem.head _) rfl<|Za rfl<|Zw rfl<|nQ rfl rfl rfl rfl (ih (j-1) Yd (i+1) (pre++[s]) (bW b s i x) (c1.set (i+1) (bW b s i x)) (wr cl1 (i*3) [x.kind,x.chair,x.token]) (done++GR b i s z pre k) (rr++rest) (i+1:Int) _ (aLZ _ hDr) (aLZ _ hDy) Yd Yd Yah (by simpa using h91) (h92.set hn10 _) (by rw[aBH Yah];exact h93) (W6 Yd hp1) (tW hbo hsb x i) (by rw[hxs,hr,J7 hx hcan];simp)) rfl cW ?_
     rintro _ J2 _ ⟨b2,c2,cl2,rfl,h9',h10',h11',hp',rfl,hJ2⟩;refine Zae rfl<|L.n1<|aI rfl (fun hc5=>?_) (fun hc5=>?_)
     ·obtain rfl:b2=false:=by simpa using hc5
      refine C.s1<|Zi rfl<|L.n5<|Zal<|Zah<|Zah<|Zal<|Zah ?_;exact iP (P:=Tryz.prog) (fn:=Tryz.f235) (N:=68) (vs:=[_]) rfl rfl ⟨rfl,cW⟩ (fun D h=>⟨D,aLZ _ h,Le.refl D⟩) ⟨false,c2,cl2,rfl,h9',h10',h11',uY hp' hl,rfl,by simpa using hJ2⟩
     ·obtain rfl:b2=true:=by simpa using hc5
      refine bB<|Zak<|Zag<|C.rg<|Zw rfl<|Za rfl<|Zaa ?_;exact lM 36 (k+1,c2,cl2) ⟨by simp only;omega,h9',h10',h11',uY hp' hl⟩ Yl (by simpa only[aOJ,J7 hx hcan,aMK]using hJ2) ⟨Ya,cW⟩ rfl rfl (LT _) (aD)
   ·have hk:k=(bR b.chairs z).length:=by simp only at hc3;omega
    refine aP<|Zaj<|Zaj<|Zam<|Zag<|C.s1<|Zi rfl<|L.n5 ?_;exact iP (P:=Tryz.prog) (fn:=Tryz.f235) (N:=68) (vs:=[_]) rfl rfl ⟨rfl,cW⟩ (fun D h=>⟨D,aLZ _ h,Le.refl D⟩) ⟨true,c1,cl1,rfl,h91,h92,h93,hp1,rfl,by simp only[aOJ];rw[hrun,hk]⟩
theorem A6{n:Nat}:vV (List.replicate n sE):=fun s hs=>by rw[List.eq_of_mem_replicate hs];rfl
set_option maxHeartbeats 1000000 in
theorem wS{b:aZ}{bv lv cv:Value}{Dr:aA}{br:Nat}(hbo:SB b)(hbv:bv=.agg #[.int .i64 b.chairs,.int .i64 b.coin,.int .i64 b.box,lv,cv])(hb0:fJ Dr bv b)(hA:At Dr br 0 [.int .i64 b.chairs,.int .i64 b.coin,.int .i64 b.box,lv,cv]):
  LN Tryz.prog 234 [.pointer (some ⟨br,0,none⟩)] Dr (jB b 0 (eG b)) (MS b.lines.length) bQ:=by
 subst hbv;obtain⟨lv',cv',he,hl',hc'⟩:=id hb0;obtain⟨rfl,rfl⟩:=y2 he;have hl8:=hbo.l8;refine GV 22 Tryz.func234 rfl rfl rfl rfl (fun lo l J Jx hs hsx hY=>C.s1<|Zt rfl (fun q1 E1 hE1 hB1=>L.n2<|jV (dF.mk [br]) 4 [false,false,false,true,true,true,true,true,true,true,true,true,false] [.forkN [0,1,2,4,5,6,7] 3 [8,9,10] (gY [(3,.forkN [] 8 [9,10] (gY [(8,.fork [] 9 (.fin [10,11]) 10 (.fin [9,11])),(9,.fork [] 8 (.fin [10,11]) 10 (.fork [] 8 (.fin [11]) 11 (.fin [8]))),(10,.fork [] 8 (.fin [9,11]) 9 (.fork [] 8 (.fin [11]) 11 (.fin [8])))])),(8,.forkN [] 3 [9,10] (gY [(3,.fork [] 9 (.fin [10,11]) 10 (.fin [9,11])),(9,.fork [] 3 (.fin [10,11]) 10 (.fin [3,11])),(10,.fork [] 3 (.fin [9,11]) 9 (.fin [3,11]))])),(9,.forkN [] 3 [8,10] (gY [(3,.fork [] 8 (.fin [10,11]) 10 (.fork [] 8 (.fin [11]) 11 (.fin [8]))),(8,.fork [] 3 (.fin [10,11]) 10 (.fin [3,11])),(10,.fork [] 3 (.fork [] 8 (.fin [11]) 11 (.fin [8])) 8 (.fin [3,11]))])),(10,.forkN [] 3 [8,9] (gY [(3,.fork [] 8 (.fin [9,11]) 9 (.fork [] 8 (.fin [11]) 11 (.fin [8]))),(8,.fork [] 3 (.fin [9,11]) 9 (.fin [3,11])),(9,.fork [] 3 (.fork [] 8 (.fin [11]) 11 (.fin [8])) 8 (.fin [3,11]))]))]),.fin [12]] Tf.follows (fun _ _ _ h=>oA (P:=Tryz.prog) (fn:=Tryz.f234) _ _ _ h) Yg<|XJ (γ:=Nat×Nat×Nat×Nat) (fun g=>True) (fun g=>[(3,.pointer (some ⟨g.1,0,none⟩)),(4,.pointer (some ⟨g.2.1,0,none⟩)),(14,.slice (some ⟨g.2.2.1,0,none⟩) (b.lines.length+1) (b.lines.length+1)),(2,.pointer (some ⟨q1,0,none⟩)),(1,.pointer (some ⟨br,0,none⟩)),(0,.func (.yield l) #[] #[])]) (fun g=>[(g.2.1,.cells [.slice none 0 0].toArray 303 (0,0)),(g.1,.cells [.slice (some ⟨g.2.2.2,0,none⟩) b.lines.length b.lines.length].toArray 33 (0,0)),(g.2.2.1,.cells (bQ (List.replicate (b.lines.length+1) sE)).toArray 207 (0,0)),(g.2.2.2,.cells (ints (List.replicate (b.lines.length*3) 0)).toArray 160 (0,0))]) (fun g=>[E1,Dr]) [.forkN [0,1,2,4,5,6,7] 3 [8,9,10] (gY [(3,.forkN [] 8 [9,10] (gY [(8,.fork [] 9 (.fin [10,11]) 10 (.fin [9,11])),(9,.fork [] 8 (.fin [10,11]) 10 (.fork [] 8 (.fin [11]) 11 (.fin [8]))),(10,.fork [] 8 (.fin [9,11]) 9 (.fork [] 8 (.fin [11]) 11 (.fin [8])))])),(8,.forkN [] 3 [9,10] (gY [(3,.fork [] 9 (.fin [10,11]) 10 (.fin [9,11])),(9,.fork [] 3 (.fin [10,11]) 10 (.fin [3,11])),(10,.fork [] 3 (.fin [9,11]) 9 (.fin [3,11]))])),(9,.forkN [] 3 [8,10] (gY [(3,.fork [] 8 (.fin [10,11]) 10 (.fork [] 8 (.fin [11]) 11 (.fin [8]))),(8,.fork [] 3 (.fin [10,11]) 10 (.fin [3,11])),(10,.fork [] 3 (.fork [] 8 (.fin [11]) 11 (.fin [8])) 8 (.fin [3,11]))])),(10,.forkN [] 3 [8,9] (gY [(3,.fork [] 8 (.fin [9,11]) 9 (.fork [] 8 (.fin [11]) 11 (.fin [8]))),(8,.fork [] 3 (.fin [9,11]) 9 (.fin [3,11])),(9,.fork [] 3 (.fork [] 8 (.fin [11]) 11 (.fin [8])) 8 (.fin [3,11]))]))])] [.fin [12]] rfl ?_ ?_))
 ·refine nA<|mO [(false,0),(false,1),(false,2),(true,4),(true,5),(true,6),(true,7)] rfl<|Zj rfl Tf.f36_3 rfl<|bC rfl (k:=3) Tf.a33 rfl hA Ye rfl (dF.out Ye) rfl trivial<|aO rfl U33 rfl hl' rfl rfl trivial<|Zj rfl Tf.f36_3 rfl<|bC rfl (k:=3) Tf.a33 rfl hA Ye rfl (dF.out Ye) rfl trivial<|aO rfl U33 rfl hl' rfl rfl trivial<|Zw rfl ?_;refine Zaa (eP true rfl rfl ?_ (eP true rfl rfl ?_ (eP true rfl rfl ?_ (eP true rfl rfl ?_ (tP)))))
  ·refine aQ (n:=b.lines.length) rfl U33 Tf.s160 Tf.z160 rfl Tf.i160 rfl rfl Yd (aX Ye rfl) rfl cW (fun blo=>Zaa<|mO [] rfl ?_);refine Zaa (eP true rfl rfl ?_ (eP true rfl rfl ?_ (eP true rfl rfl ?_ (tP))))
   ·refine aQ (n:=b.lines.length+1) rfl U303 Tf.s207 Tf.z207 rfl Tf.i207 Ya Ya Yd ((aX Ye rfl).trans (eW _)) rfl cW (fun bo=>Zaa<|bG [] rfl<|Zaa (dB true true rfl rfl ?_ ?_))
    ·refine Zv rfl Tf.z33 rfl (fun q2=>Zaa<|aR [(true,10),(true,11)] rfl<|Zv rfl Tf.z303 rfl (fun q3=>bD hA Ye (fun hap=>Zo 0 [.slice none 0 0] [.slice (some ⟨blo,0,none⟩) b.lines.length b.lines.length] [.slice (some ⟨blo,0,none⟩) b.lines.length b.lines.length] rfl Tf.s33 (.tail (bS.head)) rfl (aMD (dF.in_ Yn))<|Zaa ?_)));exact fun a w hh=>⟨(q2,q3,bo,blo),cW,(hh.perm (μ':=[(q3,.cells [.slice none 0 0].toArray 303 (0,0)),(q2,.cells [.slice (some ⟨blo,0,none⟩) b.lines.length b.lines.length].toArray 33 (0,0)),(bo,.cells (bQ (List.replicate (b.lines.length+1) sE)).toArray 207 (0,0)),(blo,.cells (ints (List.replicate (b.lines.length*3) 0)).toArray 160 (0,0))]) Ye Yaa).weak C.rs (LT _) aD⟩
    ·refine Zv rfl Tf.z303 rfl (fun q2=>Zaa<|aR [(true,9),(true,11)] rfl<|Zv rfl Tf.z33 rfl (fun q3=>bD hA Ye (fun hap=>Zo 0 [.slice none 0 0] [.slice (some ⟨blo,0,none⟩) b.lines.length b.lines.length] [.slice (some ⟨blo,0,none⟩) b.lines.length b.lines.length] rfl Tf.s33 (bS.head) rfl (aMD (dF.in_ Yr))<|Zaa ?_)));exact fun a w hh=>⟨(q3,q2,bo,blo),cW,(hh.perm (μ':=[(q2,.cells [.slice none 0 0].toArray 303 (0,0)),(q3,.cells [.slice (some ⟨blo,0,none⟩) b.lines.length b.lines.length].toArray 33 (0,0)),(bo,.cells (bQ (List.replicate (b.lines.length+1) sE)).toArray 207 (0,0)),(blo,.cells (ints (List.replicate (b.lines.length*3) 0)).toArray 160 (0,0))]) Ye Yaa).weak C.rs (LT _) aD⟩
   ·refine Zv rfl Tf.z33 rfl (fun q2=>Zaa<|bG [] rfl<|Zaa (dB true true rfl rfl ?_ ?_))
    ·refine aQ (n:=b.lines.length+1) rfl U303 Tf.s207 Tf.z207 rfl Tf.i207 Ya Ya Yd ((aX Ye rfl).trans (eW _)) rfl cW (fun bo=>Zaa<|aR [(true,10),(true,11)] rfl<|Zv rfl Tf.z303 rfl (fun q3=>bD hA Ye (fun hap=>Zo 0 [.slice none 0 0] [.slice (some ⟨blo,0,none⟩) b.lines.length b.lines.length] [.slice (some ⟨blo,0,none⟩) b.lines.length b.lines.length] rfl Tf.s33 (.tail (.tail (bS.head))) rfl (aMD (dF.in_ Ym))<|Zaa ?_)));exact fun a w hh=>⟨(q2,q3,bo,blo),cW,(hh.perm (μ':=[(q3,.cells [.slice none 0 0].toArray 303 (0,0)),(q2,.cells [.slice (some ⟨blo,0,none⟩) b.lines.length b.lines.length].toArray 33 (0,0)),(bo,.cells (bQ (List.replicate (b.lines.length+1) sE)).toArray 207 (0,0)),(blo,.cells (ints (List.replicate (b.lines.length*3) 0)).toArray 160 (0,0))]) Ye Yaa).weak C.rs (LT _) aD⟩
    ·refine Zv rfl Tf.z303 rfl (fun q3=>Zaa<|bG [] rfl<|Zaa (dB true true rfl rfl ?_ ?_))
     ·refine aQ (n:=b.lines.length+1) rfl U303 Tf.s207 Tf.z207 rfl Tf.i207 Ya Ya Yd ((aX Ye rfl).trans (eW _)) rfl cW (fun bo=>Zaa<|aR [(true,11)] rfl<|bD hA Ye (fun hap=>Zo 0 [.slice none 0 0] [.slice (some ⟨blo,0,none⟩) b.lines.length b.lines.length] [.slice (some ⟨blo,0,none⟩) b.lines.length b.lines.length] rfl Tf.s33 (.tail (.tail (bS.head))) rfl (aMD (dF.in_ Ym))<|Zaa ?_));exact fun a w hh=>⟨(q2,q3,bo,blo),cW,(hh.perm (μ':=[(q3,.cells [.slice none 0 0].toArray 303 (0,0)),(q2,.cells [.slice (some ⟨blo,0,none⟩) b.lines.length b.lines.length].toArray 33 (0,0)),(bo,.cells (bQ (List.replicate (b.lines.length+1) sE)).toArray 207 (0,0)),(blo,.cells (ints (List.replicate (b.lines.length*3) 0)).toArray 160 (0,0))]) Ye Yaa).weak C.rs (LT _) aD⟩
     ·refine bD hA Ye (fun hap=>Zo 0 [.slice none 0 0] [.slice (some ⟨blo,0,none⟩) b.lines.length b.lines.length] [.slice (some ⟨blo,0,none⟩) b.lines.length b.lines.length] rfl Tf.s33 (.tail (bS.head)) rfl (aMD (dF.in_ Yn))<|Zaa<|aR [(true,8)] rfl<|aQ (n:=b.lines.length+1) rfl U303 Tf.s207 Tf.z207 rfl Tf.i207 Ya Ya Yd ((aX Ye rfl).trans (eW _)) rfl cW (fun bo=>Zaa ?_));exact fun a w hh=>⟨(q2,q3,bo,blo),cW,(hh.perm (μ':=[(q3,.cells [.slice none 0 0].toArray 303 (0,0)),(q2,.cells [.slice (some ⟨blo,0,none⟩) b.lines.length b.lines.length].toArray 33 (0,0)),(bo,.cells (bQ (List.replicate (b.lines.length+1) sE)).toArray 207 (0,0)),(blo,.cells (ints (List.replicate (b.lines.length*3) 0)).toArray 160 (0,0))]) Ye Yaa).weak C.rs (LT _) aD⟩
   ·refine Zv rfl Tf.z303 rfl (fun q2=>Zaa<|bG [] rfl<|Zaa (dB true true rfl rfl ?_ ?_))
    ·refine aQ (n:=b.lines.length+1) rfl U303 Tf.s207 Tf.z207 rfl Tf.i207 Ya Ya Yd ((aX Ye rfl).trans (eW _)) rfl cW (fun bo=>Zaa<|aR [(true,9),(true,11)] rfl<|Zv rfl Tf.z33 rfl (fun q3=>bD hA Ye (fun hap=>Zo 0 [.slice none 0 0] [.slice (some ⟨blo,0,none⟩) b.lines.length b.lines.length] [.slice (some ⟨blo,0,none⟩) b.lines.length b.lines.length] rfl Tf.s33 (bS.head) rfl (aMD (dF.in_ Yr))<|Zaa ?_)));exact fun a w hh=>⟨(q3,q2,bo,blo),cW,(hh.perm (μ':=[(q2,.cells [.slice none 0 0].toArray 303 (0,0)),(q3,.cells [.slice (some ⟨blo,0,none⟩) b.lines.length b.lines.length].toArray 33 (0,0)),(bo,.cells (bQ (List.replicate (b.lines.length+1) sE)).toArray 207 (0,0)),(blo,.cells (ints (List.replicate (b.lines.length*3) 0)).toArray 160 (0,0))]) Ye Yaa).weak C.rs (LT _) aD⟩
    ·refine Zv rfl Tf.z33 rfl (fun q3=>Zaa<|bG [] rfl<|Zaa (dB true true rfl rfl ?_ ?_))
     ·refine aQ (n:=b.lines.length+1) rfl U303 Tf.s207 Tf.z207 rfl Tf.i207 Ya Ya Yd ((aX Ye rfl).trans (eW _)) rfl cW (fun bo=>Zaa<|aR [(true,11)] rfl<|bD hA Ye (fun hap=>Zo 0 [.slice none 0 0] [.slice (some ⟨blo,0,none⟩) b.lines.length b.lines.length] [.slice (some ⟨blo,0,none⟩) b.lines.length b.lines.length] rfl Tf.s33 (.tail (bS.head)) rfl (aMD (dF.in_ Yn))<|Zaa ?_));exact fun a w hh=>⟨(q3,q2,bo,blo),cW,(hh.perm (μ':=[(q2,.cells [.slice none 0 0].toArray 303 (0,0)),(q3,.cells [.slice (some ⟨blo,0,none⟩) b.lines.length b.lines.length].toArray 33 (0,0)),(bo,.cells (bQ (List.replicate (b.lines.length+1) sE)).toArray 207 (0,0)),(blo,.cells (ints (List.replicate (b.lines.length*3) 0)).toArray 160 (0,0))]) Ye Yaa).weak C.rs (LT _) aD⟩
     ·refine bD hA Ye (fun hap=>Zo 0 [.slice none 0 0] [.slice (some ⟨blo,0,none⟩) b.lines.length b.lines.length] [.slice (some ⟨blo,0,none⟩) b.lines.length b.lines.length] rfl Tf.s33 (bS.head) rfl (aMD (dF.in_ Yr))<|Zaa<|aR [(true,8)] rfl<|aQ (n:=b.lines.length+1) rfl U303 Tf.s207 Tf.z207 rfl Tf.i207 Ya Ya Yd ((aX Ye rfl).trans (eW _)) rfl cW (fun bo=>Zaa ?_));exact fun a w hh=>⟨(q3,q2,bo,blo),cW,(hh.perm (μ':=[(q2,.cells [.slice none 0 0].toArray 303 (0,0)),(q3,.cells [.slice (some ⟨blo,0,none⟩) b.lines.length b.lines.length].toArray 33 (0,0)),(bo,.cells (bQ (List.replicate (b.lines.length+1) sE)).toArray 207 (0,0)),(blo,.cells (ints (List.replicate (b.lines.length*3) 0)).toArray 160 (0,0))]) Ye Yaa).weak C.rs (LT _) aD⟩
  ·refine aQ (n:=b.lines.length+1) rfl U303 Tf.s207 Tf.z207 rfl Tf.i207 Ya Ya Yd ((aX Ye rfl).trans (eW _)) rfl cW (fun bo=>Zaa<|mO [] rfl ?_);refine Zaa (eP true rfl rfl ?_ (eP true rfl rfl ?_ (eP true rfl rfl ?_ (tP))))
   ·refine aQ (n:=b.lines.length) rfl U33 Tf.s160 Tf.z160 rfl Tf.i160 rfl rfl Yd (aX Ye rfl) rfl cW (fun blo=>Zaa<|bG [] rfl<|Zaa (dB true true rfl rfl ?_ ?_))
    ·refine Zv rfl Tf.z33 rfl (fun q2=>Zaa<|aR [(true,10),(true,11)] rfl<|Zv rfl Tf.z303 rfl (fun q3=>bD hA Ye (fun hap=>Zo 0 [.slice none 0 0] [.slice (some ⟨blo,0,none⟩) b.lines.length b.lines.length] [.slice (some ⟨blo,0,none⟩) b.lines.length b.lines.length] rfl Tf.s33 (.tail (bS.head)) rfl (aMD (dF.in_ Yn))<|Zaa ?_)));exact fun a w hh=>⟨(q2,q3,bo,blo),cW,(hh.perm (μ':=[(q3,.cells [.slice none 0 0].toArray 303 (0,0)),(q2,.cells [.slice (some ⟨blo,0,none⟩) b.lines.length b.lines.length].toArray 33 (0,0)),(bo,.cells (bQ (List.replicate (b.lines.length+1) sE)).toArray 207 (0,0)),(blo,.cells (ints (List.replicate (b.lines.length*3) 0)).toArray 160 (0,0))]) Ye Yaa).weak C.rs (LT _) aD⟩
    ·refine Zv rfl Tf.z303 rfl (fun q2=>Zaa<|aR [(true,9),(true,11)] rfl<|Zv rfl Tf.z33 rfl (fun q3=>bD hA Ye (fun hap=>Zo 0 [.slice none 0 0] [.slice (some ⟨blo,0,none⟩) b.lines.length b.lines.length] [.slice (some ⟨blo,0,none⟩) b.lines.length b.lines.length] rfl Tf.s33 (bS.head) rfl (aMD (dF.in_ Yr))<|Zaa ?_)));exact fun a w hh=>⟨(q3,q2,bo,blo),cW,(hh.perm (μ':=[(q2,.cells [.slice none 0 0].toArray 303 (0,0)),(q3,.cells [.slice (some ⟨blo,0,none⟩) b.lines.length b.lines.length].toArray 33 (0,0)),(bo,.cells (bQ (List.replicate (b.lines.length+1) sE)).toArray 207 (0,0)),(blo,.cells (ints (List.replicate (b.lines.length*3) 0)).toArray 160 (0,0))]) Ye Yaa).weak C.rs (LT _) aD⟩
   ·refine Zv rfl Tf.z33 rfl (fun q2=>Zaa<|bG [] rfl<|Zaa (dB true true rfl rfl ?_ ?_))
    ·refine aQ (n:=b.lines.length) rfl U33 Tf.s160 Tf.z160 rfl Tf.i160 rfl rfl Yd (aX Ye rfl) rfl cW (fun blo=>Zaa<|aR [(true,10),(true,11)] rfl<|Zv rfl Tf.z303 rfl (fun q3=>bD hA Ye (fun hap=>Zo 0 [.slice none 0 0] [.slice (some ⟨blo,0,none⟩) b.lines.length b.lines.length] [.slice (some ⟨blo,0,none⟩) b.lines.length b.lines.length] rfl Tf.s33 (.tail (.tail (bS.head))) rfl (aMD (dF.in_ Ym))<|Zaa ?_)));exact fun a w hh=>⟨(q2,q3,bo,blo),cW,(hh.perm (μ':=[(q3,.cells [.slice none 0 0].toArray 303 (0,0)),(q2,.cells [.slice (some ⟨blo,0,none⟩) b.lines.length b.lines.length].toArray 33 (0,0)),(bo,.cells (bQ (List.replicate (b.lines.length+1) sE)).toArray 207 (0,0)),(blo,.cells (ints (List.replicate (b.lines.length*3) 0)).toArray 160 (0,0))]) Ye Yaa).weak C.rs (LT _) aD⟩
    ·refine Zv rfl Tf.z303 rfl (fun q3=>Zaa<|aR [(true,3),(true,11)] rfl<|aQ (n:=b.lines.length) rfl U33 Tf.s160 Tf.z160 rfl Tf.i160 rfl rfl Yd (aX Ye rfl) rfl cW (fun blo=>bD hA Ye (fun hap=>Zo 0 [.slice none 0 0] [.slice (some ⟨blo,0,none⟩) b.lines.length b.lines.length] [.slice (some ⟨blo,0,none⟩) b.lines.length b.lines.length] rfl Tf.s33 (.tail (.tail (bS.head))) rfl (aMD (dF.in_ Ym))<|Zaa ?_)));exact fun a w hh=>⟨(q2,q3,bo,blo),cW,(hh.perm (μ':=[(q3,.cells [.slice none 0 0].toArray 303 (0,0)),(q2,.cells [.slice (some ⟨blo,0,none⟩) b.lines.length b.lines.length].toArray 33 (0,0)),(bo,.cells (bQ (List.replicate (b.lines.length+1) sE)).toArray 207 (0,0)),(blo,.cells (ints (List.replicate (b.lines.length*3) 0)).toArray 160 (0,0))]) Ye Yaa).weak C.rs (LT _) aD⟩
   ·refine Zv rfl Tf.z303 rfl (fun q2=>Zaa<|bG [] rfl<|Zaa (dB true true rfl rfl ?_ ?_))
    ·refine aQ (n:=b.lines.length) rfl U33 Tf.s160 Tf.z160 rfl Tf.i160 rfl rfl Yd (aX Ye rfl) rfl cW (fun blo=>Zaa<|aR [(true,9),(true,11)] rfl<|Zv rfl Tf.z33 rfl (fun q3=>bD hA Ye (fun hap=>Zo 0 [.slice none 0 0] [.slice (some ⟨blo,0,none⟩) b.lines.length b.lines.length] [.slice (some ⟨blo,0,none⟩) b.lines.length b.lines.length] rfl Tf.s33 (bS.head) rfl (aMD (dF.in_ Yr))<|Zaa ?_)));exact fun a w hh=>⟨(q3,q2,bo,blo),cW,(hh.perm (μ':=[(q2,.cells [.slice none 0 0].toArray 303 (0,0)),(q3,.cells [.slice (some ⟨blo,0,none⟩) b.lines.length b.lines.length].toArray 33 (0,0)),(bo,.cells (bQ (List.replicate (b.lines.length+1) sE)).toArray 207 (0,0)),(blo,.cells (ints (List.replicate (b.lines.length*3) 0)).toArray 160 (0,0))]) Ye Yaa).weak C.rs (LT _) aD⟩
    ·refine Zv rfl Tf.z33 rfl (fun q3=>Zaa<|aR [(true,3),(true,11)] rfl<|aQ (n:=b.lines.length) rfl U33 Tf.s160 Tf.z160 rfl Tf.i160 rfl rfl Yd (aX Ye rfl) rfl cW (fun blo=>bD hA Ye (fun hap=>Zo 0 [.slice none 0 0] [.slice (some ⟨blo,0,none⟩) b.lines.length b.lines.length] [.slice (some ⟨blo,0,none⟩) b.lines.length b.lines.length] rfl Tf.s33 (.tail (bS.head)) rfl (aMD (dF.in_ Yn))<|Zaa ?_)));exact fun a w hh=>⟨(q3,q2,bo,blo),cW,(hh.perm (μ':=[(q2,.cells [.slice none 0 0].toArray 303 (0,0)),(q3,.cells [.slice (some ⟨blo,0,none⟩) b.lines.length b.lines.length].toArray 33 (0,0)),(bo,.cells (bQ (List.replicate (b.lines.length+1) sE)).toArray 207 (0,0)),(blo,.cells (ints (List.replicate (b.lines.length*3) 0)).toArray 160 (0,0))]) Ye Yaa).weak C.rs (LT _) aD⟩
  ·refine Zv rfl Tf.z33 rfl (fun q2=>Zaa<|mO [] rfl ?_);refine Zaa (eP true rfl rfl ?_ (eP true rfl rfl ?_ (eP true rfl rfl ?_ (tP))))
   ·refine aQ (n:=b.lines.length) rfl U33 Tf.s160 Tf.z160 rfl Tf.i160 rfl rfl Yd (aX Ye rfl) rfl cW (fun blo=>Zaa<|bG [] rfl<|Zaa (dB true true rfl rfl ?_ ?_))
    ·refine aQ (n:=b.lines.length+1) rfl U303 Tf.s207 Tf.z207 rfl Tf.i207 Ya Ya Yd ((aX Ye rfl).trans (eW _)) rfl cW (fun bo=>Zaa<|aR [(true,10),(true,11)] rfl<|Zv rfl Tf.z303 rfl (fun q3=>bD hA Ye (fun hap=>Zo 0 [.slice none 0 0] [.slice (some ⟨blo,0,none⟩) b.lines.length b.lines.length] [.slice (some ⟨blo,0,none⟩) b.lines.length b.lines.length] rfl Tf.s33 (.tail (.tail (.tail (bS.head)))) rfl (aMD (dF.in_ Yo))<|Zaa ?_)));exact fun a w hh=>⟨(q2,q3,bo,blo),cW,(hh.perm (μ':=[(q3,.cells [.slice none 0 0].toArray 303 (0,0)),(q2,.cells [.slice (some ⟨blo,0,none⟩) b.lines.length b.lines.length].toArray 33 (0,0)),(bo,.cells (bQ (List.replicate (b.lines.length+1) sE)).toArray 207 (0,0)),(blo,.cells (ints (List.replicate (b.lines.length*3) 0)).toArray 160 (0,0))]) Ye Yaa).weak C.rs (LT _) aD⟩
    ·refine Zv rfl Tf.z303 rfl (fun q3=>Zaa<|bG [] rfl<|Zaa (dB true true rfl rfl ?_ ?_))
     ·refine aQ (n:=b.lines.length+1) rfl U303 Tf.s207 Tf.z207 rfl Tf.i207 Ya Ya Yd ((aX Ye rfl).trans (eW _)) rfl cW (fun bo=>Zaa<|aR [(true,11)] rfl<|bD hA Ye (fun hap=>Zo 0 [.slice none 0 0] [.slice (some ⟨blo,0,none⟩) b.lines.length b.lines.length] [.slice (some ⟨blo,0,none⟩) b.lines.length b.lines.length] rfl Tf.s33 (.tail (.tail (.tail (bS.head)))) rfl (aMD (dF.in_ Yo))<|Zaa ?_));exact fun a w hh=>⟨(q2,q3,bo,blo),cW,(hh.perm (μ':=[(q3,.cells [.slice none 0 0].toArray 303 (0,0)),(q2,.cells [.slice (some ⟨blo,0,none⟩) b.lines.length b.lines.length].toArray 33 (0,0)),(bo,.cells (bQ (List.replicate (b.lines.length+1) sE)).toArray 207 (0,0)),(blo,.cells (ints (List.replicate (b.lines.length*3) 0)).toArray 160 (0,0))]) Ye Yaa).weak C.rs (LT _) aD⟩
     ·refine bD hA Ye (fun hap=>Zo 0 [.slice none 0 0] [.slice (some ⟨blo,0,none⟩) b.lines.length b.lines.length] [.slice (some ⟨blo,0,none⟩) b.lines.length b.lines.length] rfl Tf.s33 (.tail (.tail (bS.head))) rfl (aMD (dF.in_ Ym))<|Zaa<|aR [(true,8)] rfl<|aQ (n:=b.lines.length+1) rfl U303 Tf.s207 Tf.z207 rfl Tf.i207 Ya Ya Yd ((aX Ye rfl).trans (eW _)) rfl cW (fun bo=>Zaa ?_));exact fun a w hh=>⟨(q2,q3,bo,blo),cW,(hh.perm (μ':=[(q3,.cells [.slice none 0 0].toArray 303 (0,0)),(q2,.cells [.slice (some ⟨blo,0,none⟩) b.lines.length b.lines.length].toArray 33 (0,0)),(bo,.cells (bQ (List.replicate (b.lines.length+1) sE)).toArray 207 (0,0)),(blo,.cells (ints (List.replicate (b.lines.length*3) 0)).toArray 160 (0,0))]) Ye Yaa).weak C.rs (LT _) aD⟩
   ·refine aQ (n:=b.lines.length+1) rfl U303 Tf.s207 Tf.z207 rfl Tf.i207 Ya Ya Yd ((aX Ye rfl).trans (eW _)) rfl cW (fun bo=>Zaa<|bG [] rfl<|Zaa (dB true true rfl rfl ?_ ?_))
    ·refine aQ (n:=b.lines.length) rfl U33 Tf.s160 Tf.z160 rfl Tf.i160 rfl rfl Yd (aX Ye rfl) rfl cW (fun blo=>Zaa<|aR [(true,10),(true,11)] rfl<|Zv rfl Tf.z303 rfl (fun q3=>bD hA Ye (fun hap=>Zo 0 [.slice none 0 0] [.slice (some ⟨blo,0,none⟩) b.lines.length b.lines.length] [.slice (some ⟨blo,0,none⟩) b.lines.length b.lines.length] rfl Tf.s33 (.tail (.tail (.tail (bS.head)))) rfl (aMD (dF.in_ Yo))<|Zaa ?_)));exact fun a w hh=>⟨(q2,q3,bo,blo),cW,(hh.perm (μ':=[(q3,.cells [.slice none 0 0].toArray 303 (0,0)),(q2,.cells [.slice (some ⟨blo,0,none⟩) b.lines.length b.lines.length].toArray 33 (0,0)),(bo,.cells (bQ (List.replicate (b.lines.length+1) sE)).toArray 207 (0,0)),(blo,.cells (ints (List.replicate (b.lines.length*3) 0)).toArray 160 (0,0))]) Ye Yaa).weak C.rs (LT _) aD⟩
    ·refine Zv rfl Tf.z303 rfl (fun q3=>Zaa<|aR [(true,3),(true,11)] rfl<|aQ (n:=b.lines.length) rfl U33 Tf.s160 Tf.z160 rfl Tf.i160 rfl rfl Yd (aX Ye rfl) rfl cW (fun blo=>bD hA Ye (fun hap=>Zo 0 [.slice none 0 0] [.slice (some ⟨blo,0,none⟩) b.lines.length b.lines.length] [.slice (some ⟨blo,0,none⟩) b.lines.length b.lines.length] rfl Tf.s33 (.tail (.tail (.tail (bS.head)))) rfl (aMD (dF.in_ Yo))<|Zaa ?_)));exact fun a w hh=>⟨(q2,q3,bo,blo),cW,(hh.perm (μ':=[(q3,.cells [.slice none 0 0].toArray 303 (0,0)),(q2,.cells [.slice (some ⟨blo,0,none⟩) b.lines.length b.lines.length].toArray 33 (0,0)),(bo,.cells (bQ (List.replicate (b.lines.length+1) sE)).toArray 207 (0,0)),(blo,.cells (ints (List.replicate (b.lines.length*3) 0)).toArray 160 (0,0))]) Ye Yaa).weak C.rs (LT _) aD⟩
   ·refine Zv rfl Tf.z303 rfl (fun q3=>Zaa<|bG [] rfl<|Zaa (dB true true rfl rfl ?_ ?_))
    ·refine aQ (n:=b.lines.length) rfl U33 Tf.s160 Tf.z160 rfl Tf.i160 rfl rfl Yd (aX Ye rfl) rfl cW (fun blo=>Zaa<|bG [] rfl<|Zaa (dB true true rfl rfl ?_ ?_))
     ·refine aQ (n:=b.lines.length+1) rfl U303 Tf.s207 Tf.z207 rfl Tf.i207 Ya Ya Yd ((aX Ye rfl).trans (eW _)) rfl cW (fun bo=>Zaa<|aR [(true,11)] rfl<|bD hA Ye (fun hap=>Zo 0 [.slice none 0 0] [.slice (some ⟨blo,0,none⟩) b.lines.length b.lines.length] [.slice (some ⟨blo,0,none⟩) b.lines.length b.lines.length] rfl Tf.s33 (.tail (.tail (.tail (bS.head)))) rfl (aMD (dF.in_ Yo))<|Zaa ?_));exact fun a w hh=>⟨(q2,q3,bo,blo),cW,(hh.perm (μ':=[(q3,.cells [.slice none 0 0].toArray 303 (0,0)),(q2,.cells [.slice (some ⟨blo,0,none⟩) b.lines.length b.lines.length].toArray 33 (0,0)),(bo,.cells (bQ (List.replicate (b.lines.length+1) sE)).toArray 207 (0,0)),(blo,.cells (ints (List.replicate (b.lines.length*3) 0)).toArray 160 (0,0))]) Ye Yaa).weak C.rs (LT _) aD⟩
     ·refine bD hA Ye (fun hap=>Zo 0 [.slice none 0 0] [.slice (some ⟨blo,0,none⟩) b.lines.length b.lines.length] [.slice (some ⟨blo,0,none⟩) b.lines.length b.lines.length] rfl Tf.s33 (.tail (.tail (bS.head))) rfl (aMD (dF.in_ Ym))<|Zaa<|aR [(true,8)] rfl<|aQ (n:=b.lines.length+1) rfl U303 Tf.s207 Tf.z207 rfl Tf.i207 Ya Ya Yd ((aX Ye rfl).trans (eW _)) rfl cW (fun bo=>Zaa ?_));exact fun a w hh=>⟨(q2,q3,bo,blo),cW,(hh.perm (μ':=[(q3,.cells [.slice none 0 0].toArray 303 (0,0)),(q2,.cells [.slice (some ⟨blo,0,none⟩) b.lines.length b.lines.length].toArray 33 (0,0)),(bo,.cells (bQ (List.replicate (b.lines.length+1) sE)).toArray 207 (0,0)),(blo,.cells (ints (List.replicate (b.lines.length*3) 0)).toArray 160 (0,0))]) Ye Yaa).weak C.rs (LT _) aD⟩
    ·refine aQ (n:=b.lines.length+1) rfl U303 Tf.s207 Tf.z207 rfl Tf.i207 Ya Ya Yd ((aX Ye rfl).trans (eW _)) rfl cW (fun bo=>Zaa<|aR [(true,3),(true,11)] rfl<|aQ (n:=b.lines.length) rfl U33 Tf.s160 Tf.z160 rfl Tf.i160 rfl rfl Yd (aX Ye rfl) rfl cW (fun blo=>bD hA Ye (fun hap=>Zo 0 [.slice none 0 0] [.slice (some ⟨blo,0,none⟩) b.lines.length b.lines.length] [.slice (some ⟨blo,0,none⟩) b.lines.length b.lines.length] rfl Tf.s33 (.tail (.tail (.tail (bS.head)))) rfl (aMD (dF.in_ Yo))<|Zaa ?_)));exact fun a w hh=>⟨(q2,q3,bo,blo),cW,(hh.perm (μ':=[(q3,.cells [.slice none 0 0].toArray 303 (0,0)),(q2,.cells [.slice (some ⟨blo,0,none⟩) b.lines.length b.lines.length].toArray 33 (0,0)),(bo,.cells (bQ (List.replicate (b.lines.length+1) sE)).toArray 207 (0,0)),(blo,.cells (ints (List.replicate (b.lines.length*3) 0)).toArray 160 (0,0))]) Ye Yaa).weak C.rs (LT _) aD⟩
  ·refine Zv rfl Tf.z303 rfl (fun q2=>Zaa<|mO [] rfl ?_);refine Zaa (eP true rfl rfl ?_ (eP true rfl rfl ?_ (eP true rfl rfl ?_ (tP))))
   ·refine aQ (n:=b.lines.length) rfl U33 Tf.s160 Tf.z160 rfl Tf.i160 rfl rfl Yd (aX Ye rfl) rfl cW (fun blo=>Zaa<|bG [] rfl<|Zaa (dB true true rfl rfl ?_ ?_))
    ·refine aQ (n:=b.lines.length+1) rfl U303 Tf.s207 Tf.z207 rfl Tf.i207 Ya Ya Yd ((aX Ye rfl).trans (eW _)) rfl cW (fun bo=>Zaa<|aR [(true,9),(true,11)] rfl<|Zv rfl Tf.z33 rfl (fun q3=>bD hA Ye (fun hap=>Zo 0 [.slice none 0 0] [.slice (some ⟨blo,0,none⟩) b.lines.length b.lines.length] [.slice (some ⟨blo,0,none⟩) b.lines.length b.lines.length] rfl Tf.s33 (bS.head) rfl (aMD (dF.in_ Yr))<|Zaa ?_)));exact fun a w hh=>⟨(q3,q2,bo,blo),cW,(hh.perm (μ':=[(q2,.cells [.slice none 0 0].toArray 303 (0,0)),(q3,.cells [.slice (some ⟨blo,0,none⟩) b.lines.length b.lines.length].toArray 33 (0,0)),(bo,.cells (bQ (List.replicate (b.lines.length+1) sE)).toArray 207 (0,0)),(blo,.cells (ints (List.replicate (b.lines.length*3) 0)).toArray 160 (0,0))]) Ye Yaa).weak C.rs (LT _) aD⟩
    ·refine Zv rfl Tf.z33 rfl (fun q3=>Zaa<|bG [] rfl<|Zaa (dB true true rfl rfl ?_ ?_))
     ·refine aQ (n:=b.lines.length+1) rfl U303 Tf.s207 Tf.z207 rfl Tf.i207 Ya Ya Yd ((aX Ye rfl).trans (eW _)) rfl cW (fun bo=>Zaa<|aR [(true,11)] rfl<|bD hA Ye (fun hap=>Zo 0 [.slice none 0 0] [.slice (some ⟨blo,0,none⟩) b.lines.length b.lines.length] [.slice (some ⟨blo,0,none⟩) b.lines.length b.lines.length] rfl Tf.s33 (.tail (bS.head)) rfl (aMD (dF.in_ Yn))<|Zaa ?_));exact fun a w hh=>⟨(q3,q2,bo,blo),cW,(hh.perm (μ':=[(q2,.cells [.slice none 0 0].toArray 303 (0,0)),(q3,.cells [.slice (some ⟨blo,0,none⟩) b.lines.length b.lines.length].toArray 33 (0,0)),(bo,.cells (bQ (List.replicate (b.lines.length+1) sE)).toArray 207 (0,0)),(blo,.cells (ints (List.replicate (b.lines.length*3) 0)).toArray 160 (0,0))]) Ye Yaa).weak C.rs (LT _) aD⟩
     ·refine bD hA Ye (fun hap=>Zo 0 [.slice none 0 0] [.slice (some ⟨blo,0,none⟩) b.lines.length b.lines.length] [.slice (some ⟨blo,0,none⟩) b.lines.length b.lines.length] rfl Tf.s33 (bS.head) rfl (aMD (dF.in_ Yr))<|Zaa<|aR [(true,8)] rfl<|aQ (n:=b.lines.length+1) rfl U303 Tf.s207 Tf.z207 rfl Tf.i207 Ya Ya Yd ((aX Ye rfl).trans (eW _)) rfl cW (fun bo=>Zaa ?_));exact fun a w hh=>⟨(q3,q2,bo,blo),cW,(hh.perm (μ':=[(q2,.cells [.slice none 0 0].toArray 303 (0,0)),(q3,.cells [.slice (some ⟨blo,0,none⟩) b.lines.length b.lines.length].toArray 33 (0,0)),(bo,.cells (bQ (List.replicate (b.lines.length+1) sE)).toArray 207 (0,0)),(blo,.cells (ints (List.replicate (b.lines.length*3) 0)).toArray 160 (0,0))]) Ye Yaa).weak C.rs (LT _) aD⟩
   ·refine aQ (n:=b.lines.length+1) rfl U303 Tf.s207 Tf.z207 rfl Tf.i207 Ya Ya Yd ((aX Ye rfl).trans (eW _)) rfl cW (fun bo=>Zaa<|bG [] rfl<|Zaa (dB true true rfl rfl ?_ ?_))
    ·refine aQ (n:=b.lines.length) rfl U33 Tf.s160 Tf.z160 rfl Tf.i160 rfl rfl Yd (aX Ye rfl) rfl cW (fun blo=>Zaa<|aR [(true,9),(true,11)] rfl<|Zv rfl Tf.z33 rfl (fun q3=>bD hA Ye (fun hap=>Zo 0 [.slice none 0 0] [.slice (some ⟨blo,0,none⟩) b.lines.length b.lines.length] [.slice (some ⟨blo,0,none⟩) b.lines.length b.lines.length] rfl Tf.s33 (bS.head) rfl (aMD (dF.in_ Yr))<|Zaa ?_)));exact fun a w hh=>⟨(q3,q2,bo,blo),cW,(hh.perm (μ':=[(q2,.cells [.slice none 0 0].toArray 303 (0,0)),(q3,.cells [.slice (some ⟨blo,0,none⟩) b.lines.length b.lines.length].toArray 33 (0,0)),(bo,.cells (bQ (List.replicate (b.lines.length+1) sE)).toArray 207 (0,0)),(blo,.cells (ints (List.replicate (b.lines.length*3) 0)).toArray 160 (0,0))]) Ye Yaa).weak C.rs (LT _) aD⟩
    ·refine Zv rfl Tf.z33 rfl (fun q3=>Zaa<|aR [(true,3),(true,11)] rfl<|aQ (n:=b.lines.length) rfl U33 Tf.s160 Tf.z160 rfl Tf.i160 rfl rfl Yd (aX Ye rfl) rfl cW (fun blo=>bD hA Ye (fun hap=>Zo 0 [.slice none 0 0] [.slice (some ⟨blo,0,none⟩) b.lines.length b.lines.length] [.slice (some ⟨blo,0,none⟩) b.lines.length b.lines.length] rfl Tf.s33 (.tail (bS.head)) rfl (aMD (dF.in_ Yn))<|Zaa ?_)));exact fun a w hh=>⟨(q3,q2,bo,blo),cW,(hh.perm (μ':=[(q2,.cells [.slice none 0 0].toArray 303 (0,0)),(q3,.cells [.slice (some ⟨blo,0,none⟩) b.lines.length b.lines.length].toArray 33 (0,0)),(bo,.cells (bQ (List.replicate (b.lines.length+1) sE)).toArray 207 (0,0)),(blo,.cells (ints (List.replicate (b.lines.length*3) 0)).toArray 160 (0,0))]) Ye Yaa).weak C.rs (LT _) aD⟩
   ·refine Zv rfl Tf.z33 rfl (fun q3=>Zaa<|bG [] rfl<|Zaa (dB true true rfl rfl ?_ ?_))
    ·refine aQ (n:=b.lines.length) rfl U33 Tf.s160 Tf.z160 rfl Tf.i160 rfl rfl Yd (aX Ye rfl) rfl cW (fun blo=>Zaa<|bG [] rfl<|Zaa (dB true true rfl rfl ?_ ?_))
     ·refine aQ (n:=b.lines.length+1) rfl U303 Tf.s207 Tf.z207 rfl Tf.i207 Ya Ya Yd ((aX Ye rfl).trans (eW _)) rfl cW (fun bo=>Zaa<|aR [(true,11)] rfl<|bD hA Ye (fun hap=>Zo 0 [.slice none 0 0] [.slice (some ⟨blo,0,none⟩) b.lines.length b.lines.length] [.slice (some ⟨blo,0,none⟩) b.lines.length b.lines.length] rfl Tf.s33 (.tail (.tail (bS.head))) rfl (aMD (dF.in_ Ym))<|Zaa ?_));exact fun a w hh=>⟨(q3,q2,bo,blo),cW,(hh.perm (μ':=[(q2,.cells [.slice none 0 0].toArray 303 (0,0)),(q3,.cells [.slice (some ⟨blo,0,none⟩) b.lines.length b.lines.length].toArray 33 (0,0)),(bo,.cells (bQ (List.replicate (b.lines.length+1) sE)).toArray 207 (0,0)),(blo,.cells (ints (List.replicate (b.lines.length*3) 0)).toArray 160 (0,0))]) Ye Yaa).weak C.rs (LT _) aD⟩
     ·refine bD hA Ye (fun hap=>Zo 0 [.slice none 0 0] [.slice (some ⟨blo,0,none⟩) b.lines.length b.lines.length] [.slice (some ⟨blo,0,none⟩) b.lines.length b.lines.length] rfl Tf.s33 (.tail (bS.head)) rfl (aMD (dF.in_ Yn))<|Zaa<|aR [(true,8)] rfl<|aQ (n:=b.lines.length+1) rfl U303 Tf.s207 Tf.z207 rfl Tf.i207 Ya Ya Yd ((aX Ye rfl).trans (eW _)) rfl cW (fun bo=>Zaa ?_));exact fun a w hh=>⟨(q3,q2,bo,blo),cW,(hh.perm (μ':=[(q2,.cells [.slice none 0 0].toArray 303 (0,0)),(q3,.cells [.slice (some ⟨blo,0,none⟩) b.lines.length b.lines.length].toArray 33 (0,0)),(bo,.cells (bQ (List.replicate (b.lines.length+1) sE)).toArray 207 (0,0)),(blo,.cells (ints (List.replicate (b.lines.length*3) 0)).toArray 160 (0,0))]) Ye Yaa).weak C.rs (LT _) aD⟩
    ·refine aQ (n:=b.lines.length+1) rfl U303 Tf.s207 Tf.z207 rfl Tf.i207 Ya Ya Yd ((aX Ye rfl).trans (eW _)) rfl cW (fun bo=>Zaa<|aR [(true,3),(true,11)] rfl<|aQ (n:=b.lines.length) rfl U33 Tf.s160 Tf.z160 rfl Tf.i160 rfl rfl Yd (aX Ye rfl) rfl cW (fun blo=>bD hA Ye (fun hap=>Zo 0 [.slice none 0 0] [.slice (some ⟨blo,0,none⟩) b.lines.length b.lines.length] [.slice (some ⟨blo,0,none⟩) b.lines.length b.lines.length] rfl Tf.s33 (.tail (.tail (bS.head))) rfl (aMD (dF.in_ Ym))<|Zaa ?_)));exact fun a w hh=>⟨(q3,q2,bo,blo),cW,(hh.perm (μ':=[(q2,.cells [.slice none 0 0].toArray 303 (0,0)),(q3,.cells [.slice (some ⟨blo,0,none⟩) b.lines.length b.lines.length].toArray 33 (0,0)),(bo,.cells (bQ (List.replicate (b.lines.length+1) sE)).toArray 207 (0,0)),(blo,.cells (ints (List.replicate (b.lines.length*3) 0)).toArray 160 (0,0))]) Ye Yaa).weak C.rs (LT _) aD⟩
 rintro⟨bl,bs,bo,blo⟩ -;dsimp only;refine hP [(false,12)] rfl<|aL rfl rfl rfl rfl Tf.s303 (bS.head) Ye rfl Yi trivial<|Zaa<|iC<|Zag<|C.s1<|Zv rfl Tf.z191 rfl (fun q4=>L.n3<|bH rfl rfl rfl rfl trivial<|aL rfl rfl rfl rfl Tf.s191 (bS.head) Ye rfl Yi trivial<|L.n2<|C.drawA [] 1 5 6 (fun _ _ _ h=>oA (P:=Tryz.prog) (fn:=Tryz.f234) _ _ _ h) ?_);refine Zl rfl Tf.a303 rfl (aRH _ (GE _)) rfl<|Zq rfl Tf.a36 rfl hA Tf.s36<|Ze rfl (fun D1 hD1=>qC _ b _ (hb0.up (hD1 _ Ye)))<|eH rfl U303 Tf.s207 rfl rfl Yd (by push_cast;omega) rfl trivial<|aL (off:=0*10) (us:=ints (iI (eG b))) (ws:=bQ ((List.replicate (b.lines.length+1) sE).set 0 (eG b))) rfl (nC Yd) rfl rfl Tf.s207 (.tail (.tail (.tail (bS.head)))) (by rw[JB A6,aJ,show(iI (eG b)).length=10 from rfl,List.length_replicate];omega) (HW A6 rfl Ye) (bU _) trivial<|L.n1<|C.rg<|Zl rfl Tf.a191 rfl (List.Mem.head _) rfl<|nQ rfl rfl rfl rfl (aFP (l:=l) hbo rfl hb0 hA hB1 b.lines.length 0 [] (eG b) ((List.replicate (b.lines.length+1) sE).set 0 (eG b)) (List.replicate (b.lines.length*3) 0) [] [] 0 _ Ye Ye rfl Yd rfl Ye (A6.set rfl _) Ye (by simp[List.replicate_succ]) (J8 b) Ye J Jx hs hsx hY) rfl cW ?_
 rintro _ J2 _ ⟨b2,c2,cl2,rfl,h9',h10',h11',hp',rfl,hJ2⟩;refine Zaa ?_;exact iP (P:=Tryz.prog) (fn:=Tryz.f234) (N:=22) (vs:=[]) rfl rfl cW (fun D h=>⟨D,by simp only[aML]at h;subst h;simp,Le.refl D⟩) (by cases b2<;>simp at hJ2;exact aMD hJ2;exact aMR hJ2)
theorem HC(bv:Value)(b:aZ)(D:aA)(hb:fJ D bv b)(hbo:SB b):
  Fn Tryz.prog 154 #[bv] D (fun D' v=>∃br,v=.func (.func 234) #[] #[.pointer (some ⟨br,0,none⟩)]∧LN Tryz.prog 234 [.pointer (some ⟨br,0,none⟩)] D' (jB b 0 (eG b)) (MS b.lines.length) bQ):=by
 have hb0:=hb;obtain⟨lv,cv,rfl,hl,hc⟩:=hb;refine enter 4 Tryz.func154 rfl rfl rfl rfl fun h0=>C.s1<|Zt rfl (fun q1 E1 hE1 hB1=>Zi rfl<|L.n3<|bH rfl rfl rfl rfl trivial<|Zi rfl<|L.n5 ?_)
 exact leave1 rfl rfl rfl rfl (fun D hD=>⟨_,rfl,wS hbo rfl (hb0.up (hD _ Ye)) (hB1.up (hD _ Ye))⟩)
end L3
end Go.Fs
namespace Go.Fs
open Go.Proofs
namespace L3
open L1
open C3
theorem MH(b:aZ):∀(ls:List fE) (i:Nat) (s:Sc),s.ch.length=4→s.tk.length=4→∀x∈uH b ls i s,x.2.length=ls.length+1∧∀u∈x.2,u.ch.length=4∧u.tk.length=4
  | [],i,s,h4,h5,x,hx=>by
    unfold uH at hx;split at hx
    · obtain rfl:x=([],[s]):=by simpa using hx
      exact ⟨rfl, fun u hu => by obtain rfl : u = s := by simpa using hu
                                 exact⟨h4,h5⟩⟩
    · cases hx
  |l::ls,i,s,h4,h5,x,hx=>by
    unfold uH at hx;split at hx
    · obtain⟨r,_,hr⟩:=aRG.1 hx;split at hr
      · obtain⟨y,hy,rfl⟩:=aMB.1 hr;obtain⟨g1,g2⟩:=MH b ls (i+1) (bW b s i r) (by unfold bW;split<;>simp[h4]) (by unfold bW;split<;>simp[h5]) y hy
        refine⟨by simp[g1],fun u hu=>?_⟩;rcases aLX.1 hu with rfl|hu
        · exact⟨h4,h5⟩
        · exact g2 u hu
      · cases hr
    · cases hx
theorem BG{b:aZ}(hn:b.chairs≤4):∀(ls:List fE) (i:Nat) (s:Sc),(uH b ls i s).length≤32^ls.length
 | [],i,s=>by unfold uH;split<;>simp
 |l::ls,i,s=>by
  unfold uH;split
  ·rw[List.length_flatMap];have h1:∀(rs:List fE),(rs.map fun r=>(if eI s r=true then(uH b ls (i+1) (bW b s i r)).map fun x=>(r::x.1,s::x.2)else []).length).sum≤rs.length*32^ls.length:=by
    intro rs;induction rs with
    |nil=>simp
    |cons r rs ih=>
     rw[aMZ,List.sum_cons,aMI,aOR,Nat.one_mul,Nat.add_comm];refine Nat.add_le_add ih ?_;split
     ·rw[aOL];exact BG hn ls _ _
     ·simp
   have h2:=h1 (bR b.chairs l);have h3:=IC (l:=l) hn;have h4:(bR b.chairs l).length*32^ls.length≤32*32^ls.length:=aQN _ h3;rw[aMI,Nat.pow_succ,Nat.mul_comm];omega
  ·simp
theorem aAG{b:aZ}(hbo:SB b):(jB b 0 (eG b)).length≤1099511627776:=by
 unfold jB;rw[aOL];have h1:=BG hbo.ch.2 (b.lines.drop 0) 0 (eG b);have h2:32^(b.lines.drop 0).length≤32^8:=aPQ Yd (by rw[aPZ];exact hbo.l8)
 omega
theorem PX{b:aZ}(hbo:SB b){x:List Sc}{pre r:List (List Sc)}(h:jB b 0 (eG b)=pre++x::r):x.length=b.lines.length+1∧(∀u∈x,u.ch.length=4∧u.tk.length=4)∧pre.length<1099511627776:=by
 have hm:x∈jB b 0 (eG b):=by rw[h];simp
 obtain⟨y,hy,rfl⟩:=aMB.1 hm;obtain⟨g1,g2⟩:=MH b _ _ _ rfl rfl y hy;refine⟨by simpa using g1,g2,?_⟩;have:=aAG hbo;rw[h]at this;simp at this;omega
theorem aIU{x:List Sc}{k:Nat}{u:Sc}(h:x[k]?= some u):aGJ x k=u:=by unfold aGJ;rw[aOB,h];rfl
theorem aHG{D:aA}{bo n:Nat}{x:List Sc}(h:At D bo 0 (bQ x))(hx:x.length=n)(h4:∀u∈x,u.ch.length=4∧u.tk.length=4)(hn:n≤1000):Sl D FQ 10 (.slice (some ⟨bo,0,none⟩) n n) x:=by
 have h10:vV x:=fun u hu=>vI (h4 u hu).1 (h4 u hu).2
 refine⟨_,n,by rw[hx],by omega,by omega,aMD ⟨bo,0,rfl,fun i u hi=>⟨_,rfl,by rw[aJ,h10 u (aLW hi)],fun j v hj=>?_⟩⟩⟩;have:=wY h10 hi;rw[←this,List.getElem?_take]at hj;split at hj
 ·rw[aOW]at hj;have:=h _ v hj;rw[show 0+i*10+j=0+(i*10+j) by omega];exact this
 ·cases hj


end L3
end Go.Fs
namespace Go.Fs
open Go.Proofs
namespace L3
open L1
open C3
theorem KG(s:Sc)(D:aA)(h4:s.ch.length=4)(h5:s.tk.length=4):Fn Tryz.prog 94 #[GO s] D (fun _ v=>v=.int .i64 s.money):=by
 refine enter 5 Tryz.func94 rfl rfl rfl rfl fun h0=>C.s1<|Zt rfl (fun q1 E1 hE1 hB1=>Zi rfl<|L.n3<|Zj rfl Tf.f207_2 rfl<|bC (v:=.int .i64 s.money) rfl (k:=8) Tf.a3 rfl hB1 Yc (cA (uL h4 h5)) GT rfl trivial<|Zi rfl<|L.n5 ?_)
 exact leave1 rfl rfl rfl rfl (fun D hD=>rfl)
end L3
end Go.Fs
namespace Go.Fs
open Go.Proofs
namespace L3
open L1
open C3
def FM(F:Sc→Int)(b:aZ)(k:Nat):Int×Int:=(C1.pZ (((jB b 0 (eG b)).map fun x=>aGJ x k).map F),C1.oH (((jB b 0 (eG b)).map fun x=>aGJ x k).map F))
def BF(F:Sc→Int)(ss:List Sc)(g:(Int×Int)×Bool):Prop:=(g.2=true∧ss=[]∧g.1=(0,0))∨(g.2=false∧ss≠[]∧g.1=(C1.pZ (ss.map F),C1.oH (ss.map F)))
theorem SF{l:List Int}{x:Int}(h:l≠[]):C1.pZ (l++[x])=min (C1.pZ l) x:=by
 cases l with
 |nil=>exact absurd rfl h
 |cons a l=>show(l++[x]).foldl min a=_;rw[aOA];rfl
theorem SA{l:List Int}{x:Int}(h:l≠[]):C1.oH (l++[x])=max (C1.oH l) x:=by
 cases l with
 |nil=>exact absurd rfl h
 |cons a l=>show(l++[x]).foldl max a=_;rw[aOA];rfl
theorem BF.add{F:Sc→Int}{ss:List Sc}{r r':Int×Int}{fb:Bool}{s u:Sc}(h:BF F ss (r,fb))(e:s=u)(hc:(fb=true∧r'=(F u,F u))∨(fb=false∧r'=r)):BF F (ss++[s]) ((min r'.1 (F u),max r'.2 (F u)),false):=by
 subst e;refine aMD ⟨rfl,by simp,?_⟩;rcases hc with⟨h1,rfl⟩|⟨h1,rfl⟩
 ·rcases h with⟨_,rfl,_⟩|⟨h2,_⟩
  ·simp[C1.pZ,C1.oH]
  ·simp only at h2;rw[h1]at h2;cases h2
 ·rcases h with⟨h2,_⟩|⟨_,h3,h4⟩
  ·simp only at h2;rw[h1]at h2;cases h2
  ·simp only at h4;subst h4;have hne:ss.map F≠[]:=by simpa using h3
   rw[aMP,aQD,SF hne,SA hne]
theorem BF.all{F:Sc→Int}{b:aZ}{k:Nat}{r:Int×Int}{fb:Bool}(h:BF F ((jB b 0 (eG b)).map fun x=>aGJ x k) (r,fb)):jC r=jC (FM F b k):=by
 unfold FM;rcases h with⟨_,h1,h2⟩|⟨_,_,h2⟩
 ·rw[h1];simp only at h2;rw[h2];rfl
 ·simp only at h2;rw[h2]
theorem X2{b:aZ}{fine:Bool}(h:uQ b fine=0):aU b=0∧fine=true:=by
 unfold uQ at h;split at h
 ·rename_i hf;exact absurd h hf
 ·rename_i hf;split at h
  ·omega
  ·rename_i h2;exact⟨by simpa using hf,by simpa using h2⟩
theorem KH(F:Sc→Int)(bv:Value)(b:aZ)(k:Nat)(fo:FuncId)(D:aA)(hb:fJ D bv b)(hbo:SB b)(hk:k≤b.lines.length)
  (hq:∀s D,s.ch.length=4→s.tk.length=4→Fn Tryz.prog fo #[GO s] D (fun _ v=>v=.int .i64 (F s))):
  Fn Tryz.prog 93 #[bv,.int .i64 (k:Int),.func (.func fo) #[] #[]] D (fun _ v=>v=jC (FM F b k)):=by
 have hb0:=hb;obtain⟨lv,cv,rfl,hl,hc⟩:=hb;have hch:=hbo.ch;have hl8:=hbo.l8;refine l9 29 Tryz.func93 rfl rfl rfl rfl (fun h0=>C.s1<|Zt rfl (fun q1 E1 hE1 hB1=>Zt rfl (fun q2 E2 hE2 hB2=>Zt rfl (fun q3 E3 hE3 hB3=>Zv rfl Tf.z65 rfl (fun q4=>L.n3<|Zv rfl Tf.z4 rfl (fun q5=>aL rfl rfl rfl rfl Tf.s4 (bS.head) Ye rfl Yi trivial<|L.n4<|Zq rfl Tf.a36 rfl hB1 Tf.s36<|bZ rfl rfl rfl (fun D1 hD1=>HC _ b _ (hb0.up (hD1 _ Ye)) hbo) rfl cW (fun v1 D1 hD1 hp1=>?_)))))));refine L.n1<|Zai ?_;obtain⟨br,rfl,hit⟩:=hp1;refine AK (γ:=(Int×Int)×Bool) (xs:=jB b 0 (eG b)) (enc:=MS b.lines.length) (cells:=bQ) (Dr:=D1) (fun pre g=>BF F (pre.map fun x=>aGJ x k) g) (fun _ _ _=>False) (fun g=>[(q5,.cells [.bool g.2].toArray 4 (0,0)),(q4,.cells [.int .i64 g.1.1,.int .i64 g.1.2].toArray 65 (0,0))]) ((0,0),true) rfl rfl (fun _ k hk=>by cases hk) rfl hit Ye (fun _ vs h=>by obtain⟨_,rfl⟩:=h;rfl) rfl (aMR ⟨rfl,rfl,rfl⟩) rfl ?_ ?_ (fun _ _ _ _ h=>h.elim)
 ·rintro pre x ⟨r,fb⟩ ⟨us,hx⟩ hV l bd bo vs rec hh D7 hD7 ⟨blo,rfl⟩ hbo_ hst hpend;obtain⟨hxl,hx4,hpl⟩:=PX hbo hx;have hsl:=aHG hbo_ hxl hx4 Yd;obtain⟨u,hu⟩:=C.ge x k;have hau:aGJ x k=u:=aIU hu;obtain⟨hu4,hu5⟩:=hx4 u (aLW hu);have hx10:=vI hu4 hu5;refine C.rg<|Zi rfl<|Zaa ?_;refine fun a w hhh=>uW (A:=[(_,_),(_,_)]) (B:=[(bd,.deferred (some []))]) (r:=rec) (l:=l) (by rfl) hst ?_ a w hhh
  simp only[aOG,aNE];refine Zai<|aK<|C.drawA [] 3 7 30 (fun _ _ _ h=>h)<|Zc 0 rfl Tf.a208 rfl hB3 rfl<|Za rfl<|Zc 0 rfl Tf.a3 rfl hB2 rfl<|Zp rfl U303 Tf.s207 rfl hsl rfl hu (fun b1 o1 cs1 hr1 hcl1 hA1=>?_);obtain rfl:cs1=ints (iI _):=hr1;refine cU rfl Tf.a207 rfl hA1 Yj (by rw[show(ints _).length=10 by simp[hx10]];exact Tf.s207) GT rfl trivial<|Ze rfl (fun D2 hD2=>hq u _ hu4 hu5)<|Zi rfl<|L.n4<|Zl rfl Tf.a4 rfl (List.Mem.head _) rfl<|L.n1<|aI rfl (fun hc1=>?_) (fun hc1=>?_)
  ·refine C.rg<|Za rfl<|Za rfl<|Zr [.int .i64 (F u),.int .i64 (F u)] rfl Tf.p65 Tf.z65 rfl rfl<|Zu rfl Tf.s65 (.tail (bS.head))<|aL rfl rfl rfl rfl Tf.s4 (bS.head) Ye rfl Yi trivial<|L.n1<|C.rg<|Zs rfl Tf.a65 rfl (List.Mem.tail _ (List.Mem.head _)) Tf.s65<|Za rfl<|Ze rfl (fun D3 hD3=>W8 (_,_) _ _)<|Zu rfl Tf.s65 (.tail (bS.head)) ?_;refine Zaa<|Zak ?_;exact fun a w hh=>gC (A:=[(_,_),(_,_)]) (B:=[(bd,.deferred (some []))]) ((min (F u,F u).1 (F u),max (F u,F u).2 (F u)),false) (by simpa using hV.add hau (aMR ⟨hc1,rfl⟩)) rfl rfl a w hh
  ·obtain rfl:fb=false:=hc1;refine C.kn<|C.rg<|Zs rfl Tf.a65 rfl (List.Mem.tail _ (List.Mem.head _)) Tf.s65<|Za rfl<|Ze rfl (fun D4 hD4=>W8 (_,_) _ _)<|Zu rfl Tf.s65 (.tail (bS.head))<|Zaa<|Zak ?_;exact fun a w hh=>gC (A:=[(_,_),(_,_)]) (B:=[(bd,.deferred (some []))]) ((min r.1 (F u),max r.2 (F u)),false) (by simpa using hV.add hau (aMD ⟨rfl,rfl⟩)) rfl rfl a w hh
 ·rintro⟨r,fb⟩ bd hV;refine Zak<|Zag<|C.s1<|Zs rfl Tf.a65 rfl (List.Mem.tail _ (List.Mem.head _)) Tf.s65<|Zu rfl Tf.s65 (.tail (bS.head))<|L.n5 ?_;exact rR (vs:=[_]) (A:=[(_,_),(_,_)]) rfl rfl rfl ⟨⟨_,_,_,rfl,(aRH _ (GE _)),aMD ⟨Tf.a65,Tf.s65,rfl⟩⟩,cW⟩ (fun D hD=>hV.all)
theorem KB(s:Sc)(D:aA)(h4:s.ch.length=4)(h5:s.tk.length=4):Fn Tryz.prog 95 #[GO s] D (fun _ v=>v=.int .i64 s.mixed):=by
 refine enter 5 Tryz.func95 rfl rfl rfl rfl fun h0=>C.s1<|Zt rfl (fun q1 E1 hE1 hB1=>Zi rfl<|L.n3<|Zj rfl Tf.f207_3 rfl<|bC (v:=.int .i64 s.mixed) rfl (k:=9) Tf.a3 rfl hB1 Yc (cA (CB h4 h5)) GT rfl trivial<|Zi rfl<|L.n5 ?_)
 exact leave1 rfl rfl rfl rfl (fun D hD=>rfl)
theorem yZ(bv:Value)(b:aZ)(k:Int)(D:aA)(hb:fJ D bv b):Fn Tryz.prog 49 #[bv,.int .i64 k] D (fun _ v=>v=.tuple #[jC (if uQ b (C1.fP k 0 (b.lines.length:Int))=0 then FM (fun s=>s.money) b k.toNat else(0,0)),.int .i64 (uQ b (C1.fP k 0 (b.lines.length:Int)))]):=by
 have hb0:=hb;obtain⟨lv,cv,rfl,hl,hc⟩:=hb;have hll:=hl.len;refine enter 21 Tryz.func49 rfl rfl rfl rfl fun h0=>C.s1<|Zt rfl (fun q1 E1 hE1 hB1=>Zv rfl Tf.z65 rfl (fun q2=>Zi rfl<|L.n2<|aK<|C.drawA [] 4 8 62 (fun _ _ _ h=>bP (P:=Tryz.prog) (fn:=Tryz.f49) _ _ _ h)<|Zq rfl Tf.a36 rfl hB1 Tf.s36<|Za rfl<|Zj rfl Tf.f36_3 rfl<|Zc 3 rfl Tf.a33 rfl hB1 rfl ?_));refine aO rfl U33 rfl hl rfl rfl trivial<|Ze rfl (fun D1 hD1=>iG _ _ _ _)<|Ze rfl (fun D2 hD2=>Y9 _ b (C1.fP k 0 (b.lines.length:Int)) _ (hb0.up (hD2 _ Ye)))<|Zi rfl<|L.n3<|Za rfl<|Zaf rfl<|L.n1<|aE rfl (fun hc1=>?_) (fun hc1=>?_)
 ·refine C.s1<|Zr [.int .i64 0,.int .i64 0] rfl Tf.p65 Tf.z65 rfl rfl<|Za rfl<|Zu rfl Tf.s65 (bS.head)<|Zi rfl<|L.n5<|Zah ?_;exact Zm [_,_] rfl ⟨⟨_,_,_,rfl,(List.Mem.head _),Or.inr ⟨Tf.a65,(by first|exact Tf.s65|(simp only[aNG,aJ, *];exact Tf.s65)),rfl⟩⟩,rfl,cW⟩ (fun D hD=>by show Value.tuple _=_;rw[aMM hc1];rfl)
 ·have he0:uQ b (C1.fP k 0 (b.lines.length:Int))=0:=by omega
  obtain⟨hf0,hfi⟩:=X2 he0;have hbo:=aKQ hf0;rw[C1.cD]at hfi;obtain⟨n,rfl⟩:∃n:Nat,k=(n:Int):=⟨k.toNat,by omega⟩
  refine C.kn<|C.s1<|Zq rfl Tf.a36 rfl hB1 Tf.s36<|Za rfl<|Ze rfl (fun D3 hD3=>KH (fun s=>s.money) _ b n 94 _ (hb0.up (hD3 _ Ye)) hbo Yd (fun s D h4 h5=>KG s D h4 h5))<|Zu rfl Tf.s65 (bS.head)<|Zi rfl<|L.n5 ?_;exact Zm [_,_] rfl ⟨⟨_,_,_,rfl,(List.Mem.head _),Or.inr ⟨Tf.a65,(by first|exact Tf.s65|(simp only[aNG,aJ, *];exact Tf.s65)),rfl⟩⟩,rfl,cW⟩ (fun D hD=>by show Value.tuple _=_;rw[aMT he0,he0];rfl)
theorem XO(bv:Value)(b:aZ)(D:aA)(hb:fJ D bv b):Fn Tryz.prog 50 #[bv] D (fun _ v=>v=.tuple #[jC (if uQ b (true)=0 then FM (fun s=>s.mixed) b b.lines.length else(0,0)),.int .i64 (uQ b (true))]):=by
 have hb0:=hb;obtain⟨lv,cv,rfl,hl,hc⟩:=hb;have hll:=hl.len;refine enter 16 Tryz.func50 rfl rfl rfl rfl fun h0=>C.s1<|Zt rfl (fun q1 E1 hE1 hB1=>Zv rfl Tf.z65 rfl (fun q2=>Zi rfl<|L.n4<|Zq rfl Tf.a36 rfl hB1 Tf.s36<|Ze rfl (fun D1 hD1=>Y9 _ b (true) _ (hb0.up (hD1 _ Ye)))<|Zi rfl<|L.n3<|Za rfl<|Zaf rfl ?_));refine L.n1<|aE rfl (fun hc1=>?_) (fun hc1=>?_)
 ·refine C.s1<|Zr [.int .i64 0,.int .i64 0] rfl Tf.p65 Tf.z65 rfl rfl<|Za rfl<|Zu rfl Tf.s65 (bS.head)<|Zi rfl<|L.n5<|Zah ?_;exact Zm [_,_] rfl ⟨⟨_,_,_,rfl,(List.Mem.head _),Or.inr ⟨Tf.a65,(by first|exact Tf.s65|(simp only[aNG,aJ, *];exact Tf.s65)),rfl⟩⟩,rfl,cW⟩ (fun D hD=>by show Value.tuple _=_;rw[aMM hc1];rfl)
 ·have he0:uQ b (true)=0:=by omega
  obtain⟨hf0,hfi⟩:=X2 he0;have hbo:=aKQ hf0;refine C.kn<|C.s1<|Zq rfl Tf.a36 rfl hB1 Tf.s36<|Zj rfl Tf.f36_3 rfl<|Zc 3 rfl Tf.a33 rfl hB1 rfl<|aO rfl U33 rfl hl rfl rfl trivial<|Ze rfl (fun D2 hD2=>KH (fun s=>s.mixed) _ b b.lines.length 95 _ (hb0.up (hD2 _ Ye)) hbo Yd (fun s D h4 h5=>KB s D h4 h5))<|Zu rfl Tf.s65 (bS.head)<|Zi rfl<|L.n5 ?_;exact Zm [_,_] rfl ⟨⟨_,_,_,rfl,(List.Mem.head _),Or.inr ⟨Tf.a65,(by first|exact Tf.s65|(simp only[aNG,aJ, *];exact Tf.s65)),rfl⟩⟩,rfl,cW⟩ (fun D hD=>by show Value.tuple _=_;rw[aMT he0,he0];rfl)
end L3
end Go.Fs
namespace Go.Fs
open Go.Proofs
namespace L7
open C7
def fR(bh bc bo bY br n:Nat)(c:List Int):aC:=[(bh,.cells [.func (.func 242) #[] #[.pointer (some ⟨bc,0,none⟩),.pointer (some ⟨bY,0,none⟩),.pointer (some ⟨br,0,none⟩),.pointer (some ⟨bh,0,none⟩)]].toArray 191 (0,0)),(bc,.cells [.slice (some ⟨bo,0,none⟩) n n].toArray 315 (0,0)),(bo,.cells (ints c).toArray 101 (0,0))]
theorem oL{c pre:List Int}{i:Nat}{k:Int}(h:c.take (i+1)=pre++[k])(hl:pre.length=i):c.take i=pre:=by
 have:=aMQ (List.take i) h;rw[List.take_take,aQI (Nat.le_succ i)]at this;rw[this,aNP Yd,aNA Yd]
def aCX(n bo:Nat):List Value:=[.slice (some ⟨bo,0,none⟩) n n]
def aFA(P:Program)(Dr:aA)(lo l n:Nat)(J Jx:List (List Int)→pC)(xs:List (List Int)):Prop:=∀pre x β D w bo,(∃r,xs=pre++x::r)→uR lo D w→J pre β D w→(∀b∈β,b<w.heap.size)→Le Dr D→j7 β D w bo (ints x)→
    fY P l (aCX n bo) w fun b D' w'=>uR lo D' w'∧tJ β D w D' w'∧(if b then J (pre++[x]) β D' w' else Jx (pre++[x]) β D' w')
def xR(J Jx:List (List Int)→pC)(bh bc bo bY br n:Nat)(places:List Int)(pre:List Int)(i:Nat)(done:List (List Int))(v:Value)(J':pC)(μ':aC):Prop:=
 ∃b c',v=.bool b∧c'.length=3*n∧c'.take i=pre∧μ'=fR bh bc bo bY br n c'∧(if b=true then J'=J (done++(C1.cX (places.drop i)).map fun t=>pre++t)else ∃p,J'=Jx p)
def KK(p:Int)(ps pre:List Int)(k:Nat):List (List Int):=(List.range k).flatMap fun(m:Nat)=>if p=2∨p=(m:Int)then(C1.cX ps).map (fun t=>pre++(m:Int)::t)else []
theorem aBE{p:Int}{ps pre:List Int}:KK p ps pre 0=[]:=rfl
theorem aIK{p:Int}{ps pre:List Int}{k:Nat}(h:¬(p=2∨p=(k:Int))):KK p ps pre (k+1)=KK p ps pre k:=by
 unfold KK;rw[aOF,aND,aNT,aMM h,aME]
theorem LV{p:Int}{ps pre:List Int}{k:Nat}(h:p=2∨p=(k:Int)):KK p ps pre (k+1)=KK p ps pre k++(C1.cX ps).map (fun t=>(pre++[(k:Int)])++t):=by
 unfold KK;rw[aOF,aND,aNT,aMT h];simp
theorem MG{p:Int}{ps pre:List Int}:KK p ps pre 2=(C1.cX (p::ps)).map (fun t=>pre++t):=by
 rw[show C1.cX (p::ps)=(if p=2∨p=0 then(C1.cX ps).map (0:: ·)else [])++(if p=2∨p=1 then(C1.cX ps).map (1:: ·)else [])from rfl];unfold KK;rw[show List.range 2=[0,1]from rfl,aNQ,aNQ,List.flatMap_nil,aME,aMP];congr 1
 ·by_cases h:p=2∨p=0
  ·rw[aMT h,aMT Yam];simp
  ·rw[aMM h,aMM Yam];rfl
 ·by_cases h:p=2∨p=1
  ·rw[aMT h,aMT Yam];simp
  ·rw[aMM h,aMM Yam];rfl
theorem aBD{p:Int}{ps pre:List Int}{k:Nat}(hk:k<2):∃r,KK p ps pre 2=KK p ps pre (k+1)++r:=by
 have e:k=0∨k=1:=by omega
 rcases e with rfl|rfl
 ·refine⟨[1].flatMap fun(m:Nat)=>if p=2∨p=(m:Int)then(C1.cX ps).map (fun t=>pre++(m:Int)::t)else [],?_⟩;unfold KK;rw[show List.range 2=[0]++[1]from rfl,aND];rfl
 ·exact⟨[],by simp⟩
theorem YK{c pre:List Int}{i:Nat}{k:Int}(hi:i<c.length)(h:c.take i=pre):(c.set i k).take (i+1)=pre++[k]:=by
 rw[aMN,List.getElem?_set_self hi,aOD,List.take_set_of_le (aMS _),h]
theorem QB{l:List Ch}{i:Nat}{p:Int}(h:(gU l)[i]?= some p):∃x,l[i / 3]?= some x∧x.parts.l[i%3]?= some p:=by
 induction l generalizing i with
 |nil=>simp[gU]at h
 |cons c l ih=>
  rw[show gU (c::l)=c.parts.a::c.parts.b::c.parts.c::gU l from rfl]at h;match i with
  |0=>exact⟨c,rfl,by simpa [Pt.l]using h⟩
  |1=>exact⟨c,rfl,by simpa [Pt.l]using h⟩
  |2=>exact⟨c,rfl,by simpa [Pt.l]using h⟩
  |j+3=>
   obtain⟨x,h1,h2⟩:=ih (i:=j) Yam;exact⟨x,by rw[show(j+3) / 3=j / 3+1 by omega];simpa using h1,by rw[show(j+3)%3=j%3 by omega];exact h2⟩
theorem wP{bh bc bo bY br n:Nat}{c:List Int}:(bo,Obj.cells (ints c).toArray 101 (0,0))∈fR bh bc bo bY br n c:=aRH _ (aRH _ (GE _))
theorem aKL(i:Nat):0+((i:Int) / 3).toNat*3+((i:Int)%3).toNat*1=i:=by omega
theorem qH{lo l:Nat}{J Jx:List (List Int)→pC}{y:bJ}{xs:List (List Int)}{Dr Dy:aA}{Ds:List aA}{bh bc bo bY br:Nat}{cv qv:Value}(hn7:y.chairs.length≤7)
  (hs:∀pre,xE lo (J pre)) (hsx:∀pre,xE lo (Jx pre)) (hY:aFA Tryz.prog Dr lo l y.chairs.length J Jx xs) (hDr:Dr∈Ds) (hDy:Dy∈Ds) (hA:At Dr br 0 [cv,.int .i64 y.fit,qv]) (hc:Sl Dr sK 4 cv y.chairs) (hB:At Dy bY 0 [.func (.yield l) #[] #[]]):
  ∀(j i:Nat) (pre c:List Int) (done rest:List (List Int)) (iv:Int),iv=i→i+j=3*y.chairs.length→pre.length=i→c.length=3*y.chairs.length→c.take i=pre→
   xs=done++(C1.cX ((gU y.chairs).drop i)).map (fun t=>pre++t)++rest→
   aJK Tryz.prog 242 [.int .i64 iv,.pointer (some ⟨bc,0,none⟩),.pointer (some ⟨bY,0,none⟩),.pointer (some ⟨br,0,none⟩),.pointer (some ⟨bh,0,none⟩)] lo (J done) (fR bh bc bo bY br y.chairs.length c) Ds (xR J Jx bh bc bo bY br y.chairs.length (gU y.chairs) pre i done):=by
 intro j;induction j using Nat.strongRecOn with
 |_ j ih=>
 intro i pre c done rest iv hiv hij hl h9 hp hxs;subst hiv;have hmx:=hc.len;have hfl:=lG y.chairs;refine xI (μ:=fR bh bc bo bY br y.chairs.length c) 52 Tryz.func242 rfl rfl rfl rfl<|C.s1<|Zi rfl<|L.n3<|Za rfl<|DU rfl rfl rfl Yd Yd Yf rfl trivial<|Za rfl<|wE rfl rfl rfl Yd Yd Yf rfl trivial<|Zi rfl<|Zi rfl<|L.n4<|Za rfl ?_;refine Zl rfl Tf.a315 rfl (List.Mem.tail _ (List.Mem.head _)) rfl<|iR rfl U315 rfl rfl rfl trivial<|dU rfl rfl rfl rfl trivial<|L.n1<|aE rfl (fun hc1=>?_) (fun hc1=>?_)
 ·have hin:i=3*y.chairs.length:=by omega
  subst hin;have hleaf:c=pre:=by rw[←hp,aNA Yd]
  rw[←hfl,List.drop_length]at hxs;simp only[C1.cX,aMZ,aQB,aME]at hxs;rw[←hleaf,aMK,aPV]at hxs;refine C.s1<|Zc 0 rfl Tf.a363 rfl hB rfl<|Zl rfl Tf.a315 rfl (List.Mem.tail _ (List.Mem.head _)) rfl<|X9 (l:=l) (J1:=J (done++[c])) (J0:=Jx (done++[c])) rfl rfl rfl rfl (hs _) (hsx _) (fun D w hd hJ hb hl=>hY done c _ D w bo ⟨rest,hxs⟩ hd hJ (fun b hbm=>by obtain⟨p,hp,rfl⟩:=aMB.1 hbm;exact bE (hb p hp).1) (hl _ hDr) ⟨aMB.2 ⟨_,wP,rfl⟩,(hb _ wP).2,_,_,(hb _ wP).1⟩) rfl cW (fun b1 J1 hJ1=>Zi rfl<|L.n5<|Zah ?_)
  exact iP (P:=Tryz.prog) (fn:=Tryz.f242) (N:=52) (vs:=[_]) rfl rfl ⟨rfl,cW⟩ (fun D h=>⟨D,h,Le.refl D⟩) ⟨b1,c,rfl,h9,hp,rfl,by cases b1<;>simp only[hJ1,aOJ,aNJ,aOP];exact⟨_,rfl⟩;rw[←hfl,List.drop_length];simp[C1.cX,hleaf]⟩
 ·have hin:i<(gU y.chairs).length:=by omega
  obtain⟨p,hpi⟩:=C.ge (gU y.chairs) i;obtain⟨x,hx3,hm⟩:=QB hpi;have hx:y.chairs[((i:Int) / 3).toNat]?= some x:=by rw[show((i:Int) / 3).toNat=i / 3 by omega];exact hx3
  have hd:(gU y.chairs).drop i=p::(gU y.chairs).drop (i+1):=by rw[aNZ hin];congr 1;exact aMY ((LE hin).symm.trans hpi)
  rw[hd,←MG]at hxs;refine C.kn<|C.s2<|Za rfl<|L.n1<|Zai<|J5 (γ:=Nat×List Int) (fun g=>2-g.1) (fun g=>g.1≤2∧g.2.length=3*y.chairs.length∧g.2.take i=pre) (fun g=>J (done++KK p ((gU y.chairs).drop (i+1)) pre g.1)) (fun g=>[(22,.int .i64 (g.1:Int))]) [(8,_),(7,_),(6,_),(0,_),(1,_),(3,_),(4,_)] (fun g=>fR bh bc bo bY br y.chairs.length g.2) (fun g=>Ds) (0,c) ⟨by simp,h9,hp⟩ (by simp[aBE]) ⟨Ya,cW⟩ C.rs (LT _) (aD) ?_;rintro⟨k,c1⟩ ⟨h11,h91,hp1⟩;simp only at h11 h91 hp1;refine C.s1<|Zac rfl<|L.n2<|aE rfl (fun hc2=>?_) (fun hc2=>?_)
  ·refine C.kn<|aK<|Zai<|C.s1<|Za rfl<|Zi rfl<|L.n3<|Zj rfl Tf.f40_0 rfl<|Zc 0 rfl Tf.a37 rfl hA rfl<|Za rfl<|Za rfl<|Zp rfl U37 Tf.s103 rfl hc rfl hx (fun b1 o1 cs1 hr1 hcl1 hA1=>?_);obtain rfl:cs1=[.int .i64 _,.int .i64 _,.int .i64 _,.int .i64 _]:=hr1;refine Zj rfl Tf.f103_1 rfl<|dN rfl U101 Tf.s3 rfl rfl Yd Yd rfl trivial<|bC (o:=_+1) (k:=((i:Int)%3).toNat*1) rfl Tf.a3 rfl hA1.tail Yj (by rw[show((i:Int)%3).toNat=i%3 by omega];exact aIJ hm) GT rfl trivial<|Zi rfl<|L.n3<|Za rfl<|dU rfl rfl rfl rfl trivial<|Za rfl ?_
   refine' L.orK 4 (s:=35) (p:=39) rfl (fun hg1=>?_) (fun hg1=>?_) ?_;rotate_left
   ·refine Zb rfl<|Zb rfl<|dU rfl rfl rfl rfl ⟨_,rfl,rfl⟩<|Zz rfl ?_;exact L.cu 3
   ·refine Zh rfl<|Zh rfl<|Zh rfl<|Zy rfl ?_;exact L.cu 3
   refine L.n1<|aI rfl (fun hc3=>?_) (fun hc3=>?_)
   ·have hpk:p=2∨p=(k:Int):=by simpa using hc3
    obtain⟨rr,hr⟩:=aBD (p:=p) (ps:=(gU y.chairs).drop (i+1)) (pre:=pre) (k:=k) Yd;refine C.s1<|Zl rfl Tf.a315 rfl (List.Mem.tail _ (List.Mem.head _)) rfl<|Za rfl<|Za rfl<|Za rfl<|eH rfl U315 Tf.s101 rfl rfl Yd Yd rfl trivial<|dN rfl U101 Tf.s3 rfl rfl Yd Yd rfl trivial<|rI (k:=i) rfl Tf.s3 (by show some (Value.pointer (some ⟨bo,0+((i:Int) / 3).toNat*3+((i:Int)%3).toNat*1,none⟩))=_;rw[aKL]) rfl (.tail (.tail bS.head)) Yl trivial<|L.n3<|Zl rfl Tf.a191 rfl (List.Mem.head _) rfl<|Za rfl<|Zw rfl ?_;refine nQ rfl rfl rfl rfl (ih (j-1) Yd (i+1) (pre++[(k:Int)]) (c1.set i k) (done++KK p ((gU y.chairs).drop (i+1)) pre k) (rr++rest) (i+1:Int) Yd Yd Yah (by simpa using h91) (YK Yd hp1) (by rw[hxs,hr,LV hpk];simp)) rfl cW ?_
    rintro _ J2 _ ⟨b2,c2,rfl,h9',hp',rfl,hJ2⟩;refine Zae rfl<|L.n1<|aI rfl (fun hc4=>?_) (fun hc4=>?_)
    ·obtain rfl:b2=false:=by simpa using hc4
     refine C.s1<|Zi rfl<|L.n5<|Zal<|Zah<|Zah<|Zal<|Zah ?_;exact iP (P:=Tryz.prog) (fn:=Tryz.f242) (N:=52) (vs:=[_]) rfl rfl ⟨rfl,cW⟩ (fun D h=>⟨D,h,Le.refl D⟩) ⟨false,c2,rfl,h9',oL hp' hl,rfl,by simpa using hJ2⟩
    ·obtain rfl:b2=true:=by simpa using hc4
     refine bB<|Zak<|Zag<|C.rg<|Zw rfl<|Za rfl<|Zaa ?_;exact lM 30 (k+1,c2) ⟨by simp only;omega,h9',oL hp' hl⟩ Yl (by simpa only[aOJ,LV hpk,aMK]using hJ2) ⟨Ya,cW⟩ rfl rfl (LT _) (aD)
   ·have hpk:¬(p=2∨p=(k:Int)):=by simpa using hc3
    refine bB<|Zak<|Zag<|C.rg<|Zw rfl<|Za rfl<|Zaa ?_;exact lM 19 (k+1,c1) ⟨by simp only;omega,h91,hp1⟩ Yl (by rw[aIK hpk]) ⟨Ya,cW⟩ rfl rfl (LT _) (aD)
  ·refine aP<|Zaj<|Zaj<|Zam<|Zag<|C.s1<|Zi rfl<|L.n5 ?_;exact iP (P:=Tryz.prog) (fn:=Tryz.f242) (N:=52) (vs:=[_]) rfl rfl ⟨rfl,cW⟩ (fun D h=>⟨D,h,Le.refl D⟩) ⟨true,c1,rfl,h91,hp1,rfl,by simp only[aOJ];rw[hd,←MG,show k=2 by omega]⟩
theorem wS(y:bJ)(Dr:aA)(br:Nat)(cv qv:Value)(hn7:y.chairs.length≤7)(hA:At Dr br 0 [cv,.int .i64 y.fit,qv])(hc:Sl Dr sK 4 cv y.chairs):
  KQ Tryz.prog 241 [.pointer (some ⟨br,0,none⟩)] Dr (C1.cX (gU y.chairs)) (aCX y.chairs.length) ints:=by
 refine JM 12 Tryz.func241 rfl rfl rfl rfl (fun lo l J Jx hs hsx hY=>C.s1<|Zt rfl (fun q1 E1 hE1 hB1=>L.n3<|Zj rfl Tf.f40_0 rfl<|Zc 0 rfl Tf.a37 rfl hA rfl<|aO rfl U37 rfl hc rfl rfl trivial<|aQ rfl U315 Tf.s101 Tf.z101 rfl Tf.i101 rfl rfl Yd (aX Ye rfl) rfl cW (fun bo=>Zv rfl Tf.z315 rfl (fun q2=>aL rfl rfl rfl rfl Tf.s315 (bS.head) Ye rfl Yi trivial<|L.n3<|Zv rfl Tf.z191 rfl (fun q3=>?_)))));refine L.n3<|bH rfl rfl rfl rfl trivial<|aL rfl rfl rfl rfl Tf.s191 (bS.head) Ye rfl Yi trivial<|L.n1<|C.rg<|Zl rfl Tf.a191 rfl (List.Mem.head _) rfl<|nQ rfl rfl rfl rfl (qH (l:=l) hn7 hs hsx hY Ye Ye hA hc hB1 (3*y.chairs.length) 0 [] (List.replicate (y.chairs.length*3) 0) [] [] 0 rfl Yd rfl Yah rfl Ye) rfl cW ?_;rintro _ J2 _ ⟨b2,c2,rfl,h9',hp',rfl,hJ2⟩;refine Zaa ?_;exact iP (P:=Tryz.prog) (fn:=Tryz.f241) (N:=12) (vs:=[]) rfl rfl cW (fun D h=>⟨D,by simp only[aML]at h;subst h;simp,Le.refl D⟩) (by cases b2<;>simp at hJ2;exact aMD hJ2;exact aMR hJ2)
theorem vM(yv:Value)(y:bJ)(D:aA)(hy:kR D yv y)(hn7:y.chairs.length≤7):
  Fn Tryz.prog 161 #[yv] D (fun D' v=>∃br,v=.func (.func 241) #[] #[.pointer (some ⟨br,0,none⟩)]∧KQ Tryz.prog 241 [.pointer (some ⟨br,0,none⟩)] D' (C1.cX (gU y.chairs)) (aCX y.chairs.length) ints):=by
 obtain⟨cv,qv,rfl,hc,hq⟩:=hy;refine enter 4 Tryz.func161 rfl rfl rfl rfl fun h0=>C.s1<|Zt rfl (fun q1 E1 hE1 hB1=>Zi rfl<|L.n3<|bH rfl rfl rfl rfl trivial<|Zi rfl<|L.n5 ?_)
 exact leave1 rfl rfl rfl rfl (fun D hD=>⟨_,rfl,wS y _ q1 cv qv hn7 (hB1.up (hD _ Ye)) (hc.up sK.up (hD _ Ye))⟩)
end L7
end Go.Fs
namespace Go.Fs
open Go.Proofs
namespace L7
open C7
def xF(s:Sc):List Int:=(s.whole:Int)::(s.broken:Int)::s.fits.map fun n:Nat=>(n:Int)
theorem nK(s:Sc)(h:s.fits.length=7):(xF s).length=9:=by simp[xF,h]
theorem XI(s:Sc):GO s=.agg (ints (xF s)).toArray:=by
 unfold GO I8 xF ints;rw[aMZ,aMZ,aQY];rfl
theorem aBM{s s':Sc}(h:xF s=xF s'):s=s':=by
 obtain⟨a,b,c⟩:=s;obtain⟨a',b',c'⟩:=s';simp only[xF,aOC]at h;obtain⟨h1,h2,h3⟩:=h;rw[A4 h3,show a=a' by omega,show b=b' by omega]
def zK(acc:List (Sc×Nat)):List Int:=match acc.getLast? with
 |some p=>xF p.1
 |none=>[]
def nF(y:bJ)(out:List Int)(acc:List (Sc×Nat))(t:List Pt):List (Sc×Nat):=
 if(nD y.claims out (pH y.chairs.length (dQ y t):Int)&&(decide ((acc.length:Int)=0)|| !(zK acc==xF (dQ y t))))=true then acc++[(dQ y t,pH y.chairs.length (dQ y t))]else acc
def fS(y:bJ)(out:List Int)(pre:List (List Int)):List (Sc×Nat):=(pre.map xB).foldl (nF y out) []
def eU(y:bJ)(out:List Int):List (Sc×Nat):=(x8 y).foldl (nF y out) []
theorem zR(y:bJ)(out:List Int):fS y out (C1.cX (gU y.chairs))=eU y out:=rfl
theorem R3(y:bJ)(out:List Int)(pre:List (List Int))(x:List Int):fS y out (pre++[x])=nF y out (fS y out pre) (xB x):=by
 unfold fS;rw[aMP,aOA];rfl
theorem OZ(y:bJ)(out:List Int)(acc:List (Sc×Nat))(t:List Pt):(nF y out acc t).length≤acc.length+1:=by
 unfold nF;split
 ·simp
 ·omega
theorem X7(y:bJ)(out:List Int)(pre:List (List Int)):(fS y out pre).length≤pre.length:=by
 have key:∀(l:List (List Pt)) (acc:List (Sc×Nat)),(l.foldl (nF y out) acc).length≤acc.length+l.length:=by
  intro l;induction l with
  |nil=>intro acc;simp
  |cons t l ih=>intro acc;rw[aOI];have:=ih (nF y out acc t);have:=OZ y out acc t;rw[aMI];omega
 have:=key (pre.map xB) [];simpa [fS]using this
theorem M6(y:bJ)(out:List Int)(pre:List (List Int)):∀p∈fS y out pre,p.1.fits.length=7:=by
 have key:∀(l:List (List Pt)) (acc:List (Sc×Nat)),(∀p∈acc,p.1.fits.length=7)→∀p∈l.foldl (nF y out) acc,p.1.fits.length=7:=by
  intro l;induction l with
  |nil=>intro acc h;exact h
  |cons t l ih=>
   intro acc h;rw[aOI];refine ih _ fun p hp=>?_
   unfold nF at hp;split at hp
   ·rcases aMO.1 hp with hp|hp
    ·exact h p hp
    ·simp only[aML]at hp;subst hp;simp[dQ]
   ·exact h p hp
 exact key _ [] Ye
def yT(l:List Sc):List Value:=l.flatMap fun s=>ints (xF s)
theorem DJ{l:List Sc}(h:∀s∈l,s.fits.length=7):(yT l).length=l.length*9:=by
 induction l with
 |nil=>rfl
 |cons c l ih=>
  have:=ih fun s hs=>h s (aLZ _ hs)
  unfold yT at this ⊢
  rw[aNQ,aLY,this,aJ,nK c (h c aMF),aMI];omega
theorem R0{acc:List (Sc×Nat)}(h:∀p∈acc,p.1.fits.length=7):(yT (acc.map fun p=>p.1)).length=acc.length*9:=by
 rw[DJ fun s hs=>by obtain⟨p,hp,rfl⟩:=aMB.1 hs;exact h p hp,aOL]
theorem DS{l:List Sc}(h:∀s∈l,s.fits.length=7){i:Nat}{s:Sc}(hi:l[i]?= some s)(junk:List Value):((yT l++junk).drop (i*9)).take 9=ints (xF s):=by
 induction l generalizing i with
 |nil=>simp at hi
 |cons d l ih=>
  have h9:(ints (xF d)).length=9:=by rw[aJ,nK d (h d aMF)]
  have hc:yT (d::l)=ints (xF d)++yT l:=rfl;rw[hc,aMK];cases i with
  |zero=>
   obtain rfl:d=s:=by simpa using hi
   rw[aQF,aPZ,aNP Yd,aNA Yd]
  |succ i=>
   rw[aQE,aNM Yd,aNE,show(i+1)*9-(ints (xF d)).length=i*9 by omega];exact ih (fun s hs=>h s (aLZ _ hs)) Yaj
def FQ:Rd Sc:=fun _ s cs=>cs=ints (xF s)
theorem FQ.up:FQ.Up:=fun _ _ _ h=>h
theorem _root_.Go.Fs.jY.scs{D:aA}{v:Value}{n:Nat}{acc:List (Sc×Nat)}(hF:jY D v n (yT (acc.map fun p=>p.1)))(hn:(acc.map fun p=>p.1).length=n)(hb:n≤9223372036854775807)(h:∀p∈acc,p.1.fits.length=7:=by assumption):Sl D FQ 9 v (acc.map fun p=>p.1):=by
 have h':∀s∈acc.map (fun p=>p.1),s.fits.length=7:=fun s hs=>by obtain⟨p,hp,rfl⟩:=aMB.1 hs;exact h p hp
 exact hF.sl hn hb fun i s hi=>⟨_,rfl,by rw[aJ,nK s (h' s (aLW hi))],by have:=DS h' hi [];rwa [aME]at this⟩
theorem X0{acc:List (Sc×Nat)}(h:∀p∈acc,p.1.fits.length=7)(hne:acc≠[]):(zK acc).length=9:=by
 unfold zK;rw[aPK hne];exact nK _ (h _ (List.getLast_mem hne))
theorem ZE{acc:List (Sc×Nat)}(h:∀p∈acc,p.1.fits.length=7)(hne:acc≠[])(junk:List Value):((yT (acc.map fun p=>p.1)++junk).drop (0+(((acc.length:Int)-1).toNat)*9)).take 9=ints (zK acc):=by
 have h':∀s∈acc.map (fun p=>p.1),s.fits.length=7:=fun s hs=>by obtain⟨p,hp,rfl⟩:=aMB.1 hs;exact h p hp
 have hpos:=aPI.2 hne;unfold zK;rw[aPK hne,aPC];refine DS h' ?_ junk;rw[aNB,show((acc.length:Int)-1).toNat=acc.length-1 by omega,←List.getLast?_eq_getElem?,aPK hne];rfl
theorem aIG{D:aA}{bo n:Nat}{x:List Int}(h:At D bo 0 (ints x))(hx:x.length=3*n)(hn:n≤7):Sl D RP 3 (.slice (some ⟨bo,0,none⟩) n n) (xB x):=by
  obtain⟨h1,h2⟩:=AB _ _ hx;have hle:n≤9223372036854775807∨True:=aMD trivial;have key:∀(l:List Pt) (i:Nat) (p:Pt),l[i]?= some p→((ints (C7.kC l)).drop (i*3)).take 3=[.int .i64 p.a,.int .i64 p.b,.int .i64 p.c]:=by
    intro l;induction l with
    |nil=>intro i p hi;simp at hi
    |cons d l ih=>
      intro i p hi;cases i with
      | zero => obtain rfl : d = p := by simpa using hi
                rfl
      |succ i=>
        rw[C7.oD,show(i+1)*3=i*3+3 by omega];exact ih i p Yaj
  refine⟨_,n,by rw[h2],by omega,?_,aMD ⟨bo,0,rfl,fun i p hi=>⟨_,rfl,rfl,fun j v hj=>?_⟩⟩⟩
  · rw[h2];omega
  · have:=key _ _ _ hi;rw[h1]at this;rw[←this,List.getElem?_take]at hj;split at hj
    · rw[aOW]at hj;have:=h _ v hj;rw[show 0+i*3+j=0+(i*3+j) by omega];exact this
    · cases hj
def aCV(y:bJ)(out:List Int)(pre:List (List Int))(g:Array MapEntry×Nat×List (lR 8×Int)×Value×aC×Value×aC):Prop:=
 rC qB g.1 g.2.2.1∧V4 y.chairs.length g.2.2.1∧bM 319 9 g.2.2.2.1 (fS y out pre).length (yT ((fS y out pre).map fun p=>p.1)) g.2.2.2.2.1∧bM 3 1 g.2.2.2.2.2.1 (fS y out pre).length (ints ((fS y out pre).map fun p=>(p.2:Int))) g.2.2.2.2.2.2
theorem t6{y:bJ}{out:List Int}{pre:List (List Int)}{x:List Int}{es:Array MapEntry}{cl:Nat}{M:List (lR 8×Int)}{v u:Value}{ν ω:aC}(hM:rC qB es M)(hok:V4 y.chairs.length M)
  (hc:(nD y.claims out (pH y.chairs.length (dQ y (xB x)):Int)&&(decide (((fS y out pre).length:Int)=0)|| !(zK (fS y out pre)==xF (dQ y (xB x)))))=true)
  (h1:bM 319 9 v ((fS y out pre).length+1) (yT ((fS y out pre).map fun p=>p.1)++ints (xF (dQ y (xB x)))) ν) (h2:bM 3 1 u ((fS y out pre).length+1) (ints ((fS y out pre).map fun p=>(p.2:Int))++[.int .i64 (pH y.chairs.length (dQ y (xB x)):Int)]) ω):aCV y out (pre++[x]) (es,cl,M,v,ν,u,ω):=by
 have e:fS y out (pre++[x])=fS y out pre++[(dQ y (xB x),pH y.chairs.length (dQ y (xB x)))]:=by
  rw[R3,nF,aMT hc]
 unfold aCV;rw[e];refine⟨hM,hok,?_,?_⟩
 ·simpa [yT]using h1
 ·simpa [ints]using h2
theorem aGW{y:bJ}{out:List Int}{pre:List (List Int)}{x:List Int}{es:Array MapEntry}{cl:Nat}{M:List (lR 8×Int)}{v u:Value}{ν ω:aC}(hM:rC qB es M)(hok:V4 y.chairs.length M)
  (hc:(nD y.claims out (pH y.chairs.length (dQ y (xB x)):Int)&&(decide (((fS y out pre).length:Int)=0)|| !(zK (fS y out pre)==xF (dQ y (xB x)))))=false)
  (h1:bM 319 9 v (fS y out pre).length (yT ((fS y out pre).map fun p=>p.1)) ν) (h2:bM 3 1 u (fS y out pre).length (ints ((fS y out pre).map fun p=>(p.2:Int))) ω):aCV y out (pre++[x]) (es,cl,M,v,ν,u,ω):=by
 have e:fS y out (pre++[x])=fS y out pre:=by
  rw[R3,nF,aMM (by rw[hc];simp)]
 unfold aCV;rw[e];exact⟨hM,hok,h1,h2⟩
theorem CL{y:bJ}(h:y.chairs.length≤7):(C1.cX (gU y.chairs)).length≤2097152:=by
 have h1:=C1.uS (gU y.chairs);have h2:2^(gU y.chairs).length≤2^21:=aPQ Yd (by rw[lG];omega)
 omega
theorem vJ{l x:List Int}{pre r:List (List Int)}(h:C1.cX l=pre++x::r):x.length=l.length∧(∀n∈x,0≤n∧n≤1)∧pre.length<(C1.cX l).length:=by
 have hm:x∈C1.cX l:=by rw[h];simp
 exact⟨(C1.nS hm).1,(C1.nS hm).2,by rw[h];simp⟩
theorem YC{x:List Int}(h:∀n∈x,0≤n∧n≤1)(hg:C7.kC (xB x)=x):∀p∈xB x,g8 p:=fun p hp=>by
 have:∀n∈p.l,n∈x:=fun n hn=>by rw[←hg];exact aRG.2 ⟨p,hp,hn⟩
 exact⟨h _ (this _ (by simp[Pt.l])),h _ (this _ (by simp[Pt.l])),h _ (this _ (by simp[Pt.l]))⟩
theorem aFO(A ν ω T:aC):A++(ν++(ω++T))=A++(ν++ω)++T:=by simp
theorem aLM(A ν ω T:aC):A++((ν++ω)++T)=A++ν++(ω++T):=by simp
theorem aGE{a b c d:Nat}{l:List Nat}:∀k∈[c,d],k∈a::b::c::d::l:=fun k hk=>by
 simp only[aLX,GT,aNU]at hk ⊢
 rcases hk with rfl|rfl
 ·exact aMD (aMD (aMR rfl))
 ·exact aMD (aMD (aMD (aMR rfl)))
theorem aLB{A B ν ω C:aC}{k:Nat}(h:(((A++B)++(ν++(ω++C))).map fun p=>p.1).Nodup)(hk:k∈(A++B).ks):k∉ν.ks++ω.ks:=by
 rw[aMP,aMP,aMP,aMJ]at h;intro hm;refine h.2.2 k (by simpa using hk) k ?_ rfl;rcases aMO.1 hm with hm|hm
 ·exact aMG _ hm
 ·rw[aMP];exact aMA _ (aMG _ hm)
theorem UD{n:Nat}{s:Sc}(h:BH n s)(hn:n≤7):pH n s≤200:=by
 have h1:=JA s.fits n s.broken;have h2:=m7 h.bits hn;have h3:=h.whole;unfold pH;omega
theorem aGL:KS Tryz.prog 319 9:=by
 have hf:(Tryz.prog.fieldsOf 319).toList=[(Tryz.prog.fieldsOf 319)[0]!,(Tryz.prog.fieldsOf 319)[1]!,(Tryz.prog.fieldsOf 319)[2]!]:=by kernel_rfl
 refine⟨by kernel_rfl,by kernel_rfl,by kernel_rfl,?_⟩;rw[hf];refine .cons (hU.int Yad Yg Yg) (.cons (hU.int Yad Yg Yg) (.cons (n:=7) (hU.arr (e:=3) Yad Yg Yg Yg Yg ?_ ?_) .nil))
 ·rw[show((Tryz.prog.fieldsOf 319)[2]!).type=317 by kernel_rfl];exact Tf.a317
 ·rw[show((Tryz.prog.fieldsOf 319)[2]!).type=317 by kernel_rfl];exact Tf.s317
theorem SL(yv tv:Value)(y:bJ)(t:List Pt)(D:aA)(hy:kR D yv y)(ht:Sl D RP 3 tv t)(hlen:t.length=y.chairs.length)(h7:t.length≤7)(hb:∀p∈t,g8 p)(hf:0≤y.fit∧y.fit≤9)(hs:∀c∈y.chairs,0≤c.size∧c.size≤9):Fn Tryz.prog 162 #[yv,tv] D (fun _ v=>v=.agg (ints (xF (dQ y t))).toArray):=by
 rw[←XI];exact WT yv tv y t D hy ht hlen h7 hb hf hs
theorem WH(wb mb:Nat)(cv qv:Value)(fit:Int)(chs:List Ch)(s:Sc)(hn7:chs.length≤7)(hs:BH chs.length s)(es:Array MapEntry)(clock:Nat)(M:List (lR 8×Int))(D:aA)(hS:Sl D sK 4 cv chs)(hM:rC qB es M)(hok:V4 chs.length M):
  T1 Tryz.prog 163 [.pointer (some ⟨wb,0,none⟩),.agg (ints (xF s)).toArray] D [(wb,.cells [cv,.int .i64 fit,qv,.map (some mb)].toArray 311 (0,0)),(mb,.map es clock)] (fun _ v ν'=>v=.int .i64 (pH chs.length s:Int)∧∃es' clock' M',ν'=[(wb,.cells [cv,.int .i64 fit,qv,.map (some mb)].toArray 311 (0,0)),(mb,.map es' clock')]∧rC qB es' M'∧V4 chs.length M'):=by
 rw[←XI];exact aCG wb mb cv qv fit chs s hn7 hs es clock M D hS hM hok
theorem a7(wb mb:Nat)(cv qv:Value)(y:bJ)(out:List Int)(ov:Value)(hn7:y.chairs.length≤7)(hft:0≤y.fit∧y.fit≤9)(hsz:∀c∈y.chairs,0≤c.size∧c.size≤9)(es0:Array MapEntry)(clock0:Nat)(M0:List (lR 8×Int))(D:aA)(hS:Sl D sK 4 cv y.chairs)(hq:Sl D R2 2 qv y.claims)(ho:Sl D RI 1 ov out)(hM0:rC qB es0 M0)(hok0:V4 y.chairs.length M0):
  T1 Tryz.prog 98 [.pointer (some ⟨wb,0,none⟩),ov] D [(wb,.cells [cv,.int .i64 y.fit,qv,.map (some mb)].toArray 311 (0,0)),(mb,.map es0 clock0)] (fun D' v ν'=>∃sv mv,v=.tuple #[sv,mv]∧Sl D' FQ 9 sv ((eU y out).map fun p=>p.1)∧Sl D' RI 1 mv ((eU y out).map fun p=>(p.2:Int))∧∃es' clock' M',ν'=[(wb,.cells [cv,.int .i64 y.fit,qv,.map (some mb)].toArray 311 (0,0)),(mb,.map es' clock')]∧rC qB es' M'∧V4 y.chairs.length M'):=by
 obtain⟨oa,oc,rfl⟩:=ho.shape;refine GQ 56 Tryz.func98 rfl rfl rfl rfl (fun h0 hwl hwn=>C.s1<|Zt rfl (fun q1 E1 hE1 hB1=>Zt rfl (fun q2 E2 hE2 hB2=>Zv rfl Tf.z210 rfl (fun q3=>Zv rfl Tf.z25 rfl (fun q4=>L.n4<|Zc 0 rfl Tf.a212 rfl hB1 rfl<|Zad rfl<|Zj rfl Tf.f311_0 rfl<|dM rfl Tf.a40 Tf.s40 rfl (List.Mem.tail _ (List.Mem.tail _ (List.Mem.head _))) rfl rfl GT rfl trivial<|bZ rfl rfl rfl (fun D1 hD1=>vM _ y _ ⟨_,_,rfl,hS.up sK.up (hD1 _ Ye),hq.up R2.up (hD1 _ Ye)⟩ hn7) rfl cW (fun v1 D1 hD1 hp1=>?_))))));refine L.n1<|Zai ?_;obtain⟨br,rfl,hit⟩:=hp1;refine m5 (γ:=Array MapEntry×Nat×List (lR 8×Int)×Value×aC×Value×aC) (xs:=C1.cX (gU y.chairs)) (enc:=aCX y.chairs.length) (cells:=ints) (Dr:=D1) (aCV y out) (fun _ _ _=>False) (fun g=>(q4,.cells [g.2.2.2.2.2.1].toArray 25 (0,0))::(q3,.cells [g.2.2.2.1].toArray 210 (0,0))::(wb,.cells [cv,.int .i64 y.fit,qv,.map (some mb)].toArray 311 (0,0))::(mb,.map g.1 g.2.1)::(g.2.2.2.2.1++g.2.2.2.2.2.2)) (es0,clock0,M0,.slice none 0 0,[],.slice none 0 0,[]) rfl rfl (fun g k hk=>aLZ _ (aLZ _ (aMG (aC.ks _) hk))) rfl hit Ye (fun _=>rfl) rfl ⟨hM0,hok0,by simpa [fS,yT]using bM.nil,by simpa [fS,ints]using bM.nil⟩ rfl ?_ ?_ (fun _ _ _ _ h=>h.elim)
 ·rintro pre x ⟨es,clock,M,v,ν,u,ω⟩ ⟨us,hx⟩ ⟨hM,hok,ha1,ha2⟩ l bd bo rec hh D7 hD7 hbo hst hpend;simp only at hM hok ha1 ha2;obtain⟨hx3,hxb,hpl⟩:=vJ hx;have hcap:=CL hn7;rw[lG]at hx3;have ht:=aIG hbo hx3 hn7;obtain⟨hg1,hg2⟩:=AB _ _ hx3;have htl:(xB x).length=y.chairs.length:=hg2;have htb:=YC hxb hg1;have hsc:=f6 htl Yd;have hpsl:=X7 y out pre;have hmb:=UD hsc hn7;have hfit7:∀p∈fS y out pre,p.1.fits.length=7:=M6 y out pre;have hs9:=nK (dQ y (xB x)) (by simp[dQ]);refine C.rg<|Zi rfl<|Zaa ?_;refine fun a w hhh=>uW (A:=[(_,_),(_,_),(_,_),(_,_)]++(ν++ω)) (B:=[(bd,.deferred (some []))]) (r:=rec) (l:=l) (by rfl) hst ?_ a w hhh
  refine PY ((q4,.cells [u].toArray 25 (0,0))::(q3,.cells [v].toArray 210 (0,0))::(wb,.cells [cv,.int .i64 y.fit,qv,.map (some mb)].toArray 311 (0,0))::(mb,.map es clock)::(ν++(ω++[(l,.loop {rec with state:=.busy}),(bd,.deferred (some []))]))) Ye<|uU (fun hnd=>?_);simp only[aMZ,aMP,aQB,aNW,aMJ,aLX,aMO,GT,not_or]at hnd;refine Zai<|C.s1<|Zc 0 rfl Tf.a212 rfl hB1 rfl<|Zad rfl<|Zj rfl Tf.f311_0 rfl<|dM rfl Tf.a40 Tf.s40 rfl (List.Mem.tail _ (List.Mem.tail _ (List.Mem.head _))) rfl rfl GT rfl trivial<|Za rfl<|Ze rfl (fun D2 hD2=>SL _ _ y (xB x) _ ⟨_,_,rfl,hS.up sK.up (hD2 _ Ye),hq.up R2.up (hD2 _ Ye)⟩ (ht.up RP.up (hD2 _ Ye)) htl Yd htb hft hsz)<|Zv rfl Tf.z319 rfl (fun q5=>bK rfl rfl rfl rfl Tf.s319 (by simpa using hs9) (by rfl) .head (bU _) trivial<|L.n3<|Zc 0 rfl Tf.a212 rfl hB1 rfl ?_);refine bA (vs:=ints (xF (dQ y (xB x)))) rfl Tf.a319 rfl (GE _) (by rw[show(ints (xF (dQ y (xB x)))).length=9 by simpa using hs9];exact Tf.s319) GT rfl trivial<|aF ([(_,_),(_,_),(_,_)]++[(_,_),(_,_)]++(ν++(ω++[(l,_),(bd,_)]))) rfl<|dL (A:=[(_,_),(_,_),(_,_)]) (ν:=[(_,_),(_,_)]) (B:=ν++(ω++[(l,_),(bd,_)])) rfl rfl rfl rfl (aMR rfl) (j8 (cs:=[_,_,_,_])) (fun D5 hD5=>WH wb mb cv qv y.fit y.chairs (dQ y (xB x)) hn7 hsc es clock M D5 (hS.up sK.up (hD5 _ Ye)) hM hok) rfl cW (fun v5 D6 _ hD6 hp5=>?_)
  obtain⟨rfl,es1,cl1,M1,rfl,hM1,hok1⟩:=hp5;refine Zi rfl<|L.n2<|C.drawA [] 7 22 319536 (fun _ _ _ h=>h)<|Zc 0 rfl Tf.a212 rfl hB1 rfl<|Zad rfl<|Zj rfl Tf.f311_0 rfl<|dM rfl Tf.a40 Tf.s40 rfl (List.Mem.tail _ (List.Mem.tail _ (List.Mem.tail _ (List.Mem.head _)))) rfl rfl GT rfl trivial<|Za rfl<|Zc 0 rfl Tf.a25 rfl hB2 rfl<|Ze rfl (fun D3 hD3=>P9 _ y _ _ out _ ⟨_,_,rfl,hS.up sK.up (hD3 _ Ye),hq.up R2.up (hD3 _ Ye)⟩ (ho.up RI.up (hD3 _ Ye)))<|Za rfl ?_;refine' L.anK 14 (s:=31) (p:=45) rfl (fun hg1=>?_) (fun hg1=>?_) ?_;rotate_left
  ·refine aT rfl Tf.a210 rfl (aRH _ (aRH _ (GE _))) rfl GT rfl ⟨_,rfl,rfl⟩<|eE rfl U210 rfl ha1 rfl rfl ⟨_,rfl,rfl⟩<|dU rfl rfl rfl rfl ⟨_,rfl,rfl⟩<|Zb rfl ?_;refine' L.orK 9 (s:=35) (p:=44) rfl (fun hg2=>?_) (fun hg2=>?_) ?_;rotate_left
   ·have hne:fS y out pre≠[]:=fun e=>by rw[e]at hg2;simp at hg2
    have hpos:=aPI.2 hne;obtain⟨b5,cap5,junk5,rfl,hcp5,rfl,hl51,hl52⟩:=ha1.some hpos;refine aT rfl Tf.a210 rfl (aRH _ (aRH _ (GE _))) rfl GT rfl ⟨_,rfl,rfl⟩<|aT rfl Tf.a210 rfl (List.Mem.tail _ (List.Mem.tail _ (List.Mem.head _))) rfl GT rfl ⟨_,rfl,rfl⟩<|iR rfl U210 rfl rfl rfl ⟨_,rfl,rfl⟩<|gH rfl rfl rfl Yf rfl ⟨_,rfl,rfl⟩<|eH rfl U210 Tf.s319 rfl rfl Yd Yd rfl ⟨_,rfl,rfl⟩<|dM (vs:=yT ((fS y out pre).map fun p=>p.1)++junk5) (us:=ints (zK (fS y out pre))) rfl Tf.a319 Tf.s319 rfl (aRH _ (aRH _ (aRH _ (aRH _ (aRH _ (GE _)))))) (ZE hfit7 hne junk5) (by simpa using X0 hfit7 hne) GT rfl ⟨_,rfl,rfl⟩<|bA (vs:=ints (xF (dQ y (xB x)))) rfl Tf.a319 rfl (GE _) (by rw[show(ints (xF (dQ y (xB x)))).length=9 by simpa using hs9];exact Tf.s319) GT rfl ⟨_,rfl,rfl⟩<|xK (n:=9) rfl aGL (X0 hfit7 hne) hs9 rfl rfl rfl ⟨_,rfl,rfl⟩<|nI rfl rfl rfl rfl ⟨_,rfl,rfl⟩ ?_
    exact L.cu 8
   ·refine Zh rfl<|Zh rfl<|Zh rfl<|Zh rfl<|Zh rfl<|Zh rfl<|Zh rfl<|Zh rfl<|nJ rfl rfl rfl rfl ⟨_,rfl,rfl⟩ ?_;exact L.cu 8
   refine Zy rfl ?_;exact L.cu 5
  ·refine Zh rfl<|Zh rfl<|Zh rfl<|Zh rfl<|Zh rfl<|Zh rfl<|Zh rfl<|Zh rfl<|Zh rfl<|Zh rfl<|Zh rfl<|Zh rfl ?_;refine Zh rfl<|Zz rfl ?_;exact L.cu 13
  refine L.n1<|aI rfl (fun hc1=>?_) (fun hc1=>?_)
  ·refine uU (fun hnd=>?_);have hq5:=aLB (A:=[_,_,_]) (B:=[_,_]) (k:=q5) hnd (GE _);have hq4:=aLB (A:=[_,_,_]) (B:=[_,_]) (k:=q4) hnd (aRH _ (GE _));have hq3:=aLB (A:=[_,_,_]) (B:=[_,_]) (k:=q3) hnd (aRH _ (aRH _ (GE _)));refine jV (ν.ks++ω.ks) 3 [false,true,true,true,true,true,true,false,false,false] [.fork [0,1,4,5] 2 (.fork [] 3 (.fin [6]) 6 (.fin [3])) 6 (.fin [2,3]),.fin [7,8,9]] Tf.follows (fun _ _ _ h=>h) Yg<|nA<|bG [(false,0),(true,1),(true,4),(true,5)] rfl<|aT rfl Tf.a210 rfl (List.Mem.tail _ (List.Mem.tail _ (List.Mem.head _))) rfl Yj rfl trivial<|bA (vs:=ints (xF (dQ y (xB x)))) rfl Tf.a319 rfl (GE _) (by rw[show(ints (xF (dQ y (xB x)))).length=9 by simpa using hs9];exact Tf.s319) hq5 rfl trivial<|aT rfl Tf.a25 rfl (List.Mem.tail _ (List.Mem.head _)) rfl Yj rfl trivial<|Za rfl<|Zaa (dB true true rfl rfl ?_ ?_)
   ·refine Zn rfl U210 Tf.s319 Tf.z319 rfl rfl rfl rfl (.cons rfl (by simpa using hs9) .nil) (fun b901 D901 hD901 hA901=>?_);have hAs:=hA901;refine Zaa<|bG [] rfl<|Zaa (dB true true rfl rfl ?_ ?_)
    ·refine aF ([(_,_),(_,_),(_,_),(_,_),(_,_)]++ν++(ω++[(l,_),(bd,_)])) (aMK _ _ _).symm<|aV (A:=[(_,_),(_,_),(_,_),(_,_),(_,_)]) (B:=(ω++[(l,_),(bd,_)])) rfl U210 rfl rfl Tf.s319 Tf.z319 rfl Tf.i319 rfl rfl rfl ha1 (jM.lit hAs) Ye (by simpa using hs9) (R0 hfit7) (by simpa using bU _) Yd (aMD (fun p hp=>aMG _ (aMB.2 ⟨p,hp,rfl⟩))) rfl cW (fun v1x ν1x ha1x=>Zaa<|aR [(true,6)] rfl<|Zn rfl U25 Tf.s3 Tf.z3 rfl rfl rfl rfl (.cons rfl rfl .nil) (fun b902 D902 hD902 hA902=>?_));have hAm:=hA902;refine Zaa<|hP [(false,7),(false,8),(false,9)] rfl<|aF (([(_,_),(_,_),(_,_),(_,_),(_,_)]++ν1x)++ω++[(l,_),(bd,_)]) (aMK _ _ _).symm<|aV (A:=[(_,_),(_,_),(_,_),(_,_),(_,_)]++ν1x) (B:=[(l,_),(bd,_)]) rfl U25 rfl rfl Tf.s3 Tf.z3 rfl Tf.i3 rfl rfl rfl ha2 (jM.lit hAm) Ye rfl Ye Yi Yd (aMD (fun p hp=>aMA _ (aMB.2 ⟨p,hp,rfl⟩))) rfl cW (fun u1x ω1x ha2x=>aF ((q5,_)::(q4,.cells [u].toArray 25 (0,0))::(q3,.cells [v].toArray 210 (0,0))::(wb,.cells [cv,.int .i64 y.fit,qv,.map (some mb)].toArray 311 (0,0))::(mb,.map es1 cl1)::(ν1x++(ω1x++[(l,_),(bd,_)]))) ((aMK _ _ _).trans (aMK _ _ _))<|aL rfl rfl rfl ha1x.cells1 Tf.s210 (.tail (.tail .head)) Ye rfl ha1x.cell1 trivial<|aL rfl rfl rfl ha2x.cells1 Tf.s25 (.tail .head) Ye rfl ha2x.cell1 cW ?_);have hI1:aCV y out (pre++[x]) (es1,cl1,M1,v1x,ν1x,u1x,ω1x):=t6 hM1 hok1 hc1 (by simpa using ha1x) (by simpa using ha2x);refine Zaa<|iC<|Zak ?_;exact fun a w hh=>gC (A:=[(_,_),(_,_),(_,_),(_,_)]++(ν1x++ω1x)) (B:=[(bd,.deferred (some []))]) (es1,cl1,M1,v1x,ν1x,u1x,ω1x) hI1 rfl rfl a w ((hh.dropBoxes 1).boxesEq (aFO [_,_,_,_] ν1x ω1x [_,_]))
    ·refine Zn rfl U25 Tf.s3 Tf.z3 rfl rfl rfl rfl (.cons rfl rfl .nil) (fun b902 D902 hD902 hA902=>?_);have hAm:=hA902;refine Zaa<|aR [(true,3)] rfl<|aF ([(_,_),(_,_),(_,_),(_,_),(_,_)]++ν++(ω++[(l,_),(bd,_)])) (aMK _ _ _).symm<|aV (A:=[(_,_),(_,_),(_,_),(_,_),(_,_)]) (B:=(ω++[(l,_),(bd,_)])) rfl U210 rfl rfl Tf.s319 Tf.z319 rfl Tf.i319 rfl rfl rfl ha1 (jM.lit hAs) Ye (by simpa using hs9) (R0 hfit7) (by simpa using bU _) Yd (aMD (fun p hp=>aMG _ (aMB.2 ⟨p,hp,rfl⟩))) rfl cW (fun v1x ν1x ha1x=>Zaa<|hP [(false,7),(false,8),(false,9)] rfl<|aF (([(_,_),(_,_),(_,_),(_,_),(_,_)]++ν1x)++ω++[(l,_),(bd,_)]) (aMK _ _ _).symm<|aV (A:=[(_,_),(_,_),(_,_),(_,_),(_,_)]++ν1x) (B:=[(l,_),(bd,_)]) rfl U25 rfl rfl Tf.s3 Tf.z3 rfl Tf.i3 rfl rfl rfl ha2 (jM.lit hAm) Ye rfl Ye Yi Yd (aMD (fun p hp=>aMA _ (aMB.2 ⟨p,hp,rfl⟩))) rfl cW (fun u1x ω1x ha2x=>aF ((q5,_)::(q4,.cells [u].toArray 25 (0,0))::(q3,.cells [v].toArray 210 (0,0))::(wb,.cells [cv,.int .i64 y.fit,qv,.map (some mb)].toArray 311 (0,0))::(mb,.map es1 cl1)::(ν1x++(ω1x++[(l,_),(bd,_)]))) ((aMK _ _ _).trans (aMK _ _ _))<|aL rfl rfl rfl ha1x.cells1 Tf.s210 (.tail (.tail .head)) Ye rfl ha1x.cell1 trivial<|aL rfl rfl rfl ha2x.cells1 Tf.s25 (.tail .head) Ye rfl ha2x.cell1 cW ?_));have hI1:aCV y out (pre++[x]) (es1,cl1,M1,v1x,ν1x,u1x,ω1x):=t6 hM1 hok1 hc1 (by simpa using ha1x) (by simpa using ha2x);refine Zaa<|iC<|Zak ?_;exact fun a w hh=>gC (A:=[(_,_),(_,_),(_,_),(_,_)]++(ν1x++ω1x)) (B:=[(bd,.deferred (some []))]) (es1,cl1,M1,v1x,ν1x,u1x,ω1x) hI1 rfl rfl a w ((hh.dropBoxes 1).boxesEq (aFO [_,_,_,_] ν1x ω1x [_,_]))
   ·refine Zn rfl U25 Tf.s3 Tf.z3 rfl rfl rfl rfl (.cons rfl rfl .nil) (fun b901 D901 hD901 hA901=>?_);have hAm:=hA901;refine Zaa<|aR [(true,2),(true,3)] rfl<|Zn rfl U210 Tf.s319 Tf.z319 rfl rfl rfl rfl (.cons rfl (by simpa using hs9) .nil) (fun b902 D902 hD902 hA902=>?_);have hAs:=hA902;refine aF ([(_,_),(_,_),(_,_),(_,_),(_,_)]++ν++(ω++[(l,_),(bd,_)])) (aMK _ _ _).symm<|aV (A:=[(_,_),(_,_),(_,_),(_,_),(_,_)]) (B:=(ω++[(l,_),(bd,_)])) rfl U210 rfl rfl Tf.s319 Tf.z319 rfl Tf.i319 rfl rfl rfl ha1 (jM.lit hAs) Ye (by simpa using hs9) (R0 hfit7) (by simpa using bU _) Yd (aMD (fun p hp=>aMG _ (aMB.2 ⟨p,hp,rfl⟩))) rfl cW (fun v1x ν1x ha1x=>Zaa<|hP [(false,7),(false,8),(false,9)] rfl<|aF (([(_,_),(_,_),(_,_),(_,_),(_,_)]++ν1x)++ω++[(l,_),(bd,_)]) (aMK _ _ _).symm<|aV (A:=[(_,_),(_,_),(_,_),(_,_),(_,_)]++ν1x) (B:=[(l,_),(bd,_)]) rfl U25 rfl rfl Tf.s3 Tf.z3 rfl Tf.i3 rfl rfl rfl ha2 (jM.lit hAm) Ye rfl Ye Yi Yd (aMD (fun p hp=>aMA _ (aMB.2 ⟨p,hp,rfl⟩))) rfl cW (fun u1x ω1x ha2x=>aF ((q5,_)::(q4,.cells [u].toArray 25 (0,0))::(q3,.cells [v].toArray 210 (0,0))::(wb,.cells [cv,.int .i64 y.fit,qv,.map (some mb)].toArray 311 (0,0))::(mb,.map es1 cl1)::(ν1x++(ω1x++[(l,_),(bd,_)]))) ((aMK _ _ _).trans (aMK _ _ _))<|aL rfl rfl rfl ha1x.cells1 Tf.s210 (.tail (.tail .head)) Ye rfl ha1x.cell1 trivial<|aL rfl rfl rfl ha2x.cells1 Tf.s25 (.tail .head) Ye rfl ha2x.cell1 cW ?_));have hI1:aCV y out (pre++[x]) (es1,cl1,M1,v1x,ν1x,u1x,ω1x):=t6 hM1 hok1 hc1 (by simpa using ha1x) (by simpa using ha2x);refine Zaa<|iC<|Zak ?_;exact fun a w hh=>gC (A:=[(_,_),(_,_),(_,_),(_,_)]++(ν1x++ω1x)) (B:=[(bd,.deferred (some []))]) (es1,cl1,M1,v1x,ν1x,u1x,ω1x) hI1 rfl rfl a w ((hh.dropBoxes 1).boxesEq (aFO [_,_,_,_] ν1x ω1x [_,_]))
  ·have hI0:aCV y out (pre++[x]) (es1,cl1,M1,v,ν,u,ω):=aGW hM1 hok1 hc1 ha1 ha2;refine bB<|Zak ?_;exact fun a w hh=>gC (A:=[(_,_),(_,_),(_,_),(_,_)]++(ν++ω)) (B:=[(bd,.deferred (some []))]) (es1,cl1,M1,v,ν,u,ω) hI0 rfl rfl a w ((hh.dropBoxes 1).boxesEq (aFO [_,_,_,_] ν ω [_,_]))
 ·rintro⟨es,clock,M,v,ν,u,ω⟩ bd ⟨hM,hok,ha1,ha2⟩;simp only at hM hok ha1 ha2;rw[zR]at ha1 ha2;have hfit7:∀p∈eU y out,p.1.fits.length=7:=by rw[←zR];exact M6 y out _
  have hsl:(eU y out).length≤2097152:=by rw[←zR];have:=X7 y out (C1.cX (gU y.chairs));have:=CL hn7;omega
  refine zW ((q4,.cells [u].toArray 25 (0,0))::(q3,.cells [v].toArray 210 (0,0))::(wb,.cells [cv,.int .i64 y.fit,qv,.map (some mb)].toArray 311 (0,0))::(mb,.map es clock)::((ν++ω)++[(bd,.deferred (some []))])) rfl<|Zak<|Zag<|aK<|C.drawA [] 1 4 6 (fun _ _ _ h=>h)<|Zl rfl Tf.a210 rfl (List.Mem.tail _ (List.Mem.head _)) rfl<|Zl rfl Tf.a25 rfl (List.Mem.head _) rfl<|BO rfl rfl rfl ha1.cells1 Tf.s210 (.tail .head) Ye rfl ha1.cell1 trivial<|aL rfl rfl rfl ha2.cells1 Tf.s25 .head Ye rfl ha2.cell1 trivial<|L.n5<|zW ([(_,_),(_,_),(_,_),(_,_)]++ν++(ω++[(bd,_)])) (aLM [_,_,_,_] ν ω [_])<|Y6 (A:=[(_,_),(_,_),(_,_),(_,_)]) (B:=ω++[(bd,_)]) ha1 aGE (fun D8 hD8 hF8=>?_);refine zW ([(_,_),(_,_),(_,_),(_,_)]++ω++[(bd,_)]) (aMK _ _ _).symm<|Y6 (A:=[(_,_),(_,_),(_,_),(_,_)]) (B:=[(bd,_)]) ha2 aGE (fun D9 hD9 hF9=>?_);exact DQ (A:=[(_,_),(_,_)]) (ν':=[(_,_),(_,_)]) (B:=[]) (vs:=[_,_]) rfl rfl rfl ⟨⟨_,_,_,rfl,(aRH _ (GE _)),aMR ⟨Tf.a210,rfl⟩⟩,⟨_,_,_,rfl,GE _,aMR ⟨Tf.a25,rfl⟩⟩,cW⟩ rfl (fun D hD=>⟨v,u,rfl,(hF8.scs Ye Yd).up FQ.up ((hD9 _ Ye).trans (hD _ Ye)),(hF9.ints Ye Yd).up RI.up (hD _ Ye),es,clock,M,rfl,hM,hok⟩)
end L7
end Go.Fs
namespace Go.Fs
open Go.Proofs
namespace L7
open C7
def iQ(s:Sc)(l:List (Int×Int)):Nat:=s.whole+(l.filter fun p=>fB s.fits p.1.toNat p.2.toNat).length
def TD(l:List (Int×Int)):Prop:=∀p∈l,∃x z:Nat,p=((x:Int),(z:Int))∧x<7∧z<7
theorem UT(s:Sc)(l:List (Int×Int)):iQ s l≤s.whole+l.length:=by
 have:=aPD (fun p:Int×Int=>fB s.fits p.1.toNat p.2.toNat) l;unfold iQ;omega
theorem IK{s:Sc}{l:List (Int×Int)}{k x z:Nat}(h:l[k]?= some ((x:Int),(z:Int))):((iQ s (l.take (k+1)):Nat):Int)=(iQ s (l.take k):Int)+((((s.fits.getD x 0) >>> z:Nat):Int)%2):=by
 rw[kK];unfold iQ;rw[aMN,h,aOD,aOX,aLY];have:([((x:Int),(z:Int))].filter fun p:Int×Int=>fB s.fits p.1.toNat p.2.toNat).length=if(s.fits.getD x 0).testBit z=true then 1 else 0:=by
  show(List.filter (fun p:Int×Int=>(s.fits.getD p.1.toNat 0).testBit p.2.toNat) [((x:Int),(z:Int))]).length=_;rw[aPS];simp only[aNO];split<;>rfl
 rw[this];split<;>omega
theorem UG{a b:Nat}(ha:a<128)(hb:b<128):a|||b<128:=Nat.or_lt_two_pow (n:=7) ha hb
theorem OG(w b:Nat)(a0 a1 a2 a3 a4 a5 a6:Nat)(lv:Value)(l:List (Int×Int))(D:aA)(_hF:∀f∈[a0,a1,a2,a3,a4,a5,a6],f<128)(hw:w≤7)(hl:Sl D R2 2 lv l)(hp:TD l)(hlen:l.length≤1000):Fn Tryz.prog 166 #[.agg #[.int .i64 (w:Int),.int .i64 (b:Int),.int .i64 (a0:Int),.int .i64 (a1:Int),.int .i64 (a2:Int),.int .i64 (a3:Int),.int .i64 (a4:Int),.int .i64 (a5:Int),.int .i64 (a6:Int)],lv] D (fun _ v=>v=.int .i64 (iQ ⟨w,b,[a0,a1,a2,a3,a4,a5,a6]⟩ l:Int)):=by
 have hll:=hl.len;refine enter 29 Tryz.func166 rfl rfl rfl rfl fun h0=>C.s1<|Zt rfl (fun q1 E1 hE1 hB1=>Zi rfl<|L.n3<|Zj rfl Tf.f319_0 rfl<|Zc 0 rfl Tf.a3 rfl hB1 rfl<|Zi rfl<|L.n4<|Za rfl<|aO rfl U136 rfl hl rfl rfl trivial<|Za rfl ?_);refine L.n1<|Zai<|bT (γ:=Nat) (fun k=>l.length-k) (fun k=>k≤l.length) (fun k=>[(12,.int .i64 (k:Int)),(5,.int .i64 (iQ ⟨w,b,[a0,a1,a2,a3,a4,a5,a6]⟩ (l.take k):Int))]) [(11,_),(10,_),(4,_),(2,_)] (fun k=>[E1,D]) 0 Yd ⟨Ya,(by simp[iQ];rfl),cW⟩ C.rs (aD) ?_
 rintro k h1;refine C.s1<|Zac rfl<|L.n2<|aE rfl (fun hc1=>?_) (fun hc1=>?_)
 ·have hk:k<l.length:=by omega
  obtain⟨p,hp0⟩:=C.ge l k;obtain⟨x,z,rfl,hx7,hz7⟩:=hp p (aLW hp0);have hml:=UT ⟨w,b,[a0,a1,a2,a3,a4,a5,a6]⟩ (l.take k);have htl:(l.take k).length≤k:=aQR _ _;simp only at hml;refine C.kn<|aK<|Zai<|C.s1<|Zp rfl U136 Tf.s223 rfl hl rfl hp0 (fun b1 o1 cs1 hr1 hcl1 hA1=>?_);obtain rfl:cs1=[.int .i64 _,.int .i64 _]:=hr1;refine Zq rfl Tf.a223 rfl hA1 Tf.s223<|Zv rfl Tf.z223 rfl (fun q2=>Zu rfl Tf.s223 (bS.head)<|L.n1<|C.drawA [] 6 12 1022 (fun _ _ _ h=>bP (P:=Tryz.prog) (fn:=Tryz.f166) _ _ _ h)<|Za rfl<|Zj rfl Tf.f223_0 rfl<|Zl rfl Tf.a3 rfl (List.Mem.head _) rfl<|Zj rfl Tf.f319_2 rfl<|dN rfl U317 Tf.s3 rfl rfl Yd Yd rfl trivial<|bC (o:=0+1+1) (k:=x*1) rfl Tf.a3 rfl hB1.tail.tail Ye (XS a0 a1 a2 a3 a4 a5 a6 hx7) GT rfl trivial<|Zj rfl Tf.f223_1 rfl ?_);refine Zl rfl Tf.a3 rfl (List.Mem.head _) rfl<|S6 rfl rfl rfl Yd rfl trivial<|wE rfl rfl rfl (Int.natCast_nonneg _) Yd (by rw[kK];split<;>simp only[rM]<;>omega) rfl trivial<|qU rfl rfl rfl (by rw[kK];simp only[rM];split<;>omega) rfl trivial<|Zi rfl<|Zaa<|Zak<|Zag<|C.rg<|Zw rfl<|Za rfl<|Zaa ?_
  exact aG 20 (k+1) Yd Yd ⟨Ya,(by rw[IK hp0];rfl),cW⟩ rfl rfl (aMW _ (LT _)) (aD)
 ·obtain rfl:k=l.length:=by omega
  rw[aNL];refine aP<|Zaj<|Zaj<|Zam<|Zag<|C.s1<|Za rfl<|Zi rfl<|L.n5 ?_;exact leave1 rfl rfl rfl rfl (fun D hD=>rfl)
theorem CU(s:Sc)(lv:Value)(l:List (Int×Int))(hs:∀f∈s.fits,f<128)(hw:s.whole≤7)(hp:TD l)(hlen:l.length≤1000)(D:aA)(hl:Sl D R2 2 lv l)(hs7:s.fits.length=7):Fn Tryz.prog 166 #[.agg (ints (xF s)).toArray,lv] D (fun _ v=>v=.int .i64 (iQ s l:Int)):=by
 obtain⟨w,b,F⟩:=s;obtain⟨a0,a1,a2,a3,a4,a5,a6,rfl⟩:=aGH hs7;exact OG w b a0 a1 a2 a3 a4 a5 a6 lv l D hs hw hl hp hlen
end L7
end Go.Fs
namespace Go.Fs
open Go.Proofs
namespace L7
open C7
def eL(y:bJ):(Int×Int)×Int:=if aU y≠0 then((0,0),aU y)else match(eU y []).map fun p=>(p.2:Int)with
 | []=>((0,0),11)
 |m::l=>((m::l).foldl (fun r n=>(min r.1 n,max r.2 n)) (m,m),0)
theorem GW{y:bJ}(h:aU y=0)(hn:eU y []=[]):Value.tuple #[.agg #[.int .i64 0,.int .i64 0],.int .i64 11]=.tuple #[jC (eL y).1,.int .i64 (eL y).2]:=by
 rw[eL,aMM Yd,hn];rfl
theorem G9{y:bJ}{L:List Int}{m0:Int}(h:aU y=0)(hL:((eU y []).map fun p=>(p.2:Int))=L)(hm:L[0]?= some m0):Value.tuple #[.agg #[.int .i64 (L.foldl (fun r n=>(min r.1 n,max r.2 n)) (m0,m0)).1,.int .i64 (L.foldl (fun r n=>(min r.1 n,max r.2 n)) (m0,m0)).2],.int .i64 0]=.tuple #[jC (eL y).1,.int .i64 (eL y).2]:=by
  rw[eL,aMM Yd,hL];cases L with
  |nil=>simp at hm
  | cons m l => obtain rfl : m = m0 := by simpa using hm
                rfl
theorem BJ{L:List Int}{k:Nat}{n m0:Int}(h:L[k]?= some n):(L.take (k+1)).foldl (fun r n=>(min r.1 n,max r.2 n)) (m0,m0)=(min ((L.take k).foldl (fun r n=>(min r.1 n,max r.2 n)) (m0,m0)).1 n,max ((L.take k).foldl (fun r n=>(min r.1 n,max r.2 n)) (m0,m0)).2 n):=by
 rw[aMN,h,aOD,aOA];rfl
theorem qM(yv:Value)(y:bJ)(D:aA)(hy:kR D yv y):Fn Tryz.prog 51 #[yv] D (fun _ v=>v=.tuple #[jC (eL y).1,.int .i64 (eL y).2]):=by
 have hy0:=hy;obtain⟨cv,qv,rfl,hc,hq⟩:=hy;refine enter 48 Tryz.func51 rfl rfl rfl rfl fun h0=>C.s1<|Zt rfl (fun q1 E1 hE1 hB1=>Zv rfl Tf.z133 rfl (fun q2=>Zi rfl<|L.n4<|Zq rfl Tf.a40 rfl hB1 Tf.s40<|Ze rfl (fun D1 hD1=>rY _ y _ (hy0.up (hD1 _ Ye)))<|Zi rfl<|L.n3<|Za rfl<|Zaf rfl ?_));refine L.n1<|aE rfl (fun hc1=>?_) (fun hc1=>?_)
 ·refine C.s1<|Zr [.int .i64 0,.int .i64 0] rfl Tf.p133 Tf.z133 rfl rfl<|Za rfl<|Zu rfl Tf.s133 (bS.head)<|Zi rfl<|L.n5<|Zah ?_;exact Zm [_,_] rfl ⟨⟨_,_,_,rfl,(List.Mem.head _),Or.inr ⟨Tf.a133,(by first|exact Tf.s133|(simp only[aNG,aJ, *];exact Tf.s133)),rfl⟩⟩,rfl,cW⟩ (fun D hD=>by show Value.tuple _=_;rw[eL,aMT hc1];rfl)
 ·have hf0:aU y=0:=by omega
  have hyo:=aLF hf0;have hn7:=hyo.len;refine C.kn<|C.s1<|Zq rfl Tf.a40 rfl hB1 Tf.s40<|eV (μ:=_) rfl rfl rfl (fun D5 hD5=>I9 _ y _ _ D5 rfl) rfl cW (fun v5 D6 _ hD6 hp5=>?_);obtain⟨wb,mb,rfl,rfl⟩:=hp5;refine aF ([]++[(_,_),(_,_)]++([(_,_)])) rfl<|dL (A:=[]) (ν:=[(_,_),(_,_)]) (B:=[(_,_)]) rfl rfl rfl rfl (aMR rfl) (j8 (cs:=[_,_,_,_])) (fun D7 hD7=>a7 wb mb _ _ y [] _ Yd hyo.fit hyo.size #[] 0 [] _ (hc.up sK.up (hD7 _ Ye)) (hq.up R2.up (hD7 _ Ye)) Sl.nil rfl V4.nil) rfl cW (fun v7 D8 _ hD8 hp7=>?_);obtain⟨sv,mv,rfl,hsv,hmv,es1,cl1,M1,rfl,hM1,hok1⟩:=hp7;refine Za rfl<|Zab rfl<|Zab rfl<|Zi rfl<|Zi rfl<|L.n4<|Za rfl<|aO rfl U25 rfl hmv rfl rfl trivial<|dU rfl rfl rfl rfl trivial<|L.n1<|aE rfl (fun hc2=>?_) (fun hc2=>?_)
  ·have hnil:eU y []=[]:=by simpa using hc2
   refine C.s1<|Zr [.int .i64 0,.int .i64 0] rfl Tf.p133 Tf.z133 rfl rfl<|Zu rfl Tf.s133 (.tail (.tail (bS.head)))<|Zi rfl<|L.n5<|Zah ?_;exact Zm [_,_] rfl ⟨⟨_,_,_,rfl,(List.Mem.tail _ (List.Mem.tail _ (List.Mem.head _))),Or.inr ⟨Tf.a133,(by first|exact Tf.s133|(simp only[aNG,aJ, *];exact Tf.s133)),rfl⟩⟩,rfl,cW⟩ (fun D hD=>GW hf0 hnil)
  ·generalize hL:((eU y []).map fun p=>(p.2:Int))=ms at hmv hc2 ⊢
   have hml:=hmv.len;have hne:ms≠[]:=fun e=>hc2 (by rw[e];rfl)
   obtain⟨m0,hm0⟩:∃m,ms[0]?= some m:=⟨ms[0]'(aPI.2 hne),LE _⟩
   refine C.kn<|aK<|jV [] 3 [false,false,false,true,true,true,false,true,true,true,false,false] [.fork [0,1,2,3,4,5,6,7] 8 (.fin [9]) 9 (.fin [8]),.fin [10,11]] Tf.follows (fun _ _ _ h=>bP (P:=Tryz.prog) (fn:=Tryz.f51) _ _ _ h) Yg<|nA<|bG [(false,0),(false,1),(false,2),(true,3),(true,4),(true,5),(false,6),(true,7)] rfl<|Za rfl<|Zp rfl U25 Tf.s3 rfl hmv rfl hm0 (fun b1 o1 cs1 hr1 hcl1 hA1=>?_);obtain rfl:cs1=[.int .i64 _]:=hr1;refine Zc 0 rfl Tf.a3 rfl hA1 rfl<|Za rfl<|Zp rfl U25 Tf.s3 rfl hmv rfl hm0 (fun b2 o2 cs2 hr2 hcl2 hA2=>?_);obtain rfl:cs2=[.int .i64 _]:=hr2;refine Zc 0 rfl Tf.a3 rfl hA2 rfl<|Zr [.int .i64 m0,.int .i64 m0] rfl Tf.p133 Tf.z133 rfl rfl<|Zr [.func (.func 99) #[] #[]] rfl Tf.p218 Tf.z218 rfl rfl<|Zaa (dB true true rfl rfl ?_ ?_)
   ·refine Zv rfl Tf.z133 rfl (fun q3=>Zaa<|aR [(true,9)] rfl<|Zv rfl Tf.z218 rfl (fun q4=>Zaa<|hP [(false,10),(false,11)] rfl<|Zu rfl Tf.s133 (.tail (bS.head))<|Zu rfl Tf.s218 (bS.head)<|Zaa<|iC<|Zag<|C.s2 ?_));refine Za rfl<|aO rfl U25 rfl hmv rfl rfl trivial<|Za rfl<|L.n1<|Zai<|cK (γ:=Nat) (fun k=>ms.length-k) (fun k=>k≤ms.length) (fun k=>[(37,.int .i64 (k:Int))]) [(36,_),(35,_),(8,_),(7,_),(3,_),(2,_)] (fun k=>(q4,.cells [.func (.func 99) #[] #[]].toArray 218 (0,0))::(q3,.cells [.int .i64 (List.foldl (fun r n=>(min r.1 n,max r.2 n)) (m0,m0) (ms.take k)).1,.int .i64 (List.foldl (fun r n=>(min r.1 n,max r.2 n)) (m0,m0) (ms.take k)).2].toArray 133 (0,0))::(wb,.cells [cv,.int .i64 y.fit,qv,.map (some mb)].toArray 311 (0,0))::(mb,.map es1 cl1)::[(q2,.cells [.int .i64 0,.int .i64 0].toArray 133 (0,0))]) (fun k=>[D8,D6,E1,D]) 0 Yd ⟨Ya,cW⟩ C.rs (LT _) (aD) ?_;rintro k h1;refine C.s1<|Zac rfl<|L.n2<|aE rfl (fun hc3=>?_) (fun hc3=>?_)
    ·have hk:k<ms.length:=by omega
     obtain⟨n,hn0⟩:=C.ge ms k;have hst:=BJ (m0:=m0) hn0;refine C.kn<|aK<|Zai<|C.s1<|Zp rfl U25 Tf.s3 rfl hmv rfl hn0 (fun b3 o3 cs3 hr3 hcl3 hA3=>?_);obtain rfl:cs3=[.int .i64 _]:=hr3;refine Zc 0 rfl Tf.a3 rfl hA3 rfl<|Zi rfl<|L.n1<|C.rg<|Zj rfl Tf.f218_0 rfl<|Zl rfl Tf.a215 rfl (List.Mem.head _) rfl<|Zs rfl Tf.a133 rfl (List.Mem.tail _ (List.Mem.head _)) Tf.s133<|Za rfl<|Ze rfl (fun D2 hD2=>oM (List.foldl (fun r n=>(min r.1 n,max r.2 n)) (m0,m0) (ms.take k)) n _)<|Zu rfl Tf.s133 (.tail (bS.head))<|Zaa<|Zak ?_;refine Zag<|C.rg<|Zw rfl<|Za rfl<|Zaa ?_;rw[←hst];exact aG 12 (k+1) Yd Yd ⟨Ya,cW⟩ rfl rfl (LT _) (aD)
    ·obtain rfl:k=ms.length:=by omega
     rw[aNL];refine aP<|Zaj<|Zaj<|Zam<|Zag<|C.s1<|Zs rfl Tf.a133 rfl (List.Mem.tail _ (List.Mem.head _)) Tf.s133<|Zu rfl Tf.s133 (.tail (.tail (.tail (.tail (bS.head)))))<|Zi rfl<|L.n5 ?_;exact Zm [_,_] rfl ⟨⟨_,_,_,rfl,(List.Mem.tail _ (List.Mem.tail _ (List.Mem.tail _ (List.Mem.tail _ (List.Mem.head _))))),Or.inr ⟨Tf.a133,(by first|exact Tf.s133|(simp only[aNG,aJ, *];exact Tf.s133)),rfl⟩⟩,rfl,cW⟩ (fun D hD=>G9 hf0 hL hm0)
   ·refine Zv rfl Tf.z218 rfl (fun q3=>Zaa<|aR [(true,8)] rfl<|Zv rfl Tf.z133 rfl (fun q4=>Zaa<|hP [(false,10),(false,11)] rfl<|Zu rfl Tf.s133 (bS.head)<|Zu rfl Tf.s218 (.tail (bS.head))<|Zaa<|iC<|Zag<|C.s2 ?_));refine Za rfl<|aO rfl U25 rfl hmv rfl rfl trivial<|Za rfl<|L.n1<|Zai<|cK (γ:=Nat) (fun k=>ms.length-k) (fun k=>k≤ms.length) (fun k=>[(37,.int .i64 (k:Int))]) [(36,_),(35,_),(7,_),(8,_),(3,_),(2,_)] (fun k=>(q4,.cells [.int .i64 (List.foldl (fun r n=>(min r.1 n,max r.2 n)) (m0,m0) (ms.take k)).1,.int .i64 (List.foldl (fun r n=>(min r.1 n,max r.2 n)) (m0,m0) (ms.take k)).2].toArray 133 (0,0))::(q3,.cells [.func (.func 99) #[] #[]].toArray 218 (0,0))::(wb,.cells [cv,.int .i64 y.fit,qv,.map (some mb)].toArray 311 (0,0))::(mb,.map es1 cl1)::[(q2,.cells [.int .i64 0,.int .i64 0].toArray 133 (0,0))]) (fun k=>[D8,D6,E1,D]) 0 Yd ⟨Ya,cW⟩ C.rs (LT _) (aD) ?_;rintro k h1;refine C.s1<|Zac rfl<|L.n2<|aE rfl (fun hc3=>?_) (fun hc3=>?_)
    ·have hk:k<ms.length:=by omega
     obtain⟨n,hn0⟩:=C.ge ms k;have hst:=BJ (m0:=m0) hn0;refine C.kn<|aK<|Zai<|C.s1<|Zp rfl U25 Tf.s3 rfl hmv rfl hn0 (fun b3 o3 cs3 hr3 hcl3 hA3=>?_);obtain rfl:cs3=[.int .i64 _]:=hr3;refine Zc 0 rfl Tf.a3 rfl hA3 rfl<|Zi rfl<|L.n1<|C.rg<|Zj rfl Tf.f218_0 rfl<|Zl rfl Tf.a215 rfl (List.Mem.tail _ (List.Mem.head _)) rfl<|Zs rfl Tf.a133 rfl (List.Mem.head _) Tf.s133<|Za rfl<|Ze rfl (fun D2 hD2=>oM (List.foldl (fun r n=>(min r.1 n,max r.2 n)) (m0,m0) (ms.take k)) n _)<|Zu rfl Tf.s133 (bS.head)<|Zaa<|Zak ?_;refine Zag<|C.rg<|Zw rfl<|Za rfl<|Zaa ?_;rw[←hst];exact aG 12 (k+1) Yd Yd ⟨Ya,cW⟩ rfl rfl (LT _) (aD)
    ·obtain rfl:k=ms.length:=by omega
     rw[aNL];refine aP<|Zaj<|Zaj<|Zam<|Zag<|C.s1<|Zs rfl Tf.a133 rfl (List.Mem.head _) Tf.s133<|Zu rfl Tf.s133 (.tail (.tail (.tail (.tail (bS.head)))))<|Zi rfl<|L.n5 ?_;exact Zm [_,_] rfl ⟨⟨_,_,_,rfl,(List.Mem.tail _ (List.Mem.tail _ (List.Mem.tail _ (List.Mem.tail _ (List.Mem.head _))))),Or.inr ⟨Tf.a133,(by first|exact Tf.s133|(simp only[aNG,aJ, *];exact Tf.s133)),rfl⟩⟩,rfl,cW⟩ (fun D hD=>G9 hf0 hL hm0)
end L7
end Go.Fs
