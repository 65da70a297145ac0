/- Of the proof of BookGoesOn: V22, V23, V24, V29, SW9, SW10, SW11, SW12. -/
import Derived.Test.YtelhnbcdablgoaaGreatDoorZBookGoesOnAG
import Derived.Test.YtelhnbcdablgoaaGreatDoorZBookGoesOnAD
import Derived.Test.YtelhnbcdablgoaaGreatDoorZBookGoesOnAF
import Derived.Test.YtelhnbcdablgoaaGreatDoorZBookGoesOnAE
namespace Go.Fs
open Go.Proofs
namespace L3
open L1
open C3
section
variable{P:Program}{X:Cx}{Q:Exit→Act→World→Prop}{σ:bS}{μ:aC}{Ds:List aA}
theorem aAY{c:Code}{μ':aC}(n:Nat)(he:μ.drop n=μ')(h:WC P X Q c σ μ' Ds):WC P X Q c σ μ Ds:=fun a w hh=>by
 subst he;exact h a w (hh.dropBoxes n)
end
def lS(bh bs bl bo blo bY br n:Nat)(c:List Sc)(cl:List Int):aC:=[(bh,.cells [.func (.func 235) #[] #[.pointer (some ⟨br,0,none⟩),.pointer (some ⟨bs,0,none⟩),.pointer (some ⟨bl,0,none⟩),.pointer (some ⟨bY,0,none⟩),.pointer (some ⟨bh,0,none⟩)]].toArray 191 (0,0)),(bs,.cells [.slice (some ⟨bo,0,none⟩) (n+1) (n+1)].toArray 303 (0,0)),(bl,.cells [.slice (some ⟨blo,0,none⟩) n n].toArray 33 (0,0)),(bo,.cells (bO c).toArray 207 (0,0)),(blo,.cells (ints cl).toArray 160 (0,0))]
theorem wE{bh bs bl bo blo bY br n:Nat}{c:List Sc}{cl:List Int}:(bo,Obj.cells (bO c).toArray 207 (0,0))∈lS bh bs bl bo blo bY br n c cl:=LT _ (LT _ (LT _ (GE _)))
def KE(n bo:Nat)(vs:List Value):Prop:=∃blo,vs=[.slice (some ⟨blo,0,none⟩) n n,.slice (some ⟨bo,0,none⟩) (n+1) (n+1)]
def aAC{α:Type}(P:Program)(Dr:aA)(lo l:Nat)(J Jx:List α→oK)(xs:List α)(enc:Nat→List Value→Prop)(cells:α→List Value):Prop:=∀pre x β D w bo vs,(∃r,xs=pre++x::r)→tJ lo D w→J pre β D w→(∀b∈β,b<w.heap.size)→Le Dr D→enc bo vs→X1 β D w bo (cells x)→
   gD P l vs w fun b D' w'=>tJ lo D' w'∧sT β D w D' w'∧(if b then J (pre++[x]) β D' w' else Jx (pre++[x]) β D' w')
def uT(c:List Sc):Prop:=∀s∈c,(lL s).length=10
theorem uT.set{c:List Sc}{s:Sc}(h:uT c)(hs:(lL s).length=10)(i:Nat):uT (c.set i s):=fun u hu=>by
 rcases List.mem_or_eq_of_mem_set hu with hu|rfl
 ·exact h u hu
 ·exact hs
theorem VH{c:List Sc}(h:uT c):(bO c).length=c.length*10:=by
 induction c with
 |nil=>rfl
 |cons u c ih=>
  have:=ih fun s hs=>h s (aJB _ hs)
  rw[show bO (u::c)=ints (lL u)++bO c from rfl,aIX,aH,h u aJH,this,aJD];omega
theorem RW{c:List Sc}(h:uT c){i:Nat}{s:Sc}(hs:(lL s).length=10)(hi:i<c.length):(bO c).take (i*10)++ints (lL s)++(bO c).drop (i*10+(ints (lL s)).length)=bO (c.set i s):=by
 rw[aH,hs];induction c generalizing i with
 |nil=>simp at hi
 |cons u c ih=>
  have hu:(ints (lL u)).length=10:=by rw[aH,h u aJH]
  have e:bO (u::c)=ints (lL u)++bO c:=rfl;rw[e];cases i with
  |zero=>
   rw[List.set_cons_zero,show bO (s::c)=ints (lL s)++bO c from rfl,aNF,List.take_zero,aKF,aMC,aMY,aKK Yd,aKF,hu];simp
  |succ i=>
   rw[List.set_cons_succ,show bO (u::c.set i s)=ints (lL u)++bO (c.set i s)from rfl,←ih (fun t ht=>h t (aJB _ ht)) Yaj];rw[List.take_append,aKC Yd,hu,aMY,aKK Yd,aKF,hu,show(i+1)*10-10=i*10 by omega,show(i+1)*10+10-10=i*10+10 by omega];simp
def qS:Sc:=⟨[0,0,0,0],[0,0,0,0],0,0⟩
theorem eS(n:Nat):ints (List.replicate (n*10) 0)=bO (List.replicate n qS):=by
 induction n with
 |zero=>rfl
 |succ n ih=>rw[List.replicate_succ,show bO (qS::List.replicate n qS)=ints (lL qS)++bO (List.replicate n qS)from rfl,←ih,show(n+1)*10=10+n*10 by omega,←List.replicate_append_replicate,eN];rfl
def wr(l:List Int)(k:Nat)(us:List Int):List Int:=l.take k++us++l.drop (k+us.length)
theorem aFK{l us:List Int}{k:Nat}(h:k+us.length≤l.length):(wr l k us).length=l.length:=by unfold wr;simp;omega
theorem aBZ{l us:List Int}{k:Nat}:(ints l).take k++ints us++(ints l).drop (k+(ints us).length)=ints (wr l k us):=by
 unfold wr ints;simp
def gW(b:aX)(i:Nat)(s:Sc):List (List Sc):=(sL b (b.lines.drop i) i s).map (·.2)
def IN(b:aX)(i:Nat)(s:Sc)(z:fH)(pre:List Sc)(k:Nat):List (List Sc):=((cR b.chairs z).take k).flatMap fun r=>if iI s r=true then(gW b (i+1) (dQ b s i r)).map (fun t=>(pre++[s])++t)else []
theorem aCF{b:aX}{i:Nat}{s:Sc}(h:eT b s i=false):gW b i s=[]:=by
 unfold gW;cases e:b.lines.drop i with
 |nil=>unfold sL;rw[aJM (by rw[h];simp)];rfl
 |cons l ls=>unfold sL;rw[aJM (by rw[h];simp)];rfl
theorem VE{b:aX}{i:Nat}{s:Sc}(h:eT b s i=true)(hi:b.lines.length≤i):gW b i s=[[s]]:=by
 unfold gW;rw[aKK hi];unfold sL;rw[aJT h];rfl
theorem PW{b:aX}{i:Nat}{s:Sc}{z:fH}{pre:List Sc}(h:eT b s i=true)(hd:b.lines.drop i=z::b.lines.drop (i+1)):(gW b i s).map (fun t=>pre++t)=IN b i s z pre (cR b.chairs z).length:=by
 unfold gW IN;rw[hd,aKN];unfold sL;rw[aJT h,List.map_flatMap,List.map_flatMap];congr 1;funext r;by_cases hc:iI s r=true
 ·rw[aJT hc,aJT hc,aNT,aNT];unfold gW;rw[aNT];congr 1;funext x;simp
 ·rw[aJM hc,aJM hc];rfl
theorem WY{b:aX}{i:Nat}{s:Sc}{z:fH}{pre:List Sc}:IN b i s z pre 0=[]:=rfl
theorem aFG{b:aX}{i:Nat}{s:Sc}{z x:fH}{pre:List Sc}{k:Nat}(hx:(cR b.chairs z)[k]?= some x)(h:iI s x=false):IN b i s z pre (k+1)=IN b i s z pre k:=by
 unfold IN;rw[aJP,hx,aLC,aKE,aKV,aJM (by rw[h];simp),aJF]
theorem KN{b:aX}{i:Nat}{s:Sc}{z x:fH}{pre:List Sc}{k:Nat}(hx:(cR b.chairs z)[k]?= some x)(h:iI s x=true):IN b i s z pre (k+1)=IN b i s z pre k++(gW b (i+1) (dQ b s i x)).map (fun t=>(pre++[s])++t):=by
 unfold IN;rw[aJP,hx,aLC,aKE,aKV,aJT h]
theorem YH{b:aX}{i:Nat}{s:Sc}{z:fH}{pre:List Sc}{k:Nat}:∃r,IN b i s z pre (cR b.chairs z).length=IN b i s z pre k++r:=by
 unfold IN;rw[aKN]
 conv=>enter [1,r,1];rw[←aLD k (cR b.chairs z),aKE]
 exact⟨_,rfl⟩
theorem V5{c pre:List Sc}{i:Nat}{s s':Sc}(h:c.take (i+1+1)=(pre++[s])++[s'])(hl:pre.length=i):c.take (i+1)=pre++[s]:=by
 have:=aJS (List.take (i+1)) h;rw[List.take_take,aNH (Nat.le_succ _)]at this;rw[this,aKM Yaf,aKC Yaf]
theorem PU{c pre:List Sc}{i:Nat}{s':Sc}(hi:i<c.length)(h:c.take i=pre):(c.set i s').take (i+1)=pre++[s']:=by
 rw[aJP,List.getElem?_set_self hi,aLC,List.take_set_of_le (aJU _),h]
theorem SK{c pre:List Sc}{i:Nat}{s:Sc}(h:c.take (i+1)=pre++[s])(hl:pre.length=i):c[i]?= some s:=by
 have:(c.take (i+1))[i]?= (pre++[s])[i]? :=by rw[h]
 rw[aMD (Nat.lt_succ_self i),aNK Yd]at this;rw[this];simp[hl]
theorem ap8{bh bs bl bo blo bY br n q1 q2:Nat}{c:List Sc}{cl:List Int}{o1 o2:Obj}(hap:br∉aC.ks ((q2,o2)::(q1,o1)::lS bh bs bl bo blo bY br n c cl))(hnd:(((q2,o2)::(q1,o1)::lS bh bs bl bo blo bY br n c cl).map fun p=>p.1).Nodup):q2∉[br,bs,bo,q1]:=by
 intro h;simp only[aIW,GT,aLT]at h;rcases h with rfl|rfl|rfl|rfl
 ·exact hap (by simp[aC.ks])
 ·simp[lS]at hnd
 ·simp[lS]at hnd
 ·simp at hnd
theorem aHE{bh bs bl bo blo bY br n q1 q2:Nat}{c:List Sc}{cl:List Int}{o1 o2:Obj}(hnd:(((q2,o2)::(q1,o1)::lS bh bs bl bo blo bY br n c cl).map fun p=>p.1).Nodup):blo∉[bl,bs,q1,q2]∧bo∉[bl,bs,q1,q2]:=by
 constructor
 ·intro h;simp only[aIW,GT,aLT]at h;rcases h with rfl|rfl|rfl|rfl<;>simp[lS]at hnd
 ·intro h;simp only[aIW,GT,aLT]at h;rcases h with rfl|rfl|rfl|rfl<;>simp[lS]at hnd
def aHJ(b:aX)(J Jx:List (List Sc)→oK)(bh bs bl bo blo bY br:Nat)(pre:List Sc)(s:Sc)(i:Nat)(done:List (List Sc))(v:Value)(J':oK)(μ':aC):Prop:=
 ∃bb c' cl',v=.bool bb∧c'.length=b.lines.length+1∧uT c'∧cl'.length=b.lines.length*3∧c'.take (i+1)=pre++[s]∧μ'=lS bh bs bl bo blo bY br b.lines.length c' cl'∧(if bb=true then J'=J (done++(gW b i s).map fun t=>pre++t)else ∃p,J'=Jx p)
set_option maxHeartbeats 1000000 in
theorem l3{lo l:Nat}{b:aX}{bv:Value}{xs:List (List Sc)}{Dr Dy:aA}{bh bs bl bo blo bY br:Nat}{lv cv:Value}(hbo:MZ b)(hbv:bv=.agg #[.int .i64 b.chairs,.int .i64 b.coin,.int .i64 b.box,lv,cv])(hb0:fW Dr bv b)
  (hA:At Dr br 0 [.int .i64 b.chairs,.int .i64 b.coin,.int .i64 b.box,lv,cv]) (hB:At Dy bY 0 [.func (.yield l) #[] #[]]):
  ∀(j i:Nat) (pre:List Sc) (s:Sc) (c:List Sc) (cl:List Int) (done rest:List (List Sc)) (iv:Int) (Ds:List aA),Dr∈Ds→Dy∈Ds→iv=i→i+j=b.lines.length→pre.length=i→c.length=b.lines.length+1→uT c→cl.length=b.lines.length*3→c.take (i+1)=pre++[s]→aHU b s i→
   xs=done++(gW b i s).map (fun t=>pre++t)++rest→∀(J Jx:List (List Sc)→oK),(∀pre,vE lo (J pre))→(∀pre,vE lo (Jx pre))→aAC Tryz.prog Dr lo l J Jx xs (KE b.lines.length) bO→
   aGP Tryz.prog 235 [.int .i64 iv,.pointer (some ⟨br,0,none⟩),.pointer (some ⟨bs,0,none⟩),.pointer (some ⟨bl,0,none⟩),.pointer (some ⟨bY,0,none⟩),.pointer (some ⟨bh,0,none⟩)] lo (J done) (lS bh bs bl bo blo bY br b.lines.length c cl) Ds (aHJ b J Jx bh bs bl bo blo bY br pre s i done):=by
 subst hbv;intro j;induction j using Nat.strongRecOn with
 |_ j ih=>
 intro i pre s c cl done rest iv Ds hDr hDy hiv hij hl h9 h10 h11 hp hsb hxs J Jx hs hsx hY;replace ih:=fun j hj i pre s c cl done rest iv Ds h1 h2 h3 h4 h5 h6 h7 h8 h9 h10 h11=>ih j hj i pre s c cl done rest iv Ds h1 h2 h3 h4 h5 h6 h7 h8 h9 h10 h11 J Jx hs hsx hY
 subst hiv;obtain⟨lv',cv',he,hl',hc'⟩:=id hb0;obtain⟨rfl,rfl⟩:=p8 he;have hl8:=hbo.l8;have hch:=hbo.ch;have hco:=hbo.co;have hbx:=hbo.bx;have hmo:=hsb.mo;have hmi:=hsb.mi;have hs10:=tW hsb.lc hsb.lt;refine wG (μ:=lS bh bs bl bo blo bY br b.lines.length c cl) 68 Tryz.func235 rfl rfl rfl rfl<|C.s1<|Zh rfl<|L.n2<|aM<|C.drawA [] 4 8 62 (fun _ _ _ h=>qB (P:=Tryz.prog) (fn:=Tryz.f235) _ _ _ h)<|Zr rfl Tf.a36 rfl hA Tf.s36<|Zl rfl Tf.a303 rfl (List.Mem.tail _ (List.Mem.head _)) rfl<|Za rfl<|fD rfl U303 Tf.s207 rfl rfl Yd (by push_cast;omega) rfl trivial<|dE (n:=10) (us:=ints (lL s)) rfl Tf.a207 Tf.s207 rfl (LT _ (LT _ (LT _ (GE _)))) (by rw[show 0+((i:Int)).toNat*10=i*10 by omega];exact vJ h10 (SK hp hl)) (by simp[hs10]) GT rfl trivial<|Za rfl ?_;refine Zd rfl (fun D1 hD1=>O1 _ b s i _ (hb0.up (hD1 _ Yal)) hsb.lc hsb.lt)<|Zag rfl<|L.n1<|aJ rfl (fun hc1=>?_) (fun hc1=>?_)
 ·refine C.s1<|Zh rfl<|L.n5<|Zai ?_;exact hZ (P:=Tryz.prog) (fn:=Tryz.f235) (N:=68) (vs:=[_]) rfl rfl ⟨rfl,aOJ⟩ (fun D h=>⟨D,h,Le.refl D⟩) ⟨true,c,cl,rfl,h9,h10,h11,hp,rfl,by simp only[aLH];rw[aCF (by simpa using hc1)];simp⟩
 ·have hcd:eT b s i=true:=by simpa using hc1
  refine C.kn<|C.s2<|Za rfl<|Zl rfl Tf.a33 rfl (List.Mem.tail _ (List.Mem.tail _ (List.Mem.head _))) rfl<|iC rfl U33 rfl rfl rfl trivial<|dJ rfl rfl rfl rfl trivial<|L.n1<|aE rfl (fun hc2=>?_) (fun hc2=>?_)
  ·have hrun:=VE hcd (show b.lines.length≤i by omega);have hleaf:pre++[s]=c:=by rw[←hp,aKC Yd]
   rw[hrun,aNE,hleaf,aJL,aMU]at hxs;refine C.s1<|Zf 0 rfl Tf.a362 rfl hB rfl<|Zl rfl Tf.a33 rfl (List.Mem.tail _ (List.Mem.tail _ (List.Mem.head _))) rfl<|Zl rfl Tf.a303 rfl (List.Mem.tail _ (List.Mem.head _)) rfl<|d4 (l:=l) (J1:=J (done++[c])) (J0:=Jx (done++[c])) rfl rfl rfl rfl (hs _) (hsx _) (fun D w hd hJ hb hl=>hY done c _ D w bo _ ⟨rest,hxs⟩ hd hJ (fun b hbm=>by obtain⟨p,hp,rfl⟩:=aIY.1 hbm;exact bA (hb p hp).1) (hl _ hDr) ⟨blo,rfl⟩ ⟨aIY.2 ⟨_,wE,rfl⟩,(hb _ wE).2,_,_,(hb _ wE).1⟩) rfl aOJ (fun b1 J1 hJ1=>Zh rfl<|L.n5<|Zai ?_)
   exact hZ (P:=Tryz.prog) (fn:=Tryz.f235) (N:=68) (vs:=[_]) rfl rfl ⟨rfl,aOJ⟩ (fun D h=>⟨D,h,Le.refl D⟩) ⟨b1,c,cl,rfl,h9,h10,h11,hp,rfl,by cases b1<;>simp only[hJ1,aLH,aKI,aLR];exact⟨_,rfl⟩;rw[hrun,aNE,hleaf]⟩
  ·have hil:i<b.lines.length:=by omega
   obtain⟨z,hz⟩:=C.ge b.lines i;have hdr:b.lines.drop i=z::b.lines.drop (i+1):=by rw[aLL hil];congr 1;exact aJZ ((aJC hil).symm.trans hz)
   have hrun:=PW (pre:=pre) hcd hdr;rw[hrun]at hxs;refine C.kn<|aM<|aM<|iW [] 1 [0,1,2,3,4,5,8,6,7] [false,true,true,true,true,true,true,true,true] [(false,0),(true,1),(true,2),(true,3),(true,4),(true,5),(true,8),(true,6),(true,7)] Tf.follows (fun _ _ _ h=>qB (P:=Tryz.prog) (fn:=Tryz.f235) _ _ _ h) Yg rfl<|Zr rfl Tf.a36 rfl hA Tf.s36<|Zi rfl Tf.f36_3 rfl<|Zf 3 rfl Tf.a33 rfl hA rfl<|Za rfl<|Zs rfl U33 Tf.s160 rfl hl' rfl hz (fun b1 o1 cs1 hr1 hcl1 hA1=>?_);obtain rfl:cs1=[.int .i64 _,.int .i64 _,.int .i64 _]:=hr1;refine Zr rfl Tf.a160 rfl hA1 Tf.s160<|Za rfl<|Zt rfl (fun D2 hD2=>tE _ b z _ (hb0.up (hD2 _ Yal)) Yd) (fun v2 D2 hD2 hp2=>?_);have hr_:=hp2;have hrl:=hr_.len;refine aR rfl U33 rfl Yk rfl rfl trivial<|L.n1<|Zaj<|xU (γ:=Nat×List Sc×List Int) (fun g=>(cR b.chairs z).length-g.1) (fun g=>g.1≤(cR b.chairs z).length∧g.2.1.length=b.lines.length+1∧uT g.2.1∧g.2.2.length=b.lines.length*3∧g.2.1.take (i+1)=pre++[s]) (fun g=>J (done++IN b i s z pre g.1)) (fun g=>[(36,.int .i64 (g.1:Int))]) [(35,_),(34,_),(7,_),(0,_),(1,_),(2,_),(3,_),(5,_)] (fun g=>lS bh bs bl bo blo bY br b.lines.length g.2.1 g.2.2) (fun g=>D2::Ds) (0,c,cl) ⟨by simp,h9,h10,h11,hp⟩ (by simp[WY]) ⟨Yb,aOJ⟩ C.rs (LE _) (aD) ?_;rintro⟨k,c1,cl1⟩ ⟨h12,h91,h92,h93,hp1⟩;simp only at h12 h91 h92 h93 hp1;refine C.s1<|Zae rfl<|L.n2<|aE rfl (fun hc3=>?_) (fun hc3=>?_)
   ·simp only at hc3;obtain⟨x,hx⟩:=C.ge (cR b.chairs z) k;have hin:=((xS (hbo.ln z (aJA hz))).1 (aJA hx)).1;have hn10:(lL (dQ b s i x)).length=10:=HR hsb.lc hsb.lt;have hif:(lL (if iI s x=true then dQ b s i x else s)).length=10:=by split;exact hn10;exact hs10
    refine C.kn<|aM<|Zaj<|C.s1<|Zs rfl U33 Tf.s160 rfl hr_ rfl hx (fun b2 o2 cs2 hr2 hcl2 hA2=>?_);obtain rfl:cs2=[.int .i64 _,.int .i64 _,.int .i64 _]:=hr2;refine Zr rfl Tf.a160 rfl hA2 Tf.s160<|Zx rfl Tf.z160 rfl (fun q1=>Zv rfl Tf.s160 (bM.head)<|L.n2<|kV (dO.mk [br,bs,bo,q1]) 5 [false,true,true,true,true,true,true,true,false,false,true,true,true,false] [.fork [0,1,2,3,4,5,6] 7 (.fin [8,9,10,11]) 11 (.fin [7,8,9,10]),.fin [12,13]] Tf.follows (fun _ _ _ h=>qB (P:=Tryz.prog) (fn:=Tryz.f235) _ _ _ h) Yg ?_);apply P2 (γ:=Nat) (fun _=>True) _ _ _ [.fork [0,1,2,3,4,5,6] 7 (.fin [8,9,10,11]) 11 (.fin [7,8,9,10])] [.fin [12,13]] rfl
    ·refine nR<|bE [(false,0),(true,1),(true,2),(true,3),(true,4),(true,5),(true,6)] rfl<|cQ rfl Tf.a36 rfl hA (aJB _ hDr) Tf.s36 (dO.out Ye) rfl trivial<|aS rfl Tf.a303 rfl (List.Mem.tail _ (List.Mem.tail _ (List.Mem.head _))) rfl (dO.out Ye) rfl trivial<|Za rfl<|fD rfl U303 Tf.s207 rfl rfl Yd (by push_cast;omega) rfl trivial<|dE (n:=10) (us:=ints (lL s)) rfl Tf.a207 Tf.s207 rfl (LT _ (LT _ (LT _ (LT _ (GE _))))) (by rw[show 0+((i:Int)).toNat*10=i*10 by omega];exact vJ h92 (SK hp1 hl)) (by simp[hs10]) (dO.out Ye) rfl trivial<|Za rfl<|bJ (e:=160) (fz:=(0,0)) rfl Tf.a160 rfl (GE _) Tf.s160 (dO.out Ye) rfl trivial<|Zab (cZ true true rfl rfl ?_ ?_)
     ·refine Zd rfl (fun D3 hD3=>G4 _ b s i x _ (hb0.up (hD3 _ Yal)) hsb.lc hsb.lt (by have:=hin.2;omega) (by have:=hin.2;omega) Yd Yd Yd Yd)<|Zab<|aP [(false,8),(false,9),(true,10),(true,11)] rfl<|Za rfl<|Zaa rfl<|Zaa rfl<|Zx rfl Tf.z207 rfl (fun q2=>Zab ?_);exact fun a w hh=>⟨q2,aOJ,hh⟩
     ·refine Zx rfl Tf.z207 rfl (fun q2=>Zab<|aP [(true,7),(false,8),(false,9),(true,10)] rfl<|Zd rfl (fun D3 hD3=>G4 _ b s i x _ (hb0.up (hD3 _ Yal)) hsb.lc hsb.lt (by have:=hin.2;omega) (by have:=hin.2;omega) Yd Yd Yd Yd)<|Za rfl<|Zaa rfl<|Zaa rfl<|Zab ?_);exact fun a w hh=>⟨q2,aOJ,hh.weak C.rs (LE _) aD⟩
    rintro q2 -;refine kY [(true,12),(false,13)] rfl<|bR hA Yal (fun hap=>aFP (fun hnd=>nT (off:=0) (us:=ints (lL (if iI s x=true then dQ b s i x else s))) (ws:=ints (lL (if iI s x=true then dQ b s i x else s))) rfl rfl rfl rfl (by rw[show(ints _).length=10 by simp[hif]];exact Tf.s207) (bM.head) (by simp[hif]) (by simp[hif]) (cY _) (aJE (dO.in_ (ap8 hap hnd))) trivial<|Zh rfl<|Zab<|kS<|Zah<|C.s2<|Za rfl<|Zag rfl<|L.n1 ?_));refine aJ rfl (fun hc4=>?_) (fun hc4=>?_)
    ·have hcan:iI s x=false:=by simpa using hc4
     refine aQ<|Zak<|Zan<|Zah<|C.rg<|Zy rfl<|Za rfl<|Zab ?_;exact mG 22 (k+1,c1,cl1) ⟨by simp only;omega,h91,h92,h93,hp1⟩ Yl (by rw[aFG hx hcan]) ⟨Yb,aOJ⟩ rfl rfl (List.Sublist.cons _ (List.Sublist.cons _ (LE _))) (aD)
    ·have hcan:iI s x=true:=by simpa using hc4
     rw[aJT hcan];obtain⟨rr,hr⟩:=YH (b:=b) (i:=i) (s:=s) (z:=z) (pre:=pre) (k:=k+1);refine C.kn<|aM<|C.drawA (dO.mk [bl,bs,q1,q2]) 1 11 510 (fun _ _ _ h=>qB (P:=Tryz.prog) (fn:=Tryz.f235) _ _ _ h)<|aS rfl Tf.a33 rfl (List.Mem.tail _ (List.Mem.tail _ (List.Mem.tail _ (List.Mem.tail _ (List.Mem.head _))))) rfl (dO.out Ye) rfl trivial<|Za rfl<|aS rfl Tf.a303 rfl (List.Mem.tail _ (List.Mem.tail _ (List.Mem.tail _ (List.Mem.head _)))) rfl (dO.out Ye) rfl trivial<|Za rfl<|Zy rfl<|bJ (e:=160) (fz:=(0,0)) rfl Tf.a160 rfl (LT _ (GE _)) Tf.s160 (dO.out Ye) rfl trivial<|bJ (e:=207) (fz:=(0,0)) rfl Tf.a207 rfl (GE _) (by rw[show(ints _).length=10 by simp[hn10]];exact Tf.s207) (dO.out Ye) rfl trivial<|fD rfl U33 Tf.s160 rfl rfl Yd Yd rfl trivial<|aFP (fun hnd=>?_);refine nT (off:=i*3) (us:=ints [x.kind,x.chair,x.token]) (ws:=ints (wr cl1 (i*3) [x.kind,x.chair,x.token])) rfl (pJ Yd) rfl rfl Tf.s160 (.tail (.tail (.tail (.tail (.tail (.tail .head)))))) Yaf aBZ (cY _) (aJE (dO.in_ (aHE hnd).1)) trivial<|fD rfl U303 Tf.s207 rfl rfl Yd (by push_cast;omega) rfl trivial<|nT (off:=(i+1)*10) (us:=ints (lL (dQ b s i x))) (ws:=bO (c1.set (i+1) (dQ b s i x))) rfl (pJ Yd) rfl rfl (by rw[show(ints _).length=10 by simp[hn10]];exact Tf.s207) (.tail (.tail (.tail (.tail (.tail .head))))) (by rw[VH h92,aH,hn10];omega) (RW h92 hn10 Yd) (cY _) (aJE (dO.in_ (aHE hnd).2)) trivial<|L.n2<|aAY (μ':=lS bh bs bl bo blo bY br b.lines.length (c1.set (i+1) (dQ b s i x)) (wr cl1 (i*3) [x.kind,x.chair,x.token])) 2 rfl<|C.rg<|Zl rfl Tf.a191 rfl (List.Mem.head _) rfl<|Za rfl<|Zy rfl<|oN rfl rfl rfl rfl (ih (j-1) Yd (i+1) (pre++[s]) (dQ b s i x) (c1.set (i+1) (dQ b s i x)) (wr cl1 (i*3) [x.kind,x.chair,x.token]) (done++IN b i s z pre k) (rr++rest) (i+1:Int) _ (aJB _ hDr) (aJB _ hDy) Yd Yd Yaf (by simpa using h91) (h92.set hn10 _) (by rw[aFK Yaf];exact h93) (PU Yd hp1) (VU hbo hsb x i) (by rw[hxs,hr,KN hx hcan];simp)) rfl aOJ ?_
     rintro _ J2 _ ⟨b2,c2,cl2,rfl,h9',h10',h11',hp',rfl,hJ2⟩;refine Zag rfl<|L.n1<|aJ rfl (fun hc5=>?_) (fun hc5=>?_)
     ·obtain rfl:b2=false:=by simpa using hc5
      refine C.s1<|Zh rfl<|L.n5<|Zam<|Zai<|Zai<|Zam<|Zai ?_;exact hZ (P:=Tryz.prog) (fn:=Tryz.f235) (N:=68) (vs:=[_]) rfl rfl ⟨rfl,aOJ⟩ (fun D h=>⟨D,aJB _ h,Le.refl D⟩) ⟨false,c2,cl2,rfl,h9',h10',h11',V5 hp' hl,rfl,by simpa using hJ2⟩
     ·obtain rfl:b2=true:=by simpa using hc5
      refine bQ<|Zal<|Zah<|C.rg<|Zy rfl<|Za rfl<|Zab ?_;exact mG 36 (k+1,c2,cl2) ⟨by simp only;omega,h9',h10',h11',V5 hp' hl⟩ Yl (by simpa only[aLH,KN hx hcan,aJL]using hJ2) ⟨Yb,aOJ⟩ rfl rfl (LE _) (aD)
   ·have hk:k=(cR b.chairs z).length:=by simp only at hc3;omega
    refine aQ<|Zak<|Zak<|Zan<|Zah<|C.s1<|Zh rfl<|L.n5 ?_;exact hZ (P:=Tryz.prog) (fn:=Tryz.f235) (N:=68) (vs:=[_]) rfl rfl ⟨rfl,aOJ⟩ (fun D h=>⟨D,aJB _ h,Le.refl D⟩) ⟨true,c1,cl1,rfl,h91,h92,h93,hp1,rfl,by simp only[aLH];rw[hrun,hk]⟩
theorem zJ{n:Nat}:uT (List.replicate n qS):=fun s hs=>by rw[List.eq_of_mem_replicate hs];rfl
set_option maxHeartbeats 1000000 in
theorem vG{b:aX}{bv lv cv:Value}{Dr:aA}{br:Nat}(hbo:MZ b)(hbv:bv=.agg #[.int .i64 b.chairs,.int .i64 b.coin,.int .i64 b.box,lv,cv])(hb0:fW Dr bv b)(hA:At Dr br 0 [.int .i64 b.chairs,.int .i64 b.coin,.int .i64 b.box,lv,cv]):
  HY Tryz.prog 234 [.pointer (some ⟨br,0,none⟩)] Dr (gW b 0 (eF b)) (KE b.lines.length) bO:=by
 subst hbv;obtain⟨lv',cv',he,hl',hc'⟩:=id hb0;obtain⟨rfl,rfl⟩:=p8 he;have hl8:=hbo.l8;refine GG 22 Tryz.func234 rfl rfl rfl rfl (fun lo l J Jx hs hsx hY=>C.s1<|Zw rfl (fun q1 E1 hE1 hB1=>L.n2<|kV (dO.mk [br]) 4 [false,false,false,true,true,true,true,true,true,true,true,true,false] [.forkN [0,1,2,4,5,6,7] 3 [8,9,10] (O2 [(3,.forkN [] 8 [9,10] (O2 [(8,.fork [] 9 (.fin [10,11]) 10 (.fin [9,11])),(9,.fork [] 8 (.fin [10,11]) 10 (.fork [] 8 (.fin [11]) 11 (.fin [8]))),(10,.fork [] 8 (.fin [9,11]) 9 (.fork [] 8 (.fin [11]) 11 (.fin [8])))])),(8,.forkN [] 3 [9,10] (O2 [(3,.fork [] 9 (.fin [10,11]) 10 (.fin [9,11])),(9,.fork [] 3 (.fin [10,11]) 10 (.fin [3,11])),(10,.fork [] 3 (.fin [9,11]) 9 (.fin [3,11]))])),(9,.forkN [] 3 [8,10] (O2 [(3,.fork [] 8 (.fin [10,11]) 10 (.fork [] 8 (.fin [11]) 11 (.fin [8]))),(8,.fork [] 3 (.fin [10,11]) 10 (.fin [3,11])),(10,.fork [] 3 (.fork [] 8 (.fin [11]) 11 (.fin [8])) 8 (.fin [3,11]))])),(10,.forkN [] 3 [8,9] (O2 [(3,.fork [] 8 (.fin [9,11]) 9 (.fork [] 8 (.fin [11]) 11 (.fin [8]))),(8,.fork [] 3 (.fin [9,11]) 9 (.fin [3,11])),(9,.fork [] 3 (.fork [] 8 (.fin [11]) 11 (.fin [8])) 8 (.fin [3,11]))]))]),.fin [12]] Tf.follows (fun _ _ _ h=>qB (P:=Tryz.prog) (fn:=Tryz.f234) _ _ _ h) Yg<|P2 (γ:=Nat×Nat×Nat×Nat) (fun g=>True) (fun g=>[(3,.pointer (some ⟨g.1,0,none⟩)),(4,.pointer (some ⟨g.2.1,0,none⟩)),(14,.slice (some ⟨g.2.2.1,0,none⟩) (b.lines.length+1) (b.lines.length+1)),(2,.pointer (some ⟨q1,0,none⟩)),(1,.pointer (some ⟨br,0,none⟩)),(0,.func (.yield l) #[] #[])]) (fun g=>[(g.2.1,.cells [.slice none 0 0].toArray 303 (0,0)),(g.1,.cells [.slice (some ⟨g.2.2.2,0,none⟩) b.lines.length b.lines.length].toArray 33 (0,0)),(g.2.2.1,.cells (bO (List.replicate (b.lines.length+1) qS)).toArray 207 (0,0)),(g.2.2.2,.cells (ints (List.replicate (b.lines.length*3) 0)).toArray 160 (0,0))]) (fun g=>[E1,Dr]) [.forkN [0,1,2,4,5,6,7] 3 [8,9,10] (O2 [(3,.forkN [] 8 [9,10] (O2 [(8,.fork [] 9 (.fin [10,11]) 10 (.fin [9,11])),(9,.fork [] 8 (.fin [10,11]) 10 (.fork [] 8 (.fin [11]) 11 (.fin [8]))),(10,.fork [] 8 (.fin [9,11]) 9 (.fork [] 8 (.fin [11]) 11 (.fin [8])))])),(8,.forkN [] 3 [9,10] (O2 [(3,.fork [] 9 (.fin [10,11]) 10 (.fin [9,11])),(9,.fork [] 3 (.fin [10,11]) 10 (.fin [3,11])),(10,.fork [] 3 (.fin [9,11]) 9 (.fin [3,11]))])),(9,.forkN [] 3 [8,10] (O2 [(3,.fork [] 8 (.fin [10,11]) 10 (.fork [] 8 (.fin [11]) 11 (.fin [8]))),(8,.fork [] 3 (.fin [10,11]) 10 (.fin [3,11])),(10,.fork [] 3 (.fork [] 8 (.fin [11]) 11 (.fin [8])) 8 (.fin [3,11]))])),(10,.forkN [] 3 [8,9] (O2 [(3,.fork [] 8 (.fin [9,11]) 9 (.fork [] 8 (.fin [11]) 11 (.fin [8]))),(8,.fork [] 3 (.fin [9,11]) 9 (.fin [3,11])),(9,.fork [] 3 (.fork [] 8 (.fin [11]) 11 (.fin [8])) 8 (.fin [3,11]))]))])] [.fin [12]] rfl ?_ ?_))
 ·refine nR<|mJ [(false,0),(false,1),(false,2),(true,4),(true,5),(true,6),(true,7)] rfl<|Zi rfl Tf.f36_3 rfl<|bC rfl (k:=3) Tf.a33 rfl hA Ye rfl (dO.out Ye) rfl trivial<|aR rfl U33 rfl hl' rfl rfl trivial<|Zi rfl Tf.f36_3 rfl<|bC rfl (k:=3) Tf.a33 rfl hA Ye rfl (dO.out Ye) rfl trivial<|aR rfl U33 rfl hl' rfl rfl trivial<|Zy rfl ?_;refine Zab (eM true rfl rfl ?_ (eM true rfl rfl ?_ (eM true rfl rfl ?_ (eM true rfl rfl ?_ (sI)))))
  ·refine aN (n:=b.lines.length) rfl U33 Tf.s160 Tf.z160 rfl Tf.i160 rfl rfl Yd (aV Ye rfl) rfl aOJ (fun blo=>Zab<|mJ [] rfl ?_);refine Zab (eM true rfl rfl ?_ (eM true rfl rfl ?_ (eM true rfl rfl ?_ (sI))))
   ·refine aN (n:=b.lines.length+1) rfl U303 Tf.s207 Tf.z207 rfl Tf.i207 Yb Yb Yd ((aV Ye rfl).trans (eS _)) rfl aOJ (fun bo=>Zab<|bE [] rfl<|Zab (cZ true true rfl rfl ?_ ?_))
    ·refine Zx rfl Tf.z33 rfl (fun q2=>Zab<|aP [(true,10),(true,11)] rfl<|Zx rfl Tf.z303 rfl (fun q3=>bR hA Ye (fun hap=>Zo 0 [.slice none 0 0] [.slice (some ⟨blo,0,none⟩) b.lines.length b.lines.length] [.slice (some ⟨blo,0,none⟩) b.lines.length b.lines.length] rfl Tf.s33 (.tail (bM.head)) rfl (aJE (dO.in_ Yn))<|Zab ?_)));exact fun a w hh=>⟨(q2,q3,bo,blo),aOJ,(hh.perm (μ':=[(q3,.cells [.slice none 0 0].toArray 303 (0,0)),(q2,.cells [.slice (some ⟨blo,0,none⟩) b.lines.length b.lines.length].toArray 33 (0,0)),(bo,.cells (bO (List.replicate (b.lines.length+1) qS)).toArray 207 (0,0)),(blo,.cells (ints (List.replicate (b.lines.length*3) 0)).toArray 160 (0,0))]) Ye Yz).weak C.rs (LE _) aD⟩
    ·refine Zx rfl Tf.z303 rfl (fun q2=>Zab<|aP [(true,9),(true,11)] rfl<|Zx rfl Tf.z33 rfl (fun q3=>bR hA Ye (fun hap=>Zo 0 [.slice none 0 0] [.slice (some ⟨blo,0,none⟩) b.lines.length b.lines.length] [.slice (some ⟨blo,0,none⟩) b.lines.length b.lines.length] rfl Tf.s33 (bM.head) rfl (aJE (dO.in_ Yr))<|Zab ?_)));exact fun a w hh=>⟨(q3,q2,bo,blo),aOJ,(hh.perm (μ':=[(q2,.cells [.slice none 0 0].toArray 303 (0,0)),(q3,.cells [.slice (some ⟨blo,0,none⟩) b.lines.length b.lines.length].toArray 33 (0,0)),(bo,.cells (bO (List.replicate (b.lines.length+1) qS)).toArray 207 (0,0)),(blo,.cells (ints (List.replicate (b.lines.length*3) 0)).toArray 160 (0,0))]) Ye Yz).weak C.rs (LE _) aD⟩
   ·refine Zx rfl Tf.z33 rfl (fun q2=>Zab<|bE [] rfl<|Zab (cZ true true rfl rfl ?_ ?_))
    ·refine aN (n:=b.lines.length+1) rfl U303 Tf.s207 Tf.z207 rfl Tf.i207 Yb Yb Yd ((aV Ye rfl).trans (eS _)) rfl aOJ (fun bo=>Zab<|aP [(true,10),(true,11)] rfl<|Zx rfl Tf.z303 rfl (fun q3=>bR hA Ye (fun hap=>Zo 0 [.slice none 0 0] [.slice (some ⟨blo,0,none⟩) b.lines.length b.lines.length] [.slice (some ⟨blo,0,none⟩) b.lines.length b.lines.length] rfl Tf.s33 (.tail (.tail (bM.head))) rfl (aJE (dO.in_ Ym))<|Zab ?_)));exact fun a w hh=>⟨(q2,q3,bo,blo),aOJ,(hh.perm (μ':=[(q3,.cells [.slice none 0 0].toArray 303 (0,0)),(q2,.cells [.slice (some ⟨blo,0,none⟩) b.lines.length b.lines.length].toArray 33 (0,0)),(bo,.cells (bO (List.replicate (b.lines.length+1) qS)).toArray 207 (0,0)),(blo,.cells (ints (List.replicate (b.lines.length*3) 0)).toArray 160 (0,0))]) Ye Yz).weak C.rs (LE _) aD⟩
    ·refine Zx rfl Tf.z303 rfl (fun q3=>Zab<|bE [] rfl<|Zab (cZ true true rfl rfl ?_ ?_))
     ·refine aN (n:=b.lines.length+1) rfl U303 Tf.s207 Tf.z207 rfl Tf.i207 Yb Yb Yd ((aV Ye rfl).trans (eS _)) rfl aOJ (fun bo=>Zab<|aP [(true,11)] rfl<|bR hA Ye (fun hap=>Zo 0 [.slice none 0 0] [.slice (some ⟨blo,0,none⟩) b.lines.length b.lines.length] [.slice (some ⟨blo,0,none⟩) b.lines.length b.lines.length] rfl Tf.s33 (.tail (.tail (bM.head))) rfl (aJE (dO.in_ Ym))<|Zab ?_));exact fun a w hh=>⟨(q2,q3,bo,blo),aOJ,(hh.perm (μ':=[(q3,.cells [.slice none 0 0].toArray 303 (0,0)),(q2,.cells [.slice (some ⟨blo,0,none⟩) b.lines.length b.lines.length].toArray 33 (0,0)),(bo,.cells (bO (List.replicate (b.lines.length+1) qS)).toArray 207 (0,0)),(blo,.cells (ints (List.replicate (b.lines.length*3) 0)).toArray 160 (0,0))]) Ye Yz).weak C.rs (LE _) aD⟩
     ·refine bR hA Ye (fun hap=>Zo 0 [.slice none 0 0] [.slice (some ⟨blo,0,none⟩) b.lines.length b.lines.length] [.slice (some ⟨blo,0,none⟩) b.lines.length b.lines.length] rfl Tf.s33 (.tail (bM.head)) rfl (aJE (dO.in_ Yn))<|Zab<|aP [(true,8)] rfl<|aN (n:=b.lines.length+1) rfl U303 Tf.s207 Tf.z207 rfl Tf.i207 Yb Yb Yd ((aV Ye rfl).trans (eS _)) rfl aOJ (fun bo=>Zab ?_));exact fun a w hh=>⟨(q2,q3,bo,blo),aOJ,(hh.perm (μ':=[(q3,.cells [.slice none 0 0].toArray 303 (0,0)),(q2,.cells [.slice (some ⟨blo,0,none⟩) b.lines.length b.lines.length].toArray 33 (0,0)),(bo,.cells (bO (List.replicate (b.lines.length+1) qS)).toArray 207 (0,0)),(blo,.cells (ints (List.replicate (b.lines.length*3) 0)).toArray 160 (0,0))]) Ye Yz).weak C.rs (LE _) aD⟩
   ·refine Zx rfl Tf.z303 rfl (fun q2=>Zab<|bE [] rfl<|Zab (cZ true true rfl rfl ?_ ?_))
    ·refine aN (n:=b.lines.length+1) rfl U303 Tf.s207 Tf.z207 rfl Tf.i207 Yb Yb Yd ((aV Ye rfl).trans (eS _)) rfl aOJ (fun bo=>Zab<|aP [(true,9),(true,11)] rfl<|Zx rfl Tf.z33 rfl (fun q3=>bR hA Ye (fun hap=>Zo 0 [.slice none 0 0] [.slice (some ⟨blo,0,none⟩) b.lines.length b.lines.length] [.slice (some ⟨blo,0,none⟩) b.lines.length b.lines.length] rfl Tf.s33 (bM.head) rfl (aJE (dO.in_ Yr))<|Zab ?_)));exact fun a w hh=>⟨(q3,q2,bo,blo),aOJ,(hh.perm (μ':=[(q2,.cells [.slice none 0 0].toArray 303 (0,0)),(q3,.cells [.slice (some ⟨blo,0,none⟩) b.lines.length b.lines.length].toArray 33 (0,0)),(bo,.cells (bO (List.replicate (b.lines.length+1) qS)).toArray 207 (0,0)),(blo,.cells (ints (List.replicate (b.lines.length*3) 0)).toArray 160 (0,0))]) Ye Yz).weak C.rs (LE _) aD⟩
    ·refine Zx rfl Tf.z33 rfl (fun q3=>Zab<|bE [] rfl<|Zab (cZ true true rfl rfl ?_ ?_))
     ·refine aN (n:=b.lines.length+1) rfl U303 Tf.s207 Tf.z207 rfl Tf.i207 Yb Yb Yd ((aV Ye rfl).trans (eS _)) rfl aOJ (fun bo=>Zab<|aP [(true,11)] rfl<|bR hA Ye (fun hap=>Zo 0 [.slice none 0 0] [.slice (some ⟨blo,0,none⟩) b.lines.length b.lines.length] [.slice (some ⟨blo,0,none⟩) b.lines.length b.lines.length] rfl Tf.s33 (.tail (bM.head)) rfl (aJE (dO.in_ Yn))<|Zab ?_));exact fun a w hh=>⟨(q3,q2,bo,blo),aOJ,(hh.perm (μ':=[(q2,.cells [.slice none 0 0].toArray 303 (0,0)),(q3,.cells [.slice (some ⟨blo,0,none⟩) b.lines.length b.lines.length].toArray 33 (0,0)),(bo,.cells (bO (List.replicate (b.lines.length+1) qS)).toArray 207 (0,0)),(blo,.cells (ints (List.replicate (b.lines.length*3) 0)).toArray 160 (0,0))]) Ye Yz).weak C.rs (LE _) aD⟩
     ·refine bR hA Ye (fun hap=>Zo 0 [.slice none 0 0] [.slice (some ⟨blo,0,none⟩) b.lines.length b.lines.length] [.slice (some ⟨blo,0,none⟩) b.lines.length b.lines.length] rfl Tf.s33 (bM.head) rfl (aJE (dO.in_ Yr))<|Zab<|aP [(true,8)] rfl<|aN (n:=b.lines.length+1) rfl U303 Tf.s207 Tf.z207 rfl Tf.i207 Yb Yb Yd ((aV Ye rfl).trans (eS _)) rfl aOJ (fun bo=>Zab ?_));exact fun a w hh=>⟨(q3,q2,bo,blo),aOJ,(hh.perm (μ':=[(q2,.cells [.slice none 0 0].toArray 303 (0,0)),(q3,.cells [.slice (some ⟨blo,0,none⟩) b.lines.length b.lines.length].toArray 33 (0,0)),(bo,.cells (bO (List.replicate (b.lines.length+1) qS)).toArray 207 (0,0)),(blo,.cells (ints (List.replicate (b.lines.length*3) 0)).toArray 160 (0,0))]) Ye Yz).weak C.rs (LE _) aD⟩
  ·refine aN (n:=b.lines.length+1) rfl U303 Tf.s207 Tf.z207 rfl Tf.i207 Yb Yb Yd ((aV Ye rfl).trans (eS _)) rfl aOJ (fun bo=>Zab<|mJ [] rfl ?_);refine Zab (eM true rfl rfl ?_ (eM true rfl rfl ?_ (eM true rfl rfl ?_ (sI))))
   ·refine aN (n:=b.lines.length) rfl U33 Tf.s160 Tf.z160 rfl Tf.i160 rfl rfl Yd (aV Ye rfl) rfl aOJ (fun blo=>Zab<|bE [] rfl<|Zab (cZ true true rfl rfl ?_ ?_))
    ·refine Zx rfl Tf.z33 rfl (fun q2=>Zab<|aP [(true,10),(true,11)] rfl<|Zx rfl Tf.z303 rfl (fun q3=>bR hA Ye (fun hap=>Zo 0 [.slice none 0 0] [.slice (some ⟨blo,0,none⟩) b.lines.length b.lines.length] [.slice (some ⟨blo,0,none⟩) b.lines.length b.lines.length] rfl Tf.s33 (.tail (bM.head)) rfl (aJE (dO.in_ Yn))<|Zab ?_)));exact fun a w hh=>⟨(q2,q3,bo,blo),aOJ,(hh.perm (μ':=[(q3,.cells [.slice none 0 0].toArray 303 (0,0)),(q2,.cells [.slice (some ⟨blo,0,none⟩) b.lines.length b.lines.length].toArray 33 (0,0)),(bo,.cells (bO (List.replicate (b.lines.length+1) qS)).toArray 207 (0,0)),(blo,.cells (ints (List.replicate (b.lines.length*3) 0)).toArray 160 (0,0))]) Ye Yz).weak C.rs (LE _) aD⟩
    ·refine Zx rfl Tf.z303 rfl (fun q2=>Zab<|aP [(true,9),(true,11)] rfl<|Zx rfl Tf.z33 rfl (fun q3=>bR hA Ye (fun hap=>Zo 0 [.slice none 0 0] [.slice (some ⟨blo,0,none⟩) b.lines.length b.lines.length] [.slice (some ⟨blo,0,none⟩) b.lines.length b.lines.length] rfl Tf.s33 (bM.head) rfl (aJE (dO.in_ Yr))<|Zab ?_)));exact fun a w hh=>⟨(q3,q2,bo,blo),aOJ,(hh.perm (μ':=[(q2,.cells [.slice none 0 0].toArray 303 (0,0)),(q3,.cells [.slice (some ⟨blo,0,none⟩) b.lines.length b.lines.length].toArray 33 (0,0)),(bo,.cells (bO (List.replicate (b.lines.length+1) qS)).toArray 207 (0,0)),(blo,.cells (ints (List.replicate (b.lines.length*3) 0)).toArray 160 (0,0))]) Ye Yz).weak C.rs (LE _) aD⟩
   ·refine Zx rfl Tf.z33 rfl (fun q2=>Zab<|bE [] rfl<|Zab (cZ true true rfl rfl ?_ ?_))
    ·refine aN (n:=b.lines.length) rfl U33 Tf.s160 Tf.z160 rfl Tf.i160 rfl rfl Yd (aV Ye rfl) rfl aOJ (fun blo=>Zab<|aP [(true,10),(true,11)] rfl<|Zx rfl Tf.z303 rfl (fun q3=>bR hA Ye (fun hap=>Zo 0 [.slice none 0 0] [.slice (some ⟨blo,0,none⟩) b.lines.length b.lines.length] [.slice (some ⟨blo,0,none⟩) b.lines.length b.lines.length] rfl Tf.s33 (.tail (.tail (bM.head))) rfl (aJE (dO.in_ Ym))<|Zab ?_)));exact fun a w hh=>⟨(q2,q3,bo,blo),aOJ,(hh.perm (μ':=[(q3,.cells [.slice none 0 0].toArray 303 (0,0)),(q2,.cells [.slice (some ⟨blo,0,none⟩) b.lines.length b.lines.length].toArray 33 (0,0)),(bo,.cells (bO (List.replicate (b.lines.length+1) qS)).toArray 207 (0,0)),(blo,.cells (ints (List.replicate (b.lines.length*3) 0)).toArray 160 (0,0))]) Ye Yz).weak C.rs (LE _) aD⟩
    ·refine Zx rfl Tf.z303 rfl (fun q3=>Zab<|aP [(true,3),(true,11)] rfl<|aN (n:=b.lines.length) rfl U33 Tf.s160 Tf.z160 rfl Tf.i160 rfl rfl Yd (aV Ye rfl) rfl aOJ (fun blo=>bR hA Ye (fun hap=>Zo 0 [.slice none 0 0] [.slice (some ⟨blo,0,none⟩) b.lines.length b.lines.length] [.slice (some ⟨blo,0,none⟩) b.lines.length b.lines.length] rfl Tf.s33 (.tail (.tail (bM.head))) rfl (aJE (dO.in_ Ym))<|Zab ?_)));exact fun a w hh=>⟨(q2,q3,bo,blo),aOJ,(hh.perm (μ':=[(q3,.cells [.slice none 0 0].toArray 303 (0,0)),(q2,.cells [.slice (some ⟨blo,0,none⟩) b.lines.length b.lines.length].toArray 33 (0,0)),(bo,.cells (bO (List.replicate (b.lines.length+1) qS)).toArray 207 (0,0)),(blo,.cells (ints (List.replicate (b.lines.length*3) 0)).toArray 160 (0,0))]) Ye Yz).weak C.rs (LE _) aD⟩
   ·refine Zx rfl Tf.z303 rfl (fun q2=>Zab<|bE [] rfl<|Zab (cZ true true rfl rfl ?_ ?_))
    ·refine aN (n:=b.lines.length) rfl U33 Tf.s160 Tf.z160 rfl Tf.i160 rfl rfl Yd (aV Ye rfl) rfl aOJ (fun blo=>Zab<|aP [(true,9),(true,11)] rfl<|Zx rfl Tf.z33 rfl (fun q3=>bR hA Ye (fun hap=>Zo 0 [.slice none 0 0] [.slice (some ⟨blo,0,none⟩) b.lines.length b.lines.length] [.slice (some ⟨blo,0,none⟩) b.lines.length b.lines.length] rfl Tf.s33 (bM.head) rfl (aJE (dO.in_ Yr))<|Zab ?_)));exact fun a w hh=>⟨(q3,q2,bo,blo),aOJ,(hh.perm (μ':=[(q2,.cells [.slice none 0 0].toArray 303 (0,0)),(q3,.cells [.slice (some ⟨blo,0,none⟩) b.lines.length b.lines.length].toArray 33 (0,0)),(bo,.cells (bO (List.replicate (b.lines.length+1) qS)).toArray 207 (0,0)),(blo,.cells (ints (List.replicate (b.lines.length*3) 0)).toArray 160 (0,0))]) Ye Yz).weak C.rs (LE _) aD⟩
    ·refine Zx rfl Tf.z33 rfl (fun q3=>Zab<|aP [(true,3),(true,11)] rfl<|aN (n:=b.lines.length) rfl U33 Tf.s160 Tf.z160 rfl Tf.i160 rfl rfl Yd (aV Ye rfl) rfl aOJ (fun blo=>bR hA Ye (fun hap=>Zo 0 [.slice none 0 0] [.slice (some ⟨blo,0,none⟩) b.lines.length b.lines.length] [.slice (some ⟨blo,0,none⟩) b.lines.length b.lines.length] rfl Tf.s33 (.tail (bM.head)) rfl (aJE (dO.in_ Yn))<|Zab ?_)));exact fun a w hh=>⟨(q3,q2,bo,blo),aOJ,(hh.perm (μ':=[(q2,.cells [.slice none 0 0].toArray 303 (0,0)),(q3,.cells [.slice (some ⟨blo,0,none⟩) b.lines.length b.lines.length].toArray 33 (0,0)),(bo,.cells (bO (List.replicate (b.lines.length+1) qS)).toArray 207 (0,0)),(blo,.cells (ints (List.replicate (b.lines.length*3) 0)).toArray 160 (0,0))]) Ye Yz).weak C.rs (LE _) aD⟩
  ·refine Zx rfl Tf.z33 rfl (fun q2=>Zab<|mJ [] rfl ?_);refine Zab (eM true rfl rfl ?_ (eM true rfl rfl ?_ (eM true rfl rfl ?_ (sI))))
   ·refine aN (n:=b.lines.length) rfl U33 Tf.s160 Tf.z160 rfl Tf.i160 rfl rfl Yd (aV Ye rfl) rfl aOJ (fun blo=>Zab<|bE [] rfl<|Zab (cZ true true rfl rfl ?_ ?_))
    ·refine aN (n:=b.lines.length+1) rfl U303 Tf.s207 Tf.z207 rfl Tf.i207 Yb Yb Yd ((aV Ye rfl).trans (eS _)) rfl aOJ (fun bo=>Zab<|aP [(true,10),(true,11)] rfl<|Zx rfl Tf.z303 rfl (fun q3=>bR hA Ye (fun hap=>Zo 0 [.slice none 0 0] [.slice (some ⟨blo,0,none⟩) b.lines.length b.lines.length] [.slice (some ⟨blo,0,none⟩) b.lines.length b.lines.length] rfl Tf.s33 (.tail (.tail (.tail (bM.head)))) rfl (aJE (dO.in_ Yo))<|Zab ?_)));exact fun a w hh=>⟨(q2,q3,bo,blo),aOJ,(hh.perm (μ':=[(q3,.cells [.slice none 0 0].toArray 303 (0,0)),(q2,.cells [.slice (some ⟨blo,0,none⟩) b.lines.length b.lines.length].toArray 33 (0,0)),(bo,.cells (bO (List.replicate (b.lines.length+1) qS)).toArray 207 (0,0)),(blo,.cells (ints (List.replicate (b.lines.length*3) 0)).toArray 160 (0,0))]) Ye Yz).weak C.rs (LE _) aD⟩
    ·refine Zx rfl Tf.z303 rfl (fun q3=>Zab<|bE [] rfl<|Zab (cZ true true rfl rfl ?_ ?_))
     ·refine aN (n:=b.lines.length+1) rfl U303 Tf.s207 Tf.z207 rfl Tf.i207 Yb Yb Yd ((aV Ye rfl).trans (eS _)) rfl aOJ (fun bo=>Zab<|aP [(true,11)] rfl<|bR hA Ye (fun hap=>Zo 0 [.slice none 0 0] [.slice (some ⟨blo,0,none⟩) b.lines.length b.lines.length] [.slice (some ⟨blo,0,none⟩) b.lines.length b.lines.length] rfl Tf.s33 (.tail (.tail (.tail (bM.head)))) rfl (aJE (dO.in_ Yo))<|Zab ?_));exact fun a w hh=>⟨(q2,q3,bo,blo),aOJ,(hh.perm (μ':=[(q3,.cells [.slice none 0 0].toArray 303 (0,0)),(q2,.cells [.slice (some ⟨blo,0,none⟩) b.lines.length b.lines.length].toArray 33 (0,0)),(bo,.cells (bO (List.replicate (b.lines.length+1) qS)).toArray 207 (0,0)),(blo,.cells (ints (List.replicate (b.lines.length*3) 0)).toArray 160 (0,0))]) Ye Yz).weak C.rs (LE _) aD⟩
     ·refine bR hA Ye (fun hap=>Zo 0 [.slice none 0 0] [.slice (some ⟨blo,0,none⟩) b.lines.length b.lines.length] [.slice (some ⟨blo,0,none⟩) b.lines.length b.lines.length] rfl Tf.s33 (.tail (.tail (bM.head))) rfl (aJE (dO.in_ Ym))<|Zab<|aP [(true,8)] rfl<|aN (n:=b.lines.length+1) rfl U303 Tf.s207 Tf.z207 rfl Tf.i207 Yb Yb Yd ((aV Ye rfl).trans (eS _)) rfl aOJ (fun bo=>Zab ?_));exact fun a w hh=>⟨(q2,q3,bo,blo),aOJ,(hh.perm (μ':=[(q3,.cells [.slice none 0 0].toArray 303 (0,0)),(q2,.cells [.slice (some ⟨blo,0,none⟩) b.lines.length b.lines.length].toArray 33 (0,0)),(bo,.cells (bO (List.replicate (b.lines.length+1) qS)).toArray 207 (0,0)),(blo,.cells (ints (List.replicate (b.lines.length*3) 0)).toArray 160 (0,0))]) Ye Yz).weak C.rs (LE _) aD⟩
   ·refine aN (n:=b.lines.length+1) rfl U303 Tf.s207 Tf.z207 rfl Tf.i207 Yb Yb Yd ((aV Ye rfl).trans (eS _)) rfl aOJ (fun bo=>Zab<|bE [] rfl<|Zab (cZ true true rfl rfl ?_ ?_))
    ·refine aN (n:=b.lines.length) rfl U33 Tf.s160 Tf.z160 rfl Tf.i160 rfl rfl Yd (aV Ye rfl) rfl aOJ (fun blo=>Zab<|aP [(true,10),(true,11)] rfl<|Zx rfl Tf.z303 rfl (fun q3=>bR hA Ye (fun hap=>Zo 0 [.slice none 0 0] [.slice (some ⟨blo,0,none⟩) b.lines.length b.lines.length] [.slice (some ⟨blo,0,none⟩) b.lines.length b.lines.length] rfl Tf.s33 (.tail (.tail (.tail (bM.head)))) rfl (aJE (dO.in_ Yo))<|Zab ?_)));exact fun a w hh=>⟨(q2,q3,bo,blo),aOJ,(hh.perm (μ':=[(q3,.cells [.slice none 0 0].toArray 303 (0,0)),(q2,.cells [.slice (some ⟨blo,0,none⟩) b.lines.length b.lines.length].toArray 33 (0,0)),(bo,.cells (bO (List.replicate (b.lines.length+1) qS)).toArray 207 (0,0)),(blo,.cells (ints (List.replicate (b.lines.length*3) 0)).toArray 160 (0,0))]) Ye Yz).weak C.rs (LE _) aD⟩
    ·refine Zx rfl Tf.z303 rfl (fun q3=>Zab<|aP [(true,3),(true,11)] rfl<|aN (n:=b.lines.length) rfl U33 Tf.s160 Tf.z160 rfl Tf.i160 rfl rfl Yd (aV Ye rfl) rfl aOJ (fun blo=>bR hA Ye (fun hap=>Zo 0 [.slice none 0 0] [.slice (some ⟨blo,0,none⟩) b.lines.length b.lines.length] [.slice (some ⟨blo,0,none⟩) b.lines.length b.lines.length] rfl Tf.s33 (.tail (.tail (.tail (bM.head)))) rfl (aJE (dO.in_ Yo))<|Zab ?_)));exact fun a w hh=>⟨(q2,q3,bo,blo),aOJ,(hh.perm (μ':=[(q3,.cells [.slice none 0 0].toArray 303 (0,0)),(q2,.cells [.slice (some ⟨blo,0,none⟩) b.lines.length b.lines.length].toArray 33 (0,0)),(bo,.cells (bO (List.replicate (b.lines.length+1) qS)).toArray 207 (0,0)),(blo,.cells (ints (List.replicate (b.lines.length*3) 0)).toArray 160 (0,0))]) Ye Yz).weak C.rs (LE _) aD⟩
   ·refine Zx rfl Tf.z303 rfl (fun q3=>Zab<|bE [] rfl<|Zab (cZ true true rfl rfl ?_ ?_))
    ·refine aN (n:=b.lines.length) rfl U33 Tf.s160 Tf.z160 rfl Tf.i160 rfl rfl Yd (aV Ye rfl) rfl aOJ (fun blo=>Zab<|bE [] rfl<|Zab (cZ true true rfl rfl ?_ ?_))
     ·refine aN (n:=b.lines.length+1) rfl U303 Tf.s207 Tf.z207 rfl Tf.i207 Yb Yb Yd ((aV Ye rfl).trans (eS _)) rfl aOJ (fun bo=>Zab<|aP [(true,11)] rfl<|bR hA Ye (fun hap=>Zo 0 [.slice none 0 0] [.slice (some ⟨blo,0,none⟩) b.lines.length b.lines.length] [.slice (some ⟨blo,0,none⟩) b.lines.length b.lines.length] rfl Tf.s33 (.tail (.tail (.tail (bM.head)))) rfl (aJE (dO.in_ Yo))<|Zab ?_));exact fun a w hh=>⟨(q2,q3,bo,blo),aOJ,(hh.perm (μ':=[(q3,.cells [.slice none 0 0].toArray 303 (0,0)),(q2,.cells [.slice (some ⟨blo,0,none⟩) b.lines.length b.lines.length].toArray 33 (0,0)),(bo,.cells (bO (List.replicate (b.lines.length+1) qS)).toArray 207 (0,0)),(blo,.cells (ints (List.replicate (b.lines.length*3) 0)).toArray 160 (0,0))]) Ye Yz).weak C.rs (LE _) aD⟩
     ·refine bR hA Ye (fun hap=>Zo 0 [.slice none 0 0] [.slice (some ⟨blo,0,none⟩) b.lines.length b.lines.length] [.slice (some ⟨blo,0,none⟩) b.lines.length b.lines.length] rfl Tf.s33 (.tail (.tail (bM.head))) rfl (aJE (dO.in_ Ym))<|Zab<|aP [(true,8)] rfl<|aN (n:=b.lines.length+1) rfl U303 Tf.s207 Tf.z207 rfl Tf.i207 Yb Yb Yd ((aV Ye rfl).trans (eS _)) rfl aOJ (fun bo=>Zab ?_));exact fun a w hh=>⟨(q2,q3,bo,blo),aOJ,(hh.perm (μ':=[(q3,.cells [.slice none 0 0].toArray 303 (0,0)),(q2,.cells [.slice (some ⟨blo,0,none⟩) b.lines.length b.lines.length].toArray 33 (0,0)),(bo,.cells (bO (List.replicate (b.lines.length+1) qS)).toArray 207 (0,0)),(blo,.cells (ints (List.replicate (b.lines.length*3) 0)).toArray 160 (0,0))]) Ye Yz).weak C.rs (LE _) aD⟩
    ·refine aN (n:=b.lines.length+1) rfl U303 Tf.s207 Tf.z207 rfl Tf.i207 Yb Yb Yd ((aV Ye rfl).trans (eS _)) rfl aOJ (fun bo=>Zab<|aP [(true,3),(true,11)] rfl<|aN (n:=b.lines.length) rfl U33 Tf.s160 Tf.z160 rfl Tf.i160 rfl rfl Yd (aV Ye rfl) rfl aOJ (fun blo=>bR hA Ye (fun hap=>Zo 0 [.slice none 0 0] [.slice (some ⟨blo,0,none⟩) b.lines.length b.lines.length] [.slice (some ⟨blo,0,none⟩) b.lines.length b.lines.length] rfl Tf.s33 (.tail (.tail (.tail (bM.head)))) rfl (aJE (dO.in_ Yo))<|Zab ?_)));exact fun a w hh=>⟨(q2,q3,bo,blo),aOJ,(hh.perm (μ':=[(q3,.cells [.slice none 0 0].toArray 303 (0,0)),(q2,.cells [.slice (some ⟨blo,0,none⟩) b.lines.length b.lines.length].toArray 33 (0,0)),(bo,.cells (bO (List.replicate (b.lines.length+1) qS)).toArray 207 (0,0)),(blo,.cells (ints (List.replicate (b.lines.length*3) 0)).toArray 160 (0,0))]) Ye Yz).weak C.rs (LE _) aD⟩
  ·refine Zx rfl Tf.z303 rfl (fun q2=>Zab<|mJ [] rfl ?_);refine Zab (eM true rfl rfl ?_ (eM true rfl rfl ?_ (eM true rfl rfl ?_ (sI))))
   ·refine aN (n:=b.lines.length) rfl U33 Tf.s160 Tf.z160 rfl Tf.i160 rfl rfl Yd (aV Ye rfl) rfl aOJ (fun blo=>Zab<|bE [] rfl<|Zab (cZ true true rfl rfl ?_ ?_))
    ·refine aN (n:=b.lines.length+1) rfl U303 Tf.s207 Tf.z207 rfl Tf.i207 Yb Yb Yd ((aV Ye rfl).trans (eS _)) rfl aOJ (fun bo=>Zab<|aP [(true,9),(true,11)] rfl<|Zx rfl Tf.z33 rfl (fun q3=>bR hA Ye (fun hap=>Zo 0 [.slice none 0 0] [.slice (some ⟨blo,0,none⟩) b.lines.length b.lines.length] [.slice (some ⟨blo,0,none⟩) b.lines.length b.lines.length] rfl Tf.s33 (bM.head) rfl (aJE (dO.in_ Yr))<|Zab ?_)));exact fun a w hh=>⟨(q3,q2,bo,blo),aOJ,(hh.perm (μ':=[(q2,.cells [.slice none 0 0].toArray 303 (0,0)),(q3,.cells [.slice (some ⟨blo,0,none⟩) b.lines.length b.lines.length].toArray 33 (0,0)),(bo,.cells (bO (List.replicate (b.lines.length+1) qS)).toArray 207 (0,0)),(blo,.cells (ints (List.replicate (b.lines.length*3) 0)).toArray 160 (0,0))]) Ye Yz).weak C.rs (LE _) aD⟩
    ·refine Zx rfl Tf.z33 rfl (fun q3=>Zab<|bE [] rfl<|Zab (cZ true true rfl rfl ?_ ?_))
     ·refine aN (n:=b.lines.length+1) rfl U303 Tf.s207 Tf.z207 rfl Tf.i207 Yb Yb Yd ((aV Ye rfl).trans (eS _)) rfl aOJ (fun bo=>Zab<|aP [(true,11)] rfl<|bR hA Ye (fun hap=>Zo 0 [.slice none 0 0] [.slice (some ⟨blo,0,none⟩) b.lines.length b.lines.length] [.slice (some ⟨blo,0,none⟩) b.lines.length b.lines.length] rfl Tf.s33 (.tail (bM.head)) rfl (aJE (dO.in_ Yn))<|Zab ?_));exact fun a w hh=>⟨(q3,q2,bo,blo),aOJ,(hh.perm (μ':=[(q2,.cells [.slice none 0 0].toArray 303 (0,0)),(q3,.cells [.slice (some ⟨blo,0,none⟩) b.lines.length b.lines.length].toArray 33 (0,0)),(bo,.cells (bO (List.replicate (b.lines.length+1) qS)).toArray 207 (0,0)),(blo,.cells (ints (List.replicate (b.lines.length*3) 0)).toArray 160 (0,0))]) Ye Yz).weak C.rs (LE _) aD⟩
     ·refine bR hA Ye (fun hap=>Zo 0 [.slice none 0 0] [.slice (some ⟨blo,0,none⟩) b.lines.length b.lines.length] [.slice (some ⟨blo,0,none⟩) b.lines.length b.lines.length] rfl Tf.s33 (bM.head) rfl (aJE (dO.in_ Yr))<|Zab<|aP [(true,8)] rfl<|aN (n:=b.lines.length+1) rfl U303 Tf.s207 Tf.z207 rfl Tf.i207 Yb Yb Yd ((aV Ye rfl).trans (eS _)) rfl aOJ (fun bo=>Zab ?_));exact fun a w hh=>⟨(q3,q2,bo,blo),aOJ,(hh.perm (μ':=[(q2,.cells [.slice none 0 0].toArray 303 (0,0)),(q3,.cells [.slice (some ⟨blo,0,none⟩) b.lines.length b.lines.length].toArray 33 (0,0)),(bo,.cells (bO (List.replicate (b.lines.length+1) qS)).toArray 207 (0,0)),(blo,.cells (ints (List.replicate (b.lines.length*3) 0)).toArray 160 (0,0))]) Ye Yz).weak C.rs (LE _) aD⟩
   ·refine aN (n:=b.lines.length+1) rfl U303 Tf.s207 Tf.z207 rfl Tf.i207 Yb Yb Yd ((aV Ye rfl).trans (eS _)) rfl aOJ (fun bo=>Zab<|bE [] rfl<|Zab (cZ true true rfl rfl ?_ ?_))
    ·refine aN (n:=b.lines.length) rfl U33 Tf.s160 Tf.z160 rfl Tf.i160 rfl rfl Yd (aV Ye rfl) rfl aOJ (fun blo=>Zab<|aP [(true,9),(true,11)] rfl<|Zx rfl Tf.z33 rfl (fun q3=>bR hA Ye (fun hap=>Zo 0 [.slice none 0 0] [.slice (some ⟨blo,0,none⟩) b.lines.length b.lines.length] [.slice (some ⟨blo,0,none⟩) b.lines.length b.lines.length] rfl Tf.s33 (bM.head) rfl (aJE (dO.in_ Yr))<|Zab ?_)));exact fun a w hh=>⟨(q3,q2,bo,blo),aOJ,(hh.perm (μ':=[(q2,.cells [.slice none 0 0].toArray 303 (0,0)),(q3,.cells [.slice (some ⟨blo,0,none⟩) b.lines.length b.lines.length].toArray 33 (0,0)),(bo,.cells (bO (List.replicate (b.lines.length+1) qS)).toArray 207 (0,0)),(blo,.cells (ints (List.replicate (b.lines.length*3) 0)).toArray 160 (0,0))]) Ye Yz).weak C.rs (LE _) aD⟩
    ·refine Zx rfl Tf.z33 rfl (fun q3=>Zab<|aP [(true,3),(true,11)] rfl<|aN (n:=b.lines.length) rfl U33 Tf.s160 Tf.z160 rfl Tf.i160 rfl rfl Yd (aV Ye rfl) rfl aOJ (fun blo=>bR hA Ye (fun hap=>Zo 0 [.slice none 0 0] [.slice (some ⟨blo,0,none⟩) b.lines.length b.lines.length] [.slice (some ⟨blo,0,none⟩) b.lines.length b.lines.length] rfl Tf.s33 (.tail (bM.head)) rfl (aJE (dO.in_ Yn))<|Zab ?_)));exact fun a w hh=>⟨(q3,q2,bo,blo),aOJ,(hh.perm (μ':=[(q2,.cells [.slice none 0 0].toArray 303 (0,0)),(q3,.cells [.slice (some ⟨blo,0,none⟩) b.lines.length b.lines.length].toArray 33 (0,0)),(bo,.cells (bO (List.replicate (b.lines.length+1) qS)).toArray 207 (0,0)),(blo,.cells (ints (List.replicate (b.lines.length*3) 0)).toArray 160 (0,0))]) Ye Yz).weak C.rs (LE _) aD⟩
   ·refine Zx rfl Tf.z33 rfl (fun q3=>Zab<|bE [] rfl<|Zab (cZ true true rfl rfl ?_ ?_))
    ·refine aN (n:=b.lines.length) rfl U33 Tf.s160 Tf.z160 rfl Tf.i160 rfl rfl Yd (aV Ye rfl) rfl aOJ (fun blo=>Zab<|bE [] rfl<|Zab (cZ true true rfl rfl ?_ ?_))
     ·refine aN (n:=b.lines.length+1) rfl U303 Tf.s207 Tf.z207 rfl Tf.i207 Yb Yb Yd ((aV Ye rfl).trans (eS _)) rfl aOJ (fun bo=>Zab<|aP [(true,11)] rfl<|bR hA Ye (fun hap=>Zo 0 [.slice none 0 0] [.slice (some ⟨blo,0,none⟩) b.lines.length b.lines.length] [.slice (some ⟨blo,0,none⟩) b.lines.length b.lines.length] rfl Tf.s33 (.tail (.tail (bM.head))) rfl (aJE (dO.in_ Ym))<|Zab ?_));exact fun a w hh=>⟨(q3,q2,bo,blo),aOJ,(hh.perm (μ':=[(q2,.cells [.slice none 0 0].toArray 303 (0,0)),(q3,.cells [.slice (some ⟨blo,0,none⟩) b.lines.length b.lines.length].toArray 33 (0,0)),(bo,.cells (bO (List.replicate (b.lines.length+1) qS)).toArray 207 (0,0)),(blo,.cells (ints (List.replicate (b.lines.length*3) 0)).toArray 160 (0,0))]) Ye Yz).weak C.rs (LE _) aD⟩
     ·refine bR hA Ye (fun hap=>Zo 0 [.slice none 0 0] [.slice (some ⟨blo,0,none⟩) b.lines.length b.lines.length] [.slice (some ⟨blo,0,none⟩) b.lines.length b.lines.length] rfl Tf.s33 (.tail (bM.head)) rfl (aJE (dO.in_ Yn))<|Zab<|aP [(true,8)] rfl<|aN (n:=b.lines.length+1) rfl U303 Tf.s207 Tf.z207 rfl Tf.i207 Yb Yb Yd ((aV Ye rfl).trans (eS _)) rfl aOJ (fun bo=>Zab ?_));exact fun a w hh=>⟨(q3,q2,bo,blo),aOJ,(hh.perm (μ':=[(q2,.cells [.slice none 0 0].toArray 303 (0,0)),(q3,.cells [.slice (some ⟨blo,0,none⟩) b.lines.length b.lines.length].toArray 33 (0,0)),(bo,.cells (bO (List.replicate (b.lines.length+1) qS)).toArray 207 (0,0)),(blo,.cells (ints (List.replicate (b.lines.length*3) 0)).toArray 160 (0,0))]) Ye Yz).weak C.rs (LE _) aD⟩
    ·refine aN (n:=b.lines.length+1) rfl U303 Tf.s207 Tf.z207 rfl Tf.i207 Yb Yb Yd ((aV Ye rfl).trans (eS _)) rfl aOJ (fun bo=>Zab<|aP [(true,3),(true,11)] rfl<|aN (n:=b.lines.length) rfl U33 Tf.s160 Tf.z160 rfl Tf.i160 rfl rfl Yd (aV Ye rfl) rfl aOJ (fun blo=>bR hA Ye (fun hap=>Zo 0 [.slice none 0 0] [.slice (some ⟨blo,0,none⟩) b.lines.length b.lines.length] [.slice (some ⟨blo,0,none⟩) b.lines.length b.lines.length] rfl Tf.s33 (.tail (.tail (bM.head))) rfl (aJE (dO.in_ Ym))<|Zab ?_)));exact fun a w hh=>⟨(q3,q2,bo,blo),aOJ,(hh.perm (μ':=[(q2,.cells [.slice none 0 0].toArray 303 (0,0)),(q3,.cells [.slice (some ⟨blo,0,none⟩) b.lines.length b.lines.length].toArray 33 (0,0)),(bo,.cells (bO (List.replicate (b.lines.length+1) qS)).toArray 207 (0,0)),(blo,.cells (ints (List.replicate (b.lines.length*3) 0)).toArray 160 (0,0))]) Ye Yz).weak C.rs (LE _) aD⟩
 rintro⟨bl,bs,bo,blo⟩ -;dsimp only;refine kY [(false,12)] rfl<|Zn rfl Tf.s303 (bM.head) rfl<|Zab<|kS<|Zah<|C.s1<|Zx rfl Tf.z191 rfl (fun q4=>L.n3<|bB rfl rfl rfl rfl trivial<|Zn rfl Tf.s191 (bM.head) rfl<|L.n2<|C.drawA [] 1 5 6 (fun _ _ _ h=>qB (P:=Tryz.prog) (fn:=Tryz.f234) _ _ _ h) ?_);refine Zl rfl Tf.a303 rfl (LT _ (GE _)) rfl<|Zr rfl Tf.a36 rfl hA Tf.s36<|Zd rfl (fun D1 hD1=>pM _ b _ (hb0.up (hD1 _ Ye)))<|fD rfl U303 Tf.s207 rfl rfl Yd (by push_cast;omega) rfl trivial<|aY (off:=0*10) (us:=ints (lL (eF b))) (ws:=bO ((List.replicate (b.lines.length+1) qS).set 0 (eF b))) rfl (pJ Yd) rfl rfl Tf.s207 (.tail (.tail (.tail (bM.head)))) (by rw[VH zJ,aH,show(lL (eF b)).length=10 from rfl,List.length_replicate];omega) (RW zJ rfl Ye) (cY _) trivial<|L.n1<|C.rg<|Zl rfl Tf.a191 rfl (List.Mem.head _) rfl<|oN rfl rfl rfl rfl (l3 (l:=l) hbo rfl hb0 hA hB1 b.lines.length 0 [] (eF b) ((List.replicate (b.lines.length+1) qS).set 0 (eF b)) (List.replicate (b.lines.length*3) 0) [] [] 0 _ Ye Ye rfl Yd rfl Ye (zJ.set rfl _) Ye (by simp[List.replicate_succ]) (G3 b) Ye J Jx hs hsx hY) rfl aOJ ?_
 rintro _ J2 _ ⟨b2,c2,cl2,rfl,h9',h10',h11',hp',rfl,hJ2⟩;refine Zab ?_;exact hZ (P:=Tryz.prog) (fn:=Tryz.f234) (N:=22) (vs:=[]) rfl rfl aOJ (fun D h=>⟨D,by simp only[aJR]at h;subst h;simp,Le.refl D⟩) (by cases b2<;>simp at hJ2;exact aJE hJ2;exact aJQ hJ2)
theorem FG(bv:Value)(b:aX)(D:aA)(hb:fW D bv b)(hbo:MZ b):
  Fn Tryz.prog 154 #[bv] D (fun D' v=>∃br,v=.func (.func 234) #[] #[.pointer (some ⟨br,0,none⟩)]∧HY Tryz.prog 234 [.pointer (some ⟨br,0,none⟩)] D' (gW b 0 (eF b)) (KE b.lines.length) bO):=by
 have hb0:=hb;obtain⟨lv,cv,rfl,hl,hc⟩:=hb;refine enter 4 Tryz.func154 rfl rfl rfl rfl fun h0=>C.s1<|Zw rfl (fun q1 E1 hE1 hB1=>Zh rfl<|L.n3<|bB rfl rfl rfl rfl trivial<|Zh rfl<|L.n5 ?_)
 exact leave1 rfl rfl rfl rfl (fun D hD=>⟨_,rfl,vG hbo rfl (hb0.up (hD _ Ye)) (hB1.up (hD _ Ye))⟩)
end L3
end Go.Fs
namespace Go.Fs
open Go.Proofs
namespace L3
open L1
open C3
theorem IB(b:aX):∀(ls:List fH) (i:Nat) (s:Sc),s.ch.length=4→s.tk.length=4→∀x∈sL b ls i s,x.2.length=ls.length+1∧∀u∈x.2,u.ch.length=4∧u.tk.length=4
  | [],i,s,h4,h5,x,hx=>by
    unfold sL at hx;split at hx
    · obtain rfl:x=([],[s]):=by simpa using hx
      exact ⟨rfl, fun u hu => by obtain rfl : u = s := by simpa using hu
                                 exact⟨h4,h5⟩⟩
    · cases hx
  |l::ls,i,s,h4,h5,x,hx=>by
    unfold sL at hx;split at hx
    · obtain⟨r,_,hr⟩:=aOG.1 hx;split at hr
      · obtain⟨y,hy,rfl⟩:=aIY.1 hr;obtain⟨g1,g2⟩:=IB b ls (i+1) (dQ b s i r) (by unfold dQ;split<;>simp[h4]) (by unfold dQ;split<;>simp[h5]) y hy
        refine⟨by simp[g1],fun u hu=>?_⟩;rcases aIW.1 hu with rfl|hu
        · exact⟨h4,h5⟩
        · exact g2 u hu
      · cases hr
    · cases hx
theorem AC{b:aX}(hn:b.chairs≤4):∀(ls:List fH) (i:Nat) (s:Sc),(sL b ls i s).length≤32^ls.length
 | [],i,s=>by unfold sL;split<;>simp
 |l::ls,i,s=>by
  unfold sL;split
  ·rw[List.length_flatMap];have h1:∀(rs:List fH),(rs.map fun r=>(if iI s r=true then(sL b ls (i+1) (dQ b s i r)).map fun x=>(r::x.1,s::x.2)else []).length).sum≤rs.length*32^ls.length:=by
    intro rs;induction rs with
    |nil=>simp
    |cons r rs ih=>
     rw[aJY,List.sum_cons,aJD,aLW,Nat.one_mul,Nat.add_comm];refine Nat.add_le_add ih ?_;split
     ·rw[aLA];exact AC hn ls _ _
     ·simp
   have h2:=h1 (cR b.chairs l);have h3:=FD (l:=l) hn;have h4:(cR b.chairs l).length*32^ls.length≤32*32^ls.length:=aNN _ h3;rw[aJD,Nat.pow_succ,Nat.mul_comm];omega
  ·simp
theorem RD{b:aX}(hbo:MZ b):(gW b 0 (eF b)).length≤1099511627776:=by
 unfold gW;rw[aLA];have h1:=AC hbo.ch.2 (b.lines.drop 0) 0 (eF b);have h2:32^(b.lines.drop 0).length≤32^8:=aMR Yd (by rw[aMS];exact hbo.l8)
 omega
theorem QK{b:aX}(hbo:MZ b){x:List Sc}{pre r:List (List Sc)}(h:gW b 0 (eF b)=pre++x::r):x.length=b.lines.length+1∧(∀u∈x,u.ch.length=4∧u.tk.length=4)∧pre.length<1099511627776:=by
 have hm:x∈gW b 0 (eF b):=by rw[h];simp
 obtain⟨y,hy,rfl⟩:=aIY.1 hm;obtain⟨g1,g2⟩:=IB b _ _ _ rfl rfl y hy;refine⟨by simpa using g1,g2,?_⟩;have:=RD hbo;rw[h]at this;simp at this;omega
theorem aGE{x:List Sc}{k:Nat}{u:Sc}(h:x[k]?= some u):aEP x k=u:=by unfold aEP;rw[aKX,h];rfl
theorem aEU{D:aA}{bo n:Nat}{x:List Sc}(h:At D bo 0 (bO x))(hx:x.length=n)(h4:∀u∈x,u.ch.length=4∧u.tk.length=4)(hn:n≤1000):Sl D DW 10 (.slice (some ⟨bo,0,none⟩) n n) x:=by
 have h10:uT x:=fun u hu=>tW (h4 u hu).1 (h4 u hu).2
 refine⟨_,n,by rw[hx],by omega,by omega,aJE ⟨bo,0,rfl,fun i u hi=>⟨_,rfl,by rw[aH,h10 u (aJA hi)],fun j v hj=>?_⟩⟩⟩;have:=vJ h10 hi;rw[←this,List.getElem?_take]at hj;split at hj
 ·rw[aLM]at hj;have:=h _ v hj;rw[show 0+i*10+j=0+(i*10+j) by omega];exact this
 ·cases hj


end L3
end Go.Fs
namespace Go.Fs
open Go.Proofs
namespace L3
open L1
open C3
theorem FA(s:Sc)(D:aA)(h4:s.ch.length=4)(h5:s.tk.length=4):Fn Tryz.prog 94 #[FQ s] D (fun _ v=>v=.int .i64 s.money):=by
 refine enter 5 Tryz.func94 rfl rfl rfl rfl fun h0=>C.s1<|Zw rfl (fun q1 E1 hE1 hB1=>Zh rfl<|L.n3<|Zi rfl Tf.f207_2 rfl<|bC (v:=.int .i64 s.money) rfl (k:=8) Tf.a3 rfl hB1 Yc (cD (sK h4 h5)) GT rfl trivial<|Zh rfl<|L.n5 ?_)
 exact leave1 rfl rfl rfl rfl (fun D hD=>rfl)
end L3
end Go.Fs
namespace Go.Fs
open Go.Proofs
namespace L3
open L1
open C3
def y3(F:Sc→Int)(b:aX)(k:Nat):Int×Int:=(C1.pB (((gW b 0 (eF b)).map fun x=>aEP x k).map F),C1.nQ (((gW b 0 (eF b)).map fun x=>aEP x k).map F))
def BF(F:Sc→Int)(ss:List Sc)(g:(Int×Int)×Bool):Prop:=(g.2=true∧ss=[]∧g.1=(0,0))∨(g.2=false∧ss≠[]∧g.1=(C1.pB (ss.map F),C1.nQ (ss.map F)))
theorem MA{l:List Int}{x:Int}(h:l≠[]):C1.pB (l++[x])=min (C1.pB l) x:=by
 cases l with
 |nil=>exact absurd rfl h
 |cons a l=>show(l++[x]).foldl min a=_;rw[aLE];rfl
theorem PM{l:List Int}{x:Int}(h:l≠[]):C1.nQ (l++[x])=max (C1.nQ l) x:=by
 cases l with
 |nil=>exact absurd rfl h
 |cons a l=>show(l++[x]).foldl max a=_;rw[aLE];rfl
theorem BF.add{F:Sc→Int}{ss:List Sc}{r r':Int×Int}{fb:Bool}{s u:Sc}(h:BF F ss (r,fb))(e:s=u)(hc:(fb=true∧r'=(F u,F u))∨(fb=false∧r'=r)):BF F (ss++[s]) ((min r'.1 (F u),max r'.2 (F u)),false):=by
 subst e;refine aJE ⟨rfl,by simp,?_⟩;rcases hc with⟨h1,rfl⟩|⟨h1,rfl⟩
 ·rcases h with⟨_,rfl,_⟩|⟨h2,_⟩
  ·simp[C1.pB,C1.nQ]
  ·simp only at h2;rw[h1]at h2;cases h2
 ·rcases h with⟨h2,_⟩|⟨_,h3,h4⟩
  ·simp only at h2;rw[h1]at h2;cases h2
  ·simp only at h4;subst h4;have hne:ss.map F≠[]:=by simpa using h3
   rw[aJN,aNE,MA hne,PM hne]
theorem BF.all{F:Sc→Int}{b:aX}{k:Nat}{r:Int×Int}{fb:Bool}(h:BF F ((gW b 0 (eF b)).map fun x=>aEP x k) (r,fb)):iU r=iU (y3 F b k):=by
 unfold y3;rcases h with⟨_,h1,h2⟩|⟨_,_,h2⟩
 ·rw[h1];simp only at h2;rw[h2];rfl
 ·simp only at h2;rw[h2]
theorem d7{b:aX}{fine:Bool}(h:sH b fine=0):aT b=0∧fine=true:=by
 unfold sH at h;split at h
 ·rename_i hf;exact absurd h hf
 ·rename_i hf;split at h
  ·omega
  ·rename_i h2;exact⟨by simpa using hf,by simpa using h2⟩
theorem HZ(F:Sc→Int)(bv:Value)(b:aX)(k:Nat)(fo:FuncId)(D:aA)(hb:fW D bv b)(hbo:MZ b)(hk:k≤b.lines.length)
  (hq:∀s D,s.ch.length=4→s.tk.length=4→Fn Tryz.prog fo #[FQ s] D (fun _ v=>v=.int .i64 (F s))):
  Fn Tryz.prog 93 #[bv,.int .i64 (k:Int),.func (.func fo) #[] #[]] D (fun _ v=>v=iU (y3 F b k)):=by
 have hb0:=hb;obtain⟨lv,cv,rfl,hl,hc⟩:=hb;have hch:=hbo.ch;have hl8:=hbo.l8;refine m8 29 Tryz.func93 rfl rfl rfl rfl (fun h0=>C.s1<|Zw rfl (fun q1 E1 hE1 hB1=>Zw rfl (fun q2 E2 hE2 hB2=>Zw rfl (fun q3 E3 hE3 hB3=>Zx rfl Tf.z65 rfl (fun q4=>L.n3<|Zx rfl Tf.z4 rfl (fun q5=>Zn rfl Tf.s4 (bM.head) rfl<|L.n4<|Zr rfl Tf.a36 rfl hB1 Tf.s36<|Zt rfl (fun D1 hD1=>FG _ b _ (hb0.up (hD1 _ Ye)) hbo) (fun v1 D1 hD1 hp1=>?_)))))));refine L.n1<|Zaj ?_;obtain⟨br,rfl,hit⟩:=hp1;refine m4 (γ:=(Int×Int)×Bool) (xs:=gW b 0 (eF b)) (enc:=KE b.lines.length) (cells:=bO) (Dr:=D1) (fun pre g=>BF F (pre.map fun x=>aEP x k) g) (fun _ _ _=>False) (fun g=>[(q5,.cells [.bool g.2].toArray 4 (0,0)),(q4,.cells [.int .i64 g.1.1,.int .i64 g.1.2].toArray 65 (0,0))]) ((0,0),true) rfl rfl (fun _ k hk=>by cases hk) rfl hit Ye (fun _ vs h=>by obtain⟨_,rfl⟩:=h;rfl) rfl (aJQ ⟨rfl,rfl,rfl⟩) rfl ?_ ?_ (fun _ _ _ _ h=>h.elim)
 ·rintro pre x ⟨r,fb⟩ ⟨us,hx⟩ hV l bd bo vs rec hh D7 hD7 ⟨blo,rfl⟩ hbo_ hst hpend;obtain⟨hxl,hx4,hpl⟩:=QK hbo hx;have hsl:=aEU hbo_ hxl hx4 Yd;obtain⟨u,hu⟩:=C.ge x k;have hau:aEP x k=u:=aGE hu;obtain⟨hu4,hu5⟩:=hx4 u (aJA hu);have hx10:=tW hu4 hu5;refine C.rg<|Zh rfl<|Zab ?_;refine fun a w hhh=>rF (A:=[(_,_),(_,_)]) (B:=[(bd,.deferred (some []))]) (r:=rec) (l:=l) (by rfl) hst ?_ a w hhh
  simp only[aLO,aKF];refine Zaj<|aM<|C.drawA [] 3 7 30 (fun _ _ _ h=>h)<|Zf 0 rfl Tf.a208 rfl hB3 rfl<|Za rfl<|Zf 0 rfl Tf.a3 rfl hB2 rfl<|Zs rfl U303 Tf.s207 rfl hsl rfl hu (fun b1 o1 cs1 hr1 hcl1 hA1=>?_);obtain rfl:cs1=ints (lL _):=hr1;refine cQ rfl Tf.a207 rfl hA1 Yj (by rw[show(ints _).length=10 by simp[hx10]];exact Tf.s207) GT rfl trivial<|Zd rfl (fun D2 hD2=>hq u _ hu4 hu5)<|Zh rfl<|L.n4<|Zl rfl Tf.a4 rfl (List.Mem.head _) rfl<|L.n1<|aJ rfl (fun hc1=>?_) (fun hc1=>?_)
  ·refine C.rg<|Za rfl<|Za rfl<|Zq [.int .i64 (F u),.int .i64 (F u)] rfl Tf.p65 Tf.z65 rfl rfl<|Zv rfl Tf.s65 (.tail (bM.head))<|Zn rfl Tf.s4 (bM.head) rfl<|L.n1<|C.rg<|Zu rfl Tf.a65 rfl (List.Mem.tail _ (List.Mem.head _)) Tf.s65<|Za rfl<|Zd rfl (fun D3 hD3=>V8 (_,_) _ _)<|Zv rfl Tf.s65 (.tail (bM.head)) ?_;refine Zab<|Zal ?_;exact fun a w hh=>fN (A:=[(_,_),(_,_)]) (B:=[(bd,.deferred (some []))]) ((min (F u,F u).1 (F u),max (F u,F u).2 (F u)),false) (by simpa using hV.add hau (aJQ ⟨hc1,rfl⟩)) rfl rfl a w hh
  ·obtain rfl:fb=false:=hc1;refine C.kn<|C.rg<|Zu rfl Tf.a65 rfl (List.Mem.tail _ (List.Mem.head _)) Tf.s65<|Za rfl<|Zd rfl (fun D4 hD4=>V8 (_,_) _ _)<|Zv rfl Tf.s65 (.tail (bM.head))<|Zab<|Zal ?_;exact fun a w hh=>fN (A:=[(_,_),(_,_)]) (B:=[(bd,.deferred (some []))]) ((min r.1 (F u),max r.2 (F u)),false) (by simpa using hV.add hau (aJE ⟨rfl,rfl⟩)) rfl rfl a w hh
 ·rintro⟨r,fb⟩ bd hV;refine Zal<|Zah<|C.s1<|Zu rfl Tf.a65 rfl (List.Mem.tail _ (List.Mem.head _)) Tf.s65<|Zv rfl Tf.s65 (.tail (bM.head))<|L.n5 ?_;exact rL (vs:=[_]) (A:=[(_,_),(_,_)]) rfl rfl rfl ⟨⟨_,_,_,rfl,(LT _ (GE _)),aJE ⟨Tf.a65,Tf.s65,rfl⟩⟩,aOJ⟩ (fun D hD=>hV.all)
theorem HQ(s:Sc)(D:aA)(h4:s.ch.length=4)(h5:s.tk.length=4):Fn Tryz.prog 95 #[FQ s] D (fun _ v=>v=.int .i64 s.mixed):=by
 refine enter 5 Tryz.func95 rfl rfl rfl rfl fun h0=>C.s1<|Zw rfl (fun q1 E1 hE1 hB1=>Zh rfl<|L.n3<|Zi rfl Tf.f207_3 rfl<|bC (v:=.int .i64 s.mixed) rfl (k:=9) Tf.a3 rfl hB1 Yc (cD (DM h4 h5)) GT rfl trivial<|Zh rfl<|L.n5 ?_)
 exact leave1 rfl rfl rfl rfl (fun D hD=>rfl)
theorem wI(bv:Value)(b:aX)(k:Int)(D:aA)(hb:fW D bv b):Fn Tryz.prog 49 #[bv,.int .i64 k] D (fun _ v=>v=.tuple #[iU (if sH b (C1.fR k 0 (b.lines.length:Int))=0 then y3 (fun s=>s.money) b k.toNat else(0,0)),.int .i64 (sH b (C1.fR k 0 (b.lines.length:Int)))]):=by
 have hb0:=hb;obtain⟨lv,cv,rfl,hl,hc⟩:=hb;have hll:=hl.len;refine enter 21 Tryz.func49 rfl rfl rfl rfl fun h0=>C.s1<|Zw rfl (fun q1 E1 hE1 hB1=>Zx rfl Tf.z65 rfl (fun q2=>Zh rfl<|L.n2<|aM<|C.drawA [] 4 8 62 (fun _ _ _ h=>cA (P:=Tryz.prog) (fn:=Tryz.f49) _ _ _ h)<|Zr rfl Tf.a36 rfl hB1 Tf.s36<|Za rfl<|Zi rfl Tf.f36_3 rfl<|Zf 3 rfl Tf.a33 rfl hB1 rfl ?_));refine aR rfl U33 rfl hl rfl rfl trivial<|Zd rfl (fun D1 hD1=>iE _ _ _ _)<|Zd rfl (fun D2 hD2=>V6 _ b (C1.fR k 0 (b.lines.length:Int)) _ (hb0.up (hD2 _ Ye)))<|Zh rfl<|L.n3<|Za rfl<|dZ rfl rfl rfl rfl trivial<|L.n1<|aE rfl (fun hc1=>?_) (fun hc1=>?_)
 ·refine C.s1<|Zq [.int .i64 0,.int .i64 0] rfl Tf.p65 Tf.z65 rfl rfl<|Za rfl<|Zv rfl Tf.s65 (bM.head)<|Zh rfl<|L.n5<|Zai ?_;exact Zm [_,_] rfl ⟨⟨_,_,_,rfl,(List.Mem.head _),Or.inr ⟨Tf.a65,(by first|exact Tf.s65|(simp only[aKH,aH, *];exact Tf.s65)),rfl⟩⟩,rfl,aOJ⟩ (fun D hD=>by show Value.tuple _=_;rw[aJM hc1];rfl)
 ·have he0:sH b (C1.fR k 0 (b.lines.length:Int))=0:=by omega
  obtain⟨hf0,hfi⟩:=d7 he0;have hbo:=aHD hf0;rw[C1.cG]at hfi;obtain⟨n,rfl⟩:∃n:Nat,k=(n:Int):=⟨k.toNat,by omega⟩
  refine C.kn<|C.s1<|Zr rfl Tf.a36 rfl hB1 Tf.s36<|Za rfl<|Zd rfl (fun D3 hD3=>HZ (fun s=>s.money) _ b n 94 _ (hb0.up (hD3 _ Ye)) hbo Yd (fun s D h4 h5=>FA s D h4 h5))<|Zv rfl Tf.s65 (bM.head)<|Zh rfl<|L.n5 ?_;exact Zm [_,_] rfl ⟨⟨_,_,_,rfl,(List.Mem.head _),Or.inr ⟨Tf.a65,(by first|exact Tf.s65|(simp only[aKH,aH, *];exact Tf.s65)),rfl⟩⟩,rfl,aOJ⟩ (fun D hD=>by show Value.tuple _=_;rw[aJT he0,he0];rfl)
theorem RV(bv:Value)(b:aX)(D:aA)(hb:fW D bv b):Fn Tryz.prog 50 #[bv] D (fun _ v=>v=.tuple #[iU (if sH b (true)=0 then y3 (fun s=>s.mixed) b b.lines.length else(0,0)),.int .i64 (sH b (true))]):=by
 have hb0:=hb;obtain⟨lv,cv,rfl,hl,hc⟩:=hb;have hll:=hl.len;refine enter 16 Tryz.func50 rfl rfl rfl rfl fun h0=>C.s1<|Zw rfl (fun q1 E1 hE1 hB1=>Zx rfl Tf.z65 rfl (fun q2=>Zh rfl<|L.n4<|Zr rfl Tf.a36 rfl hB1 Tf.s36<|Zd rfl (fun D1 hD1=>V6 _ b (true) _ (hb0.up (hD1 _ Ye)))<|Zh rfl<|L.n3<|Za rfl<|dZ rfl rfl rfl rfl aOJ ?_));refine L.n1<|aE rfl (fun hc1=>?_) (fun hc1=>?_)
 ·refine C.s1<|Zq [.int .i64 0,.int .i64 0] rfl Tf.p65 Tf.z65 rfl rfl<|Za rfl<|Zv rfl Tf.s65 (bM.head)<|Zh rfl<|L.n5<|Zai ?_;exact Zm [_,_] rfl ⟨⟨_,_,_,rfl,(List.Mem.head _),Or.inr ⟨Tf.a65,(by first|exact Tf.s65|(simp only[aKH,aH, *];exact Tf.s65)),rfl⟩⟩,rfl,aOJ⟩ (fun D hD=>by show Value.tuple _=_;rw[aJM hc1];rfl)
 ·have he0:sH b (true)=0:=by omega
  obtain⟨hf0,hfi⟩:=d7 he0;have hbo:=aHD hf0;refine C.kn<|C.s1<|Zr rfl Tf.a36 rfl hB1 Tf.s36<|Zi rfl Tf.f36_3 rfl<|Zf 3 rfl Tf.a33 rfl hB1 rfl<|aR rfl U33 rfl hl rfl rfl trivial<|Zd rfl (fun D2 hD2=>HZ (fun s=>s.mixed) _ b b.lines.length 95 _ (hb0.up (hD2 _ Ye)) hbo Yd (fun s D h4 h5=>HQ s D h4 h5))<|Zv rfl Tf.s65 (bM.head)<|Zh rfl<|L.n5 ?_;exact Zm [_,_] rfl ⟨⟨_,_,_,rfl,(List.Mem.head _),Or.inr ⟨Tf.a65,(by first|exact Tf.s65|(simp only[aKH,aH, *];exact Tf.s65)),rfl⟩⟩,rfl,aOJ⟩ (fun D hD=>by show Value.tuple _=_;rw[aJT he0,he0];rfl)
end L3
end Go.Fs
namespace Go.Fs
open Go.Proofs
namespace L7
open C7
def fS(bh bc bo bY br n:Nat)(c:List Int):aC:=[(bh,.cells [.func (.func 242) #[] #[.pointer (some ⟨bc,0,none⟩),.pointer (some ⟨bY,0,none⟩),.pointer (some ⟨br,0,none⟩),.pointer (some ⟨bh,0,none⟩)]].toArray 191 (0,0)),(bc,.cells [.slice (some ⟨bo,0,none⟩) n n].toArray 315 (0,0)),(bo,.cells (ints c).toArray 101 (0,0))]
theorem oD{c pre:List Int}{i:Nat}{k:Int}(h:c.take (i+1)=pre++[k])(hl:pre.length=i):c.take i=pre:=by
 have:=aJS (List.take i) h;rw[List.take_take,aNH (Nat.le_succ i)]at this;rw[this,aKM Yd,aKC Yd]
def aAE(n bo:Nat):List Value:=[.slice (some ⟨bo,0,none⟩) n n]
def aBX(P:Program)(Dr:aA)(lo l n:Nat)(J Jx:List (List Int)→oK)(xs:List (List Int)):Prop:=∀pre x β D w bo,(∃r,xs=pre++x::r)→tJ lo D w→J pre β D w→(∀b∈β,b<w.heap.size)→Le Dr D→X1 β D w bo (ints x)→
    gD P l (aAE n bo) w fun b D' w'=>tJ lo D' w'∧sT β D w D' w'∧(if b then J (pre++[x]) β D' w' else Jx (pre++[x]) β D' w')
def xB(J Jx:List (List Int)→oK)(bh bc bo bY br n:Nat)(places:List Int)(pre:List Int)(i:Nat)(done:List (List Int))(v:Value)(J':oK)(μ':aC):Prop:=
 ∃b c',v=.bool b∧c'.length=3*n∧c'.take i=pre∧μ'=fS bh bc bo bY br n c'∧(if b=true then J'=J (done++(C1.cW (places.drop i)).map fun t=>pre++t)else ∃p,J'=Jx p)
def IM(p:Int)(ps pre:List Int)(k:Nat):List (List Int):=(List.range k).flatMap fun(m:Nat)=>if p=2∨p=(m:Int)then(C1.cW ps).map (fun t=>pre++(m:Int)::t)else []
theorem YV{p:Int}{ps pre:List Int}:IM p ps pre 0=[]:=rfl
theorem aGN{p:Int}{ps pre:List Int}{k:Nat}(h:¬(p=2∨p=(k:Int))):IM p ps pre (k+1)=IM p ps pre k:=by
 unfold IM;rw[aLG,aKE,aKV,aJM h,aJF]
theorem IK{p:Int}{ps pre:List Int}{k:Nat}(h:p=2∨p=(k:Int)):IM p ps pre (k+1)=IM p ps pre k++(C1.cW ps).map (fun t=>(pre++[(k:Int)])++t):=by
 unfold IM;rw[aLG,aKE,aKV,aJT h];simp
theorem IC{p:Int}{ps pre:List Int}:IM p ps pre 2=(C1.cW (p::ps)).map (fun t=>pre++t):=by
 rw[show C1.cW (p::ps)=(if p=2∨p=0 then(C1.cW ps).map (0:: ·)else [])++(if p=2∨p=1 then(C1.cW ps).map (1:: ·)else [])from rfl];unfold IM;rw[show List.range 2=[0,1]from rfl,aKR,aKR,List.flatMap_nil,aJF,aJN];congr 1
 ·by_cases h:p=2∨p=0
  ·rw[aJT h,aJT Yai];simp
  ·rw[aJM h,aJM Yai];rfl
 ·by_cases h:p=2∨p=1
  ·rw[aJT h,aJT Yai];simp
  ·rw[aJM h,aJM Yai];rfl
theorem YY{p:Int}{ps pre:List Int}{k:Nat}(hk:k<2):∃r,IM p ps pre 2=IM p ps pre (k+1)++r:=by
 have e:k=0∨k=1:=by omega
 rcases e with rfl|rfl
 ·refine⟨[1].flatMap fun(m:Nat)=>if p=2∨p=(m:Int)then(C1.cW ps).map (fun t=>pre++(m:Int)::t)else [],?_⟩;unfold IM;rw[show List.range 2=[0]++[1]from rfl,aKE];rfl
 ·exact⟨[],by simp⟩
theorem XQ{c pre:List Int}{i:Nat}{k:Int}(hi:i<c.length)(h:c.take i=pre):(c.set i k).take (i+1)=pre++[k]:=by
 rw[aJP,List.getElem?_set_self hi,aLC,List.take_set_of_le (aJU _),h]
theorem ME{l:List Ch}{i:Nat}{p:Int}(h:(gS l)[i]?= some p):∃x,l[i / 3]?= some x∧x.parts.l[i%3]?= some p:=by
 induction l generalizing i with
 |nil=>simp[gS]at h
 |cons c l ih=>
  rw[show gS (c::l)=c.parts.a::c.parts.b::c.parts.c::gS l from rfl]at h;match i with
  |0=>exact⟨c,rfl,by simpa [Pt.l]using h⟩
  |1=>exact⟨c,rfl,by simpa [Pt.l]using h⟩
  |2=>exact⟨c,rfl,by simpa [Pt.l]using h⟩
  |j+3=>
   obtain⟨x,h1,h2⟩:=ih (i:=j) Yai;exact⟨x,by rw[show(j+3) / 3=j / 3+1 by omega];simpa using h1,by rw[show(j+3)%3=j%3 by omega];exact h2⟩
theorem wE{bh bc bo bY br n:Nat}{c:List Int}:(bo,Obj.cells (ints c).toArray 101 (0,0))∈fS bh bc bo bY br n c:=LT _ (LT _ (GE _))
theorem aGV(i:Nat):0+((i:Int) / 3).toNat*3+((i:Int)%3).toNat*1=i:=by omega
theorem qE{lo l:Nat}{J Jx:List (List Int)→oK}{y:bI}{xs:List (List Int)}{Dr Dy:aA}{Ds:List aA}{bh bc bo bY br:Nat}{cv qv:Value}(hn7:y.chairs.length≤7)
  (hs:∀pre,vE lo (J pre)) (hsx:∀pre,vE lo (Jx pre)) (hY:aBX Tryz.prog Dr lo l y.chairs.length J Jx xs) (hDr:Dr∈Ds) (hDy:Dy∈Ds) (hA:At Dr br 0 [cv,.int .i64 y.fit,qv]) (hc:Sl Dr rP 4 cv y.chairs) (hB:At Dy bY 0 [.func (.yield l) #[] #[]]):
  ∀(j i:Nat) (pre c:List Int) (done rest:List (List Int)) (iv:Int),iv=i→i+j=3*y.chairs.length→pre.length=i→c.length=3*y.chairs.length→c.take i=pre→
   xs=done++(C1.cW ((gS y.chairs).drop i)).map (fun t=>pre++t)++rest→
   aGP Tryz.prog 242 [.int .i64 iv,.pointer (some ⟨bc,0,none⟩),.pointer (some ⟨bY,0,none⟩),.pointer (some ⟨br,0,none⟩),.pointer (some ⟨bh,0,none⟩)] lo (J done) (fS bh bc bo bY br y.chairs.length c) Ds (xB J Jx bh bc bo bY br y.chairs.length (gS y.chairs) pre i done):=by
 intro j;induction j using Nat.strongRecOn with
 |_ j ih=>
 intro i pre c done rest iv hiv hij hl h9 hp hxs;subst hiv;have hmx:=hc.len;have hfl:=kT y.chairs;refine wG (μ:=fS bh bc bo bY br y.chairs.length c) 52 Tryz.func242 rfl rfl rfl rfl<|C.s1<|Zh rfl<|L.n3<|Za rfl<|VA rfl rfl rfl Yd Yd Yf rfl trivial<|Za rfl<|wM rfl rfl rfl Yd Yd Yf rfl trivial<|Zh rfl<|Zh rfl<|L.n4<|Za rfl ?_;refine Zl rfl Tf.a315 rfl (List.Mem.tail _ (List.Mem.head _)) rfl<|iC rfl U315 rfl rfl rfl trivial<|dJ rfl rfl rfl rfl trivial<|L.n1<|aE rfl (fun hc1=>?_) (fun hc1=>?_)
 ·have hin:i=3*y.chairs.length:=by omega
  subst hin;have hleaf:c=pre:=by rw[←hp,aKC Yd]
  rw[←hfl,List.drop_length]at hxs;simp only[C1.cW,aJY,aNC,aJF]at hxs;rw[←hleaf,aJL,aMU]at hxs;refine C.s1<|Zf 0 rfl Tf.a363 rfl hB rfl<|Zl rfl Tf.a315 rfl (List.Mem.tail _ (List.Mem.head _)) rfl<|d4 (l:=l) (J1:=J (done++[c])) (J0:=Jx (done++[c])) rfl rfl rfl rfl (hs _) (hsx _) (fun D w hd hJ hb hl=>hY done c _ D w bo ⟨rest,hxs⟩ hd hJ (fun b hbm=>by obtain⟨p,hp,rfl⟩:=aIY.1 hbm;exact bA (hb p hp).1) (hl _ hDr) ⟨aIY.2 ⟨_,wE,rfl⟩,(hb _ wE).2,_,_,(hb _ wE).1⟩) rfl aOJ (fun b1 J1 hJ1=>Zh rfl<|L.n5<|Zai ?_)
  exact hZ (P:=Tryz.prog) (fn:=Tryz.f242) (N:=52) (vs:=[_]) rfl rfl ⟨rfl,aOJ⟩ (fun D h=>⟨D,h,Le.refl D⟩) ⟨b1,c,rfl,h9,hp,rfl,by cases b1<;>simp only[hJ1,aLH,aKI,aLR];exact⟨_,rfl⟩;rw[←hfl,List.drop_length];simp[C1.cW,hleaf]⟩
 ·have hin:i<(gS y.chairs).length:=by omega
  obtain⟨p,hpi⟩:=C.ge (gS y.chairs) i;obtain⟨x,hx3,hm⟩:=ME hpi;have hx:y.chairs[((i:Int) / 3).toNat]?= some x:=by rw[show((i:Int) / 3).toNat=i / 3 by omega];exact hx3
  have hd:(gS y.chairs).drop i=p::(gS y.chairs).drop (i+1):=by rw[aLL hin];congr 1;exact aJZ ((aJC hin).symm.trans hpi)
  rw[hd,←IC]at hxs;refine C.kn<|C.s2<|Za rfl<|L.n1<|Zaj<|xU (γ:=Nat×List Int) (fun g=>2-g.1) (fun g=>g.1≤2∧g.2.length=3*y.chairs.length∧g.2.take i=pre) (fun g=>J (done++IM p ((gS y.chairs).drop (i+1)) pre g.1)) (fun g=>[(22,.int .i64 (g.1:Int))]) [(8,_),(7,_),(6,_),(0,_),(1,_),(3,_),(4,_)] (fun g=>fS bh bc bo bY br y.chairs.length g.2) (fun g=>Ds) (0,c) ⟨by simp,h9,hp⟩ (by simp[YV]) ⟨Yb,aOJ⟩ C.rs (LE _) (aD) ?_;rintro⟨k,c1⟩ ⟨h11,h91,hp1⟩;simp only at h11 h91 hp1;refine C.s1<|Zae rfl<|L.n2<|aE rfl (fun hc2=>?_) (fun hc2=>?_)
  ·refine C.kn<|aM<|Zaj<|C.s1<|Za rfl<|Zh rfl<|L.n3<|Zi rfl Tf.f40_0 rfl<|Zf 0 rfl Tf.a37 rfl hA rfl<|Za rfl<|Za rfl<|Zs rfl U37 Tf.s103 rfl hc rfl hx (fun b1 o1 cs1 hr1 hcl1 hA1=>?_);obtain rfl:cs1=[.int .i64 _,.int .i64 _,.int .i64 _,.int .i64 _]:=hr1;refine Zi rfl Tf.f103_1 rfl<|dT rfl U101 Tf.s3 rfl rfl Yd Yd rfl trivial<|bC (o:=_+1) (k:=((i:Int)%3).toNat*1) rfl Tf.a3 rfl hA1.tail Yj (by rw[show((i:Int)%3).toNat=i%3 by omega];exact aEB hm) GT rfl trivial<|Zh rfl<|L.n3<|Za rfl<|dJ rfl rfl rfl rfl trivial<|Za rfl ?_
   refine' L.orK 4 (s:=35) (p:=39) rfl (fun hg1=>?_) (fun hg1=>?_) ?_;rotate_left
   ·refine Zb rfl<|Zb rfl<|dJ rfl rfl rfl rfl ⟨_,rfl,rfl⟩<|Zad rfl ?_;exact L.cu 3
   ·refine Zk rfl<|Zk rfl<|Zk rfl<|Zac rfl ?_;exact L.cu 3
   refine L.n1<|aJ rfl (fun hc3=>?_) (fun hc3=>?_)
   ·have hpk:p=2∨p=(k:Int):=by simpa using hc3
    obtain⟨rr,hr⟩:=YY (p:=p) (ps:=(gS y.chairs).drop (i+1)) (pre:=pre) (k:=k) Yd;refine C.s1<|Zl rfl Tf.a315 rfl (List.Mem.tail _ (List.Mem.head _)) rfl<|Za rfl<|Za rfl<|Za rfl<|fD rfl U315 Tf.s101 rfl rfl Yd Yd rfl trivial<|dT rfl U101 Tf.s3 rfl rfl Yd Yd rfl trivial<|pZ (k:=i) rfl Tf.s3 (by show some (Value.pointer (some ⟨bo,0+((i:Int) / 3).toNat*3+((i:Int)%3).toNat*1,none⟩))=_;rw[aGV]) rfl (.tail (.tail bM.head)) Yl trivial<|L.n3<|Zl rfl Tf.a191 rfl (List.Mem.head _) rfl<|Za rfl<|Zy rfl ?_;refine oN rfl rfl rfl rfl (ih (j-1) Yd (i+1) (pre++[(k:Int)]) (c1.set i k) (done++IM p ((gS y.chairs).drop (i+1)) pre k) (rr++rest) (i+1:Int) Yd Yd Yaf (by simpa using h91) (XQ Yd hp1) (by rw[hxs,hr,IK hpk];simp)) rfl aOJ ?_
    rintro _ J2 _ ⟨b2,c2,rfl,h9',hp',rfl,hJ2⟩;refine Zag rfl<|L.n1<|aJ rfl (fun hc4=>?_) (fun hc4=>?_)
    ·obtain rfl:b2=false:=by simpa using hc4
     refine C.s1<|Zh rfl<|L.n5<|Zam<|Zai<|Zai<|Zam<|Zai ?_;exact hZ (P:=Tryz.prog) (fn:=Tryz.f242) (N:=52) (vs:=[_]) rfl rfl ⟨rfl,aOJ⟩ (fun D h=>⟨D,h,Le.refl D⟩) ⟨false,c2,rfl,h9',oD hp' hl,rfl,by simpa using hJ2⟩
    ·obtain rfl:b2=true:=by simpa using hc4
     refine bQ<|Zal<|Zah<|C.rg<|Zy rfl<|Za rfl<|Zab ?_;exact mG 30 (k+1,c2) ⟨by simp only;omega,h9',oD hp' hl⟩ Yl (by simpa only[aLH,IK hpk,aJL]using hJ2) ⟨Yb,aOJ⟩ rfl rfl (LE _) (aD)
   ·have hpk:¬(p=2∨p=(k:Int)):=by simpa using hc3
    refine bQ<|Zal<|Zah<|C.rg<|Zy rfl<|Za rfl<|Zab ?_;exact mG 19 (k+1,c1) ⟨by simp only;omega,h91,hp1⟩ Yl (by rw[aGN hpk]) ⟨Yb,aOJ⟩ rfl rfl (LE _) (aD)
  ·refine aQ<|Zak<|Zak<|Zan<|Zah<|C.s1<|Zh rfl<|L.n5 ?_;exact hZ (P:=Tryz.prog) (fn:=Tryz.f242) (N:=52) (vs:=[_]) rfl rfl ⟨rfl,aOJ⟩ (fun D h=>⟨D,h,Le.refl D⟩) ⟨true,c1,rfl,h91,hp1,rfl,by simp only[aLH];rw[hd,←IC,show k=2 by omega]⟩
theorem vG(y:bI)(Dr:aA)(br:Nat)(cv qv:Value)(hn7:y.chairs.length≤7)(hA:At Dr br 0 [cv,.int .i64 y.fit,qv])(hc:Sl Dr rP 4 cv y.chairs):
  JU Tryz.prog 241 [.pointer (some ⟨br,0,none⟩)] Dr (C1.cW (gS y.chairs)) (aAE y.chairs.length) ints:=by
 refine EL 12 Tryz.func241 rfl rfl rfl rfl (fun lo l J Jx hs hsx hY=>C.s1<|Zw rfl (fun q1 E1 hE1 hB1=>L.n3<|Zi rfl Tf.f40_0 rfl<|Zf 0 rfl Tf.a37 rfl hA rfl<|aR rfl U37 rfl hc rfl rfl trivial<|aN rfl U315 Tf.s101 Tf.z101 rfl Tf.i101 rfl rfl Yd (aV Ye rfl) rfl aOJ (fun bo=>Zx rfl Tf.z315 rfl (fun q2=>Zn rfl Tf.s315 (bM.head) rfl<|L.n3<|Zx rfl Tf.z191 rfl (fun q3=>?_)))));refine L.n3<|bB rfl rfl rfl rfl trivial<|Zn rfl Tf.s191 (bM.head) rfl<|L.n1<|C.rg<|Zl rfl Tf.a191 rfl (List.Mem.head _) rfl<|oN rfl rfl rfl rfl (qE (l:=l) hn7 hs hsx hY Ye Ye hA hc hB1 (3*y.chairs.length) 0 [] (List.replicate (y.chairs.length*3) 0) [] [] 0 rfl Yd rfl Yaf rfl Ye) rfl aOJ ?_;rintro _ J2 _ ⟨b2,c2,rfl,h9',hp',rfl,hJ2⟩;refine Zab ?_;exact hZ (P:=Tryz.prog) (fn:=Tryz.f241) (N:=12) (vs:=[]) rfl rfl aOJ (fun D h=>⟨D,by simp only[aJR]at h;subst h;simp,Le.refl D⟩) (by cases b2<;>simp at hJ2;exact aJE hJ2;exact aJQ hJ2)
theorem uI(yv:Value)(y:bI)(D:aA)(hy:lO D yv y)(hn7:y.chairs.length≤7):
  Fn Tryz.prog 161 #[yv] D (fun D' v=>∃br,v=.func (.func 241) #[] #[.pointer (some ⟨br,0,none⟩)]∧JU Tryz.prog 241 [.pointer (some ⟨br,0,none⟩)] D' (C1.cW (gS y.chairs)) (aAE y.chairs.length) ints):=by
 obtain⟨cv,qv,rfl,hc,hq⟩:=hy;refine enter 4 Tryz.func161 rfl rfl rfl rfl fun h0=>C.s1<|Zw rfl (fun q1 E1 hE1 hB1=>Zh rfl<|L.n3<|bB rfl rfl rfl rfl trivial<|Zh rfl<|L.n5 ?_)
 exact leave1 rfl rfl rfl rfl (fun D hD=>⟨_,rfl,vG y _ q1 cv qv hn7 (hB1.up (hD _ Ye)) (hc.up rP.up (hD _ Ye))⟩)
end L7
end Go.Fs
namespace Go.Fs
open Go.Proofs
namespace L7
open C7
def vK(s:Sc):List Int:=(s.whole:Int)::(s.broken:Int)::s.fits.map fun n:Nat=>(n:Int)
theorem nD(s:Sc)(h:s.fits.length=7):(vK s).length=9:=by simp[vK,h]
theorem WJ(s:Sc):FQ s=.agg (ints (vK s)).toArray:=by
 unfold FQ F9 vK ints;rw[aJY,aJY,aNT];rfl
theorem ZH{s s':Sc}(h:vK s=vK s'):s=s':=by
 obtain⟨a,b,c⟩:=s;obtain⟨a',b',c'⟩:=s';simp only[vK,aLN]at h;obtain⟨h1,h2,h3⟩:=h;rw[yP h3,show a=a' by omega,show b=b' by omega]
def xD(acc:List (Sc×Nat)):List Int:=match acc.getLast? with
 |some p=>vK p.1
 |none=>[]
def mY(y:bI)(out:List Int)(acc:List (Sc×Nat))(t:List Pt):List (Sc×Nat):=
 if(mR y.claims out (oR y.chairs.length (dG y t):Int)&&(decide ((acc.length:Int)=0)|| !(xD acc==vK (dG y t))))=true then acc++[(dG y t,oR y.chairs.length (dG y t))]else acc
def fO(y:bI)(out:List Int)(pre:List (List Int)):List (Sc×Nat):=(pre.map vX).foldl (mY y out) []
def eR(y:bI)(out:List Int):List (Sc×Nat):=(j8 y).foldl (mY y out) []
theorem yV(y:bI)(out:List Int):fO y out (C1.cW (gS y.chairs))=eR y out:=rfl
theorem R0(y:bI)(out:List Int)(pre:List (List Int))(x:List Int):fO y out (pre++[x])=mY y out (fO y out pre) (vX x):=by
 unfold fO;rw[aJN,aLE];rfl
theorem QH(y:bI)(out:List Int)(acc:List (Sc×Nat))(t:List Pt):(mY y out acc t).length≤acc.length+1:=by
 unfold mY;split
 ·simp
 ·omega
theorem Y6(y:bI)(out:List Int)(pre:List (List Int)):(fO y out pre).length≤pre.length:=by
 have key:∀(l:List (List Pt)) (acc:List (Sc×Nat)),(l.foldl (mY y out) acc).length≤acc.length+l.length:=by
  intro l;induction l with
  |nil=>intro acc;simp
  |cons t l ih=>intro acc;rw[aLK];have:=ih (mY y out acc t);have:=QH y out acc t;rw[aJD];omega
 have:=key (pre.map vX) [];simpa [fO]using this
theorem L8(y:bI)(out:List Int)(pre:List (List Int)):∀p∈fO y out pre,p.1.fits.length=7:=by
 have key:∀(l:List (List Pt)) (acc:List (Sc×Nat)),(∀p∈acc,p.1.fits.length=7)→∀p∈l.foldl (mY y out) acc,p.1.fits.length=7:=by
  intro l;induction l with
  |nil=>intro acc h;exact h
  |cons t l ih=>
   intro acc h;rw[aLK];refine ih _ fun p hp=>?_
   unfold mY at hp;split at hp
   ·rcases aJO.1 hp with hp|hp
    ·exact h p hp
    ·simp only[aJR]at hp;subst hp;simp[dG]
   ·exact h p hp
 exact key _ [] Ye
def yC(l:List Sc):List Value:=l.flatMap fun s=>ints (vK s)
theorem DL{l:List Sc}(h:∀s∈l,s.fits.length=7):(yC l).length=l.length*9:=by
 induction l with
 |nil=>rfl
 |cons c l ih=>
  have:=ih fun s hs=>h s (aJB _ hs)
  unfold yC at this ⊢
  rw[aKR,aIX,this,aH,nD c (h c aJH),aJD];omega
theorem K0{acc:List (Sc×Nat)}(h:∀p∈acc,p.1.fits.length=7):(yC (acc.map fun p=>p.1)).length=acc.length*9:=by
 rw[DL fun s hs=>by obtain⟨p,hp,rfl⟩:=aIY.1 hs;exact h p hp,aLA]
theorem CK{l:List Sc}(h:∀s∈l,s.fits.length=7){i:Nat}{s:Sc}(hi:l[i]?= some s)(junk:List Value):((yC l++junk).drop (i*9)).take 9=ints (vK s):=by
 induction l generalizing i with
 |nil=>simp at hi
 |cons d l ih=>
  have h9:(ints (vK d)).length=9:=by rw[aH,nD d (h d aJH)]
  have hc:yC (d::l)=ints (vK d)++yC l:=rfl;rw[hc,aJL];cases i with
  |zero=>
   obtain rfl:d=s:=by simpa using hi
   rw[aNF,aMS,aKM Yd,aKC Yd]
  |succ i=>
   rw[aMY,aKK Yd,aKF,show(i+1)*9-(ints (vK d)).length=i*9 by omega];exact ih (fun s hs=>h s (aJB _ hs)) Yaj
def DW:Rd Sc:=fun _ s cs=>cs=ints (vK s)
theorem DW.up:DW.Up:=fun _ _ _ h=>h
theorem _root_.Go.Fs.jN.scs{D:aA}{v:Value}{n:Nat}{acc:List (Sc×Nat)}(hF:jN D v n (yC (acc.map fun p=>p.1)))(hn:(acc.map fun p=>p.1).length=n)(hb:n≤9223372036854775807)(h:∀p∈acc,p.1.fits.length=7:=by assumption):Sl D DW 9 v (acc.map fun p=>p.1):=by
 have h':∀s∈acc.map (fun p=>p.1),s.fits.length=7:=fun s hs=>by obtain⟨p,hp,rfl⟩:=aIY.1 hs;exact h p hp
 exact hF.sl hn hb fun i s hi=>⟨_,rfl,by rw[aH,nD s (h' s (aJA hi))],by have:=CK h' hi [];rwa [aJF]at this⟩
theorem e5{acc:List (Sc×Nat)}(h:∀p∈acc,p.1.fits.length=7)(hne:acc≠[]):(xD acc).length=9:=by
 unfold xD;rw[aMI hne];exact nD _ (h _ (List.getLast_mem hne))
theorem RJ{acc:List (Sc×Nat)}(h:∀p∈acc,p.1.fits.length=7)(hne:acc≠[])(junk:List Value):((yC (acc.map fun p=>p.1)++junk).drop (0+(((acc.length:Int)-1).toNat)*9)).take 9=ints (xD acc):=by
 have h':∀s∈acc.map (fun p=>p.1),s.fits.length=7:=fun s hs=>by obtain⟨p,hp,rfl⟩:=aIY.1 hs;exact h p hp
 have hpos:=aMH.2 hne;unfold xD;rw[aMI hne,aMC];refine CK h' ?_ junk;rw[aKA,show((acc.length:Int)-1).toNat=acc.length-1 by omega,←List.getLast?_eq_getElem?,aMI hne];rfl
theorem aDV{D:aA}{bo n:Nat}{x:List Int}(h:At D bo 0 (ints x))(hx:x.length=3*n)(hn:n≤7):Sl D RP 3 (.slice (some ⟨bo,0,none⟩) n n) (vX x):=by
  obtain⟨h1,h2⟩:=i6 _ _ hx;have hle:n≤9223372036854775807∨True:=aJE trivial;have key:∀(l:List Pt) (i:Nat) (p:Pt),l[i]?= some p→((ints (C7.kA l)).drop (i*3)).take 3=[.int .i64 p.a,.int .i64 p.b,.int .i64 p.c]:=by
    intro l;induction l with
    |nil=>intro i p hi;simp at hi
    |cons d l ih=>
      intro i p hi;cases i with
      | zero => obtain rfl : d = p := by simpa using hi
                rfl
      |succ i=>
        rw[C7.oE,show(i+1)*3=i*3+3 by omega];exact ih i p Yaj
  refine⟨_,n,by rw[h2],by omega,?_,aJE ⟨bo,0,rfl,fun i p hi=>⟨_,rfl,rfl,fun j v hj=>?_⟩⟩⟩
  · rw[h2];omega
  · have:=key _ _ _ hi;rw[h1]at this;rw[←this,List.getElem?_take]at hj;split at hj
    · rw[aLM]at hj;have:=h _ v hj;rw[show 0+i*3+j=0+(i*3+j) by omega];exact this
    · cases hj
def aBU(y:bI)(out:List Int)(pre:List (List Int))(g:Array MapEntry×Nat×List (pG 8×Int)×Value×aC×Value×aC):Prop:=
 qA A4 g.1 g.2.2.1∧T1 y.chairs.length g.2.2.1∧bL 319 9 g.2.2.2.1 (fO y out pre).length (yC ((fO y out pre).map fun p=>p.1)) g.2.2.2.2.1∧bL 3 1 g.2.2.2.2.2.1 (fO y out pre).length (ints ((fO y out pre).map fun p=>(p.2:Int))) g.2.2.2.2.2.2
theorem x4{y:bI}{out:List Int}{pre:List (List Int)}{x:List Int}{es:Array MapEntry}{cl:Nat}{M:List (pG 8×Int)}{v u:Value}{ν ω:aC}(hM:qA A4 es M)(hok:T1 y.chairs.length M)
  (hc:(mR y.claims out (oR y.chairs.length (dG y (vX x)):Int)&&(decide (((fO y out pre).length:Int)=0)|| !(xD (fO y out pre)==vK (dG y (vX x)))))=true)
  (h1:bL 319 9 v ((fO y out pre).length+1) (yC ((fO y out pre).map fun p=>p.1)++ints (vK (dG y (vX x)))) ν) (h2:bL 3 1 u ((fO y out pre).length+1) (ints ((fO y out pre).map fun p=>(p.2:Int))++[.int .i64 (oR y.chairs.length (dG y (vX x)):Int)]) ω):aBU y out (pre++[x]) (es,cl,M,v,ν,u,ω):=by
 have e:fO y out (pre++[x])=fO y out pre++[(dG y (vX x),oR y.chairs.length (dG y (vX x)))]:=by
  rw[R0,mY,aJT hc]
 unfold aBU;rw[e];refine⟨hM,hok,?_,?_⟩
 ·simpa [yC]using h1
 ·simpa [ints]using h2
theorem aFX{y:bI}{out:List Int}{pre:List (List Int)}{x:List Int}{es:Array MapEntry}{cl:Nat}{M:List (pG 8×Int)}{v u:Value}{ν ω:aC}(hM:qA A4 es M)(hok:T1 y.chairs.length M)
  (hc:(mR y.claims out (oR y.chairs.length (dG y (vX x)):Int)&&(decide (((fO y out pre).length:Int)=0)|| !(xD (fO y out pre)==vK (dG y (vX x)))))=false)
  (h1:bL 319 9 v (fO y out pre).length (yC ((fO y out pre).map fun p=>p.1)) ν) (h2:bL 3 1 u (fO y out pre).length (ints ((fO y out pre).map fun p=>(p.2:Int))) ω):aBU y out (pre++[x]) (es,cl,M,v,ν,u,ω):=by
 have e:fO y out (pre++[x])=fO y out pre:=by
  rw[R0,mY,aJM (by rw[hc];simp)]
 unfold aBU;rw[e];exact⟨hM,hok,h1,h2⟩
theorem BT{y:bI}(h:y.chairs.length≤7):(C1.cW (gS y.chairs)).length≤2097152:=by
 have h1:=C1.sN (gS y.chairs);have h2:2^(gS y.chairs).length≤2^21:=aMR Yd (by rw[kT];omega)
 omega
theorem tU{l x:List Int}{pre r:List (List Int)}(h:C1.cW l=pre++x::r):x.length=l.length∧(∀n∈x,0≤n∧n≤1)∧pre.length<(C1.cW l).length:=by
 have hm:x∈C1.cW l:=by rw[h];simp
 exact⟨(C1.nC hm).1,(C1.nC hm).2,by rw[h];simp⟩
theorem VD{x:List Int}(h:∀n∈x,0≤n∧n≤1)(hg:C7.kA (vX x)=x):∀p∈vX x,W6 p:=fun p hp=>by
 have:∀n∈p.l,n∈x:=fun n hn=>by rw[←hg];exact aOG.2 ⟨p,hp,hn⟩
 exact⟨h _ (this _ (by simp[Pt.l])),h _ (this _ (by simp[Pt.l])),h _ (this _ (by simp[Pt.l]))⟩
theorem aCH(A ν ω T:aC):A++(ν++(ω++T))=A++(ν++ω)++T:=by simp
theorem aIT(A ν ω T:aC):A++((ν++ω)++T)=A++ν++(ω++T):=by simp
theorem aDO{a b c d:Nat}{l:List Nat}:∀k∈[c,d],k∈a::b::c::d::l:=fun k hk=>by
 simp only[aIW,GT,aLT]at hk ⊢
 rcases hk with rfl|rfl
 ·exact aJE (aJE (aJQ rfl))
 ·exact aJE (aJE (aJE (aJQ rfl)))
theorem aIN{A B ν ω C:aC}{k:Nat}(h:(((A++B)++(ν++(ω++C))).map fun p=>p.1).Nodup)(hk:k∈(A++B).ks):k∉ν.ks++ω.ks:=by
 rw[aJN,aJN,aJN,aJJ]at h;intro hm;refine h.2.2 k (by simpa using hk) k ?_ rfl;rcases aJO.1 hm with hm|hm
 ·exact aJG _ hm
 ·rw[aJN];exact aIZ _ (aJG _ hm)
theorem UR{n:Nat}{s:Sc}(h:DJ n s)(hn:n≤7):oR n s≤200:=by
 have h1:=ED s.fits n s.broken;have h2:=g7 h.bits hn;have h3:=h.whole;unfold oR;omega
theorem aEX:KS Tryz.prog 319 9:=by
 have hf:(Tryz.prog.fieldsOf 319).toList=[(Tryz.prog.fieldsOf 319)[0]!,(Tryz.prog.fieldsOf 319)[1]!,(Tryz.prog.fieldsOf 319)[2]!]:=by kernel_rfl
 refine⟨by kernel_rfl,by kernel_rfl,by kernel_rfl,?_⟩;rw[hf];refine .cons (sV.int (by decide+kernel) Yg Yg) (.cons (sV.int (by decide+kernel) Yg Yg) (.cons (n:=7) (sV.arr (e:=3) (by decide+kernel) Yg Yg Yg Yg ?_ ?_) .nil))
 ·rw[show((Tryz.prog.fieldsOf 319)[2]!).type=317 by kernel_rfl];exact Tf.a317
 ·rw[show((Tryz.prog.fieldsOf 319)[2]!).type=317 by kernel_rfl];exact Tf.s317
theorem MF(yv tv:Value)(y:bI)(t:List Pt)(D:aA)(hy:lO D yv y)(ht:Sl D RP 3 tv t)(hlen:t.length=y.chairs.length)(h7:t.length≤7)(hb:∀p∈t,W6 p)(hf:0≤y.fit∧y.fit≤9)(hs:∀c∈y.chairs,0≤c.size∧c.size≤9):Fn Tryz.prog 162 #[yv,tv] D (fun _ v=>v=.agg (ints (vK (dG y t))).toArray):=by
 rw[←WJ];exact RL yv tv y t D hy ht hlen h7 hb hf hs
theorem YE(wb mb:Nat)(cv qv:Value)(fit:Int)(chs:List Ch)(s:Sc)(hn7:chs.length≤7)(hs:DJ chs.length s)(es:Array MapEntry)(clock:Nat)(M:List (pG 8×Int))(D:aA)(hS:Sl D rP 4 cv chs)(hM:qA A4 es M)(hok:T1 chs.length M):
  S3 Tryz.prog 163 [.pointer (some ⟨wb,0,none⟩),.agg (ints (vK s)).toArray] D [(wb,.cells [cv,.int .i64 fit,qv,.map (some mb)].toArray 311 (0,0)),(mb,.map es clock)] (fun _ v ν'=>v=.int .i64 (oR chs.length s:Int)∧∃es' clock' M',ν'=[(wb,.cells [cv,.int .i64 fit,qv,.map (some mb)].toArray 311 (0,0)),(mb,.map es' clock')]∧qA A4 es' M'∧T1 chs.length M'):=by
 rw[←WJ];exact aAK wb mb cv qv fit chs s hn7 hs es clock M D hS hM hok
theorem Z8(wb mb:Nat)(cv qv:Value)(y:bI)(out:List Int)(ov:Value)(hn7:y.chairs.length≤7)(hft:0≤y.fit∧y.fit≤9)(hsz:∀c∈y.chairs,0≤c.size∧c.size≤9)(es0:Array MapEntry)(clock0:Nat)(M0:List (pG 8×Int))(D:aA)(hS:Sl D rP 4 cv y.chairs)(hq:Sl D R2 2 qv y.claims)(ho:Sl D RI 1 ov out)(hM0:qA A4 es0 M0)(hok0:T1 y.chairs.length M0):
  S3 Tryz.prog 98 [.pointer (some ⟨wb,0,none⟩),ov] D [(wb,.cells [cv,.int .i64 y.fit,qv,.map (some mb)].toArray 311 (0,0)),(mb,.map es0 clock0)] (fun D' v ν'=>∃sv mv,v=.tuple #[sv,mv]∧Sl D' DW 9 sv ((eR y out).map fun p=>p.1)∧Sl D' RI 1 mv ((eR y out).map fun p=>(p.2:Int))∧∃es' clock' M',ν'=[(wb,.cells [cv,.int .i64 y.fit,qv,.map (some mb)].toArray 311 (0,0)),(mb,.map es' clock')]∧qA A4 es' M'∧T1 y.chairs.length M'):=by
 obtain⟨oa,oc,rfl⟩:=ho.shape;refine FK 56 Tryz.func98 rfl rfl rfl rfl (fun h0 hwl hwn=>C.s1<|Zw rfl (fun q1 E1 hE1 hB1=>Zw rfl (fun q2 E2 hE2 hB2=>Zx rfl Tf.z210 rfl (fun q3=>Zx rfl Tf.z25 rfl (fun q4=>L.n4<|Zf 0 rfl Tf.a212 rfl hB1 rfl<|Zaf rfl<|Zi rfl Tf.f311_0 rfl<|dE rfl Tf.a40 Tf.s40 rfl (List.Mem.tail _ (List.Mem.tail _ (List.Mem.head _))) rfl rfl GT rfl trivial<|Zt rfl (fun D1 hD1=>uI _ y _ ⟨_,_,rfl,hS.up rP.up (hD1 _ Ye),hq.up R2.up (hD1 _ Ye)⟩ hn7) (fun v1 D1 hD1 hp1=>?_))))));refine L.n1<|Zaj ?_;obtain⟨br,rfl,hit⟩:=hp1;refine o7 (γ:=Array MapEntry×Nat×List (pG 8×Int)×Value×aC×Value×aC) (xs:=C1.cW (gS y.chairs)) (enc:=aAE y.chairs.length) (cells:=ints) (Dr:=D1) (aBU y out) (fun _ _ _=>False) (fun g=>(q4,.cells [g.2.2.2.2.2.1].toArray 25 (0,0))::(q3,.cells [g.2.2.2.1].toArray 210 (0,0))::(wb,.cells [cv,.int .i64 y.fit,qv,.map (some mb)].toArray 311 (0,0))::(mb,.map g.1 g.2.1)::(g.2.2.2.2.1++g.2.2.2.2.2.2)) (es0,clock0,M0,.slice none 0 0,[],.slice none 0 0,[]) rfl rfl (fun g k hk=>aJB _ (aJB _ (aJG (aC.ks _) hk))) rfl hit Ye (fun _=>rfl) rfl ⟨hM0,hok0,by simpa [fO,yC]using bL.nil,by simpa [fO,ints]using bL.nil⟩ rfl ?_ ?_ (fun _ _ _ _ h=>h.elim)
 ·rintro pre x ⟨es,clock,M,v,ν,u,ω⟩ ⟨us,hx⟩ ⟨hM,hok,ha1,ha2⟩ l bd bo rec hh D7 hD7 hbo hst hpend;simp only at hM hok ha1 ha2;obtain⟨hx3,hxb,hpl⟩:=tU hx;have hcap:=BT hn7;rw[kT]at hx3;have ht:=aDV hbo hx3 hn7;obtain⟨hg1,hg2⟩:=i6 _ _ hx3;have htl:(vX x).length=y.chairs.length:=hg2;have htb:=VD hxb hg1;have hsc:=Z2 htl Yd;have hpsl:=Y6 y out pre;have hmb:=UR hsc hn7;have hfit7:∀p∈fO y out pre,p.1.fits.length=7:=L8 y out pre;have hs9:=nD (dG y (vX x)) (by simp[dG]);refine C.rg<|Zh rfl<|Zab ?_;refine fun a w hhh=>rF (A:=[(_,_),(_,_),(_,_),(_,_)]++(ν++ω)) (B:=[(bd,.deferred (some []))]) (r:=rec) (l:=l) (by rfl) hst ?_ a w hhh
  refine PA ((q4,.cells [u].toArray 25 (0,0))::(q3,.cells [v].toArray 210 (0,0))::(wb,.cells [cv,.int .i64 y.fit,qv,.map (some mb)].toArray 311 (0,0))::(mb,.map es clock)::(ν++(ω++[(l,.loop {rec with state:=.busy}),(bd,.deferred (some []))]))) Ye<|rZ (fun hnd=>?_);simp only[aJY,aJN,aNC,aKW,aJJ,aIW,aJO,GT,not_or]at hnd;refine Zaj<|C.s1<|Zf 0 rfl Tf.a212 rfl hB1 rfl<|Zaf rfl<|Zi rfl Tf.f311_0 rfl<|dE rfl Tf.a40 Tf.s40 rfl (List.Mem.tail _ (List.Mem.tail _ (List.Mem.head _))) rfl rfl GT rfl trivial<|Za rfl<|Zd rfl (fun D2 hD2=>MF _ _ y (vX x) _ ⟨_,_,rfl,hS.up rP.up (hD2 _ Ye),hq.up R2.up (hD2 _ Ye)⟩ (ht.up RP.up (hD2 _ Ye)) htl Yd htb hft hsz)<|Zx rfl Tf.z319 rfl (fun q5=>aW rfl rfl rfl rfl Tf.s319 (by simpa using hs9) (by rfl) .head (cY _) trivial<|L.n3<|Zf 0 rfl Tf.a212 rfl hB1 rfl ?_);refine bJ (vs:=ints (vK (dG y (vX x)))) rfl Tf.a319 rfl (GE _) (by rw[show(ints (vK (dG y (vX x)))).length=9 by simpa using hs9];exact Tf.s319) GT rfl trivial<|aF ([(_,_),(_,_),(_,_)]++[(_,_),(_,_)]++(ν++(ω++[(l,_),(bd,_)]))) rfl<|eA (A:=[(_,_),(_,_),(_,_)]) (ν:=[(_,_),(_,_)]) (B:=ν++(ω++[(l,_),(bd,_)])) rfl rfl rfl rfl (aJQ rfl) (a8 (cs:=[_,_,_,_])) (fun D5 hD5=>YE wb mb cv qv y.fit y.chairs (dG y (vX x)) hn7 hsc es clock M D5 (hS.up rP.up (hD5 _ Ye)) hM hok) rfl aOJ (fun v5 D6 _ hD6 hp5=>?_)
  obtain⟨rfl,es1,cl1,M1,rfl,hM1,hok1⟩:=hp5;refine Zh rfl<|L.n2<|C.drawA [] 7 22 319536 (fun _ _ _ h=>h)<|Zf 0 rfl Tf.a212 rfl hB1 rfl<|Zaf rfl<|Zi rfl Tf.f311_0 rfl<|dE rfl Tf.a40 Tf.s40 rfl (List.Mem.tail _ (List.Mem.tail _ (List.Mem.tail _ (List.Mem.head _)))) rfl rfl GT rfl trivial<|Za rfl<|Zf 0 rfl Tf.a25 rfl hB2 rfl<|Zd rfl (fun D3 hD3=>J4 _ y _ _ out _ ⟨_,_,rfl,hS.up rP.up (hD3 _ Ye),hq.up R2.up (hD3 _ Ye)⟩ (ho.up RI.up (hD3 _ Ye)))<|Za rfl ?_;refine' L.anK 14 (s:=31) (p:=45) rfl (fun hg1=>?_) (fun hg1=>?_) ?_;rotate_left
  ·refine aS rfl Tf.a210 rfl (LT _ (LT _ (GE _))) rfl GT rfl ⟨_,rfl,rfl⟩<|dS rfl U210 rfl ha1 rfl rfl ⟨_,rfl,rfl⟩<|dJ rfl rfl rfl rfl ⟨_,rfl,rfl⟩<|Zb rfl ?_;refine' L.orK 9 (s:=35) (p:=44) rfl (fun hg2=>?_) (fun hg2=>?_) ?_;rotate_left
   ·have hne:fO y out pre≠[]:=fun e=>by rw[e]at hg2;simp at hg2
    have hpos:=aMH.2 hne;obtain⟨b5,cap5,junk5,rfl,hcp5,rfl,hl51,hl52⟩:=ha1.some hpos;refine aS rfl Tf.a210 rfl (LT _ (LT _ (GE _))) rfl GT rfl ⟨_,rfl,rfl⟩<|aS rfl Tf.a210 rfl (List.Mem.tail _ (List.Mem.tail _ (List.Mem.head _))) rfl GT rfl ⟨_,rfl,rfl⟩<|iC rfl U210 rfl rfl rfl ⟨_,rfl,rfl⟩<|fX rfl rfl rfl Yf rfl ⟨_,rfl,rfl⟩<|fD rfl U210 Tf.s319 rfl rfl Yd Yd rfl ⟨_,rfl,rfl⟩<|dE (vs:=yC ((fO y out pre).map fun p=>p.1)++junk5) (us:=ints (xD (fO y out pre))) rfl Tf.a319 Tf.s319 rfl (LT _ (LT _ (LT _ (LT _ (LT _ (GE _)))))) (RJ hfit7 hne junk5) (by simpa using e5 hfit7 hne) GT rfl ⟨_,rfl,rfl⟩<|bJ (vs:=ints (vK (dG y (vX x)))) rfl Tf.a319 rfl (GE _) (by rw[show(ints (vK (dG y (vX x)))).length=9 by simpa using hs9];exact Tf.s319) GT rfl ⟨_,rfl,rfl⟩<|aFJ (n:=9) rfl aEX (e5 hfit7 hne) hs9 rfl rfl rfl ⟨_,rfl,rfl⟩<|mZ rfl rfl rfl rfl ⟨_,rfl,rfl⟩ ?_
    exact L.cu 8
   ·refine Zk rfl<|Zk rfl<|Zk rfl<|Zk rfl<|Zk rfl<|Zk rfl<|Zk rfl<|Zk rfl<|nH rfl rfl rfl rfl ⟨_,rfl,rfl⟩ ?_;exact L.cu 8
   refine Zac rfl ?_;exact L.cu 5
  ·refine Zk rfl<|Zk rfl<|Zk rfl<|Zk rfl<|Zk rfl<|Zk rfl<|Zk rfl<|Zk rfl<|Zk rfl<|Zk rfl<|Zk rfl<|Zk rfl ?_;refine Zk rfl<|Zad rfl ?_;exact L.cu 13
  refine L.n1<|aJ rfl (fun hc1=>?_) (fun hc1=>?_)
  ·refine rZ (fun hnd=>?_);have hq5:=aIN (A:=[_,_,_]) (B:=[_,_]) (k:=q5) hnd (GE _);have hq4:=aIN (A:=[_,_,_]) (B:=[_,_]) (k:=q4) hnd (LT _ (GE _));have hq3:=aIN (A:=[_,_,_]) (B:=[_,_]) (k:=q3) hnd (LT _ (LT _ (GE _)));refine kV (ν.ks++ω.ks) 3 [false,true,true,true,true,true,true,false,false,false] [.fork [0,1,4,5] 2 (.fork [] 3 (.fin [6]) 6 (.fin [3])) 6 (.fin [2,3]),.fin [7,8,9]] Tf.follows (fun _ _ _ h=>h) Yg<|nR<|bE [(false,0),(true,1),(true,4),(true,5)] rfl<|aS rfl Tf.a210 rfl (List.Mem.tail _ (List.Mem.tail _ (List.Mem.head _))) rfl Yj rfl trivial<|bJ (vs:=ints (vK (dG y (vX x)))) rfl Tf.a319 rfl (GE _) (by rw[show(ints (vK (dG y (vX x)))).length=9 by simpa using hs9];exact Tf.s319) hq5 rfl trivial<|aS rfl Tf.a25 rfl (List.Mem.tail _ (List.Mem.head _)) rfl Yj rfl trivial<|Za rfl<|Zab (cZ true true rfl rfl ?_ ?_)
   ·refine Zp rfl U210 Tf.s319 Tf.z319 rfl rfl rfl rfl (.cons rfl (by simpa using hs9) .nil) (fun b901 D901 hD901 hA901=>?_);have hAs:=hA901;refine Zab<|bE [] rfl<|Zab (cZ true true rfl rfl ?_ ?_)
    ·refine aF ([(_,_),(_,_),(_,_),(_,_),(_,_)]++ν++(ω++[(l,_),(bd,_)])) (aJL _ _ _).symm<|aU (A:=[(_,_),(_,_),(_,_),(_,_),(_,_)]) (B:=(ω++[(l,_),(bd,_)])) rfl U210 rfl rfl Tf.s319 Tf.z319 rfl Tf.i319 rfl rfl rfl ha1 (jE.lit hAs) Ye (by simpa using hs9) (K0 hfit7) (by simpa using cY _) Yd (aJE (fun p hp=>aJG _ (aIY.2 ⟨p,hp,rfl⟩))) rfl aOJ (fun v1x ν1x ha1x=>Zab<|aP [(true,6)] rfl<|Zp rfl U25 Tf.s3 Tf.z3 rfl rfl rfl rfl (.cons rfl rfl .nil) (fun b902 D902 hD902 hA902=>?_));have hAm:=hA902;refine Zab<|kY [(false,7),(false,8),(false,9)] rfl<|aF (([(_,_),(_,_),(_,_),(_,_),(_,_)]++ν1x)++ω++[(l,_),(bd,_)]) (aJL _ _ _).symm<|aU (A:=[(_,_),(_,_),(_,_),(_,_),(_,_)]++ν1x) (B:=[(l,_),(bd,_)]) rfl U25 rfl rfl Tf.s3 Tf.z3 rfl Tf.i3 rfl rfl rfl ha2 (jE.lit hAm) Ye rfl Ye Yi Yd (aJE (fun p hp=>aIZ _ (aIY.2 ⟨p,hp,rfl⟩))) rfl aOJ (fun u1x ω1x ha2x=>aF ((q5,_)::(q4,.cells [u].toArray 25 (0,0))::(q3,.cells [v].toArray 210 (0,0))::(wb,.cells [cv,.int .i64 y.fit,qv,.map (some mb)].toArray 311 (0,0))::(mb,.map es1 cl1)::(ν1x++(ω1x++[(l,_),(bd,_)]))) ((aJL _ _ _).trans (aJL _ _ _))<|aY rfl rfl rfl ha1x.cells1 Tf.s210 (.tail (.tail .head)) Ye rfl ha1x.cell1 trivial<|aY rfl rfl rfl ha2x.cells1 Tf.s25 (.tail .head) Ye rfl ha2x.cell1 aOJ ?_);have hI1:aBU y out (pre++[x]) (es1,cl1,M1,v1x,ν1x,u1x,ω1x):=x4 hM1 hok1 hc1 (by simpa using ha1x) (by simpa using ha2x);refine Zab<|kS<|Zal ?_;exact fun a w hh=>fN (A:=[(_,_),(_,_),(_,_),(_,_)]++(ν1x++ω1x)) (B:=[(bd,.deferred (some []))]) (es1,cl1,M1,v1x,ν1x,u1x,ω1x) hI1 rfl rfl a w ((hh.dropBoxes 1).boxesEq (aCH [_,_,_,_] ν1x ω1x [_,_]))
    ·refine Zp rfl U25 Tf.s3 Tf.z3 rfl rfl rfl rfl (.cons rfl rfl .nil) (fun b902 D902 hD902 hA902=>?_);have hAm:=hA902;refine Zab<|aP [(true,3)] rfl<|aF ([(_,_),(_,_),(_,_),(_,_),(_,_)]++ν++(ω++[(l,_),(bd,_)])) (aJL _ _ _).symm<|aU (A:=[(_,_),(_,_),(_,_),(_,_),(_,_)]) (B:=(ω++[(l,_),(bd,_)])) rfl U210 rfl rfl Tf.s319 Tf.z319 rfl Tf.i319 rfl rfl rfl ha1 (jE.lit hAs) Ye (by simpa using hs9) (K0 hfit7) (by simpa using cY _) Yd (aJE (fun p hp=>aJG _ (aIY.2 ⟨p,hp,rfl⟩))) rfl aOJ (fun v1x ν1x ha1x=>Zab<|kY [(false,7),(false,8),(false,9)] rfl<|aF (([(_,_),(_,_),(_,_),(_,_),(_,_)]++ν1x)++ω++[(l,_),(bd,_)]) (aJL _ _ _).symm<|aU (A:=[(_,_),(_,_),(_,_),(_,_),(_,_)]++ν1x) (B:=[(l,_),(bd,_)]) rfl U25 rfl rfl Tf.s3 Tf.z3 rfl Tf.i3 rfl rfl rfl ha2 (jE.lit hAm) Ye rfl Ye Yi Yd (aJE (fun p hp=>aIZ _ (aIY.2 ⟨p,hp,rfl⟩))) rfl aOJ (fun u1x ω1x ha2x=>aF ((q5,_)::(q4,.cells [u].toArray 25 (0,0))::(q3,.cells [v].toArray 210 (0,0))::(wb,.cells [cv,.int .i64 y.fit,qv,.map (some mb)].toArray 311 (0,0))::(mb,.map es1 cl1)::(ν1x++(ω1x++[(l,_),(bd,_)]))) ((aJL _ _ _).trans (aJL _ _ _))<|aY rfl rfl rfl ha1x.cells1 Tf.s210 (.tail (.tail .head)) Ye rfl ha1x.cell1 trivial<|aY rfl rfl rfl ha2x.cells1 Tf.s25 (.tail .head) Ye rfl ha2x.cell1 aOJ ?_));have hI1:aBU y out (pre++[x]) (es1,cl1,M1,v1x,ν1x,u1x,ω1x):=x4 hM1 hok1 hc1 (by simpa using ha1x) (by simpa using ha2x);refine Zab<|kS<|Zal ?_;exact fun a w hh=>fN (A:=[(_,_),(_,_),(_,_),(_,_)]++(ν1x++ω1x)) (B:=[(bd,.deferred (some []))]) (es1,cl1,M1,v1x,ν1x,u1x,ω1x) hI1 rfl rfl a w ((hh.dropBoxes 1).boxesEq (aCH [_,_,_,_] ν1x ω1x [_,_]))
   ·refine Zp rfl U25 Tf.s3 Tf.z3 rfl rfl rfl rfl (.cons rfl rfl .nil) (fun b901 D901 hD901 hA901=>?_);have hAm:=hA901;refine Zab<|aP [(true,2),(true,3)] rfl<|Zp rfl U210 Tf.s319 Tf.z319 rfl rfl rfl rfl (.cons rfl (by simpa using hs9) .nil) (fun b902 D902 hD902 hA902=>?_);have hAs:=hA902;refine aF ([(_,_),(_,_),(_,_),(_,_),(_,_)]++ν++(ω++[(l,_),(bd,_)])) (aJL _ _ _).symm<|aU (A:=[(_,_),(_,_),(_,_),(_,_),(_,_)]) (B:=(ω++[(l,_),(bd,_)])) rfl U210 rfl rfl Tf.s319 Tf.z319 rfl Tf.i319 rfl rfl rfl ha1 (jE.lit hAs) Ye (by simpa using hs9) (K0 hfit7) (by simpa using cY _) Yd (aJE (fun p hp=>aJG _ (aIY.2 ⟨p,hp,rfl⟩))) rfl aOJ (fun v1x ν1x ha1x=>Zab<|kY [(false,7),(false,8),(false,9)] rfl<|aF (([(_,_),(_,_),(_,_),(_,_),(_,_)]++ν1x)++ω++[(l,_),(bd,_)]) (aJL _ _ _).symm<|aU (A:=[(_,_),(_,_),(_,_),(_,_),(_,_)]++ν1x) (B:=[(l,_),(bd,_)]) rfl U25 rfl rfl Tf.s3 Tf.z3 rfl Tf.i3 rfl rfl rfl ha2 (jE.lit hAm) Ye rfl Ye Yi Yd (aJE (fun p hp=>aIZ _ (aIY.2 ⟨p,hp,rfl⟩))) rfl aOJ (fun u1x ω1x ha2x=>aF ((q5,_)::(q4,.cells [u].toArray 25 (0,0))::(q3,.cells [v].toArray 210 (0,0))::(wb,.cells [cv,.int .i64 y.fit,qv,.map (some mb)].toArray 311 (0,0))::(mb,.map es1 cl1)::(ν1x++(ω1x++[(l,_),(bd,_)]))) ((aJL _ _ _).trans (aJL _ _ _))<|aY rfl rfl rfl ha1x.cells1 Tf.s210 (.tail (.tail .head)) Ye rfl ha1x.cell1 trivial<|aY rfl rfl rfl ha2x.cells1 Tf.s25 (.tail .head) Ye rfl ha2x.cell1 aOJ ?_));have hI1:aBU y out (pre++[x]) (es1,cl1,M1,v1x,ν1x,u1x,ω1x):=x4 hM1 hok1 hc1 (by simpa using ha1x) (by simpa using ha2x);refine Zab<|kS<|Zal ?_;exact fun a w hh=>fN (A:=[(_,_),(_,_),(_,_),(_,_)]++(ν1x++ω1x)) (B:=[(bd,.deferred (some []))]) (es1,cl1,M1,v1x,ν1x,u1x,ω1x) hI1 rfl rfl a w ((hh.dropBoxes 1).boxesEq (aCH [_,_,_,_] ν1x ω1x [_,_]))
  ·have hI0:aBU y out (pre++[x]) (es1,cl1,M1,v,ν,u,ω):=aFX hM1 hok1 hc1 ha1 ha2;refine bQ<|Zal ?_;exact fun a w hh=>fN (A:=[(_,_),(_,_),(_,_),(_,_)]++(ν++ω)) (B:=[(bd,.deferred (some []))]) (es1,cl1,M1,v,ν,u,ω) hI0 rfl rfl a w ((hh.dropBoxes 1).boxesEq (aCH [_,_,_,_] ν ω [_,_]))
 ·rintro⟨es,clock,M,v,ν,u,ω⟩ bd ⟨hM,hok,ha1,ha2⟩;simp only at hM hok ha1 ha2;rw[yV]at ha1 ha2;have hfit7:∀p∈eR y out,p.1.fits.length=7:=by rw[←yV];exact L8 y out _
  have hsl:(eR y out).length≤2097152:=by rw[←yV];have:=Y6 y out (C1.cW (gS y.chairs));have:=BT hn7;omega
  refine uE ((q4,.cells [u].toArray 25 (0,0))::(q3,.cells [v].toArray 210 (0,0))::(wb,.cells [cv,.int .i64 y.fit,qv,.map (some mb)].toArray 311 (0,0))::(mb,.map es clock)::((ν++ω)++[(bd,.deferred (some []))])) rfl<|Zal<|Zah<|aM<|C.drawA [] 1 4 6 (fun _ _ _ h=>h)<|Zl rfl Tf.a210 rfl (List.Mem.tail _ (List.Mem.head _)) rfl<|Zl rfl Tf.a25 rfl (List.Mem.head _) rfl<|Q1 rfl rfl rfl ha1.cells1 Tf.s210 (.tail .head) Ye rfl ha1.cell1 trivial<|aY rfl rfl rfl ha2.cells1 Tf.s25 .head Ye rfl ha2.cell1 trivial<|L.n5<|uE ([(_,_),(_,_),(_,_),(_,_)]++ν++(ω++[(bd,_)])) (aIT [_,_,_,_] ν ω [_])<|c7 (A:=[(_,_),(_,_),(_,_),(_,_)]) (B:=ω++[(bd,_)]) ha1 aDO (fun D8 hD8 hF8=>?_);refine uE ([(_,_),(_,_),(_,_),(_,_)]++ω++[(bd,_)]) (aJL _ _ _).symm<|c7 (A:=[(_,_),(_,_),(_,_),(_,_)]) (B:=[(bd,_)]) ha2 aDO (fun D9 hD9 hF9=>?_);exact CM (A:=[(_,_),(_,_)]) (ν':=[(_,_),(_,_)]) (B:=[]) (vs:=[_,_]) rfl rfl rfl ⟨⟨_,_,_,rfl,(LT _ (GE _)),aJQ ⟨Tf.a210,rfl⟩⟩,⟨_,_,_,rfl,GE _,aJQ ⟨Tf.a25,rfl⟩⟩,aOJ⟩ rfl (fun D hD=>⟨v,u,rfl,(hF8.scs Ye Yd).up DW.up ((hD9 _ Ye).trans (hD _ Ye)),(hF9.ints Ye Yd).up RI.up (hD _ Ye),es,clock,M,rfl,hM,hok⟩)
end L7
end Go.Fs
namespace Go.Fs
open Go.Proofs
namespace L7
open C7
def iN(s:Sc)(l:List (Int×Int)):Nat:=s.whole+(l.filter fun p=>fB s.fits p.1.toNat p.2.toNat).length
def MV(l:List (Int×Int)):Prop:=∀p∈l,∃x z:Nat,p=((x:Int),(z:Int))∧x<7∧z<7
theorem VX(s:Sc)(l:List (Int×Int)):iN s l≤s.whole+l.length:=by
 have:=aLZ (fun p:Int×Int=>fB s.fits p.1.toNat p.2.toNat) l;unfold iN;omega
theorem EM{s:Sc}{l:List (Int×Int)}{k x z:Nat}(h:l[k]?= some ((x:Int),(z:Int))):((iN s (l.take (k+1)):Nat):Int)=(iN s (l.take k):Int)+((((s.fits.getD x 0) >>> z:Nat):Int)%2):=by
 rw[kE];unfold iN;rw[aJP,h,aLC,aLP,aIX];have:([((x:Int),(z:Int))].filter fun p:Int×Int=>fB s.fits p.1.toNat p.2.toNat).length=if(s.fits.getD x 0).testBit z=true then 1 else 0:=by
  show(List.filter (fun p:Int×Int=>(s.fits.getD p.1.toNat 0).testBit p.2.toNat) [((x:Int),(z:Int))]).length=_;rw[aMQ];simp only[aKT];split<;>rfl
 rw[this];split<;>omega
theorem YW{a b:Nat}(ha:a<128)(hb:b<128):a|||b<128:=Nat.or_lt_two_pow (n:=7) ha hb
theorem NA(w b:Nat)(a0 a1 a2 a3 a4 a5 a6:Nat)(lv:Value)(l:List (Int×Int))(D:aA)(_hF:∀f∈[a0,a1,a2,a3,a4,a5,a6],f<128)(hw:w≤7)(hl:Sl D R2 2 lv l)(hp:MV l)(hlen:l.length≤1000):Fn Tryz.prog 166 #[.agg #[.int .i64 (w:Int),.int .i64 (b:Int),.int .i64 (a0:Int),.int .i64 (a1:Int),.int .i64 (a2:Int),.int .i64 (a3:Int),.int .i64 (a4:Int),.int .i64 (a5:Int),.int .i64 (a6:Int)],lv] D (fun _ v=>v=.int .i64 (iN ⟨w,b,[a0,a1,a2,a3,a4,a5,a6]⟩ l:Int)):=by
 have hll:=hl.len;refine enter 29 Tryz.func166 rfl rfl rfl rfl fun h0=>C.s1<|Zw rfl (fun q1 E1 hE1 hB1=>Zh rfl<|L.n3<|Zi rfl Tf.f319_0 rfl<|Zf 0 rfl Tf.a3 rfl hB1 rfl<|Zh rfl<|L.n4<|Za rfl<|aR rfl U136 rfl hl rfl rfl trivial<|Za rfl ?_);refine L.n1<|Zaj<|cJ (γ:=Nat) (fun k=>l.length-k) (fun k=>k≤l.length) (fun k=>[(12,.int .i64 (k:Int)),(5,.int .i64 (iN ⟨w,b,[a0,a1,a2,a3,a4,a5,a6]⟩ (l.take k):Int))]) [(11,_),(10,_),(4,_),(2,_)] (fun k=>[E1,D]) 0 Yd ⟨Yb,(by simp[iN];rfl),aOJ⟩ C.rs (aD) ?_
 rintro k h1;refine C.s1<|Zae rfl<|L.n2<|aE rfl (fun hc1=>?_) (fun hc1=>?_)
 ·have hk:k<l.length:=by omega
  obtain⟨p,hp0⟩:=C.ge l k;obtain⟨x,z,rfl,hx7,hz7⟩:=hp p (aJA hp0);have hml:=VX ⟨w,b,[a0,a1,a2,a3,a4,a5,a6]⟩ (l.take k);have htl:(l.take k).length≤k:=aNV _ _;simp only at hml;refine C.kn<|aM<|Zaj<|C.s1<|Zs rfl U136 Tf.s223 rfl hl rfl hp0 (fun b1 o1 cs1 hr1 hcl1 hA1=>?_);obtain rfl:cs1=[.int .i64 _,.int .i64 _]:=hr1;refine Zr rfl Tf.a223 rfl hA1 Tf.s223<|Zx rfl Tf.z223 rfl (fun q2=>Zv rfl Tf.s223 (bM.head)<|L.n1<|C.drawA [] 6 12 1022 (fun _ _ _ h=>cA (P:=Tryz.prog) (fn:=Tryz.f166) _ _ _ h)<|Za rfl<|Zi rfl Tf.f223_0 rfl<|Zl rfl Tf.a3 rfl (List.Mem.head _) rfl<|Zi rfl Tf.f319_2 rfl<|dT rfl U317 Tf.s3 rfl rfl Yd Yd rfl trivial<|bC (o:=0+1+1) (k:=x*1) rfl Tf.a3 rfl hB1.tail.tail Ye (TJ a0 a1 a2 a3 a4 a5 a6 hx7) GT rfl trivial<|Zi rfl Tf.f223_1 rfl ?_);refine Zl rfl Tf.a3 rfl (List.Mem.head _) rfl<|O6 rfl rfl rfl Yd rfl trivial<|wM rfl rfl rfl (Int.natCast_nonneg _) Yd (by rw[kE];split<;>simp only[qR]<;>omega) rfl trivial<|yF rfl rfl rfl (by rw[kE];simp only[qR];split<;>omega) rfl trivial<|Zh rfl<|Zab<|Zal<|Zah<|C.rg<|Zy rfl<|Za rfl<|Zab ?_
  exact aG 20 (k+1) Yd Yd ⟨Yb,(by rw[EM hp0];rfl),aOJ⟩ rfl rfl (aKB _ (LE _)) (aD)
 ·obtain rfl:k=l.length:=by omega
  rw[aKN];refine aQ<|Zak<|Zak<|Zan<|Zah<|C.s1<|Za rfl<|Zh rfl<|L.n5 ?_;exact leave1 rfl rfl rfl rfl (fun D hD=>rfl)
theorem z8(s:Sc)(lv:Value)(l:List (Int×Int))(hs:∀f∈s.fits,f<128)(hw:s.whole≤7)(hp:MV l)(hlen:l.length≤1000)(D:aA)(hl:Sl D R2 2 lv l)(hs7:s.fits.length=7):Fn Tryz.prog 166 #[.agg (ints (vK s)).toArray,lv] D (fun _ v=>v=.int .i64 (iN s l:Int)):=by
 obtain⟨w,b,F⟩:=s;obtain⟨a0,a1,a2,a3,a4,a5,a6,rfl⟩:=aDJ hs7;exact NA w b a0 a1 a2 a3 a4 a5 a6 lv l D hs hw hl hp hlen
end L7
end Go.Fs
namespace Go.Fs
open Go.Proofs
namespace L7
open C7
def eQ(y:bI):(Int×Int)×Int:=if aT y≠0 then((0,0),aT y)else match(eR y []).map fun p=>(p.2:Int)with
 | []=>((0,0),11)
 |m::l=>((m::l).foldl (fun r n=>(min r.1 n,max r.2 n)) (m,m),0)
theorem HM{y:bI}(h:aT y=0)(hn:eR y []=[]):Value.tuple #[.agg #[.int .i64 0,.int .i64 0],.int .i64 11]=.tuple #[iU (eQ y).1,.int .i64 (eQ y).2]:=by
 rw[eQ,aJM Yd,hn];rfl
theorem B2{y:bI}{L:List Int}{m0:Int}(h:aT y=0)(hL:((eR y []).map fun p=>(p.2:Int))=L)(hm:L[0]?= some m0):Value.tuple #[.agg #[.int .i64 (L.foldl (fun r n=>(min r.1 n,max r.2 n)) (m0,m0)).1,.int .i64 (L.foldl (fun r n=>(min r.1 n,max r.2 n)) (m0,m0)).2],.int .i64 0]=.tuple #[iU (eQ y).1,.int .i64 (eQ y).2]:=by
  rw[eQ,aJM Yd,hL];cases L with
  |nil=>simp at hm
  | cons m l => obtain rfl : m = m0 := by simpa using hm
                rfl
theorem DI{L:List Int}{k:Nat}{n m0:Int}(h:L[k]?= some n):(L.take (k+1)).foldl (fun r n=>(min r.1 n,max r.2 n)) (m0,m0)=(min ((L.take k).foldl (fun r n=>(min r.1 n,max r.2 n)) (m0,m0)).1 n,max ((L.take k).foldl (fun r n=>(min r.1 n,max r.2 n)) (m0,m0)).2 n):=by
 rw[aJP,h,aLC,aLE];rfl
theorem qD(yv:Value)(y:bI)(D:aA)(hy:lO D yv y):Fn Tryz.prog 51 #[yv] D (fun _ v=>v=.tuple #[iU (eQ y).1,.int .i64 (eQ y).2]):=by
 have hy0:=hy;obtain⟨cv,qv,rfl,hc,hq⟩:=hy;refine enter 48 Tryz.func51 rfl rfl rfl rfl fun h0=>C.s1<|Zw rfl (fun q1 E1 hE1 hB1=>Zx rfl Tf.z133 rfl (fun q2=>Zh rfl<|L.n4<|Zr rfl Tf.a40 rfl hB1 Tf.s40<|Zd rfl (fun D1 hD1=>rI _ y _ (hy0.up (hD1 _ Ye)))<|Zh rfl<|L.n3<|Za rfl<|dZ rfl rfl rfl rfl aOJ ?_));refine L.n1<|aE rfl (fun hc1=>?_) (fun hc1=>?_)
 ·refine C.s1<|Zq [.int .i64 0,.int .i64 0] rfl Tf.p133 Tf.z133 rfl rfl<|Za rfl<|Zv rfl Tf.s133 (bM.head)<|Zh rfl<|L.n5<|Zai ?_;exact Zm [_,_] rfl ⟨⟨_,_,_,rfl,(List.Mem.head _),Or.inr ⟨Tf.a133,(by first|exact Tf.s133|(simp only[aKH,aH, *];exact Tf.s133)),rfl⟩⟩,rfl,aOJ⟩ (fun D hD=>by show Value.tuple _=_;rw[eQ,aJT hc1];rfl)
 ·have hf0:aT y=0:=by omega
  have hyo:=aIU hf0;have hn7:=hyo.len;refine C.kn<|C.s1<|Zr rfl Tf.a40 rfl hB1 Tf.s40<|eJ (μ:=_) rfl rfl rfl (fun D5 hD5=>C5 _ y _ _ D5 rfl) rfl aOJ (fun v5 D6 _ hD6 hp5=>?_);obtain⟨wb,mb,rfl,rfl⟩:=hp5;refine aF ([]++[(_,_),(_,_)]++([(_,_)])) rfl<|eA (A:=[]) (ν:=[(_,_),(_,_)]) (B:=[(_,_)]) rfl rfl rfl rfl (aJQ rfl) (a8 (cs:=[_,_,_,_])) (fun D7 hD7=>Z8 wb mb _ _ y [] _ Yd hyo.fit hyo.size #[] 0 [] _ (hc.up rP.up (hD7 _ Ye)) (hq.up R2.up (hD7 _ Ye)) Sl.nil rfl T1.nil) rfl aOJ (fun v7 D8 _ hD8 hp7=>?_);obtain⟨sv,mv,rfl,hsv,hmv,es1,cl1,M1,rfl,hM1,hok1⟩:=hp7;refine Za rfl<|Zaa rfl<|Zaa rfl<|Zh rfl<|Zh rfl<|L.n4<|Za rfl<|aR rfl U25 rfl hmv rfl rfl trivial<|dJ rfl rfl rfl rfl trivial<|L.n1<|aE rfl (fun hc2=>?_) (fun hc2=>?_)
  ·have hnil:eR y []=[]:=by simpa using hc2
   refine C.s1<|Zq [.int .i64 0,.int .i64 0] rfl Tf.p133 Tf.z133 rfl rfl<|Zv rfl Tf.s133 (.tail (.tail (bM.head)))<|Zh rfl<|L.n5<|Zai ?_;exact Zm [_,_] rfl ⟨⟨_,_,_,rfl,(List.Mem.tail _ (List.Mem.tail _ (List.Mem.head _))),Or.inr ⟨Tf.a133,(by first|exact Tf.s133|(simp only[aKH,aH, *];exact Tf.s133)),rfl⟩⟩,rfl,aOJ⟩ (fun D hD=>HM hf0 hnil)
  ·generalize hL:((eR y []).map fun p=>(p.2:Int))=ms at hmv hc2 ⊢
   have hml:=hmv.len;have hne:ms≠[]:=fun e=>hc2 (by rw[e];rfl)
   obtain⟨m0,hm0⟩:∃m,ms[0]?= some m:=⟨ms[0]'(aMH.2 hne),aJC _⟩
   refine C.kn<|aM<|kV [] 3 [false,false,false,true,true,true,false,true,true,true,false,false] [.fork [0,1,2,3,4,5,6,7] 8 (.fin [9]) 9 (.fin [8]),.fin [10,11]] Tf.follows (fun _ _ _ h=>cA (P:=Tryz.prog) (fn:=Tryz.f51) _ _ _ h) Yg<|nR<|bE [(false,0),(false,1),(false,2),(true,3),(true,4),(true,5),(false,6),(true,7)] rfl<|Za rfl<|Zs rfl U25 Tf.s3 rfl hmv rfl hm0 (fun b1 o1 cs1 hr1 hcl1 hA1=>?_);obtain rfl:cs1=[.int .i64 _]:=hr1;refine Zf 0 rfl Tf.a3 rfl hA1 rfl<|Za rfl<|Zs rfl U25 Tf.s3 rfl hmv rfl hm0 (fun b2 o2 cs2 hr2 hcl2 hA2=>?_);obtain rfl:cs2=[.int .i64 _]:=hr2;refine Zf 0 rfl Tf.a3 rfl hA2 rfl<|Zq [.int .i64 m0,.int .i64 m0] rfl Tf.p133 Tf.z133 rfl rfl<|Zq [.func (.func 99) #[] #[]] rfl Tf.p218 Tf.z218 rfl rfl<|Zab (cZ true true rfl rfl ?_ ?_)
   ·refine Zx rfl Tf.z133 rfl (fun q3=>Zab<|aP [(true,9)] rfl<|Zx rfl Tf.z218 rfl (fun q4=>Zab<|kY [(false,10),(false,11)] rfl<|Zv rfl Tf.s133 (.tail (bM.head))<|Zv rfl Tf.s218 (bM.head)<|Zab<|kS<|Zah<|C.s2 ?_));refine Za rfl<|aR rfl U25 rfl hmv rfl rfl trivial<|Za rfl<|L.n1<|Zaj<|cE (γ:=Nat) (fun k=>ms.length-k) (fun k=>k≤ms.length) (fun k=>[(37,.int .i64 (k:Int))]) [(36,_),(35,_),(8,_),(7,_),(3,_),(2,_)] (fun k=>(q4,.cells [.func (.func 99) #[] #[]].toArray 218 (0,0))::(q3,.cells [.int .i64 (List.foldl (fun r n=>(min r.1 n,max r.2 n)) (m0,m0) (ms.take k)).1,.int .i64 (List.foldl (fun r n=>(min r.1 n,max r.2 n)) (m0,m0) (ms.take k)).2].toArray 133 (0,0))::(wb,.cells [cv,.int .i64 y.fit,qv,.map (some mb)].toArray 311 (0,0))::(mb,.map es1 cl1)::[(q2,.cells [.int .i64 0,.int .i64 0].toArray 133 (0,0))]) (fun k=>[D8,D6,E1,D]) 0 Yd ⟨Yb,aOJ⟩ C.rs (LE _) (aD) ?_;rintro k h1;refine C.s1<|Zae rfl<|L.n2<|aE rfl (fun hc3=>?_) (fun hc3=>?_)
    ·have hk:k<ms.length:=by omega
     obtain⟨n,hn0⟩:=C.ge ms k;have hst:=DI (m0:=m0) hn0;refine C.kn<|aM<|Zaj<|C.s1<|Zs rfl U25 Tf.s3 rfl hmv rfl hn0 (fun b3 o3 cs3 hr3 hcl3 hA3=>?_);obtain rfl:cs3=[.int .i64 _]:=hr3;refine Zf 0 rfl Tf.a3 rfl hA3 rfl<|Zh rfl<|L.n1<|C.rg<|Zi rfl Tf.f218_0 rfl<|Zl rfl Tf.a215 rfl (List.Mem.head _) rfl<|Zu rfl Tf.a133 rfl (List.Mem.tail _ (List.Mem.head _)) Tf.s133<|Za rfl<|Zd rfl (fun D2 hD2=>oA (List.foldl (fun r n=>(min r.1 n,max r.2 n)) (m0,m0) (ms.take k)) n _)<|Zv rfl Tf.s133 (.tail (bM.head))<|Zab<|Zal ?_;refine Zah<|C.rg<|Zy rfl<|Za rfl<|Zab ?_;rw[←hst];exact aG 12 (k+1) Yd Yd ⟨Yb,aOJ⟩ rfl rfl (LE _) (aD)
    ·obtain rfl:k=ms.length:=by omega
     rw[aKN];refine aQ<|Zak<|Zak<|Zan<|Zah<|C.s1<|Zu rfl Tf.a133 rfl (List.Mem.tail _ (List.Mem.head _)) Tf.s133<|Zv rfl Tf.s133 (.tail (.tail (.tail (.tail (bM.head)))))<|Zh rfl<|L.n5 ?_;exact Zm [_,_] rfl ⟨⟨_,_,_,rfl,(List.Mem.tail _ (List.Mem.tail _ (List.Mem.tail _ (List.Mem.tail _ (List.Mem.head _))))),Or.inr ⟨Tf.a133,(by first|exact Tf.s133|(simp only[aKH,aH, *];exact Tf.s133)),rfl⟩⟩,rfl,aOJ⟩ (fun D hD=>B2 hf0 hL hm0)
   ·refine Zx rfl Tf.z218 rfl (fun q3=>Zab<|aP [(true,8)] rfl<|Zx rfl Tf.z133 rfl (fun q4=>Zab<|kY [(false,10),(false,11)] rfl<|Zv rfl Tf.s133 (bM.head)<|Zv rfl Tf.s218 (.tail (bM.head))<|Zab<|kS<|Zah<|C.s2 ?_));refine Za rfl<|aR rfl U25 rfl hmv rfl rfl trivial<|Za rfl<|L.n1<|Zaj<|cE (γ:=Nat) (fun k=>ms.length-k) (fun k=>k≤ms.length) (fun k=>[(37,.int .i64 (k:Int))]) [(36,_),(35,_),(7,_),(8,_),(3,_),(2,_)] (fun k=>(q4,.cells [.int .i64 (List.foldl (fun r n=>(min r.1 n,max r.2 n)) (m0,m0) (ms.take k)).1,.int .i64 (List.foldl (fun r n=>(min r.1 n,max r.2 n)) (m0,m0) (ms.take k)).2].toArray 133 (0,0))::(q3,.cells [.func (.func 99) #[] #[]].toArray 218 (0,0))::(wb,.cells [cv,.int .i64 y.fit,qv,.map (some mb)].toArray 311 (0,0))::(mb,.map es1 cl1)::[(q2,.cells [.int .i64 0,.int .i64 0].toArray 133 (0,0))]) (fun k=>[D8,D6,E1,D]) 0 Yd ⟨Yb,aOJ⟩ C.rs (LE _) (aD) ?_;rintro k h1;refine C.s1<|Zae rfl<|L.n2<|aE rfl (fun hc3=>?_) (fun hc3=>?_)
    ·have hk:k<ms.length:=by omega
     obtain⟨n,hn0⟩:=C.ge ms k;have hst:=DI (m0:=m0) hn0;refine C.kn<|aM<|Zaj<|C.s1<|Zs rfl U25 Tf.s3 rfl hmv rfl hn0 (fun b3 o3 cs3 hr3 hcl3 hA3=>?_);obtain rfl:cs3=[.int .i64 _]:=hr3;refine Zf 0 rfl Tf.a3 rfl hA3 rfl<|Zh rfl<|L.n1<|C.rg<|Zi rfl Tf.f218_0 rfl<|Zl rfl Tf.a215 rfl (List.Mem.tail _ (List.Mem.head _)) rfl<|Zu rfl Tf.a133 rfl (List.Mem.head _) Tf.s133<|Za rfl<|Zd rfl (fun D2 hD2=>oA (List.foldl (fun r n=>(min r.1 n,max r.2 n)) (m0,m0) (ms.take k)) n _)<|Zv rfl Tf.s133 (bM.head)<|Zab<|Zal ?_;refine Zah<|C.rg<|Zy rfl<|Za rfl<|Zab ?_;rw[←hst];exact aG 12 (k+1) Yd Yd ⟨Yb,aOJ⟩ rfl rfl (LE _) (aD)
    ·obtain rfl:k=ms.length:=by omega
     rw[aKN];refine aQ<|Zak<|Zak<|Zan<|Zah<|C.s1<|Zu rfl Tf.a133 rfl (List.Mem.head _) Tf.s133<|Zv rfl Tf.s133 (.tail (.tail (.tail (.tail (bM.head)))))<|Zh rfl<|L.n5 ?_;exact Zm [_,_] rfl ⟨⟨_,_,_,rfl,(List.Mem.tail _ (List.Mem.tail _ (List.Mem.tail _ (List.Mem.tail _ (List.Mem.head _))))),Or.inr ⟨Tf.a133,(by first|exact Tf.s133|(simp only[aKH,aH, *];exact Tf.s133)),rfl⟩⟩,rfl,aOJ⟩ (fun D hD=>B2 hf0 hL hm0)
end L7
end Go.Fs
