/- Of the proof of BookWrites: V22, V23, V24, V29, SW9, SW10, SW11, SW12. -/
import Derived.Test.YtelhnbcdablgoaaGreatDoorZBookWritesAG
import Derived.Test.YtelhnbcdablgoaaGreatDoorZBookWritesAD
import Derived.Test.YtelhnbcdablgoaaGreatDoorZBookWritesAF
import Derived.Test.YtelhnbcdablgoaaGreatDoorZBookWritesAE
namespace Go.Fs
open Go.Proofs
namespace L3
open L1
open C3
section
variable{P:Program}{X:Cx}{Q:Exit→Act→World→Prop}{σ:bQ}{μ:aC}{Ds:List aA}
theorem YI{c:Code}{μ':aC}(n:Nat)(he:μ.drop n=μ')(h:WC P X Q c σ μ' Ds):WC P X Q c σ μ Ds:=fun a w hh=>by
 subst he;exact h a w (hh.dropBoxes n)
end
def lF(bh bs bl bo blo bY br n:Nat)(c:List Sc)(cl:List Int):aC:=[(bh,.cells [.func (.func 235) #[] #[.pointer (some ⟨br,0,none⟩),.pointer (some ⟨bs,0,none⟩),.pointer (some ⟨bl,0,none⟩),.pointer (some ⟨bY,0,none⟩),.pointer (some ⟨bh,0,none⟩)]].toArray 191 (0,0)),(bs,.cells [.slice (some ⟨bo,0,none⟩) (n+1) (n+1)].toArray 303 (0,0)),(bl,.cells [.slice (some ⟨blo,0,none⟩) n n].toArray 33 (0,0)),(bo,.cells (bM c).toArray 207 (0,0)),(blo,.cells (ints cl).toArray 160 (0,0))]
theorem vN{bh bs bl bo blo bY br n:Nat}{c:List Sc}{cl:List Int}:(bo,Obj.cells (bM c).toArray 207 (0,0))∈lF bh bs bl bo blo bY br n c cl:=LE _ (LE _ (LE _ (GE _)))
def IL(n bo:Nat)(vs:List Value):Prop:=∃blo,vs=[.slice (some ⟨blo,0,none⟩) n n,.slice (some ⟨bo,0,none⟩) (n+1) (n+1)]
def aAD{α:Type}(P:Program)(Dr:aA)(lo l:Nat)(J Jx:List α→nY)(xs:List α)(enc:Nat→List Value→Prop)(cells:α→List Value):Prop:=∀pre x β D w bo vs,(∃r,xs=pre++x::r)→sJ lo D w→J pre β D w→(∀b∈β,b<w.heap.size)→Le Dr D→enc bo vs→Y6 β D w bo (cells x)→
   fS P l vs w fun b D' w'=>sJ lo D' w'∧rZ β D w D' w'∧(if b then J (pre++[x]) β D' w' else Jx (pre++[x]) β D' w')
def uK(c:List Sc):Prop:=∀s∈c,(kX s).length=10
theorem uK.set{c:List Sc}{s:Sc}(h:uK c)(hs:(kX s).length=10)(i:Nat):uK (c.set i s):=fun u hu=>by
 rcases List.mem_or_eq_of_mem_set hu with hu|rfl
 ·exact h u hu
 ·exact hs
theorem PP{c:List Sc}(h:uK c):(bM c).length=c.length*10:=by
 induction c with
 |nil=>rfl
 |cons u c ih=>
  have:=ih fun s hs=>h s (aGE _ hs)
  rw[show bM (u::c)=ints (kX u)++bM c from rfl,aGC,aI,h u aGL,this,aGM];omega
theorem RA{c:List Sc}(h:uK c){i:Nat}{s:Sc}(hs:(kX s).length=10)(hi:i<c.length):(bM c).take (i*10)++ints (kX s)++(bM c).drop (i*10+(ints (kX s)).length)=bM (c.set i s):=by
 rw[aI,hs];induction c generalizing i with
 |nil=>simp at hi
 |cons u c ih=>
  have hu:(ints (kX u)).length=10:=by rw[aI,h u aGL]
  have e:bM (u::c)=ints (kX u)++bM c:=rfl;rw[e];cases i with
  |zero=>
   rw[List.set_cons_zero,show bM (s::c)=ints (kX s)++bM c from rfl,aKG,List.take_zero,aHI,aJA,aJY,aHO Yd,aHI,hu];simp
  |succ i=>
   rw[List.set_cons_succ,show bM (u::c.set i s)=ints (kX u)++bM (c.set i s)from rfl,←ih (fun t ht=>h t (aGE _ ht)) Yaj];rw[List.take_append,aHE Yd,hu,aJY,aHO Yd,aHI,hu,show(i+1)*10-10=i*10 by omega,show(i+1)*10+10-10=i*10+10 by omega];simp
def qK:Sc:=⟨[0,0,0,0],[0,0,0,0],0,0⟩
theorem eK(n:Nat):ints (List.replicate (n*10) 0)=bM (List.replicate n qK):=by
 induction n with
 |zero=>rfl
 |succ n ih=>rw[List.replicate_succ,show bM (qK::List.replicate n qK)=ints (kX qK)++bM (List.replicate n qK)from rfl,←ih,show(n+1)*10=10+n*10 by omega,←List.replicate_append_replicate,eW];rfl
def wr(l:List Int)(k:Nat)(us:List Int):List Int:=l.take k++us++l.drop (k+us.length)
theorem aDL{l us:List Int}{k:Nat}(h:k+us.length≤l.length):(wr l k us).length=l.length:=by unfold wr;simp;omega
theorem XN{l us:List Int}{k:Nat}:(ints l).take k++ints us++(ints l).drop (k+(ints us).length)=ints (wr l k us):=by
 unfold wr ints;simp
def oN(b:aW)(i:Nat)(s:Sc):List (List Sc):=(sH b (b.lines.drop i) i s).map (·.2)
def IM(b:aW)(i:Nat)(s:Sc)(z:eZ)(pre:List Sc)(k:Nat):List (List Sc):=((cN b.chairs z).take k).flatMap fun r=>if iA s r=true then(oN b (i+1) (dO b s i r)).map (fun t=>(pre++[s])++t)else []
theorem YX{b:aW}{i:Nat}{s:Sc}(h:eO b s i=false):oN b i s=[]:=by
 unfold oN;cases e:b.lines.drop i with
 |nil=>unfold sH;rw[aGQ (by rw[h];simp)];rfl
 |cons l ls=>unfold sH;rw[aGQ (by rw[h];simp)];rfl
theorem US{b:aW}{i:Nat}{s:Sc}(h:eO b s i=true)(hi:b.lines.length≤i):oN b i s=[[s]]:=by
 unfold oN;rw[aHO hi];unfold sH;rw[aGX h];rfl
theorem NA{b:aW}{i:Nat}{s:Sc}{z:eZ}{pre:List Sc}(h:eO b s i=true)(hd:b.lines.drop i=z::b.lines.drop (i+1)):(oN b i s).map (fun t=>pre++t)=IM b i s z pre (cN b.chairs z).length:=by
 unfold oN IM;rw[hd,aHT];unfold sH;rw[aGX h,List.map_flatMap,List.map_flatMap];congr 1;funext r;by_cases hc:iA s r=true
 ·rw[aGX hc,aGX hc,List.map_map,List.map_map];unfold oN;rw[List.map_map];congr 1;funext x;simp
 ·rw[aGQ hc,aGQ hc];rfl
theorem UY{b:aW}{i:Nat}{s:Sc}{z:eZ}{pre:List Sc}:IM b i s z pre 0=[]:=rfl
theorem aCW{b:aW}{i:Nat}{s:Sc}{z x:eZ}{pre:List Sc}{k:Nat}(hx:(cN b.chairs z)[k]?= some x)(h:iA s x=false):IM b i s z pre (k+1)=IM b i s z pre k:=by
 unfold IM;rw[aGT,hx,aIB,aHG,aHW,aGQ (by rw[h];simp),aGG]
theorem HC{b:aW}{i:Nat}{s:Sc}{z x:eZ}{pre:List Sc}{k:Nat}(hx:(cN b.chairs z)[k]?= some x)(h:iA s x=true):IM b i s z pre (k+1)=IM b i s z pre k++(oN b (i+1) (dO b s i x)).map (fun t=>(pre++[s])++t):=by
 unfold IM;rw[aGT,hx,aIB,aHG,aHW,aGX h]
theorem QE{b:aW}{i:Nat}{s:Sc}{z:eZ}{pre:List Sc}{k:Nat}:∃r,IM b i s z pre (cN b.chairs z).length=IM b i s z pre k++r:=by
 unfold IM;rw[aHT]
 conv=>enter [1,r,1];rw[←aIM k (cN b.chairs z),aHG]
 exact⟨_,rfl⟩
theorem U0{c pre:List Sc}{i:Nat}{s s':Sc}(h:c.take (i+1+1)=(pre++[s])++[s'])(hl:pre.length=i):c.take (i+1)=pre++[s]:=by
 have:=aGV (List.take (i+1)) h;rw[List.take_take,aKC (Nat.le_succ _)]at this;rw[this,aHN Yaf,aHE Yaf]
theorem JM{c pre:List Sc}{i:Nat}{s':Sc}(hi:i<c.length)(h:c.take i=pre):(c.set i s').take (i+1)=pre++[s']:=by
 rw[aGT,List.getElem?_set_self hi,aIB,List.take_set_of_le (aGW _),h]
theorem SA{c pre:List Sc}{i:Nat}{s:Sc}(h:c.take (i+1)=pre++[s])(hl:pre.length=i):c[i]?= some s:=by
 have:(c.take (i+1))[i]?= (pre++[s])[i]? :=by rw[h]
 rw[aJC (Nat.lt_succ_self i),aKM Yd]at this;rw[this];simp[hl]
theorem ap8{bh bs bl bo blo bY br n q1 q2:Nat}{c:List Sc}{cl:List Int}{o1 o2:Obj}(hap:br∉aC.ks ((q2,o2)::(q1,o1)::lF bh bs bl bo blo bY br n c cl))(hnd:(((q2,o2)::(q1,o1)::lF bh bs bl bo blo bY br n c cl).map fun p=>p.1).Nodup):q2∉[br,bs,bo,q1]:=by
 intro h;simp only[aGB,GT,aIY]at h;rcases h with rfl|rfl|rfl|rfl
 ·exact hap (by simp[aC.ks])
 ·simp[lF]at hnd
 ·simp[lF]at hnd
 ·simp at hnd
theorem aDZ{bh bs bl bo blo bY br n q1 q2:Nat}{c:List Sc}{cl:List Int}{o1 o2:Obj}(hnd:(((q2,o2)::(q1,o1)::lF bh bs bl bo blo bY br n c cl).map fun p=>p.1).Nodup):blo∉[bl,bs,q1,q2]∧bo∉[bl,bs,q1,q2]:=by
 constructor
 ·intro h;simp only[aGB,GT,aIY]at h;rcases h with rfl|rfl|rfl|rfl<;>simp[lF]at hnd
 ·intro h;simp only[aGB,GT,aIY]at h;rcases h with rfl|rfl|rfl|rfl<;>simp[lF]at hnd
def aED(b:aW)(J Jx:List (List Sc)→nY)(bh bs bl bo blo bY br:Nat)(pre:List Sc)(s:Sc)(i:Nat)(done:List (List Sc))(v:Value)(J':nY)(μ':aC):Prop:=
 ∃bb c' cl',v=.bool bb∧c'.length=b.lines.length+1∧uK c'∧cl'.length=b.lines.length*3∧c'.take (i+1)=pre++[s]∧μ'=lF bh bs bl bo blo bY br b.lines.length c' cl'∧(if bb=true then J'=J (done++(oN b i s).map fun t=>pre++t)else ∃p,J'=Jx p)
set_option maxHeartbeats 1000000 in
theorem ZI{lo l:Nat}{b:aW}{bv:Value}{xs:List (List Sc)}{Dr Dy:aA}{bh bs bl bo blo bY br:Nat}{lv cv:Value}(hbo:NR b)(hbv:bv=.agg #[.int .i64 b.chairs,.int .i64 b.coin,.int .i64 b.box,lv,cv])(hb0:fP Dr bv b)
  (hA:At Dr br 0 [.int .i64 b.chairs,.int .i64 b.coin,.int .i64 b.box,lv,cv]) (hB:At Dy bY 0 [.func (.yield l) #[] #[]]):
  ∀(j i:Nat) (pre:List Sc) (s:Sc) (c:List Sc) (cl:List Int) (done rest:List (List Sc)) (iv:Int) (Ds:List aA),Dr∈Ds→Dy∈Ds→iv=i→i+j=b.lines.length→pre.length=i→c.length=b.lines.length+1→uK c→cl.length=b.lines.length*3→c.take (i+1)=pre++[s]→aEG b s i→
   xs=done++(oN b i s).map (fun t=>pre++t)++rest→∀(J Jx:List (List Sc)→nY),(∀pre,vI lo (J pre))→(∀pre,vI lo (Jx pre))→aAD Tryz.prog Dr lo l J Jx xs (IL b.lines.length) bM→
   aDT Tryz.prog 235 [.int .i64 iv,.pointer (some ⟨br,0,none⟩),.pointer (some ⟨bs,0,none⟩),.pointer (some ⟨bl,0,none⟩),.pointer (some ⟨bY,0,none⟩),.pointer (some ⟨bh,0,none⟩)] lo (J done) (lF bh bs bl bo blo bY br b.lines.length c cl) Ds (aED b J Jx bh bs bl bo blo bY br pre s i done):=by
 subst hbv;intro j;induction j using Nat.strongRecOn with
 |_ j ih=>
 intro i pre s c cl done rest iv Ds hDr hDy hiv hij hl h9 h10 h11 hp hsb hxs J Jx hs hsx hY;replace ih:=fun j hj i pre s c cl done rest iv Ds h1 h2 h3 h4 h5 h6 h7 h8 h9 h10 h11=>ih j hj i pre s c cl done rest iv Ds h1 h2 h3 h4 h5 h6 h7 h8 h9 h10 h11 J Jx hs hsx hY
 subst hiv;obtain⟨lv',cv',he,hl',hc'⟩:=id hb0;obtain⟨rfl,rfl⟩:=e6 he;have hl8:=hbo.l8;have hch:=hbo.ch;have hco:=hbo.co;have hbx:=hbo.bx;have hmo:=hsb.mo;have hmi:=hsb.mi;have hs10:=uC hsb.lc hsb.lt;refine vR (μ:=lF bh bs bl bo blo bY br b.lines.length c cl) 68 Tryz.func235 rfl rfl rfl rfl<|C.s1<|Zh rfl<|L.n2<|aL<|C.drawA [] 4 8 62 (fun _ _ _ h=>pZ (P:=Tryz.prog) (fn:=Tryz.f235) _ _ _ h)<|Zr rfl Tf.a36 rfl hA Tf.s36<|Zl rfl Tf.a303 rfl (List.Mem.tail _ (List.Mem.head _)) rfl<|Za rfl<|eY rfl U303 Tf.s207 rfl rfl Yd (by push_cast;omega) rfl trivial<|dA (n:=10) (us:=ints (kX s)) rfl Tf.a207 Tf.s207 rfl (LE _ (LE _ (LE _ (GE _)))) (by rw[show 0+((i:Int)).toNat*10=i*10 by omega];exact uS h10 (SA hp hl)) (by simp[hs10]) GT rfl trivial<|Za rfl ?_;refine Zc rfl (fun D1 hD1=>N6 _ b s i _ (hb0.up (hD1 _ Yai)) hsb.lc hsb.lt)<|Zaf rfl<|L.n1<|aQ rfl (fun hc1=>?_) (fun hc1=>?_)
 ·refine C.s1<|Zh rfl<|L.n5<|Zaj ?_;exact gM (P:=Tryz.prog) (fn:=Tryz.f235) (N:=68) (vs:=[_]) rfl rfl ⟨rfl,aLJ⟩ (fun D h=>⟨D,h,Le.refl D⟩) ⟨true,c,cl,rfl,h9,h10,h11,hp,rfl,by simp only[aII];rw[YX (by simpa using hc1)];simp⟩
 ·have hcd:eO b s i=true:=by simpa using hc1
  refine C.kn<|C.s2<|Za rfl<|Zl rfl Tf.a33 rfl (List.Mem.tail _ (List.Mem.tail _ (List.Mem.head _))) rfl<|gW rfl U33 rfl rfl rfl trivial<|dK rfl rfl rfl rfl trivial<|L.n1<|aE rfl (fun hc2=>?_) (fun hc2=>?_)
  ·have hrun:=US hcd (show b.lines.length≤i by omega);have hleaf:pre++[s]=c:=by rw[←hp,aHE Yd]
   rw[hrun,aKN,hleaf,aGN,aJS]at hxs;refine C.s1<|Zf 0 rfl Tf.a362 rfl hB rfl<|Zl rfl Tf.a33 rfl (List.Mem.tail _ (List.Mem.tail _ (List.Mem.head _))) rfl<|Zl rfl Tf.a303 rfl (List.Mem.tail _ (List.Mem.head _)) rfl<|Y7 (l:=l) (J1:=J (done++[c])) (J0:=Jx (done++[c])) rfl rfl rfl rfl (hs _) (hsx _) (fun D w hd hJ hb hl=>hY done c _ D w bo _ ⟨rest,hxs⟩ hd hJ (fun b hbm=>by obtain⟨p,hp,rfl⟩:=aGA.1 hbm;exact aY (hb p hp).1) (hl _ hDr) ⟨blo,rfl⟩ ⟨aGA.2 ⟨_,vN,rfl⟩,(hb _ vN).2,_,_,(hb _ vN).1⟩) rfl aLJ (fun b1 J1 hJ1=>Zh rfl<|L.n5<|Zaj ?_)
   exact gM (P:=Tryz.prog) (fn:=Tryz.f235) (N:=68) (vs:=[_]) rfl rfl ⟨rfl,aLJ⟩ (fun D h=>⟨D,h,Le.refl D⟩) ⟨b1,c,cl,rfl,h9,h10,h11,hp,rfl,by cases b1<;>simp only[hJ1,aII,aHL,aIL];exact⟨_,rfl⟩;rw[hrun,aKN,hleaf]⟩
  ·have hil:i<b.lines.length:=by omega
   obtain⟨z,hz⟩:=C.ge b.lines i;have hdr:b.lines.drop i=z::b.lines.drop (i+1):=by rw[aIJ hil];congr 1;exact aHC ((aGF hil).symm.trans hz)
   have hrun:=NA (pre:=pre) hcd hdr;rw[hrun]at hxs;refine C.kn<|aL<|aL<|iS [] 1 [0,1,2,3,4,5,8,6,7] [false,true,true,true,true,true,true,true,true] [(false,0),(true,1),(true,2),(true,3),(true,4),(true,5),(true,8),(true,6),(true,7)] Tf.follows (fun _ _ _ h=>pZ (P:=Tryz.prog) (fn:=Tryz.f235) _ _ _ h) Yg rfl<|Zr rfl Tf.a36 rfl hA Tf.s36<|Zi rfl Tf.f36_3 rfl<|Zf 3 rfl Tf.a33 rfl hA rfl<|Za rfl<|Zs rfl U33 Tf.s160 rfl hl' rfl hz (fun b1 o1 cs1 hr1 hcl1 hA1=>?_);obtain rfl:cs1=[.int .i64 _,.int .i64 _,.int .i64 _]:=hr1;refine Zr rfl Tf.a160 rfl hA1 Tf.s160<|Za rfl<|cB rfl rfl rfl (fun D2 hD2=>tE _ b z _ (hb0.up (hD2 _ Yai)) Yd) rfl aLJ (fun v2 D2 hD2 hp2=>?_);have hr_:=hp2;have hrl:=hr_.len;refine aV rfl U33 rfl Yk rfl rfl trivial<|L.n1<|Zah<|wN (γ:=Nat×List Sc×List Int) (fun g=>(cN b.chairs z).length-g.1) (fun g=>g.1≤(cN b.chairs z).length∧g.2.1.length=b.lines.length+1∧uK g.2.1∧g.2.2.length=b.lines.length*3∧g.2.1.take (i+1)=pre++[s]) (fun g=>J (done++IM b i s z pre g.1)) (fun g=>[(36,.int .i64 (g.1:Int))]) [(35,_),(34,_),(7,_),(0,_),(1,_),(2,_),(3,_),(5,_)] (fun g=>lF bh bs bl bo blo bY br b.lines.length g.2.1 g.2.2) (fun g=>D2::Ds) (0,c,cl) ⟨by simp,h9,h10,h11,hp⟩ (by simp[UY]) ⟨Yb,aLJ⟩ C.rs (LT _) (aD) ?_;rintro⟨k,c1,cl1⟩ ⟨h12,h91,h92,h93,hp1⟩;simp only at h12 h91 h92 h93 hp1;refine C.s1<|Zad rfl<|L.n2<|aE rfl (fun hc3=>?_) (fun hc3=>?_)
   ·simp only at hc3;obtain⟨x,hx⟩:=C.ge (cN b.chairs z) k;have hin:=((wS (hbo.ln z (aGD hz))).1 (aGD hx)).1;have hn10:(kX (dO b s i x)).length=10:=CL hsb.lc hsb.lt;have hif:(kX (if iA s x=true then dO b s i x else s)).length=10:=by split;exact hn10;exact hs10
    refine C.kn<|aL<|Zah<|C.s1<|Zs rfl U33 Tf.s160 rfl hr_ rfl hx (fun b2 o2 cs2 hr2 hcl2 hA2=>?_);obtain rfl:cs2=[.int .i64 _,.int .i64 _,.int .i64 _]:=hr2;refine Zr rfl Tf.a160 rfl hA2 Tf.s160<|Zw rfl Tf.z160 rfl (fun q1=>Zu rfl Tf.s160 (bL.head)<|L.n2<|kK (dN.mk [br,bs,bo,q1]) 5 [false,true,true,true,true,true,true,true,false,false,true,true,true,false] [.fork [0,1,2,3,4,5,6] 7 (.fin [8,9,10,11]) 11 (.fin [7,8,9,10]),.fin [12,13]] Tf.follows (fun _ _ _ h=>pZ (P:=Tryz.prog) (fn:=Tryz.f235) _ _ _ h) Yg ?_);apply C4 (γ:=Nat) (fun _=>True) _ _ _ [.fork [0,1,2,3,4,5,6] 7 (.fin [8,9,10,11]) 11 (.fin [7,8,9,10])] [.fin [12,13]] rfl
    ·refine nE<|bE [(false,0),(true,1),(true,2),(true,3),(true,4),(true,5),(true,6)] rfl<|cO rfl Tf.a36 rfl hA (aGE _ hDr) Tf.s36 (dN.out Ye) rfl trivial<|aS rfl Tf.a303 rfl (List.Mem.tail _ (List.Mem.tail _ (List.Mem.head _))) rfl (dN.out Ye) rfl trivial<|Za rfl<|eY rfl U303 Tf.s207 rfl rfl Yd (by push_cast;omega) rfl trivial<|dA (n:=10) (us:=ints (kX s)) rfl Tf.a207 Tf.s207 rfl (LE _ (LE _ (LE _ (LE _ (GE _))))) (by rw[show 0+((i:Int)).toNat*10=i*10 by omega];exact uS h92 (SA hp1 hl)) (by simp[hs10]) (dN.out Ye) rfl trivial<|Za rfl<|bK (e:=160) (fz:=(0,0)) rfl Tf.a160 rfl (GE _) Tf.s160 (dN.out Ye) rfl trivial<|Zz (cX true true rfl rfl ?_ ?_)
     ·refine Zc rfl (fun D3 hD3=>B0 _ b s i x _ (hb0.up (hD3 _ Yai)) hsb.lc hsb.lt (by have:=hin.2;omega) (by have:=hin.2;omega) Yd Yd Yd Yd)<|Zz<|aP [(false,8),(false,9),(true,10),(true,11)] rfl<|Za rfl<|Zaa rfl<|Zaa rfl<|Zw rfl Tf.z207 rfl (fun q2=>Zz ?_);exact fun a w hh=>⟨q2,aLJ,hh⟩
     ·refine Zw rfl Tf.z207 rfl (fun q2=>Zz<|aP [(true,7),(false,8),(false,9),(true,10)] rfl<|Zc rfl (fun D3 hD3=>B0 _ b s i x _ (hb0.up (hD3 _ Yai)) hsb.lc hsb.lt (by have:=hin.2;omega) (by have:=hin.2;omega) Yd Yd Yd Yd)<|Za rfl<|Zaa rfl<|Zaa rfl<|Zz ?_);exact fun a w hh=>⟨q2,aLJ,hh.weak C.rs (LT _) aD⟩
    rintro q2 -;refine kW [(true,12),(false,13)] rfl<|bP hA Yai (fun hap=>aBT (fun hnd=>nG (off:=0) (us:=ints (kX (if iA s x=true then dO b s i x else s))) (ws:=ints (kX (if iA s x=true then dO b s i x else s))) rfl rfl rfl rfl (by rw[show(ints _).length=10 by simp[hif]];exact Tf.s207) (bL.head) (by simp[hif]) (by simp[hif]) (cW _) (aGH (dN.in_ (ap8 hap hnd))) trivial<|Zh rfl<|Zz<|kE<|Zag<|C.s2<|Za rfl<|Zaf rfl<|L.n1 ?_));refine aQ rfl (fun hc4=>?_) (fun hc4=>?_)
    ·have hcan:iA s x=false:=by simpa using hc4
     refine aR<|Zai<|Zal<|Zag<|C.rg<|Zx rfl<|Za rfl<|Zz ?_;exact lS 22 (k+1,c1,cl1) ⟨by simp only;omega,h91,h92,h93,hp1⟩ Yn (by rw[aCW hx hcan]) ⟨Yb,aLJ⟩ rfl rfl (List.Sublist.cons _ (List.Sublist.cons _ (LT _))) (aD)
    ·have hcan:iA s x=true:=by simpa using hc4
     rw[aGX hcan];obtain⟨rr,hr⟩:=QE (b:=b) (i:=i) (s:=s) (z:=z) (pre:=pre) (k:=k+1);refine C.kn<|aL<|C.drawA (dN.mk [bl,bs,q1,q2]) 1 11 510 (fun _ _ _ h=>pZ (P:=Tryz.prog) (fn:=Tryz.f235) _ _ _ h)<|aS rfl Tf.a33 rfl (List.Mem.tail _ (List.Mem.tail _ (List.Mem.tail _ (List.Mem.tail _ (List.Mem.head _))))) rfl (dN.out Ye) rfl trivial<|Za rfl<|aS rfl Tf.a303 rfl (List.Mem.tail _ (List.Mem.tail _ (List.Mem.tail _ (List.Mem.head _)))) rfl (dN.out Ye) rfl trivial<|Za rfl<|Zx rfl<|bK (e:=160) (fz:=(0,0)) rfl Tf.a160 rfl (LE _ (GE _)) Tf.s160 (dN.out Ye) rfl trivial<|bK (e:=207) (fz:=(0,0)) rfl Tf.a207 rfl (GE _) (by rw[show(ints _).length=10 by simp[hn10]];exact Tf.s207) (dN.out Ye) rfl trivial<|eY rfl U33 Tf.s160 rfl rfl Yd Yd rfl trivial<|aBT (fun hnd=>?_);refine nG (off:=i*3) (us:=ints [x.kind,x.chair,x.token]) (ws:=ints (wr cl1 (i*3) [x.kind,x.chair,x.token])) rfl (oT Yd) rfl rfl Tf.s160 (.tail (.tail (.tail (.tail (.tail (.tail .head)))))) Yaf XN (cW _) (aGH (dN.in_ (aDZ hnd).1)) trivial<|eY rfl U303 Tf.s207 rfl rfl Yd (by push_cast;omega) rfl trivial<|nG (off:=(i+1)*10) (us:=ints (kX (dO b s i x))) (ws:=bM (c1.set (i+1) (dO b s i x))) rfl (oT Yd) rfl rfl (by rw[show(ints _).length=10 by simp[hn10]];exact Tf.s207) (.tail (.tail (.tail (.tail (.tail .head))))) (by rw[PP h92,aI,hn10];omega) (RA h92 hn10 Yd) (cW _) (aGH (dN.in_ (aDZ hnd).2)) trivial<|L.n2<|YI (μ':=lF bh bs bl bo blo bY br b.lines.length (c1.set (i+1) (dO b s i x)) (wr cl1 (i*3) [x.kind,x.chair,x.token])) 2 rfl<|C.rg<|Zl rfl Tf.a191 rfl (List.Mem.head _) rfl<|Za rfl<|Zx rfl<|nZ rfl rfl rfl rfl (ih (j-1) Yd (i+1) (pre++[s]) (dO b s i x) (c1.set (i+1) (dO b s i x)) (wr cl1 (i*3) [x.kind,x.chair,x.token]) (done++IM b i s z pre k) (rr++rest) (i+1:Int) _ (aGE _ hDr) (aGE _ hDy) Yd Yd Yaf (by simpa using h91) (h92.set hn10 _) (by rw[aDL Yaf];exact h93) (JM Yd hp1) (RW hbo hsb x i) (by rw[hxs,hr,HC hx hcan];simp)) rfl aLJ ?_
     rintro _ J2 _ ⟨b2,c2,cl2,rfl,h9',h10',h11',hp',rfl,hJ2⟩;refine Zaf rfl<|L.n1<|aQ rfl (fun hc5=>?_) (fun hc5=>?_)
     ·obtain rfl:b2=false:=by simpa using hc5
      refine C.s1<|Zh rfl<|L.n5<|aG<|Zaj<|Zaj<|aG<|Zaj ?_;exact gM (P:=Tryz.prog) (fn:=Tryz.f235) (N:=68) (vs:=[_]) rfl rfl ⟨rfl,aLJ⟩ (fun D h=>⟨D,aGE _ h,Le.refl D⟩) ⟨false,c2,cl2,rfl,h9',h10',h11',U0 hp' hl,rfl,by simpa using hJ2⟩
     ·obtain rfl:b2=true:=by simpa using hc5
      refine bR<|Zak<|Zag<|C.rg<|Zx rfl<|Za rfl<|Zz ?_;exact lS 36 (k+1,c2,cl2) ⟨by simp only;omega,h9',h10',h11',U0 hp' hl⟩ Yn (by simpa only[aII,HC hx hcan,aGN]using hJ2) ⟨Yb,aLJ⟩ rfl rfl (LT _) (aD)
   ·have hk:k=(cN b.chairs z).length:=by simp only at hc3;omega
    refine aR<|Zai<|Zai<|Zal<|Zag<|C.s1<|Zh rfl<|L.n5 ?_;exact gM (P:=Tryz.prog) (fn:=Tryz.f235) (N:=68) (vs:=[_]) rfl rfl ⟨rfl,aLJ⟩ (fun D h=>⟨D,aGE _ h,Le.refl D⟩) ⟨true,c1,cl1,rfl,h91,h92,h93,hp1,rfl,by simp only[aII];rw[hrun,hk]⟩
theorem yT{n:Nat}:uK (List.replicate n qK):=fun s hs=>by rw[List.eq_of_mem_replicate hs];rfl
set_option maxHeartbeats 1000000 in
theorem vC{b:aW}{bv lv cv:Value}{Dr:aA}{br:Nat}(hbo:NR b)(hbv:bv=.agg #[.int .i64 b.chairs,.int .i64 b.coin,.int .i64 b.box,lv,cv])(hb0:fP Dr bv b)(hA:At Dr br 0 [.int .i64 b.chairs,.int .i64 b.coin,.int .i64 b.box,lv,cv]):
  HA Tryz.prog 234 [.pointer (some ⟨br,0,none⟩)] Dr (oN b 0 (eG b)) (IL b.lines.length) bM:=by
 subst hbv;obtain⟨lv',cv',he,hl',hc'⟩:=id hb0;obtain⟨rfl,rfl⟩:=e6 he;have hl8:=hbo.l8;refine FM 22 Tryz.func234 rfl rfl rfl rfl (fun lo l J Jx hs hsx hY=>C.s1<|Zv rfl (fun q1 E1 hE1 hB1=>L.n2<|kK (dN.mk [br]) 4 [false,false,false,true,true,true,true,true,true,true,true,true,false] [.forkN [0,1,2,4,5,6,7] 3 [8,9,10] (G2 [(3,.forkN [] 8 [9,10] (G2 [(8,.fork [] 9 (.fin [10,11]) 10 (.fin [9,11])),(9,.fork [] 8 (.fin [10,11]) 10 (.fork [] 8 (.fin [11]) 11 (.fin [8]))),(10,.fork [] 8 (.fin [9,11]) 9 (.fork [] 8 (.fin [11]) 11 (.fin [8])))])),(8,.forkN [] 3 [9,10] (G2 [(3,.fork [] 9 (.fin [10,11]) 10 (.fin [9,11])),(9,.fork [] 3 (.fin [10,11]) 10 (.fin [3,11])),(10,.fork [] 3 (.fin [9,11]) 9 (.fin [3,11]))])),(9,.forkN [] 3 [8,10] (G2 [(3,.fork [] 8 (.fin [10,11]) 10 (.fork [] 8 (.fin [11]) 11 (.fin [8]))),(8,.fork [] 3 (.fin [10,11]) 10 (.fin [3,11])),(10,.fork [] 3 (.fork [] 8 (.fin [11]) 11 (.fin [8])) 8 (.fin [3,11]))])),(10,.forkN [] 3 [8,9] (G2 [(3,.fork [] 8 (.fin [9,11]) 9 (.fork [] 8 (.fin [11]) 11 (.fin [8]))),(8,.fork [] 3 (.fin [9,11]) 9 (.fin [3,11])),(9,.fork [] 3 (.fork [] 8 (.fin [11]) 11 (.fin [8])) 8 (.fin [3,11]))]))]),.fin [12]] Tf.follows (fun _ _ _ h=>pZ (P:=Tryz.prog) (fn:=Tryz.f234) _ _ _ h) Yg<|C4 (γ:=Nat×Nat×Nat×Nat) (fun g=>True) (fun g=>[(3,.pointer (some ⟨g.1,0,none⟩)),(4,.pointer (some ⟨g.2.1,0,none⟩)),(14,.slice (some ⟨g.2.2.1,0,none⟩) (b.lines.length+1) (b.lines.length+1)),(2,.pointer (some ⟨q1,0,none⟩)),(1,.pointer (some ⟨br,0,none⟩)),(0,.func (.yield l) #[] #[])]) (fun g=>[(g.2.1,.cells [.slice none 0 0].toArray 303 (0,0)),(g.1,.cells [.slice (some ⟨g.2.2.2,0,none⟩) b.lines.length b.lines.length].toArray 33 (0,0)),(g.2.2.1,.cells (bM (List.replicate (b.lines.length+1) qK)).toArray 207 (0,0)),(g.2.2.2,.cells (ints (List.replicate (b.lines.length*3) 0)).toArray 160 (0,0))]) (fun g=>[E1,Dr]) [.forkN [0,1,2,4,5,6,7] 3 [8,9,10] (G2 [(3,.forkN [] 8 [9,10] (G2 [(8,.fork [] 9 (.fin [10,11]) 10 (.fin [9,11])),(9,.fork [] 8 (.fin [10,11]) 10 (.fork [] 8 (.fin [11]) 11 (.fin [8]))),(10,.fork [] 8 (.fin [9,11]) 9 (.fork [] 8 (.fin [11]) 11 (.fin [8])))])),(8,.forkN [] 3 [9,10] (G2 [(3,.fork [] 9 (.fin [10,11]) 10 (.fin [9,11])),(9,.fork [] 3 (.fin [10,11]) 10 (.fin [3,11])),(10,.fork [] 3 (.fin [9,11]) 9 (.fin [3,11]))])),(9,.forkN [] 3 [8,10] (G2 [(3,.fork [] 8 (.fin [10,11]) 10 (.fork [] 8 (.fin [11]) 11 (.fin [8]))),(8,.fork [] 3 (.fin [10,11]) 10 (.fin [3,11])),(10,.fork [] 3 (.fork [] 8 (.fin [11]) 11 (.fin [8])) 8 (.fin [3,11]))])),(10,.forkN [] 3 [8,9] (G2 [(3,.fork [] 8 (.fin [9,11]) 9 (.fork [] 8 (.fin [11]) 11 (.fin [8]))),(8,.fork [] 3 (.fin [9,11]) 9 (.fin [3,11])),(9,.fork [] 3 (.fork [] 8 (.fin [11]) 11 (.fin [8])) 8 (.fin [3,11]))]))])] [.fin [12]] rfl ?_ ?_))
 ·refine nE<|lX [(false,0),(false,1),(false,2),(true,4),(true,5),(true,6),(true,7)] rfl<|Zi rfl Tf.f36_3 rfl<|bC rfl (k:=3) Tf.a33 rfl hA Ye rfl (dN.out Ye) rfl trivial<|aV rfl U33 rfl hl' rfl rfl trivial<|Zi rfl Tf.f36_3 rfl<|bC rfl (k:=3) Tf.a33 rfl hA Ye rfl (dN.out Ye) rfl trivial<|aV rfl U33 rfl hl' rfl rfl trivial<|Zx rfl ?_;refine Zz (eH true rfl rfl ?_ (eH true rfl rfl ?_ (eH true rfl rfl ?_ (eH true rfl rfl ?_ (rU)))))
  ·refine aM (n:=b.lines.length) rfl U33 Tf.s160 Tf.z160 rfl Tf.i160 rfl rfl Yd (aU Ye rfl) rfl aLJ (fun blo=>Zz<|lX [] rfl ?_);refine Zz (eH true rfl rfl ?_ (eH true rfl rfl ?_ (eH true rfl rfl ?_ (rU))))
   ·refine aM (n:=b.lines.length+1) rfl U303 Tf.s207 Tf.z207 rfl Tf.i207 Yb Yb Yd ((aU Ye rfl).trans (eK _)) rfl aLJ (fun bo=>Zz<|bE [] rfl<|Zz (cX true true rfl rfl ?_ ?_))
    ·refine Zw rfl Tf.z33 rfl (fun q2=>Zz<|aP [(true,10),(true,11)] rfl<|Zw rfl Tf.z303 rfl (fun q3=>bP hA Ye (fun hap=>Zo 0 [.slice none 0 0] [.slice (some ⟨blo,0,none⟩) b.lines.length b.lines.length] [.slice (some ⟨blo,0,none⟩) b.lines.length b.lines.length] rfl Tf.s33 (.tail (bL.head)) rfl (aGH (dN.in_ Ym))<|Zz ?_)));exact fun a w hh=>⟨(q2,q3,bo,blo),aLJ,(hh.perm (μ':=[(q3,.cells [.slice none 0 0].toArray 303 (0,0)),(q2,.cells [.slice (some ⟨blo,0,none⟩) b.lines.length b.lines.length].toArray 33 (0,0)),(bo,.cells (bM (List.replicate (b.lines.length+1) qK)).toArray 207 (0,0)),(blo,.cells (ints (List.replicate (b.lines.length*3) 0)).toArray 160 (0,0))]) Ye Yz).weak C.rs (LT _) aD⟩
    ·refine Zw rfl Tf.z303 rfl (fun q2=>Zz<|aP [(true,9),(true,11)] rfl<|Zw rfl Tf.z33 rfl (fun q3=>bP hA Ye (fun hap=>Zo 0 [.slice none 0 0] [.slice (some ⟨blo,0,none⟩) b.lines.length b.lines.length] [.slice (some ⟨blo,0,none⟩) b.lines.length b.lines.length] rfl Tf.s33 (bL.head) rfl (aGH (dN.in_ Yr))<|Zz ?_)));exact fun a w hh=>⟨(q3,q2,bo,blo),aLJ,(hh.perm (μ':=[(q2,.cells [.slice none 0 0].toArray 303 (0,0)),(q3,.cells [.slice (some ⟨blo,0,none⟩) b.lines.length b.lines.length].toArray 33 (0,0)),(bo,.cells (bM (List.replicate (b.lines.length+1) qK)).toArray 207 (0,0)),(blo,.cells (ints (List.replicate (b.lines.length*3) 0)).toArray 160 (0,0))]) Ye Yz).weak C.rs (LT _) aD⟩
   ·refine Zw rfl Tf.z33 rfl (fun q2=>Zz<|bE [] rfl<|Zz (cX true true rfl rfl ?_ ?_))
    ·refine aM (n:=b.lines.length+1) rfl U303 Tf.s207 Tf.z207 rfl Tf.i207 Yb Yb Yd ((aU Ye rfl).trans (eK _)) rfl aLJ (fun bo=>Zz<|aP [(true,10),(true,11)] rfl<|Zw rfl Tf.z303 rfl (fun q3=>bP hA Ye (fun hap=>Zo 0 [.slice none 0 0] [.slice (some ⟨blo,0,none⟩) b.lines.length b.lines.length] [.slice (some ⟨blo,0,none⟩) b.lines.length b.lines.length] rfl Tf.s33 (.tail (.tail (bL.head))) rfl (aGH (dN.in_ Yl))<|Zz ?_)));exact fun a w hh=>⟨(q2,q3,bo,blo),aLJ,(hh.perm (μ':=[(q3,.cells [.slice none 0 0].toArray 303 (0,0)),(q2,.cells [.slice (some ⟨blo,0,none⟩) b.lines.length b.lines.length].toArray 33 (0,0)),(bo,.cells (bM (List.replicate (b.lines.length+1) qK)).toArray 207 (0,0)),(blo,.cells (ints (List.replicate (b.lines.length*3) 0)).toArray 160 (0,0))]) Ye Yz).weak C.rs (LT _) aD⟩
    ·refine Zw rfl Tf.z303 rfl (fun q3=>Zz<|bE [] rfl<|Zz (cX true true rfl rfl ?_ ?_))
     ·refine aM (n:=b.lines.length+1) rfl U303 Tf.s207 Tf.z207 rfl Tf.i207 Yb Yb Yd ((aU Ye rfl).trans (eK _)) rfl aLJ (fun bo=>Zz<|aP [(true,11)] rfl<|bP hA Ye (fun hap=>Zo 0 [.slice none 0 0] [.slice (some ⟨blo,0,none⟩) b.lines.length b.lines.length] [.slice (some ⟨blo,0,none⟩) b.lines.length b.lines.length] rfl Tf.s33 (.tail (.tail (bL.head))) rfl (aGH (dN.in_ Yl))<|Zz ?_));exact fun a w hh=>⟨(q2,q3,bo,blo),aLJ,(hh.perm (μ':=[(q3,.cells [.slice none 0 0].toArray 303 (0,0)),(q2,.cells [.slice (some ⟨blo,0,none⟩) b.lines.length b.lines.length].toArray 33 (0,0)),(bo,.cells (bM (List.replicate (b.lines.length+1) qK)).toArray 207 (0,0)),(blo,.cells (ints (List.replicate (b.lines.length*3) 0)).toArray 160 (0,0))]) Ye Yz).weak C.rs (LT _) aD⟩
     ·refine bP hA Ye (fun hap=>Zo 0 [.slice none 0 0] [.slice (some ⟨blo,0,none⟩) b.lines.length b.lines.length] [.slice (some ⟨blo,0,none⟩) b.lines.length b.lines.length] rfl Tf.s33 (.tail (bL.head)) rfl (aGH (dN.in_ Ym))<|Zz<|aP [(true,8)] rfl<|aM (n:=b.lines.length+1) rfl U303 Tf.s207 Tf.z207 rfl Tf.i207 Yb Yb Yd ((aU Ye rfl).trans (eK _)) rfl aLJ (fun bo=>Zz ?_));exact fun a w hh=>⟨(q2,q3,bo,blo),aLJ,(hh.perm (μ':=[(q3,.cells [.slice none 0 0].toArray 303 (0,0)),(q2,.cells [.slice (some ⟨blo,0,none⟩) b.lines.length b.lines.length].toArray 33 (0,0)),(bo,.cells (bM (List.replicate (b.lines.length+1) qK)).toArray 207 (0,0)),(blo,.cells (ints (List.replicate (b.lines.length*3) 0)).toArray 160 (0,0))]) Ye Yz).weak C.rs (LT _) aD⟩
   ·refine Zw rfl Tf.z303 rfl (fun q2=>Zz<|bE [] rfl<|Zz (cX true true rfl rfl ?_ ?_))
    ·refine aM (n:=b.lines.length+1) rfl U303 Tf.s207 Tf.z207 rfl Tf.i207 Yb Yb Yd ((aU Ye rfl).trans (eK _)) rfl aLJ (fun bo=>Zz<|aP [(true,9),(true,11)] rfl<|Zw rfl Tf.z33 rfl (fun q3=>bP hA Ye (fun hap=>Zo 0 [.slice none 0 0] [.slice (some ⟨blo,0,none⟩) b.lines.length b.lines.length] [.slice (some ⟨blo,0,none⟩) b.lines.length b.lines.length] rfl Tf.s33 (bL.head) rfl (aGH (dN.in_ Yr))<|Zz ?_)));exact fun a w hh=>⟨(q3,q2,bo,blo),aLJ,(hh.perm (μ':=[(q2,.cells [.slice none 0 0].toArray 303 (0,0)),(q3,.cells [.slice (some ⟨blo,0,none⟩) b.lines.length b.lines.length].toArray 33 (0,0)),(bo,.cells (bM (List.replicate (b.lines.length+1) qK)).toArray 207 (0,0)),(blo,.cells (ints (List.replicate (b.lines.length*3) 0)).toArray 160 (0,0))]) Ye Yz).weak C.rs (LT _) aD⟩
    ·refine Zw rfl Tf.z33 rfl (fun q3=>Zz<|bE [] rfl<|Zz (cX true true rfl rfl ?_ ?_))
     ·refine aM (n:=b.lines.length+1) rfl U303 Tf.s207 Tf.z207 rfl Tf.i207 Yb Yb Yd ((aU Ye rfl).trans (eK _)) rfl aLJ (fun bo=>Zz<|aP [(true,11)] rfl<|bP hA Ye (fun hap=>Zo 0 [.slice none 0 0] [.slice (some ⟨blo,0,none⟩) b.lines.length b.lines.length] [.slice (some ⟨blo,0,none⟩) b.lines.length b.lines.length] rfl Tf.s33 (.tail (bL.head)) rfl (aGH (dN.in_ Ym))<|Zz ?_));exact fun a w hh=>⟨(q3,q2,bo,blo),aLJ,(hh.perm (μ':=[(q2,.cells [.slice none 0 0].toArray 303 (0,0)),(q3,.cells [.slice (some ⟨blo,0,none⟩) b.lines.length b.lines.length].toArray 33 (0,0)),(bo,.cells (bM (List.replicate (b.lines.length+1) qK)).toArray 207 (0,0)),(blo,.cells (ints (List.replicate (b.lines.length*3) 0)).toArray 160 (0,0))]) Ye Yz).weak C.rs (LT _) aD⟩
     ·refine bP hA Ye (fun hap=>Zo 0 [.slice none 0 0] [.slice (some ⟨blo,0,none⟩) b.lines.length b.lines.length] [.slice (some ⟨blo,0,none⟩) b.lines.length b.lines.length] rfl Tf.s33 (bL.head) rfl (aGH (dN.in_ Yr))<|Zz<|aP [(true,8)] rfl<|aM (n:=b.lines.length+1) rfl U303 Tf.s207 Tf.z207 rfl Tf.i207 Yb Yb Yd ((aU Ye rfl).trans (eK _)) rfl aLJ (fun bo=>Zz ?_));exact fun a w hh=>⟨(q3,q2,bo,blo),aLJ,(hh.perm (μ':=[(q2,.cells [.slice none 0 0].toArray 303 (0,0)),(q3,.cells [.slice (some ⟨blo,0,none⟩) b.lines.length b.lines.length].toArray 33 (0,0)),(bo,.cells (bM (List.replicate (b.lines.length+1) qK)).toArray 207 (0,0)),(blo,.cells (ints (List.replicate (b.lines.length*3) 0)).toArray 160 (0,0))]) Ye Yz).weak C.rs (LT _) aD⟩
  ·refine aM (n:=b.lines.length+1) rfl U303 Tf.s207 Tf.z207 rfl Tf.i207 Yb Yb Yd ((aU Ye rfl).trans (eK _)) rfl aLJ (fun bo=>Zz<|lX [] rfl ?_);refine Zz (eH true rfl rfl ?_ (eH true rfl rfl ?_ (eH true rfl rfl ?_ (rU))))
   ·refine aM (n:=b.lines.length) rfl U33 Tf.s160 Tf.z160 rfl Tf.i160 rfl rfl Yd (aU Ye rfl) rfl aLJ (fun blo=>Zz<|bE [] rfl<|Zz (cX true true rfl rfl ?_ ?_))
    ·refine Zw rfl Tf.z33 rfl (fun q2=>Zz<|aP [(true,10),(true,11)] rfl<|Zw rfl Tf.z303 rfl (fun q3=>bP hA Ye (fun hap=>Zo 0 [.slice none 0 0] [.slice (some ⟨blo,0,none⟩) b.lines.length b.lines.length] [.slice (some ⟨blo,0,none⟩) b.lines.length b.lines.length] rfl Tf.s33 (.tail (bL.head)) rfl (aGH (dN.in_ Ym))<|Zz ?_)));exact fun a w hh=>⟨(q2,q3,bo,blo),aLJ,(hh.perm (μ':=[(q3,.cells [.slice none 0 0].toArray 303 (0,0)),(q2,.cells [.slice (some ⟨blo,0,none⟩) b.lines.length b.lines.length].toArray 33 (0,0)),(bo,.cells (bM (List.replicate (b.lines.length+1) qK)).toArray 207 (0,0)),(blo,.cells (ints (List.replicate (b.lines.length*3) 0)).toArray 160 (0,0))]) Ye Yz).weak C.rs (LT _) aD⟩
    ·refine Zw rfl Tf.z303 rfl (fun q2=>Zz<|aP [(true,9),(true,11)] rfl<|Zw rfl Tf.z33 rfl (fun q3=>bP hA Ye (fun hap=>Zo 0 [.slice none 0 0] [.slice (some ⟨blo,0,none⟩) b.lines.length b.lines.length] [.slice (some ⟨blo,0,none⟩) b.lines.length b.lines.length] rfl Tf.s33 (bL.head) rfl (aGH (dN.in_ Yr))<|Zz ?_)));exact fun a w hh=>⟨(q3,q2,bo,blo),aLJ,(hh.perm (μ':=[(q2,.cells [.slice none 0 0].toArray 303 (0,0)),(q3,.cells [.slice (some ⟨blo,0,none⟩) b.lines.length b.lines.length].toArray 33 (0,0)),(bo,.cells (bM (List.replicate (b.lines.length+1) qK)).toArray 207 (0,0)),(blo,.cells (ints (List.replicate (b.lines.length*3) 0)).toArray 160 (0,0))]) Ye Yz).weak C.rs (LT _) aD⟩
   ·refine Zw rfl Tf.z33 rfl (fun q2=>Zz<|bE [] rfl<|Zz (cX true true rfl rfl ?_ ?_))
    ·refine aM (n:=b.lines.length) rfl U33 Tf.s160 Tf.z160 rfl Tf.i160 rfl rfl Yd (aU Ye rfl) rfl aLJ (fun blo=>Zz<|aP [(true,10),(true,11)] rfl<|Zw rfl Tf.z303 rfl (fun q3=>bP hA Ye (fun hap=>Zo 0 [.slice none 0 0] [.slice (some ⟨blo,0,none⟩) b.lines.length b.lines.length] [.slice (some ⟨blo,0,none⟩) b.lines.length b.lines.length] rfl Tf.s33 (.tail (.tail (bL.head))) rfl (aGH (dN.in_ Yl))<|Zz ?_)));exact fun a w hh=>⟨(q2,q3,bo,blo),aLJ,(hh.perm (μ':=[(q3,.cells [.slice none 0 0].toArray 303 (0,0)),(q2,.cells [.slice (some ⟨blo,0,none⟩) b.lines.length b.lines.length].toArray 33 (0,0)),(bo,.cells (bM (List.replicate (b.lines.length+1) qK)).toArray 207 (0,0)),(blo,.cells (ints (List.replicate (b.lines.length*3) 0)).toArray 160 (0,0))]) Ye Yz).weak C.rs (LT _) aD⟩
    ·refine Zw rfl Tf.z303 rfl (fun q3=>Zz<|aP [(true,3),(true,11)] rfl<|aM (n:=b.lines.length) rfl U33 Tf.s160 Tf.z160 rfl Tf.i160 rfl rfl Yd (aU Ye rfl) rfl aLJ (fun blo=>bP hA Ye (fun hap=>Zo 0 [.slice none 0 0] [.slice (some ⟨blo,0,none⟩) b.lines.length b.lines.length] [.slice (some ⟨blo,0,none⟩) b.lines.length b.lines.length] rfl Tf.s33 (.tail (.tail (bL.head))) rfl (aGH (dN.in_ Yl))<|Zz ?_)));exact fun a w hh=>⟨(q2,q3,bo,blo),aLJ,(hh.perm (μ':=[(q3,.cells [.slice none 0 0].toArray 303 (0,0)),(q2,.cells [.slice (some ⟨blo,0,none⟩) b.lines.length b.lines.length].toArray 33 (0,0)),(bo,.cells (bM (List.replicate (b.lines.length+1) qK)).toArray 207 (0,0)),(blo,.cells (ints (List.replicate (b.lines.length*3) 0)).toArray 160 (0,0))]) Ye Yz).weak C.rs (LT _) aD⟩
   ·refine Zw rfl Tf.z303 rfl (fun q2=>Zz<|bE [] rfl<|Zz (cX true true rfl rfl ?_ ?_))
    ·refine aM (n:=b.lines.length) rfl U33 Tf.s160 Tf.z160 rfl Tf.i160 rfl rfl Yd (aU Ye rfl) rfl aLJ (fun blo=>Zz<|aP [(true,9),(true,11)] rfl<|Zw rfl Tf.z33 rfl (fun q3=>bP hA Ye (fun hap=>Zo 0 [.slice none 0 0] [.slice (some ⟨blo,0,none⟩) b.lines.length b.lines.length] [.slice (some ⟨blo,0,none⟩) b.lines.length b.lines.length] rfl Tf.s33 (bL.head) rfl (aGH (dN.in_ Yr))<|Zz ?_)));exact fun a w hh=>⟨(q3,q2,bo,blo),aLJ,(hh.perm (μ':=[(q2,.cells [.slice none 0 0].toArray 303 (0,0)),(q3,.cells [.slice (some ⟨blo,0,none⟩) b.lines.length b.lines.length].toArray 33 (0,0)),(bo,.cells (bM (List.replicate (b.lines.length+1) qK)).toArray 207 (0,0)),(blo,.cells (ints (List.replicate (b.lines.length*3) 0)).toArray 160 (0,0))]) Ye Yz).weak C.rs (LT _) aD⟩
    ·refine Zw rfl Tf.z33 rfl (fun q3=>Zz<|aP [(true,3),(true,11)] rfl<|aM (n:=b.lines.length) rfl U33 Tf.s160 Tf.z160 rfl Tf.i160 rfl rfl Yd (aU Ye rfl) rfl aLJ (fun blo=>bP hA Ye (fun hap=>Zo 0 [.slice none 0 0] [.slice (some ⟨blo,0,none⟩) b.lines.length b.lines.length] [.slice (some ⟨blo,0,none⟩) b.lines.length b.lines.length] rfl Tf.s33 (.tail (bL.head)) rfl (aGH (dN.in_ Ym))<|Zz ?_)));exact fun a w hh=>⟨(q3,q2,bo,blo),aLJ,(hh.perm (μ':=[(q2,.cells [.slice none 0 0].toArray 303 (0,0)),(q3,.cells [.slice (some ⟨blo,0,none⟩) b.lines.length b.lines.length].toArray 33 (0,0)),(bo,.cells (bM (List.replicate (b.lines.length+1) qK)).toArray 207 (0,0)),(blo,.cells (ints (List.replicate (b.lines.length*3) 0)).toArray 160 (0,0))]) Ye Yz).weak C.rs (LT _) aD⟩
  ·refine Zw rfl Tf.z33 rfl (fun q2=>Zz<|lX [] rfl ?_);refine Zz (eH true rfl rfl ?_ (eH true rfl rfl ?_ (eH true rfl rfl ?_ (rU))))
   ·refine aM (n:=b.lines.length) rfl U33 Tf.s160 Tf.z160 rfl Tf.i160 rfl rfl Yd (aU Ye rfl) rfl aLJ (fun blo=>Zz<|bE [] rfl<|Zz (cX true true rfl rfl ?_ ?_))
    ·refine aM (n:=b.lines.length+1) rfl U303 Tf.s207 Tf.z207 rfl Tf.i207 Yb Yb Yd ((aU Ye rfl).trans (eK _)) rfl aLJ (fun bo=>Zz<|aP [(true,10),(true,11)] rfl<|Zw rfl Tf.z303 rfl (fun q3=>bP hA Ye (fun hap=>Zo 0 [.slice none 0 0] [.slice (some ⟨blo,0,none⟩) b.lines.length b.lines.length] [.slice (some ⟨blo,0,none⟩) b.lines.length b.lines.length] rfl Tf.s33 (.tail (.tail (.tail (bL.head)))) rfl (aGH (dN.in_ Yo))<|Zz ?_)));exact fun a w hh=>⟨(q2,q3,bo,blo),aLJ,(hh.perm (μ':=[(q3,.cells [.slice none 0 0].toArray 303 (0,0)),(q2,.cells [.slice (some ⟨blo,0,none⟩) b.lines.length b.lines.length].toArray 33 (0,0)),(bo,.cells (bM (List.replicate (b.lines.length+1) qK)).toArray 207 (0,0)),(blo,.cells (ints (List.replicate (b.lines.length*3) 0)).toArray 160 (0,0))]) Ye Yz).weak C.rs (LT _) aD⟩
    ·refine Zw rfl Tf.z303 rfl (fun q3=>Zz<|bE [] rfl<|Zz (cX true true rfl rfl ?_ ?_))
     ·refine aM (n:=b.lines.length+1) rfl U303 Tf.s207 Tf.z207 rfl Tf.i207 Yb Yb Yd ((aU Ye rfl).trans (eK _)) rfl aLJ (fun bo=>Zz<|aP [(true,11)] rfl<|bP hA Ye (fun hap=>Zo 0 [.slice none 0 0] [.slice (some ⟨blo,0,none⟩) b.lines.length b.lines.length] [.slice (some ⟨blo,0,none⟩) b.lines.length b.lines.length] rfl Tf.s33 (.tail (.tail (.tail (bL.head)))) rfl (aGH (dN.in_ Yo))<|Zz ?_));exact fun a w hh=>⟨(q2,q3,bo,blo),aLJ,(hh.perm (μ':=[(q3,.cells [.slice none 0 0].toArray 303 (0,0)),(q2,.cells [.slice (some ⟨blo,0,none⟩) b.lines.length b.lines.length].toArray 33 (0,0)),(bo,.cells (bM (List.replicate (b.lines.length+1) qK)).toArray 207 (0,0)),(blo,.cells (ints (List.replicate (b.lines.length*3) 0)).toArray 160 (0,0))]) Ye Yz).weak C.rs (LT _) aD⟩
     ·refine bP hA Ye (fun hap=>Zo 0 [.slice none 0 0] [.slice (some ⟨blo,0,none⟩) b.lines.length b.lines.length] [.slice (some ⟨blo,0,none⟩) b.lines.length b.lines.length] rfl Tf.s33 (.tail (.tail (bL.head))) rfl (aGH (dN.in_ Yl))<|Zz<|aP [(true,8)] rfl<|aM (n:=b.lines.length+1) rfl U303 Tf.s207 Tf.z207 rfl Tf.i207 Yb Yb Yd ((aU Ye rfl).trans (eK _)) rfl aLJ (fun bo=>Zz ?_));exact fun a w hh=>⟨(q2,q3,bo,blo),aLJ,(hh.perm (μ':=[(q3,.cells [.slice none 0 0].toArray 303 (0,0)),(q2,.cells [.slice (some ⟨blo,0,none⟩) b.lines.length b.lines.length].toArray 33 (0,0)),(bo,.cells (bM (List.replicate (b.lines.length+1) qK)).toArray 207 (0,0)),(blo,.cells (ints (List.replicate (b.lines.length*3) 0)).toArray 160 (0,0))]) Ye Yz).weak C.rs (LT _) aD⟩
   ·refine aM (n:=b.lines.length+1) rfl U303 Tf.s207 Tf.z207 rfl Tf.i207 Yb Yb Yd ((aU Ye rfl).trans (eK _)) rfl aLJ (fun bo=>Zz<|bE [] rfl<|Zz (cX true true rfl rfl ?_ ?_))
    ·refine aM (n:=b.lines.length) rfl U33 Tf.s160 Tf.z160 rfl Tf.i160 rfl rfl Yd (aU Ye rfl) rfl aLJ (fun blo=>Zz<|aP [(true,10),(true,11)] rfl<|Zw rfl Tf.z303 rfl (fun q3=>bP hA Ye (fun hap=>Zo 0 [.slice none 0 0] [.slice (some ⟨blo,0,none⟩) b.lines.length b.lines.length] [.slice (some ⟨blo,0,none⟩) b.lines.length b.lines.length] rfl Tf.s33 (.tail (.tail (.tail (bL.head)))) rfl (aGH (dN.in_ Yo))<|Zz ?_)));exact fun a w hh=>⟨(q2,q3,bo,blo),aLJ,(hh.perm (μ':=[(q3,.cells [.slice none 0 0].toArray 303 (0,0)),(q2,.cells [.slice (some ⟨blo,0,none⟩) b.lines.length b.lines.length].toArray 33 (0,0)),(bo,.cells (bM (List.replicate (b.lines.length+1) qK)).toArray 207 (0,0)),(blo,.cells (ints (List.replicate (b.lines.length*3) 0)).toArray 160 (0,0))]) Ye Yz).weak C.rs (LT _) aD⟩
    ·refine Zw rfl Tf.z303 rfl (fun q3=>Zz<|aP [(true,3),(true,11)] rfl<|aM (n:=b.lines.length) rfl U33 Tf.s160 Tf.z160 rfl Tf.i160 rfl rfl Yd (aU Ye rfl) rfl aLJ (fun blo=>bP hA Ye (fun hap=>Zo 0 [.slice none 0 0] [.slice (some ⟨blo,0,none⟩) b.lines.length b.lines.length] [.slice (some ⟨blo,0,none⟩) b.lines.length b.lines.length] rfl Tf.s33 (.tail (.tail (.tail (bL.head)))) rfl (aGH (dN.in_ Yo))<|Zz ?_)));exact fun a w hh=>⟨(q2,q3,bo,blo),aLJ,(hh.perm (μ':=[(q3,.cells [.slice none 0 0].toArray 303 (0,0)),(q2,.cells [.slice (some ⟨blo,0,none⟩) b.lines.length b.lines.length].toArray 33 (0,0)),(bo,.cells (bM (List.replicate (b.lines.length+1) qK)).toArray 207 (0,0)),(blo,.cells (ints (List.replicate (b.lines.length*3) 0)).toArray 160 (0,0))]) Ye Yz).weak C.rs (LT _) aD⟩
   ·refine Zw rfl Tf.z303 rfl (fun q3=>Zz<|bE [] rfl<|Zz (cX true true rfl rfl ?_ ?_))
    ·refine aM (n:=b.lines.length) rfl U33 Tf.s160 Tf.z160 rfl Tf.i160 rfl rfl Yd (aU Ye rfl) rfl aLJ (fun blo=>Zz<|bE [] rfl<|Zz (cX true true rfl rfl ?_ ?_))
     ·refine aM (n:=b.lines.length+1) rfl U303 Tf.s207 Tf.z207 rfl Tf.i207 Yb Yb Yd ((aU Ye rfl).trans (eK _)) rfl aLJ (fun bo=>Zz<|aP [(true,11)] rfl<|bP hA Ye (fun hap=>Zo 0 [.slice none 0 0] [.slice (some ⟨blo,0,none⟩) b.lines.length b.lines.length] [.slice (some ⟨blo,0,none⟩) b.lines.length b.lines.length] rfl Tf.s33 (.tail (.tail (.tail (bL.head)))) rfl (aGH (dN.in_ Yo))<|Zz ?_));exact fun a w hh=>⟨(q2,q3,bo,blo),aLJ,(hh.perm (μ':=[(q3,.cells [.slice none 0 0].toArray 303 (0,0)),(q2,.cells [.slice (some ⟨blo,0,none⟩) b.lines.length b.lines.length].toArray 33 (0,0)),(bo,.cells (bM (List.replicate (b.lines.length+1) qK)).toArray 207 (0,0)),(blo,.cells (ints (List.replicate (b.lines.length*3) 0)).toArray 160 (0,0))]) Ye Yz).weak C.rs (LT _) aD⟩
     ·refine bP hA Ye (fun hap=>Zo 0 [.slice none 0 0] [.slice (some ⟨blo,0,none⟩) b.lines.length b.lines.length] [.slice (some ⟨blo,0,none⟩) b.lines.length b.lines.length] rfl Tf.s33 (.tail (.tail (bL.head))) rfl (aGH (dN.in_ Yl))<|Zz<|aP [(true,8)] rfl<|aM (n:=b.lines.length+1) rfl U303 Tf.s207 Tf.z207 rfl Tf.i207 Yb Yb Yd ((aU Ye rfl).trans (eK _)) rfl aLJ (fun bo=>Zz ?_));exact fun a w hh=>⟨(q2,q3,bo,blo),aLJ,(hh.perm (μ':=[(q3,.cells [.slice none 0 0].toArray 303 (0,0)),(q2,.cells [.slice (some ⟨blo,0,none⟩) b.lines.length b.lines.length].toArray 33 (0,0)),(bo,.cells (bM (List.replicate (b.lines.length+1) qK)).toArray 207 (0,0)),(blo,.cells (ints (List.replicate (b.lines.length*3) 0)).toArray 160 (0,0))]) Ye Yz).weak C.rs (LT _) aD⟩
    ·refine aM (n:=b.lines.length+1) rfl U303 Tf.s207 Tf.z207 rfl Tf.i207 Yb Yb Yd ((aU Ye rfl).trans (eK _)) rfl aLJ (fun bo=>Zz<|aP [(true,3),(true,11)] rfl<|aM (n:=b.lines.length) rfl U33 Tf.s160 Tf.z160 rfl Tf.i160 rfl rfl Yd (aU Ye rfl) rfl aLJ (fun blo=>bP hA Ye (fun hap=>Zo 0 [.slice none 0 0] [.slice (some ⟨blo,0,none⟩) b.lines.length b.lines.length] [.slice (some ⟨blo,0,none⟩) b.lines.length b.lines.length] rfl Tf.s33 (.tail (.tail (.tail (bL.head)))) rfl (aGH (dN.in_ Yo))<|Zz ?_)));exact fun a w hh=>⟨(q2,q3,bo,blo),aLJ,(hh.perm (μ':=[(q3,.cells [.slice none 0 0].toArray 303 (0,0)),(q2,.cells [.slice (some ⟨blo,0,none⟩) b.lines.length b.lines.length].toArray 33 (0,0)),(bo,.cells (bM (List.replicate (b.lines.length+1) qK)).toArray 207 (0,0)),(blo,.cells (ints (List.replicate (b.lines.length*3) 0)).toArray 160 (0,0))]) Ye Yz).weak C.rs (LT _) aD⟩
  ·refine Zw rfl Tf.z303 rfl (fun q2=>Zz<|lX [] rfl ?_);refine Zz (eH true rfl rfl ?_ (eH true rfl rfl ?_ (eH true rfl rfl ?_ (rU))))
   ·refine aM (n:=b.lines.length) rfl U33 Tf.s160 Tf.z160 rfl Tf.i160 rfl rfl Yd (aU Ye rfl) rfl aLJ (fun blo=>Zz<|bE [] rfl<|Zz (cX true true rfl rfl ?_ ?_))
    ·refine aM (n:=b.lines.length+1) rfl U303 Tf.s207 Tf.z207 rfl Tf.i207 Yb Yb Yd ((aU Ye rfl).trans (eK _)) rfl aLJ (fun bo=>Zz<|aP [(true,9),(true,11)] rfl<|Zw rfl Tf.z33 rfl (fun q3=>bP hA Ye (fun hap=>Zo 0 [.slice none 0 0] [.slice (some ⟨blo,0,none⟩) b.lines.length b.lines.length] [.slice (some ⟨blo,0,none⟩) b.lines.length b.lines.length] rfl Tf.s33 (bL.head) rfl (aGH (dN.in_ Yr))<|Zz ?_)));exact fun a w hh=>⟨(q3,q2,bo,blo),aLJ,(hh.perm (μ':=[(q2,.cells [.slice none 0 0].toArray 303 (0,0)),(q3,.cells [.slice (some ⟨blo,0,none⟩) b.lines.length b.lines.length].toArray 33 (0,0)),(bo,.cells (bM (List.replicate (b.lines.length+1) qK)).toArray 207 (0,0)),(blo,.cells (ints (List.replicate (b.lines.length*3) 0)).toArray 160 (0,0))]) Ye Yz).weak C.rs (LT _) aD⟩
    ·refine Zw rfl Tf.z33 rfl (fun q3=>Zz<|bE [] rfl<|Zz (cX true true rfl rfl ?_ ?_))
     ·refine aM (n:=b.lines.length+1) rfl U303 Tf.s207 Tf.z207 rfl Tf.i207 Yb Yb Yd ((aU Ye rfl).trans (eK _)) rfl aLJ (fun bo=>Zz<|aP [(true,11)] rfl<|bP hA Ye (fun hap=>Zo 0 [.slice none 0 0] [.slice (some ⟨blo,0,none⟩) b.lines.length b.lines.length] [.slice (some ⟨blo,0,none⟩) b.lines.length b.lines.length] rfl Tf.s33 (.tail (bL.head)) rfl (aGH (dN.in_ Ym))<|Zz ?_));exact fun a w hh=>⟨(q3,q2,bo,blo),aLJ,(hh.perm (μ':=[(q2,.cells [.slice none 0 0].toArray 303 (0,0)),(q3,.cells [.slice (some ⟨blo,0,none⟩) b.lines.length b.lines.length].toArray 33 (0,0)),(bo,.cells (bM (List.replicate (b.lines.length+1) qK)).toArray 207 (0,0)),(blo,.cells (ints (List.replicate (b.lines.length*3) 0)).toArray 160 (0,0))]) Ye Yz).weak C.rs (LT _) aD⟩
     ·refine bP hA Ye (fun hap=>Zo 0 [.slice none 0 0] [.slice (some ⟨blo,0,none⟩) b.lines.length b.lines.length] [.slice (some ⟨blo,0,none⟩) b.lines.length b.lines.length] rfl Tf.s33 (bL.head) rfl (aGH (dN.in_ Yr))<|Zz<|aP [(true,8)] rfl<|aM (n:=b.lines.length+1) rfl U303 Tf.s207 Tf.z207 rfl Tf.i207 Yb Yb Yd ((aU Ye rfl).trans (eK _)) rfl aLJ (fun bo=>Zz ?_));exact fun a w hh=>⟨(q3,q2,bo,blo),aLJ,(hh.perm (μ':=[(q2,.cells [.slice none 0 0].toArray 303 (0,0)),(q3,.cells [.slice (some ⟨blo,0,none⟩) b.lines.length b.lines.length].toArray 33 (0,0)),(bo,.cells (bM (List.replicate (b.lines.length+1) qK)).toArray 207 (0,0)),(blo,.cells (ints (List.replicate (b.lines.length*3) 0)).toArray 160 (0,0))]) Ye Yz).weak C.rs (LT _) aD⟩
   ·refine aM (n:=b.lines.length+1) rfl U303 Tf.s207 Tf.z207 rfl Tf.i207 Yb Yb Yd ((aU Ye rfl).trans (eK _)) rfl aLJ (fun bo=>Zz<|bE [] rfl<|Zz (cX true true rfl rfl ?_ ?_))
    ·refine aM (n:=b.lines.length) rfl U33 Tf.s160 Tf.z160 rfl Tf.i160 rfl rfl Yd (aU Ye rfl) rfl aLJ (fun blo=>Zz<|aP [(true,9),(true,11)] rfl<|Zw rfl Tf.z33 rfl (fun q3=>bP hA Ye (fun hap=>Zo 0 [.slice none 0 0] [.slice (some ⟨blo,0,none⟩) b.lines.length b.lines.length] [.slice (some ⟨blo,0,none⟩) b.lines.length b.lines.length] rfl Tf.s33 (bL.head) rfl (aGH (dN.in_ Yr))<|Zz ?_)));exact fun a w hh=>⟨(q3,q2,bo,blo),aLJ,(hh.perm (μ':=[(q2,.cells [.slice none 0 0].toArray 303 (0,0)),(q3,.cells [.slice (some ⟨blo,0,none⟩) b.lines.length b.lines.length].toArray 33 (0,0)),(bo,.cells (bM (List.replicate (b.lines.length+1) qK)).toArray 207 (0,0)),(blo,.cells (ints (List.replicate (b.lines.length*3) 0)).toArray 160 (0,0))]) Ye Yz).weak C.rs (LT _) aD⟩
    ·refine Zw rfl Tf.z33 rfl (fun q3=>Zz<|aP [(true,3),(true,11)] rfl<|aM (n:=b.lines.length) rfl U33 Tf.s160 Tf.z160 rfl Tf.i160 rfl rfl Yd (aU Ye rfl) rfl aLJ (fun blo=>bP hA Ye (fun hap=>Zo 0 [.slice none 0 0] [.slice (some ⟨blo,0,none⟩) b.lines.length b.lines.length] [.slice (some ⟨blo,0,none⟩) b.lines.length b.lines.length] rfl Tf.s33 (.tail (bL.head)) rfl (aGH (dN.in_ Ym))<|Zz ?_)));exact fun a w hh=>⟨(q3,q2,bo,blo),aLJ,(hh.perm (μ':=[(q2,.cells [.slice none 0 0].toArray 303 (0,0)),(q3,.cells [.slice (some ⟨blo,0,none⟩) b.lines.length b.lines.length].toArray 33 (0,0)),(bo,.cells (bM (List.replicate (b.lines.length+1) qK)).toArray 207 (0,0)),(blo,.cells (ints (List.replicate (b.lines.length*3) 0)).toArray 160 (0,0))]) Ye Yz).weak C.rs (LT _) aD⟩
   ·refine Zw rfl Tf.z33 rfl (fun q3=>Zz<|bE [] rfl<|Zz (cX true true rfl rfl ?_ ?_))
    ·refine aM (n:=b.lines.length) rfl U33 Tf.s160 Tf.z160 rfl Tf.i160 rfl rfl Yd (aU Ye rfl) rfl aLJ (fun blo=>Zz<|bE [] rfl<|Zz (cX true true rfl rfl ?_ ?_))
     ·refine aM (n:=b.lines.length+1) rfl U303 Tf.s207 Tf.z207 rfl Tf.i207 Yb Yb Yd ((aU Ye rfl).trans (eK _)) rfl aLJ (fun bo=>Zz<|aP [(true,11)] rfl<|bP hA Ye (fun hap=>Zo 0 [.slice none 0 0] [.slice (some ⟨blo,0,none⟩) b.lines.length b.lines.length] [.slice (some ⟨blo,0,none⟩) b.lines.length b.lines.length] rfl Tf.s33 (.tail (.tail (bL.head))) rfl (aGH (dN.in_ Yl))<|Zz ?_));exact fun a w hh=>⟨(q3,q2,bo,blo),aLJ,(hh.perm (μ':=[(q2,.cells [.slice none 0 0].toArray 303 (0,0)),(q3,.cells [.slice (some ⟨blo,0,none⟩) b.lines.length b.lines.length].toArray 33 (0,0)),(bo,.cells (bM (List.replicate (b.lines.length+1) qK)).toArray 207 (0,0)),(blo,.cells (ints (List.replicate (b.lines.length*3) 0)).toArray 160 (0,0))]) Ye Yz).weak C.rs (LT _) aD⟩
     ·refine bP hA Ye (fun hap=>Zo 0 [.slice none 0 0] [.slice (some ⟨blo,0,none⟩) b.lines.length b.lines.length] [.slice (some ⟨blo,0,none⟩) b.lines.length b.lines.length] rfl Tf.s33 (.tail (bL.head)) rfl (aGH (dN.in_ Ym))<|Zz<|aP [(true,8)] rfl<|aM (n:=b.lines.length+1) rfl U303 Tf.s207 Tf.z207 rfl Tf.i207 Yb Yb Yd ((aU Ye rfl).trans (eK _)) rfl aLJ (fun bo=>Zz ?_));exact fun a w hh=>⟨(q3,q2,bo,blo),aLJ,(hh.perm (μ':=[(q2,.cells [.slice none 0 0].toArray 303 (0,0)),(q3,.cells [.slice (some ⟨blo,0,none⟩) b.lines.length b.lines.length].toArray 33 (0,0)),(bo,.cells (bM (List.replicate (b.lines.length+1) qK)).toArray 207 (0,0)),(blo,.cells (ints (List.replicate (b.lines.length*3) 0)).toArray 160 (0,0))]) Ye Yz).weak C.rs (LT _) aD⟩
    ·refine aM (n:=b.lines.length+1) rfl U303 Tf.s207 Tf.z207 rfl Tf.i207 Yb Yb Yd ((aU Ye rfl).trans (eK _)) rfl aLJ (fun bo=>Zz<|aP [(true,3),(true,11)] rfl<|aM (n:=b.lines.length) rfl U33 Tf.s160 Tf.z160 rfl Tf.i160 rfl rfl Yd (aU Ye rfl) rfl aLJ (fun blo=>bP hA Ye (fun hap=>Zo 0 [.slice none 0 0] [.slice (some ⟨blo,0,none⟩) b.lines.length b.lines.length] [.slice (some ⟨blo,0,none⟩) b.lines.length b.lines.length] rfl Tf.s33 (.tail (.tail (bL.head))) rfl (aGH (dN.in_ Yl))<|Zz ?_)));exact fun a w hh=>⟨(q3,q2,bo,blo),aLJ,(hh.perm (μ':=[(q2,.cells [.slice none 0 0].toArray 303 (0,0)),(q3,.cells [.slice (some ⟨blo,0,none⟩) b.lines.length b.lines.length].toArray 33 (0,0)),(bo,.cells (bM (List.replicate (b.lines.length+1) qK)).toArray 207 (0,0)),(blo,.cells (ints (List.replicate (b.lines.length*3) 0)).toArray 160 (0,0))]) Ye Yz).weak C.rs (LT _) aD⟩
 rintro⟨bl,bs,bo,blo⟩ -;dsimp only;refine kW [(false,12)] rfl<|Zn rfl Tf.s303 (bL.head) rfl<|Zz<|kE<|Zag<|C.s1<|Zw rfl Tf.z191 rfl (fun q4=>L.n3<|bB rfl rfl rfl rfl trivial<|Zn rfl Tf.s191 (bL.head) rfl<|L.n2<|C.drawA [] 1 5 6 (fun _ _ _ h=>pZ (P:=Tryz.prog) (fn:=Tryz.f234) _ _ _ h) ?_);refine Zl rfl Tf.a303 rfl (LE _ (GE _)) rfl<|Zr rfl Tf.a36 rfl hA Tf.s36<|Zc rfl (fun D1 hD1=>pA _ b _ (hb0.up (hD1 _ Ye)))<|eY rfl U303 Tf.s207 rfl rfl Yd (by push_cast;omega) rfl trivial<|aX (off:=0*10) (us:=ints (kX (eG b))) (ws:=bM ((List.replicate (b.lines.length+1) qK).set 0 (eG b))) rfl (oT Yd) rfl rfl Tf.s207 (.tail (.tail (.tail (bL.head)))) (by rw[PP yT,aI,show(kX (eG b)).length=10 from rfl,List.length_replicate];omega) (RA yT rfl Ye) (cW _) trivial<|L.n1<|C.rg<|Zl rfl Tf.a191 rfl (List.Mem.head _) rfl<|nZ rfl rfl rfl rfl (ZI (l:=l) hbo rfl hb0 hA hB1 b.lines.length 0 [] (eG b) ((List.replicate (b.lines.length+1) qK).set 0 (eG b)) (List.replicate (b.lines.length*3) 0) [] [] 0 _ Ye Ye rfl Yd rfl Ye (yT.set rfl _) Ye (by simp[List.replicate_succ]) (A9 b) Ye J Jx hs hsx hY) rfl aLJ ?_
 rintro _ J2 _ ⟨b2,c2,cl2,rfl,h9',h10',h11',hp',rfl,hJ2⟩;refine Zz ?_;exact gM (P:=Tryz.prog) (fn:=Tryz.f234) (N:=22) (vs:=[]) rfl rfl aLJ (fun D h=>⟨D,by simp only[aGU]at h;subst h;simp,Le.refl D⟩) (by cases b2<;>simp at hJ2;exact aGH hJ2;exact aGR hJ2)
theorem FV(bv:Value)(b:aW)(D:aA)(hb:fP D bv b)(hbo:NR b):
  Fn Tryz.prog 154 #[bv] D (fun D' v=>∃br,v=.func (.func 234) #[] #[.pointer (some ⟨br,0,none⟩)]∧HA Tryz.prog 234 [.pointer (some ⟨br,0,none⟩)] D' (oN b 0 (eG b)) (IL b.lines.length) bM):=by
 have hb0:=hb;obtain⟨lv,cv,rfl,hl,hc⟩:=hb;refine enter 4 Tryz.func154 rfl rfl rfl rfl fun h0=>C.s1<|Zv rfl (fun q1 E1 hE1 hB1=>Zh rfl<|L.n3<|bB rfl rfl rfl rfl trivial<|Zh rfl<|L.n5 ?_)
 exact leave1 rfl rfl rfl rfl (fun D hD=>⟨_,rfl,vC hbo rfl (hb0.up (hD _ Ye)) (hB1.up (hD _ Ye))⟩)
end L3
end Go.Fs
namespace Go.Fs
open Go.Proofs
namespace L3
open L1
open C3
theorem IQ(b:aW):∀(ls:List eZ) (i:Nat) (s:Sc),s.ch.length=4→s.tk.length=4→∀x∈sH b ls i s,x.2.length=ls.length+1∧∀u∈x.2,u.ch.length=4∧u.tk.length=4
  | [],i,s,h4,h5,x,hx=>by
    unfold sH at hx;split at hx
    · obtain rfl:x=([],[s]):=by simpa using hx
      exact ⟨rfl, fun u hu => by obtain rfl : u = s := by simpa using hu
                                 exact⟨h4,h5⟩⟩
    · cases hx
  |l::ls,i,s,h4,h5,x,hx=>by
    unfold sH at hx;split at hx
    · obtain⟨r,_,hr⟩:=aLG.1 hx;split at hr
      · obtain⟨y,hy,rfl⟩:=aGA.1 hr;obtain⟨g1,g2⟩:=IQ b ls (i+1) (dO b s i r) (by unfold dO;split<;>simp[h4]) (by unfold dO;split<;>simp[h5]) y hy
        refine⟨by simp[g1],fun u hu=>?_⟩;rcases aGB.1 hu with rfl|hu
        · exact⟨h4,h5⟩
        · exact g2 u hu
      · cases hr
    · cases hx
theorem p4{b:aW}(hn:b.chairs≤4):∀(ls:List eZ) (i:Nat) (s:Sc),(sH b ls i s).length≤32^ls.length
 | [],i,s=>by unfold sH;split<;>simp
 |l::ls,i,s=>by
  unfold sH;split
  ·rw[List.length_flatMap];have h1:∀(rs:List eZ),(rs.map fun r=>(if iA s r=true then(sH b ls (i+1) (dO b s i r)).map fun x=>(r::x.1,s::x.2)else []).length).sum≤rs.length*32^ls.length:=by
    intro rs;induction rs with
    |nil=>simp
    |cons r rs ih=>
     rw[aHB,List.sum_cons,aGM,aIW,Nat.one_mul,Nat.add_comm];refine Nat.add_le_add ih ?_;split
     ·rw[aHR];exact p4 hn ls _ _
     ·simp
   have h2:=h1 (cN b.chairs l);have h3:=DB (l:=l) hn;have h4:(cN b.chairs l).length*32^ls.length≤32*32^ls.length:=aKR _ h3;rw[aGM,Nat.pow_succ,Nat.mul_comm];omega
  ·simp
theorem SX{b:aW}(hbo:NR b):(oN b 0 (eG b)).length≤1099511627776:=by
 unfold oN;rw[aHR];have h1:=p4 hbo.ch.2 (b.lines.drop 0) 0 (eG b);have h2:32^(b.lines.drop 0).length≤32^8:=aJW Yd (by rw[aJU];exact hbo.l8)
 omega
theorem LH{b:aW}(hbo:NR b){x:List Sc}{pre r:List (List Sc)}(h:oN b 0 (eG b)=pre++x::r):x.length=b.lines.length+1∧(∀u∈x,u.ch.length=4∧u.tk.length=4)∧pre.length<1099511627776:=by
 have hm:x∈oN b 0 (eG b):=by rw[h];simp
 obtain⟨y,hy,rfl⟩:=aGA.1 hm;obtain⟨g1,g2⟩:=IQ b _ _ _ rfl rfl y hy;refine⟨by simpa using g1,g2,?_⟩;have:=SX hbo;rw[h]at this;simp at this;omega
theorem aBX{x:List Sc}{k:Nat}{u:Sc}(h:x[k]?= some u):aAY x k=u:=by unfold aAY;rw[aHP,h];rfl
theorem aAT{D:aA}{bo n:Nat}{x:List Sc}(h:At D bo 0 (bM x))(hx:x.length=n)(h4:∀u∈x,u.ch.length=4∧u.tk.length=4)(hn:n≤1000):Sl D CH 10 (.slice (some ⟨bo,0,none⟩) n n) x:=by
 have h10:uK x:=fun u hu=>uC (h4 u hu).1 (h4 u hu).2
 refine⟨_,n,by rw[hx],by omega,by omega,aGH ⟨bo,0,rfl,fun i u hi=>⟨_,rfl,by rw[aI,h10 u (aGD hi)],fun j v hj=>?_⟩⟩⟩;have:=uS h10 hi;rw[←this,List.getElem?_take]at hj;split at hj
 ·rw[aIQ]at hj;have:=h _ v hj;rw[show 0+i*10+j=0+(i*10+j) by omega];exact this
 ·cases hj


end L3
end Go.Fs
namespace Go.Fs
open Go.Proofs
namespace L3
open L1
open C3
theorem ET(s:Sc)(D:aA)(h4:s.ch.length=4)(h5:s.tk.length=4):Fn Tryz.prog 94 #[FR s] D (fun _ v=>v=.int .i64 s.money):=by
 refine enter 5 Tryz.func94 rfl rfl rfl rfl fun h0=>C.s1<|Zv rfl (fun q1 E1 hE1 hB1=>Zh rfl<|L.n3<|Zi rfl Tf.f207_2 rfl<|bC (v:=.int .i64 s.money) rfl (k:=8) Tf.a3 rfl hB1 Yc (cA (rV h4 h5)) GT rfl trivial<|Zh rfl<|L.n5 ?_)
 exact leave1 rfl rfl rfl rfl (fun D hD=>rfl)
end L3
end Go.Fs
namespace Go.Fs
open Go.Proofs
namespace L3
open L1
open C3
def u6(F:Sc→Int)(b:aW)(k:Nat):Int×Int:=(C1.oZ (((oN b 0 (eG b)).map fun x=>aAY x k).map F),C1.nI (((oN b 0 (eG b)).map fun x=>aAY x k).map F))
def BF(F:Sc→Int)(ss:List Sc)(g:(Int×Int)×Bool):Prop:=(g.2=true∧ss=[]∧g.1=(0,0))∨(g.2=false∧ss≠[]∧g.1=(C1.oZ (ss.map F),C1.nI (ss.map F)))
theorem NV{l:List Int}{x:Int}(h:l≠[]):C1.oZ (l++[x])=min (C1.oZ l) x:=by
 cases l with
 |nil=>exact absurd rfl h
 |cons a l=>show(l++[x]).foldl min a=_;rw[aIG];rfl
theorem KX{l:List Int}{x:Int}(h:l≠[]):C1.nI (l++[x])=max (C1.nI l) x:=by
 cases l with
 |nil=>exact absurd rfl h
 |cons a l=>show(l++[x]).foldl max a=_;rw[aIG];rfl
theorem BF.add{F:Sc→Int}{ss:List Sc}{r r':Int×Int}{fb:Bool}{s u:Sc}(h:BF F ss (r,fb))(e:s=u)(hc:(fb=true∧r'=(F u,F u))∨(fb=false∧r'=r)):BF F (ss++[s]) ((min r'.1 (F u),max r'.2 (F u)),false):=by
 subst e;refine aGH ⟨rfl,by simp,?_⟩;rcases hc with⟨h1,rfl⟩|⟨h1,rfl⟩
 ·rcases h with⟨_,rfl,_⟩|⟨h2,_⟩
  ·simp[C1.oZ,C1.nI]
  ·simp only at h2;rw[h1]at h2;cases h2
 ·rcases h with⟨h2,_⟩|⟨_,h3,h4⟩
  ·simp only at h2;rw[h1]at h2;cases h2
  ·simp only at h4;subst h4;have hne:ss.map F≠[]:=by simpa using h3
   rw[aGS,aKN,NV hne,KX hne]
theorem BF.all{F:Sc→Int}{b:aW}{k:Nat}{r:Int×Int}{fb:Bool}(h:BF F ((oN b 0 (eG b)).map fun x=>aAY x k) (r,fb)):iL r=iL (u6 F b k):=by
 unfold u6;rcases h with⟨_,h1,h2⟩|⟨_,_,h2⟩
 ·rw[h1];simp only at h2;rw[h2];rfl
 ·simp only at h2;rw[h2]
theorem T1{b:aW}{fine:Bool}(h:sI b fine=0):aT b=0∧fine=true:=by
 unfold sI at h;split at h
 ·rename_i hf;exact absurd h hf
 ·rename_i hf;split at h
  ·omega
  ·rename_i h2;exact⟨by simpa using hf,by simpa using h2⟩
theorem GA(F:Sc→Int)(bv:Value)(b:aW)(k:Nat)(fo:FuncId)(D:aA)(hb:fP D bv b)(hbo:NR b)(hk:k≤b.lines.length)
  (hq:∀s D,s.ch.length=4→s.tk.length=4→Fn Tryz.prog fo #[FR s] D (fun _ v=>v=.int .i64 (F s))):
  Fn Tryz.prog 93 #[bv,.int .i64 (k:Int),.func (.func fo) #[] #[]] D (fun _ v=>v=iL (u6 F b k)):=by
 have hb0:=hb;obtain⟨lv,cv,rfl,hl,hc⟩:=hb;have hch:=hbo.ch;have hl8:=hbo.l8;refine J6 29 Tryz.func93 rfl rfl rfl rfl (fun h0=>C.s1<|Zv rfl (fun q1 E1 hE1 hB1=>Zv rfl (fun q2 E2 hE2 hB2=>Zv rfl (fun q3 E3 hE3 hB3=>Zw rfl Tf.z65 rfl (fun q4=>L.n3<|Zw rfl Tf.z4 rfl (fun q5=>Zn rfl Tf.s4 (bL.head) rfl<|L.n4<|Zr rfl Tf.a36 rfl hB1 Tf.s36<|cB rfl rfl rfl (fun D1 hD1=>FV _ b _ (hb0.up (hD1 _ Ye)) hbo) rfl aLJ (fun v1 D1 hD1 hp1=>?_)))))));refine L.n1<|Zah ?_;obtain⟨br,rfl,hit⟩:=hp1;refine d4 (γ:=(Int×Int)×Bool) (xs:=oN b 0 (eG b)) (enc:=IL b.lines.length) (cells:=bM) (Dr:=D1) (fun pre g=>BF F (pre.map fun x=>aAY x k) g) (fun _ _ _=>False) (fun g=>[(q5,.cells [.bool g.2].toArray 4 (0,0)),(q4,.cells [.int .i64 g.1.1,.int .i64 g.1.2].toArray 65 (0,0))]) ((0,0),true) rfl rfl (fun _ k hk=>by cases hk) rfl hit Ye (fun _ vs h=>by obtain⟨_,rfl⟩:=h;rfl) rfl (aGR ⟨rfl,rfl,rfl⟩) rfl ?_ ?_ (fun _ _ _ _ h=>h.elim)
 ·rintro pre x ⟨r,fb⟩ ⟨us,hx⟩ hV l bd bo vs rec hh D7 hD7 ⟨blo,rfl⟩ hbo_ hst hpend;obtain⟨hxl,hx4,hpl⟩:=LH hbo hx;have hsl:=aAT hbo_ hxl hx4 Yd;obtain⟨u,hu⟩:=C.ge x k;have hau:aAY x k=u:=aBX hu;obtain⟨hu4,hu5⟩:=hx4 u (aGD hu);have hx10:=uC hu4 hu5;refine C.rg<|Zh rfl<|Zz ?_;refine fun a w hhh=>qW (A:=[(_,_),(_,_)]) (B:=[(bd,.deferred (some []))]) (r:=rec) (l:=l) (by rfl) hst ?_ a w hhh
  simp only[aIN,aHI];refine Zah<|aL<|C.drawA [] 3 7 30 (fun _ _ _ h=>h)<|Zf 0 rfl Tf.a208 rfl hB3 rfl<|Za rfl<|Zf 0 rfl Tf.a3 rfl hB2 rfl<|Zs rfl U303 Tf.s207 rfl hsl rfl hu (fun b1 o1 cs1 hr1 hcl1 hA1=>?_);obtain rfl:cs1=ints (kX _):=hr1;refine cO rfl Tf.a207 rfl hA1 Yj (by rw[show(ints _).length=10 by simp[hx10]];exact Tf.s207) GT rfl trivial<|Zc rfl (fun D2 hD2=>hq u _ hu4 hu5)<|Zh rfl<|L.n4<|Zl rfl Tf.a4 rfl (List.Mem.head _) rfl<|L.n1<|aQ rfl (fun hc1=>?_) (fun hc1=>?_)
  ·refine C.rg<|Za rfl<|Za rfl<|Zq [.int .i64 (F u),.int .i64 (F u)] rfl Tf.p65 Tf.z65 rfl rfl<|Zu rfl Tf.s65 (.tail (bL.head))<|Zn rfl Tf.s4 (bL.head) rfl<|L.n1<|C.rg<|Zt rfl Tf.a65 rfl (List.Mem.tail _ (List.Mem.head _)) Tf.s65<|Za rfl<|Zc rfl (fun D3 hD3=>Y8 (_,_) _ _)<|Zu rfl Tf.s65 (.tail (bL.head)) ?_;refine Zz<|Zak ?_;exact fun a w hh=>fH (A:=[(_,_),(_,_)]) (B:=[(bd,.deferred (some []))]) ((min (F u,F u).1 (F u),max (F u,F u).2 (F u)),false) (by simpa using hV.add hau (aGR ⟨hc1,rfl⟩)) rfl rfl a w hh
  ·obtain rfl:fb=false:=hc1;refine C.kn<|C.rg<|Zt rfl Tf.a65 rfl (List.Mem.tail _ (List.Mem.head _)) Tf.s65<|Za rfl<|Zc rfl (fun D4 hD4=>Y8 (_,_) _ _)<|Zu rfl Tf.s65 (.tail (bL.head))<|Zz<|Zak ?_;exact fun a w hh=>fH (A:=[(_,_),(_,_)]) (B:=[(bd,.deferred (some []))]) ((min r.1 (F u),max r.2 (F u)),false) (by simpa using hV.add hau (aGH ⟨rfl,rfl⟩)) rfl rfl a w hh
 ·rintro⟨r,fb⟩ bd hV;refine Zak<|Zag<|C.s1<|Zt rfl Tf.a65 rfl (List.Mem.tail _ (List.Mem.head _)) Tf.s65<|Zu rfl Tf.s65 (.tail (bL.head))<|L.n5 ?_;exact oG (vs:=[_]) (A:=[(_,_),(_,_)]) rfl rfl rfl ⟨⟨_,_,_,rfl,(LE _ (GE _)),aGH ⟨Tf.a65,Tf.s65,rfl⟩⟩,aLJ⟩ (fun D hD=>hV.all)
theorem EY(s:Sc)(D:aA)(h4:s.ch.length=4)(h5:s.tk.length=4):Fn Tryz.prog 95 #[FR s] D (fun _ v=>v=.int .i64 s.mixed):=by
 refine enter 5 Tryz.func95 rfl rfl rfl rfl fun h0=>C.s1<|Zv rfl (fun q1 E1 hE1 hB1=>Zh rfl<|L.n3<|Zi rfl Tf.f207_3 rfl<|bC (v:=.int .i64 s.mixed) rfl (k:=9) Tf.a3 rfl hB1 Yc (cA (AN h4 h5)) GT rfl trivial<|Zh rfl<|L.n5 ?_)
 exact leave1 rfl rfl rfl rfl (fun D hD=>rfl)
theorem wF(bv:Value)(b:aW)(k:Int)(D:aA)(hb:fP D bv b):Fn Tryz.prog 49 #[bv,.int .i64 k] D (fun _ v=>v=.tuple #[iL (if sI b (C1.fL k 0 (b.lines.length:Int))=0 then u6 (fun s=>s.money) b k.toNat else(0,0)),.int .i64 (sI b (C1.fL k 0 (b.lines.length:Int)))]):=by
 have hb0:=hb;obtain⟨lv,cv,rfl,hl,hc⟩:=hb;have hll:=hl.len;refine enter 21 Tryz.func49 rfl rfl rfl rfl fun h0=>C.s1<|Zv rfl (fun q1 E1 hE1 hB1=>Zw rfl Tf.z65 rfl (fun q2=>Zh rfl<|L.n2<|aL<|C.drawA [] 4 8 62 (fun _ _ _ h=>bZ (P:=Tryz.prog) (fn:=Tryz.f49) _ _ _ h)<|Zr rfl Tf.a36 rfl hB1 Tf.s36<|Za rfl<|Zi rfl Tf.f36_3 rfl<|Zf 3 rfl Tf.a33 rfl hB1 rfl ?_));refine aV rfl U33 rfl hl rfl rfl trivial<|Zc rfl (fun D1 hD1=>gV _ _ _ _)<|Zc rfl (fun D2 hD2=>T4 _ b (C1.fL k 0 (b.lines.length:Int)) _ (hb0.up (hD2 _ Ye)))<|Zh rfl<|L.n3<|Za rfl<|eI rfl rfl rfl rfl trivial<|L.n1<|aE rfl (fun hc1=>?_) (fun hc1=>?_)
 ·refine C.s1<|Zq [.int .i64 0,.int .i64 0] rfl Tf.p65 Tf.z65 rfl rfl<|Za rfl<|Zu rfl Tf.s65 (bL.head)<|Zh rfl<|L.n5<|Zaj ?_;exact Zm [_,_] rfl ⟨⟨_,_,_,rfl,(List.Mem.head _),Or.inr ⟨Tf.a65,(by first|exact Tf.s65|(simp only[aHK,aI, *];exact Tf.s65)),rfl⟩⟩,rfl,aLJ⟩ (fun D hD=>by show Value.tuple _=_;rw[aGQ hc1];rfl)
 ·have he0:sI b (C1.fL k 0 (b.lines.length:Int))=0:=by omega
  obtain⟨hf0,hfi⟩:=T1 he0;have hbo:=aEH hf0;rw[C1.cE]at hfi;obtain⟨n,rfl⟩:∃n:Nat,k=(n:Int):=⟨k.toNat,by omega⟩
  refine C.kn<|C.s1<|Zr rfl Tf.a36 rfl hB1 Tf.s36<|Za rfl<|Zc rfl (fun D3 hD3=>GA (fun s=>s.money) _ b n 94 _ (hb0.up (hD3 _ Ye)) hbo Yd (fun s D h4 h5=>ET s D h4 h5))<|Zu rfl Tf.s65 (bL.head)<|Zh rfl<|L.n5 ?_;exact Zm [_,_] rfl ⟨⟨_,_,_,rfl,(List.Mem.head _),Or.inr ⟨Tf.a65,(by first|exact Tf.s65|(simp only[aHK,aI, *];exact Tf.s65)),rfl⟩⟩,rfl,aLJ⟩ (fun D hD=>by show Value.tuple _=_;rw[aGX he0,he0];rfl)
theorem PT(bv:Value)(b:aW)(D:aA)(hb:fP D bv b):Fn Tryz.prog 50 #[bv] D (fun _ v=>v=.tuple #[iL (if sI b (true)=0 then u6 (fun s=>s.mixed) b b.lines.length else(0,0)),.int .i64 (sI b (true))]):=by
 have hb0:=hb;obtain⟨lv,cv,rfl,hl,hc⟩:=hb;have hll:=hl.len;refine enter 16 Tryz.func50 rfl rfl rfl rfl fun h0=>C.s1<|Zv rfl (fun q1 E1 hE1 hB1=>Zw rfl Tf.z65 rfl (fun q2=>Zh rfl<|L.n4<|Zr rfl Tf.a36 rfl hB1 Tf.s36<|Zc rfl (fun D1 hD1=>T4 _ b (true) _ (hb0.up (hD1 _ Ye)))<|Zh rfl<|L.n3<|Za rfl<|eI rfl rfl rfl rfl aLJ ?_));refine L.n1<|aE rfl (fun hc1=>?_) (fun hc1=>?_)
 ·refine C.s1<|Zq [.int .i64 0,.int .i64 0] rfl Tf.p65 Tf.z65 rfl rfl<|Za rfl<|Zu rfl Tf.s65 (bL.head)<|Zh rfl<|L.n5<|Zaj ?_;exact Zm [_,_] rfl ⟨⟨_,_,_,rfl,(List.Mem.head _),Or.inr ⟨Tf.a65,(by first|exact Tf.s65|(simp only[aHK,aI, *];exact Tf.s65)),rfl⟩⟩,rfl,aLJ⟩ (fun D hD=>by show Value.tuple _=_;rw[aGQ hc1];rfl)
 ·have he0:sI b (true)=0:=by omega
  obtain⟨hf0,hfi⟩:=T1 he0;have hbo:=aEH hf0;refine C.kn<|C.s1<|Zr rfl Tf.a36 rfl hB1 Tf.s36<|Zi rfl Tf.f36_3 rfl<|Zf 3 rfl Tf.a33 rfl hB1 rfl<|aV rfl U33 rfl hl rfl rfl trivial<|Zc rfl (fun D2 hD2=>GA (fun s=>s.mixed) _ b b.lines.length 95 _ (hb0.up (hD2 _ Ye)) hbo Yd (fun s D h4 h5=>EY s D h4 h5))<|Zu rfl Tf.s65 (bL.head)<|Zh rfl<|L.n5 ?_;exact Zm [_,_] rfl ⟨⟨_,_,_,rfl,(List.Mem.head _),Or.inr ⟨Tf.a65,(by first|exact Tf.s65|(simp only[aHK,aI, *];exact Tf.s65)),rfl⟩⟩,rfl,aLJ⟩ (fun D hD=>by show Value.tuple _=_;rw[aGX he0,he0];rfl)
end L3
end Go.Fs
namespace Go.Fs
open Go.Proofs
namespace L7
open C7
def fO(bh bc bo bY br n:Nat)(c:List Int):aC:=[(bh,.cells [.func (.func 242) #[] #[.pointer (some ⟨bc,0,none⟩),.pointer (some ⟨bY,0,none⟩),.pointer (some ⟨br,0,none⟩),.pointer (some ⟨bh,0,none⟩)]].toArray 191 (0,0)),(bc,.cells [.slice (some ⟨bo,0,none⟩) n n].toArray 315 (0,0)),(bo,.cells (ints c).toArray 101 (0,0))]
theorem nN{c pre:List Int}{i:Nat}{k:Int}(h:c.take (i+1)=pre++[k])(hl:pre.length=i):c.take i=pre:=by
 have:=aGV (List.take i) h;rw[List.take_take,aKC (Nat.le_succ i)]at this;rw[this,aHN Yd,aHE Yd]
def XJ(n bo:Nat):List Value:=[.slice (some ⟨bo,0,none⟩) n n]
def ZA(P:Program)(Dr:aA)(lo l n:Nat)(J Jx:List (List Int)→nY)(xs:List (List Int)):Prop:=∀pre x β D w bo,(∃r,xs=pre++x::r)→sJ lo D w→J pre β D w→(∀b∈β,b<w.heap.size)→Le Dr D→Y6 β D w bo (ints x)→
    fS P l (XJ n bo) w fun b D' w'=>sJ lo D' w'∧rZ β D w D' w'∧(if b then J (pre++[x]) β D' w' else Jx (pre++[x]) β D' w')
def xF(J Jx:List (List Int)→nY)(bh bc bo bY br n:Nat)(places:List Int)(pre:List Int)(i:Nat)(done:List (List Int))(v:Value)(J':nY)(μ':aC):Prop:=
 ∃b c',v=.bool b∧c'.length=3*n∧c'.take i=pre∧μ'=fO bh bc bo bY br n c'∧(if b=true then J'=J (done++(C1.cQ (places.drop i)).map fun t=>pre++t)else ∃p,J'=Jx p)
def GV(p:Int)(ps pre:List Int)(k:Nat):List (List Int):=(List.range k).flatMap fun(m:Nat)=>if p=2∨p=(m:Int)then(C1.cQ ps).map (fun t=>pre++(m:Int)::t)else []
theorem SC{p:Int}{ps pre:List Int}:GV p ps pre 0=[]:=rfl
theorem aCJ{p:Int}{ps pre:List Int}{k:Nat}(h:¬(p=2∨p=(k:Int))):GV p ps pre (k+1)=GV p ps pre k:=by
 unfold GV;rw[aIF,aHG,aHW,aGQ h,aGG]
theorem HH{p:Int}{ps pre:List Int}{k:Nat}(h:p=2∨p=(k:Int)):GV p ps pre (k+1)=GV p ps pre k++(C1.cQ ps).map (fun t=>(pre++[(k:Int)])++t):=by
 unfold GV;rw[aIF,aHG,aHW,aGX h];simp
theorem GO{p:Int}{ps pre:List Int}:GV p ps pre 2=(C1.cQ (p::ps)).map (fun t=>pre++t):=by
 rw[show C1.cQ (p::ps)=(if p=2∨p=0 then(C1.cQ ps).map (0:: ·)else [])++(if p=2∨p=1 then(C1.cQ ps).map (1:: ·)else [])from rfl];unfold GV;rw[show List.range 2=[0,1]from rfl,aHS,aHS,List.flatMap_nil,aGG,aGS];congr 1
 ·by_cases h:p=2∨p=0
  ·rw[aGX h,aGX Yal];simp
  ·rw[aGQ h,aGQ Yal];rfl
 ·by_cases h:p=2∨p=1
  ·rw[aGX h,aGX Yal];simp
  ·rw[aGQ h,aGQ Yal];rfl
theorem UT{p:Int}{ps pre:List Int}{k:Nat}(hk:k<2):∃r,GV p ps pre 2=GV p ps pre (k+1)++r:=by
 have e:k=0∨k=1:=by omega
 rcases e with rfl|rfl
 ·refine⟨[1].flatMap fun(m:Nat)=>if p=2∨p=(m:Int)then(C1.cQ ps).map (fun t=>pre++(m:Int)::t)else [],?_⟩;unfold GV;rw[show List.range 2=[0]++[1]from rfl,aHG];rfl
 ·exact⟨[],by simp⟩
theorem SM{c pre:List Int}{i:Nat}{k:Int}(hi:i<c.length)(h:c.take i=pre):(c.set i k).take (i+1)=pre++[k]:=by
 rw[aGT,List.getElem?_set_self hi,aIB,List.take_set_of_le (aGW _),h]
theorem MP{l:List Ch}{i:Nat}{p:Int}(h:(gJ l)[i]?= some p):∃x,l[i / 3]?= some x∧x.parts.l[i%3]?= some p:=by
 induction l generalizing i with
 |nil=>simp[gJ]at h
 |cons c l ih=>
  rw[show gJ (c::l)=c.parts.a::c.parts.b::c.parts.c::gJ l from rfl]at h;match i with
  |0=>exact⟨c,rfl,by simpa [Pt.l]using h⟩
  |1=>exact⟨c,rfl,by simpa [Pt.l]using h⟩
  |2=>exact⟨c,rfl,by simpa [Pt.l]using h⟩
  |j+3=>
   obtain⟨x,h1,h2⟩:=ih (i:=j) Yal;exact⟨x,by rw[show(j+3) / 3=j / 3+1 by omega];simpa using h1,by rw[show(j+3)%3=j%3 by omega];exact h2⟩
theorem vN{bh bc bo bY br n:Nat}{c:List Int}:(bo,Obj.cells (ints c).toArray 101 (0,0))∈fO bh bc bo bY br n c:=LE _ (LE _ (GE _))
theorem aEL(i:Nat):0+((i:Int) / 3).toNat*3+((i:Int)%3).toNat*1=i:=by omega
theorem pS{lo l:Nat}{J Jx:List (List Int)→nY}{y:bI}{xs:List (List Int)}{Dr Dy:aA}{Ds:List aA}{bh bc bo bY br:Nat}{cv qv:Value}(hn7:y.chairs.length≤7)
  (hs:∀pre,vI lo (J pre)) (hsx:∀pre,vI lo (Jx pre)) (hY:ZA Tryz.prog Dr lo l y.chairs.length J Jx xs) (hDr:Dr∈Ds) (hDy:Dy∈Ds) (hA:At Dr br 0 [cv,.int .i64 y.fit,qv]) (hc:Sl Dr rC 4 cv y.chairs) (hB:At Dy bY 0 [.func (.yield l) #[] #[]]):
  ∀(j i:Nat) (pre c:List Int) (done rest:List (List Int)) (iv:Int),iv=i→i+j=3*y.chairs.length→pre.length=i→c.length=3*y.chairs.length→c.take i=pre→
   xs=done++(C1.cQ ((gJ y.chairs).drop i)).map (fun t=>pre++t)++rest→
   aDT Tryz.prog 242 [.int .i64 iv,.pointer (some ⟨bc,0,none⟩),.pointer (some ⟨bY,0,none⟩),.pointer (some ⟨br,0,none⟩),.pointer (some ⟨bh,0,none⟩)] lo (J done) (fO bh bc bo bY br y.chairs.length c) Ds (xF J Jx bh bc bo bY br y.chairs.length (gJ y.chairs) pre i done):=by
 intro j;induction j using Nat.strongRecOn with
 |_ j ih=>
 intro i pre c done rest iv hiv hij hl h9 hp hxs;subst hiv;have hmx:=hc.len;have hfl:=kP y.chairs;refine vR (μ:=fO bh bc bo bY br y.chairs.length c) 52 Tryz.func242 rfl rfl rfl rfl<|C.s1<|Zh rfl<|L.n3<|Za rfl<|N3 rfl rfl rfl Yd Yd Yf rfl trivial<|Za rfl<|pK rfl rfl rfl Yd Yd Yf rfl trivial<|Zh rfl<|Zh rfl<|L.n4<|Za rfl ?_;refine Zl rfl Tf.a315 rfl (List.Mem.tail _ (List.Mem.head _)) rfl<|gW rfl U315 rfl rfl rfl trivial<|dK rfl rfl rfl rfl trivial<|L.n1<|aE rfl (fun hc1=>?_) (fun hc1=>?_)
 ·have hin:i=3*y.chairs.length:=by omega
  subst hin;have hleaf:c=pre:=by rw[←hp,aHE Yd]
  rw[←hfl,List.drop_length]at hxs;simp only[C1.cQ,aHB,aKD,aGG]at hxs;rw[←hleaf,aGN,aJS]at hxs;refine C.s1<|Zf 0 rfl Tf.a363 rfl hB rfl<|Zl rfl Tf.a315 rfl (List.Mem.tail _ (List.Mem.head _)) rfl<|Y7 (l:=l) (J1:=J (done++[c])) (J0:=Jx (done++[c])) rfl rfl rfl rfl (hs _) (hsx _) (fun D w hd hJ hb hl=>hY done c _ D w bo ⟨rest,hxs⟩ hd hJ (fun b hbm=>by obtain⟨p,hp,rfl⟩:=aGA.1 hbm;exact aY (hb p hp).1) (hl _ hDr) ⟨aGA.2 ⟨_,vN,rfl⟩,(hb _ vN).2,_,_,(hb _ vN).1⟩) rfl aLJ (fun b1 J1 hJ1=>Zh rfl<|L.n5<|Zaj ?_)
  exact gM (P:=Tryz.prog) (fn:=Tryz.f242) (N:=52) (vs:=[_]) rfl rfl ⟨rfl,aLJ⟩ (fun D h=>⟨D,h,Le.refl D⟩) ⟨b1,c,rfl,h9,hp,rfl,by cases b1<;>simp only[hJ1,aII,aHL,aIL];exact⟨_,rfl⟩;rw[←hfl,List.drop_length];simp[C1.cQ,hleaf]⟩
 ·have hin:i<(gJ y.chairs).length:=by omega
  obtain⟨p,hpi⟩:=C.ge (gJ y.chairs) i;obtain⟨x,hx3,hm⟩:=MP hpi;have hx:y.chairs[((i:Int) / 3).toNat]?= some x:=by rw[show((i:Int) / 3).toNat=i / 3 by omega];exact hx3
  have hd:(gJ y.chairs).drop i=p::(gJ y.chairs).drop (i+1):=by rw[aIJ hin];congr 1;exact aHC ((aGF hin).symm.trans hpi)
  rw[hd,←GO]at hxs;refine C.kn<|C.s2<|Za rfl<|L.n1<|Zah<|wN (γ:=Nat×List Int) (fun g=>2-g.1) (fun g=>g.1≤2∧g.2.length=3*y.chairs.length∧g.2.take i=pre) (fun g=>J (done++GV p ((gJ y.chairs).drop (i+1)) pre g.1)) (fun g=>[(22,.int .i64 (g.1:Int))]) [(8,_),(7,_),(6,_),(0,_),(1,_),(3,_),(4,_)] (fun g=>fO bh bc bo bY br y.chairs.length g.2) (fun g=>Ds) (0,c) ⟨by simp,h9,hp⟩ (by simp[SC]) ⟨Yb,aLJ⟩ C.rs (LT _) (aD) ?_;rintro⟨k,c1⟩ ⟨h11,h91,hp1⟩;simp only at h11 h91 hp1;refine C.s1<|Zad rfl<|L.n2<|aE rfl (fun hc2=>?_) (fun hc2=>?_)
  ·refine C.kn<|aL<|Zah<|C.s1<|Za rfl<|Zh rfl<|L.n3<|Zi rfl Tf.f40_0 rfl<|Zf 0 rfl Tf.a37 rfl hA rfl<|Za rfl<|Za rfl<|Zs rfl U37 Tf.s103 rfl hc rfl hx (fun b1 o1 cs1 hr1 hcl1 hA1=>?_);obtain rfl:cs1=[.int .i64 _,.int .i64 _,.int .i64 _,.int .i64 _]:=hr1;refine Zi rfl Tf.f103_1 rfl<|dR rfl U101 Tf.s3 rfl rfl Yd Yd rfl trivial<|bC (o:=_+1) (k:=((i:Int)%3).toNat*1) rfl Tf.a3 rfl hA1.tail Yj (by rw[show((i:Int)%3).toNat=i%3 by omega];exact aCV hm) GT rfl trivial<|Zh rfl<|L.n3<|Za rfl<|dK rfl rfl rfl rfl trivial<|Za rfl ?_
   refine' L.orK 4 (s:=35) (p:=39) rfl (fun hg1=>?_) (fun hg1=>?_) ?_;rotate_left
   ·refine Zb rfl<|Zb rfl<|dK rfl rfl rfl rfl ⟨_,rfl,rfl⟩<|Zac rfl ?_;exact L.cu 3
   ·refine Zk rfl<|Zk rfl<|Zk rfl<|Zab rfl ?_;exact L.cu 3
   refine L.n1<|aQ rfl (fun hc3=>?_) (fun hc3=>?_)
   ·have hpk:p=2∨p=(k:Int):=by simpa using hc3
    obtain⟨rr,hr⟩:=UT (p:=p) (ps:=(gJ y.chairs).drop (i+1)) (pre:=pre) (k:=k) Yd;refine C.s1<|Zl rfl Tf.a315 rfl (List.Mem.tail _ (List.Mem.head _)) rfl<|Za rfl<|Za rfl<|Za rfl<|eY rfl U315 Tf.s101 rfl rfl Yd Yd rfl trivial<|dR rfl U101 Tf.s3 rfl rfl Yd Yd rfl trivial<|pI (k:=i) rfl Tf.s3 (by show some (Value.pointer (some ⟨bo,0+((i:Int) / 3).toNat*3+((i:Int)%3).toNat*1,none⟩))=_;rw[aEL]) rfl (.tail (.tail bL.head)) Yn trivial<|L.n3<|Zl rfl Tf.a191 rfl (List.Mem.head _) rfl<|Za rfl<|Zx rfl ?_;refine nZ rfl rfl rfl rfl (ih (j-1) Yd (i+1) (pre++[(k:Int)]) (c1.set i k) (done++GV p ((gJ y.chairs).drop (i+1)) pre k) (rr++rest) (i+1:Int) Yd Yd Yaf (by simpa using h91) (SM Yd hp1) (by rw[hxs,hr,HH hpk];simp)) rfl aLJ ?_
    rintro _ J2 _ ⟨b2,c2,rfl,h9',hp',rfl,hJ2⟩;refine Zaf rfl<|L.n1<|aQ rfl (fun hc4=>?_) (fun hc4=>?_)
    ·obtain rfl:b2=false:=by simpa using hc4
     refine C.s1<|Zh rfl<|L.n5<|aG<|Zaj<|Zaj<|aG<|Zaj ?_;exact gM (P:=Tryz.prog) (fn:=Tryz.f242) (N:=52) (vs:=[_]) rfl rfl ⟨rfl,aLJ⟩ (fun D h=>⟨D,h,Le.refl D⟩) ⟨false,c2,rfl,h9',nN hp' hl,rfl,by simpa using hJ2⟩
    ·obtain rfl:b2=true:=by simpa using hc4
     refine bR<|Zak<|Zag<|C.rg<|Zx rfl<|Za rfl<|Zz ?_;exact lS 30 (k+1,c2) ⟨by simp only;omega,h9',nN hp' hl⟩ Yn (by simpa only[aII,HH hpk,aGN]using hJ2) ⟨Yb,aLJ⟩ rfl rfl (LT _) (aD)
   ·have hpk:¬(p=2∨p=(k:Int)):=by simpa using hc3
    refine bR<|Zak<|Zag<|C.rg<|Zx rfl<|Za rfl<|Zz ?_;exact lS 19 (k+1,c1) ⟨by simp only;omega,h91,hp1⟩ Yn (by rw[aCJ hpk]) ⟨Yb,aLJ⟩ rfl rfl (LT _) (aD)
  ·refine aR<|Zai<|Zai<|Zal<|Zag<|C.s1<|Zh rfl<|L.n5 ?_;exact gM (P:=Tryz.prog) (fn:=Tryz.f242) (N:=52) (vs:=[_]) rfl rfl ⟨rfl,aLJ⟩ (fun D h=>⟨D,h,Le.refl D⟩) ⟨true,c1,rfl,h91,hp1,rfl,by simp only[aII];rw[hd,←GO,show k=2 by omega]⟩
theorem vC(y:bI)(Dr:aA)(br:Nat)(cv qv:Value)(hn7:y.chairs.length≤7)(hA:At Dr br 0 [cv,.int .i64 y.fit,qv])(hc:Sl Dr rC 4 cv y.chairs):
  IS Tryz.prog 241 [.pointer (some ⟨br,0,none⟩)] Dr (C1.cQ (gJ y.chairs)) (XJ y.chairs.length) ints:=by
 refine FK 12 Tryz.func241 rfl rfl rfl rfl (fun lo l J Jx hs hsx hY=>C.s1<|Zv rfl (fun q1 E1 hE1 hB1=>L.n3<|Zi rfl Tf.f40_0 rfl<|Zf 0 rfl Tf.a37 rfl hA rfl<|aV rfl U37 rfl hc rfl rfl trivial<|aM rfl U315 Tf.s101 Tf.z101 rfl Tf.i101 rfl rfl Yd (aU Ye rfl) rfl aLJ (fun bo=>Zw rfl Tf.z315 rfl (fun q2=>Zn rfl Tf.s315 (bL.head) rfl<|L.n3<|Zw rfl Tf.z191 rfl (fun q3=>?_)))));refine L.n3<|bB rfl rfl rfl rfl trivial<|Zn rfl Tf.s191 (bL.head) rfl<|L.n1<|C.rg<|Zl rfl Tf.a191 rfl (List.Mem.head _) rfl<|nZ rfl rfl rfl rfl (pS (l:=l) hn7 hs hsx hY Ye Ye hA hc hB1 (3*y.chairs.length) 0 [] (List.replicate (y.chairs.length*3) 0) [] [] 0 rfl Yd rfl Yaf rfl Ye) rfl aLJ ?_;rintro _ J2 _ ⟨b2,c2,rfl,h9',hp',rfl,hJ2⟩;refine Zz ?_;exact gM (P:=Tryz.prog) (fn:=Tryz.f241) (N:=12) (vs:=[]) rfl rfl aLJ (fun D h=>⟨D,by simp only[aGU]at h;subst h;simp,Le.refl D⟩) (by cases b2<;>simp at hJ2;exact aGH hJ2;exact aGR hJ2)
theorem tO(yv:Value)(y:bI)(D:aA)(hy:lE D yv y)(hn7:y.chairs.length≤7):
  Fn Tryz.prog 161 #[yv] D (fun D' v=>∃br,v=.func (.func 241) #[] #[.pointer (some ⟨br,0,none⟩)]∧IS Tryz.prog 241 [.pointer (some ⟨br,0,none⟩)] D' (C1.cQ (gJ y.chairs)) (XJ y.chairs.length) ints):=by
 obtain⟨cv,qv,rfl,hc,hq⟩:=hy;refine enter 4 Tryz.func161 rfl rfl rfl rfl fun h0=>C.s1<|Zv rfl (fun q1 E1 hE1 hB1=>Zh rfl<|L.n3<|bB rfl rfl rfl rfl trivial<|Zh rfl<|L.n5 ?_)
 exact leave1 rfl rfl rfl rfl (fun D hD=>⟨_,rfl,vC y _ q1 cv qv hn7 (hB1.up (hD _ Ye)) (hc.up rC.up (hD _ Ye))⟩)
end L7
end Go.Fs
namespace Go.Fs
open Go.Proofs
namespace L7
open C7
def vP(s:Sc):List Int:=(s.whole:Int)::(s.broken:Int)::s.fits.map fun n:Nat=>(n:Int)
theorem mK(s:Sc)(h:s.fits.length=7):(vP s).length=9:=by simp[vP,h]
theorem PS(s:Sc):FR s=.agg (ints (vP s)).toArray:=by
 unfold FR A3 vP ints;rw[aHB,aHB,List.map_map];rfl
theorem ZZ{s s':Sc}(h:vP s=vP s'):s=s':=by
 obtain⟨a,b,c⟩:=s;obtain⟨a',b',c'⟩:=s';simp only[vP,aIP]at h;obtain⟨h1,h2,h3⟩:=h;rw[yW h3,show a=a' by omega,show b=b' by omega]
def xJ(acc:List (Sc×Nat)):List Int:=match acc.getLast? with
 |some p=>vP p.1
 |none=>[]
def mG(y:bI)(out:List Int)(acc:List (Sc×Nat))(t:List Pt):List (Sc×Nat):=
 if(mF y.claims out (oC y.chairs.length (dD y t):Int)&&(decide ((acc.length:Int)=0)|| !(xJ acc==vP (dD y t))))=true then acc++[(dD y t,oC y.chairs.length (dD y t))]else acc
def fM(y:bI)(out:List Int)(pre:List (List Int)):List (Sc×Nat):=(pre.map vJ).foldl (mG y out) []
def eM(y:bI)(out:List Int):List (Sc×Nat):=(Z4 y).foldl (mG y out) []
theorem yX(y:bI)(out:List Int):fM y out (C1.cQ (gJ y.chairs))=eM y out:=rfl
theorem I6(y:bI)(out:List Int)(pre:List (List Int))(x:List Int):fM y out (pre++[x])=mG y out (fM y out pre) (vJ x):=by
 unfold fM;rw[aGS,aIG];rfl
theorem KT(y:bI)(out:List Int)(acc:List (Sc×Nat))(t:List Pt):(mG y out acc t).length≤acc.length+1:=by
 unfold mG;split
 ·simp
 ·omega
theorem W5(y:bI)(out:List Int)(pre:List (List Int)):(fM y out pre).length≤pre.length:=by
 have key:∀(l:List (List Pt)) (acc:List (Sc×Nat)),(l.foldl (mG y out) acc).length≤acc.length+l.length:=by
  intro l;induction l with
  |nil=>intro acc;simp
  |cons t l ih=>intro acc;rw[aIO];have:=ih (mG y out acc t);have:=KT y out acc t;rw[aGM];omega
 have:=key (pre.map vJ) [];simpa [fM]using this
theorem K0(y:bI)(out:List Int)(pre:List (List Int)):∀p∈fM y out pre,p.1.fits.length=7:=by
 have key:∀(l:List (List Pt)) (acc:List (Sc×Nat)),(∀p∈acc,p.1.fits.length=7)→∀p∈l.foldl (mG y out) acc,p.1.fits.length=7:=by
  intro l;induction l with
  |nil=>intro acc h;exact h
  |cons t l ih=>
   intro acc h;rw[aIO];refine ih _ fun p hp=>?_
   unfold mG at hp;split at hp
   ·rcases aGP.1 hp with hp|hp
    ·exact h p hp
    ·simp only[aGU]at hp;subst hp;simp[dD]
   ·exact h p hp
 exact key _ [] Ye
def vZ(l:List Sc):List Value:=l.flatMap fun s=>ints (vP s)
theorem BT{l:List Sc}(h:∀s∈l,s.fits.length=7):(vZ l).length=l.length*9:=by
 induction l with
 |nil=>rfl
 |cons c l ih=>
  have:=ih fun s hs=>h s (aGE _ hs)
  unfold vZ at this ⊢
  rw[aHS,aGC,this,aI,mK c (h c aGL),aGM];omega
theorem K8{acc:List (Sc×Nat)}(h:∀p∈acc,p.1.fits.length=7):(vZ (acc.map fun p=>p.1)).length=acc.length*9:=by
 rw[BT fun s hs=>by obtain⟨p,hp,rfl⟩:=aGA.1 hs;exact h p hp,aHR]
theorem CG{l:List Sc}(h:∀s∈l,s.fits.length=7){i:Nat}{s:Sc}(hi:l[i]?= some s)(junk:List Value):((vZ l++junk).drop (i*9)).take 9=ints (vP s):=by
 induction l generalizing i with
 |nil=>simp at hi
 |cons d l ih=>
  have h9:(ints (vP d)).length=9:=by rw[aI,mK d (h d aGL)]
  have hc:vZ (d::l)=ints (vP d)++vZ l:=rfl;rw[hc,aGN];cases i with
  |zero=>
   obtain rfl:d=s:=by simpa using hi
   rw[aKG,aJU,aHN Yd,aHE Yd]
  |succ i=>
   rw[aJY,aHO Yd,aHI,show(i+1)*9-(ints (vP d)).length=i*9 by omega];exact ih (fun s hs=>h s (aGE _ hs)) Yaj
def CH:Rd Sc:=fun _ s cs=>cs=ints (vP s)
theorem CH.up:CH.Up:=fun _ _ _ h=>h
theorem _root_.Go.Fs.jK.scs{D:aA}{v:Value}{n:Nat}{acc:List (Sc×Nat)}(hF:jK D v n (vZ (acc.map fun p=>p.1)))(hn:(acc.map fun p=>p.1).length=n)(hb:n≤9223372036854775807)(h:∀p∈acc,p.1.fits.length=7:=by assumption):Sl D CH 9 v (acc.map fun p=>p.1):=by
 have h':∀s∈acc.map (fun p=>p.1),s.fits.length=7:=fun s hs=>by obtain⟨p,hp,rfl⟩:=aGA.1 hs;exact h p hp
 exact hF.sl hn hb fun i s hi=>⟨_,rfl,by rw[aI,mK s (h' s (aGD hi))],by have:=CG h' hi [];rwa [aGG]at this⟩
theorem S9{acc:List (Sc×Nat)}(h:∀p∈acc,p.1.fits.length=7)(hne:acc≠[]):(xJ acc).length=9:=by
 unfold xJ;rw[aJL hne];exact mK _ (h _ (List.getLast_mem hne))
theorem PO{acc:List (Sc×Nat)}(h:∀p∈acc,p.1.fits.length=7)(hne:acc≠[])(junk:List Value):((vZ (acc.map fun p=>p.1)++junk).drop (0+(((acc.length:Int)-1).toNat)*9)).take 9=ints (xJ acc):=by
 have h':∀s∈acc.map (fun p=>p.1),s.fits.length=7:=fun s hs=>by obtain⟨p,hp,rfl⟩:=aGA.1 hs;exact h p hp
 have hpos:=aJK.2 hne;unfold xJ;rw[aJL hne,aJA];refine CG h' ?_ junk;rw[aHD,show((acc.length:Int)-1).toNat=acc.length-1 by omega,←List.getLast?_eq_getElem?,aJL hne];rfl
theorem aCC{D:aA}{bo n:Nat}{x:List Int}(h:At D bo 0 (ints x))(hx:x.length=3*n)(hn:n≤7):Sl D RP 3 (.slice (some ⟨bo,0,none⟩) n n) (vJ x):=by
  obtain⟨h1,h2⟩:=m8 _ _ hx;have hle:n≤9223372036854775807∨True:=aGH trivial;have key:∀(l:List Pt) (i:Nat) (p:Pt),l[i]?= some p→((ints (C7.jP l)).drop (i*3)).take 3=[.int .i64 p.a,.int .i64 p.b,.int .i64 p.c]:=by
    intro l;induction l with
    |nil=>intro i p hi;simp at hi
    |cons d l ih=>
      intro i p hi;cases i with
      | zero => obtain rfl : d = p := by simpa using hi
                rfl
      |succ i=>
        rw[C7.nQ,show(i+1)*3=i*3+3 by omega];exact ih i p Yaj
  refine⟨_,n,by rw[h2],by omega,?_,aGH ⟨bo,0,rfl,fun i p hi=>⟨_,rfl,rfl,fun j v hj=>?_⟩⟩⟩
  · rw[h2];omega
  · have:=key _ _ _ hi;rw[h1]at this;rw[←this,List.getElem?_take]at hj;split at hj
    · rw[aIQ]at hj;have:=h _ v hj;rw[show 0+i*3+j=0+(i*3+j) by omega];exact this
    · cases hj
def XS(y:bI)(out:List Int)(pre:List (List Int))(g:Array MapEntry×Nat×List (oQ 8×Int)×Value×aC×Value×aC):Prop:=
 pN zA g.1 g.2.2.1∧Q5 y.chairs.length g.2.2.1∧bN 319 9 g.2.2.2.1 (fM y out pre).length (vZ ((fM y out pre).map fun p=>p.1)) g.2.2.2.2.1∧bN 3 1 g.2.2.2.2.2.1 (fM y out pre).length (ints ((fM y out pre).map fun p=>(p.2:Int))) g.2.2.2.2.2.2
theorem m6{y:bI}{out:List Int}{pre:List (List Int)}{x:List Int}{es:Array MapEntry}{cl:Nat}{M:List (oQ 8×Int)}{v u:Value}{ν ω:aC}(hM:pN zA es M)(hok:Q5 y.chairs.length M)
  (hc:(mF y.claims out (oC y.chairs.length (dD y (vJ x)):Int)&&(decide (((fM y out pre).length:Int)=0)|| !(xJ (fM y out pre)==vP (dD y (vJ x)))))=true)
  (h1:bN 319 9 v ((fM y out pre).length+1) (vZ ((fM y out pre).map fun p=>p.1)++ints (vP (dD y (vJ x)))) ν) (h2:bN 3 1 u ((fM y out pre).length+1) (ints ((fM y out pre).map fun p=>(p.2:Int))++[.int .i64 (oC y.chairs.length (dD y (vJ x)):Int)]) ω):XS y out (pre++[x]) (es,cl,M,v,ν,u,ω):=by
 have e:fM y out (pre++[x])=fM y out pre++[(dD y (vJ x),oC y.chairs.length (dD y (vJ x)))]:=by
  rw[I6,mG,aGX hc]
 unfold XS;rw[e];refine⟨hM,hok,?_,?_⟩
 ·simpa [vZ]using h1
 ·simpa [ints]using h2
theorem aBL{y:bI}{out:List Int}{pre:List (List Int)}{x:List Int}{es:Array MapEntry}{cl:Nat}{M:List (oQ 8×Int)}{v u:Value}{ν ω:aC}(hM:pN zA es M)(hok:Q5 y.chairs.length M)
  (hc:(mF y.claims out (oC y.chairs.length (dD y (vJ x)):Int)&&(decide (((fM y out pre).length:Int)=0)|| !(xJ (fM y out pre)==vP (dD y (vJ x)))))=false)
  (h1:bN 319 9 v (fM y out pre).length (vZ ((fM y out pre).map fun p=>p.1)) ν) (h2:bN 3 1 u (fM y out pre).length (ints ((fM y out pre).map fun p=>(p.2:Int))) ω):XS y out (pre++[x]) (es,cl,M,v,ν,u,ω):=by
 have e:fM y out (pre++[x])=fM y out pre:=by
  rw[I6,mG,aGQ (by rw[hc];simp)]
 unfold XS;rw[e];exact⟨hM,hok,h1,h2⟩
theorem y5{y:bI}(h:y.chairs.length≤7):(C1.cQ (gJ y.chairs)).length≤2097152:=by
 have h1:=C1.tC (gJ y.chairs);have h2:2^(gJ y.chairs).length≤2^21:=aJW Yd (by rw[kP];omega)
 omega
theorem tM{l x:List Int}{pre r:List (List Int)}(h:C1.cQ l=pre++x::r):x.length=l.length∧(∀n∈x,0≤n∧n≤1)∧pre.length<(C1.cQ l).length:=by
 have hm:x∈C1.cQ l:=by rw[h];simp
 exact⟨(C1.mS hm).1,(C1.mS hm).2,by rw[h];simp⟩
theorem UK{x:List Int}(h:∀n∈x,0≤n∧n≤1)(hg:C7.jP (vJ x)=x):∀p∈vJ x,Y2 p:=fun p hp=>by
 have:∀n∈p.l,n∈x:=fun n hn=>by rw[←hg];exact aLG.2 ⟨p,hp,hn⟩
 exact⟨h _ (this _ (by simp[Pt.l])),h _ (this _ (by simp[Pt.l])),h _ (this _ (by simp[Pt.l]))⟩
theorem aAB(A ν ω T:aC):A++(ν++(ω++T))=A++(ν++ω)++T:=by simp
theorem aFV(A ν ω T:aC):A++((ν++ω)++T)=A++ν++(ω++T):=by simp
theorem aAN{a b c d:Nat}{l:List Nat}:∀k∈[c,d],k∈a::b::c::d::l:=fun k hk=>by
 simp only[aGB,GT,aIY]at hk ⊢
 rcases hk with rfl|rfl
 ·exact aGH (aGH (aGR rfl))
 ·exact aGH (aGH (aGH (aGR rfl)))
theorem aFS{A B ν ω C:aC}{k:Nat}(h:(((A++B)++(ν++(ω++C))).map fun p=>p.1).Nodup)(hk:k∈(A++B).ks):k∉ν.ks++ω.ks:=by
 rw[aGS,aGS,aGS,aGK]at h;intro hm;refine h.2.2 k (by simpa using hk) k ?_ rfl;rcases aGP.1 hm with hm|hm
 ·exact aGI _ hm
 ·rw[aGS];exact aFZ _ (aGI _ hm)
theorem TE{n:Nat}{s:Sc}(h:BQ n s)(hn:n≤7):oC n s≤200:=by
 have h1:=FE s.fits n s.broken;have h2:=Z9 h.bits hn;have h3:=h.whole;unfold oC;omega
theorem aAV:KS Tryz.prog 319 9:=by
 have hf:(Tryz.prog.fieldsOf 319).toList=[(Tryz.prog.fieldsOf 319)[0]!,(Tryz.prog.fieldsOf 319)[1]!,(Tryz.prog.fieldsOf 319)[2]!]:=by kernel_rfl
 refine⟨by kernel_rfl,by kernel_rfl,by kernel_rfl,?_⟩;rw[hf];refine .cons (sO.int (by decide+kernel) Yg Yg) (.cons (sO.int (by decide+kernel) Yg Yg) (.cons (n:=7) (sO.arr (e:=3) (by decide+kernel) Yg Yg Yg Yg ?_ ?_) .nil))
 ·rw[show((Tryz.prog.fieldsOf 319)[2]!).type=317 by kernel_rfl];exact Tf.a317
 ·rw[show((Tryz.prog.fieldsOf 319)[2]!).type=317 by kernel_rfl];exact Tf.s317
theorem JD(yv tv:Value)(y:bI)(t:List Pt)(D:aA)(hy:lE D yv y)(ht:Sl D RP 3 tv t)(hlen:t.length=y.chairs.length)(h7:t.length≤7)(hb:∀p∈t,Y2 p)(hf:0≤y.fit∧y.fit≤9)(hs:∀c∈y.chairs,0≤c.size∧c.size≤9):Fn Tryz.prog 162 #[yv,tv] D (fun _ v=>v=.agg (ints (vP (dD y t))).toArray):=by
 rw[←PS];exact SP yv tv y t D hy ht hlen h7 hb hf hs
theorem UW(wb mb:Nat)(cv qv:Value)(fit:Int)(chs:List Ch)(s:Sc)(hn7:chs.length≤7)(hs:BQ chs.length s)(es:Array MapEntry)(clock:Nat)(M:List (oQ 8×Int))(D:aA)(hS:Sl D rC 4 cv chs)(hM:pN zA es M)(hok:Q5 chs.length M):
  Q1 Tryz.prog 163 [.pointer (some ⟨wb,0,none⟩),.agg (ints (vP s)).toArray] D [(wb,.cells [cv,.int .i64 fit,qv,.map (some mb)].toArray 311 (0,0)),(mb,.map es clock)] (fun _ v ν'=>v=.int .i64 (oC chs.length s:Int)∧∃es' clock' M',ν'=[(wb,.cells [cv,.int .i64 fit,qv,.map (some mb)].toArray 311 (0,0)),(mb,.map es' clock')]∧pN zA es' M'∧Q5 chs.length M'):=by
 rw[←PS];exact ZE wb mb cv qv fit chs s hn7 hs es clock M D hS hM hok
theorem V2(wb mb:Nat)(cv qv:Value)(y:bI)(out:List Int)(ov:Value)(hn7:y.chairs.length≤7)(hft:0≤y.fit∧y.fit≤9)(hsz:∀c∈y.chairs,0≤c.size∧c.size≤9)(es0:Array MapEntry)(clock0:Nat)(M0:List (oQ 8×Int))(D:aA)(hS:Sl D rC 4 cv y.chairs)(hq:Sl D R2 2 qv y.claims)(ho:Sl D RI 1 ov out)(hM0:pN zA es0 M0)(hok0:Q5 y.chairs.length M0):
  Q1 Tryz.prog 98 [.pointer (some ⟨wb,0,none⟩),ov] D [(wb,.cells [cv,.int .i64 y.fit,qv,.map (some mb)].toArray 311 (0,0)),(mb,.map es0 clock0)] (fun D' v ν'=>∃sv mv,v=.tuple #[sv,mv]∧Sl D' CH 9 sv ((eM y out).map fun p=>p.1)∧Sl D' RI 1 mv ((eM y out).map fun p=>(p.2:Int))∧∃es' clock' M',ν'=[(wb,.cells [cv,.int .i64 y.fit,qv,.map (some mb)].toArray 311 (0,0)),(mb,.map es' clock')]∧pN zA es' M'∧Q5 y.chairs.length M'):=by
 obtain⟨oa,oc,rfl⟩:=ho.shape;refine CR 56 Tryz.func98 rfl rfl rfl rfl (fun h0 hwl hwn=>C.s1<|Zv rfl (fun q1 E1 hE1 hB1=>Zv rfl (fun q2 E2 hE2 hB2=>Zw rfl Tf.z210 rfl (fun q3=>Zw rfl Tf.z25 rfl (fun q4=>L.n4<|Zf 0 rfl Tf.a212 rfl hB1 rfl<|Zae rfl<|Zi rfl Tf.f311_0 rfl<|dA rfl Tf.a40 Tf.s40 rfl (List.Mem.tail _ (List.Mem.tail _ (List.Mem.head _))) rfl rfl GT rfl trivial<|cB rfl rfl rfl (fun D1 hD1=>tO _ y _ ⟨_,_,rfl,hS.up rC.up (hD1 _ Ye),hq.up R2.up (hD1 _ Ye)⟩ hn7) rfl aLJ (fun v1 D1 hD1 hp1=>?_))))));refine L.n1<|Zah ?_;obtain⟨br,rfl,hit⟩:=hp1;refine l3 (γ:=Array MapEntry×Nat×List (oQ 8×Int)×Value×aC×Value×aC) (xs:=C1.cQ (gJ y.chairs)) (enc:=XJ y.chairs.length) (cells:=ints) (Dr:=D1) (XS y out) (fun _ _ _=>False) (fun g=>(q4,.cells [g.2.2.2.2.2.1].toArray 25 (0,0))::(q3,.cells [g.2.2.2.1].toArray 210 (0,0))::(wb,.cells [cv,.int .i64 y.fit,qv,.map (some mb)].toArray 311 (0,0))::(mb,.map g.1 g.2.1)::(g.2.2.2.2.1++g.2.2.2.2.2.2)) (es0,clock0,M0,.slice none 0 0,[],.slice none 0 0,[]) rfl rfl (fun g k hk=>aGE _ (aGE _ (aGI (aC.ks _) hk))) rfl hit Ye (fun _=>rfl) rfl ⟨hM0,hok0,by simpa [fM,vZ]using bN.nil,by simpa [fM,ints]using bN.nil⟩ rfl ?_ ?_ (fun _ _ _ _ h=>h.elim)
 ·rintro pre x ⟨es,clock,M,v,ν,u,ω⟩ ⟨us,hx⟩ ⟨hM,hok,ha1,ha2⟩ l bd bo rec hh D7 hD7 hbo hst hpend;simp only at hM hok ha1 ha2;obtain⟨hx3,hxb,hpl⟩:=tM hx;have hcap:=y5 hn7;rw[kP]at hx3;have ht:=aCC hbo hx3 hn7;obtain⟨hg1,hg2⟩:=m8 _ _ hx3;have htl:(vJ x).length=y.chairs.length:=hg2;have htb:=UK hxb hg1;have hsc:=U2 htl Yd;have hpsl:=W5 y out pre;have hmb:=TE hsc hn7;have hfit7:∀p∈fM y out pre,p.1.fits.length=7:=K0 y out pre;have hs9:=mK (dD y (vJ x)) (by simp[dD]);refine C.rg<|Zh rfl<|Zz ?_;refine fun a w hhh=>qW (A:=[(_,_),(_,_),(_,_),(_,_)]++(ν++ω)) (B:=[(bd,.deferred (some []))]) (r:=rec) (l:=l) (by rfl) hst ?_ a w hhh
  refine LD ((q4,.cells [u].toArray 25 (0,0))::(q3,.cells [v].toArray 210 (0,0))::(wb,.cells [cv,.int .i64 y.fit,qv,.map (some mb)].toArray 311 (0,0))::(mb,.map es clock)::(ν++(ω++[(l,.loop {rec with state:=.busy}),(bd,.deferred (some []))]))) Ye<|rX (fun hnd=>?_);simp only[aHB,aGS,aKD,aHX,aGK,aGB,aGP,GT,not_or]at hnd;refine Zah<|C.s1<|Zf 0 rfl Tf.a212 rfl hB1 rfl<|Zae rfl<|Zi rfl Tf.f311_0 rfl<|dA rfl Tf.a40 Tf.s40 rfl (List.Mem.tail _ (List.Mem.tail _ (List.Mem.head _))) rfl rfl GT rfl trivial<|Za rfl<|Zc rfl (fun D2 hD2=>JD _ _ y (vJ x) _ ⟨_,_,rfl,hS.up rC.up (hD2 _ Ye),hq.up R2.up (hD2 _ Ye)⟩ (ht.up RP.up (hD2 _ Ye)) htl Yd htb hft hsz)<|Zw rfl Tf.z319 rfl (fun q5=>bD rfl rfl rfl rfl Tf.s319 (by simpa using hs9) (by rfl) .head (cW _) trivial<|L.n3<|Zf 0 rfl Tf.a212 rfl hB1 rfl ?_);refine bK (vs:=ints (vP (dD y (vJ x)))) rfl Tf.a319 rfl (GE _) (by rw[show(ints (vP (dD y (vJ x)))).length=9 by simpa using hs9];exact Tf.s319) GT rfl trivial<|aF ([(_,_),(_,_),(_,_)]++[(_,_),(_,_)]++(ν++(ω++[(l,_),(bd,_)]))) rfl<|dX (A:=[(_,_),(_,_),(_,_)]) (ν:=[(_,_),(_,_)]) (B:=ν++(ω++[(l,_),(bd,_)])) rfl rfl rfl rfl (aGR rfl) (T6 (cs:=[_,_,_,_])) (fun D5 hD5=>UW wb mb cv qv y.fit y.chairs (dD y (vJ x)) hn7 hsc es clock M D5 (hS.up rC.up (hD5 _ Ye)) hM hok) rfl aLJ (fun v5 D6 _ hD6 hp5=>?_)
  obtain⟨rfl,es1,cl1,M1,rfl,hM1,hok1⟩:=hp5;refine Zh rfl<|L.n2<|C.drawA [] 7 22 319536 (fun _ _ _ h=>h)<|Zf 0 rfl Tf.a212 rfl hB1 rfl<|Zae rfl<|Zi rfl Tf.f311_0 rfl<|dA rfl Tf.a40 Tf.s40 rfl (List.Mem.tail _ (List.Mem.tail _ (List.Mem.tail _ (List.Mem.head _)))) rfl rfl GT rfl trivial<|Za rfl<|Zf 0 rfl Tf.a25 rfl hB2 rfl<|Zc rfl (fun D3 hD3=>E0 _ y _ _ out _ ⟨_,_,rfl,hS.up rC.up (hD3 _ Ye),hq.up R2.up (hD3 _ Ye)⟩ (ho.up RI.up (hD3 _ Ye)))<|Za rfl ?_;refine' L.anK 14 (s:=31) (p:=45) rfl (fun hg1=>?_) (fun hg1=>?_) ?_;rotate_left
  ·refine aS rfl Tf.a210 rfl (LE _ (LE _ (GE _))) rfl GT rfl ⟨_,rfl,rfl⟩<|dL rfl U210 rfl ha1 rfl rfl ⟨_,rfl,rfl⟩<|dK rfl rfl rfl rfl ⟨_,rfl,rfl⟩<|Zb rfl ?_;refine' L.orK 9 (s:=35) (p:=44) rfl (fun hg2=>?_) (fun hg2=>?_) ?_;rotate_left
   ·have hne:fM y out pre≠[]:=fun e=>by rw[e]at hg2;simp at hg2
    have hpos:=aJK.2 hne;obtain⟨b5,cap5,junk5,rfl,hcp5,rfl,hl51,hl52⟩:=ha1.some hpos;refine aS rfl Tf.a210 rfl (LE _ (LE _ (GE _))) rfl GT rfl ⟨_,rfl,rfl⟩<|aS rfl Tf.a210 rfl (List.Mem.tail _ (List.Mem.tail _ (List.Mem.head _))) rfl GT rfl ⟨_,rfl,rfl⟩<|gW rfl U210 rfl rfl rfl ⟨_,rfl,rfl⟩<|fJ rfl rfl rfl Yf rfl ⟨_,rfl,rfl⟩<|eY rfl U210 Tf.s319 rfl rfl Yd Yd rfl ⟨_,rfl,rfl⟩<|dA (vs:=vZ ((fM y out pre).map fun p=>p.1)++junk5) (us:=ints (xJ (fM y out pre))) rfl Tf.a319 Tf.s319 rfl (LE _ (LE _ (LE _ (LE _ (LE _ (GE _)))))) (PO hfit7 hne junk5) (by simpa using S9 hfit7 hne) GT rfl ⟨_,rfl,rfl⟩<|bK (vs:=ints (vP (dD y (vJ x)))) rfl Tf.a319 rfl (GE _) (by rw[show(ints (vP (dD y (vJ x)))).length=9 by simpa using hs9];exact Tf.s319) GT rfl ⟨_,rfl,rfl⟩<|aBA (n:=9) rfl aAV (S9 hfit7 hne) hs9 rfl rfl rfl ⟨_,rfl,rfl⟩<|B6 rfl rfl rfl rfl ⟨_,rfl,rfl⟩ ?_
    exact L.cu 8
   ·refine Zk rfl<|Zk rfl<|Zk rfl<|Zk rfl<|Zk rfl<|Zk rfl<|Zk rfl<|Zk rfl<|A5 rfl rfl rfl rfl ⟨_,rfl,rfl⟩ ?_;exact L.cu 8
   refine Zab rfl ?_;exact L.cu 5
  ·refine Zk rfl<|Zk rfl<|Zk rfl<|Zk rfl<|Zk rfl<|Zk rfl<|Zk rfl<|Zk rfl<|Zk rfl<|Zk rfl<|Zk rfl<|Zk rfl ?_;refine Zk rfl<|Zac rfl ?_;exact L.cu 13
  refine L.n1<|aQ rfl (fun hc1=>?_) (fun hc1=>?_)
  ·refine rX (fun hnd=>?_);have hq5:=aFS (A:=[_,_,_]) (B:=[_,_]) (k:=q5) hnd (GE _);have hq4:=aFS (A:=[_,_,_]) (B:=[_,_]) (k:=q4) hnd (LE _ (GE _));have hq3:=aFS (A:=[_,_,_]) (B:=[_,_]) (k:=q3) hnd (LE _ (LE _ (GE _)));refine kK (ν.ks++ω.ks) 3 [false,true,true,true,true,true,true,false,false,false] [.fork [0,1,4,5] 2 (.fork [] 3 (.fin [6]) 6 (.fin [3])) 6 (.fin [2,3]),.fin [7,8,9]] Tf.follows (fun _ _ _ h=>h) Yg<|nE<|bE [(false,0),(true,1),(true,4),(true,5)] rfl<|aS rfl Tf.a210 rfl (List.Mem.tail _ (List.Mem.tail _ (List.Mem.head _))) rfl Yj rfl trivial<|bK (vs:=ints (vP (dD y (vJ x)))) rfl Tf.a319 rfl (GE _) (by rw[show(ints (vP (dD y (vJ x)))).length=9 by simpa using hs9];exact Tf.s319) hq5 rfl trivial<|aS rfl Tf.a25 rfl (List.Mem.tail _ (List.Mem.head _)) rfl Yj rfl trivial<|Za rfl<|Zz (cX true true rfl rfl ?_ ?_)
   ·refine Zp rfl U210 Tf.s319 Tf.z319 rfl rfl rfl rfl (.cons rfl (by simpa using hs9) .nil) (fun b901 D901 hD901 hA901=>?_);have hAs:=hA901;refine Zz<|bE [] rfl<|Zz (cX true true rfl rfl ?_ ?_)
    ·refine aF ([(_,_),(_,_),(_,_),(_,_),(_,_)]++ν++(ω++[(l,_),(bd,_)])) (aGN _ _ _).symm<|bA (A:=[(_,_),(_,_),(_,_),(_,_),(_,_)]) (B:=(ω++[(l,_),(bd,_)])) rfl U210 rfl rfl Tf.s319 Tf.z319 rfl Tf.i319 rfl rfl rfl ha1 (jL.lit hAs) Ye (by simpa using hs9) (K8 hfit7) (by simpa using cW _) Yd (aGH (fun p hp=>aGI _ (aGA.2 ⟨p,hp,rfl⟩))) rfl aLJ (fun v1x ν1x ha1x=>Zz<|aP [(true,6)] rfl<|Zp rfl U25 Tf.s3 Tf.z3 rfl rfl rfl rfl (.cons rfl rfl .nil) (fun b902 D902 hD902 hA902=>?_));have hAm:=hA902;refine Zz<|kW [(false,7),(false,8),(false,9)] rfl<|aF (([(_,_),(_,_),(_,_),(_,_),(_,_)]++ν1x)++ω++[(l,_),(bd,_)]) (aGN _ _ _).symm<|bA (A:=[(_,_),(_,_),(_,_),(_,_),(_,_)]++ν1x) (B:=[(l,_),(bd,_)]) rfl U25 rfl rfl Tf.s3 Tf.z3 rfl Tf.i3 rfl rfl rfl ha2 (jL.lit hAm) Ye rfl Ye Yi Yd (aGH (fun p hp=>aFZ _ (aGA.2 ⟨p,hp,rfl⟩))) rfl aLJ (fun u1x ω1x ha2x=>aF ((q5,_)::(q4,.cells [u].toArray 25 (0,0))::(q3,.cells [v].toArray 210 (0,0))::(wb,.cells [cv,.int .i64 y.fit,qv,.map (some mb)].toArray 311 (0,0))::(mb,.map es1 cl1)::(ν1x++(ω1x++[(l,_),(bd,_)]))) ((aGN _ _ _).trans (aGN _ _ _))<|aX rfl rfl rfl ha1x.cells1 Tf.s210 (.tail (.tail .head)) Ye rfl ha1x.cell1 trivial<|aX rfl rfl rfl ha2x.cells1 Tf.s25 (.tail .head) Ye rfl ha2x.cell1 aLJ ?_);have hI1:XS y out (pre++[x]) (es1,cl1,M1,v1x,ν1x,u1x,ω1x):=m6 hM1 hok1 hc1 (by simpa using ha1x) (by simpa using ha2x);refine Zz<|kE<|Zak ?_;exact fun a w hh=>fH (A:=[(_,_),(_,_),(_,_),(_,_)]++(ν1x++ω1x)) (B:=[(bd,.deferred (some []))]) (es1,cl1,M1,v1x,ν1x,u1x,ω1x) hI1 rfl rfl a w ((hh.dropBoxes 1).boxesEq (aAB [_,_,_,_] ν1x ω1x [_,_]))
    ·refine Zp rfl U25 Tf.s3 Tf.z3 rfl rfl rfl rfl (.cons rfl rfl .nil) (fun b902 D902 hD902 hA902=>?_);have hAm:=hA902;refine Zz<|aP [(true,3)] rfl<|aF ([(_,_),(_,_),(_,_),(_,_),(_,_)]++ν++(ω++[(l,_),(bd,_)])) (aGN _ _ _).symm<|bA (A:=[(_,_),(_,_),(_,_),(_,_),(_,_)]) (B:=(ω++[(l,_),(bd,_)])) rfl U210 rfl rfl Tf.s319 Tf.z319 rfl Tf.i319 rfl rfl rfl ha1 (jL.lit hAs) Ye (by simpa using hs9) (K8 hfit7) (by simpa using cW _) Yd (aGH (fun p hp=>aGI _ (aGA.2 ⟨p,hp,rfl⟩))) rfl aLJ (fun v1x ν1x ha1x=>Zz<|kW [(false,7),(false,8),(false,9)] rfl<|aF (([(_,_),(_,_),(_,_),(_,_),(_,_)]++ν1x)++ω++[(l,_),(bd,_)]) (aGN _ _ _).symm<|bA (A:=[(_,_),(_,_),(_,_),(_,_),(_,_)]++ν1x) (B:=[(l,_),(bd,_)]) rfl U25 rfl rfl Tf.s3 Tf.z3 rfl Tf.i3 rfl rfl rfl ha2 (jL.lit hAm) Ye rfl Ye Yi Yd (aGH (fun p hp=>aFZ _ (aGA.2 ⟨p,hp,rfl⟩))) rfl aLJ (fun u1x ω1x ha2x=>aF ((q5,_)::(q4,.cells [u].toArray 25 (0,0))::(q3,.cells [v].toArray 210 (0,0))::(wb,.cells [cv,.int .i64 y.fit,qv,.map (some mb)].toArray 311 (0,0))::(mb,.map es1 cl1)::(ν1x++(ω1x++[(l,_),(bd,_)]))) ((aGN _ _ _).trans (aGN _ _ _))<|aX rfl rfl rfl ha1x.cells1 Tf.s210 (.tail (.tail .head)) Ye rfl ha1x.cell1 trivial<|aX rfl rfl rfl ha2x.cells1 Tf.s25 (.tail .head) Ye rfl ha2x.cell1 aLJ ?_));have hI1:XS y out (pre++[x]) (es1,cl1,M1,v1x,ν1x,u1x,ω1x):=m6 hM1 hok1 hc1 (by simpa using ha1x) (by simpa using ha2x);refine Zz<|kE<|Zak ?_;exact fun a w hh=>fH (A:=[(_,_),(_,_),(_,_),(_,_)]++(ν1x++ω1x)) (B:=[(bd,.deferred (some []))]) (es1,cl1,M1,v1x,ν1x,u1x,ω1x) hI1 rfl rfl a w ((hh.dropBoxes 1).boxesEq (aAB [_,_,_,_] ν1x ω1x [_,_]))
   ·refine Zp rfl U25 Tf.s3 Tf.z3 rfl rfl rfl rfl (.cons rfl rfl .nil) (fun b901 D901 hD901 hA901=>?_);have hAm:=hA901;refine Zz<|aP [(true,2),(true,3)] rfl<|Zp rfl U210 Tf.s319 Tf.z319 rfl rfl rfl rfl (.cons rfl (by simpa using hs9) .nil) (fun b902 D902 hD902 hA902=>?_);have hAs:=hA902;refine aF ([(_,_),(_,_),(_,_),(_,_),(_,_)]++ν++(ω++[(l,_),(bd,_)])) (aGN _ _ _).symm<|bA (A:=[(_,_),(_,_),(_,_),(_,_),(_,_)]) (B:=(ω++[(l,_),(bd,_)])) rfl U210 rfl rfl Tf.s319 Tf.z319 rfl Tf.i319 rfl rfl rfl ha1 (jL.lit hAs) Ye (by simpa using hs9) (K8 hfit7) (by simpa using cW _) Yd (aGH (fun p hp=>aGI _ (aGA.2 ⟨p,hp,rfl⟩))) rfl aLJ (fun v1x ν1x ha1x=>Zz<|kW [(false,7),(false,8),(false,9)] rfl<|aF (([(_,_),(_,_),(_,_),(_,_),(_,_)]++ν1x)++ω++[(l,_),(bd,_)]) (aGN _ _ _).symm<|bA (A:=[(_,_),(_,_),(_,_),(_,_),(_,_)]++ν1x) (B:=[(l,_),(bd,_)]) rfl U25 rfl rfl Tf.s3 Tf.z3 rfl Tf.i3 rfl rfl rfl ha2 (jL.lit hAm) Ye rfl Ye Yi Yd (aGH (fun p hp=>aFZ _ (aGA.2 ⟨p,hp,rfl⟩))) rfl aLJ (fun u1x ω1x ha2x=>aF ((q5,_)::(q4,.cells [u].toArray 25 (0,0))::(q3,.cells [v].toArray 210 (0,0))::(wb,.cells [cv,.int .i64 y.fit,qv,.map (some mb)].toArray 311 (0,0))::(mb,.map es1 cl1)::(ν1x++(ω1x++[(l,_),(bd,_)]))) ((aGN _ _ _).trans (aGN _ _ _))<|aX rfl rfl rfl ha1x.cells1 Tf.s210 (.tail (.tail .head)) Ye rfl ha1x.cell1 trivial<|aX rfl rfl rfl ha2x.cells1 Tf.s25 (.tail .head) Ye rfl ha2x.cell1 aLJ ?_));have hI1:XS y out (pre++[x]) (es1,cl1,M1,v1x,ν1x,u1x,ω1x):=m6 hM1 hok1 hc1 (by simpa using ha1x) (by simpa using ha2x);refine Zz<|kE<|Zak ?_;exact fun a w hh=>fH (A:=[(_,_),(_,_),(_,_),(_,_)]++(ν1x++ω1x)) (B:=[(bd,.deferred (some []))]) (es1,cl1,M1,v1x,ν1x,u1x,ω1x) hI1 rfl rfl a w ((hh.dropBoxes 1).boxesEq (aAB [_,_,_,_] ν1x ω1x [_,_]))
  ·have hI0:XS y out (pre++[x]) (es1,cl1,M1,v,ν,u,ω):=aBL hM1 hok1 hc1 ha1 ha2;refine bR<|Zak ?_;exact fun a w hh=>fH (A:=[(_,_),(_,_),(_,_),(_,_)]++(ν++ω)) (B:=[(bd,.deferred (some []))]) (es1,cl1,M1,v,ν,u,ω) hI0 rfl rfl a w ((hh.dropBoxes 1).boxesEq (aAB [_,_,_,_] ν ω [_,_]))
 ·rintro⟨es,clock,M,v,ν,u,ω⟩ bd ⟨hM,hok,ha1,ha2⟩;simp only at hM hok ha1 ha2;rw[yX]at ha1 ha2;have hfit7:∀p∈eM y out,p.1.fits.length=7:=by rw[←yX];exact K0 y out _
  have hsl:(eM y out).length≤2097152:=by rw[←yX];have:=W5 y out (C1.cQ (gJ y.chairs));have:=y5 hn7;omega
  refine xS ((q4,.cells [u].toArray 25 (0,0))::(q3,.cells [v].toArray 210 (0,0))::(wb,.cells [cv,.int .i64 y.fit,qv,.map (some mb)].toArray 311 (0,0))::(mb,.map es clock)::((ν++ω)++[(bd,.deferred (some []))])) rfl<|Zak<|Zag<|aL<|C.drawA [] 1 4 6 (fun _ _ _ h=>h)<|Zl rfl Tf.a210 rfl (List.Mem.tail _ (List.Mem.head _)) rfl<|Zl rfl Tf.a25 rfl (List.Mem.head _) rfl<|G5 rfl rfl rfl ha1.cells1 Tf.s210 (.tail .head) Ye rfl ha1.cell1 trivial<|aX rfl rfl rfl ha2.cells1 Tf.s25 .head Ye rfl ha2.cell1 trivial<|L.n5<|xS ([(_,_),(_,_),(_,_),(_,_)]++ν++(ω++[(bd,_)])) (aFV [_,_,_,_] ν ω [_])<|Z1 (A:=[(_,_),(_,_),(_,_),(_,_)]) (B:=ω++[(bd,_)]) ha1 aAN (fun D8 hD8 hF8=>?_);refine xS ([(_,_),(_,_),(_,_),(_,_)]++ω++[(bd,_)]) (aGN _ _ _).symm<|Z1 (A:=[(_,_),(_,_),(_,_),(_,_)]) (B:=[(bd,_)]) ha2 aAN (fun D9 hD9 hF9=>?_);exact CF (A:=[(_,_),(_,_)]) (ν':=[(_,_),(_,_)]) (B:=[]) (vs:=[_,_]) rfl rfl rfl ⟨⟨_,_,_,rfl,(LE _ (GE _)),aGR ⟨Tf.a210,rfl⟩⟩,⟨_,_,_,rfl,GE _,aGR ⟨Tf.a25,rfl⟩⟩,aLJ⟩ rfl (fun D hD=>⟨v,u,rfl,(hF8.scs Ye Yd).up CH.up ((hD9 _ Ye).trans (hD _ Ye)),(hF9.ints Ye Yd).up RI.up (hD _ Ye),es,clock,M,rfl,hM,hok⟩)
end L7
end Go.Fs
namespace Go.Fs
open Go.Proofs
namespace L7
open C7
def iF(s:Sc)(l:List (Int×Int)):Nat:=s.whole+(l.filter fun p=>fB s.fits p.1.toNat p.2.toNat).length
def KQ(l:List (Int×Int)):Prop:=∀p∈l,∃x z:Nat,p=((x:Int),(z:Int))∧x<7∧z<7
theorem PF(s:Sc)(l:List (Int×Int)):iF s l≤s.whole+l.length:=by
 have:=aJI (fun p:Int×Int=>fB s.fits p.1.toNat p.2.toNat) l;unfold iF;omega
theorem CZ{s:Sc}{l:List (Int×Int)}{k x z:Nat}(h:l[k]?= some ((x:Int),(z:Int))):((iF s (l.take (k+1)):Nat):Int)=(iF s (l.take k):Int)+((((s.fits.getD x 0) >>> z:Nat):Int)%2):=by
 rw[jR];unfold iF;rw[aGT,h,aIB,aJG,aGC];have:([((x:Int),(z:Int))].filter fun p:Int×Int=>fB s.fits p.1.toNat p.2.toNat).length=if(s.fits.getD x 0).testBit z=true then 1 else 0:=by
  show(List.filter (fun p:Int×Int=>(s.fits.getD p.1.toNat 0).testBit p.2.toNat) [((x:Int),(z:Int))]).length=_;rw[aJX];simp only[aIH];split<;>rfl
 rw[this];split<;>omega
theorem UU{a b:Nat}(ha:a<128)(hb:b<128):a|||b<128:=Nat.or_lt_two_pow (n:=7) ha hb
theorem MA(w b:Nat)(a0 a1 a2 a3 a4 a5 a6:Nat)(lv:Value)(l:List (Int×Int))(D:aA)(_hF:∀f∈[a0,a1,a2,a3,a4,a5,a6],f<128)(hw:w≤7)(hl:Sl D R2 2 lv l)(hp:KQ l)(hlen:l.length≤1000):Fn Tryz.prog 166 #[.agg #[.int .i64 (w:Int),.int .i64 (b:Int),.int .i64 (a0:Int),.int .i64 (a1:Int),.int .i64 (a2:Int),.int .i64 (a3:Int),.int .i64 (a4:Int),.int .i64 (a5:Int),.int .i64 (a6:Int)],lv] D (fun _ v=>v=.int .i64 (iF ⟨w,b,[a0,a1,a2,a3,a4,a5,a6]⟩ l:Int)):=by
 have hll:=hl.len;refine enter 29 Tryz.func166 rfl rfl rfl rfl fun h0=>C.s1<|Zv rfl (fun q1 E1 hE1 hB1=>Zh rfl<|L.n3<|Zi rfl Tf.f319_0 rfl<|Zf 0 rfl Tf.a3 rfl hB1 rfl<|Zh rfl<|L.n4<|Za rfl<|aV rfl U136 rfl hl rfl rfl trivial<|Za rfl ?_);refine L.n1<|Zah<|cG (γ:=Nat) (fun k=>l.length-k) (fun k=>k≤l.length) (fun k=>[(12,.int .i64 (k:Int)),(5,.int .i64 (iF ⟨w,b,[a0,a1,a2,a3,a4,a5,a6]⟩ (l.take k):Int))]) [(11,_),(10,_),(4,_),(2,_)] (fun k=>[E1,D]) 0 Yd ⟨Yb,(by simp[iF];rfl),aLJ⟩ C.rs (aD) ?_
 rintro k h1;refine C.s1<|Zad rfl<|L.n2<|aE rfl (fun hc1=>?_) (fun hc1=>?_)
 ·have hk:k<l.length:=by omega
  obtain⟨p,hp0⟩:=C.ge l k;obtain⟨x,z,rfl,hx7,hz7⟩:=hp p (aGD hp0);have hml:=PF ⟨w,b,[a0,a1,a2,a3,a4,a5,a6]⟩ (l.take k);have htl:(l.take k).length≤k:=aKX _ _;simp only at hml;refine C.kn<|aL<|Zah<|C.s1<|Zs rfl U136 Tf.s223 rfl hl rfl hp0 (fun b1 o1 cs1 hr1 hcl1 hA1=>?_);obtain rfl:cs1=[.int .i64 _,.int .i64 _]:=hr1;refine Zr rfl Tf.a223 rfl hA1 Tf.s223<|Zw rfl Tf.z223 rfl (fun q2=>Zu rfl Tf.s223 (bL.head)<|L.n1<|C.drawA [] 6 12 1022 (fun _ _ _ h=>bZ (P:=Tryz.prog) (fn:=Tryz.f166) _ _ _ h)<|Za rfl<|Zi rfl Tf.f223_0 rfl<|Zl rfl Tf.a3 rfl (List.Mem.head _) rfl<|Zi rfl Tf.f319_2 rfl<|dR rfl U317 Tf.s3 rfl rfl Yd Yd rfl trivial<|bC (o:=0+1+1) (k:=x*1) rfl Tf.a3 rfl hB1.tail.tail Ye (VR a0 a1 a2 a3 a4 a5 a6 hx7) GT rfl trivial<|Zi rfl Tf.f223_1 rfl ?_);refine Zl rfl Tf.a3 rfl (List.Mem.head _) rfl<|G7 rfl rfl rfl Yd rfl trivial<|pK rfl rfl rfl (Int.natCast_nonneg _) Yd (by rw[jR];split<;>simp only[rJ]<;>omega) rfl trivial<|nH rfl rfl rfl (by rw[jR];simp only[rJ];split<;>omega) rfl trivial<|Zh rfl<|Zz<|Zak<|Zag<|C.rg<|Zx rfl<|Za rfl<|Zz ?_
  exact aH 20 (k+1) Yd Yd ⟨Yb,(by rw[CZ hp0];rfl),aLJ⟩ rfl rfl (aHH _ (LT _)) (aD)
 ·obtain rfl:k=l.length:=by omega
  rw[aHT];refine aR<|Zai<|Zai<|Zal<|Zag<|C.s1<|Za rfl<|Zh rfl<|L.n5 ?_;exact leave1 rfl rfl rfl rfl (fun D hD=>rfl)
theorem BP(s:Sc)(lv:Value)(l:List (Int×Int))(hs:∀f∈s.fits,f<128)(hw:s.whole≤7)(hp:KQ l)(hlen:l.length≤1000)(D:aA)(hl:Sl D R2 2 lv l)(hs7:s.fits.length=7):Fn Tryz.prog 166 #[.agg (ints (vP s)).toArray,lv] D (fun _ v=>v=.int .i64 (iF s l:Int)):=by
 obtain⟨w,b,F⟩:=s;obtain⟨a0,a1,a2,a3,a4,a5,a6,rfl⟩:=aAL hs7;exact MA w b a0 a1 a2 a3 a4 a5 a6 lv l D hs hw hl hp hlen
end L7
end Go.Fs
namespace Go.Fs
open Go.Proofs
namespace L7
open C7
def eL(y:bI):(Int×Int)×Int:=if aT y≠0 then((0,0),aT y)else match(eM y []).map fun p=>(p.2:Int)with
 | []=>((0,0),11)
 |m::l=>((m::l).foldl (fun r n=>(min r.1 n,max r.2 n)) (m,m),0)
theorem DO{y:bI}(h:aT y=0)(hn:eM y []=[]):Value.tuple #[.agg #[.int .i64 0,.int .i64 0],.int .i64 11]=.tuple #[iL (eL y).1,.int .i64 (eL y).2]:=by
 rw[eL,aGQ Yd,hn];rfl
theorem zB{y:bI}{L:List Int}{m0:Int}(h:aT y=0)(hL:((eM y []).map fun p=>(p.2:Int))=L)(hm:L[0]?= some m0):Value.tuple #[.agg #[.int .i64 (L.foldl (fun r n=>(min r.1 n,max r.2 n)) (m0,m0)).1,.int .i64 (L.foldl (fun r n=>(min r.1 n,max r.2 n)) (m0,m0)).2],.int .i64 0]=.tuple #[iL (eL y).1,.int .i64 (eL y).2]:=by
  rw[eL,aGQ Yd,hL];cases L with
  |nil=>simp at hm
  | cons m l => obtain rfl : m = m0 := by simpa using hm
                rfl
theorem AB{L:List Int}{k:Nat}{n m0:Int}(h:L[k]?= some n):(L.take (k+1)).foldl (fun r n=>(min r.1 n,max r.2 n)) (m0,m0)=(min ((L.take k).foldl (fun r n=>(min r.1 n,max r.2 n)) (m0,m0)).1 n,max ((L.take k).foldl (fun r n=>(min r.1 n,max r.2 n)) (m0,m0)).2 n):=by
 rw[aGT,h,aIB,aIG];rfl
theorem qI(yv:Value)(y:bI)(D:aA)(hy:lE D yv y):Fn Tryz.prog 51 #[yv] D (fun _ v=>v=.tuple #[iL (eL y).1,.int .i64 (eL y).2]):=by
 have hy0:=hy;obtain⟨cv,qv,rfl,hc,hq⟩:=hy;refine enter 48 Tryz.func51 rfl rfl rfl rfl fun h0=>C.s1<|Zv rfl (fun q1 E1 hE1 hB1=>Zw rfl Tf.z133 rfl (fun q2=>Zh rfl<|L.n4<|Zr rfl Tf.a40 rfl hB1 Tf.s40<|Zc rfl (fun D1 hD1=>qT _ y _ (hy0.up (hD1 _ Ye)))<|Zh rfl<|L.n3<|Za rfl<|eI rfl rfl rfl rfl aLJ ?_));refine L.n1<|aE rfl (fun hc1=>?_) (fun hc1=>?_)
 ·refine C.s1<|Zq [.int .i64 0,.int .i64 0] rfl Tf.p133 Tf.z133 rfl rfl<|Za rfl<|Zu rfl Tf.s133 (bL.head)<|Zh rfl<|L.n5<|Zaj ?_;exact Zm [_,_] rfl ⟨⟨_,_,_,rfl,(List.Mem.head _),Or.inr ⟨Tf.a133,(by first|exact Tf.s133|(simp only[aHK,aI, *];exact Tf.s133)),rfl⟩⟩,rfl,aLJ⟩ (fun D hD=>by show Value.tuple _=_;rw[eL,aGX hc1];rfl)
 ·have hf0:aT y=0:=by omega
  have hyo:=aFX hf0;have hn7:=hyo.len;refine C.kn<|C.s1<|Zr rfl Tf.a40 rfl hB1 Tf.s40<|eU (μ:=_) rfl rfl rfl (fun D5 hD5=>B5 _ y _ _ D5 rfl) rfl aLJ (fun v5 D6 _ hD6 hp5=>?_);obtain⟨wb,mb,rfl,rfl⟩:=hp5;refine aF ([]++[(_,_),(_,_)]++([(_,_)])) rfl<|dX (A:=[]) (ν:=[(_,_),(_,_)]) (B:=[(_,_)]) rfl rfl rfl rfl (aGR rfl) (T6 (cs:=[_,_,_,_])) (fun D7 hD7=>V2 wb mb _ _ y [] _ Yd hyo.fit hyo.size #[] 0 [] _ (hc.up rC.up (hD7 _ Ye)) (hq.up R2.up (hD7 _ Ye)) Sl.nil rfl Q5.nil) rfl aLJ (fun v7 D8 _ hD8 hp7=>?_);obtain⟨sv,mv,rfl,hsv,hmv,es1,cl1,M1,rfl,hM1,hok1⟩:=hp7;refine Za rfl<|Zaa rfl<|Zaa rfl<|Zh rfl<|Zh rfl<|L.n4<|Za rfl<|aV rfl U25 rfl hmv rfl rfl trivial<|dK rfl rfl rfl rfl trivial<|L.n1<|aE rfl (fun hc2=>?_) (fun hc2=>?_)
  ·have hnil:eM y []=[]:=by simpa using hc2
   refine C.s1<|Zq [.int .i64 0,.int .i64 0] rfl Tf.p133 Tf.z133 rfl rfl<|Zu rfl Tf.s133 (.tail (.tail (bL.head)))<|Zh rfl<|L.n5<|Zaj ?_;exact Zm [_,_] rfl ⟨⟨_,_,_,rfl,(List.Mem.tail _ (List.Mem.tail _ (List.Mem.head _))),Or.inr ⟨Tf.a133,(by first|exact Tf.s133|(simp only[aHK,aI, *];exact Tf.s133)),rfl⟩⟩,rfl,aLJ⟩ (fun D hD=>DO hf0 hnil)
  ·generalize hL:((eM y []).map fun p=>(p.2:Int))=ms at hmv hc2 ⊢
   have hml:=hmv.len;have hne:ms≠[]:=fun e=>hc2 (by rw[e];rfl)
   obtain⟨m0,hm0⟩:∃m,ms[0]?= some m:=⟨ms[0]'(aJK.2 hne),aGF _⟩
   refine C.kn<|aL<|kK [] 3 [false,false,false,true,true,true,false,true,true,true,false,false] [.fork [0,1,2,3,4,5,6,7] 8 (.fin [9]) 9 (.fin [8]),.fin [10,11]] Tf.follows (fun _ _ _ h=>bZ (P:=Tryz.prog) (fn:=Tryz.f51) _ _ _ h) Yg<|nE<|bE [(false,0),(false,1),(false,2),(true,3),(true,4),(true,5),(false,6),(true,7)] rfl<|Za rfl<|Zs rfl U25 Tf.s3 rfl hmv rfl hm0 (fun b1 o1 cs1 hr1 hcl1 hA1=>?_);obtain rfl:cs1=[.int .i64 _]:=hr1;refine Zf 0 rfl Tf.a3 rfl hA1 rfl<|Za rfl<|Zs rfl U25 Tf.s3 rfl hmv rfl hm0 (fun b2 o2 cs2 hr2 hcl2 hA2=>?_);obtain rfl:cs2=[.int .i64 _]:=hr2;refine Zf 0 rfl Tf.a3 rfl hA2 rfl<|Zq [.int .i64 m0,.int .i64 m0] rfl Tf.p133 Tf.z133 rfl rfl<|Zq [.func (.func 99) #[] #[]] rfl Tf.p218 Tf.z218 rfl rfl<|Zz (cX true true rfl rfl ?_ ?_)
   ·refine Zw rfl Tf.z133 rfl (fun q3=>Zz<|aP [(true,9)] rfl<|Zw rfl Tf.z218 rfl (fun q4=>Zz<|kW [(false,10),(false,11)] rfl<|Zu rfl Tf.s133 (.tail (bL.head))<|Zu rfl Tf.s218 (bL.head)<|Zz<|kE<|Zag<|C.s2 ?_));refine Za rfl<|aV rfl U25 rfl hmv rfl rfl trivial<|Za rfl<|L.n1<|Zah<|cJ (γ:=Nat) (fun k=>ms.length-k) (fun k=>k≤ms.length) (fun k=>[(37,.int .i64 (k:Int))]) [(36,_),(35,_),(8,_),(7,_),(3,_),(2,_)] (fun k=>(q4,.cells [.func (.func 99) #[] #[]].toArray 218 (0,0))::(q3,.cells [.int .i64 (List.foldl (fun r n=>(min r.1 n,max r.2 n)) (m0,m0) (ms.take k)).1,.int .i64 (List.foldl (fun r n=>(min r.1 n,max r.2 n)) (m0,m0) (ms.take k)).2].toArray 133 (0,0))::(wb,.cells [cv,.int .i64 y.fit,qv,.map (some mb)].toArray 311 (0,0))::(mb,.map es1 cl1)::[(q2,.cells [.int .i64 0,.int .i64 0].toArray 133 (0,0))]) (fun k=>[D8,D6,E1,D]) 0 Yd ⟨Yb,aLJ⟩ C.rs (LT _) (aD) ?_;rintro k h1;refine C.s1<|Zad rfl<|L.n2<|aE rfl (fun hc3=>?_) (fun hc3=>?_)
    ·have hk:k<ms.length:=by omega
     obtain⟨n,hn0⟩:=C.ge ms k;have hst:=AB (m0:=m0) hn0;refine C.kn<|aL<|Zah<|C.s1<|Zs rfl U25 Tf.s3 rfl hmv rfl hn0 (fun b3 o3 cs3 hr3 hcl3 hA3=>?_);obtain rfl:cs3=[.int .i64 _]:=hr3;refine Zf 0 rfl Tf.a3 rfl hA3 rfl<|Zh rfl<|L.n1<|C.rg<|Zi rfl Tf.f218_0 rfl<|Zl rfl Tf.a215 rfl (List.Mem.head _) rfl<|Zt rfl Tf.a133 rfl (List.Mem.tail _ (List.Mem.head _)) Tf.s133<|Za rfl<|Zc rfl (fun D2 hD2=>nU (List.foldl (fun r n=>(min r.1 n,max r.2 n)) (m0,m0) (ms.take k)) n _)<|Zu rfl Tf.s133 (.tail (bL.head))<|Zz<|Zak ?_;refine Zag<|C.rg<|Zx rfl<|Za rfl<|Zz ?_;rw[←hst];exact aH 12 (k+1) Yd Yd ⟨Yb,aLJ⟩ rfl rfl (LT _) (aD)
    ·obtain rfl:k=ms.length:=by omega
     rw[aHT];refine aR<|Zai<|Zai<|Zal<|Zag<|C.s1<|Zt rfl Tf.a133 rfl (List.Mem.tail _ (List.Mem.head _)) Tf.s133<|Zu rfl Tf.s133 (.tail (.tail (.tail (.tail (bL.head)))))<|Zh rfl<|L.n5 ?_;exact Zm [_,_] rfl ⟨⟨_,_,_,rfl,(List.Mem.tail _ (List.Mem.tail _ (List.Mem.tail _ (List.Mem.tail _ (List.Mem.head _))))),Or.inr ⟨Tf.a133,(by first|exact Tf.s133|(simp only[aHK,aI, *];exact Tf.s133)),rfl⟩⟩,rfl,aLJ⟩ (fun D hD=>zB hf0 hL hm0)
   ·refine Zw rfl Tf.z218 rfl (fun q3=>Zz<|aP [(true,8)] rfl<|Zw rfl Tf.z133 rfl (fun q4=>Zz<|kW [(false,10),(false,11)] rfl<|Zu rfl Tf.s133 (bL.head)<|Zu rfl Tf.s218 (.tail (bL.head))<|Zz<|kE<|Zag<|C.s2 ?_));refine Za rfl<|aV rfl U25 rfl hmv rfl rfl trivial<|Za rfl<|L.n1<|Zah<|cJ (γ:=Nat) (fun k=>ms.length-k) (fun k=>k≤ms.length) (fun k=>[(37,.int .i64 (k:Int))]) [(36,_),(35,_),(7,_),(8,_),(3,_),(2,_)] (fun k=>(q4,.cells [.int .i64 (List.foldl (fun r n=>(min r.1 n,max r.2 n)) (m0,m0) (ms.take k)).1,.int .i64 (List.foldl (fun r n=>(min r.1 n,max r.2 n)) (m0,m0) (ms.take k)).2].toArray 133 (0,0))::(q3,.cells [.func (.func 99) #[] #[]].toArray 218 (0,0))::(wb,.cells [cv,.int .i64 y.fit,qv,.map (some mb)].toArray 311 (0,0))::(mb,.map es1 cl1)::[(q2,.cells [.int .i64 0,.int .i64 0].toArray 133 (0,0))]) (fun k=>[D8,D6,E1,D]) 0 Yd ⟨Yb,aLJ⟩ C.rs (LT _) (aD) ?_;rintro k h1;refine C.s1<|Zad rfl<|L.n2<|aE rfl (fun hc3=>?_) (fun hc3=>?_)
    ·have hk:k<ms.length:=by omega
     obtain⟨n,hn0⟩:=C.ge ms k;have hst:=AB (m0:=m0) hn0;refine C.kn<|aL<|Zah<|C.s1<|Zs rfl U25 Tf.s3 rfl hmv rfl hn0 (fun b3 o3 cs3 hr3 hcl3 hA3=>?_);obtain rfl:cs3=[.int .i64 _]:=hr3;refine Zf 0 rfl Tf.a3 rfl hA3 rfl<|Zh rfl<|L.n1<|C.rg<|Zi rfl Tf.f218_0 rfl<|Zl rfl Tf.a215 rfl (List.Mem.tail _ (List.Mem.head _)) rfl<|Zt rfl Tf.a133 rfl (List.Mem.head _) Tf.s133<|Za rfl<|Zc rfl (fun D2 hD2=>nU (List.foldl (fun r n=>(min r.1 n,max r.2 n)) (m0,m0) (ms.take k)) n _)<|Zu rfl Tf.s133 (bL.head)<|Zz<|Zak ?_;refine Zag<|C.rg<|Zx rfl<|Za rfl<|Zz ?_;rw[←hst];exact aH 12 (k+1) Yd Yd ⟨Yb,aLJ⟩ rfl rfl (LT _) (aD)
    ·obtain rfl:k=ms.length:=by omega
     rw[aHT];refine aR<|Zai<|Zai<|Zal<|Zag<|C.s1<|Zt rfl Tf.a133 rfl (List.Mem.head _) Tf.s133<|Zu rfl Tf.s133 (.tail (.tail (.tail (.tail (bL.head)))))<|Zh rfl<|L.n5 ?_;exact Zm [_,_] rfl ⟨⟨_,_,_,rfl,(List.Mem.tail _ (List.Mem.tail _ (List.Mem.tail _ (List.Mem.tail _ (List.Mem.head _))))),Or.inr ⟨Tf.a133,(by first|exact Tf.s133|(simp only[aHK,aI, *];exact Tf.s133)),rfl⟩⟩,rfl,aLJ⟩ (fun D hD=>zB hf0 hL hm0)
end L7
end Go.Fs
