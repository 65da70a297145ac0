/- Of the proof of BookWider: SW10, SW11, SW12, SW13, V30, V31, SW14, BW2, BW3, BW4, BW5, BW6, BW7. -/
import Derived.Test.YtdjdcpieiedfgaaGreatDoorZBookWiderAG
import Derived.Test.YtdjdcpieiedfgaaGreatDoorZBookWiderAE
import Derived.Test.YtdjdcpieiedfgaaGreatDoorZBookWiderAD
import Derived.Test.YtdjdcpieiedfgaaGreatDoorZBookWiderAF
namespace Go.Fs
open Go.Proofs Tryz
namespace L7
open C7
def J7(s:Sc):List Int:=(s.whole:Int)::(s.broken:Int)::s.fits.map fun n:Nat=>(n:Int)
theorem rJ(s:Sc)(h:s.fits.length=7):(J7 s).length=9:=by simp[J7,h]
theorem aJS(s:Sc):QL s=.agg (ints (J7 s)).toArray:=by
 unfold QL d6 J7 ints;rw[aZR,aZR,bDQ];rfl
theorem aLR{s s':Sc}(h:J7 s=J7 s'):s=s':=by
 obtain⟨a,b,c⟩:=s;obtain⟨a',b',c'⟩:=s';simp only[J7,bAT]at h;obtain⟨h1,h2,h3⟩:=h;rw[U1 h3,show a=a' by omega,show b=b' by omega]
def P7(acc:List (Sc×Nat)):List Int:=match acc.getLast? with
 |some p=>J7 p.1
 |none=>[]
def rD(y:bC)(out:List Int)(acc:List (Sc×Nat))(t:List Pt):List (Sc×Nat):=
 if(oT y.claims out (uK y.chairs.length (eC y t):Int)&&(decide ((acc.length:Int)=0)|| !(P7 acc==J7 (eC y t))))=true then acc++[(eC y t,uK y.chairs.length (eC y t))]else acc
def hU(y:bC)(out:List Int)(pre:List (List Int)):List (Sc×Nat):=(pre.map I9).foldl (rD y out) []
def dY(y:bC)(out:List Int):List (Sc×Nat):=(FL y).foldl (rD y out) []
theorem T8(y:bC)(out:List Int):hU y out (C1.cT (jG y.chairs))=dY y out:=rfl
theorem y5(y:bC)(out:List Int)(pre:List (List Int))(x:List Int):hU y out (pre++[x])=rD y out (hU y out pre) (I9 x):=by
 unfold hU;rw[aZH,bAN];rfl
theorem aAT(y:bC)(out:List Int)(acc:List (Sc×Nat))(t:List Pt):(rD y out acc t).length≤acc.length+1:=by
 unfold rD;split
 ·simp
 ·omega
theorem CZ(y:bC)(out:List Int)(pre:List (List Int)):(hU y out pre).length≤pre.length:=by
 have key:∀(l:List (List Pt)) (acc:List (Sc×Nat)),(l.foldl (rD y out) acc).length≤acc.length+l.length:=by
  intro l;induction l with
  |nil=>intro acc;simp
  |cons t l ih=>intro acc;rw[bAG];have:=ih (rD y out acc t);have:=aAT y out acc t;rw[aYW];omega
 have:=key (pre.map I9) [];simpa [hU]using this
theorem s6(y:bC)(out:List Int)(pre:List (List Int)):∀p∈hU y out pre,p.1.fits.length=7:=by
 have key:∀(l:List (List Pt)) (acc:List (Sc×Nat)),(∀p∈acc,p.1.fits.length=7)→∀p∈l.foldl (rD y out) acc,p.1.fits.length=7:=by
  intro l;induction l with
  |nil=>intro acc h;exact h
  |cons t l ih=>
   intro acc h;rw[bAG];refine ih _ fun p hp=>?_
   unfold rD at hp;split at hp
   ·rcases aZF.1 hp with hp|hp
    ·exact h p hp
    ·simp only[aZM]at hp;subst hp;simp[eC]
   ·exact h p hp
 exact key _ [] Ye
def P4(l:List Sc):List Value:=l.flatMap fun s=>ints (J7 s)
theorem KE{l:List Sc}(h:∀s∈l,s.fits.length=7):(P4 l).length=l.length*9:=by
 induction l with
 |nil=>rfl
 |cons c l ih=>
  have:=ih fun s hs=>h s (n5 _ hs)
  unfold P4 at this ⊢
  rw[bAC,aYS,this,aO,rJ c (h c LT),aYW];omega
theorem n9{acc:List (Sc×Nat)}(h:∀p∈acc,p.1.fits.length=7):(P4 (acc.map fun p=>p.1)).length=acc.length*9:=by
 rw[KE fun s hs=>by obtain⟨p,hp,rfl⟩:=GT.1 hs;exact h p hp,bAY]
theorem MQ{l:List Sc}(h:∀s∈l,s.fits.length=7){i:Nat}{s:Sc}(hi:l[i]?= some s)(junk:List Value):((P4 l++junk).drop (i*9)).take 9=ints (J7 s):=by
 induction l generalizing i with
 |nil=>simp at hi
 |cons d l ih=>
  have G:(ints (J7 d)).length=9:=by rw[aO,rJ d (h d LT)]
  have hc:P4 (d::l)=ints (J7 d)++P4 l:=rfl;rw[hc,aZD];cases i with
  |zero=>
   obtain rfl:d=s:=by simpa using hi
   rw[bCS,bCN,bAB Yd,aZP Yd]
  |succ i=>
   rw[bDA,aZZ Yd,aZU,show(i+1)*9-(ints (J7 d)).length=i*9 by omega];exact ih (fun s hs=>h s (n5 _ hs)) Yal
def NU:Rd Sc:=fun _ s cs=>cs=ints (J7 s)
theorem NU.up:NU.Up:=fun _ _ _ h=>h
theorem _root_.Go.Fs.mK.scs{D:aC}{v:Value}{n:Nat}{acc:List (Sc×Nat)}(hF:mK D v n (P4 (acc.map fun p=>p.1)))(hn:(acc.map fun p=>p.1).length=n)(hb:n≤9223372036854775807)(h:∀p∈acc,p.1.fits.length=7:=by assumption):Sl D NU 9 v (acc.map fun p=>p.1):=by
 have h':∀s∈acc.map (fun p=>p.1),s.fits.length=7:=fun s hs=>by obtain⟨p,hp,rfl⟩:=GT.1 hs;exact h p hp
 exact hF.sl hn hb fun i s hi=>⟨_,rfl,by rw[aO,rJ s (h' s (LE hi))],by have:=MQ h' hi [];rwa [aZA]at this⟩
theorem EB{acc:List (Sc×Nat)}(h:∀p∈acc,p.1.fits.length=7)(hne:acc≠[]):(P7 acc).length=9:=by
 unfold P7;rw[bBZ hne];exact rJ _ (h _ (List.getLast_mem hne))
theorem aHZ{acc:List (Sc×Nat)}(h:∀p∈acc,p.1.fits.length=7)(hne:acc≠[])(junk:List Value):((P4 (acc.map fun p=>p.1)++junk).drop (0+(((acc.length:Int)-1).toNat)*9)).take 9=ints (P7 acc):=by
 have h':∀s∈acc.map (fun p=>p.1),s.fits.length=7:=fun s hs=>by obtain⟨p,hp,rfl⟩:=GT.1 hs;exact h p hp
 have hpos:=bBY.2 hne;unfold P7;rw[bBZ hne,bCB];refine MQ h' ?_ junk;rw[aZT,show((acc.length:Int)-1).toNat=acc.length-1 by omega,←List.getLast?_eq_getElem?,bBZ hne];rfl
theorem aVW{D:aC}{bo n:Nat}{x:List Int}(h:At D bo 0 (ints x))(hx:x.length=3*n)(hn:n≤7):Sl D RP 3 (qS bo n n) (I9 x):=by
  obtain⟨h1,h2⟩:=GG _ _ hx;have hle:n≤9223372036854775807∨True:=aYZ trivial;have key:∀(l:List Pt) (i:Nat) (p:Pt),l[i]?= some p→((ints (C7.mT l)).drop (i*3)).take 3=[qI p.a,qI p.b,qI p.c]:=by
    intro l;induction l with
    |nil=>intro i p hi;simp at hi
    |cons d l ih=>
      intro i p hi;cases i with
      | zero => obtain rfl : d = p := by simpa using hi
                rfl
      |succ i=>
        rw[C7.sQ,show(i+1)*3=i*3+3 by omega];exact ih i p Yal
  refine⟨_,n,by rw[h2],by omega,?_,aYZ ⟨bo,0,rfl,fun i p hi=>⟨_,rfl,rfl,fun j v hj=>?_⟩⟩⟩
  · rw[h2];omega
  · have:=key _ _ _ hi;rw[h1]at this;rw[←this,List.getElem?_take]at hj;split at hj
    · rw[bBJ]at hj;have:=h _ v hj;rw[show 0+i*3+j=0+(i*3+j) by omega];exact this
    · cases hj
def aLH(y:bC)(out:List Int)(pre:List (List Int))(g:Array MapEntry×Nat×List (uW 8×Int)×Value×aD×Value×aD):Prop:=
 yF X2 g.1 g.2.2.1∧AX y.chairs.length g.2.2.1∧bS 307 9 g.2.2.2.1 (hU y out pre).length (P4 ((hU y out pre).map fun p=>p.1)) g.2.2.2.2.1∧bS 3 1 g.2.2.2.2.2.1 (hU y out pre).length (ints ((hU y out pre).map fun p=>(p.2:Int))) g.2.2.2.2.2.2
theorem HY{y:bC}{out:List Int}{pre:List (List Int)}{x:List Int}{es:Array MapEntry}{cl:Nat}{M:List (uW 8×Int)}{v u:Value}{ν ω:aD}(hM:yF X2 es M)(hok:AX y.chairs.length M)
  (hc:(oT y.claims out (uK y.chairs.length (eC y (I9 x)):Int)&&(decide (((hU y out pre).length:Int)=0)|| !(P7 (hU y out pre)==J7 (eC y (I9 x)))))=true)
  (h1:bS 307 9 v ((hU y out pre).length+1) (P4 ((hU y out pre).map fun p=>p.1)++ints (J7 (eC y (I9 x)))) ν) (h2:bS 3 1 u ((hU y out pre).length+1) (ints ((hU y out pre).map fun p=>(p.2:Int))++[qI (uK y.chairs.length (eC y (I9 x)):Int)]) ω):aLH y out (pre++[x]) (es,cl,M,v,ν,u,ω):=by
 have e:hU y out (pre++[x])=hU y out pre++[(eC y (I9 x),uK y.chairs.length (eC y (I9 x)))]:=by
  rw[y5,rD,aZK hc]
 unfold aLH;rw[e];refine⟨hM,hok,?_,?_⟩
 ·simpa [P4]using h1
 ·simpa [ints]using h2
theorem aUH{y:bC}{out:List Int}{pre:List (List Int)}{x:List Int}{es:Array MapEntry}{cl:Nat}{M:List (uW 8×Int)}{v u:Value}{ν ω:aD}(hM:yF X2 es M)(hok:AX y.chairs.length M)
  (hc:(oT y.claims out (uK y.chairs.length (eC y (I9 x)):Int)&&(decide (((hU y out pre).length:Int)=0)|| !(P7 (hU y out pre)==J7 (eC y (I9 x)))))=false)
  (h1:bS 307 9 v (hU y out pre).length (P4 ((hU y out pre).map fun p=>p.1)) ν) (h2:bS 3 1 u (hU y out pre).length (ints ((hU y out pre).map fun p=>(p.2:Int))) ω):aLH y out (pre++[x]) (es,cl,M,v,ν,u,ω):=by
 have e:hU y out (pre++[x])=hU y out pre:=by
  rw[y5,rD,aZB (by rw[hc];simp)]
 unfold aLH;rw[e];exact⟨hM,hok,h1,h2⟩
theorem NQ{y:bC}(h:y.chairs.length≤7):(C1.cT (jG y.chairs)).length≤2097152:=by
 have h1:=C1.yI (jG y.chairs);have h2:2^(jG y.chairs).length≤2^21:=bCE Yd (by rw[oY];omega)
 omega
theorem zY{l x:List Int}{pre r:List (List Int)}(h:C1.cT l=pre++x::r):x.length=l.length∧(∀n∈x,0≤n∧n≤1)∧pre.length<(C1.cT l).length:=by
 have hm:x∈C1.cT l:=by rw[h];simp
 exact⟨(C1.rF hm).1,(C1.rF hm).2,by rw[h];simp⟩
theorem aFG{x:List Int}(h:∀n∈x,0≤n∧n≤1)(hg:C7.mT (I9 x)=x):∀p∈I9 x,DF p:=fun p hp=>by
 have:∀n∈p.l,n∈x:=fun n hn=>by rw[←hg];exact bDK.2 ⟨p,hp,hn⟩
 exact⟨h _ (this _ (by simp[Pt.l])),h _ (this _ (by simp[Pt.l])),h _ (this _ (by simp[Pt.l]))⟩
theorem aQY(A ν ω T:aD):A++(ν++(ω++T))=A++(ν++ω)++T:=by simp
theorem aYD(A ν ω T:aD):A++((ν++ω)++T)=A++ν++(ω++T):=by simp
theorem aSD{a b c d:Nat}{l:List Nat}:∀k∈[c,d],k∈a::b::c::d::l:=fun k hk=>by
 simp only[n4,n3,bBB]at hk ⊢
 rcases hk with rfl|rfl
 ·exact aYZ (aYZ (aZE rfl))
 ·exact aYZ (aYZ (aYZ (aZE rfl)))
theorem aYK{A B ν ω C:aD}{k:Nat}(h:(((A++B)++(ν++(ω++C))).map fun p=>p.1).Nodup)(hk:k∈(A++B).ks):k∉ν.ks++ω.ks:=by
 rw[aZH,aZH,aZH,aZC]at h;intro hm;refine h.2.2 k (by simpa using hk) k ?_ rfl;rcases aZF.1 hm with hm|hm
 ·exact aYX _ hm
 ·rw[aZH];exact GE _ (aYX _ hm)
theorem aJA{n:Nat}{s:Sc}(h:NF n s)(hn:n≤7):uK n s≤200:=by
 have h1:=OR s.fits n s.broken;have h2:=IC h.bits hn;have h3:=h.whole;unfold uK;omega
theorem aUW:KS prog 307 9:=by
 have hf:(prog.fieldsOf 307).toList=[(prog.fieldsOf 307)[0]!,(prog.fieldsOf 307)[1]!,(prog.fieldsOf 307)[2]!]:=by kernel_rfl
 refine⟨by kernel_rfl,by kernel_rfl,by kernel_rfl,?_⟩;rw[hf];refine .cons (jY.int Yad Yg Yg) (.cons (jY.int Yad Yg Yg) (.cons (n:=7) (jY.arr (e:=3) Yad Yg Yg Yg Yg ?_ ?_) .nil))
 ·rw[show((prog.fieldsOf 307)[2]!).type=305 by kernel_rfl];exact P8
 ·rw[show((prog.fieldsOf 307)[2]!).type=305 by kernel_rfl];exact xB
theorem aAO(yv tv:Value)(y:bC)(t:List Pt)(D:aC)(hy:nM D yv y)(ht:Sl D RP 3 tv t)(hlen:t.length=y.chairs.length)(G:t.length≤7)(hb:∀p∈t,DF p)(hf:0≤y.fit∧y.fit≤9)(hs:∀c∈y.chairs,0≤c.size∧c.size≤9):Fn prog 174 #[yv,tv] D (fun _ v=>v=.agg (ints (J7 (eC y t))).toArray):=by
 rw[←aJS];exact aKR yv tv y t D hy ht hlen G hb hf hs
theorem aDV(wb mb:Nat)(cv qv:Value)(fit:Int)(chs:List Ch)(s:Sc)(G:chs.length≤7)(hs:NF chs.length s)(es:Array MapEntry)(clock:Nat)(M:List (uW 8×Int))(D:aC)(hS:Sl D wZ 4 cv chs)(hM:yF X2 es M)(hok:AX chs.length M):
  AN prog 175 [qP wb,.agg (ints (J7 s)).toArray] D [(wb,qC [cv,qI fit,qv,.map (some mb)] 299),(mb,.map es clock)] (fun _ v ν'=>v=qI (uK chs.length s:Int)∧∃es' clock' M',ν'=[(wb,qC [cv,qI fit,qv,.map (some mb)] 299),(mb,.map es' clock')]∧yF X2 es' M'∧AX chs.length M'):=by
 rw[←aJS];exact aRO wb mb cv qv fit chs s G hs es clock M D hS hM hok
theorem DT(wb mb:Nat)(cv qv:Value)(y:bC)(out:List Int)(ov:Value)(hE:y.chairs.length≤7)(hft:0≤y.fit∧y.fit≤9)(hsz:∀c∈y.chairs,0≤c.size∧c.size≤9)(hY:Array MapEntry)(clock0:Nat)(M0:List (uW 8×Int))(D:aC)(hS:Sl D wZ 4 cv y.chairs)(hq:Sl D R2 2 qv y.claims)(ho:Sl D RI 1 ov out)(hM0:yF X2 hY M0)(hok0:AX y.chairs.length M0):
  AN prog 88 [qP wb,ov] D [(wb,qC [cv,qI y.fit,qv,.map (some mb)] 299),(mb,.map hY clock0)] (fun D' v ν'=>∃sv mv,v=.tuple #[sv,mv]∧Sl D' NU 9 sv ((dY y out).map fun p=>p.1)∧Sl D' RI 1 mv ((dY y out).map fun p=>(p.2:Int))∧∃es' clock' M',ν'=[(wb,qC [cv,qI y.fit,qv,.map (some mb)] 299),(mb,.map es' clock')]∧yF X2 es' M'∧AX y.chairs.length M'):=by
 obtain⟨oa,oc,rfl⟩:=ho.shape;refine OC 56 func88 rfl rfl rfl rfl (fun h0 hwl hwn=>aA<|Zu rfl (fun q1 E1 hE1 hN=>Zu rfl (fun q2 E2 hE2 hB2=>Zx rfl VI rfl (fun q3=>Zx rfl aHG rfl (fun q4=>bJ<|Zj 0 rfl g8 rfl hN rfl<|Zaj rfl<|Zh rfl B6 rfl<|dM rfl jC iO rfl Mm2 rfl rfl n3 rfl bDY<|Zv rfl (fun D1 rA=>B0 _ y _ ⟨_,_,rfl,hS.up wZ.up (rA _ Ye),hq.up R2.up (rA _ Ye)⟩ hE) (fun v1 D1 rA hp1=>?_))))));refine aF<|Zar ?_;obtain⟨br,rfl,hit⟩:=hp1;refine N0 (γ:=Array MapEntry×Nat×List (uW 8×Int)×Value×aD×Value×aD) (xs:=C1.cT (jG y.chairs)) (enc:=aHP y.chairs.length) (cells:=ints) (Dr:=D1) (aLH y out) (fun _ _ _=>False) (fun g=>(q4,qC [g.2.2.2.2.2.1] 25)::(q3,qC [g.2.2.2.1] 170)::(wb,qC [cv,qI y.fit,qv,.map (some mb)] 299)::(mb,.map g.1 g.2.1)::(g.2.2.2.2.1++g.2.2.2.2.2.2)) (hY,clock0,M0,qN,[],qN,[]) rfl rfl (fun g k hk=>n5 _ (n5 _ (aYX (aD.ks _) hk))) rfl hit Ye (fun _ vs h=>by rw[h];rfl) rfl ⟨hM0,hok0,by simpa [hU,P4]using bS.nil,by simpa [hU,ints]using bS.nil⟩ rfl ?_ ?_ (fun _ _ _ _ h=>h.elim)
 ·rintro pre x ⟨es,clock,M,v,ν,u,ω⟩ ⟨us,hx⟩ ⟨hM,hok,I,O⟩ l bd bo vs rec hh D7 hD7 henc hbo hst hpend;obtain rfl:vs=aTW y.chairs.length bo:=henc;simp only at hM hok I O;obtain⟨rB,hxb,hpl⟩:=zY hx;have hcap:=NQ hE;rw[oY]at rB;have ht:=aVW hbo rB hE;obtain⟨hg1,hF⟩:=GG _ _ rB;have htl:(I9 x).length=y.chairs.length:=hF;have htb:=aFG hxb hg1;have hsc:=CQ htl Yd;have hpsl:=CZ y out pre;have hmb:=aJA hsc hE;have G:∀p∈hU y out pre,p.1.fits.length=7:=s6 y out pre;have Y:=rJ (eC y (I9 x)) (by simp[eC]);refine aU<|Zg rfl<|Zah ?_;refine fun a w hhh=>B2 (A:=[(_,_),(_,_),(_,_),(_,_)]++(ν++ω)) (B:=[(bd,.deferred (some []))]) (r:=rec) (l:=l) Yax hst ?_ a w hhh
  refine YM ((q4,qC [u] 25)::(q3,qC [v] 170)::(wb,qC [cv,qI y.fit,qv,.map (some mb)] 299)::(mb,.map es clock)::(ν++(ω++[(l,.loop {rec with state:=.busy}),(bd,.deferred (some []))]))) Ye<|zB (fun hnd=>?_);simp only[aZR,aZH,bCT,bAO,aZC,n4,aZF,n3,not_or]at hnd;refine Zar<|aA<|Zj 0 rfl g8 rfl hN rfl<|Zaj rfl<|Zh rfl B6 rfl<|dM rfl jC iO rfl Mm2 rfl rfl n3 rfl bDY<|Za rfl<|Zc rfl (fun D2 hD2=>aAO _ _ y (I9 x) _ ⟨_,_,rfl,hS.up wZ.up (hD2 _ Ye),hq.up R2.up (hD2 _ Ye)⟩ (ht.up RP.up (hD2 _ Ye)) htl Yd htb hft hsz)<|Zx rfl uA rfl (fun q5=>bD rfl rfl rfl rfl gK (by simpa using Y) Yax .head (dR _) bDY<|aL<|Zj 0 rfl g8 rfl hN rfl ?_);refine bK (vs:=ints (J7 (eC y (I9 x)))) rfl rN rfl Mm0 (by rw[show(ints (J7 (eC y (I9 x)))).length=9 by simpa using Y];exact gK) n3 rfl bDY<|aI ([(_,_),(_,_),(_,_)]++[(_,_),(_,_)]++(ν++(ω++[(l,_),(bd,_)]))) rfl<|fK (A:=[(_,_),(_,_),(_,_)]) (ν:=[(_,_),(_,_)]) (B:=ν++(ω++[(l,_),(bd,_)])) rfl rfl rfl rfl (aZE rfl) (EQ (cs:=[_,_,_,_])) (fun D5 hD5=>aDV wb mb cv qv y.fit y.chairs (eC y (I9 x)) hE hsc es clock M D5 (hS.up wZ.up (hD5 _ Ye)) hM hok) rfl bDY (fun v5 D6 _ hD6 hp5=>?_)
  obtain⟨rfl,R,U,M1,rfl,hO,hB⟩:=hp5;refine Zg rfl<|bT<|rK [] 7 22 319536 (fun _ _ _ h=>h)<|Zj 0 rfl g8 rfl hN rfl<|Zaj rfl<|Zh rfl B6 rfl<|dM rfl jC iO rfl Mm3 rfl rfl n3 rfl bDY<|Za rfl<|Zj 0 rfl dN rfl hB2 rfl<|Zc rfl (fun D3 hD3=>m7 _ y _ _ out _ ⟨_,_,rfl,hS.up wZ.up (hD3 _ Ye),hq.up R2.up (hD3 _ Ye)⟩ (ho.up RI.up (hD3 _ Ye)))<|Za rfl ?_;refine' dJ 14 (s:=31) (p:=45) rfl (fun hg1=>?_) (fun hg1=>?_) ?_;rotate_left
  ·refine Zn rfl tV rfl Mm2 rfl<|fJ rfl U170 rfl I rfl rfl ⟨_,rfl,rfl⟩<|sJ rfl rfl rfl rfl ⟨_,rfl,rfl⟩<|Zb rfl ?_;refine' cR 9 (s:=35) (p:=44) rfl (fun hF=>?_) (fun hF=>?_) ?_;rotate_left
   ·have hne:hU y out pre≠[]:=fun e=>by rw[e]at hF;simp at hF
    have hpos:=bBY.2 hne;obtain⟨b5,cap5,hH,rfl,hcp5,rfl,hl51,hl52⟩:=I.some hpos;refine Zn rfl tV rfl Mm2 rfl<|Zn rfl tV rfl Mm2 rfl<|kW rfl U170 rfl rfl rfl ⟨_,rfl,rfl⟩<|P9 rfl rfl rfl Yf rfl ⟨_,rfl,rfl⟩<|gO rfl U170 gK rfl rfl Yd Yd rfl ⟨_,rfl,rfl⟩<|dM (vs:=P4 ((hU y out pre).map fun p=>p.1)++hH) (us:=ints (P7 (hU y out pre))) rfl rN gK rfl (aZJ _ (aZJ _ Mm3)) (aHZ G hne hH) (by simpa using EB G hne) n3 rfl ⟨_,rfl,rfl⟩<|bK (vs:=ints (J7 (eC y (I9 x)))) rfl rN rfl Mm0 (by rw[show(ints (J7 (eC y (I9 x)))).length=9 by simpa using Y];exact gK) n3 rfl ⟨_,rfl,rfl⟩<|J4 (n:=9) rfl aUW (EB G hne) Y rfl rfl rfl ⟨_,rfl,rfl⟩<|rP rfl rfl rfl rfl ⟨_,rfl,rfl⟩ ?_
    exact aQ 8
   ·refine Zf rfl<|Zf rfl<|Zf rfl<|Zf rfl<|Zf rfl<|Zf rfl<|Zf rfl<|Zf rfl<|rQ rfl rfl rfl rfl ⟨_,rfl,rfl⟩ ?_;exact aQ 8
   refine Zad rfl ?_;exact aQ 5
  ·refine Zf rfl<|Zf rfl<|Zf rfl<|Zf rfl<|Zf rfl<|Zf rfl<|Zf rfl<|Zf rfl<|Zf rfl<|Zf rfl<|Zf rfl<|Zf rfl ?_;refine Zf rfl<|Zae rfl ?_;exact aQ 13
  refine aF<|aP rfl (fun hI=>?_) (fun hI=>?_)
  ·refine zB (fun hnd=>?_);have hq5:=aYK (A:=[_,_,_]) (B:=[_,_]) (k:=q5) hnd Mm0;have hq4:=aYK (A:=[_,_,_]) (B:=[_,_]) (k:=q4) hnd Mm1;have hq3:=aYK (A:=[_,_,_]) (B:=[_,_]) (k:=q3) hnd Mm2;refine pY (ν.ks++ω.ks) 3 [false,true,true,true,true,true,true,false,false,false] [.fork [0,1,4,5] 2 (.fork [] 3 (.fin [6]) 6 (.fin [3])) 6 (.fin [2,3]),.fin [7,8,9]] bI (fun _ _ _ h=>h) Yg<|uP<|bL [(false,0),(true,1),(true,4),(true,5)] rfl<|bZ rfl tV rfl Mm2 rfl Yn rfl bDY<|bK (vs:=ints (J7 (eC y (I9 x)))) rfl rN rfl Mm0 (by rw[show(ints (J7 (eC y (I9 x)))).length=9 by simpa using Y];exact gK) hq5 rfl bDY<|bZ rfl dN rfl Mm1 rfl Yn rfl bDY<|Za rfl<|Zah (eE true true rfl rfl ?_ ?_)
   ·refine Zp rfl U170 gK uA rfl (.cons rfl (by simpa using Y) .nil) (fun b901 D901 hD901 Z=>?_);have hAs:=Z;refine Zah<|bL [] rfl<|Zah (eE true true rfl rfl ?_ ?_)
    ·refine aI ([(_,_),(_,_),(_,_),(_,_),(_,_)]++ν++(ω++[(l,_),(bd,_)])) (aZD _ _ _).symm<|bB (A:=[(_,_),(_,_),(_,_),(_,_),(_,_)]) (B:=(ω++[(l,_),(bd,_)])) rfl U170 rfl rfl gK uA rfl EY rfl rfl rfl I (mI.lit hAs) Ye (by simpa using Y) (n9 G) (by simpa using dR _) Yd (aYZ (fun p hp=>aYX _ (GT.2 ⟨p,hp,rfl⟩))) rfl bDY (fun v1x ν1x ha1x=>Zah<|aZ [(true,6)] rfl<|Zp rfl U25 aM dS rfl (.cons rfl rfl .nil) (fun hR hX hJ V=>?_));have hAm:=V;refine Zah<|oM [(false,7),(false,8),(false,9)] rfl<|aI (([(_,_),(_,_),(_,_),(_,_),(_,_)]++ν1x)++ω++[(l,_),(bd,_)]) (aZD _ _ _).symm<|bB (A:=[(_,_),(_,_),(_,_),(_,_),(_,_)]++ν1x) (B:=[(l,_),(bd,_)]) rfl U25 rfl rfl aM dS rfl oD rfl rfl rfl O (mI.lit hAm) Ye rfl Ye Yk Yd (aYZ (fun p hp=>GE _ (GT.2 ⟨p,hp,rfl⟩))) rfl bDY (fun u1x ω1x ha2x=>aI ((q5,_)::(q4,qC [u] 25)::(q3,qC [v] 170)::(wb,qC [cv,qI y.fit,qv,.map (some mb)] 299)::(mb,.map R U)::(ν1x++(ω1x++[(l,_),(bd,_)]))) ((aZD _ _ _).trans (aZD _ _ _))<|bG rfl rfl rfl ha1x.cells1 L4 (.tail (.tail .head)) Ye rfl ha1x.cell1 bDY<|bG rfl rfl rfl ha2x.cells1 qX (.tail .head) Ye rfl ha2x.cell1 bDY ?_);have hK:aLH y out (pre++[x]) (R,U,M1,v1x,ν1x,u1x,ω1x):=HY hO hB hI (by simpa using ha1x) (by simpa using ha2x);refine Zah<|qF<|Zat ?_;exact fun a w hh=>iN (A:=[(_,_),(_,_),(_,_),(_,_)]++(ν1x++ω1x)) (B:=[(bd,.deferred (some []))]) (R,U,M1,v1x,ν1x,u1x,ω1x) hK rfl rfl a w ((hh.dropBoxes 1).boxesEq (aQY [_,_,_,_] ν1x ω1x [_,_]))
    ·refine Zp rfl U25 aM dS rfl (.cons rfl rfl .nil) (fun hR hX hJ V=>?_);have hAm:=V;refine Zah<|aZ [(true,3)] rfl<|aI ([(_,_),(_,_),(_,_),(_,_),(_,_)]++ν++(ω++[(l,_),(bd,_)])) (aZD _ _ _).symm<|bB (A:=[(_,_),(_,_),(_,_),(_,_),(_,_)]) (B:=(ω++[(l,_),(bd,_)])) rfl U170 rfl rfl gK uA rfl EY rfl rfl rfl I (mI.lit hAs) Ye (by simpa using Y) (n9 G) (by simpa using dR _) Yd (aYZ (fun p hp=>aYX _ (GT.2 ⟨p,hp,rfl⟩))) rfl bDY (fun v1x ν1x ha1x=>Zah<|oM [(false,7),(false,8),(false,9)] rfl<|aI (([(_,_),(_,_),(_,_),(_,_),(_,_)]++ν1x)++ω++[(l,_),(bd,_)]) (aZD _ _ _).symm<|bB (A:=[(_,_),(_,_),(_,_),(_,_),(_,_)]++ν1x) (B:=[(l,_),(bd,_)]) rfl U25 rfl rfl aM dS rfl oD rfl rfl rfl O (mI.lit hAm) Ye rfl Ye Yk Yd (aYZ (fun p hp=>GE _ (GT.2 ⟨p,hp,rfl⟩))) rfl bDY (fun u1x ω1x ha2x=>aI ((q5,_)::(q4,qC [u] 25)::(q3,qC [v] 170)::(wb,qC [cv,qI y.fit,qv,.map (some mb)] 299)::(mb,.map R U)::(ν1x++(ω1x++[(l,_),(bd,_)]))) ((aZD _ _ _).trans (aZD _ _ _))<|bG rfl rfl rfl ha1x.cells1 L4 (.tail (.tail .head)) Ye rfl ha1x.cell1 bDY<|bG rfl rfl rfl ha2x.cells1 qX (.tail .head) Ye rfl ha2x.cell1 bDY ?_));have hK:aLH y out (pre++[x]) (R,U,M1,v1x,ν1x,u1x,ω1x):=HY hO hB hI (by simpa using ha1x) (by simpa using ha2x);refine Zah<|qF<|Zat ?_;exact fun a w hh=>iN (A:=[(_,_),(_,_),(_,_),(_,_)]++(ν1x++ω1x)) (B:=[(bd,.deferred (some []))]) (R,U,M1,v1x,ν1x,u1x,ω1x) hK rfl rfl a w ((hh.dropBoxes 1).boxesEq (aQY [_,_,_,_] ν1x ω1x [_,_]))
   ·refine Zp rfl U25 aM dS rfl (.cons rfl rfl .nil) (fun b901 D901 hD901 Z=>?_);have hAm:=Z;refine Zah<|aZ [(true,2),(true,3)] rfl<|Zp rfl U170 gK uA rfl (.cons rfl (by simpa using Y) .nil) (fun hR hX hJ V=>?_);have hAs:=V;refine aI ([(_,_),(_,_),(_,_),(_,_),(_,_)]++ν++(ω++[(l,_),(bd,_)])) (aZD _ _ _).symm<|bB (A:=[(_,_),(_,_),(_,_),(_,_),(_,_)]) (B:=(ω++[(l,_),(bd,_)])) rfl U170 rfl rfl gK uA rfl EY rfl rfl rfl I (mI.lit hAs) Ye (by simpa using Y) (n9 G) (by simpa using dR _) Yd (aYZ (fun p hp=>aYX _ (GT.2 ⟨p,hp,rfl⟩))) rfl bDY (fun v1x ν1x ha1x=>Zah<|oM [(false,7),(false,8),(false,9)] rfl<|aI (([(_,_),(_,_),(_,_),(_,_),(_,_)]++ν1x)++ω++[(l,_),(bd,_)]) (aZD _ _ _).symm<|bB (A:=[(_,_),(_,_),(_,_),(_,_),(_,_)]++ν1x) (B:=[(l,_),(bd,_)]) rfl U25 rfl rfl aM dS rfl oD rfl rfl rfl O (mI.lit hAm) Ye rfl Ye Yk Yd (aYZ (fun p hp=>GE _ (GT.2 ⟨p,hp,rfl⟩))) rfl bDY (fun u1x ω1x ha2x=>aI ((q5,_)::(q4,qC [u] 25)::(q3,qC [v] 170)::(wb,qC [cv,qI y.fit,qv,.map (some mb)] 299)::(mb,.map R U)::(ν1x++(ω1x++[(l,_),(bd,_)]))) ((aZD _ _ _).trans (aZD _ _ _))<|bG rfl rfl rfl ha1x.cells1 L4 (.tail (.tail .head)) Ye rfl ha1x.cell1 bDY<|bG rfl rfl rfl ha2x.cells1 qX (.tail .head) Ye rfl ha2x.cell1 bDY ?_));have hK:aLH y out (pre++[x]) (R,U,M1,v1x,ν1x,u1x,ω1x):=HY hO hB hI (by simpa using ha1x) (by simpa using ha2x);refine Zah<|qF<|Zat ?_;exact fun a w hh=>iN (A:=[(_,_),(_,_),(_,_),(_,_)]++(ν1x++ω1x)) (B:=[(bd,.deferred (some []))]) (R,U,M1,v1x,ν1x,u1x,ω1x) hK rfl rfl a w ((hh.dropBoxes 1).boxesEq (aQY [_,_,_,_] ν1x ω1x [_,_]))
  ·have hI0:aLH y out (pre++[x]) (R,U,M1,v,ν,u,ω):=aUH hO hB hI I O;refine bM<|Zat ?_;exact fun a w hh=>iN (A:=[(_,_),(_,_),(_,_),(_,_)]++(ν++ω)) (B:=[(bd,.deferred (some []))]) (R,U,M1,v,ν,u,ω) hI0 rfl rfl a w ((hh.dropBoxes 1).boxesEq (aQY [_,_,_,_] ν ω [_,_]))
 ·rintro⟨es,clock,M,v,ν,u,ω⟩ bd ⟨hM,hok,I,O⟩;simp only at hM hok I O;rw[T8]at I O;have G:∀p∈dY y out,p.1.fits.length=7:=by rw[←T8];exact s6 y out _
  have hsl:(dY y out).length≤2097152:=by rw[←T8];have:=CZ y out (C1.cT (jG y.chairs));have:=NQ hE;omega
  refine V1 ((q4,qC [u] 25)::(q3,qC [v] 170)::(wb,qC [cv,qI y.fit,qv,.map (some mb)] 299)::(mb,.map es clock)::((ν++ω)++[(bd,.deferred (some []))])) rfl<|Zat<|Zaq<|aS<|rK [] 1 4 6 (fun _ _ _ h=>h)<|Zm rfl tV rfl Mm1 rfl<|Zm rfl dN rfl Mm0 rfl<|MP rfl rfl rfl I.cells1 L4 (.tail .head) Ye rfl I.cell1 bDY<|bG rfl rfl rfl O.cells1 qX .head Ye rfl O.cell1 bDY<|aG<|V1 ([(_,_),(_,_),(_,_),(_,_)]++ν++(ω++[(bd,_)])) (aYD [_,_,_,_] ν ω [_])<|CS (A:=[(_,_),(_,_),(_,_),(_,_)]) (B:=ω++[(bd,_)]) I aSD (fun D8 hD8 hF8=>?_);refine V1 ([(_,_),(_,_),(_,_),(_,_)]++ω++[(bd,_)]) (aZD _ _ _).symm<|CS (A:=[(_,_),(_,_),(_,_),(_,_)]) (B:=[(bd,_)]) O aSD (fun D9 hD9 hF9=>?_);exact JJ (A:=[(_,_),(_,_)]) (ν':=[(_,_),(_,_)]) (B:=[]) (vs:=[_,_]) rfl rfl rfl ⟨⟨_,_,_,rfl,Mm1,aZE ⟨tV,rfl⟩⟩,⟨_,_,_,rfl,bDJ _,aZE ⟨dN,rfl⟩⟩,bDY⟩ rfl (fun D hD=>⟨v,u,rfl,(hF8.scs Ye Yd).up NU.up ((hD9 _ Ye).trans (hD _ Ye)),(hF9.ints Ye Yd).up RI.up (hD _ Ye),es,clock,M,rfl,hM,hok⟩)
end L7
namespace L7
open C7
def kY(s:Sc)(l:List (Int×Int)):Nat:=s.whole+(l.filter fun p=>fB s.fits p.1.toNat p.2.toNat).length
def YI(l:List (Int×Int)):Prop:=∀p∈l,∃x z:Nat,p=((x:Int),(z:Int))∧x<7∧z<7
theorem aKH(s:Sc)(l:List (Int×Int)):kY s l≤s.whole+l.length:=by
 have:=bBO (fun p:Int×Int=>fB s.fits p.1.toNat p.2.toNat) l;unfold kY;omega
theorem OX{s:Sc}{l:List (Int×Int)}{k x z:Nat}(h:l[k]?= some ((x:Int),(z:Int))):((kY s (l.take (k+1)):Nat):Int)=(kY s (l.take k):Int)+((((s.fits.getD x 0) >>> z:Nat):Int)%2):=by
 rw[nG];unfold kY;rw[aZG,h,bAR,bBK,aYS];have:([((x:Int),(z:Int))].filter fun p:Int×Int=>fB s.fits p.1.toNat p.2.toNat).length=if(s.fits.getD x 0).testBit z=true then 1 else 0:=by
  show(List.filter (fun p:Int×Int=>(s.fits.getD p.1.toNat 0).testBit p.2.toNat) [((x:Int),(z:Int))]).length=_;rw[bCI];simp only[bAK];split<;>rfl
 rw[this];split<;>omega
theorem aHC{a b:Nat}(ha:a<128)(hb:b<128):a|||b<128:=Nat.or_lt_two_pow (n:=7) ha hb
theorem ZI(w b:Nat)(a0 I a2 a3 a4 a5 M:Nat)(lv:Value)(l:List (Int×Int))(D:aC)(_hF:∀f∈[a0,I,a2,a3,a4,a5,M],f<128)(hw:w≤7)(hl:Sl D R2 2 lv l)(hp:YI l)(hlen:l.length≤1000):Fn prog 228 #[.agg #[qI (w:Int),qI (b:Int),qI (a0:Int),qI (I:Int),qI (a2:Int),qI (a3:Int),qI (a4:Int),qI (a5:Int),qI (M:Int)],lv] D (fun _ v=>v=qI (kY ⟨w,b,[a0,I,a2,a3,a4,a5,M]⟩ l:Int)):=by
 have hll:=hl.len;refine Zs 29 func228 rfl (fun h0=>aA<|Zu rfl (fun q1 E1 hE O=>Zg rfl<|aL<|Zh rfl B4 rfl<|Zj 0 rfl aJ rfl O rfl<|Zg rfl<|bJ<|Za rfl<|Zab rfl U151 rfl hl rfl<|Za rfl ?_));refine aF<|Zar<|gX (γ:=Nat) (fun k=>l.length-k) (fun k=>k≤l.length) (fun k=>[(12,qI (k:Int)),(5,qI (kY ⟨w,b,[a0,I,a2,a3,a4,a5,M]⟩ (l.take k):Int))]) [(11,_),(10,_),(4,_),(2,_)] (fun k=>[E1,D]) 0 Yd ⟨Yb,(by simp[kY];rfl),bDY⟩ cQ (aH) ?_
 rintro k h1;refine aA<|Zai rfl<|bT<|Zz rfl (fun R=>?_) (fun R=>?_)
 ·have hk:k<l.length:=by omega
  obtain⟨p,G⟩:=dV l k;obtain⟨x,z,rfl,U,hF⟩:=hp p (LE G);have hml:=aKH ⟨w,b,[a0,I,a2,a3,a4,a5,M]⟩ (l.take k);have htl:(l.take k).length≤k:=bDH _ _;simp only at hml;refine aT<|aS<|Zar<|aA<|Zw rfl U151 rT rfl hl rfl G (fun b1 o1 V Y hB Z=>?_);obtain rfl:V=[qI _,qI _]:=Y;refine Zq rfl aNN rfl Z rT<|Zx rfl tW rfl (fun q2=>Zt rfl rT (bR.head)<|aF<|bW [] 6 12 1022<|Za rfl<|Zh rfl aCB rfl<|Zm rfl aJ rfl Mm0 rfl<|Zh rfl zS rfl<|fC rfl U305 aM rfl rfl Yd Yd rfl bDY<|dU (o:=0+1+1) (k:=x*1) rfl aJ rfl O.tail.tail Ye (aIB a0 I a2 a3 a4 a5 M U) n3 rfl bDY<|Zh rfl aBL rfl ?_);refine Zm rfl aJ rfl Mm0 rfl<|s4 rfl rfl rfl Yd rfl bDY<|G1 rfl rfl rfl (Int.natCast_nonneg _) Yd (by rw[nG];split<;>simp only[uN]<;>omega) rfl bDY<|y7 rfl rfl rfl (by rw[nG];simp only[uN];split<;>omega) rfl bDY<|Zg rfl<|Zah<|Zat<|Zaq<|aU<|Zaa rfl<|Za rfl<|Zah ?_
  exact aK 20 (k+1) Yd Yd ⟨Yb,(by rw[OX G];rfl),bDY⟩ rfl rfl (aZQ _ Mm5) (aH)
 ·obtain rfl:k=l.length:=by omega
  rw[bAA];refine aW<|Zas<|Zas<|Zav<|Zaq<|aA<|Za rfl<|Zg rfl<|aG ?_;exact aE rfl (fun D hD=>rfl)
theorem NR(s:Sc)(lv:Value)(l:List (Int×Int))(hs:∀f∈s.fits,f<128)(hw:s.whole≤7)(hp:YI l)(hlen:l.length≤1000)(D:aC)(hl:Sl D R2 2 lv l)(G:s.fits.length=7):Fn prog 228 #[.agg (ints (J7 s)).toArray,lv] D (fun _ v=>v=qI (kY s l:Int)):=by
 obtain⟨w,b,F⟩:=s;obtain⟨a0,I,a2,a3,a4,a5,M,rfl⟩:=aSG G;exact ZI w b a0 I a2 a3 a4 a5 M lv l D hs hw hl hp hlen
end L7
namespace L7
open C7
def cF(y:bC):(Int×Int)×Int:=if aV y≠0 then((0,0),aV y)else match(dY y []).map fun p=>(p.2:Int)with
 | []=>((0,0),11)
 |m::l=>((m::l).foldl (fun r n=>(min r.1 n,max r.2 n)) (m,m),0)
theorem PX{y:bC}(h:aV y=0)(hn:dY y []=[]):Value.tuple #[.agg #[qI 0,qI 0],qI 11]=.tuple #[kX (cF y).1,qI (cF y).2]:=by
 rw[cF,aZB Yd,hn];rfl
theorem X1{y:bC}{L:List Int}{m0:Int}(h:aV y=0)(hL:((dY y []).map fun p=>(p.2:Int))=L)(hm:L[0]?= some m0):Value.tuple #[.agg #[qI (L.foldl (fun r n=>(min r.1 n,max r.2 n)) (m0,m0)).1,qI (L.foldl (fun r n=>(min r.1 n,max r.2 n)) (m0,m0)).2],qI 0]=.tuple #[kX (cF y).1,qI (cF y).2]:=by
  rw[cF,aZB Yd,hL];cases L with
  |nil=>simp at hm
  | cons m l => obtain rfl : m = m0 := by simpa using hm
                rfl
theorem KQ{L:List Int}{k:Nat}{n m0:Int}(h:L[k]?= some n):(L.take (k+1)).foldl (fun r n=>(min r.1 n,max r.2 n)) (m0,m0)=(min ((L.take k).foldl (fun r n=>(min r.1 n,max r.2 n)) (m0,m0)).1 n,max ((L.take k).foldl (fun r n=>(min r.1 n,max r.2 n)) (m0,m0)).2 n):=by
 rw[aZG,h,bAR,bAN];rfl
theorem pI(yv:Value)(y:bC)(D:aC)(hy:nM D yv y):Fn prog 28 #[yv] D (fun _ v=>v=.tuple #[kX (cF y).1,qI (cF y).2]):=by
 have hB:=hy;obtain⟨cv,qv,rfl,hc,hq⟩:=hy;refine Zs 48 func28 rfl (fun h0=>aA<|Zu rfl (fun q1 E1 hR R=>Zx rfl kG rfl (fun q2=>Zg rfl<|bJ<|Zq rfl jC rfl R iO<|Zc rfl (fun D1 hE=>xA _ y _ (hB.up (hE _ Ye)))<|Zg rfl<|aL<|Za rfl<|Zak rfl ?_)));refine aF<|Zz rfl (fun U=>?_) (fun U=>?_)
 ·refine aA<|Zr [qI 0,qI 0] rfl y8 kG rfl<|Za rfl<|Zt rfl cU (bR.head)<|Zg rfl<|aG<|Zap ?_;exact cS (vs:=[_,_]) rfl rfl rfl ⟨⟨_,_,_,rfl,Mm0,aYZ ⟨nQ,(by first|exact cU|(simp only[aZV,aO, *];exact cU)),rfl⟩⟩,rfl,bDY⟩ (fun D hD=>by show Value.tuple _=_;rw[cF,aZK U];rfl)
 ·have I:aV y=0:=by omega
  have hyo:=aYP I;have hS:=hyo.len;refine aT<|aA<|Zq rfl jC rfl R iO<|fX (μ:=_) rfl rfl rfl (fun D5 hX=>i7 _ y _ _ D5 rfl) rfl bDY (fun v5 D6 _ hY hF=>?_);obtain⟨wb,mb,rfl,rfl⟩:=hF;refine aI ([]++[(_,_),(_,_)]++([(_,_)])) rfl<|fK (A:=[]) (ν:=[(_,_),(_,_)]) (B:=[(_,_)]) rfl rfl rfl rfl (aZE rfl) (EQ (cs:=[_,_,_,_])) (fun D7 V=>DT wb mb _ _ y [] _ Yd hyo.fit hyo.size #[] 0 [] _ (hc.up wZ.up (V _ Ye)) (hq.up R2.up (V _ Ye)) Sl.nil rfl AX.nil) rfl bDY (fun v7 D8 _ rA hH=>?_);obtain⟨sv,mv,rfl,hsv,hmv,Y,Z,M1,rfl,rB,hN⟩:=hH;refine Za rfl<|Zaf rfl<|Zaf rfl<|Zg rfl<|Zg rfl<|bJ<|Za rfl<|Zab rfl U25 rfl hmv rfl<|Zam rfl<|aF<|Zz rfl (fun hc2=>?_) (fun hc2=>?_)
  ·have hnil:dY y []=[]:=by simpa using hc2
   refine aA<|Zr [qI 0,qI 0] rfl y8 kG rfl<|Zt rfl cU (.tail (.tail (bR.head)))<|Zg rfl<|aG<|Zap ?_;exact cS (vs:=[_,_]) rfl rfl rfl ⟨⟨_,_,_,rfl,Mm2,aYZ ⟨nQ,(by first|exact cU|(simp only[aZV,aO, *];exact cU)),rfl⟩⟩,rfl,bDY⟩ (fun D hD=>PX I hnil)
  ·generalize hL:((dY y []).map fun p=>(p.2:Int))=ms at hmv hc2 ⊢
   have hml:=hmv.len;have hne:ms≠[]:=fun e=>hc2 (by rw[e];rfl)
   obtain⟨m0,M⟩:∃m,ms[0]?= some m:=⟨ms[0]'(bBY.2 hne),aYU _⟩
   refine aT<|aS<|pY [] 3 [false,false,false,true,true,true,false,true,true,true,false,false] [.fork [0,1,2,3,4,5,6,7] 8 (.fin [9]) 9 (.fin [8]),.fin [10,11]] bI (fun _ _ _ h=>kL (P:=prog) (fn:=f28) _ _ _ h) Yg<|uP<|bL [(false,0),(false,1),(false,2),(true,3),(true,4),(true,5),(false,6),(true,7)] rfl<|Za rfl<|jZ rfl hmv rfl M (fun b1 o1=>Za rfl<|jZ rfl hmv rfl M (fun b2 o2=>Zr [qI m0,qI m0] rfl y8 kG rfl<|Zr [.func (.func 89) #[] #[]] rfl aLZ FU rfl<|Zah (eE true true rfl rfl ?_ ?_)))
   ·refine Zx rfl kG rfl (fun q3=>Zah<|aZ [(true,9)] rfl<|Zx rfl FU rfl (fun q4=>Zah<|oM [(false,10),(false,11)] rfl<|Zt rfl cU (.tail (bR.head))<|Zt rfl UA (bR.head)<|Zah<|qF<|Zaq<|eH ?_));refine Za rfl<|Zab rfl U25 rfl hmv rfl<|Za rfl<|aF<|Zar<|dD (γ:=Nat) (fun k=>ms.length-k) (fun k=>k≤ms.length) (fun k=>[(37,qI (k:Int))]) [(36,_),(35,_),(8,_),(7,_),(3,_),(2,_)] (fun k=>(q4,qC [.func (.func 89) #[] #[]] 178)::(q3,qC [qI (List.foldl (fun r n=>(min r.1 n,max r.2 n)) (m0,m0) (ms.take k)).1,qI (List.foldl (fun r n=>(min r.1 n,max r.2 n)) (m0,m0) (ms.take k)).2] 90)::(wb,qC [cv,qI y.fit,qv,.map (some mb)] 299)::(mb,.map Y Z)::[(q2,qC [qI 0,qI 0] 90)]) (fun k=>[D8,D6,E1,D]) 0 Yd ⟨Yb,bDY⟩ cQ Mm5 (aH) ?_;rintro k h1;refine aA<|Zai rfl<|bT<|Zz rfl (fun O=>?_) (fun O=>?_)
    ·have hk:k<ms.length:=by omega
     obtain⟨n,G⟩:=dV ms k;have hst:=KQ (m0:=m0) G;refine aT<|aS<|Zar<|aA<|Zw rfl U25 aM rfl hmv rfl G (fun b3 o3 hI hJ hO hK=>?_);obtain rfl:hI=[qI _]:=hJ;refine Zj 0 rfl aJ rfl hK rfl<|Zg rfl<|aF<|aU<|Zh rfl EP rfl<|Zm rfl WW rfl Mm0 rfl<|Zy rfl nQ rfl Mm1 cU<|Za rfl<|Zc rfl (fun D2 hM=>sK (List.foldl (fun r n=>(min r.1 n,max r.2 n)) (m0,m0) (ms.take k)) n _)<|Zt rfl cU (.tail (bR.head))<|Zah<|Zat ?_;refine Zaq<|aU<|Zaa rfl<|Za rfl<|Zah ?_;rw[←hst];exact aK 12 (k+1) Yd Yd ⟨Yb,bDY⟩ rfl rfl Mm5 (aH)
    ·obtain rfl:k=ms.length:=by omega
     rw[bAA];refine aW<|Zas<|Zas<|Zav<|Zaq<|aA<|Zy rfl nQ rfl Mm1 cU<|Zt rfl cU (.tail (.tail (.tail (.tail (bR.head)))))<|Zg rfl<|aG ?_;exact cS (vs:=[_,_]) rfl rfl rfl ⟨⟨_,_,_,rfl,(aZJ _ Mm3),aYZ ⟨nQ,(by first|exact cU|(simp only[aZV,aO, *];exact cU)),rfl⟩⟩,rfl,bDY⟩ (fun D hD=>X1 I hL M)
   ·refine Zx rfl FU rfl (fun q3=>Zah<|aZ [(true,8)] rfl<|Zx rfl kG rfl (fun q4=>Zah<|oM [(false,10),(false,11)] rfl<|Zt rfl cU (bR.head)<|Zt rfl UA (.tail (bR.head))<|Zah<|qF<|Zaq<|eH ?_));refine Za rfl<|Zab rfl U25 rfl hmv rfl<|Za rfl<|aF<|Zar<|dD (γ:=Nat) (fun k=>ms.length-k) (fun k=>k≤ms.length) (fun k=>[(37,qI (k:Int))]) [(36,_),(35,_),(7,_),(8,_),(3,_),(2,_)] (fun k=>(q4,qC [qI (List.foldl (fun r n=>(min r.1 n,max r.2 n)) (m0,m0) (ms.take k)).1,qI (List.foldl (fun r n=>(min r.1 n,max r.2 n)) (m0,m0) (ms.take k)).2] 90)::(q3,qC [.func (.func 89) #[] #[]] 178)::(wb,qC [cv,qI y.fit,qv,.map (some mb)] 299)::(mb,.map Y Z)::[(q2,qC [qI 0,qI 0] 90)]) (fun k=>[D8,D6,E1,D]) 0 Yd ⟨Yb,bDY⟩ cQ Mm5 (aH) ?_;rintro k h1;refine aA<|Zai rfl<|bT<|Zz rfl (fun O=>?_) (fun O=>?_)
    ·have hk:k<ms.length:=by omega
     obtain⟨n,G⟩:=dV ms k;have hst:=KQ (m0:=m0) G;refine aT<|aS<|Zar<|aA<|jZ rfl hmv rfl G (fun b3 o3=>Zg rfl<|aF<|aU<|Zh rfl EP rfl<|Zm rfl WW rfl Mm1 rfl<|Zy rfl nQ rfl Mm0 cU<|Za rfl ?_);refine Zc rfl (fun D2 hM=>sK (List.foldl (fun r n=>(min r.1 n,max r.2 n)) (m0,m0) (ms.take k)) n _)<|Zt rfl cU (bR.head)<|Zah<|Zat<|Zaq<|aU<|Zaa rfl<|Za rfl<|Zah ?_;rw[←hst];exact aK 12 (k+1) Yd Yd ⟨Yb,bDY⟩ rfl rfl Mm5 (aH)
    ·obtain rfl:k=ms.length:=by omega
     rw[bAA];refine aW<|Zas<|Zas<|Zav<|Zaq<|aA<|Zy rfl nQ rfl Mm0 cU<|Zt rfl cU (.tail (.tail (.tail (.tail (bR.head)))))<|Zg rfl<|aG ?_;exact cS (vs:=[_,_]) rfl rfl rfl ⟨⟨_,_,_,rfl,(aZJ _ Mm3),aYZ ⟨nQ,(by first|exact cU|(simp only[aZV,aO, *];exact cU)),rfl⟩⟩,rfl,bDY⟩ (fun D hD=>X1 I hL M)
end L7
namespace L7
open C7
theorem XO(l:List (Int×Int)):∀u∈PE l,cell1 u=true:=by
 intro u hu;unfold PE at hu;rw[bDK]at hu;obtain⟨p,_,hu⟩:=hu;simp only[n4,n3,bBB]at hu;rcases hu with rfl|rfl<;>rfl
theorem GI{G b2 t1 t2:Nat}{cs ds:List Value}:∀p∈[(G,Obj.cells cs.toArray t1 (0,0)),(b2,qC ds t2)],dB p.2:=by
 intro p hp;simp only[n4,n3,bBB]at hp;rcases hp with rfl|rfl<;>rfl
def y1(scs:List Sc)(l:List (Int×Int)):Int:=match scs with
 | []=>0
 |s::_=>(scs.map fun s=>(kY s l:Int)).foldl min (kY s l:Int)
theorem aGP{scs:List Sc}{l:List (Int×Int)}{G:Sc}(h:scs[0]?= some G):(scs.map fun s=>(kY s l:Int)).foldl min (kY G l:Int)=y1 scs l:=by
  cases scs with
  |nil=>simp at h
  | cons s r => obtain rfl : s = G := by simpa using h
                rfl
theorem ZR{scs:List Sc}{l:List (Int×Int)}{k:Nat}{s:Sc}{a:Int}(h:scs[k]?= some s):((scs.take (k+1)).map fun s=>(kY s l:Int)).foldl min a=min (((scs.take k).map fun s=>(kY s l:Int)).foldl min a) (kY s l:Int):=by
 rw[aZG,h,bAR,aZH,bAN];rfl
def mU(y:bC)(a b:Nat):Bool:=match y.chairs[a]?,y.chairs[b]? with
 |some x,some z=>CC y.fit x z
 |_,_=>false
def MS(y:bC):Nat→Nat→Nat→List (Int×Int)→List (List (Int×Int))
 |0,_,_,l=>[l]
 |k+1,f,w,l=>MS y k (f+1) w l++(if w.testBit f=true then []else((List.range y.chairs.length).filter fun b=>decide (f<b)&&(!w.testBit b&&mU y f b)).flatMap fun(b:Nat)=>MS y k (f+1) (w|||2^b) (l++[((f:Int),(b:Int))]))
def VF(scs:List Sc)(st:List (Int×Int)×Int)(l:List (Int×Int)):List (Int×Int)×Int:=if st.2<y1 scs l then(l,y1 scs l)else st
theorem N9{y:bC}{scs:List Sc}{f w:Nat}{l:List (Int×Int)}{st:List (Int×Int)×Int}:(MS y 0 f w l).foldl (VF scs) st=VF scs st l:=rfl
theorem XB{scs:List Sc}{l best:List (Int×Int)}{many:Int}(h:many<y1 scs l):VF scs (best,many) l=(l,y1 scs l):=aZK h
theorem aHL{scs:List Sc}{l best:List (Int×Int)}{many:Int}(h:¬many<y1 scs l):VF scs (best,many) l=(best,many):=aZB h
def sL(y:bC)(k f w:Nat)(l:List (Int×Int))(b:Nat):List (List (Int×Int)):=if w.testBit f=true then []else((List.range b).filter fun b=>decide (f<b)&&(!w.testBit b&&mU y f b)).flatMap fun(b:Nat)=>MS y k (f+1) (w|||2^b) (l++[((f:Int),(b:Int))])
def IH(y:bC)(scs:List Sc)(k f w:Nat)(l best:List (Int×Int))(many:Int)(b:Nat):List (Int×Int)×Int:=(MS y k (f+1) w l++sL y k f w l b).foldl (VF scs) (best,many)
theorem CA{y:bC}{scs:List Sc}{k f w:Nat}{l best:List (Int×Int)}{many:Int}:IH y scs k f w l best many (f+1)=(MS y k (f+1) w l).foldl (VF scs) (best,many):=by
 have:sL y k f w l (f+1)=[]:=by
  unfold sL;split
  ·rfl
  ·rw[List.filter_eq_nil_iff.2 fun b hb=>by have:=bBF.1 hb;simp;omega];rfl
 unfold IH;rw[this,aZA]
theorem b6{y:bC}{scs:List Sc}{k f w b:Nat}{l best:List (Int×Int)}{many:Int}(hb:f<b)(hbit:w.testBit f=false)(hs:(!w.testBit b&&mU y f b)=true):
  IH y scs k f w l best many (b+1)=(MS y k (f+1) (w|||2^b) (l++[((f:Int),(b:Int))])).foldl (VF scs) ((IH y scs k f w l best many b).1,(IH y scs k f w l best many b).2):=by
 have:sL y k f w l (b+1)=sL y k f w l b++MS y k (f+1) (w|||2^b) (l++[((f:Int),(b:Int))]):=by
  unfold sL;rw[aZB (by rw[hbit];simp),aZB (by rw[hbit];simp),bAS,bBK,aZS]
  simp[hb,hs]
 unfold IH;rw[this,←aZD,bAN]
theorem aGR{y:bC}{scs:List Sc}{k f w b:Nat}{l best:List (Int×Int)}{many:Int}(hs:(!w.testBit b&&mU y f b)=false):IH y scs k f w l best many (b+1)=IH y scs k f w l best many b:=by
 have:sL y k f w l (b+1)=sL y k f w l b:=by
  unfold sL;split
  ·rfl
  ·rw[bAS,bBK,aZS];simp[hs]
 unfold IH;rw[this]
theorem UX{y:bC}{scs:List Sc}{k f w b:Nat}{l best:List (Int×Int)}{many:Int}(_h1:f+1≤b)(h:(decide ((b:Int)<(y.chairs.length:Int))&&decide (((w >>> f:Nat):Int)%2=0))=false):(MS y (k+1) f w l).foldl (VF scs) (best,many)=IH y scs k f w l best many b:=by
 have e:MS y (k+1) f w l=MS y k (f+1) w l++sL y k f w l y.chairs.length:=rfl;rw[e];unfold IH
 by_cases hb:w.testBit f=true
 ·have key:∀b,sL y k f w l b=[]:=fun b=>by unfold sL;rw[aZK hb]
  rw[key,key]
 ·have h':¬(b:Int)<(y.chairs.length:Int):=by
   intro h2;rw[nG,aZB hb]at h;simp at h;omega
  have key:∀j,sL y k f w l (y.chairs.length+j)=sL y k f w l y.chairs.length:=by
   intro j;induction j with
   |zero=>rfl
   |succ j ih=>
    rw[←ih];unfold sL;rw[aZB hb,aZB hb,←Nat.add_assoc,bAS,bBK,aZS];have:mU y f (y.chairs.length+j)=false:=by
     unfold mU;rw[bBX (show y.chairs.length≤y.chairs.length+j by omega)];cases y.chairs[f]? <;>rfl
    simp[this]
  have:=key (b-y.chairs.length);rw[show y.chairs.length+(b-y.chairs.length)=b by omega]at this;rw[this]
theorem aVP{b n w f:Nat}(h:(decide ((b:Int)<(n:Int))&&decide (((w >>> f:Nat):Int)%2=0))=true):b<n∧w.testBit f=false:=by
 rw[aYT,aZI,aZI,nG]at h;refine⟨by omega,?_⟩;cases e:w.testBit f with
 |false=>rfl
 |true=>rw[aZK e]at h;omega
theorem WJ{y:bC}{w f b:Nat}{x z:Ch}{r:Bool}(hx:y.chairs[f]?= some x)(hz:y.chairs[b]?= some z)(h:(decide (((w >>> b:Nat):Int)%2=0)&&CC y.fit x z)=r):(!w.testBit b&&mU y f b)=r:=by
 rw[←h,nG];unfold mU;rw[hx,hz]
 cases w.testBit b<;>simp
theorem DW{l:List (Int×Int)}{a b:Nat}(h:YI l)(ha:a<7)(hb:b<7):YI (l++[((a:Int),(b:Int))]):=fun p hp=>by
 rcases aZF.1 hp with hp|hp
 ·exact h p hp
 ·simp only[aZM]at hp;exact⟨a,b,hp,ha,hb⟩
theorem vD(sv:Value)(xs:List Int)(D:aC)(hS:Sl D RI 1 sv xs)(hl:xs.length≤10000000):KZ prog 142 #[sv] D (fun _ v ν=>bS 3 1 v xs.length (ints xs) ν):=by
 obtain⟨a0,c0,rfl⟩:=hS.shape;refine pM 8 func142 rfl rfl rfl rfl fun h0=>aA<|Zg rfl<|bJ<|Za rfl<|oB rfl U25 rfl rfl rfl bDY<|aF<|aP rfl (fun G=>?_) (fun G=>?_)
 ·obtain rfl:a0=none:=by simpa using G
  obtain rfl:=rL hS;refine aA<|Zg rfl<|aG<|Zap ?_;exact aE rfl (fun D' hD=>bS.nil)
 ·refine aT<|aA<|Zp rfl U25 aM dS rfl .nil (fun R U I M=>Za rfl<|bB (A:=[]) (ν:=[]) (B:=[]) rfl U25 rfl rfl aM dS rfl oD rfl rfl rfl bS.nil (mI.ints hS) Ye Ye rfl (dR _) Yd (aZE rfl) rfl bDY (fun v1 ν1 O=>Zg rfl<|aG ?_));exact aE rfl (fun D' hD=>by show bS 3 1 v1 _ _ _;simpa [PE]using O)
theorem T3(sv:Value)(xs:List (Int×Int))(D:aC)(hS:Sl D R2 2 sv xs)(hl:xs.length≤10000000):KZ prog 146 #[sv] D (fun _ v ν=>bS 273 2 v xs.length (PE xs) ν):=by
 obtain⟨a0,c0,rfl⟩:=hS.shape;refine pM 8 func146 rfl rfl rfl rfl fun h0=>aA<|Zg rfl<|bJ<|Za rfl<|oB rfl U151 rfl rfl rfl bDY<|aF<|aP rfl (fun G=>?_) (fun G=>?_)
 ·obtain rfl:a0=none:=by simpa using G
  obtain rfl:=rL hS;refine aA<|Zg rfl<|aG<|Zap ?_;exact aE rfl (fun D' hD=>bS.nil)
 ·refine aT<|aA<|Zp rfl U151 rT tW rfl .nil (fun R U I M=>Za rfl<|bB (A:=[]) (ν:=[]) (B:=[]) rfl U151 rfl rfl rT tW rfl FM rfl rfl rfl bS.nil (mI.of (cells:=fun p:Int×Int=>[qI p.1,qI p.2]) (fun _ _ _ h=>h) (fun _=>rfl) hS) Ye (I4 xs) rfl (XO xs) Yd (aZE rfl) rfl bDY (fun v1 ν1 O=>Zg rfl<|aG ?_));exact aE rfl (fun D' hD=>by show bS 273 2 v1 _ _ _;simpa [PE]using O)
theorem aPB(sv lv:Value)(scs:List Sc)(l:List (Int×Int))(n:Nat)(D:aC)(hS:Sl D NU 9 sv scs)(hl:Sl D R2 2 lv l)(hne:scs≠[])(hsc:∀s∈scs,NF n s)(hp:YI l)(V:l.length≤1000):Fn prog 145 #[sv,lv] D (fun _ v=>v=qI (y1 scs l)):=by
 have hsl:=hS.len;obtain⟨Z,M⟩:∃s,scs[0]?= some s:=⟨scs[0]'(bBY.2 hne),aYU _⟩
 have I:=hsc Z (LE M);refine Zs 27 func145 rfl (fun h0=>aA<|Zg rfl<|aL<|Za rfl<|Zw rfl U170 gK rfl hS rfl M (fun b1 o1 hB hE hX hF=>?_));obtain rfl:hB=ints (J7 _):=hE;refine Zq rfl rN rfl hF (by rw[aO,rJ _ I.len];exact gK)<|Za rfl<|Zc rfl (fun D1 hH=>NR Z _ l I.row I.whole hp V _ (hl.up R2.up (hH _ Ye)) I.len)<|Zg rfl<|bJ<|Za rfl<|Zab rfl U170 rfl hS rfl<|Za rfl<|aF<|Zar<|gX (γ:=Nat) (fun k=>scs.length-k) (fun k=>k≤scs.length) (fun k=>[(15,qI (k:Int)),(5,qI (((scs.take k).map fun s=>(kY s l:Int)).foldl min (kY Z l:Int)))]) [(14,_),(13,_),(4,_),(1,_)] (fun k=>[D]) 0 Yd ⟨Yb,Yb,bDY⟩ cQ (aH) ?_
 rintro k h1;refine aA<|Zai rfl<|bT<|Zz rfl (fun hI=>?_) (fun hI=>?_)
 ·have hk:k<scs.length:=by omega
  obtain⟨Y,O⟩:∃s,scs[k]?= some s:=⟨_,aYU hk⟩
  have G:=hsc Y (LE O);refine aT<|aS<|Zar<|aA<|Zw rfl U170 gK rfl hS rfl O (fun b2 o2 hJ hK hY hM=>?_);obtain rfl:hJ=ints (J7 _):=hK;refine Zq rfl rN rfl hM (by rw[aO,rJ _ G.len];exact gK)<|Zx rfl uA rfl (fun q1=>bD rfl rfl rfl rfl gK (by rw[aO,rJ _ G.len]) Yax .head (dR _) bDY<|aF<|aU<|Za rfl<|bK (vs:=ints (J7 Y)) rfl rN rfl Mm0 (by rw[show(ints (J7 Y)).length=9 by rw[aO,rJ _ G.len]];exact gK) n3 rfl bDY<|Za rfl<|Zc rfl (fun D2 hN=>NR Y _ l G.row G.whole hp V _ (hl.up R2.up (hN _ Ye)) G.len)<|Zp rfl U25 aM dS rfl (.cons rfl rfl (.cons rfl rfl .nil)) (fun rA rB hO R=>?_))
  have U:=Sl.ofInts (l:=[_,_]) (n:=2) (cap:=2) R rfl Yd Yd;refine Zc rfl (fun D3 hR=>lR _ _ [_] _ (U.up RI.up (hR _ Ye)))<|Zg rfl<|Zah<|Zat<|Zaq<|aU<|Zaa rfl<|Za rfl<|Zah ?_;exact aK 15 (k+1) Yd Yd ⟨Yb,(by rw[ZR O];rfl),bDY⟩ rfl rfl (List.Sublist.cons _ Mm5) (fun D h=>⟨D,aZJ _ (h),Le.refl D⟩)
 ·obtain rfl:k=scs.length:=by omega
  rw[bAA];refine aW<|Zas<|Zas<|Zav<|Zaq<|aA<|Za rfl<|Zg rfl<|aG ?_;exact aE rfl (fun D hD=>by show Value.int _ _=_;rw[aGP M])
theorem aUD{y:bC}{scs:List Sc}{cv qv sv:Value}{bY bV bF bm bp:Nat}(hyo:aXU y)(hne:scs≠[])(hsc:∀s∈scs,NF y.chairs.length s):
  ∀(kk f:Nat),f+kk=y.chairs.length→∀(w:Nat) (l:List (Int×Int)) (lv:Value) (best:List (Int×Int)) (many:Int) (pv:Value) (D:aC),w<128→YI l→l.length≤f→Sl D R2 2 lv l→Sl D R2 2 pv best→Sl D wZ 4 cv y.chairs→Sl D R2 2 qv y.claims→At D bY 0 [cv,qI y.fit,qv]→At D bV 0 [sv]→Sl D NU 9 sv scs→At D bF 0 [.func (.func 144) #[] #[qP bY,qP bV,qP bm,qP bp,qP bF]]→
  AN prog 144 [lv,qI (f:Int),qI (w:Int),qP bY,qP bV,qP bm,qP bp,qP bF] D [(bm,qC [qI many] 3),(bp,qC [pv] 151)] (fun D' _ ν'=>∃pv',ν'=[(bm,qC [qI ((MS y kk f w l).foldl (VF scs) (best,many)).2] 3),(bp,qC [pv'] 151)]∧Sl D' R2 2 pv' ((MS y kk f w l).foldl (VF scs) (best,many)).1):=by
 intro kk;induction kk using Nat.strongRecOn with
 |_ kk ih=>
 intro f hf w l lv best many pv D hw hp hlf hl hb hc hq hY hV hS hF;have hn7:=hyo.len;have hcl:=hc.len;refine iL 75 func144 rfl rfl rfl rfl (fun h0 hwl hwn=>eH<|Za rfl<|Zh rfl eO rfl<|Zj 0 rfl jE rfl hY rfl<|Zab rfl U37 rfl hc rfl<|Zam rfl<|aF<|Zz rfl (fun hc1=>?_) (fun hc1=>?_))
 ·obtain rfl:kk=0:=by omega
  refine eH<|Zj 0 rfl tV rfl hV rfl<|Za rfl<|Zc rfl (fun D1 hR=>aPB _ _ scs l y.chairs.length _ (hS.up NU.up (hR _ Ye)) (hl.up R2.up (hR _ Ye)) hne hsc hp Yd)<|Zg rfl<|aL<|Za rfl<|Zm rfl aJ rfl Mm0 rfl<|fI rfl rfl rfl rfl bDY<|aF<|Zz rfl (fun hc2=>?_) (fun hc2=>?_)
  ·refine aU<|Za rfl<|fX rfl rfl rfl (fun D7 V=>T3 _ l _ (hl.up R2.up (V _ Ye)) Yd) rfl bDY (fun v6 D8 ν6 hX U=>uX (A:=[]) (B:=[(_,_),(_,_)]) U (fun k hk=>hk) (fun rA hI I=>?_));have Y:=I.prs rfl Yd;obtain⟨a6,c6,rfl⟩:=U.shape;refine Za rfl<|Zo rfl e7 (.tail .head) rfl<|Zo rfl aM (bR.head) rfl<|aG<|Zap ?_;exact A6 (A:=[]) (ν':=[_,_]) (B:=[]) (vs:=[]) rfl rfl rfl bDY rfl (fun D' hD=>⟨.slice a6 l.length c6,by rw[N9,XB hc2];rfl,by rw[N9,XB hc2];exact Y.up R2.up (hD _ Ye)⟩)
  ·refine aT<|CG<|Zap ?_;exact A6 (A:=[]) (ν':=[_,_]) (B:=[]) (vs:=[]) rfl rfl rfl bDY rfl (fun D' hD=>⟨pv,by rw[N9,aHL hc2],by rw[N9,aHL hc2];exact hb.up R2.up (hD _ Ye)⟩)
 ·obtain⟨k,rfl⟩:∃k,kk=k+1:=⟨kk-1,by omega⟩
  refine aT<|aA<|Zj 0 rfl HC rfl hF rfl<|Za rfl<|Za rfl<|Zaa rfl<|Za rfl<|fK (A:=[]) (ν:=[(_,_),(_,_)]) (B:=[]) rfl rfl rfl rfl (aZE rfl) GI (fun D5 M=>ih k Yd (f+1) Yd w l lv best many pv D5 hw hp Yd (hl.up R2.up (M _ Ye)) (hb.up R2.up (M _ Ye)) (hc.up wZ.up (M _ Ye)) (hq.up R2.up (M _ Ye)) (hY.up (M _ Ye)) (hV.up (M _ Ye)) (hS.up NU.up (M _ Ye)) (hF.up (M _ Ye))) rfl bDY (fun v5 D6 _ hD6 hp5=>?_);obtain⟨pv1,rfl,rB⟩:=hp5;refine aL<|Za rfl<|Zaa rfl<|Zg rfl<|aF<|Zar<|dD (γ:=Nat×Value×aC) (fun g=>y.chairs.length-g.1) (fun g=>f+1≤g.1∧Sl g.2.2 R2 2 g.2.1 (IH y scs k f w l best many g.1).1) (fun g=>[(12,qI (g.1:Int))]) [(0,_),(1,_),(2,_),(3,_),(7,_)] (fun g=>[(bm,qC [qI (IH y scs k f w l best many g.1).2] 3),(bp,qC [g.2.1] 151)]) (fun g=>[g.2.2,D]) (f+1,pv1,D6) ⟨by simp,by simp only;rw[CA];exact rB⟩ ⟨Yb,bDY⟩ cQ ((by rw[CA];exact List.Sublist.refl _)) ((fun D0 h=>by simp only[n4,n3,bBB]at h;rcases h with h|h;exact⟨D6,by simp,h▸Le.refl _⟩;exact⟨D,by simp,h▸Le.refl _⟩)) ?_
  rintro⟨b,hE,Dn⟩ ⟨h1,O⟩;simp only at h1 O;refine eH<|Za rfl<|Zh rfl eO rfl<|Zj 0 rfl jE rfl hY rfl<|Zab rfl U37 rfl hc rfl<|Zai rfl<|Za rfl ?_;refine' dJ 6 (s:=40) (p:=46) rfl (fun hg1=>?_) (fun hg1=>?_) ?_;rotate_left
  ·refine Zb rfl<|Zb rfl<|s4 rfl rfl rfl Yd rfl ⟨_,rfl,rfl⟩<|G1 rfl rfl rfl (Int.natCast_nonneg _) Yd Yf rfl ⟨_,rfl,rfl⟩<|sJ rfl rfl rfl rfl ⟨_,rfl,rfl⟩<|Zad rfl ?_;exact aQ 5
  ·refine Zf rfl<|Zf rfl<|Zf rfl<|Zf rfl<|Zf rfl<|Zae rfl ?_;exact aQ 5
  refine aF<|aP rfl (fun Z=>?_) (fun Z=>?_)
  ·obtain⟨hbn,hbit⟩:=aVP Z;simp only at hbn;have hH:f<b:=by omega
   have hb7:b<7:=by omega
   have hpb:=IE hb7;obtain⟨x,hx⟩:=dV y.chairs f;obtain⟨z,hz⟩:=dV y.chairs b;refine aT<|aS<|Zar<|aA<|Za rfl<|Za rfl<|s4 rfl rfl rfl Yak rfl bDY<|G1 rfl rfl rfl (Int.natCast_nonneg _) Yd Yf rfl bDY<|Zam rfl<|Za rfl ?_;refine' dJ 5 (s:=54) (p:=59) rfl (fun hg2=>?_) (fun hg2=>?_) ?_;rotate_left
   ·refine dQ rfl jC rfl hY Yc iO n3 rfl ⟨_,rfl,rfl⟩<|Zb rfl<|Zb rfl<|Zd rfl (fun D2 hD2=>c8 _ y f b x z _ ⟨_,_,rfl,hc.up wZ.up (hD2 _ Ye),hq.up R2.up (hD2 _ Ye)⟩ hyo.fit hx hz (hyo.size _ (LE hx)) (hyo.size _ (LE hz)))<|Zad rfl ?_;exact aQ 4
   ·refine Zf rfl<|Zf rfl<|Zf rfl<|Zf rfl<|Zae rfl ?_;exact aQ 4
   refine aF<|aP rfl (fun hJ=>?_) (fun hJ=>?_)
   ·have hsel:(!w.testBit b&&mU y f b)=true:=WJ hx hz hJ;refine pY (gN.mk [bF]) 4 [false,true,true,true,true,true,true,true,true,true,true,true,true,true,false] [.fork [0,1,3,4,5,8,9,10,11,12,13] 2 (.fin [6]) 6 (.fin [2]),.fin [7,14]] bI (fun _ _ _ h=>jA (P:=prog) (fn:=f144) _ _ _ h) Yg<|uP<|bL [(false,0),(true,1),(true,3),(true,4),(true,5),(true,8),(true,9),(true,10),(true,11),(true,12),(true,13)] rfl<|dU rfl (k:=0) HC rfl hF Ye rfl (gN.out Ye) rfl bDY<|Za rfl<|Za rfl<|Za rfl<|Zr [qI (f:Int),qI (b:Int)] rfl aPD tW rfl<|Za rfl<|Zaa rfl<|Za rfl<|Za rfl ?_;refine q9 rfl rfl rfl Yak rfl bDY<|UH rfl rfl rfl Yak Yak rfl bDY<|Zah (eE true true rfl rfl ?_ ?_)
    ·refine fX rfl rfl rfl (fun D7 V=>T3 _ l _ (hl.up R2.up (V _ Ye)) Yd) rfl bDY (fun v6 D8 ν6 hX U=>Zah<|aZ [(true,6)] rfl<|Zp rfl U151 rT tW rfl (.cons rfl rfl .nil) (fun b901 D901 hK R=>?_));have hAp:=R;refine Zah<|oM [(true,7),(false,14)] rfl<|lC hF Ye (fun hap=>bB (A:=[]) (B:=[(_,_),(_,_)]) rfl U151 rfl rfl rT tW rfl FM rfl rfl rfl U (mI.lit hAp) Ye rfl (I4 l) Yk Yd (aYZ (fun p hp=>gN.in_ Yai)) rfl bDY (fun v7 ν7 hM=>?_));have ha7':bS 273 2 v7 (l.length+1) (PE (l++[((f:Int),(b:Int))])) ν7:=by rw[LA];simpa using hM
     refine uX (A:=[]) (B:=[(_,_),(_,_)]) ha7' (fun k hk=>hk) (fun rA hI I=>?_);have Y:=I.prs Ye Yd;refine fK (A:=[]) (ν:=[(_,_),(_,_)]) (B:=[]) rfl rfl rfl rfl (aZE rfl) GI (fun D9 G=>ih k Yd (f+1) Yd (w|||2^b) (l++[((f:Int),(b:Int))]) v7 (IH y scs k f w l best many b).1 (IH y scs k f w l best many b).2 hE D9 (aHC hw hpb) (DW hp Yd Yd) Yaj (Y.up R2.up (G _ Ye)) (O.up R2.up (G _ Ye)) (hc.up wZ.up (G _ Ye)) (hq.up R2.up (G _ Ye)) (hY.up (G _ Ye)) (hV.up (G _ Ye)) (hS.up NU.up (G _ Ye)) (hF.up (G _ Ye))) rfl bDY (fun v9 D10 _ hD10 hN=>?_);obtain⟨hO,rfl,hB⟩:=hN;refine Zah<|qF<|Zat<|Zaq<|aU<|Za rfl<|Zaa rfl<|Zg rfl<|Zah ?_;exact aK 33 (b+1,hO,D10) ⟨by simp only;omega,by simp only;rw[b6 hH hbit hsel];exact hB⟩ Ym ⟨Yb,bDY⟩ rfl rfl ((by rw[b6 hH hbit hsel];exact List.Sublist.refl _)) Yr
    ·refine Zp rfl U151 rT tW rfl (.cons rfl rfl .nil) (fun b901 D901 hK R=>?_);have hAp:=R;refine Zah<|aZ [(true,2)] rfl<|fX rfl rfl rfl (fun D7 V=>T3 _ l _ (hl.up R2.up (V _ Ye)) Yd) rfl bDY (fun v6 D8 ν6 hX U=>Zah<|oM [(true,7),(false,14)] rfl<|lC hF Ye (fun hap=>bB (A:=[]) (B:=[(_,_),(_,_)]) rfl U151 rfl rfl rT tW rfl FM rfl rfl rfl U (mI.lit hAp) Ye rfl (I4 l) Yk Yd (aYZ (fun p hp=>gN.in_ Yai)) rfl bDY (fun v7 ν7 hM=>?_)));have ha7':bS 273 2 v7 (l.length+1) (PE (l++[((f:Int),(b:Int))])) ν7:=by rw[LA];simpa using hM
     refine uX (A:=[]) (B:=[(_,_),(_,_)]) ha7' (fun k hk=>hk) (fun rA hI I=>?_);have Y:=I.prs Ye Yd;refine fK (A:=[]) (ν:=[(_,_),(_,_)]) (B:=[]) rfl rfl rfl rfl (aZE rfl) GI (fun D9 G=>ih k Yd (f+1) Yd (w|||2^b) (l++[((f:Int),(b:Int))]) v7 (IH y scs k f w l best many b).1 (IH y scs k f w l best many b).2 hE D9 (aHC hw hpb) (DW hp Yd Yd) Yaj (Y.up R2.up (G _ Ye)) (O.up R2.up (G _ Ye)) (hc.up wZ.up (G _ Ye)) (hq.up R2.up (G _ Ye)) (hY.up (G _ Ye)) (hV.up (G _ Ye)) (hS.up NU.up (G _ Ye)) (hF.up (G _ Ye))) rfl bDY (fun v9 D10 _ hD10 hN=>?_);obtain⟨hO,rfl,hB⟩:=hN;refine Zah<|qF<|Zat<|Zaq<|aU<|Za rfl<|Zaa rfl<|Zg rfl<|Zah ?_;exact aK 33 (b+1,hO,D10) ⟨by simp only;omega,by simp only;rw[b6 hH hbit hsel];exact hB⟩ Ym ⟨Yb,bDY⟩ rfl rfl ((by rw[b6 hH hbit hsel];exact List.Sublist.refl _)) Yr
   ·have hsel:(!w.testBit b&&mU y f b)=false:=WJ hx hz hJ;refine bM<|Zat<|Zaq<|aU<|Za rfl<|Zaa rfl<|Zg rfl<|Zah ?_;exact aK 18 (b+1,hE,Dn) ⟨by simp only;omega,by simp only;rw[aGR hsel];exact O⟩ Ym ⟨Yb,bDY⟩ rfl rfl ((by rw[aGR hsel];exact List.Sublist.refl _)) (fun D0 h=>by simp only[n4,n3,bBB]at h;rcases h with h|h;exact⟨Dn,by simp,h▸Le.refl _⟩;exact⟨D,by simp,h▸Le.refl _⟩)
  ·simp only at Z;refine aW<|Zas<|Zas<|Zav ?_;exact A6 (A:=[]) (ν':=[_,_]) (B:=[]) (vs:=[]) rfl rfl rfl bDY rfl (fun D' hD=>⟨hE,by rw[UX h1 Z],by rw[UX h1 Z];exact O.up R2.up (hD _ Ye)⟩)
end L7
namespace L3
open L1
open C3
def qH(ls:List gI)(out:List Int)(k:Nat):List gI:=(List.range k).filterMap fun i:Nat=>if out.any (fun x=>decide ((i:Int)=x))=true then none else ls[i]?
theorem o6(ls:List gI)(out:List Int)(k:Nat):(qH ls out k).length≤k:=by
 unfold qH;have:=List.length_filterMap_le (fun i:Nat=>if out.any (fun x=>decide ((i:Int)=x))=true then none else ls[i]?) (List.range k);rwa [List.length_range]at this
theorem aJF{ls:List gI}{out:List Int}{k:Nat}{x:gI}(hx:ls[k]?= some x)(h:(!out.any fun x=>decide ((k:Int)=x))=true):qH ls out (k+1)=qH ls out k++[x]:=by
 unfold qH;rw[bAS,List.filterMap_append];have h':(out.any fun x=>decide ((k:Int)=x))=false:=by simpa using h
 simp only[List.filterMap_cons,List.filterMap_nil,h',bAE,bBH,hx]
theorem aRN{ls:List gI}{out:List Int}{k:Nat}(h:(!out.any fun x=>decide ((k:Int)=x))=false):qH ls out (k+1)=qH ls out k:=by
 unfold qH;rw[bAS,List.filterMap_append];have h':(out.any fun x=>decide ((k:Int)=x))=true:=by simpa using h
 simp only[List.filterMap_cons,List.filterMap_nil,h',bAX,aZA]
def aDY(out:List Int)(c:Cn):Cn:={c with after:=c.after-((out.filter fun i=>decide (i<c.after)).length:Int)}
def O7(b:bA)(out:List Int):bA:={b with lines:=qH b.lines out b.lines.length,counts:=b.counts.map (aDY out)}
theorem aKE{out:List Int}{c:Cn}{i:Nat}{y:Int}(hy:out[i]?= some y)(h:y<c.after):(((out.take (i+1)).filter fun i=>decide (i<c.after)).length:Int)=((out.take i).filter fun i=>decide (i<c.after)).length+1:=by
 rw[aZG,hy,bAR,bBK,aYS,bCI,aZK Yao];simp
theorem aOT{out:List Int}{c:Cn}{i:Nat}{y:Int}(hy:out[i]?= some y)(h:¬y<c.after):((out.take (i+1)).filter fun i=>decide (i<c.after)).length=((out.take i).filter fun i=>decide (i<c.after)).length:=by
 rw[aZG,hy,bAR,bBK,aYS,bCI,aZB Yao];simp
theorem PF(bv ov:Value)(b:bA)(out:List Int)(D:aC)(hb:gL D bv b)(ho:Sl D RI 1 ov out)(hol:out.length≤100)(hl8:b.lines.length≤100)(hB:b.counts.length≤100)(hca:∀c∈b.counts,0≤c.after∧c.after≤100):Fn prog 140 #[bv,ov] D (fun D' v=>gL D' v (O7 b out)):=by
 obtain⟨lv,cv,rfl,hl,hc⟩:=hb;have hll:=hl.len;have hcl:=hc.len;refine Zs 69 func140 rfl (fun h0=>aA<|Zu rfl (fun q1 E1 hE1 I=>Zx rfl aKJ rfl (fun q2=>aL<|Zq rfl fG rfl I eK<|Zx rfl aKJ rfl (fun q3=>bD rfl rfl rfl rfl eK Ya Ya (bR.head) (o7 hl.cell1 hc.cell1) bDY<|aL<|Zh rfl cE rfl<|Zo rfl eI (bR.head) rfl<|Zh rfl kR rfl ?_))));refine Zo rfl PK (bR.head) rfl<|bJ<|Zh rfl cE rfl<|Zj 3 rfl fA rfl I rfl<|Zab rfl U33 rfl hl rfl<|Za rfl<|aF<|Zar<|dD (γ:=Nat×Value×aD) (fun g=>b.lines.length-g.1) (fun g=>g.1≤b.lines.length∧bS 206 3 g.2.1 (qH b.lines out g.1).length (K6 (qH b.lines out g.1)) g.2.2) (fun g=>[(19,qI (g.1:Int))]) [(18,_),(17,_),(5,_),(4,_),(2,_),(1,_)] (fun g=>g.2.2++[(q3,qC [qI b.chairs,qI b.coin,qI b.box,g.2.1,qN] 36),(q2,qC [qI 0,qI 0,qI 0,qN,qN] 36)]) (fun g=>[E1,D]) (0,qN,[]) ⟨by simp,by simpa [qH,K6]using bS.nil⟩ ⟨Yb,bDY⟩ cQ Mm5 (aH) ?_;rintro⟨k,v,ν⟩ ⟨h1,ha⟩;simp only at h1 ha;refine aA<|Zai rfl<|bT<|Zz rfl (fun M=>?_) (fun M=>?_)
 ·have hk:k<b.lines.length:=by simp only at M;omega
  obtain⟨x,hx⟩:=dV b.lines k;have hkl:=o6 b.lines out k;refine aT<|aS<|Zar<|aA<|Za rfl<|Zw rfl U33 bU rfl hl rfl hx (fun b1 o1 hE hF rA hH=>?_);obtain rfl:hE=[qI _,qI _,qI _]:=hF;refine Zq rfl kJ rfl hH bU<|Zx rfl jJ rfl (fun q4=>Zg rfl<|Zt rfl bU (bR.head)<|aL<|Za rfl<|Za rfl<|Zc rfl (fun D1 hI=>L7.zI _ out (k:Int) _ (ho.up RI.up (hI _ Ye)))<|Zal rfl<|aF<|aP rfl (fun hc2=>?_) (fun hc2=>?_))
  ·have hc2:=hc2;refine aU<|Zh rfl cE rfl<|Zm rfl fA rfl (List.Mem.tail _ (GE _ Mm0)) rfl<|Zy rfl kJ rfl Mm0 bU<|Zp rfl U33 bU jJ rfl (.cons rfl rfl .nil) (fun rB D901 hJ O=>bB (A:=[(_,_)]) (B:=[(_,_),(_,_)]) rfl U33 rfl rfl bU jJ rfl Q7 rfl rfl rfl ha (mI.lit O) Ye rfl (JC _) Yk Yd (aZE rfl) rfl bDY (fun v1 ν1 R=>?_));have ha2x:bS 206 3 v1 (qH b.lines out (k+1)).length (K6 (qH b.lines out (k+1))) ν1:=by rw[aJF hx hc2,aYS];unfold K6;rw[aZS];exact R
   refine Zh rfl cE rfl<|aI (((q4,_)::ν1)++(q3,_)::[(q2,_)]) rfl<|bG rfl rfl rfl R.cells1 eI (.app .head) Ye rfl R.cell1 bDY<|Zah<|Zat<|Zaq<|aU<|Zaa rfl<|Za rfl<|Zah ?_;exact aK 19 (k+1,v1,ν1) ⟨by simp only;omega,ha2x⟩ Ym ⟨Yb,bDY⟩ rfl rfl (List.Sublist.cons _ Mm5) (fun D h=>⟨D,aZJ _ (h),Le.refl D⟩)
  ·refine bM<|Zat<|Zaq<|aU<|Zaa rfl<|Za rfl<|Zah ?_;exact aK 13 (k+1,v,ν) ⟨by simp only;omega,by simp only;rw[aRN hc2];exact ha⟩ Ym ⟨Yb,bDY⟩ rfl rfl (List.Sublist.cons _ Mm5) (aH)
 ·obtain rfl:k=b.lines.length:=by simp only at M;omega
  have hkl:=o6 b.lines out b.lines.length;refine aW<|Zas<|Zas<|Zav<|Zaq<|aS<|aS<|R0 (A:=[]) (B:=[(_,_),(_,_)]) ha rfl (fun D8 hD8 hK=>?_);have hl8v:=hK.lins Ye Yd;refine aU<|Zh rfl kR rfl<|Zj 4 rfl uM rfl I rfl<|Zab rfl U34 rfl hc rfl<|Za rfl<|aF<|Zar<|dD (γ:=Nat×Value×aD) (fun g=>b.counts.length-g.1) (fun g=>g.1≤b.counts.length∧bS 208 3 g.2.1 g.1 (aNL ((b.counts.take g.1).map (aDY out))) g.2.2) (fun g=>[(38,qI (g.1:Int))]) [(37,_),(36,_),(5,_),(4,_),(1,_)] (fun g=>g.2.2++[(q3,qC [qI b.chairs,qI b.coin,qI b.box,v,g.2.1] 36),(q2,qC [qI 0,qI 0,qI 0,qN,qN] 36)]) (fun g=>[D8,E1,D]) (0,qN,[]) ⟨by simp,by simpa [aNL]using bS.nil⟩ ⟨Yb,bDY⟩ cQ Mm5 (aH) ?_;rintro⟨j,u,ω⟩ ⟨h2,G⟩;simp only at h2 G;refine aA<|Zai rfl<|bT<|Zz rfl (fun U=>?_) (fun U=>?_)
  ·have hj:j<b.counts.length:=by simp only at U;omega
   obtain⟨c,hx⟩:∃x,b.counts[j]?= some x:=⟨_,aYU hj⟩
   have hcb:=hca c (LE hx);refine aT<|aS<|Zar<|aA<|Zw rfl U34 nC rfl hc rfl hx (fun b2 o2 hM hN hcl2 hO=>?_);obtain rfl:hM=[qI _,qI _,qI _]:=hN;refine Zq rfl K8 rfl hO nC<|Zx rfl e8 rfl (fun q5=>Zt rfl nC (bR.head)<|aL<|Zg rfl<|bJ<|Za rfl<|Zab rfl U25 rfl ho rfl<|Za rfl<|aF<|Zar<|gX (γ:=Nat) (fun i=>out.length-i) (fun i=>i≤out.length) (fun i=>[(44,qI (i:Int)),(10,qI (((out.take i).filter fun i=>decide (i<c.after)).length:Int))]) [(43,_),(42,_),(9,_),(41,_),(40,_),(39,_),(38,_),(37,_),(36,_),(5,_),(4,_),(1,_)] (fun i=>[D8,E1,D]) 0 Yd ⟨Yb,Yb,bDY⟩ cQ (aH) ?_);rintro i h3;refine aA<|Zai rfl<|bT<|Zz rfl (fun hB=>?_) (fun hB=>?_)
   ·have hi:i<out.length:=by omega
    obtain⟨y,hy⟩:=dV out i;have hgl:=bBO (fun i=>decide (i<c.after)) (out.take i);have hgt:(out.take i).length≤i:=bDH _ _;refine aT<|aS<|Zar<|aA<|jZ rfl ho rfl hy (fun b3 o3=>Zg rfl<|aL<|Za rfl<|Zh rfl B7 rfl<|Zm rfl aJ rfl Mm0 rfl<|Zai rfl<|aF ?_);refine Zz rfl (fun V=>?_) (fun V=>?_)
    ·refine aU<|Za rfl<|Zaa rfl<|Zg rfl<|Zah<|Zat<|Zaq<|aU<|Zaa rfl<|Za rfl<|Zah ?_;exact aK 15 (i+1) Yd Yd ⟨Yb,(by rw[aKE hy V];rfl),bDY⟩ rfl rfl Mm5 (aH)
    ·refine bM<|Zat<|Zaq<|aU<|Zaa rfl<|Za rfl<|Zah ?_;exact aK 12 (i+1) Yd Yd ⟨Yb,(by rw[aOT hy V];rfl),bDY⟩ rfl rfl Mm5 (aH)
   ·obtain rfl:i=out.length:=by omega
    rw[bAA];have hgl:=bBO (fun i=>decide (i<c.after)) out;refine aW<|Zas<|Zas<|Zav<|Zaq<|aU<|Zh rfl kR rfl<|Zm rfl uM rfl (List.Mem.tail _ (GE _ Mm0)) rfl<|Zh rfl B7 rfl<|Zm rfl aJ rfl Mm0 rfl<|Za rfl<|Zan rfl ?_;refine Zh rfl S1 rfl<|dM rfl mM eG rfl Mm0 rfl rfl n3 rfl bDY<|Zr [qI (c.after-((out.filter fun i=>decide (i<c.after)).length:Int)),qI c.lo,qI c.hi] rfl aNZ e8 rfl<|Zp rfl U34 nC e8 rfl (.cons rfl rfl .nil) (fun b902 D902 hR Y=>bB (A:=[(_,_)]) (B:=[(_,_),(_,_)]) rfl U34 rfl rfl nC e8 rfl aNP rfl rfl rfl G (mI.lit Y) Ye rfl (by rw[aRG];simp;omega) Yk Yd (aZE rfl) rfl bDY (fun v2 ν2 Z=>?_))
    have hS:bS 208 3 v2 (j+1) (aNL ((b.counts.take (j+1)).map (aDY out))) ν2:=by rw[aZG,hx,bAR,aZH];unfold aNL;rw[aZS];exact Z
    refine Zh rfl kR rfl<|aI (((q5,_)::ν2)++(q3,_)::[(q2,_)]) rfl<|bG rfl rfl rfl Z.cells1 PK (.app .head) Ye rfl Z.cell1 bDY<|Zah<|Zat<|Zaq<|aU<|Zaa rfl<|Za rfl<|Zah ?_;exact aK 24 (j+1,v2,ν2) ⟨by simp only;omega,hS⟩ Ym ⟨Yb,bDY⟩ rfl rfl (List.Sublist.cons _ Mm5) (fun D h=>⟨D,aZJ _ (h),Le.refl D⟩)
  ·obtain rfl:j=b.counts.length:=by simp only at U;omega
   rw[bAA]at G;refine aW<|Zas<|Zas<|Zav<|Zaq<|aA<|Zy rfl fG rfl (GE _ Mm0) eK<|bD rfl rfl rfl rfl eK Ya Ya (.app (.tail (bR.head))) (o7 ha.cell1 G.cell1) bDY<|aG<|gC (A:=[]) (B:=[(_,_),(_,_)]) G rfl (fun D9 hX hY=>?_);have hc9v:=hY.cns Ye Yd;exact cS (vs:=[_]) rfl rfl rfl ⟨⟨_,_,_,rfl,aZJ _ Mm0,aYZ ⟨fG,eK,rfl⟩⟩,bDY⟩ (fun D hD=>⟨v,u,rfl,(hl8v.up tN.up ((hX _ Ye).trans (hD _ Ye))),hc9v.up wC.up (hD _ Ye)⟩)
end L3
namespace L3
open L1
open C3
def M6(f:Nat→List Int→Bool×List Int):List Nat→List Int→Bool×List Int
 | [],fnd=>(false,fnd)
 |i::is,fnd=>if(f i fnd).1=true then(true,(f i fnd).2)else M6 f is (f i fnd).2
theorem yA{f:Nat→List Int→Bool×List Int}{n i:Nat}{fnd:List Int}(hge:i<n)(h:(f i fnd).1=true):M6 f (List.range' i (n-i)) fnd=(true,(f i fnd).2):=by
 rw[show n-i=(n-i-1)+1 by omega,List.range'_succ,M6,aZK h]
theorem FN{f:Nat→List Int→Bool×List Int}{n i:Nat}{fnd:List Int}(hge:i<n)(h:(f i fnd).1=false):M6 f (List.range' i (n-i)) fnd=M6 f (List.range' (i+1) (n-(i+1))) (f i fnd).2:=by
 conv=>lhs;rw[show n-i=(n-(i+1))+1 by omega,List.range'_succ,M6,aZB (by rw[h];simp)]
theorem m4{f:Nat→List Int→Bool×List Int}{n i:Nat}{fnd:List Int}(hge:¬i<n):M6 f (List.range' i (n-i)) fnd=(false,fnd):=by
 rw[show n-i=0 by omega];rfl
theorem aIF{b t:Nat}{cs:List Value}:∀p∈[(b,Obj.cells cs.toArray t (0,0))],dB p.2:=by
 intro p hp;simp only[aZM]at hp;subst hp;rfl
theorem aDQ{ls:List gI}{out:List Int}{k:Nat}{l:gI}(h:l∈qH ls out k):l∈ls:=by
 unfold qH at h;obtain⟨i,_,hi⟩:=List.mem_filterMap.1 h;split at hi
 ·cases hi
 ·exact LE hi
theorem LX{b:bA}(h:aCV b)(out:List Int):aCV (O7 b out):=
 ⟨h.ch,h.co,h.bx,by have:=o6 b.lines out b.lines.length;have:=h.l8;show(qH b.lines out b.lines.length).length≤8;omega,by have:=h.c4;show(b.counts.map _).length≤4;rwa [bAY],fun l hl=>h.ln l (aDQ hl)⟩
theorem YL{b:bA}(h:aV b=0):∀c∈b.counts,0≤c.after∧c.after≤100:=by
 have hl:=(aWY h).l8;unfold aV at h;split at h
 ·omega
 ·split at h
  ·omega
  ·rename_i h2;have h3:uU b=true:=by simpa using h2
   unfold uU at h3;simp only[aYT,C1.bX,aZN]at h3;intro c hc;have h4:=h3.2 c hc;unfold qV at h4;simp only[aYT,C1.bX]at h4;omega
def aLC(b:bA):Nat→Nat→List Int→List Int→Bool×List Int
 |0,_,out,_=>(decide (truths (O7 b out)≠[]),out)
 |m+1,f,out,fnd=>M6 (fun i fnd=>aLC b m (i+1) (out++[(i:Int)]) fnd) (List.range' f (b.lines.length-m-f)) fnd
def aXZ(b:bA):Bool×List Int:=M6 (fun m fnd=>aLC b m 0 [] fnd) (List.range' 0 (b.lines.length+1-0)) []
def eS(b:bA):List Int×Int:=if aV b≠0 then([],aV b)else if(aXZ b).1=true then((aXZ b).2,0)else([],10)
theorem PV{b:bA}{D:aC}(h:aV b≠0):∃lv,Value.tuple #[qN,qI (aV b)]=.tuple #[lv,qI (eS b).2]∧Sl D RI 1 lv (eS b).1:=by
 rw[eS,aZK h];exact⟨_,rfl,Sl.nil⟩
theorem YV{b:bA}{D:aC}{lv:Value}{l:List Int}(h:aV b=0)(hl:M6 (fun m fnd=>aLC b m 0 [] fnd) (List.range' 0 (b.lines.length+1-0)) []=(true,l))(hS:Sl D RI 1 lv l):∃lv',Value.tuple #[lv,qI 0]=.tuple #[lv',qI (eS b).2]∧Sl D RI 1 lv' (eS b).1:=by
 have e:aXZ b=(true,l):=hl;rw[eS,aZB Yd,e];exact⟨_,rfl,hS⟩
theorem YJ{b:bA}{D:aC}{l:List Int}(h:aV b=0)(hl:M6 (fun m fnd=>aLC b m 0 [] fnd) (List.range' 0 (b.lines.length+1-0)) []=(false,l)):∃lv',Value.tuple #[qN,qI 10]=.tuple #[lv',qI (eS b).2]∧Sl D RI 1 lv' (eS b).1:=by
 have e:aXZ b=(false,l):=hl;rw[eS,aZB Yd,e];exact⟨_,rfl,Sl.nil⟩
theorem aVY{b:bA}{lv cv:Value}{bf bY bF:Nat}(hbo:aCV b)(hca:∀c∈b.counts,0≤c.after∧c.after≤100):
  ∀(mm f:Nat) (out:List Int) (ov:Value) (fnd:List Int) (fv:Value) (D:aC),out.length+mm≤10→Sl D RI 1 ov out→Sl D RI 1 fv fnd→gL D (.agg #[qI b.chairs,qI b.coin,qI b.box,lv,cv]) b→At D bY 0 [qI b.chairs,qI b.coin,qI b.box,lv,cv]→At D bF 0 [.func (.func 139) #[] #[qP bf,qP bY,qP bF]]→
  AN prog 139 [ov,qI (f:Int),qI (mm:Int),qP bf,qP bY,qP bF] D [(bf,qC [fv] 25)] (fun D' v ν'=>v=.bool (aLC b mm f out fnd).1∧∃fv',ν'=[(bf,qC [fv'] 25)]∧Sl D' RI 1 fv' (aLC b mm f out fnd).2):=by
 intro mm;induction mm using Nat.strongRecOn with
 |_ mm ih=>
 intro f out ov fnd fv D hlen ho hfd hb hY hF;have hl8:=hbo.l8;have hc4:=hbo.c4;obtain⟨lv0,cv0,he,hl,hc⟩:=id hb;cases he;refine iL 39 func139 rfl rfl rfl rfl (fun h0 hwl hwn=>aA<|Zg rfl<|bJ<|Za rfl<|Zam rfl<|aF<|Zz rfl (fun hX=>?_) (fun hX=>?_))
 ·obtain rfl:mm=0:=by omega
  refine aA<|Za rfl<|bG rfl rfl rfl ho.cells1 qX .head Ye rfl ho.cell1 bDY<|aL<|Zq rfl fG rfl hY eK<|Za rfl<|Zv rfl (fun D1 Z=>PF _ _ b out _ (hb.up (Z _ Ye)) (ho.up RI.up (Z _ Ye)) Yd Yd Yd hca) (fun v1 D1 Z rA=>Zc rfl (fun D2 rB=>Y3 _ (O7 b out) _ (rA.up (rB _ Ye)) (LX hbo out))<|Zg rfl<|aG<|Zap ?_);exact Zac [] [] [_] [_] rfl ⟨rfl,bDY⟩ rfl (fun D' hD=>⟨rfl,ov,rfl,ho.up RI.up (hD _ Ye)⟩)
 ·obtain⟨m,rfl⟩:∃k,mm=k+1:=⟨mm-1,by omega⟩
  refine aT<|eH<|Za rfl<|Zg rfl<|aF<|Zar<|dD (γ:=Nat×List Int×Value×aC) (fun g=>b.lines.length+1-g.1) (fun g=>f≤g.1∧aLC b (m+1) f out fnd=M6 (fun i fnd=>aLC b m (i+1) (out++[(i:Int)]) fnd) (List.range' g.1 (b.lines.length-m-g.1)) g.2.1∧Sl g.2.2.2 RI 1 g.2.2.1 g.2.1) (fun g=>[(10,qI (g.1:Int))]) [(9,_),(0,_),(2,_),(4,_),(5,_)] (fun g=>[(bf,qC [g.2.2.1] 25)]) (fun g=>[g.2.2.2,D]) (f,fnd,fv,D) ⟨by simp,rfl,hfd⟩ ⟨Yb,bDY⟩ cQ Mm5 ((fun D0 h=>by simp only[n4,n3,bBB,or_self]at h;exact⟨D,by simp,h▸Le.refl _⟩)) ?_;rintro⟨i,Y,hB,Dn⟩ ⟨h1,hin,V⟩;simp only at h1 hin V;refine eH<|Za rfl<|Zh rfl cE rfl<|Zj 3 rfl fA rfl hY rfl<|Zab rfl U33 rfl hl rfl<|Za rfl<|Zan rfl<|lE rfl rfl rfl rfl bDY<|aF<|Zz rfl (fun hc2=>?_) (fun hc2=>?_)
  ·simp only at hc2;have hge:i<b.lines.length-m:=by omega
   refine aT<|aS<|Zar<|aS<|pY (gN.mk [bF]) 3 [false,true,true,true,true,true,true,true,true,true,false] [.fork [0,1,3,6,7,8,9] 2 (.fin [4]) 4 (.fin [2]),.fin [5,10]] bI (fun _ _ _ h=>jA (P:=prog) (fn:=f139) _ _ _ h) Yg<|uP<|bL [(false,0),(true,1),(true,3),(true,6),(true,7),(true,8),(true,9)] rfl<|dU rfl (k:=0) UP rfl hF Ye rfl (gN.out Ye) rfl bDY<|Za rfl<|Za rfl<|Za rfl<|Zaa rfl ?_;refine Za rfl<|Zan rfl ?_;rw[show(((m+1:Nat):Int)-1)=(m:Int) by omega];refine Zah (eE true true rfl rfl ?_ ?_)
   ·refine fX rfl rfl rfl (fun D7 hE=>L7.vD _ out _ (ho.up RI.up (hE _ Ye)) Yd) rfl bDY (fun v6 D8 ν6 hD8 hH=>Zah<|aZ [(true,4)] rfl<|Zp rfl U25 aM dS rfl (.cons rfl rfl .nil) (fun hN hO hI M=>?_));have hAp:=M;refine Zah<|oM [(true,5),(false,10)] rfl<|lC hF Ye (fun hap=>bB (A:=[]) (B:=[(_,_)]) rfl U25 rfl rfl aM dS rfl oD rfl rfl rfl hH (mI.lit hAp) Ye rfl Ye Yk Yd (aYZ (fun p hp=>gN.in_ Yai)) rfl bDY (fun v7 ν7 hJ=>?_));have ha7':bS 3 1 v7 (out.length+1) (ints (out++[(i:Int)])) ν7:=by simpa [ints]using hJ
    refine uX (A:=[]) (B:=[(_,_)]) ha7' (fun k hk=>hk) (fun D20 hR O=>?_);have hK:=O.ints Ye Yd;refine fK (A:=[]) (ν:=[(_,_)]) (B:=[]) rfl rfl rfl rfl (aZE rfl) aIF (fun D9 G=>ih m Yd (i+1) (out++[(i:Int)]) v7 Y hB _ Yaj (hK.up RI.up (G _ Ye)) (V.up RI.up (G _ Ye)) (hb.up (G _ Ye)) (hY.up (G _ Ye)) (hF.up (G _ Ye))) rfl bDY (fun v9 D10 _ hS hM=>?_);obtain⟨rfl,R,rfl,U⟩:=hM;refine Zah<|qF<|Zaq<|aP rfl (fun I=>?_) (fun I=>?_)
    ·refine aA<|Zg rfl<|aG<|Zau<|Zap<|Zap<|Zau<|Zap ?_;exact Zac [] [] [_] [_] rfl ⟨rfl,bDY⟩ rfl (fun D' hD=>⟨by rw[hin,yA hge I];rfl,R,rfl,by rw[hin,yA hge I];exact U.up RI.up (hD _ Ye)⟩)
    ·refine bM<|Zat<|Zaq<|aU<|Za rfl<|Zaa rfl<|Zg rfl<|Zah ?_;exact aK 22 (i+1,_,R,D10) ⟨by simp only;omega,by simp only;rw[hin,FN hge I],U⟩ Ym ⟨Yb,bDY⟩ rfl rfl Mm5 Yr
   ·refine Zp rfl U25 aM dS rfl (.cons rfl rfl .nil) (fun hN hO hI M=>?_);have hAp:=M;refine Zah<|aZ [(true,2)] rfl<|fX rfl rfl rfl (fun D7 hE=>L7.vD _ out _ (ho.up RI.up (hE _ Ye)) Yd) rfl bDY (fun v6 D8 ν6 hD8 hH=>Zah<|oM [(true,5),(false,10)] rfl<|lC hF Ye (fun hap=>bB (A:=[]) (B:=[(_,_)]) rfl U25 rfl rfl aM dS rfl oD rfl rfl rfl hH (mI.lit hAp) Ye rfl Ye Yk Yd (aYZ (fun p hp=>gN.in_ Yai)) rfl bDY (fun v7 ν7 hJ=>?_)));have ha7':bS 3 1 v7 (out.length+1) (ints (out++[(i:Int)])) ν7:=by simpa [ints]using hJ
    refine uX (A:=[]) (B:=[(_,_)]) ha7' (fun k hk=>hk) (fun D20 hR O=>?_);have hK:=O.ints Ye Yd;refine fK (A:=[]) (ν:=[(_,_)]) (B:=[]) rfl rfl rfl rfl (aZE rfl) aIF (fun D9 G=>ih m Yd (i+1) (out++[(i:Int)]) v7 Y hB _ Yaj (hK.up RI.up (G _ Ye)) (V.up RI.up (G _ Ye)) (hb.up (G _ Ye)) (hY.up (G _ Ye)) (hF.up (G _ Ye))) rfl bDY (fun v9 D10 _ hS hM=>?_);obtain⟨rfl,R,rfl,U⟩:=hM;refine Zah<|qF<|Zaq<|aP rfl (fun I=>?_) (fun I=>?_)
    ·refine aA<|Zg rfl<|aG<|Zau<|Zap<|Zap<|Zau<|Zap ?_;exact Zac [] [] [_] [_] rfl ⟨rfl,bDY⟩ rfl (fun D' hD=>⟨by rw[hin,yA hge I];rfl,R,rfl,by rw[hin,yA hge I];exact U.up RI.up (hD _ Ye)⟩)
    ·refine bM<|Zat<|Zaq<|aU<|Za rfl<|Zaa rfl<|Zg rfl<|Zah ?_;exact aK 22 (i+1,_,R,D10) ⟨by simp only;omega,by simp only;rw[hin,FN hge I],U⟩ Ym ⟨Yb,bDY⟩ rfl rfl Mm5 Yr
  ·simp only at hc2;have hge:¬i<b.lines.length-m:=by omega
   refine aW<|Zas<|Zas<|Zav<|Zaq<|aA<|Zg rfl<|aG ?_;exact Zac [] [] [_] [_] rfl ⟨rfl,bDY⟩ rfl (fun D' hD=>⟨by rw[hin,m4 hge];rfl,hB,rfl,by rw[hin,m4 hge];exact V.up RI.up (hD _ Ye)⟩)
theorem aKD(bv:Value)(b:bA)(D:aC)(hb:gL D bv b):Fn prog 69 #[bv] D (fun D' v=>∃lv,v=.tuple #[lv,qI (eS b).2]∧Sl D' RI 1 lv (eS b).1):=by
 have V:=hb;obtain⟨lv,cv,rfl,hl,hc⟩:=hb;have hll:=hl.len;refine Zs 30 func69 rfl (fun h0=>aA<|Zu rfl (fun q1 E1 hM R=>Zg rfl<|Zg rfl<|aF<|UV<|eH<|Zq rfl fG rfl R eK<|Zc rfl (fun D1 hE=>wQ _ b _ (V.up (hE _ Ye)))<|Zg rfl<|aL ?_));refine Za rfl<|Zak rfl<|aF<|Zz rfl (fun Y=>?_) (fun Y=>?_)
 ·refine aA<|Za rfl<|Zg rfl<|Zg rfl<|aG<|Zap<|H8 ?_;exact cS (vs:=[_,_]) rfl rfl rfl cQ (fun D hD=>PV Y)
 ·have M:aV b=0:=by omega
  have hbo:=aWY M;have hN:=hbo.l8;have hca:=YL M;refine aT<|aA<|Zx rfl aHG rfl (fun q2=>aL<|Zx rfl aNM rfl (fun q3=>aL<|Zao rfl<|Zo rfl aNH (bR.head) rfl<|aL<|Zg rfl<|bT<|GV ?_));refine Zaq<|aS<|aS<|xX (A:=[]) (b:=q3) (cells:=[.func (.func 139) #[] #[qP q2,qP q1,qP q3]]) rfl (fun G hJ hF=>aU<|Zh rfl cE rfl<|Zj 3 rfl fA rfl R rfl<|Zab rfl U33 rfl hl rfl<|Zaa rfl<|Za rfl<|aF<|Zar ?_);refine dD (γ:=Nat×List Int×Value×aC) (fun g=>b.lines.length+1-g.1) (fun g=>g.1≤b.lines.length+1∧M6 (fun m fnd=>aLC b m 0 [] fnd) (List.range' 0 (b.lines.length+1-0)) []=M6 (fun m fnd=>aLC b m 0 [] fnd) (List.range' g.1 (b.lines.length+1-g.1)) g.2.1∧Sl g.2.2.2 RI 1 g.2.2.1 g.2.1) (fun g=>[(19,qI (g.1:Int)),(7,.bool false)]) [(18,_),(6,_),(5,_),(3,_),(2,_)] (fun g=>[(q2,qC [g.2.2.1] 25)]) (fun g=>[g.2.2.2,G,E1,D]) (0,[],qN,G) ⟨by simp,rfl,Sl.nil⟩ ⟨Yb,Yb,bDY⟩ cQ Mm5 ((fun D0 h=>by simp only[n4,n3,bBB]at h;rcases h with h|h|h|h;exact⟨G,by simp,h▸Le.refl _⟩;exact⟨G,by simp,h▸Le.refl _⟩;exact⟨E1,by simp,h▸Le.refl _⟩;exact⟨D,by simp,h▸Le.refl _⟩)) ?_
  rintro⟨m,fnd,fv,Dn⟩ ⟨h1,hin,hfd⟩;simp only at h1 hin hfd;refine aA<|Zai rfl<|bT<|Zz rfl (fun hc2=>?_) (fun hc2=>?_)
  ·simp only at hc2;have hm:m<b.lines.length+1:=by omega
   refine aT<|aS<|Zar<|aA<|Za rfl<|Zg rfl<|aL<|Zj 0 rfl UP rfl hF rfl<|Za rfl<|fK (A:=[]) (ν:=[(_,_)]) (B:=[]) rfl rfl rfl rfl (aZE rfl) aIF (fun D9 O=>aVY hbo hca m 0 [] (qN) fnd fv _ Yaj Sl.nil (hfd.up RI.up (O _ Ye)) (V.up (O _ Ye)) (R.up (O _ Ye)) (hF.up (O _ Ye))) rfl bDY (fun v9 D10 _ hK hH=>?_);obtain⟨rfl,hI,rfl,Z⟩:=hH;refine Zg rfl<|aL<|Za rfl<|aF<|aP rfl (fun I=>?_) (fun I=>?_)
   ·refine aW<|tS rfl<|Zas<|Zas<|Zav<|Zaq<|eH<|Za rfl<|Zal rfl<|aF<|aP rfl (fun U=>?_) (fun U=>?_)
    ·rw[I]at U;cases U
    ·refine aT<|aA<|Zm rfl dN rfl Mm0 rfl<|Zg rfl<|Zg rfl<|aG<|H8 ?_;exact cS (vs:=[_,_]) rfl rfl rfl cQ (fun D hD=>YV M (by rw[hin,yA hm I]) (Z.up RI.up (hD _ Ye)))
   ·refine bM<|Zat<|Zaq<|aU<|Zaa rfl<|Za rfl<|Zah ?_;exact aK 12 (m+1,_,hI,D10) ⟨by simp only;omega,by simp only;rw[hin,FN hm I],Z⟩ Ym ⟨Yb,(by show some (Value.bool _)=some (Value.bool false);rw[I]),bDY⟩ rfl rfl Mm5 (fun D0 h=>by simp only[n4,n3,bBB]at h;rcases h with h|h|h|h;exact⟨D10,by simp,h▸Le.refl _⟩;exact⟨G,by simp,h▸Le.refl _⟩;exact⟨E1,by simp,h▸Le.refl _⟩;exact⟨D,by simp,h▸Le.refl _⟩)
  ·simp only at hc2;have hm:¬m<b.lines.length+1:=by omega
   refine aW<|Zas<|Zas<|Zav<|Zaq<|eH<|Za rfl<|Zal rfl<|aF<|aP rfl (fun hB=>?_) (fun hB=>?_)
   ·refine aA<|Zg rfl<|Zg rfl<|aG<|Zap<|H8 ?_;exact cS (vs:=[_,_]) rfl rfl rfl cQ (fun D hD=>YJ M (by rw[hin,m4 hm]))
   ·cases hB
end L3
namespace L7
open C7
theorem NA{y:bC}{out:List Int}:∀(ts:List (List Pt)) (acc:List (Sc×Nat)),(∀p∈acc,p.2=uK y.chairs.length p.1)→∀p,p∈ts.foldl (rD y out) acc ↔ p∈acc∨∃t∈ts,oT y.claims out (qK y t:Int)=true∧p=(eC y t,qK y t)
 | [],acc,_,p=>by simp
 |t::ts,acc,h,p=>by
  rw[bAG];have h':∀p∈rD y out acc t,p.2=uK y.chairs.length p.1:=fun p hp=>by
   unfold rD at hp;split at hp
   ·rcases aZF.1 hp with hp|hp
    ·exact h p hp
    ·simp only[aZM]at hp;subst hp;rfl
   ·exact h p hp
  rw[NA ts _ h' p];have key:p∈rD y out acc t ↔ p∈acc∨(oT y.claims out (qK y t:Int)=true∧p=(eC y t,qK y t)):=by
   unfold rD;split
   ·rename_i hc;rw[aYT]at hc;rw[aZF,aZM];exact⟨fun h=>h.imp id fun e=>⟨hc.1,e⟩,fun h=>h.imp id fun e=>e.2⟩
   ·rename_i hc;refine⟨aZE,fun h3=>?_⟩;rcases h3 with h3|⟨hr,rfl⟩
    ·exact h3
    ·have hr':oT y.claims out (uK y.chairs.length (eC y t):Int)=true:=hr;rw[hr',bCR,Bool.not_eq_true,bAU,bAH,Bool.not_eq_false',bDR]at hc;obtain⟨G,hc2⟩:=hc;have hne:acc≠[]:=fun e=>G (by rw[e];rfl)
     unfold P7 at hc2;rw[bBZ hne]at hc2;have h4:=aLR hc2;have h5:=h _ (List.getLast_mem hne);have:acc.getLast hne=(eC y t,qK y t):=Prod.ext h4 (by rw[h5,h4];rfl)
     rw[←this];exact List.getLast_mem hne
  rw[key];constructor
  ·rintro((h1|h1)|⟨s,h1,h2⟩)
   ·exact aZE h1
   ·exact aYZ ⟨t,LT,h1⟩
   ·exact aYZ ⟨s,n5 _ h1,h2⟩
  ·rintro(h1|⟨s,h1,h2⟩)
   ·exact aZE (aZE h1)
   ·rcases n4.1 h1 with rfl|h1
    ·exact aZE (aYZ h2)
    ·exact aYZ ⟨s,h1,h2⟩
theorem sZ{y:bC}{out:List Int}{p:Sc×Nat}:p∈dY y out ↔∃t,kZ y t=true∧oT y.claims out (qK y t:Int)=true∧p=(eC y t,qK y t):=by
 unfold dY;rw[NA _ _ Ye];simp only[n3,false_or,NL]
theorem ZJ{y:bC}(h:aXU y)(out:List Int):∀s∈(dY y out).map fun p=>p.1,NF y.chairs.length s:=fun s hs=>by
 obtain⟨p,hp,rfl⟩:=GT.1 hs;obtain⟨t,ht,_,rfl⟩:=sZ.1 hp;obtain⟨hl,_⟩:=aQO ht;have:=h.len;exact CQ hl Yd
def oE(y:bC):List (Int×Int)×Int×Int:=if aV y≠0 then([],0,aV y)else if dY y []=[]then([],0,11)else
 (((MS y y.chairs.length 0 0 []).foldl (VF ((dY y []).map fun p=>p.1)) ([], -1)).1,((MS y y.chairs.length 0 0 []).foldl (VF ((dY y []).map fun p=>p.1)) ([], -1)).2,0)
theorem aCR{y:bC}{D:aC}(h:aV y≠0):∃lv,Value.tuple #[qN,qI 0,qI (aV y)]=.tuple #[lv,qI (oE y).2.1,qI (oE y).2.2]∧Sl D R2 2 lv (oE y).1:=by
 rw[oE,aZK h];exact⟨_,rfl,Sl.nil⟩
theorem YA{y:bC}{D:aC}(h:aV y=0)(hn:dY y []=[]):∃lv,Value.tuple #[qN,qI 0,qI 11]=.tuple #[lv,qI (oE y).2.1,qI (oE y).2.2]∧Sl D R2 2 lv (oE y).1:=by
 rw[oE,aZB Yd,aZK hn];exact⟨_,rfl,Sl.nil⟩
theorem aKS{y:bC}{D:aC}{lv:Value}(h:aV y=0)(hn:((dY y []).map fun p=>p.1)≠[])(hS:Sl D R2 2 lv ((MS y y.chairs.length 0 0 []).foldl (VF ((dY y []).map fun p=>p.1)) ([], -1)).1):∃lv',Value.tuple #[lv,qI ((MS y y.chairs.length 0 0 []).foldl (VF ((dY y []).map fun p=>p.1)) ([], -1)).2,qI 0]=.tuple #[lv',qI (oE y).2.1,qI (oE y).2.2]∧Sl D R2 2 lv' (oE y).1:=by
 rw[oE,aZB Yd,aZB (fun e=>hn (by rw[e];rfl))];exact⟨_,rfl,hS⟩
theorem XA(yv:Value)(y:bC)(D:aC)(hy:nM D yv y):Fn prog 71 #[yv] D (fun D' v=>∃lv,v=.tuple #[lv,qI (oE y).2.1,qI (oE y).2.2]∧Sl D' R2 2 lv (oE y).1):=by
 have Y:=hy;obtain⟨cv,qv,rfl,hc,hq⟩:=hy;refine Zs 30 func71 rfl (fun h0=>aA<|Zu rfl (fun q1 E1 hN M=>Zx rfl aME rfl (fun q2=>Zx rfl dS rfl (fun q3=>Zg rfl<|bJ<|Zq rfl jC rfl M iO<|Zc rfl (fun D1 Z=>xA _ y _ (Y.up (Z _ Ye)))<|Zg rfl<|aL<|Za rfl ?_))));refine Zak rfl<|aF<|Zz rfl (fun R=>?_) (fun R=>?_)
 ·refine aA<|Za rfl<|Zo rfl e7 (.tail (bR.head)) rfl<|Zo rfl aM (bR.head) rfl<|Zg rfl<|aG<|Zap ?_;exact cS (vs:=[_,_,_]) rfl rfl rfl ⟨⟨_,_,_,rfl,Mm1,aZE ⟨d9,rfl⟩⟩,⟨_,_,_,rfl,Mm0,aZE ⟨aJ,rfl⟩⟩,rfl,bDY⟩ (fun D hD=>aCR R)
 ·have O:aV y=0:=by omega
  have hyo:=aYP O;have hB:=hyo.len;refine aT<|aA<|Zq rfl jC rfl M iO<|fX (μ:=_) rfl rfl rfl (fun D5 hO=>i7 _ y _ _ D5 rfl) rfl bDY (fun v5 D6 _ hR hE=>?_);obtain⟨wb,mb,rfl,rfl⟩:=hE;refine Zg rfl<|aL<|Za rfl<|aI ([]++[(_,_),(_,_)]++([(_,_),(_,_)])) rfl<|fK (A:=[]) (ν:=[(_,_),(_,_)]) (B:=[(_,_),(_,_)]) rfl rfl rfl rfl (aZE rfl) (EQ (cs:=[_,_,_,_])) (fun D7 U=>DT wb mb _ _ y [] _ hB hyo.fit hyo.size #[] 0 [] _ (hc.up wZ.up (U _ Ye)) (hq.up R2.up (U _ Ye)) Sl.nil rfl AX.nil) rfl bDY (fun v7 D8 _ hS hH=>?_);obtain⟨sv,mv,rfl,hsv,hmv,hX,hY,M1,rfl,rA,hI⟩:=hH;refine Za rfl<|Zaf rfl<|Zaf rfl<|Zx rfl VI rfl (fun q4=>bG rfl rfl rfl hsv.cells1 L4 .head Ye rfl hsv.cell1 bDY<|Zg rfl<|bT<|aS<|xX (A:=[]) (b:=q4) (cells:=[sv]) rfl (fun rB hJ hV=>aU<|Zj 0 rfl tV rfl hV rfl<|Zab rfl U170 rfl hsv rfl ?_));refine Zam rfl<|aF<|Zz rfl (fun hc2=>?_) (fun hc2=>?_)
  ·have hnil:dY y []=[]:=by simpa using hc2
   refine aA<|Zo rfl e7 (.tail (.tail (.tail (bR.head)))) rfl<|Zo rfl aM (.tail (.tail (bR.head))) rfl<|Zg rfl<|aG<|Zap ?_;exact cS (vs:=[_,_,_]) rfl rfl rfl ⟨⟨_,_,_,rfl,Mm3,aZE ⟨d9,rfl⟩⟩,⟨_,_,_,rfl,Mm2,aZE ⟨aJ,rfl⟩⟩,rfl,bDY⟩ (fun D hD=>YA O hnil)
  ·have hne:((dY y []).map fun p:Sc×Nat=>p.1)≠[]:=fun e=>hc2 (by rw[e];rfl)
   have hsc:=ZJ hyo [];refine aT<|aA<|Zo rfl aM (.tail (.tail (bR.head))) rfl<|aL<|Zx rfl aPA rfl (fun q5=>aL<|Zao rfl<|Zo rfl aMO (bR.head) rfl<|bT<|xX (A:=[]) (b:=q5) (cells:=[.func (.func 144) #[] #[qP q1,qP q4,qP q3,qP q2,qP q5]]) rfl (fun D21 hK hF=>aU<|Zj 0 rfl HC rfl hF rfl ?_));refine aI ([(_,_),(_,_)]++[(_,_),(_,_)]++([])) rfl<|fK (A:=[(_,_),(_,_)]) (ν:=[(_,_),(_,_)]) (B:=[]) rfl rfl rfl rfl (aZE rfl) GI (fun D11 G=>aUD hyo hne hsc y.chairs.length 0 Yd 0 [] (qN) [] (-1) (qN) _ Yd Yi Ye Sl.nil Sl.nil (hc.up wZ.up (G _ Ye)) (hq.up R2.up (G _ Ye)) (M.up (G _ Ye)) (hV.up (G _ Ye)) (hsv.up NU.up (G _ Ye)) (hF.up (G _ Ye))) rfl bDY (fun v11 D12 _ hM V=>?_);obtain⟨pv1,rfl,I⟩:=V;refine bT<|bW [] 1 5 6<|Zm rfl d9 rfl Mm3 rfl<|Zm rfl aJ rfl Mm2 rfl<|MP rfl rfl rfl I.cells1 e7 (.tail (.tail (.tail .head))) Ye rfl I.cell1 bDY<|Zo rfl aM (.tail (.tail (bR.head))) rfl<|Zg rfl<|aG ?_;exact cS (vs:=[_,_,_]) rfl rfl rfl ⟨⟨_,_,_,rfl,Mm3,aZE ⟨d9,rfl⟩⟩,⟨_,_,_,rfl,Mm2,aZE ⟨aJ,rfl⟩⟩,rfl,bDY⟩ (fun D hD=>aKS O hne (I.up R2.up (hD _ Ye)))
end L7
namespace L12
open C12
def dK(s:aN):Int:=if C1.cK s.row true≠0 then 11 else if C2.aV s.table≠0 then 9 else if C2.jV s.table true≠0 then 11 else if C3.aV s.book≠0 then 3 else if C7.aV s.yard≠0 then 3 else if(L7.cF s.yard).2≠0 then 11 else 0
section
variable{s:aN}{v:Value}
theorem ZN(h:C1.cK s.row true≠0)(e:v=fD 11):dK s≠0∧v=fD (dK s):=by unfold dK;rw[aZK h];exact⟨by decide,e⟩
theorem aBE(h0:C1.cK s.row true=0)(h:C2.aV s.table≠0)(e:v=fD 9):dK s≠0∧v=fD (dK s):=by unfold dK;rw[aZB Yd,aZK h];exact⟨by decide,e⟩
theorem aBY(h0:C1.cK s.row true=0)(h1:C2.aV s.table=0)(h:C2.jV s.table true≠0)(e:v=fD 11):dK s≠0∧v=fD (dK s):=by unfold dK;rw[aZB Yd,aZB Yd,aZK h];exact⟨by decide,e⟩
theorem aAR(h0:C1.cK s.row true=0)(h1:C2.aV s.table=0)(h2:C2.jV s.table true=0)(h:C3.aV s.book≠0)(e:v=fD 3):dK s≠0∧v=fD (dK s):=by unfold dK;rw[aZB Yd,aZB Yd,aZB Yd,aZK h];exact⟨by decide,e⟩
theorem ZM(h0:C1.cK s.row true=0)(h1:C2.aV s.table=0)(h2:C2.jV s.table true=0)(h3:C3.aV s.book=0)(h:C7.aV s.yard≠0)(e:v=fD 3):dK s≠0∧v=fD (dK s):=by unfold dK;rw[aZB Yd,aZB Yd,aZB Yd,aZB Yd,aZK h];exact⟨by decide,e⟩
theorem aBU(h0:C1.cK s.row true=0)(h1:C2.aV s.table=0)(h2:C2.jV s.table true=0)(h3:C3.aV s.book=0)(h4:C7.aV s.yard=0)(h:(L7.cF s.yard).2≠0)(e:v=fD 11):dK s≠0∧v=fD (dK s):=by unfold dK;rw[aZB Yd,aZB Yd,aZB Yd,aZB Yd,aZB Yd,aZK h];exact⟨by decide,e⟩
theorem A8(h0:C1.cK s.row true=0)(h1:C2.aV s.table=0)(h2:C2.jV s.table true=0)(h3:C3.aV s.book=0)(h4:C7.aV s.yard=0)(h5:(L7.cF s.yard).2=0):dK s=0:=by unfold dK;rw[aZB Yd,aZB Yd,aZB Yd,aZB Yd,aZB Yd,aZB Yd]
end
theorem kN(n many:Int)(D:aC):lH prog 341 [qI n,qI many] D [] (fun _ _ ν'=>(n<many)∧ν'=[]) (fun v=>(many≤n)∧v=fD 7):=by
 refine eQ 9 func341 rfl rfl rfl rfl (fun h0 hwl hwn=>aU<|Za rfl<|Za rfl<|tC rfl rfl rfl rfl bDY<|Zp rfl U401 lT nS rfl (.cons rfl rfl .nil) (fun U V O I=>Ze [] [] [] rfl (aYZ Yi) (fun Z M=>fH 7 [decide (many≤n)] _ _ ((gQ (l:=[decide (many≤n)]) (fun _ _ _ h=>h) I Ye).up RB.up (M _ Ye))) (fun v5 Y M G=>cJ (P:=prog) (fn:=f341) rfl ⟨by simpa using G.1,G.2⟩) (fun v5 Y ν5 M G=>?_)));obtain⟨R,rfl⟩:=G;refine Zah ?_;exact Zag [] [] [] [] rfl (fun D' hD=>⟨by simpa using R,rfl⟩)
theorem xH(many most:Int)(D:aC):lH prog 340 [qI many,qI most] D [] (fun _ _ ν'=>(many<most)∧ν'=[]) (fun v=>(most≤many)∧v=fD 3):=by
 refine eQ 9 func340 rfl rfl rfl rfl (fun h0 hwl hwn=>aU<|Za rfl<|Za rfl<|tC rfl rfl rfl rfl bDY<|Zp rfl U401 lT nS rfl (.cons rfl rfl .nil) (fun U V O I=>Ze [] [] [] rfl (aYZ Yi) (fun Z M=>fH 3 [decide (most≤many)] _ _ ((gQ (l:=[decide (most≤many)]) (fun _ _ _ h=>h) I Ye).up RB.up (M _ Ye))) (fun v5 Y M G=>cJ (P:=prog) (fn:=f340) rfl ⟨by simpa using G.1,G.2⟩) (fun v5 Y ν5 M G=>?_)));obtain⟨R,rfl⟩:=G;refine Zah ?_;exact Zag [] [] [] [] rfl (fun D' hD=>⟨by simpa using R,rfl⟩)
theorem tQ(n most:Int)(D:aC):lH prog 342 [qI n,qI most] D [] (fun _ _ ν'=>(n≤most)∧ν'=[]) (fun v=>(most<n)∧v=fD 2):=by
 refine eQ 9 func342 rfl rfl rfl rfl (fun h0 hwl hwn=>aU<|Za rfl<|Za rfl<|fI rfl rfl rfl rfl bDY<|Zp rfl U401 lT nS rfl (.cons rfl rfl .nil) (fun U V O I=>Ze [] [] [] rfl (aYZ Yi) (fun Z M=>fH 2 [decide (most<n)] _ _ ((gQ (l:=[decide (most<n)]) (fun _ _ _ h=>h) I Ye).up RB.up (M _ Ye))) (fun v5 Y M G=>cJ (P:=prog) (fn:=f342) rfl ⟨by simpa using G.1,G.2⟩) (fun v5 Y ν5 M G=>?_)));obtain⟨R,rfl⟩:=G;refine Zah ?_;exact Zag [] [] [] [] rfl (fun D' hD=>⟨by simpa using R,rfl⟩)
theorem DR(a b most:Int)(D:aC):lH prog 345 [qI a,qI b,qI most] D [] (fun _ _ ν'=>(a≤b∧b≤most)∧ν'=[]) (fun v=>(b<a∨most<b)∧v=fD 2):=by
 refine eQ 14 func345 rfl rfl rfl rfl (fun h0 hwl hwn=>aU<|Za rfl<|Za rfl<|fI rfl rfl rfl rfl bDY<|Za rfl<|Za rfl<|fI rfl rfl rfl rfl bDY<|Zp rfl U401 lT nS rfl (.cons rfl rfl (.cons rfl rfl .nil)) (fun U V O I=>Ze [] [] [] rfl (aYZ Yi) (fun Z M=>fH 2 [decide (b<a),decide (most<b)] _ _ ((gQ (l:=[decide (b<a),decide (most<b)]) (fun _ _ _ h=>h) I Ye).up RB.up (M _ Ye))) (fun v5 Y M G=>cJ (P:=prog) (fn:=f345) rfl ⟨by simpa using G.1,G.2⟩) (fun v5 Y ν5 M G=>?_)));obtain⟨R,rfl⟩:=G;refine Zah ?_;exact Zag [] [] [] [] rfl (fun D' hD=>⟨by simpa using R,rfl⟩)
theorem aFA(sv:Value)(s:aN)(D:aC)(hs:iF D sv s):lH prog 193 [sv] D [] (fun _ _ ν'=>dK s=0∧ν'=[]) (fun v=>dK s≠0∧v=fD (dK s)):=by
 obtain⟨pv,cv,hv,lv,mv,bl,bc,yc,yq,rfl,hL⟩:=hs;refine eQ 52 func193 rfl rfl rfl rfl (fun h0 hwl hwn=>aA<|Zu rfl (fun q1 E1 hE1 hB=>aL<|Zh rfl dC rfl<|dW rfl (k:=0) kD jX rfl hB Yc rfl rfl n3 rfl bDY<|Zv rfl (fun D1 rB=>L1.aAP _ s.row _ (hL.row.up (rB _ Ye))) (fun v1 D1 rB hp1=>?_)));obtain⟨pl1,rfl,_⟩:=hp1;refine Za rfl<|Zaf rfl<|Zaf rfl<|Zg rfl<|Zg rfl<|aL<|Za rfl<|Zak rfl<|Zp rfl U401 lT nS rfl (.cons rfl rfl .nil) (fun b901 D901 hD901 hO=>Ze [] [] [] rfl (aYZ Yi) (fun D50 hE=>fH 11 [decide (C1.cK s.row true≠0)] _ _ ((gQ (l:=[decide (C1.cK s.row true≠0)]) (fun _ _ _ h=>h) hO Ye).up RB.up (hE _ Ye))) (fun v50 D51 hE M=>cJ (P:=prog) (fn:=f193) rfl (ZN (by simpa using M.1) M.2)) (fun v50 D51 ν50 hE M=>?_));obtain⟨G,rfl⟩:=M;refine aL<|Zh rfl bN rfl<|dW rfl (k:=4) iI gT rfl hB Yc rfl rfl n3 rfl bDY<|Zc rfl (fun D2 hD2=>L2.E0 _ s.table _ (hL.table.up (hD2 _ Ye)))<|Zak rfl<|Zp rfl U401 lT nS rfl (.cons rfl rfl .nil) (fun b902 D902 hD902 hR=>Ze [] [] [] rfl (aYZ Yi) (fun D52 hF=>fH 9 [decide (C2.aV s.table≠0)] _ _ ((gQ (l:=[decide (C2.aV s.table≠0)]) (fun _ _ _ h=>h) hR Ye).up RB.up (hF _ Ye))) (fun v52 D53 hF O=>cJ (P:=prog) (fn:=f193) rfl (aBE (by simpa using G) (by simpa using O.1) O.2)) (fun v52 D53 ν52 hF O=>?_));obtain⟨I,rfl⟩:=O;refine aL<|Zh rfl bN rfl<|dW rfl (k:=4) iI gT rfl hB Yc rfl rfl n3 rfl bDY<|Zv rfl (fun D3 hD3=>L2.pI _ s.table _ (hL.table.up (hD3 _ Ye))) (fun v3 D3 hD3 hp3=>?_);obtain⟨bl3,rfl,_⟩:=hp3;refine Za rfl<|Zaf rfl<|Zaf rfl<|Zg rfl<|aL<|Za rfl<|Zak rfl<|Zp rfl U401 lT nS rfl (.cons rfl rfl .nil) (fun b903 D903 hD903 hS=>Ze [] [] [] rfl (aYZ Yi) (fun D54 hH=>fH 11 [decide (C2.jV s.table true≠0)] _ _ ((gQ (l:=[decide (C2.jV s.table true≠0)]) (fun _ _ _ h=>h) hS Ye).up RB.up (hH _ Ye))) (fun v54 D55 hH R=>cJ (P:=prog) (fn:=f193) rfl (aBY (by simpa using G) (by simpa using I) (by simpa using R.1) R.2)) (fun v54 D55 ν54 hH R=>?_));obtain⟨U,rfl⟩:=R;refine aL<|Zh rfl eL rfl<|dW rfl (k:=9) fG eK rfl hB Yc rfl rfl n3 rfl bDY<|Zc rfl (fun D4 hD4=>L3.wQ _ s.book _ (hL.book.up (hD4 _ Ye)))<|Zak rfl<|Zp rfl U401 lT nS rfl (.cons rfl rfl .nil) (fun b904 D904 hD904 hX=>Ze [] [] [] rfl (aYZ Yi) (fun D56 hI=>fH 3 [decide (C3.aV s.book≠0)] _ _ ((gQ (l:=[decide (C3.aV s.book≠0)]) (fun _ _ _ h=>h) hX Ye).up RB.up (hI _ Ye))) (fun v56 D57 hI V=>cJ (P:=prog) (fn:=f193) rfl (aAR (by simpa using G) (by simpa using I) (by simpa using U) (by simpa using V.1) V.2)) (fun v56 D57 ν56 hI V=>?_));obtain⟨hJ,rfl⟩:=V;refine aL<|Zh rfl dL rfl<|dW rfl (k:=14) jC iO rfl hB Yc rfl rfl n3 rfl bDY<|Zc rfl (fun D5 hD5=>L7.xA _ s.yard _ (hL.yard.up (hD5 _ Ye)))<|Zak rfl<|Zp rfl U401 lT nS rfl (.cons rfl rfl .nil) (fun b905 D905 hD905 hY=>Ze [] [] [] rfl (aYZ Yi) (fun D58 hK=>fH 3 [decide (C7.aV s.yard≠0)] _ _ ((gQ (l:=[decide (C7.aV s.yard≠0)]) (fun _ _ _ h=>h) hY Ye).up RB.up (hK _ Ye))) (fun v58 D59 hK Y=>cJ (P:=prog) (fn:=f193) rfl (ZM (by simpa using G) (by simpa using I) (by simpa using U) (by simpa using hJ) (by simpa using Y.1) Y.2)) (fun v58 D59 ν58 hK Y=>?_));obtain⟨hN,rfl⟩:=Y;refine aL<|Zh rfl dL rfl<|dW rfl (k:=14) jC iO rfl hB Yc rfl rfl n3 rfl bDY<|Zc rfl (fun D6 hD6=>L7.pI _ s.yard _ (hL.yard.up (hD6 _ Ye)))<|Za rfl<|Zaf rfl<|Zaf rfl<|Zg rfl<|aF<|aU<|Za rfl<|Zak rfl ?_;refine Zp rfl U401 lT nS rfl (.cons rfl rfl .nil) (fun b906 D906 hD906 rA=>Ze [] [] [] rfl (aYZ Yi) (fun D60 hM=>fH 11 [decide ((L7.cF s.yard).2≠0)] _ _ ((gQ (l:=[decide ((L7.cF s.yard).2≠0)]) (fun _ _ _ h=>h) rA Ye).up RB.up (hM _ Ye))) (fun v60 D61 hM Z=>cJ (P:=prog) (fn:=f193) rfl (aBU (by simpa using G) (by simpa using I) (by simpa using U) (by simpa using hJ) (by simpa using hN) (by simpa using Z.1) Z.2)) (fun v60 D61 ν60 hM Z=>?_));obtain⟨hf60,rfl⟩:=Z;refine Zah ?_;exact Zag [] [] [] [] rfl (fun D' hD=>⟨A8 (by simpa using G) (by simpa using I) (by simpa using U) (by simpa using hJ) (by simpa using hN) (by simpa using hf60),rfl⟩)
end L12
namespace L12
open C12
def qZ:aN:=⟨{places:=[2,2,2,2],counts:=[],wrong:=0,off:=1},{last:=3,heights:=[(5,5),(5,5),(5,5),(5,5)],step:=5,levels:=[],marks:=[]},{chairs:=3,coin:=5,box:=20,lines:=[],counts:=[]},{chairs:=[],fit:=1,claims:=[]}⟩
theorem vO(D:aC):Fn prog 102 #[] D (fun D' v=>iF D' v qZ):=by
 refine Zs 38 func102 rfl (fun h0=>aA<|Zx rfl oL rfl (fun q1=>aL<|Zx rfl oL rfl (fun q2=>aL<|Zh rfl dC rfl<|Zh rfl vS rfl<|Zo rfl aM (bR.head) rfl<|Zh rfl dL rfl<|Zh rfl tI rfl<|Zo rfl aM (bR.head) rfl ?_)));refine aL<|Zh rfl bN rfl<|Zh rfl jU rfl<|Zo rfl aM (bR.head) rfl<|Zh rfl bN rfl<|Zh rfl tH rfl<|Zo rfl aM (bR.head) rfl<|aL<|Zh rfl eL rfl<|Zh rfl oI rfl<|Zo rfl aM (bR.head) rfl<|Zh rfl eL rfl ?_;refine Zh rfl tD rfl<|Zo rfl aM (bR.head) rfl<|Zh rfl eL rfl<|Zh rfl zJ rfl<|Zo rfl aM (bR.head) rfl<|bJ<|Za rfl<|aF<|Zar<|dD (γ:=Nat×Value×aD) (fun g=>4-g.1) (fun g=>g.1≤4∧bS 3 1 g.2.1 g.1 (ints (List.replicate g.1 2)) g.2.2) (fun g=>[(16,qI (g.1:Int))]) [(1,_),(0,_)] (fun g=>g.2.2++[(q2,qC [g.2.1,qN,qI 0,qI 1,qI 3,qN,qI 5,qN,qN,qI 3,qI 5,qI 20,qN,qN,qN,qI 1,qN] 42),(q1,qC [qN,qN,qI 0,qI 0,qI 0,qN,qI 0,qN,qN,qI 0,qI 0,qI 0,qN,qN,qN,qI 0,qN] 42)]) (fun g=>[D]) (0,qN,[]) ⟨by simp,by simpa [ints]using bS.nil⟩ ⟨Yb,bDY⟩ cQ Mm5 (aH) ?_;rintro⟨k,v,ν⟩ ⟨h1,ha⟩;simp only at h1 ha;refine aA<|Zai rfl<|bT<|Zz rfl (fun M=>?_) (fun M=>?_)
 ·simp only at M;refine aT<|aS<|Zar<|aU<|Zh rfl dC rfl<|Zh rfl eB rfl<|Zm rfl dN rfl (GE _ Mm0) rfl<|Zp rfl U25 aM dS rfl (.cons rfl rfl .nil) (fun hH hI U G=>?_);have V:=Sl.ofInts (l:=[_]) (n:=1) (cap:=1) G rfl Yd Yd;refine bB (A:=[]) (B:=[(_,_),(_,_)]) rfl U25 rfl rfl aM dS rfl oD rfl rfl rfl ha (mI.lit G) Ye rfl (by simp[ints]) Yk Yd (aZE rfl) rfl bDY (fun v1 ν1 O=>?_);have I:bS 3 1 v1 (k+1) (ints (List.replicate (k+1) 2)) ν1:=by rw[List.replicate_succ',←fV];exact O
  refine Zh rfl dC rfl<|Zh rfl eB rfl<|aI (ν1++(q2,_)::[(q1,_)]) rfl<|bG rfl rfl rfl O.cells1 qX (.app .head) Ye rfl O.cell1 bDY<|Zah<|Zat<|Zaq<|aU<|Zaa rfl<|Za rfl<|Zah ?_;exact aK 11 (k+1,v1,ν1) ⟨by simp only;omega,I⟩ Ym ⟨Yb,bDY⟩ rfl rfl Mm5 (fun D h=>⟨D,aZJ _ (h),Le.refl D⟩)
 ·obtain rfl:k=4:=by simp only at M;omega
  refine aW<|Zas<|Zas<|Zav<|Zaq<|aS<|aS<|R0 (A:=[]) (B:=[(_,_),(_,_)]) ha rfl (fun D8 hM Y=>?_);have hpl:=Y.ints Ye Yd;refine aU<|Za rfl<|aF<|Zar<|dD (γ:=Nat×Value×aD) (fun g=>4-g.1) (fun g=>g.1≤4∧bS 93 2 g.2.1 g.1 (L2.NZ (List.replicate g.1 (5,5))) g.2.2) (fun g=>[(26,qI (g.1:Int))]) [(1,_),(0,_)] (fun g=>g.2.2++[(q2,qC [v,qN,qI 0,qI 1,qI 3,g.2.1,qI 5,qN,qN,qI 3,qI 5,qI 20,qN,qN,qN,qI 1,qN] 42),(q1,qC [qN,qN,qI 0,qI 0,qI 0,qN,qI 0,qN,qN,qI 0,qI 0,qI 0,qN,qN,qN,qI 0,qN] 42)]) (fun g=>[D8,D]) (0,qN,[]) ⟨by simp,by simpa [L2.NZ]using bS.nil⟩ ⟨Yb,bDY⟩ cQ Mm5 (aH) ?_;rintro⟨j,u,ω⟩ ⟨h2,hb⟩;simp only at h2 hb;refine aA<|Zai rfl<|bT<|Zz rfl (fun hc2=>?_) (fun hc2=>?_)
  ·simp only at hc2;refine aT<|aS<|Zar<|aU<|Zh rfl bN rfl<|Zh rfl fP rfl<|Zm rfl lM rfl (GE _ Mm0) rfl<|Zr [qI 5,qI 5] rfl H9 iH rfl<|Zp rfl U29 cB iH rfl (.cons rfl rfl .nil) (fun hJ hK Z R=>bB (A:=[]) (B:=[(_,_),(_,_)]) rfl U29 rfl rfl cB iH rfl OL rfl rfl rfl hb (mI.lit R) Ye rfl (by rw[L2.y6];simp) Yk Yd (aZE rfl) rfl bDY (fun v2 ν2 I=>?_))
   have hB:bS 93 2 v2 (j+1) (L2.NZ (List.replicate (j+1) (5,5))) ν2:=by rw[List.replicate_succ',L2.t6];exact I
   refine Zh rfl bN rfl<|Zh rfl fP rfl<|aI (ν2++(q2,_)::[(q1,_)]) rfl<|bG rfl rfl rfl I.cells1 OJ (.app .head) Ye rfl I.cell1 bDY<|Zah<|Zat<|Zaq<|aU<|Zaa rfl<|Za rfl<|Zah ?_;exact aK 12 (j+1,v2,ν2) ⟨by simp only;omega,hB⟩ Ym ⟨Yb,bDY⟩ rfl rfl Mm5 (fun D h=>⟨D,aZJ _ (h),Le.refl D⟩)
  ·obtain rfl:j=4:=by simp only at hc2;omega
   refine aW<|Zas<|Zas<|Zav<|Zaq<|aA<|Zy rfl iT rfl (GE _ Mm0) dX<|bD rfl rfl rfl rfl dX Ya Ya (.app (.tail (bR.head))) (by simp[cell1];exact⟨ha.cell1 _ Ye,hb.cell1 _ Ye⟩) bDY<|aG<|gC (A:=[]) (B:=[(_,_),(_,_)]) hb rfl (fun D9 hE hF=>?_);have hht:=hF.rgs Ye Yd;exact cS (vs:=[_]) rfl rfl rfl ⟨⟨_,_,_,rfl,aZJ _ Mm0,aYZ ⟨iT,dX,rfl⟩⟩,bDY⟩ (fun D hD=>⟨v,qN,u,qN,qN,qN,qN,qN,qN,rfl,(hpl.up RI.up ((hE _ Ye).trans (hD _ Ye))),Sl.nil,hht.up Z7.up (hD _ Ye),Sl.nil,Sl.nil,Sl.nil,Sl.nil,Sl.nil,Sl.nil⟩)
end L12
namespace L12
open C12
def cI(n:Int):List Value:=[qI n]
def cC(c:C1.xI):List Value:=[.bool c.back,qI c.many,qI c.num]
def cP(p:Int×Int):List Value:=[qI p.1,qI p.2]
def cM(m:C2.Mk):List Value:=[qI m.frm,qI m.to,qI m.lo,qI m.hi]
def cL(l:C3.gI):List Value:=[qI l.kind,qI l.chair,qI l.token]
def cH(c:C7.Ch):List Value:=[qI c.size,qI c.parts.a,qI c.parts.b,qI c.parts.c]
theorem aEE(n:Int):∀u∈cI n,cell1 u=true:=by intro u hu;simp[cI]at hu;subst hu;rfl
theorem LS(c:C1.xI):∀u∈cC c,cell1 u=true:=by intro u hu;simp[cC]at hu;rcases hu with rfl|rfl|rfl<;>rfl
theorem AH(p:Int×Int):∀u∈cP p,cell1 u=true:=by intro u hu;simp[cP]at hu;rcases hu with rfl|rfl<;>rfl
theorem IL(m:C2.Mk):∀u∈cM m,cell1 u=true:=by intro u hu;simp[cM]at hu;rcases hu with rfl|rfl|rfl|rfl<;>rfl
theorem NE(l:C3.gI):∀u∈cL l,cell1 u=true:=by intro u hu;simp[cL]at hu;rcases hu with rfl|rfl|rfl<;>rfl
theorem aIP(c:C7.Ch):∀u∈cH c,cell1 u=true:=by intro u hu;simp[cH]at hu;rcases hu with rfl|rfl|rfl|rfl<;>rfl
theorem bP{α:Type}{f:α→List Value}{n:Nat}(h:∀x,(f x).length=n)(xs:List α):(xs.flatMap f).length=xs.length*n:=by
 induction xs with
 |nil=>simp
 |cons x xs ih=>rw[bAC,aYS,h,ih,aYW,bBU];omega
theorem gM{α:Type}{f:α→List Value}(h:∀x,∀u∈f x,cell1 u=true)(xs:List α):∀u∈xs.flatMap f,cell1 u=true:=by
 intro u hu;obtain⟨x,_,hx⟩:=bDK.1 hu;exact h x u hx
theorem CM{α:Type}{f:α→List Value}{n:Nat}(h:∀x,(f x).length=n){xs:List α}{i:Nat}{x:α}(hi:xs[i]?= some x)(junk:List Value):((xs.flatMap f++junk).drop (i*n)).take n=f x:=by
 induction xs generalizing i with
 |nil=>simp at hi
 |cons d xs ih=>
  rw[bAC,aZD];cases i with
  |zero=>
   obtain rfl:d=x:=by simpa using hi
   rw[bCS,bCN,bAB (by rw[h];omega),aZP (by rw[h];omega)]
  |succ i=>
   rw[show(i+1)*n=(f d).length+i*n by rw[h,bBU];omega,bCX];exact ih Yal
theorem nW{α:Type}{R:Rd α}{f:α→List Value}{n:Nat}{D:aC}{v:Value}{xs:List α}(hR:∀D x,R D x (f x))(h:∀x,(f x).length=n)(hF:mK D v xs.length (xs.flatMap f))(hb:xs.length≤10000000):Sl D R n v xs:=
 hF.sl rfl Yd fun i t hi=>⟨f t,hR _ _,h t,by have:=CM h hi [];rwa [aZA]at this⟩
theorem vD(sv:Value)(xs:List Int)(D:aC)(hS:Sl D RI 1 sv xs)(hl:xs.length≤10000000):KZ prog 142 #[sv] D (fun _ v ν=>bS 3 1 v xs.length (xs.flatMap cI) ν):=by
 obtain⟨a0,c0,rfl⟩:=hS.shape;refine pM 8 func142 rfl rfl rfl rfl fun h0=>aA<|Zg rfl<|bJ<|Za rfl<|oB rfl U25 rfl rfl rfl bDY<|aF<|aP rfl (fun G=>?_) (fun G=>?_)
 ·obtain rfl:a0=none:=by simpa using G
  obtain rfl:=rL hS;refine aA<|Zg rfl<|aG<|Zap ?_;exact aE rfl (fun D' hD=>bS.nil)
 ·refine aT<|aA<|Zp rfl U25 aM dS rfl .nil (fun R U I M=>Za rfl<|bB (A:=[]) (ν:=[]) (B:=[]) rfl U25 rfl rfl aM dS rfl oD rfl rfl rfl bS.nil (mI.of (cells:=cI) (fun _ _ _ h=>h) (fun _=>rfl) hS) Ye (bP (n:=1) (fun _=>rfl) xs) rfl (gM aEE xs) Yd (aZE rfl) rfl bDY (fun v1 ν1 O=>Zg rfl<|aG ?_));exact aE rfl (fun D' hD=>by show bS 3 1 v1 _ _ _;simpa using O)
theorem aCZ(sv:Value)(xs:List C1.xI)(D:aC)(hS:Sl D RC 3 sv xs)(hl:xs.length≤10000000):KZ prog 290 #[sv] D (fun _ v ν=>bS 202 3 v xs.length (xs.flatMap cC) ν):=by
 obtain⟨a0,c0,rfl⟩:=hS.shape;refine pM 8 func290 rfl rfl rfl rfl fun h0=>aA<|Zg rfl<|bJ<|Za rfl<|oB rfl U26 rfl rfl rfl bDY<|aF<|aP rfl (fun G=>?_) (fun G=>?_)
 ·obtain rfl:a0=none:=by simpa using G
  obtain rfl:=rL hS;refine aA<|Zg rfl<|aG<|Zap ?_;exact aE rfl (fun D' hD=>bS.nil)
 ·refine aT<|aA<|Zp rfl U26 gV wJ rfl .nil (fun R U I M=>Za rfl<|bB (A:=[]) (ν:=[]) (B:=[]) rfl U26 rfl rfl gV wJ rfl TY rfl rfl rfl bS.nil (mI.of (cells:=cC) (fun _ _ _ h=>h) (fun _=>rfl) hS) Ye (bP (n:=3) (fun _=>rfl) xs) rfl (gM LS xs) Yd (aZE rfl) rfl bDY (fun v1 ν1 O=>Zg rfl<|aG ?_));exact aE rfl (fun D' hD=>by show bS 202 3 v1 _ _ _;simpa using O)
theorem aBD(sv:Value)(xs:List (Int×Int))(D:aC)(hS:Sl D Z7 2 sv xs)(hl:xs.length≤10000000):KZ prog 291 #[sv] D (fun _ v ν=>bS 93 2 v xs.length (xs.flatMap cP) ν):=by
 obtain⟨a0,c0,rfl⟩:=hS.shape;refine pM 8 func291 rfl rfl rfl rfl fun h0=>aA<|Zg rfl<|bJ<|Za rfl<|oB rfl U29 rfl rfl rfl bDY<|aF<|aP rfl (fun G=>?_) (fun G=>?_)
 ·obtain rfl:a0=none:=by simpa using G
  obtain rfl:=rL hS;refine aA<|Zg rfl<|aG<|Zap ?_;exact aE rfl (fun D' hD=>bS.nil)
 ·refine aT<|aA<|Zp rfl U29 cB iH rfl .nil (fun R U I M=>Za rfl<|bB (A:=[]) (ν:=[]) (B:=[]) rfl U29 rfl rfl cB iH rfl OL rfl rfl rfl bS.nil (mI.of (cells:=cP) (fun _ _ _ h=>h) (fun _=>rfl) hS) Ye (bP (n:=2) (fun _=>rfl) xs) rfl (gM AH xs) Yd (aZE rfl) rfl bDY (fun v1 ν1 O=>Zg rfl<|aG ?_));exact aE rfl (fun D' hD=>by show bS 93 2 v1 _ _ _;simpa using O)
theorem XJ(sv:Value)(xs:List C2.Mk)(D:aC)(hS:Sl D KX 4 sv xs)(hl:xs.length≤10000000):KZ prog 292 #[sv] D (fun _ v ν=>bS 204 4 v xs.length (xs.flatMap cM) ν):=by
 obtain⟨a0,c0,rfl⟩:=hS.shape;refine pM 8 func292 rfl rfl rfl rfl fun h0=>aA<|Zg rfl<|bJ<|Za rfl<|oB rfl U30 rfl rfl rfl bDY<|aF<|aP rfl (fun G=>?_) (fun G=>?_)
 ·obtain rfl:a0=none:=by simpa using G
  obtain rfl:=rL hS;refine aA<|Zg rfl<|aG<|Zap ?_;exact aE rfl (fun D' hD=>bS.nil)
 ·refine aT<|aA<|Zp rfl U30 iG wS rfl .nil (fun R U I M=>Za rfl<|bB (A:=[]) (ν:=[]) (B:=[]) rfl U30 rfl rfl iG wS rfl WH rfl rfl rfl bS.nil (mI.of (cells:=cM) (fun _ _ _ h=>h) (fun _=>rfl) hS) Ye (bP (n:=4) (fun _=>rfl) xs) rfl (gM IL xs) Yd (aZE rfl) rfl bDY (fun v1 ν1 O=>Zg rfl<|aG ?_));exact aE rfl (fun D' hD=>by show bS 204 4 v1 _ _ _;simpa using O)
theorem ZW(sv:Value)(xs:List C3.gI)(D:aC)(hS:Sl D tN 3 sv xs)(hl:xs.length≤10000000):KZ prog 293 #[sv] D (fun _ v ν=>bS 206 3 v xs.length (xs.flatMap cL) ν):=by
 obtain⟨a0,c0,rfl⟩:=hS.shape;refine pM 8 func293 rfl rfl rfl rfl fun h0=>aA<|Zg rfl<|bJ<|Za rfl<|oB rfl U33 rfl rfl rfl bDY<|aF<|aP rfl (fun G=>?_) (fun G=>?_)
 ·obtain rfl:a0=none:=by simpa using G
  obtain rfl:=rL hS;refine aA<|Zg rfl<|aG<|Zap ?_;exact aE rfl (fun D' hD=>bS.nil)
 ·refine aT<|aA<|Zp rfl U33 bU jJ rfl .nil (fun R U I M=>Za rfl<|bB (A:=[]) (ν:=[]) (B:=[]) rfl U33 rfl rfl bU jJ rfl Q7 rfl rfl rfl bS.nil (mI.of (cells:=cL) (fun _ _ _ h=>h) (fun _=>rfl) hS) Ye (bP (n:=3) (fun _=>rfl) xs) rfl (gM NE xs) Yd (aZE rfl) rfl bDY (fun v1 ν1 O=>Zg rfl<|aG ?_));exact aE rfl (fun D' hD=>by show bS 206 3 v1 _ _ _;simpa using O)
theorem aAX(sv:Value)(xs:List C7.Ch)(D:aC)(hS:Sl D wZ 4 sv xs)(hl:xs.length≤10000000):KZ prog 294 #[sv] D (fun _ v ν=>bS 212 4 v xs.length (xs.flatMap cH) ν):=by
 obtain⟨a0,c0,rfl⟩:=hS.shape;refine pM 8 func294 rfl rfl rfl rfl fun h0=>aA<|Zg rfl<|bJ<|Za rfl<|oB rfl U37 rfl rfl rfl bDY<|aF<|aP rfl (fun G=>?_) (fun G=>?_)
 ·obtain rfl:a0=none:=by simpa using G
  obtain rfl:=rL hS;refine aA<|Zg rfl<|aG<|Zap ?_;exact aE rfl (fun D' hD=>bS.nil)
 ·refine aT<|aA<|Zp rfl U37 iQ zU rfl .nil (fun R U I M=>Za rfl<|bB (A:=[]) (ν:=[]) (B:=[]) rfl U37 rfl rfl iQ zU rfl XD rfl rfl rfl bS.nil (mI.of (cells:=cH) (fun _ _ _ h=>h) (fun _=>rfl) hS) Ye (bP (n:=4) (fun _=>rfl) xs) rfl (gM aIP xs) Yd (aZE rfl) rfl bDY (fun v1 ν1 O=>Zg rfl<|aG ?_));exact aE rfl (fun D' hD=>by show bS 212 4 v1 _ _ _;simpa using O)
theorem aBR(sv:Value)(xs:List (Int×Int))(D:aC)(hS:Sl D R2 2 sv xs)(hl:xs.length≤10000000):KZ prog 295 #[sv] D (fun _ v ν=>bS 90 2 v xs.length (xs.flatMap cP) ν):=by
 obtain⟨a0,c0,rfl⟩:=hS.shape;refine pM 8 func295 rfl rfl rfl rfl fun h0=>aA<|Zg rfl<|bJ<|Za rfl<|oB rfl U38 rfl rfl rfl bDY<|aF<|aP rfl (fun G=>?_) (fun G=>?_)
 ·obtain rfl:a0=none:=by simpa using G
  obtain rfl:=rL hS;refine aA<|Zg rfl<|aG<|Zap ?_;exact aE rfl (fun D' hD=>bS.nil)
 ·refine aT<|aA<|Zp rfl U38 cU kG rfl .nil (fun R U I M=>Za rfl<|bB (A:=[]) (ν:=[]) (B:=[]) rfl U38 rfl rfl cU kG rfl aDK rfl rfl rfl bS.nil (mI.of (cells:=cP) (fun _ _ _ h=>h) (fun _=>rfl) hS) Ye (bP (n:=2) (fun _=>rfl) xs) rfl (gM AH xs) Yd (aZE rfl) rfl bDY (fun v1 ν1 O=>Zg rfl<|aG ?_));exact aE rfl (fun D' hD=>by show bS 90 2 v1 _ _ _;simpa using O)
end L12
namespace L12
open C12
theorem aYO{α:Type}(a b c d e:List α):a++(b++(c++(d++e)))=(a++(b++(c++d)))++e:=by simp
theorem aYM{α:Type}(a b d e:List α):a++(b++(d++e))=(a++(b++d))++e:=by simp
structure N1(s:aN):Prop where
 pl:s.row.places.length≤100
 ct:s.row.counts.length≤100
 ht:s.table.heights.length≤100
 lev:s.table.levels.length≤100
 mks:s.table.marks.length≤100
 ln:s.book.lines.length≤100
 ch:s.yard.chairs.length≤100
 cl:s.yard.claims.length≤100
structure aXH(D:aC)(s:aN)(pv cv hv lv mv bl bc yc yq:Value)(ν1 ν2 ν3 ν4 ν5 ν6 ν7 ν8:aD):Prop where
 pl:bS 3 1 pv s.row.places.length (s.row.places.flatMap cI) ν1
 ct:bS 202 3 cv s.row.counts.length (s.row.counts.flatMap cC) ν2
 ht:bS 93 2 hv s.table.heights.length (s.table.heights.flatMap cP) ν3
 lev:bS 3 1 lv s.table.levels.length (s.table.levels.flatMap cI) ν4
 mks:bS 204 4 mv s.table.marks.length (s.table.marks.flatMap cM) ν5
 ln:bS 206 3 bl s.book.lines.length (s.book.lines.flatMap cL) ν6
 cn:Sl D wC 3 bc s.book.counts
 ch:bS 212 4 yc s.yard.chairs.length (s.yard.chairs.flatMap cH) ν7
 cl:bS 90 2 yq s.yard.claims.length (s.yard.claims.flatMap cP) ν8
theorem i7(sv:Value)(s:aN)(D:aC)(hs:iF D sv s)(hsm:N1 s):KZ prog 192 #[sv] D (fun D' v ν=>∃wb pv cv hv lv mv bl bc yc yq ν1 ν2 ν3 ν4 ν5 ν6 ν7 ν8,v=qP wb∧ν=(wb,qC (dO s pv cv hv lv mv bl bc yc yq) 343)::(ν8++(ν7++(ν6++(ν5++(ν4++(ν3++(ν2++ν1)))))))∧aXH D' s pv cv hv lv mv bl bc yc yq ν1 ν2 ν3 ν4 ν5 ν6 ν7 ν8):=by
 obtain⟨pv,cv,hv,lv,mv,bl,bc,yc,yq,rfl,hL⟩:=hs;unfold dO;refine pM 54 func192 rfl rfl rfl rfl fun h0=>aA<|DK rfl (e:=42) rfl rfl rfl bDY (fun q1=>Zg rfl<|bT<|lI [] 2 [0,1,2,4,5,6,3,8,9,7,10,11,12,13] [false,false,false,true,true,true,true,false,false,true,false,false,false,false] [(false,0),(false,1),(false,2),(true,4),(true,5),(true,6),(true,3),(false,8),(false,9),(true,7),(false,10),(false,11),(false,12),(false,13)] bI (fun _ _ _ h=>kL (P:=prog) (fn:=f192) _ _ _ h) Yg rfl<|Zh rfl dC rfl<|Zh rfl eB rfl<|Zm rfl dN rfl Mm0 rfl<|Zh rfl dC rfl<|Zh rfl hP rfl<|Zm rfl pT rfl Mm0 rfl ?_);refine fX rfl rfl rfl (fun D22 hE=>vD _ s.row.places _ (hL.pl.up RI.up (hE _ Ye)) (by have:=hsm.pl;omega)) rfl bDY (fun w1 D23 ν1 hO I=>Zh rfl dC rfl<|Zh rfl eB rfl<|fX rfl rfl rfl (fun D24 hF=>aCZ _ s.row.counts _ (hL.ct.up RC.up (hF _ Ye)) (by have:=hsm.ct;omega)) rfl bDY (fun w2 D25 ν2 hR M=>aI ((ν2++ν1)++(q1,_)::[]) ((aZD _ _ _).symm)<|bG (ws:=(dO s w1 cv hv lv mv bl bc yc yq)) rfl rfl rfl I.cells1 qX (.app .head) Ye rfl I.cell1 bDY<|Zh rfl dC rfl<|Zh rfl hP rfl<|bG (ws:=(dO s w1 w2 hv lv mv bl bc yc yq)) rfl rfl rfl M.cells1 GH (.app .head) Ye rfl M.cell1 bDY<|bT<|lI [] 2 [0,1,2,4,5,6,8,9,10,3,12,13,7,11,14,15,16,17,18,19,20] [false,false,false,true,true,true,true,true,true,true,false,false,true,true,false,false,false,false,false,false,false] [(false,0),(false,1),(false,2),(true,4),(true,5),(true,6),(true,8),(true,9),(true,10),(true,3),(false,12),(false,13),(true,7),(true,11),(false,14),(false,15),(false,16),(false,17),(false,18),(false,19),(false,20)] bI (fun _ _ _ h=>kL (P:=prog) (fn:=f192) _ _ _ h) Yg rfl<|Zh rfl bN rfl ?_));refine Zh rfl fP rfl<|Zm rfl lM rfl (GE _ Mm0) rfl<|Zh rfl bN rfl<|Zh rfl gR rfl<|Zm rfl dN rfl (GE _ Mm0) rfl<|Zh rfl bN rfl<|Zh rfl iA rfl<|Zm rfl pH rfl (GE _ Mm0) rfl<|fX rfl rfl rfl (fun D26 hH=>aBD _ s.table.heights _ (hL.ht.up Z7.up (hH _ Ye)) (by have:=hsm.ht;omega)) rfl bDY (fun G D27 ν3 hS O=>Zh rfl bN rfl<|Zh rfl fP rfl<|fX rfl rfl rfl (fun D28 hI=>vD _ s.table.levels _ (hL.lev.up RI.up (hI _ Ye)) (by have:=hsm.lev;omega)) rfl bDY (fun R D29 ν4 hX U=>?_));refine fX rfl rfl rfl (fun D30 hJ=>XJ _ s.table.marks _ (hL.mks.up KX.up (hJ _ Ye)) (by have:=hsm.mks;omega)) rfl bDY (fun w5 D31 ν5 hY V=>aI ((ν5++(ν4++(ν3++(ν2++ν1))))++(q1,_)::[]) (aYO _ _ _ _ _)<|bG (ws:=(dO s w1 w2 G lv mv bl bc yc yq)) rfl rfl rfl O.cells1 OJ (.app .head) Ye rfl O.cell1 bDY<|Zh rfl bN rfl<|Zh rfl gR rfl<|bG (ws:=(dO s w1 w2 G R mv bl bc yc yq)) rfl rfl rfl U.cells1 qX (.app .head) Ye rfl U.cell1 bDY<|Zh rfl bN rfl<|Zh rfl iA rfl<|bG (ws:=(dO s w1 w2 G R w5 bl bc yc yq)) rfl rfl rfl V.cells1 FF (.app .head) Ye rfl V.cell1 bDY<|aL<|Zh rfl eL rfl<|Zh rfl cE rfl ?_);refine Zm rfl fA rfl (GE _ Mm0) rfl<|fX rfl rfl rfl (fun D32 hK=>ZW _ s.book.lines _ (hL.ln.up tN.up (hK _ Ye)) (by have:=hsm.ln;omega)) rfl bDY (fun w6 D33 ν6 rA Y=>Zh rfl eL rfl<|Zh rfl cE rfl<|aI ((ν6++(ν5++(ν4++(ν3++(ν2++ν1)))))++(q1,_)::[]) ((aZD _ _ _).symm)<|bG (ws:=(dO s w1 w2 G R w5 w6 bc yc yq)) rfl rfl rfl Y.cells1 eI (.app .head) Ye rfl Y.cell1 bDY<|bT<|lI [] 2 [0,1,2,4,5,6,3,8,9,7,10,11,12,13] [false,false,false,true,true,true,true,false,false,true,false,false,false,false] [(false,0),(false,1),(false,2),(true,4),(true,5),(true,6),(true,3),(false,8),(false,9),(true,7),(false,10),(false,11),(false,12),(false,13)] bI (fun _ _ _ h=>kL (P:=prog) (fn:=f192) _ _ _ h) Yg rfl<|Zh rfl dL rfl<|Zh rfl eO rfl<|Zm rfl jE rfl (GE _ Mm0) rfl<|Zh rfl dL rfl ?_);refine Zh rfl iB rfl<|Zm rfl pV rfl (GE _ Mm0) rfl<|fX rfl rfl rfl (fun D34 hM=>aAX _ s.yard.chairs _ (hL.ch.up wZ.up (hM _ Ye)) (by have:=hsm.ch;omega)) rfl bDY (fun w7 D35 ν7 rB Z=>Zh rfl dL rfl<|Zh rfl eO rfl<|fX rfl rfl rfl (fun D36 hN=>aBR _ s.yard.claims _ (hL.cl.up R2.up (hN _ Ye)) (by have:=hsm.cl;omega)) rfl bDY (fun w8 D37 ν8 hD37 hB=>aI ((ν8++(ν7++(ν6++(ν5++(ν4++(ν3++(ν2++ν1)))))))++(q1,_)::[]) (aYM _ _ _ _)<|bG (ws:=(dO s w1 w2 G R w5 w6 bc w7 yq)) rfl rfl rfl Z.cells1 SG (.app .head) Ye rfl Z.cell1 bDY<|Zh rfl dL rfl<|Zh rfl iB rfl<|bG (ws:=(dO s w1 w2 G R w5 w6 bc w7 w8)) rfl rfl rfl hB.cells1 HH (.app .head) Ye rfl hB.cell1 bDY<|aL ?_));refine Zy rfl iT rfl (GE _ Mm0) dX<|kE (cs:=(dO s w1 w2 G R w5 w6 bc w7 w8)) rfl aQQ aOZ rfl Yg rfl bDY<|DK rfl (e:=343) rfl rfl rfl bDY (fun q2=>Zg rfl<|aG ?_)
 exact fun a w hh=>cS (P:=prog) (fn:=f192) (vs:=[_]) rfl rfl rfl ⟨rfl,bDY⟩ (fun D hD=>⟨q2,w1,w2,G,R,w5,w6,bc,w7,w8,ν1,ν2,ν3,ν4,ν5,ν6,ν7,ν8,rfl,rfl,I,M,O,U,V,Y,hL.cn.up wC.up (hD _ Ye),Z,hB⟩) a w (hh.subB (List.Sublist.cons_cons _ (List.sublist_append_left _ _)))
end L12
namespace L12
open C12
theorem aBK(wb:Nat)(s:aN)(pv cv hv lv mv bl bc yc yq nv:Value)(a:Int)(D:aC)(hn:Sl D RI 1 nv [a]):lH prog 271 [qP wb,nv] D [(wb,qC (dO s pv cv hv lv mv bl bc yc yq) 343)] (fun _ _ ν'=>a≤6∧ν'=[(wb,qC [pv,cv,qI a,qI s.row.off,qI s.table.last,hv,qI s.table.step,lv,mv,qI s.book.chairs,qI s.book.coin,qI s.book.box,bl,bc,yc,qI s.yard.fit,yq] 343)]) (fun v=>6<a∧v=fD 2):=by
 refine eQ 16 func271 rfl rfl rfl rfl (fun h0 hwl hwn=>aA<|Za rfl<|jZ rfl hn rfl rfl (fun R o1=>Ze [(_,_)] [] [] rfl (aYZ Yi) (fun U I=>tQ a 6 _) (fun v5 O I G=>cJ (P:=prog) (fn:=f271) rfl ⟨G.1,G.2⟩) (fun v5 O ν5 I G=>?_)));obtain⟨M,rfl⟩:=G;refine aF<|aU<|Za rfl<|Za rfl<|jZ rfl hn rfl rfl (fun b2 o2=>Zaj rfl<|Zh rfl aX rfl<|Zh rfl dC rfl<|Zh rfl yP rfl<|bG (ws:=[pv,cv,qI a,qI s.row.off,qI s.table.last,hv,qI s.table.step,lv,mv,qI s.book.chairs,qI s.book.coin,qI s.book.box,bl,bc,yc,qI s.yard.fit,yq]) rfl rfl rfl rfl aM .head Ye rfl Yk bDY<|Zah ?_);exact Zag [] [] [_] [] rfl (fun D' hD=>⟨M,rfl⟩)
theorem aMU(wb:Nat)(s:aN)(pv cv hv lv mv bl bc yc yq nv:Value)(a:Int)(D:aC)(hn:Sl D RI 1 nv [a]):lH prog 272 [qP wb,nv] D [(wb,qC (dO s pv cv hv lv mv bl bc yc yq) 343)] (fun _ _ ν'=>a≤9∧ν'=[(wb,qC [pv,cv,qI s.row.wrong,qI a,qI s.table.last,hv,qI s.table.step,lv,mv,qI s.book.chairs,qI s.book.coin,qI s.book.box,bl,bc,yc,qI s.yard.fit,yq] 343)]) (fun v=>9<a∧v=fD 2):=by
 refine eQ 16 func272 rfl rfl rfl rfl (fun h0 hwl hwn=>aA<|Za rfl<|jZ rfl hn rfl rfl (fun R o1=>Ze [(_,_)] [] [] rfl (aYZ Yi) (fun U I=>tQ a 9 _) (fun v5 O I G=>cJ (P:=prog) (fn:=f272) rfl ⟨G.1,G.2⟩) (fun v5 O ν5 I G=>?_)));obtain⟨M,rfl⟩:=G;refine aF<|aU<|Za rfl<|Za rfl<|jZ rfl hn rfl rfl (fun b2 o2=>Zaj rfl<|Zh rfl aX rfl<|Zh rfl dC rfl<|Zh rfl vS rfl<|bG (ws:=[pv,cv,qI s.row.wrong,qI a,qI s.table.last,hv,qI s.table.step,lv,mv,qI s.book.chairs,qI s.book.coin,qI s.book.box,bl,bc,yc,qI s.yard.fit,yq]) rfl rfl rfl rfl aM .head Ye rfl Yk bDY<|Zah ?_);exact Zag [] [] [_] [] rfl (fun D' hD=>⟨M,rfl⟩)
theorem aDO(wb:Nat)(s:aN)(pv cv hv lv mv bl bc yc yq nv:Value)(a:Int)(D:aC)(hn:Sl D RI 1 nv [a]):lH prog 274 [qP wb,nv] D [(wb,qC (dO s pv cv hv lv mv bl bc yc yq) 343)] (fun _ _ ν'=>a≤99∧ν'=[(wb,qC [pv,cv,qI s.row.wrong,qI s.row.off,qI s.table.last,hv,qI a,lv,mv,qI s.book.chairs,qI s.book.coin,qI s.book.box,bl,bc,yc,qI s.yard.fit,yq] 343)]) (fun v=>99<a∧v=fD 2):=by
 refine eQ 16 func274 rfl rfl rfl rfl (fun h0 hwl hwn=>aA<|Za rfl<|jZ rfl hn rfl rfl (fun R o1=>Ze [(_,_)] [] [] rfl (aYZ Yi) (fun U I=>tQ a 99 _) (fun v5 O I G=>cJ (P:=prog) (fn:=f274) rfl ⟨G.1,G.2⟩) (fun v5 O ν5 I G=>?_)));obtain⟨M,rfl⟩:=G;refine aF<|aU<|Za rfl<|Za rfl<|jZ rfl hn rfl rfl (fun b2 o2=>Zaj rfl<|Zh rfl aX rfl<|Zh rfl bN rfl<|Zh rfl tH rfl<|bG (ws:=[pv,cv,qI s.row.wrong,qI s.row.off,qI s.table.last,hv,qI a,lv,mv,qI s.book.chairs,qI s.book.coin,qI s.book.box,bl,bc,yc,qI s.yard.fit,yq]) rfl rfl rfl rfl aM .head Ye rfl Yk bDY<|Zah ?_);exact Zag [] [] [_] [] rfl (fun D' hD=>⟨M,rfl⟩)
theorem aNY(wb:Nat)(s:aN)(pv cv hv lv mv bl bc yc yq nv:Value)(a:Int)(D:aC)(hn:Sl D RI 1 nv [a]):lH prog 285 [qP wb,nv] D [(wb,qC (dO s pv cv hv lv mv bl bc yc yq) 343)] (fun _ _ ν'=>a≤9∧ν'=[(wb,qC [pv,cv,qI s.row.wrong,qI s.row.off,qI s.table.last,hv,qI s.table.step,lv,mv,qI s.book.chairs,qI s.book.coin,qI s.book.box,bl,bc,yc,qI a,yq] 343)]) (fun v=>9<a∧v=fD 2):=by
 refine eQ 16 func285 rfl rfl rfl rfl (fun h0 hwl hwn=>aA<|Za rfl<|jZ rfl hn rfl rfl (fun R o1=>Ze [(_,_)] [] [] rfl (aYZ Yi) (fun U I=>tQ a 9 _) (fun v5 O I G=>cJ (P:=prog) (fn:=f285) rfl ⟨G.1,G.2⟩) (fun v5 O ν5 I G=>?_)));obtain⟨M,rfl⟩:=G;refine aF<|aU<|Za rfl<|Za rfl<|jZ rfl hn rfl rfl (fun b2 o2=>Zaj rfl<|Zh rfl aX rfl<|Zh rfl dL rfl<|Zh rfl tI rfl<|bG (ws:=[pv,cv,qI s.row.wrong,qI s.row.off,qI s.table.last,hv,qI s.table.step,lv,mv,qI s.book.chairs,qI s.book.coin,qI s.book.box,bl,bc,yc,qI a,yq]) rfl rfl rfl rfl aM .head Ye rfl Yk bDY<|Zah ?_);exact Zag [] [] [_] [] rfl (fun D' hD=>⟨M,rfl⟩)
end L12
namespace L12
open C12
theorem nL{D:aC}{bt ot n ct:Nat}{a:Int}{l:List Int}(h:Sl D RI 1 (.slice (some ⟨bt,ot,none⟩) n ct) (a::l)):At D bt ot [qI a]:=by
 obtain⟨x,cap,hv,h1,h2,h3⟩:=h;cases hv;rcases h3 with h3|⟨b,o,ha,h3⟩
 ·cases h3
 ·cases ha;obtain⟨cs,hr,hc,hA⟩:=h3 0 a rfl;obtain rfl:cs=[qI a]:=hr;simpa using hA
theorem mW{bt wb:Nat}{o:Obj}{ν:aD}(h1:bt∉aD.ks ((wb,o)::ν))(h2:(aD.ks ((wb,o)::ν)).Nodup):∀p∈ν,p.1∉[bt,wb]:=by
 intro p hp hm;have hk:p.1∈ν.ks:=GT.2 ⟨p,hp,rfl⟩;simp only[n4,n3,bBB]at hm;rcases hm with e|e
 ·exact h1 (n5 _ (e▸hk))
 ·exact(bAO.1 h2).1 (e▸hk)
theorem YN(wb:Nat)(s:aN)(pv cv hv lv mv bl bc yc yq nv:Value)(ν:aD)(D:aC)(ha:bS 3 1 pv s.row.places.length (s.row.places.flatMap cI) ν)(hsm:s.row.places.length≤100):lH prog 266 [qP wb,nv] D ((wb,qC (dO s pv cv hv lv mv bl bc yc yq) 343)::ν) (fun _ _ ν'=>((s.row.places.length:Int)<7)∧∃v1 ν1,ν'=(wb,qC (dO s v1 cv hv lv mv bl bc yc yq) 343)::ν1∧bS 3 1 v1 (s.row.places.length+1) ((s.row.places++[2]).flatMap cI) ν1) (fun v=>7≤(s.row.places.length:Int)∧v=fD 3):=by
 refine eQ 25 func266 rfl rfl rfl rfl (fun h0 hwl hwn=>aA<|Za rfl<|Zaj rfl<|Zh rfl aX rfl<|Zh rfl dC rfl<|Zh rfl eB rfl<|Zm rfl dN rfl Mm0 rfl<|fJ rfl U25 rfl ha rfl rfl bDY<|Ze [(_,_)] ν [] rfl (Or.inr Yi) (fun D5 O=>xH (s.row.places.length:Int) 7 _) (fun v5 D6 O I=>cJ (P:=prog) (fn:=f266) rfl ⟨I.1,I.2⟩) (fun v5 D6 ν5 O I=>?_));obtain⟨R,rfl⟩:=I;refine aF<|aU<|Za rfl<|Za rfl<|Zaj rfl<|Zh rfl aX rfl<|Zh rfl dC rfl<|Zh rfl eB rfl<|Zm rfl dN rfl Mm0 rfl<|Zp rfl U25 aM dS rfl (.cons rfl rfl .nil) (fun Z hB U G=>?_);have V:=Sl.ofInts (l:=[_]) (n:=1) (cap:=1) G rfl Yd Yd;refine aI ((wb,qC (dO s pv cv hv lv mv bl bc yc yq) 343)::ν) rfl<|aI ((wb,qC (dO s pv cv hv lv mv bl bc yc yq) 343)::ν++[]) (aZA _).symm<|bB (A:=[(wb,qC (dO s pv cv hv lv mv bl bc yc yq) 343)]) (B:=[]) rfl U25 rfl rfl aM dS rfl oD rfl rfl rfl ha (mI.lit G) Ye rfl (bP (n:=1) (fun _=>rfl) _) Yk Yd Yo rfl bDY (fun v1 ν1 M=>aI ((wb,qC (dO s pv cv hv lv mv bl bc yc yq) 343)::ν1) (aZA _) ?_);have Y:bS 3 1 v1 (s.row.places.length+1) ((s.row.places++[2]).flatMap cI) ν1:=by rw[aZS,bAJ];exact M
 refine Zaj rfl<|Zh rfl aX rfl<|Zh rfl dC rfl<|Zh rfl eB rfl<|bG (ws:=(dO s v1 cv hv lv mv bl bc yc yq)) rfl rfl rfl M.cells1 qX .head Ye rfl M.cell1 bDY<|Zah ?_;refine fun a w hh=>kF (P:=prog) (fn:=f266) (A:=[]) (ν':=((wb,_)::ν1)) (B:=[]) (vs:=[]) rfl rfl rfl bDY (fun D' hD=>⟨R,v1,ν1,rfl,Y⟩) a w (hh.boxesEq (aZA _).symm)
theorem aCH(wb:Nat)(s:aN)(pv cv hv lv mv bl bc yc yq nv:Value)(a:Int)(ν:aD)(D:aC)(hn:Sl D RI 1 nv [a])(ha:bS 3 1 lv s.table.levels.length (s.table.levels.flatMap cI) ν)(hsm:s.table.levels.length≤100):lH prog 275 [qP wb,nv] D ((wb,qC (dO s pv cv hv lv mv bl bc yc yq) 343)::ν) (fun _ _ ν'=>(a≤99∧(s.table.levels.length:Int)<6)∧∃v1 ν1,ν'=(wb,qC (dO s pv cv hv v1 mv bl bc yc yq) 343)::ν1∧bS 3 1 v1 (s.table.levels.length+1) ((s.table.levels++[a]).flatMap cI) ν1) (fun v=>(99<a∧v=fD 2)∨(a≤99∧6≤(s.table.levels.length:Int)∧v=fD 3)):=by
 obtain⟨bt,ot,ct,rfl⟩:=kK hn Ye;have hbt:=nL hn;refine eQ 32 func275 rfl rfl rfl rfl (fun h0 hwl hwn=>aA<|Za rfl<|cW rfl hn<|Ze [(_,_)] ν [] rfl (Or.inr Yi) (fun D5 R=>tQ a 99 _) (fun v5 D6 R I=>cJ (P:=prog) (fn:=f275) rfl (aZE ⟨I.1,I.2⟩)) (fun v5 D6 ν5 R I=>?_));obtain⟨U,rfl⟩:=I;refine aL<|Za rfl<|Zaj rfl<|Zh rfl aX rfl<|Zh rfl bN rfl<|Zh rfl gR rfl<|Zm rfl dN rfl Mm0 rfl<|fJ rfl U25 rfl ha rfl rfl bDY<|Ze [(_,_)] ν [] rfl (Or.inr Yi) (fun D7 V=>xH (s.table.levels.length:Int) 6 _) (fun v7 D8 V M=>cJ (P:=prog) (fn:=f275) rfl (aYZ ⟨U,M.1,M.2⟩)) (fun v7 D8 ν7 V M=>?_);obtain⟨Y,rfl⟩:=M;refine aF<|lA hbt Ye (fun hap=>zB (fun hnd=>?_));have hnu:=mW hap hnd;have hwbo:wb∉gN.mk [bt,wb]:=gN.out Ye;have hbto:bt∉gN.mk [bt,wb]:=gN.out Ye;refine cO (gN.mk [bt,wb]) 4 17 4094<|Za rfl<|Za rfl<|Zaj rfl<|Zh rfl aX rfl<|Zh rfl bN rfl<|Zh rfl gR rfl<|bZ rfl dN rfl Mm0 rfl Yn rfl bDY<|Za rfl<|cW rfl hn<|Zp rfl U25 aM dS rfl (.cons rfl rfl .nil) (fun hF hH Z G=>?_);have hB:=Sl.ofInts (l:=[_]) (n:=1) (cap:=1) G rfl Yd Yd;refine aI ((wb,qC (dO s pv cv hv lv mv bl bc yc yq) 343)::ν) rfl<|aI ((wb,qC (dO s pv cv hv lv mv bl bc yc yq) 343)::ν++[]) (aZA _).symm<|bB (A:=[(wb,qC (dO s pv cv hv lv mv bl bc yc yq) 343)]) (B:=[]) rfl U25 rfl rfl aM dS rfl oD rfl rfl rfl ha (mI.lit G) Ye rfl (bP (n:=1) (fun _=>rfl) _) Yk Yd Yo rfl bDY (fun v1 ν1 O=>aI ((wb,qC (dO s pv cv hv lv mv bl bc yc yq) 343)::ν1) (aZA _) ?_);have hE:bS 3 1 v1 (s.table.levels.length+1) ((s.table.levels++[a]).flatMap cI) ν1:=by rw[aZS,bAJ];exact O
 refine Zaj rfl<|Zh rfl aX rfl<|Zh rfl bN rfl<|Zh rfl gR rfl<|bG (ws:=(dO s pv cv hv v1 mv bl bc yc yq)) rfl rfl rfl O.cells1 qX .head Ye rfl O.cell1 bDY<|Zah ?_;refine fun a w hh=>kF (P:=prog) (fn:=f275) (A:=[]) (ν':=((wb,_)::ν1)) (B:=[]) (vs:=[]) rfl rfl rfl bDY (fun D' hD=>⟨⟨U,Y⟩,v1,ν1,rfl,hE⟩) a w (hh.boxesEq (aZA _).symm)
end L12
end Go.Fs
