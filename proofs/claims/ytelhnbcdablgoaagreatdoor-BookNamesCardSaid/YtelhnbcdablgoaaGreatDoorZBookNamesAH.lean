/- Of the proof of BookNames: SW10, SW11, SW12, SW13, V30, V31, SW14, BW2, BW3, BW4, BW5, BW6, BW7. -/
import Derived.Test.YtelhnbcdablgoaaGreatDoorZBookNamesAG
import Derived.Test.YtelhnbcdablgoaaGreatDoorZBookNamesAE
import Derived.Test.YtelhnbcdablgoaaGreatDoorZBookNamesAD
import Derived.Test.YtelhnbcdablgoaaGreatDoorZBookNamesAF
namespace Go.Fs
open Go.Proofs Tryz
namespace L7
open C7
def H6(s:Sc):List Int:=(s.whole:Int)::(s.broken:Int)::s.fits.map fun n:Nat=>(n:Int)
theorem rH(s:Sc)(h:s.fits.length=7):(H6 s).length=9:=by simp[H6,h]
theorem aHU(s:Sc):QM s=.agg (ints (H6 s)).toArray:=by
 unfold QM g9 H6 ints;rw[aYN,aYN,List.map_map];rfl
theorem aKJ{s s':Sc}(h:H6 s=H6 s'):s=s':=by
 obtain⟨a,b,c⟩:=s;obtain⟨a',b',c'⟩:=s';simp only[H6,aZS]at h;obtain⟨h1,h2,h3⟩:=h;rw[V0 h3,show a=a' by omega,show b=b' by omega]
def J7(acc:List (Sc×Nat)):List Int:=match acc.getLast? with
 |some p=>H6 p.1
 |none=>[]
def qR(y:bQ)(out:List Int)(acc:List (Sc×Nat))(t:List Pt):List (Sc×Nat):=
 if(qF y.claims out (tQ y.chairs.length (eM y t):Int)&&(decide ((acc.length:Int)=0)|| !(J7 acc==H6 (eM y t))))=true then acc++[(eM y t,tQ y.chairs.length (eM y t))]else acc
def iG(y:bQ)(out:List Int)(pre:List (List Int)):List (Sc×Nat):=(pre.map F0).foldl (qR y out) []
def fZ(y:bQ)(out:List Int):List (Sc×Nat):=(HB y).foldl (qR y out) []
theorem S6(y:bQ)(out:List Int):iG y out (C1.dQ (jQ y.chairs))=fZ y out:=rfl
theorem m1(y:bQ)(out:List Int)(pre:List (List Int))(x:List Int):iG y out (pre++[x])=qR y out (iG y out pre) (F0 x):=by
 unfold iG;rw[aYE,aZM];rfl
theorem ZK(y:bQ)(out:List Int)(acc:List (Sc×Nat))(t:List Pt):(qR y out acc t).length≤acc.length+1:=by
 unfold qR;split
 ·simp
 ·omega
theorem CD(y:bQ)(out:List Int)(pre:List (List Int)):(iG y out pre).length≤pre.length:=by
 have key:∀(l:List (List Pt)) (acc:List (Sc×Nat)),(l.foldl (qR y out) acc).length≤acc.length+l.length:=by
  intro l;induction l with
  |nil=>intro acc;simp
  |cons t l ih=>intro acc;rw[aZY];have:=ih (qR y out acc t);have:=ZK y out acc t;rw[aXY];omega
 have:=key (pre.map F0) [];simpa [iG]using this
theorem n9(y:bQ)(out:List Int)(pre:List (List Int)):∀p∈iG y out pre,p.1.fits.length=7:=by
 have key:∀(l:List (List Pt)) (acc:List (Sc×Nat)),(∀p∈acc,p.1.fits.length=7)→∀p∈l.foldl (qR y out) acc,p.1.fits.length=7:=by
  intro l;induction l with
  |nil=>intro acc h;exact h
  |cons t l ih=>
   intro acc h;rw[aZY];refine ih _ fun p hp=>?_
   unfold qR at hp;split at hp
   ·rcases aYD.1 hp with hp|hp
    ·exact h p hp
    ·simp only[aYH]at hp;subst hp;simp[eM]
   ·exact h p hp
 exact key _ [] Ye
def K5(l:List Sc):List Value:=l.flatMap fun s=>ints (H6 s)
theorem MF{l:List Sc}(h:∀s∈l,s.fits.length=7):(K5 l).length=l.length*9:=by
 induction l with
 |nil=>rfl
 |cons c l ih=>
  have:=ih fun s hs=>h s (LE _ hs)
  unfold K5 at this ⊢
  rw[aZD,GT,this,aN,rH c (h c aXW),aXY];omega
theorem AI{acc:List (Sc×Nat)}(h:∀p∈acc,p.1.fits.length=7):(K5 (acc.map fun p=>p.1)).length=acc.length*9:=by
 rw[MF fun s hs=>by obtain⟨p,hp,rfl⟩:=n4.1 hs;exact h p hp,aZL]
theorem KP{l:List Sc}(h:∀s∈l,s.fits.length=7){i:Nat}{s:Sc}(hi:l[i]?= some s)(junk:List Value):((K5 l++junk).drop (i*9)).take 9=ints (H6 s):=by
 induction l generalizing i with
 |nil=>simp at hi
 |cons d l ih=>
  have h9:(ints (H6 d)).length=9:=by rw[aN,rH d (h d aXW)]
  have hc:K5 (d::l)=ints (H6 d)++K5 l:=rfl;rw[hc,aYA];cases i with
  |zero=>
   obtain rfl:d=s:=by simpa using hi
   rw[bBS,bBF,aZA Yd,aYO Yd]
  |succ i=>
   rw[bBO,aYV Yd,aYT,show(i+1)*9-(ints (H6 d)).length=i*9 by omega];exact ih (fun s hs=>h s (LE _ hs)) Yap
def NH:Rd Sc:=fun _ s cs=>cs=ints (H6 s)
theorem NH.up:NH.Up:=fun _ _ _ h=>h
theorem _root_.Go.Fs.mH.scs{D:aC}{v:Value}{n:Nat}{acc:List (Sc×Nat)}(hF:mH D v n (K5 (acc.map fun p=>p.1)))(hn:(acc.map fun p=>p.1).length=n)(hb:n≤9223372036854775807)(h:∀p∈acc,p.1.fits.length=7:=by assumption):Sl D NH 9 v (acc.map fun p=>p.1):=by
 have h':∀s∈acc.map (fun p=>p.1),s.fits.length=7:=fun s hs=>by obtain⟨p,hp,rfl⟩:=n4.1 hs;exact h p hp
 exact hF.sl hn hb fun i s hi=>⟨_,rfl,by rw[aN,rH s (h' s (LT hi))],by have:=KP h' hi [];rwa [aXS]at this⟩
theorem DV{acc:List (Sc×Nat)}(h:∀p∈acc,p.1.fits.length=7)(hne:acc≠[]):(J7 acc).length=9:=by
 unfold J7;rw[bAV hne];exact rH _ (h _ (List.getLast_mem hne))
theorem aFH{acc:List (Sc×Nat)}(h:∀p∈acc,p.1.fits.length=7)(hne:acc≠[])(junk:List Value):((K5 (acc.map fun p=>p.1)++junk).drop (0+(((acc.length:Int)-1).toNat)*9)).take 9=ints (J7 acc):=by
 have h':∀s∈acc.map (fun p=>p.1),s.fits.length=7:=fun s hs=>by obtain⟨p,hp,rfl⟩:=n4.1 hs;exact h p hp
 have hpos:=bAU.2 hne;unfold J7;rw[bAV hne,bAL];refine KP h' ?_ junk;rw[aYQ,show((acc.length:Int)-1).toNat=acc.length-1 by omega,←List.getLast?_eq_getElem?,bAV hne];rfl
theorem aSM{D:aC}{bo n:Nat}{x:List Int}(h:At D bo 0 (ints x))(hx:x.length=3*n)(hn:n≤7):Sl D RP 3 (qS bo n n) (F0 x):=by
  obtain⟨h1,h2⟩:=GR _ _ hx;have hle:n≤9223372036854775807∨True:=aXR trivial;have key:∀(l:List Pt) (i:Nat) (p:Pt),l[i]?= some p→((ints (C7.mX l)).drop (i*3)).take 3=[qI p.a,qI p.b,qI p.c]:=by
    intro l;induction l with
    |nil=>intro i p hi;simp at hi
    |cons d l ih=>
      intro i p hi;cases i with
      | zero => obtain rfl : d = p := by simpa using hi
                rfl
      |succ i=>
        rw[C7.rY,show(i+1)*3=i*3+3 by omega];exact ih i p Yap
  refine⟨_,n,by rw[h2],by omega,?_,aXR ⟨bo,0,rfl,fun i p hi=>⟨_,rfl,rfl,fun j v hj=>?_⟩⟩⟩
  · rw[h2];omega
  · have:=key _ _ _ hi;rw[h1]at this;rw[←this,List.getElem?_take]at hj;split at hj
    · rw[bAD]at hj;have:=h _ v hj;rw[show 0+i*3+j=0+(i*3+j) by omega];exact this
    · cases hj
def aPK(y:bQ)(out:List Int)(pre:List (List Int))(g:Array MapEntry×Nat×List (uJ 8×Int)×Value×aD×Value×aD):Prop:=
 vC X8 g.1 g.2.2.1∧BV y.chairs.length g.2.2.1∧bZ 319 9 g.2.2.2.1 (iG y out pre).length (K5 ((iG y out pre).map fun p=>p.1)) g.2.2.2.2.1∧bZ 3 1 g.2.2.2.2.2.1 (iG y out pre).length (ints ((iG y out pre).map fun p=>(p.2:Int))) g.2.2.2.2.2.2
theorem FQ{y:bQ}{out:List Int}{pre:List (List Int)}{x:List Int}{es:Array MapEntry}{cl:Nat}{M:List (uJ 8×Int)}{v u:Value}{ν ω:aD}(hM:vC X8 es M)(hok:BV y.chairs.length M)
  (hc:(qF y.claims out (tQ y.chairs.length (eM y (F0 x)):Int)&&(decide (((iG y out pre).length:Int)=0)|| !(J7 (iG y out pre)==H6 (eM y (F0 x)))))=true)
  (h1:bZ 319 9 v ((iG y out pre).length+1) (K5 ((iG y out pre).map fun p=>p.1)++ints (H6 (eM y (F0 x)))) ν) (h2:bZ 3 1 u ((iG y out pre).length+1) (ints ((iG y out pre).map fun p=>(p.2:Int))++[qI (tQ y.chairs.length (eM y (F0 x)):Int)]) ω):aPK y out (pre++[x]) (es,cl,M,v,ν,u,ω):=by
 have e:iG y out (pre++[x])=iG y out pre++[(eM y (F0 x),tQ y.chairs.length (eM y (F0 x)))]:=by
  rw[m1,qR,aYJ hc]
 unfold aPK;rw[e];refine⟨hM,hok,?_,?_⟩
 ·simpa [K5]using h1
 ·simpa [ints]using h2
theorem aUD{y:bQ}{out:List Int}{pre:List (List Int)}{x:List Int}{es:Array MapEntry}{cl:Nat}{M:List (uJ 8×Int)}{v u:Value}{ν ω:aD}(hM:vC X8 es M)(hok:BV y.chairs.length M)
  (hc:(qF y.claims out (tQ y.chairs.length (eM y (F0 x)):Int)&&(decide (((iG y out pre).length:Int)=0)|| !(J7 (iG y out pre)==H6 (eM y (F0 x)))))=false)
  (h1:bZ 319 9 v (iG y out pre).length (K5 ((iG y out pre).map fun p=>p.1)) ν) (h2:bZ 3 1 u (iG y out pre).length (ints ((iG y out pre).map fun p=>(p.2:Int))) ω):aPK y out (pre++[x]) (es,cl,M,v,ν,u,ω):=by
 have e:iG y out (pre++[x])=iG y out pre:=by
  rw[m1,qR,aYC (by rw[hc];simp)]
 unfold aPK;rw[e];exact⟨hM,hok,h1,h2⟩
theorem LZ{y:bQ}(h:y.chairs.length≤7):(C1.dQ (jQ y.chairs)).length≤2097152:=by
 have h1:=C1.yX (jQ y.chairs);have h2:2^(jQ y.chairs).length≤2^21:=bBI Yd (by rw[oM];omega)
 omega
theorem zF{l x:List Int}{pre r:List (List Int)}(h:C1.dQ l=pre++x::r):x.length=l.length∧(∀n∈x,0≤n∧n≤1)∧pre.length<(C1.dQ l).length:=by
 have hm:x∈C1.dQ l:=by rw[h];simp
 exact⟨(C1.rC hm).1,(C1.rC hm).2,by rw[h];simp⟩
theorem aCG{x:List Int}(h:∀n∈x,0≤n∧n≤1)(hg:C7.mX (F0 x)=x):∀p∈F0 x,EY p:=fun p hp=>by
 have:∀n∈p.l,n∈x:=fun n hn=>by rw[←hg];exact bCS.2 ⟨p,hp,hn⟩
 exact⟨h _ (this _ (by simp[Pt.l])),h _ (this _ (by simp[Pt.l])),h _ (this _ (by simp[Pt.l]))⟩
theorem aML(A ν ω T:aD):A++(ν++(ω++T))=A++(ν++ω)++T:=by simp
theorem aXN(A ν ω T:aD):A++((ν++ω)++T)=A++ν++(ω++T):=by simp
theorem aQZ{a b c d:Nat}{l:List Nat}:∀k∈[c,d],k∈a::b::c::d::l:=fun k hk=>by
 simp only[GE,n3,bAO]at hk ⊢
 rcases hk with rfl|rfl
 ·exact aXR (aXR (aYF rfl))
 ·exact aXR (aXR (aXR (aYF rfl)))
theorem aXH{A B ν ω C:aD}{k:Nat}(h:(((A++B)++(ν++(ω++C))).map fun p=>p.1).Nodup)(hk:k∈(A++B).ks):k∉ν.ks++ω.ks:=by
 rw[aYE,aYE,aYE,aXX]at h;intro hm;refine h.2.2 k (by simpa using hk) k ?_ rfl;rcases aYD.1 hm with hm|hm
 ·exact aXU _ hm
 ·rw[aYE];exact n5 _ (aXU _ hm)
theorem aDS{n:Nat}{s:Sc}(h:JI n s)(hn:n≤7):tQ n s≤200:=by
 have h1:=PH s.fits n s.broken;have h2:=FN h.bits hn;have h3:=h.whole;unfold tQ;omega
theorem aTS:KS prog 319 9:=by
 have hf:(prog.fieldsOf 319).toList=[(prog.fieldsOf 319)[0]!,(prog.fieldsOf 319)[1]!,(prog.fieldsOf 319)[2]!]:=by kernel_rfl
 refine⟨by kernel_rfl,by kernel_rfl,by kernel_rfl,?_⟩;rw[hf];refine .cons (kG.int Yaf Yf Yf) (.cons (kG.int Yaf Yf Yf) (.cons (n:=7) (kG.arr (e:=3) Yaf Yf Yf Yf Yf ?_ ?_) .nil))
 ·rw[show((prog.fieldsOf 319)[2]!).type=317 by kernel_rfl];exact Q2
 ·rw[show((prog.fieldsOf 319)[2]!).type=317 by kernel_rfl];exact xB
theorem aAD(yv tv:Value)(y:bQ)(t:List Pt)(D:aC)(hy:lM D yv y)(ht:Sl D RP 3 tv t)(hlen:t.length=y.chairs.length)(G:t.length≤7)(hb:∀p∈t,EY p)(hf:0≤y.fit∧y.fit≤9)(hs:∀c∈y.chairs,0≤c.size∧c.size≤9):Fn prog 162 #[yv,tv] D (fun _ v=>v=.agg (ints (H6 (eM y t))).toArray):=by
 rw[←aHU];exact aEL yv tv y t D hy ht hlen G hb hf hs
theorem aCS(wb mb:Nat)(cv qv:Value)(fit:Int)(chs:List Ch)(s:Sc)(G:chs.length≤7)(hs:JI chs.length s)(es:Array MapEntry)(clock:Nat)(M:List (uJ 8×Int))(D:aC)(hS:Sl D wB 4 cv chs)(hM:vC X8 es M)(hok:BV chs.length M):
  BA prog 163 [qP wb,.agg (ints (H6 s)).toArray] D [(wb,qC [cv,qI fit,qv,.map (some mb)] 311),(mb,.map es clock)] (fun _ v ν'=>v=qI (tQ chs.length s:Int)∧∃es' clock' M',ν'=[(wb,qC [cv,qI fit,qv,.map (some mb)] 311),(mb,.map es' clock')]∧vC X8 es' M'∧BV chs.length M'):=by
 rw[←aHU];exact aKQ wb mb cv qv fit chs s G hs es clock M D hS hM hok
theorem DB(wb mb:Nat)(cv qv:Value)(y:bQ)(out:List Int)(ov:Value)(hB:y.chairs.length≤7)(hft:0≤y.fit∧y.fit≤9)(hsz:∀c∈y.chairs,0≤c.size∧c.size≤9)(hX:Array MapEntry)(clock0:Nat)(M0:List (uJ 8×Int))(D:aC)(hS:Sl D wB 4 cv y.chairs)(hq:Sl D R2 2 qv y.claims)(ho:Sl D RI 1 ov out)(hM0:vC X8 hX M0)(hok0:BV y.chairs.length M0):
  BA prog 98 [qP wb,ov] D [(wb,qC [cv,qI y.fit,qv,.map (some mb)] 311),(mb,.map hX clock0)] (fun D' v ν'=>∃sv mv,v=.tuple #[sv,mv]∧Sl D' NH 9 sv ((fZ y out).map fun p=>p.1)∧Sl D' RI 1 mv ((fZ y out).map fun p=>(p.2:Int))∧∃es' clock' M',ν'=[(wb,qC [cv,qI y.fit,qv,.map (some mb)] 311),(mb,.map es' clock')]∧vC X8 es' M'∧BV y.chairs.length M'):=by
 obtain⟨oa,oc,rfl⟩:=ho.shape;refine PM 56 func98 rfl rfl rfl rfl (fun h0 hwl hwn=>aA<|Zv rfl (fun q1 E1 hE1 hK=>Zv rfl (fun q2 E2 hE2 hB2=>Zw rfl TO rfl (fun q3=>Zw rfl aDP rfl (fun q4=>bW<|Zf 0 rfl e7 rfl hK rfl<|Zaj rfl<|Zh rfl zP rfl<|eE rfl jP iD rfl Mm2 rfl rfl n3 rfl bCV<|Zt rfl (fun D1 hY=>A7 _ y _ ⟨_,_,rfl,hS.up wB.up (hY _ Ye),hq.up R2.up (hY _ Ye)⟩ hB) (fun v1 D1 hY hp1=>?_))))));refine aG<|Zar ?_;obtain⟨br,rfl,hit⟩:=hp1;refine GK (γ:=Array MapEntry×Nat×List (uJ 8×Int)×Value×aD×Value×aD) (xs:=C1.dQ (jQ y.chairs)) (enc:=aOM y.chairs.length) (cells:=ints) (Dr:=D1) (aPK y out) (fun _ _ _=>False) (fun g=>(q4,qC [g.2.2.2.2.2.1] 25)::(q3,qC [g.2.2.2.1] 210)::(wb,qC [cv,qI y.fit,qv,.map (some mb)] 311)::(mb,.map g.1 g.2.1)::(g.2.2.2.2.1++g.2.2.2.2.2.2)) (hX,clock0,M0,qN,[],qN,[]) rfl rfl (fun g k hk=>LE _ (LE _ (aXU (aD.ks _) hk))) rfl hit Ye (fun _=>rfl) rfl ⟨hM0,hok0,by simpa [iG,K5]using bZ.nil,by simpa [iG,ints]using bZ.nil⟩ rfl ?_ ?_ (fun _ _ _ _ h=>h.elim)
 ·rintro pre x ⟨es,clock,M,v,ν,u,ω⟩ ⟨us,hx⟩ ⟨hM,hok,I,O⟩ l bd bo rec hh D7 hD7 hbo hst hpend;simp only at hM hok I O;obtain⟨rA,hxb,hpl⟩:=zF hx;have hcap:=LZ hB;rw[oM]at rA;have ht:=aSM hbo rA hB;obtain⟨rB,hE⟩:=GR _ _ rA;have htl:(F0 x).length=y.chairs.length:=hE;have htb:=aCG hxb rB;have hsc:=CJ htl Yd;have hpsl:=CD y out pre;have hmb:=aDS hsc hB;have G:∀p∈iG y out pre,p.1.fits.length=7:=n9 y out pre;have V:=rH (eM y (F0 x)) (by simp[eM]);refine aX<|Zj rfl<|Zae ?_;refine fun a w hhh=>wT (A:=[(_,_),(_,_),(_,_),(_,_)]++(ν++ω)) (B:=[(bd,.deferred (some []))]) (r:=rec) (l:=l) Yav hst ?_ a w hhh
  refine YE ((q4,qC [u] 25)::(q3,qC [v] 210)::(wb,qC [cv,qI y.fit,qv,.map (some mb)] 311)::(mb,.map es clock)::(ν++(ω++[(l,.loop {rec with state:=.busy}),(bd,.deferred (some []))]))) Ye<|xP (fun hnd=>?_);simp only[aYN,aYE,bBM,aZI,aXX,GE,aYD,n3,not_or]at hnd;refine Zar<|aA<|Zf 0 rfl e7 rfl hK rfl<|Zaj rfl<|Zh rfl zP rfl<|eE rfl jP iD rfl Mm2 rfl rfl n3 rfl bCV<|Za rfl<|Zc rfl (fun D2 hD2=>aAD _ _ y (F0 x) _ ⟨_,_,rfl,hS.up wB.up (hD2 _ Ye),hq.up R2.up (hD2 _ Ye)⟩ (ht.up RP.up (hD2 _ Ye)) htl Yd htb hft hsz)<|Zw rfl tO rfl (fun q5=>aV rfl rfl rfl rfl gO (by simpa using V) Yav .head (dF _) bCV<|aK<|Zf 0 rfl e7 rfl hK rfl ?_);refine bT (vs:=ints (H6 (eM y (F0 x)))) rfl qY rfl Mm0 (by rw[show(ints (H6 (eM y (F0 x)))).length=9 by simpa using V];exact gO) n3 rfl bCV<|aJ ([(_,_),(_,_),(_,_)]++[(_,_),(_,_)]++(ν++(ω++[(l,_),(bd,_)]))) rfl<|fJ (A:=[(_,_),(_,_),(_,_)]) (ν:=[(_,_),(_,_)]) (B:=ν++(ω++[(l,_),(bd,_)])) rfl rfl rfl rfl (aYF rfl) (EN (cs:=[_,_,_,_])) (fun D5 hD5=>aCS wb mb cv qv y.fit y.chairs (eM y (F0 x)) hB hsc es clock M D5 (hS.up wB.up (hD5 _ Ye)) hM hok) rfl bCV (fun v5 D6 _ hD6 hp5=>?_)
  obtain⟨rfl,R,T,M1,rfl,hN,Z⟩:=hp5;refine Zj rfl<|bR<|pR [] 7 22 319536 (fun _ _ _ h=>h)<|Zf 0 rfl e7 rfl hK rfl<|Zaj rfl<|Zh rfl zP rfl<|eE rfl jP iD rfl Mm3 rfl rfl n3 rfl bCV<|Za rfl<|Zf 0 rfl dS rfl hB2 rfl<|Zc rfl (fun D3 hD3=>AU _ y _ _ out _ ⟨_,_,rfl,hS.up wB.up (hD3 _ Ye),hq.up R2.up (hD3 _ Ye)⟩ (ho.up RI.up (hD3 _ Ye)))<|Za rfl ?_;refine' dM 14 (s:=31) (p:=45) rfl (fun rB=>?_) (fun rB=>?_) ?_;rotate_left
  ·refine Zq rfl tW rfl Mm2 rfl<|fC rfl U210 rfl I rfl rfl ⟨_,rfl,rfl⟩<|qU rfl rfl rfl rfl ⟨_,rfl,rfl⟩<|Zb rfl ?_;refine' dY 9 (s:=35) (p:=44) rfl (fun hE=>?_) (fun hE=>?_) ?_;rotate_left
   ·have hne:iG y out pre≠[]:=fun e=>by rw[e]at hE;simp at hE
    have hpos:=bAU.2 hne;obtain⟨b5,cap5,hF,rfl,hcp5,rfl,hl51,hl52⟩:=I.some hpos;refine Zq rfl tW rfl Mm2 rfl<|Zq rfl tW rfl Mm2 rfl<|kK rfl U210 rfl rfl rfl ⟨_,rfl,rfl⟩<|hU rfl rfl rfl Yg rfl ⟨_,rfl,rfl⟩<|gT rfl U210 gO rfl rfl Yd Yd rfl ⟨_,rfl,rfl⟩<|eE (vs:=K5 ((iG y out pre).map fun p=>p.1)++hF) (us:=ints (J7 (iG y out pre))) rfl qY gO rfl (aYK _ (aYK _ Mm3)) (aFH G hne hF) (by simpa using DV G hne) n3 rfl ⟨_,rfl,rfl⟩<|bT (vs:=ints (H6 (eM y (F0 x)))) rfl qY rfl Mm0 (by rw[show(ints (H6 (eM y (F0 x)))).length=9 by simpa using V];exact gO) n3 rfl ⟨_,rfl,rfl⟩<|C9 (n:=9) rfl aTS (DV G hne) V rfl rfl rfl ⟨_,rfl,rfl⟩<|g8 rfl rfl rfl rfl ⟨_,rfl,rfl⟩ ?_
    exact aR 8
   ·refine Zk rfl<|Zk rfl<|Zk rfl<|Zk rfl<|Zk rfl<|Zk rfl<|Zk rfl<|Zk rfl<|Z5 rfl rfl rfl rfl ⟨_,rfl,rfl⟩ ?_;exact aR 8
   refine Zag rfl ?_;exact aR 5
  ·refine Zk rfl<|Zk rfl<|Zk rfl<|Zk rfl<|Zk rfl<|Zk rfl<|Zk rfl<|Zk rfl<|Zk rfl<|Zk rfl<|Zk rfl<|Zk rfl ?_;refine Zk rfl<|Zah rfl ?_;exact aR 13
  refine aG<|aW rfl (fun hH=>?_) (fun hH=>?_)
  ·refine xP (fun hnd=>?_);have hq5:=aXH (A:=[_,_,_]) (B:=[_,_]) (k:=q5) hnd Mm0;have hq4:=aXH (A:=[_,_,_]) (B:=[_,_]) (k:=q4) hnd Mm1;have hq3:=aXH (A:=[_,_,_]) (B:=[_,_]) (k:=q3) hnd Mm2;refine lC (ν.ks++ω.ks) 3 [false,true,true,true,true,true,true,false,false,false] [.fork [0,1,4,5] 2 (.fork [] 3 (.fin [6]) 6 (.fin [3])) 6 (.fin [2,3]),.fin [7,8,9]] bI (fun _ _ _ h=>h) Yf<|oJ<|bL [(false,0),(true,1),(true,4),(true,5)] rfl<|cF rfl tW rfl Mm2 rfl Yn rfl bCV<|bT (vs:=ints (H6 (eM y (F0 x)))) rfl qY rfl Mm0 (by rw[show(ints (H6 (eM y (F0 x)))).length=9 by simpa using V];exact gO) hq5 rfl bCV<|cF rfl dS rfl Mm1 rfl Yn rfl bCV<|Za rfl<|Zae (dP true true rfl rfl ?_ ?_)
   ·refine Zn rfl U210 gO tO rfl (.cons rfl (by simpa using V) .nil) (fun b901 D901 hD901 Y=>?_);have hAs:=Y;refine Zae<|bL [] rfl<|Zae (dP true true rfl rfl ?_ ?_)
    ·refine aJ ([(_,_),(_,_),(_,_),(_,_),(_,_)]++ν++(ω++[(l,_),(bd,_)])) (aYA _ _ _).symm<|bE (A:=[(_,_),(_,_),(_,_),(_,_),(_,_)]) (B:=(ω++[(l,_),(bd,_)])) rfl U210 rfl rfl gO tO rfl FL rfl rfl rfl I (mK.lit hAs) Ye (by simpa using V) (AI G) (by simpa using dF _) Yd (aXR (fun p hp=>aXU _ (n4.2 ⟨p,hp,rfl⟩))) rfl bCV (fun v1x ν1x ha1x=>Zae<|aS [(true,6)] rfl<|Zn rfl U25 aL dR rfl (.cons rfl rfl .nil) (fun hO hR hI U=>?_));have hAm:=U;refine Zae<|kQ [(false,7),(false,8),(false,9)] rfl<|aJ (([(_,_),(_,_),(_,_),(_,_),(_,_)]++ν1x)++ω++[(l,_),(bd,_)]) (aYA _ _ _).symm<|bE (A:=[(_,_),(_,_),(_,_),(_,_),(_,_)]++ν1x) (B:=[(l,_),(bd,_)]) rfl U25 rfl rfl aL dR rfl nV rfl rfl rfl O (mK.lit hAm) Ye rfl Ye Yj Yd (aXR (fun p hp=>n5 _ (n4.2 ⟨p,hp,rfl⟩))) rfl bCV (fun u1x ω1x ha2x=>aJ ((q5,_)::(q4,qC [u] 25)::(q3,qC [v] 210)::(wb,qC [cv,qI y.fit,qv,.map (some mb)] 311)::(mb,.map R T)::(ν1x++(ω1x++[(l,_),(bd,_)]))) ((aYA _ _ _).trans (aYA _ _ _))<|bJ rfl rfl rfl ha1x.cells1 P8 (.tail (.tail .head)) Ye rfl ha1x.cell1 bCV<|bJ rfl rfl rfl ha2x.cells1 oQ (.tail .head) Ye rfl ha2x.cell1 bCV ?_);have hJ:aPK y out (pre++[x]) (R,T,M1,v1x,ν1x,u1x,ω1x):=FQ hN Z hH (by simpa using ha1x) (by simpa using ha2x);refine Zae<|kU<|Zat ?_;exact fun a w hh=>iA (A:=[(_,_),(_,_),(_,_),(_,_)]++(ν1x++ω1x)) (B:=[(bd,.deferred (some []))]) (R,T,M1,v1x,ν1x,u1x,ω1x) hJ rfl rfl a w ((hh.dropBoxes 1).boxesEq (aML [_,_,_,_] ν1x ω1x [_,_]))
    ·refine Zn rfl U25 aL dR rfl (.cons rfl rfl .nil) (fun hO hR hI U=>?_);have hAm:=U;refine Zae<|aS [(true,3)] rfl<|aJ ([(_,_),(_,_),(_,_),(_,_),(_,_)]++ν++(ω++[(l,_),(bd,_)])) (aYA _ _ _).symm<|bE (A:=[(_,_),(_,_),(_,_),(_,_),(_,_)]) (B:=(ω++[(l,_),(bd,_)])) rfl U210 rfl rfl gO tO rfl FL rfl rfl rfl I (mK.lit hAs) Ye (by simpa using V) (AI G) (by simpa using dF _) Yd (aXR (fun p hp=>aXU _ (n4.2 ⟨p,hp,rfl⟩))) rfl bCV (fun v1x ν1x ha1x=>Zae<|kQ [(false,7),(false,8),(false,9)] rfl<|aJ (([(_,_),(_,_),(_,_),(_,_),(_,_)]++ν1x)++ω++[(l,_),(bd,_)]) (aYA _ _ _).symm<|bE (A:=[(_,_),(_,_),(_,_),(_,_),(_,_)]++ν1x) (B:=[(l,_),(bd,_)]) rfl U25 rfl rfl aL dR rfl nV rfl rfl rfl O (mK.lit hAm) Ye rfl Ye Yj Yd (aXR (fun p hp=>n5 _ (n4.2 ⟨p,hp,rfl⟩))) rfl bCV (fun u1x ω1x ha2x=>aJ ((q5,_)::(q4,qC [u] 25)::(q3,qC [v] 210)::(wb,qC [cv,qI y.fit,qv,.map (some mb)] 311)::(mb,.map R T)::(ν1x++(ω1x++[(l,_),(bd,_)]))) ((aYA _ _ _).trans (aYA _ _ _))<|bJ rfl rfl rfl ha1x.cells1 P8 (.tail (.tail .head)) Ye rfl ha1x.cell1 bCV<|bJ rfl rfl rfl ha2x.cells1 oQ (.tail .head) Ye rfl ha2x.cell1 bCV ?_));have hJ:aPK y out (pre++[x]) (R,T,M1,v1x,ν1x,u1x,ω1x):=FQ hN Z hH (by simpa using ha1x) (by simpa using ha2x);refine Zae<|kU<|Zat ?_;exact fun a w hh=>iA (A:=[(_,_),(_,_),(_,_),(_,_)]++(ν1x++ω1x)) (B:=[(bd,.deferred (some []))]) (R,T,M1,v1x,ν1x,u1x,ω1x) hJ rfl rfl a w ((hh.dropBoxes 1).boxesEq (aML [_,_,_,_] ν1x ω1x [_,_]))
   ·refine Zn rfl U25 aL dR rfl (.cons rfl rfl .nil) (fun b901 D901 hD901 Y=>?_);have hAm:=Y;refine Zae<|aS [(true,2),(true,3)] rfl<|Zn rfl U210 gO tO rfl (.cons rfl (by simpa using V) .nil) (fun hO hR hI U=>?_);have hAs:=U;refine aJ ([(_,_),(_,_),(_,_),(_,_),(_,_)]++ν++(ω++[(l,_),(bd,_)])) (aYA _ _ _).symm<|bE (A:=[(_,_),(_,_),(_,_),(_,_),(_,_)]) (B:=(ω++[(l,_),(bd,_)])) rfl U210 rfl rfl gO tO rfl FL rfl rfl rfl I (mK.lit hAs) Ye (by simpa using V) (AI G) (by simpa using dF _) Yd (aXR (fun p hp=>aXU _ (n4.2 ⟨p,hp,rfl⟩))) rfl bCV (fun v1x ν1x ha1x=>Zae<|kQ [(false,7),(false,8),(false,9)] rfl<|aJ (([(_,_),(_,_),(_,_),(_,_),(_,_)]++ν1x)++ω++[(l,_),(bd,_)]) (aYA _ _ _).symm<|bE (A:=[(_,_),(_,_),(_,_),(_,_),(_,_)]++ν1x) (B:=[(l,_),(bd,_)]) rfl U25 rfl rfl aL dR rfl nV rfl rfl rfl O (mK.lit hAm) Ye rfl Ye Yj Yd (aXR (fun p hp=>n5 _ (n4.2 ⟨p,hp,rfl⟩))) rfl bCV (fun u1x ω1x ha2x=>aJ ((q5,_)::(q4,qC [u] 25)::(q3,qC [v] 210)::(wb,qC [cv,qI y.fit,qv,.map (some mb)] 311)::(mb,.map R T)::(ν1x++(ω1x++[(l,_),(bd,_)]))) ((aYA _ _ _).trans (aYA _ _ _))<|bJ rfl rfl rfl ha1x.cells1 P8 (.tail (.tail .head)) Ye rfl ha1x.cell1 bCV<|bJ rfl rfl rfl ha2x.cells1 oQ (.tail .head) Ye rfl ha2x.cell1 bCV ?_));have hJ:aPK y out (pre++[x]) (R,T,M1,v1x,ν1x,u1x,ω1x):=FQ hN Z hH (by simpa using ha1x) (by simpa using ha2x);refine Zae<|kU<|Zat ?_;exact fun a w hh=>iA (A:=[(_,_),(_,_),(_,_),(_,_)]++(ν1x++ω1x)) (B:=[(bd,.deferred (some []))]) (R,T,M1,v1x,ν1x,u1x,ω1x) hJ rfl rfl a w ((hh.dropBoxes 1).boxesEq (aML [_,_,_,_] ν1x ω1x [_,_]))
  ·have hI0:aPK y out (pre++[x]) (R,T,M1,v,ν,u,ω):=aUD hN Z hH I O;refine cB<|Zat ?_;exact fun a w hh=>iA (A:=[(_,_),(_,_),(_,_),(_,_)]++(ν++ω)) (B:=[(bd,.deferred (some []))]) (R,T,M1,v,ν,u,ω) hI0 rfl rfl a w ((hh.dropBoxes 1).boxesEq (aML [_,_,_,_] ν ω [_,_]))
 ·rintro⟨es,clock,M,v,ν,u,ω⟩ bd ⟨hM,hok,I,O⟩;simp only at hM hok I O;rw[S6]at I O;have G:∀p∈fZ y out,p.1.fits.length=7:=by rw[←S6];exact n9 y out _
  have hsl:(fZ y out).length≤2097152:=by rw[←S6];have:=CD y out (C1.dQ (jQ y.chairs));have:=LZ hB;omega
  refine zN ((q4,qC [u] 25)::(q3,qC [v] 210)::(wb,qC [cv,qI y.fit,qv,.map (some mb)] 311)::(mb,.map es clock)::((ν++ω)++[(bd,.deferred (some []))])) rfl<|Zat<|Zap<|aO<|pR [] 1 4 6 (fun _ _ _ h=>h)<|Zp rfl tW rfl Mm1 rfl<|Zp rfl dS rfl Mm0 rfl<|o6 rfl rfl rfl I.cells1 P8 (.tail .head) Ye rfl I.cell1 bCV<|bJ rfl rfl rfl O.cells1 oQ .head Ye rfl O.cell1 bCV<|aH<|zN ([(_,_),(_,_),(_,_),(_,_)]++ν++(ω++[(bd,_)])) (aXN [_,_,_,_] ν ω [_])<|EQ (A:=[(_,_),(_,_),(_,_),(_,_)]) (B:=ω++[(bd,_)]) I aQZ (fun D8 hD8 hF8=>?_);refine zN ([(_,_),(_,_),(_,_),(_,_)]++ω++[(bd,_)]) (aYA _ _ _).symm<|EQ (A:=[(_,_),(_,_),(_,_),(_,_)]) (B:=[(bd,_)]) O aQZ (fun D9 hD9 hF9=>?_);exact JV (A:=[(_,_),(_,_)]) (ν':=[(_,_),(_,_)]) (B:=[]) (vs:=[_,_]) rfl rfl rfl ⟨⟨_,_,_,rfl,Mm1,aYF ⟨tW,rfl⟩⟩,⟨_,_,_,rfl,bBU _,aYF ⟨dS,rfl⟩⟩,bCV⟩ rfl (fun D hD=>⟨v,u,rfl,(hF8.scs Ye Yd).up NH.up ((hD9 _ Ye).trans (hD _ Ye)),(hF9.ints Ye Yd).up RI.up (hD _ Ye),es,clock,M,rfl,hM,hok⟩)
end L7
namespace L7
open C7
def kZ(s:Sc)(l:List (Int×Int)):Nat:=s.whole+(l.filter fun p=>fB s.fits p.1.toNat p.2.toNat).length
def XV(l:List (Int×Int)):Prop:=∀p∈l,∃x z:Nat,p=((x:Int),(z:Int))∧x<7∧z<7
theorem aGQ(s:Sc)(l:List (Int×Int)):kZ s l≤s.whole+l.length:=by
 have:=bAS (fun p:Int×Int=>fB s.fits p.1.toNat p.2.toNat) l;unfold kZ;omega
theorem OT{s:Sc}{l:List (Int×Int)}{k x z:Nat}(h:l[k]?= some ((x:Int),(z:Int))):((kZ s (l.take (k+1)):Nat):Int)=(kZ s (l.take k):Int)+((((s.fits.getD x 0) >>> z:Nat):Int)%2):=by
 rw[nK];unfold kZ;rw[aYG,h,aZH,bAQ,GT];have:([((x:Int),(z:Int))].filter fun p:Int×Int=>fB s.fits p.1.toNat p.2.toNat).length=if(s.fits.getD x 0).testBit z=true then 1 else 0:=by
  show(List.filter (fun p:Int×Int=>(s.fits.getD p.1.toNat 0).testBit p.2.toNat) [((x:Int),(z:Int))]).length=_;rw[bBJ];simp only[aZN];split<;>rfl
 rw[this];split<;>omega
theorem aHJ{a b:Nat}(ha:a<128)(hb:b<128):a|||b<128:=Nat.or_lt_two_pow (n:=7) ha hb
theorem aAC(w b:Nat)(a0 I a2 a3 a4 a5 M:Nat)(lv:Value)(l:List (Int×Int))(D:aC)(_hF:∀f∈[a0,I,a2,a3,a4,a5,M],f<128)(hw:w≤7)(hl:Sl D R2 2 lv l)(hp:XV l)(hlen:l.length≤1000):Fn prog 166 #[.agg #[qI (w:Int),qI (b:Int),qI (a0:Int),qI (I:Int),qI (a2:Int),qI (a3:Int),qI (a4:Int),qI (a5:Int),qI (M:Int)],lv] D (fun _ v=>v=qI (kZ ⟨w,b,[a0,I,a2,a3,a4,a5,M]⟩ l:Int)):=by
 have hll:=hl.len;refine enter 29 func166 rfl rfl rfl rfl fun h0=>aA<|Zv rfl (fun q1 E1 hB O=>Zj rfl<|aK<|Zh rfl A6 rfl<|Zf 0 rfl aI rfl O rfl<|Zj rfl<|bW<|Za rfl<|Zab rfl U136 rfl hl rfl<|Za rfl ?_);refine aG<|Zar<|bP (γ:=Nat) (fun k=>l.length-k) (fun k=>k≤l.length) (fun k=>[(12,qI (k:Int)),(5,qI (kZ ⟨w,b,[a0,I,a2,a3,a4,a5,M]⟩ (l.take k):Int))]) [(11,_),(10,_),(4,_),(2,_)] (fun k=>[E1,D]) 0 Yd ⟨Yb,(by simp[kZ];rfl),bCV⟩ bA (aE) ?_
 rintro k h1;refine aA<|Zai rfl<|bR<|Zz rfl (fun R=>?_) (fun R=>?_)
 ·have hk:k<l.length:=by omega
  obtain⟨p,G⟩:=dX l k;obtain⟨x,z,rfl,T,hE⟩:=hp p (LT G);have hml:=aGQ ⟨w,b,[a0,I,a2,a3,a4,a5,M]⟩ (l.take k);have htl:(l.take k).length≤k:=bCF _ _;simp only at hml;refine aZ<|aO<|Zar<|aA<|Zx rfl U136 rD rfl hl rfl G (fun b1 o1 U V Z Y=>?_);obtain rfl:U=[qI _,qI _]:=V;refine Zs rfl aMN rfl Y rD<|Zw rfl tG rfl (fun q2=>Zu rfl rD (bO.head)<|aG<|bM [] 6 12 1022<|Za rfl<|Zh rfl YN rfl<|Zp rfl aI rfl Mm0 rfl<|Zh rfl zT rfl<|eZ rfl U317 aL rfl rfl Yd Yd rfl bCV<|dT (o:=0+1+1) (k:=x*1) rfl aI rfl O.tail.tail Ye (aGS a0 I a2 a3 a4 a5 M T) n3 rfl bCV<|Zh rfl aAL rfl ?_);refine Zp rfl aI rfl Mm0 rfl<|u0 rfl rfl rfl Yd rfl bCV<|uU rfl rfl rfl (Int.natCast_nonneg _) Yd (by rw[nK];split<;>simp only[xO]<;>omega) rfl bCV<|B4 rfl rfl rfl (by rw[nK];simp only[xO];split<;>omega) rfl bCV<|Zj rfl<|Zae<|Zat<|Zap<|aX<|Zaa rfl<|Za rfl<|Zae ?_
  exact aM 20 (k+1) Yd Yd ⟨Yb,(by rw[OT G];rfl),bCV⟩ rfl rfl (aYR _ Mm5) (aE)
 ·obtain rfl:k=l.length:=by omega
  rw[aZB];refine aT<|Zaq<|Zaq<|Zau<|Zap<|aA<|Za rfl<|Zj rfl<|aH ?_;exact aF rfl (fun D hD=>rfl)
theorem MG(s:Sc)(lv:Value)(l:List (Int×Int))(hs:∀f∈s.fits,f<128)(hw:s.whole≤7)(hp:XV l)(hlen:l.length≤1000)(D:aC)(hl:Sl D R2 2 lv l)(G:s.fits.length=7):Fn prog 166 #[.agg (ints (H6 s)).toArray,lv] D (fun _ v=>v=qI (kZ s l:Int)):=by
 obtain⟨w,b,F⟩:=s;obtain⟨a0,I,a2,a3,a4,a5,M,rfl⟩:=aQY G;exact aAC w b a0 I a2 a3 a4 a5 M lv l D hs hw hl hp hlen
end L7
namespace L7
open C7
def gC(y:bQ):(Int×Int)×Int:=if bB y≠0 then((0,0),bB y)else match(fZ y []).map fun p=>(p.2:Int)with
 | []=>((0,0),11)
 |m::l=>((m::l).foldl (fun r n=>(min r.1 n,max r.2 n)) (m,m),0)
theorem NV{y:bQ}(h:bB y=0)(hn:fZ y []=[]):Value.tuple #[.agg #[qI 0,qI 0],qI 11]=.tuple #[lJ (gC y).1,qI (gC y).2]:=by
 rw[gC,aYC Yd,hn];rfl
theorem Y4{y:bQ}{L:List Int}{m0:Int}(h:bB y=0)(hL:((fZ y []).map fun p=>(p.2:Int))=L)(hm:L[0]?= some m0):Value.tuple #[.agg #[qI (L.foldl (fun r n=>(min r.1 n,max r.2 n)) (m0,m0)).1,qI (L.foldl (fun r n=>(min r.1 n,max r.2 n)) (m0,m0)).2],qI 0]=.tuple #[lJ (gC y).1,qI (gC y).2]:=by
  rw[gC,aYC Yd,hL];cases L with
  |nil=>simp at hm
  | cons m l => obtain rfl : m = m0 := by simpa using hm
                rfl
theorem KW{L:List Int}{k:Nat}{n m0:Int}(h:L[k]?= some n):(L.take (k+1)).foldl (fun r n=>(min r.1 n,max r.2 n)) (m0,m0)=(min ((L.take k).foldl (fun r n=>(min r.1 n,max r.2 n)) (m0,m0)).1 n,max ((L.take k).foldl (fun r n=>(min r.1 n,max r.2 n)) (m0,m0)).2 n):=by
 rw[aYG,h,aZH,aZM];rfl
theorem vA(yv:Value)(y:bQ)(D:aC)(hy:lM D yv y):Fn prog 51 #[yv] D (fun _ v=>v=.tuple #[lJ (gC y).1,qI (gC y).2]):=by
 have Z:=hy;obtain⟨cv,qv,rfl,hc,hq⟩:=hy;refine enter 48 func51 rfl rfl rfl rfl fun h0=>aA<|Zv rfl (fun q1 E1 hO R=>Zw rfl jL rfl (fun q2=>Zj rfl<|bW<|Zs rfl jP rfl R iD<|Zc rfl (fun D1 hB=>xE _ y _ (Z.up (hB _ Ye)))<|Zj rfl<|aK<|Za rfl<|Zam rfl ?_));refine aG<|Zz rfl (fun T=>?_) (fun T=>?_)
 ·refine aA<|Zo [qI 0,qI 0] rfl P9 jL rfl<|Za rfl<|Zu rfl cD (bO.head)<|Zj rfl<|aH<|Zas ?_;exact Zl [_,_] rfl ⟨⟨_,_,_,rfl,Mm0,Or.inr ⟨kL,(by first|exact cD|(simp only[aYU,aN, *];exact cD)),rfl⟩⟩,rfl,bCV⟩ (fun D hD=>by show Value.tuple _=_;rw[gC,aYJ T];rfl)
 ·have I:bB y=0:=by omega
  have hyo:=aXQ I;have hR:=hyo.len;refine aZ<|aA<|Zs rfl jP rfl R iD<|fM (μ:=_) rfl rfl rfl (fun D5 hS=>c8 _ y _ _ D5 rfl) rfl bCV (fun v5 D6 _ hX hE=>?_);obtain⟨wb,mb,rfl,rfl⟩:=hE;refine aJ ([]++[(_,_),(_,_)]++([(_,_)])) rfl<|fJ (A:=[]) (ν:=[(_,_),(_,_)]) (B:=[(_,_)]) rfl rfl rfl rfl (aYF rfl) (EN (cs:=[_,_,_,_])) (fun D7 U=>DB wb mb _ _ y [] _ Yd hyo.fit hyo.size #[] 0 [] _ (hc.up wB.up (U _ Ye)) (hq.up R2.up (U _ Ye)) Sl.nil rfl BV.nil) rfl bCV (fun v7 D8 _ hY hF=>?_);obtain⟨sv,mv,rfl,hsv,hmv,V,Y,M1,rfl,rA,hM⟩:=hF;refine Za rfl<|Zad rfl<|Zad rfl<|Zj rfl<|Zj rfl<|bW<|Za rfl<|Zab rfl U25 rfl hmv rfl<|Zan rfl<|aG<|Zz rfl (fun hc2=>?_) (fun hc2=>?_)
  ·have hnil:fZ y []=[]:=by simpa using hc2
   refine aA<|Zo [qI 0,qI 0] rfl P9 jL rfl<|Zu rfl cD (.tail (.tail (bO.head)))<|Zj rfl<|aH<|Zas ?_;exact Zl [_,_] rfl ⟨⟨_,_,_,rfl,Mm2,Or.inr ⟨kL,(by first|exact cD|(simp only[aYU,aN, *];exact cD)),rfl⟩⟩,rfl,bCV⟩ (fun D hD=>NV I hnil)
  ·generalize hL:((fZ y []).map fun p=>(p.2:Int))=ms at hmv hc2 ⊢
   have hml:=hmv.len;have hne:ms≠[]:=fun e=>hc2 (by rw[e];rfl)
   obtain⟨m0,M⟩:∃m,ms[0]?= some m:=⟨ms[0]'(bAU.2 hne),aXT _⟩
   refine aZ<|aO<|lC [] 3 [false,false,false,true,true,true,false,true,true,true,false,false] [.fork [0,1,2,3,4,5,6,7] 8 (.fin [9]) 9 (.fin [8]),.fin [10,11]] bI (fun _ _ _ h=>iO (P:=prog) (fn:=f51) _ _ _ h) Yf<|oJ<|bL [(false,0),(false,1),(false,2),(true,3),(true,4),(true,5),(false,6),(true,7)] rfl<|Za rfl<|lH rfl hmv rfl M (fun b1 o1=>Za rfl<|lH rfl hmv rfl M (fun b2 o2=>Zo [qI m0,qI m0] rfl P9 jL rfl<|Zo [.func (.func 99) #[] #[]] rfl aQJ FO rfl<|Zae (dP true true rfl rfl ?_ ?_)))
   ·refine Zw rfl jL rfl (fun q3=>Zae<|aS [(true,9)] rfl<|Zw rfl FO rfl (fun q4=>Zae<|kQ [(false,10),(false,11)] rfl<|Zu rfl cD (.tail (bO.head))<|Zu rfl TV (bO.head)<|Zae<|kU<|Zap<|dV ?_));refine Za rfl<|Zab rfl U25 rfl hmv rfl<|Za rfl<|aG<|Zar<|dB (γ:=Nat) (fun k=>ms.length-k) (fun k=>k≤ms.length) (fun k=>[(37,qI (k:Int))]) [(36,_),(35,_),(8,_),(7,_),(3,_),(2,_)] (fun k=>(q4,qC [.func (.func 99) #[] #[]] 218)::(q3,qC [qI (List.foldl (fun r n=>(min r.1 n,max r.2 n)) (m0,m0) (ms.take k)).1,qI (List.foldl (fun r n=>(min r.1 n,max r.2 n)) (m0,m0) (ms.take k)).2] 133)::(wb,qC [cv,qI y.fit,qv,.map (some mb)] 311)::(mb,.map V Y)::[(q2,qC [qI 0,qI 0] 133)]) (fun k=>[D8,D6,E1,D]) 0 Yd ⟨Yb,bCV⟩ bA Mm5 (aE) ?_;rintro k h1;refine aA<|Zai rfl<|bR<|Zz rfl (fun O=>?_) (fun O=>?_)
    ·have hk:k<ms.length:=by omega
     obtain⟨n,G⟩:=dX ms k;have hst:=KW (m0:=m0) G;refine aZ<|aO<|Zar<|aA<|Zx rfl U25 aL rfl hmv rfl G (fun b3 o3 hH hI hN hJ=>?_);obtain rfl:hH=[qI _]:=hI;refine Zf 0 rfl aI rfl hJ rfl<|Zj rfl<|aG<|aX<|Zh rfl CI rfl<|Zp rfl VZ rfl Mm0 rfl<|Zy rfl kL rfl Mm1 cD<|Za rfl<|Zc rfl (fun D2 hK=>sM (List.foldl (fun r n=>(min r.1 n,max r.2 n)) (m0,m0) (ms.take k)) n _)<|Zu rfl cD (.tail (bO.head))<|Zae<|Zat ?_;refine Zap<|aX<|Zaa rfl<|Za rfl<|Zae ?_;rw[←hst];exact aM 12 (k+1) Yd Yd ⟨Yb,bCV⟩ rfl rfl Mm5 (aE)
    ·obtain rfl:k=ms.length:=by omega
     rw[aZB];refine aT<|Zaq<|Zaq<|Zau<|Zap<|aA<|Zy rfl kL rfl Mm1 cD<|Zu rfl cD (.tail (.tail (.tail (.tail (bO.head)))))<|Zj rfl<|aH ?_;exact Zl [_,_] rfl ⟨⟨_,_,_,rfl,(List.Mem.tail _ Mm3),Or.inr ⟨kL,(by first|exact cD|(simp only[aYU,aN, *];exact cD)),rfl⟩⟩,rfl,bCV⟩ (fun D hD=>Y4 I hL M)
   ·refine Zw rfl FO rfl (fun q3=>Zae<|aS [(true,8)] rfl<|Zw rfl jL rfl (fun q4=>Zae<|kQ [(false,10),(false,11)] rfl<|Zu rfl cD (bO.head)<|Zu rfl TV (.tail (bO.head))<|Zae<|kU<|Zap<|dV ?_));refine Za rfl<|Zab rfl U25 rfl hmv rfl<|Za rfl<|aG<|Zar<|dB (γ:=Nat) (fun k=>ms.length-k) (fun k=>k≤ms.length) (fun k=>[(37,qI (k:Int))]) [(36,_),(35,_),(7,_),(8,_),(3,_),(2,_)] (fun k=>(q4,qC [qI (List.foldl (fun r n=>(min r.1 n,max r.2 n)) (m0,m0) (ms.take k)).1,qI (List.foldl (fun r n=>(min r.1 n,max r.2 n)) (m0,m0) (ms.take k)).2] 133)::(q3,qC [.func (.func 99) #[] #[]] 218)::(wb,qC [cv,qI y.fit,qv,.map (some mb)] 311)::(mb,.map V Y)::[(q2,qC [qI 0,qI 0] 133)]) (fun k=>[D8,D6,E1,D]) 0 Yd ⟨Yb,bCV⟩ bA Mm5 (aE) ?_;rintro k h1;refine aA<|Zai rfl<|bR<|Zz rfl (fun O=>?_) (fun O=>?_)
    ·have hk:k<ms.length:=by omega
     obtain⟨n,G⟩:=dX ms k;have hst:=KW (m0:=m0) G;refine aZ<|aO<|Zar<|aA<|lH rfl hmv rfl G (fun b3 o3=>Zj rfl<|aG<|aX<|Zh rfl CI rfl<|Zp rfl VZ rfl Mm1 rfl<|Zy rfl kL rfl Mm0 cD<|Za rfl ?_);refine Zc rfl (fun D2 hK=>sM (List.foldl (fun r n=>(min r.1 n,max r.2 n)) (m0,m0) (ms.take k)) n _)<|Zu rfl cD (bO.head)<|Zae<|Zat<|Zap<|aX<|Zaa rfl<|Za rfl<|Zae ?_;rw[←hst];exact aM 12 (k+1) Yd Yd ⟨Yb,bCV⟩ rfl rfl Mm5 (aE)
    ·obtain rfl:k=ms.length:=by omega
     rw[aZB];refine aT<|Zaq<|Zaq<|Zau<|Zap<|aA<|Zy rfl kL rfl Mm0 cD<|Zu rfl cD (.tail (.tail (.tail (.tail (bO.head)))))<|Zj rfl<|aH ?_;exact Zl [_,_] rfl ⟨⟨_,_,_,rfl,(List.Mem.tail _ Mm3),Or.inr ⟨kL,(by first|exact cD|(simp only[aYU,aN, *];exact cD)),rfl⟩⟩,rfl,bCV⟩ (fun D hD=>Y4 I hL M)
end L7
namespace L7
open C7
theorem XG(l:List (Int×Int)):∀u∈QN l,cell1 u=true:=by
 intro u hu;unfold QN at hu;rw[bCS]at hu;obtain⟨p,_,hu⟩:=hu;simp only[GE,n3,bAO]at hu;rcases hu with rfl|rfl<;>rfl
theorem FJ{G b2 t1 t2:Nat}{cs ds:List Value}:∀p∈[(G,Obj.cells cs.toArray t1 (0,0)),(b2,qC ds t2)],dD p.2:=by
 intro p hp;simp only[GE,n3,bAO]at hp;rcases hp with rfl|rfl<;>rfl
def AE(scs:List Sc)(l:List (Int×Int)):Int:=match scs with
 | []=>0
 |s::_=>(scs.map fun s=>(kZ s l:Int)).foldl min (kZ s l:Int)
theorem aBW{scs:List Sc}{l:List (Int×Int)}{G:Sc}(h:scs[0]?= some G):(scs.map fun s=>(kZ s l:Int)).foldl min (kZ G l:Int)=AE scs l:=by
  cases scs with
  |nil=>simp at h
  | cons s r => obtain rfl : s = G := by simpa using h
                rfl
theorem aAO{scs:List Sc}{l:List (Int×Int)}{k:Nat}{s:Sc}{a:Int}(h:scs[k]?= some s):((scs.take (k+1)).map fun s=>(kZ s l:Int)).foldl min a=min (((scs.take k).map fun s=>(kZ s l:Int)).foldl min a) (kZ s l:Int):=by
 rw[aYG,h,aZH,aYE,aZM];rfl
def mV(y:bQ)(a b:Nat):Bool:=match y.chairs[a]?,y.chairs[b]? with
 |some x,some z=>MM y.fit x z
 |_,_=>false
def LN(y:bQ):Nat→Nat→Nat→List (Int×Int)→List (List (Int×Int))
 |0,_,_,l=>[l]
 |k+1,f,w,l=>LN y k (f+1) w l++(if w.testBit f=true then []else((List.range y.chairs.length).filter fun b=>decide (f<b)&&(!w.testBit b&&mV y f b)).flatMap fun(b:Nat)=>LN y k (f+1) (w|||2^b) (l++[((f:Int),(b:Int))]))
def TQ(scs:List Sc)(st:List (Int×Int)×Int)(l:List (Int×Int)):List (Int×Int)×Int:=if st.2<AE scs l then(l,AE scs l)else st
theorem L5{y:bQ}{scs:List Sc}{f w:Nat}{l:List (Int×Int)}{st:List (Int×Int)×Int}:(LN y 0 f w l).foldl (TQ scs) st=TQ scs st l:=rfl
theorem UR{scs:List Sc}{l best:List (Int×Int)}{many:Int}(h:many<AE scs l):TQ scs (best,many) l=(l,AE scs l):=aYJ h
theorem aHI{scs:List Sc}{l best:List (Int×Int)}{many:Int}(h:¬many<AE scs l):TQ scs (best,many) l=(best,many):=aYC h
def sX(y:bQ)(k f w:Nat)(l:List (Int×Int))(b:Nat):List (List (Int×Int)):=if w.testBit f=true then []else((List.range b).filter fun b=>decide (f<b)&&(!w.testBit b&&mV y f b)).flatMap fun(b:Nat)=>LN y k (f+1) (w|||2^b) (l++[((f:Int),(b:Int))])
def KZ(y:bQ)(scs:List Sc)(k f w:Nat)(l best:List (Int×Int))(many:Int)(b:Nat):List (Int×Int)×Int:=(LN y k (f+1) w l++sX y k f w l b).foldl (TQ scs) (best,many)
theorem CZ{y:bQ}{scs:List Sc}{k f w:Nat}{l best:List (Int×Int)}{many:Int}:KZ y scs k f w l best many (f+1)=(LN y k (f+1) w l).foldl (TQ scs) (best,many):=by
 have:sX y k f w l (f+1)=[]:=by
  unfold sX;split
  ·rfl
  ·rw[List.filter_eq_nil_iff.2 fun b hb=>by have:=bAR.1 hb;simp;omega];rfl
 unfold KZ;rw[this,aXS]
theorem d6{y:bQ}{scs:List Sc}{k f w b:Nat}{l best:List (Int×Int)}{many:Int}(hb:f<b)(hbit:w.testBit f=false)(hs:(!w.testBit b&&mV y f b)=true):
  KZ y scs k f w l best many (b+1)=(LN y k (f+1) (w|||2^b) (l++[((f:Int),(b:Int))])).foldl (TQ scs) ((KZ y scs k f w l best many b).1,(KZ y scs k f w l best many b).2):=by
 have:sX y k f w l (b+1)=sX y k f w l b++LN y k (f+1) (w|||2^b) (l++[((f:Int),(b:Int))]):=by
  unfold sX;rw[aYC (by rw[hbit];simp),aYC (by rw[hbit];simp),aZR,bAQ,aYP]
  simp[hb,hs]
 unfold KZ;rw[this,←aYA,aZM]
theorem aJF{y:bQ}{scs:List Sc}{k f w b:Nat}{l best:List (Int×Int)}{many:Int}(hs:(!w.testBit b&&mV y f b)=false):KZ y scs k f w l best many (b+1)=KZ y scs k f w l best many b:=by
 have:sX y k f w l (b+1)=sX y k f w l b:=by
  unfold sX;split
  ·rfl
  ·rw[aZR,bAQ,aYP];simp[hs]
 unfold KZ;rw[this]
theorem VM{y:bQ}{scs:List Sc}{k f w b:Nat}{l best:List (Int×Int)}{many:Int}(_h1:f+1≤b)(h:(decide ((b:Int)<(y.chairs.length:Int))&&decide (((w >>> f:Nat):Int)%2=0))=false):(LN y (k+1) f w l).foldl (TQ scs) (best,many)=KZ y scs k f w l best many b:=by
 have e:LN y (k+1) f w l=LN y k (f+1) w l++sX y k f w l y.chairs.length:=rfl;rw[e];unfold KZ
 by_cases hb:w.testBit f=true
 ·have key:∀b,sX y k f w l b=[]:=fun b=>by unfold sX;rw[aYJ hb]
  rw[key,key]
 ·have h':¬(b:Int)<(y.chairs.length:Int):=by
   intro h2;rw[nK,aYC hb]at h;simp at h;omega
  have key:∀j,sX y k f w l (y.chairs.length+j)=sX y k f w l y.chairs.length:=by
   intro j;induction j with
   |zero=>rfl
   |succ j ih=>
    rw[←ih];unfold sX;rw[aYC hb,aYC hb,←Nat.add_assoc,aZR,bAQ,aYP];have:mV y f (y.chairs.length+j)=false:=by
     unfold mV;rw[bAT (show y.chairs.length≤y.chairs.length+j by omega)];cases y.chairs[f]? <;>rfl
    simp[this]
  have:=key (b-y.chairs.length);rw[show y.chairs.length+(b-y.chairs.length)=b by omega]at this;rw[this]
theorem aSY{b n w f:Nat}(h:(decide ((b:Int)<(n:Int))&&decide (((w >>> f:Nat):Int)%2=0))=true):b<n∧w.testBit f=false:=by
 rw[aYB,aYM,aYM,nK]at h;refine⟨by omega,?_⟩;cases e:w.testBit f with
 |false=>rfl
 |true=>rw[aYJ e]at h;omega
theorem SO{y:bQ}{w f b:Nat}{x z:Ch}{r:Bool}(hx:y.chairs[f]?= some x)(hz:y.chairs[b]?= some z)(h:(decide (((w >>> b:Nat):Int)%2=0)&&MM y.fit x z)=r):(!w.testBit b&&mV y f b)=r:=by
 rw[←h,nK];unfold mV;rw[hx,hz]
 cases w.testBit b<;>simp
theorem EI{l:List (Int×Int)}{a b:Nat}(h:XV l)(ha:a<7)(hb:b<7):XV (l++[((a:Int),(b:Int))]):=fun p hp=>by
 rcases aYD.1 hp with hp|hp
 ·exact h p hp
 ·simp only[aYH]at hp;exact⟨a,b,hp,ha,hb⟩
theorem vM(sv:Value)(xs:List Int)(D:aC)(hS:Sl D RI 1 sv xs)(hl:xs.length≤10000000):MZ prog 90 #[sv] D (fun _ v ν=>bZ 3 1 v xs.length (ints xs) ν):=by
 obtain⟨a0,c0,rfl⟩:=hS.shape;refine qG 8 func90 rfl rfl rfl rfl fun h0=>aA<|Zj rfl<|bW<|Za rfl<|oI rfl U25 rfl rfl rfl bCV<|aG<|aW rfl (fun G=>?_) (fun G=>?_)
 ·obtain rfl:a0=none:=by simpa using G
  obtain rfl:=rJ hS;refine aA<|Zj rfl<|aH<|Zas ?_;exact aF rfl (fun D' hD=>bZ.nil)
 ·refine aZ<|aA<|Zn rfl U25 aL dR rfl .nil (fun R T I M=>Za rfl<|bE (A:=[]) (ν:=[]) (B:=[]) rfl U25 rfl rfl aL dR rfl nV rfl rfl rfl bZ.nil (mK.ints hS) Ye Ye rfl (dF _) Yd (aYF rfl) rfl bCV (fun U ν1 O=>Zj rfl<|aH ?_));exact aF rfl (fun D' hD=>by show bZ 3 1 U _ _ _;simpa [QN]using O)
theorem T3(sv:Value)(xs:List (Int×Int))(D:aC)(hS:Sl D R2 2 sv xs)(hl:xs.length≤10000000):MZ prog 102 #[sv] D (fun _ v ν=>bZ 223 2 v xs.length (QN xs) ν):=by
 obtain⟨a0,c0,rfl⟩:=hS.shape;refine qG 8 func102 rfl rfl rfl rfl fun h0=>aA<|Zj rfl<|bW<|Za rfl<|oI rfl U136 rfl rfl rfl bCV<|aG<|aW rfl (fun G=>?_) (fun G=>?_)
 ·obtain rfl:a0=none:=by simpa using G
  obtain rfl:=rJ hS;refine aA<|Zj rfl<|aH<|Zas ?_;exact aF rfl (fun D' hD=>bZ.nil)
 ·refine aZ<|aA<|Zn rfl U136 rD tG rfl .nil (fun R T I M=>Za rfl<|bE (A:=[]) (ν:=[]) (B:=[]) rfl U136 rfl rfl rD tG rfl HS rfl rfl rfl bZ.nil (mK.of (cells:=fun p:Int×Int=>[qI p.1,qI p.2]) (fun _ _ _ h=>h) (fun _=>rfl) hS) Ye (H7 xs) rfl (XG xs) Yd (aYF rfl) rfl bCV (fun U ν1 O=>Zj rfl<|aH ?_));exact aF rfl (fun D' hD=>by show bZ 223 2 U _ _ _;simpa [QN]using O)
theorem aQN(sv lv:Value)(scs:List Sc)(l:List (Int×Int))(n:Nat)(D:aC)(hS:Sl D NH 9 sv scs)(hl:Sl D R2 2 lv l)(hne:scs≠[])(hsc:∀s∈scs,JI n s)(hp:XV l)(U:l.length≤1000):Fn prog 101 #[sv,lv] D (fun _ v=>v=qI (AE scs l)):=by
 have hsl:=hS.len;obtain⟨Y,M⟩:∃s,scs[0]?= some s:=⟨scs[0]'(bAU.2 hne),aXT _⟩
 have I:=hsc Y (LT M);refine enter 27 func101 rfl rfl rfl rfl fun h0=>aA<|Zj rfl<|aK<|Za rfl<|Zx rfl U210 gO rfl hS rfl M (fun b1 o1 Z hB hR hE=>?_)
 obtain rfl:Z=ints (H6 _):=hB;refine Zs rfl qY rfl hE (by rw[aN,rH _ I.len];exact gO)<|Za rfl<|Zc rfl (fun D1 hF=>MG Y _ l I.row I.whole hp U _ (hl.up R2.up (hF _ Ye)) I.len)<|Zj rfl<|bW<|Za rfl<|Zab rfl U210 rfl hS rfl<|Za rfl<|aG<|Zar<|bP (γ:=Nat) (fun k=>scs.length-k) (fun k=>k≤scs.length) (fun k=>[(15,qI (k:Int)),(5,qI (((scs.take k).map fun s=>(kZ s l:Int)).foldl min (kZ Y l:Int)))]) [(14,_),(13,_),(4,_),(1,_)] (fun k=>[D]) 0 Yd ⟨Yb,Yb,bCV⟩ bA (aE) ?_
 rintro k h1;refine aA<|Zai rfl<|bR<|Zz rfl (fun hH=>?_) (fun hH=>?_)
 ·have hk:k<scs.length:=by omega
  obtain⟨V,O⟩:∃s,scs[k]?= some s:=⟨_,aXT hk⟩
  have G:=hsc V (LT O);refine aZ<|aO<|Zar<|aA<|Zx rfl U210 gO rfl hS rfl O (fun b2 o2 hI hJ hX hK=>?_);obtain rfl:hI=ints (H6 _):=hJ;refine Zs rfl qY rfl hK (by rw[aN,rH _ G.len];exact gO)<|Zw rfl tO rfl (fun q1=>aV rfl rfl rfl rfl gO (by rw[aN,rH _ G.len]) Yav .head (dF _) bCV<|aG<|aX<|Za rfl<|bT (vs:=ints (H6 V)) rfl qY rfl Mm0 (by rw[show(ints (H6 V)).length=9 by rw[aN,rH _ G.len]];exact gO) n3 rfl bCV<|Za rfl<|Zc rfl (fun D2 hM=>MG V _ l G.row G.whole hp U _ (hl.up R2.up (hM _ Ye)) G.len)<|Zn rfl U25 aL dR rfl (.cons rfl rfl (.cons rfl rfl .nil)) (fun hY rA hN R=>?_))
  have T:=Sl.ofInts (l:=[_,_]) (n:=2) (cap:=2) R rfl Yd Yd;refine Zc rfl (fun D3 hO=>lY _ _ [_] _ (T.up RI.up (hO _ Ye)))<|Zj rfl<|Zae<|Zat<|Zap<|aX<|Zaa rfl<|Za rfl<|Zae ?_;exact aM 15 (k+1) Yd Yd ⟨Yb,(by rw[aAO O];rfl),bCV⟩ rfl rfl (List.Sublist.cons _ Mm5) (fun D h=>⟨D,aYK _ (h),Le.refl D⟩)
 ·obtain rfl:k=scs.length:=by omega
  rw[aZB];refine aT<|Zaq<|Zaq<|Zau<|Zap<|aA<|Za rfl<|Zj rfl<|aH ?_;exact aF rfl (fun D hD=>by show Value.int _ _=_;rw[aBW M])
theorem aUC{y:bQ}{scs:List Sc}{cv qv sv:Value}{bY bV bF bm bp:Nat}(hyo:aXF y)(hne:scs≠[])(hsc:∀s∈scs,JI y.chairs.length s):
  ∀(kk f:Nat),f+kk=y.chairs.length→∀(w:Nat) (l:List (Int×Int)) (lv:Value) (best:List (Int×Int)) (many:Int) (pv:Value) (D:aC),w<128→XV l→l.length≤f→Sl D R2 2 lv l→Sl D R2 2 pv best→Sl D wB 4 cv y.chairs→Sl D R2 2 qv y.claims→At D bY 0 [cv,qI y.fit,qv]→At D bV 0 [sv]→Sl D NH 9 sv scs→At D bF 0 [.func (.func 100) #[] #[qP bY,qP bV,qP bm,qP bp,qP bF]]→
  BA prog 100 [lv,qI (f:Int),qI (w:Int),qP bY,qP bV,qP bm,qP bp,qP bF] D [(bm,qC [qI many] 3),(bp,qC [pv] 136)] (fun D' _ ν'=>∃pv',ν'=[(bm,qC [qI ((LN y kk f w l).foldl (TQ scs) (best,many)).2] 3),(bp,qC [pv'] 136)]∧Sl D' R2 2 pv' ((LN y kk f w l).foldl (TQ scs) (best,many)).1):=by
 intro kk;induction kk using Nat.strongRecOn with
 |_ kk ih=>
 intro f hf w l lv best many pv D hw hp hlf hl hb hc hq hY hV hS hF;have hn7:=hyo.len;have hcl:=hc.len;refine iR 75 func100 rfl rfl rfl rfl (fun h0 hwl hwn=>dV<|Za rfl<|Zh rfl eR rfl<|Zf 0 rfl kC rfl hY rfl<|Zab rfl U37 rfl hc rfl<|Zan rfl<|aG<|Zz rfl (fun hc1=>?_) (fun hc1=>?_))
 ·obtain rfl:kk=0:=by omega
  refine dV<|Zf 0 rfl tW rfl hV rfl<|Za rfl<|Zc rfl (fun D1 hO=>aQN _ _ scs l y.chairs.length _ (hS.up NH.up (hO _ Ye)) (hl.up R2.up (hO _ Ye)) hne hsc hp Yd)<|Zj rfl<|aK<|Za rfl<|Zp rfl aI rfl Mm0 rfl<|iH rfl rfl rfl rfl bCV<|aG<|Zz rfl (fun hc2=>?_) (fun hc2=>?_)
  ·refine aX<|Za rfl<|fM rfl rfl rfl (fun D7 U=>T3 _ l _ (hl.up R2.up (U _ Ye)) Yd) rfl bCV (fun v6 D8 ν6 hR T=>uR (A:=[]) (B:=[(_,_),(_,_)]) T (fun k hk=>hk) (fun hX hH I=>?_));have V:=I.prs rfl Yd;obtain⟨a6,c6,rfl⟩:=T.shape;refine Za rfl<|Zm rfl b9 (.tail .head) rfl<|Zm rfl aL (bO.head) rfl<|aH<|Zas ?_;exact A2 (A:=[]) (ν':=[_,_]) (B:=[]) (vs:=[]) rfl rfl rfl bCV rfl (fun D' hD=>⟨.slice a6 l.length c6,by rw[L5,UR hc2];rfl,by rw[L5,UR hc2];exact V.up R2.up (hD _ Ye)⟩)
  ·refine aZ<|z6<|Zas ?_;exact A2 (A:=[]) (ν':=[_,_]) (B:=[]) (vs:=[]) rfl rfl rfl bCV rfl (fun D' hD=>⟨pv,by rw[L5,aHI hc2],by rw[L5,aHI hc2];exact hb.up R2.up (hD _ Ye)⟩)
 ·obtain⟨k,rfl⟩:∃k,kk=k+1:=⟨kk-1,by omega⟩
  refine aZ<|aA<|Zf 0 rfl GB rfl hF rfl<|Za rfl<|Za rfl<|Zaa rfl<|Za rfl<|fJ (A:=[]) (ν:=[(_,_),(_,_)]) (B:=[]) rfl rfl rfl rfl (aYF rfl) FJ (fun D5 M=>ih k Yd (f+1) Yd w l lv best many pv D5 hw hp Yd (hl.up R2.up (M _ Ye)) (hb.up R2.up (M _ Ye)) (hc.up wB.up (M _ Ye)) (hq.up R2.up (M _ Ye)) (hY.up (M _ Ye)) (hV.up (M _ Ye)) (hS.up NH.up (M _ Ye)) (hF.up (M _ Ye))) rfl bCV (fun v5 D6 _ hD6 hp5=>?_);obtain⟨pv1,rfl,rA⟩:=hp5;refine aK<|Za rfl<|Zaa rfl<|Zj rfl<|aG<|Zar<|dB (γ:=Nat×Value×aC) (fun g=>y.chairs.length-g.1) (fun g=>f+1≤g.1∧Sl g.2.2 R2 2 g.2.1 (KZ y scs k f w l best many g.1).1) (fun g=>[(12,qI (g.1:Int))]) [(0,_),(1,_),(2,_),(3,_),(7,_)] (fun g=>[(bm,qC [qI (KZ y scs k f w l best many g.1).2] 3),(bp,qC [g.2.1] 136)]) (fun g=>[g.2.2,D]) (f+1,pv1,D6) ⟨by simp,by simp only;rw[CZ];exact rA⟩ ⟨Yb,bCV⟩ bA ((by rw[CZ];exact List.Sublist.refl _)) ((fun D0 h=>by simp only[GE,n3,bAO]at h;rcases h with h|h;exact⟨D6,by simp,h▸Le.refl _⟩;exact⟨D,by simp,h▸Le.refl _⟩)) ?_
  rintro⟨b,hB,Dn⟩ ⟨h1,O⟩;simp only at h1 O;refine dV<|Za rfl<|Zh rfl eR rfl<|Zf 0 rfl kC rfl hY rfl<|Zab rfl U37 rfl hc rfl<|Zai rfl<|Za rfl ?_;refine' dM 6 (s:=40) (p:=46) rfl (fun hg1=>?_) (fun hg1=>?_) ?_;rotate_left
  ·refine Zb rfl<|Zb rfl<|u0 rfl rfl rfl Yd rfl ⟨_,rfl,rfl⟩<|uU rfl rfl rfl (Int.natCast_nonneg _) Yd Yg rfl ⟨_,rfl,rfl⟩<|qU rfl rfl rfl rfl ⟨_,rfl,rfl⟩<|Zag rfl ?_;exact aR 5
  ·refine Zk rfl<|Zk rfl<|Zk rfl<|Zk rfl<|Zk rfl<|Zah rfl ?_;exact aR 5
  refine aG<|aW rfl (fun Y=>?_) (fun Y=>?_)
  ·obtain⟨hbn,hbit⟩:=aSY Y;simp only at hbn;have hE:f<b:=by omega
   have hb7:b<7:=by omega
   have hpb:=HL hb7;obtain⟨x,hx⟩:=dX y.chairs f;obtain⟨z,hz⟩:=dX y.chairs b;refine aZ<|aO<|Zar<|aA<|Za rfl<|Za rfl<|u0 rfl rfl rfl (by first|omega|(simp only;omega)) rfl bCV<|uU rfl rfl rfl (Int.natCast_nonneg _) Yd Yg rfl bCV<|Zan rfl<|Za rfl ?_
   refine' dM 5 (s:=54) (p:=59) rfl (fun hg2=>?_) (fun hg2=>?_) ?_;rotate_left
   ·refine dL rfl jP rfl hY Yc iD n3 rfl ⟨_,rfl,rfl⟩<|Zb rfl<|Zb rfl<|Zd rfl (fun D2 rB=>b6 _ y f b x z _ ⟨_,_,rfl,hc.up wB.up (rB _ Ye),hq.up R2.up (rB _ Ye)⟩ hyo.fit hx hz (hyo.size _ (LT hx)) (hyo.size _ (LT hz)))<|Zag rfl ?_;exact aR 4
   ·refine Zk rfl<|Zk rfl<|Zk rfl<|Zk rfl<|Zah rfl ?_;exact aR 4
   refine aG<|aW rfl (fun hI=>?_) (fun hI=>?_)
   ·have hsel:(!w.testBit b&&mV y f b)=true:=SO hx hz hI;refine lC (eQ.mk [bF]) 4 [false,true,true,true,true,true,true,true,true,true,true,true,true,true,false] [.fork [0,1,3,4,5,8,9,10,11,12,13] 2 (.fin [6]) 6 (.fin [2]),.fin [7,14]] bI (fun _ _ _ h=>jF (P:=prog) (fn:=f100) _ _ _ h) Yf<|oJ<|bL [(false,0),(true,1),(true,3),(true,4),(true,5),(true,8),(true,9),(true,10),(true,11),(true,12),(true,13)] rfl<|dT rfl (k:=0) GB rfl hF Ye rfl (eQ.out Ye) rfl bCV<|Za rfl<|Za rfl<|Za rfl<|Zo [qI (f:Int),qI (b:Int)] rfl aOT tG rfl<|Za rfl<|Zaa rfl<|Za rfl<|Za rfl ?_;refine w9 rfl rfl rfl (by first|omega|(simp only;omega)) rfl bCV<|SP rfl rfl rfl (by first|omega|(simp only;omega)) (by first|omega|(simp only;omega)) rfl bCV<|Zae (dP true true rfl rfl ?_ ?_)
    ·refine fM rfl rfl rfl (fun D7 U=>T3 _ l _ (hl.up R2.up (U _ Ye)) Yd) rfl bCV (fun v6 D8 ν6 hR T=>Zae<|aS [(true,6)] rfl<|Zn rfl U136 rD tG rfl (.cons rfl rfl .nil) (fun b901 D901 hJ R=>?_));have hAp:=R;refine Zae<|kQ [(true,7),(false,14)] rfl<|cJ hF Ye (fun hap=>bE (A:=[]) (B:=[(_,_),(_,_)]) rfl U136 rfl rfl rD tG rfl HS rfl rfl rfl T (mK.lit hAp) Ye rfl (H7 l) Yj Yd (aXR (fun p hp=>eQ.in_ Yal)) rfl bCV (fun v7 ν7 hK=>?_));have ha7':bZ 223 2 v7 (l.length+1) (QN (l++[((f:Int),(b:Int))])) ν7:=by rw[NG];simpa using hK
     refine uR (A:=[]) (B:=[(_,_),(_,_)]) ha7' (fun k hk=>hk) (fun hX hH I=>?_);have V:=I.prs Ye Yd;refine fJ (A:=[]) (ν:=[(_,_),(_,_)]) (B:=[]) rfl rfl rfl rfl (aYF rfl) FJ (fun D9 G=>ih k Yd (f+1) Yd (w|||2^b) (l++[((f:Int),(b:Int))]) v7 (KZ y scs k f w l best many b).1 (KZ y scs k f w l best many b).2 hB D9 (aHJ hw hpb) (EI hp Yd Yd) Yam (V.up R2.up (G _ Ye)) (O.up R2.up (G _ Ye)) (hc.up wB.up (G _ Ye)) (hq.up R2.up (G _ Ye)) (hY.up (G _ Ye)) (hV.up (G _ Ye)) (hS.up NH.up (G _ Ye)) (hF.up (G _ Ye))) rfl bCV (fun v9 D10 _ hD10 hM=>?_);obtain⟨hN,rfl,Z⟩:=hM;refine Zae<|kU<|Zat<|Zap<|aX<|Za rfl<|Zaa rfl<|Zj rfl<|Zae ?_;exact aM 33 (b+1,hN,D10) ⟨by simp only;omega,by simp only;rw[d6 hE hbit hsel];exact Z⟩ Yo ⟨Yb,bCV⟩ rfl rfl ((by rw[d6 hE hbit hsel];exact List.Sublist.refl _)) Yx
    ·refine Zn rfl U136 rD tG rfl (.cons rfl rfl .nil) (fun b901 D901 hJ R=>?_);have hAp:=R;refine Zae<|aS [(true,2)] rfl<|fM rfl rfl rfl (fun D7 U=>T3 _ l _ (hl.up R2.up (U _ Ye)) Yd) rfl bCV (fun v6 D8 ν6 hR T=>Zae<|kQ [(true,7),(false,14)] rfl<|cJ hF Ye (fun hap=>bE (A:=[]) (B:=[(_,_),(_,_)]) rfl U136 rfl rfl rD tG rfl HS rfl rfl rfl T (mK.lit hAp) Ye rfl (H7 l) Yj Yd (aXR (fun p hp=>eQ.in_ Yal)) rfl bCV (fun v7 ν7 hK=>?_)));have ha7':bZ 223 2 v7 (l.length+1) (QN (l++[((f:Int),(b:Int))])) ν7:=by rw[NG];simpa using hK
     refine uR (A:=[]) (B:=[(_,_),(_,_)]) ha7' (fun k hk=>hk) (fun hX hH I=>?_);have V:=I.prs Ye Yd;refine fJ (A:=[]) (ν:=[(_,_),(_,_)]) (B:=[]) rfl rfl rfl rfl (aYF rfl) FJ (fun D9 G=>ih k Yd (f+1) Yd (w|||2^b) (l++[((f:Int),(b:Int))]) v7 (KZ y scs k f w l best many b).1 (KZ y scs k f w l best many b).2 hB D9 (aHJ hw hpb) (EI hp Yd Yd) Yam (V.up R2.up (G _ Ye)) (O.up R2.up (G _ Ye)) (hc.up wB.up (G _ Ye)) (hq.up R2.up (G _ Ye)) (hY.up (G _ Ye)) (hV.up (G _ Ye)) (hS.up NH.up (G _ Ye)) (hF.up (G _ Ye))) rfl bCV (fun v9 D10 _ hD10 hM=>?_);obtain⟨hN,rfl,Z⟩:=hM;refine Zae<|kU<|Zat<|Zap<|aX<|Za rfl<|Zaa rfl<|Zj rfl<|Zae ?_;exact aM 33 (b+1,hN,D10) ⟨by simp only;omega,by simp only;rw[d6 hE hbit hsel];exact Z⟩ Yo ⟨Yb,bCV⟩ rfl rfl ((by rw[d6 hE hbit hsel];exact List.Sublist.refl _)) Yx
   ·have hsel:(!w.testBit b&&mV y f b)=false:=SO hx hz hI;refine cB<|Zat<|Zap<|aX<|Za rfl<|Zaa rfl<|Zj rfl<|Zae ?_;exact aM 18 (b+1,hB,Dn) ⟨by simp only;omega,by simp only;rw[aJF hsel];exact O⟩ Yo ⟨Yb,bCV⟩ rfl rfl ((by rw[aJF hsel];exact List.Sublist.refl _)) (fun D0 h=>by simp only[GE,n3,bAO]at h;rcases h with h|h;exact⟨Dn,by simp,h▸Le.refl _⟩;exact⟨D,by simp,h▸Le.refl _⟩)
  ·simp only at Y;refine aT<|Zaq<|Zaq<|Zau ?_;exact A2 (A:=[]) (ν':=[_,_]) (B:=[]) (vs:=[]) rfl rfl rfl bCV rfl (fun D' hD=>⟨hB,by rw[VM h1 Y],by rw[VM h1 Y];exact O.up R2.up (hD _ Ye)⟩)
end L7
namespace L3
open L1
open C3
def qB(ls:List gM)(out:List Int)(k:Nat):List gM:=(List.range k).filterMap fun i:Nat=>if out.any (fun x=>decide ((i:Int)=x))=true then none else ls[i]?
theorem l0(ls:List gM)(out:List Int)(k:Nat):(qB ls out k).length≤k:=by
 unfold qB;have:=List.length_filterMap_le (fun i:Nat=>if out.any (fun x=>decide ((i:Int)=x))=true then none else ls[i]?) (List.range k);rwa [List.length_range]at this
theorem aIC{ls:List gM}{out:List Int}{k:Nat}{x:gM}(hx:ls[k]?= some x)(h:(!out.any fun x=>decide ((k:Int)=x))=true):qB ls out (k+1)=qB ls out k++[x]:=by
 unfold qB;rw[aZR,List.filterMap_append];have h':(out.any fun x=>decide ((k:Int)=x))=false:=by simpa using h
 simp only[List.filterMap_cons,List.filterMap_nil,h',aYY,aZW,hx]
theorem aLD{ls:List gM}{out:List Int}{k:Nat}(h:(!out.any fun x=>decide ((k:Int)=x))=false):qB ls out (k+1)=qB ls out k:=by
 unfold qB;rw[aZR,List.filterMap_append];have h':(out.any fun x=>decide ((k:Int)=x))=true:=by simpa using h
 simp only[List.filterMap_cons,List.filterMap_nil,h',aZU,aXS]
def aGA(out:List Int)(c:Cn):Cn:={c with after:=c.after-((out.filter fun i=>decide (i<c.after)).length:Int)}
def P1(b:bG)(out:List Int):bG:={b with lines:=qB b.lines out b.lines.length,counts:=b.counts.map (aGA out)}
theorem aDW{out:List Int}{c:Cn}{i:Nat}{y:Int}(hy:out[i]?= some y)(h:y<c.after):(((out.take (i+1)).filter fun i=>decide (i<c.after)).length:Int)=((out.take i).filter fun i=>decide (i<c.after)).length+1:=by
 rw[aYG,hy,aZH,bAQ,GT,bBJ,aYJ Yar];simp
theorem aLA{out:List Int}{c:Cn}{i:Nat}{y:Int}(hy:out[i]?= some y)(h:¬y<c.after):((out.take (i+1)).filter fun i=>decide (i<c.after)).length=((out.take i).filter fun i=>decide (i<c.after)).length:=by
 rw[aYG,hy,aZH,bAQ,GT,bBJ,aYC Yar];simp
theorem PV(bv ov:Value)(b:bG)(out:List Int)(D:aC)(hb:fY D bv b)(ho:Sl D RI 1 ov out)(hol:out.length≤100)(hl8:b.lines.length≤100)(Z:b.counts.length≤100)(hca:∀c∈b.counts,0≤c.after∧c.after≤100):Fn prog 88 #[bv,ov] D (fun D' v=>fY D' v (P1 b out)):=by
 obtain⟨lv,cv,rfl,hl,hc⟩:=hb;have hll:=hl.len;have hcl:=hc.len;refine enter 69 func88 rfl rfl rfl rfl fun h0=>aA<|Zv rfl (fun q1 E1 hE1 I=>Zw rfl H4 rfl (fun q2=>aK<|Zs rfl eL rfl I dO<|Zw rfl H4 rfl (fun q3=>aV rfl rfl rfl rfl dO Ya Ya (bO.head) (y3 hl.cell1 hc.cell1) bCV<|aK<|Zh rfl cQ rfl<|Zm rfl eH (bO.head) rfl<|Zh rfl kV rfl ?_)));refine Zm rfl PT (bO.head) rfl<|bW<|Zh rfl cQ rfl<|Zf 3 rfl eX rfl I rfl<|Zab rfl U33 rfl hl rfl<|Za rfl<|aG<|Zar<|dB (γ:=Nat×Value×aD) (fun g=>b.lines.length-g.1) (fun g=>g.1≤b.lines.length∧bZ 160 3 g.2.1 (qB b.lines out g.1).length (N2 (qB b.lines out g.1)) g.2.2) (fun g=>[(19,qI (g.1:Int))]) [(18,_),(17,_),(5,_),(4,_),(2,_),(1,_)] (fun g=>g.2.2++[(q3,qC [qI b.chairs,qI b.coin,qI b.box,g.2.1,qN] 36),(q2,qC [qI 0,qI 0,qI 0,qN,qN] 36)]) (fun g=>[E1,D]) (0,qN,[]) ⟨by simp,by simpa [qB,N2]using bZ.nil⟩ ⟨Yb,bCV⟩ bA Mm5 (aE) ?_
 rintro⟨k,v,ν⟩ ⟨h1,ha⟩;simp only at h1 ha;refine aA<|Zai rfl<|bR<|Zz rfl (fun M=>?_) (fun M=>?_)
 ·have hk:k<b.lines.length:=by simp only at M;omega
  obtain⟨x,hx⟩:=dX b.lines k;have hkl:=l0 b.lines out k;refine aZ<|aO<|Zar<|aA<|Za rfl<|Zx rfl U33 bH rfl hl rfl hx (fun b1 o1 hB hE hY hF=>?_);obtain rfl:hB=[qI _,qI _,qI _]:=hE;refine Zs rfl kN rfl hF bH<|Zw rfl dU rfl (fun q4=>Zj rfl<|Zu rfl bH (bO.head)<|aK<|Za rfl<|Za rfl<|Zc rfl (fun D1 hH=>L7.yD _ out (k:Int) _ (ho.up RI.up (hH _ Ye)))<|Zak rfl<|aG<|aW rfl (fun hc2=>?_) (fun hc2=>?_))
  ·have hc2:=hc2;refine aX<|Zh rfl cQ rfl<|Zp rfl eX rfl (List.Mem.tail _ (n5 _ Mm0)) rfl<|Zy rfl kN rfl Mm0 bH<|Zn rfl U33 bH dU rfl (.cons rfl rfl .nil) (fun rA rB hI O=>bE (A:=[(_,_)]) (B:=[(_,_),(_,_)]) rfl U33 rfl rfl bH dU rfl iB rfl rfl rfl ha (mK.lit O) Ye rfl (IR _) Yj Yd (aYF rfl) rfl bCV (fun v1 ν1 R=>?_));have ha2x:bZ 160 3 v1 (qB b.lines out (k+1)).length (N2 (qB b.lines out (k+1))) ν1:=by rw[aIC hx hc2,GT];unfold N2;rw[aYP];exact R
   refine Zh rfl cQ rfl<|aJ (((q4,_)::ν1)++(q3,_)::[(q2,_)]) rfl<|bJ rfl rfl rfl R.cells1 eH (.app .head) Ye rfl R.cell1 bCV<|Zae<|Zat<|Zap<|aX<|Zaa rfl<|Za rfl<|Zae ?_;exact aM 19 (k+1,v1,ν1) ⟨by simp only;omega,ha2x⟩ Yo ⟨Yb,bCV⟩ rfl rfl (List.Sublist.cons _ Mm5) (fun D h=>⟨D,aYK _ (h),Le.refl D⟩)
  ·refine cB<|Zat<|Zap<|aX<|Zaa rfl<|Za rfl<|Zae ?_;exact aM 13 (k+1,v,ν) ⟨by simp only;omega,by simp only;rw[aLD hc2];exact ha⟩ Yo ⟨Yb,bCV⟩ rfl rfl (List.Sublist.cons _ Mm5) (aE)
 ·obtain rfl:k=b.lines.length:=by simp only at M;omega
  have hkl:=l0 b.lines out b.lines.length;refine aT<|Zaq<|Zaq<|Zau<|Zap<|aO<|aO<|sH (A:=[]) (B:=[(_,_),(_,_)]) ha rfl (fun D8 hD8 hJ=>?_);have hl8v:=hJ.lins Ye Yd;refine aX<|Zh rfl kV rfl<|Zf 4 rfl uL rfl I rfl<|Zab rfl U34 rfl hc rfl<|Za rfl<|aG<|Zar<|dB (γ:=Nat×Value×aD) (fun g=>b.counts.length-g.1) (fun g=>g.1≤b.counts.length∧bZ 162 3 g.2.1 g.1 (aNV ((b.counts.take g.1).map (aGA out))) g.2.2) (fun g=>[(38,qI (g.1:Int))]) [(37,_),(36,_),(5,_),(4,_),(1,_)] (fun g=>g.2.2++[(q3,qC [qI b.chairs,qI b.coin,qI b.box,v,g.2.1] 36),(q2,qC [qI 0,qI 0,qI 0,qN,qN] 36)]) (fun g=>[D8,E1,D]) (0,qN,[]) ⟨by simp,by simpa [aNV]using bZ.nil⟩ ⟨Yb,bCV⟩ bA Mm5 (aE) ?_;rintro⟨j,u,ω⟩ ⟨h2,G⟩;simp only at h2 G;refine aA<|Zai rfl<|bR<|Zz rfl (fun T=>?_) (fun T=>?_)
  ·have hj:j<b.counts.length:=by simp only at T;omega
   obtain⟨c,hx⟩:∃x,b.counts[j]?= some x:=⟨_,aXT hj⟩
   have hcb:=hca c (LT hx);refine aZ<|aO<|Zar<|aA<|Zx rfl U34 nF rfl hc rfl hx (fun b2 o2 hK hM hcl2 hN=>?_);obtain rfl:hK=[qI _,qI _,qI _]:=hM;refine Zs rfl O8 rfl hN nF<|Zw rfl d9 rfl (fun q5=>Zu rfl nF (bO.head)<|aK<|Zj rfl<|bW<|Za rfl<|Zab rfl U25 rfl ho rfl<|Za rfl<|aG<|Zar<|bP (γ:=Nat) (fun i=>out.length-i) (fun i=>i≤out.length) (fun i=>[(44,qI (i:Int)),(10,qI (((out.take i).filter fun i=>decide (i<c.after)).length:Int))]) [(43,_),(42,_),(9,_),(41,_),(40,_),(39,_),(38,_),(37,_),(36,_),(5,_),(4,_),(1,_)] (fun i=>[D8,E1,D]) 0 Yd ⟨Yb,Yb,bCV⟩ bA (aE) ?_);rintro i h3;refine aA<|Zai rfl<|bR<|Zz rfl (fun Z=>?_) (fun Z=>?_)
   ·have hi:i<out.length:=by omega
    obtain⟨y,hy⟩:=dX out i;have hgl:=bAS (fun i=>decide (i<c.after)) (out.take i);have hgt:(out.take i).length≤i:=bCF _ _;refine aZ<|aO<|Zar<|aA<|lH rfl ho rfl hy (fun b3 o3=>Zj rfl<|aK<|Za rfl<|Zh rfl zU rfl<|Zp rfl aI rfl Mm0 rfl<|Zai rfl<|aG ?_);refine Zz rfl (fun U=>?_) (fun U=>?_)
    ·refine aX<|Za rfl<|Zaa rfl<|Zj rfl<|Zae<|Zat<|Zap<|aX<|Zaa rfl<|Za rfl<|Zae ?_;exact aM 15 (i+1) Yd Yd ⟨Yb,(by rw[aDW hy U];rfl),bCV⟩ rfl rfl Mm5 (aE)
    ·refine cB<|Zat<|Zap<|aX<|Zaa rfl<|Za rfl<|Zae ?_;exact aM 12 (i+1) Yd Yd ⟨Yb,(by rw[aLA hy U];rfl),bCV⟩ rfl rfl Mm5 (aE)
   ·obtain rfl:i=out.length:=by omega
    rw[aZB];have hgl:=bAS (fun i=>decide (i<c.after)) out;refine aT<|Zaq<|Zaq<|Zau<|Zap<|aX<|Zh rfl kV rfl<|Zp rfl uL rfl (List.Mem.tail _ (n5 _ Mm0)) rfl<|Zh rfl zU rfl<|Zp rfl aI rfl Mm0 rfl<|Za rfl<|hU rfl rfl rfl Yg rfl bCV ?_;refine Zh rfl U7 rfl<|eE rfl mP eA rfl Mm0 rfl rfl n3 rfl bCV<|Zo [qI (c.after-((out.filter fun i=>decide (i<c.after)).length:Int)),qI c.lo,qI c.hi] rfl aKB d9 rfl<|Zn rfl U34 nF d9 rfl (.cons rfl rfl .nil) (fun b902 D902 hO V=>bE (A:=[(_,_)]) (B:=[(_,_),(_,_)]) rfl U34 rfl rfl nF d9 rfl aON rfl rfl rfl G (mK.lit V) Ye rfl (by rw[aOY];simp;omega) Yj Yd (aYF rfl) rfl bCV (fun v2 ν2 Y=>?_))
    have hR:bZ 162 3 v2 (j+1) (aNV ((b.counts.take (j+1)).map (aGA out))) ν2:=by rw[aYG,hx,aZH,aYE];unfold aNV;rw[aYP];exact Y
    refine Zh rfl kV rfl<|aJ (((q5,_)::ν2)++(q3,_)::[(q2,_)]) rfl<|bJ rfl rfl rfl Y.cells1 PT (.app .head) Ye rfl Y.cell1 bCV<|Zae<|Zat<|Zap<|aX<|Zaa rfl<|Za rfl<|Zae ?_;exact aM 24 (j+1,v2,ν2) ⟨by simp only;omega,hR⟩ Yo ⟨Yb,bCV⟩ rfl rfl (List.Sublist.cons _ Mm5) (fun D h=>⟨D,aYK _ (h),Le.refl D⟩)
  ·obtain rfl:j=b.counts.length:=by simp only at T;omega
   rw[aZB]at G;refine aT<|Zaq<|Zaq<|Zau<|Zap<|aA<|Zy rfl eL rfl (n5 _ Mm0) dO<|aV rfl rfl rfl rfl dO Ya Ya (.app (.tail (bO.head))) (y3 ha.cell1 G.cell1) bCV<|aH<|gR (A:=[]) (B:=[(_,_),(_,_)]) G rfl (fun D9 hS hX=>?_);have hc9v:=hX.cns Ye Yd;exact Zl [_] rfl ⟨⟨_,_,_,rfl,aYK _ Mm0,aXR ⟨eL,dO,rfl⟩⟩,bCV⟩ (fun D hD=>⟨v,u,rfl,(hl8v.up oB.up ((hS _ Ye).trans (hD _ Ye))),hc9v.up uN.up (hD _ Ye)⟩)
end L3
namespace L3
open L1
open C3
def O3(f:Nat→List Int→Bool×List Int):List Nat→List Int→Bool×List Int
 | [],fnd=>(false,fnd)
 |i::is,fnd=>if(f i fnd).1=true then(true,(f i fnd).2)else O3 f is (f i fnd).2
theorem xU{f:Nat→List Int→Bool×List Int}{n i:Nat}{fnd:List Int}(hge:i<n)(h:(f i fnd).1=true):O3 f (List.range' i (n-i)) fnd=(true,(f i fnd).2):=by
 rw[show n-i=(n-i-1)+1 by omega,List.range'_succ,O3,aYJ h]
theorem HW{f:Nat→List Int→Bool×List Int}{n i:Nat}{fnd:List Int}(hge:i<n)(h:(f i fnd).1=false):O3 f (List.range' i (n-i)) fnd=O3 f (List.range' (i+1) (n-(i+1))) (f i fnd).2:=by
 conv=>lhs;rw[show n-i=(n-(i+1))+1 by omega,List.range'_succ,O3,aYC (by rw[h];simp)]
theorem s8{f:Nat→List Int→Bool×List Int}{n i:Nat}{fnd:List Int}(hge:¬i<n):O3 f (List.range' i (n-i)) fnd=(false,fnd):=by
 rw[show n-i=0 by omega];rfl
theorem aIZ{b t:Nat}{cs:List Value}:∀p∈[(b,Obj.cells cs.toArray t (0,0))],dD p.2:=by
 intro p hp;simp only[aYH]at hp;subst hp;rfl
theorem aJW{ls:List gM}{out:List Int}{k:Nat}{l:gM}(h:l∈qB ls out k):l∈ls:=by
 unfold qB at h;obtain⟨i,_,hi⟩:=List.mem_filterMap.1 h;split at hi
 ·cases hi
 ·exact LT hi
theorem KX{b:bG}(h:YH b)(out:List Int):YH (P1 b out):=
 ⟨h.ch,h.co,h.bx,by have:=l0 b.lines out b.lines.length;have:=h.l8;show(qB b.lines out b.lines.length).length≤8;omega,by have:=h.c4;show(b.counts.map _).length≤4;rwa [aZL],fun l hl=>h.ln l (aJW hl)⟩
theorem aAF{b:bG}(h:bB b=0):∀c∈b.counts,0≤c.after∧c.after≤100:=by
 have hl:=(aWA h).l8;unfold bB at h;split at h
 ·omega
 ·split at h
  ·omega
  ·rename_i h2;have h3:uD b=true:=by simpa using h2
   unfold uD at h3;simp only[aYB,C1.dA,aYL]at h3;intro c hc;have h4:=h3.2 c hc;unfold pU at h4;simp only[aYB,C1.dA]at h4;omega
def aJX(b:bG):Nat→Nat→List Int→List Int→Bool×List Int
 |0,_,out,_=>(decide (truths (P1 b out)≠[]),out)
 |m+1,f,out,fnd=>O3 (fun i fnd=>aJX b m (i+1) (out++[(i:Int)]) fnd) (List.range' f (b.lines.length-m-f)) fnd
def aWV(b:bG):Bool×List Int:=O3 (fun m fnd=>aJX b m 0 [] fnd) (List.range' 0 (b.lines.length+1-0)) []
def eS(b:bG):List Int×Int:=if bB b≠0 then([],bB b)else if(aWV b).1=true then((aWV b).2,0)else([],10)
theorem OV{b:bG}{D:aC}(h:bB b≠0):∃lv,Value.tuple #[qN,qI (bB b)]=.tuple #[lv,qI (eS b).2]∧Sl D RI 1 lv (eS b).1:=by
 rw[eS,aYJ h];exact⟨_,rfl,Sl.nil⟩
theorem aBJ{b:bG}{D:aC}{lv:Value}{l:List Int}(h:bB b=0)(hl:O3 (fun m fnd=>aJX b m 0 [] fnd) (List.range' 0 (b.lines.length+1-0)) []=(true,l))(hS:Sl D RI 1 lv l):∃lv',Value.tuple #[lv,qI 0]=.tuple #[lv',qI (eS b).2]∧Sl D RI 1 lv' (eS b).1:=by
 have e:aWV b=(true,l):=hl;rw[eS,aYC Yd,e];exact⟨_,rfl,hS⟩
theorem WN{b:bG}{D:aC}{l:List Int}(h:bB b=0)(hl:O3 (fun m fnd=>aJX b m 0 [] fnd) (List.range' 0 (b.lines.length+1-0)) []=(false,l)):∃lv',Value.tuple #[qN,qI 10]=.tuple #[lv',qI (eS b).2]∧Sl D RI 1 lv' (eS b).1:=by
 have e:aWV b=(false,l):=hl;rw[eS,aYC Yd,e];exact⟨_,rfl,Sl.nil⟩
theorem aUN{b:bG}{lv cv:Value}{bf bY bF:Nat}(hbo:YH b)(hca:∀c∈b.counts,0≤c.after∧c.after≤100):
  ∀(mm f:Nat) (out:List Int) (ov:Value) (fnd:List Int) (fv:Value) (D:aC),out.length+mm≤10→Sl D RI 1 ov out→Sl D RI 1 fv fnd→fY D (.agg #[qI b.chairs,qI b.coin,qI b.box,lv,cv]) b→At D bY 0 [qI b.chairs,qI b.coin,qI b.box,lv,cv]→At D bF 0 [.func (.func 87) #[] #[qP bf,qP bY,qP bF]]→
  BA prog 87 [ov,qI (f:Int),qI (mm:Int),qP bf,qP bY,qP bF] D [(bf,qC [fv] 25)] (fun D' v ν'=>v=.bool (aJX b mm f out fnd).1∧∃fv',ν'=[(bf,qC [fv'] 25)]∧Sl D' RI 1 fv' (aJX b mm f out fnd).2):=by
 intro mm;induction mm using Nat.strongRecOn with
 |_ mm ih=>
 intro f out ov fnd fv D hlen ho hfd hb hY hF;have hl8:=hbo.l8;have hc4:=hbo.c4;obtain⟨lv0,cv0,he,hl,hc⟩:=id hb;cases he;refine iR 39 func87 rfl rfl rfl rfl (fun h0 hwl hwn=>aA<|Zj rfl<|bW<|Za rfl<|Zan rfl<|aG<|Zz rfl (fun hS=>?_) (fun hS=>?_))
 ·obtain rfl:mm=0:=by omega
  refine aA<|Za rfl<|bJ rfl rfl rfl ho.cells1 oQ .head Ye rfl ho.cell1 bCV<|aK<|Zs rfl eL rfl hY dO<|Za rfl<|Zt rfl (fun D1 Y=>PV _ _ b out _ (hb.up (Y _ Ye)) (ho.up RI.up (Y _ Ye)) Yd Yd Yd hca) (fun v1 D1 Y hX=>Zc rfl (fun D2 rA=>Y2 _ (P1 b out) _ (hX.up (rA _ Ye)) (KX hbo out))<|Zj rfl<|aH<|Zas ?_);exact Zac [] [] [_] [_] rfl ⟨rfl,bCV⟩ rfl (fun D' hD=>⟨rfl,ov,rfl,ho.up RI.up (hD _ Ye)⟩)
 ·obtain⟨m,rfl⟩:∃k,mm=k+1:=⟨mm-1,by omega⟩
  refine aZ<|dV<|Za rfl<|Zj rfl<|aG<|Zar<|dB (γ:=Nat×List Int×Value×aC) (fun g=>b.lines.length+1-g.1) (fun g=>f≤g.1∧aJX b (m+1) f out fnd=O3 (fun i fnd=>aJX b m (i+1) (out++[(i:Int)]) fnd) (List.range' g.1 (b.lines.length-m-g.1)) g.2.1∧Sl g.2.2.2 RI 1 g.2.2.1 g.2.1) (fun g=>[(10,qI (g.1:Int))]) [(9,_),(0,_),(2,_),(4,_),(5,_)] (fun g=>[(bf,qC [g.2.2.1] 25)]) (fun g=>[g.2.2.2,D]) (f,fnd,fv,D) ⟨by simp,rfl,hfd⟩ ⟨Yb,bCV⟩ bA Mm5 ((fun D0 h=>by simp only[GE,n3,bAO,or_self]at h;exact⟨D,by simp,h▸Le.refl _⟩)) ?_;rintro⟨i,V,Z,Dn⟩ ⟨h1,hin,U⟩;simp only at h1 hin U;refine dV<|Za rfl<|Zh rfl cQ rfl<|Zf 3 rfl eX rfl hY rfl<|Zab rfl U33 rfl hl rfl<|Za rfl<|hU rfl rfl rfl Yg rfl bCV<|mL rfl rfl rfl rfl bCV<|aG<|Zz rfl (fun hc2=>?_) (fun hc2=>?_)
  ·simp only at hc2;have hge:i<b.lines.length-m:=by omega
   refine aZ<|aO<|Zar<|aO<|lC (eQ.mk [bF]) 3 [false,true,true,true,true,true,true,true,true,true,false] [.fork [0,1,3,6,7,8,9] 2 (.fin [4]) 4 (.fin [2]),.fin [5,10]] bI (fun _ _ _ h=>jF (P:=prog) (fn:=f87) _ _ _ h) Yf<|oJ<|bL [(false,0),(true,1),(true,3),(true,6),(true,7),(true,8),(true,9)] rfl<|dT rfl (k:=0) VJ rfl hF Ye rfl (eQ.out Ye) rfl bCV<|Za rfl<|Za rfl<|Za rfl<|Zaa rfl ?_;refine Za rfl<|hU rfl rfl rfl Yg rfl bCV ?_;rw[show(((m+1:Nat):Int)-1)=(m:Int) by omega];refine Zae (dP true true rfl rfl ?_ ?_)
   ·refine fM rfl rfl rfl (fun D7 hB=>L7.vM _ out _ (ho.up RI.up (hB _ Ye)) Yd) rfl bCV (fun v6 D8 ν6 rB hE=>Zae<|aS [(true,4)] rfl<|Zn rfl U25 aL dR rfl (.cons rfl rfl .nil) (fun hM hN hH M=>?_));have hAp:=M;refine Zae<|kQ [(true,5),(false,10)] rfl<|cJ hF Ye (fun hap=>bE (A:=[]) (B:=[(_,_)]) rfl U25 rfl rfl aL dR rfl nV rfl rfl rfl hE (mK.lit hAp) Ye rfl Ye Yj Yd (aXR (fun p hp=>eQ.in_ Yal)) rfl bCV (fun v7 ν7 hI=>?_));have ha7':bZ 3 1 v7 (out.length+1) (ints (out++[(i:Int)])) ν7:=by simpa [ints]using hI
    refine uR (A:=[]) (B:=[(_,_)]) ha7' (fun k hk=>hk) (fun D20 hO O=>?_);have hJ:=O.ints Ye Yd;refine fJ (A:=[]) (ν:=[(_,_)]) (B:=[]) rfl rfl rfl rfl (aYF rfl) aIZ (fun D9 G=>ih m Yd (i+1) (out++[(i:Int)]) v7 V Z _ Yam (hJ.up RI.up (G _ Ye)) (U.up RI.up (G _ Ye)) (hb.up (G _ Ye)) (hY.up (G _ Ye)) (hF.up (G _ Ye))) rfl bCV (fun v9 D10 _ hR hK=>?_);obtain⟨rfl,R,rfl,T⟩:=hK;refine Zae<|kU<|Zap<|aW rfl (fun I=>?_) (fun I=>?_)
    ·refine aA<|Zj rfl<|aH<|Zav<|Zas<|Zas<|Zav<|Zas ?_;exact Zac [] [] [_] [_] rfl ⟨rfl,bCV⟩ rfl (fun D' hD=>⟨by rw[hin,xU hge I];rfl,R,rfl,by rw[hin,xU hge I];exact T.up RI.up (hD _ Ye)⟩)
    ·refine cB<|Zat<|Zap<|aX<|Za rfl<|Zaa rfl<|Zj rfl<|Zae ?_;exact aM 22 (i+1,_,R,D10) ⟨by simp only;omega,by simp only;rw[hin,HW hge I],T⟩ Yo ⟨Yb,bCV⟩ rfl rfl Mm5 Yx
   ·refine Zn rfl U25 aL dR rfl (.cons rfl rfl .nil) (fun hM hN hH M=>?_);have hAp:=M;refine Zae<|aS [(true,2)] rfl<|fM rfl rfl rfl (fun D7 hB=>L7.vM _ out _ (ho.up RI.up (hB _ Ye)) Yd) rfl bCV (fun v6 D8 ν6 rB hE=>Zae<|kQ [(true,5),(false,10)] rfl<|cJ hF Ye (fun hap=>bE (A:=[]) (B:=[(_,_)]) rfl U25 rfl rfl aL dR rfl nV rfl rfl rfl hE (mK.lit hAp) Ye rfl Ye Yj Yd (aXR (fun p hp=>eQ.in_ Yal)) rfl bCV (fun v7 ν7 hI=>?_)));have ha7':bZ 3 1 v7 (out.length+1) (ints (out++[(i:Int)])) ν7:=by simpa [ints]using hI
    refine uR (A:=[]) (B:=[(_,_)]) ha7' (fun k hk=>hk) (fun D20 hO O=>?_);have hJ:=O.ints Ye Yd;refine fJ (A:=[]) (ν:=[(_,_)]) (B:=[]) rfl rfl rfl rfl (aYF rfl) aIZ (fun D9 G=>ih m Yd (i+1) (out++[(i:Int)]) v7 V Z _ Yam (hJ.up RI.up (G _ Ye)) (U.up RI.up (G _ Ye)) (hb.up (G _ Ye)) (hY.up (G _ Ye)) (hF.up (G _ Ye))) rfl bCV (fun v9 D10 _ hR hK=>?_);obtain⟨rfl,R,rfl,T⟩:=hK;refine Zae<|kU<|Zap<|aW rfl (fun I=>?_) (fun I=>?_)
    ·refine aA<|Zj rfl<|aH<|Zav<|Zas<|Zas<|Zav<|Zas ?_;exact Zac [] [] [_] [_] rfl ⟨rfl,bCV⟩ rfl (fun D' hD=>⟨by rw[hin,xU hge I];rfl,R,rfl,by rw[hin,xU hge I];exact T.up RI.up (hD _ Ye)⟩)
    ·refine cB<|Zat<|Zap<|aX<|Za rfl<|Zaa rfl<|Zj rfl<|Zae ?_;exact aM 22 (i+1,_,R,D10) ⟨by simp only;omega,by simp only;rw[hin,HW hge I],T⟩ Yo ⟨Yb,bCV⟩ rfl rfl Mm5 Yx
  ·simp only at hc2;have hge:¬i<b.lines.length-m:=by omega
   refine aT<|Zaq<|Zaq<|Zau<|Zap<|aA<|Zj rfl<|aH ?_;exact Zac [] [] [_] [_] rfl ⟨rfl,bCV⟩ rfl (fun D' hD=>⟨by rw[hin,s8 hge];rfl,Z,rfl,by rw[hin,s8 hge];exact U.up RI.up (hD _ Ye)⟩)
theorem aHS(bv:Value)(b:bG)(D:aC)(hb:fY D bv b):Fn prog 48 #[bv] D (fun D' v=>∃lv,v=.tuple #[lv,qI (eS b).2]∧Sl D' RI 1 lv (eS b).1):=by
 have U:=hb;obtain⟨lv,cv,rfl,hl,hc⟩:=hb;have hll:=hl.len;refine enter 30 func48 rfl rfl rfl rfl fun h0=>aA<|Zv rfl (fun q1 E1 hK R=>Zj rfl<|Zj rfl<|aG<|HP<|dV<|Zs rfl eL rfl R dO<|Zc rfl (fun D1 hB=>wM _ b _ (U.up (hB _ Ye)))<|Zj rfl<|aK ?_);refine Za rfl<|Zam rfl<|aG<|Zz rfl (fun V=>?_) (fun V=>?_)
 ·refine aA<|Za rfl<|Zj rfl<|Zj rfl<|aH<|Zas<|wV ?_;exact jK (vs:=[_,_]) rfl rfl rfl bA (fun D hD=>OV V)
 ·have M:bB b=0:=by omega
  have hbo:=aWA M;have hM:=hbo.l8;have hca:=aAF M;refine aZ<|aA<|Zw rfl aDP rfl (fun q2=>aK<|Zw rfl aPV rfl (fun q3=>aK<|Zao rfl<|Zm rfl aKM (bO.head) rfl<|aK<|Zj rfl<|bR<|b8 ?_));refine Zap<|aO<|aO<|yP (A:=[]) (b:=q3) (cells:=[.func (.func 87) #[] #[qP q2,qP q1,qP q3]]) rfl (fun G hI hF=>aX<|Zh rfl cQ rfl<|Zf 3 rfl eX rfl R rfl<|Zab rfl U33 rfl hl rfl<|Zaa rfl<|Za rfl<|aG<|Zar ?_);refine dB (γ:=Nat×List Int×Value×aC) (fun g=>b.lines.length+1-g.1) (fun g=>g.1≤b.lines.length+1∧O3 (fun m fnd=>aJX b m 0 [] fnd) (List.range' 0 (b.lines.length+1-0)) []=O3 (fun m fnd=>aJX b m 0 [] fnd) (List.range' g.1 (b.lines.length+1-g.1)) g.2.1∧Sl g.2.2.2 RI 1 g.2.2.1 g.2.1) (fun g=>[(19,qI (g.1:Int)),(7,.bool false)]) [(18,_),(6,_),(5,_),(3,_),(2,_)] (fun g=>[(q2,qC [g.2.2.1] 25)]) (fun g=>[g.2.2.2,G,E1,D]) (0,[],qN,G) ⟨by simp,rfl,Sl.nil⟩ ⟨Yb,Yb,bCV⟩ bA Mm5 ((fun D0 h=>by simp only[GE,n3,bAO]at h;rcases h with h|h|h|h;exact⟨G,by simp,h▸Le.refl _⟩;exact⟨G,by simp,h▸Le.refl _⟩;exact⟨E1,by simp,h▸Le.refl _⟩;exact⟨D,by simp,h▸Le.refl _⟩)) ?_
  rintro⟨m,fnd,fv,Dn⟩ ⟨h1,hin,hfd⟩;simp only at h1 hin hfd;refine aA<|Zai rfl<|bR<|Zz rfl (fun hc2=>?_) (fun hc2=>?_)
  ·simp only at hc2;have hm:m<b.lines.length+1:=by omega
   refine aZ<|aO<|Zar<|aA<|Za rfl<|Zj rfl<|aK<|Zf 0 rfl VJ rfl hF rfl<|Za rfl<|fJ (A:=[]) (ν:=[(_,_)]) (B:=[]) rfl rfl rfl rfl (aYF rfl) aIZ (fun D9 O=>aUN hbo hca m 0 [] (qN) fnd fv _ Yam Sl.nil (hfd.up RI.up (O _ Ye)) (U.up (O _ Ye)) (R.up (O _ Ye)) (hF.up (O _ Ye))) rfl bCV (fun v9 D10 _ hJ hE=>?_);obtain⟨rfl,hH,rfl,Y⟩:=hE;refine Zj rfl<|aK<|Za rfl<|aG<|aW rfl (fun I=>?_) (fun I=>?_)
   ·refine aT<|pS rfl<|Zaq<|Zaq<|Zau<|Zap<|dV<|Za rfl<|Zak rfl<|aG<|aW rfl (fun T=>?_) (fun T=>?_)
    ·rw[I]at T;cases T
    ·refine aZ<|aA<|Zp rfl dS rfl Mm0 rfl<|Zj rfl<|Zj rfl<|aH<|wV ?_;exact jK (vs:=[_,_]) rfl rfl rfl bA (fun D hD=>aBJ M (by rw[hin,xU hm I]) (Y.up RI.up (hD _ Ye)))
   ·refine cB<|Zat<|Zap<|aX<|Zaa rfl<|Za rfl<|Zae ?_;exact aM 12 (m+1,_,hH,D10) ⟨by simp only;omega,by simp only;rw[hin,HW hm I],Y⟩ Yo ⟨Yb,(by show some (Value.bool _)=some (Value.bool false);rw[I]),bCV⟩ rfl rfl Mm5 (fun D0 h=>by simp only[GE,n3,bAO]at h;rcases h with h|h|h|h;exact⟨D10,by simp,h▸Le.refl _⟩;exact⟨G,by simp,h▸Le.refl _⟩;exact⟨E1,by simp,h▸Le.refl _⟩;exact⟨D,by simp,h▸Le.refl _⟩)
  ·simp only at hc2;have hm:¬m<b.lines.length+1:=by omega
   refine aT<|Zaq<|Zaq<|Zau<|Zap<|dV<|Za rfl<|Zak rfl<|aG<|aW rfl (fun Z=>?_) (fun Z=>?_)
   ·refine aA<|Zj rfl<|Zj rfl<|aH<|Zas<|wV ?_;exact jK (vs:=[_,_]) rfl rfl rfl bA (fun D hD=>WN M (by rw[hin,s8 hm]))
   ·cases Z
end L3
namespace L7
open C7
theorem MI{y:bQ}{out:List Int}:∀(ts:List (List Pt)) (acc:List (Sc×Nat)),(∀p∈acc,p.2=tQ y.chairs.length p.1)→∀p,p∈ts.foldl (qR y out) acc ↔ p∈acc∨∃t∈ts,qF y.claims out (s4 y t:Int)=true∧p=(eM y t,s4 y t)
 | [],acc,_,p=>by simp
 |t::ts,acc,h,p=>by
  rw[aZY];have h':∀p∈qR y out acc t,p.2=tQ y.chairs.length p.1:=fun p hp=>by
   unfold qR at hp;split at hp
   ·rcases aYD.1 hp with hp|hp
    ·exact h p hp
    ·simp only[aYH]at hp;subst hp;rfl
   ·exact h p hp
  rw[MI ts _ h' p];have key:p∈qR y out acc t ↔ p∈acc∨(qF y.claims out (s4 y t:Int)=true∧p=(eM y t,s4 y t)):=by
   unfold qR;split
   ·rename_i hc;rw[aYB]at hc;rw[aYD,aYH];exact⟨fun h=>h.imp id fun e=>⟨hc.1,e⟩,fun h=>h.imp id fun e=>e.2⟩
   ·rename_i hc;refine⟨aYF,fun h3=>?_⟩;rcases h3 with h3|⟨hr,rfl⟩
    ·exact h3
    ·have hr':qF y.claims out (tQ y.chairs.length (eM y t):Int)=true:=hr;rw[hr',bBL,Bool.not_eq_true,bAB,aZK,Bool.not_eq_false',bCC]at hc;obtain⟨G,hc2⟩:=hc;have hne:acc≠[]:=fun e=>G (by rw[e];rfl)
     unfold J7 at hc2;rw[bAV hne]at hc2;have h4:=aKJ hc2;have h5:=h _ (List.getLast_mem hne);have:acc.getLast hne=(eM y t,s4 y t):=Prod.ext h4 (by rw[h5,h4];rfl)
     rw[←this];exact List.getLast_mem hne
  rw[key];constructor
  ·rintro((h1|h1)|⟨s,h1,h2⟩)
   ·exact aYF h1
   ·exact aXR ⟨t,aXW,h1⟩
   ·exact aXR ⟨s,LE _ h1,h2⟩
  ·rintro(h1|⟨s,h1,h2⟩)
   ·exact aYF (aYF h1)
   ·rcases GE.1 h1 with rfl|h1
    ·exact aYF (aXR h2)
    ·exact aXR ⟨s,h1,h2⟩
theorem PN{y:bQ}{out:List Int}{p:Sc×Nat}:p∈fZ y out ↔∃t,rF y t=true∧qF y.claims out (s4 y t:Int)=true∧p=(eM y t,s4 y t):=by
 unfold fZ;rw[MI _ _ Ye];simp only[n3,false_or,JX]
theorem ZV{y:bQ}(h:aXF y)(out:List Int):∀s∈(fZ y out).map fun p=>p.1,JI y.chairs.length s:=fun s hs=>by
 obtain⟨p,hp,rfl⟩:=n4.1 hs;obtain⟨t,ht,_,rfl⟩:=PN.1 hp;obtain⟨hl,_⟩:=aLV ht;have:=h.len;exact CJ hl Yd
def oD(y:bQ):List (Int×Int)×Int×Int:=if bB y≠0 then([],0,bB y)else if fZ y []=[]then([],0,11)else
 (((LN y y.chairs.length 0 0 []).foldl (TQ ((fZ y []).map fun p=>p.1)) ([], -1)).1,((LN y y.chairs.length 0 0 []).foldl (TQ ((fZ y []).map fun p=>p.1)) ([], -1)).2,0)
theorem WZ{y:bQ}{D:aC}(h:bB y≠0):∃lv,Value.tuple #[qN,qI 0,qI (bB y)]=.tuple #[lv,qI (oD y).2.1,qI (oD y).2.2]∧Sl D R2 2 lv (oD y).1:=by
 rw[oD,aYJ h];exact⟨_,rfl,Sl.nil⟩
theorem aAP{y:bQ}{D:aC}(h:bB y=0)(hn:fZ y []=[]):∃lv,Value.tuple #[qN,qI 0,qI 11]=.tuple #[lv,qI (oD y).2.1,qI (oD y).2.2]∧Sl D R2 2 lv (oD y).1:=by
 rw[oD,aYC Yd,aYJ hn];exact⟨_,rfl,Sl.nil⟩
theorem aFM{y:bQ}{D:aC}{lv:Value}(h:bB y=0)(hn:((fZ y []).map fun p=>p.1)≠[])(hS:Sl D R2 2 lv ((LN y y.chairs.length 0 0 []).foldl (TQ ((fZ y []).map fun p=>p.1)) ([], -1)).1):∃lv',Value.tuple #[lv,qI ((LN y y.chairs.length 0 0 []).foldl (TQ ((fZ y []).map fun p=>p.1)) ([], -1)).2,qI 0]=.tuple #[lv',qI (oD y).2.1,qI (oD y).2.2]∧Sl D R2 2 lv' (oD y).1:=by
 rw[oD,aYC Yd,aYC (fun e=>hn (by rw[e];rfl))];exact⟨_,rfl,hS⟩
theorem VF(yv:Value)(y:bQ)(D:aC)(hy:lM D yv y):Fn prog 52 #[yv] D (fun D' v=>∃lv,v=.tuple #[lv,qI (oD y).2.1,qI (oD y).2.2]∧Sl D' R2 2 lv (oD y).1):=by
 have V:=hy;obtain⟨cv,qv,rfl,hc,hq⟩:=hy;refine enter 30 func52 rfl rfl rfl rfl fun h0=>aA<|Zv rfl (fun q1 E1 hM M=>Zw rfl aKH rfl (fun q2=>Zw rfl dR rfl (fun q3=>Zj rfl<|bW<|Zs rfl jP rfl M iD<|Zc rfl (fun D1 Y=>xE _ y _ (V.up (Y _ Ye)))<|Zj rfl<|aK<|Za rfl ?_)));refine Zam rfl<|aG<|Zz rfl (fun R=>?_) (fun R=>?_)
 ·refine aA<|Za rfl<|Zm rfl b9 (.tail (bO.head)) rfl<|Zm rfl aL (bO.head) rfl<|Zj rfl<|aH<|Zas ?_;exact Zl [_,_,_] rfl ⟨⟨_,_,_,rfl,Mm1,Or.inl ⟨b7,rfl⟩⟩,⟨_,_,_,rfl,Mm0,Or.inl ⟨aI,rfl⟩⟩,rfl,bCV⟩ (fun D hD=>WZ R)
 ·have O:bB y=0:=by omega
  have hyo:=aXQ O;have Z:=hyo.len;refine aZ<|aA<|Zs rfl jP rfl M iD<|fM (μ:=_) rfl rfl rfl (fun D5 hN=>c8 _ y _ _ D5 rfl) rfl bCV (fun v5 D6 _ hO hB=>?_);obtain⟨wb,mb,rfl,rfl⟩:=hB;refine Zj rfl<|aK<|Za rfl<|aJ ([]++[(_,_),(_,_)]++([(_,_),(_,_)])) rfl<|fJ (A:=[]) (ν:=[(_,_),(_,_)]) (B:=[(_,_),(_,_)]) rfl rfl rfl rfl (aYF rfl) (EN (cs:=[_,_,_,_])) (fun D7 T=>DB wb mb _ _ y [] _ Z hyo.fit hyo.size #[] 0 [] _ (hc.up wB.up (T _ Ye)) (hq.up R2.up (T _ Ye)) Sl.nil rfl BV.nil) rfl bCV (fun v7 D8 _ hR hE=>?_);obtain⟨sv,mv,rfl,hsv,hmv,hS,hX,M1,rfl,hY,hH⟩:=hE;refine Za rfl<|Zad rfl<|Zad rfl<|Zw rfl TO rfl (fun q4=>bJ rfl rfl rfl hsv.cells1 P8 .head Ye rfl hsv.cell1 bCV<|Zj rfl<|bR<|aO<|yP (A:=[]) (b:=q4) (cells:=[sv]) rfl (fun rA hI hV=>aX<|Zf 0 rfl tW rfl hV rfl<|Zab rfl U210 rfl hsv rfl ?_));refine Zan rfl<|aG<|Zz rfl (fun hc2=>?_) (fun hc2=>?_)
  ·have hnil:fZ y []=[]:=by simpa using hc2
   refine aA<|Zm rfl b9 (.tail (.tail (.tail (bO.head)))) rfl<|Zm rfl aL (.tail (.tail (bO.head))) rfl<|Zj rfl<|aH<|Zas ?_;exact Zl [_,_,_] rfl ⟨⟨_,_,_,rfl,Mm3,Or.inl ⟨b7,rfl⟩⟩,⟨_,_,_,rfl,Mm2,Or.inl ⟨aI,rfl⟩⟩,rfl,bCV⟩ (fun D hD=>aAP O hnil)
  ·have hne:((fZ y []).map fun p:Sc×Nat=>p.1)≠[]:=fun e=>hc2 (by rw[e];rfl)
   have hsc:=ZV hyo [];refine aZ<|aA<|Zm rfl aL (.tail (.tail (bO.head))) rfl<|aK<|Zw rfl aOA rfl (fun q5=>aK<|Zao rfl<|Zm rfl aOR (bO.head) rfl<|bR<|yP (A:=[]) (b:=q5) (cells:=[.func (.func 100) #[] #[qP q1,qP q4,qP q3,qP q2,qP q5]]) rfl (fun rB hJ hF=>aX<|Zf 0 rfl GB rfl hF rfl ?_));refine aJ ([(_,_),(_,_)]++[(_,_),(_,_)]++([])) rfl<|fJ (A:=[(_,_),(_,_)]) (ν:=[(_,_),(_,_)]) (B:=[]) rfl rfl rfl rfl (aYF rfl) FJ (fun D11 G=>aUC hyo hne hsc y.chairs.length 0 Yd 0 [] (qN) [] (-1) (qN) _ Yd Yi Ye Sl.nil Sl.nil (hc.up wB.up (G _ Ye)) (hq.up R2.up (G _ Ye)) (M.up (G _ Ye)) (hV.up (G _ Ye)) (hsv.up NH.up (G _ Ye)) (hF.up (G _ Ye))) rfl bCV (fun v11 D12 _ hK U=>?_);obtain⟨pv1,rfl,I⟩:=U;refine bR<|bM [] 1 5 6<|Zp rfl b7 rfl Mm3 rfl<|Zp rfl aI rfl Mm2 rfl<|o6 rfl rfl rfl I.cells1 b9 (.tail (.tail (.tail .head))) Ye rfl I.cell1 bCV<|Zm rfl aL (.tail (.tail (bO.head))) rfl<|Zj rfl<|aH ?_;exact Zl [_,_,_] rfl ⟨⟨_,_,_,rfl,Mm3,Or.inl ⟨b7,rfl⟩⟩,⟨_,_,_,rfl,Mm2,Or.inl ⟨aI,rfl⟩⟩,rfl,bCV⟩ (fun D hD=>aFM O hne (I.up R2.up (hD _ Ye)))
end L7
namespace L12
open C12
def fW(s:aQ):Int:=if C1.eG s.row true≠0 then 11 else if C2.bB s.table≠0 then 9 else if C2.nP s.table true≠0 then 11 else if C3.bB s.book≠0 then 3 else if C7.bB s.yard≠0 then 3 else if(L7.gC s.yard).2≠0 then 11 else 0
section
variable{s:aQ}{v:Value}
theorem YA(h:C1.eG s.row true≠0)(e:v=fE 11):fW s≠0∧v=fE (fW s):=by unfold fW;rw[aYJ h];exact⟨by decide,e⟩
theorem WF(h0:C1.eG s.row true=0)(h:C2.bB s.table≠0)(e:v=fE 9):fW s≠0∧v=fE (fW s):=by unfold fW;rw[aYC Yd,aYJ h];exact⟨by decide,e⟩
theorem XW(h0:C1.eG s.row true=0)(h1:C2.bB s.table=0)(h:C2.nP s.table true≠0)(e:v=fE 11):fW s≠0∧v=fE (fW s):=by unfold fW;rw[aYC Yd,aYC Yd,aYJ h];exact⟨by decide,e⟩
theorem WJ(h0:C1.eG s.row true=0)(h1:C2.bB s.table=0)(h2:C2.nP s.table true=0)(h:C3.bB s.book≠0)(e:v=fE 3):fW s≠0∧v=fE (fW s):=by unfold fW;rw[aYC Yd,aYC Yd,aYC Yd,aYJ h];exact⟨by decide,e⟩
theorem aBA(h0:C1.eG s.row true=0)(h1:C2.bB s.table=0)(h2:C2.nP s.table true=0)(h3:C3.bB s.book=0)(h:C7.bB s.yard≠0)(e:v=fE 3):fW s≠0∧v=fE (fW s):=by unfold fW;rw[aYC Yd,aYC Yd,aYC Yd,aYC Yd,aYJ h];exact⟨by decide,e⟩
theorem XE(h0:C1.eG s.row true=0)(h1:C2.bB s.table=0)(h2:C2.nP s.table true=0)(h3:C3.bB s.book=0)(h4:C7.bB s.yard=0)(h:(L7.gC s.yard).2≠0)(e:v=fE 11):fW s≠0∧v=fE (fW s):=by unfold fW;rw[aYC Yd,aYC Yd,aYC Yd,aYC Yd,aYC Yd,aYJ h];exact⟨by decide,e⟩
theorem ZM(h0:C1.eG s.row true=0)(h1:C2.bB s.table=0)(h2:C2.nP s.table true=0)(h3:C3.bB s.book=0)(h4:C7.bB s.yard=0)(h5:(L7.gC s.yard).2=0):fW s=0:=by unfold fW;rw[aYC Yd,aYC Yd,aYC Yd,aYC Yd,aYC Yd,aYC Yd]
end
theorem kS(n many:Int)(D:aC):mC prog 251 [qI n,qI many] D [] (fun _ _ ν'=>(n<many)∧ν'=[]) (fun v=>(many≤n)∧v=fE 7):=by
 refine eP 9 func251 rfl rfl rfl rfl (fun h0 hwl hwn=>aX<|Za rfl<|Za rfl<|rZ rfl rfl rfl rfl bCV<|Zn rfl U327 lU nT rfl (.cons rfl rfl .nil) (fun T U O I=>Ze [] [] [] rfl (aXR Yi) (fun Y M=>fG 7 [decide (many≤n)] _ _ ((gZ (l:=[decide (many≤n)]) (fun _ _ _ h=>h) I Ye).up RB.up (M _ Ye))) (fun v5 V M G=>cU (P:=prog) (fn:=f251) rfl ⟨by simpa using G.1,G.2⟩) (fun v5 V ν5 M G=>?_)));obtain⟨R,rfl⟩:=G;refine Zae ?_;exact Zaf [] [] [] [] rfl (fun D' hD=>⟨by simpa using R,rfl⟩)
theorem xI(many most:Int)(D:aC):mC prog 250 [qI many,qI most] D [] (fun _ _ ν'=>(many<most)∧ν'=[]) (fun v=>(most≤many)∧v=fE 3):=by
 refine eP 9 func250 rfl rfl rfl rfl (fun h0 hwl hwn=>aX<|Za rfl<|Za rfl<|rZ rfl rfl rfl rfl bCV<|Zn rfl U327 lU nT rfl (.cons rfl rfl .nil) (fun T U O I=>Ze [] [] [] rfl (aXR Yi) (fun Y M=>fG 3 [decide (most≤many)] _ _ ((gZ (l:=[decide (most≤many)]) (fun _ _ _ h=>h) I Ye).up RB.up (M _ Ye))) (fun v5 V M G=>cU (P:=prog) (fn:=f250) rfl ⟨by simpa using G.1,G.2⟩) (fun v5 V ν5 M G=>?_)));obtain⟨R,rfl⟩:=G;refine Zae ?_;exact Zaf [] [] [] [] rfl (fun D' hD=>⟨by simpa using R,rfl⟩)
theorem tI(n most:Int)(D:aC):mC prog 252 [qI n,qI most] D [] (fun _ _ ν'=>(n≤most)∧ν'=[]) (fun v=>(most<n)∧v=fE 2):=by
 refine eP 9 func252 rfl rfl rfl rfl (fun h0 hwl hwn=>aX<|Za rfl<|Za rfl<|iH rfl rfl rfl rfl bCV<|Zn rfl U327 lU nT rfl (.cons rfl rfl .nil) (fun T U O I=>Ze [] [] [] rfl (aXR Yi) (fun Y M=>fG 2 [decide (most<n)] _ _ ((gZ (l:=[decide (most<n)]) (fun _ _ _ h=>h) I Ye).up RB.up (M _ Ye))) (fun v5 V M G=>cU (P:=prog) (fn:=f252) rfl ⟨by simpa using G.1,G.2⟩) (fun v5 V ν5 M G=>?_)));obtain⟨R,rfl⟩:=G;refine Zae ?_;exact Zaf [] [] [] [] rfl (fun D' hD=>⟨by simpa using R,rfl⟩)
theorem DN(a b most:Int)(D:aC):mC prog 255 [qI a,qI b,qI most] D [] (fun _ _ ν'=>(a≤b∧b≤most)∧ν'=[]) (fun v=>(b<a∨most<b)∧v=fE 2):=by
 refine eP 14 func255 rfl rfl rfl rfl (fun h0 hwl hwn=>aX<|Za rfl<|Za rfl<|iH rfl rfl rfl rfl bCV<|Za rfl<|Za rfl<|iH rfl rfl rfl rfl bCV<|Zn rfl U327 lU nT rfl (.cons rfl rfl (.cons rfl rfl .nil)) (fun T U O I=>Ze [] [] [] rfl (aXR Yi) (fun Y M=>fG 2 [decide (b<a),decide (most<b)] _ _ ((gZ (l:=[decide (b<a),decide (most<b)]) (fun _ _ _ h=>h) I Ye).up RB.up (M _ Ye))) (fun v5 V M G=>cU (P:=prog) (fn:=f255) rfl ⟨by simpa using G.1,G.2⟩) (fun v5 V ν5 M G=>?_)));obtain⟨R,rfl⟩:=G;refine Zae ?_;exact Zaf [] [] [] [] rfl (fun D' hD=>⟨by simpa using R,rfl⟩)
theorem aHQ(sv:Value)(s:aQ)(D:aC)(hs:fN D sv s):mC prog 116 [sv] D [] (fun _ _ ν'=>fW s=0∧ν'=[]) (fun v=>fW s≠0∧v=fE (fW s)):=by
 obtain⟨pv,cv,hv,lv,mv,bl,bc,yc,yq,rfl,hL⟩:=hs;refine eP 52 func116 rfl rfl rfl rfl (fun h0 hwl hwn=>aA<|Zv rfl (fun q1 E1 hE1 Z=>aK<|Zh rfl dJ rfl<|dC rfl (k:=0) iW fX rfl Z Yc rfl rfl n3 rfl bCV<|Zt rfl (fun D1 rA=>L1.aAE _ s.row _ (hL.row.up (rA _ Ye))) (fun v1 D1 rA hp1=>?_)));obtain⟨pl1,rfl,_⟩:=hp1;refine Za rfl<|Zad rfl<|Zad rfl<|Zj rfl<|Zj rfl<|aK<|Za rfl<|Zam rfl<|Zn rfl U327 lU nT rfl (.cons rfl rfl .nil) (fun b901 D901 hD901 hN=>Ze [] [] [] rfl (aXR Yi) (fun D50 hB=>fG 11 [decide (C1.eG s.row true≠0)] _ _ ((gZ (l:=[decide (C1.eG s.row true≠0)]) (fun _ _ _ h=>h) hN Ye).up RB.up (hB _ Ye))) (fun v50 D51 hB M=>cU (P:=prog) (fn:=f116) rfl (YA (by simpa using M.1) M.2)) (fun v50 D51 ν50 hB M=>?_));obtain⟨G,rfl⟩:=M;refine aK<|Zh rfl cT rfl<|dC rfl (k:=4) gY eW rfl Z Yc rfl rfl n3 rfl bCV<|Zc rfl (fun D2 hD2=>L2.B3 _ s.table _ (hL.table.up (hD2 _ Ye)))<|Zam rfl<|Zn rfl U327 lU nT rfl (.cons rfl rfl .nil) (fun b902 D902 hD902 hO=>Ze [] [] [] rfl (aXR Yi) (fun D52 hE=>fG 9 [decide (C2.bB s.table≠0)] _ _ ((gZ (l:=[decide (C2.bB s.table≠0)]) (fun _ _ _ h=>h) hO Ye).up RB.up (hE _ Ye))) (fun v52 D53 hE O=>cU (P:=prog) (fn:=f116) rfl (WF (by simpa using G) (by simpa using O.1) O.2)) (fun v52 D53 ν52 hE O=>?_));obtain⟨I,rfl⟩:=O;refine aK<|Zh rfl cT rfl<|dC rfl (k:=4) gY eW rfl Z Yc rfl rfl n3 rfl bCV<|Zt rfl (fun D3 rB=>L2.vA _ s.table _ (hL.table.up (rB _ Ye))) (fun v3 D3 rB hp3=>?_);obtain⟨bl3,rfl,_⟩:=hp3;refine Za rfl<|Zad rfl<|Zad rfl<|Zj rfl<|aK<|Za rfl<|Zam rfl<|Zn rfl U327 lU nT rfl (.cons rfl rfl .nil) (fun b903 D903 hD903 hR=>Ze [] [] [] rfl (aXR Yi) (fun D54 hF=>fG 11 [decide (C2.nP s.table true≠0)] _ _ ((gZ (l:=[decide (C2.nP s.table true≠0)]) (fun _ _ _ h=>h) hR Ye).up RB.up (hF _ Ye))) (fun v54 D55 hF R=>cU (P:=prog) (fn:=f116) rfl (XW (by simpa using G) (by simpa using I) (by simpa using R.1) R.2)) (fun v54 D55 ν54 hF R=>?_));obtain⟨T,rfl⟩:=R;refine aK<|Zh rfl eK rfl<|dC rfl (k:=9) eL dO rfl Z Yc rfl rfl n3 rfl bCV<|Zc rfl (fun D4 hD4=>L3.wM _ s.book _ (hL.book.up (hD4 _ Ye)))<|Zam rfl<|Zn rfl U327 lU nT rfl (.cons rfl rfl .nil) (fun b904 D904 hD904 hS=>Ze [] [] [] rfl (aXR Yi) (fun D56 hH=>fG 3 [decide (C3.bB s.book≠0)] _ _ ((gZ (l:=[decide (C3.bB s.book≠0)]) (fun _ _ _ h=>h) hS Ye).up RB.up (hH _ Ye))) (fun v56 D57 hH U=>cU (P:=prog) (fn:=f116) rfl (WJ (by simpa using G) (by simpa using I) (by simpa using T) (by simpa using U.1) U.2)) (fun v56 D57 ν56 hH U=>?_));obtain⟨hI,rfl⟩:=U;refine aK<|Zh rfl dZ rfl<|dC rfl (k:=14) jP iD rfl Z Yc rfl rfl n3 rfl bCV<|Zc rfl (fun D5 hD5=>L7.xE _ s.yard _ (hL.yard.up (hD5 _ Ye)))<|Zam rfl<|Zn rfl U327 lU nT rfl (.cons rfl rfl .nil) (fun b905 D905 hD905 hX=>Ze [] [] [] rfl (aXR Yi) (fun D58 hJ=>fG 3 [decide (C7.bB s.yard≠0)] _ _ ((gZ (l:=[decide (C7.bB s.yard≠0)]) (fun _ _ _ h=>h) hX Ye).up RB.up (hJ _ Ye))) (fun v58 D59 hJ V=>cU (P:=prog) (fn:=f116) rfl (aBA (by simpa using G) (by simpa using I) (by simpa using T) (by simpa using hI) (by simpa using V.1) V.2)) (fun v58 D59 ν58 hJ V=>?_));obtain⟨hM,rfl⟩:=V;refine aK<|Zh rfl dZ rfl<|dC rfl (k:=14) jP iD rfl Z Yc rfl rfl n3 rfl bCV<|Zc rfl (fun D6 hD6=>L7.vA _ s.yard _ (hL.yard.up (hD6 _ Ye)))<|Za rfl<|Zad rfl<|Zad rfl<|Zj rfl<|aG<|aX<|Za rfl<|Zam rfl ?_;refine Zn rfl U327 lU nT rfl (.cons rfl rfl .nil) (fun b906 D906 hD906 hY=>Ze [] [] [] rfl (aXR Yi) (fun D60 hK=>fG 11 [decide ((L7.gC s.yard).2≠0)] _ _ ((gZ (l:=[decide ((L7.gC s.yard).2≠0)]) (fun _ _ _ h=>h) hY Ye).up RB.up (hK _ Ye))) (fun v60 D61 hK Y=>cU (P:=prog) (fn:=f116) rfl (XE (by simpa using G) (by simpa using I) (by simpa using T) (by simpa using hI) (by simpa using hM) (by simpa using Y.1) Y.2)) (fun v60 D61 ν60 hK Y=>?_));obtain⟨hf60,rfl⟩:=Y;refine Zae ?_;exact Zaf [] [] [] [] rfl (fun D' hD=>⟨ZM (by simpa using G) (by simpa using I) (by simpa using T) (by simpa using hI) (by simpa using hM) (by simpa using hf60),rfl⟩)
end L12
namespace L12
open C12
def H1:aQ:=⟨{places:=[2,2,2,2],counts:=[],wrong:=0,off:=1},{last:=3,heights:=[(5,5),(5,5),(5,5),(5,5)],step:=5,levels:=[],marks:=[]},{chairs:=3,coin:=5,box:=20,lines:=[],counts:=[]},{chairs:=[],fit:=1,claims:=[]}⟩
theorem vG(D:aC):Fn prog 63 #[] D (fun D' v=>fN D' v H1):=by
 refine enter 38 func63 rfl rfl rfl rfl fun h0=>aA<|Zw rfl lB rfl (fun T=>aK<|Zw rfl lB rfl (fun U=>aK<|Zh rfl dJ rfl<|Zh rfl vU rfl<|Zm rfl aL (bO.head) rfl<|Zh rfl dZ rfl<|Zh rfl sL rfl<|Zm rfl aL (bO.head) rfl ?_));refine aK<|Zh rfl cT rfl<|Zh rfl jU rfl<|Zm rfl aL (bO.head) rfl<|Zh rfl cT rfl<|Zh rfl sY rfl<|Zm rfl aL (bO.head) rfl<|aK<|Zh rfl eK rfl<|Zh rfl oF rfl<|Zm rfl aL (bO.head) rfl<|Zh rfl eK rfl ?_;refine Zh rfl tC rfl<|Zm rfl aL (bO.head) rfl<|Zh rfl eK rfl<|Zh rfl yE rfl<|Zm rfl aL (bO.head) rfl<|bW<|Za rfl<|aG<|Zar<|dB (γ:=Nat×Value×aD) (fun g=>4-g.1) (fun g=>g.1≤4∧bZ 3 1 g.2.1 g.1 (ints (List.replicate g.1 2)) g.2.2) (fun g=>[(16,qI (g.1:Int))]) [(1,_),(0,_)] (fun g=>g.2.2++[(U,qC [g.2.1,qN,qI 0,qI 1,qI 3,qN,qI 5,qN,qN,qI 3,qI 5,qI 20,qN,qN,qN,qI 1,qN] 42),(T,qC [qN,qN,qI 0,qI 0,qI 0,qN,qI 0,qN,qN,qI 0,qI 0,qI 0,qN,qN,qN,qI 0,qN] 42)]) (fun g=>[D]) (0,qN,[]) ⟨by simp,by simpa [ints]using bZ.nil⟩ ⟨Yb,bCV⟩ bA Mm5 (aE) ?_
 rintro⟨k,v,ν⟩ ⟨h1,ha⟩;simp only at h1 ha;refine aA<|Zai rfl<|bR<|Zz rfl (fun M=>?_) (fun M=>?_)
 ·simp only at M;refine aZ<|aO<|Zar<|aX<|Zh rfl dJ rfl<|Zh rfl eF rfl<|Zp rfl dS rfl (n5 _ Mm0) rfl<|Zn rfl U25 aL dR rfl (.cons rfl rfl .nil) (fun hI hJ V G=>?_);have Y:=Sl.ofInts (l:=[_]) (n:=1) (cap:=1) G rfl Yd Yd;refine bE (A:=[]) (B:=[(_,_),(_,_)]) rfl U25 rfl rfl aL dR rfl nV rfl rfl rfl ha (mK.lit G) Ye rfl (by simp[ints]) Yj Yd (aYF rfl) rfl bCV (fun v1 ν1 O=>?_);have I:bZ 3 1 v1 (k+1) (ints (List.replicate (k+1) 2)) ν1:=by rw[List.replicate_succ',←gS];exact O
  refine Zh rfl dJ rfl<|Zh rfl eF rfl<|aJ (ν1++(U,_)::[(T,_)]) rfl<|bJ rfl rfl rfl O.cells1 oQ (.app .head) Ye rfl O.cell1 bCV<|Zae<|Zat<|Zap<|aX<|Zaa rfl<|Za rfl<|Zae ?_;exact aM 11 (k+1,v1,ν1) ⟨by simp only;omega,I⟩ Yo ⟨Yb,bCV⟩ rfl rfl Mm5 (fun D h=>⟨D,aYK _ (h),Le.refl D⟩)
 ·obtain rfl:k=4:=by simp only at M;omega
  refine aT<|Zaq<|Zaq<|Zau<|Zap<|aO<|aO<|sH (A:=[]) (B:=[(_,_),(_,_)]) ha rfl (fun D8 hN Z=>?_);have hpl:=Z.ints Ye Yd;refine aX<|Za rfl<|aG<|Zar<|dB (γ:=Nat×Value×aD) (fun g=>4-g.1) (fun g=>g.1≤4∧bZ 99 2 g.2.1 g.1 (L2.QZ (List.replicate g.1 (5,5))) g.2.2) (fun g=>[(26,qI (g.1:Int))]) [(1,_),(0,_)] (fun g=>g.2.2++[(U,qC [v,qN,qI 0,qI 1,qI 3,g.2.1,qI 5,qN,qN,qI 3,qI 5,qI 20,qN,qN,qN,qI 1,qN] 42),(T,qC [qN,qN,qI 0,qI 0,qI 0,qN,qI 0,qN,qN,qI 0,qI 0,qI 0,qN,qN,qN,qI 0,qN] 42)]) (fun g=>[D8,D]) (0,qN,[]) ⟨by simp,by simpa [L2.QZ]using bZ.nil⟩ ⟨Yb,bCV⟩ bA Mm5 (aE) ?_;rintro⟨j,u,ω⟩ ⟨h2,hb⟩;simp only at h2 hb;refine aA<|Zai rfl<|bR<|Zz rfl (fun hc2=>?_) (fun hc2=>?_)
  ·simp only at hc2;refine aZ<|aO<|Zar<|aX<|Zh rfl cT rfl<|Zh rfl fA rfl<|Zp rfl lX rfl (n5 _ Mm0) rfl<|Zo [qI 5,qI 5] rfl yT gJ rfl<|Zn rfl U29 cE gJ rfl (.cons rfl rfl .nil) (fun hK hM hB R=>bE (A:=[]) (B:=[(_,_),(_,_)]) rfl U29 rfl rfl cE gJ rfl AK rfl rfl rfl hb (mK.lit R) Ye rfl (by rw[L2.s9];simp) Yj Yd (aYF rfl) rfl bCV (fun v2 ν2 I=>?_))
   have hE:bZ 99 2 v2 (j+1) (L2.QZ (List.replicate (j+1) (5,5))) ν2:=by rw[List.replicate_succ',L2.AR];exact I
   refine Zh rfl cT rfl<|Zh rfl fA rfl<|aJ (ν2++(U,_)::[(T,_)]) rfl<|bJ rfl rfl rfl I.cells1 l7 (.app .head) Ye rfl I.cell1 bCV<|Zae<|Zat<|Zap<|aX<|Zaa rfl<|Za rfl<|Zae ?_;exact aM 12 (j+1,v2,ν2) ⟨by simp only;omega,hE⟩ Yo ⟨Yb,bCV⟩ rfl rfl Mm5 (fun D h=>⟨D,aYK _ (h),Le.refl D⟩)
  ·obtain rfl:j=4:=by simp only at hc2;omega
   refine aT<|Zaq<|Zaq<|Zau<|Zap<|aA<|Zy rfl iU rfl (n5 _ Mm0) dK<|aV rfl rfl rfl rfl dK Ya Ya (.app (.tail (bO.head))) (by simp[cell1];exact⟨ha.cell1 _ Ye,hb.cell1 _ Ye⟩) bCV<|aH<|gR (A:=[]) (B:=[(_,_),(_,_)]) hb rfl (fun D9 hF hH=>?_);have hht:=hH.rgs Ye Yd;exact Zl [_] rfl ⟨⟨_,_,_,rfl,aYK _ Mm0,aXR ⟨iU,dK,rfl⟩⟩,bCV⟩ (fun D hD=>⟨v,qN,u,qN,qN,qN,qN,qN,qN,rfl,(hpl.up RI.up ((hF _ Ye).trans (hD _ Ye))),Sl.nil,hht.up C8.up (hD _ Ye),Sl.nil,Sl.nil,Sl.nil,Sl.nil,Sl.nil,Sl.nil⟩)
end L12
namespace L12
open C12
def cI(n:Int):List Value:=[qI n]
def cC(c:C1.wI):List Value:=[.bool c.back,qI c.many,qI c.num]
def cP(p:Int×Int):List Value:=[qI p.1,qI p.2]
def cM(m:C2.Mk):List Value:=[qI m.frm,qI m.to,qI m.lo,qI m.hi]
def cL(l:C3.gM):List Value:=[qI l.kind,qI l.chair,qI l.token]
def cH(c:C7.Ch):List Value:=[qI c.size,qI c.parts.a,qI c.parts.b,qI c.parts.c]
theorem aIL(n:Int):∀u∈cI n,cell1 u=true:=by intro u hu;simp[cI]at hu;subst hu;rfl
theorem JT(c:C1.wI):∀u∈cC c,cell1 u=true:=by intro u hu;simp[cC]at hu;rcases hu with rfl|rfl|rfl<;>rfl
theorem j5(p:Int×Int):∀u∈cP p,cell1 u=true:=by intro u hu;simp[cP]at hu;rcases hu with rfl|rfl<;>rfl
theorem MQ(m:C2.Mk):∀u∈cM m,cell1 u=true:=by intro u hu;simp[cM]at hu;rcases hu with rfl|rfl|rfl|rfl<;>rfl
theorem LF(l:C3.gM):∀u∈cL l,cell1 u=true:=by intro u hu;simp[cL]at hu;rcases hu with rfl|rfl|rfl<;>rfl
theorem aGN(c:C7.Ch):∀u∈cH c,cell1 u=true:=by intro u hu;simp[cH]at hu;rcases hu with rfl|rfl|rfl|rfl<;>rfl
theorem bS{α:Type}{f:α→List Value}{n:Nat}(h:∀x,(f x).length=n)(xs:List α):(xs.flatMap f).length=xs.length*n:=by
 induction xs with
 |nil=>simp
 |cons x xs ih=>rw[aZD,GT,h,ih,aXY,bAG];omega
theorem gW{α:Type}{f:α→List Value}(h:∀x,∀u∈f x,cell1 u=true)(xs:List α):∀u∈xs.flatMap f,cell1 u=true:=by
 intro u hu;obtain⟨x,_,hx⟩:=bCS.1 hu;exact h x u hx
theorem EA{α:Type}{f:α→List Value}{n:Nat}(h:∀x,(f x).length=n){xs:List α}{i:Nat}{x:α}(hi:xs[i]?= some x)(junk:List Value):((xs.flatMap f++junk).drop (i*n)).take n=f x:=by
 induction xs generalizing i with
 |nil=>simp at hi
 |cons d xs ih=>
  rw[aZD,aYA];cases i with
  |zero=>
   obtain rfl:d=x:=by simpa using hi
   rw[bBS,bBF,aZA (by rw[h];omega),aYO (by rw[h];omega)]
  |succ i=>
   rw[show(i+1)*n=(f d).length+i*n by rw[h,bAG];omega,bBQ];exact ih Yap
theorem kF{α:Type}{R:Rd α}{f:α→List Value}{n:Nat}{D:aC}{v:Value}{xs:List α}(hR:∀D x,R D x (f x))(h:∀x,(f x).length=n)(hF:mH D v xs.length (xs.flatMap f))(hb:xs.length≤10000000):Sl D R n v xs:=
 hF.sl rfl Yd fun i t hi=>⟨f t,hR _ _,h t,by have:=EA h hi [];rwa [aXS]at this⟩
theorem vM(sv:Value)(xs:List Int)(D:aC)(hS:Sl D RI 1 sv xs)(hl:xs.length≤10000000):MZ prog 90 #[sv] D (fun _ v ν=>bZ 3 1 v xs.length (xs.flatMap cI) ν):=by
 obtain⟨a0,c0,rfl⟩:=hS.shape;refine qG 8 func90 rfl rfl rfl rfl fun h0=>aA<|Zj rfl<|bW<|Za rfl<|oI rfl U25 rfl rfl rfl bCV<|aG<|aW rfl (fun G=>?_) (fun G=>?_)
 ·obtain rfl:a0=none:=by simpa using G
  obtain rfl:=rJ hS;refine aA<|Zj rfl<|aH<|Zas ?_;exact aF rfl (fun D' hD=>bZ.nil)
 ·refine aZ<|aA<|Zn rfl U25 aL dR rfl .nil (fun R T I M=>Za rfl<|bE (A:=[]) (ν:=[]) (B:=[]) rfl U25 rfl rfl aL dR rfl nV rfl rfl rfl bZ.nil (mK.of (cells:=cI) (fun _ _ _ h=>h) (fun _=>rfl) hS) Ye (bS (n:=1) (fun _=>rfl) xs) rfl (gW aIL xs) Yd (aYF rfl) rfl bCV (fun U ν1 O=>Zj rfl<|aH ?_));exact aF rfl (fun D' hD=>by show bZ 3 1 U _ _ _;simpa using O)
theorem WH(sv:Value)(xs:List C1.wI)(D:aC)(hS:Sl D RC 3 sv xs)(hl:xs.length≤10000000):MZ prog 192 #[sv] D (fun _ v ν=>bZ 156 3 v xs.length (xs.flatMap cC) ν):=by
 obtain⟨a0,c0,rfl⟩:=hS.shape;refine qG 8 func192 rfl rfl rfl rfl fun h0=>aA<|Zj rfl<|bW<|Za rfl<|oI rfl U26 rfl rfl rfl bCV<|aG<|aW rfl (fun G=>?_) (fun G=>?_)
 ·obtain rfl:a0=none:=by simpa using G
  obtain rfl:=rJ hS;refine aA<|Zj rfl<|aH<|Zas ?_;exact aF rfl (fun D' hD=>bZ.nil)
 ·refine aZ<|aA<|Zn rfl U26 hZ xA rfl .nil (fun R T I M=>Za rfl<|bE (A:=[]) (ν:=[]) (B:=[]) rfl U26 rfl rfl hZ xA rfl TD rfl rfl rfl bZ.nil (mK.of (cells:=cC) (fun _ _ _ h=>h) (fun _=>rfl) hS) Ye (bS (n:=3) (fun _=>rfl) xs) rfl (gW JT xs) Yd (aYF rfl) rfl bCV (fun U ν1 O=>Zj rfl<|aH ?_));exact aF rfl (fun D' hD=>by show bZ 156 3 U _ _ _;simpa using O)
theorem aAW(sv:Value)(xs:List (Int×Int))(D:aC)(hS:Sl D C8 2 sv xs)(hl:xs.length≤10000000):MZ prog 193 #[sv] D (fun _ v ν=>bZ 99 2 v xs.length (xs.flatMap cP) ν):=by
 obtain⟨a0,c0,rfl⟩:=hS.shape;refine qG 8 func193 rfl rfl rfl rfl fun h0=>aA<|Zj rfl<|bW<|Za rfl<|oI rfl U29 rfl rfl rfl bCV<|aG<|aW rfl (fun G=>?_) (fun G=>?_)
 ·obtain rfl:a0=none:=by simpa using G
  obtain rfl:=rJ hS;refine aA<|Zj rfl<|aH<|Zas ?_;exact aF rfl (fun D' hD=>bZ.nil)
 ·refine aZ<|aA<|Zn rfl U29 cE gJ rfl .nil (fun R T I M=>Za rfl<|bE (A:=[]) (ν:=[]) (B:=[]) rfl U29 rfl rfl cE gJ rfl AK rfl rfl rfl bZ.nil (mK.of (cells:=cP) (fun _ _ _ h=>h) (fun _=>rfl) hS) Ye (bS (n:=2) (fun _=>rfl) xs) rfl (gW j5 xs) Yd (aYF rfl) rfl bCV (fun U ν1 O=>Zj rfl<|aH ?_));exact aF rfl (fun D' hD=>by show bZ 99 2 U _ _ _;simpa using O)
theorem WG(sv:Value)(xs:List C2.Mk)(D:aC)(hS:Sl D IM 4 sv xs)(hl:xs.length≤10000000):MZ prog 194 #[sv] D (fun _ v ν=>bZ 158 4 v xs.length (xs.flatMap cM) ν):=by
 obtain⟨a0,c0,rfl⟩:=hS.shape;refine qG 8 func194 rfl rfl rfl rfl fun h0=>aA<|Zj rfl<|bW<|Za rfl<|oI rfl U30 rfl rfl rfl bCV<|aG<|aW rfl (fun G=>?_) (fun G=>?_)
 ·obtain rfl:a0=none:=by simpa using G
  obtain rfl:=rJ hS;refine aA<|Zj rfl<|aH<|Zas ?_;exact aF rfl (fun D' hD=>bZ.nil)
 ·refine aZ<|aA<|Zn rfl U30 iN wE rfl .nil (fun R T I M=>Za rfl<|bE (A:=[]) (ν:=[]) (B:=[]) rfl U30 rfl rfl iN wE rfl VV rfl rfl rfl bZ.nil (mK.of (cells:=cM) (fun _ _ _ h=>h) (fun _=>rfl) hS) Ye (bS (n:=4) (fun _=>rfl) xs) rfl (gW MQ xs) Yd (aYF rfl) rfl bCV (fun U ν1 O=>Zj rfl<|aH ?_));exact aF rfl (fun D' hD=>by show bZ 158 4 U _ _ _;simpa using O)
theorem aAZ(sv:Value)(xs:List C3.gM)(D:aC)(hS:Sl D oB 3 sv xs)(hl:xs.length≤10000000):MZ prog 195 #[sv] D (fun _ v ν=>bZ 160 3 v xs.length (xs.flatMap cL) ν):=by
 obtain⟨a0,c0,rfl⟩:=hS.shape;refine qG 8 func195 rfl rfl rfl rfl fun h0=>aA<|Zj rfl<|bW<|Za rfl<|oI rfl U33 rfl rfl rfl bCV<|aG<|aW rfl (fun G=>?_) (fun G=>?_)
 ·obtain rfl:a0=none:=by simpa using G
  obtain rfl:=rJ hS;refine aA<|Zj rfl<|aH<|Zas ?_;exact aF rfl (fun D' hD=>bZ.nil)
 ·refine aZ<|aA<|Zn rfl U33 bH dU rfl .nil (fun R T I M=>Za rfl<|bE (A:=[]) (ν:=[]) (B:=[]) rfl U33 rfl rfl bH dU rfl iB rfl rfl rfl bZ.nil (mK.of (cells:=cL) (fun _ _ _ h=>h) (fun _=>rfl) hS) Ye (bS (n:=3) (fun _=>rfl) xs) rfl (gW LF xs) Yd (aYF rfl) rfl bCV (fun U ν1 O=>Zj rfl<|aH ?_));exact aF rfl (fun D' hD=>by show bZ 160 3 U _ _ _;simpa using O)
theorem XO(sv:Value)(xs:List C7.Ch)(D:aC)(hS:Sl D wB 4 sv xs)(hl:xs.length≤10000000):MZ prog 196 #[sv] D (fun _ v ν=>bZ 103 4 v xs.length (xs.flatMap cH) ν):=by
 obtain⟨a0,c0,rfl⟩:=hS.shape;refine qG 8 func196 rfl rfl rfl rfl fun h0=>aA<|Zj rfl<|bW<|Za rfl<|oI rfl U37 rfl rfl rfl bCV<|aG<|aW rfl (fun G=>?_) (fun G=>?_)
 ·obtain rfl:a0=none:=by simpa using G
  obtain rfl:=rJ hS;refine aA<|Zj rfl<|aH<|Zas ?_;exact aF rfl (fun D' hD=>bZ.nil)
 ·refine aZ<|aA<|Zn rfl U37 jA zY rfl .nil (fun R T I M=>Za rfl<|bE (A:=[]) (ν:=[]) (B:=[]) rfl U37 rfl rfl jA zY rfl VQ rfl rfl rfl bZ.nil (mK.of (cells:=cH) (fun _ _ _ h=>h) (fun _=>rfl) hS) Ye (bS (n:=4) (fun _=>rfl) xs) rfl (gW aGN xs) Yd (aYF rfl) rfl bCV (fun U ν1 O=>Zj rfl<|aH ?_));exact aF rfl (fun D' hD=>by show bZ 103 4 U _ _ _;simpa using O)
theorem XF(sv:Value)(xs:List (Int×Int))(D:aC)(hS:Sl D R2 2 sv xs)(hl:xs.length≤10000000):MZ prog 197 #[sv] D (fun _ v ν=>bZ 133 2 v xs.length (xs.flatMap cP) ν):=by
 obtain⟨a0,c0,rfl⟩:=hS.shape;refine qG 8 func197 rfl rfl rfl rfl fun h0=>aA<|Zj rfl<|bW<|Za rfl<|oI rfl U38 rfl rfl rfl bCV<|aG<|aW rfl (fun G=>?_) (fun G=>?_)
 ·obtain rfl:a0=none:=by simpa using G
  obtain rfl:=rJ hS;refine aA<|Zj rfl<|aH<|Zas ?_;exact aF rfl (fun D' hD=>bZ.nil)
 ·refine aZ<|aA<|Zn rfl U38 cD jL rfl .nil (fun R T I M=>Za rfl<|bE (A:=[]) (ν:=[]) (B:=[]) rfl U38 rfl rfl cD jL rfl UY rfl rfl rfl bZ.nil (mK.of (cells:=cP) (fun _ _ _ h=>h) (fun _=>rfl) hS) Ye (bS (n:=2) (fun _=>rfl) xs) rfl (gW j5 xs) Yd (aYF rfl) rfl bCV (fun U ν1 O=>Zj rfl<|aH ?_));exact aF rfl (fun D' hD=>by show bZ 133 2 U _ _ _;simpa using O)
end L12
namespace L12
open C12
theorem aXI{α:Type}(a b c d e:List α):a++(b++(c++(d++e)))=(a++(b++(c++d)))++e:=by simp
theorem aXM{α:Type}(a b d e:List α):a++(b++(d++e))=(a++(b++d))++e:=by simp
structure N0(s:aQ):Prop where
 pl:s.row.places.length≤100
 ct:s.row.counts.length≤100
 ht:s.table.heights.length≤100
 lev:s.table.levels.length≤100
 mks:s.table.marks.length≤100
 ln:s.book.lines.length≤100
 ch:s.yard.chairs.length≤100
 cl:s.yard.claims.length≤100
structure aWM(D:aC)(s:aQ)(pv cv hv lv mv bl bc yc yq:Value)(ν1 ν2 ν3 ν4 ν5 ν6 ν7 ν8:aD):Prop where
 pl:bZ 3 1 pv s.row.places.length (s.row.places.flatMap cI) ν1
 ct:bZ 156 3 cv s.row.counts.length (s.row.counts.flatMap cC) ν2
 ht:bZ 99 2 hv s.table.heights.length (s.table.heights.flatMap cP) ν3
 lev:bZ 3 1 lv s.table.levels.length (s.table.levels.flatMap cI) ν4
 mks:bZ 158 4 mv s.table.marks.length (s.table.marks.flatMap cM) ν5
 ln:bZ 160 3 bl s.book.lines.length (s.book.lines.flatMap cL) ν6
 cn:Sl D uN 3 bc s.book.counts
 ch:bZ 103 4 yc s.yard.chairs.length (s.yard.chairs.flatMap cH) ν7
 cl:bZ 133 2 yq s.yard.claims.length (s.yard.claims.flatMap cP) ν8
theorem c8(sv:Value)(s:aQ)(D:aC)(hs:fN D sv s)(hsm:N0 s):MZ prog 115 #[sv] D (fun D' v ν=>∃wb pv cv hv lv mv bl bc yc yq ν1 ν2 ν3 ν4 ν5 ν6 ν7 ν8,v=qP wb∧ν=(wb,qC (cR s pv cv hv lv mv bl bc yc yq) 253)::(ν8++(ν7++(ν6++(ν5++(ν4++(ν3++(ν2++ν1)))))))∧aWM D' s pv cv hv lv mv bl bc yc yq ν1 ν2 ν3 ν4 ν5 ν6 ν7 ν8):=by
 obtain⟨pv,cv,hv,lv,mv,bl,bc,yc,yq,rfl,hL⟩:=hs;unfold cR;refine qG 54 func115 rfl rfl rfl rfl fun h0=>aA<|EJ rfl (e:=42) rfl rfl rfl bCV (fun q1=>Zj rfl<|bR<|lR [] 2 [0,1,2,4,5,6,3,8,9,7,10,11,12,13] [false,false,false,true,true,true,true,false,false,true,false,false,false,false] [(false,0),(false,1),(false,2),(true,4),(true,5),(true,6),(true,3),(false,8),(false,9),(true,7),(false,10),(false,11),(false,12),(false,13)] bI (fun _ _ _ h=>iO (P:=prog) (fn:=f115) _ _ _ h) Yf rfl<|Zh rfl dJ rfl<|Zh rfl eF rfl<|Zp rfl dS rfl Mm0 rfl<|Zh rfl dJ rfl<|Zh rfl iE rfl<|Zp rfl pH rfl Mm0 rfl ?_);refine fM rfl rfl rfl (fun D22 hF=>vM _ s.row.places _ (hL.pl.up RI.up (hF _ Ye)) (by have:=hsm.pl;omega)) rfl bCV (fun G D23 ν1 hR O=>Zh rfl dJ rfl<|Zh rfl eF rfl<|fM rfl rfl rfl (fun D24 hH=>WH _ s.row.counts _ (hL.ct.up RC.up (hH _ Ye)) (by have:=hsm.ct;omega)) rfl bCV (fun I D25 ν2 hS R=>aJ ((ν2++ν1)++(q1,_)::[]) ((aYA _ _ _).symm)<|bJ (ws:=(cR s G cv hv lv mv bl bc yc yq)) rfl rfl rfl O.cells1 oQ (.app .head) Ye rfl O.cell1 bCV<|Zh rfl dJ rfl<|Zh rfl iE rfl<|bJ (ws:=(cR s G I hv lv mv bl bc yc yq)) rfl rfl rfl R.cells1 GU (.app .head) Ye rfl R.cell1 bCV<|bR<|lR [] 2 [0,1,2,4,5,6,8,9,10,3,12,13,7,11,14,15,16,17,18,19,20] [false,false,false,true,true,true,true,true,true,true,false,false,true,true,false,false,false,false,false,false,false] [(false,0),(false,1),(false,2),(true,4),(true,5),(true,6),(true,8),(true,9),(true,10),(true,3),(false,12),(false,13),(true,7),(true,11),(false,14),(false,15),(false,16),(false,17),(false,18),(false,19),(false,20)] bI (fun _ _ _ h=>iO (P:=prog) (fn:=f115) _ _ _ h) Yf rfl<|Zh rfl cT rfl ?_));refine Zh rfl fA rfl<|Zp rfl lX rfl (n5 _ Mm0) rfl<|Zh rfl cT rfl<|Zh rfl jJ rfl<|Zp rfl dS rfl (n5 _ Mm0) rfl<|Zh rfl cT rfl<|Zh rfl iF rfl<|Zp rfl oY rfl (n5 _ Mm0) rfl<|fM rfl rfl rfl (fun D26 hI=>aAW _ s.table.heights _ (hL.ht.up C8.up (hI _ Ye)) (by have:=hsm.ht;omega)) rfl bCV (fun M D27 ν3 hX T=>Zh rfl cT rfl<|Zh rfl fA rfl<|fM rfl rfl rfl (fun D28 hJ=>vM _ s.table.levels _ (hL.lev.up RI.up (hJ _ Ye)) (by have:=hsm.lev;omega)) rfl bCV (fun U D29 ν4 hY V=>?_));refine fM rfl rfl rfl (fun D30 hK=>WG _ s.table.marks _ (hL.mks.up IM.up (hK _ Ye)) (by have:=hsm.mks;omega)) rfl bCV (fun w5 D31 ν5 rA Y=>aJ ((ν5++(ν4++(ν3++(ν2++ν1))))++(q1,_)::[]) (aXI _ _ _ _ _)<|bJ (ws:=(cR s G I M lv mv bl bc yc yq)) rfl rfl rfl T.cells1 l7 (.app .head) Ye rfl T.cell1 bCV<|Zh rfl cT rfl<|Zh rfl jJ rfl<|bJ (ws:=(cR s G I M U mv bl bc yc yq)) rfl rfl rfl V.cells1 oQ (.app .head) Ye rfl V.cell1 bCV<|Zh rfl cT rfl<|Zh rfl iF rfl<|bJ (ws:=(cR s G I M U w5 bl bc yc yq)) rfl rfl rfl Y.cells1 IJ (.app .head) Ye rfl Y.cell1 bCV<|aK<|Zh rfl eK rfl<|Zh rfl cQ rfl ?_);refine Zp rfl eX rfl (n5 _ Mm0) rfl<|fM rfl rfl rfl (fun D32 hM=>aAZ _ s.book.lines _ (hL.ln.up oB.up (hM _ Ye)) (by have:=hsm.ln;omega)) rfl bCV (fun w6 D33 ν6 rB Z=>Zh rfl eK rfl<|Zh rfl cQ rfl<|aJ ((ν6++(ν5++(ν4++(ν3++(ν2++ν1)))))++(q1,_)::[]) ((aYA _ _ _).symm)<|bJ (ws:=(cR s G I M U w5 w6 bc yc yq)) rfl rfl rfl Z.cells1 eH (.app .head) Ye rfl Z.cell1 bCV<|bR<|lR [] 2 [0,1,2,4,5,6,3,8,9,7,10,11,12,13] [false,false,false,true,true,true,true,false,false,true,false,false,false,false] [(false,0),(false,1),(false,2),(true,4),(true,5),(true,6),(true,3),(false,8),(false,9),(true,7),(false,10),(false,11),(false,12),(false,13)] bI (fun _ _ _ h=>iO (P:=prog) (fn:=f115) _ _ _ h) Yf rfl<|Zh rfl dZ rfl<|Zh rfl eR rfl<|Zp rfl kC rfl (n5 _ Mm0) rfl<|Zh rfl dZ rfl ?_);refine Zh rfl iL rfl<|Zp rfl oZ rfl (n5 _ Mm0) rfl<|fM rfl rfl rfl (fun D34 hN=>XO _ s.yard.chairs _ (hL.ch.up wB.up (hN _ Ye)) (by have:=hsm.ch;omega)) rfl bCV (fun w7 D35 ν7 hD35 hB=>Zh rfl dZ rfl<|Zh rfl eR rfl<|fM rfl rfl rfl (fun D36 hO=>XF _ s.yard.claims _ (hL.cl.up R2.up (hO _ Ye)) (by have:=hsm.cl;omega)) rfl bCV (fun w8 D37 ν8 hD37 hE=>aJ ((ν8++(ν7++(ν6++(ν5++(ν4++(ν3++(ν2++ν1)))))))++(q1,_)::[]) (aXM _ _ _ _)<|bJ (ws:=(cR s G I M U w5 w6 bc w7 yq)) rfl rfl rfl hB.cells1 RH (.app .head) Ye rfl hB.cell1 bCV<|Zh rfl dZ rfl<|Zh rfl iL rfl<|bJ (ws:=(cR s G I M U w5 w6 bc w7 w8)) rfl rfl rfl hE.cells1 FP (.app .head) Ye rfl hE.cell1 bCV<|aK ?_));refine Zy rfl iU rfl (n5 _ Mm0) dK<|jB (cs:=(cR s G I M U w5 w6 bc w7 w8)) rfl aOQ aKR rfl Yf rfl bCV<|EJ rfl (e:=253) rfl rfl rfl bCV (fun q2=>Zj rfl<|aH ?_)
 exact fun a w hh=>jK (P:=prog) (fn:=f115) (vs:=[_]) rfl rfl rfl ⟨rfl,bCV⟩ (fun D hD=>⟨q2,G,I,M,U,w5,w6,bc,w7,w8,ν1,ν2,ν3,ν4,ν5,ν6,ν7,ν8,rfl,rfl,O,R,T,V,Y,Z,hL.cn.up uN.up (hD _ Ye),hB,hE⟩) a w (hh.subB (List.Sublist.cons_cons _ (List.sublist_append_left _ _)))
end L12
namespace L12
open C12
theorem WM(wb:Nat)(s:aQ)(pv cv hv lv mv bl bc yc yq nv:Value)(a:Int)(D:aC)(hn:Sl D RI 1 nv [a]):mC prog 173 [qP wb,nv] D [(wb,qC (cR s pv cv hv lv mv bl bc yc yq) 253)] (fun _ _ ν'=>a≤6∧ν'=[(wb,qC [pv,cv,qI a,qI s.row.off,qI s.table.last,hv,qI s.table.step,lv,mv,qI s.book.chairs,qI s.book.coin,qI s.book.box,bl,bc,yc,qI s.yard.fit,yq] 253)]) (fun v=>6<a∧v=fE 2):=by
 refine eP 16 func173 rfl rfl rfl rfl (fun h0 hwl hwn=>aA<|Za rfl<|lH rfl hn rfl rfl (fun R o1=>Ze [(_,_)] [] [] rfl (aXR Yi) (fun T I=>tI a 6 _) (fun v5 O I G=>cU (P:=prog) (fn:=f173) rfl ⟨G.1,G.2⟩) (fun v5 O ν5 I G=>?_)));obtain⟨M,rfl⟩:=G;refine aG<|aX<|Za rfl<|Za rfl<|lH rfl hn rfl rfl (fun b2 o2=>Zaj rfl<|Zh rfl aY rfl<|Zh rfl dJ rfl<|Zh rfl zC rfl<|bJ (ws:=[pv,cv,qI a,qI s.row.off,qI s.table.last,hv,qI s.table.step,lv,mv,qI s.book.chairs,qI s.book.coin,qI s.book.box,bl,bc,yc,qI s.yard.fit,yq]) rfl rfl rfl rfl aL .head Ye rfl Yj bCV<|Zae ?_);exact Zaf [] [] [_] [] rfl (fun D' hD=>⟨M,rfl⟩)
theorem aMH(wb:Nat)(s:aQ)(pv cv hv lv mv bl bc yc yq nv:Value)(a:Int)(D:aC)(hn:Sl D RI 1 nv [a]):mC prog 174 [qP wb,nv] D [(wb,qC (cR s pv cv hv lv mv bl bc yc yq) 253)] (fun _ _ ν'=>a≤9∧ν'=[(wb,qC [pv,cv,qI s.row.wrong,qI a,qI s.table.last,hv,qI s.table.step,lv,mv,qI s.book.chairs,qI s.book.coin,qI s.book.box,bl,bc,yc,qI s.yard.fit,yq] 253)]) (fun v=>9<a∧v=fE 2):=by
 refine eP 16 func174 rfl rfl rfl rfl (fun h0 hwl hwn=>aA<|Za rfl<|lH rfl hn rfl rfl (fun R o1=>Ze [(_,_)] [] [] rfl (aXR Yi) (fun T I=>tI a 9 _) (fun v5 O I G=>cU (P:=prog) (fn:=f174) rfl ⟨G.1,G.2⟩) (fun v5 O ν5 I G=>?_)));obtain⟨M,rfl⟩:=G;refine aG<|aX<|Za rfl<|Za rfl<|lH rfl hn rfl rfl (fun b2 o2=>Zaj rfl<|Zh rfl aY rfl<|Zh rfl dJ rfl<|Zh rfl vU rfl<|bJ (ws:=[pv,cv,qI s.row.wrong,qI a,qI s.table.last,hv,qI s.table.step,lv,mv,qI s.book.chairs,qI s.book.coin,qI s.book.box,bl,bc,yc,qI s.yard.fit,yq]) rfl rfl rfl rfl aL .head Ye rfl Yj bCV<|Zae ?_);exact Zaf [] [] [_] [] rfl (fun D' hD=>⟨M,rfl⟩)
theorem aDZ(wb:Nat)(s:aQ)(pv cv hv lv mv bl bc yc yq nv:Value)(a:Int)(D:aC)(hn:Sl D RI 1 nv [a]):mC prog 176 [qP wb,nv] D [(wb,qC (cR s pv cv hv lv mv bl bc yc yq) 253)] (fun _ _ ν'=>a≤99∧ν'=[(wb,qC [pv,cv,qI s.row.wrong,qI s.row.off,qI s.table.last,hv,qI a,lv,mv,qI s.book.chairs,qI s.book.coin,qI s.book.box,bl,bc,yc,qI s.yard.fit,yq] 253)]) (fun v=>99<a∧v=fE 2):=by
 refine eP 16 func176 rfl rfl rfl rfl (fun h0 hwl hwn=>aA<|Za rfl<|lH rfl hn rfl rfl (fun R o1=>Ze [(_,_)] [] [] rfl (aXR Yi) (fun T I=>tI a 99 _) (fun v5 O I G=>cU (P:=prog) (fn:=f176) rfl ⟨G.1,G.2⟩) (fun v5 O ν5 I G=>?_)));obtain⟨M,rfl⟩:=G;refine aG<|aX<|Za rfl<|Za rfl<|lH rfl hn rfl rfl (fun b2 o2=>Zaj rfl<|Zh rfl aY rfl<|Zh rfl cT rfl<|Zh rfl sY rfl<|bJ (ws:=[pv,cv,qI s.row.wrong,qI s.row.off,qI s.table.last,hv,qI a,lv,mv,qI s.book.chairs,qI s.book.coin,qI s.book.box,bl,bc,yc,qI s.yard.fit,yq]) rfl rfl rfl rfl aL .head Ye rfl Yj bCV<|Zae ?_);exact Zaf [] [] [_] [] rfl (fun D' hD=>⟨M,rfl⟩)
theorem aMM(wb:Nat)(s:aQ)(pv cv hv lv mv bl bc yc yq nv:Value)(a:Int)(D:aC)(hn:Sl D RI 1 nv [a]):mC prog 187 [qP wb,nv] D [(wb,qC (cR s pv cv hv lv mv bl bc yc yq) 253)] (fun _ _ ν'=>a≤9∧ν'=[(wb,qC [pv,cv,qI s.row.wrong,qI s.row.off,qI s.table.last,hv,qI s.table.step,lv,mv,qI s.book.chairs,qI s.book.coin,qI s.book.box,bl,bc,yc,qI a,yq] 253)]) (fun v=>9<a∧v=fE 2):=by
 refine eP 16 func187 rfl rfl rfl rfl (fun h0 hwl hwn=>aA<|Za rfl<|lH rfl hn rfl rfl (fun R o1=>Ze [(_,_)] [] [] rfl (aXR Yi) (fun T I=>tI a 9 _) (fun v5 O I G=>cU (P:=prog) (fn:=f187) rfl ⟨G.1,G.2⟩) (fun v5 O ν5 I G=>?_)));obtain⟨M,rfl⟩:=G;refine aG<|aX<|Za rfl<|Za rfl<|lH rfl hn rfl rfl (fun b2 o2=>Zaj rfl<|Zh rfl aY rfl<|Zh rfl dZ rfl<|Zh rfl sL rfl<|bJ (ws:=[pv,cv,qI s.row.wrong,qI s.row.off,qI s.table.last,hv,qI s.table.step,lv,mv,qI s.book.chairs,qI s.book.coin,qI s.book.box,bl,bc,yc,qI a,yq]) rfl rfl rfl rfl aL .head Ye rfl Yj bCV<|Zae ?_);exact Zaf [] [] [_] [] rfl (fun D' hD=>⟨M,rfl⟩)
end L12
namespace L12
open C12
theorem nN{D:aC}{bt ot n ct:Nat}{a:Int}{l:List Int}(h:Sl D RI 1 (.slice (some ⟨bt,ot,none⟩) n ct) (a::l)):At D bt ot [qI a]:=by
 obtain⟨x,cap,hv,h1,h2,h3⟩:=h;cases hv;rcases h3 with h3|⟨b,o,ha,h3⟩
 ·cases h3
 ·cases ha;obtain⟨cs,hr,hc,hA⟩:=h3 0 a rfl;obtain rfl:cs=[qI a]:=hr;simpa using hA
theorem mS{bt wb:Nat}{o:Obj}{ν:aD}(h1:bt∉aD.ks ((wb,o)::ν))(h2:(aD.ks ((wb,o)::ν)).Nodup):∀p∈ν,p.1∉[bt,wb]:=by
 intro p hp hm;have hk:p.1∈ν.ks:=n4.2 ⟨p,hp,rfl⟩;simp only[GE,n3,bAO]at hm;rcases hm with e|e
 ·exact h1 (LE _ (e▸hk))
 ·exact(aZI.1 h2).1 (e▸hk)
theorem YC(wb:Nat)(s:aQ)(pv cv hv lv mv bl bc yc yq nv:Value)(ν:aD)(D:aC)(ha:bZ 3 1 pv s.row.places.length (s.row.places.flatMap cI) ν)(hsm:s.row.places.length≤100):mC prog 168 [qP wb,nv] D ((wb,qC (cR s pv cv hv lv mv bl bc yc yq) 253)::ν) (fun _ _ ν'=>((s.row.places.length:Int)<7)∧∃O ν1,ν'=(wb,qC (cR s O cv hv lv mv bl bc yc yq) 253)::ν1∧bZ 3 1 O (s.row.places.length+1) ((s.row.places++[2]).flatMap cI) ν1) (fun v=>7≤(s.row.places.length:Int)∧v=fE 3):=by
 refine eP 25 func168 rfl rfl rfl rfl (fun h0 hwl hwn=>aA<|Za rfl<|Zaj rfl<|Zh rfl aY rfl<|Zh rfl dJ rfl<|Zh rfl eF rfl<|Zp rfl dS rfl Mm0 rfl<|fC rfl U25 rfl ha rfl rfl bCV<|Ze [(_,_)] ν [] rfl (Or.inr Yi) (fun D5 R=>xI (s.row.places.length:Int) 7 _) (fun v5 D6 R I=>cU (P:=prog) (fn:=f168) rfl ⟨I.1,I.2⟩) (fun v5 D6 ν5 R I=>?_));obtain⟨T,rfl⟩:=I;refine aG<|aX<|Za rfl<|Za rfl<|Zaj rfl<|Zh rfl aY rfl<|Zh rfl dJ rfl<|Zh rfl eF rfl<|Zp rfl dS rfl Mm0 rfl<|Zn rfl U25 aL dR rfl (.cons rfl rfl .nil) (fun Z hB U G=>?_);have V:=Sl.ofInts (l:=[_]) (n:=1) (cap:=1) G rfl Yd Yd;refine aJ ((wb,qC (cR s pv cv hv lv mv bl bc yc yq) 253)::ν) rfl<|aJ ((wb,qC (cR s pv cv hv lv mv bl bc yc yq) 253)::ν++[]) (aXS _).symm<|bE (A:=[(wb,qC (cR s pv cv hv lv mv bl bc yc yq) 253)]) (B:=[]) rfl U25 rfl rfl aL dR rfl nV rfl rfl rfl ha (mK.lit G) Ye rfl (bS (n:=1) (fun _=>rfl) _) Yj Yd Yp rfl bCV (fun O ν1 M=>aJ ((wb,qC (cR s pv cv hv lv mv bl bc yc yq) 253)::ν1) (aXS _) ?_);have Y:bZ 3 1 O (s.row.places.length+1) ((s.row.places++[2]).flatMap cI) ν1:=by rw[aYP,aZG];exact M
 refine Zaj rfl<|Zh rfl aY rfl<|Zh rfl dJ rfl<|Zh rfl eF rfl<|bJ (ws:=(cR s O cv hv lv mv bl bc yc yq)) rfl rfl rfl M.cells1 oQ .head Ye rfl M.cell1 bCV<|Zae ?_;refine fun a w hh=>kP (P:=prog) (fn:=f168) (A:=[]) (ν':=((wb,_)::ν1)) (B:=[]) (vs:=[]) rfl rfl rfl bCV (fun D' hD=>⟨T,O,ν1,rfl,Y⟩) a w (hh.boxesEq (aXS _).symm)
theorem aAS(wb:Nat)(s:aQ)(pv cv hv lv mv bl bc yc yq nv:Value)(a:Int)(ν:aD)(D:aC)(hn:Sl D RI 1 nv [a])(ha:bZ 3 1 lv s.table.levels.length (s.table.levels.flatMap cI) ν)(hsm:s.table.levels.length≤100):mC prog 177 [qP wb,nv] D ((wb,qC (cR s pv cv hv lv mv bl bc yc yq) 253)::ν) (fun _ _ ν'=>(a≤99∧(s.table.levels.length:Int)<6)∧∃R ν1,ν'=(wb,qC (cR s pv cv hv R mv bl bc yc yq) 253)::ν1∧bZ 3 1 R (s.table.levels.length+1) ((s.table.levels++[a]).flatMap cI) ν1) (fun v=>(99<a∧v=fE 2)∨(a≤99∧6≤(s.table.levels.length:Int)∧v=fE 3)):=by
 obtain⟨bt,ot,ct,rfl⟩:=kJ hn Ye;have hbt:=nN hn;refine eP 32 func177 rfl rfl rfl rfl (fun h0 hwl hwn=>aA<|Za rfl<|cZ rfl hn<|Ze [(_,_)] ν [] rfl (Or.inr Yi) (fun D5 T=>tI a 99 _) (fun v5 D6 T I=>cU (P:=prog) (fn:=f177) rfl (aYF ⟨I.1,I.2⟩)) (fun v5 D6 ν5 T I=>?_));obtain⟨U,rfl⟩:=I;refine aK<|Za rfl<|Zaj rfl<|Zh rfl aY rfl<|Zh rfl cT rfl<|Zh rfl jJ rfl<|Zp rfl dS rfl Mm0 rfl<|fC rfl U25 rfl ha rfl rfl bCV<|Ze [(_,_)] ν [] rfl (Or.inr Yi) (fun D7 V=>xI (s.table.levels.length:Int) 6 _) (fun v7 D8 V M=>cU (P:=prog) (fn:=f177) rfl (aXR ⟨U,M.1,M.2⟩)) (fun v7 D8 ν7 V M=>?_);obtain⟨Y,rfl⟩:=M;refine aG<|lG hbt Ye (fun hap=>xP (fun hnd=>?_));have hnu:=mS hap hnd;have hwbo:wb∉eQ.mk [bt,wb]:=eQ.out Ye;have hbto:bt∉eQ.mk [bt,wb]:=eQ.out Ye;refine cX (eQ.mk [bt,wb]) 4 17 4094<|Za rfl<|Za rfl<|Zaj rfl<|Zh rfl aY rfl<|Zh rfl cT rfl<|Zh rfl jJ rfl<|cF rfl dS rfl Mm0 rfl Yn rfl bCV<|Za rfl<|cZ rfl hn<|Zn rfl U25 aL dR rfl (.cons rfl rfl .nil) (fun hF hH Z G=>?_);have hB:=Sl.ofInts (l:=[_]) (n:=1) (cap:=1) G rfl Yd Yd;refine aJ ((wb,qC (cR s pv cv hv lv mv bl bc yc yq) 253)::ν) rfl<|aJ ((wb,qC (cR s pv cv hv lv mv bl bc yc yq) 253)::ν++[]) (aXS _).symm<|bE (A:=[(wb,qC (cR s pv cv hv lv mv bl bc yc yq) 253)]) (B:=[]) rfl U25 rfl rfl aL dR rfl nV rfl rfl rfl ha (mK.lit G) Ye rfl (bS (n:=1) (fun _=>rfl) _) Yj Yd Yp rfl bCV (fun R ν1 O=>aJ ((wb,qC (cR s pv cv hv lv mv bl bc yc yq) 253)::ν1) (aXS _) ?_);have hE:bZ 3 1 R (s.table.levels.length+1) ((s.table.levels++[a]).flatMap cI) ν1:=by rw[aYP,aZG];exact O
 refine Zaj rfl<|Zh rfl aY rfl<|Zh rfl cT rfl<|Zh rfl jJ rfl<|bJ (ws:=(cR s pv cv hv R mv bl bc yc yq)) rfl rfl rfl O.cells1 oQ .head Ye rfl O.cell1 bCV<|Zae ?_;refine fun a w hh=>kP (P:=prog) (fn:=f177) (A:=[]) (ν':=((wb,_)::ν1)) (B:=[]) (vs:=[]) rfl rfl rfl bCV (fun D' hD=>⟨⟨U,Y⟩,R,ν1,rfl,hE⟩) a w (hh.boxesEq (aXS _).symm)
end L12
end Go.Fs
