/- Of BookReports. -/
import Derived.Test.YtmmdpkkcedmgoaaGreatDoorZBookReportsAD
import Derived.Lib.Split
import Derived.Lib.AtoiTie
import Derived.Lib.AtoiAllCases
import Derived.Lib.ItoaNum
import Derived.WideShapes
import Derived.DefersIn
import Derived.RecoverIn
namespace Go.Fs
open Go.Proofs Tryz
namespace L7
open C7
def l7(s:Sc):List Int:=(s.whole:Int)::(s.broken:Int)::s.fits.map λn:Nat=>(n:Int)
theorem vK(s:Sc)(h:s.fits.length=7):(l7 s).length=9:=by simp[l7,h]
theorem Qs(s:Sc):aCG s=.agg (ints (l7 s)).toArray:=by
 unfold aCG GZ l7 ints;rw[yl,yl,uf];rfl
theorem Yav{s s':Sc}(h:l7 s=l7 s'):s=s':=by
 obtain⟨a,b,c⟩:=s;obtain⟨a',b',c'⟩:=s';simp only[l7,vx]at h;obtain⟨h1,h2,h3⟩:=h;rw[CQ h3,show a=a' by omega,show b=b' by omega]
def BM(acc:List (Sc×Nat)):List Int:=match acc.getLast? with
 |some p=>l7 p.1
 |none=>[]
def uT(y:aS)(out:List Int)(acc:List (Sc×Nat))(t:List Pt):List (Sc×Nat):=
 if(jJ y.claims out (wM y.chairs.length (dQ y t):Int)&&(decide ((acc.length:Int)=0)|| !(BM acc==l7 (dQ y t))))=true then acc++[(dQ y t,wM y.chairs.length (dQ y t))]else acc
def jF(y:aS)(out:List Int)(pre:List (List Int)):List (Sc×Nat):=(pre.map j9).foldl (uT y out) []
def bT(y:aS)(out:List Int):List (Sc×Nat):=(SI y).foldl (uT y out) []
theorem DS(y:aS)(out:List Int):jF y out (C1.bP (kY y.chairs))=bT y out:=rfl
theorem HG(y:aS)(out:List Int)(pre:List (List Int))(x:List Int):jF y out (pre++[x])=uT y out (jF y out pre) (j9 x):=by
 unfold jF;rw[ze,xk];rfl
theorem Gx(y:aS)(out:List Int)(acc:List (Sc×Nat))(t:List Pt):(uT y out acc t).length≤acc.length+1:=by
 unfold uT;split
 ·simp
 ·omega
theorem OA(y:aS)(out:List Int)(pre:List (List Int)):(jF y out pre).length≤pre.length:=by
 have key:∀(l:List (List Pt)) (acc:List (Sc×Nat)),(l.foldl (uT y out) acc).length≤acc.length+l.length:=by
  intro l;induction l with
  |nil=>intro acc;simp
  |cons t l ih=>intro acc;rw[yp];have:=ih (uT y out acc t);have:=Gx y out acc t;rw[zh];omega
 have:=key (pre.map j9) [];simpa [jF]using this
theorem LJ(y:aS)(out:List Int)(pre:List (List Int)):∀p∈jF y out pre,p.1.fits.length=7:=by
 have key:∀(l:List (List Pt)) (acc:List (Sc×Nat)),(∀p∈acc,p.1.fits.length=7)→∀p∈l.foldl (uT y out) acc,p.1.fits.length=7:=by
  intro l;induction l with
  |nil=>intro acc h;exact h
  |cons t l ih=>
   intro acc h;rw[yp];refine ih _ λp hp=>?_
   unfold uT at hp;split at hp
   ·rcases zd.1 hp with hp|hp
    ·exact h p hp
    ·simp only[yf]at hp;subst hp;simp[dQ]
   ·exact h p hp
 exact key _ [] Yf
def AR(l:List Sc):List Γ:=l.flatMap λs=>ints (l7 s)
theorem WQ{l:List Sc}(h:∀s∈l,s.fits.length=7):(AR l).length=l.length*9:=by
 induction l with
 |nil=>rfl
 |cons c l ih=>
  have:=ih λs hs=>h s (GT _ hs)
  unfold AR at this ⊢
  rw[xy,zf,this,aL,vK c (h c zj),zh];omega
theorem LB{acc:List (Sc×Nat)}(h:∀p∈acc,p.1.fits.length=7):(AR (acc.map λp=>p.1)).length=acc.length*9:=by
 rw[WQ λs hs=>by obtain⟨p,hp,rfl⟩:=n5.1 hs;exact h p hp,yh]
theorem WT{l:List Sc}(h:∀s∈l,s.fits.length=7){i:Nat}{s:Sc}(hi:l[i]?= some s)(junk:List Γ):((AR l++junk).drop (i*9)).take 9=ints (l7 s):=by
 induction l generalizing i with
 |nil=>simp at hi
 |cons d l ih=>
  have I:(ints (l7 d)).length=9:=by rw[aL,vK d (h d zj)]
  have hc:AR (d::l)=ints (l7 d)++AR l:=rfl;rw[hc,yy];cases i with
  |zero=>
   obtain rfl:d=s:=wy
   rw[ug,sk,vg Yd,ww Yd]
  |succ i=>
   rw[rd,wl Yd,ya,show(i+1)*9-(ints (l7 d)).length=i*9 by omega];exact ih (λs hs=>h s (GT _ hs)) wy
def aBP:Rd Sc:=λ_ s cs=>cs=ints (l7 s)
theorem aBP.up:aBP.Up:=λ_ _ _ h=>h
theorem _root_.Go.Fs.lB.scs{D:aC}{v:Γ}{n:Nat}{acc:List (Sc×Nat)}(hF:lB D v n (AR (acc.map λp=>p.1)))(hn:(acc.map λp=>p.1).length=n)(hb:n≤9223372036854775807)(h:∀p∈acc,p.1.fits.length=7:=by assumption):Sl D aBP 9 v (acc.map λp=>p.1):=by
 have h':∀s∈acc.map λp=>p.1,s.fits.length=7:=λs hs=>by obtain⟨p,hp,rfl⟩:=n5.1 hs;exact h p hp
 exact hF.sl hn hb λi s hi=>⟨_,C,by rw[aL,vK s (h' s (GE hi))],by have:=WT h' hi [];rwa [yr]at this⟩
theorem MV{acc:List (Sc×Nat)}(h:∀p∈acc,p.1.fits.length=7)(hne:acc≠[]):(BM acc).length=9:=by
 unfold BM;rw[ph hne];exact vK _ (h _ (List.getLast_mem hne))
theorem Br{acc:List (Sc×Nat)}(h:∀p∈acc,p.1.fits.length=7)(hne:acc≠[])(junk:List Γ):((AR (acc.map λp=>p.1)++junk).drop (0+(((acc.length:Int)-1).toNat)*9)).take 9=ints (BM acc):=by
 have h':∀s∈acc.map λp=>p.1,s.fits.length=7:=λs hs=>by obtain⟨p,hp,rfl⟩:=n5.1 hs;exact h p hp
 have hpos:=sn.2 hne;unfold BM;rw[ph hne,wo];refine WT h' ?_ junk;rw[xt,show((acc.length:Int)-1).toNat=acc.length-1 by omega,←List.getLast?_eq_getElem?,ph hne];rfl
theorem Wbs{D:aC}{bo n:Nat}{x:List Int}(h:At D bo 0 (ints x))(hx:x.length=3*n)(hn:n≤7):Sl D RP 3 (qS bo n n) (j9 x):=by
  obtain⟨h1,h2⟩:=RJ _ _ hx;have hle:n≤9223372036854775807∨True:=zt trivial;have key:∀(l:List Pt) (i:Nat) (p:Pt),l[i]?= some p→((ints (C7.pR l)).drop (i*3)).take 3=[qI p.a,qI p.b,qI p.c]:=by
    intro l;induction l with
    |nil=>intro i p hi;simp at hi
    |cons d l ih=>
      intro i p hi;cases i with
      | zero => obtain rfl : d = p := by simpa using hi
                rfl
      |succ i=>
        rw[C7.xB,show(i+1)*3=i*3+3 by omega];exact ih i p wy
  refine⟨_,n,by rw[h2],Yd,?_,zt ⟨bo,0,C,λi p hi=>⟨_,C,C,λj v hj=>?_⟩⟩⟩
  · rw[h2];omega
  · have:=key _ _ _ hi;rw[h1]at this;rw[←this,List.getElem?_take]at hj;split at hj
    · rw[vb]at hj;have:=h _ v hj;rw[show 0+i*3+j=0+(i*3+j) by omega];exact this
    · cases hj
def qq(y:aS)(out:List Int)(pre:List (List Int))(g:Array MapEntry×Nat×List (zA 8×Int)×Γ×aF×Γ×aF):Prop:=
 Q2 ET g.1 g.2.2.1∧MD y.chairs.length g.2.2.1∧bM 327 9 g.2.2.2.1 (jF y out pre).length (AR ((jF y out pre).map λp=>p.1)) g.2.2.2.2.1∧bM 3 1 g.2.2.2.2.2.1 (jF y out pre).length (ints ((jF y out pre).map λp=>(p.2:Int))) g.2.2.2.2.2.2
theorem VJ{y:aS}{out:List Int}{pre:List (List Int)}{x:List Int}{es:Array MapEntry}{cl:Nat}{M:List (zA 8×Int)}{v u:Γ}{ν ω:aF}(hM:Q2 ET es M)(hok:MD y.chairs.length M)
  (hc:(jJ y.claims out (wM y.chairs.length (dQ y (j9 x)):Int)&&(decide (((jF y out pre).length:Int)=0)|| !(BM (jF y out pre)==l7 (dQ y (j9 x)))))=true)
  (h1:bM 327 9 v ((jF y out pre).length+1) (AR ((jF y out pre).map λp=>p.1)++ints (l7 (dQ y (j9 x)))) ν) (h2:bM 3 1 u ((jF y out pre).length+1) (ints ((jF y out pre).map λp=>(p.2:Int))++[qI (wM y.chairs.length (dQ y (j9 x)):Int)]) ω):qq y out (pre++[x]) (es,cl,M,v,ν,u,ω):=by
 have e:jF y out (pre++[x])=jF y out pre++[(dQ y (j9 x),wM y.chairs.length (dQ y (j9 x)))]:=by
  rw[HG,uT,zo hc]
 unfold qq;rw[e];refine⟨hM,hok,?_,?_⟩
 ·simpa [AR]using h1
 ·simpa [ints]using h2
theorem Xbu{y:aS}{out:List Int}{pre:List (List Int)}{x:List Int}{es:Array MapEntry}{cl:Nat}{M:List (zA 8×Int)}{v u:Γ}{ν ω:aF}(hM:Q2 ET es M)(hok:MD y.chairs.length M)
  (hc:(jJ y.claims out (wM y.chairs.length (dQ y (j9 x)):Int)&&(decide (((jF y out pre).length:Int)=0)|| !(BM (jF y out pre)==l7 (dQ y (j9 x)))))=false)
  (h1:bM 327 9 v (jF y out pre).length (AR ((jF y out pre).map λp=>p.1)) ν) (h2:bM 3 1 u (jF y out pre).length (ints ((jF y out pre).map λp=>(p.2:Int))) ω):qq y out (pre++[x]) (es,cl,M,v,ν,u,ω):=by
 have e:jF y out (pre++[x])=jF y out pre:=by
  rw[HG,uT,zv (by rw[hc];simp)]
 unfold qq;rw[e];exact⟨hM,hok,h1,h2⟩
theorem Xg{y:aS}(h:y.chairs.length≤7):(C1.bP (kY y.chairs)).length≤2097152:=by
 have h1:=C1.tR (kY y.chairs);have h2:2^(kY y.chairs).length≤2^21:=wu Yd (by rw[rZ];omega)
 omega
theorem X1{l x:List Int}{pre r:List (List Int)}(h:C1.bP l=pre++x::r):x.length=l.length∧(∀n∈x,0≤n∧n≤1)∧pre.length<(C1.bP l).length:=by
 have hm:x∈C1.bP l:=by rw[h];simp
 exact⟨(C1.pZ hm).1,(C1.pZ hm).2,u_⟩
theorem Ab{x:List Int}(h:∀n∈x,0≤n∧n≤1)(hg:C7.pR (j9 x)=x):∀p∈j9 x,xP p:=λp hp=>by
 have:∀n∈p.l,n∈x:=λn hn=>by rw[←hg];exact vr.2 ⟨p,hp,hn⟩
 exact⟨h _ (this _ (by simp[Pt.l])),h _ (this _ (by simp[Pt.l])),h _ (this _ (by simp[Pt.l]))⟩
theorem gp(A ν ω w9:aF):A++(ν++(ω++w9))=A++(ν++ω)++w9:=Yf
theorem Wak(A ν ω w9:aF):A++((ν++ω)++w9)=A++ν++(ω++w9):=Yf
theorem P_{a b c d:Nat}{l:List Nat}:∀k∈[c,d],k∈a::b::c::d::l:=λk hk=>by
 simp only[zm,n4,yk]at hk ⊢
 rcases hk with rfl|rfl
 ·exact zt (zt (zq C))
 ·exact zt (zt (zt (zq C)))
theorem cb{A B ν ω z_:aF}{k:Nat}(h:(((A++B)++(ν++(ω++z_))).map λp=>p.1).Nodup)(hk:k∈(A++B).ks):k∉ν.ks++ω.ks:=by
 rw[ze,ze,ze,za]at h;intro hm;refine h.2.2 k kx k ?_ C;rcases zd.1 hm with hm|hm
 ·exact yw _ hm
 ·rw[ze];exact LT _ (yw _ hm)
theorem aGC{n:Nat}{s:Sc}(h:YW n s)(hn:n≤7):wM n s≤200:=by
 have h1:=dm s.fits n s.broken;have h2:=UJ h.bits hn;have h3:=h.whole;unfold wM;omega
theorem Xaf:KS prog 327 9:=by
 have hf:(prog.fieldsOf 327).toList=[(prog.fieldsOf 327)[0]!,(prog.fieldsOf 327)[1]!,(prog.fieldsOf 327)[2]!]:=Yg
 refine⟨Yg,Yg,Yg,?_⟩;rw[hf];refine .cons (Q1.int xh Yg Yg) (.cons (Q1.int xh Yg Yg) (.cons (n:=7) (Q1.arr (e:=3) xh Yg Yg Yg Yg ?_ ?_) .nil))
 ·rw[show((prog.fieldsOf 327)[2]!).type=325 by kernel_rfl];exact AV
 ·rw[show((prog.fieldsOf 327)[2]!).type=325 by kernel_rfl];exact H1
theorem Ji(yv tv:Γ)(y:aS)(t:List Pt)(D:aC)(hy:gZ D yv y)(ht:Sl D RP 3 tv t)(hlen:t.length=y.chairs.length)(I:t.length≤7)(hb:∀p∈t,xP p)(hf:0≤y.fit∧y.fit≤9)(hs:∀c∈y.chairs,0≤c.size∧c.size≤9):Fn prog 184 #[yv,tv] D (λ_ v=>v=.agg (ints (l7 (dQ y t))).toArray):=by
 rw[←Qs];exact Dt yv tv y t D hy ht hlen I hb hf hs
theorem Cw(wb mb:Nat)(cv qv:Γ)(fit:Int)(chs:List Ch)(s:Sc)(I:chs.length≤7)(hs:YW chs.length s)(es:Array MapEntry)(clock:Nat)(M:List (zA 8×Int))(D:aC)(hS:Sl D I0 4 cv chs)(hM:Q2 ET es M)(hok:MD chs.length M):
  LX prog 185 [qP wb,.agg (ints (l7 s)).toArray] D [(wb,qC [cv,qI fit,qv,.map (some mb)] 319),(mb,.map es clock)] (λ_ v ν'=>v=qI (wM chs.length s:Int)∧∃es' clock' M',ν'=[(wb,qC [cv,qI fit,qv,.map (some mb)] 319),(mb,.map es' clock')]∧Q2 ET es' M'∧MD chs.length M'):=by
 rw[←Qs];exact aDI wb mb cv qv fit chs s I hs es clock M D hS hM hok
theorem OH(wb mb:Nat)(cv qv:Γ)(y:aS)(out:List Int)(ov:Γ)(hB:y.chairs.length≤7)(hft:0≤y.fit∧y.fit≤9)(hsz:∀c∈y.chairs,0≤c.size∧c.size≤9)(hP:Array MapEntry)(clock0:Nat)(M0:List (zA 8×Int))(D:aC)(hS:Sl D I0 4 cv y.chairs)(hq:Sl D R2 2 qv y.claims)(ho:Sl D RI 1 ov out)(hM0:Q2 ET hP M0)(hok0:MD y.chairs.length M0):
  LX prog 110 [qP wb,ov] D [(wb,qC [cv,qI y.fit,qv,.map (some mb)] 319),(mb,.map hP clock0)] (λD' v ν'=>∃sv mv,v=.tuple #[sv,mv]∧Sl D' aBP 9 sv ((bT y out).map λp=>p.1)∧Sl D' RI 1 mv ((bT y out).map λp=>(p.2:Int))∧∃es' clock' M',ν'=[(wb,qC [cv,qI y.fit,qv,.map (some mb)] 319),(mb,.map es' clock')]∧Q2 ET es' M'∧MD y.chairs.length M'):=by
 obtain⟨oa,oc,rfl⟩:=ho.shape;refine Kq 56 func110 C C C C λh0 hwl hwn=>aA<|Zac C λq1 E1 hE1 hJ=>Zac C λq2 E2 hE2 hB2=>Zag C Th C λq3=>Zag C wP C λq4=>bD<|Zh 0 C FO C hJ C<|Zao C<|Zj C W8 C<|eW C nY mD C xq C C n4 C zy<|Zz C (λD1 hR=>wH _ y _ ⟨_,_,C,hS.up I0.up (hR _ Yf),hq.up R2.up (hR _ Yf)⟩ hB) λv1 D1 hR hp1=>?_;refine aE<|Za4 ?_;obtain⟨br,rfl,hit⟩:=hp1;refine x6 (γ:=Array MapEntry×Nat×List (zA 8×Int)×Γ×aF×Γ×aF) (xs:=C1.bP (kY y.chairs)) (enc:=de y.chairs.length) (cells:=ints) (Dr:=D1) (qq y out) (λ_ _ _=>False) (λg=>(q4,qC [g.2.2.2.2.2.1] 35)::(q3,qC [g.2.2.2.1] 212)::(wb,qC [cv,qI y.fit,qv,.map (some mb)] 319)::(mb,.map g.1 g.2.1)::(g.2.2.2.2.1++g.2.2.2.2.2.2)) (hP,clock0,M0,qN,[],qN,[]) C C (λg k hk=>GT _ (GT _ (yw (aF.ks _) hk))) C hit Yf (λ_ vs h=>by rw[h];rfl) C ⟨hM0,hok0,by simpa [jF,AR]using bM.nil,by simpa [jF,ints]using bM.nil⟩ C ?_ ?_ λ_ _ _ _ h=>h.elim
 ·rintro pre x ⟨es,clock,M,v,ν,u,ω⟩ ⟨us,hx⟩ ⟨hM,hok,ha1,O⟩ l bd bo vs rec hh D7 hD7 henc hbo hst hpend;obtain rfl:vs=ck y.chairs.length bo:=henc;simp only at hM hok ha1 O;obtain⟨hX,hxb,hpl⟩:=X1 hx;have hcap:=Xg hB;rw[rZ]at hX;have ht:=Wbs hbo hX hB;obtain⟨hY,hE⟩:=RJ _ _ hX;have htl:(j9 x).length=y.chairs.length:=hE;have htb:=Ab hxb hY;have hsc:=wI htl Yd;have hpsl:=OA y out pre;have hmb:=aGC hsc hB;have I:∀p∈jF y out pre,p.1.fits.length=7:=LJ y out pre;have hs9:=vK (dQ y (j9 x)) (by simp[dQ]);refine aM<|sg ?_;refine λa w hhh=>X6 (A:=[(_,_),(_,_),(_,_),(_,_)]++(ν++ω)) (B:=[(bd,.deferred (some []))]) (r:=rec) (l:=l) xa hst ?_ a w hhh
  refine NG ((q4,qC [u] 35)::(q3,qC [v] 212)::(wb,qC [cv,qI y.fit,qv,.map (some mb)] 319)::(mb,.map es clock)::(ν++(ω++[(l,.loop {rec with state:=.busy}),(bd,.deferred (some []))]))) Yf<|rM λhnd=>?_;simp only[yl,ze,tj,xg,za,zm,zd,n4,wn]at hnd;refine Za4<|aA<|Zh 0 C FO C hJ C<|Zao C<|Zj C W8 C<|eW C nY mD C xq C C n4 C zy<|Za C<|Zd C (λD2 rA=>Ji _ _ y (j9 x) _ ⟨_,_,C,hS.up I0.up (rA _ Yf),hq.up R2.up (rA _ Yf)⟩ (ht.up RP.up (rA _ Yf)) htl Yd htb hft hsz)<|Zag C xZ C λq5=>fG C C C C iN mq xa .head (dZ _) zy<|aJ<|Zh 0 C FO C hJ C ?_;refine bN (vs:=ints (l7 (dQ y (j9 x)))) C uX C zu ff n4 C zy<|bB ([(_,_),(_,_),(_,_)]++[(_,_),(_,_)]++(ν++(ω++[(l,_),(bd,_)]))) C<|gP (A:=[(_,_),(_,_),(_,_)]) (ν:=[(_,_),(_,_)]) (B:=ν++(ω++[(l,_),(bd,_)])) C C C C (zq C) (PG (cs:=[_,_,_,_])) (λD5 hD5=>Cw wb mb cv qv y.fit y.chairs (dQ y (j9 x)) hB hsc es clock M D5 (hS.up I0.up (hD5 _ Yf)) hM hok) C zy λv5 D6 _ hD6 hp5=>?_
  obtain⟨rfl,R,U,M1,rfl,hK,Z⟩:=hp5;refine Zf C<|bX<|vR [] 7 22 319536 (λ_ _ _ h=>h)<|Zh 0 C FO C hJ C<|Zao C<|Zj C W8 C<|eW C nY mD C ue C C n4 C zy<|Za C<|Zh 0 C bW C hB2 C<|Zd C (λD3 rB=>IN _ y _ _ out _ ⟨_,_,C,hS.up I0.up (rB _ Yf),hq.up R2.up (rB _ Yf)⟩ (ho.up RI.up (rB _ Yf)))<|Za C ?_;refine' bU 14 (s:=31) (p:=45) C (λhY=>?_) (λhY=>?_) ?_;rotate_left
  ·refine Zr C yC C xq C<|cG C U212 C ha1 C C ⟨_,C,C⟩<|sQ C C C C ⟨_,C,C⟩<|Zb C ?_;refine' dU 9 (s:=35) (p:=44) C (λhE=>?_) (λhE=>?_) ?_;rotate_left
   ·have hne:jF y out pre≠[]:=λe=>by rw[e]at hE;simp at hE
    have hpos:=sn.2 hne;obtain⟨b5,cap5,hF,rfl,hcp5,rfl,hl51,hl52⟩:=ha1.some hpos;refine Zr C yC C xq C<|Zr C yC C xq C<|nB C U212 C C C ⟨_,C,C⟩<|xO C C C Ye C ⟨_,C,C⟩<|eV C U212 iN C C Yd Yd C ⟨_,C,C⟩<|eW (vs:=AR ((jF y out pre).map λp=>p.1)++hF) (us:=ints (BM (jF y out pre))) C uX iN C (zb _ (zb _ ue)) (Br I hne hF) (by simpa using MV I hne) n4 C ⟨_,C,C⟩<|bN (vs:=ints (l7 (dQ y (j9 x)))) C uX C zu ff n4 C ⟨_,C,C⟩<|Wci (n:=9) C Xaf (MV I hne) hs9 C C C ⟨_,C,C⟩<|oU C C C C ⟨_,C,C⟩ ?_
    exact aQ 8
   ·refine Zg C<|Zg C<|Zg C<|Zg C<|Zg C<|Zg C<|Wt ?_;exact aQ 8
   refine Zam C ?_;exact aQ 5
  ·refine ol ?_;refine Zg C<|Zan C ?_;exact aQ 13
  refine aE<|Zai C (λhc1=>?_) λhc1=>?_
  ·refine rM λhnd=>?_;have hq5:=cb (A:=[_,_,_]) (B:=[_,_]) (k:=q5) hnd zu;have hq4:=cb (A:=[_,_,_]) (B:=[_,_]) (k:=q4) hnd zi;have hq3:=cb (A:=[_,_,_]) (B:=[_,_]) (k:=q3) hnd xq;refine pY (ν.ks++ω.ks) 3 [false,true,true,true,true,true,true,false,false,false] [.fork [0,1,4,5] 2 (.fork [] 3 (.fin [6]) 6 (.fin [3])) 6 (.fin [2,3]),.fin [7,8,9]] aV (λ_ _ _ h=>h) Yg<|uG<|bS [(false,0),(true,1),(true,4),(true,5)] C<|bG C yC C xq C Yo C zy<|bN (vs:=ints (l7 (dQ y (j9 x)))) C uX C zu ff hq5 C zy<|bG C bW C zi C Yo C zy<|Za C<|Zap (eB true true C C ?_ ?_)
   ·refine Zu C U212 iN xZ C (.cons C mq .nil) λb901 D901 hD901 Y=>?_;have hAs:=Y;refine Zap<|bS [] C<|Zap (eB true true C C ?_ ?_)
    ·refine Zad ([(_,_),(_,_),(_,_),(_,_),(_,_)]++ν++(ω++[(l,_),(bd,_)])) (yy _ _ _).symm<|aT (A:=[(_,_),(_,_),(_,_),(_,_),(_,_)]) (B:=(ω++[(l,_),(bd,_)])) C U212 C C iN xZ C UR C C C ha1 (kX.lit hAs) Yf mq (LB I) ku Yd (zt λp hp=>yw _ (n5.2 ⟨p,hp,C⟩)) C zy λv1x ν1x ha1x=>Zap<|aY [(true,6)] C<|Zu C U35 aI cN C (.cons C C .nil) λhN hO hH V=>?_;have hAm:=V;refine Zap<|pC [(false,7),(false,8),(false,9)] C<|Zad (([(_,_),(_,_),(_,_),(_,_),(_,_)]++ν1x)++ω++[(l,_),(bd,_)]) (yy _ _ _).symm<|aT (A:=[(_,_),(_,_),(_,_),(_,_),(_,_)]++ν1x) (B:=[(l,_),(bd,_)]) C U35 C C aI cN C jV C C C O (kX.lit hAm) Yf C Yf Ym Yd (zt λp hp=>LT _ (n5.2 ⟨p,hp,C⟩)) C zy λu1x ω1x ha2x=>Wn ?_;have hI:qq y out (pre++[x]) (R,U,M1,v1x,ν1x,u1x,ω1x):=VJ hK Z hc1 (by simpa using ha1x) (by simpa using ha2x);refine Zap<|qW<|Za7 ?_;exact λa w hh=>jT (A:=[(_,_),(_,_),(_,_),(_,_)]++(ν1x++ω1x)) (B:=[(bd,.deferred (some []))]) (R,U,M1,v1x,ν1x,u1x,ω1x) hI C C a w ((hh.dropBoxes 1).boxesEq (gp [_,_,_,_] ν1x ω1x [_,_]))
    ·refine Zu C U35 aI cN C (.cons C C .nil) λhN hO hH V=>?_;have hAm:=V;refine Zap<|aY [(true,3)] C<|Zad ([(_,_),(_,_),(_,_),(_,_),(_,_)]++ν++(ω++[(l,_),(bd,_)])) (yy _ _ _).symm<|aT (A:=[(_,_),(_,_),(_,_),(_,_),(_,_)]) (B:=(ω++[(l,_),(bd,_)])) C U212 C C iN xZ C UR C C C ha1 (kX.lit hAs) Yf mq (LB I) ku Yd (zt λp hp=>yw _ (n5.2 ⟨p,hp,C⟩)) C zy λv1x ν1x ha1x=>Zap<|pC [(false,7),(false,8),(false,9)] C<|Zad (([(_,_),(_,_),(_,_),(_,_),(_,_)]++ν1x)++ω++[(l,_),(bd,_)]) (yy _ _ _).symm<|aT (A:=[(_,_),(_,_),(_,_),(_,_),(_,_)]++ν1x) (B:=[(l,_),(bd,_)]) C U35 C C aI cN C jV C C C O (kX.lit hAm) Yf C Yf Ym Yd (zt λp hp=>LT _ (n5.2 ⟨p,hp,C⟩)) C zy λu1x ω1x ha2x=>Wn ?_;have hI:qq y out (pre++[x]) (R,U,M1,v1x,ν1x,u1x,ω1x):=VJ hK Z hc1 (by simpa using ha1x) (by simpa using ha2x);refine Zap<|qW<|Za7 ?_;exact λa w hh=>jT (A:=[(_,_),(_,_),(_,_),(_,_)]++(ν1x++ω1x)) (B:=[(bd,.deferred (some []))]) (R,U,M1,v1x,ν1x,u1x,ω1x) hI C C a w ((hh.dropBoxes 1).boxesEq (gp [_,_,_,_] ν1x ω1x [_,_]))
   ·refine Zu C U35 aI cN C (.cons C C .nil) λb901 D901 hD901 Y=>?_;have hAm:=Y;refine Zap<|aY [(true,2),(true,3)] C<|Zu C U212 iN xZ C (.cons C mq .nil) λhN hO hH V=>?_;have hAs:=V;refine Zad ([(_,_),(_,_),(_,_),(_,_),(_,_)]++ν++(ω++[(l,_),(bd,_)])) (yy _ _ _).symm<|aT (A:=[(_,_),(_,_),(_,_),(_,_),(_,_)]) (B:=(ω++[(l,_),(bd,_)])) C U212 C C iN xZ C UR C C C ha1 (kX.lit hAs) Yf mq (LB I) ku Yd (zt λp hp=>yw _ (n5.2 ⟨p,hp,C⟩)) C zy λv1x ν1x ha1x=>Zap<|pC [(false,7),(false,8),(false,9)] C<|Zad (([(_,_),(_,_),(_,_),(_,_),(_,_)]++ν1x)++ω++[(l,_),(bd,_)]) (yy _ _ _).symm<|aT (A:=[(_,_),(_,_),(_,_),(_,_),(_,_)]++ν1x) (B:=[(l,_),(bd,_)]) C U35 C C aI cN C jV C C C O (kX.lit hAm) Yf C Yf Ym Yd (zt λp hp=>LT _ (n5.2 ⟨p,hp,C⟩)) C zy λu1x ω1x ha2x=>Wn ?_;have hI:qq y out (pre++[x]) (R,U,M1,v1x,ν1x,u1x,ω1x):=VJ hK Z hc1 (by simpa using ha1x) (by simpa using ha2x);refine Zap<|qW<|Za7 ?_;exact λa w hh=>jT (A:=[(_,_),(_,_),(_,_),(_,_)]++(ν1x++ω1x)) (B:=[(bd,.deferred (some []))]) (R,U,M1,v1x,ν1x,u1x,ω1x) hI C C a w ((hh.dropBoxes 1).boxesEq (gp [_,_,_,_] ν1x ω1x [_,_]))
  ·have hI0:qq y out (pre++[x]) (R,U,M1,v,ν,u,ω):=Xbu hK Z hc1 ha1 O;refine bE<|Za7 ?_;exact λa w hh=>jT (A:=[(_,_),(_,_),(_,_),(_,_)]++(ν++ω)) (B:=[(bd,.deferred (some []))]) (R,U,M1,v,ν,u,ω) hI0 C C a w ((hh.dropBoxes 1).boxesEq (gp [_,_,_,_] ν ω [_,_]))
 ·rintro⟨es,clock,M,v,ν,u,ω⟩ bd ⟨hM,hok,ha1,O⟩;simp only at hM hok ha1 O;rw[DS]at ha1 O;have I:∀p∈bT y out,p.1.fits.length=7:=by rw[←DS];exact LJ y out _
  have hsl:(bT y out).length≤2097152:=by rw[←DS];have:=OA y out (C1.bP (kY y.chairs));have:=Xg hB;omega
  refine B8 ((q4,qC [u] 35)::(q3,qC [v] 212)::(wb,qC [cv,qI y.fit,qv,.map (some mb)] 319)::(mb,.map es clock)::((ν++ω)++[(bd,.deferred (some []))])) C<|Za7<|Za2<|Za6<|vR [] 1 4 6 (λ_ _ _ h=>h)<|Zq C yC C zi C<|Zq C bW C zu C<|YQ C C C ha1.cells1 m9 (.tail .head) Yf C ha1.cell1 zy<|dD C C C O.cells1 eZ .head Yf C O.cell1 zy<|aG<|B8 ([(_,_),(_,_),(_,_),(_,_)]++ν++(ω++[(bd,_)])) (Wak [_,_,_,_] ν ω [_])<|OY (A:=[(_,_),(_,_),(_,_),(_,_)]) (B:=ω++[(bd,_)]) ha1 P_ λD8 hD8 hF8=>?_;refine B8 ([(_,_),(_,_),(_,_),(_,_)]++ω++[(bd,_)]) (yy _ _ _).symm<|OY (A:=[(_,_),(_,_),(_,_),(_,_)]) (B:=[(bd,_)]) O P_ λD9 hD9 hF9=>?_;exact Od (A:=[(_,_),(_,_)]) (ν':=[(_,_),(_,_)]) (B:=[]) (vs:=[_,_]) C C C ⟨⟨_,_,_,C,zi,zq ⟨yC,C⟩⟩,⟨_,_,_,C,rb _,zq ⟨bW,C⟩⟩,zy⟩ C λD hD=>⟨v,u,C,(hF8.scs Yf Yd).up aBP.up ((hD9 _ Yf).trans (hD _ Yf)),(hF9.ints Yf Yd).up RI.up (hD _ Yf),es,clock,M,C,hM,hok⟩
def IK(m:Nat):Nat:=((List.range 7).filter λi=>m.testBit i).length
theorem Bv(m:Nat):IK m≤7:=by
 have:=xm (λi=>m.testBit i) (List.range 7);simpa [IK]using this
def fJ(m k:Nat):List Int:=((List.range k).filter λi=>m.testBit i).map λi:Nat=>(i:Int)
def aLM(m:Nat):List Int:=fJ m 7
def iC(s:Sc)(l:List (Int×Int)):Nat:=s.whole+(l.filter λp=>fB s.fits p.1.toNat p.2.toNat).length
def TO(l:List (Int×Int)):Prop:=∀p∈l,∃x z:Nat,p=((x:Int),(z:Int))∧x<7∧z<7
theorem Cf(s:Sc)(l:List (Int×Int)):iC s l≤s.whole+l.length:=by
 have:=xm (λp:Int×Int=>fB s.fits p.1.toNat p.2.toNat) l;unfold iC;omega
theorem Ls{s:Sc}{l:List (Int×Int)}{k x z:Nat}(h:l[k]?= some ((x:Int),(z:Int))):((iC s (l.take (k+1)):Nat):Int)=(iC s (l.take k):Int)+((((s.fits.getD x 0) >>> z:Nat):Int)%2):=by
 rw[nO];unfold iC;rw[zg,h,yd,xu,zf];have:([((x:Int),(z:Int))].filter λp:Int×Int=>fB s.fits p.1.toNat p.2.toNat).length=if(s.fits.getD x 0).testBit z=true then 1 else 0:=by
  show(List.filter (λp:Int×Int=>(s.fits.getD p.1.toNat 0).testBit p.2.toNat) [((x:Int),(z:Int))]).length=_;rw[wj];simp only[xr];split<;>rfl
 rw[this];split<;>omega
def pn(n:Nat):Option Nat→Int×Int→Option Nat
 |some s,p=>if((!gF p.1 0 ((n:Int)-1)|| !gF p.2 (p.1+1) ((n:Int)-1))||decide ((((s >>> p.1.toNat)|||(s >>> p.2.toNat):Nat):Int)%2=1))=true then none else some (s|||(2^p.1.toNat|||2^p.2.toNat))
 |none,_=>none
def tc(n:Nat)(l:List (Int×Int)):Option Nat:=l.foldl (pn n) (some 0)
theorem YC{n k:Nat}{l:List (Int×Int)}{p:Int×Int}(h:l[k]?= some p):tc n (l.take (k+1))=pn n (tc n (l.take k)) p:=by
 unfold tc;rw[zg,h,yd,xk];rfl
theorem Qx{n:Int}{a b:Int}(h:(!gF a 0 n|| !gF b (a+1) n)=false):0≤a∧a≤n∧a+1≤b∧b≤n:=by
 simp only[xn,ry]at h;have h1:=bH.1 h.1;have h2:=bH.1 h.2;exact⟨h1.1,h1.2,h2.1,h2.2⟩
theorem HO{a b:Nat}(ha:a<128)(hb:b<128):a|||b<128:=Nat.or_lt_two_pow (n:=7) ha hb
theorem Sf{n s:Nat}{a b:Int}(hn:n≤7)(hs:s<128)(h:((!gF a 0 ((n:Int)-1)|| !gF b (a+1) ((n:Int)-1))||decide ((((s >>> a.toNat)|||(s >>> b.toNat):Nat):Int)%2=1))=false):
  ∃x z:Nat,a=x∧b=z∧x<7∧z<7∧pn n (some s) ((x:Int),(z:Int))=some (s|||(2^x|||2^z))∧s|||(2^x|||2^z)<128:=by
 have h':=xn.1 h;obtain⟨h1,h2,h3,h4⟩:=Qx h'.1;obtain⟨x,rfl⟩:=lg h1;obtain⟨z,rfl⟩:=lg (show 0≤b by omega);refine⟨x,z,C,C,Yd,Yd,?_,HO hs (HO (X7 Yd) (X7 Yd))⟩;show(if _ then none else _)=_;rw[zv u_];rfl
theorem Xc{n:Nat}:∀l:List (Int×Int),l.foldl (pn n) none=none
 | []=>rfl
 |_::l=>Xc l
theorem Xac{n s k:Nat}{l:List (Int×Int)}{a b:Int}(hp:l[k]?= some (a,b))(h3:tc n (l.take k)=some s)(_hn:n≤7)(_hs:s<128)(h:((!gF a 0 ((n:Int)-1)|| !gF b (a+1) ((n:Int)-1))||decide ((((s >>> a.toNat)|||(s >>> b.toNat):Nat):Int)%2=1))=true):tc n l=none:=by
 have e:tc n (l.take (k+1))=none:=by
  rw[YC hp,h3];show(if _ then none else _)=_;rw[zo h]
 rw[←sq (k+1) l];unfold tc at e ⊢
 rw[xk,e];exact Xc _
theorem Fe(w b:Nat)(a0 O a2 a3 a4 a5 R:Nat)(lv:Γ)(l:List (Int×Int))(D:aC)(_hF:∀f∈[a0,O,a2,a3,a4,a5,R],f<128)(hw:w≤7)(hl:Sl D R2 2 lv l)(hp:TO l)(hlen:l.length≤1000):Fn prog 188 #[.agg #[qI (w:Int),qI (b:Int),qI (a0:Int),qI (O:Int),qI (a2:Int),qI (a3:Int),qI (a4:Int),qI (a5:Int),qI (R:Int)],lv] D (λ_ v=>v=qI (iC ⟨w,b,[a0,O,a2,a3,a4,a5,R]⟩ l:Int)):=by
 have hll:=hl.len;refine Zx 29 func188 C λh0=>aA<|Zac C λq1 E1 hF U=>Zf C<|aJ<|Zj C V2 C<|Zh 0 C aH C U C<|Zf C<|bD<|Za C<|Zaj C U132 C hl C<|Za C ?_;refine aE<|Za4<|Zo Nat (λk=>l.length-k) (λk=>k≤l.length) (λk=>[(12,qI (k:Int)),(5,qI (iC ⟨w,b,[a0,O,a2,a3,a4,a5,R]⟩ (l.take k):Int))]) [(11,_),(10,_),(4,_),(2,_)] (λk=>[E1,D]) 0 ⟨Ya,(by simp[iC];rfl),zy⟩ ?_
 rintro k h1;refine aA<|Zal C<|bX<|Zae C (λhc1=>?_) λhc1=>?_
 ·have hk:k<l.length:=Yd
  obtain⟨p,I⟩:=cF l k;obtain⟨x,z,rfl,V,hH⟩:=hp p (GE I);have hml:=Cf ⟨w,b,[a0,O,a2,a3,a4,a5,R]⟩ (l.take k);have htl:(l.take k).length≤k:=ul _ _;simp only at hml;refine aP<|Za6<|Za4<|aA<|Zy C U132 uU C hl C I λb1 o1 Y Z hE hB=>?_;obtain rfl:Y=[qI _,qI _]:=Z;refine Zv C Yay C hB uU<|Zag C yB C λq2=>Zaa C uU ζ<|aE<|bK [] 6 12 1022<|Za C<|Zj C Kb C<|Zq C aH C zu C<|Zj C W0 C<|fH C U325 aI C C Yd Yd C zy<|eE (o:=0+1+1) (k:=x*1) C aH C U.tail.tail Yf (Qh a0 O a2 a3 a4 a5 R V) n4 C zy<|Zj C Gc C ?_;refine Zq C aH C zu C<|yS C C C Yd C zy<|uR C C C (re _) Yd fj C zy<|xN C C C (by rw[nO];simp only[vE];split<;>omega) C zy<|uz ?_
  exact Zl 20 (k+1) ⟨Ya,(by rw[Ls I];rfl),zy⟩ C (On _ zp)
 ·obtain rfl:k=l.length:=Yd
  rw[ym];refine Wj ?_;exact aD C λD hD=>C
theorem Xb(s:Sc)(lv:Γ)(l:List (Int×Int))(hs:∀f∈s.fits,f<128)(hw:s.whole≤7)(hp:TO l)(hlen:l.length≤1000)(D:aC)(hl:Sl D R2 2 lv l)(I:s.fits.length=7):Fn prog 188 #[.agg (ints (l7 s)).toArray,lv] D (λ_ v=>v=qI (iC s l:Int)):=by
 obtain⟨w,b,F⟩:=s;obtain⟨a0,O,a2,a3,a4,a5,R,rfl⟩:=Pj I;exact Fe w b a0 O a2 a3 a4 a5 R lv l D hs hw hl hp hlen
theorem Bk:((List.range 128).all λs=>(List.range 7).all λx=>(List.range 7).all λz=>(x==z)||s.testBit x||s.testBit z||(IK (s|||(2^x|||2^z))==IK s+2))=true:=xh
theorem Co(s:Nat)(hs:s<128)(x:Nat)(hx:x<7)(z:Nat)(hz:z<7)(hne:x≠z)(h1:s.testBit x=false)(h2:s.testBit z=false):IK (s|||(2^x|||2^z))=IK s+2:=by
 have:=yu.1 (yu.1 (yu.1 Bk s (yj.2 hs)) x (yj.2 hx)) z (yj.2 hz);simpa [hne,h1,h2]using this
theorem XC{s x z:Nat}(h:decide ((((s >>> x)|||(s >>> z):Nat):Int)%2=1)=false):s.testBit x=false∧s.testBit z=false:=by
 rw[yt]at h;have key:((s >>> x)|||(s >>> z)).testBit 0=false:=by
  rw[Nat.testBit_zero,yt];omega
 rw[tm,nc,nc,xn]at key;simpa using key
theorem Xae{n:Nat}{l:List (Int×Int)}(hn:n≤7)(h:(tc n l).isSome=true):TO l∧l.length≤3:=by
 have key:∀k,k≤l.length→∃s,tc n (l.take k)=some s∧s<128∧IK s=2*k∧TO (l.take k):=by
  intro k;induction k with
  |zero=>intro _;exact⟨0,C,Yd,Yu,by simp[TO]⟩
  |succ k ih=>
   intro hk;obtain⟨s,h1,h2,h3,h4⟩:=ih Yd;obtain⟨⟨a,b⟩,hp⟩:∃p,l[k]?= some p:=⟨_,yz hk⟩
   cases hc:((!gF a 0 ((n:Int)-1)|| !gF b (a+1) ((n:Int)-1))||decide ((((s >>> a.toNat)|||(s >>> b.toNat):Nat):Int)%2=1))with
   |true=>rw[Xac hp h1 hn h2 hc]at h;cases h
   |false=>
    have hc':=xn.1 hc;obtain⟨O,i2,i3,i4⟩:=Qx hc'.1;obtain⟨x,z,rfl,rfl,hx,hz,hst,hlt⟩:=Sf hn h2 hc;simp only[xr]at hc';obtain⟨I,b2⟩:=XC hc'.2;refine⟨_,by rw[YC hp,h1];exact hst,hlt,by rw[Co s h2 x hx z hz Yd I b2];omega,λp hpm=>?_⟩
    rw[zg,hp,yd]at hpm;rcases zd.1 hpm with hpm|hpm
    ·exact h4 p hpm
    ·simp only[yf]at hpm;exact⟨x,z,hpm,hx,hz⟩
 obtain⟨s,_,_,h3,h4⟩:=key l.length (zk _);rw[ym]at h4;exact⟨h4,by have:=Bv s;omega⟩
def dS(y:aS):(Int×Int)×Int:=if aW y≠0 then((0,0),aW y)else match(bT y []).map λp=>(p.2:Int)with
 | []=>((0,0),11)
 |m::l=>((m::l).foldl (λr n=>(min r.1 n,max r.2 n)) (m,m),0)
theorem No{y:aS}(h:aW y=0)(hn:bT y []=[]):Value.tuple #[.agg #[qI 0,qI 0],qI 11]=.tuple #[nA (dS y).1,qI (dS y).2]:=by
 rw[dS,zv Yd,hn];rfl
theorem EN{y:aS}{w_:List Int}{m0:Int}(h:aW y=0)(hL:((bT y []).map λp=>(p.2:Int))=w_)(hm:w_[0]?= some m0):Value.tuple #[.agg #[qI (w_.foldl (λr n=>(min r.1 n,max r.2 n)) (m0,m0)).1,qI (w_.foldl (λr n=>(min r.1 n,max r.2 n)) (m0,m0)).2],qI 0]=.tuple #[nA (dS y).1,qI (dS y).2]:=by
  rw[dS,zv Yd,hL];cases w_ with
  |nil=>simp at hm
  | cons m l => obtain rfl : m = m0 := by simpa using hm
                rfl
theorem XT{w_:List Int}{k:Nat}{n m0:Int}(h:w_[k]?= some n):(w_.take (k+1)).foldl (λr n=>(min r.1 n,max r.2 n)) (m0,m0)=(min ((w_.take k).foldl (λr n=>(min r.1 n,max r.2 n)) (m0,m0)).1 n,max ((w_.take k).foldl (λr n=>(min r.1 n,max r.2 n)) (m0,m0)).2 n):=by
 rw[zg,h,yd,xk];rfl
theorem E0(yv:Γ)(y:aS)(D:aC)(hy:gZ D yv y):Fn prog 50 #[yv] D (λ_ v=>v=.tuple #[nA (dS y).1,qI (dS y).2]):=by
 have hB:=hy;obtain⟨cv,qv,rfl,hc,hq⟩:=hy;refine Zx 48 func50 C λh0=>aA<|Zac C λq1 E1 hP U=>Zag C kT C λq2=>Zf C<|bD<|Zv C nY C U mD<|Zd C (λD1 hE=>J5 _ y _ (hB.up (hE _ Yf)))<|mu ?_;refine aE<|Zae C (λhc1=>?_) λhc1=>?_
 ·refine aA<|Zw [qI 0,qI 0] C n6 kT C<|Za C<|Zaa C cU ζ<|Wi ?_;exact Zp [_,_] C ⟨⟨_,_,_,C,zu,Or.inr ⟨oZ,kt,C⟩⟩,C,zy⟩ λD hD=>by show Value.tuple _=_;rw[dS,zo hc1];rfl
 ·have O:aW y=0:=Yd
  have hyo:=VZ O;have hR:=hyo.len;refine aP<|aA<|Zv C nY C U mD<|gQ (L:=_) C C C (λD5 hS=>FN _ y _ _ D5 C) C zy λv5 D6 _ hX hp5=>?_;obtain⟨wb,mb,rfl,rfl⟩:=hp5;refine bB ([]++[(_,_),(_,_)]++([(_,_)])) C<|gP (A:=[]) (ν:=[(_,_),(_,_)]) (B:=[(_,_)]) C C C C (zq C) (PG (cs:=[_,_,_,_])) (λD7 V=>OH wb mb _ _ y [] _ Yd hyo.fit hyo.size #[] 0 [] _ (hc.up I0.up (V _ Yf)) (hq.up R2.up (V _ Yf)) Sl.nil C MD.nil) C zy λv7 D8 _ hY hF=>?_;obtain⟨sv,mv,rfl,hsv,hmv,Y,Z,M1,rfl,rA,hN⟩:=hF;refine Za C<|Zar C<|Zar C<|Zf C<|Zf C<|bD<|Za C<|Zaj C U35 C hmv C<|Zas C<|aE<|Zae C (λhc2=>?_) λhc2=>?_
  ·have hnil:bT y []=[]:=wm
   refine aA<|Zw [qI 0,qI 0] C n6 kT C<|Zaa C cU (.tail (.tail ζ))<|Wi ?_;exact Zp [_,_] C ⟨⟨_,_,_,C,xq,Or.inr ⟨oZ,kt,C⟩⟩,C,zy⟩ λD hD=>No O hnil
  ·generalize hL:((bT y []).map λp=>(p.2:Int))=ms at hmv hc2 ⊢
   have hml:=hmv.len;have hne:ms≠[]:=λe=>hc2 qy
   obtain⟨m0,R⟩:∃m,ms[0]?= some m:=⟨ms[0]'(sn.2 hne),yz _⟩
   refine aP<|Za6<|pY [] 3 [false,false,false,true,true,true,false,true,true,true,false,false] [.fork [0,1,2,3,4,5,6,7] 8 (.fin [9]) 9 (.fin [8]),.fin [10,11]] aV (λ_ _ _ h=>eA (P:=prog) (fn:=f50) _ _ _ h) Yg<|uG<|bS [(false,0),(false,1),(false,2),(true,3),(true,4),(true,5),(false,6),(true,7)] C<|Za C<|gH C hmv C R λb1 o1=>Za C<|gH C hmv C R λb2 o2=>Zw [qI m0,qI m0] C n6 kT C<|Zw [.func (.func 111) #[] #[]] C aEC SC C<|Zap (eB true true C C ?_ ?_)
   ·refine Zag C kT C λq3=>Zap<|aY [(true,9)] C<|Zag C SC C λq4=>Zap<|pC [(false,10),(false,11)] C<|Zaa C cU (.tail ζ)<|Zaa C Tq ζ<|Zap<|qW<|Za2<|bL ?_;refine Za C<|Zaj C U35 C hmv C<|Za C<|aE<|Za4<|fE (γ:=Nat) (λk=>ms.length-k) (λk=>k≤ms.length) (λk=>[(37,qI (k:Int))]) [(36,_),(35,_),(8,_),(7,_),(3,_),(2,_)] (λk=>(q4,qC [.func (.func 111) #[] #[]] 220)::(q3,qC [qI (List.foldl (λr n=>(min r.1 n,max r.2 n)) (m0,m0) (ms.take k)).1,qI (List.foldl (λr n=>(min r.1 n,max r.2 n)) (m0,m0) (ms.take k)).2] 129)::(wb,qC [cv,qI y.fit,qv,.map (some mb)] 319)::(mb,.map Y Z)::[(q2,qC [qI 0,qI 0] 129)]) (λk=>[D8,D6,E1,D]) 0 Yd ⟨Ya,zy⟩ cE zp (aN) ?_;rintro k h1;refine aA<|Zal C<|bX<|Zae C (λhc3=>?_) (λhc3=>?_)
    ·have hk:k<ms.length:=Yd
     obtain⟨n,I⟩:=cF ms k;have hst:=XT (m0:=m0) I;refine aP<|Za6<|Za4<|aA<|Zy C U35 aI C hmv C I λb3 o3 hH hI hO hJ=>?_;obtain rfl:hH=[qI _]:=hI;refine Zh 0 C aH C hJ C<|Zf C<|aE<|aM<|Zj C PE C<|Zq C Se C zu C<|Zah C oZ C zi cU<|Za C<|Zd C (λD2 hK=>wO (List.foldl (λr n=>(min r.1 n,max r.2 n)) (m0,m0) (ms.take k)) n _)<|Zaa C cU (.tail ζ)<|Zap<|Za7 ?_;refine Za2<|aM<|Zaf C<|Za C<|Zap ?_;rw[←hst];exact Zl 12 (k+1) ⟨Ya,zy⟩ C zp
    ·obtain rfl:k=ms.length:=Yd
     rw[ym];refine Za9<|Za5<|Za5<|Zba<|Za2<|aA<|Zah C oZ C zi cU<|Zaa C cU (.tail (.tail (.tail (.tail ζ))))<|Wd ?_;exact Zp [_,_] C ⟨⟨_,_,_,C,(List.Mem.tail _ ue),Or.inr ⟨oZ,kt,C⟩⟩,C,zy⟩ λD hD=>EN O hL R
   ·refine Zag C SC C λq3=>Zap<|aY [(true,8)] C<|Zag C kT C λq4=>Zap<|pC [(false,10),(false,11)] C<|Zaa C cU ζ<|Zaa C Tq (.tail ζ)<|Zap<|qW<|Za2<|bL ?_;refine Za C<|Zaj C U35 C hmv C<|Za C<|aE<|Za4<|fE (γ:=Nat) (λk=>ms.length-k) (λk=>k≤ms.length) (λk=>[(37,qI (k:Int))]) [(36,_),(35,_),(7,_),(8,_),(3,_),(2,_)] (λk=>(q4,qC [qI (List.foldl (λr n=>(min r.1 n,max r.2 n)) (m0,m0) (ms.take k)).1,qI (List.foldl (λr n=>(min r.1 n,max r.2 n)) (m0,m0) (ms.take k)).2] 129)::(q3,qC [.func (.func 111) #[] #[]] 220)::(wb,qC [cv,qI y.fit,qv,.map (some mb)] 319)::(mb,.map Y Z)::[(q2,qC [qI 0,qI 0] 129)]) (λk=>[D8,D6,E1,D]) 0 Yd ⟨Ya,zy⟩ cE zp (aN) ?_;rintro k h1;refine aA<|Zal C<|bX<|Zae C (λhc3=>?_) (λhc3=>?_)
    ·have hk:k<ms.length:=Yd
     obtain⟨n,I⟩:=cF ms k;have hst:=XT (m0:=m0) I;refine aP<|Za6<|Za4<|aA<|gH C hmv C I λb3 o3=>Zf C<|aE<|aM<|Zj C PE C<|Zq C Se C zi C<|Zah C oZ C zu cU<|Za C ?_;refine Zd C (λD2 hK=>wO (List.foldl (λr n=>(min r.1 n,max r.2 n)) (m0,m0) (ms.take k)) n _)<|Zaa C cU ζ<|Zap<|Wc ?_;rw[←hst];exact Zl 12 (k+1) ⟨Ya,zy⟩ C zp
    ·obtain rfl:k=ms.length:=Yd
     rw[ym];refine Za9<|Za5<|Za5<|Zba<|Za2<|aA<|Zah C oZ C zu cU<|Zaa C cU (.tail (.tail (.tail (.tail ζ))))<|Wd ?_;exact Zp [_,_] C ⟨⟨_,_,_,C,(List.Mem.tail _ ue),Or.inr ⟨oZ,kt,C⟩⟩,C,zy⟩ λD hD=>EN O hL R
theorem PZ(l:List (Int×Int)):∀u∈vn l,cell1 u=true:=by
 intro u hu;unfold vn at hu;rw[vr]at hu;obtain⟨p,_,hu⟩:=hu;simp only[zm,n4,yk]at hu;rcases hu with rfl|rfl<;>rfl
theorem UG{I b2 t1 t2:Nat}{cs ds:List Γ}:∀p∈[(I,Obj.cells cs.toArray t1 (0,0)),(b2,qC ds t2)],dH p.2:=by
 intro p hp;simp only[zm,n4,yk]at hp;rcases hp with rfl|rfl<;>rfl
def rC(scs:List Sc)(l:List (Int×Int)):Int:=match scs with
 | []=>0
 |s::_=>(scs.map λs=>(iC s l:Int)).foldl min (iC s l:Int)
theorem Ba{scs:List Sc}{l:List (Int×Int)}{I:Sc}(h:scs[0]?= some I):(scs.map λs=>(iC s l:Int)).foldl min (iC I l:Int)=rC scs l:=by
  cases scs with
  |nil=>simp at h
  | cons s r => obtain rfl : s = I := by simpa using h
                rfl
theorem Jw{scs:List Sc}{l:List (Int×Int)}{k:Nat}{s:Sc}{a:Int}(h:scs[k]?= some s):((scs.take (k+1)).map λs=>(iC s l:Int)).foldl min a=min (((scs.take k).map λs=>(iC s l:Int)).foldl min a) (iC s l:Int):=by
 rw[zg,h,yd,ze,xk];rfl
def iF(y:aS)(a b:Nat):Bool:=match y.chairs[a]?,y.chairs[b]? with
 |some x,some z=>Z7 y.fit x z
 |_,_=>false
def U1(y:aS):Nat→Nat→Nat→List (Int×Int)→List (List (Int×Int))
 |0,_,_,l=>[l]
 |k+1,f,w,l=>U1 y k (f+1) w l++(if w.testBit f=true then []else((List.range y.chairs.length).filter λb=>decide (f<b)&&(!w.testBit b&&iF y f b)).flatMap λ(b:Nat)=>U1 y k (f+1) (w|||2^b) (l++[((f:Int),(b:Int))]))
def FK(scs:List Sc)(st:List (Int×Int)×Int)(l:List (Int×Int)):List (Int×Int)×Int:=if st.2<rC scs l then(l,rC scs l)else st
theorem AI{y:aS}{scs:List Sc}{f w:Nat}{l:List (Int×Int)}{st:List (Int×Int)×Int}:(U1 y 0 f w l).foldl (FK scs) st=FK scs st l:=rfl
theorem TW{scs:List Sc}{l best:List (Int×Int)}{many:Int}(h:many<rC scs l):FK scs (best,many) l=(l,rC scs l):=zo h
theorem ef{scs:List Sc}{l best:List (Int×Int)}{many:Int}(h:¬many<rC scs l):FK scs (best,many) l=(best,many):=zv h
def xC(y:aS)(k f w:Nat)(l:List (Int×Int))(b:Nat):List (List (Int×Int)):=if w.testBit f=true then []else((List.range b).filter λb=>decide (f<b)&&(!w.testBit b&&iF y f b)).flatMap λ(b:Nat)=>U1 y k (f+1) (w|||2^b) (l++[((f:Int),(b:Int))])
def WG(y:aS)(scs:List Sc)(k f w:Nat)(l best:List (Int×Int))(many:Int)(b:Nat):List (Int×Int)×Int:=(U1 y k (f+1) w l++xC y k f w l b).foldl (FK scs) (best,many)
theorem ON{y:aS}{scs:List Sc}{k f w:Nat}{l best:List (Int×Int)}{many:Int}:WG y scs k f w l best many (f+1)=(U1 y k (f+1) w l).foldl (FK scs) (best,many):=by
 have:xC y k f w l (f+1)=[]:=by
  unfold xC;split
  ·rfl
  ·rw[List.filter_eq_nil_iff.2 λb hb=>by have:=yj.1 hb;simp;omega];rfl
 unfold WG;rw[this,yr]
theorem GA{y:aS}{scs:List Sc}{k f w b:Nat}{l best:List (Int×Int)}{many:Int}(hb:f<b)(hbit:w.testBit f=false)(hs:(!w.testBit b&&iF y f b)=true):
  WG y scs k f w l best many (b+1)=(U1 y k (f+1) (w|||2^b) (l++[((f:Int),(b:Int))])).foldl (FK scs) ((WG y scs k f w l best many b).1,(WG y scs k f w l best many b).2):=by
 have:xC y k f w l (b+1)=xC y k f w l b++U1 y k (f+1) (w|||2^b) (l++[((f:Int),(b:Int))]):=by
  unfold xC;rw[zv (by rw[hbit];simp),zv (by rw[hbit];simp),yb,xu,xl]
  simp[hb,hs]
 unfold WG;rw[this,←yy,xk]
theorem Pv{y:aS}{scs:List Sc}{k f w b:Nat}{l best:List (Int×Int)}{many:Int}(hs:(!w.testBit b&&iF y f b)=false):WG y scs k f w l best many (b+1)=WG y scs k f w l best many b:=by
 have:xC y k f w l (b+1)=xC y k f w l b:=by
  unfold xC;split
  ·rfl
  ·rw[yb,xu,xl];simp[hs]
 unfold WG;rw[this]
theorem Tw{y:aS}{scs:List Sc}{k f w b:Nat}{l best:List (Int×Int)}{many:Int}(_h1:f+1≤b)(h:(decide ((b:Int)<(y.chairs.length:Int))&&decide (((w >>> f:Nat):Int)%2=0))=false):(U1 y (k+1) f w l).foldl (FK scs) (best,many)=WG y scs k f w l best many b:=by
 have e:U1 y (k+1) f w l=U1 y k (f+1) w l++xC y k f w l y.chairs.length:=rfl;rw[e];unfold WG
 by_cases hb:w.testBit f=true
 ·have key:∀b,xC y k f w l b=[]:=λb=>by unfold xC;rw[zo hb]
  rw[key,key]
 ·have h':¬(b:Int)<(y.chairs.length:Int):=by
   intro h2;rw[nO,zv hb]at h;simp at h;omega
  have key:∀j,xC y k f w l (y.chairs.length+j)=xC y k f w l y.chairs.length:=by
   intro j;induction j with
   |zero=>rfl
   |succ j ih=>
    rw[←ih];unfold xC;rw[zv hb,zv hb,←Nat.add_assoc,yb,xu,xl];have:iF y f (y.chairs.length+j)=false:=by
     unfold iF;rw[tq (show y.chairs.length≤y.chairs.length+j by omega)];cases y.chairs[f]? <;>rfl
    simp[this]
  have:=key (b-y.chairs.length);rw[show y.chairs.length+(b-y.chairs.length)=b by omega]at this;rw[this]
theorem Xar{b n w f:Nat}(h:(decide ((b:Int)<(n:Int))&&decide (((w >>> f:Nat):Int)%2=0))=true):b<n∧w.testBit f=false:=by
 rw[zl,LE,LE,nO]at h;refine⟨Yd,?_⟩;cases e:w.testBit f with
 |false=>rfl
 |true=>rw[zo e]at h;omega
theorem Tr{y:aS}{w f b:Nat}{x z:Ch}{r:Bool}(hx:y.chairs[f]?= some x)(hz:y.chairs[b]?= some z)(h:(decide (((w >>> b:Nat):Int)%2=0)&&Z7 y.fit x z)=r):(!w.testBit b&&iF y f b)=r:=by
 rw[←h,nO];unfold iF;rw[hx,hz]
 cases w.testBit b<;>simp
theorem OF{l:List (Int×Int)}{a b:Nat}(h:TO l)(ha:a<7)(hb:b<7):TO (l++[((a:Int),(b:Int))]):=λp hp=>by
 rcases zd.1 hp with hp|hp
 ·exact h p hp
 ·simp only[yf]at hp;exact⟨a,b,hp,ha,hb⟩
theorem zP(sv:Γ)(xs:List Int)(D:aC)(hS:Sl D RI 1 sv xs)(hl:xs.length≤10000000):NC prog 106 #[sv] D (λ_ v ν=>bM 3 1 v xs.length (ints xs) ν):=by
 obtain⟨a0,c0,rfl⟩:=hS.shape;refine sE 8 func106 C C C C λh0=>aA<|Zf C<|bD<|Za C<|sJ C U35 C C C zy<|aE<|Zai C (λhc1=>?_) λhc1=>?_
 ·obtain rfl:a0=none:=xe
  obtain rfl:=vI hS;refine aA<|Wi ?_;exact aD C λD' hD=>bM.nil
 ·refine aP<|aA<|Zu C U35 aI cN C .nil λR D901 I O=>Za C<|aT (A:=[]) (ν:=[]) (B:=[]) C U35 C C aI cN C jV C C C bM.nil (kX.ints hS) Yf Yf C (dZ _) Yd (zq C) C zy λU ν1 ha1=>Wd ?_;exact aD C λD' hD=>by show bM 3 1 U _ _ _;simpa [vn]using ha1
theorem DJ(sv:Γ)(xs:List (Int×Int))(D:aC)(hS:Sl D R2 2 sv xs)(hl:xs.length≤10000000):NC prog 114 #[sv] D (λ_ v ν=>bM 225 2 v xs.length (vn xs) ν):=by
 obtain⟨a0,c0,rfl⟩:=hS.shape;refine sE 8 func114 C C C C λh0=>aA<|Zf C<|bD<|Za C<|sJ C U132 C C C zy<|aE<|Zai C (λhc1=>?_) λhc1=>?_
 ·obtain rfl:a0=none:=xe
  obtain rfl:=vI hS;refine aA<|Wi ?_;exact aD C λD' hD=>bM.nil
 ·refine aP<|aA<|Zu C U132 uU yB C .nil λR D901 I O=>Za C<|aT (A:=[]) (ν:=[]) (B:=[]) C U132 C C uU yB C SN C C C bM.nil (kX.of (cells:=λp:Int×Int=>[qI p.1,qI p.2]) (λ_ _ _ h=>h) (λ_=>C) hS) Yf (K0 xs) C (PZ xs) Yd (zq C) C zy λU ν1 ha1=>Wd ?_;exact aD C λD' hD=>by show bM 225 2 U _ _ _;simpa [vn]using ha1
theorem aAS(sv lv:Γ)(scs:List Sc)(l:List (Int×Int))(n:Nat)(D:aC)(hS:Sl D aBP 9 sv scs)(hl:Sl D R2 2 lv l)(hne:scs≠[])(hsc:∀s∈scs,YW n s)(hp:TO l)(Z:l.length≤1000):Fn prog 113 #[sv,lv] D (λ_ v=>v=qI (rC scs l)):=by
 have hsl:=hS.len;obtain⟨s0,R⟩:∃s,scs[0]?= some s:=⟨scs[0]'(sn.2 hne),yz _⟩
 have O:=hsc s0 (GE R);refine Zx 27 func113 C λh0=>aA<|Zf C<|aJ<|Za C<|Zy C U212 iN C hS C R λb1 o1 hB hE hR hF=>?_;obtain rfl:hB=ints (l7 _):=hE;refine Zv C uX C hF (by rw[aL,vK _ O.len];exact iN)<|Za C<|Zd C (λD1 hH=>Xb s0 _ l O.row O.whole hp Z _ (hl.up R2.up (hH _ Yf)) O.len)<|Zf C<|bD<|Za C<|Zaj C U212 C hS C<|Za C<|aE<|Za4<|Zo Nat (λk=>scs.length-k) (λk=>k≤scs.length) (λk=>[(15,qI (k:Int)),(5,qI (((scs.take k).map λs=>(iC s l:Int)).foldl min (iC s0 l:Int)))]) [(14,_),(13,_),(4,_),(1,_)] (λk=>[D]) 0 ⟨Ya,Ya,zy⟩ ?_
 rintro k h1;refine aA<|Zal C<|bX<|Zae C (λhc1=>?_) λhc1=>?_
 ·have hk:k<scs.length:=Yd
  obtain⟨s1,U⟩:∃s,scs[k]?= some s:=⟨_,yz hk⟩
  have I:=hsc s1 (GE U);refine aP<|Za6<|Za4<|aA<|Zy C U212 iN C hS C U λb2 o2 hI hJ hX hK=>?_;obtain rfl:hI=ints (l7 _):=hJ;refine Zv C uX C hK (by rw[aL,vK _ I.len];exact iN)<|Zag C xZ C λq1=>fG C C C C iN (by rw[aL,vK _ I.len]) xa .head (dZ _) zy<|aE<|aM<|Za C<|bN (vs:=ints (l7 s1)) C uX C zu (by rw[show(ints (l7 s1)).length=9 by rw[aL,vK _ I.len]];exact iN) n4 C zy<|Za C<|Zd C (λD2 hN=>Xb s1 _ l I.row I.whole hp Z _ (hl.up R2.up (hN _ Yf)) I.len)<|Zu C U35 aI cN C (.cons C C (.cons C C .nil)) λhY D901 hO V=>?_
  have Y:=Sl.ofInts (l:=[_,_]) (n:=2) (cap:=2) V C Yd Yd;refine Zd C (λD3 hP=>oC _ _ [_] _ (Y.up RI.up (hP _ Yf)))<|uz ?_;exact aK 15 (k+1) Yd Yd ⟨Ya,(by rw[Jw U];rfl),zy⟩ C C (List.Sublist.cons _ zp) λD h=>⟨D,zb _ (h),Le.refl D⟩
 ·obtain rfl:k=scs.length:=Yd
  rw[ym];refine Wj ?_;exact aD C λD hD=>by show Value.int _ _=_;rw[Ba R]
theorem Xcb{y:aS}{scs:List Sc}{cv qv sv:Γ}{bY bV bF bm bp:Nat}(hyo:aSX y)(hne:scs≠[])(hsc:∀s∈scs,YW y.chairs.length s):
  ∀(kk f:Nat),f+kk=y.chairs.length→∀(w:Nat) (l:List (Int×Int)) (lv:Γ) (best:List (Int×Int)) (many:Int) (pv:Γ) (D:aC),w<128→TO l→l.length≤f→Sl D R2 2 lv l→Sl D R2 2 pv best→Sl D I0 4 cv y.chairs→Sl D R2 2 qv y.claims→At D bY 0 [cv,qI y.fit,qv]→At D bV 0 [sv]→Sl D aBP 9 sv scs→At D bF 0 [.func (.func 112) #[] #[qP bY,qP bV,qP bm,qP bp,qP bF]]→
  LX prog 112 [lv,qI (f:Int),qI (w:Int),qP bY,qP bV,qP bm,qP bp,qP bF] D [(bm,qC [qI many] 3),(bp,qC [pv] 132)] (λD' _ ν'=>∃pv',ν'=[(bm,qC [qI ((U1 y kk f w l).foldl (FK scs) (best,many)).2] 3),(bp,qC [pv'] 132)]∧Sl D' R2 2 pv' ((U1 y kk f w l).foldl (FK scs) (best,many)).1):=by
 intro kk;induction kk using Nat.strongRecOn with
 |_ kk ih=>
 intro f hf w l lv best many pv D hw hp hlf hl hb hc hq hY hV hS hF;have hn7:=hyo.len;have hcl:=hc.len;refine jR 75 func112 C C C C λh0 hwl hwn=>bL<|Za C<|Zj C iS C<|Zh 0 C qG C hY C<|Zaj C U84 C hc C<|Zas C<|aE<|Zae C (λhc1=>?_) λhc1=>?_
 ·obtain rfl:kk=0:=Yd
  refine bL<|Zh 0 C yC C hV C<|Za C<|Zd C (λD1 hR=>aAS _ _ scs l y.chairs.length _ (hS.up aBP.up (hR _ Yf)) (hl.up R2.up (hR _ Yf)) hne hsc hp Yd)<|Zf C<|aJ<|Za C<|Zq C aH C zu C<|Zat C<|aE<|Zae C (λhc2=>?_) λhc2=>?_
  ·refine aM<|Za C<|gQ C C C (λD7 Z=>DJ _ l _ (hl.up R2.up (Z _ Yf)) Yd) C zy λv6 D8 ν6 hX Y=>E9 (A:=[]) (B:=[(_,_),(_,_)]) Y (λk hk=>hk) λrA hJ O=>?_;have hB:=O.prs C Yd;obtain⟨a6,c6,rfl⟩:=Y.shape;refine Za C<|Zs C GC (.tail .head) C<|Zs C aI ζ C<|aG<|Za3 ?_;exact Y1 (A:=[]) (ν':=[_,_]) (B:=[]) (vs:=[]) C C C zy C λD' hD=>⟨.slice a6 l.length c6,by rw[AI,TW hc2];rfl,by rw[AI,TW hc2];exact hB.up R2.up (hD _ Yf)⟩
  ·refine aP<|PL<|Za3 ?_;exact Y1 (A:=[]) (ν':=[_,_]) (B:=[]) (vs:=[]) C C C zy C λD' hD=>⟨pv,by rw[AI,ef hc2],by rw[AI,ef hc2];exact hb.up R2.up (hD _ Yf)⟩
 ·obtain⟨k,rfl⟩:∃k,kk=k+1:=⟨kk-1,Yd⟩
  refine aP<|aA<|Zh 0 C RX C hF C<|Za C<|Za C<|Zaf C<|Za C<|gP (A:=[]) (ν:=[(_,_),(_,_)]) (B:=[]) C C C C (zq C) UG (λD5 R=>ih k Yd (f+1) Yd w l lv best many pv D5 hw hp Yd (hl.up R2.up (R _ Yf)) (hb.up R2.up (R _ Yf)) (hc.up I0.up (R _ Yf)) (hq.up R2.up (R _ Yf)) (hY.up (R _ Yf)) (hV.up (R _ Yf)) (hS.up aBP.up (R _ Yf)) (hF.up (R _ Yf))) C zy λv5 D6 _ hD6 hp5=>?_;obtain⟨pv1,rfl,rB⟩:=hp5;refine aJ<|Za C<|Zaf C<|Zf C<|aE<|Za4<|fE (γ:=Nat×Γ×aC) (λg=>y.chairs.length-g.1) (λg=>f+1≤g.1∧Sl g.2.2 R2 2 g.2.1 (WG y scs k f w l best many g.1).1) (λg=>[(12,qI (g.1:Int))]) [(0,_),(1,_),(2,_),(3,_),(7,_)] (λg=>[(bm,qC [qI (WG y scs k f w l best many g.1).2] 3),(bp,qC [g.2.1] 132)]) (λg=>[g.2.2,D]) (f+1,pv1,D6) ⟨Yf,by simp only;rw[ON];exact rB⟩ ⟨Ya,zy⟩ cE ((by rw[ON];exact n2 _)) ((λD0 h=>by simp only[zm,n4,yk]at h;rcases h with h|h;exact⟨D6,Yf,h▸Le.refl _⟩;exact⟨D,Yf,h▸Le.refl _⟩)) ?_
  rintro⟨b,hH,Dn⟩ ⟨h1,U⟩;simp only at h1 U;refine bL<|Za C<|Zj C iS C<|Zh 0 C qG C hY C<|Zaj C U84 C hc C<|sh ?_;refine' bU 6 (s:=40) (p:=46) C (λhg1=>?_) (λhg1=>?_) ?_;rotate_left
  ·refine Zb C<|Zb C<|yS C C C Yd C ⟨_,C,C⟩<|uR C C C (re _) Yd Ye C ⟨_,C,C⟩<|mz ?_;exact aQ 5
  ·refine Zg C<|vw ?_;exact aQ 5
  refine aE<|Zai C (λhc3=>?_) λhc3=>?_
  ·obtain⟨hbn,hbit⟩:=Xar hc3;simp only at hbn;have hI:f<b:=Yd
   have hb7:b<7:=Yd
   have hpb:=X7 hb7;obtain⟨x,hx⟩:=cF y.chairs f;obtain⟨z,hz⟩:=cF y.chairs b;refine aP<|Za6<|Za4<|aA<|Za C<|Za C<|yS C C C tz C zy<|uR C C C (re _) Yd Ye C zy<|ud ?_;refine' bU 5 (s:=54) (p:=59) C (λhg2=>?_) (λhg2=>?_) ?_;rotate_left
   ·refine cQ C nY C hY Yc mD n4 C ⟨_,C,C⟩<|Zb C<|Zb C<|Ze C (λD2 hD2=>GL _ y f b x z _ ⟨_,_,C,hc.up I0.up (hD2 _ Yf),hq.up R2.up (hD2 _ Yf)⟩ hyo.fit hx hz (hyo.size _ (GE hx)) (hyo.size _ (GE hz)))<|Zam C ?_;exact aQ 4
   ·refine vw ?_;exact aQ 4
   refine aE<|Zai C (λhc4=>?_) λhc4=>?_
   ·have hsel:(!w.testBit b&&iF y f b)=true:=Tr hx hz hc4;refine pY (dI.mk [bF]) 4 [false,true,true,true,true,true,true,true,true,true,true,true,true,true,false] [.fork [0,1,3,4,5,8,9,10,11,12,13] 2 (.fin [6]) 6 (.fin [2]),.fin [7,14]] aV (λ_ _ _ h=>kQ (P:=prog) (fn:=f112) _ _ _ h) Yg<|uG<|bS [(false,0),(true,1),(true,3),(true,4),(true,5),(true,8),(true,9),(true,10),(true,11),(true,12),(true,13)] C<|eE C (k:=0) RX C hF Yf C (dI.out Yf) C zy<|Za C<|Za C<|Za C<|Zw [qI (f:Int),qI (b:Int)] C aDW yB C<|Za C<|Zaf C<|ub ?_;refine IB C C C tz C zy<|OC C C C tz tz C zy<|Zap (eB true true C C ?_ ?_)
    ·refine gQ C C C (λD7 Z=>DJ _ l _ (hl.up R2.up (Z _ Yf)) Yd) C zy λv6 D8 ν6 hX Y=>Zap<|aY [(true,6)] C<|Zu C U132 uU yB C (.cons C C .nil) λb901 D901 hK V=>?_;have hAp:=V;refine Zap<|pC [(true,7),(false,14)] C<|lO hF Yf λhap=>aT (A:=[]) (B:=[(_,_),(_,_)]) C U132 C C uU yB C SN C C C Y (kX.lit hAp) Yf C (K0 l) Ym Yd (zt λp hp=>dI.in_ ie) C zy λv7 ν7 hN=>?_;have ha7':bM 225 2 v7 (l.length+1) (vn (l++[((f:Int),(b:Int))])) ν7:=by rw[YR];simpa using hN
     refine E9 (A:=[]) (B:=[(_,_),(_,_)]) ha7' (λk hk=>hk) λrA hJ O=>?_;have hB:=O.prs Yf Yd;refine gP (A:=[]) (ν:=[(_,_),(_,_)]) (B:=[]) C C C C (zq C) UG (λD9 I=>ih k Yd (f+1) Yd (w|||2^b) (l++[((f:Int),(b:Int))]) v7 (WG y scs k f w l best many b).1 (WG y scs k f w l best many b).2 hH D9 (HO hw hpb) (OF hp Yd Yd) xw (hB.up R2.up (I _ Yf)) (U.up R2.up (I _ Yf)) (hc.up I0.up (I _ Yf)) (hq.up R2.up (I _ Yf)) (hY.up (I _ Yf)) (hV.up (I _ Yf)) (hS.up aBP.up (I _ Yf)) (hF.up (I _ Yf))) C zy λv9 D10 _ hD10 hO=>?_;obtain⟨hP,rfl,hE⟩:=hO;refine Zap<|qW<|Wa ?_;exact aK 33 (b+1,hP,D10) ⟨Yl,by simp only;rw[GA hI hbit hsel];exact hE⟩ Yl ⟨Ya,zy⟩ C C ((by rw[GA hI hbit hsel];exact n2 _)) ik
    ·refine Zu C U132 uU yB C (.cons C C .nil) λb901 D901 hK V=>?_;have hAp:=V;refine Zap<|aY [(true,2)] C<|gQ C C C (λD7 Z=>DJ _ l _ (hl.up R2.up (Z _ Yf)) Yd) C zy λv6 D8 ν6 hX Y=>Zap<|pC [(true,7),(false,14)] C<|lO hF Yf λhap=>aT (A:=[]) (B:=[(_,_),(_,_)]) C U132 C C uU yB C SN C C C Y (kX.lit hAp) Yf C (K0 l) Ym Yd (zt λp hp=>dI.in_ ie) C zy λv7 ν7 hN=>?_;have ha7':bM 225 2 v7 (l.length+1) (vn (l++[((f:Int),(b:Int))])) ν7:=by rw[YR];simpa using hN
     refine E9 (A:=[]) (B:=[(_,_),(_,_)]) ha7' (λk hk=>hk) λrA hJ O=>?_;have hB:=O.prs Yf Yd;refine gP (A:=[]) (ν:=[(_,_),(_,_)]) (B:=[]) C C C C (zq C) UG (λD9 I=>ih k Yd (f+1) Yd (w|||2^b) (l++[((f:Int),(b:Int))]) v7 (WG y scs k f w l best many b).1 (WG y scs k f w l best many b).2 hH D9 (HO hw hpb) (OF hp Yd Yd) xw (hB.up R2.up (I _ Yf)) (U.up R2.up (I _ Yf)) (hc.up I0.up (I _ Yf)) (hq.up R2.up (I _ Yf)) (hY.up (I _ Yf)) (hV.up (I _ Yf)) (hS.up aBP.up (I _ Yf)) (hF.up (I _ Yf))) C zy λv9 D10 _ hD10 hO=>?_;obtain⟨hP,rfl,hE⟩:=hO;refine Zap<|qW<|Wa ?_;exact aK 33 (b+1,hP,D10) ⟨Yl,by simp only;rw[GA hI hbit hsel];exact hE⟩ Yl ⟨Ya,zy⟩ C C ((by rw[GA hI hbit hsel];exact n2 _)) ik
   ·have hsel:(!w.testBit b&&iF y f b)=false:=Tr hx hz hc4;refine xz ?_;exact aK 18 (b+1,hH,Dn) ⟨Yl,by simp only;rw[Pv hsel];exact U⟩ Yl ⟨Ya,zy⟩ C C ((by rw[Pv hsel];exact n2 _)) λD0 h=>by simp only[zm,n4,yk]at h;rcases h with h|h;exact⟨Dn,Yf,h▸Le.refl _⟩;exact⟨D,Yf,h▸Le.refl _⟩
  ·simp only at hc3;refine Za9<|Za5<|Za5<|Zba ?_;exact Y1 (A:=[]) (ν':=[_,_]) (B:=[]) (vs:=[]) C C C zy C λD' hD=>⟨hH,by rw[Tw h1 hc3],by rw[Tw h1 hc3];exact U.up R2.up (hD _ Yf)⟩
end L7
namespace L3
open L1
open C3
def rF(ls:List bQ)(out:List Int)(k:Nat):List bQ:=(List.range k).filterMap λi:Nat=>if out.any (λx=>decide ((i:Int)=x))=true then none else ls[i]?
theorem LR(ls:List bQ)(out:List Int)(k:Nat):(rF ls out k).length≤k:=by
 unfold rF;have:=List.length_filterMap_le (λi:Nat=>if out.any (λx=>decide ((i:Int)=x))=true then none else ls[i]?) (List.range k);rwa [vz]at this
theorem KZ{ls:List bQ}{out:List Int}{k:Nat}{x:bQ}(hx:ls[k]?= some x)(h:(!out.any λx=>decide ((k:Int)=x))=true):rF ls out (k+1)=rF ls out k++[x]:=by
 unfold rF;rw[yb,List.filterMap_append];have h':(out.any λx=>decide ((k:Int)=x))=false:=xd
 simp only[List.filterMap_cons,List.filterMap_nil,h',wt,xx,hx]
theorem aKE{ls:List bQ}{out:List Int}{k:Nat}(h:(!out.any λx=>decide ((k:Int)=x))=false):rF ls out (k+1)=rF ls out k:=by
 unfold rF;rw[yb,List.filterMap_append];have h':(out.any λx=>decide ((k:Int)=x))=true:=xd
 simp only[List.filterMap_cons,List.filterMap_nil,h',yo,yr]
def dc(out:List Int)(c:Cn):Cn:={c with after:=c.after-((out.filter λi=>decide (i<c.after)).length:Int)}
def pM(b:aU)(out:List Int):aU:={b with lines:=rF b.lines out b.lines.length,counts:=b.counts.map (dc out)}
theorem aGW{out:List Int}{c:Cn}{i:Nat}{y:Int}(hy:out[i]?= some y)(h:y<c.after):(((out.take (i+1)).filter λi=>decide (i<c.after)).length:Int)=((out.take i).filter λi=>decide (i<c.after)).length+1:=by
 rw[zg,hy,yd,xu,zf,wj,zo xd];simp
theorem Yah{out:List Int}{c:Cn}{i:Nat}{y:Int}(hy:out[i]?= some y)(h:¬y<c.after):((out.take (i+1)).filter λi=>decide (i<c.after)).length=((out.take i).filter λi=>decide (i<c.after)).length:=by
 rw[zg,hy,yd,xu,zf,wj,zv xd];simp
theorem Nd(bv ov:Γ)(b:aU)(out:List Int)(D:aC)(hb:eT D bv b)(ho:Sl D RI 1 ov out)(hol:out.length≤100)(hl8:b.lines.length≤100)(hc4:b.counts.length≤100)(hca:∀c∈b.counts,0≤c.after∧c.after≤100):Fn prog 104 #[bv,ov] D (λD' v=>eT D' v (pM b out)):=by
 obtain⟨lv,cv,rfl,hl,hc⟩:=hb;have hll:=hl.len;have hcl:=hc.len;refine Zx 69 func104 C λh0=>aA<|Zac C λq1 E1 hE1 O=>Zag C Qe C λZ=>aJ<|Zv C gW C O fU<|Zag C Qe C λq3=>Zab C fU ζ (G4 hl.cell1 hc.cell1)<|aJ<|Zj C dX C<|Zs C fC ζ C<|Zj C xJ C ?_;refine Zs C dy ζ C<|bD<|Zj C dX C<|Zh 3 C iK C O C<|Zaj C U80 C hl C<|Za C<|aE<|Za4<|Zc (Nat×Γ×aF) (λg=>b.lines.length-g.1) (λg=>g.1≤b.lines.length∧bM 298 3 g.2.1 (rF b.lines out g.1).length (uC (rF b.lines out g.1)) g.2.2) (λg=>[(19,qI (g.1:Int))]) [(18,_),(17,_),(5,_),(4,_),(2,_),(1,_)] (λg=>g.2.2++[(q3,qC [qI b.chairs,qI b.coin,qI b.box,g.2.1,qN] 83),(Z,qC [qI 0,qI 0,qI 0,qN,qN] 83)]) (λg=>[E1,D]) (0,qN,[]) ⟨Yf,by simpa [rF,uC]using bM.nil⟩ ⟨Ya,zy⟩ zp ?_;rintro⟨k,v,ν⟩ ⟨h1,ha⟩;simp only at h1 ha;refine aA<|Zal C<|bX<|Zae C (λhc1=>?_) λhc1=>?_
 ·have hk:k<b.lines.length:=by simp only at hc1;omega
  obtain⟨x,hx⟩:=cF b.lines k;have hkl:=LR b.lines out k;refine aP<|Za6<|Za4<|aA<|Za C<|Zy C U80 cT C hl C hx λb1 o1 hB hE hY hF=>?_;obtain rfl:hB=[qI _,qI _,qI _]:=hE;refine Zv C oX C hF cT<|Zag C lI C λq4=>Zf C<|Zaa C cT ζ<|aJ<|Za C<|Za C<|Zd C (λD1 hH=>L7.P0 _ out (k:Int) _ (ho.up RI.up (hH _ Yf)))<|Zav C<|aE<|Zai C (λhc2=>?_) λhc2=>?_
  ·have hc2:=hc2;refine aM<|Zj C dX C<|Zq C iK C (List.Mem.tail _ (LT _ zu)) C<|Zah C oX C zu cT<|Zu C U80 cT lI C (.cons C C .nil) λrA D901 hI R=>aT (A:=[(_,_)]) (B:=[(_,_),(_,_)]) C U80 C C cT lI C AG C C C ha (kX.lit R) Yf C (S3 _) Ym Yd (zq C) C zy λv1 ν1 ha1=>?_;have ha2x:bM 298 3 v1 (rF b.lines out (k+1)).length (uC (rF b.lines out (k+1))) ν1:=by rw[KZ hx hc2,zf];unfold uC;rw[xl];exact ha1
   refine Zj C dX C<|bB (((q4,_)::ν1)++(q3,_)::[(Z,_)]) C<|dD C C C ha1.cells1 fC (.app .head) Yf C ha1.cell1 zy<|Zap<|Wc ?_;exact aK 19 (k+1,v1,ν1) ⟨Yl,ha2x⟩ Yl ⟨Ya,zy⟩ C C (List.Sublist.cons _ zp) λD h=>⟨D,zb _ (h),Le.refl D⟩
  ·refine xi ?_;exact aK 13 (k+1,v,ν) ⟨Yl,by simp only;rw[aKE hc2];exact ha⟩ Yl ⟨Ya,zy⟩ C C (List.Sublist.cons _ zp) (aN)
 ·obtain rfl:k=b.lines.length:=by simp only at hc1;omega
  have hkl:=LR b.lines out b.lines.length;refine Za9<|Za5<|Za5<|Zba<|Za2<|Za6<|Za6<|zN (A:=[]) (B:=[(_,_),(_,_)]) ha C λD8 hD8 hJ=>?_;have hl8v:=hJ.lins Yf Yd;refine aM<|Zj C xJ C<|Zh 4 C IQ C O C<|Zaj C U81 C hc C<|Za C<|aE<|Za4<|Zc (Nat×Γ×aF) (λg=>b.counts.length-g.1) (λg=>g.1≤b.counts.length∧bM 301 3 g.2.1 g.1 (qt ((b.counts.take g.1).map (dc out))) g.2.2) (λg=>[(38,qI (g.1:Int))]) [(37,_),(36,_),(5,_),(4,_),(1,_)] (λg=>g.2.2++[(q3,qC [qI b.chairs,qI b.coin,qI b.box,v,g.2.1] 83),(Z,qC [qI 0,qI 0,qI 0,qN,qN] 83)]) (λg=>[D8,E1,D]) (0,qN,[]) ⟨Yf,by simpa [qt]using bM.nil⟩ ⟨Ya,zy⟩ zp ?_;rintro⟨j,u,ω⟩ ⟨h2,I⟩;simp only at h2 I;refine aA<|Zal C<|bX<|Zae C (λhc3=>?_) λhc3=>?_
  ·have hj:j<b.counts.length:=by simp only at hc3;omega
   obtain⟨c,hx⟩:∃x,b.counts[j]?= some x:=⟨_,yz hj⟩
   have hcb:=hca c (GE hx);refine aP<|Za6<|Za4<|aA<|Zy C U81 yP C hc C hx λb2 o2 hK hN rB hO=>?_;obtain rfl:hK=[qI _,qI _,qI _]:=hN;refine Zv C TL C hO yP<|Zag C GN C λq5=>Zaa C yP ζ<|aJ<|Zf C<|bD<|Za C<|Zaj C U35 C ho C<|Za C<|aE<|Za4<|Zo Nat (λi=>out.length-i) (λi=>i≤out.length) (λi=>[(44,qI (i:Int)),(10,qI (((out.take i).filter λi=>decide (i<c.after)).length:Int))]) [(43,_),(42,_),(9,_),(41,_),(40,_),(39,_),(38,_),(37,_),(36,_),(5,_),(4,_),(1,_)] (λi=>[D8,E1,D]) 0 ⟨Ya,Ya,zy⟩ ?_;rintro i h3;refine aA<|Zal C<|bX<|Zae C (λhc4=>?_) λhc4=>?_
   ·have hi:i<out.length:=Yd
    obtain⟨y,hy⟩:=cF out i;have hgl:=xm (λi=>decide (i<c.after)) (out.take i);have hgt:(out.take i).length≤i:=ul _ _;refine aP<|Za6<|Za4<|aA<|gH C ho C hy λb3 o3=>Zf C<|aJ<|Za C<|Zj C X5 C<|Zq C aH C zu C<|Zal C<|aE ?_;refine Zae C (λU=>?_) λU=>?_
    ·refine aM<|Za C<|Zaf C<|uz ?_;exact Zl 15 (i+1) ⟨Ya,(by rw[aGW hy U];rfl),zy⟩ C zp
    ·refine xi ?_;exact Zl 12 (i+1) ⟨Ya,(by rw[Yah hy U];rfl),zy⟩ C zp
   ·obtain rfl:i=out.length:=Yd
    rw[ym];have hgl:=xm (λi=>decide (i<c.after)) out;refine Za9<|Za5<|Za5<|Zba<|Za2<|aM<|Zj C xJ C<|Zq C IQ C (List.Mem.tail _ (LT _ zu)) C<|Zj C X5 C<|Zq C aH C zu C<|Za C<|Zax C ?_;refine Zj C CA C<|eW C qO eY C zu C C n4 C zy<|Zw [qI (c.after-((out.filter λi=>decide (i<c.after)).length:Int)),qI c.lo,qI c.hi] C aEJ GN C<|Zu C U81 yP GN C (.cons C C .nil) λb902 D902 hP V=>aT (A:=[(_,_)]) (B:=[(_,_),(_,_)]) C U81 C C yP GN C aDG C C C I (kX.lit V) Yf C (by rw[aFX];simp;omega) Ym Yd (zq C) C zy λv2 ν2 Y=>?_
    have hR:bM 301 3 v2 (j+1) (qt ((b.counts.take (j+1)).map (dc out))) ν2:=by rw[zg,hx,yd,ze];unfold qt;rw[xl];exact Y
    refine Zj C xJ C<|bB (((q5,_)::ν2)++(q3,_)::[(Z,_)]) C<|dD C C C Y.cells1 dy (.app .head) Yf C Y.cell1 zy<|Zap<|Wc ?_;exact aK 24 (j+1,v2,ν2) ⟨Yl,hR⟩ Yl ⟨Ya,zy⟩ C C (List.Sublist.cons _ zp) λD h=>⟨D,zb _ (h),Le.refl D⟩
  ·obtain rfl:j=b.counts.length:=by simp only at hc3;omega
   rw[ym]at I;refine Za9<|Za5<|Za5<|Zba<|Za2<|aA<|Zah C gW C (LT _ zu) fU<|Zab C fU (.app (.tail ζ)) (G4 ha.cell1 I.cell1)<|aG<|dE (A:=[]) (B:=[(_,_),(_,_)]) I C λD9 hS hX=>?_;have hc9v:=hX.cns Yf Yd;exact Zp [_] C ⟨⟨_,_,_,C,zb _ zu,zt ⟨gW,fU,C⟩⟩,zy⟩ λD hD=>⟨v,u,C,(hl8v.up jQ.up ((hS _ Yf).trans (hD _ Yf))),hc9v.up wQ.up (hD _ Yf)⟩
def R1(f:Nat→List Int→Bool×List Int):List Nat→List Int→Bool×List Int
 | [],fnd=>(false,fnd)
 |i::is,fnd=>if(f i fnd).1=true then(true,(f i fnd).2)else R1 f is (f i fnd).2
theorem O2{f:Nat→List Int→Bool×List Int}{n i:Nat}{fnd:List Int}(hge:i<n)(h:(f i fnd).1=true):R1 f (List.range' i (n-i)) fnd=(true,(f i fnd).2):=by
 rw[show n-i=(n-i-1)+1 by omega,List.range'_succ,R1,zo h]
theorem TH{f:Nat→List Int→Bool×List Int}{n i:Nat}{fnd:List Int}(hge:i<n)(h:(f i fnd).1=false):R1 f (List.range' i (n-i)) fnd=R1 f (List.range' (i+1) (n-(i+1))) (f i fnd).2:=by
 conv=>lhs;rw[show n-i=(n-(i+1))+1 by omega,List.range'_succ,R1,zv u_]
theorem IW{f:Nat→List Int→Bool×List Int}{n i:Nat}{fnd:List Int}(hge:¬i<n):R1 f (List.range' i (n-i)) fnd=(false,fnd):=by
 rw[show n-i=0 by omega];rfl
theorem d5{b t:Nat}{cs:List Γ}:∀p∈[(b,Obj.cells cs.toArray t (0,0))],dH p.2:=by
 intro p hp;simp only[yf]at hp;subst hp;rfl
theorem Cr{ls:List bQ}{out:List Int}{k:Nat}{l:bQ}(h:l∈rF ls out k):l∈ls:=by
 unfold rF at h;obtain⟨i,_,hi⟩:=List.mem_filterMap.1 h;split at hi
 ·cases hi
 ·exact GE hi
theorem Oe{b:aU}(h:tu b)(out:List Int):tu (pM b out):=
 ⟨h.ch,h.co,h.bx,by have:=LR b.lines out b.lines.length;have:=h.l8;show(rF b.lines out b.lines.length).length≤8;omega,by have:=h.c4;show(b.counts.map _).length≤4;rwa [yh],λl hl=>h.ln l (Cr hl)⟩
theorem He{b:aU}(h:aW b=0):∀c∈b.counts,0≤c.after∧c.after≤100:=by
 have hl:=(jv h).l8;unfold aW at h;split at h
 ·omega
 ·split at h
  ·omega
  ·rename_i h2;have h3:uL b=true:=rt
   unfold uL at h3;simp only[zl,C1.bH,yu]at h3;intro c hc;have h4:=h3.2 c hc;unfold tV at h4;simp only[zl,C1.bH]at h4;omega
def aCH(b:aU):Nat→Nat→List Int→List Int→Bool×List Int
 |0,_,out,_=>(decide (truths (pM b out)≠[]),out)
 |m+1,f,out,fnd=>R1 (λi fnd=>aCH b m (i+1) (out++[(i:Int)]) fnd) (List.range' f (b.lines.length-m-f)) fnd
def bRA(b:aU):Bool×List Int:=R1 (λm fnd=>aCH b m 0 [] fnd) (List.range' 0 (b.lines.length+1-0)) []
def cS(b:aU):List Int×Int:=if aW b≠0 then([],aW b)else if(bRA b).1=true then((bRA b).2,0)else([],10)
theorem Nh{b:aU}{D:aC}(h:aW b≠0):∃lv,Value.tuple #[qN,qI (aW b)]=.tuple #[lv,qI (cS b).2]∧Sl D RI 1 lv (cS b).1:=by
 rw[cS,zo h];exact⟨_,C,Sl.nil⟩
theorem Ga{b:aU}{D:aC}{lv:Γ}{l:List Int}(h:aW b=0)(hl:R1 (λm fnd=>aCH b m 0 [] fnd) (List.range' 0 (b.lines.length+1-0)) []=(true,l))(hS:Sl D RI 1 lv l):∃lv',Value.tuple #[lv,qI 0]=.tuple #[lv',qI (cS b).2]∧Sl D RI 1 lv' (cS b).1:=by
 have e:bRA b=(true,l):=hl;rw[cS,zv Yd,e];exact⟨_,C,hS⟩
theorem Iz{b:aU}{D:aC}{l:List Int}(h:aW b=0)(hl:R1 (λm fnd=>aCH b m 0 [] fnd) (List.range' 0 (b.lines.length+1-0)) []=(false,l)):∃lv',Value.tuple #[qN,qI 10]=.tuple #[lv',qI (cS b).2]∧Sl D RI 1 lv' (cS b).1:=by
 have e:bRA b=(false,l):=hl;rw[cS,zv Yd,e];exact⟨_,C,Sl.nil⟩
theorem Xcd{b:aU}{lv cv:Γ}{bf bY bF:Nat}(hbo:tu b)(hca:∀c∈b.counts,0≤c.after∧c.after≤100):
  ∀(mm f:Nat) (out:List Int) (ov:Γ) (fnd:List Int) (fv:Γ) (D:aC),out.length+mm≤10→Sl D RI 1 ov out→Sl D RI 1 fv fnd→eT D (.agg #[qI b.chairs,qI b.coin,qI b.box,lv,cv]) b→At D bY 0 [qI b.chairs,qI b.coin,qI b.box,lv,cv]→At D bF 0 [.func (.func 103) #[] #[qP bf,qP bY,qP bF]]→
  LX prog 103 [ov,qI (f:Int),qI (mm:Int),qP bf,qP bY,qP bF] D [(bf,qC [fv] 35)] (λD' v ν'=>v=.bool (aCH b mm f out fnd).1∧∃fv',ν'=[(bf,qC [fv'] 35)]∧Sl D' RI 1 fv' (aCH b mm f out fnd).2):=by
 intro mm;induction mm using Nat.strongRecOn with
 |_ mm ih=>
 intro f out ov fnd fv D hlen ho hfd hb hY hF;have hl8:=hbo.l8;have hc4:=hbo.c4;obtain⟨lv0,cv0,he,hl,hc⟩:=id hb;cases he;refine jR 39 func103 C C C C λh0 hwl hwn=>aA<|Zf C<|bD<|Za C<|Zas C<|aE<|Zae C (λhc1=>?_) λhc1=>?_
 ·obtain rfl:mm=0:=Yd
  refine aA<|Za C<|dD C C C ho.cells1 eZ .head Yf C ho.cell1 zy<|aJ<|Zv C gW C hY fU<|Za C<|Zz C (λD1 hB=>Nd _ _ b out _ (hb.up (hB _ Yf)) (ho.up RI.up (hB _ Yf)) Yd Yd Yd hca) λv1 D1 hB hX=>Zd C (λD2 rA=>FA _ (pM b out) _ (hX.up (rA _ Yf)) (Oe hbo out))<|Wi ?_;exact Zak [] [] [_] [_] C ⟨C,zy⟩ C λD' hD=>⟨C,ov,C,ho.up RI.up (hD _ Yf)⟩
 ·obtain⟨m,rfl⟩:∃k,mm=k+1:=⟨mm-1,Yd⟩
  refine aP<|bL<|Za C<|Zf C<|aE<|Za4<|fE (γ:=Nat×List Int×Γ×aC) (λg=>b.lines.length+1-g.1) (λg=>f≤g.1∧aCH b (m+1) f out fnd=R1 (λi fnd=>aCH b m (i+1) (out++[(i:Int)]) fnd) (List.range' g.1 (b.lines.length-m-g.1)) g.2.1∧Sl g.2.2.2 RI 1 g.2.2.1 g.2.1) (λg=>[(10,qI (g.1:Int))]) [(9,_),(0,_),(2,_),(4,_),(5,_)] (λg=>[(bf,qC [g.2.2.1] 35)]) (λg=>[g.2.2.2,D]) (f,fnd,fv,D) ⟨Yf,C,hfd⟩ ⟨Ya,zy⟩ cE zp ((λD0 h=>by simp only[zm,n4,yk,or_self]at h;exact⟨D,Yf,h▸Le.refl _⟩)) ?_;rintro⟨i,Z,hE,Dn⟩ ⟨h1,hin,Y⟩;simp only at h1 hin Y;refine bL<|Za C<|Zj C dX C<|Zh 3 C iK C hY C<|Zaj C U80 C hl C<|Za C<|Zax C<|iB C C C C zy<|aE<|Zae C (λhc2=>?_) λhc2=>?_
  ·simp only at hc2;have hge:i<b.lines.length-m:=Yd
   refine aP<|Za6<|Za4<|Za6<|pY (dI.mk [bF]) 3 [false,true,true,true,true,true,true,true,true,true,false] [.fork [0,1,3,6,7,8,9] 2 (.fin [4]) 4 (.fin [2]),.fin [5,10]] aV (λ_ _ _ h=>kQ (P:=prog) (fn:=f103) _ _ _ h) Yg<|uG<|bS [(false,0),(true,1),(true,3),(true,6),(true,7),(true,8),(true,9)] C<|eE C (k:=0) Vs C hF Yf C (dI.out Yf) C zy<|Za C<|Za C<|Za C<|Zaf C ?_;refine Za C<|Zax C ?_;rw[show(((m+1:Nat):Int)-1)=(m:Int) by omega];refine Zap (eB true true C C ?_ ?_)
   ·refine gQ C C C (λD7 hH=>L7.zP _ out _ (ho.up RI.up (hH _ Yf)) Yd) C zy λv6 D8 ν6 rB hI=>Zap<|aY [(true,4)] C<|Zu C U35 aI cN C (.cons C C .nil) λhP D901 hJ O=>?_;have hAp:=O;refine Zap<|pC [(true,5),(false,10)] C<|lO hF Yf λhap=>aT (A:=[]) (B:=[(_,_)]) C U35 C C aI cN C jV C C C hI (kX.lit hAp) Yf C Yf Ym Yd (zt λp hp=>dI.in_ ie) C zy λv7 ν7 hK=>?_;have ha7':bM 3 1 v7 (out.length+1) (ints (out++[(i:Int)])) ν7:=by simpa [ints]using hK
    refine E9 (A:=[]) (B:=[(_,_)]) ha7' (λk hk=>hk) λD20 hR R=>?_;have hN:=R.ints Yf Yd;refine gP (A:=[]) (ν:=[(_,_)]) (B:=[]) C C C C (zq C) d5 (λD9 I=>ih m Yd (i+1) (out++[(i:Int)]) v7 Z hE _ xw (hN.up RI.up (I _ Yf)) (Y.up RI.up (I _ Yf)) (hb.up (I _ Yf)) (hY.up (I _ Yf)) (hF.up (I _ Yf))) C zy λv9 D10 _ hS hO=>?_;obtain⟨rfl,U,rfl,V⟩:=hO;refine Zap<|qW<|Za2<|Zai C (λhc3=>?_) λhc3=>?_
    ·refine aA<|Wg ?_;exact Zak [] [] [_] [_] C ⟨C,zy⟩ C λD' hD=>⟨by rw[hin,O2 hge hc3];rfl,U,C,by rw[hin,O2 hge hc3];exact V.up RI.up (hD _ Yf)⟩
    ·refine xz ?_;exact aK 22 (i+1,_,U,D10) ⟨Yl,by simp only;rw[hin,TH hge hc3],V⟩ Yl ⟨Ya,zy⟩ C C zp ik
   ·refine Zu C U35 aI cN C (.cons C C .nil) λhP D901 hJ O=>?_;have hAp:=O;refine Zap<|aY [(true,2)] C<|gQ C C C (λD7 hH=>L7.zP _ out _ (ho.up RI.up (hH _ Yf)) Yd) C zy λv6 D8 ν6 rB hI=>Zap<|pC [(true,5),(false,10)] C<|lO hF Yf λhap=>aT (A:=[]) (B:=[(_,_)]) C U35 C C aI cN C jV C C C hI (kX.lit hAp) Yf C Yf Ym Yd (zt λp hp=>dI.in_ ie) C zy λv7 ν7 hK=>?_;have ha7':bM 3 1 v7 (out.length+1) (ints (out++[(i:Int)])) ν7:=by simpa [ints]using hK
    refine E9 (A:=[]) (B:=[(_,_)]) ha7' (λk hk=>hk) λD20 hR R=>?_;have hN:=R.ints Yf Yd;refine gP (A:=[]) (ν:=[(_,_)]) (B:=[]) C C C C (zq C) d5 (λD9 I=>ih m Yd (i+1) (out++[(i:Int)]) v7 Z hE _ xw (hN.up RI.up (I _ Yf)) (Y.up RI.up (I _ Yf)) (hb.up (I _ Yf)) (hY.up (I _ Yf)) (hF.up (I _ Yf))) C zy λv9 D10 _ hS hO=>?_;obtain⟨rfl,U,rfl,V⟩:=hO;refine Zap<|qW<|Za2<|Zai C (λhc3=>?_) λhc3=>?_
    ·refine aA<|Wg ?_;exact Zak [] [] [_] [_] C ⟨C,zy⟩ C λD' hD=>⟨by rw[hin,O2 hge hc3];rfl,U,C,by rw[hin,O2 hge hc3];exact V.up RI.up (hD _ Yf)⟩
    ·refine xz ?_;exact aK 22 (i+1,_,U,D10) ⟨Yl,by simp only;rw[hin,TH hge hc3],V⟩ Yl ⟨Ya,zy⟩ C C zp ik
  ·simp only at hc2;have hge:¬i<b.lines.length-m:=Yd
   refine Wk ?_;exact Zak [] [] [_] [_] C ⟨C,zy⟩ C λD' hD=>⟨by rw[hin,IW hge];rfl,hE,C,by rw[hin,IW hge];exact Y.up RI.up (hD _ Yf)⟩
theorem aTJ(bv:Γ)(b:aU)(D:aC)(hb:eT D bv b):Fn prog 48 #[bv] D (λD' v=>∃lv,v=.tuple #[lv,qI (cS b).2]∧Sl D' RI 1 lv (cS b).1):=by
 have V:=hb;obtain⟨lv,cv,rfl,hl,hc⟩:=hb;have hll:=hl.len;refine Zx 30 func48 C λh0=>aA<|Zac C λq1 E1 hK U=>Zf C<|Zf C<|aE<|Tt<|bL<|Zv C gW C U fU<|Zd C (λD1 hB=>G1 _ b _ (V.up (hB _ Yf)))<|Zf C<|aJ ?_;refine Za C<|Za0 C<|aE<|Zae C (λhc1=>?_) λhc1=>?_
 ·refine aA<|Za C<|Zf C<|Zf C<|aG<|Za3<|i6 ?_;exact Zp [_,_] C cE λD hD=>Nh hc1
 ·have O:aW b=0:=Yd
  have hbo:=jv O;have hN:=hbo.l8;have hca:=He O;refine aP<|aA<|Zag C wP C λq2=>aJ<|Zag C aAO C λq3=>aJ<|Za1 C<|Zs C aDQ ζ C<|aJ<|Zf C<|bX<|TE ?_;refine Za2<|Za6<|Za6<|Q8 (A:=[]) (b:=q3) (cells:=[.func (.func 103) #[] #[qP q2,qP q1,qP q3]]) C λI hI hF=>aM<|Zj C dX C<|Zh 3 C iK C U C<|Zaj C U80 C hl C<|Zaf C<|Za C<|aE<|Za4 ?_;refine fE (γ:=Nat×List Int×Γ×aC) (λg=>b.lines.length+1-g.1) (λg=>g.1≤b.lines.length+1∧R1 (λm fnd=>aCH b m 0 [] fnd) (List.range' 0 (b.lines.length+1-0)) []=R1 (λm fnd=>aCH b m 0 [] fnd) (List.range' g.1 (b.lines.length+1-g.1)) g.2.1∧Sl g.2.2.2 RI 1 g.2.2.1 g.2.1) (λg=>[(19,qI (g.1:Int)),(7,.bool false)]) [(18,_),(6,_),(5,_),(3,_),(2,_)] (λg=>[(q2,qC [g.2.2.1] 35)]) (λg=>[g.2.2.2,I,E1,D]) (0,[],qN,I) ⟨Yf,C,Sl.nil⟩ ⟨Ya,Ya,zy⟩ cE zp ((λD0 h=>by simp only[zm,n4,yk]at h;rcases h with h|h|h|h;exact⟨I,Yf,h▸Le.refl _⟩;exact⟨I,Yf,h▸Le.refl _⟩;exact⟨E1,Yf,h▸Le.refl _⟩;exact⟨D,Yf,h▸Le.refl _⟩)) ?_
  rintro⟨m,fnd,fv,Dn⟩ ⟨h1,hin,hfd⟩;simp only at h1 hin hfd;refine aA<|Zal C<|bX<|Zae C (λhc2=>?_) λhc2=>?_
  ·simp only at hc2;have hm:m<b.lines.length+1:=Yd
   refine aP<|Za6<|Za4<|aA<|Za C<|Zf C<|aJ<|Zh 0 C Vs C hF C<|Za C<|gP (A:=[]) (ν:=[(_,_)]) (B:=[]) C C C C (zq C) d5 (λD9 R=>Xcd hbo hca m 0 [] (qN) fnd fv _ xw Sl.nil (hfd.up RI.up (R _ Yf)) (V.up (R _ Yf)) (U.up (R _ Yf)) (hF.up (R _ Yf))) C zy λv9 D10 _ hJ hE=>?_;obtain⟨rfl,hH,rfl,Y⟩:=hE;refine Zf C<|aJ<|Za C<|aE<|Zai C (λhc3=>?_) λhc3=>?_
   ·refine Za9<|yE C<|Za5<|Za5<|Zba<|Za2<|bL<|Za C<|Zav C<|aE<|Zai C (λhc4=>?_) (λhc4=>?_)
    ·rw[hc3]at hc4;cases hc4
    ·refine aP<|aA<|Zq C bW C zu C<|Zf C<|Zf C<|aG<|i6 ?_;exact Zp [_,_] C cE λD hD=>Ga O (by rw[hin,O2 hm hc3]) (Y.up RI.up (hD _ Yf))
   ·refine xi ?_;exact aK 12 (m+1,_,hH,D10) ⟨Yl,by simp only;rw[hin,TH hm hc3],Y⟩ Yl ⟨Ya,(by show some (Value.bool _)=some (Value.bool false);rw[hc3]),zy⟩ C C zp λD0 h=>by simp only[zm,n4,yk]at h;rcases h with h|h|h|h;exact⟨D10,Yf,h▸Le.refl _⟩;exact⟨I,Yf,h▸Le.refl _⟩;exact⟨E1,Yf,h▸Le.refl _⟩;exact⟨D,Yf,h▸Le.refl _⟩
  ·simp only at hc2;have hm:¬m<b.lines.length+1:=Yd
   refine Za9<|Za5<|Za5<|Zba<|Za2<|bL<|Za C<|Zav C<|aE<|Zai C (λZ=>?_) λZ=>?_
   ·refine aA<|Zf C<|Zf C<|aG<|Za3<|i6 ?_;exact Zp [_,_] C cE λD hD=>Iz O (by rw[hin,IW hm])
   ·cases Z
end L3
namespace L7
open C7
theorem YP{y:aS}{out:List Int}:∀(ts:List (List Pt)) (acc:List (Sc×Nat)),(∀p∈acc,p.2=wM y.chairs.length p.1)→∀p,p∈ts.foldl (uT y out) acc ↔ p∈acc∨∃t∈ts,jJ y.claims out (B6 y t:Int)=true∧p=(dQ y t,B6 y t)
 | [],acc,_,p=>by simp
 |t::ts,acc,h,p=>by
  rw[yp];have h':∀p∈uT y out acc t,p.2=wM y.chairs.length p.1:=λp hp=>by
   unfold uT at hp;split at hp
   ·rcases zd.1 hp with hp|hp
    ·exact h p hp
    ·simp only[yf]at hp;subst hp;rfl
   ·exact h p hp
  rw[YP ts _ h' p];have key:p∈uT y out acc t ↔ p∈acc∨(jJ y.claims out (B6 y t:Int)=true∧p=(dQ y t,B6 y t)):=by
   unfold uT;split
   ·rename_i hc;rw[zl]at hc;rw[zd,yf];exact⟨λh=>h.imp id λe=>⟨hc.1,e⟩,λh=>h.imp id λe=>e.2⟩
   ·rename_i hc;refine⟨zq,λh3=>?_⟩;rcases h3 with h3|⟨hr,rfl⟩
    ·exact h3
    ·have hr':jJ y.claims out (wM y.chairs.length (dQ y t):Int)=true:=hr;rw[hr',v_,Bool.not_eq_true,xn,yt,ry,th]at hc;obtain⟨hc1,hc2⟩:=hc;have hne:acc≠[]:=λe=>hc1 qy
     unfold BM at hc2;rw[ph hne]at hc2;have h4:=Yav hc2;have h5:=h _ (List.getLast_mem hne);have:acc.getLast hne=(dQ y t,B6 y t):=Prod.ext h4 (by rw[h5,h4];rfl)
     rw[←this];exact List.getLast_mem hne
  rw[key];constructor
  ·rintro((h1|h1)|⟨s,h1,h2⟩)
   ·exact zq h1
   ·exact zt ⟨t,zj,h1⟩
   ·exact zt ⟨s,GT _ h1,h2⟩
  ·rintro(h1|⟨s,h1,h2⟩)
   ·exact zq (zq h1)
   ·rcases zm.1 h1 with rfl|h1
    ·exact zq (zt h2)
    ·exact zt ⟨s,h1,h2⟩
theorem nW{y:aS}{out:List Int}{p:Sc×Nat}:p∈bT y out ↔∃t,eM y t=true∧jJ y.claims out (B6 y t:Int)=true∧p=(dQ y t,B6 y t):=by
 unfold bT;rw[YP _ _ Yf];simp only[n4,false_or,ZM]
theorem Il{y:aS}(h:aSX y)(out:List Int):∀s∈(bT y out).map λp=>p.1,YW y.chairs.length s:=λs hs=>by
 obtain⟨p,hp,rfl⟩:=n5.1 hs;obtain⟨t,ht,_,rfl⟩:=nW.1 hp;obtain⟨hl,_⟩:=H3 ht;have:=h.len;exact wI hl Yd
def jO(y:aS):List (Int×Int)×Int×Int:=if aW y≠0 then([],0,aW y)else if bT y []=[]then([],0,11)else
 (((U1 y y.chairs.length 0 0 []).foldl (FK ((bT y []).map λp=>p.1)) ([], -1)).1,((U1 y y.chairs.length 0 0 []).foldl (FK ((bT y []).map λp=>p.1)) ([], -1)).2,0)
theorem Ig{y:aS}{D:aC}(h:aW y≠0):∃lv,Value.tuple #[qN,qI 0,qI (aW y)]=.tuple #[lv,qI (jO y).2.1,qI (jO y).2.2]∧Sl D R2 2 lv (jO y).1:=by
 rw[jO,zo h];exact⟨_,C,Sl.nil⟩
theorem Es{y:aS}{D:aC}(h:aW y=0)(hn:bT y []=[]):∃lv,Value.tuple #[qN,qI 0,qI 11]=.tuple #[lv,qI (jO y).2.1,qI (jO y).2.2]∧Sl D R2 2 lv (jO y).1:=by
 rw[jO,zv Yd,zo hn];exact⟨_,C,Sl.nil⟩
theorem E8{y:aS}{D:aC}{lv:Γ}(h:aW y=0)(hn:((bT y []).map λp=>p.1)≠[])(hS:Sl D R2 2 lv ((U1 y y.chairs.length 0 0 []).foldl (FK ((bT y []).map λp=>p.1)) ([], -1)).1):∃lv',Value.tuple #[lv,qI ((U1 y y.chairs.length 0 0 []).foldl (FK ((bT y []).map λp=>p.1)) ([], -1)).2,qI 0]=.tuple #[lv',qI (jO y).2.1,qI (jO y).2.2]∧Sl D R2 2 lv' (jO y).1:=by
 rw[jO,zv Yd,zv (λe=>hn qy)];exact⟨_,C,hS⟩
theorem aKI(yv:Γ)(y:aS)(D:aC)(hy:gZ D yv y):Fn prog 51 #[yv] D (λD' v=>∃lv,v=.tuple #[lv,qI (jO y).2.1,qI (jO y).2.2]∧Sl D' R2 2 lv (jO y).1):=by
 have Z:=hy;obtain⟨cv,qv,rfl,hc,hq⟩:=hy;refine Zx 30 func51 C λh0=>aA<|Zac C λq1 E1 hO R=>Zag C Yag C λq2=>Zag C cN C λq3=>Zf C<|bD<|Zv C nY C R mD<|Zd C (λD1 hB=>J5 _ y _ (Z.up (hB _ Yf)))<|Zf C<|aJ<|Za C ?_;refine Za0 C<|aE<|Zae C (λhc1=>?_) λhc1=>?_
 ·refine aA<|Za C<|Zs C GC (.tail ζ) C<|Zs C aI ζ C<|Wi ?_;exact Zp [_,_,_] C ⟨⟨_,_,_,C,zi,Or.inl ⟨FP,C⟩⟩,⟨_,_,_,C,zu,Or.inl ⟨aH,C⟩⟩,C,zy⟩ λD hD=>Ig hc1
 ·have U:aW y=0:=Yd
  have hyo:=VZ U;have hE:=hyo.len;refine aP<|aA<|Zv C nY C R mD<|gQ (L:=_) C C C (λD5 hP=>FN _ y _ _ D5 C) C zy λv5 D6 _ hR hp5=>?_;obtain⟨wb,mb,rfl,rfl⟩:=hp5;refine Zf C<|aJ<|Za C<|bB ([]++[(_,_),(_,_)]++([(_,_),(_,_)])) C<|gP (A:=[]) (ν:=[(_,_),(_,_)]) (B:=[(_,_),(_,_)]) C C C C (zq C) (PG (cs:=[_,_,_,_])) (λD7 V=>OH wb mb _ _ y [] _ hE hyo.fit hyo.size #[] 0 [] _ (hc.up I0.up (V _ Yf)) (hq.up R2.up (V _ Yf)) Sl.nil C MD.nil) C zy λv7 D8 _ hS hH=>?_;obtain⟨sv,mv,rfl,hsv,hmv,hX,hY,M1,rfl,rA,hI⟩:=hH;refine Za C<|Zar C<|Zar C<|Zag C Th C λq4=>dD C C C hsv.cells1 m9 .head Yf C hsv.cell1 zy<|Zf C<|bX<|Za6<|Q8 (A:=[]) (b:=q4) (cells:=[sv]) C λrB hJ hV=>aM<|Zh 0 C yC C hV C<|Zaj C U212 C hsv C ?_;refine Zas C<|aE<|Zae C (λhc2=>?_) λhc2=>?_
  ·have hnil:bT y []=[]:=wm
   refine aA<|Zs C GC (.tail (.tail (.tail ζ))) C<|Zs C aI (.tail (.tail ζ)) C<|Wi ?_;exact Zp [_,_,_] C ⟨⟨_,_,_,C,ue,Or.inl ⟨FP,C⟩⟩,⟨_,_,_,C,xq,Or.inl ⟨aH,C⟩⟩,C,zy⟩ λD hD=>Es U hnil
  ·have hne:((bT y []).map λp:Sc×Nat=>p.1)≠[]:=λe=>hc2 qy
   have hsc:=Il hyo [];refine aP<|aA<|Zs C aI (.tail (.tail ζ)) C<|aJ<|Zag C Ybb C λq5=>aJ<|Za1 C<|Zs C Ya6 ζ C<|bX<|Q8 (A:=[]) (b:=q5) (cells:=[.func (.func 112) #[] #[qP q1,qP q4,qP q3,qP q2,qP q5]]) C λD21 hK hF=>aM<|Zh 0 C RX C hF C ?_;refine bB ([(_,_),(_,_)]++[(_,_),(_,_)]++([])) C<|gP (A:=[(_,_),(_,_)]) (ν:=[(_,_),(_,_)]) (B:=[]) C C C C (zq C) UG (λD11 I=>Xcb hyo hne hsc y.chairs.length 0 Yd 0 [] (qN) [] (-1) (qN) _ Yd Yi Yf Sl.nil Sl.nil (hc.up I0.up (I _ Yf)) (hq.up R2.up (I _ Yf)) (R.up (I _ Yf)) (hV.up (I _ Yf)) (hsv.up aBP.up (I _ Yf)) (hF.up (I _ Yf))) C zy λv11 D12 _ hN Y=>?_;obtain⟨pv1,rfl,O⟩:=Y;refine bX<|bK [] 1 5 6<|Zq C FP C ue C<|Zq C aH C xq C<|YQ C C C O.cells1 GC (.tail (.tail (.tail .head))) Yf C O.cell1 zy<|Zs C aI (.tail (.tail ζ)) C<|Wd ?_;exact Zp [_,_,_] C ⟨⟨_,_,_,C,ue,Or.inl ⟨FP,C⟩⟩,⟨_,_,_,C,xq,Or.inl ⟨aH,C⟩⟩,C,zy⟩ λD hD=>E8 U hne (O.up R2.up (hD _ Yf))
end L7
namespace L12
open C12
def eI(s:aO):Int:=if C1.eJ s.row true≠0 then 11 else if C2.aW s.table≠0 then 9 else if C2.nG s.table true≠0 then 11 else if C3.aW s.book≠0 then 3 else if C7.aW s.yard≠0 then 3 else if(L7.dS s.yard).2≠0 then 11 else 0
section
variable{s:aO}{v:Γ}
theorem Iq(h:C1.eJ s.row true≠0)(e:v=gK 11):eI s≠0∧v=gK (eI s):=by unfold eI;rw[zo h];exact⟨Yu,e⟩
theorem Iy(h0:C1.eJ s.row true=0)(h:C2.aW s.table≠0)(e:v=gK 9):eI s≠0∧v=gK (eI s):=by unfold eI;rw[zv Yd,zo h];exact⟨Yu,e⟩
theorem Gk(h0:C1.eJ s.row true=0)(h1:C2.aW s.table=0)(h:C2.nG s.table true≠0)(e:v=gK 11):eI s≠0∧v=gK (eI s):=by unfold eI;rw[zv Yd,zv Yd,zo h];exact⟨Yu,e⟩
theorem Ev(h0:C1.eJ s.row true=0)(h1:C2.aW s.table=0)(h2:C2.nG s.table true=0)(h:C3.aW s.book≠0)(e:v=gK 3):eI s≠0∧v=gK (eI s):=by unfold eI;rw[zv Yd,zv Yd,zv Yd,zo h];exact⟨Yu,e⟩
theorem Ij(h0:C1.eJ s.row true=0)(h1:C2.aW s.table=0)(h2:C2.nG s.table true=0)(h3:C3.aW s.book=0)(h:C7.aW s.yard≠0)(e:v=gK 3):eI s≠0∧v=gK (eI s):=by unfold eI;rw[zv Yd,zv Yd,zv Yd,zv Yd,zo h];exact⟨Yu,e⟩
theorem Fj(h0:C1.eJ s.row true=0)(h1:C2.aW s.table=0)(h2:C2.nG s.table true=0)(h3:C3.aW s.book=0)(h4:C7.aW s.yard=0)(h:(L7.dS s.yard).2≠0)(e:v=gK 11):eI s≠0∧v=gK (eI s):=by unfold eI;rw[zv Yd,zv Yd,zv Yd,zv Yd,zv Yd,zo h];exact⟨Yu,e⟩
theorem Ki(h0:C1.eJ s.row true=0)(h1:C2.aW s.table=0)(h2:C2.nG s.table true=0)(h3:C3.aW s.book=0)(h4:C7.aW s.yard=0)(h5:(L7.dS s.yard).2=0):eI s=0:=by unfold eI;rw[zv Yd,zv Yd,zv Yd,zv Yd,zv Yd,zv Yd]
end
theorem mS(n many:Int)(D:aC):lA prog 320 [qI n,qI many] D [] (λ_ _ ν'=>(n<many)∧ν'=[]) (λv=>(many≤n)∧v=gK 7):=by
 refine eR 9 func320 C C C C λh0 hwl hwn=>aM<|Za C<|Za C<|kE C C C C zy<|Zu C U397 nM rJ C (.cons C C .nil) λV D901 R I=>Zm [] [] [] C (zt Yi) (λZ O=>gN 7 [decide (many≤n)] _ _ ((iT (l:=[decide (many≤n)]) (λ_ _ _ h=>h) I Yf).up RB.up (O _ Yf))) (λv5 Y O hp5=>dC (P:=prog) (fn:=f320) C ⟨kq,hp5.2⟩) λv5 Y ν5 O hp5=>?_;obtain⟨U,rfl⟩:=hp5;refine Zap ?_;exact eO C λD' hD=>⟨by simpa using U,C⟩
theorem L5(many most:Int)(D:aC):lA prog 319 [qI many,qI most] D [] (λ_ _ ν'=>(many<most)∧ν'=[]) (λv=>(most≤many)∧v=gK 3):=by
 refine eR 9 func319 C C C C λh0 hwl hwn=>aM<|Za C<|Za C<|kE C C C C zy<|Zu C U397 nM rJ C (.cons C C .nil) λV D901 R I=>Zm [] [] [] C (zt Yi) (λZ O=>gN 3 [decide (most≤many)] _ _ ((iT (l:=[decide (most≤many)]) (λ_ _ _ h=>h) I Yf).up RB.up (O _ Yf))) (λv5 Y O hp5=>dC (P:=prog) (fn:=f319) C ⟨kq,hp5.2⟩) λv5 Y ν5 O hp5=>?_;obtain⟨U,rfl⟩:=hp5;refine Zap ?_;exact eO C λD' hD=>⟨by simpa using U,C⟩
theorem xX(n most:Int)(D:aC):lA prog 321 [qI n,qI most] D [] (λ_ _ ν'=>(n≤most)∧ν'=[]) (λv=>(most<n)∧v=gK 2):=by
 refine eR 9 func321 C C C C λh0 hwl hwn=>aM<|Za C<|Za C<|Zat C<|Zu C U397 nM rJ C (.cons C C .nil) λV D901 R I=>Zm [] [] [] C (zt Yi) (λZ O=>gN 2 [decide (most<n)] _ _ ((iT (l:=[decide (most<n)]) (λ_ _ _ h=>h) I Yf).up RB.up (O _ Yf))) (λv5 Y O hp5=>dC (P:=prog) (fn:=f321) C ⟨kq,hp5.2⟩) λv5 Y ν5 O hp5=>?_;obtain⟨U,rfl⟩:=hp5;refine Zap ?_;exact eO C λD' hD=>⟨by simpa using U,C⟩
theorem PW(a b most:Int)(D:aC):lA prog 324 [qI a,qI b,qI most] D [] (λ_ _ ν'=>(a≤b∧b≤most)∧ν'=[]) (λv=>(b<a∨most<b)∧v=gK 2):=by
 refine eR 14 func324 C C C C λh0 hwl hwn=>aM<|Za C<|Za C<|Zat C<|Za C<|Za C<|Zat C<|Zu C U397 nM rJ C (.cons C C (.cons C C .nil)) λV D901 R I=>Zm [] [] [] C (zt Yi) (λZ O=>gN 2 [decide (b<a),decide (most<b)] _ _ ((iT (l:=[decide (b<a),decide (most<b)]) (λ_ _ _ h=>h) I Yf).up RB.up (O _ Yf))) (λv5 Y O hp5=>dC (P:=prog) (fn:=f324) C ⟨kq,hp5.2⟩) λv5 Y ν5 O hp5=>?_;obtain⟨U,rfl⟩:=hp5;refine Zap ?_;exact eO C λD' hD=>⟨by simpa using U,C⟩
theorem Ed(sv:Γ)(s:aO)(D:aC)(hs:iE D sv s):lA prog 209 [sv] D [] (λ_ _ ν'=>eI s=0∧ν'=[]) (λv=>eI s≠0∧v=gK (eI s)):=by
 obtain⟨pv,cv,hv,lv,mv,bl,bc,yc,yq,rfl,hL⟩:=hs;refine eR 52 func209 C C C C λh0 hwl hwn=>aA<|Zac C λq1 E1 hE1 hB=>aJ<|Zj C eD C<|Zaq 0 C oL nH C hB C<|Zz C (λD1 rB=>L1.aRI _ s.row _ (hL.row.up (rB _ Yf))) λv1 D1 rB hp1=>?_;obtain⟨pl1,rfl,_⟩:=hp1;refine Za C<|Zar C<|Zar C<|Zf C<|Zf C<|aJ<|Za C<|Za0 C<|Zu C U397 nM rJ C (.cons C C .nil) (λb901 D901 hD901 hP=>Zm [] [] [] C (zt Yi) (λD50 hE=>gN 11 [decide (C1.eJ s.row true≠0)] _ _ ((iT (l:=[decide (C1.eJ s.row true≠0)]) (λ_ _ _ h=>h) hP Yf).up RB.up (hE _ Yf))) (λv50 D51 hE I=>dC (P:=prog) (fn:=f209) C (Iq (by simpa using I.1) I.2)) λv50 D51 ν50 hE I=>?_);obtain⟨hf50,rfl⟩:=I;refine aJ<|Zj C dK C<|Zaq 4 C lR kF C hB C<|Zd C (λD2 hD2=>L2.Z5 _ s.table _ (hL.table.up (hD2 _ Yf)))<|Za0 C<|Zu C U397 nM rJ C (.cons C C .nil) (λb902 D902 hD902 hR=>Zm [] [] [] C (zt Yi) (λD52 hF=>gN 9 [decide (C2.aW s.table≠0)] _ _ ((iT (l:=[decide (C2.aW s.table≠0)]) (λ_ _ _ h=>h) hR Yf).up RB.up (hF _ Yf))) (λv52 D53 hF O=>dC (P:=prog) (fn:=f209) C (Iy ny (by simpa using O.1) O.2)) λv52 D53 ν52 hF O=>?_);obtain⟨hf52,rfl⟩:=O;refine aJ<|Zj C dK C<|Zaq 4 C lR kF C hB C<|Zz C (λD3 hD3=>L2.E0 _ s.table _ (hL.table.up (hD3 _ Yf))) λv3 D3 hD3 hp3=>?_;obtain⟨bl3,rfl,_⟩:=hp3;refine Za C<|Zar C<|Zar C<|Zf C<|aJ<|Za C<|Za0 C<|Zu C U397 nM rJ C (.cons C C .nil) (λb903 D903 hD903 hS=>Zm [] [] [] C (zt Yi) (λD54 hH=>gN 11 [decide (C2.nG s.table true≠0)] _ _ ((iT (l:=[decide (C2.nG s.table true≠0)]) (λ_ _ _ h=>h) hS Yf).up RB.up (hH _ Yf))) (λv54 D55 hH R=>dC (P:=prog) (fn:=f209) C (Gk ny ko (by simpa using R.1) R.2)) λv54 D55 ν54 hH R=>?_);obtain⟨U,rfl⟩:=R;refine aJ<|Zj C gJ C<|Zaq 9 C gW fU C hB C<|Zd C (λD4 hD4=>L3.G1 _ s.book _ (hL.book.up (hD4 _ Yf)))<|Za0 C<|Zu C U397 nM rJ C (.cons C C .nil) (λb904 D904 hD904 hX=>Zm [] [] [] C (zt Yi) (λD56 hI=>gN 3 [decide (C3.aW s.book≠0)] _ _ ((iT (l:=[decide (C3.aW s.book≠0)]) (λ_ _ _ h=>h) hX Yf).up RB.up (hI _ Yf))) (λv56 D57 hI V=>dC (P:=prog) (fn:=f209) C (Ev ny ko (by simpa using U) (by simpa using V.1) V.2)) λv56 D57 ν56 hI V=>?_);obtain⟨hJ,rfl⟩:=V;refine aJ<|Zj C fF C<|Zaq 14 C nY mD C hB C<|Zd C (λD5 hD5=>L7.J5 _ s.yard _ (hL.yard.up (hD5 _ Yf)))<|Za0 C<|Zu C U397 nM rJ C (.cons C C .nil) (λb905 D905 hD905 hY=>Zm [] [] [] C (zt Yi) (λD58 hK=>gN 3 [decide (C7.aW s.yard≠0)] _ _ ((iT (l:=[decide (C7.aW s.yard≠0)]) (λ_ _ _ h=>h) hY Yf).up RB.up (hK _ Yf))) (λv58 D59 hK Y=>dC (P:=prog) (fn:=f209) C (Ij ny ko (by simpa using U) (by simpa using hJ) (by simpa using Y.1) Y.2)) λv58 D59 ν58 hK Y=>?_);obtain⟨hO,rfl⟩:=Y;refine aJ<|Zj C fF C<|Zaq 14 C nY mD C hB C<|Zd C (λD6 hD6=>L7.E0 _ s.yard _ (hL.yard.up (hD6 _ Yf)))<|Za C<|Zar C<|Zar C<|Zf C<|aE<|aM<|Za C<|Za0 C ?_;refine Zu C U397 nM rJ C (.cons C C .nil) (λb906 D906 hD906 rA=>Zm [] [] [] C (zt Yi) (λD60 hN=>gN 11 [decide ((L7.dS s.yard).2≠0)] _ _ ((iT (l:=[decide ((L7.dS s.yard).2≠0)]) (λ_ _ _ h=>h) rA Yf).up RB.up (hN _ Yf))) (λv60 D61 hN Z=>dC (P:=prog) (fn:=f209) C (Fj ny ko (by simpa using U) (by simpa using hJ) (by simpa using hO) (by simpa using Z.1) Z.2)) λv60 D61 ν60 hN Z=>?_);obtain⟨hf60,rfl⟩:=Z;refine Zap ?_;exact eO C λD' hD=>⟨Ki ny ko (by simpa using U) (by simpa using hJ) (by simpa using hO) (by simpa using hf60),C⟩
def G5:aO:=⟨{places:=[2,2,2,2],counts:=[],wrong:=0,off:=1},{last:=3,heights:=[(5,5),(5,5),(5,5),(5,5)],step:=5,levels:=[],marks:=[]},{chairs:=3,coin:=5,box:=20,lines:=[],counts:=[]},{chairs:=[],fit:=1,claims:=[]}⟩
theorem zS(D:aC):Fn prog 139 #[] D (λD' v=>iE D' v G5):=by
 refine Zx 38 func139 C λh0=>aA<|Zag C uK C λU=>aJ<|Zag C uK C λV=>aJ<|Zj C eD C<|Zj C BJ C<|Zs C aI ζ C<|Zj C fF C<|Zj C Q7 C<|Zs C aI ζ C ?_;refine aJ<|Zj C dK C<|Zj C nT C<|Zs C aI ζ C<|Zj C dK C<|Zj C O6 C<|Zs C aI ζ C<|aJ<|Zj C gJ C<|Zj C wX C<|Zs C aI ζ C<|Zj C gJ C ?_;refine Zj C S7 C<|Zs C aI ζ C<|Zj C gJ C<|Zj C JL C<|Zs C aI ζ C<|bD<|Za C<|aE<|Za4<|Zc (Nat×Γ×aF) (λg=>4-g.1) (λg=>g.1≤4∧bM 3 1 g.2.1 g.1 (ints (List.replicate g.1 2)) g.2.2) (λg=>[(16,qI (g.1:Int))]) [(1,_),(0,_)] (λg=>g.2.2++[(V,qC [g.2.1,qN,qI 0,qI 1,qI 3,qN,qI 5,qN,qN,qI 3,qI 5,qI 20,qN,qN,qN,qI 1,qN] 89),(U,qC [qN,qN,qI 0,qI 0,qI 0,qN,qI 0,qN,qN,qI 0,qI 0,qI 0,qN,qN,qN,qI 0,qN] 89)]) (λg=>[D]) (0,qN,[]) ⟨Yf,qz⟩ ⟨Ya,zy⟩ zp ?_;rintro⟨k,v,ν⟩ ⟨h1,ha⟩;simp only at h1 ha;refine aA<|Zal C<|bX<|Zae C (λhc1=>?_) λhc1=>?_
 ·simp only at hc1;refine aP<|Za6<|Za4<|aM<|Zj C eD C<|Zj C fQ C<|Zq C bW C (LT _ zu) C<|Zu C U35 aI cN C (.cons C C .nil) λhJ D901 Y I=>?_;have Z:=Sl.ofInts (l:=[_]) (n:=1) (cap:=1) I C Yd Yd;refine aT (A:=[]) (B:=[(_,_),(_,_)]) C U35 C C aI cN C jV C C C ha (kX.lit I) Yf C (by simp[ints]) Ym Yd (zq C) C zy λv1 ν1 ha1=>?_;have O:bM 3 1 v1 (k+1) (ints (List.replicate (k+1) 2)) ν1:=by rw[List.replicate_succ',←eL];exact ha1
  refine Zj C eD C<|Zj C fQ C<|bB (ν1++(V,_)::[(U,_)]) C<|dD C C C ha1.cells1 eZ (.app .head) Yf C ha1.cell1 zy<|Zap<|Wc ?_;exact aK 11 (k+1,v1,ν1) ⟨Yl,O⟩ Yl ⟨Ya,zy⟩ C C zp λD h=>⟨D,zb _ (h),Le.refl D⟩
 ·obtain rfl:k=4:=by simp only at hc1;omega
  refine Za9<|Za5<|Za5<|Zba<|Za2<|Za6<|Za6<|zN (A:=[]) (B:=[(_,_),(_,_)]) ha C λD8 hO hB=>?_;have hpl:=hB.ints Yf Yd;refine aM<|Za C<|aE<|Za4<|Zc (Nat×Γ×aF) (λg=>4-g.1) (λg=>g.1≤4∧bM 122 2 g.2.1 g.1 (L2.aDA (List.replicate g.1 (5,5))) g.2.2) (λg=>[(26,qI (g.1:Int))]) [(1,_),(0,_)] (λg=>g.2.2++[(V,qC [v,qN,qI 0,qI 1,qI 3,g.2.1,qI 5,qN,qN,qI 3,qI 5,qI 20,qN,qN,qN,qI 1,qN] 89),(U,qC [qN,qN,qI 0,qI 0,qI 0,qN,qI 0,qN,qN,qI 0,qI 0,qI 0,qN,qN,qN,qI 0,qN] 89)]) (λg=>[D8,D]) (0,qN,[]) ⟨Yf,by simpa [L2.aDA]using bM.nil⟩ ⟨Ya,zy⟩ zp ?_;rintro⟨j,u,ω⟩ ⟨h2,hb⟩;simp only at h2 hb;refine aA<|Zal C<|bX<|Zae C (λhc2=>?_) λhc2=>?_
  ·simp only at hc2;refine aP<|Za6<|Za4<|aM<|Zj C dK C<|Zj C mQ C<|Zq C yT C (LT _ zu) C<|Zw [qI 5,qI 5] C G9 iO C<|Zu C U76 cR iO C (.cons C C .nil) (λhK hN hE R=>aT (A:=[]) (B:=[(_,_),(_,_)]) C U76 C C cR iO C QZ C C C hb (kX.lit R) Yf C (by rw[L2.JZ];simp) Ym Yd (zq C) C zy λv2 ν2 O=>?_)
   have hF:bM 122 2 v2 (j+1) (L2.aDA (List.replicate (j+1) (5,5))) ν2:=by rw[List.replicate_succ',L2.IL];exact O
   refine Zj C dK C<|Zj C mQ C<|bB (ν2++(V,_)::[(U,_)]) C<|dD C C C O.cells1 dh (.app .head) Yf C O.cell1 zy<|Zap<|Wc ?_;exact aK 12 (j+1,v2,ν2) ⟨Yl,hF⟩ Yl ⟨Ya,zy⟩ C C zp λD h=>⟨D,zb _ (h),Le.refl D⟩
  ·obtain rfl:j=4:=by simp only at hc2;omega
   refine Za9<|Za5<|Za5<|Zba<|Za2<|aA<|Zah C mM C (LT _ zu) fN<|Zab C fN (.app (.tail ζ)) (by simp[cell1];exact⟨ha.cell1 _ Yf,hb.cell1 _ Yf⟩)<|aG<|dE (A:=[]) (B:=[(_,_),(_,_)]) hb C λD9 hH hI=>?_;have hht:=hI.rgs Yf Yd;exact Zp [_] C ⟨⟨_,_,_,C,zb _ zu,zt ⟨mM,fN,C⟩⟩,zy⟩ λD hD=>⟨v,qN,u,qN,qN,qN,qN,qN,qN,C,(hpl.up RI.up ((hH _ Yf).trans (hD _ Yf))),Sl.nil,hht.up EQ.up (hD _ Yf),Sl.nil,Sl.nil,Sl.nil,Sl.nil,Sl.nil,Sl.nil⟩
def cI(n:Int):List Γ:=[qI n]
def cC(c:C1.zM):List Γ:=[.bool c.back,qI c.many,qI c.num]
def cP(p:Int×Int):List Γ:=[qI p.1,qI p.2]
def cM(m:C2.Mk):List Γ:=[qI m.frm,qI m.to,qI m.lo,qI m.hi]
def cL(l:C3.bQ):List Γ:=[qI l.kind,qI l.chair,qI l.token]
def cH(c:C7.Ch):List Γ:=[qI c.size,qI c.parts.a,qI c.parts.b,qI c.parts.c]
theorem p4(n:Int):∀u∈cI n,cell1 u=true:=by intro u hu;simp[cI]at hu;subst hu;rfl
theorem s9(c:C1.zM):∀u∈cC c,cell1 u=true:=by intro u hu;simp[cC]at hu;rcases hu with rfl|rfl|rfl<;>rfl
theorem B1(p:Int×Int):∀u∈cP p,cell1 u=true:=by intro u hu;simp[cP]at hu;rcases hu with rfl|rfl<;>rfl
theorem AA(m:C2.Mk):∀u∈cM m,cell1 u=true:=by intro u hu;simp[cM]at hu;rcases hu with rfl|rfl|rfl|rfl<;>rfl
theorem BL(l:C3.bQ):∀u∈cL l,cell1 u=true:=by intro u hu;simp[cL]at hu;rcases hu with rfl|rfl|rfl<;>rfl
theorem JO(c:C7.Ch):∀u∈cH c,cell1 u=true:=by intro u hu;simp[cH]at hu;rcases hu with rfl|rfl|rfl|rfl<;>rfl
def sw{α:Type}(f:α→List Γ)(n:Nat):Prop:=(∀x,(f x).length=n)∧∀x,∀u∈f x,cell1 u=true
theorem rp:sw cI 1:=⟨λ_=>C,p4⟩
theorem gg:sw cC 3:=⟨λ_=>C,s9⟩
theorem nk:sw cP 2:=⟨λ_=>C,B1⟩
theorem bz:sw cM 4:=⟨λ_=>C,AA⟩
theorem nl:sw cL 3:=⟨λ_=>C,BL⟩
theorem lj:sw cH 4:=⟨λ_=>C,JO⟩
theorem dO{α:Type}{f:α→List Γ}{n:Nat}(h:∀x,(f x).length=n)(xs:List α):(xs.flatMap f).length=xs.length*n:=by
 induction xs with
 |nil=>simp
 |cons x xs ih=>rw[xy,zf,h,ih,zh,xb];omega
theorem dP{α:Type}{f:α→List Γ}(h:∀x,∀u∈f x,cell1 u=true)(xs:List α):∀u∈xs.flatMap f,cell1 u=true:=by
 intro u hu;obtain⟨x,_,hx⟩:=vr.1 hu;exact h x u hx
theorem OG{α:Type}{f:α→List Γ}{n:Nat}(h:∀x,(f x).length=n){xs:List α}{i:Nat}{x:α}(hi:xs[i]?= some x)(junk:List Γ):((xs.flatMap f++junk).drop (i*n)).take n=f x:=by
 induction xs generalizing i with
 |nil=>simp at hi
 |cons d xs ih=>
  rw[xy,yy];cases i with
  |zero=>
   obtain rfl:d=x:=wy
   rw[ug,sk,vg (by rw[h];omega),ww (by rw[h];omega)]
  |succ i=>
   rw[show(i+1)*n=(f d).length+i*n by rw[h,xb];omega,lh];exact ih wy
theorem oW{α:Type}{R:Rd α}{f:α→List Γ}{n:Nat}{D:aC}{v:Γ}{xs:List α}(hR:∀D x,R D x (f x))(h:∀x,(f x).length=n)(hF:lB D v xs.length (xs.flatMap f))(hb:xs.length≤10000000):Sl D R n v xs:=
 hF.sl C Yd λi t hi=>⟨f t,hR _ _,h t,by have:=OG h hi [];rwa [yr]at this⟩
theorem zP(sv:Γ)(xs:List Int)(D:aC)(hS:Sl D RI 1 sv xs)(hl:xs.length≤10000000):NC prog 106 #[sv] D (λ_ v ν=>bM 3 1 v xs.length (xs.flatMap cI) ν):=by
 obtain⟨a0,c0,rfl⟩:=hS.shape;refine sE 8 func106 C C C C λh0=>aA<|Zf C<|bD<|Za C<|sJ C U35 C C C zy<|aE<|Zai C (λhc1=>?_) λhc1=>?_
 ·obtain rfl:a0=none:=xe
  obtain rfl:=vI hS;refine aA<|Wi ?_;exact aD C λD' hD=>bM.nil
 ·refine aP<|aA<|Zu C U35 aI cN C .nil λR D901 I O=>Za C<|aT (A:=[]) (ν:=[]) (B:=[]) C U35 C C aI cN C jV C C C bM.nil (kX.of (cells:=cI) (λ_ _ _ h=>h) (λ_=>C) hS) Yf (dO (n:=1) (λ_=>C) xs) C (dP p4 xs) Yd (zq C) C zy λU ν1 ha1=>Wd ?_;exact aD C λD' hD=>by show bM 3 1 U _ _ _;simpa using ha1
theorem Eo(sv:Γ)(xs:List C1.zM)(D:aC)(hS:Sl D RC 3 sv xs)(hl:xs.length≤10000000):NC prog 286 #[sv] D (λ_ v ν=>bM 277 3 v xs.length (xs.flatMap cC) ν):=by
 obtain⟨a0,c0,rfl⟩:=hS.shape;refine sE 8 func286 C C C C λh0=>aA<|Zf C<|bD<|Za C<|sJ C U73 C C C zy<|aE<|Zai C (λhc1=>?_) λhc1=>?_
 ·obtain rfl:a0=none:=xe
  obtain rfl:=vI hS;refine aA<|Wi ?_;exact aD C λD' hD=>bM.nil
 ·refine aP<|aA<|Zu C U73 lM K4 C .nil λR D901 I O=>Za C<|aT (A:=[]) (ν:=[]) (B:=[]) C U73 C C lM K4 C Vu C C C bM.nil (kX.of (cells:=cC) (λ_ _ _ h=>h) (λ_=>C) hS) Yf (dO (n:=3) (λ_=>C) xs) C (dP s9 xs) Yd (zq C) C zy λU ν1 ha1=>Wd ?_;exact aD C λD' hD=>by show bM 277 3 U _ _ _;simpa using ha1
theorem Fh(sv:Γ)(xs:List (Int×Int))(D:aC)(hS:Sl D EQ 2 sv xs)(hl:xs.length≤10000000):NC prog 287 #[sv] D (λ_ v ν=>bM 122 2 v xs.length (xs.flatMap cP) ν):=by
 obtain⟨a0,c0,rfl⟩:=hS.shape;refine sE 8 func287 C C C C λh0=>aA<|Zf C<|bD<|Za C<|sJ C U76 C C C zy<|aE<|Zai C (λhc1=>?_) λhc1=>?_
 ·obtain rfl:a0=none:=xe
  obtain rfl:=vI hS;refine aA<|Wi ?_;exact aD C λD' hD=>bM.nil
 ·refine aP<|aA<|Zu C U76 cR iO C .nil λR D901 I O=>Za C<|aT (A:=[]) (ν:=[]) (B:=[]) C U76 C C cR iO C QZ C C C bM.nil (kX.of (cells:=cP) (λ_ _ _ h=>h) (λ_=>C) hS) Yf (dO (n:=2) (λ_=>C) xs) C (dP B1 xs) Yd (zq C) C zy λU ν1 ha1=>Wd ?_;exact aD C λD' hD=>by show bM 122 2 U _ _ _;simpa using ha1
theorem Gm(sv:Γ)(xs:List C2.Mk)(D:aC)(hS:Sl D YV 4 sv xs)(hl:xs.length≤10000000):NC prog 288 #[sv] D (λ_ v ν=>bM 376 4 v xs.length (xs.flatMap cM) ν):=by
 obtain⟨a0,c0,rfl⟩:=hS.shape;refine sE 8 func288 C C C C λh0=>aA<|Zf C<|bD<|Za C<|sJ C U77 C C C zy<|aE<|Zai C (λhc1=>?_) λhc1=>?_
 ·obtain rfl:a0=none:=xe
  obtain rfl:=vI hS;refine aA<|Wi ?_;exact aD C λD' hD=>bM.nil
 ·refine aP<|aA<|Zu C U77 mO K7 C .nil λR D901 I O=>Za C<|aT (A:=[]) (ν:=[]) (B:=[]) C U77 C C mO K7 C Vl C C C bM.nil (kX.of (cells:=cM) (λ_ _ _ h=>h) (λ_=>C) hS) Yf (dO (n:=4) (λ_=>C) xs) C (dP AA xs) Yd (zq C) C zy λU ν1 ha1=>Wd ?_;exact aD C λD' hD=>by show bM 376 4 U _ _ _;simpa using ha1
theorem Jh(sv:Γ)(xs:List C3.bQ)(D:aC)(hS:Sl D jQ 3 sv xs)(hl:xs.length≤10000000):NC prog 289 #[sv] D (λ_ v ν=>bM 298 3 v xs.length (xs.flatMap cL) ν):=by
 obtain⟨a0,c0,rfl⟩:=hS.shape;refine sE 8 func289 C C C C λh0=>aA<|Zf C<|bD<|Za C<|sJ C U80 C C C zy<|aE<|Zai C (λhc1=>?_) λhc1=>?_
 ·obtain rfl:a0=none:=xe
  obtain rfl:=vI hS;refine aA<|Wi ?_;exact aD C λD' hD=>bM.nil
 ·refine aP<|aA<|Zu C U80 cT lI C .nil λR D901 I O=>Za C<|aT (A:=[]) (ν:=[]) (B:=[]) C U80 C C cT lI C AG C C C bM.nil (kX.of (cells:=cL) (λ_ _ _ h=>h) (λ_=>C) hS) Yf (dO (n:=3) (λ_=>C) xs) C (dP BL xs) Yd (zq C) C zy λU ν1 ha1=>Wd ?_;exact aD C λD' hD=>by show bM 298 3 U _ _ _;simpa using ha1
theorem Hh(sv:Γ)(xs:List C7.Ch)(D:aC)(hS:Sl D I0 4 sv xs)(hl:xs.length≤10000000):NC prog 290 #[sv] D (λ_ v ν=>bM 314 4 v xs.length (xs.flatMap cH) ν):=by
 obtain⟨a0,c0,rfl⟩:=hS.shape;refine sE 8 func290 C C C C λh0=>aA<|Zf C<|bD<|Za C<|sJ C U84 C C C zy<|aE<|Zai C (λhc1=>?_) λhc1=>?_
 ·obtain rfl:a0=none:=xe
  obtain rfl:=vI hS;refine aA<|Wi ?_;exact aD C λD' hD=>bM.nil
 ·refine aP<|aA<|Zu C U84 nK U6 C .nil λR D901 I O=>Za C<|aT (A:=[]) (ν:=[]) (B:=[]) C U84 C C nK U6 C Vk C C C bM.nil (kX.of (cells:=cH) (λ_ _ _ h=>h) (λ_=>C) hS) Yf (dO (n:=4) (λ_=>C) xs) C (dP JO xs) Yd (zq C) C zy λU ν1 ha1=>Wd ?_;exact aD C λD' hD=>by show bM 314 4 U _ _ _;simpa using ha1
theorem Jd(sv:Γ)(xs:List (Int×Int))(D:aC)(hS:Sl D R2 2 sv xs)(hl:xs.length≤10000000):NC prog 291 #[sv] D (λ_ v ν=>bM 129 2 v xs.length (xs.flatMap cP) ν):=by
 obtain⟨a0,c0,rfl⟩:=hS.shape;refine sE 8 func291 C C C C λh0=>aA<|Zf C<|bD<|Za C<|sJ C U85 C C C zy<|aE<|Zai C (λhc1=>?_) λhc1=>?_
 ·obtain rfl:a0=none:=xe
  obtain rfl:=vI hS;refine aA<|Wi ?_;exact aD C λD' hD=>bM.nil
 ·refine aP<|aA<|Zu C U85 cU kT C .nil λR D901 I O=>Za C<|aT (A:=[]) (ν:=[]) (B:=[]) C U85 C C cU kT C Tu C C C bM.nil (kX.of (cells:=cP) (λ_ _ _ h=>h) (λ_=>C) hS) Yf (dO (n:=2) (λ_=>C) xs) C (dP B1 xs) Yd (zq C) C zy λU ν1 ha1=>Wd ?_;exact aD C λD' hD=>by show bM 129 2 U _ _ _;simpa using ha1
theorem Oq{α:Type}(a b c d e:List α):a++(b++(c++(d++e)))=(a++(b++(c++d)))++e:=Yf
theorem Ox{α:Type}(a b d e:List α):a++(b++(d++e))=(a++(b++d))++e:=Yf
structure Y0(s:aO):Prop where
 pl:s.row.places.length≤100
 ct:s.row.counts.length≤100
 ht:s.table.heights.length≤100
 lev:s.table.levels.length≤100
 mks:s.table.marks.length≤100
 ln:s.book.lines.length≤100
 ch:s.yard.chairs.length≤100
 cl:s.yard.claims.length≤100
structure nn where
 (w c r m l h q:Θ)
abbrev gh:nn:=⟨359,277,122,376,298,314,129⟩
structure Ou(w9:nn)(D:aC)(s:aO)(pv cv hv lv mv bl bc yc yq:Γ)(ν1 ν2 ν3 ν4 ν5 ν6 ν7 ν8:aF):Prop where
 pl:bM 3 1 pv s.row.places.length (s.row.places.flatMap cI) ν1
 ct:bM w9.c 3 cv s.row.counts.length (s.row.counts.flatMap cC) ν2
 ht:bM w9.r 2 hv s.table.heights.length (s.table.heights.flatMap cP) ν3
 lev:bM 3 1 lv s.table.levels.length (s.table.levels.flatMap cI) ν4
 mks:bM w9.m 4 mv s.table.marks.length (s.table.marks.flatMap cM) ν5
 ln:bM w9.l 3 bl s.book.lines.length (s.book.lines.flatMap cL) ν6
 cn:Sl D wQ 3 bc s.book.counts
 ch:bM w9.h 4 yc s.yard.chairs.length (s.yard.chairs.flatMap cH) ν7
 cl:bM w9.q 2 yq s.yard.claims.length (s.yard.claims.flatMap cP) ν8
theorem FN(sv:Γ)(s:aO)(D:aC)(hs:iE D sv s)(hsm:Y0 s):NC prog 208 #[sv] D (λD' v ν=>∃wb pv cv hv lv mv bl bc yc yq ν1 ν2 ν3 ν4 ν5 ν6 ν7 ν8,v=qP wb∧ν=(wb,qC (dY s pv cv hv lv mv bl bc yc yq) 359)::(ν8++(ν7++(ν6++(ν5++(ν4++(ν3++(ν2++ν1)))))))∧Ou gh D' s pv cv hv lv mv bl bc yc yq ν1 ν2 ν3 ν4 ν5 ν6 ν7 ν8):=by
 obtain⟨pv,cv,hv,lv,mv,bl,bc,yc,yq,rfl,hL⟩:=hs;unfold dY;refine sE 54 func208 C C C C λh0=>aA<|JK C (e:=89) C C C zy λq1=>Zf C<|bX<|fS [] 2 [0,1,2,4,5,6,3,8,9,7,10,11,12,13] [false,false,false,true,true,true,true,false,false,true,false,false,false,false] [(false,0),(false,1),(false,2),(true,4),(true,5),(true,6),(true,3),(false,8),(false,9),(true,7),(false,10),(false,11),(false,12),(false,13)] aV (λ_ _ _ h=>eA (P:=prog) (fn:=f208) _ _ _ h) Yg C<|Zj C eD C<|Zj C fQ C<|Zq C bW C zu C<|Zj C eD C<|Zj C oD C<|Zq C T0 C zu C ?_;refine gQ C C C (λD22 hJ=>zP _ s.row.places _ (hL.pl.up RI.up (hJ _ Yf)) (by have:=hsm.pl;omega)) C zy (λI D23 ν1 hY U=>Zj C eD C<|Zj C fQ C<|gQ C C C (λD24 hK=>Eo _ s.row.counts _ (hL.ct.up RC.up (hK _ Yf)) (by have:=hsm.ct;omega)) C zy λO D25 ν2 rA V=>Zad ((ν2++ν1)++(q1,_)::[]) ((yy _ _ _).symm)<|Zt (dY s I cv hv lv mv bl bc yc yq) C U.cells1 eZ (.app .head) C U.cell1<|Zj C eD C<|Zj C oD C<|Zt (dY s I O hv lv mv bl bc yc yq) C V.cells1 VK (.app .head) C V.cell1<|bX<|fS [] 2 [0,1,2,4,5,6,8,9,10,3,12,13,7,11,14,15,16,17,18,19,20] [false,false,false,true,true,true,true,true,true,true,false,false,true,true,false,false,false,false,false,false,false] [(false,0),(false,1),(false,2),(true,4),(true,5),(true,6),(true,8),(true,9),(true,10),(true,3),(false,12),(false,13),(true,7),(true,11),(false,14),(false,15),(false,16),(false,17),(false,18),(false,19),(false,20)] aV (λ_ _ _ h=>eA (P:=prog) (fn:=f208) _ _ _ h) Yg C<|Zj C dK C ?_);refine Zj C mQ C<|Zq C yT C (LT _ zu) C<|Zj C dK C<|Zj C mX C<|Zq C bW C (LT _ zu) C<|Zj C dK C<|Zj C nZ C<|Zq C P8 C (LT _ zu) C<|gQ C C C (λD26 hN=>Fh _ s.table.heights _ (hL.ht.up EQ.up (hN _ Yf)) (by have:=hsm.ht;omega)) C zy (λR D27 ν3 rB Y=>Zj C dK C<|Zj C mQ C<|gQ C C C (λD28 hO=>zP _ s.table.levels _ (hL.lev.up RI.up (hO _ Yf)) (by have:=hsm.lev;omega)) C zy λZ D29 ν4 hD29 hB=>?_);refine gQ C C C (λD30 hP=>Gm _ s.table.marks _ (hL.mks.up YV.up (hP _ Yf)) (by have:=hsm.mks;omega)) C zy λw5 D31 ν5 hD31 hE=>Zad ((ν5++(ν4++(ν3++(ν2++ν1))))++(q1,_)::[]) (Oq _ _ _ _ _)<|Zt (dY s I O R lv mv bl bc yc yq) C Y.cells1 dh (.app .head) C Y.cell1<|Zj C dK C<|Zj C mX C<|Zt (dY s I O R Z mv bl bc yc yq) C hB.cells1 eZ (.app .head) C hB.cell1<|Zj C dK C<|Zj C nZ C<|Zt (dY s I O R Z w5 bl bc yc yq) C hE.cells1 TQ (.app .head) C hE.cell1<|aJ<|Zj C gJ C<|Zj C dX C ?_;refine Zq C iK C (LT _ zu) C<|gQ C C C (λD32 hR=>Jh _ s.book.lines _ (hL.ln.up jQ.up (hR _ Yf)) (by have:=hsm.ln;omega)) C zy λw6 D33 ν6 hD33 hF=>Zj C gJ C<|Zj C dX C<|Zad ((ν6++(ν5++(ν4++(ν3++(ν2++ν1)))))++(q1,_)::[]) ((yy _ _ _).symm)<|Zt (dY s I O R Z w5 w6 bc yc yq) C hF.cells1 fC (.app .head) C hF.cell1<|bX<|fS [] 2 [0,1,2,4,5,6,3,8,9,7,10,11,12,13] [false,false,false,true,true,true,true,false,false,true,false,false,false,false] [(false,0),(false,1),(false,2),(true,4),(true,5),(true,6),(true,3),(false,8),(false,9),(true,7),(false,10),(false,11),(false,12),(false,13)] aV (λ_ _ _ h=>eA (P:=prog) (fn:=f208) _ _ _ h) Yg C<|Zj C fF C<|Zj C iS C<|Zq C qG C (LT _ zu) C<|Zj C fF C ?_;refine Zj C nV C<|Zq C P3 C (LT _ zu) C<|gQ C C C (λD34 hS=>Hh _ s.yard.chairs _ (hL.ch.up I0.up (hS _ Yf)) (by have:=hsm.ch;omega)) C zy (λw7 D35 ν7 hD35 hH=>Zj C fF C<|Zj C iS C<|gQ C C C (λD36 hX=>Jd _ s.yard.claims _ (hL.cl.up R2.up (hX _ Yf)) (by have:=hsm.cl;omega)) C zy λw8 D37 ν8 hD37 hI=>Zad ((ν8++(ν7++(ν6++(ν5++(ν4++(ν3++(ν2++ν1)))))))++(q1,_)::[]) (Ox _ _ _ _)<|Zt (dY s I O R Z w5 w6 bc w7 yq) C hH.cells1 dk (.app .head) C hH.cell1<|Zj C fF C<|Zj C nV C<|Zt (dY s I O R Z w5 w6 bc w7 w8) C hI.cells1 QY (.app .head) C hI.cell1<|aJ ?_);refine Zah C mM C (LT _ zu) fN<|lJ (cs:=(dY s I O R Z w5 w6 bc w7 w8)) C aAL Ya8 C Yg C zy<|JK C (e:=359) C C C zy λq2=>Wd ?_
 exact λa w hh=>db (P:=prog) (fn:=f208) (vs:=[_]) C C C ⟨C,zy⟩ (λD hD=>⟨q2,I,O,R,Z,w5,w6,bc,w7,w8,ν1,ν2,ν3,ν4,ν5,ν6,ν7,ν8,C,C,U,V,Y,hB,hE,hF,hL.cn.up wQ.up (hD _ Yf),hH,hI⟩) a w (hh.subB (List.Sublist.cons_cons _ (List.sublist_append_left _ _)))
theorem Jm(wb:Nat)(s:aO)(pv cv hv lv mv bl bc yc yq nv:Γ)(a:Int)(D:aC)(hn:Sl D RI 1 nv [a]):lA prog 267 [qP wb,nv] D [(wb,qC (dY s pv cv hv lv mv bl bc yc yq) 359)] (λ_ _ ν'=>a≤6∧ν'=[(wb,qC [pv,cv,qI a,qI s.row.off,qI s.table.last,hv,qI s.table.step,lv,mv,qI s.book.chairs,qI s.book.coin,qI s.book.box,bl,bc,yc,qI s.yard.fit,yq] 359)]) (λv=>6<a∧v=gK 2):=by
 refine eR 16 func267 C C C C λh0 hwl hwn=>aA<|Za C<|gH C hn C C λU V=>Zm [(_,_)] [] [] C (zt Yi) (λY I=>xX a 6 _) (λv5 R I hp5=>dC (P:=prog) (fn:=f267) C ⟨hp5.1,hp5.2⟩) λv5 R ν5 I hp5=>?_;obtain⟨O,rfl⟩:=hp5;refine aE<|aM<|Za C<|Za C<|gH C hn C C λb2 Z=>Zao C<|Zj C bC C<|Zj C eD C<|Zj C IH C<|dD (ws:=[pv,cv,qI a,qI s.row.off,qI s.table.last,hv,qI s.table.step,lv,mv,qI s.book.chairs,qI s.book.coin,qI s.book.box,bl,bc,yc,qI s.yard.fit,yq]) C C C C aI .head Yf C Ym zy<|Zap ?_;exact eO C λD' hD=>⟨O,C⟩
theorem aAY(wb:Nat)(s:aO)(pv cv hv lv mv bl bc yc yq nv:Γ)(a:Int)(D:aC)(hn:Sl D RI 1 nv [a]):lA prog 268 [qP wb,nv] D [(wb,qC (dY s pv cv hv lv mv bl bc yc yq) 359)] (λ_ _ ν'=>a≤9∧ν'=[(wb,qC [pv,cv,qI s.row.wrong,qI a,qI s.table.last,hv,qI s.table.step,lv,mv,qI s.book.chairs,qI s.book.coin,qI s.book.box,bl,bc,yc,qI s.yard.fit,yq] 359)]) (λv=>9<a∧v=gK 2):=by
 refine eR 16 func268 C C C C λh0 hwl hwn=>aA<|Za C<|gH C hn C C λU V=>Zm [(_,_)] [] [] C (zt Yi) (λY I=>xX a 9 _) (λv5 R I hp5=>dC (P:=prog) (fn:=f268) C ⟨hp5.1,hp5.2⟩) λv5 R ν5 I hp5=>?_;obtain⟨O,rfl⟩:=hp5;refine aE<|aM<|Za C<|Za C<|gH C hn C C λb2 Z=>Zao C<|Zj C bC C<|Zj C eD C<|Zj C BJ C<|dD (ws:=[pv,cv,qI s.row.wrong,qI a,qI s.table.last,hv,qI s.table.step,lv,mv,qI s.book.chairs,qI s.book.coin,qI s.book.box,bl,bc,yc,qI s.yard.fit,yq]) C C C C aI .head Yf C Ym zy<|Zap ?_;exact eO C λD' hD=>⟨O,C⟩
theorem Bt(wb:Nat)(s:aO)(pv cv hv lv mv bl bc yc yq nv:Γ)(a:Int)(D:aC)(hn:Sl D RI 1 nv [a]):lA prog 270 [qP wb,nv] D [(wb,qC (dY s pv cv hv lv mv bl bc yc yq) 359)] (λ_ _ ν'=>a≤99∧ν'=[(wb,qC [pv,cv,qI s.row.wrong,qI s.row.off,qI s.table.last,hv,qI a,lv,mv,qI s.book.chairs,qI s.book.coin,qI s.book.box,bl,bc,yc,qI s.yard.fit,yq] 359)]) (λv=>99<a∧v=gK 2):=by
 refine eR 16 func270 C C C C λh0 hwl hwn=>aA<|Za C<|gH C hn C C λU V=>Zm [(_,_)] [] [] C (zt Yi) (λY I=>xX a 99 _) (λv5 R I hp5=>dC (P:=prog) (fn:=f270) C ⟨hp5.1,hp5.2⟩) λv5 R ν5 I hp5=>?_;obtain⟨O,rfl⟩:=hp5;refine aE<|aM<|Za C<|Za C<|gH C hn C C λb2 Z=>Zao C<|Zj C bC C<|Zj C dK C<|Zj C O6 C<|dD (ws:=[pv,cv,qI s.row.wrong,qI s.row.off,qI s.table.last,hv,qI a,lv,mv,qI s.book.chairs,qI s.book.coin,qI s.book.box,bl,bc,yc,qI s.yard.fit,yq]) C C C C aI .head Yf C Ym zy<|Zap ?_;exact eO C λD' hD=>⟨O,C⟩
theorem Xdg(wb:Nat)(s:aO)(pv cv hv lv mv bl bc yc yq nv:Γ)(a:Int)(D:aC)(hn:Sl D RI 1 nv [a]):lA prog 281 [qP wb,nv] D [(wb,qC (dY s pv cv hv lv mv bl bc yc yq) 359)] (λ_ _ ν'=>a≤9∧ν'=[(wb,qC [pv,cv,qI s.row.wrong,qI s.row.off,qI s.table.last,hv,qI s.table.step,lv,mv,qI s.book.chairs,qI s.book.coin,qI s.book.box,bl,bc,yc,qI a,yq] 359)]) (λv=>9<a∧v=gK 2):=by
 refine eR 16 func281 C C C C λh0 hwl hwn=>aA<|Za C<|gH C hn C C λU V=>Zm [(_,_)] [] [] C (zt Yi) (λY I=>xX a 9 _) (λv5 R I hp5=>dC (P:=prog) (fn:=f281) C ⟨hp5.1,hp5.2⟩) λv5 R ν5 I hp5=>?_;obtain⟨O,rfl⟩:=hp5;refine aE<|aM<|Za C<|Za C<|gH C hn C C λb2 Z=>Zao C<|Zj C bC C<|Zj C fF C<|Zj C Q7 C<|dD (ws:=[pv,cv,qI s.row.wrong,qI s.row.off,qI s.table.last,hv,qI s.table.step,lv,mv,qI s.book.chairs,qI s.book.coin,qI s.book.box,bl,bc,yc,qI a,yq]) C C C C aI .head Yf C Ym zy<|Zap ?_;exact eO C λD' hD=>⟨O,C⟩
section
variable{P:Program}{X:Cx}{γb:Type}[Membership Nat γb]{H:γb}{G:Array Oper}{K:Act→Δ→Prop}{Q:Exit→Act→Δ→Prop}
variable{T:bZ}{L:aF}{W:List aC}{os:List (Bool×Nat)}{fl:Bool}{ix d:Nat}{x y:Operand}{v:Γ}{ty:Θ}{pos:String}{aft:Array Edge}{g:Option (Nat×Bool)}
variable{α:Type}{f:α→List Γ}{n:Nat}
theorem zK(A B:aF)(hf:sw f n)(z:α){ν:aF}{D₁:aC}{t e tr:Θ}{xs:List α}{sv z0:Γ}{U c9:Nat}{ats:Array Θ}
  (ho:G[ix]?= some ⟨some d,.call {callee:=.builtin .append,args:=#[x,y],argTypes:=ats},tr,pos,aft,g⟩) (ht:P.underlying t=some (.slice e)) (hat:ats[0]?= some t) (I:ats[1]?= some t)
  (hs:TS P e n) (hz:TZ P e z0) (R:Nat.beq z0.cells.size n=true) (hi:(P.info? e).map (λi=>Nat.ble 1 i.bytes&&Nat.ble i.bytes 4096)=some true) (O:Nat.ble 1 n=true)
  (hx:ev T x=some sv) (hy:ev T y=some (qS U 1 c9)) (ha:bM e n sv xs.length (xs.flatMap f) ν) (hA:At D₁ U 0 (f z)) (hlen:xs.length+1≤10000000) (hfl:fl=false∨∀p∈ν,p.1∈H) (hg:dF G T g)
  (kk:∀v' ν',bM e n v' (xs++[z]).length ((xs++[z]).flatMap f) ν'→WL P X H G K Q os ((d,v')::T) (A++ν'++B) W) (hD:D₁∈W:=by simp) (hN:Nat.blt d X.N=true:=by rfl):WL P X H G K Q ((fl,ix)::os) T (A++ν++B) W:=
 aT (A:=A) (B:=B) ho ht hat I hs hz R hi O hx hy ha (kX.lit hA) hD (by rw[hf.1,Nat.one_mul]) (dO hf.1 xs) (hf.2 z) hlen hfl hN hg λv' ν' h=>kk v' ν' (by rw[zf,xl,um];exact h)
theorem J6(hf:sw f n)(z:α){I:Nat×Obj}{ν:aF}{D₁:aC}{t e tr:Θ}{xs:List α}{sv z0:Γ}{V c9:Nat}{ats:Array Θ}
  (ho:G[ix]?= some ⟨some d,.call {callee:=.builtin .append,args:=#[x,y],argTypes:=ats},tr,pos,aft,g⟩) (ht:P.underlying t=some (.slice e)) (hat:ats[0]?= some t) (O:ats[1]?= some t)
  (hs:TS P e n) (hz:TZ P e z0) (U:Nat.beq z0.cells.size n=true) (hi:(P.info? e).map (λi=>Nat.ble 1 i.bytes&&Nat.ble i.bytes 4096)=some true) (R:Nat.ble 1 n=true)
  (hx:ev T x=some sv) (hy:ev T y=some (qS V 1 c9)) (ha:bM e n sv xs.length (xs.flatMap f) ν) (hA:At D₁ V 0 (f z)) (hlen:xs.length+1≤10000000) (hfl:fl=false∨∀p∈ν,p.1∈H) (hg:dF G T g)
  (kk:∀v' ν',bM e n v' (xs++[z]).length ((xs++[z]).flatMap f) ν'→WL P X H G K Q os ((d,v')::T) (I::ν') W) (hD:D₁∈W:=by simp) (hN:Nat.blt d X.N=true:=by rfl):WL P X H G K Q ((fl,ix)::os) T (I::ν) W:=
 bB ([I]++ν++[]) Yf (zK [I] [] hf z ho ht hat O hs hz U hi R hx hy ha hA hlen hfl hg (λv' ν' h=>bB (I::ν') Yf (kk v' ν' h)) hD hN)
end
theorem eX{D:aC}{bt ot n ct:Nat}{a:Int}{l:List Int}(h:Sl D RI 1 (.slice (some ⟨bt,ot,none⟩) n ct) (a::l)):At D bt ot [qI a]:=by
 obtain⟨x,cap,hv,h1,h2,h3⟩:=h;cases hv;rcases h3 with h3|⟨b,o,ha,h3⟩
 ·cases h3
 ·cases ha;obtain⟨cs,hr,hc,hA⟩:=h3 0 a C;obtain rfl:cs=[qI a]:=hr;simpa using hA
theorem fR{bt wb:Nat}{o:Obj}{ν:aF}(h1:bt∉aF.ks ((wb,o)::ν))(h2:(aF.ks ((wb,o)::ν)).Nodup):∀p∈ν,p.1∉[bt,wb]:=by
 intro p hp hm;have hk:p.1∈ν.ks:=n5.2 ⟨p,hp,C⟩;simp only[zm,n4,yk]at hm;rcases hm with e|e
 ·exact h1 (GT _ (e▸hk))
 ·exact(xg.1 h2).1 (e▸hk)
theorem Fr(wb:Nat)(s:aO)(pv cv hv lv mv bl bc yc yq nv:Γ)(ν:aF)(D:aC)(ha:bM 3 1 pv s.row.places.length (s.row.places.flatMap cI) ν)(hsm:s.row.places.length≤100):lA prog 262 [qP wb,nv] D ((wb,qC (dY s pv cv hv lv mv bl bc yc yq) 359)::ν) (λ_ _ ν'=>((s.row.places.length:Int)<7)∧∃O ν1,ν'=(wb,qC (dY s O cv hv lv mv bl bc yc yq) 359)::ν1∧bM 3 1 O (s.row.places++[2]).length ((s.row.places++[2]).flatMap cI) ν1) (λv=>7≤(s.row.places.length:Int)∧v=gK 3):=by
 refine eR 25 func262 C C C C λh0 hwl hwn=>aA<|Za C<|Zao C<|Zj C bC C<|Zj C eD C<|Zj C fQ C<|Zq C bW C zu C<|cG C U35 C ha C C zy<|Zm [(_,_)] ν [] C (Or.inr Yi) (λD5 R=>L5 (s.row.places.length:Int) 7 _) (λv5 D6 R hp5=>dC (P:=prog) (fn:=f262) C ⟨hp5.1,hp5.2⟩) λv5 D6 ν5 R hp5=>?_;obtain⟨U,rfl⟩:=hp5;refine aE<|aM<|Za C<|Za C<|Zao C<|Zj C bC C<|Zj C eD C<|Zj C fQ C<|Zq C bW C zu C<|Zu C U35 aI cN C (.cons C C .nil) λZ D901 V I=>?_;have Y:=Sl.ofInts (l:=[_]) (n:=1) (cap:=1) I C Yd Yd;refine J6 rp 2 C U35 C C aI cN C jV C C C ha I Yd Yq zy λO ν1 ha1=>Zao C<|Zj C bC C<|Zj C eD C<|Zj C fQ C<|Zt (dY s O cv hv lv mv bl bc yc yq) C ha1.cells1 eZ .head C ha1.cell1<|Zap ?_;exact eO C λD' hD=>⟨U,O,ν1,C,ha1⟩
theorem Hb(wb:Nat)(s:aO)(pv cv hv lv mv bl bc yc yq nv:Γ)(a:Int)(ν:aF)(D:aC)(hn:Sl D RI 1 nv [a])(ha:bM 3 1 lv s.table.levels.length (s.table.levels.flatMap cI) ν)(hsm:s.table.levels.length≤100):lA prog 271 [qP wb,nv] D ((wb,qC (dY s pv cv hv lv mv bl bc yc yq) 359)::ν) (λ_ _ ν'=>(a≤99∧(s.table.levels.length:Int)<6)∧∃R ν1,ν'=(wb,qC (dY s pv cv hv R mv bl bc yc yq) 359)::ν1∧bM 3 1 R (s.table.levels++[a]).length ((s.table.levels++[a]).flatMap cI) ν1) (λv=>(99<a∧v=gK 2)∨(a≤99∧6≤(s.table.levels.length:Int)∧v=gK 3)):=by
 obtain⟨bt,ot,ct,rfl⟩:=dM hn Yf;have hbt:=eX hn;refine eR 32 func271 C C C C λh0 hwl hwn=>aA<|Za C<|aX C hn<|Zm [(_,_)] ν [] C (Or.inr Yi) (λD5 U=>xX a 99 _) (λv5 D6 U hp5=>dC (P:=prog) (fn:=f271) C (zq ⟨hp5.1,hp5.2⟩)) λv5 D6 ν5 U hp5=>?_;obtain⟨V,rfl⟩:=hp5;refine aJ<|Za C<|Zao C<|Zj C bC C<|Zj C dK C<|Zj C mX C<|Zq C bW C zu C<|cG C U35 C ha C C zy<|Zm [(_,_)] ν [] C (Or.inr Yi) (λD7 Y=>L5 (s.table.levels.length:Int) 6 _) (λv7 D8 Y O=>dC (P:=prog) (fn:=f271) C (zt ⟨V,O.1,O.2⟩)) λv7 D8 ν7 Y O=>?_;obtain⟨Z,rfl⟩:=O;refine aE<|fK hbt Yf λhap=>rM λhnd=>?_;have hnu:=fR hap hnd;have hwbo:wb∉dI.mk [bt,wb]:=dI.out Yf;have hbto:bt∉dI.mk [bt,wb]:=dI.out Yf;refine aZ (dI.mk [bt,wb]) 4 17 4094<|Za C<|Za C<|Zao C<|Zj C bC C<|Zj C dK C<|Zj C mX C<|bG C bW C zu C Yo C zy<|Za C<|aX C hn<|Zu C U35 aI cN C (.cons C C .nil) λhF D901 hB I=>?_;have hE:=Sl.ofInts (l:=[_]) (n:=1) (cap:=1) I C Yd Yd;refine J6 rp a C U35 C C aI cN C jV C C C ha I Yd Yq zy λR ν1 ha1=>Zao C<|Zj C bC C<|Zj C dK C<|Zj C mX C<|Zt (dY s pv cv hv R mv bl bc yc yq) C ha1.cells1 eZ .head C ha1.cell1<|Zap ?_;exact eO C λD' hD=>⟨⟨V,Z⟩,R,ν1,C,ha1⟩
theorem Ia(wb:Nat)(s:aO)(pv cv hv lv mv bl bc yc yq nv:Γ)(a b:Int)(ν:aF)(D:aC)(hn:Sl D RI 1 nv [a,b])(ha:bM 129 2 yq s.yard.claims.length (s.yard.claims.flatMap cP) ν)(hsm:s.yard.claims.length≤100):lA prog 282 [qP wb,nv] D ((wb,qC (dY s pv cv hv lv mv bl bc yc yq) 359)::ν) (λ_ _ ν'=>((a≤b∧b≤7)∧(s.yard.claims.length:Int)<5)∧∃R ν1,ν'=(wb,qC (dY s pv cv hv lv mv bl bc yc R) 359)::ν1∧bM 129 2 R (s.yard.claims++[(a,b)]).length ((s.yard.claims++[(a,b)]).flatMap cP) ν1) (λv=>((b<a∨7<b)∧v=gK 2)∨((a≤b∧b≤7)∧5≤(s.yard.claims.length:Int)∧v=gK 3)):=by
 obtain⟨bt,ot,ct,rfl⟩:=dM hn Yf;have hbt:=eX hn;refine eR 39 func282 C C C C λh0 hwl hwn=>Za6<|aZ [] 3 7 56<|Za C<|aX C hn<|Za C<|aX C hn<|Zm [(_,_)] ν [] C (Or.inr Yi) (λD5 U=>PW a b 7 _) (λv5 D6 U hp5=>dC (P:=prog) (fn:=f282) C (zq ⟨hp5.1,hp5.2⟩)) λv5 D6 ν5 U hp5=>?_;obtain⟨V,rfl⟩:=hp5;refine aJ<|Za C<|Zao C<|Zj C bC C<|Zj C fF C<|Zj C nV C<|Zq C P3 C zu C<|cG C U85 C ha C C zy<|Zm [(_,_)] ν [] C (Or.inr Yi) (λD7 Y=>L5 (s.yard.claims.length:Int) 5 _) (λv7 D8 Y I=>dC (P:=prog) (fn:=f282) C (zt ⟨V,I.1,I.2⟩)) λv7 D8 ν7 Y I=>?_;obtain⟨Z,rfl⟩:=I;refine aE<|fK hbt Yf λhap=>rM λhnd=>?_;have hnu:=fR hap hnd;have hwbo:wb∉dI.mk [bt,wb]:=dI.out Yf;have hbto:bt∉dI.mk [bt,wb]:=dI.out Yf;refine aZ (dI.mk [bt,wb]) 4 21 65534<|aw ?_;refine Zw [qI a,qI b] C n6 kT C<|Zu C U85 cU kT C (.cons C C .nil) λhE D901 hB O=>J6 nk (a,b) C U85 C C cU kT C Tu C C C ha O Yd Yq zy λR ν1 ha1=>Zao C<|Zj C bC C<|Zj C fF C<|Zj C nV C<|Zt (dY s pv cv hv lv mv bl bc yc R) C ha1.cells1 QY .head C ha1.cell1<|Zap ?_;exact eO C λD' hD=>⟨⟨V,Z⟩,R,ν1,C,ha1⟩
theorem EZ(wb:Nat)(s:aO)(pv cv hv lv mv bl bc yc yq nv:Γ)(a b:Int)(ν:aF)(D:aC)(hn:Sl D RI 1 nv [a,b])(ha:bM 298 3 bl s.book.lines.length (s.book.lines.flatMap cL) ν)(hsm:s.book.lines.length≤100)(kd:Int):lA prog 326 [qP wb,nv,qI kd] D ((wb,qC (dY s pv cv hv lv mv bl bc yc yq) 359)::ν) (λ_ _ ν'=>(max a b<s.book.chairs∧(s.book.lines.length:Int)<8)∧∃R ν1,ν'=(wb,qC (dY s pv cv hv lv mv R bc yc yq) 359)::ν1∧bM 298 3 R (s.book.lines++[(⟨kd,a,b⟩:C3.bQ)]).length ((s.book.lines++[(⟨kd,a,b⟩:C3.bQ)]).flatMap cL) ν1) (λv=>(s.book.chairs≤max a b∧v=gK 7)∨(max a b<s.book.chairs∧8≤(s.book.lines.length:Int)∧v=gK 3)):=by
 obtain⟨bt,ot,ct,rfl⟩:=dM hn Yf;have hbt:=eX hn;refine eR 49 func326 C C C C λh0 hwl hwn=>Za6<|aZ [] 6 14 8120<|Za C<|aX C hn<|Za C<|aX C hn<|mL C C C C zy<|Za C<|Zao C<|Zj C bC C<|Zj C gJ C ?_;refine Zj C wX C<|Zq C aH C zu C<|Zm [(_,_)] ν [] C (Or.inr Yi) (λD5 U=>mS (max a b) s.book.chairs _) (λv5 D6 U hp5=>dC (P:=prog) (fn:=f326) C (zq ⟨hp5.1,hp5.2⟩)) λv5 D6 ν5 U hp5=>?_;obtain⟨V,rfl⟩:=hp5;refine aJ<|Za C<|Zao C<|Zj C bC C<|Zj C gJ C<|Zj C dX C<|Zq C iK C zu C<|cG C U80 C ha C C zy<|Zm [(_,_)] ν [] C (Or.inr Yi) (λD7 Y=>L5 (s.book.lines.length:Int) 8 _) (λv7 D8 Y I=>dC (P:=prog) (fn:=f326) C (zt ⟨V,I.1,I.2⟩)) λv7 D8 ν7 Y I=>?_;obtain⟨Z,rfl⟩:=I;refine aE<|fK hbt Yf λhap=>rM λhnd=>?_;have hnu:=fR hap hnd;have hwbo:wb∉dI.mk [bt,wb]:=dI.out Yf;have hbto:bt∉dI.mk [bt,wb]:=dI.out Yf;refine aZ (dI.mk [bt,wb]) 4 22 131070<|Za C<|Za C<|Zao C<|Zj C bC C<|Zj C gJ C<|Zj C dX C<|bG C iK C zu C Yo C zy<|Za C<|Za C<|aX C hn<|Za C ?_;refine aX C hn<|Zw [qI kd,qI a,qI b] C Ur lI C<|Zu C U80 cT lI C (.cons C C .nil) λhE D901 hB O=>J6 nl (⟨kd,a,b⟩:C3.bQ) C U80 C C cT lI C AG C C C ha O Yd Yq zy λR ν1 ha1=>Zao C<|Zj C bC C<|Zj C gJ C<|Zj C dX C<|Zt (dY s pv cv hv lv mv R bc yc yq) C ha1.cells1 fC .head C ha1.cell1<|Zap ?_;exact eO C λD' hD=>⟨⟨V,Z⟩,R,ν1,C,ha1⟩
theorem EL(wb:Nat)(s:aO)(pv cv hv lv mv bl bc yc yq nv:Γ)(a b:Int)(ν:aF)(D:aC)(hn:Sl D RI 1 nv [a,b])(ha:bM 277 3 cv s.row.counts.length (s.row.counts.flatMap cC) ν)(hsm:s.row.counts.length≤100)(bk:Bool)(hpl:∃x c,pv=.slice x s.row.places.length c):lA prog 322 [qP wb,nv,.bool bk] D ((wb,qC (dY s pv cv hv lv mv bl bc yc yq) 359)::ν) (λ_ _ ν'=>((a≤(s.row.places.length:Int)∧b≤9)∧(s.row.counts.length:Int)<6)∧∃V ν1,ν'=(wb,qC (dY s pv V hv lv mv bl bc yc yq) 359)::ν1∧bM 277 3 V (s.row.counts++[(⟨bk,a,b⟩:C1.zM)]).length ((s.row.counts++[(⟨bk,a,b⟩:C1.zM)]).flatMap cC) ν1) (λv=>(((s.row.places.length:Int)<a∨9<b)∧v=gK 2)∨((a≤(s.row.places.length:Int)∧b≤9)∧6≤(s.row.counts.length:Int)∧v=gK 3)):=by
 obtain⟨bt,ot,ct,rfl⟩:=dM hn Yf;have hbt:=eX hn;refine eR 52 func322 C C C C λh0 hwl hwn=>Za6<|aZ [] 9 17 31736<|Za C<|aX C hn<|Za C<|Zao C<|Zj C bC C<|Zj C eD C<|Zj C fQ C<|Zq C bW C zu C ?_;obtain⟨aq,cq,hq⟩:=hpl;refine Rv C U35 C hq C C zy<|Zat C<|Za C<|aX C hn<|Zat C<|Zu C U397 nM rJ C (.cons C C (.cons C C .nil)) λhH D901 hB O=>Zm [(_,_)] ν [] C (zt Yi) (λD5 R=>gN 2 [decide ((s.row.places.length:Int)<a),decide (9<b)] _ _ ((iT (l:=[decide ((s.row.places.length:Int)<a),decide (9<b)]) (λ_ _ _ h=>h) O Yf).up RB.up (R _ Yf))) (λv5 D6 R hp5=>dC (P:=prog) (fn:=f322) C (zq ⟨kq,hp5.2⟩)) λv5 D6 ν5 R hp5=>?_;obtain⟨hf50,rfl⟩:=hp5;have Y:a≤(s.row.places.length:Int)∧b≤9:=ny
 refine aJ<|Za C<|Zao C<|Zj C bC C<|Zj C eD C<|Zj C oD C<|Zq C T0 C zu C<|cG C U73 C ha C C zy<|Zm [(_,_)] ν [] C (Or.inr Yi) (λD7 Z=>L5 (s.row.counts.length:Int) 6 _) (λv7 D8 Z I=>dC (P:=prog) (fn:=f322) C (zt ⟨Y,I.1,I.2⟩)) λv7 D8 ν7 Z I=>?_;obtain⟨hE,rfl⟩:=I;refine aE<|fK hbt Yf λhap=>rM λhnd=>?_;have hnu:=fR hap hnd;have hwbo:wb∉dI.mk [bt,wb]:=dI.out Yf;have hbto:bt∉dI.mk [bt,wb]:=dI.out Yf;refine aZ (dI.mk [bt,wb]) 4 22 131070<|Za C<|Za C<|Zao C<|Zj C bC C<|Zj C eD C<|Zj C oD C<|bG C T0 C zu C Yo C zy<|Za C<|Za C<|aX C hn<|Za C ?_;refine aX C hn<|Zw [.bool bk,qI a,qI b] C aBD K4 C<|Zu C U73 lM K4 C (.cons C C .nil) λhI hJ hF U=>J6 gg (⟨bk,a,b⟩:C1.zM) C U73 C C lM K4 C Vu C C C ha U Yd Yq zy λV ν1 ha1=>Zao C<|Zj C bC C<|Zj C eD C<|Zj C oD C<|Zt (dY s pv V hv lv mv bl bc yc yq) C ha1.cells1 VK .head C ha1.cell1<|Zap ?_;exact eO C λD' hD=>⟨⟨Y,hE⟩,V,ν1,C,ha1⟩
theorem Ag(wb:Nat)(s:aO)(pv cv hv lv mv bl bc yc yq nv:Γ)(a b c d:Int)(ν:aF)(D:aC)(hn:Sl D RI 1 nv [a,b,c,d])(ha:bM 376 4 mv s.table.marks.length (s.table.marks.flatMap cM) ν)(hsm:s.table.marks.length≤100)(hht:∃x c,hv=.slice x s.table.heights.length c):lA prog 273 [qP wb,nv] D ((wb,qC (dY s pv cv hv lv mv bl bc yc yq) 359)::ν) (λ_ _ ν'=>(max a b<(s.table.heights.length:Int)∧a≤b∧(c≤d∧d≤99)∧(s.table.marks.length:Int)<5)∧∃v1 ν1,ν'=(wb,qC (dY s pv cv hv lv v1 bl bc yc yq) 359)::ν1∧bM 376 4 v1 (s.table.marks++[(⟨a,b,c,d⟩:C2.Mk)]).length ((s.table.marks++[(⟨a,b,c,d⟩:C2.Mk)]).flatMap cM) ν1) (λv=>((s.table.heights.length:Int)≤max a b∧v=gK 7)∨(max a b<(s.table.heights.length:Int)∧b<a∧v=gK 2)∨(max a b<(s.table.heights.length:Int)∧a≤b∧(d<c∨99<d)∧v=gK 2)∨(max a b<(s.table.heights.length:Int)∧a≤b∧(c≤d∧d≤99)∧5≤(s.table.marks.length:Int)∧v=gK 3)):=by
 obtain⟨bt,ot,ct,rfl⟩:=dM hn Yf;have hbt:=eX hn;refine eR 70 func273 C C C C λh0 hwl hwn=>Za6<|aZ [] 7 15 16312<|Za C<|aX C hn<|Za C<|aX C hn<|mL C C C C zy<|Za C<|Zao C<|Zj C bC C<|Zj C dK C ?_;refine Zj C mQ C<|Zq C yT C zu C ?_;obtain⟨aq,cq,hq⟩:=hht;refine Rv C U76 C hq C C zy<|Zm [(_,_)] ν [] C (Or.inr Yi) (λD5 hF=>mS (max a b) (s.table.heights.length:Int) _) (λv5 D6 hF hp5=>dC (P:=prog) (fn:=f273) C (zq ⟨hp5.1,hp5.2⟩)) λv5 D6 ν5 hF hp5=>?_;obtain⟨O,rfl⟩:=hp5;refine bX<|aZ [] 5 9 56<|Za C<|aX C hn<|Za C<|aX C hn<|Zat C<|Zu C U397 nM rJ C (.cons C C .nil) (λhS D901 hN Y=>Zm [(_,_)] ν [] C (zt Yi) (λD7 Z=>gN 2 [decide (b<a)] _ _ ((iT (l:=[decide (b<a)]) (λ_ _ _ h=>h) Y Yf).up RB.up (Z _ Yf))) (λv7 D8 Z R=>dC (P:=prog) (fn:=f273) C (zt (zq ⟨O,by simpa using R.1,R.2⟩))) λv7 D8 ν7 Z R=>?_);obtain⟨hH,rfl⟩:=R;have hB:a≤b:=by simpa using hH
 refine bX<|aZ [] 3 7 56<|Za C<|aX C hn<|Za C<|aX C hn<|Zm [(_,_)] ν [] C (Or.inr Yi) (λD9 hI=>PW c d 99 _) (λv9 D10 hI U=>dC (P:=prog) (fn:=f273) C (zt (zt (zq ⟨O,hB,U.1,U.2⟩)))) λv9 D10 ν9 hI U=>?_;obtain⟨hJ,rfl⟩:=U;refine aJ<|Za C<|Zao C<|Zj C bC C<|Zj C dK C<|Zj C nZ C<|Zq C P8 C zu C<|cG C U77 C ha C C zy<|Zm [(_,_)] ν [] C (Or.inr Yi) (λrA V=>L5 (s.table.marks.length:Int) 5 _) (λhO hP V I=>dC (P:=prog) (fn:=f273) C (zt (zt (zt ⟨O,hB,hJ,I.1,I.2⟩)))) λhO hP rB V I=>?_;obtain⟨hK,rfl⟩:=I;refine aE<|fK hbt Yf λhap=>rM λhnd=>?_;have hnu:=fR hap hnd;have hwbo:wb∉dI.mk [bt,wb]:=dI.out Yf;have hbto:bt∉dI.mk [bt,wb]:=dI.out Yf;refine aZ (dI.mk [bt,wb]) 4 28 8388606<|au ?_;refine Za C<|aX C hn<|Za C<|aX C hn<|Zw [qI c,qI d] C G9 iO C<|Zw [qI a,qI b,qI c,qI d] C aDY K7 C<|Zu C U77 mO K7 C (.cons C C .nil) λhX hY hR hE=>J6 bz (⟨a,b,c,d⟩:C2.Mk) C U77 C C mO K7 C Vl C C C ha hE Yd Yq zy λv1 ν1 ha1=>Zao C<|Zj C bC C<|Zj C dK C<|Zj C nZ C ?_;refine Zt (dY s pv cv hv lv v1 bl bc yc yq) C ha1.cells1 TQ .head C ha1.cell1<|Zap ?_;exact eO C λD' hD=>⟨⟨O,hB,hJ,hK⟩,v1,ν1,C,ha1⟩
theorem Du{α:Type}{f:α→List Γ}{n i:Nat}(h:∀x,(f x).length=n){xs:List α}(hi:i<xs.length){x:α}{junk:List Γ}:(xs.flatMap f++junk).take (0+i*n)++f x++(xs.flatMap f++junk).drop (0+i*n+(f x).length)=(xs.set i x).flatMap f++junk:=by
 rw[wo];induction xs generalizing i with
 |nil=>simp at hi
 |cons d xs ih=>
  cases i with
  |zero=>
   have e:(d::xs).flatMap f++junk=f d++(xs.flatMap f++junk):=Yf
   have I:((d::xs).set 0 x).flatMap f++junk=f x++(xs.flatMap f++junk):=Yf
   rw[ug,List.take_zero,ya,wo,e,I,h,←h d,List.drop_left]
  |succ i=>
   have hi':i<xs.length:=wy
   have e:(d::xs).flatMap f++junk=f d++(xs.flatMap f++junk):=Yf
   have I:((d::xs).set (i+1) x).flatMap f++junk=f d++((xs.set i x).flatMap f++junk):=Yf
   rw[e,I,show(i+1)*n=(f d).length+i*n by rw[h,xb];omega,List.take_length_add_append,show(f d).length+i*n+(f x).length=(f d).length+(i*n+(f x).length) by omega,lh,yy,yy];congr 1;rw[←yy];exact ih hi'
section
variable{α:Type}{f:α→List Γ}{n:Nat}
theorem tK{xs ys:List α}{e b cap:Nat}{junk:List Γ}(hf:sw f n)(he:ys.length=xs.length)(hcap:xs.length≤cap)(hl1:(xs.flatMap f).length=xs.length*n)(I:(xs.flatMap f++junk).length=cap*n):bM e n (qS b xs.length cap) ys.length (ys.flatMap f) [(b,qC (ys.flatMap f++junk) e)]:=
 zt ⟨b,cap,junk,by rw[he],Yd,C,dO hf.1 ys,by rw[zf,dO hf.1 ys,he,←I,zf,hl1]⟩
variable{P:Program}{X:Cx}{γb:Type}[Membership Nat γb]{H:γb}{G:Array Oper}{K:Act→Δ→Prop}{Q:Exit→Act→Δ→Prop}
variable{T:bZ}{L μ':aF}{W:List aC}{os:List (Bool×Nat)}{ix:Nat}{x y:Operand}{v:Γ}{ty t e:Θ}{pos:String}{aft:Array Edge}{g:Option (Nat×Bool)}{xs:List α}{i b:Nat}{junk:List Γ}
theorem DL(hf:sw f n)(z:α)(ho:G[ix]?= some ⟨none,.store t x y,ty,pos,aft,g⟩)(hx:ev T x=some (.pointer (some ⟨b,0+i*n,none⟩)))(hy:ev T y=some v)(hv:v.cells=(f z).toArray)(hs:TS P t n)
  (hm:bO L b (qC (xs.flatMap f++junk) e) (qC ((xs.set i z).flatMap f++junk) e) μ') (hi:i<xs.length) (hg:dF G T g) (kk:WL P X H G K Q os T μ' W):WL P X H G K Q ((false,ix)::os) T L W:=
 dD (us:=f z) (ws:=(xs.set i z).flatMap f++junk) ho hx hy hv (by rw[hf.1];exact hs) hm (by rw[hf.1,zf,dO hf.1];have:=so n (show i+1≤xs.length from hi);rw[xb,Nat.one_mul]at this;omega) (Du hf.1 hi) (hf.2 z) hg kk
end
theorem Ci(wb:Nat)(s:aO)(pv cv hv lv mv bl bc yc yq nv:Γ)(a b:Int)(ν:aF)(D:aC)(hn:Sl D RI 1 nv [a,b])(ha:bM 3 1 pv s.row.places.length (s.row.places.flatMap cI) ν)(hsm:s.row.places.length≤100)(Z:0≤a):lA prog 263 [qP wb,nv] D ((wb,qC (dY s pv cv hv lv mv bl bc yc yq) 359)::ν) (λ_ _ ν'=>(a<(s.row.places.length:Int)∧b≤2)∧∃ν1,ν'=(wb,qC (dY s pv cv hv lv mv bl bc yc yq) 359)::ν1∧bM 3 1 pv (s.row.places.set a.toNat b).length ((s.row.places.set a.toNat b).flatMap cI) ν1) (λv=>((s.row.places.length:Int)≤a∧v=gK 7)∨(a<(s.row.places.length:Int)∧2<b∧v=gK 2)):=by
 obtain⟨bt,ot,ct,rfl⟩:=dM hn Yf;have hbt:=eX hn;refine eR 32 func263 C C C C λh0 hwl hwn=>Za6<|aZ [] 7 11 1016<|Za C<|aX C hn<|Za C<|Zao C<|Zj C bC C<|Zj C eD C<|Zj C fQ C<|Zq C bW C zu C<|cG C U35 C ha C C zy ?_;refine Zm [(_,_)] ν [] C (Or.inr Yi) (λD5 O=>mS a (s.row.places.length:Int) _) (λv5 D6 O hp5=>dC (P:=prog) (fn:=f263) C (zq ⟨hp5.1,hp5.2⟩)) λv5 D6 ν5 O hp5=>?_;obtain⟨R,rfl⟩:=hp5;refine aJ<|Za C<|aX C hn<|Zm [(_,_)] ν [] C (Or.inr Yi) (λD7 U=>xX b 2 _) (λv7 D8 U I=>dC (P:=prog) (fn:=f263) C (zt ⟨R,I.1,I.2⟩)) λv7 D8 ν7 U I=>?_;obtain⟨V,rfl⟩:=I;refine aE ?_;obtain⟨bx,cap,junk,rfl,hcap,rfl,hl1,Y⟩:=ha.some Yd;refine aZ [] 5 14 4032<|Za C<|Zao C<|Zj C bC C<|Zj C eD C<|Zj C fQ C<|an ?_;refine fy ?_;exact eO C λD' hD=>⟨⟨R,V⟩,_,C,tK rp sj hcap hl1 Y⟩
theorem Fg(wb:Nat)(s:aO)(pv cv hv lv mv bl bc yc yq nv:Γ)(a b:Int)(ν:aF)(D:aC)(hn:Sl D RI 1 nv [a,b])(ha:bM 3 1 lv s.table.levels.length (s.table.levels.flatMap cI) ν)(hsm:s.table.levels.length≤100)(Z:0≤a):lA prog 272 [qP wb,nv] D ((wb,qC (dY s pv cv hv lv mv bl bc yc yq) 359)::ν) (λ_ _ ν'=>(a<(s.table.levels.length:Int)∧b≤99)∧∃ν1,ν'=(wb,qC (dY s pv cv hv lv mv bl bc yc yq) 359)::ν1∧bM 3 1 lv (s.table.levels.set a.toNat b).length ((s.table.levels.set a.toNat b).flatMap cI) ν1) (λv=>((s.table.levels.length:Int)≤a∧v=gK 7)∨(a<(s.table.levels.length:Int)∧99<b∧v=gK 2)):=by
 obtain⟨bt,ot,ct,rfl⟩:=dM hn Yf;have hbt:=eX hn;refine eR 32 func272 C C C C λh0 hwl hwn=>Za6<|aZ [] 7 11 1016<|Za C<|aX C hn<|Za C<|Zao C<|Zj C bC C<|Zj C dK C<|Zj C mX C<|Zq C bW C zu C<|cG C U35 C ha C C zy ?_;refine Zm [(_,_)] ν [] C (Or.inr Yi) (λD5 O=>mS a (s.table.levels.length:Int) _) (λv5 D6 O hp5=>dC (P:=prog) (fn:=f272) C (zq ⟨hp5.1,hp5.2⟩)) λv5 D6 ν5 O hp5=>?_;obtain⟨R,rfl⟩:=hp5;refine aJ<|Za C<|aX C hn<|Zm [(_,_)] ν [] C (Or.inr Yi) (λD7 U=>xX b 99 _) (λv7 D8 U I=>dC (P:=prog) (fn:=f272) C (zt ⟨R,I.1,I.2⟩)) λv7 D8 ν7 U I=>?_;obtain⟨V,rfl⟩:=I;refine aE ?_;obtain⟨bx,cap,junk,rfl,hcap,rfl,hl1,Y⟩:=ha.some Yd;refine aZ [] 5 14 4032<|Za C<|Zao C<|Zj C bC C<|Zj C dK C<|Zj C mX C<|an ?_;refine fy ?_;exact eO C λD' hD=>⟨⟨R,V⟩,_,C,tK rp sj hcap hl1 Y⟩
theorem Ad(wb:Nat)(s:aO)(pv cv hv lv mv bl bc yc yq nv:Γ)(a b c:Int)(ν:aF)(D:aC)(hn:Sl D RI 1 nv [a,b,c])(ha:bM 122 2 hv s.table.heights.length (s.table.heights.flatMap cP) ν)(hsm:s.table.heights.length≤100)(hH:0≤a)(hI:0≤b∧b≤1000):lA prog 269 [qP wb,nv] D ((wb,qC (dY s pv cv hv lv mv bl bc yc yq) 359)::ν) (λ_ _ ν'=>(a<(s.table.heights.length:Int)∧b≤c∧c≤99∧c≤b+2)∧∃ν1,ν'=(wb,qC (dY s pv cv hv lv mv bl bc yc yq) 359)::ν1∧bM 122 2 hv (s.table.heights.set a.toNat (b,c)).length ((s.table.heights.set a.toNat (b,c)).flatMap cP) ν1) (λv=>((s.table.heights.length:Int)≤a∧v=gK 7)∨(a<(s.table.heights.length:Int)∧(c<b∨99<c∨b+2<c)∧v=gK 2)):=by
 obtain⟨bt,ot,ct,rfl⟩:=dM hn Yf;have hbt:=eX hn;refine eR 53 func269 C C C C λh0 hwl hwn=>Za6<|aZ [] 7 11 1016<|Za C<|aX C hn<|Za C<|Zao C<|Zj C bC C<|Zj C dK C<|Zj C mQ C<|Zq C yT C zu C<|cG C U76 C ha C C zy ?_;refine Zm [(_,_)] ν [] C (Or.inr Yi) (λD5 U=>mS a (s.table.heights.length:Int) _) (λv5 D6 U hp5=>dC (P:=prog) (fn:=f269) C (zq ⟨hp5.1,hp5.2⟩)) λv5 D6 ν5 U hp5=>?_;obtain⟨V,rfl⟩:=hp5;refine bX<|aZ [] 6 21 524216<|Za C<|aX C hn<|Za C<|aX C hn<|Zat C<|Za C<|aX C hn<|Zat C<|Za C<|aX C hn ?_;refine Za C<|aX C hn<|Zaf C<|Zat C<|Zu C U397 nM rJ C (.cons C C (.cons C C (.cons C C .nil))) (λhF D901 Z O=>Zm [(_,_)] ν [] C (zt Yi) (λD7 R=>gN 2 [decide (c<b),decide (99<c),decide (b+2<c)] _ _ ((iT (l:=[decide (c<b),decide (99<c),decide (b+2<c)]) (λ_ _ _ h=>h) O Yf).up RB.up (R _ Yf))) (λv7 D8 R I=>dC (P:=prog) (fn:=f269) C (zt ⟨V,by simpa using I.1,I.2⟩)) λv7 D8 ν7 R I=>?_);obtain⟨Y,rfl⟩:=I;have hB:b≤c∧c≤99∧c≤b+2:=by simpa using Y
 refine aE ?_;obtain⟨bx,cap,junk,rfl,hcap,rfl,hl1,hE⟩:=ha.some Yd;refine aZ [] 5 18 65472<|Za C<|Zao C<|Zj C bC C<|Zj C dK C<|Zj C mQ C<|Zq C yT C zu C<|Za C<|aX C hn<|Za C<|aX C hn<|Za C ?_;refine aX C hn<|Zw [qI b,qI c] C G9 iO C<|eV C U76 cR C C Yd Yd C zy<|DL nk (b,c) C C C C cR (.tail .head) Yd zy<|Zap ?_;exact eO C λD' hD=>⟨⟨V,hB⟩,_,C,tK nk sj hcap hl1 hE⟩
theorem N9{wb t e sz n:Nat}{cs cells:List Γ}{v:Γ}{ν:aF}(ha:bM e sz v n cells ν):∀p∈(wb,Obj.cells cs.toArray t (0,0))::ν,dH p.2:=by
 intro p hp;rcases zm.1 hp with rfl|hp
 ·rfl
 ·rcases ha with⟨_,_,_,_,rfl⟩|⟨b,cap,junk,_,_,rfl,_⟩
  ·cases hp
  ·simp only[yf]at hp;subst hp;rfl
theorem Fa(wb:Nat)(s:aO)(pv cv hv lv mv bl bc yc yq nv:Γ)(a b:Int)(ν:aF)(D:aC)(hn:Sl D RI 1 nv [a,b])(ha:bM 277 3 cv s.row.counts.length (s.row.counts.flatMap cC) ν)(hsm:s.row.counts.length≤100)(hpl:∃x c,pv=.slice x s.row.places.length c):lA prog 264 [qP wb,nv] D ((wb,qC (dY s pv cv hv lv mv bl bc yc yq) 359)::ν) (λ_ _ ν'=>((a≤(s.row.places.length:Int)∧b≤9)∧(s.row.counts.length:Int)<6)∧∃O ν1,ν'=(wb,qC (dY s pv O hv lv mv bl bc yc yq) 359)::ν1∧bM 277 3 O (s.row.counts++[(⟨false,a,b⟩:C1.zM)]).length ((s.row.counts++[(⟨false,a,b⟩:C1.zM)]).flatMap cC) ν1) (λv=>(((s.row.places.length:Int)<a∨9<b)∧v=gK 2)∨((a≤(s.row.places.length:Int)∧b≤9)∧6≤(s.row.counts.length:Int)∧v=gK 3)):=by
 refine eR 7 func264 C C C C λh0 hwl hwn=>aM<|Za C<|Za C<|Zad ((wb,qC (dY s pv cv hv lv mv bl bc yc yq) 359)::ν++[]) (yr _).symm<|Zn [] [] ((wb,qC (dY s pv cv hv lv mv bl bc yc yq) 359)::ν) C (N9 ha) (λU I=>EL wb s pv cv hv lv mv bl bc yc yq nv a b ν _ (hn.up RI.up (I _ Yf)) ha hsm false hpl) (λv5 R I hp5=>dC (P:=prog) (fn:=f264) C hp5) λv5 R ν5 I hp5=>Zad ν5 (yr _)<|Zap ?_;exact eO C λD' hD=>hp5
theorem Bu(wb:Nat)(s:aO)(pv cv hv lv mv bl bc yc yq nv:Γ)(a b:Int)(ν:aF)(D:aC)(hn:Sl D RI 1 nv [a,b])(ha:bM 277 3 cv s.row.counts.length (s.row.counts.flatMap cC) ν)(hsm:s.row.counts.length≤100)(hpl:∃x c,pv=.slice x s.row.places.length c):lA prog 265 [qP wb,nv] D ((wb,qC (dY s pv cv hv lv mv bl bc yc yq) 359)::ν) (λ_ _ ν'=>((a≤(s.row.places.length:Int)∧b≤9)∧(s.row.counts.length:Int)<6)∧∃O ν1,ν'=(wb,qC (dY s pv O hv lv mv bl bc yc yq) 359)::ν1∧bM 277 3 O (s.row.counts++[(⟨true,a,b⟩:C1.zM)]).length ((s.row.counts++[(⟨true,a,b⟩:C1.zM)]).flatMap cC) ν1) (λv=>(((s.row.places.length:Int)<a∨9<b)∧v=gK 2)∨((a≤(s.row.places.length:Int)∧b≤9)∧6≤(s.row.counts.length:Int)∧v=gK 3)):=by
 refine eR 7 func265 C C C C λh0 hwl hwn=>aM<|Za C<|Za C<|Zad ((wb,qC (dY s pv cv hv lv mv bl bc yc yq) 359)::ν++[]) (yr _).symm<|Zn [] [] ((wb,qC (dY s pv cv hv lv mv bl bc yc yq) 359)::ν) C (N9 ha) (λU I=>EL wb s pv cv hv lv mv bl bc yc yq nv a b ν _ (hn.up RI.up (I _ Yf)) ha hsm true hpl) (λv5 R I hp5=>dC (P:=prog) (fn:=f265) C hp5) λv5 R ν5 I hp5=>Zad ν5 (yr _)<|Zap ?_;exact eO C λD' hD=>hp5
theorem Cs(wb:Nat)(s:aO)(pv cv hv lv mv bl bc yc yq nv:Γ)(a b:Int)(ν:aF)(D:aC)(hn:Sl D RI 1 nv [a,b])(ha:bM 298 3 bl s.book.lines.length (s.book.lines.flatMap cL) ν)(hsm:s.book.lines.length≤100):lA prog 275 [qP wb,nv] D ((wb,qC (dY s pv cv hv lv mv bl bc yc yq) 359)::ν) (λ_ _ ν'=>(max a b<s.book.chairs∧(s.book.lines.length:Int)<8)∧∃O ν1,ν'=(wb,qC (dY s pv cv hv lv mv O bc yc yq) 359)::ν1∧bM 298 3 O (s.book.lines++[(⟨1,a,b⟩:C3.bQ)]).length ((s.book.lines++[(⟨1,a,b⟩:C3.bQ)]).flatMap cL) ν1) (λv=>(s.book.chairs≤max a b∧v=gK 7)∨(max a b<s.book.chairs∧8≤(s.book.lines.length:Int)∧v=gK 3)):=by
 refine eR 7 func275 C C C C λh0 hwl hwn=>aM<|Za C<|Za C<|Zad ((wb,qC (dY s pv cv hv lv mv bl bc yc yq) 359)::ν++[]) (yr _).symm<|Zn [] [] ((wb,qC (dY s pv cv hv lv mv bl bc yc yq) 359)::ν) C (N9 ha) (λU I=>EZ wb s pv cv hv lv mv bl bc yc yq nv a b ν _ (hn.up RI.up (I _ Yf)) ha hsm 1) (λv5 R I hp5=>dC (P:=prog) (fn:=f275) C hp5) λv5 R ν5 I hp5=>Zad ν5 (yr _)<|Zap ?_;exact eO C λD' hD=>hp5
theorem Fp(wb:Nat)(s:aO)(pv cv hv lv mv bl bc yc yq nv:Γ)(a b:Int)(ν:aF)(D:aC)(hn:Sl D RI 1 nv [a,b])(ha:bM 298 3 bl s.book.lines.length (s.book.lines.flatMap cL) ν)(hsm:s.book.lines.length≤100):lA prog 276 [qP wb,nv] D ((wb,qC (dY s pv cv hv lv mv bl bc yc yq) 359)::ν) (λ_ _ ν'=>(max a b<s.book.chairs∧(s.book.lines.length:Int)<8)∧∃O ν1,ν'=(wb,qC (dY s pv cv hv lv mv O bc yc yq) 359)::ν1∧bM 298 3 O (s.book.lines++[(⟨2,a,b⟩:C3.bQ)]).length ((s.book.lines++[(⟨2,a,b⟩:C3.bQ)]).flatMap cL) ν1) (λv=>(s.book.chairs≤max a b∧v=gK 7)∨(max a b<s.book.chairs∧8≤(s.book.lines.length:Int)∧v=gK 3)):=by
 refine eR 7 func276 C C C C λh0 hwl hwn=>aM<|Za C<|Za C<|Zad ((wb,qC (dY s pv cv hv lv mv bl bc yc yq) 359)::ν++[]) (yr _).symm<|Zn [] [] ((wb,qC (dY s pv cv hv lv mv bl bc yc yq) 359)::ν) C (N9 ha) (λU I=>EZ wb s pv cv hv lv mv bl bc yc yq nv a b ν _ (hn.up RI.up (I _ Yf)) ha hsm 2) (λv5 R I hp5=>dC (P:=prog) (fn:=f276) C hp5) λv5 R ν5 I hp5=>Zad ν5 (yr _)<|Zap ?_;exact eO C λD' hD=>hp5
theorem OW{α:Type}{f:α→List Γ}{n i k:Nat}(h:∀x,(f x).length=n){xs:List α}{x:α}{v:Γ}{junk:List Γ}(hx:xs[i]?= some x)(hk:k<n)(hv:(f x)[k]?= some v):(xs.flatMap f++junk)[0+i*n+k]?= some v:=by
 have h1:=OG h hx junk;have h2:(((xs.flatMap f++junk).drop (i*n)).take n)[k]?= some v:=by rw[h1];exact hv
 rw[sa hk,vb]at h2;rw[wo];exact h2
theorem Cz{α:Type}{f:α→List Γ}{n i k off:Nat}(h:∀x,(f x).length=n){xs:List α}{x x2:α}{v:Γ}{junk:List Γ}(hx:xs[i]?= some x)(hk:k<n)(h2:f x2=(f x).take k++[v]++(f x).drop (k+1))(ho:off=i*n+k):(xs.flatMap f++junk).take off++[v]++(xs.flatMap f++junk).drop (off+ [v].length)=(xs.set i x2).flatMap f++junk:=by
 subst ho;induction xs generalizing i with
 |nil=>simp at hx
 |cons d xs ih=>
  have e:(d::xs).flatMap f++junk=f d++(xs.flatMap f++junk):=Yf
  cases i with
  |zero=>
   obtain rfl:d=x:=mr
   have I:((d::xs).set 0 x2).flatMap f++junk=f x2++(xs.flatMap f++junk):=Yf
   rw[ug,wo,e,I,h2,vg (by rw[h];omega),ve,List.drop_append_of_le_length (by rw[h];omega)];simp
  |succ i=>
   have I:((d::xs).set (i+1) x2).flatMap f++junk=f d++((xs.set i x2).flatMap f++junk):=Yf
   rw[e,I,show(i+1)*n+k=(f d).length+(i*n+k) by rw[h,xb];omega,List.take_length_add_append,show(f d).length+(i*n+k)+ [v].length=(f d).length+(i*n+k+ [v].length) by omega,lh,yy,yy];congr 1;rw[←yy];exact ih mr
section
variable{P:Program}{X:Cx}{γb:Type}[Membership Nat γb]{H:γb}{G:Array Oper}{K:Act→Δ→Prop}{Q:Exit→Act→Δ→Prop}
variable{T:bZ}{L μ':aF}{W:List aC}{os:List (Bool×Nat)}{ix:Nat}{x y:Operand}{v:Γ}{ty t e:Θ}{pos:String}{aft:Array Edge}{g:Option (Nat×Bool)}{α:Type}{f:α→List Γ}{n:Nat}{xs:List α}{z x2:α}{i b k off:Nat}{junk:List Γ}
theorem QP(hf:sw f n)(ho:G[ix]?= some ⟨none,.store t x y,ty,pos,aft,g⟩)(hx:ev T x=some (.pointer (some ⟨b,off,none⟩)))(hy:ev T y=some v)(hv:v.cells=#[v])(hs:TS P t 1)
  (hm:bO L b (qC (xs.flatMap f++junk) e) (qC ((xs.set i x2).flatMap f++junk) e) μ') (hz:xs[i]?= some z) (hk:k<n) (h2:f x2=(f z).take k++[v]++(f z).drop (k+1)) (hoff:off=i*n+k) (hg:dF G T g) (kk:WL P X H G K Q os T μ' W):WL P X H G K Q ((false,ix)::os) T L W:=
 dD (us:=[v]) (ws:=(xs.set i x2).flatMap f++junk) ho hx hy hv hs hm (by rw[zf,dO hf.1,hoff,ve];have:=so n (yx.1 hz).1;rw[Nat.succ_mul]at this;omega) (Cz hf.1 hz hk h2 hoff) (λu hu=>hf.2 x2 u (by rw[h2,yf.1 hu];simp)) hg kk
end
def JY(p:C7.Pt)(i:Nat)(v:Int):C7.Pt:=if i=0 then {p with a:=v}else if i=1 then {p with b:=v}else {p with c:=v}
theorem Qb{x:C7.Ch}{i:Nat}{v:Int}(h:i<3):cH {x with parts:=JY x.parts i v}=(cH x).take (1+i)++[qI v]++(cH x).drop (1+i+1):=by
 have:i=0∨i=1∨i=2:=Yd
 rcases this with rfl|rfl|rfl<;>rfl
theorem Lt(wb:Nat)(s:aO)(pv cv hv lv mv bl bc yc yq nv:Γ)(a:Int)(ν:aF)(D:aC)(hn:Sl D RI 1 nv [a])(ha:bM 298 3 bl s.book.lines.length (s.book.lines.flatMap cL) ν)(hsm:s.book.lines.length≤100)(hF:0≤a):lA prog 277 [qP wb,nv] D ((wb,qC (dY s pv cv hv lv mv bl bc yc yq) 359)::ν) (λ_ _ ν'=>∃x,s.book.lines[a.toNat]?= some x∧(x.token≠ -1)∧∃ν1,ν'=(wb,qC (dY s pv cv hv lv mv bl bc yc yq) 359)::ν1∧bM 298 3 bl (s.book.lines.set a.toNat {x with token:= -1}).length ((s.book.lines.set a.toNat {x with token:= -1}).flatMap cL) ν1) (λv=>((s.book.lines.length:Int)≤a∧v=gK 7)∨(∃x,s.book.lines[a.toNat]?= some x∧x.token= -1∧v=gK 6)):=by
 obtain⟨bt,ot,ct,rfl⟩:=dM hn Yf;have hbt:=eX hn;refine eR 36 func277 C C C C λh0 hwl hwn=>Za6<|aZ [] 7 11 1016<|Za C<|b9 ?_;refine Zm [(_,_)] ν [] C (Or.inr Yi) (λD5 U=>mS a (s.book.lines.length:Int) _) (λv5 D6 U hp5=>dC (P:=prog) (fn:=f277) C (zq ⟨hp5.1,hp5.2⟩)) λv5 D6 ν5 U hp5=>?_;obtain⟨hH,rfl⟩:=hp5;refine bX ?_;obtain⟨bx,cap,junk,rfl,hcap,rfl,hl1,Y⟩:=ha.some Yd;obtain⟨x,hx⟩:=cF s.book.lines (a.toNat);refine aZ [] 6 11 448<|Za C<|Zao C<|Zj C bC C<|Zj C gJ C<|Zj C dX C<|Zq C iK C zu C<|Za C<|aX C hn<|eV C U80 cT C C Yd Yd C zy<|Zf C<|aJ ?_;refine Za C<|Zao C<|Zj C pA C<|bG (v:=qI x.token) C aH C zi aa n4 C zy<|Zas C<|Zu C U397 nM rJ C (.cons C C .nil) (λhE D901 Z O=>Zm [(_,_),(_,_)] [] [] C (zt Yi) (λD7 R=>gN 6 [decide (x.token= -1)] _ _ ((iT (l:=[decide (x.token= -1)]) (λ_ _ _ h=>h) O Yf).up RB.up (R _ Yf))) (λv7 D8 R I=>dC (P:=prog) (fn:=f277) C (zt ⟨x,hx,by simpa using I.1,I.2⟩)) λv7 D8 ν7 R I=>?_);obtain⟨V,rfl⟩:=I;have hB:x.token≠ -1:=by simpa using V
 refine aE<|aM<|Za C<|Zao C<|Zj C pA C<|am ?_;exact eO C λD' hD=>⟨x,hx,hB,_,C,tK nl sj hcap hl1 Y⟩
theorem Bw(wb:Nat)(s:aO)(pv cv hv lv mv bl bc yc yq nv:Γ)(a b c:Int)(ν:aF)(D:aC)(hn:Sl D RI 1 nv [a,b,c])(ha:bM 314 4 yc s.yard.chairs.length (s.yard.chairs.flatMap cH) ν)(hsm:s.yard.chairs.length≤100)(hF:0≤a)(hH:0≤b):lA prog 280 [qP wb,nv] D ((wb,qC (dY s pv cv hv lv mv bl bc yc yq) 359)::ν) (λ_ _ ν'=>∃x,s.yard.chairs[a.toNat]?= some x∧(b<3∧c≤2)∧∃ν1,ν'=(wb,qC (dY s pv cv hv lv mv bl bc yc yq) 359)::ν1∧bM 314 4 yc (s.yard.chairs.set a.toNat {x with parts:=JY x.parts b.toNat c}).length ((s.yard.chairs.set a.toNat {x with parts:=JY x.parts b.toNat c}).flatMap cH) ν1) (λv=>((s.yard.chairs.length:Int)≤a∧v=gK 7)∨(a<(s.yard.chairs.length:Int)∧3≤b∧v=gK 7)∨(a<(s.yard.chairs.length:Int)∧b<3∧2<c∧v=gK 2)):=by
 obtain⟨bt,ot,ct,rfl⟩:=dM hn Yf;have hbt:=eX hn;refine eR 41 func280 C C C C λh0 hwl hwn=>Za6<|aZ [] 7 11 1016<|Za C<|aX C hn<|Za C<|Zao C<|Zj C bC C<|Zj C fF C<|Zj C iS C<|Zq C qG C zu C<|cG C U84 C ha C C zy ?_;refine Zm [(_,_)] ν [] C (Or.inr Yi) (λD5 R=>mS a (s.yard.chairs.length:Int) _) (λv5 D6 R hp5=>dC (P:=prog) (fn:=f280) C (zq ⟨hp5.1,hp5.2⟩)) λv5 D6 ν5 R hp5=>?_;obtain⟨U,rfl⟩:=hp5;refine aJ<|Za C<|aX C hn<|Zm [(_,_)] ν [] C (Or.inr Yi) (λD7 V=>mS b 3 _) (λv7 D8 V I=>dC (P:=prog) (fn:=f280) C (zt (zq ⟨U,I.1,I.2⟩))) λv7 D8 ν7 V I=>?_;obtain⟨Y,rfl⟩:=I;refine aJ<|Za C<|aX C hn<|Zm [(_,_)] ν [] C (Or.inr Yi) (λD9 Z=>xX c 2 _) (λv9 D10 Z O=>dC (P:=prog) (fn:=f280) C (zt (zt ⟨U,Y,O.1,O.2⟩))) λv9 D10 ν9 Z O=>?_;obtain⟨hB,rfl⟩:=O;refine aE ?_;obtain⟨bx,cap,junk,rfl,hcap,rfl,hl1,hE⟩:=ha.some Yd;obtain⟨x,hx⟩:=cF s.yard.chairs (a.toNat);refine aZ [] 5 19 131008<|Za C<|Zao C<|Zj C bC C<|Zj C fF C<|Zj C iS C<|Zq C qG C zu C<|Za C<|aX C hn<|Za C<|aX C hn<|Za C ?_;refine aX C hn<|eV C U84 nK C C Yd Yd C zy<|Zj C V7 C<|fH C U312 aI C C Yd Yd C zy<|QP lj (x2:={x with parts:=JY x.parts b.toNat c}) (k:=(1+b.toNat)) C C C C aI (.tail .head) hx Yd (Qb Yd) Yd zy<|Zap ?_;exact eO C λD' hD=>⟨x,hx,⟨Y,hB⟩,_,C,tK lj sj hcap hl1 hE⟩
def fV(xs:List Λ):Int:=if(decide ((40:Int)<(xs.length:Int))|| !xs.all λl=>decide ((l.size:Int)≤50))=true then 3 else 0
theorem aCV(m:Int)(l:Λ)(D:aC):Fn prog 136 #[qI m,.string l] D (λ_ v=>v=.bool (decide ((l.size:Int)≤m))):=by
 refine Zx 9 func136 C λh0=>aA<|Zf C<|aJ<|Za C<|kS C U9 C C C zy<|Za C<|iB C C C C zy<|Wd ?_;exact aD C λD hD=>C
theorem MH(sv fv:Γ)(xs:List Λ)(p:Λ→Bool)(D:aC)(hS:Sl D RS 1 sv xs)(hp:dJ prog D Value.string fv p):
  Fn prog 259 #[sv,fv] D (λ_ v=>v=qI (idxOf p xs)):=by
 have hl:=hS.len;obtain⟨f,c1,c2,rfl,hf⟩:=hp;refine Zx 19 func259 C λh0=>aA<|Zf C<|bD<|Za C<|eQ C U22 C Yn C C zy<|We ?_;rintro k ⟨h1,h2⟩;refine aA<|Zal C<|bX<|Zae C (λhc1=>?_) λhc1=>?_
 ·have hk:k<xs.length:=Yd
  obtain⟨x,hx⟩:=cF xs k;refine aP<|Za6<|Za4<|aA<|Za C<|Zf C<|aJ<|Za C<|Za C<|Za C<|eF C U22 lT C Yn C Yd Yn C zy λY Z I O V R=>?_;obtain rfl:I=[.string _]:=O;refine Zh 0 C yL C R C<|Zd C (λD1 U=>hf x _ (U _ Yf))<|aE<|Zai C (λhc2=>?_) λhc2=>?_
  ·refine uc ?_;exact aD C λD hD=>je
  ·refine xi ?_;have hpx:p x=false:=hc2;have h3:(xs.take (k+1)).any p=false:=by rw[zg,hx,ui,h2];simp[hpx]
   exact aK 12 (k+1) ⟨Yd,h3⟩ Yd ⟨Ya,zy⟩ C C zp (aN)
 ·refine Wk ?_;exact aD C λD hD=>jd
theorem DR(sv fv:Γ)(xs:List Λ)(p:Λ→Bool)(D:aC)(hS:Sl D RS 1 sv xs)(hp:dJ prog D Value.string fv p):
  Fn prog 199 #[sv,fv] D (λ_ v=>v=.bool (xs.any p)):=by
 refine Zx 9 func199 C λh0=>aA<|Zf C<|aJ<|Za C<|Za C<|Zd C (λO I=>MH _ _ xs p _ (Sl.at RS.up I Yn Yf) (hp.up (I _ Yf)))<|Ww ?_;exact aD C λD hD=>jc
theorem aHQ(b:Nat)(fv:Γ)(p:Λ→Bool)(x:Λ)(D:aC)(hp:dJ prog D Value.string fv p)(hB:At D b 0 [fv]):
  Fn prog 200 #[.string x,qP b] D (λ_ v=>v=.bool (!p x)):=by
 obtain⟨f,c1,c2,rfl,hf⟩:=hp;refine Zx 8 func200 C λh0=>aA<|Zf C<|aJ<|Zh 0 C aEI C hB C<|Za C<|Zd C (λO I=>hf x _ (I _ Yf))<|Zav C<|Wd ?_;exact aD C λD hD=>C
theorem aCJ(sv fv:Γ)(xs:List Λ)(p:Λ→Bool)(D:aC)(hS:Sl D RS 1 sv xs)(hp:dJ prog D Value.string fv p)(h1:fv.cells=#[fv]):
  Fn prog 137 #[sv,fv] D (λ_ v=>v=.bool (xs.all p)):=by
 refine Zx 9 func137 C λh0=>aA<|uH (vs:=[fv]) C C h1 C zy λb O I hB=>Zf C<|aJ<|Za C<|Za1 C<|Zd C (λO I=>DR _ _ xs (λx=> !p x) _ (Sl.at RS.up I Yn Yf) ⟨_,[],[qP b],C,λx R hl=>aHQ b fv p x R (hp.up ((I _ Yf).trans hl)) (hB.up ((I _ Yf).trans hl))⟩)<|Zav C<|Wd ?_;exact aD C λD hD=>j_
theorem zW(sv:Γ)(xs:List Λ)(D:aC)(hS:Sl D RS 1 sv xs):Fn prog 67 #[sv] D (λ_ v=>v=qI (fV xs)):=by
 have hl:=hS.len;refine Zx 14 func67 C λh0=>aA<|Zf C<|aJ<|Za1 C<|Zf C<|bD<|Za C<|eQ C U22 C Yn C C zy<|uv ?_;refine' dU 5 (s:=8) (p:=13) C (λI=>?_) (λI=>?_) ?_;rotate_left
 ·refine Zb C<|Zb C<|Ze C (λU O=>aCJ _ _ xs (λl=>decide ((l.size:Int)≤50)) _ (Sl.at RS.up O Yn Yf) ⟨_,[_],[],C,λl R _=>aCV 50 l R⟩ C)<|vp ?_;exact aQ 4
 ·refine Wf ?_;exact aQ 4
 refine aE<|Zai C (λhc1=>?_) λhc1=>?_
 ·refine aA<|Wi ?_;exact aD C λD hD=>by show Value.int _ _=_;rw[fV,zo hc1]
 ·refine aP<|aA<|Wd ?_;exact aD C λD hD=>by show Value.int _ _=_;rw[fV,zv (by rw[hc1];simp)]
end L12
variable{P:Program}{X:Cx}{γb:Type}[Membership Nat γb]{H:γb}{G:Array Oper}{K:Act→Δ→Prop}{Q:Exit→Act→Δ→Prop}
variable{T:bZ}{L:aF}{W:List aC}{os:List (Bool×Nat)}{fl:Bool}{ix:Nat}
variable{d:Nat}{x y z:Operand}{u v:Γ}{ty:Θ}{pos:String}{aft:Array Edge}{g:Option (Nat×Bool)}
theorem wZ{A B:aF}{t e tr:Θ}{b o i m cap c2 sz:Nat}{vs xs:List Γ}{ats:Array Θ}
  (ho:G[ix]?= some ⟨some d,.call {callee:=.builtin .append,args:=#[x,y],argTypes:=ats},tr,pos,aft,g⟩) (ht:P.underlying t=some (.slice e)) (hat:ats[0]?= some t) (I:ats[1]?= some t) (hs:TS P e sz)
  (hx:ev T x=some (qS b i cap)) (hy:ev T y=some (.slice (some ⟨b,o,none⟩) m c2)) (hxs:(vs.drop o).take (m*sz)=xs) (hxl:xs.length=m*sz) (hfit:i+m≤cap) (hin:i*sz+m*sz≤vs.length) (hx1:∀u∈xs,cell1 u=true)
  (hfl:fl=false∨b∈H) (hN:Nat.blt d X.N=true) (hg:dF G T g)
  (kk:WL P X H G K Q os ((d,qS b (i+m) cap)::T) (A++(b,.cells (vs.take (i*sz)++xs++vs.drop (i*sz+m*sz)).toArray e (0,0))::B) W):
  WL P X H G K Q ((fl,ix)::os) T (A++(b,.cells vs.toArray e (0,0))::B) W:=by
 refine fW ho C C hg λa w hh=>?_
 obtain⟨h1,h2,h3,D,h4,h5,O⟩:=id hh;have hbx:=(h4.box (b,.cells vs.toArray e (0,0)) Yf).1;have hex:(execOp a.eval ⟨some d,.call {callee:=.builtin .append,args:=#[x,y],argTypes:=ats},tr,pos,aft,g⟩).run P w=
   ((Builtin.append_ ats tr #[qS b i cap,.slice (some ⟨b,o,none⟩) m c2]).run P w).andThen λr w'=>.ok (.value r) w':=by
  simp only[execOp,resolve,pure_bind,invoke,builtin];have R:(#[x,y].map a.eval)=#[qS b i cap,.slice (some ⟨b,o,none⟩) m c2]:=kz
  rw[R,Ω];simp only[ε]
 rw[hex];have hm:(Builtin.lenOf (.slice (some ⟨b,o,none⟩) m c2)).run P w=.ok m w:=rfl;have hfc:(Builtin.firstCells sz m (.slice (some ⟨b,o,none⟩) m c2)).run P w=.ok xs.toArray w:=by
  simp only[Builtin.firstCells];refine pL hxl λj u hj=>tO (cs:=vs.toArray) hbx ?_
  have hjl:=(yx.1 hj).1;rw[←hxs,sa Yd,vb]at hj;simpa using hj
 obtain⟨w',hr,hw'⟩:=lX (P:=P) xs 0 w b (i*sz) vs e hbx Yd hx1;rw[N0 (tr:=tr) (w':=w') ht hat I hs hm hfc hfit (by
  show(storeCells ((⟨b,0,none⟩:Addr).add (i*sz)) xs).run P w=_;rw[iL,wo];exact hr)]
 rw[tl,hxl]at hw';have hHas:bO (A++(b,.cells vs.toArray e (0,0))::B) b (.cells vs.toArray e (0,0)) (.cells (vs.take (i*sz)++xs++vs.drop (i*sz+m*sz)).toArray e (0,0)) (A++(b,.cells (vs.take (i*sz)++xs++vs.drop (i*sz+m*sz)).toArray e (0,0))::B):=.app .head;have hst:=h4.set hHas hw' C;refine⟨λhf=>⟨ky,λc hc hcb=>?_⟩,kk _ _ (Hl.put ⟨h1,h2,h3,D,hst,h5,O.step (λ_ p hp=>zq Yw) (λ_=>mK hw' (n5.2 ⟨_,hHas.mem,C⟩)) hst.dom⟩ hN _)⟩
 have hb:b∈H:=by
  rcases hfl with h|h
  ·rw[hf]at h;cases h
  ·exact h
 rw[hw'.1,qp (by rintro rfl;exact hcb hb)]
theorem u6{A B:aF}{t e tr:Θ}{b o n c:Nat}{z0:Γ}{vs zs:List Γ}{dd:Option Nat}{ats:Array Θ}
  (ho:G[ix]?= some ⟨dd,.call {callee:=.builtin .clear,args:=#[x],argTypes:=ats},tr,pos,aft,g⟩) (hdd:dd=none) (ht:P.underlying t=some (.slice e)) (hat:ats[0]?= some t) (hz:TZ P e z0) (hx:ev T x=some (.slice (some ⟨b,o,none⟩) n c)) (hn:n≠0)
  (hzs:Builtin.zeroCells z0.cells n=zs.toArray) (hin:o+zs.length≤vs.length) (I:∀u∈zs,cell1 u=true) (hg:dF G T g)
  (kk:WL P X H G K Q os T (A++(b,.cells (vs.take o++zs++vs.drop (o+zs.length)).toArray e (0,0))::B) W):
  WL P X H G K Q ((false,ix)::os) T (A++(b,.cells vs.toArray e (0,0))::B) W:=by
 subst hdd;refine fW ho C C hg λa w hh=>?_
 obtain⟨h1,h2,h3,D,h4,h5,R⟩:=id hh;have hbx:=(h4.box (b,.cells vs.toArray e (0,0)) Yf).1;obtain⟨w',hr,hw'⟩:=lX (P:=P) zs 0 w b o vs e hbx Yd I;rw[tl]at hw';have hcl:(Builtin.clear_ ats tr #[.slice (some ⟨b,o,none⟩) n c]).run P w=.ok (.tuple #[]) w':=by
  have O:(#[Value.slice (some ⟨b,o,none⟩) n c]:Array Γ)[0]?= some (.slice (some ⟨b,o,none⟩) n c):=rfl;unfold Builtin.clear_;obtain⟨k,rfl⟩:∃k,n=k+1:=⟨n-1,Yd⟩
  simp only[hat,O,Ω,TU.of ht w,Ξ,hz w,hzs,ε];rw[hr];rfl
 have hex:∃r,(execOp a.eval ⟨none,.call {callee:=.builtin .clear,args:=#[x],argTypes:=ats},tr,pos,aft,g⟩).run P w=.ok (.value r) w':=by
  refine⟨.tuple #[],?_⟩;simp only[execOp,resolve,pure_bind,invoke,builtin];have O:(#[x].map a.eval)=#[.slice (some ⟨b,o,none⟩) n c]:=by simp[hh.eval hx]
  rw[O,Ω,hcl];rfl
 obtain⟨r,hex⟩:=hex;rw[hex];have hHas:bO (A++(b,.cells vs.toArray e (0,0))::B) b (.cells vs.toArray e (0,0)) (.cells (vs.take o++zs++vs.drop (o+zs.length)).toArray e (0,0)) (A++(b,.cells (vs.take o++zs++vs.drop (o+zs.length)).toArray e (0,0))::B):=.app .head;have hst:=h4.set hHas hw' C;exact⟨λh=>vu,kk _ _ ⟨h1,h2,h3,D,hst,h5,R.step (λ_ p hp=>zq Yw) (λ_=>mK hw' (n5.2 ⟨_,hHas.mem,C⟩)) hst.dom⟩⟩
variable{z2:Operand}
theorem EI{t e:Θ}{b i n cap sz:Nat}{k:IntKind}(ho:G[ix]?= some ⟨some d,.slice t x none (some z) none,ty,pos,aft,g⟩)(ht:P.underlying t=some (.slice e))(hs:TS P e sz)(hx:ev T x=some (qS b n cap))(hz:ev T z=some (.int k (i:Int)))(hi:i≤cap)
  (hN:Nat.blt d X.N=true) (hg:dF G T g) (kk:WL P X H G K Q os ((d,qS b i cap)::T) L W):WL P X H G K Q ((fl,ix)::os) T L W:=by
 have ha:(if cap=0 then some (⟨b,0,none⟩:Addr)else(some (⟨b,0,none⟩:Addr)).map (·.add (0*sz)))=some ⟨b,0,none⟩:=by
  split
  ·rfl
  ·simp[Addr.add]
 refine cB ho C C hN hg (λρ hρ w'=>?_) kk;simp only[execOp,vy,xo,hρ x _ hx,hρ z _ hz];unfold Instr.sliceAt Instr.slice Instr.sliceBounds Instr.sliceBound asIntOf;have hle:(0:Int)≤(i:Int)∧(i:Int)≤(cap:Nat):=Yd
 simp only[Ω,TU.of ht w',Ξ,ε,pure_bind,hs w',hle,vl,yo,xr,uw,ha]
theorem EJ{t e:Θ}{b j n cap sz:Nat}{k:IntKind}(ho:G[ix]?= some ⟨some d,.slice t x (some y) none none,ty,pos,aft,g⟩)(ht:P.underlying t=some (.slice e))(hs:TS P e sz)(hx:ev T x=some (qS b n cap))(hy:ev T y=some (.int k (j:Int)))(hj:j≤n)
  (hN:Nat.blt d X.N=true) (hg:dF G T g) (kk:∀o,(j<cap→o=j*sz)→WL P X H G K Q os ((d,.slice (some ⟨b,o,none⟩) (n-j) (cap-j))::T) L W):WL P X H G K Q ((fl,ix)::os) T L W:=by
 have ha:(if cap=j then some (⟨b,0,none⟩:Addr)else(some (⟨b,0,none⟩:Addr)).map (·.add (j*sz)))=some ⟨b,if cap=j then 0 else j*sz,none⟩:=by
  split
  ·rfl
  ·simp[iL]
 refine cB ho C C hN hg (λρ hρ w'=>?_) (kk (if cap=j then 0 else j*sz) λh=>by rw[zv Yd]);simp only[execOp,vy,xo,hρ x _ hx,hρ y _ hy];unfold Instr.sliceAt Instr.slice Instr.sliceBounds Instr.sliceBound asIntOf;have hle:(0:Int)≤(j:Int)∧(j:Int)≤(n:Nat):=Yd
 simp only[Ω,TU.of ht w',Ξ,ε,pure_bind,hs w',hle,vl,yo,xr,ha]
theorem gz{t e:Θ}{b l h n cap sz:Nat}{k k':IntKind}(ho:G[ix]?= some ⟨some d,.slice t x (some y) (some z) none,ty,pos,aft,g⟩)(ht:P.underlying t=some (.slice e))(hs:TS P e sz)(hx:ev T x=some (qS b n cap))(hy:ev T y=some (.int k (l:Int)))(hz:ev T z=some (.int k' (h:Int)))(h1:l≤h)(h2:h≤cap)(h3:l<cap)
  (hN:Nat.blt d X.N=true) (hg:dF G T g) (kk:WL P X H G K Q os ((d,.slice (some ⟨b,l*sz,none⟩) (h-l) (cap-l))::T) L W):WL P X H G K Q ((fl,ix)::os) T L W:=by
 have ha:(if cap=l then some (⟨b,0,none⟩:Addr)else(some (⟨b,0,none⟩:Addr)).map (·.add (l*sz)))=some ⟨b,l*sz,none⟩:=by
  rw[zv Yd];simp[iL]
 refine cB ho C C hN hg (λρ hρ w'=>?_) kk;simp only[execOp,vy,xo,hρ x _ hx,hρ y _ hy,hρ z _ hz];unfold Instr.sliceAt Instr.slice Instr.sliceBounds Instr.sliceBound asIntOf;have I:(0:Int)≤(l:Int)∧(l:Int)≤(h:Nat):=Yd
 have a2:(0:Int)≤(h:Int)∧(h:Int)≤(cap:Nat):=Yd
 simp only[Ω,TU.of ht w',Ξ,ε,pure_bind,hs w',I,a2,vl,yo,xr,ha]
theorem i_{t e:Θ}{b l h m n cap sz:Nat}{k k' k2:IntKind}(ho:G[ix]?= some ⟨some d,.slice t x (some y) (some z) (some z2),ty,pos,aft,g⟩)(ht:P.underlying t=some (.slice e))(hs:TS P e sz)(hx:ev T x=some (qS b n cap))(hy:ev T y=some (.int k (l:Int)))(hz:ev T z=some (.int k' (h:Int)))(I:ev T z2=some (.int k2 (m:Int)))(h1:l≤h)(h2:h≤m)(h3:m≤cap)
  (hN:Nat.blt d X.N=true) (hg:dF G T g) (kk:∀v,WL P X H G K Q os ((d,v)::T) L W):WL P X H G K Q ((fl,ix)::os) T L W:=by
 refine cB (v:=.slice (if m=l then some ⟨b,0,none⟩else(some (⟨b,0,none⟩:Addr)).map (·.add (l*sz))) (h-l) (m-l)) ho C C hN hg (λρ hρ w'=>?_) (kk _);simp only[execOp,xo,hρ x _ hx,hρ y _ hy,hρ z _ hz,hρ z2 _ I];unfold Instr.sliceAt Instr.slice Instr.sliceBounds Instr.sliceBound asIntOf;have O:(0:Int)≤(l:Int)∧(l:Int)≤(h:Nat):=Yd
 have a2:(0:Int)≤(h:Int)∧(h:Int)≤(m:Nat):=Yd
 have a3:(0:Int)≤(m:Int)∧(m:Int)≤(cap:Nat):=Yd
 simp only[Ω,TU.of ht w',Ξ,ε,pure_bind,hs w',O,a2,a3,vl,yo,xr];rfl
theorem XO{t e:Θ}{D₁:aC}{b o n cap j:Nat}{k:IntKind}{xs:List Int}(ho:G[ix]?= some ⟨some d,.slice t x (some y) none none,ty,pos,aft,g⟩)(ht:P.underlying t=some (.slice e))(hs:TS P e 1)(hx:ev T x=some (.slice (some ⟨b,o,none⟩) n cap))(hS:Sl D₁ RI 1 (.slice (some ⟨b,o,none⟩) n cap) xs)(hy:ev T y=some (.int k (j:Int)))(hj:j<n)
  (hN:Nat.blt d X.N=true) (hg:dF G T g) (kk:Sl D₁ RI 1 (.slice (some ⟨b,o+j,none⟩) (n-j) (cap-j)) (xs.drop j)→WL P X H G K Q os ((d,.slice (some ⟨b,o+j,none⟩) (n-j) (cap-j))::T) L W):WL P X H G K Q ((fl,ix)::os) T L W:=by
 obtain⟨a,c,hv,h1,h2,h3⟩:=hS;cases hv;rcases h3 with h3|⟨b',o',ha,h3⟩
 ·subst h3;simp at hj
 cases ha;have ha:(if cap=j then some (⟨b,o,none⟩:Addr)else(some (⟨b,o,none⟩:Addr)).map (·.add (j*1)))=some ⟨b,o+j,none⟩:=by
  rw[zv Yd];simp[iL]
 refine cB ho C C hN hg (λρ hρ w'=>?_) (kk ⟨_,_,by rw[vq],by rw[vq];omega,by rw[vq];omega,zt ⟨b,o+j,C,λi z hi=>?_⟩⟩)
 ·simp only[execOp,vy,xo,hρ x _ hx,hρ y _ hy];unfold Instr.sliceAt Instr.slice Instr.sliceBounds Instr.sliceBound asIntOf;have hle:(0:Int)≤(j:Int)∧(j:Int)≤(xs.length:Nat):=Yd
  simp only[Ω,TU.of ht w',Ξ,ε,pure_bind,hs w',hle,vl,yo,xr,ha]
 ·rw[vb]at hi;obtain⟨cs,hr,hc,hA⟩:=h3 _ _ hi;exact⟨cs,hr,hc,by rw[show o+j+i*1=o+(j+i)*1 by omega];exact hA⟩
theorem aFI{t e:Θ}{n len cap:Nat}{ad:Option Addr}(ho:G[ix]?= some ⟨some d,.sliceToArrayPointer t x,ty,pos,aft,g⟩)(ht:P.underlying t=some (.array n e))(hx:ev T x=some (.slice ad len cap))(hl:n≤len)
  (hN:Nat.blt d X.N=true) (hg:dF G T g) (kk:WL P X H G K Q os ((d,.pointer ad)::T) L W):WL P X H G K Q ((fl,ix)::os) T L W:=by
 refine fW ho C C hg λa w hh=>?_
 have:(execOp a.eval ⟨some d,.sliceToArrayPointer t x,ty,pos,aft,g⟩).run P w=.ok (.value (.pointer ad)) w:=by
  simp only[execOp,hh.eval hx];unfold Instr.arrayAt;rw[Ω,Ω,TU.of ht w];simp only[Ξ];rw[zv Yd];rfl
 rw[this];exact⟨λ_=>rL.refl _ _,kk _ _ (hh.put hN _)⟩
namespace L12
open C12
section
variable{α:Type}{f:α→List Γ}{n:Nat}(hf:∀x,(f x).length=n){xs:List α}{i:Nat}
include hf
theorem G8:((xs.drop (i+1)).flatMap f).length=(xs.length-(i+1))*n:=by rw[dO hf,vq]
theorem Jl(k:Nat):(xs.flatMap f).take (k*n)=(xs.take k).flatMap f:=by
 induction xs generalizing k with
 |nil=>simp
 |cons x xs ih=>
  cases k with
  |zero=>simp
  |succ k=>
   rw[xy,List.take_succ_cons,xy,←ih k,show(k+1)*n=(f x).length+k*n by rw[hf,xb];omega,List.take_length_add_append]
theorem Eu(k:Nat):(xs.flatMap f).drop (k*n)=(xs.drop k).flatMap f:=by
 induction xs generalizing k with
 |nil=>simp
 |cons x xs ih=>
  cases k with
  |zero=>simp
  |succ k=>
   rw[xy,List.drop_succ_cons,←ih k,show(k+1)*n=(f x).length+k*n by rw[hf,xb];omega,lh]
theorem p6{cap o:Nat}{junk:List Γ}(hi:i<xs.length)(hcap:xs.length≤cap)(ho:i+1<cap→o=(i+1)*n)(_:(xs.flatMap f++junk).length=cap*n):((xs.flatMap f++junk).drop o).take ((xs.length-(i+1))*n)=(xs.drop (i+1)).flatMap f:=by
 by_cases h:i+1<xs.length
 ·rw[ho Yd,List.drop_append_of_le_length (by rw[dO hf];exact so _ Yd),Eu hf,vg (by rw[G8 hf];exact zk _),ww (by rw[G8 hf];exact zk _)]
 ·rw[show xs.length-(i+1)=0 by omega,ug,List.take_zero,wl Yd];rfl
theorem A4{junk:List Γ}(hi:i<xs.length):(xs.flatMap f++junk).take (i*n)++(xs.drop (i+1)).flatMap f++(xs.flatMap f++junk).drop (i*n+(xs.length-(i+1))*n)=(xs.eraseIdx i).flatMap f++(xs.flatMap f++junk).drop ((xs.length-1)*n):=by
 rw[vg (by rw[dO hf];exact so _ Yd),Jl hf,←xl,←List.eraseIdx_eq_take_drop_succ,←xb,show i+(xs.length-(i+1))=xs.length-1 by omega]
theorem V3{cap:Nat}{junk:List Γ}(hi:i<xs.length)(_:(xs.flatMap f).length=xs.length*n)(I:(xs.flatMap f++junk).length=cap*n)(hcap:xs.length≤cap):((xs.eraseIdx i).flatMap f++(xs.flatMap f++junk).drop ((xs.length-1)*n)).length=cap*n:=by
 have h1:(xs.length-1)*n≤cap*n:=so _ Yd;rw[zf,dO hf,jr hi,vq,I];omega
theorem GY{cap b e:Nat}{junk zs:List Γ}{cells:List Γ}(hi:i<xs.length)(hl1:(xs.flatMap f).length=xs.length*n)(I:(xs.flatMap f++junk).length=cap*n)(hcap:xs.length≤cap)(hz:cells=((xs.eraseIdx i).flatMap f++(xs.flatMap f++junk).drop ((xs.length-1)*n)).take ((xs.length-1)*n)++zs++((xs.eraseIdx i).flatMap f++(xs.flatMap f++junk).drop ((xs.length-1)*n)).drop ((xs.length-1)*n+zs.length))(hzl:(xs.length-1)*n+zs.length≤cap*n:=by simp;omega):
  bM e n (qS b (xs.length-1) cap) (xs.eraseIdx i).length ((xs.eraseIdx i).flatMap f) [(b,qC cells e)]:=by
 rw[jr hi];have hE:((xs.eraseIdx i).flatMap f).length=(xs.length-1)*n:=by rw[dO hf,jr hi]
 have hT:=V3 hf hi hl1 I hcap;subst hz;generalize hR:(xs.flatMap f++junk).drop ((xs.length-1)*n)=R at hT ⊢
 have O:((xs.eraseIdx i).flatMap f++R).take ((xs.length-1)*n)=(xs.eraseIdx i).flatMap f:=by rw[←hE,qi]
 rw[O,yy];refine zt ⟨b,cap,_,C,Yd,C,hE,?_⟩;rw[zf,zf,vq,hT,hE];omega
end
theorem Nj(sv:Γ)(xs:List C1.zM)(i:Nat)(ν:aF)(D:aC)(ha:bM 277 3 sv xs.length (xs.flatMap cC) ν)(hi:i<xs.length):LX prog 323 [sv,qI (i:Int),qI ((i+1:Nat):Int)] D ν (λ_ v ν'=>bM 277 3 v (xs.eraseIdx i).length ((xs.eraseIdx i).flatMap cC) ν'):=by
 obtain⟨b,cap,junk,rfl,hcap,rfl,hl1,I⟩:=ha.some Yd;refine jR 33 func323 C C C C λh0 hwl hwn=>aA<|Zf C<|aJ<|Za C<|Za C<|Za C<|Za C<|nB C U73 C C C zy<|i_ (l:=i) (h:=i+1) (m:=xs.length) C U73 lM C C C C Yd Yd hcap C zy λv3=>bD<|Za C ?_;refine Za C<|Zas C<|aE<|Zae C (λhc1=>?_) λhc1=>?_
 ·exact absurd hc1 Yd
 ·refine aP<|aA<|Za C<|nB C U73 C C C zy<|Zf C<|bX<|bK [] 2 8 58<|Za C<|Za C<|EI (i:=i) C U73 lM C C Yd C zy<|ub ?_;refine EJ (j:=i+1) C U73 lM C C Yd C zy λo ho=>wZ (A:=[]) (B:=[]) (sz:=3) (xs:=(xs.drop (i+1)).flatMap cC) C U73 C C lM C C (p6 (f:=cC) (λ_=>C) hi hcap ho I) (G8 (f:=cC) λ_=>C) Yd kj (dP s9 _) (zq C) C zy ?_;rw[show i+(xs.length-(i+1))=xs.length-1 by omega];refine Zad [(b,qC ((xs.eraseIdx i).flatMap cC++(xs.flatMap cC++junk).drop ((xs.length-1)*3)) 277)] (by rw[ya,A4 (f:=cC) (λ_=>C) hi])<|Zf C<|aJ<|Za C<|Za C<|nB C U73 C C C zy<|Za C<|gz (l:=xs.length-1) (h:=xs.length) C U73 lM C C C Yd hcap Yd C zy ?_;rw[show xs.length-(xs.length-1)=1 by omega];refine u6 (A:=[]) (B:=[]) (zs:=[.bool false,qI 0,qI 0]) C C U73 C K4 C Yd Yg (by rw[V3 (f:=cC) (λ_=>C) hi hl1 I hcap];simp;omega) Ym zy<|aJ<|Za C<|Wd ?_
  exact Zak [] [] [_] [_] C ⟨C,zy⟩ C λD hD=>GY (f:=cC) (λ_=>C) hi hl1 I hcap C
theorem Lq(sv:Γ)(xs:List C2.Mk)(i:Nat)(ν:aF)(D:aC)(ha:bM 376 4 sv xs.length (xs.flatMap cM) ν)(hi:i<xs.length):LX prog 325 [sv,qI (i:Int),qI ((i+1:Nat):Int)] D ν (λ_ v ν'=>bM 376 4 v (xs.eraseIdx i).length ((xs.eraseIdx i).flatMap cM) ν'):=by
 obtain⟨b,cap,junk,rfl,hcap,rfl,hl1,I⟩:=ha.some Yd;refine jR 33 func325 C C C C λh0 hwl hwn=>aA<|Zf C<|aJ<|Za C<|Za C<|Za C<|Za C<|nB C U77 C C C zy<|i_ (l:=i) (h:=i+1) (m:=xs.length) C U77 mO C C C C Yd Yd hcap C zy λv3=>bD<|Za C ?_;refine Za C<|Zas C<|aE<|Zae C (λhc1=>?_) λhc1=>?_
 ·exact absurd hc1 Yd
 ·refine aP<|aA<|Za C<|nB C U77 C C C zy<|Zf C<|bX<|bK [] 2 8 58<|Za C<|Za C<|EI (i:=i) C U77 mO C C Yd C zy<|ub ?_;refine EJ (j:=i+1) C U77 mO C C Yd C zy λo ho=>wZ (A:=[]) (B:=[]) (sz:=4) (xs:=(xs.drop (i+1)).flatMap cM) C U77 C C mO C C (p6 (f:=cM) (λ_=>C) hi hcap ho I) (G8 (f:=cM) λ_=>C) Yd kj (dP AA _) (zq C) C zy ?_;rw[show i+(xs.length-(i+1))=xs.length-1 by omega];refine Zad [(b,qC ((xs.eraseIdx i).flatMap cM++(xs.flatMap cM++junk).drop ((xs.length-1)*4)) 376)] (by rw[ya,A4 (f:=cM) (λ_=>C) hi])<|Zf C<|aJ<|Za C<|Za C<|nB C U77 C C C zy<|Za C<|gz (l:=xs.length-1) (h:=xs.length) C U77 mO C C C Yd hcap Yd C zy ?_;rw[show xs.length-(xs.length-1)=1 by omega];refine u6 (A:=[]) (B:=[]) (zs:=[qI 0,qI 0,qI 0,qI 0]) C C U77 C K7 C Yd Yg (by rw[V3 (f:=cM) (λ_=>C) hi hl1 I hcap];simp;omega) Ym zy<|aJ<|Za C<|Wd ?_
  exact Zak [] [] [_] [_] C ⟨C,zy⟩ C λD hD=>GY (f:=cM) (λ_=>C) hi hl1 I hcap C
theorem La(sv:Γ)(xs:List C3.bQ)(i:Nat)(ν:aF)(D:aC)(ha:bM 298 3 sv xs.length (xs.flatMap cL) ν)(hi:i<xs.length):LX prog 327 [sv,qI (i:Int),qI ((i+1:Nat):Int)] D ν (λ_ v ν'=>bM 298 3 v (xs.eraseIdx i).length ((xs.eraseIdx i).flatMap cL) ν'):=by
 obtain⟨b,cap,junk,rfl,hcap,rfl,hl1,I⟩:=ha.some Yd;refine jR 33 func327 C C C C λh0 hwl hwn=>aA<|Zf C<|aJ<|Za C<|Za C<|Za C<|Za C<|nB C U80 C C C zy<|i_ (l:=i) (h:=i+1) (m:=xs.length) C U80 cT C C C C Yd Yd hcap C zy λv3=>bD<|Za C ?_;refine Za C<|Zas C<|aE<|Zae C (λhc1=>?_) λhc1=>?_
 ·exact absurd hc1 Yd
 ·refine aP<|aA<|Za C<|nB C U80 C C C zy<|Zf C<|bX<|bK [] 2 8 58<|Za C<|Za C<|EI (i:=i) C U80 cT C C Yd C zy<|ub ?_;refine EJ (j:=i+1) C U80 cT C C Yd C zy λo ho=>wZ (A:=[]) (B:=[]) (sz:=3) (xs:=(xs.drop (i+1)).flatMap cL) C U80 C C cT C C (p6 (f:=cL) (λ_=>C) hi hcap ho I) (G8 (f:=cL) λ_=>C) Yd kj (dP BL _) (zq C) C zy ?_;rw[show i+(xs.length-(i+1))=xs.length-1 by omega];refine Zad [(b,qC ((xs.eraseIdx i).flatMap cL++(xs.flatMap cL++junk).drop ((xs.length-1)*3)) 298)] (by rw[ya,A4 (f:=cL) (λ_=>C) hi])<|Zf C<|aJ<|Za C<|Za C<|nB C U80 C C C zy<|Za C<|gz (l:=xs.length-1) (h:=xs.length) C U80 cT C C C Yd hcap Yd C zy ?_;rw[show xs.length-(xs.length-1)=1 by omega];refine u6 (A:=[]) (B:=[]) (zs:=[qI 0,qI 0,qI 0]) C C U80 C lI C Yd Yg (by rw[V3 (f:=cL) (λ_=>C) hi hl1 I hcap];simp;omega) Ym zy<|aJ<|Za C<|Wd ?_
  exact Zak [] [] [_] [_] C ⟨C,zy⟩ C λD hD=>GY (f:=cL) (λ_=>C) hi hl1 I hcap C
theorem Lj(sv:Γ)(xs:List (Int×Int))(i:Nat)(ν:aF)(D:aC)(ha:bM 129 2 sv xs.length (xs.flatMap cP) ν)(hi:i<xs.length):LX prog 328 [sv,qI (i:Int),qI ((i+1:Nat):Int)] D ν (λ_ v ν'=>bM 129 2 v (xs.eraseIdx i).length ((xs.eraseIdx i).flatMap cP) ν'):=by
 obtain⟨b,cap,junk,rfl,hcap,rfl,hl1,I⟩:=ha.some Yd;refine jR 33 func328 C C C C λh0 hwl hwn=>aA<|Zf C<|aJ<|Za C<|Za C<|Za C<|Za C<|nB C U85 C C C zy<|i_ (l:=i) (h:=i+1) (m:=xs.length) C U85 cU C C C C Yd Yd hcap C zy λv3=>bD<|Za C ?_;refine Za C<|Zas C<|aE<|Zae C (λhc1=>?_) λhc1=>?_
 ·exact absurd hc1 Yd
 ·refine aP<|aA<|Za C<|nB C U85 C C C zy<|Zf C<|bX<|bK [] 2 8 58<|Za C<|Za C<|EI (i:=i) C U85 cU C C Yd C zy<|ub ?_;refine EJ (j:=i+1) C U85 cU C C Yd C zy λo ho=>wZ (A:=[]) (B:=[]) (sz:=2) (xs:=(xs.drop (i+1)).flatMap cP) C U85 C C cU C C (p6 (f:=cP) (λ_=>C) hi hcap ho I) (G8 (f:=cP) λ_=>C) Yd kj (dP B1 _) (zq C) C zy ?_;rw[show i+(xs.length-(i+1))=xs.length-1 by omega];refine Zad [(b,qC ((xs.eraseIdx i).flatMap cP++(xs.flatMap cP++junk).drop ((xs.length-1)*2)) 129)] (by rw[ya,A4 (f:=cP) (λ_=>C) hi])<|Zf C<|aJ<|Za C<|Za C<|nB C U85 C C C zy<|Za C<|gz (l:=xs.length-1) (h:=xs.length) C U85 cU C C C Yd hcap Yd C zy ?_;rw[show xs.length-(xs.length-1)=1 by omega];refine u6 (A:=[]) (B:=[]) (zs:=[qI 0,qI 0]) C C U85 C kT C Yd Yg (by rw[V3 (f:=cP) (λ_=>C) hi hl1 I hcap];simp;omega) Ym zy<|aJ<|Za C<|Wd ?_
  exact Zak [] [] [_] [_] C ⟨C,zy⟩ C λD hD=>GY (f:=cP) (λ_=>C) hi hl1 I hcap C
theorem qB{e sz n:Nat}{cells:List Γ}{v:Γ}{ν:aF}(ha:bM e sz v n cells ν):∀p∈ν,dH p.2:=by
 intro p hp;rcases ha with⟨_,_,_,_,rfl⟩|⟨b,cap,junk,_,_,rfl,_⟩
 ·cases hp
 ·simp only[yf]at hp;subst hp;rfl
theorem YA(wb:Nat)(s:aO)(pv cv hv lv mv bl bc yc yq nv:Γ)(a:Int)(ν:aF)(D:aC)(hn:Sl D RI 1 nv [a])(ha:bM 277 3 cv s.row.counts.length (s.row.counts.flatMap cC) ν)(hsm:s.row.counts.length≤100)(Y:0≤a):lA prog 266 [qP wb,nv] D ((wb,qC (dY s pv cv hv lv mv bl bc yc yq) 359)::ν) (λ_ _ ν'=>a<(s.row.counts.length:Int)∧∃U ν1,ν'=(wb,qC (dY s pv U hv lv mv bl bc yc yq) 359)::ν1∧bM 277 3 U (s.row.counts.eraseIdx a.toNat).length ((s.row.counts.eraseIdx a.toNat).flatMap cC) ν1) (λv=>(s.row.counts.length:Int)≤a∧v=gK 7):=by
 obtain⟨bt,ot,ct,rfl⟩:=dM hn Yf;obtain⟨i,rfl⟩:∃i:Nat,a=(i:Int):=⟨a.toNat,Yd⟩
 have hbt:=eX hn;refine eR 34 func266 C C C C λh0 hwl hwn=>Za6<|aZ [] 7 11 1016<|Za C<|aX C hn<|Za C<|Zao C<|Zj C bC C<|Zj C eD C<|Zj C oD C<|Zq C T0 C zu C<|cG C U73 C ha C C zy ?_;refine Zm [(_,_)] ν [] C (Or.inr Yi) (λD5 O=>mS (i:Int) (s.row.counts.length:Int) _) (λv5 Z O hp5=>dC (P:=prog) (fn:=f266) C ⟨hp5.1,hp5.2⟩) λv5 Z ν5 O hp5=>?_;obtain⟨R,rfl⟩:=hp5;refine aE<|fK hbt Yf λhap=>rM λhnd=>?_;have hnu:=fR hap hnd;have hwbo:wb∉dI.mk [bt,wb]:=dI.out Yf;have hbto:bt∉dI.mk [bt,wb]:=dI.out Yf;refine aZ (dI.mk [bt,wb]) 4 20 32766<|Za C<|Za C<|Zao C<|Zj C bC C<|Zj C eD C<|Zj C oD C<|bG C T0 C zu C Yo C zy<|n1 ?_;refine Zaf C<|bB ((wb,qC (dY s pv cv hv lv mv bl bc yc yq) 359)::ν) C<|Zad ((wb,qC (dY s pv cv hv lv mv bl bc yc yq) 359)::ν++[]) (yr _).symm<|gP (A:=[(wb,qC (dY s pv cv hv lv mv bl bc yc yq) 359)]) (ν:=ν) (B:=[]) C C C C Yq (qB ha) (λD7 hB=>Nj _ s.row.counts i ν _ ha Yd) C zy λV D8 ν7 hE I=>Zad ((wb,qC (dY s pv cv hv lv mv bl bc yc yq) 359)::ν7) (yr _)<|Zao C<|Zj C bC C<|Zj C eD C<|Zj C oD C<|Zt (dY s pv V hv lv mv bl bc yc yq) C I.cells1 VK .head C I.cell1<|Zap ?_;exact eO C λD' hD=>⟨R,V,ν7,C,I⟩
theorem Lw(wb:Nat)(s:aO)(pv cv hv lv mv bl bc yc yq nv:Γ)(a:Int)(ν:aF)(D:aC)(hn:Sl D RI 1 nv [a])(ha:bM 376 4 mv s.table.marks.length (s.table.marks.flatMap cM) ν)(hsm:s.table.marks.length≤100)(Y:0≤a):lA prog 274 [qP wb,nv] D ((wb,qC (dY s pv cv hv lv mv bl bc yc yq) 359)::ν) (λ_ _ ν'=>a<(s.table.marks.length:Int)∧∃U ν1,ν'=(wb,qC (dY s pv cv hv lv U bl bc yc yq) 359)::ν1∧bM 376 4 U (s.table.marks.eraseIdx a.toNat).length ((s.table.marks.eraseIdx a.toNat).flatMap cM) ν1) (λv=>(s.table.marks.length:Int)≤a∧v=gK 7):=by
 obtain⟨bt,ot,ct,rfl⟩:=dM hn Yf;obtain⟨i,rfl⟩:∃i:Nat,a=(i:Int):=⟨a.toNat,Yd⟩
 have hbt:=eX hn;refine eR 34 func274 C C C C λh0 hwl hwn=>Za6<|aZ [] 7 11 1016<|Za C<|aX C hn<|Za C<|Zao C<|Zj C bC C<|Zj C dK C<|Zj C nZ C<|Zq C P8 C zu C<|cG C U77 C ha C C zy ?_;refine Zm [(_,_)] ν [] C (Or.inr Yi) (λD5 O=>mS (i:Int) (s.table.marks.length:Int) _) (λv5 Z O hp5=>dC (P:=prog) (fn:=f274) C ⟨hp5.1,hp5.2⟩) λv5 Z ν5 O hp5=>?_;obtain⟨R,rfl⟩:=hp5;refine aE<|fK hbt Yf λhap=>rM λhnd=>?_;have hnu:=fR hap hnd;have hwbo:wb∉dI.mk [bt,wb]:=dI.out Yf;have hbto:bt∉dI.mk [bt,wb]:=dI.out Yf;refine aZ (dI.mk [bt,wb]) 4 20 32766<|au ?_;refine Zaf C<|bB ((wb,qC (dY s pv cv hv lv mv bl bc yc yq) 359)::ν) C<|Zad ((wb,qC (dY s pv cv hv lv mv bl bc yc yq) 359)::ν++[]) (yr _).symm<|gP (A:=[(wb,qC (dY s pv cv hv lv mv bl bc yc yq) 359)]) (ν:=ν) (B:=[]) C C C C Yq (qB ha) (λD7 hB=>Lq _ s.table.marks i ν _ ha Yd) C zy λV D8 ν7 hE I=>Zad ((wb,qC (dY s pv cv hv lv mv bl bc yc yq) 359)::ν7) (yr _)<|Zao C<|Zj C bC C<|Zj C dK C<|Zj C nZ C<|Zt (dY s pv cv hv lv V bl bc yc yq) C I.cells1 TQ .head C I.cell1<|Zap ?_;exact eO C λD' hD=>⟨R,V,ν7,C,I⟩
theorem Lm(wb:Nat)(s:aO)(pv cv hv lv mv bl bc yc yq nv:Γ)(a:Int)(ν:aF)(D:aC)(hn:Sl D RI 1 nv [a])(ha:bM 298 3 bl s.book.lines.length (s.book.lines.flatMap cL) ν)(hsm:s.book.lines.length≤100)(Y:0≤a):lA prog 278 [qP wb,nv] D ((wb,qC (dY s pv cv hv lv mv bl bc yc yq) 359)::ν) (λ_ _ ν'=>a<(s.book.lines.length:Int)∧∃U ν1,ν'=(wb,qC (dY s pv cv hv lv mv U bc yc yq) 359)::ν1∧bM 298 3 U (s.book.lines.eraseIdx a.toNat).length ((s.book.lines.eraseIdx a.toNat).flatMap cL) ν1) (λv=>(s.book.lines.length:Int)≤a∧v=gK 7):=by
 obtain⟨bt,ot,ct,rfl⟩:=dM hn Yf;obtain⟨i,rfl⟩:∃i:Nat,a=(i:Int):=⟨a.toNat,Yd⟩
 have hbt:=eX hn;refine eR 34 func278 C C C C λh0 hwl hwn=>Za6<|aZ [] 7 11 1016<|Za C<|b9 ?_;refine Zm [(_,_)] ν [] C (Or.inr Yi) (λD5 O=>mS (i:Int) (s.book.lines.length:Int) _) (λv5 Z O hp5=>dC (P:=prog) (fn:=f278) C ⟨hp5.1,hp5.2⟩) λv5 Z ν5 O hp5=>?_;obtain⟨R,rfl⟩:=hp5;refine aE<|fK hbt Yf λhap=>rM λhnd=>?_;have hnu:=fR hap hnd;have hwbo:wb∉dI.mk [bt,wb]:=dI.out Yf;have hbto:bt∉dI.mk [bt,wb]:=dI.out Yf;refine aZ (dI.mk [bt,wb]) 4 20 32766<|Za C<|Za C<|Zao C<|Zj C bC C<|Zj C gJ C<|Zj C dX C<|bG C iK C zu C Yo C zy<|n1 ?_;refine Zaf C<|bB ((wb,qC (dY s pv cv hv lv mv bl bc yc yq) 359)::ν) C<|Zad ((wb,qC (dY s pv cv hv lv mv bl bc yc yq) 359)::ν++[]) (yr _).symm<|gP (A:=[(wb,qC (dY s pv cv hv lv mv bl bc yc yq) 359)]) (ν:=ν) (B:=[]) C C C C Yq (qB ha) (λD7 hB=>La _ s.book.lines i ν _ ha Yd) C zy λV D8 ν7 hE I=>Zad ((wb,qC (dY s pv cv hv lv mv bl bc yc yq) 359)::ν7) (yr _)<|Zao C<|Zj C bC C<|Zj C gJ C<|Zj C dX C<|Zt (dY s pv cv hv lv mv V bc yc yq) C I.cells1 fC .head C I.cell1<|Zap ?_;exact eO C λD' hD=>⟨R,V,ν7,C,I⟩
theorem Of(wb:Nat)(s:aO)(pv cv hv lv mv bl bc yc yq nv:Γ)(a:Int)(ν:aF)(D:aC)(hn:Sl D RI 1 nv [a])(ha:bM 129 2 yq s.yard.claims.length (s.yard.claims.flatMap cP) ν)(hsm:s.yard.claims.length≤100)(Y:0≤a):lA prog 283 [qP wb,nv] D ((wb,qC (dY s pv cv hv lv mv bl bc yc yq) 359)::ν) (λ_ _ ν'=>a<(s.yard.claims.length:Int)∧∃U ν1,ν'=(wb,qC (dY s pv cv hv lv mv bl bc yc U) 359)::ν1∧bM 129 2 U (s.yard.claims.eraseIdx a.toNat).length ((s.yard.claims.eraseIdx a.toNat).flatMap cP) ν1) (λv=>(s.yard.claims.length:Int)≤a∧v=gK 7):=by
 obtain⟨bt,ot,ct,rfl⟩:=dM hn Yf;obtain⟨i,rfl⟩:∃i:Nat,a=(i:Int):=⟨a.toNat,Yd⟩
 have hbt:=eX hn;refine eR 34 func283 C C C C λh0 hwl hwn=>Za6<|aZ [] 7 11 1016<|Za C<|aX C hn<|Za C<|Zao C<|Zj C bC C<|Zj C fF C<|Zj C nV C<|Zq C P3 C zu C<|cG C U85 C ha C C zy ?_;refine Zm [(_,_)] ν [] C (Or.inr Yi) (λD5 O=>mS (i:Int) (s.yard.claims.length:Int) _) (λv5 Z O hp5=>dC (P:=prog) (fn:=f283) C ⟨hp5.1,hp5.2⟩) λv5 Z ν5 O hp5=>?_;obtain⟨R,rfl⟩:=hp5;refine aE<|fK hbt Yf λhap=>rM λhnd=>?_;have hnu:=fR hap hnd;have hwbo:wb∉dI.mk [bt,wb]:=dI.out Yf;have hbto:bt∉dI.mk [bt,wb]:=dI.out Yf;refine aZ (dI.mk [bt,wb]) 4 20 32766<|aw ?_;refine Zaf C<|bB ((wb,qC (dY s pv cv hv lv mv bl bc yc yq) 359)::ν) C<|Zad ((wb,qC (dY s pv cv hv lv mv bl bc yc yq) 359)::ν++[]) (yr _).symm<|gP (A:=[(wb,qC (dY s pv cv hv lv mv bl bc yc yq) 359)]) (ν:=ν) (B:=[]) C C C C Yq (qB ha) (λD7 hB=>Lj _ s.yard.claims i ν _ ha Yd) C zy λV D8 ν7 hE I=>Zad ((wb,qC (dY s pv cv hv lv mv bl bc yc yq) 359)::ν7) (yr _)<|Zao C<|Zj C bC C<|Zj C fF C<|Zj C nV C<|Zt (dY s pv cv hv lv mv bl bc yc V) C I.cells1 QY .head C I.cell1<|Zap ?_;exact eO C λD' hD=>⟨R,V,ν7,C,I⟩
theorem Xbk{D:aC}{bt ot n ct:Nat}{a b c d:Int}(h:Sl D RI 1 (.slice (some ⟨bt,ot,none⟩) n ct) [a,b,c,d]):At D bt (ot+1) [qI b,qI c,qI d]:=by
  obtain⟨x,cap,hv,h1,h2,h3⟩:=h;cases hv;rcases h3 with h3|⟨b',o,ha,h3⟩
  · cases h3
  · cases ha;intro j v hj;have key:∀(i:Nat) (z:Int),[a,b,c,d][i]?= some z→(D bt)[ot+i]?= some (qI z):=λi z hi=>by
      obtain⟨cs,hr,hc,hA⟩:=h3 i z hi;obtain rfl:cs=[qI z]:=hr;have:=hA 0 _ C;simpa using this
    match j with
    | 0 => obtain rfl : Value.int .i64 b = v := by simpa using hj
           exact key 1 b C
    | 1 => obtain rfl : Value.int .i64 c = v := by simpa using hj
           exact key 2 c C
    | 2 => obtain rfl : Value.int .i64 d = v := by simpa using hj
           exact key 3 d C
    |j+3=>simp at hj
theorem Nk(wb:Nat)(s:aO)(pv cv hv lv mv bl bc yc yq nv:Γ)(a b c d:Int)(ν:aF)(D:aC)(hn:Sl D RI 1 nv [a,b,c,d])(ha:bM 314 4 yc s.yard.chairs.length (s.yard.chairs.flatMap cH) ν)(hsm:s.yard.chairs.length≤100):lA prog 279 [qP wb,nv] D ((wb,qC (dY s pv cv hv lv mv bl bc yc yq) 359)::ν) (λ_ _ ν'=>((a≤9∧max (max b c) d≤2)∧(s.yard.chairs.length:Int)<5)∧∃V ν1,ν'=(wb,qC (dY s pv cv hv lv mv bl bc V yq) 359)::ν1∧bM 314 4 V (s.yard.chairs++[(⟨a,⟨b,c,d⟩⟩:C7.Ch)]).length ((s.yard.chairs++[(⟨a,⟨b,c,d⟩⟩:C7.Ch)]).flatMap cH) ν1) (λv=>((9<a∨2<max (max b c) d)∧v=gK 2)∨((a≤9∧max (max b c) d≤2)∧5≤(s.yard.chairs.length:Int)∧v=gK 3)):=by
 obtain⟨bt,ot,ct,rfl⟩:=dM hn Yf;have hbt:=eX hn;refine eR 43 func279 C C C C (λh0 hwl hwn=>Za6<|aZ [] 5 10 240<|Za C<|aX C hn<|Zat C<|Za C<|XO (j:=1) C U35 aI C hn C Yf C zy λhsT=>Zd C (λD3 hB=>L2.aVZ _ b [c,d] _ (hsT.up RI.up (hB _ Yf)))<|Zat C<|Zu C U397 nM rJ C (.cons C C (.cons C C .nil)) λhI D901 hE O=>Zm [(_,_)] ν [] C (zt Yi) (λD5 R=>gN 2 [decide (9<a),decide (2<max (max b c) d)] _ _ ((iT (l:=[decide (9<a),decide (2<max (max b c) d)]) (λ_ _ _ h=>h) O Yf).up RB.up (R _ Yf))) (λv5 D6 R hp5=>dC (P:=prog) (fn:=f279) C (zq ⟨by simpa only[List.any_cons,List.any_nil,Bool.or_false,Bool.true_beq,yg,LE]using hp5.1,hp5.2⟩)) λv5 D6 ν5 R hp5=>?_);obtain⟨hf50,rfl⟩:=hp5;have Y:a≤9∧max (max b c) d≤2:=by simp only[List.any_cons,List.any_nil,Bool.or_false,Bool.true_beq,xn,yt,Int.not_lt]at hf50;exact hf50
 refine aJ<|Za C<|Zao C<|Zj C bC C<|Zj C fF C<|Zj C iS C<|Zq C qG C zu C<|cG C U84 C ha C C zy<|Zm [(_,_)] ν [] C (Or.inr Yi) (λD7 Z=>L5 (s.yard.chairs.length:Int) 5 _) (λv7 D8 Z I=>dC (P:=prog) (fn:=f279) C (zt ⟨Y,I.1,I.2⟩)) λv7 D8 ν7 Z I=>?_;obtain⟨hF,rfl⟩:=I;refine aE<|fK hbt Yf λhap=>rM λhnd=>?_;have hnu:=fR hap hnd;have hwbo:wb∉dI.mk [bt,wb]:=dI.out Yf;have hbto:bt∉dI.mk [bt,wb]:=dI.out Yf;refine aZ (dI.mk [bt,wb]) 4 22 131070<|Za C<|Za C<|Zao C<|Zj C bC C<|Zj C fF C<|Zj C iS C<|bG C qG C zu C Yo C zy<|Za C<|aX C hn<|Za C<|XO (j:=1) C U35 aI C hn C Yf C zy λhsU=>?_;refine aFI C U312 C Yf C zy<|cQ C rP C (Xbk hn) Yf pX hbto C zy<|Zw [qI a,qI b,qI c,qI d] C aFB U6 C<|Zu C U84 nK U6 C (.cons C C .nil) λhJ hK hH U=>J6 lj (⟨a,⟨b,c,d⟩⟩:C7.Ch) C U84 C C nK U6 C Vk C C C ha U Yd Yq zy λV ν1 ha1=>Zao C<|Zj C bC C<|Zj C fF C<|Zj C iS C<|Zt (dY s pv cv hv lv mv bl bc V yq) C ha1.cells1 dk .head C ha1.cell1<|Zap ?_;exact eO C λD' hD=>⟨⟨Y,hF⟩,V,ν1,C,ha1⟩
end L12
def lx(es:Array MapEntry)(M:List (Λ×Γ)):Prop:=es.toList.map (λe=>(e.key,e.val))=M.map λp=>(Value.string p.1,p.2)
def CJ(s:Λ):List (Λ×Γ)→Nat→Option (Nat×Γ)
 | [],_=>none
 |(b,v)::M,i=>if(s==b)=true then some (i,v)else CJ s M (i+1)
theorem EW(s:Λ):∀(es:List MapEntry) (M:List (Λ×Γ)) (i:Nat),es.map (λe=>(e.key,e.val))=M.map (λp=>(Value.string p.1,p.2))→Instr.findNow .string (.string s) es i=some (CJ s M i)
 | [],[],i,_=>rfl
 | [],_::_,i,h=>by simp at h
 |_::_,[],i,h=>by simp at h
 |e::es,(b,v)::M,i,h=>by
  simp only[yl,vx,ux]at h;obtain⟨⟨hk,hv⟩,h⟩:=h;simp only[Instr.findNow,hk,Instr.sameNow,CJ];cases hb:s==b with
  |true=>simp[hv]
  |false=>simpa using EW s es M (i+1) h
theorem M6{k:Θ}(ht:P.underlying k=some .string)(s:Λ)(w:Δ){es:List MapEntry}{M:List (Λ×Γ)}(h:es.map (λe=>(e.key,e.val))=M.map λp=>(Value.string p.1,p.2)):(Instr.findKey k (.string s) es).run P w=.ok (CJ s M 0) w:=by
 unfold Instr.findKey;rw[Ω,TU.of ht w];simp only[Ξ,EW s es M 0 h,ε]
theorem B2{k:Θ}(ht:P.underlying k=some .string)(em:Bool)(s:Λ)(w:Δ):(Instr.checkKey em 10000 k (.string s)).run P w=.ok () w:=by
 show(Instr.checkKey em (9999+1) k (.string s)).run P w=_;rw[Instr.checkKey,Ω,TU.of ht w];rfl
def jw(s:Λ)(M:List (Λ×Γ))(z0:Γ):Γ:=match CJ s M 0 with
 |some (_,v)=>v
 |none=>z0
theorem FE{t k e:Θ}{b clock:Nat}{es:Array MapEntry}{M:List (Λ×Γ)}{s:Λ}(ho:G[ix]?= some ⟨some d,.lookup t x y true,ty,pos,aft,g⟩)(ht:P.underlying t=some (.map k e))(hk:P.underlying k=some .string){z0:Γ}(hz:TZ P e z0)
  (hx:ev T x=some (.map (some b))) (hy:ev T y=some (.string s)) (hm:(b,Obj.map es clock)∈L) (hb:b∉H) (hM:lx es M) (hN:Nat.blt d X.N=true) (hg:dF G T g)
  (kk:WL P X H G K Q os ((d,.tuple #[jw s M z0,.bool (CJ s M 0).isSome])::T) L W):WL P X H G K Q ((fl,ix)::os) T L W:=by
 have run:∀w,w.heap[b]?= some (Obj.map es clock)→(Instr.lookup t (.map (some b)) (.string s) true).run P w=.ok (.tuple #[jw s M z0,.bool (CJ s M 0).isSome]) w:=by
  intro w hw;unfold jw;have hf:=M6 hk s w hM;unfold Instr.lookup;simp only[Ω,TU.of ht w,Ξ,qQ hw,ε,B2 hk];rw[hf];cases CJ s M 0 with
  |none=>simp only[Ξ,Ω,hz w,ε];rfl
  |some r=>obtain⟨j,v⟩:=r;simp only[Ξ];rfl
 refine qA ho C C hN hg (λa' w hh w' hk'=>?_) kk;simp only[execOp,hh.eval hx,hh.eval hy,Ω,run w' (hh.boxAt hm hb hk'),Ξ,ε]
theorem cY{t k e:Θ}{b clock:Nat}{es:Array MapEntry}{M:List (Λ×Γ)}{s:Λ}{A B:aF}(ho:G[ix]?= some ⟨none,.insert t x y z,ty,pos,aft,g⟩)(ht:P.underlying t=some (.map k e))(hk:P.underlying k=some .string)
  (hx:ev T x=some (.map (some b))) (hy:ev T y=some (.string s)) (hz:ev T z=some v) (hM:lx es M) (hnew:CJ s M 0=none) (hg:dF G T g)
  (kk:∀es' clock',lx es' (M++[(s,v)])→WL P X H G K Q os T (A++(b,.map es' clock')::B) W):WL P X H G K Q ((false,ix)::os) T (A++(b,.map es clock)::B) W:=by
 refine fW ho C C hg λa' w hh=>?_
 obtain⟨h1,h2,h3,D,h4,h5,I⟩:=id hh;have hw:=(h4.box (b,.map es clock) Yf).1;have hf:=M6 hk s w hM;have hset:∀o,(setObj b o).run P w=.ok () {w with heap:=w.heap.setIfInBounds b o}:=λo=>by simp[setObj,Sem.run,hw]
 have hr:(Instr.mapUpdate t (.map (some b)) (.string s) v).run P w=.ok () {w with heap:=w.heap.setIfInBounds b (.map (es.push {key:=.string s,val:=v,born:=clock}) (clock+1))}:=by
  unfold Instr.mapUpdate;simp only[Ω,TU.of ht w,Ξ,qQ hw,B2 hk];rw[hf,hnew];simp only[Ξ,hset]
 have hHas:bO (A++(b,Obj.map es clock)::B) b (.map es clock) (.map (es.push {key:=.string s,val:=v,born:=clock}) (clock+1)) (A++(b,.map (es.push {key:=.string s,val:=v,born:=clock}) (clock+1))::B):=.app .head;have hs:=h4.set (w':={w with heap:=w.heap.setIfInBounds b (.map (es.push {key:=.string s,val:=v,born:=clock}) (clock+1))}) hHas ⟨C,C⟩ trivial;have:(execOp a'.eval ⟨none,.insert t x y z,ty,pos,aft,g⟩).run P w=.ok .skip {w with heap:=w.heap.setIfInBounds b (.map (es.push {key:=.string s,val:=v,born:=clock}) (clock+1))}:=by
  simp only[execOp,hh.eval hx,hh.eval hy,hh.eval hz,Ω,hr,Ξ,ε]
 rw[this];refine⟨λh=>vu,kk _ _ ?_ _ _ ⟨h1,h2,h3,D,hs,h5,I.step (λ_ p hp=>zq Yw) (λ_=>mK ⟨C,C⟩ (n5.2 ⟨_,hHas.mem,C⟩)) hs.dom⟩⟩;unfold lx at hM ⊢
 rw[Array.toList_push,ze,ze,hM];rfl
theorem Fn.of_alloc{f:FuncId}{args:Array Γ}{D:aC}{cs:List Γ}{e:Θ}{r:Nat→Γ}{post:aC→Γ→Prop}(hEF:EF P f)
  (h:∀w,gI D w→Calls P f args w λen w'=>en=.returned (r w.heap.size)∧w'=w.alloc (.cells cs.toArray e (0,0))) (hp:∀D' b,Le D D'→At D' b 0 cs→post D' (r b)):Fn P f args D post:=by
 refine⟨hEF,λw hw=>(h w hw).mono ?_⟩;rintro en w' ⟨he,rfl⟩;have hst:jH (hd w) w.heap.size D [] [] D w:=⟨zk _,zk _,(λ_ _ _=>C),(λ_ _=>C),hw,Yi,wz,Yi,λe he=>yi he⟩
 obtain⟨D',hle,hb, -,hs⟩:=hst.pushD cs e;have hA:At D' w.heap.size 0 cs:=λj v hv=>by rw[hb];simpa using hv
 exact⟨_,D',he,hs,hp D' _ hle hA⟩
namespace L12
open C12
def QS:List (Λ×Γ):=[(⟨#[112,108,97,99,101]⟩,.agg #[qI 0,.func (.func 262) #[] #[]]),(⟨#[115,101,101,110]⟩,.agg #[qI 2,.func (.func 263) #[] #[]]),(⟨#[99,111,117,110,116]⟩,.agg #[qI 2,.func (.func 264) #[] #[]]),(⟨#[98,97,99,107]⟩,.agg #[qI 2,.func (.func 265) #[] #[]]),(⟨#[117,110,99,111,117,110,116]⟩,.agg #[qI 1,.func (.func 266) #[] #[]]),(⟨#[119,114,111,110,103]⟩,.agg #[qI 1,.func (.func 267) #[] #[]]),(⟨#[111,102,102]⟩,.agg #[qI 1,.func (.func 268) #[] #[]]),(⟨#[116,105,100,101]⟩,.agg #[qI 3,.func (.func 269) #[] #[]]),(⟨#[115,116,101,112]⟩,.agg #[qI 1,.func (.func 270) #[] #[]]),(⟨#[108,101,118,101,108]⟩,.agg #[qI 1,.func (.func 271) #[] #[]]),(⟨#[114,97,105,115,101]⟩,.agg #[qI 2,.func (.func 272) #[] #[]]),(⟨#[109,97,114,107]⟩,.agg #[qI 4,.func (.func 273) #[] #[]]),(⟨#[117,110,109,97,114,107]⟩,.agg #[qI 1,.func (.func 274) #[] #[]]),(⟨#[104,105,114,101]⟩,.agg #[qI 2,.func (.func 275) #[] #[]]),(⟨#[98,114,105,110,103]⟩,.agg #[qI 2,.func (.func 276) #[] #[]]),(⟨#[115,109,117,100,103,101]⟩,.agg #[qI 1,.func (.func 277) #[] #[]]),(⟨#[115,116,114,105,107,101]⟩,.agg #[qI 1,.func (.func 278) #[] #[]]),(⟨#[98,114,111,107,101,110]⟩,.agg #[qI 4,.func (.func 279) #[] #[]]),(⟨#[112,97,114,116]⟩,.agg #[qI 3,.func (.func 280) #[] #[]]),(⟨#[102,105,116]⟩,.agg #[qI 1,.func (.func 281) #[] #[]]),(⟨#[99,108,97,105,109]⟩,.agg #[qI 2,.func (.func 282) #[] #[]]),(⟨#[117,110,99,108,97,105,109]⟩,.agg #[qI 1,.func (.func 283) #[] #[]])]
theorem VV(D:aC):NC prog 205 #[] D (λ_ v ν=>∃b es cl,v=.map (some b)∧ν=[(b,.map es cl)]∧lx es QS):=by
 refine sE 25 func205 C C C C λh0=>aA<|Zf C<|aJ<|A2 C C zy λqm=>?_
 have hO:lx #[] []:=rfl;refine Zw [qI 0,.func (.func 262) #[] #[]] C iD gC C<|cY (A:=[]) (B:=[]) C U353 U9 C C C hO Yg zy λes1 cl1 hP=>Zw [qI 2,.func (.func 263) #[] #[]] C iD gC C<|cY (A:=[]) (B:=[]) C U353 U9 C C C hP Yg zy λes2 cl2 hR=>Zw [qI 2,.func (.func 264) #[] #[]] C iD gC C<|cY (A:=[]) (B:=[]) C U353 U9 C C C hR Yg zy λes3 cl3 hS=>Zw [qI 2,.func (.func 265) #[] #[]] C iD gC C<|cY (A:=[]) (B:=[]) C U353 U9 C C C hS Yg zy λes4 cl4 hX=>Zw [qI 1,.func (.func 266) #[] #[]] C iD gC C<|cY (A:=[]) (B:=[]) C U353 U9 C C C hX Yg zy λes5 cl5 hY=>Zw [qI 1,.func (.func 267) #[] #[]] C iD gC C<|cY (A:=[]) (B:=[]) C U353 U9 C C C hY Yg zy λes6 cl6 rA=>?_;refine Zw [qI 1,.func (.func 268) #[] #[]] C iD gC C<|cY (A:=[]) (B:=[]) C U353 U9 C C C rA Yg zy λes7 cl7 rB=>Zw [qI 3,.func (.func 269) #[] #[]] C iD gC C<|cY (A:=[]) (B:=[]) C U353 U9 C C C rB Yg zy λes8 cl8 hM8=>Zw [qI 1,.func (.func 270) #[] #[]] C iD gC C<|cY (A:=[]) (B:=[]) C U353 U9 C C C hM8 Yg zy λes9 cl9 hM9=>Zw [qI 1,.func (.func 271) #[] #[]] C iD gC C<|cY (A:=[]) (B:=[]) C U353 U9 C C C hM9 Yg zy λes10 cl10 I=>Zw [qI 2,.func (.func 272) #[] #[]] C iD gC C<|cY (A:=[]) (B:=[]) C U353 U9 C C C I Yg zy λes11 cl11 O=>Zw [qI 4,.func (.func 273) #[] #[]] C iD gC C<|cY (A:=[]) (B:=[]) C U353 U9 C C C O Yg zy λes12 cl12 R=>?_;refine Zw [qI 1,.func (.func 274) #[] #[]] C iD gC C<|cY (A:=[]) (B:=[]) C U353 U9 C C C R Yg zy λes13 cl13 U=>Zw [qI 2,.func (.func 275) #[] #[]] C iD gC C<|cY (A:=[]) (B:=[]) C U353 U9 C C C U Yg zy λes14 cl14 V=>Zw [qI 2,.func (.func 276) #[] #[]] C iD gC C<|cY (A:=[]) (B:=[]) C U353 U9 C C C V Yg zy λes15 cl15 Y=>Zw [qI 1,.func (.func 277) #[] #[]] C iD gC C<|cY (A:=[]) (B:=[]) C U353 U9 C C C Y Yg zy λes16 cl16 Z=>Zw [qI 1,.func (.func 278) #[] #[]] C iD gC C<|cY (A:=[]) (B:=[]) C U353 U9 C C C Z Yg zy λes17 cl17 hB=>Zw [qI 4,.func (.func 279) #[] #[]] C iD gC C<|cY (A:=[]) (B:=[]) C U353 U9 C C C hB Yg zy λes18 cl18 hE=>?_;refine Zw [qI 3,.func (.func 280) #[] #[]] C iD gC C<|cY (A:=[]) (B:=[]) C U353 U9 C C C hE Yg zy λes19 cl19 hF=>Zw [qI 1,.func (.func 281) #[] #[]] C iD gC C<|cY (A:=[]) (B:=[]) C U353 U9 C C C hF Yg zy λes20 cl20 hH=>Zw [qI 2,.func (.func 282) #[] #[]] C iD gC C<|cY (A:=[]) (B:=[]) C U353 U9 C C C hH Yg zy λes21 cl21 hI=>Zw [qI 1,.func (.func 283) #[] #[]] C iD gC C<|cY (A:=[]) (B:=[]) C U353 U9 C C C hI Yg zy λhJ hK hN=>Za C<|Wd ?_;exact aD C λD hD=>⟨qm,hJ,hK,C,C,hN⟩
end L12
namespace C12
abbrev eS:=aO→List Int→Except Int aO
def nC(s:aO)(r:C1.dG):aO:={s with row:=r}
def iR(s:aO)(t:C2.bA):aO:={s with table:=t}
def pW(s:aO)(b:C3.aU):aO:={s with book:=b}
def lK(s:aO)(y:C7.aS):aO:={s with yard:=y}
def s4(p:C7.Pt)(i:Nat)(v:Int):C7.Pt:=if i=0 then {p with a:=v}else if i=1 then {p with b:=v}else {p with c:=v}
def J4:eS:=λs _=>if 7≤(s.row.places.length:Int)then .error 3 else .ok (nC s {s.row with places:=s.row.places++[2]})
def n8:eS:=λs n=>match n with
 | [a,b]=>if(s.row.places.length:Int)≤a then .error 7 else if 2<b then .error 2 else .ok (nC s {s.row with places:=s.row.places.set a.toNat b})
 |_=>.error 4
def qK(back:Bool):eS:=λs n=>match n with
 | [a,b]=>if(s.row.places.length:Int)<a∨9<b then .error 2 else if 6≤(s.row.counts.length:Int)then .error 3 else .ok (nC s {s.row with counts:=s.row.counts++[⟨back,a,b⟩]})
 |_=>.error 4
def rS:eS:=λs n=>match n with
 | [a]=>if(s.row.counts.length:Int)≤a then .error 7 else .ok (nC s {s.row with counts:=s.row.counts.eraseIdx a.toNat})
 |_=>.error 4
def K3:eS:=λs n=>match n with
 | [a]=>if 6<a then .error 2 else .ok (nC s {s.row with wrong:=a})
 |_=>.error 4
def UP:eS:=λs n=>match n with
 | [a]=>if 9<a then .error 2 else .ok (nC s {s.row with off:=a})
 |_=>.error 4
def BQ:eS:=λs n=>match n with
 | [a,b,c]=>if(s.table.heights.length:Int)≤a then .error 7 else if c<b∨99<c∨b+2<c then .error 2 else .ok (iR s {s.table with heights:=s.table.heights.set a.toNat (b,c)})
 |_=>.error 4
def BN:eS:=λs n=>match n with
 | [a]=>if 99<a then .error 2 else .ok (iR s {s.table with step:=a})
 |_=>.error 4
def G0:eS:=λs n=>match n with
 | [a]=>if 99<a then .error 2 else if 6≤(s.table.levels.length:Int)then .error 3 else .ok (iR s {s.table with levels:=s.table.levels++[a]})
 |_=>.error 4
def K9:eS:=λs n=>match n with
 | [a,b]=>if(s.table.levels.length:Int)≤a then .error 7 else if 99<b then .error 2 else .ok (iR s {s.table with levels:=s.table.levels.set a.toNat b})
 |_=>.error 4
def N1:eS:=λs n=>match n with
 | [a,b,c,d]=>if(s.table.heights.length:Int)≤max a b then .error 7 else if b<a then .error 2 else if d<c∨99<d then .error 2 else if 5≤(s.table.marks.length:Int)then .error 3 else .ok (iR s {s.table with marks:=s.table.marks++[⟨a,b,c,d⟩]})
 |_=>.error 4
def vT:eS:=λs n=>match n with
 | [a]=>if(s.table.marks.length:Int)≤a then .error 7 else .ok (iR s {s.table with marks:=s.table.marks.eraseIdx a.toNat})
 |_=>.error 4
def qF(kind:Int):eS:=λs n=>match n with
 | [a,b]=>if s.book.chairs≤max a b then .error 7 else if 8≤(s.book.lines.length:Int)then .error 3 else .ok (pW s {s.book with lines:=s.book.lines++[⟨kind,a,b⟩]})
 |_=>.error 4
def rU:eS:=λs n=>match n with
 | [a]=>match s.book.lines[a.toNat]? with
  |none=>.error 7
  |some l=>if l.token= -1 then .error 6 else .ok (pW s {s.book with lines:=s.book.lines.set a.toNat {l with token:= -1}})
 |_=>.error 4
def uY:eS:=λs n=>match n with
 | [a]=>if(s.book.lines.length:Int)≤a then .error 7 else .ok (pW s {s.book with lines:=s.book.lines.eraseIdx a.toNat})
 |_=>.error 4
def vC:eS:=λs n=>match n with
 | [a,b,c,d]=>if 9<a∨2<max (max b c) d then .error 2 else if 5≤(s.yard.chairs.length:Int)then .error 3 else .ok (lK s {s.yard with chairs:=s.yard.chairs++[⟨a,⟨b,c,d⟩⟩]})
 |_=>.error 4
def xH:eS:=λs n=>match n with
 | [a,b,c]=>match s.yard.chairs[a.toNat]? with
  |none=>.error 7
  |some x=>if 3≤b then .error 7 else if 2<c then .error 2 else .ok (lK s {s.yard with chairs:=s.yard.chairs.set a.toNat {x with parts:=s4 x.parts b.toNat c}})
 |_=>.error 4
def TJ:eS:=λs n=>match n with
 | [a]=>if 9<a then .error 2 else .ok (lK s {s.yard with fit:=a})
 |_=>.error 4
def I3:eS:=λs n=>match n with
 | [a,b]=>if b<a∨7<b then .error 2 else if 5≤(s.yard.claims.length:Int)then .error 3 else .ok (lK s {s.yard with claims:=s.yard.claims++[(a,b)]})
 |_=>.error 4
def sI:eS:=λs n=>match n with
 | [a]=>if(s.yard.claims.length:Int)≤a then .error 7 else .ok (lK s {s.yard with claims:=s.yard.claims.eraseIdx a.toNat})
 |_=>.error 4
open Go.Lib
def rO:List UInt8→List (List UInt8)
 | []=>[[]]
 |b::l=>if b=32 then []::rO l else match rO l with
  | []=>[[b]]
  |p::ps=>(b::p)::ps
theorem aDV(l:List UInt8):rO l≠[]:=by
 cases l with
 |nil=>simp[rO]
 |cons b l=>unfold rO;split;simp;split<;>simp
theorem W5:∀{l:List UInt8},(32:UInt8)∉l→rO l=[l]
 | [],_=>rfl
 |b::l,h=>by
  simp only[zm,wn]at h;unfold rO;rw[zv λe=>h.1 e.symm,W5 h.2]
theorem AY:∀{l:List UInt8} {i:Nat},l[i]?= some 32→(32:UInt8)∉l.take i→rO l=l.take i::rO (l.drop (i+1))
 | [],i,h,_=>by simp at h
 |b::l,0,h,_=>by
  obtain rfl:b=32:=xd
  simp[rO]
 |b::l,i+1,h,hn=>by
  simp only[List.take_succ_cons,zm,wn]at hn;rw[rO,zv λe=>hn.1 e.symm,AY xd hn.2];simp
theorem X0{l:List UInt8}{i:Nat}{c:UInt8}:occAt l [c] i=true ↔ l[i]?= some c:=by
 unfold occAt;by_cases h:i<l.length
 ·rw[xc h,yz h];simp only[List.isPrefixOf,Bool.and_true,th,uk];exact eq_comm
 ·rw[wl Yd,tq Yd];simp[List.isPrefixOf]
theorem Og:∀(n:Nat) (l:List UInt8),l.length≤n→splitK [32] 0 (count l [32]) l=rO l:=by
 intro n;induction n with
 |zero=>
  intro l hl;obtain rfl:l=[]:=sc Yd;rfl
 |succ n ih=>
  intro l hl;rcases index_spec l [32]with⟨h1,h2⟩|⟨i,h1,h2,h3,h4⟩
  ·rw[count_miss h1];refine(W5 λhm=>?_).symm;obtain⟨i,hi⟩:=qo.1 hm;have:=h2 i (by have:=(yx.1 hi).1;omega)
   rw[X0.2 hi]at this;cases this
  ·have hi:=X0.1 h3;rw[count_hit Yf h1,Nat.add_comm 1,splitK,zv (by rw[h1];simp),h1]
   have hdl:(l.drop (i+1)).length≤n:=by
    have:=(yx.1 hi).1;rw[vq];omega
   simp only[xr,tl,ve];rw[ih _ hdl];refine(AY hi λhm=>?_).symm;obtain⟨j,hj⟩:=qo.1 hm;have hjl:=(yx.1 hj).1;rw[wq]at hjl;rw[sa Yd]at hj;have:=h4 j Yd;rw[X0.2 hj]at this;cases this
def rN(l:List UInt8):Λ:=⟨l.toArray⟩
theorem zV(s:Λ):rN s.data.toList=s:=Go.WideShapes.bytes_inj C
def eH(s:Λ):List Λ:=(rO s.data.toList).map rN
theorem Mw(s:Λ):splitB ⟨#[32]⟩ 0 (countB s ⟨#[32]⟩) s=eH s:=by
 have h:=splitB_data ⟨#[32]⟩ 0 (countB s ⟨#[32]⟩) s;have h2:splitK [32] 0 (count s.data.toList [32]) s.data.toList=rO s.data.toList:=Og _ _ (zk _);have h3:(splitB ⟨#[32]⟩ 0 (countB s ⟨#[32]⟩) s).map (·.data.toList)=rO s.data.toList:=h.trans h2;unfold eH;rw[←h3,uf];refine(List.map_id _).symm.trans (qn λx _=>?_);exact(zV x).symm
theorem WX(s:Λ):countB s ⟨#[32]⟩+1=(eH s).length:=by
 have key:∀(n:Nat) (l:List UInt8),l.length≤n→count l [32]+1=(rO l).length:=by
  intro n;induction n with
  |zero=>intro l hl;obtain rfl:l=[]:=sc Yd;rfl
  |succ n ih=>
   intro l hl;rcases index_spec l [32]with⟨h1,h2⟩|⟨i,h1,h2,h3,h4⟩
   ·rw[count_miss h1,W5 λhm=>?_]
    ·rfl
    ·obtain⟨i,hi⟩:=qo.1 hm;have:=h2 i (by have:=(yx.1 hi).1;omega)
     rw[X0.2 hi]at this;cases this
   ·have hi:=X0.1 h3;have hdl:(l.drop (i+1)).length≤n:=by
     have:=(yx.1 hi).1;rw[vq];omega
    rw[AY hi λhm=>?_,zh,←ih _ hdl,count_hit Yf h1]
    ·simp only[ve];omega
    ·obtain⟨j,hj⟩:=qo.1 hm;have hjl:=(yx.1 hj).1;rw[wq]at hjl;rw[sa Yd]at hj;have:=h4 j Yd;rw[X0.2 hj]at this;cases this
 unfold eH;rw[yh];exact key _ _ (zk _)
theorem RO(l:List UInt8):(rO l).length≤l.length+1:=by
 induction l with
 |nil=>simp[rO]
 |cons b l ih=>
  unfold rO;split
  ·simp;omega
  ·split
   ·simp
   ·rename_i p ps e;rw[e]at ih;simpa using Nat.le_succ_of_le ih
theorem Fb{l p:List UInt8}(h:p∈rO l):p.length≤l.length:=by
 induction l generalizing p with
 |nil=>simp[rO]at h;subst h;simp
 |cons b l ih=>
  unfold rO at h;split at h
  ·rcases zm.1 h with rfl|h
   ·simp
   ·exact Nat.le_succ_of_le (ih h)
  ·split at h
   ·simp only[yf]at h;subst h;simp
   ·rename_i q qs e;rcases zm.1 h with rfl|h
    ·have:=ih (p:=q) (by rw[e];simp);simpa using this
    ·exact Nat.le_succ_of_le (ih (by rw[e];exact GT _ h))

def tI(l:List UInt8):Option Int:=if l.length≤3∧(l.head?≠some 48∨l.length=1)then(decNat l).map λ(n:Nat)=>(n:Int)else none
def gj(l:List UInt8):Option Int:=match atoiAll l with
 |.ok v=>if 0≤v∧l.length≤3∧itoa v=l then some v else none
 |_=>none
theorem C8{b:UInt8}{d:Nat}(h:digitVal b=some d):d<10∧b=UInt8.ofNat (48+d):=by
 unfold digitVal at h;split at h
 ·cases h;refine⟨Yd,?_⟩;rw[show 48+(b.toNat-48)=b.toNat by omega];simp
 ·cases h
theorem PD{a b:Nat}(ha:a<256)(hb:b<256)(h:UInt8.ofNat a=UInt8.ofNat b):a=b:=by
 have:=zn UInt8.toNat h;simp only[UInt8.toNat_ofNat']at this;omega
theorem lw{u:Nat}(h:u<10):decDigits u=[UInt8.ofNat (48+u)]:=by rw[decDigits,dif_pos h]
theorem ci{u:Nat}(h:10≤u)(h2:u<100):decDigits u=[UInt8.ofNat (48+u / 10),UInt8.ofNat (48+u%10)]:=by rw[decDigits,dif_neg Yd,lw Yd];rfl
theorem Wao{u:Nat}(h:100≤u)(h2:u<1000):decDigits u=[UInt8.ofNat (48+u / 10 / 10),UInt8.ofNat (48+u / 10%10),UInt8.ofNat (48+u%10)]:=by rw[decDigits,dif_neg Yd,ci Yd Yd];rfl
theorem AW(u:Nat):itoa (u:Int)=decDigits u:=by unfold itoa;rw[zv Yd,xr]
theorem Gi{u:Nat}{b:UInt8}(h:b∈decDigits u):48≤b.toNat∧b.toNat≤57:=by
 induction u using Nat.strongRecOn with
 |_ u ih=>
  by_cases hu:u<10
  ·rw[lw hu]at h;simp only[yf]at h;subst h
   simp only[UInt8.toNat_ofNat'];omega
  ·rw[decDigits,dif_neg hu,zd,yf]at h;rcases h with h|h
   ·exact ih _ Yd h
   ·subst h;simp only[UInt8.toNat_ofNat'];omega
theorem Ug(l:List UInt8):gj l=tI l:=by
 unfold gj tI;by_cases hl:l.length≤3
 ·rw[atoiAll_short l Yd];match l,hl with
  | [],_=>rfl
  |b::r,hl=>
   have hat:atoi (b::r)=if(b==45)=true then(decNat r).map λ(m:Nat)=> -(m:Int)else if(b==43)=true then(decNat r).map λ(m:Nat)=>(m:Int)else(decNat (b::r)).map λ(m:Nat)=>(m:Int):=rfl
   rw[hat];by_cases O:b=45
   ·subst O;have hd:decNat (45::r)=none:=by unfold decNat decFrom digitVal;simp
    rw[hd];simp only[beq_self_eq_true,yo,vy,ite_self];cases decNat r with
    |none=>rfl
    |some m=>
     simp only[xo,NumEnd.ofOption];rw[zv];rintro⟨h1,h2,h3⟩;obtain rfl:m=0:=Yd
     have h4:itoa (-((0:Nat):Int))=[48]:=by rw[show(-((0:Nat):Int))=((0:Nat):Int) by omega,AW,lw Yd];rfl
     rw[h4]at h3;simp at h3
   ·rw[zv (by simpa using O)];by_cases R:b=43
    ·subst R;have hd:decNat (43::r)=none:=by unfold decNat decFrom digitVal;simp
     rw[hd];simp only[beq_self_eq_true,yo,vy,ite_self];cases decNat r with
     |none=>rfl
     |some m=>
      simp only[xo,NumEnd.ofOption];rw[zv];rintro⟨h1,h2,h3⟩;rw[AW]at h3;have:=Gi (u:=m) (b:=43) (by rw[h3];simp)
      simp at this
    ·rw[zv (by simpa using R)];have hnone:decNat (b::r)=none→_:=λh=>h
     cases hd:decNat (b::r)with
     |none=>simp only[vy,ite_self];rfl
     |some m=>
      simp only[xo,NumEnd.ofOption];have key:(0≤(m:Int)∧(b::r).length≤3∧itoa (m:Int)=b::r) ↔ ((b::r).length≤3∧((b::r).head?≠some 48∨(b::r).length=1)):=by
       rw[AW];unfold decNat at hd;match r,hl with
       | [],_=>
        simp only[List.isEmpty_cons,wt,xx,decFrom]at hd;cases h1:digitVal b with
        |none=>rw[h1]at hd;cases hd
        |some I=>
         rw[h1]at hd;simp only[uk]at hd;obtain⟨U,rfl⟩:=C8 h1;obtain rfl:I=m:=Yd
         rw[lw U];simp
       | [b2],_=>
        simp only[List.isEmpty_cons,wt,xx,decFrom]at hd;cases h1:digitVal b with
        |none=>rw[h1]at hd;cases hd
        |some I=>
         cases h2:digitVal b2 with
         |none=>rw[h1,h2]at hd;cases hd
         |some d2=>
          rw[h1,h2]at hd;simp only[uk]at hd;obtain⟨U,rfl⟩:=C8 h1;obtain⟨k2,rfl⟩:=C8 h2;by_cases z:I=0
          ·subst z;rw[lw Yd];simp
          ·rw[ci Yd Yd,show m / 10=I by omega,show m%10=d2 by omega];have:UInt8.ofNat I≠0:=λe=>z (PD (a:=I) (b:=0) Yd Yd e)
           simp[this]
       | [b2,V],_=>
        simp only[List.isEmpty_cons,wt,xx,decFrom]at hd;cases h1:digitVal b with
        |none=>rw[h1]at hd;cases hd
        |some I=>
         cases h2:digitVal b2 with
         |none=>rw[h1,h2]at hd;cases hd
         |some d2=>
          cases h3:digitVal V with
          |none=>rw[h1,h2,h3]at hd;cases hd
          |some Y=>
           rw[h1,h2,h3]at hd;simp only[uk]at hd;obtain⟨U,rfl⟩:=C8 h1;obtain⟨k2,rfl⟩:=C8 h2;obtain⟨Z,rfl⟩:=C8 h3;by_cases z:I=0
           ·subst z;by_cases z2:m<10
            ·rw[lw z2];simp
            ·rw[ci Yd Yd];simp
           ·rw[Wao Yd Yd,show m / 10 / 10=I by omega,show m / 10%10=d2 by omega,show m%10=Y by omega];have:UInt8.ofNat I≠0:=λe=>z (PD (a:=I) (b:=0) Yd Yd e)
            simp[this]
      by_cases hk:(b::r).length≤3∧((b::r).head?≠some 48∨(b::r).length=1)
      ·rw[zo hk,zo (key.2 hk)]
      ·rw[zv hk,zv (λh=>hk (key.1 h))]
 ·rw[zv (λh=>hl h.1)];split
  ·rw[zv (λh=>hl h.2.1)]
  ·rfl
theorem Na{l:List UInt8}{n:Int}(h:tI l=some n):0≤n∧n≤999∧itoa n=l:=by
 have h2:=h;rw[←Ug]at h2;unfold gj at h2;split at h2
 ·split at h2
  ·rename_i v _ hc;cases h2;refine⟨hc.1,?_,hc.2.2⟩;by_cases hb:n≤999
   ·exact hb
   ·exfalso
    obtain⟨u,rfl⟩:∃u:Nat,n=(u:Int):=⟨n.toNat,Yd⟩
    have h3:=hc.2.2;rw[AW]at h3;have h4:4≤(decDigits u).length:=by
     rw[decDigits,dif_neg Yd,decDigits,dif_neg Yd,decDigits,dif_neg Yd,decDigits];split<;>simp
    rw[h3]at h4;omega
  ·cases h2
 ·cases h2

def lV:List (List UInt8×Nat×eS):=[
 ([112,108,97,99,101],0,J4),
 ([115,101,101,110],2,n8),
 ([99,111,117,110,116],2,qK false),
 ([98,97,99,107],2,qK true),
 ([117,110,99,111,117,110,116],1,rS),
 ([119,114,111,110,103],1,K3),
 ([111,102,102],1,UP),
 ([116,105,100,101],3,BQ),
 ([115,116,101,112],1,BN),
 ([108,101,118,101,108],1,G0),
 ([114,97,105,115,101],2,K9),
 ([109,97,114,107],4,N1),
 ([117,110,109,97,114,107],1,vT),
 ([104,105,114,101],2,qF 1),
 ([98,114,105,110,103],2,qF 2),
 ([115,109,117,100,103,101],1,rU),
 ([115,116,114,105,107,101],1,uY),
 ([98,114,111,107,101,110],4,vC),
 ([112,97,114,116],3,xH),
 ([102,105,116],1,TJ),
 ([99,108,97,105,109],2,I3),
 ([117,110,99,108,97,105,109],1,sI)]
def kB(line:Λ):Option (eS×List Int):=
 match rO line.data.toList with
 | []=>none
 |p::ps=>match lV.find? (λx=>x.1==p)with
  |none=>none
  |some (_,k,act)=>if ps.length=k then(ps.mapM tI).map λn=>(act,n)else none

structure mI(s:aO):Prop where
 pl:s.row.places.length≤7
 ct:s.row.counts.length≤6
 ht:s.table.heights.length=4
 lev:s.table.levels.length≤6
 mks:s.table.marks.length≤5
 ln:s.book.lines.length≤8
 ch:s.yard.chairs.length≤5
 cl:s.yard.claims.length≤5
 bc:s.book.chairs=3
def Wbb(f:eS):Prop:=∀s n s',mI s→f s n=.ok s'→mI s'
theorem Lr:∀x∈lV,Wbb x.2.2:=by
 intro x hx s n s' h e;obtain⟨h1,h2,h3,h4,h5,I,O,h8,R⟩:=h;simp only[lV,zm,n4,yk]at hx;rcases hx with rfl|rfl|rfl|rfl|rfl|rfl|rfl|rfl|rfl|rfl|rfl|rfl|rfl|rfl|rfl|rfl|rfl|rfl|rfl|rfl|rfl|rfl;all_goals simp only[J4,n8,qK,rS,K3,UP,BQ,BN,G0,K9,N1,vT,qF,rU,uY,vC,xH,TJ,I3,sI]at e
 all_goals repeat' split at e
 all_goals cases e
 all_goals refine⟨?_,?_,?_,?_,?_,?_,?_,?_,?_⟩
 all_goals simp only[nC,iR,pW,lK]
 all_goals first|assumption|(simp<;>omega)|(simp only[List.length_eraseIdx];split<;>omega)
end C12
abbrev Cx.push(X:Cx)(dd:Deferred):Cx:={X with ds:=dd::X.ds}
theorem aFJ{c:Operand}{f:FuncId}{c1 c2:List Γ}{ats:Array Θ}(ho:G[ix]?= some ⟨none,.defer {callee:=.value c,args:=#[],argTypes:=ats},ty,pos,aft,g⟩)(hX:X.r=none)(hc:ev T c=some (.func (.func f) c1.toArray c2.toArray))(hg:dF G T g)
  (k:WL P (X.push ⟨.fn (.func f) c2.toArray,c1.toArray⟩) H G K Q os T L W):WL P X H G K Q ((false,ix)::os) T L W:=by
 intro a w hh;rw[I7 ho];have hq:lW (Op.defer {callee:=.value c,args:=#[],argTypes:=ats})=false:=rfl;simp only[wT,hq,wt,xx];unfold m4;rw[zo (hh.wanted hg)];refine⟨λ_ _=>trivial,?_⟩;have e:(Oper.semAt (FW X.r).round a.eval ⟨none,.defer {callee:=.value c,args:=#[],argTypes:=ats},ty,pos,aft,g⟩).run P w=.ok (.defer ⟨.fn (.func f) c2.toArray,c1.toArray⟩) w:=by
  rw[hX];show(Oper.semAt none a.eval _).run P w=_;rw[Oper.semAt_none];simp only[execOp,resolve,hh.eval hc,Deferred.ofValue,Array.map_empty,Array.append_empty];rfl
 rw[e];obtain⟨h1,h2,h3,D,h4,h5,I⟩:=hh;exact⟨λh=>vu,k _ _ ⟨h1,h2,by simp[Act.put,h3],D,h4,h5,I⟩⟩
theorem Xbw{f:FuncId}{fn:Func}{c:Code}{args:List Γ}{D:aC}{post:aC→Γ→Prop}(N:Nat)(hf:P.funcs[f]?= some fn)(hn:(fn.name== "runtime.NumGoroutine")=false)(hb:fn.body=some c)(hN:fn.ntmps=N)(hsz:Nat.ble args.length N=true)
  (h:∀h0:H0,WC P ⟨none,N,[],h0,h0.size,D,[],none⟩ (bodyPostDIn (FW none) 0 P fn (sN ⟨none,N,[],h0,h0.size,D,[],none⟩ λD' v _=>post D' v)) c (kA 0 args) [] [D]):Fn P f args.toArray D post:=by
 refine⟨EF.of hf hn hb,λw hw=>?_⟩;subst hN;have hsz:=vf hsz;refine(eC (r:=none) (n:=0)).1 ((callsIn_of_wp_defers (R:=sN ⟨none,fn.ntmps,[],hd w,w.heap.size,D,[],none⟩ λD' v _=>post D' v) hf hb zy (h (hd w) _ w ⟨?_,λs v hs=>?_,C,D,⟨zk _,zk _,λ_ _ _=>C,λ_ _=>C,hw,Yi,wz,Yi,λe he=>yi he⟩,λD₁ h1=>?_,zy⟩) C).mono ?_)
 ·simp;omega
 ·obtain⟨_,h2⟩:=gV args 0 s v hs;have hl:=(yx.1 h2).1;simp only[uw]at h2 hl;show(args.toArray++_)[s]?= some v;rw[sb uu];simpa using h2
 ·simp only[yf]at h1;subst h1;exact Le.refl _
 ·rintro e w' ⟨v,D',μ',rfl,hs,hp⟩;exact⟨v,D',C,hs.sub (by intro p hp;cases hp) wz,hp⟩
def NA(P:Program)(f:FuncId)(args:List Γ)(D:aC)(ν:aF)(u u2:FrameMode)(post:aC→aF→Prop):Prop:=
 EF P f∧∀w,gI D w→(∀p∈ν,w.heap[p.1]?= some p.2∧D p.1=[]∧dH p.2)→ν.ks.Nodup→CallsDIn (FW none) 0 P f args.toArray u w λe u' w'=>∃v D' ν',e=.returned v∧u'=u2∧jH (hd w) w.heap.size D ν.ks ν' D' w'∧post D' ν'
theorem Tz{fn:Func}{post:aC→Γ→aF→Prop}{dpost:aC→aF→Prop}{A B ν:aF}{f:FuncId}{c1 c2:List Γ}{u u2:FrameMode}{rs:List ResultVar}(hu:u≠.run)(hds:X.ds=[⟨.fn (.func f) c2.toArray,c1.toArray⟩])(hex:X.ex=none)(hun:∀p∈ν,dH p.2)
  (hf:∀D,(∀D₁∈W,Le D₁ D)→NA P f (c1++c2) D ν u u2 dpost) (hst:settle u2=.returning) (hr:fn.results=rs.toArray)
  (h:∀D ν',(∀D₁∈W,Le D₁ D)→dpost D ν'→∃vs,N3 P X T (A++ν'++B) rs vs∧post D (sR vs) (A++ν'++B)):∀a w,Hl X T (A++ν++B) W a w→LeavesIn (FW none) 0 P fn a.tmps (sN X post) a.defers u w:=by
 intro a w hh;obtain⟨h1,h2,h3,D,h4,h5,I⟩:=id hh;rw[h3,hds];have hF:=hf D h5;have hbx:∀p∈ν,_:=λp hp=>h4.box p (yw _ (LT _ hp))
 have hnd:=h4.nd;simp only[ze]at hnd;refine leavesIn_cons hu (λhh=>by simp[FW]at hh) (f:=f) (args:=(c1++c2).toArray) ?_ (λ_ _=>trivial) ?_
 ·show(callFunc f (c1.toArray++c2.toArray)).run P w=_;rw[hF.1];simp
 ·refine(hF.2 w h4.agr (λp hp=>⟨(hbx p hp).1,(hbx p hp).2.1,hun p hp⟩) (za.1 (za.1 hnd).1).2.1).mono ?_;rintro e u' w' ⟨v,D',ν',rfl,rfl,hs,hp⟩;have hle:=iJ h4.agr hs;have h5':∀D₁∈W,Le D₁ D':=λD₁ hD₁=>(h5 D₁ hD₁).trans hle
  obtain⟨vs,hv,hpost⟩:=h D' ν' h5' hp;have hh':Hl X T (A++ν'++B) W a w':=⟨h1,h2,h3,D',h4.afterG hs,h5',kw⟩
  show LeavesIn (FW none) 0 P fn a.tmps (sN X post) [] (settle u') w';rw[hst];exact⟨_,jP hh' hr hv,_,D',_,C,h4.afterG hs,hpost⟩
theorem Xak{fn:Func}{post:aC→Γ→aF→Prop}{dpost:aC→aF→Prop}{A B ν:aF}{f:FuncId}{c1 c2:List Γ}{rs:List ResultVar}{e:Exit}(he:(match e with|.normal=>true|.ret=>true|_=>false)=true)(hds:X.ds=[⟨.fn (.func f) c2.toArray,c1.toArray⟩])(hex:X.ex=none)(hun:∀p∈ν,dH p.2)
  (hf:∀D,(∀D₁∈W,Le D₁ D)→NA P f (c1++c2) D ν .returning .returning dpost) (hr:fn.results=rs.toArray)
  (h:∀D ν',(∀D₁∈W,Le D₁ D)→dpost D ν'→∃vs,N3 P X T (A++ν'++B) rs vs∧post D (sR vs) (A++ν'++B)):∀a w,Hl X T (A++ν++B) W a w→bodyPostDIn (FW none) 0 P fn (sN X post) e a w:=by
 intro a w hh;have:=Tz (u:=.returning) (u2:=.returning) Yf hds hex hun hf C hr h a w hh;cases e<;>first|exact this|cases he
theorem SW{fn:Func}{post:aC→Γ→aF→Prop}{dpost:aC→aF→Prop}{A B ν:aF}{f:FuncId}{c1 c2:List Γ}{rs:List ResultVar}{v:Γ}(hds:X.ds=[⟨.fn (.func f) c2.toArray,c1.toArray⟩])(hex:X.ex=none)(hun:∀p∈ν,dH p.2)
  (hf:∀D,(∀D₁∈W,Le D₁ D)→NA P f (c1++c2) D ν (.panicking (pV v)) (.panicking [{v,recovered:=true}]) dpost) (hr:fn.results=rs.toArray)
  (h:∀D ν',(∀D₁∈W,Le D₁ D)→dpost D ν'→∃vs,N3 P X T (A++ν'++B) rs vs∧post D (sR vs) (A++ν'++B)):∀a w,Hl X T (A++ν++B) W a w→bodyPostDIn (FW none) 0 P fn (sN X post) (.panic (pV v)) a w:=
 λa w hh=>Tz Yf hds hex hun hf C hr h a w hh
theorem Qk{f:FuncId}{fn:Func}{id t:Nat}{y:Code}{args:List Γ}{D:aC}{ν:aF}{u u2:FrameMode}{rv:Γ}{dpost:aC→aF→Prop}{ats:Array Θ}(N:Nat)(hf:P.funcs[f]?= some fn)(hn:(fn.name== "runtime.NumGoroutine")=false)
  (hb:fn.body=some (.seq (.region id #[⟨some t,.call {callee:=.builtin .recover,args:=#[],argTypes:=ats},ty,pos,aft,none⟩] false) y)) (hN:fn.ntmps=N) (hsz:Nat.ble args.length N=true) (ht:Nat.blt t N=true)
  (hrec:∀(c₀:Frame) (cs:List Frame),c₀.mode=u→(recoverD (c₀::cs)=some (rv,{c₀ with mode:=u2}::cs))∨(recoverD (c₀::cs)=none∧rv=.nilIface∧u2=u))
  (h:∀h0:H0,(∀p∈ν,p.1<h0.size)→ν.ks.Nodup→WC P (tX N h0 D ν.ks) (bodyPost P fn (EX (tX N h0 D ν.ks) (λD' _ ν'=>dpost D' ν') λ_=>False)) y ((t,rv)::kA 0 args) ν [D]):NA P f args D ν u u2 dpost:=by
 refine⟨EF.of hf hn hb,λw hw hν hnd=>?_⟩;subst hN;have hsz:=vf hsz;refine callsDIn_of_wpSIn hf hb zy λc₀ cs hm=>?_
 have hcs:({c₀ with mode:=u}:Frame)=c₀:=by subst hm;rfl
 have hH:Hl (tX fn.ntmps (hd w) D ν.ks) (kA 0 args) ν [D] {tmps:=args.toArray++Array.replicate (fn.ntmps-args.toArray.size) undef,defers:=[]} w:=by
  refine⟨?_,λs v hs=>?_,C,D,⟨zk _,zk _,λ_ _ _=>C,λ_ _=>C,hw,(λp hp=>?_),hnd,(λp hp=>(hν p hp).2.2),λe he=>yi he⟩,λD₁ h1=>?_,zy⟩
  ·simp[tX];omega
  ·obtain⟨_,h2⟩:=gV args 0 s v hs;have hl:=(yx.1 h2).1;simp only[uw]at h2 hl;show(args.toArray++_)[s]?= some v;rw[sb uu];simpa using h2
  ·exact⟨(hν p hp).1,(hν p hp).2.1,zt (n5.2 ⟨p,hp,C⟩)⟩
  ·simp only[yf]at h1;subst h1;exact Le.refl _
 have key:=h (hd w) (λp hp=>bR (hν p hp).1) hnd _ w (hH.put ht rv);refine wpSIn_seq (wpSIn_region ?_);have hex:∀ρ:Operand→Γ,(execOp ρ ⟨some t,.call {callee:=.builtin .recover,args:=#[],argTypes:=ats},ty,pos,aft,none⟩).run P w=.ok .recover w:=λρ=>by
  simp only[execOp,resolve,Array.map_empty];rfl
 have fin:∀cs',cs'=({c₀ with mode:=u2}:Frame)::cs→(y.wpSIn (FW none) 0 P (bodyPostS P fn c₀ cs λe u' w'=>∃v D' ν',e=.returned v∧u'=u2∧jH (hd w) w.heap.size D ν.ks ν' D' w'∧dpost D' ν')
   (Act.put {tmps:=args.toArray++Array.replicate (fn.ntmps-args.toArray.size) undef,defers:=[]} (some t) rv) cs' w):=by
  rintro cs' rfl;refine wpSIn_of_wpIn C (wpIn_mono key λe a w' hq=>?_);cases e with
  |normal|ret=>
   obtain⟨hd',v,hr,hR⟩:=hq;rcases hR with⟨v',D',ν',he,hs,hp⟩|⟨_,_,_,_,hp⟩
   ·exact⟨hd',u2,C,v,hr,v',D',ν',he,C,hs,hp⟩
   ·exact hp.elim
  |panic ch=>
   obtain⟨hd',hR⟩:=hq;rcases hR with⟨v',D',ν',he,hs,hp⟩|⟨_,_,_,_,hp⟩
   ·cases he
   ·exact hp.elim
  |outgrown=>
   rcases hq with⟨v',D',ν',he,hs,hp⟩|⟨_,_,_,_,hp⟩
   ·cases he
   ·exact hp.elim
  |exit=>exact hq.elim
  |goto=>exact hq.elim
 show wpOpsSIn (FW none) 0 P _ _ [0] _ _ _;simp only[wpOpsSIn,List.getElem?_toArray,List.getElem?_cons_zero];refine⟨λ_ _=>trivial,?_⟩;rw[zo xa,hex];rcases hrec c₀ cs hm with hr|⟨hr,rfl,rfl⟩
 ·simp only[hr];exact fin _ C
 ·simp only[hr];exact fin _ (by rw[hcs])
theorem Cd{c₀:Frame}{cs:List Frame}(hm:c₀.mode=.returning):recoverD (c₀::cs)=none:=by simp[recoverD,hm]
theorem An{c₀:Frame}{cs:List Frame}{v:Γ}(hm:c₀.mode=.panicking (pV v)):recoverD (c₀::cs)=some (v,{c₀ with mode:=.panicking [{v,recovered:=true}]}::cs):=by simp[recoverD,hm,pV]
theorem lA.reorder{f:FuncId}{args:List Γ}{D:aC}{ν ν2:aF}{post post':aC→Γ→aF→Prop}{pan pan':Γ→Prop}(h:lA P f args D ν post pan)(hp:ν.Perm ν2)(h1:∀D' v ν',Le D D'→post D' v ν'→∃ν'',ν''.Perm ν'∧post' D' v ν'')(h2:∀v,pan v→pan' v):lA P f args D ν2 post' pan':=by
 refine⟨h.1,λw hw hν hn=>(h.2 w hw (λp hp'=>hν p (hp.mem_iff.1 hp')) ((hp.map (·.1)).nodup_iff.2 hn)).mono ?_⟩;have hk:∀b,b∉ν2.ks→b∉ν.ks:=λb hb hm=>hb ((hp.map (·.1)).mem_iff.1 hm)
 rintro e w' (⟨v,D',ν',he,hs,hpost⟩|⟨v,D',he,hs,hpan⟩)
 ·obtain⟨ν'',hq,hpost'⟩:=h1 D' v ν' (iJ hw hs) hpost;refine zq ⟨v,D',ν'',he,⟨hs.hlo,hs.size,λb hb hm=>hs.old b hb (hk b hm),hs.dold,hs.agr,λp hp'=>?_,(hq.map (·.1)).nodup_iff.2 hs.nd,λp hp'=>hs.fz p (hq.mem_iff.1 hp'),hs.env⟩,hpost'⟩;obtain⟨I,k2,O⟩:=hs.box p (hq.mem_iff.1 hp');exact⟨I,k2,O.imp id λhm=>(hp.map (·.1)).mem_iff.1 hm⟩
 ·exact zt ⟨v,D',he,⟨hs.hlo,hs.size,λb hb hm=>hs.old b hb (hk b hm),hs.dold,hs.agr,(λp hp'=>by cases hp'),wz,(λp hp'=>by cases hp'),hs.env⟩,h2 v hpan⟩
theorem pQ{I O:aF}(h:∀ [BEq (Nat×Obj)] [LawfulBEq (Nat×Obj)] (a:Nat×Obj),I.count a=O.count a):I.Perm O:=by
 classical
 exact List.perm_iff_count.2 λa=>h a
def c_(Q:Exit→Act→Δ→Prop):Exit→Act→Δ→Prop:=λe a w=>match e with
 |.panic _=>False
 |e=>Q e a w
theorem Xau:NP (c_ Q):=λ_ _ _ h=>h
theorem Gl{c:Code}(h:WC P X (c_ Q) c T L W):WC P X Q c T L W:=λa w hh=>wpIn_mono (h a w hh) λe a w hq=>by cases e<;>first|exact hq|exact hq.elim
theorem aAQ{y:Code}(h:WC P X Q y T L W):∀a w,Hl X T L W a w→c_ (Exit.then (y.wpIn (FW X.r) 0 P Q) Q) .normal a w:=h
end Go.Fs
