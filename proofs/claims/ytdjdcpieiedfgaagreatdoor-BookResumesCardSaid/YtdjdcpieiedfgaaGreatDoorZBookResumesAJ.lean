/- Of BookResumes. -/
import Derived.Test.YtdjdcpieiedfgaaGreatDoorZBookResumesAI
namespace Go.Fs
open Go.Proofs
namespace L12
open C12 Go.Lib
theorem aYZ{α:Type}{p:α→Prop}{l:List α}{a:α}(h:∀x∈l,p x)(ha:p a):∀x∈l++[a],p x:=fun x hx=>(bNH.1 hx).elim (h x) fun e=>by rw[bNL.1 e];exact ha
theorem NK{α:Type}{p:α→Prop}{l:List α}{a:α}{i:Nat}(h:∀x∈l,p x)(ha:p a):∀x∈l.set i a,p x:=fun x hx=>(List.mem_or_eq_of_mem_set hx).elim (h x) fun e=>by rw[e];exact ha
theorem bBD{α:Type}{p:α→Prop}{l:List α}{i:Nat}(h:∀x∈l,p x):∀x∈l.eraseIdx i,p x:=fun x hx=>h x (List.mem_of_mem_eraseIdx hx)
structure kG(s:aM):Prop where
 len0:0<s.row.places.length
 wrong:0≤s.row.wrong∧s.row.wrong≤6
 off:0≤s.row.off∧s.row.off≤9
 place:∀p∈s.row.places,0≤p∧p≤2
 cnt:∀c∈s.row.counts,0≤c.many∧c.many≤s.row.places.length∧0≤c.num∧c.num≤9
 last:s.table.last=3
 step:0≤s.table.step∧s.table.step≤99
 hts:∀r∈s.table.heights,0≤r.1∧r.1≤r.2∧r.2≤99∧r.2≤r.1+2
 levs:∀n∈s.table.levels,0≤n∧n≤99
 mark:∀m∈s.table.marks,0≤m.frm∧m.frm≤m.to∧m.to≤3∧0≤m.lo∧m.lo≤m.hi∧m.hi≤99
 bk:s.book.coin=5∧s.book.box=20∧s.book.counts=[]
 ln:∀l∈s.book.lines,(1≤l.kind∧l.kind≤2)∧(0≤l.chair∧l.chair≤2)∧ -1≤l.token∧l.token≤2
 fit:0≤s.yard.fit∧s.yard.fit≤9
 size:∀c∈s.yard.chairs,(0≤c.size∧c.size≤9)∧(0≤c.parts.a∧c.parts.a≤2)∧(0≤c.parts.b∧c.parts.b≤2)∧0≤c.parts.c∧c.parts.c≤2
 claim:∀r∈s.yard.claims,0≤r.1∧r.1≤r.2∧r.2≤7
theorem aPR{p:C7.Pt}{i:Nat}{v:Int}(h:(0≤p.a∧p.a≤2)∧(0≤p.b∧p.b≤2)∧0≤p.c∧p.c≤2)(hv:0≤v∧v≤2):(0≤(l5 p i v).a∧(l5 p i v).a≤2)∧(0≤(l5 p i v).b∧(l5 p i v).b≤2)∧0≤(l5 p i v).c∧(l5 p i v).c≤2:=by
 unfold l5;split
 ·exact⟨hv,h.2⟩
 ·split
  ·exact⟨h.1,hv,h.2.2⟩
  ·exact⟨h.1,h.2.1,hv⟩
theorem HP:∀x∈kX,∀(s:aM) (n:List Int) (s':aM),lY s→kG s→(∀m∈n,0≤m∧m≤999)→x.2.2 s n=.ok s'→kG s':=by
 intro x hx s n s' hk h hn e;simp only[kX,LT,n4,bOZ]at hx;have kb:=hk.bc;have kh:=hk.ht;obtain⟨g1,g2,g3,g4,R,Z,g7,g8,g9,U,V,I,Y,O,g15⟩:=h;rcases hx with rfl|rfl|rfl|rfl|rfl|rfl|rfl|rfl|rfl|rfl|rfl|rfl|rfl|rfl|rfl|rfl|rfl|rfl|rfl|rfl|rfl|rfl;all_goals simp only[zT,o7,pJ,qM,C0,NZ,p9,l6,zZ,B4,C8,uH,pE,qL,tX,uE,vW,QP,B8,pY]at e
 all_goals repeat' split at e
 all_goals cases e
 all_goals try simp only[List.forall_mem_cons]at hn
 all_goals refine⟨?_,?_,?_,?_,?_,?_,?_,?_,?_,?_,?_,?_,?_,?_,?_⟩
 all_goals simp only[mD,iK,oZ,kK]
 all_goals first|assumption|omega|exact aYZ Ym Xcz|exact NK Ym Xcz|exact bBD Ym|(simp only[LE,bPB,bQY];omega)|(intro c hc;have:=R c hc;simp only[LE,bPB];omega)|(have h9:=I _ (n5 Ym);exact NK I ⟨h9.1,h9.2.1,Xcz⟩)|(have h9:=O _ (n5 Ym);exact NK O ⟨h9.1,aPR h9.2 Yd⟩)
theorem ZP:kG vN:=by
 refine⟨Yt,Yt,Yt,Yt,Yt,rfl,Yt,Yt,Yt,fun _ h=>Xab,⟨rfl,rfl,rfl⟩,fun _ h=>Xab,Yt,fun _ h=>Xab,fun _ h=>Xab⟩
theorem O0{line:Λ}{act:eH}{n:List Int}(h:jO line=some (act,n)):∀m∈n,0≤m∧m≤999:=by
 obtain⟨p,ps,hc⟩:=pD line;rw[uR hc]at h;split at h
 ·cases h
 ·split at h
  ·cases hm:ps.mapM vC with
   |none=>rw[hm]at h;cases h
   |some m=>rw[hm]at h;cases h;exact V5 hm
  ·cases h
theorem aXN{s:aM}(hk:lY s)(h:kG s)(line:Λ):kG (pO s line).1:=by
 unfold pO;cases hp:jO line with
 |none=>exact h
 |some a=>
  obtain⟨act,n⟩:=a;simp only[];cases ha:act s n with
  |error c=>exact h
  |ok s'=>
   simp only[];split
   ·obtain⟨x,hx,rfl⟩:=FU hp;exact HP x hx s n s' hk h (O0 hp) ha
   ·exact h
section
variable{s:aM}(hk:lY s)(h:kG s)
include hk h
theorem kG.rowOk:C1.mM s.row:=⟨h.len0,by have:=hk.pl;omega,hk.ct,h.wrong,h.off,h.place,h.cnt⟩
theorem kG.tOk:C2.KL s.table:=⟨by rw[h.last];decide,by rw[hk.ht,h.last];decide,h.step,fun r hr=>by
 have:=h.hts r hr;unfold C2.jD C2.fQ;simp only[bMS,GT,C1.bS];omega,hk.lev,h.levs,hk.mks,fun m hm=>by
 have:=h.mark m hm;rw[h.last];unfold C2.wN C2.tA C2.DN C2.jD C2.fQ;simp only[bMS,GT,C1.bS];omega⟩
theorem kG.many:C2.rI s.table.heights≤81:=by
 have:=aCW s.table.heights 1 Yd fun q hq=>by have:=h.hts q hq;unfold C2.fO;omega
 rw[hk.ht]at this;exact Int.le_trans this Yt
theorem kG.fT:C2.aZ s.table=if C2.fD s.table=[]then 9 else 0:=by
 have ho:=h.tOk hk;have h1:C2.aKJ s.table=false:=by
  unfold C2.aKJ;have:=ho.last;have:=ho.lev;have:=ho.mks
  simp only[bOH,bMY];omega
 have h2:C2.bFF s.table=true:=by
  unfold C2.bFF C2.fQ;simp only[bMS,GT,bNQ,C1.bS];exact⟨⟨⟨⟨⟨ho.last.1,ho.len⟩,ho.hts⟩,ho.step⟩,ho.levs⟩,ho.mark⟩
 unfold C2.aZ;rw[h1,h2,bNA Yf,bNA Yf,bNA (by have:=h.many hk;omega)]
theorem kG.fB:C3.aZ s.book=if 4096<C3.tL 3 s.book.lines then 3 else 0:=by
 have h1:C3.tB s.book=true:=by
  unfold C3.tB;rw[hk.bc,h.bk.1,h.bk.2.1,h.bk.2.2];simp only[bMS,bNQ,C1.bS];refine⟨⟨⟨⟨Yt,Yt⟩,Yt⟩,fun l hl=>?_⟩,fun _ h=>Xab⟩;have:=h.ln l hl;unfold C3.xH;simp only[bMS,C1.bS];omega
 unfold C3.aZ;rw[h1,bNA (by rw[h.bk.2.2];have:=hk.ln;simp;omega),bNA Yf,hk.bc]
theorem kG.fY:C7.aZ s.yard=if 8<C7.dA s.yard.chairs then 3 else 0:=by
 have h1:C7.zR s.yard=true:=by
  unfold C7.zR;simp only[bMS,bNQ,C7.bS];refine⟨⟨h.fit,fun c hc=>?_⟩,fun r hr=>?_⟩
  ·have:=h.size c hc;unfold C7.kP C7.TT C7.Pt.l;simp only[bMS,bNQ,C7.bS,List.forall_mem_cons];exact⟨this.1,this.2.1,this.2.2.1,this.2.2.2,fun _ h=>Xab⟩
  ·have:=h.claim r hr;unfold C7.mJ;simp only[bMS,GT];omega
 unfold C7.aZ;rw[h1,bNA (by have:=hk.ch;have:=hk.cl;omega),bNA Yf]
end
def RZ(s:aM):Int:=if C1.truths s.row=[]then 11 else if C2.fD s.table=[]then 9 else if C2.bK s.table=[]then 11 else if 4096<C3.tL 3 s.book.lines∨8<C7.dA s.yard.chairs then 3 else if L7.dC s.yard []=[]then 11 else 0
theorem UQ(y:C7.bA):(L7.gE y).2=if C7.aZ y≠0 then C7.aZ y else if L7.dC y []=[]then 11 else 0:=by
 unfold L7.gE;by_cases h:C7.aZ y=0
 ·rw[bNA Yd,bNA Yd];cases L7.dC y []with
  |nil=>rfl
  |cons a l=>simp only[bNT];rfl
 ·rw[bNK h,bNK h]
theorem uU{s:aM}(hk:lY s)(h:kG s):fS s=RZ s:=by
 unfold fS RZ C1.eM C2.oB;rw[C1.AD.2 (h.rowOk hk),h.fT hk,h.fB hk,h.fY hk,UQ,h.fY hk];by_cases I:C1.truths s.row=[]
 ·simp[I]
 ·by_cases a2:C2.fD s.table=[]
  ·simp[I,a2]
  ·by_cases a3:C2.bK s.table=[]
   ·simp[I,a2,a3]
   ·by_cases a4:4096<C3.tL 3 s.book.lines
    ·simp[I,a2,a3,a4]
    ·by_cases a5:8<C7.dA s.yard.chairs
     ·simp[I,a2,a3,a4,a5]
     ·by_cases O:L7.dC s.yard []=[]
      ·simp[I,a2,a3,a4,a5,O]
      ·simp[I,a2,a3,a4,a5,O]
end L12
open Go.Proofs Tryz
namespace L1
open C1
theorem bBB{r:dH}{t:List Int}(h:t.length≠r.places.length):eJ r t=false:=by
 unfold eJ;simp[h]
theorem bHR{r:dH}{t:List Int}{k:Nat}{x y:Int}(hx:r.places[k]?= some x)(hy:t[k]?= some y)(h:(!hC y 0 1||(decide (x≠2)&&decide (y≠x)))=true):eJ r t=false:=by
 have hm:(y,x)∈t.zip r.places:=n5 (i:=k) (by rw[bSH];exact⟨hy,hx⟩);have:((t.zip r.places).all fun x=>qZ x.1 x.2)=false:=by
  rw[bSA];refine⟨_,hm,?_⟩;unfold qZ;simp only[bNZ,bPQ,bMS,GT]at h;rcases h with h|h
  ·simp[h]
  ·simp only[bMS,bNZ,bRL];rintro⟨_,h3|h3⟩
   ·exact h.1 h3
   ·exact h.2 h3
 unfold eJ;rw[this];simp
theorem aPL{r:dH}{t:List Int}{k:Nat}{x y:Int}(hx:r.places[k]?= some x)(hy:t[k]?= some y)(h2:((t.zip r.places).take k).all (fun x=>qZ x.1 x.2)=true)(h:(!hC y 0 1||(decide (x≠2)&&decide (y≠x)))=false):
  ((t.zip r.places).take (k+1)).all (fun x=>qZ x.1 x.2)=true:=by
 rw[bMZ,show(t.zip r.places)[k]?= some (y,x) by rw[bSH];exact⟨hy,hx⟩,List.all_append,h2];simp only[bOH,bRP,bRQ,bMY,ne_eq,Decidable.not_not]at h;rcases h with⟨h0,h|h⟩
 ·simp[qZ,h,h0]
 ·subst h;simp[qZ,h0]
theorem aZA{r:dH}{t:List Int}{k:Nat}(hl:t.length=r.places.length)(hk:t.length≤k)(h2:((t.zip r.places).take k).all (fun x=>qZ x.1 x.2)=true):eJ r t=true:=by
 rw[bNV Yaq]at h2;unfold eJ;rw[h2,hl];simp
theorem XE{r:dH}{t:List Int}{k:Nat}{x:xW}(hx:r.counts[k]?= some x)(h:0<gV t x):((((r.counts.take (k+1)).filter fun c=>decide (0<gV t c)).length:Nat):Int)=((r.counts.take k).filter fun c=>decide (0<gV t c)).length+1:=by
 rw[bMZ,hx,bNU,bOE,LE];simp[h]
theorem aKT{r:dH}{t:List Int}{k:Nat}{x:xW}(hx:r.counts[k]?= some x)(h:¬0<gV t x):((((r.counts.take (k+1)).filter fun c=>decide (0<gV t c)).length:Nat):Int)=((r.counts.take k).filter fun c=>decide (0<gV t c)).length:=by
 rw[bMZ,hx,bNU,bOE,LE];simp[h]
theorem aOA(tv:Γ)(t:List Int)(i j:Int)(a n:Nat)(D:aC)(hS:Sl D RI 1 tv t)(hi:i=a)(hj:j+1=a+n)(hn:a+n≤t.length)(hb:∀x∈t,0≤x∧x≤1)(hl:t.length≤100):Fn prog 53 #[tv,qI i,qI j] D (fun _ v=>v=qI (dK t a n)):=by
 subst hi;refine Zw 22 func53 rfl fun h0=>aA<|Zf rfl<|aJ<|Zf rfl<|bC<|Za rfl<|Zf rfl<|aF<|Za1<|bM (γ:=Nat) (fun k=>n-k) (fun k=>k≤n) (fun k=>[(8,qI ((a:Int)+k)),(7,qI (dK t a k))]) [(6,_),(0,_),(2,_)] (fun k=>[D]) 0 Yd ⟨(by simp;rfl),(by simp[dK];rfl),bSM⟩ cF (aK) ?_
 rintro k h1;refine bZ<|Za rfl<|Za rfl<|gJ rfl rfl rfl rfl bSM<|aF<|Zae rfl (fun hc1=>?_) fun hc1=>?_
 ·have hk:k<n:=Yd
  obtain⟨x,hx0⟩:=cT t (a+k);have hx:t[((a:Int)+k).toNat]?= some x:=by rw[show((a:Int)+k).toNat=a+k by omega];exact hx0
  have hx1:=hb x (n5 hx0);have hx2:=eZ hb a k;refine aQ<|Za3<|Za1<|aO<|Za rfl<|Za rfl<|Za rfl<|iW rfl hS rfl hx fun I O=>Zad rfl<|Zf rfl<|Zao<|Za4 ?_;refine Zaz<|aO<|Za rfl<|Wbt ?_;exact Zn 15 (k+1) ⟨Ya,(by rw[zU hx0];rfl),bSM⟩ rfl Mm5
 ·obtain rfl:k=n:=Yd
  refine Wm ?_;exact aE rfl fun D hD=>rfl
theorem aRG(tv:Γ)(t:List Int)(c:xW)(D:aC)(hS:Sl D RI 1 tv t)(h0:0≤c.many)(h1:c.many≤t.length)(h2:0≤c.num)(h3:c.num≤9)(hb:∀x∈t,0≤x∧x≤1)(hl:t.length≤100):Fn prog 205 #[tv,cV c] D (fun _ v=>v=qI (gV t c)):=by
 have U:=h0;have V:=h1;have Y:=eZ hb 0 c.many.toNat;have Z:=eZ hb (t.length-c.many.toNat) c.many.toNat;refine Zw 32 func205 rfl fun h0=>aA<|Zz rfl fun q1 E1 hB I=>Zf rfl<|aJ<|Za rfl<|Zj rfl KN rfl<|Zh 1 rfl aI rfl I rfl<|Zav rfl<|Zd rfl (fun D1 O=>aOA _ t _ _ 0 c.many.toNat _ (hS.up RI.up (O _ Yf)) rfl Yd Yd hb hl)<|Zf rfl<|bC ?_;refine Zj rfl aJR rfl<|Zh 0 rfl FM rfl I rfl<|aF<|Zaf rfl (fun hc1=>?_) fun hc1=>?_
 ·have hab:I2 t c=dK t (t.length-c.many.toNat) c.many.toNat:=by unfold I2;rw[bNK hc1]
  refine aO<|Za rfl<|Za rfl<|eE rfl U25 rfl Ym rfl rfl bSM<|Zj rfl KN rfl<|Zh 1 rfl aI rfl I rfl<|Zav rfl<|Za rfl<|eE rfl U25 rfl Ym rfl rfl bSM<|Zav rfl<|Zd rfl (fun D2 R=>aOA _ t _ _ (t.length-c.many.toNat) c.many.toNat _ (hS.up RI.up (R _ Yf)) Yd Yd Yd hb hl)<|Zf rfl ?_;refine aJ<|Za rfl<|Zj rfl S1 rfl<|Zh 2 rfl aI rfl I rfl<|Zav rfl<|Zj rfl S1 rfl<|Zh 2 rfl aI rfl I rfl<|Za rfl<|Zav rfl<|qW rfl rfl rfl rfl bSM<|We ?_;exact aE rfl fun D hD=>by show Value.int _ _=_;rw[gV,hab]
 ·have hab:I2 t c=dK t 0 c.many.toNat:=by unfold I2;rw[bNA (by simp[hc1])]
  refine aQ<|aA<|Za rfl<|Zj rfl S1 rfl<|Zh 2 rfl aI rfl I rfl<|Zav rfl<|Zj rfl S1 rfl<|Zh 2 rfl aI rfl I rfl<|Za rfl<|Zav rfl<|qW rfl rfl rfl rfl bSM<|Zf rfl ?_;refine aG ?_;exact aE rfl fun D hD=>by show Value.int _ _=_;rw[gV,hab]
theorem XR(rv tv:Γ)(r:dH)(t:List Int)(D:aC)(hr:oG D rv r)(ht:Sl D RI 1 tv t):Fn prog 123 #[rv,tv] D (fun _ v=>v=.bool (eJ r t)):=by
 obtain⟨pv,cv,rfl,hp,hc⟩:=hr;have hl:=ht.len;refine Zw 44 func123 rfl fun h0=>aA<|Zz rfl fun q1 E1 hO I=>Zf rfl<|bC<|Za rfl<|Zai rfl U25 rfl ht rfl<|Zj rfl jL rfl<|Zh 0 rfl cD rfl I rfl<|Zai rfl U25 rfl hp rfl<|Zax rfl<|aF ?_;refine Zae rfl (fun hc1=>?_) fun hc1=>?_
 ·refine Wci ?_;exact aE rfl fun D hD=>by show Value.bool _=_;rw[bBB Yd]
 ·have hlen:t.length=r.places.length:=Yd
  refine aQ<|bZ<|Zf rfl<|aF<|Za1<|bM (γ:=Nat) (fun k=>t.length-k) (fun k=>k≤t.length∧((t.zip r.places).take k).all (fun x=>qZ x.1 x.2)=true) (fun k=>[(5,qI (k:Int))]) [(4,_),(2,_),(1,_)] (fun k=>[E1,D]) 0 Yf ⟨Ya,bSM⟩ cF (aK) ?_;rintro k ⟨h1,h2⟩;refine bZ<|Za rfl<|Za rfl<|Zai rfl U25 rfl ht rfl<|Zan rfl<|aF<|Zae rfl (fun hc2=>?_) fun hc2=>?_
  ·have hk:k<t.length:=Yd
   obtain⟨x,hx⟩:=cT r.places k;obtain⟨y,hy⟩:=cT t k;refine aQ<|Za3<|Za1<|Za3<|bN [] 7 26 8159746<|Za rfl<|Za rfl<|iW rfl ht rfl hy fun b1 o1=>Zd rfl (fun D1 hP=>aDU _ _ _ _)<|Wbg ?_;refine' dL 19 (s:=24) (p:=43) rfl (fun O=>?_) (fun O=>?_) ?_;rotate_left
   ·refine Zk rfl jL rfl<|Zi 0 rfl cD rfl I rfl<|Zb rfl<|dW rfl U25 aH rfl hp rfl Yd hx rfl ⟨_,rfl,rfl⟩ fun b2 o2 R U hJ V=>?_;obtain rfl:R=[qI _]:=U;refine Zi 0 rfl aI rfl V rfl<|LB rfl rfl rfl rfl ⟨_,rfl,rfl⟩<|Zb rfl ?_;refine' bX 11 (s:=31) (p:=42) rfl (fun Y=>?_) (fun Y=>?_) ?_;rotate_left
    ·refine Zb rfl<|Zb rfl<|dW rfl U25 aH rfl ht rfl Yd hy rfl ⟨_,rfl,rfl⟩ fun b3 o3 Z hB hK hE=>?_;obtain rfl:Z=[qI _]:=hB;refine Zi 0 rfl aI rfl hE rfl<|Zk rfl jL rfl<|Zi 0 rfl cD rfl I rfl<|Zb rfl<|dW rfl U25 aH rfl hp rfl Yd hx rfl ⟨_,rfl,rfl⟩ fun b4 o4 hF hH hN hI=>?_;obtain rfl:hF=[qI _]:=hH;refine Zi 0 rfl aI rfl hI rfl<|LB rfl rfl rfl rfl ⟨_,rfl,rfl⟩<|oY rfl rfl rfl rfl ⟨_,rfl,rfl⟩ ?_;exact aN 10
    ·refine Zg rfl<|Zg rfl<|Zg rfl<|Zg rfl<|Zg rfl<|Zg rfl<|Zg rfl<|Zg rfl<|Wce ?_;exact aN 10
    refine Zal rfl ?_;exact aN 8
   ·refine Wah ?_;refine Zg rfl<|Zg rfl<|Wf ?_;exact aN 18
   refine aF<|Zaf rfl (fun hc3=>?_) fun hc3=>?_
   ·refine aA<|Wi ?_;exact aE rfl fun D hD=>by show Value.bool _=_;rw[bHR hx hy hc3]
   ·refine Wch ?_;exact aL 16 (k+1) ⟨Yd,aPL hx hy h2 hc3⟩ Yd ⟨Ya,bSM⟩ rfl rfl Mm5 (aK)
  ·refine Wl ?_;exact aE rfl fun D hD=>by show Value.bool _=_;rw[aZA hlen Yd h2]
theorem aPS(rv tv:Γ)(r:dH)(t:List Int)(D:aC)(hr:oG D rv r)(ht:Sl D RI 1 tv t)(hok:mM r)(htr:oR r t):Fn prog 125 #[rv,tv] D (fun _ v=>v=qI (if eW r t then(rO r t:Int)else -1)):=by
 obtain⟨pv,cv,rfl,hp,hc⟩:=hr;have hl:=hc.len;have h6:=hok.cnt6;have h9:=hok.len9;have htl:=htr.1;refine Zw 31 func125 rfl fun h0=>aA<|Zz rfl fun q1 E1 Z I=>Zf rfl<|aJ<|Zf rfl<|bC<|Zf rfl<|aF<|Za1<|bM (γ:=Nat) (fun k=>r.counts.length-k) (fun k=>k≤r.counts.length∧(r.counts.take k).all (fun c=>decide (gV t c≤r.off))=true) (fun k=>[(6,qI (k:Int)),(5,qI (((r.counts.take k).filter fun c=>decide (0<gV t c)).length:Int))]) [(4,_),(2,_),(1,_)] (fun k=>[E1,D]) 0 Yf ⟨Ya,Ya,bSM⟩ cF (aK) ?_;rintro k ⟨h1,h2⟩;refine bZ<|Za rfl<|Zj rfl jX rfl<|Zh 1 rfl xM rfl I rfl<|eE rfl U50 rfl Ym rfl rfl bSM<|Zan rfl<|aF<|Zae rfl (fun hc1=>?_) fun hc1=>?_
 ·have hk:k<r.counts.length:=Yd
  obtain⟨x,hx⟩:=cT r.counts k;have hxm:=n5 hx;have hlf:=bOJ (fun c=>decide (0<gV t c)) (r.counts.take k);have hlt:(r.counts.take k).length≤k:=bPW _ _;refine aQ<|Za3<|Za1<|aA<|Za rfl<|Zj rfl jX rfl<|Zh 1 rfl xM rfl I rfl<|Za rfl<|Zx rfl U50 sI rfl hc rfl hx fun b1 o1 O R Y U=>?_;obtain rfl:O=[.bool _,qI _,qI _]:=R;refine Zv rfl bBH rfl U sI<|Zd rfl (fun D1 V=>aRG _ t x _ (ht.up RI.up (V _ Yf)) (hok.cnt x hxm).1 (by have:=(hok.cnt x hxm).2.1;omega) (hok.cnt x hxm).2.2.1 (hok.cnt x hxm).2.2.2 htr.2 Yd)<|Zf rfl<|bC<|Za rfl<|Zj rfl SH rfl<|Zh 3 rfl aI rfl I rfl<|Zaq rfl<|aF<|Zae rfl (fun hc2=>?_) fun hc2=>?_
  ·refine aA<|Wax ?_;exact aE rfl fun D hD=>by show Value.int _ _=_;rw[TJ hxm hc2];rfl
  ·refine aQ<|aA<|Za rfl<|Zaq rfl<|aF<|Zae rfl (fun hc3=>?_) (fun hc3=>?_)
   ·refine Wbz ?_;exact aL 27 (k+1) ⟨Yd,K3 hx h2 hc2⟩ Yd ⟨Ya,(by rw[XE hx hc3];rfl),bSM⟩ rfl rfl Mm5 (aK)
   ·refine Wch ?_;exact aL 24 (k+1) ⟨Yd,K3 hx h2 hc2⟩ Yd ⟨Ya,(by rw[aKT hx hc3];rfl),bSM⟩ rfl rfl Mm5 (aK)
 ·obtain rfl:k=r.counts.length:=Yd
  rw[bNR]at h2;rw[bNR];refine Wm ?_;exact aE rfl fun D hD=>by show Value.int _ _=_;rw[MJ h2];rfl
theorem aPQ{r:dH}{t:List Int}:(eJ r t&&hC (if eW r t=true then(rO r t:Int)else -1) 0 r.wrong)=(eJ r t&&fits r t):=by
 congr 1;unfold fits hC;cases eW r t<;>simp
theorem QL(rv tv:Γ)(r:dH)(t:List Int)(D:aC)(hr:oG D rv r)(ht:Sl D RI 1 tv t)(hok:mM r):Fn prog 55 #[rv,tv] D (fun _ v=>v=.bool (eJ r t&&fits r t)):=by
 have O:=hr;obtain⟨pv,cv,rfl,hp,hc⟩:=hr;refine Zw 16 func55 rfl fun h0=>aA<|Zz rfl fun q1 E1 Y I=>Zf rfl<|bO<|iZ [] 3 [0,1,2,3,4,5,7,8,6,9,10,11] [false,true,false,false,false,true,true,true,true,false,false,false] [(false,0),(true,1),(false,2),(false,3),(false,4),(true,5),(true,7),(true,8),(true,6),(false,9),(false,10),(false,11)] bB (fun _ _ _ h=>fW (P:=prog) (fn:=f55) _ _ _ h) Yg rfl<|Zv rfl DY rfl I V9<|Za rfl<|Zd rfl (fun D1 R=>XR _ _ r t _ (O.up (R _ Yf)) (ht.up RI.up (R _ Yf)))<|Za rfl ?_;refine' bX 7 (s:=8) (p:=15) rfl (fun U=>?_) (fun U=>?_) ?_;rotate_left
 ·refine cK rfl DY rfl I Yc V9 n4 rfl ⟨_,rfl,rfl⟩<|Zb rfl<|Zk rfl SC rfl<|Zi 2 rfl aI rfl I rfl<|Ze rfl (fun D2 V=>aPS _ _ r t _ (O.up (V _ Yf)) (ht.up RI.up (V _ Yf)) hok (aAO U))<|Ze rfl (fun D3 Z=>aDU _ _ _ _)<|Zak rfl ?_;exact aN 6
 ·refine Wbd ?_;exact aN 6
 refine We ?_;exact aE rfl fun D hD=>by show Value.bool _=_;rw[aPQ]
def LA(D:aC)(vs:List Γ)(ts:List (List Int)):Prop:=vs.length=ts.length∧∀(i:Nat) (v:Γ) (t:List Int),vs[i]?= some v→ts[i]?= some t→Sl D RI 1 v t
theorem LA.nil{D:aC}:LA D [] []:=⟨rfl,fun i v t h _=>Xaf⟩
theorem LA.len{D:aC}{vs:List Γ}{ts:List (List Int)}(h:LA D vs ts):vs.length=ts.length:=h.1
theorem LA.up{D D':aC}{vs:List Γ}{ts:List (List Int)}(h:LA D vs ts)(hl:Le D D'):LA D' vs ts:=⟨h.1,fun i v t hv ht=>(h.2 i v t hv ht).up RI.up hl⟩
theorem LA.snoc{D:aC}{vs:List Γ}{ts:List (List Int)}{v:Γ}{t:List Int}(h:LA D vs ts)(hv:Sl D RI 1 v t):LA D (vs++[v]) (ts++[t]):=by
 refine⟨by simp[h.1],fun i u s hu hs=>?_⟩;by_cases hi:i<vs.length
 ·rw[bPH hi]at hu;rw[bPH (by rw[←h.1];exact hi)]at hs
  exact h.2 i u s hu hs
 ·have h1:=(bMW.1 hu).1;simp only[LE,bPB]at h1;obtain rfl:i=vs.length:=Yd
  rw[bPY (bNJ _)]at hu;rw[bPY (by rw[h.1];exact bNJ _),h.1]at hs
  simp at hu hs;subst hu hs;exact hv
theorem _root_.Go.Fs.kZ.lists{D D':aC}{v:Γ}{vs:List Γ}{ts:List (List Int)}(hF:kZ D' v vs.length vs)(h:LA D vs ts)(hl:Le D D')(hb:ts.length≤9223372036854775807):Sl D' RL 1 v ts:=
 hF.sl h.1.symm (by rw[h.1];exact hb) fun i t hi=>by
  have hlt:=(bMW.1 hi).1;have hv:vs[i]?= some (vs[i]'(by rw[h.1];exact hlt)):=bMU _
  refine⟨_,⟨_,rfl,(h.2 i _ t hv hi).up RI.up hl⟩,rfl,?_⟩;rw[bPK,bOF (by rw[h.1];exact hlt)];rfl
theorem Sl.empty{D:aC}{a:Option Addr}:Sl D RI 1 (.slice a 0 0) ([]:List Int):=⟨a,0,rfl,bNJ _,Yf,bNI rfl⟩
theorem Sl.one{D:aC}{b:Nat}{v:Γ}{t:List Int}(hA:At D b 0 [v])(h:Sl D RI 1 v t):Sl D RL 1 (qS b 1 1) [t]:=
  Sl.of_at hA rfl (bNJ _) Yd fun i x hx=>by
    cases i with
    | zero => obtain rfl : t = x := by simpa using hx
              exact⟨[v],⟨v,rfl,h⟩,rfl,rfl⟩
    |succ i=>simp at hx
theorem TL(p:Int)(t:List Int)(m:Nat):(I7 p t m).length≤m:=by
 induction m with
 |zero=>simp[I7]
 |succ m ih=>
  by_cases h:p=2∨p=(m:Int)
  ·rw[UO h];simp;omega
  ·rw[aBW h];omega
theorem MB(p:Int)(out:List (List Int)):(kE p out).length≤2*out.length:=by
 induction out with
 |nil=>simp[kE]
 |cons t out ih=>
  unfold kE at ih ⊢
  rw[bNW,LE,bMX];have:=TL p t 2;omega
theorem aTT(p:Int)(out:List (List Int))(k:Nat)(t:List Int)(m:Nat):(kE p (out.take k)++I7 p t m).length≤2*out.length+m:=by
 have h1:=MB p (out.take k);have h2:=TL p t m;have h3:(out.take k).length≤out.length:=by rw[bON];omega
 rw[LE];omega
theorem YR{l:List Int}{i:Nat}{p:Int}(h:l[i]?= some p):(l.take (i+1)).foldl (fun o p=>kE p o) [[]]=kE p ((l.take i).foldl (fun o p=>kE p o) [[]]):=by
 rw[bMZ,h,bNU,bOR];rfl
theorem aIA{r:dH}(hok:mM r)(i:Nat):((r.places.take i).foldl (fun o p=>kE p o) [[]]).length≤512:=by
 rw[X7];have h1:=sS (r.places.take i);have h2:(r.places.take i).length≤9:=by have:=hok.len9;rw[bON];omega
 have h3:2^(r.places.take i).length≤2^9:=bOW Yd h2;omega
theorem XG{r:dH}(hok:mM r){i:Nat}{t:List Int}(h:t∈(r.places.take i).foldl (fun o p=>kE p o) [[]]):t.length≤9:=by
 rw[X7]at h;have:=(qF h).1;have:=hok.len9;rw[bON]at *;omega
theorem ZC(rv:Γ)(r:dH)(D:aC)(hr:oG D rv r)(hok:mM r):Fn prog 54 #[rv] D (fun D' v=>Sl D' RL 1 v (cB r.places)):=by
 obtain⟨pv,cv,rfl,hp,hc⟩:=hr;have hl:=hp.len;refine Zw 56 func54 rfl fun h0=>aA<|Zz rfl fun q1 E1 hE1 Y=>Zf rfl<|aJ<|Zt rfl U25 aH cE rfl .nil fun b901 D901 hF hH=>Zt rfl U80 fR vE rfl (.cons rfl rfl .nil) fun b902 R hI Z=>Zf rfl<|bC<|Zf rfl<|aF<|Za1 ?_;refine bM (γ:=Nat×Γ×aC) (fun g=>r.places.length-g.1) (fun g=>g.1≤r.places.length∧Sl g.2.2 RL 1 g.2.1 ((r.places.take g.1).foldl (fun o p=>kE p o) [[]])) (fun g=>[(4,qI (g.1:Int)),(3,g.2.1)]) [(2,_),(1,_)] (fun g=>[g.2.2,E1,D]) (0,_,R) ⟨Yf,Sl.one (Z) (Sl.empty)⟩ ⟨Ya,Ya,bSM⟩ cF ((fun D0 h=>by simp only[LT,n4,bOZ]at h;rcases h with h|h|h;exact⟨R,Yf,h▸Le.refl _⟩;exact⟨E1,Yf,h▸Le.refl _⟩;exact⟨D,Yf,h▸Le.refl _⟩)) ?_
 rintro⟨i,outv,Do⟩ ⟨h1,ho⟩;simp only at h1 ho;have hol:=aIA hok i;have hol2:=ho.len;refine bZ<|Za rfl<|Zj rfl jL rfl<|Zh 0 rfl cD rfl Y rfl<|Zai rfl U25 rfl hp rfl<|Zan rfl<|aF<|Zae rfl (fun hc1=>?_) fun hc1=>?_
 ·have hi:i<r.places.length:=Yd
  obtain⟨p,hx⟩:=cT r.places i;refine aQ<|Za3<|Za1<|aA<|Zf rfl<|bC<|Zf rfl<|aF<|Za1<|gT (γ:=Nat×Γ×List Γ×aD×aC) (fun g=>((r.places.take i).foldl (fun o p=>kE p o) [[]]).length-g.1) (fun g=>g.1≤((r.places.take i).foldl (fun o p=>kE p o) [[]]).length∧bI 25 1 g.2.1 g.2.2.1.length g.2.2.1 g.2.2.2.1∧LA g.2.2.2.2 g.2.2.1 (kE p (((r.places.take i).foldl (fun o p=>kE p o) [[]]).take g.1))) (fun g=>[(6,qI (g.1:Int)),(5,g.2.1)]) [(14,_),(13,_),(12,_),(11,_),(10,_),(4,_),(3,_),(2,_),(1,_)] (fun g=>g.2.2.2.1++[]) (fun g=>[g.2.2.2.2,Do,E1,D]) (0,qN,[],[],Do) ⟨Yf,Xba,by simpa [kE]using LA.nil⟩ ⟨Ya,Ya,bSM⟩ cF Mm5 ((fun D0 h=>by simp only[LT,n4,bOZ]at h;rcases h with h|h|h|h;exact⟨Do,Yf,h▸Le.refl _⟩;exact⟨Do,Yf,h▸Le.refl _⟩;exact⟨E1,Yf,h▸Le.refl _⟩;exact⟨D,Yf,h▸Le.refl _⟩)) ?_
  rintro⟨k,v,vs,ν,Dn⟩ ⟨h2,ha,hla⟩;simp only at h2 ha hla;have hvl:=hla.len;refine bZ<|Za rfl<|Za rfl<|Zai rfl U80 rfl ho rfl<|Zan rfl<|aF<|Zae rfl (fun hc2=>?_) fun hc2=>?_
  ·have hk:k<((r.places.take i).foldl (fun o p=>kE p o) [[]]).length:=Yd
   obtain⟨t,ht⟩:=cT ((r.places.take i).foldl (fun o p=>kE p o) [[]]) k;have htl:=XG hok (n5 ht);refine aQ<|Za3<|Za1<|aA<|Zf rfl<|aF<|Za1<|gT (γ:=Nat×Γ×List Γ×aD×aC) (fun g=>2-g.1) (fun g=>g.1≤2∧bI 25 1 g.2.1 g.2.2.1.length g.2.2.1 g.2.2.2.1∧LA g.2.2.2.2 g.2.2.1 (kE p (((r.places.take i).foldl (fun o p=>kE p o) [[]]).take k)++I7 p t g.1)) (fun g=>[(7,qI (g.1:Int)),(5,g.2.1)]) [(20,_),(19,_),(18,_),(17,_),(6,_),(14,_),(13,_),(12,_),(11,_),(10,_),(4,_),(3,_),(2,_),(1,_)] (fun g=>g.2.2.2.1++[]) (fun g=>[g.2.2.2.2,Do,E1,D]) (0,v,vs,ν,Dn) ⟨Yf,ha,by simpa [I7]using hla⟩ ⟨Ya,Ya,bSM⟩ cF Mm5 (Yx) ?_;rintro⟨m,v,vs,ν,Dn⟩ ⟨h3,ha,hla⟩;simp only at h3 ha hla;have hvl:=hla.len;have hsl:=aTT p ((r.places.take i).foldl (fun o p=>kE p o) [[]]) k t m;refine bZ<|Za rfl<|gJ rfl rfl rfl rfl bSM<|aF<|Zae rfl (fun hc3=>?_) fun hc3=>?_
   ·have hm:m<2:=Yd
    refine aQ<|Za3<|Za1<|aA<|Zj rfl jL rfl<|Zh 0 rfl cD rfl Y rfl<|Za rfl<|iW rfl hp rfl hx fun b1 o1=>Waw ?_;refine' dL 8 (s:=33) (p:=41) rfl (fun hJ=>?_) (fun hJ=>?_) ?_;rotate_left
    ·refine Zk rfl jL rfl<|Zi 0 rfl cD rfl Y rfl<|Zb rfl<|dW rfl U25 aH rfl hp rfl Yd hx rfl ⟨_,rfl,rfl⟩ fun b2 o2 hK hN hcl2 hO=>?_;obtain rfl:hK=[qI _]:=hN;refine Zi 0 rfl aI rfl hO rfl<|Zb rfl<|Wbk ?_;exact aN 7
    ·refine Waq ?_;exact aN 7
    refine aF<|Zaf rfl (fun hc4=>?_) fun hc4=>?_
    ·have hpm:p=2∨p=(m:Int):=Xah
     refine aO<|Za rfl<|Zt rfl U25 aH cE rfl .nil fun b903 D903 hP hR=>Za rfl<|Za rfl<|Zx rfl U80 fR rfl ho rfl ht fun b3 o3 cs3 hS hcl3 hX=>?_;obtain⟨w3,rfl,hY⟩:=hS;refine Zh 0 rfl cD rfl hX rfl<|aV (([]:aD)++[]++(ν++[])) rfl<|aS (A:=[]) (ν:=[]) (B:=ν++[]) rfl U25 rfl rfl aH cE rfl kD rfl rfl rfl bI.nil (jY.ints hY) Yf Yf rfl (dP _) Yd (bNI rfl) rfl bSM fun v8 ν8 rA=>Za rfl<|Zt rfl U25 aH cE rfl (.cons rfl rfl .nil) fun b904 D904 rB I=>?_;have hS904:=Sl.ofInts (l:=[_]) (n:=1) (cap:=1) I rfl Yd Yd;refine aS (A:=[]) (B:=ν++[]) rfl U25 rfl rfl aH cE rfl kD rfl rfl rfl rA (jY.lit I) Yf rfl Yf Yk Yd (bNI rfl) rfl bSM fun v9 ν9 hB=>?_;have ha9':bI 3 1 v9 (t.length+1) (ints (t++[(m:Int)])) ν9:=by rw[←eV,show ints [(m:Int)]=[qI (m:Int)]from rfl];simpa using hB
     refine HH (A:=[]) (B:=ν++[]) ha9' rfl fun D9 hD9 hF9=>?_;have hw9:=hF9.ints Yf Yd;refine Zt rfl U80 fR vE rfl (.cons hB.cells1 rfl .nil) (fun b905 U O hE=>aS (A:=[]) (B:=[]) rfl U80 rfl rfl fR vE rfl QI rfl rfl rfl ha (jY.lit hE) Yf rfl Yf (by simpa using hB.cell1) Yd (bNI rfl) rfl bSM fun v7 ν7 ha7=>?_);have V:=(hla.up (O Dn Yf)).snoc (hw9.up RI.up (O D9 Yf));rw[bND,←UO hpm]at V;refine Wu ?_;exact aL 28 (m+1,v7,vs++[v9],ν7,U) ⟨Yn,by simpa using ha7,V⟩ Yn ⟨Ya,Ya,bSM⟩ rfl rfl Mm5 ((fun D0 h=>by simp only[LT,n4,bOZ]at h;rcases h with h|h|h|h;exact⟨U,Yf,h▸Le.refl _⟩;exact⟨Do,Yf,h▸Le.refl _⟩;exact⟨E1,Yf,h▸Le.refl _⟩;exact⟨D,Yf,h▸Le.refl _⟩))
    ·have hpm:¬(p=2∨p=(m:Int)):=Xah
     refine Wch ?_;exact aL 15 (m+1,v,vs,ν,Dn) ⟨Yn,ha,by simp only;rw[aBW hpm];exact hla⟩ Yn ⟨Ya,Ya,bSM⟩ rfl rfl Mm5 (Yx)
   ·obtain rfl:m=2:=Yd
    refine Wbp ?_;exact aL 12 (k+1,v,vs,ν,Dn) ⟨Yn,ha,by simp only;rw[aBI ht];exact hla⟩ Yn ⟨Ya,Ya,bSM⟩ rfl rfl Mm5 (Yx)
  ·obtain rfl:k=((r.places.take i).foldl (fun o p=>kE p o) [[]]).length:=Yd
   rw[bNR]at hla;refine Za6<|Za2<|Za2<|Za7<|Zaz<|sN (A:=[]) (B:=[]) ha rfl fun D8 hD8 hF8=>?_;have hs8:=hF8.lists hla (hD8 Dn Yf) (by have:=MB p ((r.places.take i).foldl (fun o p=>kE p o) [[]]);omega)
   refine aO<|Za rfl<|Wu ?_;exact aL 18 (i+1,v,D8) ⟨Yn,by simp only;rw[YR hx];exact hs8⟩ Yn ⟨Ya,Ya,bSM⟩ rfl rfl Mm5 fun D0 h=>by simp only[LT,n4,bOZ]at h;rcases h with h|h|h;exact⟨D8,Yf,h▸Le.refl _⟩;exact⟨E1,Yf,h▸Le.refl _⟩;exact⟨D,Yf,h▸Le.refl _⟩
 ·obtain rfl:i=r.places.length:=Yd
  rw[bNR,X7]at ho;refine Wm ?_;exact aE rfl fun D hD=>ho.up RL.up (hD _ Yf)
theorem aWF{r:dH}(hok:mM r):(cB r.places).length≤512:=by
 have h1:=sS r.places;have h3:2^r.places.length≤2^9:=bOW Yd hok.len9;omega
theorem FZ{α:Type}{l:List α}{p:α→Bool}{k:Nat}{x:α}(hx:l[k]?= some x)(h:p x=true):(l.take (k+1)).filter p=(l.take k).filter p++[x]:=by
 rw[bMZ,hx,bNU,bOE,bPP,bNK h];rfl
theorem PP{α:Type}{l:List α}{p:α→Bool}{k:Nat}{x:α}(hx:l[k]?= some x)(h:p x=false):(l.take (k+1)).filter p=(l.take k).filter p:=by
 rw[bMZ,hx,bNU,bOE,bPP,bNA (by simp[h])];simp
theorem NS{r:dH}{t:List Int}(h:t∈cB r.places):eJ r t=true:=by
 have key:∀(l t:List Int),t∈cB l→(t.length==l.length)=true∧((t.zip l).all fun x=>qZ x.1 x.2)=true:=by
  intro l;induction l with
  |nil=>intro t h;simp[cB]at h;subst h;simp
  |cons p ps ih=>
   intro t h;simp only[cB,bNH]at h;rcases h with h|h
   ·split at h
    ·rename_i hp;obtain⟨u,hu,rfl⟩:=bMR.1 h;obtain⟨h1,h2⟩:=ih u hu;refine⟨Xae,?_⟩;rw[bQO,bQU,h2];rcases hp with rfl|rfl<;>rfl
    ·simp at h
   ·split at h
    ·rename_i hp;obtain⟨u,hu,rfl⟩:=bMR.1 h;obtain⟨h1,h2⟩:=ih u hu;refine⟨Xae,?_⟩;rw[bQO,bQU,h2];rcases hp with rfl|rfl<;>rfl
    ·simp at h
 obtain⟨h1,h2⟩:=key r.places t h;unfold eJ;rw[h1,h2];rfl
theorem aKW{r:dH}{t:List Int}(_hm:t∈cB r.places)(h:(eJ r t&&fits r t)=true):fits r t=true:=(Bool.and_eq_true_iff.1 h).2
theorem aIM{r:dH}{t:List Int}(hm:t∈cB r.places)(_hok:mM r)(h:(eJ r t&&fits r t)=false):fits r t=false:=by
 rw[NS hm]at h;simpa using h
theorem aKG(rv:Γ)(r:dH)(D:aC)(hr:oG D rv r)(hok:mM r):Fn prog 21 #[rv] D (fun D' v=>Sl D' RL 1 v (truths r)):=by
 have U:=hr;obtain⟨pv,cv,rfl,hp,hc⟩:=hr;have hal:=aWF hok;refine Zw 28 func21 rfl fun h0=>aA<|Zz rfl fun q1 E1 rA V=>Zf rfl<|aJ<|Zf rfl<|aJ<|Zv rfl DY rfl V V9<|Zy rfl (fun Z Y=>ZC _ r _ (U.up (Y _ Yf)) hok) fun v1 Z Y hB=>?_;have hS:=hB;refine Zf rfl<|bC<|Zf rfl<|aF<|Za1<|Zc (Nat×Γ×List Γ×aD) (fun g=>(cB r.places).length-g.1) (fun g=>g.1≤(cB r.places).length∧bI 25 1 g.2.1 g.2.2.1.length g.2.2.1 g.2.2.2∧LA Z g.2.2.1 (((cB r.places).take g.1).filter (fits r))) (fun g=>[(5,qI (g.1:Int)),(3,g.2.1)]) [(4,_),(2,_),(1,_)] (fun g=>g.2.2.2++[]) (fun g=>[Z,E1,D]) (0,qN,[],[]) ⟨Yf,Xba,by simpa using LA.nil⟩ ⟨Ya,Ya,bSM⟩ Mm5 ?_;rintro⟨k,v,vs,ν⟩ ⟨h1,ha,hla⟩;simp only at h1 ha hla;have hvl:=hla.len;have hfl:=bOJ (fits r) ((cB r.places).take k);have htk:((cB r.places).take k).length≤k:=bPW _ _;refine bZ<|Za rfl<|Za rfl<|Zai rfl U80 rfl hS rfl<|Zan rfl<|aF<|Zae rfl (fun hc1=>?_) fun hc1=>?_
 ·have hk:k<(cB r.places).length:=Yd
  obtain⟨t,ht⟩:=cT (cB r.places) k;have htm:=n5 ht;have htr:oR r t:=qF htm;refine aQ<|Za3<|Za1<|Za3<|bN [] 3 6 30<|Zv rfl DY rfl V V9<|Za rfl<|Za rfl<|Zx rfl U80 fR rfl hS rfl ht fun b1 o1 rB hE hP hH=>?_;obtain⟨w1,rfl,hI⟩:=hE;refine Zh 0 rfl cD rfl hH rfl<|Zd rfl (fun D2 I=>QL _ _ r t _ (U.up (I _ Yf)) (hI.up RI.up (I _ Yf)) hok)<|aF<|Zaf rfl (fun hc2=>?_) fun hc2=>?_
  ·have hfy:=(aKW htm hc2)
   refine aO<|Za rfl<|Za rfl<|Za rfl<|Zx rfl U80 fR rfl hS rfl ht fun b2 o2 cs2 hJ hR hK=>?_;obtain⟨w2,rfl,O⟩:=hJ;refine Zh 0 rfl cD rfl hK rfl<|Zt rfl U80 fR vE rfl (.cons O.cells1 rfl .nil) (fun hX hY hN R=>aS (A:=[]) (B:=_) rfl U80 rfl rfl fR vE rfl QI rfl rfl rfl ha (jY.lit R) Yf rfl Yf (by simpa using O.cell1) Yd (bNI rfl) rfl bSM fun v1 ν1 hO=>Wu ?_);exact aL 23 (k+1,v1,vs++[w2],ν1) ⟨Yn,by simpa using hO,by simp only;rw[FZ ht hfy];exact hla.snoc O⟩ Yn ⟨Ya,Ya,bSM⟩ rfl rfl Mm5 fun D h=>⟨D,bNM _ (h),Le.refl D⟩
  ·have hfn:=aIM htm hok hc2;refine Wch ?_;exact aL 15 (k+1,v,vs,ν) ⟨Yn,ha,by simp only;rw[PP ht hfn];exact hla⟩ Yn ⟨Ya,Ya,bSM⟩ rfl rfl Mm5 (aK)
 ·obtain rfl:k=(cB r.places).length:=Yd
  rw[bNR]at hla;refine Za6<|Za2<|Za2<|Za7<|Zaz<|aA<|Za rfl<|Zf rfl<|aG<|dS (A:=[]) (B:=[]) ha rfl fun D2 I hF=>?_;exact aE rfl fun D' hD=>(hF.lists hla (I _ Yf) (by have:=bOJ (fits r) (cB r.places);omega)).up RL.up (hD _ Yf)
end L1
namespace L2
open L1
open C2
open C1 (hC bS tG rK)
structure T3(t:aX):Prop where
 len:t.heights.length=4
 hts:∀r∈t.heights,0≤r.1∧r.1≤r.2∧r.2≤99∧r.2≤r.1+2
 step:0≤t.step∧t.step≤99
 mks:t.marks.length≤5
 mark:∀m∈t.marks,0≤m.frm∧m.frm≤m.to∧m.to≤3
theorem bHJ{q:Nat}{o:Obj}{ν B:aD}(h:(List.map (fun p=>p.1) ((q,o)::(ν++B))).Nodup):∀p∈ν,p.1∉[q]:=by
 intro p hp hm;obtain rfl:p.1=q:=Xas
 exact(bOT.1 h).1 (bMR.2 ⟨p,bNE _ hp,rfl⟩)
def G4(r:Int×Int):Nat:=(r.2-r.1+1).toNat
theorem QK{r:Int×Int}(h:0≤r.1∧r.1≤r.2∧r.2≤99∧r.2≤r.1+2):((G4 r:Nat):Int)=r.2-r.1+1:=by unfold G4;omega
def pS:List (Int×Int)→Nat
 | []=>1
 |r::rs=>G4 r*pS rs
def rZ:List (Int×Int)→Nat→List Int
 | [],_=>[]
 |r::rs,n=>(r.1+((n%G4 r:Nat):Int))::rZ rs (n / G4 r)
def nC(step:Int):Option Int→List Int→Bool
 |_,[]=>true
 |p,n::l=>lJ step p n&&nC step (some n) l
def aLZ:List (Int×Int)→List Int→Prop
 | [],[]=>True
 |r::rs,x::l=>(r.1≤x∧x≤r.2)∧aLZ rs l
 |_,_=>False
theorem ZJ{rs:List (Int×Int)}{k:Nat}{r:Int×Int}(h:rs[k]?= some r):pS (rs.drop k)=G4 r*pS (rs.drop (k+1)):=by
 obtain⟨hk,rfl⟩:=bMW.1 h;rw[bOF hk];rfl
theorem aKL{rs:List (Int×Int)}{k n:Nat}{r:Int×Int}(h:rs[k]?= some r):rZ (rs.drop k) n=[r.1+((n%G4 r:Nat):Int)]++rZ (rs.drop (k+1)) (n / G4 r):=by
 obtain⟨hk,rfl⟩:=bMW.1 h;rw[bOF hk];rfl
theorem bBL{k:Nat}(h:k≤4):3^k≤81:=bOW (n:=3) Yt h
theorem aKD{m k s:Nat}(h:m≤3^k)(hs:s≤3):m*s≤3^(k+1):=by rw[Nat.pow_succ];exact bRR h hs
theorem aOX{step:Int}{l:List Int}(h:1≤l.length):nC step none l=nC step (l[1-1]?) (l.drop 1):=by
 match l,h with
 |x::l,_=>rfl
theorem LK{step z x:Int}{l:List Int}{k:Nat}(hz:l[((k:Int)-1).toNat]?= some z)(hx:l[(k:Int).toNat]?= some x)(h1:1≤k):nC step (l[k-1]?) (l.drop k)=(lJ step (some z) x&&nC step (l[k]?) (l.drop (k+1))):=by
 rw[show((k:Int)-1).toNat=k-1 by omega]at hz;rw[bOI]at hx;obtain⟨hk,rfl⟩:=bMW.1 hx;rw[hz,hx,bOF hk];rfl
theorem Y3:∀{rs:List (Int×Int)} {l:List Int},aLZ rs l→l.length=rs.length
 | [],[],_=>rfl
 |_::_,_::_,h=>by rw[bMX,bMX,Y3 h.2]
theorem XY:∀{rs:List (Int×Int)} {l:List Int} {k:Nat} {x:Int} {r:Int×Int},aLZ rs l→l[k]?= some x→rs[k]?= some r→r.1≤x∧x≤r.2
 | [],[],_,_,_,_,h,_=>by simp at h
 |_::_,_::_,0,_,_,h,h1,h2=>by
  simp only[List.getElem?_cons_zero,bRG]at h1 h2;subst h1;subst h2;exact h.1
 |_::_,_::_,k+1,_,_,h,h1,h2=>XY (k:=k) h.2 Xae Xai
theorem y0{t:aX}(h4:T3 t){l:List Int}(h:aLZ t.heights l):∀x∈l,0≤x∧x≤99:=fun x hx=>by
 obtain⟨k,hk,rfl⟩:=List.getElem_of_mem hx;have hl:=Y3 h;have h1:=XY h (bMU hk) (bMU Yd);have h2:=h4.hts _ (List.getElem_mem (show k<t.heights.length by omega));omega
theorem aDQ:∀{rs:List (Int×Int)},(∀r∈rs,G4 r≤3)→pS rs≤3^rs.length
 | [],_=>bNJ _
 |r::rs,h=>by
  rw[pS,bMX,Nat.pow_succ,Nat.mul_comm];exact bRR (aDQ fun q hq=>h q (bMT _ hq)) (h r bMV)
theorem SW{t:aX}(h4:T3 t):pS t.heights≤81:=by
 have:=aDQ (rs:=t.heights) fun r hr=>by have h1:=h4.hts r hr;have:=QK h1;omega
 rw[h4.len]at this;exact this
theorem aQA:∀{rs:List (Int×Int)} {n:Nat},(∀r∈rs,r.1≤r.2)→aLZ rs (rZ rs n)
 | [],_,_=>trivial
 |r::rs,n,h=>by
  have h1:=h r bMV;have:n%G4 r<G4 r:=Nat.mod_lt _ (by unfold G4;omega)
  exact⟨by unfold G4 at this ⊢;omega,aQA fun q hq=>h q (bMT _ hq)⟩
theorem aFV{t:aX}(h4:T3 t){n:Nat}(_:n<pS t.heights):aLZ t.heights (rZ t.heights n):=aQA fun r hr=>(h4.hts r hr).2.1
def A7(t:aX)(k:Nat):List (List Int):=((List.range k).map (rZ t.heights)).filter (nC t.step none)
def nV(t:aX):List (List Int):=A7 t (pS t.heights)
def PH(t:aX):List (List Int):=(nV t).filter (iA t)
theorem FG(t:aX)(k:Nat):(A7 t k).length≤k:=by
 have:=bOJ (nC t.step none) ((List.range k).map (rZ t.heights));rw[bOB,bQW]at this;exact this
theorem YH{t:aX}{k:Nat}(h:nC t.step none (rZ t.heights k)=true):A7 t (k+1)=A7 t k++[rZ t.heights k]:=by
 unfold A7;rw[bOG,bNG,bOE];simp[h]
theorem aLC{t:aX}{k:Nat}(h:nC t.step none (rZ t.heights k)=false):A7 t (k+1)=A7 t k:=by
 unfold A7;rw[bOG,bNG,bOE];simp[h]
theorem MI{t:aX}(h4:T3 t){l:List Int}(h:l∈nV t):aLZ t.heights l∧nC t.step none l=true:=by
 obtain⟨h1,h2⟩:=bQF.1 h;obtain⟨n,hn,rfl⟩:=bMR.1 h1;exact⟨aFV h4 (bOQ.1 hn),h2⟩
theorem FZ{α:Type}{l:List α}{p:α→Bool}{k:Nat}{x:α}(hx:l[k]?= some x)(h:p x=true):(l.take (k+1)).filter p=(l.take k).filter p++[x]:=by
 rw[bMZ,hx,bNU,bOE,bPP,bNK h];rfl
theorem PP{α:Type}{l:List α}{p:α→Bool}{k:Nat}{x:α}(hx:l[k]?= some x)(h:p x=false):(l.take (k+1)).filter p=(l.take k).filter p:=by
 rw[bMZ,hx,bNU,bOE,bPP,bNA Xaj];simp
theorem aGS{α:Type}{l:List α}{p:α→Bool}{x:α}(hx:x∈l)(h:p x=false):l.all p=false:=by
 rw[bSA];exact⟨x,hx,by simp[h]⟩
theorem aHD{step z x:Int}{l:List Int}{k:Nat}(hz:l[((k:Int)-1).toNat]?= some z)(hx:l[(k:Int).toNat]?= some x)(h:x-z≤step∧z-x≤step)(h1:1≤k:=by omega):nC step (l[k-1]?) (l.drop k)=nC step (l[k]?) (l.drop (k+1)):=by
 rw[LK hz hx h1];have e:lJ step (some z) x=true:=bS.2 Yd;rw[e,bQZ]
theorem aWH{step z x:Int}{l:List Int}{k:Nat}(hz:l[((k:Int)-1).toNat]?= some z)(hx:l[(k:Int).toNat]?= some x)(h:step<x-z∨step<z-x)(h1:1≤k:=by omega):nC step (l[k-1]?) (l.drop k)=false:=by
 rw[LK hz hx h1];have e:lJ step (some z) x=false:=by
  rw[←Bool.not_eq_true];intro e
  have:=bS.1 e;omega
 rw[e,Bool.false_and]
theorem aWN{l:List Int}{a k:Nat}{x x0:Int}(hx:l[((a:Int)+k).toNat]?= some x):((l.drop a).take (k+1)).foldl max x0=max (((l.drop a).take k).foldl max x0) x:=by
 rw[show((a:Int)+k).toNat=a+k by omega]at hx;rw[bMZ,bPC,hx,bNU,bOR];rfl
theorem bBU{l:List Int}{a:Nat}{b x0:Int}(hx:l[(a:Int).toNat]?= some x0)(h:(a:Int)≤b):((l.drop a).take (b+1-a).toNat).foldl max x0=jQ l a b:=by
 rw[bOI]at hx;obtain⟨hk,rfl⟩:=bMW.1 hx;unfold jQ;rw[bOI,bOF hk,show(b+1-(a:Int)).toNat=(b-a).toNat+1 by omega,bRX,bNX,Int.max_self];rfl
theorem aTJ(n lo hi:Int)(D:aC):Fn prog 323 #[qI n,qI lo,qI hi] D (fun _ v=>v=.bool (hC n lo hi)):=by
 refine Zw 15 func323 rfl fun h0=>Wbm ?_;refine' bX 4 (s:=10) (p:=14) rfl (fun I=>?_) (fun I=>?_) ?_;rotate_left
 ·refine Wbh ?_;exact aN 3
 ·refine Wc ?_;exact aN 3
 refine We ?_;exact aE rfl fun D hD=>rfl
theorem HC(r:Int×Int)(h:0≤r.1∧r.1≤r.2∧r.2≤99∧r.2≤r.1+2)(D:aC):Fn prog 322 #[mH r] D (fun _ v=>v=qI ((G4 r:Nat):Int)):=by
 refine Zw 9 func322 rfl fun h0=>aA<|Zz rfl fun q1 E1 O I=>Zf rfl<|aJ<|Zj rfl t6 rfl<|Zh 1 rfl aI rfl I rfl<|Zj rfl O6 rfl<|Zh 0 rfl aI rfl I rfl<|Zav rfl<|Zad rfl<|Zf rfl ?_;refine aG ?_;exact aE rfl fun D hD=>by rw[QK h];rfl
theorem N5(tv:Γ)(t:aX)(D:aC)(ht:gN D tv t)(h4:T3 t):Fn prog 229 #[tv] D (fun _ v=>v=qI ((pS t.heights:Nat):Int)):=by
 have ht0:=ht;obtain⟨hv,lv,mv,rfl,hh,hl,hm⟩:=ht;have hlen:=h4.len;refine Zw 22 func229 rfl fun h0=>aA<|Zz rfl fun q1 E1 hE I=>Zf rfl<|aJ<|Zf rfl<|bC<|Zf rfl<|aF<|Za1<|bM (γ:=Nat×Nat) (fun g=>t.heights.length-g.1) (fun g=>g.1≤t.heights.length∧g.2≤3^g.1∧g.2*pS (t.heights.drop g.1)=pS t.heights) (fun g=>[(4,qI (g.1:Int)),(3,qI (g.2:Int))]) [(2,_),(1,_)] (fun g=>[E1,D]) (0,1) ⟨Yf,Yf,Yf⟩ ⟨Ya,Ya,bSM⟩ cF (aK) ?_;rintro⟨k,m⟩ ⟨h1,h2,h3⟩;simp only at h1 h2 h3;refine bZ<|Za rfl<|Zj rfl mY rfl<|Zh 1 rfl xR rfl I rfl<|Zai rfl U53 rfl hh rfl<|Zan rfl<|aF<|Zae rfl (fun hc1=>?_) fun hc1=>?_
 ·simp only at hc1;have hk:k<t.heights.length:=Yd
  obtain⟨r,hr⟩:=cT t.heights k;have O:=h4.hts r (n5 hr);have hs9:=QK O;have R:=aKD h2 (show G4 r≤3 by omega);have U:=bBL (show k+1≤4 by omega);have hmm:(m:Int)*((G4 r:Nat):Int)=((m*G4 r:Nat):Int):=by rw[Int.natCast_mul]
  have hmx:m*G4 r≤81:=bPD R U;refine aQ<|Za3<|Za1<|aO<|Za rfl<|Zj rfl mY rfl<|Zh 1 rfl xR rfl I rfl<|Za rfl<|Zx rfl U53 mF rfl hh rfl hr fun b1 o1 V Y hB Z=>?_;obtain rfl:V=[qI _,qI _]:=Y;refine Zv rfl CP rfl Z mF<|Zd rfl (fun D1 hF=>HC r O _)<|F9 rfl rfl rfl Ye rfl bSM<|NT rfl rfl rfl rfl bSM<|Zf rfl<|Zao<|Za4<|Zaz<|aO<|Za rfl<|Zad rfl<|Zf rfl ?_;refine Zao ?_;exact aL 20 (k+1,m*G4 r) ⟨Yn,R,by simp only;rw[←h3,ZJ hr,Nat.mul_assoc]⟩ Yn ⟨Ya,Ya8,bSM⟩ rfl rfl Mm5 (aK)
 ·obtain rfl:k=t.heights.length:=by simp only at hc1;omega
  refine Wm ?_;exact aE rfl fun D hD=>by rw[←h3,bSK];show Value.int _ _=_;rw[pS,bPK]
theorem bAR(tv:Γ)(t:aX)(n:Nat)(D:aC)(ht:gN D tv t)(h4:T3 t)(hn:n≤100000):Fn prog 230 #[tv,qI (n:Int)] D (fun D' v=>Sl D' RI 1 v (rZ t.heights n)):=by
 have ht0:=ht;obtain⟨hv,lv,mv,rfl,hh,hl,hm⟩:=ht;have hlen:=h4.len;refine Zw 35 func230 rfl fun h0=>aA<|Zz rfl fun q1 E1 hP R=>Zf rfl<|aJ<|Zf rfl<|bC<|Zf rfl<|aF<|Za1<|Zc (Nat×List Int×Nat×Γ×aD) (fun g=>t.heights.length-g.1) (fun g=>g.1≤t.heights.length∧g.2.1.length=g.1∧g.2.2.1≤100000∧rZ t.heights n=g.2.1++rZ (t.heights.drop g.1) g.2.2.1∧bI 3 1 g.2.2.2.1 g.1 (ints g.2.1) g.2.2.2.2) (fun g=>[(6,qI (g.1:Int)),(5,g.2.2.2.1),(1,qI (g.2.2.1:Int))]) [(4,_),(2,_)] (fun g=>g.2.2.2.2++[]) (fun g=>[E1,D]) (0,[],n,qN,[]) ⟨Yf,rfl,hn,rfl,Xap⟩ ⟨Ya,Ya,Ya,bSM⟩ Mm5 ?_;rintro⟨k,out,p,v,ν⟩ ⟨h0x,h1,h2,h3,ha⟩;simp only at h0x h1 h2 h3 ha;refine bZ<|Za rfl<|Zj rfl mY rfl<|Zh 1 rfl xR rfl R rfl<|Zai rfl U53 rfl hh rfl<|Zan rfl<|aF<|Zae rfl (fun hc1=>?_) fun hc1=>?_
 ·simp only at hc1;have hk:k<t.heights.length:=Yd
  obtain⟨r,hr⟩:=cT t.heights k;have O:=h4.hts r (n5 hr);have hs9:=QK O;have hmd:(p:Int)%((G4 r:Nat):Int)=((p%G4 r:Nat):Int):=rfl;obtain⟨d,hd⟩:∃d,p / G4 r=d:=⟨_,rfl⟩
  have hdv:(p:Int) / ((G4 r:Nat):Int)=(d:Int):=by rw[←hd];rfl
  have hml:p%G4 r<G4 r:=Nat.mod_lt _ Yd;have hdl:d≤p:=by rw[←hd];exact Nat.div_le_self _ _
  refine aQ<|Za3<|Za1<|aA<|Zj rfl mY rfl<|Zh 1 rfl xR rfl R rfl<|Za rfl<|Zx rfl U53 mF rfl hh rfl hr fun b1 o1 U V hK Y=>?_;obtain rfl:U=[qI _,qI _]:=V;refine Zv rfl CP rfl Y mF<|Zah rfl tT rfl fun Z=>eF rfl rfl rfl rfl mF Yb Yb ζ Yk bSM<|aF<|pF fun hnd=>?_;have hnu:=bHJ hnd;have hqo:Z∉cZ.mk [Z]:=cZ.out Yf;refine iZ (cZ.mk [Z]) 6 [0,1,2,3,4,10,11,5,6,7,8,9,12,13,14,15] [false,true,true,true,true,true,true,true,true,true,true,true,true,false,true,false] [(false,0),(true,1),(true,2),(true,3),(true,4),(true,10),(true,11),(true,5),(true,6),(true,7),(true,8),(true,9),(true,12),(false,13),(true,14),(false,15)] bB (fun _ _ _ h=>fW (P:=prog) (fn:=f230) _ _ _ h) Yg rfl<|Za rfl<|Zj rfl O6 rfl<|bD rfl aI rfl Mm0 rfl Yl rfl bSM<|Za rfl<|bL rfl CP rfl Mm0 mF Yl rfl bSM<|Za rfl<|bL rfl CP rfl Mm0 mF Yl rfl bSM<|Zd rfl (fun D1 hR=>HC r O _)<|sQ rfl rfl rfl Yd Yd (by rw[hmd];simp only[wD];omega) rfl bSM ?_
  rw[hmd];refine Zad rfl<|Zt rfl U25 aH cE rfl (.cons rfl rfl .nil) fun hN hO hB I=>?_;have hE:=Sl.ofInts (l:=[_]) (n:=1) (cap:=1) I rfl Yd Yd;refine aS (A:=[(_,_)]) (B:=[]) rfl U25 rfl rfl aH cE rfl kD rfl rfl rfl ha (jY.lit I) Yf rfl (by simp[ints,h1]) Yk Yd (bNC fun p hp=>cZ.in_ (hnu p hp)) rfl bSM fun v1 ν1 hH=>?_;have hI:bI 3 1 v1 (out.length+1) (ints (out++[r.1+((p%G4 r:Nat):Int)])) ν1:=by rw[←eV,h1];exact hH
  refine Zd rfl (fun D2 hJ=>HC r O _)<|j4 rfl rfl rfl Yd Yd (by rw[hdv];simp only[wD];omega) rfl bSM ?_;rw[hdv];refine Zf rfl<|Wu ?_;exact aL 33 (k+1,out++[r.1+((p%G4 r:Nat):Int)],d,v1,ν1) ⟨Yn,by simp[h1],Yn,by simp only;rw[h3,aKL hr,bND,hd],by simpa [h1]using hI⟩ Yn ⟨Ya,Ya,Ya,bSM⟩ rfl rfl (List.Sublist.cons _ Mm5) fun D h=>⟨D,bNM _ (h),Le.refl D⟩
 ·obtain rfl:k=t.heights.length:=by simp only at hc1;omega
  rw[bSK]at h3;refine Za6<|Za2<|Za2<|Za7<|Zaz<|aA<|Za rfl<|Zf rfl<|aG<|dS (A:=[]) (B:=[]) ha rfl fun D2 hJ hF=>?_;exact aE rfl fun D' hD=>by rw[h3,rZ,bNN];exact(hF.ints h1 Yd).up RI.up (hD _ Yf)
theorem WD(tv O:Γ)(t:aX)(l:List Int)(D:aC)(ht:gN D tv t)(I:Sl D RI 1 O l)(h4:T3 t)(h1:1≤l.length)(hb:∀x∈l,0≤x∧x≤99):Fn prog 231 #[tv,O] D (fun _ v=>v=.bool (nC t.step none l)):=by
 have ht0:=ht;obtain⟨hv,lv,mv,rfl,hh,hl,hm⟩:=ht;have hlen:=h4.len;have hs9:=h4.step;have hll:=I.len;refine Zw 40 func231 rfl fun h0=>aA<|Zz rfl fun q1 E1 hJ R=>Zf rfl<|bC<|Zf rfl<|aF<|Za1<|bM (γ:=Nat) (fun k=>l.length-k) (fun k=>1≤k∧k≤l.length∧nC t.step none l=nC t.step (l[k-1]?) (l.drop k)) (fun k=>[(5,qI (k:Int))]) [(4,_),(2,_),(1,_)] (fun k=>[E1,D]) 1 ⟨Yd,h1,aOX h1⟩ ⟨Ya,bSM⟩ cF (aK) ?_;rintro k ⟨h2,h3,h5⟩;refine bZ<|Za rfl<|Za rfl<|Zai rfl U25 rfl I rfl<|Zan rfl<|aF<|Zae rfl (fun hc1=>?_) fun hc1=>?_
 ·have hk:k<l.length:=Yd
  obtain⟨x,hx⟩:=cT l k;obtain⟨z,hz0⟩:=cT l (k-1);have hz:l[((k:Int)-1).toNat]?= some z:=by rw[show((k:Int)-1).toNat=k-1 by omega];exact hz0
  have hK:=hb x (n5 hx);have hN:=hb z (n5 hz);refine aQ<|Za3<|Za1<|Za3<|bN [] 7 28 58297842<|Za rfl<|Za rfl<|iW rfl I rfl hx fun b1 o1=>Za rfl<|Za rfl<|Zav rfl<|iW rfl I rfl hz fun b2 o2=>?_;refine Zav rfl<|Zj rfl HV rfl<|Zh 2 rfl aI rfl R rfl<|Was ?_;refine' dL 14 (s:=25) (p:=39) rfl (fun U=>?_) (fun U=>?_) ?_;rotate_left
  ·refine Zb rfl<|Zb rfl<|yP rfl rfl rfl Ye rfl ⟨_,rfl,rfl⟩<|dW rfl U25 aH rfl I rfl Yd hz rfl ⟨_,rfl,rfl⟩ fun b3 o3 V Y hH Z=>?_;obtain rfl:V=[qI _]:=Y;refine Zi 0 rfl aI rfl Z rfl<|Zb rfl<|Zb rfl<|dW rfl U25 aH rfl I rfl Yd hx rfl ⟨_,rfl,rfl⟩ fun b4 o4 hB hE hI hF=>?_;obtain rfl:hB=[qI _]:=hE;refine Zi 0 rfl aI rfl hF rfl<|yP rfl rfl rfl Ye rfl ⟨_,rfl,rfl⟩<|Zk rfl HV rfl<|Zi 2 rfl aI rfl R rfl<|Ww ?_;exact aN 13
  ·refine Wah ?_;refine Zg rfl<|Zak rfl ?_;exact aN 13
  refine aF<|Zaf rfl (fun hc2=>?_) fun hc2=>?_
  ·refine aA<|Wi ?_;exact aE rfl fun D hD=>by show Value.bool _=_;rw[h5,aWH hz hx Yav]
  ·refine Wch ?_;exact aL 23 (k+1) ⟨Yd,Yd,by rw[h5,aHD hz hx Yav];rfl⟩ Yd ⟨Ya,bSM⟩ rfl rfl Mm5 (aK)
 ·obtain rfl:k=l.length:=Yd
  refine Wl ?_;exact aE rfl fun D hD=>by show Value.bool _=_;rw[h5,bSK];rfl
theorem aXI(I:Γ)(l:List Int)(a b:Int)(D:aC)(O:Sl D RI 1 I l)(h4:l.length=4)(hab:0≤a∧a≤b∧b≤3):Fn prog 235 #[I,qI a,qI b] D (fun _ v=>v=qI (jQ l a b)):=by
 obtain⟨a0,rfl⟩:=Int.eq_ofNat_of_zero_le hab.1;obtain⟨x0,hx0⟩:∃x,l[a0]?= some x:=⟨_,bMU Yd⟩
 refine Zw 26 func235 rfl fun h0=>aA<|Zf rfl<|aJ<|Za rfl<|Za rfl<|iW rfl O rfl hx0 fun R U=>Zf rfl<|bC<|Za rfl<|Zf rfl<|aF ?_;refine Za1<|bM (γ:=Nat) (fun k=>(b+1-a0).toNat-k) (fun k=>(a0:Int)+k≤b+1) (fun k=>[(8,qI ((a0:Int)+k)),(7,qI (((l.drop a0).take k).foldl max x0))]) [(6,_),(0,_),(2,_)] (fun k=>[D]) 0 Yd ⟨Ya,Ya,bSM⟩ cF (aK) ?_;rintro k h1;refine bZ<|Za rfl<|Za rfl<|gJ rfl rfl rfl rfl bSM<|aF<|Zae rfl (fun hc1=>?_) fun hc1=>?_
 ·obtain⟨x,hx⟩:=cT l ((a0:Int)+k).toNat;refine aQ<|Za3<|Za1<|aO<|Za rfl<|Za rfl<|Za rfl<|iW rfl O rfl hx fun b2 V=>qW rfl rfl rfl rfl bSM<|Zf rfl<|Zao<|Za4 ?_;refine Zaz<|aO<|Za rfl<|Wbt ?_;exact Zn 15 (k+1) ⟨Ya,(by rw[aWN (a:=a0) (k:=k) hx];rfl),bSM⟩ rfl Mm5
 ·obtain rfl:k=(b+1-a0).toNat:=Yd
  refine Wm ?_;exact aE rfl fun D hD=>by show Value.int _ _=_;rw[bBU hx0 Yd]
theorem aJJ(O:Γ)(l:List Int)(m:Mk)(D:aC)(R:Sl D RI 1 O l)(h4:l.length=4)(hm:0≤m.frm∧m.frm≤m.to∧m.to≤3):Fn prog 233 #[O,bJH m] D (fun _ v=>v=.bool (hC (jQ l m.frm m.to) m.lo m.hi)):=by
 refine Zw 18 func233 rfl fun h0=>aA<|Zz rfl fun q1 E1 V I=>Zf rfl<|bO<|iZ [] 3 [0,1,2,3,4,6,7,8,9,10,11,5,12,13] [false,true,true,true,true,true,true,true,true,true,true,true,false,false] [(false,0),(true,1),(true,2),(true,3),(true,4),(true,6),(true,7),(true,8),(true,9),(true,10),(true,11),(true,5),(false,12),(false,13)] bB (fun _ _ _ h=>fW (P:=prog) (fn:=f233) _ _ _ h) Yg rfl<|Za rfl<|Zj rfl aIN rfl<|Zh 0 rfl aI rfl I rfl<|Zj rfl aMV rfl<|Zh 1 rfl aI rfl I rfl<|Zj rfl MM rfl ?_;refine Zj rfl O6 rfl<|Zh 2 rfl aI rfl I rfl<|Zj rfl MM rfl<|Zj rfl t6 rfl<|Zh 3 rfl aI rfl I rfl<|Zd rfl (fun Z U=>aXI _ l _ _ _ (R.up RI.up (U _ Yf)) h4 hm)<|Zd rfl (fun D2 Y=>aTJ _ _ _ _)<|We ?_;exact aE rfl fun D hD=>rfl
theorem OR(tv R:Γ)(t:aX)(l:List Int)(D:aC)(ht:gN D tv t)(O:Sl D RI 1 R l)(h4:T3 t)(hin:aLZ t.heights l)(hnr:nC t.step none l=true):Fn prog 232 #[tv,R] D (fun _ v=>v=.bool true):=by
 have ht0:=ht;obtain⟨hv,lv,mv,rfl,hh,hl,hm⟩:=ht;have hlen:=h4.len;have hll:=Y3 hin;have hlb:=y0 h4 hin;refine Zw 48 func232 rfl fun h0=>aA<|Zz rfl fun q1 E1 hN I=>Zf rfl<|bC<|Zf rfl<|aF<|Za1<|bM (γ:=Nat) (fun k=>l.length-k) (fun k=>k≤l.length) (fun k=>[(5,qI (k:Int))]) [(4,_),(2,_),(1,_)] (fun k=>[E1,D]) 0 Yd ⟨Ya,bSM⟩ cF (aK) ?_;rintro k h1;refine bZ<|Za rfl<|Za rfl<|Zai rfl U25 rfl O rfl<|Wcb ?_;refine' bX 6 (s:=10) (p:=16) rfl (fun V=>?_) (fun V=>?_) ?_;rotate_left
 ·refine Zb rfl<|Zk rfl mY rfl<|Zi 1 rfl xR rfl I rfl<|eE rfl U53 rfl hh rfl rfl ⟨_,rfl,rfl⟩<|GV rfl rfl rfl rfl ⟨_,rfl,rfl⟩<|Zak rfl ?_;exact aN 5
 ·refine Wo ?_;exact aN 5
 refine aF<|Zaf rfl (fun hc1=>?_) fun hc1=>?_
 ·have hk:k<l.length:=by have h9:=hc1;simp only[bMS,GT]at h9;omega
  obtain⟨x,hx⟩:=cT l k;obtain⟨r,hr⟩:=cT t.heights k;have hxr:=XY hin hx hr;refine aQ<|Za3<|Za1<|Za3<|bN [] 6 18 65522<|Za rfl<|Za rfl<|iW rfl O rfl hx fun b1 o1=>Zj rfl mY rfl<|Zh 1 rfl xR rfl I rfl<|Za rfl<|Zx rfl U53 mF rfl hh rfl hr fun b2 o2 Y Z hJ hB=>?_;obtain rfl:Y=[qI _,qI _]:=Z;refine Zj rfl O6 rfl<|Zh 0 rfl aI rfl hB rfl<|Zj rfl mY rfl<|Zh 1 rfl xR rfl I rfl<|Za rfl<|Zx rfl U53 mF rfl hh rfl hr fun b3 o3 hE hF hK hH=>?_;obtain rfl:hE=[qI _,qI _]:=hF;refine Zj rfl t6 rfl<|Zh 1 rfl aI rfl hH rfl<|Zd rfl (fun D1 hO=>aTJ _ _ _ _)<|Zat rfl<|aF<|Zaf rfl (fun hc2=>?_) fun hc2=>?_
  ·exact absurd hc2 (by rw[(C1.bS (n:=x)).2 hxr];simp)
  ·refine Wch ?_;exact Zn 28 (k+1) ⟨Ya,bSM⟩ rfl Mm5
 ·refine Za6<|Za2<|Za2<|Za7<|Zaz<|aA<|Za rfl<|Zai rfl U25 rfl O rfl<|Zj rfl mY rfl<|Zh 1 rfl xR rfl I rfl<|Zai rfl U53 rfl hh rfl<|Zas rfl ?_;refine Za rfl ?_;refine' bX 4 (s:=43) (p:=47) rfl (fun hI=>?_) (fun hI=>?_) ?_;rotate_left
  ·refine cK rfl zN rfl I Yc vV n4 rfl ⟨_,rfl,rfl⟩<|Zb rfl<|Ze rfl (fun D2 U=>WD _ _ t l _ (ht0.up (U _ Yf)) (O.up RI.up (U _ Yf)) h4 Yd hlb)<|Zak rfl ?_;exact aN 3
  ·refine Wc ?_;exact aN 3
  refine We ?_;exact aE rfl fun D hD=>by show Value.bool _=_;rw[hnr,hll];simp
theorem VB(tv O:Γ)(t:aX)(l:List Int)(D:aC)(ht:gN D tv t)(R:Sl D RI 1 O l)(h4:T3 t)(hin:aLZ t.heights l)(hnr:nC t.step none l=true):Fn prog 150 #[tv,O] D (fun _ v=>v=.bool (iA t l)):=by
 have ht0:=ht;obtain⟨hv,lv,mv,rfl,hh,hl,hm⟩:=ht;have hlen:=h4.len;have hll:=Y3 hin;have hlb:=y0 h4 hin;have hml:=h4.mks;refine Zw 25 func150 rfl fun h0=>aA<|Zz rfl fun q1 E1 hH I=>Zf rfl<|bC<|Zv rfl zN rfl I vV<|Za rfl<|Zd rfl (fun D1 U=>OR _ _ t l _ (ht0.up (U _ Yf)) (R.up RI.up (U _ Yf)) h4 hin hnr)<|Zat rfl<|aF<|Zaf rfl (fun hc1=>?_) fun hc1=>?_
 ·cases hc1
 ·refine aQ<|bZ<|Zf rfl<|aF<|Za1<|bM (γ:=Nat) (fun k=>t.marks.length-k) (fun k=>k≤t.marks.length∧(t.marks.take k).all (fun m=>hC (jQ l m.frm m.to) m.lo m.hi)=true) (fun k=>[(5,qI (k:Int))]) [(4,_),(2,_),(1,_)] (fun k=>[E1,D]) 0 ⟨Yd,rfl⟩ ⟨Ya,bSM⟩ cF (aK) ?_;rintro k ⟨h1,h2⟩;refine bZ<|Za rfl<|Zj rfl mQ rfl<|Zh 4 rfl H3 rfl I rfl<|Zai rfl U54 rfl hm rfl<|Zan rfl<|aF<|Zae rfl (fun hc2=>?_) (fun hc2=>?_)
  ·have hk:k<t.marks.length:=Yd
   obtain⟨x,hx⟩:=cT t.marks k;have V:=h4.mark x (n5 hx);refine aQ<|Za3<|Za1<|aA<|Za rfl<|Zj rfl mQ rfl<|Zh 4 rfl H3 rfl I rfl<|Za rfl<|Zx rfl U54 wG rfl hm rfl hx fun b1 o1 Y Z hF hB=>?_;obtain rfl:Y=[qI _,qI _,qI _,qI _]:=Z;refine Zv rfl bEJ rfl hB wG<|Zd rfl (fun D2 hE=>aJJ _ l x _ (R.up RI.up (hE _ Yf)) Yd V)<|Zat rfl<|aF<|Zaf rfl (fun hc3=>?_) fun hc3=>?_
   ·refine aA<|Wi ?_;exact aE rfl fun D hD=>by show Value.bool _=_;unfold iA;rw[aGS (n5 hx) Xac]
   ·refine Wch ?_;exact aL 17 (k+1) ⟨Yd,by rw[bMZ,hx,List.all_append,h2];simpa using hc3⟩ Yd ⟨Ya,bSM⟩ rfl rfl Mm5 (aK)
  ·obtain rfl:k=t.marks.length:=Yd
   rw[bNR]at h2;refine Wl ?_;exact aE rfl fun D hD=>by show Value.bool _=_;unfold iA;rw[h2]
theorem JH(tv:Γ)(t:aX)(D:aC)(ht:gN D tv t)(h4:T3 t):Fn prog 149 #[tv] D (fun D' v=>Sl D' RL 1 v (nV t)):=by
 have ht0:=ht;obtain⟨hv,lv,mv,rfl,hh,hl,hm⟩:=ht;have hlen:=h4.len;have hpr:=SW h4;refine Zw 23 func149 rfl fun h0=>aA<|Zz rfl fun q1 E1 hI U=>Zf rfl<|aJ<|Zf rfl<|bC<|Zf rfl<|aF<|Za1<|gT (γ:=Nat×Γ×List Γ×aD×aC) (fun g=>pS t.heights-g.1) (fun g=>g.1≤pS t.heights∧bI 25 1 g.2.1 g.2.2.1.length g.2.2.1 g.2.2.2.1∧LA g.2.2.2.2 g.2.2.1 (A7 t g.1)) (fun g=>[(4,qI (g.1:Int)),(3,g.2.1)]) [(2,_),(1,_)] (fun g=>g.2.2.2.1++[]) (fun g=>[g.2.2.2.2,E1,D]) (0,qN,[],[],D) ⟨Yf,Xba,LA.nil⟩ ⟨Ya,Ya,bSM⟩ cF Mm5 ((fun D0 h=>by simp only[LT,n4,bOZ]at h;rcases h with h|h|h;exact⟨D,Yf,h▸Le.refl _⟩;exact⟨E1,Yf,h▸Le.refl _⟩;exact⟨D,Yf,h▸Le.refl _⟩)) ?_
 rintro⟨k,v,vs,ν,Dn⟩ ⟨h1,ha,hla⟩;simp only at h1 ha hla;have hvl:=hla.len;have hkl:=FG t k;refine bZ<|Za rfl<|Zv rfl zN rfl U vV<|Zd rfl (fun D1 Z=>N5 _ t _ (ht0.up (Z _ Yf)) h4)<|Zan rfl<|aF<|Zae rfl (fun hc1=>?_) fun hc1=>?_
 ·have hk:k<pS t.heights:=by simp only at hc1;omega
  have hni:=aFV h4 hk;have hnl:=Y3 hni;have hnb:=y0 h4 hni;refine aQ<|Za3<|Za1<|aA<|Zv rfl zN rfl U vV<|Za rfl<|Zy rfl (fun D2 O=>bAR _ t k _ (ht0.up (O _ Yf)) h4 Yd) fun v2 D2 O hB=>?_;have hw:=hB;refine Zf rfl<|aJ<|Zv rfl zN rfl U vV<|Za rfl<|Zd rfl (fun D3 Y=>WD _ _ t (rZ t.heights k) _ (ht0.up (Y _ Yf)) (hw.up RI.up (Y _ Yf)) h4 Yd hnb)<|aF<|Zaf rfl (fun hc2=>?_) fun hc2=>?_
  ·refine aO<|Za rfl<|Za rfl<|Zt rfl U80 fR vE rfl (.cons hw.cells1 rfl .nil) (fun hH R I V=>aS (A:=[]) (B:=_) rfl U80 rfl rfl fR vE rfl QI rfl rfl rfl ha (jY.lit V) Yf rfl Yf (by simpa using hw.cell1) Yd (bNI rfl) rfl bSM fun v1 ν1 hE=>Zf rfl<|Zao<|Za4<|Zaz<|aO<|Za rfl<|Zad rfl ?_);refine Zf rfl<|Zao ?_;exact aL 21 (k+1,v1,vs++[v2],ν1,R) ⟨Yn,by simpa using hE,by simp only;rw[YH hc2];exact(hla.up (I Dn Yf)).snoc (hw.up RI.up (I _ Yf))⟩ Yn ⟨Ya,Ya,bSM⟩ rfl rfl Mm5 ((fun D0 h=>by simp only[LT,n4,bOZ]at h;rcases h with h|h|h;exact⟨R,Yf,h▸Le.refl _⟩;exact⟨E1,Yf,h▸Le.refl _⟩;exact⟨D,Yf,h▸Le.refl _⟩))
  ·refine Wch ?_;exact aL 16 (k+1,v,vs,ν,Dn) ⟨Yn,ha,by simp only;rw[aLC hc2];exact hla⟩ Yn ⟨Ya,Ya,bSM⟩ rfl rfl Mm5 (Yag)
 ·obtain rfl:k=pS t.heights:=by simp only at hc1;omega
  refine Za6<|Za2<|Za2<|Za7<|Zaz<|aA<|Za rfl<|Zf rfl<|aG<|dS (A:=[]) (B:=[]) ha rfl fun D2 O hF=>?_;exact aE rfl fun D' hD=>(hF.lists hla (O _ Yf) Yd).up RL.up (hD _ Yf)
theorem ZD(tv:Γ)(t:aX)(D:aC)(ht:gN D tv t)(h4:T3 t):Fn prog 76 #[tv] D (fun D' v=>Sl D' RL 1 v (PH t)):=by
 have ht0:=ht;obtain⟨hv,lv,mv,rfl,hh,hlv,hm⟩:=ht;have hpr:=SW h4;have hkl:=FG t (pS t.heights);refine Zw 28 func76 rfl fun h0=>aA<|Zz rfl fun q1 E1 hY U=>Zf rfl<|aJ<|Zf rfl<|aJ<|Zv rfl zN rfl U vV<|Zy rfl (fun Y V=>JH _ t _ (ht0.up (V _ Yf)) h4) fun v1 Y V Z=>?_;have hS:Sl Y RL 1 v1 (nV t):=Z;have hSl:(nV t).length≤81:=by have h9:=hkl;unfold nV;omega
 refine Zf rfl<|bC<|Zf rfl<|aF<|Za1<|Zc (Nat×Γ×List Γ×aD) (fun g=>(nV t).length-g.1) (fun g=>g.1≤(nV t).length∧bI 25 1 g.2.1 g.2.2.1.length g.2.2.1 g.2.2.2∧LA Y g.2.2.1 (((nV t).take g.1).filter (iA t))) (fun g=>[(5,qI (g.1:Int)),(3,g.2.1)]) [(4,_),(2,_),(1,_)] (fun g=>g.2.2.2++[]) (fun g=>[Y,E1,D]) (0,qN,[],[]) ⟨Yf,Xba,by simpa using LA.nil⟩ ⟨Ya,Ya,bSM⟩ Mm5 ?_;rintro⟨k,v,vs,ν⟩ ⟨h1,ha,hla⟩;simp only at h1 ha hla;have hvl:=hla.len;have hfl:=bOJ (iA t) ((nV t).take k);have htk:((nV t).take k).length≤k:=bPW _ _;refine bZ<|Za rfl<|Za rfl<|Zai rfl U80 rfl hS rfl<|Zan rfl<|aF<|Zae rfl (fun hc1=>?_) fun hc1=>?_
 ·have hk:k<(nV t).length:=Yd
  obtain⟨l,hl⟩:=cT (nV t) k;obtain⟨hin,hnr⟩:=MI h4 (n5 hl);refine aQ<|Za3<|Za1<|Za3<|bN [] 3 6 30<|Zv rfl zN rfl U vV<|Za rfl<|Za rfl<|Zx rfl U80 fR rfl hS rfl hl fun b1 o1 rA hB hO hE=>?_;obtain⟨w1,rfl,hH⟩:=hB;refine Zh 0 rfl cD rfl hE rfl<|Zd rfl (fun D2 I=>VB _ _ t l _ (ht0.up (I _ Yf)) (hH.up RI.up (I _ Yf)) h4 hin hnr)<|aF<|Zaf rfl (fun hc2=>?_) fun hc2=>?_
  ·refine aO<|Za rfl<|Za rfl<|Za rfl<|Zx rfl U80 fR rfl hS rfl hl fun b2 o2 rB hI hP hJ=>?_;obtain⟨w2,rfl,O⟩:=hI;refine Zh 0 rfl cD rfl hJ rfl<|Zt rfl U80 fR vE rfl (.cons O.cells1 rfl .nil) (fun hR hX hK R=>aS (A:=[]) (B:=_) rfl U80 rfl rfl fR vE rfl QI rfl rfl rfl ha (jY.lit R) Yf rfl Yf (by simpa using O.cell1) Yd (bNI rfl) rfl bSM fun v1 ν1 hN=>Wu ?_);exact aL 23 (k+1,v1,vs++[w2],ν1) ⟨Yn,by simpa using hN,by simp only;rw[FZ hl hc2];exact hla.snoc O⟩ Yn ⟨Ya,Ya,bSM⟩ rfl rfl Mm5 fun D h=>⟨D,bNM _ (h),Le.refl D⟩
  ·refine Wch ?_;exact aL 15 (k+1,v,vs,ν) ⟨Yn,ha,by simp only;rw[PP hl hc2];exact hla⟩ Yn ⟨Ya,Ya,bSM⟩ rfl rfl Mm5 (aK)
 ·obtain rfl:k=(nV t).length:=Yd
  rw[bNR]at hla;refine Za6<|Za2<|Za2<|Za7<|Zaz<|aA<|Za rfl<|Zf rfl<|aG<|dS (A:=[]) (B:=[]) ha rfl fun D2 I hF=>?_;exact aE rfl fun D' hD=>(hF.lists hla (I _ Yf) (by have:=bOJ (iA t) (nV t);omega)).up RL.up (hD _ Yf)
end L2
namespace L7
open C7
theorem aTS{l:List Int}{k u:Nat}{n:Int}(hn:l[k]?= some n)(h:n=2):((u+S8 (l.take (k+1)):Nat):Int)=((u+S8 (l.take k):Nat):Int)+1:=by
 rw[bMZ,hn];simp only[S8,bNU,bOE,LE];simp[h];omega
theorem bCP{l:List Int}{k u:Nat}{n:Int}(hn:l[k]?= some n)(h:¬n=2):((u+S8 (l.take (k+1)):Nat):Int)=((u+S8 (l.take k):Nat):Int):=by
 rw[bMZ,hn];simp only[S8,bNU,bOE,LE];simp[h]
theorem bLE(r:Int×Int):((decide (r.1<0)||decide (r.2<r.1))||decide (7<r.2))= !mJ r:=by
 unfold mJ;rw[bPT];simp only[bNZ,GT,bPQ,bRQ,bMY];omega
theorem aIS{p:Pt}(h:wT p):decide (p.a+p.b+p.c=3)=iE p:=by
 obtain⟨a,b,c⟩:=p;obtain⟨h1,h2,h3⟩:=h;unfold iE;rw[bPT];simp only[GT,Pt.mk.injEq]at *;omega
theorem TY{f:Int}{a b:Nat}{p q:Pt}{x1 x2:Ch}(hp:wT p)(hq:wT q):
  (((((((decide ((a:Int)≠b)&& !iE p)&& !iE q)&&decide (x1.size-x2.size≤f))&&decide (-(x1.size-x2.size)≤f))&&decide (0<p.a+q.a))&&decide (0<p.b+q.b))&&decide (0<p.c+q.c))=((decide ((b:Int)≠a)&&U6 f x1 x2)&&T5 p q):=by
 obtain⟨pa,pb,pc⟩:=p;obtain⟨qa,qb,qc⟩:=q;obtain⟨h1,h2,h3⟩:=hp;obtain⟨h4,h5,h6⟩:=hq;unfold T5 U6 iE hC;rw[bPT];simp only[bMS,GT,bPQ,bMY,Pt.mk.injEq]at *;constructor
 ·rintro⟨⟨⟨⟨⟨⟨⟨I,O⟩,R⟩,U⟩,V⟩,Y⟩,Z⟩,e8⟩;exact⟨⟨fun e=>I e.symm,Yd,Yd⟩,⟨O,R⟩,Yd,Yd,Yd⟩
 ·rintro⟨⟨I,O,R⟩,⟨U,V⟩,Y,Z,e8⟩;exact⟨⟨⟨⟨⟨⟨⟨fun e=>I e.symm,U⟩,V⟩,Yd⟩,Yd⟩,Yd⟩,Yd⟩,Yd⟩
def lE(y:bA)(t:List Pt)(l:List (Int×Int)):Nat:=whole t+(l.filter fun p=>kI y t p.1.toNat p.2.toNat).length
theorem aJS(y:bA)(t:List Pt)(l:List (Int×Int)):lE y t l≤t.length+l.length:=by
 have h1:=bOJ (fun p:Int×Int=>kI y t p.1.toNat p.2.toNat) l;have h2:whole t≤t.length:=bOJ _ _;unfold lE;omega
theorem XT{y:bA}{t:List Pt}{l:List (Int×Int)}{k x z:Nat}(h:l[k]?= some ((x:Int),(z:Int)))(hf:kI y t x z=true):((lE y t (l.take (k+1)):Nat):Int)=(lE y t (l.take k):Int)+1:=by
 unfold lE;rw[bMZ,h,bNU,bOE,LE];simp[hf];omega
theorem aLN{y:bA}{t:List Pt}{l:List (Int×Int)}{k x z:Nat}(h:l[k]?= some ((x:Int),(z:Int)))(hf:kI y t x z=false):lE y t (l.take (k+1))=lE y t (l.take k):=by
 unfold lE;rw[bMZ,h,bNU,bOE,LE];simp[hf]
def rM(cl:List (Int×Int))(n:Int)(i:Nat):Bool:=match cl[i]? with
 |some r=>hC n r.1 r.2
 |none=>false
theorem MK{cl:List (Int×Int)}{n:Int}{i:Nat}{r:Int×Int}(h:cl[i]?= some r):rM cl n i=hC n r.1 r.2:=by unfold rM;rw[h]
theorem DR(yv:Γ)(y:bA)(D:aC)(hy:iY D yv y)(h7:y.chairs.length≤1000):Fn prog 198 #[yv] D (fun _ v=>v=qI (dA y.chairs:Int)):=by
 obtain⟨cv,qv,rfl,hc,hq⟩:=hy;refine Zw 29 func198 rfl fun h0=>aA<|Zz rfl fun q1 E1 Y I=>Zf rfl<|aJ<|Zf rfl<|bC<|Zf rfl<|aF<|Za1<|bM (γ:=Nat) (fun i=>y.chairs.length-i) (fun i=>i≤y.chairs.length) (fun i=>[(4,qI (i:Int)),(3,qI (dA (y.chairs.take i):Int))]) [(2,_),(1,_)] (fun i=>[E1,D]) 0 Yd ⟨Ya,(by simp[dA];rfl),bSM⟩ cF (aK) ?_
 rintro i h1;refine bZ<|Za rfl<|Zj rfl iO rfl<|Zh 0 rfl pK rfl I rfl<|Zai rfl U61 rfl hc rfl<|Zan rfl<|aF<|Zae rfl (fun hc1=>?_) fun hc1=>?_
 ·have hi:i<y.chairs.length:=Yd
  obtain⟨x,hx⟩:=cT y.chairs i;have hub:=aQF (y.chairs.take i);have hut:(y.chairs.take i).length≤i:=bPW _ _;refine aQ<|Za3<|Za1<|aA<|Zf rfl<|aF<|Za1<|bM (γ:=Nat) (fun k=>3-k) (fun k=>k≤3) (fun k=>[(5,qI (k:Int)),(3,qI ((dA (y.chairs.take i)+S8 (x.parts.l.take k):Nat):Int))]) [(10,_),(9,_),(8,_),(7,_),(6,_),(4,_),(2,_),(1,_)] (fun k=>[E1,D]) 0 Yd ⟨Ya,(by simp[S8];rfl),bSM⟩ cF (aK) ?_
  rintro k h2;refine bZ<|Za rfl<|Zan rfl<|aF<|Zae rfl (fun hc2=>?_) fun hc2=>?_
  ·have Z:k<3:=Yd
   obtain⟨n,hn⟩:∃n,x.parts.l[k]?= some n:=⟨_,bMU (by simp[Pt.l];omega)⟩
   have hkl:=aCH (x.parts.l.take k);have hkt:(x.parts.l.take k).length≤k:=bPW _ _;refine aQ<|Za3<|Za1<|aA<|Zj rfl iO rfl<|Zh 0 rfl pK rfl I rfl<|Za rfl<|Za rfl<|Zx rfl U61 sG rfl hc rfl hx fun b1 o1 O R V U=>?_;obtain rfl:O=[qI _,qI _,qI _,qI _]:=R;refine Zj rfl AP rfl<|eT rfl U232 aH rfl rfl Yd Yd rfl bSM<|dU (o:=_+1) (k:=k*1) rfl aI rfl U.tail Yf (aNX hn) n4 rfl bSM<|Zas rfl<|aF<|Zae rfl (fun hc3=>?_) fun hc3=>?_
   ·refine Wbz ?_;exact Zn 19 (k+1) ⟨Ya,(by rw[aTS hn hc3];rfl),bSM⟩ rfl Mm5
   ·refine Wch ?_;exact Zn 16 (k+1) ⟨Ya,(by rw[bCP hn hc3];rfl),bSM⟩ rfl Mm5
  ·obtain rfl:k=3:=Yd
   refine Wbp ?_;exact Zn 13 (i+1) ⟨Ya,(by rw[VH hx];rfl),bSM⟩ rfl Mm5
 ·obtain rfl:i=y.chairs.length:=Yd
  rw[bNR];refine Wm ?_;exact aE rfl fun D hD=>rfl
theorem uX(p:Pt)(D:aC)(hp:wT p):Fn prog 368 #[bKZ p] D (fun _ v=>v=.bool (iE p)):=by
 obtain⟨⟨O,R⟩,⟨U,V⟩,Y,hp5⟩:=id hp;refine Zw 12 func368 rfl fun h0=>aA<|Zz rfl fun q1 E1 Z I=>Zf rfl<|aJ<|cA rfl U232 aH rfl rfl Yt Yt rfl bSM<|iL rfl aI rfl I Yf rfl n4 rfl bSM<|cA rfl U232 aH rfl rfl Yt Yt rfl bSM<|iL rfl aI rfl I Yf rfl n4 rfl bSM<|Zad rfl<|cA rfl U232 aH rfl rfl Yt Yt rfl bSM<|iL rfl aI rfl I Yf rfl n4 rfl bSM ?_;refine Zad rfl<|Zas rfl<|We ?_;exact aE rfl fun D hD=>by show Value.bool _=_;rw[aIS hp]
theorem aRU(tv:Γ)(t:List Pt)(D:aC)(ht:Sl D RP 3 tv t)(hb:∀p∈t,wT p):Fn prog 324 #[tv] D (fun _ v=>v=qI (whole t:Int)):=by
 have hl:=ht.len;refine Zw 19 func324 rfl fun h0=>aA<|Zf rfl<|aJ<|Zf rfl<|bC<|Zf rfl<|aF<|Za1<|bM (γ:=Nat) (fun i=>t.length-i) (fun i=>i≤t.length) (fun i=>[(4,qI (i:Int)),(3,qI (whole (t.take i):Int))]) [(2,_),(0,_)] (fun i=>[D]) 0 Yd ⟨Ya,Ya,bSM⟩ cF (aK) ?_;rintro i h1;refine bZ<|Za rfl<|Za rfl<|Zai rfl U288 rfl ht rfl<|Zan rfl<|aF<|Zae rfl (fun hc1=>?_) fun hc1=>?_
 ·have hi:i<t.length:=Yd
  obtain⟨z,hz⟩:=cT t i;have hwl:whole (t.take i)≤(t.take i).length:=bOJ _ _;have hwt:(t.take i).length≤i:=bPW _ _;refine aQ<|Za3<|Za1<|aA<|Za rfl<|Za rfl<|Zx rfl U288 fP rfl ht rfl hz fun Y Z I O U R=>?_;obtain rfl:I=[qI _,qI _,qI _]:=O;refine Zv rfl uA rfl R Xbb<|Zd rfl (fun D1 V=>uX z _ (hb _ (n5 hz)))<|aF<|Zaf rfl (fun hc2=>?_) fun hc2=>?_
  ·refine Wbz ?_;exact Zn 17 (i+1) ⟨Ya,(by rw[zW hz,bNK hc2];rfl),bSM⟩ rfl Mm5
  ·refine Wch ?_;exact Zn 14 (i+1) ⟨Ya,(by rw[zW hz,bNA (by rw[hc2];simp)];rfl),bSM⟩ rfl Mm5
 ·obtain rfl:i=t.length:=Yd
  rw[bNR];refine Wm ?_;exact aE rfl fun D hD=>rfl
theorem QL(yv tv:Γ)(y:bA)(t:List Pt)(a b:Nat)(D:aC)(hy:iY D yv y)(ht:Sl D RP 3 tv t)(hyo:bFB y)(hlen:t.length=y.chairs.length)(hb:∀p∈t,wT p)(ha:a<t.length)(hb2:b<t.length):Fn prog 325 #[yv,tv,qI (a:Int),qI (b:Int)] D (fun _ v=>v=.bool (kI y t a b)):=by
 obtain⟨cv,qv,rfl,hc,hq⟩:=hy;obtain⟨bt,ot,ct,rfl⟩:=dB ht fun e=>by rw[e]at ha;simp at ha
 obtain⟨p,hp⟩:=cT t a;obtain⟨q,hq2⟩:=cT t b;obtain⟨x1,hx1⟩:∃x,y.chairs[a]?= some x:=⟨_,bMU Yd⟩
 obtain⟨x2,hx2⟩:∃x,y.chairs[b]?= some x:=⟨_,bMU Yd⟩
 have hcl:=hc.len;have htl:=ht.len;have hs1:=hyo.size _ (n5 hx1);have hs2:=hyo.size _ (n5 hx2);have hft:=hyo.fit;have hpb:=hb _ (n5 hp);have hqb:=hb _ (n5 hq2);obtain⟨⟨pa0,pa1⟩,⟨pb0,pb1⟩,pc0,pc1⟩:=id hpb;obtain⟨⟨qa0,qa1⟩,⟨qb0,qb1⟩,qc0,qc1⟩:=id hqb;refine Zw 83 func325 rfl fun h0=>aA<|Zz rfl fun q1 E1 hE1 I=>Zf rfl<|bO<|oS (cZ.mk [bt]) 2 [false,true,false,false,true,true,true,true,true,true,true,false] [.fork [0,1,2,3,4,5,6,7] 8 (.fin [9]) 9 (.fin [8]),.fin [10,11]] bB (fun _ _ _ h=>fW (P:=prog) (fn:=f325) _ _ _ h) Yg<|tI<|bQ [(false,0),(true,1),(false,2),(false,3),(true,4),(true,5),(true,6),(true,7)] rfl<|Za rfl<|Za rfl<|jB rfl U288 fP rfl ht rfl Yd hp rfl bSM fun hO hP rB O=>?_;obtain rfl:hO=[qI _,qI _,qI _]:=hP;refine cK rfl uA rfl O Yf fP (cZ.out Yf) rfl bSM<|Za rfl<|Za rfl<|jB rfl U288 fP rfl ht rfl Yd hq2 rfl bSM fun hR hS hcl42 hX=>?_;obtain rfl:hR=[qI _,qI _,qI _]:=hS;refine cK rfl uA rfl hX Yf fP (cZ.out Yf) rfl bSM<|Zao (dZ true true rfl rfl ?_ ?_)
 ·refine Zah rfl xD rfl fun q2=>Zao<|aW [(true,9)] rfl<|Zah rfl xD rfl fun q3=>Zao<|mS [(true,10),(false,11)] rfl<|kN O Yf fun hap=>mZ rfl rfl rfl rfl fP (.tail ζ) Yf rfl Yk (bNC (cZ.in_ Xdo)) bSM<|mZ rfl rfl rfl rfl fP ζ Yf rfl Yk (Or.inr (cZ.in_ Xdp)) bSM<|Zao<|oL<|Zaz ?_;refine Za3<|bN [] 5 14 4036<|Zj rfl iO rfl<|Zh 0 rfl pK rfl I rfl<|Za rfl<|Zx rfl U61 sG rfl hc rfl hx1 fun b1 o1 R U hY V=>?_;obtain rfl:R=[qI _,qI _,qI _,qI _]:=U;refine Zj rfl P8 rfl<|Zh 0 rfl aI rfl V rfl<|Zj rfl iO rfl<|Zh 0 rfl pK rfl I rfl<|Za rfl<|Zx rfl U61 sG rfl hc rfl hx2 fun b2 o2 Y Z rA hB=>?_;obtain rfl:Y=[qI _,qI _,qI _,qI _]:=Z;refine Zj rfl P8 rfl<|Zh 0 rfl aI rfl hB rfl<|Zav rfl<|Zf rfl<|aJ<|Za rfl<|Za rfl<|Zax rfl<|Za rfl ?_;refine' bX 4 (s:=36) (p:=40) rfl (fun hE=>?_) (fun hE=>?_) ?_;rotate_left
  ·refine bL rfl uA rfl Mm1 Xbb n4 rfl ⟨_,rfl,rfl⟩<|Ze rfl (fun D1 hD1=>uX p _ hpb)<|Wbr ?_;exact aN 3
  ·refine Wc ?_;exact aN 3
  refine Za rfl ?_;refine' bX 4 (s:=41) (p:=45) rfl (fun hF=>?_) (fun hF=>?_) ?_;rotate_left
  ·refine bL rfl uA rfl Mm0 Xbb n4 rfl ⟨_,rfl,rfl⟩<|Ze rfl (fun D2 hD2=>uX q _ hqb)<|Wbr ?_;exact aN 3
  ·refine Wc ?_;exact aN 3
  refine Za rfl ?_;refine' bX 5 (s:=46) (p:=51) rfl (fun hH=>?_) (fun hH=>?_) ?_;rotate_left
  ·refine Zb rfl<|Zk rfl J5 rfl<|Wbq ?_;exact aN 4
  ·refine Zg rfl<|Wc ?_;exact aN 4
  refine Za rfl ?_;refine' bX 6 (s:=52) (p:=58) rfl (fun hI=>?_) (fun hI=>?_) ?_;rotate_left
  ·refine Zb rfl<|aED rfl rfl Ye rfl ⟨_,rfl,rfl⟩<|Zk rfl J5 rfl<|Wbq ?_;exact aN 5
  ·refine Wo ?_;exact aN 5
  refine Za rfl ?_;refine' bX 7 (s:=59) (p:=66) rfl (fun hJ=>?_) (fun hJ=>?_) ?_;rotate_left
  ·refine Wq ?_;exact aN 6
  ·refine Wbd ?_;exact aN 6
  refine Za rfl ?_;refine' bX 7 (s:=67) (p:=74) rfl (fun hK=>?_) (fun hK=>?_) ?_;rotate_left
  ·refine Wq ?_;exact aN 6
  ·refine Wbd ?_;exact aN 6
  refine Za rfl ?_;refine' bX 7 (s:=75) (p:=82) rfl (fun hN=>?_) (fun hN=>?_) ?_;rotate_left
  ·refine Wq ?_;exact aN 6
  ·refine Wbd ?_;exact aN 6
  refine We ?_;exact aE rfl fun D hD=>Xdq
 ·refine Zah rfl xD rfl fun q2=>Zao<|aW [(true,8)] rfl<|Zah rfl xD rfl fun q3=>Zao<|mS [(true,10),(false,11)] rfl<|kN O Yf fun hap=>mZ rfl rfl rfl rfl fP ζ Yf rfl Yk (bNC (cZ.in_ Xdp)) bSM<|mZ rfl rfl rfl rfl fP (.tail ζ) Yf rfl Yk (Or.inr (cZ.in_ Xdo)) bSM<|Zao<|oL<|Zaz ?_;refine Za3<|bN [] 5 14 4036<|Zj rfl iO rfl<|Zh 0 rfl pK rfl I rfl<|Za rfl<|Zx rfl U61 sG rfl hc rfl hx1 fun b1 o1 R U hY V=>?_;obtain rfl:R=[qI _,qI _,qI _,qI _]:=U;refine Zj rfl P8 rfl<|Zh 0 rfl aI rfl V rfl<|Zj rfl iO rfl<|Zh 0 rfl pK rfl I rfl<|Za rfl<|Zx rfl U61 sG rfl hc rfl hx2 fun b2 o2 Y Z rA hB=>?_;obtain rfl:Y=[qI _,qI _,qI _,qI _]:=Z;refine Zj rfl P8 rfl<|Zh 0 rfl aI rfl hB rfl<|Zav rfl<|Zf rfl<|aJ<|Za rfl<|Za rfl<|Zax rfl<|Za rfl ?_;refine' bX 4 (s:=36) (p:=40) rfl (fun hE=>?_) (fun hE=>?_) ?_;rotate_left
  ·refine bL rfl uA rfl Mm0 Xbb n4 rfl ⟨_,rfl,rfl⟩<|Ze rfl (fun D1 hD1=>uX p _ hpb)<|Wbr ?_;exact aN 3
  ·refine Wc ?_;exact aN 3
  refine Za rfl ?_;refine' bX 4 (s:=41) (p:=45) rfl (fun hF=>?_) (fun hF=>?_) ?_;rotate_left
  ·refine bL rfl uA rfl Mm1 Xbb n4 rfl ⟨_,rfl,rfl⟩<|Ze rfl (fun D2 hD2=>uX q _ hqb)<|Wbr ?_;exact aN 3
  ·refine Wc ?_;exact aN 3
  refine Za rfl ?_;refine' bX 5 (s:=46) (p:=51) rfl (fun hH=>?_) (fun hH=>?_) ?_;rotate_left
  ·refine Zb rfl<|Zk rfl J5 rfl<|Wbq ?_;exact aN 4
  ·refine Zg rfl<|Wc ?_;exact aN 4
  refine Za rfl ?_;refine' bX 6 (s:=52) (p:=58) rfl (fun hI=>?_) (fun hI=>?_) ?_;rotate_left
  ·refine Zb rfl<|aED rfl rfl Ye rfl ⟨_,rfl,rfl⟩<|Zk rfl J5 rfl<|Wbq ?_;exact aN 5
  ·refine Wo ?_;exact aN 5
  refine Za rfl ?_;refine' bX 7 (s:=59) (p:=66) rfl (fun hJ=>?_) (fun hJ=>?_) ?_;rotate_left
  ·refine Wr ?_;exact aN 6
  ·refine Wbd ?_;exact aN 6
  refine Za rfl ?_;refine' bX 7 (s:=67) (p:=74) rfl (fun hK=>?_) (fun hK=>?_) ?_;rotate_left
  ·refine Wr ?_;exact aN 6
  ·refine Wbd ?_;exact aN 6
  refine Za rfl ?_;refine' bX 7 (s:=75) (p:=82) rfl (fun hN=>?_) (fun hN=>?_) ?_;rotate_left
  ·refine Wr ?_;exact aN 6
  ·refine Wbd ?_;exact aN 6
  refine We ?_;exact aE rfl fun D hD=>Xdq
theorem aVA(yv tv lv:Γ)(y:bA)(t:List Pt)(l:List (Int×Int))(D:aC)(hy:iY D yv y)(ht:Sl D RP 3 tv t)(hl:Sl D R2 2 lv l)(hyo:bFB y)(hlen:t.length=y.chairs.length)(hb:∀p∈t,wT p)(hp:∀p∈l,∃x z:Nat,p=((x:Int),(z:Int))∧x<t.length∧z<t.length)(hO:l.length≤1000):Fn prog 237 #[yv,tv,lv] D (fun _ v=>v=qI (lE y t l:Int)):=by
 have R:=hy;have hP:=hyo.len;obtain⟨cv,qv,rfl,hc,hq⟩:=hy;have hll:=hl.len;refine Zw 33 func237 rfl fun h0=>aA<|Zz rfl fun q1 E1 hR U=>Zf rfl<|aJ<|Za rfl<|Zd rfl (fun D1 V=>aRU _ t _ (ht.up RP.up (V _ Yf)) hb)<|Zf rfl<|bC<|Zf rfl<|aF<|Za1 ?_;refine bM (γ:=Nat) (fun k=>l.length-k) (fun k=>k≤l.length) (fun k=>[(8,qI (k:Int)),(7,qI (lE y t (l.take k):Int))]) [(6,_),(3,_),(1,_),(2,_)] (fun k=>[E1,D]) 0 Yd ⟨Ya,(by simp[lE];rfl),bSM⟩ cF (aK) ?_
 rintro k h1;refine bZ<|Za rfl<|Za rfl<|Zai rfl U292 rfl hl rfl<|Zan rfl<|aF<|Zae rfl (fun hc1=>?_) fun hc1=>?_
 ·have hk:k<l.length:=Yd
  obtain⟨p,I⟩:=cT l k;obtain⟨x,z,rfl,Y,Z⟩:=hp p (n5 I);have hml:=aJS y t (l.take k);have htl:(l.take k).length≤k:=bPW _ _;refine aQ<|Za3<|Za1<|Za3<|bN [] 4 13 4094<|Zv rfl qQ rfl U nW<|Za rfl<|Za rfl<|Za rfl<|Zx rfl U292 DF rfl hl rfl I fun b1 o1 hB hE hK hF=>?_;obtain rfl:hB=[qI _,qI _]:=hE;refine Zj rfl aIQ rfl<|Zh 0 rfl aI rfl hF rfl<|Za rfl<|Za rfl<|Zx rfl U292 DF rfl hl rfl I fun b2 o2 hH hI hN hJ=>?_;obtain rfl:hH=[qI _,qI _]:=hI;refine Zj rfl aHI rfl<|Zh 1 rfl aI rfl hJ rfl<|Zd rfl (fun D2 O=>QL _ _ y t x z _ (R.up (O _ Yf)) (ht.up RP.up (O _ Yf)) hyo hlen hb Y Z)<|aF<|Zaf rfl (fun hc2=>?_) fun hc2=>?_
  ·refine Wbz ?_;exact Zn 25 (k+1) ⟨Ya,(by rw[XT I hc2];rfl),bSM⟩ rfl Mm5
  ·refine Wch ?_;exact Zn 22 (k+1) ⟨Ya,(by rw[aLN I hc2];rfl),bSM⟩ rfl Mm5
 ·obtain rfl:k=l.length:=Yd
  rw[bNR];refine Wm ?_;exact aE rfl fun D hD=>rfl
theorem aQT(yv:Γ)(y:bA)(n:Int)(D:aC)(hy:iY D yv y)(h5:y.claims.length≤40):Fn prog 165 #[yv,qI n] D (fun _ v=>v=qI (jJ (rM y.claims n) y.claims.length:Int)):=by
 obtain⟨cv,qv,rfl,hc,hq⟩:=hy;refine Zw 34 func165 rfl fun h0=>aA<|Zz rfl fun q1 E1 hH O=>Zf rfl<|aJ<|Zf rfl<|bC<|Zf rfl<|aF<|Za1<|bM (γ:=Nat) (fun i=>y.claims.length-i) (fun i=>i≤y.claims.length) (fun i=>[(6,qI (i:Int)),(5,qI (jJ (rM y.claims n) i:Int))]) [(4,_),(2,_),(1,_)] (fun i=>[E1,D]) 0 Yd ⟨Ya,Ya,bSM⟩ cF (aK) ?_;rintro i h1;refine bZ<|Za rfl<|Zj rfl kU rfl<|Zh 2 rfl xG rfl O rfl<|Zai rfl U62 rfl hq rfl<|Zan rfl<|aF<|Zae rfl (fun hc1=>?_) fun hc1=>?_
 ·have hi:i<y.claims.length:=Yd
  obtain⟨r,I⟩:=cT y.claims i;have hbl:=k9 (rM y.claims n) i;have hI:2^i≤2^40:=bOW Yd Yd;refine aQ<|Za3<|Za1<|Za3<|bN [] 5 14 8190<|Za rfl<|Zj rfl kU rfl<|Zh 2 rfl xG rfl O rfl<|Za rfl<|Zx rfl U62 wV rfl hq rfl I fun b1 o1 R U hE V=>?_;obtain rfl:R=[qI _,qI _]:=U;refine Zj rfl aLS rfl<|Zh 0 rfl aI rfl V rfl<|Zj rfl kU rfl<|Zh 2 rfl xG rfl O rfl<|Za rfl<|Zx rfl U62 wV rfl hq rfl I fun b2 o2 Y Z hF hB=>?_;obtain rfl:Y=[qI _,qI _]:=Z;refine Zj rfl aMZ rfl<|Zh 1 rfl aI rfl hB rfl<|Zd rfl (fun D1 hJ=>aDU _ _ _ _)<|aF<|Zaf rfl (fun hc2=>?_) fun hc2=>?_
  ·refine aO<|Za rfl<|Za rfl<|oU rfl U3 U380 rfl Ye rfl bSM<|CO rfl rfl rfl Yd rfl bSM<|MS rfl rfl rfl Yd Yd rfl bSM<|Zf rfl<|Zao<|Za4<|Zaz<|aO<|Za rfl ?_;refine Wbt ?_;exact Zn 30 (i+1) ⟨Ya,(by rw[jJ,bNK (by rw[MK I];exact hc2)];rfl),bSM⟩ rfl Mm5
  ·refine Wch ?_;exact Zn 24 (i+1) ⟨Ya,(by rw[jJ,bNA (by rw[MK I,hc2];simp)];rfl),bSM⟩ rfl Mm5
 ·obtain rfl:i=y.claims.length:=Yd
  refine Wm ?_;exact aE rfl fun D hD=>rfl
theorem bDC(yv:Γ)(y:bA)(D:aC)(hy:iY D yv y)(h5:y.claims.length≤40):Fn prog 166 #[yv] D (fun _ v=>v=qI (((2^y.claims.length:Nat):Int)-1)):=by
 obtain⟨cv,qv,rfl,hc,hq⟩:=hy;have O:2^y.claims.length≤2^40:=bOW Yd Yd;have R:1≤2^y.claims.length:=Nat.one_le_two_pow;have hpi:(1:Int)≤((2^y.claims.length:Nat):Int):=Yd
 have hpj:((2^y.claims.length:Nat):Int)≤1099511627776:=Yd
 refine Zw 9 func166 rfl (fun h0=>aA<|Zz rfl fun q1 E1 U I=>Zf rfl<|aJ<|Zj rfl kU rfl<|Zh 2 rfl xG rfl I rfl<|Zai rfl U62 rfl hq rfl<|oU rfl U3 U380 rfl Ye rfl bSM<|CO rfl rfl rfl Yd rfl bSM<|yP rfl rfl rfl (by simp only[wD];generalize ((2^y.claims.length:Nat):Int)=z at hpi hpj ⊢;omega) rfl bSM<|Zf rfl ?_);refine aG ?_;exact aE rfl fun D hD=>rfl
def bJX:Rd (List (Int×Int)):=fun D l cs=>∃v,cs=[v]∧Sl D R2 2 v l
theorem bJX.up:bJX.Up:=fun hl _ _ ⟨v,hc,hs⟩=>⟨v,hc,hs.up R2.up hl⟩
inductive LP(D:aC):List Γ→List (List (Int×Int))→Prop
 |nil:LP D [] []
 |cons {v l vs ls} (h:Sl D R2 2 v l) (r:LP D vs ls):LP D (v::vs) (l::ls)
theorem LP.up{D D':aC}{vs:List Γ}{ls:List (List (Int×Int))}(h:LP D vs ls)(hl:Le D D'):LP D' vs ls:=by
 induction h with
 |nil=>exact .nil
 |cons h _ ih=>exact .cons (h.up R2.up hl) ih
theorem LP.len{D:aC}{vs:List Γ}{ls:List (List (Int×Int))}(h:LP D vs ls):vs.length=ls.length:=by
 induction h with
 |nil=>rfl
 |cons _ _ ih=>rw[bMX,bMX,ih]
theorem LP.snoc{D:aC}{vs:List Γ}{ls:List (List (Int×Int))}{v:Γ}{l:List (Int×Int)}(h:LP D vs ls)(hv:Sl D R2 2 v l):LP D (vs++[v]) (ls++[l]):=by
 induction h with
 |nil=>exact .cons hv .nil
 |cons h _ ih=>exact .cons h ih
theorem LP.get{D:aC}{vs:List Γ}{ls:List (List (Int×Int))}(h:LP D vs ls):∀{i:Nat} {l:List (Int×Int)},ls[i]?= some l→∃v,vs[i]?= some v∧Sl D R2 2 v l:=by
  induction h with
  |nil=>intro i l hi;simp at hi
  | @cons v I vs ls h _ ih=>
    intro i l hi;cases i with
    | zero => obtain rfl : I = l := by simpa using hi
              exact⟨v,rfl,h⟩
    |succ i=>exact ih Yau
theorem _root_.Go.Fs.kZ.plists{D:aC}{v:Γ}{n:Nat}{vs:List Γ}{ls:List (List (Int×Int))}(hF:kZ D v n vs)(h:LP D vs ls)(hn:vs.length=n)(hb:n≤9223372036854775807):Sl D bJX 1 v ls:=
 hF.sl (by rw[←h.len];exact hn) hb fun i l hi=>by
  obtain⟨u,hu,hs⟩:=h.get hi;refine⟨[u],⟨u,rfl,hs⟩,rfl,?_⟩;have hlt:=(bMW.1 hu).1;rw[bPK,bOF hlt];rw[bMU hlt]at hu;rw[bNS hu];rfl
theorem aCU{w f:Nat}(h:((w >>> f:Nat):Int)%2=1):w.testBit f=true:=by
 rw[mN]at h;cases e:w.testBit f with
 |true=>rfl
 |false=>rw[e]at h;simp at h
theorem VY{w f:Nat}(h:¬((w >>> f:Nat):Int)%2=1):w.testBit f=false:=by
 rw[mN]at h;cases e:w.testBit f with
 |false=>rfl
 |true=>rw[e]at h;simp at h
theorem bMC{k:Nat}(h:k≤6):8^k≤262144:=by
 have:8^k≤8^6:=bOW Yd h;omega
theorem bKM{k:Nat}(h:k≤7):8^k≤2097152:=by
 have:8^k≤8^7:=bOW Yd h;omega
theorem HF{α β:Type}{f:α→List β}{c:Nat}:∀{l:List α},(∀x∈l,(f x).length≤c)→(l.flatMap f).length≤l.length*c
 | [],_=>by simp
 |x::l,h=>by
  rw[bNW,LE,bMX,bPR];have:=h x bMV;have:=HF (l:=l) fun y hy=>h y (bMT _ hy)
  omega
theorem Z4{n:Nat}(hn:n≤7):∀k w,(prs n k w).length≤8^k
 |0,w=>by simp[prs]
 |k+1,w=>by
  have ih:=Z4 hn k;unfold prs;split
  ·have:=ih w;rw[Nat.pow_succ];omega
  ·rw[LE];have h1:=ih w;have h2:=HF (f:=fun b=>(prs n k (w|||2^b)).map fun l=>(n-(k+1),b)::l) (c:=8^k) (l:=(List.range n).filter fun b=>decide (n-(k+1)<b)&& !w.testBit b) fun b _=>by rw[bOB];exact ih _
   have h3:=bOJ (fun b=>decide (n-(k+1)<b)&& !w.testBit b) (List.range n);rw[bQW]at h3;have h4:((List.range n).filter fun b=>decide (n-(k+1)<b)&& !w.testBit b).length*8^k≤7*8^k:=bQN _ Yd;rw[Nat.pow_succ];omega
theorem QB{l:List (Nat×Nat)}(h:(rC l).Nodup):(l.map fun p=>p.1).Nodup:=by
 induction l with
 |nil=>exact bPA
 |cons p l ih=>
  unfold rC at h;rw[bNW,bNF]at h;rw[bNT,bOT];refine⟨fun hm=>?_,ih h.2.1⟩;obtain⟨q,hq,e⟩:=bMR.1 hm;exact h.2.2 p.1 Yf q.1 (bQT.2 ⟨q,hq,Yf⟩) e.symm
theorem KT{n k w:Nat}{l:List (Nat×Nat)}(hn:n≤7)(hk:k≤n)(hl:l∈prs n k w):(pI l).length≤7:=by
 have ok:=x3 k w hk l hl;have h2:=rW (l:=l.map fun p=>p.1) (m:=List.range n) (QB ok.nd) fun x hx=>by
  obtain⟨p,hp,rfl⟩:=bMR.1 hx;obtain⟨_,h2,h3,_⟩:=ok.at_ p hp;exact bOQ.2 Yd
 rw[bOB,bQW]at h2;simp only[pI,bOB];omega
def xY(n k f w b:Nat):List (List (Int×Int)):=(prs n k w++((List.range b).filter fun b=>decide (f<b)&& !w.testBit b).flatMap fun b=>(prs n k (w|||2^b)).map fun l=>(f,b)::l).map pI
theorem UU{n k f w:Nat}:xY n k f w (f+1)=(prs n k w).map pI:=by
 unfold xY;rw[List.filter_eq_nil_iff.2 fun b hb=>by have:=bOQ.1 hb;simp;omega]
 simp
theorem aNO{n k f w b:Nat}(h:w.testBit b=true):xY n k f w (b+1)=xY n k f w b:=by
 unfold xY;rw[bOG,bOE,bOC];simp[h]
theorem aMO{n k f w b:Nat}(hb:f<b)(h:w.testBit b=false):xY n k f w (b+1)=xY n k f w b++(prs n k (w|||2^b)).map (fun l=>pI ((f,b)::l)):=by
 unfold xY;rw[bOG,bOE,bOC];simp[h,hb]
theorem aII{n k f w b:Nat}(hn:n≤7)(hb:b≤n):(xY n k f w b).length≤8*8^k:=by
 unfold xY;rw[bOB,LE];have h1:=Z4 hn k w;have h2:=HF (f:=fun b=>(prs n k (w|||2^b)).map fun l=>(f,b)::l) (c:=8^k) (l:=(List.range b).filter fun b=>decide (f<b)&& !w.testBit b) fun b _=>by rw[bOB];exact Z4 hn k _
 have h3:=bOJ (fun b=>decide (f<b)&& !w.testBit b) (List.range b);rw[bQW]at h3;have h4:((List.range b).filter fun b=>decide (f<b)&& !w.testBit b).length*8^k≤7*8^k:=bQN _ Yd;omega
theorem aTX{n k f w:Nat}(hf:f+(k+1)=n)(h:w.testBit f=true):(prs n (k+1) w).map pI=(prs n k w).map pI:=by
 rw[prs,show n-(k+1)=f by omega,bNK h]
theorem aVD{n k f w:Nat}(hf:f+(k+1)=n)(h:w.testBit f=false):(prs n (k+1) w).map pI=xY n k f w n:=by
 rw[prs,show n-(k+1)=f by omega,bNA Xaj];rfl
theorem aLI{y:bA}{t:List Pt}{ls:List (List (Int×Int))}{i:Nat}{l:List (Int×Int)}(h:ls[i]?= some l):((((ls.take (i+1)).map (lE y t)).foldl max 0:Nat):Int)=max ((((ls.take i).map (lE y t)).foldl max 0:Nat):Int) (lE y t l:Int):=by
 rw[bMZ,h,bNU,bNG,bOR];show((max _ _:Nat):Int)=_;omega
theorem QH{y:bA}(Z:y.chairs.length≤7):∀(kk f:Nat),f+kk=y.chairs.length→∀(w:Nat),w<128→∀(yv:Γ) (D:aC),iY D yv y→IU prog 161 #[yv,qI (f:Int),qI (w:Int)] D (fun D' v ν=>∃vs,bI 292 1 v vs.length vs ν∧LP D' vs ((prs y.chairs.length kk w).map pI)):=by
 intro kk;induction kk using Nat.strongRecOn with
 |_ kk ih=>
 intro f hf w hw yv D hy;have hH:=hy;obtain⟨cv,qv,rfl,hc,hq⟩:=hy;have hcl:=hc.len;refine qR 72 func161 rfl rfl rfl rfl fun h0=>aA<|Zz rfl fun q1 E1 hE1 O=>Zf rfl<|bC<|Za rfl<|Zj rfl iO rfl<|Zh 0 rfl pK rfl O rfl<|Zai rfl U61 rfl hc rfl<|lH rfl rfl rfl rfl bSM<|aF<|Zae rfl (fun hc1=>?_) fun hc1=>?_
 ·obtain rfl:kk=0:=Yd
  refine aA<|U7 rfl U284 Z2 OV rfl rfl rfl rfl (.cons rfl rfl .nil) rfl bSM fun b3 hacc=>Wg ?_;exact aE rfl fun D' hD=>⟨[qN],hacc,.cons Sl.nil .nil⟩
 ·obtain⟨k,rfl⟩:∃k,kk=k+1:=⟨kk-1,Yd⟩
  have hf7:f<7:=Yd
  refine aQ<|aA<|Zv rfl qQ rfl O nW<|Za rfl<|Zad rfl<|Za rfl<|fX rfl rfl rfl (fun D5 hR=>ih k Yd (f+1) Yd w hw _ D5 (hH.up (hR _ Yf))) rfl bSM fun v1 D6 ν1 hD6 hS=>?_;obtain⟨vs1,hI,R⟩:=hS;refine Zf rfl<|bC<|Za rfl<|Za rfl<|oU rfl U3 U380 rfl Ye rfl bSM<|W2 rfl rfl rfl Yd rfl bSM<|sQ rfl rfl rfl (bRO _) Yd Ye rfl bSM<|Zas rfl<|aF<|Zae rfl (fun hc2=>?_) fun hc2=>?_
  ·have hbf:w.testBit f=true:=aCU hc2;refine aA<|Za rfl<|Zf rfl<|aG<|Za0<|uP ν1 Yf ?_;have ha1x:=hI;exact aE rfl fun D' hD=>⟨vs1,ha1x,by rw[aTX hf hbf];exact R.up (hD _ Yf)⟩
  ·have hbf:w.testBit f=false:=VY hc2;refine aQ<|bZ<|Za rfl<|Zad rfl<|Zf rfl<|aF<|Za1<|gT (γ:=Nat×Γ×List Γ×aD×aC) (fun g=>y.chairs.length-g.1) (fun g=>f+1≤g.1∧g.1≤y.chairs.length∧bI 292 1 g.2.1 g.2.2.1.length g.2.2.1 g.2.2.2.1∧LP g.2.2.2.2 g.2.2.1 ((xY y.chairs.length k f w g.1))) (fun g=>[(8,qI (g.1:Int)),(7,g.2.1)]) [(6,_),(3,_),(1,_),(2,_)] (fun g=>g.2.2.2.1++[]) (fun g=>[g.2.2.2.2,E1,D]) (f+1,v1,vs1,ν1,D6) ⟨Yf,Yn,hI,by simp only;rw[UU];exact R⟩ ⟨Ya,Ya,bSM⟩ cF (Yf) ((fun D0 h=>by simp only[LT,n4,bOZ]at h;rcases h with h|h|h;exact⟨D6,Yf,h▸Le.refl _⟩;exact⟨E1,Yf,h▸Le.refl _⟩;exact⟨D,Yf,h▸Le.refl _⟩)) ?_
   rintro⟨b,v,vs,ν,Dn⟩ ⟨h0,h1,ha,hla⟩;simp only at h0 h1 ha hla;have hpl:=aII (n:=y.chairs.length) (k:=k) (f:=f) (w:=w) (b:=b) Z h1;have hpw:=bMC (show k≤6 by omega);have hvl:=hla.len;refine bZ<|Za rfl<|Zj rfl iO rfl<|Zh 0 rfl pK rfl O rfl<|Zai rfl U61 rfl hc rfl<|Zan rfl<|aF<|Zae rfl (fun hc3=>?_) fun hc3=>?_
   ·have hbn:b<y.chairs.length:=by simp only at hc3;omega
    have hX:b<7:=Yd
    have hpb:=CG hX;refine aQ<|Za3<|Za1<|bZ<|Za rfl<|Za rfl<|oU rfl U3 U380 rfl Ye rfl bSM<|W2 rfl rfl rfl Yaj rfl bSM<|sQ rfl rfl rfl (bRO _) Yd Ye rfl bSM<|Zas rfl<|aF<|Zae rfl (fun hc4=>?_) fun hc4=>?_
    ·have hbw:w.testBit b=true:=aCU hc4;refine Za6<|Za2<|Za7<|Zaz<|aO<|Za rfl<|Wbt ?_;exact aL 16 (b+1,v,vs,ν,Dn) ⟨Yn,Yn,ha,by simp only;rw[aNO hbw];exact hla⟩ Yn ⟨Ya,Ya,bSM⟩ rfl rfl Mm5 Yag
    ·have hbw:w.testBit b=false:=VY hc4;have hql:=Z4 Z k (w|||2^b);refine aQ<|aA<|Zv rfl qQ rfl O nW<|Za rfl<|Zad rfl<|Za rfl<|Za rfl<|oU rfl U3 U380 rfl Ye rfl bSM<|CO rfl rfl rfl Yaj rfl bSM<|MS rfl rfl rfl Yaj Yaj rfl bSM<|fX rfl rfl rfl (fun D7 hY=>ih k Yd (f+1) Yd (w|||2^b) (aBL hw hpb) _ D7 (hH.up (hY _ Yf))) rfl bSM fun v2 D8 ν2 hD8 rA=>?_;obtain⟨vs2,rB,U⟩:=rA;refine Zf rfl<|bO<|sN (A:=[]) (B:=ν++[]) rB rfl fun D9 hJ hF9=>?_;have hsl:=hF9.plists (U.up (hJ _ Yf)) rfl (by have:=U.len;rw[bOB]at this;omega)
     have hll:=hsl.len;refine aO<|Zf rfl<|aF<|Za1<|gT (γ:=Nat×Γ×List Γ×aD×aC) (fun g=>(prs y.chairs.length k (w|||2^b)).length-g.1) (fun g=>g.1≤(prs y.chairs.length k (w|||2^b)).length∧bI 292 1 g.2.1 g.2.2.1.length g.2.2.1 g.2.2.2.1∧LP g.2.2.2.2 g.2.2.1 ((xY y.chairs.length k f w b)++((prs y.chairs.length k (w|||2^b)).take g.1).map fun l=>pI ((f,b)::l))) (fun g=>[(10,qI (g.1:Int)),(7,g.2.1)]) [(9,_),(52,_),(51,_),(50,_),(49,_),(48,_),(47,_),(46,_),(45,_),(44,_),(43,_),(42,_),(41,_),(40,_),(39,_),(38,_),(35,_),(34,_),(33,_),(32,_),(31,_),(8,_),(6,_),(3,_),(1,_),(2,_)] (fun g=>g.2.2.2.1++[]) (fun g=>[g.2.2.2.2,D9,E1,D]) (0,v,vs,ν,D9) ⟨Yf,ha,by simpa using hla.up (hJ Dn Yf)⟩ ⟨Ya,Ya,bSM⟩ cF (Yf) ((fun D0 h=>by simp only[LT,n4,bOZ]at h;rcases h with h|h|h|h;exact⟨D9,Yf,h▸Le.refl _⟩;exact⟨D9,Yf,h▸Le.refl _⟩;exact⟨E1,Yf,h▸Le.refl _⟩;exact⟨D,Yf,h▸Le.refl _⟩)) ?_
     rintro⟨i,v,vs,ν,Dn⟩ ⟨h2,ha,hla⟩;simp only at h2 ha hla;have hvl:=hla.len;rw[LE,bOB,bON]at hvl;refine bZ<|Za rfl<|Za rfl<|Zai rfl U284 rfl hsl rfl<|Zan rfl<|aF<|Zae rfl (fun hB=>?_) fun hB=>?_
     ·have hi:i<(prs y.chairs.length k (w|||2^b)).length:=by simp only[bOB]at hB;omega
      obtain⟨l,hE⟩:=cT (prs y.chairs.length k (w|||2^b)) i;have hl1:((prs y.chairs.length k (w|||2^b)).map pI)[i]?= some (pI l):=by rw[bOD,hE];rfl
      have V:(pI l).length≤7:=KT Z Yd (n5 hE);refine aQ<|Za3<|Za1<|aO<|Za rfl<|Za rfl<|Za rfl<|Zu [qI (f:Int),qI (b:Int)] rfl aXL QN rfl<|U7 rfl U292 DF QN rfl rfl rfl rfl (.cons rfl rfl .nil) rfl bSM fun b3 hacc=>Za rfl<|Za rfl<|Zx rfl U284 Z2 rfl hsl rfl hl1 fun b1 o1 cs1 hr1 hcl1 hA1=>?_;obtain⟨w1,rfl,hw1⟩:=hr1;refine Zh 0 rfl aDC rfl hA1 rfl<|aV ([]++[(_,_)]++(ν++[])) rfl<|aS (A:=[]) (ν:=[(_,_)]) (B:=ν++[]) rfl U292 rfl rfl DF QN rfl bAI rfl rfl rfl hacc (jY.of (cells:=fun p:Int×Int=>[qI p.1,qI p.2]) (fun _ _ _ h=>h) (fun _=>rfl) hw1) Yf (A2 _) rfl (MD _) (by have:=V;omega) (bNI rfl) rfl bSM fun v8 ν8 hK=>?_
      have ha8':bI 381 2 v8 (pI ((f,b)::l)).length (WH (pI ((f,b)::l))) ν8:=by simpa [WH,pI,Nat.add_comm]using hK
      refine HH (A:=[]) (B:=ν++[]) ha8' rfl fun D10 hD10 hN=>?_;have hO:=hN.prs rfl (by simp[pI];have:=V;simp[pI]at this;omega)
      refine Zt rfl U284 Z2 OV rfl (.cons hK.cells1 rfl .nil) (fun b901 Y I hF=>aS (A:=[]) (B:=[]) rfl U284 rfl rfl Z2 OV rfl bAB rfl rfl rfl ha (jY.lit hF) Yf rfl Yf (by simpa using hO.cell1) (by have:=hla.len;omega) (bNI rfl) rfl bSM fun v7 ν7 ha7=>?_);have hP:=(hla.up (I Dn Yf)).snoc (hO.up R2.up (I D10 Yf));refine Wu ?_;exact aL 22 (i+1,v7,vs++[v8],ν7,Y) ⟨Yn,by simpa using ha7,by simp only;rw[bMZ,hE,bNU,bNG,←bND];exact hP⟩ Yn ⟨Ya,Ya,bSM⟩ rfl rfl Mm5 fun D0 h=>by simp only[LT,n4,bOZ]at h;rcases h with h|h|h|h;exact⟨Y,Yf,h▸Le.refl _⟩;exact⟨D9,Yf,h▸Le.refl _⟩;exact⟨E1,Yf,h▸Le.refl _⟩;exact⟨D,Yf,h▸Le.refl _⟩
     ·obtain rfl:i=(prs y.chairs.length k (w|||2^b)).length:=by simp only[bOB]at hB;omega
      rw[bNR]at hla;refine Wbp ?_;exact aL 31 (b+1,v,vs,ν,Dn) ⟨Yn,Yn,ha,by simp only;rw[aMO Yd hbw];exact hla⟩ Yn ⟨Ya,Ya,bSM⟩ rfl rfl Mm5 Yag
   ·obtain rfl:b=y.chairs.length:=by simp only at hc3;omega
    refine Za6<|Za2<|Za2<|Za7<|Zaz<|aA<|Za rfl<|Zf rfl<|aG<|uP ν Yf ?_;have hax:=ha;exact aE rfl fun D' hD=>⟨vs,hax,by rw[aVD hf hbf];exact hla.up (hD _ Yf)⟩
theorem RY{y:bA}(I:y.chairs.length≤7)(yv:Γ)(D:aC)(hy:iY D yv y):Fn prog 161 #[yv,qI 0,qI 0] D (fun D' v=>Sl D' bJX 1 v ((prs y.chairs.length y.chairs.length 0).map pI)):=
 (QH I y.chairs.length 0 Yd 0 Yd yv D hy).fn (e:=292) (sz:=1) fun D' v ν ⟨vs,ha,hla⟩=>⟨vs.length,vs,ha,fun D'' hl hF=>hF.plists (hla.up hl) rfl (by have:=hla.len;have:=Z4 I y.chairs.length 0;have:=bKM I;simp at *;omega)⟩
theorem bAY(yv tv sv:Γ)(y:bA)(t:List Pt)(ls:List (List (Int×Int)))(D:aC)(hy:iY D yv y)(ht:Sl D RP 3 tv t)(hs:Sl D bJX 1 sv ls)(hyo:bFB y)(hlen:t.length=y.chairs.length)(hb:∀p∈t,wT p)(hp:∀l∈ls,(∀p∈l,∃x z:Nat,p=((x:Int),(z:Int))∧x<t.length∧z<t.length)∧l.length≤1000):Fn prog 163 #[yv,tv,sv] D (fun _ v=>v=qI ((ls.map (lE y t)).foldl max 0:Nat)):=by
 have R:=hy;obtain⟨cv,qv,rfl,hc,hq⟩:=hy;have hsl:=hs.len;refine Zw 25 func163 rfl fun h0=>aA<|Zz rfl fun q1 E1 hE U=>Zf rfl<|aJ<|Zf rfl<|bC<|Zf rfl<|aF<|Za1<|bM (γ:=Nat) (fun i=>ls.length-i) (fun i=>i≤ls.length) (fun i=>[(8,qI (i:Int)),(7,qI (((ls.take i).map (lE y t)).foldl max 0:Nat))]) [(6,_),(3,_),(1,_),(2,_)] (fun i=>[E1,D]) 0 Yd ⟨Ya,Ya,bSM⟩ cF (aK) ?_;rintro i h1;refine bZ<|Za rfl<|Za rfl<|Zai rfl U284 rfl hs rfl<|Zan rfl<|aF<|Zae rfl (fun hc1=>?_) fun hc1=>?_
 ·have hi:i<ls.length:=Yd
  obtain⟨l,I⟩:=cT ls i;refine aQ<|Za3<|Za1<|bN [] 4 10 254<|Za rfl<|Zv rfl qQ rfl U nW<|Za rfl<|Za rfl<|Za rfl<|Zx rfl U284 Z2 rfl hs rfl I fun b1 o1 hF V hB Y=>?_;obtain⟨w1,rfl,Z⟩:=V;refine Zh 0 rfl aDC rfl Y rfl<|Zd rfl (fun D1 O=>aVA _ _ _ y t l _ (R.up (O _ Yf)) (ht.up RP.up (O _ Yf)) (Z.up R2.up (O _ Yf)) hyo hlen hb (hp l (n5 I)).1 (hp l (n5 I)).2)<|qW rfl rfl rfl rfl bSM<|Wu ?_;exact Zn 19 (i+1) ⟨Ya,(by rw[aLI I];rfl),bSM⟩ rfl Mm5
 ·obtain rfl:i=ls.length:=Yd
  rw[bNR];refine Wm ?_;exact aE rfl fun D hD=>rfl
def bAS(l:List Pt):List Γ:=l.flatMap fun p=>[qI p.a,qI p.b,qI p.c]
theorem aTH(l:List Pt)(p:Pt):bAS (l++[p])=bAS l++[qI p.a,qI p.b,qI p.c]:=by simp[bAS]
theorem bID{α:Type}{f:α→List Γ}{k:Nat}(hf:∀x,(f x).length=k)(l:List α):(l.flatMap f).length=l.length*k:=by
 induction l with
 |nil=>simp
 |cons c l ih=>rw[bNW,LE,ih,hf,bMX,bPR];omega
theorem GM{α:Type}{f:α→List Γ}{k:Nat}(hf:∀x,(f x).length=k){l:List α}{i:Nat}{c:α}(hi:l[i]?= some c):((l.flatMap f).drop (i*k)).take k=f c:=by
  induction l generalizing i with
  |nil=>simp at hi
  |cons d l ih=>
    rw[bNW];cases i with
    | zero => obtain rfl : d = c := by simpa using hi
              rw[bRB,bQQ,bOK (by rw[hf];omega),bNV (by rw[hf];omega)]
    |succ i=>
      rw[bRA,bOL (by rw[hf,bPR];omega),bOA];have:(i+1)*k-(f d).length=i*k:=by rw[hf,bPR];omega
      rw[this];exact ih Yau
theorem aPV(l:List Pt)(n:Nat)(h:l.length=n):(bAS l).length=n*3:=by rw[bAS,bID (k:=3) fun _=>rfl,h]
theorem _root_.Go.Fs.kZ.pts{D:aC}{v:Γ}{n:Nat}{l:List Pt}(hF:kZ D v n (bAS l))(hn:l.length=n)(hb:n≤9223372036854775807):Sl D RP 3 v l:=
 hF.sl hn hb fun _i _t hi=>⟨_,rfl,rfl,GM (k:=3) (fun _=>rfl) hi⟩
theorem LH(y:bA)(t:List Pt)(a b:Nat):kI y t a b=kI y t b a:=by
 unfold kI;cases t[a]? <;>cases t[b]? <;>cases y.chairs[a]? <;>cases y.chairs[b]? <;>try rfl
 rename_i p q x z;simp only;rw[aKP,aAH,show decide ((b:Int)≠a)=decide ((a:Int)≠b)from decide_eq_decide.2 ⟨fun h e=>h e.symm,fun h e=>h e.symm⟩]
theorem PT{y:bA}{t:List Pt}{a b:Nat}(h:kI y t a b=true):a<t.length∧b<t.length∧lS t a=true∧lS t b=true:=by
 unfold kI at h;split at h
 ·rename_i p q x z hp hq _ _;simp only[T5,bMS]at h;refine⟨(bMW.1 hp).1,(bMW.1 hq).1,?_,?_⟩
  ·unfold lS;rw[hp];exact h.2.1.1
  ·unfold lS;rw[hq];exact h.2.1.2
 ·simp at h
theorem aDX{y:bA}{t:List Pt}(I:t.length≤7):fB (dF y t).fits=kI y t:=by
 funext a b;unfold fB dF;simp only[bOP,bOD];by_cases ha:a<7
 ·rw[bRI ha,bOO,bQL,oJ];cases e:kI y t a b with
  |false=>simp
  |true=>simp[(PT e).2.1]
 ·rw[bPU Yaq];cases e:kI y t a b with
  |false=>simp
  |true=>have:=(PT e).1;omega
theorem ZY{y:bA}{t:List Pt}{a b:Nat}(h:kI y t a b=true):(dF y t).broken.testBit a=true∧(dF y t).broken.testBit b=true:=by
 obtain⟨h1,h2,h3,h4⟩:=PT h;simp only[dF,oJ];simp[h1,h2,h3,h4]
theorem bKO{y:bA}{t:List Pt}(hl:t.length=y.chairs.length)(I:t.length≤7):IS (kI y t) (dF y t).broken.testBit (BH (dF y t).fits y.chairs.length (dF y t).broken):=by
 have:=ZO (F:=(dF y t).fits) (n:=y.chairs.length) (fun a b=>by rw[aDX I];exact LH y t a b) _ (dF y t).broken (bNJ _) (S5 hl I).bits
 rwa [aDX I]at this
theorem d7{α:Type}(f:α→Nat)(w:Nat):∀(l:List α) (m:Nat),(l.map fun x=>w+f x).foldl max (w+m)=w+(l.map f).foldl max m
 | [],m=>rfl
 |x::l,m=>by
  rw[bNT,bNT,bNX,bNX,show max (w+m) (w+f x)=w+max m (f x) by omega];exact d7 f w l _
theorem JE{α:Type}(f:α→Nat)(w:Nat){l:List α}(h:l≠[]):(l.map fun x=>w+f x).foldl max 0=w+(l.map f).foldl max 0:=by
 cases l with
 |nil=>exact absurd rfl h
 |cons x l=>
  rw[bNT,bNT,bNX,bNX,show max 0 (w+f x)=w+max 0 (f x) by omega];exact d7 f w l _
theorem aHN(y:bA)(t:List Pt)(l:List (Nat×Nat)):lE y t (pI l)=whole t+aJM (kI y t) l:=by
 unfold lE aJM pI;rw[List.filter_map,bOB];rfl
theorem bGO(n k w:Nat)(h:k≤n):prs n k w≠[]:=fun e=>by
 obtain⟨l,hl,_⟩:=CN k w h [] ⟨Yf,by simp[rC]⟩;rw[e]at hl;simp at hl
theorem bDA{y:bA}{t:List Pt}(hl:t.length=y.chairs.length)(I:t.length≤7):(((prs y.chairs.length y.chairs.length 0).map pI).map (lE y t)).foldl max 0=E9 y t:=by
 rw[bRM,show(lE y t∘pI)=fun l=>whole t+aJM (kI y t) l from funext fun l=>aHN y t l,JE _ _ (bGO _ _ _ (bNJ _)),
  aUD (LH y t) (fun a b h=>ZY h) (S5 hl I).bits (bKO hl I)]
 rfl
theorem bHU{n m:Nat}(hn:n≤7)(hm:m=n):∀l∈(prs n n 0).map pI,(∀p∈l,∃x z:Nat,p=((x:Int),(z:Int))∧x<m∧z<m)∧l.length≤1000:=by
 intro l hl;obtain⟨l',hl',rfl⟩:=bMR.1 hl;have ok:=x3 n 0 (bNJ _) l' hl';refine⟨fun p hp=>?_,by have:=KT hn (bNJ _) hl';omega⟩
 obtain⟨q,hq,rfl⟩:=bMR.1 hp;obtain⟨_,h2,h3,_⟩:=ok.at_ q hq;exact⟨q.1,q.2,rfl,Yd,Yd⟩
def IG(st:List Int×Nat)(j:Nat):List Int×Nat:=if st.1[j]?= some 2 then(st.1.set j ((st.2:Int)%2),st.2 / 2)else st
def zH(l:List Int)(m k:Nat):List Int×Nat:=(List.range k).foldl IG (l,m)
theorem rN(l:List Int)(m k:Nat):zH l m (k+1)=IG (zH l m k) k:=by unfold zH;rw[bOG,bOR];rfl
theorem aQB{l:List Int}{m k:Nat}(h:(zH l m k).1[k]?= some 2):zH l m (k+1)=((zH l m k).1.set k (((zH l m k).2:Int)%2),(zH l m k).2 / 2):=by rw[rN,IG,bNK h]
theorem aXV{l:List Int}{m k:Nat}(h:(zH l m k).1[k]?≠some 2):zH l m (k+1)=zH l m k:=by rw[rN,IG,bNA h]
theorem WR(l:List Int)(m:Nat):∀k,(zH l m k).1.length=l.length
 |0=>rfl
 |k+1=>by rw[rN,IG];split<;>simp[WR l m k]
theorem aFO(l:List Int)(m:Nat):∀k,(zH l m k).2≤m
 |0=>bNJ _
 |k+1=>by
  have:=aFO l m k;rw[rN,IG];split
  ·simp only;omega
  ·exact this
def p1(x:Int)(m:Nat):Int×Nat:=if x=2 then((m:Int)%2,m / 2)else(x,m)
def p3(p:Pt)(m:Nat):Pt×Nat:=(⟨(p1 p.a m).1,(p1 p.b (p1 p.a m).2).1,(p1 p.c (p1 p.b (p1 p.a m).2).2).1⟩,(p1 p.c (p1 p.b (p1 p.a m).2).2).2)
theorem bHH(p:Pt)(m:Nat):zH p.l m 3=((p3 p m).1.l,(p3 p m).2):=by
 rw[rN,rN,rN];show IG (IG (IG (p.l,m) 0) 1) 2=_;unfold IG p3 p1 Pt.l;by_cases ha:p.a=2<;>by_cases hb:p.b=2<;>by_cases hc:p.c=2<;>simp[ha,hb,hc]
theorem aTD(x:Int)(m:Nat):(p1 x m).2≤m:=by unfold p1;split<;>(simp only;omega)
theorem bLP(p:Pt)(m:Nat):(p3 p m).2≤m:=bPD (aTD _ _) (bPD (aTD _ _) (aTD _ _))
def aGN(st:List Pt×Nat)(c:Ch):List Pt×Nat:=(st.1++[(p3 c.parts st.2).1],(p3 c.parts st.2).2)
def G1(l:List Ch)(n:Nat):List Pt×Nat:=l.foldl aGN ([],n)
theorem LW{l:List Ch}{n i:Nat}{x:Ch}(h:l[i]?= some x):G1 (l.take (i+1)) n=((G1 (l.take i) n).1++[(p3 x.parts (G1 (l.take i) n).2).1],(p3 x.parts (G1 (l.take i) n).2).2):=by
 unfold G1;rw[bMZ,h,bNU,bOR];rfl
theorem VQ:∀(l:List Ch) (st:List Pt×Nat),(l.foldl aGN st).1.length=st.1.length+l.length
 | [],st=>by simp
 |c::l,st=>by rw[bNX,VQ l];simp[aGN];omega
theorem ER(l:List Ch)(n:Nat):(G1 l n).1.length=l.length:=by unfold G1;rw[VQ];simp
theorem aEV:∀(l:List Ch) (st:List Pt×Nat),(l.foldl aGN st).2≤st.2
 | [],st=>bNJ _
 |c::l,st=>by rw[bNX];exact bPD (aEV l _) (bLP _ _)
theorem aXE(l:List Ch)(n:Nat):(G1 l n).2≤n:=aEV l _
theorem bJD(yv:Γ)(y:bA)(n:Nat)(D:aC)(hy:iY D yv y)(hN:y.chairs.length≤1000)(hn:n≤1000000):Fn prog 164 #[yv,qI (n:Int)] D (fun D' v=>Sl D' RP 3 v (G1 y.chairs n).1):=by
 obtain⟨cv,qv,rfl,hc,hq⟩:=hy;have hcl:=hc.len;refine Zw 41 func164 rfl (fun h0=>aA<|Zz rfl fun q1 E1 hO O=>Zf rfl<|aJ<|Zf rfl<|bC<|Zf rfl<|aF<|Za1<|Zc (Nat×Γ×aD×Nat) (fun g=>y.chairs.length-g.1) (fun g=>g.1≤y.chairs.length∧bI 232 3 g.2.1 g.1 (bAS (G1 (y.chairs.take g.1) n).1) g.2.2.1∧g.2.2.2=(G1 (y.chairs.take g.1) n).2) (fun g=>[(1,qI (g.2.2.2:Int)),(5,g.2.1),(6,qI (g.1:Int))]) [(4,_),(2,_)] (fun g=>g.2.2.1++[]) (fun g=>[E1,D]) (0,qN,[],n) ⟨Yf,by simpa [bAS,G1]using bI.nil,rfl⟩ ⟨Ya,Ya,Ya,bSM⟩ Mm5 ?_);rintro⟨i,v,ν,m⟩ ⟨h1,ha,hm⟩;simp only at h1 ha hm;refine bZ<|Za rfl<|Zj rfl iO rfl<|Zh 0 rfl pK rfl O rfl<|Zai rfl U61 rfl hc rfl<|Zan rfl<|aF<|Zae rfl (fun hc1=>?_) fun hc1=>?_
 ·have hi:i<y.chairs.length:=Yd
  obtain⟨x,hx⟩:=cT y.chairs i;have hmn:=aXE (y.chairs.take i) n;rw[←hm]at hmn;refine aQ<|Za3<|Za1<|aA<|Zj rfl iO rfl<|Zh 0 rfl pK rfl O rfl<|Za rfl<|Zx rfl U61 sG rfl hc rfl hx fun b1 o1 U V hI Y=>?_;obtain rfl:U=[qI _,qI _,qI _,qI _]:=V;refine Zj rfl AP rfl<|dX rfl (k:=1) uA fP rfl Y Yc rfl rfl n4 rfl bSM<|Zah rfl xD rfl fun q2=>Zab rfl fP ζ<|bC<|Zf rfl<|aF<|Za1<|gT (γ:=Nat) (fun k=>3-k) (fun k=>k≤3) (fun k=>[(1,qI ((zH x.parts.l m k).2:Int)),(8,qI (k:Int))]) [(7,_),(21,_),(20,_),(19,_),(18,_),(17,_),(16,_),(13,_),(12,_),(11,_),(10,_),(9,_),(5,_),(6,_),(4,_),(2,_)] (fun k=>(q2,qC (ints (zH x.parts.l m k).1) 232)::(ν++[])) (fun k=>[E1,D]) 0 Yd ⟨Ya,Ya,bSM⟩ cF Mm5 (aK) ?_;rintro k h2;refine bZ<|Za rfl<|Zan rfl<|aF<|Zae rfl (fun hc2=>?_) fun hc2=>?_
  ·have hk:k<3:=Yd
   have hkl:=WR x.parts.l m k;have hkm:=aFO x.parts.l m k;have hP:x.parts.l.length=3:=rfl;obtain⟨w,hw⟩:∃w,(zH x.parts.l m k).1[k]?= some w:=⟨_,bMU Yd⟩
   refine aQ<|Za3<|Za1<|aA<|Za rfl<|cA rfl U232 aH rfl rfl Yd Yd rfl bSM<|bD rfl aI rfl Mm0 (cO hw) n4 rfl bSM<|Zas rfl<|aF<|Zae rfl (fun hc3=>?_) fun hc3=>?_
   ·have Z:w=2:=hc3;refine aA<|Za rfl<|Za rfl<|sQ rfl rfl rfl Yd Yd Ye rfl bSM<|cA rfl U232 aH rfl rfl Yd Yd rfl bSM<|p5 rfl aH rfl rfl ζ (by rw[bOI,hkl];exact hk) bSM<|aF<|aO<|Za rfl<|j4 rfl rfl rfl Yd Yd Ye rfl bSM<|Zf rfl<|Zao ?_;refine Wa ?_;have R:=aQB (l:=x.parts.l) (m:=m) (k:=k) (Z▸hw);rw[show(zH x.parts.l m k).1.set (k:Int).toNat (((zH x.parts.l m k).2:Int)%2)=(zH x.parts.l m (k+1)).1 by rw[R];rfl]
    exact Zn 18 (k+1) ⟨(by rw[R];rfl),Ya,bSM⟩ rfl Mm5
   ·refine Wch ?_;have R:=aXV (l:=x.parts.l) (m:=m) (k:=k) fun e=>hc3 (bNS (hw.symm.trans e));rw[←R];exact Zn 11 (k+1) ⟨rfl,Ya,bSM⟩ rfl Mm5
  ·obtain rfl:k=3:=Yd
   rw[bHH];refine Za6<|Za2<|Za2<|Za7<|Zaz<|aO<|Za rfl<|bL rfl uA rfl Mm0 Xbb n4 rfl bSM<|Zt rfl U288 fP xD rfl (.cons rfl rfl .nil) fun hJ hK hB I=>aS (A:=[(_,_)]) (B:=[]) rfl U288 rfl rfl fP xD rfl bAN rfl rfl rfl ha (jY.lit I) Yf rfl (aPV _ _ (by simp only[ER,bON];omega)) (by simp[cell1,ints,Pt.l]) Yd (bNI rfl) rfl bSM fun v7 ν7 hE=>?_
   have hH:bI 232 3 v7 (i+1) (bAS (G1 (y.chairs.take (i+1)) n).1) ν7:=by rw[LW hx,aTH,←hm];simpa [ints,Pt.l]using hE
   refine Wu ?_;exact aL 26 (i+1,v7,ν7,(p3 x.parts m).2) ⟨Yn,hH,by rw[LW hx,←hm]⟩ Yn ⟨Ya,Ya,Ya,bSM⟩ rfl rfl (List.Sublist.cons _ Mm5) fun D h=>⟨D,bNM _ (h),Le.refl D⟩
 ·obtain rfl:i=y.chairs.length:=Yd
  rw[bNR]at ha;refine Za6<|Za2<|Za2<|Za7<|Zaz<|aA<|Za rfl<|Zf rfl<|aG<|dS (A:=[]) (B:=[]) ha rfl fun D2 hR hF=>?_;exact aE rfl fun D' hD=>(hF.pts (ER _ _) Yd).up RP.up (hD _ Yf)
theorem bBR(yv:Γ)(y:bA)(D:aC)(hy:iY D yv y)(U:y.chairs.length≤1000)(hu:dA y.chairs≤8):Fn prog 162 #[yv] D (fun _ v=>v=qI ((2^dA y.chairs:Nat):Int)):=by
 have I:=hy;obtain⟨cv,qv,rfl,hc,hq⟩:=hy;refine Zw 7 func162 rfl fun h0=>aA<|Zz rfl fun q1 E1 V O=>Zf rfl<|aJ<|Zv rfl qQ rfl O nW<|Zd rfl (fun Y R=>DR _ y _ (I.up (R _ Yf)) U)<|oU rfl U3 U380 rfl Ye rfl bSM<|CO rfl rfl rfl Yd rfl bSM<|We ?_;exact aE rfl fun D hD=>rfl
theorem QS{x:Int}(h:0≤x∧x≤2)(m:Nat):xI x (p1 x m).1=true:=by
 unfold p1 xI;rw[bMS,bS,bNZ,GT,GT];split
 ·rename_i e;exact⟨Yn,bNI e⟩
 ·rename_i e;exact⟨Yn,bNC rfl⟩
theorem bGN{p:Pt}(h:∀n∈p.l,0≤n∧n≤2)(m:Nat):T9 p (p3 p m).1=true:=by
 have ha:=h p.a (by simp[Pt.l]);have hb:=h p.b (by simp[Pt.l]);have hc:=h p.c (by simp[Pt.l]);simp only[T9,Pt.l,p3,bQO,List.zip_nil_left,bQU,List.all_nil,bSE,bMS];exact⟨QS ha _,QS hb _,QS hc _⟩
def rZ:List Ch→Nat→List Pt
 | [],_=>[]
 |c::l,n=>(p3 c.parts n).1::rZ l (p3 c.parts n).2
theorem aPD:∀(l:List Ch) (st:List Pt×Nat),(l.foldl aGN st).1=st.1++rZ l st.2
 | [],st=>by simp[rZ]
 |c::l,st=>by rw[bNX,aPD l];simp[aGN,rZ]
theorem aVQ(l:List Ch)(n:Nat):(G1 l n).1=rZ l n:=by unfold G1;rw[aPD];rfl
theorem aCG:∀(l:List Ch) (n:Nat),(∀c∈l,∀n∈c.parts.l,0≤n∧n≤2)→((l.zip (rZ l n)).all fun x=>T9 x.1.parts x.2)=true
 | [],n,_=>rfl
 |c::l,n,h=>by
  rw[rZ,bQO,bQU,bMS];exact⟨bGN (h c bMV) n,aCG l _ fun c hc=>h c (bMT _ hc)⟩
theorem JN{y:bA}(h:bFB y)(n:Nat):eJ y (G1 y.chairs n).1=true:=by
 unfold eJ;rw[bMS,GT];exact⟨ER _ _,by rw[aVQ];exact aCG _ _ h.part⟩
def FD(y:bA)(n:Nat):Int:=(E9 y (G1 y.chairs n).1:Nat)
def YQ(y:bA):List Int:=(List.range (2^dA y.chairs)).map (FD y)
theorem ZC(yv:Γ)(y:bA)(D:aC)(hy:iY D yv y)(hf:aZ y=0):Fn prog 81 #[yv] D (fun D' v=>Sl D' RI 1 v (YQ y)):=by
 have O:=hy;obtain⟨cv,qv,rfl,hc,hq⟩:=hy;have hyo:=bKE hf;have R:=hyo.len;have Y:=hyo.unk;have hcap:2^dA y.chairs≤2^8:=bOW Yd Y;unfold YQ;refine Zw 24 func81 rfl fun h0=>aA<|Zz rfl fun q1 E1 hR U=>Zf rfl<|aJ<|Zv rfl qQ rfl U nW<|Zy rfl (fun D1 Z=>RY R _ _ (O.up (Z _ Yf))) fun v1 D1 Z hI=>?_;have hps:=hI;refine Zf rfl<|aJ<|Zf rfl<|bC<|Zf rfl<|aF<|Za1<|Zc (Nat×Γ×aD) (fun g=>2^dA y.chairs-g.1) (fun g=>g.1≤2^dA y.chairs∧bI 3 1 g.2.1 (((List.range g.1).map (FD y))).length (ints (((List.range g.1).map (FD y)))) g.2.2) (fun g=>[(4,g.2.1),(5,qI (g.1:Int))]) [(3,_),(2,_),(1,_)] (fun g=>g.2.2++[]) (fun g=>[D1,E1,D]) (0,qN,[]) ⟨Yf,bI.nil⟩ ⟨Ya,Ya,bSM⟩ Mm5 ?_;rintro⟨k,v,ν⟩ ⟨h1,ha⟩;simp only at h1 ha;refine bZ<|Za rfl<|Zv rfl qQ rfl U nW<|Zd rfl (fun D2 hB=>bBR _ y _ (O.up (hB _ Yf)) Yd Y)<|Zan rfl<|aF<|Zae rfl (fun hc1=>?_) fun hc1=>?_
 ·have hk:k<2^dA y.chairs:=by simp only at hc1;omega
  have hit:=JN hyo k;obtain⟨hlen,hbt⟩:=aDV hit;refine aQ<|Za3<|Za1<|iZ [] 3 [0,1,2,3,5,4,6,7,8,9] [false,true,true,true,true,true,true,true,false,false] [(false,0),(true,1),(true,2),(true,3),(true,5),(true,4),(true,6),(true,7),(false,8),(false,9)] bB (fun _ _ _ h=>fW (P:=prog) (fn:=f81) _ _ _ h) Yg rfl<|Za rfl<|Zv rfl qQ rfl U nW<|Zv rfl qQ rfl U nW<|Za rfl<|Za rfl<|Zy rfl (fun D3 hE=>bJD _ y k _ (O.up (hE _ Yf)) Yd Yd) fun v3 D3 hE hJ=>?_;have hz:=hJ;refine Zd rfl (fun D4 V=>bAY _ _ _ y _ _ _ (O.up (V _ Yf)) (hz.up RP.up (V _ Yf)) (hps.up bJX.up (V _ Yf)) hyo hlen hbt (bHU R hlen))<|Zt rfl U25 aH cE rfl (.cons rfl rfl .nil) fun hO hP hK I=>?_;have hN:=Sl.ofInts (l:=[_]) (n:=1) (cap:=1) I rfl Yd Yd;refine aS (A:=[]) (B:=[]) rfl U25 rfl rfl aH cE rfl kD rfl rfl rfl ha (jY.lit I) Yf rfl Yf Yk (by have:=hcap;first|omega|(simp only[bOB,bQW];omega)) (Or.inl rfl) rfl bSM fun v7 ν7 hH=>?_
  have R:bI 3 1 v7 (((List.range (k+1)).map (FD y))).length (ints (((List.range (k+1)).map (FD y)))) ν7:=by rw[bOG,bNG];rw[bDA hlen Yd]at hH;simpa [ints,FD]using hH
  refine Wu ?_;exact aL 19 (k+1,v7,ν7) ⟨Yn,R⟩ Yn ⟨Ya,Ya,bSM⟩ rfl rfl Mm5 fun D h=>⟨D,bNM _ (bNM _ (h)),Le.refl D⟩
 ·obtain rfl:k=2^dA y.chairs:=by simp only at hc1;omega
  simp only[bOB,bQW]at ha;refine Za6<|Za2<|Za2<|Za7<|Zaz<|aA<|Za rfl<|Zf rfl<|aG<|dS (A:=[]) (B:=[]) ha rfl fun D2 hB hF=>?_;exact aE rfl fun D' hD=>(hF.ints Yf (by have:=hcap;omega)).up RI.up (hD _ Yf)
theorem WY{x t:Int}(h:xI x t=true){m B:Nat}(hm:m<B):∃n,p1 x n=(t,m)∧n<(if x=2 then 2 else 1)*B:=by
 unfold xI at h;rw[bMS,bS,bNZ,GT,GT]at h;unfold p1;by_cases hx:x=2
 ·obtain⟨b,rfl⟩:=Int.eq_ofNat_of_zero_le h.1.1;refine⟨2*m+b,?_,by rw[bNK hx];omega⟩
  rw[bNK hx,bQS];exact⟨Yd,Yd⟩
 ·refine⟨m,?_,by rw[bNA hx];omega⟩;rw[bNA hx,bQS];exact⟨by rcases h.2 with h|h;exact absurd h hx;exact h.symm,rfl⟩
theorem aYY(p:Pt):2^aAL p=(if p.a=2 then 2 else 1)*((if p.b=2 then 2 else 1)*(if p.c=2 then 2 else 1)):=by
 unfold aAL Pt.l;by_cases ha:p.a=2<;>by_cases hb:p.b=2<;>by_cases hc:p.c=2<;>simp[ha,hb,hc]
theorem bJM{p t:Pt}(h:T9 p t=true){m B:Nat}(hm:m<B):∃n,p3 p n=(t,m)∧n<2^aAL p*B:=by
 simp only[T9,Pt.l,bQO,List.zip_nil_left,bQU,List.all_nil,bSE,bMS]at h;obtain⟨c,I,h1⟩:=WY h.2.2 hm;obtain⟨b,O,h2⟩:=WY h.2.1 h1;obtain⟨a,R,h3⟩:=WY h.1 h2;refine⟨a,?_,?_⟩
 ·unfold p3;rw[R,O,I]
 ·rw[aYY,Nat.mul_assoc,Nat.mul_assoc];exact h3
theorem LG:∀(l:List Ch) (t:List Pt),t.length=l.length→((l.zip t).all fun x=>T9 x.1.parts x.2)=true→∃n,n<2^dA l∧rZ l n=t
 | [],[],_,_=>⟨0,by simp[dA],rfl⟩
 | [],_::_,h,_=>by simp at h
 |_::_,[],h,_=>by simp at h
 |c::l,p::t,h,ha=>by
  rw[bQO,bQU,bMS]at ha;obtain⟨m,hm,e⟩:=LG l t Yaw ha.2;obtain⟨n,I,hn⟩:=bJM ha.1 hm;refine⟨n,?_,?_⟩
  ·have:dA (c::l)=aAL c.parts+dA l:=by simp[dA]
   rw[this,Nat.pow_add];exact hn
  ·rw[rZ,I,e]
theorem aTW{y:bA}{t:List Pt}(h:eJ y t=true):∃n,n<2^dA y.chairs∧(G1 y.chairs n).1=t:=by
 unfold eJ at h;rw[bMS,GT]at h;obtain⟨n,hn,e⟩:=LG _ _ h.1 h.2;exact⟨n,hn,by rw[aVQ];exact e⟩
def IB(y:bA)(ms:List Int)(c:Nat):Bool:=ms.any fun m=>decide (jJ (rM y.claims m) y.claims.length&&&c=c)
theorem aOP{y:bA}{ms:List Int}{c k:Nat}{x:Int}(h:ms[k]?= some x):IB y (ms.take (k+1)) c=(IB y (ms.take k) c||decide (jJ (rM y.claims x) y.claims.length&&&c=c)):=by
 unfold IB;rw[bMZ,h,bNU,bQK];simp
theorem NN{y:bA}{ms:List Int}{c k:Nat}{x:Int}(h:ms[k]?= some x)(e:jJ (rM y.claims x) y.claims.length&&&c=c):IB y ms c=true:=by
 unfold IB;rw[bRD];exact⟨x,n5 h,decide_eq_true e⟩
theorem bGC(yv mv:Γ)(y:bA)(ms:List Int)(c:Nat)(D:aC)(hy:iY D yv y)(hm:Sl D RI 1 mv ms)(h5:y.claims.length≤5)(U:c<64):Fn prog 199 #[yv,mv,qI (c:Int)] D (fun _ v=>v=.bool (IB y ms c)):=by
 have I:=hy;obtain⟨cv,qv,rfl,hc,hq⟩:=hy;have hml:=hm.len;refine Zw 24 func199 rfl fun h0=>aA<|Zz rfl fun q1 E1 V O=>Zf rfl<|bC<|Zf rfl<|aF<|Za1<|bM (γ:=Nat) (fun k=>ms.length-k) (fun k=>k≤ms.length∧IB y (ms.take k) c=false) (fun k=>[(7,qI (k:Int))]) [(6,_),(3,_),(1,_),(2,_)] (fun k=>[E1,D]) 0 ⟨Yd,rfl⟩ ⟨Ya,bSM⟩ cF (aK) ?_;rintro k ⟨h1,h2⟩;refine bZ<|Za rfl<|Za rfl<|Zai rfl U25 rfl hm rfl<|Zan rfl<|aF<|Zae rfl (fun hc1=>?_) fun hc1=>?_
 ·have hk:k<ms.length:=Yd
  obtain⟨x,hx⟩:=cT ms k;have hbl:=k9 (rM y.claims x) y.claims.length;have Y:2^y.claims.length≤2^5:=bOW Yd h5;refine aQ<|Za3<|Za1<|Za3<|iZ [] 5 [0,1,2,3,4,6,8,5,7,9] [false,true,true,true,true,true,true,true,true,false] [(false,0),(true,1),(true,2),(true,3),(true,4),(true,6),(true,8),(true,5),(true,7),(false,9)] bB (fun _ _ _ h=>fW (P:=prog) (fn:=f199) _ _ _ h) Yg rfl<|Zv rfl qQ rfl O nW<|Za rfl<|Za rfl<|iW rfl hm rfl hx fun Z o1=>Za rfl<|Za rfl<|Zd rfl (fun D1 R=>aQT _ y x _ (I.up (R _ Yf)) Yd) ?_;refine aUT rfl rfl rfl Yd Yd rfl bSM<|Zas rfl<|aF<|Zae rfl (fun hc2=>?_) fun hc2=>?_
  ·refine aA<|Wi ?_;exact aE rfl fun D hD=>by show Value.bool _=_;rw[NN hx Yd]
  ·refine Wch ?_;exact aL 18 (k+1) ⟨Yd,by rw[aOP hx,h2,decide_eq_false Yd];rfl⟩ Yd ⟨Ya,bSM⟩ rfl rfl Mm5 (aK)
 ·obtain rfl:k=ms.length:=Yd
  rw[bNR]at h2;refine Wl ?_;exact aE rfl fun D hD=>by show Value.bool _=_;rw[h2]
theorem SZ{b c:Nat}:b&&&c=c ↔∀j,c.testBit j=true→b.testBit j=true:=by
 constructor
 ·intro h j hj;rw[←h,Nat.testBit_and,bMS]at hj;exact hj.1
 ·intro h;apply Nat.eq_of_testBit_eq;intro j;rw[Nat.testBit_and];cases e:c.testBit j with
  |false=>simp
  |true=>rw[h j e];rfl
theorem aYM{y:bA}(h:aZ y=0){c:Nat}:IB y (YQ y) c=true ↔∃t,eJ y t=true∧∀j,c.testBit j=true→j<y.claims.length∧rM y.claims (E9 y t:Nat) j=true:=by
 have hyo:=bKE h;unfold IB;rw[bRD];constructor
 ·rintro⟨m,hm,he⟩;unfold YQ at hm;obtain⟨n,_,rfl⟩:=bMR.1 hm;refine⟨_,JN hyo n,fun j hj=>?_⟩;have:=SZ.1 (bNP he) j hj;rw[oJ,bMS,GT]at this;exact this
 ·rintro⟨t,ht,hr⟩;obtain⟨n,hn,rfl⟩:=aTW ht;refine⟨FD y n,bMR.2 ⟨n,bOQ.2 hn,rfl⟩,decide_eq_true (SZ.2 fun j hj=>?_)⟩;rw[oJ,bMS,GT];exact hr j hj
theorem JI{cl:List (Int×Int)}{out:List Int}{n:Int}:nY cl out n=true ↔∀j,j<cl.length→(∃x∈out,(j:Int)=x)∨rM cl n j=true:=by
 unfold nY;rw[bNQ];have key:∀j,j<cl.length→(uI cl out n j=true ↔ (∃x∈out,(j:Int)=x)∨rM cl n j=true):=fun j hj=>by
  unfold uI rM;rw[bMU hj,bNZ,bRD];simp
 exact⟨fun h j hj=>(key j hj).1 (h j (bOQ.2 hj)),fun h j hj=>(key j (bOQ.1 hj)).2 (h j (bOQ.1 hj))⟩
def pos(y:bA)(l:List Int):Bool:=decide (0<((dC y l).length:Int))
theorem VN{m j:Nat}:(∃x∈aDH m,(j:Int)=x) ↔ j<7∧m.testBit j=true:=by
 unfold aDH bFL;constructor
 ·rintro⟨x,hx,e⟩;obtain⟨i,hi,rfl⟩:=bMR.1 hx;obtain rfl:j=i:=Yd
  rw[bQF,bOQ]at hi;exact hi
 ·rintro⟨h1,h2⟩;exact⟨(j:Int),bMR.2 ⟨j,bQF.2 ⟨bOQ.2 h1,h2⟩,rfl⟩,rfl⟩
theorem bBX{y:bA}(h:aZ y=0){b:Nat}:pos y (aDH b)=IB y (YQ y) (pP (2^y.claims.length-1) b):=by
 have h5:=(bKE h).cls;unfold pos;have bit:∀j,(pP (2^y.claims.length-1) b).testBit j=(decide (j<y.claims.length)&& !b.testBit j):=fun j=>by rw[S0,Nat.testBit_two_pow_sub_one]
 rw[bPT,GT,FC,aYM h];constructor
 ·rintro⟨t,h1,h2⟩;refine⟨t,h1,fun j hj=>?_⟩;rw[bit,bMS,GT,bPQ]at hj;refine⟨hj.1,?_⟩;rcases JI.1 h2 j hj.1 with h3|h3
  ·rw[(VN.1 h3).2]at hj;simp at hj
  ·exact h3
 ·rintro⟨t,h1,h2⟩;refine⟨t,h1,JI.2 fun j hj=>?_⟩;cases e:b.testBit j with
  |true=>exact bNI (VN.2 ⟨Yd,e⟩)
  |false=>exact bNC (h2 j (by rw[bit,e];simp[hj])).2
end L7
namespace L12
open C12 Go.Lib
theorem JK{step:Int}{p:Option Int}{n:Int}{l:List Int}:L2.nC step p (n::l)=(C2.lJ step p n&&L2.nC step (some n) l):=by rw[L2.nC]
theorem zX{step:Int}:∀{rs:List (Int×Int)} {p:Option Int} {l:List Int},l∈C2.iN step rs p ↔ L2.aLZ rs l∧L2.nC step p l=true
 | [],p,l=>by
  cases l with
  |nil=>simp[C2.iN,L2.aLZ,L2.nC]
  |cons x l=>simp[C2.iN,L2.aLZ]
 |r::rs,p,l=>by
  simp only[C2.iN,bQT,bOQ];constructor
  ·rintro⟨m,hm,h⟩;split at h
   ·rename_i hn;obtain⟨u,hu,rfl⟩:=bMR.1 h;obtain⟨h1,h2⟩:=zX.1 hu;refine⟨⟨by unfold C2.fO at hm;omega,h1⟩,?_⟩
    rw[JK,hn,h2];rfl
   ·cases h
  ·cases l with
   |nil=>rintro⟨h,_⟩;exact h.elim
   |cons x l=>
    rintro⟨⟨h1,h2⟩,h3⟩;rw[JK,bMS]at h3;have e:r.1+(((x-r.1).toNat:Nat):Int)=x:=Yd
    refine⟨(x-r.1).toNat,by unfold C2.fO;omega,?_⟩;rw[e,bNK h3.1];exact bMR.2 ⟨l,zX.2 ⟨h2,h3.2⟩,rfl⟩
theorem aPY:∀{rs:List (Int×Int)} {l:List Int},L2.aLZ rs l→∃n,n<L2.pS rs∧L2.rZ rs n=l
 | [],[],_=>⟨0,Nat.zero_lt_one,rfl⟩
 |r::rs,x::l,h=>by
  obtain⟨n,hn,rfl⟩:=aPY h.2;have h1:=h.1;have hm:(x-r.1).toNat<L2.G4 r:=by unfold L2.G4;omega
  have I:((x-r.1).toNat+L2.G4 r*n)%L2.G4 r=(x-r.1).toNat:=by rw[Nat.add_mul_mod_self_left,Nat.mod_eq_of_lt hm]
  have O:((x-r.1).toNat+L2.G4 r*n) / L2.G4 r=n:=by rw[Nat.add_mul_div_left _ _ Yd,Nat.div_eq_of_lt hm,bQB]
  refine⟨(x-r.1).toNat+L2.G4 r*n,?_,?_⟩
  ·have:L2.G4 r*(n+1)≤L2.G4 r*L2.pS rs:=Nat.mul_le_mul_left _ hn;rw[L2.pS];rw[Nat.mul_add,bPK]at this;omega
  ·rw[L2.rZ,I,O];congr 1;omega
section
variable{s:aM}(hk:lY s)(h:kG s)
include hk h
theorem kG.t3:L2.T3 s.table:=⟨hk.ht,h.hts,h.step,hk.mks,fun m hm=>by have:=h.mark m hm;omega⟩
theorem AO{l:List Int}:l∈L2.nV s.table ↔ l∈C2.fD s.table:=by
 constructor
 ·intro hl;exact zX.2 (L2.MI (h.t3 hk) hl)
 ·intro hl;obtain⟨h1,h2⟩:=zX.1 hl;obtain⟨n,hn,rfl⟩:=aPY h1;exact bQF.2 ⟨bMR.2 ⟨n,bOQ.2 hn,rfl⟩,h2⟩
theorem EH{l:List Int}:l∈L2.PH s.table ↔ l∈C2.bK s.table:=by
 unfold L2.PH;rw[bQF,AO hk h];exact⟨fun⟨a,b⟩=>TX a b,fun a=>⟨IY a,aHU a⟩⟩
end
theorem CJ{α:Type}{a b:List α}(h:∀x,x∈a ↔ x∈b):a=[] ↔ b=[]:=by
 rw[List.eq_nil_iff_forall_not_mem,List.eq_nil_iff_forall_not_mem];exact forall_congr' fun x=>not_congr (h x)
def bHW(l:C3.eS):Prop:=(1≤l.kind∧l.kind≤2)∧(0≤l.chair∧l.chair≤2)∧ -1≤l.token∧l.token≤2
theorem aUU{l:C3.eS}(h:bHW l):(L3.WU 3 l 2).length=(C3.cN 3 l).length∧((C3.cN 3 l).length=1∨(C3.cN 3 l).length=3):=by
 obtain⟨k,c,t⟩:=l;obtain⟨h1,h2,h3⟩:=h;simp only at h1 h2 h3;have I:k=1∨k=2:=Yd
 have O:c=0∨c=1∨c=2:=Yd
 have R:t= -1∨t=0∨t=1∨t=2:=Yd
 rcases I with rfl|rfl<;>rcases O with rfl|rfl|rfl<;>rcases R with rfl|rfl|rfl|rfl<;>decide
theorem ML:∀(ls:List C3.eS) (a b:Int),(∀l∈ls,bHW l)→0≤a→(a=b∧a≤4096∨a=4097∧4097≤b∧b≤5000)→
  (4096<ls.foldl (fun m l=>min (m*((C3.cN 3 l).length:Int)) 4097) a ↔ 4096<ls.foldl (fun(m:Int) l=>min 5000 (m*((L3.WU 3 l 2).length:Int))) b)
 | [],a,b,_,_,h=>by simp only[List.foldl_nil];omega
 |l::ls,a,b,hl,h0,h=>by
  obtain⟨O,I⟩:=aUU (hl l bMV);rw[bNX,bNX,O];refine ML ls _ _ (fun x hx=>hl x (bMT _ hx)) ?_ ?_
  ·rcases I with e|e<;>rw[e]<;>omega
  ·rcases I with e|e<;>rw[e]<;>omega
theorem RV{ls:List C3.eS}(h:∀l∈ls,bHW l):4096<C3.tL 3 ls ↔ 4096<L3.j6 3 ls:=ML ls 1 1 h Yt Yd
theorem VD{y:C7.bA}(h:C7.aZ y=0):L7.IB y (L7.YQ y) (2^y.claims.length-1)=decide (L7.dC y []≠[]):=by
 have h1:=L7.bBX h (b:=0);have I:L7.aDH 0=[]:=Yt
 have O:pP (2^y.claims.length-1) 0=2^y.claims.length-1:=by
  apply Nat.eq_of_testBit_eq;intro j;rw[S0];simp
 rw[I,O]at h1;rw[←h1,L7.pos];cases L7.dC y []<;>simp
abbrev aIJ:ZQ:=⟨66,224,158,227,254,234,165⟩
section
variable{α:Type}{x y:α}{a b c:List α}
theorem aYD:x::a=[x]++a++[]:=Yf
theorem bCY:x::(a++b)=[x]++a++b:=rfl
theorem aJW:x::(a++b)=([x]++a)++b++[]:=Yf
theorem bKX:x::(a++(b++c))=([x]++a)++b++c:=Yf
theorem bLL:x::(a++(b++c))=([x]++a++b)++c++[]:=Yf
theorem bMJ:x::((a++b)++c)=(x::a)++(b++c):=Yf
theorem bd2:x::(a++(b++[y]))=([x]++(a++b))++y::[]:=Yf
theorem bd3:([x]++(a++b))++c++[]=x::(a++(b++c)):=Yf
theorem bMQ:([x]++a)++b++[]=x::(a++b):=Yf
theorem bd0:[x]++a++[]=x::a:=Yf
end
section
variable{P:Program}{X:Cx}{γb:Type}[Membership Nat γb]{bad:γb}{all:Array Oper}{K:Act→Δ→Prop}{Q:Exit→Act→Δ→Prop}
variable{σ:bU}{Ds:List aC}{os:List (Bool×Nat)}{fl:Bool}{ix d:Nat}{x y:Operand}{pos:String}{aft:Array Edge}{g:Option (Nat×Bool)}
theorem QZ{α:Type}{f:α→List Γ}{n:Nat}(A B:aD)(hf:aNI f n){t e tr:Θ}{xs:List α}{b i o cap c2:Nat}{junk:List Γ}{ats:Array Θ}
  (ho:all[ix]?= some ⟨some d,.call {callee:=.builtin .append,args:=#[x,y],argTypes:=ats},tr,pos,aft,g⟩) (ht:P.underlying t=some (.slice e)) (hat:ats[0]?= some t) (I:ats[1]?= some t) (hs:TS P e n)
  (hx:ev σ x=some (qS b i cap)) (hy:ev σ y=some (.slice (some ⟨b,o,none⟩) (xs.length-(i+1)) c2)) (hi:i<xs.length) (hcap:xs.length≤cap) (hO:i+1<cap→o=(i+1)*n) (hl1:(xs.flatMap f).length=xs.length*n) (O:(xs.flatMap f++junk).length=cap*n)
  (hfl:fl=false∨b∈bad) (hg:cQ all σ g) (kk:∀v' ν',bI e n v' (xs.eraseIdx i).length ((xs.eraseIdx i).flatMap f) ν'→WL P X bad all K Q os ((d,v')::σ) (A++ν'++B) Ds) (hN:Nat.blt d X.N=true:=by rfl):WL P X bad all K Q ((fl,ix)::os) σ (A++(b,qC (xs.flatMap f++junk) e)::B) Ds:=by
 refine wA (A:=A) (B:=B) (sz:=n) (xs:=(xs.drop (i+1)).flatMap f) ho ht hat I hs hx hy (Z8 hf.1 hi hcap hO O) (zM hf.1) Yd Yaf (dE hf.2 _) hfl hN hg ?_;rw[show i+(xs.length-(i+1))=xs.length-1 by omega,yL hf.1 hi];refine Zaa (A++[(b,_)]++B) (by simp only[bND,bQJ];rfl) (kk _ _ ?_)
 rw[bSG hi];exact bNC ⟨b,cap,_,rfl,Yd,rfl,by rw[dD hf.1,bSG hi],Q4 hf.1 hi hl1 O hcap⟩
end
def F0(w:Λ)(ns:List Int)(act:eH):Prop:=kX.find? (fun x=>x.1==w.data.toList)=some (w.data.toList,ns.length,act)
theorem jT{w:Λ}{ns:List Int}{act act2:eH}{I:List UInt8}{k2:Nat}(h:F0 w ns act)(h2:kX.find? (fun x=>x.1==w.data.toList)=some (I,k2,act2)):ns.length=k2∧act=act2:=by
 have h3:=bNS (h.symm.trans h2);simp only[bQS]at h3;exact h3.2
def bT(G:List Λ)(w:Λ)(act:eH)(s:aM)(ns:List Int)(e:Int)(s':aM):Prop:=(e= -1∧s'=s∧w∉G)∨(e=0∧act s ns=.ok s')∨(0<e∧act s ns=.error e)
theorem bT.err{G:List Λ}{w:Λ}{act:eH}{s s':aM}{ns:List Int}{e:Int}(h:act s ns=.error e)(he:0<e:=by decide):bT G w act s ns e s':=bNC (bNC ⟨he,h⟩)
theorem bT.ok{G:List Λ}{w:Λ}{act:eH}{s s':aM}{ns:List Int}(h:act s ns=.ok s'):bT G w act s ns 0 s':=bNC (bNI ⟨rfl,h⟩)
theorem XB(sv:Γ)(s:aM)(D:aC)(hs:gG D sv s)(hsm:O7 s):IU prog 104 #[sv] D (fun D' v ν=>∃(cs:List Γ) (ν' νz:aD),v=.agg cs.toArray∧ν=ν'++νz∧cs.length=17∧(∀u∈cs,cell1 u=true)∧∀q,pQ aIJ D' q s ((q,qC cs 66)::ν')):=by
 obtain⟨pv,cv,hv,lv,mv,bl,bc,yc,yq,rfl,hL⟩:=hs;unfold dO;refine qR 52 func104 rfl rfl rfl rfl fun h0=>?_;refine aA ?_;refine EQ rfl (e:=66) rfl rfl rfl bSM fun q1=>?_;refine Zah rfl L5 rfl fun q2=>?_;refine bO ?_;refine iZ [] 2 [0,1,2,4,5,6,3,8,9,7,10,11,12,13] [false,false,false,true,true,true,true,false,false,true,false,false,false,false] [(false,0),(false,1),(false,2),(true,4),(true,5),(true,6),(true,3),(false,8),(false,9),(true,7),(false,10),(false,11),(false,12),(false,13)] bB (fun _ _ _ h=>fW (P:=prog) (fn:=f104) _ _ _ h) Yg rfl ?_;refine Zj rfl uW rfl ?_;refine Zj rfl jL rfl ?_;refine Zp rfl cD rfl Mm1 rfl ?_;refine Zj rfl uW rfl ?_;refine Zj rfl jX rfl ?_;refine Zp rfl xM rfl Mm1 rfl ?_;refine aS (A:=[]) (ν:=[]) (B:=_) rfl U25 rfl rfl aH cE rfl kD rfl rfl rfl bI.nil (jY.of (cells:=cI) (fun _ _ _ h=>h) (fun _=>rfl) hL.pl) Yf (dD (n:=1) (fun _=>rfl) s.row.places) rfl (dE l7 s.row.places) (by have:=hsm.pl;omega) Yam rfl bSM fun I ν1 hx1=>?_
 have U:bI 3 1 I s.row.places.length (s.row.places.flatMap cI) ν1:=by simpa using hx1
 refine aV (ν1++_) Ya9 ?_;refine Zj rfl uW rfl ?_;refine Zj rfl jL rfl ?_;refine aS (A:=[]) (ν:=[]) (B:=_) rfl U50 rfl rfl sI A1 rfl QD rfl rfl rfl bI.nil (jY.of (cells:=cC) (fun _ _ _ h=>h) (fun _=>rfl) hL.ct) Yf (dD (n:=3) (fun _=>rfl) s.row.counts) rfl (dE c7 s.row.counts) (by have:=hsm.ct;omega) Yam rfl bSM fun O ν2 hx2=>?_
 have V:bI 224 3 O s.row.counts.length (s.row.counts.flatMap cC) ν2:=by simpa using hx2
 refine aV (ν2++_) Ya9 ?_;refine Zaa ((ν2++ν1)++(q2,_)::(q1,_)::[]) ((bND _ _ _).symm) ?_;refine Zs (dO s I cv hv lv mv bl bc yc yq) rfl U.cells1 fR (.app (.tail .head)) rfl U.cell1 ?_;refine Zj rfl uW rfl ?_;refine Zj rfl jX rfl ?_;refine Zs (dO s I O hv lv mv bl bc yc yq) rfl V.cells1 DZ (.app (.tail .head)) rfl V.cell1 ?_;refine bO ?_;refine iZ [] 2 [0,1,2,4,5,6,8,9,10,3,12,13,7,11,14,15,16,17,18,19,20] [false,false,false,true,true,true,true,true,true,true,false,false,true,true,false,false,false,false,false,false,false] [(false,0),(false,1),(false,2),(true,4),(true,5),(true,6),(true,8),(true,9),(true,10),(true,3),(false,12),(false,13),(true,7),(true,11),(false,14),(false,15),(false,16),(false,17),(false,18),(false,19),(false,20)] bB (fun _ _ _ h=>fW (P:=prog) (fn:=f104) _ _ _ h) Yg rfl ?_;refine Zj rfl oF rfl ?_;refine Zj rfl mY rfl ?_;refine Zp rfl xR rfl (GE _ Mm1) rfl ?_;refine Zj rfl oF rfl ?_;refine Zj rfl vQ rfl ?_;refine Zp rfl cD rfl (GE _ Mm1) rfl ?_;refine Zj rfl oF rfl ?_;refine Zj rfl mQ rfl ?_;refine Zp rfl H3 rfl (GE _ Mm1) rfl ?_;refine aS (A:=[]) (ν:=[]) (B:=_) rfl U53 rfl rfl mF tT rfl bDR rfl rfl rfl bI.nil (jY.of (cells:=cP) (fun _ _ _ h=>h) (fun _=>rfl) hL.ht) Yf (dD (n:=2) (fun _=>rfl) s.table.heights) rfl (dE yE s.table.heights) (by have:=hsm.ht;omega) Yam rfl bSM fun R ν3 hJ=>?_
 have Y:bI 158 2 R s.table.heights.length (s.table.heights.flatMap cP) ν3:=by simpa using hJ
 refine aV (ν3++_) Ya9 ?_;refine Zj rfl oF rfl ?_;refine Zj rfl mY rfl ?_;refine aS (A:=[]) (ν:=[]) (B:=_) rfl U25 rfl rfl aH cE rfl kD rfl rfl rfl bI.nil (jY.of (cells:=cI) (fun _ _ _ h=>h) (fun _=>rfl) hL.lev) Yf (dD (n:=1) (fun _=>rfl) s.table.levels) rfl (dE l7 s.table.levels) (by have:=hsm.lev;omega) Yam rfl bSM fun Z ν4 hK=>?_
 have hB:bI 3 1 Z s.table.levels.length (s.table.levels.flatMap cI) ν4:=by simpa using hK
 refine aV (ν4++_) Ya9 ?_;refine aS (A:=[]) (ν:=[]) (B:=_) rfl U54 rfl rfl wG DC rfl aCX rfl rfl rfl bI.nil (jY.of (cells:=cM) (fun _ _ _ h=>h) (fun _=>rfl) hL.mks) Yf (dD (n:=4) (fun _=>rfl) s.table.marks) rfl (dE m3 s.table.marks) (by have:=hsm.mks;omega) Yam rfl bSM fun w5 ν5 hN=>?_
 have hE:bI 227 4 w5 s.table.marks.length (s.table.marks.flatMap cM) ν5:=by simpa using hN
 refine aV (ν5++_) Ya9 ?_;refine Zaa ((ν5++(ν4++(ν3++(ν2++ν1))))++(q2,_)::(q1,_)::[]) (bKD _ _ _ _ _) ?_;refine Zs (dO s I O R lv mv bl bc yc yq) rfl Y.cells1 aUA (.app (.tail .head)) rfl Y.cell1 ?_;refine Zj rfl oF rfl ?_;refine Zj rfl vQ rfl ?_;refine Zs (dO s I O R Z mv bl bc yc yq) rfl hB.cells1 fR (.app (.tail .head)) rfl hB.cell1 ?_;refine Zj rfl oF rfl ?_;refine Zj rfl mQ rfl ?_;refine Zs (dO s I O R Z w5 bl bc yc yq) rfl hE.cells1 RE (.app (.tail .head)) rfl hE.cell1 ?_;refine aJ ?_;refine Zj rfl J8 rfl ?_;refine Zj rfl iG rfl ?_;refine Zp rfl sC rfl (GE _ Mm1) rfl ?_;refine aS (A:=[]) (ν:=[]) (B:=_) rfl U57 rfl rfl lK qU rfl CE rfl rfl rfl bI.nil (jY.of (cells:=cL) (fun _ _ _ h=>h) (fun _=>rfl) hL.ln) Yf (dD (n:=3) (fun _=>rfl) s.book.lines) rfl (dE m5 s.book.lines) (by have:=hsm.ln;omega) Yam rfl bSM fun w6 ν6 hO=>?_
 have hF:bI 254 3 w6 s.book.lines.length (s.book.lines.flatMap cL) ν6:=by simpa using hO
 refine aV (ν6++_) Ya9 ?_;refine Zj rfl J8 rfl ?_;refine Zj rfl iG rfl ?_;refine Zaa ((ν6++(ν5++(ν4++(ν3++(ν2++ν1)))))++(q2,_)::(q1,_)::[]) ((bND _ _ _).symm) ?_;refine Zs (dO s I O R Z w5 w6 bc yc yq) rfl hF.cells1 ID (.app (.tail .head)) rfl hF.cell1 ?_;refine bO ?_;refine iZ [] 2 [0,1,2,4,5,6,3,8,9,7,10,11,12,13] [false,false,false,true,true,true,true,false,false,true,false,false,false,false] [(false,0),(false,1),(false,2),(true,4),(true,5),(true,6),(true,3),(false,8),(false,9),(true,7),(false,10),(false,11),(false,12),(false,13)] bB (fun _ _ _ h=>fW (P:=prog) (fn:=f104) _ _ _ h) Yg rfl ?_;refine Zj rfl oA rfl ?_;refine Zj rfl iO rfl ?_;refine Zp rfl pK rfl (GE _ Mm1) rfl ?_;refine Zj rfl oA rfl ?_;refine Zj rfl kU rfl ?_;refine Zp rfl xG rfl (GE _ Mm1) rfl ?_;refine aS (A:=[]) (ν:=[]) (B:=_) rfl U61 rfl rfl sG CL rfl aEY rfl rfl rfl bI.nil (jY.of (cells:=cH) (fun _ _ _ h=>h) (fun _=>rfl) hL.ch) Yf (dD (n:=4) (fun _=>rfl) s.yard.chairs) rfl (dE GR s.yard.chairs) (by have:=hsm.ch;omega) Yam rfl bSM fun w7 ν7 hP=>?_
 have hH:bI 234 4 w7 s.yard.chairs.length (s.yard.chairs.flatMap cH) ν7:=by simpa using hP
 refine aV (ν7++_) Ya9 ?_;refine Zj rfl oA rfl ?_;refine Zj rfl iO rfl ?_;refine aS (A:=[]) (ν:=[]) (B:=_) rfl U62 rfl rfl wV CF rfl aDG rfl rfl rfl bI.nil (jY.of (cells:=cP) (fun _ _ _ h=>h) (fun _=>rfl) hL.cl) Yf (dD (n:=2) (fun _=>rfl) s.yard.claims) rfl (dE yE s.yard.claims) (by have:=hsm.cl;omega) Yam rfl bSM fun w8 ν8 hR=>?_
 have hI:bI 165 2 w8 s.yard.claims.length (s.yard.claims.flatMap cP) ν8:=by simpa using hR
 refine aV (ν8++_) Ya9 ?_;refine Zaa ((ν8++(ν7++(ν6++(ν5++(ν4++(ν3++(ν2++ν1)))))))++(q2,_)::(q1,_)::[]) (bKA _ _ _ _) ?_;refine Zs (dO s I O R Z w5 w6 bc w7 yq) rfl hH.cells1 YU (.app (.tail .head)) rfl hH.cell1 ?_;refine Zj rfl oA rfl ?_;refine Zj rfl kU rfl ?_;refine Zs (dO s I O R Z w5 w6 bc w7 w8) rfl hI.cells1 PB (.app (.tail .head)) rfl hI.cell1 ?_;refine bO ?_;have hcc:∀u∈dO s I O R Z w5 w6 bc w7 w8,cell1 u=true:=by
  simp[dO,cell1];exact⟨U.cell1 _ Yf,V.cell1 _ Yf,Y.cell1 _ Yf,hB.cell1 _ Yf,hE.cell1 _ Yf,hF.cell1 _ Yf,oI hL.cn,hH.cell1 _ Yf,hI.cell1 _ Yf⟩
 refine aO ?_;refine Zag rfl nF rfl (GE _ Mm1) hG ?_;refine Zac rfl hG (.app ζ) hcc ?_;refine aG ?_;exact Zo [_] rfl ⟨⟨_,_,_,rfl,(GE _ Mm0),bNC ⟨nF,hG,rfl⟩⟩,bSM⟩ fun D hD=>⟨dO s I O R Z w5 w6 bc w7 w8,_,_,rfl,rfl,rfl,hcc,fun q=>⟨I,O,R,Z,w5,w6,bc,w7,w8,ν1,ν2,ν3,ν4,ν5,ν6,ν7,ν8,rfl,U,V,Y,hB,hE,hF,hL.cn.up vK.up (hD _ Yf),hH,hI⟩⟩
theorem W0(a b n:Int)(D:aC):Fn prog 197 #[qI a,qI b,qI n] D (fun _ v=>v=.bool (decide (a≤b)&&decide (b≤n))):=by
 refine Zw 15 func197 rfl fun h0=>Wad ?_;refine' bX 4 (s:=10) (p:=14) rfl (fun I=>?_) (fun I=>?_) ?_;rotate_left
 ·refine Wbh ?_;exact aN 3
 ·refine Wc ?_;exact aN 3
 refine We ?_;exact aE rfl fun D hD=>rfl
def uF:List Λ:=[⟨#[112,108,97,99,101]⟩,⟨#[115,101,101,110]⟩,⟨#[99,111,117,110,116]⟩,⟨#[98,97,99,107]⟩,⟨#[117,110,99,111,117,110,116]⟩,⟨#[119,114,111,110,103]⟩,⟨#[111,102,102]⟩]
theorem ZL(wb:Nat)(s:aM)(pv cv hv lv mv bl bc yc yq nv:Γ)(w:Λ)(ns:List Int)(act:eH)(ν1 ν2:aD)(D:aC)(hn:Sl D RI 1 nv ns)(hact:F0 w ns act)(hr:∀x∈ns,0≤x∧x≤999)(hk:lY s)(_hg:kG s)(h1:bI 3 1 pv s.row.places.length (s.row.places.flatMap cI) ν1)(h2:bI 224 3 cv s.row.counts.length (s.row.counts.flatMap cC) ν2):kH prog 105 [qP wb,.string w,nv] D ((wb,qC (dO s pv cv hv lv mv bl bc yc yq) 66)::(ν1++ν2)) (fun _ v ν'=>∃(e:Int) (r:C1.dH),v=qI e∧bT uF w act s ns e (mD s r)∧∃pv' cv' ν1' ν2',ν'=(wb,qC (dO (mD s r) pv' cv' hv lv mv bl bc yc yq) 66)::(ν1'++ν2')∧bI 3 1 pv' r.places.length (r.places.flatMap cI) ν1'∧bI 224 3 cv' r.counts.length (r.counts.flatMap cC) ν2') (fun _=>False):=by
 have k1:=hk.pl;have k2:=hk.ct;refine eI 149 func105 rfl rfl rfl rfl fun h0 hwl hwn=>aA<|Zf rfl<|bC<|Za rfl<|aF<|Za1<|aA<|Zaw rfl<|Zf rfl<|aF<|Zaf rfl (fun hc1=>?_) fun hc1=>?_
 ·obtain rfl:=bNP hc1;obtain⟨hl,rfl⟩:=jT (k2:=0) (act2:=zT) hact rfl;obtain rfl:ns=[]:=bQA hl;refine bZ<|Za rfl<|Zam rfl<|Zj rfl jL rfl<|Zp rfl cD rfl Mm0 rfl<|bR rfl U25 rfl h1 rfl rfl bSM<|Zas rfl<|aF<|Zaf rfl (fun hc2=>?_) (fun hc2=>?_)
  ·have hP:=hc2;simp only[GT]at hP;refine Wh ?_;exact bE rfl fun D' hD=>⟨3,s.row,rfl,bT.err Xcb,pv,cv,ν1,ν2,rfl,h1,h2⟩
  ·have hP:=hc2;simp only[bMY]at hP;refine aQ<|aO<|Za rfl<|Za rfl<|Zam rfl<|Zj rfl jL rfl<|Zp rfl cD rfl Mm0 rfl<|Zt rfl U25 aH cE rfl (.cons rfl rfl .nil) fun b901 D901 hD901 I=>?_;have hS901:=Sl.ofInts (l:=[_]) (n:=1) (cap:=1) I rfl Yd Yd;refine Zaa ([(wb,_)]++ν1++ν2) bCY<|xF [(wb,_)] ν2 aNH 2 rfl U25 rfl rfl aH cE rfl kD rfl rfl rfl h1 I Yd Yr bSM fun v1 νx hx=>Zaa ((wb,_)::(νx++ν2)) bCY.symm<|Zam rfl<|Zj rfl jL rfl<|Zs (dO s v1 cv hv lv mv bl bc yc yq) rfl hx.cells1 fR .head rfl hx.cell1<|Zao<|Wac ?_;exact bE rfl fun D' hD=>⟨0,{s.row with places:=s.row.places++[2]},rfl,bT.ok Xcb,v1,cv,νx,ν2,rfl,hx,h2⟩
 ·refine aA<|Zaw rfl<|Zf rfl<|aF<|Zaf rfl (fun hc3=>?_) (fun hc3=>?_)
  ·obtain rfl:=bNP hc3;obtain⟨hl,rfl⟩:=jT (k2:=2) (act2:=o7) hact rfl;obtain⟨a,b,rfl⟩:=Z7 hl;obtain⟨bt,ot,ct,rfl⟩:=dB hn Yf;have hbt:=eP hn;have O:=hr a Yf;have hb9:=hr b Yf;refine Za3<|Za3<|aU [] 5 9 248<|Za rfl<|aT rfl hn<|Za rfl<|Zam rfl<|Zj rfl jL rfl<|Zp rfl cD rfl Mm0 rfl<|bR rfl U25 rfl h1 rfl rfl bSM<|Wbb ?_;refine Zaf rfl (fun hc4=>?_) (fun hc4=>?_)
   ·have hR:=hc4;simp only[GT]at hR;refine Wh ?_;exact bE rfl fun D' hD=>⟨7,s.row,rfl,bT.err Ya6,pv,cv,ν1,ν2,rfl,h1,h2⟩
   ·have hR:=hc4;simp only[bMY]at hR;refine aQ<|bZ<|Za rfl<|aT rfl hn<|Zaq rfl<|aF<|Zaf rfl (fun hS=>?_) (fun hS=>?_)
    ·have hX:=hS;simp only[GT]at hX;refine Wh ?_;exact bE rfl fun D' hD=>⟨2,s.row,rfl,bT.err Ya6,pv,cv,ν1,ν2,rfl,h1,h2⟩
    ·have hX:=hS;simp only[bMY]at hX;refine aQ ?_;obtain⟨bx,cap,junk,rfl,hcap,rfl,hl1,hY⟩:=h1.some Yd;refine aU [] 3 12 1008<|Za rfl<|Zam rfl<|Zj rfl jL rfl<|Zp rfl cD rfl Mm0 rfl<|Za rfl<|aT rfl hn<|Za rfl<|aT rfl hn<|eY rfl U25 aH rfl rfl Yd Yd rfl bSM<|Wca ?_;refine Wac ?_;exact bE rfl fun D' hD=>⟨0,{s.row with places:=s.row.places.set a.toNat b},rfl,bT.ok Ya6,_,cv,[(bx,_)],ν2,rfl,sJ aNH bQY hcap hl1 hY,h2⟩
  ·refine bZ<|Zaw rfl<|Zf rfl<|aF<|Zaf rfl (fun hO=>?_) (fun hO=>?_)
   ·obtain rfl:=bNP hO;obtain⟨hl,rfl⟩:=jT (k2:=2) (act2:=pJ false) hact rfl;obtain⟨a,b,rfl⟩:=Z7 hl;obtain⟨bt,ot,ct,rfl⟩:=dB hn Yf;have hbt:=eP hn;have O:=hr a Yf;have hb9:=hr b Yf;refine aQ<|jE rfl hO<|Za3<|Za3<|aU [] 7 15 248<|Za rfl<|aT rfl hn<|Za rfl<|Zam rfl<|Zj rfl jL rfl<|Zp rfl cD rfl Mm0 rfl<|bR rfl U25 rfl h1 rfl rfl bSM ?_;refine Was ?_;refine' dL 5 (s:=63) (p:=68) rfl (fun hg1=>?_) (fun hg1=>?_) ?_;rotate_left
    ·refine Zb rfl<|jB rfl U25 aH rfl hn rfl Yd rfl rfl ⟨_,rfl,rfl⟩ fun cs6 hr6 hcl6 hA6=>?_;obtain rfl:cs6=[qI _]:=hr6;refine Zi 0 rfl aI rfl hA6 rfl<|Ww ?_;exact aN 4
    ·refine Wf ?_;exact aN 4
    refine aF<|Zaf rfl (fun rA=>?_) fun rA=>?_
    ·have rB:=rA;simp only[bNZ,GT]at rB;refine Wh ?_;exact bE rfl fun D' hD=>⟨2,s.row,rfl,bT.err Yao,pv,cv,ν1,ν2,rfl,h1,h2⟩
    ·have rB:=rA;simp only[bOH,bMY]at rB;refine aQ<|bZ<|Za rfl<|Zam rfl<|Zj rfl jX rfl<|Zp rfl xM rfl Mm0 rfl<|bR rfl U50 rfl h2 rfl rfl bSM<|Zas rfl<|aF<|Zaf rfl (fun hc8=>?_) (fun hc8=>?_)
     ·have hz8:=hc8;simp only[GT]at hz8;refine Wh ?_;exact bE rfl fun D' hD=>⟨3,s.row,rfl,bT.err Yao,pv,cv,ν1,ν2,rfl,h1,h2⟩
     ·have hz8:=hc8;simp only[bMY]at hz8;refine aQ<|fN hbt Yf fun hap=>pF fun hnd=>?_;have hnu:=fG hap hnd;have hwbo:wb∉cZ.mk [bt,wb]:=cZ.out Yf;have hbto:bt∉cZ.mk [bt,wb]:=cZ.out Yf;refine Wbo ?_;rw[show decide ((⟨#[99,111,117,110,116]⟩:Λ)=⟨#[98,97,99,107]⟩)=false by decide];refine Za rfl<|aT rfl hn<|Za rfl<|aT rfl hn<|Zu [.bool false,qI a,qI b] rfl aEQ A1 rfl<|Zt rfl U50 sI A1 rfl (.cons rfl rfl .nil) fun b902 D902 hD902 hA902=>Zaa (([(wb,_)]++ν1)++ν2++[]) aJW<|xF ([(wb,_)]++ν1) [] bLU (⟨false,a,b⟩:C1.xW) rfl U50 rfl rfl sI A1 rfl QD rfl rfl rfl h2 hA902 Yd Yr bSM fun v1 νx hx=>Wbe ?_;refine Zao<|Wac ?_;exact bE rfl fun D' hD=>⟨0,{s.row with counts:=s.row.counts++[(⟨false,a,b⟩:C1.xW)]},rfl,bT.ok Yao,pv,v1,ν1,νx,rfl,h1,hx⟩
   ·refine aO<|Zaw rfl<|Zf rfl<|aF<|Zaf rfl (fun hc9=>?_) (fun hc9=>?_)
    ·obtain rfl:=bNP hc9;obtain⟨hl,rfl⟩:=jT (k2:=2) (act2:=pJ true) hact rfl;obtain⟨a,b,rfl⟩:=Z7 hl;obtain⟨bt,ot,ct,rfl⟩:=dB hn Yf;have hbt:=eP hn;have O:=hr a Yf;have hb9:=hr b Yf;refine Za3<|Za3<|aU [] 7 15 248<|Za rfl<|aT rfl hn<|Za rfl<|Zam rfl<|Zj rfl jL rfl<|Zp rfl cD rfl Mm0 rfl<|bR rfl U25 rfl h1 rfl rfl bSM<|Was ?_;refine' dL 5 (s:=63) (p:=68) rfl (fun hg2=>?_) (fun hg2=>?_) ?_;rotate_left
     ·refine Zb rfl<|jB rfl U25 aH rfl hn rfl Yd rfl rfl ⟨_,rfl,rfl⟩ fun cs10 hr10 hcl10 hA10=>?_;obtain rfl:cs10=[qI _]:=hr10;refine Zi 0 rfl aI rfl hA10 rfl<|Ww ?_;exact aN 4
     ·refine Wf ?_;exact aN 4
     refine aF<|Zaf rfl (fun R=>?_) fun R=>?_
     ·have U:=R;simp only[bNZ,GT]at U;refine Wh ?_;exact bE rfl fun D' hD=>⟨2,s.row,rfl,bT.err Yao,pv,cv,ν1,ν2,rfl,h1,h2⟩
     ·have U:=R;simp only[bOH,bMY]at U;refine aQ<|bZ<|Za rfl<|Zam rfl<|Zj rfl jX rfl<|Zp rfl xM rfl Mm0 rfl<|bR rfl U50 rfl h2 rfl rfl bSM<|Zas rfl<|aF<|Zaf rfl (fun V=>?_) (fun V=>?_)
      ·have Y:=V;simp only[GT]at Y;refine Wh ?_;exact bE rfl fun D' hD=>⟨3,s.row,rfl,bT.err Yao,pv,cv,ν1,ν2,rfl,h1,h2⟩
      ·have Y:=V;simp only[bMY]at Y;refine aQ<|fN hbt Yf fun hap=>pF fun hnd=>?_;have hnu:=fG hap hnd;have hwbo:wb∉cZ.mk [bt,wb]:=cZ.out Yf;have hbto:bt∉cZ.mk [bt,wb]:=cZ.out Yf;refine Wbo ?_;rw[show decide ((⟨#[98,97,99,107]⟩:Λ)=⟨#[98,97,99,107]⟩)=true by decide];refine Za rfl<|aT rfl hn<|Za rfl<|aT rfl hn<|Zu [.bool true,qI a,qI b] rfl aEQ A1 rfl<|Zt rfl U50 sI A1 rfl (.cons rfl rfl .nil) fun b903 D903 hD903 hA903=>Zaa (([(wb,_)]++ν1)++ν2++[]) aJW<|xF ([(wb,_)]++ν1) [] bLU (⟨true,a,b⟩:C1.xW) rfl U50 rfl rfl sI A1 rfl QD rfl rfl rfl h2 hA903 Yd Yr bSM fun v1 νx hx=>Wbe ?_;refine Zao<|Wac ?_;exact bE rfl fun D' hD=>⟨0,{s.row with counts:=s.row.counts++[(⟨true,a,b⟩:C1.xW)]},rfl,bT.ok Yao,pv,v1,ν1,νx,rfl,h1,hx⟩
    ·refine aA<|Zaw rfl<|Zf rfl<|aF<|Zaf rfl (fun Z=>?_) (fun Z=>?_)
     ·obtain rfl:=bNP Z;obtain⟨hl,rfl⟩:=jT (k2:=1) (act2:=qM) hact rfl;obtain⟨a,rfl⟩:=zC hl;obtain⟨bt,ot,ct,rfl⟩:=dB hn Yf;have hbt:=eP hn;have O:=hr a Yf;refine Za3<|Za3<|aU [] 5 9 248<|Za rfl<|aT rfl hn<|Za rfl<|Zam rfl<|Zj rfl jX rfl<|Zp rfl xM rfl Mm0 rfl<|bR rfl U50 rfl h2 rfl rfl bSM<|Wbb ?_;refine Zaf rfl (fun hB=>?_) (fun hB=>?_)
      ·have hE:=hB;simp only[GT]at hE;refine Wh ?_;exact bE rfl fun D' hD=>⟨7,s.row,rfl,bT.err Xcv,pv,cv,ν1,ν2,rfl,h1,h2⟩
      ·have hE:=hB;simp only[bMY]at hE;refine aQ ?_;obtain⟨i,rfl⟩:∃i:Nat,a=(i:Int):=⟨a.toNat,Yd⟩
       have hi:i<s.row.counts.length:=Yd
       obtain⟨bx,cap,junk,rfl,hcap,rfl,hl1,hY⟩:=h2.some Yd;refine fN hbt Yf fun hap=>pF fun hnd=>?_;have hnu:=fG hap hnd;have hwbo:wb∉cZ.mk [bt,wb]:=cZ.out Yf;have hbto:bt∉cZ.mk [bt,wb]:=cZ.out Yf;have hbx:bx∈cZ.mk [bt,wb]:=cZ.in_ (hnu (bx,_) (GE _ bMV));refine aU (cZ.mk [bt,wb]) 2 22 524286<|Za rfl<|Za rfl<|Zam rfl<|Zj rfl jX rfl<|bD rfl xM rfl Mm0 rfl Yl rfl bSM<|Za rfl<|aT rfl hn<|BM (i:=i) rfl U50 sI rfl rfl Yd rfl bSM<|Za rfl<|Zam rfl<|Zj rfl jX rfl ?_;refine bD rfl xM rfl Mm0 rfl Yl rfl bSM<|Za rfl<|aT rfl hn<|Zad rfl<|BA (j:=i+1) rfl U50 sI rfl rfl Yd rfl bSM fun o ho=>aV (([(wb,_)]++ν1)++(bx,_)::[]) rfl<|QZ ([(wb,_)]++ν1) [] bLU rfl U50 rfl rfl sI rfl rfl hi hcap ho hl1 hY Ybd bSM fun v1 νx hx=>Zaa ((wb,_)::(ν1++νx)) bMQ<|Zam rfl<|Zj rfl jX rfl<|Zs (dO s pv v1 hv lv mv bl bc yc yq) rfl hx.cells1 DZ .head rfl hx.cell1<|Zao ?_;refine Wac ?_;exact bE rfl fun D' hD=>⟨0,{s.row with counts:=s.row.counts.eraseIdx i},rfl,bT.ok (by unfold qM;simp only[];rw[bNA Yd,bOI]),pv,v1,ν1,νx,rfl,h1,hx⟩
     ·refine aA<|Zaw rfl<|Zf rfl<|aF<|Zaf rfl (fun hF=>?_) (fun hF=>?_)
      ·obtain rfl:=bNP hF;obtain⟨hl,rfl⟩:=jT (k2:=1) (act2:=C0) hact rfl;obtain⟨a,rfl⟩:=zC hl;obtain⟨bt,ot,ct,rfl⟩:=dB hn Yf;have hbt:=eP hn;have O:=hr a Yf;refine bZ<|Za rfl<|aT rfl hn<|Zaq rfl<|aF<|Zaf rfl (fun hH=>?_) (fun hH=>?_)
       ·have hI:=hH;simp only[GT]at hI;refine Wh ?_;exact bE rfl fun D' hD=>⟨2,s.row,rfl,bT.err Xcc,pv,cv,ν1,ν2,rfl,h1,h2⟩
       ·have hI:=hH;simp only[bMY]at hI;refine aQ<|aO<|Za rfl<|Za rfl<|aT rfl hn<|Zam rfl<|Zj rfl SC rfl<|cR (ws:=[pv,cv,qI a,qI s.row.off,qI s.table.last,hv,qI s.table.step,lv,mv,qI s.book.chairs,qI s.book.coin,qI s.book.box,bl,bc,yc,qI s.yard.fit,yq]) rfl rfl rfl rfl aH .head Yf rfl Yk bSM<|Zao<|Za4<|Zaz<|aA ?_;refine We ?_;exact bE rfl fun D' hD=>⟨0,{s.row with wrong:=a},rfl,bT.ok Xcc,pv,cv,ν1,ν2,rfl,h1,h2⟩
      ·refine aA<|Zaw rfl<|Zf rfl<|aF<|Zaf rfl (fun hJ=>?_) (fun hJ=>?_)
       ·obtain rfl:=bNP hJ;obtain⟨hl,rfl⟩:=jT (k2:=1) (act2:=NZ) hact rfl;obtain⟨a,rfl⟩:=zC hl;obtain⟨bt,ot,ct,rfl⟩:=dB hn Yf;have hbt:=eP hn;have O:=hr a Yf;refine bZ<|Za rfl<|aT rfl hn<|Zaq rfl<|aF<|Zaf rfl (fun hK=>?_) (fun hK=>?_)
        ·have hN:=hK;simp only[GT]at hN;refine Wh ?_;exact bE rfl fun D' hD=>⟨2,s.row,rfl,bT.err Xcd,pv,cv,ν1,ν2,rfl,h1,h2⟩
        ·have hN:=hK;simp only[bMY]at hN;refine aQ<|aO<|Za rfl<|Za rfl<|aT rfl hn<|Zam rfl<|Zj rfl SH rfl<|cR (ws:=[pv,cv,qI s.row.wrong,qI a,qI s.table.last,hv,qI s.table.step,lv,mv,qI s.book.chairs,qI s.book.coin,qI s.book.box,bl,bc,yc,qI s.yard.fit,yq]) rfl rfl rfl rfl aH .head Yf rfl Yk bSM<|Zao<|Za4<|Zaz<|aA ?_;refine We ?_;exact bE rfl fun D' hD=>⟨0,{s.row with off:=a},rfl,bT.ok Xcd,pv,cv,ν1,ν2,rfl,h1,h2⟩
       ·refine Wk ?_;exact bE rfl fun D' hD=>⟨-1,s.row,rfl,bNI ⟨rfl,rfl,(by simp only[uF,LT,n4,bOZ,bSF];exact⟨bNO hc1,bNO hc3,bNO hO,bNO hc9,bNO Z,bNO hF,bNO hJ⟩)⟩,pv,cv,ν1,ν2,rfl,h1,h2⟩
def Z6:List Λ:=[⟨#[116,105,100,101]⟩,⟨#[115,116,101,112]⟩,⟨#[108,101,118,101,108]⟩,⟨#[114,97,105,115,101]⟩,⟨#[109,97,114,107]⟩,⟨#[117,110,109,97,114,107]⟩]
theorem aRC(wb:Nat)(s:aM)(pv cv hv lv mv bl bc yc yq nv:Γ)(w:Λ)(ns:List Int)(act:eH)(ν3 ν4 ν5:aD)(D:aC)(hn:Sl D RI 1 nv ns)(hact:F0 w ns act)(hr:∀x∈ns,0≤x∧x≤999)(hk:lY s)(hg:kG s)(h3:bI 158 2 hv s.table.heights.length (s.table.heights.flatMap cP) ν3)(h4:bI 3 1 lv s.table.levels.length (s.table.levels.flatMap cI) ν4)(h5:bI 227 4 mv s.table.marks.length (s.table.marks.flatMap cM) ν5):kH prog 106 [.pointer (some ⟨wb,4,none⟩),.string w,nv] D ((wb,qC (dO s pv cv hv lv mv bl bc yc yq) 66)::(ν3++(ν4++ν5))) (fun _ v ν'=>∃(e:Int) (r:C2.aX),v=qI e∧bT Z6 w act s ns e (iK s r)∧∃hv' lv' mv' ν3' ν4' ν5',ν'=(wb,qC (dO (iK s r) pv cv hv' lv' mv' bl bc yc yq) 66)::(ν3'++(ν4'++ν5'))∧bI 158 2 hv' r.heights.length (r.heights.flatMap cP) ν3'∧bI 3 1 lv' r.levels.length (r.levels.flatMap cI) ν4'∧bI 227 4 mv' r.marks.length (r.marks.flatMap cM) ν5') (fun _=>False):=by
 have kht:=hk.ht;have kla:=hg.last;have k4:=hk.lev;have k5:=hk.mks;refine eI 211 func106 rfl rfl rfl rfl fun h0 hwl hwn=>aA<|Zf rfl<|bC<|Za rfl<|aF<|Za1<|aA<|Zaw rfl<|Zf rfl<|aF<|Zaf rfl (fun hc1=>?_) fun hc1=>?_
 ·obtain rfl:=bNP hc1;obtain⟨hl,rfl⟩:=jT (k2:=3) (act2:=p9) hact rfl;obtain⟨a,b,c,rfl⟩:=bDB hl;obtain⟨bt,ot,ct,rfl⟩:=dB hn Yf;have hbt:=eP hn;have I:=hr a Yf;have hb9:=hr b Yf;have O:=hr c Yf;refine Za3<|Za3<|aU [] 4 8 120<|Za rfl<|aT rfl hn<|Za rfl<|Zam rfl<|Zj rfl GI rfl<|Zp rfl aI rfl Mm0 rfl<|Zaq rfl<|aF<|Zaf rfl (fun hc2=>?_) (fun hc2=>?_)
  ·have hS:=hc2;simp only[GT]at hS;refine Wh ?_;exact bE rfl fun D' hD=>⟨7,s.table,rfl,bT.err Ya5,hv,lv,mv,ν3,ν4,ν5,rfl,h3,h4,h5⟩
  ·have hS:=hc2;simp only[bMY]at hS;refine aQ<|Za3<|Za3<|aU [] 5 18 28728<|Za rfl<|aT rfl hn<|Za rfl<|aT rfl hn<|Zd rfl (fun D1 hD1=>W0 _ _ _ _)<|Wbg ?_;refine' dL 9 (s:=26) (p:=35) rfl (fun hg1=>?_) (fun hg1=>?_) ?_;rotate_left
   ·refine Zb rfl<|jB rfl U25 aH rfl hn rfl Yd rfl rfl ⟨_,rfl,rfl⟩ fun cs4 hr4 hcl4 hA4=>?_;obtain rfl:cs4=[qI _]:=hr4;refine Zi 0 rfl aI rfl hA4 rfl<|Zb rfl<|jB rfl U25 aH rfl hn rfl Yd rfl rfl ⟨_,rfl,rfl⟩ fun cs5 hr5 hcl5 hA5=>?_;obtain rfl:cs5=[qI _]:=hr5;refine Zi 0 rfl aI rfl hA5 rfl<|yP rfl rfl rfl Ye rfl ⟨_,rfl,rfl⟩<|Ww ?_;exact aN 8
   ·refine Zg rfl<|Waq ?_;exact aN 8
   refine aF<|Zaf rfl (fun hc3=>?_) fun hc3=>?_
   ·have hX:=hc3;simp only[bNZ,bRQ,bPQ,GT,bMY]at hX;refine Wh ?_;exact bE rfl fun D' hD=>⟨2,s.table,rfl,bT.err Ya5,hv,lv,mv,ν3,ν4,ν5,rfl,h3,h4,h5⟩
   ·have hX:=hc3;simp only[bOH,bMS,bRP,GT,bMY]at hX;refine aQ ?_;obtain⟨bx,cap,junk,rfl,hcap,rfl,hl1,R⟩:=h3.some Yd;refine aU [] 3 16 16368<|Za rfl<|Zam rfl<|Zj rfl mY rfl<|Zp rfl xR rfl Mm0 rfl<|Za rfl<|aT rfl hn<|Za rfl<|aT rfl hn<|Za rfl<|aT rfl hn<|Zu [qI b,qI c] rfl S6 tT rfl ?_;refine eY rfl U53 mF rfl rfl Yd Yd rfl bSM<|y9 bIF (b,c) rfl rfl rfl rfl mF (.tail .head) Yd bSM<|Zao<|Wac ?_;exact bE rfl fun D' hD=>⟨0,{s.table with heights:=s.table.heights.set a.toNat (b,c)},rfl,bT.ok Ya5,_,lv,mv,[(bx,_)],ν4,ν5,rfl,sJ bIF bQY hcap hl1 R,h4,h5⟩
 ·refine aA<|Zaw rfl<|Zf rfl<|aF<|Zaf rfl (fun hc4=>?_) (fun hc4=>?_)
  ·obtain rfl:=bNP hc4;obtain⟨hl,rfl⟩:=jT (k2:=1) (act2:=l6) hact rfl;obtain⟨a,rfl⟩:=zC hl;obtain⟨bt,ot,ct,rfl⟩:=dB hn Yf;have hbt:=eP hn;have I:=hr a Yf;refine bZ<|Za rfl<|aT rfl hn<|Zaq rfl<|aF<|Zaf rfl (fun hY=>?_) (fun hY=>?_)
   ·have rA:=hY;simp only[GT]at rA;refine Wh ?_;exact bE rfl fun D' hD=>⟨2,s.table,rfl,bT.err Xce,hv,lv,mv,ν3,ν4,ν5,rfl,h3,h4,h5⟩
   ·have rA:=hY;simp only[bMY]at rA;refine aQ<|aO<|Za rfl<|Za rfl<|aT rfl hn<|Zam rfl<|Zj rfl HV rfl<|cR (ws:=[pv,cv,qI s.row.wrong,qI s.row.off,qI s.table.last,hv,qI a,lv,mv,qI s.book.chairs,qI s.book.coin,qI s.book.box,bl,bc,yc,qI s.yard.fit,yq]) rfl rfl rfl rfl aH .head Yf rfl Yk bSM<|Zao<|Za4<|Zaz<|aA ?_;refine We ?_;exact bE rfl fun D' hD=>⟨0,{s.table with step:=a},rfl,bT.ok Xce,hv,lv,mv,ν3,ν4,ν5,rfl,h3,h4,h5⟩
  ·refine aA<|Zaw rfl<|Zf rfl<|aF<|Zaf rfl (fun rB=>?_) (fun rB=>?_)
   ·obtain rfl:=bNP rB;obtain⟨hl,rfl⟩:=jT (k2:=1) (act2:=zZ) hact rfl;obtain⟨a,rfl⟩:=zC hl;obtain⟨bt,ot,ct,rfl⟩:=dB hn Yf;have hbt:=eP hn;have I:=hr a Yf;refine bZ<|Za rfl<|aT rfl hn<|Zaq rfl<|aF<|Zaf rfl (fun hc7=>?_) (fun hc7=>?_)
    ·have hz7:=hc7;simp only[GT]at hz7;refine Wh ?_;exact bE rfl fun D' hD=>⟨2,s.table,rfl,bT.err Ya3,hv,lv,mv,ν3,ν4,ν5,rfl,h3,h4,h5⟩
    ·have hz7:=hc7;simp only[bMY]at hz7;refine aQ<|bZ<|Za rfl<|Zam rfl<|Zj rfl vQ rfl<|Zp rfl cD rfl Mm0 rfl<|bR rfl U25 rfl h4 rfl rfl bSM<|Zas rfl<|aF<|Zaf rfl (fun hc8=>?_) (fun hc8=>?_)
     ·have hz8:=hc8;simp only[GT]at hz8;refine Wh ?_;exact bE rfl fun D' hD=>⟨3,s.table,rfl,bT.err Ya3,hv,lv,mv,ν3,ν4,ν5,rfl,h3,h4,h5⟩
     ·have hz8:=hc8;simp only[bMY]at hz8;refine aQ<|fN hbt Yf fun hap=>pF fun hnd=>?_;have hnu:=fG hap hnd;have hwbo:wb∉cZ.mk [bt,wb]:=cZ.out Yf;have hbto:bt∉cZ.mk [bt,wb]:=cZ.out Yf;refine aU (cZ.mk [bt,wb]) 2 13 1022<|Za rfl<|Za rfl<|Zam rfl<|Zj rfl vQ rfl<|bD rfl cD rfl Mm0 rfl Yl rfl bSM<|Za rfl<|aT rfl hn<|Zt rfl U25 aH cE rfl (.cons rfl rfl .nil) fun b901 D901 hD901 U=>?_;have hS901:=Sl.ofInts (l:=[_]) (n:=1) (cap:=1) U rfl Yd Yd;refine Zaa (([(wb,_)]++ν3)++ν4++ν5) bKX<|xF ([(wb,_)]++ν3) ν5 aNH a rfl U25 rfl rfl aH cE rfl kD rfl rfl rfl h4 U Yd Yr bSM fun v1 νx hx=>Zaa ((wb,_)::(ν3++(νx++ν5))) bKX.symm<|Zam rfl<|Zj rfl vQ rfl<|Zs (dO s pv cv hv v1 mv bl bc yc yq) rfl hx.cells1 fR .head rfl hx.cell1<|Zao<|Wac ?_;exact bE rfl fun D' hD=>⟨0,{s.table with levels:=s.table.levels++[a]},rfl,bT.ok Ya3,hv,v1,mv,ν3,νx,ν5,rfl,h3,hx,h5⟩
   ·refine aA<|Zaw rfl<|Zf rfl<|aF<|Zaf rfl (fun O=>?_) (fun O=>?_)
    ·obtain rfl:=bNP O;obtain⟨hl,rfl⟩:=jT (k2:=2) (act2:=B4) hact rfl;obtain⟨a,b,rfl⟩:=Z7 hl;obtain⟨bt,ot,ct,rfl⟩:=dB hn Yf;have hbt:=eP hn;have I:=hr a Yf;have hb9:=hr b Yf;refine Za3<|Za3<|aU [] 5 9 248<|Za rfl<|aT rfl hn<|Za rfl<|Zam rfl<|Zj rfl vQ rfl<|Zp rfl cD rfl Mm0 rfl<|bR rfl U25 rfl h4 rfl rfl bSM<|Wbb ?_;refine Zaf rfl (fun V=>?_) (fun V=>?_)
     ·have Y:=V;simp only[GT]at Y;refine Wh ?_;exact bE rfl fun D' hD=>⟨7,s.table,rfl,bT.err Ya2,hv,lv,mv,ν3,ν4,ν5,rfl,h3,h4,h5⟩
     ·have Y:=V;simp only[bMY]at Y;refine aQ<|bZ<|Za rfl<|aT rfl hn<|Zaq rfl<|aF<|Zaf rfl (fun Z=>?_) (fun Z=>?_)
      ·have hB:=Z;simp only[GT]at hB;refine Wh ?_;exact bE rfl fun D' hD=>⟨2,s.table,rfl,bT.err Ya2,hv,lv,mv,ν3,ν4,ν5,rfl,h3,h4,h5⟩
      ·have hB:=Z;simp only[bMY]at hB;refine aQ ?_;obtain⟨bx,cap,junk,rfl,hcap,rfl,hl1,R⟩:=h4.some Yd;refine aU [] 3 12 1008<|Za rfl<|Zam rfl<|Zj rfl vQ rfl<|Zp rfl cD rfl Mm0 rfl<|Za rfl<|aT rfl hn<|Za rfl<|aT rfl hn<|eY rfl U25 aH rfl rfl Yd Yd rfl bSM<|y9 aNH b rfl rfl rfl rfl aH (.tail (.app .head)) Yd bSM<|Zao ?_;refine Wac ?_;exact bE rfl fun D' hD=>⟨0,{s.table with levels:=s.table.levels.set a.toNat b},rfl,bT.ok Ya2,hv,_,mv,ν3,[(bx,_)],ν5,rfl,h3,sJ aNH bQY hcap hl1 R,h5⟩
    ·refine aA<|Zaw rfl<|Zf rfl<|aF<|Zaf rfl (fun hE=>?_) (fun hE=>?_)
     ·obtain rfl:=bNP hE;obtain⟨hl,rfl⟩:=jT (k2:=4) (act2:=C8) hact rfl;obtain⟨a,b,c,d,rfl⟩:=bCB hl;obtain⟨bt,ot,ct,rfl⟩:=dB hn Yf;have hbt:=eP hn;have I:=hr a Yf;have hb9:=hr b Yf;have O:=hr c Yf;have hd9:=hr d Yf;refine Za3<|Za3<|aU [] 6 18 61560<|Za rfl<|aT rfl hn<|Za rfl<|Zam rfl<|Zj rfl GI rfl<|Zp rfl aI rfl Mm0 rfl<|Was ?_;refine' dL 9 (s:=123) (p:=132) rfl (fun hg2=>?_) (fun hg2=>?_) ?_;rotate_left
      ·refine Zb rfl<|jB rfl U25 aH rfl hn rfl Yd rfl rfl ⟨_,rfl,rfl⟩ fun cs18 hr18 hcl18 hA18=>?_;obtain rfl:cs18=[qI _]:=hr18;refine Zi 0 rfl aI rfl hA18 rfl<|Zb rfl<|uZ rfl rfl rfl ⟨_,rfl,rfl⟩<|Zk rfl GI rfl<|Zq rfl aI rfl Mm0 rfl<|Ww ?_;exact aN 8
      ·refine Zg rfl<|Waq ?_;exact aN 8
      refine aF<|Zaf rfl (fun hF=>?_) fun hF=>?_
      ·have hH:=hF;simp only[bNZ,GT]at hH;refine Wh ?_;exact bE rfl fun D' hD=>⟨7,s.table,rfl,bT.err Ya7,hv,lv,mv,ν3,ν4,ν5,rfl,h3,h4,h5⟩
      ·have hH:=hF;simp only[bOH,bMY]at hH;refine aQ<|Za3<|Za3<|aU [] 5 17 14392<|Za rfl<|aT rfl hn<|Za rfl<|aT rfl hn<|Was ?_;refine' dL 9 (s:=140) (p:=149) rfl (fun hg3=>?_) (fun hg3=>?_) ?_;rotate_left
       ·refine Zb rfl<|jB rfl U25 aH rfl hn rfl Yd rfl rfl ⟨_,rfl,rfl⟩ fun cs21 hr21 hcl21 hA21=>?_;obtain rfl:cs21=[qI _]:=hr21;refine Zi 0 rfl aI rfl hA21 rfl<|Zb rfl<|jB rfl U25 aH rfl hn rfl Yd rfl rfl ⟨_,rfl,rfl⟩ fun cs22 hr22 hcl22 hA22=>?_;obtain rfl:cs22=[qI _]:=hr22;refine Zi 0 rfl aI rfl hA22 rfl<|Ze rfl (fun D2 hD2=>W0 _ _ _ _)<|Wal ?_;exact aN 8
       ·refine Zg rfl<|Waq ?_;exact aN 8
       refine aF<|Zaf rfl (fun hI=>?_) fun hI=>?_
       ·have hJ:=hI;simp only[bNZ,bRQ,bPQ,GT,bMY]at hJ;refine Wh ?_;exact bE rfl fun D' hD=>⟨2,s.table,rfl,bT.err (by unfold C8;simp only[];rw[bNA Yd];split<;>first|rfl|rw[bNK Yd]),hv,lv,mv,ν3,ν4,ν5,rfl,h3,h4,h5⟩
       ·have hJ:=hI;simp only[bOH,bMS,bRP,GT,bMY]at hJ;refine aQ<|bZ<|Za rfl<|Zam rfl<|Zj rfl mQ rfl<|Zp rfl H3 rfl Mm0 rfl<|bR rfl U54 rfl h5 rfl rfl bSM<|Zas rfl<|aF<|Zaf rfl (fun hK=>?_) (fun hK=>?_)
        ·have hN:=hK;simp only[GT]at hN;refine Wh ?_;exact bE rfl fun D' hD=>⟨3,s.table,rfl,bT.err Ya7,hv,lv,mv,ν3,ν4,ν5,rfl,h3,h4,h5⟩
        ·have hN:=hK;simp only[bMY]at hN;refine aQ<|fN hbt Yf fun hap=>pF fun hnd=>?_;have hnu:=fG hap hnd;have hwbo:wb∉cZ.mk [bt,wb]:=cZ.out Yf;have hbto:bt∉cZ.mk [bt,wb]:=cZ.out Yf;refine aU (cZ.mk [bt,wb]) 2 24 2097150<|Za rfl<|Za rfl<|Zam rfl<|Zj rfl mQ rfl<|bD rfl H3 rfl Mm0 rfl Yl rfl bSM<|Za rfl<|aT rfl hn<|Wae ?_;refine Za rfl<|aT rfl hn<|Zu [qI c,qI d] rfl S6 tT rfl<|Zu [qI a,qI b,qI c,qI d] rfl aYU DC rfl<|Zt rfl U54 wG DC rfl (.cons rfl rfl .nil) fun b902 D902 hD902 hA902=>Zaa (([(wb,_)]++ν3++ν4)++ν5++[]) bLL<|xF ([(wb,_)]++ν3++ν4) [] bMK (⟨a,b,c,d⟩:C2.Mk) rfl U54 rfl rfl wG DC rfl aCX rfl rfl rfl h5 hA902 Yd Yr bSM fun v1 νx hx=>Zaa ((wb,_)::(ν3++(ν4++νx))) bLL.symm<|Wcc ?_;refine Wac ?_;exact bE rfl fun D' hD=>⟨0,{s.table with marks:=s.table.marks++[(⟨a,b,c,d⟩:C2.Mk)]},rfl,bT.ok Ya7,hv,lv,v1,ν3,ν4,νx,rfl,h3,h4,hx⟩
     ·refine aA<|Zaw rfl<|Zf rfl<|aF<|Zaf rfl (fun hO=>?_) (fun hO=>?_)
      ·obtain rfl:=bNP hO;obtain⟨hl,rfl⟩:=jT (k2:=1) (act2:=uH) hact rfl;obtain⟨a,rfl⟩:=zC hl;obtain⟨bt,ot,ct,rfl⟩:=dB hn Yf;have hbt:=eP hn;have I:=hr a Yf;refine Za3<|Za3<|aU [] 5 9 248<|Za rfl<|aT rfl hn<|Za rfl<|Zam rfl<|Zj rfl mQ rfl<|Zp rfl H3 rfl Mm0 rfl<|bR rfl U54 rfl h5 rfl rfl bSM<|Wbb ?_;refine Zaf rfl (fun hP=>?_) (fun hP=>?_)
       ·have hR:=hP;simp only[GT]at hR;refine Wh ?_;exact bE rfl fun D' hD=>⟨7,s.table,rfl,bT.err Xcw,hv,lv,mv,ν3,ν4,ν5,rfl,h3,h4,h5⟩
       ·have hR:=hP;simp only[bMY]at hR;refine aQ ?_;obtain⟨i,rfl⟩:∃i:Nat,a=(i:Int):=⟨a.toNat,Yd⟩
        have hi:i<s.table.marks.length:=Yd
        obtain⟨bx,cap,junk,rfl,hcap,rfl,hl1,R⟩:=h5.some Yd;refine fN hbt Yf fun hap=>pF fun hnd=>?_;have hnu:=fG hap hnd;have hwbo:wb∉cZ.mk [bt,wb]:=cZ.out Yf;have hbto:bt∉cZ.mk [bt,wb]:=cZ.out Yf;have hbx:bx∈cZ.mk [bt,wb]:=cZ.in_ (hnu (bx,_) (GE _ (GE _ bMV)));refine aU (cZ.mk [bt,wb]) 2 22 524286<|Za rfl<|Za rfl<|Zam rfl<|Zj rfl mQ rfl<|bD rfl H3 rfl Mm0 rfl Yl rfl bSM<|Za rfl<|aT rfl hn<|BM (i:=i) rfl U54 wG rfl rfl Yd rfl bSM<|Za rfl<|Zam rfl<|Zj rfl mQ rfl ?_;refine bD rfl H3 rfl Mm0 rfl Yl rfl bSM<|Za rfl<|aT rfl hn<|Zad rfl<|BA (j:=i+1) rfl U54 wG rfl rfl Yd rfl bSM fun o ho=>Zaa (([(wb,_)]++(ν3++ν4))++(bx,_)::[]) bd2<|QZ ([(wb,_)]++(ν3++ν4)) [] bMK rfl U54 rfl rfl wG rfl rfl hi hcap ho hl1 R Ybd bSM fun v1 νx hx=>Zaa ((wb,_)::(ν3++(ν4++νx))) bd3<|Wcc ?_;refine Wac ?_;exact bE rfl fun D' hD=>⟨0,{s.table with marks:=s.table.marks.eraseIdx i},rfl,bT.ok (by unfold uH;simp only[];rw[bNA Yd,bOI]),hv,lv,v1,ν3,ν4,νx,rfl,h3,h4,hx⟩
      ·refine Wk ?_;exact bE rfl fun D' hD=>⟨-1,s.table,rfl,bNI ⟨rfl,rfl,(by simp only[Z6,LT,n4,bOZ,bSF];exact⟨bNO hc1,bNO hc4,bNO rB,bNO O,bNO hE,bNO hO⟩)⟩,hv,lv,mv,ν3,ν4,ν5,rfl,h3,h4,h5⟩
def H7:List Λ:=[⟨#[104,105,114,101]⟩,⟨#[98,114,105,110,103]⟩,⟨#[115,109,117,100,103,101]⟩,⟨#[115,116,114,105,107,101]⟩]
theorem bLB{s:aM}{a b c:Int}(ha:0≤a)(h:(s.yard.chairs.length:Int)≤a∨3≤b):vW s [a,b,c]=.error 7:=by
 unfold vW;simp only[]
 split
 ·rfl
 ·rename_i hq;have:=(bMW.1 hq).1;exact bNK Yd
theorem bKC{s:aM}{a b c:Int}(ha:a.toNat<s.yard.chairs.length)(hb:b<3)(hc:2<c):vW s [a,b,c]=.error 2:=by
 unfold vW;simp only[]
 rw[bMU ha];exact(bNA Yd).trans (bNK hc)
theorem OF{s:aM}{a b c:Int}{x:C7.Ch}(hx:s.yard.chairs[a.toNat]?= some x)(hb:b<3)(hc:c≤2):vW s [a,b,c]=.ok (kK s {s.yard with chairs:=s.yard.chairs.set a.toNat {x with parts:=GU x.parts b.toNat c}}):=by
 unfold vW;simp only[]
 rw[hx];exact(bNA Yd).trans (bNA Yd)
theorem PY{w:Λ}{ns:List Int}{act:eH}(h:F0 w ns act)(h1:w∉uF)(h2:w∉Z6)(h3:w∉H7)(g1:¬w=⟨#[98,114,111,107,101,110]⟩)(g2:¬w=⟨#[112,97,114,116]⟩)(g3:¬w=⟨#[102,105,116]⟩)(g4:¬w=⟨#[99,108,97,105,109]⟩):w=⟨#[117,110,99,108,97,105,109]⟩:=by
 obtain⟨x,hx,e⟩:∃x∈kX,x.1=w.data.toList:=⟨_,List.mem_of_find?_eq_some h,rfl⟩
 have hw:w=rF x.1:=by rw[e];exact(yO w).symm
 clear h e;simp only[uF,Z6,H7,LT,n4,bOZ,bSF]at h1 h2 h3;simp only[kX,LT,n4,bOZ]at hx;rcases hx with rfl|rfl|rfl|rfl|rfl|rfl|rfl|rfl|rfl|rfl|rfl|rfl|rfl|rfl|rfl|rfl|rfl|rfl|rfl|rfl|rfl|rfl;all_goals first|exact hw|exact absurd hw h1.1|exact absurd hw h1.2.1|exact absurd hw h1.2.2.1|exact absurd hw h1.2.2.2.1|exact absurd hw h1.2.2.2.2.1|exact absurd hw h1.2.2.2.2.2.1|exact absurd hw h1.2.2.2.2.2.2|exact absurd hw h2.1|exact absurd hw h2.2.1|exact absurd hw h2.2.2.1|exact absurd hw h2.2.2.2.1|exact absurd hw h2.2.2.2.2.1|exact absurd hw h2.2.2.2.2.2|exact absurd hw h3.1|exact absurd hw h3.2.1|exact absurd hw h3.2.2.1|exact absurd hw h3.2.2.2|exact absurd hw g1|exact absurd hw g2|exact absurd hw g3|exact absurd hw g4
theorem aHB(wb:Nat)(s:aM)(pv cv hv lv mv bl bc yc yq nv:Γ)(w:Λ)(ns:List Int)(act:eH)(ν6:aD)(D:aC)(hn:Sl D RI 1 nv ns)(hact:F0 w ns act)(hr:∀x∈ns,0≤x∧x≤999)(hk:lY s)(hg:kG s)(I:bI 254 3 bl s.book.lines.length (s.book.lines.flatMap cL) ν6):kH prog 107 [.pointer (some ⟨wb,9,none⟩),.string w,nv] D ((wb,qC (dO s pv cv hv lv mv bl bc yc yq) 66)::(ν6)) (fun _ v ν'=>∃(e:Int) (r:C3.bH),v=qI e∧bT H7 w act s ns e (oZ s r)∧∃bl' ν6',ν'=(wb,qC (dO (oZ s r) pv cv hv lv mv bl' bc yc yq) 66)::(ν6')∧bI 254 3 bl' r.lines.length (r.lines.flatMap cL) ν6'∧r.counts=s.book.counts) (fun _=>False):=by
 have kbc:=hk.bc;have k6:=hk.ln;refine eI 110 func107 rfl rfl rfl rfl fun h0 hwl hwn=>aA<|Zf rfl<|bC<|Za rfl<|aF<|Za1<|bZ<|Zaw rfl<|Zf rfl<|aF<|Zaf rfl (fun hc1=>?_) fun hc1=>?_
 ·obtain rfl:=bNP hc1;obtain⟨hl,rfl⟩:=jT (k2:=2) (act2:=pE 1) hact rfl;obtain⟨a,b,rfl⟩:=Z7 hl;obtain⟨bt,ot,ct,rfl⟩:=dB hn Yf;have hbt:=eP hn;have hF:=hr a Yf;have hb9:=hr b Yf;refine aQ<|jE rfl hc1<|bZ<|Za rfl<|aT rfl hn<|Was ?_;refine' dL 5 (s:=16) (p:=21) rfl (fun rA=>?_) (fun rA=>?_) ?_;rotate_left
  ·refine Zb rfl<|jB rfl U25 aH rfl hn rfl Yd rfl rfl ⟨_,rfl,rfl⟩ fun rB hr2 hcl2 hA2=>?_;obtain rfl:rB=[qI _]:=hr2;refine Zi 0 rfl aI rfl hA2 rfl<|Ww ?_;exact aN 4
  ·refine Wf ?_;exact aN 4
  refine aF<|Zaf rfl (fun hc2=>?_) fun hc2=>?_
  ·have hH:=hc2;simp only[bNZ,GT]at hH;refine Wh ?_;exact bE rfl fun D' hD=>⟨7,s.book,rfl,bT.err Yan,bl,ν6,rfl,I,rfl⟩
  ·have hH:=hc2;simp only[bOH,bMY]at hH;refine aQ<|bZ<|Za rfl<|Zam rfl<|Zj rfl iG rfl<|Zp rfl sC rfl Mm0 rfl<|bR rfl U57 rfl I rfl rfl bSM<|Zas rfl<|aF<|Zaf rfl (fun hc3=>?_) (fun hc3=>?_)
   ·have hI:=hc3;simp only[GT]at hI;refine Wh ?_;exact bE rfl fun D' hD=>⟨3,s.book,rfl,bT.err Yan,bl,ν6,rfl,I,rfl⟩
   ·have hI:=hc3;simp only[bMY]at hI;refine aQ<|aA<|Zf rfl<|bC<|Za rfl<|Zaw rfl ?_;rw[show decide ((⟨#[104,105,114,101]⟩:Λ)=⟨#[98,114,105,110,103]⟩)=false by decide];refine aF<|Zaf rfl (fun hc4=>?_) (fun hc4=>?_)
    ·cases hc4
    ·refine aQ<|fN hbt Yf fun hap=>pF fun hnd=>?_;have hnu:=fG hap hnd;have hwbo:wb∉cZ.mk [bt,wb]:=cZ.out Yf;have hbto:bt∉cZ.mk [bt,wb]:=cZ.out Yf;refine aU (cZ.mk [bt,wb]) 2 18 32766<|Za rfl<|Za rfl<|Zam rfl<|Zj rfl iG rfl<|bD rfl sC rfl Mm0 rfl Yl rfl bSM<|Za rfl<|Za rfl<|aT rfl hn<|Za rfl<|aT rfl hn<|Zu [qI 1,qI a,qI b] rfl CV qU rfl ?_;refine Zt rfl U57 lK qU rfl (.cons rfl rfl .nil) fun b901 D901 hD901 hJ=>Zaa ([(wb,_)]++ν6++[]) aYD<|xF [(wb,_)] [] bFN (⟨1,a,b⟩:C3.eS) rfl U57 rfl rfl lK qU rfl CE rfl rfl rfl I hJ Yd Yr bSM fun v1 νx hx=>Zaa ((wb,_)::(νx)) aYD.symm<|Wbl ?_;refine aG ?_;exact bE rfl fun D' hD=>⟨0,{s.book with lines:=s.book.lines++[(⟨1,a,b⟩:C3.eS)]},rfl,bT.ok Yan,v1,νx,rfl,hx,rfl⟩
 ·refine aO<|Zaw rfl<|Zf rfl<|aF<|Zaf rfl (fun hK=>?_) (fun hK=>?_)
  ·obtain rfl:=bNP hK;obtain⟨hl,rfl⟩:=jT (k2:=2) (act2:=pE 2) hact rfl;obtain⟨a,b,rfl⟩:=Z7 hl;obtain⟨bt,ot,ct,rfl⟩:=dB hn Yf;have hbt:=eP hn;have hF:=hr a Yf;have hb9:=hr b Yf;refine bZ<|Za rfl<|aT rfl hn<|Was ?_;refine' dL 5 (s:=16) (p:=21) rfl (fun hg2=>?_) (fun hg2=>?_) ?_;rotate_left
   ·refine Zb rfl<|jB rfl U25 aH rfl hn rfl Yd rfl rfl ⟨_,rfl,rfl⟩ fun cs6 hr6 hcl6 hA6=>?_;obtain rfl:cs6=[qI _]:=hr6;refine Zi 0 rfl aI rfl hA6 rfl<|Ww ?_;exact aN 4
   ·refine Wf ?_;exact aN 4
   refine aF<|Zaf rfl (fun hN=>?_) fun hN=>?_
   ·have hO:=hN;simp only[bNZ,GT]at hO;refine Wh ?_;exact bE rfl fun D' hD=>⟨7,s.book,rfl,bT.err Yan,bl,ν6,rfl,I,rfl⟩
   ·have hO:=hN;simp only[bOH,bMY]at hO;refine aQ<|bZ<|Za rfl<|Zam rfl<|Zj rfl iG rfl<|Zp rfl sC rfl Mm0 rfl<|bR rfl U57 rfl I rfl rfl bSM<|Zas rfl<|aF<|Zaf rfl (fun hP=>?_) (fun hP=>?_)
    ·have hR:=hP;simp only[GT]at hR;refine Wh ?_;exact bE rfl fun D' hD=>⟨3,s.book,rfl,bT.err Yan,bl,ν6,rfl,I,rfl⟩
    ·have hR:=hP;simp only[bMY]at hR;refine aQ<|aA<|Zf rfl<|bC<|Za rfl<|Zaw rfl ?_;rw[show decide ((⟨#[98,114,105,110,103]⟩:Λ)=⟨#[98,114,105,110,103]⟩)=true by decide];refine aF<|Zaf rfl (fun hY=>?_) (fun hY=>?_)
     ·refine aO<|Zf rfl<|aF<|fN hbt Yf fun hap=>pF fun hnd=>?_;have hnu:=fG hap hnd;have hwbo:wb∉cZ.mk [bt,wb]:=cZ.out Yf;have hbto:bt∉cZ.mk [bt,wb]:=cZ.out Yf;refine aU (cZ.mk [bt,wb]) 2 18 32766<|Za rfl<|Za rfl<|Zam rfl<|Zj rfl iG rfl<|bD rfl sC rfl Mm0 rfl Yl rfl bSM<|Za rfl<|Za rfl<|aT rfl hn<|Za rfl<|aT rfl hn<|Zu [qI 2,qI a,qI b] rfl CV qU rfl ?_;refine Zt rfl U57 lK qU rfl (.cons rfl rfl .nil) fun b902 D902 hD902 hS=>Zaa ([(wb,_)]++ν6++[]) aYD<|xF [(wb,_)] [] bFN (⟨2,a,b⟩:C3.eS) rfl U57 rfl rfl lK qU rfl CE rfl rfl rfl I hS Yd Yr bSM fun v1 νx hx=>Zaa ((wb,_)::(νx)) aYD.symm<|Wbl ?_;refine aG ?_;exact bE rfl fun D' hD=>⟨0,{s.book with lines:=s.book.lines++[(⟨2,a,b⟩:C3.eS)]},rfl,bT.ok Yan,v1,νx,rfl,hx,rfl⟩
     ·cases hY
  ·refine aA<|Zaw rfl<|Zf rfl<|aF<|Zaf rfl (fun hX=>?_) (fun hX=>?_)
   ·obtain rfl:=bNP hX;obtain⟨hl,rfl⟩:=jT (k2:=1) (act2:=qL) hact rfl;obtain⟨a,rfl⟩:=zC hl;obtain⟨bt,ot,ct,rfl⟩:=dB hn Yf;have hbt:=eP hn;have hF:=hr a Yf;refine Za3<|Za3<|aU [] 5 9 248<|Wbx ?_;refine Zaf rfl (fun O=>?_) (fun O=>?_)
    ·have R:=O;simp only[GT]at R;refine Wh ?_;exact bE rfl fun D' hD=>⟨7,s.book,rfl,bT.err (by unfold qL;simp only[];rw[bPU Yd]),bl,ν6,rfl,I,rfl⟩
    ·have R:=O;simp only[bMY]at R;refine aQ<|Za3<|Za3 ?_;obtain⟨bx,cap,junk,rfl,hcap,rfl,hl1,hE⟩:=I.some Yd;obtain⟨x,hx⟩:=cT s.book.lines (a.toNat);have hlx:=hg.ln x (n5 hx);refine aU [] 7 11 112<|Za rfl<|Zam rfl<|Zj rfl iG rfl<|Zp rfl sC rfl Mm0 rfl<|Za rfl<|aT rfl hn<|eY rfl U57 lK rfl rfl Yd Yd rfl bSM<|Zj rfl yW rfl<|bD (v:=qI x.token) rfl aI rfl Mm1 Xdg n4 rfl bSM<|Zan rfl<|aF ?_;refine Zaf rfl (fun U=>?_) (fun U=>?_)
     ·have V:=U;simp only[GT]at V;refine Wh ?_;exact bE rfl fun D' hD=>⟨6,s.book,rfl,bT.err (by unfold qL;simp only[];rw[hx];exact bNK Yd),_,[(bx,_)],rfl,bNC ⟨bx,cap,junk,rfl,hcap,rfl,hl1,hE⟩,rfl⟩
     ·have V:=U;simp only[bMY]at V;refine aQ<|aU [] 3 10 112<|Za rfl<|Zam rfl<|Zj rfl iG rfl<|Zp rfl sC rfl Mm0 rfl<|Za rfl<|aT rfl hn<|eY rfl U57 lK rfl rfl Yd Yd rfl bSM<|Zj rfl yW rfl<|Wcg ?_;refine Wac ?_;exact bE rfl fun D' hD=>⟨0,{s.book with lines:=s.book.lines.set a.toNat {x with token:= -1}},rfl,bT.ok (by unfold qL;simp only[];rw[hx];exact bNA Yd),_,[(bx,_)],rfl,sJ bFN bQY hcap hl1 hE,rfl⟩
   ·refine aA<|Zaw rfl<|Zf rfl<|aF<|Zaf rfl (fun Y=>?_) (fun Y=>?_)
    ·obtain rfl:=bNP Y;obtain⟨hl,rfl⟩:=jT (k2:=1) (act2:=tX) hact rfl;obtain⟨a,rfl⟩:=zC hl;obtain⟨bt,ot,ct,rfl⟩:=dB hn Yf;have hbt:=eP hn;have hF:=hr a Yf;refine Za3<|Za3<|aU [] 5 9 248<|Wbx ?_;refine Zaf rfl (fun Z=>?_) (fun Z=>?_)
     ·have hB:=Z;simp only[GT]at hB;refine Wh ?_;exact bE rfl fun D' hD=>⟨7,s.book,rfl,bT.err Xcx,bl,ν6,rfl,I,rfl⟩
     ·have hB:=Z;simp only[bMY]at hB;refine aQ ?_;obtain⟨i,rfl⟩:∃i:Nat,a=(i:Int):=⟨a.toNat,Yd⟩
      have hi:i<s.book.lines.length:=Yd
      obtain⟨bx,cap,junk,rfl,hcap,rfl,hl1,hE⟩:=I.some Yd;refine fN hbt Yf fun hap=>pF fun hnd=>?_;have hnu:=fG hap hnd;have hwbo:wb∉cZ.mk [bt,wb]:=cZ.out Yf;have hbto:bt∉cZ.mk [bt,wb]:=cZ.out Yf;have hbx:bx∈cZ.mk [bt,wb]:=cZ.in_ (hnu (bx,_) bMV);refine aU (cZ.mk [bt,wb]) 2 22 524286<|Za rfl<|Za rfl<|Zam rfl<|Zj rfl iG rfl<|bD rfl sC rfl Mm0 rfl Yl rfl bSM<|Za rfl<|aT rfl hn<|BM (i:=i) rfl U57 lK rfl rfl Yd rfl bSM<|Za rfl<|Zam rfl<|Zj rfl iG rfl ?_;refine bD rfl sC rfl Mm0 rfl Yl rfl bSM<|Za rfl<|aT rfl hn<|Zad rfl<|BA (j:=i+1) rfl U57 lK rfl rfl Yd rfl bSM fun o ho=>aV ([(wb,_)]++(bx,_)::[]) rfl<|QZ [(wb,_)] [] bFN rfl U57 rfl rfl lK rfl rfl hi hcap ho hl1 hE Ybd bSM fun v1 νx hx=>Zaa ((wb,_)::(νx)) bd0<|Zam rfl<|Zj rfl iG rfl<|Zs (dO s pv cv hv lv mv v1 bc yc yq) rfl hx.cells1 ID .head rfl hx.cell1<|Zao ?_;refine Wac ?_;exact bE rfl fun D' hD=>⟨0,{s.book with lines:=s.book.lines.eraseIdx i},rfl,bT.ok (by unfold tX;simp only[];rw[bNA Yd,bOI]),v1,νx,rfl,hx,rfl⟩
    ·refine Wk ?_;exact bE rfl fun D' hD=>⟨-1,s.book,rfl,bNI ⟨rfl,rfl,(by simp only[H7,LT,n4,bOZ,bSF];exact⟨bNO hc1,bNO hK,bNO hX,bNO Y⟩)⟩,bl,ν6,rfl,I,rfl⟩
theorem aJQ(wb:Nat)(s:aM)(pv cv hv lv mv bl bc yc yq nv:Γ)(w:Λ)(ns:List Int)(act:eH)(ν7 ν8:aD)(D:aC)(hn:Sl D RI 1 nv ns)(hact:F0 w ns act)(hw1:w∉uF)(hw2:w∉Z6)(hw3:w∉H7)(hr:∀x∈ns,0≤x∧x≤999)(hk:lY s)(_hg:kG s)(I:bI 234 4 yc s.yard.chairs.length (s.yard.chairs.flatMap cH) ν7)(h8:bI 165 2 yq s.yard.claims.length (s.yard.claims.flatMap cP) ν8):kH prog 108 [.pointer (some ⟨wb,14,none⟩),.string w,nv] D ((wb,qC (dO s pv cv hv lv mv bl bc yc yq) 66)::(ν7++ν8)) (fun _ v ν'=>∃(e:Int) (r:C7.bA),v=qI e∧bT [w] w act s ns e (kK s r)∧∃yc' yq' ν7' ν8',ν'=(wb,qC (dO (kK s r) pv cv hv lv mv bl bc yc' yq') 66)::(ν7'++ν8')∧bI 234 4 yc' r.chairs.length (r.chairs.flatMap cH) ν7'∧bI 165 2 yq' r.claims.length (r.claims.flatMap cP) ν8') (fun _=>False):=by
 have k7:=hk.ch;have k8:=hk.cl;refine eI 172 func108 rfl rfl rfl rfl fun h0 hwl hwn=>aA<|Zf rfl<|bC<|Za rfl<|aF<|Za1<|aA<|Zaw rfl<|Zf rfl<|aF<|Zaf rfl (fun hc1=>?_) fun hc1=>?_
 ·obtain rfl:=bNP hc1;obtain⟨hl,rfl⟩:=jT (k2:=4) (act2:=uE) hact rfl;obtain⟨a,b,c,d,rfl⟩:=bCB hl;obtain⟨bt,ot,ct,rfl⟩:=dB hn Yf;have hbt:=eP hn;have hE:=hr a Yf;have hb9:=hr b Yf;have O:=hr c Yf;have hd9:=hr d Yf;refine bZ<|Za rfl<|aT rfl hn<|Was ?_;refine' dL 5 (s:=44) (p:=49) rfl (fun hg1=>?_) (fun hg1=>?_) ?_;rotate_left
  ·refine Zb rfl<|jB rfl U25 aH rfl hn rfl Yd rfl rfl ⟨_,rfl,rfl⟩ fun cs2 hr2 hcl2 hA2=>?_;obtain rfl:cs2=[qI _]:=hr2;refine Zi 0 rfl aI rfl hA2 rfl<|Ww ?_;exact aN 4
  ·refine Wf ?_;exact aN 4
  refine Za rfl ?_;refine' dL 5 (s:=50) (p:=55) rfl (fun hg2=>?_) (fun hg2=>?_) ?_;rotate_left
  ·refine Zb rfl<|jB rfl U25 aH rfl hn rfl Yd rfl rfl ⟨_,rfl,rfl⟩ fun cs3 hr3 hcl3 hA3=>?_;obtain rfl:cs3=[qI _]:=hr3;refine Zi 0 rfl aI rfl hA3 rfl<|Ww ?_;exact aN 4
  ·refine Wf ?_;exact aN 4
  refine Za rfl ?_;refine' dL 5 (s:=56) (p:=61) rfl (fun hg3=>?_) (fun hg3=>?_) ?_;rotate_left
  ·refine Zb rfl<|jB rfl U25 aH rfl hn rfl Yd rfl rfl ⟨_,rfl,rfl⟩ fun cs4 hr4 hcl4 hA4=>?_;obtain rfl:cs4=[qI _]:=hr4;refine Zi 0 rfl aI rfl hA4 rfl<|Ww ?_;exact aN 4
  ·refine Wf ?_;exact aN 4
  refine aF<|Zaf rfl (fun hc2=>?_) fun hc2=>?_
  ·have hF:=hc2;simp only[bNZ,GT]at hF;refine Wh ?_;exact bE rfl fun D' hD=>⟨2,s.yard,rfl,bT.err Ya1,yc,yq,ν7,ν8,rfl,I,h8⟩
  ·have hF:=hc2;simp only[bOH,bMY]at hF;refine aQ<|bZ<|Za rfl<|Zam rfl<|Zj rfl iO rfl<|Zp rfl pK rfl Mm0 rfl<|bR rfl U61 rfl I rfl rfl bSM<|Zas rfl<|aF<|Zaf rfl (fun hc3=>?_) (fun hc3=>?_)
   ·have hH:=hc3;simp only[GT]at hH;refine Wh ?_;exact bE rfl fun D' hD=>⟨3,s.yard,rfl,bT.err Ya1,yc,yq,ν7,ν8,rfl,I,h8⟩
   ·have hH:=hc3;simp only[bMY]at hH;refine aQ<|fN hbt Yf fun hap=>pF fun hnd=>?_;have hnu:=fG hap hnd;have hwbo:wb∉cZ.mk [bt,wb]:=cZ.out Yf;have hbto:bt∉cZ.mk [bt,wb]:=cZ.out Yf;refine aU (cZ.mk [bt,wb]) 2 24 2097150<|Za rfl<|Za rfl<|Zam rfl<|Zj rfl iO rfl<|bD rfl pK rfl Mm0 rfl Yl rfl bSM<|Za rfl<|aT rfl hn<|Wae ?_;refine Za rfl<|aT rfl hn<|M8 (cs:=[qI b,qI c,qI d]) rfl U232 aH xD rfl rfl rfl bSM<|jM (cs:=[qI a,qI b,qI c,qI d]) rfl bBZ CL rfl Yg rfl bSM<|Zt rfl U61 sG CL rfl (.cons rfl rfl .nil) fun b901 D901 hD901 hI=>Zaa ([(wb,_)]++ν7++ν8) bCY<|xF [(wb,_)] ν8 bJY (⟨a,⟨b,c,d⟩⟩:C7.Ch) rfl U61 rfl rfl sG CL rfl aEY rfl rfl rfl I hI Yd Yr bSM fun v1 νx hx=>Zaa ((wb,_)::(νx++ν8)) bCY.symm<|Zam rfl<|Zj rfl iO rfl<|Zs (dO s pv cv hv lv mv bl bc v1 yq) rfl hx.cells1 YU .head rfl hx.cell1<|Zao ?_;refine Wac ?_;exact bE rfl fun D' hD=>⟨0,{s.yard with chairs:=s.yard.chairs++[(⟨a,⟨b,c,d⟩⟩:C7.Ch)]},rfl,bT.ok Ya1,v1,yq,νx,ν8,rfl,hx,h8⟩
 ·refine aA<|Zaw rfl<|Zf rfl<|aF<|Zaf rfl (fun hc4=>?_) (fun hc4=>?_)
  ·obtain rfl:=bNP hc4;obtain⟨hl,rfl⟩:=jT (k2:=3) (act2:=vW) hact rfl;obtain⟨a,b,c,rfl⟩:=bDB hl;obtain⟨bt,ot,ct,rfl⟩:=dB hn Yf;have hbt:=eP hn;have hE:=hr a Yf;have hb9:=hr b Yf;have O:=hr c Yf;refine Za3<|Za3<|aU [] 7 15 248<|Za rfl<|aT rfl hn<|Za rfl<|Zam rfl<|Zj rfl iO rfl<|Zp rfl pK rfl Mm0 rfl<|bR rfl U61 rfl I rfl rfl bSM<|lH rfl rfl rfl rfl bSM<|Za rfl ?_;refine' dL 5 (s:=102) (p:=107) rfl (fun hg4=>?_) (fun hg4=>?_) ?_;rotate_left
   ·refine Zb rfl<|jB rfl U25 aH rfl hn rfl Yd rfl rfl ⟨_,rfl,rfl⟩ fun rA rB hcl10 hA10=>?_;obtain rfl:rA=[qI _]:=rB;refine Zi 0 rfl aI rfl hA10 rfl<|Ww ?_;exact aN 4
   ·refine Wf ?_;exact aN 4
   refine aF<|Zaf rfl (fun hJ=>?_) fun hJ=>?_
   ·have hK:=hJ;simp only[bNZ,GT]at hK;refine Wh ?_;exact bE rfl fun D' hD=>⟨7,s.yard,rfl,bT.err (bLB Yd Yd),yc,yq,ν7,ν8,rfl,I,h8⟩
   ·have hK:=hJ;simp only[bOH,bMY]at hK;refine aQ<|bZ<|Za rfl<|aT rfl hn<|Zaq rfl<|aF<|Zaf rfl (fun hN=>?_) (fun hN=>?_)
    ·have hO:=hN;simp only[GT]at hO;refine Wh ?_;exact bE rfl fun D' hD=>⟨2,s.yard,rfl,bT.err (bKC Yd Yd Yd),yc,yq,ν7,ν8,rfl,I,h8⟩
    ·have hO:=hN;simp only[bMY]at hO;refine aQ ?_;obtain⟨bx,cap,junk,rfl,hcap,rfl,hl1,hP⟩:=I.some Yd;obtain⟨x,hx⟩:=cT s.yard.chairs (a.toNat);refine aU [] 3 17 32752<|Za rfl<|Zam rfl<|Zj rfl iO rfl<|Zp rfl pK rfl Mm0 rfl<|Za rfl<|aT rfl hn<|Za rfl<|aT rfl hn<|Za rfl<|aT rfl hn<|eY rfl U61 sG rfl rfl Yd Yd rfl bSM ?_;refine Zj rfl AP rfl<|eT rfl U232 aH rfl rfl Yd Yd rfl bSM<|PE bJY (x2:={x with parts:=GU x.parts b.toNat c}) (k:=(1+b.toNat)) rfl rfl rfl rfl aH (.tail .head) hx Yd (aOL Yd) Yd bSM<|Zao<|Wac ?_;exact bE rfl fun D' hD=>⟨0,{s.yard with chairs:=s.yard.chairs.set a.toNat {x with parts:=GU x.parts b.toNat c}},rfl,bT.ok (OF hx Yd Yd),_,yq,[(bx,_)],ν8,rfl,sJ bJY bQY hcap hl1 hP,h8⟩
  ·refine aA<|Zaw rfl<|Zf rfl<|aF<|Zaf rfl (fun hR=>?_) (fun hR=>?_)
   ·obtain rfl:=bNP hR;obtain⟨hl,rfl⟩:=jT (k2:=1) (act2:=QP) hact rfl;obtain⟨a,rfl⟩:=zC hl;obtain⟨bt,ot,ct,rfl⟩:=dB hn Yf;have hbt:=eP hn;have hE:=hr a Yf;refine bZ<|Za rfl<|aT rfl hn<|Zaq rfl<|aF<|Zaf rfl (fun hS=>?_) (fun hS=>?_)
    ·have hX:=hS;simp only[GT]at hX;refine Wh ?_;exact bE rfl fun D' hD=>⟨2,s.yard,rfl,bT.err Xcf,yc,yq,ν7,ν8,rfl,I,h8⟩
    ·have hX:=hS;simp only[bMY]at hX;refine aQ<|aO<|Za rfl<|Za rfl<|aT rfl hn<|Zam rfl<|Zj rfl J5 rfl<|cR (ws:=[pv,cv,qI s.row.wrong,qI s.row.off,qI s.table.last,hv,qI s.table.step,lv,mv,qI s.book.chairs,qI s.book.coin,qI s.book.box,bl,bc,yc,qI a,yq]) rfl rfl rfl rfl aH .head Yf rfl Yk bSM<|Zao<|Za4<|Zaz<|aA ?_;refine We ?_;exact bE rfl fun D' hD=>⟨0,{s.yard with fit:=a},rfl,bT.ok Xcf,yc,yq,ν7,ν8,rfl,I,h8⟩
   ·refine aA<|Zaw rfl<|Zf rfl<|aF<|Zaf rfl (fun O=>?_) (fun O=>?_)
    ·obtain rfl:=bNP O;obtain⟨hl,rfl⟩:=jT (k2:=2) (act2:=B8) hact rfl;obtain⟨a,b,rfl⟩:=Z7 hl;obtain⟨bt,ot,ct,rfl⟩:=dB hn Yf;have hbt:=eP hn;have hE:=hr a Yf;have hb9:=hr b Yf;refine Za3<|Za3<|aU [] 4 8 56<|Za rfl<|aT rfl hn<|Za rfl<|aT rfl hn<|Zd rfl (fun D1 hD1=>W0 _ _ _ _)<|Zat rfl<|aF<|Zaf rfl (fun R=>?_) (fun R=>?_)
     ·have U:=R;simp only[bRQ,bPQ,bMY]at U;refine Wh ?_;exact bE rfl fun D' hD=>⟨2,s.yard,rfl,bT.err Ya4,yc,yq,ν7,ν8,rfl,I,h8⟩
     ·have U:=R;simp only[bMS,bRP,GT]at U;refine aQ<|bZ<|Za rfl<|Zam rfl<|Zj rfl kU rfl<|Zp rfl xG rfl Mm0 rfl<|bR rfl U62 rfl h8 rfl rfl bSM<|Zas rfl<|aF<|Zaf rfl (fun V=>?_) (fun V=>?_)
      ·have Y:=V;simp only[GT]at Y;refine Wh ?_;exact bE rfl fun D' hD=>⟨3,s.yard,rfl,bT.err Ya4,yc,yq,ν7,ν8,rfl,I,h8⟩
      ·have Y:=V;simp only[bMY]at Y;refine aQ<|fN hbt Yf fun hap=>pF fun hnd=>?_;have hnu:=fG hap hnd;have hwbo:wb∉cZ.mk [bt,wb]:=cZ.out Yf;have hbto:bt∉cZ.mk [bt,wb]:=cZ.out Yf;refine aU (cZ.mk [bt,wb]) 2 17 16382<|Za rfl<|Za rfl<|Zam rfl<|Zj rfl kU rfl<|bD rfl xG rfl Mm0 rfl Yl rfl bSM<|Za rfl<|aT rfl hn<|Za rfl<|aT rfl hn<|Zu [qI a,qI b] rfl bCG CF rfl<|Zt rfl U62 wV CF rfl (.cons rfl rfl .nil) fun b902 D902 hD902 hY=>?_;refine Zaa (([(wb,_)]++ν7)++ν8++[]) aJW<|xF ([(wb,_)]++ν7) [] bIF (a,b) rfl U62 rfl rfl wV CF rfl aDG rfl rfl rfl h8 hY Yd Yr bSM fun v1 νx hx=>Zaa ((wb,_)::(ν7++νx)) aJW.symm<|Zam rfl<|Zj rfl kU rfl<|Zs (dO s pv cv hv lv mv bl bc yc v1) rfl hx.cells1 PB .head rfl hx.cell1<|Zao<|Wac ?_;exact bE rfl fun D' hD=>⟨0,{s.yard with claims:=s.yard.claims++[(a,b)]},rfl,bT.ok Ya4,yc,v1,ν7,νx,rfl,I,hx⟩
    ·obtain rfl:=PY hact hw1 hw2 hw3 (bNO hc1) (bNO hc4) (bNO hR) (bNO O);obtain⟨hl,rfl⟩:=jT (k2:=1) (act2:=pY) hact rfl;obtain⟨a,rfl⟩:=zC hl;obtain⟨bt,ot,ct,rfl⟩:=dB hn Yf;have hbt:=eP hn;have hE:=hr a Yf;refine Za3<|Za3<|aU [] 5 9 248<|Za rfl<|aT rfl hn<|Za rfl<|Zam rfl<|Zj rfl kU rfl<|Zp rfl xG rfl Mm0 rfl<|bR rfl U62 rfl h8 rfl rfl bSM<|Wbb ?_;refine Zaf rfl (fun Z=>?_) (fun Z=>?_)
     ·have hB:=Z;simp only[GT]at hB;refine Wh ?_;exact bE rfl fun D' hD=>⟨7,s.yard,rfl,bT.err Xcy,yc,yq,ν7,ν8,rfl,I,h8⟩
     ·have hB:=Z;simp only[bMY]at hB;refine aQ ?_;obtain⟨i,rfl⟩:∃i:Nat,a=(i:Int):=⟨a.toNat,Yd⟩
      have hi:i<s.yard.claims.length:=Yd
      obtain⟨bx,cap,junk,rfl,hcap,rfl,hl1,hP⟩:=h8.some Yd;refine fN hbt Yf fun hap=>pF fun hnd=>?_;have hnu:=fG hap hnd;have hwbo:wb∉cZ.mk [bt,wb]:=cZ.out Yf;have hbto:bt∉cZ.mk [bt,wb]:=cZ.out Yf;have hbx:bx∈cZ.mk [bt,wb]:=cZ.in_ (hnu (bx,_) (GE _ bMV));refine aU (cZ.mk [bt,wb]) 2 22 524286<|Za rfl<|Za rfl<|Zam rfl<|Zj rfl kU rfl<|bD rfl xG rfl Mm0 rfl Yl rfl bSM<|Za rfl<|aT rfl hn<|BM (i:=i) rfl U62 wV rfl rfl Yd rfl bSM<|Za rfl<|Zam rfl<|Zj rfl kU rfl ?_;refine bD rfl xG rfl Mm0 rfl Yl rfl bSM<|Za rfl<|aT rfl hn<|Zad rfl<|BA (j:=i+1) rfl U62 wV rfl rfl Yd rfl bSM fun o ho=>aV (([(wb,_)]++ν7)++(bx,_)::[]) rfl<|QZ ([(wb,_)]++ν7) [] bIF rfl U62 rfl rfl wV rfl rfl hi hcap ho hl1 hP Ybd bSM fun v1 νx hx=>Zaa ((wb,_)::(ν7++νx)) bMQ<|Zam rfl<|Zj rfl kU rfl<|Zs (dO s pv cv hv lv mv bl bc yc v1) rfl hx.cells1 PB .head rfl hx.cell1<|Zao ?_;refine Wac ?_;exact bE rfl fun D' hD=>⟨0,{s.yard with claims:=s.yard.claims.eraseIdx i},rfl,bT.ok (by unfold pY;simp only[];rw[bNA Yd,bOI]),yc,v1,ν7,νx,rfl,I,hx⟩
theorem ZF(sv:Γ)(s:aM)(D:aC)(hs:gG D sv s)(hk:lY s)(hg:kG s):Fn prog 109 #[sv] D (fun _ v=>v=qI (fS s)):=by
 obtain⟨pv,cv,hv,lv,mv,bl,bc,yc,yq,rfl,hL⟩:=hs;unfold dO;have hcl:=hk.cl;have hp5:2^s.yard.claims.length≤2^5:=bOW Yd Yd;have U:1≤2^s.yard.claims.length:=Nat.one_le_two_pow;refine Zw 40 func109 rfl fun h0=>aA<|Zz rfl fun q1 E1 hY I=>Zf rfl<|bC<|Zj rfl uW rfl<|dX rfl (k:=0) DY V9 rfl I Yc rfl rfl n4 rfl bSM<|Zy rfl (fun D1 V=>L1.aKG _ s.row _ (hL.row.up (V _ Yf)) (hg.rowOk hk)) fun v1 D1 V U=>?_;have hH:=U;refine Zai rfl U80 rfl hH rfl<|Zas rfl<|aF<|Zae rfl (fun hc1=>?_) fun hc1=>?_
 ·have O:C1.truths s.row=[]:=(bQA Yd)
  refine Wci ?_;exact aE rfl fun D hD=>by show Value.int _ _=_;rw[uU hk hg];unfold RZ;rw[bNK O]
 ·have O:¬C1.truths s.row=[]:=fun e=>hc1 Xaq
  refine aQ<|bZ<|Zj rfl oF rfl<|dX rfl (k:=4) zN vV rfl I Yc rfl rfl n4 rfl bSM<|Zy rfl (fun D2 Y=>L2.JH _ s.table _ (hL.table.up (Y _ Yf)) (hg.t3 hk)) fun v2 D2 Y hI=>?_;have hJ:=hI;refine Zai rfl U80 rfl hJ rfl<|Zas rfl<|aF<|Zae rfl (fun hc2=>?_) fun hc2=>?_
  ·have a2:C2.fD s.table=[]:=(CJ fun x=>AO hk hg).1 (bQA Yd);refine Wci ?_;exact aE rfl fun D hD=>by show Value.int _ _=_;rw[uU hk hg];unfold RZ;rw[bNA O,bNK a2]
  ·have a2:¬C2.fD s.table=[]:=fun e=>hc2 (by rw[(CJ fun x=>AO hk hg).2 e];rfl)
   refine aQ<|bZ<|Zj rfl oF rfl<|dX rfl (k:=4) zN vV rfl I Yc rfl rfl n4 rfl bSM<|Zy rfl (fun D3 Z=>L2.ZD _ s.table _ (hL.table.up (Z _ Yf)) (hg.t3 hk)) fun v3 D3 Z hK=>?_;have hN:=hK;refine Zai rfl U80 rfl hN rfl<|Zas rfl<|aF<|Zae rfl (fun hc3=>?_) fun hc3=>?_
   ·have a3:C2.bK s.table=[]:=(CJ fun x=>EH hk hg).1 (bQA Yd);refine Wci ?_;exact aE rfl fun D hD=>by show Value.int _ _=_;rw[uU hk hg];unfold RZ;rw[bNA O,bNA a2,bNK a3]
   ·have a3:¬C2.bK s.table=[]:=fun e=>hc3 (by rw[(CJ fun x=>EH hk hg).2 e];rfl)
    refine aQ<|bZ<|Zj rfl J8 rfl<|dX rfl (k:=9) aUL QA rfl I Yc rfl rfl n4 rfl bSM<|Zd rfl (fun D4 hO=>L3.N5 _ s.book 3 _ (hL.book.up (hO _ Yf)) hk.bc Yt)<|Was ?_;refine' dL 5 (s:=23) (p:=28) rfl (fun hP=>?_) (fun hP=>?_) ?_;rotate_left
    ·refine Zk rfl oA rfl<|dX rfl (k:=14) qQ nW rfl I Yc rfl rfl n4 rfl ⟨_,rfl,rfl⟩<|Ze rfl (fun D5 hR=>L7.DR _ s.yard _ (hL.yard.up (hR _ Yf)) (by have:=hk.ch;omega))<|Ww ?_;exact aN 4
    ·refine Wf ?_;exact aN 4
    refine aF<|Zaf rfl (fun hc4=>?_) fun hc4=>?_
    ·have a4:4096<C3.tL 3 s.book.lines∨8<C7.dA s.yard.chairs:=by rw[RV hg.ln];have h9:=hc4;simp only[bNZ,GT]at h9;omega
     refine Wci ?_;exact aE rfl fun D hD=>by show Value.int _ _=_;rw[uU hk hg];unfold RZ;rw[bNA O,bNA a2,bNA a3,bNK a4]
    ·have a4:¬(4096<C3.tL 3 s.book.lines∨8<C7.dA s.yard.chairs):=by rw[RV hg.ln];have h9:=hc4;simp only[bOH,bMY]at h9;omega
     have hfy:C7.aZ s.yard=0:=by rw[hg.fY hk];exact bNA Yd
     refine aQ<|aA<|Zj rfl oA rfl<|dX rfl (k:=14) qQ nW rfl I Yc rfl rfl n4 rfl bSM<|Zy rfl (fun D6 hB=>L7.ZC _ s.yard _ (hL.yard.up (hB _ Yf)) hfy) fun v6 D6 hB hS=>?_;have hA:=hS;refine Zf rfl<|bO<|Za3<|bN [] 4 8 60<|Zj rfl oA rfl<|dX rfl (k:=14) qQ nW rfl I Yc rfl rfl n4 rfl bSM<|Za rfl<|Zj rfl oA rfl<|dX rfl (k:=14) qQ nW rfl I Yc rfl rfl n4 rfl bSM<|Zy rfl (fun D7 hE=>L7.bDC _ s.yard _ (hL.yard.up (hE _ Yf)) Yd) fun v7 D7 hE hX=>?_;obtain rfl:=hX;rw[show((2^s.yard.claims.length:Nat):Int)-1=((2^s.yard.claims.length-1:Nat):Int) by omega];refine Zd rfl (fun D8 hF=>L7.bGC _ _ s.yard (L7.YQ s.yard) (2^s.yard.claims.length-1) _ (hL.yard.up (hF _ Yf)) (hA.up RI.up (hF _ Yf)) hcl Yd)<|Zat rfl<|aF<|Zaf rfl (fun R=>?_) fun R=>?_
     ·have a5:L7.dC s.yard []=[]:=by have h9:=R;rw[VD hfy]at h9;simpa using h9
      refine Wci ?_;exact aE rfl fun D hD=>by show Value.int _ _=_;rw[uU hk hg];unfold RZ;rw[bNA O,bNA a2,bNA a3,bNA a4,bNK a5]
     ·have a5:¬L7.dC s.yard []=[]:=by have h9:=R;rw[VD hfy]at h9;simpa using h9
      refine aQ<|aA<|We ?_;exact aE rfl fun D hD=>by show Value.int _ _=_;rw[uU hk hg];unfold RZ;rw[bNA O,bNA a2,bNA a3,bNA a4,bNA a5]
end L12
namespace C12
theorem aUS(n j:Nat):qB (nS n j)=true:=by
 unfold qB;rw[P9];have:=Nat.mod_lt (n / 10^j) (show 0<10 by decide);simp only[bMS,GT];omega
theorem bEM{n:Nat}(h:n≤50)(t:List UInt8):G3 (nS n 1::nS n 0::t)=some n:=by
 have e:((nS n 1).toNat-48)*10+((nS n 0).toNat-48)=n:=by rw[P9,P9];omega
 show(if qB (nS n 1)=true∧qB (nS n 0)=true∧((nS n 1).toNat-48)*10+((nS n 0).toNat-48)≤50 then some (((nS n 1).toNat-48)*10+((nS n 0).toNat-48))else none)=_;rw[e,bNK ⟨aUS n 1,aUS n 0,h⟩]
theorem FX(i:Nat)(l t:List UInt8):fE i l++t=nS l.length 1::nS l.length 0::59::(l++(59::(qK (jU i l)++10::t))):=by
 simp[fE]
theorem SP{l x:List UInt8}(k:Nat):(l++x).getD (l.length+k) 0=x.getD k 0:=by
 rw[bOP,bOP,bPY Yd,Nat.add_sub_cancel_left]
theorem aPT{l x:List UInt8}(k:Nat):(l++x).drop (l.length+k)=x.drop k:=by
 rw[bRA,bOL Yd,bOA,Nat.add_sub_cancel_left]
theorem aBG(i:Nat)(l t:List UInt8):R0 l.length (fE i l++t)=zD i l:=by
 unfold R0 zD;rw[FX];have I:(nS l.length 1::nS l.length 0::59::(l++(59::(qK (jU i l)++10::t)))).getD (3+l.length) 0=59:=by
  rw[show 3+l.length=l.length+1+1+1 by omega,bRJ,bRJ,bRJ];exact(SP (l:=l) 0).trans rfl
 have O:(nS l.length 1::nS l.length 0::59::(l++(59::(qK (jU i l)++10::t)))).getD (8+l.length) 0=10:=by
  rw[show 8+l.length=(l.length+5)+1+1+1 by omega,bRJ,bRJ,bRJ,SP];rfl
 have R:(nS l.length 1::nS l.length 0::59::(l++(59::(qK (jU i l)++10::t)))).drop (4+l.length)=qK (jU i l)++10::t:=by
  rw[show 4+l.length=(l.length+1)+1+1+1 by omega,bRY,bRY,bRY,aPT];rfl
 rw[I,O,R];rfl
theorem aSX(i:Nat)(l t:List UInt8):((fE i l++t).drop 3).take l.length=l:=by
 rw[FX];show(l++_).take l.length=l;rw[bOK (bNJ _),bNR]
theorem aLD{l:List UInt8}(h:l.length≤50)(i j:Nat)(t:List UInt8):iJ i (fE j l++t)=if zD j l=zD i l then some l else none:=by
 unfold iJ;have e:(fE j l++t).length=9+l.length+t.length:=by rw[LE,mU]
 have I:G3 (fE j l++t)=some l.length:=by rw[FX];exact bEM h _
 rw[bNA Yd,I];simp only[];rw[bNA Yd,aBG,aSX]
theorem aBT{l:List UInt8}(h:l.length≤50)(i:Nat)(t:List UInt8):iJ i (fE i l++t)=some l:=by rw[aLD h,bNK rfl]
end C12
namespace L12
open C12 Go.Lib
def sY:Nat→Nat→Nat→List UInt8→List (Λ×Nat)
 |0,_,_,_=>[]
 |f+1,i,p,b=>match iJ i (b.drop p)with
  |none=>[]
  |some l=>(⟨l.toArray⟩,p+9+l.length)::sY f (i+1) (p+9+l.length) b
def bJR(x:Λ×Nat):List Γ:=[.string x.1,qI (x.2:Int)]
def aMT(l:List (Λ×Nat)):Nat:=match l.getLast? with|none=>0|some x=>x.2
theorem JL(l:List (Λ×Nat))(x:Λ×Nat):aMT (l++[x])=x.2:=by unfold aMT;rw[List.getLast?_append,List.getLast?_singleton];rfl
theorem HK:∀(f i p:Nat) (b:List UInt8),(sY f i p b).length≤f
 |0,_,_,_=>bNJ _
 |f+1,i,p,b=>by
  unfold sY;split
  ·exact bRC _
  ·rw[bMX];exact Nat.succ_le_succ (HK f _ _ b)
theorem UD{i p:Nat}{bs:List UInt8}{xs dn:List (Λ×Nat)}(h:xs=dn++sY (40-i) i p bs)(hw:iJ i (bs.drop p)=none):xs=dn:=by
 rw[h];cases hf:40-i with
 |zero=>exact bNN _
 |succ f=>rw[sY,hw];exact bNN _
theorem VX{i p:Nat}{bs:List UInt8}{xs dn:List (Λ×Nat)}{s:Λ}(hi:i<40)(h:xs=dn++sY (40-i) i p bs)(hw:iJ i (bs.drop p)=some s.data.toList):xs=dn++(s,p+9+s.size)::sY (40-(i+1)) (i+1) (p+9+s.size) bs:=by
 rw[h,show 40-i=(40-(i+1))+1 by omega,sY,hw];rfl
theorem SI(bs:List UInt8)(bv:Γ)(Dr:aC)(br:Nat)(hA:At Dr br 0 [bv])(hS:Sl Dr RU 1 bv bs)(hb:bs.length≤1000000000):G8 prog 263 [qP br] Dr (sY 40 0 0 bs) bJR:=by
 obtain⟨ba,bcap,rfl⟩:=hS.shape;refine AQ 32 func263 rfl rfl rfl rfl fun lo l J Jx hs hsx hY=>OJ<|aA<|Zf rfl<|bO<|DL<|Zaz<|aA<|Za rfl<|aF<|Za1<|Z1 (γ:=Nat×Nat×List (Λ×Nat)) (fun g=>40-g.1) (fun g=>g.1≤40∧g.2.1≤bs.length∧sY 40 0 0 bs=g.2.2++sY (40-g.1) g.1 g.2.1 bs) (fun g=>J g.2.2) (fun g=>[(7,qI (g.1:Int)),(3,qI (g.2.1:Int))]) [(0,_),(1,_)] (fun g=>[]) (fun g=>[Dr]) (0,0,[]) ⟨bRC _,bRC _,rfl⟩ rfl ⟨Ya,Ya,bSM⟩ cF Mm5 (aK) ?_;rintro⟨i,p,dn⟩ ⟨h1,h2,hxs⟩;simp only at h1 h2 hxs;refine aA<|Zan rfl<|bO<|Zae rfl (fun hc1=>?_) fun hc1=>?_
 ·simp only at hc1;have hi:i<40:=Yd
  refine aQ<|Za3<|Za1<|aA<|Za rfl<|Zf rfl<|aJ<|Za rfl<|Zh 0 rfl aRQ rfl hA rfl<|Za rfl<|R4 (j:=p) rfl U99 iU rfl hS rfl Yd rfl bSM (fun ea hE=>Zy rfl (fun D1 I=>zI i _ (bs.drop p) _ Yd (hE.up RU.up (I _ Yf)) (by rw[bOU];omega)) fun v1 D1 I V=>?_);obtain⟨s,wb,rfl,Y,Z⟩:=V;refine Za rfl<|Zap rfl<|Zap rfl<|Zf rfl<|Zf rfl<|bC<|Za rfl<|Zat rfl<|aF<|Zaf rfl (fun hc2=>?_) fun hc2=>?_
  ·have hwn:iJ i (bs.drop p)=none:=Z Yav;refine Za6<|Za2<|sR rfl<|Za2<|Za2<|Za7<|sD ?_;exact lA (P:=prog) (fn:=f263) (N:=32) (vs:=[]) rfl rfl bSM (fun D h=>⟨D,Xav,Le.refl D⟩) (bNI (by rw[←UD hxs hwn]))
  ·have hw:=Y Yav;obtain⟨O,R⟩:=vB hw;rw[bOU]at R;have hsz:s.data.toList.length=s.size:=rfl;rw[hsz]at R O;have hnx:=VX hi hxs hw;refine aQ<|aA<|Za rfl<|Za rfl<|gR rfl U9 rfl rfl rfl bSM<|Zad rfl<|Zad rfl<|Zad rfl<|Zf rfl<|bO ?_;rw[show((p:Int)+(3+(s.size:Int)+6))=((p+9+s.size:Nat):Int) by omega];refine aO<|Za rfl<|Za rfl<|Za rfl<|FQ (l:=l) (J1:=J (dn++[(s,p+9+s.size)])) (J0:=Jx (dn++[(s,p+9+s.size)])) rfl rfl rfl rfl (hs _) (hsx _) (fun D w hd hJ hb hl=>hY dn (s,p+9+s.size) _ D w ⟨_,hnx⟩ hd hJ (fun b hbm=>by obtain⟨q,hq,rfl⟩:=bMR.1 hbm;exact hb q hq) (hl _ Yf)) rfl bSM (fun b1 J1 U=>Zat rfl<|aF<|Zaf rfl (fun hc3=>?_) fun hc3=>?_)
   ·obtain rfl:b1=false:=Xac
    refine HQ<|Za5<|Za0<|Za0<|Za5<|zL ?_;exact lA (P:=prog) (fn:=f263) (N:=32) (vs:=[]) rfl rfl bSM (fun D h=>⟨D,Xav,Le.refl D⟩) (bNC ⟨_,by rw[U];rfl⟩)
   ·obtain rfl:b1=true:=Xac
    refine Wbs ?_;exact sX 31 (i+1,p+9+s.size,dn++[(s,p+9+s.size)]) ⟨Yn,Yn,by simp only;rw[bND];exact hnx⟩ Yn (by rw[U];rfl) ⟨Ya,Ya,bSM⟩ rfl rfl Mm5 fun D h=>⟨D,bNM _ (h),Le.refl D⟩
 ·obtain rfl:i=40:=by simp only at hc1;omega
  refine Za6<|Za2<|Za2<|Za7<|sD ?_;exact lA (P:=prog) (fn:=f263) (N:=32) (vs:=[]) rfl rfl bSM (fun D h=>⟨D,Xav,Le.refl D⟩) (bNI (by rw[hxs,show sY (40-40) 40 p bs=[]from rfl,bNN]))
theorem ZT(bv:Γ)(bs:List UInt8)(D:aC)(hS:Sl D RU 1 bv bs)(hb:bs.length≤1000000000):Fn prog 186 #[bv] D (fun D' v=>∃br,v=.func (.func 263) #[] #[qP br]∧G8 prog 263 [qP br] D' (sY 40 0 0 bs) bJR):=by
 obtain⟨ba,bcap,rfl⟩:=hS.shape;refine Zw 4 func186 rfl fun h0=>aA<|Zz rfl fun q1 E1 O I=>Wck ?_;exact aE rfl fun D hD=>⟨_,rfl,SI bs _ _ q1 (I.up (hD _ Yf)) (hS.up RU.up (hD _ Yf)) hb⟩
section
variable{P:Program}{X:Cx}{γb:Type}[Membership Nat γb]{bad:γb}{all:Array Oper}{K:Act→Δ→Prop}{Q:Exit→Act→Δ→Prop}
variable{σ:bU}{μ:aD}{Ds:List aC}{os:List (Bool×Nat)}{fl:Bool}{ix d:Nat}{ty:Θ}{pos:String}{aft:Array Edge}{g:Option (Nat×Bool)}{v:Γ}
def bMN(D' D:aC)(cells:List Γ):Prop:=D'=D∨∃b,D=gI D' b []∧D' b=cells
theorem YI{D:aC}{w:Δ}{bo:Nat}{cs js:List Γ}{e:Θ}{fz:Nat×Nat}(h:fA D w)(hb:w.heap[bo]?= some (.cells (cs++js).toArray e fz))(hD:D bo=[]):fA (gI D bo cs) w:=h.of (fun c hc=>by
 unfold gI at hc ⊢
 split
 ·rename_i ec;subst ec;exact⟨_,_,_,hb,List.prefix_append _ _⟩
 ·rename_i ec;rw[bNA ec]at hc;exact h.1 c hc) (by unfold gI;rw[bNA (Ne.symm (h.ne0 hD))]) rfl
theorem XW{A B ν:aD}{e:Θ}{sz n:Nat}{cells:List Γ}{c:Operand}{xs:Array Operand}{ats:Array Θ}{f:FuncId}{c1 c2:List Γ}{vs:List Γ}{post:aC→Γ→Prop}(ho:all[ix]?= some ⟨some d,.call {callee:=.value c,args:=xs,argTypes:=ats},ty,pos,aft,g⟩)(hc:ev σ c=some (.func (.func f) c1.toArray c2.toArray))(hxs:q9 σ xs.toList=some vs)
  (hacc:bI e sz v n cells ν) (hf:∀D,(∀D₁∈Ds,Le D₁ D)→kZ D v n cells→Fn P f (c1++vs++c2).toArray D post) (hN:Nat.blt d X.N=true) (hg:cQ all σ g)
  (kk:∀r D' D,(∀D₁∈Ds,Le D₁ D)→post D' r→bMN D' D cells→WL P X bad all K Q os ((d,r)::σ) (A++ν++B) (D::Ds)):WL P X bad all K Q ((fl,ix)::os) σ (A++ν++B) Ds:=by
 rcases hacc with⟨a',hv,h0,U,rfl⟩|⟨b,cap,junk,hv,hcap,rfl,h8,h9⟩
 ·exact aBJ ho hc hxs (fun D hD=>hf D hD (bNI ⟨a',hv,h0,U⟩)) hN hg fun r D hD hp=>kk r D D hD hp (bNI rfl)
 ·refine fF ho rfl rfl hg fun a w hh=>?_
  obtain⟨h1,h2,h3,D,h4,h5,V⟩:=id hh;obtain⟨O,I,Y⟩:=h4.box (b,qC (cells++junk) e) Yf;have hA:=EY D b cells;have hF:=hf (gI D b cells) (fun D₁ hD₁=>(h5 D₁ hD₁).trans (M7 I (h4.agr.ne0 I))) (bNC ⟨b,cap,hv,hcap,hA⟩);rw[uY hF.1 (hh.eval hc) (kT (fun _ _ hx=>hh.eval hx) hxs)];refine⟨fun h=>Xad,dR.2 ((hF.2 w (YI h4.agr O I)).mono ?_)⟩;rintro e' w' ⟨v',D',rfl,R,hpost⟩;have hs:=R.hide I (h4.agr.ne0 I);have hle:=gO h4.agr hs;have hDb:D' b=cells:=(R.dold b (bJ O)).trans (bNK rfl);refine⟨fun _=>hs.keep bad,kk _ D' _ (fun D₁ hD₁=>(h5 D₁ hD₁).trans hle) hpost (bNC ⟨b,rfl,hDb⟩) _ _ (Hl.put ⟨h1,h2,h3,gI D' b [],h4.after hs,fun D₁ hD₁=>?_,V.step (fun _ p hp=>bNI (bMR.2 ⟨p,hp,rfl⟩)) (fun _=>hs.low _) (h4.after hs).dom⟩ hN _)⟩;rcases LT.1 hD₁ with rfl|hD₁
  ·exact Le.refl _
  ·exact(h5 D₁ hD₁).trans hle
end
def NoS{α:Type}(R:Rd α):Prop:=(∀D D' x cs,R D x cs→R D' x cs)∧∀D x cs,R D x cs→∃c t,cs=c::t∧∀s,c≠.string s
theorem _root_.Go.Fs.Sl.hid{α:Type}{R:Rd α}(hR:NoS R){D' D:aC}{ls:List Λ}(h:bMN D' D (ls.map Value.string)){sz:Nat}{v:Γ}{xs:List α}(hS:Sl D' R sz v xs):Sl D R sz v xs:=by
 rcases h with rfl|⟨b,rfl,hb⟩
 ·exact hS
 ·obtain⟨a,cap,hv,h1,h2,h3⟩:=hS;refine⟨a,cap,hv,h1,h2,?_⟩;cases xs with
  |nil=>exact bNI rfl
  |cons x xs=>
   refine bNC ?_;rcases h3 with h3|⟨I,o,ha,he⟩
   ·cases h3
   ·have hne:I≠b:=by
     rintro rfl;obtain⟨cs,hr,_,hA⟩:=he 0 x rfl;obtain⟨c,t,rfl,hn⟩:=hR.2 _ _ _ hr;have h5:=hA 0 c rfl;rw[hb]at h5;obtain⟨s,_,hs⟩:=bMR.1 (n5 h5);exact hn s hs.symm
    refine⟨I,o,ha,fun i y hy=>?_⟩;obtain⟨cs,hr,hl,hA⟩:=he i y hy;exact⟨cs,hR.1 _ _ _ _ hr,hl,fun j u hj=>by unfold gI;rw[bNA hne];exact hA j u hj⟩
theorem _root_.Go.Fs.gG.hid{D' D:aC}{ls:List Λ}(h:bMN D' D (ls.map Value.string)){v:Γ}{s:aM}(hS:gG D' v s):gG D v s:=by
 obtain⟨pv,cv,hv,lv,mv,bl,bc,yc,yq,e,h1,h2,h3,h4,h5,I,O,h8,h9⟩:=hS;exact⟨pv,cv,hv,lv,mv,bl,bc,yc,yq,e,h1.hid ⟨fun _ _ _ _ h=>h,fun _ _ _ h=>⟨_,_,h,fun _ e=>Xak⟩⟩ h,h2.hid ⟨fun _ _ _ _ h=>h,fun _ _ _ h=>⟨_,_,h,fun _ e=>Xak⟩⟩ h,h3.hid ⟨fun _ _ _ _ h=>h,fun _ _ _ h=>⟨_,_,h,fun _ e=>Xak⟩⟩ h,h4.hid ⟨fun _ _ _ _ h=>h,fun _ _ _ h=>⟨_,_,h,fun _ e=>Xak⟩⟩ h,h5.hid ⟨fun _ _ _ _ h=>h,fun _ _ _ h=>⟨_,_,h,fun _ e=>Xak⟩⟩ h,I.hid ⟨fun _ _ _ _ h=>h,fun _ _ _ h=>⟨_,_,h,fun _ e=>Xak⟩⟩ h,O.hid ⟨fun _ _ _ _ h=>h,fun _ _ _ h=>⟨_,_,h,fun _ e=>Xak⟩⟩ h,h8.hid ⟨fun _ _ _ _ h=>h,fun _ _ _ h=>⟨_,_,h,fun _ e=>Xak⟩⟩ h,h9.hid ⟨fun _ _ _ _ h=>h,fun _ _ _ h=>⟨_,_,h,fun _ e=>Xak⟩⟩ h⟩
def dI(bs:List UInt8):List Λ:=(sY 40 0 0 bs).map (·.1)
def vX(bs:List UInt8)(more:List Λ):List Λ:=dI bs++xT (gK (dI bs)).1 more
def nM(bs:List UInt8)(more:List Λ):List UInt8×Int:=if eG more≠0 then([],eG more)else if 40<(vX bs more).length then([],3)else(rG (eL (vX bs more)),0)
theorem zO(bs:List UInt8):(dI bs).length≤40:=by unfold dI;rw[bOB];exact HK 40 0 0 bs
theorem aDN:∀(f i p:Nat) (b:List UInt8),∀x∈sY f i p b,x.1.size≤50
 |0,_,_,_,_,h=>by cases h
 |f+1,i,p,b,x,h=>by
  unfold sY at h;split at h
  ·cases h
  ·rename_i l hl;rcases LT.1 h with rfl|h
   ·exact(vB hl).1
   ·exact aDN f _ _ b x h
theorem t8(bs:List UInt8):∀l∈dI bs,l.size≤50:=fun l hl=>by
 obtain⟨x,hx,rfl⟩:=bMR.1 hl;exact aDN 40 0 0 bs x hx
theorem K4:∀(ls:List Λ) (s:aM),(xT s ls).length≤ls.length
 | [],_=>bNJ _
 |l::ls,s=>by
  have h1:=K4 ls (pO s l).1;rw[xT];split
  ·rw[bMX,bMX];omega
  ·rw[bMX];omega
theorem EW:∀(ls:List Λ) (s:aM),∀x∈xT s ls,x∈ls
 | [],_,_,h=>h
 |l::ls,s,x,h=>by
  rw[xT]at h;split at h
  ·rcases LT.1 h with rfl|h
   ·exact bMV
   ·exact bMT _ (EW ls _ x h)
  ·exact bMT _ (EW ls _ x h)
theorem VJ(ms:List Λ):∀(ls:List Λ) (s:aM),xT s (ls++ms)=xT s ls++xT (kW s ls) ms
 | [],_=>rfl
 |l::ls,s=>by
  rw[bPF,xT,xT,JT,VJ ms ls];split
  ·rfl
  ·rfl
theorem Q7{ls:List Λ}{k:Nat}{x:Λ}(h:ls[k]?= some x)(s:aM):xT s (ls.take (k+1))=xT s (ls.take k)++(if(pO (kW s (ls.take k)) x).2=0 then [x]else []):=by
 rw[bMZ,h,VJ];rfl
theorem LX{ls:List Λ}{k:Nat}{x:Λ}(h:ls[k]?= some x){s:aM}:kW s (ls.take (k+1))=(pO (kW s (ls.take k)) x).1:=by
 rw[bMZ,h,WM];rfl
theorem MC(bs:List UInt8)(more:List Λ):(vX bs more).length≤40+more.length:=by
 have h1:=zO bs;have h2:=K4 more (gK (dI bs)).1;unfold vX;rw[LE];omega
theorem WE{bs:List UInt8}{more:List Λ}(hf:eG more=0):∀l∈vX bs more,l.size≤50:=fun l hl=>by
 rcases bNH.1 hl with h|h
 ·exact t8 bs l h
 ·exact n9 hf l (EW _ _ l h)
theorem aPF{q:Nat}{o:Obj}{p1:Nat×Obj}{ν:aD}(h:(aD.ks ((q,o)::([p1]++ν++[]))).Nodup):∀p∈ν,p.1∉[q]:=by
 intro p hp hm;obtain rfl:p.1=q:=Xas
 exact(bOT.1 h).1 (bMR.2 ⟨p,by simp[hp],rfl⟩)
structure bKV where
 (k:Nat) (s:aM) (es:List Λ) (pv cv hv lv mv bl bc yc yq v:Γ) (ν:aD) (Dn:aC)
theorem UF(bv:Γ)(bs:List UInt8)(D:aC)(hS:Sl D RU 1 bv bs)(hb:bs.length≤1000000000):IU prog 95 #[bv] D (fun _D' v ν=>∃lv,v=.tuple #[lv,qI (aMT (sY 40 0 0 bs):Int)]∧bI 9 1 lv ((sY 40 0 0 bs).map (·.1)).length (((sY 40 0 0 bs).map (·.1)).map Value.string) ν):=by
 refine aFA 17 func95 rfl rfl rfl rfl fun h0=>aA<|Zah rfl bIT rfl fun q1=>Zah rfl cE rfl fun q2=>bC<|Za rfl<|Zy rfl (fun Z O=>ZT _ bs _ (hS.up RU.up (O _ Yf)) hb) fun v1 Z O R=>aF<|Za1 ?_
 obtain⟨br,rfl,hit⟩:=R;refine sW (γ:=Γ×aD×Nat) (xs:=sY 40 0 0 bs) (enc:=bJR) (Dr:=Z) (fun pre g=>bI 9 1 g.1 (pre.map (·.1)).length ((pre.map (·.1)).map Value.string) g.2.1∧g.2.2=aMT pre) (fun _ _ _=>False) (fun g=>[(q2,qC [qI (g.2.2:Int)] 3),(q1,qC [g.1] 22)]++g.2.1) (qN,[],0) rfl rfl rfl rfl hit Yf (fun _=>rfl) rfl ⟨bI.nil,rfl⟩ rfl ?_ ?_ fun _ _ _ _ h=>h.elim
 ·rintro pre x ⟨v,ν,e⟩ ⟨us,hx⟩ ⟨hac,he⟩ l bd rec hh D7 hF hst hpend;obtain⟨sx,px⟩:=x;simp only at hac he;have hpl:pre.length<40:=by have h9:=HK 40 0 0 bs;rw[hx,LE,bMX]at h9;omega
  refine aA<|Zf rfl<|aF<|aO<|Zf rfl<|Zao ?_;refine fun a w hhh=>zQ (A:=[(_,_),(_,_)]++ν) (B:=[(bd,.deferred (some []))]) (r:=rec) (l:=l) Ybb hst ?_ a w hhh
  refine Za1<|aO<|Zp rfl YB rfl Mm1 rfl<|Za rfl<|Zt rfl U22 fU tf_z9 rfl (.cons rfl rfl .nil) (fun hB hE U V=>aS (A:=[(_,_),(_,_)]) (ν:=ν) (B:=[(l,_),(bd,_)]) rfl U22 rfl rfl fU tf_z9 rfl G6 rfl rfl rfl hac (jY.lit Ym) Yf rfl Yap Yk (by rw[bOB];omega) (bNI rfl) rfl bSM fun v1 ν1 I=>?_);have Y:bI 9 1 v1 ((pre++[(sx,px)]).map (·.1)).length (((pre++[(sx,px)]).map (·.1)).map Value.string) ν1:=by rw[bNG,LE,bNG];exact I
  refine Za rfl<|cR rfl rfl rfl I.cells1 aUY (.tail .head) Yf rfl I.cell1 bSM<|Zr rfl aH ζ rfl<|Zao<|Za4 ?_;exact fun a w hh=>iX (A:=[(_,_),(_,_)]++ν1) (B:=[(bd,.deferred (some []))]) (v1,ν1,px) ⟨Y,(JL pre (sx,px)).symm⟩ rfl rfl a w hh
 ·rintro⟨v,ν,e⟩ bd ⟨hac,he⟩;dsimp only at hac he ⊢
  subst he;obtain⟨va,vn,vcap,rfl⟩:∃a n c,v=.slice a n c:=by rcases hac with⟨a1,h,_⟩|⟨b1,c1,j1,h,_⟩<;>exact⟨_,_,_,h⟩
  refine Za4<|Zaz<|Za3<|sF [] 1 4 6 (fun _ _ _ h=>h)<|Zp rfl YB rfl Mm1 rfl<|Zp rfl aI rfl Mm0 rfl<|GW rfl rfl rfl rfl aUY (.tail ζ) Yf rfl Yk bSM<|Zr rfl aH ζ rfl<|aG<|uP ([(_,_),(_,_)]++ν++[]++[(bd,.deferred (some []))]) (by rw[bNN];rfl) ?_;exact HA (vs:=[_,_]) (A:=[(_,_),(_,_)]) (ν':=ν) (B:=[]) rfl rfl rfl ⟨⟨_,_,_,rfl,Mm1,bNI ⟨YB,rfl⟩⟩,⟨_,_,_,rfl,bRN _,bNI ⟨aI,rfl⟩⟩,bSM⟩ fun D hD=>⟨_,rfl,hac⟩
theorem aJT(bv mv:Γ)(bs:List UInt8)(more:List Λ)(D:aC)(hS:Sl D RU 1 bv bs)(hb:bs.length≤1000000000)(hM:Sl D RS 1 mv more)(hV:oD D):Fn prog 31 #[bv,mv] D (fun D' v=>∃v1,v=.tuple #[v1,qI (nM bs more).2]∧Sl D' RU 1 v1 (nM bs more).1):=by
 refine Zw 55 func31 rfl fun h0=>aA<|Zf rfl<|Zf rfl<|bC<|Za rfl<|Zd rfl (fun D1 hF=>vR _ more _ (hM.up RS.up (hF _ Yf)))<|Zf rfl<|aJ<|Za rfl<|Zax rfl<|aF ?_;refine Zae rfl (fun hc1=>?_) fun hc1=>?_
 ·have hf:eG more≠0:=Xaa
  refine Wau ?_;exact Zo [_,_] rfl cF fun D hD=>⟨qN,by rw[nM,bNK hf];rfl,by rw[nM,bNK hf];exact Sl.nil⟩
 ·have hf:eG more=0:=Xaa
  have hm40:=y3 hf;refine aQ<|aA<|Za rfl<|fX rfl rfl rfl (fun D20 U=>UF _ bs _ (hS.up RU.up (U _ Yf)) hb) rfl bSM fun v20 D21 ν hD21 V=>?_;obtain⟨lw,rfl,hac⟩:=V;have hll:(dI bs).length≤40:=zO bs;have hls:=t8 bs;change bI 9 1 lw (dI bs).length ((dI bs).map Value.string) ν at hac;refine Za rfl<|Zap rfl<|Zap rfl<|Zf rfl<|Zf rfl<|aJ<|Za rfl<|XW (A:=[]) (B:=[]) rfl rfl rfl (by simpa using hac) (fun D30 Y Z=>aFG _ (dI bs) _ (Z.strs rfl Yd) Yd (fun l hl=>by have:=hls l hl;omega) (hV.up (Y _ Yf))) rfl bSM fun v30 D31 hH hD32 hB hid=>?_
  obtain⟨w1,w2,rfl,hst, -⟩:=hB;obtain⟨pv,cv,hv,lv,mv,bl,bc,yc,yq,rfl,hL⟩:=hst.hid hid;have hI:=l3 (dI bs);unfold dO;rw[bOA];refine Za rfl<|Zap rfl<|Zap rfl<|Zah rfl rD rfl fun q1=>Zac rfl eD ζ (eU hL)<|Zf rfl<|bC<|Za rfl<|Zai rfl U22 rfl hM rfl<|Za rfl<|aF<|Za1 ?_;refine gT (γ:=bKV) (fun g=>more.length-g.k) (fun g=>g.k≤more.length∧g.s=kW (gK (dI bs)).1 (more.take g.k)∧g.es=dI bs++xT (gK (dI bs)).1 (more.take g.k)∧bI 9 1 g.v g.es.length (g.es.map Value.string) g.ν∧jR g.Dn g.s g.pv g.cv g.hv g.lv g.mv g.bl g.bc g.yc g.yq∧lY g.s) (fun g=>[(32,qI (g.k:Int)),(7,g.v)]) [(31,_),(30,_),(9,_),(5,_),(4,_)] (fun g=>[(q1,qC (dO g.s g.pv g.cv g.hv g.lv g.mv g.bl g.bc g.yc g.yq) 42)]++g.ν++[]) (fun g=>[g.Dn,D]) ⟨0,(gK (dI bs)).1,dI bs,pv,cv,hv,lv,mv,bl,bc,yc,yq,lw,ν,hH⟩ ⟨Yf,rfl,by simp[xT],hac,hL,hI⟩ ⟨Ya,Ya,bSM⟩ cF Mm5 (Yo) ?_;rintro⟨k,s,es,pv,cv,hv,lv,mv,bl,bc,yc,yq,v,ν,Dn⟩ ⟨h1,hs,hp,ha,hL,hk⟩;simp only at h1 hs hp ha hL hk;have hel:es.length≤80:=by rw[hp,LE];have h9:=K4 (more.take k) (gK (dI bs)).1;rw[bON]at h9;have:=zO bs;omega
  refine aA<|Zan rfl<|bO<|Zae rfl (fun hc2=>?_) fun hc2=>?_
  ·simp only at hc2;have hlt:k<more.length:=Yd
   obtain⟨x,hx⟩:=cT more k;refine aQ<|Za3<|Za1<|aA<|Zx rfl U22 fU rfl hM rfl hx fun b1 o1 hJ hK hcl1 hN=>?_;obtain rfl:hJ=[.string _]:=hK;refine Zh 0 rfl sZ rfl hN rfl<|Zf rfl<|aJ<|Zag rfl kC rfl Mm0 eD<|Za rfl<|Zy rfl (fun D2 I=>bFC _ s x _ ⟨pv,cv,hv,lv,mv,bl,bc,yc,yq,rfl,hL.up (I _ Yf)⟩ hk (by have:=n9 hf x (n5 hx);omega) (hV.up (I _ Yf))) fun v2 D2 I hO=>?_
   obtain⟨w1,rfl,hP,hR,hX,hY,rA,rB,bc2,yc2,yq2,rfl,O⟩:=hO;have hk2:=OY hk x;unfold dO;refine Za rfl<|Zap rfl<|Zap rfl<|Zah rfl rD rfl fun q2=>Zac rfl eD ζ (eU O)<|Zf rfl<|aJ<|Za rfl<|Zas rfl<|aF<|Zae rfl (fun hc3=>?_) fun hc3=>?_
   ·have hz:(pO s x).2=0:=Xac
    refine pF fun hnd=>?_;have hnu:∀p∈ν,p.1∉[q2]:=aPF hnd;have hq2:q2∉cZ.mk [q2]:=cZ.out Yf;refine bN (cZ.mk [q2]) 3 7 30<|bL rfl kC rfl Mm0 eD Yl rfl bSM<|Za rfl<|Za rfl<|Zt rfl U22 fU tf_z9 rfl (.cons rfl rfl .nil) fun b901 D901 hD901 R=>aS (A:=[(_,_),(_,_)]) (B:=[]) rfl U22 rfl rfl fU tf_z9 rfl G6 rfl rfl rfl ha (jY.lit R) Yf rfl Yf Yk Yd (bNC fun p hp=>cZ.in_ (hnu p hp)) rfl bSM fun v1 ν1 ha1=>?_;have ha2:bI 9 1 v1 (es++[x]).length ((es++[x]).map Value.string) ν1:=by rw[LE,bNG];exact ha1
    refine aV ((q2,_)::(q1,_)::(ν1++[])) rfl<|Zac rfl eD (.tail ζ) (eU O)<|Wan ?_;exact aL 24 ⟨k+1,(pO s x).1,es++[x],hP,hR,hX,hY,rA,rB,bc2,yc2,yq2,v1,ν1,D2⟩ ⟨Yn,by simp only;rw[LX hx,hs],by simp only;rw[hp,Q7 hx,←hs,bNK hz,bND],ha2,O,hk2⟩ Yn ⟨Ya,Ya,bSM⟩ rfl rfl (List.Sublist.cons _ Mm5) (Yo)
   ·have hz:(pO s x).2≠0:=Xac
    refine Wbs ?_;exact aL 18 ⟨k+1,s,es,pv,cv,hv,lv,mv,bl,bc,yc,yq,v,ν,Dn⟩ ⟨Yn,by simp only;rw[LX hx,←hs];exact(bGS hz).symm,by simp only;rw[hp,Q7 hx,←hs,bNA hz,bNN],ha,hL,hk⟩ Yn ⟨Ya,Ya,bSM⟩ rfl rfl (List.Sublist.cons _ Mm5) (Yo)
  ·obtain rfl:k=more.length:=by simp only at hc2;omega
   rw[bNR]at hp hs;have hek:es=vX bs more:=hp;subst hek;have hkl:=MC bs more;refine Za6<|Za2<|Za2<|Za7<|Zaz<|bZ<|Za rfl<|bR rfl U22 rfl ha rfl rfl bSM<|Zaq rfl<|aF<|Zae rfl (fun hc4=>?_) fun hc4=>?_
   ·refine Wby ?_;exact Zo [_,_] rfl cF fun D hD=>⟨qN,by rw[nM,bNA Yd,bNK Yd];rfl,by rw[nM,bNA Yd,bNK Yd];exact Sl.nil⟩
   ·refine aQ<|Za3<|sN (A:=[(_,_)]) (B:=[]) ha rfl fun D8 hD8 hF8=>?_;have hks:=hF8.strs (l:=vX bs more) rfl Yd;refine aO<|Za rfl<|Zy rfl (fun D3 hE=>aDD _ (vX bs more) _ (hks.up RS.up (hE _ Yf)) Yd fun l hl=>by have:=WE hf l hl;omega) (fun v3 D3 hE hp3=>Wcd ?_)
    exact Zo [_,_] rfl cF fun D hD=>⟨v3,by rw[nM,bNA Yd,bNA Yd];rfl,by rw[nM,bNA Yd,bNA Yd];exact hp3.up RU.up (hD _ Yf)⟩
theorem X2(ls:List Λ):(eL ls).length=ls.length:=bOB _
theorem aKI(D:aC):Fn prog 43 #[] D (fun D' v=>gG D' v vN):=by
 refine Zw 17 func43 rfl fun h0=>aA<|Zah rfl L5 rfl fun q1=>aJ<|Zah rfl L5 rfl fun q2=>aJ<|Zt rfl U25 aH cE rfl (.cons rfl rfl (.cons rfl rfl (.cons rfl rfl (.cons rfl rfl .nil)))) fun V hE Z I=>?_;have O:=Sl.ofInts (l:=[_,_,_,_]) (n:=4) (cap:=4) I rfl Yd Yd;refine Zu [qS V 4 4,qN,qI 0,qI 1] rfl bHM bIK rfl<|Zj rfl uW rfl<|Zr rfl V9 ζ rfl<|aJ<|Zu [qI 5,qI 5] rfl S6 tT rfl<|Zu [qI 5,qI 5] rfl S6 tT rfl<|Zu [qI 5,qI 5] rfl S6 tT rfl<|Zu [qI 5,qI 5] rfl S6 tT rfl<|Zt rfl U53 mF tT rfl (.cons rfl rfl (.cons rfl rfl (.cons rfl rfl (.cons rfl rfl .nil)))) fun Y hF hB U=>Zu [qI 3,qS Y 4 4,qI 5,qN,qN] rfl bJG bGJ rfl<|Zj rfl oF rfl<|Zr rfl vV ζ rfl ?_;refine aJ<|Zu [qI 3,qI 5,qI 20,qN,qN] rfl bGR bFX rfl<|Zj rfl J8 rfl<|Zr rfl QA ζ rfl<|aJ<|Zu [qN,qI 1,qN] rfl bHN bJK rfl<|Zj rfl oA rfl<|Zr rfl nW ζ rfl<|aJ<|Zag rfl nF rfl Mm0 hG<|eF rfl rfl rfl rfl hG Yb Yb (.tail ζ) Yk bSM<|aG ?_;exact Zo [_] rfl ⟨⟨_,_,_,rfl,Mm1,Or.inr ⟨nF,hG,rfl⟩⟩,bSM⟩ fun D' hD=>⟨_,_,_,_,_,_,_,_,_,rfl,⟨O.up RI.up (hD _ Yf),Sl.nil,(nK (f:=cP) (R:=AV) (xs:=[(5,5),(5,5),(5,5),(5,5)]) (fun _ _=>rfl) (fun _=>rfl) (bNC ⟨_,4,rfl,Yt,U⟩) Yt).up AV.up (hD _ Yf),Sl.nil,Sl.nil,Sl.nil,Sl.nil,Sl.nil,Sl.nil⟩⟩
end L12
end Go.Fs
