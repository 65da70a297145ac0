/- Of BookPlays. -/
import Derived.Test.YtdjdcpieiedfgaaGreatDoorZBookPlaysAI
namespace Go.Fs
open Go.Proofs
namespace L12
open C12 Go.Lib
def bDU(s:aO):Prop:=∀r∈s.table.heights,r.2≤r.1+2
theorem EC{line:Λ}{act:eI}{n:List Int}(h:jZ line=some (act,n)):∃x∈lO,x.2.2=act:=by
 obtain⟨p,ps,hc⟩:=pJ line;rw[vA hc]at h;split at h
 ·cases h
 ·rename_i hf;split at h
  ·cases hm:ps.mapM vK with
   |none=>rw[hm]at h;cases h
   |some m=>rw[hm]at h;cases h;exact⟨_,List.mem_of_find?_eq_some hf,rfl⟩
  ·cases h
structure bKF(s:aO):Prop where
 row:C1.mP s.row
 tab:C2.LH s.table
 yard:L7.bDM s.yard
 hts:bDU s
section
variable{s:aO}(h:bKF s)
include h
end
end L12
namespace L7
open C7
theorem DB{y:aZ}{out:List Int}:(0:Int)<((dJ y out).length:Int) ↔∃t,eJ y t=true∧oI y.claims out (C5 y t:Nat)=true:=by
 rw[show((0:Int)<((dJ y out).length:Int) ↔ 0<(dJ y out).length) by omega,List.length_pos_iff_exists_mem];constructor
 ·rintro⟨p,hp⟩;obtain⟨t,h1,h2,_⟩:=vC.1 hp;exact⟨t,h1,h2⟩
 ·rintro⟨t,h1,h2⟩;exact⟨_,vC.2 ⟨t,h1,h2,rfl⟩⟩
end L7
namespace L12
open C12 Go.Lib


theorem aIV{t:C2.aW}{s:List Int}(h:s∈C2.bN t):C2.iH t s=true:=by
 have key:∀(l acc:List (List Int)),(∀u∈acc,C2.iH t u=true)→∀u∈l.foldl (C2.xJ t) acc,C2.iH t u=true:=by
  intro l;induction l with
  |nil=>exact fun acc h=>h
  |cons x l ih=>
   intro acc h;refine ih _ fun u hu=>?_
   unfold C2.xJ at hu;split at hu
   ·exact h u hu
   ·rename_i hx;rcases bLM.1 hu with hu|hu
    ·exact h u hu
    ·obtain rfl:=bLS.1 hu;simp only[bQE]at hx;simpa using hx.1
 exact key _ [] (fun u hu=>by cases hu) s h
theorem aDL:∀(l:List (Int×Int)) (m:Int),0≤m→(∀r∈l,0≤C2.fJ r∧C2.fJ r≤3)→l.foldl (fun(m:Int) r=>min (m*C2.fJ r) 2001) m≤m*3^l.length
 | [],m,h,_=>by simp
 |r::l,m,h,hr=>by
  obtain⟨a,b⟩:=hr r bKZ;have h0:0≤m*C2.fJ r:=bQH h a;have h1:m*C2.fJ r≤m*3:=Int.mul_le_mul_of_nonneg_left b h;rw[bME];refine Int.le_trans (aDL l _ Yd fun q hq=>hr q (bKY _ hq)) ?_;rw[bLF,Int.pow_succ,Int.mul_comm (3^l.length) 3,←Int.mul_assoc];exact Int.mul_le_mul_of_nonneg_right Yd (Int.pow_nonneg Yd)


section
variable{s:aO}(hst:fV s=0)(hh:bDU s)(hk:iY s){which:Nat}{low high:Int}(hl:0≤low∧low≤1)(hg:0≤high∧high≤1)
include hst hh hk hl hg
end
theorem bCW{α:Type}{p:α→Prop}{l:List α}{a:α}(h:∀x∈l,p x)(ha:p a):∀x∈l++[a],p x:=fun x hx=>(bLM.1 hx).elim (h x) fun e=>by rw[bLS.1 e];exact ha
theorem NL{α:Type}{p:α→Prop}{l:List α}{a:α}{i:Nat}(h:∀x∈l,p x)(ha:p a):∀x∈l.set i a,p x:=fun x hx=>(List.mem_or_eq_of_mem_set hx).elim (h x) fun e=>by rw[e];exact ha
theorem bBC{α:Type}{p:α→Prop}{l:List α}{i:Nat}(h:∀x∈l,p x):∀x∈l.eraseIdx i,p x:=fun x hx=>h x (List.mem_of_mem_eraseIdx hx)
structure kF(s:aO):Prop where
 len0:0<s.row.places.length
 wrong:0≤s.row.wrong∧s.row.wrong≤6
 off:0≤s.row.off∧s.row.off≤9
 place:∀p∈s.row.places,0≤p∧p≤2
 cnt:∀c∈s.row.counts,0≤c.many∧c.many≤s.row.places.length∧0≤c.num∧c.num≤9
 last:s.table.last=3
 step:0≤s.table.step∧s.table.step≤99
 hts:∀r∈s.table.heights,0≤r.1∧r.1≤r.2∧r.2≤99∧r.2≤r.1+2
 levs:∀n∈s.table.levels,0≤n∧n≤99
 mark:∀m∈s.table.marks,0≤m.frm∧m.frm≤m.to∧m.to≤3∧0≤m.lo∧m.lo≤m.hi∧m.hi≤99
 bk:s.book.coin=5∧s.book.box=20∧s.book.counts=[]
 ln:∀l∈s.book.lines,(1≤l.kind∧l.kind≤2)∧(0≤l.chair∧l.chair≤2)∧ -1≤l.token∧l.token≤2
 fit:0≤s.yard.fit∧s.yard.fit≤9
 size:∀c∈s.yard.chairs,(0≤c.size∧c.size≤9)∧(0≤c.parts.a∧c.parts.a≤2)∧(0≤c.parts.b∧c.parts.b≤2)∧0≤c.parts.c∧c.parts.c≤2
 claim:∀r∈s.yard.claims,0≤r.1∧r.1≤r.2∧r.2≤7
theorem aUS{p:C7.Pt}{i:Nat}{v:Int}(h:(0≤p.a∧p.a≤2)∧(0≤p.b∧p.b≤2)∧0≤p.c∧p.c≤2)(hv:0≤v∧v≤2):(0≤(I1 p i v).a∧(I1 p i v).a≤2)∧(0≤(I1 p i v).b∧(I1 p i v).b≤2)∧0≤(I1 p i v).c∧(I1 p i v).c≤2:=by
 unfold I1;split
 ·exact⟨hv,h.2⟩
 ·split
  ·exact⟨h.1,hv,h.2.2⟩
  ·exact⟨h.1,h.2.1,hv⟩
theorem GX:∀x∈lO,∀(s:aO) (n:List Int) (s':aO),iY s→kF s→(∀m∈n,0≤m∧m≤999)→x.2.2 s n=.ok s'→kF s':=by
 intro x hx s n s' hk h hn e;simp only[lO,bNA,n4,bND]at hx;have kb:=hk.bc;have kh:=hk.ht;obtain⟨g1,g2,g3,g4,U,g6,g7,g8,g9,V,Y,I,Z,O,g15⟩:=h;rcases hx with rfl|rfl|rfl|rfl|rfl|rfl|rfl|rfl|rfl|rfl|rfl|rfl|rfl|rfl|rfl|rfl|rfl|rfl|rfl|rfl|rfl|rfl;all_goals simp only[xH,S6,oF,oQ,xM,IA,R3,R6,xR,xP,yT,sG,oH,oY,sM,sK,tQ,HX,xI,oP]at e
 all_goals repeat' split at e
 all_goals cases e
 all_goals try simp only[List.forall_mem_cons]at hn
 all_goals refine⟨?_,?_,?_,?_,?_,?_,?_,?_,?_,?_,?_,?_,?_,?_,?_⟩
 all_goals simp only[HD,ES,HH,GV]
 all_goals first|assumption|omega|exact bCW Yn Xcq|exact NL Yn Xcq|exact bBC Yn|(simp only[GE,bNW,bNB];omega)|(intro c hc;have:=U c hc;simp only[GE,bNW];omega)|(have R:=I _ (GT Yn);exact NL I ⟨R.1,R.2.1,Xcq⟩)|(have R:=O _ (GT Yn);exact NL O ⟨R.1,aUS R.2 Yd⟩)
theorem EQ:kF I5:=by
 refine⟨Yt,Yt,Yt,Yt,Yt,rfl,Yt,Yt,Yt,fun _ h=>Xaa,⟨rfl,rfl,rfl⟩,fun _ h=>Xaa,Yt,fun _ h=>Xaa,fun _ h=>Xaa⟩
theorem I3{line:Λ}{act:eI}{n:List Int}(h:jZ line=some (act,n)):∀m∈n,0≤m∧m≤999:=by
 obtain⟨p,ps,hc⟩:=pJ line;rw[vA hc]at h;split at h
 ·cases h
 ·split at h
  ·cases hm:ps.mapM vK with
   |none=>rw[hm]at h;cases h
   |some m=>rw[hm]at h;cases h;exact T5 hm
  ·cases h
theorem aEE{s:aO}(hk:iY s)(h:kF s)(line:Λ):kF (C8 s line).1:=by
 unfold C8;cases hp:jZ line with
 |none=>exact h
 |some a=>
  obtain⟨act,n⟩:=a;simp only[];cases ha:act s n with
  |error c=>exact h
  |ok s'=>
   simp only[];split
   ·obtain⟨x,hx,rfl⟩:=EC hp;exact GX x hx s n s' hk h (I3 hp) ha
   ·exact h
theorem ZJ(ls:List Λ):kF (nD ls).1:=(XG (I:=fun s=>iY s∧kF s) (fun _s l h=>⟨MN h.1 l,aEE h.1 h.2 l⟩) ⟨zX,EQ⟩ ls).2
section
variable{s:aO}(hk:iY s)(h:kF s)
include hk h
theorem kF.rowOk:C1.mP s.row:=⟨h.len0,by have:=hk.pl;omega,hk.ct,h.wrong,h.off,h.place,h.cnt⟩
theorem kF.tOk:C2.LH s.table:=⟨by rw[h.last];decide,by rw[hk.ht,h.last];decide,h.step,fun r hr=>by
 have:=h.hts r hr;unfold C2.jJ C2.fI;simp only[bKW,LT,C1.bT];omega,hk.lev,h.levs,hk.mks,fun m hm=>by
 have:=h.mark m hm;rw[h.last];unfold C2.xA C2.tE C2.GQ C2.jJ C2.fI;simp only[bKW,LT,C1.bT];omega⟩
theorem kF.many:C2.rI s.table.heights≤81:=by
 have:=aDL s.table.heights 1 Yd fun q hq=>by have:=h.hts q hq;unfold C2.fJ;omega
 rw[hk.ht]at this;exact Int.le_trans this Yt
theorem kF.fT:C2.bB s.table=if C2.eY s.table=[]then 9 else 0:=by
 have ho:=h.tOk hk;have h1:C2.aLT s.table=false:=by
  unfold C2.aLT;have:=ho.last;have:=ho.lev;have:=ho.mks
  simp only[bMG,bLC];omega
 have h2:C2.bDZ s.table=true:=by
  unfold C2.bDZ C2.fI;simp only[bKW,LT,bLX,C1.bT];exact⟨⟨⟨⟨⟨ho.last.1,ho.len⟩,ho.hts⟩,ho.step⟩,ho.levs⟩,ho.mark⟩
 unfold C2.bB;rw[h1,h2,bLI Ye,bLI Ye,bLI (by have:=h.many hk;omega)]
theorem kF.fB:C3.bB s.book=if 4096<C3.tR 3 s.book.lines then 3 else 0:=by
 have h1:C3.tK s.book=true:=by
  unfold C3.tK;rw[hk.bc,h.bk.1,h.bk.2.1,h.bk.2.2];simp only[bKW,bLX,C1.bT];refine⟨⟨⟨⟨Yt,Yt⟩,Yt⟩,fun l hl=>?_⟩,fun _ h=>Xaa⟩;have:=h.ln l hl;unfold C3.xE;simp only[bKW,C1.bT];omega
 unfold C3.bB;rw[h1,bLI (by rw[h.bk.2.2];have:=hk.ln;simp;omega),bLI Ye,hk.bc]
theorem kF.fY:C7.bB s.yard=if 8<C7.dK s.yard.chairs then 3 else 0:=by
 have h1:C7.B7 s.yard=true:=by
  unfold C7.B7;simp only[bKW,bLX,C7.bT];refine⟨⟨h.fit,fun c hc=>?_⟩,fun r hr=>?_⟩
  ·have:=h.size c hc;unfold C7.lC C7.SL C7.Pt.l;simp only[bKW,bLX,C7.bT,List.forall_mem_cons];exact⟨this.1,this.2.1,this.2.2.1,this.2.2.2,fun _ h=>Xaa⟩
  ·have:=h.claim r hr;unfold C7.mO;simp only[bKW,LT];omega
 unfold C7.bB;rw[h1,bLI (by have:=hk.ch;have:=hk.cl;omega),bLI Ye]
end
def RZ(s:aO):Int:=if C1.truths s.row=[]then 11 else if C2.eY s.table=[]then 9 else if C2.bN s.table=[]then 11 else if 4096<C3.tR 3 s.book.lines∨8<C7.dK s.yard.chairs then 3 else if L7.dJ s.yard []=[]then 11 else 0
theorem RM(y:C7.aZ):(L7.gI y).2=if C7.bB y≠0 then C7.bB y else if L7.dJ y []=[]then 11 else 0:=by
 unfold L7.gI;by_cases h:C7.bB y=0
 ·rw[bLI Yd,bLI Yd];cases L7.dJ y []with
  |nil=>rfl
  |cons a l=>simp only[bMD];rfl
 ·rw[bLR h,bLR h]
theorem uQ{s:aO}(hk:iY s)(h:kF s):fV s=RZ s:=by
 unfold fV RZ C1.eM C2.oL;rw[C1.n6.2 (h.rowOk hk),h.fT hk,h.fB hk,h.fY hk,RM,h.fY hk];by_cases I:C1.truths s.row=[]
 ·simp[I]
 ·by_cases a2:C2.eY s.table=[]
  ·simp[I,a2]
  ·by_cases a3:C2.bN s.table=[]
   ·simp[I,a2,a3]
   ·by_cases a4:4096<C3.tR 3 s.book.lines
    ·simp[I,a2,a3,a4]
    ·by_cases a5:8<C7.dK s.yard.chairs
     ·simp[I,a2,a3,a4,a5]
     ·by_cases O:L7.dJ s.yard []=[]
      ·simp[I,a2,a3,a4,a5,O]
      ·simp[I,a2,a3,a4,a5,O]
end L12
open Go.Proofs Tryz
namespace L1
open C1
theorem aWG{r:dB}{t:List Int}(h:t.length≠r.places.length):eJ r t=false:=by
 unfold eJ;simp[h]
theorem bEG{r:dB}{t:List Int}{k:Nat}{x y:Int}(hx:r.places[k]?= some x)(hy:t[k]?= some y)(h:(!gZ y 0 1||(decide (x≠2)&&decide (y≠x)))=true):eJ r t=false:=by
 have hm:(y,x)∈t.zip r.places:=GT (i:=k) (by rw[bQG];exact⟨hy,hx⟩);have:((t.zip r.places).all fun x=>qY x.1 x.2)=false:=by
  rw[bQC];refine⟨_,hm,?_⟩;unfold qY;simp only[bMF,bNY,bKW,LT]at h;rcases h with h|h
  ·simp[h]
  ·simp only[bKW,bMF,bPX];rintro⟨_,h3|h3⟩
   ·exact h.1 h3
   ·exact h.2 h3
 unfold eJ;rw[this];simp
theorem aTI{r:dB}{t:List Int}{k:Nat}{x y:Int}(hx:r.places[k]?= some x)(hy:t[k]?= some y)(h2:((t.zip r.places).take k).all (fun x=>qY x.1 x.2)=true)(h:(!gZ y 0 1||(decide (x≠2)&&decide (y≠x)))=false):
  ((t.zip r.places).take (k+1)).all (fun x=>qY x.1 x.2)=true:=by
 rw[bLA,show(t.zip r.places)[k]?= some (y,x) by rw[bQG];exact⟨hy,hx⟩,List.all_append,h2];simp only[bMG,bPA,bPR,bLC,ne_eq,Decidable.not_not]at h;rcases h with⟨h0,h|h⟩
 ·simp[qY,h,h0]
 ·subst h;simp[qY,h0]
theorem bAJ{r:dB}{t:List Int}{k:Nat}(hl:t.length=r.places.length)(hk:t.length≤k)(h2:((t.zip r.places).take k).all (fun x=>qY x.1 x.2)=true):eJ r t=true:=by
 rw[bLZ Yaq]at h2;unfold eJ;rw[h2,hl];simp
theorem XD{r:dB}{t:List Int}{k:Nat}{x:uV}(hx:r.counts[k]?= some x)(h:0<gP t x):((((r.counts.take (k+1)).filter fun c=>decide (0<gP t c)).length:Nat):Int)=((r.counts.take k).filter fun c=>decide (0<gP t c)).length+1:=by
 rw[bLA,hx,bLT,bMJ,GE];simp[h]
theorem aIB{r:dB}{t:List Int}{k:Nat}{x:uV}(hx:r.counts[k]?= some x)(h:¬0<gP t x):((((r.counts.take (k+1)).filter fun c=>decide (0<gP t c)).length:Nat):Int)=((r.counts.take k).filter fun c=>decide (0<gP t c)).length:=by
 rw[bLA,hx,bLT,bMJ,GE];simp[h]
theorem aRJ(tv:Γ)(t:List Int)(i j:Int)(a n:Nat)(D:aC)(hS:Sl D RI 1 tv t)(hi:i=a)(hj:j+1=a+n)(hn:a+n≤t.length)(hb:∀x∈t,0≤x∧x≤1)(hl:t.length≤100):Fn prog 53 #[tv,qI i,qI j] D (fun _ v=>v=qI (dT t a n)):=by
 subst hi;refine Zx 22 func53 rfl fun h0=>aA<|Zk rfl<|aL<|Zk rfl<|bK<|Za rfl<|Zk rfl<|aF<|Za3<|dW (γ:=Nat) (fun k=>n-k) (fun k=>k≤n) (fun k=>[(8,qI ((a:Int)+k)),(7,qI (dT t a k))]) [(6,_),(0,_),(2,_)] (fun k=>[D]) 0 Yd ⟨(by simp;rfl),(by simp[dT];rfl),bQK⟩ cR (aK) ?_
 rintro k h1;refine bM<|Za rfl<|Za rfl<|iD rfl rfl rfl rfl bQK<|aF<|Zag rfl (fun hc1=>?_) fun hc1=>?_
 ·have hk:k<n:=by omega
  obtain⟨x,hx0⟩:=cB t (a+k);have hx:t[((a:Int)+k).toNat]?= some x:=by rw[show((a:Int)+k).toNat=a+k by omega];exact hx0
  have hx1:=hb x (GT hx0);have hx2:=eX hb a k;refine aQ<|Za5<|Za3<|aP<|Za rfl<|Za rfl<|Za rfl<|iN rfl hS rfl hx fun I o1=>Zah rfl<|Zk rfl<|Zap<|Za6 ?_;refine Za1<|aP<|Za rfl<|Wbx ?_;exact aI 15 (k+1) Yd Yd ⟨Ya,(by rw[B8 hx0];rfl),bQK⟩ rfl rfl Mm5 (aK)
 ·obtain rfl:k=n:=by omega
  refine Wn ?_;exact aE rfl fun D hD=>rfl
theorem aSQ(tv:Γ)(t:List Int)(c:uV)(D:aC)(hS:Sl D RI 1 tv t)(h0:0≤c.many)(h1:c.many≤t.length)(h2:0≤c.num)(h3:c.num≤9)(hb:∀x∈t,0≤x∧x≤1)(hl:t.length≤100):Fn prog 205 #[tv,cV c] D (fun _ v=>v=qI (gP t c)):=by
 have U:=h0;have V:=h1;have Y:=eX hb 0 c.many.toNat;have Z:=eX hb (t.length-c.many.toNat) c.many.toNat;refine Zx 32 func205 rfl fun h0=>aA<|Zab rfl fun q1 E1 hB I=>Zk rfl<|aL<|Za rfl<|Zi rfl O4 rfl<|Zd 1 rfl aH rfl I rfl<|Zaz rfl<|Zf rfl (fun D1 O=>aRJ _ t _ _ 0 c.many.toNat _ (hS.up RI.up (O _ Ye)) rfl Yd Yd hb hl)<|Zk rfl<|bK ?_;refine Zi rfl y1 rfl<|Zd 0 rfl a8 rfl I rfl<|aF<|Zaf rfl (fun hc1=>?_) fun hc1=>?_
 ·have hab:L8 t c=dT t (t.length-c.many.toNat) c.many.toNat:=by unfold L8;rw[bLR hc1]
  refine aP<|Za rfl<|Za rfl<|dD rfl U25 rfl Yn rfl rfl bQK<|Zi rfl O4 rfl<|Zd 1 rfl aH rfl I rfl<|Zaz rfl<|Za rfl<|dD rfl U25 rfl Yn rfl rfl bQK<|Zaz rfl<|Zf rfl (fun D2 R=>aRJ _ t _ _ (t.length-c.many.toNat) c.many.toNat _ (hS.up RI.up (R _ Ye)) Yd Yd Yd hb hl)<|Zk rfl ?_;refine aL<|Za rfl<|Zi rfl uX rfl<|Zd 2 rfl aH rfl I rfl<|Zaz rfl<|Zi rfl uX rfl<|Zd 2 rfl aH rfl I rfl<|Za rfl<|Zaz rfl<|qF rfl rfl rfl rfl bQK<|We ?_;exact aE rfl fun D hD=>by show Value.int _ _=_;rw[gP,hab]
 ·have hab:L8 t c=dT t 0 c.many.toNat:=by unfold L8;rw[bLI (by simp[hc1])]
  refine aQ<|aA<|Za rfl<|Zi rfl uX rfl<|Zd 2 rfl aH rfl I rfl<|Zaz rfl<|Zi rfl uX rfl<|Zd 2 rfl aH rfl I rfl<|Za rfl<|Zaz rfl<|qF rfl rfl rfl rfl bQK<|Zk rfl ?_;refine aG ?_;exact aE rfl fun D hD=>by show Value.int _ _=_;rw[gP,hab]
theorem aAG(rv tv:Γ)(r:dB)(t:List Int)(D:aC)(hr:mE D rv r)(ht:Sl D RI 1 tv t):Fn prog 123 #[rv,tv] D (fun _ v=>v=.bool (eJ r t)):=by
 obtain⟨pv,cv,rfl,hp,hc⟩:=hr;have hl:=ht.len;refine Zx 44 func123 rfl fun h0=>aA<|Zab rfl fun q1 E1 hO I=>Zk rfl<|bK<|Za rfl<|Zai rfl U25 rfl ht rfl<|Zi rfl jH rfl<|Zd 0 rfl bX rfl I rfl<|Zai rfl U25 rfl hp rfl<|Zax rfl<|aF ?_;refine Zag rfl (fun hc1=>?_) fun hc1=>?_
 ·refine Wcg ?_;exact aE rfl fun D hD=>by show Value.bool _=_;rw[aWG Yd]
 ·have hlen:t.length=r.places.length:=by omega
  refine aQ<|bM<|Zk rfl<|aF<|Za3<|Zn Nat (fun k=>t.length-k) (fun k=>k≤t.length∧((t.zip r.places).take k).all (fun x=>qY x.1 x.2)=true) (fun k=>[(5,qI (k:Int))]) [(4,_),(2,_),(1,_)] (fun k=>[E1,D]) 0 ⟨Ya,bQK⟩ ?_;rintro k ⟨h1,h2⟩;refine bM<|Za rfl<|Za rfl<|Zai rfl U25 rfl ht rfl<|Zan rfl<|aF<|Zag rfl (fun hc2=>?_) fun hc2=>?_
  ·have hk:k<t.length:=by omega
   obtain⟨x,hx⟩:=cB r.places k;obtain⟨y,hy⟩:=cB t k;refine aQ<|Za5<|Za3<|Za5<|bE [] 7 26 8159746<|Za rfl<|Za rfl<|iN rfl ht rfl hy fun b1 o1=>Zf rfl (fun D1 hP=>aEK _ _ _ _)<|Wbu ?_;refine' cT 19 (s:=24) (p:=43) rfl (fun O=>?_) (fun O=>?_) ?_;rotate_left
   ·refine Zj rfl jH rfl<|Ze 0 rfl bX rfl I rfl<|Zb rfl<|dX rfl U25 aJ rfl hp rfl Yd hx rfl ⟨_,rfl,rfl⟩ fun b2 o2 R U hJ V=>?_;obtain rfl:R=[qI _]:=U;refine Ze 0 rfl aH rfl V rfl<|sU rfl rfl rfl rfl ⟨_,rfl,rfl⟩<|Zb rfl ?_;refine' bW 11 (s:=31) (p:=42) rfl (fun Y=>?_) (fun Y=>?_) ?_;rotate_left
    ·refine Zb rfl<|Zb rfl<|dX rfl U25 aJ rfl ht rfl Yd hy rfl ⟨_,rfl,rfl⟩ fun b3 o3 Z hB hK hE=>?_;obtain rfl:Z=[qI _]:=hB;refine Ze 0 rfl aH rfl hE rfl<|Zj rfl jH rfl<|Ze 0 rfl bX rfl I rfl<|Zb rfl<|dX rfl U25 aJ rfl hp rfl Yd hx rfl ⟨_,rfl,rfl⟩ fun b4 o4 hF hH hN hI=>?_;obtain rfl:hF=[qI _]:=hH;refine Ze 0 rfl aH rfl hI rfl<|sU rfl rfl rfl rfl ⟨_,rfl,rfl⟩<|pH rfl rfl rfl rfl ⟨_,rfl,rfl⟩ ?_;exact aM 10
    ·refine Zh rfl<|Zh rfl<|Zh rfl<|Zh rfl<|Zh rfl<|Zh rfl<|Zh rfl<|Zh rfl<|Wch ?_;exact aM 10
    refine Zal rfl ?_;exact aM 8
   ·refine Waq ?_;refine Zh rfl<|Wbw ?_;exact aM 18
   refine aF<|Zaf rfl (fun hc3=>?_) fun hc3=>?_
   ·refine aA<|Wg ?_;exact aE rfl fun D hD=>by show Value.bool _=_;rw[bEG hx hy hc3]
   ·refine Wbv ?_;exact aI 16 (k+1) ⟨Yd,aTI hx hy h2 hc3⟩ Yd ⟨Ya,bQK⟩ rfl rfl Mm5 (aK)
  ·refine Wj ?_;exact aE rfl fun D hD=>by show Value.bool _=_;rw[bAJ hlen Yd h2]
theorem aQO(rv tv:Γ)(r:dB)(t:List Int)(D:aC)(hr:mE D rv r)(ht:Sl D RI 1 tv t)(hok:mP r)(htr:pA r t):Fn prog 125 #[rv,tv] D (fun _ v=>v=qI (if eS r t then(rO r t:Int)else -1)):=by
 obtain⟨pv,cv,rfl,hp,hc⟩:=hr;have hl:=hc.len;have h6:=hok.cnt6;have h9:=hok.len9;have htl:=htr.1;refine Zx 31 func125 rfl fun h0=>aA<|Zab rfl fun q1 E1 Z I=>Zk rfl<|aL<|Zk rfl<|bK<|Zk rfl<|aF<|Za3<|Zn Nat (fun k=>r.counts.length-k) (fun k=>k≤r.counts.length∧(r.counts.take k).all (fun c=>decide (gP t c≤r.off))=true) (fun k=>[(6,qI (k:Int)),(5,qI (((r.counts.take k).filter fun c=>decide (0<gP t c)).length:Int))]) [(4,_),(2,_),(1,_)] (fun k=>[E1,D]) 0 ⟨Ya,Ya,bQK⟩ ?_;rintro k ⟨h1,h2⟩;refine bM<|Za rfl<|Zi rfl iB rfl<|Zd 1 rfl qM rfl I rfl<|dD rfl U50 rfl Yn rfl rfl bQK<|Zan rfl<|aF<|Zag rfl (fun hc1=>?_) fun hc1=>?_
 ·have hk:k<r.counts.length:=by omega
  obtain⟨x,hx⟩:=cB r.counts k;have hxm:=GT hx;have hlf:=bMO (fun c=>decide (0<gP t c)) (r.counts.take k);have hlt:(r.counts.take k).length≤k:=bOB _ _;refine aQ<|Za5<|Za3<|aA<|Za rfl<|Zi rfl iB rfl<|Zd 1 rfl qM rfl I rfl<|Za rfl<|Zw rfl U50 lD rfl hc rfl hx fun b1 o1 O R Y U=>?_;obtain rfl:O=[.bool _,qI _,qI _]:=R;refine Zv rfl OC rfl U lD<|Zf rfl (fun D1 V=>aSQ _ t x _ (ht.up RI.up (V _ Ye)) (hok.cnt x hxm).1 (by have:=(hok.cnt x hxm).2.1;omega) (hok.cnt x hxm).2.2.1 (hok.cnt x hxm).2.2.2 htr.2 Yd)<|Zk rfl<|bK<|Za rfl<|Zi rfl CY rfl<|Zd 3 rfl aH rfl I rfl<|Zas rfl<|aF<|Zag rfl (fun hc2=>?_) fun hc2=>?_
  ·refine aA<|Wbs ?_;exact aE rfl fun D hD=>by show Value.int _ _=_;rw[UP hxm hc2];rfl
  ·refine aQ<|aA<|Za rfl<|Zas rfl<|aF<|Zag rfl (fun hc3=>?_) (fun hc3=>?_)
   ·refine Wcc ?_;exact aI 27 (k+1) ⟨Yd,I6 hx h2 hc2⟩ Yd ⟨Ya,(by rw[XD hx hc3];rfl),bQK⟩ rfl rfl Mm5 (aK)
   ·refine Wbv ?_;exact aI 24 (k+1) ⟨Yd,I6 hx h2 hc2⟩ Yd ⟨Ya,(by rw[aIB hx hc3];rfl),bQK⟩ rfl rfl Mm5 (aK)
 ·obtain rfl:k=r.counts.length:=by omega
  rw[bLU]at h2;rw[bLU];refine Wn ?_;exact aE rfl fun D hD=>by show Value.int _ _=_;rw[JI h2];rfl
theorem aQI{r:dB}{t:List Int}:(eJ r t&&gZ (if eS r t=true then(rO r t:Int)else -1) 0 r.wrong)=(eJ r t&&fits r t):=by
 congr 1;unfold fits gZ;cases eS r t<;>simp
theorem MR(rv tv:Γ)(r:dB)(t:List Int)(D:aC)(hr:mE D rv r)(ht:Sl D RI 1 tv t)(hok:mP r):Fn prog 55 #[rv,tv] D (fun _ v=>v=.bool (eJ r t&&fits r t)):=by
 have O:=hr;obtain⟨pv,cv,rfl,hp,hc⟩:=hr;refine Zx 16 func55 rfl fun h0=>aA<|Zab rfl fun q1 E1 Y I=>Zk rfl<|bS<|iZ [] 3 [0,1,2,3,4,5,7,8,6,9,10,11] [false,true,false,false,false,true,true,true,true,false,false,false] [(false,0),(true,1),(false,2),(false,3),(false,4),(true,5),(true,7),(true,8),(true,6),(false,9),(false,10),(false,11)] bC (fun _ _ _ h=>eZ (P:=prog) (fn:=f55) _ _ _ h) Yg rfl<|Zv rfl x8 rfl I J5<|Za rfl<|Zf rfl (fun D1 R=>aAG _ _ r t _ (O.up (R _ Ye)) (ht.up RI.up (R _ Ye)))<|Za rfl ?_;refine' bW 7 (s:=8) (p:=15) rfl (fun U=>?_) (fun U=>?_) ?_;rotate_left
 ·refine dG rfl x8 rfl I Yc J5 n4 rfl ⟨_,rfl,rfl⟩<|Zb rfl<|Zj rfl GO rfl<|Ze 2 rfl aH rfl I rfl<|Zg rfl (fun D2 V=>aQO _ _ r t _ (O.up (V _ Ye)) (ht.up RI.up (V _ Ye)) hok (WV U))<|Zg rfl (fun D3 Z=>aEK _ _ _ _)<|Zak rfl ?_;exact aM 6
 ·refine Wbg ?_;exact aM 6
 refine We ?_;exact aE rfl fun D hD=>by show Value.bool _=_;rw[aQI]
def LA(D:aC)(vs:List Γ)(ts:List (List Int)):Prop:=vs.length=ts.length∧∀(i:Nat) (v:Γ) (t:List Int),vs[i]?= some v→ts[i]?= some t→Sl D RI 1 v t
theorem LA.nil{D:aC}:LA D [] []:=⟨rfl,fun i v t h _=>Xad⟩
theorem LA.len{D:aC}{vs:List Γ}{ts:List (List Int)}(h:LA D vs ts):vs.length=ts.length:=h.1
theorem LA.up{D D':aC}{vs:List Γ}{ts:List (List Int)}(h:LA D vs ts)(hl:Le D D'):LA D' vs ts:=⟨h.1,fun i v t hv ht=>(h.2 i v t hv ht).up RI.up hl⟩
theorem LA.snoc{D:aC}{vs:List Γ}{ts:List (List Int)}{v:Γ}{t:List Int}(h:LA D vs ts)(hv:Sl D RI 1 v t):LA D (vs++[v]) (ts++[t]):=by
 refine⟨by simp[h.1],fun i u s hu hs=>?_⟩;by_cases hi:i<vs.length
 ·rw[bNP hi]at hu;rw[bNP (by rw[←h.1];exact hi)]at hs
  exact h.2 i u s hu hs
 ·have h1:=(bLD.1 hu).1;simp only[GE,bNW]at h1;obtain rfl:i=vs.length:=by omega
  rw[bPC (bLQ _)]at hu;rw[bPC (by rw[h.1];exact bLQ _),h.1]at hs
  simp at hu hs;subst hu hs;exact hv
theorem _root_.Go.Fs.kN.lists{D D':aC}{v:Γ}{vs:List Γ}{ts:List (List Int)}(hF:kN D' v vs.length vs)(h:LA D vs ts)(hl:Le D D')(hb:ts.length≤9223372036854775807):Sl D' RL 1 v ts:=
 hF.sl h.1.symm (by rw[h.1];exact hb) fun i t hi=>by
  have hlt:=(bLD.1 hi).1;have hv:vs[i]?= some (vs[i]'(by rw[h.1];exact hlt)):=bLB _
  refine⟨_,⟨_,rfl,(h.2 i _ t hv hi).up RI.up hl⟩,rfl,?_⟩;rw[bNL,bMM (by rw[h.1];exact hlt)];rfl
theorem Sl.empty{D:aC}{a:Option Addr}:Sl D RI 1 (.slice a 0 0) ([]:List Int):=⟨a,0,rfl,bLQ _,Ye,bLL rfl⟩
theorem Sl.one{D:aC}{b:Nat}{v:Γ}{t:List Int}(hA:At D b 0 [v])(h:Sl D RI 1 v t):Sl D RL 1 (qS b 1 1) [t]:=
  Sl.of_at hA rfl (bLQ _) Yd fun i x hx=>by
    cases i with
    | zero => obtain rfl : t = x := by simpa using hx
              exact⟨[v],⟨v,rfl,h⟩,rfl,rfl⟩
    |succ i=>simp at hx
theorem RY(p:Int)(t:List Int)(m:Nat):(G4 p t m).length≤m:=by
 induction m with
 |zero=>simp[G4]
 |succ m ih=>
  by_cases h:p=2∨p=(m:Int)
  ·rw[UD h];simp;omega
  ·rw[aDR h];omega
theorem IG(p:Int)(out:List (List Int)):(kU p out).length≤2*out.length:=by
 induction out with
 |nil=>simp[kU]
 |cons t out ih=>
  unfold kU at ih ⊢
  rw[bMA,GE,bLF];have:=RY p t 2;omega
theorem aQE(p:Int)(out:List (List Int))(k:Nat)(t:List Int)(m:Nat):(kU p (out.take k)++G4 p t m).length≤2*out.length+m:=by
 have h1:=IG p (out.take k);have h2:=RY p t m;have h3:(out.take k).length≤out.length:=by rw[bMV];omega
 rw[GE];omega
theorem XB{l:List Int}{i:Nat}{p:Int}(h:l[i]?= some p):(l.take (i+1)).foldl (fun o p=>kU p o) [[]]=kU p ((l.take i).foldl (fun o p=>kU p o) [[]]):=by
 rw[bLA,h,bLT,bMT];rfl
theorem aID{r:dB}(hok:mP r)(i:Nat):((r.places.take i).foldl (fun o p=>kU p o) [[]]).length≤512:=by
 rw[T7];have h1:=sR (r.places.take i);have h2:(r.places.take i).length≤9:=by have:=hok.len9;rw[bMV];omega
 have h3:2^(r.places.take i).length≤2^9:=bMY Yd h2;omega
theorem ZM{r:dB}(hok:mP r){i:Nat}{t:List Int}(h:t∈(r.places.take i).foldl (fun o p=>kU p o) [[]]):t.length≤9:=by
 rw[T7]at h;have:=(qQ h).1;have:=hok.len9;rw[bMV]at *;omega
theorem XM(rv:Γ)(r:dB)(D:aC)(hr:mE D rv r)(hok:mP r):Fn prog 54 #[rv] D (fun D' v=>Sl D' RL 1 v (cG r.places)):=by
 obtain⟨pv,cv,rfl,hp,hc⟩:=hr;have hl:=hp.len;refine Zx 56 func54 rfl fun h0=>aA<|Zab rfl fun q1 E1 hE1 Y=>Zk rfl<|aL<|Zu rfl U25 aJ cK rfl .nil fun b901 D901 hH hI=>Zu rfl U80 fR vX rfl (.cons rfl rfl .nil) fun b902 R hJ Z=>Zk rfl<|bK<|Zk rfl<|aF<|Za3 ?_;refine dW (γ:=Nat×Γ×aC) (fun g=>r.places.length-g.1) (fun g=>g.1≤r.places.length∧Sl g.2.2 RL 1 g.2.1 ((r.places.take g.1).foldl (fun o p=>kU p o) [[]])) (fun g=>[(4,qI (g.1:Int)),(3,g.2.1)]) [(2,_),(1,_)] (fun g=>[g.2.2,E1,D]) (0,_,R) ⟨Ye,Sl.one (Z) (Sl.empty)⟩ ⟨Ya,Ya,bQK⟩ cR ((fun D0 h=>by simp only[bNA,n4,bND]at h;rcases h with h|h|h;exact⟨R,Ye,h▸Le.refl _⟩;exact⟨E1,Ye,h▸Le.refl _⟩;exact⟨D,Ye,h▸Le.refl _⟩)) ?_
 rintro⟨i,outv,Do⟩ ⟨h1,ho⟩;simp only at h1 ho;have hol:=aID hok i;have hol2:=ho.len;refine bM<|Za rfl<|Zi rfl jH rfl<|Zd 0 rfl bX rfl Y rfl<|Zai rfl U25 rfl hp rfl<|Zan rfl<|aF<|Zag rfl (fun hc1=>?_) fun hc1=>?_
 ·have hi:i<r.places.length:=by omega
  obtain⟨p,hx⟩:=cB r.places i;refine aQ<|Za5<|Za3<|aA<|Zk rfl<|bK<|Zk rfl<|aF<|Za3<|hU (γ:=Nat×Γ×List Γ×aD×aC) (fun g=>((r.places.take i).foldl (fun o p=>kU p o) [[]]).length-g.1) (fun g=>g.1≤((r.places.take i).foldl (fun o p=>kU p o) [[]]).length∧bD 25 1 g.2.1 g.2.2.1.length g.2.2.1 g.2.2.2.1∧LA g.2.2.2.2 g.2.2.1 (kU p (((r.places.take i).foldl (fun o p=>kU p o) [[]]).take g.1))) (fun g=>[(6,qI (g.1:Int)),(5,g.2.1)]) [(14,_),(13,_),(12,_),(11,_),(10,_),(4,_),(3,_),(2,_),(1,_)] (fun g=>g.2.2.2.1++[]) (fun g=>[g.2.2.2.2,Do,E1,D]) (0,qN,[],[],Do) ⟨Ye,Xac,by simpa [kU]using LA.nil⟩ ⟨Ya,Ya,bQK⟩ cR Mm5 ((fun D0 h=>by simp only[bNA,n4,bND]at h;rcases h with h|h|h|h;exact⟨Do,Ye,h▸Le.refl _⟩;exact⟨Do,Ye,h▸Le.refl _⟩;exact⟨E1,Ye,h▸Le.refl _⟩;exact⟨D,Ye,h▸Le.refl _⟩)) ?_
  rintro⟨k,v,vs,ν,Dn⟩ ⟨h2,ha,hla⟩;simp only at h2 ha hla;have hvl:=hla.len;refine bM<|Za rfl<|Za rfl<|Zai rfl U80 rfl ho rfl<|Zan rfl<|aF<|Zag rfl (fun hc2=>?_) fun hc2=>?_
  ·have hk:k<((r.places.take i).foldl (fun o p=>kU p o) [[]]).length:=by omega
   obtain⟨t,ht⟩:=cB ((r.places.take i).foldl (fun o p=>kU p o) [[]]) k;have htl:=ZM hok (GT ht);refine aQ<|Za5<|Za3<|aA<|Zk rfl<|aF<|Za3<|hU (γ:=Nat×Γ×List Γ×aD×aC) (fun g=>2-g.1) (fun g=>g.1≤2∧bD 25 1 g.2.1 g.2.2.1.length g.2.2.1 g.2.2.2.1∧LA g.2.2.2.2 g.2.2.1 (kU p (((r.places.take i).foldl (fun o p=>kU p o) [[]]).take k)++G4 p t g.1)) (fun g=>[(7,qI (g.1:Int)),(5,g.2.1)]) [(20,_),(19,_),(18,_),(17,_),(6,_),(14,_),(13,_),(12,_),(11,_),(10,_),(4,_),(3,_),(2,_),(1,_)] (fun g=>g.2.2.2.1++[]) (fun g=>[g.2.2.2.2,Do,E1,D]) (0,v,vs,ν,Dn) ⟨Ye,ha,by simpa [G4]using hla⟩ ⟨Ya,Ya,bQK⟩ cR Mm5 (Yw) ?_;rintro⟨m,v,vs,ν,Dn⟩ ⟨h3,ha,hla⟩;simp only at h3 ha hla;have hvl:=hla.len;have hsl:=aQE p ((r.places.take i).foldl (fun o p=>kU p o) [[]]) k t m;refine bM<|Za rfl<|iD rfl rfl rfl rfl bQK<|aF<|Zag rfl (fun hc3=>?_) fun hc3=>?_
   ·have hm:m<2:=by omega
    refine aQ<|Za5<|Za3<|aA<|Zi rfl jH rfl<|Zd 0 rfl bX rfl Y rfl<|Za rfl<|iN rfl hp rfl hx fun b1 o1=>Wbd ?_;refine' cT 8 (s:=33) (p:=41) rfl (fun hK=>?_) (fun hK=>?_) ?_;rotate_left
    ·refine Zj rfl jH rfl<|Ze 0 rfl bX rfl Y rfl<|Zb rfl<|dX rfl U25 aJ rfl hp rfl Yd hx rfl ⟨_,rfl,rfl⟩ fun b2 o2 hN hO hcl2 hP=>?_;obtain rfl:hN=[qI _]:=hO;refine Ze 0 rfl aH rfl hP rfl<|Zb rfl<|Wbm ?_;exact aM 7
    ·refine Wy ?_;exact aM 7
    refine aF<|Zaf rfl (fun hB=>?_) fun hB=>?_
    ·have hpm:p=2∨p=(m:Int):=by simpa using hB
     refine aP<|Za rfl<|Zu rfl U25 aJ cK rfl .nil fun b903 D903 hR hS=>Za rfl<|Za rfl<|Zw rfl U80 fR rfl ho rfl ht fun b3 o3 cs3 hX hcl3 hY=>?_;obtain⟨w3,rfl,rA⟩:=hX;refine Zd 0 rfl bX rfl hY rfl<|aU (([]:aD)++[]++(ν++[])) rfl<|aR (A:=[]) (ν:=[]) (B:=ν++[]) rfl U25 rfl rfl aJ cK rfl kE rfl rfl rfl bD.nil (iL.ints rA) Ye Ye rfl (dI _) Yd (bLL rfl) rfl bQK fun v8 ν8 rB=>Za rfl<|Zu rfl U25 aJ cK rfl (.cons rfl rfl .nil) fun b904 D904 hD904 I=>?_;have hS904:=Sl.ofInts (l:=[_]) (n:=1) (cap:=1) I rfl Yd Yd;refine aR (A:=[]) (B:=ν++[]) rfl U25 rfl rfl aJ cK rfl kE rfl rfl rfl rB (iL.lit I) Ye rfl Ye Yk Yd (bLL rfl) rfl bQK fun v9 ν9 hE=>?_;have ha9':bD 3 1 v9 (t.length+1) (ints (t++[(m:Int)])) ν9:=by rw[←eW,show ints [(m:Int)]=[qI (m:Int)]from rfl];simpa using hE
     refine SR (A:=[]) (B:=ν++[]) ha9' rfl fun D9 hD9 hF9=>?_;have hw9:=hF9.ints Ye Yd;refine Zu rfl U80 fR vX rfl (.cons hE.cells1 rfl .nil) (fun b905 U O hF=>aR (A:=[]) (B:=[]) rfl U80 rfl rfl fR vX rfl MW rfl rfl rfl ha (iL.lit hF) Ye rfl Ye (by simpa using hE.cell1) Yd (bLL rfl) rfl bQK fun v7 ν7 ha7=>?_);have V:=(hla.up (O Dn Ye)).snoc (hw9.up RI.up (O D9 Ye));rw[bLK,←UD hpm]at V;refine Wz ?_;exact aI 28 (m+1,v7,vs++[v9],ν7,U) ⟨Yl,by simpa using ha7,V⟩ Yl ⟨Ya,Ya,bQK⟩ rfl rfl Mm5 ((fun D0 h=>by simp only[bNA,n4,bND]at h;rcases h with h|h|h|h;exact⟨U,Ye,h▸Le.refl _⟩;exact⟨Do,Ye,h▸Le.refl _⟩;exact⟨E1,Ye,h▸Le.refl _⟩;exact⟨D,Ye,h▸Le.refl _⟩))
    ·have hpm:¬(p=2∨p=(m:Int)):=by simpa using hB
     refine Wbv ?_;exact aI 15 (m+1,v,vs,ν,Dn) ⟨Yl,ha,by simp only;rw[aDR hpm];exact hla⟩ Yl ⟨Ya,Ya,bQK⟩ rfl rfl Mm5 (Yw)
   ·obtain rfl:m=2:=by omega
    refine Wbq ?_;exact aI 12 (k+1,v,vs,ν,Dn) ⟨Yl,ha,by simp only;rw[ZX ht];exact hla⟩ Yl ⟨Ya,Ya,bQK⟩ rfl rfl Mm5 (Yw)
  ·obtain rfl:k=((r.places.take i).foldl (fun o p=>kU p o) [[]]).length:=by omega
   rw[bLU]at hla;refine Za8<|Za4<|Za4<|Za9<|Za1<|rF (A:=[]) (B:=[]) ha rfl fun D8 hD8 hF8=>?_;have hs8:=hF8.lists hla (hD8 Dn Ye) (by have:=IG p ((r.places.take i).foldl (fun o p=>kU p o) [[]]);omega)
   refine aP<|Za rfl<|Wz ?_;exact aI 18 (i+1,v,D8) ⟨Yl,by simp only;rw[XB hx];exact hs8⟩ Yl ⟨Ya,Ya,bQK⟩ rfl rfl Mm5 fun D0 h=>by simp only[bNA,n4,bND]at h;rcases h with h|h|h;exact⟨D8,Ye,h▸Le.refl _⟩;exact⟨E1,Ye,h▸Le.refl _⟩;exact⟨D,Ye,h▸Le.refl _⟩
 ·obtain rfl:i=r.places.length:=by omega
  rw[bLU,T7]at ho;refine Wn ?_;exact aE rfl fun D hD=>ho.up RL.up (hD _ Ye)
theorem aSR{r:dB}(hok:mP r):(cG r.places).length≤512:=by
 have h1:=sR r.places;have h3:2^r.places.length≤2^9:=bMY Yd hok.len9;omega
theorem DS{α:Type}{l:List α}{p:α→Bool}{k:Nat}{x:α}(hx:l[k]?= some x)(h:p x=true):(l.take (k+1)).filter p=(l.take k).filter p++[x]:=by
 rw[bLA,hx,bLT,bMJ,bNN,bLR h];rfl
theorem MH{α:Type}{l:List α}{p:α→Bool}{k:Nat}{x:α}(hx:l[k]?= some x)(h:p x=false):(l.take (k+1)).filter p=(l.take k).filter p:=by
 rw[bLA,hx,bLT,bMJ,bNN,bLI (by simp[h])];simp
theorem OR{r:dB}{t:List Int}(h:t∈cG r.places):eJ r t=true:=by
 have key:∀(l t:List Int),t∈cG l→(t.length==l.length)=true∧((t.zip l).all fun x=>qY x.1 x.2)=true:=by
  intro l;induction l with
  |nil=>intro t h;simp[cG]at h;subst h;simp
  |cons p ps ih=>
   intro t h;simp only[cG,bLM]at h;rcases h with h|h
   ·split at h
    ·rename_i hp;obtain⟨u,hu,rfl⟩:=bKX.1 h;obtain⟨h1,h2⟩:=ih u hu;refine⟨Xae,?_⟩;rw[bOS,bOZ,h2];rcases hp with rfl|rfl<;>rfl
    ·simp at h
   ·split at h
    ·rename_i hp;obtain⟨u,hu,rfl⟩:=bKX.1 h;obtain⟨h1,h2⟩:=ih u hu;refine⟨Xae,?_⟩;rw[bOS,bOZ,h2];rcases hp with rfl|rfl<;>rfl
    ·simp at h
 obtain⟨h1,h2⟩:=key r.places t h;unfold eJ;rw[h1,h2];rfl
theorem aJJ{r:dB}{t:List Int}(_hm:t∈cG r.places)(h:(eJ r t&&fits r t)=true):fits r t=true:=(Bool.and_eq_true_iff.1 h).2
theorem aKO{r:dB}{t:List Int}(hm:t∈cG r.places)(_hok:mP r)(h:(eJ r t&&fits r t)=false):fits r t=false:=by
 rw[OR hm]at h;simpa using h
theorem aKR(rv:Γ)(r:dB)(D:aC)(hr:mE D rv r)(hok:mP r):Fn prog 21 #[rv] D (fun D' v=>Sl D' RL 1 v (truths r)):=by
 have U:=hr;obtain⟨pv,cv,rfl,hp,hc⟩:=hr;have hal:=aSR hok;refine Zx 28 func21 rfl fun h0=>aA<|Zab rfl fun q1 E1 rA V=>Zk rfl<|aL<|Zk rfl<|aL<|Zv rfl x8 rfl V J5<|Zaa rfl (fun Z Y=>XM _ r _ (U.up (Y _ Ye)) hok) fun v1 Z Y hB=>?_;have hS:=hB;refine Zk rfl<|bK<|Zk rfl<|aF<|Za3<|Zc (Nat×Γ×List Γ×aD) (fun g=>(cG r.places).length-g.1) (fun g=>g.1≤(cG r.places).length∧bD 25 1 g.2.1 g.2.2.1.length g.2.2.1 g.2.2.2∧LA Z g.2.2.1 (((cG r.places).take g.1).filter (fits r))) (fun g=>[(5,qI (g.1:Int)),(3,g.2.1)]) [(4,_),(2,_),(1,_)] (fun g=>g.2.2.2++[]) (fun g=>[Z,E1,D]) (0,qN,[],[]) ⟨Ye,Xac,by simpa using LA.nil⟩ ⟨Ya,Ya,bQK⟩ Mm5 ?_;rintro⟨k,v,vs,ν⟩ ⟨h1,ha,hla⟩;simp only at h1 ha hla;have hvl:=hla.len;have hfl:=bMO (fits r) ((cG r.places).take k);have htk:((cG r.places).take k).length≤k:=bOB _ _;refine bM<|Za rfl<|Za rfl<|Zai rfl U80 rfl hS rfl<|Zan rfl<|aF<|Zag rfl (fun hc1=>?_) fun hc1=>?_
 ·have hk:k<(cG r.places).length:=by omega
  obtain⟨t,ht⟩:=cB (cG r.places) k;have htm:=GT ht;have htr:pA r t:=qQ htm;refine aQ<|Za5<|Za3<|Za5<|bE [] 3 6 30<|Zv rfl x8 rfl V J5<|Za rfl<|Za rfl<|Zw rfl U80 fR rfl hS rfl ht fun b1 o1 rB hE hP hH=>?_;obtain⟨w1,rfl,hI⟩:=hE;refine Zd 0 rfl bX rfl hH rfl<|Zf rfl (fun D2 I=>MR _ _ r t _ (U.up (I _ Ye)) (hI.up RI.up (I _ Ye)) hok)<|aF<|Zaf rfl (fun hc2=>?_) fun hc2=>?_
  ·have hfy:=(aJJ htm hc2)
   refine aP<|Za rfl<|Za rfl<|Za rfl<|Zw rfl U80 fR rfl hS rfl ht fun b2 o2 cs2 hJ hR hK=>?_;obtain⟨w2,rfl,O⟩:=hJ;refine Zd 0 rfl bX rfl hK rfl<|Zu rfl U80 fR vX rfl (.cons O.cells1 rfl .nil) (fun hX hY hN R=>aR (A:=[]) (B:=_) rfl U80 rfl rfl fR vX rfl MW rfl rfl rfl ha (iL.lit R) Ye rfl Ye (by simpa using O.cell1) Yd (bLL rfl) rfl bQK fun v1 ν1 hO=>Wz ?_);exact aI 23 (k+1,v1,vs++[w2],ν1) ⟨Yl,by simpa using hO,by simp only;rw[DS ht hfy];exact hla.snoc O⟩ Yl ⟨Ya,Ya,bQK⟩ rfl rfl Mm5 fun D h=>⟨D,bLP _ (h),Le.refl D⟩
  ·have hfn:=aKO htm hok hc2;refine Wbv ?_;exact aI 15 (k+1,v,vs,ν) ⟨Yl,ha,by simp only;rw[MH ht hfn];exact hla⟩ Yl ⟨Ya,Ya,bQK⟩ rfl rfl Mm5 (aK)
 ·obtain rfl:k=(cG r.places).length:=by omega
  rw[bLU]at hla;refine Za8<|Za4<|Za4<|Za9<|Za1<|aA<|Za rfl<|Zk rfl<|aG<|Zar [] [] ha rfl fun D2 I hF=>?_;exact aE rfl fun D' hD=>(hF.lists hla (I _ Ye) (by have:=bMO (fits r) (cG r.places);omega)).up RL.up (hD _ Ye)
end L1
namespace L2
open L1
open C2
open C1 (gZ bT tN rK)
structure T3(t:aW):Prop where
 len:t.heights.length=4
 hts:∀r∈t.heights,0≤r.1∧r.1≤r.2∧r.2≤99∧r.2≤r.1+2
 step:0≤t.step∧t.step≤99
 mks:t.marks.length≤5
 mark:∀m∈t.marks,0≤m.frm∧m.frm≤m.to∧m.to≤3
theorem bFH{q:Nat}{o:Obj}{ν B:aD}(h:(List.map (fun p=>p.1) ((q,o)::(ν++B))).Nodup):∀p∈ν,p.1∉[q]:=by
 intro p hp hm;obtain rfl:p.1=q:=by simpa using hm
 exact(bMX.1 h).1 (bKX.2 ⟨p,bLH _ hp,rfl⟩)
def G1(r:Int×Int):Nat:=(r.2-r.1+1).toNat
theorem QC{r:Int×Int}(h:0≤r.1∧r.1≤r.2∧r.2≤99∧r.2≤r.1+2):((G1 r:Nat):Int)=r.2-r.1+1:=by unfold G1;omega
def pP:List (Int×Int)→Nat
 | []=>1
 |r::rs=>G1 r*pP rs
def rP:List (Int×Int)→Nat→List Int
 | [],_=>[]
 |r::rs,n=>(r.1+((n%G1 r:Nat):Int))::rP rs (n / G1 r)
def nL(step:Int):Option Int→List Int→Bool
 |_,[]=>true
 |p,n::l=>lV step p n&&nL step (some n) l
def aJI:List (Int×Int)→List Int→Prop
 | [],[]=>True
 |r::rs,x::l=>(r.1≤x∧x≤r.2)∧aJI rs l
 |_,_=>False
theorem YA{rs:List (Int×Int)}{k:Nat}{r:Int×Int}(h:rs[k]?= some r):pP (rs.drop k)=G1 r*pP (rs.drop (k+1)):=by
 obtain⟨hk,rfl⟩:=bLD.1 h;rw[bMM hk];rfl
theorem aHE{rs:List (Int×Int)}{k n:Nat}{r:Int×Int}(h:rs[k]?= some r):rP (rs.drop k) n=[r.1+((n%G1 r:Nat):Int)]++rP (rs.drop (k+1)) (n / G1 r):=by
 obtain⟨hk,rfl⟩:=bLD.1 h;rw[bMM hk];rfl
theorem aWS{k:Nat}(h:k≤4):3^k≤81:=bMY (n:=3) Yt h
theorem aJC{m k s:Nat}(h:m≤3^k)(hs:s≤3):m*s≤3^(k+1):=by rw[Nat.pow_succ];exact bPS h hs
theorem aMS{step:Int}{l:List Int}(h:1≤l.length):nL step none l=nL step (l[1-1]?) (l.drop 1):=by
 match l,h with
 |x::l,_=>rfl
theorem LB{step z x:Int}{l:List Int}{k:Nat}(hz:l[((k:Int)-1).toNat]?= some z)(hx:l[(k:Int).toNat]?= some x)(h1:1≤k):nL step (l[k-1]?) (l.drop k)=(lV step (some z) x&&nL step (l[k]?) (l.drop (k+1))):=by
 rw[show((k:Int)-1).toNat=k-1 by omega]at hz;rw[bMR]at hx;obtain⟨hk,rfl⟩:=bLD.1 hx;rw[hz,hx,bMM hk];rfl
theorem Z4:∀{rs:List (Int×Int)} {l:List Int},aJI rs l→l.length=rs.length
 | [],[],_=>rfl
 |_::_,_::_,h=>by rw[bLF,bLF,Z4 h.2]
theorem YV:∀{rs:List (Int×Int)} {l:List Int} {k:Nat} {x:Int} {r:Int×Int},aJI rs l→l[k]?= some x→rs[k]?= some r→r.1≤x∧x≤r.2
 | [],[],_,_,_,_,h,_=>by simp at h
 |_::_,_::_,0,_,_,h,h1,h2=>by
  simp only[List.getElem?_cons_zero,bPL]at h1 h2;subst h1;subst h2;exact h.1
 |_::_,_::_,k+1,_,_,h,h1,h2=>YV (k:=k) h.2 Xae Xao
theorem AA{t:aW}(h4:T3 t){l:List Int}(h:aJI t.heights l):∀x∈l,0≤x∧x≤99:=fun x hx=>by
 obtain⟨k,hk,rfl⟩:=List.getElem_of_mem hx;have hl:=Z4 h;have h1:=YV h (bLB hk) (bLB Yd);have h2:=h4.hts _ (List.getElem_mem (show k<t.heights.length by omega));omega
theorem aFO:∀{rs:List (Int×Int)},(∀r∈rs,G1 r≤3)→pP rs≤3^rs.length
 | [],_=>bLQ _
 |r::rs,h=>by
  rw[pP,bLF,Nat.pow_succ,Nat.mul_comm];exact bPS (aFO fun q hq=>h q (bKY _ hq)) (h r bKZ)
theorem UA{t:aW}(h4:T3 t):pP t.heights≤81:=by
 have:=aFO (rs:=t.heights) fun r hr=>by have h1:=h4.hts r hr;have:=QC h1;omega
 rw[h4.len]at this;exact this
theorem aSB:∀{rs:List (Int×Int)} {n:Nat},(∀r∈rs,r.1≤r.2)→aJI rs (rP rs n)
 | [],_,_=>trivial
 |r::rs,n,h=>by
  have h1:=h r bKZ;have:n%G1 r<G1 r:=Nat.mod_lt _ (by unfold G1;omega)
  exact⟨by unfold G1 at this ⊢;omega,aSB fun q hq=>h q (bKY _ hq)⟩
theorem aEH{t:aW}(h4:T3 t){n:Nat}(_:n<pP t.heights):aJI t.heights (rP t.heights n):=aSB fun r hr=>(h4.hts r hr).2.1
def A4(t:aW)(k:Nat):List (List Int):=((List.range k).map (rP t.heights)).filter (nL t.step none)
def oB(t:aW):List (List Int):=A4 t (pP t.heights)
def OL(t:aW):List (List Int):=(oB t).filter (iH t)
theorem FE(t:aW)(k:Nat):(A4 t k).length≤k:=by
 have:=bMO (nL t.step none) ((List.range k).map (rP t.heights));rw[bMK,bPD]at this;exact this
theorem aAY{t:aW}{k:Nat}(h:nL t.step none (rP t.heights k)=true):A4 t (k+1)=A4 t k++[rP t.heights k]:=by
 unfold A4;rw[bMN,bLO,bMJ];simp[h]
theorem aHI{t:aW}{k:Nat}(h:nL t.step none (rP t.heights k)=false):A4 t (k+1)=A4 t k:=by
 unfold A4;rw[bMN,bLO,bMJ];simp[h]
theorem JJ{t:aW}(h4:T3 t){l:List Int}(h:l∈oB t):aJI t.heights l∧nL t.step none l=true:=by
 obtain⟨h1,h2⟩:=bON.1 h;obtain⟨n,hn,rfl⟩:=bKX.1 h1;exact⟨aEH h4 (bMZ.1 hn),h2⟩
theorem DS{α:Type}{l:List α}{p:α→Bool}{k:Nat}{x:α}(hx:l[k]?= some x)(h:p x=true):(l.take (k+1)).filter p=(l.take k).filter p++[x]:=by
 rw[bLA,hx,bLT,bMJ,bNN,bLR h];rfl
theorem MH{α:Type}{l:List α}{p:α→Bool}{k:Nat}{x:α}(hx:l[k]?= some x)(h:p x=false):(l.take (k+1)).filter p=(l.take k).filter p:=by
 rw[bLA,hx,bLT,bMJ,bNN,bLI Xaf];simp
theorem aLH{α:Type}{l:List α}{p:α→Bool}{x:α}(hx:x∈l)(h:p x=false):l.all p=false:=by
 rw[bQC];exact⟨x,hx,by simp[h]⟩
theorem aHQ{step z x:Int}{l:List Int}{k:Nat}(hz:l[((k:Int)-1).toNat]?= some z)(hx:l[(k:Int).toNat]?= some x)(h:x-z≤step∧z-x≤step)(h1:1≤k:=by omega):nL step (l[k-1]?) (l.drop k)=nL step (l[k]?) (l.drop (k+1)):=by
 rw[LB hz hx h1];have e:lV step (some z) x=true:=bT.2 Yd;rw[e,bPE]
theorem aOL{step z x:Int}{l:List Int}{k:Nat}(hz:l[((k:Int)-1).toNat]?= some z)(hx:l[(k:Int).toNat]?= some x)(h:step<x-z∨step<z-x)(h1:1≤k:=by omega):nL step (l[k-1]?) (l.drop k)=false:=by
 rw[LB hz hx h1];have e:lV step (some z) x=false:=by
  rw[←Bool.not_eq_true];intro e
  have:=bT.1 e;omega
 rw[e,Bool.false_and]
theorem aMX{l:List Int}{a k:Nat}{x x0:Int}(hx:l[((a:Int)+k).toNat]?= some x):((l.drop a).take (k+1)).foldl max x0=max (((l.drop a).take k).foldl max x0) x:=by
 rw[show((a:Int)+k).toNat=a+k by omega]at hx;rw[bLA,bNS,hx,bLT,bMT];rfl
theorem aXL{l:List Int}{a:Nat}{b x0:Int}(hx:l[(a:Int).toNat]?= some x0)(h:(a:Int)≤b):((l.drop a).take (b+1-a).toNat).foldl max x0=kD l a b:=by
 rw[bMR]at hx;obtain⟨hk,rfl⟩:=bLD.1 hx;unfold kD;rw[bMR,bMM hk,show(b+1-(a:Int)).toNat=(b-a).toNat+1 by omega,List.take_succ_cons,bME,Int.max_self];rfl
theorem aQK(n lo hi:Int)(D:aC):Fn prog 323 #[qI n,qI lo,qI hi] D (fun _ v=>v=.bool (gZ n lo hi)):=by
 refine Zx 15 func323 rfl fun h0=>Wbo ?_;refine' bW 4 (s:=10) (p:=14) rfl (fun I=>?_) (fun I=>?_) ?_;rotate_left
 ·refine Wbj ?_;exact aM 3
 ·refine Wb ?_;exact aM 3
 refine We ?_;exact aE rfl fun D hD=>rfl
theorem DP(r:Int×Int)(h:0≤r.1∧r.1≤r.2∧r.2≤99∧r.2≤r.1+2)(D:aC):Fn prog 322 #[mH r] D (fun _ v=>v=qI ((G1 r:Nat):Int)):=by
 refine Zx 9 func322 rfl fun h0=>aA<|Zab rfl fun R E1 O I=>Zk rfl<|aL<|Zi rfl N5 rfl<|Zd 1 rfl aH rfl I rfl<|Zi rfl zC rfl<|Zd 0 rfl aH rfl I rfl<|Zaz rfl<|Zah rfl<|Zk rfl ?_;refine aG ?_;exact aE rfl fun D hD=>by rw[QC h];rfl
theorem K8(tv:Γ)(t:aW)(D:aC)(ht:fA D tv t)(h4:T3 t):Fn prog 229 #[tv] D (fun _ v=>v=qI ((pP t.heights:Nat):Int)):=by
 have ht0:=ht;obtain⟨hv,lv,mv,rfl,hh,hl,hm⟩:=ht;have hlen:=h4.len;refine Zx 22 func229 rfl fun h0=>aA<|Zab rfl fun q1 E1 hE I=>Zk rfl<|aL<|Zk rfl<|bK<|Zk rfl<|aF<|Za3<|dW (γ:=Nat×Nat) (fun g=>t.heights.length-g.1) (fun g=>g.1≤t.heights.length∧g.2≤3^g.1∧g.2*pP (t.heights.drop g.1)=pP t.heights) (fun g=>[(4,qI (g.1:Int)),(3,qI (g.2:Int))]) [(2,_),(1,_)] (fun g=>[E1,D]) (0,1) ⟨Ye,Ye,Ye⟩ ⟨Ya,Ya,bQK⟩ cR (aK) ?_;rintro⟨k,m⟩ ⟨h1,h2,h3⟩;simp only at h1 h2 h3;refine bM<|Za rfl<|Zi rfl jV rfl<|Zd 1 rfl qK rfl I rfl<|Zai rfl U53 rfl hh rfl<|Zan rfl<|aF<|Zag rfl (fun hc1=>?_) fun hc1=>?_
 ·simp only at hc1;have hk:k<t.heights.length:=by omega
  obtain⟨r,hr⟩:=cB t.heights k;have O:=h4.hts r (GT hr);have hs9:=QC O;have R:=aJC h2 (show G1 r≤3 by omega);have U:=aWS (show k+1≤4 by omega);have hmm:(m:Int)*((G1 r:Nat):Int)=((m*G1 r:Nat):Int):=by rw[Int.natCast_mul]
  have hmx:m*G1 r≤81:=bNK R U;refine aQ<|Za5<|Za3<|aP<|Za rfl<|Zi rfl jV rfl<|Zd 1 rfl qK rfl I rfl<|Za rfl<|Zw rfl U53 iW rfl hh rfl hr fun b1 o1 V Y hB Z=>?_;obtain rfl:V=[qI _,qI _]:=Y;refine Zv rfl wP rfl Z iW<|Zf rfl (fun D1 hF=>DP r O _)<|AO rfl rfl rfl Yf rfl bQK<|OX rfl rfl rfl rfl bQK<|Zk rfl<|Zap<|Za6<|Za1<|aP<|Za rfl<|Zah rfl<|Zk rfl ?_;refine Zap ?_;exact aI 20 (k+1,m*G1 r) ⟨Yl,R,by simp only;rw[←h3,YA hr,Nat.mul_assoc]⟩ Yl ⟨Ya,Xdb,bQK⟩ rfl rfl Mm5 (aK)
 ·obtain rfl:k=t.heights.length:=by simp only at hc1;omega
  refine Wn ?_;exact aE rfl fun D hD=>by rw[←h3,bQI];show Value.int _ _=_;rw[pP,bNL]
theorem bBK(tv:Γ)(t:aW)(n:Nat)(D:aC)(ht:fA D tv t)(h4:T3 t)(hn:n≤100000):Fn prog 230 #[tv,qI (n:Int)] D (fun D' v=>Sl D' RI 1 v (rP t.heights n)):=by
 have ht0:=ht;obtain⟨hv,lv,mv,rfl,hh,hl,hm⟩:=ht;have hlen:=h4.len;refine Zx 35 func230 rfl fun h0=>aA<|Zab rfl fun q1 E1 hP R=>Zk rfl<|aL<|Zk rfl<|bK<|Zk rfl<|aF<|Za3<|Zc (Nat×List Int×Nat×Γ×aD) (fun g=>t.heights.length-g.1) (fun g=>g.1≤t.heights.length∧g.2.1.length=g.1∧g.2.2.1≤100000∧rP t.heights n=g.2.1++rP (t.heights.drop g.1) g.2.2.1∧bD 3 1 g.2.2.2.1 g.1 (ints g.2.1) g.2.2.2.2) (fun g=>[(6,qI (g.1:Int)),(5,g.2.2.2.1),(1,qI (g.2.2.1:Int))]) [(4,_),(2,_)] (fun g=>g.2.2.2.2++[]) (fun g=>[E1,D]) (0,[],n,qN,[]) ⟨Ye,rfl,hn,rfl,Xaj⟩ ⟨Ya,Ya,Ya,bQK⟩ Mm5 ?_;rintro⟨k,out,p,v,ν⟩ ⟨h0x,h1,h2,h3,ha⟩;simp only at h0x h1 h2 h3 ha;refine bM<|Za rfl<|Zi rfl jV rfl<|Zd 1 rfl qK rfl R rfl<|Zai rfl U53 rfl hh rfl<|Zan rfl<|aF<|Zag rfl (fun hc1=>?_) fun hc1=>?_
 ·simp only at hc1;have hk:k<t.heights.length:=by omega
  obtain⟨r,hr⟩:=cB t.heights k;have O:=h4.hts r (GT hr);have hs9:=QC O;have hmd:(p:Int)%((G1 r:Nat):Int)=((p%G1 r:Nat):Int):=rfl;obtain⟨d,hd⟩:∃d,p / G1 r=d:=⟨_,rfl⟩
  have hdv:(p:Int) / ((G1 r:Nat):Int)=(d:Int):=by rw[←hd];rfl
  have hml:p%G1 r<G1 r:=Nat.mod_lt _ Yd;have hdl:d≤p:=by rw[←hd];exact Nat.div_le_self _ _
  refine aQ<|Za5<|Za3<|aA<|Zi rfl jV rfl<|Zd 1 rfl qK rfl R rfl<|Za rfl<|Zw rfl U53 iW rfl hh rfl hr fun b1 o1 U V hK Y=>?_;obtain rfl:U=[qI _,qI _]:=V;refine Zv rfl wP rfl Y iW<|Zad rfl tX rfl fun Z=>cQ rfl rfl rfl rfl iW Yb Yb ζ Yk bQK<|aF<|pY fun hnd=>?_;have hnu:=bFH hnd;have hqo:Z∉dN.mk [Z]:=dN.out Ye;refine iZ (dN.mk [Z]) 6 [0,1,2,3,4,10,11,5,6,7,8,9,12,13,14,15] [false,true,true,true,true,true,true,true,true,true,true,true,true,false,true,false] [(false,0),(true,1),(true,2),(true,3),(true,4),(true,10),(true,11),(true,5),(true,6),(true,7),(true,8),(true,9),(true,12),(false,13),(true,14),(false,15)] bC (fun _ _ _ h=>eZ (P:=prog) (fn:=f230) _ _ _ h) Yg rfl<|Za rfl<|Zi rfl zC rfl<|bG rfl aH rfl Mm0 rfl Ym rfl bQK<|Za rfl<|bL rfl wP rfl Mm0 iW Ym rfl bQK<|Za rfl<|bL rfl wP rfl Mm0 iW Ym rfl bQK<|Zf rfl (fun D1 hR=>DP r O _)<|C4 rfl rfl rfl Yd Yd (by rw[hmd];simp only[wD];omega) rfl bQK ?_
  rw[hmd];refine Zah rfl<|Zu rfl U25 aJ cK rfl (.cons rfl rfl .nil) fun hN hO hB I=>?_;have hE:=Sl.ofInts (l:=[_]) (n:=1) (cap:=1) I rfl Yd Yd;refine aR (A:=[(_,_)]) (B:=[]) rfl U25 rfl rfl aJ cK rfl kE rfl rfl rfl ha (iL.lit I) Ye rfl (by simp[ints,h1]) Yk Yd (bLG fun p hp=>dN.in_ (hnu p hp)) rfl bQK fun v1 ν1 hH=>?_;have hI:bD 3 1 v1 (out.length+1) (ints (out++[r.1+((p%G1 r:Nat):Int)])) ν1:=by rw[←eW,h1];exact hH
  refine Zf rfl (fun D2 hJ=>DP r O _)<|UF rfl rfl rfl Yd Yd (by rw[hdv];simp only[wD];omega) rfl bQK ?_;rw[hdv];refine Zk rfl<|Wz ?_;exact aI 33 (k+1,out++[r.1+((p%G1 r:Nat):Int)],d,v1,ν1) ⟨Yl,by simp[h1],Yl,by simp only;rw[h3,aHE hr,bLK,hd],by simpa [h1]using hI⟩ Yl ⟨Ya,Ya,Ya,bQK⟩ rfl rfl (List.Sublist.cons _ Mm5) fun D h=>⟨D,bLP _ (h),Le.refl D⟩
 ·obtain rfl:k=t.heights.length:=by simp only at hc1;omega
  rw[bQI]at h3;refine Za8<|Za4<|Za4<|Za9<|Za1<|aA<|Za rfl<|Zk rfl<|aG<|Zar [] [] ha rfl fun D2 hJ hF=>?_;exact aE rfl fun D' hD=>by rw[h3,rP,n5];exact(hF.ints h1 Yd).up RI.up (hD _ Ye)
theorem RV(tv O:Γ)(t:aW)(l:List Int)(D:aC)(ht:fA D tv t)(I:Sl D RI 1 O l)(h4:T3 t)(h1:1≤l.length)(hb:∀x∈l,0≤x∧x≤99):Fn prog 231 #[tv,O] D (fun _ v=>v=.bool (nL t.step none l)):=by
 have ht0:=ht;obtain⟨hv,lv,mv,rfl,hh,hl,hm⟩:=ht;have hlen:=h4.len;have hs9:=h4.step;have hll:=I.len;refine Zx 40 func231 rfl fun h0=>aA<|Zab rfl fun q1 E1 hK R=>Zk rfl<|bK<|Zk rfl<|aF<|Za3<|dW (γ:=Nat) (fun k=>l.length-k) (fun k=>1≤k∧k≤l.length∧nL t.step none l=nL t.step (l[k-1]?) (l.drop k)) (fun k=>[(5,qI (k:Int))]) [(4,_),(2,_),(1,_)] (fun k=>[E1,D]) 1 ⟨Yd,h1,aMS h1⟩ ⟨Ya,bQK⟩ cR (aK) ?_;rintro k ⟨h2,h3,h5⟩;refine bM<|Za rfl<|Za rfl<|Zai rfl U25 rfl I rfl<|Zan rfl<|aF<|Zag rfl (fun hc1=>?_) fun hc1=>?_
 ·have hk:k<l.length:=by omega
  obtain⟨x,hx⟩:=cB l k;obtain⟨z,U⟩:=cB l (k-1);have hz:l[((k:Int)-1).toNat]?= some z:=by rw[show((k:Int)-1).toNat=k-1 by omega];exact U
  have hN:=hb x (GT hx);have hO:=hb z (GT hz);refine aQ<|Za5<|Za3<|Za5<|bE [] 7 28 58297842<|Za rfl<|Za rfl<|iN rfl I rfl hx fun b1 o1=>Za rfl<|Za rfl<|Zaz rfl<|iN rfl I rfl hz fun b2 o2=>?_;refine Zaz rfl<|Zi rfl m2 rfl<|Zd 2 rfl aH rfl R rfl<|Wav ?_;refine' cT 14 (s:=25) (p:=39) rfl (fun V=>?_) (fun V=>?_) ?_;rotate_left
  ·refine Zb rfl<|Zb rfl<|zF rfl rfl rfl Yf rfl ⟨_,rfl,rfl⟩<|dX rfl U25 aJ rfl I rfl Yd hz rfl ⟨_,rfl,rfl⟩ fun b3 o3 Y Z hI hB=>?_;obtain rfl:Y=[qI _]:=Z;refine Ze 0 rfl aH rfl hB rfl<|Zb rfl<|Zb rfl<|dX rfl U25 aJ rfl I rfl Yd hx rfl ⟨_,rfl,rfl⟩ fun b4 o4 hE hF hJ hH=>?_;obtain rfl:hE=[qI _]:=hF;refine Ze 0 rfl aH rfl hH rfl<|zF rfl rfl rfl Yf rfl ⟨_,rfl,rfl⟩<|Zj rfl m2 rfl<|Ze 2 rfl aH rfl R rfl<|Wae ?_;exact aM 13
  ·refine Waq ?_;refine Zh rfl<|Zak rfl ?_;exact aM 13
  refine aF<|Zaf rfl (fun hc2=>?_) fun hc2=>?_
  ·refine aA<|Wg ?_;exact aE rfl fun D hD=>by show Value.bool _=_;rw[h5,aOL hz hx Yav]
  ·refine Wbv ?_;exact aI 23 (k+1) ⟨Yd,Yd,by rw[h5,aHQ hz hx Yav];rfl⟩ Yd ⟨Ya,bQK⟩ rfl rfl Mm5 (aK)
 ·obtain rfl:k=l.length:=by omega
  refine Wj ?_;exact aE rfl fun D hD=>by show Value.bool _=_;rw[h5,bQI];rfl
theorem bAE(I:Γ)(l:List Int)(a b:Int)(D:aC)(O:Sl D RI 1 I l)(h4:l.length=4)(hab:0≤a∧a≤b∧b≤3):Fn prog 235 #[I,qI a,qI b] D (fun _ v=>v=qI (kD l a b)):=by
 obtain⟨a0,rfl⟩:=Int.eq_ofNat_of_zero_le hab.1;obtain⟨x0,hx0⟩:∃x,l[a0]?= some x:=⟨_,bLB Yd⟩
 refine Zx 26 func235 rfl fun h0=>aA<|Zk rfl<|aL<|Za rfl<|Za rfl<|iN rfl O rfl hx0 fun R o1=>Zk rfl<|bK<|Za rfl<|Zk rfl<|aF ?_;refine Za3<|dW (γ:=Nat) (fun k=>(b+1-a0).toNat-k) (fun k=>(a0:Int)+k≤b+1) (fun k=>[(8,qI ((a0:Int)+k)),(7,qI (((l.drop a0).take k).foldl max x0))]) [(6,_),(0,_),(2,_)] (fun k=>[D]) 0 Yd ⟨Ya,Ya,bQK⟩ cR (aK) ?_;rintro k h1;refine bM<|Za rfl<|Za rfl<|iD rfl rfl rfl rfl bQK<|aF<|Zag rfl (fun hc1=>?_) fun hc1=>?_
 ·obtain⟨x,hx⟩:=cB l ((a0:Int)+k).toNat;refine aQ<|Za5<|Za3<|aP<|Za rfl<|Za rfl<|Za rfl<|iN rfl O rfl hx fun b2 o2=>qF rfl rfl rfl rfl bQK<|Zk rfl<|Zap<|Za6 ?_;refine Za1<|aP<|Za rfl<|Wbx ?_;exact aI 15 (k+1) Yd Yd ⟨Ya,(by rw[aMX (a:=a0) (k:=k) hx];rfl),bQK⟩ rfl rfl Mm5 (aK)
 ·obtain rfl:k=(b+1-a0).toNat:=by omega
  refine Wn ?_;exact aE rfl fun D hD=>by show Value.int _ _=_;rw[aXL hx0 Yd]
theorem aIX(O:Γ)(l:List Int)(m:Mk)(D:aC)(R:Sl D RI 1 O l)(h4:l.length=4)(hm:0≤m.frm∧m.frm≤m.to∧m.to≤3):Fn prog 233 #[O,bHT m] D (fun _ v=>v=.bool (gZ (kD l m.frm m.to) m.lo m.hi)):=by
 refine Zx 18 func233 rfl fun h0=>aA<|Zab rfl fun Z E1 V I=>Zk rfl<|bS<|iZ [] 3 [0,1,2,3,4,6,7,8,9,10,11,5,12,13] [false,true,true,true,true,true,true,true,true,true,true,true,false,false] [(false,0),(true,1),(true,2),(true,3),(true,4),(true,6),(true,7),(true,8),(true,9),(true,10),(true,11),(true,5),(false,12),(false,13)] bC (fun _ _ _ h=>eZ (P:=prog) (fn:=f233) _ _ _ h) Yg rfl<|Za rfl<|Zi rfl t6 rfl<|Zd 0 rfl aH rfl I rfl<|Zi rfl n8 rfl<|Zd 1 rfl aH rfl I rfl<|Zi rfl N2 rfl ?_;refine Zi rfl zC rfl<|Zd 2 rfl aH rfl I rfl<|Zi rfl N2 rfl<|Zi rfl N5 rfl<|Zd 3 rfl aH rfl I rfl<|Zf rfl (fun D1 U=>bAE _ l _ _ _ (R.up RI.up (U _ Ye)) h4 hm)<|Zf rfl (fun D2 Y=>aQK _ _ _ _)<|We ?_;exact aE rfl fun D hD=>rfl
theorem OW(tv R:Γ)(t:aW)(l:List Int)(D:aC)(ht:fA D tv t)(O:Sl D RI 1 R l)(h4:T3 t)(hin:aJI t.heights l)(hnr:nL t.step none l=true):Fn prog 232 #[tv,R] D (fun _ v=>v=.bool true):=by
 have ht0:=ht;obtain⟨hv,lv,mv,rfl,hh,hl,hm⟩:=ht;have hlen:=h4.len;have hll:=Z4 hin;have hlb:=AA h4 hin;refine Zx 48 func232 rfl fun h0=>aA<|Zab rfl fun q1 E1 hN I=>Zk rfl<|bK<|Zk rfl<|aF<|Za3<|dW (γ:=Nat) (fun k=>l.length-k) (fun k=>k≤l.length) (fun k=>[(5,qI (k:Int))]) [(4,_),(2,_),(1,_)] (fun k=>[E1,D]) 0 Yd ⟨Ya,bQK⟩ cR (aK) ?_;rintro k h1;refine bM<|Za rfl<|Za rfl<|Zai rfl U25 rfl O rfl<|Wcm ?_;refine' bW 6 (s:=10) (p:=16) rfl (fun V=>?_) (fun V=>?_) ?_;rotate_left
 ·refine Zb rfl<|Zj rfl jV rfl<|Ze 1 rfl qK rfl I rfl<|dD rfl U53 rfl hh rfl rfl ⟨_,rfl,rfl⟩<|IQ rfl rfl rfl rfl ⟨_,rfl,rfl⟩<|Zak rfl ?_;exact aM 5
 ·refine Wp ?_;exact aM 5
 refine aF<|Zaf rfl (fun hc1=>?_) fun hc1=>?_
 ·have hk:k<l.length:=by have h9:=hc1;simp only[bKW,LT]at h9;omega
  obtain⟨x,hx⟩:=cB l k;obtain⟨r,hr⟩:=cB t.heights k;have hxr:=YV hin hx hr;refine aQ<|Za5<|Za3<|Za5<|bE [] 6 18 65522<|Za rfl<|Za rfl<|iN rfl O rfl hx fun b1 o1=>Zi rfl jV rfl<|Zd 1 rfl qK rfl I rfl<|Za rfl<|Zw rfl U53 iW rfl hh rfl hr fun b2 o2 Y Z hJ hB=>?_;obtain rfl:Y=[qI _,qI _]:=Z;refine Zi rfl zC rfl<|Zd 0 rfl aH rfl hB rfl<|Zi rfl jV rfl<|Zd 1 rfl qK rfl I rfl<|Za rfl<|Zw rfl U53 iW rfl hh rfl hr fun b3 o3 hE hF hK hH=>?_;obtain rfl:hE=[qI _,qI _]:=hF;refine Zi rfl N5 rfl<|Zd 1 rfl aH rfl hH rfl<|Zf rfl (fun D1 hO=>aQK _ _ _ _)<|Zau rfl<|aF<|Zaf rfl (fun hc2=>?_) fun hc2=>?_
  ·exact absurd hc2 (by rw[(C1.bT (n:=x)).2 hxr];simp)
  ·refine Wbv ?_;exact aI 28 (k+1) Yd Yd ⟨Ya,bQK⟩ rfl rfl Mm5 (aK)
 ·refine Za8<|Za4<|Za4<|Za9<|Za1<|aA<|Za rfl<|Zai rfl U25 rfl O rfl<|Zi rfl jV rfl<|Zd 1 rfl qK rfl I rfl<|Zai rfl U53 rfl hh rfl<|Zaw rfl ?_;refine Za rfl ?_;refine' bW 4 (s:=43) (p:=47) rfl (fun hI=>?_) (fun hI=>?_) ?_;rotate_left
  ·refine dG rfl xN rfl I Yc tF n4 rfl ⟨_,rfl,rfl⟩<|Zb rfl<|Zg rfl (fun D2 U=>RV _ _ t l _ (ht0.up (U _ Ye)) (O.up RI.up (U _ Ye)) h4 Yd hlb)<|Zak rfl ?_;exact aM 3
  ·refine Wb ?_;exact aM 3
  refine We ?_;exact aE rfl fun D hD=>by show Value.bool _=_;rw[hnr,hll];simp
theorem RE(tv O:Γ)(t:aW)(l:List Int)(D:aC)(ht:fA D tv t)(R:Sl D RI 1 O l)(h4:T3 t)(hin:aJI t.heights l)(hnr:nL t.step none l=true):Fn prog 150 #[tv,O] D (fun _ v=>v=.bool (iH t l)):=by
 have ht0:=ht;obtain⟨hv,lv,mv,rfl,hh,hl,hm⟩:=ht;have hlen:=h4.len;have hll:=Z4 hin;have hlb:=AA h4 hin;have hml:=h4.mks;refine Zx 25 func150 rfl fun h0=>aA<|Zab rfl fun q1 E1 hH I=>Zk rfl<|bK<|Zv rfl xN rfl I tF<|Za rfl<|Zf rfl (fun D1 U=>OW _ _ t l _ (ht0.up (U _ Ye)) (R.up RI.up (U _ Ye)) h4 hin hnr)<|Zau rfl<|aF<|Zaf rfl (fun hc1=>?_) fun hc1=>?_
 ·cases hc1
 ·refine aQ<|bM<|Zk rfl<|aF<|Za3<|dW (γ:=Nat) (fun k=>t.marks.length-k) (fun k=>k≤t.marks.length∧(t.marks.take k).all (fun m=>gZ (kD l m.frm m.to) m.lo m.hi)=true) (fun k=>[(5,qI (k:Int))]) [(4,_),(2,_),(1,_)] (fun k=>[E1,D]) 0 ⟨Yd,rfl⟩ ⟨Ya,bQK⟩ cR (aK) ?_;rintro k ⟨h1,h2⟩;refine bM<|Za rfl<|Zi rfl jS rfl<|Zd 4 rfl tL rfl I rfl<|Zai rfl U54 rfl hm rfl<|Zan rfl<|aF<|Zag rfl (fun hc2=>?_) (fun hc2=>?_)
  ·have hk:k<t.marks.length:=by omega
   obtain⟨x,hx⟩:=cB t.marks k;have V:=h4.mark x (GT hx);refine aQ<|Za5<|Za3<|aA<|Za rfl<|Zi rfl jS rfl<|Zd 4 rfl tL rfl I rfl<|Za rfl<|Zw rfl U54 mR rfl hm rfl hx fun b1 o1 Y Z hF hB=>?_;obtain rfl:Y=[qI _,qI _,qI _,qI _]:=Z;refine Zv rfl NU rfl hB mR<|Zf rfl (fun D2 hE=>aIX _ l x _ (R.up RI.up (hE _ Ye)) Yd V)<|Zau rfl<|aF<|Zaf rfl (fun hc3=>?_) fun hc3=>?_
   ·refine aA<|Wg ?_;exact aE rfl fun D hD=>by show Value.bool _=_;unfold iH;rw[aLH (GT hx) Xar]
   ·refine Wbv ?_;exact aI 17 (k+1) ⟨Yd,by rw[bLA,hx,List.all_append,h2];simpa using hc3⟩ Yd ⟨Ya,bQK⟩ rfl rfl Mm5 (aK)
  ·obtain rfl:k=t.marks.length:=by omega
   rw[bLU]at h2;refine Wj ?_;exact aE rfl fun D hD=>by show Value.bool _=_;unfold iH;rw[h2]
theorem IW(tv:Γ)(t:aW)(D:aC)(ht:fA D tv t)(h4:T3 t):Fn prog 149 #[tv] D (fun D' v=>Sl D' RL 1 v (oB t)):=by
 have ht0:=ht;obtain⟨hv,lv,mv,rfl,hh,hl,hm⟩:=ht;have hlen:=h4.len;have hpr:=UA h4;refine Zx 23 func149 rfl fun h0=>aA<|Zab rfl fun q1 E1 hI U=>Zk rfl<|aL<|Zk rfl<|bK<|Zk rfl<|aF<|Za3<|hU (γ:=Nat×Γ×List Γ×aD×aC) (fun g=>pP t.heights-g.1) (fun g=>g.1≤pP t.heights∧bD 25 1 g.2.1 g.2.2.1.length g.2.2.1 g.2.2.2.1∧LA g.2.2.2.2 g.2.2.1 (A4 t g.1)) (fun g=>[(4,qI (g.1:Int)),(3,g.2.1)]) [(2,_),(1,_)] (fun g=>g.2.2.2.1++[]) (fun g=>[g.2.2.2.2,E1,D]) (0,qN,[],[],D) ⟨Ye,Xac,LA.nil⟩ ⟨Ya,Ya,bQK⟩ cR Mm5 ((fun D0 h=>by simp only[bNA,n4,bND]at h;rcases h with h|h|h;exact⟨D,Ye,h▸Le.refl _⟩;exact⟨E1,Ye,h▸Le.refl _⟩;exact⟨D,Ye,h▸Le.refl _⟩)) ?_
 rintro⟨k,v,vs,ν,Dn⟩ ⟨h1,ha,hla⟩;simp only at h1 ha hla;have hvl:=hla.len;have hkl:=FE t k;refine bM<|Za rfl<|Zv rfl xN rfl U tF<|Zf rfl (fun D1 Z=>K8 _ t _ (ht0.up (Z _ Ye)) h4)<|Zan rfl<|aF<|Zag rfl (fun hc1=>?_) fun hc1=>?_
 ·have hk:k<pP t.heights:=by simp only at hc1;omega
  have hni:=aEH h4 hk;have hnl:=Z4 hni;have hnb:=AA h4 hni;refine aQ<|Za5<|Za3<|aA<|Zv rfl xN rfl U tF<|Za rfl<|Zaa rfl (fun D2 O=>bBK _ t k _ (ht0.up (O _ Ye)) h4 Yd) fun v2 D2 O hB=>?_;have hw:=hB;refine Zk rfl<|aL<|Zv rfl xN rfl U tF<|Za rfl<|Zf rfl (fun D3 Y=>RV _ _ t (rP t.heights k) _ (ht0.up (Y _ Ye)) (hw.up RI.up (Y _ Ye)) h4 Yd hnb)<|aF<|Zaf rfl (fun hc2=>?_) fun hc2=>?_
  ·refine aP<|Za rfl<|Za rfl<|Zu rfl U80 fR vX rfl (.cons hw.cells1 rfl .nil) (fun hH R I V=>aR (A:=[]) (B:=_) rfl U80 rfl rfl fR vX rfl MW rfl rfl rfl ha (iL.lit V) Ye rfl Ye (by simpa using hw.cell1) Yd (bLL rfl) rfl bQK fun v1 ν1 hE=>Zk rfl<|Zap<|Za6<|Za1<|aP<|Za rfl<|Zah rfl ?_);refine Zk rfl<|Zap ?_;exact aI 21 (k+1,v1,vs++[v2],ν1,R) ⟨Yl,by simpa using hE,by simp only;rw[aAY hc2];exact(hla.up (I Dn Ye)).snoc (hw.up RI.up (I _ Ye))⟩ Yl ⟨Ya,Ya,bQK⟩ rfl rfl Mm5 ((fun D0 h=>by simp only[bNA,n4,bND]at h;rcases h with h|h|h;exact⟨R,Ye,h▸Le.refl _⟩;exact⟨E1,Ye,h▸Le.refl _⟩;exact⟨D,Ye,h▸Le.refl _⟩))
  ·refine Wbv ?_;exact aI 16 (k+1,v,vs,ν,Dn) ⟨Yl,ha,by simp only;rw[aHI hc2];exact hla⟩ Yl ⟨Ya,Ya,bQK⟩ rfl rfl Mm5 (Yaf)
 ·obtain rfl:k=pP t.heights:=by simp only at hc1;omega
  refine Za8<|Za4<|Za4<|Za9<|Za1<|aA<|Za rfl<|Zk rfl<|aG<|Zar [] [] ha rfl fun D2 O hF=>?_;exact aE rfl fun D' hD=>(hF.lists hla (O _ Ye) Yd).up RL.up (hD _ Ye)
theorem YW(tv:Γ)(t:aW)(D:aC)(ht:fA D tv t)(h4:T3 t):Fn prog 76 #[tv] D (fun D' v=>Sl D' RL 1 v (OL t)):=by
 have ht0:=ht;obtain⟨hv,lv,mv,rfl,hh,hlv,hm⟩:=ht;have hpr:=UA h4;have hkl:=FE t (pP t.heights);refine Zx 28 func76 rfl fun h0=>aA<|Zab rfl fun q1 E1 rA U=>Zk rfl<|aL<|Zk rfl<|aL<|Zv rfl xN rfl U tF<|Zaa rfl (fun Y V=>IW _ t _ (ht0.up (V _ Ye)) h4) fun Z Y V hB=>?_;have hS:Sl Y RL 1 Z (oB t):=hB;have hSl:(oB t).length≤81:=by have h9:=hkl;unfold oB;omega
 refine Zk rfl<|bK<|Zk rfl<|aF<|Za3<|Zc (Nat×Γ×List Γ×aD) (fun g=>(oB t).length-g.1) (fun g=>g.1≤(oB t).length∧bD 25 1 g.2.1 g.2.2.1.length g.2.2.1 g.2.2.2∧LA Y g.2.2.1 (((oB t).take g.1).filter (iH t))) (fun g=>[(5,qI (g.1:Int)),(3,g.2.1)]) [(4,_),(2,_),(1,_)] (fun g=>g.2.2.2++[]) (fun g=>[Y,E1,D]) (0,qN,[],[]) ⟨Ye,Xac,by simpa using LA.nil⟩ ⟨Ya,Ya,bQK⟩ Mm5 ?_;rintro⟨k,v,vs,ν⟩ ⟨h1,ha,hla⟩;simp only at h1 ha hla;have hvl:=hla.len;have hfl:=bMO (iH t) ((oB t).take k);have htk:((oB t).take k).length≤k:=bOB _ _;refine bM<|Za rfl<|Za rfl<|Zai rfl U80 rfl hS rfl<|Zan rfl<|aF<|Zag rfl (fun hc1=>?_) fun hc1=>?_
 ·have hk:k<(oB t).length:=by omega
  obtain⟨l,hl⟩:=cB (oB t) k;obtain⟨hin,hnr⟩:=JJ h4 (GT hl);refine aQ<|Za5<|Za3<|Za5<|bE [] 3 6 30<|Zv rfl xN rfl U tF<|Za rfl<|Za rfl<|Zw rfl U80 fR rfl hS rfl hl fun b1 o1 rB hE hP hH=>?_;obtain⟨w1,rfl,hI⟩:=hE;refine Zd 0 rfl bX rfl hH rfl<|Zf rfl (fun D2 I=>RE _ _ t l _ (ht0.up (I _ Ye)) (hI.up RI.up (I _ Ye)) h4 hin hnr)<|aF<|Zaf rfl (fun hc2=>?_) fun hc2=>?_
  ·refine aP<|Za rfl<|Za rfl<|Za rfl<|Zw rfl U80 fR rfl hS rfl hl fun b2 o2 cs2 hJ hR hK=>?_;obtain⟨w2,rfl,O⟩:=hJ;refine Zd 0 rfl bX rfl hK rfl<|Zu rfl U80 fR vX rfl (.cons O.cells1 rfl .nil) (fun hX hY hN R=>aR (A:=[]) (B:=_) rfl U80 rfl rfl fR vX rfl MW rfl rfl rfl ha (iL.lit R) Ye rfl Ye (by simpa using O.cell1) Yd (bLL rfl) rfl bQK fun Z ν1 hO=>Wz ?_);exact aI 23 (k+1,Z,vs++[w2],ν1) ⟨Yl,by simpa using hO,by simp only;rw[DS hl hc2];exact hla.snoc O⟩ Yl ⟨Ya,Ya,bQK⟩ rfl rfl Mm5 fun D h=>⟨D,bLP _ (h),Le.refl D⟩
  ·refine Wbv ?_;exact aI 15 (k+1,v,vs,ν) ⟨Yl,ha,by simp only;rw[MH hl hc2];exact hla⟩ Yl ⟨Ya,Ya,bQK⟩ rfl rfl Mm5 (aK)
 ·obtain rfl:k=(oB t).length:=by omega
  rw[bLU]at hla;refine Za8<|Za4<|Za4<|Za9<|Za1<|aA<|Za rfl<|Zk rfl<|aG<|Zar [] [] ha rfl fun D2 I hF=>?_;exact aE rfl fun D' hD=>(hF.lists hla (I _ Ye) (by have:=bMO (iH t) (oB t);omega)).up RL.up (hD _ Ye)
end L2
namespace L7
open C7
theorem aUC{l:List Int}{k u:Nat}{n:Int}(hn:l[k]?= some n)(h:n=2):((u+Q5 (l.take (k+1)):Nat):Int)=((u+Q5 (l.take k):Nat):Int)+1:=by
 rw[bLA,hn];simp only[Q5,bLT,bMJ,GE];simp[h];omega
theorem aYH{l:List Int}{k u:Nat}{n:Int}(hn:l[k]?= some n)(h:¬n=2):((u+Q5 (l.take (k+1)):Nat):Int)=((u+Q5 (l.take k):Nat):Int):=by
 rw[bLA,hn];simp only[Q5,bLT,bMJ,GE];simp[h]
theorem bIR(r:Int×Int):((decide (r.1<0)||decide (r.2<r.1))||decide (7<r.2))= !mO r:=by
 unfold mO;rw[bOC];simp only[bMF,LT,bNY,bPR,bLC];omega
theorem aHH{p:Pt}(h:wI p):decide (p.a+p.b+p.c=3)=iK p:=by
 obtain⟨a,b,c⟩:=p;obtain⟨h1,h2,h3⟩:=h;unfold iK;rw[bOC];simp only[LT,Pt.mk.injEq]at *;omega
theorem VB{f:Int}{a b:Nat}{p q:Pt}{I x2:Ch}(hp:wI p)(hq:wI q):
  (((((((decide ((a:Int)≠b)&& !iK p)&& !iK q)&&decide (I.size-x2.size≤f))&&decide (-(I.size-x2.size)≤f))&&decide (0<p.a+q.a))&&decide (0<p.b+q.b))&&decide (0<p.c+q.c))=((decide ((b:Int)≠a)&&S9 f I x2)&&R1 p q):=by
 obtain⟨pa,pb,pc⟩:=p;obtain⟨qa,qb,qc⟩:=q;obtain⟨h1,h2,h3⟩:=hp;obtain⟨h4,h5,h6⟩:=hq;unfold R1 S9 iK gZ;rw[bOC];simp only[bKW,LT,bNY,bLC,Pt.mk.injEq]at *;constructor
 ·rintro⟨⟨⟨⟨⟨⟨⟨O,R⟩,U⟩,V⟩,Y⟩,Z⟩,e7⟩,e8⟩;exact⟨⟨fun e=>O e.symm,Yd,Yd⟩,⟨R,U⟩,Yd,Yd,Yd⟩
 ·rintro⟨⟨O,R,U⟩,⟨V,Y⟩,Z,e7,e8⟩;exact⟨⟨⟨⟨⟨⟨⟨fun e=>O e.symm,V⟩,Y⟩,Yd⟩,Yd⟩,Yd⟩,Yd⟩,Yd⟩
def lJ(y:aZ)(t:List Pt)(l:List (Int×Int)):Nat:=whole t+(l.filter fun p=>kV y t p.1.toNat p.2.toNat).length
theorem aHM(y:aZ)(t:List Pt)(l:List (Int×Int)):lJ y t l≤t.length+l.length:=by
 have h1:=bMO (fun p:Int×Int=>kV y t p.1.toNat p.2.toNat) l;have h2:whole t≤t.length:=bMO _ _;unfold lJ;omega
theorem WN{y:aZ}{t:List Pt}{l:List (Int×Int)}{k x z:Nat}(h:l[k]?= some ((x:Int),(z:Int)))(hf:kV y t x z=true):((lJ y t (l.take (k+1)):Nat):Int)=(lJ y t (l.take k):Int)+1:=by
 unfold lJ;rw[bLA,h,bLT,bMJ,GE];simp[hf];omega
theorem aLS{y:aZ}{t:List Pt}{l:List (Int×Int)}{k x z:Nat}(h:l[k]?= some ((x:Int),(z:Int)))(hf:kV y t x z=false):lJ y t (l.take (k+1))=lJ y t (l.take k):=by
 unfold lJ;rw[bLA,h,bLT,bMJ,GE];simp[hf]
def rL(cl:List (Int×Int))(n:Int)(i:Nat):Bool:=match cl[i]? with
 |some r=>gZ n r.1 r.2
 |none=>false
theorem JR{cl:List (Int×Int)}{n:Int}{i:Nat}{r:Int×Int}(h:cl[i]?= some r):rL cl n i=gZ n r.1 r.2:=by unfold rL;rw[h]
theorem EB(yv:Γ)(y:aZ)(D:aC)(hy:gU D yv y)(h7:y.chairs.length≤1000):Fn prog 198 #[yv] D (fun _ v=>v=qI (dK y.chairs:Int)):=by
 obtain⟨cv,qv,rfl,hc,hq⟩:=hy;refine Zx 29 func198 rfl fun h0=>aA<|Zab rfl fun q1 E1 Y I=>Zk rfl<|aL<|Zk rfl<|bK<|Zk rfl<|aF<|Za3<|dW (γ:=Nat) (fun i=>y.chairs.length-i) (fun i=>i≤y.chairs.length) (fun i=>[(4,qI (i:Int)),(3,qI (dK (y.chairs.take i):Int))]) [(2,_),(1,_)] (fun i=>[E1,D]) 0 Yd ⟨Ya,(by simp[dK];rfl),bQK⟩ cR (aK) ?_
 rintro i h1;refine bM<|Za rfl<|Zi rfl gC rfl<|Zd 0 rfl mN rfl I rfl<|Zai rfl U61 rfl hc rfl<|Zan rfl<|aF<|Zag rfl (fun hc1=>?_) fun hc1=>?_
 ·have hi:i<y.chairs.length:=by omega
  obtain⟨x,hx⟩:=cB y.chairs i;have hub:=aOH (y.chairs.take i);have hut:(y.chairs.take i).length≤i:=bOB _ _;refine aQ<|Za5<|Za3<|aA<|Zk rfl<|aF<|Za3<|dW (γ:=Nat) (fun k=>3-k) (fun k=>k≤3) (fun k=>[(5,qI (k:Int)),(3,qI ((dK (y.chairs.take i)+Q5 (x.parts.l.take k):Nat):Int))]) [(10,_),(9,_),(8,_),(7,_),(6,_),(4,_),(2,_),(1,_)] (fun k=>[E1,D]) 0 Yd ⟨Ya,(by simp[Q5];rfl),bQK⟩ cR (aK) ?_
  rintro k h2;refine bM<|Za rfl<|Zan rfl<|aF<|Zag rfl (fun hc2=>?_) fun hc2=>?_
  ·have Z:k<3:=by omega
   obtain⟨n,hn⟩:∃n,x.parts.l[k]?= some n:=⟨_,bLB (by simp[Pt.l];omega)⟩
   have hkl:=aDG (x.parts.l.take k);have hkt:(x.parts.l.take k).length≤k:=bOB _ _;refine aQ<|Za5<|Za3<|aA<|Zi rfl gC rfl<|Zd 0 rfl mN rfl I rfl<|Za rfl<|Za rfl<|Zw rfl U61 oX rfl hc rfl hx fun b1 o1 O R V U=>?_;obtain rfl:O=[qI _,qI _,qI _,qI _]:=R;refine Zi rfl P1 rfl<|eV rfl U232 aJ rfl rfl Yd Yd rfl bQK<|dZ (o:=_+1) (k:=k*1) rfl aH rfl U.tail Ye (aTK hn) n4 rfl bQK<|Zaw rfl<|aF<|Zag rfl (fun hc3=>?_) fun hc3=>?_
   ·refine Wcc ?_;exact aI 19 (k+1) Yd Yd ⟨Ya,(by rw[aUC hn hc3];rfl),bQK⟩ rfl rfl Mm5 (aK)
   ·refine Wbv ?_;exact aI 16 (k+1) Yd Yd ⟨Ya,(by rw[aYH hn hc3];rfl),bQK⟩ rfl rfl Mm5 (aK)
  ·obtain rfl:k=3:=by omega
   refine Wbq ?_;exact aI 13 (i+1) Yd Yd ⟨Ya,(by rw[SB hx];rfl),bQK⟩ rfl rfl Mm5 (aK)
 ·obtain rfl:i=y.chairs.length:=by omega
  rw[bLU];refine Wn ?_;exact aE rfl fun D hD=>rfl
theorem vB(p:Pt)(D:aC)(hp:wI p):Fn prog 368 #[bII p] D (fun _ v=>v=.bool (iK p)):=by
 obtain⟨⟨O,R⟩,⟨U,V⟩,Y,hp5⟩:=id hp;refine Zx 12 func368 rfl fun h0=>aA<|Zab rfl fun q1 E1 Z I=>Zk rfl<|aL<|cA rfl U232 aJ rfl rfl Yt Yt rfl bQK<|iQ rfl aH rfl I Ye rfl n4 rfl bQK<|cA rfl U232 aJ rfl rfl Yt Yt rfl bQK<|iQ rfl aH rfl I Ye rfl n4 rfl bQK<|Zah rfl<|cA rfl U232 aJ rfl rfl Yt Yt rfl bQK<|iQ rfl aH rfl I Ye rfl n4 rfl bQK ?_;refine Zah rfl<|Zaw rfl<|We ?_;exact aE rfl fun D hD=>by show Value.bool _=_;rw[aHH hp]
theorem aNO(tv:Γ)(t:List Pt)(D:aC)(ht:Sl D RP 3 tv t)(hb:∀p∈t,wI p):Fn prog 324 #[tv] D (fun _ v=>v=qI (whole t:Int)):=by
 have hl:=ht.len;refine Zx 19 func324 rfl fun h0=>aA<|Zk rfl<|aL<|Zk rfl<|bK<|Zk rfl<|aF<|Za3<|dW (γ:=Nat) (fun i=>t.length-i) (fun i=>i≤t.length) (fun i=>[(4,qI (i:Int)),(3,qI (whole (t.take i):Int))]) [(2,_),(0,_)] (fun i=>[D]) 0 Yd ⟨Ya,Ya,bQK⟩ cR (aK) ?_;rintro i h1;refine bM<|Za rfl<|Za rfl<|Zai rfl U288 rfl ht rfl<|Zan rfl<|aF<|Zag rfl (fun hc1=>?_) fun hc1=>?_
 ·have hi:i<t.length:=by omega
  obtain⟨z,hz⟩:=cB t i;have hwl:whole (t.take i)≤(t.take i).length:=bMO _ _;have hwt:(t.take i).length≤i:=bOB _ _;refine aQ<|Za5<|Za3<|aA<|Za rfl<|Za rfl<|Zw rfl U288 fD rfl ht rfl hz fun Y o1 I O U R=>?_;obtain rfl:I=[qI _,qI _,qI _]:=O;refine Zv rfl sI rfl R Xau<|Zf rfl (fun Z V=>vB z _ (hb _ (GT hz)))<|aF<|Zaf rfl (fun hc2=>?_) fun hc2=>?_
  ·refine Wcc ?_;exact aI 17 (i+1) Yd Yd ⟨Ya,(by rw[A8 hz,bLR hc2];rfl),bQK⟩ rfl rfl Mm5 (aK)
  ·refine Wbv ?_;exact aI 14 (i+1) Yd Yd ⟨Ya,(by rw[A8 hz,bLI (by rw[hc2];simp)];rfl),bQK⟩ rfl rfl Mm5 (aK)
 ·obtain rfl:i=t.length:=by omega
  rw[bLU];refine Wn ?_;exact aE rfl fun D hD=>rfl
theorem MR(yv tv:Γ)(y:aZ)(t:List Pt)(a b:Nat)(D:aC)(hy:gU D yv y)(ht:Sl D RP 3 tv t)(hyo:bDM y)(hlen:t.length=y.chairs.length)(hb:∀p∈t,wI p)(ha:a<t.length)(hb2:b<t.length):Fn prog 325 #[yv,tv,qI (a:Int),qI (b:Int)] D (fun _ v=>v=.bool (kV y t a b)):=by
 obtain⟨cv,qv,rfl,hc,hq⟩:=hy;obtain⟨bt,ot,ct,rfl⟩:=dM ht fun e=>by rw[e]at ha;simp at ha
 obtain⟨p,hp⟩:=cB t a;obtain⟨q,hq2⟩:=cB t b;obtain⟨x1,hx1⟩:∃x,y.chairs[a]?= some x:=⟨_,bLB Yd⟩
 obtain⟨x2,hx2⟩:∃x,y.chairs[b]?= some x:=⟨_,bLB Yd⟩
 have hcl:=hc.len;have htl:=ht.len;have hs1:=hyo.size _ (GT hx1);have hs2:=hyo.size _ (GT hx2);have hft:=hyo.fit;have hpb:=hb _ (GT hp);have hqb:=hb _ (GT hq2);obtain⟨⟨pa0,pa1⟩,⟨pb0,pb1⟩,pc0,pc1⟩:=id hpb;obtain⟨⟨qa0,qa1⟩,⟨qb0,qb1⟩,qc0,qc1⟩:=id hqb;refine Zx 83 func325 rfl fun h0=>aA<|Zab rfl fun q1 E1 hE1 I=>Zk rfl<|bS<|mT (dN.mk [bt]) 2 [false,true,false,false,true,true,true,true,true,true,true,false] [.fork [0,1,2,3,4,5,6,7] 8 (.fin [9]) 9 (.fin [8]),.fin [10,11]] bC (fun _ _ _ h=>eZ (P:=prog) (fn:=f325) _ _ _ h) Yg<|qT<|bQ [(false,0),(true,1),(false,2),(false,3),(true,4),(true,5),(true,6),(true,7)] rfl<|Za rfl<|Za rfl<|jI rfl U288 fD rfl ht rfl Yd hp rfl bQK fun hO hP rB O=>?_;obtain rfl:hO=[qI _,qI _,qI _]:=hP;refine dG rfl sI rfl O Ye fD (dN.out Ye) rfl bQK<|Za rfl<|Za rfl<|jI rfl U288 fD rfl ht rfl Yd hq2 rfl bQK fun hR hS hcl42 hX=>?_;obtain rfl:hR=[qI _,qI _,qI _]:=hS;refine dG rfl sI rfl hX Ye fD (dN.out Ye) rfl bQK<|Zap (dV true true rfl rfl ?_ ?_)
 ·refine Zad rfl wR rfl fun q2=>Zap<|aV [(true,9)] rfl<|Zad rfl wR rfl fun q3=>Zap<|lI [(true,10),(false,11)] rfl<|kZ O Ye fun hap=>nM rfl rfl rfl rfl fD (.tail ζ) Ye rfl Yk (bLG (dN.in_ Xdc)) bQK<|nM rfl rfl rfl rfl fD ζ Ye rfl Yk (Or.inr (dN.in_ Xdd)) bQK<|Zap<|mG<|Za1 ?_;refine Za5<|bE [] 5 14 4036<|Zi rfl gC rfl<|Zd 0 rfl mN rfl I rfl<|Za rfl<|Zw rfl U61 oX rfl hc rfl hx1 fun b1 o1 R U hY V=>?_;obtain rfl:R=[qI _,qI _,qI _,qI _]:=U;refine Zi rfl zH rfl<|Zd 0 rfl aH rfl V rfl<|Zi rfl gC rfl<|Zd 0 rfl mN rfl I rfl<|Za rfl<|Zw rfl U61 oX rfl hc rfl hx2 fun b2 o2 Y Z rA hB=>?_;obtain rfl:Y=[qI _,qI _,qI _,qI _]:=Z;refine Zi rfl zH rfl<|Zd 0 rfl aH rfl hB rfl<|Zaz rfl<|Zk rfl<|aL<|Za rfl<|Za rfl<|Wcl ?_;refine' bW 4 (s:=36) (p:=40) rfl (fun hE=>?_) (fun hE=>?_) ?_;rotate_left
  ·refine bL rfl sI rfl Mm1 Xau n4 rfl ⟨_,rfl,rfl⟩<|Zg rfl (fun D1 hD1=>vB p _ hpb)<|Wci ?_;exact aM 3
  ·refine Wb ?_;exact aM 3
  refine Za rfl ?_;refine' bW 4 (s:=41) (p:=45) rfl (fun hF=>?_) (fun hF=>?_) ?_;rotate_left
  ·refine bL rfl sI rfl Mm0 Xau n4 rfl ⟨_,rfl,rfl⟩<|Zg rfl (fun D2 hD2=>vB q _ hqb)<|Wci ?_;exact aM 3
  ·refine Wb ?_;exact aM 3
  refine Za rfl ?_;refine' bW 5 (s:=46) (p:=51) rfl (fun hH=>?_) (fun hH=>?_) ?_;rotate_left
  ·refine Zb rfl<|Zj rfl yC rfl<|Wbt ?_;exact aM 4
  ·refine Zh rfl<|Wb ?_;exact aM 4
  refine Za rfl ?_;refine' bW 6 (s:=52) (p:=58) rfl (fun hI=>?_) (fun hI=>?_) ?_;rotate_left
  ·refine Zb rfl<|aDW rfl rfl Yf rfl ⟨_,rfl,rfl⟩<|Zj rfl yC rfl<|Wbt ?_;exact aM 5
  ·refine Wp ?_;exact aM 5
  refine Za rfl ?_;refine' bW 7 (s:=59) (p:=66) rfl (fun hJ=>?_) (fun hJ=>?_) ?_;rotate_left
  ·refine Wu ?_;exact aM 6
  ·refine Wbg ?_;exact aM 6
  refine Za rfl ?_;refine' bW 7 (s:=67) (p:=74) rfl (fun hK=>?_) (fun hK=>?_) ?_;rotate_left
  ·refine Wu ?_;exact aM 6
  ·refine Wbg ?_;exact aM 6
  refine Za rfl ?_;refine' bW 7 (s:=75) (p:=82) rfl (fun hN=>?_) (fun hN=>?_) ?_;rotate_left
  ·refine Wu ?_;exact aM 6
  ·refine Wbg ?_;exact aM 6
  refine We ?_;exact aE rfl fun D hD=>Xde
 ·refine Zad rfl wR rfl fun q2=>Zap<|aV [(true,8)] rfl<|Zad rfl wR rfl fun q3=>Zap<|lI [(true,10),(false,11)] rfl<|kZ O Ye fun hap=>nM rfl rfl rfl rfl fD ζ Ye rfl Yk (bLG (dN.in_ Xdd)) bQK<|nM rfl rfl rfl rfl fD (.tail ζ) Ye rfl Yk (Or.inr (dN.in_ Xdc)) bQK<|Zap<|mG<|Za1 ?_;refine Za5<|bE [] 5 14 4036<|Zi rfl gC rfl<|Zd 0 rfl mN rfl I rfl<|Za rfl<|Zw rfl U61 oX rfl hc rfl hx1 fun b1 o1 R U hY V=>?_;obtain rfl:R=[qI _,qI _,qI _,qI _]:=U;refine Zi rfl zH rfl<|Zd 0 rfl aH rfl V rfl<|Zi rfl gC rfl<|Zd 0 rfl mN rfl I rfl<|Za rfl<|Zw rfl U61 oX rfl hc rfl hx2 fun b2 o2 Y Z rA hB=>?_;obtain rfl:Y=[qI _,qI _,qI _,qI _]:=Z;refine Zi rfl zH rfl<|Zd 0 rfl aH rfl hB rfl<|Zaz rfl<|Zk rfl<|aL<|Za rfl<|Za rfl<|Wcl ?_;refine' bW 4 (s:=36) (p:=40) rfl (fun hE=>?_) (fun hE=>?_) ?_;rotate_left
  ·refine bL rfl sI rfl Mm0 Xau n4 rfl ⟨_,rfl,rfl⟩<|Zg rfl (fun D1 hD1=>vB p _ hpb)<|Wci ?_;exact aM 3
  ·refine Wb ?_;exact aM 3
  refine Za rfl ?_;refine' bW 4 (s:=41) (p:=45) rfl (fun hF=>?_) (fun hF=>?_) ?_;rotate_left
  ·refine bL rfl sI rfl Mm1 Xau n4 rfl ⟨_,rfl,rfl⟩<|Zg rfl (fun D2 hD2=>vB q _ hqb)<|Wci ?_;exact aM 3
  ·refine Wb ?_;exact aM 3
  refine Za rfl ?_;refine' bW 5 (s:=46) (p:=51) rfl (fun hH=>?_) (fun hH=>?_) ?_;rotate_left
  ·refine Zb rfl<|Zj rfl yC rfl<|Wbt ?_;exact aM 4
  ·refine Zh rfl<|Wb ?_;exact aM 4
  refine Za rfl ?_;refine' bW 6 (s:=52) (p:=58) rfl (fun hI=>?_) (fun hI=>?_) ?_;rotate_left
  ·refine Zb rfl<|aDW rfl rfl Yf rfl ⟨_,rfl,rfl⟩<|Zj rfl yC rfl<|Wbt ?_;exact aM 5
  ·refine Wp ?_;exact aM 5
  refine Za rfl ?_;refine' bW 7 (s:=59) (p:=66) rfl (fun hJ=>?_) (fun hJ=>?_) ?_;rotate_left
  ·refine Wv ?_;exact aM 6
  ·refine Wbg ?_;exact aM 6
  refine Za rfl ?_;refine' bW 7 (s:=67) (p:=74) rfl (fun hK=>?_) (fun hK=>?_) ?_;rotate_left
  ·refine Wv ?_;exact aM 6
  ·refine Wbg ?_;exact aM 6
  refine Za rfl ?_;refine' bW 7 (s:=75) (p:=82) rfl (fun hN=>?_) (fun hN=>?_) ?_;rotate_left
  ·refine Wv ?_;exact aM 6
  ·refine Wbg ?_;exact aM 6
  refine We ?_;exact aE rfl fun D hD=>Xde
theorem aQR(yv tv lv:Γ)(y:aZ)(t:List Pt)(l:List (Int×Int))(D:aC)(hy:gU D yv y)(ht:Sl D RP 3 tv t)(hl:Sl D R2 2 lv l)(hyo:bDM y)(hlen:t.length=y.chairs.length)(hb:∀p∈t,wI p)(hp:∀p∈l,∃x z:Nat,p=((x:Int),(z:Int))∧x<t.length∧z<t.length)(hO:l.length≤1000):Fn prog 237 #[yv,tv,lv] D (fun _ v=>v=qI (lJ y t l:Int)):=by
 have R:=hy;have hP:=hyo.len;obtain⟨cv,qv,rfl,hc,hq⟩:=hy;have hll:=hl.len;refine Zx 33 func237 rfl fun h0=>aA<|Zab rfl fun q1 E1 hR U=>Zk rfl<|aL<|Za rfl<|Zf rfl (fun D1 V=>aNO _ t _ (ht.up RP.up (V _ Ye)) hb)<|Zk rfl<|bK<|Zk rfl<|aF<|Za3 ?_;refine dW (γ:=Nat) (fun k=>l.length-k) (fun k=>k≤l.length) (fun k=>[(8,qI (k:Int)),(7,qI (lJ y t (l.take k):Int))]) [(6,_),(3,_),(1,_),(2,_)] (fun k=>[E1,D]) 0 Yd ⟨Ya,(by simp[lJ];rfl),bQK⟩ cR (aK) ?_
 rintro k h1;refine bM<|Za rfl<|Za rfl<|Zai rfl U292 rfl hl rfl<|Zan rfl<|aF<|Zag rfl (fun hc1=>?_) fun hc1=>?_
 ·have hk:k<l.length:=by omega
  obtain⟨p,I⟩:=cB l k;obtain⟨x,z,rfl,Y,Z⟩:=hp p (GT I);have hml:=aHM y t (l.take k);have htl:(l.take k).length≤k:=bOB _ _;refine aQ<|Za5<|Za3<|Za5<|bE [] 4 13 4094<|Zv rfl pN rfl U nE<|Za rfl<|Za rfl<|Za rfl<|Zw rfl U292 BP rfl hl rfl I fun b1 o1 hB hE hK hF=>?_;obtain rfl:hB=[qI _,qI _]:=hE;refine Zi rfl aJB rfl<|Zd 0 rfl aH rfl hF rfl<|Za rfl<|Za rfl<|Zw rfl U292 BP rfl hl rfl I fun b2 o2 hH hI hN hJ=>?_;obtain rfl:hH=[qI _,qI _]:=hI;refine Zi rfl aIW rfl<|Zd 1 rfl aH rfl hJ rfl<|Zf rfl (fun D2 O=>MR _ _ y t x z _ (R.up (O _ Ye)) (ht.up RP.up (O _ Ye)) hyo hlen hb Y Z)<|aF<|Zaf rfl (fun hc2=>?_) fun hc2=>?_
  ·refine Wcc ?_;exact aI 25 (k+1) Yd Yd ⟨Ya,(by rw[WN I hc2];rfl),bQK⟩ rfl rfl Mm5 (aK)
  ·refine Wbv ?_;exact aI 22 (k+1) Yd Yd ⟨Ya,(by rw[aLS I hc2];rfl),bQK⟩ rfl rfl Mm5 (aK)
 ·obtain rfl:k=l.length:=by omega
  rw[bLU];refine Wn ?_;exact aE rfl fun D hD=>rfl
theorem aPQ(yv:Γ)(y:aZ)(n:Int)(D:aC)(hy:gU D yv y)(h5:y.claims.length≤40):Fn prog 165 #[yv,qI n] D (fun _ v=>v=qI (jQ (rL y.claims n) y.claims.length:Int)):=by
 obtain⟨cv,qv,rfl,hc,hq⟩:=hy;refine Zx 34 func165 rfl fun h0=>aA<|Zab rfl fun q1 E1 hH O=>Zk rfl<|aL<|Zk rfl<|bK<|Zk rfl<|aF<|Za3<|dW (γ:=Nat) (fun i=>y.claims.length-i) (fun i=>i≤y.claims.length) (fun i=>[(6,qI (i:Int)),(5,qI (jQ (rL y.claims n) i:Int))]) [(4,_),(2,_),(1,_)] (fun i=>[E1,D]) 0 Yd ⟨Ya,Ya,bQK⟩ cR (aK) ?_;rintro i h1;refine bM<|Za rfl<|Zi rfl jT rfl<|Zd 2 rfl tI rfl O rfl<|Zai rfl U62 rfl hq rfl<|Zan rfl<|aF<|Zag rfl (fun hc1=>?_) fun hc1=>?_
 ·have hi:i<y.claims.length:=by omega
  obtain⟨r,I⟩:=cB y.claims i;have hbl:=X1 (rL y.claims n) i;have hI:2^i≤2^40:=bMY Yd Yd;refine aQ<|Za5<|Za3<|Za5<|bE [] 5 14 8190<|Za rfl<|Zi rfl jT rfl<|Zd 2 rfl tI rfl O rfl<|Za rfl<|Zw rfl U62 sH rfl hq rfl I fun b1 o1 R U hE V=>?_;obtain rfl:R=[qI _,qI _]:=U;refine Zi rfl JU rfl<|Zd 0 rfl aH rfl V rfl<|Zi rfl jT rfl<|Zd 2 rfl tI rfl O rfl<|Za rfl<|Zw rfl U62 sH rfl hq rfl I fun b2 o2 Y Z hF hB=>?_;obtain rfl:Y=[qI _,qI _]:=Z;refine Zi rfl KL rfl<|Zd 1 rfl aH rfl hB rfl<|Zf rfl (fun D1 hJ=>aEK _ _ _ _)<|aF<|Zaf rfl (fun hc2=>?_) fun hc2=>?_
  ·refine aP<|Za rfl<|Za rfl<|uB rfl U3 U380 rfl Yf rfl bQK<|BQ rfl rfl rfl Yd rfl bQK<|IZ rfl rfl rfl Yd Yd rfl bQK<|Zk rfl<|Zap<|Za6<|Za1<|aP<|Za rfl ?_;refine Wbx ?_;exact aI 30 (i+1) Yd Yd ⟨Ya,(by rw[jQ,bLR (by rw[JR I];exact hc2)];rfl),bQK⟩ rfl rfl Mm5 (aK)
  ·refine Wbv ?_;exact aI 24 (i+1) Yd Yd ⟨Ya,(by rw[jQ,bLI (by rw[JR I,hc2];simp)];rfl),bQK⟩ rfl rfl Mm5 (aK)
 ·obtain rfl:i=y.claims.length:=by omega
  refine Wn ?_;exact aE rfl fun D hD=>rfl
theorem aZZ(yv:Γ)(y:aZ)(D:aC)(hy:gU D yv y)(h5:y.claims.length≤40):Fn prog 166 #[yv] D (fun _ v=>v=qI (((2^y.claims.length:Nat):Int)-1)):=by
 obtain⟨cv,qv,rfl,hc,hq⟩:=hy;have O:2^y.claims.length≤2^40:=bMY Yd Yd;have R:1≤2^y.claims.length:=Nat.one_le_two_pow;have hpi:(1:Int)≤((2^y.claims.length:Nat):Int):=by omega
 have hpj:((2^y.claims.length:Nat):Int)≤1099511627776:=by omega
 refine Zx 9 func166 rfl (fun h0=>aA<|Zab rfl fun V E1 U I=>Zk rfl<|aL<|Zi rfl jT rfl<|Zd 2 rfl tI rfl I rfl<|Zai rfl U62 rfl hq rfl<|uB rfl U3 U380 rfl Yf rfl bQK<|BQ rfl rfl rfl Yd rfl bQK<|zF rfl rfl rfl (by simp only[wD];generalize ((2^y.claims.length:Nat):Int)=z at hpi hpj ⊢;omega) rfl bQK<|Zk rfl ?_);refine aG ?_;exact aE rfl fun D hD=>rfl
def bIE:Rd (List (Int×Int)):=fun D l cs=>∃v,cs=[v]∧Sl D R2 2 v l
theorem bIE.up:bIE.Up:=fun hl _ _ ⟨v,hc,hs⟩=>⟨v,hc,hs.up R2.up hl⟩
inductive LP(D:aC):List Γ→List (List (Int×Int))→Prop
 |nil:LP D [] []
 |cons {v l vs ls} (h:Sl D R2 2 v l) (r:LP D vs ls):LP D (v::vs) (l::ls)
theorem LP.up{D D':aC}{vs:List Γ}{ls:List (List (Int×Int))}(h:LP D vs ls)(hl:Le D D'):LP D' vs ls:=by
 induction h with
 |nil=>exact .nil
 |cons h _ ih=>exact .cons (h.up R2.up hl) ih
theorem LP.len{D:aC}{vs:List Γ}{ls:List (List (Int×Int))}(h:LP D vs ls):vs.length=ls.length:=by
 induction h with
 |nil=>rfl
 |cons _ _ ih=>rw[bLF,bLF,ih]
theorem LP.snoc{D:aC}{vs:List Γ}{ls:List (List (Int×Int))}{v:Γ}{l:List (Int×Int)}(h:LP D vs ls)(hv:Sl D R2 2 v l):LP D (vs++[v]) (ls++[l]):=by
 induction h with
 |nil=>exact .cons hv .nil
 |cons h _ ih=>exact .cons h ih
theorem LP.get{D:aC}{vs:List Γ}{ls:List (List (Int×Int))}(h:LP D vs ls):∀{i:Nat} {l:List (Int×Int)},ls[i]?= some l→∃v,vs[i]?= some v∧Sl D R2 2 v l:=by
  induction h with
  |nil=>intro i l hi;simp at hi
  | @cons v I vs ls h _ ih=>
    intro i l hi;cases i with
    | zero => obtain rfl : I = l := by simpa using hi
              exact⟨v,rfl,h⟩
    |succ i=>exact ih Yau
theorem _root_.Go.Fs.kN.plists{D:aC}{v:Γ}{n:Nat}{vs:List Γ}{ls:List (List (Int×Int))}(hF:kN D v n vs)(h:LP D vs ls)(hn:vs.length=n)(hb:n≤9223372036854775807):Sl D bIE 1 v ls:=
 hF.sl (by rw[←h.len];exact hn) hb fun i l hi=>by
  obtain⟨u,hu,hs⟩:=h.get hi;refine⟨[u],⟨u,rfl,hs⟩,rfl,?_⟩;have hlt:=(bLD.1 hu).1;rw[bNL,bMM hlt];rw[bLB hlt]at hu;rw[bLY hu];rfl
theorem aCY{w f:Nat}(h:((w >>> f:Nat):Int)%2=1):w.testBit f=true:=by
 rw[mQ]at h;cases e:w.testBit f with
 |true=>rfl
 |false=>rw[e]at h;simp at h
theorem TC{w f:Nat}(h:¬((w >>> f:Nat):Int)%2=1):w.testBit f=false:=by
 rw[mQ]at h;cases e:w.testBit f with
 |false=>rfl
 |true=>rw[e]at h;simp at h
theorem bKT{k:Nat}(h:k≤6):8^k≤262144:=by
 have:8^k≤8^6:=bMY Yd h;omega
theorem bJI{k:Nat}(h:k≤7):8^k≤2097152:=by
 have:8^k≤8^7:=bMY Yd h;omega
theorem FT{α β:Type}{f:α→List β}{c:Nat}:∀{l:List α},(∀x∈l,(f x).length≤c)→(l.flatMap f).length≤l.length*c
 | [],_=>by simp
 |x::l,h=>by
  rw[bMA,GE,bLF,bNV];have:=h x bKZ;have:=FT (l:=l) fun y hy=>h y (bKY _ hy)
  omega
theorem Y2{n:Nat}(hn:n≤7):∀k w,(prs n k w).length≤8^k
 |0,w=>by simp[prs]
 |k+1,w=>by
  have ih:=Y2 hn k;unfold prs;split
  ·have:=ih w;rw[Nat.pow_succ];omega
  ·rw[GE];have h1:=ih w;have h2:=FT (f:=fun b=>(prs n k (w|||2^b)).map fun l=>(n-(k+1),b)::l) (c:=8^k) (l:=(List.range n).filter fun b=>decide (n-(k+1)<b)&& !w.testBit b) fun b _=>by rw[bMK];exact ih _
   have h3:=bMO (fun b=>decide (n-(k+1)<b)&& !w.testBit b) (List.range n);rw[bPD]at h3;have h4:((List.range n).filter fun b=>decide (n-(k+1)<b)&& !w.testBit b).length*8^k≤7*8^k:=bPJ _ Yd;rw[Nat.pow_succ];omega
theorem MK{l:List (Nat×Nat)}(h:(qV l).Nodup):(l.map fun p=>p.1).Nodup:=by
 induction l with
 |nil=>exact bNH
 |cons p l ih=>
  unfold qV at h;rw[bMA,bLJ]at h;rw[bMD,bMX];refine⟨fun hm=>?_,ih h.2.1⟩;obtain⟨q,hq,e⟩:=bKX.1 hm;exact h.2.2 p.1 Ye q.1 (bOV.2 ⟨q,hq,Ye⟩) e.symm
theorem IR{n k w:Nat}{l:List (Nat×Nat)}(hn:n≤7)(hk:k≤n)(hl:l∈prs n k w):(pI l).length≤7:=by
 have ok:=n9 k w hk l hl;have h2:=rZ (l:=l.map fun p=>p.1) (m:=List.range n) (MK ok.nd) fun x hx=>by
  obtain⟨p,hp,rfl⟩:=bKX.1 hx;obtain⟨_,h2,h3,_⟩:=ok.at_ p hp;exact bMZ.2 Yd
 rw[bMK,bPD]at h2;simp only[pI,bMK];omega
def yF(n k f w b:Nat):List (List (Int×Int)):=(prs n k w++((List.range b).filter fun b=>decide (f<b)&& !w.testBit b).flatMap fun b=>(prs n k (w|||2^b)).map fun l=>(f,b)::l).map pI
theorem TK{n k f w:Nat}:yF n k f w (f+1)=(prs n k w).map pI:=by
 unfold yF;rw[List.filter_eq_nil_iff.2 fun b hb=>by have:=bMZ.1 hb;simp;omega]
 simp
theorem aSZ{n k f w b:Nat}(h:w.testBit b=true):yF n k f w (b+1)=yF n k f w b:=by
 unfold yF;rw[bMN,bMJ,bLN];simp[h]
theorem aFX{n k f w b:Nat}(hb:f<b)(h:w.testBit b=false):yF n k f w (b+1)=yF n k f w b++(prs n k (w|||2^b)).map (fun l=>pI ((f,b)::l)):=by
 unfold yF;rw[bMN,bMJ,bLN];simp[h,hb]
theorem aKW{n k f w b:Nat}(hn:n≤7)(hb:b≤n):(yF n k f w b).length≤8*8^k:=by
 unfold yF;rw[bMK,GE];have h1:=Y2 hn k w;have h2:=FT (f:=fun b=>(prs n k (w|||2^b)).map fun l=>(f,b)::l) (c:=8^k) (l:=(List.range b).filter fun b=>decide (f<b)&& !w.testBit b) fun b _=>by rw[bMK];exact Y2 hn k _
 have h3:=bMO (fun b=>decide (f<b)&& !w.testBit b) (List.range b);rw[bPD]at h3;have h4:((List.range b).filter fun b=>decide (f<b)&& !w.testBit b).length*8^k≤7*8^k:=bPJ _ Yd;omega
theorem aOF{n k f w:Nat}(hf:f+(k+1)=n)(h:w.testBit f=true):(prs n (k+1) w).map pI=(prs n k w).map pI:=by
 rw[prs,show n-(k+1)=f by omega,bLR h]
theorem aTT{n k f w:Nat}(hf:f+(k+1)=n)(h:w.testBit f=false):(prs n (k+1) w).map pI=yF n k f w n:=by
 rw[prs,show n-(k+1)=f by omega,bLI Xaf];rfl
theorem aGW{y:aZ}{t:List Pt}{ls:List (List (Int×Int))}{i:Nat}{l:List (Int×Int)}(h:ls[i]?= some l):((((ls.take (i+1)).map (lJ y t)).foldl max 0:Nat):Int)=max ((((ls.take i).map (lJ y t)).foldl max 0:Nat):Int) (lJ y t l:Int):=by
 rw[bLA,h,bLT,bLO,bMT];show((max _ _:Nat):Int)=_;omega
theorem PX{y:aZ}(Z:y.chairs.length≤7):∀(kk f:Nat),f+kk=y.chairs.length→∀(w:Nat),w<128→∀(yv:Γ) (D:aC),gU D yv y→IU prog 161 #[yv,qI (f:Int),qI (w:Int)] D (fun D' v ν=>∃vs,bD 292 1 v vs.length vs ν∧LP D' vs ((prs y.chairs.length kk w).map pI)):=by
 intro kk;induction kk using Nat.strongRecOn with
 |_ kk ih=>
 intro f hf w hw yv D hy;have hI:=hy;obtain⟨cv,qv,rfl,hc,hq⟩:=hy;have hcl:=hc.len;refine rD 72 func161 rfl rfl rfl rfl fun h0=>aA<|Zab rfl fun q1 E1 hE1 O=>Zk rfl<|bK<|Za rfl<|Zi rfl gC rfl<|Zd 0 rfl mN rfl O rfl<|Zai rfl U61 rfl hc rfl<|lR rfl rfl rfl rfl bQK<|aF<|Zag rfl (fun hc1=>?_) fun hc1=>?_
 ·obtain rfl:kk=0:=by omega
  refine aA<|S3 rfl U284 l5 NG rfl rfl rfl rfl (.cons rfl rfl .nil) rfl bQK fun b3 hacc=>Wi ?_;exact aE rfl fun D' hD=>⟨[qN],hacc,.cons Sl.nil .nil⟩
 ·obtain⟨k,rfl⟩:∃k,kk=k+1:=⟨kk-1,Yd⟩
  have hf7:f<7:=by omega
  refine aQ<|aA<|Zv rfl pN rfl O nE<|Za rfl<|Zah rfl<|Za rfl<|gG rfl rfl rfl (fun D5 hX=>ih k Yd (f+1) Yd w hw _ D5 (hI.up (hX _ Ye))) rfl bQK fun v1 D6 ν1 hD6 hY=>?_;obtain⟨hJ,hK,R⟩:=hY;refine Zk rfl<|bK<|Za rfl<|Za rfl<|uB rfl U3 U380 rfl Yf rfl bQK<|W2 rfl rfl rfl Yd rfl bQK<|C4 rfl rfl rfl (bPQ _) Yd Yf rfl bQK<|Zaw rfl<|aF<|Zag rfl (fun hc2=>?_) fun hc2=>?_
  ·have hbf:w.testBit f=true:=aCY hc2;refine aA<|Za rfl<|Zk rfl<|aG<|Za2<|yG ν1 Ye ?_;have ha1x:=hK;exact aE rfl fun D' hD=>⟨hJ,ha1x,by rw[aOF hf hbf];exact R.up (hD _ Ye)⟩
  ·have hbf:w.testBit f=false:=TC hc2;refine aQ<|bM<|Za rfl<|Zah rfl<|Zk rfl<|aF<|Za3<|hU (γ:=Nat×Γ×List Γ×aD×aC) (fun g=>y.chairs.length-g.1) (fun g=>f+1≤g.1∧g.1≤y.chairs.length∧bD 292 1 g.2.1 g.2.2.1.length g.2.2.1 g.2.2.2.1∧LP g.2.2.2.2 g.2.2.1 ((yF y.chairs.length k f w g.1))) (fun g=>[(8,qI (g.1:Int)),(7,g.2.1)]) [(6,_),(3,_),(1,_),(2,_)] (fun g=>g.2.2.2.1++[]) (fun g=>[g.2.2.2.2,E1,D]) (f+1,v1,hJ,ν1,D6) ⟨Ye,Yl,hK,by simp only;rw[TK];exact R⟩ ⟨Ya,Ya,bQK⟩ cR (Ye) ((fun D0 h=>by simp only[bNA,n4,bND]at h;rcases h with h|h|h;exact⟨D6,Ye,h▸Le.refl _⟩;exact⟨E1,Ye,h▸Le.refl _⟩;exact⟨D,Ye,h▸Le.refl _⟩)) ?_
   rintro⟨b,v,vs,ν,Dn⟩ ⟨h0,h1,ha,hla⟩;simp only at h0 h1 ha hla;have hpl:=aKW (n:=y.chairs.length) (k:=k) (f:=f) (w:=w) (b:=b) Z h1;have hpw:=bKT (show k≤6 by omega);have hvl:=hla.len;refine bM<|Za rfl<|Zi rfl gC rfl<|Zd 0 rfl mN rfl O rfl<|Zai rfl U61 rfl hc rfl<|Zan rfl<|aF<|Zag rfl (fun hc3=>?_) fun hc3=>?_
   ·have hbn:b<y.chairs.length:=by simp only at hc3;omega
    have rA:b<7:=by omega
    have hpb:=BK rA;refine aQ<|Za5<|Za3<|bM<|Za rfl<|Za rfl<|uB rfl U3 U380 rfl Yf rfl bQK<|W2 rfl rfl rfl Yai rfl bQK<|C4 rfl rfl rfl (bPQ _) Yd Yf rfl bQK<|Zaw rfl<|aF<|Zag rfl (fun hB=>?_) fun hB=>?_
    ·have hbw:w.testBit b=true:=aCY hB;refine Za8<|Za4<|Za9<|Za1<|aP<|Za rfl<|Wbx ?_;exact aI 16 (b+1,v,vs,ν,Dn) ⟨Yl,Yl,ha,by simp only;rw[aSZ hbw];exact hla⟩ Yl ⟨Ya,Ya,bQK⟩ rfl rfl Mm5 Yaf
    ·have hbw:w.testBit b=false:=TC hB;have hql:=Y2 Z k (w|||2^b);refine aQ<|aA<|Zv rfl pN rfl O nE<|Za rfl<|Zah rfl<|Za rfl<|Za rfl<|uB rfl U3 U380 rfl Yf rfl bQK<|BQ rfl rfl rfl Yai rfl bQK<|IZ rfl rfl rfl Yai Yai rfl bQK<|gG rfl rfl rfl (fun D7 rB=>ih k Yd (f+1) Yd (w|||2^b) (aAP hw hpb) _ D7 (hI.up (rB _ Ye))) rfl bQK fun v2 D8 ν2 hD8 hp8=>?_;obtain⟨vs2,ha2,U⟩:=hp8;refine Zk rfl<|bS<|rF (A:=[]) (B:=ν++[]) ha2 rfl fun D9 hN hF9=>?_;have hsl:=hF9.plists (U.up (hN _ Ye)) rfl (by have:=U.len;rw[bMK]at this;omega)
     have hll:=hsl.len;refine aP<|Zk rfl<|aF<|Za3<|hU (γ:=Nat×Γ×List Γ×aD×aC) (fun g=>(prs y.chairs.length k (w|||2^b)).length-g.1) (fun g=>g.1≤(prs y.chairs.length k (w|||2^b)).length∧bD 292 1 g.2.1 g.2.2.1.length g.2.2.1 g.2.2.2.1∧LP g.2.2.2.2 g.2.2.1 ((yF y.chairs.length k f w b)++((prs y.chairs.length k (w|||2^b)).take g.1).map fun l=>pI ((f,b)::l))) (fun g=>[(10,qI (g.1:Int)),(7,g.2.1)]) [(9,_),(52,_),(51,_),(50,_),(49,_),(48,_),(47,_),(46,_),(45,_),(44,_),(43,_),(42,_),(41,_),(40,_),(39,_),(38,_),(35,_),(34,_),(33,_),(32,_),(31,_),(8,_),(6,_),(3,_),(1,_),(2,_)] (fun g=>g.2.2.2.1++[]) (fun g=>[g.2.2.2.2,D9,E1,D]) (0,v,vs,ν,D9) ⟨Ye,ha,by simpa using hla.up (hN Dn Ye)⟩ ⟨Ya,Ya,bQK⟩ cR (Ye) ((fun D0 h=>by simp only[bNA,n4,bND]at h;rcases h with h|h|h|h;exact⟨D9,Ye,h▸Le.refl _⟩;exact⟨D9,Ye,h▸Le.refl _⟩;exact⟨E1,Ye,h▸Le.refl _⟩;exact⟨D,Ye,h▸Le.refl _⟩)) ?_
     rintro⟨i,v,vs,ν,Dn⟩ ⟨h2,ha,hla⟩;simp only at h2 ha hla;have hvl:=hla.len;rw[GE,bMK,bMV]at hvl;refine bM<|Za rfl<|Za rfl<|Zai rfl U284 rfl hsl rfl<|Zan rfl<|aF<|Zag rfl (fun hE=>?_) fun hE=>?_
     ·have hi:i<(prs y.chairs.length k (w|||2^b)).length:=by simp only[bMK]at hE;omega
      obtain⟨l,hF⟩:=cB (prs y.chairs.length k (w|||2^b)) i;have hl1:((prs y.chairs.length k (w|||2^b)).map pI)[i]?= some (pI l):=by rw[bMI,hF];rfl
      have V:(pI l).length≤7:=IR Z Yd (GT hF);refine aQ<|Za5<|Za3<|aP<|Za rfl<|Za rfl<|Za rfl<|Zt [qI (f:Int),qI (b:Int)] rfl aXZ PM rfl<|S3 rfl U292 BP PM rfl rfl rfl rfl (.cons rfl rfl .nil) rfl bQK fun b3 hacc=>Za rfl<|Za rfl<|Zw rfl U284 l5 rfl hsl rfl hl1 fun b1 o1 cs1 hr1 hcl1 hA1=>?_;obtain⟨w1,rfl,hw1⟩:=hr1;refine Zd 0 rfl aCA rfl hA1 rfl<|aU ([]++[(_,_)]++(ν++[])) rfl<|aR (A:=[]) (ν:=[(_,_)]) (B:=ν++[]) rfl U292 rfl rfl BP PM rfl aYZ rfl rfl rfl hacc (iL.of (cells:=fun p:Int×Int=>[qI p.1,qI p.2]) (fun _ _ _ h=>h) (fun _=>rfl) hw1) Ye (vE _) rfl (KO _) (by have:=V;omega) (bLL rfl) rfl bQK fun v8 ν8 hO=>?_
      have ha8':bD 381 2 v8 (pI ((f,b)::l)).length (HC (pI ((f,b)::l))) ν8:=by simpa [HC,pI,Nat.add_comm]using hO
      refine SR (A:=[]) (B:=ν++[]) ha8' rfl fun D10 hD10 hP=>?_;have hR:=hP.prs rfl (by simp[pI];have:=V;simp[pI]at this;omega)
      refine Zu rfl U284 l5 NG rfl (.cons hO.cells1 rfl .nil) (fun b901 Y I hH=>aR (A:=[]) (B:=[]) rfl U284 rfl rfl l5 NG rfl bCJ rfl rfl rfl ha (iL.lit hH) Ye rfl Ye (by simpa using hR.cell1) (by have:=hla.len;omega) (bLL rfl) rfl bQK fun v7 ν7 ha7=>?_);have hS:=(hla.up (I Dn Ye)).snoc (hR.up R2.up (I D10 Ye));refine Wz ?_;exact aI 22 (i+1,v7,vs++[v8],ν7,Y) ⟨Yl,by simpa using ha7,by simp only;rw[bLA,hF,bLT,bLO,←bLK];exact hS⟩ Yl ⟨Ya,Ya,bQK⟩ rfl rfl Mm5 fun D0 h=>by simp only[bNA,n4,bND]at h;rcases h with h|h|h|h;exact⟨Y,Ye,h▸Le.refl _⟩;exact⟨D9,Ye,h▸Le.refl _⟩;exact⟨E1,Ye,h▸Le.refl _⟩;exact⟨D,Ye,h▸Le.refl _⟩
     ·obtain rfl:i=(prs y.chairs.length k (w|||2^b)).length:=by simp only[bMK]at hE;omega
      rw[bLU]at hla;refine Wbq ?_;exact aI 31 (b+1,v,vs,ν,Dn) ⟨Yl,Yl,ha,by simp only;rw[aFX Yd hbw];exact hla⟩ Yl ⟨Ya,Ya,bQK⟩ rfl rfl Mm5 Yaf
   ·obtain rfl:b=y.chairs.length:=by simp only at hc3;omega
    refine Za8<|Za4<|Za4<|Za9<|Za1<|aA<|Za rfl<|Zk rfl<|aG<|yG ν Ye ?_;have hax:=ha;exact aE rfl fun D' hD=>⟨vs,hax,by rw[aTT hf hbf];exact hla.up (hD _ Ye)⟩
theorem RJ{y:aZ}(I:y.chairs.length≤7)(yv:Γ)(D:aC)(hy:gU D yv y):Fn prog 161 #[yv,qI 0,qI 0] D (fun D' v=>Sl D' bIE 1 v ((prs y.chairs.length y.chairs.length 0).map pI)):=
 (PX I y.chairs.length 0 Yd 0 Yd yv D hy).fn (e:=292) (sz:=1) fun D' v ν ⟨vs,ha,hla⟩=>⟨vs.length,vs,ha,fun D'' hl hF=>hF.plists (hla.up hl) rfl (by have:=hla.len;have:=Y2 I y.chairs.length 0;have:=bJI I;simp at *;omega)⟩
theorem bCU(yv tv sv:Γ)(y:aZ)(t:List Pt)(ls:List (List (Int×Int)))(D:aC)(hy:gU D yv y)(ht:Sl D RP 3 tv t)(hs:Sl D bIE 1 sv ls)(hyo:bDM y)(hlen:t.length=y.chairs.length)(hb:∀p∈t,wI p)(hp:∀l∈ls,(∀p∈l,∃x z:Nat,p=((x:Int),(z:Int))∧x<t.length∧z<t.length)∧l.length≤1000):Fn prog 163 #[yv,tv,sv] D (fun _ v=>v=qI ((ls.map (lJ y t)).foldl max 0:Nat)):=by
 have R:=hy;obtain⟨cv,qv,rfl,hc,hq⟩:=hy;have hsl:=hs.len;refine Zx 25 func163 rfl fun h0=>aA<|Zab rfl fun q1 E1 hE U=>Zk rfl<|aL<|Zk rfl<|bK<|Zk rfl<|aF<|Za3<|dW (γ:=Nat) (fun i=>ls.length-i) (fun i=>i≤ls.length) (fun i=>[(8,qI (i:Int)),(7,qI (((ls.take i).map (lJ y t)).foldl max 0:Nat))]) [(6,_),(3,_),(1,_),(2,_)] (fun i=>[E1,D]) 0 Yd ⟨Ya,Ya,bQK⟩ cR (aK) ?_;rintro i h1;refine bM<|Za rfl<|Za rfl<|Zai rfl U284 rfl hs rfl<|Zan rfl<|aF<|Zag rfl (fun hc1=>?_) fun hc1=>?_
 ·have hi:i<ls.length:=by omega
  obtain⟨l,I⟩:=cB ls i;refine aQ<|Za5<|Za3<|bE [] 4 10 254<|Za rfl<|Zv rfl pN rfl U nE<|Za rfl<|Za rfl<|Za rfl<|Zw rfl U284 l5 rfl hs rfl I fun b1 o1 hF V hB Y=>?_;obtain⟨w1,rfl,Z⟩:=V;refine Zd 0 rfl aCA rfl Y rfl<|Zf rfl (fun D1 O=>aQR _ _ _ y t l _ (R.up (O _ Ye)) (ht.up RP.up (O _ Ye)) (Z.up R2.up (O _ Ye)) hyo hlen hb (hp l (GT I)).1 (hp l (GT I)).2)<|qF rfl rfl rfl rfl bQK<|Wz ?_;exact aI 19 (i+1) Yd Yd ⟨Ya,(by rw[aGW I];rfl),bQK⟩ rfl rfl Mm5 (aK)
 ·obtain rfl:i=ls.length:=by omega
  rw[bLU];refine Wn ?_;exact aE rfl fun D hD=>rfl
theorem aSA(l:List (Int×Int))(n:Nat)(h:l.length=n):(HC l).length=n*2:=by rw[vE,h]
def aYN(l:List Pt):List Γ:=l.flatMap fun p=>[qI p.a,qI p.b,qI p.c]
theorem aOB(l:List Pt)(p:Pt):aYN (l++[p])=aYN l++[qI p.a,qI p.b,qI p.c]:=by simp[aYN]
theorem aSY{α:Type}{f:α→List Γ}{k:Nat}(hf:∀x,(f x).length=k)(l:List α):(l.flatMap f).length=l.length*k:=by
 induction l with
 |nil=>simp
 |cons c l ih=>rw[bMA,GE,ih,hf,bLF,bNV];omega
theorem j7{α:Type}{f:α→List Γ}{k:Nat}(hf:∀x,(f x).length=k){l:List α}{i:Nat}{c:α}(hi:l[i]?= some c):((l.flatMap f).drop (i*k)).take k=f c:=by
  induction l generalizing i with
  |nil=>simp at hi
  |cons d l ih=>
    rw[bMA];cases i with
    | zero => obtain rfl : d = c := by simpa using hi
              rw[bPG,bOY,bMP (by rw[hf];omega),bLZ (by rw[hf];omega)]
    |succ i=>
      rw[bPH,bMQ (by rw[hf,bNV];omega),bMH];have:(i+1)*k-(f d).length=i*k:=by rw[hf,bNV];omega
      rw[this];exact ih Yau
theorem aMW(l:List Pt)(n:Nat)(h:l.length=n):(aYN l).length=n*3:=by rw[aYN,aSY (k:=3) fun _=>rfl,h]
theorem _root_.Go.Fs.kN.pts{D:aC}{v:Γ}{n:Nat}{l:List Pt}(hF:kN D v n (aYN l))(hn:l.length=n)(hb:n≤9223372036854775807):Sl D RP 3 v l:=
 hF.sl hn hb fun _i _t hi=>⟨_,rfl,rfl,j7 (k:=3) (fun _=>rfl) hi⟩
def aVM(l:List Ch):List Γ:=l.flatMap fun c=>[qI c.size,qI c.parts.a,qI c.parts.b,qI c.parts.c]
theorem aOV(l:List Ch)(c:Ch):aVM (l++[c])=aVM l++[qI c.size,qI c.parts.a,qI c.parts.b,qI c.parts.c]:=by simp[aVM]
theorem aQX(l:List Ch)(n:Nat)(h:l.length=n):(aVM l).length=n*4:=by rw[aVM,aSY (k:=4) fun _=>rfl,h]
theorem _root_.Go.Fs.kN.chs{D:aC}{v:Γ}{n:Nat}{l:List Ch}(hF:kN D v n (aVM l))(hn:l.length=n)(hb:n≤9223372036854775807):Sl D xW 4 v l:=
 hF.sl hn hb fun _i _t hi=>⟨_,rfl,rfl,j7 (k:=4) (fun _=>rfl) hi⟩
theorem bJB(p:Int×Int)(D:aC):Fn prog 115 #[mH p] D (fun _ v=>v=mH p):=by
 obtain⟨lo,hi⟩:=p;unfold mH;refine Zx 8 func115 rfl fun h0=>aA<|Zab rfl fun R E1 O I=>Zad rfl kR rfl fun U=>aL<|Zi rfl JU rfl<|Zd 0 rfl aH rfl I rfl<|Zi rfl KL rfl<|Zd 1 rfl aH rfl I rfl<|Zt [qI lo,qI hi] rfl t7 kR rfl<|Zy rfl cY ζ<|aG ?_;exact Zo [_] rfl ⟨⟨_,_,_,rfl,Mm0,Or.inr ⟨oA,Xap,rfl⟩⟩,bQK⟩ fun D hD=>rfl
theorem WK{a b:Γ}{m:Int}(ha:∀u∈[a],cell1 u=true)(hb:∀u∈[b],cell1 u=true):∀u∈[a,qI m,b],cell1 u=true:=by
 intro u hu;simp only[bNA,n4,bND]at hu;rcases hu with rfl|rfl|rfl
 ·exact ha _ bKZ
 ·rfl
 ·exact hb _ bKZ
theorem aRT(yv:Γ)(y:aZ)(D:aC)(hy:gU D yv y)(h1:y.chairs.length≤100)(h2:y.claims.length≤100):Fn prog 48 #[yv] D (fun D' v=>gU D' v y):=by
 obtain⟨cv,qv,rfl,hc,hq⟩:=hy;have hlp:=h1;have hlc:=h2;refine Zx 53 func48 rfl fun h0=>aA<|Zab rfl fun q1 E1 hE1 O=>Zad rfl ZC rfl fun q2=>aL<|Zi rfl yC rfl<|Zd 1 rfl aH rfl O rfl<|Zt [qN,qI y.fit,qN] rfl bET ZC rfl<|Zad rfl ZC rfl fun q3=>Zy rfl jA ζ<|bK<|Zk rfl ?_;refine aF<|Za3<|Zc (Nat×Γ×aD) (fun g=>y.chairs.length-g.1) (fun g=>g.1≤y.chairs.length∧bD 212 4 g.2.1 g.1 (aVM (y.chairs.take g.1)) g.2.2) (fun g=>[(4,qI (g.1:Int))]) [(3,_),(2,_),(1,_)] (fun g=>(q3,qC [g.2.1,qI y.fit,qN] 40)::(q2,qC [qN,qI 0,qN] 40)::(g.2.2++[])) (fun g=>[E1,D]) (0,qN,[]) ⟨Ye,by simpa [aVM,HC]using bD.nil⟩ ⟨Ya,bQK⟩ Mm5 ?_;rintro⟨k,w1,ν⟩ ⟨R,ha⟩;simp only at R ha;refine bM<|Za rfl<|Zi rfl gC rfl<|Zd 0 rfl mN rfl O rfl<|Zai rfl U61 rfl hc rfl<|Zan rfl<|aF<|Zag rfl (fun hc1=>?_) fun hc1=>?_
 ·have hk:k<y.chairs.length:=by omega
  obtain⟨x,hx⟩:=cB y.chairs k;refine aQ<|Za5<|Za3<|bE [] 7 19 65532<|Zi rfl eO rfl<|Zp rfl kS rfl Mm0 rfl<|Zi rfl gC rfl<|Zd 0 rfl mN rfl O rfl<|Za rfl<|Zw rfl U61 oX rfl hc rfl hx fun b1 o1 hE hH rA hI=>?_;obtain rfl:hE=[qI _,qI _,qI _,qI _]:=hH;refine Zi rfl zH rfl<|Zd 0 rfl aH rfl hI rfl<|Zi rfl gC rfl<|Zd 0 rfl mN rfl O rfl<|Za rfl<|Zw rfl U61 oX rfl hc rfl hx fun b2 o2 hJ hK rB hN=>?_;obtain rfl:hJ=[qI _,qI _,qI _,qI _]:=hK;refine Zi rfl P1 rfl<|Zam 1 rfl sI fD rfl hN rfl<|Zt [qI x.size,qI x.parts.a,qI x.parts.b,qI x.parts.c] rfl aCG uD rfl<|Zu rfl U37 iX uD rfl (.cons rfl rfl .nil) fun b901 D901 hO U=>aR (A:=[(_,_),(_,_)]) (B:=[]) rfl U37 rfl rfl iX uD rfl NZ rfl rfl rfl ha (iL.lit U) Ye rfl (aQX _ _ Yaq) Yk Yd (bLL rfl) rfl bQK fun Z ν7 I=>?_;have V:bD 212 4 Z (k+1) (aVM (y.chairs.take (k+1))) ν7:=by rw[bLA,hx,bLT,aOV];simpa using I
  refine Zi rfl eO rfl<|bP rfl rfl rfl I.cells1 OD ζ Ye rfl I.cell1 bQK<|Zap<|Wa ?_;exact aI 27 (k+1,Z,ν7) ⟨Yl,V⟩ Yl ⟨Ya,bQK⟩ rfl rfl Mm5 fun D h=>⟨D,bLP _ (h),Le.refl D⟩
 ·obtain rfl:k=y.chairs.length:=by omega
  rw[bLU]at ha;refine Za8<|Za4<|Za4<|Za9<|Za1<|Za5<|Za5<|rF (A:=[(_,_),(_,_)]) (B:=[]) ha rfl fun D8 hD8 hP=>?_;clear R;have hcz:=hP.chs rfl Yd;have hB:=hcz.cell1;clear ha;refine aP<|Zk rfl<|aF<|Za3<|Zc (Nat×Γ×aD) (fun g=>y.claims.length-g.1) (fun g=>g.1≤y.claims.length∧bD 90 2 g.2.1 g.1 (HC (y.claims.take g.1)) g.2.2) (fun g=>[(5,qI (g.1:Int))]) [(3,_),(2,_),(1,_)] (fun g=>(q3,qC [w1,qI y.fit,g.2.1] 40)::(q2,qC [qN,qI 0,qN] 40)::(g.2.2++[])) (fun g=>[D8,E1,D]) (0,qN,[]) ⟨Ye,by simpa [aVM,HC]using bD.nil⟩ ⟨Ya,bQK⟩ Mm5 ?_;rintro⟨k,v,ν⟩ ⟨R,ha⟩;simp only at R ha;refine bM<|Za rfl<|Zi rfl jT rfl<|Zd 2 rfl tI rfl O rfl<|Zai rfl U62 rfl hq rfl<|Zan rfl<|aF<|Zag rfl (fun hc2=>?_) fun hc2=>?_
  ·have hk:k<y.claims.length:=by omega
   obtain⟨x,hx⟩:=cB y.claims k;refine aQ<|Za5<|Za3<|bE [] 5 12 508<|Zi rfl hZ rfl<|Zp rfl qE rfl Mm0 rfl<|Zi rfl jT rfl<|Zd 2 rfl tI rfl O rfl<|Za rfl<|Zw rfl U62 sH rfl hq rfl hx fun b3 o3 hR hS hcl3 hX=>?_;obtain rfl:hR=[qI _,qI _]:=hS;refine Zv rfl aWO rfl hX sH<|Zf rfl (fun D1 hD1=>bJB x _)<|Zu rfl U38 cY kR rfl (.cons rfl rfl .nil) fun b902 D902 hY Y=>aR (A:=[(_,_),(_,_)]) (B:=[]) rfl U38 rfl rfl cY kR rfl XK rfl rfl rfl ha (iL.lit Y) Ye rfl (aSA _ _ Yaq) Yk Yd (bLL rfl) rfl bQK fun Z ν7 I=>?_;have V:bD 90 2 Z (k+1) (HC (y.claims.take (k+1))) ν7:=by rw[bLA,hx,bLT,FP];simpa using I
   refine Zi rfl hZ rfl<|bP rfl rfl rfl I.cells1 DV ζ Ye rfl I.cell1 bQK<|Zap<|Wa ?_;exact aI 20 (k+1,Z,ν7) ⟨Yl,V⟩ Yl ⟨Ya,bQK⟩ rfl rfl Mm5 fun D h=>⟨D,bLP _ (h),Le.refl D⟩
  ·obtain rfl:k=y.claims.length:=by omega
   rw[bLU]at ha;refine Za8<|Za4<|Za4<|Za9<|Za1<|aA<|Zae rfl kP rfl Mm0 jA<|Zz rfl jA (.tail ζ) (WK hB ha.cell1)<|aG<|Zar [(_,_),(_,_)] [] ha rfl fun D2 hD2 hF=>?_;exact Zo [_] rfl ⟨⟨_,_,_,rfl,Mm1,bLG ⟨kP,jA,rfl⟩⟩,bQK⟩ fun D' hD=>⟨_,v,rfl,hcz.up xW.up (hD _ Ye),(hF.prs rfl Yd).up R2.up (hD _ Ye)⟩
theorem KU(y:aZ)(t:List Pt)(a b:Nat):kV y t a b=kV y t b a:=by
 unfold kV;cases t[a]? <;>cases t[b]? <;>cases y.chairs[a]? <;>cases y.chairs[b]? <;>try rfl
 rename_i p q x z;simp only;rw[aGA,aAD,show decide ((b:Int)≠a)=decide ((a:Int)≠b)from decide_eq_decide.2 ⟨fun h e=>h e.symm,fun h e=>h e.symm⟩]
theorem MU{y:aZ}{t:List Pt}{a b:Nat}(h:kV y t a b=true):a<t.length∧b<t.length∧mA t a=true∧mA t b=true:=by
 unfold kV at h;split at h
 ·rename_i p q x z hp hq _ _;simp only[R1,bKW]at h;refine⟨(bLD.1 hp).1,(bLD.1 hq).1,?_,?_⟩
  ·unfold mA;rw[hp];exact h.2.1.1
  ·unfold mA;rw[hq];exact h.2.1.2
 ·simp at h
theorem aCL{y:aZ}{t:List Pt}(I:t.length≤7):fB (dO y t).fits=kV y t:=by
 funext a b;unfold fB dO;simp only[bNG,bMI];by_cases ha:a<7
 ·rw[bPN ha,bMS,bOQ,oU];cases e:kV y t a b with
  |false=>simp
  |true=>simp[(MU e).2.1]
 ·rw[bNX Yaq];cases e:kV y t a b with
  |false=>simp
  |true=>have:=(MU e).1;omega
theorem YF{y:aZ}{t:List Pt}{a b:Nat}(h:kV y t a b=true):(dO y t).broken.testBit a=true∧(dO y t).broken.testBit b=true:=by
 obtain⟨h1,h2,h3,h4⟩:=MU h;simp only[dO,oU];simp[h1,h2,h3,h4]
theorem bJD{y:aZ}{t:List Pt}(hl:t.length=y.chairs.length)(I:t.length≤7):HY (kV y t) (dO y t).broken.testBit (AS (dO y t).fits y.chairs.length (dO y t).broken):=by
 have:=ZH (F:=(dO y t).fits) (n:=y.chairs.length) (fun a b=>by rw[aCL I];exact KU y t a b) _ (dO y t).broken (bLQ _) (N6 hl I).bits
 rwa [aCL I]at this
theorem Y7{α:Type}(f:α→Nat)(w:Nat):∀(l:List α) (m:Nat),(l.map fun x=>w+f x).foldl max (w+m)=w+(l.map f).foldl max m
 | [],m=>rfl
 |x::l,m=>by
  rw[bMD,bMD,bME,bME,show max (w+m) (w+f x)=w+max m (f x) by omega];exact Y7 f w l _
theorem HO{α:Type}(f:α→Nat)(w:Nat){l:List α}(h:l≠[]):(l.map fun x=>w+f x).foldl max 0=w+(l.map f).foldl max 0:=by
 cases l with
 |nil=>exact absurd rfl h
 |cons x l=>
  rw[bMD,bMD,bME,bME,show max 0 (w+f x)=w+max 0 (f x) by omega];exact Y7 f w l _
theorem aKF(y:aZ)(t:List Pt)(l:List (Nat×Nat)):lJ y t (pI l)=whole t+aIO (kV y t) l:=by
 unfold lJ aIO pI;rw[List.filter_map,bMK];rfl
theorem bGZ(n k w:Nat)(h:k≤n):prs n k w≠[]:=fun e=>by
 obtain⟨l,hl,_⟩:=CR k w h [] ⟨Ye,by simp[qV]⟩;rw[e]at hl;simp at hl
theorem bAB{y:aZ}{t:List Pt}(hl:t.length=y.chairs.length)(I:t.length≤7):(((prs y.chairs.length y.chairs.length 0).map pI).map (lJ y t)).foldl max 0=C5 y t:=by
 rw[bPP,show(lJ y t∘pI)=fun l=>whole t+aIO (kV y t) l from funext fun l=>aKF y t l,HO _ _ (bGZ _ _ _ (bLQ _)),
  aRW (KU y t) (fun a b h=>YF h) (N6 hl I).bits (bJD hl I)]
 rfl
theorem bFT{n m:Nat}(hn:n≤7)(hm:m=n):∀l∈(prs n n 0).map pI,(∀p∈l,∃x z:Nat,p=((x:Int),(z:Int))∧x<m∧z<m)∧l.length≤1000:=by
 intro l hl;obtain⟨l',hl',rfl⟩:=bKX.1 hl;have ok:=n9 n 0 (bLQ _) l' hl';refine⟨fun p hp=>?_,by have:=IR hn (bLQ _) hl';omega⟩
 obtain⟨q,hq,rfl⟩:=bKX.1 hp;obtain⟨_,h2,h3,_⟩:=ok.at_ q hq;exact⟨q.1,q.2,rfl,Yd,Yd⟩
def HJ(st:List Int×Nat)(j:Nat):List Int×Nat:=if st.1[j]?= some 2 then(st.1.set j ((st.2:Int)%2),st.2 / 2)else st
def yH(l:List Int)(m k:Nat):List Int×Nat:=(List.range k).foldl HJ (l,m)
theorem sC(l:List Int)(m k:Nat):yH l m (k+1)=HJ (yH l m k) k:=by unfold yH;rw[bMN,bMT];rfl
theorem aPH{l:List Int}{m k:Nat}(h:(yH l m k).1[k]?= some 2):yH l m (k+1)=((yH l m k).1.set k (((yH l m k).2:Int)%2),(yH l m k).2 / 2):=by rw[sC,HJ,bLR h]
theorem aXO{l:List Int}{m k:Nat}(h:(yH l m k).1[k]?≠some 2):yH l m (k+1)=yH l m k:=by rw[sC,HJ,bLI h]
theorem QS(l:List Int)(m:Nat):∀k,(yH l m k).1.length=l.length
 |0=>rfl
 |k+1=>by rw[sC,HJ];split<;>simp[QS l m k]
theorem aCZ(l:List Int)(m:Nat):∀k,(yH l m k).2≤m
 |0=>bLQ _
 |k+1=>by
  have:=aCZ l m k;rw[sC,HJ];split
  ·simp only;omega
  ·exact this
def p1(x:Int)(m:Nat):Int×Nat:=if x=2 then((m:Int)%2,m / 2)else(x,m)
def p3(p:Pt)(m:Nat):Pt×Nat:=(⟨(p1 p.a m).1,(p1 p.b (p1 p.a m).2).1,(p1 p.c (p1 p.b (p1 p.a m).2).2).1⟩,(p1 p.c (p1 p.b (p1 p.a m).2).2).2)
theorem bHI(p:Pt)(m:Nat):yH p.l m 3=((p3 p m).1.l,(p3 p m).2):=by
 rw[sC,sC,sC];show HJ (HJ (HJ (p.l,m) 0) 1) 2=_;unfold HJ p3 p1 Pt.l;by_cases ha:p.a=2<;>by_cases hb:p.b=2<;>by_cases hc:p.c=2<;>simp[ha,hb,hc]
theorem aVK(x:Int)(m:Nat):(p1 x m).2≤m:=by unfold p1;split<;>(simp only;omega)
theorem bJQ(p:Pt)(m:Nat):(p3 p m).2≤m:=bNK (aVK _ _) (bNK (aVK _ _) (aVK _ _))
def aLU(st:List Pt×Nat)(c:Ch):List Pt×Nat:=(st.1++[(p3 c.parts st.2).1],(p3 c.parts st.2).2)
def G0(l:List Ch)(n:Nat):List Pt×Nat:=l.foldl aLU ([],n)
theorem MB{l:List Ch}{n i:Nat}{x:Ch}(h:l[i]?= some x):G0 (l.take (i+1)) n=((G0 (l.take i) n).1++[(p3 x.parts (G0 (l.take i) n).2).1],(p3 x.parts (G0 (l.take i) n).2).2):=by
 unfold G0;rw[bLA,h,bLT,bMT];rfl
theorem VY:∀(l:List Ch) (st:List Pt×Nat),(l.foldl aLU st).1.length=st.1.length+l.length
 | [],st=>by simp
 |c::l,st=>by rw[bME,VY l];simp[aLU];omega
theorem FN(l:List Ch)(n:Nat):(G0 l n).1.length=l.length:=by unfold G0;rw[VY];simp
theorem aDY:∀(l:List Ch) (st:List Pt×Nat),(l.foldl aLU st).2≤st.2
 | [],st=>bLQ _
 |c::l,st=>by rw[bME];exact bNK (aDY l _) (bJQ _ _)
theorem aVS(l:List Ch)(n:Nat):(G0 l n).2≤n:=aDY l _
theorem bGC(yv:Γ)(y:aZ)(n:Nat)(D:aC)(hy:gU D yv y)(hN:y.chairs.length≤1000)(hn:n≤1000000):Fn prog 164 #[yv,qI (n:Int)] D (fun D' v=>Sl D' RP 3 v (G0 y.chairs n).1):=by
 obtain⟨cv,qv,rfl,hc,hq⟩:=hy;have hcl:=hc.len;refine Zx 41 func164 rfl (fun h0=>aA<|Zab rfl fun q1 E1 hO O=>Zk rfl<|aL<|Zk rfl<|bK<|Zk rfl<|aF<|Za3<|Zc (Nat×Γ×aD×Nat) (fun g=>y.chairs.length-g.1) (fun g=>g.1≤y.chairs.length∧bD 232 3 g.2.1 g.1 (aYN (G0 (y.chairs.take g.1) n).1) g.2.2.1∧g.2.2.2=(G0 (y.chairs.take g.1) n).2) (fun g=>[(1,qI (g.2.2.2:Int)),(5,g.2.1),(6,qI (g.1:Int))]) [(4,_),(2,_)] (fun g=>g.2.2.1++[]) (fun g=>[E1,D]) (0,qN,[],n) ⟨Ye,by simpa [aYN,G0]using bD.nil,rfl⟩ ⟨Ya,Ya,Ya,bQK⟩ Mm5 ?_);rintro⟨i,v,ν,m⟩ ⟨h1,ha,hm⟩;simp only at h1 ha hm;refine bM<|Za rfl<|Zi rfl gC rfl<|Zd 0 rfl mN rfl O rfl<|Zai rfl U61 rfl hc rfl<|Zan rfl<|aF<|Zag rfl (fun hc1=>?_) fun hc1=>?_
 ·have hi:i<y.chairs.length:=by omega
  obtain⟨x,hx⟩:=cB y.chairs i;have hmn:=aVS (y.chairs.take i) n;rw[←hm]at hmn;refine aQ<|Za5<|Za3<|aA<|Zi rfl gC rfl<|Zd 0 rfl mN rfl O rfl<|Za rfl<|Zw rfl U61 oX rfl hc rfl hx fun b1 o1 U V hI Y=>?_;obtain rfl:U=[qI _,qI _,qI _,qI _]:=V;refine Zi rfl P1 rfl<|Zam 1 rfl sI fD rfl Y rfl<|Zad rfl wR rfl fun q2=>Zy rfl fD ζ<|bK<|Zk rfl<|aF<|Za3<|hU (γ:=Nat) (fun k=>3-k) (fun k=>k≤3) (fun k=>[(1,qI ((yH x.parts.l m k).2:Int)),(8,qI (k:Int))]) [(7,_),(21,_),(20,_),(19,_),(18,_),(17,_),(16,_),(13,_),(12,_),(11,_),(10,_),(9,_),(5,_),(6,_),(4,_),(2,_)] (fun k=>(q2,qC (ints (yH x.parts.l m k).1) 232)::(ν++[])) (fun k=>[E1,D]) 0 Yd ⟨Ya,Ya,bQK⟩ cR Mm5 (aK) ?_;rintro k h2;refine bM<|Za rfl<|Zan rfl<|aF<|Zag rfl (fun hc2=>?_) fun hc2=>?_
  ·have hk:k<3:=by omega
   have hkl:=QS x.parts.l m k;have hkm:=aCZ x.parts.l m k;have hP:x.parts.l.length=3:=rfl;obtain⟨w,hw⟩:∃w,(yH x.parts.l m k).1[k]?= some w:=⟨_,bLB Yd⟩
   refine aQ<|Za5<|Za3<|aA<|Za rfl<|cA rfl U232 aJ rfl rfl Yd Yd rfl bQK<|bG rfl aH rfl Mm0 (cN hw) n4 rfl bQK<|Zaw rfl<|aF<|Zag rfl (fun hc3=>?_) fun hc3=>?_
   ·have Z:w=2:=hc3;refine aA<|Za rfl<|Za rfl<|C4 rfl rfl rfl Yd Yd Yf rfl bQK<|cA rfl U232 aJ rfl rfl Yd Yd rfl bQK<|Z3 rfl aJ rfl rfl ζ (by rw[bMR,hkl];exact hk) bQK<|aF<|aP<|Za rfl<|UF rfl rfl rfl Yd Yd Yf rfl bQK<|Zk rfl<|Zap ?_;refine Wa ?_;have R:=aPH (l:=x.parts.l) (m:=m) (k:=k) (Z▸hw);rw[show(yH x.parts.l m k).1.set (k:Int).toNat (((yH x.parts.l m k).2:Int)%2)=(yH x.parts.l m (k+1)).1 by rw[R];rfl]
    exact aI 18 (k+1) Yd Yd ⟨(by rw[R];rfl),Ya,bQK⟩ rfl rfl Mm5 (aK)
   ·refine Wbv ?_;have R:=aXO (l:=x.parts.l) (m:=m) (k:=k) fun e=>hc3 (bLY (hw.symm.trans e));rw[←R];exact aI 11 (k+1) Yd Yd ⟨rfl,Ya,bQK⟩ rfl rfl Mm5 (aK)
  ·obtain rfl:k=3:=by omega
   rw[bHI];refine Za8<|Za4<|Za4<|Za9<|Za1<|aP<|Za rfl<|bL rfl sI rfl Mm0 Xau n4 rfl bQK<|Zu rfl U288 fD wR rfl (.cons rfl rfl .nil) fun hJ hK hB I=>aR (A:=[(_,_)]) (B:=[]) rfl U288 rfl rfl fD wR rfl aZM rfl rfl rfl ha (iL.lit I) Ye rfl (aMW _ _ (by simp only[FN,bMV];omega)) (by simp[cell1,ints,Pt.l]) Yd (bLL rfl) rfl bQK fun v7 ν7 hE=>?_
   have hH:bD 232 3 v7 (i+1) (aYN (G0 (y.chairs.take (i+1)) n).1) ν7:=by rw[MB hx,aOB,←hm];simpa [ints,Pt.l]using hE
   refine Wz ?_;exact aI 26 (i+1,v7,ν7,(p3 x.parts m).2) ⟨Yl,hH,by rw[MB hx,←hm]⟩ Yl ⟨Ya,Ya,Ya,bQK⟩ rfl rfl (List.Sublist.cons _ Mm5) fun D h=>⟨D,bLP _ (h),Le.refl D⟩
 ·obtain rfl:i=y.chairs.length:=by omega
  rw[bLU]at ha;refine Za8<|Za4<|Za4<|Za9<|Za1<|aA<|Za rfl<|Zk rfl<|aG<|Zar [] [] ha rfl fun D2 hR hF=>?_;exact aE rfl fun D' hD=>(hF.pts (FN _ _) Yd).up RP.up (hD _ Ye)
theorem bBF(yv:Γ)(y:aZ)(D:aC)(hy:gU D yv y)(U:y.chairs.length≤1000)(hu:dK y.chairs≤8):Fn prog 162 #[yv] D (fun _ v=>v=qI ((2^dK y.chairs:Nat):Int)):=by
 have I:=hy;obtain⟨cv,qv,rfl,hc,hq⟩:=hy;refine Zx 7 func162 rfl fun h0=>aA<|Zab rfl fun Y E1 V O=>Zk rfl<|aL<|Zv rfl pN rfl O nE<|Zf rfl (fun Z R=>EB _ y _ (I.up (R _ Ye)) U)<|uB rfl U3 U380 rfl Yf rfl bQK<|BQ rfl rfl rfl Yd rfl bQK<|We ?_;exact aE rfl fun D hD=>rfl
theorem MP{x:Int}(h:0≤x∧x≤2)(m:Nat):xG x (p1 x m).1=true:=by
 unfold p1 xG;rw[bKW,bT,bMF,LT,LT];split
 ·rename_i e;exact⟨Yl,bLL e⟩
 ·rename_i e;exact⟨Yl,bLG rfl⟩
theorem bFV{p:Pt}(h:∀n∈p.l,0≤n∧n≤2)(m:Nat):S8 p (p3 p m).1=true:=by
 have ha:=h p.a (by simp[Pt.l]);have hb:=h p.b (by simp[Pt.l]);have hc:=h p.c (by simp[Pt.l]);simp only[S8,Pt.l,p3,bOS,List.zip_nil_left,bOZ,List.all_nil,Bool.and_true,bKW];exact⟨MP ha _,MP hb _,MP hc _⟩
def rP:List Ch→Nat→List Pt
 | [],_=>[]
 |c::l,n=>(p3 c.parts n).1::rP l (p3 c.parts n).2
theorem aRM:∀(l:List Ch) (st:List Pt×Nat),(l.foldl aLU st).1=st.1++rP l st.2
 | [],st=>by simp[rP]
 |c::l,st=>by rw[bME,aRM l];simp[aLU,rP]
theorem aTL(l:List Ch)(n:Nat):(G0 l n).1=rP l n:=by unfold G0;rw[aRM];rfl
theorem aCB:∀(l:List Ch) (n:Nat),(∀c∈l,∀n∈c.parts.l,0≤n∧n≤2)→((l.zip (rP l n)).all fun x=>S8 x.1.parts x.2)=true
 | [],n,_=>rfl
 |c::l,n,h=>by
  rw[rP,bOS,bOZ,bKW];exact⟨bFV (h c bKZ) n,aCB l _ fun c hc=>h c (bKY _ hc)⟩
theorem LJ{y:aZ}(h:bDM y)(n:Nat):eJ y (G0 y.chairs n).1=true:=by
 unfold eJ;rw[bKW,LT];exact⟨FN _ _,by rw[aTL];exact aCB _ _ h.part⟩
def FQ(y:aZ)(n:Nat):Int:=(C5 y (G0 y.chairs n).1:Nat)
def ZD(y:aZ):List Int:=(List.range (2^dK y.chairs)).map (FQ y)
theorem XM(yv:Γ)(y:aZ)(D:aC)(hy:gU D yv y)(hf:bB y=0):Fn prog 81 #[yv] D (fun D' v=>Sl D' RI 1 v (ZD y)):=by
 have O:=hy;obtain⟨cv,qv,rfl,hc,hq⟩:=hy;have hyo:=bJE hf;have R:=hyo.len;have Y:=hyo.unk;have hcap:2^dK y.chairs≤2^8:=bMY Yd Y;unfold ZD;refine Zx 24 func81 rfl fun h0=>aA<|Zab rfl fun q1 E1 hR U=>Zk rfl<|aL<|Zv rfl pN rfl U nE<|Zaa rfl (fun D1 Z=>RJ R _ _ (O.up (Z _ Ye))) fun v1 D1 Z hI=>?_;have hps:=hI;refine Zk rfl<|aL<|Zk rfl<|bK<|Zk rfl<|aF<|Za3<|Zc (Nat×Γ×aD) (fun g=>2^dK y.chairs-g.1) (fun g=>g.1≤2^dK y.chairs∧bD 3 1 g.2.1 (((List.range g.1).map (FQ y))).length (ints (((List.range g.1).map (FQ y)))) g.2.2) (fun g=>[(4,g.2.1),(5,qI (g.1:Int))]) [(3,_),(2,_),(1,_)] (fun g=>g.2.2++[]) (fun g=>[D1,E1,D]) (0,qN,[]) ⟨Ye,bD.nil⟩ ⟨Ya,Ya,bQK⟩ Mm5 ?_;rintro⟨k,v,ν⟩ ⟨h1,ha⟩;simp only at h1 ha;refine bM<|Za rfl<|Zv rfl pN rfl U nE<|Zf rfl (fun D2 hB=>bBF _ y _ (O.up (hB _ Ye)) Yd Y)<|Zan rfl<|aF<|Zag rfl (fun hc1=>?_) fun hc1=>?_
 ·have hk:k<2^dK y.chairs:=by simp only at hc1;omega
  have hit:=LJ hyo k;obtain⟨hlen,hbt⟩:=aEI hit;refine aQ<|Za5<|Za3<|iZ [] 3 [0,1,2,3,5,4,6,7,8,9] [false,true,true,true,true,true,true,true,false,false] [(false,0),(true,1),(true,2),(true,3),(true,5),(true,4),(true,6),(true,7),(false,8),(false,9)] bC (fun _ _ _ h=>eZ (P:=prog) (fn:=f81) _ _ _ h) Yg rfl<|Za rfl<|Zv rfl pN rfl U nE<|Zv rfl pN rfl U nE<|Za rfl<|Za rfl<|Zaa rfl (fun D3 hE=>bGC _ y k _ (O.up (hE _ Ye)) Yd Yd) fun v3 D3 hE hJ=>?_;have hz:=hJ;refine Zf rfl (fun D4 V=>bCU _ _ _ y _ _ _ (O.up (V _ Ye)) (hz.up RP.up (V _ Ye)) (hps.up bIE.up (V _ Ye)) hyo hlen hbt (bFT R hlen))<|Zu rfl U25 aJ cK rfl (.cons rfl rfl .nil) fun hO hP hK I=>?_;have hN:=Sl.ofInts (l:=[_]) (n:=1) (cap:=1) I rfl Yd Yd;refine aR (A:=[]) (B:=[]) rfl U25 rfl rfl aJ cK rfl kE rfl rfl rfl ha (iL.lit I) Ye rfl Ye Yk (by have:=hcap;first|omega|(simp only[bMK,bPD];omega)) (Or.inl rfl) rfl bQK fun v7 ν7 hH=>?_
  have R:bD 3 1 v7 (((List.range (k+1)).map (FQ y))).length (ints (((List.range (k+1)).map (FQ y)))) ν7:=by rw[bMN,bLO];rw[bAB hlen Yd]at hH;simpa [ints,FQ]using hH
  refine Wz ?_;exact aI 19 (k+1,v7,ν7) ⟨Yl,R⟩ Yl ⟨Ya,Ya,bQK⟩ rfl rfl Mm5 fun D h=>⟨D,bLP _ (bLP _ (h)),Le.refl D⟩
 ·obtain rfl:k=2^dK y.chairs:=by simp only at hc1;omega
  simp only[bMK,bPD]at ha;refine Za8<|Za4<|Za4<|Za9<|Za1<|aA<|Za rfl<|Zk rfl<|aG<|Zar [] [] ha rfl fun D2 hB hF=>?_;exact aE rfl fun D' hD=>(hF.ints Ye (by have:=hcap;omega)).up RI.up (hD _ Ye)
theorem YI{x t:Int}(h:xG x t=true){m B:Nat}(hm:m<B):∃n,p1 x n=(t,m)∧n<(if x=2 then 2 else 1)*B:=by
 unfold xG at h;rw[bKW,bT,bMF,LT,LT]at h;unfold p1;by_cases hx:x=2
 ·obtain⟨b,rfl⟩:=Int.eq_ofNat_of_zero_le h.1.1;refine⟨2*m+b,?_,by rw[bLR hx];omega⟩
  rw[bLR hx,bOU];exact⟨Yd,Yd⟩
 ·refine⟨m,?_,by rw[bLI hx];omega⟩;rw[bLI hx,bOU];exact⟨by rcases h.2 with h|h;exact absurd h hx;exact h.symm,rfl⟩
theorem bCG(p:Pt):2^aBM p=(if p.a=2 then 2 else 1)*((if p.b=2 then 2 else 1)*(if p.c=2 then 2 else 1)):=by
 unfold aBM Pt.l;by_cases ha:p.a=2<;>by_cases hb:p.b=2<;>by_cases hc:p.c=2<;>simp[ha,hb,hc]
theorem bHC{p t:Pt}(h:S8 p t=true){m B:Nat}(hm:m<B):∃n,p3 p n=(t,m)∧n<2^aBM p*B:=by
 simp only[S8,Pt.l,bOS,List.zip_nil_left,bOZ,List.all_nil,Bool.and_true,bKW]at h;obtain⟨c,I,h1⟩:=YI h.2.2 hm;obtain⟨b,O,h2⟩:=YI h.2.1 h1;obtain⟨a,R,h3⟩:=YI h.1 h2;refine⟨a,?_,?_⟩
 ·unfold p3;rw[R,O,I]
 ·rw[bCG,Nat.mul_assoc,Nat.mul_assoc];exact h3
theorem LS:∀(l:List Ch) (t:List Pt),t.length=l.length→((l.zip t).all fun x=>S8 x.1.parts x.2)=true→∃n,n<2^dK l∧rP l n=t
 | [],[],_,_=>⟨0,by simp[dK],rfl⟩
 | [],_::_,h,_=>by simp at h
 |_::_,[],h,_=>by simp at h
 |c::l,p::t,h,ha=>by
  rw[bOS,bOZ,bKW]at ha;obtain⟨m,hm,e⟩:=LS l t Yax ha.2;obtain⟨n,I,hn⟩:=bHC ha.1 hm;refine⟨n,?_,?_⟩
  ·have:dK (c::l)=aBM c.parts+dK l:=by simp[dK]
   rw[this,Nat.pow_add];exact hn
  ·rw[rP,I,e]
theorem aSW{y:aZ}{t:List Pt}(h:eJ y t=true):∃n,n<2^dK y.chairs∧(G0 y.chairs n).1=t:=by
 unfold eJ at h;rw[bKW,LT]at h;obtain⟨n,hn,e⟩:=LS _ _ h.1 h.2;exact⟨n,hn,by rw[aTL];exact e⟩
def EP(y:aZ)(ms:List Int)(c:Nat):Bool:=ms.any fun m=>decide (jQ (rL y.claims m) y.claims.length&&&c=c)
theorem aON{y:aZ}{ms:List Int}{c k:Nat}{x:Int}(h:ms[k]?= some x):EP y (ms.take (k+1)) c=(EP y (ms.take k) c||decide (jQ (rL y.claims x) y.claims.length&&&c=c)):=by
 unfold EP;rw[bLA,h,bLT,bOP];simp
theorem PD{y:aZ}{ms:List Int}{c k:Nat}{x:Int}(h:ms[k]?= some x)(e:jQ (rL y.claims x) y.claims.length&&&c=c):EP y ms c=true:=by
 unfold EP;rw[bPI];exact⟨x,GT h,decide_eq_true e⟩
theorem bHZ(yv mv:Γ)(y:aZ)(ms:List Int)(c:Nat)(D:aC)(hy:gU D yv y)(hm:Sl D RI 1 mv ms)(h5:y.claims.length≤5)(U:c<64):Fn prog 199 #[yv,mv,qI (c:Int)] D (fun _ v=>v=.bool (EP y ms c)):=by
 have I:=hy;obtain⟨cv,qv,rfl,hc,hq⟩:=hy;have hml:=hm.len;refine Zx 24 func199 rfl fun h0=>aA<|Zab rfl fun Z E1 V O=>Zk rfl<|bK<|Zk rfl<|aF<|Za3<|dW (γ:=Nat) (fun k=>ms.length-k) (fun k=>k≤ms.length∧EP y (ms.take k) c=false) (fun k=>[(7,qI (k:Int))]) [(6,_),(3,_),(1,_),(2,_)] (fun k=>[E1,D]) 0 ⟨Yd,rfl⟩ ⟨Ya,bQK⟩ cR (aK) ?_;rintro k ⟨h1,h2⟩;refine bM<|Za rfl<|Za rfl<|Zai rfl U25 rfl hm rfl<|Zan rfl<|aF<|Zag rfl (fun hc1=>?_) fun hc1=>?_
 ·have hk:k<ms.length:=by omega
  obtain⟨x,hx⟩:=cB ms k;have hbl:=X1 (rL y.claims x) y.claims.length;have Y:2^y.claims.length≤2^5:=bMY Yd h5;refine aQ<|Za5<|Za3<|Za5<|iZ [] 5 [0,1,2,3,4,6,8,5,7,9] [false,true,true,true,true,true,true,true,true,false] [(false,0),(true,1),(true,2),(true,3),(true,4),(true,6),(true,8),(true,5),(true,7),(false,9)] bC (fun _ _ _ h=>eZ (P:=prog) (fn:=f199) _ _ _ h) Yg rfl<|Zv rfl pN rfl O nE<|Za rfl<|Za rfl<|iN rfl hm rfl hx fun b1 o1=>Za rfl<|Za rfl<|Zf rfl (fun D1 R=>aPQ _ y x _ (I.up (R _ Ye)) Yd) ?_;refine aSX rfl rfl rfl Yd Yd rfl bQK<|Zaw rfl<|aF<|Zag rfl (fun hc2=>?_) fun hc2=>?_
  ·refine aA<|Wg ?_;exact aE rfl fun D hD=>by show Value.bool _=_;rw[PD hx Yd]
  ·refine Wbv ?_;exact aI 18 (k+1) ⟨Yd,by rw[aON hx,h2,bOM Yd];rfl⟩ Yd ⟨Ya,bQK⟩ rfl rfl Mm5 (aK)
 ·obtain rfl:k=ms.length:=by omega
  rw[bLU]at h2;refine Wj ?_;exact aE rfl fun D hD=>by show Value.bool _=_;rw[h2]
theorem VI{b c:Nat}:b&&&c=c ↔∀j,c.testBit j=true→b.testBit j=true:=by
 constructor
 ·intro h j hj;rw[←h,Nat.testBit_and,bKW]at hj;exact hj.1
 ·intro h;apply Nat.eq_of_testBit_eq;intro j;rw[Nat.testBit_and];cases e:c.testBit j with
  |false=>simp
  |true=>rw[h j e];rfl
theorem aYT{y:aZ}(h:bB y=0){c:Nat}:EP y (ZD y) c=true ↔∃t,eJ y t=true∧∀j,c.testBit j=true→j<y.claims.length∧rL y.claims (C5 y t:Nat) j=true:=by
 have hyo:=bJE h;unfold EP;rw[bPI];constructor
 ·rintro⟨m,hm,he⟩;unfold ZD at hm;obtain⟨n,_,rfl⟩:=bKX.1 hm;refine⟨_,LJ hyo n,fun j hj=>?_⟩;have:=VI.1 (bLW he) j hj;rw[oU,bKW,LT]at this;exact this
 ·rintro⟨t,ht,hr⟩;obtain⟨n,hn,rfl⟩:=aSW ht;refine⟨FQ y n,bKX.2 ⟨n,bMZ.2 hn,rfl⟩,decide_eq_true (VI.2 fun j hj=>?_)⟩;rw[oU,bKW,LT];exact hr j hj
theorem LR{cl:List (Int×Int)}{out:List Int}{n:Int}:oI cl out n=true ↔∀j,j<cl.length→(∃x∈out,(j:Int)=x)∨rL cl n j=true:=by
 unfold oI;rw[bLX];have key:∀j,j<cl.length→(tZ cl out n j=true ↔ (∃x∈out,(j:Int)=x)∨rL cl n j=true):=fun j hj=>by
  unfold tZ rL;rw[bLB hj,bMF,bPI];simp
 exact⟨fun h j hj=>(key j hj).1 (h j (bMZ.2 hj)),fun h j hj=>(key j (bMZ.1 hj)).2 (h j (bMZ.1 hj))⟩
def pos(y:aZ)(l:List Int):Bool:=decide (0<((dJ y l).length:Int))
theorem SN{m j:Nat}:(∃x∈aBW m,(j:Int)=x) ↔ j<7∧m.testBit j=true:=by
 unfold aBW bEC;constructor
 ·rintro⟨x,hx,e⟩;obtain⟨i,hi,rfl⟩:=bKX.1 hx;obtain rfl:j=i:=by omega
  rw[bON,bMZ]at hi;exact hi
 ·rintro⟨h1,h2⟩;exact⟨(j:Int),bKX.2 ⟨j,bON.2 ⟨bMZ.2 h1,h2⟩,rfl⟩,rfl⟩
theorem aWX{y:aZ}(h:bB y=0){b:Nat}:pos y (aBW b)=EP y (ZD y) (pX (2^y.claims.length-1) b):=by
 have h5:=(bJE h).cls;unfold pos;have bit:∀j,(pX (2^y.claims.length-1) b).testBit j=(decide (j<y.claims.length)&& !b.testBit j):=fun j=>by rw[N4,Nat.testBit_two_pow_sub_one]
 rw[bOC,LT,DB,aYT h];constructor
 ·rintro⟨t,h1,h2⟩;refine⟨t,h1,fun j hj=>?_⟩;rw[bit,bKW,LT,bNY]at hj;refine⟨hj.1,?_⟩;rcases LR.1 h2 j hj.1 with h3|h3
  ·rw[(SN.1 h3).2]at hj;simp at hj
  ·exact h3
 ·rintro⟨t,h1,h2⟩;refine⟨t,h1,LR.2 fun j hj=>?_⟩;cases e:b.testBit j with
  |true=>exact bLL (SN.2 ⟨Yd,e⟩)
  |false=>exact bLG (h2 j (by rw[bit,e];simp[hj])).2
end L7
namespace L12
open C12 Go.Lib
theorem KH{step:Int}{p:Option Int}{n:Int}{l:List Int}:L2.nL step p (n::l)=(C2.lV step p n&&L2.nL step (some n) l):=by rw[L2.nL]
theorem zV{step:Int}:∀{rs:List (Int×Int)} {p:Option Int} {l:List Int},l∈C2.iM step rs p ↔ L2.aJI rs l∧L2.nL step p l=true
 | [],p,l=>by
  cases l with
  |nil=>simp[C2.iM,L2.aJI,L2.nL]
  |cons x l=>simp[C2.iM,L2.aJI]
 |r::rs,p,l=>by
  simp only[C2.iM,bOV,bMZ];constructor
  ·rintro⟨m,hm,h⟩;split at h
   ·rename_i hn;obtain⟨u,hu,rfl⟩:=bKX.1 h;obtain⟨h1,h2⟩:=zV.1 hu;refine⟨⟨by unfold C2.fJ at hm;omega,h1⟩,?_⟩
    rw[KH,hn,h2];rfl
   ·cases h
  ·cases l with
   |nil=>rintro⟨h,_⟩;exact h.elim
   |cons x l=>
    rintro⟨⟨h1,h2⟩,h3⟩;rw[KH,bKW]at h3;have e:r.1+(((x-r.1).toNat:Nat):Int)=x:=by omega
    refine⟨(x-r.1).toNat,by unfold C2.fJ;omega,?_⟩;rw[e,bLR h3.1];exact bKX.2 ⟨l,zV.2 ⟨h2,h3.2⟩,rfl⟩
theorem aRF:∀{rs:List (Int×Int)} {l:List Int},L2.aJI rs l→∃n,n<L2.pP rs∧L2.rP rs n=l
 | [],[],_=>⟨0,Nat.zero_lt_one,rfl⟩
 |r::rs,x::l,h=>by
  obtain⟨n,hn,rfl⟩:=aRF h.2;have h1:=h.1;have hm:(x-r.1).toNat<L2.G1 r:=by unfold L2.G1;omega
  have I:((x-r.1).toNat+L2.G1 r*n)%L2.G1 r=(x-r.1).toNat:=by rw[Nat.add_mul_mod_self_left,Nat.mod_eq_of_lt hm]
  have O:((x-r.1).toNat+L2.G1 r*n) / L2.G1 r=n:=by rw[Nat.add_mul_div_left _ _ Yd,Nat.div_eq_of_lt hm,bOH]
  refine⟨(x-r.1).toNat+L2.G1 r*n,?_,?_⟩
  ·have:L2.G1 r*(n+1)≤L2.G1 r*L2.pP rs:=Nat.mul_le_mul_left _ hn;rw[L2.pP];rw[Nat.mul_add,bNL]at this;omega
  ·rw[L2.rP,I,O];congr 1;omega
section
variable{s:aO}(hk:iY s)(h:kF s)
include hk h
theorem kF.t3:L2.T3 s.table:=⟨hk.ht,h.hts,h.step,hk.mks,fun m hm=>by have:=h.mark m hm;omega⟩
theorem p6{l:List Int}:l∈L2.oB s.table ↔ l∈C2.eY s.table:=by
 constructor
 ·intro hl;exact zV.2 (L2.JJ (h.t3 hk) hl)
 ·intro hl;obtain⟨h1,h2⟩:=zV.1 hl;obtain⟨n,hn,rfl⟩:=aRF h1;exact bON.2 ⟨bKX.2 ⟨n,bMZ.2 hn,rfl⟩,h2⟩
theorem GJ{l:List Int}:l∈L2.OL s.table ↔ l∈C2.bN s.table:=by
 unfold L2.OL;rw[bON,p6 hk h];exact⟨fun⟨a,b⟩=>UB a b,fun a=>⟨IC a,aIV a⟩⟩
end
theorem CB{α:Type}{a b:List α}(h:∀x,x∈a ↔ x∈b):a=[] ↔ b=[]:=by
 rw[List.eq_nil_iff_forall_not_mem,List.eq_nil_iff_forall_not_mem];exact forall_congr' fun x=>not_congr (h x)
def bHW(l:C3.eL):Prop:=(1≤l.kind∧l.kind≤2)∧(0≤l.chair∧l.chair≤2)∧ -1≤l.token∧l.token≤2
theorem aTV{l:C3.eL}(h:bHW l):(L3.WB 3 l 2).length=(C3.cX 3 l).length∧((C3.cX 3 l).length=1∨(C3.cX 3 l).length=3):=by
 obtain⟨k,c,t⟩:=l;obtain⟨h1,h2,h3⟩:=h;simp only at h1 h2 h3;have I:k=1∨k=2:=by omega
 have O:c=0∨c=1∨c=2:=by omega
 have R:t= -1∨t=0∨t=1∨t=2:=by omega
 rcases I with rfl|rfl<;>rcases O with rfl|rfl|rfl<;>rcases R with rfl|rfl|rfl|rfl<;>decide
theorem JP:∀(ls:List C3.eL) (a b:Int),(∀l∈ls,bHW l)→0≤a→(a=b∧a≤4096∨a=4097∧4097≤b∧b≤5000)→
  (4096<ls.foldl (fun m l=>min (m*((C3.cX 3 l).length:Int)) 4097) a ↔ 4096<ls.foldl (fun(m:Int) l=>min 5000 (m*((L3.WB 3 l 2).length:Int))) b)
 | [],a,b,_,_,h=>by simp only[List.foldl_nil];omega
 |l::ls,a,b,hl,h0,h=>by
  obtain⟨O,I⟩:=aTV (hl l bKZ);rw[bME,bME,O];refine JP ls _ _ (fun x hx=>hl x (bKY _ hx)) ?_ ?_
  ·rcases I with e|e<;>rw[e]<;>omega
  ·rcases I with e|e<;>rw[e]<;>omega
theorem RX{ls:List C3.eL}(h:∀l∈ls,bHW l):4096<C3.tR 3 ls ↔ 4096<L3.X5 3 ls:=JP ls 1 1 h Yt Yd
theorem RQ{y:C7.aZ}(h:C7.bB y=0):L7.EP y (L7.ZD y) (2^y.claims.length-1)=decide (L7.dJ y []≠[]):=by
 have h1:=L7.aWX h (b:=0);have I:L7.aBW 0=[]:=by decide
 have O:pX (2^y.claims.length-1) 0=2^y.claims.length-1:=by
  apply Nat.eq_of_testBit_eq;intro j;rw[N4];simp
 rw[I,O]at h1;rw[←h1,L7.pos];cases L7.dJ y []<;>simp
abbrev aMC:aAX:=⟨66,224,158,227,254,234,165⟩
section
variable{α:Type}{x y:α}{a b c:List α}
theorem aZW:x::a=[x]++a++[]:=by simp
theorem aWL:x::(a++b)=[x]++a++b:=rfl
theorem aIE:x::(a++b)=([x]++a)++b++[]:=by simp
theorem bJA:x::(a++(b++c))=([x]++a)++b++c:=by simp
theorem bJN:x::(a++(b++c))=([x]++a++b)++c++[]:=by simp
theorem bKJ:x::((a++b)++c)=(x::a)++(b++c):=by simp
theorem bKU:x::(a++(b++[y]))=([x]++(a++b))++y::[]:=by simp
theorem bd3:([x]++(a++b))++c++[]=x::(a++(b++c)):=by simp
theorem bKV:([x]++a)++b++[]=x::(a++b):=by simp
theorem bd0:[x]++a++[]=x::a:=by simp
end
section
variable{P:Program}{X:Cx}{γb:Type}[Membership Nat γb]{bad:γb}{all:Array Oper}{K:Act→Δ→Prop}{Q:Exit→Act→Δ→Prop}
variable{σ:cD}{Ds:List aC}{os:List (Bool×Nat)}{fl:Bool}{ix d:Nat}{x y:Operand}{pos:String}{aft:Array Edge}{g:Option (Nat×Bool)}
theorem QB{α:Type}{f:α→List Γ}{n:Nat}(A B:aD)(hf:QP f n){t e tr:Θ}{xs:List α}{b i o cap c2:Nat}{junk:List Γ}{ats:Array Θ}
  (ho:all[ix]?= some ⟨some d,.call {callee:=.builtin .append,args:=#[x,y],argTypes:=ats},tr,pos,aft,g⟩) (ht:P.underlying t=some (.slice e)) (hat:ats[0]?= some t) (I:ats[1]?= some t) (hs:TS P e n)
  (hx:ev σ x=some (qS b i cap)) (hy:ev σ y=some (.slice (some ⟨b,o,none⟩) (xs.length-(i+1)) c2)) (hi:i<xs.length) (hcap:xs.length≤cap) (hO:i+1<cap→o=(i+1)*n) (hl1:(xs.flatMap f).length=xs.length*n) (O:(xs.flatMap f++junk).length=cap*n)
  (hfl:fl=false∨b∈bad) (hg:dH all σ g) (kk:∀v' ν',bD e n v' (xs.eraseIdx i).length ((xs.eraseIdx i).flatMap f) ν'→WL P X bad all K Q os ((d,v')::σ) (A++ν'++B) Ds) (hN:Nat.blt d X.N=true:=by rfl):WL P X bad all K Q ((fl,ix)::os) σ (A++(b,qC (xs.flatMap f++junk) e)::B) Ds:=by
 refine nG (A:=A) (B:=B) (sz:=n) (xs:=(xs.drop (i+1)).flatMap f) ho ht hat I hs hx hy (wM hf.1 hi hcap hO O) (sF hf.1) Yd Yae (cO hf.2 _) hfl hN hg ?_;rw[show i+(xs.length-(i+1))=xs.length-1 by omega,pS hf.1 hi];refine Zac (A++[(b,_)]++B) (by simp only[bLK,bOW];rfl) (kk _ _ ?_)
 rw[bNF hi];exact bLG ⟨b,cap,_,rfl,Yd,rfl,by rw[aS hf.1,bNF hi],uC hf.1 hi hl1 O hcap⟩
end
def C6(w:Λ)(ns:List Int)(act:eI):Prop:=lO.find? (fun x=>x.1==w.data.toList)=some (w.data.toList,ns.length,act)
theorem kH{w:Λ}{ns:List Int}{act act2:eI}{I:List UInt8}{k2:Nat}(h:C6 w ns act)(h2:lO.find? (fun x=>x.1==w.data.toList)=some (I,k2,act2)):ns.length=k2∧act=act2:=by
 have h3:=bLY (h.symm.trans h2);simp only[bOU]at h3;exact h3.2
def bU(G:List Λ)(w:Λ)(act:eI)(s:aO)(ns:List Int)(e:Int)(s':aO):Prop:=(e= -1∧s'=s∧w∉G)∨(e=0∧act s ns=.ok s')∨(0<e∧act s ns=.error e)
theorem bU.err{G:List Λ}{w:Λ}{act:eI}{s s':aO}{ns:List Int}{e:Int}(h:act s ns=.error e)(he:0<e:=by decide):bU G w act s ns e s':=bLG (bLG ⟨he,h⟩)
theorem bU.ok{G:List Λ}{w:Λ}{act:eI}{s s':aO}{ns:List Int}(h:act s ns=.ok s'):bU G w act s ns 0 s':=bLG (bLL ⟨rfl,h⟩)
theorem WR(sv:Γ)(s:aO)(D:aC)(hs:fW D sv s)(hsm:M6 s):IU prog 104 #[sv] D (fun D' v ν=>∃(cs:List Γ) (ν' νz:aD),v=.agg cs.toArray∧ν=ν'++νz∧cs.length=17∧(∀u∈cs,cell1 u=true)∧∀q,pR aMC D' q s ((q,qC cs 66)::ν')):=by
 obtain⟨pv,cv,hv,lv,mv,bl,bc,yc,yq,rfl,hL⟩:=hs;unfold cZ;refine rD 52 func104 rfl rfl rfl rfl fun h0=>?_;refine aA ?_;refine GN rfl (e:=66) rfl rfl rfl bQK fun q1=>?_;refine Zad rfl G3 rfl fun q2=>?_;refine bS ?_;refine iZ [] 2 [0,1,2,4,5,6,3,8,9,7,10,11,12,13] [false,false,false,true,true,true,true,false,false,true,false,false,false,false] [(false,0),(false,1),(false,2),(true,4),(true,5),(true,6),(true,3),(false,8),(false,9),(true,7),(false,10),(false,11),(false,12),(false,13)] bC (fun _ _ _ h=>eZ (P:=prog) (fn:=f104) _ _ _ h) Yg rfl ?_;refine Zi rfl sS rfl ?_;refine Zi rfl jH rfl ?_;refine Zp rfl bX rfl Mm1 rfl ?_;refine Zi rfl sS rfl ?_;refine Zi rfl iB rfl ?_;refine Zp rfl qM rfl Mm1 rfl ?_;refine aR (A:=[]) (ν:=[]) (B:=_) rfl U25 rfl rfl aJ cK rfl kE rfl rfl rfl bD.nil (iL.of (cells:=cI) (fun _ _ _ h=>h) (fun _=>rfl) hL.pl) Ye (aS (n:=1) (fun _=>rfl) s.row.places) rfl (cO EM s.row.places) (by have:=hsm.pl;omega) Yat rfl bQK fun I ν1 hx1=>?_
 have U:bD 3 1 I s.row.places.length (s.row.places.flatMap cI) ν1:=by simpa using hx1
 refine aU (ν1++_) Ya8 ?_;refine Zi rfl sS rfl ?_;refine Zi rfl jH rfl ?_;refine aR (A:=[]) (ν:=[]) (B:=_) rfl U50 rfl rfl lD uF rfl MS rfl rfl rfl bD.nil (iL.of (cells:=cC) (fun _ _ _ h=>h) (fun _=>rfl) hL.ct) Ye (aS (n:=3) (fun _=>rfl) s.row.counts) rfl (cO Y4 s.row.counts) (by have:=hsm.ct;omega) Yat rfl bQK fun O ν2 hx2=>?_
 have V:bD 224 3 O s.row.counts.length (s.row.counts.flatMap cC) ν2:=by simpa using hx2
 refine aU (ν2++_) Ya8 ?_;refine Zac ((ν2++ν1)++(q2,_)::(q1,_)::[]) ((bLK _ _ _).symm) ?_;refine Zs (cZ s I cv hv lv mv bl bc yc yq) rfl U.cells1 fR (.app (.tail .head)) rfl U.cell1 ?_;refine Zi rfl sS rfl ?_;refine Zi rfl iB rfl ?_;refine Zs (cZ s I O hv lv mv bl bc yc yq) rfl V.cells1 DE (.app (.tail .head)) rfl V.cell1 ?_;refine bS ?_;refine iZ [] 2 [0,1,2,4,5,6,8,9,10,3,12,13,7,11,14,15,16,17,18,19,20] [false,false,false,true,true,true,true,true,true,true,false,false,true,true,false,false,false,false,false,false,false] [(false,0),(false,1),(false,2),(true,4),(true,5),(true,6),(true,8),(true,9),(true,10),(true,3),(false,12),(false,13),(true,7),(true,11),(false,14),(false,15),(false,16),(false,17),(false,18),(false,19),(false,20)] bC (fun _ _ _ h=>eZ (P:=prog) (fn:=f104) _ _ _ h) Yg rfl ?_;refine Zi rfl nO rfl ?_;refine Zi rfl jV rfl ?_;refine Zp rfl qK rfl (LE _ Mm1) rfl ?_;refine Zi rfl nO rfl ?_;refine Zi rfl sT rfl ?_;refine Zp rfl bX rfl (LE _ Mm1) rfl ?_;refine Zi rfl nO rfl ?_;refine Zi rfl jS rfl ?_;refine Zp rfl tL rfl (LE _ Mm1) rfl ?_;refine aR (A:=[]) (ν:=[]) (B:=_) rfl U53 rfl rfl iW tX rfl bAS rfl rfl rfl bD.nil (iL.of (cells:=cP) (fun _ _ _ h=>h) (fun _=>rfl) hL.ht) Ye (aS (n:=2) (fun _=>rfl) s.table.heights) rfl (cO zN s.table.heights) (by have:=hsm.ht;omega) Yat rfl bQK fun R ν3 hJ=>?_
 have Y:bD 158 2 R s.table.heights.length (s.table.heights.flatMap cP) ν3:=by simpa using hJ
 refine aU (ν3++_) Ya8 ?_;refine Zi rfl nO rfl ?_;refine Zi rfl jV rfl ?_;refine aR (A:=[]) (ν:=[]) (B:=_) rfl U25 rfl rfl aJ cK rfl kE rfl rfl rfl bD.nil (iL.of (cells:=cI) (fun _ _ _ h=>h) (fun _=>rfl) hL.lev) Ye (aS (n:=1) (fun _=>rfl) s.table.levels) rfl (cO EM s.table.levels) (by have:=hsm.lev;omega) Yat rfl bQK fun Z ν4 hK=>?_
 have hB:bD 3 1 Z s.table.levels.length (s.table.levels.flatMap cI) ν4:=by simpa using hK
 refine aU (ν4++_) Ya8 ?_;refine aR (A:=[]) (ν:=[]) (B:=_) rfl U54 rfl rfl mR M7 rfl aFB rfl rfl rfl bD.nil (iL.of (cells:=cM) (fun _ _ _ h=>h) (fun _=>rfl) hL.mks) Ye (aS (n:=4) (fun _=>rfl) s.table.marks) rfl (cO j8 s.table.marks) (by have:=hsm.mks;omega) Yat rfl bQK fun w5 ν5 hN=>?_
 have hE:bD 227 4 w5 s.table.marks.length (s.table.marks.flatMap cM) ν5:=by simpa using hN
 refine aU (ν5++_) Ya8 ?_;refine Zac ((ν5++(ν4++(ν3++(ν2++ν1))))++(q2,_)::(q1,_)::[]) (bIN _ _ _ _ _) ?_;refine Zs (cZ s I O R lv mv bl bc yc yq) rfl Y.cells1 aPW (.app (.tail .head)) rfl Y.cell1 ?_;refine Zi rfl nO rfl ?_;refine Zi rfl sT rfl ?_;refine Zs (cZ s I O R Z mv bl bc yc yq) rfl hB.cells1 fR (.app (.tail .head)) rfl hB.cell1 ?_;refine Zi rfl nO rfl ?_;refine Zi rfl jS rfl ?_;refine Zs (cZ s I O R Z w5 bl bc yc yq) rfl hE.cells1 PO (.app (.tail .head)) rfl hE.cell1 ?_;refine aL ?_;refine Zi rfl yA rfl ?_;refine Zi rfl iC rfl ?_;refine Zp rfl qW rfl (LE _ Mm1) rfl ?_;refine aR (A:=[]) (ν:=[]) (B:=_) rfl U57 rfl rfl kC qO rfl CP rfl rfl rfl bD.nil (iL.of (cells:=cL) (fun _ _ _ h=>h) (fun _=>rfl) hL.ln) Ye (aS (n:=3) (fun _=>rfl) s.book.lines) rfl (cO m7 s.book.lines) (by have:=hsm.ln;omega) Yat rfl bQK fun w6 ν6 hO=>?_
 have hF:bD 254 3 w6 s.book.lines.length (s.book.lines.flatMap cL) ν6:=by simpa using hO
 refine aU (ν6++_) Ya8 ?_;refine Zi rfl yA rfl ?_;refine Zi rfl iC rfl ?_;refine Zac ((ν6++(ν5++(ν4++(ν3++(ν2++ν1)))))++(q2,_)::(q1,_)::[]) ((bLK _ _ _).symm) ?_;refine Zs (cZ s I O R Z w5 w6 bc yc yq) rfl hF.cells1 EG (.app (.tail .head)) rfl hF.cell1 ?_;refine bS ?_;refine iZ [] 2 [0,1,2,4,5,6,3,8,9,7,10,11,12,13] [false,false,false,true,true,true,true,false,false,true,false,false,false,false] [(false,0),(false,1),(false,2),(true,4),(true,5),(true,6),(true,3),(false,8),(false,9),(true,7),(false,10),(false,11),(false,12),(false,13)] bC (fun _ _ _ h=>eZ (P:=prog) (fn:=f104) _ _ _ h) Yg rfl ?_;refine Zi rfl nP rfl ?_;refine Zi rfl gC rfl ?_;refine Zp rfl mN rfl (LE _ Mm1) rfl ?_;refine Zi rfl nP rfl ?_;refine Zi rfl jT rfl ?_;refine Zp rfl tI rfl (LE _ Mm1) rfl ?_;refine aR (A:=[]) (ν:=[]) (B:=_) rfl U61 rfl rfl oX BR rfl aCK rfl rfl rfl bD.nil (iL.of (cells:=cH) (fun _ _ _ h=>h) (fun _=>rfl) hL.ch) Ye (aS (n:=4) (fun _=>rfl) s.yard.chairs) rfl (cO RD s.yard.chairs) (by have:=hsm.ch;omega) Yat rfl bQK fun w7 ν7 hP=>?_
 have hH:bD 234 4 w7 s.yard.chairs.length (s.yard.chairs.flatMap cH) ν7:=by simpa using hP
 refine aU (ν7++_) Ya8 ?_;refine Zi rfl nP rfl ?_;refine Zi rfl gC rfl ?_;refine aR (A:=[]) (ν:=[]) (B:=_) rfl U62 rfl rfl sH CI rfl aEG rfl rfl rfl bD.nil (iL.of (cells:=cP) (fun _ _ _ h=>h) (fun _=>rfl) hL.cl) Ye (aS (n:=2) (fun _=>rfl) s.yard.claims) rfl (cO zN s.yard.claims) (by have:=hsm.cl;omega) Yat rfl bQK fun w8 ν8 hR=>?_
 have hI:bD 165 2 w8 s.yard.claims.length (s.yard.claims.flatMap cP) ν8:=by simpa using hR
 refine aU (ν8++_) Ya8 ?_;refine Zac ((ν8++(ν7++(ν6++(ν5++(ν4++(ν3++(ν2++ν1)))))))++(q2,_)::(q1,_)::[]) (bIZ _ _ _ _) ?_;refine Zs (cZ s I O R Z w5 w6 bc w7 yq) rfl hH.cells1 aBL (.app (.tail .head)) rfl hH.cell1 ?_;refine Zi rfl nP rfl ?_;refine Zi rfl jT rfl ?_;refine Zs (cZ s I O R Z w5 w6 bc w7 w8) rfl hI.cells1 QK (.app (.tail .head)) rfl hI.cell1 ?_;refine bS ?_;have hcc:∀u∈cZ s I O R Z w5 w6 bc w7 w8,cell1 u=true:=by
  simp[cZ,cell1];exact⟨U.cell1 _ Ye,V.cell1 _ Ye,Y.cell1 _ Ye,hB.cell1 _ Ye,hE.cell1 _ Ye,hF.cell1 _ Ye,oR hL.cn,hH.cell1 _ Ye,hI.cell1 _ Ye⟩
 refine aP ?_;refine Zae rfl mL rfl (LE _ Mm1) gR ?_;refine Zz rfl gR (.app ζ) hcc ?_;refine aG ?_;exact Zo [_] rfl ⟨⟨_,_,_,rfl,(LE _ Mm0),bLG ⟨mL,gR,rfl⟩⟩,bQK⟩ fun D hD=>⟨cZ s I O R Z w5 w6 bc w7 w8,_,_,rfl,rfl,rfl,hcc,fun q=>⟨I,O,R,Z,w5,w6,bc,w7,w8,ν1,ν2,ν3,ν4,ν5,ν6,ν7,ν8,rfl,U,V,Y,hB,hE,hF,hL.cn.up tC.up (hD _ Ye),hH,hI⟩⟩
theorem W4(a b n:Int)(D:aC):Fn prog 197 #[qI a,qI b,qI n] D (fun _ v=>v=.bool (decide (a≤b)&&decide (b≤n))):=by
 refine Zx 15 func197 rfl fun h0=>Wai ?_;refine' bW 4 (s:=10) (p:=14) rfl (fun I=>?_) (fun I=>?_) ?_;rotate_left
 ·refine Wbj ?_;exact aM 3
 ·refine Wb ?_;exact aM 3
 refine We ?_;exact aE rfl fun D hD=>rfl
def uE:List Λ:=[⟨#[112,108,97,99,101]⟩,⟨#[115,101,101,110]⟩,⟨#[99,111,117,110,116]⟩,⟨#[98,97,99,107]⟩,⟨#[117,110,99,111,117,110,116]⟩,⟨#[119,114,111,110,103]⟩,⟨#[111,102,102]⟩]
theorem YQ(wb:Nat)(s:aO)(pv cv hv lv mv bl bc yc yq nv:Γ)(w:Λ)(ns:List Int)(act:eI)(ν1 ν2:aD)(D:aC)(hn:Sl D RI 1 nv ns)(hact:C6 w ns act)(hr:∀x∈ns,0≤x∧x≤999)(hk:iY s)(_hg:kF s)(h1:bD 3 1 pv s.row.places.length (s.row.places.flatMap cI) ν1)(h2:bD 224 3 cv s.row.counts.length (s.row.counts.flatMap cC) ν2):kW prog 105 [qP wb,.string w,nv] D ((wb,qC (cZ s pv cv hv lv mv bl bc yc yq) 66)::(ν1++ν2)) (fun _ v ν'=>∃(e:Int) (r:C1.dB),v=qI e∧bU uE w act s ns e (HD s r)∧∃pv' cv' ν1' ν2',ν'=(wb,qC (cZ (HD s r) pv' cv' hv lv mv bl bc yc yq) 66)::(ν1'++ν2')∧bD 3 1 pv' r.places.length (r.places.flatMap cI) ν1'∧bD 224 3 cv' r.counts.length (r.counts.flatMap cC) ν2') (fun _=>False):=by
 have k1:=hk.pl;have k2:=hk.ct;refine eH 149 func105 rfl rfl rfl rfl fun h0 hwl hwn=>aA<|Zk rfl<|bK<|Za rfl<|aF<|Za3<|aA<|Zay rfl<|Zk rfl<|aF<|Zaf rfl (fun hc1=>?_) fun hc1=>?_
 ·obtain rfl:=bLW hc1;obtain⟨hl,rfl⟩:=kH (k2:=0) (act2:=xH) hact rfl;obtain rfl:ns=[]:=bOF hl;refine bM<|Za rfl<|Zao rfl<|Zi rfl jH rfl<|Zp rfl bX rfl Mm0 rfl<|cE rfl U25 rfl h1 rfl rfl bQK<|Zaw rfl<|aF<|Zaf rfl (fun hc2=>?_) (fun hc2=>?_)
  ·have hR:=hc2;simp only[LT]at hR;refine Wh ?_;exact Y1 rfl fun D' hD=>⟨3,s.row,rfl,bU.err Xbu,pv,cv,ν1,ν2,rfl,h1,h2⟩
  ·have hR:=hc2;simp only[bLC]at hR;refine aQ<|aP<|Za rfl<|Za rfl<|Zao rfl<|Zi rfl jH rfl<|Zp rfl bX rfl Mm0 rfl<|Zu rfl U25 aJ cK rfl (.cons rfl rfl .nil) fun b901 D901 hD901 I=>?_;have hS901:=Sl.ofInts (l:=[_]) (n:=1) (cap:=1) I rfl Yd Yd;refine Zac ([(wb,_)]++ν1++ν2) aWL<|HW [(wb,_)] ν2 SP 2 rfl U25 rfl rfl aJ cK rfl kE rfl rfl rfl h1 I Yd Yq bQK fun O νx hx=>Zac ((wb,_)::(νx++ν2)) aWL.symm<|Zao rfl<|Zi rfl jH rfl<|Zs (cZ s O cv hv lv mv bl bc yc yq) rfl hx.cells1 fR .head rfl hx.cell1<|Zap<|Wag ?_;exact Y1 rfl fun D' hD=>⟨0,{s.row with places:=s.row.places++[2]},rfl,bU.ok Xbu,O,cv,νx,ν2,rfl,hx,h2⟩
 ·refine aA<|Zay rfl<|Zk rfl<|aF<|Zaf rfl (fun hc3=>?_) (fun hc3=>?_)
  ·obtain rfl:=bLW hc3;obtain⟨hl,rfl⟩:=kH (k2:=2) (act2:=S6) hact rfl;obtain⟨a,b,rfl⟩:=d5 hl;obtain⟨bt,ot,ct,rfl⟩:=dM hn Ye;have hbt:=eQ hn;have R:=hr a Ye;have hb9:=hr b Ye;refine Za5<|Za5<|aY [] 5 9 248<|Za rfl<|aX rfl hn<|Za rfl<|Zao rfl<|Zi rfl jH rfl<|Zp rfl bX rfl Mm0 rfl<|cE rfl U25 rfl h1 rfl rfl bQK<|Wbb ?_;refine Zaf rfl (fun hS=>?_) (fun hS=>?_)
   ·have hX:=hS;simp only[LT]at hX;refine Wh ?_;exact Y1 rfl fun D' hD=>⟨7,s.row,rfl,bU.err Ya6,pv,cv,ν1,ν2,rfl,h1,h2⟩
   ·have hX:=hS;simp only[bLC]at hX;refine aQ<|bM<|Za rfl<|aX rfl hn<|Zas rfl<|aF<|Zaf rfl (fun hY=>?_) (fun hY=>?_)
    ·have rA:=hY;simp only[LT]at rA;refine Wh ?_;exact Y1 rfl fun D' hD=>⟨2,s.row,rfl,bU.err Ya6,pv,cv,ν1,ν2,rfl,h1,h2⟩
    ·have rA:=hY;simp only[bLC]at rA;refine aQ ?_;obtain⟨bx,cap,junk,rfl,hcap,rfl,hl1,rB⟩:=h1.some Yd;refine aY [] 3 12 1008<|Za rfl<|Zao rfl<|Zi rfl jH rfl<|Zp rfl bX rfl Mm0 rfl<|Za rfl<|aX rfl hn<|Za rfl<|aX rfl hn<|eU rfl U25 aJ rfl rfl Yd Yd rfl bQK<|Wcd ?_;refine Wag ?_;exact Y1 rfl fun D' hD=>⟨0,{s.row with places:=s.row.places.set a.toNat b},rfl,bU.ok Ya6,_,cv,[(bx,_)],ν2,rfl,HV SP bNB hcap hl1 rB,h2⟩
  ·refine bM<|Zay rfl<|Zk rfl<|aF<|Zaf rfl (fun hP=>?_) (fun hP=>?_)
   ·obtain rfl:=bLW hP;obtain⟨hl,rfl⟩:=kH (k2:=2) (act2:=oF false) hact rfl;obtain⟨a,b,rfl⟩:=d5 hl;obtain⟨bt,ot,ct,rfl⟩:=dM hn Ye;have hbt:=eQ hn;have R:=hr a Ye;have hb9:=hr b Ye;refine aQ<|jL rfl hP<|Za5<|Za5<|aY [] 7 15 248<|Za rfl<|aX rfl hn<|Za rfl<|Zao rfl<|Zi rfl jH rfl<|Zp rfl bX rfl Mm0 rfl<|cE rfl U25 rfl h1 rfl rfl bQK ?_;refine Wav ?_;refine' cT 5 (s:=63) (p:=68) rfl (fun hg1=>?_) (fun hg1=>?_) ?_;rotate_left
    ·refine Zb rfl<|jI rfl U25 aJ rfl hn rfl Yd rfl rfl ⟨_,rfl,rfl⟩ fun cs6 hr6 hcl6 hA6=>?_;obtain rfl:cs6=[qI _]:=hr6;refine Ze 0 rfl aH rfl hA6 rfl<|Wae ?_;exact aM 4
    ·refine Wc ?_;exact aM 4
    refine aF<|Zaf rfl (fun hc7=>?_) fun hc7=>?_
    ·have hz7:=hc7;simp only[bMF,LT]at hz7;refine Wh ?_;exact Y1 rfl fun D' hD=>⟨2,s.row,rfl,bU.err Yan,pv,cv,ν1,ν2,rfl,h1,h2⟩
    ·have hz7:=hc7;simp only[bMG,bLC]at hz7;refine aQ<|bM<|Za rfl<|Zao rfl<|Zi rfl iB rfl<|Zp rfl qM rfl Mm0 rfl<|cE rfl U50 rfl h2 rfl rfl bQK<|Zaw rfl<|aF<|Zaf rfl (fun hc8=>?_) (fun hc8=>?_)
     ·have hz8:=hc8;simp only[LT]at hz8;refine Wh ?_;exact Y1 rfl fun D' hD=>⟨3,s.row,rfl,bU.err Yan,pv,cv,ν1,ν2,rfl,h1,h2⟩
     ·have hz8:=hc8;simp only[bLC]at hz8;refine aQ<|fL hbt Ye fun hap=>pY fun hnd=>?_;have hnu:=fE hap hnd;have hwbo:wb∉dN.mk [bt,wb]:=dN.out Ye;have hbto:bt∉dN.mk [bt,wb]:=dN.out Ye;refine Wbp ?_;rw[show decide ((⟨#[99,111,117,110,116]⟩:Λ)=⟨#[98,97,99,107]⟩)=false by decide];refine Za rfl<|aX rfl hn<|Za rfl<|aX rfl hn<|Zt [.bool false,qI a,qI b] rfl aFW uF rfl<|Zu rfl U50 lD uF rfl (.cons rfl rfl .nil) fun b902 D902 hD902 hA902=>Zac (([(wb,_)]++ν1)++ν2++[]) aIE<|HW ([(wb,_)]++ν1) [] YJ (⟨false,a,b⟩:C1.uV) rfl U50 rfl rfl lD uF rfl MS rfl rfl rfl h2 hA902 Yd Yq bQK fun O νx hx=>Wbh ?_;refine Zap<|Wag ?_;exact Y1 rfl fun D' hD=>⟨0,{s.row with counts:=s.row.counts++[(⟨false,a,b⟩:C1.uV)]},rfl,bU.ok Yan,pv,O,ν1,νx,rfl,h1,hx⟩
   ·refine aP<|Zay rfl<|Zk rfl<|aF<|Zaf rfl (fun hc9=>?_) (fun hc9=>?_)
    ·obtain rfl:=bLW hc9;obtain⟨hl,rfl⟩:=kH (k2:=2) (act2:=oF true) hact rfl;obtain⟨a,b,rfl⟩:=d5 hl;obtain⟨bt,ot,ct,rfl⟩:=dM hn Ye;have hbt:=eQ hn;have R:=hr a Ye;have hb9:=hr b Ye;refine Za5<|Za5<|aY [] 7 15 248<|Za rfl<|aX rfl hn<|Za rfl<|Zao rfl<|Zi rfl jH rfl<|Zp rfl bX rfl Mm0 rfl<|cE rfl U25 rfl h1 rfl rfl bQK<|Wav ?_;refine' cT 5 (s:=63) (p:=68) rfl (fun hg2=>?_) (fun hg2=>?_) ?_;rotate_left
     ·refine Zb rfl<|jI rfl U25 aJ rfl hn rfl Yd rfl rfl ⟨_,rfl,rfl⟩ fun cs10 hr10 hcl10 hA10=>?_;obtain rfl:cs10=[qI _]:=hr10;refine Ze 0 rfl aH rfl hA10 rfl<|Wae ?_;exact aM 4
     ·refine Wc ?_;exact aM 4
     refine aF<|Zaf rfl (fun U=>?_) fun U=>?_
     ·have V:=U;simp only[bMF,LT]at V;refine Wh ?_;exact Y1 rfl fun D' hD=>⟨2,s.row,rfl,bU.err Yan,pv,cv,ν1,ν2,rfl,h1,h2⟩
     ·have V:=U;simp only[bMG,bLC]at V;refine aQ<|bM<|Za rfl<|Zao rfl<|Zi rfl iB rfl<|Zp rfl qM rfl Mm0 rfl<|cE rfl U50 rfl h2 rfl rfl bQK<|Zaw rfl<|aF<|Zaf rfl (fun Y=>?_) (fun Y=>?_)
      ·have Z:=Y;simp only[LT]at Z;refine Wh ?_;exact Y1 rfl fun D' hD=>⟨3,s.row,rfl,bU.err Yan,pv,cv,ν1,ν2,rfl,h1,h2⟩
      ·have Z:=Y;simp only[bLC]at Z;refine aQ<|fL hbt Ye fun hap=>pY fun hnd=>?_;have hnu:=fE hap hnd;have hwbo:wb∉dN.mk [bt,wb]:=dN.out Ye;have hbto:bt∉dN.mk [bt,wb]:=dN.out Ye;refine Wbp ?_;rw[show decide ((⟨#[98,97,99,107]⟩:Λ)=⟨#[98,97,99,107]⟩)=true by decide];refine Za rfl<|aX rfl hn<|Za rfl<|aX rfl hn<|Zt [.bool true,qI a,qI b] rfl aFW uF rfl<|Zu rfl U50 lD uF rfl (.cons rfl rfl .nil) fun b903 D903 hD903 hA903=>Zac (([(wb,_)]++ν1)++ν2++[]) aIE<|HW ([(wb,_)]++ν1) [] YJ (⟨true,a,b⟩:C1.uV) rfl U50 rfl rfl lD uF rfl MS rfl rfl rfl h2 hA903 Yd Yq bQK fun O νx hx=>Wbh ?_;refine Zap<|Wag ?_;exact Y1 rfl fun D' hD=>⟨0,{s.row with counts:=s.row.counts++[(⟨true,a,b⟩:C1.uV)]},rfl,bU.ok Yan,pv,O,ν1,νx,rfl,h1,hx⟩
    ·refine aA<|Zay rfl<|Zk rfl<|aF<|Zaf rfl (fun hB=>?_) (fun hB=>?_)
     ·obtain rfl:=bLW hB;obtain⟨hl,rfl⟩:=kH (k2:=1) (act2:=oQ) hact rfl;obtain⟨a,rfl⟩:=yD hl;obtain⟨bt,ot,ct,rfl⟩:=dM hn Ye;have hbt:=eQ hn;have R:=hr a Ye;refine Za5<|Za5<|aY [] 5 9 248<|Za rfl<|aX rfl hn<|Za rfl<|Zao rfl<|Zi rfl iB rfl<|Zp rfl qM rfl Mm0 rfl<|cE rfl U50 rfl h2 rfl rfl bQK<|Wbb ?_;refine Zaf rfl (fun hE=>?_) (fun hE=>?_)
      ·have hF:=hE;simp only[LT]at hF;refine Wh ?_;exact Y1 rfl fun D' hD=>⟨7,s.row,rfl,bU.err Xcm,pv,cv,ν1,ν2,rfl,h1,h2⟩
      ·have hF:=hE;simp only[bLC]at hF;refine aQ ?_;obtain⟨i,rfl⟩:∃i:Nat,a=(i:Int):=⟨a.toNat,Yd⟩
       have hi:i<s.row.counts.length:=by omega
       obtain⟨bx,cap,junk,rfl,hcap,rfl,hl1,rB⟩:=h2.some Yd;refine fL hbt Ye fun hap=>pY fun hnd=>?_;have hnu:=fE hap hnd;have hwbo:wb∉dN.mk [bt,wb]:=dN.out Ye;have hbto:bt∉dN.mk [bt,wb]:=dN.out Ye;have hbx:bx∈dN.mk [bt,wb]:=dN.in_ (hnu (bx,_) (LE _ bKZ));refine aY (dN.mk [bt,wb]) 2 22 524286<|Za rfl<|Za rfl<|Zao rfl<|Zi rfl iB rfl<|bG rfl qM rfl Mm0 rfl Ym rfl bQK<|Za rfl<|aX rfl hn<|AW (i:=i) rfl U50 lD rfl rfl Yd rfl bQK<|Za rfl<|Zao rfl<|Zi rfl iB rfl ?_;refine bG rfl qM rfl Mm0 rfl Ym rfl bQK<|Za rfl<|aX rfl hn<|Zah rfl<|AI (j:=i+1) rfl U50 lD rfl rfl Yd rfl bQK fun o ho=>aU (([(wb,_)]++ν1)++(bx,_)::[]) rfl<|QB ([(wb,_)]++ν1) [] YJ rfl U50 rfl rfl lD rfl rfl hi hcap ho hl1 rB Ybd bQK fun O νx hx=>Zac ((wb,_)::(ν1++νx)) bKV<|Zao rfl<|Zi rfl iB rfl<|Zs (cZ s pv O hv lv mv bl bc yc yq) rfl hx.cells1 DE .head rfl hx.cell1<|Zap ?_;refine Wag ?_;exact Y1 rfl fun D' hD=>⟨0,{s.row with counts:=s.row.counts.eraseIdx i},rfl,bU.ok (by unfold oQ;simp only[];rw[bLI Yd,bMR]),pv,O,ν1,νx,rfl,h1,hx⟩
     ·refine aA<|Zay rfl<|Zk rfl<|aF<|Zaf rfl (fun hH=>?_) (fun hH=>?_)
      ·obtain rfl:=bLW hH;obtain⟨hl,rfl⟩:=kH (k2:=1) (act2:=xM) hact rfl;obtain⟨a,rfl⟩:=yD hl;obtain⟨bt,ot,ct,rfl⟩:=dM hn Ye;have hbt:=eQ hn;have R:=hr a Ye;refine bM<|Za rfl<|aX rfl hn<|Zas rfl<|aF<|Zaf rfl (fun hI=>?_) (fun hI=>?_)
       ·have hJ:=hI;simp only[LT]at hJ;refine Wh ?_;exact Y1 rfl fun D' hD=>⟨2,s.row,rfl,bU.err Xbv,pv,cv,ν1,ν2,rfl,h1,h2⟩
       ·have hJ:=hI;simp only[bLC]at hJ;refine aQ<|aP<|Za rfl<|Za rfl<|aX rfl hn<|Zao rfl<|Zi rfl GO rfl<|bP (ws:=[pv,cv,qI a,qI s.row.off,qI s.table.last,hv,qI s.table.step,lv,mv,qI s.book.chairs,qI s.book.coin,qI s.book.box,bl,bc,yc,qI s.yard.fit,yq]) rfl rfl rfl rfl aJ .head Ye rfl Yk bQK<|Zap<|Za6<|Za1<|aA ?_;refine We ?_;exact Y1 rfl fun D' hD=>⟨0,{s.row with wrong:=a},rfl,bU.ok Xbv,pv,cv,ν1,ν2,rfl,h1,h2⟩
      ·refine aA<|Zay rfl<|Zk rfl<|aF<|Zaf rfl (fun hK=>?_) (fun hK=>?_)
       ·obtain rfl:=bLW hK;obtain⟨hl,rfl⟩:=kH (k2:=1) (act2:=IA) hact rfl;obtain⟨a,rfl⟩:=yD hl;obtain⟨bt,ot,ct,rfl⟩:=dM hn Ye;have hbt:=eQ hn;have R:=hr a Ye;refine bM<|Za rfl<|aX rfl hn<|Zas rfl<|aF<|Zaf rfl (fun hN=>?_) (fun hN=>?_)
        ·have hO:=hN;simp only[LT]at hO;refine Wh ?_;exact Y1 rfl fun D' hD=>⟨2,s.row,rfl,bU.err Xbw,pv,cv,ν1,ν2,rfl,h1,h2⟩
        ·have hO:=hN;simp only[bLC]at hO;refine aQ<|aP<|Za rfl<|Za rfl<|aX rfl hn<|Zao rfl<|Zi rfl CY rfl<|bP (ws:=[pv,cv,qI s.row.wrong,qI a,qI s.table.last,hv,qI s.table.step,lv,mv,qI s.book.chairs,qI s.book.coin,qI s.book.box,bl,bc,yc,qI s.yard.fit,yq]) rfl rfl rfl rfl aJ .head Ye rfl Yk bQK<|Zap<|Za6<|Za1<|aA ?_;refine We ?_;exact Y1 rfl fun D' hD=>⟨0,{s.row with off:=a},rfl,bU.ok Xbw,pv,cv,ν1,ν2,rfl,h1,h2⟩
       ·refine Wl ?_;exact Y1 rfl fun D' hD=>⟨-1,s.row,rfl,bLL ⟨rfl,rfl,(by simp only[uE,bNA,n4,bND,bQE];exact⟨bLV hc1,bLV hc3,bLV hP,bLV hc9,bLV hB,bLV hH,bLV hK⟩)⟩,pv,cv,ν1,ν2,rfl,h1,h2⟩
def j9:List Λ:=[⟨#[116,105,100,101]⟩,⟨#[115,116,101,112]⟩,⟨#[108,101,118,101,108]⟩,⟨#[114,97,105,115,101]⟩,⟨#[109,97,114,107]⟩,⟨#[117,110,109,97,114,107]⟩]
theorem aSE(wb:Nat)(s:aO)(pv cv hv lv mv bl bc yc yq nv:Γ)(w:Λ)(ns:List Int)(act:eI)(ν3 ν4 ν5:aD)(D:aC)(hn:Sl D RI 1 nv ns)(hact:C6 w ns act)(hr:∀x∈ns,0≤x∧x≤999)(hk:iY s)(hg:kF s)(h3:bD 158 2 hv s.table.heights.length (s.table.heights.flatMap cP) ν3)(h4:bD 3 1 lv s.table.levels.length (s.table.levels.flatMap cI) ν4)(h5:bD 227 4 mv s.table.marks.length (s.table.marks.flatMap cM) ν5):kW prog 106 [.pointer (some ⟨wb,4,none⟩),.string w,nv] D ((wb,qC (cZ s pv cv hv lv mv bl bc yc yq) 66)::(ν3++(ν4++ν5))) (fun _ v ν'=>∃(e:Int) (r:C2.aW),v=qI e∧bU j9 w act s ns e (ES s r)∧∃hv' lv' mv' ν3' ν4' ν5',ν'=(wb,qC (cZ (ES s r) pv cv hv' lv' mv' bl bc yc yq) 66)::(ν3'++(ν4'++ν5'))∧bD 158 2 hv' r.heights.length (r.heights.flatMap cP) ν3'∧bD 3 1 lv' r.levels.length (r.levels.flatMap cI) ν4'∧bD 227 4 mv' r.marks.length (r.marks.flatMap cM) ν5') (fun _=>False):=by
 have kht:=hk.ht;have kla:=hg.last;have k4:=hk.lev;have k5:=hk.mks;refine eH 211 func106 rfl rfl rfl rfl fun h0 hwl hwn=>aA<|Zk rfl<|bK<|Za rfl<|aF<|Za3<|aA<|Zay rfl<|Zk rfl<|aF<|Zaf rfl (fun hc1=>?_) fun hc1=>?_
 ·obtain rfl:=bLW hc1;obtain⟨hl,rfl⟩:=kH (k2:=3) (act2:=R3) hact rfl;obtain⟨a,b,c,rfl⟩:=bAV hl;obtain⟨bt,ot,ct,rfl⟩:=dM hn Ye;have hbt:=eQ hn;have I:=hr a Ye;have hb9:=hr b Ye;have O:=hr c Ye;refine Za5<|Za5<|aY [] 4 8 120<|Za rfl<|aX rfl hn<|Za rfl<|Zao rfl<|Zi rfl X3 rfl<|Zp rfl aH rfl Mm0 rfl<|Zas rfl<|aF<|Zaf rfl (fun hc2=>?_) (fun hc2=>?_)
  ·have hS:=hc2;simp only[LT]at hS;refine Wh ?_;exact Y1 rfl fun D' hD=>⟨7,s.table,rfl,bU.err Ya5,hv,lv,mv,ν3,ν4,ν5,rfl,h3,h4,h5⟩
  ·have hS:=hc2;simp only[bLC]at hS;refine aQ<|Za5<|Za5<|aY [] 5 18 28728<|Za rfl<|aX rfl hn<|Za rfl<|aX rfl hn<|Zf rfl (fun D1 hD1=>W4 _ _ _ _)<|Wbu ?_;refine' cT 9 (s:=26) (p:=35) rfl (fun hg1=>?_) (fun hg1=>?_) ?_;rotate_left
   ·refine Zb rfl<|jI rfl U25 aJ rfl hn rfl Yd rfl rfl ⟨_,rfl,rfl⟩ fun cs4 hr4 hcl4 hA4=>?_;obtain rfl:cs4=[qI _]:=hr4;refine Ze 0 rfl aH rfl hA4 rfl<|Zb rfl<|jI rfl U25 aJ rfl hn rfl Yd rfl rfl ⟨_,rfl,rfl⟩ fun cs5 hr5 hcl5 hA5=>?_;obtain rfl:cs5=[qI _]:=hr5;refine Ze 0 rfl aH rfl hA5 rfl<|zF rfl rfl rfl Yf rfl ⟨_,rfl,rfl⟩<|Wae ?_;exact aM 8
   ·refine Zh rfl<|Wy ?_;exact aM 8
   refine aF<|Zaf rfl (fun hc3=>?_) fun hc3=>?_
   ·have hX:=hc3;simp only[bMF,bPR,bNY,LT,bLC]at hX;refine Wh ?_;exact Y1 rfl fun D' hD=>⟨2,s.table,rfl,bU.err Ya5,hv,lv,mv,ν3,ν4,ν5,rfl,h3,h4,h5⟩
   ·have hX:=hc3;simp only[bMG,bKW,bPA,LT,bLC]at hX;refine aQ ?_;obtain⟨bx,cap,junk,rfl,hcap,rfl,hl1,R⟩:=h3.some Yd;refine aY [] 3 16 16368<|Za rfl<|Zao rfl<|Zi rfl jV rfl<|Zp rfl qK rfl Mm0 rfl<|Za rfl<|aX rfl hn<|Za rfl<|aX rfl hn<|Za rfl<|aX rfl hn<|Zt [qI b,qI c] rfl O2 tX rfl ?_;refine eU rfl U53 iW rfl rfl Yd Yd rfl bQK<|OP UK (b,c) rfl rfl rfl rfl iW (.tail .head) Yd bQK<|Zap<|Wag ?_;exact Y1 rfl fun D' hD=>⟨0,{s.table with heights:=s.table.heights.set a.toNat (b,c)},rfl,bU.ok Ya5,_,lv,mv,[(bx,_)],ν4,ν5,rfl,HV UK bNB hcap hl1 R,h4,h5⟩
 ·refine aA<|Zay rfl<|Zk rfl<|aF<|Zaf rfl (fun hY=>?_) (fun hY=>?_)
  ·obtain rfl:=bLW hY;obtain⟨hl,rfl⟩:=kH (k2:=1) (act2:=R6) hact rfl;obtain⟨a,rfl⟩:=yD hl;obtain⟨bt,ot,ct,rfl⟩:=dM hn Ye;have hbt:=eQ hn;have I:=hr a Ye;refine bM<|Za rfl<|aX rfl hn<|Zas rfl<|aF<|Zaf rfl (fun rA=>?_) (fun rA=>?_)
   ·have rB:=rA;simp only[LT]at rB;refine Wh ?_;exact Y1 rfl fun D' hD=>⟨2,s.table,rfl,bU.err Xbx,hv,lv,mv,ν3,ν4,ν5,rfl,h3,h4,h5⟩
   ·have rB:=rA;simp only[bLC]at rB;refine aQ<|aP<|Za rfl<|Za rfl<|aX rfl hn<|Zao rfl<|Zi rfl m2 rfl<|bP (ws:=[pv,cv,qI s.row.wrong,qI s.row.off,qI s.table.last,hv,qI a,lv,mv,qI s.book.chairs,qI s.book.coin,qI s.book.box,bl,bc,yc,qI s.yard.fit,yq]) rfl rfl rfl rfl aJ .head Ye rfl Yk bQK<|Zap<|Za6<|Za1<|aA ?_;refine We ?_;exact Y1 rfl fun D' hD=>⟨0,{s.table with step:=a},rfl,bU.ok Xbx,hv,lv,mv,ν3,ν4,ν5,rfl,h3,h4,h5⟩
  ·refine aA<|Zay rfl<|Zk rfl<|aF<|Zaf rfl (fun hc6=>?_) (fun hc6=>?_)
   ·obtain rfl:=bLW hc6;obtain⟨hl,rfl⟩:=kH (k2:=1) (act2:=xR) hact rfl;obtain⟨a,rfl⟩:=yD hl;obtain⟨bt,ot,ct,rfl⟩:=dM hn Ye;have hbt:=eQ hn;have I:=hr a Ye;refine bM<|Za rfl<|aX rfl hn<|Zas rfl<|aF<|Zaf rfl (fun hc7=>?_) (fun hc7=>?_)
    ·have hz7:=hc7;simp only[LT]at hz7;refine Wh ?_;exact Y1 rfl fun D' hD=>⟨2,s.table,rfl,bU.err Ya3,hv,lv,mv,ν3,ν4,ν5,rfl,h3,h4,h5⟩
    ·have hz7:=hc7;simp only[bLC]at hz7;refine aQ<|bM<|Za rfl<|Zao rfl<|Zi rfl sT rfl<|Zp rfl bX rfl Mm0 rfl<|cE rfl U25 rfl h4 rfl rfl bQK<|Zaw rfl<|aF<|Zaf rfl (fun hc8=>?_) (fun hc8=>?_)
     ·have hz8:=hc8;simp only[LT]at hz8;refine Wh ?_;exact Y1 rfl fun D' hD=>⟨3,s.table,rfl,bU.err Ya3,hv,lv,mv,ν3,ν4,ν5,rfl,h3,h4,h5⟩
     ·have hz8:=hc8;simp only[bLC]at hz8;refine aQ<|fL hbt Ye fun hap=>pY fun hnd=>?_;have hnu:=fE hap hnd;have hwbo:wb∉dN.mk [bt,wb]:=dN.out Ye;have hbto:bt∉dN.mk [bt,wb]:=dN.out Ye;refine aY (dN.mk [bt,wb]) 2 13 1022<|Za rfl<|Za rfl<|Zao rfl<|Zi rfl sT rfl<|bG rfl bX rfl Mm0 rfl Ym rfl bQK<|Za rfl<|aX rfl hn<|Zu rfl U25 aJ cK rfl (.cons rfl rfl .nil) fun b901 D901 hD901 U=>?_;have hS901:=Sl.ofInts (l:=[_]) (n:=1) (cap:=1) U rfl Yd Yd;refine Zac (([(wb,_)]++ν3)++ν4++ν5) bJA<|HW ([(wb,_)]++ν3) ν5 SP a rfl U25 rfl rfl aJ cK rfl kE rfl rfl rfl h4 U Yd Yq bQK fun v1 νx hx=>Zac ((wb,_)::(ν3++(νx++ν5))) bJA.symm<|Zao rfl<|Zi rfl sT rfl<|Zs (cZ s pv cv hv v1 mv bl bc yc yq) rfl hx.cells1 fR .head rfl hx.cell1<|Zap<|Wag ?_;exact Y1 rfl fun D' hD=>⟨0,{s.table with levels:=s.table.levels++[a]},rfl,bU.ok Ya3,hv,v1,mv,ν3,νx,ν5,rfl,h3,hx,h5⟩
   ·refine aA<|Zay rfl<|Zk rfl<|aF<|Zaf rfl (fun O=>?_) (fun O=>?_)
    ·obtain rfl:=bLW O;obtain⟨hl,rfl⟩:=kH (k2:=2) (act2:=xP) hact rfl;obtain⟨a,b,rfl⟩:=d5 hl;obtain⟨bt,ot,ct,rfl⟩:=dM hn Ye;have hbt:=eQ hn;have I:=hr a Ye;have hb9:=hr b Ye;refine Za5<|Za5<|aY [] 5 9 248<|Za rfl<|aX rfl hn<|Za rfl<|Zao rfl<|Zi rfl sT rfl<|Zp rfl bX rfl Mm0 rfl<|cE rfl U25 rfl h4 rfl rfl bQK<|Wbb ?_;refine Zaf rfl (fun V=>?_) (fun V=>?_)
     ·have Y:=V;simp only[LT]at Y;refine Wh ?_;exact Y1 rfl fun D' hD=>⟨7,s.table,rfl,bU.err Ya2,hv,lv,mv,ν3,ν4,ν5,rfl,h3,h4,h5⟩
     ·have Y:=V;simp only[bLC]at Y;refine aQ<|bM<|Za rfl<|aX rfl hn<|Zas rfl<|aF<|Zaf rfl (fun Z=>?_) (fun Z=>?_)
      ·have hB:=Z;simp only[LT]at hB;refine Wh ?_;exact Y1 rfl fun D' hD=>⟨2,s.table,rfl,bU.err Ya2,hv,lv,mv,ν3,ν4,ν5,rfl,h3,h4,h5⟩
      ·have hB:=Z;simp only[bLC]at hB;refine aQ ?_;obtain⟨bx,cap,junk,rfl,hcap,rfl,hl1,R⟩:=h4.some Yd;refine aY [] 3 12 1008<|Za rfl<|Zao rfl<|Zi rfl sT rfl<|Zp rfl bX rfl Mm0 rfl<|Za rfl<|aX rfl hn<|Za rfl<|aX rfl hn<|eU rfl U25 aJ rfl rfl Yd Yd rfl bQK<|OP SP b rfl rfl rfl rfl aJ (.tail (.app .head)) Yd bQK<|Zap ?_;refine Wag ?_;exact Y1 rfl fun D' hD=>⟨0,{s.table with levels:=s.table.levels.set a.toNat b},rfl,bU.ok Ya2,hv,_,mv,ν3,[(bx,_)],ν5,rfl,h3,HV SP bNB hcap hl1 R,h5⟩
    ·refine aA<|Zay rfl<|Zk rfl<|aF<|Zaf rfl (fun hE=>?_) (fun hE=>?_)
     ·obtain rfl:=bLW hE;obtain⟨hl,rfl⟩:=kH (k2:=4) (act2:=yT) hact rfl;obtain⟨a,b,c,d,rfl⟩:=bDJ hl;obtain⟨bt,ot,ct,rfl⟩:=dM hn Ye;have hbt:=eQ hn;have I:=hr a Ye;have hb9:=hr b Ye;have O:=hr c Ye;have hd9:=hr d Ye;refine Za5<|Za5<|aY [] 6 18 61560<|Za rfl<|aX rfl hn<|Za rfl<|Zao rfl<|Zi rfl X3 rfl<|Zp rfl aH rfl Mm0 rfl<|Wav ?_;refine' cT 9 (s:=123) (p:=132) rfl (fun hg2=>?_) (fun hg2=>?_) ?_;rotate_left
      ·refine Zb rfl<|jI rfl U25 aJ rfl hn rfl Yd rfl rfl ⟨_,rfl,rfl⟩ fun cs18 hr18 hcl18 hA18=>?_;obtain rfl:cs18=[qI _]:=hr18;refine Ze 0 rfl aH rfl hA18 rfl<|Zb rfl<|vW rfl rfl rfl ⟨_,rfl,rfl⟩<|Zj rfl X3 rfl<|Zq rfl aH rfl Mm0 rfl<|Wae ?_;exact aM 8
      ·refine Zh rfl<|Wy ?_;exact aM 8
      refine aF<|Zaf rfl (fun hF=>?_) fun hF=>?_
      ·have hH:=hF;simp only[bMF,LT]at hH;refine Wh ?_;exact Y1 rfl fun D' hD=>⟨7,s.table,rfl,bU.err Ya7,hv,lv,mv,ν3,ν4,ν5,rfl,h3,h4,h5⟩
      ·have hH:=hF;simp only[bMG,bLC]at hH;refine aQ<|Za5<|Za5<|aY [] 5 17 14392<|Za rfl<|aX rfl hn<|Za rfl<|aX rfl hn<|Wav ?_;refine' cT 9 (s:=140) (p:=149) rfl (fun hg3=>?_) (fun hg3=>?_) ?_;rotate_left
       ·refine Zb rfl<|jI rfl U25 aJ rfl hn rfl Yd rfl rfl ⟨_,rfl,rfl⟩ fun cs21 hr21 hcl21 hA21=>?_;obtain rfl:cs21=[qI _]:=hr21;refine Ze 0 rfl aH rfl hA21 rfl<|Zb rfl<|jI rfl U25 aJ rfl hn rfl Yd rfl rfl ⟨_,rfl,rfl⟩ fun cs22 hr22 hcl22 hA22=>?_;obtain rfl:cs22=[qI _]:=hr22;refine Ze 0 rfl aH rfl hA22 rfl<|Zg rfl (fun D2 hD2=>W4 _ _ _ _)<|Waf ?_;exact aM 8
       ·refine Zh rfl<|Wy ?_;exact aM 8
       refine aF<|Zaf rfl (fun hI=>?_) fun hI=>?_
       ·have hJ:=hI;simp only[bMF,bPR,bNY,LT,bLC]at hJ;refine Wh ?_;exact Y1 rfl fun D' hD=>⟨2,s.table,rfl,bU.err (by unfold yT;simp only[];rw[bLI Yd];split<;>first|rfl|rw[bLR Yd]),hv,lv,mv,ν3,ν4,ν5,rfl,h3,h4,h5⟩
       ·have hJ:=hI;simp only[bMG,bKW,bPA,LT,bLC]at hJ;refine aQ<|bM<|Za rfl<|Zao rfl<|Zi rfl jS rfl<|Zp rfl tL rfl Mm0 rfl<|cE rfl U54 rfl h5 rfl rfl bQK<|Zaw rfl<|aF<|Zaf rfl (fun hK=>?_) (fun hK=>?_)
        ·have hN:=hK;simp only[LT]at hN;refine Wh ?_;exact Y1 rfl fun D' hD=>⟨3,s.table,rfl,bU.err Ya7,hv,lv,mv,ν3,ν4,ν5,rfl,h3,h4,h5⟩
        ·have hN:=hK;simp only[bLC]at hN;refine aQ<|fL hbt Ye fun hap=>pY fun hnd=>?_;have hnu:=fE hap hnd;have hwbo:wb∉dN.mk [bt,wb]:=dN.out Ye;have hbto:bt∉dN.mk [bt,wb]:=dN.out Ye;refine aY (dN.mk [bt,wb]) 2 24 2097150<|Za rfl<|Za rfl<|Zao rfl<|Zi rfl jS rfl<|bG rfl tL rfl Mm0 rfl Ym rfl bQK<|Za rfl<|aX rfl hn<|Waj ?_;refine Za rfl<|aX rfl hn<|Zt [qI c,qI d] rfl O2 tX rfl<|Zt [qI a,qI b,qI c,qI d] rfl aYQ M7 rfl<|Zu rfl U54 mR M7 rfl (.cons rfl rfl .nil) fun b902 D902 hD902 hA902=>Zac (([(wb,_)]++ν3++ν4)++ν5++[]) bJN<|HW ([(wb,_)]++ν3++ν4) [] aAE (⟨a,b,c,d⟩:C2.Mk) rfl U54 rfl rfl mR M7 rfl aFB rfl rfl rfl h5 hA902 Yd Yq bQK fun v1 νx hx=>Zac ((wb,_)::(ν3++(ν4++νx))) bJN.symm<|Wce ?_;refine Wag ?_;exact Y1 rfl fun D' hD=>⟨0,{s.table with marks:=s.table.marks++[(⟨a,b,c,d⟩:C2.Mk)]},rfl,bU.ok Ya7,hv,lv,v1,ν3,ν4,νx,rfl,h3,h4,hx⟩
     ·refine aA<|Zay rfl<|Zk rfl<|aF<|Zaf rfl (fun hO=>?_) (fun hO=>?_)
      ·obtain rfl:=bLW hO;obtain⟨hl,rfl⟩:=kH (k2:=1) (act2:=sG) hact rfl;obtain⟨a,rfl⟩:=yD hl;obtain⟨bt,ot,ct,rfl⟩:=dM hn Ye;have hbt:=eQ hn;have I:=hr a Ye;refine Za5<|Za5<|aY [] 5 9 248<|Za rfl<|aX rfl hn<|Za rfl<|Zao rfl<|Zi rfl jS rfl<|Zp rfl tL rfl Mm0 rfl<|cE rfl U54 rfl h5 rfl rfl bQK<|Wbb ?_;refine Zaf rfl (fun hP=>?_) (fun hP=>?_)
       ·have hR:=hP;simp only[LT]at hR;refine Wh ?_;exact Y1 rfl fun D' hD=>⟨7,s.table,rfl,bU.err Xcn,hv,lv,mv,ν3,ν4,ν5,rfl,h3,h4,h5⟩
       ·have hR:=hP;simp only[bLC]at hR;refine aQ ?_;obtain⟨i,rfl⟩:∃i:Nat,a=(i:Int):=⟨a.toNat,Yd⟩
        have hi:i<s.table.marks.length:=by omega
        obtain⟨bx,cap,junk,rfl,hcap,rfl,hl1,R⟩:=h5.some Yd;refine fL hbt Ye fun hap=>pY fun hnd=>?_;have hnu:=fE hap hnd;have hwbo:wb∉dN.mk [bt,wb]:=dN.out Ye;have hbto:bt∉dN.mk [bt,wb]:=dN.out Ye;have hbx:bx∈dN.mk [bt,wb]:=dN.in_ (hnu (bx,_) (LE _ (LE _ bKZ)));refine aY (dN.mk [bt,wb]) 2 22 524286<|Za rfl<|Za rfl<|Zao rfl<|Zi rfl jS rfl<|bG rfl tL rfl Mm0 rfl Ym rfl bQK<|Za rfl<|aX rfl hn<|AW (i:=i) rfl U54 mR rfl rfl Yd rfl bQK<|Za rfl<|Zao rfl<|Zi rfl jS rfl ?_;refine bG rfl tL rfl Mm0 rfl Ym rfl bQK<|Za rfl<|aX rfl hn<|Zah rfl<|AI (j:=i+1) rfl U54 mR rfl rfl Yd rfl bQK fun o ho=>Zac (([(wb,_)]++(ν3++ν4))++(bx,_)::[]) bKU<|QB ([(wb,_)]++(ν3++ν4)) [] aAE rfl U54 rfl rfl mR rfl rfl hi hcap ho hl1 R Ybd bQK fun v1 νx hx=>Zac ((wb,_)::(ν3++(ν4++νx))) bd3<|Wce ?_;refine Wag ?_;exact Y1 rfl fun D' hD=>⟨0,{s.table with marks:=s.table.marks.eraseIdx i},rfl,bU.ok (by unfold sG;simp only[];rw[bLI Yd,bMR]),hv,lv,v1,ν3,ν4,νx,rfl,h3,h4,hx⟩
      ·refine Wl ?_;exact Y1 rfl fun D' hD=>⟨-1,s.table,rfl,bLL ⟨rfl,rfl,(by simp only[j9,bNA,n4,bND,bQE];exact⟨bLV hc1,bLV hY,bLV hc6,bLV O,bLV hE,bLV hO⟩)⟩,hv,lv,mv,ν3,ν4,ν5,rfl,h3,h4,h5⟩
def H7:List Λ:=[⟨#[104,105,114,101]⟩,⟨#[98,114,105,110,103]⟩,⟨#[115,109,117,100,103,101]⟩,⟨#[115,116,114,105,107,101]⟩]
theorem bIY{s:aO}{a b c:Int}(ha:0≤a)(h:(s.yard.chairs.length:Int)≤a∨3≤b):tQ s [a,b,c]=.error 7:=by
 unfold tQ;simp only[]
 split
 ·rfl
 ·rename_i hq;have:=(bLD.1 hq).1;exact bLR Yd
theorem bIH{s:aO}{a b c:Int}(ha:a.toNat<s.yard.chairs.length)(hb:b<3)(hc:2<c):tQ s [a,b,c]=.error 2:=by
 unfold tQ;simp only[]
 rw[bLB ha];exact(bLI Yd).trans (bLR hc)
theorem NE{s:aO}{a b c:Int}{x:C7.Ch}(hx:s.yard.chairs[a.toNat]?= some x)(hb:b<3)(hc:c≤2):tQ s [a,b,c]=.ok (GV s {s.yard with chairs:=s.yard.chairs.set a.toNat {x with parts:=BD x.parts b.toNat c}}):=by
 unfold tQ;simp only[]
 rw[hx];exact(bLI Yd).trans (bLI Yd)
theorem OE{w:Λ}{ns:List Int}{act:eI}(h:C6 w ns act)(h1:w∉uE)(h2:w∉j9)(h3:w∉H7)(g1:¬w=⟨#[98,114,111,107,101,110]⟩)(g2:¬w=⟨#[112,97,114,116]⟩)(g3:¬w=⟨#[102,105,116]⟩)(g4:¬w=⟨#[99,108,97,105,109]⟩):w=⟨#[117,110,99,108,97,105,109]⟩:=by
 obtain⟨x,hx,e⟩:∃x∈lO,x.1=w.data.toList:=⟨_,List.mem_of_find?_eq_some h,rfl⟩
 have hw:w=JX x.1:=by rw[e];exact(yY w).symm
 clear h e;simp only[uE,j9,H7,bNA,n4,bND,bQE]at h1 h2 h3;simp only[lO,bNA,n4,bND]at hx;rcases hx with rfl|rfl|rfl|rfl|rfl|rfl|rfl|rfl|rfl|rfl|rfl|rfl|rfl|rfl|rfl|rfl|rfl|rfl|rfl|rfl|rfl|rfl;all_goals first|exact hw|exact absurd hw h1.1|exact absurd hw h1.2.1|exact absurd hw h1.2.2.1|exact absurd hw h1.2.2.2.1|exact absurd hw h1.2.2.2.2.1|exact absurd hw h1.2.2.2.2.2.1|exact absurd hw h1.2.2.2.2.2.2|exact absurd hw h2.1|exact absurd hw h2.2.1|exact absurd hw h2.2.2.1|exact absurd hw h2.2.2.2.1|exact absurd hw h2.2.2.2.2.1|exact absurd hw h2.2.2.2.2.2|exact absurd hw h3.1|exact absurd hw h3.2.1|exact absurd hw h3.2.2.1|exact absurd hw h3.2.2.2|exact absurd hw g1|exact absurd hw g2|exact absurd hw g3|exact absurd hw g4
theorem aHK(wb:Nat)(s:aO)(pv cv hv lv mv bl bc yc yq nv:Γ)(w:Λ)(ns:List Int)(act:eI)(ν6:aD)(D:aC)(hn:Sl D RI 1 nv ns)(hact:C6 w ns act)(hr:∀x∈ns,0≤x∧x≤999)(hk:iY s)(hg:kF s)(I:bD 254 3 bl s.book.lines.length (s.book.lines.flatMap cL) ν6):kW prog 107 [.pointer (some ⟨wb,9,none⟩),.string w,nv] D ((wb,qC (cZ s pv cv hv lv mv bl bc yc yq) 66)::(ν6)) (fun _ v ν'=>∃(e:Int) (r:C3.bH),v=qI e∧bU H7 w act s ns e (HH s r)∧∃bl' ν6',ν'=(wb,qC (cZ (HH s r) pv cv hv lv mv bl' bc yc yq) 66)::(ν6')∧bD 254 3 bl' r.lines.length (r.lines.flatMap cL) ν6'∧r.counts=s.book.counts) (fun _=>False):=by
 have kbc:=hk.bc;have k6:=hk.ln;refine eH 110 func107 rfl rfl rfl rfl fun h0 hwl hwn=>aA<|Zk rfl<|bK<|Za rfl<|aF<|Za3<|bM<|Zay rfl<|Zk rfl<|aF<|Zaf rfl (fun hc1=>?_) fun hc1=>?_
 ·obtain rfl:=bLW hc1;obtain⟨hl,rfl⟩:=kH (k2:=2) (act2:=oH 1) hact rfl;obtain⟨a,b,rfl⟩:=d5 hl;obtain⟨bt,ot,ct,rfl⟩:=dM hn Ye;have hbt:=eQ hn;have hF:=hr a Ye;have rB:=hr b Ye;refine aQ<|jL rfl hc1<|bM<|Za rfl<|aX rfl hn<|Wav ?_;refine' cT 5 (s:=16) (p:=21) rfl (fun hg1=>?_) (fun hg1=>?_) ?_;rotate_left
  ·refine Zb rfl<|jI rfl U25 aJ rfl hn rfl Yd rfl rfl ⟨_,rfl,rfl⟩ fun cs2 hr2 hcl2 hA2=>?_;obtain rfl:cs2=[qI _]:=hr2;refine Ze 0 rfl aH rfl hA2 rfl<|Wae ?_;exact aM 4
  ·refine Wc ?_;exact aM 4
  refine aF<|Zaf rfl (fun hc2=>?_) fun hc2=>?_
  ·have hH:=hc2;simp only[bMF,LT]at hH;refine Wh ?_;exact Y1 rfl fun D' hD=>⟨7,s.book,rfl,bU.err Yam,bl,ν6,rfl,I,rfl⟩
  ·have hH:=hc2;simp only[bMG,bLC]at hH;refine aQ<|bM<|Za rfl<|Zao rfl<|Zi rfl iC rfl<|Zp rfl qW rfl Mm0 rfl<|cE rfl U57 rfl I rfl rfl bQK<|Zaw rfl<|aF<|Zaf rfl (fun hc3=>?_) (fun hc3=>?_)
   ·have hI:=hc3;simp only[LT]at hI;refine Wh ?_;exact Y1 rfl fun D' hD=>⟨3,s.book,rfl,bU.err Yam,bl,ν6,rfl,I,rfl⟩
   ·have hI:=hc3;simp only[bLC]at hI;refine aQ<|aA<|Zk rfl<|bK<|Za rfl<|Zay rfl ?_;rw[show decide ((⟨#[104,105,114,101]⟩:Λ)=⟨#[98,114,105,110,103]⟩)=false by decide];refine aF<|Zaf rfl (fun hY=>?_) (fun hY=>?_)
    ·cases hY
    ·refine aQ<|fL hbt Ye fun hap=>pY fun hnd=>?_;have hnu:=fE hap hnd;have hwbo:wb∉dN.mk [bt,wb]:=dN.out Ye;have hbto:bt∉dN.mk [bt,wb]:=dN.out Ye;refine aY (dN.mk [bt,wb]) 2 18 32766<|Za rfl<|Za rfl<|Zao rfl<|Zi rfl iC rfl<|bG rfl qW rfl Mm0 rfl Ym rfl bQK<|Za rfl<|Za rfl<|aX rfl hn<|Za rfl<|aX rfl hn<|Zt [qI 1,qI a,qI b] rfl CM qO rfl ?_;refine Zu rfl U57 kC qO rfl (.cons rfl rfl .nil) fun b901 D901 hD901 hJ=>Zac ([(wb,_)]++ν6++[]) aZW<|HW [(wb,_)] [] TE (⟨1,a,b⟩:C3.eL) rfl U57 rfl rfl kC qO rfl CP rfl rfl rfl I hJ Yd Yq bQK fun v1 νx hx=>Zac ((wb,_)::(νx)) aZW.symm<|Wbn ?_;refine aG ?_;exact Y1 rfl fun D' hD=>⟨0,{s.book with lines:=s.book.lines++[(⟨1,a,b⟩:C3.eL)]},rfl,bU.ok Yam,v1,νx,rfl,hx,rfl⟩
 ·refine aP<|Zay rfl<|Zk rfl<|aF<|Zaf rfl (fun hK=>?_) (fun hK=>?_)
  ·obtain rfl:=bLW hK;obtain⟨hl,rfl⟩:=kH (k2:=2) (act2:=oH 2) hact rfl;obtain⟨a,b,rfl⟩:=d5 hl;obtain⟨bt,ot,ct,rfl⟩:=dM hn Ye;have hbt:=eQ hn;have hF:=hr a Ye;have rB:=hr b Ye;refine bM<|Za rfl<|aX rfl hn<|Wav ?_;refine' cT 5 (s:=16) (p:=21) rfl (fun hg2=>?_) (fun hg2=>?_) ?_;rotate_left
   ·refine Zb rfl<|jI rfl U25 aJ rfl hn rfl Yd rfl rfl ⟨_,rfl,rfl⟩ fun cs6 hr6 hcl6 hA6=>?_;obtain rfl:cs6=[qI _]:=hr6;refine Ze 0 rfl aH rfl hA6 rfl<|Wae ?_;exact aM 4
   ·refine Wc ?_;exact aM 4
   refine aF<|Zaf rfl (fun hN=>?_) fun hN=>?_
   ·have hO:=hN;simp only[bMF,LT]at hO;refine Wh ?_;exact Y1 rfl fun D' hD=>⟨7,s.book,rfl,bU.err Yam,bl,ν6,rfl,I,rfl⟩
   ·have hO:=hN;simp only[bMG,bLC]at hO;refine aQ<|bM<|Za rfl<|Zao rfl<|Zi rfl iC rfl<|Zp rfl qW rfl Mm0 rfl<|cE rfl U57 rfl I rfl rfl bQK<|Zaw rfl<|aF<|Zaf rfl (fun hP=>?_) (fun hP=>?_)
    ·have hR:=hP;simp only[LT]at hR;refine Wh ?_;exact Y1 rfl fun D' hD=>⟨3,s.book,rfl,bU.err Yam,bl,ν6,rfl,I,rfl⟩
    ·have hR:=hP;simp only[bLC]at hR;refine aQ<|aA<|Zk rfl<|bK<|Za rfl<|Zay rfl ?_;rw[show decide ((⟨#[98,114,105,110,103]⟩:Λ)=⟨#[98,114,105,110,103]⟩)=true by decide];refine aF<|Zaf rfl (fun rA=>?_) (fun rA=>?_)
     ·refine aP<|Zk rfl<|aF<|fL hbt Ye fun hap=>pY fun hnd=>?_;have hnu:=fE hap hnd;have hwbo:wb∉dN.mk [bt,wb]:=dN.out Ye;have hbto:bt∉dN.mk [bt,wb]:=dN.out Ye;refine aY (dN.mk [bt,wb]) 2 18 32766<|Za rfl<|Za rfl<|Zao rfl<|Zi rfl iC rfl<|bG rfl qW rfl Mm0 rfl Ym rfl bQK<|Za rfl<|Za rfl<|aX rfl hn<|Za rfl<|aX rfl hn<|Zt [qI 2,qI a,qI b] rfl CM qO rfl ?_;refine Zu rfl U57 kC qO rfl (.cons rfl rfl .nil) fun b902 D902 hD902 hS=>Zac ([(wb,_)]++ν6++[]) aZW<|HW [(wb,_)] [] TE (⟨2,a,b⟩:C3.eL) rfl U57 rfl rfl kC qO rfl CP rfl rfl rfl I hS Yd Yq bQK fun v1 νx hx=>Zac ((wb,_)::(νx)) aZW.symm<|Wbn ?_;refine aG ?_;exact Y1 rfl fun D' hD=>⟨0,{s.book with lines:=s.book.lines++[(⟨2,a,b⟩:C3.eL)]},rfl,bU.ok Yam,v1,νx,rfl,hx,rfl⟩
     ·cases rA
  ·refine aA<|Zay rfl<|Zk rfl<|aF<|Zaf rfl (fun hX=>?_) (fun hX=>?_)
   ·obtain rfl:=bLW hX;obtain⟨hl,rfl⟩:=kH (k2:=1) (act2:=oY) hact rfl;obtain⟨a,rfl⟩:=yD hl;obtain⟨bt,ot,ct,rfl⟩:=dM hn Ye;have hbt:=eQ hn;have hF:=hr a Ye;refine Za5<|Za5<|aY [] 5 9 248<|Wcb ?_;refine Zaf rfl (fun O=>?_) (fun O=>?_)
    ·have R:=O;simp only[LT]at R;refine Wh ?_;exact Y1 rfl fun D' hD=>⟨7,s.book,rfl,bU.err (by unfold oY;simp only[];rw[bNX Yd]),bl,ν6,rfl,I,rfl⟩
    ·have R:=O;simp only[bLC]at R;refine aQ<|Za5<|Za5 ?_;obtain⟨bx,cap,junk,rfl,hcap,rfl,hl1,hE⟩:=I.some Yd;obtain⟨x,hx⟩:=cB s.book.lines (a.toNat);have hlx:=hg.ln x (GT hx);refine aY [] 7 11 112<|Za rfl<|Zao rfl<|Zi rfl iC rfl<|Zp rfl qW rfl Mm0 rfl<|Za rfl<|aX rfl hn<|eU rfl U57 kC rfl rfl Yd Yd rfl bQK<|Zi rfl uP rfl<|bG (v:=qI x.token) rfl aH rfl Mm1 Xcy n4 rfl bQK<|Zan rfl<|aF ?_;refine Zaf rfl (fun U=>?_) (fun U=>?_)
     ·have V:=U;simp only[LT]at V;refine Wh ?_;exact Y1 rfl fun D' hD=>⟨6,s.book,rfl,bU.err (by unfold oY;simp only[];rw[hx];exact bLR Yd),_,[(bx,_)],rfl,bLG ⟨bx,cap,junk,rfl,hcap,rfl,hl1,hE⟩,rfl⟩
     ·have V:=U;simp only[bLC]at V;refine aQ<|aY [] 3 10 112<|Za rfl<|Zao rfl<|Zi rfl iC rfl<|Zp rfl qW rfl Mm0 rfl<|Za rfl<|aX rfl hn<|eU rfl U57 kC rfl rfl Yd Yd rfl bQK<|Zi rfl uP rfl<|Wck ?_;refine Wag ?_;exact Y1 rfl fun D' hD=>⟨0,{s.book with lines:=s.book.lines.set a.toNat {x with token:= -1}},rfl,bU.ok (by unfold oY;simp only[];rw[hx];exact bLI Yd),_,[(bx,_)],rfl,HV TE bNB hcap hl1 hE,rfl⟩
   ·refine aA<|Zay rfl<|Zk rfl<|aF<|Zaf rfl (fun Y=>?_) (fun Y=>?_)
    ·obtain rfl:=bLW Y;obtain⟨hl,rfl⟩:=kH (k2:=1) (act2:=sM) hact rfl;obtain⟨a,rfl⟩:=yD hl;obtain⟨bt,ot,ct,rfl⟩:=dM hn Ye;have hbt:=eQ hn;have hF:=hr a Ye;refine Za5<|Za5<|aY [] 5 9 248<|Wcb ?_;refine Zaf rfl (fun Z=>?_) (fun Z=>?_)
     ·have hB:=Z;simp only[LT]at hB;refine Wh ?_;exact Y1 rfl fun D' hD=>⟨7,s.book,rfl,bU.err Xco,bl,ν6,rfl,I,rfl⟩
     ·have hB:=Z;simp only[bLC]at hB;refine aQ ?_;obtain⟨i,rfl⟩:∃i:Nat,a=(i:Int):=⟨a.toNat,Yd⟩
      have hi:i<s.book.lines.length:=by omega
      obtain⟨bx,cap,junk,rfl,hcap,rfl,hl1,hE⟩:=I.some Yd;refine fL hbt Ye fun hap=>pY fun hnd=>?_;have hnu:=fE hap hnd;have hwbo:wb∉dN.mk [bt,wb]:=dN.out Ye;have hbto:bt∉dN.mk [bt,wb]:=dN.out Ye;have hbx:bx∈dN.mk [bt,wb]:=dN.in_ (hnu (bx,_) bKZ);refine aY (dN.mk [bt,wb]) 2 22 524286<|Za rfl<|Za rfl<|Zao rfl<|Zi rfl iC rfl<|bG rfl qW rfl Mm0 rfl Ym rfl bQK<|Za rfl<|aX rfl hn<|AW (i:=i) rfl U57 kC rfl rfl Yd rfl bQK<|Za rfl<|Zao rfl<|Zi rfl iC rfl ?_;refine bG rfl qW rfl Mm0 rfl Ym rfl bQK<|Za rfl<|aX rfl hn<|Zah rfl<|AI (j:=i+1) rfl U57 kC rfl rfl Yd rfl bQK fun o ho=>aU ([(wb,_)]++(bx,_)::[]) rfl<|QB [(wb,_)] [] TE rfl U57 rfl rfl kC rfl rfl hi hcap ho hl1 hE Ybd bQK fun v1 νx hx=>Zac ((wb,_)::(νx)) bd0<|Zao rfl<|Zi rfl iC rfl<|Zs (cZ s pv cv hv lv mv v1 bc yc yq) rfl hx.cells1 EG .head rfl hx.cell1<|Zap ?_;refine Wag ?_;exact Y1 rfl fun D' hD=>⟨0,{s.book with lines:=s.book.lines.eraseIdx i},rfl,bU.ok (by unfold sM;simp only[];rw[bLI Yd,bMR]),v1,νx,rfl,hx,rfl⟩
    ·refine Wl ?_;exact Y1 rfl fun D' hD=>⟨-1,s.book,rfl,bLL ⟨rfl,rfl,(by simp only[H7,bNA,n4,bND,bQE];exact⟨bLV hc1,bLV hK,bLV hX,bLV Y⟩)⟩,bl,ν6,rfl,I,rfl⟩
theorem aJO(wb:Nat)(s:aO)(pv cv hv lv mv bl bc yc yq nv:Γ)(w:Λ)(ns:List Int)(act:eI)(ν7 ν8:aD)(D:aC)(hn:Sl D RI 1 nv ns)(hact:C6 w ns act)(hw1:w∉uE)(hw2:w∉j9)(hw3:w∉H7)(hr:∀x∈ns,0≤x∧x≤999)(hk:iY s)(_hg:kF s)(I:bD 234 4 yc s.yard.chairs.length (s.yard.chairs.flatMap cH) ν7)(h8:bD 165 2 yq s.yard.claims.length (s.yard.claims.flatMap cP) ν8):kW prog 108 [.pointer (some ⟨wb,14,none⟩),.string w,nv] D ((wb,qC (cZ s pv cv hv lv mv bl bc yc yq) 66)::(ν7++ν8)) (fun _ v ν'=>∃(e:Int) (r:C7.aZ),v=qI e∧bU [w] w act s ns e (GV s r)∧∃yc' yq' ν7' ν8',ν'=(wb,qC (cZ (GV s r) pv cv hv lv mv bl bc yc' yq') 66)::(ν7'++ν8')∧bD 234 4 yc' r.chairs.length (r.chairs.flatMap cH) ν7'∧bD 165 2 yq' r.claims.length (r.claims.flatMap cP) ν8') (fun _=>False):=by
 have k7:=hk.ch;have k8:=hk.cl;refine eH 172 func108 rfl rfl rfl rfl fun h0 hwl hwn=>aA<|Zk rfl<|bK<|Za rfl<|aF<|Za3<|aA<|Zay rfl<|Zk rfl<|aF<|Zaf rfl (fun hc1=>?_) fun hc1=>?_
 ·obtain rfl:=bLW hc1;obtain⟨hl,rfl⟩:=kH (k2:=4) (act2:=sK) hact rfl;obtain⟨a,b,c,d,rfl⟩:=bDJ hl;obtain⟨bt,ot,ct,rfl⟩:=dM hn Ye;have hbt:=eQ hn;have hE:=hr a Ye;have rB:=hr b Ye;have O:=hr c Ye;have hd9:=hr d Ye;refine bM<|Za rfl<|aX rfl hn<|Wav ?_;refine' cT 5 (s:=44) (p:=49) rfl (fun hg1=>?_) (fun hg1=>?_) ?_;rotate_left
  ·refine Zb rfl<|jI rfl U25 aJ rfl hn rfl Yd rfl rfl ⟨_,rfl,rfl⟩ fun cs2 hr2 hcl2 hA2=>?_;obtain rfl:cs2=[qI _]:=hr2;refine Ze 0 rfl aH rfl hA2 rfl<|Wae ?_;exact aM 4
  ·refine Wc ?_;exact aM 4
  refine Za rfl ?_;refine' cT 5 (s:=50) (p:=55) rfl (fun hg2=>?_) (fun hg2=>?_) ?_;rotate_left
  ·refine Zb rfl<|jI rfl U25 aJ rfl hn rfl Yd rfl rfl ⟨_,rfl,rfl⟩ fun cs3 hr3 hcl3 hA3=>?_;obtain rfl:cs3=[qI _]:=hr3;refine Ze 0 rfl aH rfl hA3 rfl<|Wae ?_;exact aM 4
  ·refine Wc ?_;exact aM 4
  refine Za rfl ?_;refine' cT 5 (s:=56) (p:=61) rfl (fun hg3=>?_) (fun hg3=>?_) ?_;rotate_left
  ·refine Zb rfl<|jI rfl U25 aJ rfl hn rfl Yd rfl rfl ⟨_,rfl,rfl⟩ fun cs4 hr4 hcl4 hA4=>?_;obtain rfl:cs4=[qI _]:=hr4;refine Ze 0 rfl aH rfl hA4 rfl<|Wae ?_;exact aM 4
  ·refine Wc ?_;exact aM 4
  refine aF<|Zaf rfl (fun hc2=>?_) fun hc2=>?_
  ·have hF:=hc2;simp only[bMF,LT]at hF;refine Wh ?_;exact Y1 rfl fun D' hD=>⟨2,s.yard,rfl,bU.err Ya1,yc,yq,ν7,ν8,rfl,I,h8⟩
  ·have hF:=hc2;simp only[bMG,bLC]at hF;refine aQ<|bM<|Za rfl<|Zao rfl<|Zi rfl gC rfl<|Zp rfl mN rfl Mm0 rfl<|cE rfl U61 rfl I rfl rfl bQK<|Zaw rfl<|aF<|Zaf rfl (fun hc3=>?_) (fun hc3=>?_)
   ·have hH:=hc3;simp only[LT]at hH;refine Wh ?_;exact Y1 rfl fun D' hD=>⟨3,s.yard,rfl,bU.err Ya1,yc,yq,ν7,ν8,rfl,I,h8⟩
   ·have hH:=hc3;simp only[bLC]at hH;refine aQ<|fL hbt Ye fun hap=>pY fun hnd=>?_;have hnu:=fE hap hnd;have hwbo:wb∉dN.mk [bt,wb]:=dN.out Ye;have hbto:bt∉dN.mk [bt,wb]:=dN.out Ye;refine aY (dN.mk [bt,wb]) 2 24 2097150<|Za rfl<|Za rfl<|Zao rfl<|Zi rfl gC rfl<|bG rfl mN rfl Mm0 rfl Ym rfl bQK<|Za rfl<|aX rfl hn<|Waj ?_;refine Za rfl<|aX rfl hn<|W9 (cs:=[qI b,qI c,qI d]) rfl U232 aJ wR rfl rfl rfl bQK<|kB (cs:=[qI a,qI b,qI c,qI d]) rfl bDF BR rfl Yg rfl bQK<|Zu rfl U61 oX BR rfl (.cons rfl rfl .nil) fun b901 D901 hD901 hI=>Zac ([(wb,_)]++ν7++ν8) aWL<|HW [(wb,_)] ν8 VZ (⟨a,⟨b,c,d⟩⟩:C7.Ch) rfl U61 rfl rfl oX BR rfl aCK rfl rfl rfl I hI Yd Yq bQK fun v1 νx hx=>Zac ((wb,_)::(νx++ν8)) aWL.symm<|Zao rfl<|Zi rfl gC rfl<|Zs (cZ s pv cv hv lv mv bl bc v1 yq) rfl hx.cells1 aBL .head rfl hx.cell1<|Zap ?_;refine Wag ?_;exact Y1 rfl fun D' hD=>⟨0,{s.yard with chairs:=s.yard.chairs++[(⟨a,⟨b,c,d⟩⟩:C7.Ch)]},rfl,bU.ok Ya1,v1,yq,νx,ν8,rfl,hx,h8⟩
 ·refine aA<|Zay rfl<|Zk rfl<|aF<|Zaf rfl (fun hJ=>?_) (fun hJ=>?_)
  ·obtain rfl:=bLW hJ;obtain⟨hl,rfl⟩:=kH (k2:=3) (act2:=tQ) hact rfl;obtain⟨a,b,c,rfl⟩:=bAV hl;obtain⟨bt,ot,ct,rfl⟩:=dM hn Ye;have hbt:=eQ hn;have hE:=hr a Ye;have rB:=hr b Ye;have O:=hr c Ye;refine Za5<|Za5<|aY [] 7 15 248<|Za rfl<|aX rfl hn<|Za rfl<|Zao rfl<|Zi rfl gC rfl<|Zp rfl mN rfl Mm0 rfl<|cE rfl U61 rfl I rfl rfl bQK<|lR rfl rfl rfl rfl bQK<|Za rfl ?_;refine' cT 5 (s:=102) (p:=107) rfl (fun hg4=>?_) (fun hg4=>?_) ?_;rotate_left
   ·refine Zb rfl<|jI rfl U25 aJ rfl hn rfl Yd rfl rfl ⟨_,rfl,rfl⟩ fun cs10 hr10 hcl10 hA10=>?_;obtain rfl:cs10=[qI _]:=hr10;refine Ze 0 rfl aH rfl hA10 rfl<|Wae ?_;exact aM 4
   ·refine Wc ?_;exact aM 4
   refine aF<|Zaf rfl (fun hK=>?_) fun hK=>?_
   ·have hN:=hK;simp only[bMF,LT]at hN;refine Wh ?_;exact Y1 rfl fun D' hD=>⟨7,s.yard,rfl,bU.err (bIY Yd Yd),yc,yq,ν7,ν8,rfl,I,h8⟩
   ·have hN:=hK;simp only[bMG,bLC]at hN;refine aQ<|bM<|Za rfl<|aX rfl hn<|Zas rfl<|aF<|Zaf rfl (fun hO=>?_) (fun hO=>?_)
    ·have hP:=hO;simp only[LT]at hP;refine Wh ?_;exact Y1 rfl fun D' hD=>⟨2,s.yard,rfl,bU.err (bIH Yd Yd Yd),yc,yq,ν7,ν8,rfl,I,h8⟩
    ·have hP:=hO;simp only[bLC]at hP;refine aQ ?_;obtain⟨bx,cap,junk,rfl,hcap,rfl,hl1,hR⟩:=I.some Yd;obtain⟨x,hx⟩:=cB s.yard.chairs (a.toNat);refine aY [] 3 17 32752<|Za rfl<|Zao rfl<|Zi rfl gC rfl<|Zp rfl mN rfl Mm0 rfl<|Za rfl<|aX rfl hn<|Za rfl<|aX rfl hn<|Za rfl<|aX rfl hn<|eU rfl U61 oX rfl rfl Yd Yd rfl bQK ?_;refine Zi rfl P1 rfl<|eV rfl U232 aJ rfl rfl Yd Yd rfl bQK<|PE VZ (x2:={x with parts:=BD x.parts b.toNat c}) (k:=(1+b.toNat)) rfl rfl rfl rfl aJ (.tail .head) hx Yd (aRC Yd) Yd bQK<|Zap<|Wag ?_;exact Y1 rfl fun D' hD=>⟨0,{s.yard with chairs:=s.yard.chairs.set a.toNat {x with parts:=BD x.parts b.toNat c}},rfl,bU.ok (NE hx Yd Yd),_,yq,[(bx,_)],ν8,rfl,HV VZ bNB hcap hl1 hR,h8⟩
  ·refine aA<|Zay rfl<|Zk rfl<|aF<|Zaf rfl (fun hS=>?_) (fun hS=>?_)
   ·obtain rfl:=bLW hS;obtain⟨hl,rfl⟩:=kH (k2:=1) (act2:=HX) hact rfl;obtain⟨a,rfl⟩:=yD hl;obtain⟨bt,ot,ct,rfl⟩:=dM hn Ye;have hbt:=eQ hn;have hE:=hr a Ye;refine bM<|Za rfl<|aX rfl hn<|Zas rfl<|aF<|Zaf rfl (fun hX=>?_) (fun hX=>?_)
    ·have hY:=hX;simp only[LT]at hY;refine Wh ?_;exact Y1 rfl fun D' hD=>⟨2,s.yard,rfl,bU.err Xby,yc,yq,ν7,ν8,rfl,I,h8⟩
    ·have hY:=hX;simp only[bLC]at hY;refine aQ<|aP<|Za rfl<|Za rfl<|aX rfl hn<|Zao rfl<|Zi rfl yC rfl<|bP (ws:=[pv,cv,qI s.row.wrong,qI s.row.off,qI s.table.last,hv,qI s.table.step,lv,mv,qI s.book.chairs,qI s.book.coin,qI s.book.box,bl,bc,yc,qI a,yq]) rfl rfl rfl rfl aJ .head Ye rfl Yk bQK<|Zap<|Za6<|Za1<|aA ?_;refine We ?_;exact Y1 rfl fun D' hD=>⟨0,{s.yard with fit:=a},rfl,bU.ok Xby,yc,yq,ν7,ν8,rfl,I,h8⟩
   ·refine aA<|Zay rfl<|Zk rfl<|aF<|Zaf rfl (fun O=>?_) (fun O=>?_)
    ·obtain rfl:=bLW O;obtain⟨hl,rfl⟩:=kH (k2:=2) (act2:=xI) hact rfl;obtain⟨a,b,rfl⟩:=d5 hl;obtain⟨bt,ot,ct,rfl⟩:=dM hn Ye;have hbt:=eQ hn;have hE:=hr a Ye;have rB:=hr b Ye;refine Za5<|Za5<|aY [] 4 8 56<|Za rfl<|aX rfl hn<|Za rfl<|aX rfl hn<|Zf rfl (fun D1 hD1=>W4 _ _ _ _)<|Zau rfl<|aF<|Zaf rfl (fun R=>?_) (fun R=>?_)
     ·have U:=R;simp only[bPR,bNY,bLC]at U;refine Wh ?_;exact Y1 rfl fun D' hD=>⟨2,s.yard,rfl,bU.err Ya4,yc,yq,ν7,ν8,rfl,I,h8⟩
     ·have U:=R;simp only[bKW,bPA,LT]at U;refine aQ<|bM<|Za rfl<|Zao rfl<|Zi rfl jT rfl<|Zp rfl tI rfl Mm0 rfl<|cE rfl U62 rfl h8 rfl rfl bQK<|Zaw rfl<|aF<|Zaf rfl (fun V=>?_) (fun V=>?_)
      ·have Y:=V;simp only[LT]at Y;refine Wh ?_;exact Y1 rfl fun D' hD=>⟨3,s.yard,rfl,bU.err Ya4,yc,yq,ν7,ν8,rfl,I,h8⟩
      ·have Y:=V;simp only[bLC]at Y;refine aQ<|fL hbt Ye fun hap=>pY fun hnd=>?_;have hnu:=fE hap hnd;have hwbo:wb∉dN.mk [bt,wb]:=dN.out Ye;have hbto:bt∉dN.mk [bt,wb]:=dN.out Ye;refine aY (dN.mk [bt,wb]) 2 17 16382<|Za rfl<|Za rfl<|Zao rfl<|Zi rfl jT rfl<|bG rfl tI rfl Mm0 rfl Ym rfl bQK<|Za rfl<|aX rfl hn<|Za rfl<|aX rfl hn<|Zt [qI a,qI b] rfl aYW CI rfl<|Zu rfl U62 sH CI rfl (.cons rfl rfl .nil) fun b902 D902 hD902 rA=>?_;refine Zac (([(wb,_)]++ν7)++ν8++[]) aIE<|HW ([(wb,_)]++ν7) [] UK (a,b) rfl U62 rfl rfl sH CI rfl aEG rfl rfl rfl h8 rA Yd Yq bQK fun v1 νx hx=>Zac ((wb,_)::(ν7++νx)) aIE.symm<|Zao rfl<|Zi rfl jT rfl<|Zs (cZ s pv cv hv lv mv bl bc yc v1) rfl hx.cells1 QK .head rfl hx.cell1<|Zap<|Wag ?_;exact Y1 rfl fun D' hD=>⟨0,{s.yard with claims:=s.yard.claims++[(a,b)]},rfl,bU.ok Ya4,yc,v1,ν7,νx,rfl,I,hx⟩
    ·obtain rfl:=OE hact hw1 hw2 hw3 (bLV hc1) (bLV hJ) (bLV hS) (bLV O);obtain⟨hl,rfl⟩:=kH (k2:=1) (act2:=oP) hact rfl;obtain⟨a,rfl⟩:=yD hl;obtain⟨bt,ot,ct,rfl⟩:=dM hn Ye;have hbt:=eQ hn;have hE:=hr a Ye;refine Za5<|Za5<|aY [] 5 9 248<|Za rfl<|aX rfl hn<|Za rfl<|Zao rfl<|Zi rfl jT rfl<|Zp rfl tI rfl Mm0 rfl<|cE rfl U62 rfl h8 rfl rfl bQK<|Wbb ?_;refine Zaf rfl (fun Z=>?_) (fun Z=>?_)
     ·have hB:=Z;simp only[LT]at hB;refine Wh ?_;exact Y1 rfl fun D' hD=>⟨7,s.yard,rfl,bU.err Xcp,yc,yq,ν7,ν8,rfl,I,h8⟩
     ·have hB:=Z;simp only[bLC]at hB;refine aQ ?_;obtain⟨i,rfl⟩:∃i:Nat,a=(i:Int):=⟨a.toNat,Yd⟩
      have hi:i<s.yard.claims.length:=by omega
      obtain⟨bx,cap,junk,rfl,hcap,rfl,hl1,hR⟩:=h8.some Yd;refine fL hbt Ye fun hap=>pY fun hnd=>?_;have hnu:=fE hap hnd;have hwbo:wb∉dN.mk [bt,wb]:=dN.out Ye;have hbto:bt∉dN.mk [bt,wb]:=dN.out Ye;have hbx:bx∈dN.mk [bt,wb]:=dN.in_ (hnu (bx,_) (LE _ bKZ));refine aY (dN.mk [bt,wb]) 2 22 524286<|Za rfl<|Za rfl<|Zao rfl<|Zi rfl jT rfl<|bG rfl tI rfl Mm0 rfl Ym rfl bQK<|Za rfl<|aX rfl hn<|AW (i:=i) rfl U62 sH rfl rfl Yd rfl bQK<|Za rfl<|Zao rfl<|Zi rfl jT rfl ?_;refine bG rfl tI rfl Mm0 rfl Ym rfl bQK<|Za rfl<|aX rfl hn<|Zah rfl<|AI (j:=i+1) rfl U62 sH rfl rfl Yd rfl bQK fun o ho=>aU (([(wb,_)]++ν7)++(bx,_)::[]) rfl<|QB ([(wb,_)]++ν7) [] UK rfl U62 rfl rfl sH rfl rfl hi hcap ho hl1 hR Ybd bQK fun v1 νx hx=>Zac ((wb,_)::(ν7++νx)) bKV<|Zao rfl<|Zi rfl jT rfl<|Zs (cZ s pv cv hv lv mv bl bc yc v1) rfl hx.cells1 QK .head rfl hx.cell1<|Zap ?_;refine Wag ?_;exact Y1 rfl fun D' hD=>⟨0,{s.yard with claims:=s.yard.claims.eraseIdx i},rfl,bU.ok (by unfold oP;simp only[];rw[bLI Yd,bMR]),yc,v1,ν7,νx,rfl,I,hx⟩
theorem ZG(sv:Γ)(s:aO)(D:aC)(hs:fW D sv s)(hk:iY s)(hg:kF s):Fn prog 109 #[sv] D (fun _ v=>v=qI (fV s)):=by
 obtain⟨pv,cv,hv,lv,mv,bl,bc,yc,yq,rfl,hL⟩:=hs;unfold cZ;have hcl:=hk.cl;have hp5:2^s.yard.claims.length≤2^5:=bMY Yd Yd;have Y:1≤2^s.yard.claims.length:=Nat.one_le_two_pow;refine Zx 40 func109 rfl fun h0=>aA<|Zab rfl fun q1 E1 rB I=>Zk rfl<|bK<|Zi rfl sS rfl<|Zam 0 rfl x8 J5 rfl I rfl<|Zaa rfl (fun D1 Z=>L1.aKR _ s.row _ (hL.row.up (Z _ Ye)) (hg.rowOk hk)) fun v1 D1 Z Y=>?_;have hJ:=Y;refine Zai rfl U80 rfl hJ rfl<|Zaw rfl<|aF<|Zag rfl (fun hc1=>?_) fun hc1=>?_
 ·have R:C1.truths s.row=[]:=(bOF Yd)
  refine Wcg ?_;exact aE rfl fun D hD=>by show Value.int _ _=_;rw[uQ hk hg];unfold RZ;rw[bLR R]
 ·have R:¬C1.truths s.row=[]:=fun e=>hc1 Xak
  refine aQ<|bM<|Zi rfl nO rfl<|Zam 4 rfl xN tF rfl I rfl<|Zaa rfl (fun D2 hB=>L2.IW _ s.table _ (hL.table.up (hB _ Ye)) (hg.t3 hk)) fun v2 D2 hB hK=>?_;have hN:=hK;refine Zai rfl U80 rfl hN rfl<|Zaw rfl<|aF<|Zag rfl (fun hc2=>?_) fun hc2=>?_
  ·have a2:C2.eY s.table=[]:=(CB fun x=>p6 hk hg).1 (bOF Yd);refine Wcg ?_;exact aE rfl fun D hD=>by show Value.int _ _=_;rw[uQ hk hg];unfold RZ;rw[bLI R,bLR a2]
  ·have a2:¬C2.eY s.table=[]:=fun e=>hc2 (by rw[(CB fun x=>p6 hk hg).2 e];rfl)
   refine aQ<|bM<|Zi rfl nO rfl<|Zam 4 rfl xN tF rfl I rfl<|Zaa rfl (fun D3 hE=>L2.YW _ s.table _ (hL.table.up (hE _ Ye)) (hg.t3 hk)) fun v3 D3 hE hO=>?_;have hP:=hO;refine Zai rfl U80 rfl hP rfl<|Zaw rfl<|aF<|Zag rfl (fun hc3=>?_) fun hc3=>?_
   ·have a3:C2.bN s.table=[]:=(CB fun x=>GJ hk hg).1 (bOF Yd);refine Wcg ?_;exact aE rfl fun D hD=>by show Value.int _ _=_;rw[uQ hk hg];unfold RZ;rw[bLI R,bLI a2,bLR a3]
   ·have a3:¬C2.bN s.table=[]:=fun e=>hc3 (by rw[(CB fun x=>GJ hk hg).2 e];rfl)
    refine aQ<|bM<|Zi rfl yA rfl<|Zam 9 rfl aAU EO rfl I rfl<|Zf rfl (fun D4 hR=>L3.K8 _ s.book 3 _ (hL.book.up (hR _ Ye)) hk.bc Yt)<|Wav ?_;refine' cT 5 (s:=23) (p:=28) rfl (fun hS=>?_) (fun hS=>?_) ?_;rotate_left
    ·refine Zj rfl nP rfl<|jW rfl (k:=14) pN nE rfl I Yc rfl rfl n4 rfl ⟨_,rfl,rfl⟩<|Zg rfl (fun D5 hX=>L7.EB _ s.yard _ (hL.yard.up (hX _ Ye)) (by have:=hk.ch;omega))<|Wae ?_;exact aM 4
    ·refine Wc ?_;exact aM 4
    refine aF<|Zaf rfl (fun U=>?_) fun U=>?_
    ·have a4:4096<C3.tR 3 s.book.lines∨8<C7.dK s.yard.chairs:=by rw[RX hg.ln];have O:=U;simp only[bMF,LT]at O;omega
     refine Wcg ?_;exact aE rfl fun D hD=>by show Value.int _ _=_;rw[uQ hk hg];unfold RZ;rw[bLI R,bLI a2,bLI a3,bLR a4]
    ·have a4:¬(4096<C3.tR 3 s.book.lines∨8<C7.dK s.yard.chairs):=by rw[RX hg.ln];have O:=U;simp only[bMG,bLC]at O;omega
     have hfy:C7.bB s.yard=0:=by rw[hg.fY hk];exact bLI Yd
     refine aQ<|aA<|Zi rfl nP rfl<|Zam 14 rfl pN nE rfl I rfl<|Zaa rfl (fun D6 hF=>L7.XM _ s.yard _ (hL.yard.up (hF _ Ye)) hfy) fun v6 D6 hF hY=>?_;have hA:=hY;refine Zk rfl<|bS<|Za5<|bE [] 4 8 60<|Zi rfl nP rfl<|Zam 14 rfl pN nE rfl I rfl<|Za rfl<|Zi rfl nP rfl<|Zam 14 rfl pN nE rfl I rfl<|Zaa rfl (fun D7 hH=>L7.aZZ _ s.yard _ (hL.yard.up (hH _ Ye)) Yd) fun v7 D7 hH rA=>?_;obtain rfl:=rA;rw[show((2^s.yard.claims.length:Nat):Int)-1=((2^s.yard.claims.length-1:Nat):Int) by omega];refine Zf rfl (fun D8 hI=>L7.bHZ _ _ s.yard (L7.ZD s.yard) (2^s.yard.claims.length-1) _ (hL.yard.up (hI _ Ye)) (hA.up RI.up (hI _ Ye)) hcl Yd)<|Zau rfl<|aF<|Zaf rfl (fun V=>?_) fun V=>?_
     ·have a5:L7.dJ s.yard []=[]:=by have O:=V;rw[RQ hfy]at O;simpa using O
      refine Wcg ?_;exact aE rfl fun D hD=>by show Value.int _ _=_;rw[uQ hk hg];unfold RZ;rw[bLI R,bLI a2,bLI a3,bLI a4,bLR a5]
     ·have a5:¬L7.dJ s.yard []=[]:=by have O:=V;rw[RQ hfy]at O;simpa using O
      refine aQ<|aA<|We ?_;exact aE rfl fun D hD=>by show Value.int _ _=_;rw[uQ hk hg];unfold RZ;rw[bLI R,bLI a2,bLI a3,bLI a4,bLI a5]
end L12
namespace C12
end C12
namespace L12
open C12 Go.Lib
section
variable{P:Program}{X:Cx}{γb:Type}[Membership Nat γb]{bad:γb}{all:Array Oper}{K:Act→Δ→Prop}{Q:Exit→Act→Δ→Prop}
variable{σ:cD}{μ:aD}{Ds:List aC}{os:List (Bool×Nat)}{fl:Bool}{ix d:Nat}{ty:Θ}{pos:String}{aft:Array Edge}{g:Option (Nat×Bool)}{v:Γ}
end
theorem aBE(ls:List Λ):(gT ls).length=ls.length:=bMK _
def aHO(c:C3.Cn):List Γ:=[qI c.after,qI c.lo,qI c.hi]
theorem BT(a b:Int)(D:aC):Fn prog 112 #[.agg #[qI a,qI b]] D (fun _ v=>v=.agg #[qI a,qI b]):=by
 refine Zx 8 func112 rfl fun h0=>aA<|Zab rfl fun R E1 O I=>Zad rfl iG rfl fun U=>aL<|Zi rfl zC rfl<|Zd 0 rfl aH rfl I rfl<|Zi rfl N5 rfl<|Zd 1 rfl aH rfl I rfl<|Zt [qI a,qI b] rfl K9 iG rfl<|Zy rfl cJ ζ<|aG ?_;exact Zo [_] rfl ⟨⟨_,_,_,rfl,Mm0,Or.inr ⟨lL,Xbp,rfl⟩⟩,bQK⟩ fun D hD=>rfl
theorem aCQ(a b:Int)(D:aC):Fn prog 114 #[.agg #[qI a,qI b]] D (fun _ v=>v=.agg #[qI a,qI b]):=by
 refine Zx 8 func114 rfl fun h0=>aA<|Zab rfl fun R E1 O I=>Zad rfl nA rfl fun U=>aL<|Zi rfl aOE rfl<|Zd 0 rfl aH rfl I rfl<|Zi rfl aNL rfl<|Zd 1 rfl aH rfl I rfl<|Zt [qI a,qI b] rfl U8 nA rfl<|Zy rfl eC ζ<|aG ?_;exact Zo [_] rfl ⟨⟨_,_,_,rfl,Mm0,Or.inr ⟨mZ,Xaq,rfl⟩⟩,bQK⟩ fun D hD=>rfl
theorem LQ(sv:Γ)(xs:List Int)(D:aC)(hS:Sl D RI 1 sv xs)(hl:xs.length≤10000000):Fn prog 110 #[sv] D (fun D' v=>Sl D' RI 1 v xs):=by
 refine Zx 5 func110 rfl fun h0=>aA<|Zk rfl<|aL<|Za rfl<|aR (A:=[]) (ν:=[]) (B:=[]) rfl U25 rfl rfl aJ cK rfl kE rfl rfl rfl bD.nil (iL.ints hS) Ye Ye rfl (dI _) Yd (bLL rfl) rfl bQK fun R ν1 I=>We ?_;have O:bD 3 1 R xs.length (ints xs) ν1:=by simpa using I
 refine Zar [] [] O rfl fun V U hF=>?_;exact aE rfl fun D' hD=>(hF.ints rfl Yd).up RI.up (hD _ Ye)
theorem LY(sv:Γ)(xs:List Int)(D:aC)(hS:Sl D RI 1 sv xs)(hl:xs.length≤10000000):Fn prog 111 #[sv] D (fun D' v=>Sl D' RI 1 v xs):=by
 refine Zx 6 func111 rfl fun h0=>aA<|Zk rfl<|aL<|Zu rfl U25 aJ cK rfl .nil fun V Y I O=>Za rfl<|aR (A:=[]) (ν:=[]) (B:=[]) rfl U25 rfl rfl aJ cK rfl kE rfl rfl rfl bD.nil (iL.ints hS) Ye Ye rfl (dI _) Yd (bLL rfl) rfl bQK fun Z ν1 R=>We ?_;have U:bD 3 1 Z xs.length (ints xs) ν1:=by simpa using R
 refine Zar [] [] U rfl fun D2 hB hF=>?_;exact aE rfl fun D' hD=>(hF.ints rfl Yd).up RI.up (hD _ Ye)
theorem aRA(rv:Γ)(r:C1.dB)(D:aC)(hr:mE D rv r)(h1:r.places.length≤100)(h2:r.counts.length≤100):Fn prog 45 #[rv] D (fun D' v=>mE D' v r):=by
 obtain⟨pv,cv,rfl,hp,hc⟩:=hr;refine Zx 39 func45 rfl fun h0=>aA<|Zab rfl fun q1 E1 hR I=>Zad rfl GW rfl fun q2=>bS<|mT [] 3 [false,false,true,true,true,true,true,false,true,false] [.fork [0,1,3,4,5,6] 2 (.fin [7,8]) 8 (.fin [2,7]),.fin [9]] bC (fun _ _ _ h=>eZ (P:=prog) (fn:=f45) _ _ _ h) Yg<|qT<|bQ [(false,0),(false,1),(true,3),(true,4),(true,5),(true,6)] rfl<|Zi rfl jH rfl<|Zd 0 rfl bX rfl I rfl<|Zi rfl GO rfl<|Zd 2 rfl aH rfl I rfl ?_;refine Zi rfl CY rfl<|Zd 3 rfl aH rfl I rfl<|Zap (dV true true rfl rfl ?_ ?_)
 ·refine Zaa rfl (fun D1 V=>LQ _ r.places _ (hp.up RI.up (V _ Ye)) Yd) fun v1 D1 V Y=>?_;obtain⟨va,vc,rfl⟩:=Y.shape;refine Zap<|aV [(false,7),(true,8)] rfl<|Zt [.slice va r.places.length vc,qN,qI r.wrong,qI r.off] rfl aVC GW rfl<|Zad rfl GW rfl fun q3=>Zap<|lI [(false,9)] rfl<|cQ rfl rfl rfl rfl hC Yb Yb ζ Yk bQK<|Zap<|mG<|Za1<|bM<|Zk rfl ?_;refine Wt ?_;rintro⟨k,v,ν⟩ ⟨Z,ha⟩;simp only at Z ha;refine bM<|Za rfl<|Zi rfl iB rfl<|Zd 1 rfl qM rfl I rfl<|Zai rfl U50 rfl hc rfl<|Zan rfl<|aF<|Zag rfl (fun hc1=>?_) (fun hc1=>?_)
  ·have hk:k<r.counts.length:=by omega
   obtain⟨x,hx⟩:=cB r.counts k;refine aQ<|Za5<|Za3<|aA<|Zi rfl iB rfl<|Zd 1 rfl qM rfl I rfl<|Za rfl<|Zw rfl U50 lD rfl hc rfl hx fun b1 o1 hB hE hK hH=>?_;have e1:hB=_:=hE;subst e1;refine Zv rfl OC rfl hH lD<|Zad rfl uF rfl fun q4=>Zy rfl lD ζ<|aF<|Wbf ?_;refine Zp rfl aH rfl Mm0 rfl<|Zt [.bool x.back,qI x.many,qI x.num] rfl QM nS rfl<|Zu rfl U26 gJ nS rfl (.cons rfl rfl .nil) fun hN hO hI O=>aR (A:=[(_,_),(_,_),(_,_)]) (B:=[]) rfl U26 rfl rfl gJ nS rfl BV rfl rfl rfl ha (iL.lit O) Ye rfl Yas Yk Yd (bLL rfl) rfl bQK fun v7 ν7 U=>?_;have hJ:bD 202 3 v7 (k+1) ((r.counts.take (k+1)).flatMap cC) ν7:=by rw[bLA,hx,bLT,bLN];exact U
   refine Zi rfl gF rfl<|bP rfl rfl rfl U.cells1 u7 (.tail ζ) Ye rfl U.cell1 bQK<|Zap<|Wa ?_;exact aI 27 (k+1,v7,ν7) ⟨Yl,hJ⟩ Yl ⟨Ya,bQK⟩ rfl rfl (List.Sublist.cons _ Mm5) fun D h=>⟨D,bLP _ (h),Le.refl D⟩
  ·obtain rfl:k=r.counts.length:=by omega
   rw[bLU]at ha;refine Za8<|Za4<|Za4<|Za9<|Za1<|aA<|Zae rfl jX rfl Mm0 hC<|cQ rfl rfl rfl rfl hC Yb Yb (.tail ζ) Xca bQK<|aG<|Zar [(_,_),(_,_)] [] ha rfl fun D2 hP hF=>?_
   exact Zo [_] rfl ⟨⟨_,_,_,rfl,Mm1,bLG ⟨jX,hC,rfl⟩⟩,bQK⟩ fun D' hD=>⟨_,v,rfl,Y.up RI.up (hD _ Ye),(fN (f:=cC) (R:=RC) (fun _ _=>rfl) (fun _=>rfl) hF Yd).up RC.up (hD _ Ye)⟩
 ·refine Zad rfl GW rfl fun q3=>Zap<|aV [(true,2),(false,7)] rfl<|Zaa rfl (fun D1 V=>LQ _ r.places _ (hp.up RI.up (V _ Ye)) Yd) fun v1 D1 V Y=>?_;obtain⟨va,vc,rfl⟩:=Y.shape;refine Zt [.slice va r.places.length vc,qN,qI r.wrong,qI r.off] rfl aVC GW rfl<|Zap<|lI [(false,9)] rfl<|cQ rfl rfl rfl rfl hC Yb Yb ζ Yk bQK<|Zap<|mG<|Za1<|bM<|Zk rfl<|Wt ?_;rintro⟨k,v,ν⟩ ⟨Z,ha⟩;simp only at Z ha;refine bM<|Za rfl<|Zi rfl iB rfl<|Zd 1 rfl qM rfl I rfl<|Zai rfl U50 rfl hc rfl<|Zan rfl<|aF<|Zag rfl (fun hc1=>?_) (fun hc1=>?_)
  ·have hk:k<r.counts.length:=by omega
   obtain⟨x,hx⟩:=cB r.counts k;refine aQ<|Za5<|Za3<|aA<|Zi rfl iB rfl<|Zd 1 rfl qM rfl I rfl<|Za rfl<|Zw rfl U50 lD rfl hc rfl hx fun b1 o1 hB hE hK hH=>?_;have e1:hB=_:=hE;subst e1;refine Zv rfl OC rfl hH lD<|Zad rfl uF rfl fun q4=>Zy rfl lD ζ<|aF<|Wbf ?_;refine Zp rfl aH rfl Mm0 rfl<|Zt [.bool x.back,qI x.many,qI x.num] rfl QM nS rfl<|Zu rfl U26 gJ nS rfl (.cons rfl rfl .nil) fun hN hO hI O=>aR (A:=[(_,_),(_,_),(_,_)]) (B:=[]) rfl U26 rfl rfl gJ nS rfl BV rfl rfl rfl ha (iL.lit O) Ye rfl Yas Yk Yd (bLL rfl) rfl bQK fun v7 ν7 U=>?_;have hJ:bD 202 3 v7 (k+1) ((r.counts.take (k+1)).flatMap cC) ν7:=by rw[bLA,hx,bLT,bLN];exact U
   refine Zi rfl gF rfl<|bP rfl rfl rfl U.cells1 u7 (.tail ζ) Ye rfl U.cell1 bQK<|Zap<|Wa ?_;exact aI 27 (k+1,v7,ν7) ⟨Yl,hJ⟩ Yl ⟨Ya,bQK⟩ rfl rfl (List.Sublist.cons _ Mm5) fun D h=>⟨D,bLP _ (h),Le.refl D⟩
  ·obtain rfl:k=r.counts.length:=by omega
   rw[bLU]at ha;refine Za8<|Za4<|Za4<|Za9<|Za1<|aA<|Zae rfl jX rfl Mm0 hC<|cQ rfl rfl rfl rfl hC Yb Yb (.tail ζ) Xca bQK<|aG<|Zar [(_,_),(_,_)] [] ha rfl fun D2 hP hF=>?_
   exact Zo [_] rfl ⟨⟨_,_,_,rfl,Mm1,bLG ⟨jX,hC,rfl⟩⟩,bQK⟩ fun D' hD=>⟨_,v,rfl,Y.up RI.up (hD _ Ye),(fN (f:=cC) (R:=RC) (fun _ _=>rfl) (fun _=>rfl) hF Yd).up RC.up (hD _ Ye)⟩
theorem aBI(tv:Γ)(t:C2.aW)(D:aC)(ht:fA D tv t)(h1:t.heights.length≤100)(h2:t.levels.length≤100)(h3:t.marks.length≤100):Fn prog 46 #[tv] D (fun D' v=>fA D' v t):=by
 obtain⟨hv,lv,mv,rfl,hh,hl,hm⟩:=ht;refine Zx 59 func46 rfl fun h0=>aA<|Zab rfl fun q1 E1 hE1 O=>Zad rfl GH rfl fun q2=>bS<|mT [] 3 [false,false,true,true,true,true,true,false,true,false] [.fork [0,1,2,3,4,5] 6 (.fin [7,8]) 8 (.fin [6,7]),.fin [9]] bC (fun _ _ _ h=>eZ (P:=prog) (fn:=f46) _ _ _ h) Yg<|qT<|bQ [(false,0),(false,1),(true,2),(true,3),(true,4),(true,5)] rfl<|Zi rfl X3 rfl<|Zd 0 rfl aH rfl O rfl<|Zi rfl m2 rfl<|Zd 2 rfl aH rfl O rfl ?_;refine Zi rfl sT rfl<|Zd 3 rfl bX rfl O rfl<|Zap (dV true true rfl rfl ?_ ?_)
 ·refine Zaa rfl (fun D1 hB=>LY _ t.levels _ (hl.up RI.up (hB _ Ye)) Yd) fun v1 D1 hB hE=>?_;obtain⟨va,vc,rfl⟩:=hE.shape;refine Zap<|aV [(false,7),(true,8)] rfl<|Zt [qI t.last,qN,qI t.step,.slice va t.levels.length vc,qN] rfl aMN GH rfl<|Zad rfl GH rfl fun q3=>Zap<|lI [(false,9)] rfl<|cQ rfl rfl rfl rfl fS Yb Yb ζ Yk bQK<|Zap<|mG<|Za1<|bM<|Zk rfl ?_;refine Ws ?_;rintro⟨k,w1,ν⟩ ⟨U,ha⟩;simp only at U ha;refine bM<|Za rfl<|Zi rfl jV rfl<|Zd 1 rfl qK rfl O rfl<|Zai rfl U53 rfl hh rfl<|Zan rfl<|aF<|Zag rfl (fun hc1=>?_) (fun hc1=>?_)
  ·have hk:k<t.heights.length:=by omega
   obtain⟨x,hx⟩:=cB t.heights k;refine aQ<|Za5<|Za3<|bE [] 5 12 508<|Zi rfl fQ rfl<|Zp rfl nN rfl Mm0 rfl<|Zi rfl jV rfl<|Zd 1 rfl qK rfl O rfl<|Za rfl<|Zw rfl U53 iW rfl hh rfl hx fun b1 o1 hI hJ rA hK=>?_;have e1:hI=_:=hJ;subst e1;refine Zv rfl wP rfl hK iW<|Zf rfl (fun D2 hN=>BT x.1 x.2 _)<|Zu rfl U29 cJ iG rfl (.cons rfl rfl .nil) (fun rB D901 hO V=>aR (A:=[(_,_),(_,_)]) (B:=[]) rfl U29 rfl rfl cJ iG rfl ET rfl rfl rfl ha (iL.lit V) Ye rfl (by rw[aS (n:=2) fun _=>rfl,bMV,bOA Yd]) Yk Yd (bLL rfl) rfl bQK fun v7 ν7 I=>?_);have Y:bD 93 2 v7 (k+1) ((t.heights.take (k+1)).flatMap cP) ν7:=by rw[bLA,hx,bLT,bLN];exact I
   refine Zi rfl fQ rfl<|bP rfl rfl rfl I.cells1 FM ζ Ye rfl I.cell1 bQK<|Zap<|Wa ?_;exact aI 20 (k+1,v7,ν7) ⟨Yl,Y⟩ Yl ⟨Ya,bQK⟩ rfl rfl Mm5 fun D h=>⟨D,bLP _ (h),Le.refl D⟩
  ·obtain rfl:k=t.heights.length:=by omega
   rw[bLU]at ha;refine Za8<|Za4<|Za4<|Za9<|Za1<|Za5<|Za5<|rF (A:=[(_,_),(_,_)]) (B:=[]) ha rfl fun D8 hD8 hP=>?_;clear U;have hcz:Sl D8 W5 2 w1 t.heights:=fN (f:=cP) (fun _ _=>rfl) (fun _=>rfl) hP Yd;have hH:=hcz.cell1;clear ha;refine Wq ?_;rintro⟨k,v,ν⟩ ⟨U,ha⟩;simp only at U ha;refine bM<|Za rfl<|Zi rfl jS rfl<|Zd 4 rfl tL rfl O rfl<|Zai rfl U54 rfl hm rfl<|Zan rfl<|aF<|Zag rfl (fun hc2=>?_) fun hc2=>?_
   ·have hk:k<t.marks.length:=by omega
    obtain⟨x,hx⟩:=cB t.marks k;refine aQ<|Za5<|Za3<|aA<|Zi rfl jS rfl<|Zd 4 rfl tL rfl O rfl<|Za rfl<|Zw rfl U54 mR rfl hm rfl hx fun b2 o2 hR hS hcl2 hX=>?_;have e2:hR=_:=hS;subst e2;refine Zv rfl NU rfl hX mR<|Zad rfl M7 rfl fun q4=>Zy rfl mR ζ<|aF<|Wba ?_;refine eD rfl wP iW rfl Mm0 rfl rfl n4 rfl bQK<|Zf rfl (fun D3 hD3=>BT x.lo x.hi _)<|Zt [qI x.frm,qI x.to,qI x.lo,qI x.hi] rfl PG nQ rfl<|Zu rfl U30 gW nQ rfl (.cons rfl rfl .nil) (fun b902 D902 hY Z=>aR (A:=[(_,_),(_,_),(_,_)]) (B:=[]) rfl U30 rfl rfl gW nQ rfl CH rfl rfl rfl ha (iL.lit Z) Ye rfl (by rw[aS (n:=4) fun _=>rfl,bMV,bOA Yd]) Yk Yd (bLL rfl) rfl bQK fun v7 ν7 I=>?_);have Y:bD 204 4 v7 (k+1) ((t.marks.take (k+1)).flatMap cM) ν7:=by rw[bLA,hx,bLT,bLN];exact I
    refine Zi rfl gD rfl<|bP rfl rfl rfl I.cells1 o8 (.tail ζ) Ye rfl I.cell1 bQK<|Zap<|Wa ?_;exact aI 28 (k+1,v7,ν7) ⟨Yl,Y⟩ Yl ⟨Ya,bQK⟩ rfl rfl (List.Sublist.cons _ Mm5) fun D h=>⟨D,bLP _ (h),Le.refl D⟩
   ·obtain rfl:k=t.marks.length:=by omega
    rw[bLU]at ha;refine Za8<|Za4<|Za4<|Za9<|Za1<|aA<|Zae rfl iS rfl Mm0 fS<|cQ rfl rfl rfl rfl fS Yb Yb (.tail ζ) (by simp[cell1];exact⟨hH _ Ye,ha.cell1 _ Ye⟩) bQK<|aG<|Zar [(_,_),(_,_)] [] ha rfl fun D2 hN hF=>?_
    exact Zo [_] rfl ⟨⟨_,_,_,rfl,Mm1,bLG ⟨iS,fS,rfl⟩⟩,bQK⟩ fun D' hD=>⟨w1,_,v,rfl,hcz.up W5.up (hD _ Ye),hE.up RI.up (hD _ Ye),(fN (f:=cM) (R:=HB) (fun _ _=>rfl) (fun _=>rfl) hF Yd).up HB.up (hD _ Ye)⟩
 ·refine Zad rfl GH rfl fun q3=>Zap<|aV [(true,6),(false,7)] rfl<|Zaa rfl (fun D1 hB=>LY _ t.levels _ (hl.up RI.up (hB _ Ye)) Yd) fun v1 D1 hB hE=>?_;obtain⟨va,vc,rfl⟩:=hE.shape;refine Zt [qI t.last,qN,qI t.step,.slice va t.levels.length vc,qN] rfl aMN GH rfl<|Zap<|lI [(false,9)] rfl<|cQ rfl rfl rfl rfl fS Yb Yb ζ Yk bQK<|Zap<|mG<|Za1<|bM<|Zk rfl<|Ws ?_;rintro⟨k,w1,ν⟩ ⟨U,ha⟩;simp only at U ha;refine bM<|Za rfl<|Zi rfl jV rfl<|Zd 1 rfl qK rfl O rfl<|Zai rfl U53 rfl hh rfl<|Zan rfl<|aF<|Zag rfl (fun hc1=>?_) (fun hc1=>?_)
  ·have hk:k<t.heights.length:=by omega
   obtain⟨x,hx⟩:=cB t.heights k;refine aQ<|Za5<|Za3<|bE [] 5 12 508<|Zi rfl fQ rfl<|Zp rfl nN rfl Mm0 rfl<|Zi rfl jV rfl<|Zd 1 rfl qK rfl O rfl<|Za rfl<|Zw rfl U53 iW rfl hh rfl hx fun b1 o1 hI hJ rA hK=>?_;have e1:hI=_:=hJ;subst e1;refine Zv rfl wP rfl hK iW<|Zf rfl (fun D2 hN=>BT x.1 x.2 _)<|Zu rfl U29 cJ iG rfl (.cons rfl rfl .nil) (fun rB D901 hO V=>aR (A:=[(_,_),(_,_)]) (B:=[]) rfl U29 rfl rfl cJ iG rfl ET rfl rfl rfl ha (iL.lit V) Ye rfl (by rw[aS (n:=2) fun _=>rfl,bMV,bOA Yd]) Yk Yd (bLL rfl) rfl bQK fun v7 ν7 I=>?_);have Y:bD 93 2 v7 (k+1) ((t.heights.take (k+1)).flatMap cP) ν7:=by rw[bLA,hx,bLT,bLN];exact I
   refine Zi rfl fQ rfl<|bP rfl rfl rfl I.cells1 FM ζ Ye rfl I.cell1 bQK<|Zap<|Wa ?_;exact aI 20 (k+1,v7,ν7) ⟨Yl,Y⟩ Yl ⟨Ya,bQK⟩ rfl rfl Mm5 fun D h=>⟨D,bLP _ (h),Le.refl D⟩
  ·obtain rfl:k=t.heights.length:=by omega
   rw[bLU]at ha;refine Za8<|Za4<|Za4<|Za9<|Za1<|Za5<|Za5<|rF (A:=[(_,_),(_,_)]) (B:=[]) ha rfl fun D8 hD8 hP=>?_;clear U;have hcz:Sl D8 W5 2 w1 t.heights:=fN (f:=cP) (fun _ _=>rfl) (fun _=>rfl) hP Yd;have hH:=hcz.cell1;clear ha;refine Wq ?_;rintro⟨k,v,ν⟩ ⟨U,ha⟩;simp only at U ha;refine bM<|Za rfl<|Zi rfl jS rfl<|Zd 4 rfl tL rfl O rfl<|Zai rfl U54 rfl hm rfl<|Zan rfl<|aF<|Zag rfl (fun hc2=>?_) fun hc2=>?_
   ·have hk:k<t.marks.length:=by omega
    obtain⟨x,hx⟩:=cB t.marks k;refine aQ<|Za5<|Za3<|aA<|Zi rfl jS rfl<|Zd 4 rfl tL rfl O rfl<|Za rfl<|Zw rfl U54 mR rfl hm rfl hx fun b2 o2 hR hS hcl2 hX=>?_;have e2:hR=_:=hS;subst e2;refine Zv rfl NU rfl hX mR<|Zad rfl M7 rfl fun q4=>Zy rfl mR ζ<|aF<|Wba ?_;refine eD rfl wP iW rfl Mm0 rfl rfl n4 rfl bQK<|Zf rfl (fun D3 hD3=>BT x.lo x.hi _)<|Zt [qI x.frm,qI x.to,qI x.lo,qI x.hi] rfl PG nQ rfl<|Zu rfl U30 gW nQ rfl (.cons rfl rfl .nil) (fun b902 D902 hY Z=>aR (A:=[(_,_),(_,_),(_,_)]) (B:=[]) rfl U30 rfl rfl gW nQ rfl CH rfl rfl rfl ha (iL.lit Z) Ye rfl (by rw[aS (n:=4) fun _=>rfl,bMV,bOA Yd]) Yk Yd (bLL rfl) rfl bQK fun v7 ν7 I=>?_);have Y:bD 204 4 v7 (k+1) ((t.marks.take (k+1)).flatMap cM) ν7:=by rw[bLA,hx,bLT,bLN];exact I
    refine Zi rfl gD rfl<|bP rfl rfl rfl I.cells1 o8 (.tail ζ) Ye rfl I.cell1 bQK<|Zap<|Wa ?_;exact aI 28 (k+1,v7,ν7) ⟨Yl,Y⟩ Yl ⟨Ya,bQK⟩ rfl rfl (List.Sublist.cons _ Mm5) fun D h=>⟨D,bLP _ (h),Le.refl D⟩
   ·obtain rfl:k=t.marks.length:=by omega
    rw[bLU]at ha;refine Za8<|Za4<|Za4<|Za9<|Za1<|aA<|Zae rfl iS rfl Mm0 fS<|cQ rfl rfl rfl rfl fS Yb Yb (.tail ζ) (by simp[cell1];exact⟨hH _ Ye,ha.cell1 _ Ye⟩) bQK<|aG<|Zar [(_,_),(_,_)] [] ha rfl fun D2 hN hF=>?_
    exact Zo [_] rfl ⟨⟨_,_,_,rfl,Mm1,bLG ⟨iS,fS,rfl⟩⟩,bQK⟩ fun D' hD=>⟨w1,_,v,rfl,hcz.up W5.up (hD _ Ye),hE.up RI.up (hD _ Ye),(fN (f:=cM) (R:=HB) (fun _ _=>rfl) (fun _=>rfl) hF Yd).up HB.up (hD _ Ye)⟩
theorem DT(sv:Γ)(xs:List C3.eL)(D:aC)(hS:Sl D oE 3 sv xs)(h1:xs.length≤100):Fn prog 113 #[sv] D (fun D' v=>Sl D' oE 3 v xs):=by
 refine Zx 31 func113 rfl fun h0=>aA<|Zk rfl<|aL<|Zk rfl<|bK<|Zk rfl<|aF<|Za3<|Zc (Nat×Γ×aD) (fun g=>xs.length-g.1) (fun g=>g.1≤xs.length∧bD 206 3 g.2.1 g.1 ((xs.take g.1).flatMap cL) g.2.2) (fun g=>[(4,qI (g.1:Int)),(3,g.2.1)]) [(2,_),(0,_)] (fun g=>g.2.2++[]) (fun g=>[D]) (0,qN,[]) ⟨Ye,Xac⟩ ⟨Ya,Ya,bQK⟩ Mm5 ?_;rintro⟨k,v,ν⟩ ⟨O,ha⟩;simp only at O ha;refine bM<|Za rfl<|Za rfl<|Zai rfl U57 rfl hS rfl<|Zan rfl<|aF<|Zag rfl (fun hc1=>?_) fun hc1=>?_
 ·have hk:k<xs.length:=by omega
  obtain⟨x,hx⟩:=cB xs k;refine aQ<|Za5<|Za3<|bE [] 6 20 262142<|Za rfl<|Za rfl<|Za rfl<|Zw rfl U57 kC rfl hS rfl hx fun b1 o1 U V hP Y=>?_;have e1:U=_:=V;subst e1;refine Zi rfl O7 rfl<|Zd 0 rfl aH rfl Y rfl<|Za rfl<|Za rfl<|Zw rfl U57 kC rfl hS rfl hx fun b2 o2 Z hB hR hE=>?_;have e2:Z=_:=hB;subst e2;refine Zi rfl P3 rfl<|Zd 1 rfl aH rfl hE rfl<|Za rfl<|Za rfl<|Zw rfl U57 kC rfl hS rfl hx fun b3 o3 hH hI hX hJ=>?_;have e3:hH=_:=hI;subst e3;refine Zi rfl uP rfl<|Zd 2 rfl aH rfl hJ rfl<|Zt [qI x.kind,qI x.chair,qI x.token] rfl QF jM rfl<|Zu rfl U33 cF jM rfl (.cons rfl rfl .nil) fun hY rA hK I=>aR (A:=[]) (B:=[]) rfl U33 rfl rfl cF jM rfl O9 rfl rfl rfl ha (iL.lit I) Ye rfl Yas Yk Yd (bLL rfl) rfl bQK fun v7 ν7 hN=>?_;have hO:bD 206 3 v7 (k+1) ((xs.take (k+1)).flatMap cL) ν7:=by rw[bLA,hx,bLT,bLN];exact hN
  refine Wz ?_;exact aI 29 (k+1,v7,ν7) ⟨Yl,hO⟩ Yl ⟨Ya,Ya,bQK⟩ rfl rfl Mm5 fun D h=>⟨D,bLP _ (h),Le.refl D⟩
 ·obtain rfl:k=xs.length:=by omega
  rw[bLU]at ha;refine Za8<|Za4<|Za4<|Za9<|Za1<|aA<|Za rfl<|Zk rfl<|aG<|Zar [] [] ha rfl fun D2 rB hF=>?_;exact aE rfl fun D' hD=>(fN (f:=cL) (R:=oE) (fun _ _=>rfl) (fun _=>rfl) hF Yd).up oE.up (hD _ Ye)
theorem aHW(bv:Γ)(b:C3.bH)(D:aC)(hb:gK D bv b)(h1:b.lines.length≤100)(h2:b.counts.length≤100):Fn prog 47 #[bv] D (fun D' v=>gK D' v b):=by
 obtain⟨lv,cv,rfl,hl,hc⟩:=hb;refine Zx 42 func47 rfl fun h0=>aA<|Zab rfl fun q1 E1 rA I=>Zad rfl T8 rfl fun q2=>bS<|mT [] 3 [false,false,true,true,true,true,true,true,true,false,true,false] [.fork [0,1,2,3,4,5,6,7] 8 (.fin [9,10]) 10 (.fin [8,9]),.fin [11]] bC (fun _ _ _ h=>eZ (P:=prog) (fn:=f47) _ _ _ h) Yg<|qT<|bQ [(false,0),(false,1),(true,2),(true,3),(true,4),(true,5),(true,6),(true,7)] rfl<|Zi rfl FI rfl<|Zd 0 rfl aH rfl I rfl<|Zi rfl aRL rfl<|Zd 1 rfl aH rfl I rfl ?_;refine Zi rfl aSF rfl<|Zd 2 rfl aH rfl I rfl<|Zi rfl iC rfl<|Zd 3 rfl qW rfl I rfl<|Zap (dV true true rfl rfl ?_ ?_)
 ·refine Zaa rfl (fun D1 V=>DT _ b.lines _ (hl.up oE.up (V _ Ye)) h1) fun v1 D1 V Y=>?_;obtain⟨va,vc,rfl⟩:=Y.shape;refine Zap<|aV [(false,9),(true,10)] rfl<|Zt [qI b.chairs,qI b.coin,qI b.box,.slice va b.lines.length vc,qN] rfl aNW T8 rfl<|Zad rfl T8 rfl fun q3=>Zap<|lI [(false,11)] rfl<|cQ rfl rfl rfl rfl dU Yb Yb ζ Yk bQK<|Zap<|mG<|Za1<|bM<|Zk rfl ?_;refine Wr ?_;rintro⟨k,v,ν⟩ ⟨Z,ha⟩;simp only at Z ha;refine bM<|Za rfl<|Zi rfl yN rfl<|Zd 4 rfl y0 rfl I rfl<|Zai rfl U58 rfl hc rfl<|Zan rfl<|aF<|Zag rfl (fun hc1=>?_) (fun hc1=>?_)
  ·have hk:k<b.counts.length:=by omega
   obtain⟨x,hx⟩:=cB b.counts k;refine aQ<|Za5<|Za3<|bE [] 7 20 131068<|Zi rfl jG rfl<|Zp rfl tD rfl Mm0 rfl<|Zi rfl yN rfl<|Zd 4 rfl y0 rfl I rfl<|Za rfl<|Zw rfl U58 CE rfl hc rfl hx fun b1 o1 hB hE hR hH=>?_;have e1:hB=_:=hE;subst e1;refine Zi rfl KG rfl<|Zd 0 rfl aH rfl hH rfl<|Zi rfl yN rfl<|Zd 4 rfl y0 rfl I rfl<|Za rfl<|Zw rfl U58 CE rfl hc rfl hx fun b2 o2 hI hJ hS hK=>?_;have e2:hI=_:=hJ;subst e2;refine Zi rfl JN rfl<|Zam 1 rfl aUN aAH rfl hK rfl<|Zf rfl (fun D2 hN=>aCQ x.lo x.hi _)<|Zt [qI x.after,qI x.lo,qI x.hi] rfl MM sL rfl<|Zu rfl U34 lE sL rfl (.cons rfl rfl .nil) fun hX hY hO O=>aR (A:=[(_,_),(_,_)]) (B:=[]) rfl U34 rfl rfl lE sL rfl NS rfl rfl rfl ha (iL.lit O) Ye rfl Yas Yk Yd (bLL rfl) rfl bQK fun v7 ν7 U=>?_;have hP:bD 208 3 v7 (k+1) ((b.counts.take (k+1)).flatMap aHO) ν7:=by rw[bLA,hx,bLT,bLN];exact U
   refine Zi rfl jG rfl<|bP rfl rfl rfl U.cells1 FZ ζ Ye rfl U.cell1 bQK<|Zap<|Wa ?_;exact aI 28 (k+1,v7,ν7) ⟨Yl,hP⟩ Yl ⟨Ya,bQK⟩ rfl rfl Mm5 fun D h=>⟨D,bLP _ (h),Le.refl D⟩
  ·obtain rfl:k=b.counts.length:=by omega
   rw[bLU]at ha;refine Za8<|Za4<|Za4<|Za9<|Za1<|aA<|Zae rfl eT rfl Mm0 dU<|cQ rfl rfl rfl rfl dU Yb Yb (.tail ζ) Xca bQK<|aG<|Zar [(_,_),(_,_)] [] ha rfl fun D2 hN hF=>?_
   exact Zo [_] rfl ⟨⟨_,_,_,rfl,Mm1,bLG ⟨eT,dU,rfl⟩⟩,bQK⟩ fun D' hD=>⟨_,v,rfl,Y.up oE.up (hD _ Ye),(fN (f:=aHO) (R:=tC) (fun _ _=>rfl) (fun _=>rfl) hF Yd).up tC.up (hD _ Ye)⟩
 ·refine Zad rfl T8 rfl fun q3=>Zap<|aV [(true,8),(false,9)] rfl<|Zaa rfl (fun D1 V=>DT _ b.lines _ (hl.up oE.up (V _ Ye)) h1) fun v1 D1 V Y=>?_;obtain⟨va,vc,rfl⟩:=Y.shape;refine Zt [qI b.chairs,qI b.coin,qI b.box,.slice va b.lines.length vc,qN] rfl aNW T8 rfl<|Zap<|lI [(false,11)] rfl<|cQ rfl rfl rfl rfl dU Yb Yb ζ Yk bQK<|Zap<|mG<|Za1<|bM<|Zk rfl<|Wr ?_;rintro⟨k,v,ν⟩ ⟨Z,ha⟩;simp only at Z ha;refine bM<|Za rfl<|Zi rfl yN rfl<|Zd 4 rfl y0 rfl I rfl<|Zai rfl U58 rfl hc rfl<|Zan rfl<|aF<|Zag rfl (fun hc1=>?_) (fun hc1=>?_)
  ·have hk:k<b.counts.length:=by omega
   obtain⟨x,hx⟩:=cB b.counts k;refine aQ<|Za5<|Za3<|bE [] 7 20 131068<|Zi rfl jG rfl<|Zp rfl tD rfl Mm0 rfl<|Zi rfl yN rfl<|Zd 4 rfl y0 rfl I rfl<|Za rfl<|Zw rfl U58 CE rfl hc rfl hx fun b1 o1 hB hE hR hH=>?_;have e1:hB=_:=hE;subst e1;refine Zi rfl KG rfl<|Zd 0 rfl aH rfl hH rfl<|Zi rfl yN rfl<|Zd 4 rfl y0 rfl I rfl<|Za rfl<|Zw rfl U58 CE rfl hc rfl hx fun b2 o2 hI hJ hS hK=>?_;have e2:hI=_:=hJ;subst e2;refine Zi rfl JN rfl<|Zam 1 rfl aUN aAH rfl hK rfl<|Zf rfl (fun D2 hN=>aCQ x.lo x.hi _)<|Zt [qI x.after,qI x.lo,qI x.hi] rfl MM sL rfl<|Zu rfl U34 lE sL rfl (.cons rfl rfl .nil) fun hX hY hO O=>aR (A:=[(_,_),(_,_)]) (B:=[]) rfl U34 rfl rfl lE sL rfl NS rfl rfl rfl ha (iL.lit O) Ye rfl Yas Yk Yd (bLL rfl) rfl bQK fun v7 ν7 U=>?_;have hP:bD 208 3 v7 (k+1) ((b.counts.take (k+1)).flatMap aHO) ν7:=by rw[bLA,hx,bLT,bLN];exact U
   refine Zi rfl jG rfl<|bP rfl rfl rfl U.cells1 FZ ζ Ye rfl U.cell1 bQK<|Zap<|Wa ?_;exact aI 28 (k+1,v7,ν7) ⟨Yl,hP⟩ Yl ⟨Ya,bQK⟩ rfl rfl Mm5 fun D h=>⟨D,bLP _ (h),Le.refl D⟩
  ·obtain rfl:k=b.counts.length:=by omega
   rw[bLU]at ha;refine Za8<|Za4<|Za4<|Za9<|Za1<|aA<|Zae rfl eT rfl Mm0 dU<|cQ rfl rfl rfl rfl dU Yb Yb (.tail ζ) Xca bQK<|aG<|Zar [(_,_),(_,_)] [] ha rfl fun D2 hN hF=>?_
   exact Zo [_] rfl ⟨⟨_,_,_,rfl,Mm1,bLG ⟨eT,dU,rfl⟩⟩,bQK⟩ fun D' hD=>⟨_,v,rfl,Y.up oE.up (hD _ Ye),(fN (f:=aHO) (R:=tC) (fun _ _=>rfl) (fun _=>rfl) hF Yd).up tC.up (hD _ Ye)⟩
theorem aKI(D:aC):Fn prog 43 #[] D (fun D' v=>fW D' v I5):=by
 refine Zx 17 func43 rfl fun h0=>aA<|Zad rfl G3 rfl fun q1=>aL<|Zad rfl G3 rfl fun q2=>aL<|Zu rfl U25 aJ cK rfl (.cons rfl rfl (.cons rfl rfl (.cons rfl rfl (.cons rfl rfl .nil)))) fun V hE Z I=>?_;have O:=Sl.ofInts (l:=[_,_,_,_]) (n:=4) (cap:=4) I rfl Yd Yd;refine Zt [qS V 4 4,qN,qI 0,qI 1] rfl bGR bGS rfl<|Zi rfl sS rfl<|Zr rfl J5 ζ rfl<|aL<|Zt [qI 5,qI 5] rfl O2 tX rfl<|Zt [qI 5,qI 5] rfl O2 tX rfl<|Zt [qI 5,qI 5] rfl O2 tX rfl<|Zt [qI 5,qI 5] rfl O2 tX rfl<|Zu rfl U53 iW tX rfl (.cons rfl rfl (.cons rfl rfl (.cons rfl rfl (.cons rfl rfl .nil)))) fun Y hF hB U=>Zt [qI 3,qS Y 4 4,qI 5,qN,qN] rfl bES bGG rfl<|Zi rfl nO rfl<|Zr rfl tF ζ rfl ?_;refine aL<|Zt [qI 3,qI 5,qI 20,qN,qN] rfl bFM bHO rfl<|Zi rfl yA rfl<|Zr rfl EO ζ rfl<|aL<|Zt [qN,qI 1,qN] rfl bGP bGX rfl<|Zi rfl nP rfl<|Zr rfl nE ζ rfl<|aL<|Zae rfl mL rfl Mm0 gR<|cQ rfl rfl rfl rfl gR Yb Yb (.tail ζ) Yk bQK<|aG ?_;exact Zo [_] rfl ⟨⟨_,_,_,rfl,Mm1,Or.inr ⟨mL,gR,rfl⟩⟩,bQK⟩ fun D' hD=>⟨_,_,_,_,_,_,_,_,_,rfl,⟨O.up RI.up (hD _ Ye),Sl.nil,(fN (f:=cP) (R:=W5) (xs:=[(5,5),(5,5),(5,5),(5,5)]) (fun _ _=>rfl) (fun _=>rfl) (bLG ⟨_,4,rfl,Yt,U⟩) Yt).up W5.up (hD _ Ye),Sl.nil,Sl.nil,Sl.nil,Sl.nil,Sl.nil,Sl.nil⟩⟩
theorem aAR(sv:Γ)(s:aO)(D:aC)(hs:fW D sv s)(hk:iY s)(h5:s.book.counts.length≤100):Fn prog 17 #[sv] D (fun D' v=>fW D' v s):=by
 obtain⟨pv,cv,hv,lv,mv,bl,bc,yc,yq,rfl,hL⟩:=hs;unfold cZ;refine Zx 16 func17 rfl fun h0=>aA<|Zab rfl fun q1 E1 hE1 I=>Zad rfl oG rfl fun q2=>bS<|iZ [] 5 [0,1,3,4,6,7,9,10,2,5,8,11,12,13] [false,false,true,true,true,true,true,true,true,true,true,false,false,false] [(false,0),(false,1),(true,3),(true,4),(true,6),(true,7),(true,9),(true,10),(true,2),(true,5),(true,8),(false,11),(false,12),(false,13)] bC (fun _ _ _ h=>eZ (P:=prog) (fn:=f17) _ _ _ h) Yg rfl<|Zi rfl sS rfl<|Zam 0 rfl x8 J5 rfl I rfl<|Zi rfl nO rfl<|Zam 4 rfl xN tF rfl I rfl<|Zi rfl yA rfl<|Zam 9 rfl aAU EO rfl I rfl ?_;refine Zi rfl nP rfl<|Zam 14 rfl pN nE rfl I rfl<|Zaa rfl (fun D1 Z=>aRA _ s.row _ (hL.row.up (Z _ Ye)) (by have:=hk.pl;omega) (by have:=hk.ct;omega)) fun v1 D1 Z hK=>?_
 obtain⟨hN,hO,rfl,O,hc2⟩:=hK;refine Zaa rfl (fun D2 hB=>aBI _ s.table _ (hL.table.up (hB _ Ye)) (by have:=hk.ht;omega) (by have:=hk.lev;omega) (by have:=hk.mks;omega)) fun v2 D2 hB O=>?_
 obtain⟨hP,hR,hS,rfl,hE,hF,hH⟩:=O;refine Zaa rfl (fun D3 hI=>aHW _ s.book _ (hL.book.up (hI _ Ye)) (by have:=hk.ln;omega) h5) fun v3 D3 hI hX=>?_
 obtain⟨hY,rA,rfl,R,U⟩:=hX;refine Zaa rfl (fun D4 hJ=>L7.aRT _ s.yard _ (hL.yard.up (hJ _ Ye)) (by have:=hk.ch;omega) (by have:=hk.cl;omega)) fun v4 D4 hJ rB=>?_
 obtain⟨yc2,yq2,rfl,V,Y⟩:=rB;refine kB (cs:=[hN,hO,qI s.row.wrong,qI s.row.off,qI s.table.last,hP,qI s.table.step,hR,hS,qI s.book.chairs,qI s.book.coin,qI s.book.box,hY,rA,yc2,qI s.yard.fit,yq2]) rfl XU oG rfl Yg rfl bQK<|Zz rfl eE ζ (by simp[cell1];exact⟨O.cell1 _ Ye,hc2.cell1 _ Ye,hE.cell1 _ Ye,hF.cell1 _ Ye,hH.cell1 _ Ye,R.cell1 _ Ye,U.cell1 _ Ye,V.cell1 _ Ye,Y.cell1 _ Ye⟩)<|aG ?_
 exact Zo [_] rfl ⟨⟨_,_,_,rfl,Mm0,bLG ⟨kG,eE,rfl⟩⟩,bQK⟩ fun D' hD=>⟨_,_,_,_,_,_,_,_,_,rfl,⟨O.up RI.up (hD _ Ye),hc2.up RC.up (hD _ Ye),hE.up W5.up (hD _ Ye),hF.up RI.up (hD _ Ye),hH.up HB.up (hD _ Ye),R.up oE.up (hD _ Ye),U.up tC.up (hD _ Ye),V.up xW.up (hD _ Ye),Y.up R2.up (hD _ Ye)⟩⟩
end L12
end Go.Fs
