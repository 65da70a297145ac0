/- Of the proof of BookAgain: BW23, File, BW24, Copy, BW25, Eq8, BW26, BW28, Lit, BW29, BW30, BW31, Eq9. -/
import Derived.Test.YtelhnbcdablgoaaGreatDoorZBookAgainAN
import Derived.Test.YtelhnbcdablgoaaGreatDoorZBookAgainAJ
import Derived.Test.YtelhnbcdablgoaaGreatDoorZBookAgainAE
import Derived.Laws.IdiomStrings
import Derived.Test.YtelhnbcdablgoaaGreatDoorZBookAgainAC
namespace Go.Fs
open Go.Proofs
namespace L12
open C12 Go.Lib
def NB(x:Int):Prop:= -1000≤x∧x≤100000
def aGA(s:aH):Int×Int:=if C1.dE s.row (C1.oP s.row 0 ((s.row.places.length:Int)-1))=0 then(C1.TY (C1.truths s.row) (0:Int).toNat ((s.row.places.length:Int)-1).toNat,C1.ZI (C1.truths s.row) (0:Int).toNat ((s.row.places.length:Int)-1).toNat)else(0,0)
def BW(s:aH)(k:Nat):Int×Int:=if C2.kI s.table (C1.fP (k:Int) 0 ((s.table.levels.length:Int)-1))=0 then C2.YQ s.table (s.table.levels.getD (k:Int).toNat 0)else(0,0)
def aDI(s:aH):Int:=if C2.kI s.table (C2.oI s.table.last 0 s.table.last)=0 then C2.aKA s.table 0 s.table.last else 0
def OI(s:aH):Int×Int:=if C3.uQ s.book (C1.fP (s.book.lines.length:Int) 0 (s.book.lines.length:Int))=0 then L3.FM (fun s=>s.money) s.book (s.book.lines.length:Int).toNat else(0,0)
def EI(s:aH):Int×Int:=if C3.uQ s.book true=0 then L3.FM (fun s=>s.mixed) s.book s.book.lines.length else(0,0)
structure XU(s:aH):Prop where
 ch:NB (aGA s).1∧NB (aGA s).2
 le:NB (C1.pV s.row)
 wet:∀k,k<s.table.levels.length→NB (BW s k).1∧NB (BW s k).2
 dry:NB (aDI s)
 lv:∀x∈(L3.dT s.book).1,NB x
 lvn:(L3.dT s.book).1.length≤100
 lev:s.table.levels.length≤6
 mon:NB (OI s).1∧NB (OI s).2
 mix:NB (EI s).1∧NB (EI s).2
 wh:NB (L7.eL s.yard).1.1∧NB (L7.eL s.yard).1.2
 su:NB (L7.lQ s.yard).2.1
def r1(s:aH):List UInt8:=qY [99,104,97,105,114,115] (aGA s).1 (aGA s).2
def r2(s:aH):List UInt8:=r1 s++R1 [108,101,97,115,116] (C1.pV s.row)
def r3(s:aH)(k:Nat):List UInt8:=r2 s++(List.range k).flatMap fun i=>qY [119,101,116] (BW s i).1 (BW s i).2
def r4(s:aH):List UInt8:=r3 s s.table.levels.length++R1 [100,114,121] (aDI s)
def r5(s:aH):List UInt8:=r4 s++[108,101,97,118,101]
def r6(s:aH)(k:Nat):List UInt8:=r5 s++((L3.dT s.book).1.take k).flatMap fun i=>32::itoa i
def r7(s:aH):List UInt8:=r6 s (L3.dT s.book).1.length++[10]
def aGP(s:aH):List UInt8:=r7 s++qY [109,111,110,101,121] (OI s).1 (OI s).2
def r8(s:aH):List UInt8:=if(L3.dT s.book).1=[]then aGP s++qY [109,105,120,101,100] (EI s).1 (EI s).2 else r7 s
def r9(s:aH):List UInt8:=r8 s++qY [119,104,111,108,101] (L7.eL s.yard).1.1 (L7.eL s.yard).1.2
def lI(s:aH):List UInt8:=r9 s++R1 [115,117,114,101] (L7.lQ s.yard).2.1
def yP(ls:List ByteArray):List UInt8×Int:=if(aM ls).2.2=0 then(lI (aM ls).1,0)else([],(aM ls).2.2)
section
variable{s:aH}
theorem aJY:r1 s=[]++qY [99,104,97,105,114,115] (aGA s).1 (aGA s).2:=rfl
theorem aJZ:r2 s=r1 s++R1 [108,101,97,115,116] (C1.pV s.row):=rfl
theorem aJT:r4 s=r3 s s.table.levels.length++R1 [100,114,121] (aDI s):=rfl
theorem aKB:r5 s=r4 s++[108,101,97,118,101]:=rfl
theorem aKI:r7 s=r6 s (L3.dT s.book).1.length++[10]:=rfl
theorem NH{k:Nat}:r3 s (k+1)=r3 s k++qY [119,101,116] (BW s k).1 (BW s k).2:=by unfold r3;rw[aOF,aND,aNT,aMK]
theorem aER{k:Nat}{x:Int}(h:(L3.dT s.book).1[k]?= some x):r6 s (k+1)=r6 s k++((⟨#[32]⟩:ByteArray)++uZ (itoa x)).data.toList:=by
 unfold r6;rw[aMN,h]
 simp[uZ]
theorem aHQ(h:(L3.dT s.book).1=[]):r8 s=aGP s++qY [109,105,120,101,100] (EI s).1 (EI s).2:=aMT h
theorem aKG(h:(L3.dT s.book).1≠[]):r8 s=r7 s:=aMM h
theorem rZ(s:aH):lI s≠[]:=by unfold lI R1;simp
theorem tV{w:List UInt8}{lo hi:Int}(h:NB lo∧NB hi):(qY w lo hi).length≤w.length+18:=by
 have h1:=jJ h.1.1 h.1.2;have h2:=jJ h.2.1 h.2.2
 simp only[qY,aLY,aMI,aNX];omega
theorem MB{w:List UInt8}{n:Int}(h:NB n):(R1 w n).length≤w.length+9:=by
 have h1:=jJ h.1 h.2;simp only[R1,aLY,aMI,aNX];omega
variable(h:XU s)
include h
theorem aAK:(r1 s).length≤30:=by have:=tV (w:=[99,104,97,105,114,115]) h.ch;unfold r1;simp only[aMI,aNX]at this;omega
theorem aHO:(r2 s).length≤60:=by have:=MB (w:=[108,101,97,115,116]) h.le;have h1:=aAK h;unfold r2;simp only[aMI,aNX]at this;rw[aLY];omega
theorem AM:∀k,k≤s.table.levels.length→(r3 s k).length≤60+30*k
 |0,_=>by have:=aHO h;unfold r3;simpa using this
 |k+1,hk=>by
  have:=AM k Yd;have h2:=tV (w:=[119,101,116]) (h.wet k Yd);rw[NH,aLY];simp only[aMI,aNX]at h2;omega
theorem ZZ:(r4 s).length≤300:=by have h1:=AM h _ (aMS _);have h0:=h.lev;have:=MB (w:=[100,114,121]) h.dry;unfold r4;simp only[aMI,aNX]at this;rw[aLY];omega
theorem aHW:(r5 s).length≤310:=by have h1:=ZZ h;unfold r5;rw[aLY];simp only[aMI,aNX];omega
theorem JO(k:Nat):(r6 s k).length≤1200:=by
 have h1:=aHW h;have key:∀l:List Int,(∀x∈l,NB x)→(l.flatMap fun i=>32::itoa i).length≤8*l.length:=by
  intro l;induction l with
  |nil=>intro _;simp
  |cons a l ih=>
   intro hl;have h1:=jJ (hl a Ye).1 (hl a Ye).2;have h2:=ih fun x hx=>hl x (by simp[hx])
   rw[aNQ,aLY];simp only[aMI];omega
 have h2:=key ((L3.dT s.book).1.take k) fun x hx=>h.lv x (aRD hx)
 have h3:=h.lvn;have h4:((L3.dT s.book).1.take k).length≤100:=by rw[aON];omega
 unfold r6;rw[aLY];omega
theorem IJ:(r7 s).length≤1300:=by have h1:=JO h (L3.dT s.book).1.length;unfold r7;rw[aLY];simp only[aMI,aNX];omega
theorem MU:(aGP s).length≤1400:=by have h1:=IJ h;have:=tV (w:=[109,111,110,101,121]) h.mon;unfold aGP;simp only[aMI,aNX]at this;rw[aLY];omega
theorem GZ:(r8 s).length≤1500:=by
 unfold r8;split
 ·have h1:=MU h;have:=tV (w:=[109,105,120,101,100]) h.mix;simp only[aMI,aNX]at this;rw[aLY];omega
 ·have h1:=IJ h;omega
theorem XN:(r9 s).length≤1600:=by have h1:=GZ h;have:=tV (w:=[119,104,111,108,101]) h.wh;unfold r9;simp only[aMI,aNX]at this;rw[aLY];omega
end
theorem b9{x:Int}(h:NB x):((⟨#[32]⟩:ByteArray)++uZ (itoa x)).size≤10:=by
 have:=jJ h.1 h.2;rw[aPP,zH,qZ];simp only[aNG,aMI,aNX];omega
theorem vO{b:Nat}{l:List UInt8}{ν B:aC}{h0:H0}{lo:Nat}{D0 D:aA}{w:World}(h:dV b l ν)(hl:l≠[])(hs:fU h0 lo D0 [] (ν++B) D w):IsBuilder 115 5 (max 1 h0.size) b (byteCells l) w∧max 1 h0.size≤w.heap.size:=by
 obtain⟨p,v,ν1,rfl,hp,ha,hcb⟩:=h;have hlen:0<l.length:=aPI.2 hl;obtain⟨g,cap,junk,rfl,hcap,rfl,h1,h2⟩:=ha.some hlen;obtain⟨k1,k2,k3⟩:=hs.box _ (aMG _ aMF);obtain⟨g1,g2,g3⟩:=hs.box _ (aMG _ (aLZ _ aMF));have hlo:=hs.hlo;have kb:=hs.agr.ne0 k2;have gb:=hs.agr.ne0 g2
 have hk:lo≤b:=k3.resolve_right Ye;have hg:lo≤g:=g3.resolve_right Ye;have hne:g≠b:=fun e=>by
  have:=hs.nd;simp[e]at this
 have hat:BuilderAt 115 5 (max 1 h0.size) b (.pointer p) (byteCells l) w:=by
  refine⟨by omega,_,k1,⟨by rw[byteCells_length];omega,aMD ⟨g,cap,(bc l++junk).toArray,by rw[byteCells_length],by omega,g1,by rw[byteCells_length];exact hcap,hcb _ _ _ rfl,by simpa using h2,?_⟩⟩,by simp[Value.ownBlock];exact hne⟩;rw[byteCells_length];show(bc l++junk).take (l.length*1)=bc l;rw[←h1,aQM]
 refine⟨?_,?_⟩
 ·rcases hp with rfl|rfl
  ·exact aMR hat
  ·exact aMD hat
 ·have:=bE k1;omega
theorem RR(lv:Value)(ls:List ByteArray)(D:aA)(hS:Sl D RS 1 lv ls)(hV:kG D)(hR0:(aM ls).2.2=0→XU (aM ls).1):Fn Tryz.prog 21 #[lv] D (fun _ v=>v=.tuple #[.string (uZ (yP ls).1),.int .i64 (yP ls).2]):=by
 refine enter 175 Tryz.func21 rfl rfl rfl rfl fun h0=>C.s1<|Zi rfl<|Zi rfl<|L.n3<|Za rfl<|bZ rfl rfl rfl (fun D1 hD1=>xQ _ ls _ (hS.up RS.up (hD1 _ Ye)) (hV.up (hD1 _ Ye))) rfl cW (fun v1 D1 hD1 hp1=>?_)
 obtain⟨w1,w2,rfl,⟨pv,cv,hv,lv,mv,bl,bc,yc,yq,rfl,hL⟩,hes⟩:=hp1;have hpl7:(aM ls).1.row.places.length≤7:=L8 ls;have hln8:(aM ls).1.book.lines.length≤8:=N6 ls;unfold bX;refine Za rfl<|Zab rfl<|Zab rfl<|Zab rfl<|Zv rfl Tf.z42 rfl (fun q1=>bK rfl rfl rfl rfl Tf.s42 Yb Yb (bS.head) (gR hL) trivial<|Zi rfl<|Zi rfl<|L.n4<|Za rfl<|Zaf rfl<|L.n1 ?_);refine aE rfl (fun hc1=>?_) (fun hc1=>?_)
 ·have hf:(aM ls).2.2≠0:=by simpa using hc1
  refine C.s1<|Za rfl<|Zi rfl<|Zi rfl<|L.n5<|Zah ?_;exact Zm [_,_] rfl C.rs (fun D hD=>by unfold yP;rw[aMM hf];rfl)
 ·have hf:(aM ls).2.2=0:=by simpa using hc1
  have hR:=hR0 hf;have hlev6:=hR.lev;have hlvn:=hR.lvn;refine C.kn<|C.s1<|Zv rfl Tf.z115 rfl (fun q2=>L.n3<|bH rfl rfl rfl rfl trivial<|Zi rfl<|L.n3<|bH rfl rfl rfl rfl trivial<|Zi rfl<|L.n2 ?_);have hbb0:dV q2 [] [(q2,.cells [.pointer none,.slice none 0 0].toArray 115 (0,0))]:=⟨none,_,[],rfl,aMR rfl,bM.nil,I5 Yu⟩
  refine C.rg<|Zj rfl Tf.f42_0 rfl<|dM rfl Tf.a28 Tf.s28 rfl (List.Mem.tail _ (List.Mem.head _)) rfl rfl GT rfl trivial<|Zj rfl Tf.f42_0 rfl<|Zj rfl Tf.f28_0 rfl<|Zl rfl Tf.a25 rfl (List.Mem.tail _ (List.Mem.head _)) rfl<|aO rfl U25 rfl (hL.pl.up RI.up (Le.refl _)) rfl rfl trivial<|gH rfl rfl rfl Yf rfl trivial<|Ze rfl (fun D2 hD2=>P2 _ (aM ls).1.row 0 (((aM ls).1.row.places.length:Int)-1) _ (hL.row.up (hD2 _ Ye)))<|Za rfl<|Zab rfl<|Zab rfl ?_;refine Zv rfl Tf.z88 rfl (fun q3=>Zu rfl Tf.s88 (bS.head)<|Zi rfl<|L.n3<|Za rfl<|Zj rfl Tf.f88_0 rfl<|Zl rfl Tf.a3 rfl (List.Mem.head _) rfl<|Zj rfl Tf.f88_1 rfl<|Zl rfl Tf.a3 rfl (List.Mem.head _) rfl<|R5 (List.Sublist.cons _ (LT _))<|Zg [] [(q1,_)] [(q2,_)] rfl (Or.inl rfl) hbb0.unf (fun D20 hD20=>vB ⟨#[99,104,97,105,114,115]⟩ (aGA (aM ls).1).1 (aGA (aM ls).1).2 q2 ([]) [(q2,_)] _ (hV.up (hD20 _ Ye)) Yu hR.ch.1 hR.ch.2 hbb0 (by have:=(show([]:List UInt8).length≤0 from aMS 0);omega)) (fun _ _ _ h=>h.elim) (fun v20 D21 ν20 hD21 hbb20=>aF ((ν20++[(q1,.cells (bX (aM ls).1 pv cv hv lv mv bl bc yc yq).toArray 42 (0,0))])) rfl ?_))
  replace hbb20:dV q2 (r1 (aM ls).1) ν20:=by first|exact hbb20|(rw[aJY];exact hbb20)|(simpa [r1]using hbb20)
  refine L.n3<|Zj rfl Tf.f42_0 rfl<|dM rfl Tf.a28 Tf.s28 rfl (aMA _ (List.Mem.head _)) rfl rfl GT rfl trivial<|Ze rfl (fun D3 hD3=>L1.VX _ (aM ls).1.row _ (hL.row.up (hD3 _ Ye)))<|Za rfl<|Zab rfl<|Zab rfl<|Zi rfl<|Zi rfl<|L.n3<|Za rfl<|Za rfl ?_;refine Zg [] [(q1,_)] ν20 rfl (Or.inl rfl) hbb20.unf (fun D22 hD22=>AO ⟨#[108,101,97,115,116]⟩ (C1.pV (aM ls).1.row) q2 (r1 (aM ls).1) ν20 _ (hV.up (hD22 _ Ye)) Yu hR.le hbb20 (by have:=aAK hR;omega)) (fun _ _ _ h=>h.elim) (fun v22 D23 ν22 hD23 hbb22=>aF ((ν22++[(q1,.cells (bX (aM ls).1 pv cv hv lv mv bl bc yc yq).toArray 42 (0,0))])) rfl ?_)
  replace hbb22:dV q2 (r2 (aM ls).1) ν22:=by first|exact hbb22|(rw[aJZ];exact hbb22)|(simpa [r2]using hbb22)
  refine L.n4<|Zj rfl Tf.f42_1 rfl<|Zj rfl Tf.f32_3 rfl<|Zl rfl Tf.a25 rfl (aMA _ (List.Mem.head _)) rfl<|aO rfl U25 rfl (hL.lev.up RI.up (Le.refl _)) rfl rfl trivial<|Za rfl<|L.n1<|Zai<|cK (γ:=Nat×aC) (fun g=>(aM ls).1.table.levels.length-g.1) (fun g=>g.1≤(aM ls).1.table.levels.length∧dV q2 (r3 (aM ls).1 g.1) g.2) (fun g=>[(73,.int .i64 (g.1:Int))]) [(72,_),(9,_),(8,_),(7,_),(4,_),(3,_),(2,_)] (fun g=>g.2++[(q1,.cells (bX (aM ls).1 pv cv hv lv mv bl bc yc yq).toArray 42 (0,0))]) (fun g=>[D23,D21,D1,D]) (0,ν22) ⟨by simp,by simpa [r3]using hbb22⟩ ⟨Ya,cW⟩ C.rs (LT _) (aD) ?_;rintro⟨k,ν⟩ ⟨h1,hbv⟩;simp only at h1 hbv;refine C.s1<|Zac rfl<|L.n2<|aE rfl (fun hc2=>?_) (fun hc2=>?_)
  ·simp only at hc2;have hkl:k<(aM ls).1.table.levels.length:=by omega
   refine C.kn<|aK<|Zai<|C.s1<|Za rfl<|Zi rfl<|L.n3<|Zj rfl Tf.f42_1 rfl<|dM rfl Tf.a32 Tf.s32 rfl (aMA _ (List.Mem.head _)) rfl rfl GT rfl trivial<|Za rfl<|Ze rfl (fun D4 hD4=>L2.VB _ (aM ls).1.table (k:Int) _ (hL.table.up (hD4 _ Ye)))<|Za rfl ?_;refine Zab rfl<|Zab rfl<|Zv rfl Tf.z99 rfl (fun q4=>Zu rfl Tf.s99 (bS.head)<|Zi rfl<|L.n1<|C.rg<|Za rfl<|Zj rfl Tf.f99_0 rfl<|Zl rfl Tf.a3 rfl (List.Mem.head _) rfl<|Zj rfl Tf.f99_1 rfl<|Zl rfl Tf.a3 rfl (List.Mem.head _) rfl ?_);refine R5 (List.Sublist.cons _ (LT _))<|Zg [] [(q1,_)] ν rfl (Or.inl rfl) hbv.unf (fun D24 hD24=>vB ⟨#[119,101,116]⟩ (BW (aM ls).1 k).1 (BW (aM ls).1 k).2 q2 (r3 (aM ls).1 k) ν _ (hV.up (hD24 _ Ye)) Yu (hR.wet k hkl).1 (hR.wet k hkl).2 hbv (by have:=AM hR (k) Yd;omega)) (fun _ _ _ h=>h.elim) (fun v24 D25 ν24 hD25 hbb24=>aF ((ν24++[(q1,.cells (bX (aM ls).1 pv cv hv lv mv bl bc yc yq).toArray 42 (0,0))])) rfl ?_)
   replace hbb24:dV q2 (r3 (aM ls).1 (k+1)) ν24:=by rw[NH];exact hbb24
   refine Zaa<|Zak<|Zag<|C.rg<|Zw rfl<|Za rfl<|Zaa ?_;exact aG 21 (k+1,ν24) ⟨by simp only;omega,hbb24⟩ Yl ⟨Ya,cW⟩ rfl rfl (LT _) (fun D h=>⟨D,aRH _ (h),Le.refl D⟩)
  ·obtain rfl:k=(aM ls).1.table.levels.length:=by simp only at hc2;omega
   refine aP<|Zaj<|Zaj<|Zam<|Zag<|C.s1<|Zj rfl Tf.f42_1 rfl<|dM rfl Tf.a32 Tf.s32 rfl (aMA _ (List.Mem.head _)) rfl rfl GT rfl trivial<|Zj rfl Tf.f42_1 rfl<|Zj rfl Tf.f32_0 rfl<|Zl rfl Tf.a3 rfl (aMA _ (List.Mem.head _)) rfl<|Ze rfl (fun D5 hD5=>L2.aHB _ (aM ls).1.table 0 (aM ls).1.table.last _ (hL.table.up (hD5 _ Ye))) ?_;refine Za rfl<|Zab rfl<|Zab rfl<|Zi rfl<|Zi rfl<|L.n3<|Za rfl<|Za rfl<|Zg [] [(q1,_)] ν rfl (Or.inl rfl) hbv.unf (fun D26 hD26=>AO ⟨#[100,114,121]⟩ (aDI (aM ls).1) q2 (r3 (aM ls).1 (aM ls).1.table.levels.length) ν _ (hV.up (hD26 _ Ye)) Yu hR.dry hbv (by have:=AM hR ((aM ls).1.table.levels.length) Yd;omega)) (fun _ _ _ h=>h.elim) (fun v26 D27 ν26 hD27 hbb26=>aF ((ν26++[(q1,.cells (bX (aM ls).1 pv cv hv lv mv bl bc yc yq).toArray 42 (0,0))])) rfl ?_)
   replace hbb26:dV q2 (r4 (aM ls).1) ν26:=by first|exact hbb26|(rw[aJT];exact hbb26)|(simpa [r4]using hbb26)
   refine L.n3<|Zg [] [(q1,_)] ν26 rfl (Or.inl rfl) hbb26.unf (fun D28 hD28=>jF q2 ⟨#[108,101,97,118,101]⟩ (r4 (aM ls).1) ν26 _ hbb26 (by have:=ZZ hR;have hz:=(show(⟨#[108,101,97,118,101]⟩:ByteArray).size=5 from rfl);omega)) (fun _ _ _ h=>h.elim) (fun v28 D29 ν28 hD29 hbb28=>aF ((ν28++[(q1,.cells (bX (aM ls).1 pv cv hv lv mv bl bc yc yq).toArray 42 (0,0))])) rfl ?_);replace hbb28:dV q2 (r5 (aM ls).1) ν28:=by first|exact hbb28|(rw[aKB];exact hbb28)|(simpa [r5]using hbb28)
   refine L.n3<|Zj rfl Tf.f42_2 rfl<|dM rfl Tf.a36 Tf.s36 rfl (aMA _ (List.Mem.head _)) rfl rfl GT rfl trivial<|bZ rfl rfl rfl (fun D6 hD6=>L3.WX _ (aM ls).1.book _ (hL.book.up (hD6 _ Ye))) rfl cW (fun v6 D6 hD6 hp6=>?_);obtain⟨lvv,rfl,hlv⟩:=hp6;obtain⟨lva,lvc,rfl⟩:=hlv.shape;refine Za rfl<|Zab rfl<|Zab rfl<|Zi rfl<|Zi rfl<|L.n4<|Za rfl<|aO rfl U25 rfl hlv rfl rfl trivial<|Za rfl<|L.n1<|Zai<|cK (γ:=Nat×aC) (fun g=>(L3.dT (aM ls).1.book).1.length-g.1) (fun g=>g.1≤(L3.dT (aM ls).1.book).1.length∧dV q2 (r6 (aM ls).1 g.1) g.2) (fun g=>[(111,.int .i64 (g.1:Int))]) [(110,_),(109,_),(19,_),(9,_),(8,_),(7,_),(4,_),(3,_),(2,_)] (fun g=>g.2++[(q1,.cells (bX (aM ls).1 pv cv hv lv mv bl bc yc yq).toArray 42 (0,0))]) (fun g=>[D6,D29,D27,D23,D21,D1,D]) (0,ν28) ⟨by simp,by simpa [r6]using hbb28⟩ ⟨Ya,cW⟩ C.rs (LT _) (aD) ?_;rintro⟨k,ν⟩ ⟨h1,hbv⟩;simp only at h1 hbv;refine C.s1<|Zac rfl<|L.n2<|aE rfl (fun hc3=>?_) (fun hc3=>?_)
   ·simp only at hc3;have hkl:k<(L3.dT (aM ls).1.book).1.length:=by omega
    obtain⟨x,hx⟩:∃x,(L3.dT (aM ls).1.book).1[k]?= some x:=⟨_,LE hkl⟩
    refine C.kn<|aK<|Zai<|C.s1<|Zp rfl U25 Tf.s3 rfl hlv rfl hx (fun b1 o1 cs1 hr1 hcl1 hA1=>?_);obtain rfl:cs1=[.int .i64 _]:=hr1;refine Zc 0 rfl Tf.a3 rfl hA1 rfl<|Zi rfl<|L.n1<|C.rg<|Za rfl<|Ze rfl (fun D7 hD7=>yJ x (by have:=hR.lv x (aLW hx);unfold NB at this;simp only[rM];omega) _ (hV.up (hD7 _ Ye)))<|iJ rfl rfl rfl (by have:=b9 (hR.lv x (aLW hx));rw[aPP]at this;omega) rfl trivial<|Zg [] [(q1,_)] ν rfl (Or.inl rfl) hbv.unf (fun D30 hD30=>jF q2 ((⟨#[32]⟩:ByteArray)++uZ (itoa x)) (r6 (aM ls).1 k) ν _ hbv (by have:=JO hR (k);have hz:=(b9 (hR.lv x (aLW hx)));omega)) (fun _ _ _ h=>h.elim) (fun v30 D31 ν30 hD31 hbb30=>aF ((ν30++[(q1,.cells (bX (aM ls).1 pv cv hv lv mv bl bc yc yq).toArray 42 (0,0))])) rfl ?_)
    replace hbb30:dV q2 (r6 (aM ls).1 (k+1)) ν30:=by rw[aER hx];exact hbb30
    refine Zaa<|Zak<|Zag<|C.rg<|Zw rfl<|Za rfl<|Zaa ?_;exact aG 11 (k+1,ν30) ⟨by simp only;omega,hbb30⟩ Yl ⟨Ya,cW⟩ rfl rfl (LT _) (fun D h=>⟨D,aRH _ (h),Le.refl D⟩)
   ·obtain rfl:k=(L3.dT (aM ls).1.book).1.length:=by simp only at hc3;omega
    refine aP<|Zaj<|Zaj<|Zam<|Zag<|C.s1<|Zg [] [(q1,_)] ν rfl (Or.inl rfl) hbv.unf (fun D32 hD32=>jF q2 ⟨#[10]⟩ (r6 (aM ls).1 (L3.dT (aM ls).1.book).1.length) ν _ hbv (by have:=JO hR ((L3.dT (aM ls).1.book).1.length);have hz:=(show(⟨#[10]⟩:ByteArray).size=1 from rfl);omega)) (fun _ _ _ h=>h.elim) (fun v32 D33 ν32 hD33 hbb32=>aF ((ν32++[(q1,.cells (bX (aM ls).1 pv cv hv lv mv bl bc yc yq).toArray 42 (0,0))])) rfl ?_);replace hbb32:dV q2 (r7 (aM ls).1) ν32:=by first|exact hbb32|(rw[aKI];exact hbb32)|(simpa [r7]using hbb32)
    refine L.n4<|Za rfl<|aO rfl U25 rfl hlv rfl rfl trivial<|dU rfl rfl rfl rfl trivial<|L.n1<|aE rfl (fun hc4=>?_) (fun hc4=>?_)
    ·have hl0:(L3.dT (aM ls).1.book).1=[]:=aQT Yd;refine C.s1<|Zj rfl Tf.f42_2 rfl<|dM rfl Tf.a36 Tf.s36 rfl (aMA _ (List.Mem.head _)) rfl rfl GT rfl trivial<|Zj rfl Tf.f42_2 rfl<|Zj rfl Tf.f36_3 rfl<|Zl rfl Tf.a33 rfl (aMA _ (List.Mem.head _)) rfl<|aO rfl U33 rfl (hL.ln.up pB.up (Le.refl _)) rfl rfl trivial<|Ze rfl (fun D8 hD8=>L3.yZ _ (aM ls).1.book ((aM ls).1.book.lines.length:Int) _ (hL.book.up (hD8 _ Ye)))<|Za rfl<|Zab rfl<|Zab rfl<|Zv rfl Tf.z65 rfl (fun q5=>?_);refine Zu rfl Tf.s65 (bS.head)<|Zi rfl<|L.n3<|Zj rfl Tf.f42_2 rfl<|dM rfl Tf.a36 Tf.s36 rfl (List.Mem.tail _ (aMA _ (List.Mem.head _))) rfl rfl GT rfl trivial<|Ze rfl (fun D9 hD9=>L3.XO _ (aM ls).1.book _ (hL.book.up (hD9 _ Ye)))<|Za rfl<|Zab rfl<|Zab rfl<|Zv rfl Tf.z65 rfl (fun q6=>Zu rfl Tf.s65 (bS.head)<|Zi rfl ?_);refine L.n3<|Za rfl<|Zj rfl Tf.f65_0 rfl<|Zl rfl Tf.a3 rfl (List.Mem.tail _ (List.Mem.head _)) rfl<|Zj rfl Tf.f65_1 rfl<|Zl rfl Tf.a3 rfl (List.Mem.tail _ (List.Mem.head _)) rfl<|Zg [(_,_),(_,_)] [(q1,_)] ν32 rfl (Or.inl rfl) hbb32.unf (fun D34 hD34=>vB ⟨#[109,111,110,101,121]⟩ (OI (aM ls).1).1 (OI (aM ls).1).2 q2 (r7 (aM ls).1) ν32 _ (hV.up (hD34 _ Ye)) Yu hR.mon.1 hR.mon.2 hbb32 (by have:=IJ hR;omega)) (fun _ _ _ h=>h.elim) (fun v34 D35 ν34 hD35 hbb34=>aF ((q6,_)::(q5,_)::(ν34++[(q1,.cells (bX (aM ls).1 pv cv hv lv mv bl bc yc yq).toArray 42 (0,0))])) rfl ?_)
     replace hbb34:dV q2 (aGP (aM ls).1) ν34:=by first|exact hbb34|(rw[r7m_eq];exact hbb34)|(simpa [aGP]using hbb34)
     refine L.n1<|C.rg<|Za rfl<|Zj rfl Tf.f65_0 rfl<|Zl rfl Tf.a3 rfl (List.Mem.head _) rfl<|Zj rfl Tf.f65_1 rfl<|Zl rfl Tf.a3 rfl (List.Mem.head _) rfl<|R5 (List.Sublist.cons _ (List.Sublist.cons _ (LT _)))<|Zg [] [(q1,_)] ν34 rfl (Or.inl rfl) hbb34.unf (fun D36 hD36=>vB ⟨#[109,105,120,101,100]⟩ (EI (aM ls).1).1 (EI (aM ls).1).2 q2 (aGP (aM ls).1) ν34 _ (hV.up (hD36 _ Ye)) Yu hR.mix.1 hR.mix.2 hbb34 (by have:=MU hR;omega)) (fun _ _ _ h=>h.elim) (fun v36 D37 ν36 hD37 hbb36=>aF ((ν36++[(q1,.cells (bX (aM ls).1 pv cv hv lv mv bl bc yc yq).toArray 42 (0,0))])) rfl ?_);replace hbb36:dV q2 (r8 (aM ls).1) ν36:=by rw[aHQ hl0];exact hbb36
     refine L.n3<|Zj rfl Tf.f42_3 rfl<|dM rfl Tf.a40 Tf.s40 rfl (aMA _ (List.Mem.head _)) rfl rfl GT rfl trivial<|Ze rfl (fun D10 hD10=>L7.qM _ (aM ls).1.yard _ (hL.yard.up (hD10 _ Ye)))<|Za rfl<|Zab rfl<|Zab rfl<|Zv rfl Tf.z133 rfl (fun q7=>Zu rfl Tf.s133 (bS.head)<|Zi rfl<|L.n3<|Za rfl ?_);refine Zj rfl Tf.f133_0 rfl<|Zl rfl Tf.a3 rfl (List.Mem.head _) rfl<|Zj rfl Tf.f133_1 rfl<|Zl rfl Tf.a3 rfl (List.Mem.head _) rfl<|R5 (List.Sublist.cons _ (LT _))<|Zg [] [(q1,_)] ν36 rfl (Or.inl rfl) hbb36.unf (fun D38 hD38=>vB ⟨#[119,104,111,108,101]⟩ ((L7.eL (aM ls).1.yard).1).1 ((L7.eL (aM ls).1.yard).1).2 q2 (r8 (aM ls).1) ν36 _ (hV.up (hD38 _ Ye)) Yu hR.wh.1 hR.wh.2 hbb36 (by have:=GZ hR;omega)) (fun _ _ _ h=>h.elim) (fun v38 D39 ν38 hD39 hbb38=>aF ((ν38++[(q1,.cells (bX (aM ls).1 pv cv hv lv mv bl bc yc yq).toArray 42 (0,0))])) rfl ?_)
     replace hbb38:dV q2 (r9 (aM ls).1) ν38:=by first|exact hbb38|(rw[r9_eq];exact hbb38)|(simpa [r9]using hbb38)
     refine L.n3<|Zj rfl Tf.f42_3 rfl<|dM rfl Tf.a40 Tf.s40 rfl (aMA _ (List.Mem.head _)) rfl rfl GT rfl trivial<|bZ rfl rfl rfl (fun D11 hD11=>L7.LS _ (aM ls).1.yard _ (hL.yard.up (hD11 _ Ye))) rfl cW (fun v11 D11 hD11 hp11=>?_);obtain⟨suv,rfl,hsu⟩:=hp11;refine Za rfl<|Zab rfl<|Zab rfl<|Zab rfl<|Zi rfl<|Zi rfl<|Zi rfl<|L.n3<|Za rfl<|Za rfl<|Zg [] [(q1,_)] ν38 rfl (Or.inl rfl) hbb38.unf (fun D40 hD40=>AO ⟨#[115,117,114,101]⟩ ((L7.lQ (aM ls).1.yard).2.1) q2 (r9 (aM ls).1) ν38 _ (hV.up (hD40 _ Ye)) Yu hR.su hbb38 (by have:=XN hR;omega)) (fun _ _ _ h=>h.elim) (fun v40 D41 ν40 hD41 hbb40=>aF ((ν40++[(q1,.cells (bX (aM ls).1 pv cv hv lv mv bl bc yc yq).toArray 42 (0,0))])) rfl ?_)
     replace hbb40:dV q2 (lI (aM ls).1) ν40:=by first|exact hbb40|(rw[reportL_eq];exact hbb40)|(simpa [lI]using hbb40)
     refine L.n3<|O5 (post:=fun r=>r=.string (uZ (lI (aM ls).1))) rfl rfl rfl rfl (EF.of Tryz.func53 rfl rfl) (fun D w hw=>(Go.Proofs.Tryz.Builder_String_any (max 1 h0.size) q2 (lI (aM ls).1) w (vO hbb40 (rZ _) hw).1 (vO hbb40 (rZ _) hw).2).mono ?_) rfl cW (fun r hr=>?_)
     ·rintro e w1 ⟨rfl,hbl⟩;exact⟨_,rfl,hbl,rfl⟩
     subst hr;refine Zi rfl<|Zi rfl<|L.n5 ?_;exact Zm [_,_] rfl C.rs (fun D hD=>by unfold yP;rw[aMT hf];rfl)
    ·have hl0:(L3.dT (aM ls).1.book).1≠[]:=fun h=>hc4 (by rw[h];rfl)
     have hb8:dV q2 (r8 (aM ls).1) ν32:=by rw[aKG hl0];exact hbb32
     refine C.kn<|C.s1<|Zj rfl Tf.f42_3 rfl<|dM rfl Tf.a40 Tf.s40 rfl (aMA _ (List.Mem.head _)) rfl rfl GT rfl trivial<|Ze rfl (fun D12 hD12=>L7.qM _ (aM ls).1.yard _ (hL.yard.up (hD12 _ Ye)))<|Za rfl<|Zab rfl<|Zab rfl<|Zv rfl Tf.z133 rfl (fun q8=>Zu rfl Tf.s133 (bS.head)<|Zi rfl<|L.n3 ?_);refine Za rfl<|Zj rfl Tf.f133_0 rfl<|Zl rfl Tf.a3 rfl (List.Mem.head _) rfl<|Zj rfl Tf.f133_1 rfl<|Zl rfl Tf.a3 rfl (List.Mem.head _) rfl<|R5 (List.Sublist.cons _ (LT _))<|Zg [] [(q1,_)] ν32 rfl (Or.inl rfl) hb8.unf (fun D42 hD42=>vB ⟨#[119,104,111,108,101]⟩ ((L7.eL (aM ls).1.yard).1).1 ((L7.eL (aM ls).1.yard).1).2 q2 (r8 (aM ls).1) ν32 _ (hV.up (hD42 _ Ye)) Yu hR.wh.1 hR.wh.2 hb8 (by have:=GZ hR;omega)) (fun _ _ _ h=>h.elim) (fun v42 D43 ν42 hD43 hbb42=>aF ((ν42++[(q1,.cells (bX (aM ls).1 pv cv hv lv mv bl bc yc yq).toArray 42 (0,0))])) rfl ?_)
     replace hbb42:dV q2 (r9 (aM ls).1) ν42:=by first|exact hbb42|(rw[r9_eq];exact hbb42)|(simpa [r9]using hbb42)
     refine L.n3<|Zj rfl Tf.f42_3 rfl<|dM rfl Tf.a40 Tf.s40 rfl (aMA _ (List.Mem.head _)) rfl rfl GT rfl trivial<|bZ rfl rfl rfl (fun D13 hD13=>L7.LS _ (aM ls).1.yard _ (hL.yard.up (hD13 _ Ye))) rfl cW (fun v13 D13 hD13 hp13=>?_);obtain⟨suv,rfl,hsu⟩:=hp13;refine Za rfl<|Zab rfl<|Zab rfl<|Zab rfl<|Zi rfl<|Zi rfl<|Zi rfl<|L.n3<|Za rfl<|Za rfl<|Zg [] [(q1,_)] ν42 rfl (Or.inl rfl) hbb42.unf (fun D44 hD44=>AO ⟨#[115,117,114,101]⟩ ((L7.lQ (aM ls).1.yard).2.1) q2 (r9 (aM ls).1) ν42 _ (hV.up (hD44 _ Ye)) Yu hR.su hbb42 (by have:=XN hR;omega)) (fun _ _ _ h=>h.elim) (fun v44 D45 ν44 hD45 hbb44=>aF ((ν44++[(q1,.cells (bX (aM ls).1 pv cv hv lv mv bl bc yc yq).toArray 42 (0,0))])) rfl ?_)
     replace hbb44:dV q2 (lI (aM ls).1) ν44:=by first|exact hbb44|(rw[reportL_eq];exact hbb44)|(simpa [lI]using hbb44)
     refine L.n3<|O5 (post:=fun r=>r=.string (uZ (lI (aM ls).1))) rfl rfl rfl rfl (EF.of Tryz.func53 rfl rfl) (fun D w hw=>(Go.Proofs.Tryz.Builder_String_any (max 1 h0.size) q2 (lI (aM ls).1) w (vO hbb44 (rZ _) hw).1 (vO hbb44 (rZ _) hw).2).mono ?_) rfl cW (fun r hr=>?_)
     ·rintro e w1 ⟨rfl,hbl⟩;exact⟨_,rfl,hbl,rfl⟩
     subst hr;refine Zi rfl<|Zi rfl<|L.n5 ?_;exact Zm [_,_] rfl C.rs (fun D hD=>by unfold yP;rw[aMT hf];rfl)
end L12
end Go.Fs
namespace Go.Fs
namespace C12
def vS:Nat→List UInt8→Nat
 |_,[]=>0
 |k,b::t=>(2*k+1)*b.toNat+vS (k+1) t
theorem H4:∀(a b:List UInt8) (k:Nat),vS k (a++b)=vS k a+vS (k+a.length) b
 | [],b,k=>by simp[vS]
 |x::a,b,k=>by
  rw[aOG,vS,vS,H4 a b (k+1),aMI,show k+1+a.length=k+(a.length+1) by omega,Nat.add_assoc]
theorem PD{l:List UInt8}{k:Nat}{b:UInt8}(h:l[k]?= some b):vS 0 (l.take (k+1))=vS 0 (l.take k)+(2*k+1)*b.toNat:=by
 have hk:k<l.length:=(aMH.1 h).1;rw[aMN,h,H4,aON,aQI Yd];simp[vS]
theorem KO:∀(l:List UInt8) (k:Nat),vS k l≤(2*(k+l.length)+1)*256*l.length
 | [],k=>by simp[vS]
 |b::l,k=>by
  have h1:=KO l (k+1);have h2:b.toNat≤256:=by have:=b.toNat_lt;omega
  have h3:(2*k+1)*b.toNat≤(2*(k+(l.length+1))+1)*256:=Nat.mul_le_mul Yd h2;rw[vS,aMI,show k+(l.length+1)=k+1+l.length by omega,Nat.mul_succ];rw[show k+1+l.length=k+(l.length+1) by omega]at h1;rw[show k+1+l.length=k+(l.length+1) by omega];omega
def lX(i:Nat)(l:List UInt8):Nat:=(37*(i+1)+vS 0 l)%9967
theorem TH(i:Nat)(l:List UInt8):lX i l<9967:=aQG _ Yu
def sV(n j:Nat):UInt8:=UInt8.ofNat (48+n / 10^j%10)
theorem aBZ(n j:Nat):(sV n j).toNat=48+n / 10^j%10:=by
 unfold sV;rw[UInt8.toNat_ofNat'];have:=aQG (n / 10^j) (show 0<10 by decide);omega
def sW(n:Nat):List UInt8:=[sV n 3,sV n 2,sV n 1,sV n 0]
def WF(i:Nat)(l:List UInt8):List UInt8:=[59,59,10]++sW (lX i l)
def pO(i:Nat)(l:List UInt8):List UInt8:=[sV l.length 1,sV l.length 0,59]++l++[59]++sW (lX i l)++[10]
theorem mI(i:Nat)(l:List UInt8):(pO i l).length=9+l.length:=by simp[pO,sW];omega
def hG:Nat→List (List UInt8)→List UInt8
 |_,[]=>[]
 |i,l::ls=>pO i l++hG (i+1) ls
theorem tC:∀(a b:List (List UInt8)) (i:Nat),hG i (a++b)=hG i a++hG (i+a.length) b
 | [],b,i=>by simp[hG]
 |x::a,b,i=>by
  rw[aOG,hG,hG,tC a b (i+1),aMI,aMK,show i+1+a.length=i+(a.length+1) by omega]
def tB(ls:List (List UInt8)):List UInt8:=hG 0 ls
theorem GJ{ls:List (List UInt8)}{k:Nat}{l:List UInt8}(h:ls[k]?= some l):tB (ls.take (k+1))=tB (ls.take k)++pO k l:=by
 have hk:k<ls.length:=(aMH.1 h).1;unfold tB;rw[aMN,h,tC,aON,aQI Yd];simp[hG]
theorem zB:∀(ls:List (List UInt8)) (i m:Nat),(∀l∈ls,l.length≤m)→(hG i ls).length≤(9+m)*ls.length
 | [],i,m,_=>by simp[hG]
 |l::ls,i,m,h=>by
  have h1:=zB ls (i+1) m fun x hx=>h x (by simp[hx])
  have h2:=h l Ye;rw[hG,aLY,mI,aMI,Nat.mul_succ];omega

end C12
end Go.Fs
namespace Go.Fs
open Go.Proofs
namespace L12
open C12 Go.Lib
theorem vH{s:ByteArray}{k:Nat}{b:UInt8}(h:s.data.toList[k]?= some b):s[k]?= some b:=by
 have hk:k<s.size:=by simpa using(aMH.1 h).1
 rw[getElem?_pos s k hk];congr 1;obtain⟨h1,h2⟩:=aMH.1 h;rw[←h2];rfl
theorem LL{s:ByteArray}{k:Nat}{b:UInt8}(h:s.data.toList[k]?= some b)(hs:s.size≤1000):0≤(2*(k:Int)+1)*(b.toNat:Int)∧(2*(k:Int)+1)*(b.toNat:Int)≤1000000:=by
 have hk:k<s.size:=by simpa using(aMH.1 h).1
 have hb:=b.toNat_lt;have h1:(2*k+1)*b.toNat≤2001*256:=Nat.mul_le_mul Yd Yd;have h2:(2*(k:Int)+1)*(b.toNat:Int)=(((2*k+1)*b.toNat:Nat):Int):=by push_cast;rfl
 rw[h2];omega
theorem aEY{s:ByteArray}{k:Nat}(hs:s.size≤1000):vS 0 (s.data.toList.take k)≤1000000000:=by
 have h:=KO (s.data.toList.take k) 0;have hl:(s.data.toList.take k).length≤1000:=by
  rw[aON];have:s.data.toList.length=s.size:=rfl;omega
 have h1:(2*(0+(s.data.toList.take k).length)+1)*256*(s.data.toList.take k).length≤2001*256*1000:=Nat.mul_le_mul (Nat.mul_le_mul Yd (aMS _)) hl;omega
def aJI(n k:Nat):List Value:=[if 3<k then .int .u8 (sV n 3).toNat else .int .u8 0,if 2<k then .int .u8 (sV n 2).toNat else .int .u8 0,if 1<k then .int .u8 (sV n 1).toNat else .int .u8 0,if 0<k then .int .u8 (sV n 0).toNat else .int .u8 0]
theorem aAT{n k:Nat}(hk:k<4):(aJI n k).take (((3:Int)-(k:Int)).toNat)++[.int .u8 (48+((n / 10^k:Nat):Int)%10)]++(aJI n k).drop (((3:Int)-(k:Int)).toNat+ [Value.int .u8 (48+((n / 10^k:Nat):Int)%10)].length)=aJI n (k+1):=by
 have e:Value.int .u8 (48+((n / 10^k:Nat):Int)%10)=.int .u8 ((sV n k).toNat:Int):=by rw[aBZ];rfl
 rw[e];obtain rfl|rfl|rfl|rfl:k=0∨k=1∨k=2∨k=3:=by omega
 all_goals rfl
theorem XH(i:Nat)(s:ByteArray)(hi:i≤100000)(hs:s.size≤1000)(D:aA):Fn Tryz.prog 201 #[.int .i64 (i:Int),.string s] D (fun _ v=>v=.int .i64 ((lX i s.data.toList:Nat):Int)):=by
 refine enter 28 Tryz.func201 rfl rfl rfl rfl fun h0=>C.s1<|Zi rfl<|L.n3<|Za rfl<|Zw rfl<|Z9 rfl rfl rfl Yf rfl trivial<|Zi rfl<|L.n4<|Za rfl<|gP rfl U9 rfl rfl rfl trivial<|Za rfl ?_;refine L.n1<|Zai<|bT (γ:=Nat) (fun k=>s.size-k) (fun k=>k≤s.size) (fun k=>[(12,.int .i64 (k:Int)),(5,.int .i64 ((37*(i+1)+vS 0 (s.data.toList.take k):Nat):Int))]) [(11,_),(4,_),(1,_)] (fun k=>[D]) 0 Yd ⟨Ya,(by show some (Value.int _ _)=some (Value.int _ _);congr 2),cW⟩ C.rs (aD) ?_
 rintro k hI;refine C.s1<|Zac rfl<|L.n2<|aE rfl (fun hc1=>?_) (fun hc1=>?_)
 ·have hk:k<s.size:=by omega
  obtain⟨b,hb⟩:∃b,s.data.toList[k]?= some b:=⟨_,LE (by simpa using hk)⟩
  have hb0:=b.toNat_lt;refine C.kn<|aK<|Zai<|C.s1<|Za rfl<|Zi rfl<|L.n1<|C.rg<|Za rfl<|Za rfl<|Z9 rfl rfl rfl Yf rfl trivial<|Zw rfl ?_;refine Za rfl<|Za rfl<|mA rfl U9 rfl rfl Yd (by rw[aNO];exact vH hb) rfl trivial<|vF rfl U5 U3 rfl Yf rfl trivial<|Z9 rfl rfl rfl (by have:=LL hb hs;simp only[rM];omega) rfl trivial<|qU rfl rfl rfl (by have:=LL hb hs;have:=aEY (s:=s) (k:=k) hs;simp only[rM];omega) rfl trivial<|Zi rfl<|Zaa<|Zak<|Zag<|C.rg<|Zw rfl ?_;refine Za rfl<|Zaa ?_;exact aG 18 (k+1) Yd Yd ⟨Ya,(by show some (Value.int _ _)=some (Value.int _ _);congr 2;rw[PD hb];push_cast;rw[Int.add_assoc]),cW⟩ rfl rfl (LT _) (aD)
 ·obtain rfl:k=s.size:=by omega
  rw[aNA (show s.data.toList.length≤s.size by simp)];refine aP<|Zaj<|Zaj<|Zam<|Zag<|C.s1<|Za rfl<|wE rfl rfl rfl Yd Yd Yf rfl trivial<|Zi rfl<|L.n5 ?_;exact leave1 rfl rfl rfl rfl (fun D hD=>by show Value.int _ _=_;congr 1)
theorem MO(n:Nat)(hn:n≤1000000)(D:aA):Fn Tryz.prog 122 #[.int .i64 (n:Int)] D (fun _ v=>v=.agg (bc (sW n)).toArray):=by
 refine enter 18 Tryz.func122 rfl rfl rfl rfl fun h0=>C.s1<|Zv rfl Tf.z257 rfl (fun q1=>L.n4<|Za rfl<|L.n1<|Zai<|cK (γ:=Nat) (fun k=>4-k) (fun k=>k≤4) (fun k=>[(4,.int .i64 (k:Int)),(0,.int .i64 ((n / 10^k:Nat):Int))]) [(2,_)] (fun k=>[(q1,.cells (aJI n k).toArray 257 (0,0))]) (fun k=>[D]) 0 Yd ⟨Ya,(by show some (Value.int _ _)=some (Value.int _ _);congr 2;simp),cW⟩ ⟨rfl,cW⟩ (LT _) (aD) ?_)
 rintro k hI;refine C.s1<|Zac rfl<|L.n2<|aE rfl (fun hc1=>?_) (fun hc1=>?_)
 ·have hk:k<4:=by omega
  have hq:n / 10^k≤n:=Nat.div_le_self _ _;have hq0:(0:Int)≤((n / 10^k:Nat):Int):=Int.natCast_nonneg _;refine C.kn<|aK<|Zai<|C.s1<|Za rfl<|Zi rfl<|L.n3<|Za rfl<|gH rfl rfl rfl Yf rfl trivial<|Za rfl<|wE rfl rfl rfl Yd Yd Yf rfl trivial<|Zw rfl ?_;refine vF rfl U3 U5 rfl Yf rfl trivial<|dO rfl U257 Tf.s5 rfl rfl Yd Yd rfl trivial<|aL (ws:=aJI n (k+1)) rfl rfl rfl rfl Tf.s5 .head (by simp[aJI]<;>omega) (aAT hk) Yi trivial<|L.n1<|C.rg<|Za rfl<|DU rfl rfl rfl Yd Yd Yf rfl trivial<|Zi rfl<|Zaa<|Zak<|Zag<|C.rg ?_;refine Zw rfl<|Za rfl<|Zaa ?_;exact aG 17 (k+1) Yd Yd ⟨Ya,(by show some (Value.int _ _)=some (Value.int _ _);congr 2;rw[Nat.pow_succ,←Nat.div_div_eq_div_mul];rfl),cW⟩ rfl rfl (LT _) (aD)
 ·obtain rfl:k=4:=by omega
  refine aP<|Zaj<|Zaj<|Zam<|Zag<|C.s1<|Zs rfl Tf.a257 rfl (List.Mem.head _) (by first|exact Tf.s257|(simp only[aJ, *];exact Tf.s257))<|bK rfl rfl rfl rfl Tf.s257 Yb Yb (bS.head) (iL (sW n)) trivial<|L.n5 ?_;exact Zm [_] rfl ⟨⟨_,_,_,rfl,(List.Mem.head _),Or.inr ⟨Tf.a257,(by first|exact Tf.s257|(simp only[aNG,aJ, *];exact Tf.s257)),rfl⟩⟩,cW⟩ (fun D hD=>rfl)
theorem TC(i:Nat)(s:ByteArray)(hi:i≤100000)(hs:s.size≤1000)(D:aA):Fn Tryz.prog 121 #[.int .i64 (i:Int),.string s] D (fun _ v=>v=.agg (bc (WF i s.data.toList)).toArray):=by
 refine enter 11 Tryz.func121 rfl rfl rfl rfl fun h0=>C.s1<|Zv rfl Tf.z259 rfl (fun q1=>L.n3<|O7 (cs:=[.int .u8 59,.int .u8 59,.int .u8 10]) rfl U255 Tf.s5 Tf.z255 rfl rfl rfl trivial<|Za rfl<|Za rfl<|Ze rfl (fun D1 hD1=>XH i s hi hs _)<|Ze rfl (fun D2 hD2=>MO (lX i s.data.toList) (by have:=TH i s.data.toList;omega) _)<|iH (cs:=[.int .u8 59,.int .u8 59,.int .u8 10,.int .u8 ((sV (lX i s.data.toList) 3).toNat:Int),.int .u8 ((sV (lX i s.data.toList) 2).toNat:Int),.int .u8 ((sV (lX i s.data.toList) 1).toNat:Int),.int .u8 ((sV (lX i s.data.toList) 0).toNat:Int)]) rfl Tf.p259 Tf.z259 rfl Yg rfl trivial<|bK rfl rfl rfl rfl Tf.s259 Yb Yb (bS.head) (iL (WF i s.data.toList)) trivial<|L.n5 ?_)
 exact Zm [_] rfl ⟨⟨_,_,_,rfl,(GE _),aMD ⟨Tf.a259,(by first|exact Tf.s259|(simp only[aNG,aJ, *];exact Tf.s259)),rfl⟩⟩,cW⟩ (fun D hD=>rfl)
end L12
end Go.Fs
namespace Go.Fs
variable{P:Program}{X:Cx}{γb:Type}[Membership Nat γb]{bad:γb}{all:Array Oper}{K:Act→World→Prop}{Q:Exit→Act→World→Prop}
variable{σ:bI}{μ:aC}{Ds:List aA}{os:List (Bool×Nat)}{fl:Bool}{ix:Nat}
variable{d:Nat}{x y z:Operand}{u v:Value}{ty:TypeId}{pos:String}{aft:Array Edge}{g:Option (Nat×Bool)}
def RU:Rd UInt8:=fun _ b cs=>cs=[.int .u8 b.toNat]
theorem RU.up:RU.Up:=fun _ _ _ h=>h
theorem aCB(l:List UInt8):l.flatMap (fun b:UInt8=>[Value.int .u8 b.toNat])=bc l:=by
 induction l with
 |nil=>rfl
 |cons b l ih=>rw[aNQ,ih];rfl
theorem jM.bytes{D:aA}{l:List UInt8}(h:Sl D RU 1 v l):jM D v l.length (bc l):=by
 rw[←aCB];exact jM.of (R:=RU) (fun _ _ _ h=>h) (fun _=>rfl) h
theorem aHP{l:List UInt8}{i:Nat}{b:UInt8}(h:l[i]?= some b):(bc l)[i]?= some (.int .u8 b.toNat):=by simp[bc,h]
theorem jY.bytes{D:aA}{n:Nat}{l:List UInt8}(h:jY D v n (bc l))(hn:l.length=n)(hb:n≤9223372036854775807):Sl D RU 1 v l:=
 h.sl hn hb fun i x hx=>⟨_,rfl,rfl,by
  have h1:=aHP hx;rw[aPE,List.take_one,List.head?_drop,h1];rfl⟩
def rz(n:Nat):List Value:=List.replicate n (.int .u8 0)
theorem N5(a b:Nat):rz (a+b)=rz a++rz b:=by unfold rz;rw[List.replicate_append_replicate]
theorem wJ(n:Nat):(rz n).length=n:=by simp[rz]
theorem WV(n:Nat):((Array.range (n*1)).map (#[Value.int .u8 0][· %(#[Value.int .u8 0]:Array Value).size]!)).toList=rz n:=by
 apply aRB;intro i;simp only[aQU,Array.toList_range,aNB,rz,List.getElem?_replicate,aPE];by_cases hi:i<n
 ·rw[aQS hi,aMT hi];simp only[aNN];congr 1;have:i%(#[Value.int .u8 0]:Array Value).size=0:=by simp[Nat.mod_one]
  rw[this];rfl
 ·rw[aPH Yaj,aMM hi];rfl
theorem OX{A B C us:List Value}{off:Nat}(h:off=A.length)(h2:us.length=B.length):(A++B++C).take off++us++(A++B++C).drop (off+us.length)=A++us++C:=by
 subst h;have e1:(A++B++C).take A.length=A:=by rw[aMK,aQM]
 have e2:(A++B++C).drop (A.length+us.length)=C:=by rw[h2,←aLY,List.drop_left]
 rw[e1,e2]
theorem LJ{t e e' tr:TypeId}{bd od n cd m k:Nat}{xv:Value}{vs us ws:List Value}{μ':aC}{ats:Array TypeId}
  (ho:all[ix]?= some ⟨some d,.call {callee:=.builtin .copy,args:=#[x,y],argTypes:=ats},tr,pos,aft,g⟩) (ht:P.underlying t=some (.slice e)) (hat:ats[0]?= some t) (hs:TS P e 1) (hx:ev σ x=some (.slice (some ⟨bd,od,none⟩) n cd)) (hy:ev σ y=some xv)
  (hsrc:∀a w,Hl X σ μ Ds a w→(Builtin.lenOf xv).run P w=.ok m w∧(Builtin.firstCells 1 k xv).run P w=.ok us.toArray w) (hk:k=Nat.min m n)
  (hm:bS μ bd (.cells vs.toArray e' (0,0)) (.cells ws.toArray e' (0,0)) μ') (hl:od+us.length≤vs.length) (hw:vs.take od++us++vs.drop (od+us.length)=ws) (hc1:∀u∈us,cell1 u=true) (hfl:fl=false∨bd∈bad) (hN:Nat.blt d X.N=true) (hg:cY all σ g)
  (kk:WL P X bad all K Q os ((d,.int .i64 k)::σ) μ' Ds):WL P X bad all K Q ((fl,ix)::os) σ μ Ds:=by
 refine dP ho rfl rfl hg fun a w hh=>?_
 obtain⟨h1,h2,h3,D,h4,h5,h6⟩:=id hh;obtain⟨hlen,hfc⟩:=hsrc a w hh;obtain⟨w',hr,hw'⟩:=gD (P:=P) us 0 w bd od vs e' (h4.box _ hm.mem).1 Yd hc1;rw[Nat.add_zero,hw]at hw';have hcp:(Builtin.copy_ ats tr #[.slice (some ⟨bd,od,none⟩) n cd,xv]).run P w=.ok (.int .i64 k) w':=by
  have e1:(#[Value.slice (some ⟨bd,od,none⟩) n cd,xv]:Array Value)[0]?= some (.slice (some ⟨bd,od,none⟩) n cd):=rfl;have e2:(#[Value.slice (some ⟨bd,od,none⟩) n cd,xv]:Array Value)[1]?= some xv:=rfl;unfold Builtin.copy_;simp only[hat,e1,e2,Sem.run_bind,TU.of ht w,Result.andThen_ok,hlen,hs w,←hk,hfc,hr,Sem.run_pure,goInt]
 have hex:(execOp a.eval ⟨some d,.call {callee:=.builtin .copy,args:=#[x,y],argTypes:=ats},tr,pos,aft,g⟩).run P w=.ok (.value (.int .i64 k)) w':=by
  simp only[execOp,resolve,pure_bind,invoke,builtin];have e1:(#[x,y].map a.eval)=#[.slice (some ⟨bd,od,none⟩) n cd,xv]:=by simp[hh.eval hx,hh.eval hy]
  rw[e1,Sem.run_bind,hcp];rfl
 rw[hex];have hst:=h4.set hm hw' rfl;refine⟨fun hf=>⟨by rw[hw'.1];simp,fun c hc hcb=>?_⟩,kk _ _ (Hl.put ⟨h1,h2,h3,D,hst,h5,h6.step (fun _ p hp=>aMR Yap) (fun _=>gL hw' (aMB.2 ⟨_,hm.mem,rfl⟩)) hst.dom⟩ hN _)⟩
 have hb:bd∈bad:=by
  rcases hfl with h|h
  ·rw[hf]at h;cases h
  ·exact h
 rw[hw'.1,aOO (by rintro rfl;exact hcb hb)]
theorem NM{t e e' tr:TypeId}{bd od n cd:Nat}{s:ByteArray}{vs ws:List Value}{μ':aC}{ats:Array TypeId}
  (ho:all[ix]?= some ⟨some d,.call {callee:=.builtin .copy,args:=#[x,y],argTypes:=ats},tr,pos,aft,g⟩) (ht:P.underlying t=some (.slice e)) (hat:ats[0]?= some t) (hs:TS P e 1) (hx:ev σ x=some (.slice (some ⟨bd,od,none⟩) n cd)) (hy:ev σ y=some (.string s)) (hn:s.size≤n)
  (hm:bS μ bd (.cells vs.toArray e' (0,0)) (.cells ws.toArray e' (0,0)) μ') (hl:od+s.size≤vs.length) (hw:vs.take od++bc s.data.toList++vs.drop (od+(bc s.data.toList).length)=ws) (hfl:fl=false∨bd∈bad) (hN:Nat.blt d X.N=true) (hg:cY all σ g)
  (kk:WL P X bad all K Q os ((d,.int .i64 s.size)::σ) μ' Ds):WL P X bad all K Q ((fl,ix)::os) σ μ Ds:=
 LJ (m:=s.size) (k:=s.size) (us:=bc s.data.toList) ho ht hat hs hx hy (fun a w _=>⟨rfl,Go.Lib.run_firstCells_string (P:=P) w 1 s⟩) (aQI hn).symm hm (by rw[jE];exact hl) hw (iL _) hfl hN hg kk
theorem Z0{t e e' e2 tr:TypeId}{bd od n cd bs os' m cs:Nat}{vs us ws xs:List Value}{μ':aC}{ats:Array TypeId}
  (ho:all[ix]?= some ⟨some d,.call {callee:=.builtin .copy,args:=#[x,y],argTypes:=ats},tr,pos,aft,g⟩) (ht:P.underlying t=some (.slice e)) (hat:ats[0]?= some t) (hs:TS P e 1) (hx:ev σ x=some (.slice (some ⟨bd,od,none⟩) n cd)) (hy:ev σ y=some (.slice (some ⟨bs,os',none⟩) m cs)) (hn:m≤n)
  (hsm:(bs,.cells xs.toArray e2 (0,0))∈μ) (hus:(xs.drop os').take m=us) (hul:us.length=m)
  (hm:bS μ bd (.cells vs.toArray e' (0,0)) (.cells ws.toArray e' (0,0)) μ') (hl:od+m≤vs.length) (hw:vs.take od++us++vs.drop (od+us.length)=ws) (hc1:∀u∈us,cell1 u=true) (hfl:fl=false∨bd∈bad) (hN:Nat.blt d X.N=true) (hg:cY all σ g)
  (kk:WL P X bad all K Q os ((d,.int .i64 m)::σ) μ' Ds):WL P X bad all K Q ((fl,ix)::os) σ μ Ds:=
 LJ (m:=m) (k:=m) (us:=us) ho ht hat hs hx hy (fun a w hh=>⟨rfl,by
  simp only[Builtin.firstCells];have hbx:w.heap[bs]?= some (.cells xs.toArray e2 (0,0)):=by
   obtain⟨_,_,_,D,h4,_⟩:=hh;exact(h4.box _ hsm).1
  refine iN (by rw[aPE];exact hul) fun j u hj=>kZ (cs:=xs.toArray) hbx ?_
  have hjl:=(aMH.1 hj).1;rw[←hus,aPA Yd,aOW]at hj;simpa using hj⟩) (aQI hn).symm hm Yd hw hc1 hfl hN hg kk

theorem NQ{t e:TypeId}{n b o l:Nat}{k1:IntKind}{i:Int}(ho:all[ix]?= some ⟨some d,.slice t x (some y) none none,ty,pos,aft,g⟩)(ht:P.underlying t=some (.array n e))(hs:TS P e 1)(hx:ev σ x=some (.pointer (some ⟨b,o,none⟩)))
  (hy:ev σ y=some (.int k1 i)) (hi:i=(l:Int)) (h3:l<n)
  (hN:Nat.blt d X.N=true) (hg:cY all σ g) (kk:WL P X bad all K Q os ((d,.slice (some ⟨b,o+l,none⟩) (n-l) (n-l))::σ) μ Ds):WL P X bad all K Q ((fl,ix)::os) σ μ Ds:=by
 subst hi;refine bO ho rfl rfl hN hg (fun ρ hρ w'=>?_) kk;simp only[execOp,hρ x _ hx,hρ y _ hy,aOK,aNN];unfold Instr.sliceAt Instr.sureAddr Instr.sliceBounds Instr.sliceBound asIntOf;have a1:(0:Int)≤(l:Int)∧(l:Int)≤(n:Nat):=by omega
 simp only[Sem.run_bind,TU.of ht w',Result.andThen_ok,hs w',Sem.run_pure,pure_bind,a1,aQV,aOJ,aNO,aPE];rw[aMM Yd];simp[Addr.add]
theorem RD{t e:TypeId}{n b o:Nat}(ho:all[ix]?= some ⟨some d,.slice t x none none none,ty,pos,aft,g⟩)(ht:P.underlying t=some (.array n e))(hs:TS P e 1)(hx:ev σ x=some (.pointer (some ⟨b,o,none⟩)))(h3:Nat.beq n 0=false)
  (hN:Nat.blt d X.N=true) (hg:cY all σ g) (kk:WL P X bad all K Q os ((d,.slice (some ⟨b,o,none⟩) n n)::σ) μ Ds):WL P X bad all K Q ((fl,ix)::os) σ μ Ds:=by
 have h3':¬n=0:=fun h=>by subst h;cases h3
 refine bO ho rfl rfl hN hg (fun ρ hρ w'=>?_) kk;simp only[execOp,hρ x _ hx,aOK];unfold Instr.sliceAt Instr.sureAddr Instr.sliceBounds;simp only[Sem.run_bind,TU.of ht w',Result.andThen_ok,hs w',Sem.run_pure,pure_bind,aPE];simp[h3',Addr.add]
theorem VQ{t e:TypeId}{b o j n cap:Nat}{k:IntKind}(ho:all[ix]?= some ⟨some d,.slice t x (some y) none none,ty,pos,aft,g⟩)(ht:P.underlying t=some (.slice e))(hs:TS P e 1)(hx:ev σ x=some (.slice (some ⟨b,o,none⟩) n cap))(hy:ev σ y=some (.int k (j:Int)))(hj:j≤n)(hc:j<cap)
  (hN:Nat.blt d X.N=true) (hg:cY all σ g) (kk:WL P X bad all K Q os ((d,.slice (some ⟨b,o+j,none⟩) (n-j) (cap-j))::σ) μ Ds):WL P X bad all K Q ((fl,ix)::os) σ μ Ds:=by
 have ha:(if cap=j then some (⟨b,o,none⟩:Addr)else(some (⟨b,o,none⟩:Addr)).map (·.add (j*1)))=some ⟨b,o+j,none⟩:=by
  rw[aMM Yd];simp[eO]
 refine bO ho rfl rfl hN hg (fun ρ hρ w'=>?_) kk;simp only[execOp,aOK,aNN,hρ x _ hx,hρ y _ hy];unfold Instr.sliceAt Instr.slice Instr.sliceBounds Instr.sliceBound asIntOf;have hle:(0:Int)≤(j:Int)∧(j:Int)≤(n:Nat):=by omega
 simp only[Sem.run_bind,TU.of ht w',Result.andThen_ok,Sem.run_pure,pure_bind,hs w',hle,aQV,aOJ,aNO,ha]

theorem sH{t1 t2 e:TypeId}{D₁:aA}{l:List UInt8}(ho:all[ix]?= some ⟨some d,.convert t1 t2 x,ty,pos,aft,g⟩)(h1:P.underlying t1=some (.slice e))(he:P.underlying e=some (.int .u8))(h2:P.underlying t2=some .string)(hx:ev σ x=some v)(hS:Sl D₁ RU 1 v l)(hD:D₁∈Ds)
  (hbad:∀b o c,v=.slice (some ⟨b,o,none⟩) l.length c→l≠[]→b∉bad) (hN:Nat.blt d X.N=true) (hg:cY all σ g) (kk:WL P X bad all K Q os ((d,.string ⟨l.toArray⟩)::σ) μ Ds):WL P X bad all K Q ((fl,ix)::os) σ μ Ds:=
 jT ho rfl rfl hN hg (fun a w hh w' hk=>by
  have key:(Go.convert t1 t2 v).run P w'=.ok (.string ⟨l.toArray⟩) w':=by
   obtain⟨ad,cap,rfl,k1,k2,k3⟩:=hS;rcases k3 with k3|⟨b,o,rfl,k3⟩
   ·subst k3;cases ad with
    |none=>exact Go.run_convert_bytes_nil w' t1 e h1 he _ cap t2 h2
    |some ad=>exact Go.run_convert_bytes_back w' t1 t2 e ad cap [] h1 he h2 (fun j hj=>by cases hj)
   ·refine Go.run_convert_bytes_back w' t1 t2 e ⟨b,o,none⟩ cap l h1 he h2 (fun j hj=>?_);obtain⟨cs,hr,hc,hA⟩:=k3 j l[j] (LE hj);obtain rfl:cs=[.int .u8 l[j].toNat]:=hr;have hb:b∉bad:=hbad b o cap rfl (fun h=>by subst h;cases hj)
    rw[eO];have:=hh.dataAt hD (hA 0 _ rfl) hb hk;simpa using this
  simp only[execOp,hh.eval hx];rw[Sem.run_bind,key];rfl) kk
end Go.Fs
namespace Go.Fs
open Go.Proofs
namespace L12
open C12 Go.Lib
theorem I7(s:ByteArray):s.data.toList.length=s.size:=rfl
def fC(ls:List ByteArray):List (List UInt8):=ls.map fun x=>x.data.toList
theorem GU{ls:List ByteArray}{k:Nat}{x:ByteArray}(h:ls[k]?= some x):(fC ls)[k]?= some x.data.toList:=by unfold fC;rw[aNB,h];rfl
theorem U2{ls:List ByteArray}(k:Nat)(hn:ls.length≤1000)(hsz:∀l∈ls,l.size≤1000):(tB ((fC ls).take k)).length≤1009000:=by
 have h:=zB ((fC ls).take k) 0 1000 (fun l hl=>by
  obtain⟨x,hx,rfl⟩:=aMB.1 (aRD hl);exact hsz x hx)
 have h2:((fC ls).take k).length≤1000:=by rw[aON];unfold fC;rw[aOL];omega
 have h3:(9+1000)*((fC ls).take k).length≤1009*1000:=Nat.mul_le_mul_left _ h2;unfold tB;omega
section
variable{P:Program}{X:Cx}{γb:Type}[Membership Nat γb]{bad:γb}{all:Array Oper}{K:Act→World→Prop}{Q:Exit→Act→World→Prop}{σ:bI}{μ:aC}{Ds:List aA}{os:List (Bool×Nat)}
theorem xH{b:Nat}{e:TypeId}{fz:Nat×Nat}{cs cs':List Value}(h:cs=cs')(k:WL P X bad all K Q os σ ((b,.cells cs'.toArray e fz)::μ) Ds):WL P X bad all K Q os σ ((b,.cells cs.toArray e fz)::μ) Ds:=h▸k
end
theorem NI(i:Nat)(s:ByteArray)(hi:i≤100000)(hs:s.size≤1000)(D:aA):Fn Tryz.prog 66 #[.int .i64 (i:Int),.string s] D (fun D' v=>Sl D' RU 1 v (pO i s.data.toList)):=by
 refine enter 53 Tryz.func66 rfl rfl rfl rfl fun h0=>C.s1<|Zi rfl<|L.n3<|Za rfl<|Za rfl<|Ze rfl (fun D1 hD1=>TC i s hi hs _)<|Za rfl<|gP rfl U9 rfl rfl rfl trivial<|Ze rfl (fun D2 hD2=>MO s.size Yd _)<|Zv rfl Tf.z259 rfl (fun q1=>Zv rfl Tf.z257 rfl (fun q2=>?_));refine bK rfl rfl rfl rfl Tf.s259 Yb Yb (.tail (bS.head)) (iL (WF i s.data.toList)) trivial<|bK rfl rfl rfl rfl Tf.s257 Yb Yb (bS.head) (iL (sW s.size)) trivial<|L.n3<|Za rfl<|gP rfl U9 rfl rfl rfl trivial<|Zw rfl<|Zw rfl<|aQ (n:=s.size+9) rfl U51 Tf.s5 Tf.z5 rfl Tf.i5 Ya Ya Yd (WV _) rfl cW (fun bo=>xH (cs':=[]++rz 2++rz (s.size+7)) (by first|(rw[aNE,←N5];done)|(rw[aNE,←N5];congr 1;omega))<|Zi rfl<|L.n3<|Za rfl ?_);refine NQ (l:=2) rfl U257 Tf.s5 rfl rfl rfl Yd rfl trivial<|Z0 (us:=bc [sV s.size 1,sV s.size 0]) rfl U51 rfl Tf.s5 rfl rfl Yd (aRH _ (GE _)) rfl rfl .head (by simp[wJ]<;>omega) (OX rfl rfl) (iL _) (aMR rfl) rfl trivial<|xH (cs':=bc [sV s.size 1,sV s.size 0]++rz 1++rz (s.size+6)) (by first|(rw[aNE,aMK,←N5];done)|(rw[aNE,aMK,←N5];congr 2;omega))<|L.n3<|Za rfl<|Zj rfl Tf.f259_0 rfl<|dO rfl U255 Tf.s5 rfl rfl Yd Yd rfl trivial<|Zl rfl Tf.a5 rfl (List.Mem.tail _ (List.Mem.tail _ (List.Mem.head _))) rfl<|eH rfl U51 Tf.s5 rfl rfl Yd Yd rfl trivial<|aL (ws:=bc [sV s.size 1,sV s.size 0]++bc [59]++rz (s.size+6)) rfl rfl rfl rfl Tf.s5 .head (by simp[jE,wJ]<;>omega) (OX (by simp[jE]<;>omega) rfl) (iL [59]) trivial<|xH (cs':=bc [sV s.size 1,sV s.size 0,59]++rz s.size++rz 6) (by rw[N5,←aMK];rfl)<|L.n3 ?_;refine Za rfl<|VQ (j:=3) rfl U51 Tf.s5 rfl rfl Yd Yd rfl trivial<|Za rfl<|NM (ws:=bc [sV s.size 1,sV s.size 0,59]++bc s.data.toList++rz 6) rfl U51 rfl Tf.s5 rfl rfl Yd .head (by simp[jE,wJ]<;>omega) (OX rfl (by rw[jE,wJ];rfl)) (aMR rfl) rfl trivial<|xH (cs':=(bc [sV s.size 1,sV s.size 0,59]++bc s.data.toList)++rz 1++rz 5) (by rw[aMK _ (rz 1)];rfl)<|L.n3<|Za rfl<|Za rfl<|gP rfl U9 rfl rfl rfl trivial<|Zw rfl<|VQ (j:=3+s.size) rfl U51 Tf.s5 rfl Ya Yd Yd rfl trivial<|Zi rfl ?_;refine L.n3<|Za rfl<|Zj rfl Tf.f259_0 rfl<|dO rfl U255 Tf.s5 rfl rfl Yd Yd rfl trivial<|Zl rfl Tf.a5 rfl (List.Mem.tail _ (List.Mem.tail _ (List.Mem.head _))) rfl<|eH rfl U51 Tf.s5 rfl rfl Yd Yd rfl trivial<|aL (ws:=(bc [sV s.size 1,sV s.size 0,59]++bc s.data.toList)++bc [59]++rz 5) rfl rfl rfl rfl Tf.s5 .head (by simp[jE,wJ]<;>omega) (OX (by simp[jE]<;>omega) rfl) (iL [59]) trivial<|xH (cs':=(bc [sV s.size 1,sV s.size 0,59]++bc s.data.toList++bc [59])++rz 4++rz 1) (by rw[aMK _ (rz 4)];rfl)<|L.n2<|C.drawA [] 2 5 12 (fun _ _ _ h=>bP (P:=Tryz.prog) (fn:=Tryz.f66) _ _ _ h)<|Za rfl<|VQ (j:=1) rfl U51 Tf.s5 rfl rfl Yd Yd rfl cW ?_;refine Zj rfl Tf.f259_1 rfl<|RD rfl U257 Tf.s5 rfl rfl rfl trivial<|Z0 (us:=bc (sW (lX i s.data.toList))) (ws:=(bc [sV s.size 1,sV s.size 0,59]++bc s.data.toList++bc [59])++bc (sW (lX i s.data.toList))++rz 1) rfl U51 rfl Tf.s5 rfl rfl Yd (aRH _ (aRH _ (GE _))) rfl rfl .head (by simp[jE,wJ]<;>omega) (OX (by simp[jE]<;>omega) rfl) (iL _) (aMR rfl) rfl trivial<|xH (cs':=(bc [sV s.size 1,sV s.size 0,59]++bc s.data.toList++bc [59]++bc (sW (lX i s.data.toList)))++rz 1++[]) (by rw[aME])<|L.n3<|Za rfl<|Zj rfl Tf.f259_0 rfl<|dO rfl U255 Tf.s5 rfl rfl Yd Yd rfl trivial<|Zl rfl Tf.a5 rfl (List.Mem.tail _ (List.Mem.tail _ (List.Mem.head _))) rfl<|eH rfl U51 Tf.s5 rfl rfl Yd Yd rfl trivial<|aL (ws:=(bc [sV s.size 1,sV s.size 0,59]++bc s.data.toList++bc [59]++bc (sW (lX i s.data.toList)))++bc [10]++[]) rfl rfl rfl rfl Tf.s5 .head (by simp[jE,wJ,sW]<;>omega) (OX (by simp[jE,sW]<;>omega) rfl) (iL [10]) trivial<|xH (cs':=bc (pO i s.data.toList)) (by rw[aME,←nV,←nV,←nV,←nV];rfl) ?_;refine L.n3<|Za rfl<|Zi rfl<|L.n5 ?_
 have ha:bM 5 1 (.slice (some ⟨bo,0,none⟩) (s.size+9) (s.size+9)) (s.size+9) (bc (pO i s.data.toList)) [(bo,.cells (bc (pO i s.data.toList)).toArray 5 (0,0))]:=aMD ⟨bo,s.size+9,[],rfl,aMS _,by rw[aME],by rw[jE,mI,I7];omega,by rw[aME,jE,mI,I7];omega⟩;refine eN (A:=[]) (B:=[(_,_),(_,_)]) ha rfl (fun D9 hD9 hF9=>?_);exact leave1 rfl rfl rfl rfl (fun D hD=>(hF9.bytes (by rw[mI,I7];omega) Yd).up RU.up (hD _ Ye))
theorem aFL(lv:Value)(ls:List ByteArray)(D:aA)(hS:Sl D RS 1 lv ls)(hn:ls.length≤1000)(hsz:∀l∈ls,l.size≤1000):Fn Tryz.prog 37 #[lv] D (fun D' v=>Sl D' RU 1 v (tB (fC ls))):=by
 have hfl:=fun k=>U2 (ls:=ls) k hn hsz
 refine enter 19 Tryz.func37 rfl rfl rfl rfl fun h0=>C.s1<|Zi rfl<|L.n4<|Za rfl<|aO rfl U22 rfl Yk rfl rfl trivial<|Za rfl<|L.n1<|Zai<|cK (γ:=Nat×Value×aC) (fun g=>ls.length-g.1) (fun g=>g.1≤ls.length∧bM 5 1 g.2.1 (tB ((fC ls).take g.1)).length (bc (tB ((fC ls).take g.1))) g.2.2) (fun g=>[(7,.int .i64 (g.1:Int)),(2,g.2.1)]) [(6,_),(5,_)] (fun g=>g.2.2++[]) (fun g=>[D]) (0,.slice none 0 0,[]) ⟨by simp,by simpa [tB,hG,bc]using bM.nil⟩ ⟨Ya,Ya,cW⟩ C.rs (LT _) (aD) ?_
 rintro⟨k,v,ν⟩ ⟨h1,ha⟩;simp only at h1 ha;have hflk:=hfl k;refine C.s1<|Zac rfl<|L.n2<|aE rfl (fun hc1=>?_) (fun hc1=>?_)
 ·simp only at hc1;have hlt:k<ls.length:=by omega
  obtain⟨x,hx⟩:=C.ge ls k;have hxs:=hsz x (aLW hx);refine C.kn<|aK<|Zai<|C.s1<|Za rfl<|Zp rfl U22 Tf.s9 rfl hS rfl hx (fun b1 o1 cs1 hr1 hcl1 hA1=>?_);obtain rfl:cs1=[.string _]:=hr1;refine Zc 0 rfl Tf.a9 rfl hA1 rfl<|Zi rfl<|Zi rfl<|L.n1<|C.rg<|Za rfl<|Za rfl<|Za rfl<|bZ rfl rfl rfl (fun D1 hD1=>NI k x Yd (hsz x (aLW hx)) _) rfl cW (fun v1 D1 hD1 hp1=>aV (A:=[]) (B:=[]) rfl U51 rfl rfl Tf.s5 Tf.z5 rfl Tf.i5 rfl rfl rfl ha (jM.bytes hp1) Ye (by rw[jE,aPE]) (by rw[jE,aPE]) (iL _) (by rw[mI,I7];omega) (aMR rfl) rfl cW (fun v1 ν1 ha1=>?_))
  have ha2:bM 5 1 v1 (tB ((fC ls).take (k+1))).length (bc (tB ((fC ls).take (k+1)))) ν1:=by rw[GJ (GU hx),aLY,nV];exact ha1
  refine aF (ν1++[]) rfl<|Zi rfl<|Zaa<|Zak<|Zag<|C.rg<|Zw rfl<|Za rfl<|Zaa ?_;exact aG 16 (k+1,v1,ν1) ⟨by simp only;omega,ha2⟩ Yl ⟨Ya,Ya,cW⟩ rfl rfl (LT _) (fun D h=>⟨D,aRH _ (h),Le.refl D⟩)
 ·obtain rfl:k=ls.length:=by simp only at hc1;omega
  rw[show(fC ls).take ls.length=(fC ls)from aNA (by simp[fC])]at ha hflk;refine aP<|Zaj<|Zaj<|Zam<|Zag<|C.s1<|Za rfl<|Zi rfl<|L.n5<|eN (A:=[]) (B:=[]) ha rfl (fun D9 hD9 hF9=>?_);exact leave1 rfl rfl rfl rfl (fun D hD=>(hF9.bytes rfl Yd).up RU.up (hD _ Ye))
theorem US(lv:Value)(ls:List ByteArray)(D:aA)(hS:Sl D RS 1 lv ls):Fn Tryz.prog 14 #[lv] D (fun D' v=>∃v1,v=.tuple #[v1,.int .i64 (dI ls)]∧Sl D' RU 1 v1 (if dI ls=0 then tB (fC ls)else [])):=by
 refine enter 12 Tryz.func14 rfl rfl rfl rfl fun h0=>C.s1<|Zi rfl<|Zi rfl<|L.n4<|Za rfl<|Ze rfl (fun D1 hD1=>qK _ ls _ (hS.up RS.up (hD1 _ Ye)))<|Zi rfl<|L.n3<|Za rfl<|Zaf rfl<|L.n1 ?_;refine aE rfl (fun hc1=>?_) (fun hc1=>?_)
 ·have hf:dI ls≠0:=by simpa using hc1
  refine C.s1<|Za rfl<|Zi rfl<|Zi rfl<|L.n5<|Zah ?_;exact Zm [_,_] rfl C.rs (fun D hD=>⟨_,rfl,by rw[aMM hf];exact Sl.nil⟩)
 ·have hf:dI ls=0:=by simpa using hc1
  refine C.kn<|C.s1<|Za rfl<|bZ rfl rfl rfl (fun D2 hD2=>aFL _ ls _ (hS.up RS.up (hD2 _ Ye)) (by have:=zN hf;omega) (fun l hl=>by have:=xN hf l hl;omega)) rfl cW (fun v2 D2 hD2 hp2=>Zi rfl<|Zi rfl<|L.n5 ?_);exact Zm [_,_] rfl C.rs (fun D hD=>⟨_,by rw[hf];rfl,by rw[aMT hf];exact hp2.up RU.up (hD _ Ye)⟩)
end L12
end Go.Fs
namespace Go.Fs
variable{P:Program}{X:Cx}{γb:Type}[Membership Nat γb]{bad:γb}{all:Array Oper}{K:Act→World→Prop}{Q:Exit→Act→World→Prop}
variable{σ:bI}{μ:aC}{Ds:List aA}{os:List (Bool×Nat)}{fl:Bool}{ix:Nat}
variable{d:Nat}{x y z:Operand}{u v:Value}{ty:TypeId}{pos:String}{aft:Array Edge}{g:Option (Nat×Bool)}
end Go.Fs
namespace Go.Fs
open Go.Proofs
namespace L12
open C12 Go.Lib
theorem getD_some{l:List UInt8}{k:Nat}(h:k<l.length):l[k]?= some (l.getD k 0):=by simp[List.getD,LE h]
section
variable{i n:Nat}{bs:List UInt8}{f0 f1 f2 f3:UInt8}
end
end L12
end Go.Fs
namespace Go.Fs
open Go.Proofs
namespace L12
open C12 Go.Lib
theorem Tf.z9:TZ Tryz.prog 9 (.string ⟨#[]⟩):=TZ.of Yg
section
variable{P:Program}{X:Cx}{Q:Exit→Act→World→Prop}{σ:bI}{μ:aC}{Ds:List aA}
theorem gO{c:Operand}{x y:Code}{b:Bool}(hc:ev σ c=some (.bool b))(hb:b=true)(h:WC P X Q x σ μ Ds):WC P X Q (.cond c x y) σ μ Ds:=aI hc (fun _=>h) (fun e=>by rw[hb]at e;cases e)
end
theorem aGB{b:UInt8}{n:Nat}(h:((b.toNat:Nat):Int)=(n:Int))(_hn:n<256:=by decide):b=UInt8.ofNat n:=by
 have h1:b.toNat=n:=by omega
 rw[←h1];simp
theorem _root_.Go.Fs.jY.strs{D:aA}{v:Value}{n:Nat}{l:List ByteArray}(h:jY D v n (l.map Value.string))(hn:l.length=n)(hb:n≤9223372036854775807):Sl D RS 1 v l:=
 h.sl hn hb fun i x hx=>⟨_,rfl,rfl,by rw[aPE,List.take_one,List.head?_drop,aNB,hx];rfl⟩
theorem YP(s:ByteArray)(a b:Nat):(s.extract a b).data.toList=(s.data.toList.drop a).take (b-a):=by simp[List.extract_eq_take_drop]
def oF(line:ByteArray)(i f:Nat)(ws:List ByteArray):Prop:=f≤i∧ws.length≤i∧jK line.data.toList=fC ws++jK (line.data.toList.drop f)∧(32:UInt8)∉(line.data.toList.drop f).take (i-f)
theorem oF.zero{line:ByteArray}:oF line 0 0 []:=⟨aMS _,aMS _,by simp[fC],by simp⟩
theorem PE{l:List UInt8}{f i:Nat}{b:UInt8}(hf:f≤i)(hb:l[i]?= some b):(l.drop f).take (i+1-f)=(l.drop f).take (i-f)++[b]:=by
 have h:(l.drop f)[i-f]?= some b:=by rw[aOW,show f+(i-f)=i by omega];exact hb
 rw[show i+1-f=i-f+1 by omega,aMN,h];rfl
theorem oF.miss{line:ByteArray}{i f:Nat}{ws:List ByteArray}{b:UInt8}(h:oF line i f ws)(hb:line.data.toList[i]?= some b)(hn:b≠32):oF line (i+1) f ws:=by
 obtain⟨h1,h2,h3,h4⟩:=h;refine⟨by omega,by omega,h3,?_⟩;rw[PE h1 hb,aMO,aML];rintro(h|h)
 ·exact h4 h
 ·exact hn h.symm
theorem oF.hit{line:ByteArray}{i f:Nat}{ws:List ByteArray}{b:UInt8}(h:oF line i f ws)(hb:line.data.toList[i]?= some b)(hn:b=32):oF line (i+1) (i+1) (ws++[line.extract f i]):=by
 subst hn;obtain⟨h1,h2,h3,h4⟩:=h;refine⟨aMS _,by simp;omega,?_,by simp⟩
 have hg:(line.data.toList.drop f)[i-f]?= some 32:=by rw[aOW,show f+(i-f)=i by omega];exact hb
 rw[h3,zI hg h4,List.drop_drop,show f+(i-f+1)=i+1 by omega];simp[fC]
theorem HH{line:ByteArray}{f:Nat}{ws:List ByteArray}(h:oF line line.size f ws):dC line=ws++[line.extract f line.size]:=by
 obtain⟨h1,h2,h3,h4⟩:=h;have hl:line.data.toList.length=line.size:=rfl;have ht:(line.data.toList.drop f).take (line.size-f)=line.data.toList.drop f:=aNA (by rw[aOS,hl];exact aMS _)
 rw[ht]at h4;unfold dC;rw[h3,qO h4,aMP,aQD];have e1:(fC ws).map uZ=ws:=by
  unfold fC;rw[aQY]
  conv=>rhs;rw[←List.map_id ws]
  exact List.map_congr_left fun x _=>tN x
 rw[e1];congr 2;rw[←tN (line.extract f line.size),YP,ht]
def H8(w:List UInt8):Int:=match fM.find? (fun x=>x.1==w)with
 |some (_,k,_)=>(k:Int)
 |none=> -1
def gG(l:List UInt8):Option (List Int):=match jK l with
 | []=>none
 |p::ps=>if H8 p=(ps.length:Int)then ps.mapM kX else none
theorem aLO{s:ByteArray}(h:0<s.size):s[(0:Int).toNat]?= some (s.data.toList.getD 0 0):=vH (getD_some (k:=0) h)
theorem aHE{s:ByteArray}(h:((decide ((s.size:Int)<1)||decide (3<(s.size:Int)))||(decide (((s.data.toList.getD 0 0).toNat:Int)=48)&&decide (1<(s.size:Int))))=false):1≤s.size∧s.size≤3∧(s.data.toList.head?≠some 48∨s.size=1):=by
 simp only[aOM,Bool.and_eq_false_iff,aNV]at h;obtain⟨⟨h1,h2⟩,h3⟩:=h;refine⟨by omega,by omega,?_⟩;rcases h3 with h3|h3
 ·left;intro e;apply h3;have:s.data.toList.getD 0 0=48:=by rw[List.getD,←List.head?_eq_getElem?,e];rfl
  rw[this];rfl
 ·right;omega
theorem aEQ{s:ByteArray}(h:((decide ((s.size:Int)<1)||decide (3<(s.size:Int)))||(decide (((s.data.toList.getD 0 0).toNat:Int)=48)&&decide (1<(s.size:Int))))=true):kX s.data.toList=none:=by
 have hl:s.data.toList.length=s.size:=rfl;simp only[aNR,aMC,aMV]at h;unfold kX;rcases h with(h|h)|⟨h,h2⟩
 ·have h0:s.data.toList=[]:=aQT Yd;rw[h0];rfl
 ·exact aMM Yd
 ·apply aMM;rintro⟨_,h3|h3⟩
  ·apply h3;have h4:s.data.toList.getD 0 0=48:=aGB (n:=48) h;rw[List.head?_eq_getElem?,getD_some (k:=0) Yd,h4]
  ·omega
theorem QV{n k:Nat}(h:n<10^k)(hk:k≤3):n<1000:=aOQ h (aPQ Yu hk)
theorem ZR{n k:Nat}{b:UInt8}(h:n<10^k)(hb:48≤b.toNat∧b.toNat≤57):n*10+(b.toNat-48)<10^(k+1):=by rw[Nat.pow_succ];omega
theorem VL{l:List UInt8}{k n:Nat}{b:UInt8}(hb:l[k]?= some b)(hd:48≤b.toNat∧b.toNat≤57):decFrom n (l.drop k)=decFrom (n*10+(b.toNat-48)) (l.drop (k+1)):=by
 have hk:=(aMH.1 hb).1;rw[aNZ hk,aMY ((LE hk).symm.trans hb)];simp only[decFrom,digitVal,hd,aQV,aOJ]
theorem UI{s:ByteArray}(h:1≤s.size∧s.size≤3∧(s.data.toList.head?≠some 48∨s.size=1)):kX s.data.toList=(decFrom 0 s.data.toList).map fun n:Nat=>(n:Int):=by
 have hl:s.data.toList.length=s.size:=rfl;unfold kX;rw[aMT ⟨by omega,by rw[hl];exact h.2.2⟩]
 unfold decNat;rw[aMM];rw[List.isEmpty_iff];intro e;rw[e]at hl;simp at hl;omega
theorem QZ{s:ByteArray}{k n:Nat}{b:UInt8}(hok:1≤s.size∧s.size≤3∧(s.data.toList.head?≠some 48∨s.size=1))(hd:decFrom 0 s.data.toList=decFrom n (s.data.toList.drop k))(hb:s.data.toList[k]?= some b)(hn:¬(48≤b.toNat∧b.toNat≤57)):kX s.data.toList=none:=by
 have hk:=(aMH.1 hb).1;rw[UI hok,hd,aNZ hk,aMY ((LE hk).symm.trans hb)];simp only[decFrom,digitVal,hn,aOP,aOK]
theorem WD{s:ByteArray}{n:Nat}(hok:1≤s.size∧s.size≤3∧(s.data.toList.head?≠some 48∨s.size=1))(hd:decFrom 0 s.data.toList=decFrom n (s.data.toList.drop s.size)):kX s.data.toList=some (n:Int):=by
 have e:s.data.toList.drop s.size=[]:=aNM (aMS _);rw[UI hok,hd,e];rfl
theorem VW{line p0:ByteArray}{ps:List ByteArray}(h:dC line=p0::ps):jK line.data.toList=p0.data.toList::fC ps:=by
 unfold dC at h;cases hc:jK line.data.toList with
 |nil=>rw[hc]at h;cases h
 |cons p qs=>
  rw[hc]at h;simp only[aMZ,aOC]at h;obtain⟨rfl,rfl⟩:=h;unfold fC;rw[aQY];congr 1
  conv=>lhs;rw[←List.map_id qs]
  exact List.map_congr_left fun x _=>rfl
theorem L0:∀ps:List ByteArray,(fC ps).mapM kX=ps.mapM pA
 | []=>rfl
 |p::ps=>by
  have h:fC (p::ps)=p.data.toList::fC ps:=rfl;rw[h,aPL,aPL,L0 ps];rfl
theorem AF{line p0:ByteArray}{ps:List ByteArray}(h:dC line=p0::ps):gG line.data.toList=if H8 p0.data.toList=(ps.length:Int)then ps.mapM pA else none:=by
 unfold gG;rw[VW h];simp only[L0];unfold fC;rw[aOL]
theorem QR{line p0:ByteArray}{ps:List ByteArray}(h:dC line=p0::ps)(h1:H8 p0.data.toList≠((dC line).length:Int)-1):gG line.data.toList=none:=by
 rw[AF h,aMM];intro e;apply h1;rw[e,h,aMI];omega
theorem aED{p0 x:ByteArray}{ps:List ByteArray}{k:Nat}(h:ps[k]?= some x):(p0::ps)[(((k+1:Nat):Int)).toNat]?= some x:=by rw[aNO];simpa using h
theorem UC{line p0 x:ByteArray}{ps:List ByteArray}{k:Nat}(h:dC line=p0::ps)(_:¬H8 p0.data.toList≠((dC line).length:Int)-1)(hx:ps[k]?= some x)(hn:kX x.data.toList=none):gG line.data.toList=none:=by
 rw[AF h,B1 hx hn,ite_self]
theorem QU{line p0:ByteArray}{ps:List ByteArray}{ns:List Int}(h:dC line=p0::ps)(h1:¬H8 p0.data.toList≠((dC line).length:Int)-1)(hn:ps.mapM pA=some ns):gG line.data.toList=some ns:=by
 rw[AF h,aMT,hn];have:=aRC.1 h1;rw[this,h,aMI];omega
theorem RY{w:ByteArray}(h0:¬w=⟨#[112,108,97,99,101]⟩)(h1:¬w=⟨#[117,110,99,111,117,110,116]⟩)(h2:¬w=⟨#[119,114,111,110,103]⟩)(h3:¬w=⟨#[111,102,102]⟩)(h4:¬w=⟨#[115,116,101,112]⟩)(h5:¬w=⟨#[108,101,118,101,108]⟩)(h6:¬w=⟨#[117,110,109,97,114,107]⟩)(h7:¬w=⟨#[115,109,117,100,103,101]⟩)(h8:¬w=⟨#[115,116,114,105,107,101]⟩)(h9:¬w=⟨#[102,105,116]⟩)(h10:¬w=⟨#[117,110,99,108,97,105,109]⟩)(h11:¬w=⟨#[115,101,101,110]⟩)(h12:¬w=⟨#[99,111,117,110,116]⟩)(h13:¬w=⟨#[98,97,99,107]⟩)(h14:¬w=⟨#[114,97,105,115,101]⟩)(h15:¬w=⟨#[104,105,114,101]⟩)(h16:¬w=⟨#[98,114,105,110,103]⟩)(h17:¬w=⟨#[99,108,97,105,109]⟩)(h18:¬w=⟨#[116,105,100,101]⟩)(h19:¬w=⟨#[112,97,114,116]⟩)(h20:¬w=⟨#[109,97,114,107]⟩)(h21:¬w=⟨#[98,114,111,107,101,110]⟩):H8 w.data.toList= -1:=by
 have key:∀l:List UInt8,w≠⟨l.toArray⟩→(l==w.data.toList)=false:=fun l h=>by
  rw[beq_eq_false_iff_ne];rintro rfl;exact h (tN w).symm
 unfold H8 fM;simp only[List.find?_cons,List.find?_nil,key [112,108,97,99,101] h0,key [117,110,99,111,117,110,116] h1,key [119,114,111,110,103] h2,key [111,102,102] h3,key [115,116,101,112] h4,key [108,101,118,101,108] h5,key [117,110,109,97,114,107] h6,key [115,109,117,100,103,101] h7,key [115,116,114,105,107,101] h8,key [102,105,116] h9,key [117,110,99,108,97,105,109] h10,key [115,101,101,110] h11,key [99,111,117,110,116] h12,key [98,97,99,107] h13,key [114,97,105,115,101] h14,key [104,105,114,101] h15,key [98,114,105,110,103] h16,key [99,108,97,105,109] h17,key [116,105,100,101] h18,key [112,97,114,116] h19,key [109,97,114,107] h20,key [98,114,111,107,101,110] h21]
theorem Z6(line:ByteArray)(hl:line.size≤1000)(D:aA):Fn Tryz.prog 60 #[.string line] D (fun D' v=>Sl D' RS 1 v (dC line)):=by
 refine enter 31 Tryz.func60 rfl rfl rfl rfl fun h0=>C.s1<|Zi rfl<|L.n3<|Zi rfl<|L.n3<|Zi rfl<|L.n4<|Zi rfl<|L.n1<|Zai<|cK (γ:=Nat×Nat×List ByteArray×Value×aC) (fun g=>line.size-g.1) (fun g=>g.1≤line.size∧oF line g.1 g.2.1 g.2.2.1∧bM 9 1 g.2.2.2.1 g.2.2.1.length (g.2.2.1.map Value.string) g.2.2.2.2) (fun g=>[(5,.int .i64 (g.1:Int)),(4,.int .i64 (g.2.1:Int)),(3,g.2.2.2.1)]) [(2,_),(0,_)] (fun g=>g.2.2.2.2++[]) (fun g=>[D]) (0,0,[],.slice none 0 0,[]) ⟨by simp,oF.zero,by simpa using bM.nil⟩ ⟨Ya,Ya,Ya,cW⟩ C.rs (LT _) (aD) ?_
 rintro⟨i,f,ws,v,ν⟩ ⟨h1,hw,ha⟩;simp only at h1 hw ha;have hfi:=hw.1;have hwl:=hw.2.1;refine C.s2<|Za rfl<|Za rfl<|gP rfl U9 rfl rfl rfl trivial<|Zac rfl<|L.n1<|aE rfl (fun hc1=>?_) (fun hc1=>?_)
 ·simp only at hc1;have hi:i<line.size:=by omega
  obtain⟨b,hb⟩:∃b,line.data.toList[i]?= some b:=⟨_,LE Yaj⟩
  refine C.kn<|aK<|Zai<|C.s1<|Za rfl<|Za rfl<|mA rfl U9 rfl rfl Yd (by rw[aNO];exact vH hb) rfl trivial<|dU rfl rfl rfl rfl trivial<|L.n1<|aE rfl (fun hc2=>?_) (fun hc2=>?_)
  ·have hb32:b=32:=aGB hc2;refine C.s1<|Za rfl<|Za rfl<|Za rfl<|Za rfl<|KD rfl U9 rfl rfl rfl Yai Yai Yai rfl trivial<|Zn rfl U22 Tf.s9 Tf.z9 rfl rfl rfl rfl (.cons rfl rfl .nil) (fun b901 D901 hD901 hA901=>aV (A:=[]) (B:=[]) rfl U22 rfl rfl Tf.s9 Tf.z9 rfl Tf.i9 rfl rfl rfl ha (jM.lit hA901) Ye rfl Yal Yi Yd (aMR rfl) rfl cW (fun v1 ν1 ha1=>?_));have ha2:bM 9 1 v1 (ws++[line.extract f i]).length ((ws++[line.extract f i]).map Value.string) ν1:=by rw[aLY,aMP];exact ha1
   refine aF (ν1++[]) rfl<|Zi rfl<|L.n1<|C.rg<|Za rfl<|Zw rfl<|Zi rfl<|Zaa<|Zak<|Zag<|C.rg<|Za rfl ?_;refine Zw rfl<|Zi rfl<|Zaa ?_;exact aG 25 (i+1,i+1,ws++[line.extract f i],v1,ν1) ⟨by simp only;omega,hw.hit hb hb32,ha2⟩ Yl ⟨Ya,Ya,Ya,cW⟩ rfl rfl (LT _) (fun D h=>⟨D,aRH _ (h),Le.refl D⟩)
  ·have hb32:b≠32:=fun e=>hc2 (by rw[e];rfl)
   refine bB<|Zak<|Zag<|C.rg<|Za rfl<|Zw rfl<|Zi rfl<|Zaa ?_;exact aG 14 (i+1,f,ws,v,ν) ⟨by simp only;omega,hw.miss hb hb32,ha⟩ Yl ⟨Ya,Ya,Ya,cW⟩ rfl rfl (LT _) (aD)
 ·obtain rfl:i=line.size:=by simp only at hc1;omega
  refine aP<|Zaj<|Zaj<|Zam<|Zag<|C.s1<|Za rfl<|Za rfl<|Za rfl<|BC rfl U9 rfl rfl Yai Yai rfl trivial<|Zn rfl U22 Tf.s9 Tf.z9 rfl rfl rfl rfl (.cons rfl rfl .nil) (fun b902 D902 hD902 hA902=>aV (A:=[]) (B:=[]) rfl U22 rfl rfl Tf.s9 Tf.z9 rfl Tf.i9 rfl rfl rfl ha (jM.lit hA902) Ye rfl Yal Yi Yd (aMR rfl) rfl cW (fun v2 ν2 ha2=>?_));have ha2:bM 9 1 v2 (ws++[line.extract f line.size]).length ((ws++[line.extract f line.size]).map Value.string) ν2:=by rw[aLY,aMP];exact ha2
  refine aF (ν2++[]) rfl<|Zi rfl<|L.n5<|eN (A:=[]) (B:=[]) ha2 rfl (fun D9 hD9 hF9=>?_);exact leave1 rfl rfl rfl rfl (fun D hD=>(by rw[HH hw];exact(hF9.strs rfl (by rw[aLY,aPO];omega)).up RS.up (hD _ Ye)))
theorem FS(s:ByteArray)(D:aA):Fn Tryz.prog 118 #[.string s] D (fun _ v=>∃m b,v=.tuple #[.int .i64 m,.bool b]∧(b=true→kX s.data.toList=some m)∧(b=false→kX s.data.toList=none)):=by
 refine enter 49 Tryz.func118 rfl rfl rfl rfl fun h0=>C.s1<|Zi rfl<|Zi rfl<|L.n4<|Za rfl<|gP rfl U9 rfl rfl rfl trivial<|Zac rfl<|Za rfl ?_
 refine' L.orK 4 (s:=9) (p:=13) rfl (fun hg1=>?_) (fun hg1=>?_) ?_;rotate_left
 ·refine Zb rfl<|gP rfl U9 rfl rfl rfl ⟨_,rfl,rfl⟩<|dZ rfl rfl rfl rfl ⟨_,rfl,rfl⟩<|Zz rfl ?_;exact L.cu 3
 ·refine Zh rfl<|Zh rfl<|Zh rfl<|Zy rfl ?_;exact L.cu 3
 refine Za rfl ?_;refine' L.orK 9 (s:=14) (p:=23) rfl (fun hg2=>?_) (fun hg2=>?_) ?_;rotate_left
 ·have hz:0<s.size:=by have:=hg2;simp at this;omega
  refine Zb rfl<|mA rfl U9 rfl rfl Yd (aLO hz) rfl ⟨_,rfl,rfl⟩<|dU rfl rfl rfl rfl ⟨_,rfl,rfl⟩<|Zb rfl ?_;refine' L.anK 4 (s:=18) (p:=22) rfl (fun hg3=>?_) (fun hg3=>?_) ?_;rotate_left
  ·refine Zb rfl<|gP rfl U9 rfl rfl rfl ⟨_,rfl,rfl⟩<|dZ rfl rfl rfl rfl ⟨_,rfl,rfl⟩<|nJ rfl rfl rfl rfl ⟨_,rfl,rfl⟩ ?_;exact L.cu 3
  ·refine Zh rfl<|Zh rfl<|Zh rfl<|nI rfl rfl rfl rfl ⟨_,rfl,rfl⟩ ?_;exact L.cu 3
  refine Zz rfl ?_;exact L.cu 5
 ·refine Zh rfl<|Zh rfl<|Zh rfl<|Zh rfl<|Zh rfl<|Zh rfl<|Zh rfl<|Zh rfl<|Zy rfl ?_;exact L.cu 8
 refine L.n1<|aI rfl (fun hc1=>?_) (fun hc1=>?_)
 ·refine C.s1<|Zi rfl<|Zi rfl<|L.n5<|Zah ?_;exact Zm [_,_] rfl C.rs (fun D hD=>⟨0,false,rfl,(fun h=>by cases h),fun _=>aEQ hc1⟩)
 ·have hok:=aHE hc1;refine C.kn<|C.s1<|Zi rfl<|L.n4<|Zi rfl<|L.n1<|Zai<|bT (γ:=Nat×Nat) (fun g=>s.size-g.1) (fun g=>g.1≤s.size∧g.2<10^g.1∧decFrom 0 s.data.toList=decFrom g.2 (s.data.toList.drop g.1)) (fun g=>[(5,.int .i64 (g.1:Int)),(4,.int .i64 (g.2:Int))]) [(3,_),(2,_),(0,_)] (fun g=>[D]) (0,0) ⟨by simp,by simp,by simp⟩ ⟨Ya,Ya,cW⟩ C.rs (aD) ?_;rintro⟨k,n⟩ ⟨h1,hn,hd⟩;simp only at h1 hn hd;have hn3:=QV hn (aOU h1 hok.2.1);refine C.s2<|Za rfl<|Za rfl<|gP rfl U9 rfl rfl rfl trivial<|Zac rfl<|L.n1<|aE rfl (fun hc2=>?_) (fun hc2=>?_)
  ·simp only at hc2;have hk:k<s.size:=by omega
   obtain⟨b,hb⟩:∃b,s.data.toList[k]?= some b:=⟨_,LE (by simpa using hk)⟩
   have hb0:=b.toNat_lt;refine C.kn<|aK<|Zai<|C.s2<|Za rfl<|Za rfl<|mA rfl U9 rfl rfl Yd (by rw[aNO];exact vH hb) rfl trivial<|Zac rfl<|Za rfl ?_
   refine' L.orK 5 (s:=34) (p:=39) rfl (fun hg4=>?_) (fun hg4=>?_) ?_;rotate_left
   ·refine Zb rfl<|Zb rfl<|mA rfl U9 rfl rfl Yd (by rw[aNO];exact vH hb) rfl ⟨_,rfl,rfl⟩<|dZ rfl rfl rfl rfl ⟨_,rfl,rfl⟩<|Zz rfl ?_;exact L.cu 4
   ·refine Zh rfl<|Zh rfl<|Zh rfl<|Zh rfl<|Zy rfl ?_;exact L.cu 4
   refine L.n1<|aI rfl (fun hc3=>?_) (fun hc3=>?_)
   ·refine C.s1<|Zi rfl<|Zi rfl<|L.n5<|Zah<|Zal<|Zah<|Zah<|Zal<|Zah ?_;exact Zm [_,_] rfl C.rs (fun D hD=>⟨0,false,rfl,(fun h=>by cases h),fun _=>QZ hok hd hb (by simp at hc3;omega)⟩)
   ·have hbd:48≤b.toNat∧b.toNat≤57:=by simp at hc3;omega
    refine C.kn<|C.rg<|Za rfl<|Z9 rfl rfl rfl Yf rfl trivial<|Za rfl<|Za rfl<|mA rfl U9 rfl rfl Yd (by rw[aNO];exact vH hb) rfl trivial<|gH rfl rfl rfl Yf rfl trivial<|vF rfl U5 U3 rfl Yf rfl trivial<|Zw rfl<|Zi rfl<|Zaa ?_;refine Zak<|Zag<|C.rg<|Za rfl<|Zw rfl<|Zi rfl<|Zaa ?_;exact aG 24 (k+1,n*10+(b.toNat-48)) ⟨by simp only;omega,ZR hn hbd,by simp only;rw[hd,VL hb hbd]⟩ Yl ⟨Ya,(by show some (Value.int _ _)=some (Value.int _ _);congr 2;simp only;omega),cW⟩ rfl rfl (LT _) (aD)
  ·obtain rfl:k=s.size:=by simp only at hc2;omega
   refine aP<|Zaj<|Zaj<|Zam<|Zag<|C.s1<|Za rfl<|Zi rfl<|Zi rfl<|L.n5 ?_;exact Zm [_,_] rfl C.rs (fun D hD=>⟨_,true,rfl,fun _=>WD hok hd,fun h=>by cases h⟩)
theorem aAP(w:ByteArray)(D:aA):Fn Tryz.prog 117 #[.string w] D (fun _ v=>v=.int .i64 (H8 w.data.toList)):=by
 refine enter 31 Tryz.func117 rfl rfl rfl rfl fun h0=>C.s1<|Zi rfl<|L.n4<|Za rfl<|L.n1<|Zai<|C.s1<|cJ rfl rfl rfl rfl trivial<|Zi rfl<|L.n1<|aI rfl (fun hc1=>?_) (fun hc1=>?_)
 ·refine C.s1<|Zi rfl<|L.n5<|Zal<|Zah ?_;exact leave1 rfl rfl rfl rfl (fun D hD=>by obtain rfl:=aNK hc1;rfl)
 ·refine C.s2<|cJ rfl rfl rfl rfl trivial<|Zi rfl<|L.n1<|aI rfl (fun hc2=>?_) (fun hc2=>?_)
  ·refine C.kn<|gO rfl hc2<|C.s1<|Zi rfl<|L.n5<|Zal<|Zah ?_;exact leave1 rfl rfl rfl rfl (fun D hD=>by obtain rfl:=aNK hc2;rfl)
  ·refine C.s1<|cJ rfl rfl rfl rfl trivial<|Zi rfl<|L.n1<|aI rfl (fun hc3=>?_) (fun hc3=>?_)
   ·refine C.kn<|gO rfl hc3<|C.s1<|Zi rfl<|L.n5<|Zal<|Zah ?_;exact leave1 rfl rfl rfl rfl (fun D hD=>by obtain rfl:=aNK hc3;rfl)
   ·refine C.s1<|cJ rfl rfl rfl rfl trivial<|Zi rfl<|L.n1<|aI rfl (fun hc4=>?_) (fun hc4=>?_)
    ·refine C.kn<|gO rfl hc4<|C.s1<|Zi rfl<|L.n5<|Zal<|Zah ?_;exact leave1 rfl rfl rfl rfl (fun D hD=>by obtain rfl:=aNK hc4;rfl)
    ·refine C.s1<|cJ rfl rfl rfl rfl trivial<|Zi rfl<|L.n1<|aI rfl (fun hc5=>?_) (fun hc5=>?_)
     ·refine C.kn<|gO rfl hc5<|C.s1<|Zi rfl<|L.n5<|Zal<|Zah ?_;exact leave1 rfl rfl rfl rfl (fun D hD=>by obtain rfl:=aNK hc5;rfl)
     ·refine C.s1<|cJ rfl rfl rfl rfl trivial<|Zi rfl<|L.n1<|aI rfl (fun hc6=>?_) (fun hc6=>?_)
      ·refine C.kn<|gO rfl hc6<|C.s1<|Zi rfl<|L.n5<|Zal<|Zah ?_;exact leave1 rfl rfl rfl rfl (fun D hD=>by obtain rfl:=aNK hc6;rfl)
      ·refine C.s1<|cJ rfl rfl rfl rfl trivial<|Zi rfl<|L.n1<|aI rfl (fun hc7=>?_) (fun hc7=>?_)
       ·refine C.kn<|gO rfl hc7<|C.s1<|Zi rfl<|L.n5<|Zal<|Zah ?_;exact leave1 rfl rfl rfl rfl (fun D hD=>by obtain rfl:=aNK hc7;rfl)
       ·refine C.s1<|cJ rfl rfl rfl rfl trivial<|Zi rfl<|L.n1<|aI rfl (fun hc8=>?_) (fun hc8=>?_)
        ·refine C.kn<|gO rfl hc8<|C.s1<|Zi rfl<|L.n5<|Zal<|Zah ?_;exact leave1 rfl rfl rfl rfl (fun D hD=>by obtain rfl:=aNK hc8;rfl)
        ·refine C.s1<|cJ rfl rfl rfl rfl trivial<|Zi rfl<|L.n1<|aI rfl (fun hc9=>?_) (fun hc9=>?_)
         ·refine C.kn<|gO rfl hc9<|C.s1<|Zi rfl<|L.n5<|Zal<|Zah ?_;exact leave1 rfl rfl rfl rfl (fun D hD=>by obtain rfl:=aNK hc9;rfl)
         ·refine C.s1<|cJ rfl rfl rfl rfl trivial<|Zi rfl<|L.n1<|aI rfl (fun hc10=>?_) (fun hc10=>?_)
          ·refine C.kn<|gO rfl hc10<|C.s1<|Zi rfl<|L.n5<|Zal<|Zah ?_;exact leave1 rfl rfl rfl rfl (fun D hD=>by obtain rfl:=aNK hc10;rfl)
          ·refine C.rg<|cJ rfl rfl rfl rfl trivial<|Zi rfl<|L.n1<|aI rfl (fun hc11=>?_) (fun hc11=>?_)
           ·refine C.s1<|Zi rfl<|L.n5<|Zal<|Zah ?_;exact leave1 rfl rfl rfl rfl (fun D hD=>by obtain rfl:=aNK hc11;rfl)
           ·refine C.s2<|cJ rfl rfl rfl rfl trivial<|Zi rfl<|L.n1<|aI rfl (fun hc12=>?_) (fun hc12=>?_)
            ·refine C.kn<|gO rfl hc12<|C.s1<|Zi rfl<|L.n5<|Zal<|Zah ?_;exact leave1 rfl rfl rfl rfl (fun D hD=>by obtain rfl:=aNK hc12;rfl)
            ·refine C.s1<|cJ rfl rfl rfl rfl trivial<|Zi rfl<|L.n1<|aI rfl (fun hc13=>?_) (fun hc13=>?_)
             ·refine C.kn<|gO rfl hc13<|C.s1<|Zi rfl<|L.n5<|Zal<|Zah ?_;exact leave1 rfl rfl rfl rfl (fun D hD=>by obtain rfl:=aNK hc13;rfl)
             ·refine C.s1<|cJ rfl rfl rfl rfl trivial<|Zi rfl<|L.n1<|aI rfl (fun hc14=>?_) (fun hc14=>?_)
              ·refine C.kn<|gO rfl hc14<|C.s1<|Zi rfl<|L.n5<|Zal<|Zah ?_;exact leave1 rfl rfl rfl rfl (fun D hD=>by obtain rfl:=aNK hc14;rfl)
              ·refine C.s1<|cJ rfl rfl rfl rfl trivial<|Zi rfl<|L.n1<|aI rfl (fun hc15=>?_) (fun hc15=>?_)
               ·refine C.kn<|gO rfl hc15<|C.s1<|Zi rfl<|L.n5<|Zal<|Zah ?_;exact leave1 rfl rfl rfl rfl (fun D hD=>by obtain rfl:=aNK hc15;rfl)
               ·refine C.s1<|cJ rfl rfl rfl rfl trivial<|Zi rfl<|L.n1<|aI rfl (fun hc16=>?_) (fun hc16=>?_)
                ·refine C.kn<|gO rfl hc16<|C.s1<|Zi rfl<|L.n5<|Zal<|Zah ?_;exact leave1 rfl rfl rfl rfl (fun D hD=>by obtain rfl:=aNK hc16;rfl)
                ·refine C.s1<|cJ rfl rfl rfl rfl trivial<|Zi rfl<|L.n1<|aI rfl (fun hc17=>?_) (fun hc17=>?_)
                 ·refine C.kn<|gO rfl hc17<|C.s1<|Zi rfl<|L.n5<|Zal<|Zah ?_;exact leave1 rfl rfl rfl rfl (fun D hD=>by obtain rfl:=aNK hc17;rfl)
                 ·refine C.rg<|cJ rfl rfl rfl rfl trivial<|Zi rfl<|L.n1<|aI rfl (fun hc18=>?_) (fun hc18=>?_)
                  ·refine C.s1<|Zi rfl<|L.n5<|Zal<|Zah ?_;exact leave1 rfl rfl rfl rfl (fun D hD=>by obtain rfl:=aNK hc18;rfl)
                  ·refine C.s2<|cJ rfl rfl rfl rfl trivial<|Zi rfl<|L.n1<|aI rfl (fun hc19=>?_) (fun hc19=>?_)
                   ·refine C.kn<|gO rfl hc19<|C.s1<|Zi rfl<|L.n5<|Zal<|Zah ?_;exact leave1 rfl rfl rfl rfl (fun D hD=>by obtain rfl:=aNK hc19;rfl)
                   ·refine C.rg<|cJ rfl rfl rfl rfl trivial<|Zi rfl<|L.n1<|aI rfl (fun hc20=>?_) (fun hc20=>?_)
                    ·refine C.s1<|Zi rfl<|L.n5<|Zal<|Zah ?_;exact leave1 rfl rfl rfl rfl (fun D hD=>by obtain rfl:=aNK hc20;rfl)
                    ·refine C.s2<|cJ rfl rfl rfl rfl trivial<|Zi rfl<|L.n1<|aI rfl (fun hc21=>?_) (fun hc21=>?_)
                     ·refine C.kn<|gO rfl hc21<|C.s1<|Zi rfl<|L.n5<|Zal<|Zah ?_;exact leave1 rfl rfl rfl rfl (fun D hD=>by obtain rfl:=aNK hc21;rfl)
                     ·refine C.rg<|cJ rfl rfl rfl rfl trivial<|Zi rfl<|L.n1<|aI rfl (fun hc22=>?_) (fun hc22=>?_)
                      ·refine C.s1<|Zi rfl<|L.n5<|Zal<|Zah ?_;exact leave1 rfl rfl rfl rfl (fun D hD=>by obtain rfl:=aNK hc22;rfl)
                      ·refine bB<|Zak<|Zag<|C.s1<|Zi rfl<|L.n5 ?_;exact leave1 rfl rfl rfl rfl (fun D hD=>by show Value.int _ _=_;rw[RY (w:=w) (aNI hc1) (aNI hc2) (aNI hc3) (aNI hc4) (aNI hc5) (aNI hc6) (aNI hc7) (aNI hc8) (aNI hc9) (aNI hc10) (aNI hc11) (aNI hc12) (aNI hc13) (aNI hc14) (aNI hc15) (aNI hc16) (aNI hc17) (aNI hc18) (aNI hc19) (aNI hc20) (aNI hc21) (aNI hc22)])
theorem ER(line:ByteArray)(hl:line.size≤1000)(D:aA):Fn Tryz.prog 59 #[.string line] D (fun D' v=>∃nv b,v=.tuple #[nv,.bool b]∧(match gG line.data.toList with|some ns=>b=true∧Sl D' RI 1 nv ns|none=>b=false)):=by
 obtain⟨p0,ps,hcut⟩:=rW line;have hcl:=zV line;have hp0:(dC line)[0]?= some p0:=by rw[hcut];rfl
 have hpl:(dC line).length=ps.length+1:=by rw[hcut];rfl
 refine enter 40 Tryz.func59 rfl rfl rfl rfl fun h0=>C.s1<|Zi rfl<|Zi rfl<|L.n3<|Za rfl<|bZ rfl rfl rfl (fun D1 hD1=>Z6 line hl _) rfl cW (fun v1 D1 hD1 hp1=>Zi rfl<|L.n4<|Za rfl<|Zp rfl U22 Tf.s9 rfl hp1 rfl hp0 (fun b1 o1 cs1 hr1 hcl1 hA1=>?_))
 obtain rfl:cs1=[.string _]:=hr1;refine Zc 0 rfl Tf.a9 rfl hA1 rfl<|Ze rfl (fun D2 hD2=>aAP p0 _)<|Za rfl<|aO rfl U22 rfl hp1 rfl rfl trivial<|gH rfl rfl rfl Yf rfl trivial<|Zaf rfl<|L.n1<|aE rfl (fun hc1=>?_) (fun hc1=>?_)
 ·refine C.s1<|Zi rfl<|Zi rfl<|L.n5<|Zah ?_;exact Zm [_,_] rfl C.rs (fun D hD=>⟨_,false,rfl,by rw[QR hcut hc1]⟩)
 ·refine C.kn<|C.s1<|Zi rfl<|L.n4<|Zi rfl<|L.n1<|Zai<|cK (γ:=Nat×List Int×Value×aC) (fun g=>ps.length-g.1) (fun g=>g.1≤ps.length∧(ps.take g.1).mapM pA=some g.2.1∧g.2.1.length=g.1∧bM 3 1 g.2.2.1 g.1 (ints g.2.1) g.2.2.2) (fun g=>[(6,.int .i64 ((g.1+1:Nat):Int)),(5,g.2.2.1)]) [(4,_),(3,_),(2,_)] (fun g=>g.2.2.2++[]) (fun g=>[D1,D]) (0,[],.slice none 0 0,[]) ⟨by simp,rfl,rfl,by simpa [ints]using bM.nil⟩ ⟨Ya,Ya,cW⟩ C.rs (LT _) (aD) ?_;rintro⟨k,ns,v,ν⟩ ⟨h1,h2,h3,ha⟩;simp only at h1 h2 h3 ha;refine C.s2<|Za rfl<|Za rfl<|aO rfl U22 rfl hp1 rfl rfl trivial<|Zac rfl<|L.n1<|aE rfl (fun hc2=>?_) (fun hc2=>?_)
  ·simp only at hc2;have hk:k<ps.length:=by omega
   obtain⟨x,hx⟩:=C.ge ps k;refine C.kn<|aK<|Zai<|C.s1<|Za rfl<|Za rfl<|Zp rfl U22 Tf.s9 rfl hp1 rfl (by rw[hcut];exact aED hx) (fun b2 o2 cs2 hr2 hcl2 hA2=>?_)
   obtain rfl:cs2=[.string _]:=hr2;refine Zc 0 rfl Tf.a9 rfl hA2 rfl<|bZ rfl rfl rfl (fun D3 hD3=>FS x _) rfl cW (fun v3 D3 hD3 hp3=>?_);obtain⟨m,nb,rfl,h51,h52⟩:=hp3;refine Za rfl<|Zab rfl<|Zab rfl<|Zi rfl<|Zi rfl<|L.n4<|Za rfl<|Zae rfl<|L.n1<|aI rfl (fun hc3=>?_) (fun hc3=>?_)
   ·refine C.s1<|Zi rfl<|Zi rfl<|L.n5<|Zah<|Zal<|Zah<|Zah<|Zal<|Zah ?_;exact Zm [_,_] rfl C.rs (fun D hD=>⟨_,false,rfl,by rw[UC hcut hc1 hx (h52 (by simpa using hc3))]⟩)
   ·have hnb:nb=true:=by simpa using hc3
    refine C.kn<|C.rg<|Za rfl<|Za rfl<|Zn rfl U25 Tf.s3 Tf.z3 rfl rfl rfl rfl (.cons rfl rfl .nil) (fun b901 D901 hD901 hA901=>?_);have hS901:=Sl.ofInts (l:=[_]) (n:=1) (cap:=1) hA901 rfl Yd Yd;refine aV (A:=[]) (B:=[]) rfl U25 rfl rfl Tf.s3 Tf.z3 rfl Tf.i3 rfl rfl rfl ha (jM.lit hA901) Ye rfl (by simp[ints,h3]) Yi Yd (aMR rfl) rfl cW (fun v1 ν1 ha1=>?_);have ha2:bM 3 1 v1 (k+1) (ints (ns++[m])) ν1:=by rw[←eQ];exact ha1
    refine aF (ν1++[]) rfl<|Zi rfl<|Zaa<|Zak<|Zag<|C.rg<|Za rfl<|Zw rfl<|Zi rfl<|Zaa ?_;exact aG 26 (k+1,ns++[m],v1,ν1) ⟨by simp only;omega,FH hx h2 (h51 hnb),by simp[h3],ha2⟩ Yl ⟨Ya,Ya,cW⟩ rfl rfl (LT _) (fun D h=>⟨D,aRH _ (aRH _ (h)),Le.refl D⟩)
  ·obtain rfl:k=ps.length:=by simp only at hc2;omega
   rw[aNL]at h2;refine aP<|Zaj<|Zaj<|Zam<|Zag<|C.s1<|Za rfl<|Zi rfl<|Zi rfl<|L.n5<|eN (A:=[]) (B:=[]) ha rfl (fun D9 hD9 hF9=>?_);have hns:=hF9.ints (l:=ns) h3 Yd;exact Zm [_,_] rfl C.rs (fun D hD=>⟨_,true,rfl,by rw[QU hcut hc1 h2];exact⟨rfl,hns.up RI.up (hD _ Ye)⟩⟩)
end L12
end Go.Fs
namespace Go.Fs
variable{P:Program}{X:Cx}{γb:Type}[Membership Nat γb]{bad:γb}{all:Array Oper}{K:Act→World→Prop}{Q:Exit→Act→World→Prop}
variable{σ:bI}{μ:aC}{Ds:List aA}{os:List (Bool×Nat)}{fl:Bool}{ix:Nat}
variable{d:Nat}{x y z:Operand}{u v:Value}{ty:TypeId}{pos:String}{aft:Array Edge}{g:Option (Nat×Bool)}
theorem HB{t e tr:TypeId}{sz n cap:Nat}{ad ad':Option Addr}{c':Nat}{ats:Array TypeId}
  (ho:all[ix]?= some ⟨some d,.call {callee:=.builtin .append,args:=#[x,y],argTypes:=ats},tr,pos,aft,g⟩) (ht:P.underlying t=some (.slice e)) (hat:ats[0]?= some t) (hat1:ats[1]?= some t) (hs:TS P e sz)
  (hx:ev σ x=some (.slice ad n cap)) (hy:ev σ y=some (.slice ad' 0 c')) (hcap:n≤cap) (hN:Nat.blt d X.N=true) (hg:cY all σ g)
  (kk:WL P X bad all K Q os ((d,.slice ad n cap)::σ) μ Ds):WL P X bad all K Q ((fl,ix)::os) σ μ Ds:=by
 refine dP ho rfl rfl hg fun a w hh=>?_
 have hex:(execOp a.eval ⟨some d,.call {callee:=.builtin .append,args:=#[x,y],argTypes:=ats},tr,pos,aft,g⟩).run P w=
   ((Builtin.append_ ats tr #[.slice ad n cap,.slice ad' 0 c']).run P w).andThen fun r w'=>.ok (.value r) w':=by
  simp only[execOp,resolve,pure_bind,invoke,builtin];have e1:(#[x,y].map a.eval)=#[.slice ad n cap,.slice ad' 0 c']:=by simp[hh.eval hx,hh.eval hy]
  rw[e1,Sem.run_bind];simp only[Sem.run_pure]
 rw[hex];have hfc:(Builtin.firstCells sz 0 (.slice ad' 0 c')).run P w=.ok ([]:List Value).toArray w:=by
  cases ad' with
  |none=>rfl
  |some a=>simp[Builtin.firstCells,loadCells,loadCellsFrom,Sem.run_pure]
 rw[kJ (tr:=tr) (w':=w) ht hat hat1 hs (m:=0) (xs:=[]) rfl hfc hcap (by cases ad<;>rfl)];exact⟨fun _=>jZ.refl _ _,kk _ _ (hh.put hN _)⟩
theorem OM{t e tr:TypeId}{sz n m b:Nat}{D₁ D₂:aA}{cells xs:List Value}{xv:Value}{z0:Value}{ats:Array TypeId}
  (ho:all[ix]?= some ⟨some d,.call {callee:=.builtin .append,args:=#[x,y],argTypes:=ats},tr,pos,aft,g⟩) (ht:P.underlying t=some (.slice e)) (hat:ats[0]?= some t) (hat1:ats[1]?= some t)
  (hs:TS P e sz) (hz:TZ P e z0) (hz1:Nat.beq z0.cells.size sz=true) (hi:(P.info? e).map (fun i=>Nat.ble 1 i.bytes&&Nat.ble i.bytes 4096)=some true)
  (hx:ev σ x=some (.slice (some ⟨b,0,none⟩) n n)) (hy:ev σ y=some xv) (hA:At D₁ b 0 cells) (hD:D₁∈Ds) (hcl:cells.length=n*sz) (hsrc:jM D₂ xv m xs) (hD2:D₂∈Ds) (hxl:xs.length=m*sz) (hm0:0<m) (hlen:n+m≤10000000) (hN:Nat.blt d X.N=true) (hg:cY all σ g)
  (kk:∀v' ν',bM e sz v' (n+m) (cells++xs) ν'→WL P X bad all K Q os ((d,v')::σ) (ν'++μ) Ds):WL P X bad all K Q ((fl,ix)::os) σ μ Ds:=by
 refine dP ho rfl rfl hg fun a w hh=>?_
 obtain⟨h1,h2,h3,D,h4,h5,h6⟩:=id hh;obtain⟨i0,hi,hb1,hb2⟩:∃i0,P.info? e=some i0∧1≤i0.bytes∧i0.bytes≤4096:=by
  cases h:P.info? e with
  |none=>simp[h]at hi
  |some i=>simp[h]at hi;exact⟨i,rfl,hi⟩
 have hz1':=aNH hz1;have hex:(execOp a.eval ⟨some d,.call {callee:=.builtin .append,args:=#[x,y],argTypes:=ats},tr,pos,aft,g⟩).run P w=
   ((Builtin.append_ ats tr #[.slice (some ⟨b,0,none⟩) n n,xv]).run P w).andThen fun r w'=>.ok (.value r) w':=by
  simp only[execOp,resolve,pure_bind,invoke,builtin];have e1:(#[x,y].map a.eval)=#[.slice (some ⟨b,0,none⟩) n n,xv]:=by simp[hh.eval hx,hh.eval hy]
  rw[e1,Sem.run_bind];simp only[Sem.run_pure]
 rw[hex];have lies:∀{D₀:aA} (_:D₀∈Ds) (w':World),w'.heap=w.heap→∀b o ys,At D₀ b o ys→aAO w' b o ys:=fun hD₀ w' hw' b o ys hA j u hj=>by
  have:=h4.agr.cell ((h5 _ hD₀).get (hA j u hj));unfold World.cell? at this ⊢
  rw[hw'];exact this
 obtain⟨c,hc,hrun⟩:=rP (tr:=tr) (w:=w) (a:=some ⟨b,0,none⟩) (n:=n) (cap:=n) (old:=cells) ht hat hat1 hs hz hi (X4 hsrc) (fun w' hw'=>uE hsrc hxl (fun b o=>lies hD2 w' hw' b o xs)) (fun w' hw'=>by
  simp only[Builtin.firstCells];exact iN hcl (lies hD w' hw' b 0 cells hA)) Yd hlen ⟨hb1,hb2⟩
 rw[hrun];obtain⟨junk,hjunk⟩:∃junk:List Value,cells.toArray++xs.toArray++Builtin.zeroCells z0.cells (c-(n+m))=(cells++xs++junk).toArray∧(cells++xs++junk).length=c*sz:=by
  refine⟨(Builtin.zeroCells z0.cells (c-(n+m))).toList,by simp,?_⟩;have:=oG z0.cells (c-(n+m));simp only[aLY,Array.length_toList,this,hz1',hcl,hxl];rw[←aOR,←aOR];congr 1;omega
 have hpush:=h4.push (.cells (cells++xs++junk).toArray e (0,0)) rfl;simp only[Result.andThen_ok];rw[hjunk.1];refine⟨fun _=>⟨by simp,fun b hb _=>cE hb⟩,?_⟩;have hst:fU X.h0 X.lo X.D0 X.mods ([(w.heap.size,.cells (cells++xs++junk).toArray e (0,0))]++μ) D {w with drawn:=w.drawn+1,heap:=w.heap.push (.cells (cells++xs++junk).toArray e (0,0))}:=
  ⟨hpush.hlo,hpush.size,hpush.old,hpush.dold,hpush.agr,hpush.box,hpush.nd,hpush.fz,hpush.env⟩
 exact kk _ _ (aMD ⟨_,c,junk,rfl,hc,rfl,by simp[hcl,hxl,aOR],hjunk.2⟩) _ _ (Hl.put ⟨h1,h2,h3,D,hst,h5,h6.step (fun _ p hp=>by
  rcases aMO.1 hp with hp|hp
  ·exact aMD (by rw[aML.1 hp];exact aMS _)
  ·exact aMR (aMB.2 ⟨p,hp,rfl⟩)) (fun _=>⟨by simp,fun b hb _=>⟨cE hb,rfl⟩,rfl⟩) hst.dom⟩ hN _)
end Go.Fs
namespace Go.Fs
open Go.Proofs
namespace L12
open C12 Go.Lib
theorem A3(l:List ByteArray):∀u∈l.map Value.string,cell1 u=true:=by
 intro u hu;obtain⟨x,_,rfl⟩:=aMB.1 hu;rfl
theorem XC{α:Type}(f:α→Value)(l:List α):l.flatMap (fun x=>[f x])=l.map f:=by
 induction l with
 |nil=>rfl
 |cons a l ih=>rw[aNQ,ih];rfl
theorem _root_.Go.Fs.jM.strs{D:aA}{v:Value}{l:List ByteArray}(h:Sl D RS 1 v l):jM D v l.length (l.map Value.string):=by
 rw[←XC];exact jM.of (R:=RS) (fun _ _ _ h=>h) (fun _=>rfl) h
section
variable{α:Type}[DecidableEq α]{xs ys:List α}{a b:α}{k:Nat}
omit [DecidableEq α]in
theorem kY(ha:xs[k]?= some a)(hb:ys[k]?= some b)(h:xs.take k=ys.take k)(e:a=b):xs.take (k+1)=ys.take (k+1):=by
 rw[aMN,aMN,ha,hb,h,e]
theorem aLU(h:xs.length≠ys.length):decide (xs=ys)=false:=aPN fun e=>h (by rw[e])
theorem ZJ(ha:xs[k]?= some a)(hb:ys[k]?= some b)(h:a≠b):decide (xs=ys)=false:=aPN fun e=>h (by rw[e,hb]at ha;exact(aMY ha).symm)
theorem MP(hl:xs.length=ys.length)(hk:xs.length≤k)(h:xs.take k=ys.take k):decide (xs=ys)=true:=decide_eq_true (by rwa [aNA hk,aNA Yd]at h)
end
theorem KW{xs:List ByteArray}{x:ByteArray}{k n:Nat}(hx:xs[k]?= some x)(h:∀y∈xs.take k,y.size≤n)(hs:x.size≤n):∀y∈xs.take (k+1),y.size≤n:=by
 intro y hy;rw[aMN,hx,aMO]at hy;rcases hy with hy|hy
 ·exact h y hy
 ·simp at hy;subst hy;exact hs
theorem FB{xs:List ByteArray}(h:40<xs.length):dI xs=3:=by
 unfold dI;rw[aMT];simp;left;omega
theorem AZ{xs:List ByteArray}{x:ByteArray}{k:Nat}(hx:xs[k]?= some x)(h:50<x.size):dI xs=3:=by
 unfold dI;rw[aMT];simp only[aNR,aMV,aQQ,List.all_eq_false];exact aMD ⟨x,aLW hx,by simp;omega⟩
theorem f8{xs:List ByteArray}(h:xs.length≤40)(h2:∀x∈xs,x.size≤50):dI xs=0:=by
 unfold dI;rw[aMM];simp only[aNR,aMV,aQQ,List.all_eq_false,not_or,not_exists,not_and];refine⟨by omega,fun x hx=>?_⟩;have:=h2 x hx;simp;omega
def d5(xs:List ByteArray):Bool:=decide (xs.length≤45)&&xs.all fun x=>decide (x.size≤70)
theorem a8{xs:List ByteArray}:d5 xs=true ↔ xs.length≤45∧∀x∈xs,x.size≤70:=by unfold d5;simp
theorem HO{xs:List ByteArray}{x:ByteArray}{k:Nat}(hx:xs[k]?= some x)(h:70<x.size):d5 xs=false:=by
 rw[←Bool.not_eq_true,a8];rintro⟨_,h2⟩;have:=h2 x (aLW hx);omega
theorem PG{xs:List ByteArray}{k:Nat}(hk:xs.length≤k∨46≤k)(h:∀x∈xs.take k,x.size≤70):d5 xs=decide ((xs.length:Int)≤45):=by
 rw[aPR,a8,aMV];constructor
 ·rintro⟨h1,_⟩;omega
 ·intro h1;have h2:xs.take k=xs:=aNA Yd;rw[h2]at h;exact⟨by omega,h⟩
theorem BY:∀{ps:List (List UInt8)} {ns:List Int},ps.mapM kX=some ns→ns.length=ps.length
 | [],ns,h=>by
  obtain rfl:([]:List Int)=ns:=by simpa using h
  rfl
 |p::ps,ns,h=>by
  rw[aPL]at h;cases hp:kX p with
  |none=>rw[hp]at h;cases h
  |some q=>
   cases hq:ps.mapM kX with
   |none=>rw[hp,hq]at h;cases h
   |some qs=>
    rw[hp,hq]at h;obtain rfl:q::qs=ns:=aMY h;rw[aMI,aMI,BY hq]
theorem UQ{x:ByteArray}{ns:List Int}(h:gG x.data.toList=some ns)(hs:x.size≤1000):ns.length≤1001:=by
 have hc:=m9 x.data.toList;have hl:x.data.toList.length=x.size:=rfl;unfold gG at h;split at h
 ·cases h
 ·rename_i p ps hps;split at h
  ·have:=BY h;rw[hps,aMI]at hc;omega
  ·cases h
theorem SZ{D:aA}{nv:Value}{nb:Bool}{o:Option (List Int)}(hb:nb=false)(h:match o with|some ns=>nb=true∧Sl D RI 1 nv ns|none=>nb=false):o=none:=by
 cases o with
 |none=>rfl
 |some ns=>rw[hb]at h;cases h.1
def vR(br:Bool)(ns:List Int)(j:Nat):Nat:=((List.range j).filter fun i=>(decide (1≤i)&&decide (ns[i]?= some 2))&&(br||decide (i=2))).length
theorem AV(br:Bool)(ns:List Int):vR br ns 1=0:=rfl
theorem LZ(br:Bool)(ns:List Int)(j:Nat):vR br ns j≤j:=by
 unfold vR;exact aOU (aPD _ _) Ye
theorem j6(br:Bool)(ns:List Int)(j:Nat):vR br ns (j+1)=vR br ns j+if((decide (1≤j)&&decide (ns[j]?= some 2))&&(br||decide (j=2)))=true then 1 else 0:=by
 unfold vR;rw[aOF,aOX,aLY];congr 1;rw[aPS];split<;>rfl
theorem BD{br:Bool}{ns:List Int}{j:Nat}{m:Int}(hm:ns[j]?= some m)(hj:1≤j)(h:(decide (m=2)&&(br||decide ((j:Int)=2)))=true):vR br ns (j+1)=vR br ns j+1:=by
 rw[j6,aMT];simp only[aMC,aNR,aMV]at h ⊢
 refine⟨⟨hj,by rw[hm,h.1]⟩,h.2.imp id (fun e=>by omega)⟩
theorem LP{br:Bool}{ns:List Int}{j:Nat}{m:Int}(hm:ns[j]?= some m)(h:(decide (m=2)&&(br||decide ((j:Int)=2)))=false):vR br ns (j+1)=vR br ns j:=by
 rw[j6,aMM]
 ·rfl
 ·intro hh;simp only[aMC,aNR,aMV]at hh;have:(decide (m=2)&&(br||decide ((j:Int)=2)))=true:=by
   simp only[aMC,aNR,aMV];refine⟨?_,hh.2.imp id (fun e=>by omega)⟩;have h2:=hh.1.2;rw[hm]at h2;exact aMY h2
  rw[this]at h;cases h
theorem QN(br:Bool)(ns:List Int){j:Nat}(h:j≤max 1 ns.length)(h2:ns.length≤j):vR br ns j=vR br ns ns.length:=by
 by_cases hl:ns.length=0
 ·rw[hl];obtain rfl|rfl:j=0∨j=1:=by omega
  ·rfl
  ·rfl
 ·obtain rfl:j=ns.length:=by omega
  rfl
def X8(x:ByteArray):ByteArray:=(dC x).headD ⟨#[]⟩
def aFF(x:ByteArray):Nat:=match gG x.data.toList with
 |none=>0
 |some _=>if X8 x=⟨#[115,109,117,100,103,101]⟩then 1 else 0
def aIQ(x:ByteArray):Nat:=match gG x.data.toList with
 |none=>0
 |some ns=>if(decide (X8 x=⟨#[98,114,111,107,101,110]⟩)||decide (X8 x=⟨#[112,97,114,116]⟩))=true then vR (decide (X8 x=⟨#[98,114,111,107,101,110]⟩)) ns ns.length else 0
def HV(xs:List ByteArray):Bool:=decide (((xs.map aFF).sum:Int)≤3)&&decide (((xs.map aIQ).sum:Int)≤4)
def t7(xs:List ByteArray):Bool:=(d5 xs&&decide (dI xs=0))&&HV xs
theorem BI{xs:List ByteArray}(h:t7 xs=true):dI xs=0:=by
 unfold t7 at h;simp only[aMC,aMV]at h;exact h.1.2
theorem QM{xs:List ByteArray}{sm un:Nat}(h2:sm=(xs.map aFF).sum)(h3:un=(xs.map aIQ).sum):(decide ((sm:Int)≤3)&&decide ((un:Int)≤4))=HV xs:=by rw[h2,h3];rfl
theorem rF{xs:List ByteArray}{x:ByteArray}{k:Nat}{f:ByteArray→Nat}(hx:xs[k]?= some x):((xs.take (k+1)).map f).sum=((xs.take k).map f).sum+f x:=by
 rw[aMN,hx];simp
section
variable{x p0:ByteArray}{ps:List ByteArray}{ns:List Int}{j:Nat}
theorem XF(h:gG x.data.toList=none):aFF x=0:=by unfold aFF;rw[h]
theorem YZ(h:gG x.data.toList=none):aIQ x=0:=by unfold aIQ;rw[h]
theorem O3(hc:dC x=p0::ps):X8 x=p0:=by unfold X8;rw[hc];rfl
theorem aDE(hc:dC x=p0::ps)(h:gG x.data.toList=some ns)(hp:decide (p0=⟨#[115,109,117,100,103,101]⟩)=true):aFF x=1:=by unfold aFF;rw[h,O3 hc];exact aMT (aNK hp)
theorem aHM(hc:dC x=p0::ps)(h:gG x.data.toList=some ns)(hp:decide (p0=⟨#[115,109,117,100,103,101]⟩)=false):aFF x=0:=by unfold aFF;rw[h,O3 hc];exact aMM (aNI hp)
theorem TW(hc:dC x=p0::ps)(h:gG x.data.toList=some ns)(he:(decide ((j:Int)<(ns.length:Int))&&(decide (p0=⟨#[98,114,111,107,101,110]⟩)||decide (p0=⟨#[112,97,114,116]⟩)))=false)(h6:j≤max 1 ns.length)(h8:j=1∨(decide (p0=⟨#[98,114,111,107,101,110]⟩)||decide (p0=⟨#[112,97,114,116]⟩))=true):aIQ x=vR (decide (p0=⟨#[98,114,111,107,101,110]⟩)) ns j:=by
 unfold aIQ;rw[h,O3 hc];simp only;rw[Bool.and_eq_false_iff]at he;by_cases hb:(decide (p0=⟨#[98,114,111,107,101,110]⟩)||decide (p0=⟨#[112,97,114,116]⟩))=true
 ·rw[aMT hb];have hj:=he.resolve_right (by rw[hb];simp)
  exact(QN _ ns h6 (by have:=aNI hj;omega)).symm
 ·rw[aMM hb];obtain rfl:=h8.resolve_right hb;rfl
end
theorem QS{D:aA}{nv:Value}{nb:Bool}{o:Option (List Int)}(hb:nb=true)(h:match o with|some ns=>nb=true∧Sl D RI 1 nv ns|none=>nb=false):∃ns,o=some ns∧Sl D RI 1 nv ns:=by
 cases o with
 |none=>simp only at h;rw[hb]at h;cases h
 |some ns=>exact⟨ns,rfl,h.2⟩
theorem X5(sv:Value)(xs:List ByteArray)(D:aA)(hS:Sl D RS 1 sv xs)(hl:xs.length≤10000000):Fn Tryz.prog 10 #[sv] D (fun D' v=>Sl D' RS 1 v xs):=by
 refine enter 6 Tryz.func10 rfl rfl rfl rfl fun h0=>C.s1<|Zi rfl<|L.n3<|Zn rfl U22 Tf.s9 Tf.z9 rfl rfl rfl rfl .nil (fun b901 D901 hD901 hA901=>Za rfl<|aV (A:=[]) (ν:=[]) (B:=[]) rfl U22 rfl rfl Tf.s9 Tf.z9 rfl Tf.i9 rfl rfl rfl bM.nil (jM.strs hS) Ye Yal rfl (A3 _) Yd (aMR rfl) rfl cW (fun v1 ν1 ha1=>Zi rfl<|L.n5 ?_))
 have ha2:bM 9 1 v1 xs.length (xs.map Value.string) ν1:=by simpa using ha1
 refine eN (A:=[]) (B:=[]) ha2 rfl (fun D2 hD2 hF=>?_);exact leave1 rfl rfl rfl rfl (fun D' hD=>(hF.strs rfl Yd).up RS.up (hD _ Ye))
theorem IT(av bv:Value)(xs ys:List Int)(D:aA)(hx:Sl D RI 1 av xs)(hy:Sl D RI 1 bv ys):Fn Tryz.prog 23 #[av,bv] D (fun _ v=>v=.bool (decide (xs=ys))):=by
 have hl:=hx.len;refine enter 26 Tryz.func23 rfl rfl rfl rfl fun h0=>C.s1<|Zi rfl<|L.n4<|Za rfl<|aO rfl U43 rfl hx rfl rfl trivial<|Za rfl<|aO rfl U25 rfl hy rfl rfl trivial<|Zaf rfl<|L.n1<|aE rfl (fun hc1=>?_) (fun hc1=>?_)
 ·refine C.s1<|Zi rfl<|L.n5<|Zah ?_;exact leave1 rfl rfl rfl rfl (fun D hD=>aMQ Value.bool (aLU Yd).symm)
 ·have hlen:xs.length=ys.length:=by omega
  refine C.kn<|C.s2<|Zi rfl<|L.n1<|Zai<|bT (γ:=Nat) (fun k=>xs.length-k) (fun k=>k≤xs.length∧xs.take k=ys.take k) (fun k=>[(5,.int .i64 (k:Int))]) [(4,_),(0,_),(1,_)] (fun k=>[D]) 0 Ye ⟨Ya,cW⟩ C.rs (aD) ?_;rintro k ⟨h1,h2⟩;refine C.s2<|Za rfl<|Za rfl<|aO rfl U43 rfl hx rfl rfl trivial<|Zac rfl<|L.n1<|aE rfl (fun hc2=>?_) (fun hc2=>?_)
  ·have hk:k<xs.length:=by omega
   obtain⟨a,ha⟩:=C.ge xs k;obtain⟨b,hb⟩:=C.ge ys k;refine C.kn<|aK<|Zai<|aK<|C.drawA [] 3 9 242 (fun _ _ _ h=>bP (P:=Tryz.prog) (fn:=Tryz.f23) _ _ _ h)<|Za rfl<|Za rfl<|Zp rfl U43 Tf.s44 rfl hx rfl ha (fun b1 o1 cs1 hr1 hcl1 hA1=>?_);obtain rfl:cs1=[.int .i64 _]:=hr1;refine Zc 0 rfl Tf.a44 rfl hA1 rfl<|Za rfl<|Za rfl<|Zp rfl U25 Tf.s3 rfl hy rfl hb (fun b2 o2 cs2 hr2 hcl2 hA2=>?_);obtain rfl:cs2=[.int .i64 _]:=hr2;refine Zc 0 rfl Tf.a3 rfl hA2 rfl<|Zaf rfl<|L.n1<|aE rfl (fun hc3=>?_) (fun hc3=>?_)
   ·refine C.s1<|Zi rfl<|L.n5<|Zal<|Zah<|Zah<|Zal<|Zah ?_;exact leave1 rfl rfl rfl rfl (fun D hD=>aMQ Value.bool (ZJ ha hb (hc3)).symm)
   ·refine bB<|Zak<|Zag<|C.rg<|Za rfl<|Zw rfl<|Zi rfl<|Zaa ?_;exact aG 17 (k+1) ⟨by omega,kY ha hb h2 Yd⟩ Yd ⟨Ya,cW⟩ rfl rfl (LT _) (aD)
  ·refine aP<|Zaj<|Zaj<|Zam<|Zag<|C.s1<|Zi rfl<|L.n5 ?_;exact leave1 rfl rfl rfl rfl (fun D hD=>aMQ Value.bool (MP hlen Yd h2).symm)
theorem j4(av bv:Value)(xs ys:List Int)(D:aA)(hx:Sl D RI 1 av xs)(hy:Sl D RI 1 bv ys):Fn Tryz.prog 65 #[av,bv] D (fun _ v=>v=.bool (decide (xs=ys))):=by
 have hl:=hx.len;refine enter 26 Tryz.func65 rfl rfl rfl rfl fun h0=>C.s1<|Zi rfl<|L.n4<|Za rfl<|aO rfl U25 rfl hx rfl rfl trivial<|Za rfl<|aO rfl U25 rfl hy rfl rfl trivial<|Zaf rfl<|L.n1<|aE rfl (fun hc1=>?_) (fun hc1=>?_)
 ·refine C.s1<|Zi rfl<|L.n5<|Zah ?_;exact leave1 rfl rfl rfl rfl (fun D hD=>aMQ Value.bool (aLU Yd).symm)
 ·have hlen:xs.length=ys.length:=by omega
  refine C.kn<|C.s2<|Zi rfl<|L.n1<|Zai<|bT (γ:=Nat) (fun k=>xs.length-k) (fun k=>k≤xs.length∧xs.take k=ys.take k) (fun k=>[(5,.int .i64 (k:Int))]) [(4,_),(0,_),(1,_)] (fun k=>[D]) 0 Ye ⟨Ya,cW⟩ C.rs (aD) ?_;rintro k ⟨h1,h2⟩;refine C.s2<|Za rfl<|Za rfl<|aO rfl U25 rfl hx rfl rfl trivial<|Zac rfl<|L.n1<|aE rfl (fun hc2=>?_) (fun hc2=>?_)
  ·have hk:k<xs.length:=by omega
   obtain⟨a,ha⟩:=C.ge xs k;obtain⟨b,hb⟩:=C.ge ys k;refine C.kn<|aK<|Zai<|aK<|C.drawA [] 3 9 242 (fun _ _ _ h=>bP (P:=Tryz.prog) (fn:=Tryz.f65) _ _ _ h)<|Za rfl<|Za rfl<|Zp rfl U25 Tf.s3 rfl hx rfl ha (fun b1 o1 cs1 hr1 hcl1 hA1=>?_);obtain rfl:cs1=[.int .i64 _]:=hr1;refine Zc 0 rfl Tf.a3 rfl hA1 rfl<|Za rfl<|Za rfl<|Zp rfl U25 Tf.s3 rfl hy rfl hb (fun b2 o2 cs2 hr2 hcl2 hA2=>?_);obtain rfl:cs2=[.int .i64 _]:=hr2;refine Zc 0 rfl Tf.a3 rfl hA2 rfl<|Zaf rfl<|L.n1<|aE rfl (fun hc3=>?_) (fun hc3=>?_)
   ·refine C.s1<|Zi rfl<|L.n5<|Zal<|Zah<|Zah<|Zal<|Zah ?_;exact leave1 rfl rfl rfl rfl (fun D hD=>aMQ Value.bool (ZJ ha hb (hc3)).symm)
   ·refine bB<|Zak<|Zag<|C.rg<|Za rfl<|Zw rfl<|Zi rfl<|Zaa ?_;exact aG 17 (k+1) ⟨by omega,kY ha hb h2 Yd⟩ Yd ⟨Ya,cW⟩ rfl rfl (LT _) (aD)
  ·refine aP<|Zaj<|Zaj<|Zam<|Zag<|C.s1<|Zi rfl<|L.n5 ?_;exact leave1 rfl rfl rfl rfl (fun D hD=>aMQ Value.bool (MP hlen Yd h2).symm)
theorem IU(sv:Value)(xs:List ByteArray)(D:aA)(hS:Sl D RS 1 sv xs):Fn Tryz.prog 18 #[sv] D (fun _ v=>v=.int .i64 (dI xs)):=by
 have hl:=hS.len;refine enter 19 Tryz.func18 rfl rfl rfl rfl fun h0=>C.s1<|Zi rfl<|L.n4<|Za rfl<|aO rfl U22 rfl hS rfl rfl trivial<|dZ rfl rfl rfl rfl trivial<|L.n1<|aE rfl (fun hc1=>?_) (fun hc1=>?_)
 ·refine C.s1<|Zi rfl<|L.n5<|Zah ?_;exact leave1 rfl rfl rfl rfl (fun D hD=>by show Value.int _ _=_;rw[FB Yd])
 ·have h40:xs.length≤40:=by omega
  refine C.kn<|C.s2<|Zi rfl<|L.n1<|Zai<|bT (γ:=Nat) (fun k=>xs.length+1-k) (fun k=>k≤xs.length∧∀x∈xs.take k,x.size≤50) (fun k=>[(3,.int .i64 (k:Int))]) [(2,_),(0,_)] (fun k=>[D]) 0 ⟨by omega,by simp⟩ ⟨Ya,cW⟩ C.rs (aD) ?_;rintro k ⟨h1,h2⟩;refine C.s2<|Za rfl<|Za rfl<|aO rfl U22 rfl hS rfl rfl trivial<|Zac rfl<|L.n1<|aE rfl (fun hc2=>?_) (fun hc2=>?_)
  ·have hk:k<xs.length:=by omega
   obtain⟨x,hx⟩:=C.ge xs k;refine C.kn<|aK<|Zai<|C.s1<|Za rfl<|Za rfl<|Zp rfl U22 Tf.s9 rfl hS rfl hx (fun b1 o1 cs1 hr1 hcl1 hA1=>?_);obtain rfl:cs1=[.string _]:=hr1;refine Zc 0 rfl Tf.a9 rfl hA1 rfl<|gP rfl U9 rfl rfl rfl trivial<|dZ rfl rfl rfl rfl trivial<|L.n1<|aE rfl (fun hc3=>?_) (fun hc3=>?_)
   ·refine C.s1<|Zi rfl<|L.n5<|Zal<|Zah<|Zah<|Zal<|Zah ?_;exact leave1 rfl rfl rfl rfl (fun D hD=>by show Value.int _ _=_;rw[AZ hx Yd])
   ·refine bB<|Zak<|Zag<|C.rg<|Za rfl<|Zw rfl<|Zi rfl<|Zaa ?_;exact aG 14 (k+1) ⟨by omega,KW hx h2 Yd⟩ Yd ⟨Ya,cW⟩ rfl rfl (LT _) (aD)
  ·obtain rfl:k=xs.length:=by omega
   rw[aNL]at h2;refine aP<|Zaj<|Zaj<|Zam<|Zag<|C.s1<|Zi rfl<|L.n5 ?_;exact leave1 rfl rfl rfl rfl (fun D hD=>by show Value.int _ _=_;rw[f8 h40 h2])
theorem OA(sv:Value)(xs:List ByteArray)(D:aA)(hS:Sl D RS 1 sv xs):Fn Tryz.prog 13 #[sv] D (fun _ v=>v=.bool (d5 xs)):=by
 have hl:=hS.len;refine enter 23 Tryz.func13 rfl rfl rfl rfl fun h0=>C.s1<|Zi rfl<|L.n4<|Zi rfl<|L.n1<|Zai<|bT (γ:=Nat) (fun k=>xs.length+1-k) (fun k=>k≤xs.length∧∀x∈xs.take k,x.size≤70) (fun k=>[(3,.int .i64 (k:Int))]) [(2,_),(0,_)] (fun k=>[D]) 0 ⟨by omega,by simp⟩ ⟨Ya,cW⟩ C.rs (aD) ?_
 rintro k ⟨h1,h2⟩;refine C.s2<|Za rfl<|Za rfl<|aO rfl U22 rfl hS rfl rfl trivial<|Zac rfl<|Za rfl ?_;refine' L.anK 3 (s:=8) (p:=11) rfl (fun hg1=>?_) (fun hg1=>?_) ?_;rotate_left
 ·refine Zb rfl<|MN rfl rfl rfl rfl ⟨_,rfl,rfl⟩<|Zy rfl ?_;exact L.cu 2
 ·refine Zh rfl<|Zh rfl<|Zz rfl ?_;exact L.cu 2
 refine L.n1<|aI rfl (fun hc1=>?_) (fun hc1=>?_)
 ·have hk:k<xs.length:=by simp at hc1;omega
  obtain⟨x,hx⟩:=C.ge xs k;refine C.kn<|aK<|Zai<|C.s1<|Za rfl<|Za rfl<|Zp rfl U22 Tf.s9 rfl hS rfl hx (fun b1 o1 cs1 hr1 hcl1 hA1=>?_);obtain rfl:cs1=[.string _]:=hr1;refine Zc 0 rfl Tf.a9 rfl hA1 rfl<|gP rfl U9 rfl rfl rfl trivial<|dZ rfl rfl rfl rfl trivial<|L.n1<|aE rfl (fun hc2=>?_) (fun hc2=>?_)
  ·refine C.s1<|Zi rfl<|L.n5<|Zal<|Zah<|Zah<|Zal<|Zah ?_;exact leave1 rfl rfl rfl rfl (fun D hD=>by show Value.bool _=_;rw[HO hx Yd])
  ·refine bB<|Zak<|Zag<|C.rg<|Za rfl<|Zw rfl<|Zi rfl<|Zaa ?_;exact aG 16 (k+1) ⟨by omega,KW hx h2 Yd⟩ Yd ⟨Ya,cW⟩ rfl rfl (LT _) (aD)
 ·have hk46:xs.length≤k∨46≤k:=by simp at hc1;omega
  refine aP<|Zaj<|Zaj<|Zam<|Zag<|C.s1<|Za rfl<|aO rfl U22 rfl hS rfl rfl trivial<|iW rfl rfl rfl rfl trivial<|Zi rfl<|L.n5 ?_;exact leave1 rfl rfl rfl rfl (fun D hD=>by show Value.bool (decide _)=_;rw[PG hk46 h2])
theorem JI(sv:Value)(xs:List ByteArray)(D:aA)(hS:Sl D RS 1 sv xs)(hn:xs.length≤1000)(hsz:∀x∈xs,x.size≤1000):Fn Tryz.prog 29 #[sv] D (fun _ v=>v=.bool (HV xs)):=by
 have hl:=hS.len;refine enter 72 Tryz.func29 rfl rfl rfl rfl fun h0=>C.s1<|Zi rfl<|L.n3<|Zi rfl<|Zi rfl<|L.n4<|Zi rfl<|L.n1<|Zai<|bT (γ:=Nat×Nat×Nat) (fun g=>xs.length-g.1) (fun g=>g.1≤xs.length∧g.2.1=((xs.take g.1).map aFF).sum∧g.2.2=((xs.take g.1).map aIQ).sum∧g.2.1≤g.1∧g.2.2≤1002*g.1) (fun g=>[(5,.int .i64 (g.1:Int)),(3,.int .i64 (g.2.1:Int)),(4,.int .i64 (g.2.2:Int))]) [(2,_),(0,_)] (fun g=>[D]) (0,0,0) ⟨by simp,by simp,by simp,by simp,by simp⟩ ⟨Ya,Ya,Ya,cW⟩ C.rs (aD) ?_
 rintro⟨k,sm,un⟩ ⟨h1,h2,h3,h21,h31⟩;simp only at h1 h2 h3 h21 h31;refine C.s2<|Za rfl<|Za rfl<|aO rfl U22 rfl hS rfl rfl trivial<|Zac rfl<|L.n1<|aE rfl (fun hc1=>?_) (fun hc1=>?_)
 ·simp only at hc1;have hk:k<xs.length:=by omega
  obtain⟨x,hx⟩:=C.ge xs k;have hxs:=hsz x (aLW hx);refine C.kn<|aK<|Zai<|C.s1<|Za rfl<|Za rfl<|Zp rfl U22 Tf.s9 rfl hS rfl hx (fun b1 o1 cs1 hr1 hcl1 hA1=>?_);obtain rfl:cs1=[.string _]:=hr1;refine Zc 0 rfl Tf.a9 rfl hA1 rfl<|bZ rfl rfl rfl (fun D1 hD1=>ER x hxs _) rfl cW (fun v1 D1 hD1 hp1=>?_);obtain⟨nv,nb,rfl,hns0⟩:=hp1;refine Za rfl<|Zab rfl<|Zab rfl<|Zi rfl<|Zi rfl<|L.n4<|Za rfl<|Zae rfl<|L.n1<|aI rfl (fun hc2=>?_) (fun hc2=>?_)
  ·have hns:=SZ Yao hns0;refine aP<|Zaj<|Zam<|Zag<|C.rg<|Za rfl<|Zw rfl<|Zi rfl<|Zaa ?_;exact aG 22 (k+1,sm,un) ⟨by simp only;omega,by simp only;rw[rF hx,XF hns];omega,by simp only;rw[rF hx,YZ hns];omega,by simp only;omega,by simp only;omega⟩ Yl ⟨Ya,Ya,Ya,cW⟩ rfl rfl (LT _) (fun D h=>⟨D,aRH _ (h),Le.refl D⟩)
  ·have hnbt:nb=true:=by simpa using hc2
   obtain⟨ns,hns,hnv⟩:=QS hnbt hns0;have hkl:ns.length≤1001:=UQ hns hxs;obtain⟨p0,ps,hcut⟩:=rW x;have hp0:(dC x)[0]?= some p0:=by rw[hcut];rfl
   refine C.kn<|C.s1<|Za rfl<|Za rfl<|Zp rfl U22 Tf.s9 rfl hS rfl hx (fun b2 o2 cs2 hr2 hcl2 hA2=>?_);obtain rfl:cs2=[.string _]:=hr2;refine Zc 0 rfl Tf.a9 rfl hA2 rfl<|bZ rfl rfl rfl (fun D2 hD2=>Z6 x hxs _) rfl cW (fun v2 D2 hD2 hp2=>Zp rfl U22 Tf.s9 rfl hp2 rfl hp0 (fun b3 o3 cs3 hr3 hcl3 hA3=>?_));obtain rfl:cs3=[.string _]:=hr3;refine Zc 0 rfl Tf.a9 rfl hA3 rfl<|Zi rfl<|L.n4<|Za rfl<|cJ rfl rfl rfl rfl trivial<|L.n1<|aI rfl (fun hc3=>?_) (fun hc3=>?_)
   ·refine C.rg<|Za rfl<|Zw rfl<|Zi rfl<|L.n3<|Zi rfl<|L.n1<|Zai<|bT (γ:=Nat×Nat) (fun g=>1001+1-g.1) (fun g=>1≤g.1∧g.1≤1002∧g.1≤max 1 ns.length∧g.2=un+vR (decide (p0=⟨#[98,114,111,107,101,110]⟩)) ns g.1∧(g.1=1∨(decide (p0=⟨#[98,114,111,107,101,110]⟩)||decide (p0=⟨#[112,97,114,116]⟩))=true)) (fun g=>[(9,.int .i64 (g.1:Int)),(4,.int .i64 (g.2:Int))]) [(3,_),(36,_),(35,_),(34,_),(33,_),(8,_),(32,_),(31,_),(30,_),(29,_),(28,_),(27,_),(26,_),(25,_),(24,_),(7,_),(6,_),(23,_),(22,_),(16,_),(21,_),(20,_),(19,_),(18,_),(17,_),(13,_),(12,_),(11,_),(10,_),(5,_),(2,_),(0,_)] (fun g=>[D2,D1,D]) (1,un) ⟨by simp,by simp,by simp only;omega,by simp only;rw[AV];rfl,aMR rfl⟩ ⟨Ya,Ya,cW⟩ C.rs (aD) ?_;rintro⟨j,u2⟩ ⟨h4,h5,h6,h7,h8⟩;simp only at h4 h5 h6 h7 h8;have hcj:=LZ (decide (p0=⟨#[98,114,111,107,101,110]⟩)) ns j;refine C.s2<|Za rfl<|Za rfl<|aO rfl U25 rfl hnv rfl rfl trivial<|Zac rfl<|Za rfl ?_;refine' L.anK 7 (s:=41) (p:=48) rfl (fun hg1=>?_) (fun hg1=>?_) ?_;rotate_left
    ·refine Zb rfl<|cJ rfl rfl rfl rfl ⟨_,rfl,rfl⟩<|Zb rfl ?_;refine' L.orK 3 (s:=44) (p:=47) rfl (fun hg2=>?_) (fun hg2=>?_) ?_;rotate_left
     ·refine Zb rfl<|cJ rfl rfl rfl rfl ⟨_,rfl,rfl⟩<|nI rfl rfl rfl rfl ⟨_,rfl,rfl⟩ ?_;exact L.cu 2
     ·refine Zh rfl<|Zh rfl<|nJ rfl rfl rfl rfl ⟨_,rfl,rfl⟩ ?_;exact L.cu 2
     refine Zy rfl ?_;exact L.cu 4
    ·refine Zh rfl<|Zh rfl<|Zh rfl<|Zh rfl<|Zh rfl<|Zh rfl<|Zz rfl ?_;exact L.cu 6
    refine L.n1<|aI rfl (fun hc4=>?_) (fun hc4=>?_)
    ·have hjl:j<ns.length:=by have hz:=(aMC _ _).mp hc4;have:=aNK hz.1;omega
     have hbp:=((aMC _ _).mp hc4).2;obtain⟨m,hm⟩:=C.ge ns j;refine C.kn<|aK<|Zai<|C.s1<|Za rfl<|Za rfl<|Zp rfl U25 Tf.s3 rfl hnv rfl hm (fun b4 o4 cs4 hr4 hcl4 hA4=>?_);obtain rfl:cs4=[.int .i64 _]:=hr4;refine Zc 0 rfl Tf.a3 rfl hA4 rfl<|dU rfl rfl rfl rfl trivial<|Za rfl ?_;refine' L.anK 7 (s:=56) (p:=63) rfl (fun hg3=>?_) (fun hg3=>?_) ?_;rotate_left
     ·refine Zb rfl<|cJ rfl rfl rfl rfl ⟨_,rfl,rfl⟩<|Zb rfl ?_;refine' L.orK 3 (s:=59) (p:=62) rfl (fun hg4=>?_) (fun hg4=>?_) ?_;rotate_left
      ·refine Zb rfl<|dU rfl rfl rfl rfl ⟨_,rfl,rfl⟩<|nI rfl rfl rfl rfl ⟨_,rfl,rfl⟩ ?_;exact L.cu 2
      ·refine Zh rfl<|Zh rfl<|nJ rfl rfl rfl rfl ⟨_,rfl,rfl⟩ ?_;exact L.cu 2
      refine Zy rfl ?_;exact L.cu 4
     ·refine Zh rfl<|Zh rfl<|Zh rfl<|Zh rfl<|Zh rfl<|Zh rfl<|Zz rfl ?_;exact L.cu 6
     refine L.n1<|aI rfl (fun hc5=>?_) (fun hc5=>?_)
     ·refine C.rg<|Za rfl<|Zw rfl<|Zi rfl<|Zaa<|Zak<|Zag<|C.rg<|Za rfl<|Zw rfl<|Zi rfl<|Zaa ?_;exact aG 21 (j+1,u2+1) ⟨by simp only;omega,by simp only;omega,by simp only;omega,by simp only;rw[BD hm h4 hc5];omega,Or.inr hbp⟩ Yl ⟨Ya,Ya,cW⟩ rfl rfl (LT _) (aD)
     ·refine bB<|Zak<|Zag<|C.rg<|Za rfl<|Zw rfl<|Zi rfl<|Zaa ?_;exact aG 18 (j+1,u2) ⟨by simp only;omega,by simp only;omega,by simp only;omega,by simp only;rw[LP hm hc5];omega,Or.inr hbp⟩ Yl ⟨Ya,Ya,cW⟩ rfl rfl (LT _) (aD)
    ·refine aP<|Zaj<|Zaj<|Zam<|Zak<|Zag<|C.rg<|Za rfl<|Zw rfl<|Zi rfl<|Zaa ?_;exact aG 41 (k+1,sm+1,u2) ⟨by simp only;omega,by simp only;rw[rF hx,aDE hcut hns hc3];omega,by simp only;rw[rF hx,TW (j:=j) hcut hns hc4 h6 h8];omega,by simp only;omega,by simp only;omega⟩ Yl ⟨Ya,Ya,Ya,cW⟩ rfl rfl (LT _) (fun D h=>⟨D,aRH _ (aRH _ (h)),Le.refl D⟩)
   ·refine C.kn<|C.s1<|Zi rfl<|L.n1<|Zai<|bT (γ:=Nat×Nat) (fun g=>1001+1-g.1) (fun g=>1≤g.1∧g.1≤1002∧g.1≤max 1 ns.length∧g.2=un+vR (decide (p0=⟨#[98,114,111,107,101,110]⟩)) ns g.1∧(g.1=1∨(decide (p0=⟨#[98,114,111,107,101,110]⟩)||decide (p0=⟨#[112,97,114,116]⟩))=true)) (fun g=>[(9,.int .i64 (g.1:Int)),(4,.int .i64 (g.2:Int))]) [(34,_),(33,_),(8,_),(32,_),(31,_),(30,_),(29,_),(28,_),(27,_),(26,_),(25,_),(24,_),(7,_),(6,_),(23,_),(22,_),(16,_),(21,_),(20,_),(19,_),(18,_),(17,_),(13,_),(12,_),(11,_),(10,_),(5,_),(3,_),(2,_),(0,_)] (fun g=>[D2,D1,D]) (1,un) ⟨by simp,by simp,by simp only;omega,by simp only;rw[AV];rfl,aMR rfl⟩ ⟨Ya,Ya,cW⟩ C.rs (aD) ?_;rintro⟨j,u2⟩ ⟨h4,h5,h6,h7,h8⟩;simp only at h4 h5 h6 h7 h8;have hcj:=LZ (decide (p0=⟨#[98,114,111,107,101,110]⟩)) ns j;refine C.s2<|Za rfl<|Za rfl<|aO rfl U25 rfl hnv rfl rfl trivial<|Zac rfl<|Za rfl ?_;refine' L.anK 7 (s:=41) (p:=48) rfl (fun hg5=>?_) (fun hg5=>?_) ?_;rotate_left
    ·refine Zb rfl<|cJ rfl rfl rfl rfl ⟨_,rfl,rfl⟩<|Zb rfl ?_;refine' L.orK 3 (s:=44) (p:=47) rfl (fun hg6=>?_) (fun hg6=>?_) ?_;rotate_left
     ·refine Zb rfl<|cJ rfl rfl rfl rfl ⟨_,rfl,rfl⟩<|nI rfl rfl rfl rfl ⟨_,rfl,rfl⟩ ?_;exact L.cu 2
     ·refine Zh rfl<|Zh rfl<|nJ rfl rfl rfl rfl ⟨_,rfl,rfl⟩ ?_;exact L.cu 2
     refine Zy rfl ?_;exact L.cu 4
    ·refine Zh rfl<|Zh rfl<|Zh rfl<|Zh rfl<|Zh rfl<|Zh rfl<|Zz rfl ?_;exact L.cu 6
    refine L.n1<|aI rfl (fun hc6=>?_) (fun hc6=>?_)
    ·have hjl:j<ns.length:=by have hz:=(aMC _ _).mp hc6;have:=aNK hz.1;omega
     have hbp:=((aMC _ _).mp hc6).2;obtain⟨m,hm⟩:=C.ge ns j;refine C.kn<|aK<|Zai<|C.s1<|Za rfl<|Za rfl<|Zp rfl U25 Tf.s3 rfl hnv rfl hm (fun b5 o5 cs5 hr5 hcl5 hA5=>?_);obtain rfl:cs5=[.int .i64 _]:=hr5;refine Zc 0 rfl Tf.a3 rfl hA5 rfl<|dU rfl rfl rfl rfl trivial<|Za rfl ?_;refine' L.anK 7 (s:=56) (p:=63) rfl (fun hg7=>?_) (fun hg7=>?_) ?_;rotate_left
     ·refine Zb rfl<|cJ rfl rfl rfl rfl ⟨_,rfl,rfl⟩<|Zb rfl ?_;refine' L.orK 3 (s:=59) (p:=62) rfl (fun hg8=>?_) (fun hg8=>?_) ?_;rotate_left
      ·refine Zb rfl<|dU rfl rfl rfl rfl ⟨_,rfl,rfl⟩<|nI rfl rfl rfl rfl ⟨_,rfl,rfl⟩ ?_;exact L.cu 2
      ·refine Zh rfl<|Zh rfl<|nJ rfl rfl rfl rfl ⟨_,rfl,rfl⟩ ?_;exact L.cu 2
      refine Zy rfl ?_;exact L.cu 4
     ·refine Zh rfl<|Zh rfl<|Zh rfl<|Zh rfl<|Zh rfl<|Zh rfl<|Zz rfl ?_;exact L.cu 6
     refine L.n1<|aI rfl (fun hc7=>?_) (fun hc7=>?_)
     ·refine C.rg<|Za rfl<|Zw rfl<|Zi rfl<|Zaa<|Zak<|Zag<|C.rg<|Za rfl<|Zw rfl<|Zi rfl<|Zaa ?_;exact aG 21 (j+1,u2+1) ⟨by simp only;omega,by simp only;omega,by simp only;omega,by simp only;rw[BD hm h4 hc7];omega,Or.inr hbp⟩ Yl ⟨Ya,Ya,cW⟩ rfl rfl (LT _) (aD)
     ·refine bB<|Zak<|Zag<|C.rg<|Za rfl<|Zw rfl<|Zi rfl<|Zaa ?_;exact aG 18 (j+1,u2) ⟨by simp only;omega,by simp only;omega,by simp only;omega,by simp only;rw[LP hm hc7];omega,Or.inr hbp⟩ Yl ⟨Ya,Ya,cW⟩ rfl rfl (LT _) (aD)
    ·refine aP<|Zaj<|Zaj<|Zam<|Zak<|Zag<|C.rg<|Za rfl<|Zw rfl<|Zi rfl<|Zaa ?_;exact aG 39 (k+1,sm,u2) ⟨by simp only;omega,by simp only;rw[rF hx,aHM hcut hns hc3];omega,by simp only;rw[rF hx,TW (j:=j) hcut hns hc6 h6 h8];omega,by simp only;omega,by simp only;omega⟩ Yl ⟨Ya,Ya,Ya,cW⟩ rfl rfl (LT _) (fun D h=>⟨D,aRH _ (aRH _ (h)),Le.refl D⟩)
 ·obtain rfl:k=xs.length:=by simp only at hc1;omega
  rw[aNL]at h2 h3;refine aP<|Zaj<|Zaj<|Zam<|Zag<|C.s1<|Za rfl<|iW rfl rfl rfl rfl trivial<|Za rfl ?_;refine' L.anK 3 (s:=68) (p:=71) rfl (fun hg9=>?_) (fun hg9=>?_) ?_;rotate_left
  ·refine Zb rfl<|iW rfl rfl rfl rfl ⟨_,rfl,rfl⟩<|Zy rfl ?_;exact L.cu 2
  ·refine Zh rfl<|Zh rfl<|Zz rfl ?_;exact L.cu 2
  refine Zi rfl<|L.n5 ?_;exact leave1 rfl rfl rfl rfl (fun D hD=>by show Value.bool _=_;rw[QM h2 h3])
theorem ID(sv:Value)(xs:List ByteArray)(D:aA)(hS:Sl D RS 1 sv xs):Fn Tryz.prog 7 #[sv] D (fun _ v=>v=.bool (t7 xs)):=by
 refine enter 14 Tryz.func7 rfl rfl rfl rfl fun h0=>C.s1<|Zi rfl<|L.n3<|Za rfl<|Ze rfl (fun D1 hD1=>OA _ xs _ (hS.up RS.up (hD1 _ Ye)))<|Za rfl ?_
 refine' L.anK 4 (s:=5) (p:=9) rfl (fun hg1=>?_) (fun hg1=>?_) ?_;rotate_left
 ·refine Zb rfl<|Zf rfl (fun D2 hD2=>IU _ xs _ (hS.up RS.up (hD2 _ Ye)))<|dU rfl rfl rfl rfl ⟨_,rfl,rfl⟩<|Zy rfl ?_;exact L.cu 3
 ·refine Zh rfl<|Zh rfl<|Zh rfl<|Zz rfl ?_;exact L.cu 3
 refine Za rfl ?_;refine' L.anK 3 (s:=10) (p:=13) rfl (fun hg2=>?_) (fun hg2=>?_) ?_;rotate_left
 ·have hfz:dI xs=0:=by have:=hg2;simp at this;exact this.2
  refine Zb rfl<|Zf rfl (fun D3 hD3=>JI _ xs _ (hS.up RS.up (hD3 _ Ye)) (by have:=zN hfz;omega) (fun x hx=>by have:=xN hfz x hx;omega))<|Zy rfl ?_;exact L.cu 2
 ·refine Zh rfl<|Zh rfl<|Zz rfl ?_;exact L.cu 2
 refine Zi rfl<|L.n5 ?_;exact leave1 rfl rfl rfl rfl (fun D hD=>rfl)
end L12
end Go.Fs
namespace Go.Fs
open Go.Proofs
namespace L12
open C12 Go.Lib
instance(x:Int):Decidable (NB x):=inferInstanceAs (Decidable (_∧_))
def B0:List ByteArray:=[(⟨#[112,108,97,99,101]⟩:ByteArray),⟨#[115,101,101,110,32,50,32,49]⟩,⟨#[99,111,117,110,116,32,51,32,50]⟩,⟨#[98,97,99,107,32,51,32,51]⟩,⟨#[116,105,100,101,32,50,32,56,32,57]⟩,⟨#[115,116,101,112,32,52]⟩,⟨#[108,101,118,101,108,32,54]⟩,⟨#[109,97,114,107,32,49,32,51,32,57,32,57]⟩,⟨#[104,105,114,101,32,48,32,49]⟩,⟨#[104,105,114,101,32,49,32,50]⟩,⟨#[98,114,105,110,103,32,48,32,49]⟩,⟨#[115,109,117,100,103,101,32,49]⟩,⟨#[98,114,111,107,101,110,32,52,32,49,32,48,32,48]⟩,⟨#[98,114,111,107,101,110,32,53,32,48,32,49,32,50]⟩,⟨#[99,108,97,105,109,32,48,32,50]⟩]
def CC:List ByteArray:=[(⟨#[115,116,101,112,32,48]⟩:ByteArray),⟨#[115,109,117,100,103,101,32,49]⟩,⟨#[108,101,118,101,108,32,48,53]⟩]
def aB:List ByteArray:=[(⟨#[97]⟩:ByteArray)]
theorem x7{D:aA}{b:Nat}{l:List ByteArray}(hA:At D b 0 (l.map Value.string))(hl:l.length≤1000):Sl D RS 1 (.slice (some ⟨b,0,none⟩) l.length l.length) l:=by
 refine⟨_,_,rfl,aMS _,by omega,aMD ⟨b,0,rfl,fun i x hi=>⟨_,rfl,rfl,fun j v hj=>?_⟩⟩⟩;cases j with
 |zero=>
  obtain rfl:Value.string x=v:=by simpa using hj
  have h:=hA i (.string x) (by rw[aNB,hi];rfl);simpa using h
 |succ j=>simp at hj
theorem aCO:XU (aM B0).1:=⟨by decide+kernel,by decide+kernel,by decide+kernel,by decide+kernel,by decide+kernel,by decide+kernel,by decide+kernel,by decide+kernel,by decide+kernel,by decide+kernel,by decide+kernel⟩
theorem aJP:K2 Tryz.prog 65:=⟨by kernel_rfl,by kernel_rfl,by kernel_rfl⟩
theorem aKE:K2 Tryz.prog 88:=⟨by kernel_rfl,by kernel_rfl,by kernel_rfl⟩
theorem y8(D:aA):Fn Tryz.prog 20 #[.slice none 0 0] D (fun D' v=>Sl D' RS 1 v B0):=by
 refine enter 6 Tryz.func20 rfl rfl rfl rfl fun h0=>C.s1<|Zi rfl<|L.n3<|Zn rfl U22 Tf.s9 Tf.z9 rfl rfl rfl rfl (.cons rfl rfl (.cons rfl rfl (.cons rfl rfl (.cons rfl rfl (.cons rfl rfl (.cons rfl rfl (.cons rfl rfl (.cons rfl rfl (.cons rfl rfl (.cons rfl rfl (.cons rfl rfl (.cons rfl rfl (.cons rfl rfl (.cons rfl rfl (.cons rfl rfl .nil))))))))))))))) (fun b901 D901 hD901 hA901=>Za rfl<|HB rfl U22 rfl rfl Tf.s9 rfl rfl (aMS _) rfl trivial<|Zi rfl<|L.n5 ?_)
 exact leave1 rfl rfl rfl rfl (fun D hD=>(x7 (l:=B0) hA901 Yu).up RS.up (hD _ Ye))
theorem aDF(mv:Value)(ms:List ByteArray)(D:aA)(hS:Sl D RS 1 mv ms)(hm0:0<ms.length)(hm:ms.length≤1000):Fn Tryz.prog 20 #[mv] D (fun D' v=>Sl D' RS 1 v (B0++ms)):=by
 refine enter 6 Tryz.func20 rfl rfl rfl rfl fun h0=>C.s1<|Zi rfl<|L.n3<|Zn rfl U22 Tf.s9 Tf.z9 rfl rfl rfl rfl (.cons rfl rfl (.cons rfl rfl (.cons rfl rfl (.cons rfl rfl (.cons rfl rfl (.cons rfl rfl (.cons rfl rfl (.cons rfl rfl (.cons rfl rfl (.cons rfl rfl (.cons rfl rfl (.cons rfl rfl (.cons rfl rfl (.cons rfl rfl (.cons rfl rfl .nil))))))))))))))) (fun b901 D901 hD901 hA901=>Za rfl<|OM (cells:=[.string ⟨#[112,108,97,99,101]⟩,.string ⟨#[115,101,101,110,32,50,32,49]⟩,.string ⟨#[99,111,117,110,116,32,51,32,50]⟩,.string ⟨#[98,97,99,107,32,51,32,51]⟩,.string ⟨#[116,105,100,101,32,50,32,56,32,57]⟩,.string ⟨#[115,116,101,112,32,52]⟩,.string ⟨#[108,101,118,101,108,32,54]⟩,.string ⟨#[109,97,114,107,32,49,32,51,32,57,32,57]⟩,.string ⟨#[104,105,114,101,32,48,32,49]⟩,.string ⟨#[104,105,114,101,32,49,32,50]⟩,.string ⟨#[98,114,105,110,103,32,48,32,49]⟩,.string ⟨#[115,109,117,100,103,101,32,49]⟩,.string ⟨#[98,114,111,107,101,110,32,52,32,49,32,48,32,48]⟩,.string ⟨#[98,114,111,107,101,110,32,53,32,48,32,49,32,50]⟩,.string ⟨#[99,108,97,105,109,32,48,32,50]⟩]) rfl U22 rfl rfl Tf.s9 Tf.z9 rfl Tf.i9 rfl rfl hA901 Ye rfl (jM.strs hS) Ye Yal hm0 Yd rfl cW (fun v1 ν1 ha1=>Zi rfl<|L.n5 ?_))
 have ha2:bM 9 1 v1 (15+ms.length) ((B0++ms).map Value.string) (ν1++[]):=by rw[aMP,aME];exact ha1
 refine eN (A:=[]) (ν:=ν1) (B:=[]) (by simpa using ha2) rfl (fun D2 hD2 hF=>?_);exact leave1 rfl rfl rfl rfl (fun D' hD=>(hF.strs (by rw[aLY];rfl) Yd).up RS.up (hD _ Ye))
theorem DE(D:aA)(hV:kG D):Fn Tryz.prog 8 #[] D (fun _ v=>v=.bool true):=by
 refine enter 87 Tryz.func8 rfl rfl rfl rfl fun h0=>C.s1<|Zi rfl<|L.n3<|bZ rfl rfl rfl (fun D1 hD1=>y8 _) rfl cW (fun v1 D1 hD1 hp1=>?_)
 have hd1:=hp1;refine Ze rfl (fun D2 hD2=>yZ _ B0 _ (hd1.up RS.up (hD2 _ Ye)) (hV.up (hD2 _ Ye)))<|Za rfl<|Zab rfl<|Zab rfl<|Zv rfl Tf.z65 rfl (fun q1=>bK rfl rfl rfl rfl Tf.s65 Yb Yb (bS.head) Yi trivial<|Zi rfl<|L.n3<|bZ rfl rfl rfl (fun D3 hD3=>y8 _) rfl cW (fun v3 D3 hD3 hp3=>?_));have hd2:=hp3;refine Ze rfl (fun D4 hD4=>B7 _ B0 _ (hd2.up RS.up (hD4 _ Ye)) (hV.up (hD4 _ Ye)))<|Za rfl<|Zab rfl<|Zab rfl<|Zv rfl Tf.z88 rfl (fun q2=>bK rfl rfl rfl rfl Tf.s88 Yb Yb (bS.head) Yi trivial<|Zi rfl<|L.n3<|bZ rfl rfl rfl (fun D5 hD5=>y8 _) rfl cW (fun v5 D5 hD5 hp5=>?_));have hd3:=hp5;refine Ze rfl (fun D6 hD6=>RR _ B0 _ (hd3.up RS.up (hD6 _ Ye)) (hV.up (hD6 _ Ye)) (fun _=>aCO))<|Za rfl<|Zab rfl<|Zab rfl<|Zi rfl<|Zi rfl<|L.n3<|Zn rfl U22 Tf.s9 Tf.z9 rfl rfl rfl rfl (.cons rfl rfl .nil) (fun b901 D901 hD901 hA901=>bZ rfl rfl rfl (fun D7 hD7=>US _ aB _ ((x7 (l:=aB) hA901 Yu).up RS.up (hD7 _ Ye))) rfl cW (fun v7 D7 hD7 hp7=>?_));obtain⟨wv,rfl,hwr⟩:=hp7;refine Za rfl<|Zab rfl<|Zab rfl<|Zi rfl<|Zi rfl<|L.n3<|Zn rfl U22 Tf.s9 Tf.z9 rfl rfl rfl rfl (.cons rfl rfl (.cons rfl rfl (.cons rfl rfl .nil))) (fun b902 D902 hD902 hA902=>bZ rfl rfl rfl (fun D8 hD8=>aDF _ CC _ ((x7 (l:=CC) hA902 Yu).up RS.up (hD8 _ Ye)) Yu Yu) rfl cW (fun v8 D8 hD8 hp8=>?_));have hd5:=hp8;refine bZ rfl rfl rfl (fun D9 hD9=>xQ _ (B0++CC) _ (hd5.up RS.up (hD9 _ Ye)) (hV.up (hD9 _ Ye))) rfl cW (fun v9 D9 hD9 hp9=>?_);obtain⟨w1,w2,rfl,⟨pv,cv,hv,lv,mv,bl,bc,yc,yq,rfl,hL⟩,hes⟩:=hp9;unfold bX;obtain⟨ea,ec,rfl⟩:=hes.shape;have p3len:(aM (B0++CC)).2.1.length=18:=by decide+kernel
 refine Za rfl<|Zab rfl<|Zab rfl<|Zab rfl<|Zv rfl Tf.z42 rfl (fun q3=>bK rfl rfl rfl rfl Tf.s42 Yb Yb (bS.head) (gR hL) trivial<|Zi rfl<|Zi rfl<|L.n3<|Za rfl<|dU rfl rfl rfl rfl trivial<|Za rfl ?_);refine' L.anK 4 (s:=41) (p:=45) rfl (fun hg1=>?_) (fun hg1=>?_) ?_;rotate_left
 ·refine bA rfl Tf.a65 rfl (aRH _ (aRH _ (GE _))) Tf.s65 GT rfl ⟨_,rfl,rfl⟩<|iH (cs:=[.int .i64 25,.int .i64 25]) rfl Tf.p65 Tf.z65 rfl rfl rfl ⟨_,rfl,rfl⟩<|WU (a:=(N7 B0).1) (b:=(25,25)) rfl Yg aJP rfl rfl rfl ⟨_,rfl,rfl⟩<|Zy rfl ?_;exact L.cu 3
 ·refine Zh rfl<|Zh rfl<|Zh rfl<|Zz rfl ?_;exact L.cu 3
 refine Za rfl ?_;refine' L.anK 3 (s:=46) (p:=49) rfl (fun hg2=>?_) (fun hg2=>?_) ?_;rotate_left
 ·refine Zb rfl<|dU rfl rfl rfl rfl ⟨_,rfl,rfl⟩<|Zy rfl ?_;exact L.cu 2
 ·refine Zh rfl<|Zh rfl<|Zz rfl ?_;exact L.cu 2
 refine Za rfl ?_;refine' L.anK 4 (s:=50) (p:=54) rfl (fun hg3=>?_) (fun hg3=>?_) ?_;rotate_left
 ·refine bA rfl Tf.a88 rfl (aRH _ (GE _)) Tf.s88 GT rfl ⟨_,rfl,rfl⟩<|iH (cs:=[.int .i64 4,.int .i64 4]) rfl Tf.p88 Tf.z88 rfl rfl rfl ⟨_,rfl,rfl⟩<|WU (a:=(yM B0).1) (b:=(4,4)) rfl Yg aKE rfl rfl rfl ⟨_,rfl,rfl⟩<|Zy rfl ?_;exact L.cu 3
 ·refine Zh rfl<|Zh rfl<|Zh rfl<|Zz rfl ?_;exact L.cu 3
 refine Za rfl ?_;refine' L.anK 3 (s:=55) (p:=58) rfl (fun hg4=>?_) (fun hg4=>?_) ?_;rotate_left
 ·refine Zb rfl<|dU rfl rfl rfl rfl ⟨_,rfl,rfl⟩<|Zy rfl ?_;exact L.cu 2
 ·refine Zh rfl<|Zh rfl<|Zz rfl ?_;exact L.cu 2
 refine Za rfl ?_;refine' L.anK 3 (s:=59) (p:=62) rfl (fun hg5=>?_) (fun hg5=>?_) ?_;rotate_left
 ·refine Zb rfl<|cJ rfl rfl rfl rfl ⟨_,rfl,rfl⟩<|Zy rfl ?_;exact L.cu 2
 ·refine Zh rfl<|Zh rfl<|Zz rfl ?_;exact L.cu 2
 refine Za rfl ?_;refine' L.anK 3 (s:=63) (p:=66) rfl (fun hg6=>?_) (fun hg6=>?_) ?_;rotate_left
 ·refine Zb rfl<|dU rfl rfl rfl rfl ⟨_,rfl,rfl⟩<|Zy rfl ?_;exact L.cu 2
 ·refine Zh rfl<|Zh rfl<|Zz rfl ?_;exact L.cu 2
 refine Za rfl ?_;refine' L.anK 4 (s:=67) (p:=71) rfl (fun hg7=>?_) (fun hg7=>?_) ?_;rotate_left
 ·refine Zb rfl<|sH rfl U51 U5 U9 rfl hwr Ye (fun _ _ _ _ _=>GT) rfl ⟨_,rfl,rfl⟩<|cJ rfl rfl rfl rfl ⟨_,rfl,rfl⟩<|Zy rfl ?_;exact L.cu 3
 ·refine Zh rfl<|Zh rfl<|Zh rfl<|Zz rfl ?_;exact L.cu 3
 refine Za rfl ?_;refine' L.anK 3 (s:=72) (p:=75) rfl (fun hg8=>?_) (fun hg8=>?_) ?_;rotate_left
 ·refine Zb rfl<|dU rfl rfl rfl rfl ⟨_,rfl,rfl⟩<|Zy rfl ?_;exact L.cu 2
 ·refine Zh rfl<|Zh rfl<|Zz rfl ?_;exact L.cu 2
 refine Za rfl ?_;refine' L.anK 4 (s:=76) (p:=80) rfl (fun hg9=>?_) (fun hg9=>?_) ?_;rotate_left
 ·refine Zb rfl<|aO rfl U43 rfl hes rfl rfl ⟨_,rfl,rfl⟩<|dU rfl rfl rfl rfl ⟨_,rfl,rfl⟩<|Zy rfl ?_;exact L.cu 3
 ·refine Zh rfl<|Zh rfl<|Zh rfl<|Zz rfl ?_;exact L.cu 3
 refine Za rfl ?_;refine' L.anK 5 (s:=81) (p:=86) rfl (fun hg10=>?_) (fun hg10=>?_) ?_;rotate_left
 ·refine Zb rfl<|W4 (j:=15) rfl U43 Tf.s44 rfl hes rfl (by rw[p3len];omega) rfl ⟨_,rfl,rfl⟩ (fun ta hT=>xO rfl U25 Tf.s3 Tf.z3 rfl rfl rfl rfl (.cons rfl rfl (.cons rfl rfl (.cons rfl rfl .nil))) rfl ⟨_,rfl,rfl⟩ (fun b903 D903 hD903 hA903=>?_));have hS903:=Sl.ofInts (l:=[_,_,_]) (n:=3) (cap:=3) hA903 rfl Yd Yd;refine Zf rfl (fun D10 hD10=>IT _ _ ((aM (B0++CC)).2.1.drop 15) [9,6,4] _ (hT.up RI.up (hD10 _ Ye)) (hS903.up RI.up (hD10 _ Ye)))<|Zy rfl ?_;exact kT fun a w hh=>(hh.cutK 4 rfl).ds (fun _ h=>aRH _ (h))
 ·refine Zh rfl<|Zh rfl<|Zh rfl<|Zh rfl<|Zz rfl ?_;exact L.cu 4
 refine Zi rfl<|L.n5 ?_;exact leave1 rfl rfl rfl rfl (fun D hD=>aMQ Value.bool Yad)
end L12
end Go.Fs
namespace Go.Fs
open Go.Proofs
namespace L12
open C12 Go.Lib
theorem RE{s:aH}(h:dJ s=0)(line:ByteArray):dJ (mT s line).1=0:=by
 unfold mT;split
 ·exact h
 ·split
  ·exact h
  ·split
   ·rename_i h2;exact h2
   ·exact h
theorem AY:dJ nB=0:=by decide+kernel
theorem P3{I:aH→Prop}(hI:∀s l,I s→I (mT s l).1):∀(ls:List ByteArray) (p:aH×List Int),I p.1→I (ls.foldl (fun p l=>((mT p.1 l).1,p.2++[(mT p.1 l).2])) p).1
 | [],_,h=>h
 |l::ls,_p,h=>P3 hI ls _ (hI _ l h)
theorem Q4{I:aH→Prop}(hI:∀s l,I s→I (mT s l).1)(h0:I nB)(ls:List ByteArray):I (dD ls).1:=P3 hI ls _ h0
theorem tZ(ls:List ByteArray):dJ (dD ls).1=0:=Q4 (I:=fun s=>dJ s=0) (fun _ l h=>RE h l) AY ls
theorem EB{s:aH}(h:dJ s=0):C1.dE s.row true=0∧C2.aU s.table=0∧C2.kI s.table true=0∧C3.aU s.book=0∧C7.aU s.yard=0∧(L7.eL s.yard).2=0:=by
 unfold dJ at h;split at h
 ·cases h
 ·split at h
  ·cases h
  ·split at h
   ·cases h
   ·split at h
    ·cases h
    ·split at h
     ·cases h
     ·split at h
      ·cases h
      ·rename_i h1 h2 h3 h4 h5 h6;exact⟨aRC.1 h1,aRC.1 h2,aRC.1 h3,aRC.1 h4,aRC.1 h5,aRC.1 h6⟩
end L12
end Go.Fs
namespace Go.Fs
variable{P:Program}{X:Cx}{γb:Type}[Membership Nat γb]{bad:γb}{all:Array Oper}{K:Act→World→Prop}{Q:Exit→Act→World→Prop}
variable{σ:bI}{μ:aC}{Ds:List aA}{os:List (Bool×Nat)}{fl:Bool}{ix:Nat}
variable{d:Nat}{x y z:Operand}{u v:Value}{ty:TypeId}{pos:String}{aft:Array Edge}{g:Option (Nat×Bool)}
theorem mH{dd:Nat}{f:Field}{fs:List Field}{xs ys:Array Value}{a b:Value}{r r':Bool}{w:World}(hn:f.name≠ "_")
  (h1:(part f.type xs f.offset).run P w=.ok a w) (h2:(part f.type ys f.offset).run P w=.ok b w) (h3:(Op.equalIn dd f.type a b).run P w=.ok r w) (h4:(Op.eqFields dd xs ys fs).run P w=.ok r' w):
  (Op.eqFields dd xs ys (f::fs)).run P w=.ok (r&&r') w:=by
 rw[Op.eqFields,aMT hn];simp only[Sem.run_bind,h1,h2,Result.andThen_ok];rw[h3];simp only[Result.andThen_ok];cases r with
 |true=>simpa using h4
 |false=>simp
theorem x3{dd:Nat}{xs ys:Array Value}{w:World}:(Op.eqFields dd xs ys []).run P w=.ok true w:=rfl
inductive wK(P:Program):Nat→Nat→List Field→Prop
 |nil {o}:wK P o o []
 |cons {o e f fs} (hn:f.name≠ "_") (ho:f.offset=o) (ht:P.underlying f.type=some (.int .i64)) (r:wK P (o+1) e fs):wK P o e (f::fs)
theorem wK.le{o e:Nat}{fs:List Field}(h:wK P o e fs):o≤e:=by
 induction h with
 |nil=>exact aMS _
 |cons _ _ _ _ ih=>omega
theorem T3(dd:Nat)(l m:List Int)(w:World){o e:Nat}{fs:List Field}(h:wK P o e fs)(hl:l.length=e)(hm:m.length=e):(Op.eqFields (dd+1) (ints l).toArray (ints m).toArray fs).run P w=.ok (l.drop o==m.drop o) w:=by
 induction h with
 |nil=>
  rw[aNM Yd,aNM Yd];rfl
 | @cons o e f fs hn ho ht r ih=>
  have hle:=r.le;have h1:l[o]?= some (l[o]'Yd):=LE _;have h2:m[o]?= some (m[o]'Yd):=LE _;rw[mH hn (cO ht (by rw[ho];simpa using cA h1) w) (cO ht (by rw[ho];simpa using cA h2) w) (run_equalIn_int w dd f.type .i64 .i64 _ _ ht) (ih hl hm)]
  congr 1;rw[show l.drop o=l[o]::l.drop (o+1)from aNZ _,show m.drop o=m[o]::m.drop (o+1)from aNZ _];rfl
theorem hU.str{f:Field}{o n:Nat}(hn:f.name≠ "_")(ho:f.offset=o)(hu:P.underlying f.type=some (.struct (P.fieldsOf f.type)))(hst:P.stoodInHeld f.type=false)(ha:TA P f.type true)(hs:TS P f.type n)(hc:wK P 0 n (P.fieldsOf f.type).toList):hU P f o n:=by
 refine⟨hn,fun l m w hl hm=>⟨_,_,by rw[ho];exact nY ha hs hl w,by rw[ho];exact nY ha hs hm w,?_⟩⟩;have he:=run_equalIn_struct (P:=P) w 9998 f.type (ints ((l.drop o).take n)).toArray (ints ((m.drop o).take n)).toArray hu hst;show(Op.equalIn (9998+1) _ _ _).run P w=_;rw[he,T3 9997 _ _ w hc (by rw[aON,aOS];omega) (by rw[aON,aOS];omega)]
 simp
structure KC(P:Program)(t:TypeId)(f0 f1 f2:Field):Prop where
 und:P.underlying t=some (.struct (P.fieldsOf t))
 held:P.stoodInHeld t=false
 guard:P.eqGuardType P.depth t=false
 fs:(P.fieldsOf t).toList=[f0,f1,f2]
 n0:f0.name≠ "_"
 n1:f1.name≠ "_"
 n2:f2.name≠ "_"
 o0:f0.offset=0
 o1:f1.offset=1
 o2:f2.offset=2
 t0:P.underlying f0.type=some .bool
 t1:P.underlying f1.type=some (.int .i64)
 t2:P.underlying f2.type=some (.int .i64)
theorem T5{t:TypeId}{f0 f1 f2:Field}(h:KC P t f0 f1 f2)(a b:C1.sQ)(w:World):(Op.equal t (cV a) (cV b)).run P w=.ok (decide (a=b)) w:=by
 have he:=run_equalIn_struct (P:=P) w 9999 t #[.bool a.back,.int .i64 a.many,.int .i64 a.num] #[.bool b.back,.int .i64 b.many,.int .i64 b.num] h.und h.held;show(Op.equalIn (9999+1) t (cV a) (cV b)).run P w=_;refine he.trans ?_;rw[h.fs,mH h.n0 (run_part_plain w (by simp[Program.plainKey,h.t0]) (by rw[h.o0];rfl)) (run_part_plain w (by simp[Program.plainKey,h.t0]) (by rw[h.o0];rfl)) (run_equalIn_bool w 9998 f0.type _ _ h.t0)
  (mH h.n1 (cO h.t1 (by rw[h.o1];rfl) w) (cO h.t1 (by rw[h.o1];rfl) w) (run_equalIn_int w 9998 f1.type .i64 .i64 _ _ h.t1)
   (mH h.n2 (cO h.t2 (by rw[h.o2];rfl) w) (cO h.t2 (by rw[h.o2];rfl) w) (run_equalIn_int w 9998 f2.type .i64 .i64 _ _ h.t2) x3))]
 congr 1;obtain⟨a1,a2,a3⟩:=a;obtain⟨b1,b2,b3⟩:=b;rw[aPR];simp[C1.sQ.mk.injEq]
theorem ZC{t t':TypeId}{f0 f1 f2:Field}{a b:C1.sQ}(ho:all[ix]?= some ⟨some d,.binOp .neq t x y t',ty,pos,aft,g⟩)(ht:KC P t f0 f1 f2)(hx:ev σ x=some (cV a))(hy:ev σ y=some (cV b))(hN:Nat.blt d X.N=true)(hg:cY all σ g)
  (kk:WL P X bad all K Q os ((d,.bool (!(decide (a=b))))::σ) μ Ds):WL P X bad all K Q ((fl,ix)::os) σ μ Ds:=
 AG ho (fun w=>by
  have hgd:(eqGuard .neq t x y (cV a) (cV b)).run P w=.ok () w:=by
   simp only[eqGuard,program,cV];simp[Sem.run,ht.guard,go_sem]
  rw[Sem.run_bind,hgd];show((do Pure.pure (Value.bool (!(←Op.equal t (cV a) (cV b))))):Sem Value).run P w=_;rw[Sem.run_bind,T5 ht];rfl) hx hy hN hg kk
end Go.Fs
