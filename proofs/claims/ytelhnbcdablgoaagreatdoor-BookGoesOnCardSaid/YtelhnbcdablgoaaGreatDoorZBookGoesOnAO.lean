/- Of the proof of BookGoesOn: BW23, File, BW24, Copy, BW25, Eq8, BW26, BW28, Stops, BW27, Lit. -/
import Derived.Test.YtelhnbcdablgoaaGreatDoorZBookGoesOnAN
import Derived.Test.YtelhnbcdablgoaaGreatDoorZBookGoesOnAJ
import Derived.Test.YtelhnbcdablgoaaGreatDoorZBookGoesOnAE
import Derived.Laws.IdiomStrings
namespace Go.Fs
open Go.Proofs
namespace L12
open C12 Go.Lib
def NB(x:Int):Prop:= -1000≤x∧x≤100000
def aDL(s:aI):Int×Int:=if C1.dF s.row (C1.nW s.row 0 ((s.row.places.length:Int)-1))=0 then(C1.XE (C1.truths s.row) (0:Int).toNat ((s.row.places.length:Int)-1).toNat,C1.TD (C1.truths s.row) (0:Int).toNat ((s.row.places.length:Int)-1).toNat)else(0,0)
def CP(s:aI)(k:Nat):Int×Int:=if C2.kK s.table (C1.fR (k:Int) 0 ((s.table.levels.length:Int)-1))=0 then C2.XY s.table (s.table.levels.getD (k:Int).toNat 0)else(0,0)
def aCQ(s:aI):Int:=if C2.kK s.table (C2.nU s.table.last 0 s.table.last)=0 then C2.aHS s.table 0 s.table.last else 0
def PZ(s:aI):Int×Int:=if C3.sH s.book (C1.fR (s.book.lines.length:Int) 0 (s.book.lines.length:Int))=0 then L3.y3 (fun s=>s.money) s.book (s.book.lines.length:Int).toNat else(0,0)
def y1(s:aI):Int×Int:=if C3.sH s.book true=0 then L3.y3 (fun s=>s.mixed) s.book s.book.lines.length else(0,0)
structure UG(s:aI):Prop where
 ch:NB (aDL s).1∧NB (aDL s).2
 le:NB (C1.pD s.row)
 wet:∀k,k<s.table.levels.length→NB (CP s k).1∧NB (CP s k).2
 dry:NB (aCQ s)
 lv:∀x∈(L3.dP s.book).1,NB x
 lvn:(L3.dP s.book).1.length≤100
 lev:s.table.levels.length≤6
 mon:NB (PZ s).1∧NB (PZ s).2
 mix:NB (y1 s).1∧NB (y1 s).2
 wh:NB (L7.eQ s.yard).1.1∧NB (L7.eQ s.yard).1.2
 su:NB (L7.lF s.yard).2.1
def r1(s:aI):List UInt8:=pW [99,104,97,105,114,115] (aDL s).1 (aDL s).2
def r2(s:aI):List UInt8:=r1 s++N0 [108,101,97,115,116] (C1.pD s.row)
def r3(s:aI)(k:Nat):List UInt8:=r2 s++(List.range k).flatMap fun i=>pW [119,101,116] (CP s i).1 (CP s i).2
def r4(s:aI):List UInt8:=r3 s s.table.levels.length++N0 [100,114,121] (aCQ s)
def r5(s:aI):List UInt8:=r4 s++[108,101,97,118,101]
def r6(s:aI)(k:Nat):List UInt8:=r5 s++((L3.dP s.book).1.take k).flatMap fun i=>32::itoa i
def r7(s:aI):List UInt8:=r6 s (L3.dP s.book).1.length++[10]
def aED(s:aI):List UInt8:=r7 s++pW [109,111,110,101,121] (PZ s).1 (PZ s).2
def r8(s:aI):List UInt8:=if(L3.dP s.book).1=[]then aED s++pW [109,105,120,101,100] (y1 s).1 (y1 s).2 else r7 s
def r9(s:aI):List UInt8:=r8 s++pW [119,104,111,108,101] (L7.eQ s.yard).1.1 (L7.eQ s.yard).1.2
def lA(s:aI):List UInt8:=r9 s++N0 [115,117,114,101] (L7.lF s.yard).2.1
def xZ(ls:List ByteArray):List UInt8×Int:=if(aK ls).2.2=0 then(lA (aK ls).1,0)else([],(aK ls).2.2)
section
variable{s:aI}
theorem aHR:r1 s=[]++pW [99,104,97,105,114,115] (aDL s).1 (aDL s).2:=rfl
theorem aHV:r2 s=r1 s++N0 [108,101,97,115,116] (C1.pD s.row):=rfl
theorem aHO:r4 s=r3 s s.table.levels.length++N0 [100,114,121] (aCQ s):=rfl
theorem aHK:r5 s=r4 s++[108,101,97,118,101]:=rfl
theorem aHX:r7 s=r6 s (L3.dP s.book).1.length++[10]:=rfl
theorem KB{k:Nat}:r3 s (k+1)=r3 s k++pW [119,101,116] (CP s k).1 (CP s k).2:=by unfold r3;rw[aLG,aKE,aKV,aJL]
theorem aBY{k:Nat}{x:Int}(h:(L3.dP s.book).1[k]?= some x):r6 s (k+1)=r6 s k++((⟨#[32]⟩:ByteArray)++t8 (itoa x)).data.toList:=by
 unfold r6;rw[aJP,h]
 simp[t8]
theorem aDY(h:(L3.dP s.book).1=[]):r8 s=aED s++pW [109,105,120,101,100] (y1 s).1 (y1 s).2:=aJT h
theorem aHC(h:(L3.dP s.book).1≠[]):r8 s=r7 s:=aJM h
theorem qV(s:aI):lA s≠[]:=by unfold lA N0;simp
theorem sP{w:List UInt8}{lo hi:Int}(h:NB lo∧NB hi):(pW w lo hi).length≤w.length+18:=by
 have h1:=iY h.1.1 h.1.2;have h2:=iY h.2.1 h.2.2
 simp only[pW,aIX,aJD,aKZ];omega
theorem JR{w:List UInt8}{n:Int}(h:NB n):(N0 w n).length≤w.length+9:=by
 have h1:=iY h.1 h.2;simp only[N0,aIX,aJD,aKZ];omega
variable(h:UG s)
include h
theorem VL:(r1 s).length≤30:=by have:=sP (w:=[99,104,97,105,114,115]) h.ch;unfold r1;simp only[aJD,aKZ]at this;omega
theorem aGI:(r2 s).length≤60:=by have:=JR (w:=[108,101,97,115,116]) h.le;have h1:=VL h;unfold r2;simp only[aJD,aKZ]at this;rw[aIX];omega
theorem l6:∀k,k≤s.table.levels.length→(r3 s k).length≤60+30*k
 |0,_=>by have:=aGI h;unfold r3;simpa using this
 |k+1,hk=>by
  have:=l6 k Yd;have h2:=sP (w:=[119,101,116]) (h.wet k Yd);rw[KB,aIX];simp only[aJD,aKZ]at h2;omega
theorem SG:(r4 s).length≤300:=by have h1:=l6 h _ (aJU _);have h0:=h.lev;have:=JR (w:=[100,114,121]) h.dry;unfold r4;simp only[aJD,aKZ]at this;rw[aIX];omega
theorem aDX:(r5 s).length≤310:=by have h1:=SG h;unfold r5;rw[aIX];simp only[aJD,aKZ];omega
theorem FX(k:Nat):(r6 s k).length≤1200:=by
 have h1:=aDX h;have key:∀l:List Int,(∀x∈l,NB x)→(l.flatMap fun i=>32::itoa i).length≤8*l.length:=by
  intro l;induction l with
  |nil=>intro _;simp
  |cons a l ih=>
   intro hl;have h1:=iY (hl a Ye).1 (hl a Ye).2;have h2:=ih fun x hx=>hl x (by simp[hx])
   rw[aKR,aIX];simp only[aJD];omega
 have h2:=key ((L3.dP s.book).1.take k) fun x hx=>h.lv x (aNO hx)
 have h3:=h.lvn;have h4:((L3.dP s.book).1.take k).length≤100:=by rw[aKL];omega
 unfold r6;rw[aIX];omega
theorem FP:(r7 s).length≤1300:=by have h1:=FX h (L3.dP s.book).1.length;unfold r7;rw[aIX];simp only[aJD,aKZ];omega
theorem IA:(aED s).length≤1400:=by have h1:=FP h;have:=sP (w:=[109,111,110,101,121]) h.mon;unfold aED;simp only[aJD,aKZ]at this;rw[aIX];omega
theorem GN:(r8 s).length≤1500:=by
 unfold r8;split
 ·have h1:=IA h;have:=sP (w:=[109,105,120,101,100]) h.mix;simp only[aJD,aKZ]at this;rw[aIX];omega
 ·have h1:=FP h;omega
theorem RH:(r9 s).length≤1600:=by have h1:=GN h;have:=sP (w:=[119,104,111,108,101]) h.wh;unfold r9;simp only[aJD,aKZ]at this;rw[aIX];omega
end
theorem W1{x:Int}(h:NB x):((⟨#[32]⟩:ByteArray)++t8 (itoa x)).size≤10:=by
 have:=iY h.1 h.2;rw[ByteArray.size_append,xT,pS];simp only[aKH,aJD,aKZ];omega
theorem uG{b:Nat}{l:List UInt8}{ν B:aC}{h0:H0}{lo:Nat}{D0 D:aA}{w:World}(h:dR b l ν)(hl:l≠[])(hs:fP h0 lo D0 [] (ν++B) D w):IsBuilder 115 5 (max 1 h0.size) b (byteCells l) w∧max 1 h0.size≤w.heap.size:=by
 obtain⟨p,v,ν1,rfl,hp,ha,hcb⟩:=h;have hlen:0<l.length:=aMH.2 hl;obtain⟨g,cap,junk,rfl,hcap,rfl,h1,h2⟩:=ha.some hlen;obtain⟨k1,k2,k3⟩:=hs.box _ (aJG _ aJH);obtain⟨g1,g2,g3⟩:=hs.box _ (aJG _ (aJB _ aJH));have hlo:=hs.hlo;have kb:=hs.agr.ne0 k2;have gb:=hs.agr.ne0 g2
 have hk:lo≤b:=k3.resolve_right Ye;have hg:lo≤g:=g3.resolve_right Ye;have hne:g≠b:=fun e=>by
  have:=hs.nd;simp[e]at this
 have hat:BuilderAt 115 5 (max 1 h0.size) b (.pointer p) (byteCells l) w:=by
  refine⟨by omega,_,k1,⟨by rw[byteCells_length];omega,aJE ⟨g,cap,(bc l++junk).toArray,by rw[byteCells_length],by omega,g1,by rw[byteCells_length];exact hcap,hcb _ _ _ rfl,by simpa using h2,?_⟩⟩,by simp[Value.ownBlock];exact hne⟩;rw[byteCells_length];show(bc l++junk).take (l.length*1)=bc l;rw[←h1,aNL]
 refine⟨?_,?_⟩
 ·rcases hp with rfl|rfl
  ·exact aJQ hat
  ·exact aJE hat
 ·have:=bA k1;omega
theorem OA(lv:Value)(ls:List ByteArray)(D:aA)(hS:Sl D RS 1 lv ls)(hV:jO D)(hR0:(aK ls).2.2=0→UG (aK ls).1):Fn Tryz.prog 21 #[lv] D (fun _ v=>v=.tuple #[.string (t8 (xZ ls).1),.int .i64 (xZ ls).2]):=by
 refine enter 175 Tryz.func21 rfl rfl rfl rfl fun h0=>C.s1<|Zh rfl<|Zh rfl<|L.n3<|Za rfl<|Zt rfl (fun D1 hD1=>xA _ ls _ (hS.up RS.up (hD1 _ Ye)) (hV.up (hD1 _ Ye))) (fun v1 D1 hD1 hp1=>?_)
 obtain⟨w1,w2,rfl,⟨pv,cv,hv,lv,mv,bl,bc,yc,yq,rfl,hL⟩,hes⟩:=hp1;have hpl7:(aK ls).1.row.places.length≤7:=H5 ls;have hln8:(aK ls).1.book.lines.length≤8:=K4 ls;unfold bP;refine Za rfl<|Zaa rfl<|Zaa rfl<|Zaa rfl<|Zx rfl Tf.z42 rfl (fun q1=>aW rfl rfl rfl rfl Tf.s42 Ya Ya (bM.head) (eU hL) trivial<|Zh rfl<|Zh rfl<|L.n4<|Za rfl<|dZ rfl rfl rfl rfl trivial<|L.n1 ?_);refine aE rfl (fun hc1=>?_) (fun hc1=>?_)
 ·have hf:(aK ls).2.2≠0:=by simpa using hc1
  refine C.s1<|Za rfl<|Zh rfl<|Zh rfl<|L.n5<|Zai ?_;exact Zm [_,_] rfl C.rs (fun D hD=>by unfold xZ;rw[aJM hf];rfl)
 ·have hf:(aK ls).2.2=0:=by simpa using hc1
  have hR:=hR0 hf;have hlev6:=hR.lev;have hlvn:=hR.lvn;refine C.kn<|C.s1<|Zx rfl Tf.z115 rfl (fun q2=>L.n3<|bB rfl rfl rfl rfl trivial<|Zh rfl<|L.n3<|bB rfl rfl rfl rfl trivial<|Zh rfl<|L.n2 ?_);have hbb0:dR q2 [] [(q2,.cells [.pointer none,.slice none 0 0].toArray 115 (0,0))]:=⟨none,_,[],rfl,aJQ rfl,bL.nil,G0 Yah⟩
  refine C.rg<|Zi rfl Tf.f42_0 rfl<|dE rfl Tf.a28 Tf.s28 rfl (List.Mem.tail _ (List.Mem.head _)) rfl rfl GT rfl trivial<|Zi rfl Tf.f42_0 rfl<|Zi rfl Tf.f28_0 rfl<|Zl rfl Tf.a25 rfl (List.Mem.tail _ (List.Mem.head _)) rfl<|aR rfl U25 rfl (hL.pl.up RI.up (Le.refl _)) rfl rfl trivial<|fX rfl rfl rfl Yf rfl trivial<|Zd rfl (fun D2 hD2=>S0 _ (aK ls).1.row 0 (((aK ls).1.row.places.length:Int)-1) _ (hL.row.up (hD2 _ Ye)))<|Za rfl<|Zaa rfl<|Zaa rfl ?_;refine Zx rfl Tf.z88 rfl (fun q3=>Zv rfl Tf.s88 (bM.head)<|Zh rfl<|L.n3<|Za rfl<|Zi rfl Tf.f88_0 rfl<|Zl rfl Tf.a3 rfl (List.Mem.head _) rfl<|Zi rfl Tf.f88_1 rfl<|Zl rfl Tf.a3 rfl (List.Mem.head _) rfl<|I1 (List.Sublist.cons _ (LE _))<|Zc [] [(q1,_)] [(q2,_)] rfl (Or.inl rfl) hbb0.unf (fun D20 hD20=>tV ⟨#[99,104,97,105,114,115]⟩ (aDL (aK ls).1).1 (aDL (aK ls).1).2 q2 ([]) [(q2,_)] _ (hV.up (hD20 _ Ye)) Yah hR.ch.1 hR.ch.2 hbb0 (by have:=(show([]:List UInt8).length≤0 from aJU 0);omega)) (fun _ _ _ h=>h.elim) (fun v20 D21 ν20 hD21 hbb20=>aF ((ν20++[(q1,.cells (bP (aK ls).1 pv cv hv lv mv bl bc yc yq).toArray 42 (0,0))])) rfl ?_))
  replace hbb20:dR q2 (r1 (aK ls).1) ν20:=by first|exact hbb20|(rw[aHR];exact hbb20)|(simpa [r1]using hbb20)
  refine L.n3<|Zi rfl Tf.f42_0 rfl<|dE rfl Tf.a28 Tf.s28 rfl (aIZ _ (List.Mem.head _)) rfl rfl GT rfl trivial<|Zd rfl (fun D3 hD3=>L1.YC _ (aK ls).1.row _ (hL.row.up (hD3 _ Ye)))<|Za rfl<|Zaa rfl<|Zaa rfl<|Zh rfl<|Zh rfl<|L.n3<|Za rfl<|Za rfl ?_;refine Zc [] [(q1,_)] ν20 rfl (Or.inl rfl) hbb20.unf (fun D22 hD22=>j7 ⟨#[108,101,97,115,116]⟩ (C1.pD (aK ls).1.row) q2 (r1 (aK ls).1) ν20 _ (hV.up (hD22 _ Ye)) Yah hR.le hbb20 (by have:=VL hR;omega)) (fun _ _ _ h=>h.elim) (fun v22 D23 ν22 hD23 hbb22=>aF ((ν22++[(q1,.cells (bP (aK ls).1 pv cv hv lv mv bl bc yc yq).toArray 42 (0,0))])) rfl ?_)
  replace hbb22:dR q2 (r2 (aK ls).1) ν22:=by first|exact hbb22|(rw[aHV];exact hbb22)|(simpa [r2]using hbb22)
  refine L.n4<|Zi rfl Tf.f42_1 rfl<|Zi rfl Tf.f32_3 rfl<|Zl rfl Tf.a25 rfl (aIZ _ (List.Mem.head _)) rfl<|aR rfl U25 rfl (hL.lev.up RI.up (Le.refl _)) rfl rfl trivial<|Za rfl<|L.n1<|Zaj<|cE (γ:=Nat×aC) (fun g=>(aK ls).1.table.levels.length-g.1) (fun g=>g.1≤(aK ls).1.table.levels.length∧dR q2 (r3 (aK ls).1 g.1) g.2) (fun g=>[(73,.int .i64 (g.1:Int))]) [(72,_),(9,_),(8,_),(7,_),(4,_),(3,_),(2,_)] (fun g=>g.2++[(q1,.cells (bP (aK ls).1 pv cv hv lv mv bl bc yc yq).toArray 42 (0,0))]) (fun g=>[D23,D21,D1,D]) (0,ν22) ⟨by simp,by simpa [r3]using hbb22⟩ ⟨Yb,aOJ⟩ C.rs (LE _) (aD) ?_;rintro⟨k,ν⟩ ⟨h1,hbv⟩;simp only at h1 hbv;refine C.s1<|Zae rfl<|L.n2<|aE rfl (fun hc2=>?_) (fun hc2=>?_)
  ·simp only at hc2;have hkl:k<(aK ls).1.table.levels.length:=by omega
   refine C.kn<|aM<|Zaj<|C.s1<|Za rfl<|Zh rfl<|L.n3<|Zi rfl Tf.f42_1 rfl<|dE rfl Tf.a32 Tf.s32 rfl (aIZ _ (List.Mem.head _)) rfl rfl GT rfl trivial<|Za rfl<|Zd rfl (fun D4 hD4=>L2.RX _ (aK ls).1.table (k:Int) _ (hL.table.up (hD4 _ Ye)))<|Za rfl ?_;refine Zaa rfl<|Zaa rfl<|Zx rfl Tf.z99 rfl (fun q4=>Zv rfl Tf.s99 (bM.head)<|Zh rfl<|L.n1<|C.rg<|Za rfl<|Zi rfl Tf.f99_0 rfl<|Zl rfl Tf.a3 rfl (List.Mem.head _) rfl<|Zi rfl Tf.f99_1 rfl<|Zl rfl Tf.a3 rfl (List.Mem.head _) rfl ?_);refine I1 (List.Sublist.cons _ (LE _))<|Zc [] [(q1,_)] ν rfl (Or.inl rfl) hbv.unf (fun D24 hD24=>tV ⟨#[119,101,116]⟩ (CP (aK ls).1 k).1 (CP (aK ls).1 k).2 q2 (r3 (aK ls).1 k) ν _ (hV.up (hD24 _ Ye)) Yah (hR.wet k hkl).1 (hR.wet k hkl).2 hbv (by have:=l6 hR (k) Yd;omega)) (fun _ _ _ h=>h.elim) (fun v24 D25 ν24 hD25 hbb24=>aF ((ν24++[(q1,.cells (bP (aK ls).1 pv cv hv lv mv bl bc yc yq).toArray 42 (0,0))])) rfl ?_)
   replace hbb24:dR q2 (r3 (aK ls).1 (k+1)) ν24:=by rw[KB];exact hbb24
   refine Zab<|Zal<|Zah<|C.rg<|Zy rfl<|Za rfl<|Zab ?_;exact aG 21 (k+1,ν24) ⟨by simp only;omega,hbb24⟩ Yl ⟨Yb,aOJ⟩ rfl rfl (LE _) (fun D h=>⟨D,LT _ (h),Le.refl D⟩)
  ·obtain rfl:k=(aK ls).1.table.levels.length:=by simp only at hc2;omega
   refine aQ<|Zak<|Zak<|Zan<|Zah<|C.s1<|Zi rfl Tf.f42_1 rfl<|dE rfl Tf.a32 Tf.s32 rfl (aIZ _ (List.Mem.head _)) rfl rfl GT rfl trivial<|Zi rfl Tf.f42_1 rfl<|Zi rfl Tf.f32_0 rfl<|Zl rfl Tf.a3 rfl (aIZ _ (List.Mem.head _)) rfl<|Zd rfl (fun D5 hD5=>L2.aFQ _ (aK ls).1.table 0 (aK ls).1.table.last _ (hL.table.up (hD5 _ Ye))) ?_;refine Za rfl<|Zaa rfl<|Zaa rfl<|Zh rfl<|Zh rfl<|L.n3<|Za rfl<|Za rfl<|Zc [] [(q1,_)] ν rfl (Or.inl rfl) hbv.unf (fun D26 hD26=>j7 ⟨#[100,114,121]⟩ (aCQ (aK ls).1) q2 (r3 (aK ls).1 (aK ls).1.table.levels.length) ν _ (hV.up (hD26 _ Ye)) Yah hR.dry hbv (by have:=l6 hR ((aK ls).1.table.levels.length) Yd;omega)) (fun _ _ _ h=>h.elim) (fun v26 D27 ν26 hD27 hbb26=>aF ((ν26++[(q1,.cells (bP (aK ls).1 pv cv hv lv mv bl bc yc yq).toArray 42 (0,0))])) rfl ?_)
   replace hbb26:dR q2 (r4 (aK ls).1) ν26:=by first|exact hbb26|(rw[aHO];exact hbb26)|(simpa [r4]using hbb26)
   refine L.n3<|Zc [] [(q1,_)] ν26 rfl (Or.inl rfl) hbb26.unf (fun D28 hD28=>jF q2 ⟨#[108,101,97,118,101]⟩ (r4 (aK ls).1) ν26 _ hbb26 (by have:=SG hR;have hz:=(show(⟨#[108,101,97,118,101]⟩:ByteArray).size=5 from rfl);omega)) (fun _ _ _ h=>h.elim) (fun v28 D29 ν28 hD29 hbb28=>aF ((ν28++[(q1,.cells (bP (aK ls).1 pv cv hv lv mv bl bc yc yq).toArray 42 (0,0))])) rfl ?_);replace hbb28:dR q2 (r5 (aK ls).1) ν28:=by first|exact hbb28|(rw[aHK];exact hbb28)|(simpa [r5]using hbb28)
   refine L.n3<|Zi rfl Tf.f42_2 rfl<|dE rfl Tf.a36 Tf.s36 rfl (aIZ _ (List.Mem.head _)) rfl rfl GT rfl trivial<|Zt rfl (fun D6 hD6=>L3.VQ _ (aK ls).1.book _ (hL.book.up (hD6 _ Ye))) (fun v6 D6 hD6 hp6=>?_);obtain⟨lvv,rfl,hlv⟩:=hp6;obtain⟨lva,lvc,rfl⟩:=hlv.shape;refine Za rfl<|Zaa rfl<|Zaa rfl<|Zh rfl<|Zh rfl<|L.n4<|Za rfl<|aR rfl U25 rfl hlv rfl rfl trivial<|Za rfl<|L.n1<|Zaj<|cE (γ:=Nat×aC) (fun g=>(L3.dP (aK ls).1.book).1.length-g.1) (fun g=>g.1≤(L3.dP (aK ls).1.book).1.length∧dR q2 (r6 (aK ls).1 g.1) g.2) (fun g=>[(111,.int .i64 (g.1:Int))]) [(110,_),(109,_),(19,_),(9,_),(8,_),(7,_),(4,_),(3,_),(2,_)] (fun g=>g.2++[(q1,.cells (bP (aK ls).1 pv cv hv lv mv bl bc yc yq).toArray 42 (0,0))]) (fun g=>[D6,D29,D27,D23,D21,D1,D]) (0,ν28) ⟨by simp,by simpa [r6]using hbb28⟩ ⟨Yb,aOJ⟩ C.rs (LE _) (aD) ?_;rintro⟨k,ν⟩ ⟨h1,hbv⟩;simp only at h1 hbv;refine C.s1<|Zae rfl<|L.n2<|aE rfl (fun hc3=>?_) (fun hc3=>?_)
   ·simp only at hc3;have hkl:k<(L3.dP (aK ls).1.book).1.length:=by omega
    obtain⟨x,hx⟩:∃x,(L3.dP (aK ls).1.book).1[k]?= some x:=⟨_,aJC hkl⟩
    refine C.kn<|aM<|Zaj<|C.s1<|Zs rfl U25 Tf.s3 rfl hlv rfl hx (fun b1 o1 cs1 hr1 hcl1 hA1=>?_);obtain rfl:cs1=[.int .i64 _]:=hr1;refine Zf 0 rfl Tf.a3 rfl hA1 rfl<|Zh rfl<|L.n1<|C.rg<|Za rfl<|Zd rfl (fun D7 hD7=>xN x (by have:=hR.lv x (aJA hx);unfold NB at this;simp only[qR];omega) _ (hV.up (hD7 _ Ye)))<|kU rfl rfl rfl (by have:=W1 (hR.lv x (aJA hx));rw[ByteArray.size_append]at this;omega) rfl trivial<|Zc [] [(q1,_)] ν rfl (Or.inl rfl) hbv.unf (fun D30 hD30=>jF q2 ((⟨#[32]⟩:ByteArray)++t8 (itoa x)) (r6 (aK ls).1 k) ν _ hbv (by have:=FX hR (k);have hz:=(W1 (hR.lv x (aJA hx)));omega)) (fun _ _ _ h=>h.elim) (fun v30 D31 ν30 hD31 hbb30=>aF ((ν30++[(q1,.cells (bP (aK ls).1 pv cv hv lv mv bl bc yc yq).toArray 42 (0,0))])) rfl ?_)
    replace hbb30:dR q2 (r6 (aK ls).1 (k+1)) ν30:=by rw[aBY hx];exact hbb30
    refine Zab<|Zal<|Zah<|C.rg<|Zy rfl<|Za rfl<|Zab ?_;exact aG 11 (k+1,ν30) ⟨by simp only;omega,hbb30⟩ Yl ⟨Yb,aOJ⟩ rfl rfl (LE _) (fun D h=>⟨D,LT _ (h),Le.refl D⟩)
   ·obtain rfl:k=(L3.dP (aK ls).1.book).1.length:=by simp only at hc3;omega
    refine aQ<|Zak<|Zak<|Zan<|Zah<|C.s1<|Zc [] [(q1,_)] ν rfl (Or.inl rfl) hbv.unf (fun D32 hD32=>jF q2 ⟨#[10]⟩ (r6 (aK ls).1 (L3.dP (aK ls).1.book).1.length) ν _ hbv (by have:=FX hR ((L3.dP (aK ls).1.book).1.length);have hz:=(show(⟨#[10]⟩:ByteArray).size=1 from rfl);omega)) (fun _ _ _ h=>h.elim) (fun v32 D33 ν32 hD33 hbb32=>aF ((ν32++[(q1,.cells (bP (aK ls).1 pv cv hv lv mv bl bc yc yq).toArray 42 (0,0))])) rfl ?_);replace hbb32:dR q2 (r7 (aK ls).1) ν32:=by first|exact hbb32|(rw[aHX];exact hbb32)|(simpa [r7]using hbb32)
    refine L.n4<|Za rfl<|aR rfl U25 rfl hlv rfl rfl trivial<|dJ rfl rfl rfl rfl trivial<|L.n1<|aE rfl (fun hc4=>?_) (fun hc4=>?_)
    ·have hl0:(L3.dP (aK ls).1.book).1=[]:=aNY Yd;refine C.s1<|Zi rfl Tf.f42_2 rfl<|dE rfl Tf.a36 Tf.s36 rfl (aIZ _ (List.Mem.head _)) rfl rfl GT rfl trivial<|Zi rfl Tf.f42_2 rfl<|Zi rfl Tf.f36_3 rfl<|Zl rfl Tf.a33 rfl (aIZ _ (List.Mem.head _)) rfl<|aR rfl U33 rfl (hL.ln.up oL.up (Le.refl _)) rfl rfl trivial<|Zd rfl (fun D8 hD8=>L3.wI _ (aK ls).1.book ((aK ls).1.book.lines.length:Int) _ (hL.book.up (hD8 _ Ye)))<|Za rfl<|Zaa rfl<|Zaa rfl<|Zx rfl Tf.z65 rfl (fun q5=>?_);refine Zv rfl Tf.s65 (bM.head)<|Zh rfl<|L.n3<|Zi rfl Tf.f42_2 rfl<|dE rfl Tf.a36 Tf.s36 rfl (List.Mem.tail _ (aIZ _ (List.Mem.head _))) rfl rfl GT rfl trivial<|Zd rfl (fun D9 hD9=>L3.RV _ (aK ls).1.book _ (hL.book.up (hD9 _ Ye)))<|Za rfl<|Zaa rfl<|Zaa rfl<|Zx rfl Tf.z65 rfl (fun q6=>Zv rfl Tf.s65 (bM.head)<|Zh rfl ?_);refine L.n3<|Za rfl<|Zi rfl Tf.f65_0 rfl<|Zl rfl Tf.a3 rfl (List.Mem.tail _ (List.Mem.head _)) rfl<|Zi rfl Tf.f65_1 rfl<|Zl rfl Tf.a3 rfl (List.Mem.tail _ (List.Mem.head _)) rfl<|Zc [(_,_),(_,_)] [(q1,_)] ν32 rfl (Or.inl rfl) hbb32.unf (fun D34 hD34=>tV ⟨#[109,111,110,101,121]⟩ (PZ (aK ls).1).1 (PZ (aK ls).1).2 q2 (r7 (aK ls).1) ν32 _ (hV.up (hD34 _ Ye)) Yah hR.mon.1 hR.mon.2 hbb32 (by have:=FP hR;omega)) (fun _ _ _ h=>h.elim) (fun v34 D35 ν34 hD35 hbb34=>aF ((q6,_)::(q5,_)::(ν34++[(q1,.cells (bP (aK ls).1 pv cv hv lv mv bl bc yc yq).toArray 42 (0,0))])) rfl ?_)
     replace hbb34:dR q2 (aED (aK ls).1) ν34:=by first|exact hbb34|(rw[r7m_eq];exact hbb34)|(simpa [aED]using hbb34)
     refine L.n1<|C.rg<|Za rfl<|Zi rfl Tf.f65_0 rfl<|Zl rfl Tf.a3 rfl (List.Mem.head _) rfl<|Zi rfl Tf.f65_1 rfl<|Zl rfl Tf.a3 rfl (List.Mem.head _) rfl<|I1 (List.Sublist.cons _ (List.Sublist.cons _ (LE _)))<|Zc [] [(q1,_)] ν34 rfl (Or.inl rfl) hbb34.unf (fun D36 hD36=>tV ⟨#[109,105,120,101,100]⟩ (y1 (aK ls).1).1 (y1 (aK ls).1).2 q2 (aED (aK ls).1) ν34 _ (hV.up (hD36 _ Ye)) Yah hR.mix.1 hR.mix.2 hbb34 (by have:=IA hR;omega)) (fun _ _ _ h=>h.elim) (fun v36 D37 ν36 hD37 hbb36=>aF ((ν36++[(q1,.cells (bP (aK ls).1 pv cv hv lv mv bl bc yc yq).toArray 42 (0,0))])) rfl ?_);replace hbb36:dR q2 (r8 (aK ls).1) ν36:=by rw[aDY hl0];exact hbb36
     refine L.n3<|Zi rfl Tf.f42_3 rfl<|dE rfl Tf.a40 Tf.s40 rfl (aIZ _ (List.Mem.head _)) rfl rfl GT rfl trivial<|Zd rfl (fun D10 hD10=>L7.qD _ (aK ls).1.yard _ (hL.yard.up (hD10 _ Ye)))<|Za rfl<|Zaa rfl<|Zaa rfl<|Zx rfl Tf.z133 rfl (fun q7=>Zv rfl Tf.s133 (bM.head)<|Zh rfl<|L.n3<|Za rfl ?_);refine Zi rfl Tf.f133_0 rfl<|Zl rfl Tf.a3 rfl (List.Mem.head _) rfl<|Zi rfl Tf.f133_1 rfl<|Zl rfl Tf.a3 rfl (List.Mem.head _) rfl<|I1 (List.Sublist.cons _ (LE _))<|Zc [] [(q1,_)] ν36 rfl (Or.inl rfl) hbb36.unf (fun D38 hD38=>tV ⟨#[119,104,111,108,101]⟩ ((L7.eQ (aK ls).1.yard).1).1 ((L7.eQ (aK ls).1.yard).1).2 q2 (r8 (aK ls).1) ν36 _ (hV.up (hD38 _ Ye)) Yah hR.wh.1 hR.wh.2 hbb36 (by have:=GN hR;omega)) (fun _ _ _ h=>h.elim) (fun v38 D39 ν38 hD39 hbb38=>aF ((ν38++[(q1,.cells (bP (aK ls).1 pv cv hv lv mv bl bc yc yq).toArray 42 (0,0))])) rfl ?_)
     replace hbb38:dR q2 (r9 (aK ls).1) ν38:=by first|exact hbb38|(rw[r9_eq];exact hbb38)|(simpa [r9]using hbb38)
     refine L.n3<|Zi rfl Tf.f42_3 rfl<|dE rfl Tf.a40 Tf.s40 rfl (aIZ _ (List.Mem.head _)) rfl rfl GT rfl trivial<|Zt rfl (fun D11 hD11=>L7.JM _ (aK ls).1.yard _ (hL.yard.up (hD11 _ Ye))) (fun v11 D11 hD11 hp11=>?_);obtain⟨suv,rfl,hsu⟩:=hp11;refine Za rfl<|Zaa rfl<|Zaa rfl<|Zaa rfl<|Zh rfl<|Zh rfl<|Zh rfl<|L.n3<|Za rfl<|Za rfl<|Zc [] [(q1,_)] ν38 rfl (Or.inl rfl) hbb38.unf (fun D40 hD40=>j7 ⟨#[115,117,114,101]⟩ ((L7.lF (aK ls).1.yard).2.1) q2 (r9 (aK ls).1) ν38 _ (hV.up (hD40 _ Ye)) Yah hR.su hbb38 (by have:=RH hR;omega)) (fun _ _ _ h=>h.elim) (fun v40 D41 ν40 hD41 hbb40=>aF ((ν40++[(q1,.cells (bP (aK ls).1 pv cv hv lv mv bl bc yc yq).toArray 42 (0,0))])) rfl ?_)
     replace hbb40:dR q2 (lA (aK ls).1) ν40:=by first|exact hbb40|(rw[reportL_eq];exact hbb40)|(simpa [lA]using hbb40)
     refine L.n3<|N3 (post:=fun r=>r=.string (t8 (lA (aK ls).1))) rfl rfl rfl rfl (EF.of Tryz.func53 rfl rfl) (fun D w hw=>(Go.Proofs.Tryz.Builder_String_any (max 1 h0.size) q2 (lA (aK ls).1) w (uG hbb40 (qV _) hw).1 (uG hbb40 (qV _) hw).2).mono ?_) rfl aOJ (fun r hr=>?_)
     ·rintro e w1 ⟨rfl,hbl⟩;exact⟨_,rfl,hbl,rfl⟩
     subst hr;refine Zh rfl<|Zh rfl<|L.n5 ?_;exact Zm [_,_] rfl C.rs (fun D hD=>by unfold xZ;rw[aJT hf];rfl)
    ·have hl0:(L3.dP (aK ls).1.book).1≠[]:=fun h=>hc4 (by rw[h];rfl)
     have hb8:dR q2 (r8 (aK ls).1) ν32:=by rw[aHC hl0];exact hbb32
     refine C.kn<|C.s1<|Zi rfl Tf.f42_3 rfl<|dE rfl Tf.a40 Tf.s40 rfl (aIZ _ (List.Mem.head _)) rfl rfl GT rfl trivial<|Zd rfl (fun D12 hD12=>L7.qD _ (aK ls).1.yard _ (hL.yard.up (hD12 _ Ye)))<|Za rfl<|Zaa rfl<|Zaa rfl<|Zx rfl Tf.z133 rfl (fun q8=>Zv rfl Tf.s133 (bM.head)<|Zh rfl<|L.n3 ?_);refine Za rfl<|Zi rfl Tf.f133_0 rfl<|Zl rfl Tf.a3 rfl (List.Mem.head _) rfl<|Zi rfl Tf.f133_1 rfl<|Zl rfl Tf.a3 rfl (List.Mem.head _) rfl<|I1 (List.Sublist.cons _ (LE _))<|Zc [] [(q1,_)] ν32 rfl (Or.inl rfl) hb8.unf (fun D42 hD42=>tV ⟨#[119,104,111,108,101]⟩ ((L7.eQ (aK ls).1.yard).1).1 ((L7.eQ (aK ls).1.yard).1).2 q2 (r8 (aK ls).1) ν32 _ (hV.up (hD42 _ Ye)) Yah hR.wh.1 hR.wh.2 hb8 (by have:=GN hR;omega)) (fun _ _ _ h=>h.elim) (fun v42 D43 ν42 hD43 hbb42=>aF ((ν42++[(q1,.cells (bP (aK ls).1 pv cv hv lv mv bl bc yc yq).toArray 42 (0,0))])) rfl ?_)
     replace hbb42:dR q2 (r9 (aK ls).1) ν42:=by first|exact hbb42|(rw[r9_eq];exact hbb42)|(simpa [r9]using hbb42)
     refine L.n3<|Zi rfl Tf.f42_3 rfl<|dE rfl Tf.a40 Tf.s40 rfl (aIZ _ (List.Mem.head _)) rfl rfl GT rfl trivial<|Zt rfl (fun D13 hD13=>L7.JM _ (aK ls).1.yard _ (hL.yard.up (hD13 _ Ye))) (fun v13 D13 hD13 hp13=>?_);obtain⟨suv,rfl,hsu⟩:=hp13;refine Za rfl<|Zaa rfl<|Zaa rfl<|Zaa rfl<|Zh rfl<|Zh rfl<|Zh rfl<|L.n3<|Za rfl<|Za rfl<|Zc [] [(q1,_)] ν42 rfl (Or.inl rfl) hbb42.unf (fun D44 hD44=>j7 ⟨#[115,117,114,101]⟩ ((L7.lF (aK ls).1.yard).2.1) q2 (r9 (aK ls).1) ν42 _ (hV.up (hD44 _ Ye)) Yah hR.su hbb42 (by have:=RH hR;omega)) (fun _ _ _ h=>h.elim) (fun v44 D45 ν44 hD45 hbb44=>aF ((ν44++[(q1,.cells (bP (aK ls).1 pv cv hv lv mv bl bc yc yq).toArray 42 (0,0))])) rfl ?_)
     replace hbb44:dR q2 (lA (aK ls).1) ν44:=by first|exact hbb44|(rw[reportL_eq];exact hbb44)|(simpa [lA]using hbb44)
     refine L.n3<|N3 (post:=fun r=>r=.string (t8 (lA (aK ls).1))) rfl rfl rfl rfl (EF.of Tryz.func53 rfl rfl) (fun D w hw=>(Go.Proofs.Tryz.Builder_String_any (max 1 h0.size) q2 (lA (aK ls).1) w (uG hbb44 (qV _) hw).1 (uG hbb44 (qV _) hw).2).mono ?_) rfl aOJ (fun r hr=>?_)
     ·rintro e w1 ⟨rfl,hbl⟩;exact⟨_,rfl,hbl,rfl⟩
     subst hr;refine Zh rfl<|Zh rfl<|L.n5 ?_;exact Zm [_,_] rfl C.rs (fun D hD=>by unfold xZ;rw[aJT hf];rfl)
end L12
end Go.Fs
namespace Go.Fs
namespace C12
def uM:Nat→List UInt8→Nat
 |_,[]=>0
 |k,b::t=>(2*k+1)*b.toNat+uM (k+1) t
theorem B4:∀(a b:List UInt8) (k:Nat),uM k (a++b)=uM k a+uM (k+a.length) b
 | [],b,k=>by simp[uM]
 |x::a,b,k=>by
  rw[aLO,uM,uM,B4 a b (k+1),aJD,show k+1+a.length=k+(a.length+1) by omega,Nat.add_assoc]
theorem MC{l:List UInt8}{k:Nat}{b:UInt8}(h:l[k]?= some b):uM 0 (l.take (k+1))=uM 0 (l.take k)+(2*k+1)*b.toNat:=by
 have hk:k<l.length:=(aJK.1 h).1;rw[aJP,h,B4,aKL,aNH Yd];simp[uM]
theorem JG:∀(l:List UInt8) (k:Nat),uM k l≤(2*(k+l.length)+1)*256*l.length
 | [],k=>by simp[uM]
 |b::l,k=>by
  have h1:=JG l (k+1);have h2:b.toNat≤256:=by have:=b.toNat_lt;omega
  have h3:(2*k+1)*b.toNat≤(2*(k+(l.length+1))+1)*256:=Nat.mul_le_mul Yd h2;rw[uM,aJD,show k+(l.length+1)=k+1+l.length by omega,Nat.mul_succ];rw[show k+1+l.length=k+(l.length+1) by omega]at h1;rw[show k+1+l.length=k+(l.length+1) by omega];omega
def iO(i:Nat)(l:List UInt8):Nat:=(37*(i+1)+uM 0 l)%9967
theorem MR(i:Nat)(l:List UInt8):iO i l<9967:=Nat.mod_lt _ Yah
def lJ(n j:Nat):UInt8:=UInt8.ofNat (48+n / 10^j%10)
theorem C8(n j:Nat):(lJ n j).toNat=48+n / 10^j%10:=by
 unfold lJ;rw[UInt8.toNat_ofNat'];have:=Nat.mod_lt (n / 10^j) (show 0<10 by decide);omega
def mM(n:Nat):List UInt8:=[lJ n 3,lJ n 2,lJ n 1,lJ n 0]
def rT(i:Nat)(l:List UInt8):List UInt8:=[59,59,10]++mM (iO i l)
def eZ(i:Nat)(l:List UInt8):List UInt8:=[lJ l.length 1,lJ l.length 0,59]++l++[59]++mM (iO i l)++[10]
theorem fY(i:Nat)(l:List UInt8):(eZ i l).length=9+l.length:=by simp[eZ,mM];omega
def fC:Nat→List (List UInt8)→List UInt8
 |_,[]=>[]
 |i,l::ls=>eZ i l++fC (i+1) ls
theorem rS:∀(a b:List (List UInt8)) (i:Nat),fC i (a++b)=fC i a++fC (i+a.length) b
 | [],b,i=>by simp[fC]
 |x::a,b,i=>by
  rw[aLO,fC,fC,rS a b (i+1),aJD,aJL,show i+1+a.length=i+(a.length+1) by omega]
def fM(ls:List (List UInt8)):List UInt8:=fC 0 ls
theorem GI{ls:List (List UInt8)}{k:Nat}{l:List UInt8}(h:ls[k]?= some l):fM (ls.take (k+1))=fM (ls.take k)++eZ k l:=by
 have hk:k<ls.length:=(aJK.1 h).1;unfold fM;rw[aJP,h,rS,aKL,aNH Yd];simp[fC]
theorem qY:∀(ls:List (List UInt8)) (i m:Nat),(∀l∈ls,l.length≤m)→(fC i ls).length≤(9+m)*ls.length
 | [],i,m,_=>by simp[fC]
 |l::ls,i,m,h=>by
  have h1:=qY ls (i+1) m fun x hx=>h x (by simp[hx])
  have h2:=h l Ye;rw[fC,aIX,fY,aJD,Nat.mul_succ];omega

def lC(c:UInt8):Bool:=decide (48≤c.toNat)&&decide (c.toNat≤57)
def tL(b:List UInt8):Option Nat:=match b with
 |c::d::_=>if lC c=true∧lC d=true∧(c.toNat-48)*10+(d.toNat-48)≤50 then some ((c.toNat-48)*10+(d.toNat-48))else none
 |_=>none
def wP(n:Nat)(b:List UInt8):List UInt8:=[b.getD 2 0,b.getD (3+n) 0,b.getD (8+n) 0]++(b.drop (4+n)).take 4
def fU(i:Nat)(b:List UInt8):Option (List UInt8):=if b.length<9 then none else match tL b with
 |none=>none
 |some n=>if b.length<9+n then none else if wP n b=rT i ((b.drop 3).take n)then some ((b.drop 3).take n)else none
def zR:Nat→Nat→List UInt8→List (List UInt8)
 |0,_,_=>[]
 |f+1,i,b=>match fU i b with
  |none=>[]
  |some l=>l::zR f (i+1) (b.drop (9+l.length))
theorem L0{i:Nat}{b l:List UInt8}(h:fU i b=some l):l.length≤50∧9+l.length≤b.length:=by
 unfold fU at h;split at h
 ·cases h
 ·split at h
  ·cases h
  ·rename_i n hn;split at h
   ·cases h
   ·split at h
    ·cases h;have hn50:n≤50:=by
      unfold tL at hn;split at hn
      ·split at hn
       ·rename_i hh;cases hn;exact hh.2.2
       ·cases hn
      ·cases hn
     rw[aKL,aLB];omega
    ·cases h
end C12
end Go.Fs
namespace Go.Fs
open Go.Proofs
namespace L12
open C12 Go.Lib
theorem uC{s:ByteArray}{k:Nat}{b:UInt8}(h:s.data.toList[k]?= some b):s[k]?= some b:=by
 have hk:k<s.size:=by simpa using(aJK.1 h).1
 rw[getElem?_pos s k hk];congr 1;obtain⟨h1,h2⟩:=aJK.1 h;rw[←h2];rfl
theorem IZ{s:ByteArray}{k:Nat}{b:UInt8}(h:s.data.toList[k]?= some b)(hs:s.size≤1000):0≤(2*(k:Int)+1)*(b.toNat:Int)∧(2*(k:Int)+1)*(b.toNat:Int)≤1000000:=by
 have hk:k<s.size:=by simpa using(aJK.1 h).1
 have hb:=b.toNat_lt;have h1:(2*k+1)*b.toNat≤2001*256:=Nat.mul_le_mul Yd Yd;have h2:(2*(k:Int)+1)*(b.toNat:Int)=(((2*k+1)*b.toNat:Nat):Int):=by push_cast;rfl
 rw[h2];omega
theorem aAH{s:ByteArray}{k:Nat}(hs:s.size≤1000):uM 0 (s.data.toList.take k)≤1000000000:=by
 have h:=JG (s.data.toList.take k) 0;have hl:(s.data.toList.take k).length≤1000:=by
  rw[aKL];have:s.data.toList.length=s.size:=rfl;omega
 have h1:(2*(0+(s.data.toList.take k).length)+1)*256*(s.data.toList.take k).length≤2001*256*1000:=Nat.mul_le_mul (Nat.mul_le_mul Yd (aJU _)) hl;omega
def aGQ(n k:Nat):List Value:=[if 3<k then .int .u8 (lJ n 3).toNat else .int .u8 0,if 2<k then .int .u8 (lJ n 2).toNat else .int .u8 0,if 1<k then .int .u8 (lJ n 1).toNat else .int .u8 0,if 0<k then .int .u8 (lJ n 0).toNat else .int .u8 0]
theorem UM{n k:Nat}(hk:k<4):(aGQ n k).take (((3:Int)-(k:Int)).toNat)++[.int .u8 (48+((n / 10^k:Nat):Int)%10)]++(aGQ n k).drop (((3:Int)-(k:Int)).toNat+ [Value.int .u8 (48+((n / 10^k:Nat):Int)%10)].length)=aGQ n (k+1):=by
 have e:Value.int .u8 (48+((n / 10^k:Nat):Int)%10)=.int .u8 ((lJ n k).toNat:Int):=by rw[C8];rfl
 rw[e];obtain rfl|rfl|rfl|rfl:k=0∨k=1∨k=2∨k=3:=by omega
 all_goals rfl
theorem VV(i:Nat)(s:ByteArray)(hi:i≤100000)(hs:s.size≤1000)(D:aA):Fn Tryz.prog 201 #[.int .i64 (i:Int),.string s] D (fun _ v=>v=.int .i64 ((iO i s.data.toList:Nat):Int)):=by
 refine enter 28 Tryz.func201 rfl rfl rfl rfl fun h0=>C.s1<|Zh rfl<|L.n3<|Za rfl<|Zy rfl<|Q9 rfl rfl rfl Yf rfl trivial<|Zh rfl<|L.n4<|Za rfl<|gF rfl U9 rfl rfl rfl trivial<|Za rfl ?_;refine L.n1<|Zaj<|cJ (γ:=Nat) (fun k=>s.size-k) (fun k=>k≤s.size) (fun k=>[(12,.int .i64 (k:Int)),(5,.int .i64 ((37*(i+1)+uM 0 (s.data.toList.take k):Nat):Int))]) [(11,_),(4,_),(1,_)] (fun k=>[D]) 0 Yd ⟨Yb,(by show some (Value.int _ _)=some (Value.int _ _);congr 2),aOJ⟩ C.rs (aD) ?_
 rintro k hI;refine C.s1<|Zae rfl<|L.n2<|aE rfl (fun hc1=>?_) (fun hc1=>?_)
 ·have hk:k<s.size:=by omega
  obtain⟨b,hb⟩:∃b,s.data.toList[k]?= some b:=⟨_,aJC (by simpa using hk)⟩
  have hb0:=b.toNat_lt;refine C.kn<|aM<|Zaj<|C.s1<|Za rfl<|Zh rfl<|L.n1<|C.rg<|Za rfl<|Za rfl<|Q9 rfl rfl rfl Yf rfl trivial<|Zy rfl ?_;refine Za rfl<|Za rfl<|lV rfl U9 rfl rfl Yd (by rw[aKT];exact uC hb) rfl trivial<|xV rfl U5 U3 rfl Yf rfl trivial<|Q9 rfl rfl rfl (by have:=IZ hb hs;simp only[qR];omega) rfl trivial<|yF rfl rfl rfl (by have:=IZ hb hs;have:=aAH (s:=s) (k:=k) hs;simp only[qR];omega) rfl trivial<|Zh rfl<|Zab<|Zal<|Zah<|C.rg<|Zy rfl ?_;refine Za rfl<|Zab ?_;exact aG 18 (k+1) Yd Yd ⟨Yb,(by show some (Value.int _ _)=some (Value.int _ _);congr 2;rw[MC hb];push_cast;rw[Int.add_assoc]),aOJ⟩ rfl rfl (LE _) (aD)
 ·obtain rfl:k=s.size:=by omega
  rw[aKC (show s.data.toList.length≤s.size by simp)];refine aQ<|Zak<|Zak<|Zan<|Zah<|C.s1<|Za rfl<|wM rfl rfl rfl Yd Yd Yf rfl trivial<|Zh rfl<|L.n5 ?_;exact leave1 rfl rfl rfl rfl (fun D hD=>by show Value.int _ _=_;congr 1)
theorem KV(n:Nat)(hn:n≤1000000)(D:aA):Fn Tryz.prog 122 #[.int .i64 (n:Int)] D (fun _ v=>v=.agg (bc (mM n)).toArray):=by
 refine enter 18 Tryz.func122 rfl rfl rfl rfl fun h0=>C.s1<|Zx rfl Tf.z257 rfl (fun q1=>L.n4<|Za rfl<|L.n1<|Zaj<|cE (γ:=Nat) (fun k=>4-k) (fun k=>k≤4) (fun k=>[(4,.int .i64 (k:Int)),(0,.int .i64 ((n / 10^k:Nat):Int))]) [(2,_)] (fun k=>[(q1,.cells (aGQ n k).toArray 257 (0,0))]) (fun k=>[D]) 0 Yd ⟨Yb,(by show some (Value.int _ _)=some (Value.int _ _);congr 2;simp),aOJ⟩ ⟨rfl,aOJ⟩ (LE _) (aD) ?_)
 rintro k hI;refine C.s1<|Zae rfl<|L.n2<|aE rfl (fun hc1=>?_) (fun hc1=>?_)
 ·have hk:k<4:=by omega
  have hq:n / 10^k≤n:=Nat.div_le_self _ _;have hq0:(0:Int)≤((n / 10^k:Nat):Int):=Int.natCast_nonneg _;refine C.kn<|aM<|Zaj<|C.s1<|Za rfl<|Zh rfl<|L.n3<|Za rfl<|fX rfl rfl rfl Yf rfl trivial<|Za rfl<|wM rfl rfl rfl Yd Yd Yf rfl trivial<|Zy rfl ?_;refine xV rfl U3 U5 rfl Yf rfl trivial<|dH rfl U257 Tf.s5 rfl rfl Yd Yd rfl trivial<|aY (ws:=aGQ n (k+1)) rfl rfl rfl rfl Tf.s5 .head (by simp[aGQ]<;>omega) (UM hk) Yi trivial<|L.n1<|C.rg<|Za rfl<|VA rfl rfl rfl Yd Yd Yf rfl trivial<|Zh rfl<|Zab<|Zal<|Zah<|C.rg ?_;refine Zy rfl<|Za rfl<|Zab ?_;exact aG 17 (k+1) Yd Yd ⟨Yb,(by show some (Value.int _ _)=some (Value.int _ _);congr 2;rw[Nat.pow_succ,←Nat.div_div_eq_div_mul];rfl),aOJ⟩ rfl rfl (LE _) (aD)
 ·obtain rfl:k=4:=by omega
  refine aQ<|Zak<|Zak<|Zan<|Zah<|C.s1<|Zu rfl Tf.a257 rfl (List.Mem.head _) (by first|exact Tf.s257|(simp only[aH, *];exact Tf.s257))<|aW rfl rfl rfl rfl Tf.s257 Ya Ya (bM.head) (gO (mM n)) trivial<|L.n5 ?_;exact Zm [_] rfl ⟨⟨_,_,_,rfl,(List.Mem.head _),Or.inr ⟨Tf.a257,(by first|exact Tf.s257|(simp only[aKH,aH, *];exact Tf.s257)),rfl⟩⟩,aOJ⟩ (fun D hD=>rfl)
theorem yK(i:Nat)(s:ByteArray)(hi:i≤100000)(hs:s.size≤1000)(D:aA):Fn Tryz.prog 121 #[.int .i64 (i:Int),.string s] D (fun _ v=>v=.agg (bc (rT i s.data.toList)).toArray):=by
 refine enter 11 Tryz.func121 rfl rfl rfl rfl fun h0=>C.s1<|Zx rfl Tf.z259 rfl (fun q1=>L.n3<|xG (cs:=[.int .u8 59,.int .u8 59,.int .u8 10]) rfl U255 Tf.s5 Tf.z255 rfl rfl rfl trivial<|Za rfl<|Za rfl<|Zd rfl (fun D1 hD1=>VV i s hi hs _)<|Zd rfl (fun D2 hD2=>KV (iO i s.data.toList) (by have:=MR i s.data.toList;omega) _)<|gP (cs:=[.int .u8 59,.int .u8 59,.int .u8 10,.int .u8 ((lJ (iO i s.data.toList) 3).toNat:Int),.int .u8 ((lJ (iO i s.data.toList) 2).toNat:Int),.int .u8 ((lJ (iO i s.data.toList) 1).toNat:Int),.int .u8 ((lJ (iO i s.data.toList) 0).toNat:Int)]) rfl Tf.p259 Tf.z259 rfl Yg rfl trivial<|aW rfl rfl rfl rfl Tf.s259 Ya Ya (bM.head) (gO (rT i s.data.toList)) trivial<|L.n5 ?_)
 exact Zm [_] rfl ⟨⟨_,_,_,rfl,(GE _),aJE ⟨Tf.a259,(by first|exact Tf.s259|(simp only[aKH,aH, *];exact Tf.s259)),rfl⟩⟩,aOJ⟩ (fun D hD=>rfl)
end L12
end Go.Fs
namespace Go.Fs
variable{P:Program}{X:Cx}{γb:Type}[Membership Nat γb]{bad:γb}{all:Array Oper}{K:Act→World→Prop}{Q:Exit→Act→World→Prop}
variable{σ:bS}{μ:aC}{Ds:List aA}{os:List (Bool×Nat)}{fl:Bool}{ix:Nat}
variable{d:Nat}{x y z:Operand}{u v:Value}{ty:TypeId}{pos:String}{aft:Array Edge}{g:Option (Nat×Bool)}
def RU:Rd UInt8:=fun _ b cs=>cs=[.int .u8 b.toNat]
theorem RU.up:RU.Up:=fun _ _ _ h=>h
theorem aBK(l:List UInt8):l.flatMap (fun b:UInt8=>[Value.int .u8 b.toNat])=bc l:=by
 induction l with
 |nil=>rfl
 |cons b l ih=>rw[aKR,ih];rfl
theorem jE.bytes{D:aA}{l:List UInt8}(h:Sl D RU 1 v l):jE D v l.length (bc l):=by
 rw[←aBK];exact jE.of (R:=RU) (fun _ _ _ h=>h) (fun _=>rfl) h
theorem aFZ{l:List UInt8}{i:Nat}{b:UInt8}(h:l[i]?= some b):(bc l)[i]?= some (.int .u8 b.toNat):=by simp[bc,h]
theorem jN.bytes{D:aA}{n:Nat}{l:List UInt8}(h:jN D v n (bc l))(hn:l.length=n)(hb:n≤9223372036854775807):Sl D RU 1 v l:=
 h.sl hn hb fun i x hx=>⟨_,rfl,rfl,by
  have h1:=aFZ hx;rw[aLV,List.take_one,List.head?_drop,h1];rfl⟩
def rz(n:Nat):List Value:=List.replicate n (.int .u8 0)
theorem R6(a b:Nat):rz (a+b)=rz a++rz b:=by unfold rz;rw[List.replicate_append_replicate]
theorem vL(n:Nat):(rz n).length=n:=by simp[rz]
theorem SB(n:Nat):((Array.range (n*1)).map (#[Value.int .u8 0][· %(#[Value.int .u8 0]:Array Value).size]!)).toList=rz n:=by
 apply aOE;intro i;simp only[aNZ,Array.toList_range,aKA,rz,List.getElem?_replicate,aLV];by_cases hi:i<n
 ·rw[aNW hi,aJT hi];simp only[aKJ];congr 1;have:i%(#[Value.int .u8 0]:Array Value).size=0:=by simp[Nat.mod_one]
  rw[this];rfl
 ·rw[aMG Yaj,aJM hi];rfl
theorem OV{A B C us:List Value}{off:Nat}(h:off=A.length)(h2:us.length=B.length):(A++B++C).take off++us++(A++B++C).drop (off+us.length)=A++us++C:=by
 subst h;have e1:(A++B++C).take A.length=A:=by rw[aJL,aNL]
 have e2:(A++B++C).drop (A.length+us.length)=C:=by rw[h2,←aIX,List.drop_left]
 rw[e1,e2]
theorem IL{t e e' tr:TypeId}{bd od n cd m k:Nat}{xv:Value}{vs us ws:List Value}{μ':aC}{ats:Array TypeId}
  (ho:all[ix]?= some ⟨some d,.call {callee:=.builtin .copy,args:=#[x,y],argTypes:=ats},tr,pos,aft,g⟩) (ht:P.underlying t=some (.slice e)) (hat:ats[0]?= some t) (hs:TS P e 1) (hx:ev σ x=some (.slice (some ⟨bd,od,none⟩) n cd)) (hy:ev σ y=some xv)
  (hsrc:∀a w,Hl X σ μ Ds a w→(Builtin.lenOf xv).run P w=.ok m w∧(Builtin.firstCells 1 k xv).run P w=.ok us.toArray w) (hk:k=Nat.min m n)
  (hm:bM μ bd (.cells vs.toArray e' (0,0)) (.cells ws.toArray e' (0,0)) μ') (hl:od+us.length≤vs.length) (hw:vs.take od++us++vs.drop (od+us.length)=ws) (hc1:∀u∈us,cell1 u=true) (hfl:fl=false∨bd∈bad) (hN:Nat.blt d X.N=true) (hg:cT all σ g)
  (kk:WL P X bad all K Q os ((d,.int .i64 k)::σ) μ' Ds):WL P X bad all K Q ((fl,ix)::os) σ μ Ds:=by
 refine dI ho rfl rfl hg fun a w hh=>?_
 obtain⟨h1,h2,h3,D,h4,h5,h6⟩:=id hh;obtain⟨hlen,hfc⟩:=hsrc a w hh;obtain⟨w',hr,hw'⟩:=gE (P:=P) us 0 w bd od vs e' (h4.box _ hm.mem).1 Yd hc1;rw[Nat.add_zero,hw]at hw';have hcp:(Builtin.copy_ ats tr #[.slice (some ⟨bd,od,none⟩) n cd,xv]).run P w=.ok (.int .i64 k) w':=by
  have e1:(#[Value.slice (some ⟨bd,od,none⟩) n cd,xv]:Array Value)[0]?= some (.slice (some ⟨bd,od,none⟩) n cd):=rfl;have e2:(#[Value.slice (some ⟨bd,od,none⟩) n cd,xv]:Array Value)[1]?= some xv:=rfl;unfold Builtin.copy_;simp only[hat,e1,e2,Sem.run_bind,TU.of ht w,Result.andThen_ok,hlen,hs w,←hk,hfc,hr,Sem.run_pure,goInt]
 have hex:(execOp a.eval ⟨some d,.call {callee:=.builtin .copy,args:=#[x,y],argTypes:=ats},tr,pos,aft,g⟩).run P w=.ok (.value (.int .i64 k)) w':=by
  simp only[execOp,resolve,pure_bind,invoke,builtin];have e1:(#[x,y].map a.eval)=#[.slice (some ⟨bd,od,none⟩) n cd,xv]:=by simp[hh.eval hx,hh.eval hy]
  rw[e1,Sem.run_bind,hcp];rfl
 rw[hex];have hst:=h4.set hm hw' rfl;refine⟨fun hf=>⟨by rw[hw'.1];simp,fun c hc hcb=>?_⟩,kk _ _ (Hl.put ⟨h1,h2,h3,D,hst,h5,h6.step (fun _ p hp=>aJQ Yao) (fun _=>gM hw' (aIY.2 ⟨_,hm.mem,rfl⟩)) hst.dom⟩ hN _)⟩
 have hb:bd∈bad:=by
  rcases hfl with h|h
  ·rw[hf]at h;cases h
  ·exact h
 rw[hw'.1,aLQ (by rintro rfl;exact hcb hb)]
theorem NC{t e e' tr:TypeId}{bd od n cd:Nat}{s:ByteArray}{vs ws:List Value}{μ':aC}{ats:Array TypeId}
  (ho:all[ix]?= some ⟨some d,.call {callee:=.builtin .copy,args:=#[x,y],argTypes:=ats},tr,pos,aft,g⟩) (ht:P.underlying t=some (.slice e)) (hat:ats[0]?= some t) (hs:TS P e 1) (hx:ev σ x=some (.slice (some ⟨bd,od,none⟩) n cd)) (hy:ev σ y=some (.string s)) (hn:s.size≤n)
  (hm:bM μ bd (.cells vs.toArray e' (0,0)) (.cells ws.toArray e' (0,0)) μ') (hl:od+s.size≤vs.length) (hw:vs.take od++bc s.data.toList++vs.drop (od+(bc s.data.toList).length)=ws) (hfl:fl=false∨bd∈bad) (hN:Nat.blt d X.N=true) (hg:cT all σ g)
  (kk:WL P X bad all K Q os ((d,.int .i64 s.size)::σ) μ' Ds):WL P X bad all K Q ((fl,ix)::os) σ μ Ds:=
 IL (m:=s.size) (k:=s.size) (us:=bc s.data.toList) ho ht hat hs hx hy (fun a w _=>⟨rfl,Go.Lib.run_firstCells_string (P:=P) w 1 s⟩) (aNH hn).symm hm (by rw[iD];exact hl) hw (gO _) hfl hN hg kk
theorem Y2{t e e' e2 tr:TypeId}{bd od n cd bs os' m cs:Nat}{vs us ws xs:List Value}{μ':aC}{ats:Array TypeId}
  (ho:all[ix]?= some ⟨some d,.call {callee:=.builtin .copy,args:=#[x,y],argTypes:=ats},tr,pos,aft,g⟩) (ht:P.underlying t=some (.slice e)) (hat:ats[0]?= some t) (hs:TS P e 1) (hx:ev σ x=some (.slice (some ⟨bd,od,none⟩) n cd)) (hy:ev σ y=some (.slice (some ⟨bs,os',none⟩) m cs)) (hn:m≤n)
  (hsm:(bs,.cells xs.toArray e2 (0,0))∈μ) (hus:(xs.drop os').take m=us) (hul:us.length=m)
  (hm:bM μ bd (.cells vs.toArray e' (0,0)) (.cells ws.toArray e' (0,0)) μ') (hl:od+m≤vs.length) (hw:vs.take od++us++vs.drop (od+us.length)=ws) (hc1:∀u∈us,cell1 u=true) (hfl:fl=false∨bd∈bad) (hN:Nat.blt d X.N=true) (hg:cT all σ g)
  (kk:WL P X bad all K Q os ((d,.int .i64 m)::σ) μ' Ds):WL P X bad all K Q ((fl,ix)::os) σ μ Ds:=
 IL (m:=m) (k:=m) (us:=us) ho ht hat hs hx hy (fun a w hh=>⟨rfl,by
  simp only[Builtin.firstCells];have hbx:w.heap[bs]?= some (.cells xs.toArray e2 (0,0)):=by
   obtain⟨_,_,_,D,h4,_⟩:=hh;exact(h4.box _ hsm).1
  refine iM (by rw[aLV];exact hul) fun j u hj=>lH (cs:=xs.toArray) hbx ?_
  have hjl:=(aJK.1 hj).1;rw[←hus,aMD Yd,aLM]at hj;simpa using hj⟩) (aNH hn).symm hm Yd hw hc1 hfl hN hg kk

theorem NE{t e:TypeId}{n b o l:Nat}{k1:IntKind}{i:Int}(ho:all[ix]?= some ⟨some d,.slice t x (some y) none none,ty,pos,aft,g⟩)(ht:P.underlying t=some (.array n e))(hs:TS P e 1)(hx:ev σ x=some (.pointer (some ⟨b,o,none⟩)))
  (hy:ev σ y=some (.int k1 i)) (hi:i=(l:Int)) (h3:l<n)
  (hN:Nat.blt d X.N=true) (hg:cT all σ g) (kk:WL P X bad all K Q os ((d,.slice (some ⟨b,o+l,none⟩) (n-l) (n-l))::σ) μ Ds):WL P X bad all K Q ((fl,ix)::os) σ μ Ds:=by
 subst hi;refine bG ho rfl rfl hN hg (fun ρ hρ w'=>?_) kk;simp only[execOp,hρ x _ hx,hρ y _ hy,aLF,aKJ];unfold Instr.sliceAt Instr.sureAddr Instr.sliceBounds Instr.sliceBound asIntOf;have a1:(0:Int)≤(l:Int)∧(l:Int)≤(n:Nat):=by omega
 simp only[Sem.run_bind,TU.of ht w',Result.andThen_ok,hs w',Sem.run_pure,pure_bind,a1,aNM,aLH,aKT,aLV];rw[aJM Yd];simp[Addr.add]
theorem PR{t e:TypeId}{n b o:Nat}(ho:all[ix]?= some ⟨some d,.slice t x none none none,ty,pos,aft,g⟩)(ht:P.underlying t=some (.array n e))(hs:TS P e 1)(hx:ev σ x=some (.pointer (some ⟨b,o,none⟩)))(h3:Nat.beq n 0=false)
  (hN:Nat.blt d X.N=true) (hg:cT all σ g) (kk:WL P X bad all K Q os ((d,.slice (some ⟨b,o,none⟩) n n)::σ) μ Ds):WL P X bad all K Q ((fl,ix)::os) σ μ Ds:=by
 have h3':¬n=0:=fun h=>by subst h;cases h3
 refine bG ho rfl rfl hN hg (fun ρ hρ w'=>?_) kk;simp only[execOp,hρ x _ hx,aLF];unfold Instr.sliceAt Instr.sureAddr Instr.sliceBounds;simp only[Sem.run_bind,TU.of ht w',Result.andThen_ok,hs w',Sem.run_pure,pure_bind,aLV];simp[h3',Addr.add]
theorem UN{t e:TypeId}{b o j n cap:Nat}{k:IntKind}(ho:all[ix]?= some ⟨some d,.slice t x (some y) none none,ty,pos,aft,g⟩)(ht:P.underlying t=some (.slice e))(hs:TS P e 1)(hx:ev σ x=some (.slice (some ⟨b,o,none⟩) n cap))(hy:ev σ y=some (.int k (j:Int)))(hj:j≤n)(hc:j<cap)
  (hN:Nat.blt d X.N=true) (hg:cT all σ g) (kk:WL P X bad all K Q os ((d,.slice (some ⟨b,o+j,none⟩) (n-j) (cap-j))::σ) μ Ds):WL P X bad all K Q ((fl,ix)::os) σ μ Ds:=by
 have ha:(if cap=j then some (⟨b,o,none⟩:Addr)else(some (⟨b,o,none⟩:Addr)).map (·.add (j*1)))=some ⟨b,o+j,none⟩:=by
  rw[aJM Yd];simp[dW]
 refine bG ho rfl rfl hN hg (fun ρ hρ w'=>?_) kk;simp only[execOp,aLF,aKJ,hρ x _ hx,hρ y _ hy];unfold Instr.sliceAt Instr.slice Instr.sliceBounds Instr.sliceBound asIntOf;have hle:(0:Int)≤(j:Int)∧(j:Int)≤(n:Nat):=by omega
 simp only[Sem.run_bind,TU.of ht w',Result.andThen_ok,Sem.run_pure,pure_bind,hs w',hle,aNM,aLH,aKT,ha]
theorem Sl.part{α:Type}{R:Rd α}{D:aA}{ad:Option Addr}{n cap i j:Nat}{xs:List α}(h:Sl D R 1 (.slice ad n cap) xs)(h1:i≤j)(h2:j≤n):Sl D R 1 (.slice (if cap=i then ad else ad.map (·.add (i*1))) (j-i) (cap-i)) ((xs.drop i).take (j-i)):=by
 obtain⟨a,c,hv,k1,k2,k3⟩:=h;cases hv;have hlen:((xs.drop i).take (j-i)).length=j-i:=by simp;omega
 refine⟨_,_,by rw[hlen],by omega,by omega,?_⟩;by_cases he:j=i
 ·exact aJQ (aMF.1 Yd)
 ·rcases k3 with k3|⟨b,o,rfl,k3⟩
  ·subst k3;simp at h2;omega
  ·refine aJE ⟨b,o+i,by rw[aJM Yd];simp[dW],fun q z hq=>?_⟩;rw[List.getElem?_take]at hq;split at hq
   ·rw[aLM]at hq;obtain⟨cs,hr,hc,hA⟩:=k3 _ _ hq;exact⟨cs,hr,hc,by rw[show o+i+q*1=o+(i+q)*1 by omega];exact hA⟩
   ·cases hq
theorem DB{α:Type}{R:Rd α}{t e:TypeId}{D₁:aA}{ad:Option Addr}{n cap i j:Nat}{k1 k2:IntKind}{xs:List α}(ho:all[ix]?= some ⟨some d,.slice t x (some y) (some z) none,ty,pos,aft,g⟩)(ht:P.underlying t=some (.slice e))(hs:TS P e 1)(hx:ev σ x=some (.slice ad n cap))(hS:Sl D₁ R 1 (.slice ad n cap) xs)
  (hy:ev σ y=some (.int k1 (i:Int))) (hz:ev σ z=some (.int k2 (j:Int))) (h1:i≤j) (h2:j≤n)
  (hN:Nat.blt d X.N=true) (hg:cT all σ g) (kk:∀a',Sl D₁ R 1 (.slice a' (j-i) (cap-i)) ((xs.drop i).take (j-i))→WL P X bad all K Q os ((d,.slice a' (j-i) (cap-i))::σ) μ Ds):WL P X bad all K Q ((fl,ix)::os) σ μ Ds:=by
 have hnc:n≤cap:=by obtain⟨a,c,hv,k1,k2,k3⟩:=hS;cases hv;exact k1
 refine bG (v:=.slice (if cap=i then ad else ad.map (·.add (i*1))) (j-i) (cap-i)) ho rfl rfl hN hg (fun ρ hρ w'=>?_) (kk _ (hS.part h1 h2));simp only[execOp,aLF,aKJ,hρ x _ hx,hρ y _ hy,hρ z _ hz];unfold Instr.sliceAt Instr.slice Instr.sliceBounds Instr.sliceBound asIntOf;have a1:(0:Int)≤(i:Int)∧(i:Int)≤(j:Nat):=by omega
 have a2:(0:Int)≤(j:Int)∧(j:Int)≤(cap:Nat):=by omega
 simp only[Sem.run_bind,TU.of ht w',Result.andThen_ok,Sem.run_pure,pure_bind,hs w',a1,a2,aNM,aLH,aKT]
theorem P7{α:Type}{R:Rd α}{t e:TypeId}{D₁:aA}{ad:Option Addr}{n cap j:Nat}{k2:IntKind}{xs:List α}(ho:all[ix]?= some ⟨some d,.slice t x none (some z) none,ty,pos,aft,g⟩)(ht:P.underlying t=some (.slice e))(hs:TS P e 1)(hx:ev σ x=some (.slice ad n cap))(hS:Sl D₁ R 1 (.slice ad n cap) xs)
  (hz:ev σ z=some (.int k2 (j:Int))) (h2:j≤n)
  (hN:Nat.blt d X.N=true) (hg:cT all σ g) (kk:∀a',Sl D₁ R 1 (.slice a' j cap) (xs.take j)→WL P X bad all K Q os ((d,.slice a' j cap)::σ) μ Ds):WL P X bad all K Q ((fl,ix)::os) σ μ Ds:=by
 have hnc:n≤cap:=by obtain⟨a,c,hv,k1,k2,k3⟩:=hS;cases hv;exact k1
 have hp:=hS.part (aMX j) h2;rw[aMS,aML,aML]at hp;refine bG (v:=.slice (if cap=0 then ad else ad.map (·.add (0*1))) j cap) ho rfl rfl hN hg (fun ρ hρ w'=>?_) (kk _ hp);simp only[execOp,aLF,aKJ,hρ x _ hx,hρ z _ hz];unfold Instr.sliceAt Instr.slice Instr.sliceBounds Instr.sliceBound asIntOf;have a2:(0:Int)≤(j:Int)∧(j:Int)≤(cap:Nat):=by omega
 simp only[Sem.run_bind,TU.of ht w',Result.andThen_ok,Sem.run_pure,pure_bind,hs w',a2,aNM,aLH,aKT,aML]

theorem jJ{t1 t2 e:TypeId}{D₁:aA}{l:List UInt8}(ho:all[ix]?= some ⟨some d,.convert t1 t2 x,ty,pos,aft,g⟩)(h1:P.underlying t1=some (.slice e))(he:P.underlying e=some (.int .u8))(h2:P.underlying t2=some .string)(hx:ev σ x=some v)(hS:Sl D₁ RU 1 v l)(hD:D₁∈Ds)
  (hbad:∀b o c,v=.slice (some ⟨b,o,none⟩) l.length c→l≠[]→b∉bad) (hN:Nat.blt d X.N=true) (hg:cT all σ g) (kk:WL P X bad all K Q os ((d,.string ⟨l.toArray⟩)::σ) μ Ds):WL P X bad all K Q ((fl,ix)::os) σ μ Ds:=
 jL ho rfl rfl hN hg (fun a w hh w' hk=>by
  have key:(Go.convert t1 t2 v).run P w'=.ok (.string ⟨l.toArray⟩) w':=by
   obtain⟨ad,cap,rfl,k1,k2,k3⟩:=hS;rcases k3 with k3|⟨b,o,rfl,k3⟩
   ·subst k3;cases ad with
    |none=>exact Go.run_convert_bytes_nil w' t1 e h1 he _ cap t2 h2
    |some ad=>exact Go.run_convert_bytes_back w' t1 t2 e ad cap [] h1 he h2 (fun j hj=>by cases hj)
   ·refine Go.run_convert_bytes_back w' t1 t2 e ⟨b,o,none⟩ cap l h1 he h2 (fun j hj=>?_);obtain⟨cs,hr,hc,hA⟩:=k3 j l[j] (aJC hj);obtain rfl:cs=[.int .u8 l[j].toNat]:=hr;have hb:b∉bad:=hbad b o cap rfl (fun h=>by subst h;cases hj)
    rw[dW];have:=hh.dataAt hD (hA 0 _ rfl) hb hk;simpa using this
  simp only[execOp,hh.eval hx];rw[Sem.run_bind,key];rfl) kk
end Go.Fs
namespace Go.Fs
open Go.Proofs
namespace L12
open C12 Go.Lib
theorem G1(s:ByteArray):s.data.toList.length=s.size:=rfl
def bD(ls:List ByteArray):List (List UInt8):=ls.map fun x=>x.data.toList
theorem P4{ls:List ByteArray}{k:Nat}{x:ByteArray}(h:ls[k]?= some x):(bD ls)[k]?= some x.data.toList:=by unfold bD;rw[aKA,h];rfl
theorem T9{ls:List ByteArray}(k:Nat)(hn:ls.length≤1000)(hsz:∀l∈ls,l.size≤1000):(fM ((bD ls).take k)).length≤1009000:=by
 have h:=qY ((bD ls).take k) 0 1000 (fun l hl=>by
  obtain⟨x,hx,rfl⟩:=aIY.1 (aNO hl);exact hsz x hx)
 have h2:((bD ls).take k).length≤1000:=by rw[aKL];unfold bD;rw[aLA];omega
 have h3:(9+1000)*((bD ls).take k).length≤1009*1000:=Nat.mul_le_mul_left _ h2;unfold fM;omega
section
variable{P:Program}{X:Cx}{γb:Type}[Membership Nat γb]{bad:γb}{all:Array Oper}{K:Act→World→Prop}{Q:Exit→Act→World→Prop}{σ:bS}{μ:aC}{Ds:List aA}{os:List (Bool×Nat)}
theorem vV{b:Nat}{e:TypeId}{fz:Nat×Nat}{cs cs':List Value}(h:cs=cs')(k:WL P X bad all K Q os σ ((b,.cells cs'.toArray e fz)::μ) Ds):WL P X bad all K Q os σ ((b,.cells cs.toArray e fz)::μ) Ds:=h▸k
end
theorem QF(i:Nat)(s:ByteArray)(hi:i≤100000)(hs:s.size≤1000)(D:aA):Fn Tryz.prog 66 #[.int .i64 (i:Int),.string s] D (fun D' v=>Sl D' RU 1 v (eZ i s.data.toList)):=by
 refine enter 53 Tryz.func66 rfl rfl rfl rfl fun h0=>C.s1<|Zh rfl<|L.n3<|Za rfl<|Za rfl<|Zd rfl (fun D1 hD1=>yK i s hi hs _)<|Za rfl<|gF rfl U9 rfl rfl rfl trivial<|Zd rfl (fun D2 hD2=>KV s.size Yd _)<|Zx rfl Tf.z259 rfl (fun q1=>Zx rfl Tf.z257 rfl (fun q2=>?_));refine aW rfl rfl rfl rfl Tf.s259 Ya Ya (.tail (bM.head)) (gO (rT i s.data.toList)) trivial<|aW rfl rfl rfl rfl Tf.s257 Ya Ya (bM.head) (gO (mM s.size)) trivial<|L.n3<|Za rfl<|gF rfl U9 rfl rfl rfl trivial<|Zy rfl<|Zy rfl<|aN (n:=s.size+9) rfl U51 Tf.s5 Tf.z5 rfl Tf.i5 Yb Yb Yd (SB _) rfl aOJ (fun bo=>vV (cs':=[]++rz 2++rz (s.size+7)) (by first|(rw[aKF,←R6];done)|(rw[aKF,←R6];congr 1;omega))<|Zh rfl<|L.n3<|Za rfl ?_);refine NE (l:=2) rfl U257 Tf.s5 rfl rfl rfl Yd rfl trivial<|Y2 (us:=bc [lJ s.size 1,lJ s.size 0]) rfl U51 rfl Tf.s5 rfl rfl Yd (LT _ (GE _)) rfl rfl .head (by simp[vL]<;>omega) (OV rfl rfl) (gO _) (aJQ rfl) rfl trivial<|vV (cs':=bc [lJ s.size 1,lJ s.size 0]++rz 1++rz (s.size+6)) (by first|(rw[aKF,aJL,←R6];done)|(rw[aKF,aJL,←R6];congr 2;omega))<|L.n3<|Za rfl<|Zi rfl Tf.f259_0 rfl<|dH rfl U255 Tf.s5 rfl rfl Yd Yd rfl trivial<|Zl rfl Tf.a5 rfl (List.Mem.tail _ (List.Mem.tail _ (List.Mem.head _))) rfl<|fD rfl U51 Tf.s5 rfl rfl Yd Yd rfl trivial<|aY (ws:=bc [lJ s.size 1,lJ s.size 0]++bc [59]++rz (s.size+6)) rfl rfl rfl rfl Tf.s5 .head (by simp[iD,vL]<;>omega) (OV (by simp[iD]<;>omega) rfl) (gO [59]) trivial<|vV (cs':=bc [lJ s.size 1,lJ s.size 0,59]++rz s.size++rz 6) (by rw[R6,←aJL];rfl)<|L.n3 ?_;refine Za rfl<|UN (j:=3) rfl U51 Tf.s5 rfl rfl Yd Yd rfl trivial<|Za rfl<|NC (ws:=bc [lJ s.size 1,lJ s.size 0,59]++bc s.data.toList++rz 6) rfl U51 rfl Tf.s5 rfl rfl Yd .head (by simp[iD,vL]<;>omega) (OV rfl (by rw[iD,vL];rfl)) (aJQ rfl) rfl trivial<|vV (cs':=(bc [lJ s.size 1,lJ s.size 0,59]++bc s.data.toList)++rz 1++rz 5) (by rw[aJL _ (rz 1)];rfl)<|L.n3<|Za rfl<|Za rfl<|gF rfl U9 rfl rfl rfl trivial<|Zy rfl<|UN (j:=3+s.size) rfl U51 Tf.s5 rfl Yb Yd Yd rfl trivial<|Zh rfl ?_;refine L.n3<|Za rfl<|Zi rfl Tf.f259_0 rfl<|dH rfl U255 Tf.s5 rfl rfl Yd Yd rfl trivial<|Zl rfl Tf.a5 rfl (List.Mem.tail _ (List.Mem.tail _ (List.Mem.head _))) rfl<|fD rfl U51 Tf.s5 rfl rfl Yd Yd rfl trivial<|aY (ws:=(bc [lJ s.size 1,lJ s.size 0,59]++bc s.data.toList)++bc [59]++rz 5) rfl rfl rfl rfl Tf.s5 .head (by simp[iD,vL]<;>omega) (OV (by simp[iD]<;>omega) rfl) (gO [59]) trivial<|vV (cs':=(bc [lJ s.size 1,lJ s.size 0,59]++bc s.data.toList++bc [59])++rz 4++rz 1) (by rw[aJL _ (rz 4)];rfl)<|L.n2<|C.drawA [] 2 5 12 (fun _ _ _ h=>cA (P:=Tryz.prog) (fn:=Tryz.f66) _ _ _ h)<|Za rfl<|UN (j:=1) rfl U51 Tf.s5 rfl rfl Yd Yd rfl aOJ ?_;refine Zi rfl Tf.f259_1 rfl<|PR rfl U257 Tf.s5 rfl rfl rfl trivial<|Y2 (us:=bc (mM (iO i s.data.toList))) (ws:=(bc [lJ s.size 1,lJ s.size 0,59]++bc s.data.toList++bc [59])++bc (mM (iO i s.data.toList))++rz 1) rfl U51 rfl Tf.s5 rfl rfl Yd (LT _ (LT _ (GE _))) rfl rfl .head (by simp[iD,vL]<;>omega) (OV (by simp[iD]<;>omega) rfl) (gO _) (aJQ rfl) rfl trivial<|vV (cs':=(bc [lJ s.size 1,lJ s.size 0,59]++bc s.data.toList++bc [59]++bc (mM (iO i s.data.toList)))++rz 1++[]) (by rw[aJF])<|L.n3<|Za rfl<|Zi rfl Tf.f259_0 rfl<|dH rfl U255 Tf.s5 rfl rfl Yd Yd rfl trivial<|Zl rfl Tf.a5 rfl (List.Mem.tail _ (List.Mem.tail _ (List.Mem.head _))) rfl<|fD rfl U51 Tf.s5 rfl rfl Yd Yd rfl trivial<|aY (ws:=(bc [lJ s.size 1,lJ s.size 0,59]++bc s.data.toList++bc [59]++bc (mM (iO i s.data.toList)))++bc [10]++[]) rfl rfl rfl rfl Tf.s5 .head (by simp[iD,vL,mM]<;>omega) (OV (by simp[iD,mM]<;>omega) rfl) (gO [10]) trivial<|vV (cs':=bc (eZ i s.data.toList)) (by rw[aJF,←nK,←nK,←nK,←nK];rfl) ?_;refine L.n3<|Za rfl<|Zh rfl<|L.n5 ?_
 have ha:bL 5 1 (.slice (some ⟨bo,0,none⟩) (s.size+9) (s.size+9)) (s.size+9) (bc (eZ i s.data.toList)) [(bo,.cells (bc (eZ i s.data.toList)).toArray 5 (0,0))]:=aJE ⟨bo,s.size+9,[],rfl,aJU _,by rw[aJF],by rw[iD,fY,G1];omega,by rw[aJF,iD,fY,G1];omega⟩;refine eK (A:=[]) (B:=[(_,_),(_,_)]) ha rfl (fun D9 hD9 hF9=>?_);exact leave1 rfl rfl rfl rfl (fun D hD=>(hF9.bytes (by rw[fY,G1];omega) Yd).up RU.up (hD _ Ye))
theorem JE(lv:Value)(ls:List ByteArray)(D:aA)(hS:Sl D RS 1 lv ls)(hn:ls.length≤1000)(hsz:∀l∈ls,l.size≤1000):Fn Tryz.prog 37 #[lv] D (fun D' v=>Sl D' RU 1 v (fM (bD ls))):=by
 have hfl:=fun k=>T9 (ls:=ls) k hn hsz
 refine enter 19 Tryz.func37 rfl rfl rfl rfl fun h0=>C.s1<|Zh rfl<|L.n4<|Za rfl<|aR rfl U22 rfl Yk rfl rfl trivial<|Za rfl<|L.n1<|Zaj<|cE (γ:=Nat×Value×aC) (fun g=>ls.length-g.1) (fun g=>g.1≤ls.length∧bL 5 1 g.2.1 (fM ((bD ls).take g.1)).length (bc (fM ((bD ls).take g.1))) g.2.2) (fun g=>[(7,.int .i64 (g.1:Int)),(2,g.2.1)]) [(6,_),(5,_)] (fun g=>g.2.2++[]) (fun g=>[D]) (0,.slice none 0 0,[]) ⟨by simp,by simpa [fM,fC,bc]using bL.nil⟩ ⟨Yb,Yb,aOJ⟩ C.rs (LE _) (aD) ?_
 rintro⟨k,v,ν⟩ ⟨h1,ha⟩;simp only at h1 ha;have hflk:=hfl k;refine C.s1<|Zae rfl<|L.n2<|aE rfl (fun hc1=>?_) (fun hc1=>?_)
 ·simp only at hc1;have hlt:k<ls.length:=by omega
  obtain⟨x,hx⟩:=C.ge ls k;have hxs:=hsz x (aJA hx);refine C.kn<|aM<|Zaj<|C.s1<|Za rfl<|Zs rfl U22 Tf.s9 rfl hS rfl hx (fun b1 o1 cs1 hr1 hcl1 hA1=>?_);obtain rfl:cs1=[.string _]:=hr1;refine Zf 0 rfl Tf.a9 rfl hA1 rfl<|Zh rfl<|Zh rfl<|L.n1<|C.rg<|Za rfl<|Za rfl<|Za rfl<|Zt rfl (fun D1 hD1=>QF k x Yd (hsz x (aJA hx)) _) (fun v1 D1 hD1 hp1=>aU (A:=[]) (B:=[]) rfl U51 rfl rfl Tf.s5 Tf.z5 rfl Tf.i5 rfl rfl rfl ha (jE.bytes hp1) Ye (by rw[iD,aLV]) (by rw[iD,aLV]) (gO _) (by rw[fY,G1];omega) (aJQ rfl) rfl aOJ (fun v1 ν1 ha1=>?_))
  have ha2:bL 5 1 v1 (fM ((bD ls).take (k+1))).length (bc (fM ((bD ls).take (k+1)))) ν1:=by rw[GI (P4 hx),aIX,nK];exact ha1
  refine aF (ν1++[]) rfl<|Zh rfl<|Zab<|Zal<|Zah<|C.rg<|Zy rfl<|Za rfl<|Zab ?_;exact aG 16 (k+1,v1,ν1) ⟨by simp only;omega,ha2⟩ Yl ⟨Yb,Yb,aOJ⟩ rfl rfl (LE _) (fun D h=>⟨D,LT _ (h),Le.refl D⟩)
 ·obtain rfl:k=ls.length:=by simp only at hc1;omega
  rw[show(bD ls).take ls.length=(bD ls)from aKC (by simp[bD])]at ha hflk;refine aQ<|Zak<|Zak<|Zan<|Zah<|C.s1<|Za rfl<|Zh rfl<|L.n5<|eK (A:=[]) (B:=[]) ha rfl (fun D9 hD9 hF9=>?_);exact leave1 rfl rfl rfl rfl (fun D hD=>(hF9.bytes rfl Yd).up RU.up (hD _ Ye))
theorem AP(lv:Value)(ls:List ByteArray)(D:aA)(hS:Sl D RS 1 lv ls):Fn Tryz.prog 14 #[lv] D (fun D' v=>∃v1,v=.tuple #[v1,.int .i64 (cK ls)]∧Sl D' RU 1 v1 (if cK ls=0 then fM (bD ls)else [])):=by
 refine enter 12 Tryz.func14 rfl rfl rfl rfl fun h0=>C.s1<|Zh rfl<|Zh rfl<|L.n4<|Za rfl<|Zd rfl (fun D1 hD1=>oB _ ls _ (hS.up RS.up (hD1 _ Ye)))<|Zh rfl<|L.n3<|Za rfl<|dZ rfl rfl rfl rfl trivial<|L.n1 ?_;refine aE rfl (fun hc1=>?_) (fun hc1=>?_)
 ·have hf:cK ls≠0:=by simpa using hc1
  refine C.s1<|Za rfl<|Zh rfl<|Zh rfl<|L.n5<|Zai ?_;exact Zm [_,_] rfl C.rs (fun D hD=>⟨_,rfl,by rw[aJM hf];exact Sl.nil⟩)
 ·have hf:cK ls=0:=by simpa using hc1
  refine C.kn<|C.s1<|Za rfl<|Zt rfl (fun D2 hD2=>JE _ ls _ (hS.up RS.up (hD2 _ Ye)) (by have:=fL hf;omega) (fun l hl=>by have:=mL hf l hl;omega)) (fun v2 D2 hD2 hp2=>Zh rfl<|Zh rfl<|L.n5 ?_);exact Zm [_,_] rfl C.rs (fun D hD=>⟨_,by rw[hf];rfl,by rw[aJT hf];exact hp2.up RU.up (hD _ Ye)⟩)
end L12
end Go.Fs
namespace Go.Fs
variable{P:Program}{X:Cx}{γb:Type}[Membership Nat γb]{bad:γb}{all:Array Oper}{K:Act→World→Prop}{Q:Exit→Act→World→Prop}
variable{σ:bS}{μ:aC}{Ds:List aA}{os:List (Bool×Nat)}{fl:Bool}{ix:Nat}
variable{d:Nat}{x y z:Operand}{u v:Value}{ty:TypeId}{pos:String}{aft:Array Edge}{g:Option (Nat×Bool)}
def gV(l:List Int):List Value:=l.map (.int .u8)
theorem b6{l:List Int}{k:Nat}{n:Int}(h:l[k]?= some n):(gV l)[k]?= some (.int .u8 n):=by simp[gV,h]
theorem oT(dp:Nat){e:TypeId}(hu:P.underlying e=some (.int .u8))(l m:List Int)(w:World):∀(is:List Nat),(∀i∈is,i<l.length∧i<m.length)→
  (Op.eqItems (dp+1) e 1 (gV l).toArray (gV m).toArray is).run P w=.ok (is.all fun i=>l[i]? ==m[i]?) w
 | [],_=>by simp[Op.eqItems,Sem.run_pure]
 |i::is,h=>by
  obtain⟨h1,h2⟩:=h i aJH;have g1:(gV l).toArray[i*1]?= some (.int .u8 l[i]):=by rw[aLV];simpa using b6 (aJC h1)
  have g2:(gV m).toArray[i*1]?= some (.int .u8 m[i]):=by rw[aLV];simpa using b6 (aJC h2)
  simp only[Op.eqItems,Sem.run_bind,dD hu g1,dD hu g2,run_equalIn_int w dp e .u8 .u8 _ _ hu,Result.andThen_ok,List.all_cons,aJC h1,aJC h2];by_cases he:l[i]=m[i]
  ·simp[he,oT dp hu l m w is (fun j hj=>h j (aJB _ hj))]
  ·simp[he,Sem.run_pure]
structure J6(P:Program)(f:Field)(o n:Nat):Prop where
 name:f.name≠ "_"
 eqp:∀(l m:List Int) w,o+n≤l.length→o+n≤m.length→∃u v,(part f.type (gV l).toArray f.offset).run P w=.ok u w∧(part f.type (gV m).toArray f.offset).run P w=.ok v w∧(Op.equalIn 9999 f.type u v).run P w=.ok ((l.drop o).take n==(m.drop o).take n) w
inductive vP(P:Program):Nat→Nat→List Field→Prop
 |nil {o}:vP P o o []
 |cons {o n e f fs} (h:J6 P f o n) (r:vP P (o+n) e fs):vP P o e (f::fs)
theorem vP.le{o e:Nat}{fs:List Field}(h:vP P o e fs):o≤e:=by
 induction h with
 |nil=>exact aJU _
 |cons _ _ ih=>omega
theorem R5(l m:List Int)(o n:Nat):(l.drop o==m.drop o)=(((l.drop o).take n==(m.drop o).take n)&&(l.drop (o+n)==m.drop (o+n))):=by
 rw[aMN];simp only[aNR,aJI];constructor
 ·intro h;exact⟨by rw[h],by rw[←aMZ,←aMZ,h]⟩
 ·rintro⟨h1,h2⟩;rw[←aLD n (l.drop o),←aLD n (m.drop o),h1,aMZ,aMZ,h2]
theorem T8(l m:List Int)(w:World){o e:Nat}{fs:List Field}(h:vP P o e fs)(hl:l.length=e)(hm:m.length=e):(Op.eqFields 9999 (gV l).toArray (gV m).toArray fs).run P w=.ok (l.drop o==m.drop o) w:=by
 induction h with
 |nil=>
  rw[aKK Yd,aKK Yd];rfl
 | @cons o n e f fs h r ih=>
  have hle:=r.le;obtain⟨u,v,h1,h2,h3⟩:=h.eqp l m w Yd Yd;rw[Op.eqFields,aJT h.name];simp only[Sem.run_bind,h1,h2,Result.andThen_ok];rw[h3,R5 l m o n];simp only[Result.andThen_ok];cases hx:(l.drop o).take n==(m.drop o).take n with
  |true=>
   simp only[aOF,aKI,aLR,aNA];exact ih hl hm
  |false=>simp only[aOA,aLH,Sem.run_pure,Bool.false_and]
theorem A0{t:TypeId}{n o:Nat}(ha:TA P t true)(hs:TS P t n){l:List Int}(_hl:o+n≤l.length)(w:World):(part t (gV l).toArray o).run P w=.ok (.agg (gV ((l.drop o).take n)).toArray) w:=by
 unfold part;simp only[Sem.run_bind,ha w,Result.andThen_ok,aLH,hs w,Sem.run_pure];congr 2;apply Array.ext';simp only[Array.toList_extract,List.extract_eq_take_drop,gV,List.map_drop,List.map_take];congr 1;omega
theorem J6.arr{f:Field}{o n:Nat}{e:TypeId}(hn:f.name≠ "_")(ho:f.offset=o)(ht:P.underlying f.type=some (.array n e))(he:P.underlying e=some (.int .u8))(hc:P.cellsOf e=1)(ha:TA P f.type true)(hs:TS P f.type n):J6 P f o n:=by
 refine⟨hn,fun l m w hl hm=>⟨_,_,by rw[ho];exact A0 ha hs hl w,by rw[ho];exact A0 ha hs hm w,?_⟩⟩;obtain⟨i,hi⟩:=info_of_underlying he;have h:=run_equalIn_array (P:=P) w 9998 (gV ((l.drop o).take n)).toArray (gV ((m.drop o).take n)).toArray ht hi;have e1:((l.drop o).take n).length=n:=by rw[aKL,aLB];omega
 have e2:((m.drop o).take n).length=n:=by rw[aKL,aLB];omega
 rw[hc,oT 9997 he _ _ w (List.range n) (fun j hj=>by have:=aMJ.1 hj;omega),nG e1 e2]at h;exact h
def aIS(P:Program)(t:TypeId)(n:Nat):Prop:=P.underlying t=some (.struct (P.fieldsOf t))∧P.stoodInHeld t=false∧P.eqGuardType P.depth t=false∧vP P 0 n (P.fieldsOf t).toList
theorem j4{t:TypeId}{n:Nat}(h:aIS P t n){l m:List Int}(hl:l.length=n)(hm:m.length=n)(w:World):(Op.equal t (.agg (gV l).toArray) (.agg (gV m).toArray)).run P w=.ok (l==m) w:=by
 have he:=run_equalIn_struct (P:=P) w 9999 t (gV l).toArray (gV m).toArray h.1 h.2.1;show(Op.equalIn (9999+1) t (.agg (gV l).toArray) (.agg (gV m).toArray)).run P w=_;rw[he,T8 l m w h.2.2.2 hl hm];simp
theorem HU{t t':TypeId}{n:Nat}{l m:List Int}(ho:all[ix]?= some ⟨some d,.binOp .eql t x y t',ty,pos,aft,g⟩)(ht:aIS P t n)(hl:l.length=n)(hm:m.length=n)(hx:ev σ x=some (.agg (gV l).toArray))(hy:ev σ y=some (.agg (gV m).toArray))(hN:Nat.blt d X.N=true)(hg:cT all σ g)
  (kk:WL P X bad all K Q os ((d,.bool (l==m))::σ) μ Ds):WL P X bad all K Q ((fl,ix)::os) σ μ Ds:=
 tM ho (fun w=>by
  have hgd:(eqGuard .eql t x y (.agg (gV l).toArray) (.agg (gV m).toArray)).run P w=.ok () w:=by
   simp only[eqGuard,program];simp[Sem.run,ht.2.2.1,go_sem]
  rw[Sem.run_bind,hgd];show((do Pure.pure (Value.bool (←Op.equal t (.agg (gV l).toArray) (.agg (gV m).toArray)))):Sem Value).run P w=_;rw[Sem.run_bind,j4 ht hl hm];rfl) hx hy hN hg kk
def xF(l:List UInt8):List Int:=l.map fun b=>(b.toNat:Int)
theorem uJ{l m:List UInt8}:(xF l==xF m)=decide (l=m):=by
 rw[aMN];simp only[aNR,aJV];constructor
 ·intro h;have:(xF l).map (fun n:Int=>UInt8.ofNat n.toNat)=(xF m).map (fun n:Int=>UInt8.ofNat n.toNat):=by rw[h]
  simpa [xF,Function.comp_def]using this
 ·rintro rfl;rfl
end Go.Fs
namespace Go.Fs
open Go.Proofs
namespace L12
open C12 Go.Lib
def TI(c d:UInt8):Nat→Nat
 |0=>0
 |1=>c.toNat-48
 |_=>(c.toNat-48)*10+(d.toNat-48)
theorem yN{x:UInt8}:lC x=true ↔ 48≤x.toNat∧x.toNat≤57:=by unfold lC;simp
theorem aFT{c d:UInt8}{k:Nat}(hk:k<2)(h:∀j,j<k→∀x,[c,d][j]?= some x→lC x=true):TI c d k≤9:=by
 obtain rfl|rfl:k=0∨k=1:=by omega
 ·exact aMX _
 ·have:=yN.1 (h 0 Yd c rfl);show c.toNat-48≤9;omega
theorem TH{c d x:UInt8}{k:Nat}(hk:k<2)(hx:[c,d][k]?= some x)(h1:48≤x.toNat∧x.toNat≤57):((TI c d k:Nat):Int)*10+((x.toNat:Int)-48)=((TI c d (k+1):Nat):Int):=by
 obtain rfl|rfl:k=0∨k=1:=by omega
 ·obtain rfl:c=x:=by simpa using hx
  show(0:Int)*10+_=((c.toNat-48:Nat):Int);omega
 ·obtain rfl:d=x:=by simpa using hx
  show((c.toNat-48:Nat):Int)*10+_=(((c.toNat-48)*10+(d.toNat-48):Nat):Int);omega
theorem aAP{c d:UInt8}(h:∀j,j<2→∀x,[c,d][j]?= some x→lC x=true):TI c d 2≤99∧True:=by
 have h1:=yN.1 (h 0 Yd c rfl);have h2:=yN.1 (h 1 Yd d rfl)
 refine⟨?_,aOJ⟩;show(c.toNat-48)*10+(d.toNat-48)≤99;omega
theorem f9(c d:UInt8)(t:List UInt8):tL (c::d::t)=(if lC c=true∧lC d=true∧(c.toNat-48)*10+(d.toNat-48)≤50 then some ((c.toNat-48)*10+(d.toNat-48))else none):=rfl
theorem ZI{c d x:UInt8}{t:List UInt8}{k:Nat}(hk:k<2)(hx:[c,d][k]?= some x)(h:lC x=false):tL (c::d::t)=none:=by
 rw[f9,aJM];rintro⟨h1,h2, -⟩;obtain rfl|rfl:k=0∨k=1:=by omega
 ·obtain rfl:c=x:=by simpa using hx
  rw[h]at h1;cases h1
 ·obtain rfl:d=x:=by simpa using hx
  rw[h]at h2;cases h2
theorem RA{c d:UInt8}{t:List UInt8}(h1:lC c=true)(h2:lC d=true)(h:((TI c d 2:Nat):Int)≤50):tL (c::d::t)=some (TI c d 2):=by
 have h':(c.toNat-48)*10+(d.toNat-48)≤50:=by have:TI c d 2=(c.toNat-48)*10+(d.toNat-48):=rfl;omega
 rw[f9,aJT ⟨h1,h2,h'⟩];rfl
theorem WD{c d:UInt8}{t:List UInt8}(h:(50:Int)<((TI c d 2:Nat):Int)):tL (c::d::t)=none:=by
 have h':50<(c.toNat-48)*10+(d.toNat-48):=by have:TI c d 2=(c.toNat-48)*10+(d.toNat-48):=rfl;omega
 rw[f9,aJM];rintro⟨-, -,h3⟩;omega
theorem ZR{b:List UInt8}{n:Nat}(h:tL b=some n):n≤50:=by
 unfold tL at h;split at h
 ·split at h
  ·rename_i hh;cases h;exact hh.2.2
  ·cases h
 ·cases h
theorem aHM{α:Type}{l:List α}(h:2≤l.length):∃a b t,l=a::b::t:=by
 match l,h with
 |a::b::t,_=>exact⟨a,b,t,rfl⟩
theorem aHT{α:Type}{l:List α}(h:l.length=4):∃a b c d,l=[a,b,c,d]:=by
 match l,h with
 | [a,b,c,d],_=>exact⟨a,b,c,d,rfl⟩
theorem getD_some{l:List UInt8}{k:Nat}(h:k<l.length):l[k]?= some (l.getD k 0):=by simp[List.getD,aJC h]
theorem SQ{D:aA}{a:Option Addr}{n c:Nat}{x:UInt8}{l:List UInt8}(h:Sl D RU 1 (.slice a n c) (x::l)):∃b o,a=some ⟨b,o,none⟩:=by
 obtain⟨a',c',hv,h1,h2,h3⟩:=h;cases hv;rcases h3 with h3|⟨b,o,rfl,_⟩
 ·cases h3
 ·exact⟨b,o,rfl⟩
theorem TM{D:aA}{b o n c:Nat}{l:List UInt8}(h:Sl D RU 1 (.slice (some ⟨b,o,none⟩) n c) l):At D b o (bc l):=by
 rcases jE.bytes h with⟨a,c',hv,h0,h1⟩|⟨b',o',c',hv,hA⟩
 ·rw[h1];intro j v hj;simp at hj
 ·cases hv;exact hA
theorem d9{n:Nat}{bs:List UInt8}{f0 f1 f2 f3:UInt8}(h:((bs.drop (3+n)).drop 1).take (5-1)=[f0,f1,f2,f3]):wP n bs=[bs.getD 2 0,bs.getD (3+n) 0,bs.getD (8+n) 0,f0,f1,f2,f3]:=by
 unfold wP;rw[aMZ,show 3+n+1=4+n by omega]at h;rw[h];rfl
section
variable{i n:Nat}{bs:List UInt8}{f0 f1 f2 f3:UInt8}
theorem u7(h:bs.length<9):fU i bs=none:=aJT h
theorem OW{lb:Bool}(h9:¬bs.length<9)(h1:lb=true→tL bs=some n)(h2:lb=false→tL bs=none)(h:(!lb||decide ((bs.length:Int)<3+(n:Int)+6))=true):fU i bs=none:=by
 unfold fU;rw[aJM h9];cases lb with
 |false=>rw[h2 rfl]
 |true=>
  rw[h1 rfl];simp only[aOF,Bool.false_or,aJV]at h;exact aJT Yd
theorem N8(h9:¬bs.length<9)(hn:tL bs=some n)(hl:9+n≤bs.length)(hF:((bs.drop (3+n)).drop 1).take (5-1)=[f0,f1,f2,f3])(h:[bs.getD 2 0,bs.getD (3+n) 0,bs.getD (8+n) 0,f0,f1,f2,f3]=rT i ((bs.drop 3).take (3+n-3))):fU i bs=some ((bs.drop 3).take (3+n-3)):=by
 rw[show 3+n-3=n by omega]at h ⊢
 unfold fU;rw[aJM h9,hn];simp only[];rw[aJM Yd,d9 hF,aJT h]
theorem K5(h9:¬bs.length<9)(hn:tL bs=some n)(hl:9+n≤bs.length)(hF:((bs.drop (3+n)).drop 1).take (5-1)=[f0,f1,f2,f3])(h:¬ [bs.getD 2 0,bs.getD (3+n) 0,bs.getD (8+n) 0,f0,f1,f2,f3]=rT i ((bs.drop 3).take (3+n-3))):fU i bs=none:=by
 rw[show 3+n-3=n by omega]at h;unfold fU;rw[aJM h9,hn];simp only[];rw[aJM Yd,d9 hF,aJM h]
end
theorem OM(bv:Value)(c d:UInt8)(t:List UInt8)(D:aA)(hS:Sl D RU 1 bv (c::d::t)):Fn Tryz.prog 123 #[bv] D (fun _ v=>∃(n:Nat) (b:Bool),v=.tuple #[.int .i64 (n:Int),.bool b]∧n≤99∧(b=true→tL (c::d::t)=some n)∧(b=false→tL (c::d::t)=none)):=by
 obtain⟨ba,bcap,rfl⟩:=hS.shape;have hc0:=c.toNat_lt;have hd0:=d.toNat_lt;refine enter 30 Tryz.func123 rfl rfl rfl rfl fun h0=>C.s1<|Zh rfl<|Zh rfl<|L.n3<|Zh rfl<|L.n4<|Za rfl<|P7 (j:=2) rfl U51 Tf.s5 rfl hS rfl Ye rfl aOJ (fun ta hT=>iC rfl U51 rfl rfl rfl trivial<|Za rfl<|L.n1 ?_);refine Zaj<|cJ (γ:=Nat) (fun k=>2-k) (fun k=>k≤2∧∀j,j<k→∀x,[c,d][j]?= some x→lC x=true) (fun k=>[(10,.int .i64 (k:Int)),(4,.int .i64 ((TI c d k:Nat):Int))]) [(9,_),(8,_),(3,_),(2,_)] (fun k=>[D]) 0 ⟨by omega,fun j hj=>by omega⟩ ⟨Yb,Yb,aOJ⟩ C.rs (aD) ?_
 rintro k ⟨h1,h2⟩;refine C.s1<|Zae rfl<|L.n2<|aE rfl (fun hc1=>?_) (fun hc1=>?_)
 ·have hlt:k<2:=by omega
  obtain⟨x,hx⟩:∃x,[c,d][k]?= some x:=⟨_,aJC (by simpa using hlt)⟩
  have hx0:=x.toNat_lt;have hnk:=aFT hlt h2;refine C.kn<|aM<|Zaj<|C.s1<|Zs rfl U51 Tf.s5 rfl hT rfl hx (fun b1 o1 cs1 hr1 hcl1 hA1=>?_);obtain rfl:cs1=[.int .u8 _]:=hr1;refine Zf 0 rfl Tf.a5 rfl hA1 rfl<|Zh rfl<|L.n4<|Za rfl<|Zae rfl<|Za rfl ?_;refine' L.orK 3 (s:=16) (p:=19) rfl (fun hg1=>?_) (fun hg1=>?_) ?_;rotate_left
  ·refine Zb rfl<|eB rfl rfl rfl rfl ⟨_,rfl,rfl⟩<|Zad rfl ?_;exact L.cu 2
  ·refine Zk rfl<|Zk rfl<|Zac rfl ?_;exact L.cu 2
  refine L.n1<|aJ rfl (fun hc2=>?_) (fun hc2=>?_)
  ·refine C.s1<|Zh rfl<|Zh rfl<|L.n5<|Zai<|Zam<|Zai<|Zai<|Zam<|Zai ?_;exact Zm [_,_] rfl C.rs (fun D hD=>⟨0,false,rfl,by omega,(fun h=>by cases h),fun _=>ZI hlt hx (by unfold lC;simp at hc2 ⊢;omega)⟩)
  ·have hx1:48≤x.toNat∧x.toNat≤57:=by simp at hc2;omega
   have hdg:lC x=true:=by unfold lC;simp[hx1]
   refine C.kn<|C.rg<|Za rfl<|Q9 rfl rfl rfl Yf rfl trivial<|Za rfl<|fX rfl rfl rfl Yf rfl trivial<|xV rfl U5 U3 rfl Yf rfl trivial<|Zy rfl<|Zh rfl<|Zab<|Zal<|Zah ?_;refine C.rg<|Zy rfl<|Za rfl<|Zab ?_;exact aG 19 (k+1) ⟨by omega,fun j hj y hy=>by rcases Nat.lt_succ_iff_lt_or_eq.1 hj with h|rfl;exact h2 j h y hy;rw[hx]at hy;cases hy;exact hdg⟩ Yd ⟨Yb,(by show some (Value.int _ _)=some (Value.int _ _);congr 2;have:=TH (c:=c) (d:=d) hlt hx hx1;omega),aOJ⟩ rfl rfl (LE _) (aD)
 ·obtain rfl:k=2:=by omega
  refine aQ<|Zak<|Zak<|Zan<|Zah<|C.s1<|Za rfl<|Za rfl<|iJ rfl rfl rfl rfl trivial<|Zh rfl<|Zh rfl<|L.n5 ?_;exact Zm [_,_] rfl C.rs (fun D hD=>⟨TI c d 2,_,rfl,(aAP h2).1,fun hb=>RA (h2 0 Yd c rfl) (h2 1 Yd d rfl) (by simpa using hb),fun hb=>WD (by simpa using hb)⟩)
theorem JO:aIS Tryz.prog 259 7:=by
 refine⟨by kernel_rfl,by kernel_rfl,by kernel_rfl,?_⟩;have e:(Tryz.prog.fieldsOf 259).toList=[(Tryz.prog.fieldsOf 259)[0]!,(Tryz.prog.fieldsOf 259)[1]!]:=by kernel_rfl
 rw[e];refine .cons (n:=3) (J6.arr (e:=5) (by decide+kernel) Yg Yg Yg Yg ?_ ?_) (.cons (n:=4) (J6.arr (e:=5) (by decide+kernel) Yg Yg Yg Yg ?_ ?_) .nil)
 ·rw[show((Tryz.prog.fieldsOf 259)[0]!).type=255 by kernel_rfl];exact Tf.a255
 ·rw[show((Tryz.prog.fieldsOf 259)[0]!).type=255 by kernel_rfl];exact Tf.s255
 ·rw[show((Tryz.prog.fieldsOf 259)[1]!).type=257 by kernel_rfl];exact Tf.a257
 ·rw[show((Tryz.prog.fieldsOf 259)[1]!).type=257 by kernel_rfl];exact Tf.s257
theorem qI(i:Nat)(bv:Value)(bs:List UInt8)(D:aA)(hi:i≤1000)(hS:Sl D RU 1 bv bs)(hbl:bs.length≤1000000000):Fn Tryz.prog 68 #[.int .i64 (i:Int),bv] D (fun _ v=>∃(s:ByteArray) (b:Bool),v=.tuple #[.string s,.bool b]∧(b=true→fU i bs=some s.data.toList)∧(b=false→fU i bs=none)):=by
 obtain⟨ba,bcap,rfl⟩:=hS.shape;refine enter 59 Tryz.func68 rfl rfl rfl rfl fun h0=>C.s1<|Zh rfl<|Zh rfl<|L.n4<|Za rfl<|aR rfl U51 rfl hS rfl rfl trivial<|Zae rfl<|L.n1<|aE rfl (fun hc1=>?_) (fun hc1=>?_)
 ·refine C.s1<|Zh rfl<|Zh rfl<|L.n5<|Zai ?_;exact Zm [_,_] rfl C.rs (fun D hD=>⟨_,_,rfl,(fun h=>by cases h),fun _=>u7 Yd⟩)
 ·obtain⟨c2,d2,t2,hcd⟩:=aHM (l:=bs) Yd;have hb9:¬bs.length<9:=by omega
  refine C.kn<|C.s1<|Za rfl<|Zt rfl (fun D1 hD1=>OM _ c2 d2 t2 _ (hcd▸hS.up RU.up (hD1 _ Ye))) (fun v1 D1 hD1 hp1=>?_);obtain⟨n,lb,rfl,hn99,hl1,hl2⟩:=hp1;rw[←hcd]at hl1 hl2;refine Za rfl<|Zaa rfl<|Zaa rfl<|Zh rfl<|Zh rfl<|L.n4<|Za rfl<|Zag rfl<|Za rfl ?_;refine' L.orK 7 (s:=21) (p:=28) rfl (fun hg1=>?_) (fun hg1=>?_) ?_;rotate_left
  ·refine Zb rfl<|aR rfl U51 rfl hS rfl rfl ⟨_,rfl,rfl⟩<|Zb rfl<|yF rfl rfl rfl Yf rfl ⟨_,rfl,rfl⟩<|yF rfl rfl rfl Yf rfl ⟨_,rfl,rfl⟩<|IJ rfl rfl rfl rfl ⟨_,rfl,rfl⟩<|Zad rfl ?_;exact L.cu 6
  ·refine Zk rfl<|Zk rfl<|Zk rfl<|Zk rfl<|Zk rfl<|Zk rfl<|Zac rfl ?_;exact L.cu 6
  refine L.n1<|aJ rfl (fun hc2=>?_) (fun hc2=>?_)
  ·refine C.s1<|Zh rfl<|Zh rfl<|L.n5<|Zai ?_;exact Zm [_,_] rfl C.rs (fun D hD=>⟨_,_,rfl,(fun h=>by cases h),fun _=>OW hb9 hl1 hl2 hc2⟩)
  ·obtain⟨hlb,hlen⟩:lb=true∧9+n≤bs.length:=by simp at hc2;refine⟨hc2.1,?_⟩;have:=hc2.2;omega
   have hln:=hl1 hlb;have hn50:=ZR hln;refine C.kn<|aM<|C.drawA [] 3 11 998 (fun _ _ _ h=>cA (P:=Tryz.prog) (fn:=Tryz.f68) _ _ _ h)<|Za rfl<|Za rfl<|Zy rfl<|DB (i:=3) (j:=3+n) rfl U51 Tf.s5 rfl hS rfl Yb Yd Yd rfl aOJ (fun la hLn=>jJ rfl U51 U5 U9 rfl hLn Ye (fun _ _ _ _ _=>GT) rfl trivial<|Za rfl<|Za rfl<|Zy rfl<|qM (j:=3+n) rfl U51 Tf.s5 rfl hS Yb Yd rfl aOJ (fun ea hE=>?_));refine Zh rfl<|Zh rfl<|L.n2<|kV [] 4 [false,false,false,true,true,true,true,true,true,false,true,true,true,true,false,true,false] [.fork [0,1,2,3,4,5,6,7,8,9,10,11] 12 (.fin [13,14,15]) 15 (.fin [12,13,14]),.fin [16]] Tf.follows (fun _ _ _ h=>cA (P:=Tryz.prog) (fn:=Tryz.f68) _ _ _ h) Yg<|nR<|bE [(false,0),(false,1),(false,2),(true,3),(true,4),(true,5),(true,6),(true,7),(true,8),(false,9),(true,10),(true,11)] rfl<|Za rfl<|Zs rfl U51 Tf.s5 rfl hS rfl (getD_some Yd) (fun b1 o1 cs1 hr1 hcl1 hA1=>?_);obtain rfl:cs1=[.int .u8 _]:=hr1;refine Zf 0 rfl Tf.a5 rfl hA1 rfl<|Za rfl<|Zs rfl U51 Tf.s5 rfl hE rfl (by rw[aLM];exact getD_some (k:=3+n) Yd) (fun b2 o2 cs2 hr2 hcl2 hA2=>?_)
   obtain rfl:cs2=[.int .u8 _]:=hr2;refine Zf 0 rfl Tf.a5 rfl hA2 rfl<|Za rfl<|Zs rfl U51 Tf.s5 rfl hE rfl (by rw[aLM,show 3+n+Int.toNat 5=8+n from(by show 3+n+5=8+n;omega)];exact getD_some Yd) (fun b3 o3 cs3 hr3 hcl3 hA3=>?_)
   obtain rfl:cs3=[.int .u8 _]:=hr3;refine Zf 0 rfl Tf.a5 rfl hA3 rfl<|xG (cs:=[.int .u8 ((bs.getD 2 0).toNat:Int),.int .u8 ((bs.getD (3+n) 0).toNat:Int),.int .u8 ((bs.getD (8+n) 0).toNat:Int)]) rfl U255 Tf.s5 Tf.z255 rfl rfl rfl trivial<|Za rfl<|DB (i:=1) (j:=5) rfl U51 Tf.s5 rfl hE rfl rfl Yd Yd rfl aOJ (fun fa hF=>?_);obtain⟨f0,f1,f2,f3,hF4⟩:=aHT (l:=((bs.drop (3+n)).drop 1).take (5-1)) Yaf;rw[hF4]at hF;obtain⟨fb,fo,rfl⟩:=SQ hF;refine Zab (cZ true true rfl rfl ?_ ?_)
   ·refine p9 rfl U257 rfl Yd rfl trivial<|Zab<|aP [(true,13),(false,14),(true,15)] rfl<|cQ (cs:=[.int .u8 (f0.toNat:Int),.int .u8 (f1.toNat:Int),.int .u8 (f2.toNat:Int),.int .u8 (f3.toNat:Int)]) rfl Tf.a257 rfl (TM hF) Ye Tf.s257 GT rfl trivial<|gP (cs:=[.int .u8 ((bs.getD 2 0).toNat:Int),.int .u8 ((bs.getD (3+n) 0).toNat:Int),.int .u8 ((bs.getD (8+n) 0).toNat:Int),.int .u8 (f0.toNat:Int),.int .u8 (f1.toNat:Int),.int .u8 (f2.toNat:Int),.int .u8 (f3.toNat:Int)]) rfl Tf.p259 Tf.z259 rfl Yg rfl trivial<|Zx rfl Tf.z259 rfl (fun q1=>Zab<|kY [(false,16)] rfl<|aW rfl rfl rfl rfl Tf.s259 Ya Ya (bM.head) Yi trivial<|Zab<|kS<|Zah ?_);refine aM<|C.drawA [] 1 8 126 (fun _ _ _ h=>cA (P:=Tryz.prog) (fn:=Tryz.f68) _ _ _ h)<|Za rfl<|Zu rfl Tf.a259 rfl (List.Mem.head _) Tf.s259<|Za rfl<|Za rfl<|Zd rfl (fun D2 hD2=>yK i ⟨((bs.drop 3).take (3+n-3)).toArray⟩ Yd (by show(((bs.drop 3).take (3+n-3))).length≤1000;simp;omega) _)<|HU (l:=xF [bs.getD 2 0,bs.getD (3+n) 0,bs.getD (8+n) 0,f0,f1,f2,f3]) (m:=xF (rT i ((bs.drop 3).take (3+n-3)))) rfl JO rfl rfl rfl rfl rfl trivial<|Zh rfl<|Zh rfl<|L.n5 ?_
    exact Zm [_,_] rfl C.rs (fun D hD=>⟨_,_,rfl,fun hb=>by rw[uJ]at hb;exact N8 hb9 hln hlen hF4 (by simpa using hb),fun hb=>by rw[uJ]at hb;exact K5 hb9 hln hlen hF4 (by simpa using hb)⟩)
   ·refine Zx rfl Tf.z259 rfl (fun q1=>Zab<|aP [(true,12),(true,13),(false,14)] rfl<|p9 rfl U257 rfl Yd rfl trivial<|cQ (cs:=[.int .u8 (f0.toNat:Int),.int .u8 (f1.toNat:Int),.int .u8 (f2.toNat:Int),.int .u8 (f3.toNat:Int)]) rfl Tf.a257 rfl (TM hF) Ye Tf.s257 GT rfl trivial<|gP (cs:=[.int .u8 ((bs.getD 2 0).toNat:Int),.int .u8 ((bs.getD (3+n) 0).toNat:Int),.int .u8 ((bs.getD (8+n) 0).toNat:Int),.int .u8 (f0.toNat:Int),.int .u8 (f1.toNat:Int),.int .u8 (f2.toNat:Int),.int .u8 (f3.toNat:Int)]) rfl Tf.p259 Tf.z259 rfl Yg rfl trivial<|Zab<|kY [(false,16)] rfl<|aW rfl rfl rfl rfl Tf.s259 Ya Ya (bM.head) Yi trivial<|Zab<|kS<|Zah ?_);refine aM<|C.drawA [] 1 8 126 (fun _ _ _ h=>cA (P:=Tryz.prog) (fn:=Tryz.f68) _ _ _ h)<|Za rfl<|Zu rfl Tf.a259 rfl (List.Mem.head _) Tf.s259<|Za rfl<|Za rfl<|Zd rfl (fun D2 hD2=>yK i ⟨((bs.drop 3).take (3+n-3)).toArray⟩ Yd (by show(((bs.drop 3).take (3+n-3))).length≤1000;simp;omega) _)<|HU (l:=xF [bs.getD 2 0,bs.getD (3+n) 0,bs.getD (8+n) 0,f0,f1,f2,f3]) (m:=xF (rT i ((bs.drop 3).take (3+n-3)))) rfl JO rfl rfl rfl rfl rfl trivial<|Zh rfl<|Zh rfl<|L.n5 ?_
    exact Zm [_,_] rfl C.rs (fun D hD=>⟨_,_,rfl,fun hb=>by rw[uJ]at hb;exact N8 hb9 hln hlen hF4 (by simpa using hb),fun hb=>by rw[uJ]at hb;exact K5 hb9 hln hlen hF4 (by simpa using hb)⟩)
end L12
end Go.Fs
namespace Go.Fs
open Go.Proofs
namespace L12
open C12 Go.Lib
theorem Tf.z9:TZ Tryz.prog 9 (.string ⟨#[]⟩):=TZ.of Yg
section
variable{P:Program}{X:Cx}{Q:Exit→Act→World→Prop}{σ:bS}{μ:aC}{Ds:List aA}
theorem gK{c:Operand}{x y:Code}{b:Bool}(hc:ev σ c=some (.bool b))(hb:b=true)(h:WC P X Q x σ μ Ds):WC P X Q (.cond c x y) σ μ Ds:=aJ hc (fun _=>h) (fun e=>by rw[hb]at e;cases e)
end
theorem aDG{b:UInt8}{n:Nat}(h:((b.toNat:Nat):Int)=(n:Int))(_hn:n<256:=by decide):b=UInt8.ofNat n:=by
 have h1:b.toNat=n:=by omega
 rw[←h1];simp
theorem _root_.Go.Fs.jN.strs{D:aA}{v:Value}{n:Nat}{l:List ByteArray}(h:jN D v n (l.map Value.string))(hn:l.length=n)(hb:n≤9223372036854775807):Sl D RS 1 v l:=
 h.sl hn hb fun i x hx=>⟨_,rfl,rfl,by rw[aLV,List.take_one,List.head?_drop,aKA,hx];rfl⟩
theorem WB(s:ByteArray)(a b:Nat):(s.extract a b).data.toList=(s.data.toList.drop a).take (b-a):=by simp[List.extract_eq_take_drop]
def nV(line:ByteArray)(i f:Nat)(ws:List ByteArray):Prop:=f≤i∧ws.length≤i∧kO line.data.toList=bD ws++kO (line.data.toList.drop f)∧(32:UInt8)∉(line.data.toList.drop f).take (i-f)
theorem nV.zero{line:ByteArray}:nV line 0 0 []:=⟨aJU _,aJU _,by simp[bD],by simp⟩
theorem QI{l:List UInt8}{f i:Nat}{b:UInt8}(hf:f≤i)(hb:l[i]?= some b):(l.drop f).take (i+1-f)=(l.drop f).take (i-f)++[b]:=by
 have h:(l.drop f)[i-f]?= some b:=by rw[aLM,show f+(i-f)=i by omega];exact hb
 rw[show i+1-f=i-f+1 by omega,aJP,h];rfl
theorem nV.miss{line:ByteArray}{i f:Nat}{ws:List ByteArray}{b:UInt8}(h:nV line i f ws)(hb:line.data.toList[i]?= some b)(hn:b≠32):nV line (i+1) f ws:=by
 obtain⟨h1,h2,h3,h4⟩:=h;refine⟨by omega,by omega,h3,?_⟩;rw[QI h1 hb,aJO,aJR];rintro(h|h)
 ·exact h4 h
 ·exact hn h.symm
theorem nV.hit{line:ByteArray}{i f:Nat}{ws:List ByteArray}{b:UInt8}(h:nV line i f ws)(hb:line.data.toList[i]?= some b)(hn:b=32):nV line (i+1) (i+1) (ws++[line.extract f i]):=by
 subst hn;obtain⟨h1,h2,h3,h4⟩:=h;refine⟨aJU _,by simp;omega,?_,by simp⟩
 have hg:(line.data.toList.drop f)[i-f]?= some 32:=by rw[aLM,show f+(i-f)=i by omega];exact hb
 rw[h3,wS hg h4,aMZ,show f+(i-f+1)=i+1 by omega];simp[bD]
theorem HF{line:ByteArray}{f:Nat}{ws:List ByteArray}(h:nV line line.size f ws):dA line=ws++[line.extract f line.size]:=by
 obtain⟨h1,h2,h3,h4⟩:=h;have hl:line.data.toList.length=line.size:=rfl;have ht:(line.data.toList.drop f).take (line.size-f)=line.data.toList.drop f:=aKC (by rw[aLB,hl];exact aJU _)
 rw[ht]at h4;unfold dA;rw[h3,tT h4,aJN,aNE];have e1:(bD ws).map t8=ws:=by
  unfold bD;rw[aNT]
  conv=>rhs;rw[←List.map_id ws]
  exact List.map_congr_left fun x _=>tD x
 rw[e1];congr 2;rw[←tD (line.extract f line.size),WB,ht]
def zU(w:List UInt8):Int:=match lU.find? (fun x=>x.1==w)with
 |some (_,k,_)=>(k:Int)
 |none=> -1
def gG(l:List UInt8):Option (List Int):=match kO l with
 | []=>none
 |p::ps=>if zU p=(ps.length:Int)then ps.mapM lR else none
theorem aIM{s:ByteArray}(h:0<s.size):s[(0:Int).toNat]?= some (s.data.toList.getD 0 0):=uC (getD_some (k:=0) h)
theorem aGL{s:ByteArray}(h:((decide ((s.size:Int)<1)||decide (3<(s.size:Int)))||(decide (((s.data.toList.getD 0 0).toNat:Int)=48)&&decide (1<(s.size:Int))))=false):1≤s.size∧s.size≤3∧(s.data.toList.head?≠some 48∨s.size=1):=by
 simp only[aMK,Bool.and_eq_false_iff,aLY]at h;obtain⟨⟨h1,h2⟩,h3⟩:=h;refine⟨by omega,by omega,?_⟩;rcases h3 with h3|h3
 ·left;intro e;apply h3;have:s.data.toList.getD 0 0=48:=by rw[List.getD,←List.head?_eq_getElem?,e];rfl
  rw[this];rfl
 ·right;omega
theorem aDA{s:ByteArray}(h:((decide ((s.size:Int)<1)||decide (3<(s.size:Int)))||(decide (((s.data.toList.getD 0 0).toNat:Int)=48)&&decide (1<(s.size:Int))))=true):lR s.data.toList=none:=by
 have hl:s.data.toList.length=s.size:=rfl;simp only[aKS,aJI,aJV]at h;unfold lR;rcases h with(h|h)|⟨h,h2⟩
 ·have h0:s.data.toList=[]:=aNY Yd;rw[h0];rfl
 ·exact aJM Yd
 ·apply aJM;rintro⟨_,h3|h3⟩
  ·apply h3;have h4:s.data.toList.getD 0 0=48:=aDG (n:=48) h;rw[List.head?_eq_getElem?,getD_some (k:=0) Yd,h4]
  ·omega
theorem NU{n k:Nat}(h:n<10^k)(hk:k≤3):n<1000:=aLU h (aMR Yah hk)
theorem VY{n k:Nat}{b:UInt8}(h:n<10^k)(hb:48≤b.toNat∧b.toNat≤57):n*10+(b.toNat-48)<10^(k+1):=by rw[Nat.pow_succ];omega
theorem WK{l:List UInt8}{k n:Nat}{b:UInt8}(hb:l[k]?= some b)(hd:48≤b.toNat∧b.toNat≤57):decFrom n (l.drop k)=decFrom (n*10+(b.toNat-48)) (l.drop (k+1)):=by
 have hk:=(aJK.1 hb).1;rw[aLL hk,aJZ ((aJC hk).symm.trans hb)];simp only[decFrom,digitVal,hd,aNM,aLH]
theorem UD{s:ByteArray}(h:1≤s.size∧s.size≤3∧(s.data.toList.head?≠some 48∨s.size=1)):lR s.data.toList=(decFrom 0 s.data.toList).map fun n:Nat=>(n:Int):=by
 have hl:s.data.toList.length=s.size:=rfl;unfold lR;rw[aJT ⟨by omega,by rw[hl];exact h.2.2⟩]
 unfold decNat;rw[aJM];rw[List.isEmpty_iff];intro e;rw[e]at hl;simp at hl;omega
theorem OR{s:ByteArray}{k n:Nat}{b:UInt8}(hok:1≤s.size∧s.size≤3∧(s.data.toList.head?≠some 48∨s.size=1))(hd:decFrom 0 s.data.toList=decFrom n (s.data.toList.drop k))(hb:s.data.toList[k]?= some b)(hn:¬(48≤b.toNat∧b.toNat≤57)):lR s.data.toList=none:=by
 have hk:=(aJK.1 hb).1;rw[UD hok,hd,aLL hk,aJZ ((aJC hk).symm.trans hb)];simp only[decFrom,digitVal,hn,aLR,aLF]
theorem XI{s:ByteArray}{n:Nat}(hok:1≤s.size∧s.size≤3∧(s.data.toList.head?≠some 48∨s.size=1))(hd:decFrom 0 s.data.toList=decFrom n (s.data.toList.drop s.size)):lR s.data.toList=some (n:Int):=by
 have e:s.data.toList.drop s.size=[]:=aKK (aJU _);rw[UD hok,hd,e];rfl
theorem VJ{line p0:ByteArray}{ps:List ByteArray}(h:dA line=p0::ps):kO line.data.toList=p0.data.toList::bD ps:=by
 unfold dA at h;cases hc:kO line.data.toList with
 |nil=>rw[hc]at h;cases h
 |cons p qs=>
  rw[hc]at h;simp only[aJY,aLN]at h;obtain⟨rfl,rfl⟩:=h;unfold bD;rw[aNT];congr 1
  conv=>lhs;rw[←List.map_id qs]
  exact List.map_congr_left fun x _=>rfl
theorem K6:∀ps:List ByteArray,(bD ps).mapM lR=ps.mapM pF
 | []=>rfl
 |p::ps=>by
  have h:bD (p::ps)=p.data.toList::bD ps:=rfl;rw[h,aMP,aMP,K6 ps];rfl
theorem x7{line p0:ByteArray}{ps:List ByteArray}(h:dA line=p0::ps):gG line.data.toList=if zU p0.data.toList=(ps.length:Int)then ps.mapM pF else none:=by
 unfold gG;rw[VJ h];simp only[K6];unfold bD;rw[aLA]
theorem PC{line p0:ByteArray}{ps:List ByteArray}(h:dA line=p0::ps)(h1:zU p0.data.toList≠((dA line).length:Int)-1):gG line.data.toList=none:=by
 rw[x7 h,aJM];intro e;apply h1;rw[e,h,aJD];omega
theorem aCS{p0 x:ByteArray}{ps:List ByteArray}{k:Nat}(h:ps[k]?= some x):(p0::ps)[(((k+1:Nat):Int)).toNat]?= some x:=by rw[aKT];simpa using h
theorem QV{line p0 x:ByteArray}{ps:List ByteArray}{k:Nat}(h:dA line=p0::ps)(_:¬zU p0.data.toList≠((dA line).length:Int)-1)(hx:ps[k]?= some x)(hn:lR x.data.toList=none):gG line.data.toList=none:=by
 rw[x7 h,zC hx hn,ite_self]
theorem PQ{line p0:ByteArray}{ps:List ByteArray}{ns:List Int}(h:dA line=p0::ps)(h1:¬zU p0.data.toList≠((dA line).length:Int)-1)(hn:ps.mapM pF=some ns):gG line.data.toList=some ns:=by
 rw[x7 h,aJT,hn];have:=Classical.not_not.1 h1;rw[this,h,aJD];omega
theorem OQ{w:ByteArray}(h0:¬w=⟨#[112,108,97,99,101]⟩)(h1:¬w=⟨#[117,110,99,111,117,110,116]⟩)(h2:¬w=⟨#[119,114,111,110,103]⟩)(h3:¬w=⟨#[111,102,102]⟩)(h4:¬w=⟨#[115,116,101,112]⟩)(h5:¬w=⟨#[108,101,118,101,108]⟩)(h6:¬w=⟨#[117,110,109,97,114,107]⟩)(h7:¬w=⟨#[115,109,117,100,103,101]⟩)(h8:¬w=⟨#[115,116,114,105,107,101]⟩)(h9:¬w=⟨#[102,105,116]⟩)(h10:¬w=⟨#[117,110,99,108,97,105,109]⟩)(h11:¬w=⟨#[115,101,101,110]⟩)(h12:¬w=⟨#[99,111,117,110,116]⟩)(h13:¬w=⟨#[98,97,99,107]⟩)(h14:¬w=⟨#[114,97,105,115,101]⟩)(h15:¬w=⟨#[104,105,114,101]⟩)(h16:¬w=⟨#[98,114,105,110,103]⟩)(h17:¬w=⟨#[99,108,97,105,109]⟩)(h18:¬w=⟨#[116,105,100,101]⟩)(h19:¬w=⟨#[112,97,114,116]⟩)(h20:¬w=⟨#[109,97,114,107]⟩)(h21:¬w=⟨#[98,114,111,107,101,110]⟩):zU w.data.toList= -1:=by
 have key:∀l:List UInt8,w≠⟨l.toArray⟩→(l==w.data.toList)=false:=fun l h=>by
  rw[beq_eq_false_iff_ne];rintro rfl;exact h (tD w).symm
 unfold zU lU;simp only[List.find?_cons,List.find?_nil,key [112,108,97,99,101] h0,key [117,110,99,111,117,110,116] h1,key [119,114,111,110,103] h2,key [111,102,102] h3,key [115,116,101,112] h4,key [108,101,118,101,108] h5,key [117,110,109,97,114,107] h6,key [115,109,117,100,103,101] h7,key [115,116,114,105,107,101] h8,key [102,105,116] h9,key [117,110,99,108,97,105,109] h10,key [115,101,101,110] h11,key [99,111,117,110,116] h12,key [98,97,99,107] h13,key [114,97,105,115,101] h14,key [104,105,114,101] h15,key [98,114,105,110,103] h16,key [99,108,97,105,109] h17,key [116,105,100,101] h18,key [112,97,114,116] h19,key [109,97,114,107] h20,key [98,114,111,107,101,110] h21]
theorem Y8(line:ByteArray)(hl:line.size≤1000)(D:aA):Fn Tryz.prog 60 #[.string line] D (fun D' v=>Sl D' RS 1 v (dA line)):=by
 refine enter 31 Tryz.func60 rfl rfl rfl rfl fun h0=>C.s1<|Zh rfl<|L.n3<|Zh rfl<|L.n3<|Zh rfl<|L.n4<|Zh rfl<|L.n1<|Zaj<|cE (γ:=Nat×Nat×List ByteArray×Value×aC) (fun g=>line.size-g.1) (fun g=>g.1≤line.size∧nV line g.1 g.2.1 g.2.2.1∧bL 9 1 g.2.2.2.1 g.2.2.1.length (g.2.2.1.map Value.string) g.2.2.2.2) (fun g=>[(5,.int .i64 (g.1:Int)),(4,.int .i64 (g.2.1:Int)),(3,g.2.2.2.1)]) [(2,_),(0,_)] (fun g=>g.2.2.2.2++[]) (fun g=>[D]) (0,0,[],.slice none 0 0,[]) ⟨by simp,nV.zero,by simpa using bL.nil⟩ ⟨Yb,Yb,Yb,aOJ⟩ C.rs (LE _) (aD) ?_
 rintro⟨i,f,ws,v,ν⟩ ⟨h1,hw,ha⟩;simp only at h1 hw ha;have hfi:=hw.1;have hwl:=hw.2.1;refine C.s2<|Za rfl<|Za rfl<|gF rfl U9 rfl rfl rfl trivial<|Zae rfl<|L.n1<|aE rfl (fun hc1=>?_) (fun hc1=>?_)
 ·simp only at hc1;have hi:i<line.size:=by omega
  obtain⟨b,hb⟩:∃b,line.data.toList[i]?= some b:=⟨_,aJC Yaj⟩
  refine C.kn<|aM<|Zaj<|C.s1<|Za rfl<|Za rfl<|lV rfl U9 rfl rfl Yd (by rw[aKT];exact uC hb) rfl trivial<|dJ rfl rfl rfl rfl trivial<|L.n1<|aE rfl (fun hc2=>?_) (fun hc2=>?_)
  ·have hb32:b=32:=aDG hc2;refine C.s1<|Za rfl<|Za rfl<|Za rfl<|Za rfl<|FZ rfl U9 rfl rfl rfl Yag Yag Yag rfl trivial<|Zp rfl U22 Tf.s9 Tf.z9 rfl rfl rfl rfl (.cons rfl rfl .nil) (fun b901 D901 hD901 hA901=>aU (A:=[]) (B:=[]) rfl U22 rfl rfl Tf.s9 Tf.z9 rfl Tf.i9 rfl rfl rfl ha (jE.lit hA901) Ye rfl Yan Yi Yd (aJQ rfl) rfl aOJ (fun v1 ν1 ha1=>?_));have ha2:bL 9 1 v1 (ws++[line.extract f i]).length ((ws++[line.extract f i]).map Value.string) ν1:=by rw[aIX,aJN];exact ha1
   refine aF (ν1++[]) rfl<|Zh rfl<|L.n1<|C.rg<|Za rfl<|Zy rfl<|Zh rfl<|Zab<|Zal<|Zah<|C.rg<|Za rfl ?_;refine Zy rfl<|Zh rfl<|Zab ?_;exact aG 25 (i+1,i+1,ws++[line.extract f i],v1,ν1) ⟨by simp only;omega,hw.hit hb hb32,ha2⟩ Yl ⟨Yb,Yb,Yb,aOJ⟩ rfl rfl (LE _) (fun D h=>⟨D,LT _ (h),Le.refl D⟩)
  ·have hb32:b≠32:=fun e=>hc2 (by rw[e];rfl)
   refine bQ<|Zal<|Zah<|C.rg<|Za rfl<|Zy rfl<|Zh rfl<|Zab ?_;exact aG 14 (i+1,f,ws,v,ν) ⟨by simp only;omega,hw.miss hb hb32,ha⟩ Yl ⟨Yb,Yb,Yb,aOJ⟩ rfl rfl (LE _) (aD)
 ·obtain rfl:i=line.size:=by simp only at hc1;omega
  refine aQ<|Zak<|Zak<|Zan<|Zah<|C.s1<|Za rfl<|Za rfl<|Za rfl<|BC rfl U9 rfl rfl Yag Yag rfl trivial<|Zp rfl U22 Tf.s9 Tf.z9 rfl rfl rfl rfl (.cons rfl rfl .nil) (fun b902 D902 hD902 hA902=>aU (A:=[]) (B:=[]) rfl U22 rfl rfl Tf.s9 Tf.z9 rfl Tf.i9 rfl rfl rfl ha (jE.lit hA902) Ye rfl Yan Yi Yd (aJQ rfl) rfl aOJ (fun v2 ν2 ha2=>?_));have ha2:bL 9 1 v2 (ws++[line.extract f line.size]).length ((ws++[line.extract f line.size]).map Value.string) ν2:=by rw[aIX,aJN];exact ha2
  refine aF (ν2++[]) rfl<|Zh rfl<|L.n5<|eK (A:=[]) (B:=[]) ha2 rfl (fun D9 hD9 hF9=>?_);exact leave1 rfl rfl rfl rfl (fun D hD=>(by rw[HF hw];exact(hF9.strs rfl (by rw[aIX,aMM];omega)).up RS.up (hD _ Ye)))
theorem HJ(s:ByteArray)(D:aA):Fn Tryz.prog 118 #[.string s] D (fun _ v=>∃m b,v=.tuple #[.int .i64 m,.bool b]∧(b=true→lR s.data.toList=some m)∧(b=false→lR s.data.toList=none)):=by
 refine enter 49 Tryz.func118 rfl rfl rfl rfl fun h0=>C.s1<|Zh rfl<|Zh rfl<|L.n4<|Za rfl<|gF rfl U9 rfl rfl rfl trivial<|Zae rfl<|Za rfl ?_
 refine' L.orK 4 (s:=9) (p:=13) rfl (fun hg1=>?_) (fun hg1=>?_) ?_;rotate_left
 ·refine Zb rfl<|gF rfl U9 rfl rfl rfl ⟨_,rfl,rfl⟩<|eB rfl rfl rfl rfl ⟨_,rfl,rfl⟩<|Zad rfl ?_;exact L.cu 3
 ·refine Zk rfl<|Zk rfl<|Zk rfl<|Zac rfl ?_;exact L.cu 3
 refine Za rfl ?_;refine' L.orK 9 (s:=14) (p:=23) rfl (fun hg2=>?_) (fun hg2=>?_) ?_;rotate_left
 ·have hz:0<s.size:=by have:=hg2;simp at this;omega
  refine Zb rfl<|lV rfl U9 rfl rfl Yd (aIM hz) rfl ⟨_,rfl,rfl⟩<|dJ rfl rfl rfl rfl ⟨_,rfl,rfl⟩<|Zb rfl ?_;refine' L.anK 4 (s:=18) (p:=22) rfl (fun hg3=>?_) (fun hg3=>?_) ?_;rotate_left
  ·refine Zb rfl<|gF rfl U9 rfl rfl rfl ⟨_,rfl,rfl⟩<|eB rfl rfl rfl rfl ⟨_,rfl,rfl⟩<|nH rfl rfl rfl rfl ⟨_,rfl,rfl⟩ ?_;exact L.cu 3
  ·refine Zk rfl<|Zk rfl<|Zk rfl<|mZ rfl rfl rfl rfl ⟨_,rfl,rfl⟩ ?_;exact L.cu 3
  refine Zad rfl ?_;exact L.cu 5
 ·refine Zk rfl<|Zk rfl<|Zk rfl<|Zk rfl<|Zk rfl<|Zk rfl<|Zk rfl<|Zk rfl<|Zac rfl ?_;exact L.cu 8
 refine L.n1<|aJ rfl (fun hc1=>?_) (fun hc1=>?_)
 ·refine C.s1<|Zh rfl<|Zh rfl<|L.n5<|Zai ?_;exact Zm [_,_] rfl C.rs (fun D hD=>⟨0,false,rfl,(fun h=>by cases h),fun _=>aDA hc1⟩)
 ·have hok:=aGL hc1;refine C.kn<|C.s1<|Zh rfl<|L.n4<|Zh rfl<|L.n1<|Zaj<|cJ (γ:=Nat×Nat) (fun g=>s.size-g.1) (fun g=>g.1≤s.size∧g.2<10^g.1∧decFrom 0 s.data.toList=decFrom g.2 (s.data.toList.drop g.1)) (fun g=>[(5,.int .i64 (g.1:Int)),(4,.int .i64 (g.2:Int))]) [(3,_),(2,_),(0,_)] (fun g=>[D]) (0,0) ⟨by simp,by simp,by simp⟩ ⟨Yb,Yb,aOJ⟩ C.rs (aD) ?_;rintro⟨k,n⟩ ⟨h1,hn,hd⟩;simp only at h1 hn hd;have hn3:=NU hn (aLS h1 hok.2.1);refine C.s2<|Za rfl<|Za rfl<|gF rfl U9 rfl rfl rfl trivial<|Zae rfl<|L.n1<|aE rfl (fun hc2=>?_) (fun hc2=>?_)
  ·simp only at hc2;have hk:k<s.size:=by omega
   obtain⟨b,hb⟩:∃b,s.data.toList[k]?= some b:=⟨_,aJC (by simpa using hk)⟩
   have hb0:=b.toNat_lt;refine C.kn<|aM<|Zaj<|C.s2<|Za rfl<|Za rfl<|lV rfl U9 rfl rfl Yd (by rw[aKT];exact uC hb) rfl trivial<|Zae rfl<|Za rfl ?_
   refine' L.orK 5 (s:=34) (p:=39) rfl (fun hg4=>?_) (fun hg4=>?_) ?_;rotate_left
   ·refine Zb rfl<|Zb rfl<|lV rfl U9 rfl rfl Yd (by rw[aKT];exact uC hb) rfl ⟨_,rfl,rfl⟩<|eB rfl rfl rfl rfl ⟨_,rfl,rfl⟩<|Zad rfl ?_;exact L.cu 4
   ·refine Zk rfl<|Zk rfl<|Zk rfl<|Zk rfl<|Zac rfl ?_;exact L.cu 4
   refine L.n1<|aJ rfl (fun hc3=>?_) (fun hc3=>?_)
   ·refine C.s1<|Zh rfl<|Zh rfl<|L.n5<|Zai<|Zam<|Zai<|Zai<|Zam<|Zai ?_;exact Zm [_,_] rfl C.rs (fun D hD=>⟨0,false,rfl,(fun h=>by cases h),fun _=>OR hok hd hb (by simp at hc3;omega)⟩)
   ·have hbd:48≤b.toNat∧b.toNat≤57:=by simp at hc3;omega
    refine C.kn<|C.rg<|Za rfl<|Q9 rfl rfl rfl Yf rfl trivial<|Za rfl<|Za rfl<|lV rfl U9 rfl rfl Yd (by rw[aKT];exact uC hb) rfl trivial<|fX rfl rfl rfl Yf rfl trivial<|xV rfl U5 U3 rfl Yf rfl trivial<|Zy rfl<|Zh rfl<|Zab ?_;refine Zal<|Zah<|C.rg<|Za rfl<|Zy rfl<|Zh rfl<|Zab ?_;exact aG 24 (k+1,n*10+(b.toNat-48)) ⟨by simp only;omega,VY hn hbd,by simp only;rw[hd,WK hb hbd]⟩ Yl ⟨Yb,(by show some (Value.int _ _)=some (Value.int _ _);congr 2;simp only;omega),aOJ⟩ rfl rfl (LE _) (aD)
  ·obtain rfl:k=s.size:=by simp only at hc2;omega
   refine aQ<|Zak<|Zak<|Zan<|Zah<|C.s1<|Za rfl<|Zh rfl<|Zh rfl<|L.n5 ?_;exact Zm [_,_] rfl C.rs (fun D hD=>⟨_,true,rfl,fun _=>XI hok hd,fun h=>by cases h⟩)
theorem QZ(w:ByteArray)(D:aA):Fn Tryz.prog 117 #[.string w] D (fun _ v=>v=.int .i64 (zU w.data.toList)):=by
 refine enter 31 Tryz.func117 rfl rfl rfl rfl fun h0=>C.s1<|Zh rfl<|L.n4<|Za rfl<|L.n1<|Zaj<|C.s1<|bW rfl rfl rfl rfl trivial<|Zh rfl<|L.n1<|aJ rfl (fun hc1=>?_) (fun hc1=>?_)
 ·refine C.s1<|Zh rfl<|L.n5<|Zam<|Zai ?_;exact leave1 rfl rfl rfl rfl (fun D hD=>by obtain rfl:=aKO hc1;rfl)
 ·refine C.s2<|bW rfl rfl rfl rfl trivial<|Zh rfl<|L.n1<|aJ rfl (fun hc2=>?_) (fun hc2=>?_)
  ·refine C.kn<|gK rfl hc2<|C.s1<|Zh rfl<|L.n5<|Zam<|Zai ?_;exact leave1 rfl rfl rfl rfl (fun D hD=>by obtain rfl:=aKO hc2;rfl)
  ·refine C.s1<|bW rfl rfl rfl rfl trivial<|Zh rfl<|L.n1<|aJ rfl (fun hc3=>?_) (fun hc3=>?_)
   ·refine C.kn<|gK rfl hc3<|C.s1<|Zh rfl<|L.n5<|Zam<|Zai ?_;exact leave1 rfl rfl rfl rfl (fun D hD=>by obtain rfl:=aKO hc3;rfl)
   ·refine C.s1<|bW rfl rfl rfl rfl trivial<|Zh rfl<|L.n1<|aJ rfl (fun hc4=>?_) (fun hc4=>?_)
    ·refine C.kn<|gK rfl hc4<|C.s1<|Zh rfl<|L.n5<|Zam<|Zai ?_;exact leave1 rfl rfl rfl rfl (fun D hD=>by obtain rfl:=aKO hc4;rfl)
    ·refine C.s1<|bW rfl rfl rfl rfl trivial<|Zh rfl<|L.n1<|aJ rfl (fun hc5=>?_) (fun hc5=>?_)
     ·refine C.kn<|gK rfl hc5<|C.s1<|Zh rfl<|L.n5<|Zam<|Zai ?_;exact leave1 rfl rfl rfl rfl (fun D hD=>by obtain rfl:=aKO hc5;rfl)
     ·refine C.s1<|bW rfl rfl rfl rfl trivial<|Zh rfl<|L.n1<|aJ rfl (fun hc6=>?_) (fun hc6=>?_)
      ·refine C.kn<|gK rfl hc6<|C.s1<|Zh rfl<|L.n5<|Zam<|Zai ?_;exact leave1 rfl rfl rfl rfl (fun D hD=>by obtain rfl:=aKO hc6;rfl)
      ·refine C.s1<|bW rfl rfl rfl rfl trivial<|Zh rfl<|L.n1<|aJ rfl (fun hc7=>?_) (fun hc7=>?_)
       ·refine C.kn<|gK rfl hc7<|C.s1<|Zh rfl<|L.n5<|Zam<|Zai ?_;exact leave1 rfl rfl rfl rfl (fun D hD=>by obtain rfl:=aKO hc7;rfl)
       ·refine C.s1<|bW rfl rfl rfl rfl trivial<|Zh rfl<|L.n1<|aJ rfl (fun hc8=>?_) (fun hc8=>?_)
        ·refine C.kn<|gK rfl hc8<|C.s1<|Zh rfl<|L.n5<|Zam<|Zai ?_;exact leave1 rfl rfl rfl rfl (fun D hD=>by obtain rfl:=aKO hc8;rfl)
        ·refine C.s1<|bW rfl rfl rfl rfl trivial<|Zh rfl<|L.n1<|aJ rfl (fun hc9=>?_) (fun hc9=>?_)
         ·refine C.kn<|gK rfl hc9<|C.s1<|Zh rfl<|L.n5<|Zam<|Zai ?_;exact leave1 rfl rfl rfl rfl (fun D hD=>by obtain rfl:=aKO hc9;rfl)
         ·refine C.s1<|bW rfl rfl rfl rfl trivial<|Zh rfl<|L.n1<|aJ rfl (fun hc10=>?_) (fun hc10=>?_)
          ·refine C.kn<|gK rfl hc10<|C.s1<|Zh rfl<|L.n5<|Zam<|Zai ?_;exact leave1 rfl rfl rfl rfl (fun D hD=>by obtain rfl:=aKO hc10;rfl)
          ·refine C.rg<|bW rfl rfl rfl rfl trivial<|Zh rfl<|L.n1<|aJ rfl (fun hc11=>?_) (fun hc11=>?_)
           ·refine C.s1<|Zh rfl<|L.n5<|Zam<|Zai ?_;exact leave1 rfl rfl rfl rfl (fun D hD=>by obtain rfl:=aKO hc11;rfl)
           ·refine C.s2<|bW rfl rfl rfl rfl trivial<|Zh rfl<|L.n1<|aJ rfl (fun hc12=>?_) (fun hc12=>?_)
            ·refine C.kn<|gK rfl hc12<|C.s1<|Zh rfl<|L.n5<|Zam<|Zai ?_;exact leave1 rfl rfl rfl rfl (fun D hD=>by obtain rfl:=aKO hc12;rfl)
            ·refine C.s1<|bW rfl rfl rfl rfl trivial<|Zh rfl<|L.n1<|aJ rfl (fun hc13=>?_) (fun hc13=>?_)
             ·refine C.kn<|gK rfl hc13<|C.s1<|Zh rfl<|L.n5<|Zam<|Zai ?_;exact leave1 rfl rfl rfl rfl (fun D hD=>by obtain rfl:=aKO hc13;rfl)
             ·refine C.s1<|bW rfl rfl rfl rfl trivial<|Zh rfl<|L.n1<|aJ rfl (fun hc14=>?_) (fun hc14=>?_)
              ·refine C.kn<|gK rfl hc14<|C.s1<|Zh rfl<|L.n5<|Zam<|Zai ?_;exact leave1 rfl rfl rfl rfl (fun D hD=>by obtain rfl:=aKO hc14;rfl)
              ·refine C.s1<|bW rfl rfl rfl rfl trivial<|Zh rfl<|L.n1<|aJ rfl (fun hc15=>?_) (fun hc15=>?_)
               ·refine C.kn<|gK rfl hc15<|C.s1<|Zh rfl<|L.n5<|Zam<|Zai ?_;exact leave1 rfl rfl rfl rfl (fun D hD=>by obtain rfl:=aKO hc15;rfl)
               ·refine C.s1<|bW rfl rfl rfl rfl trivial<|Zh rfl<|L.n1<|aJ rfl (fun hc16=>?_) (fun hc16=>?_)
                ·refine C.kn<|gK rfl hc16<|C.s1<|Zh rfl<|L.n5<|Zam<|Zai ?_;exact leave1 rfl rfl rfl rfl (fun D hD=>by obtain rfl:=aKO hc16;rfl)
                ·refine C.s1<|bW rfl rfl rfl rfl trivial<|Zh rfl<|L.n1<|aJ rfl (fun hc17=>?_) (fun hc17=>?_)
                 ·refine C.kn<|gK rfl hc17<|C.s1<|Zh rfl<|L.n5<|Zam<|Zai ?_;exact leave1 rfl rfl rfl rfl (fun D hD=>by obtain rfl:=aKO hc17;rfl)
                 ·refine C.rg<|bW rfl rfl rfl rfl trivial<|Zh rfl<|L.n1<|aJ rfl (fun hc18=>?_) (fun hc18=>?_)
                  ·refine C.s1<|Zh rfl<|L.n5<|Zam<|Zai ?_;exact leave1 rfl rfl rfl rfl (fun D hD=>by obtain rfl:=aKO hc18;rfl)
                  ·refine C.s2<|bW rfl rfl rfl rfl trivial<|Zh rfl<|L.n1<|aJ rfl (fun hc19=>?_) (fun hc19=>?_)
                   ·refine C.kn<|gK rfl hc19<|C.s1<|Zh rfl<|L.n5<|Zam<|Zai ?_;exact leave1 rfl rfl rfl rfl (fun D hD=>by obtain rfl:=aKO hc19;rfl)
                   ·refine C.rg<|bW rfl rfl rfl rfl trivial<|Zh rfl<|L.n1<|aJ rfl (fun hc20=>?_) (fun hc20=>?_)
                    ·refine C.s1<|Zh rfl<|L.n5<|Zam<|Zai ?_;exact leave1 rfl rfl rfl rfl (fun D hD=>by obtain rfl:=aKO hc20;rfl)
                    ·refine C.s2<|bW rfl rfl rfl rfl trivial<|Zh rfl<|L.n1<|aJ rfl (fun hc21=>?_) (fun hc21=>?_)
                     ·refine C.kn<|gK rfl hc21<|C.s1<|Zh rfl<|L.n5<|Zam<|Zai ?_;exact leave1 rfl rfl rfl rfl (fun D hD=>by obtain rfl:=aKO hc21;rfl)
                     ·refine C.rg<|bW rfl rfl rfl rfl trivial<|Zh rfl<|L.n1<|aJ rfl (fun hc22=>?_) (fun hc22=>?_)
                      ·refine C.s1<|Zh rfl<|L.n5<|Zam<|Zai ?_;exact leave1 rfl rfl rfl rfl (fun D hD=>by obtain rfl:=aKO hc22;rfl)
                      ·refine bQ<|Zal<|Zah<|C.s1<|Zh rfl<|L.n5 ?_;exact leave1 rfl rfl rfl rfl (fun D hD=>by show Value.int _ _=_;rw[OQ (w:=w) (aKP hc1) (aKP hc2) (aKP hc3) (aKP hc4) (aKP hc5) (aKP hc6) (aKP hc7) (aKP hc8) (aKP hc9) (aKP hc10) (aKP hc11) (aKP hc12) (aKP hc13) (aKP hc14) (aKP hc15) (aKP hc16) (aKP hc17) (aKP hc18) (aKP hc19) (aKP hc20) (aKP hc21) (aKP hc22)])
theorem y0(line:ByteArray)(hl:line.size≤1000)(D:aA):Fn Tryz.prog 59 #[.string line] D (fun D' v=>∃nv b,v=.tuple #[nv,.bool b]∧(match gG line.data.toList with|some ns=>b=true∧Sl D' RI 1 nv ns|none=>b=false)):=by
 obtain⟨p0,ps,hcut⟩:=vH line;have hcl:=zD line;have hp0:(dA line)[0]?= some p0:=by rw[hcut];rfl
 have hpl:(dA line).length=ps.length+1:=by rw[hcut];rfl
 refine enter 40 Tryz.func59 rfl rfl rfl rfl fun h0=>C.s1<|Zh rfl<|Zh rfl<|L.n3<|Za rfl<|Zt rfl (fun D1 hD1=>Y8 line hl _) (fun v1 D1 hD1 hp1=>Zh rfl<|L.n4<|Za rfl<|Zs rfl U22 Tf.s9 rfl hp1 rfl hp0 (fun b1 o1 cs1 hr1 hcl1 hA1=>?_))
 obtain rfl:cs1=[.string _]:=hr1;refine Zf 0 rfl Tf.a9 rfl hA1 rfl<|Zd rfl (fun D2 hD2=>QZ p0 _)<|Za rfl<|aR rfl U22 rfl hp1 rfl rfl trivial<|fX rfl rfl rfl Yf rfl trivial<|dZ rfl rfl rfl rfl trivial<|L.n1<|aE rfl (fun hc1=>?_) (fun hc1=>?_)
 ·refine C.s1<|Zh rfl<|Zh rfl<|L.n5<|Zai ?_;exact Zm [_,_] rfl C.rs (fun D hD=>⟨_,false,rfl,by rw[PC hcut hc1]⟩)
 ·refine C.kn<|C.s1<|Zh rfl<|L.n4<|Zh rfl<|L.n1<|Zaj<|cE (γ:=Nat×List Int×Value×aC) (fun g=>ps.length-g.1) (fun g=>g.1≤ps.length∧(ps.take g.1).mapM pF=some g.2.1∧g.2.1.length=g.1∧bL 3 1 g.2.2.1 g.1 (ints g.2.1) g.2.2.2) (fun g=>[(6,.int .i64 ((g.1+1:Nat):Int)),(5,g.2.2.1)]) [(4,_),(3,_),(2,_)] (fun g=>g.2.2.2++[]) (fun g=>[D1,D]) (0,[],.slice none 0 0,[]) ⟨by simp,rfl,rfl,by simpa [ints]using bL.nil⟩ ⟨Yb,Yb,aOJ⟩ C.rs (LE _) (aD) ?_;rintro⟨k,ns,v,ν⟩ ⟨h1,h2,h3,ha⟩;simp only at h1 h2 h3 ha;refine C.s2<|Za rfl<|Za rfl<|aR rfl U22 rfl hp1 rfl rfl trivial<|Zae rfl<|L.n1<|aE rfl (fun hc2=>?_) (fun hc2=>?_)
  ·simp only at hc2;have hk:k<ps.length:=by omega
   obtain⟨x,hx⟩:=C.ge ps k;refine C.kn<|aM<|Zaj<|C.s1<|Za rfl<|Za rfl<|Zs rfl U22 Tf.s9 rfl hp1 rfl (by rw[hcut];exact aCS hx) (fun b2 o2 cs2 hr2 hcl2 hA2=>?_)
   obtain rfl:cs2=[.string _]:=hr2;refine Zf 0 rfl Tf.a9 rfl hA2 rfl<|Zt rfl (fun D3 hD3=>HJ x _) (fun v3 D3 hD3 hp3=>?_);obtain⟨m,nb,rfl,h51,h52⟩:=hp3;refine Za rfl<|Zaa rfl<|Zaa rfl<|Zh rfl<|Zh rfl<|L.n4<|Za rfl<|Zag rfl<|L.n1<|aJ rfl (fun hc3=>?_) (fun hc3=>?_)
   ·refine C.s1<|Zh rfl<|Zh rfl<|L.n5<|Zai<|Zam<|Zai<|Zai<|Zam<|Zai ?_;exact Zm [_,_] rfl C.rs (fun D hD=>⟨_,false,rfl,by rw[QV hcut hc1 hx (h52 (by simpa using hc3))]⟩)
   ·have hnb:nb=true:=by simpa using hc3
    refine C.kn<|C.rg<|Za rfl<|Za rfl<|Zp rfl U25 Tf.s3 Tf.z3 rfl rfl rfl rfl (.cons rfl rfl .nil) (fun b901 D901 hD901 hA901=>?_);have hS901:=Sl.ofInts (l:=[_]) (n:=1) (cap:=1) hA901 rfl Yd Yd;refine aU (A:=[]) (B:=[]) rfl U25 rfl rfl Tf.s3 Tf.z3 rfl Tf.i3 rfl rfl rfl ha (jE.lit hA901) Ye rfl (by simp[ints,h3]) Yi Yd (aJQ rfl) rfl aOJ (fun v1 ν1 ha1=>?_);have ha2:bL 3 1 v1 (k+1) (ints (ns++[m])) ν1:=by rw[←eN];exact ha1
    refine aF (ν1++[]) rfl<|Zh rfl<|Zab<|Zal<|Zah<|C.rg<|Za rfl<|Zy rfl<|Zh rfl<|Zab ?_;exact aG 26 (k+1,ns++[m],v1,ν1) ⟨by simp only;omega,AW hx h2 (h51 hnb),by simp[h3],ha2⟩ Yl ⟨Yb,Yb,aOJ⟩ rfl rfl (LE _) (fun D h=>⟨D,LT _ (LT _ (h)),Le.refl D⟩)
  ·obtain rfl:k=ps.length:=by simp only at hc2;omega
   rw[aKN]at h2;refine aQ<|Zak<|Zak<|Zan<|Zah<|C.s1<|Za rfl<|Zh rfl<|Zh rfl<|L.n5<|eK (A:=[]) (B:=[]) ha rfl (fun D9 hD9 hF9=>?_);have hns:=hF9.ints (l:=ns) h3 Yd;exact Zm [_,_] rfl C.rs (fun D hD=>⟨_,true,rfl,by rw[PQ hcut hc1 h2];exact⟨rfl,hns.up RI.up (hD _ Ye)⟩⟩)
end L12
end Go.Fs
namespace Go.Fs
namespace C12
theorem RO(n j:Nat):lC (lJ n j)=true:=by
 unfold lC;rw[C8];have:=Nat.mod_lt (n / 10^j) (show 0<10 by decide);simp only[aJI,aJV];omega
theorem KU{n:Nat}(h:n≤50)(t:List UInt8):tL (lJ n 1::lJ n 0::t)=some n:=by
 have e:((lJ n 1).toNat-48)*10+((lJ n 0).toNat-48)=n:=by rw[C8,C8];omega
 show(if lC (lJ n 1)=true∧lC (lJ n 0)=true∧((lJ n 1).toNat-48)*10+((lJ n 0).toNat-48)≤50 then some (((lJ n 1).toNat-48)*10+((lJ n 0).toNat-48))else none)=_;rw[e,aJT ⟨RO n 1,RO n 0,h⟩]
theorem xR(i:Nat)(l t:List UInt8):eZ i l++t=lJ l.length 1::lJ l.length 0::59::(l++(59::(mM (iO i l)++10::t))):=by
 simp[eZ]
theorem y8{l x:List UInt8}(k:Nat):(l++x).getD (l.length+k) 0=x.getD k 0:=by
 rw[aKX,aKX,aNK Yd,Nat.add_sub_cancel_left]
theorem QW{l x:List UInt8}(k:Nat):(l++x).drop (l.length+k)=x.drop k:=by
 rw[aMY,aKK Yd,aKF,Nat.add_sub_cancel_left]
theorem DX(i:Nat)(l t:List UInt8):wP l.length (eZ i l++t)=rT i l:=by
 unfold wP rT;rw[xR];have e1:(lJ l.length 1::lJ l.length 0::59::(l++(59::(mM (iO i l)++10::t)))).getD (3+l.length) 0=59:=by
  rw[show 3+l.length=l.length+1+1+1 by omega,aNX,aNX,aNX];exact(y8 (l:=l) 0).trans rfl
 have e2:(lJ l.length 1::lJ l.length 0::59::(l++(59::(mM (iO i l)++10::t)))).getD (8+l.length) 0=10:=by
  rw[show 8+l.length=(l.length+5)+1+1+1 by omega,aNX,aNX,aNX,y8];rfl
 have e3:(lJ l.length 1::lJ l.length 0::59::(l++(59::(mM (iO i l)++10::t)))).drop (4+l.length)=mM (iO i l)++10::t:=by
  rw[show 4+l.length=(l.length+1)+1+1+1 by omega,aOI,aOI,aOI,QW];rfl
 rw[e1,e2,e3];rfl
theorem SE(i:Nat)(l t:List UInt8):((eZ i l++t).drop 3).take l.length=l:=by
 rw[xR];show(l++_).take l.length=l;rw[aKM (aJU _),aKN]
theorem NQ{l:List UInt8}(h:l.length≤50)(i j:Nat)(t:List UInt8):fU i (eZ j l++t)=if rT j l=rT i l then some l else none:=by
 unfold fU;have e:(eZ j l++t).length=9+l.length+t.length:=by rw[aIX,fY]
 have e2:tL (eZ j l++t)=some l.length:=by rw[xR];exact KU h _
 rw[aJM Yd,e2];simp only[];rw[aJM Yd,DX,SE]
theorem GR{l:List UInt8}(h:l.length≤50)(i:Nat)(t:List UInt8):fU i (eZ i l++t)=some l:=by rw[NQ h,aJT rfl]
theorem NT{l:List UInt8}(h:l.length≤50)(i j:Nat)(t:List UInt8){m:Nat}(hm:m<9+l.length):fU i ((eZ j l++t).take m)=none:=by
 have hl:((eZ j l++t).take m).length≤m:=by rw[aKL];omega
 unfold fU;by_cases h9:((eZ j l++t).take m).length<9
 ·rw[aJT h9]
 ·rw[aJM h9];obtain⟨k,rfl⟩:∃k,m=k+2:=⟨m-2,by omega⟩
  have e:tL ((eZ j l++t).take (k+2))=some l.length:=by rw[xR,aNU,aNU];exact KU h _
  rw[e];simp only[];rw[aJT Yd]
theorem c8(i:Nat):fU i []=none:=aJT Yah
theorem WR:∀(f i:Nat),zR f i []=[]
 |0,_=>rfl
 |f+1,i=>by unfold zR;rw[c8]
def uZ:List (List UInt8)→Nat
 | []=>0
 |l::a=>9+l.length+uZ a
theorem DG:∀(a:List (List UInt8)) (f i m:Nat),(∀l∈a,l.length≤50)→a.length≤f→∃k,k≤a.length∧zR f i ((fC i a).take m)=a.take k∧uZ (a.take k)≤m∧∀l,a[k]?= some l→m<uZ (a.take k)+9+l.length
 | [],f,i,m,_,_=>⟨0,aJU _,by rw[fC,List.take_nil,WR];rfl,aMX _,fun l hl=>by cases hl⟩
 |l::a,f,i,m,h,hf=>by
  have h1:=h l aJH;rw[aJD]at hf;obtain⟨f,rfl⟩:∃g,f=g+1:=⟨f-1,by omega⟩
  by_cases hm:m<9+l.length
  ·refine⟨0,aMX _,?_,aMX _,fun x hx=>?_⟩
   ·rw[fC,zR,NT h1 i i _ hm];rfl
   ·obtain rfl:l=x:=by simpa using hx
    show m<0+9+l.length;omega
  ·obtain⟨m,rfl⟩:∃q,m=(eZ i l).length+q:=⟨m-(9+l.length),by rw[fY];omega⟩
   obtain⟨k,hk,h2,h3,h4⟩:=DG a f (i+1) m (fun x hx=>h x (aJB _ hx)) Yd;refine⟨k+1,by rw[aJD];omega,?_,?_,fun x hx=>?_⟩
   ·rw[fC,List.take_length_add_append,zR,GR h1];simp only[];rw[←fY i l,List.drop_left,h2];rfl
   ·rw[aNU,uZ,fY];omega
   ·have:=h4 x (by simpa using hx);rw[aNU,uZ,fY];omega
end C12
end Go.Fs
namespace Go.Fs
open Go.Proofs
namespace L12
open C12 Go.Lib
def kQ:Nat→Nat→Nat→List UInt8→List (ByteArray×Nat)
 |0,_,_,_=>[]
 |f+1,i,p,b=>match fU i (b.drop p)with
  |none=>[]
  |some l=>(⟨l.toArray⟩,p+9+l.length)::kQ f (i+1) (p+9+l.length) b
def aDQ(x:ByteArray×Nat):List Value:=[.string x.1,.int .i64 (x.2:Int)]
def TN(l:List (ByteArray×Nat)):Nat:=match l.getLast? with|none=>0|some x=>x.2
theorem LK(l:List (ByteArray×Nat))(x:ByteArray×Nat):TN (l++[x])=x.2:=by unfold TN;rw[List.getLast?_append,List.getLast?_singleton];rfl
theorem Q3:∀(f i p:Nat) (b:List UInt8),(kQ f i p b).length≤f
 |0,_,_,_=>aJU _
 |f+1,i,p,b=>by
  unfold kQ;split
  ·exact aMX _
  ·rw[aJD];exact Nat.succ_le_succ (Q3 f _ _ b)
theorem UX{i p:Nat}{bs:List UInt8}{xs dn:List (ByteArray×Nat)}(h:xs=dn++kQ (40-i) i p bs)(hw:fU i (bs.drop p)=none):xs=dn:=by
 rw[h];cases hf:40-i with
 |zero=>exact aJF _
 |succ f=>rw[kQ,hw];exact aJF _
theorem TC{i p:Nat}{bs:List UInt8}{xs dn:List (ByteArray×Nat)}{s:ByteArray}(hi:i<40)(h:xs=dn++kQ (40-i) i p bs)(hw:fU i (bs.drop p)=some s.data.toList):xs=dn++(s,p+9+s.size)::kQ (40-(i+1)) (i+1) (p+9+s.size) bs:=by
 rw[h,show 40-i=(40-(i+1))+1 by omega,kQ,hw];rfl
theorem AE(bs:List UInt8)(bv:Value)(Dr:aA)(br:Nat)(hA:At Dr br 0 [bv])(hS:Sl Dr RU 1 bv bs)(hb:bs.length≤1000000000):tK Tryz.prog 67 [.pointer (some ⟨br,0,none⟩)] Dr (kQ 40 0 0 bs) aDQ:=by
 obtain⟨ba,bcap,rfl⟩:=hS.shape;refine yL 32 Tryz.func67 rfl rfl rfl rfl (fun lo l J Jx hs hsx hY=>f7<|C.s1<|Zh rfl<|L.n2<|G5<|Zah<|C.s1<|Za rfl<|L.n1<|Zaj<|xU (γ:=Nat×Nat×List (ByteArray×Nat)) (fun g=>40-g.1) (fun g=>g.1≤40∧g.2.1≤bs.length∧kQ 40 0 0 bs=g.2.2++kQ (40-g.1) g.1 g.2.1 bs) (fun g=>J g.2.2) (fun g=>[(7,.int .i64 (g.1:Int)),(3,.int .i64 (g.2.1:Int))]) [(0,_),(1,_)] (fun g=>[]) (fun g=>[Dr]) (0,0,[]) ⟨aMX _,aMX _,rfl⟩ rfl ⟨Yb,Yb,aOJ⟩ C.rs (LE _) (aD) ?_);rintro⟨i,p,dn⟩ ⟨h1,h2,hxs⟩;simp only at h1 h2 hxs;refine C.s1<|Zae rfl<|L.n2<|aE rfl (fun hc1=>?_) (fun hc1=>?_)
 ·simp only at hc1;have hi:i<40:=by omega
  refine C.kn<|aM<|Zaj<|C.s1<|Za rfl<|Zh rfl<|L.n3<|Za rfl<|Zf 0 rfl Tf.a51 rfl hA rfl<|Za rfl<|qM (j:=p) rfl U51 Tf.s5 rfl hS rfl Yd rfl aOJ (fun ea hE=>Zt rfl (fun D1 hD1=>qI i _ (bs.drop p) _ Yd (hE.up RU.up (hD1 _ Ye)) (by rw[aLB];omega)) (fun v1 D1 hD1 hp1=>?_));obtain⟨s,wb,rfl,hw1,hw2⟩:=hp1;refine Za rfl<|Zaa rfl<|Zaa rfl<|Zh rfl<|Zh rfl<|L.n4<|Za rfl<|Zag rfl<|L.n1<|aJ rfl (fun hc2=>?_) (fun hc2=>?_)
  ·have hwn:fU i (bs.drop p)=none:=hw2 Yak;refine aQ<|Zak<|mN rfl<|Zak<|Zak<|Zan<|lM ?_;exact hZ (P:=Tryz.prog) (fn:=Tryz.f67) (N:=32) (vs:=[]) rfl rfl aOJ (fun D h=>⟨D,by simp only[aJR]at h;subst h;simp,Le.refl D⟩) (aJQ (by rw[←UX hxs hwn]))
  ·have hw:=hw1 Yak;obtain⟨hl50,hl9⟩:=L0 hw;rw[aLB]at hl9;have hsz:s.data.toList.length=s.size:=rfl;rw[hsz]at hl9 hl50;have hnx:=TC hi hxs hw;refine C.kn<|C.s1<|Za rfl<|Za rfl<|gF rfl U9 rfl rfl rfl trivial<|Zy rfl<|Zy rfl<|Zy rfl<|Zh rfl<|L.n2 ?_;rw[show((p:Int)+(3+(s.size:Int)+6))=((p+9+s.size:Nat):Int) by omega];refine C.rg<|Za rfl<|Za rfl<|Za rfl<|R1 (l:=l) (J1:=J (dn++[(s,p+9+s.size)])) (J0:=Jx (dn++[(s,p+9+s.size)])) rfl rfl rfl rfl (hs _) (hsx _) (fun D w hd hJ hb hl=>hY dn (s,p+9+s.size) _ D w ⟨_,hnx⟩ hd hJ (fun b hbm=>by obtain⟨q,hq,rfl⟩:=aIY.1 hbm;exact hb q hq) (hl _ Ye)) rfl aOJ (fun b1 J1 hJ1=>Zag rfl<|L.n1<|aJ rfl (fun hc3=>?_) (fun hc3=>?_))
   ·obtain rfl:b1=false:=by simpa using hc3
    refine N9<|Zam<|Zai<|Zai<|Zam<|rO ?_;exact hZ (P:=Tryz.prog) (fn:=Tryz.f67) (N:=32) (vs:=[]) rfl rfl aOJ (fun D h=>⟨D,by simp only[aJR]at h;subst h;simp,Le.refl D⟩) (aJE ⟨_,by rw[hJ1];rfl⟩)
   ·obtain rfl:b1=true:=by simpa using hc3
    refine bQ<|Zal<|Zah<|C.rg<|Zy rfl<|Za rfl<|Zab ?_;exact mG 31 (i+1,p+9+s.size,dn++[(s,p+9+s.size)]) ⟨by simp only;omega,by simp only;omega,by simp only;rw[aJL];exact hnx⟩ Yl (by rw[hJ1];rfl) ⟨Yb,Yb,aOJ⟩ rfl rfl (LE _) (fun D h=>⟨D,LT _ (h),Le.refl D⟩)
 ·obtain rfl:i=40:=by simp only at hc1;omega
  refine aQ<|Zak<|Zak<|Zan<|lM ?_;exact hZ (P:=Tryz.prog) (fn:=Tryz.f67) (N:=32) (vs:=[]) rfl rfl aOJ (fun D h=>⟨D,by simp only[aJR]at h;subst h;simp,Le.refl D⟩) (aJQ (by rw[hxs,show kQ (40-40) 40 p bs=[]from rfl,aJF]))
theorem HI(bv:Value)(bs:List UInt8)(D:aA)(hS:Sl D RU 1 bv bs)(hb:bs.length≤1000000000):Fn Tryz.prog 38 #[bv] D (fun D' v=>∃br,v=.func (.func 67) #[] #[.pointer (some ⟨br,0,none⟩)]∧tK Tryz.prog 67 [.pointer (some ⟨br,0,none⟩)] D' (kQ 40 0 0 bs) aDQ):=by
 obtain⟨ba,bcap,rfl⟩:=hS.shape;refine enter 4 Tryz.func38 rfl rfl rfl rfl fun h0=>C.s1<|Zw rfl (fun q1 E1 hE1 hB1=>Zh rfl<|L.n3<|bB rfl rfl rfl rfl trivial<|Zh rfl<|L.n5 ?_)
 exact leave1 rfl rfl rfl rfl (fun D hD=>⟨_,rfl,AE bs _ _ q1 (hB1.up (hD _ Ye)) (hS.up RU.up (hD _ Ye)) hb⟩)
end L12
end Go.Fs
namespace Go.Fs
variable{P:Program}{X:Cx}{γb:Type}[Membership Nat γb]{bad:γb}{all:Array Oper}{K:Act→World→Prop}{Q:Exit→Act→World→Prop}
variable{σ:bS}{μ:aC}{Ds:List aA}{os:List (Bool×Nat)}{fl:Bool}{ix:Nat}
variable{d:Nat}{x y z:Operand}{u v:Value}{ty:TypeId}{pos:String}{aft:Array Edge}{g:Option (Nat×Bool)}
theorem DY{t e tr:TypeId}{sz n cap:Nat}{ad ad':Option Addr}{c':Nat}{ats:Array TypeId}
  (ho:all[ix]?= some ⟨some d,.call {callee:=.builtin .append,args:=#[x,y],argTypes:=ats},tr,pos,aft,g⟩) (ht:P.underlying t=some (.slice e)) (hat:ats[0]?= some t) (hat1:ats[1]?= some t) (hs:TS P e sz)
  (hx:ev σ x=some (.slice ad n cap)) (hy:ev σ y=some (.slice ad' 0 c')) (hcap:n≤cap) (hN:Nat.blt d X.N=true) (hg:cT all σ g)
  (kk:WL P X bad all K Q os ((d,.slice ad n cap)::σ) μ Ds):WL P X bad all K Q ((fl,ix)::os) σ μ Ds:=by
 refine dI ho rfl rfl hg fun a w hh=>?_
 have hex:(execOp a.eval ⟨some d,.call {callee:=.builtin .append,args:=#[x,y],argTypes:=ats},tr,pos,aft,g⟩).run P w=
   ((Builtin.append_ ats tr #[.slice ad n cap,.slice ad' 0 c']).run P w).andThen fun r w'=>.ok (.value r) w':=by
  simp only[execOp,resolve,pure_bind,invoke,builtin];have e1:(#[x,y].map a.eval)=#[.slice ad n cap,.slice ad' 0 c']:=by simp[hh.eval hx,hh.eval hy]
  rw[e1,Sem.run_bind];simp only[Sem.run_pure]
 rw[hex];have hfc:(Builtin.firstCells sz 0 (.slice ad' 0 c')).run P w=.ok ([]:List Value).toArray w:=by
  cases ad' with
  |none=>rfl
  |some a=>simp[Builtin.firstCells,loadCells,loadCellsFrom,Sem.run_pure]
 rw[kD (tr:=tr) (w':=w) ht hat hat1 hs (m:=0) (xs:=[]) rfl hfc hcap (by cases ad<;>rfl)];exact⟨fun _=>jW.refl _ _,kk _ _ (hh.put hN _)⟩
theorem QC{t e tr:TypeId}{sz n m b:Nat}{D₁ D₂:aA}{cells xs:List Value}{xv:Value}{z0:Value}{ats:Array TypeId}
  (ho:all[ix]?= some ⟨some d,.call {callee:=.builtin .append,args:=#[x,y],argTypes:=ats},tr,pos,aft,g⟩) (ht:P.underlying t=some (.slice e)) (hat:ats[0]?= some t) (hat1:ats[1]?= some t)
  (hs:TS P e sz) (hz:TZ P e z0) (hz1:Nat.beq z0.cells.size sz=true) (hi:(P.info? e).map (fun i=>Nat.ble 1 i.bytes&&Nat.ble i.bytes 4096)=some true)
  (hx:ev σ x=some (.slice (some ⟨b,0,none⟩) n n)) (hy:ev σ y=some xv) (hA:At D₁ b 0 cells) (hD:D₁∈Ds) (hcl:cells.length=n*sz) (hsrc:jE D₂ xv m xs) (hD2:D₂∈Ds) (hxl:xs.length=m*sz) (hm0:0<m) (hlen:n+m≤10000000) (hN:Nat.blt d X.N=true) (hg:cT all σ g)
  (kk:∀v' ν',bL e sz v' (n+m) (cells++xs) ν'→WL P X bad all K Q os ((d,v')::σ) (ν'++μ) Ds):WL P X bad all K Q ((fl,ix)::os) σ μ Ds:=by
 refine dI ho rfl rfl hg fun a w hh=>?_
 obtain⟨h1,h2,h3,D,h4,h5,h6⟩:=id hh;obtain⟨i0,hi,hb1,hb2⟩:∃i0,P.info? e=some i0∧1≤i0.bytes∧i0.bytes≤4096:=by
  cases h:P.info? e with
  |none=>simp[h]at hi
  |some i=>simp[h]at hi;exact⟨i,rfl,hi⟩
 have hz1':=aKQ hz1;have hex:(execOp a.eval ⟨some d,.call {callee:=.builtin .append,args:=#[x,y],argTypes:=ats},tr,pos,aft,g⟩).run P w=
   ((Builtin.append_ ats tr #[.slice (some ⟨b,0,none⟩) n n,xv]).run P w).andThen fun r w'=>.ok (.value r) w':=by
  simp only[execOp,resolve,pure_bind,invoke,builtin];have e1:(#[x,y].map a.eval)=#[.slice (some ⟨b,0,none⟩) n n,xv]:=by simp[hh.eval hx,hh.eval hy]
  rw[e1,Sem.run_bind];simp only[Sem.run_pure]
 rw[hex];have lies:∀{D₀:aA} (_:D₀∈Ds) (w':World),w'.heap=w.heap→∀b o ys,At D₀ b o ys→YD w' b o ys:=fun hD₀ w' hw' b o ys hA j u hj=>by
  have:=h4.agr.cell ((h5 _ hD₀).get (hA j u hj));unfold World.cell? at this ⊢
  rw[hw'];exact this
 obtain⟨c,hc,hrun⟩:=pT (tr:=tr) (w:=w) (a:=some ⟨b,0,none⟩) (n:=n) (cap:=n) (old:=cells) ht hat hat1 hs hz hi (W7 hsrc) (fun w' hw'=>sF hsrc hxl (fun b o=>lies hD2 w' hw' b o xs)) (fun w' hw'=>by
  simp only[Builtin.firstCells];exact iM hcl (lies hD w' hw' b 0 cells hA)) Yd hlen ⟨hb1,hb2⟩
 rw[hrun];obtain⟨junk,hjunk⟩:∃junk:List Value,cells.toArray++xs.toArray++Builtin.zeroCells z0.cells (c-(n+m))=(cells++xs++junk).toArray∧(cells++xs++junk).length=c*sz:=by
  refine⟨(Builtin.zeroCells z0.cells (c-(n+m))).toList,by simp,?_⟩;have:=oH z0.cells (c-(n+m));simp only[aIX,Array.length_toList,this,hz1',hcl,hxl];rw[←aLW,←aLW];congr 1;omega
 have hpush:=h4.push (.cells (cells++xs++junk).toArray e (0,0)) rfl;simp only[Result.andThen_ok];rw[hjunk.1];refine⟨fun _=>⟨by simp,fun b hb _=>cB hb⟩,?_⟩;have hst:fP X.h0 X.lo X.D0 X.mods ([(w.heap.size,.cells (cells++xs++junk).toArray e (0,0))]++μ) D {w with drawn:=w.drawn+1,heap:=w.heap.push (.cells (cells++xs++junk).toArray e (0,0))}:=
  ⟨hpush.hlo,hpush.size,hpush.old,hpush.dold,hpush.agr,hpush.box,hpush.nd,hpush.fz,hpush.env⟩
 exact kk _ _ (aJE ⟨_,c,junk,rfl,hc,rfl,by simp[hcl,hxl,aLW],hjunk.2⟩) _ _ (Hl.put ⟨h1,h2,h3,D,hst,h5,h6.step (fun _ p hp=>by
  rcases aJO.1 hp with hp|hp
  ·exact aJE (by rw[aJR.1 hp];exact aJU _)
  ·exact aJQ (aIY.2 ⟨p,hp,rfl⟩)) (fun _=>⟨by simp,fun b hb _=>⟨cB hb,rfl⟩,rfl⟩) hst.dom⟩ hN _)
end Go.Fs
