/- Of the proof of BookWrites: BW23, File, BW24, Copy, BW25, Eq8, BW26, BW28, Stops, BW27, Lit, BW29, BW30, BW31, BW46, Eq9, BW32, BW33, BW34, BW35. -/
import Derived.Test.YtelhnbcdablgoaaGreatDoorZBookWritesAN
import Derived.Test.YtelhnbcdablgoaaGreatDoorZBookWritesAJ
import Derived.Test.YtelhnbcdablgoaaGreatDoorZBookWritesAE
import Derived.Laws.IdiomStrings
import Derived.Test.YtelhnbcdablgoaaGreatDoorZBookWritesAC
namespace Go.Fs
open Go.Proofs
namespace L12
open C12 Go.Lib
def NB(x:Int):Prop:= -1000≤x∧x≤100000
def aAO(s:aN):Int×Int:=if C1.dC s.row (C1.nF s.row 0 ((s.row.places.length:Int)-1))=0 then(C1.UJ (C1.truths s.row) (0:Int).toNat ((s.row.places.length:Int)-1).toNat,C1.OG (C1.truths s.row) (0:Int).toNat ((s.row.places.length:Int)-1).toNat)else(0,0)
def y4(s:aN)(k:Nat):Int×Int:=if C2.kA s.table (C1.fL (k:Int) 0 ((s.table.levels.length:Int)-1))=0 then C2.OJ s.table (s.table.levels.getD (k:Int).toNat 0)else(0,0)
def XR(s:aN):Int:=if C2.kA s.table (C2.nM s.table.last 0 s.table.last)=0 then C2.aEY s.table 0 s.table.last else 0
def JC(s:aN):Int×Int:=if C3.sI s.book (C1.fL (s.book.lines.length:Int) 0 (s.book.lines.length:Int))=0 then L3.u6 (fun s=>s.money) s.book (s.book.lines.length:Int).toNat else(0,0)
def x9(s:aN):Int×Int:=if C3.sI s.book true=0 then L3.u6 (fun s=>s.mixed) s.book s.book.lines.length else(0,0)
structure SD(s:aN):Prop where
 ch:NB (aAO s).1∧NB (aAO s).2
 le:NB (C1.oU s.row)
 wet:∀k,k<s.table.levels.length→NB (y4 s k).1∧NB (y4 s k).2
 dry:NB (XR s)
 lv:∀x∈(L3.dM s.book).1,NB x
 lvn:(L3.dM s.book).1.length≤100
 lev:s.table.levels.length≤6
 mon:NB (JC s).1∧NB (JC s).2
 mix:NB (x9 s).1∧NB (x9 s).2
 wh:NB (L7.eL s.yard).1.1∧NB (L7.eL s.yard).1.2
 su:NB (L7.kJ s.yard).2.1
def r1(s:aN):List UInt8:=pX [99,104,97,105,114,115] (aAO s).1 (aAO s).2
def r2(s:aN):List UInt8:=r1 s++I8 [108,101,97,115,116] (C1.oU s.row)
def r3(s:aN)(k:Nat):List UInt8:=r2 s++(List.range k).flatMap fun i=>pX [119,101,116] (y4 s i).1 (y4 s i).2
def r4(s:aN):List UInt8:=r3 s s.table.levels.length++I8 [100,114,121] (XR s)
def r5(s:aN):List UInt8:=r4 s++[108,101,97,118,101]
def r6(s:aN)(k:Nat):List UInt8:=r5 s++((L3.dM s.book).1.take k).flatMap fun i=>32::itoa i
def r7(s:aN):List UInt8:=r6 s (L3.dM s.book).1.length++[10]
def aCN(s:aN):List UInt8:=r7 s++pX [109,111,110,101,121] (JC s).1 (JC s).2
def r8(s:aN):List UInt8:=if(L3.dM s.book).1=[]then aCN s++pX [109,105,120,101,100] (x9 s).1 (x9 s).2 else r7 s
def r9(s:aN):List UInt8:=r8 s++pX [119,104,111,108,101] (L7.eL s.yard).1.1 (L7.eL s.yard).1.2
def kQ(s:aN):List UInt8:=r9 s++I8 [115,117,114,101] (L7.kJ s.yard).2.1
def wU(ls:List ByteArray):List UInt8×Int:=if(aJ ls).2.2=0 then(kQ (aJ ls).1,0)else([],(aJ ls).2.2)
section
variable{s:aN}
theorem aEF:r1 s=[]++pX [99,104,97,105,114,115] (aAO s).1 (aAO s).2:=rfl
theorem aEZ:r2 s=r1 s++I8 [108,101,97,115,116] (C1.oU s.row):=rfl
theorem aEB:r4 s=r3 s s.table.levels.length++I8 [100,114,121] (XR s):=rfl
theorem aER:r5 s=r4 s++[108,101,97,118,101]:=rfl
theorem aEU:r7 s=r6 s (L3.dM s.book).1.length++[10]:=rfl
theorem IG{k:Nat}:r3 s (k+1)=r3 s k++pX [119,101,116] (y4 s k).1 (y4 s k).2:=by unfold r3;rw[aIF,aHG,aHW,aGN]
theorem ZS{k:Nat}{x:Int}(h:(L3.dM s.book).1[k]?= some x):r6 s (k+1)=r6 s k++((⟨#[32]⟩:ByteArray)++kY (itoa x)).data.toList:=by
 unfold r6;rw[aGT,h]
 simp[kY]
theorem aCK(h:(L3.dM s.book).1=[]):r8 s=aCN s++pX [109,105,120,101,100] (x9 s).1 (x9 s).2:=aGX h
theorem aEE(h:(L3.dM s.book).1≠[]):r8 s=r7 s:=aGQ h
theorem qY(s:aN):kQ s≠[]:=by unfold kQ I8;simp
theorem sZ{w:List UInt8}{lo hi:Int}(h:NB lo∧NB hi):(pX w lo hi).length≤w.length+18:=by
 have h1:=iN h.1.1 h.1.2;have h2:=iN h.2.1 h.2.2
 simp only[pX,aGC,aGM,aIA];omega
theorem HP{w:List UInt8}{n:Int}(h:NB n):(I8 w n).length≤w.length+9:=by
 have h1:=iN h.1 h.2;simp only[I8,aGC,aGM,aIA];omega
variable(h:SD s)
include h
theorem VJ:(r1 s).length≤30:=by have:=sZ (w:=[99,104,97,105,114,115]) h.ch;unfold r1;simp only[aGM,aIA]at this;omega
theorem aCQ:(r2 s).length≤60:=by have:=HP (w:=[108,101,97,115,116]) h.le;have h1:=VJ h;unfold r2;simp only[aGM,aIA]at this;rw[aGC];omega
theorem m5:∀k,k≤s.table.levels.length→(r3 s k).length≤60+30*k
 |0,_=>by have:=aCQ h;unfold r3;simpa using this
 |k+1,hk=>by
  have:=m5 k Yd;have h2:=sZ (w:=[119,101,116]) (h.wet k Yd);rw[IG,aGC];simp only[aGM,aIA]at h2;omega
theorem RE:(r4 s).length≤300:=by have h1:=m5 h _ (aGW _);have h0:=h.lev;have:=HP (w:=[100,114,121]) h.dry;unfold r4;simp only[aGM,aIA]at this;rw[aGC];omega
theorem aDC:(r5 s).length≤310:=by have h1:=RE h;unfold r5;rw[aGC];simp only[aGM,aIA];omega
theorem ES(k:Nat):(r6 s k).length≤1200:=by
 have h1:=aDC h;have key:∀l:List Int,(∀x∈l,NB x)→(l.flatMap fun i=>32::itoa i).length≤8*l.length:=by
  intro l;induction l with
  |nil=>intro _;simp
  |cons a l ih=>
   intro hl;have h1:=iN (hl a Ye).1 (hl a Ye).2;have h2:=ih fun x hx=>hl x (by simp[hx])
   rw[aHS,aGC];simp only[aGM];omega
 have h2:=key ((L3.dM s.book).1.take k) fun x hx=>h.lv x (aKS hx)
 have h3:=h.lvn;have h4:((L3.dM s.book).1.take k).length≤100:=by rw[aHZ];omega
 unfold r6;rw[aGC];omega
theorem CM:(r7 s).length≤1300:=by have h1:=ES h (L3.dM s.book).1.length;unfold r7;rw[aGC];simp only[aGM,aIA];omega
theorem GG:(aCN s).length≤1400:=by have h1:=CM h;have:=sZ (w:=[109,111,110,101,121]) h.mon;unfold aCN;simp only[aGM,aIA]at this;rw[aGC];omega
theorem FX:(r8 s).length≤1500:=by
 unfold r8;split
 ·have h1:=GG h;have:=sZ (w:=[109,105,120,101,100]) h.mix;simp only[aGM,aIA]at this;rw[aGC];omega
 ·have h1:=CM h;omega
theorem VB:(r9 s).length≤1600:=by have h1:=FX h;have:=sZ (w:=[119,104,111,108,101]) h.wh;unfold r9;simp only[aGM,aIA]at this;rw[aGC];omega
end
theorem U6{x:Int}(h:NB x):((⟨#[32]⟩:ByteArray)++kY (itoa x)).size≤10:=by
 have:=iN h.1 h.2;rw[aLC,nV,qC];simp only[aHK,aGM,aIA];omega
theorem tI{b:Nat}{l:List UInt8}{ν B:aC}{h0:H0}{lo:Nat}{D0 D:aA}{w:World}(h:dP b l ν)(hl:l≠[])(hs:fI h0 lo D0 [] (ν++B) D w):IsBuilder 115 5 (max 1 h0.size) b (byteCells l) w∧max 1 h0.size≤w.heap.size:=by
 obtain⟨p,v,ν1,rfl,hp,ha,hcb⟩:=h;have hlen:0<l.length:=aJK.2 hl;obtain⟨g,cap,junk,rfl,hcap,rfl,h1,h2⟩:=ha.some hlen;obtain⟨k1,k2,k3⟩:=hs.box _ (aGI _ aGL);obtain⟨g1,g2,g3⟩:=hs.box _ (aGI _ (aGE _ aGL));have hlo:=hs.hlo;have kb:=hs.agr.ne0 k2;have gb:=hs.agr.ne0 g2
 have hk:lo≤b:=k3.resolve_right Ye;have hg:lo≤g:=g3.resolve_right Ye;have hne:g≠b:=fun e=>by
  have:=hs.nd;simp[e]at this
 have hat:BuilderAt 115 5 (max 1 h0.size) b (.pointer p) (byteCells l) w:=by
  refine⟨by omega,_,k1,⟨by rw[byteCells_length];omega,aGH ⟨g,cap,(bc l++junk).toArray,by rw[byteCells_length],by omega,g1,by rw[byteCells_length];exact hcap,hcb _ _ _ rfl,by simpa using h2,?_⟩⟩,by simp[Value.ownBlock];exact hne⟩;rw[byteCells_length];show(bc l++junk).take (l.length*1)=bc l;rw[←h1,aKP]
 refine⟨?_,?_⟩
 ·rcases hp with rfl|rfl
  ·exact aGR hat
  ·exact aGH hat
 ·have:=aY k1;omega
theorem ML(lv:Value)(ls:List ByteArray)(D:aA)(hS:Sl D RS 1 lv ls)(hV:kC D)(hR0:(aJ ls).2.2=0→SD (aJ ls).1):Fn Tryz.prog 21 #[lv] D (fun _ v=>v=.tuple #[.string (kY (wU ls).1),.int .i64 (wU ls).2]):=by
 refine enter 175 Tryz.func21 rfl rfl rfl rfl fun h0=>C.s1<|Zh rfl<|Zh rfl<|L.n3<|Za rfl<|cB rfl rfl rfl (fun D1 hD1=>A8 _ ls _ (hS.up RS.up (hD1 _ Ye)) (hV.up (hD1 _ Ye))) rfl aLJ (fun v1 D1 hD1 hp1=>?_)
 obtain⟨w1,w2,rfl,⟨pv,cv,hv,lv,mv,bl,bc,yc,yq,rfl,hL⟩,hes⟩:=hp1;have hpl7:(aJ ls).1.row.places.length≤7:=P6 ls;have hln8:(aJ ls).1.book.lines.length≤8:=L0 ls;unfold bO;refine Za rfl<|Zaa rfl<|Zaa rfl<|Zaa rfl<|Zw rfl Tf.z42 rfl (fun q1=>bD rfl rfl rfl rfl Tf.s42 Ya Ya (bL.head) (hU hL) trivial<|Zh rfl<|Zh rfl<|L.n4<|Za rfl<|eI rfl rfl rfl rfl trivial<|L.n1 ?_);refine aE rfl (fun hc1=>?_) (fun hc1=>?_)
 ·have hf:(aJ ls).2.2≠0:=by simpa using hc1
  refine C.s1<|Za rfl<|Zh rfl<|Zh rfl<|L.n5<|Zaj ?_;exact Zm [_,_] rfl C.rs (fun D hD=>by unfold wU;rw[aGQ hf];rfl)
 ·have hf:(aJ ls).2.2=0:=by simpa using hc1
  have hR:=hR0 hf;have hlev6:=hR.lev;have hlvn:=hR.lvn;refine C.kn<|C.s1<|Zw rfl Tf.z115 rfl (fun q2=>L.n3<|bB rfl rfl rfl rfl trivial<|Zh rfl<|L.n3<|bB rfl rfl rfl rfl trivial<|Zh rfl<|L.n2 ?_);have hbb0:dP q2 [] [(q2,.cells [.pointer none,.slice none 0 0].toArray 115 (0,0))]:=⟨none,_,[],rfl,aGR rfl,bN.nil,A2 Yag⟩
  refine C.rg<|Zi rfl Tf.f42_0 rfl<|dA rfl Tf.a28 Tf.s28 rfl (List.Mem.tail _ (List.Mem.head _)) rfl rfl GT rfl trivial<|Zi rfl Tf.f42_0 rfl<|Zi rfl Tf.f28_0 rfl<|Zl rfl Tf.a25 rfl (List.Mem.tail _ (List.Mem.head _)) rfl<|aV rfl U25 rfl (hL.pl.up RI.up (Le.refl _)) rfl rfl trivial<|fJ rfl rfl rfl Yf rfl trivial<|Zc rfl (fun D2 hD2=>H6 _ (aJ ls).1.row 0 (((aJ ls).1.row.places.length:Int)-1) _ (hL.row.up (hD2 _ Ye)))<|Za rfl<|Zaa rfl<|Zaa rfl ?_;refine Zw rfl Tf.z88 rfl (fun q3=>Zu rfl Tf.s88 (bL.head)<|Zh rfl<|L.n3<|Za rfl<|Zi rfl Tf.f88_0 rfl<|Zl rfl Tf.a3 rfl (List.Mem.head _) rfl<|Zi rfl Tf.f88_1 rfl<|Zl rfl Tf.a3 rfl (List.Mem.head _) rfl<|H4 (List.Sublist.cons _ (LT _))<|Ze [] [(q1,_)] [(q2,_)] rfl (Or.inl rfl) hbb0.unf (fun D20 hD20=>tK ⟨#[99,104,97,105,114,115]⟩ (aAO (aJ ls).1).1 (aAO (aJ ls).1).2 q2 ([]) [(q2,_)] _ (hV.up (hD20 _ Ye)) Yag hR.ch.1 hR.ch.2 hbb0 (by have:=(show([]:List UInt8).length≤0 from aGW 0);omega)) (fun _ _ _ h=>h.elim) (fun v20 D21 ν20 hD21 hbb20=>aF ((ν20++[(q1,.cells (bO (aJ ls).1 pv cv hv lv mv bl bc yc yq).toArray 42 (0,0))])) rfl ?_))
  replace hbb20:dP q2 (r1 (aJ ls).1) ν20:=by first|exact hbb20|(rw[aEF];exact hbb20)|(simpa [r1]using hbb20)
  refine L.n3<|Zi rfl Tf.f42_0 rfl<|dA rfl Tf.a28 Tf.s28 rfl (aFZ _ (List.Mem.head _)) rfl rfl GT rfl trivial<|Zc rfl (fun D3 hD3=>L1.UO _ (aJ ls).1.row _ (hL.row.up (hD3 _ Ye)))<|Za rfl<|Zaa rfl<|Zaa rfl<|Zh rfl<|Zh rfl<|L.n3<|Za rfl<|Za rfl ?_;refine Ze [] [(q1,_)] ν20 rfl (Or.inl rfl) hbb20.unf (fun D22 hD22=>j2 ⟨#[108,101,97,115,116]⟩ (C1.oU (aJ ls).1.row) q2 (r1 (aJ ls).1) ν20 _ (hV.up (hD22 _ Ye)) Yag hR.le hbb20 (by have:=VJ hR;omega)) (fun _ _ _ h=>h.elim) (fun v22 D23 ν22 hD23 hbb22=>aF ((ν22++[(q1,.cells (bO (aJ ls).1 pv cv hv lv mv bl bc yc yq).toArray 42 (0,0))])) rfl ?_)
  replace hbb22:dP q2 (r2 (aJ ls).1) ν22:=by first|exact hbb22|(rw[aEZ];exact hbb22)|(simpa [r2]using hbb22)
  refine L.n4<|Zi rfl Tf.f42_1 rfl<|Zi rfl Tf.f32_3 rfl<|Zl rfl Tf.a25 rfl (aFZ _ (List.Mem.head _)) rfl<|aV rfl U25 rfl (hL.lev.up RI.up (Le.refl _)) rfl rfl trivial<|Za rfl<|L.n1<|Zah<|cJ (γ:=Nat×aC) (fun g=>(aJ ls).1.table.levels.length-g.1) (fun g=>g.1≤(aJ ls).1.table.levels.length∧dP q2 (r3 (aJ ls).1 g.1) g.2) (fun g=>[(73,.int .i64 (g.1:Int))]) [(72,_),(9,_),(8,_),(7,_),(4,_),(3,_),(2,_)] (fun g=>g.2++[(q1,.cells (bO (aJ ls).1 pv cv hv lv mv bl bc yc yq).toArray 42 (0,0))]) (fun g=>[D23,D21,D1,D]) (0,ν22) ⟨by simp,by simpa [r3]using hbb22⟩ ⟨Yb,aLJ⟩ C.rs (LT _) (aD) ?_;rintro⟨k,ν⟩ ⟨h1,hbv⟩;simp only at h1 hbv;refine C.s1<|Zad rfl<|L.n2<|aE rfl (fun hc2=>?_) (fun hc2=>?_)
  ·simp only at hc2;have hkl:k<(aJ ls).1.table.levels.length:=by omega
   refine C.kn<|aL<|Zah<|C.s1<|Za rfl<|Zh rfl<|L.n3<|Zi rfl Tf.f42_1 rfl<|dA rfl Tf.a32 Tf.s32 rfl (aFZ _ (List.Mem.head _)) rfl rfl GT rfl trivial<|Za rfl<|Zc rfl (fun D4 hD4=>L2.UM _ (aJ ls).1.table (k:Int) _ (hL.table.up (hD4 _ Ye)))<|Za rfl ?_;refine Zaa rfl<|Zaa rfl<|Zw rfl Tf.z99 rfl (fun q4=>Zu rfl Tf.s99 (bL.head)<|Zh rfl<|L.n1<|C.rg<|Za rfl<|Zi rfl Tf.f99_0 rfl<|Zl rfl Tf.a3 rfl (List.Mem.head _) rfl<|Zi rfl Tf.f99_1 rfl<|Zl rfl Tf.a3 rfl (List.Mem.head _) rfl ?_);refine H4 (List.Sublist.cons _ (LT _))<|Ze [] [(q1,_)] ν rfl (Or.inl rfl) hbv.unf (fun D24 hD24=>tK ⟨#[119,101,116]⟩ (y4 (aJ ls).1 k).1 (y4 (aJ ls).1 k).2 q2 (r3 (aJ ls).1 k) ν _ (hV.up (hD24 _ Ye)) Yag (hR.wet k hkl).1 (hR.wet k hkl).2 hbv (by have:=m5 hR (k) Yd;omega)) (fun _ _ _ h=>h.elim) (fun v24 D25 ν24 hD25 hbb24=>aF ((ν24++[(q1,.cells (bO (aJ ls).1 pv cv hv lv mv bl bc yc yq).toArray 42 (0,0))])) rfl ?_)
   replace hbb24:dP q2 (r3 (aJ ls).1 (k+1)) ν24:=by rw[IG];exact hbb24
   refine Zz<|Zak<|Zag<|C.rg<|Zx rfl<|Za rfl<|Zz ?_;exact aH 21 (k+1,ν24) ⟨by simp only;omega,hbb24⟩ Yn ⟨Yb,aLJ⟩ rfl rfl (LT _) (fun D h=>⟨D,LE _ (h),Le.refl D⟩)
  ·obtain rfl:k=(aJ ls).1.table.levels.length:=by simp only at hc2;omega
   refine aR<|Zai<|Zai<|Zal<|Zag<|C.s1<|Zi rfl Tf.f42_1 rfl<|dA rfl Tf.a32 Tf.s32 rfl (aFZ _ (List.Mem.head _)) rfl rfl GT rfl trivial<|Zi rfl Tf.f42_1 rfl<|Zi rfl Tf.f32_0 rfl<|Zl rfl Tf.a3 rfl (aFZ _ (List.Mem.head _)) rfl<|Zc rfl (fun D5 hD5=>L2.aDK _ (aJ ls).1.table 0 (aJ ls).1.table.last _ (hL.table.up (hD5 _ Ye))) ?_;refine Za rfl<|Zaa rfl<|Zaa rfl<|Zh rfl<|Zh rfl<|L.n3<|Za rfl<|Za rfl<|Ze [] [(q1,_)] ν rfl (Or.inl rfl) hbv.unf (fun D26 hD26=>j2 ⟨#[100,114,121]⟩ (XR (aJ ls).1) q2 (r3 (aJ ls).1 (aJ ls).1.table.levels.length) ν _ (hV.up (hD26 _ Ye)) Yag hR.dry hbv (by have:=m5 hR ((aJ ls).1.table.levels.length) Yd;omega)) (fun _ _ _ h=>h.elim) (fun v26 D27 ν26 hD27 hbb26=>aF ((ν26++[(q1,.cells (bO (aJ ls).1 pv cv hv lv mv bl bc yc yq).toArray 42 (0,0))])) rfl ?_)
   replace hbb26:dP q2 (r4 (aJ ls).1) ν26:=by first|exact hbb26|(rw[aEB];exact hbb26)|(simpa [r4]using hbb26)
   refine L.n3<|Ze [] [(q1,_)] ν26 rfl (Or.inl rfl) hbb26.unf (fun D28 hD28=>iX q2 ⟨#[108,101,97,118,101]⟩ (r4 (aJ ls).1) ν26 _ hbb26 (by have:=RE hR;have hz:=(show(⟨#[108,101,97,118,101]⟩:ByteArray).size=5 from rfl);omega)) (fun _ _ _ h=>h.elim) (fun v28 D29 ν28 hD29 hbb28=>aF ((ν28++[(q1,.cells (bO (aJ ls).1 pv cv hv lv mv bl bc yc yq).toArray 42 (0,0))])) rfl ?_);replace hbb28:dP q2 (r5 (aJ ls).1) ν28:=by first|exact hbb28|(rw[aER];exact hbb28)|(simpa [r5]using hbb28)
   refine L.n3<|Zi rfl Tf.f42_2 rfl<|dA rfl Tf.a36 Tf.s36 rfl (aFZ _ (List.Mem.head _)) rfl rfl GT rfl trivial<|cB rfl rfl rfl (fun D6 hD6=>L3.QC _ (aJ ls).1.book _ (hL.book.up (hD6 _ Ye))) rfl aLJ (fun v6 D6 hD6 hp6=>?_);obtain⟨lvv,rfl,hlv⟩:=hp6;obtain⟨lva,lvc,rfl⟩:=hlv.shape;refine Za rfl<|Zaa rfl<|Zaa rfl<|Zh rfl<|Zh rfl<|L.n4<|Za rfl<|aV rfl U25 rfl hlv rfl rfl trivial<|Za rfl<|L.n1<|Zah<|cJ (γ:=Nat×aC) (fun g=>(L3.dM (aJ ls).1.book).1.length-g.1) (fun g=>g.1≤(L3.dM (aJ ls).1.book).1.length∧dP q2 (r6 (aJ ls).1 g.1) g.2) (fun g=>[(111,.int .i64 (g.1:Int))]) [(110,_),(109,_),(19,_),(9,_),(8,_),(7,_),(4,_),(3,_),(2,_)] (fun g=>g.2++[(q1,.cells (bO (aJ ls).1 pv cv hv lv mv bl bc yc yq).toArray 42 (0,0))]) (fun g=>[D6,D29,D27,D23,D21,D1,D]) (0,ν28) ⟨by simp,by simpa [r6]using hbb28⟩ ⟨Yb,aLJ⟩ C.rs (LT _) (aD) ?_;rintro⟨k,ν⟩ ⟨h1,hbv⟩;simp only at h1 hbv;refine C.s1<|Zad rfl<|L.n2<|aE rfl (fun hc3=>?_) (fun hc3=>?_)
   ·simp only at hc3;have hkl:k<(L3.dM (aJ ls).1.book).1.length:=by omega
    obtain⟨x,hx⟩:∃x,(L3.dM (aJ ls).1.book).1[k]?= some x:=⟨_,aGF hkl⟩
    refine C.kn<|aL<|Zah<|C.s1<|Zs rfl U25 Tf.s3 rfl hlv rfl hx (fun b1 o1 cs1 hr1 hcl1 hA1=>?_);obtain rfl:cs1=[.int .i64 _]:=hr1;refine Zf 0 rfl Tf.a3 rfl hA1 rfl<|Zh rfl<|L.n1<|C.rg<|Za rfl<|Zc rfl (fun D7 hD7=>xH x (by have:=hR.lv x (aGD hx);unfold NB at this;simp only[rJ];omega) _ (hV.up (hD7 _ Ye)))<|dZ rfl rfl rfl (by have:=U6 (hR.lv x (aGD hx));rw[aLC]at this;omega) rfl trivial<|Ze [] [(q1,_)] ν rfl (Or.inl rfl) hbv.unf (fun D30 hD30=>iX q2 ((⟨#[32]⟩:ByteArray)++kY (itoa x)) (r6 (aJ ls).1 k) ν _ hbv (by have:=ES hR (k);have hz:=(U6 (hR.lv x (aGD hx)));omega)) (fun _ _ _ h=>h.elim) (fun v30 D31 ν30 hD31 hbb30=>aF ((ν30++[(q1,.cells (bO (aJ ls).1 pv cv hv lv mv bl bc yc yq).toArray 42 (0,0))])) rfl ?_)
    replace hbb30:dP q2 (r6 (aJ ls).1 (k+1)) ν30:=by rw[ZS hx];exact hbb30
    refine Zz<|Zak<|Zag<|C.rg<|Zx rfl<|Za rfl<|Zz ?_;exact aH 11 (k+1,ν30) ⟨by simp only;omega,hbb30⟩ Yn ⟨Yb,aLJ⟩ rfl rfl (LT _) (fun D h=>⟨D,LE _ (h),Le.refl D⟩)
   ·obtain rfl:k=(L3.dM (aJ ls).1.book).1.length:=by simp only at hc3;omega
    refine aR<|Zai<|Zai<|Zal<|Zag<|C.s1<|Ze [] [(q1,_)] ν rfl (Or.inl rfl) hbv.unf (fun D32 hD32=>iX q2 ⟨#[10]⟩ (r6 (aJ ls).1 (L3.dM (aJ ls).1.book).1.length) ν _ hbv (by have:=ES hR ((L3.dM (aJ ls).1.book).1.length);have hz:=(show(⟨#[10]⟩:ByteArray).size=1 from rfl);omega)) (fun _ _ _ h=>h.elim) (fun v32 D33 ν32 hD33 hbb32=>aF ((ν32++[(q1,.cells (bO (aJ ls).1 pv cv hv lv mv bl bc yc yq).toArray 42 (0,0))])) rfl ?_);replace hbb32:dP q2 (r7 (aJ ls).1) ν32:=by first|exact hbb32|(rw[aEU];exact hbb32)|(simpa [r7]using hbb32)
    refine L.n4<|Za rfl<|aV rfl U25 rfl hlv rfl rfl trivial<|dK rfl rfl rfl rfl trivial<|L.n1<|aE rfl (fun hc4=>?_) (fun hc4=>?_)
    ·have hl0:(L3.dM (aJ ls).1.book).1=[]:=List.eq_nil_of_length_eq_zero Yd;refine C.s1<|Zi rfl Tf.f42_2 rfl<|dA rfl Tf.a36 Tf.s36 rfl (aFZ _ (List.Mem.head _)) rfl rfl GT rfl trivial<|Zi rfl Tf.f42_2 rfl<|Zi rfl Tf.f36_3 rfl<|Zl rfl Tf.a33 rfl (aFZ _ (List.Mem.head _)) rfl<|aV rfl U33 rfl (hL.ln.up nX.up (Le.refl _)) rfl rfl trivial<|Zc rfl (fun D8 hD8=>L3.wF _ (aJ ls).1.book ((aJ ls).1.book.lines.length:Int) _ (hL.book.up (hD8 _ Ye)))<|Za rfl<|Zaa rfl<|Zaa rfl<|Zw rfl Tf.z65 rfl (fun q5=>?_);refine Zu rfl Tf.s65 (bL.head)<|Zh rfl<|L.n3<|Zi rfl Tf.f42_2 rfl<|dA rfl Tf.a36 Tf.s36 rfl (List.Mem.tail _ (aFZ _ (List.Mem.head _))) rfl rfl GT rfl trivial<|Zc rfl (fun D9 hD9=>L3.PT _ (aJ ls).1.book _ (hL.book.up (hD9 _ Ye)))<|Za rfl<|Zaa rfl<|Zaa rfl<|Zw rfl Tf.z65 rfl (fun q6=>Zu rfl Tf.s65 (bL.head)<|Zh rfl ?_);refine L.n3<|Za rfl<|Zi rfl Tf.f65_0 rfl<|Zl rfl Tf.a3 rfl (List.Mem.tail _ (List.Mem.head _)) rfl<|Zi rfl Tf.f65_1 rfl<|Zl rfl Tf.a3 rfl (List.Mem.tail _ (List.Mem.head _)) rfl<|Ze [(_,_),(_,_)] [(q1,_)] ν32 rfl (Or.inl rfl) hbb32.unf (fun D34 hD34=>tK ⟨#[109,111,110,101,121]⟩ (JC (aJ ls).1).1 (JC (aJ ls).1).2 q2 (r7 (aJ ls).1) ν32 _ (hV.up (hD34 _ Ye)) Yag hR.mon.1 hR.mon.2 hbb32 (by have:=CM hR;omega)) (fun _ _ _ h=>h.elim) (fun v34 D35 ν34 hD35 hbb34=>aF ((q6,_)::(q5,_)::(ν34++[(q1,.cells (bO (aJ ls).1 pv cv hv lv mv bl bc yc yq).toArray 42 (0,0))])) rfl ?_)
     replace hbb34:dP q2 (aCN (aJ ls).1) ν34:=by first|exact hbb34|(rw[r7m_eq];exact hbb34)|(simpa [aCN]using hbb34)
     refine L.n1<|C.rg<|Za rfl<|Zi rfl Tf.f65_0 rfl<|Zl rfl Tf.a3 rfl (List.Mem.head _) rfl<|Zi rfl Tf.f65_1 rfl<|Zl rfl Tf.a3 rfl (List.Mem.head _) rfl<|H4 (List.Sublist.cons _ (List.Sublist.cons _ (LT _)))<|Ze [] [(q1,_)] ν34 rfl (Or.inl rfl) hbb34.unf (fun D36 hD36=>tK ⟨#[109,105,120,101,100]⟩ (x9 (aJ ls).1).1 (x9 (aJ ls).1).2 q2 (aCN (aJ ls).1) ν34 _ (hV.up (hD36 _ Ye)) Yag hR.mix.1 hR.mix.2 hbb34 (by have:=GG hR;omega)) (fun _ _ _ h=>h.elim) (fun v36 D37 ν36 hD37 hbb36=>aF ((ν36++[(q1,.cells (bO (aJ ls).1 pv cv hv lv mv bl bc yc yq).toArray 42 (0,0))])) rfl ?_);replace hbb36:dP q2 (r8 (aJ ls).1) ν36:=by rw[aCK hl0];exact hbb36
     refine L.n3<|Zi rfl Tf.f42_3 rfl<|dA rfl Tf.a40 Tf.s40 rfl (aFZ _ (List.Mem.head _)) rfl rfl GT rfl trivial<|Zc rfl (fun D10 hD10=>L7.qI _ (aJ ls).1.yard _ (hL.yard.up (hD10 _ Ye)))<|Za rfl<|Zaa rfl<|Zaa rfl<|Zw rfl Tf.z133 rfl (fun q7=>Zu rfl Tf.s133 (bL.head)<|Zh rfl<|L.n3<|Za rfl ?_);refine Zi rfl Tf.f133_0 rfl<|Zl rfl Tf.a3 rfl (List.Mem.head _) rfl<|Zi rfl Tf.f133_1 rfl<|Zl rfl Tf.a3 rfl (List.Mem.head _) rfl<|H4 (List.Sublist.cons _ (LT _))<|Ze [] [(q1,_)] ν36 rfl (Or.inl rfl) hbb36.unf (fun D38 hD38=>tK ⟨#[119,104,111,108,101]⟩ ((L7.eL (aJ ls).1.yard).1).1 ((L7.eL (aJ ls).1.yard).1).2 q2 (r8 (aJ ls).1) ν36 _ (hV.up (hD38 _ Ye)) Yag hR.wh.1 hR.wh.2 hbb36 (by have:=FX hR;omega)) (fun _ _ _ h=>h.elim) (fun v38 D39 ν38 hD39 hbb38=>aF ((ν38++[(q1,.cells (bO (aJ ls).1 pv cv hv lv mv bl bc yc yq).toArray 42 (0,0))])) rfl ?_)
     replace hbb38:dP q2 (r9 (aJ ls).1) ν38:=by first|exact hbb38|(rw[r9_eq];exact hbb38)|(simpa [r9]using hbb38)
     refine L.n3<|Zi rfl Tf.f42_3 rfl<|dA rfl Tf.a40 Tf.s40 rfl (aFZ _ (List.Mem.head _)) rfl rfl GT rfl trivial<|cB rfl rfl rfl (fun D11 hD11=>L7.HD _ (aJ ls).1.yard _ (hL.yard.up (hD11 _ Ye))) rfl aLJ (fun v11 D11 hD11 hp11=>?_);obtain⟨suv,rfl,hsu⟩:=hp11;refine Za rfl<|Zaa rfl<|Zaa rfl<|Zaa rfl<|Zh rfl<|Zh rfl<|Zh rfl<|L.n3<|Za rfl<|Za rfl<|Ze [] [(q1,_)] ν38 rfl (Or.inl rfl) hbb38.unf (fun D40 hD40=>j2 ⟨#[115,117,114,101]⟩ ((L7.kJ (aJ ls).1.yard).2.1) q2 (r9 (aJ ls).1) ν38 _ (hV.up (hD40 _ Ye)) Yag hR.su hbb38 (by have:=VB hR;omega)) (fun _ _ _ h=>h.elim) (fun v40 D41 ν40 hD41 hbb40=>aF ((ν40++[(q1,.cells (bO (aJ ls).1 pv cv hv lv mv bl bc yc yq).toArray 42 (0,0))])) rfl ?_)
     replace hbb40:dP q2 (kQ (aJ ls).1) ν40:=by first|exact hbb40|(rw[reportL_eq];exact hbb40)|(simpa [kQ]using hbb40)
     refine L.n3<|H1 (post:=fun r=>r=.string (kY (kQ (aJ ls).1))) rfl rfl rfl rfl (EF.of Tryz.func53 rfl rfl) (fun D w hw=>(Go.Proofs.Tryz.Builder_String_any (max 1 h0.size) q2 (kQ (aJ ls).1) w (tI hbb40 (qY _) hw).1 (tI hbb40 (qY _) hw).2).mono ?_) rfl aLJ (fun r hr=>?_)
     ·rintro e w1 ⟨rfl,hbl⟩;exact⟨_,rfl,hbl,rfl⟩
     subst hr;refine Zh rfl<|Zh rfl<|L.n5 ?_;exact Zm [_,_] rfl C.rs (fun D hD=>by unfold wU;rw[aGX hf];rfl)
    ·have hl0:(L3.dM (aJ ls).1.book).1≠[]:=fun h=>hc4 (by rw[h];rfl)
     have hb8:dP q2 (r8 (aJ ls).1) ν32:=by rw[aEE hl0];exact hbb32
     refine C.kn<|C.s1<|Zi rfl Tf.f42_3 rfl<|dA rfl Tf.a40 Tf.s40 rfl (aFZ _ (List.Mem.head _)) rfl rfl GT rfl trivial<|Zc rfl (fun D12 hD12=>L7.qI _ (aJ ls).1.yard _ (hL.yard.up (hD12 _ Ye)))<|Za rfl<|Zaa rfl<|Zaa rfl<|Zw rfl Tf.z133 rfl (fun q8=>Zu rfl Tf.s133 (bL.head)<|Zh rfl<|L.n3 ?_);refine Za rfl<|Zi rfl Tf.f133_0 rfl<|Zl rfl Tf.a3 rfl (List.Mem.head _) rfl<|Zi rfl Tf.f133_1 rfl<|Zl rfl Tf.a3 rfl (List.Mem.head _) rfl<|H4 (List.Sublist.cons _ (LT _))<|Ze [] [(q1,_)] ν32 rfl (Or.inl rfl) hb8.unf (fun D42 hD42=>tK ⟨#[119,104,111,108,101]⟩ ((L7.eL (aJ ls).1.yard).1).1 ((L7.eL (aJ ls).1.yard).1).2 q2 (r8 (aJ ls).1) ν32 _ (hV.up (hD42 _ Ye)) Yag hR.wh.1 hR.wh.2 hb8 (by have:=FX hR;omega)) (fun _ _ _ h=>h.elim) (fun v42 D43 ν42 hD43 hbb42=>aF ((ν42++[(q1,.cells (bO (aJ ls).1 pv cv hv lv mv bl bc yc yq).toArray 42 (0,0))])) rfl ?_)
     replace hbb42:dP q2 (r9 (aJ ls).1) ν42:=by first|exact hbb42|(rw[r9_eq];exact hbb42)|(simpa [r9]using hbb42)
     refine L.n3<|Zi rfl Tf.f42_3 rfl<|dA rfl Tf.a40 Tf.s40 rfl (aFZ _ (List.Mem.head _)) rfl rfl GT rfl trivial<|cB rfl rfl rfl (fun D13 hD13=>L7.HD _ (aJ ls).1.yard _ (hL.yard.up (hD13 _ Ye))) rfl aLJ (fun v13 D13 hD13 hp13=>?_);obtain⟨suv,rfl,hsu⟩:=hp13;refine Za rfl<|Zaa rfl<|Zaa rfl<|Zaa rfl<|Zh rfl<|Zh rfl<|Zh rfl<|L.n3<|Za rfl<|Za rfl<|Ze [] [(q1,_)] ν42 rfl (Or.inl rfl) hbb42.unf (fun D44 hD44=>j2 ⟨#[115,117,114,101]⟩ ((L7.kJ (aJ ls).1.yard).2.1) q2 (r9 (aJ ls).1) ν42 _ (hV.up (hD44 _ Ye)) Yag hR.su hbb42 (by have:=VB hR;omega)) (fun _ _ _ h=>h.elim) (fun v44 D45 ν44 hD45 hbb44=>aF ((ν44++[(q1,.cells (bO (aJ ls).1 pv cv hv lv mv bl bc yc yq).toArray 42 (0,0))])) rfl ?_)
     replace hbb44:dP q2 (kQ (aJ ls).1) ν44:=by first|exact hbb44|(rw[reportL_eq];exact hbb44)|(simpa [kQ]using hbb44)
     refine L.n3<|H1 (post:=fun r=>r=.string (kY (kQ (aJ ls).1))) rfl rfl rfl rfl (EF.of Tryz.func53 rfl rfl) (fun D w hw=>(Go.Proofs.Tryz.Builder_String_any (max 1 h0.size) q2 (kQ (aJ ls).1) w (tI hbb44 (qY _) hw).1 (tI hbb44 (qY _) hw).2).mono ?_) rfl aLJ (fun r hr=>?_)
     ·rintro e w1 ⟨rfl,hbl⟩;exact⟨_,rfl,hbl,rfl⟩
     subst hr;refine Zh rfl<|Zh rfl<|L.n5 ?_;exact Zm [_,_] rfl C.rs (fun D hD=>by unfold wU;rw[aGX hf];rfl)
end L12
end Go.Fs
namespace Go.Fs
namespace C12
def sL:Nat→List UInt8→Nat
 |_,[]=>0
 |k,b::t=>(2*k+1)*b.toNat+sL (k+1) t
theorem zW:∀(a b:List UInt8) (k:Nat),sL k (a++b)=sL k a+sL (k+a.length) b
 | [],b,k=>by simp[sL]
 |x::a,b,k=>by
  rw[aIN,sL,sL,zW a b (k+1),aGM,show k+1+a.length=k+(a.length+1) by omega,Nat.add_assoc]
theorem Y5{l:List UInt8}{k:Nat}{b:UInt8}(h:l[k]?= some b):sL 0 (l.take (k+1))=sL 0 (l.take k)+(2*k+1)*b.toNat:=by
 have hk:k<l.length:=(aGJ.1 h).1;rw[aGT,h,zW,aHZ,aKC Yd];simp[sL]
theorem IE:∀(l:List UInt8) (k:Nat),sL k l≤(2*(k+l.length)+1)*256*l.length
 | [],k=>by simp[sL]
 |b::l,k=>by
  have h1:=IE l (k+1);have h2:b.toNat≤256:=by have:=b.toNat_lt;omega
  have h3:(2*k+1)*b.toNat≤(2*(k+(l.length+1))+1)*256:=Nat.mul_le_mul Yd h2;rw[sL,aGM,show k+(l.length+1)=k+1+l.length by omega,Nat.mul_succ];rw[show k+1+l.length=k+(l.length+1) by omega]at h1;rw[show k+1+l.length=k+(l.length+1) by omega];omega
def fZ(i:Nat)(l:List UInt8):Nat:=(37*(i+1)+sL 0 l)%9967
theorem W2(i:Nat)(l:List UInt8):fZ i l<9967:=Nat.mod_lt _ Yag
def jG(n j:Nat):UInt8:=UInt8.ofNat (48+n / 10^j%10)
theorem tJ(n j:Nat):(jG n j).toNat=48+n / 10^j%10:=by
 unfold jG;rw[UInt8.toNat_ofNat'];have:=Nat.mod_lt (n / 10^j) (show 0<10 by decide);omega
def kN(n:Nat):List UInt8:=[jG n 3,jG n 2,jG n 1,jG n 0]
def qD(i:Nat)(l:List UInt8):List UInt8:=[59,59,10]++kN (fZ i l)
def dJ(i:Nat)(l:List UInt8):List UInt8:=[jG l.length 1,jG l.length 0,59]++l++[59]++kN (fZ i l)++[10]
theorem iM(i:Nat)(l:List UInt8):(dJ i l).length=9+l.length:=by simp[dJ,kN];omega
def gN:Nat→List (List UInt8)→List UInt8
 |_,[]=>[]
 |i,l::ls=>dJ i l++gN (i+1) ls
theorem rK:∀(a b:List (List UInt8)) (i:Nat),gN i (a++b)=gN i a++gN (i+a.length) b
 | [],b,i=>by simp[gN]
 |x::a,b,i=>by
  rw[aIN,gN,gN,rK a b (i+1),aGM,aGN,show i+1+a.length=i+(a.length+1) by omega]
def lO(ls:List (List UInt8)):List UInt8:=gN 0 ls
theorem H5{ls:List (List UInt8)}{k:Nat}{l:List UInt8}(h:ls[k]?= some l):lO (ls.take (k+1))=lO (ls.take k)++dJ k l:=by
 have hk:k<ls.length:=(aGJ.1 h).1;unfold lO;rw[aGT,h,rK,aHZ,aKC Yd];simp[gN]
theorem rF:∀(ls:List (List UInt8)) (i m:Nat),(∀l∈ls,l.length≤m)→(gN i ls).length≤(9+m)*ls.length
 | [],i,m,_=>by simp[gN]
 |l::ls,i,m,h=>by
  have h1:=rF ls (i+1) m fun x hx=>h x (by simp[hx])
  have h2:=h l Ye;rw[gN,aGC,iM,aGM,Nat.mul_succ];omega

def kL(c:UInt8):Bool:=decide (48≤c.toNat)&&decide (c.toNat≤57)
def rN(b:List UInt8):Option Nat:=match b with
 |c::d::_=>if kL c=true∧kL d=true∧(c.toNat-48)*10+(d.toNat-48)≤50 then some ((c.toNat-48)*10+(d.toNat-48))else none
 |_=>none
def tF(n:Nat)(b:List UInt8):List UInt8:=[b.getD 2 0,b.getD (3+n) 0,b.getD (8+n) 0]++(b.drop (4+n)).take 4
def eX(i:Nat)(b:List UInt8):Option (List UInt8):=if b.length<9 then none else match rN b with
 |none=>none
 |some n=>if b.length<9+n then none else if tF n b=qD i ((b.drop 3).take n)then some ((b.drop 3).take n)else none
theorem rH{i:Nat}{b l:List UInt8}(h:eX i b=some l):l.length≤50∧9+l.length≤b.length:=by
 unfold eX at h;split at h
 ·cases h
 ·split at h
  ·cases h
  ·rename_i n hn;split at h
   ·cases h
   ·split at h
    ·cases h;have hn50:n≤50:=by
      unfold rN at hn;split at hn
      ·split at hn
       ·rename_i hh;cases hn;exact hh.2.2
       ·cases hn
      ·cases hn
     rw[aHZ,aHU];omega
    ·cases h
end C12
end Go.Fs
namespace Go.Fs
open Go.Proofs
namespace L12
open C12 Go.Lib
theorem GK{s:ByteArray}{k:Nat}{b:UInt8}(h:s.data.toList[k]?= some b):s[k]?= some b:=by
 have hk:k<s.size:=by simpa using(aGJ.1 h).1
 rw[getElem?_pos s k hk];congr 1;obtain⟨h1,h2⟩:=aGJ.1 h;rw[←h2];rfl
theorem B1{s:ByteArray}{k:Nat}{b:UInt8}(h:s.data.toList[k]?= some b)(hs:s.size≤1000):0≤(2*(k:Int)+1)*(b.toNat:Int)∧(2*(k:Int)+1)*(b.toNat:Int)≤1000000:=by
 have hk:k<s.size:=by simpa using(aGJ.1 h).1
 have hb:=b.toNat_lt;have h1:(2*k+1)*b.toNat≤2001*256:=Nat.mul_le_mul Yd Yd;have h2:(2*(k:Int)+1)*(b.toNat:Int)=(((2*k+1)*b.toNat:Nat):Int):=by push_cast;rfl
 rw[h2];omega
theorem e7{s:ByteArray}{k:Nat}(hs:s.size≤1000):sL 0 (s.data.toList.take k)≤1000000000:=by
 have h:=IE (s.data.toList.take k) 0;have hl:(s.data.toList.take k).length≤1000:=by
  rw[aHZ];have:s.data.toList.length=s.size:=rfl;omega
 have h1:(2*(0+(s.data.toList.take k).length)+1)*256*(s.data.toList.take k).length≤2001*256*1000:=Nat.mul_le_mul (Nat.mul_le_mul Yd (aGW _)) hl;omega
def aDV(n k:Nat):List Value:=[if 3<k then .int .u8 (jG n 3).toNat else .int .u8 0,if 2<k then .int .u8 (jG n 2).toNat else .int .u8 0,if 1<k then .int .u8 (jG n 1).toNat else .int .u8 0,if 0<k then .int .u8 (jG n 0).toNat else .int .u8 0]
theorem QX{n k:Nat}(hk:k<4):(aDV n k).take (((3:Int)-(k:Int)).toNat)++[.int .u8 (48+((n / 10^k:Nat):Int)%10)]++(aDV n k).drop (((3:Int)-(k:Int)).toNat+ [Value.int .u8 (48+((n / 10^k:Nat):Int)%10)].length)=aDV n (k+1):=by
 have e:Value.int .u8 (48+((n / 10^k:Nat):Int)%10)=.int .u8 ((jG n k).toNat:Int):=by rw[tJ];rfl
 rw[e];obtain rfl|rfl|rfl|rfl:k=0∨k=1∨k=2∨k=3:=by omega
 all_goals rfl
theorem UH(i:Nat)(s:ByteArray)(hi:i≤100000)(hs:s.size≤1000)(D:aA):Fn Tryz.prog 201 #[.int .i64 (i:Int),.string s] D (fun _ v=>v=.int .i64 ((fZ i s.data.toList:Nat):Int)):=by
 refine enter 28 Tryz.func201 rfl rfl rfl rfl fun h0=>C.s1<|Zh rfl<|L.n3<|Za rfl<|Zx rfl<|wL rfl rfl rfl Yf rfl trivial<|Zh rfl<|L.n4<|Za rfl<|gE rfl U9 rfl rfl rfl trivial<|Za rfl ?_;refine L.n1<|Zah<|cG (γ:=Nat) (fun k=>s.size-k) (fun k=>k≤s.size) (fun k=>[(12,.int .i64 (k:Int)),(5,.int .i64 ((37*(i+1)+sL 0 (s.data.toList.take k):Nat):Int))]) [(11,_),(4,_),(1,_)] (fun k=>[D]) 0 Yd ⟨Yb,(by show some (Value.int _ _)=some (Value.int _ _);congr 2),aLJ⟩ C.rs (aD) ?_
 rintro k hI;refine C.s1<|Zad rfl<|L.n2<|aE rfl (fun hc1=>?_) (fun hc1=>?_)
 ·have hk:k<s.size:=by omega
  obtain⟨b,hb⟩:∃b,s.data.toList[k]?= some b:=⟨_,aGF (by simpa using hk)⟩
  have hb0:=b.toNat_lt;refine C.kn<|aL<|Zah<|C.s1<|Za rfl<|Zh rfl<|L.n1<|C.rg<|Za rfl<|Za rfl<|wL rfl rfl rfl Yf rfl trivial<|Zx rfl ?_;refine Za rfl<|Za rfl<|N4 rfl U9 rfl rfl Yd (by rw[aIH];exact GK hb) rfl trivial<|wM rfl U5 U3 rfl Yf rfl trivial<|wL rfl rfl rfl (by have:=B1 hb hs;simp only[rJ];omega) rfl trivial<|nH rfl rfl rfl (by have:=B1 hb hs;have:=e7 (s:=s) (k:=k) hs;simp only[rJ];omega) rfl trivial<|Zh rfl<|Zz<|Zak<|Zag<|C.rg<|Zx rfl ?_;refine Za rfl<|Zz ?_;exact aH 18 (k+1) Yd Yd ⟨Yb,(by show some (Value.int _ _)=some (Value.int _ _);congr 2;rw[Y5 hb];push_cast;rw[Int.add_assoc]),aLJ⟩ rfl rfl (LT _) (aD)
 ·obtain rfl:k=s.size:=by omega
  rw[aHE (show s.data.toList.length≤s.size by simp)];refine aR<|Zai<|Zai<|Zal<|Zag<|C.s1<|Za rfl<|pK rfl rfl rfl Yd Yd Yf rfl trivial<|Zh rfl<|L.n5 ?_;exact leave1 rfl rfl rfl rfl (fun D hD=>by show Value.int _ _=_;congr 1)
theorem HS(n:Nat)(hn:n≤1000000)(D:aA):Fn Tryz.prog 122 #[.int .i64 (n:Int)] D (fun _ v=>v=.agg (bc (kN n)).toArray):=by
 refine enter 18 Tryz.func122 rfl rfl rfl rfl fun h0=>C.s1<|Zw rfl Tf.z257 rfl (fun q1=>L.n4<|Za rfl<|L.n1<|Zah<|cJ (γ:=Nat) (fun k=>4-k) (fun k=>k≤4) (fun k=>[(4,.int .i64 (k:Int)),(0,.int .i64 ((n / 10^k:Nat):Int))]) [(2,_)] (fun k=>[(q1,.cells (aDV n k).toArray 257 (0,0))]) (fun k=>[D]) 0 Yd ⟨Yb,(by show some (Value.int _ _)=some (Value.int _ _);congr 2;simp),aLJ⟩ ⟨rfl,aLJ⟩ (LT _) (aD) ?_)
 rintro k hI;refine C.s1<|Zad rfl<|L.n2<|aE rfl (fun hc1=>?_) (fun hc1=>?_)
 ·have hk:k<4:=by omega
  have hq:n / 10^k≤n:=Nat.div_le_self _ _;have hq0:(0:Int)≤((n / 10^k:Nat):Int):=Int.natCast_nonneg _;refine C.kn<|aL<|Zah<|C.s1<|Za rfl<|Zh rfl<|L.n3<|Za rfl<|fJ rfl rfl rfl Yf rfl trivial<|Za rfl<|pK rfl rfl rfl Yd Yd Yf rfl trivial<|Zx rfl ?_;refine wM rfl U3 U5 rfl Yf rfl trivial<|dE rfl U257 Tf.s5 rfl rfl Yd Yd rfl trivial<|aX (ws:=aDV n (k+1)) rfl rfl rfl rfl Tf.s5 .head (by simp[aDV]<;>omega) (QX hk) Yi trivial<|L.n1<|C.rg<|Za rfl<|N3 rfl rfl rfl Yd Yd Yf rfl trivial<|Zh rfl<|Zz<|Zak<|Zag<|C.rg ?_;refine Zx rfl<|Za rfl<|Zz ?_;exact aH 17 (k+1) Yd Yd ⟨Yb,(by show some (Value.int _ _)=some (Value.int _ _);congr 2;rw[Nat.pow_succ,←Nat.div_div_eq_div_mul];rfl),aLJ⟩ rfl rfl (LT _) (aD)
 ·obtain rfl:k=4:=by omega
  refine aR<|Zai<|Zai<|Zal<|Zag<|C.s1<|Zt rfl Tf.a257 rfl (List.Mem.head _) (by first|exact Tf.s257|(simp only[aI, *];exact Tf.s257))<|bD rfl rfl rfl rfl Tf.s257 Ya Ya (bL.head) (hZ (kN n)) trivial<|L.n5 ?_;exact Zm [_] rfl ⟨⟨_,_,_,rfl,(List.Mem.head _),Or.inr ⟨Tf.a257,(by first|exact Tf.s257|(simp only[aHK,aI, *];exact Tf.s257)),rfl⟩⟩,aLJ⟩ (fun D hD=>rfl)
theorem yB(i:Nat)(s:ByteArray)(hi:i≤100000)(hs:s.size≤1000)(D:aA):Fn Tryz.prog 121 #[.int .i64 (i:Int),.string s] D (fun _ v=>v=.agg (bc (qD i s.data.toList)).toArray):=by
 refine enter 11 Tryz.func121 rfl rfl rfl rfl fun h0=>C.s1<|Zw rfl Tf.z259 rfl (fun q1=>L.n3<|xD (cs:=[.int .u8 59,.int .u8 59,.int .u8 10]) rfl U255 Tf.s5 Tf.z255 rfl rfl rfl trivial<|Za rfl<|Za rfl<|Zc rfl (fun D1 hD1=>UH i s hi hs _)<|Zc rfl (fun D2 hD2=>HS (fZ i s.data.toList) (by have:=W2 i s.data.toList;omega) _)<|gC (cs:=[.int .u8 59,.int .u8 59,.int .u8 10,.int .u8 ((jG (fZ i s.data.toList) 3).toNat:Int),.int .u8 ((jG (fZ i s.data.toList) 2).toNat:Int),.int .u8 ((jG (fZ i s.data.toList) 1).toNat:Int),.int .u8 ((jG (fZ i s.data.toList) 0).toNat:Int)]) rfl Tf.p259 Tf.z259 rfl Yg rfl trivial<|bD rfl rfl rfl rfl Tf.s259 Ya Ya (bL.head) (hZ (qD i s.data.toList)) trivial<|L.n5 ?_)
 exact Zm [_] rfl ⟨⟨_,_,_,rfl,(GE _),aGH ⟨Tf.a259,(by first|exact Tf.s259|(simp only[aHK,aI, *];exact Tf.s259)),rfl⟩⟩,aLJ⟩ (fun D hD=>rfl)
end L12
end Go.Fs
namespace Go.Fs
variable{P:Program}{X:Cx}{γb:Type}[Membership Nat γb]{bad:γb}{all:Array Oper}{K:Act→World→Prop}{Q:Exit→Act→World→Prop}
variable{σ:bQ}{μ:aC}{Ds:List aA}{os:List (Bool×Nat)}{fl:Bool}{ix:Nat}
variable{d:Nat}{x y z:Operand}{u v:Value}{ty:TypeId}{pos:String}{aft:Array Edge}{g:Option (Nat×Bool)}
def RU:Rd UInt8:=fun _ b cs=>cs=[.int .u8 b.toNat]
theorem RU.up:RU.Up:=fun _ _ _ h=>h
theorem aAF(l:List UInt8):l.flatMap (fun b:UInt8=>[Value.int .u8 b.toNat])=bc l:=by
 induction l with
 |nil=>rfl
 |cons b l ih=>rw[aHS,ih];rfl
theorem jL.bytes{D:aA}{l:List UInt8}(h:Sl D RU 1 v l):jL D v l.length (bc l):=by
 rw[←aAF];exact jL.of (R:=RU) (fun _ _ _ h=>h) (fun _=>rfl) h
theorem QU{l:List UInt8}{i:Nat}{b:UInt8}(h:l[i]?= some b):(bc l)[i]?= some (.int .u8 b.toNat):=by simp[bc,h]
theorem jK.bytes{D:aA}{n:Nat}{l:List UInt8}(h:jK D v n (bc l))(hn:l.length=n)(hb:n≤9223372036854775807):Sl D RU 1 v l:=
 h.sl hn hb fun i x hx=>⟨_,rfl,rfl,by
  have h1:=QU hx;rw[aIR,List.take_one,List.head?_drop,h1];rfl⟩
def rz(n:Nat):List Value:=List.replicate n (.int .u8 0)
theorem G1(a b:Nat):rz (a+b)=rz a++rz b:=by unfold rz;rw[List.replicate_append_replicate]
theorem vB(n:Nat):(rz n).length=n:=by simp[rz]
theorem VH(n:Nat):((Array.range (n*1)).map (#[Value.int .u8 0][· %(#[Value.int .u8 0]:Array Value).size]!)).toList=rz n:=by
 apply aLE;intro i;simp only[aKF,Array.toList_range,aHD,rz,List.getElem?_replicate,aIR];by_cases hi:i<n
 ·rw[aKY hi,aGX hi];simp only[aHM];congr 1;have:i%(#[Value.int .u8 0]:Array Value).size=0:=by simp[Nat.mod_one]
  rw[this];rfl
 ·rw[aJJ Yaj,aGQ hi];rfl
theorem LR{A B C us:List Value}{off:Nat}(h:off=A.length)(h2:us.length=B.length):(A++B++C).take off++us++(A++B++C).drop (off+us.length)=A++us++C:=by
 subst h;have e1:(A++B++C).take A.length=A:=by rw[aGN,aKP]
 have e2:(A++B++C).drop (A.length+us.length)=C:=by rw[h2,←aGC,List.drop_left]
 rw[e1,e2]
theorem IX{t e e' tr:TypeId}{bd od n cd m k:Nat}{xv:Value}{vs us ws:List Value}{μ':aC}{ats:Array TypeId}
  (ho:all[ix]?= some ⟨some d,.call {callee:=.builtin .copy,args:=#[x,y],argTypes:=ats},tr,pos,aft,g⟩) (ht:P.underlying t=some (.slice e)) (hat:ats[0]?= some t) (hs:TS P e 1) (hx:ev σ x=some (.slice (some ⟨bd,od,none⟩) n cd)) (hy:ev σ y=some xv)
  (hsrc:∀a w,Hl X σ μ Ds a w→(Builtin.lenOf xv).run P w=.ok m w∧(Builtin.firstCells 1 k xv).run P w=.ok us.toArray w) (hk:k=Nat.min m n)
  (hm:bL μ bd (.cells vs.toArray e' (0,0)) (.cells ws.toArray e' (0,0)) μ') (hl:od+us.length≤vs.length) (hw:vs.take od++us++vs.drop (od+us.length)=ws) (hc1:∀u∈us,cell1 u=true) (hfl:fl=false∨bd∈bad) (hN:Nat.blt d X.N=true) (hg:cS all σ g)
  (kk:WL P X bad all K Q os ((d,.int .i64 k)::σ) μ' Ds):WL P X bad all K Q ((fl,ix)::os) σ μ Ds:=by
 refine dI ho rfl rfl hg fun a w hh=>?_
 obtain⟨h1,h2,h3,D,h4,h5,h6⟩:=id hh;obtain⟨hlen,hfc⟩:=hsrc a w hh;obtain⟨w',hr,hw'⟩:=fU (P:=P) us 0 w bd od vs e' (h4.box _ hm.mem).1 Yd hc1;rw[Nat.add_zero,hw]at hw';have hcp:(Builtin.copy_ ats tr #[.slice (some ⟨bd,od,none⟩) n cd,xv]).run P w=.ok (.int .i64 k) w':=by
  have e1:(#[Value.slice (some ⟨bd,od,none⟩) n cd,xv]:Array Value)[0]?= some (.slice (some ⟨bd,od,none⟩) n cd):=rfl;have e2:(#[Value.slice (some ⟨bd,od,none⟩) n cd,xv]:Array Value)[1]?= some xv:=rfl;unfold Builtin.copy_;simp only[hat,e1,e2,Sem.run_bind,TU.of ht w,Result.andThen_ok,hlen,hs w,←hk,hfc,hr,Sem.run_pure,goInt]
 have hex:(execOp a.eval ⟨some d,.call {callee:=.builtin .copy,args:=#[x,y],argTypes:=ats},tr,pos,aft,g⟩).run P w=.ok (.value (.int .i64 k)) w':=by
  simp only[execOp,resolve,pure_bind,invoke,builtin];have e1:(#[x,y].map a.eval)=#[.slice (some ⟨bd,od,none⟩) n cd,xv]:=by simp[hh.eval hx,hh.eval hy]
  rw[e1,Sem.run_bind,hcp];rfl
 rw[hex];have hst:=h4.set hm hw' rfl;refine⟨fun hf=>⟨by rw[hw'.1];simp,fun c hc hcb=>?_⟩,kk _ _ (Hl.put ⟨h1,h2,h3,D,hst,h5,h6.step (fun _ p hp=>aGR Yan) (fun _=>gF hw' (aGA.2 ⟨_,hm.mem,rfl⟩)) hst.dom⟩ hN _)⟩
 have hb:bd∈bad:=by
  rcases hfl with h|h
  ·rw[hf]at h;cases h
  ·exact h
 rw[hw'.1,aIS (by rintro rfl;exact hcb hb)]
theorem LF{t e e' tr:TypeId}{bd od n cd:Nat}{s:ByteArray}{vs ws:List Value}{μ':aC}{ats:Array TypeId}
  (ho:all[ix]?= some ⟨some d,.call {callee:=.builtin .copy,args:=#[x,y],argTypes:=ats},tr,pos,aft,g⟩) (ht:P.underlying t=some (.slice e)) (hat:ats[0]?= some t) (hs:TS P e 1) (hx:ev σ x=some (.slice (some ⟨bd,od,none⟩) n cd)) (hy:ev σ y=some (.string s)) (hn:s.size≤n)
  (hm:bL μ bd (.cells vs.toArray e' (0,0)) (.cells ws.toArray e' (0,0)) μ') (hl:od+s.size≤vs.length) (hw:vs.take od++bc s.data.toList++vs.drop (od+(bc s.data.toList).length)=ws) (hfl:fl=false∨bd∈bad) (hN:Nat.blt d X.N=true) (hg:cS all σ g)
  (kk:WL P X bad all K Q os ((d,.int .i64 s.size)::σ) μ' Ds):WL P X bad all K Q ((fl,ix)::os) σ μ Ds:=
 IX (m:=s.size) (k:=s.size) (us:=bc s.data.toList) ho ht hat hs hx hy (fun a w _=>⟨rfl,Go.Lib.run_firstCells_string (P:=P) w 1 s⟩) (aKC hn).symm hm (by rw[iE];exact hl) hw (hZ _) hfl hN hg kk
theorem T8{t e e' e2 tr:TypeId}{bd od n cd bs os' m cs:Nat}{vs us ws xs:List Value}{μ':aC}{ats:Array TypeId}
  (ho:all[ix]?= some ⟨some d,.call {callee:=.builtin .copy,args:=#[x,y],argTypes:=ats},tr,pos,aft,g⟩) (ht:P.underlying t=some (.slice e)) (hat:ats[0]?= some t) (hs:TS P e 1) (hx:ev σ x=some (.slice (some ⟨bd,od,none⟩) n cd)) (hy:ev σ y=some (.slice (some ⟨bs,os',none⟩) m cs)) (hn:m≤n)
  (hsm:(bs,.cells xs.toArray e2 (0,0))∈μ) (hus:(xs.drop os').take m=us) (hul:us.length=m)
  (hm:bL μ bd (.cells vs.toArray e' (0,0)) (.cells ws.toArray e' (0,0)) μ') (hl:od+m≤vs.length) (hw:vs.take od++us++vs.drop (od+us.length)=ws) (hc1:∀u∈us,cell1 u=true) (hfl:fl=false∨bd∈bad) (hN:Nat.blt d X.N=true) (hg:cS all σ g)
  (kk:WL P X bad all K Q os ((d,.int .i64 m)::σ) μ' Ds):WL P X bad all K Q ((fl,ix)::os) σ μ Ds:=
 IX (m:=m) (k:=m) (us:=us) ho ht hat hs hx hy (fun a w hh=>⟨rfl,by
  simp only[Builtin.firstCells];have hbx:w.heap[bs]?= some (.cells xs.toArray e2 (0,0)):=by
   obtain⟨_,_,_,D,h4,_⟩:=hh;exact(h4.box _ hsm).1
  refine iD (by rw[aIR];exact hul) fun j u hj=>kS (cs:=xs.toArray) hbx ?_
  have hjl:=(aGJ.1 hj).1;rw[←hus,aJC Yd,aIQ]at hj;simpa using hj⟩) (aKC hn).symm hm Yd hw hc1 hfl hN hg kk

theorem JN{t e:TypeId}{n b o l:Nat}{k1:IntKind}{i:Int}(ho:all[ix]?= some ⟨some d,.slice t x (some y) none none,ty,pos,aft,g⟩)(ht:P.underlying t=some (.array n e))(hs:TS P e 1)(hx:ev σ x=some (.pointer (some ⟨b,o,none⟩)))
  (hy:ev σ y=some (.int k1 i)) (hi:i=(l:Int)) (h3:l<n)
  (hN:Nat.blt d X.N=true) (hg:cS all σ g) (kk:WL P X bad all K Q os ((d,.slice (some ⟨b,o+l,none⟩) (n-l) (n-l))::σ) μ Ds):WL P X bad all K Q ((fl,ix)::os) σ μ Ds:=by
 subst hi;refine bH ho rfl rfl hN hg (fun ρ hρ w'=>?_) kk;simp only[execOp,hρ x _ hx,hρ y _ hy,aIK,aHM];unfold Instr.sliceAt Instr.sureAddr Instr.sliceBounds Instr.sliceBound asIntOf;have a1:(0:Int)≤(l:Int)∧(l:Int)≤(n:Nat):=by omega
 simp only[Sem.run_bind,TU.of ht w',Result.andThen_ok,hs w',Sem.run_pure,pure_bind,a1,aLA,aII,aIH,aIR];rw[aGQ Yd];simp[Addr.add]
theorem KH{t e:TypeId}{n b o:Nat}(ho:all[ix]?= some ⟨some d,.slice t x none none none,ty,pos,aft,g⟩)(ht:P.underlying t=some (.array n e))(hs:TS P e 1)(hx:ev σ x=some (.pointer (some ⟨b,o,none⟩)))(h3:Nat.beq n 0=false)
  (hN:Nat.blt d X.N=true) (hg:cS all σ g) (kk:WL P X bad all K Q os ((d,.slice (some ⟨b,o,none⟩) n n)::σ) μ Ds):WL P X bad all K Q ((fl,ix)::os) σ μ Ds:=by
 have h3':¬n=0:=fun h=>by subst h;cases h3
 refine bH ho rfl rfl hN hg (fun ρ hρ w'=>?_) kk;simp only[execOp,hρ x _ hx,aIK];unfold Instr.sliceAt Instr.sureAddr Instr.sliceBounds;simp only[Sem.run_bind,TU.of ht w',Result.andThen_ok,hs w',Sem.run_pure,pure_bind,aIR];simp[h3',Addr.add]
theorem PE{t e:TypeId}{b o j n cap:Nat}{k:IntKind}(ho:all[ix]?= some ⟨some d,.slice t x (some y) none none,ty,pos,aft,g⟩)(ht:P.underlying t=some (.slice e))(hs:TS P e 1)(hx:ev σ x=some (.slice (some ⟨b,o,none⟩) n cap))(hy:ev σ y=some (.int k (j:Int)))(hj:j≤n)(hc:j<cap)
  (hN:Nat.blt d X.N=true) (hg:cS all σ g) (kk:WL P X bad all K Q os ((d,.slice (some ⟨b,o+j,none⟩) (n-j) (cap-j))::σ) μ Ds):WL P X bad all K Q ((fl,ix)::os) σ μ Ds:=by
 have ha:(if cap=j then some (⟨b,o,none⟩:Addr)else(some (⟨b,o,none⟩:Addr)).map (·.add (j*1)))=some ⟨b,o+j,none⟩:=by
  rw[aGQ Yd];simp[dW]
 refine bH ho rfl rfl hN hg (fun ρ hρ w'=>?_) kk;simp only[execOp,aIK,aHM,hρ x _ hx,hρ y _ hy];unfold Instr.sliceAt Instr.slice Instr.sliceBounds Instr.sliceBound asIntOf;have hle:(0:Int)≤(j:Int)∧(j:Int)≤(n:Nat):=by omega
 simp only[Sem.run_bind,TU.of ht w',Result.andThen_ok,Sem.run_pure,pure_bind,hs w',hle,aLA,aII,aIH,ha]
theorem Sl.part{α:Type}{R:Rd α}{D:aA}{ad:Option Addr}{n cap i j:Nat}{xs:List α}(h:Sl D R 1 (.slice ad n cap) xs)(h1:i≤j)(h2:j≤n):Sl D R 1 (.slice (if cap=i then ad else ad.map (·.add (i*1))) (j-i) (cap-i)) ((xs.drop i).take (j-i)):=by
 obtain⟨a,c,hv,k1,k2,k3⟩:=h;cases hv;have hlen:((xs.drop i).take (j-i)).length=j-i:=by simp;omega
 refine⟨_,_,by rw[hlen],by omega,by omega,?_⟩;by_cases he:j=i
 ·exact aGR (aJF.1 Yd)
 ·rcases k3 with k3|⟨b,o,rfl,k3⟩
  ·subst k3;simp at h2;omega
  ·refine aGH ⟨b,o+i,by rw[aGQ Yd];simp[dW],fun q z hq=>?_⟩;rw[List.getElem?_take]at hq;split at hq
   ·rw[aIQ]at hq;obtain⟨cs,hr,hc,hA⟩:=k3 _ _ hq;exact⟨cs,hr,hc,by rw[show o+i+q*1=o+(i+q)*1 by omega];exact hA⟩
   ·cases hq
theorem y7{α:Type}{R:Rd α}{t e:TypeId}{D₁:aA}{ad:Option Addr}{n cap i j:Nat}{k1 k2:IntKind}{xs:List α}(ho:all[ix]?= some ⟨some d,.slice t x (some y) (some z) none,ty,pos,aft,g⟩)(ht:P.underlying t=some (.slice e))(hs:TS P e 1)(hx:ev σ x=some (.slice ad n cap))(hS:Sl D₁ R 1 (.slice ad n cap) xs)
  (hy:ev σ y=some (.int k1 (i:Int))) (hz:ev σ z=some (.int k2 (j:Int))) (h1:i≤j) (h2:j≤n)
  (hN:Nat.blt d X.N=true) (hg:cS all σ g) (kk:∀a',Sl D₁ R 1 (.slice a' (j-i) (cap-i)) ((xs.drop i).take (j-i))→WL P X bad all K Q os ((d,.slice a' (j-i) (cap-i))::σ) μ Ds):WL P X bad all K Q ((fl,ix)::os) σ μ Ds:=by
 have hnc:n≤cap:=by obtain⟨a,c,hv,k1,k2,k3⟩:=hS;cases hv;exact k1
 refine bH (v:=.slice (if cap=i then ad else ad.map (·.add (i*1))) (j-i) (cap-i)) ho rfl rfl hN hg (fun ρ hρ w'=>?_) (kk _ (hS.part h1 h2));simp only[execOp,aIK,aHM,hρ x _ hx,hρ y _ hy,hρ z _ hz];unfold Instr.sliceAt Instr.slice Instr.sliceBounds Instr.sliceBound asIntOf;have a1:(0:Int)≤(i:Int)∧(i:Int)≤(j:Nat):=by omega
 have a2:(0:Int)≤(j:Int)∧(j:Int)≤(cap:Nat):=by omega
 simp only[Sem.run_bind,TU.of ht w',Result.andThen_ok,Sem.run_pure,pure_bind,hs w',a1,a2,aLA,aII,aIH]
theorem SI{α:Type}{R:Rd α}{t e:TypeId}{D₁:aA}{ad:Option Addr}{n cap j:Nat}{k2:IntKind}{xs:List α}(ho:all[ix]?= some ⟨some d,.slice t x none (some z) none,ty,pos,aft,g⟩)(ht:P.underlying t=some (.slice e))(hs:TS P e 1)(hx:ev σ x=some (.slice ad n cap))(hS:Sl D₁ R 1 (.slice ad n cap) xs)
  (hz:ev σ z=some (.int k2 (j:Int))) (h2:j≤n)
  (hN:Nat.blt d X.N=true) (hg:cS all σ g) (kk:∀a',Sl D₁ R 1 (.slice a' j cap) (xs.take j)→WL P X bad all K Q os ((d,.slice a' j cap)::σ) μ Ds):WL P X bad all K Q ((fl,ix)::os) σ μ Ds:=by
 have hnc:n≤cap:=by obtain⟨a,c,hv,k1,k2,k3⟩:=hS;cases hv;exact k1
 have hp:=hS.part (aKO j) h2;rw[aJU,aJN,aJN]at hp;refine bH (v:=.slice (if cap=0 then ad else ad.map (·.add (0*1))) j cap) ho rfl rfl hN hg (fun ρ hρ w'=>?_) (kk _ hp);simp only[execOp,aIK,aHM,hρ x _ hx,hρ z _ hz];unfold Instr.sliceAt Instr.slice Instr.sliceBounds Instr.sliceBound asIntOf;have a2:(0:Int)≤(j:Int)∧(j:Int)≤(cap:Nat):=by omega
 simp only[Sem.run_bind,TU.of ht w',Result.andThen_ok,Sem.run_pure,pure_bind,hs w',a2,aLA,aII,aIH,aJN]

theorem mM{t1 t2 e:TypeId}{D₁:aA}{l:List UInt8}(ho:all[ix]?= some ⟨some d,.convert t1 t2 x,ty,pos,aft,g⟩)(h1:P.underlying t1=some (.slice e))(he:P.underlying e=some (.int .u8))(h2:P.underlying t2=some .string)(hx:ev σ x=some v)(hS:Sl D₁ RU 1 v l)(hD:D₁∈Ds)
  (hbad:∀b o c,v=.slice (some ⟨b,o,none⟩) l.length c→l≠[]→b∉bad) (hN:Nat.blt d X.N=true) (hg:cS all σ g) (kk:WL P X bad all K Q os ((d,.string ⟨l.toArray⟩)::σ) μ Ds):WL P X bad all K Q ((fl,ix)::os) σ μ Ds:=
 jA ho rfl rfl hN hg (fun a w hh w' hk=>by
  have key:(Go.convert t1 t2 v).run P w'=.ok (.string ⟨l.toArray⟩) w':=by
   obtain⟨ad,cap,rfl,k1,k2,k3⟩:=hS;rcases k3 with k3|⟨b,o,rfl,k3⟩
   ·subst k3;cases ad with
    |none=>exact Go.run_convert_bytes_nil w' t1 e h1 he _ cap t2 h2
    |some ad=>exact Go.run_convert_bytes_back w' t1 t2 e ad cap [] h1 he h2 (fun j hj=>by cases hj)
   ·refine Go.run_convert_bytes_back w' t1 t2 e ⟨b,o,none⟩ cap l h1 he h2 (fun j hj=>?_);obtain⟨cs,hr,hc,hA⟩:=k3 j l[j] (aGF hj);obtain rfl:cs=[.int .u8 l[j].toNat]:=hr;have hb:b∉bad:=hbad b o cap rfl (fun h=>by subst h;cases hj)
    rw[dW];have:=hh.dataAt hD (hA 0 _ rfl) hb hk;simpa using this
  simp only[execOp,hh.eval hx];rw[Sem.run_bind,key];rfl) kk
end Go.Fs
namespace Go.Fs
open Go.Proofs
namespace L12
open C12 Go.Lib
theorem A0(s:ByteArray):s.data.toList.length=s.size:=rfl
def fW(ls:List ByteArray):List (List UInt8):=ls.map fun x=>x.data.toList
theorem G0{ls:List ByteArray}{k:Nat}{x:ByteArray}(h:ls[k]?= some x):(fW ls)[k]?= some x.data.toList:=by unfold fW;rw[aHD,h];rfl
theorem R6{ls:List ByteArray}(k:Nat)(hn:ls.length≤1000)(hsz:∀l∈ls,l.size≤1000):(lO ((fW ls).take k)).length≤1009000:=by
 have h:=rF ((fW ls).take k) 0 1000 (fun l hl=>by
  obtain⟨x,hx,rfl⟩:=aGA.1 (aKS hl);exact hsz x hx)
 have h2:((fW ls).take k).length≤1000:=by rw[aHZ];unfold fW;rw[aHR];omega
 have h3:(9+1000)*((fW ls).take k).length≤1009*1000:=Nat.mul_le_mul_left _ h2;unfold lO;omega
section
variable{P:Program}{X:Cx}{γb:Type}[Membership Nat γb]{bad:γb}{all:Array Oper}{K:Act→World→Prop}{Q:Exit→Act→World→Prop}{σ:bQ}{μ:aC}{Ds:List aA}{os:List (Bool×Nat)}
theorem uX{b:Nat}{e:TypeId}{fz:Nat×Nat}{cs cs':List Value}(h:cs=cs')(k:WL P X bad all K Q os σ ((b,.cells cs'.toArray e fz)::μ) Ds):WL P X bad all K Q os σ ((b,.cells cs.toArray e fz)::μ) Ds:=h▸k
end
theorem IZ(i:Nat)(s:ByteArray)(hi:i≤100000)(hs:s.size≤1000)(D:aA):Fn Tryz.prog 66 #[.int .i64 (i:Int),.string s] D (fun D' v=>Sl D' RU 1 v (dJ i s.data.toList)):=by
 refine enter 53 Tryz.func66 rfl rfl rfl rfl fun h0=>C.s1<|Zh rfl<|L.n3<|Za rfl<|Za rfl<|Zc rfl (fun D1 hD1=>yB i s hi hs _)<|Za rfl<|gE rfl U9 rfl rfl rfl trivial<|Zc rfl (fun D2 hD2=>HS s.size Yd _)<|Zw rfl Tf.z259 rfl (fun q1=>Zw rfl Tf.z257 rfl (fun q2=>?_));refine bD rfl rfl rfl rfl Tf.s259 Ya Ya (.tail (bL.head)) (hZ (qD i s.data.toList)) trivial<|bD rfl rfl rfl rfl Tf.s257 Ya Ya (bL.head) (hZ (kN s.size)) trivial<|L.n3<|Za rfl<|gE rfl U9 rfl rfl rfl trivial<|Zx rfl<|Zx rfl<|aM (n:=s.size+9) rfl U51 Tf.s5 Tf.z5 rfl Tf.i5 Yb Yb Yd (VH _) rfl aLJ (fun bo=>uX (cs':=[]++rz 2++rz (s.size+7)) (by first|(rw[aHI,←G1];done)|(rw[aHI,←G1];congr 1;omega))<|Zh rfl<|L.n3<|Za rfl ?_);refine JN (l:=2) rfl U257 Tf.s5 rfl rfl rfl Yd rfl trivial<|T8 (us:=bc [jG s.size 1,jG s.size 0]) rfl U51 rfl Tf.s5 rfl rfl Yd (LE _ (GE _)) rfl rfl .head (by simp[vB]<;>omega) (LR rfl rfl) (hZ _) (aGR rfl) rfl trivial<|uX (cs':=bc [jG s.size 1,jG s.size 0]++rz 1++rz (s.size+6)) (by first|(rw[aHI,aGN,←G1];done)|(rw[aHI,aGN,←G1];congr 2;omega))<|L.n3<|Za rfl<|Zi rfl Tf.f259_0 rfl<|dE rfl U255 Tf.s5 rfl rfl Yd Yd rfl trivial<|Zl rfl Tf.a5 rfl (List.Mem.tail _ (List.Mem.tail _ (List.Mem.head _))) rfl<|eY rfl U51 Tf.s5 rfl rfl Yd Yd rfl trivial<|aX (ws:=bc [jG s.size 1,jG s.size 0]++bc [59]++rz (s.size+6)) rfl rfl rfl rfl Tf.s5 .head (by simp[iE,vB]<;>omega) (LR (by simp[iE]<;>omega) rfl) (hZ [59]) trivial<|uX (cs':=bc [jG s.size 1,jG s.size 0,59]++rz s.size++rz 6) (by rw[G1,←aGN];rfl)<|L.n3 ?_;refine Za rfl<|PE (j:=3) rfl U51 Tf.s5 rfl rfl Yd Yd rfl trivial<|Za rfl<|LF (ws:=bc [jG s.size 1,jG s.size 0,59]++bc s.data.toList++rz 6) rfl U51 rfl Tf.s5 rfl rfl Yd .head (by simp[iE,vB]<;>omega) (LR rfl (by rw[iE,vB];rfl)) (aGR rfl) rfl trivial<|uX (cs':=(bc [jG s.size 1,jG s.size 0,59]++bc s.data.toList)++rz 1++rz 5) (by rw[aGN _ (rz 1)];rfl)<|L.n3<|Za rfl<|Za rfl<|gE rfl U9 rfl rfl rfl trivial<|Zx rfl<|PE (j:=3+s.size) rfl U51 Tf.s5 rfl Yb Yd Yd rfl trivial<|Zh rfl ?_;refine L.n3<|Za rfl<|Zi rfl Tf.f259_0 rfl<|dE rfl U255 Tf.s5 rfl rfl Yd Yd rfl trivial<|Zl rfl Tf.a5 rfl (List.Mem.tail _ (List.Mem.tail _ (List.Mem.head _))) rfl<|eY rfl U51 Tf.s5 rfl rfl Yd Yd rfl trivial<|aX (ws:=(bc [jG s.size 1,jG s.size 0,59]++bc s.data.toList)++bc [59]++rz 5) rfl rfl rfl rfl Tf.s5 .head (by simp[iE,vB]<;>omega) (LR (by simp[iE]<;>omega) rfl) (hZ [59]) trivial<|uX (cs':=(bc [jG s.size 1,jG s.size 0,59]++bc s.data.toList++bc [59])++rz 4++rz 1) (by rw[aGN _ (rz 4)];rfl)<|L.n2<|C.drawA [] 2 5 12 (fun _ _ _ h=>bZ (P:=Tryz.prog) (fn:=Tryz.f66) _ _ _ h)<|Za rfl<|PE (j:=1) rfl U51 Tf.s5 rfl rfl Yd Yd rfl aLJ ?_;refine Zi rfl Tf.f259_1 rfl<|KH rfl U257 Tf.s5 rfl rfl rfl trivial<|T8 (us:=bc (kN (fZ i s.data.toList))) (ws:=(bc [jG s.size 1,jG s.size 0,59]++bc s.data.toList++bc [59])++bc (kN (fZ i s.data.toList))++rz 1) rfl U51 rfl Tf.s5 rfl rfl Yd (LE _ (LE _ (GE _))) rfl rfl .head (by simp[iE,vB]<;>omega) (LR (by simp[iE]<;>omega) rfl) (hZ _) (aGR rfl) rfl trivial<|uX (cs':=(bc [jG s.size 1,jG s.size 0,59]++bc s.data.toList++bc [59]++bc (kN (fZ i s.data.toList)))++rz 1++[]) (by rw[aGG])<|L.n3<|Za rfl<|Zi rfl Tf.f259_0 rfl<|dE rfl U255 Tf.s5 rfl rfl Yd Yd rfl trivial<|Zl rfl Tf.a5 rfl (List.Mem.tail _ (List.Mem.tail _ (List.Mem.head _))) rfl<|eY rfl U51 Tf.s5 rfl rfl Yd Yd rfl trivial<|aX (ws:=(bc [jG s.size 1,jG s.size 0,59]++bc s.data.toList++bc [59]++bc (kN (fZ i s.data.toList)))++bc [10]++[]) rfl rfl rfl rfl Tf.s5 .head (by simp[iE,vB,kN]<;>omega) (LR (by simp[iE,kN]<;>omega) rfl) (hZ [10]) trivial<|uX (cs':=bc (dJ i s.data.toList)) (by rw[aGG,←mV,←mV,←mV,←mV];rfl) ?_;refine L.n3<|Za rfl<|Zh rfl<|L.n5 ?_
 have ha:bN 5 1 (.slice (some ⟨bo,0,none⟩) (s.size+9) (s.size+9)) (s.size+9) (bc (dJ i s.data.toList)) [(bo,.cells (bc (dJ i s.data.toList)).toArray 5 (0,0))]:=aGH ⟨bo,s.size+9,[],rfl,aGW _,by rw[aGG],by rw[iE,iM,A0];omega,by rw[aGG,iE,iM,A0];omega⟩;refine eF (A:=[]) (B:=[(_,_),(_,_)]) ha rfl (fun D9 hD9 hF9=>?_);exact leave1 rfl rfl rfl rfl (fun D hD=>(hF9.bytes (by rw[iM,A0];omega) Yd).up RU.up (hD _ Ye))
theorem XU(lv:Value)(ls:List ByteArray)(D:aA)(hS:Sl D RS 1 lv ls)(hn:ls.length≤1000)(hsz:∀l∈ls,l.size≤1000):Fn Tryz.prog 37 #[lv] D (fun D' v=>Sl D' RU 1 v (lO (fW ls))):=by
 have hfl:=fun k=>R6 (ls:=ls) k hn hsz
 refine enter 19 Tryz.func37 rfl rfl rfl rfl fun h0=>C.s1<|Zh rfl<|L.n4<|Za rfl<|aV rfl U22 rfl Yk rfl rfl trivial<|Za rfl<|L.n1<|Zah<|cJ (γ:=Nat×Value×aC) (fun g=>ls.length-g.1) (fun g=>g.1≤ls.length∧bN 5 1 g.2.1 (lO ((fW ls).take g.1)).length (bc (lO ((fW ls).take g.1))) g.2.2) (fun g=>[(7,.int .i64 (g.1:Int)),(2,g.2.1)]) [(6,_),(5,_)] (fun g=>g.2.2++[]) (fun g=>[D]) (0,.slice none 0 0,[]) ⟨by simp,by simpa [lO,gN,bc]using bN.nil⟩ ⟨Yb,Yb,aLJ⟩ C.rs (LT _) (aD) ?_
 rintro⟨k,v,ν⟩ ⟨h1,ha⟩;simp only at h1 ha;have hflk:=hfl k;refine C.s1<|Zad rfl<|L.n2<|aE rfl (fun hc1=>?_) (fun hc1=>?_)
 ·simp only at hc1;have hlt:k<ls.length:=by omega
  obtain⟨x,hx⟩:=C.ge ls k;have hxs:=hsz x (aGD hx);refine C.kn<|aL<|Zah<|C.s1<|Za rfl<|Zs rfl U22 Tf.s9 rfl hS rfl hx (fun b1 o1 cs1 hr1 hcl1 hA1=>?_);obtain rfl:cs1=[.string _]:=hr1;refine Zf 0 rfl Tf.a9 rfl hA1 rfl<|Zh rfl<|Zh rfl<|L.n1<|C.rg<|Za rfl<|Za rfl<|Za rfl<|cB rfl rfl rfl (fun D1 hD1=>IZ k x Yd (hsz x (aGD hx)) _) rfl aLJ (fun v1 D1 hD1 hp1=>bA (A:=[]) (B:=[]) rfl U51 rfl rfl Tf.s5 Tf.z5 rfl Tf.i5 rfl rfl rfl ha (jL.bytes hp1) Ye (by rw[iE,aIR]) (by rw[iE,aIR]) (hZ _) (by rw[iM,A0];omega) (aGR rfl) rfl aLJ (fun v1 ν1 ha1=>?_))
  have ha2:bN 5 1 v1 (lO ((fW ls).take (k+1))).length (bc (lO ((fW ls).take (k+1)))) ν1:=by rw[H5 (G0 hx),aGC,mV];exact ha1
  refine aF (ν1++[]) rfl<|Zh rfl<|Zz<|Zak<|Zag<|C.rg<|Zx rfl<|Za rfl<|Zz ?_;exact aH 16 (k+1,v1,ν1) ⟨by simp only;omega,ha2⟩ Yn ⟨Yb,Yb,aLJ⟩ rfl rfl (LT _) (fun D h=>⟨D,LE _ (h),Le.refl D⟩)
 ·obtain rfl:k=ls.length:=by simp only at hc1;omega
  rw[show(fW ls).take ls.length=(fW ls)from aHE (by simp[fW])]at ha hflk;refine aR<|Zai<|Zai<|Zal<|Zag<|C.s1<|Za rfl<|Zh rfl<|L.n5<|eF (A:=[]) (B:=[]) ha rfl (fun D9 hD9 hF9=>?_);exact leave1 rfl rfl rfl rfl (fun D hD=>(hF9.bytes rfl Yd).up RU.up (hD _ Ye))
theorem BC(lv:Value)(ls:List ByteArray)(D:aA)(hS:Sl D RS 1 lv ls):Fn Tryz.prog 14 #[lv] D (fun D' v=>∃v1,v=.tuple #[v1,.int .i64 (eD ls)]∧Sl D' RU 1 v1 (if eD ls=0 then lO (fW ls)else [])):=by
 refine enter 12 Tryz.func14 rfl rfl rfl rfl fun h0=>C.s1<|Zh rfl<|Zh rfl<|L.n4<|Za rfl<|Zc rfl (fun D1 hD1=>qH _ ls _ (hS.up RS.up (hD1 _ Ye)))<|Zh rfl<|L.n3<|Za rfl<|eI rfl rfl rfl rfl trivial<|L.n1 ?_;refine aE rfl (fun hc1=>?_) (fun hc1=>?_)
 ·have hf:eD ls≠0:=by simpa using hc1
  refine C.s1<|Za rfl<|Zh rfl<|Zh rfl<|L.n5<|Zaj ?_;exact Zm [_,_] rfl C.rs (fun D hD=>⟨_,rfl,by rw[aGQ hf];exact Sl.nil⟩)
 ·have hf:eD ls=0:=by simpa using hc1
  refine C.kn<|C.s1<|Za rfl<|cB rfl rfl rfl (fun D2 hD2=>XU _ ls _ (hS.up RS.up (hD2 _ Ye)) (by have:=X7 hf;omega) (fun l hl=>by have:=N7 hf l hl;omega)) rfl aLJ (fun v2 D2 hD2 hp2=>Zh rfl<|Zh rfl<|L.n5 ?_);exact Zm [_,_] rfl C.rs (fun D hD=>⟨_,by rw[hf];rfl,by rw[aGX hf];exact hp2.up RU.up (hD _ Ye)⟩)
end L12
end Go.Fs
namespace Go.Fs
variable{P:Program}{X:Cx}{γb:Type}[Membership Nat γb]{bad:γb}{all:Array Oper}{K:Act→World→Prop}{Q:Exit→Act→World→Prop}
variable{σ:bQ}{μ:aC}{Ds:List aA}{os:List (Bool×Nat)}{fl:Bool}{ix:Nat}
variable{d:Nat}{x y z:Operand}{u v:Value}{ty:TypeId}{pos:String}{aft:Array Edge}{g:Option (Nat×Bool)}
def gP(l:List Int):List Value:=l.map (.int .u8)
theorem W1{l:List Int}{k:Nat}{n:Int}(h:l[k]?= some n):(gP l)[k]?= some (.int .u8 n):=by simp[gP,h]
theorem oH(dp:Nat){e:TypeId}(hu:P.underlying e=some (.int .u8))(l m:List Int)(w:World):∀(is:List Nat),(∀i∈is,i<l.length∧i<m.length)→
  (Op.eqItems (dp+1) e 1 (gP l).toArray (gP m).toArray is).run P w=.ok (is.all fun i=>l[i]? ==m[i]?) w
 | [],_=>by simp[Op.eqItems,Sem.run_pure]
 |i::is,h=>by
  obtain⟨h1,h2⟩:=h i aGL;have g1:(gP l).toArray[i*1]?= some (.int .u8 l[i]):=by rw[aIR];simpa using W1 (aGF h1)
  have g2:(gP m).toArray[i*1]?= some (.int .u8 m[i]):=by rw[aIR];simpa using W1 (aGF h2)
  simp only[Op.eqItems,Sem.run_bind,dB hu g1,dB hu g2,run_equalIn_int w dp e .u8 .u8 _ _ hu,Result.andThen_ok,List.all_cons,aGF h1,aGF h2];by_cases he:l[i]=m[i]
  ·simp[he,oH dp hu l m w is (fun j hj=>h j (aGE _ hj))]
  ·simp[he,Sem.run_pure]
structure P3(P:Program)(f:Field)(o n:Nat):Prop where
 name:f.name≠ "_"
 eqp:∀(l m:List Int) w,o+n≤l.length→o+n≤m.length→∃u v,(part f.type (gP l).toArray f.offset).run P w=.ok u w∧(part f.type (gP m).toArray f.offset).run P w=.ok v w∧(Op.equalIn 9999 f.type u v).run P w=.ok ((l.drop o).take n==(m.drop o).take n) w
inductive uT(P:Program):Nat→Nat→List Field→Prop
 |nil {o}:uT P o o []
 |cons {o n e f fs} (h:P3 P f o n) (r:uT P (o+n) e fs):uT P o e (f::fs)
theorem uT.le{o e:Nat}{fs:List Field}(h:uT P o e fs):o≤e:=by
 induction h with
 |nil=>exact aGW _
 |cons _ _ ih=>omega
theorem I7(l m:List Int)(o n:Nat):(l.drop o==m.drop o)=(((l.drop o).take n==(m.drop o).take n)&&(l.drop (o+n)==m.drop (o+n))):=by
 rw[aJO];simp only[aKV,aGO];constructor
 ·intro h;exact⟨by rw[h],by rw[←aKA,←aKA,h]⟩
 ·rintro⟨h1,h2⟩;rw[←aIM n (l.drop o),←aIM n (m.drop o),h1,aKA,aKA,h2]
theorem R9(l m:List Int)(w:World){o e:Nat}{fs:List Field}(h:uT P o e fs)(hl:l.length=e)(hm:m.length=e):(Op.eqFields 9999 (gP l).toArray (gP m).toArray fs).run P w=.ok (l.drop o==m.drop o) w:=by
 induction h with
 |nil=>
  rw[aHO Yd,aHO Yd];rfl
 | @cons o n e f fs h r ih=>
  have hle:=r.le;obtain⟨u,v,h1,h2,h3⟩:=h.eqp l m w Yd Yd;rw[Op.eqFields,aGX h.name];simp only[Sem.run_bind,h1,h2,Result.andThen_ok];rw[h3,I7 l m o n];simp only[Result.andThen_ok];cases hx:(l.drop o).take n==(m.drop o).take n with
  |true=>
   simp only[aLF,aHL,aIL,aKB];exact ih hl hm
  |false=>simp only[aKQ,aII,Sem.run_pure,Bool.false_and]
theorem zO{t:TypeId}{n o:Nat}(ha:TA P t true)(hs:TS P t n){l:List Int}(_hl:o+n≤l.length)(w:World):(part t (gP l).toArray o).run P w=.ok (.agg (gP ((l.drop o).take n)).toArray) w:=by
 unfold part;simp only[Sem.run_bind,ha w,Result.andThen_ok,aII,hs w,Sem.run_pure];congr 2;apply Array.ext';simp only[Array.toList_extract,List.extract_eq_take_drop,gP,List.map_drop,List.map_take];congr 1;omega
theorem P3.arr{f:Field}{o n:Nat}{e:TypeId}(hn:f.name≠ "_")(ho:f.offset=o)(ht:P.underlying f.type=some (.array n e))(he:P.underlying e=some (.int .u8))(hc:P.cellsOf e=1)(ha:TA P f.type true)(hs:TS P f.type n):P3 P f o n:=by
 refine⟨hn,fun l m w hl hm=>⟨_,_,by rw[ho];exact zO ha hs hl w,by rw[ho];exact zO ha hs hm w,?_⟩⟩;obtain⟨i,hi⟩:=info_of_underlying he;have h:=run_equalIn_array (P:=P) w 9998 (gP ((l.drop o).take n)).toArray (gP ((m.drop o).take n)).toArray ht hi;have e1:((l.drop o).take n).length=n:=by rw[aHZ,aHU];omega
 have e2:((m.drop o).take n).length=n:=by rw[aHZ,aHU];omega
 rw[hc,oH 9997 he _ _ w (List.range n) (fun j hj=>by have:=aJH.1 hj;omega),mL e1 e2]at h;exact h
def aFR(P:Program)(t:TypeId)(n:Nat):Prop:=P.underlying t=some (.struct (P.fieldsOf t))∧P.stoodInHeld t=false∧P.eqGuardType P.depth t=false∧uT P 0 n (P.fieldsOf t).toList
theorem Z2{t:TypeId}{n:Nat}(h:aFR P t n){l m:List Int}(hl:l.length=n)(hm:m.length=n)(w:World):(Op.equal t (.agg (gP l).toArray) (.agg (gP m).toArray)).run P w=.ok (l==m) w:=by
 have he:=run_equalIn_struct (P:=P) w 9999 t (gP l).toArray (gP m).toArray h.1 h.2.1;show(Op.equalIn (9999+1) t (.agg (gP l).toArray) (.agg (gP m).toArray)).run P w=_;rw[he,R9 l m w h.2.2.2 hl hm];simp
theorem IN{t t':TypeId}{n:Nat}{l m:List Int}(ho:all[ix]?= some ⟨some d,.binOp .eql t x y t',ty,pos,aft,g⟩)(ht:aFR P t n)(hl:l.length=n)(hm:m.length=n)(hx:ev σ x=some (.agg (gP l).toArray))(hy:ev σ y=some (.agg (gP m).toArray))(hN:Nat.blt d X.N=true)(hg:cS all σ g)
  (kk:WL P X bad all K Q os ((d,.bool (l==m))::σ) μ Ds):WL P X bad all K Q ((fl,ix)::os) σ μ Ds:=
 sX ho (fun w=>by
  have hgd:(eqGuard .eql t x y (.agg (gP l).toArray) (.agg (gP m).toArray)).run P w=.ok () w:=by
   simp only[eqGuard,program];simp[Sem.run,ht.2.2.1,go_sem]
  rw[Sem.run_bind,hgd];show((do Pure.pure (Value.bool (←Op.equal t (.agg (gP l).toArray) (.agg (gP m).toArray)))):Sem Value).run P w=_;rw[Sem.run_bind,Z2 ht hl hm];rfl) hx hy hN hg kk
def xB(l:List UInt8):List Int:=l.map fun b=>(b.toNat:Int)
theorem tS{l m:List UInt8}:(xB l==xB m)=decide (l=m):=by
 rw[aJO];simp only[aKV,aGZ];constructor
 ·intro h;have:(xB l).map (fun n:Int=>UInt8.ofNat n.toNat)=(xB m).map (fun n:Int=>UInt8.ofNat n.toNat):=by rw[h]
  simpa [xB,Function.comp_def]using this
 ·rintro rfl;rfl
end Go.Fs
namespace Go.Fs
open Go.Proofs
namespace L12
open C12 Go.Lib
def SZ(c d:UInt8):Nat→Nat
 |0=>0
 |1=>c.toNat-48
 |_=>(c.toNat-48)*10+(d.toNat-48)
theorem tG{x:UInt8}:kL x=true ↔ 48≤x.toNat∧x.toNat≤57:=by unfold kL;simp
theorem aDP{c d:UInt8}{k:Nat}(hk:k<2)(h:∀j,j<k→∀x,[c,d][j]?= some x→kL x=true):SZ c d k≤9:=by
 obtain rfl|rfl:k=0∨k=1:=by omega
 ·exact aKO _
 ·have:=tG.1 (h 0 Yd c rfl);show c.toNat-48≤9;omega
theorem UR{c d x:UInt8}{k:Nat}(hk:k<2)(hx:[c,d][k]?= some x)(h1:48≤x.toNat∧x.toNat≤57):((SZ c d k:Nat):Int)*10+((x.toNat:Int)-48)=((SZ c d (k+1):Nat):Int):=by
 obtain rfl|rfl:k=0∨k=1:=by omega
 ·obtain rfl:c=x:=by simpa using hx
  show(0:Int)*10+_=((c.toNat-48:Nat):Int);omega
 ·obtain rfl:d=x:=by simpa using hx
  show((c.toNat-48:Nat):Int)*10+_=(((c.toNat-48)*10+(d.toNat-48):Nat):Int);omega
theorem YS{c d:UInt8}(h:∀j,j<2→∀x,[c,d][j]?= some x→kL x=true):SZ c d 2≤99∧True:=by
 have h1:=tG.1 (h 0 Yd c rfl);have h2:=tG.1 (h 1 Yd d rfl)
 refine⟨?_,aLJ⟩;show(c.toNat-48)*10+(d.toNat-48)≤99;omega
theorem f9(c d:UInt8)(t:List UInt8):rN (c::d::t)=(if kL c=true∧kL d=true∧(c.toNat-48)*10+(d.toNat-48)≤50 then some ((c.toNat-48)*10+(d.toNat-48))else none):=rfl
theorem XL{c d x:UInt8}{t:List UInt8}{k:Nat}(hk:k<2)(hx:[c,d][k]?= some x)(h:kL x=false):rN (c::d::t)=none:=by
 rw[f9,aGQ];rintro⟨h1,h2, -⟩;obtain rfl|rfl:k=0∨k=1:=by omega
 ·obtain rfl:c=x:=by simpa using hx
  rw[h]at h1;cases h1
 ·obtain rfl:d=x:=by simpa using hx
  rw[h]at h2;cases h2
theorem PQ{c d:UInt8}{t:List UInt8}(h1:kL c=true)(h2:kL d=true)(h:((SZ c d 2:Nat):Int)≤50):rN (c::d::t)=some (SZ c d 2):=by
 have h':(c.toNat-48)*10+(d.toNat-48)≤50:=by have:SZ c d 2=(c.toNat-48)*10+(d.toNat-48):=rfl;omega
 rw[f9,aGX ⟨h1,h2,h'⟩];rfl
theorem OM{c d:UInt8}{t:List UInt8}(h:(50:Int)<((SZ c d 2:Nat):Int)):rN (c::d::t)=none:=by
 have h':50<(c.toNat-48)*10+(d.toNat-48):=by have:SZ c d 2=(c.toNat-48)*10+(d.toNat-48):=rfl;omega
 rw[f9,aGQ];rintro⟨-, -,h3⟩;omega
theorem WY{b:List UInt8}{n:Nat}(h:rN b=some n):n≤50:=by
 unfold rN at h;split at h
 ·split at h
  ·rename_i hh;cases h;exact hh.2.2
  ·cases h
 ·cases h
theorem aEP{α:Type}{l:List α}(h:2≤l.length):∃a b t,l=a::b::t:=by
 match l,h with
 |a::b::t,_=>exact⟨a,b,t,rfl⟩
theorem aEO{α:Type}{l:List α}(h:l.length=4):∃a b c d,l=[a,b,c,d]:=by
 match l,h with
 | [a,b,c,d],_=>exact⟨a,b,c,d,rfl⟩
theorem getD_some{l:List UInt8}{k:Nat}(h:k<l.length):l[k]?= some (l.getD k 0):=by simp[List.getD,aGF h]
theorem RQ{D:aA}{a:Option Addr}{n c:Nat}{x:UInt8}{l:List UInt8}(h:Sl D RU 1 (.slice a n c) (x::l)):∃b o,a=some ⟨b,o,none⟩:=by
 obtain⟨a',c',hv,h1,h2,h3⟩:=h;cases hv;rcases h3 with h3|⟨b,o,rfl,_⟩
 ·cases h3
 ·exact⟨b,o,rfl⟩
theorem SF{D:aA}{b o n c:Nat}{l:List UInt8}(h:Sl D RU 1 (.slice (some ⟨b,o,none⟩) n c) l):At D b o (bc l):=by
 rcases jL.bytes h with⟨a,c',hv,h0,h1⟩|⟨b',o',c',hv,hA⟩
 ·rw[h1];intro j v hj;simp at hj
 ·cases hv;exact hA
theorem X3{n:Nat}{bs:List UInt8}{f0 f1 f2 f3:UInt8}(h:((bs.drop (3+n)).drop 1).take (5-1)=[f0,f1,f2,f3]):tF n bs=[bs.getD 2 0,bs.getD (3+n) 0,bs.getD (8+n) 0,f0,f1,f2,f3]:=by
 unfold tF;rw[aKA,show 3+n+1=4+n by omega]at h;rw[h];rfl
section
variable{i n:Nat}{bs:List UInt8}{f0 f1 f2 f3:UInt8}
theorem a7(h:bs.length<9):eX i bs=none:=aGX h
theorem KN{lb:Bool}(h9:¬bs.length<9)(h1:lb=true→rN bs=some n)(h2:lb=false→rN bs=none)(h:(!lb||decide ((bs.length:Int)<3+(n:Int)+6))=true):eX i bs=none:=by
 unfold eX;rw[aGQ h9];cases lb with
 |false=>rw[h2 rfl]
 |true=>
  rw[h1 rfl];simp only[aLF,Bool.false_or,aGZ]at h;exact aGX Yd
theorem O7(h9:¬bs.length<9)(hn:rN bs=some n)(hl:9+n≤bs.length)(hF:((bs.drop (3+n)).drop 1).take (5-1)=[f0,f1,f2,f3])(h:[bs.getD 2 0,bs.getD (3+n) 0,bs.getD (8+n) 0,f0,f1,f2,f3]=qD i ((bs.drop 3).take (3+n-3))):eX i bs=some ((bs.drop 3).take (3+n-3)):=by
 rw[show 3+n-3=n by omega]at h ⊢
 unfold eX;rw[aGQ h9,hn];simp only[];rw[aGQ Yd,X3 hF,aGX h]
theorem L8(h9:¬bs.length<9)(hn:rN bs=some n)(hl:9+n≤bs.length)(hF:((bs.drop (3+n)).drop 1).take (5-1)=[f0,f1,f2,f3])(h:¬ [bs.getD 2 0,bs.getD (3+n) 0,bs.getD (8+n) 0,f0,f1,f2,f3]=qD i ((bs.drop 3).take (3+n-3))):eX i bs=none:=by
 rw[show 3+n-3=n by omega]at h;unfold eX;rw[aGQ h9,hn];simp only[];rw[aGQ Yd,X3 hF,aGQ h]
end
theorem KI(bv:Value)(c d:UInt8)(t:List UInt8)(D:aA)(hS:Sl D RU 1 bv (c::d::t)):Fn Tryz.prog 123 #[bv] D (fun _ v=>∃(n:Nat) (b:Bool),v=.tuple #[.int .i64 (n:Int),.bool b]∧n≤99∧(b=true→rN (c::d::t)=some n)∧(b=false→rN (c::d::t)=none)):=by
 obtain⟨ba,bcap,rfl⟩:=hS.shape;have hc0:=c.toNat_lt;have hd0:=d.toNat_lt;refine enter 30 Tryz.func123 rfl rfl rfl rfl fun h0=>C.s1<|Zh rfl<|Zh rfl<|L.n3<|Zh rfl<|L.n4<|Za rfl<|SI (j:=2) rfl U51 Tf.s5 rfl hS rfl Ye rfl aLJ (fun ta hT=>gW rfl U51 rfl rfl rfl trivial<|Za rfl<|L.n1 ?_);refine Zah<|cG (γ:=Nat) (fun k=>2-k) (fun k=>k≤2∧∀j,j<k→∀x,[c,d][j]?= some x→kL x=true) (fun k=>[(10,.int .i64 (k:Int)),(4,.int .i64 ((SZ c d k:Nat):Int))]) [(9,_),(8,_),(3,_),(2,_)] (fun k=>[D]) 0 ⟨by omega,fun j hj=>by omega⟩ ⟨Yb,Yb,aLJ⟩ C.rs (aD) ?_
 rintro k ⟨h1,h2⟩;refine C.s1<|Zad rfl<|L.n2<|aE rfl (fun hc1=>?_) (fun hc1=>?_)
 ·have hlt:k<2:=by omega
  obtain⟨x,hx⟩:∃x,[c,d][k]?= some x:=⟨_,aGF (by simpa using hlt)⟩
  have hx0:=x.toNat_lt;have hnk:=aDP hlt h2;refine C.kn<|aL<|Zah<|C.s1<|Zs rfl U51 Tf.s5 rfl hT rfl hx (fun b1 o1 cs1 hr1 hcl1 hA1=>?_);obtain rfl:cs1=[.int .u8 _]:=hr1;refine Zf 0 rfl Tf.a5 rfl hA1 rfl<|Zh rfl<|L.n4<|Za rfl<|Zad rfl<|Za rfl ?_;refine' L.orK 3 (s:=16) (p:=19) rfl (fun hg1=>?_) (fun hg1=>?_) ?_;rotate_left
  ·refine Zb rfl<|eT rfl rfl rfl rfl ⟨_,rfl,rfl⟩<|Zac rfl ?_;exact L.cu 2
  ·refine Zk rfl<|Zk rfl<|Zab rfl ?_;exact L.cu 2
  refine L.n1<|aQ rfl (fun hc2=>?_) (fun hc2=>?_)
  ·refine C.s1<|Zh rfl<|Zh rfl<|L.n5<|Zaj<|aG<|Zaj<|Zaj<|aG<|Zaj ?_;exact Zm [_,_] rfl C.rs (fun D hD=>⟨0,false,rfl,by omega,(fun h=>by cases h),fun _=>XL hlt hx (by unfold kL;simp at hc2 ⊢;omega)⟩)
  ·have hx1:48≤x.toNat∧x.toNat≤57:=by simp at hc2;omega
   have hdg:kL x=true:=by unfold kL;simp[hx1]
   refine C.kn<|C.rg<|Za rfl<|wL rfl rfl rfl Yf rfl trivial<|Za rfl<|fJ rfl rfl rfl Yf rfl trivial<|wM rfl U5 U3 rfl Yf rfl trivial<|Zx rfl<|Zh rfl<|Zz<|Zak<|Zag ?_;refine C.rg<|Zx rfl<|Za rfl<|Zz ?_;exact aH 19 (k+1) ⟨by omega,fun j hj y hy=>by rcases Nat.lt_succ_iff_lt_or_eq.1 hj with h|rfl;exact h2 j h y hy;rw[hx]at hy;cases hy;exact hdg⟩ Yd ⟨Yb,(by show some (Value.int _ _)=some (Value.int _ _);congr 2;have:=UR (c:=c) (d:=d) hlt hx hx1;omega),aLJ⟩ rfl rfl (LT _) (aD)
 ·obtain rfl:k=2:=by omega
  refine aR<|Zai<|Zai<|Zal<|Zag<|C.s1<|Za rfl<|Za rfl<|hP rfl rfl rfl rfl trivial<|Zh rfl<|Zh rfl<|L.n5 ?_;exact Zm [_,_] rfl C.rs (fun D hD=>⟨SZ c d 2,_,rfl,(YS h2).1,fun hb=>PQ (h2 0 Yd c rfl) (h2 1 Yd d rfl) (by simpa using hb),fun hb=>OM (by simpa using hb)⟩)
theorem GQ:aFR Tryz.prog 259 7:=by
 refine⟨by kernel_rfl,by kernel_rfl,by kernel_rfl,?_⟩;have e:(Tryz.prog.fieldsOf 259).toList=[(Tryz.prog.fieldsOf 259)[0]!,(Tryz.prog.fieldsOf 259)[1]!]:=by kernel_rfl
 rw[e];refine .cons (n:=3) (P3.arr (e:=5) (by decide+kernel) Yg Yg Yg Yg ?_ ?_) (.cons (n:=4) (P3.arr (e:=5) (by decide+kernel) Yg Yg Yg Yg ?_ ?_) .nil)
 ·rw[show((Tryz.prog.fieldsOf 259)[0]!).type=255 by kernel_rfl];exact Tf.a255
 ·rw[show((Tryz.prog.fieldsOf 259)[0]!).type=255 by kernel_rfl];exact Tf.s255
 ·rw[show((Tryz.prog.fieldsOf 259)[1]!).type=257 by kernel_rfl];exact Tf.a257
 ·rw[show((Tryz.prog.fieldsOf 259)[1]!).type=257 by kernel_rfl];exact Tf.s257
theorem qF(i:Nat)(bv:Value)(bs:List UInt8)(D:aA)(hi:i≤1000)(hS:Sl D RU 1 bv bs)(hbl:bs.length≤1000000000):Fn Tryz.prog 68 #[.int .i64 (i:Int),bv] D (fun _ v=>∃(s:ByteArray) (b:Bool),v=.tuple #[.string s,.bool b]∧(b=true→eX i bs=some s.data.toList)∧(b=false→eX i bs=none)):=by
 obtain⟨ba,bcap,rfl⟩:=hS.shape;refine enter 59 Tryz.func68 rfl rfl rfl rfl fun h0=>C.s1<|Zh rfl<|Zh rfl<|L.n4<|Za rfl<|aV rfl U51 rfl hS rfl rfl trivial<|Zad rfl<|L.n1<|aE rfl (fun hc1=>?_) (fun hc1=>?_)
 ·refine C.s1<|Zh rfl<|Zh rfl<|L.n5<|Zaj ?_;exact Zm [_,_] rfl C.rs (fun D hD=>⟨_,_,rfl,(fun h=>by cases h),fun _=>a7 Yd⟩)
 ·obtain⟨c2,d2,t2,hcd⟩:=aEP (l:=bs) Yd;have hb9:¬bs.length<9:=by omega
  refine C.kn<|C.s1<|Za rfl<|cB rfl rfl rfl (fun D1 hD1=>KI _ c2 d2 t2 _ (hcd▸hS.up RU.up (hD1 _ Ye))) rfl aLJ (fun v1 D1 hD1 hp1=>?_);obtain⟨n,lb,rfl,hn99,hl1,hl2⟩:=hp1;rw[←hcd]at hl1 hl2;refine Za rfl<|Zaa rfl<|Zaa rfl<|Zh rfl<|Zh rfl<|L.n4<|Za rfl<|Zaf rfl<|Za rfl ?_;refine' L.orK 7 (s:=21) (p:=28) rfl (fun hg1=>?_) (fun hg1=>?_) ?_;rotate_left
  ·refine Zb rfl<|aV rfl U51 rfl hS rfl rfl ⟨_,rfl,rfl⟩<|Zb rfl<|nH rfl rfl rfl Yf rfl ⟨_,rfl,rfl⟩<|nH rfl rfl rfl Yf rfl ⟨_,rfl,rfl⟩<|FZ rfl rfl rfl rfl ⟨_,rfl,rfl⟩<|Zac rfl ?_;exact L.cu 6
  ·refine Zk rfl<|Zk rfl<|Zk rfl<|Zk rfl<|Zk rfl<|Zk rfl<|Zab rfl ?_;exact L.cu 6
  refine L.n1<|aQ rfl (fun hc2=>?_) (fun hc2=>?_)
  ·refine C.s1<|Zh rfl<|Zh rfl<|L.n5<|Zaj ?_;exact Zm [_,_] rfl C.rs (fun D hD=>⟨_,_,rfl,(fun h=>by cases h),fun _=>KN hb9 hl1 hl2 hc2⟩)
  ·obtain⟨hlb,hlen⟩:lb=true∧9+n≤bs.length:=by simp at hc2;refine⟨hc2.1,?_⟩;have:=hc2.2;omega
   have hln:=hl1 hlb;have hn50:=WY hln;refine C.kn<|aL<|C.drawA [] 3 11 998 (fun _ _ _ h=>bZ (P:=Tryz.prog) (fn:=Tryz.f68) _ _ _ h)<|Za rfl<|Za rfl<|Zx rfl<|y7 (i:=3) (j:=3+n) rfl U51 Tf.s5 rfl hS rfl Yb Yd Yd rfl aLJ (fun la hLn=>mM rfl U51 U5 U9 rfl hLn Ye (fun _ _ _ _ _=>GT) rfl trivial<|Za rfl<|Za rfl<|Zx rfl<|tH (j:=3+n) rfl U51 Tf.s5 rfl hS Yb Yd rfl aLJ (fun ea hE=>?_));refine Zh rfl<|Zh rfl<|L.n2<|kK [] 4 [false,false,false,true,true,true,true,true,true,false,true,true,true,true,false,true,false] [.fork [0,1,2,3,4,5,6,7,8,9,10,11] 12 (.fin [13,14,15]) 15 (.fin [12,13,14]),.fin [16]] Tf.follows (fun _ _ _ h=>bZ (P:=Tryz.prog) (fn:=Tryz.f68) _ _ _ h) Yg<|nE<|bE [(false,0),(false,1),(false,2),(true,3),(true,4),(true,5),(true,6),(true,7),(true,8),(false,9),(true,10),(true,11)] rfl<|Za rfl<|Zs rfl U51 Tf.s5 rfl hS rfl (getD_some Yd) (fun b1 o1 cs1 hr1 hcl1 hA1=>?_);obtain rfl:cs1=[.int .u8 _]:=hr1;refine Zf 0 rfl Tf.a5 rfl hA1 rfl<|Za rfl<|Zs rfl U51 Tf.s5 rfl hE rfl (by rw[aIQ];exact getD_some (k:=3+n) Yd) (fun b2 o2 cs2 hr2 hcl2 hA2=>?_)
   obtain rfl:cs2=[.int .u8 _]:=hr2;refine Zf 0 rfl Tf.a5 rfl hA2 rfl<|Za rfl<|Zs rfl U51 Tf.s5 rfl hE rfl (by rw[aIQ,show 3+n+Int.toNat 5=8+n from(by show 3+n+5=8+n;omega)];exact getD_some Yd) (fun b3 o3 cs3 hr3 hcl3 hA3=>?_)
   obtain rfl:cs3=[.int .u8 _]:=hr3;refine Zf 0 rfl Tf.a5 rfl hA3 rfl<|xD (cs:=[.int .u8 ((bs.getD 2 0).toNat:Int),.int .u8 ((bs.getD (3+n) 0).toNat:Int),.int .u8 ((bs.getD (8+n) 0).toNat:Int)]) rfl U255 Tf.s5 Tf.z255 rfl rfl rfl trivial<|Za rfl<|y7 (i:=1) (j:=5) rfl U51 Tf.s5 rfl hE rfl rfl Yd Yd rfl aLJ (fun fa hF=>?_);obtain⟨f0,f1,f2,f3,hF4⟩:=aEO (l:=((bs.drop (3+n)).drop 1).take (5-1)) Yaf;rw[hF4]at hF;obtain⟨fb,fo,rfl⟩:=RQ hF;refine Zz (cX true true rfl rfl ?_ ?_)
   ·refine j3 rfl U257 rfl Yd rfl trivial<|Zz<|aP [(true,13),(false,14),(true,15)] rfl<|cO (cs:=[.int .u8 (f0.toNat:Int),.int .u8 (f1.toNat:Int),.int .u8 (f2.toNat:Int),.int .u8 (f3.toNat:Int)]) rfl Tf.a257 rfl (SF hF) Ye Tf.s257 GT rfl trivial<|gC (cs:=[.int .u8 ((bs.getD 2 0).toNat:Int),.int .u8 ((bs.getD (3+n) 0).toNat:Int),.int .u8 ((bs.getD (8+n) 0).toNat:Int),.int .u8 (f0.toNat:Int),.int .u8 (f1.toNat:Int),.int .u8 (f2.toNat:Int),.int .u8 (f3.toNat:Int)]) rfl Tf.p259 Tf.z259 rfl Yg rfl trivial<|Zw rfl Tf.z259 rfl (fun q1=>Zz<|kW [(false,16)] rfl<|bD rfl rfl rfl rfl Tf.s259 Ya Ya (bL.head) Yi trivial<|Zz<|kE<|Zag ?_);refine aL<|C.drawA [] 1 8 126 (fun _ _ _ h=>bZ (P:=Tryz.prog) (fn:=Tryz.f68) _ _ _ h)<|Za rfl<|Zt rfl Tf.a259 rfl (List.Mem.head _) Tf.s259<|Za rfl<|Za rfl<|Zc rfl (fun D2 hD2=>yB i ⟨((bs.drop 3).take (3+n-3)).toArray⟩ Yd (by show(((bs.drop 3).take (3+n-3))).length≤1000;simp;omega) _)<|IN (l:=xB [bs.getD 2 0,bs.getD (3+n) 0,bs.getD (8+n) 0,f0,f1,f2,f3]) (m:=xB (qD i ((bs.drop 3).take (3+n-3)))) rfl GQ rfl rfl rfl rfl rfl trivial<|Zh rfl<|Zh rfl<|L.n5 ?_
    exact Zm [_,_] rfl C.rs (fun D hD=>⟨_,_,rfl,fun hb=>by rw[tS]at hb;exact O7 hb9 hln hlen hF4 (by simpa using hb),fun hb=>by rw[tS]at hb;exact L8 hb9 hln hlen hF4 (by simpa using hb)⟩)
   ·refine Zw rfl Tf.z259 rfl (fun q1=>Zz<|aP [(true,12),(true,13),(false,14)] rfl<|j3 rfl U257 rfl Yd rfl trivial<|cO (cs:=[.int .u8 (f0.toNat:Int),.int .u8 (f1.toNat:Int),.int .u8 (f2.toNat:Int),.int .u8 (f3.toNat:Int)]) rfl Tf.a257 rfl (SF hF) Ye Tf.s257 GT rfl trivial<|gC (cs:=[.int .u8 ((bs.getD 2 0).toNat:Int),.int .u8 ((bs.getD (3+n) 0).toNat:Int),.int .u8 ((bs.getD (8+n) 0).toNat:Int),.int .u8 (f0.toNat:Int),.int .u8 (f1.toNat:Int),.int .u8 (f2.toNat:Int),.int .u8 (f3.toNat:Int)]) rfl Tf.p259 Tf.z259 rfl Yg rfl trivial<|Zz<|kW [(false,16)] rfl<|bD rfl rfl rfl rfl Tf.s259 Ya Ya (bL.head) Yi trivial<|Zz<|kE<|Zag ?_);refine aL<|C.drawA [] 1 8 126 (fun _ _ _ h=>bZ (P:=Tryz.prog) (fn:=Tryz.f68) _ _ _ h)<|Za rfl<|Zt rfl Tf.a259 rfl (List.Mem.head _) Tf.s259<|Za rfl<|Za rfl<|Zc rfl (fun D2 hD2=>yB i ⟨((bs.drop 3).take (3+n-3)).toArray⟩ Yd (by show(((bs.drop 3).take (3+n-3))).length≤1000;simp;omega) _)<|IN (l:=xB [bs.getD 2 0,bs.getD (3+n) 0,bs.getD (8+n) 0,f0,f1,f2,f3]) (m:=xB (qD i ((bs.drop 3).take (3+n-3)))) rfl GQ rfl rfl rfl rfl rfl trivial<|Zh rfl<|Zh rfl<|L.n5 ?_
    exact Zm [_,_] rfl C.rs (fun D hD=>⟨_,_,rfl,fun hb=>by rw[tS]at hb;exact O7 hb9 hln hlen hF4 (by simpa using hb),fun hb=>by rw[tS]at hb;exact L8 hb9 hln hlen hF4 (by simpa using hb)⟩)
end L12
end Go.Fs
namespace Go.Fs
open Go.Proofs
namespace L12
open C12 Go.Lib
theorem Tf.z9:TZ Tryz.prog 9 (.string ⟨#[]⟩):=TZ.of Yg
section
variable{P:Program}{X:Cx}{Q:Exit→Act→World→Prop}{σ:bQ}{μ:aC}{Ds:List aA}
end
theorem _root_.Go.Fs.jK.strs{D:aA}{v:Value}{n:Nat}{l:List ByteArray}(h:jK D v n (l.map Value.string))(hn:l.length=n)(hb:n≤9223372036854775807):Sl D RS 1 v l:=
 h.sl hn hb fun i x hx=>⟨_,rfl,rfl,by rw[aIR,List.take_one,List.head?_drop,aHD,hx];rfl⟩
theorem BD(s:ByteArray)(a b:Nat):(s.extract a b).data.toList=(s.data.toList.drop a).take (b-a):=by simp[List.extract_eq_take_drop]
end L12
end Go.Fs
namespace Go.Fs
namespace C12
theorem RZ(n j:Nat):kL (jG n j)=true:=by
 unfold kL;rw[tJ];have:=Nat.mod_lt (n / 10^j) (show 0<10 by decide);simp only[aGO,aGZ];omega
theorem YC{n:Nat}(h:n≤50)(t:List UInt8):rN (jG n 1::jG n 0::t)=some n:=by
 have e:((jG n 1).toNat-48)*10+((jG n 0).toNat-48)=n:=by rw[tJ,tJ];omega
 show(if kL (jG n 1)=true∧kL (jG n 0)=true∧((jG n 1).toNat-48)*10+((jG n 0).toNat-48)≤50 then some (((jG n 1).toNat-48)*10+((jG n 0).toNat-48))else none)=_;rw[e,aGX ⟨RZ n 1,RZ n 0,h⟩]
theorem O6(i:Nat)(l t:List UInt8):dJ i l++t=jG l.length 1::jG l.length 0::59::(l++(59::(kN (fZ i l)++10::t))):=by
 simp[dJ]
theorem AV{l x:List UInt8}(k:Nat):(l++x).getD (l.length+k) 0=x.getD k 0:=by
 rw[aHP,aHP,aKM Yd,Nat.add_sub_cancel_left]
theorem PZ{l x:List UInt8}(k:Nat):(l++x).drop (l.length+k)=x.drop k:=by
 rw[aJY,aHO Yd,aHI,Nat.add_sub_cancel_left]
theorem FN(i:Nat)(l t:List UInt8):tF l.length (dJ i l++t)=qD i l:=by
 unfold tF qD;rw[O6];have e1:(jG l.length 1::jG l.length 0::59::(l++(59::(kN (fZ i l)++10::t)))).getD (3+l.length) 0=59:=by
  rw[show 3+l.length=l.length+1+1+1 by omega,aKJ,aKJ,aKJ];exact(AV (l:=l) 0).trans rfl
 have e2:(jG l.length 1::jG l.length 0::59::(l++(59::(kN (fZ i l)++10::t)))).getD (8+l.length) 0=10:=by
  rw[show 8+l.length=(l.length+5)+1+1+1 by omega,aKJ,aKJ,aKJ,AV];rfl
 have e3:(jG l.length 1::jG l.length 0::59::(l++(59::(kN (fZ i l)++10::t)))).drop (4+l.length)=kN (fZ i l)++10::t:=by
  rw[show 4+l.length=(l.length+1)+1+1+1 by omega,aKZ,aKZ,aKZ,PZ];rfl
 rw[e1,e2,e3];rfl
theorem PX(i:Nat)(l t:List UInt8):((dJ i l++t).drop 3).take l.length=l:=by
 rw[O6];show(l++_).take l.length=l;rw[aHN (aGW _),aHT]
theorem KO{l:List UInt8}(h:l.length≤50)(i j:Nat)(t:List UInt8):eX i (dJ j l++t)=if qD j l=qD i l then some l else none:=by
 unfold eX;have e:(dJ j l++t).length=9+l.length+t.length:=by rw[aGC,iM]
 have e2:rN (dJ j l++t)=some l.length:=by rw[O6];exact YC h _
 rw[aGQ Yd,e2];simp only[];rw[aGQ Yd,FN,PX]
theorem EQ{l:List UInt8}(h:l.length≤50)(i:Nat)(t:List UInt8):eX i (dJ i l++t)=some l:=by rw[KO h,aGX rfl]
end C12
end Go.Fs
namespace Go.Fs
open Go.Proofs
namespace L12
open C12 Go.Lib
def mO:Nat→Nat→Nat→List UInt8→List (ByteArray×Nat)
 |0,_,_,_=>[]
 |f+1,i,p,b=>match eX i (b.drop p)with
  |none=>[]
  |some l=>(⟨l.toArray⟩,p+9+l.length)::mO f (i+1) (p+9+l.length) b
def aCP(x:ByteArray×Nat):List Value:=[.string x.1,.int .i64 (x.2:Int)]
def JK(l:List (ByteArray×Nat)):Nat:=match l.getLast? with|none=>0|some x=>x.2
theorem X4(l:List (ByteArray×Nat))(x:ByteArray×Nat):JK (l++[x])=x.2:=by unfold JK;rw[List.getLast?_append,List.getLast?_singleton];rfl
theorem L4:∀(f i p:Nat) (b:List UInt8),(mO f i p b).length≤f
 |0,_,_,_=>aGW _
 |f+1,i,p,b=>by
  unfold mO;split
  ·exact aKO _
  ·rw[aGM];exact Nat.succ_le_succ (L4 f _ _ b)
theorem s6{i p:Nat}{bs:List UInt8}{xs dn:List (ByteArray×Nat)}(h:xs=dn++mO (40-i) i p bs)(hw:eX i (bs.drop p)=none):xs=dn:=by
 rw[h];cases hf:40-i with
 |zero=>exact aGG _
 |succ f=>rw[mO,hw];exact aGG _
theorem BH{i p:Nat}{bs:List UInt8}{xs dn:List (ByteArray×Nat)}{s:ByteArray}(hi:i<40)(h:xs=dn++mO (40-i) i p bs)(hw:eX i (bs.drop p)=some s.data.toList):xs=dn++(s,p+9+s.size)::mO (40-(i+1)) (i+1) (p+9+s.size) bs:=by
 rw[h,show 40-i=(40-(i+1))+1 by omega,mO,hw];rfl
theorem AU(bs:List UInt8)(bv:Value)(Dr:aA)(br:Nat)(hA:At Dr br 0 [bv])(hS:Sl Dr RU 1 bv bs)(hb:bs.length≤1000000000):sK Tryz.prog 67 [.pointer (some ⟨br,0,none⟩)] Dr (mO 40 0 0 bs) aCP:=by
 obtain⟨ba,bcap,rfl⟩:=hS.shape;refine yF 32 Tryz.func67 rfl rfl rfl rfl (fun lo l J Jx hs hsx hY=>l7<|C.s1<|Zh rfl<|L.n2<|B8<|Zag<|C.s1<|Za rfl<|L.n1<|Zah<|wN (γ:=Nat×Nat×List (ByteArray×Nat)) (fun g=>40-g.1) (fun g=>g.1≤40∧g.2.1≤bs.length∧mO 40 0 0 bs=g.2.2++mO (40-g.1) g.1 g.2.1 bs) (fun g=>J g.2.2) (fun g=>[(7,.int .i64 (g.1:Int)),(3,.int .i64 (g.2.1:Int))]) [(0,_),(1,_)] (fun g=>[]) (fun g=>[Dr]) (0,0,[]) ⟨aKO _,aKO _,rfl⟩ rfl ⟨Yb,Yb,aLJ⟩ C.rs (LT _) (aD) ?_);rintro⟨i,p,dn⟩ ⟨h1,h2,hxs⟩;simp only at h1 h2 hxs;refine C.s1<|Zad rfl<|L.n2<|aE rfl (fun hc1=>?_) (fun hc1=>?_)
 ·simp only at hc1;have hi:i<40:=by omega
  refine C.kn<|aL<|Zah<|C.s1<|Za rfl<|Zh rfl<|L.n3<|Za rfl<|Zf 0 rfl Tf.a51 rfl hA rfl<|Za rfl<|tH (j:=p) rfl U51 Tf.s5 rfl hS rfl Yd rfl aLJ (fun ea hE=>cB rfl rfl rfl (fun D1 hD1=>qF i _ (bs.drop p) _ Yd (hE.up RU.up (hD1 _ Ye)) (by rw[aHU];omega)) rfl aLJ (fun v1 D1 hD1 hp1=>?_));obtain⟨s,wb,rfl,hw1,hw2⟩:=hp1;refine Za rfl<|Zaa rfl<|Zaa rfl<|Zh rfl<|Zh rfl<|L.n4<|Za rfl<|Zaf rfl<|L.n1<|aQ rfl (fun hc2=>?_) (fun hc2=>?_)
  ·have hwn:eX i (bs.drop p)=none:=hw2 Yak;refine aR<|Zai<|lQ rfl<|Zai<|Zai<|Zal<|lI ?_;exact gM (P:=Tryz.prog) (fn:=Tryz.f67) (N:=32) (vs:=[]) rfl rfl aLJ (fun D h=>⟨D,by simp only[aGU]at h;subst h;simp,Le.refl D⟩) (aGR (by rw[←s6 hxs hwn]))
  ·have hw:=hw1 Yak;obtain⟨hl50,hl9⟩:=rH hw;rw[aHU]at hl9;have hsz:s.data.toList.length=s.size:=rfl;rw[hsz]at hl9 hl50;have hnx:=BH hi hxs hw;refine C.kn<|C.s1<|Za rfl<|Za rfl<|gE rfl U9 rfl rfl rfl trivial<|Zx rfl<|Zx rfl<|Zx rfl<|Zh rfl<|L.n2 ?_;rw[show((p:Int)+(3+(s.size:Int)+6))=((p+9+s.size:Nat):Int) by omega];refine C.rg<|Za rfl<|Za rfl<|Za rfl<|K7 (l:=l) (J1:=J (dn++[(s,p+9+s.size)])) (J0:=Jx (dn++[(s,p+9+s.size)])) rfl rfl rfl rfl (hs _) (hsx _) (fun D w hd hJ hb hl=>hY dn (s,p+9+s.size) _ D w ⟨_,hnx⟩ hd hJ (fun b hbm=>by obtain⟨q,hq,rfl⟩:=aGA.1 hbm;exact hb q hq) (hl _ Ye)) rfl aLJ (fun b1 J1 hJ1=>Zaf rfl<|L.n1<|aQ rfl (fun hc3=>?_) (fun hc3=>?_))
   ·obtain rfl:b1=false:=by simpa using hc3
    refine H8<|aG<|Zaj<|Zaj<|aG<|qM ?_;exact gM (P:=Tryz.prog) (fn:=Tryz.f67) (N:=32) (vs:=[]) rfl rfl aLJ (fun D h=>⟨D,by simp only[aGU]at h;subst h;simp,Le.refl D⟩) (aGH ⟨_,by rw[hJ1];rfl⟩)
   ·obtain rfl:b1=true:=by simpa using hc3
    refine bR<|Zak<|Zag<|C.rg<|Zx rfl<|Za rfl<|Zz ?_;exact lS 31 (i+1,p+9+s.size,dn++[(s,p+9+s.size)]) ⟨by simp only;omega,by simp only;omega,by simp only;rw[aGN];exact hnx⟩ Yn (by rw[hJ1];rfl) ⟨Yb,Yb,aLJ⟩ rfl rfl (LT _) (fun D h=>⟨D,LE _ (h),Le.refl D⟩)
 ·obtain rfl:i=40:=by simp only at hc1;omega
  refine aR<|Zai<|Zai<|Zal<|lI ?_;exact gM (P:=Tryz.prog) (fn:=Tryz.f67) (N:=32) (vs:=[]) rfl rfl aLJ (fun D h=>⟨D,by simp only[aGU]at h;subst h;simp,Le.refl D⟩) (aGR (by rw[hxs,show mO (40-40) 40 p bs=[]from rfl,aGG]))
theorem CN(bv:Value)(bs:List UInt8)(D:aA)(hS:Sl D RU 1 bv bs)(hb:bs.length≤1000000000):Fn Tryz.prog 38 #[bv] D (fun D' v=>∃br,v=.func (.func 67) #[] #[.pointer (some ⟨br,0,none⟩)]∧sK Tryz.prog 67 [.pointer (some ⟨br,0,none⟩)] D' (mO 40 0 0 bs) aCP):=by
 obtain⟨ba,bcap,rfl⟩:=hS.shape;refine enter 4 Tryz.func38 rfl rfl rfl rfl fun h0=>C.s1<|Zv rfl (fun q1 E1 hE1 hB1=>Zh rfl<|L.n3<|bB rfl rfl rfl rfl trivial<|Zh rfl<|L.n5 ?_)
 exact leave1 rfl rfl rfl rfl (fun D hD=>⟨_,rfl,AU bs _ _ q1 (hB1.up (hD _ Ye)) (hS.up RU.up (hD _ Ye)) hb⟩)
theorem EE(bv:Value)(bs:List UInt8)(D:aA)(hS:Sl D RU 1 bv bs)(hb:bs.length≤1000000000):Fn Tryz.prog 15 #[bv] D (fun D' v=>∃lv,v=.tuple #[lv,.int .i64 (JK (mO 40 0 0 bs):Int)]∧Sl D' RS 1 lv ((mO 40 0 0 bs).map (·.1))):=by
 refine J6 17 Tryz.func15 rfl rfl rfl rfl fun h0=>C.s1<|Zw rfl Tf.z22 rfl (fun q1=>Zw rfl Tf.z3 rfl (fun q2=>L.n4<|Za rfl<|cB rfl rfl rfl (fun D1 hD1=>CN _ bs _ (hS.up RU.up (hD1 _ Ye)) hb) rfl aLJ (fun v1 D1 hD1 hp1=>L.n1<|Zah ?_)))
 obtain⟨br,rfl,hit⟩:=hp1;refine lV (γ:=Value×aC×Nat) (xs:=mO 40 0 0 bs) (enc:=aCP) (Dr:=D1) (fun pre g=>bN 9 1 g.1 (pre.map (·.1)).length ((pre.map (·.1)).map Value.string) g.2.1∧g.2.2=JK pre) (fun _ _ _=>False) (fun g=>[(q2,.cells [.int .i64 (g.2.2:Int)].toArray 3 (0,0)),(q1,.cells [g.1].toArray 22 (0,0))]++g.2.1) (.slice none 0 0,[],0) rfl rfl rfl rfl hit Ye (fun _=>rfl) rfl ⟨bN.nil,rfl⟩ rfl ?_ ?_ (fun _ _ _ _ h=>h.elim)
 ·rintro pre x ⟨v,ν,e⟩ ⟨us,hx⟩ ⟨hac,he⟩ l bd rec hh D7 hD7 hst hpend;obtain⟨sx,px⟩:=x;simp only at hac he;have hpl:pre.length<40:=by have h9:=L4 40 0 0 bs;rw[hx,aGC,aGM]at h9;omega
  refine C.s1<|Zh rfl<|L.n1<|C.rg<|Zh rfl<|Zz ?_;refine fun a w hhh=>qW (A:=[(_,_),(_,_)]++ν) (B:=[(bd,.deferred (some []))]) (r:=rec) (l:=l) (by rfl) hst ?_ a w hhh
  refine Zah<|C.rg<|Zl rfl Tf.a22 rfl (List.Mem.tail _ (List.Mem.head _)) rfl<|Za rfl<|Zp rfl U22 Tf.s9 Tf.z9 rfl rfl rfl rfl (.cons rfl rfl .nil) (fun b901 D901 hD901 hA901=>bA (A:=[(_,_),(_,_)]) (ν:=ν) (B:=[(l,_),(bd,_)]) rfl U22 rfl rfl Tf.s9 Tf.z9 rfl Tf.i9 rfl rfl rfl hac (jL.lit Yk) Ye rfl (by rw[aHR,aIR]) Yi (by rw[aHR];omega) (aGR rfl) rfl aLJ (fun v1 ν1 ha1=>?_));have hI1:bN 9 1 v1 ((pre++[(sx,px)]).map (·.1)).length (((pre++[(sx,px)]).map (·.1)).map Value.string) ν1:=by rw[aGS,aGC,aGS];exact ha1
  refine Za rfl<|aX rfl rfl rfl ha1.cells1 Tf.s22 (.tail .head) Ye rfl ha1.cell1 trivial<|Zn rfl Tf.s3 (bL.head) rfl<|Zz<|Zak ?_;exact fun a w hh=>fH (A:=[(_,_),(_,_)]++ν1) (B:=[(bd,.deferred (some []))]) (v1,ν1,px) ⟨hI1,(X4 pre (sx,px)).symm⟩ rfl rfl a w hh
 ·rintro⟨v,ν,e⟩ bd ⟨hac,he⟩;dsimp only at hac he ⊢
  subst he;obtain⟨va,vn,vcap,rfl⟩:∃a n c,v=.slice a n c:=by rcases hac with⟨a1,h,_⟩|⟨b1,c1,j1,h,_⟩<;>exact⟨_,_,_,h⟩
  refine Zak<|Zag<|aL<|C.drawA [] 1 4 6 (fun _ _ _ h=>h)<|Zl rfl Tf.a22 rfl (List.Mem.tail _ (List.Mem.head _)) rfl<|Zl rfl Tf.a3 rfl (List.Mem.head _) rfl<|G5 rfl rfl rfl rfl Tf.s22 (.tail bL.head) Ye rfl Yi trivial<|Zn rfl Tf.s3 (bL.head) rfl<|L.n5<|eF (A:=[(_,_),(_,_)]) (B:=[(bd,.deferred (some []))]) hac rfl (fun D8 hD8 hF8=>?_);exact oG (vs:=[_,_]) (A:=[(_,_),(_,_)]) rfl rfl rfl ⟨⟨_,_,_,rfl,(LE _ (GE _)),aGR ⟨Tf.a22,rfl⟩⟩,⟨_,_,_,rfl,GE _,aGR ⟨Tf.a3,rfl⟩⟩,aLJ⟩ (fun D hD=>⟨_,rfl,(hF8.strs rfl (by have h9:=L4 40 0 0 bs;rw[aHR];omega)).up RS.up (hD _ Ye)⟩)
end L12
end Go.Fs
namespace Go.Fs
variable{P:Program}{X:Cx}{γb:Type}[Membership Nat γb]{bad:γb}{all:Array Oper}{K:Act→World→Prop}{Q:Exit→Act→World→Prop}
variable{σ:bQ}{μ:aC}{Ds:List aA}{os:List (Bool×Nat)}{fl:Bool}{ix:Nat}
variable{d:Nat}{x y z:Operand}{u v:Value}{ty:TypeId}{pos:String}{aft:Array Edge}{g:Option (Nat×Bool)}
theorem CV{t e tr:TypeId}{sz n cap:Nat}{ad ad':Option Addr}{c':Nat}{ats:Array TypeId}
  (ho:all[ix]?= some ⟨some d,.call {callee:=.builtin .append,args:=#[x,y],argTypes:=ats},tr,pos,aft,g⟩) (ht:P.underlying t=some (.slice e)) (hat:ats[0]?= some t) (hat1:ats[1]?= some t) (hs:TS P e sz)
  (hx:ev σ x=some (.slice ad n cap)) (hy:ev σ y=some (.slice ad' 0 c')) (hcap:n≤cap) (hN:Nat.blt d X.N=true) (hg:cS all σ g)
  (kk:WL P X bad all K Q os ((d,.slice ad n cap)::σ) μ Ds):WL P X bad all K Q ((fl,ix)::os) σ μ Ds:=by
 refine dI ho rfl rfl hg fun a w hh=>?_
 have hex:(execOp a.eval ⟨some d,.call {callee:=.builtin .append,args:=#[x,y],argTypes:=ats},tr,pos,aft,g⟩).run P w=
   ((Builtin.append_ ats tr #[.slice ad n cap,.slice ad' 0 c']).run P w).andThen fun r w'=>.ok (.value r) w':=by
  simp only[execOp,resolve,pure_bind,invoke,builtin];have e1:(#[x,y].map a.eval)=#[.slice ad n cap,.slice ad' 0 c']:=by simp[hh.eval hx,hh.eval hy]
  rw[e1,Sem.run_bind];simp only[Sem.run_pure]
 rw[hex];have hfc:(Builtin.firstCells sz 0 (.slice ad' 0 c')).run P w=.ok ([]:List Value).toArray w:=by
  cases ad' with
  |none=>rfl
  |some a=>simp[Builtin.firstCells,loadCells,loadCellsFrom,Sem.run_pure]
 rw[jU (tr:=tr) (w':=w) ht hat hat1 hs (m:=0) (xs:=[]) rfl hfc hcap (by cases ad<;>rfl)];exact⟨fun _=>jI.refl _ _,kk _ _ (hh.put hN _)⟩
theorem MS{t e tr:TypeId}{sz n m b:Nat}{D₁ D₂:aA}{cells xs:List Value}{xv:Value}{z0:Value}{ats:Array TypeId}
  (ho:all[ix]?= some ⟨some d,.call {callee:=.builtin .append,args:=#[x,y],argTypes:=ats},tr,pos,aft,g⟩) (ht:P.underlying t=some (.slice e)) (hat:ats[0]?= some t) (hat1:ats[1]?= some t)
  (hs:TS P e sz) (hz:TZ P e z0) (hz1:Nat.beq z0.cells.size sz=true) (hi:(P.info? e).map (fun i=>Nat.ble 1 i.bytes&&Nat.ble i.bytes 4096)=some true)
  (hx:ev σ x=some (.slice (some ⟨b,0,none⟩) n n)) (hy:ev σ y=some xv) (hA:At D₁ b 0 cells) (hD:D₁∈Ds) (hcl:cells.length=n*sz) (hsrc:jL D₂ xv m xs) (hD2:D₂∈Ds) (hxl:xs.length=m*sz) (hm0:0<m) (hlen:n+m≤10000000) (hN:Nat.blt d X.N=true) (hg:cS all σ g)
  (kk:∀v' ν',bN e sz v' (n+m) (cells++xs) ν'→WL P X bad all K Q os ((d,v')::σ) (ν'++μ) Ds):WL P X bad all K Q ((fl,ix)::os) σ μ Ds:=by
 refine dI ho rfl rfl hg fun a w hh=>?_
 obtain⟨h1,h2,h3,D,h4,h5,h6⟩:=id hh;obtain⟨i0,hi,hb1,hb2⟩:∃i0,P.info? e=some i0∧1≤i0.bytes∧i0.bytes≤4096:=by
  cases h:P.info? e with
  |none=>simp[h]at hi
  |some i=>simp[h]at hi;exact⟨i,rfl,hi⟩
 have hz1':=aHQ hz1;have hex:(execOp a.eval ⟨some d,.call {callee:=.builtin .append,args:=#[x,y],argTypes:=ats},tr,pos,aft,g⟩).run P w=
   ((Builtin.append_ ats tr #[.slice (some ⟨b,0,none⟩) n n,xv]).run P w).andThen fun r w'=>.ok (.value r) w':=by
  simp only[execOp,resolve,pure_bind,invoke,builtin];have e1:(#[x,y].map a.eval)=#[.slice (some ⟨b,0,none⟩) n n,xv]:=by simp[hh.eval hx,hh.eval hy]
  rw[e1,Sem.run_bind];simp only[Sem.run_pure]
 rw[hex];have lies:∀{D₀:aA} (_:D₀∈Ds) (w':World),w'.heap=w.heap→∀b o ys,At D₀ b o ys→OS w' b o ys:=fun hD₀ w' hw' b o ys hA j u hj=>by
  have:=h4.agr.cell ((h5 _ hD₀).get (hA j u hj));unfold World.cell? at this ⊢
  rw[hw'];exact this
 obtain⟨c,hc,hrun⟩:=pC (tr:=tr) (w:=w) (a:=some ⟨b,0,none⟩) (n:=n) (cap:=n) (old:=cells) ht hat hat1 hs hz hi (X8 hsrc) (fun w' hw'=>sW hsrc hxl (fun b o=>lies hD2 w' hw' b o xs)) (fun w' hw'=>by
  simp only[Builtin.firstCells];exact iD hcl (lies hD w' hw' b 0 cells hA)) Yd hlen ⟨hb1,hb2⟩
 rw[hrun];obtain⟨junk,hjunk⟩:∃junk:List Value,cells.toArray++xs.toArray++Builtin.zeroCells z0.cells (c-(n+m))=(cells++xs++junk).toArray∧(cells++xs++junk).length=c*sz:=by
  refine⟨(Builtin.zeroCells z0.cells (c-(n+m))).toList,by simp,?_⟩;have:=nK z0.cells (c-(n+m));simp only[aGC,Array.length_toList,this,hz1',hcl,hxl];rw[←aIW,←aIW];congr 1;omega
 have hpush:=h4.push (.cells (cells++xs++junk).toArray e (0,0)) rfl;simp only[Result.andThen_ok];rw[hjunk.1];refine⟨fun _=>⟨by simp,fun b hb _=>bU hb⟩,?_⟩;have hst:fI X.h0 X.lo X.D0 X.mods ([(w.heap.size,.cells (cells++xs++junk).toArray e (0,0))]++μ) D {w with drawn:=w.drawn+1,heap:=w.heap.push (.cells (cells++xs++junk).toArray e (0,0))}:=
  ⟨hpush.hlo,hpush.size,hpush.old,hpush.dold,hpush.agr,hpush.box,hpush.nd,hpush.fz,hpush.env⟩
 exact kk _ _ (aGH ⟨_,c,junk,rfl,hc,rfl,by simp[hcl,hxl,aIW],hjunk.2⟩) _ _ (Hl.put ⟨h1,h2,h3,D,hst,h5,h6.step (fun _ p hp=>by
  rcases aGP.1 hp with hp|hp
  ·exact aGH (by rw[aGU.1 hp];exact aGW _)
  ·exact aGR (aGA.2 ⟨p,hp,rfl⟩)) (fun _=>⟨by simp,fun b hb _=>⟨bU hb,rfl⟩,rfl⟩) hst.dom⟩ hN _)
end Go.Fs
namespace Go.Fs
open Go.Proofs
namespace L12
open C12 Go.Lib
theorem MZ(l:List ByteArray):∀u∈l.map Value.string,cell1 u=true:=by
 intro u hu;obtain⟨x,_,rfl⟩:=aGA.1 hu;rfl
theorem UI{α:Type}(f:α→Value)(l:List α):l.flatMap (fun x=>[f x])=l.map f:=by
 induction l with
 |nil=>rfl
 |cons a l ih=>rw[aHS,ih];rfl
theorem _root_.Go.Fs.jL.strs{D:aA}{v:Value}{l:List ByteArray}(h:Sl D RS 1 v l):jL D v l.length (l.map Value.string):=by
 rw[←UI];exact jL.of (R:=RS) (fun _ _ _ h=>h) (fun _=>rfl) h
section
variable{α:Type}[DecidableEq α]{xs ys:List α}{a b:α}{k:Nat}
omit [DecidableEq α]in
theorem AQ(ha:xs[k]?= some a)(hb:ys[k]?= some b)(h:xs.take k=ys.take k)(e:a=b):xs.take (k+1)=ys.take (k+1):=by
 rw[aGT,aGT,ha,hb,h,e]
theorem IB(h:xs.length≠ys.length):decide (xs=ys)=false:=decide_eq_false fun e=>h (by rw[e])
theorem RM(ha:xs[k]?= some a)(hb:ys[k]?= some b)(h:a≠b):decide (xs=ys)=false:=decide_eq_false fun e=>h (by rw[e,hb]at ha;exact(aHC ha).symm)
theorem HJ(hl:xs.length=ys.length)(hk:xs.length≤k)(h:xs.take k=ys.take k):decide (xs=ys)=true:=decide_eq_true (by rwa [aHE hk,aHE Yd]at h)
end
theorem PJ{a b:ByteArray}(h:(!decide (a=b))=false):a=b:=by simpa using h
theorem SQ{a b:ByteArray}(h:(!decide (a=b))=true):a≠b:=by simpa using h
theorem HO{xs:List ByteArray}{x:ByteArray}{k n:Nat}(hx:xs[k]?= some x)(h:∀y∈xs.take k,y.size≤n)(hs:x.size≤n):∀y∈xs.take (k+1),y.size≤n:=by
 intro y hy;rw[aGT,hx,aGP]at hy;rcases hy with hy|hy
 ·exact h y hy
 ·simp at hy;subst hy;exact hs
theorem AM{xs:List ByteArray}(h:40<xs.length):eD xs=3:=by
 unfold eD;rw[aGX];simp;left;omega
theorem u7{xs:List ByteArray}{x:ByteArray}{k:Nat}(hx:xs[k]?= some x)(h:50<x.size):eD xs=3:=by
 unfold eD;rw[aGX];simp only[aIC,aGZ,aKH,List.all_eq_false];exact aGH ⟨x,aGD hx,by simp;omega⟩
theorem JA{xs:List ByteArray}(h:xs.length≤40)(h2:∀x∈xs,x.size≤50):eD xs=0:=by
 unfold eD;rw[aGQ];simp only[aIC,aGZ,aKH,List.all_eq_false,not_or,not_exists,not_and];refine⟨by omega,fun x hx=>?_⟩;have:=h2 x hx;simp;omega
def Y9(xs:List ByteArray):Bool:=decide (xs.length≤45)&&xs.all fun x=>decide (x.size≤70)
theorem yI{xs:List ByteArray}:Y9 xs=true ↔ xs.length≤45∧∀x∈xs,x.size≤70:=by unfold Y9;simp
theorem DK{xs:List ByteArray}{x:ByteArray}{k:Nat}(hx:xs[k]?= some x)(h:70<x.size):Y9 xs=false:=by
 rw[←Bool.not_eq_true,yI];rintro⟨_,h2⟩;have:=h2 x (aGD hx);omega
theorem NN{xs:List ByteArray}{k:Nat}(hk:xs.length≤k∨46≤k)(h:∀x∈xs.take k,x.size≤70):Y9 xs=decide ((xs.length:Int)≤45):=by
 rw[aJO,yI,aGZ];constructor
 ·rintro⟨h1,_⟩;omega
 ·intro h1;have h2:xs.take k=xs:=aHE Yd;rw[h2]at h;exact⟨by omega,h⟩
section
variable{x p0:ByteArray}{ps:List ByteArray}{ns:List Int}{j:Nat}
end
theorem KB(sv:Value)(xs:List ByteArray)(D:aA)(hS:Sl D RS 1 sv xs)(hl:xs.length≤10000000):Fn Tryz.prog 10 #[sv] D (fun D' v=>Sl D' RS 1 v xs):=by
 refine enter 6 Tryz.func10 rfl rfl rfl rfl fun h0=>C.s1<|Zh rfl<|L.n3<|Zp rfl U22 Tf.s9 Tf.z9 rfl rfl rfl rfl .nil (fun b901 D901 hD901 hA901=>Za rfl<|bA (A:=[]) (ν:=[]) (B:=[]) rfl U22 rfl rfl Tf.s9 Tf.z9 rfl Tf.i9 rfl rfl rfl bN.nil (jL.strs hS) Ye (by rw[aHR,aIR]) rfl (MZ _) Yd (aGR rfl) rfl aLJ (fun v1 ν1 ha1=>Zh rfl<|L.n5 ?_))
 have ha2:bN 9 1 v1 xs.length (xs.map Value.string) ν1:=by simpa using ha1
 refine eF (A:=[]) (B:=[]) ha2 rfl (fun D2 hD2 hF=>?_);exact leave1 rfl rfl rfl rfl (fun D' hD=>(hF.strs rfl Yd).up RS.up (hD _ Ye))
theorem EC(av bv:Value)(xs ys:List Int)(D:aA)(hx:Sl D RI 1 av xs)(hy:Sl D RI 1 bv ys):Fn Tryz.prog 23 #[av,bv] D (fun _ v=>v=.bool (decide (xs=ys))):=by
 have hl:=hx.len;refine enter 26 Tryz.func23 rfl rfl rfl rfl fun h0=>C.s1<|Zh rfl<|L.n4<|Za rfl<|aV rfl U43 rfl hx rfl rfl trivial<|Za rfl<|aV rfl U25 rfl hy rfl rfl trivial<|eI rfl rfl rfl rfl trivial<|L.n1<|aE rfl (fun hc1=>?_) (fun hc1=>?_)
 ·refine C.s1<|Zh rfl<|L.n5<|Zaj ?_;exact leave1 rfl rfl rfl rfl (fun D hD=>aGV Value.bool (IB Yd).symm)
 ·have hlen:xs.length=ys.length:=by omega
  refine C.kn<|C.s2<|Zh rfl<|L.n1<|Zah<|cG (γ:=Nat) (fun k=>xs.length-k) (fun k=>k≤xs.length∧xs.take k=ys.take k) (fun k=>[(5,.int .i64 (k:Int))]) [(4,_),(0,_),(1,_)] (fun k=>[D]) 0 Ye ⟨Yb,aLJ⟩ C.rs (aD) ?_;rintro k ⟨h1,h2⟩;refine C.s2<|Za rfl<|Za rfl<|aV rfl U43 rfl hx rfl rfl trivial<|Zad rfl<|L.n1<|aE rfl (fun hc2=>?_) (fun hc2=>?_)
  ·have hk:k<xs.length:=by omega
   obtain⟨a,ha⟩:=C.ge xs k;obtain⟨b,hb⟩:=C.ge ys k;refine C.kn<|aL<|Zah<|aL<|C.drawA [] 3 9 242 (fun _ _ _ h=>bZ (P:=Tryz.prog) (fn:=Tryz.f23) _ _ _ h)<|Za rfl<|Za rfl<|Zs rfl U43 Tf.s44 rfl hx rfl ha (fun b1 o1 cs1 hr1 hcl1 hA1=>?_);obtain rfl:cs1=[.int .i64 _]:=hr1;refine Zf 0 rfl Tf.a44 rfl hA1 rfl<|Za rfl<|Za rfl<|Zs rfl U25 Tf.s3 rfl hy rfl hb (fun b2 o2 cs2 hr2 hcl2 hA2=>?_);obtain rfl:cs2=[.int .i64 _]:=hr2;refine Zf 0 rfl Tf.a3 rfl hA2 rfl<|eI rfl rfl rfl rfl trivial<|L.n1<|aE rfl (fun hc3=>?_) (fun hc3=>?_)
   ·refine C.s1<|Zh rfl<|L.n5<|aG<|Zaj<|Zaj<|aG<|Zaj ?_;exact leave1 rfl rfl rfl rfl (fun D hD=>aGV Value.bool (RM ha hb (hc3)).symm)
   ·refine bR<|Zak<|Zag<|C.rg<|Za rfl<|Zx rfl<|Zh rfl<|Zz ?_;exact aH 17 (k+1) ⟨by omega,AQ ha hb h2 Yd⟩ Yd ⟨Yb,aLJ⟩ rfl rfl (LT _) (aD)
  ·refine aR<|Zai<|Zai<|Zal<|Zag<|C.s1<|Zh rfl<|L.n5 ?_;exact leave1 rfl rfl rfl rfl (fun D hD=>aGV Value.bool (HJ hlen Yd h2).symm)
theorem FI(av bv:Value)(xs ys:List ByteArray)(D:aA)(hx:Sl D RS 1 av xs)(hy:Sl D RS 1 bv ys):Fn Tryz.prog 17 #[av,bv] D (fun _ v=>v=.bool (decide (xs=ys))):=by
 have hl:=hx.len;refine enter 26 Tryz.func17 rfl rfl rfl rfl fun h0=>C.s1<|Zh rfl<|L.n4<|Za rfl<|aV rfl U22 rfl hx rfl rfl trivial<|Za rfl<|aV rfl U22 rfl hy rfl rfl trivial<|eI rfl rfl rfl rfl trivial<|L.n1<|aE rfl (fun hc1=>?_) (fun hc1=>?_)
 ·refine C.s1<|Zh rfl<|L.n5<|Zaj ?_;exact leave1 rfl rfl rfl rfl (fun D hD=>aGV Value.bool (IB Yd).symm)
 ·have hlen:xs.length=ys.length:=by omega
  refine C.kn<|C.s2<|Zh rfl<|L.n1<|Zah<|cG (γ:=Nat) (fun k=>xs.length-k) (fun k=>k≤xs.length∧xs.take k=ys.take k) (fun k=>[(5,.int .i64 (k:Int))]) [(4,_),(0,_),(1,_)] (fun k=>[D]) 0 Ye ⟨Yb,aLJ⟩ C.rs (aD) ?_;rintro k ⟨h1,h2⟩;refine C.s2<|Za rfl<|Za rfl<|aV rfl U22 rfl hx rfl rfl trivial<|Zad rfl<|L.n1<|aE rfl (fun hc2=>?_) (fun hc2=>?_)
  ·have hk:k<xs.length:=by omega
   obtain⟨a,ha⟩:=C.ge xs k;obtain⟨b,hb⟩:=C.ge ys k;refine C.kn<|aL<|Zah<|aL<|C.drawA [] 3 9 242 (fun _ _ _ h=>bZ (P:=Tryz.prog) (fn:=Tryz.f17) _ _ _ h)<|Za rfl<|Za rfl<|Zs rfl U22 Tf.s9 rfl hx rfl ha (fun b1 o1 cs1 hr1 hcl1 hA1=>?_);obtain rfl:cs1=[.string _]:=hr1;refine Zf 0 rfl Tf.a9 rfl hA1 rfl<|Za rfl<|Za rfl<|Zs rfl U22 Tf.s9 rfl hy rfl hb (fun b2 o2 cs2 hr2 hcl2 hA2=>?_);obtain rfl:cs2=[.string _]:=hr2;refine Zf 0 rfl Tf.a9 rfl hA2 rfl<|TJ rfl rfl rfl rfl trivial<|L.n1<|aQ rfl (fun hc3=>?_) (fun hc3=>?_)
   ·refine C.s1<|Zh rfl<|L.n5<|aG<|Zaj<|Zaj<|aG<|Zaj ?_;exact leave1 rfl rfl rfl rfl (fun D hD=>aGV Value.bool (RM ha hb (SQ hc3)).symm)
   ·refine bR<|Zak<|Zag<|C.rg<|Za rfl<|Zx rfl<|Zh rfl<|Zz ?_;exact aH 17 (k+1) ⟨by omega,AQ ha hb h2 (PJ hc3)⟩ Yd ⟨Yb,aLJ⟩ rfl rfl (LT _) (aD)
  ·refine aR<|Zai<|Zai<|Zal<|Zag<|C.s1<|Zh rfl<|L.n5 ?_;exact leave1 rfl rfl rfl rfl (fun D hD=>aGV Value.bool (HJ hlen Yd h2).symm)
theorem FP(sv:Value)(xs:List ByteArray)(D:aA)(hS:Sl D RS 1 sv xs):Fn Tryz.prog 18 #[sv] D (fun _ v=>v=.int .i64 (eD xs)):=by
 have hl:=hS.len;refine enter 19 Tryz.func18 rfl rfl rfl rfl fun h0=>C.s1<|Zh rfl<|L.n4<|Za rfl<|aV rfl U22 rfl hS rfl rfl trivial<|eT rfl rfl rfl rfl trivial<|L.n1<|aE rfl (fun hc1=>?_) (fun hc1=>?_)
 ·refine C.s1<|Zh rfl<|L.n5<|Zaj ?_;exact leave1 rfl rfl rfl rfl (fun D hD=>by show Value.int _ _=_;rw[AM Yd])
 ·have h40:xs.length≤40:=by omega
  refine C.kn<|C.s2<|Zh rfl<|L.n1<|Zah<|cG (γ:=Nat) (fun k=>xs.length+1-k) (fun k=>k≤xs.length∧∀x∈xs.take k,x.size≤50) (fun k=>[(3,.int .i64 (k:Int))]) [(2,_),(0,_)] (fun k=>[D]) 0 ⟨by omega,by simp⟩ ⟨Yb,aLJ⟩ C.rs (aD) ?_;rintro k ⟨h1,h2⟩;refine C.s2<|Za rfl<|Za rfl<|aV rfl U22 rfl hS rfl rfl trivial<|Zad rfl<|L.n1<|aE rfl (fun hc2=>?_) (fun hc2=>?_)
  ·have hk:k<xs.length:=by omega
   obtain⟨x,hx⟩:=C.ge xs k;refine C.kn<|aL<|Zah<|C.s1<|Za rfl<|Za rfl<|Zs rfl U22 Tf.s9 rfl hS rfl hx (fun b1 o1 cs1 hr1 hcl1 hA1=>?_);obtain rfl:cs1=[.string _]:=hr1;refine Zf 0 rfl Tf.a9 rfl hA1 rfl<|gE rfl U9 rfl rfl rfl trivial<|eT rfl rfl rfl rfl trivial<|L.n1<|aE rfl (fun hc3=>?_) (fun hc3=>?_)
   ·refine C.s1<|Zh rfl<|L.n5<|aG<|Zaj<|Zaj<|aG<|Zaj ?_;exact leave1 rfl rfl rfl rfl (fun D hD=>by show Value.int _ _=_;rw[u7 hx Yd])
   ·refine bR<|Zak<|Zag<|C.rg<|Za rfl<|Zx rfl<|Zh rfl<|Zz ?_;exact aH 14 (k+1) ⟨by omega,HO hx h2 Yd⟩ Yd ⟨Yb,aLJ⟩ rfl rfl (LT _) (aD)
  ·obtain rfl:k=xs.length:=by omega
   rw[aHT]at h2;refine aR<|Zai<|Zai<|Zal<|Zag<|C.s1<|Zh rfl<|L.n5 ?_;exact leave1 rfl rfl rfl rfl (fun D hD=>by show Value.int _ _=_;rw[JA h40 h2])
theorem LG(sv:Value)(xs:List ByteArray)(D:aA)(hS:Sl D RS 1 sv xs):Fn Tryz.prog 13 #[sv] D (fun _ v=>v=.bool (Y9 xs)):=by
 have hl:=hS.len;refine enter 23 Tryz.func13 rfl rfl rfl rfl fun h0=>C.s1<|Zh rfl<|L.n4<|Zh rfl<|L.n1<|Zah<|cG (γ:=Nat) (fun k=>xs.length+1-k) (fun k=>k≤xs.length∧∀x∈xs.take k,x.size≤70) (fun k=>[(3,.int .i64 (k:Int))]) [(2,_),(0,_)] (fun k=>[D]) 0 ⟨by omega,by simp⟩ ⟨Yb,aLJ⟩ C.rs (aD) ?_
 rintro k ⟨h1,h2⟩;refine C.s2<|Za rfl<|Za rfl<|aV rfl U22 rfl hS rfl rfl trivial<|Zad rfl<|Za rfl ?_;refine' L.anK 3 (s:=8) (p:=11) rfl (fun hg1=>?_) (fun hg1=>?_) ?_;rotate_left
 ·refine Zb rfl<|FZ rfl rfl rfl rfl ⟨_,rfl,rfl⟩<|Zab rfl ?_;exact L.cu 2
 ·refine Zk rfl<|Zk rfl<|Zac rfl ?_;exact L.cu 2
 refine L.n1<|aQ rfl (fun hc1=>?_) (fun hc1=>?_)
 ·have hk:k<xs.length:=by simp at hc1;omega
  obtain⟨x,hx⟩:=C.ge xs k;refine C.kn<|aL<|Zah<|C.s1<|Za rfl<|Za rfl<|Zs rfl U22 Tf.s9 rfl hS rfl hx (fun b1 o1 cs1 hr1 hcl1 hA1=>?_);obtain rfl:cs1=[.string _]:=hr1;refine Zf 0 rfl Tf.a9 rfl hA1 rfl<|gE rfl U9 rfl rfl rfl trivial<|eT rfl rfl rfl rfl trivial<|L.n1<|aE rfl (fun hc2=>?_) (fun hc2=>?_)
  ·refine C.s1<|Zh rfl<|L.n5<|aG<|Zaj<|Zaj<|aG<|Zaj ?_;exact leave1 rfl rfl rfl rfl (fun D hD=>by show Value.bool _=_;rw[DK hx Yd])
  ·refine bR<|Zak<|Zag<|C.rg<|Za rfl<|Zx rfl<|Zh rfl<|Zz ?_;exact aH 16 (k+1) ⟨by omega,HO hx h2 Yd⟩ Yd ⟨Yb,aLJ⟩ rfl rfl (LT _) (aD)
 ·have hk46:xs.length≤k∨46≤k:=by simp at hc1;omega
  refine aR<|Zai<|Zai<|Zal<|Zag<|C.s1<|Za rfl<|aV rfl U22 rfl hS rfl rfl trivial<|hP rfl rfl rfl rfl trivial<|Zh rfl<|L.n5 ?_;exact leave1 rfl rfl rfl rfl (fun D hD=>by show Value.bool (decide _)=_;rw[NN hk46 h2])
end L12
end Go.Fs
namespace Go.Fs
open Go.Proofs
namespace L12
open C12 Go.Lib
instance(x:Int):Decidable (NB x):=inferInstanceAs (Decidable (_∧_))
def yO:List ByteArray:=[(⟨#[112,108,97,99,101]⟩:ByteArray),⟨#[115,101,101,110,32,50,32,49]⟩,⟨#[99,111,117,110,116,32,51,32,50]⟩,⟨#[98,97,99,107,32,51,32,51]⟩,⟨#[116,105,100,101,32,50,32,56,32,57]⟩,⟨#[115,116,101,112,32,52]⟩,⟨#[108,101,118,101,108,32,54]⟩,⟨#[109,97,114,107,32,49,32,51,32,57,32,57]⟩,⟨#[104,105,114,101,32,48,32,49]⟩,⟨#[104,105,114,101,32,49,32,50]⟩,⟨#[98,114,105,110,103,32,48,32,49]⟩,⟨#[115,109,117,100,103,101,32,49]⟩,⟨#[98,114,111,107,101,110,32,52,32,49,32,48,32,48]⟩,⟨#[98,114,111,107,101,110,32,53,32,48,32,49,32,50]⟩,⟨#[99,108,97,105,109,32,48,32,50]⟩]
def x6:List ByteArray:=[(⟨#[115,116,101,112,32,48]⟩:ByteArray),⟨#[115,109,117,100,103,101,32,49]⟩,⟨#[108,101,118,101,108,32,48,53]⟩]
def aB:List ByteArray:=[(⟨#[97]⟩:ByteArray)]
theorem a8{D:aA}{b:Nat}{l:List ByteArray}(hA:At D b 0 (l.map Value.string))(hl:l.length≤1000):Sl D RS 1 (.slice (some ⟨b,0,none⟩) l.length l.length) l:=by
 refine⟨_,_,rfl,aGW _,by omega,aGH ⟨b,0,rfl,fun i x hi=>⟨_,rfl,rfl,fun j v hj=>?_⟩⟩⟩;cases j with
 |zero=>
  obtain rfl:Value.string x=v:=by simpa using hj
  have h:=hA i (.string x) (by rw[aHD,hi];rfl);simpa using h
 |succ j=>simp at hj
theorem aAH:SD (aJ yO).1:=⟨by decide+kernel,by decide+kernel,by decide+kernel,by decide+kernel,by decide+kernel,by decide+kernel,by decide+kernel,by decide+kernel,by decide+kernel,by decide+kernel,by decide+kernel⟩
theorem aFB:K2 Tryz.prog 65:=⟨by kernel_rfl,by kernel_rfl,by kernel_rfl⟩
theorem aEN:K2 Tryz.prog 88:=⟨by kernel_rfl,by kernel_rfl,by kernel_rfl⟩
theorem l4(D:aA):Fn Tryz.prog 20 #[.slice none 0 0] D (fun D' v=>Sl D' RS 1 v yO):=by
 refine enter 6 Tryz.func20 rfl rfl rfl rfl fun h0=>C.s1<|Zh rfl<|L.n3<|Zp rfl U22 Tf.s9 Tf.z9 rfl rfl rfl rfl (.cons rfl rfl (.cons rfl rfl (.cons rfl rfl (.cons rfl rfl (.cons rfl rfl (.cons rfl rfl (.cons rfl rfl (.cons rfl rfl (.cons rfl rfl (.cons rfl rfl (.cons rfl rfl (.cons rfl rfl (.cons rfl rfl (.cons rfl rfl (.cons rfl rfl .nil))))))))))))))) (fun b901 D901 hD901 hA901=>Za rfl<|CV rfl U22 rfl rfl Tf.s9 rfl rfl (aGW _) rfl trivial<|Zh rfl<|L.n5 ?_)
 exact leave1 rfl rfl rfl rfl (fun D hD=>(a8 (l:=yO) hA901 Yag).up RS.up (hD _ Ye))
theorem WO(mv:Value)(ms:List ByteArray)(D:aA)(hS:Sl D RS 1 mv ms)(hm0:0<ms.length)(hm:ms.length≤1000):Fn Tryz.prog 20 #[mv] D (fun D' v=>Sl D' RS 1 v (yO++ms)):=by
 refine enter 6 Tryz.func20 rfl rfl rfl rfl fun h0=>C.s1<|Zh rfl<|L.n3<|Zp rfl U22 Tf.s9 Tf.z9 rfl rfl rfl rfl (.cons rfl rfl (.cons rfl rfl (.cons rfl rfl (.cons rfl rfl (.cons rfl rfl (.cons rfl rfl (.cons rfl rfl (.cons rfl rfl (.cons rfl rfl (.cons rfl rfl (.cons rfl rfl (.cons rfl rfl (.cons rfl rfl (.cons rfl rfl (.cons rfl rfl .nil))))))))))))))) (fun b901 D901 hD901 hA901=>Za rfl<|MS (cells:=[.string ⟨#[112,108,97,99,101]⟩,.string ⟨#[115,101,101,110,32,50,32,49]⟩,.string ⟨#[99,111,117,110,116,32,51,32,50]⟩,.string ⟨#[98,97,99,107,32,51,32,51]⟩,.string ⟨#[116,105,100,101,32,50,32,56,32,57]⟩,.string ⟨#[115,116,101,112,32,52]⟩,.string ⟨#[108,101,118,101,108,32,54]⟩,.string ⟨#[109,97,114,107,32,49,32,51,32,57,32,57]⟩,.string ⟨#[104,105,114,101,32,48,32,49]⟩,.string ⟨#[104,105,114,101,32,49,32,50]⟩,.string ⟨#[98,114,105,110,103,32,48,32,49]⟩,.string ⟨#[115,109,117,100,103,101,32,49]⟩,.string ⟨#[98,114,111,107,101,110,32,52,32,49,32,48,32,48]⟩,.string ⟨#[98,114,111,107,101,110,32,53,32,48,32,49,32,50]⟩,.string ⟨#[99,108,97,105,109,32,48,32,50]⟩]) rfl U22 rfl rfl Tf.s9 Tf.z9 rfl Tf.i9 rfl rfl hA901 Ye rfl (jL.strs hS) Ye (by rw[aHR,aIR]) hm0 Yd rfl aLJ (fun v1 ν1 ha1=>Zh rfl<|L.n5 ?_))
 have ha2:bN 9 1 v1 (15+ms.length) ((yO++ms).map Value.string) (ν1++[]):=by rw[aGS,aGG];exact ha1
 refine eF (A:=[]) (ν:=ν1) (B:=[]) (by simpa using ha2) rfl (fun D2 hD2 hF=>?_);exact leave1 rfl rfl rfl rfl (fun D' hD=>(hF.strs (by rw[aGC];rfl) Yd).up RS.up (hD _ Ye))
theorem G9(D:aA)(hV:kC D):Fn Tryz.prog 8 #[] D (fun _ v=>v=.bool true):=by
 refine enter 87 Tryz.func8 rfl rfl rfl rfl fun h0=>C.s1<|Zh rfl<|L.n3<|cB rfl rfl rfl (fun D1 hD1=>l4 _) rfl aLJ (fun v1 D1 hD1 hp1=>?_)
 have hd1:=hp1;refine Zc rfl (fun D2 hD2=>wF _ yO _ (hd1.up RS.up (hD2 _ Ye)) (hV.up (hD2 _ Ye)))<|Za rfl<|Zaa rfl<|Zaa rfl<|Zw rfl Tf.z65 rfl (fun q1=>bD rfl rfl rfl rfl Tf.s65 Ya Ya (bL.head) Yi trivial<|Zh rfl<|L.n3<|cB rfl rfl rfl (fun D3 hD3=>l4 _) rfl aLJ (fun v3 D3 hD3 hp3=>?_));have hd2:=hp3;refine Zc rfl (fun D4 hD4=>yE _ yO _ (hd2.up RS.up (hD4 _ Ye)) (hV.up (hD4 _ Ye)))<|Za rfl<|Zaa rfl<|Zaa rfl<|Zw rfl Tf.z88 rfl (fun q2=>bD rfl rfl rfl rfl Tf.s88 Ya Ya (bL.head) Yi trivial<|Zh rfl<|L.n3<|cB rfl rfl rfl (fun D5 hD5=>l4 _) rfl aLJ (fun v5 D5 hD5 hp5=>?_));have hd3:=hp5;refine Zc rfl (fun D6 hD6=>ML _ yO _ (hd3.up RS.up (hD6 _ Ye)) (hV.up (hD6 _ Ye)) (fun _=>aAH))<|Za rfl<|Zaa rfl<|Zaa rfl<|Zh rfl<|Zh rfl<|L.n3<|Zp rfl U22 Tf.s9 Tf.z9 rfl rfl rfl rfl (.cons rfl rfl .nil) (fun b901 D901 hD901 hA901=>cB rfl rfl rfl (fun D7 hD7=>BC _ aB _ ((a8 (l:=aB) hA901 Yag).up RS.up (hD7 _ Ye))) rfl aLJ (fun v7 D7 hD7 hp7=>?_));obtain⟨wv,rfl,hwr⟩:=hp7;refine Za rfl<|Zaa rfl<|Zaa rfl<|Zh rfl<|Zh rfl<|L.n3<|Zp rfl U22 Tf.s9 Tf.z9 rfl rfl rfl rfl (.cons rfl rfl (.cons rfl rfl (.cons rfl rfl .nil))) (fun b902 D902 hD902 hA902=>cB rfl rfl rfl (fun D8 hD8=>WO _ x6 _ ((a8 (l:=x6) hA902 Yag).up RS.up (hD8 _ Ye)) Yag Yag) rfl aLJ (fun v8 D8 hD8 hp8=>?_));have hd5:=hp8;refine cB rfl rfl rfl (fun D9 hD9=>A8 _ (yO++x6) _ (hd5.up RS.up (hD9 _ Ye)) (hV.up (hD9 _ Ye))) rfl aLJ (fun v9 D9 hD9 hp9=>?_);obtain⟨w1,w2,rfl,⟨pv,cv,hv,lv,mv,bl,bc,yc,yq,rfl,hL⟩,hes⟩:=hp9;unfold bO;obtain⟨ea,ec,rfl⟩:=hes.shape;have p3len:(aJ (yO++x6)).2.1.length=18:=by decide+kernel
 refine Za rfl<|Zaa rfl<|Zaa rfl<|Zaa rfl<|Zw rfl Tf.z42 rfl (fun q3=>bD rfl rfl rfl rfl Tf.s42 Ya Ya (bL.head) (hU hL) trivial<|Zh rfl<|Zh rfl<|L.n3<|Za rfl<|dK rfl rfl rfl rfl trivial<|Za rfl ?_);refine' L.anK 4 (s:=41) (p:=45) rfl (fun hg1=>?_) (fun hg1=>?_) ?_;rotate_left
 ·refine bK rfl Tf.a65 rfl (LE _ (LE _ (GE _))) Tf.s65 GT rfl ⟨_,rfl,rfl⟩<|gC (cs:=[.int .i64 25,.int .i64 25]) rfl Tf.p65 Tf.z65 rfl rfl rfl ⟨_,rfl,rfl⟩<|VN (a:=(O5 yO).1) (b:=(25,25)) rfl Yg aFB rfl rfl rfl ⟨_,rfl,rfl⟩<|Zab rfl ?_;exact L.cu 3
 ·refine Zk rfl<|Zk rfl<|Zk rfl<|Zac rfl ?_;exact L.cu 3
 refine Za rfl ?_;refine' L.anK 3 (s:=46) (p:=49) rfl (fun hg2=>?_) (fun hg2=>?_) ?_;rotate_left
 ·refine Zb rfl<|dK rfl rfl rfl rfl ⟨_,rfl,rfl⟩<|Zab rfl ?_;exact L.cu 2
 ·refine Zk rfl<|Zk rfl<|Zac rfl ?_;exact L.cu 2
 refine Za rfl ?_;refine' L.anK 4 (s:=50) (p:=54) rfl (fun hg3=>?_) (fun hg3=>?_) ?_;rotate_left
 ·refine bK rfl Tf.a88 rfl (LE _ (GE _)) Tf.s88 GT rfl ⟨_,rfl,rfl⟩<|gC (cs:=[.int .i64 4,.int .i64 4]) rfl Tf.p88 Tf.z88 rfl rfl rfl ⟨_,rfl,rfl⟩<|VN (a:=(vX yO).1) (b:=(4,4)) rfl Yg aEN rfl rfl rfl ⟨_,rfl,rfl⟩<|Zab rfl ?_;exact L.cu 3
 ·refine Zk rfl<|Zk rfl<|Zk rfl<|Zac rfl ?_;exact L.cu 3
 refine Za rfl ?_;refine' L.anK 3 (s:=55) (p:=58) rfl (fun hg4=>?_) (fun hg4=>?_) ?_;rotate_left
 ·refine Zb rfl<|dK rfl rfl rfl rfl ⟨_,rfl,rfl⟩<|Zab rfl ?_;exact L.cu 2
 ·refine Zk rfl<|Zk rfl<|Zac rfl ?_;exact L.cu 2
 refine Za rfl ?_;refine' L.anK 3 (s:=59) (p:=62) rfl (fun hg5=>?_) (fun hg5=>?_) ?_;rotate_left
 ·refine Zb rfl<|tB rfl rfl rfl rfl ⟨_,rfl,rfl⟩<|Zab rfl ?_;exact L.cu 2
 ·refine Zk rfl<|Zk rfl<|Zac rfl ?_;exact L.cu 2
 refine Za rfl ?_;refine' L.anK 3 (s:=63) (p:=66) rfl (fun hg6=>?_) (fun hg6=>?_) ?_;rotate_left
 ·refine Zb rfl<|dK rfl rfl rfl rfl ⟨_,rfl,rfl⟩<|Zab rfl ?_;exact L.cu 2
 ·refine Zk rfl<|Zk rfl<|Zac rfl ?_;exact L.cu 2
 refine Za rfl ?_;refine' L.anK 4 (s:=67) (p:=71) rfl (fun hg7=>?_) (fun hg7=>?_) ?_;rotate_left
 ·refine Zb rfl<|mM rfl U51 U5 U9 rfl hwr Ye (fun _ _ _ _ _=>GT) rfl ⟨_,rfl,rfl⟩<|tB rfl rfl rfl rfl ⟨_,rfl,rfl⟩<|Zab rfl ?_;exact L.cu 3
 ·refine Zk rfl<|Zk rfl<|Zk rfl<|Zac rfl ?_;exact L.cu 3
 refine Za rfl ?_;refine' L.anK 3 (s:=72) (p:=75) rfl (fun hg8=>?_) (fun hg8=>?_) ?_;rotate_left
 ·refine Zb rfl<|dK rfl rfl rfl rfl ⟨_,rfl,rfl⟩<|Zab rfl ?_;exact L.cu 2
 ·refine Zk rfl<|Zk rfl<|Zac rfl ?_;exact L.cu 2
 refine Za rfl ?_;refine' L.anK 4 (s:=76) (p:=80) rfl (fun hg9=>?_) (fun hg9=>?_) ?_;rotate_left
 ·refine Zb rfl<|aV rfl U43 rfl hes rfl rfl ⟨_,rfl,rfl⟩<|dK rfl rfl rfl rfl ⟨_,rfl,rfl⟩<|Zab rfl ?_;exact L.cu 3
 ·refine Zk rfl<|Zk rfl<|Zk rfl<|Zac rfl ?_;exact L.cu 3
 refine Za rfl ?_;refine' L.anK 5 (s:=81) (p:=86) rfl (fun hg10=>?_) (fun hg10=>?_) ?_;rotate_left
 ·refine Zb rfl<|tH (j:=15) rfl U43 Tf.s44 rfl hes rfl (by rw[p3len];omega) rfl ⟨_,rfl,rfl⟩ (fun ta hT=>vY rfl U25 Tf.s3 Tf.z3 rfl rfl rfl rfl (.cons rfl rfl (.cons rfl rfl (.cons rfl rfl .nil))) rfl ⟨_,rfl,rfl⟩ (fun b903 D903 hD903 hA903=>?_));have hS903:=Sl.ofInts (l:=[_,_,_]) (n:=3) (cap:=3) hA903 rfl Yd Yd;refine Zd rfl (fun D10 hD10=>EC _ _ ((aJ (yO++x6)).2.1.drop 15) [9,6,4] _ (hT.up RI.up (hD10 _ Ye)) (hS903.up RI.up (hD10 _ Ye)))<|Zab rfl ?_;exact zS fun a w hh=>(hh.cutK 4 rfl).ds (fun _ h=>LE _ (h))
 ·refine Zk rfl<|Zk rfl<|Zk rfl<|Zk rfl<|Zac rfl ?_;exact L.cu 4
 refine Zh rfl<|L.n5 ?_;exact leave1 rfl rfl rfl rfl (fun D hD=>aGV Value.bool (by decide+kernel))
end L12
end Go.Fs
namespace Go.Fs
open Go.Proofs
namespace L12
open C12 Go.Lib
end L12
end Go.Fs
namespace Go.Fs
open Go.Proofs
namespace L12
open C12 Go.Lib
theorem C8(ls:List ByteArray):(fW ls).length=ls.length:=aHR _
end L12
end Go.Fs
namespace Go.Fs
variable{P:Program}{X:Cx}{γb:Type}[Membership Nat γb]{bad:γb}{all:Array Oper}{K:Act→World→Prop}{Q:Exit→Act→World→Prop}
variable{σ:bQ}{μ:aC}{Ds:List aA}{os:List (Bool×Nat)}{fl:Bool}{ix:Nat}
variable{d:Nat}{x y z:Operand}{u v:Value}{ty:TypeId}{pos:String}{aft:Array Edge}{g:Option (Nat×Bool)}
end Go.Fs
namespace Go.Fs
open Go.Proofs
namespace L12
open C12
section
variable{α:Type}{xs ys:List α}{k:Nat}{a b:α}
end
def aEQ(c:C7.Ch):List Int:=[c.size,c.parts.a,c.parts.b,c.parts.c]
theorem WM{a b:C7.Ch}(h:aEQ a=aEQ b):a=b:=by
 obtain⟨a1,a2,a3,a4⟩:=a;obtain⟨b1,b2,b3,b4⟩:=b
 simp only[aEQ,aIP,and_true]at h;rw[h.1,h.2.1,h.2.2.1,h.2.2.2]
instance:DecidableEq C7.Ch:=fun a b=>decidable_of_iff (aEQ a=aEQ b) ⟨WM,fun e=>by rw[e]⟩
end L12
end Go.Fs
namespace Go.Fs
open Go.Proofs
namespace L12
open C12
end L12
end Go.Fs
namespace Go.Fs
open Go.Proofs
namespace L12
open C12
end L12
end Go.Fs
namespace Go.Fs
open Go.Proofs
namespace L12
open C12 Go.Lib
theorem aEC{D:aA}{b:Nat}{x:UInt8}{v:Value}(hA:At D b 0 ([v]++[]))(hv:v=.int .u8 (x.toNat:Int)):Sl D RU 1 (.slice (some ⟨b,0,none⟩) 1 1) [x]:=by
 refine⟨_,_,rfl,aGW _,by simp,aGH ⟨b,0,rfl,fun i y hi=>⟨_,rfl,rfl,fun j u hj=>?_⟩⟩⟩;obtain rfl:i=0:=by have:=(aGJ.1 hi).1;simpa using this
 obtain rfl:x=y:=by simpa using hi
 cases j with
 |zero=>
  obtain rfl:Value.int .u8 x.toNat=u:=by simpa using hj
  have:=hA 0 v rfl;rw[hv]at this;simpa using this
 |succ j=>simp at hj
theorem WQ{n:Int}(h0:0≤n)(h1:n≤9):Value.int .u8 (48+n)=.int .u8 ((UInt8.ofNat (48+n.toNat)).toNat:Int):=by
 rw[UInt8.toNat_ofNat'];congr 1;omega
theorem FL{n:Int}(h0:0≤n)(h1:n≤9):kY (itoa n)=⟨#[UInt8.ofNat (48+n.toNat)]⟩:=by
 obtain⟨m,rfl⟩:=Int.eq_ofNat_of_zero_le h0;have key:((List.range 10).all fun m=>itoa (m:Int)== [UInt8.ofNat (48+m)])=true:=by decide+kernel
 have:=aGY.1 key m (aJH.2 Yd);rw[eq_of_beq this];rfl
theorem tZ{n:Int}(h0:0≤n)(h1:n≤9):(kY (itoa n)).size=1:=by rw[FL h0 h1];rfl
theorem vV(n:Int)(hn0:0≤n)(hn1:n≤9)(D:aA):Fn Tryz.prog 64 #[.int .i64 n] D (fun _ v=>v=.string (kY (itoa n))):=by
 refine enter 19 Tryz.func64 rfl rfl rfl rfl fun h0=>C.s1<|Zh rfl<|L.n4<|Za rfl<|Zad rfl<|L.n1<|aE rfl (fun hc1=>?_) (fun hc1=>?_)
 ·omega
 ·refine C.kn<|C.s2<|Za rfl<|Zad rfl<|L.n1<|aE rfl (fun hc2=>?_) (fun hc2=>?_)
  ·refine C.s1<|Za rfl<|Zx rfl<|wM rfl U3 U5 rfl Yf rfl trivial<|Zp rfl U51 Tf.s5 Tf.z5 rfl rfl rfl rfl (.cons rfl rfl .nil) (fun b901 D901 hD901 hA901=>?_)
   skip
   refine mM (l:=[UInt8.ofNat (48+n.toNat)]) rfl U51 U5 U9 rfl (aEC hA901 (WQ hn0 hn1)) Ye (fun _ _ _ _ _=>GT) rfl trivial<|Zh rfl<|L.n5<|Zaj ?_;exact leave1 rfl rfl rfl rfl (fun D hD=>by show Value.string _=_;rw[FL hn0 hn1])
  ·omega
end L12
end Go.Fs
