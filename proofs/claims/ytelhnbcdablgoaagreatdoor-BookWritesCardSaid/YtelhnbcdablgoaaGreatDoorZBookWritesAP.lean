/- Of the proof of BookWrites: BW47, Conv, BW55. -/
import Derived.Test.YtelhnbcdablgoaaGreatDoorZBookWritesAO
import Derived.Lib.ConvBytes
namespace Go.Fs
open Go.Proofs
namespace L12
open C12 Go.Lib
def oO:Nat→Nat→List UInt8
 |_,0=>[]
 |n,k+1=>oO (n / 10) k++[UInt8.ofNat (48+n%10)]
theorem AL:∀(k n:Nat),(oO n k).length=k
 |0,_=>rfl
 |k+1,n=>by rw[oO,aGC,AL k];rfl
theorem mW(k n:Nat):(kY (oO n k)).size=k:=by rw[nV,AL]
theorem wA{n:Int}(h:0≤n){k:Nat}:kY (oO (n / 10).toNat k)++kY (itoa (n%10))=kY (oO n.toNat (k+1)):=by
 obtain⟨m,rfl⟩:=Int.eq_ofNat_of_zero_le h;rw[FL Yd Yd,oO,show((m:Int) / 10).toNat=(m:Int).toNat / 10 by omega,show((m:Int)%10).toNat=(m:Int).toNat%10 by omega];apply Go.WideShapes.bytes_inj;simp[kY]
theorem UZ{i:Nat}{s:ByteArray}:((((kY (oO ((s.size:Nat):Int).toNat 2)++⟨#[59]⟩)++s)++⟨#[59]⟩)++kY (oO ((fZ i s.data.toList:Nat):Int).toNat 4))++⟨#[10]⟩=kY (dJ i s.data.toList):=by
 apply Go.WideShapes.bytes_inj;simp[kY,dJ,kN,oO,jG,Nat.div_div_eq_div_mul]
theorem R1(i:Nat)(s:ByteArray):(kY (dJ i s.data.toList)).size=9+s.size:=by rw[nV,iM];rfl
theorem NE{ls:List ByteArray}{k:Nat}{x:ByteArray}(h:ls[k]?= some x):kY (lO ((fW ls).take k))++kY (dJ k x.data.toList)=kY (lO ((fW ls).take (k+1))):=by
 rw[H5 (G0 h)];apply Go.WideShapes.bytes_inj;simp[kY]
theorem N5{ls:List ByteArray}(k:Nat)(hn:ls.length≤100)(hsz:∀x∈ls,x.size≤50):(kY (lO ((fW ls).take k))).size≤6000:=by
 have h:=rF ((fW ls).take k) 0 50 (fun l hl=>by
  obtain⟨x,hx,rfl⟩:=aGA.1 (aKS hl);exact hsz x hx)
 rw[nV];refine aJB h ?_;rw[aHZ,C8];omega
theorem XK(n:Int)(_hz0:0≤n)(_hz1:n≤1000000)(D:aA):Fn Tryz.prog 69 #[.int .i64 n,.int .i64 0] D (fun _ v=>v=.string (kY (oO n.toNat 0))):=by
 refine enter 16 Tryz.func69 rfl rfl rfl rfl fun h0=>C.s1<|Zh rfl<|L.n4<|Za rfl<|dK rfl rfl rfl rfl trivial<|L.n1<|aE rfl (fun hc1=>?_) (fun hc1=>?_)
 ·refine C.s1<|Zh rfl<|L.n5<|Zaj ?_;exact leave1 rfl rfl rfl rfl (fun D hD=>rfl)
 ·exact(hc1 rfl).elim
theorem XB(n:Int)(hz0:0≤n)(hz1:n≤1000000)(D:aA):Fn Tryz.prog 69 #[.int .i64 n,.int .i64 1] D (fun _ v=>v=.string (kY (oO n.toNat 1))):=by
 refine enter 16 Tryz.func69 rfl rfl rfl rfl fun h0=>C.s1<|Zh rfl<|L.n4<|Za rfl<|dK rfl rfl rfl rfl trivial<|L.n1<|aE rfl (fun hc1=>?_) (fun hc1=>?_)
 ·exact absurd hc1 Yag
 ·have z1:=tZ (n:=n%10) Yd Yd;have z2:(kY (oO (n / 10).toNat 0)).size=0:=mW _ _;refine C.kn<|C.s1<|Za rfl<|N3 rfl rfl rfl Yd Yd Yf rfl trivial<|Za rfl<|fJ rfl rfl rfl Yf rfl trivial<|Zc rfl (fun D1 hD1=>XK (n / 10) Yd Yd _)<|Za rfl<|pK rfl rfl rfl Yd Yd Yf rfl trivial<|Zc rfl (fun D2 hD2=>vV (n%10) Yd Yd _)<|dZ rfl rfl rfl Yd rfl trivial<|Zh rfl ?_;refine L.n5 ?_;exact leave1 rfl rfl rfl rfl (fun D hD=>by show Value.string _=_;rw[wA hz0])
theorem HV(n:Int)(hz0:0≤n)(hz1:n≤1000000)(D:aA):Fn Tryz.prog 69 #[.int .i64 n,.int .i64 2] D (fun _ v=>v=.string (kY (oO n.toNat 2))):=by
 refine enter 16 Tryz.func69 rfl rfl rfl rfl fun h0=>C.s1<|Zh rfl<|L.n4<|Za rfl<|dK rfl rfl rfl rfl trivial<|L.n1<|aE rfl (fun hc1=>?_) (fun hc1=>?_)
 ·exact absurd hc1 Yag
 ·have z1:=tZ (n:=n%10) Yd Yd;have z2:(kY (oO (n / 10).toNat 1)).size=1:=mW _ _;refine C.kn<|C.s1<|Za rfl<|N3 rfl rfl rfl Yd Yd Yf rfl trivial<|Za rfl<|fJ rfl rfl rfl Yf rfl trivial<|Zc rfl (fun D1 hD1=>XB (n / 10) Yd Yd _)<|Za rfl<|pK rfl rfl rfl Yd Yd Yf rfl trivial<|Zc rfl (fun D2 hD2=>vV (n%10) Yd Yd _)<|dZ rfl rfl rfl Yd rfl trivial<|Zh rfl ?_;refine L.n5 ?_;exact leave1 rfl rfl rfl rfl (fun D hD=>by show Value.string _=_;rw[wA hz0])
theorem WZ(n:Int)(hz0:0≤n)(hz1:n≤1000000)(D:aA):Fn Tryz.prog 69 #[.int .i64 n,.int .i64 3] D (fun _ v=>v=.string (kY (oO n.toNat 3))):=by
 refine enter 16 Tryz.func69 rfl rfl rfl rfl fun h0=>C.s1<|Zh rfl<|L.n4<|Za rfl<|dK rfl rfl rfl rfl trivial<|L.n1<|aE rfl (fun hc1=>?_) (fun hc1=>?_)
 ·exact absurd hc1 Yag
 ·have z1:=tZ (n:=n%10) Yd Yd;have z2:(kY (oO (n / 10).toNat 2)).size=2:=mW _ _;refine C.kn<|C.s1<|Za rfl<|N3 rfl rfl rfl Yd Yd Yf rfl trivial<|Za rfl<|fJ rfl rfl rfl Yf rfl trivial<|Zc rfl (fun D1 hD1=>HV (n / 10) Yd Yd _)<|Za rfl<|pK rfl rfl rfl Yd Yd Yf rfl trivial<|Zc rfl (fun D2 hD2=>vV (n%10) Yd Yd _)<|dZ rfl rfl rfl Yd rfl trivial<|Zh rfl ?_;refine L.n5 ?_;exact leave1 rfl rfl rfl rfl (fun D hD=>by show Value.string _=_;rw[wA hz0])
theorem WW(n:Int)(hz0:0≤n)(hz1:n≤1000000)(D:aA):Fn Tryz.prog 69 #[.int .i64 n,.int .i64 4] D (fun _ v=>v=.string (kY (oO n.toNat 4))):=by
 refine enter 16 Tryz.func69 rfl rfl rfl rfl fun h0=>C.s1<|Zh rfl<|L.n4<|Za rfl<|dK rfl rfl rfl rfl trivial<|L.n1<|aE rfl (fun hc1=>?_) (fun hc1=>?_)
 ·exact absurd hc1 Yag
 ·have z1:=tZ (n:=n%10) Yd Yd;have z2:(kY (oO (n / 10).toNat 3)).size=3:=mW _ _;refine C.kn<|C.s1<|Za rfl<|N3 rfl rfl rfl Yd Yd Yf rfl trivial<|Za rfl<|fJ rfl rfl rfl Yf rfl trivial<|Zc rfl (fun D1 hD1=>WZ (n / 10) Yd Yd _)<|Za rfl<|pK rfl rfl rfl Yd Yd Yf rfl trivial<|Zc rfl (fun D2 hD2=>vV (n%10) Yd Yd _)<|dZ rfl rfl rfl Yd rfl trivial<|Zh rfl ?_;refine L.n5 ?_;exact leave1 rfl rfl rfl rfl (fun D hD=>by show Value.string _=_;rw[wA hz0])
theorem NZ(i:Nat)(s:ByteArray)(hi:i≤100000)(hs:s.size≤1000)(D:aA):Fn Tryz.prog 70 #[.int .i64 (i:Int),.string s] D (fun _ v=>v=.int .i64 ((fZ i s.data.toList:Nat):Int)):=by
 refine enter 28 Tryz.func70 rfl rfl rfl rfl fun h0=>C.s1<|Zh rfl<|L.n3<|Za rfl<|Zx rfl<|wL rfl rfl rfl Yf rfl trivial<|Zh rfl<|L.n4<|Zh rfl<|L.n1<|Zah ?_;refine cG (γ:=Nat) (fun k=>s.size-k) (fun k=>k≤s.size) (fun k=>[(6,.int .i64 (k:Int)),(5,.int .i64 ((37*(i+1)+sL 0 (s.data.toList.take k):Nat):Int))]) [(4,_),(1,_)] (fun k=>[D]) 0 Yd ⟨Yb,(by show some (Value.int _ _)=some (Value.int _ _);congr 2),aLJ⟩ C.rs (aD) ?_
 rintro k hI;refine C.s2<|Za rfl<|Za rfl<|gE rfl U9 rfl rfl rfl trivial<|Zad rfl<|L.n1<|aE rfl (fun hc1=>?_) (fun hc1=>?_)
 ·have hk:k<s.size:=by omega
  obtain⟨b,hb⟩:∃b,s.data.toList[k]?= some b:=⟨_,aGF (by simpa using hk)⟩
  have hb0:=b.toNat_lt;refine C.kn<|aL<|Zah<|C.rg<|Za rfl<|Za rfl<|wL rfl rfl rfl Yf rfl trivial<|Zx rfl<|Za rfl<|Za rfl<|N4 rfl U9 rfl rfl Yd (by rw[aIH];exact GK hb) rfl trivial<|wM rfl U5 U3 rfl Yf rfl aLJ ?_;refine wL rfl rfl rfl (by have:=B1 hb hs;simp only[rJ];omega) rfl trivial<|nH rfl rfl rfl (by have:=B1 hb hs;have:=e7 (s:=s) (k:=k) hs;simp only[rJ];omega) rfl trivial<|Zh rfl<|Zz<|Zak<|Zag<|C.rg<|Za rfl<|Zx rfl<|Zh rfl<|Zz ?_
  exact aH 20 (k+1) Yd Yd ⟨(by rw[show((k:Int)+1)=((k+1:Nat):Int) by omega];rfl),(by show some (Value.int _ _)=some (Value.int _ _);congr 2;rw[Y5 hb];push_cast;rw[Int.add_assoc]),aLJ⟩ rfl rfl (LT _) (aD)
 ·obtain rfl:k=s.size:=by omega
  have htk:s.data.toList.take s.size=s.data.toList:=aHE (show s.data.toList.length≤s.size by simp);have hsm:=e7 (s:=s) (k:=s.size) hs;rw[htk]at hsm ⊢
  refine aR<|Zai<|Zai<|Zal<|Zag<|C.s1<|Za rfl<|pK rfl rfl rfl Yd Yd Yf rfl trivial<|Zh rfl<|L.n5 ?_;exact leave1 rfl rfl rfl rfl (fun D hD=>by show Value.int _ _=_;congr 1)
theorem O8(i:Nat)(s:ByteArray)(hi:i≤100000)(hs:s.size≤99)(D:aA):Fn Tryz.prog 39 #[.int .i64 (i:Int),.string s] D (fun _ v=>v=.string (kY (dJ i s.data.toList))):=by
 have hck:=W2 i s.data.toList;have z1:(kY (oO ((s.size:Nat):Int).toNat 2)).size=2:=mW _ _;have z2:(kY (oO ((fZ i s.data.toList:Nat):Int).toNat 4)).size=4:=mW _ _;have z3:(⟨#[59]⟩:ByteArray).size=1:=rfl;have z4:(⟨#[10]⟩:ByteArray).size=1:=rfl;refine enter 18 Tryz.func39 rfl rfl rfl rfl fun h0=>C.s1<|Zh rfl<|L.n3<|Za rfl<|gE rfl U9 rfl rfl rfl trivial<|Zc rfl (fun D1 hD1=>HV ((s.size:Nat):Int) Yd Yd _)<|dZ rfl rfl rfl Yah rfl trivial<|Za rfl<|dZ rfl rfl rfl Yah rfl trivial<|dZ rfl rfl rfl Yah rfl trivial<|Za rfl ?_;refine Za rfl<|Zc rfl (fun D2 hD2=>NZ i s hi Yd _)<|Zc rfl (fun D3 hD3=>WW ((fZ i s.data.toList:Nat):Int) Yd Yd _)<|dZ rfl rfl rfl Yah rfl trivial<|dZ rfl rfl rfl Yah rfl trivial<|Zh rfl<|L.n5 ?_
 exact leave1 rfl rfl rfl rfl (fun D hD=>by show Value.string _=_;rw[UZ])
theorem TI(lv:Value)(ls:List ByteArray)(D:aA)(hS:Sl D RS 1 lv ls)(hn:ls.length≤100)(hsz:∀x∈ls,x.size≤50):Fn Tryz.prog 19 #[lv] D (fun _ v=>v=.string (kY (lO (fW ls)))):=by
 refine enter 20 Tryz.func19 rfl rfl rfl rfl fun h0=>C.s1<|Zh rfl<|L.n3<|Zh rfl<|L.n4<|Zh rfl<|L.n1<|Zah<|cG (γ:=Nat) (fun k=>ls.length-k) (fun k=>k≤ls.length) (fun k=>[(4,.int .i64 (k:Int)),(3,.string (kY (lO ((fW ls).take k))))]) [(2,_),(0,_)] (fun k=>[D]) 0 Ye ⟨Yb,Yb,aLJ⟩ C.rs (aD) ?_
 rintro k h1;refine C.s2<|Za rfl<|Za rfl<|aV rfl U22 rfl hS rfl rfl trivial<|Zad rfl<|L.n1<|aE rfl (fun hc1=>?_) (fun hc1=>?_)
 ·have hk:k<ls.length:=by omega
  obtain⟨x,hx⟩:=C.ge ls k;have hx50:=hsz x (aGD hx);have hfz:=N5 k hn hsz;have hrz:=R1 k x;refine C.kn<|aL<|Zah<|C.rg<|Za rfl<|Za rfl<|Za rfl<|Za rfl<|Zs rfl U22 Tf.s9 rfl hS rfl hx (fun b1 o1 cs1 hr1 hcl1 hA1=>?_);obtain rfl:cs1=[.string _]:=hr1;refine Zf 0 rfl Tf.a9 rfl hA1 rfl<|Zc rfl (fun D1 hD1=>O8 k x Yd Yd _)<|dZ rfl rfl rfl Yah rfl trivial<|Zh rfl<|Zz<|Zak<|Zag<|C.rg<|Za rfl<|Zx rfl<|Zh rfl<|Zz ?_;exact aH 18 (k+1) Yd Yd ⟨(by rw[show((k:Int)+1)=((k+1:Nat):Int) by omega];rfl),(by show some (Value.string _)=some (Value.string _);rw[NE hx]),aLJ⟩ rfl rfl (LT _) (aD)
 ·obtain rfl:k=ls.length:=by omega
  refine aR<|Zai<|Zai<|Zal<|Zag<|C.s1<|Za rfl<|Zh rfl<|L.n5 ?_;exact leave1 rfl rfl rfl rfl (fun D hD=>by show Value.string _=_;rw[aHE (by rw[C8];exact aGW _)])
end L12
end Go.Fs
namespace Go.Fs
open Go.Lib
variable{P:Program}{X:Cx}{γb:Type}[Membership Nat γb]{bad:γb}{all:Array Oper}{K:Act→World→Prop}{Q:Exit→Act→World→Prop}
variable{σ:bQ}{μ:aC}{Ds:List aA}{os:List (Bool×Nat)}{fl:Bool}{ix:Nat}
variable{d:Nat}{x y z:Operand}{u v:Value}{ty:TypeId}{pos:String}{aft:Array Edge}{g:Option (Nat×Bool)}
theorem fI.pushW{h0:H0}{lo:Nat}{D0 D:aA}{mods:List Nat}{μ:aC}{w w':World}(h:fI h0 lo D0 mods μ D w)(vs:List Value){e:TypeId}{fz:Nat×Nat}(hold:∀b,b<w.heap.size→w'.heap[b]?= w.heap[b]?)(hnew:w'.heap[w.heap.size]?= some (.cells vs.toArray e fz))(hsz:w'.heap.size=w.heap.size+1)(henv:Q3 w'=Q3 w):
  ∃D',Le D D'∧D' w.heap.size=vs∧(∀b,b≠w.heap.size→D' b=D b)∧fI h0 lo D0 mods μ D' w':=by
 have hf:=h.agr.fresh (aGW w.heap.size);refine⟨fun b=>if b=w.heap.size then vs else D b,⟨fun b=>?_,by simp only[show(0:Nat)≠w.heap.size by have:=h.agr.pos;omega,aIL]⟩,by simp,(fun b hb=>by simp[hb]),?_⟩
 ·by_cases hb:b=w.heap.size
  ·subst hb;rw[hf];exact aKW
  ·simp[hb]
 ·have hle:=aJB h.hlo h.size;refine⟨h.hlo,by have:=h.size;omega,fun b hb hm=>?_,fun b hb=>?_,h.agr.of (fun b hb=>?_) (by simp only[show(0:Nat)≠w.heap.size by have:=h.agr.pos;omega,aIL]) (hold 0 h.agr.pos),fun p hp=>?_,h.nd,h.fz,fun e he=>henv.trans (h.env e he)⟩
  ·rw[hold b (aIV hb hle)];exact h.old b hb hm
  ·have hne:b≠w.heap.size:=by omega
   simp only[hne,aIL];exact h.dold b hb
  ·by_cases he:b=w.heap.size
   ·subst he;exact⟨vs.toArray,e,fz,hnew,by simp⟩
   ·simp only[he,aIL]at hb ⊢
    obtain⟨cs,e',fz',hc,hp⟩:=h.agr.1 b hb;exact⟨cs,e',fz',by rw[hold b (aY hc)];exact hc,hp⟩
  ·obtain⟨h1,h2,h3⟩:=h.box p hp;have hl:=aY h1;refine⟨by rw[hold p.1 hl];exact h1,?_,h3⟩
   have hne:p.1≠w.heap.size:=by omega
   simp only[hne,aIL];exact h2
theorem FC{r:Option Nat}{n:Nat}{K:Act→World→Prop}(is2:List Nat)(hK:∀a w,K a w→wpOpsIn (FW r) n P all Q is2 a w):∀(os:List (Bool×Oper)) (is:List Nat),is.map (fun i=>all[i]?)=os.map (fun o=>some o.2)→
  ∀a w,mH r bad P all K Q os a w→wpOpsIn (FW r) n P all Q (is++is2) a w:=by
 intro os;induction os with
 |nil=>intro is h a w H;cases is with|nil=>exact hK _ _ H|cons=>simp at h
 |cons o os ih=>
  intro is h a w H;cases is with
  |nil=>simp at h
  |cons i is=>
   obtain⟨fl,o⟩:=o;simp only[aHB,aIP]at h;rw[aIN,wpOpsIn_cons];simp only[mH]at H;split at H
   ·rename_i hq;obtain⟨v,hy,H⟩:=H;exact hy.run hq h.1 (ih is h.2 _ _ H)
   ·unfold wpOpIn;simp only[h.1];unfold uE at H;split at H
    ·rename_i hw;rw[aGX hw];exact P9 (Oper.wpIn_mono (fun a w hh=>ih is h.2 _ _ hh.2) H)
    ·rename_i hw;rw[aGQ hw];exact⟨fun _ _=>trivial,ih is h.2 _ _ H⟩
theorem vF:∀{is:List Nat},(∀i∈is,i<all.size)→is.map (fun i=>all[i]?)=(eN all (is.map fun i=>(false,i))).map fun o=>some o.2
 | [],_=>rfl
 |i::is,h=>by
  obtain⟨o,hi⟩:∃o,all[i]?= some o:=⟨_,aJR (h i aGL)⟩
  rw[aHB,aHB,nP hi,aHB,hi,vF fun j hj=>h j (aGE _ hj)]
theorem NC(k:Nat){id:Nat}{ops:Array Oper}(hk:k<ops.size)(h:WL P X [] ops (fun a w=>wpOpsIn (FW X.r) 0 P ops Q (k::(List.range ops.size).drop (k+1)) a w) Q ((List.range k).map fun i=>(false,i)) σ μ Ds):WC P X Q (.region id ops false) σ μ Ds:=fun a w hh=>by
 have e:List.range ops.size=List.range k++k::(List.range ops.size).drop (k+1):=by
  have h1:=(aIM k (List.range ops.size)).symm;rw[List.take_range,aKC Yd,aIJ (by rw[List.length_range];exact hk),List.getElem_range]at h1
  exact h1
 refine wpIn_region ?_;rw[e];exact FC _ (fun _ _ h=>h) _ _ (vF fun i hi=>by have:=aJH.1 hi;omega) _ _ (h a w hh)
theorem ZQ{i:Nat}{rest:List Nat}{t1 t2 e:TypeId}{s:ByteArray}(ho:all[i]?= some ⟨some d,.convert t1 t2 x,ty,pos,aft,g⟩)(h1:P.underlying t1=some .string)(h2:P.underlying t2=some (.slice e))(he:P.underlying e=some (.int .u8))(hx:ev σ x=some (.string s))(hs:s.size≤1000000000)(hv:∀i∈rest,i<all.size)(hN:Nat.blt d X.N=true)(hg:cS all σ g)
  (kk:∀v D,(∀D₁∈Ds,Le D₁ D)→Sl D RU 1 v s.data.toList→WL P X [] all (fun a w=>Q .normal a w) Q (rest.map fun i=>(false,i)) ((d,v)::σ) μ (D::Ds)):∀a w,Hl X σ μ Ds a w→wpOpsIn (FW X.r) 0 P all Q (i::rest) a w:=by
 intro a w hh;obtain⟨k1,k2,k3,D,h4,h5,h6⟩:=id hh;have hrun:(execOp a.eval ⟨some d,.convert t1 t2 x,ty,pos,aft,g⟩).run P w=.ok (.value (.slice (some ⟨w.heap.size,0,none⟩) s.size (grownCap w s.size 0 e))) (bytesWorld w e s):=by
  simp only[execOp,hh.eval hx];rw[Sem.run_bind,Go.Lib.run_convert_string_bytes w t1 t2 e s h1 h2 he];rfl
 rw[wpOpsIn_cons];unfold wpOpIn;simp only[ho];rw[aGX (hh.wanted hg)];refine⟨fun _ _=>trivial,?_⟩;rw[sV rfl,hrun];obtain⟨D',hle,hD',hDo,hs'⟩:=h4.pushW (bytesCells w e s).toList (fun b hb=>bytesWorld_at_old w e s b hb) (by rw[Array.toArray_toList];exact bytesWorld_at_new w e s) (bytesWorld_size w e s) rfl
 have hA:At D' w.heap.size 0 (bc s.data.toList):=fun j v hj=>by
  rw[hD',aJA];unfold bytesCells;rw[Array.toList_append,aIU]
  ·rw[aKF];exact hj
  ·have:=(aGJ.1 hj).1;rw[iE]at this;rw[aKF,aHR];exact this
 have hS:Sl D' RU 1 (.slice (some ⟨w.heap.size,0,none⟩) s.size (grownCap w s.size 0 e)) s.data.toList:=
  Sl.of_at hA rfl (grownCap_ge w s.size 0 e) Yd fun i b hb=>⟨[.int .u8 b.toNat],rfl,rfl,by
   have h:=QU hb;have hl:=(aGJ.1 h).1;rw[aIR,aIJ hl];rw[aGF hl]at h;rw[aLI,List.take_zero,aHC h]⟩
 refine sQ (fun _ _ h=>h) _ _ (vF hv) _ _ (kk _ D' (fun D₁ hD₁=>(h5 D₁ hD₁).trans hle) hS _ _ (Hl.put ⟨k1,k2,k3,D',hs',fun D₁ hD₁=>?_,h6.step (fun _ p hp=>aGR (aGA.2 ⟨p,hp,rfl⟩)) (fun _=>⟨by rw[bytesWorld_size];omega,fun b hb _=>⟨bytesWorld_at_old w e s b hb,hDo b Yd⟩,rfl⟩) hs'.dom⟩ hN _));rcases aGB.1 hD₁ with rfl|hD₁
 ·exact Le.refl _
 ·exact(h5 D₁ hD₁).trans hle
end Go.Fs
namespace Go.Fs
open Go.Proofs
namespace L12
open C12 Go.Lib
section
variable{P:Program}{X:Cx}{γb:Type}[Membership Nat γb]{bad:γb}{all:Array Oper}{K:Act→World→Prop}{Q:Exit→Act→World→Prop}
variable{σ:bQ}{μ:aC}{Ds:List aA}{os:List (Bool×Nat)}{fl:Bool}{ix d:Nat}{x y z:Operand}{ty:TypeId}{pos:String}{aft:Array Edge}{g:Option (Nat×Bool)}
theorem sF{t:TypeId}{s:ByteArray}{k1 k2:IntKind}{a e:Nat}(ho:all[ix]?= some ⟨some d,.slice t x (some y) (some z) none,ty,pos,aft,g⟩)(ht:P.underlying t=some .string)(hx:ev σ x=some (.string s))(hy:ev σ y=some (.int k1 (a:Int)))(hz:ev σ z=some (.int k2 (e:Int)))(h1:a≤e)(h2:e≤s.size)(hN:Nat.blt d X.N=true)(hg:cS all σ g)
  (kk:WL P X bad all K Q os ((d,.string (s.extract a e))::σ) μ Ds):WL P X bad all K Q ((fl,ix)::os) σ μ Ds:=CX ho ht hx hy hz Yd Yd Yd hN hg kk
end
theorem xA(l:List UInt8):(kY l).data.toList=l:=by simp[kY]
theorem aFC{α:Type}{l:List α}(h:6≤l.length):∃a b c d e f t,l=a::b::c::d::e::f::t:=by
 match l,h with
 |a::b::c::d::e::f::t,_=>exact⟨a,b,c,d,e,f,t,rfl⟩
theorem YM{b:List UInt8}{n:Nat}(h:rN b=some n):∃t,b=jG n 1::jG n 0::t:=by
 unfold rN at h;split at h
 ·rename_i c d t;split at h
  ·rename_i hh;obtain⟨h1,h2,h3⟩:=hh;rw[tG]at h1 h2;cases h;refine⟨t,?_⟩;have e1:c=jG ((c.toNat-48)*10+(d.toNat-48)) 1:=UInt8.toNat_inj.1 (by rw[tJ];omega)
   have e2:d=jG ((c.toNat-48)*10+(d.toNat-48)) 0:=UInt8.toNat_inj.1 (by rw[tJ];omega);rw[←e1,←e2]
  ·cases h
 ·cases h
theorem MX{i:Nat}{b l:List UInt8}(h:eX i b=some l):dJ i l=b.take (9+l.length)∧l=(b.drop 3).take l.length:=by
 have hl:=rH h;unfold eX at h;split at h
 ·cases h
 ·rename_i h9;split at h
  ·cases h
  ·rename_i n hn;split at h
   ·cases h
   ·rename_i hb;split at h
    ·rename_i ha;have hle:l.length=n:=by rw[←aHC h,aHZ,aHU];omega
     have hl2:(b.drop 3).take n=l:=aHC h;rw[hle];refine⟨?_,hl2.symm⟩;obtain⟨t,rfl⟩:=YM hn;rw[hl2]at ha;cases t with
     |nil=>simp at h9
     |cons s u=>
      have hv:6≤(u.drop n).length:=by rw[aHU];simp only[aGM]at hb;omega
      obtain⟨v0,v1,v2,v3,v4,v5,w,hw⟩:=aFC hv;have hg:∀k,u.getD (n+k) 0=(u.drop n).getD k 0:=fun k=>by rw[aHP,aHP,aIQ]
      unfold tF qD at ha;rw[show 3+n=n+0+1+1+1 by omega,show 8+n=n+5+1+1+1 by omega,show 4+n=n+1+1+1+1 by omega]at ha;simp only[aKJ,List.getD_cons_zero,aKZ]at ha;rw[show u.getD n 0=(u.drop n).getD 0 0 from hg 0,hg 5,←aKA,hw]at ha;have hu:u.take n=l:=by rw[←hl2];rfl
      have ht:(jG n 1::jG n 0::s::u).take (9+n)=jG n 1::jG n 0::s::(u.take n++(u.drop n).take 6):=by
       rw[show 9+n=(n+6)+1+1+1 by omega,aLI,aLI,aLI,List.take_add]
      rw[ht,hu,hw];unfold dJ;rw[hle];unfold kN at ha ⊢
      simp at ha;obtain⟨rfl,rfl,rfl,h1,h2,h3,h4⟩:=ha;simp[h1,h2,h3,h4]
    ·cases h
def aDE(b:ByteArray)(i p n:Nat):Prop:=p+9+n≤b.size∧kY (dJ i (b.extract (p+3) (p+3+n)).data.toList)=b.extract p (p+9+n)
section
variable{b:ByteArray}{i p n:Nat}
theorem d8(_h:p+9+n≤b.size):(b.extract (p+3) (p+3+n)).data.toList=((b.data.toList.drop p).drop 3).take n∧(b.extract p (p+9+n)).data.toList=(b.data.toList.drop p).take (9+n):=by
 rw[BD,BD,aKA,show p+3+n-(p+3)=n by omega,show p+9+n-p=9+n by omega];exact⟨rfl,rfl⟩
theorem aCR(hn:n≤50)(h:aDE b i p n):eX i (b.data.toList.drop p)=some (b.extract (p+3) (p+3+n)).data.toList:=by
 obtain⟨h1,h2⟩:=h;have h3:(kY (dJ i (b.extract (p+3) (p+3+n)).data.toList)).data.toList=(b.extract p (p+9+n)).data.toList:=by rw[h2]
 rw[xA,(d8 h1).2]at h3;have hl:(b.extract (p+3) (p+3+n)).data.toList.length=n:=by rw[(d8 h1).1,aHZ,aHU,aHU];show min n (b.size-p-3)=n;omega
 rw[←aIM (9+n) (b.data.toList.drop p),←h3];exact EQ Yd i _
theorem ZO(h:∀m,m≤50→¬aDE b i p m):eX i (b.data.toList.drop p)=none:=by
 cases hw:eX i (b.data.toList.drop p)with
 |none=>rfl
 |some l=>
  have h1:=rH hw;obtain⟨h2,h3⟩:=MX hw;have h4:=h1.2;rw[aHU]at h4;have h5:p+9+l.length≤b.size:=by have:b.data.toList.length=b.size:=rfl;omega
  refine absurd ⟨h5,?_⟩ (h l.length h1.1);apply Go.WideShapes.bytes_inj;rw[xA,(d8 h5).1,(d8 h5).2,←h3,h2]
theorem aDW{k:Nat}(hk:k=i)(h:(decide ((p:Int)+9+(n:Int)≤(b.size:Int))&&decide (kY (dJ k (b.extract (p+3) (p+3+n)).data.toList)=b.extract p (p+9+n)))=true):aDE b i p n:=by
 subst hk;simp only[aGO,aGZ]at h;exact⟨by omega,h.2⟩
theorem aDN{k:Nat}(hk:k=i)(h:(decide ((p:Int)+9+(n:Int)≤(b.size:Int))&&decide (kY (dJ k (b.extract (p+3) (p+3+n)).data.toList)=b.extract p (p+9+n)))=false):¬aDE b i p n:=by
 subst hk;rintro⟨h1,h2⟩;rw[decide_eq_true h2,Bool.and_true]at h;have:=of_decide_eq_false h;omega
end
theorem aEM{n:Nat}{f:Bool}(h:(decide ((n:Int)≤50)&& !f)=true):n≤50∧f=false:=by
 simp only[aGO,aGZ,aKH]at h;exact⟨by omega,h.2⟩
theorem aCM{n:Nat}(h:(decide ((n:Int)≤50)&& !false)=false):50<n:=by
 simp only[aKQ,Bool.and_true,aIT]at h;omega
theorem HY{p q:Nat}{A B:List ByteArray}{R S:Prop}(h:(false=false∧q=p∧A=B∧R)∨(false=true∧S)):p=q∧A=B∧R:=by
 rcases h with h|h
 ·exact⟨h.2.1.symm,h.2.2⟩
 ·cases h.1
theorem TH{p q:Nat}{i:Nat}{A B:List ByteArray}{b:List UInt8}{R:Prop}(h:(true=false∧R)∨(true=true∧∃s:ByteArray,eX i b=some s.data.toList∧q=p+9+s.size∧A=B++[s])):∃s:ByteArray,eX i b=some s.data.toList∧q=p+9+s.size∧A=B++[s]:=by
 rcases h with h|h
 ·cases h.1
 ·exact h.2
theorem KF(l:List UInt8):(⟨l.toArray⟩:ByteArray)=kY l:=rfl
theorem TL(b:ByteArray)(hb4:b.size≤1000)(D:aA):Fn Tryz.prog 16 #[.string b] D (fun D' v=>∃lv,v=.tuple #[lv,.int .i64 (JK (mO 40 0 0 b.data.toList):Int)]∧Sl D' RS 1 lv ((mO 40 0 0 b.data.toList).map (·.1))):=by
 refine enter 68 Tryz.func16 rfl rfl rfl rfl fun h0=>C.s1<|Zh rfl<|Zh rfl<|L.n3<|Zh rfl<|L.n3<|Zh rfl<|L.n2<|Zah<|cJ (γ:=Nat×List (ByteArray×Nat)×Value×aC) (fun g=>40-g.2.1.length) (fun g=>g.2.1.length≤40∧g.1≤b.size∧mO 40 0 0 b.data.toList=g.2.1++mO (40-g.2.1.length) g.2.1.length g.1 b.data.toList∧JK g.2.1=g.1∧bN 9 1 g.2.2.1 g.2.1.length ((g.2.1.map (·.1)).map Value.string) g.2.2.2) (fun g=>[(4,g.2.2.1),(5,.int .i64 (g.1:Int))]) [(3,_),(2,_),(0,_)] (fun g=>g.2.2.2++[]) (fun g=>[D]) (0,[],.slice none 0 0,[]) ⟨by simp,by simp,rfl,rfl,by simpa using bN.nil⟩ ⟨Yb,Yb,aLJ⟩ C.rs (LT _) (aD) ?_
 rintro⟨p,dn,v,ν⟩ ⟨h1,h2,hxs,hen,ha⟩;simp only at h1 h2 hxs hen ha;refine C.s2<|Za rfl<|dL rfl U22 rfl ha rfl rfl trivial<|Zad rfl<|L.n1<|aE rfl (fun hc1=>?_) (fun hc1=>?_)
 ·have h40:dn.length<40:=by omega
  have hdl:(dn.map (·.1)).length=dn.length:=aHR _;refine C.kn<|Zah<|C.s1<|Zh rfl<|L.n4<|Zh rfl<|L.n1<|Zah<|cJ (γ:=Nat×Bool×Nat×List ByteArray×Value×aC) (fun g=>51-g.1) (fun g=>g.1≤51∧bN 9 1 g.2.2.2.2.1 g.2.2.2.1.length (g.2.2.2.1.map Value.string) g.2.2.2.2.2∧((g.2.1=false∧g.2.2.1=p∧g.2.2.2.1=dn.map (·.1)∧∀m,m<g.1→¬aDE b dn.length p m)∨(g.2.1=true∧∃s:ByteArray,eX dn.length (b.data.toList.drop p)=some s.data.toList∧g.2.2.1=p+9+s.size∧g.2.2.2.1=dn.map (·.1)++[s]))) (fun g=>[(7,.int .i64 (g.1:Int)),(6,.bool g.2.1),(5,.int .i64 (g.2.2.1:Int)),(4,g.2.2.2.2.1)]) [(10,_),(9,_),(8,_),(3,_),(2,_),(0,_)] (fun g=>g.2.2.2.2.2++[]) (fun g=>[D]) (0,false,p,dn.map (·.1),v,ν) ⟨by simp,by rw[aHR];exact ha,aGR ⟨rfl,rfl,rfl,fun m hm=>by simp only at hm;omega⟩⟩ ⟨Yb,Yb,Yb,Yb,aLJ⟩ C.rs (LT _) (aD) ?_
  rintro⟨n,f,q,ls,u,ω⟩ ⟨h3,hb,hor⟩;simp only at h3 hb hor;refine C.s2<|Za rfl<|hP rfl rfl rfl rfl trivial<|Za rfl ?_;refine' L.anK 3 (s:=13) (p:=16) rfl (fun hg1=>?_) (fun hg1=>?_) ?_;rotate_left
  ·refine Zb rfl<|iW rfl rfl rfl ⟨_,rfl,rfl⟩<|Zab rfl ?_;exact L.cu 2
  ·refine Zk rfl<|Zk rfl<|Zac rfl ?_;exact L.cu 2
  refine L.n1<|aQ rfl (fun hc2=>?_) (fun hc2=>?_)
  ·obtain⟨h5,rfl⟩:=aEM hc2;obtain⟨rfl,rfl,hno⟩:=HY hor;refine C.kn<|aL<|Zah<|aL<|iS [] 6 [0,1,2,3,4,5,6,7,8,9,10,11,12,13,14,15,16,17,19,20,21,22,23,24,25,18,26,27] [false,false,true,false,true,true,false,false,false,false,true,true,true,true,true,true,true,true,true,true,true,true,true,true,true,true,false,false] [(false,0),(false,1),(true,2),(false,3),(true,4),(true,5),(false,6),(false,7),(false,8),(false,9),(true,10),(true,11),(true,12),(true,13),(true,14),(true,15),(true,16),(true,17),(true,19),(true,20),(true,21),(true,22),(true,23),(true,24),(true,25),(true,18),(false,26),(false,27)] Tf.follows (fun _ _ _ h=>bZ (P:=Tryz.prog) (fn:=Tryz.f16) _ _ _ h) Yg rfl<|Za rfl<|Zx rfl<|Za rfl<|Zx rfl<|Za rfl<|gE rfl U9 rfl rfl rfl trivial<|hP rfl rfl rfl rfl aLJ ?_;refine Za rfl ?_;refine' L.anK 20 (s:=26) (p:=46) rfl (fun hg2=>?_) (fun hg2=>?_) ?_;rotate_left
   ·have hpn:p+9+n≤b.size:=by have h9:=hg2;simp at h9;omega
    have hsz:(b.extract (p+3) (p+3+n)).size=n:=by rw[ByteArray.size_extract];omega
    refine Zb rfl<|dL rfl U22 rfl hb rfl rfl ⟨_,rfl,rfl⟩<|Zb rfl<|Zb rfl<|nH rfl rfl rfl Yf rfl ⟨_,rfl,rfl⟩<|Zb rfl<|nH rfl rfl rfl Yf rfl ⟨_,rfl,rfl⟩<|Zb rfl<|nH rfl rfl rfl Yf rfl ⟨_,rfl,rfl⟩<|sF (a:=p+3) (e:=p+3+n) rfl U9 rfl Yb Yb Yd Yd rfl ⟨_,rfl,rfl⟩<|Zb rfl<|Zb rfl ?_;refine Zb rfl<|nH rfl rfl rfl Yf rfl ⟨_,rfl,rfl⟩<|Zb rfl<|nH rfl rfl rfl Yf rfl ⟨_,rfl,rfl⟩<|sF (a:=p) (e:=p+9+n) rfl U9 rfl Yb Yb Yd Yd rfl ⟨_,rfl,rfl⟩<|Zd rfl (fun D1 hD1=>O8 (dn.map (·.1)).length (b.extract (p+3) (p+3+n)) Yd Yd _)<|tB rfl rfl rfl rfl ⟨_,rfl,rfl⟩<|Zab rfl ?_;exact L.cu 19
   ·refine Zk rfl<|Zk rfl<|Zk rfl<|Zk rfl<|Zk rfl<|Zk rfl<|Zk rfl<|Zk rfl<|Zk rfl<|Zk rfl<|Zk rfl<|Zk rfl ?_;refine Zk rfl<|Zk rfl<|Zk rfl<|Zk rfl<|Zk rfl<|Zk rfl<|Zk rfl<|Zac rfl ?_;exact L.cu 19
   refine L.n1<|aQ rfl (fun hc3=>?_) (fun hc3=>?_)
   ·have hM:aDE b dn.length p n:=aDW hdl (by simpa using hc3);have hpn:=hM.1;have hsz:(b.extract (p+3) (p+3+n)).size=n:=by rw[ByteArray.size_extract];omega
    refine C.s1<|Za rfl<|Za rfl<|Za rfl<|Zx rfl<|Za rfl<|Zx rfl<|Za rfl<|Zx rfl<|sF (a:=p+3) (e:=p+3+n) rfl U9 rfl Yb Yb Yd Yd rfl trivial<|Zp rfl U22 Tf.s9 Tf.z9 rfl rfl rfl rfl (.cons rfl rfl .nil) (fun b901 D901 hD901 hA901=>bA (A:=[]) (B:=[]) rfl U22 rfl rfl Tf.s9 Tf.z9 rfl Tf.i9 rfl rfl rfl hb (jL.lit hA901) Ye rfl (by rw[aHR,aIR]) Yi Yd (aGR rfl) rfl aLJ (fun v1 ν1 ha1=>?_));have hb2:bN 9 1 v1 (dn.map (·.1)++[(b.extract (p+3) (p+3+n))]).length ((dn.map (·.1)++[(b.extract (p+3) (p+3+n))]).map Value.string) ν1:=by rw[aGC,aGS];exact ha1
    refine aF (ν1++[]) rfl<|Zh rfl<|L.n3<|Za rfl<|Za rfl<|Zx rfl<|Zx rfl<|Zh rfl<|L.n1<|C.rg<|Zh rfl<|Zz ?_;refine Zak<|Zag<|C.rg<|Za rfl<|Zx rfl<|Zh rfl<|Zz ?_;exact aH 38 (n+1,true,p+9+(b.extract (p+3) (p+3+n)).size,dn.map (·.1)++[(b.extract (p+3) (p+3+n))],v1,ν1) ⟨by simp only;omega,hb2,Or.inr ⟨rfl,_,aCR h5 hM,rfl,rfl⟩⟩ Yn ⟨Yb,rfl,(by show some (Value.int _ _)=some (Value.int _ _);congr 2;simp only;omega),rfl,aLJ⟩ rfl rfl (LT _) (fun D h=>⟨D,LE _ (h),Le.refl D⟩)
   ·have hM:¬aDE b dn.length p n:=aDN hdl hc3;refine bR<|Zak<|Zag<|C.rg<|Za rfl<|Zx rfl<|Zh rfl<|Zz ?_;exact aH 20 (n+1,false,p,dn.map (·.1),u,ω) ⟨by simp only;omega,hb,Or.inl ⟨rfl,rfl,rfl,fun m hm=>by rcases Nat.lt_succ_iff_lt_or_eq.1 hm with h|rfl;exact hno m h;exact hM⟩⟩ Yn ⟨Yb,rfl,Yb,rfl,aLJ⟩ rfl rfl (LT _) (aD)
  ·refine aR<|Zai<|Zai<|Zal<|Zag<|C.s1<|Za rfl<|Zaf rfl<|L.n1<|aQ rfl (fun hc4=>?_) (fun hc4=>?_)
   ·obtain rfl:f=false:=by simpa using hc4
    obtain⟨rfl,rfl,hno⟩:=HY hor;have hn51:50<n:=aCM hc2;refine C.s1<|Za rfl<|Za rfl<|Zh rfl<|Zh rfl<|L.n5<|aG<|Zaj<|aG<|Zaj ?_;have hxs2:mO 40 0 0 b.data.toList=dn:=s6 hxs (ZO fun m hm hM=>hno m Yd hM);refine eF (A:=[]) (B:=[]) hb rfl (fun D9 hD9 hF9=>?_);exact Zm [_,_] rfl C.rs (fun D hD=>⟨_,by rw[hxs2,hen];rfl,by rw[hxs2];exact(hF9.strs rfl Yd).up RS.up (hD _ Ye)⟩)
   ·obtain rfl:f=true:=by simpa using hc4
    obtain⟨s,hw,rfl,rfl⟩:=TH hor;have hwl:=(rH hw).2;rw[aHU]at hwl;have hsl:s.data.toList.length=s.size:=rfl;have hbl:b.data.toList.length=b.size:=rfl;refine bR<|Zak ?_;exact aH 13 (p+9+s.size,dn++[(s,p+9+s.size)],u,ω) ⟨by simp only[aGC,aJE];omega,by simp only;omega,by simp only;rw[aGC,aJE,aGN];exact BH h40 hxs hw,X4 _ _,by simpa using hb⟩ (by simp only[aGC,aJE];omega) ⟨Yb,Yb,aLJ⟩ rfl rfl (LT _) (aD)
 ·have h40:dn.length=40:=by omega
  refine aR<|Zai<|Zai<|Zal<|Zag<|C.s1<|Za rfl<|Za rfl<|Zh rfl<|Zh rfl<|L.n5 ?_;have hxs2:mO 40 0 0 b.data.toList=dn:=by rw[hxs,show 40-dn.length=0 by omega];exact aGG _
  refine eF (A:=[]) (B:=[]) ha rfl (fun D9 hD9 hF9=>?_);exact Zm [_,_] rfl C.rs (fun D hD=>⟨_,by rw[hxs2,hen];rfl,by rw[hxs2];exact(hF9.strs (aHR _) Yd).up RS.up (hD _ Ye)⟩)
theorem R5(lv:Value)(ls:List ByteArray)(b:ByteArray)(D:aA)(hS:Sl D RS 1 lv ls)(hV:kC D):Fn Tryz.prog 4 #[lv,.string b] D (fun _ v=>v=.bool true):=by
 refine enter 74 Tryz.func4 rfl rfl rfl rfl fun h0=>C.s1<|Zh rfl<|L.n4<|Za rfl<|Zc rfl (fun D1 hD1=>LG _ ls _ (hS.up RS.up (hD1 _ Ye)))<|Zaf rfl<|Za rfl ?_
 refine' L.orK 4 (s:=15) (p:=19) rfl (fun hg1=>?_) (fun hg1=>?_) ?_;rotate_left
 ·refine Zb rfl<|gE rfl U9 rfl rfl rfl ⟨_,rfl,rfl⟩<|eT rfl rfl rfl rfl ⟨_,rfl,rfl⟩<|Zac rfl ?_;exact L.cu 3
 ·refine Zk rfl<|Zk rfl<|Zk rfl<|Zab rfl ?_;exact L.cu 3
 refine L.n1<|aQ rfl (fun hc1=>?_) (fun hc1=>?_)
 ·refine C.s1<|Zc rfl (fun D2 hD2=>G9 _ (hV.up (hD2 _ Ye)))<|Zh rfl<|L.n5<|Zaj ?_;exact leave1 rfl rfl rfl rfl (fun D hD=>rfl)
 ·obtain⟨hth,hb4⟩:Y9 ls=true∧b.size≤400:=by have h9:=hc1;simp only[aJM,Bool.not_eq_false',aIT]at h9;exact⟨h9.1,by omega⟩
  have h45:=(yI.1 hth).1;refine C.kn<|C.s1<|Za rfl<|cB rfl rfl rfl (fun D3 hD3=>KB _ ls _ (hS.up RS.up (hD3 _ Ye)) Yd) rfl aLJ (fun v3 D3 hD3 hp3=>?_);have hq:=hp3;refine cB rfl rfl rfl (fun D4 hD4=>BC _ ls _ (hq.up RS.up (hD4 _ Ye))) rfl aLJ (fun v4 D4 hD4 hp4=>?_);obtain⟨wv,rfl,hwb⟩:=hp4;refine Za rfl<|Zaa rfl<|Zaa rfl<|Zh rfl<|Zh rfl<|L.n2<|NC 1 Yag<|Za rfl<|Zz (ZQ rfl U9 U51 U5 rfl Yd Yag rfl aLJ (fun bv9 D99 hD99 hB9=>cB rfl rfl rfl (fun D5 hD5=>EE _ b.data.toList _ (hB9.up RU.up (hD5 _ Ye)) (by show b.size≤_;omega)) rfl aLJ (fun v5 D5 hD5 hp5=>?_)))
  obtain⟨lv1,rfl,hl1⟩:=hp5;refine Za rfl<|Zaa rfl<|Zaa rfl<|Zh rfl<|Zh rfl<|L.n3<|Za rfl<|cB rfl rfl rfl (fun D6 hD6=>TL b Yd _) rfl aLJ (fun v6 D6 hD6 hp6=>?_);obtain⟨lv2,rfl,hl2⟩:=hp6;refine Za rfl<|Zaa rfl<|Zaa rfl<|Zh rfl<|Zh rfl<|L.n4<|Za rfl<|Za rfl<|eI rfl rfl rfl rfl trivial<|Za rfl ?_;refine' L.orK 5 (s:=41) (p:=46) rfl (fun hg2=>?_) (fun hg2=>?_) ?_;rotate_left
  ·refine Zb rfl<|Zb rfl<|Zd rfl (fun D7 hD7=>FI _ _ (List.map (fun x:ByteArray×Nat=>x.1) (mO 40 0 0 b.data.toList)) (List.map (fun x:ByteArray×Nat=>x.1) (mO 40 0 0 b.data.toList)) _ (hl1.up RS.up (hD7 _ Ye)) (hl2.up RS.up (hD7 _ Ye)))<|iW rfl rfl rfl ⟨_,rfl,rfl⟩<|Zac rfl ?_;exact L.cu 4
  ·refine Zk rfl<|Zk rfl<|Zk rfl<|Zk rfl<|Zab rfl ?_;exact L.cu 4
  refine L.n1<|aQ rfl (fun hc2=>?_) (fun hc2=>?_)
  ·exact absurd hc2 Ye
  ·refine C.kn<|C.s2<|Za rfl<|Zc rfl (fun D8 hD8=>FP _ ls _ (hS.up RS.up (hD8 _ Ye)))<|Zh rfl<|L.n3<|Za rfl<|eI rfl rfl rfl rfl trivial<|L.n1<|aE rfl (fun hc3=>?_) (fun hc3=>?_)
   ·rw[aGQ hc3]at hwb;refine C.s1<|Za rfl<|Za rfl<|dK rfl rfl rfl rfl trivial<|Za rfl ?_;refine' L.anK 4 (s:=54) (p:=58) rfl (fun hg3=>?_) (fun hg3=>?_) ?_;rotate_left
    ·refine Zb rfl<|aV rfl U51 rfl hwb rfl rfl ⟨_,rfl,rfl⟩<|dK rfl rfl rfl rfl ⟨_,rfl,rfl⟩<|Zab rfl ?_;exact L.cu 3
    ·refine Zk rfl<|Zk rfl<|Zk rfl<|Zac rfl ?_;exact L.cu 3
    refine Za rfl ?_;refine' L.anK 2 (s:=59) (p:=61) rfl (fun hg4=>?_) (fun hg4=>?_) ?_;rotate_left
    ·refine Zd rfl (fun D9 hD9=>G9 _ (hV.up (hD9 _ Ye)))<|Zab rfl ?_;exact L.cu 1
    ·refine Zk rfl<|Zac rfl ?_;exact L.cu 1
    refine Zh rfl<|L.n5<|Zaj ?_;exact leave1 rfl rfl rfl rfl (fun D hD=>aGV Value.bool Ye)
   ·have hf0:eD ls=0:=Classical.not_not.1 hc3;rw[aGX hf0]at hwb;refine C.kn<|aL<|C.drawA [] 5 13 96 (fun _ _ _ h=>bZ (P:=Tryz.prog) (fn:=Tryz.f4) _ _ _ h)<|Za rfl<|dK rfl rfl rfl rfl trivial<|Za rfl ?_;refine' L.anK 6 (s:=64) (p:=70) rfl (fun hg5=>?_) (fun hg5=>?_) ?_;rotate_left
    ·refine Zb rfl<|mM rfl U51 U5 U9 rfl hwb Ye (fun _ _ _ _ _=>GT) rfl ⟨_,rfl,rfl⟩<|Zb rfl<|Zd rfl (fun D10 hD10=>TI _ ls _ (hS.up RS.up (hD10 _ Ye)) Yd (fun x hx=>N7 hf0 x hx))<|tB rfl rfl rfl rfl ⟨_,rfl,rfl⟩<|Zab rfl ?_;exact L.cu 5
    ·refine Zk rfl<|Zk rfl<|Zk rfl<|Zk rfl<|Zk rfl<|Zac rfl ?_;exact L.cu 5
    refine Za rfl ?_;refine' L.anK 2 (s:=71) (p:=73) rfl (fun hg6=>?_) (fun hg6=>?_) ?_;rotate_left
    ·refine Zd rfl (fun D11 hD11=>G9 _ (hV.up (hD11 _ Ye)))<|Zab rfl ?_;exact L.cu 1
    ·refine Zk rfl<|Zac rfl ?_;exact L.cu 1
    refine Zh rfl<|L.n5 ?_;exact leave1 rfl rfl rfl rfl (fun D hD=>aGV Value.bool (by rw[hf0];simp;exact KF _))
end L12
end Go.Fs
