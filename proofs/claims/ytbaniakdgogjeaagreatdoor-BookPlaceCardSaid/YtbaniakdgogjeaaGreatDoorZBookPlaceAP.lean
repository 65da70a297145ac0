/- Of the proof of BookPlace: BW47, Conv, BW48. -/
import Derived.Test.YtbaniakdgogjeaaGreatDoorZBookPlaceAO
import Derived.Lib.ConvBytes
namespace Go.Fs
open Go.Proofs
namespace L12
open C12 Go.Lib
def o5:Nat→Nat→List UInt8
 |_,0=>[]
 |n,k+1=>o5 (n / 10) k++[UInt8.ofNat (48+n%10)]
theorem WD:∀(k n:Nat),(o5 n k).length=k
 |0,_=>rfl
 |k+1,n=>by rw[o5,aJZ,WD k];rfl
theorem g9(k n:Nat):(f8 (o5 n k)).size=k:=by rw[wL,WD]
theorem IG{n:Int}(h:0≤n){k:Nat}:f8 (o5 (n / 10).toNat k)++f8 (itoa (n%10))=f8 (o5 n.toNat (k+1)):=by
 obtain⟨m,rfl⟩:=Int.eq_ofNat_of_zero_le h;rw[aEX Yd Yd,o5,show((m:Int) / 10).toNat=(m:Int).toNat / 10 by omega,show((m:Int)%10).toNat=(m:Int).toNat%10 by omega];apply Go.WideShapes.bytes_inj;simp[f8]
theorem aFI{i:Nat}{s:ByteArray}:((((f8 (o5 ((s.size:Nat):Int).toNat 2)++⟨#[59]⟩)++s)++⟨#[59]⟩)++f8 (o5 ((lI i s.data.toList:Nat):Int).toNat 4))++⟨#[10]⟩=f8 (oK i s.data.toList):=by
 apply Go.WideShapes.bytes_inj;simp[f8,oK,rM,o5,qL,Nat.div_div_eq_div_mul]
theorem BX(i:Nat)(s:ByteArray):(f8 (oK i s.data.toList)).size=9+s.size:=by rw[wL,lT];rfl
theorem aFA{ls:List ByteArray}{k:Nat}{x:ByteArray}(h:ls[k]?= some x):f8 (rH ((eU ls).take k))++f8 (oK k x.data.toList)=f8 (rH ((eU ls).take (k+1))):=by
 rw[CU (EL h)];apply Go.WideShapes.bytes_inj;simp[f8]
theorem NV{ls:List ByteArray}(k:Nat)(hn:ls.length≤100)(hsz:∀x∈ls,x.size≤50):(f8 (rH ((eU ls).take k))).size≤6000:=by
 have h:=wX ((eU ls).take k) 0 50 (fun l hl=>by
  obtain⟨x,hx,rfl⟩:=aJY.1 (aJP hl);exact hsz x hx)
 rw[wL];refine aMU h ?_;rw[aMJ,zP];omega
theorem aFM(n:Int)(_hz0:0≤n)(_hz1:n≤1000000)(D:aA):Fn Tryz.prog 34 #[.int .i64 n,.int .i64 0] D (fun _ v=>v=.string (f8 (o5 n.toNat 0))):=by
 refine enter 16 Tryz.func34 rfl rfl rfl rfl fun h0=>C.s1<|Zi rfl<|L.n4<|Za rfl<|dH rfl rfl rfl rfl trivial<|L.n1<|aF rfl (fun hc1=>?_) (fun hc1=>?_)
 ·refine C.s1<|Zi rfl<|L.n5<|Zaj ?_;exact Zc [_] rfl ⟨rfl,aGL⟩ (fun D hD=>rfl)
 ·exact(hc1 rfl).elim
theorem aFK(n:Int)(hz0:0≤n)(hz1:n≤1000000)(D:aA):Fn Tryz.prog 34 #[.int .i64 n,.int .i64 1] D (fun _ v=>v=.string (f8 (o5 n.toNat 1))):=by
 refine enter 16 Tryz.func34 rfl rfl rfl rfl fun h0=>C.s1<|Zi rfl<|L.n4<|Za rfl<|dH rfl rfl rfl rfl trivial<|L.n1<|aF rfl (fun hc1=>?_) (fun hc1=>?_)
 ·exact absurd hc1 Yah
 ·have z1:=AU (n:=n%10) Yd Yd;have z2:(f8 (o5 (n / 10).toNat 0)).size=0:=g9 _ _;refine C.kn<|C.s1<|Za rfl<|UJ rfl rfl rfl Yd Yd Yf rfl trivial<|Za rfl<|fW rfl rfl rfl Yf rfl trivial<|Zd rfl (fun D1 hD1=>aFM (n / 10) Yd Yd _)<|Za rfl<|zR rfl rfl rfl Yd Yd Yf rfl trivial<|Zd rfl (fun D2 hD2=>IT (n%10) Yd Yd _)<|kU rfl rfl rfl Yd rfl trivial<|Zi rfl ?_;refine L.n5 ?_;exact Zc [_] rfl ⟨rfl,aGL⟩ (fun D hD=>by show Value.string _=_;rw[IG hz0])
theorem aEY(n:Int)(hz0:0≤n)(hz1:n≤1000000)(D:aA):Fn Tryz.prog 34 #[.int .i64 n,.int .i64 2] D (fun _ v=>v=.string (f8 (o5 n.toNat 2))):=by
 refine enter 16 Tryz.func34 rfl rfl rfl rfl fun h0=>C.s1<|Zi rfl<|L.n4<|Za rfl<|dH rfl rfl rfl rfl trivial<|L.n1<|aF rfl (fun hc1=>?_) (fun hc1=>?_)
 ·exact absurd hc1 Yah
 ·have z1:=AU (n:=n%10) Yd Yd;have z2:(f8 (o5 (n / 10).toNat 1)).size=1:=g9 _ _;refine C.kn<|C.s1<|Za rfl<|UJ rfl rfl rfl Yd Yd Yf rfl trivial<|Za rfl<|fW rfl rfl rfl Yf rfl trivial<|Zd rfl (fun D1 hD1=>aFK (n / 10) Yd Yd _)<|Za rfl<|zR rfl rfl rfl Yd Yd Yf rfl trivial<|Zd rfl (fun D2 hD2=>IT (n%10) Yd Yd _)<|kU rfl rfl rfl Yd rfl trivial<|Zi rfl ?_;refine L.n5 ?_;exact Zc [_] rfl ⟨rfl,aGL⟩ (fun D hD=>by show Value.string _=_;rw[IG hz0])
theorem aFP(n:Int)(hz0:0≤n)(hz1:n≤1000000)(D:aA):Fn Tryz.prog 34 #[.int .i64 n,.int .i64 3] D (fun _ v=>v=.string (f8 (o5 n.toNat 3))):=by
 refine enter 16 Tryz.func34 rfl rfl rfl rfl fun h0=>C.s1<|Zi rfl<|L.n4<|Za rfl<|dH rfl rfl rfl rfl trivial<|L.n1<|aF rfl (fun hc1=>?_) (fun hc1=>?_)
 ·exact absurd hc1 Yah
 ·have z1:=AU (n:=n%10) Yd Yd;have z2:(f8 (o5 (n / 10).toNat 2)).size=2:=g9 _ _;refine C.kn<|C.s1<|Za rfl<|UJ rfl rfl rfl Yd Yd Yf rfl trivial<|Za rfl<|fW rfl rfl rfl Yf rfl trivial<|Zd rfl (fun D1 hD1=>aEY (n / 10) Yd Yd _)<|Za rfl<|zR rfl rfl rfl Yd Yd Yf rfl trivial<|Zd rfl (fun D2 hD2=>IT (n%10) Yd Yd _)<|kU rfl rfl rfl Yd rfl trivial<|Zi rfl ?_;refine L.n5 ?_;exact Zc [_] rfl ⟨rfl,aGL⟩ (fun D hD=>by show Value.string _=_;rw[IG hz0])
theorem aFR(n:Int)(hz0:0≤n)(hz1:n≤1000000)(D:aA):Fn Tryz.prog 34 #[.int .i64 n,.int .i64 4] D (fun _ v=>v=.string (f8 (o5 n.toNat 4))):=by
 refine enter 16 Tryz.func34 rfl rfl rfl rfl fun h0=>C.s1<|Zi rfl<|L.n4<|Za rfl<|dH rfl rfl rfl rfl trivial<|L.n1<|aF rfl (fun hc1=>?_) (fun hc1=>?_)
 ·exact absurd hc1 Yah
 ·have z1:=AU (n:=n%10) Yd Yd;have z2:(f8 (o5 (n / 10).toNat 3)).size=3:=g9 _ _;refine C.kn<|C.s1<|Za rfl<|UJ rfl rfl rfl Yd Yd Yf rfl trivial<|Za rfl<|fW rfl rfl rfl Yf rfl trivial<|Zd rfl (fun D1 hD1=>aFP (n / 10) Yd Yd _)<|Za rfl<|zR rfl rfl rfl Yd Yd Yf rfl trivial<|Zd rfl (fun D2 hD2=>IT (n%10) Yd Yd _)<|kU rfl rfl rfl Yd rfl trivial<|Zi rfl ?_;refine L.n5 ?_;exact Zc [_] rfl ⟨rfl,aGL⟩ (fun D hD=>by show Value.string _=_;rw[IG hz0])
theorem aFB(i:Nat)(s:ByteArray)(hi:i≤100000)(hs:s.size≤1000)(D:aA):Fn Tryz.prog 35 #[.int .i64 (i:Int),.string s] D (fun _ v=>v=.int .i64 ((lI i s.data.toList:Nat):Int)):=by
 refine enter 28 Tryz.func35 rfl rfl rfl rfl fun h0=>C.s1<|Zi rfl<|L.n3<|Za rfl<|Zy rfl<|S3 rfl rfl rfl Yf rfl trivial<|Zi rfl<|L.n4<|Zi rfl<|L.n1<|Zai ?_;refine cN (γ:=Nat) (fun k=>s.size-k) (fun k=>k≤s.size) (fun k=>[(6,.int .i64 (k:Int)),(5,.int .i64 ((37*(i+1)+tX 0 (s.data.toList.take k):Nat):Int))]) [(4,_),(1,_)] (fun k=>[D]) 0 Yd ⟨Yb,(by show some (Value.int _ _)=some (Value.int _ _);congr 2),aGL⟩ C.rs (aD) ?_
 rintro k hI;refine C.s2<|Za rfl<|Za rfl<|gH rfl U9 rfl rfl rfl trivial<|Zae rfl<|L.n1<|aF rfl (fun hc1=>?_) (fun hc1=>?_)
 ·have hk:k<s.size:=by omega
  obtain⟨b,hb⟩:∃b,s.data.toList[k]?= some b:=⟨_,aJT (by simpa using hk)⟩
  have hb0:=b.toNat_lt;refine C.kn<|aCX<|Zai<|C.rg<|Za rfl<|Za rfl<|S3 rfl rfl rfl Yf rfl trivial<|Zy rfl<|Za rfl<|Za rfl<|lF rfl U9 rfl rfl Yd (by rw[aLX];exact tP hb) rfl trivial<|Z3 rfl U5 U3 rfl Yf rfl aGL ?_;refine S3 rfl rfl rfl (by have:=FP hb hs;simp only[rP];omega) rfl trivial<|rI rfl rfl rfl (by have:=FP hb hs;have:=YF (s:=s) (k:=k) hs;simp only[rP];omega) rfl trivial<|Zi rfl<|Zz<|Zak<|Zag<|C.rg<|Za rfl<|Zy rfl<|Zi rfl<|Zz ?_
  exact aH 20 (k+1) Yd Yd ⟨(by rw[show((k:Int)+1)=((k+1:Nat):Int) by omega];rfl),(by show some (Value.int _ _)=some (Value.int _ _);congr 2;rw[MJ hb];push_cast;rw[Int.add_assoc]),aGL⟩ rfl rfl (aJU _) (aD)
 ·obtain rfl:k=s.size:=by omega
  have htk:s.data.toList.take s.size=s.data.toList:=aLA (show s.data.toList.length≤s.size by simp);have hsm:=YF (s:=s) (k:=s.size) hs;rw[htk]at hsm ⊢
  refine aR<|Zah<|Zah<|Zal<|Zag<|C.s1<|Za rfl<|zR rfl rfl rfl Yd Yd Yf rfl trivial<|Zi rfl<|L.n5 ?_;exact Zc [_] rfl ⟨rfl,aGL⟩ (fun D hD=>by show Value.int _ _=_;congr 1)
theorem MG(i:Nat)(s:ByteArray)(hi:i≤100000)(hs:s.size≤99)(D:aA):Fn Tryz.prog 17 #[.int .i64 (i:Int),.string s] D (fun _ v=>v=.string (f8 (oK i s.data.toList))):=by
 have hck:=HZ i s.data.toList;have z1:(f8 (o5 ((s.size:Nat):Int).toNat 2)).size=2:=g9 _ _;have z2:(f8 (o5 ((lI i s.data.toList:Nat):Int).toNat 4)).size=4:=g9 _ _;have z3:(⟨#[59]⟩:ByteArray).size=1:=rfl;have z4:(⟨#[10]⟩:ByteArray).size=1:=rfl;refine enter 18 Tryz.func17 rfl rfl rfl rfl fun h0=>C.s1<|Zi rfl<|L.n3<|Za rfl<|gH rfl U9 rfl rfl rfl trivial<|Zd rfl (fun D1 hD1=>aEY ((s.size:Nat):Int) Yd Yd _)<|kU rfl rfl rfl Yai rfl trivial<|Za rfl<|kU rfl rfl rfl Yai rfl trivial<|kU rfl rfl rfl Yai rfl trivial<|Za rfl ?_;refine Za rfl<|Zd rfl (fun D2 hD2=>aFB i s hi Yd _)<|Zd rfl (fun D3 hD3=>aFR ((lI i s.data.toList:Nat):Int) Yd Yd _)<|kU rfl rfl rfl Yai rfl trivial<|kU rfl rfl rfl Yai rfl trivial<|Zi rfl<|L.n5 ?_
 exact Zc [_] rfl ⟨rfl,aGL⟩ (fun D hD=>by show Value.string _=_;rw[aFI])
theorem aFD(lv:Value)(ls:List ByteArray)(D:aA)(hS:Sl D RS 1 lv ls)(hn:ls.length≤100)(hsz:∀x∈ls,x.size≤50):Fn Tryz.prog 18 #[lv] D (fun _ v=>v=.string (f8 (rH (eU ls)))):=by
 refine enter 20 Tryz.func18 rfl rfl rfl rfl fun h0=>C.s1<|Zi rfl<|L.n3<|Zi rfl<|L.n4<|Zi rfl<|L.n1<|Zai<|cN (γ:=Nat) (fun k=>ls.length-k) (fun k=>k≤ls.length) (fun k=>[(4,.int .i64 (k:Int)),(3,.string (f8 (rH ((eU ls).take k))))]) [(2,_),(0,_)] (fun k=>[D]) 0 Ye ⟨Yb,Yb,aGL⟩ C.rs (aD) ?_
 rintro k h1;refine C.s2<|Za rfl<|Za rfl<|aW rfl U22 rfl hS rfl rfl trivial<|Zae rfl<|L.n1<|aF rfl (fun hc1=>?_) (fun hc1=>?_)
 ·have hk:k<ls.length:=by omega
  obtain⟨x,hx⟩:∃x,ls[k]?= some x:=⟨_,aJT hk⟩
  have hx50:=hsz x (aJV hx);have hfz:=NV k hn hsz;have hrz:=BX k x;refine C.kn<|aCX<|Zai<|C.rg<|Za rfl<|Za rfl<|Za rfl<|Za rfl<|Zt rfl U22 Tf.s9 rfl hS rfl hx (fun b1 o1 cs1 hr1 hcl1 hA1=>?_);obtain rfl:cs1=[.string _]:=hr1;refine Zg 0 rfl Tf.a9 rfl hA1 rfl<|Zd rfl (fun D1 hD1=>MG k x Yd Yd _)<|kU rfl rfl rfl Yai rfl trivial<|Zi rfl<|Zz<|Zak<|Zag<|C.rg<|Za rfl<|Zy rfl<|Zi rfl<|Zz ?_;exact aH 18 (k+1) Yd Yd ⟨(by rw[show((k:Int)+1)=((k+1:Nat):Int) by omega];rfl),(by show some (Value.string _)=some (Value.string _);rw[aFA hx]),aGL⟩ rfl rfl (aJU _) (aD)
 ·obtain rfl:k=ls.length:=by omega
  refine aR<|Zah<|Zah<|Zal<|Zag<|C.s1<|Za rfl<|Zi rfl<|L.n5 ?_;exact Zc [_] rfl ⟨rfl,aGL⟩ (fun D hD=>by show Value.string _=_;rw[aLA (by rw[zP];exact aKR _)])
end L12
end Go.Fs
namespace Go.Fs
open Go.Lib
variable{P:Program}{X:Cx}{γb:Type}[Membership Nat γb]{bad:γb}{all:Array Oper}{K:Act→World→Prop}{Q:Exit→Act→World→Prop}
variable{σ:bT}{μ:aC}{Ds:List aA}{os:List (Bool×Nat)}{fl:Bool}{ix:Nat}
variable{d:Nat}{x y z:Operand}{u v:Value}{ty:TypeId}{pos:String}{aft:Array Edge}{g:Option (Nat×Bool)}
theorem fN.pushW{h0:H0}{lo:Nat}{D0 D:aA}{mods:List Nat}{μ:aC}{w w':World}(h:fN h0 lo D0 mods μ D w)(vs:List Value){e:TypeId}{fz:Nat×Nat}(hold:∀b,b<w.heap.size→w'.heap[b]?= w.heap[b]?)(hnew:w'.heap[w.heap.size]?= some (.cells vs.toArray e fz))(hsz:w'.heap.size=w.heap.size+1)(henv:s7 w'=s7 w):
  ∃D',Le D D'∧D' w.heap.size=vs∧(∀b,b≠w.heap.size→D' b=D b)∧fN h0 lo D0 mods μ D' w':=by
 have hf:=h.agr.fresh (aKR w.heap.size);refine⟨fun b=>if b=w.heap.size then vs else D b,⟨fun b=>?_,by simp only[show(0:Nat)≠w.heap.size by have:=h.agr.pos;omega,aMN]⟩,by simp,(fun b hb=>by simp[hb]),?_⟩
 ·by_cases hb:b=w.heap.size
  ·subst hb;rw[hf];exact aJI
  ·simp[hb]
 ·have hle:=aMU h.hlo h.size;refine⟨h.hlo,by have:=h.size;omega,fun b hb hm=>?_,fun b hb=>?_,h.agr.of (fun b hb=>?_) (by simp only[show(0:Nat)≠w.heap.size by have:=h.agr.pos;omega,aMN]) (hold 0 h.agr.pos),fun p hp=>?_,h.nd,h.fz,fun e he=>henv.trans (h.env e he)⟩
  ·rw[hold b (aMO hb hle)];exact h.old b hb hm
  ·have hne:b≠w.heap.size:=by omega
   simp only[hne,aMN];exact h.dold b hb
  ·by_cases he:b=w.heap.size
   ·subst he;exact⟨vs.toArray,e,fz,hnew,by simp⟩
   ·simp only[he,aMN]at hb ⊢
    obtain⟨cs,e',fz',hc,hp⟩:=h.agr.1 b hb;exact⟨cs,e',fz',by rw[hold b (bC hc)];exact hc,hp⟩
  ·obtain⟨h1,h2,h3⟩:=h.box p hp;have hl:=bC h1;refine⟨by rw[hold p.1 hl];exact h1,?_,h3⟩
   have hne:p.1≠w.heap.size:=by omega
   simp only[hne,aMN];exact h2
theorem aEV{r:Option Nat}{n:Nat}{K:Act→World→Prop}(is2:List Nat)(hK:∀a w,K a w→wpOpsIn (FW r) n P all Q is2 a w):∀(os:List (Bool×Oper)) (is:List Nat),is.map (fun i=>all[i]?)=os.map (fun o=>some o.2)→
  ∀a w,nB r bad P all K Q os a w→wpOpsIn (FW r) n P all Q (is++is2) a w:=by
 intro os;induction os with
 |nil=>intro is h a w H;cases is with|nil=>exact hK _ _ H|cons=>simp at h
 |cons o os ih=>
  intro is h a w H;cases is with
  |nil=>simp at h
  |cons i is=>
   obtain⟨fl,o⟩:=o;simp only[aLB,aLS]at h;rw[aML,wpOpsIn_cons];simp only[nB]at H;split at H
   ·rename_i hq;obtain⟨v,hy,H⟩:=H;exact hy.run hq h.1 (ih is h.2 _ _ H)
   ·unfold wpOpIn;simp only[h.1];unfold vA at H;split at H
    ·rename_i hw;rw[aKS hw];exact y4 (Oper.wpIn_mono (fun a w hh=>ih is h.2 _ _ hh.2) H)
    ·rename_i hw;rw[aKO hw];exact⟨fun _ _=>trivial,ih is h.2 _ _ H⟩
theorem CS:∀{is:List Nat},(∀i∈is,i<all.size)→is.map (fun i=>all[i]?)=(eX all (is.map fun i=>(false,i))).map fun o=>some o.2
 | [],_=>rfl
 |i::is,h=>by
  obtain⟨o,hi⟩:∃o,all[i]?= some o:=⟨_,aOB (h i aKI)⟩
  rw[aLB,aLB,qQ hi,aLB,hi,CS fun j hj=>h j (aKA _ hj)]
theorem aEZ(k:Nat){id:Nat}{ops:Array Oper}(hk:k<ops.size)(h:WL P X [] ops (fun a w=>wpOpsIn (FW X.r) 0 P ops Q (k::(List.range ops.size).drop (k+1)) a w) Q ((List.range k).map fun i=>(false,i)) σ μ Ds):WC P X Q (.region id ops false) σ μ Ds:=fun a w hh=>by
 have e:List.range ops.size=List.range k++k::(List.range ops.size).drop (k+1):=by
  have h1:=(aNU k (List.range ops.size)).symm;rw[List.take_range,aOI Yd,aLV (by rw[List.length_range];exact hk),List.getElem_range]at h1
  exact h1
 refine wpIn_region ?_;rw[e];exact aEV _ (fun _ _ h=>h) _ _ (CS fun i hi=>by have:=aNN.1 hi;omega) _ _ (h a w hh)
theorem aFQ{i:Nat}{rest:List Nat}{t1 t2 e:TypeId}{s:ByteArray}(ho:all[i]?= some ⟨some d,.convert t1 t2 x,ty,pos,aft,g⟩)(h1:P.underlying t1=some .string)(h2:P.underlying t2=some (.slice e))(he:P.underlying e=some (.int .u8))(hx:ev σ x=some (.string s))(hs:s.size≤1000000000)(hv:∀i∈rest,i<all.size)(hN:Nat.blt d X.N=true)(hg:cW all σ g)
  (kk:∀v D,(∀D₁∈Ds,Le D₁ D)→Sl D RU 1 v s.data.toList→WL P X [] all (fun a w=>Q .normal a w) Q (rest.map fun i=>(false,i)) ((d,v)::σ) μ (D::Ds)):∀a w,Hl X σ μ Ds a w→wpOpsIn (FW X.r) 0 P all Q (i::rest) a w:=by
 intro a w hh;obtain⟨k1,k2,k3,D,h4,h5,h6⟩:=id hh;have hrun:(execOp a.eval ⟨some d,.convert t1 t2 x,ty,pos,aft,g⟩).run P w=.ok (.value (.slice (some ⟨w.heap.size,0,none⟩) s.size (grownCap w s.size 0 e))) (bytesWorld w e s):=by
  simp only[execOp,hh.eval hx];rw[Sem.run_bind,Go.Lib.run_convert_string_bytes w t1 t2 e s h1 h2 he];rfl
 rw[wpOpsIn_cons];unfold wpOpIn;simp only[ho];rw[aKS (hh.wanted hg)];refine⟨fun _ _=>trivial,?_⟩;rw[wJ rfl,hrun];obtain⟨D',hle,hD',hDo,hs'⟩:=h4.pushW (bytesCells w e s).toList (fun b hb=>bytesWorld_at_old w e s b hb) (by rw[Array.toArray_toList];exact bytesWorld_at_new w e s) (bytesWorld_size w e s) rfl
 have hA:At D' w.heap.size 0 (bc s.data.toList):=fun j v hj=>by
  rw[hD',aNB];unfold bytesCells;rw[Array.toList_append,aMV]
  ·rw[aJF];exact hj
  ·have:=(aKH.1 hj).1;rw[iY]at this;rw[aJF,aMI];exact this
 have hS:Sl D' RU 1 (.slice (some ⟨w.heap.size,0,none⟩) s.size (grownCap w s.size 0 e)) s.data.toList:=
  Sl.of_at hA rfl (grownCap_ge w s.size 0 e) Yd fun i b hb=>⟨[.int .u8 b.toNat],rfl,rfl,by
   have h:=aBV hb;have hl:=(aKH.1 h).1;rw[aND,aLV hl];rw[aJT hl]at h;rw[List.take_succ_cons,List.take_zero,aKZ h]⟩
 refine H4 (fun _ _ h=>h) _ _ (CS hv) _ _ (kk _ D' (fun D₁ hD₁=>(h5 D₁ hD₁).trans hle) hS _ _ (Hl.put ⟨k1,k2,k3,D',hs',fun D₁ hD₁=>?_,h6.step (fun _ p hp=>aKP (aJY.2 ⟨p,hp,rfl⟩)) (fun _=>⟨by rw[bytesWorld_size];omega,fun b hb _=>⟨bytesWorld_at_old w e s b hb,hDo b Yd⟩,rfl⟩) hs'.dom⟩ hN _));rcases aJX.1 hD₁ with rfl|hD₁
 ·exact Le.refl _
 ·exact(h5 D₁ hD₁).trans hle
end Go.Fs
namespace Go.Fs
open Go.Proofs
namespace L12
open C12 Go.Lib
def MC(ls:List ByteArray)(k:Nat):Nat→List UInt8
 |0=>[]
 |i+1=>if i=k then MC ls k i else MC ls k i++oK i ((eU ls).getD i [])
theorem LX{ls:List ByteArray}{i:Nat}{x:ByteArray}(h:ls[i]?= some x):(eU ls).getD i []=x.data.toList:=by rw[aMD,EL h];rfl
theorem aFJ{ls:List ByteArray}{k i:Nat}(h:i=k):f8 (MC ls k i)=f8 (MC ls k (i+1)):=by rw[MC,aKS h]
theorem aFX{ls:List ByteArray}{k i:Nat}{x:ByteArray}(hx:ls[i]?= some x)(h:i≠k):f8 (MC ls k i)++f8 (oK i x.data.toList)=f8 (MC ls k (i+1)):=by
 rw[MC,aKO h,LX hx];apply Go.WideShapes.bytes_inj;simp[f8]
theorem aFG(l:List UInt8):(f8 l).data.toList=l:=by simp[f8]
theorem aFH{ls:List ByteArray}(hf:dW ls=0)(i:Nat):((eU ls).getD i []).length≤50:=by
 rw[aMD];cases h:(eU ls)[i]? with
 |none=>exact aGD _
 |some l=>exact l0 hf l (aJV h)
theorem aEU{ls:List ByteArray}(hf:dW ls=0)(k:Nat):∀i,(MC ls k i).length≤59*i
 |0=>aKR _
 |i+1=>by
  have h1:=aEU hf k i;have h2:=aFH hf i;rw[MC];split
  ·omega
  ·rw[aJZ,lT];omega
theorem aFO{ls:List ByteArray}(hf:dW ls=0)(k i:Nat):(MC ls k i).length≤59*i:=aEU hf k i
theorem aBA{ls:List ByteArray}(hf:dW ls=0)(k i:Nat):(f8 (MC ls k i)).size≤59*i:=by rw[wL];exact aEU hf k i
theorem aFC{ls:List ByteArray}{k:Nat}:∀{i:Nat},i≤k→i≤ls.length→MC ls k i=rH ((eU ls).take i)
 |0,_,_=>rfl
 |i+1,h,hl=>by
  obtain⟨x,hx⟩:∃x,ls[i]?= some x:=⟨_,aJT Yd⟩
  rw[MC,aKO Yd,aFC (i:=i) Yd Yd,LX hx,CU (EL hx)]
theorem aFE{ls:List ByteArray}{k:Nat}(hk:k<ls.length):∀{j:Nat},k+1+j≤ls.length→MC ls k (k+1+j)=rH ((eU ls).take k)++gP (k+1) (((eU ls).drop (k+1)).take j)
 |0,_=>by rw[aGK,MC,aKS rfl,aFC (aKR _) Yd,List.take_zero];simp[gP]
 |j+1,hl=>by
  obtain⟨x,hx⟩:∃x,ls[k+1+j]?= some x:=⟨_,aJT Yd⟩
  have hb:((eU ls).drop (k+1))[j]?= some x.data.toList:=by rw[aMW];exact EL hx
  have hjl:j<((eU ls).drop (k+1)).length:=(aKH.1 hb).1;rw[show k+1+(j+1)=(k+1+j)+1 by omega,MC,aKO Yd,aFE hk (j:=j) Yd,LX hx,aKL,hb,aLZ,rL,aMJ,aOI Yd,aKK];simp[gP]
theorem RG{ls:List ByteArray}{k:Nat}(hf:dW ls=0)(hk:k+1<ls.length):(tY 40 0 0 (MC ls k ls.length)).map (·.1)=ls.take k∧PU (tY 40 0 0 (MC ls k ls.length))=(rH ((eU ls).take k)).length:=by
 have h40:=tH hf;obtain⟨x,hx⟩:∃x,ls[k+1]?= some x:=⟨_,aJT hk⟩
 have hd:(eU ls).drop (k+1)=x.data.toList::(eU ls).drop (k+2):=by
  have h9:k+1<(eU ls).length:=by rw[zP];exact hk
  rw[aLV h9];congr 1;exact aKZ ((aJT h9).symm.trans (EL hx))
 have hp:MC ls k ls.length=rH ((eU ls).take k)++gP (k+1) (x.data.toList::(eU ls).drop (k+2)):=by
  have:=aFE (ls:=ls) (k:=k) Yd (j:=ls.length-(k+1)) Yd;rw[show k+1+(ls.length-(k+1))=ls.length by omega,aLA (l:=(eU ls).drop (k+1)) (by rw[aMR,zP];exact aKR _),hd]at this
  exact this
 have hl:((eU ls).take k).length=k:=by rw[aMJ,zP];omega
 have hr:=aEW (a:=(eU ls).take k) (b:=(eU ls).drop (k+2)) (x:=x.data.toList) (f:=40) Yd Yd (fun l h=>l0 hf l (aJP h)) (F0 hf x (aJV hx));rw[hl,←hp]at hr;have h1:=S9 40 0 0 (MC ls k ls.length);rw[aOA,hr]at h1;have h2:=y0 40 0 0 (MC ls k ls.length);rw[h1,aNB]at h2;exact⟨S0 (by rw[←EG,←FG];exact h1),h2.trans (SV _ 0).symm⟩
theorem TB(lv:Value)(ls:List ByteArray)(c:Int)(hc:0≤c∧c≤255)(D:aA)(hS:Sl D RS 1 lv ls)(hV:kG D):Fn Tryz.prog 5 #[lv,.int .u8 c] D (fun _ v=>v=.bool true):=by
 obtain⟨la,lcap,rfl⟩:=hS.shape;have hsl:=hS.len;refine enter 70 Tryz.func5 rfl rfl rfl rfl fun h0=>C.s1<|Zi rfl<|L.n4<|Za rfl<|Zd rfl (fun D1 hD1=>JR _ ls _ (hS.up RS.up (hD1 _ Ye)))<|Zaf rfl<|Za rfl ?_
 refine' iE [(false,4),(false,5),(false,6),(false,7)] [(false,8),(false,9),(false,10),(false,11),(false,12)] (s:=13) (p:=17) rfl rfl (fun hg1=>?_) (fun hg1=>?_) ?_;rotate_left
 ·refine Zb rfl<|Ze rfl (fun D2 hD2=>EJ _ ls _ (hS.up RS.up (hD2 _ Ye)))<|eQ rfl rfl rfl rfl ⟨_,rfl,rfl⟩<|Zad rfl ?_;exact L.cu 3
 ·refine Zl rfl<|Zl rfl<|Zl rfl<|Zac rfl ?_;exact L.cu 3
 refine Za rfl ?_;refine' iE [(false,9),(false,10),(false,11),(false,12)] [] (s:=18) (p:=22) rfl rfl (fun hg2=>?_) (fun hg2=>?_) ?_;rotate_left
 ·refine Zb rfl<|aW rfl U22 rfl hS rfl rfl ⟨_,rfl,rfl⟩<|UL rfl rfl rfl rfl ⟨_,rfl,rfl⟩<|Zad rfl ?_;exact L.cu 3
 ·refine Zl rfl<|Zl rfl<|Zl rfl<|Zac rfl ?_;exact L.cu 3
 refine L.n1<|aJ rfl (fun hc1=>?_) (fun hc1=>?_)
 ·refine C.s1<|Zd rfl (fun D3 hD3=>PY _ (hV.up (hD3 _ Ye)))<|Zi rfl<|L.n5<|Zaj ?_;exact Zc [_] rfl ⟨rfl,aGL⟩ (fun D hD=>rfl)
 ·obtain⟨hf0,h2l⟩:dW ls=0∧2≤ls.length:=by have h9:=hc1;simp only[aMM,aLW]at h9;omega
  have h40:=tH hf0;refine C.kn<|C.s1<|Za rfl<|Z3 rfl U5 U3 rfl Yf rfl trivial<|Za rfl<|aW rfl U22 rfl hS rfl rfl trivial<|fW rfl rfl rfl Yf rfl aGL ?_;obtain⟨k,hk0⟩:=Int.eq_ofNat_of_zero_le (Int.emod_nonneg c (show((ls.length:Int)-1)≠0 by omega));have hkl:k+1<ls.length:=by have:=Int.emod_lt_of_pos c (show(0:Int)<(ls.length:Int)-1 by omega);omega
  refine zR rfl rfl rfl Yd Yd (by rw[hk0];simp only[rP];omega) rfl aGL ?_;rw[hk0];have hkt:(ls.take k).length=k:=by rw[aMJ];omega
  refine Zi rfl<|L.n3<|Zi rfl<|L.n4<|Zi rfl<|L.n1<|Zai<|cN (γ:=Nat) (fun i=>ls.length-i) (fun i=>i≤ls.length) (fun i=>[(7,.int .i64 (i:Int)),(6,.string (f8 (MC ls k i)))]) [(5,_),(4,_),(0,_)] (fun i=>[D]) 0 Ye ⟨Yb,Yb,aGL⟩ C.rs (aD) ?_;rintro i h1;refine C.s2<|Za rfl<|Za rfl<|aW rfl U22 rfl hS rfl rfl trivial<|Zae rfl<|L.n1<|aF rfl (fun hc2=>?_) (fun hc2=>?_)
  ·have hi:i<ls.length:=by omega
   obtain⟨x,hx⟩:∃x,ls[i]?= some x:=⟨_,aJT hi⟩
   have hx50:x.size≤50:=F0 hf0 x (aJV hx);refine C.kn<|aCX<|Zai<|C.s1<|Za rfl<|Za rfl<|eQ rfl rfl rfl rfl trivial<|L.n1<|aF rfl (fun hc3=>?_) (fun hc3=>?_)
   ·have hne:i≠k:=by omega
    refine C.rg<|Za rfl<|Za rfl<|Za rfl<|Za rfl<|Zt rfl U22 Tf.s9 rfl hS rfl hx (fun b1 o1 cs1 hr1 hcl1 hA1=>?_);obtain rfl:cs1=[.string _]:=hr1;refine Zg 0 rfl Tf.a9 rfl hA1 rfl<|Zd rfl (fun D4 hD4=>MG i x Yd Yd _)<|kU rfl rfl rfl (by have h8:=aBA hf0 k i;have h9:=BX i x;omega) rfl trivial<|Zi rfl<|Zz<|Zak<|Zag<|C.rg<|Za rfl<|Zy rfl<|Zi rfl<|Zz ?_
    exact aH 21 (i+1) Yd Yd ⟨(by rw[show((i:Int)+1)=((i+1:Nat):Int) by omega];rfl),(by show some (Value.string _)=some (Value.string _);rw[aFX hx hne]),aGL⟩ rfl rfl (aJU _) (aD)
   ·have hne:i=k:=by omega
    refine aAX<|Zak<|Zag<|C.rg<|Za rfl<|Zy rfl<|Zi rfl<|Zz ?_;exact aH 12 (i+1) Yd Yd ⟨(by rw[show((i:Int)+1)=((i+1:Nat):Int) by omega];rfl),(by show some (Value.string _)=some (Value.string _);rw[aFJ hne]),aGL⟩ rfl rfl (aJU _) (aD)
  ·obtain rfl:i=ls.length:=by omega
   refine aR<|Zah<|Zah<|Zal<|Zag<|aCX<|aEZ 1 Yah<|Za rfl<|Zz (aFQ rfl U9 U53 U5 rfl (by have:=aBA hf0 k ls.length;omega) Yah rfl aGL (fun bv9 D99 hD99 hB9=>?_));rw[aFG]at hB9;refine bU rfl rfl rfl (fun D5 hD5=>o4 _ (MC ls k ls.length) _ (hB9.up RU.up (hD5 _ Ye)) (by have:=aFO hf0 k ls.length;omega)) rfl aGL (fun v5 D5 hD5 hp5=>?_)
   obtain⟨lv1,rfl,hl1⟩:=hp5;rw[(RG hf0 hkl).1]at hl1;rw[(RG hf0 hkl).2];refine Za rfl<|Zaa rfl<|Zaa rfl<|Zi rfl<|Zi rfl<|L.n3<|Za rfl<|Za rfl<|Za rfl<|y1 (j:=k) rfl U22 Tf.s9 rfl hS rfl Yd rfl aGL (fun ta1 hTA1=>Zd rfl (fun D6 hD6=>n7 _ _ (ls.take k) (ls.take k) _ (hl1.up RS.up (hD6 _ Ye)) (hTA1.up RS.up (hD6 _ Ye)))<|Za rfl ?_);refine' cQ [(false,6),(false,7),(false,8),(false,9),(false,10),(false,11),(false,12),(false,13)] [(false,14),(false,15),(false,16),(false,17)] (s:=58) (p:=66) rfl rfl (fun hg3=>?_) (fun hg3=>?_) ?_;rotate_left
   ·refine Zb rfl<|Zb rfl<|Zb rfl<|y1 (j:=k) rfl U22 Tf.s9 rfl hS rfl Yd rfl ⟨_,rfl,rfl⟩ (fun ta2 hTA2=>Ze rfl (fun D7 hD7=>aFD _ (ls.take k) _ (hTA2.up RS.up (hD7 _ Ye)) Yd (fun x hx=>F0 hf0 x (aJP hx)))<|gH rfl U9 rfl rfl rfl ⟨_,rfl,rfl⟩<|dH rfl rfl rfl rfl ⟨_,rfl,rfl⟩<|Zac rfl ?_);exact L.cu 7
   ·refine Zl rfl<|Zl rfl<|Zl rfl<|Zl rfl<|Zl rfl<|Zl rfl<|Zl rfl<|Zad rfl ?_;exact L.cu 7
   refine Za rfl ?_;refine' cQ [(false,15),(false,16)] [(false,17)] (s:=67) (p:=69) rfl rfl (fun hg4=>?_) (fun hg4=>?_) ?_;rotate_left
   ·refine Ze rfl (fun D8 hD8=>PY _ (hV.up (hD8 _ Ye)))<|Zac rfl ?_;exact L.cu 1
   ·refine Zl rfl<|Zad rfl ?_;exact L.cu 1
   refine Zi rfl<|L.n5 ?_;exact Zc [_] rfl ⟨rfl,aGL⟩ (fun D hD=>by show Value.bool _=_;rw[wL,FG,decide_eq_true rfl];simp)
end L12
end Go.Fs
