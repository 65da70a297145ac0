/- Of BookAsks. -/
import Derived.Test.YtmmdpkkcedmgoaaGreatDoorZBookAsksAE
import Derived.Lib.Split
import Derived.Lib.AtoiTie
import Derived.Lib.AtoiAllCases
import Derived.Lib.ItoaNum
import Derived.WideShapes
import Derived.DefersIn
import Derived.RecoverIn
import Derived.Laws.Concat
import Derived.Laws.Strings
import Derived.Below
import Derived.Shelf.Strings.Builder1
import Derived.Shelf.LaysM
import Derived.Shelf.Strconv.Itoa3
import Derived.Shelf.LaysC
import Derived.Shelf.Strconv.AtoiAll
import Derived.Shelf.Strings.Split
namespace Go.Fs
open Go.Proofs Tryz
namespace L12
open C12
def eT(xs:List Λ):Int:=if(decide ((40:Int)<(xs.length:Int))|| !xs.all fun l=>decide ((l.size:Int)≤50))=true then 3 else 0
theorem bBZ(m:Int)(l:Λ)(D:aC):Fn prog 136 #[qI m,.string l] D (fun _ v=>v=.bool (decide ((l.size:Int)≤m))):=by
 refine Zw 9 func136 rfl fun h0=>aA<|Zf rfl<|aJ<|Za rfl<|jU rfl U9 rfl rfl rfl bRD<|Za rfl<|gX rfl rfl rfl rfl bRD<|We ?_;exact aE rfl fun D hD=>rfl
theorem IL(sv fv:Γ)(xs:List Λ)(p:Λ→Bool)(D:aC)(hS:Sl D RS 1 sv xs)(hp:dB prog D Value.string fv p):
  Fn prog 259 #[sv,fv] D (fun _ v=>v=qI (idxOf p xs)):=by
 have hl:=hS.len;obtain⟨f,c1,c2,rfl,hf⟩:=hp;refine Zw 19 func259 rfl fun h0=>aA<|Zf rfl<|bG<|Za rfl<|eN rfl U22 rfl Yl rfl rfl bRD<|Wd ?_;rintro k ⟨h1,h2⟩;refine aA<|Zam rfl<|bW<|Zaf rfl (fun hc1=>?_) fun hc1=>?_
 ·have hk:k<xs.length:=by omega
  obtain⟨x,hx⟩:=cR xs k;refine aQ<|Za2<|Za0<|aA<|Za rfl<|Zf rfl<|aJ<|Za rfl<|Za rfl<|Za rfl<|eA rfl U22 kZ rfl Yl rfl Yd Yl rfl bRD fun Y Z I O V R=>?_;obtain rfl:I=[.string _]:=O;refine Zh 0 rfl wQ rfl R rfl<|Zd rfl (fun D1 U=>hf x _ (U _ Yf))<|aF<|Zag rfl (fun hc2=>?_) fun hc2=>?_
  ·refine Wbc ?_;exact aE rfl fun D hD=>Xbl
  ·refine Wca ?_;have hpx:p x=false:=hc2;have h3:(xs.take (k+1)).any p=false:=by rw[bLW,hx,bPJ,h2];simp[hpx]
   exact aL 12 (k+1) ⟨Yd,h3⟩ Yd ⟨Ya,bRD⟩ rfl rfl Mm5 (aK)
 ·refine Wk ?_;exact aE rfl fun D hD=>Xbm
theorem s7(sv fv:Γ)(xs:List Λ)(p:Λ→Bool)(D:aC)(hS:Sl D RS 1 sv xs)(hp:dB prog D Value.string fv p):
  Fn prog 199 #[sv,fv] D (fun _ v=>v=.bool (xs.any p)):=by
 refine Zw 9 func199 rfl fun h0=>aA<|Zf rfl<|aJ<|Za rfl<|Za rfl<|Zd rfl (fun O I=>IL _ _ xs p _ (Sl.at RS.up I Yl Yf) (hp.up (I _ Yf)))<|Ww ?_;exact aE rfl fun D hD=>Xbn
theorem aPD(b:Nat)(fv:Γ)(p:Λ→Bool)(x:Λ)(D:aC)(hp:dB prog D Value.string fv p)(hB:At D b 0 [fv]):
  Fn prog 200 #[.string x,qP b] D (fun _ v=>v=.bool (!p x)):=by
 obtain⟨f,c1,c2,rfl,hf⟩:=hp;refine Zw 8 func200 rfl fun h0=>aA<|Zf rfl<|aJ<|Zh 0 rfl bAS rfl hB rfl<|Za rfl<|Zd rfl (fun O I=>hf x _ (I _ Yf))<|Zas rfl<|We ?_;exact aE rfl fun D hD=>rfl
theorem aYM(sv fv:Γ)(xs:List Λ)(p:Λ→Bool)(D:aC)(hS:Sl D RS 1 sv xs)(hp:dB prog D Value.string fv p)(h1:fv.cells=#[fv]):
  Fn prog 137 #[sv,fv] D (fun _ v=>v=.bool (xs.all p)):=by
 refine Zw 9 func137 rfl fun h0=>aA<|sW (vs:=[fv]) rfl rfl h1 rfl bRD fun b O I hB=>Zf rfl<|aJ<|Za rfl<|Zax rfl<|Zd rfl (fun O I=>s7 _ _ xs (fun x=> !p x) _ (Sl.at RS.up I Yl Yf) ⟨_,[],[qP b],rfl,fun x R hl=>aPD b fv p x R (hp.up ((I _ Yf).trans hl)) (hB.up ((I _ Yf).trans hl))⟩)<|Zas rfl<|We ?_;exact aE rfl fun D hD=>Xbq
theorem yU(sv:Γ)(xs:List Λ)(D:aC)(hS:Sl D RS 1 sv xs):Fn prog 67 #[sv] D (fun _ v=>v=qI (eT xs)):=by
 have hl:=hS.len;refine Zw 14 func67 rfl fun h0=>aA<|Zf rfl<|aJ<|Zax rfl<|Zf rfl<|bG<|Za rfl<|eN rfl U22 rfl Yl rfl rfl bRD<|Wap ?_;refine' dQ 5 (s:=8) (p:=13) rfl (fun I=>?_) (fun I=>?_) ?_;rotate_left
 ·refine Zb rfl<|Zb rfl<|Ze rfl (fun U O=>aYM _ _ xs (fun l=>decide ((l.size:Int)≤50)) _ (Sl.at RS.up O Yl Yf) ⟨_,[_],[],rfl,fun l R _=>bBZ 50 l R⟩ rfl)<|Waf ?_;exact aN 4
 ·refine Wf ?_;exact aN 4
 refine aF<|Zag rfl (fun hc1=>?_) fun hc1=>?_
 ·refine aA<|Wi ?_;exact aE rfl fun D hD=>by show Value.int _ _=_;rw[eT,bMG hc1]
 ·refine aQ<|aA<|We ?_;exact aE rfl fun D hD=>by show Value.int _ _=_;rw[eT,bLX (by rw[hc1];simp)]
end L12
variable{P:Program}{X:Cx}{γb:Type}[Membership Nat γb]{bad:γb}{all:Array Oper}{K:Act→Δ→Prop}{Q:Exit→Act→Δ→Prop}
variable{σ:bX}{μ:aD}{Ds:List aC}{os:List (Bool×Nat)}{fl:Bool}{ix:Nat}
variable{d:Nat}{x y z:Operand}{u v:Γ}{ty:Θ}{pos:String}{aft:Array Edge}{g:Option (Nat×Bool)}
theorem vJ{A B:aD}{t e tr:Θ}{b o i m cap c2 sz:Nat}{vs xs:List Γ}{ats:Array Θ}
  (ho:all[ix]?= some ⟨some d,.call {callee:=.builtin .append,args:=#[x,y],argTypes:=ats},tr,pos,aft,g⟩) (ht:P.underlying t=some (.slice e)) (hat:ats[0]?= some t) (I:ats[1]?= some t) (hs:TS P e sz)
  (hx:ev σ x=some (qS b i cap)) (hy:ev σ y=some (.slice (some ⟨b,o,none⟩) m c2)) (hxs:(vs.drop o).take (m*sz)=xs) (hxl:xs.length=m*sz) (hfit:i+m≤cap) (hin:i*sz+m*sz≤vs.length) (hx1:∀u∈xs,cell1 u=true)
  (hfl:fl=false∨b∈bad) (hN:Nat.blt d X.N=true) (hg:cZ all σ g)
  (kk:WL P X bad all K Q os ((d,qS b (i+m) cap)::σ) (A++(b,.cells (vs.take (i*sz)++xs++vs.drop (i*sz+m*sz)).toArray e (0,0))::B) Ds):
  WL P X bad all K Q ((fl,ix)::os) σ (A++(b,.cells vs.toArray e (0,0))::B) Ds:=by
 refine fJ ho rfl rfl hg fun a w hh=>?_
 obtain⟨h1,h2,h3,D,h4,h5,O⟩:=id hh;have hbx:=(h4.box (b,.cells vs.toArray e (0,0)) Yf).1;have hex:(execOp a.eval ⟨some d,.call {callee:=.builtin .append,args:=#[x,y],argTypes:=ats},tr,pos,aft,g⟩).run P w=
   ((Builtin.append_ ats tr #[qS b i cap,.slice (some ⟨b,o,none⟩) m c2]).run P w).andThen fun r w'=>.ok (.value r) w':=by
  simp only[execOp,resolve,pure_bind,invoke,builtin];have R:(#[x,y].map a.eval)=#[qS b i cap,.slice (some ⟨b,o,none⟩) m c2]:=by simp[hh.eval hx,hh.eval hy]
  rw[R,Ω];simp only[ε]
 rw[hex];have hm:(Builtin.lenOf (.slice (some ⟨b,o,none⟩) m c2)).run P w=.ok m w:=rfl;have hfc:(Builtin.firstCells sz m (.slice (some ⟨b,o,none⟩) m c2)).run P w=.ok xs.toArray w:=by
  simp only[Builtin.firstCells];refine oJ hxl fun j u hj=>sK (cs:=vs.toArray) hbx ?_
  have hjl:=(bLS.1 hj).1;rw[←hxs,bOU Yd,bOJ]at hj;simpa using hj
 obtain⟨w',hr,hw'⟩:=kV (P:=P) xs 0 w b (i*sz) vs e hbx Yd hx1;rw[G4 (tr:=tr) (w':=w') ht hat I hs hm hfc hfit (by
  show(storeCells ((⟨b,0,none⟩:Addr).add (i*sz)) xs).run P w=_;rw[gY,bOM];exact hr)]
 rw[bRC,hxl]at hw';have hHas:bR (A++(b,.cells vs.toArray e (0,0))::B) b (.cells vs.toArray e (0,0)) (.cells (vs.take (i*sz)++xs++vs.drop (i*sz+m*sz)).toArray e (0,0)) (A++(b,.cells (vs.take (i*sz)++xs++vs.drop (i*sz+m*sz)).toArray e (0,0))::B):=.app .head;have hst:=h4.set hHas hw' rfl;refine⟨fun hf=>⟨Xax,fun c hc hcb=>?_⟩,kk _ _ (Hl.put ⟨h1,h2,h3,D,hst,h5,O.step (fun _ p hp=>bMF Yt) (fun _=>lJ hw' (GE.2 ⟨_,hHas.mem,rfl⟩)) hst.dom⟩ hN _)⟩
 have hb:b∈bad:=by
  rcases hfl with h|h
  ·rw[hf]at h;cases h
  ·exact h
 rw[hw'.1,bOR (by rintro rfl;exact hcb hb)]
theorem m8{A B:aD}{t e tr:Θ}{b o n c:Nat}{z0:Γ}{vs zs:List Γ}{dd:Option Nat}{ats:Array Θ}
  (ho:all[ix]?= some ⟨dd,.call {callee:=.builtin .clear,args:=#[x],argTypes:=ats},tr,pos,aft,g⟩) (hdd:dd=none) (ht:P.underlying t=some (.slice e)) (hat:ats[0]?= some t) (hz:TZ P e z0) (hx:ev σ x=some (.slice (some ⟨b,o,none⟩) n c)) (hn:n≠0)
  (hzs:Builtin.zeroCells z0.cells n=zs.toArray) (hin:o+zs.length≤vs.length) (I:∀u∈zs,cell1 u=true) (hg:cZ all σ g)
  (kk:WL P X bad all K Q os σ (A++(b,.cells (vs.take o++zs++vs.drop (o+zs.length)).toArray e (0,0))::B) Ds):
  WL P X bad all K Q ((false,ix)::os) σ (A++(b,.cells vs.toArray e (0,0))::B) Ds:=by
 subst hdd;refine fJ ho rfl rfl hg fun a w hh=>?_
 obtain⟨h1,h2,h3,D,h4,h5,R⟩:=id hh;have hbx:=(h4.box (b,.cells vs.toArray e (0,0)) Yf).1;obtain⟨w',hr,hw'⟩:=kV (P:=P) zs 0 w b o vs e hbx Yd I;rw[bRC]at hw';have hcl:(Builtin.clear_ ats tr #[.slice (some ⟨b,o,none⟩) n c]).run P w=.ok (.tuple #[]) w':=by
  have O:(#[Value.slice (some ⟨b,o,none⟩) n c]:Array Γ)[0]?= some (.slice (some ⟨b,o,none⟩) n c):=rfl;unfold Builtin.clear_;obtain⟨k,rfl⟩:∃k,n=k+1:=⟨n-1,Yd⟩
  simp only[hat,O,Ω,TU.of ht w,Ξ,hz w,hzs,ε];rw[hr];rfl
 have hex:∃r,(execOp a.eval ⟨none,.call {callee:=.builtin .clear,args:=#[x],argTypes:=ats},tr,pos,aft,g⟩).run P w=.ok (.value r) w':=by
  refine⟨.tuple #[],?_⟩;simp only[execOp,resolve,pure_bind,invoke,builtin];have O:(#[x].map a.eval)=#[.slice (some ⟨b,o,none⟩) n c]:=by simp[hh.eval hx]
  rw[O,Ω,hcl];rfl
 obtain⟨r,hex⟩:=hex;rw[hex];have hHas:bR (A++(b,.cells vs.toArray e (0,0))::B) b (.cells vs.toArray e (0,0)) (.cells (vs.take o++zs++vs.drop (o+zs.length)).toArray e (0,0)) (A++(b,.cells (vs.take o++zs++vs.drop (o+zs.length)).toArray e (0,0))::B):=.app .head;have hst:=h4.set hHas hw' rfl;exact⟨fun h=>Xad,kk _ _ ⟨h1,h2,h3,D,hst,h5,R.step (fun _ p hp=>bMF Yt) (fun _=>lJ hw' (GE.2 ⟨_,hHas.mem,rfl⟩)) hst.dom⟩⟩
variable{z2:Operand}
theorem AY{t e:Θ}{b i n cap sz:Nat}{k:IntKind}(ho:all[ix]?= some ⟨some d,.slice t x none (some z) none,ty,pos,aft,g⟩)(ht:P.underlying t=some (.slice e))(hs:TS P e sz)(hx:ev σ x=some (qS b n cap))(hz:ev σ z=some (.int k (i:Int)))(hi:i≤cap)
  (hN:Nat.blt d X.N=true) (hg:cZ all σ g) (kk:WL P X bad all K Q os ((d,qS b i cap)::σ) μ Ds):WL P X bad all K Q ((fl,ix)::os) σ μ Ds:=by
 have ha:(if cap=0 then some (⟨b,0,none⟩:Addr)else(some (⟨b,0,none⟩:Addr)).map (·.add (0*sz)))=some ⟨b,0,none⟩:=by
  split
  ·rfl
  ·simp[Addr.add]
 refine cA ho rfl rfl hN hg (fun ρ hρ w'=>?_) kk;simp only[execOp,bOG,bNL,hρ x _ hx,hρ z _ hz];unfold Instr.sliceAt Instr.slice Instr.sliceBounds Instr.sliceBound asIntOf;have hle:(0:Int)≤(i:Int)∧(i:Int)≤(cap:Nat):=by omega
 simp only[Ω,TU.of ht w',Ξ,ε,pure_bind,hs w',hle,bQT,bOC,bNI,bPU,ha]
theorem BU{t e:Θ}{b j n cap sz:Nat}{k:IntKind}(ho:all[ix]?= some ⟨some d,.slice t x (some y) none none,ty,pos,aft,g⟩)(ht:P.underlying t=some (.slice e))(hs:TS P e sz)(hx:ev σ x=some (qS b n cap))(hy:ev σ y=some (.int k (j:Int)))(hj:j≤n)
  (hN:Nat.blt d X.N=true) (hg:cZ all σ g) (kk:∀o,(j<cap→o=j*sz)→WL P X bad all K Q os ((d,.slice (some ⟨b,o,none⟩) (n-j) (cap-j))::σ) μ Ds):WL P X bad all K Q ((fl,ix)::os) σ μ Ds:=by
 have ha:(if cap=j then some (⟨b,0,none⟩:Addr)else(some (⟨b,0,none⟩:Addr)).map (·.add (j*sz)))=some ⟨b,if cap=j then 0 else j*sz,none⟩:=by
  split
  ·rfl
  ·simp[gY]
 refine cA ho rfl rfl hN hg (fun ρ hρ w'=>?_) (kk (if cap=j then 0 else j*sz) fun h=>by rw[bLX Yd]);simp only[execOp,bOG,bNL,hρ x _ hx,hρ y _ hy];unfold Instr.sliceAt Instr.slice Instr.sliceBounds Instr.sliceBound asIntOf;have hle:(0:Int)≤(j:Int)∧(j:Int)≤(n:Nat):=by omega
 simp only[Ω,TU.of ht w',Ξ,ε,pure_bind,hs w',hle,bQT,bOC,bNI,ha]
theorem aFO{t e:Θ}{b l h n cap sz:Nat}{k k':IntKind}(ho:all[ix]?= some ⟨some d,.slice t x (some y) (some z) none,ty,pos,aft,g⟩)(ht:P.underlying t=some (.slice e))(hs:TS P e sz)(hx:ev σ x=some (qS b n cap))(hy:ev σ y=some (.int k (l:Int)))(hz:ev σ z=some (.int k' (h:Int)))(h1:l≤h)(h2:h≤cap)(h3:l<cap)
  (hN:Nat.blt d X.N=true) (hg:cZ all σ g) (kk:WL P X bad all K Q os ((d,.slice (some ⟨b,l*sz,none⟩) (h-l) (cap-l))::σ) μ Ds):WL P X bad all K Q ((fl,ix)::os) σ μ Ds:=by
 have ha:(if cap=l then some (⟨b,0,none⟩:Addr)else(some (⟨b,0,none⟩:Addr)).map (·.add (l*sz)))=some ⟨b,l*sz,none⟩:=by
  rw[bLX Yd];simp[gY]
 refine cA ho rfl rfl hN hg (fun ρ hρ w'=>?_) kk;simp only[execOp,bOG,bNL,hρ x _ hx,hρ y _ hy,hρ z _ hz];unfold Instr.sliceAt Instr.slice Instr.sliceBounds Instr.sliceBound asIntOf;have I:(0:Int)≤(l:Int)∧(l:Int)≤(h:Nat):=by omega
 have a2:(0:Int)≤(h:Int)∧(h:Int)≤(cap:Nat):=by omega
 simp only[Ω,TU.of ht w',Ξ,ε,pure_bind,hs w',I,a2,bQT,bOC,bNI,ha]
theorem aBO{t e:Θ}{b l h m n cap sz:Nat}{k k' k2:IntKind}(ho:all[ix]?= some ⟨some d,.slice t x (some y) (some z) (some z2),ty,pos,aft,g⟩)(ht:P.underlying t=some (.slice e))(hs:TS P e sz)(hx:ev σ x=some (qS b n cap))(hy:ev σ y=some (.int k (l:Int)))(hz:ev σ z=some (.int k' (h:Int)))(I:ev σ z2=some (.int k2 (m:Int)))(h1:l≤h)(h2:h≤m)(h3:m≤cap)
  (hN:Nat.blt d X.N=true) (hg:cZ all σ g) (kk:∀v,WL P X bad all K Q os ((d,v)::σ) μ Ds):WL P X bad all K Q ((fl,ix)::os) σ μ Ds:=by
 refine cA (v:=.slice (if m=l then some ⟨b,0,none⟩else(some (⟨b,0,none⟩:Addr)).map (·.add (l*sz))) (h-l) (m-l)) ho rfl rfl hN hg (fun ρ hρ w'=>?_) (kk _);simp only[execOp,bNL,hρ x _ hx,hρ y _ hy,hρ z _ hz,hρ z2 _ I];unfold Instr.sliceAt Instr.slice Instr.sliceBounds Instr.sliceBound asIntOf;have O:(0:Int)≤(l:Int)∧(l:Int)≤(h:Nat):=by omega
 have a2:(0:Int)≤(h:Int)∧(h:Int)≤(m:Nat):=by omega
 have a3:(0:Int)≤(m:Int)∧(m:Int)≤(cap:Nat):=by omega
 simp only[Ω,TU.of ht w',Ξ,ε,pure_bind,hs w',O,a2,a3,bQT,bOC,bNI];rfl
theorem UR{t e:Θ}{D₁:aC}{b o n cap j:Nat}{k:IntKind}{xs:List Int}(ho:all[ix]?= some ⟨some d,.slice t x (some y) none none,ty,pos,aft,g⟩)(ht:P.underlying t=some (.slice e))(hs:TS P e 1)(hx:ev σ x=some (.slice (some ⟨b,o,none⟩) n cap))(hS:Sl D₁ RI 1 (.slice (some ⟨b,o,none⟩) n cap) xs)(hy:ev σ y=some (.int k (j:Int)))(hj:j<n)
  (hN:Nat.blt d X.N=true) (hg:cZ all σ g) (kk:Sl D₁ RI 1 (.slice (some ⟨b,o+j,none⟩) (n-j) (cap-j)) (xs.drop j)→WL P X bad all K Q os ((d,.slice (some ⟨b,o+j,none⟩) (n-j) (cap-j))::σ) μ Ds):WL P X bad all K Q ((fl,ix)::os) σ μ Ds:=by
 obtain⟨a,c,hv,h1,h2,h3⟩:=hS;cases hv;rcases h3 with h3|⟨b',o',ha,h3⟩
 ·subst h3;simp at hj
 cases ha;have ha:(if cap=j then some (⟨b,o,none⟩:Addr)else(some (⟨b,o,none⟩:Addr)).map (·.add (j*1)))=some ⟨b,o+j,none⟩:=by
  rw[bLX Yd];simp[gY]
 refine cA ho rfl rfl hN hg (fun ρ hρ w'=>?_) (kk ⟨_,_,by rw[bOS],by rw[bOS];omega,by rw[bOS];omega,bLY ⟨b,o+j,rfl,fun i z hi=>?_⟩⟩)
 ·simp only[execOp,bOG,bNL,hρ x _ hx,hρ y _ hy];unfold Instr.sliceAt Instr.slice Instr.sliceBounds Instr.sliceBound asIntOf;have hle:(0:Int)≤(j:Int)∧(j:Int)≤(xs.length:Nat):=by omega
  simp only[Ω,TU.of ht w',Ξ,ε,pure_bind,hs w',hle,bQT,bOC,bNI,ha]
 ·rw[bOJ]at hi;obtain⟨cs,hr,hc,hA⟩:=h3 _ _ hi;exact⟨cs,hr,hc,by rw[show o+j+i*1=o+(j+i)*1 by omega];exact hA⟩
theorem bDC{t e:Θ}{n len cap:Nat}{ad:Option Addr}(ho:all[ix]?= some ⟨some d,.sliceToArrayPointer t x,ty,pos,aft,g⟩)(ht:P.underlying t=some (.array n e))(hx:ev σ x=some (.slice ad len cap))(hl:n≤len)
  (hN:Nat.blt d X.N=true) (hg:cZ all σ g) (kk:WL P X bad all K Q os ((d,.pointer ad)::σ) μ Ds):WL P X bad all K Q ((fl,ix)::os) σ μ Ds:=by
 refine fJ ho rfl rfl hg fun a w hh=>?_
 have:(execOp a.eval ⟨some d,.sliceToArrayPointer t x,ty,pos,aft,g⟩).run P w=.ok (.value (.pointer ad)) w:=by
  simp only[execOp,hh.eval hx];unfold Instr.arrayAt;rw[Ω,Ω,TU.of ht w];simp only[Ξ];rw[bLX Yd];rfl
 rw[this];exact⟨fun _=>pV.refl _ _,kk _ _ (hh.put hN _)⟩
namespace L12
open C12
section
variable{α:Type}{f:α→List Γ}{n:Nat}(hf:∀x,(f x).length=n){xs:List α}{i:Nat}
include hf
theorem B8:((xs.drop (i+1)).flatMap f).length=(xs.length-(i+1))*n:=by rw[dI hf,bOS]
theorem aJB(k:Nat):(xs.flatMap f).take (k*n)=(xs.take k).flatMap f:=by
 induction xs generalizing k with
 |nil=>simp
 |cons x xs ih=>
  cases k with
  |zero=>simp
  |succ k=>
   rw[bMS,List.take_succ_cons,bMS,←ih k,show(k+1)*n=(f x).length+k*n by rw[hf,bOK];omega,List.take_length_add_append]
theorem aHZ(k:Nat):(xs.flatMap f).drop (k*n)=(xs.drop k).flatMap f:=by
 induction xs generalizing k with
 |nil=>simp
 |cons x xs ih=>
  cases k with
  |zero=>simp
  |succ k=>
   rw[bMS,List.drop_succ_cons,←ih k,show(k+1)*n=(f x).length+k*n by rw[hf,bOK];omega,bQF]
theorem j1{cap o:Nat}{junk:List Γ}(hi:i<xs.length)(hcap:xs.length≤cap)(ho:i+1<cap→o=(i+1)*n)(_:(xs.flatMap f++junk).length=cap*n):((xs.flatMap f++junk).drop o).take ((xs.length-(i+1))*n)=(xs.drop (i+1)).flatMap f:=by
 by_cases h:i+1<xs.length
 ·rw[ho Yd,List.drop_append_of_le_length (by rw[dI hf];exact bPG _ Yd),aHZ hf,bNH (by rw[B8 hf];exact bMH _),bMV (by rw[B8 hf];exact bMH _)]
 ·rw[show xs.length-(i+1)=0 by omega,bPY,List.take_zero,bNK Yd];rfl
theorem yC{junk:List Γ}(hi:i<xs.length):(xs.flatMap f++junk).take (i*n)++(xs.drop (i+1)).flatMap f++(xs.flatMap f++junk).drop (i*n+(xs.length-(i+1))*n)=(xs.eraseIdx i).flatMap f++(xs.flatMap f++junk).drop ((xs.length-1)*n):=by
 rw[bNH (by rw[dI hf];exact bPG _ Yd),aJB hf,←bMZ,←List.eraseIdx_eq_take_drop_succ,←bOK,show i+(xs.length-(i+1))=xs.length-1 by omega]
theorem Q5{cap:Nat}{junk:List Γ}(hi:i<xs.length)(_:(xs.flatMap f).length=xs.length*n)(I:(xs.flatMap f++junk).length=cap*n)(hcap:xs.length≤cap):((xs.eraseIdx i).flatMap f++(xs.flatMap f++junk).drop ((xs.length-1)*n)).length=cap*n:=by
 have h1:(xs.length-1)*n≤cap*n:=bPG _ Yd;rw[bLT,dI hf,bQY hi,bOS,I];omega
theorem CW{cap b e:Nat}{junk zs:List Γ}{cells:List Γ}(hi:i<xs.length)(hl1:(xs.flatMap f).length=xs.length*n)(I:(xs.flatMap f++junk).length=cap*n)(hcap:xs.length≤cap)(hz:cells=((xs.eraseIdx i).flatMap f++(xs.flatMap f++junk).drop ((xs.length-1)*n)).take ((xs.length-1)*n)++zs++((xs.eraseIdx i).flatMap f++(xs.flatMap f++junk).drop ((xs.length-1)*n)).drop ((xs.length-1)*n+zs.length))(hzl:(xs.length-1)*n+zs.length≤cap*n:=by simp;omega):
  bM e n (qS b (xs.length-1) cap) (xs.eraseIdx i).length ((xs.eraseIdx i).flatMap f) [(b,qC cells e)]:=by
 rw[bQY hi];have hE:((xs.eraseIdx i).flatMap f).length=(xs.length-1)*n:=by rw[dI hf,bQY hi]
 have hT:=Q5 hf hi hl1 I hcap;subst hz;generalize hR:(xs.flatMap f++junk).drop ((xs.length-1)*n)=R at hT ⊢
 have O:((xs.eraseIdx i).flatMap f++R).take ((xs.length-1)*n)=(xs.eraseIdx i).flatMap f:=by rw[←hE,bQS]
 rw[O,bMC];refine bLY ⟨b,cap,_,rfl,Yd,rfl,hE,?_⟩;rw[bLT,bLT,bOS,hT,hE];omega
end
theorem aBE(sv:Γ)(xs:List C1.xX)(i:Nat)(ν:aD)(D:aC)(ha:bM 277 3 sv xs.length (xs.flatMap cC) ν)(hi:i<xs.length):HO prog 323 [sv,qI (i:Int),qI ((i+1:Nat):Int)] D ν (fun _ v ν'=>bM 277 3 v (xs.eraseIdx i).length ((xs.eraseIdx i).flatMap cC) ν'):=by
 obtain⟨b,cap,junk,rfl,hcap,rfl,hl1,I⟩:=ha.some Yd;refine jF 33 func323 rfl rfl rfl rfl fun h0 hwl hwn=>aA<|Zf rfl<|aJ<|Za rfl<|Za rfl<|Za rfl<|Za rfl<|lX rfl U73 rfl rfl rfl bRD<|aBO (l:=i) (h:=i+1) (m:=xs.length) rfl U73 kP rfl rfl rfl rfl Yd Yd hcap rfl bRD fun v3=>bG<|Za rfl ?_;refine Za rfl<|Zap rfl<|aF<|Zaf rfl (fun hc1=>?_) fun hc1=>?_
 ·exact absurd hc1 Yd
 ·refine aQ<|aA<|Za rfl<|lX rfl U73 rfl rfl rfl bRD<|Zf rfl<|bW<|bS [] 2 8 58<|Za rfl<|Za rfl<|AY (i:=i) rfl U73 kP rfl rfl Yd rfl bRD<|Waw ?_;refine BU (j:=i+1) rfl U73 kP rfl rfl Yd rfl bRD fun o ho=>vJ (A:=[]) (B:=[]) (sz:=3) (xs:=(xs.drop (i+1)).flatMap cC) rfl U73 rfl rfl kP rfl rfl (j1 (f:=cC) (fun _=>rfl) hi hcap ho I) (B8 (f:=cC) fun _=>rfl) Yd Yaf (dJ j2 _) (bMF rfl) rfl bRD ?_;rw[show i+(xs.length-(i+1))=xs.length-1 by omega];refine Zab [(b,qC ((xs.eraseIdx i).flatMap cC++(xs.flatMap cC++junk).drop ((xs.length-1)*3)) 277)] (by rw[bMW,yC (f:=cC) (fun _=>rfl) hi])<|Zf rfl<|aJ<|Za rfl<|Za rfl<|lX rfl U73 rfl rfl rfl bRD<|Za rfl<|aFO (l:=xs.length-1) (h:=xs.length) rfl U73 kP rfl rfl rfl Yd hcap Yd rfl bRD ?_;rw[show xs.length-(xs.length-1)=1 by omega];refine m8 (A:=[]) (B:=[]) (zs:=[.bool false,qI 0,qI 0]) rfl rfl U73 rfl zX rfl Yd Yg (by rw[Q5 (f:=cC) (fun _=>rfl) hi hl1 I hcap];simp;omega) Yk bRD<|aJ<|Za rfl<|We ?_
  exact Zai [] [] [_] [_] rfl ⟨rfl,bRD⟩ rfl fun D hD=>CW (f:=cC) (fun _=>rfl) hi hl1 I hcap rfl
theorem YK(sv:Γ)(xs:List C2.Mk)(i:Nat)(ν:aD)(D:aC)(ha:bM 376 4 sv xs.length (xs.flatMap cM) ν)(hi:i<xs.length):HO prog 325 [sv,qI (i:Int),qI ((i+1:Nat):Int)] D ν (fun _ v ν'=>bM 376 4 v (xs.eraseIdx i).length ((xs.eraseIdx i).flatMap cM) ν'):=by
 obtain⟨b,cap,junk,rfl,hcap,rfl,hl1,I⟩:=ha.some Yd;refine jF 33 func325 rfl rfl rfl rfl fun h0 hwl hwn=>aA<|Zf rfl<|aJ<|Za rfl<|Za rfl<|Za rfl<|Za rfl<|lX rfl U77 rfl rfl rfl bRD<|aBO (l:=i) (h:=i+1) (m:=xs.length) rfl U77 lM rfl rfl rfl rfl Yd Yd hcap rfl bRD fun v3=>bG<|Za rfl ?_;refine Za rfl<|Zap rfl<|aF<|Zaf rfl (fun hc1=>?_) fun hc1=>?_
 ·exact absurd hc1 Yd
 ·refine aQ<|aA<|Za rfl<|lX rfl U77 rfl rfl rfl bRD<|Zf rfl<|bW<|bS [] 2 8 58<|Za rfl<|Za rfl<|AY (i:=i) rfl U77 lM rfl rfl Yd rfl bRD<|Waw ?_;refine BU (j:=i+1) rfl U77 lM rfl rfl Yd rfl bRD fun o ho=>vJ (A:=[]) (B:=[]) (sz:=4) (xs:=(xs.drop (i+1)).flatMap cM) rfl U77 rfl rfl lM rfl rfl (j1 (f:=cM) (fun _=>rfl) hi hcap ho I) (B8 (f:=cM) fun _=>rfl) Yd Yaf (dJ k9 _) (bMF rfl) rfl bRD ?_;rw[show i+(xs.length-(i+1))=xs.length-1 by omega];refine Zab [(b,qC ((xs.eraseIdx i).flatMap cM++(xs.flatMap cM++junk).drop ((xs.length-1)*4)) 376)] (by rw[bMW,yC (f:=cM) (fun _=>rfl) hi])<|Zf rfl<|aJ<|Za rfl<|Za rfl<|lX rfl U77 rfl rfl rfl bRD<|Za rfl<|aFO (l:=xs.length-1) (h:=xs.length) rfl U77 lM rfl rfl rfl Yd hcap Yd rfl bRD ?_;rw[show xs.length-(xs.length-1)=1 by omega];refine m8 (A:=[]) (B:=[]) (zs:=[qI 0,qI 0,qI 0,qI 0]) rfl rfl U77 rfl A5 rfl Yd Yg (by rw[Q5 (f:=cM) (fun _=>rfl) hi hl1 I hcap];simp;omega) Yk bRD<|aJ<|Za rfl<|We ?_
  exact Zai [] [] [_] [_] rfl ⟨rfl,bRD⟩ rfl fun D hD=>CW (f:=cM) (fun _=>rfl) hi hl1 I hcap rfl
theorem aBD(sv:Γ)(xs:List C3.cB)(i:Nat)(ν:aD)(D:aC)(ha:bM 298 3 sv xs.length (xs.flatMap cL) ν)(hi:i<xs.length):HO prog 327 [sv,qI (i:Int),qI ((i+1:Nat):Int)] D ν (fun _ v ν'=>bM 298 3 v (xs.eraseIdx i).length ((xs.eraseIdx i).flatMap cL) ν'):=by
 obtain⟨b,cap,junk,rfl,hcap,rfl,hl1,I⟩:=ha.some Yd;refine jF 33 func327 rfl rfl rfl rfl fun h0 hwl hwn=>aA<|Zf rfl<|aJ<|Za rfl<|Za rfl<|Za rfl<|Za rfl<|lX rfl U80 rfl rfl rfl bRD<|aBO (l:=i) (h:=i+1) (m:=xs.length) rfl U80 cS rfl rfl rfl rfl Yd Yd hcap rfl bRD fun v3=>bG<|Za rfl ?_;refine Za rfl<|Zap rfl<|aF<|Zaf rfl (fun hc1=>?_) fun hc1=>?_
 ·exact absurd hc1 Yd
 ·refine aQ<|aA<|Za rfl<|lX rfl U80 rfl rfl rfl bRD<|Zf rfl<|bW<|bS [] 2 8 58<|Za rfl<|Za rfl<|AY (i:=i) rfl U80 cS rfl rfl Yd rfl bRD<|Waw ?_;refine BU (j:=i+1) rfl U80 cS rfl rfl Yd rfl bRD fun o ho=>vJ (A:=[]) (B:=[]) (sz:=3) (xs:=(xs.drop (i+1)).flatMap cL) rfl U80 rfl rfl cS rfl rfl (j1 (f:=cL) (fun _=>rfl) hi hcap ho I) (B8 (f:=cL) fun _=>rfl) Yd Yaf (dJ j9 _) (bMF rfl) rfl bRD ?_;rw[show i+(xs.length-(i+1))=xs.length-1 by omega];refine Zab [(b,qC ((xs.eraseIdx i).flatMap cL++(xs.flatMap cL++junk).drop ((xs.length-1)*3)) 298)] (by rw[bMW,yC (f:=cL) (fun _=>rfl) hi])<|Zf rfl<|aJ<|Za rfl<|Za rfl<|lX rfl U80 rfl rfl rfl bRD<|Za rfl<|aFO (l:=xs.length-1) (h:=xs.length) rfl U80 cS rfl rfl rfl Yd hcap Yd rfl bRD ?_;rw[show xs.length-(xs.length-1)=1 by omega];refine m8 (A:=[]) (B:=[]) (zs:=[qI 0,qI 0,qI 0]) rfl rfl U80 rfl kQ rfl Yd Yg (by rw[Q5 (f:=cL) (fun _=>rfl) hi hl1 I hcap];simp;omega) Yk bRD<|aJ<|Za rfl<|We ?_
  exact Zai [] [] [_] [_] rfl ⟨rfl,bRD⟩ rfl fun D hD=>CW (f:=cL) (fun _=>rfl) hi hl1 I hcap rfl
theorem WF(sv:Γ)(xs:List (Int×Int))(i:Nat)(ν:aD)(D:aC)(ha:bM 129 2 sv xs.length (xs.flatMap cP) ν)(hi:i<xs.length):HO prog 328 [sv,qI (i:Int),qI ((i+1:Nat):Int)] D ν (fun _ v ν'=>bM 129 2 v (xs.eraseIdx i).length ((xs.eraseIdx i).flatMap cP) ν'):=by
 obtain⟨b,cap,junk,rfl,hcap,rfl,hl1,I⟩:=ha.some Yd;refine jF 33 func328 rfl rfl rfl rfl fun h0 hwl hwn=>aA<|Zf rfl<|aJ<|Za rfl<|Za rfl<|Za rfl<|Za rfl<|lX rfl U85 rfl rfl rfl bRD<|aBO (l:=i) (h:=i+1) (m:=xs.length) rfl U85 cQ rfl rfl rfl rfl Yd Yd hcap rfl bRD fun v3=>bG<|Za rfl ?_;refine Za rfl<|Zap rfl<|aF<|Zaf rfl (fun hc1=>?_) fun hc1=>?_
 ·exact absurd hc1 Yd
 ·refine aQ<|aA<|Za rfl<|lX rfl U85 rfl rfl rfl bRD<|Zf rfl<|bW<|bS [] 2 8 58<|Za rfl<|Za rfl<|AY (i:=i) rfl U85 cQ rfl rfl Yd rfl bRD<|Waw ?_;refine BU (j:=i+1) rfl U85 cQ rfl rfl Yd rfl bRD fun o ho=>vJ (A:=[]) (B:=[]) (sz:=2) (xs:=(xs.drop (i+1)).flatMap cP) rfl U85 rfl rfl cQ rfl rfl (j1 (f:=cP) (fun _=>rfl) hi hcap ho I) (B8 (f:=cP) fun _=>rfl) Yd Yaf (dJ yD _) (bMF rfl) rfl bRD ?_;rw[show i+(xs.length-(i+1))=xs.length-1 by omega];refine Zab [(b,qC ((xs.eraseIdx i).flatMap cP++(xs.flatMap cP++junk).drop ((xs.length-1)*2)) 129)] (by rw[bMW,yC (f:=cP) (fun _=>rfl) hi])<|Zf rfl<|aJ<|Za rfl<|Za rfl<|lX rfl U85 rfl rfl rfl bRD<|Za rfl<|aFO (l:=xs.length-1) (h:=xs.length) rfl U85 cQ rfl rfl rfl Yd hcap Yd rfl bRD ?_;rw[show xs.length-(xs.length-1)=1 by omega];refine m8 (A:=[]) (B:=[]) (zs:=[qI 0,qI 0]) rfl rfl U85 rfl jS rfl Yd Yg (by rw[Q5 (f:=cP) (fun _=>rfl) hi hl1 I hcap];simp;omega) Yk bRD<|aJ<|Za rfl<|We ?_
  exact Zai [] [] [_] [_] rfl ⟨rfl,bRD⟩ rfl fun D hD=>CW (f:=cP) (fun _=>rfl) hi hl1 I hcap rfl
theorem oR{e sz n:Nat}{cells:List Γ}{v:Γ}{ν:aD}(ha:bM e sz v n cells ν):∀p∈ν,dE p.2:=by
 intro p hp;rcases ha with⟨_,_,_,_,rfl⟩|⟨b,cap,junk,_,_,rfl,_⟩
 ·cases hp
 ·simp only[bMI]at hp;subst hp;rfl
theorem SA(wb:Nat)(s:aO)(pv cv hv lv mv bl bc yc yq nv:Γ)(a:Int)(ν:aD)(D:aC)(hn:Sl D RI 1 nv [a])(ha:bM 277 3 cv s.row.counts.length (s.row.counts.flatMap cC) ν)(hsm:s.row.counts.length≤100)(Y:0≤a):kF prog 266 [qP wb,nv] D ((wb,qC (dR s pv cv hv lv mv bl bc yc yq) 359)::ν) (fun _ _ ν'=>a<(s.row.counts.length:Int)∧∃U ν1,ν'=(wb,qC (dR s pv U hv lv mv bl bc yc yq) 359)::ν1∧bM 277 3 U (s.row.counts.eraseIdx a.toNat).length ((s.row.counts.eraseIdx a.toNat).flatMap cC) ν1) (fun v=>(s.row.counts.length:Int)≤a∧v=fW 7):=by
 obtain⟨bt,ot,ct,rfl⟩:=dF hn Yf;obtain⟨i,rfl⟩:∃i:Nat,a=(i:Int):=⟨a.toNat,Yd⟩
 have hbt:=eS hn;refine eK 34 func266 rfl rfl rfl rfl fun h0 hwl hwn=>Za2<|aV [] 7 11 1016<|Za rfl<|aS rfl hn<|Za rfl<|Zal rfl<|Zj rfl aZ rfl<|Zj rfl eB rfl<|Zj rfl mW rfl<|Zo rfl M8 rfl Mm0 rfl<|cG rfl U73 rfl ha rfl rfl bRD ?_;refine Zl [(_,_)] ν [] rfl (Or.inr Yi) (fun D5 O=>lP (i:Int) (s.row.counts.length:Int) _) (fun v5 Z O hp5=>cX (P:=prog) (fn:=f266) rfl ⟨hp5.1,hp5.2⟩) fun v5 Z ν5 O hp5=>?_;obtain⟨R,rfl⟩:=hp5;refine aF<|fD hbt Yf fun hap=>pW fun hnd=>?_;have hnu:=fE hap hnd;have hwbo:wb∉dC.mk [bt,wb]:=dC.out Yf;have hbto:bt∉dC.mk [bt,wb]:=dC.out Yf;refine aV (dC.mk [bt,wb]) 4 20 32766<|Za rfl<|Za rfl<|Zal rfl<|Zj rfl aZ rfl<|Zj rfl eB rfl<|Zj rfl mW rfl<|bD rfl M8 rfl Mm0 rfl Ym rfl bRD<|Wac ?_;refine Zae rfl<|aY ((wb,qC (dR s pv cv hv lv mv bl bc yc yq) 359)::ν) rfl<|Zab ((wb,qC (dR s pv cv hv lv mv bl bc yc yq) 359)::ν++[]) (bMM _).symm<|gH (A:=[(wb,qC (dR s pv cv hv lv mv bl bc yc yq) 359)]) (ν:=ν) (B:=[]) rfl rfl rfl rfl Yo (oR ha) (fun D7 hB=>aBE _ s.row.counts i ν _ ha Yd) rfl bRD fun V D8 ν7 hE I=>Zab ((wb,qC (dR s pv cv hv lv mv bl bc yc yq) 359)::ν7) (bMM _)<|Zal rfl<|Zj rfl aZ rfl<|Zj rfl eB rfl<|Zj rfl mW rfl<|Zs (dR s pv V hv lv mv bl bc yc yq) rfl I.cells1 QA .head rfl I.cell1<|Zan ?_;exact eG rfl fun D' hD=>⟨R,V,ν7,rfl,I⟩
theorem YP(wb:Nat)(s:aO)(pv cv hv lv mv bl bc yc yq nv:Γ)(a:Int)(ν:aD)(D:aC)(hn:Sl D RI 1 nv [a])(ha:bM 376 4 mv s.table.marks.length (s.table.marks.flatMap cM) ν)(hsm:s.table.marks.length≤100)(Y:0≤a):kF prog 274 [qP wb,nv] D ((wb,qC (dR s pv cv hv lv mv bl bc yc yq) 359)::ν) (fun _ _ ν'=>a<(s.table.marks.length:Int)∧∃U ν1,ν'=(wb,qC (dR s pv cv hv lv U bl bc yc yq) 359)::ν1∧bM 376 4 U (s.table.marks.eraseIdx a.toNat).length ((s.table.marks.eraseIdx a.toNat).flatMap cM) ν1) (fun v=>(s.table.marks.length:Int)≤a∧v=fW 7):=by
 obtain⟨bt,ot,ct,rfl⟩:=dF hn Yf;obtain⟨i,rfl⟩:∃i:Nat,a=(i:Int):=⟨a.toNat,Yd⟩
 have hbt:=eS hn;refine eK 34 func274 rfl rfl rfl rfl fun h0 hwl hwn=>Za2<|aV [] 7 11 1016<|Za rfl<|aS rfl hn<|Za rfl<|Zal rfl<|Zj rfl aZ rfl<|Zj rfl dA rfl<|Zj rfl nH rfl<|Zo rfl H7 rfl Mm0 rfl<|cG rfl U77 rfl ha rfl rfl bRD ?_;refine Zl [(_,_)] ν [] rfl (Or.inr Yi) (fun D5 O=>lP (i:Int) (s.table.marks.length:Int) _) (fun v5 Z O hp5=>cX (P:=prog) (fn:=f274) rfl ⟨hp5.1,hp5.2⟩) fun v5 Z ν5 O hp5=>?_;obtain⟨R,rfl⟩:=hp5;refine aF<|fD hbt Yf fun hap=>pW fun hnd=>?_;have hnu:=fE hap hnd;have hwbo:wb∉dC.mk [bt,wb]:=dC.out Yf;have hbto:bt∉dC.mk [bt,wb]:=dC.out Yf;refine aV (dC.mk [bt,wb]) 4 20 32766<|Wbu ?_;refine Zae rfl<|aY ((wb,qC (dR s pv cv hv lv mv bl bc yc yq) 359)::ν) rfl<|Zab ((wb,qC (dR s pv cv hv lv mv bl bc yc yq) 359)::ν++[]) (bMM _).symm<|gH (A:=[(wb,qC (dR s pv cv hv lv mv bl bc yc yq) 359)]) (ν:=ν) (B:=[]) rfl rfl rfl rfl Yo (oR ha) (fun D7 hB=>YK _ s.table.marks i ν _ ha Yd) rfl bRD fun V D8 ν7 hE I=>Zab ((wb,qC (dR s pv cv hv lv mv bl bc yc yq) 359)::ν7) (bMM _)<|Zal rfl<|Zj rfl aZ rfl<|Zj rfl dA rfl<|Zj rfl nH rfl<|Zs (dR s pv cv hv lv V bl bc yc yq) rfl I.cells1 MI .head rfl I.cell1<|Zan ?_;exact eG rfl fun D' hD=>⟨R,V,ν7,rfl,I⟩
theorem WH(wb:Nat)(s:aO)(pv cv hv lv mv bl bc yc yq nv:Γ)(a:Int)(ν:aD)(D:aC)(hn:Sl D RI 1 nv [a])(ha:bM 298 3 bl s.book.lines.length (s.book.lines.flatMap cL) ν)(hsm:s.book.lines.length≤100)(Y:0≤a):kF prog 278 [qP wb,nv] D ((wb,qC (dR s pv cv hv lv mv bl bc yc yq) 359)::ν) (fun _ _ ν'=>a<(s.book.lines.length:Int)∧∃U ν1,ν'=(wb,qC (dR s pv cv hv lv mv U bc yc yq) 359)::ν1∧bM 298 3 U (s.book.lines.eraseIdx a.toNat).length ((s.book.lines.eraseIdx a.toNat).flatMap cL) ν1) (fun v=>(s.book.lines.length:Int)≤a∧v=fW 7):=by
 obtain⟨bt,ot,ct,rfl⟩:=dF hn Yf;obtain⟨i,rfl⟩:∃i:Nat,a=(i:Int):=⟨a.toNat,Yd⟩
 have hbt:=eS hn;refine eK 34 func278 rfl rfl rfl rfl fun h0 hwl hwn=>Za2<|aV [] 7 11 1016<|Za rfl<|Wbh ?_;refine Zl [(_,_)] ν [] rfl (Or.inr Yi) (fun D5 O=>lP (i:Int) (s.book.lines.length:Int) _) (fun v5 Z O hp5=>cX (P:=prog) (fn:=f278) rfl ⟨hp5.1,hp5.2⟩) fun v5 Z ν5 O hp5=>?_;obtain⟨R,rfl⟩:=hp5;refine aF<|fD hbt Yf fun hap=>pW fun hnd=>?_;have hnu:=fE hap hnd;have hwbo:wb∉dC.mk [bt,wb]:=dC.out Yf;have hbto:bt∉dC.mk [bt,wb]:=dC.out Yf;refine aV (dC.mk [bt,wb]) 4 20 32766<|Za rfl<|Za rfl<|Zal rfl<|Zj rfl aZ rfl<|Zj rfl fS rfl<|Zj rfl dN rfl<|bD rfl hG rfl Mm0 rfl Ym rfl bRD<|Wac ?_;refine Zae rfl<|aY ((wb,qC (dR s pv cv hv lv mv bl bc yc yq) 359)::ν) rfl<|Zab ((wb,qC (dR s pv cv hv lv mv bl bc yc yq) 359)::ν++[]) (bMM _).symm<|gH (A:=[(wb,qC (dR s pv cv hv lv mv bl bc yc yq) 359)]) (ν:=ν) (B:=[]) rfl rfl rfl rfl Yo (oR ha) (fun D7 hB=>aBD _ s.book.lines i ν _ ha Yd) rfl bRD fun V D8 ν7 hE I=>Zab ((wb,qC (dR s pv cv hv lv mv bl bc yc yq) 359)::ν7) (bMM _)<|Zal rfl<|Zj rfl aZ rfl<|Zj rfl fS rfl<|Zj rfl dN rfl<|Zs (dR s pv cv hv lv mv V bc yc yq) rfl I.cells1 eR .head rfl I.cell1<|Zan ?_;exact eG rfl fun D' hD=>⟨R,V,ν7,rfl,I⟩
theorem VF(wb:Nat)(s:aO)(pv cv hv lv mv bl bc yc yq nv:Γ)(a:Int)(ν:aD)(D:aC)(hn:Sl D RI 1 nv [a])(ha:bM 129 2 yq s.yard.claims.length (s.yard.claims.flatMap cP) ν)(hsm:s.yard.claims.length≤100)(Y:0≤a):kF prog 283 [qP wb,nv] D ((wb,qC (dR s pv cv hv lv mv bl bc yc yq) 359)::ν) (fun _ _ ν'=>a<(s.yard.claims.length:Int)∧∃U ν1,ν'=(wb,qC (dR s pv cv hv lv mv bl bc yc U) 359)::ν1∧bM 129 2 U (s.yard.claims.eraseIdx a.toNat).length ((s.yard.claims.eraseIdx a.toNat).flatMap cP) ν1) (fun v=>(s.yard.claims.length:Int)≤a∧v=fW 7):=by
 obtain⟨bt,ot,ct,rfl⟩:=dF hn Yf;obtain⟨i,rfl⟩:∃i:Nat,a=(i:Int):=⟨a.toNat,Yd⟩
 have hbt:=eS hn;refine eK 34 func283 rfl rfl rfl rfl fun h0 hwl hwn=>Za2<|aV [] 7 11 1016<|Za rfl<|aS rfl hn<|Za rfl<|Zal rfl<|Zj rfl aZ rfl<|Zj rfl eU rfl<|Zj rfl nD rfl<|Zo rfl L4 rfl Mm0 rfl<|cG rfl U85 rfl ha rfl rfl bRD ?_;refine Zl [(_,_)] ν [] rfl (Or.inr Yi) (fun D5 O=>lP (i:Int) (s.yard.claims.length:Int) _) (fun v5 Z O hp5=>cX (P:=prog) (fn:=f283) rfl ⟨hp5.1,hp5.2⟩) fun v5 Z ν5 O hp5=>?_;obtain⟨R,rfl⟩:=hp5;refine aF<|fD hbt Yf fun hap=>pW fun hnd=>?_;have hnu:=fE hap hnd;have hwbo:wb∉dC.mk [bt,wb]:=dC.out Yf;have hbto:bt∉dC.mk [bt,wb]:=dC.out Yf;refine aV (dC.mk [bt,wb]) 4 20 32766<|Wbt ?_;refine Zae rfl<|aY ((wb,qC (dR s pv cv hv lv mv bl bc yc yq) 359)::ν) rfl<|Zab ((wb,qC (dR s pv cv hv lv mv bl bc yc yq) 359)::ν++[]) (bMM _).symm<|gH (A:=[(wb,qC (dR s pv cv hv lv mv bl bc yc yq) 359)]) (ν:=ν) (B:=[]) rfl rfl rfl rfl Yo (oR ha) (fun D7 hB=>WF _ s.yard.claims i ν _ ha Yd) rfl bRD fun V D8 ν7 hE I=>Zab ((wb,qC (dR s pv cv hv lv mv bl bc yc yq) 359)::ν7) (bMM _)<|Zal rfl<|Zj rfl aZ rfl<|Zj rfl eU rfl<|Zj rfl nD rfl<|Zs (dR s pv cv hv lv mv bl bc yc V) rfl I.cells1 MR .head rfl I.cell1<|Zan ?_;exact eG rfl fun D' hD=>⟨R,V,ν7,rfl,I⟩
theorem bHF{D:aC}{bt ot n ct:Nat}{a b c d:Int}(h:Sl D RI 1 (.slice (some ⟨bt,ot,none⟩) n ct) [a,b,c,d]):At D bt (ot+1) [qI b,qI c,qI d]:=by
  obtain⟨x,cap,hv,h1,h2,h3⟩:=h;cases hv;rcases h3 with h3|⟨b',o,ha,h3⟩
  · cases h3
  · cases ha;intro j v hj;have key:∀(i:Nat) (z:Int),[a,b,c,d][i]?= some z→(D bt)[ot+i]?= some (qI z):=fun i z hi=>by
      obtain⟨cs,hr,hc,hA⟩:=h3 i z hi;obtain rfl:cs=[qI z]:=hr;have:=hA 0 _ rfl;simpa using this
    match j with
    | 0 => obtain rfl : Value.int .i64 b = v := by simpa using hj
           exact key 1 b rfl
    | 1 => obtain rfl : Value.int .i64 c = v := by simpa using hj
           exact key 2 c rfl
    | 2 => obtain rfl : Value.int .i64 d = v := by simpa using hj
           exact key 3 d rfl
    |j+3=>simp at hj
theorem ZH(wb:Nat)(s:aO)(pv cv hv lv mv bl bc yc yq nv:Γ)(a b c d:Int)(ν:aD)(D:aC)(hn:Sl D RI 1 nv [a,b,c,d])(ha:bM 314 4 yc s.yard.chairs.length (s.yard.chairs.flatMap cH) ν)(hsm:s.yard.chairs.length≤100):kF prog 279 [qP wb,nv] D ((wb,qC (dR s pv cv hv lv mv bl bc yc yq) 359)::ν) (fun _ _ ν'=>((a≤9∧max (max b c) d≤2)∧(s.yard.chairs.length:Int)<5)∧∃Y ν1,ν'=(wb,qC (dR s pv cv hv lv mv bl bc Y yq) 359)::ν1∧bM 314 4 Y (s.yard.chairs++[(⟨a,⟨b,c,d⟩⟩:C7.Ch)]).length ((s.yard.chairs++[(⟨a,⟨b,c,d⟩⟩:C7.Ch)]).flatMap cH) ν1) (fun v=>((9<a∨2<max (max b c) d)∧v=fW 2)∨((a≤9∧max (max b c) d≤2)∧5≤(s.yard.chairs.length:Int)∧v=fW 3)):=by
 obtain⟨bt,ot,ct,rfl⟩:=dF hn Yf;have hbt:=eS hn;refine eK 43 func279 rfl rfl rfl rfl (fun h0 hwl hwn=>Za2<|aV [] 5 10 240<|Za rfl<|aS rfl hn<|Zaq rfl<|Za rfl<|UR (j:=1) rfl U35 aI rfl hn rfl Yf rfl bRD fun hsT=>Zd rfl (fun D3 hE=>L2.aUA _ b [c,d] _ (hsT.up RI.up (hE _ Yf)))<|Zaq rfl<|Zt rfl U397 mI pO rfl (.cons rfl rfl (.cons rfl rfl .nil)) fun hJ D901 hF O=>Zl [(_,_)] ν [] rfl (bLY Yi) (fun D5 R=>gG 2 [decide (9<a),decide (2<max (max b c) d)] _ _ ((iI (l:=[decide (9<a),decide (2<max (max b c) d)]) (fun _ _ _ h=>h) O Yf).up RB.up (R _ Yf))) (fun v5 D6 R hp5=>cX (P:=prog) (fn:=f279) rfl (bMF ⟨by simpa only[List.any_cons,List.any_nil,Bool.or_false,Bool.true_beq,bMU,LT]using hp5.1,hp5.2⟩)) fun v5 D6 ν5 R hp5=>?_);obtain⟨hf50,rfl⟩:=hp5;have Z:a≤9∧max (max b c) d≤2:=by simp only[List.any_cons,List.any_nil,Bool.or_false,Bool.true_beq,bNG,bLV,Int.not_lt]at hf50;exact hf50
 refine aJ<|Za rfl<|Zal rfl<|Zj rfl aZ rfl<|Zj rfl eU rfl<|Zj rfl iH rfl<|Zo rfl pE rfl Mm0 rfl<|cG rfl U84 rfl ha rfl rfl bRD<|Zl [(_,_)] ν [] rfl (Or.inr Yi) (fun D7 hB=>E0 (s.yard.chairs.length:Int) 5 _) (fun v7 D8 hB I=>cX (P:=prog) (fn:=f279) rfl (bLY ⟨Z,I.1,I.2⟩)) fun v7 D8 ν7 hB I=>?_;obtain⟨hH,rfl⟩:=I;refine aF<|fD hbt Yf fun hap=>pW fun hnd=>?_;have hnu:=fE hap hnd;have hwbo:wb∉dC.mk [bt,wb]:=dC.out Yf;have hbto:bt∉dC.mk [bt,wb]:=dC.out Yf;refine aV (dC.mk [bt,wb]) 4 22 131070<|Za rfl<|Za rfl<|Zal rfl<|Zj rfl aZ rfl<|Zj rfl eU rfl<|Zj rfl iH rfl<|bD rfl pE rfl Mm0 rfl Ym rfl bRD<|Za rfl<|aS rfl hn<|Za rfl<|UR (j:=1) rfl U35 aI rfl hn rfl Yf rfl bRD fun hsU=>?_;refine bDC rfl U312 rfl Yf rfl bRD<|cU rfl qE rfl (bHF hn) Yf oQ hbto rfl bRD<|Zu [qI a,qI b,qI c,qI d] rfl aWX P1 rfl<|Zt rfl U84 mC P1 rfl (.cons rfl rfl .nil) fun hK hN hI U=>zO bJC (⟨a,⟨b,c,d⟩⟩:C7.Ch) rfl U84 rfl rfl mC P1 rfl aDF rfl rfl rfl ha U Yd Yo bRD fun Y ν1 V=>Zal rfl<|Zj rfl aZ rfl<|Zj rfl eU rfl<|Zj rfl iH rfl<|Zs (dR s pv cv hv lv mv bl bc Y yq) rfl V.cells1 aAE .head rfl V.cell1<|Zan ?_;exact eG rfl fun D' hD=>⟨⟨Z,hH⟩,Y,ν1,rfl,V⟩
end L12
def aJG(es:Array MapEntry)(M:List (Λ×Γ)):Prop:=es.toList.map (fun e=>(e.key,e.val))=M.map fun p=>(Value.string p.1,p.2)
def AI(s:Λ):List (Λ×Γ)→Nat→Option (Nat×Γ)
 | [],_=>none
 |(b,v)::M,i=>if(s==b)=true then some (i,v)else AI s M (i+1)
theorem BV(s:Λ):∀(es:List MapEntry) (M:List (Λ×Γ)) (i:Nat),es.map (fun e=>(e.key,e.val))=M.map (fun p=>(Value.string p.1,p.2))→Instr.findNow .string (.string s) es i=some (AI s M i)
 | [],[],i,_=>rfl
 | [],_::_,i,h=>by simp at h
 |_::_,[],i,h=>by simp at h
 |e::es,(b,v)::M,i,h=>by
  simp only[bMT,bOH,bPO]at h;obtain⟨⟨hk,hv⟩,h⟩:=h;simp only[Instr.findNow,hk,Instr.sameNow,AI];cases hb:s==b with
  |true=>simp[hv]
  |false=>simpa using BV s es M (i+1) h
theorem G2{k:Θ}(ht:P.underlying k=some .string)(s:Λ)(w:Δ){es:List MapEntry}{M:List (Λ×Γ)}(h:es.map (fun e=>(e.key,e.val))=M.map fun p=>(Value.string p.1,p.2)):(Instr.findKey k (.string s) es).run P w=.ok (AI s M 0) w:=by
 unfold Instr.findKey;rw[Ω,TU.of ht w];simp only[Ξ,BV s es M 0 h,ε]
theorem yI{k:Θ}(ht:P.underlying k=some .string)(em:Bool)(s:Λ)(w:Δ):(Instr.checkKey em 10000 k (.string s)).run P w=.ok () w:=by
 show(Instr.checkKey em (9999+1) k (.string s)).run P w=_;rw[Instr.checkKey,Ω,TU.of ht w];rfl
def aUM(s:Λ)(M:List (Λ×Γ))(z0:Γ):Γ:=match AI s M 0 with
 |some (_,v)=>v
 |none=>z0
theorem AW{t k e:Θ}{b clock:Nat}{es:Array MapEntry}{M:List (Λ×Γ)}{s:Λ}(ho:all[ix]?= some ⟨some d,.lookup t x y true,ty,pos,aft,g⟩)(ht:P.underlying t=some (.map k e))(hk:P.underlying k=some .string){z0:Γ}(hz:TZ P e z0)
  (hx:ev σ x=some (.map (some b))) (hy:ev σ y=some (.string s)) (hm:(b,Obj.map es clock)∈μ) (hb:b∉bad) (hM:aJG es M) (hN:Nat.blt d X.N=true) (hg:cZ all σ g)
  (kk:WL P X bad all K Q os ((d,.tuple #[aUM s M z0,.bool (AI s M 0).isSome])::σ) μ Ds):WL P X bad all K Q ((fl,ix)::os) σ μ Ds:=by
 have run:∀w,w.heap[b]?= some (Obj.map es clock)→(Instr.lookup t (.map (some b)) (.string s) true).run P w=.ok (.tuple #[aUM s M z0,.bool (AI s M 0).isSome]) w:=by
  intro w hw;unfold aUM;have hf:=G2 hk s w hM;unfold Instr.lookup;simp only[Ω,TU.of ht w,Ξ,pG hw,ε,yI hk];rw[hf];cases AI s M 0 with
  |none=>simp only[Ξ,Ω,hz w,ε];rfl
  |some r=>obtain⟨j,v⟩:=r;simp only[Ξ];rfl
 refine oZ ho rfl rfl hN hg (fun a' w hh w' hk'=>?_) kk;simp only[execOp,hh.eval hx,hh.eval hy,Ω,run w' (hh.boxAt hm hb hk'),Ξ,ε]
theorem cT{t k e:Θ}{b clock:Nat}{es:Array MapEntry}{M:List (Λ×Γ)}{s:Λ}{A B:aD}(ho:all[ix]?= some ⟨none,.insert t x y z,ty,pos,aft,g⟩)(ht:P.underlying t=some (.map k e))(hk:P.underlying k=some .string)
  (hx:ev σ x=some (.map (some b))) (hy:ev σ y=some (.string s)) (hz:ev σ z=some v) (hM:aJG es M) (hnew:AI s M 0=none) (hg:cZ all σ g)
  (kk:∀es' clock',aJG es' (M++[(s,v)])→WL P X bad all K Q os σ (A++(b,.map es' clock')::B) Ds):WL P X bad all K Q ((false,ix)::os) σ (A++(b,.map es clock)::B) Ds:=by
 refine fJ ho rfl rfl hg fun a' w hh=>?_
 obtain⟨h1,h2,h3,D,h4,h5,I⟩:=id hh;have hw:=(h4.box (b,.map es clock) Yf).1;have hf:=G2 hk s w hM;have hset:∀o,(setObj b o).run P w=.ok () {w with heap:=w.heap.setIfInBounds b o}:=fun o=>by simp[setObj,Sem.run,hw]
 have hr:(Instr.mapUpdate t (.map (some b)) (.string s) v).run P w=.ok () {w with heap:=w.heap.setIfInBounds b (.map (es.push {key:=.string s,val:=v,born:=clock}) (clock+1))}:=by
  unfold Instr.mapUpdate;simp only[Ω,TU.of ht w,Ξ,pG hw,yI hk];rw[hf,hnew];simp only[Ξ,hset]
 have hHas:bR (A++(b,Obj.map es clock)::B) b (.map es clock) (.map (es.push {key:=.string s,val:=v,born:=clock}) (clock+1)) (A++(b,.map (es.push {key:=.string s,val:=v,born:=clock}) (clock+1))::B):=.app .head;have hs:=h4.set (w':={w with heap:=w.heap.setIfInBounds b (.map (es.push {key:=.string s,val:=v,born:=clock}) (clock+1))}) hHas ⟨rfl,rfl⟩ trivial;have:(execOp a'.eval ⟨none,.insert t x y z,ty,pos,aft,g⟩).run P w=.ok .skip {w with heap:=w.heap.setIfInBounds b (.map (es.push {key:=.string s,val:=v,born:=clock}) (clock+1))}:=by
  simp only[execOp,hh.eval hx,hh.eval hy,hh.eval hz,Ω,hr,Ξ,ε]
 rw[this];refine⟨fun h=>Xad,kk _ _ ?_ _ _ ⟨h1,h2,h3,D,hs,h5,I.step (fun _ p hp=>bMF Yt) (fun _=>lJ ⟨rfl,rfl⟩ (GE.2 ⟨_,hHas.mem,rfl⟩)) hs.dom⟩⟩;unfold aJG at hM ⊢
 rw[Array.toList_push,bME,bME,hM];rfl
theorem Fn.of_alloc{f:FuncId}{args:Array Γ}{D:aC}{cs:List Γ}{e:Θ}{r:Nat→Γ}{post:aC→Γ→Prop}(hEF:EF P f)
  (h:∀w,fR D w→Calls P f args w fun en w'=>en=.returned (r w.heap.size)∧w'=w.alloc (.cells cs.toArray e (0,0))) (hp:∀D' b,Le D D'→At D' b 0 cs→post D' (r b)):Fn P f args D post:=by
 refine⟨hEF,fun w hw=>(h w hw).mono ?_⟩;rintro en w' ⟨he,rfl⟩;have hst:iX (hd w) w.heap.size D [] [] D w:=⟨bMH _,bMH _,(fun _ _ _=>rfl),(fun _ _=>rfl),hw,Yi,bNW,Yi,fun e he=>bMQ he⟩
 obtain⟨D',hle,hb, -,hs⟩:=hst.pushD cs e;have hA:At D' w.heap.size 0 cs:=fun j v hv=>by rw[hb];simpa using hv
 exact⟨_,D',he,hs,hp D' _ hle hA⟩
namespace L12
open C12
def PF:List (Λ×Γ):=[(⟨#[112,108,97,99,101]⟩,.agg #[qI 0,.func (.func 262) #[] #[]]),(⟨#[115,101,101,110]⟩,.agg #[qI 2,.func (.func 263) #[] #[]]),(⟨#[99,111,117,110,116]⟩,.agg #[qI 2,.func (.func 264) #[] #[]]),(⟨#[98,97,99,107]⟩,.agg #[qI 2,.func (.func 265) #[] #[]]),(⟨#[117,110,99,111,117,110,116]⟩,.agg #[qI 1,.func (.func 266) #[] #[]]),(⟨#[119,114,111,110,103]⟩,.agg #[qI 1,.func (.func 267) #[] #[]]),(⟨#[111,102,102]⟩,.agg #[qI 1,.func (.func 268) #[] #[]]),(⟨#[116,105,100,101]⟩,.agg #[qI 3,.func (.func 269) #[] #[]]),(⟨#[115,116,101,112]⟩,.agg #[qI 1,.func (.func 270) #[] #[]]),(⟨#[108,101,118,101,108]⟩,.agg #[qI 1,.func (.func 271) #[] #[]]),(⟨#[114,97,105,115,101]⟩,.agg #[qI 2,.func (.func 272) #[] #[]]),(⟨#[109,97,114,107]⟩,.agg #[qI 4,.func (.func 273) #[] #[]]),(⟨#[117,110,109,97,114,107]⟩,.agg #[qI 1,.func (.func 274) #[] #[]]),(⟨#[104,105,114,101]⟩,.agg #[qI 2,.func (.func 275) #[] #[]]),(⟨#[98,114,105,110,103]⟩,.agg #[qI 2,.func (.func 276) #[] #[]]),(⟨#[115,109,117,100,103,101]⟩,.agg #[qI 1,.func (.func 277) #[] #[]]),(⟨#[115,116,114,105,107,101]⟩,.agg #[qI 1,.func (.func 278) #[] #[]]),(⟨#[98,114,111,107,101,110]⟩,.agg #[qI 4,.func (.func 279) #[] #[]]),(⟨#[112,97,114,116]⟩,.agg #[qI 3,.func (.func 280) #[] #[]]),(⟨#[102,105,116]⟩,.agg #[qI 1,.func (.func 281) #[] #[]]),(⟨#[99,108,97,105,109]⟩,.agg #[qI 2,.func (.func 282) #[] #[]]),(⟨#[117,110,99,108,97,105,109]⟩,.agg #[qI 1,.func (.func 283) #[] #[]])]
theorem SE(D:aC):KH prog 205 #[] D (fun _ v ν=>∃b es cl,v=.map (some b)∧ν=[(b,.map es cl)]∧aJG es PF):=by
 refine qR 25 func205 rfl rfl rfl rfl fun h0=>aA<|Zf rfl<|aJ<|zG rfl rfl bRD fun qm=>?_
 have hO:aJG #[] []:=rfl;refine Zu [qI 0,.func (.func 262) #[] #[]] rfl gW fQ rfl<|cT (A:=[]) (B:=[]) rfl U353 U9 rfl rfl rfl hO Yg bRD fun es1 cl1 hP=>Zu [qI 2,.func (.func 263) #[] #[]] rfl gW fQ rfl<|cT (A:=[]) (B:=[]) rfl U353 U9 rfl rfl rfl hP Yg bRD fun es2 cl2 hR=>Zu [qI 2,.func (.func 264) #[] #[]] rfl gW fQ rfl<|cT (A:=[]) (B:=[]) rfl U353 U9 rfl rfl rfl hR Yg bRD fun es3 cl3 hS=>Zu [qI 2,.func (.func 265) #[] #[]] rfl gW fQ rfl<|cT (A:=[]) (B:=[]) rfl U353 U9 rfl rfl rfl hS Yg bRD fun es4 cl4 hX=>Zu [qI 1,.func (.func 266) #[] #[]] rfl gW fQ rfl<|cT (A:=[]) (B:=[]) rfl U353 U9 rfl rfl rfl hX Yg bRD fun es5 cl5 hY=>Zu [qI 1,.func (.func 267) #[] #[]] rfl gW fQ rfl<|cT (A:=[]) (B:=[]) rfl U353 U9 rfl rfl rfl hY Yg bRD fun es6 cl6 rA=>?_;refine Zu [qI 1,.func (.func 268) #[] #[]] rfl gW fQ rfl<|cT (A:=[]) (B:=[]) rfl U353 U9 rfl rfl rfl rA Yg bRD fun es7 cl7 rB=>Zu [qI 3,.func (.func 269) #[] #[]] rfl gW fQ rfl<|cT (A:=[]) (B:=[]) rfl U353 U9 rfl rfl rfl rB Yg bRD fun es8 cl8 hM8=>Zu [qI 1,.func (.func 270) #[] #[]] rfl gW fQ rfl<|cT (A:=[]) (B:=[]) rfl U353 U9 rfl rfl rfl hM8 Yg bRD fun es9 cl9 hM9=>Zu [qI 1,.func (.func 271) #[] #[]] rfl gW fQ rfl<|cT (A:=[]) (B:=[]) rfl U353 U9 rfl rfl rfl hM9 Yg bRD fun es10 cl10 I=>Zu [qI 2,.func (.func 272) #[] #[]] rfl gW fQ rfl<|cT (A:=[]) (B:=[]) rfl U353 U9 rfl rfl rfl I Yg bRD fun es11 cl11 O=>Zu [qI 4,.func (.func 273) #[] #[]] rfl gW fQ rfl<|cT (A:=[]) (B:=[]) rfl U353 U9 rfl rfl rfl O Yg bRD fun es12 cl12 R=>?_;refine Zu [qI 1,.func (.func 274) #[] #[]] rfl gW fQ rfl<|cT (A:=[]) (B:=[]) rfl U353 U9 rfl rfl rfl R Yg bRD fun es13 cl13 U=>Zu [qI 2,.func (.func 275) #[] #[]] rfl gW fQ rfl<|cT (A:=[]) (B:=[]) rfl U353 U9 rfl rfl rfl U Yg bRD fun es14 cl14 V=>Zu [qI 2,.func (.func 276) #[] #[]] rfl gW fQ rfl<|cT (A:=[]) (B:=[]) rfl U353 U9 rfl rfl rfl V Yg bRD fun es15 cl15 Y=>Zu [qI 1,.func (.func 277) #[] #[]] rfl gW fQ rfl<|cT (A:=[]) (B:=[]) rfl U353 U9 rfl rfl rfl Y Yg bRD fun es16 cl16 Z=>Zu [qI 1,.func (.func 278) #[] #[]] rfl gW fQ rfl<|cT (A:=[]) (B:=[]) rfl U353 U9 rfl rfl rfl Z Yg bRD fun es17 cl17 hB=>Zu [qI 4,.func (.func 279) #[] #[]] rfl gW fQ rfl<|cT (A:=[]) (B:=[]) rfl U353 U9 rfl rfl rfl hB Yg bRD fun es18 cl18 hE=>?_;refine Zu [qI 3,.func (.func 280) #[] #[]] rfl gW fQ rfl<|cT (A:=[]) (B:=[]) rfl U353 U9 rfl rfl rfl hE Yg bRD fun es19 cl19 hF=>Zu [qI 1,.func (.func 281) #[] #[]] rfl gW fQ rfl<|cT (A:=[]) (B:=[]) rfl U353 U9 rfl rfl rfl hF Yg bRD fun es20 cl20 hH=>Zu [qI 2,.func (.func 282) #[] #[]] rfl gW fQ rfl<|cT (A:=[]) (B:=[]) rfl U353 U9 rfl rfl rfl hH Yg bRD fun es21 cl21 hI=>Zu [qI 1,.func (.func 283) #[] #[]] rfl gW fQ rfl<|cT (A:=[]) (B:=[]) rfl U353 U9 rfl rfl rfl hI Yg bRD fun hJ hK hN=>Za rfl<|We ?_;exact aE rfl fun D hD=>⟨qm,hJ,hK,rfl,rfl,hN⟩
end L12
namespace C12
abbrev eJ:=aO→List Int→Except Int aO
def mA(s:aO)(r:C1.dO):aO:={s with row:=r}
def iG(s:aO)(t:C2.aW):aO:={s with table:=t}
def oY(s:aO)(b:C3.bA):aO:={s with book:=b}
def kR(s:aO)(y:C7.bC):aO:={s with yard:=y}
def i6(p:C7.Pt)(i:Nat)(v:Int):C7.Pt:=if i=0 then {p with a:=v}else if i=1 then {p with b:=v}else {p with c:=v}
def zY:eJ:=fun s _=>if 7≤(s.row.places.length:Int)then .error 3 else .ok (mA s {s.row with places:=s.row.places++[2]})
def Y1:eJ:=fun s n=>match n with
 | [a,b]=>if(s.row.places.length:Int)≤a then .error 7 else if 2<b then .error 2 else .ok (mA s {s.row with places:=s.row.places.set a.toNat b})
 |_=>.error 4
def pJ(back:Bool):eJ:=fun s n=>match n with
 | [a,b]=>if(s.row.places.length:Int)<a∨9<b then .error 2 else if 6≤(s.row.counts.length:Int)then .error 3 else .ok (mA s {s.row with counts:=s.row.counts++[⟨back,a,b⟩]})
 |_=>.error 4
def qY:eJ:=fun s n=>match n with
 | [a]=>if(s.row.counts.length:Int)≤a then .error 7 else .ok (mA s {s.row with counts:=s.row.counts.eraseIdx a.toNat})
 |_=>.error 4
def A8:eJ:=fun s n=>match n with
 | [a]=>if 6<a then .error 2 else .ok (mA s {s.row with wrong:=a})
 |_=>.error 4
def NN:eJ:=fun s n=>match n with
 | [a]=>if 9<a then .error 2 else .ok (mA s {s.row with off:=a})
 |_=>.error 4
def o9:eJ:=fun s n=>match n with
 | [a,b,c]=>if(s.table.heights.length:Int)≤a then .error 7 else if c<b∨99<c∨b+2<c then .error 2 else .ok (iG s {s.table with heights:=s.table.heights.set a.toNat (b,c)})
 |_=>.error 4
def Z8:eJ:=fun s n=>match n with
 | [a]=>if 99<a then .error 2 else .ok (iG s {s.table with step:=a})
 |_=>.error 4
def B6:eJ:=fun s n=>match n with
 | [a]=>if 99<a then .error 2 else if 6≤(s.table.levels.length:Int)then .error 3 else .ok (iG s {s.table with levels:=s.table.levels++[a]})
 |_=>.error 4
def zW:eJ:=fun s n=>match n with
 | [a,b]=>if(s.table.levels.length:Int)≤a then .error 7 else if 99<b then .error 2 else .ok (iG s {s.table with levels:=s.table.levels.set a.toNat b})
 |_=>.error 4
def G5:eJ:=fun s n=>match n with
 | [a,b,c,d]=>if(s.table.heights.length:Int)≤max a b then .error 7 else if b<a then .error 2 else if d<c∨99<d then .error 2 else if 5≤(s.table.marks.length:Int)then .error 3 else .ok (iG s {s.table with marks:=s.table.marks++[⟨a,b,c,d⟩]})
 |_=>.error 4
def tJ:eJ:=fun s n=>match n with
 | [a]=>if(s.table.marks.length:Int)≤a then .error 7 else .ok (iG s {s.table with marks:=s.table.marks.eraseIdx a.toNat})
 |_=>.error 4
def pL(kind:Int):eJ:=fun s n=>match n with
 | [a,b]=>if s.book.chairs≤max a b then .error 7 else if 8≤(s.book.lines.length:Int)then .error 3 else .ok (oY s {s.book with lines:=s.book.lines++[⟨kind,a,b⟩]})
 |_=>.error 4
def qJ:eJ:=fun s n=>match n with
 | [a]=>match s.book.lines[a.toNat]? with
  |none=>.error 7
  |some l=>if l.token= -1 then .error 6 else .ok (oY s {s.book with lines:=s.book.lines.set a.toNat {l with token:= -1}})
 |_=>.error 4
def tR:eJ:=fun s n=>match n with
 | [a]=>if(s.book.lines.length:Int)≤a then .error 7 else .ok (oY s {s.book with lines:=s.book.lines.eraseIdx a.toNat})
 |_=>.error 4
def tZ:eJ:=fun s n=>match n with
 | [a,b,c,d]=>if 9<a∨2<max (max b c) d then .error 2 else if 5≤(s.yard.chairs.length:Int)then .error 3 else .ok (kR s {s.yard with chairs:=s.yard.chairs++[⟨a,⟨b,c,d⟩⟩]})
 |_=>.error 4
def vT:eJ:=fun s n=>match n with
 | [a,b,c]=>match s.yard.chairs[a.toNat]? with
  |none=>.error 7
  |some x=>if 3≤b then .error 7 else if 2<c then .error 2 else .ok (kR s {s.yard with chairs:=s.yard.chairs.set a.toNat {x with parts:=i6 x.parts b.toNat c}})
 |_=>.error 4
def PM:eJ:=fun s n=>match n with
 | [a]=>if 9<a then .error 2 else .ok (kR s {s.yard with fit:=a})
 |_=>.error 4
def C9:eJ:=fun s n=>match n with
 | [a,b]=>if b<a∨7<b then .error 2 else if 5≤(s.yard.claims.length:Int)then .error 3 else .ok (kR s {s.yard with claims:=s.yard.claims++[(a,b)]})
 |_=>.error 4
def qH:eJ:=fun s n=>match n with
 | [a]=>if(s.yard.claims.length:Int)≤a then .error 7 else .ok (kR s {s.yard with claims:=s.yard.claims.eraseIdx a.toNat})
 |_=>.error 4
open Go.Lib
def pX:List UInt8→List (List UInt8)
 | []=>[[]]
 |b::l=>if b=32 then []::pX l else match pX l with
  | []=>[[b]]
  |p::ps=>(b::p)::ps
theorem bBJ(l:List UInt8):pX l≠[]:=by
 cases l with
 |nil=>simp[pX]
 |cons b l=>unfold pX;split;simp;split<;>simp
theorem Q0:∀{l:List UInt8},(32:UInt8)∉l→pX l=[l]
 | [],_=>rfl
 |b::l,h=>by
  simp only[bLO,bQX]at h;unfold pX;rw[bLX fun e=>h.1 e.symm,Q0 h.2]
theorem j6:∀{l:List UInt8} {i:Nat},l[i]?= some 32→(32:UInt8)∉l.take i→pX l=l.take i::pX (l.drop (i+1))
 | [],i,h,_=>by simp at h
 |b::l,0,h,_=>by
  obtain rfl:b=32:=by simpa using h
  simp[pX]
 |b::l,i+1,h,hn=>by
  simp only[List.take_succ_cons,bLO,bQX]at hn;rw[pX,bLX fun e=>hn.1 e.symm,j6 Yax hn.2];simp
theorem R6{l:List UInt8}{i:Nat}{c:UInt8}:occAt l [c] i=true ↔ l[i]?= some c:=by
 unfold occAt;by_cases h:i<l.length
 ·rw[bNC h,bLR h];simp only[List.isPrefixOf,Bool.and_true,bQR,bPV];exact eq_comm
 ·rw[bNK Yd,bOP Yd];simp[List.isPrefixOf]
theorem RV:∀(n:Nat) (l:List UInt8),l.length≤n→splitK [32] 0 (count l [32]) l=pX l:=by
 intro n;induction n with
 |zero=>
  intro l hl;obtain rfl:l=[]:=bOL Yd;rfl
 |succ n ih=>
  intro l hl;rcases index_spec l [32]with⟨h1,h2⟩|⟨i,h1,h2,h3,h4⟩
  ·rw[count_miss h1];refine(Q0 fun hm=>?_).symm;obtain⟨i,hi⟩:=bPP.1 hm;have:=h2 i (by have:=(bLS.1 hi).1;omega)
   rw[R6.2 hi]at this;cases this
  ·have hi:=R6.1 h3;rw[count_hit Yf h1,Nat.add_comm 1,splitK,bLX (by rw[h1];simp),h1]
   have hdl:(l.drop (i+1)).length≤n:=by
    have:=(bLS.1 hi).1;rw[bOS];omega
   simp only[bNI,bRC,bOD];rw[ih _ hdl];refine(j6 hi fun hm=>?_).symm;obtain⟨j,hj⟩:=bPP.1 hm;have hjl:=(bLS.1 hj).1;rw[bNT]at hjl;rw[bOU Yd]at hj;have:=h4 j Yd;rw[R6.2 hj]at this;cases this
def LS(l:List UInt8):Λ:=⟨l.toArray⟩
theorem yO(s:Λ):LS s.data.toList=s:=Go.WideShapes.bytes_inj rfl
def eC(s:Λ):List Λ:=(pX s.data.toList).map LS
theorem XN(s:Λ):splitB ⟨#[32]⟩ 0 (countB s ⟨#[32]⟩) s=eC s:=by
 have h:=splitB_data ⟨#[32]⟩ 0 (countB s ⟨#[32]⟩) s;have h2:splitK [32] 0 (count s.data.toList [32]) s.data.toList=pX s.data.toList:=RV _ _ (bMH _);have h3:(splitB ⟨#[32]⟩ 0 (countB s ⟨#[32]⟩) s).map (·.data.toList)=pX s.data.toList:=h.trans h2;unfold eC;rw[←h3,bQC];refine(List.map_id _).symm.trans (bQN fun x _=>?_);exact(yO x).symm
theorem SO(s:Λ):countB s ⟨#[32]⟩+1=(eC s).length:=by
 have key:∀(n:Nat) (l:List UInt8),l.length≤n→count l [32]+1=(pX l).length:=by
  intro n;induction n with
  |zero=>intro l hl;obtain rfl:l=[]:=bOL Yd;rfl
  |succ n ih=>
   intro l hl;rcases index_spec l [32]with⟨h1,h2⟩|⟨i,h1,h2,h3,h4⟩
   ·rw[count_miss h1,Q0 fun hm=>?_]
    ·rfl
    ·obtain⟨i,hi⟩:=bPP.1 hm;have:=h2 i (by have:=(bLS.1 hi).1;omega)
     rw[R6.2 hi]at this;cases this
   ·have hi:=R6.1 h3;have hdl:(l.drop (i+1)).length≤n:=by
     have:=(bLS.1 hi).1;rw[bOS];omega
    rw[j6 hi fun hm=>?_,bLU,←ih _ hdl,count_hit Yf h1]
    ·simp only[bOD];omega
    ·obtain⟨j,hj⟩:=bPP.1 hm;have hjl:=(bLS.1 hj).1;rw[bNT]at hjl;rw[bOU Yd]at hj;have:=h4 j Yd;rw[R6.2 hj]at this;cases this
 unfold eC;rw[bNE];exact key _ _ (bMH _)
theorem MX(l:List UInt8):(pX l).length≤l.length+1:=by
 induction l with
 |nil=>simp[pX]
 |cons b l ih=>
  unfold pX;split
  ·simp;omega
  ·split
   ·simp
   ·rename_i p ps e;rw[e]at ih;simpa using Nat.le_succ_of_le ih
theorem aJO{l p:List UInt8}(h:p∈pX l):p.length≤l.length:=by
 induction l generalizing p with
 |nil=>simp[pX]at h;subst h;simp
 |cons b l ih=>
  unfold pX at h;split at h
  ·rcases bLO.1 h with rfl|h
   ·simp
   ·exact Nat.le_succ_of_le (ih h)
  ·split at h
   ·simp only[bMI]at h;subst h;simp
   ·rename_i q qs e;rcases bLO.1 h with rfl|h
    ·have:=ih (p:=q) (by rw[e];simp);simpa using this
    ·exact Nat.le_succ_of_le (ih (by rw[e];exact LE _ h))

def rV(l:List UInt8):Option Int:=if l.length≤3∧(l.head?≠some 48∨l.length=1)then(decNat l).map fun(n:Nat)=>(n:Int)else none
def aZU(l:List UInt8):Option Int:=match atoiAll l with
 |.ok v=>if 0≤v∧l.length≤3∧itoa v=l then some v else none
 |_=>none
theorem yQ{b:UInt8}{d:Nat}(h:digitVal b=some d):d<10∧b=UInt8.ofNat (48+d):=by
 unfold digitVal at h;split at h
 ·cases h;refine⟨Yd,?_⟩;rw[show 48+(b.toNat-48)=b.toNat by omega];simp
 ·cases h
theorem KR{a b:Nat}(ha:a<256)(hb:b<256)(h:UInt8.ofNat a=UInt8.ofNat b):a=b:=by
 have:=bLZ UInt8.toNat h;simp only[UInt8.toNat_ofNat']at this;omega
theorem aKH{u:Nat}(h:u<10):decDigits u=[UInt8.ofNat (48+u)]:=by rw[decDigits,dif_pos h]
theorem bFI{u:Nat}(h:10≤u)(h2:u<100):decDigits u=[UInt8.ofNat (48+u / 10),UInt8.ofNat (48+u%10)]:=by rw[decDigits,dif_neg Yd,aKH Yd];rfl
theorem bLI{u:Nat}(h:100≤u)(h2:u<1000):decDigits u=[UInt8.ofNat (48+u / 10 / 10),UInt8.ofNat (48+u / 10%10),UInt8.ofNat (48+u%10)]:=by rw[decDigits,dif_neg Yd,bFI Yd Yd];rfl
theorem m7(u:Nat):itoa (u:Int)=decDigits u:=by unfold itoa;rw[bLX Yd,bNI]
theorem aGN{u:Nat}{b:UInt8}(h:b∈decDigits u):48≤b.toNat∧b.toNat≤57:=by
 induction u using Nat.strongRecOn with
 |_ u ih=>
  by_cases hu:u<10
  ·rw[aKH hu]at h;simp only[bMI]at h;subst h
   simp only[UInt8.toNat_ofNat'];omega
  ·rw[decDigits,dif_neg hu,bMD,bMI]at h;rcases h with h|h
   ·exact ih _ Yd h
   ·subst h;simp only[UInt8.toNat_ofNat'];omega
theorem aCH(l:List UInt8):aZU l=rV l:=by
 unfold aZU rV;by_cases hl:l.length≤3
 ·rw[atoiAll_short l Yd];match l,hl with
  | [],_=>rfl
  |b::r,hl=>
   have hat:atoi (b::r)=if(b==45)=true then(decNat r).map fun(m:Nat)=> -(m:Int)else if(b==43)=true then(decNat r).map fun(m:Nat)=>(m:Int)else(decNat (b::r)).map fun(m:Nat)=>(m:Int):=rfl
   rw[hat];by_cases O:b=45
   ·subst O;have hd:decNat (45::r)=none:=by unfold decNat decFrom digitVal;simp
    rw[hd];simp only[beq_self_eq_true,bOC,bOG,ite_self];cases decNat r with
    |none=>rfl
    |some m=>
     simp only[bNL,NumEnd.ofOption];rw[bLX];rintro⟨h1,h2,h3⟩;obtain rfl:m=0:=by omega
     have h4:itoa (-((0:Nat):Int))=[48]:=by rw[show(-((0:Nat):Int))=((0:Nat):Int) by omega,m7,aKH Yd];rfl
     rw[h4]at h3;simp at h3
   ·rw[bLX (by simpa using O)];by_cases R:b=43
    ·subst R;have hd:decNat (43::r)=none:=by unfold decNat decFrom digitVal;simp
     rw[hd];simp only[beq_self_eq_true,bOC,bOG,ite_self];cases decNat r with
     |none=>rfl
     |some m=>
      simp only[bNL,NumEnd.ofOption];rw[bLX];rintro⟨h1,h2,h3⟩;rw[m7]at h3;have:=aGN (u:=m) (b:=43) (by rw[h3];simp)
      simp at this
    ·rw[bLX (by simpa using R)];have hnone:decNat (b::r)=none→_:=fun h=>h
     cases hd:decNat (b::r)with
     |none=>simp only[bOG,ite_self];rfl
     |some m=>
      simp only[bNL,NumEnd.ofOption];have key:(0≤(m:Int)∧(b::r).length≤3∧itoa (m:Int)=b::r) ↔ ((b::r).length≤3∧((b::r).head?≠some 48∨(b::r).length=1)):=by
       rw[m7];unfold decNat at hd;match r,hl with
       | [],_=>
        simp only[List.isEmpty_cons,bNN,bOO,decFrom]at hd;cases h1:digitVal b with
        |none=>rw[h1]at hd;cases hd
        |some I=>
         rw[h1]at hd;simp only[bPV]at hd;obtain⟨U,rfl⟩:=yQ h1;obtain rfl:I=m:=by omega
         rw[aKH U];simp
       | [b2],_=>
        simp only[List.isEmpty_cons,bNN,bOO,decFrom]at hd;cases h1:digitVal b with
        |none=>rw[h1]at hd;cases hd
        |some I=>
         cases h2:digitVal b2 with
         |none=>rw[h1,h2]at hd;cases hd
         |some d2=>
          rw[h1,h2]at hd;simp only[bPV]at hd;obtain⟨U,rfl⟩:=yQ h1;obtain⟨k2,rfl⟩:=yQ h2;by_cases z:I=0
          ·subst z;rw[aKH Yd];simp
          ·rw[bFI Yd Yd,show m / 10=I by omega,show m%10=d2 by omega];have:UInt8.ofNat I≠0:=fun e=>z (KR (a:=I) (b:=0) Yd Yd e)
           simp[this]
       | [b2,V],_=>
        simp only[List.isEmpty_cons,bNN,bOO,decFrom]at hd;cases h1:digitVal b with
        |none=>rw[h1]at hd;cases hd
        |some I=>
         cases h2:digitVal b2 with
         |none=>rw[h1,h2]at hd;cases hd
         |some d2=>
          cases h3:digitVal V with
          |none=>rw[h1,h2,h3]at hd;cases hd
          |some Y=>
           rw[h1,h2,h3]at hd;simp only[bPV]at hd;obtain⟨U,rfl⟩:=yQ h1;obtain⟨k2,rfl⟩:=yQ h2;obtain⟨Z,rfl⟩:=yQ h3;by_cases z:I=0
           ·subst z;by_cases z2:m<10
            ·rw[aKH z2];simp
            ·rw[bFI Yd Yd];simp
           ·rw[bLI Yd Yd,show m / 10 / 10=I by omega,show m / 10%10=d2 by omega,show m%10=Y by omega];have:UInt8.ofNat I≠0:=fun e=>z (KR (a:=I) (b:=0) Yd Yd e)
            simp[this]
      by_cases hk:(b::r).length≤3∧((b::r).head?≠some 48∨(b::r).length=1)
      ·rw[bMG hk,bMG (key.2 hk)]
      ·rw[bLX hk,bLX (fun h=>hk (key.1 h))]
 ·rw[bLX (fun h=>hl h.1)];split
  ·rw[bLX (fun h=>hl h.2.1)]
  ·rfl
theorem aAD{l:List UInt8}{n:Int}(h:rV l=some n):0≤n∧n≤999∧itoa n=l:=by
 have h2:=h;rw[←aCH]at h2;unfold aZU at h2;split at h2
 ·split at h2
  ·rename_i v _ hc;cases h2;refine⟨hc.1,?_,hc.2.2⟩;by_cases hb:n≤999
   ·exact hb
   ·exfalso
    obtain⟨u,rfl⟩:∃u:Nat,n=(u:Int):=⟨n.toNat,Yd⟩
    have h3:=hc.2.2;rw[m7]at h3;have h4:4≤(decDigits u).length:=by
     rw[decDigits,dif_neg Yd,decDigits,dif_neg Yd,decDigits,dif_neg Yd,decDigits];split<;>simp
    rw[h3]at h4;omega
  ·cases h2
 ·cases h2

def kU:List (List UInt8×Nat×eJ):=[
 ([112,108,97,99,101],0,zY),
 ([115,101,101,110],2,Y1),
 ([99,111,117,110,116],2,pJ false),
 ([98,97,99,107],2,pJ true),
 ([117,110,99,111,117,110,116],1,qY),
 ([119,114,111,110,103],1,A8),
 ([111,102,102],1,NN),
 ([116,105,100,101],3,o9),
 ([115,116,101,112],1,Z8),
 ([108,101,118,101,108],1,B6),
 ([114,97,105,115,101],2,zW),
 ([109,97,114,107],4,G5),
 ([117,110,109,97,114,107],1,tJ),
 ([104,105,114,101],2,pL 1),
 ([98,114,105,110,103],2,pL 2),
 ([115,109,117,100,103,101],1,qJ),
 ([115,116,114,105,107,101],1,tR),
 ([98,114,111,107,101,110],4,tZ),
 ([112,97,114,116],3,vT),
 ([102,105,116],1,PM),
 ([99,108,97,105,109],2,C9),
 ([117,110,99,108,97,105,109],1,qH)]
def jM(line:Λ):Option (eJ×List Int):=
 match pX line.data.toList with
 | []=>none
 |p::ps=>match kU.find? (fun x=>x.1==p)with
  |none=>none
  |some (_,k,act)=>if ps.length=k then(ps.mapM rV).map fun n=>(act,n)else none

structure lT(s:aO):Prop where
 pl:s.row.places.length≤7
 ct:s.row.counts.length≤6
 ht:s.table.heights.length=4
 lev:s.table.levels.length≤6
 mks:s.table.marks.length≤5
 ln:s.book.lines.length≤8
 ch:s.yard.chairs.length≤5
 cl:s.yard.claims.length≤5
 bc:s.book.chairs=3
def bKJ(f:eJ):Prop:=∀s n s',lT s→f s n=.ok s'→lT s'
theorem aAH:∀x∈kU,bKJ x.2.2:=by
 intro x hx s n s' h e;obtain⟨h1,h2,h3,h4,h5,I,O,h8,R⟩:=h;simp only[kU,bLO,n4,bNV]at hx;rcases hx with rfl|rfl|rfl|rfl|rfl|rfl|rfl|rfl|rfl|rfl|rfl|rfl|rfl|rfl|rfl|rfl|rfl|rfl|rfl|rfl|rfl|rfl;all_goals simp only[zY,Y1,pJ,qY,A8,NN,o9,Z8,B6,zW,G5,tJ,pL,qJ,tR,tZ,vT,PM,C9,qH]at e
 all_goals repeat' split at e
 all_goals cases e
 all_goals refine⟨?_,?_,?_,?_,?_,?_,?_,?_,?_⟩
 all_goals simp only[mA,iG,oY,kR]
 all_goals first|assumption|(simp<;>omega)|(simp only[List.length_eraseIdx];split<;>omega)
end C12
abbrev Cx.push(X:Cx)(dd:Deferred):Cx:={X with ds:=dd::X.ds}
theorem bBQ{c:Operand}{f:FuncId}{c1 c2:List Γ}{ats:Array Θ}(ho:all[ix]?= some ⟨none,.defer {callee:=.value c,args:=#[],argTypes:=ats},ty,pos,aft,g⟩)(hX:X.r=none)(hc:ev σ c=some (.func (.func f) c1.toArray c2.toArray))(hg:cZ all σ g)
  (k:WL P (X.push ⟨.fn (.func f) c2.toArray,c1.toArray⟩) bad all K Q os σ μ Ds):WL P X bad all K Q ((false,ix)::os) σ μ Ds:=by
 intro a w hh;rw[C5 ho];have hq:kX (Op.defer {callee:=.value c,args:=#[],argTypes:=ats})=false:=rfl;simp only[vG,hq,bNN,bOO];unfold W7;rw[bMG (hh.wanted hg)];refine⟨fun _ _=>trivial,?_⟩;have e:(Oper.semAt (FW X.r).round a.eval ⟨none,.defer {callee:=.value c,args:=#[],argTypes:=ats},ty,pos,aft,g⟩).run P w=.ok (.defer ⟨.fn (.func f) c2.toArray,c1.toArray⟩) w:=by
  rw[hX];show(Oper.semAt none a.eval _).run P w=_;rw[Oper.semAt_none];simp only[execOp,resolve,hh.eval hc,Deferred.ofValue,Array.map_empty,Array.append_empty];rfl
 rw[e];obtain⟨h1,h2,h3,D,h4,h5,I⟩:=hh;exact⟨fun h=>Xad,k _ _ ⟨h1,h2,by simp[Act.put,h3],D,h4,h5,I⟩⟩
theorem bIR{f:FuncId}{fn:Func}{c:Code}{args:List Γ}{D:aC}{post:aC→Γ→Prop}(N:Nat)(hf:P.funcs[f]?= some fn)(hn:(fn.name== "runtime.NumGoroutine")=false)(hb:fn.body=some c)(hN:fn.ntmps=N)(hsz:Nat.ble args.length N=true)
  (h:∀h0:H0,WC P ⟨none,N,[],h0,h0.size,D,[],none⟩ (bodyPostDIn (FW none) 0 P fn (rE ⟨none,N,[],h0,h0.size,D,[],none⟩ fun D' v _=>post D' v)) c (jJ 0 args) [] [D]):Fn P f args.toArray D post:=by
 refine⟨EF.of hf hn hb,fun w hw=>?_⟩;subst hN;have hsz:=bNZ hsz;refine(dZ (r:=none) (n:=0)).1 ((callsIn_of_wp_defers (R:=rE ⟨none,fn.ntmps,[],hd w,w.heap.size,D,[],none⟩ fun D' v _=>post D' v) hf hb bRD (h (hd w) _ w ⟨?_,fun s v hs=>?_,rfl,D,⟨bMH _,bMH _,fun _ _ _=>rfl,fun _ _=>rfl,hw,Yi,bNW,Yi,fun e he=>bMQ he⟩,fun D₁ h1=>?_,bRD⟩) rfl).mono ?_)
 ·simp;omega
 ·obtain⟨_,h2⟩:=gR args 0 s v hs;have hl:=(bLS.1 h2).1;simp only[bPU]at h2 hl;show(args.toArray++_)[s]?= some v;rw[bON Yay];simpa using h2
 ·simp only[bMI]at h1;subst h1;exact Le.refl _
 ·rintro e w' ⟨v,D',μ',rfl,hs,hp⟩;exact⟨v,D',rfl,hs.sub (by intro p hp;cases hp) bNW,hp⟩
def IV(P:Program)(f:FuncId)(args:List Γ)(D:aC)(ν:aD)(u u2:FrameMode)(post:aC→aD→Prop):Prop:=
 EF P f∧∀w,fR D w→(∀p∈ν,w.heap[p.1]?= some p.2∧D p.1=[]∧dE p.2)→ν.ks.Nodup→CallsDIn (FW none) 0 P f args.toArray u w fun e u' w'=>∃v D' ν',e=.returned v∧u'=u2∧iX (hd w) w.heap.size D ν.ks ν' D' w'∧post D' ν'
theorem aDA{fn:Func}{post:aC→Γ→aD→Prop}{dpost:aC→aD→Prop}{A B ν:aD}{f:FuncId}{c1 c2:List Γ}{u u2:FrameMode}{rs:List ResultVar}(hu:u≠.run)(hds:X.ds=[⟨.fn (.func f) c2.toArray,c1.toArray⟩])(hex:X.ex=none)(hun:∀p∈ν,dE p.2)
  (hf:∀D,(∀D₁∈Ds,Le D₁ D)→IV P f (c1++c2) D ν u u2 dpost) (hst:settle u2=.returning) (hr:fn.results=rs.toArray)
  (h:∀D ν',(∀D₁∈Ds,Le D₁ D)→dpost D ν'→∃vs,G9 P X σ (A++ν'++B) rs vs∧post D (rG vs) (A++ν'++B)):∀a w,Hl X σ (A++ν++B) Ds a w→LeavesIn (FW none) 0 P fn a.tmps (rE X post) a.defers u w:=by
 intro a w hh;obtain⟨h1,h2,h3,D,h4,h5,I⟩:=id hh;rw[h3,hds];have hF:=hf D h5;have hbx:∀p∈ν,_:=fun p hp=>h4.box p (bMA _ (GT _ hp))
 have hnd:=h4.nd;simp only[bME]at hnd;refine leavesIn_cons hu (fun hh=>by simp[FW]at hh) (f:=f) (args:=(c1++c2).toArray) ?_ (fun _ _=>trivial) ?_
 ·show(callFunc f (c1.toArray++c2.toArray)).run P w=_;rw[hF.1];simp
 ·refine(hF.2 w h4.agr (fun p hp=>⟨(hbx p hp).1,(hbx p hp).2.1,hun p hp⟩) (bMB.1 (bMB.1 hnd).1).2.1).mono ?_;rintro e u' w' ⟨v,D',ν',rfl,rfl,hs,hp⟩;have hle:=hU h4.agr hs;have h5':∀D₁∈Ds,Le D₁ D':=fun D₁ hD₁=>(h5 D₁ hD₁).trans hle
  obtain⟨vs,hv,hpost⟩:=h D' ν' h5' hp;have hh':Hl X σ (A++ν'++B) Ds a w':=⟨h1,h2,h3,D',h4.afterG hs,h5',Xaz⟩
  show LeavesIn (FW none) 0 P fn a.tmps (rE X post) [] (settle u') w';rw[hst];exact⟨_,jE hh' hr hv,_,D',_,rfl,h4.afterG hs,hpost⟩
theorem bID{fn:Func}{post:aC→Γ→aD→Prop}{dpost:aC→aD→Prop}{A B ν:aD}{f:FuncId}{c1 c2:List Γ}{rs:List ResultVar}{e:Exit}(he:(match e with|.normal=>true|.ret=>true|_=>false)=true)(hds:X.ds=[⟨.fn (.func f) c2.toArray,c1.toArray⟩])(hex:X.ex=none)(hun:∀p∈ν,dE p.2)
  (hf:∀D,(∀D₁∈Ds,Le D₁ D)→IV P f (c1++c2) D ν .returning .returning dpost) (hr:fn.results=rs.toArray)
  (h:∀D ν',(∀D₁∈Ds,Le D₁ D)→dpost D ν'→∃vs,G9 P X σ (A++ν'++B) rs vs∧post D (rG vs) (A++ν'++B)):∀a w,Hl X σ (A++ν++B) Ds a w→bodyPostDIn (FW none) 0 P fn (rE X post) e a w:=by
 intro a w hh;have:=aDA (u:=.returning) (u2:=.returning) Yf hds hex hun hf rfl hr h a w hh;cases e<;>first|exact this|cases he
theorem ML{fn:Func}{post:aC→Γ→aD→Prop}{dpost:aC→aD→Prop}{A B ν:aD}{f:FuncId}{c1 c2:List Γ}{rs:List ResultVar}{v:Γ}(hds:X.ds=[⟨.fn (.func f) c2.toArray,c1.toArray⟩])(hex:X.ex=none)(hun:∀p∈ν,dE p.2)
  (hf:∀D,(∀D₁∈Ds,Le D₁ D)→IV P f (c1++c2) D ν (.panicking (oP v)) (.panicking [{v,recovered:=true}]) dpost) (hr:fn.results=rs.toArray)
  (h:∀D ν',(∀D₁∈Ds,Le D₁ D)→dpost D ν'→∃vs,G9 P X σ (A++ν'++B) rs vs∧post D (rG vs) (A++ν'++B)):∀a w,Hl X σ (A++ν++B) Ds a w→bodyPostDIn (FW none) 0 P fn (rE X post) (.panic (oP v)) a w:=
 fun a w hh=>aDA Yf hds hex hun hf rfl hr h a w hh
theorem aOX{f:FuncId}{fn:Func}{id t:Nat}{y:Code}{args:List Γ}{D:aC}{ν:aD}{u u2:FrameMode}{rv:Γ}{dpost:aC→aD→Prop}{ats:Array Θ}(N:Nat)(hf:P.funcs[f]?= some fn)(hn:(fn.name== "runtime.NumGoroutine")=false)
  (hb:fn.body=some (.seq (.region id #[⟨some t,.call {callee:=.builtin .recover,args:=#[],argTypes:=ats},ty,pos,aft,none⟩] false) y)) (hN:fn.ntmps=N) (hsz:Nat.ble args.length N=true) (ht:Nat.blt t N=true)
  (hrec:∀(c₀:Frame) (cs:List Frame),c₀.mode=u→(recoverD (c₀::cs)=some (rv,{c₀ with mode:=u2}::cs))∨(recoverD (c₀::cs)=none∧rv=.nilIface∧u2=u))
  (h:∀h0:H0,(∀p∈ν,p.1<h0.size)→ν.ks.Nodup→WC P (sP N h0 D ν.ks) (bodyPost P fn (BW (sP N h0 D ν.ks) (fun D' _ ν'=>dpost D' ν') fun _=>False)) y ((t,rv)::jJ 0 args) ν [D]):IV P f args D ν u u2 dpost:=by
 refine⟨EF.of hf hn hb,fun w hw hν hnd=>?_⟩;subst hN;have hsz:=bNZ hsz;refine callsDIn_of_wpSIn hf hb bRD fun c₀ cs hm=>?_
 have hcs:({c₀ with mode:=u}:Frame)=c₀:=by subst hm;rfl
 have hH:Hl (sP fn.ntmps (hd w) D ν.ks) (jJ 0 args) ν [D] {tmps:=args.toArray++Array.replicate (fn.ntmps-args.toArray.size) undef,defers:=[]} w:=by
  refine⟨?_,fun s v hs=>?_,rfl,D,⟨bMH _,bMH _,fun _ _ _=>rfl,fun _ _=>rfl,hw,(fun p hp=>?_),hnd,(fun p hp=>(hν p hp).2.2),fun e he=>bMQ he⟩,fun D₁ h1=>?_,bRD⟩
  ·simp[sP];omega
  ·obtain⟨_,h2⟩:=gR args 0 s v hs;have hl:=(bLS.1 h2).1;simp only[bPU]at h2 hl;show(args.toArray++_)[s]?= some v;rw[bON Yay];simpa using h2
  ·exact⟨(hν p hp).1,(hν p hp).2.1,bLY (GE.2 ⟨p,hp,rfl⟩)⟩
  ·simp only[bMI]at h1;subst h1;exact Le.refl _
 have key:=h (hd w) (fun p hp=>bO (hν p hp).1) hnd _ w (hH.put ht rv);refine wpSIn_seq (wpSIn_region ?_);have hex:∀ρ:Operand→Γ,(execOp ρ ⟨some t,.call {callee:=.builtin .recover,args:=#[],argTypes:=ats},ty,pos,aft,none⟩).run P w=.ok .recover w:=fun ρ=>by
  simp only[execOp,resolve,Array.map_empty];rfl
 have fin:∀cs',cs'=({c₀ with mode:=u2}:Frame)::cs→(y.wpSIn (FW none) 0 P (bodyPostS P fn c₀ cs fun e u' w'=>∃v D' ν',e=.returned v∧u'=u2∧iX (hd w) w.heap.size D ν.ks ν' D' w'∧dpost D' ν')
   (Act.put {tmps:=args.toArray++Array.replicate (fn.ntmps-args.toArray.size) undef,defers:=[]} (some t) rv) cs' w):=by
  rintro cs' rfl;refine wpSIn_of_wpIn rfl (wpIn_mono key fun e a w' hq=>?_);cases e with
  |normal|ret=>
   obtain⟨hd',v,hr,hR⟩:=hq;rcases hR with⟨v',D',ν',he,hs,hp⟩|⟨_,_,_,_,hp⟩
   ·exact⟨hd',u2,rfl,v,hr,v',D',ν',he,rfl,hs,hp⟩
   ·exact hp.elim
  |panic ch=>
   obtain⟨hd',hR⟩:=hq;rcases hR with⟨v',D',ν',he,hs,hp⟩|⟨_,_,_,_,hp⟩
   ·cases he
   ·exact hp.elim
  |outgrown=>
   rcases hq with⟨v',D',ν',he,hs,hp⟩|⟨_,_,_,_,hp⟩
   ·cases he
   ·exact hp.elim
  |exit=>exact hq.elim
  |goto=>exact hq.elim
 show wpOpsSIn (FW none) 0 P _ _ [0] _ _ _;simp only[wpOpsSIn,List.getElem?_toArray,List.getElem?_cons_zero];refine⟨fun _ _=>trivial,?_⟩;rw[bMG Ybb,hex];rcases hrec c₀ cs hm with hr|⟨hr,rfl,rfl⟩
 ·simp only[hr];exact fin _ rfl
 ·simp only[hr];exact fin _ (by rw[hcs])
theorem aUT{c₀:Frame}{cs:List Frame}(hm:c₀.mode=.returning):recoverD (c₀::cs)=none:=by simp[recoverD,hm]
theorem aTJ{c₀:Frame}{cs:List Frame}{v:Γ}(hm:c₀.mode=.panicking (oP v)):recoverD (c₀::cs)=some (v,{c₀ with mode:=.panicking [{v,recovered:=true}]}::cs):=by simp[recoverD,hm,oP]
theorem kF.reorder{f:FuncId}{args:List Γ}{D:aC}{ν ν2:aD}{post post':aC→Γ→aD→Prop}{pan pan':Γ→Prop}(h:kF P f args D ν post pan)(hp:ν.Perm ν2)(h1:∀D' v ν',Le D D'→post D' v ν'→∃ν'',ν''.Perm ν'∧post' D' v ν'')(h2:∀v,pan v→pan' v):kF P f args D ν2 post' pan':=by
 refine⟨h.1,fun w hw hν hn=>(h.2 w hw (fun p hp'=>hν p (hp.mem_iff.1 hp')) ((hp.map (·.1)).nodup_iff.2 hn)).mono ?_⟩;have hk:∀b,b∉ν2.ks→b∉ν.ks:=fun b hb hm=>hb ((hp.map (·.1)).mem_iff.1 hm)
 rintro e w' (⟨v,D',ν',he,hs,hpost⟩|⟨v,D',he,hs,hpan⟩)
 ·obtain⟨ν'',hq,hpost'⟩:=h1 D' v ν' (hU hw hs) hpost;refine bMF ⟨v,D',ν'',he,⟨hs.hlo,hs.size,fun b hb hm=>hs.old b hb (hk b hm),hs.dold,hs.agr,fun p hp'=>?_,(hq.map (·.1)).nodup_iff.2 hs.nd,fun p hp'=>hs.fz p (hq.mem_iff.1 hp'),hs.env⟩,hpost'⟩;obtain⟨I,k2,O⟩:=hs.box p (hq.mem_iff.1 hp');exact⟨I,k2,O.imp id fun hm=>(hp.map (·.1)).mem_iff.1 hm⟩
 ·exact bLY ⟨v,D',he,⟨hs.hlo,hs.size,fun b hb hm=>hs.old b hb (hk b hm),hs.dold,hs.agr,(fun p hp'=>by cases hp'),bNW,(fun p hp'=>by cases hp'),hs.env⟩,h2 v hpan⟩
theorem oL{I O:aD}(h:∀ [BEq (Nat×Obj)] [LawfulBEq (Nat×Obj)] (a:Nat×Obj),I.count a=O.count a):I.Perm O:=by
 classical
 exact List.perm_iff_count.2 fun a=>h a
def bLB(Q:Exit→Act→Δ→Prop):Exit→Act→Δ→Prop:=fun e a w=>match e with
 |.panic _=>False
 |e=>Q e a w
theorem bHS:NP (bLB Q):=fun _ _ _ h=>h
theorem aLU{c:Code}(h:WC P X (bLB Q) c σ μ Ds):WC P X Q c σ μ Ds:=fun a w hh=>wpIn_mono (h a w hh) fun e a w hq=>by cases e<;>first|exact hq|exact hq.elim
theorem bBR{y:Code}(h:WC P X Q y σ μ Ds):∀a w,Hl X σ μ Ds a w→bLB (Exit.then (y.wpIn (FW X.r) 0 P Q) Q) .normal a w:=h
theorem aII(a b:Λ):(a.toList==b.toList)=decide (a=b):=by
 rw[bOX];simp only[bQR,LT];rw[ByteArray.toList_eq,ByteArray.toList_eq];exact⟨fun h=>Go.WideShapes.bytes_inj h,fun h=>by rw[h]⟩
theorem qX{t t':Θ}{a b:Λ}(ho:all[ix]?= some ⟨some d,.binOp .add t x y t',ty,pos,aft,g⟩)(hx:ev σ x=some (.string a))(hy:ev σ y=some (.string b))(hl:a.size+b.size≤9223372036854775807)(hN:Nat.blt d X.N=true)(hg:cZ all σ g)
  (kk:WL P X bad all K Q os ((d,.string (a++b))::σ) μ Ds):WL P X bad all K Q ((fl,ix)::os) σ μ Ds:=
 cA ho rfl rfl hN hg (fun ρ hρ w'=>by
  have:((do eqGuard .add t x y (.string a) (.string b);binOp .add t (.string a) (.string b)):Sem Γ).run P w'=.ok (.string (a++b)) w':=by
   rw[Ω];have h1:(eqGuard .add t x y (.string a) (.string b)).run P w'=.ok () w':=rfl;rw[h1];show(binOp .add t (.string a) (.string b)).run P w'=_;rw[binOp_string_add];exact run_string_add_sum _ a b hl
  simp only[execOp,hρ x _ hx,hρ y _ hy];rw[Ω,this];rfl) kk
theorem oK{t t':Θ}{a b:Λ}(ho:all[ix]?= some ⟨some d,.binOp .eql t x y t',ty,pos,aft,g⟩)(hx:ev σ x=some (.string a))(hy:ev σ y=some (.string b))(hN:Nat.blt d X.N=true)(hg:cZ all σ g)
  (kk:WL P X bad all K Q os ((d,.bool (decide (a=b)))::σ) μ Ds):WL P X bad all K Q ((fl,ix)::os) σ μ Ds:=
 W0 ho (fun w=>by
  rw[Ω];have h1:(eqGuard .eql t x y (.string a) (.string b)).run P w=.ok () w:=rfl;rw[h1,←aII];show(binOp .eql t (.string a) (.string b)).run P w=_;rw[binOp_string_eql];rfl) hx hy hN hg kk
theorem _root_.Go.Fs.Zav{t:Θ}{t':Θ}{a:Λ}{b:Λ}(e9:(all[ix]?,ev σ x,ev σ y)=(some ⟨some d,.binOp .eql t x y t',ty,pos,aft,g⟩,some (.string a),some (.string b)))(kk:WL P X bad all K Q os ((d,.bool (decide (a=b)))::σ) μ Ds)(hN:Nat.blt d X.N=true:=by exact rfl)(hg:cZ all σ g:=by exact bRD):WL P X bad all K Q ((fl,ix)::os) σ μ Ds:=oK (bLZ (fun z=>z.1) e9) (bLZ (fun z=>z.2.1) e9) (bLZ (fun z=>z.2.2) e9) hN hg kk
theorem rL{t:Θ}{s:Λ}{k:IntKind}{i:Int}{c:UInt8}(ho:all[ix]?= some ⟨some d,.index t x y,ty,pos,aft,g⟩)(ht:P.underlying t=some .string)(hx:ev σ x=some (.string s))(hy:ev σ y=some (.int k i))(h0:0≤i)(hc:s[i.toNat]?= some c)(hN:Nat.blt d X.N=true)(hg:cZ all σ g)
  (kk:WL P X bad all K Q os ((d,.int .u8 c.toNat)::σ) μ Ds):WL P X bad all K Q ((fl,ix)::os) σ μ Ds:=
 cA ho rfl rfl hN hg (fun ρ hρ w'=>by
  simp only[execOp,hρ x _ hx,hρ y _ hy];unfold Instr.index asIntOf;simp only[Ω,TU.of ht w',Ξ,ε,pure_bind,h0,bOC,hc]) kk
theorem ZN{t:Θ}{s:Λ}{I k2:IntKind}{i j:Int}(ho:all[ix]?= some ⟨some d,.slice t x (some y) (some z) none,ty,pos,aft,g⟩)(ht:P.underlying t=some .string)(hx:ev σ x=some (.string s))(hy:ev σ y=some (.int I i))(hz:ev σ z=some (.int k2 j))(h0:0≤i)(h1:i≤j)(h2:j≤(s.size:Int))(hN:Nat.blt d X.N=true)(hg:cZ all σ g)
  (kk:WL P X bad all K Q os ((d,.string (s.extract i.toNat j.toNat))::σ) μ Ds):WL P X bad all K Q ((fl,ix)::os) σ μ Ds:=
 cA ho rfl rfl hN hg (fun ρ hρ w'=>by
  simp only[execOp,hρ x _ hx,hρ y _ hy,hρ z _ hz,bOG,bNL];unfold Instr.sliceAt Instr.slice Instr.sliceBounds Instr.sliceBound asIntOf;have O:0≤i∧i≤((j.toNat:Nat):Int):=by omega
  have a2:0≤j∧j≤(s.size:Int):=by omega
  simp only[Ω,TU.of ht w',Ξ,ε,pure_bind,O,a2,bQT,bOC,Option.isSome_none,bNN,bOO]) kk
theorem RY{t:Θ}{s:Λ}{I:IntKind}{i:Int}(ho:all[ix]?= some ⟨some d,.slice t x (some y) none none,ty,pos,aft,g⟩)(ht:P.underlying t=some .string)(hx:ev σ x=some (.string s))(hy:ev σ y=some (.int I i))(h0:0≤i)(h2:i≤(s.size:Int))(hN:Nat.blt d X.N=true)(hg:cZ all σ g)
  (kk:WL P X bad all K Q os ((d,.string (s.extract i.toNat s.size))::σ) μ Ds):WL P X bad all K Q ((fl,ix)::os) σ μ Ds:=
 cA ho rfl rfl hN hg (fun ρ hρ w'=>by
  simp only[execOp,hρ x _ hx,hρ y _ hy,bOG,bNL];unfold Instr.sliceAt Instr.slice Instr.sliceBounds Instr.sliceBound asIntOf;have O:0≤i∧i≤((s.size:Nat):Int):=by omega
  simp only[Ω,TU.of ht w',Ξ,ε,pure_bind,O,bQT,bOC,Option.isSome_none,bNN,bOO]) kk
def aLB:Γ→Bool
 |.nilIface=>true
 |_=>false
theorem ZT{t t':Θ}{c:Γ}{ms:Array (String×Θ)}(ho:all[ix]?= some ⟨some d,.binOp .eql t x (.const .nilIface) t',ty,pos,aft,g⟩)(ht:P.underlying t=some (.interface ms))(hx:ev σ x=some c)(hc:c=.nilIface∨∃t u,c=.iface t u)(hN:Nat.blt d X.N=true)(hg:cZ all σ g)
  (kk:WL P X bad all K Q os ((d,.bool (aLB c))::σ) μ Ds):WL P X bad all K Q ((fl,ix)::os) σ μ Ds:=
 W0 ho (fun w=>by
  have h1:(eqGuard .eql t x (.const .nilIface) c .nilIface).run P w=.ok () w:=by
   rcases hc with rfl|⟨_,_,rfl⟩
   ·simp only[eqGuard];cases x<;>rfl
   ·rfl
  have h2:(Op.equal t c .nilIface).run P w=.ok (aLB c) w:=by
   show(Op.equalIn (9999+1) t c .nilIface).run P w=_;rw[Op.equalIn,Ω,TU.of ht w];rcases hc with rfl|⟨_,_,rfl⟩<;>rfl
  rw[Ω,h1];have h3:(binOp .eql t c .nilIface).run P w=((do Pure.pure (Value.bool (←Op.equal t c .nilIface))):Sem Γ).run P w:=by rcases hc with rfl|⟨_,_,rfl⟩<;>rfl
  show(binOp .eql t c .nilIface).run P w=_;rw[h3,Ω,h2];rfl) hx rfl hN hg kk
theorem aGS{t t':Θ}{fs:Array Field}(ho:all[ix]?= some ⟨some d,.typeAssert x t' t true,ty,pos,aft,g⟩)(ht:P.underlying t=some (.struct fs))(hx:ev σ x=some (.iface t v))(hN:Nat.blt d X.N=true)(hg:cZ all σ g)
  (kk:WL P X bad all K Q os ((d,.tuple #[v,.bool true])::σ) μ Ds):WL P X bad all K Q ((fl,ix)::os) σ μ Ds:=
 cA ho rfl rfl hN hg (fun ρ hρ w'=>by
  simp only[execOp,hρ x _ hx];unfold Instr.typeAssert;simp only[Ω,TU.of ht w',Ξ,bOC,ε]) kk

theorem Fn.of_below{f:FuncId}{args:Array Γ}{D:aC}{post:aC→Γ→Prop}(hEF:EF P f)(h:∀w,fR D w→Calls P f args w fun en w'=>∃r,en=.returned r∧Go.RowKit.Below w.heap.size w w'∧∀D',Le D D'→post D' r):Fn P f args D post:=by
 refine⟨hEF,fun w hw=>(h w hw).mono ?_⟩;rintro en w' ⟨r,he,hb,hp⟩;refine⟨r,D,he,⟨bMH _,hb.size,fun b hl _=>hb.block b hl,fun _ _=>rfl,hw.of (fun b hb'=>?_) rfl (hb.block 0 hw.pos),Yi,bNW,Yi,fun e he=>by rw[←bMQ he];exact Prod.ext hb.os hb.output⟩,hp D (Le.refl _)⟩
 obtain⟨cs,e,fz,h1,h2⟩:=hw.1 b hb';exact⟨cs,e,fz,by rw[hb.block b (bO h1)];exact h1,h2⟩
theorem LI{α:Type}{R:Rd α}{t e:Θ}{D₁:aC}{ad:Option Addr}{n cap j:Nat}{k:IntKind}{xs:List α}(ho:all[ix]?= some ⟨some d,.slice t x (some y) none none,ty,pos,aft,g⟩)(ht:P.underlying t=some (.slice e))(hs:TS P e 1)(hx:ev σ x=some (.slice ad n cap))(hS:Sl D₁ R 1 (.slice ad n cap) xs)(hy:ev σ y=some (.int k (j:Int)))(hj:j≤n)
  (hN:Nat.blt d X.N=true) (hg:cZ all σ g) (kk:∀a',Sl D₁ R 1 (.slice a' (n-j) (cap-j)) (xs.drop j)→WL P X bad all K Q os ((d,.slice a' (n-j) (cap-j))::σ) μ Ds):WL P X bad all K Q ((fl,ix)::os) σ μ Ds:=by
 obtain⟨a,c,hv,h1,h2,h3⟩:=hS;cases hv;refine cA (v:=.slice (if cap=j then ad else ad.map (·.add (j*1))) (xs.length-j) (cap-j)) ho rfl rfl hN hg (fun ρ hρ w'=>?_) (kk _ ⟨_,_,by rw[bOS],by rw[bOS];omega,by rw[bOS];omega,?_⟩)
 ·simp only[execOp,bOG,bNL,hρ x _ hx,hρ y _ hy];unfold Instr.sliceAt Instr.slice Instr.sliceBounds Instr.sliceBound asIntOf;have hle:(0:Int)≤(j:Int)∧(j:Int)≤(xs.length:Nat):=by omega
  simp only[Ω,TU.of ht w',Ξ,ε,pure_bind,hs w',hle,bQT,bOC,bNI]
 ·by_cases he:xs.length=j
  ·exact bMF (bNK Yd)
  ·rcases h3 with h3|⟨b,o,rfl,h3⟩
   ·subst h3;simp at he hj;omega
   ·refine bLY ⟨b,o+j,by rw[bLX Yd];simp[gY],fun i z hi=>?_⟩;rw[bOJ]at hi;obtain⟨cs,hr,hc,hA⟩:=h3 _ _ hi;exact⟨cs,hr,hc,by rw[show o+j+i*1=o+(j+i)*1 by omega];exact hA⟩
end Go.Fs
namespace Go.Proofs
open Go.Shelf
def Tryz.lays169_ren:Go.Shelf.Ren:=⟨fun|169=>52|n=>n,fun|70=>110|9=>9|0=>0|72=>112|37=>70|127=>226|3=>3|5=>5|n=>n,fun|n=>n⟩
theorem Tryz.lays169:Go.Proofs.Lays.n169 Tryz.prog Tryz.lays169_ren:={
 mixed:=by kernel_rfl
 f169:=Tryz.func52.trans (bLZ some Yg)
 t0:=Tryz.underlying0
 a0:=Tryz.isAgg0
 z0:=Tryz.sizeOf0
 v0:=Tryz.zeroValue0
 t3:=Tryz.underlying3
 a3:=Tryz.isAgg3
 z3:=Tryz.sizeOf3
 v3:=Tryz.zeroValue3
 t9:=Tryz.underlying9
 a9:=Tryz.isAgg9
 z9:=Tryz.sizeOf9
 v9:=Tryz.zeroValue9
 t37:=Tryz.underlying70
 a37:=Tryz.isAgg70
 z37:=Tryz.sizeOf70
 v37:=Tryz.zeroValue70
 t70:=Tryz.underlying110
 a70:=Tryz.isAgg110
 z70:=Tryz.sizeOf110
 v70:=Tryz.zeroValue110
 t72:=Tryz.underlying112
 a72:=Tryz.isAgg112
 z72:=Tryz.sizeOf112
 v72:=Tryz.zeroValue112
 t127:=Tryz.underlying226
 a127:=Tryz.isAgg226
 z127:=Tryz.sizeOf226
 v127:=Tryz.zeroValue226}
theorem Tryz.Builder_Extra_169:Builder.Extra Tryz.prog Tryz.lays169_ren:={
 sizeBuilder:=by kernel_rfl
 liesBuilder:=by kernel_rfl
 t5:=Tryz.underlying5
 a5:=Tryz.isAgg5
 z5:=Tryz.sizeOf5
 v5:=Tryz.zeroValue5
 infoByte:=by kernel_rfl
 cellsByte:=by kernel_rfl
 sizeByte:=by kernel_rfl
 neB5:=by decide}
open Go.RowKit in
theorem Tryz.Builder_String_any(B b:Nat)(l:List UInt8)(w:World)(h:Lib.IsBuilder 112 5 B b (Lib.byteCells l) w)(hBw:B≤w.heap.size):
  Calls Tryz.prog 52 #[.pointer (some ⟨b,0,none⟩)] w fun e w'=>e=.returned (.string ⟨l.toArray⟩)∧Below B w w':=Any.Builder_String_any Tryz.lays169 Tryz.Builder_Extra_169 B b l w h hBw
def Tryz.laysM171_ren:Go.Shelf.Ren:=⟨fun|171=>43|243=>91|246=>152|283=>214|284=>215|285=>216|286=>217|129=>297|317=>296|318=>298|319=>299|320=>300|337=>335|338=>336|n=>n,fun|3=>3|9=>9|2=>2|4=>4|171=>363|0=>0|53=>364|37=>70|5=>5|173=>367|212=>410|51=>411|20=>20|213=>412|46=>336|232=>451|233=>452|n=>n,fun|17=>0|18=>1|19=>2|n=>n⟩
theorem Tryz.laysM171:Go.Proofs.LaysM.n171 Tryz.prog Tryz.laysM171_ren:={
 mixed:=by kernel_rfl
 f129:=Tryz.func297.trans (bLZ some Yg)
 f171:=Tryz.func43.trans (bLZ some Yg)
 f243:=Tryz.func91.trans (bLZ some Yg)
 f246:=Tryz.func152.trans (bLZ some Yg)
 f283:=Tryz.func214.trans (bLZ some Yg)
 f284:=Tryz.func215.trans (bLZ some Yg)
 f285:=Tryz.func216.trans (bLZ some Yg)
 f286:=Tryz.func217.trans (bLZ some Yg)
 f317:=Tryz.func296.trans (bLZ some Yg)
 f318:=Tryz.func298.trans (bLZ some Yg)
 f319:=Tryz.func299.trans (bLZ some Yg)
 f320:=Tryz.func300.trans (bLZ some Yg)
 f337:=Tryz.func335.trans (bLZ some Yg)
 f338:=Tryz.func336.trans (bLZ some Yg)
 t0:=Tryz.underlying0
 a0:=Tryz.isAgg0
 z0:=Tryz.sizeOf0
 v0:=Tryz.zeroValue0
 t2:=Tryz.underlying2
 a2:=Tryz.isAgg2
 z2:=Tryz.sizeOf2
 v2:=Tryz.zeroValue2
 t3:=Tryz.underlying3
 a3:=Tryz.isAgg3
 z3:=Tryz.sizeOf3
 v3:=Tryz.zeroValue3
 t4:=Tryz.underlying4
 a4:=Tryz.isAgg4
 z4:=Tryz.sizeOf4
 v4:=Tryz.zeroValue4
 t5:=Tryz.underlying5
 a5:=Tryz.isAgg5
 z5:=Tryz.sizeOf5
 v5:=Tryz.zeroValue5
 t9:=Tryz.underlying9
 a9:=Tryz.isAgg9
 z9:=Tryz.sizeOf9
 v9:=Tryz.zeroValue9
 t20:=Tryz.underlying20
 a20:=Tryz.isAgg20
 z20:=Tryz.sizeOf20
 v20:=Tryz.zeroValue20
 t37:=Tryz.underlying70
 a37:=Tryz.isAgg70
 z37:=Tryz.sizeOf70
 v37:=Tryz.zeroValue70
 t46:=Tryz.underlying336
 a46:=Tryz.isAgg336
 z46:=Tryz.sizeOf336
 v46:=Tryz.zeroValue336
 t51:=Tryz.underlying411
 a51:=Tryz.isAgg411
 z51:=Tryz.sizeOf411
 v51:=Tryz.zeroValue411
 t53:=Tryz.underlying364
 a53:=Tryz.isAgg364
 z53:=Tryz.sizeOf364
 v53:=Tryz.zeroValue364
 t171:=Tryz.underlying363
 a171:=Tryz.isAgg363
 z171:=Tryz.sizeOf363
 v171:=Tryz.zeroValue363
 t173:=Tryz.underlying367
 a173:=Tryz.isAgg367
 z173:=Tryz.sizeOf367
 v173:=Tryz.zeroValue367
 t212:=Tryz.underlying410
 a212:=Tryz.isAgg410
 z212:=Tryz.sizeOf410
 v212:=Tryz.zeroValue410
 t213:=Tryz.underlying412
 a213:=Tryz.isAgg412
 z213:=Tryz.sizeOf412
 t232:=Tryz.underlying451
 a232:=Tryz.isAgg451
 z232:=Tryz.sizeOf451
 v232:=Tryz.zeroValue451
 t233:=Tryz.underlying452
 a233:=Tryz.isAgg452
 z233:=Tryz.sizeOf452
 v233:=Tryz.zeroValue452
 g17:=by kernel_rfl
 g18:=by kernel_rfl
 g19:=by kernel_rfl
 i0:=by kernel_rfl
 i2:=by kernel_rfl
 i3:=by kernel_rfl
 i4:=by kernel_rfl
 i5:=by kernel_rfl
 i9:=by kernel_rfl
 i20:=by kernel_rfl
 i37:=by kernel_rfl
 i46:=by kernel_rfl
 i51:=by kernel_rfl
 i53:=by kernel_rfl
 i171:=by kernel_rfl
 i173:=by kernel_rfl
 i212:=by kernel_rfl
 i232:=by kernel_rfl
 i233:=by kernel_rfl
 m17:=by kernel_rfl
 m18:=by kernel_rfl
 m19:=by kernel_rfl}
open Go.RowKit Go.Sort Go.Lib in
theorem Tryz.strconv_Itoa(n:Int)(h0: -9223372036854775808≤n)(h1:n≤9223372036854775807)(w:World)(htab:Lib.TabIs Tryz.prog w "internal/strconv.uint64pow10" .u64 Lib.pow10Tab):
  Calls Tryz.prog 43 #[.int .i64 n] w fun e w'=>e=.returned (.string ⟨(Lib.itoa n).toArray⟩)∧∃k os,w'=grow (w.drewN k) os:=Any.strconv_Itoa Tryz.laysM171 n h0 h1 w htab
def Tryz.laysC172_ren:Go.Shelf.Ren:=⟨fun|172=>285|244=>330|245=>331|247=>344|279=>345|280=>346|281=>347|282=>348|287=>354|316=>355|171=>43|205=>356|321=>359|322=>360|243=>91|246=>152|283=>214|284=>215|285=>216|286=>217|129=>297|317=>296|318=>298|319=>299|320=>300|337=>335|338=>336|n=>n,fun|9=>9|3=>3|75=>114|76=>115|4=>4|5=>5|167=>445|37=>70|0=>0|85=>446|2=>2|168=>448|53=>364|175=>453|46=>336|210=>457|127=>226|145=>468|143=>466|21=>21|171=>363|173=>367|212=>410|51=>411|20=>20|213=>412|232=>451|233=>452|80=>135|n=>n,fun|15=>4|16=>5|17=>0|18=>1|19=>2|n=>n⟩
theorem Tryz.laysC172:Go.Proofs.LaysC.n172 Tryz.prog Tryz.laysC172_ren:={
 mixed:=by kernel_rfl
 f129:=Tryz.func297.trans (bLZ some Yg)
 f171:=Tryz.func43.trans (bLZ some Yg)
 f172:=Tryz.func285.trans (bLZ some Yg)
 f205:=Tryz.func356.trans (bLZ some Yg)
 f243:=Tryz.func91.trans (bLZ some Yg)
 f244:=Tryz.func330.trans (bLZ some Yg)
 f245:=Tryz.func331.trans (bLZ some Yg)
 f246:=Tryz.func152.trans (bLZ some Yg)
 f247:=Tryz.func344.trans (bLZ some Yg)
 f279:=Tryz.func345.trans (bLZ some Yg)
 f280:=Tryz.func346.trans (bLZ some Yg)
 f281:=Tryz.func347.trans (bLZ some Yg)
 f282:=Tryz.func348.trans (bLZ some Yg)
 f283:=Tryz.func214.trans (bLZ some Yg)
 f284:=Tryz.func215.trans (bLZ some Yg)
 f285:=Tryz.func216.trans (bLZ some Yg)
 f286:=Tryz.func217.trans (bLZ some Yg)
 f287:=Tryz.func354.trans (bLZ some Yg)
 f316:=Tryz.func355.trans (bLZ some Yg)
 f317:=Tryz.func296.trans (bLZ some Yg)
 f318:=Tryz.func298.trans (bLZ some Yg)
 f319:=Tryz.func299.trans (bLZ some Yg)
 f320:=Tryz.func300.trans (bLZ some Yg)
 f321:=Tryz.func359.trans (bLZ some Yg)
 f322:=Tryz.func360.trans (bLZ some Yg)
 f337:=Tryz.func335.trans (bLZ some Yg)
 f338:=Tryz.func336.trans (bLZ some Yg)
 t0:=Tryz.underlying0
 a0:=Tryz.isAgg0
 z0:=Tryz.sizeOf0
 v0:=Tryz.zeroValue0
 t2:=Tryz.underlying2
 a2:=Tryz.isAgg2
 z2:=Tryz.sizeOf2
 v2:=Tryz.zeroValue2
 t3:=Tryz.underlying3
 a3:=Tryz.isAgg3
 z3:=Tryz.sizeOf3
 v3:=Tryz.zeroValue3
 t4:=Tryz.underlying4
 a4:=Tryz.isAgg4
 z4:=Tryz.sizeOf4
 v4:=Tryz.zeroValue4
 t5:=Tryz.underlying5
 a5:=Tryz.isAgg5
 z5:=Tryz.sizeOf5
 v5:=Tryz.zeroValue5
 t9:=Tryz.underlying9
 a9:=Tryz.isAgg9
 z9:=Tryz.sizeOf9
 v9:=Tryz.zeroValue9
 t20:=Tryz.underlying20
 a20:=Tryz.isAgg20
 z20:=Tryz.sizeOf20
 v20:=Tryz.zeroValue20
 t21:=Tryz.underlying21
 a21:=Tryz.isAgg21
 z21:=Tryz.sizeOf21
 v21:=Tryz.zeroValue21
 t37:=Tryz.underlying70
 a37:=Tryz.isAgg70
 z37:=Tryz.sizeOf70
 v37:=Tryz.zeroValue70
 t46:=Tryz.underlying336
 a46:=Tryz.isAgg336
 z46:=Tryz.sizeOf336
 v46:=Tryz.zeroValue336
 t51:=Tryz.underlying411
 a51:=Tryz.isAgg411
 z51:=Tryz.sizeOf411
 v51:=Tryz.zeroValue411
 t53:=Tryz.underlying364
 a53:=Tryz.isAgg364
 z53:=Tryz.sizeOf364
 v53:=Tryz.zeroValue364
 t75:=Tryz.underlying114
 a75:=Tryz.isAgg114
 z75:=Tryz.sizeOf114
 v75:=Tryz.zeroValue114
 t76:=Tryz.underlying115
 a76:=Tryz.isAgg115
 z76:=Tryz.sizeOf115
 v76:=Tryz.zeroValue115
 t85:=Tryz.underlying446
 a85:=Tryz.isAgg446
 z85:=Tryz.sizeOf446
 v85:=Tryz.zeroValue446
 t127:=Tryz.underlying226
 a127:=Tryz.isAgg226
 z127:=Tryz.sizeOf226
 v127:=Tryz.zeroValue226
 t143:=Tryz.underlying466
 a143:=Tryz.isAgg466
 z143:=Tryz.sizeOf466
 v143:=Tryz.zeroValue466
 t145:=Tryz.underlying468
 a145:=Tryz.isAgg468
 z145:=Tryz.sizeOf468
 v145:=Tryz.zeroValue468
 t167:=Tryz.underlying445
 a167:=Tryz.isAgg445
 z167:=Tryz.sizeOf445
 v167:=Tryz.zeroValue445
 t168:=Tryz.underlying448
 a168:=Tryz.isAgg448
 z168:=Tryz.sizeOf448
 v168:=Tryz.zeroValue448
 t171:=Tryz.underlying363
 a171:=Tryz.isAgg363
 z171:=Tryz.sizeOf363
 v171:=Tryz.zeroValue363
 t173:=Tryz.underlying367
 a173:=Tryz.isAgg367
 z173:=Tryz.sizeOf367
 v173:=Tryz.zeroValue367
 t175:=Tryz.underlying453
 a175:=Tryz.isAgg453
 z175:=Tryz.sizeOf453
 v175:=Tryz.zeroValue453
 t210:=Tryz.underlying457
 a210:=Tryz.isAgg457
 z210:=Tryz.sizeOf457
 v210:=Tryz.zeroValue457
 t212:=Tryz.underlying410
 a212:=Tryz.isAgg410
 z212:=Tryz.sizeOf410
 v212:=Tryz.zeroValue410
 t213:=Tryz.underlying412
 a213:=Tryz.isAgg412
 z213:=Tryz.sizeOf412
 t232:=Tryz.underlying451
 a232:=Tryz.isAgg451
 z232:=Tryz.sizeOf451
 v232:=Tryz.zeroValue451
 t233:=Tryz.underlying452
 a233:=Tryz.isAgg452
 z233:=Tryz.sizeOf452
 v233:=Tryz.zeroValue452
 g15:=by kernel_rfl
 g16:=by kernel_rfl
 g17:=by kernel_rfl
 g18:=by kernel_rfl
 g19:=by kernel_rfl
 t80:=Tryz.underlying135
 a80:=Tryz.isAgg135
 z80:=Tryz.sizeOf135
 v80:=Tryz.zeroValue135
 i0:=by kernel_rfl
 i2:=by kernel_rfl
 i3:=by kernel_rfl
 i4:=by kernel_rfl
 i5:=by kernel_rfl
 i9:=by kernel_rfl
 i20:=by kernel_rfl
 i21:=by kernel_rfl
 i37:=by kernel_rfl
 i46:=by kernel_rfl
 i51:=by kernel_rfl
 i53:=by kernel_rfl
 i75:=by kernel_rfl
 i76:=by kernel_rfl
 i80:=by kernel_rfl
 i85:=by kernel_rfl
 i127:=by kernel_rfl
 i143:=by kernel_rfl
 i145:=by kernel_rfl
 i167:=by kernel_rfl
 i168:=by kernel_rfl
 i171:=by kernel_rfl
 i173:=by kernel_rfl
 i175:=by kernel_rfl
 i210:=by kernel_rfl
 i212:=by kernel_rfl
 i232:=by kernel_rfl
 i233:=by kernel_rfl
 m15:=by kernel_rfl
 m16:=by kernel_rfl
 m17:=by kernel_rfl
 m18:=by kernel_rfl
 m19:=by kernel_rfl
 c0:=by kernel_rfl
 c2:=by kernel_rfl
 c3:=by kernel_rfl
 c4:=by kernel_rfl
 c5:=by kernel_rfl
 c9:=by kernel_rfl
 c20:=by kernel_rfl
 c21:=by kernel_rfl
 c37:=by kernel_rfl
 c46:=by kernel_rfl
 c51:=by kernel_rfl
 c53:=by kernel_rfl
 c75:=by kernel_rfl
 c76:=by kernel_rfl
 c80:=by kernel_rfl
 c85:=by kernel_rfl
 c127:=by kernel_rfl
 c143:=by kernel_rfl
 c145:=by kernel_rfl
 c167:=by kernel_rfl
 c168:=by kernel_rfl
 c171:=by kernel_rfl
 c173:=by kernel_rfl
 c175:=by kernel_rfl
 c210:=by kernel_rfl
 c212:=by kernel_rfl
 c213:=by kernel_rfl
 c232:=by kernel_rfl
 c233:=by kernel_rfl}
open Go.RowKit in
theorem Tryz.strconv_Atoi_ok(s:ByteArray)(hmax:s.size≤9223372036854775806)(v:Int)(h:Lib.atoiAll s.data.toList=.ok v)(w:World):
  Calls Tryz.prog 285 #[.string s] w fun e w'=>e=.returned (.tuple #[.int .i64 v,.nilIface])∧(w'=w∨∃t,w'=Lib.bytesWorld w 5 t):=Any.strconv_Atoi_ok Tryz.laysC172 s hmax v h w
open Go.RowKit in
theorem Tryz.strconv_Atoi_syntax(s:ByteArray)(hlim:s.size≤281474976710656)(h:Lib.atoiAll s.data.toList=Lib.atoiAll [])(ev:Value)(w:World)(hv:w.cell? ⟨4,0,none⟩=some ev)(hev:ev=.nilIface∨∃te pe,ev=.iface te pe):
  Calls Tryz.prog 285 #[.string s] w fun e w'=>∃N,e=.returned (.tuple #[.int .i64 (0),.iface 448 (.pointer (some ⟨N,0,none⟩))])∧w.heap.size≤N∧w'.heap[N]?= some (.cells #[.string ⟨#[65,116,111,105]⟩,.string s,ev] 457 (0,0))∧Below w.heap.size w w':=Any.strconv_Atoi_syntax Tryz.laysC172 s hlim h ev w hv hev
open Go.RowKit in
theorem Tryz.strconv_Atoi_range(s:ByteArray)(hlim:s.size≤281474976710656)(h:Lib.atoiAll s.data.toList=.range)(ev:Value)(w:World)(hv:w.cell? ⟨5,0,none⟩=some ev)(hev:ev=.nilIface∨∃te pe,ev=.iface te pe):
  Calls Tryz.prog 285 #[.string s] w fun e w'=>∃N,e=.returned (.tuple #[.int .i64 (Lib.atoiSat s.data.toList),.iface 448 (.pointer (some ⟨N,0,none⟩))])∧w.heap.size≤N∧w'.heap[N]?= some (.cells #[.string ⟨#[65,116,111,105]⟩,.string s,ev] 457 (0,0))∧Below w.heap.size w w':=Any.strconv_Atoi_range Tryz.laysC172 s hlim h ev w hv hev
def Tryz.lays146_ren:Go.Shelf.Ren:=⟨fun|146=>204|221=>261|268=>316|138=>317|143=>318|195=>340|197=>341|218=>342|219=>343|260=>349|217=>350|225=>351|224=>352|267=>353|266=>357|314=>358|n=>n,fun|9=>9|31=>22|3=>3|4=>4|0=>0|105=>442|21=>21|5=>5|46=>336|119=>459|139=>462|138=>461|146=>463|51=>411|n=>n,fun|1=>3|3=>6|4=>7|n=>n⟩
theorem Tryz.lays146:Go.Proofs.Lays.n146 Tryz.prog Tryz.lays146_ren:={
 mixed:=by kernel_rfl
 f138:=Tryz.func317.trans (bLZ some Yg)
 f143:=Tryz.func318.trans (bLZ some Yg)
 f146:=Tryz.func204.trans (bLZ some Yg)
 f195:=Tryz.func340.trans (bLZ some Yg)
 f197:=Tryz.func341.trans (bLZ some Yg)
 f217:=Tryz.func350.trans (bLZ some Yg)
 f218:=Tryz.func342.trans (bLZ some Yg)
 f219:=Tryz.func343.trans (bLZ some Yg)
 f221:=Tryz.func261.trans (bLZ some Yg)
 f224:=Tryz.func352.trans (bLZ some Yg)
 f225:=Tryz.func351.trans (bLZ some Yg)
 f260:=Tryz.func349.trans (bLZ some Yg)
 f266:=Tryz.func357.trans (bLZ some Yg)
 f267:=Tryz.func353.trans (bLZ some Yg)
 f268:=Tryz.func316.trans (bLZ some Yg)
 f314:=Tryz.func358.trans (bLZ some Yg)
 t0:=Tryz.underlying0
 a0:=Tryz.isAgg0
 z0:=Tryz.sizeOf0
 v0:=Tryz.zeroValue0
 t3:=Tryz.underlying3
 a3:=Tryz.isAgg3
 z3:=Tryz.sizeOf3
 v3:=Tryz.zeroValue3
 t4:=Tryz.underlying4
 a4:=Tryz.isAgg4
 z4:=Tryz.sizeOf4
 v4:=Tryz.zeroValue4
 t5:=Tryz.underlying5
 a5:=Tryz.isAgg5
 z5:=Tryz.sizeOf5
 v5:=Tryz.zeroValue5
 t9:=Tryz.underlying9
 a9:=Tryz.isAgg9
 z9:=Tryz.sizeOf9
 v9:=Tryz.zeroValue9
 t21:=Tryz.underlying21
 a21:=Tryz.isAgg21
 z21:=Tryz.sizeOf21
 v21:=Tryz.zeroValue21
 t31:=Tryz.underlying22
 a31:=Tryz.isAgg22
 z31:=Tryz.sizeOf22
 v31:=Tryz.zeroValue22
 t46:=Tryz.underlying336
 a46:=Tryz.isAgg336
 z46:=Tryz.sizeOf336
 v46:=Tryz.zeroValue336
 t51:=Tryz.underlying411
 a51:=Tryz.isAgg411
 z51:=Tryz.sizeOf411
 v51:=Tryz.zeroValue411
 t105:=Tryz.underlying442
 a105:=Tryz.isAgg442
 z105:=Tryz.sizeOf442
 v105:=Tryz.zeroValue442
 t119:=Tryz.underlying459
 a119:=Tryz.isAgg459
 z119:=Tryz.sizeOf459
 t138:=Tryz.underlying461
 a138:=Tryz.isAgg461
 z138:=Tryz.sizeOf461
 v138:=Tryz.zeroValue461
 t139:=Tryz.underlying462
 a139:=Tryz.isAgg462
 z139:=Tryz.sizeOf462
 v139:=Tryz.zeroValue462
 t146:=Tryz.underlying463
 a146:=Tryz.isAgg463
 z146:=Tryz.sizeOf463
 v146:=Tryz.zeroValue463
 g1:=by kernel_rfl
 g3:=by kernel_rfl
 g4:=by kernel_rfl}
open Go.RowKit Go.Lib in
theorem Tryz.strings_Split(s sep:ByteArray)(m:Int)(w:World)(hs:s.size<4294967281)(hm:w.cell? ⟨3,0,none⟩=some (.int .i64 m))(h1:1≤sep.size):
  Calls Tryz.prog 204 #[.string s,.string sep] w fun e w'=>
   e=.returned (.slice (some ⟨w.heap.size,0,none⟩) (Lib.countB s sep+1) (Lib.countB s sep+1))∧w'=w.alloc (.cells ((Lib.splitB sep 0 (Lib.countB s sep) s).map Value.string).toArray 9):=Any.strings_Split Tryz.lays146 Yg s sep m w hs hm h1
end Go.Proofs
namespace Go.Fs
open Go.Proofs Tryz
namespace L12
open C12 Go.Lib
structure pP(D:aC):Prop where
 tab:D 0=pow10Tab.map (Value.int .u64)
 maxLen:∃m,(D 3)[0]?= some (qI m)
 esyn:∃c,(D 4)[0]?= some c∧(c=.nilIface∨∃t u,c=.iface t u)
 erng:∃c,(D 5)[0]?= some c∧(c=.nilIface∨∃t u,c=.iface t u)
theorem pP.up{D D':aC}(h:pP D)(hl:Le D D'):pP D':=by
 obtain⟨h1,⟨m,h2⟩,⟨c,h3,h3'⟩,⟨e,h4,h4'⟩⟩:=h;exact⟨hl.2.trans h1,⟨m,hl.get h2⟩,⟨c,hl.get h3,h3'⟩,⟨e,hl.get h4,h4'⟩⟩
theorem pP.tabIs{D:aC}(h:pP D){w:Δ}(hw:fR D w):TabIs prog w "internal/strconv.uint64pow10" .u64 pow10Tab:=by
 have hg:prog.globalNamed "internal/strconv.uint64pow10" =some 0:=by kernel_rfl
 obtain⟨-, -,e,fz,h0⟩:=hw;unfold TabIs World.var?;rw[hg,Option.bind_some,h0,h.tab]
theorem VM(w:Δ)(e:Θ)(t:Λ):Go.RowKit.Below w.heap.size w (bytesWorld w e t):=⟨rfl,rfl,rfl,by rw[bytesWorld_size];omega,fun b hb=>bytesWorld_at_old w e t b hb⟩
theorem VU(w:Δ)(k:Nat)(os:Array Obj):Go.RowKit.Below w.heap.size w (Go.Sort.grow (w.drewN k) os):=
 ⟨rfl,rfl,rfl,by show w.heap.size≤(w.heap++os).size;rw[Array.size_append];omega,fun b hb=>by show(w.heap++os)[b]?= _;rw[bON hb]⟩
theorem X8(n:Int)(hn:tQ .i64 n)(D:aC)(hV:pP D):Fn prog 43 #[qI n] D (fun _ v=>v=.string (LS (itoa n))):=by
 have hb: -9223372036854775808≤n∧n≤9223372036854775807:=by simpa [tQ]using hn
 refine Fn.of_below (EF.of func43 rfl rfl) fun w hw=>(Go.Proofs.Tryz.strconv_Itoa n hb.1 hb.2 w (hV.tabIs hw)).mono ?_
 rintro e w' ⟨rfl,k,os,rfl⟩;exact⟨_,rfl,VU w k os,fun _ _=>rfl⟩
theorem aUR(s:Λ)(hs:s.size≤1000)(D:aC)(hV:pP D):Fn prog 204 #[.string s,.string ⟨#[32]⟩] D (fun D' v=>Sl D' RS 1 v (eC s)):=by
 obtain⟨m,hm⟩:=hV.maxLen;refine Fn.of_alloc (cs:=(eC s).map Value.string) (e:=9) (r:=fun b=>qS b (eC s).length (eC s).length) (EF.of func204 rfl rfl) (fun w hw=>(Go.Proofs.Tryz.strings_Split s ⟨#[32]⟩ m w Yd (hw.cell hm) Yu).mono ?_) fun D' b _ hA=>?_
 ·rintro e w' ⟨rfl,rfl⟩;rw[XN,SO];exact⟨rfl,rfl⟩
 ·have hl:(eC s).length≤1001:=by unfold eC;rw[bNE];exact bOB (MX _) (by show s.size+1≤1001;omega)
  refine⟨_,_,rfl,bMH _,Yd,bLY ⟨b,0,rfl,fun i x hi=>⟨_,rfl,rfl,fun j v hj=>?_⟩⟩⟩;cases j with
  |zero=>
   obtain rfl:Value.string x=v:=by simpa using hj
   have h:=hA i (.string x) (by rw[bNB,hi];rfl);simpa using h
  |succ j=>simp at hj
theorem bAC(s:Λ)(hs:s.size≤1000)(D:aC)(hV:pP D):Fn prog 285 #[.string s] D (fun _ v=>∃m c,v=.tuple #[qI m,c]∧tQ .i64 m∧((c=.nilIface∧atoiAll s.data.toList=.ok m)∨((∃t u,c=.iface t u)∧∀x,atoiAll s.data.toList≠.ok x))):=by
 refine Fn.of_below (EF.of func285 rfl rfl) fun w hw=>?_
 rcases h:atoiAll s.data.toList with v|_|_
 ·refine(Go.Proofs.Tryz.strconv_Atoi_ok s Yd v h w).mono ?_;rintro e w' ⟨rfl,hw'⟩;refine⟨_,rfl,?_,fun _ _=>⟨v,_,rfl,by have:=atoiAll_bounds h;simp only[tQ];omega,bMF ⟨rfl,rfl⟩⟩⟩
  rcases hw' with rfl|⟨t,rfl⟩
  ·exact .refl _ _
  ·exact VM w _ t
 ·obtain⟨c,hc,hc'⟩:=hV.esyn;refine(Go.Proofs.Tryz.strconv_Atoi_syntax s Yd h c w (hw.cell hc) hc').mono ?_;rintro e w' ⟨N,rfl,_,_,hb⟩;exact⟨_,rfl,hb,fun _ _=>⟨0,_,rfl,Ye,bLY ⟨⟨_,_,rfl⟩,fun x hx=>by cases hx⟩⟩⟩
 ·obtain⟨c,hc,hc'⟩:=hV.erng;refine(Go.Proofs.Tryz.strconv_Atoi_range s Yd h c w (hw.cell hc) hc').mono ?_;rintro e w' ⟨N,rfl,_,_,hb⟩;exact⟨_,rfl,hb,fun _ _=>⟨_,_,rfl,by unfold atoiSat;split<;>simp only[tQ]<;>omega,bLY ⟨⟨_,_,rfl⟩,fun x hx=>by cases hx⟩⟩⟩
theorem aSW{s:Λ}{m:Int}{c:Γ}(h:(c=.nilIface∧atoiAll s.data.toList=.ok m)∨((∃t u,c=.iface t u)∧∀x,atoiAll s.data.toList≠.ok x)):rV s.data.toList=if(((aLB c&&decide (m≥0))&&decide ((s.size:Int)≤3))&&decide (LS (itoa m)=s))=true then some m else none:=by
 rw[←aCH];unfold aZU;rcases h with⟨rfl,h⟩|⟨⟨t,u,rfl⟩,h⟩
 ·rw[h];have e:s.data.toList.length=s.size:=rfl;have I:(LS (itoa m)=s) ↔ itoa m=s.data.toList:=⟨fun h=>by rw[←h];rfl,fun h=>by rw[h];exact yO s⟩
  simp only[aLB,bPT,bLQ,LT,e,I,and_assoc];congr 1;simp only[eq_iff_iff];constructor
  ·rintro⟨h1,h2,h3⟩;exact⟨h1,Yd,h3⟩
  ·rintro⟨h1,h2,h3⟩;exact⟨h1,Yd,h3⟩
 ·split
  ·rename_i v hv;exact absurd hv (h v)
  ·rfl
theorem bDH{s:Λ}{m:Int}{c:Γ}(h:(c=.nilIface∧atoiAll s.data.toList=.ok m)∨((∃t u,c=.iface t u)∧∀x,atoiAll s.data.toList≠.ok x)):(((aLB c&&decide (m≥0))&&decide ((s.size:Int)≤3))&&decide (LS (itoa m)=s))=true→rV s.data.toList=some m:=fun hb=>by rw[aSW h,bMG hb]
theorem bGZ{s:Λ}{m:Int}{c:Γ}(h:(c=.nilIface∧atoiAll s.data.toList=.ok m)∨((∃t u,c=.iface t u)∧∀x,atoiAll s.data.toList≠.ok x)):(((aLB c&&decide (m≥0))&&decide ((s.size:Int)≤3))&&decide (LS (itoa m)=s))=false→rV s.data.toList=none:=fun hb=>by rw[aSW h,bLX (by rw[hb];simp)]
theorem aGV(s:Λ)(hs:s.size≤1000)(D:aC)(hV:pP D):Fn prog 207 #[.string s] D (fun _ v=>∃m b,v=.tuple #[qI m,.bool b]∧(b=true→rV s.data.toList=some m)∧(b=false→rV s.data.toList=none)):=by
 refine Zw 29 func207 rfl fun h0=>aA<|Zf rfl<|Zf rfl<|aJ<|Za rfl<|Zaa rfl (fun D1 O=>bAC s hs _ (hV.up (O _ Yf))) fun v1 D1 O R=>?_;obtain⟨m,c,rfl,U,I⟩:=R;refine Za rfl<|Zao rfl<|Zao rfl<|Zf rfl<|Zf rfl<|aJ<|Za rfl<|Za rfl<|ZT rfl U114 rfl (by rcases I with⟨h,_⟩|⟨h,_⟩;exact Or.inl h;exact Or.inr h) rfl bRD<|Za rfl ?_
 refine' bU 3 (s:=14) (p:=17) rfl (fun V=>?_) (fun V=>?_) ?_;rotate_left
 ·refine Zb rfl<|jT rfl rfl rfl rfl ⟨_,rfl,rfl⟩<|Zaj rfl ?_;exact aN 2
 ·refine Wat ?_;exact aN 2
 refine Za rfl ?_;refine' bU 4 (s:=18) (p:=22) rfl (fun Y=>?_) (fun Y=>?_) ?_;rotate_left
 ·refine Zb rfl<|jU rfl U9 rfl rfl rfl ⟨_,rfl,rfl⟩<|Wj ?_;exact aN 3
 ·refine Wb ?_;exact aN 3
 refine Za rfl ?_;refine' bU 5 (s:=23) (p:=28) rfl (fun Z=>?_) (fun Z=>?_) ?_;rotate_left
 ·refine Zb rfl<|Ze rfl (fun D2 hB=>X8 m U _ (hV.up (hB _ Yf)))<|Zb rfl<|oK rfl rfl rfl rfl ⟨_,rfl,rfl⟩<|Zaj rfl ?_;exact aN 4
 ·refine Zg rfl<|Wb ?_;exact aN 4
 refine Zf rfl<|We ?_;exact Zq [_,_] rfl bQ fun D hD=>⟨m,_,rfl,bDH I,bGZ I⟩
end L12
end Go.Fs
