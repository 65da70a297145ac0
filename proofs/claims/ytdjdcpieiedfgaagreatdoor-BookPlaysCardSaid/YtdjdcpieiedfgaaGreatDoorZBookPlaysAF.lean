/- Of BookPlays. -/
import Derived.Test.YtdjdcpieiedfgaaGreatDoorZBookPlaysAE
import Derived.Lib.Split
import Derived.Lib.AtoiTie
import Derived.Lib.AtoiAllCases
import Derived.Lib.ItoaNum
import Derived.WideShapes
import Derived.DefersIn
import Derived.RecoverIn
import Derived.Laws.Concat
import Derived.Laws.Strings
import Derived.Below
import Derived.Shelf.Strings.Builder1
import Derived.Shelf.LaysM
import Derived.Shelf.Strconv.Itoa3
import Derived.Shelf.LaysC
import Derived.Shelf.Strconv.AtoiAll
import Derived.Shelf.Strings.Split
namespace Go.Fs
variable{P:Program}{X:Cx}{γb:Type}[Membership Nat γb]{bad:γb}{all:Array Oper}{K:Act→Δ→Prop}{Q:Exit→Act→Δ→Prop}
variable{σ:cD}{μ:aD}{Ds:List aC}{os:List (Bool×Nat)}{fl:Bool}{ix:Nat}
variable{d:Nat}{x y z:Operand}{u v:Γ}{ty:Θ}{pos:String}{aft:Array Edge}{g:Option (Nat×Bool)}
theorem nG{A B:aD}{t e tr:Θ}{b o i m cap c2 sz:Nat}{vs xs:List Γ}{ats:Array Θ}
  (ho:all[ix]?= some ⟨some d,.call {callee:=.builtin .append,args:=#[x,y],argTypes:=ats},tr,pos,aft,g⟩) (ht:P.underlying t=some (.slice e)) (hat:ats[0]?= some t) (I:ats[1]?= some t) (hs:TS P e sz)
  (hx:ev σ x=some (qS b i cap)) (hy:ev σ y=some (.slice (some ⟨b,o,none⟩) m c2)) (hxs:(vs.drop o).take (m*sz)=xs) (hxl:xs.length=m*sz) (hfit:i+m≤cap) (hin:i*sz+m*sz≤vs.length) (hx1:∀u∈xs,cell1 u=true)
  (hfl:fl=false∨b∈bad) (hN:Nat.blt d X.N=true) (hg:dH all σ g)
  (kk:WL P X bad all K Q os ((d,qS b (i+m) cap)::σ) (A++(b,.cells (vs.take (i*sz)++xs++vs.drop (i*sz+m*sz)).toArray e (0,0))::B) Ds):
  WL P X bad all K Q ((fl,ix)::os) σ (A++(b,.cells vs.toArray e (0,0))::B) Ds:=by
 refine fG ho rfl rfl hg fun a w hh=>?_
 obtain⟨h1,h2,h3,D,h4,h5,O⟩:=id hh;have hbx:=(h4.box (b,.cells vs.toArray e (0,0)) Ye).1;have hex:(execOp a.eval ⟨some d,.call {callee:=.builtin .append,args:=#[x,y],argTypes:=ats},tr,pos,aft,g⟩).run P w=
   ((Builtin.append_ ats tr #[qS b i cap,.slice (some ⟨b,o,none⟩) m c2]).run P w).andThen fun r w'=>.ok (.value r) w':=by
  simp only[execOp,resolve,pure_bind,invoke,builtin];have R:(#[x,y].map a.eval)=#[qS b i cap,.slice (some ⟨b,o,none⟩) m c2]:=by simp[hh.eval hx,hh.eval hy]
  rw[R,Ω];simp only[ε]
 rw[hex];have hm:(Builtin.lenOf (.slice (some ⟨b,o,none⟩) m c2)).run P w=.ok m w:=rfl;have hfc:(Builtin.firstCells sz m (.slice (some ⟨b,o,none⟩) m c2)).run P w=.ok xs.toArray w:=by
  simp only[Builtin.firstCells];refine oO hxl fun j u hj=>sQ (cs:=vs.toArray) hbx ?_
  have hjl:=(bLD.1 hj).1;rw[←hxs,bOD Yd,bNS]at hj;simpa using hj
 obtain⟨w',hr,hw'⟩:=lG (P:=P) xs 0 w b (i*sz) vs e hbx Yd hx1;rw[E9 (tr:=tr) (w':=w') ht hat I hs hm hfc hfit (by
  show(storeCells ((⟨b,0,none⟩:Addr).add (i*sz)) xs).run P w=_;rw[iI,bOH];exact hr)]
 rw[Nat.add_zero,hxl]at hw';have hHas:bO (A++(b,.cells vs.toArray e (0,0))::B) b (.cells vs.toArray e (0,0)) (.cells (vs.take (i*sz)++xs++vs.drop (i*sz+m*sz)).toArray e (0,0)) (A++(b,.cells (vs.take (i*sz)++xs++vs.drop (i*sz+m*sz)).toArray e (0,0))::B):=.app .head;have hst:=h4.set hHas hw' rfl;refine⟨fun hf=>⟨Xay,fun c hc hcb=>?_⟩,kk _ _ (Hl.put ⟨h1,h2,h3,D,hst,h5,O.step (fun _ p hp=>bLL Ys) (fun _=>lX hw' (bKX.2 ⟨_,hHas.mem,rfl⟩)) hst.dom⟩ hN _)⟩
 have hb:b∈bad:=by
  rcases hfl with h|h
  ·rw[hf]at h;cases h
  ·exact h
 rw[hw'.1,bNZ (by rintro rfl;exact hcb hb)]
theorem Y6{A B:aD}{t e tr:Θ}{b o n c:Nat}{z0:Γ}{vs zs:List Γ}{dd:Option Nat}{ats:Array Θ}
  (ho:all[ix]?= some ⟨dd,.call {callee:=.builtin .clear,args:=#[x],argTypes:=ats},tr,pos,aft,g⟩) (hdd:dd=none) (ht:P.underlying t=some (.slice e)) (hat:ats[0]?= some t) (hz:TZ P e z0) (hx:ev σ x=some (.slice (some ⟨b,o,none⟩) n c)) (hn:n≠0)
  (hzs:Builtin.zeroCells z0.cells n=zs.toArray) (hin:o+zs.length≤vs.length) (I:∀u∈zs,cell1 u=true) (hg:dH all σ g)
  (kk:WL P X bad all K Q os σ (A++(b,.cells (vs.take o++zs++vs.drop (o+zs.length)).toArray e (0,0))::B) Ds):
  WL P X bad all K Q ((false,ix)::os) σ (A++(b,.cells vs.toArray e (0,0))::B) Ds:=by
 subst hdd;refine fG ho rfl rfl hg fun a w hh=>?_
 obtain⟨h1,h2,h3,D,h4,h5,R⟩:=id hh;have hbx:=(h4.box (b,.cells vs.toArray e (0,0)) Ye).1;obtain⟨w',hr,hw'⟩:=lG (P:=P) zs 0 w b o vs e hbx Yd I;rw[Nat.add_zero]at hw';have hcl:(Builtin.clear_ ats tr #[.slice (some ⟨b,o,none⟩) n c]).run P w=.ok (.tuple #[]) w':=by
  have O:(#[Value.slice (some ⟨b,o,none⟩) n c]:Array Γ)[0]?= some (.slice (some ⟨b,o,none⟩) n c):=rfl;unfold Builtin.clear_;obtain⟨k,rfl⟩:∃k,n=k+1:=⟨n-1,Yd⟩
  simp only[hat,O,Ω,TU.of ht w,Ξ,hz w,hzs,ε];rw[hr];rfl
 have hex:∃r,(execOp a.eval ⟨none,.call {callee:=.builtin .clear,args:=#[x],argTypes:=ats},tr,pos,aft,g⟩).run P w=.ok (.value r) w':=by
  refine⟨.tuple #[],?_⟩;simp only[execOp,resolve,pure_bind,invoke,builtin];have O:(#[x].map a.eval)=#[.slice (some ⟨b,o,none⟩) n c]:=by simp[hh.eval hx]
  rw[O,Ω,hcl];rfl
 obtain⟨r,hex⟩:=hex;rw[hex];have hHas:bO (A++(b,.cells vs.toArray e (0,0))::B) b (.cells vs.toArray e (0,0)) (.cells (vs.take o++zs++vs.drop (o+zs.length)).toArray e (0,0)) (A++(b,.cells (vs.take o++zs++vs.drop (o+zs.length)).toArray e (0,0))::B):=.app .head;have hst:=h4.set hHas hw' rfl;exact⟨fun h=>Xad,kk _ _ ⟨h1,h2,h3,D,hst,h5,R.step (fun _ p hp=>bLL Ys) (fun _=>lX hw' (bKX.2 ⟨_,hHas.mem,rfl⟩)) hst.dom⟩⟩
variable{z2:Operand}
theorem AW{t e:Θ}{b i n cap sz:Nat}{k:IntKind}(ho:all[ix]?= some ⟨some d,.slice t x none (some z) none,ty,pos,aft,g⟩)(ht:P.underlying t=some (.slice e))(hs:TS P e sz)(hx:ev σ x=some (qS b n cap))(hz:ev σ z=some (.int k (i:Int)))(hi:i≤cap)
  (hN:Nat.blt d X.N=true) (hg:dH all σ g) (kk:WL P X bad all K Q os ((d,qS b i cap)::σ) μ Ds):WL P X bad all K Q ((fl,ix)::os) σ μ Ds:=by
 have ha:(if cap=0 then some (⟨b,0,none⟩:Addr)else(some (⟨b,0,none⟩:Addr)).map (·.add (0*sz)))=some ⟨b,0,none⟩:=by
  split
  ·rfl
  ·simp[Addr.add]
 refine bZ ho rfl rfl hN hg (fun ρ hρ w'=>?_) kk;simp only[execOp,bNQ,bMS,hρ x _ hx,hρ z _ hz];unfold Instr.sliceAt Instr.slice Instr.sliceBounds Instr.sliceBound asIntOf;have hle:(0:Int)≤(i:Int)∧(i:Int)≤(cap:Nat):=by omega
 simp only[Ω,TU.of ht w',Ξ,ε,pure_bind,hs w',hle,bPZ,bNM,bMR,bPB,ha]
theorem AI{t e:Θ}{b j n cap sz:Nat}{k:IntKind}(ho:all[ix]?= some ⟨some d,.slice t x (some y) none none,ty,pos,aft,g⟩)(ht:P.underlying t=some (.slice e))(hs:TS P e sz)(hx:ev σ x=some (qS b n cap))(hy:ev σ y=some (.int k (j:Int)))(hj:j≤n)
  (hN:Nat.blt d X.N=true) (hg:dH all σ g) (kk:∀o,(j<cap→o=j*sz)→WL P X bad all K Q os ((d,.slice (some ⟨b,o,none⟩) (n-j) (cap-j))::σ) μ Ds):WL P X bad all K Q ((fl,ix)::os) σ μ Ds:=by
 have ha:(if cap=j then some (⟨b,0,none⟩:Addr)else(some (⟨b,0,none⟩:Addr)).map (·.add (j*sz)))=some ⟨b,if cap=j then 0 else j*sz,none⟩:=by
  split
  ·rfl
  ·simp[iI]
 refine bZ ho rfl rfl hN hg (fun ρ hρ w'=>?_) (kk (if cap=j then 0 else j*sz) fun h=>by rw[bLI Yd]);simp only[execOp,bNQ,bMS,hρ x _ hx,hρ y _ hy];unfold Instr.sliceAt Instr.slice Instr.sliceBounds Instr.sliceBound asIntOf;have hle:(0:Int)≤(j:Int)∧(j:Int)≤(n:Nat):=by omega
 simp only[Ω,TU.of ht w',Ξ,ε,pure_bind,hs w',hle,bPZ,bNM,bMR,ha]
theorem aFK{t e:Θ}{b l h n cap sz:Nat}{k k':IntKind}(ho:all[ix]?= some ⟨some d,.slice t x (some y) (some z) none,ty,pos,aft,g⟩)(ht:P.underlying t=some (.slice e))(hs:TS P e sz)(hx:ev σ x=some (qS b n cap))(hy:ev σ y=some (.int k (l:Int)))(hz:ev σ z=some (.int k' (h:Int)))(h1:l≤h)(h2:h≤cap)(h3:l<cap)
  (hN:Nat.blt d X.N=true) (hg:dH all σ g) (kk:WL P X bad all K Q os ((d,.slice (some ⟨b,l*sz,none⟩) (h-l) (cap-l))::σ) μ Ds):WL P X bad all K Q ((fl,ix)::os) σ μ Ds:=by
 have ha:(if cap=l then some (⟨b,0,none⟩:Addr)else(some (⟨b,0,none⟩:Addr)).map (·.add (l*sz)))=some ⟨b,l*sz,none⟩:=by
  rw[bLI Yd];simp[iI]
 refine bZ ho rfl rfl hN hg (fun ρ hρ w'=>?_) kk;simp only[execOp,bNQ,bMS,hρ x _ hx,hρ y _ hy,hρ z _ hz];unfold Instr.sliceAt Instr.slice Instr.sliceBounds Instr.sliceBound asIntOf;have I:(0:Int)≤(l:Int)∧(l:Int)≤(h:Nat):=by omega
 have a2:(0:Int)≤(h:Int)∧(h:Int)≤(cap:Nat):=by omega
 simp only[Ω,TU.of ht w',Ξ,ε,pure_bind,hs w',I,a2,bPZ,bNM,bMR,ha]
theorem aDE{t e:Θ}{b l h m n cap sz:Nat}{k k' k2:IntKind}(ho:all[ix]?= some ⟨some d,.slice t x (some y) (some z) (some z2),ty,pos,aft,g⟩)(ht:P.underlying t=some (.slice e))(hs:TS P e sz)(hx:ev σ x=some (qS b n cap))(hy:ev σ y=some (.int k (l:Int)))(hz:ev σ z=some (.int k' (h:Int)))(I:ev σ z2=some (.int k2 (m:Int)))(h1:l≤h)(h2:h≤m)(h3:m≤cap)
  (hN:Nat.blt d X.N=true) (hg:dH all σ g) (kk:∀v,WL P X bad all K Q os ((d,v)::σ) μ Ds):WL P X bad all K Q ((fl,ix)::os) σ μ Ds:=by
 refine bZ (v:=.slice (if m=l then some ⟨b,0,none⟩else(some (⟨b,0,none⟩:Addr)).map (·.add (l*sz))) (h-l) (m-l)) ho rfl rfl hN hg (fun ρ hρ w'=>?_) (kk _);simp only[execOp,bMS,hρ x _ hx,hρ y _ hy,hρ z _ hz,hρ z2 _ I];unfold Instr.sliceAt Instr.slice Instr.sliceBounds Instr.sliceBound asIntOf;have O:(0:Int)≤(l:Int)∧(l:Int)≤(h:Nat):=by omega
 have a2:(0:Int)≤(h:Int)∧(h:Int)≤(m:Nat):=by omega
 have a3:(0:Int)≤(m:Int)∧(m:Int)≤(cap:Nat):=by omega
 simp only[Ω,TU.of ht w',Ξ,ε,pure_bind,hs w',O,a2,a3,bPZ,bNM,bMR];rfl
theorem SZ{t e:Θ}{D₁:aC}{b o n cap j:Nat}{k:IntKind}{xs:List Int}(ho:all[ix]?= some ⟨some d,.slice t x (some y) none none,ty,pos,aft,g⟩)(ht:P.underlying t=some (.slice e))(hs:TS P e 1)(hx:ev σ x=some (.slice (some ⟨b,o,none⟩) n cap))(hS:Sl D₁ RI 1 (.slice (some ⟨b,o,none⟩) n cap) xs)(hy:ev σ y=some (.int k (j:Int)))(hj:j<n)
  (hN:Nat.blt d X.N=true) (hg:dH all σ g) (kk:Sl D₁ RI 1 (.slice (some ⟨b,o+j,none⟩) (n-j) (cap-j)) (xs.drop j)→WL P X bad all K Q os ((d,.slice (some ⟨b,o+j,none⟩) (n-j) (cap-j))::σ) μ Ds):WL P X bad all K Q ((fl,ix)::os) σ μ Ds:=by
 obtain⟨a,c,hv,h1,h2,h3⟩:=hS;cases hv;rcases h3 with h3|⟨b',o',ha,h3⟩
 ·subst h3;simp at hj
 cases ha;have ha:(if cap=j then some (⟨b,o,none⟩:Addr)else(some (⟨b,o,none⟩:Addr)).map (·.add (j*1)))=some ⟨b,o+j,none⟩:=by
  rw[bLI Yd];simp[iI]
 refine bZ ho rfl rfl hN hg (fun ρ hρ w'=>?_) (kk ⟨_,_,by rw[bOI],by rw[bOI];omega,by rw[bOI];omega,bLG ⟨b,o+j,rfl,fun i z hi=>?_⟩⟩)
 ·simp only[execOp,bNQ,bMS,hρ x _ hx,hρ y _ hy];unfold Instr.sliceAt Instr.slice Instr.sliceBounds Instr.sliceBound asIntOf;have hle:(0:Int)≤(j:Int)∧(j:Int)≤(xs.length:Nat):=by omega
  simp only[Ω,TU.of ht w',Ξ,ε,pure_bind,hs w',hle,bPZ,bNM,bMR,ha]
 ·rw[bNS]at hi;obtain⟨cs,hr,hc,hA⟩:=h3 _ _ hi;exact⟨cs,hr,hc,by rw[show o+j+i*1=o+(j+i)*1 by omega];exact hA⟩
theorem aXX{t e:Θ}{n len cap:Nat}{ad:Option Addr}(ho:all[ix]?= some ⟨some d,.sliceToArrayPointer t x,ty,pos,aft,g⟩)(ht:P.underlying t=some (.array n e))(hx:ev σ x=some (.slice ad len cap))(hl:n≤len)
  (hN:Nat.blt d X.N=true) (hg:dH all σ g) (kk:WL P X bad all K Q os ((d,.pointer ad)::σ) μ Ds):WL P X bad all K Q ((fl,ix)::os) σ μ Ds:=by
 refine fG ho rfl rfl hg fun a w hh=>?_
 have:(execOp a.eval ⟨some d,.sliceToArrayPointer t x,ty,pos,aft,g⟩).run P w=.ok (.value (.pointer ad)) w:=by
  simp only[execOp,hh.eval hx];unfold Instr.arrayAt;rw[Ω,Ω,TU.of ht w];simp only[Ξ];rw[bLI Yd];rfl
 rw[this];exact⟨fun _=>qA.refl _ _,kk _ _ (hh.put hN _)⟩
open Go.Proofs Tryz
namespace L12
open C12
section
variable{α:Type}{f:α→List Γ}{n:Nat}(hf:∀x,(f x).length=n){xs:List α}{i:Nat}
include hf
theorem sF:((xs.drop (i+1)).flatMap f).length=(xs.length-(i+1))*n:=by rw[aS hf,bOI]
theorem aHG(k:Nat):(xs.flatMap f).take (k*n)=(xs.take k).flatMap f:=by
 induction xs generalizing k with
 |nil=>simp
 |cons x xs ih=>
  cases k with
  |zero=>simp
  |succ k=>
   rw[bMA,List.take_succ_cons,bMA,←ih k,show(k+1)*n=(f x).length+k*n by rw[hf,bNV];omega,List.take_length_add_append]
theorem aGS(k:Nat):(xs.flatMap f).drop (k*n)=(xs.drop k).flatMap f:=by
 induction xs generalizing k with
 |nil=>simp
 |cons x xs ih=>
  cases k with
  |zero=>simp
  |succ k=>
   rw[bMA,List.drop_succ_cons,←ih k,show(k+1)*n=(f x).length+k*n by rw[hf,bNV];omega,bPO]
theorem wM{cap o:Nat}{junk:List Γ}(hi:i<xs.length)(hcap:xs.length≤cap)(ho:i+1<cap→o=(i+1)*n)(_:(xs.flatMap f++junk).length=cap*n):((xs.flatMap f++junk).drop o).take ((xs.length-(i+1))*n)=(xs.drop (i+1)).flatMap f:=by
 by_cases h:i+1<xs.length
 ·rw[ho Yd,List.drop_append_of_le_length (by rw[aS hf];exact bPJ _ Yd),aGS hf,bMP (by rw[sF hf];exact bLQ _),bLZ (by rw[sF hf];exact bLQ _)]
 ·rw[show xs.length-(i+1)=0 by omega,bPG,List.take_zero,bMQ Yd];rfl
theorem pS{junk:List Γ}(hi:i<xs.length):(xs.flatMap f++junk).take (i*n)++(xs.drop (i+1)).flatMap f++(xs.flatMap f++junk).drop (i*n+(xs.length-(i+1))*n)=(xs.eraseIdx i).flatMap f++(xs.flatMap f++junk).drop ((xs.length-1)*n):=by
 rw[bMP (by rw[aS hf];exact bPJ _ Yd),aHG hf,←bLN,←List.eraseIdx_eq_take_drop_succ,←bNV,show i+(xs.length-(i+1))=xs.length-1 by omega]
theorem uC{cap:Nat}{junk:List Γ}(hi:i<xs.length)(_:(xs.flatMap f).length=xs.length*n)(I:(xs.flatMap f++junk).length=cap*n)(hcap:xs.length≤cap):((xs.eraseIdx i).flatMap f++(xs.flatMap f++junk).drop ((xs.length-1)*n)).length=cap*n:=by
 have h1:(xs.length-1)*n≤cap*n:=bPJ _ Yd;rw[GE,aS hf,bNF hi,bOI,I];omega
theorem CC{cap b e:Nat}{junk zs:List Γ}{cells:List Γ}(hi:i<xs.length)(hl1:(xs.flatMap f).length=xs.length*n)(I:(xs.flatMap f++junk).length=cap*n)(hcap:xs.length≤cap)(hz:cells=((xs.eraseIdx i).flatMap f++(xs.flatMap f++junk).drop ((xs.length-1)*n)).take ((xs.length-1)*n)++zs++((xs.eraseIdx i).flatMap f++(xs.flatMap f++junk).drop ((xs.length-1)*n)).drop ((xs.length-1)*n+zs.length))(hzl:(xs.length-1)*n+zs.length≤cap*n:=by simp;omega):
  bD e n (qS b (xs.length-1) cap) (xs.eraseIdx i).length ((xs.eraseIdx i).flatMap f) [(b,qC cells e)]:=by
 rw[bNF hi];have hE:((xs.eraseIdx i).flatMap f).length=(xs.length-1)*n:=by rw[aS hf,bNF hi]
 have hT:=uC hf hi hl1 I hcap;subst hz;generalize hR:(xs.flatMap f++junk).drop ((xs.length-1)*n)=R at hT ⊢
 have O:((xs.eraseIdx i).flatMap f++R).take ((xs.length-1)*n)=(xs.eraseIdx i).flatMap f:=by rw[←hE,bPY]
 rw[O,bLK];refine bLG ⟨b,cap,_,rfl,Yd,rfl,hE,?_⟩;rw[GE,GE,bOI,hT,hE];omega
end
theorem ZA(sv:Γ)(xs:List C1.uV)(i:Nat)(ν:aD)(D:aC)(ha:bD 202 3 sv xs.length (xs.flatMap cC) ν)(hi:i<xs.length):HA prog 344 [sv,qI (i:Int),qI ((i+1:Nat):Int)] D ν (fun _ v ν'=>bD 202 3 v (xs.eraseIdx i).length ((xs.eraseIdx i).flatMap cC) ν'):=by
 obtain⟨b,cap,junk,rfl,hcap,rfl,hl1,I⟩:=ha.some Yd;refine jR 33 func344 rfl rfl rfl rfl fun h0 hwl hwn=>aA<|Zk rfl<|aL<|Za rfl<|Za rfl<|Za rfl<|Za rfl<|mM rfl U26 rfl rfl rfl bQK<|aDE (l:=i) (h:=i+1) (m:=xs.length) rfl U26 gJ rfl rfl rfl rfl Yd Yd hcap rfl bQK fun v3=>bK<|Za rfl ?_;refine Za rfl<|Zaw rfl<|aF<|Zag rfl (fun hc1=>?_) fun hc1=>?_
 ·exact absurd hc1 Yd
 ·refine aQ<|aA<|Za rfl<|mM rfl U26 rfl rfl rfl bQK<|Zk rfl<|bS<|bE [] 2 8 58<|Za rfl<|Za rfl<|AW (i:=i) rfl U26 gJ rfl rfl Yd rfl bQK<|Wbc ?_;refine AI (j:=i+1) rfl U26 gJ rfl rfl Yd rfl bQK fun o ho=>nG (A:=[]) (B:=[]) (sz:=3) (xs:=(xs.drop (i+1)).flatMap cC) rfl U26 rfl rfl gJ rfl rfl (wM (f:=cC) (fun _=>rfl) hi hcap ho I) (sF (f:=cC) fun _=>rfl) Yd Yae (cO Y4 _) (bLL rfl) rfl bQK ?_;rw[show i+(xs.length-(i+1))=xs.length-1 by omega];refine Zac [(b,qC ((xs.eraseIdx i).flatMap cC++(xs.flatMap cC++junk).drop ((xs.length-1)*3)) 202)] (by rw[bMH,pS (f:=cC) (fun _=>rfl) hi])<|Zk rfl<|aL<|Za rfl<|Za rfl<|mM rfl U26 rfl rfl rfl bQK<|Za rfl<|aFK (l:=xs.length-1) (h:=xs.length) rfl U26 gJ rfl rfl rfl Yd hcap Yd rfl bQK ?_;rw[show xs.length-(xs.length-1)=1 by omega];refine Y6 (A:=[]) (B:=[]) (zs:=[.bool false,qI 0,qI 0]) rfl rfl U26 rfl nS rfl Yd Yg (by rw[uC (f:=cC) (fun _=>rfl) hi hl1 I hcap];simp;omega) Yk bQK<|aL<|Za rfl<|We ?_
  exact Zaj [] [] [_] [_] rfl ⟨rfl,bQK⟩ rfl fun D hD=>CC (f:=cC) (fun _=>rfl) hi hl1 I hcap rfl
theorem XY(sv:Γ)(xs:List C2.Mk)(i:Nat)(ν:aD)(D:aC)(ha:bD 204 4 sv xs.length (xs.flatMap cM) ν)(hi:i<xs.length):HA prog 346 [sv,qI (i:Int),qI ((i+1:Nat):Int)] D ν (fun _ v ν'=>bD 204 4 v (xs.eraseIdx i).length ((xs.eraseIdx i).flatMap cM) ν'):=by
 obtain⟨b,cap,junk,rfl,hcap,rfl,hl1,I⟩:=ha.some Yd;refine jR 33 func346 rfl rfl rfl rfl fun h0 hwl hwn=>aA<|Zk rfl<|aL<|Za rfl<|Za rfl<|Za rfl<|Za rfl<|mM rfl U30 rfl rfl rfl bQK<|aDE (l:=i) (h:=i+1) (m:=xs.length) rfl U30 gW rfl rfl rfl rfl Yd Yd hcap rfl bQK fun v3=>bK<|Za rfl ?_;refine Za rfl<|Zaw rfl<|aF<|Zag rfl (fun hc1=>?_) fun hc1=>?_
 ·exact absurd hc1 Yd
 ·refine aQ<|aA<|Za rfl<|mM rfl U30 rfl rfl rfl bQK<|Zk rfl<|bS<|bE [] 2 8 58<|Za rfl<|Za rfl<|AW (i:=i) rfl U30 gW rfl rfl Yd rfl bQK<|Wbc ?_;refine AI (j:=i+1) rfl U30 gW rfl rfl Yd rfl bQK fun o ho=>nG (A:=[]) (B:=[]) (sz:=4) (xs:=(xs.drop (i+1)).flatMap cM) rfl U30 rfl rfl gW rfl rfl (wM (f:=cM) (fun _=>rfl) hi hcap ho I) (sF (f:=cM) fun _=>rfl) Yd Yae (cO j8 _) (bLL rfl) rfl bQK ?_;rw[show i+(xs.length-(i+1))=xs.length-1 by omega];refine Zac [(b,qC ((xs.eraseIdx i).flatMap cM++(xs.flatMap cM++junk).drop ((xs.length-1)*4)) 204)] (by rw[bMH,pS (f:=cM) (fun _=>rfl) hi])<|Zk rfl<|aL<|Za rfl<|Za rfl<|mM rfl U30 rfl rfl rfl bQK<|Za rfl<|aFK (l:=xs.length-1) (h:=xs.length) rfl U30 gW rfl rfl rfl Yd hcap Yd rfl bQK ?_;rw[show xs.length-(xs.length-1)=1 by omega];refine Y6 (A:=[]) (B:=[]) (zs:=[qI 0,qI 0,qI 0,qI 0]) rfl rfl U30 rfl nQ rfl Yd Yg (by rw[uC (f:=cM) (fun _=>rfl) hi hl1 I hcap];simp;omega) Yk bQK<|aL<|Za rfl<|We ?_
  exact Zaj [] [] [_] [_] rfl ⟨rfl,bQK⟩ rfl fun D hD=>CC (f:=cM) (fun _=>rfl) hi hl1 I hcap rfl
theorem ZU(sv:Γ)(xs:List C3.eL)(i:Nat)(ν:aD)(D:aC)(ha:bD 206 3 sv xs.length (xs.flatMap cL) ν)(hi:i<xs.length):HA prog 348 [sv,qI (i:Int),qI ((i+1:Nat):Int)] D ν (fun _ v ν'=>bD 206 3 v (xs.eraseIdx i).length ((xs.eraseIdx i).flatMap cL) ν'):=by
 obtain⟨b,cap,junk,rfl,hcap,rfl,hl1,I⟩:=ha.some Yd;refine jR 33 func348 rfl rfl rfl rfl fun h0 hwl hwn=>aA<|Zk rfl<|aL<|Za rfl<|Za rfl<|Za rfl<|Za rfl<|mM rfl U33 rfl rfl rfl bQK<|aDE (l:=i) (h:=i+1) (m:=xs.length) rfl U33 cF rfl rfl rfl rfl Yd Yd hcap rfl bQK fun v3=>bK<|Za rfl ?_;refine Za rfl<|Zaw rfl<|aF<|Zag rfl (fun hc1=>?_) fun hc1=>?_
 ·exact absurd hc1 Yd
 ·refine aQ<|aA<|Za rfl<|mM rfl U33 rfl rfl rfl bQK<|Zk rfl<|bS<|bE [] 2 8 58<|Za rfl<|Za rfl<|AW (i:=i) rfl U33 cF rfl rfl Yd rfl bQK<|Wbc ?_;refine AI (j:=i+1) rfl U33 cF rfl rfl Yd rfl bQK fun o ho=>nG (A:=[]) (B:=[]) (sz:=3) (xs:=(xs.drop (i+1)).flatMap cL) rfl U33 rfl rfl cF rfl rfl (wM (f:=cL) (fun _=>rfl) hi hcap ho I) (sF (f:=cL) fun _=>rfl) Yd Yae (cO m7 _) (bLL rfl) rfl bQK ?_;rw[show i+(xs.length-(i+1))=xs.length-1 by omega];refine Zac [(b,qC ((xs.eraseIdx i).flatMap cL++(xs.flatMap cL++junk).drop ((xs.length-1)*3)) 206)] (by rw[bMH,pS (f:=cL) (fun _=>rfl) hi])<|Zk rfl<|aL<|Za rfl<|Za rfl<|mM rfl U33 rfl rfl rfl bQK<|Za rfl<|aFK (l:=xs.length-1) (h:=xs.length) rfl U33 cF rfl rfl rfl Yd hcap Yd rfl bQK ?_;rw[show xs.length-(xs.length-1)=1 by omega];refine Y6 (A:=[]) (B:=[]) (zs:=[qI 0,qI 0,qI 0]) rfl rfl U33 rfl jM rfl Yd Yg (by rw[uC (f:=cL) (fun _=>rfl) hi hl1 I hcap];simp;omega) Yk bQK<|aL<|Za rfl<|We ?_
  exact Zaj [] [] [_] [_] rfl ⟨rfl,bQK⟩ rfl fun D hD=>CC (f:=cL) (fun _=>rfl) hi hl1 I hcap rfl
theorem YK(sv:Γ)(xs:List (Int×Int))(i:Nat)(ν:aD)(D:aC)(ha:bD 90 2 sv xs.length (xs.flatMap cP) ν)(hi:i<xs.length):HA prog 349 [sv,qI (i:Int),qI ((i+1:Nat):Int)] D ν (fun _ v ν'=>bD 90 2 v (xs.eraseIdx i).length ((xs.eraseIdx i).flatMap cP) ν'):=by
 obtain⟨b,cap,junk,rfl,hcap,rfl,hl1,I⟩:=ha.some Yd;refine jR 33 func349 rfl rfl rfl rfl fun h0 hwl hwn=>aA<|Zk rfl<|aL<|Za rfl<|Za rfl<|Za rfl<|Za rfl<|mM rfl U38 rfl rfl rfl bQK<|aDE (l:=i) (h:=i+1) (m:=xs.length) rfl U38 cY rfl rfl rfl rfl Yd Yd hcap rfl bQK fun v3=>bK<|Za rfl ?_;refine Za rfl<|Zaw rfl<|aF<|Zag rfl (fun hc1=>?_) fun hc1=>?_
 ·exact absurd hc1 Yd
 ·refine aQ<|aA<|Za rfl<|mM rfl U38 rfl rfl rfl bQK<|Zk rfl<|bS<|bE [] 2 8 58<|Za rfl<|Za rfl<|AW (i:=i) rfl U38 cY rfl rfl Yd rfl bQK<|Wbc ?_;refine AI (j:=i+1) rfl U38 cY rfl rfl Yd rfl bQK fun o ho=>nG (A:=[]) (B:=[]) (sz:=2) (xs:=(xs.drop (i+1)).flatMap cP) rfl U38 rfl rfl cY rfl rfl (wM (f:=cP) (fun _=>rfl) hi hcap ho I) (sF (f:=cP) fun _=>rfl) Yd Yae (cO zN _) (bLL rfl) rfl bQK ?_;rw[show i+(xs.length-(i+1))=xs.length-1 by omega];refine Zac [(b,qC ((xs.eraseIdx i).flatMap cP++(xs.flatMap cP++junk).drop ((xs.length-1)*2)) 90)] (by rw[bMH,pS (f:=cP) (fun _=>rfl) hi])<|Zk rfl<|aL<|Za rfl<|Za rfl<|mM rfl U38 rfl rfl rfl bQK<|Za rfl<|aFK (l:=xs.length-1) (h:=xs.length) rfl U38 cY rfl rfl rfl Yd hcap Yd rfl bQK ?_;rw[show xs.length-(xs.length-1)=1 by omega];refine Y6 (A:=[]) (B:=[]) (zs:=[qI 0,qI 0]) rfl rfl U38 rfl kR rfl Yd Yg (by rw[uC (f:=cP) (fun _=>rfl) hi hl1 I hcap];simp;omega) Yk bQK<|aL<|Za rfl<|We ?_
  exact Zaj [] [] [_] [_] rfl ⟨rfl,bQK⟩ rfl fun D hD=>CC (f:=cP) (fun _=>rfl) hi hl1 I hcap rfl
theorem oV{e sz n:Nat}{cells:List Γ}{v:Γ}{ν:aD}(ha:bD e sz v n cells ν):∀p∈ν,dC p.2:=by
 intro p hp;rcases ha with⟨_,_,_,_,rfl⟩|⟨b,cap,junk,_,_,rfl,_⟩
 ·cases hp
 ·simp only[bLS]at hp;subst hp;rfl
theorem ST(wb:Nat)(s:aO)(pv cv hv lv mv bl bc yc yq nv:Γ)(a:Int)(ν:aD)(D:aC)(hn:Sl D RI 1 nv [a])(ha:bD 202 3 cv s.row.counts.length (s.row.counts.flatMap cC) ν)(hsm:s.row.counts.length≤100)(Y:0≤a):kW prog 270 [qP wb,nv] D ((wb,qC (cZ s pv cv hv lv mv bl bc yc yq) 343)::ν) (fun _ _ ν'=>a<(s.row.counts.length:Int)∧∃U ν1,ν'=(wb,qC (cZ s pv U hv lv mv bl bc yc yq) 343)::ν1∧bD 202 3 U (s.row.counts.eraseIdx a.toNat).length ((s.row.counts.eraseIdx a.toNat).flatMap cC) ν1) (fun v=>(s.row.counts.length:Int)≤a∧v=fX 7):=by
 obtain⟨bt,ot,ct,rfl⟩:=dM hn Ye;obtain⟨i,rfl⟩:∃i:Nat,a=(i:Int):=⟨a.toNat,Yd⟩
 have hbt:=eQ hn;refine eH 34 func270 rfl rfl rfl rfl fun h0 hwl hwn=>Za5<|aY [] 7 11 1016<|Za rfl<|aX rfl hn<|Za rfl<|Zao rfl<|Zi rfl bA rfl<|Zi rfl dS rfl<|Zi rfl gF rfl<|Zp rfl pL rfl Mm0 rfl<|cE rfl U26 rfl ha rfl rfl bQK ?_;refine Zl [(_,_)] ν [] rfl (Or.inr Yi) (fun D5 O=>mF (i:Int) (s.row.counts.length:Int) _) (fun v5 Z O hp5=>dA (P:=prog) (fn:=f270) rfl ⟨hp5.1,hp5.2⟩) fun v5 Z ν5 O hp5=>?_;obtain⟨R,rfl⟩:=hp5;refine aF<|fL hbt Ye fun hap=>pY fun hnd=>?_;have hnu:=fE hap hnd;have hwbo:wb∉dN.mk [bt,wb]:=dN.out Ye;have hbto:bt∉dN.mk [bt,wb]:=dN.out Ye;refine aY (dN.mk [bt,wb]) 4 20 32766<|Za rfl<|Za rfl<|Zao rfl<|Zi rfl bA rfl<|Zi rfl dS rfl<|Zi rfl gF rfl<|bG rfl pL rfl Mm0 rfl Ym rfl bQK<|Waj ?_;refine Zah rfl<|aU ((wb,qC (cZ s pv cv hv lv mv bl bc yc yq) 343)::ν) rfl<|Zac ((wb,qC (cZ s pv cv hv lv mv bl bc yc yq) 343)::ν++[]) (n5 _).symm<|gH (A:=[(wb,qC (cZ s pv cv hv lv mv bl bc yc yq) 343)]) (ν:=ν) (B:=[]) rfl rfl rfl rfl Yo (oV ha) (fun D7 hB=>ZA _ s.row.counts i ν _ ha Yd) rfl bQK fun V D8 ν7 hE I=>Zac ((wb,qC (cZ s pv cv hv lv mv bl bc yc yq) 343)::ν7) (n5 _)<|Zao rfl<|Zi rfl bA rfl<|Zi rfl dS rfl<|Zi rfl gF rfl<|Zs (cZ s pv V hv lv mv bl bc yc yq) rfl I.cells1 u7 .head rfl I.cell1<|Zap ?_;exact i6 rfl fun D' hD=>⟨R,V,ν7,rfl,I⟩
theorem YO(wb:Nat)(s:aO)(pv cv hv lv mv bl bc yc yq nv:Γ)(a:Int)(ν:aD)(D:aC)(hn:Sl D RI 1 nv [a])(ha:bD 204 4 mv s.table.marks.length (s.table.marks.flatMap cM) ν)(hsm:s.table.marks.length≤100)(Y:0≤a):kW prog 278 [qP wb,nv] D ((wb,qC (cZ s pv cv hv lv mv bl bc yc yq) 343)::ν) (fun _ _ ν'=>a<(s.table.marks.length:Int)∧∃U ν1,ν'=(wb,qC (cZ s pv cv hv lv U bl bc yc yq) 343)::ν1∧bD 204 4 U (s.table.marks.eraseIdx a.toNat).length ((s.table.marks.eraseIdx a.toNat).flatMap cM) ν1) (fun v=>(s.table.marks.length:Int)≤a∧v=fX 7):=by
 obtain⟨bt,ot,ct,rfl⟩:=dM hn Ye;obtain⟨i,rfl⟩:∃i:Nat,a=(i:Int):=⟨a.toNat,Yd⟩
 have hbt:=eQ hn;refine eH 34 func278 rfl rfl rfl rfl fun h0 hwl hwn=>Za5<|aY [] 7 11 1016<|Za rfl<|aX rfl hn<|Za rfl<|Zao rfl<|Zi rfl bA rfl<|Zi rfl cW rfl<|Zi rfl gD rfl<|Zp rfl pK rfl Mm0 rfl<|cE rfl U30 rfl ha rfl rfl bQK ?_;refine Zl [(_,_)] ν [] rfl (Or.inr Yi) (fun D5 O=>mF (i:Int) (s.table.marks.length:Int) _) (fun v5 Z O hp5=>dA (P:=prog) (fn:=f278) rfl ⟨hp5.1,hp5.2⟩) fun v5 Z ν5 O hp5=>?_;obtain⟨R,rfl⟩:=hp5;refine aF<|fL hbt Ye fun hap=>pY fun hnd=>?_;have hnu:=fE hap hnd;have hwbo:wb∉dN.mk [bt,wb]:=dN.out Ye;have hbto:bt∉dN.mk [bt,wb]:=dN.out Ye;refine aY (dN.mk [bt,wb]) 4 20 32766<|Wca ?_;refine Zah rfl<|aU ((wb,qC (cZ s pv cv hv lv mv bl bc yc yq) 343)::ν) rfl<|Zac ((wb,qC (cZ s pv cv hv lv mv bl bc yc yq) 343)::ν++[]) (n5 _).symm<|gH (A:=[(wb,qC (cZ s pv cv hv lv mv bl bc yc yq) 343)]) (ν:=ν) (B:=[]) rfl rfl rfl rfl Yo (oV ha) (fun D7 hB=>XY _ s.table.marks i ν _ ha Yd) rfl bQK fun V D8 ν7 hE I=>Zac ((wb,qC (cZ s pv cv hv lv mv bl bc yc yq) 343)::ν7) (n5 _)<|Zao rfl<|Zi rfl bA rfl<|Zi rfl cW rfl<|Zi rfl gD rfl<|Zs (cZ s pv cv hv lv V bl bc yc yq) rfl I.cells1 o8 .head rfl I.cell1<|Zap ?_;exact i6 rfl fun D' hD=>⟨R,V,ν7,rfl,I⟩
theorem aBJ(wb:Nat)(s:aO)(pv cv hv lv mv bl bc yc yq nv:Γ)(a:Int)(ν:aD)(D:aC)(hn:Sl D RI 1 nv [a])(ha:bD 206 3 bl s.book.lines.length (s.book.lines.flatMap cL) ν)(hsm:s.book.lines.length≤100)(Y:0≤a):kW prog 282 [qP wb,nv] D ((wb,qC (cZ s pv cv hv lv mv bl bc yc yq) 343)::ν) (fun _ _ ν'=>a<(s.book.lines.length:Int)∧∃U ν1,ν'=(wb,qC (cZ s pv cv hv lv mv U bc yc yq) 343)::ν1∧bD 206 3 U (s.book.lines.eraseIdx a.toNat).length ((s.book.lines.eraseIdx a.toNat).flatMap cL) ν1) (fun v=>(s.book.lines.length:Int)≤a∧v=fX 7):=by
 obtain⟨bt,ot,ct,rfl⟩:=dM hn Ye;obtain⟨i,rfl⟩:∃i:Nat,a=(i:Int):=⟨a.toNat,Yd⟩
 have hbt:=eQ hn;refine eH 34 func282 rfl rfl rfl rfl fun h0 hwl hwn=>Za5<|aY [] 7 11 1016<|Za rfl<|Wbl ?_;refine Zl [(_,_)] ν [] rfl (Or.inr Yi) (fun D5 O=>mF (i:Int) (s.book.lines.length:Int) _) (fun v5 Z O hp5=>dA (P:=prog) (fn:=f282) rfl ⟨hp5.1,hp5.2⟩) fun v5 Z ν5 O hp5=>?_;obtain⟨R,rfl⟩:=hp5;refine aF<|fL hbt Ye fun hap=>pY fun hnd=>?_;have hnu:=fE hap hnd;have hwbo:wb∉dN.mk [bt,wb]:=dN.out Ye;have hbto:bt∉dN.mk [bt,wb]:=dN.out Ye;refine aY (dN.mk [bt,wb]) 4 20 32766<|Za rfl<|Za rfl<|Zao rfl<|Zi rfl bA rfl<|Zi rfl eR rfl<|Zi rfl cS rfl<|bG rfl fU rfl Mm0 rfl Ym rfl bQK<|Waj ?_;refine Zah rfl<|aU ((wb,qC (cZ s pv cv hv lv mv bl bc yc yq) 343)::ν) rfl<|Zac ((wb,qC (cZ s pv cv hv lv mv bl bc yc yq) 343)::ν++[]) (n5 _).symm<|gH (A:=[(wb,qC (cZ s pv cv hv lv mv bl bc yc yq) 343)]) (ν:=ν) (B:=[]) rfl rfl rfl rfl Yo (oV ha) (fun D7 hB=>ZU _ s.book.lines i ν _ ha Yd) rfl bQK fun V D8 ν7 hE I=>Zac ((wb,qC (cZ s pv cv hv lv mv bl bc yc yq) 343)::ν7) (n5 _)<|Zao rfl<|Zi rfl bA rfl<|Zi rfl eR rfl<|Zi rfl cS rfl<|Zs (cZ s pv cv hv lv mv V bc yc yq) rfl I.cells1 eP .head rfl I.cell1<|Zap ?_;exact i6 rfl fun D' hD=>⟨R,V,ν7,rfl,I⟩
theorem UM(wb:Nat)(s:aO)(pv cv hv lv mv bl bc yc yq nv:Γ)(a:Int)(ν:aD)(D:aC)(hn:Sl D RI 1 nv [a])(ha:bD 90 2 yq s.yard.claims.length (s.yard.claims.flatMap cP) ν)(hsm:s.yard.claims.length≤100)(Y:0≤a):kW prog 287 [qP wb,nv] D ((wb,qC (cZ s pv cv hv lv mv bl bc yc yq) 343)::ν) (fun _ _ ν'=>a<(s.yard.claims.length:Int)∧∃U ν1,ν'=(wb,qC (cZ s pv cv hv lv mv bl bc yc U) 343)::ν1∧bD 90 2 U (s.yard.claims.eraseIdx a.toNat).length ((s.yard.claims.eraseIdx a.toNat).flatMap cP) ν1) (fun v=>(s.yard.claims.length:Int)≤a∧v=fX 7):=by
 obtain⟨bt,ot,ct,rfl⟩:=dM hn Ye;obtain⟨i,rfl⟩:∃i:Nat,a=(i:Int):=⟨a.toNat,Yd⟩
 have hbt:=eQ hn;refine eH 34 func287 rfl rfl rfl rfl fun h0 hwl hwn=>Za5<|aY [] 7 11 1016<|Za rfl<|aX rfl hn<|Za rfl<|Zao rfl<|Zi rfl bA rfl<|Zi rfl eG rfl<|Zi rfl hZ rfl<|Zp rfl qE rfl Mm0 rfl<|cE rfl U38 rfl ha rfl rfl bQK ?_;refine Zl [(_,_)] ν [] rfl (Or.inr Yi) (fun D5 O=>mF (i:Int) (s.yard.claims.length:Int) _) (fun v5 Z O hp5=>dA (P:=prog) (fn:=f287) rfl ⟨hp5.1,hp5.2⟩) fun v5 Z ν5 O hp5=>?_;obtain⟨R,rfl⟩:=hp5;refine aF<|fL hbt Ye fun hap=>pY fun hnd=>?_;have hnu:=fE hap hnd;have hwbo:wb∉dN.mk [bt,wb]:=dN.out Ye;have hbto:bt∉dN.mk [bt,wb]:=dN.out Ye;refine aY (dN.mk [bt,wb]) 4 20 32766<|Wbz ?_;refine Zah rfl<|aU ((wb,qC (cZ s pv cv hv lv mv bl bc yc yq) 343)::ν) rfl<|Zac ((wb,qC (cZ s pv cv hv lv mv bl bc yc yq) 343)::ν++[]) (n5 _).symm<|gH (A:=[(wb,qC (cZ s pv cv hv lv mv bl bc yc yq) 343)]) (ν:=ν) (B:=[]) rfl rfl rfl rfl Yo (oV ha) (fun D7 hB=>YK _ s.yard.claims i ν _ ha Yd) rfl bQK fun V D8 ν7 hE I=>Zac ((wb,qC (cZ s pv cv hv lv mv bl bc yc yq) 343)::ν7) (n5 _)<|Zao rfl<|Zi rfl bA rfl<|Zi rfl eG rfl<|Zi rfl hZ rfl<|Zs (cZ s pv cv hv lv mv bl bc yc V) rfl I.cells1 DV .head rfl I.cell1<|Zap ?_;exact i6 rfl fun D' hD=>⟨R,V,ν7,rfl,I⟩
theorem bFS{D:aC}{bt ot n ct:Nat}{a b c d:Int}(h:Sl D RI 1 (.slice (some ⟨bt,ot,none⟩) n ct) [a,b,c,d]):At D bt (ot+1) [qI b,qI c,qI d]:=by
  obtain⟨x,cap,hv,h1,h2,h3⟩:=h;cases hv;rcases h3 with h3|⟨b',o,ha,h3⟩
  · cases h3
  · cases ha;intro j v hj;have key:∀(i:Nat) (z:Int),[a,b,c,d][i]?= some z→(D bt)[ot+i]?= some (qI z):=fun i z hi=>by
      obtain⟨cs,hr,hc,hA⟩:=h3 i z hi;obtain rfl:cs=[qI z]:=hr;have:=hA 0 _ rfl;simpa using this
    match j with
    | 0 => obtain rfl : Value.int .i64 b = v := by simpa using hj
           exact key 1 b rfl
    | 1 => obtain rfl : Value.int .i64 c = v := by simpa using hj
           exact key 2 c rfl
    | 2 => obtain rfl : Value.int .i64 d = v := by simpa using hj
           exact key 3 d rfl
    |j+3=>simp at hj
theorem XZ(wb:Nat)(s:aO)(pv cv hv lv mv bl bc yc yq nv:Γ)(a b c d:Int)(ν:aD)(D:aC)(hn:Sl D RI 1 nv [a,b,c,d])(ha:bD 212 4 yc s.yard.chairs.length (s.yard.chairs.flatMap cH) ν)(hsm:s.yard.chairs.length≤100):kW prog 283 [qP wb,nv] D ((wb,qC (cZ s pv cv hv lv mv bl bc yc yq) 343)::ν) (fun _ _ ν'=>((a≤9∧max (max b c) d≤2)∧(s.yard.chairs.length:Int)<5)∧∃Y ν1,ν'=(wb,qC (cZ s pv cv hv lv mv bl bc Y yq) 343)::ν1∧bD 212 4 Y (s.yard.chairs++[(⟨a,⟨b,c,d⟩⟩:C7.Ch)]).length ((s.yard.chairs++[(⟨a,⟨b,c,d⟩⟩:C7.Ch)]).flatMap cH) ν1) (fun v=>((9<a∨2<max (max b c) d)∧v=fX 2)∨((a≤9∧max (max b c) d≤2)∧5≤(s.yard.chairs.length:Int)∧v=fX 3)):=by
 obtain⟨bt,ot,ct,rfl⟩:=dM hn Ye;have hbt:=eQ hn;refine eH 43 func283 rfl rfl rfl rfl (fun h0 hwl hwn=>Za5<|aY [] 5 10 240<|Za rfl<|aX rfl hn<|Zas rfl<|Za rfl<|SZ (j:=1) rfl U25 aJ rfl hn rfl Ye rfl bQK fun hsT=>Zf rfl (fun D3 hE=>L2.aQY _ b [c,d] _ (hsT.up RI.up (hE _ Ye)))<|Zas rfl<|Zu rfl U401 mS pW rfl (.cons rfl rfl (.cons rfl rfl .nil)) fun hJ hK hF O=>Zl [(_,_)] ν [] rfl (bLG Yi) (fun D5 R=>gE 2 [decide (9<a),decide (2<max (max b c) d)] _ _ ((iR (l:=[decide (9<a),decide (2<max (max b c) d)]) (fun _ _ _ h=>h) O Ye).up RB.up (R _ Ye))) (fun v5 D6 R hp5=>dA (P:=prog) (fn:=f283) rfl (bLL ⟨by simpa only[List.any_cons,List.any_nil,Bool.or_false,Bool.true_beq,bMF,LT]using hp5.1,hp5.2⟩)) fun v5 D6 ν5 R hp5=>?_);obtain⟨hf50,rfl⟩:=hp5;have Z:a≤9∧max (max b c) d≤2:=by simp only[List.any_cons,List.any_nil,Bool.or_false,Bool.true_beq,bMG,bLC,Int.not_lt]at hf50;exact hf50
 refine aL<|Za rfl<|Zao rfl<|Zi rfl bA rfl<|Zi rfl eG rfl<|Zi rfl eO rfl<|Zp rfl kS rfl Mm0 rfl<|cE rfl U37 rfl ha rfl rfl bQK<|Zl [(_,_)] ν [] rfl (Or.inr Yi) (fun D7 hB=>B6 (s.yard.chairs.length:Int) 5 _) (fun v7 D8 hB I=>dA (P:=prog) (fn:=f283) rfl (bLG ⟨Z,I.1,I.2⟩)) fun v7 D8 ν7 hB I=>?_;obtain⟨hH,rfl⟩:=I;refine aF<|fL hbt Ye fun hap=>pY fun hnd=>?_;have hnu:=fE hap hnd;have hwbo:wb∉dN.mk [bt,wb]:=dN.out Ye;have hbto:bt∉dN.mk [bt,wb]:=dN.out Ye;refine aY (dN.mk [bt,wb]) 4 22 131070<|Za rfl<|Za rfl<|Zao rfl<|Zi rfl bA rfl<|Zi rfl eG rfl<|Zi rfl eO rfl<|bG rfl kS rfl Mm0 rfl Ym rfl bQK<|Za rfl<|aX rfl hn<|Za rfl<|SZ (j:=1) rfl U25 aJ rfl hn rfl Ye rfl bQK fun hsU=>?_;refine aXX rfl U210 rfl Ye rfl bQK<|dG rfl oW rfl (bFS hn) Ye nT hbto rfl bQK<|Zt [qI a,qI b,qI c,qI d] rfl aCG uD rfl<|Zu rfl U37 iX uD rfl (.cons rfl rfl .nil) fun hN hO hI U=>NV VZ (⟨a,⟨b,c,d⟩⟩:C7.Ch) rfl U37 rfl rfl iX uD rfl NZ rfl rfl rfl ha U Yd Yo bQK fun Y ν1 V=>Zao rfl<|Zi rfl bA rfl<|Zi rfl eG rfl<|Zi rfl eO rfl<|Zs (cZ s pv cv hv lv mv bl bc Y yq) rfl V.cells1 OD .head rfl V.cell1<|Zap ?_;exact i6 rfl fun D' hD=>⟨⟨Z,hH⟩,Y,ν1,rfl,V⟩
end L12
def aJF(es:Array MapEntry)(M:List (Λ×Γ)):Prop:=es.toList.map (fun e=>(e.key,e.val))=M.map fun p=>(Value.string p.1,p.2)
def y8(s:Λ):List (Λ×Γ)→Nat→Option (Nat×Γ)
 | [],_=>none
 |(b,v)::M,i=>if(s==b)=true then some (i,v)else y8 s M (i+1)
theorem AM(s:Λ):∀(es:List MapEntry) (M:List (Λ×Γ)) (i:Nat),es.map (fun e=>(e.key,e.val))=M.map (fun p=>(Value.string p.1,p.2))→Instr.findNow .string (.string s) es i=some (y8 s M i)
 | [],[],i,_=>rfl
 | [],_::_,i,h=>by simp at h
 |_::_,[],i,h=>by simp at h
 |e::es,(b,v)::M,i,h=>by
  simp only[bMD,bNI,bOU]at h;obtain⟨⟨hk,hv⟩,h⟩:=h;simp only[Instr.findNow,hk,Instr.sameNow,y8];cases hb:s==b with
  |true=>simp[hv]
  |false=>simpa using AM s es M (i+1) h
theorem F0{k:Θ}(ht:P.underlying k=some .string)(s:Λ)(w:Δ){es:List MapEntry}{M:List (Λ×Γ)}(h:es.map (fun e=>(e.key,e.val))=M.map fun p=>(Value.string p.1,p.2)):(Instr.findKey k (.string s) es).run P w=.ok (y8 s M 0) w:=by
 unfold Instr.findKey;rw[Ω,TU.of ht w];simp only[Ξ,AM s es M 0 h,ε]
theorem yV{k:Θ}(ht:P.underlying k=some .string)(em:Bool)(s:Λ)(w:Δ):(Instr.checkKey em 10000 k (.string s)).run P w=.ok () w:=by
 show(Instr.checkKey em (9999+1) k (.string s)).run P w=_;rw[Instr.checkKey,Ω,TU.of ht w];rfl
def aRX(s:Λ)(M:List (Λ×Γ))(z0:Γ):Γ:=match y8 s M 0 with
 |some (_,v)=>v
 |none=>z0
theorem AK{t k e:Θ}{b clock:Nat}{es:Array MapEntry}{M:List (Λ×Γ)}{s:Λ}(ho:all[ix]?= some ⟨some d,.lookup t x y true,ty,pos,aft,g⟩)(ht:P.underlying t=some (.map k e))(hk:P.underlying k=some .string){z0:Γ}(hz:TZ P e z0)
  (hx:ev σ x=some (.map (some b))) (hy:ev σ y=some (.string s)) (hm:(b,Obj.map es clock)∈μ) (hb:b∉bad) (hM:aJF es M) (hN:Nat.blt d X.N=true) (hg:dH all σ g)
  (kk:WL P X bad all K Q os ((d,.tuple #[aRX s M z0,.bool (y8 s M 0).isSome])::σ) μ Ds):WL P X bad all K Q ((fl,ix)::os) σ μ Ds:=by
 have run:∀w,w.heap[b]?= some (Obj.map es clock)→(Instr.lookup t (.map (some b)) (.string s) true).run P w=.ok (.tuple #[aRX s M z0,.bool (y8 s M 0).isSome]) w:=by
  intro w hw;unfold aRX;have hf:=F0 hk s w hM;unfold Instr.lookup;simp only[Ω,TU.of ht w,Ξ,pO hw,ε,yV hk];rw[hf];cases y8 s M 0 with
  |none=>simp only[Ξ,Ω,hz w,ε];rfl
  |some r=>obtain⟨j,v⟩:=r;simp only[Ξ];rfl
 refine pD ho rfl rfl hN hg (fun a' w hh w' hk'=>?_) kk;simp only[execOp,hh.eval hx,hh.eval hy,Ω,run w' (hh.boxAt hm hb hk'),Ξ,ε]
theorem cU{t k e:Θ}{b clock:Nat}{es:Array MapEntry}{M:List (Λ×Γ)}{s:Λ}{A B:aD}(ho:all[ix]?= some ⟨none,.insert t x y z,ty,pos,aft,g⟩)(ht:P.underlying t=some (.map k e))(hk:P.underlying k=some .string)
  (hx:ev σ x=some (.map (some b))) (hy:ev σ y=some (.string s)) (hz:ev σ z=some v) (hM:aJF es M) (hnew:y8 s M 0=none) (hg:dH all σ g)
  (kk:∀es' clock',aJF es' (M++[(s,v)])→WL P X bad all K Q os σ (A++(b,.map es' clock')::B) Ds):WL P X bad all K Q ((false,ix)::os) σ (A++(b,.map es clock)::B) Ds:=by
 refine fG ho rfl rfl hg fun a' w hh=>?_
 obtain⟨h1,h2,h3,D,h4,h5,I⟩:=id hh;have hw:=(h4.box (b,.map es clock) Ye).1;have hf:=F0 hk s w hM;have hset:∀o,(setObj b o).run P w=.ok () {w with heap:=w.heap.setIfInBounds b o}:=fun o=>by simp[setObj,Sem.run,hw]
 have hr:(Instr.mapUpdate t (.map (some b)) (.string s) v).run P w=.ok () {w with heap:=w.heap.setIfInBounds b (.map (es.push {key:=.string s,val:=v,born:=clock}) (clock+1))}:=by
  unfold Instr.mapUpdate;simp only[Ω,TU.of ht w,Ξ,pO hw,yV hk];rw[hf,hnew];simp only[Ξ,hset]
 have hHas:bO (A++(b,Obj.map es clock)::B) b (.map es clock) (.map (es.push {key:=.string s,val:=v,born:=clock}) (clock+1)) (A++(b,.map (es.push {key:=.string s,val:=v,born:=clock}) (clock+1))::B):=.app .head;have hs:=h4.set (w':={w with heap:=w.heap.setIfInBounds b (.map (es.push {key:=.string s,val:=v,born:=clock}) (clock+1))}) hHas ⟨rfl,rfl⟩ trivial;have:(execOp a'.eval ⟨none,.insert t x y z,ty,pos,aft,g⟩).run P w=.ok .skip {w with heap:=w.heap.setIfInBounds b (.map (es.push {key:=.string s,val:=v,born:=clock}) (clock+1))}:=by
  simp only[execOp,hh.eval hx,hh.eval hy,hh.eval hz,Ω,hr,Ξ,ε]
 rw[this];refine⟨fun h=>Xad,kk _ _ ?_ _ _ ⟨h1,h2,h3,D,hs,h5,I.step (fun _ p hp=>bLL Ys) (fun _=>lX ⟨rfl,rfl⟩ (bKX.2 ⟨_,hHas.mem,rfl⟩)) hs.dom⟩⟩;unfold aJF at hM ⊢
 rw[Array.toList_push,bLO,bLO,hM];rfl
theorem Fn.of_alloc{f:FuncId}{args:Array Γ}{D:aC}{cs:List Γ}{e:Θ}{r:Nat→Γ}{post:aC→Γ→Prop}(hEF:EF P f)
  (h:∀w,fO D w→Calls P f args w fun en w'=>en=.returned (r w.heap.size)∧w'=w.alloc (.cells cs.toArray e (0,0))) (hp:∀D' b,Le D D'→At D' b 0 cs→post D' (r b)):Fn P f args D post:=by
 refine⟨hEF,fun w hw=>(h w hw).mono ?_⟩;rintro en w' ⟨he,rfl⟩;have hst:jE (hd w) w.heap.size D [] [] D w:=⟨bLQ _,bLQ _,(fun _ _ _=>rfl),(fun _ _=>rfl),hw,Yi,bNH,Yi,fun e he=>bLY he⟩
 obtain⟨D',hle,hb, -,hs⟩:=hst.pushD cs e;have hA:At D' w.heap.size 0 cs:=fun j v hv=>by rw[hb];simpa using hv
 exact⟨_,D',he,hs,hp D' _ hle hA⟩
namespace L12
open C12
def MT:List (Λ×Γ):=[(⟨#[112,108,97,99,101]⟩,.agg #[qI 0,.func (.func 266) #[] #[]]),(⟨#[115,101,101,110]⟩,.agg #[qI 2,.func (.func 267) #[] #[]]),(⟨#[99,111,117,110,116]⟩,.agg #[qI 2,.func (.func 268) #[] #[]]),(⟨#[98,97,99,107]⟩,.agg #[qI 2,.func (.func 269) #[] #[]]),(⟨#[117,110,99,111,117,110,116]⟩,.agg #[qI 1,.func (.func 270) #[] #[]]),(⟨#[119,114,111,110,103]⟩,.agg #[qI 1,.func (.func 271) #[] #[]]),(⟨#[111,102,102]⟩,.agg #[qI 1,.func (.func 272) #[] #[]]),(⟨#[116,105,100,101]⟩,.agg #[qI 3,.func (.func 273) #[] #[]]),(⟨#[115,116,101,112]⟩,.agg #[qI 1,.func (.func 274) #[] #[]]),(⟨#[108,101,118,101,108]⟩,.agg #[qI 1,.func (.func 275) #[] #[]]),(⟨#[114,97,105,115,101]⟩,.agg #[qI 2,.func (.func 276) #[] #[]]),(⟨#[109,97,114,107]⟩,.agg #[qI 4,.func (.func 277) #[] #[]]),(⟨#[117,110,109,97,114,107]⟩,.agg #[qI 1,.func (.func 278) #[] #[]]),(⟨#[104,105,114,101]⟩,.agg #[qI 2,.func (.func 279) #[] #[]]),(⟨#[98,114,105,110,103]⟩,.agg #[qI 2,.func (.func 280) #[] #[]]),(⟨#[115,109,117,100,103,101]⟩,.agg #[qI 1,.func (.func 281) #[] #[]]),(⟨#[115,116,114,105,107,101]⟩,.agg #[qI 1,.func (.func 282) #[] #[]]),(⟨#[98,114,111,107,101,110]⟩,.agg #[qI 4,.func (.func 283) #[] #[]]),(⟨#[112,97,114,116]⟩,.agg #[qI 3,.func (.func 284) #[] #[]]),(⟨#[102,105,116]⟩,.agg #[qI 1,.func (.func 285) #[] #[]]),(⟨#[99,108,97,105,109]⟩,.agg #[qI 2,.func (.func 286) #[] #[]]),(⟨#[117,110,99,108,97,105,109]⟩,.agg #[qI 1,.func (.func 287) #[] #[]])]
theorem TR(D:aC):IU prog 189 #[] D (fun _ v ν=>∃b es cl,v=.map (some b)∧ν=[(b,.map es cl)]∧aJF es MT):=by
 refine rD 25 func189 rfl rfl rfl rfl fun h0=>aA<|Zk rfl<|aL<|yL rfl rfl bQK fun qm=>?_
 have hO:aJF #[] []:=rfl;refine Zt [qI 0,.func (.func 266) #[] #[]] rfl hG fH rfl<|cU (A:=[]) (B:=[]) rfl U337 U9 rfl rfl rfl hO Yg bQK fun es1 cl1 hP=>Zt [qI 2,.func (.func 267) #[] #[]] rfl hG fH rfl<|cU (A:=[]) (B:=[]) rfl U337 U9 rfl rfl rfl hP Yg bQK fun es2 cl2 hR=>Zt [qI 2,.func (.func 268) #[] #[]] rfl hG fH rfl<|cU (A:=[]) (B:=[]) rfl U337 U9 rfl rfl rfl hR Yg bQK fun es3 cl3 hS=>Zt [qI 2,.func (.func 269) #[] #[]] rfl hG fH rfl<|cU (A:=[]) (B:=[]) rfl U337 U9 rfl rfl rfl hS Yg bQK fun es4 cl4 hX=>Zt [qI 1,.func (.func 270) #[] #[]] rfl hG fH rfl<|cU (A:=[]) (B:=[]) rfl U337 U9 rfl rfl rfl hX Yg bQK fun es5 cl5 hY=>Zt [qI 1,.func (.func 271) #[] #[]] rfl hG fH rfl<|cU (A:=[]) (B:=[]) rfl U337 U9 rfl rfl rfl hY Yg bQK fun es6 cl6 rA=>?_;refine Zt [qI 1,.func (.func 272) #[] #[]] rfl hG fH rfl<|cU (A:=[]) (B:=[]) rfl U337 U9 rfl rfl rfl rA Yg bQK fun es7 cl7 rB=>Zt [qI 3,.func (.func 273) #[] #[]] rfl hG fH rfl<|cU (A:=[]) (B:=[]) rfl U337 U9 rfl rfl rfl rB Yg bQK fun es8 cl8 hM8=>Zt [qI 1,.func (.func 274) #[] #[]] rfl hG fH rfl<|cU (A:=[]) (B:=[]) rfl U337 U9 rfl rfl rfl hM8 Yg bQK fun es9 cl9 hM9=>Zt [qI 1,.func (.func 275) #[] #[]] rfl hG fH rfl<|cU (A:=[]) (B:=[]) rfl U337 U9 rfl rfl rfl hM9 Yg bQK fun es10 cl10 I=>Zt [qI 2,.func (.func 276) #[] #[]] rfl hG fH rfl<|cU (A:=[]) (B:=[]) rfl U337 U9 rfl rfl rfl I Yg bQK fun es11 cl11 O=>Zt [qI 4,.func (.func 277) #[] #[]] rfl hG fH rfl<|cU (A:=[]) (B:=[]) rfl U337 U9 rfl rfl rfl O Yg bQK fun es12 cl12 R=>?_;refine Zt [qI 1,.func (.func 278) #[] #[]] rfl hG fH rfl<|cU (A:=[]) (B:=[]) rfl U337 U9 rfl rfl rfl R Yg bQK fun es13 cl13 U=>Zt [qI 2,.func (.func 279) #[] #[]] rfl hG fH rfl<|cU (A:=[]) (B:=[]) rfl U337 U9 rfl rfl rfl U Yg bQK fun es14 cl14 V=>Zt [qI 2,.func (.func 280) #[] #[]] rfl hG fH rfl<|cU (A:=[]) (B:=[]) rfl U337 U9 rfl rfl rfl V Yg bQK fun es15 cl15 Y=>Zt [qI 1,.func (.func 281) #[] #[]] rfl hG fH rfl<|cU (A:=[]) (B:=[]) rfl U337 U9 rfl rfl rfl Y Yg bQK fun es16 cl16 Z=>Zt [qI 1,.func (.func 282) #[] #[]] rfl hG fH rfl<|cU (A:=[]) (B:=[]) rfl U337 U9 rfl rfl rfl Z Yg bQK fun es17 cl17 hB=>Zt [qI 4,.func (.func 283) #[] #[]] rfl hG fH rfl<|cU (A:=[]) (B:=[]) rfl U337 U9 rfl rfl rfl hB Yg bQK fun es18 cl18 hE=>?_;refine Zt [qI 3,.func (.func 284) #[] #[]] rfl hG fH rfl<|cU (A:=[]) (B:=[]) rfl U337 U9 rfl rfl rfl hE Yg bQK fun es19 cl19 hF=>Zt [qI 1,.func (.func 285) #[] #[]] rfl hG fH rfl<|cU (A:=[]) (B:=[]) rfl U337 U9 rfl rfl rfl hF Yg bQK fun es20 cl20 hH=>Zt [qI 2,.func (.func 286) #[] #[]] rfl hG fH rfl<|cU (A:=[]) (B:=[]) rfl U337 U9 rfl rfl rfl hH Yg bQK fun es21 cl21 hI=>Zt [qI 1,.func (.func 287) #[] #[]] rfl hG fH rfl<|cU (A:=[]) (B:=[]) rfl U337 U9 rfl rfl rfl hI Yg bQK fun hJ hK hN=>Za rfl<|We ?_;exact aE rfl fun D hD=>⟨qm,hJ,hK,rfl,rfl,hN⟩
end L12
namespace C12
abbrev eI:=aO→List Int→Except Int aO
def HD(s:aO)(r:C1.dB):aO:={s with row:=r}
def ES(s:aO)(t:C2.aW):aO:={s with table:=t}
def HH(s:aO)(b:C3.bH):aO:={s with book:=b}
def GV(s:aO)(y:C7.aZ):aO:={s with yard:=y}
def I1(p:C7.Pt)(i:Nat)(v:Int):C7.Pt:=if i=0 then {p with a:=v}else if i=1 then {p with b:=v}else {p with c:=v}
def xH:eI:=fun s _=>if 7≤(s.row.places.length:Int)then .error 3 else .ok (HD s {s.row with places:=s.row.places++[2]})
def S6:eI:=fun s n=>match n with
 | [a,b]=>if(s.row.places.length:Int)≤a then .error 7 else if 2<b then .error 2 else .ok (HD s {s.row with places:=s.row.places.set a.toNat b})
 |_=>.error 4
def oF(back:Bool):eI:=fun s n=>match n with
 | [a,b]=>if(s.row.places.length:Int)<a∨9<b then .error 2 else if 6≤(s.row.counts.length:Int)then .error 3 else .ok (HD s {s.row with counts:=s.row.counts++[⟨back,a,b⟩]})
 |_=>.error 4
def oQ:eI:=fun s n=>match n with
 | [a]=>if(s.row.counts.length:Int)≤a then .error 7 else .ok (HD s {s.row with counts:=s.row.counts.eraseIdx a.toNat})
 |_=>.error 4
def xM:eI:=fun s n=>match n with
 | [a]=>if 6<a then .error 2 else .ok (HD s {s.row with wrong:=a})
 |_=>.error 4
def IA:eI:=fun s n=>match n with
 | [a]=>if 9<a then .error 2 else .ok (HD s {s.row with off:=a})
 |_=>.error 4
def R3:eI:=fun s n=>match n with
 | [a,b,c]=>if(s.table.heights.length:Int)≤a then .error 7 else if c<b∨99<c∨b+2<c then .error 2 else .ok (ES s {s.table with heights:=s.table.heights.set a.toNat (b,c)})
 |_=>.error 4
def R6:eI:=fun s n=>match n with
 | [a]=>if 99<a then .error 2 else .ok (ES s {s.table with step:=a})
 |_=>.error 4
def xR:eI:=fun s n=>match n with
 | [a]=>if 99<a then .error 2 else if 6≤(s.table.levels.length:Int)then .error 3 else .ok (ES s {s.table with levels:=s.table.levels++[a]})
 |_=>.error 4
def xP:eI:=fun s n=>match n with
 | [a,b]=>if(s.table.levels.length:Int)≤a then .error 7 else if 99<b then .error 2 else .ok (ES s {s.table with levels:=s.table.levels.set a.toNat b})
 |_=>.error 4
def yT:eI:=fun s n=>match n with
 | [a,b,c,d]=>if(s.table.heights.length:Int)≤max a b then .error 7 else if b<a then .error 2 else if d<c∨99<d then .error 2 else if 5≤(s.table.marks.length:Int)then .error 3 else .ok (ES s {s.table with marks:=s.table.marks++[⟨a,b,c,d⟩]})
 |_=>.error 4
def sG:eI:=fun s n=>match n with
 | [a]=>if(s.table.marks.length:Int)≤a then .error 7 else .ok (ES s {s.table with marks:=s.table.marks.eraseIdx a.toNat})
 |_=>.error 4
def oH(kind:Int):eI:=fun s n=>match n with
 | [a,b]=>if s.book.chairs≤max a b then .error 7 else if 8≤(s.book.lines.length:Int)then .error 3 else .ok (HH s {s.book with lines:=s.book.lines++[⟨kind,a,b⟩]})
 |_=>.error 4
def oY:eI:=fun s n=>match n with
 | [a]=>match s.book.lines[a.toNat]? with
  |none=>.error 7
  |some l=>if l.token= -1 then .error 6 else .ok (HH s {s.book with lines:=s.book.lines.set a.toNat {l with token:= -1}})
 |_=>.error 4
def sM:eI:=fun s n=>match n with
 | [a]=>if(s.book.lines.length:Int)≤a then .error 7 else .ok (HH s {s.book with lines:=s.book.lines.eraseIdx a.toNat})
 |_=>.error 4
def sK:eI:=fun s n=>match n with
 | [a,b,c,d]=>if 9<a∨2<max (max b c) d then .error 2 else if 5≤(s.yard.chairs.length:Int)then .error 3 else .ok (GV s {s.yard with chairs:=s.yard.chairs++[⟨a,⟨b,c,d⟩⟩]})
 |_=>.error 4
def tQ:eI:=fun s n=>match n with
 | [a,b,c]=>match s.yard.chairs[a.toNat]? with
  |none=>.error 7
  |some x=>if 3≤b then .error 7 else if 2<c then .error 2 else .ok (GV s {s.yard with chairs:=s.yard.chairs.set a.toNat {x with parts:=I1 x.parts b.toNat c}})
 |_=>.error 4
def HX:eI:=fun s n=>match n with
 | [a]=>if 9<a then .error 2 else .ok (GV s {s.yard with fit:=a})
 |_=>.error 4
def xI:eI:=fun s n=>match n with
 | [a,b]=>if b<a∨7<b then .error 2 else if 5≤(s.yard.claims.length:Int)then .error 3 else .ok (GV s {s.yard with claims:=s.yard.claims++[(a,b)]})
 |_=>.error 4
def oP:eI:=fun s n=>match n with
 | [a]=>if(s.yard.claims.length:Int)≤a then .error 7 else .ok (GV s {s.yard with claims:=s.yard.claims.eraseIdx a.toNat})
 |_=>.error 4
open Go.Lib
def pZ:List UInt8→List (List UInt8)
 | []=>[[]]
 |b::l=>if b=32 then []::pZ l else match pZ l with
  | []=>[[b]]
  |p::ps=>(b::p)::ps
theorem aWV(l:List UInt8):pZ l≠[]:=by
 cases l with
 |nil=>simp[pZ]
 |cons b l=>unfold pZ;split;simp;split<;>simp
theorem N8:∀{l:List UInt8},(32:UInt8)∉l→pZ l=[l]
 | [],_=>rfl
 |b::l,h=>by
  simp only[bNA,bQE]at h;unfold pZ;rw[bLI fun e=>h.1 e.symm,N8 h.2]
theorem j1:∀{l:List UInt8} {i:Nat},l[i]?= some 32→(32:UInt8)∉l.take i→pZ l=l.take i::pZ (l.drop (i+1))
 | [],i,h,_=>by simp at h
 |b::l,0,h,_=>by
  obtain rfl:b=32:=by simpa using h
  simp[pZ]
 |b::l,i+1,h,hn=>by
  simp only[List.take_succ_cons,bNA,bQE]at hn;rw[pZ,bLI fun e=>hn.1 e.symm,j1 Yax hn.2];simp
theorem P2{l:List UInt8}{i:Nat}{c:UInt8}:occAt l [c] i=true ↔ l[i]?= some c:=by
 unfold occAt;by_cases h:i<l.length
 ·rw[bMM h,bLB h];simp only[List.isPrefixOf,Bool.and_true,bPX,bPL];exact eq_comm
 ·rw[bMQ Yd,bNX Yd];simp[List.isPrefixOf]
theorem UC:∀(n:Nat) (l:List UInt8),l.length≤n→splitK [32] 0 (count l [32]) l=pZ l:=by
 intro n;induction n with
 |zero=>
  intro l hl;obtain rfl:l=[]:=bOF Yd;rfl
 |succ n ih=>
  intro l hl;rcases index_spec l [32]with⟨h1,h2⟩|⟨i,h1,h2,h3,h4⟩
  ·rw[count_miss h1];refine(N8 fun hm=>?_).symm;obtain⟨i,hi⟩:=bOX.1 hm;have:=h2 i (by have:=(bLD.1 hi).1;omega)
   rw[P2.2 hi]at this;cases this
  ·have hi:=P2.1 h3;rw[count_hit Ye h1,Nat.add_comm 1,splitK,bLI (by rw[h1];simp),h1]
   have hdl:(l.drop (i+1)).length≤n:=by
    have:=(bLD.1 hi).1;rw[bOI];omega
   simp only[bMR,Nat.add_zero,bNW];rw[ih _ hdl];refine(j1 hi fun hm=>?_).symm;obtain⟨j,hj⟩:=bOX.1 hm;have hjl:=(bLD.1 hj).1;rw[bMV]at hjl;rw[bOD Yd]at hj;have:=h4 j Yd;rw[P2.2 hj]at this;cases this
def JX(l:List UInt8):Λ:=⟨l.toArray⟩
theorem yY(s:Λ):JX s.data.toList=s:=Go.WideShapes.bytes_inj rfl
def eA(s:Λ):List Λ:=(pZ s.data.toList).map JX
theorem aAC(s:Λ):splitB ⟨#[32]⟩ 0 (countB s ⟨#[32]⟩) s=eA s:=by
 have h:=splitB_data ⟨#[32]⟩ 0 (countB s ⟨#[32]⟩) s;have h2:splitK [32] 0 (count s.data.toList [32]) s.data.toList=pZ s.data.toList:=UC _ _ (bLQ _);have h3:(splitB ⟨#[32]⟩ 0 (countB s ⟨#[32]⟩) s).map (·.data.toList)=pZ s.data.toList:=h.trans h2;unfold eA;rw[←h3,bPP];refine(List.map_id _).symm.trans (bQJ fun x _=>?_);exact(yY x).symm
theorem QU(s:Λ):countB s ⟨#[32]⟩+1=(eA s).length:=by
 have key:∀(n:Nat) (l:List UInt8),l.length≤n→count l [32]+1=(pZ l).length:=by
  intro n;induction n with
  |zero=>intro l hl;obtain rfl:l=[]:=bOF Yd;rfl
  |succ n ih=>
   intro l hl;rcases index_spec l [32]with⟨h1,h2⟩|⟨i,h1,h2,h3,h4⟩
   ·rw[count_miss h1,N8 fun hm=>?_]
    ·rfl
    ·obtain⟨i,hi⟩:=bOX.1 hm;have:=h2 i (by have:=(bLD.1 hi).1;omega)
     rw[P2.2 hi]at this;cases this
   ·have hi:=P2.1 h3;have hdl:(l.drop (i+1)).length≤n:=by
     have:=(bLD.1 hi).1;rw[bOI];omega
    rw[j1 hi fun hm=>?_,bLF,←ih _ hdl,count_hit Ye h1]
    ·simp only[bNW];omega
    ·obtain⟨j,hj⟩:=bOX.1 hm;have hjl:=(bLD.1 hj).1;rw[bMV]at hjl;rw[bOD Yd]at hj;have:=h4 j Yd;rw[P2.2 hj]at this;cases this
 unfold eA;rw[bMK];exact key _ _ (bLQ _)
theorem MO(l:List UInt8):(pZ l).length≤l.length+1:=by
 induction l with
 |nil=>simp[pZ]
 |cons b l ih=>
  unfold pZ;split
  ·simp;omega
  ·split
   ·simp
   ·rename_i p ps e;rw[e]at ih;simpa using Nat.le_succ_of_le ih
theorem aKY{l p:List UInt8}(h:p∈pZ l):p.length≤l.length:=by
 induction l generalizing p with
 |nil=>simp[pZ]at h;subst h;simp
 |cons b l ih=>
  unfold pZ at h;split at h
  ·rcases bNA.1 h with rfl|h
   ·simp
   ·exact Nat.le_succ_of_le (ih h)
  ·split at h
   ·simp only[bLS]at h;subst h;simp
   ·rename_i q qs e;rcases bNA.1 h with rfl|h
    ·have:=ih (p:=q) (by rw[e];simp);simpa using this
    ·exact Nat.le_succ_of_le (ih (by rw[e];exact bKY _ h))

def rU(l:List UInt8):Option Int:=if l.length≤3∧(l.head?≠some 48∨l.length=1)then(decNat l).map fun(n:Nat)=>(n:Int)else none
def bCA(l:List UInt8):Option Int:=match atoiAll l with
 |.ok v=>if 0≤v∧l.length≤3∧itoa v=l then some v else none
 |_=>none
theorem yW{b:UInt8}{d:Nat}(h:digitVal b=some d):d<10∧b=UInt8.ofNat (48+d):=by
 unfold digitVal at h;split at h
 ·cases h;refine⟨Yd,?_⟩;rw[show 48+(b.toNat-48)=b.toNat by omega];simp
 ·cases h
theorem MD{a b:Nat}(ha:a<256)(hb:b<256)(h:UInt8.ofNat a=UInt8.ofNat b):a=b:=by
 have:=bLE UInt8.toNat h;simp only[UInt8.toNat_ofNat']at this;omega
theorem aKH{u:Nat}(h:u<10):decDigits u=[UInt8.ofNat (48+u)]:=by rw[decDigits,dif_pos h]
theorem bGU{u:Nat}(h:10≤u)(h2:u<100):decDigits u=[UInt8.ofNat (48+u / 10),UInt8.ofNat (48+u%10)]:=by rw[decDigits,dif_neg Yd,aKH Yd];rfl
theorem bKM{u:Nat}(h:100≤u)(h2:u<1000):decDigits u=[UInt8.ofNat (48+u / 10 / 10),UInt8.ofNat (48+u / 10%10),UInt8.ofNat (48+u%10)]:=by rw[decDigits,dif_neg Yd,bGU Yd Yd];rfl
theorem Z9(u:Nat):itoa (u:Int)=decDigits u:=by unfold itoa;rw[bLI Yd,bMR]
theorem aGL{u:Nat}{b:UInt8}(h:b∈decDigits u):48≤b.toNat∧b.toNat≤57:=by
 induction u using Nat.strongRecOn with
 |_ u ih=>
  by_cases hu:u<10
  ·rw[aKH hu]at h;simp only[bLS]at h;subst h
   simp only[UInt8.toNat_ofNat'];omega
  ·rw[decDigits,dif_neg hu,bLM,bLS]at h;rcases h with h|h
   ·exact ih _ Yd h
   ·subst h;simp only[UInt8.toNat_ofNat'];omega
theorem aEF(l:List UInt8):bCA l=rU l:=by
 unfold bCA rU;by_cases hl:l.length≤3
 ·rw[atoiAll_short l Yd];match l,hl with
  | [],_=>rfl
  |b::r,hl=>
   have hat:atoi (b::r)=if(b==45)=true then(decNat r).map fun(m:Nat)=> -(m:Int)else if(b==43)=true then(decNat r).map fun(m:Nat)=>(m:Int)else(decNat (b::r)).map fun(m:Nat)=>(m:Int):=rfl
   rw[hat];by_cases O:b=45
   ·subst O;have hd:decNat (45::r)=none:=by unfold decNat decFrom digitVal;simp
    rw[hd];simp only[beq_self_eq_true,bNM,bNQ,ite_self];cases decNat r with
    |none=>rfl
    |some m=>
     simp only[bMS,NumEnd.ofOption];rw[bLI];rintro⟨h1,h2,h3⟩;obtain rfl:m=0:=by omega
     have h4:itoa (-((0:Nat):Int))=[48]:=by rw[show(-((0:Nat):Int))=((0:Nat):Int) by omega,Z9,aKH Yd];rfl
     rw[h4]at h3;simp at h3
   ·rw[bLI (by simpa using O)];by_cases R:b=43
    ·subst R;have hd:decNat (43::r)=none:=by unfold decNat decFrom digitVal;simp
     rw[hd];simp only[beq_self_eq_true,bNM,bNQ,ite_self];cases decNat r with
     |none=>rfl
     |some m=>
      simp only[bMS,NumEnd.ofOption];rw[bLI];rintro⟨h1,h2,h3⟩;rw[Z9]at h3;have:=aGL (u:=m) (b:=43) (by rw[h3];simp)
      simp at this
    ·rw[bLI (by simpa using R)];have hnone:decNat (b::r)=none→_:=fun h=>h
     cases hd:decNat (b::r)with
     |none=>simp only[bNQ,ite_self];rfl
     |some m=>
      simp only[bMS,NumEnd.ofOption];have key:(0≤(m:Int)∧(b::r).length≤3∧itoa (m:Int)=b::r) ↔ ((b::r).length≤3∧((b::r).head?≠some 48∨(b::r).length=1)):=by
       rw[Z9];unfold decNat at hd;match r,hl with
       | [],_=>
        simp only[List.isEmpty_cons,bMU,bNU,decFrom]at hd;cases h1:digitVal b with
        |none=>rw[h1]at hd;cases hd
        |some I=>
         rw[h1]at hd;simp only[bPL]at hd;obtain⟨U,rfl⟩:=yW h1;obtain rfl:I=m:=by omega
         rw[aKH U];simp
       | [b2],_=>
        simp only[List.isEmpty_cons,bMU,bNU,decFrom]at hd;cases h1:digitVal b with
        |none=>rw[h1]at hd;cases hd
        |some I=>
         cases h2:digitVal b2 with
         |none=>rw[h1,h2]at hd;cases hd
         |some d2=>
          rw[h1,h2]at hd;simp only[bPL]at hd;obtain⟨U,rfl⟩:=yW h1;obtain⟨k2,rfl⟩:=yW h2;by_cases z:I=0
          ·subst z;rw[aKH Yd];simp
          ·rw[bGU Yd Yd,show m / 10=I by omega,show m%10=d2 by omega];have:UInt8.ofNat I≠0:=fun e=>z (MD (a:=I) (b:=0) Yd Yd e)
           simp[this]
       | [b2,V],_=>
        simp only[List.isEmpty_cons,bMU,bNU,decFrom]at hd;cases h1:digitVal b with
        |none=>rw[h1]at hd;cases hd
        |some I=>
         cases h2:digitVal b2 with
         |none=>rw[h1,h2]at hd;cases hd
         |some d2=>
          cases h3:digitVal V with
          |none=>rw[h1,h2,h3]at hd;cases hd
          |some Y=>
           rw[h1,h2,h3]at hd;simp only[bPL]at hd;obtain⟨U,rfl⟩:=yW h1;obtain⟨k2,rfl⟩:=yW h2;obtain⟨Z,rfl⟩:=yW h3;by_cases z:I=0
           ·subst z;by_cases z2:m<10
            ·rw[aKH z2];simp
            ·rw[bGU Yd Yd];simp
           ·rw[bKM Yd Yd,show m / 10 / 10=I by omega,show m / 10%10=d2 by omega,show m%10=Y by omega];have:UInt8.ofNat I≠0:=fun e=>z (MD (a:=I) (b:=0) Yd Yd e)
            simp[this]
      by_cases hk:(b::r).length≤3∧((b::r).head?≠some 48∨(b::r).length=1)
      ·rw[bLR hk,bLR (key.2 hk)]
      ·rw[bLI hk,bLI (fun h=>hk (key.1 h))]
 ·rw[bLI (fun h=>hl h.1)];split
  ·rw[bLI (fun h=>hl h.2.1)]
  ·rfl
theorem aAQ{l:List UInt8}{n:Int}(h:rU l=some n):0≤n∧n≤999∧itoa n=l:=by
 have h2:=h;rw[←aEF]at h2;unfold bCA at h2;split at h2
 ·split at h2
  ·rename_i v _ hc;cases h2;refine⟨hc.1,?_,hc.2.2⟩;by_cases hb:n≤999
   ·exact hb
   ·exfalso
    obtain⟨u,rfl⟩:∃u:Nat,n=(u:Int):=⟨n.toNat,Yd⟩
    have h3:=hc.2.2;rw[Z9]at h3;have h4:4≤(decDigits u).length:=by
     rw[decDigits,dif_neg Yd,decDigits,dif_neg Yd,decDigits,dif_neg Yd,decDigits];split<;>simp
    rw[h3]at h4;omega
  ·cases h2
 ·cases h2

def lO:List (List UInt8×Nat×eI):=[
 ([112,108,97,99,101],0,xH),
 ([115,101,101,110],2,S6),
 ([99,111,117,110,116],2,oF false),
 ([98,97,99,107],2,oF true),
 ([117,110,99,111,117,110,116],1,oQ),
 ([119,114,111,110,103],1,xM),
 ([111,102,102],1,IA),
 ([116,105,100,101],3,R3),
 ([115,116,101,112],1,R6),
 ([108,101,118,101,108],1,xR),
 ([114,97,105,115,101],2,xP),
 ([109,97,114,107],4,yT),
 ([117,110,109,97,114,107],1,sG),
 ([104,105,114,101],2,oH 1),
 ([98,114,105,110,103],2,oH 2),
 ([115,109,117,100,103,101],1,oY),
 ([115,116,114,105,107,101],1,sM),
 ([98,114,111,107,101,110],4,sK),
 ([112,97,114,116],3,tQ),
 ([102,105,116],1,HX),
 ([99,108,97,105,109],2,xI),
 ([117,110,99,108,97,105,109],1,oP)]
def jZ(line:Λ):Option (eI×List Int):=
 match pZ line.data.toList with
 | []=>none
 |p::ps=>match lO.find? (fun x=>x.1==p)with
  |none=>none
  |some (_,k,act)=>if ps.length=k then(ps.mapM rU).map fun n=>(act,n)else none

structure iY(s:aO):Prop where
 pl:s.row.places.length≤7
 ct:s.row.counts.length≤6
 ht:s.table.heights.length=4
 lev:s.table.levels.length≤6
 mks:s.table.marks.length≤5
 ln:s.book.lines.length≤8
 ch:s.yard.chairs.length≤5
 cl:s.yard.claims.length≤5
 bc:s.book.chairs=3
def oT(f:eI):Prop:=∀s n s',iY s→f s n=.ok s'→iY s'
theorem aAN:∀x∈lO,oT x.2.2:=by
 intro x hx s n s' h e;obtain⟨h1,h2,h3,h4,h5,I,O,h8,R⟩:=h;simp only[lO,bNA,n4,bND]at hx;rcases hx with rfl|rfl|rfl|rfl|rfl|rfl|rfl|rfl|rfl|rfl|rfl|rfl|rfl|rfl|rfl|rfl|rfl|rfl|rfl|rfl|rfl|rfl;all_goals simp only[xH,S6,oF,oQ,xM,IA,R3,R6,xR,xP,yT,sG,oH,oY,sM,sK,tQ,HX,xI,oP]at e
 all_goals repeat' split at e
 all_goals cases e
 all_goals refine⟨?_,?_,?_,?_,?_,?_,?_,?_,?_⟩
 all_goals simp only[HD,ES,HH,GV]
 all_goals first|assumption|(simp<;>omega)|(simp only[List.length_eraseIdx];split<;>omega)
end C12
abbrev Cx.push(X:Cx)(dd:Deferred):Cx:={X with ds:=dd::X.ds}
theorem aYR{c:Operand}{f:FuncId}{c1 c2:List Γ}{ats:Array Θ}(ho:all[ix]?= some ⟨none,.defer {callee:=.value c,args:=#[],argTypes:=ats},ty,pos,aft,g⟩)(hX:X.r=none)(hc:ev σ c=some (.func (.func f) c1.toArray c2.toArray))(hg:dH all σ g)
  (k:WL P (X.push ⟨.fn (.func f) c2.toArray,c1.toArray⟩) bad all K Q os σ μ Ds):WL P X bad all K Q ((false,ix)::os) σ μ Ds:=by
 intro a w hh;rw[B5 ho];have hq:lM (Op.defer {callee:=.value c,args:=#[],argTypes:=ats})=false:=rfl;simp only[vQ,hq,bMU,bNU];unfold T4;rw[bLR (hh.wanted hg)];refine⟨fun _ _=>trivial,?_⟩;have e:(Oper.semAt (FW X.r).round a.eval ⟨none,.defer {callee:=.value c,args:=#[],argTypes:=ats},ty,pos,aft,g⟩).run P w=.ok (.defer ⟨.fn (.func f) c2.toArray,c1.toArray⟩) w:=by
  rw[hX];show(Oper.semAt none a.eval _).run P w=_;rw[Oper.semAt_none];simp only[execOp,resolve,hh.eval hc,Deferred.ofValue,Array.map_empty,Array.append_empty];rfl
 rw[e];obtain⟨h1,h2,h3,D,h4,h5,I⟩:=hh;exact⟨fun h=>Xad,k _ _ ⟨h1,h2,by simp[Act.put,h3],D,h4,h5,I⟩⟩
theorem bFW{f:FuncId}{fn:Func}{c:Code}{args:List Γ}{D:aC}{post:aC→Γ→Prop}(N:Nat)(hf:P.funcs[f]?= some fn)(hn:(fn.name== "runtime.NumGoroutine")=false)(hb:fn.body=some c)(hN:fn.ntmps=N)(hsz:Nat.ble args.length N=true)
  (h:∀h0:H0,WC P ⟨none,N,[],h0,h0.size,D,[],none⟩ (bodyPostDIn (FW none) 0 P fn (rG ⟨none,N,[],h0,h0.size,D,[],none⟩ fun D' v _=>post D' v)) c (jY 0 args) [] [D]):Fn P f args.toArray D post:=by
 refine⟨EF.of hf hn hb,fun w hw=>?_⟩;subst hN;have hsz:=bNJ hsz;refine(dY (r:=none) (n:=0)).1 ((callsIn_of_wp_defers (R:=rG ⟨none,fn.ntmps,[],hd w,w.heap.size,D,[],none⟩ fun D' v _=>post D' v) hf hb bQK (h (hd w) _ w ⟨?_,fun s v hs=>?_,rfl,D,⟨bLQ _,bLQ _,fun _ _ _=>rfl,fun _ _=>rfl,hw,Yi,bNH,Yi,fun e he=>bLY he⟩,fun D₁ h1=>?_,bQK⟩) rfl).mono ?_)
 ·simp;omega
 ·obtain⟨_,h2⟩:=gV args 0 s v hs;have hl:=(bLD.1 h2).1;simp only[bPB]at h2 hl;show(args.toArray++_)[s]?= some v;rw[bNT Yay];simpa using h2
 ·simp only[bLS]at h1;subst h1;exact Le.refl _
 ·rintro e w' ⟨v,D',μ',rfl,hs,hp⟩;exact⟨v,D',rfl,hs.sub (by intro p hp;cases hp) bNH,hp⟩
def JH(P:Program)(f:FuncId)(args:List Γ)(D:aC)(ν:aD)(u u2:FrameMode)(post:aC→aD→Prop):Prop:=
 EF P f∧∀w,fO D w→(∀p∈ν,w.heap[p.1]?= some p.2∧D p.1=[]∧dC p.2)→ν.ks.Nodup→CallsDIn (FW none) 0 P f args.toArray u w fun e u' w'=>∃v D' ν',e=.returned v∧u'=u2∧jE (hd w) w.heap.size D ν.ks ν' D' w'∧post D' ν'
theorem aDX{fn:Func}{post:aC→Γ→aD→Prop}{dpost:aC→aD→Prop}{A B ν:aD}{f:FuncId}{c1 c2:List Γ}{u u2:FrameMode}{rs:List ResultVar}(hu:u≠.run)(hds:X.ds=[⟨.fn (.func f) c2.toArray,c1.toArray⟩])(hex:X.ex=none)(hun:∀p∈ν,dC p.2)
  (hf:∀D,(∀D₁∈Ds,Le D₁ D)→JH P f (c1++c2) D ν u u2 dpost) (hst:settle u2=.returning) (hr:fn.results=rs.toArray)
  (h:∀D ν',(∀D₁∈Ds,Le D₁ D)→dpost D ν'→∃vs,A1 P X σ (A++ν'++B) rs vs∧post D (tA vs) (A++ν'++B)):∀a w,Hl X σ (A++ν++B) Ds a w→LeavesIn (FW none) 0 P fn a.tmps (rG X post) a.defers u w:=by
 intro a w hh;obtain⟨h1,h2,h3,D,h4,h5,I⟩:=id hh;rw[h3,hds];have hF:=hf D h5;have hbx:∀p∈ν,_:=fun p hp=>h4.box p (bLH _ (LE _ hp))
 have hnd:=h4.nd;simp only[bLO]at hnd;refine leavesIn_cons hu (fun hh=>by simp[FW]at hh) (f:=f) (args:=(c1++c2).toArray) ?_ (fun _ _=>trivial) ?_
 ·show(callFunc f (c1.toArray++c2.toArray)).run P w=_;rw[hF.1];simp
 ·refine(hF.2 w h4.agr (fun p hp=>⟨(hbx p hp).1,(hbx p hp).2.1,hun p hp⟩) (bLJ.1 (bLJ.1 hnd).1).2.1).mono ?_;rintro e u' w' ⟨v,D',ν',rfl,rfl,hs,hp⟩;have hle:=iF h4.agr hs;have h5':∀D₁∈Ds,Le D₁ D':=fun D₁ hD₁=>(h5 D₁ hD₁).trans hle
  obtain⟨vs,hv,hpost⟩:=h D' ν' h5' hp;have hh':Hl X σ (A++ν'++B) Ds a w':=⟨h1,h2,h3,D',h4.afterG hs,h5',Xba⟩
  show LeavesIn (FW none) 0 P fn a.tmps (rG X post) [] (settle u') w';rw[hst];exact⟨_,jN hh' hr hv,_,D',_,rfl,h4.afterG hs,hpost⟩
theorem bHL{fn:Func}{post:aC→Γ→aD→Prop}{dpost:aC→aD→Prop}{A B ν:aD}{f:FuncId}{c1 c2:List Γ}{rs:List ResultVar}{e:Exit}(he:(match e with|.normal=>true|.ret=>true|_=>false)=true)(hds:X.ds=[⟨.fn (.func f) c2.toArray,c1.toArray⟩])(hex:X.ex=none)(hun:∀p∈ν,dC p.2)
  (hf:∀D,(∀D₁∈Ds,Le D₁ D)→JH P f (c1++c2) D ν .returning .returning dpost) (hr:fn.results=rs.toArray)
  (h:∀D ν',(∀D₁∈Ds,Le D₁ D)→dpost D ν'→∃vs,A1 P X σ (A++ν'++B) rs vs∧post D (tA vs) (A++ν'++B)):∀a w,Hl X σ (A++ν++B) Ds a w→bodyPostDIn (FW none) 0 P fn (rG X post) e a w:=by
 intro a w hh;have:=aDX (u:=.returning) (u2:=.returning) Ye hds hex hun hf rfl hr h a w hh;cases e<;>first|exact this|cases he
theorem NN{fn:Func}{post:aC→Γ→aD→Prop}{dpost:aC→aD→Prop}{A B ν:aD}{f:FuncId}{c1 c2:List Γ}{rs:List ResultVar}{v:Γ}(hds:X.ds=[⟨.fn (.func f) c2.toArray,c1.toArray⟩])(hex:X.ex=none)(hun:∀p∈ν,dC p.2)
  (hf:∀D,(∀D₁∈Ds,Le D₁ D)→JH P f (c1++c2) D ν (.panicking (pC v)) (.panicking [{v,recovered:=true}]) dpost) (hr:fn.results=rs.toArray)
  (h:∀D ν',(∀D₁∈Ds,Le D₁ D)→dpost D ν'→∃vs,A1 P X σ (A++ν'++B) rs vs∧post D (tA vs) (A++ν'++B)):∀a w,Hl X σ (A++ν++B) Ds a w→bodyPostDIn (FW none) 0 P fn (rG X post) (.panic (pC v)) a w:=
 fun a w hh=>aDX Ye hds hex hun hf rfl hr h a w hh
theorem aRU{f:FuncId}{fn:Func}{id t:Nat}{y:Code}{args:List Γ}{D:aC}{ν:aD}{u u2:FrameMode}{rv:Γ}{dpost:aC→aD→Prop}{ats:Array Θ}(N:Nat)(hf:P.funcs[f]?= some fn)(hn:(fn.name== "runtime.NumGoroutine")=false)
  (hb:fn.body=some (.seq (.region id #[⟨some t,.call {callee:=.builtin .recover,args:=#[],argTypes:=ats},ty,pos,aft,none⟩] false) y)) (hN:fn.ntmps=N) (hsz:Nat.ble args.length N=true) (ht:Nat.blt t N=true)
  (hrec:∀(c₀:Frame) (cs:List Frame),c₀.mode=u→(recoverD (c₀::cs)=some (rv,{c₀ with mode:=u2}::cs))∨(recoverD (c₀::cs)=none∧rv=.nilIface∧u2=u))
  (h:∀h0:H0,(∀p∈ν,p.1<h0.size)→ν.ks.Nodup→WC P (sV N h0 D ν.ks) (bodyPost P fn (CZ (sV N h0 D ν.ks) (fun D' _ ν'=>dpost D' ν') fun _=>False)) y ((t,rv)::jY 0 args) ν [D]):JH P f args D ν u u2 dpost:=by
 refine⟨EF.of hf hn hb,fun w hw hν hnd=>?_⟩;subst hN;have hsz:=bNJ hsz;refine callsDIn_of_wpSIn hf hb bQK fun c₀ cs hm=>?_
 have hcs:({c₀ with mode:=u}:Frame)=c₀:=by subst hm;rfl
 have hH:Hl (sV fn.ntmps (hd w) D ν.ks) (jY 0 args) ν [D] {tmps:=args.toArray++Array.replicate (fn.ntmps-args.toArray.size) undef,defers:=[]} w:=by
  refine⟨?_,fun s v hs=>?_,rfl,D,⟨bLQ _,bLQ _,fun _ _ _=>rfl,fun _ _=>rfl,hw,(fun p hp=>?_),hnd,(fun p hp=>(hν p hp).2.2),fun e he=>bLY he⟩,fun D₁ h1=>?_,bQK⟩
  ·simp[sV];omega
  ·obtain⟨_,h2⟩:=gV args 0 s v hs;have hl:=(bLD.1 h2).1;simp only[bPB]at h2 hl;show(args.toArray++_)[s]?= some v;rw[bNT Yay];simpa using h2
  ·exact⟨(hν p hp).1,(hν p hp).2.1,bLG (bKX.2 ⟨p,hp,rfl⟩)⟩
  ·simp only[bLS]at h1;subst h1;exact Le.refl _
 have key:=h (hd w) (fun p hp=>bR (hν p hp).1) hnd _ w (hH.put ht rv);refine wpSIn_seq (wpSIn_region ?_);have hex:∀ρ:Operand→Γ,(execOp ρ ⟨some t,.call {callee:=.builtin .recover,args:=#[],argTypes:=ats},ty,pos,aft,none⟩).run P w=.ok .recover w:=fun ρ=>by
  simp only[execOp,resolve,Array.map_empty];rfl
 have fin:∀cs',cs'=({c₀ with mode:=u2}:Frame)::cs→(y.wpSIn (FW none) 0 P (bodyPostS P fn c₀ cs fun e u' w'=>∃v D' ν',e=.returned v∧u'=u2∧jE (hd w) w.heap.size D ν.ks ν' D' w'∧dpost D' ν')
   (Act.put {tmps:=args.toArray++Array.replicate (fn.ntmps-args.toArray.size) undef,defers:=[]} (some t) rv) cs' w):=by
  rintro cs' rfl;refine wpSIn_of_wpIn rfl (wpIn_mono key fun e a w' hq=>?_);cases e with
  |normal|ret=>
   obtain⟨hd',v,hr,hR⟩:=hq;rcases hR with⟨v',D',ν',he,hs,hp⟩|⟨_,_,_,_,hp⟩
   ·exact⟨hd',u2,rfl,v,hr,v',D',ν',he,rfl,hs,hp⟩
   ·exact hp.elim
  |panic ch=>
   obtain⟨hd',hR⟩:=hq;rcases hR with⟨v',D',ν',he,hs,hp⟩|⟨_,_,_,_,hp⟩
   ·cases he
   ·exact hp.elim
  |outgrown=>
   rcases hq with⟨v',D',ν',he,hs,hp⟩|⟨_,_,_,_,hp⟩
   ·cases he
   ·exact hp.elim
  |exit=>exact hq.elim
  |goto=>exact hq.elim
 show wpOpsSIn (FW none) 0 P _ _ [0] _ _ _;simp only[wpOpsSIn,List.getElem?_toArray,List.getElem?_cons_zero];refine⟨fun _ _=>trivial,?_⟩;rw[bLR Ybc,hex];rcases hrec c₀ cs hm with hr|⟨hr,rfl,rfl⟩
 ·simp only[hr];exact fin _ rfl
 ·simp only[hr];exact fin _ (by rw[hcs])
theorem aPD{c₀:Frame}{cs:List Frame}(hm:c₀.mode=.returning):recoverD (c₀::cs)=none:=by simp[recoverD,hm]
theorem aUE{c₀:Frame}{cs:List Frame}{v:Γ}(hm:c₀.mode=.panicking (pC v)):recoverD (c₀::cs)=some (v,{c₀ with mode:=.panicking [{v,recovered:=true}]}::cs):=by simp[recoverD,hm,pC]
theorem kW.reorder{f:FuncId}{args:List Γ}{D:aC}{ν ν2:aD}{post post':aC→Γ→aD→Prop}{pan pan':Γ→Prop}(h:kW P f args D ν post pan)(hp:ν.Perm ν2)(h1:∀D' v ν',Le D D'→post D' v ν'→∃ν'',ν''.Perm ν'∧post' D' v ν'')(h2:∀v,pan v→pan' v):kW P f args D ν2 post' pan':=by
 refine⟨h.1,fun w hw hν hn=>(h.2 w hw (fun p hp'=>hν p (hp.mem_iff.1 hp')) ((hp.map (·.1)).nodup_iff.2 hn)).mono ?_⟩;have hk:∀b,b∉ν2.ks→b∉ν.ks:=fun b hb hm=>hb ((hp.map (·.1)).mem_iff.1 hm)
 rintro e w' (⟨v,D',ν',he,hs,hpost⟩|⟨v,D',he,hs,hpan⟩)
 ·obtain⟨ν'',hq,hpost'⟩:=h1 D' v ν' (iF hw hs) hpost;refine bLL ⟨v,D',ν'',he,⟨hs.hlo,hs.size,fun b hb hm=>hs.old b hb (hk b hm),hs.dold,hs.agr,fun p hp'=>?_,(hq.map (·.1)).nodup_iff.2 hs.nd,fun p hp'=>hs.fz p (hq.mem_iff.1 hp'),hs.env⟩,hpost'⟩;obtain⟨I,k2,O⟩:=hs.box p (hq.mem_iff.1 hp');exact⟨I,k2,O.imp id fun hm=>(hp.map (·.1)).mem_iff.1 hm⟩
 ·exact bLG ⟨v,D',he,⟨hs.hlo,hs.size,fun b hb hm=>hs.old b hb (hk b hm),hs.dold,hs.agr,(fun p hp'=>by cases hp'),bNH,(fun p hp'=>by cases hp'),hs.env⟩,h2 v hpan⟩
theorem oM{I O:aD}(h:∀ [BEq (Nat×Obj)] [LawfulBEq (Nat×Obj)] (a:Nat×Obj),I.count a=O.count a):I.Perm O:=by
 classical
 exact List.perm_iff_count.2 fun a=>h a
def bKI(Q:Exit→Act→Δ→Prop):Exit→Act→Δ→Prop:=fun e a w=>match e with
 |.panic _=>False
 |e=>Q e a w
theorem bFP:NP (bKI Q):=fun _ _ _ h=>h
theorem aJL{c:Code}(h:WC P X (bKI Q) c σ μ Ds):WC P X Q c σ μ Ds:=fun a w hh=>wpIn_mono (h a w hh) fun e a w hq=>by cases e<;>first|exact hq|exact hq.elim
theorem aYJ{y:Code}(h:WC P X Q y σ μ Ds):∀a w,Hl X σ μ Ds a w→bKI (Exit.then (y.wpIn (FW X.r) 0 P Q) Q) .normal a w:=h
theorem aGF(a b:Λ):(a.toList==b.toList)=decide (a=b):=by
 rw[bOC];simp only[bPX,LT];rw[ByteArray.toList_eq,ByteArray.toList_eq];exact⟨fun h=>Go.WideShapes.bytes_inj h,fun h=>by rw[h]⟩
theorem qG{t t':Θ}{a b:Λ}(ho:all[ix]?= some ⟨some d,.binOp .add t x y t',ty,pos,aft,g⟩)(hx:ev σ x=some (.string a))(hy:ev σ y=some (.string b))(hl:a.size+b.size≤9223372036854775807)(hN:Nat.blt d X.N=true)(hg:dH all σ g)
  (kk:WL P X bad all K Q os ((d,.string (a++b))::σ) μ Ds):WL P X bad all K Q ((fl,ix)::os) σ μ Ds:=
 bZ ho rfl rfl hN hg (fun ρ hρ w'=>by
  have:((do eqGuard .add t x y (.string a) (.string b);binOp .add t (.string a) (.string b)):Sem Γ).run P w'=.ok (.string (a++b)) w':=by
   rw[Ω];have h1:(eqGuard .add t x y (.string a) (.string b)).run P w'=.ok () w':=rfl;rw[h1];show(binOp .add t (.string a) (.string b)).run P w'=_;rw[binOp_string_add];exact run_string_add_sum _ a b hl
  simp only[execOp,hρ x _ hx,hρ y _ hy];rw[Ω,this];rfl) kk
theorem oK{t t':Θ}{a b:Λ}(ho:all[ix]?= some ⟨some d,.binOp .eql t x y t',ty,pos,aft,g⟩)(hx:ev σ x=some (.string a))(hy:ev σ y=some (.string b))(hN:Nat.blt d X.N=true)(hg:dH all σ g)
  (kk:WL P X bad all K Q os ((d,.bool (decide (a=b)))::σ) μ Ds):WL P X bad all K Q ((fl,ix)::os) σ μ Ds:=
 V9 ho (fun w=>by
  rw[Ω];have h1:(eqGuard .eql t x y (.string a) (.string b)).run P w=.ok () w:=rfl;rw[h1,←aGF];show(binOp .eql t (.string a) (.string b)).run P w=_;rw[binOp_string_eql];rfl) hx hy hN hg kk
theorem _root_.Go.Fs.Zay{t:Θ}{t':Θ}{a:Λ}{b:Λ}(e9:(all[ix]?,ev σ x,ev σ y)=(some ⟨some d,.binOp .eql t x y t',ty,pos,aft,g⟩,some (.string a),some (.string b)))(kk:WL P X bad all K Q os ((d,.bool (decide (a=b)))::σ) μ Ds)(hN:Nat.blt d X.N=true:=by exact rfl)(hg:dH all σ g:=by exact bQK):WL P X bad all K Q ((fl,ix)::os) σ μ Ds:=oK (bLE (fun z=>z.1) e9) (bLE (fun z=>z.2.1) e9) (bLE (fun z=>z.2.2) e9) hN hg kk
theorem rQ{t:Θ}{s:Λ}{k:IntKind}{i:Int}{c:UInt8}(ho:all[ix]?= some ⟨some d,.index t x y,ty,pos,aft,g⟩)(ht:P.underlying t=some .string)(hx:ev σ x=some (.string s))(hy:ev σ y=some (.int k i))(h0:0≤i)(hc:s[i.toNat]?= some c)(hN:Nat.blt d X.N=true)(hg:dH all σ g)
  (kk:WL P X bad all K Q os ((d,.int .u8 c.toNat)::σ) μ Ds):WL P X bad all K Q ((fl,ix)::os) σ μ Ds:=
 bZ ho rfl rfl hN hg (fun ρ hρ w'=>by
  simp only[execOp,hρ x _ hx,hρ y _ hy];unfold Instr.index asIntOf;simp only[Ω,TU.of ht w',Ξ,ε,pure_bind,h0,bNM,hc]) kk
theorem aAV{t:Θ}{s:Λ}{I k2:IntKind}{i j:Int}(ho:all[ix]?= some ⟨some d,.slice t x (some y) (some z) none,ty,pos,aft,g⟩)(ht:P.underlying t=some .string)(hx:ev σ x=some (.string s))(hy:ev σ y=some (.int I i))(hz:ev σ z=some (.int k2 j))(h0:0≤i)(h1:i≤j)(h2:j≤(s.size:Int))(hN:Nat.blt d X.N=true)(hg:dH all σ g)
  (kk:WL P X bad all K Q os ((d,.string (s.extract i.toNat j.toNat))::σ) μ Ds):WL P X bad all K Q ((fl,ix)::os) σ μ Ds:=
 bZ ho rfl rfl hN hg (fun ρ hρ w'=>by
  simp only[execOp,hρ x _ hx,hρ y _ hy,hρ z _ hz,bNQ,bMS];unfold Instr.sliceAt Instr.slice Instr.sliceBounds Instr.sliceBound asIntOf;have O:0≤i∧i≤((j.toNat:Nat):Int):=by omega
  have a2:0≤j∧j≤(s.size:Int):=by omega
  simp only[Ω,TU.of ht w',Ξ,ε,pure_bind,O,a2,bPZ,bNM,Option.isSome_none,bMU,bNU]) kk
theorem TM{t:Θ}{s:Λ}{I:IntKind}{i:Int}(ho:all[ix]?= some ⟨some d,.slice t x (some y) none none,ty,pos,aft,g⟩)(ht:P.underlying t=some .string)(hx:ev σ x=some (.string s))(hy:ev σ y=some (.int I i))(h0:0≤i)(h2:i≤(s.size:Int))(hN:Nat.blt d X.N=true)(hg:dH all σ g)
  (kk:WL P X bad all K Q os ((d,.string (s.extract i.toNat s.size))::σ) μ Ds):WL P X bad all K Q ((fl,ix)::os) σ μ Ds:=
 bZ ho rfl rfl hN hg (fun ρ hρ w'=>by
  simp only[execOp,hρ x _ hx,hρ y _ hy,bNQ,bMS];unfold Instr.sliceAt Instr.slice Instr.sliceBounds Instr.sliceBound asIntOf;have O:0≤i∧i≤((s.size:Nat):Int):=by omega
  simp only[Ω,TU.of ht w',Ξ,ε,pure_bind,O,bPZ,bNM,Option.isSome_none,bMU,bNU]) kk
def aGU:Γ→Bool
 |.nilIface=>true
 |_=>false
theorem YB{t t':Θ}{c:Γ}{ms:Array (String×Θ)}(ho:all[ix]?= some ⟨some d,.binOp .eql t x (.const .nilIface) t',ty,pos,aft,g⟩)(ht:P.underlying t=some (.interface ms))(hx:ev σ x=some c)(hc:c=.nilIface∨∃t u,c=.iface t u)(hN:Nat.blt d X.N=true)(hg:dH all σ g)
  (kk:WL P X bad all K Q os ((d,.bool (aGU c))::σ) μ Ds):WL P X bad all K Q ((fl,ix)::os) σ μ Ds:=
 V9 ho (fun w=>by
  have h1:(eqGuard .eql t x (.const .nilIface) c .nilIface).run P w=.ok () w:=by
   rcases hc with rfl|⟨_,_,rfl⟩
   ·simp only[eqGuard];cases x<;>rfl
   ·rfl
  have h2:(Op.equal t c .nilIface).run P w=.ok (aGU c) w:=by
   show(Op.equalIn (9999+1) t c .nilIface).run P w=_;rw[Op.equalIn,Ω,TU.of ht w];rcases hc with rfl|⟨_,_,rfl⟩<;>rfl
  rw[Ω,h1];have h3:(binOp .eql t c .nilIface).run P w=((do Pure.pure (Value.bool (←Op.equal t c .nilIface))):Sem Γ).run P w:=by rcases hc with rfl|⟨_,_,rfl⟩<;>rfl
  show(binOp .eql t c .nilIface).run P w=_;rw[h3,Ω,h2];rfl) hx rfl hN hg kk
theorem aIZ{t t':Θ}{fs:Array Field}(ho:all[ix]?= some ⟨some d,.typeAssert x t' t true,ty,pos,aft,g⟩)(ht:P.underlying t=some (.struct fs))(hx:ev σ x=some (.iface t v))(hN:Nat.blt d X.N=true)(hg:dH all σ g)
  (kk:WL P X bad all K Q os ((d,.tuple #[v,.bool true])::σ) μ Ds):WL P X bad all K Q ((fl,ix)::os) σ μ Ds:=
 bZ ho rfl rfl hN hg (fun ρ hρ w'=>by
  simp only[execOp,hρ x _ hx];unfold Instr.typeAssert;simp only[Ω,TU.of ht w',Ξ,bNM,ε]) kk

theorem Fn.of_below{f:FuncId}{args:Array Γ}{D:aC}{post:aC→Γ→Prop}(hEF:EF P f)(h:∀w,fO D w→Calls P f args w fun en w'=>∃r,en=.returned r∧Go.RowKit.Below w.heap.size w w'∧∀D',Le D D'→post D' r):Fn P f args D post:=by
 refine⟨hEF,fun w hw=>(h w hw).mono ?_⟩;rintro en w' ⟨r,he,hb,hp⟩;refine⟨r,D,he,⟨bLQ _,hb.size,fun b hl _=>hb.block b hl,fun _ _=>rfl,hw.of (fun b hb'=>?_) rfl (hb.block 0 hw.pos),Yi,bNH,Yi,fun e he=>by rw[←bLY he];exact Prod.ext hb.os hb.output⟩,hp D (Le.refl _)⟩
 obtain⟨cs,e,fz,h1,h2⟩:=hw.1 b hb';exact⟨cs,e,fz,by rw[hb.block b (bR h1)];exact h1,h2⟩
theorem LK{α:Type}{R:Rd α}{t e:Θ}{D₁:aC}{ad:Option Addr}{n cap j:Nat}{k:IntKind}{xs:List α}(ho:all[ix]?= some ⟨some d,.slice t x (some y) none none,ty,pos,aft,g⟩)(ht:P.underlying t=some (.slice e))(hs:TS P e 1)(hx:ev σ x=some (.slice ad n cap))(hS:Sl D₁ R 1 (.slice ad n cap) xs)(hy:ev σ y=some (.int k (j:Int)))(hj:j≤n)
  (hN:Nat.blt d X.N=true) (hg:dH all σ g) (kk:∀a',Sl D₁ R 1 (.slice a' (n-j) (cap-j)) (xs.drop j)→WL P X bad all K Q os ((d,.slice a' (n-j) (cap-j))::σ) μ Ds):WL P X bad all K Q ((fl,ix)::os) σ μ Ds:=by
 obtain⟨a,c,hv,h1,h2,h3⟩:=hS;cases hv;refine bZ (v:=.slice (if cap=j then ad else ad.map (·.add (j*1))) (xs.length-j) (cap-j)) ho rfl rfl hN hg (fun ρ hρ w'=>?_) (kk _ ⟨_,_,by rw[bOI],by rw[bOI];omega,by rw[bOI];omega,?_⟩)
 ·simp only[execOp,bNQ,bMS,hρ x _ hx,hρ y _ hy];unfold Instr.sliceAt Instr.slice Instr.sliceBounds Instr.sliceBound asIntOf;have hle:(0:Int)≤(j:Int)∧(j:Int)≤(xs.length:Nat):=by omega
  simp only[Ω,TU.of ht w',Ξ,ε,pure_bind,hs w',hle,bPZ,bNM,bMR]
 ·by_cases he:xs.length=j
  ·exact bLL (bMQ Yd)
  ·rcases h3 with h3|⟨b,o,rfl,h3⟩
   ·subst h3;simp at he hj;omega
   ·refine bLG ⟨b,o+j,by rw[bLI Yd];simp[iI],fun i z hi=>?_⟩;rw[bNS]at hi;obtain⟨cs,hr,hc,hA⟩:=h3 _ _ hi;exact⟨cs,hr,hc,by rw[show o+j+i*1=o+(j+i)*1 by omega];exact hA⟩
end Go.Fs
namespace Go.Proofs
open Go.Shelf
def Tryz.lays169_ren:Go.Shelf.Ren:=⟨fun|169=>72|n=>n,fun|70=>135|9=>9|0=>0|72=>137|37=>99|127=>274|3=>3|5=>5|n=>n,fun|n=>n⟩
theorem Tryz.lays169:Go.Proofs.Lays.n169 Tryz.prog Tryz.lays169_ren:={
 mixed:=by kernel_rfl
 f169:=Tryz.func72.trans (bLE some Yg)
 t0:=Tryz.underlying0
 a0:=Tryz.isAgg0
 z0:=Tryz.sizeOf0
 v0:=Tryz.zeroValue0
 t3:=Tryz.underlying3
 a3:=Tryz.isAgg3
 z3:=Tryz.sizeOf3
 v3:=Tryz.zeroValue3
 t9:=Tryz.underlying9
 a9:=Tryz.isAgg9
 z9:=Tryz.sizeOf9
 v9:=Tryz.zeroValue9
 t37:=Tryz.underlying99
 a37:=Tryz.isAgg99
 z37:=Tryz.sizeOf99
 v37:=Tryz.zeroValue99
 t70:=Tryz.underlying135
 a70:=Tryz.isAgg135
 z70:=Tryz.sizeOf135
 v70:=Tryz.zeroValue135
 t72:=Tryz.underlying137
 a72:=Tryz.isAgg137
 z72:=Tryz.sizeOf137
 v72:=Tryz.zeroValue137
 t127:=Tryz.underlying274
 a127:=Tryz.isAgg274
 z127:=Tryz.sizeOf274
 v127:=Tryz.zeroValue274}
theorem Tryz.Builder_Extra_169:Builder.Extra Tryz.prog Tryz.lays169_ren:={
 sizeBuilder:=by kernel_rfl
 liesBuilder:=by kernel_rfl
 t5:=Tryz.underlying5
 a5:=Tryz.isAgg5
 z5:=Tryz.sizeOf5
 v5:=Tryz.zeroValue5
 infoByte:=by kernel_rfl
 cellsByte:=by kernel_rfl
 sizeByte:=by kernel_rfl
 neB5:=by decide}
open Go.RowKit in
theorem Tryz.Builder_String_any(B b:Nat)(l:List UInt8)(w:World)(h:Lib.IsBuilder 137 5 B b (Lib.byteCells l) w)(hBw:B≤w.heap.size):
  Calls Tryz.prog 72 #[.pointer (some ⟨b,0,none⟩)] w fun e w'=>e=.returned (.string ⟨l.toArray⟩)∧Below B w w':=Any.Builder_String_any Tryz.lays169 Tryz.Builder_Extra_169 B b l w h hBw
def Tryz.laysM171_ren:Go.Shelf.Ren:=⟨fun|171=>65|243=>131|246=>208|283=>305|284=>306|285=>307|286=>308|129=>360|317=>359|318=>361|319=>362|320=>363|337=>381|338=>382|n=>n,fun|3=>3|9=>9|2=>2|4=>4|171=>423|0=>0|53=>424|37=>99|5=>5|173=>427|212=>461|51=>462|20=>20|213=>463|46=>380|232=>488|233=>489|n=>n,fun|17=>0|18=>4|19=>5|n=>n⟩
theorem Tryz.laysM171:Go.Proofs.LaysM.n171 Tryz.prog Tryz.laysM171_ren:={
 mixed:=by kernel_rfl
 f129:=Tryz.func360.trans (bLE some Yg)
 f171:=Tryz.func65.trans (bLE some Yg)
 f243:=Tryz.func131.trans (bLE some Yg)
 f246:=Tryz.func208.trans (bLE some Yg)
 f283:=Tryz.func305.trans (bLE some Yg)
 f284:=Tryz.func306.trans (bLE some Yg)
 f285:=Tryz.func307.trans (bLE some Yg)
 f286:=Tryz.func308.trans (bLE some Yg)
 f317:=Tryz.func359.trans (bLE some Yg)
 f318:=Tryz.func361.trans (bLE some Yg)
 f319:=Tryz.func362.trans (bLE some Yg)
 f320:=Tryz.func363.trans (bLE some Yg)
 f337:=Tryz.func381.trans (bLE some Yg)
 f338:=Tryz.func382.trans (bLE some Yg)
 t0:=Tryz.underlying0
 a0:=Tryz.isAgg0
 z0:=Tryz.sizeOf0
 v0:=Tryz.zeroValue0
 t2:=Tryz.underlying2
 a2:=Tryz.isAgg2
 z2:=Tryz.sizeOf2
 v2:=Tryz.zeroValue2
 t3:=Tryz.underlying3
 a3:=Tryz.isAgg3
 z3:=Tryz.sizeOf3
 v3:=Tryz.zeroValue3
 t4:=Tryz.underlying4
 a4:=Tryz.isAgg4
 z4:=Tryz.sizeOf4
 v4:=Tryz.zeroValue4
 t5:=Tryz.underlying5
 a5:=Tryz.isAgg5
 z5:=Tryz.sizeOf5
 v5:=Tryz.zeroValue5
 t9:=Tryz.underlying9
 a9:=Tryz.isAgg9
 z9:=Tryz.sizeOf9
 v9:=Tryz.zeroValue9
 t20:=Tryz.underlying20
 a20:=Tryz.isAgg20
 z20:=Tryz.sizeOf20
 v20:=Tryz.zeroValue20
 t37:=Tryz.underlying99
 a37:=Tryz.isAgg99
 z37:=Tryz.sizeOf99
 v37:=Tryz.zeroValue99
 t46:=Tryz.underlying380
 a46:=Tryz.isAgg380
 z46:=Tryz.sizeOf380
 v46:=Tryz.zeroValue380
 t51:=Tryz.underlying462
 a51:=Tryz.isAgg462
 z51:=Tryz.sizeOf462
 v51:=Tryz.zeroValue462
 t53:=Tryz.underlying424
 a53:=Tryz.isAgg424
 z53:=Tryz.sizeOf424
 v53:=Tryz.zeroValue424
 t171:=Tryz.underlying423
 a171:=Tryz.isAgg423
 z171:=Tryz.sizeOf423
 v171:=Tryz.zeroValue423
 t173:=Tryz.underlying427
 a173:=Tryz.isAgg427
 z173:=Tryz.sizeOf427
 v173:=Tryz.zeroValue427
 t212:=Tryz.underlying461
 a212:=Tryz.isAgg461
 z212:=Tryz.sizeOf461
 v212:=Tryz.zeroValue461
 t213:=Tryz.underlying463
 a213:=Tryz.isAgg463
 z213:=Tryz.sizeOf463
 t232:=Tryz.underlying488
 a232:=Tryz.isAgg488
 z232:=Tryz.sizeOf488
 v232:=Tryz.zeroValue488
 t233:=Tryz.underlying489
 a233:=Tryz.isAgg489
 z233:=Tryz.sizeOf489
 v233:=Tryz.zeroValue489
 g17:=by kernel_rfl
 g18:=by kernel_rfl
 g19:=by kernel_rfl
 i0:=by kernel_rfl
 i2:=by kernel_rfl
 i3:=by kernel_rfl
 i4:=by kernel_rfl
 i5:=by kernel_rfl
 i9:=by kernel_rfl
 i20:=by kernel_rfl
 i37:=by kernel_rfl
 i46:=by kernel_rfl
 i51:=by kernel_rfl
 i53:=by kernel_rfl
 i171:=by kernel_rfl
 i173:=by kernel_rfl
 i212:=by kernel_rfl
 i232:=by kernel_rfl
 i233:=by kernel_rfl
 m17:=by kernel_rfl
 m18:=by kernel_rfl
 m19:=by kernel_rfl}
open Go.RowKit Go.Sort Go.Lib in
theorem Tryz.strconv_Itoa(n:Int)(h0: -9223372036854775808≤n)(h1:n≤9223372036854775807)(w:World)(htab:Lib.TabIs Tryz.prog w "internal/strconv.uint64pow10" .u64 Lib.pow10Tab):
  Calls Tryz.prog 65 #[.int .i64 n] w fun e w'=>e=.returned (.string ⟨(Lib.itoa n).toArray⟩)∧∃k os,w'=grow (w.drewN k) os:=Any.strconv_Itoa Tryz.laysM171 n h0 h1 w htab
def Tryz.laysC172_ren:Go.Shelf.Ren:=⟨fun|172=>289|244=>351|245=>352|247=>376|279=>377|280=>378|281=>379|282=>380|287=>388|316=>389|171=>65|205=>390|321=>393|322=>394|243=>131|246=>208|283=>305|284=>306|285=>307|286=>308|129=>360|317=>359|318=>361|319=>362|320=>363|337=>381|338=>382|n=>n,fun|9=>9|3=>3|75=>139|76=>140|4=>4|5=>5|167=>475|37=>99|0=>0|85=>476|2=>2|168=>478|53=>424|175=>482|46=>380|210=>486|127=>274|145=>499|143=>497|21=>21|171=>423|173=>427|212=>461|51=>462|20=>20|213=>463|232=>488|233=>489|80=>154|n=>n,fun|15=>2|16=>3|17=>0|18=>4|19=>5|n=>n⟩
theorem Tryz.laysC172:Go.Proofs.LaysC.n172 Tryz.prog Tryz.laysC172_ren:={
 mixed:=by kernel_rfl
 f129:=Tryz.func360.trans (bLE some Yg)
 f171:=Tryz.func65.trans (bLE some Yg)
 f172:=Tryz.func289.trans (bLE some Yg)
 f205:=Tryz.func390.trans (bLE some Yg)
 f243:=Tryz.func131.trans (bLE some Yg)
 f244:=Tryz.func351.trans (bLE some Yg)
 f245:=Tryz.func352.trans (bLE some Yg)
 f246:=Tryz.func208.trans (bLE some Yg)
 f247:=Tryz.func376.trans (bLE some Yg)
 f279:=Tryz.func377.trans (bLE some Yg)
 f280:=Tryz.func378.trans (bLE some Yg)
 f281:=Tryz.func379.trans (bLE some Yg)
 f282:=Tryz.func380.trans (bLE some Yg)
 f283:=Tryz.func305.trans (bLE some Yg)
 f284:=Tryz.func306.trans (bLE some Yg)
 f285:=Tryz.func307.trans (bLE some Yg)
 f286:=Tryz.func308.trans (bLE some Yg)
 f287:=Tryz.func388.trans (bLE some Yg)
 f316:=Tryz.func389.trans (bLE some Yg)
 f317:=Tryz.func359.trans (bLE some Yg)
 f318:=Tryz.func361.trans (bLE some Yg)
 f319:=Tryz.func362.trans (bLE some Yg)
 f320:=Tryz.func363.trans (bLE some Yg)
 f321:=Tryz.func393.trans (bLE some Yg)
 f322:=Tryz.func394.trans (bLE some Yg)
 f337:=Tryz.func381.trans (bLE some Yg)
 f338:=Tryz.func382.trans (bLE some Yg)
 t0:=Tryz.underlying0
 a0:=Tryz.isAgg0
 z0:=Tryz.sizeOf0
 v0:=Tryz.zeroValue0
 t2:=Tryz.underlying2
 a2:=Tryz.isAgg2
 z2:=Tryz.sizeOf2
 v2:=Tryz.zeroValue2
 t3:=Tryz.underlying3
 a3:=Tryz.isAgg3
 z3:=Tryz.sizeOf3
 v3:=Tryz.zeroValue3
 t4:=Tryz.underlying4
 a4:=Tryz.isAgg4
 z4:=Tryz.sizeOf4
 v4:=Tryz.zeroValue4
 t5:=Tryz.underlying5
 a5:=Tryz.isAgg5
 z5:=Tryz.sizeOf5
 v5:=Tryz.zeroValue5
 t9:=Tryz.underlying9
 a9:=Tryz.isAgg9
 z9:=Tryz.sizeOf9
 v9:=Tryz.zeroValue9
 t20:=Tryz.underlying20
 a20:=Tryz.isAgg20
 z20:=Tryz.sizeOf20
 v20:=Tryz.zeroValue20
 t21:=Tryz.underlying21
 a21:=Tryz.isAgg21
 z21:=Tryz.sizeOf21
 v21:=Tryz.zeroValue21
 t37:=Tryz.underlying99
 a37:=Tryz.isAgg99
 z37:=Tryz.sizeOf99
 v37:=Tryz.zeroValue99
 t46:=Tryz.underlying380
 a46:=Tryz.isAgg380
 z46:=Tryz.sizeOf380
 v46:=Tryz.zeroValue380
 t51:=Tryz.underlying462
 a51:=Tryz.isAgg462
 z51:=Tryz.sizeOf462
 v51:=Tryz.zeroValue462
 t53:=Tryz.underlying424
 a53:=Tryz.isAgg424
 z53:=Tryz.sizeOf424
 v53:=Tryz.zeroValue424
 t75:=Tryz.underlying139
 a75:=Tryz.isAgg139
 z75:=Tryz.sizeOf139
 v75:=Tryz.zeroValue139
 t76:=Tryz.underlying140
 a76:=Tryz.isAgg140
 z76:=Tryz.sizeOf140
 v76:=Tryz.zeroValue140
 t85:=Tryz.underlying476
 a85:=Tryz.isAgg476
 z85:=Tryz.sizeOf476
 v85:=Tryz.zeroValue476
 t127:=Tryz.underlying274
 a127:=Tryz.isAgg274
 z127:=Tryz.sizeOf274
 v127:=Tryz.zeroValue274
 t143:=Tryz.underlying497
 a143:=Tryz.isAgg497
 z143:=Tryz.sizeOf497
 v143:=Tryz.zeroValue497
 t145:=Tryz.underlying499
 a145:=Tryz.isAgg499
 z145:=Tryz.sizeOf499
 v145:=Tryz.zeroValue499
 t167:=Tryz.underlying475
 a167:=Tryz.isAgg475
 z167:=Tryz.sizeOf475
 v167:=Tryz.zeroValue475
 t168:=Tryz.underlying478
 a168:=Tryz.isAgg478
 z168:=Tryz.sizeOf478
 v168:=Tryz.zeroValue478
 t171:=Tryz.underlying423
 a171:=Tryz.isAgg423
 z171:=Tryz.sizeOf423
 v171:=Tryz.zeroValue423
 t173:=Tryz.underlying427
 a173:=Tryz.isAgg427
 z173:=Tryz.sizeOf427
 v173:=Tryz.zeroValue427
 t175:=Tryz.underlying482
 a175:=Tryz.isAgg482
 z175:=Tryz.sizeOf482
 v175:=Tryz.zeroValue482
 t210:=Tryz.underlying486
 a210:=Tryz.isAgg486
 z210:=Tryz.sizeOf486
 v210:=Tryz.zeroValue486
 t212:=Tryz.underlying461
 a212:=Tryz.isAgg461
 z212:=Tryz.sizeOf461
 v212:=Tryz.zeroValue461
 t213:=Tryz.underlying463
 a213:=Tryz.isAgg463
 z213:=Tryz.sizeOf463
 t232:=Tryz.underlying488
 a232:=Tryz.isAgg488
 z232:=Tryz.sizeOf488
 v232:=Tryz.zeroValue488
 t233:=Tryz.underlying489
 a233:=Tryz.isAgg489
 z233:=Tryz.sizeOf489
 v233:=Tryz.zeroValue489
 g15:=by kernel_rfl
 g16:=by kernel_rfl
 g17:=by kernel_rfl
 g18:=by kernel_rfl
 g19:=by kernel_rfl
 t80:=Tryz.underlying154
 a80:=Tryz.isAgg154
 z80:=Tryz.sizeOf154
 v80:=Tryz.zeroValue154
 i0:=by kernel_rfl
 i2:=by kernel_rfl
 i3:=by kernel_rfl
 i4:=by kernel_rfl
 i5:=by kernel_rfl
 i9:=by kernel_rfl
 i20:=by kernel_rfl
 i21:=by kernel_rfl
 i37:=by kernel_rfl
 i46:=by kernel_rfl
 i51:=by kernel_rfl
 i53:=by kernel_rfl
 i75:=by kernel_rfl
 i76:=by kernel_rfl
 i80:=by kernel_rfl
 i85:=by kernel_rfl
 i127:=by kernel_rfl
 i143:=by kernel_rfl
 i145:=by kernel_rfl
 i167:=by kernel_rfl
 i168:=by kernel_rfl
 i171:=by kernel_rfl
 i173:=by kernel_rfl
 i175:=by kernel_rfl
 i210:=by kernel_rfl
 i212:=by kernel_rfl
 i232:=by kernel_rfl
 i233:=by kernel_rfl
 m15:=by kernel_rfl
 m16:=by kernel_rfl
 m17:=by kernel_rfl
 m18:=by kernel_rfl
 m19:=by kernel_rfl
 c0:=by kernel_rfl
 c2:=by kernel_rfl
 c3:=by kernel_rfl
 c4:=by kernel_rfl
 c5:=by kernel_rfl
 c9:=by kernel_rfl
 c20:=by kernel_rfl
 c21:=by kernel_rfl
 c37:=by kernel_rfl
 c46:=by kernel_rfl
 c51:=by kernel_rfl
 c53:=by kernel_rfl
 c75:=by kernel_rfl
 c76:=by kernel_rfl
 c80:=by kernel_rfl
 c85:=by kernel_rfl
 c127:=by kernel_rfl
 c143:=by kernel_rfl
 c145:=by kernel_rfl
 c167:=by kernel_rfl
 c168:=by kernel_rfl
 c171:=by kernel_rfl
 c173:=by kernel_rfl
 c175:=by kernel_rfl
 c210:=by kernel_rfl
 c212:=by kernel_rfl
 c213:=by kernel_rfl
 c232:=by kernel_rfl
 c233:=by kernel_rfl}
open Go.RowKit in
theorem Tryz.strconv_Atoi_ok(s:ByteArray)(hmax:s.size≤9223372036854775806)(v:Int)(h:Lib.atoiAll s.data.toList=.ok v)(w:World):
  Calls Tryz.prog 289 #[.string s] w fun e w'=>e=.returned (.tuple #[.int .i64 v,.nilIface])∧(w'=w∨∃t,w'=Lib.bytesWorld w 5 t):=Any.strconv_Atoi_ok Tryz.laysC172 s hmax v h w
open Go.RowKit in
theorem Tryz.strconv_Atoi_syntax(s:ByteArray)(hlim:s.size≤281474976710656)(h:Lib.atoiAll s.data.toList=Lib.atoiAll [])(ev:Value)(w:World)(hv:w.cell? ⟨2,0,none⟩=some ev)(hev:ev=.nilIface∨∃te pe,ev=.iface te pe):
  Calls Tryz.prog 289 #[.string s] w fun e w'=>∃N,e=.returned (.tuple #[.int .i64 (0),.iface 478 (.pointer (some ⟨N,0,none⟩))])∧w.heap.size≤N∧w'.heap[N]?= some (.cells #[.string ⟨#[65,116,111,105]⟩,.string s,ev] 486 (0,0))∧Below w.heap.size w w':=Any.strconv_Atoi_syntax Tryz.laysC172 s hlim h ev w hv hev
open Go.RowKit in
theorem Tryz.strconv_Atoi_range(s:ByteArray)(hlim:s.size≤281474976710656)(h:Lib.atoiAll s.data.toList=.range)(ev:Value)(w:World)(hv:w.cell? ⟨3,0,none⟩=some ev)(hev:ev=.nilIface∨∃te pe,ev=.iface te pe):
  Calls Tryz.prog 289 #[.string s] w fun e w'=>∃N,e=.returned (.tuple #[.int .i64 (Lib.atoiSat s.data.toList),.iface 478 (.pointer (some ⟨N,0,none⟩))])∧w.heap.size≤N∧w'.heap[N]?= some (.cells #[.string ⟨#[65,116,111,105]⟩,.string s,ev] 486 (0,0))∧Below w.heap.size w w':=Any.strconv_Atoi_range Tryz.laysC172 s hlim h ev w hv hev
def Tryz.lays146_ren:Go.Shelf.Ren:=⟨fun|146=>188|221=>265|268=>337|138=>338|143=>339|195=>372|197=>373|218=>374|219=>375|260=>383|217=>384|225=>385|224=>386|267=>387|266=>391|314=>392|n=>n,fun|9=>9|31=>22|3=>3|4=>4|0=>0|105=>472|21=>21|5=>5|46=>380|119=>490|139=>493|138=>492|146=>494|51=>462|n=>n,fun|1=>1|3=>6|4=>7|n=>n⟩
theorem Tryz.lays146:Go.Proofs.Lays.n146 Tryz.prog Tryz.lays146_ren:={
 mixed:=by kernel_rfl
 f138:=Tryz.func338.trans (bLE some Yg)
 f143:=Tryz.func339.trans (bLE some Yg)
 f146:=Tryz.func188.trans (bLE some Yg)
 f195:=Tryz.func372.trans (bLE some Yg)
 f197:=Tryz.func373.trans (bLE some Yg)
 f217:=Tryz.func384.trans (bLE some Yg)
 f218:=Tryz.func374.trans (bLE some Yg)
 f219:=Tryz.func375.trans (bLE some Yg)
 f221:=Tryz.func265.trans (bLE some Yg)
 f224:=Tryz.func386.trans (bLE some Yg)
 f225:=Tryz.func385.trans (bLE some Yg)
 f260:=Tryz.func383.trans (bLE some Yg)
 f266:=Tryz.func391.trans (bLE some Yg)
 f267:=Tryz.func387.trans (bLE some Yg)
 f268:=Tryz.func337.trans (bLE some Yg)
 f314:=Tryz.func392.trans (bLE some Yg)
 t0:=Tryz.underlying0
 a0:=Tryz.isAgg0
 z0:=Tryz.sizeOf0
 v0:=Tryz.zeroValue0
 t3:=Tryz.underlying3
 a3:=Tryz.isAgg3
 z3:=Tryz.sizeOf3
 v3:=Tryz.zeroValue3
 t4:=Tryz.underlying4
 a4:=Tryz.isAgg4
 z4:=Tryz.sizeOf4
 v4:=Tryz.zeroValue4
 t5:=Tryz.underlying5
 a5:=Tryz.isAgg5
 z5:=Tryz.sizeOf5
 v5:=Tryz.zeroValue5
 t9:=Tryz.underlying9
 a9:=Tryz.isAgg9
 z9:=Tryz.sizeOf9
 v9:=Tryz.zeroValue9
 t21:=Tryz.underlying21
 a21:=Tryz.isAgg21
 z21:=Tryz.sizeOf21
 v21:=Tryz.zeroValue21
 t31:=Tryz.underlying22
 a31:=Tryz.isAgg22
 z31:=Tryz.sizeOf22
 v31:=Tryz.zeroValue22
 t46:=Tryz.underlying380
 a46:=Tryz.isAgg380
 z46:=Tryz.sizeOf380
 v46:=Tryz.zeroValue380
 t51:=Tryz.underlying462
 a51:=Tryz.isAgg462
 z51:=Tryz.sizeOf462
 v51:=Tryz.zeroValue462
 t105:=Tryz.underlying472
 a105:=Tryz.isAgg472
 z105:=Tryz.sizeOf472
 v105:=Tryz.zeroValue472
 t119:=Tryz.underlying490
 a119:=Tryz.isAgg490
 z119:=Tryz.sizeOf490
 t138:=Tryz.underlying492
 a138:=Tryz.isAgg492
 z138:=Tryz.sizeOf492
 v138:=Tryz.zeroValue492
 t139:=Tryz.underlying493
 a139:=Tryz.isAgg493
 z139:=Tryz.sizeOf493
 v139:=Tryz.zeroValue493
 t146:=Tryz.underlying494
 a146:=Tryz.isAgg494
 z146:=Tryz.sizeOf494
 v146:=Tryz.zeroValue494
 g1:=by kernel_rfl
 g3:=by kernel_rfl
 g4:=by kernel_rfl}
open Go.RowKit Go.Lib in
theorem Tryz.strings_Split(s sep:ByteArray)(m:Int)(w:World)(hs:s.size<4294967281)(hm:w.cell? ⟨1,0,none⟩=some (.int .i64 m))(h1:1≤sep.size):
  Calls Tryz.prog 188 #[.string s,.string sep] w fun e w'=>
   e=.returned (.slice (some ⟨w.heap.size,0,none⟩) (Lib.countB s sep+1) (Lib.countB s sep+1))∧w'=w.alloc (.cells ((Lib.splitB sep 0 (Lib.countB s sep) s).map Value.string).toArray 9):=Any.strings_Split Tryz.lays146 Yg s sep m w hs hm h1
end Go.Proofs
namespace Go.Fs
open Go.Proofs Tryz
namespace L12
open C12 Go.Lib
structure pU(D:aC):Prop where
 tab:D 0=pow10Tab.map (Value.int .u64)
 maxLen:∃m,(D 1)[0]?= some (qI m)
 esyn:∃c,(D 2)[0]?= some c∧(c=.nilIface∨∃t u,c=.iface t u)
 erng:∃c,(D 3)[0]?= some c∧(c=.nilIface∨∃t u,c=.iface t u)
theorem pU.up{D D':aC}(h:pU D)(hl:Le D D'):pU D':=by
 obtain⟨h1,⟨m,h2⟩,⟨c,h3,h3'⟩,⟨e,h4,h4'⟩⟩:=h;exact⟨hl.2.trans h1,⟨m,hl.get h2⟩,⟨c,hl.get h3,h3'⟩,⟨e,hl.get h4,h4'⟩⟩
theorem pU.tabIs{D:aC}(h:pU D){w:Δ}(hw:fO D w):TabIs prog w "internal/strconv.uint64pow10" .u64 pow10Tab:=by
 have hg:prog.globalNamed "internal/strconv.uint64pow10" =some 0:=by kernel_rfl
 obtain⟨-, -,e,fz,h0⟩:=hw;unfold TabIs World.var?;rw[hg,Option.bind_some,h0,h.tab]
theorem TJ(w:Δ)(e:Θ)(t:Λ):Go.RowKit.Below w.heap.size w (bytesWorld w e t):=⟨rfl,rfl,rfl,by rw[bytesWorld_size];omega,fun b hb=>bytesWorld_at_old w e t b hb⟩
theorem UN(w:Δ)(k:Nat)(os:Array Obj):Go.RowKit.Below w.heap.size w (Go.Sort.grow (w.drewN k) os):=
 ⟨rfl,rfl,rfl,by show w.heap.size≤(w.heap++os).size;rw[Array.size_append];omega,fun b hb=>by show(w.heap++os)[b]?= _;rw[bNT hb]⟩
theorem W7(n:Int)(hn:wD .i64 n)(D:aC)(hV:pU D):Fn prog 65 #[qI n] D (fun _ v=>v=.string (JX (itoa n))):=by
 have hb: -9223372036854775808≤n∧n≤9223372036854775807:=by simpa [wD]using hn
 refine Fn.of_below (EF.of func65 rfl rfl) fun w hw=>(Go.Proofs.Tryz.strconv_Itoa n hb.1 hb.2 w (hV.tabIs hw)).mono ?_
 rintro e w' ⟨rfl,k,os,rfl⟩;exact⟨_,rfl,UN w k os,fun _ _=>rfl⟩
theorem aUQ(s:Λ)(hs:s.size≤1000)(D:aC)(hV:pU D):Fn prog 188 #[.string s,.string ⟨#[32]⟩] D (fun D' v=>Sl D' RS 1 v (eA s)):=by
 obtain⟨m,hm⟩:=hV.maxLen;refine Fn.of_alloc (cs:=(eA s).map Value.string) (e:=9) (r:=fun b=>qS b (eA s).length (eA s).length) (EF.of func188 rfl rfl) (fun w hw=>(Go.Proofs.Tryz.strings_Split s ⟨#[32]⟩ m w Yd (hw.cell hm) Yt).mono ?_) fun D' b _ hA=>?_
 ·rintro e w' ⟨rfl,rfl⟩;rw[aAC,QU];exact⟨rfl,rfl⟩
 ·have hl:(eA s).length≤1001:=by unfold eA;rw[bMK];exact bNK (MO _) (by show s.size+1≤1001;omega)
  refine⟨_,_,rfl,bLQ _,Yd,bLG ⟨b,0,rfl,fun i x hi=>⟨_,rfl,rfl,fun j v hj=>?_⟩⟩⟩;cases j with
  |zero=>
   obtain rfl:Value.string x=v:=by simpa using hj
   have h:=hA i (.string x) (by rw[bMI,hi];rfl);simpa using h
  |succ j=>simp at hj
theorem aYX(s:Λ)(hs:s.size≤1000)(D:aC)(hV:pU D):Fn prog 289 #[.string s] D (fun _ v=>∃m c,v=.tuple #[qI m,c]∧wD .i64 m∧((c=.nilIface∧atoiAll s.data.toList=.ok m)∨((∃t u,c=.iface t u)∧∀x,atoiAll s.data.toList≠.ok x))):=by
 refine Fn.of_below (EF.of func289 rfl rfl) fun w hw=>?_
 rcases h:atoiAll s.data.toList with v|_|_
 ·refine(Go.Proofs.Tryz.strconv_Atoi_ok s Yd v h w).mono ?_;rintro e w' ⟨rfl,hw'⟩;refine⟨_,rfl,?_,fun _ _=>⟨v,_,rfl,by have:=atoiAll_bounds h;simp only[wD];omega,bLL ⟨rfl,rfl⟩⟩⟩
  rcases hw' with rfl|⟨t,rfl⟩
  ·exact .refl _ _
  ·exact TJ w _ t
 ·obtain⟨c,hc,hc'⟩:=hV.esyn;refine(Go.Proofs.Tryz.strconv_Atoi_syntax s Yd h c w (hw.cell hc) hc').mono ?_;rintro e w' ⟨N,rfl,_,_,hb⟩;exact⟨_,rfl,hb,fun _ _=>⟨0,_,rfl,Yf,bLG ⟨⟨_,_,rfl⟩,fun x hx=>by cases hx⟩⟩⟩
 ·obtain⟨c,hc,hc'⟩:=hV.erng;refine(Go.Proofs.Tryz.strconv_Atoi_range s Yd h c w (hw.cell hc) hc').mono ?_;rintro e w' ⟨N,rfl,_,_,hb⟩;exact⟨_,rfl,hb,fun _ _=>⟨_,_,rfl,by unfold atoiSat;split<;>simp only[wD]<;>omega,bLG ⟨⟨_,_,rfl⟩,fun x hx=>by cases hx⟩⟩⟩
theorem aTJ{s:Λ}{m:Int}{c:Γ}(h:(c=.nilIface∧atoiAll s.data.toList=.ok m)∨((∃t u,c=.iface t u)∧∀x,atoiAll s.data.toList≠.ok x)):rU s.data.toList=if(((aGU c&&decide (m≥0))&&decide ((s.size:Int)≤3))&&decide (JX (itoa m)=s))=true then some m else none:=by
 rw[←aEF];unfold bCA;rcases h with⟨rfl,h⟩|⟨⟨t,u,rfl⟩,h⟩
 ·rw[h];have e:s.data.toList.length=s.size:=rfl;have I:(JX (itoa m)=s) ↔ itoa m=s.data.toList:=⟨fun h=>by rw[←h];rfl,fun h=>by rw[h];exact yY s⟩
  simp only[aGU,bPE,bKW,LT,e,I,and_assoc];congr 1;simp only[eq_iff_iff];constructor
  ·rintro⟨h1,h2,h3⟩;exact⟨h1,Yd,h3⟩
  ·rintro⟨h1,h2,h3⟩;exact⟨h1,Yd,h3⟩
 ·split
  ·rename_i v hv;exact absurd hv (h v)
  ·rfl
theorem aXS{s:Λ}{m:Int}{c:Γ}(h:(c=.nilIface∧atoiAll s.data.toList=.ok m)∨((∃t u,c=.iface t u)∧∀x,atoiAll s.data.toList≠.ok x)):(((aGU c&&decide (m≥0))&&decide ((s.size:Int)≤3))&&decide (JX (itoa m)=s))=true→rU s.data.toList=some m:=fun hb=>by rw[aTJ h,bLR hb]
theorem bEY{s:Λ}{m:Int}{c:Γ}(h:(c=.nilIface∧atoiAll s.data.toList=.ok m)∨((∃t u,c=.iface t u)∧∀x,atoiAll s.data.toList≠.ok x)):(((aGU c&&decide (m≥0))&&decide ((s.size:Int)≤3))&&decide (JX (itoa m)=s))=false→rU s.data.toList=none:=fun hb=>by rw[aTJ h,bLI (by rw[hb];simp)]
theorem aJP(s:Λ)(hs:s.size≤1000)(D:aC)(hV:pU D):Fn prog 191 #[.string s] D (fun _ v=>∃m b,v=.tuple #[qI m,.bool b]∧(b=true→rU s.data.toList=some m)∧(b=false→rU s.data.toList=none)):=by
 refine Zx 29 func191 rfl fun h0=>aA<|Zk rfl<|Zk rfl<|aL<|Za rfl<|Zaa rfl (fun D1 O=>aYX s hs _ (hV.up (O _ Ye))) fun v1 D1 O R=>?_;obtain⟨m,c,rfl,U,I⟩:=R;refine Za rfl<|Zaq rfl<|Zaq rfl<|Zk rfl<|Zk rfl<|aL<|Za rfl<|Za rfl<|YB rfl U139 rfl (by rcases I with⟨h,_⟩|⟨h,_⟩;exact Or.inl h;exact Or.inr h) rfl bQK<|Za rfl ?_
 refine' bW 3 (s:=14) (p:=17) rfl (fun V=>?_) (fun V=>?_) ?_;rotate_left
 ·refine Zb rfl<|lR rfl rfl rfl rfl ⟨_,rfl,rfl⟩<|Zak rfl ?_;exact aM 2
 ·refine Wax ?_;exact aM 2
 refine Za rfl ?_;refine' bW 4 (s:=18) (p:=22) rfl (fun Y=>?_) (fun Y=>?_) ?_;rotate_left
 ·refine Zb rfl<|kM rfl U9 rfl rfl rfl ⟨_,rfl,rfl⟩<|Wk ?_;exact aM 3
 ·refine Wb ?_;exact aM 3
 refine Za rfl ?_;refine' bW 5 (s:=23) (p:=28) rfl (fun Z=>?_) (fun Z=>?_) ?_;rotate_left
 ·refine Zb rfl<|Zg rfl (fun D2 hB=>W7 m U _ (hV.up (hB _ Ye)))<|Zb rfl<|oK rfl rfl rfl rfl ⟨_,rfl,rfl⟩<|Zak rfl ?_;exact aM 4
 ·refine Zh rfl<|Wb ?_;exact aM 4
 refine Zk rfl<|We ?_;exact lU (vs:=[_,_]) rfl rfl rfl cR fun D hD=>⟨m,_,rfl,aXS I,bEY I⟩
end L12
end Go.Fs
