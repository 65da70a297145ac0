/- Of BookResumes. -/
import Derived.Test.YtdjdcpieiedfgaaGreatDoorZBookResumesAE
import Derived.Lib.Split
import Derived.Lib.AtoiTie
import Derived.Lib.AtoiAllCases
import Derived.Lib.ItoaNum
import Derived.WideShapes
import Derived.DefersIn
import Derived.RecoverIn
import Derived.Laws.Concat
import Derived.Laws.Strings
import Derived.Below
import Derived.Shelf.Strings.Builder1
import Derived.Shelf.LaysM
import Derived.Shelf.Strconv.Itoa3
import Derived.Shelf.LaysC
import Derived.Shelf.Strconv.AtoiAll
import Derived.Shelf.Strings.Split
namespace Go.Fs
variable{P:Program}{X:Cx}{γb:Type}[Membership Nat γb]{bad:γb}{all:Array Oper}{K:Act→Δ→Prop}{Q:Exit→Act→Δ→Prop}
variable{σ:bU}{μ:aD}{Ds:List aC}{os:List (Bool×Nat)}{fl:Bool}{ix:Nat}
variable{d:Nat}{x y z:Operand}{u v:Γ}{ty:Θ}{pos:String}{aft:Array Edge}{g:Option (Nat×Bool)}
theorem wA{A B:aD}{t e tr:Θ}{b o i m cap c2 sz:Nat}{vs xs:List Γ}{ats:Array Θ}
  (ho:all[ix]?= some ⟨some d,.call {callee:=.builtin .append,args:=#[x,y],argTypes:=ats},tr,pos,aft,g⟩) (ht:P.underlying t=some (.slice e)) (hat:ats[0]?= some t) (I:ats[1]?= some t) (hs:TS P e sz)
  (hx:ev σ x=some (qS b i cap)) (hy:ev σ y=some (.slice (some ⟨b,o,none⟩) m c2)) (hxs:(vs.drop o).take (m*sz)=xs) (hxl:xs.length=m*sz) (hfit:i+m≤cap) (hin:i*sz+m*sz≤vs.length) (hx1:∀u∈xs,cell1 u=true)
  (hfl:fl=false∨b∈bad) (hN:Nat.blt d X.N=true) (hg:cQ all σ g)
  (kk:WL P X bad all K Q os ((d,qS b (i+m) cap)::σ) (A++(b,.cells (vs.take (i*sz)++xs++vs.drop (i*sz+m*sz)).toArray e (0,0))::B) Ds):
  WL P X bad all K Q ((fl,ix)::os) σ (A++(b,.cells vs.toArray e (0,0))::B) Ds:=by
 refine fF ho rfl rfl hg fun a w hh=>?_
 obtain⟨h1,h2,h3,D,h4,h5,O⟩:=id hh;have hbx:=(h4.box (b,.cells vs.toArray e (0,0)) Yf).1;have hex:(execOp a.eval ⟨some d,.call {callee:=.builtin .append,args:=#[x,y],argTypes:=ats},tr,pos,aft,g⟩).run P w=
   ((Builtin.append_ ats tr #[qS b i cap,.slice (some ⟨b,o,none⟩) m c2]).run P w).andThen fun r w'=>.ok (.value r) w':=by
  simp only[execOp,resolve,pure_bind,invoke,builtin];have R:(#[x,y].map a.eval)=#[qS b i cap,.slice (some ⟨b,o,none⟩) m c2]:=Xbe
  rw[R,Ω];simp only[ε]
 rw[hex];have hm:(Builtin.lenOf (.slice (some ⟨b,o,none⟩) m c2)).run P w=.ok m w:=rfl;have hfc:(Builtin.firstCells sz m (.slice (some ⟨b,o,none⟩) m c2)).run P w=.ok xs.toArray w:=by
  simp only[Builtin.firstCells];refine oK hxl fun j u hj=>sL (cs:=vs.toArray) hbx ?_
  have hjl:=(bMW.1 hj).1;rw[←hxs,bPX Yd,bPC]at hj;simpa using hj
 obtain⟨w',hr,hw'⟩:=kY (P:=P) xs 0 w b (i*sz) vs e hbx Yd hx1;rw[G0 (tr:=tr) (w':=w') ht hat I hs hm hfc hfit (by
  show(storeCells ((⟨b,0,none⟩:Addr).add (i*sz)) xs).run P w=_;rw[gY,bQB];exact hr)]
 rw[Nat.add_zero,hxl]at hw';have hHas:bP (A++(b,.cells vs.toArray e (0,0))::B) b (.cells vs.toArray e (0,0)) (.cells (vs.take (i*sz)++xs++vs.drop (i*sz+m*sz)).toArray e (0,0)) (A++(b,.cells (vs.take (i*sz)++xs++vs.drop (i*sz+m*sz)).toArray e (0,0))::B):=.app .head;have hst:=h4.set hHas hw' rfl;refine⟨fun hf=>⟨Xbf,fun c hc hcb=>?_⟩,kk _ _ (Hl.put ⟨h1,h2,h3,D,hst,h5,O.step (fun _ p hp=>bNI Yu) (fun _=>lO hw' (bMR.2 ⟨_,hHas.mem,rfl⟩)) hst.dom⟩ hN _)⟩
 have hb:b∈bad:=by
  rcases hfl with h|h
  ·rw[hf]at h;cases h
  ·exact h
 rw[hw'.1,bPV (by rintro rfl;exact hcb hb)]
theorem b7{A B:aD}{t e tr:Θ}{b o n c:Nat}{z0:Γ}{vs zs:List Γ}{dd:Option Nat}{ats:Array Θ}
  (ho:all[ix]?= some ⟨dd,.call {callee:=.builtin .clear,args:=#[x],argTypes:=ats},tr,pos,aft,g⟩) (hdd:dd=none) (ht:P.underlying t=some (.slice e)) (hat:ats[0]?= some t) (hz:TZ P e z0) (hx:ev σ x=some (.slice (some ⟨b,o,none⟩) n c)) (hn:n≠0)
  (hzs:Builtin.zeroCells z0.cells n=zs.toArray) (hin:o+zs.length≤vs.length) (I:∀u∈zs,cell1 u=true) (hg:cQ all σ g)
  (kk:WL P X bad all K Q os σ (A++(b,.cells (vs.take o++zs++vs.drop (o+zs.length)).toArray e (0,0))::B) Ds):
  WL P X bad all K Q ((false,ix)::os) σ (A++(b,.cells vs.toArray e (0,0))::B) Ds:=by
 subst hdd;refine fF ho rfl rfl hg fun a w hh=>?_
 obtain⟨h1,h2,h3,D,h4,h5,R⟩:=id hh;have hbx:=(h4.box (b,.cells vs.toArray e (0,0)) Yf).1;obtain⟨w',hr,hw'⟩:=kY (P:=P) zs 0 w b o vs e hbx Yd I;rw[Nat.add_zero]at hw';have hcl:(Builtin.clear_ ats tr #[.slice (some ⟨b,o,none⟩) n c]).run P w=.ok (.tuple #[]) w':=by
  have O:(#[Value.slice (some ⟨b,o,none⟩) n c]:Array Γ)[0]?= some (.slice (some ⟨b,o,none⟩) n c):=rfl;unfold Builtin.clear_;obtain⟨k,rfl⟩:∃k,n=k+1:=⟨n-1,Yd⟩
  simp only[hat,O,Ω,TU.of ht w,Ξ,hz w,hzs,ε];rw[hr];rfl
 have hex:∃r,(execOp a.eval ⟨none,.call {callee:=.builtin .clear,args:=#[x],argTypes:=ats},tr,pos,aft,g⟩).run P w=.ok (.value r) w':=by
  refine⟨.tuple #[],?_⟩;simp only[execOp,resolve,pure_bind,invoke,builtin];have O:(#[x].map a.eval)=#[.slice (some ⟨b,o,none⟩) n c]:=by simp[hh.eval hx]
  rw[O,Ω,hcl];rfl
 obtain⟨r,hex⟩:=hex;rw[hex];have hHas:bP (A++(b,.cells vs.toArray e (0,0))::B) b (.cells vs.toArray e (0,0)) (.cells (vs.take o++zs++vs.drop (o+zs.length)).toArray e (0,0)) (A++(b,.cells (vs.take o++zs++vs.drop (o+zs.length)).toArray e (0,0))::B):=.app .head;have hst:=h4.set hHas hw' rfl;exact⟨fun h=>Xaf,kk _ _ ⟨h1,h2,h3,D,hst,h5,R.step (fun _ p hp=>bNI Yu) (fun _=>lO hw' (bMR.2 ⟨_,hHas.mem,rfl⟩)) hst.dom⟩⟩
variable{z2:Operand}
theorem BM{t e:Θ}{b i n cap sz:Nat}{k:IntKind}(ho:all[ix]?= some ⟨some d,.slice t x none (some z) none,ty,pos,aft,g⟩)(ht:P.underlying t=some (.slice e))(hs:TS P e sz)(hx:ev σ x=some (qS b n cap))(hz:ev σ z=some (.int k (i:Int)))(hi:i≤cap)
  (hN:Nat.blt d X.N=true) (hg:cQ all σ g) (kk:WL P X bad all K Q os ((d,qS b i cap)::σ) μ Ds):WL P X bad all K Q ((fl,ix)::os) σ μ Ds:=by
 have ha:(if cap=0 then some (⟨b,0,none⟩:Addr)else(some (⟨b,0,none⟩:Addr)).map (·.add (0*sz)))=some ⟨b,0,none⟩:=by
  split
  ·rfl
  ·simp[Addr.add]
 refine bW ho rfl rfl hN hg (fun ρ hρ w'=>?_) kk;simp only[execOp,bPI,bOO,hρ x _ hx,hρ z _ hz];unfold Instr.sliceAt Instr.slice Instr.sliceBounds Instr.sliceBound asIntOf;have hle:(0:Int)≤(i:Int)∧(i:Int)≤(cap:Nat):=Yd
 simp only[Ω,TU.of ht w',Ξ,ε,pure_bind,hs w',hle,bRS,bPG,bOI,bQH,ha]
theorem BA{t e:Θ}{b j n cap sz:Nat}{k:IntKind}(ho:all[ix]?= some ⟨some d,.slice t x (some y) none none,ty,pos,aft,g⟩)(ht:P.underlying t=some (.slice e))(hs:TS P e sz)(hx:ev σ x=some (qS b n cap))(hy:ev σ y=some (.int k (j:Int)))(hj:j≤n)
  (hN:Nat.blt d X.N=true) (hg:cQ all σ g) (kk:∀o,(j<cap→o=j*sz)→WL P X bad all K Q os ((d,.slice (some ⟨b,o,none⟩) (n-j) (cap-j))::σ) μ Ds):WL P X bad all K Q ((fl,ix)::os) σ μ Ds:=by
 have ha:(if cap=j then some (⟨b,0,none⟩:Addr)else(some (⟨b,0,none⟩:Addr)).map (·.add (j*sz)))=some ⟨b,if cap=j then 0 else j*sz,none⟩:=by
  split
  ·rfl
  ·simp[gY]
 refine bW ho rfl rfl hN hg (fun ρ hρ w'=>?_) (kk (if cap=j then 0 else j*sz) fun h=>by rw[bNA Yd]);simp only[execOp,bPI,bOO,hρ x _ hx,hρ y _ hy];unfold Instr.sliceAt Instr.slice Instr.sliceBounds Instr.sliceBound asIntOf;have hle:(0:Int)≤(j:Int)∧(j:Int)≤(n:Nat):=Yd
 simp only[Ω,TU.of ht w',Ξ,ε,pure_bind,hs w',hle,bRS,bPG,bOI,ha]
theorem aFT{t e:Θ}{b l h n cap sz:Nat}{k k':IntKind}(ho:all[ix]?= some ⟨some d,.slice t x (some y) (some z) none,ty,pos,aft,g⟩)(ht:P.underlying t=some (.slice e))(hs:TS P e sz)(hx:ev σ x=some (qS b n cap))(hy:ev σ y=some (.int k (l:Int)))(hz:ev σ z=some (.int k' (h:Int)))(h1:l≤h)(h2:h≤cap)(h3:l<cap)
  (hN:Nat.blt d X.N=true) (hg:cQ all σ g) (kk:WL P X bad all K Q os ((d,.slice (some ⟨b,l*sz,none⟩) (h-l) (cap-l))::σ) μ Ds):WL P X bad all K Q ((fl,ix)::os) σ μ Ds:=by
 have ha:(if cap=l then some (⟨b,0,none⟩:Addr)else(some (⟨b,0,none⟩:Addr)).map (·.add (l*sz)))=some ⟨b,l*sz,none⟩:=by
  rw[bNA Yd];simp[gY]
 refine bW ho rfl rfl hN hg (fun ρ hρ w'=>?_) kk;simp only[execOp,bPI,bOO,hρ x _ hx,hρ y _ hy,hρ z _ hz];unfold Instr.sliceAt Instr.slice Instr.sliceBounds Instr.sliceBound asIntOf;have I:(0:Int)≤(l:Int)∧(l:Int)≤(h:Nat):=Yd
 have a2:(0:Int)≤(h:Int)∧(h:Int)≤(cap:Nat):=Yd
 simp only[Ω,TU.of ht w',Ξ,ε,pure_bind,hs w',I,a2,bRS,bPG,bOI,ha]
theorem aDZ{t e:Θ}{b l h m n cap sz:Nat}{k k' k2:IntKind}(ho:all[ix]?= some ⟨some d,.slice t x (some y) (some z) (some z2),ty,pos,aft,g⟩)(ht:P.underlying t=some (.slice e))(hs:TS P e sz)(hx:ev σ x=some (qS b n cap))(hy:ev σ y=some (.int k (l:Int)))(hz:ev σ z=some (.int k' (h:Int)))(I:ev σ z2=some (.int k2 (m:Int)))(h1:l≤h)(h2:h≤m)(h3:m≤cap)
  (hN:Nat.blt d X.N=true) (hg:cQ all σ g) (kk:∀v,WL P X bad all K Q os ((d,v)::σ) μ Ds):WL P X bad all K Q ((fl,ix)::os) σ μ Ds:=by
 refine bW (v:=.slice (if m=l then some ⟨b,0,none⟩else(some (⟨b,0,none⟩:Addr)).map (·.add (l*sz))) (h-l) (m-l)) ho rfl rfl hN hg (fun ρ hρ w'=>?_) (kk _);simp only[execOp,bOO,hρ x _ hx,hρ y _ hy,hρ z _ hz,hρ z2 _ I];unfold Instr.sliceAt Instr.slice Instr.sliceBounds Instr.sliceBound asIntOf;have O:(0:Int)≤(l:Int)∧(l:Int)≤(h:Nat):=Yd
 have a2:(0:Int)≤(h:Int)∧(h:Int)≤(m:Nat):=Yd
 have a3:(0:Int)≤(m:Int)∧(m:Int)≤(cap:Nat):=Yd
 simp only[Ω,TU.of ht w',Ξ,ε,pure_bind,hs w',O,a2,a3,bRS,bPG,bOI];rfl
theorem SF{t e:Θ}{D₁:aC}{b o n cap j:Nat}{k:IntKind}{xs:List Int}(ho:all[ix]?= some ⟨some d,.slice t x (some y) none none,ty,pos,aft,g⟩)(ht:P.underlying t=some (.slice e))(hs:TS P e 1)(hx:ev σ x=some (.slice (some ⟨b,o,none⟩) n cap))(hS:Sl D₁ RI 1 (.slice (some ⟨b,o,none⟩) n cap) xs)(hy:ev σ y=some (.int k (j:Int)))(hj:j<n)
  (hN:Nat.blt d X.N=true) (hg:cQ all σ g) (kk:Sl D₁ RI 1 (.slice (some ⟨b,o+j,none⟩) (n-j) (cap-j)) (xs.drop j)→WL P X bad all K Q os ((d,.slice (some ⟨b,o+j,none⟩) (n-j) (cap-j))::σ) μ Ds):WL P X bad all K Q ((fl,ix)::os) σ μ Ds:=by
 obtain⟨a,c,hv,h1,h2,h3⟩:=hS;cases hv;rcases h3 with h3|⟨b',o',ha,h3⟩
 ·subst h3;simp at hj
 cases ha;have ha:(if cap=j then some (⟨b,o,none⟩:Addr)else(some (⟨b,o,none⟩:Addr)).map (·.add (j*1)))=some ⟨b,o+j,none⟩:=by
  rw[bNA Yd];simp[gY]
 refine bW ho rfl rfl hN hg (fun ρ hρ w'=>?_) (kk ⟨_,_,by rw[bOU],by rw[bOU];omega,by rw[bOU];omega,bNC ⟨b,o+j,rfl,fun i z hi=>?_⟩⟩)
 ·simp only[execOp,bPI,bOO,hρ x _ hx,hρ y _ hy];unfold Instr.sliceAt Instr.slice Instr.sliceBounds Instr.sliceBound asIntOf;have hle:(0:Int)≤(j:Int)∧(j:Int)≤(xs.length:Nat):=Yd
  simp only[Ω,TU.of ht w',Ξ,ε,pure_bind,hs w',hle,bRS,bPG,bOI,ha]
 ·rw[bPC]at hi;obtain⟨cs,hr,hc,hA⟩:=h3 _ _ hi;exact⟨cs,hr,hc,by rw[show o+j+i*1=o+(j+i)*1 by omega];exact hA⟩
theorem OU{t e:Θ}{n len cap:Nat}{ad:Option Addr}(ho:all[ix]?= some ⟨some d,.sliceToArrayPointer t x,ty,pos,aft,g⟩)(ht:P.underlying t=some (.array n e))(hx:ev σ x=some (.slice ad len cap))(hl:n≤len)
  (hN:Nat.blt d X.N=true) (hg:cQ all σ g) (kk:WL P X bad all K Q os ((d,.pointer ad)::σ) μ Ds):WL P X bad all K Q ((fl,ix)::os) σ μ Ds:=by
 refine fF ho rfl rfl hg fun a w hh=>?_
 have:(execOp a.eval ⟨some d,.sliceToArrayPointer t x,ty,pos,aft,g⟩).run P w=.ok (.value (.pointer ad)) w:=by
  simp only[execOp,hh.eval hx];unfold Instr.arrayAt;rw[Ω,Ω,TU.of ht w];simp only[Ξ];rw[bNA Yd];rfl
 rw[this];exact⟨fun _=>pX.refl _ _,kk _ _ (hh.put hN _)⟩
open Go.Proofs Tryz
namespace L12
open C12
section
variable{α:Type}{f:α→List Γ}{n:Nat}(hf:∀x,(f x).length=n){xs:List α}{i:Nat}
include hf
theorem zM:((xs.drop (i+1)).flatMap f).length=(xs.length-(i+1))*n:=by rw[dD hf,bOU]
theorem aJI(k:Nat):(xs.flatMap f).take (k*n)=(xs.take k).flatMap f:=by
 induction xs generalizing k with
 |nil=>simp
 |cons x xs ih=>
  cases k with
  |zero=>simp
  |succ k=>
   rw[bNW,bRX,bNW,←ih k,show(k+1)*n=(f x).length+k*n by rw[hf,bPR];omega,List.take_length_add_append]
theorem aHH(k:Nat):(xs.flatMap f).drop (k*n)=(xs.drop k).flatMap f:=by
 induction xs generalizing k with
 |nil=>simp
 |cons x xs ih=>
  cases k with
  |zero=>simp
  |succ k=>
   rw[bNW,bRY,←ih k,show(k+1)*n=(f x).length+k*n by rw[hf,bPR];omega,bRK]
theorem Z8{cap o:Nat}{junk:List Γ}(hi:i<xs.length)(hcap:xs.length≤cap)(ho:i+1<cap→o=(i+1)*n)(_:(xs.flatMap f++junk).length=cap*n):((xs.flatMap f++junk).drop o).take ((xs.length-(i+1))*n)=(xs.drop (i+1)).flatMap f:=by
 by_cases h:i+1<xs.length
 ·rw[ho Yd,List.drop_append_of_le_length (by rw[dD hf];exact bQN _ Yd),aHH hf,bOK (by rw[zM hf];exact bNJ _),bNV (by rw[zM hf];exact bNJ _)]
 ·rw[show xs.length-(i+1)=0 by omega,bRB,List.take_zero,bOL Yd];rfl
theorem yL{junk:List Γ}(hi:i<xs.length):(xs.flatMap f++junk).take (i*n)++(xs.drop (i+1)).flatMap f++(xs.flatMap f++junk).drop (i*n+(xs.length-(i+1))*n)=(xs.eraseIdx i).flatMap f++(xs.flatMap f++junk).drop ((xs.length-1)*n):=by
 rw[bOK (by rw[dD hf];exact bQN _ Yd),aJI hf,←bOC,←List.eraseIdx_eq_take_drop_succ,←bPR,show i+(xs.length-(i+1))=xs.length-1 by omega]
theorem Q4{cap:Nat}{junk:List Γ}(hi:i<xs.length)(_:(xs.flatMap f).length=xs.length*n)(I:(xs.flatMap f++junk).length=cap*n)(hcap:xs.length≤cap):((xs.eraseIdx i).flatMap f++(xs.flatMap f++junk).drop ((xs.length-1)*n)).length=cap*n:=by
 have h1:(xs.length-1)*n≤cap*n:=bQN _ Yd;rw[LE,dD hf,bSG hi,bOU,I];omega
theorem CZ{cap b e:Nat}{junk zs:List Γ}{cells:List Γ}(hi:i<xs.length)(hl1:(xs.flatMap f).length=xs.length*n)(I:(xs.flatMap f++junk).length=cap*n)(hcap:xs.length≤cap)(hz:cells=((xs.eraseIdx i).flatMap f++(xs.flatMap f++junk).drop ((xs.length-1)*n)).take ((xs.length-1)*n)++zs++((xs.eraseIdx i).flatMap f++(xs.flatMap f++junk).drop ((xs.length-1)*n)).drop ((xs.length-1)*n+zs.length))(hzl:(xs.length-1)*n+zs.length≤cap*n:=by simp;omega):
  bI e n (qS b (xs.length-1) cap) (xs.eraseIdx i).length ((xs.eraseIdx i).flatMap f) [(b,qC cells e)]:=by
 rw[bSG hi];have hE:((xs.eraseIdx i).flatMap f).length=(xs.length-1)*n:=by rw[dD hf,bSG hi]
 have hT:=Q4 hf hi hl1 I hcap;subst hz;generalize hR:(xs.flatMap f++junk).drop ((xs.length-1)*n)=R at hT ⊢
 have O:((xs.eraseIdx i).flatMap f++R).take ((xs.length-1)*n)=(xs.eraseIdx i).flatMap f:=by rw[←hE,bRZ]
 rw[O,bND];refine bNC ⟨b,cap,_,rfl,Yd,rfl,hE,?_⟩;rw[LE,LE,bOU,hT,hE];omega
end
theorem aAM(sv:Γ)(xs:List C1.xW)(i:Nat)(ν:aD)(D:aC)(ha:bI 202 3 sv xs.length (xs.flatMap cC) ν)(hi:i<xs.length):IF prog 344 [sv,qI (i:Int),qI ((i+1:Nat):Int)] D ν (fun _ v ν'=>bI 202 3 v (xs.eraseIdx i).length ((xs.eraseIdx i).flatMap cC) ν'):=by
 obtain⟨b,cap,junk,rfl,hcap,rfl,hl1,I⟩:=ha.some Yd;refine jH 33 func344 rfl rfl rfl rfl fun h0 hwl hwn=>aA<|Zf rfl<|aJ<|Za rfl<|Za rfl<|Za rfl<|Za rfl<|lL rfl U26 rfl rfl rfl bSM<|aDZ (l:=i) (h:=i+1) (m:=xs.length) rfl U26 kM rfl rfl rfl rfl Yd Yd hcap rfl bSM fun v3=>bC<|Za rfl ?_;refine Za rfl<|Zas rfl<|aF<|Zae rfl (fun hc1=>?_) fun hc1=>?_
 ·exact absurd hc1 Yd
 ·refine aQ<|aA<|Za rfl<|lL rfl U26 rfl rfl rfl bSM<|Zf rfl<|bO<|bN [] 2 8 58<|Za rfl<|Za rfl<|BM (i:=i) rfl U26 kM rfl rfl Yd rfl bSM<|Wbc ?_;refine BA (j:=i+1) rfl U26 kM rfl rfl Yd rfl bSM fun o ho=>wA (A:=[]) (B:=[]) (sz:=3) (xs:=(xs.drop (i+1)).flatMap cC) rfl U26 rfl rfl kM rfl rfl (Z8 (f:=cC) (fun _=>rfl) hi hcap ho I) (zM (f:=cC) fun _=>rfl) Yd Yaf (dE c7 _) (bNI rfl) rfl bSM ?_;rw[show i+(xs.length-(i+1))=xs.length-1 by omega];refine Zaa [(b,qC ((xs.eraseIdx i).flatMap cC++(xs.flatMap cC++junk).drop ((xs.length-1)*3)) 202)] (by rw[bOA,yL (f:=cC) (fun _=>rfl) hi])<|Zf rfl<|aJ<|Za rfl<|Za rfl<|lL rfl U26 rfl rfl rfl bSM<|Za rfl<|aFT (l:=xs.length-1) (h:=xs.length) rfl U26 kM rfl rfl rfl Yd hcap Yd rfl bSM ?_;rw[show xs.length-(xs.length-1)=1 by omega];refine b7 (A:=[]) (B:=[]) (zs:=[.bool false,qI 0,qI 0]) rfl rfl U26 rfl A5 rfl Yd Yg (by rw[Q4 (f:=cC) (fun _=>rfl) hi hl1 I hcap];simp;omega) Yk bSM<|aJ<|Za rfl<|We ?_
  exact Zaj [] [] [_] [_] rfl ⟨rfl,bSM⟩ rfl fun D hD=>CZ (f:=cC) (fun _=>rfl) hi hl1 I hcap rfl
theorem YO(sv:Γ)(xs:List C2.Mk)(i:Nat)(ν:aD)(D:aC)(ha:bI 204 4 sv xs.length (xs.flatMap cM) ν)(hi:i<xs.length):IF prog 346 [sv,qI (i:Int),qI ((i+1:Nat):Int)] D ν (fun _ v ν'=>bI 204 4 v (xs.eraseIdx i).length ((xs.eraseIdx i).flatMap cM) ν'):=by
 obtain⟨b,cap,junk,rfl,hcap,rfl,hl1,I⟩:=ha.some Yd;refine jH 33 func346 rfl rfl rfl rfl fun h0 hwl hwn=>aA<|Zf rfl<|aJ<|Za rfl<|Za rfl<|Za rfl<|Za rfl<|lL rfl U30 rfl rfl rfl bSM<|aDZ (l:=i) (h:=i+1) (m:=xs.length) rfl U30 lP rfl rfl rfl rfl Yd Yd hcap rfl bSM fun v3=>bC<|Za rfl ?_;refine Za rfl<|Zas rfl<|aF<|Zae rfl (fun hc1=>?_) fun hc1=>?_
 ·exact absurd hc1 Yd
 ·refine aQ<|aA<|Za rfl<|lL rfl U30 rfl rfl rfl bSM<|Zf rfl<|bO<|bN [] 2 8 58<|Za rfl<|Za rfl<|BM (i:=i) rfl U30 lP rfl rfl Yd rfl bSM<|Wbc ?_;refine BA (j:=i+1) rfl U30 lP rfl rfl Yd rfl bSM fun o ho=>wA (A:=[]) (B:=[]) (sz:=4) (xs:=(xs.drop (i+1)).flatMap cM) rfl U30 rfl rfl lP rfl rfl (Z8 (f:=cM) (fun _=>rfl) hi hcap ho I) (zM (f:=cM) fun _=>rfl) Yd Yaf (dE m3 _) (bNI rfl) rfl bSM ?_;rw[show i+(xs.length-(i+1))=xs.length-1 by omega];refine Zaa [(b,qC ((xs.eraseIdx i).flatMap cM++(xs.flatMap cM++junk).drop ((xs.length-1)*4)) 204)] (by rw[bOA,yL (f:=cM) (fun _=>rfl) hi])<|Zf rfl<|aJ<|Za rfl<|Za rfl<|lL rfl U30 rfl rfl rfl bSM<|Za rfl<|aFT (l:=xs.length-1) (h:=xs.length) rfl U30 lP rfl rfl rfl Yd hcap Yd rfl bSM ?_;rw[show xs.length-(xs.length-1)=1 by omega];refine b7 (A:=[]) (B:=[]) (zs:=[qI 0,qI 0,qI 0,qI 0]) rfl rfl U30 rfl C6 rfl Yd Yg (by rw[Q4 (f:=cM) (fun _=>rfl) hi hl1 I hcap];simp;omega) Yk bSM<|aJ<|Za rfl<|We ?_
  exact Zaj [] [] [_] [_] rfl ⟨rfl,bSM⟩ rfl fun D hD=>CZ (f:=cM) (fun _=>rfl) hi hl1 I hcap rfl
theorem aBO(sv:Γ)(xs:List C3.eS)(i:Nat)(ν:aD)(D:aC)(ha:bI 206 3 sv xs.length (xs.flatMap cL) ν)(hi:i<xs.length):IF prog 348 [sv,qI (i:Int),qI ((i+1:Nat):Int)] D ν (fun _ v ν'=>bI 206 3 v (xs.eraseIdx i).length ((xs.eraseIdx i).flatMap cL) ν'):=by
 obtain⟨b,cap,junk,rfl,hcap,rfl,hl1,I⟩:=ha.some Yd;refine jH 33 func348 rfl rfl rfl rfl fun h0 hwl hwn=>aA<|Zf rfl<|aJ<|Za rfl<|Za rfl<|Za rfl<|Za rfl<|lL rfl U33 rfl rfl rfl bSM<|aDZ (l:=i) (h:=i+1) (m:=xs.length) rfl U33 cG rfl rfl rfl rfl Yd Yd hcap rfl bSM fun v3=>bC<|Za rfl ?_;refine Za rfl<|Zas rfl<|aF<|Zae rfl (fun hc1=>?_) fun hc1=>?_
 ·exact absurd hc1 Yd
 ·refine aQ<|aA<|Za rfl<|lL rfl U33 rfl rfl rfl bSM<|Zf rfl<|bO<|bN [] 2 8 58<|Za rfl<|Za rfl<|BM (i:=i) rfl U33 cG rfl rfl Yd rfl bSM<|Wbc ?_;refine BA (j:=i+1) rfl U33 cG rfl rfl Yd rfl bSM fun o ho=>wA (A:=[]) (B:=[]) (sz:=3) (xs:=(xs.drop (i+1)).flatMap cL) rfl U33 rfl rfl cG rfl rfl (Z8 (f:=cL) (fun _=>rfl) hi hcap ho I) (zM (f:=cL) fun _=>rfl) Yd Yaf (dE m5 _) (bNI rfl) rfl bSM ?_;rw[show i+(xs.length-(i+1))=xs.length-1 by omega];refine Zaa [(b,qC ((xs.eraseIdx i).flatMap cL++(xs.flatMap cL++junk).drop ((xs.length-1)*3)) 206)] (by rw[bOA,yL (f:=cL) (fun _=>rfl) hi])<|Zf rfl<|aJ<|Za rfl<|Za rfl<|lL rfl U33 rfl rfl rfl bSM<|Za rfl<|aFT (l:=xs.length-1) (h:=xs.length) rfl U33 cG rfl rfl rfl Yd hcap Yd rfl bSM ?_;rw[show xs.length-(xs.length-1)=1 by omega];refine b7 (A:=[]) (B:=[]) (zs:=[qI 0,qI 0,qI 0]) rfl rfl U33 rfl kO rfl Yd Yg (by rw[Q4 (f:=cL) (fun _=>rfl) hi hl1 I hcap];simp;omega) Yk bSM<|aJ<|Za rfl<|We ?_
  exact Zaj [] [] [_] [_] rfl ⟨rfl,bSM⟩ rfl fun D hD=>CZ (f:=cL) (fun _=>rfl) hi hl1 I hcap rfl
theorem aBC(sv:Γ)(xs:List (Int×Int))(i:Nat)(ν:aD)(D:aC)(ha:bI 90 2 sv xs.length (xs.flatMap cP) ν)(hi:i<xs.length):IF prog 349 [sv,qI (i:Int),qI ((i+1:Nat):Int)] D ν (fun _ v ν'=>bI 90 2 v (xs.eraseIdx i).length ((xs.eraseIdx i).flatMap cP) ν'):=by
 obtain⟨b,cap,junk,rfl,hcap,rfl,hl1,I⟩:=ha.some Yd;refine jH 33 func349 rfl rfl rfl rfl fun h0 hwl hwn=>aA<|Zf rfl<|aJ<|Za rfl<|Za rfl<|Za rfl<|Za rfl<|lL rfl U38 rfl rfl rfl bSM<|aDZ (l:=i) (h:=i+1) (m:=xs.length) rfl U38 dV rfl rfl rfl rfl Yd Yd hcap rfl bSM fun v3=>bC<|Za rfl ?_;refine Za rfl<|Zas rfl<|aF<|Zae rfl (fun hc1=>?_) fun hc1=>?_
 ·exact absurd hc1 Yd
 ·refine aQ<|aA<|Za rfl<|lL rfl U38 rfl rfl rfl bSM<|Zf rfl<|bO<|bN [] 2 8 58<|Za rfl<|Za rfl<|BM (i:=i) rfl U38 dV rfl rfl Yd rfl bSM<|Wbc ?_;refine BA (j:=i+1) rfl U38 dV rfl rfl Yd rfl bSM fun o ho=>wA (A:=[]) (B:=[]) (sz:=2) (xs:=(xs.drop (i+1)).flatMap cP) rfl U38 rfl rfl dV rfl rfl (Z8 (f:=cP) (fun _=>rfl) hi hcap ho I) (zM (f:=cP) fun _=>rfl) Yd Yaf (dE yE _) (bNI rfl) rfl bSM ?_;rw[show i+(xs.length-(i+1))=xs.length-1 by omega];refine Zaa [(b,qC ((xs.eraseIdx i).flatMap cP++(xs.flatMap cP++junk).drop ((xs.length-1)*2)) 90)] (by rw[bOA,yL (f:=cP) (fun _=>rfl) hi])<|Zf rfl<|aJ<|Za rfl<|Za rfl<|lL rfl U38 rfl rfl rfl bSM<|Za rfl<|aFT (l:=xs.length-1) (h:=xs.length) rfl U38 dV rfl rfl rfl Yd hcap Yd rfl bSM ?_;rw[show xs.length-(xs.length-1)=1 by omega];refine b7 (A:=[]) (B:=[]) (zs:=[qI 0,qI 0]) rfl rfl U38 rfl nH rfl Yd Yg (by rw[Q4 (f:=cP) (fun _=>rfl) hi hl1 I hcap];simp;omega) Yk bSM<|aJ<|Za rfl<|We ?_
  exact Zaj [] [] [_] [_] rfl ⟨rfl,bSM⟩ rfl fun D hD=>CZ (f:=cP) (fun _=>rfl) hi hl1 I hcap rfl
theorem pB{e sz n:Nat}{cells:List Γ}{v:Γ}{ν:aD}(ha:bI e sz v n cells ν):∀p∈ν,cU p.2:=by
 intro p hp;rcases ha with⟨_,_,_,_,rfl⟩|⟨b,cap,junk,_,_,rfl,_⟩
 ·cases hp
 ·simp only[bNL]at hp;subst hp;rfl
theorem UA(wb:Nat)(s:aM)(pv cv hv lv mv bl bc yc yq nv:Γ)(a:Int)(ν:aD)(D:aC)(hn:Sl D RI 1 nv [a])(ha:bI 202 3 cv s.row.counts.length (s.row.counts.flatMap cC) ν)(hsm:s.row.counts.length≤100)(V:0≤a):kH prog 270 [qP wb,nv] D ((wb,qC (dO s pv cv hv lv mv bl bc yc yq) 343)::ν) (fun _ _ ν'=>a<(s.row.counts.length:Int)∧∃v1 ν1,ν'=(wb,qC (dO s pv v1 hv lv mv bl bc yc yq) 343)::ν1∧bI 202 3 v1 (s.row.counts.eraseIdx a.toNat).length ((s.row.counts.eraseIdx a.toNat).flatMap cC) ν1) (fun v=>(s.row.counts.length:Int)≤a∧v=fZ 7):=by
 obtain⟨bt,ot,ct,rfl⟩:=dB hn Yf;obtain⟨i,rfl⟩:∃i:Nat,a=(i:Int):=⟨a.toNat,Yd⟩
 have hbt:=eP hn;refine eI 34 func270 rfl rfl rfl rfl fun h0 hwl hwn=>Za3<|aU [] 7 11 1016<|Za rfl<|aT rfl hn<|Za rfl<|Zam rfl<|Zj rfl aY rfl<|Zj rfl dT rfl<|Zj rfl nE rfl<|Zp rfl I5 rfl Mm0 rfl<|bR rfl U26 rfl ha rfl rfl bSM ?_;refine Zl [(_,_)] ν [] rfl (Or.inr Yi) (fun D5 O=>lR (i:Int) (s.row.counts.length:Int) _) (fun v5 Y O hp5=>cS (P:=prog) (fn:=f270) rfl ⟨hp5.1,hp5.2⟩) fun v5 Y ν5 O hp5=>?_;obtain⟨R,rfl⟩:=hp5;refine aF<|fN hbt Yf fun hap=>pF fun hnd=>?_;have hnu:=fG hap hnd;have hwbo:wb∉cZ.mk [bt,wb]:=cZ.out Yf;have hbto:bt∉cZ.mk [bt,wb]:=cZ.out Yf;refine aU (cZ.mk [bt,wb]) 4 20 32766<|Za rfl<|Za rfl<|Zam rfl<|Zj rfl aY rfl<|Zj rfl dT rfl<|Zj rfl nE rfl<|bD rfl I5 rfl Mm0 rfl Yl rfl bSM<|Wae ?_;refine Zad rfl<|aV ((wb,qC (dO s pv cv hv lv mv bl bc yc yq) 343)::ν) rfl<|Zaa ((wb,qC (dO s pv cv hv lv mv bl bc yc yq) 343)::ν++[]) (bNN _).symm<|gF (A:=[(wb,qC (dO s pv cv hv lv mv bl bc yc yq) 343)]) (ν:=ν) (B:=[]) rfl rfl rfl rfl Yp (pB ha) (fun D7 Z=>aAM _ s.row.counts i ν _ ha Yd) rfl bSM fun U D8 ν7 hB I=>Zaa ((wb,qC (dO s pv cv hv lv mv bl bc yc yq) 343)::ν7) (bNN _)<|Zam rfl<|Zj rfl aY rfl<|Zj rfl dT rfl<|Zj rfl nE rfl<|Zs (dO s pv U hv lv mv bl bc yc yq) rfl I.cells1 NW .head rfl I.cell1<|Zao ?_;exact eC rfl fun D' hD=>⟨R,U,ν7,rfl,I⟩
theorem YA(wb:Nat)(s:aM)(pv cv hv lv mv bl bc yc yq nv:Γ)(a:Int)(ν:aD)(D:aC)(hn:Sl D RI 1 nv [a])(ha:bI 204 4 mv s.table.marks.length (s.table.marks.flatMap cM) ν)(hsm:s.table.marks.length≤100)(V:0≤a):kH prog 278 [qP wb,nv] D ((wb,qC (dO s pv cv hv lv mv bl bc yc yq) 343)::ν) (fun _ _ ν'=>a<(s.table.marks.length:Int)∧∃v1 ν1,ν'=(wb,qC (dO s pv cv hv lv v1 bl bc yc yq) 343)::ν1∧bI 204 4 v1 (s.table.marks.eraseIdx a.toNat).length ((s.table.marks.eraseIdx a.toNat).flatMap cM) ν1) (fun v=>(s.table.marks.length:Int)≤a∧v=fZ 7):=by
 obtain⟨bt,ot,ct,rfl⟩:=dB hn Yf;obtain⟨i,rfl⟩:∃i:Nat,a=(i:Int):=⟨a.toNat,Yd⟩
 have hbt:=eP hn;refine eI 34 func278 rfl rfl rfl rfl fun h0 hwl hwn=>Za3<|aU [] 7 11 1016<|Za rfl<|aT rfl hn<|Za rfl<|Zam rfl<|Zj rfl aY rfl<|Zj rfl cY rfl<|Zj rfl mO rfl<|Zp rfl I9 rfl Mm0 rfl<|bR rfl U30 rfl ha rfl rfl bSM ?_;refine Zl [(_,_)] ν [] rfl (Or.inr Yi) (fun D5 O=>lR (i:Int) (s.table.marks.length:Int) _) (fun v5 Y O hp5=>cS (P:=prog) (fn:=f278) rfl ⟨hp5.1,hp5.2⟩) fun v5 Y ν5 O hp5=>?_;obtain⟨R,rfl⟩:=hp5;refine aF<|fN hbt Yf fun hap=>pF fun hnd=>?_;have hnu:=fG hap hnd;have hwbo:wb∉cZ.mk [bt,wb]:=cZ.out Yf;have hbto:bt∉cZ.mk [bt,wb]:=cZ.out Yf;refine aU (cZ.mk [bt,wb]) 4 20 32766<|Wbw ?_;refine Zad rfl<|aV ((wb,qC (dO s pv cv hv lv mv bl bc yc yq) 343)::ν) rfl<|Zaa ((wb,qC (dO s pv cv hv lv mv bl bc yc yq) 343)::ν++[]) (bNN _).symm<|gF (A:=[(wb,qC (dO s pv cv hv lv mv bl bc yc yq) 343)]) (ν:=ν) (B:=[]) rfl rfl rfl rfl Yp (pB ha) (fun D7 Z=>YO _ s.table.marks i ν _ ha Yd) rfl bSM fun U D8 ν7 hB I=>Zaa ((wb,qC (dO s pv cv hv lv mv bl bc yc yq) 343)::ν7) (bNN _)<|Zam rfl<|Zj rfl aY rfl<|Zj rfl cY rfl<|Zj rfl mO rfl<|Zs (dO s pv cv hv lv U bl bc yc yq) rfl I.cells1 OS .head rfl I.cell1<|Zao ?_;exact eC rfl fun D' hD=>⟨R,U,ν7,rfl,I⟩
theorem aAX(wb:Nat)(s:aM)(pv cv hv lv mv bl bc yc yq nv:Γ)(a:Int)(ν:aD)(D:aC)(hn:Sl D RI 1 nv [a])(ha:bI 206 3 bl s.book.lines.length (s.book.lines.flatMap cL) ν)(hsm:s.book.lines.length≤100)(V:0≤a):kH prog 282 [qP wb,nv] D ((wb,qC (dO s pv cv hv lv mv bl bc yc yq) 343)::ν) (fun _ _ ν'=>a<(s.book.lines.length:Int)∧∃v1 ν1,ν'=(wb,qC (dO s pv cv hv lv mv v1 bc yc yq) 343)::ν1∧bI 206 3 v1 (s.book.lines.eraseIdx a.toNat).length ((s.book.lines.eraseIdx a.toNat).flatMap cL) ν1) (fun v=>(s.book.lines.length:Int)≤a∧v=fZ 7):=by
 obtain⟨bt,ot,ct,rfl⟩:=dB hn Yf;obtain⟨i,rfl⟩:∃i:Nat,a=(i:Int):=⟨a.toNat,Yd⟩
 have hbt:=eP hn;refine eI 34 func282 rfl rfl rfl rfl fun h0 hwl hwn=>Za3<|aU [] 7 11 1016<|Za rfl<|Wbj ?_;refine Zl [(_,_)] ν [] rfl (Or.inr Yi) (fun D5 O=>lR (i:Int) (s.book.lines.length:Int) _) (fun v5 Y O hp5=>cS (P:=prog) (fn:=f282) rfl ⟨hp5.1,hp5.2⟩) fun v5 Y ν5 O hp5=>?_;obtain⟨R,rfl⟩:=hp5;refine aF<|fN hbt Yf fun hap=>pF fun hnd=>?_;have hnu:=fG hap hnd;have hwbo:wb∉cZ.mk [bt,wb]:=cZ.out Yf;have hbto:bt∉cZ.mk [bt,wb]:=cZ.out Yf;refine aU (cZ.mk [bt,wb]) 4 20 32766<|Za rfl<|Za rfl<|Zam rfl<|Zj rfl aY rfl<|Zj rfl fV rfl<|Zj rfl dM rfl<|bD rfl iB rfl Mm0 rfl Yl rfl bSM<|Wae ?_;refine Zad rfl<|aV ((wb,qC (dO s pv cv hv lv mv bl bc yc yq) 343)::ν) rfl<|Zaa ((wb,qC (dO s pv cv hv lv mv bl bc yc yq) 343)::ν++[]) (bNN _).symm<|gF (A:=[(wb,qC (dO s pv cv hv lv mv bl bc yc yq) 343)]) (ν:=ν) (B:=[]) rfl rfl rfl rfl Yp (pB ha) (fun D7 Z=>aBO _ s.book.lines i ν _ ha Yd) rfl bSM fun U D8 ν7 hB I=>Zaa ((wb,qC (dO s pv cv hv lv mv bl bc yc yq) 343)::ν7) (bNN _)<|Zam rfl<|Zj rfl aY rfl<|Zj rfl fV rfl<|Zj rfl dM rfl<|Zs (dO s pv cv hv lv mv U bc yc yq) rfl I.cells1 eR .head rfl I.cell1<|Zao ?_;exact eC rfl fun D' hD=>⟨R,U,ν7,rfl,I⟩
theorem UI(wb:Nat)(s:aM)(pv cv hv lv mv bl bc yc yq nv:Γ)(a:Int)(ν:aD)(D:aC)(hn:Sl D RI 1 nv [a])(ha:bI 90 2 yq s.yard.claims.length (s.yard.claims.flatMap cP) ν)(hsm:s.yard.claims.length≤100)(V:0≤a):kH prog 287 [qP wb,nv] D ((wb,qC (dO s pv cv hv lv mv bl bc yc yq) 343)::ν) (fun _ _ ν'=>a<(s.yard.claims.length:Int)∧∃v1 ν1,ν'=(wb,qC (dO s pv cv hv lv mv bl bc yc v1) 343)::ν1∧bI 90 2 v1 (s.yard.claims.eraseIdx a.toNat).length ((s.yard.claims.eraseIdx a.toNat).flatMap cP) ν1) (fun v=>(s.yard.claims.length:Int)≤a∧v=fZ 7):=by
 obtain⟨bt,ot,ct,rfl⟩:=dB hn Yf;obtain⟨i,rfl⟩:∃i:Nat,a=(i:Int):=⟨a.toNat,Yd⟩
 have hbt:=eP hn;refine eI 34 func287 rfl rfl rfl rfl fun h0 hwl hwn=>Za3<|aU [] 7 11 1016<|Za rfl<|aT rfl hn<|Za rfl<|Zam rfl<|Zj rfl aY rfl<|Zj rfl eX rfl<|Zj rfl mR rfl<|Zp rfl J4 rfl Mm0 rfl<|bR rfl U38 rfl ha rfl rfl bSM ?_;refine Zl [(_,_)] ν [] rfl (Or.inr Yi) (fun D5 O=>lR (i:Int) (s.yard.claims.length:Int) _) (fun v5 Y O hp5=>cS (P:=prog) (fn:=f287) rfl ⟨hp5.1,hp5.2⟩) fun v5 Y ν5 O hp5=>?_;obtain⟨R,rfl⟩:=hp5;refine aF<|fN hbt Yf fun hap=>pF fun hnd=>?_;have hnu:=fG hap hnd;have hwbo:wb∉cZ.mk [bt,wb]:=cZ.out Yf;have hbto:bt∉cZ.mk [bt,wb]:=cZ.out Yf;refine aU (cZ.mk [bt,wb]) 4 20 32766<|Wbv ?_;refine Zad rfl<|aV ((wb,qC (dO s pv cv hv lv mv bl bc yc yq) 343)::ν) rfl<|Zaa ((wb,qC (dO s pv cv hv lv mv bl bc yc yq) 343)::ν++[]) (bNN _).symm<|gF (A:=[(wb,qC (dO s pv cv hv lv mv bl bc yc yq) 343)]) (ν:=ν) (B:=[]) rfl rfl rfl rfl Yp (pB ha) (fun D7 Z=>aBC _ s.yard.claims i ν _ ha Yd) rfl bSM fun U D8 ν7 hB I=>Zaa ((wb,qC (dO s pv cv hv lv mv bl bc yc yq) 343)::ν7) (bNN _)<|Zam rfl<|Zj rfl aY rfl<|Zj rfl eX rfl<|Zj rfl mR rfl<|Zs (dO s pv cv hv lv mv bl bc yc U) rfl I.cells1 PQ .head rfl I.cell1<|Zao ?_;exact eC rfl fun D' hD=>⟨R,U,ν7,rfl,I⟩
theorem bHI{D:aC}{bt ot n ct:Nat}{a b c d:Int}(h:Sl D RI 1 (.slice (some ⟨bt,ot,none⟩) n ct) [a,b,c,d]):At D bt (ot+1) [qI b,qI c,qI d]:=by
  obtain⟨x,cap,hv,h1,h2,h3⟩:=h;cases hv;rcases h3 with h3|⟨b',o,ha,h3⟩
  · cases h3
  · cases ha;intro j v hj;have key:∀(i:Nat) (z:Int),[a,b,c,d][i]?= some z→(D bt)[ot+i]?= some (qI z):=fun i z hi=>by
      obtain⟨cs,hr,hc,hA⟩:=h3 i z hi;obtain rfl:cs=[qI z]:=hr;have:=hA 0 _ rfl;simpa using this
    match j with
    | 0 => obtain rfl : Value.int .i64 b = v := by simpa using hj
           exact key 1 b rfl
    | 1 => obtain rfl : Value.int .i64 c = v := by simpa using hj
           exact key 2 c rfl
    | 2 => obtain rfl : Value.int .i64 d = v := by simpa using hj
           exact key 3 d rfl
    |j+3=>simp at hj
theorem ZB(wb:Nat)(s:aM)(pv cv hv lv mv bl bc yc yq nv:Γ)(a b c d:Int)(ν:aD)(D:aC)(hn:Sl D RI 1 nv [a,b,c,d])(ha:bI 212 4 yc s.yard.chairs.length (s.yard.chairs.flatMap cH) ν)(hsm:s.yard.chairs.length≤100):kH prog 283 [qP wb,nv] D ((wb,qC (dO s pv cv hv lv mv bl bc yc yq) 343)::ν) (fun _ _ ν'=>((a≤9∧max (max b c) d≤2)∧(s.yard.chairs.length:Int)<5)∧∃v1 ν1,ν'=(wb,qC (dO s pv cv hv lv mv bl bc v1 yq) 343)::ν1∧bI 212 4 v1 (s.yard.chairs++[(⟨a,⟨b,c,d⟩⟩:C7.Ch)]).length ((s.yard.chairs++[(⟨a,⟨b,c,d⟩⟩:C7.Ch)]).flatMap cH) ν1) (fun v=>((9<a∨2<max (max b c) d)∧v=fZ 2)∨((a≤9∧max (max b c) d≤2)∧5≤(s.yard.chairs.length:Int)∧v=fZ 3)):=by
 obtain⟨bt,ot,ct,rfl⟩:=dB hn Yf;have hbt:=eP hn;refine eI 43 func283 rfl rfl rfl rfl (fun h0 hwl hwn=>Za3<|aU [] 5 10 240<|Za rfl<|aT rfl hn<|Zaq rfl<|Za rfl<|SF (j:=1) rfl U25 aH rfl hn rfl Yf rfl bSM fun hsT=>Zd rfl (fun D3 hB=>L2.aUC _ b [c,d] _ (hsT.up RI.up (hB _ Yf)))<|Zaq rfl<|Zt rfl U401 mG pV rfl (.cons rfl rfl (.cons rfl rfl .nil)) fun hI hJ hE O=>Zl [(_,_)] ν [] rfl (bNC Yi) (fun D5 R=>gD 2 [decide (9<a),decide (2<max (max b c) d)] _ _ ((iP (l:=[decide (9<a),decide (2<max (max b c) d)]) (fun _ _ _ h=>h) O Yf).up RB.up (R _ Yf))) (fun v5 D6 R hp5=>cS (P:=prog) (fn:=f283) rfl (bNI ⟨by simpa only[List.any_cons,List.any_nil,Bool.or_false,Bool.true_beq,bNZ,GT]using hp5.1,hp5.2⟩)) fun v5 D6 ν5 R hp5=>?_);obtain⟨hf50,rfl⟩:=hp5;have Y:a≤9∧max (max b c) d≤2:=by simp only[List.any_cons,List.any_nil,Bool.or_false,Bool.true_beq,bOH,bMY,Int.not_lt]at hf50;exact hf50
 refine aJ<|Za rfl<|Zam rfl<|Zj rfl aY rfl<|Zj rfl eX rfl<|Zj rfl iF rfl<|Zp rfl pL rfl Mm0 rfl<|bR rfl U37 rfl ha rfl rfl bSM<|Zl [(_,_)] ν [] rfl (Or.inr Yi) (fun D7 Z=>A8 (s.yard.chairs.length:Int) 5 _) (fun v7 D8 Z I=>cS (P:=prog) (fn:=f283) rfl (bNC ⟨Y,I.1,I.2⟩)) fun v7 D8 ν7 Z I=>?_;obtain⟨hF,rfl⟩:=I;refine aF<|fN hbt Yf fun hap=>pF fun hnd=>?_;have hnu:=fG hap hnd;have hwbo:wb∉cZ.mk [bt,wb]:=cZ.out Yf;have hbto:bt∉cZ.mk [bt,wb]:=cZ.out Yf;refine aU (cZ.mk [bt,wb]) 4 22 131070<|Za rfl<|Za rfl<|Zam rfl<|Zj rfl aY rfl<|Zj rfl eX rfl<|Zj rfl iF rfl<|bD rfl pL rfl Mm0 rfl Yl rfl bSM<|Za rfl<|aT rfl hn<|Za rfl<|SF (j:=1) rfl U25 aH rfl hn rfl Yf rfl bSM fun hsU=>?_;refine OU rfl U210 rfl Yf rfl bSM<|cK rfl rE rfl (bHI hn) Yf oO hbto rfl bSM<|Zu [qI a,qI b,qI c,qI d] rfl aWX Q3 rfl<|Zt rfl U37 mK Q3 rfl (.cons rfl rfl .nil) fun hK hN hH U=>zS bJY (⟨a,⟨b,c,d⟩⟩:C7.Ch) rfl U37 rfl rfl mK Q3 rfl aCS rfl rfl rfl ha U Yd Yp bSM fun v1 ν1 V=>Zam rfl<|Zj rfl aY rfl<|Zj rfl eX rfl<|Zj rfl iF rfl<|Zs (dO s pv cv hv lv mv bl bc v1 yq) rfl V.cells1 YM .head rfl V.cell1<|Zao ?_;exact eC rfl fun D' hD=>⟨⟨Y,hF⟩,v1,ν1,rfl,V⟩
end L12
def aGK(es:Array MapEntry)(M:List (Λ×Γ)):Prop:=es.toList.map (fun e=>(e.key,e.val))=M.map fun p=>(Value.string p.1,p.2)
def y7(s:Λ):List (Λ×Γ)→Nat→Option (Nat×Γ)
 | [],_=>none
 |(b,v)::M,i=>if(s==b)=true then some (i,v)else y7 s M (i+1)
theorem BQ(s:Λ):∀(es:List MapEntry) (M:List (Λ×Γ)) (i:Nat),es.map (fun e=>(e.key,e.val))=M.map (fun p=>(Value.string p.1,p.2))→Instr.findNow .string (.string s) es i=some (y7 s M i)
 | [],[],i,_=>rfl
 | [],_::_,i,h=>by simp at h
 |_::_,[],i,h=>by simp at h
 |e::es,(b,v)::M,i,h=>by
  simp only[bNT,bPN,bQS]at h;obtain⟨⟨hk,hv⟩,h⟩:=h;simp only[Instr.findNow,hk,Instr.sameNow,y7];cases hb:s==b with
  |true=>simp[hv]
  |false=>simpa using BQ s es M (i+1) h
theorem E0{k:Θ}(ht:P.underlying k=some .string)(s:Λ)(w:Δ){es:List MapEntry}{M:List (Λ×Γ)}(h:es.map (fun e=>(e.key,e.val))=M.map fun p=>(Value.string p.1,p.2)):(Instr.findKey k (.string s) es).run P w=.ok (y7 s M 0) w:=by
 unfold Instr.findKey;rw[Ω,TU.of ht w];simp only[Ξ,BQ s es M 0 h,ε]
theorem yI{k:Θ}(ht:P.underlying k=some .string)(em:Bool)(s:Λ)(w:Δ):(Instr.checkKey em 10000 k (.string s)).run P w=.ok () w:=by
 show(Instr.checkKey em (9999+1) k (.string s)).run P w=_;rw[Instr.checkKey,Ω,TU.of ht w];rfl
def aQU(s:Λ)(M:List (Λ×Γ))(z0:Γ):Γ:=match y7 s M 0 with
 |some (_,v)=>v
 |none=>z0
theorem BX{t k e:Θ}{b clock:Nat}{es:Array MapEntry}{M:List (Λ×Γ)}{s:Λ}(ho:all[ix]?= some ⟨some d,.lookup t x y true,ty,pos,aft,g⟩)(ht:P.underlying t=some (.map k e))(hk:P.underlying k=some .string){z0:Γ}(hz:TZ P e z0)
  (hx:ev σ x=some (.map (some b))) (hy:ev σ y=some (.string s)) (hm:(b,Obj.map es clock)∈μ) (hb:b∉bad) (hM:aGK es M) (hN:Nat.blt d X.N=true) (hg:cQ all σ g)
  (kk:WL P X bad all K Q os ((d,.tuple #[aQU s M z0,.bool (y7 s M 0).isSome])::σ) μ Ds):WL P X bad all K Q ((fl,ix)::os) σ μ Ds:=by
 have run:∀w,w.heap[b]?= some (Obj.map es clock)→(Instr.lookup t (.map (some b)) (.string s) true).run P w=.ok (.tuple #[aQU s M z0,.bool (y7 s M 0).isSome]) w:=by
  intro w hw;unfold aQU;have hf:=E0 hk s w hM;unfold Instr.lookup;simp only[Ω,TU.of ht w,Ξ,pM hw,ε,yI hk];rw[hf];cases y7 s M 0 with
  |none=>simp only[Ξ,Ω,hz w,ε];rfl
  |some r=>obtain⟨j,v⟩:=r;simp only[Ξ];rfl
 refine pA ho rfl rfl hN hg (fun a' w hh w' hk'=>?_) kk;simp only[execOp,hh.eval hx,hh.eval hy,Ω,run w' (hh.boxAt hm hb hk'),Ξ,ε]
theorem cJ{t k e:Θ}{b clock:Nat}{es:Array MapEntry}{M:List (Λ×Γ)}{s:Λ}{A B:aD}(ho:all[ix]?= some ⟨none,.insert t x y z,ty,pos,aft,g⟩)(ht:P.underlying t=some (.map k e))(hk:P.underlying k=some .string)
  (hx:ev σ x=some (.map (some b))) (hy:ev σ y=some (.string s)) (hz:ev σ z=some v) (hM:aGK es M) (hnew:y7 s M 0=none) (hg:cQ all σ g)
  (kk:∀es' clock',aGK es' (M++[(s,v)])→WL P X bad all K Q os σ (A++(b,.map es' clock')::B) Ds):WL P X bad all K Q ((false,ix)::os) σ (A++(b,.map es clock)::B) Ds:=by
 refine fF ho rfl rfl hg fun a' w hh=>?_
 obtain⟨h1,h2,h3,D,h4,h5,I⟩:=id hh;have hw:=(h4.box (b,.map es clock) Yf).1;have hf:=E0 hk s w hM;have hset:∀o,(setObj b o).run P w=.ok () {w with heap:=w.heap.setIfInBounds b o}:=fun o=>by simp[setObj,Sem.run,hw]
 have hr:(Instr.mapUpdate t (.map (some b)) (.string s) v).run P w=.ok () {w with heap:=w.heap.setIfInBounds b (.map (es.push {key:=.string s,val:=v,born:=clock}) (clock+1))}:=by
  unfold Instr.mapUpdate;simp only[Ω,TU.of ht w,Ξ,pM hw,yI hk];rw[hf,hnew];simp only[Ξ,hset]
 have hHas:bP (A++(b,Obj.map es clock)::B) b (.map es clock) (.map (es.push {key:=.string s,val:=v,born:=clock}) (clock+1)) (A++(b,.map (es.push {key:=.string s,val:=v,born:=clock}) (clock+1))::B):=.app .head;have hs:=h4.set (w':={w with heap:=w.heap.setIfInBounds b (.map (es.push {key:=.string s,val:=v,born:=clock}) (clock+1))}) hHas ⟨rfl,rfl⟩ trivial;have:(execOp a'.eval ⟨none,.insert t x y z,ty,pos,aft,g⟩).run P w=.ok .skip {w with heap:=w.heap.setIfInBounds b (.map (es.push {key:=.string s,val:=v,born:=clock}) (clock+1))}:=by
  simp only[execOp,hh.eval hx,hh.eval hy,hh.eval hz,Ω,hr,Ξ,ε]
 rw[this];refine⟨fun h=>Xaf,kk _ _ ?_ _ _ ⟨h1,h2,h3,D,hs,h5,I.step (fun _ p hp=>bNI Yu) (fun _=>lO ⟨rfl,rfl⟩ (bMR.2 ⟨_,hHas.mem,rfl⟩)) hs.dom⟩⟩;unfold aGK at hM ⊢
 rw[Array.toList_push,bNG,bNG,hM];rfl
theorem Fn.of_alloc{f:FuncId}{args:Array Γ}{D:aC}{cs:List Γ}{e:Θ}{r:Nat→Γ}{post:aC→Γ→Prop}(hEF:EF P f)
  (h:∀w,fA D w→Calls P f args w fun en w'=>en=.returned (r w.heap.size)∧w'=w.alloc (.cells cs.toArray e (0,0))) (hp:∀D' b,Le D D'→At D' b 0 cs→post D' (r b)):Fn P f args D post:=by
 refine⟨hEF,fun w hw=>(h w hw).mono ?_⟩;rintro en w' ⟨he,rfl⟩;have hst:iT (hd w) w.heap.size D [] [] D w:=⟨bNJ _,bNJ _,(fun _ _ _=>rfl),(fun _ _=>rfl),hw,Yi,bPA,Yi,fun e he=>bNS he⟩
 obtain⟨D',hle,hb, -,hs⟩:=hst.pushD cs e;have hA:At D' w.heap.size 0 cs:=fun j v hv=>by rw[hb];simpa using hv
 exact⟨_,D',he,hs,hp D' _ hle hA⟩
namespace L12
open C12
def OQ:List (Λ×Γ):=[(⟨#[112,108,97,99,101]⟩,.agg #[qI 0,.func (.func 266) #[] #[]]),(⟨#[115,101,101,110]⟩,.agg #[qI 2,.func (.func 267) #[] #[]]),(⟨#[99,111,117,110,116]⟩,.agg #[qI 2,.func (.func 268) #[] #[]]),(⟨#[98,97,99,107]⟩,.agg #[qI 2,.func (.func 269) #[] #[]]),(⟨#[117,110,99,111,117,110,116]⟩,.agg #[qI 1,.func (.func 270) #[] #[]]),(⟨#[119,114,111,110,103]⟩,.agg #[qI 1,.func (.func 271) #[] #[]]),(⟨#[111,102,102]⟩,.agg #[qI 1,.func (.func 272) #[] #[]]),(⟨#[116,105,100,101]⟩,.agg #[qI 3,.func (.func 273) #[] #[]]),(⟨#[115,116,101,112]⟩,.agg #[qI 1,.func (.func 274) #[] #[]]),(⟨#[108,101,118,101,108]⟩,.agg #[qI 1,.func (.func 275) #[] #[]]),(⟨#[114,97,105,115,101]⟩,.agg #[qI 2,.func (.func 276) #[] #[]]),(⟨#[109,97,114,107]⟩,.agg #[qI 4,.func (.func 277) #[] #[]]),(⟨#[117,110,109,97,114,107]⟩,.agg #[qI 1,.func (.func 278) #[] #[]]),(⟨#[104,105,114,101]⟩,.agg #[qI 2,.func (.func 279) #[] #[]]),(⟨#[98,114,105,110,103]⟩,.agg #[qI 2,.func (.func 280) #[] #[]]),(⟨#[115,109,117,100,103,101]⟩,.agg #[qI 1,.func (.func 281) #[] #[]]),(⟨#[115,116,114,105,107,101]⟩,.agg #[qI 1,.func (.func 282) #[] #[]]),(⟨#[98,114,111,107,101,110]⟩,.agg #[qI 4,.func (.func 283) #[] #[]]),(⟨#[112,97,114,116]⟩,.agg #[qI 3,.func (.func 284) #[] #[]]),(⟨#[102,105,116]⟩,.agg #[qI 1,.func (.func 285) #[] #[]]),(⟨#[99,108,97,105,109]⟩,.agg #[qI 2,.func (.func 286) #[] #[]]),(⟨#[117,110,99,108,97,105,109]⟩,.agg #[qI 1,.func (.func 287) #[] #[]])]
theorem TB(D:aC):IU prog 189 #[] D (fun _ v ν=>∃b es cl,v=.map (some b)∧ν=[(b,.map es cl)]∧aGK es OQ):=by
 refine qR 25 func189 rfl rfl rfl rfl fun h0=>aA<|Zf rfl<|aJ<|zJ rfl rfl bSM fun qm=>?_
 have hO:aGK #[] []:=rfl;refine Zu [qI 0,.func (.func 266) #[] #[]] rfl hU fM rfl<|cJ (A:=[]) (B:=[]) rfl U337 U9 rfl rfl rfl hO Yg bSM fun es1 cl1 hP=>Zu [qI 2,.func (.func 267) #[] #[]] rfl hU fM rfl<|cJ (A:=[]) (B:=[]) rfl U337 U9 rfl rfl rfl hP Yg bSM fun es2 cl2 hR=>Zu [qI 2,.func (.func 268) #[] #[]] rfl hU fM rfl<|cJ (A:=[]) (B:=[]) rfl U337 U9 rfl rfl rfl hR Yg bSM fun es3 cl3 hS=>Zu [qI 2,.func (.func 269) #[] #[]] rfl hU fM rfl<|cJ (A:=[]) (B:=[]) rfl U337 U9 rfl rfl rfl hS Yg bSM fun es4 cl4 hX=>Zu [qI 1,.func (.func 270) #[] #[]] rfl hU fM rfl<|cJ (A:=[]) (B:=[]) rfl U337 U9 rfl rfl rfl hX Yg bSM fun es5 cl5 hY=>Zu [qI 1,.func (.func 271) #[] #[]] rfl hU fM rfl<|cJ (A:=[]) (B:=[]) rfl U337 U9 rfl rfl rfl hY Yg bSM fun es6 cl6 rA=>?_;refine Zu [qI 1,.func (.func 272) #[] #[]] rfl hU fM rfl<|cJ (A:=[]) (B:=[]) rfl U337 U9 rfl rfl rfl rA Yg bSM fun es7 cl7 rB=>Zu [qI 3,.func (.func 273) #[] #[]] rfl hU fM rfl<|cJ (A:=[]) (B:=[]) rfl U337 U9 rfl rfl rfl rB Yg bSM fun es8 cl8 hM8=>Zu [qI 1,.func (.func 274) #[] #[]] rfl hU fM rfl<|cJ (A:=[]) (B:=[]) rfl U337 U9 rfl rfl rfl hM8 Yg bSM fun es9 cl9 hM9=>Zu [qI 1,.func (.func 275) #[] #[]] rfl hU fM rfl<|cJ (A:=[]) (B:=[]) rfl U337 U9 rfl rfl rfl hM9 Yg bSM fun es10 cl10 I=>Zu [qI 2,.func (.func 276) #[] #[]] rfl hU fM rfl<|cJ (A:=[]) (B:=[]) rfl U337 U9 rfl rfl rfl I Yg bSM fun es11 cl11 O=>Zu [qI 4,.func (.func 277) #[] #[]] rfl hU fM rfl<|cJ (A:=[]) (B:=[]) rfl U337 U9 rfl rfl rfl O Yg bSM fun es12 cl12 R=>?_;refine Zu [qI 1,.func (.func 278) #[] #[]] rfl hU fM rfl<|cJ (A:=[]) (B:=[]) rfl U337 U9 rfl rfl rfl R Yg bSM fun es13 cl13 U=>Zu [qI 2,.func (.func 279) #[] #[]] rfl hU fM rfl<|cJ (A:=[]) (B:=[]) rfl U337 U9 rfl rfl rfl U Yg bSM fun es14 cl14 V=>Zu [qI 2,.func (.func 280) #[] #[]] rfl hU fM rfl<|cJ (A:=[]) (B:=[]) rfl U337 U9 rfl rfl rfl V Yg bSM fun es15 cl15 Y=>Zu [qI 1,.func (.func 281) #[] #[]] rfl hU fM rfl<|cJ (A:=[]) (B:=[]) rfl U337 U9 rfl rfl rfl Y Yg bSM fun es16 cl16 Z=>Zu [qI 1,.func (.func 282) #[] #[]] rfl hU fM rfl<|cJ (A:=[]) (B:=[]) rfl U337 U9 rfl rfl rfl Z Yg bSM fun es17 cl17 hB=>Zu [qI 4,.func (.func 283) #[] #[]] rfl hU fM rfl<|cJ (A:=[]) (B:=[]) rfl U337 U9 rfl rfl rfl hB Yg bSM fun es18 cl18 hE=>?_;refine Zu [qI 3,.func (.func 284) #[] #[]] rfl hU fM rfl<|cJ (A:=[]) (B:=[]) rfl U337 U9 rfl rfl rfl hE Yg bSM fun es19 cl19 hF=>Zu [qI 1,.func (.func 285) #[] #[]] rfl hU fM rfl<|cJ (A:=[]) (B:=[]) rfl U337 U9 rfl rfl rfl hF Yg bSM fun es20 cl20 hH=>Zu [qI 2,.func (.func 286) #[] #[]] rfl hU fM rfl<|cJ (A:=[]) (B:=[]) rfl U337 U9 rfl rfl rfl hH Yg bSM fun es21 cl21 hI=>Zu [qI 1,.func (.func 287) #[] #[]] rfl hU fM rfl<|cJ (A:=[]) (B:=[]) rfl U337 U9 rfl rfl rfl hI Yg bSM fun hJ hK hN=>Za rfl<|We ?_;exact aE rfl fun D hD=>⟨qm,hJ,hK,rfl,rfl,hN⟩
end L12
namespace C12
abbrev eH:=aM→List Int→Except Int aM
def mD(s:aM)(r:C1.dH):aM:={s with row:=r}
def iK(s:aM)(t:C2.aX):aM:={s with table:=t}
def oZ(s:aM)(b:C3.bH):aM:={s with book:=b}
def kK(s:aM)(y:C7.bA):aM:={s with yard:=y}
def l5(p:C7.Pt)(i:Nat)(v:Int):C7.Pt:=if i=0 then {p with a:=v}else if i=1 then {p with b:=v}else {p with c:=v}
def zT:eH:=fun s _=>if 7≤(s.row.places.length:Int)then .error 3 else .ok (mD s {s.row with places:=s.row.places++[2]})
def o7:eH:=fun s n=>match n with
 | [a,b]=>if(s.row.places.length:Int)≤a then .error 7 else if 2<b then .error 2 else .ok (mD s {s.row with places:=s.row.places.set a.toNat b})
 |_=>.error 4
def pJ(back:Bool):eH:=fun s n=>match n with
 | [a,b]=>if(s.row.places.length:Int)<a∨9<b then .error 2 else if 6≤(s.row.counts.length:Int)then .error 3 else .ok (mD s {s.row with counts:=s.row.counts++[⟨back,a,b⟩]})
 |_=>.error 4
def qM:eH:=fun s n=>match n with
 | [a]=>if(s.row.counts.length:Int)≤a then .error 7 else .ok (mD s {s.row with counts:=s.row.counts.eraseIdx a.toNat})
 |_=>.error 4
def C0:eH:=fun s n=>match n with
 | [a]=>if 6<a then .error 2 else .ok (mD s {s.row with wrong:=a})
 |_=>.error 4
def NZ:eH:=fun s n=>match n with
 | [a]=>if 9<a then .error 2 else .ok (mD s {s.row with off:=a})
 |_=>.error 4
def p9:eH:=fun s n=>match n with
 | [a,b,c]=>if(s.table.heights.length:Int)≤a then .error 7 else if c<b∨99<c∨b+2<c then .error 2 else .ok (iK s {s.table with heights:=s.table.heights.set a.toNat (b,c)})
 |_=>.error 4
def l6:eH:=fun s n=>match n with
 | [a]=>if 99<a then .error 2 else .ok (iK s {s.table with step:=a})
 |_=>.error 4
def zZ:eH:=fun s n=>match n with
 | [a]=>if 99<a then .error 2 else if 6≤(s.table.levels.length:Int)then .error 3 else .ok (iK s {s.table with levels:=s.table.levels++[a]})
 |_=>.error 4
def B4:eH:=fun s n=>match n with
 | [a,b]=>if(s.table.levels.length:Int)≤a then .error 7 else if 99<b then .error 2 else .ok (iK s {s.table with levels:=s.table.levels.set a.toNat b})
 |_=>.error 4
def C8:eH:=fun s n=>match n with
 | [a,b,c,d]=>if(s.table.heights.length:Int)≤max a b then .error 7 else if b<a then .error 2 else if d<c∨99<d then .error 2 else if 5≤(s.table.marks.length:Int)then .error 3 else .ok (iK s {s.table with marks:=s.table.marks++[⟨a,b,c,d⟩]})
 |_=>.error 4
def uH:eH:=fun s n=>match n with
 | [a]=>if(s.table.marks.length:Int)≤a then .error 7 else .ok (iK s {s.table with marks:=s.table.marks.eraseIdx a.toNat})
 |_=>.error 4
def pE(kind:Int):eH:=fun s n=>match n with
 | [a,b]=>if s.book.chairs≤max a b then .error 7 else if 8≤(s.book.lines.length:Int)then .error 3 else .ok (oZ s {s.book with lines:=s.book.lines++[⟨kind,a,b⟩]})
 |_=>.error 4
def qL:eH:=fun s n=>match n with
 | [a]=>match s.book.lines[a.toNat]? with
  |none=>.error 7
  |some l=>if l.token= -1 then .error 6 else .ok (oZ s {s.book with lines:=s.book.lines.set a.toNat {l with token:= -1}})
 |_=>.error 4
def tX:eH:=fun s n=>match n with
 | [a]=>if(s.book.lines.length:Int)≤a then .error 7 else .ok (oZ s {s.book with lines:=s.book.lines.eraseIdx a.toNat})
 |_=>.error 4
def uE:eH:=fun s n=>match n with
 | [a,b,c,d]=>if 9<a∨2<max (max b c) d then .error 2 else if 5≤(s.yard.chairs.length:Int)then .error 3 else .ok (kK s {s.yard with chairs:=s.yard.chairs++[⟨a,⟨b,c,d⟩⟩]})
 |_=>.error 4
def vW:eH:=fun s n=>match n with
 | [a,b,c]=>match s.yard.chairs[a.toNat]? with
  |none=>.error 7
  |some x=>if 3≤b then .error 7 else if 2<c then .error 2 else .ok (kK s {s.yard with chairs:=s.yard.chairs.set a.toNat {x with parts:=l5 x.parts b.toNat c}})
 |_=>.error 4
def QP:eH:=fun s n=>match n with
 | [a]=>if 9<a then .error 2 else .ok (kK s {s.yard with fit:=a})
 |_=>.error 4
def B8:eH:=fun s n=>match n with
 | [a,b]=>if b<a∨7<b then .error 2 else if 5≤(s.yard.claims.length:Int)then .error 3 else .ok (kK s {s.yard with claims:=s.yard.claims++[(a,b)]})
 |_=>.error 4
def pY:eH:=fun s n=>match n with
 | [a]=>if(s.yard.claims.length:Int)≤a then .error 7 else .ok (kK s {s.yard with claims:=s.yard.claims.eraseIdx a.toNat})
 |_=>.error 4
open Go.Lib
def pW:List UInt8→List (List UInt8)
 | []=>[[]]
 |b::l=>if b=32 then []::pW l else match pW l with
  | []=>[[b]]
  |p::ps=>(b::p)::ps
theorem bBC(l:List UInt8):pW l≠[]:=by
 cases l with
 |nil=>simp[pW]
 |cons b l=>unfold pW;split;simp;split<;>simp
theorem P4:∀{l:List UInt8},(32:UInt8)∉l→pW l=[l]
 | [],_=>rfl
 |b::l,h=>by
  simp only[LT,bSF]at h;unfold pW;rw[bNA fun e=>h.1 e.symm,P4 h.2]
theorem Y8:∀{l:List UInt8} {i:Nat},l[i]?= some 32→(32:UInt8)∉l.take i→pW l=l.take i::pW (l.drop (i+1))
 | [],i,h,_=>by simp at h
 |b::l,0,h,_=>by
  obtain rfl:b=32:=Yaw
  simp[pW]
 |b::l,i+1,h,hn=>by
  simp only[bRX,LT,bSF]at hn;rw[pW,bNA fun e=>hn.1 e.symm,Y8 Yaw hn.2];simp
theorem Q1{l:List UInt8}{i:Nat}{c:UInt8}:occAt l [c] i=true ↔ l[i]?= some c:=by
 unfold occAt;by_cases h:i<l.length
 ·rw[bOF h,bMU h];simp only[List.isPrefixOf,bSE,bRL,bRG];exact eq_comm
 ·rw[bOL Yd,bPU Yd];simp[List.isPrefixOf]
theorem UX:∀(n:Nat) (l:List UInt8),l.length≤n→splitK [32] 0 (count l [32]) l=pW l:=by
 intro n;induction n with
 |zero=>
  intro l hl;obtain rfl:l=[]:=bQA Yd;rfl
 |succ n ih=>
  intro l hl;rcases index_spec l [32]with⟨h1,h2⟩|⟨i,h1,h2,h3,h4⟩
  ·rw[count_miss h1];refine(P4 fun hm=>?_).symm;obtain⟨i,hi⟩:=bQV.1 hm;have:=h2 i (by have:=(bMW.1 hi).1;omega)
   rw[Q1.2 hi]at this;cases this
  ·have hi:=Q1.1 h3;rw[count_hit Yf h1,Nat.add_comm 1,splitK,bNA (by rw[h1];simp),h1]
   have hdl:(l.drop (i+1)).length≤n:=by
    have:=(bMW.1 hi).1;rw[bOU];omega
   simp only[bOI,Nat.add_zero,bPB];rw[ih _ hdl];refine(Y8 hi fun hm=>?_).symm;obtain⟨j,hj⟩:=bQV.1 hm;have hjl:=(bMW.1 hj).1;rw[bON]at hjl;rw[bPX Yd]at hj;have:=h4 j Yd;rw[Q1.2 hj]at this;cases this
def rF(l:List UInt8):Λ:=⟨l.toArray⟩
theorem yO(s:Λ):rF s.data.toList=s:=Go.WideShapes.bytes_inj rfl
def eA(s:Λ):List Λ:=(pW s.data.toList).map rF
theorem aBU(s:Λ):splitB ⟨#[32]⟩ 0 (countB s ⟨#[32]⟩) s=eA s:=by
 have h:=splitB_data ⟨#[32]⟩ 0 (countB s ⟨#[32]⟩) s;have h2:splitK [32] 0 (count s.data.toList [32]) s.data.toList=pW s.data.toList:=UX _ _ (bNJ _);have h3:(splitB ⟨#[32]⟩ 0 (countB s ⟨#[32]⟩) s).map (·.data.toList)=pW s.data.toList:=h.trans h2;unfold eA;rw[←h3,bRM];refine(List.map_id _).symm.trans (bSL fun x _=>?_);exact(yO x).symm
theorem WQ(s:Λ):countB s ⟨#[32]⟩+1=(eA s).length:=by
 have key:∀(n:Nat) (l:List UInt8),l.length≤n→count l [32]+1=(pW l).length:=by
  intro n;induction n with
  |zero=>intro l hl;obtain rfl:l=[]:=bQA Yd;rfl
  |succ n ih=>
   intro l hl;rcases index_spec l [32]with⟨h1,h2⟩|⟨i,h1,h2,h3,h4⟩
   ·rw[count_miss h1,P4 fun hm=>?_]
    ·rfl
    ·obtain⟨i,hi⟩:=bQV.1 hm;have:=h2 i (by have:=(bMW.1 hi).1;omega)
     rw[Q1.2 hi]at this;cases this
   ·have hi:=Q1.1 h3;have hdl:(l.drop (i+1)).length≤n:=by
     have:=(bMW.1 hi).1;rw[bOU];omega
    rw[Y8 hi fun hm=>?_,bMX,←ih _ hdl,count_hit Yf h1]
    ·simp only[bPB];omega
    ·obtain⟨j,hj⟩:=bQV.1 hm;have hjl:=(bMW.1 hj).1;rw[bON]at hjl;rw[bPX Yd]at hj;have:=h4 j Yd;rw[Q1.2 hj]at this;cases this
 unfold eA;rw[bOB];exact key _ _ (bNJ _)
theorem OG(l:List UInt8):(pW l).length≤l.length+1:=by
 induction l with
 |nil=>simp[pW]
 |cons b l ih=>
  unfold pW;split
  ·simp;omega
  ·split
   ·simp
   ·rename_i p ps e;rw[e]at ih;simpa using Nat.le_succ_of_le ih
theorem aHM{l p:List UInt8}(h:p∈pW l):p.length≤l.length:=by
 induction l generalizing p with
 |nil=>simp[pW]at h;subst h;simp
 |cons b l ih=>
  unfold pW at h;split at h
  ·rcases LT.1 h with rfl|h
   ·simp
   ·exact Nat.le_succ_of_le (ih h)
  ·split at h
   ·simp only[bNL]at h;subst h;simp
   ·rename_i q qs e;rcases LT.1 h with rfl|h
    ·have:=ih (p:=q) (by rw[e];simp);simpa using this
    ·exact Nat.le_succ_of_le (ih (by rw[e];exact bMT _ h))

def rR(l:List UInt8):Option Int:=if l.length≤3∧(l.head?≠some 48∨l.length=1)then(decNat l).map fun(n:Nat)=>(n:Int)else none
def aXO(l:List UInt8):Option Int:=match atoiAll l with
 |.ok v=>if 0≤v∧l.length≤3∧itoa v=l then some v else none
 |_=>none
theorem zE{b:UInt8}{d:Nat}(h:digitVal b=some d):d<10∧b=UInt8.ofNat (48+d):=by
 unfold digitVal at h;split at h
 ·cases h;refine⟨Yd,?_⟩;rw[show 48+(b.toNat-48)=b.toNat by omega];simp
 ·cases h
theorem LN{a b:Nat}(ha:a<256)(hb:b<256)(h:UInt8.ofNat a=UInt8.ofNat b):a=b:=by
 have:=bNB UInt8.toNat h;simp only[UInt8.toNat_ofNat']at this;omega
theorem aKV{u:Nat}(h:u<10):decDigits u=[UInt8.ofNat (48+u)]:=by rw[decDigits,dif_pos h]
theorem bGW{u:Nat}(h:10≤u)(h2:u<100):decDigits u=[UInt8.ofNat (48+u / 10),UInt8.ofNat (48+u%10)]:=by rw[decDigits,dif_neg Yd,aKV Yd];rfl
theorem bMD{u:Nat}(h:100≤u)(h2:u<1000):decDigits u=[UInt8.ofNat (48+u / 10 / 10),UInt8.ofNat (48+u / 10%10),UInt8.ofNat (48+u%10)]:=by rw[decDigits,dif_neg Yd,bGW Yd Yd];rfl
theorem Y4(u:Nat):itoa (u:Int)=decDigits u:=by unfold itoa;rw[bNA Yd,bOI]
theorem aHO{u:Nat}{b:UInt8}(h:b∈decDigits u):48≤b.toNat∧b.toNat≤57:=by
 induction u using Nat.strongRecOn with
 |_ u ih=>
  by_cases hu:u<10
  ·rw[aKV hu]at h;simp only[bNL]at h;subst h
   simp only[UInt8.toNat_ofNat'];omega
  ·rw[decDigits,dif_neg hu,bNH,bNL]at h;rcases h with h|h
   ·exact ih _ Yd h
   ·subst h;simp only[UInt8.toNat_ofNat'];omega
theorem aEB(l:List UInt8):aXO l=rR l:=by
 unfold aXO rR;by_cases hl:l.length≤3
 ·rw[atoiAll_short l Yd];match l,hl with
  | [],_=>rfl
  |b::r,hl=>
   have hat:atoi (b::r)=if(b==45)=true then(decNat r).map fun(m:Nat)=> -(m:Int)else if(b==43)=true then(decNat r).map fun(m:Nat)=>(m:Int)else(decNat (b::r)).map fun(m:Nat)=>(m:Int):=rfl
   rw[hat];by_cases I:b=45
   ·subst I;have hd:decNat (45::r)=none:=by unfold decNat decFrom digitVal;simp
    rw[hd];simp only[beq_self_eq_true,bPG,bPI,ite_self];cases decNat r with
    |none=>rfl
    |some m=>
     simp only[bOO,NumEnd.ofOption];rw[bNA];rintro⟨h1,h2,h3⟩;obtain rfl:m=0:=Yd
     have h4:itoa (-((0:Nat):Int))=[48]:=by rw[show(-((0:Nat):Int))=((0:Nat):Int) by omega,Y4,aKV Yd];rfl
     rw[h4]at h3;simp at h3
   ·rw[bNA (by simpa using I)];by_cases O:b=43
    ·subst O;have hd:decNat (43::r)=none:=by unfold decNat decFrom digitVal;simp
     rw[hd];simp only[beq_self_eq_true,bPG,bPI,ite_self];cases decNat r with
     |none=>rfl
     |some m=>
      simp only[bOO,NumEnd.ofOption];rw[bNA];rintro⟨h1,h2,h3⟩;rw[Y4]at h3;have:=aHO (u:=m) (b:=43) (by rw[h3];simp)
      simp at this
    ·rw[bNA (by simpa using O)];have hnone:decNat (b::r)=none→_:=fun h=>h
     cases hd:decNat (b::r)with
     |none=>simp only[bPI,ite_self];rfl
     |some m=>
      simp only[bOO,NumEnd.ofOption];have key:(0≤(m:Int)∧(b::r).length≤3∧itoa (m:Int)=b::r) ↔ ((b::r).length≤3∧((b::r).head?≠some 48∨(b::r).length=1)):=by
       rw[Y4];unfold decNat at hd;match r,hl with
       | [],_=>
        simp only[List.isEmpty_cons,bOS,bPL,decFrom]at hd;cases h1:digitVal b with
        |none=>rw[h1]at hd;cases hd
        |some d1=>
         rw[h1]at hd;simp only[bRG]at hd;obtain⟨R,rfl⟩:=zE h1;obtain rfl:d1=m:=Yd
         rw[aKV R];simp
       | [b2],_=>
        simp only[List.isEmpty_cons,bOS,bPL,decFrom]at hd;cases h1:digitVal b with
        |none=>rw[h1]at hd;cases hd
        |some d1=>
         cases h2:digitVal b2 with
         |none=>rw[h1,h2]at hd;cases hd
         |some d2=>
          rw[h1,h2]at hd;simp only[bRG]at hd;obtain⟨R,rfl⟩:=zE h1;obtain⟨k2,rfl⟩:=zE h2;by_cases z:d1=0
          ·subst z;rw[aKV Yd];simp
          ·rw[bGW Yd Yd,show m / 10=d1 by omega,show m%10=d2 by omega];have:UInt8.ofNat d1≠0:=fun e=>z (LN (a:=d1) (b:=0) Yd Yd e)
           simp[this]
       | [b2,U],_=>
        simp only[List.isEmpty_cons,bOS,bPL,decFrom]at hd;cases h1:digitVal b with
        |none=>rw[h1]at hd;cases hd
        |some d1=>
         cases h2:digitVal b2 with
         |none=>rw[h1,h2]at hd;cases hd
         |some d2=>
          cases h3:digitVal U with
          |none=>rw[h1,h2,h3]at hd;cases hd
          |some V=>
           rw[h1,h2,h3]at hd;simp only[bRG]at hd;obtain⟨R,rfl⟩:=zE h1;obtain⟨k2,rfl⟩:=zE h2;obtain⟨Y,rfl⟩:=zE h3;by_cases z:d1=0
           ·subst z;by_cases z2:m<10
            ·rw[aKV z2];simp
            ·rw[bGW Yd Yd];simp
           ·rw[bMD Yd Yd,show m / 10 / 10=d1 by omega,show m / 10%10=d2 by omega,show m%10=V by omega];have:UInt8.ofNat d1≠0:=fun e=>z (LN (a:=d1) (b:=0) Yd Yd e)
            simp[this]
      by_cases hk:(b::r).length≤3∧((b::r).head?≠some 48∨(b::r).length=1)
      ·rw[bNK hk,bNK (key.2 hk)]
      ·rw[bNA hk,bNA (fun h=>hk (key.1 h))]
 ·rw[bNA (fun h=>hl h.1)];split
  ·rw[bNA (fun h=>hl h.2.1)]
  ·rfl
theorem aAF{l:List UInt8}{n:Int}(h:rR l=some n):0≤n∧n≤999∧itoa n=l:=by
 have h2:=h;rw[←aEB]at h2;unfold aXO at h2;split at h2
 ·split at h2
  ·rename_i v _ hc;cases h2;refine⟨hc.1,?_,hc.2.2⟩;by_cases hb:n≤999
   ·exact hb
   ·exfalso
    obtain⟨u,rfl⟩:∃u:Nat,n=(u:Int):=⟨n.toNat,Yd⟩
    have h3:=hc.2.2;rw[Y4]at h3;have h4:4≤(decDigits u).length:=by
     rw[decDigits,dif_neg Yd,decDigits,dif_neg Yd,decDigits,dif_neg Yd,decDigits];split<;>simp
    rw[h3]at h4;omega
  ·cases h2
 ·cases h2

def kX:List (List UInt8×Nat×eH):=[
 ([112,108,97,99,101],0,zT),
 ([115,101,101,110],2,o7),
 ([99,111,117,110,116],2,pJ false),
 ([98,97,99,107],2,pJ true),
 ([117,110,99,111,117,110,116],1,qM),
 ([119,114,111,110,103],1,C0),
 ([111,102,102],1,NZ),
 ([116,105,100,101],3,p9),
 ([115,116,101,112],1,l6),
 ([108,101,118,101,108],1,zZ),
 ([114,97,105,115,101],2,B4),
 ([109,97,114,107],4,C8),
 ([117,110,109,97,114,107],1,uH),
 ([104,105,114,101],2,pE 1),
 ([98,114,105,110,103],2,pE 2),
 ([115,109,117,100,103,101],1,qL),
 ([115,116,114,105,107,101],1,tX),
 ([98,114,111,107,101,110],4,uE),
 ([112,97,114,116],3,vW),
 ([102,105,116],1,QP),
 ([99,108,97,105,109],2,B8),
 ([117,110,99,108,97,105,109],1,pY)]
def jO(line:Λ):Option (eH×List Int):=
 match pW line.data.toList with
 | []=>none
 |p::ps=>match kX.find? (fun x=>x.1==p)with
  |none=>none
  |some (_,k,act)=>if ps.length=k then(ps.mapM rR).map fun n=>(act,n)else none

structure lY(s:aM):Prop where
 pl:s.row.places.length≤7
 ct:s.row.counts.length≤6
 ht:s.table.heights.length=4
 lev:s.table.levels.length≤6
 mks:s.table.marks.length≤5
 ln:s.book.lines.length≤8
 ch:s.yard.chairs.length≤5
 cl:s.yard.claims.length≤5
 bc:s.book.chairs=3
def bLA(f:eH):Prop:=∀s n s',lY s→f s n=.ok s'→lY s'
theorem ZZ:∀x∈kX,bLA x.2.2:=by
 intro x hx s n s' h e;obtain⟨h1,h2,h3,h4,h5,I,O,h8,h9⟩:=h;simp only[kX,LT,n4,bOZ]at hx;rcases hx with rfl|rfl|rfl|rfl|rfl|rfl|rfl|rfl|rfl|rfl|rfl|rfl|rfl|rfl|rfl|rfl|rfl|rfl|rfl|rfl|rfl|rfl;all_goals simp only[zT,o7,pJ,qM,C0,NZ,p9,l6,zZ,B4,C8,uH,pE,qL,tX,uE,vW,QP,B8,pY]at e
 all_goals repeat' split at e
 all_goals cases e
 all_goals refine⟨?_,?_,?_,?_,?_,?_,?_,?_,?_⟩
 all_goals simp only[mD,iK,oZ,kK]
 all_goals first|assumption|(simp<;>omega)|(simp only[List.length_eraseIdx];split<;>omega)
end C12
abbrev Cx.push(X:Cx)(dd:Deferred):Cx:={X with ds:=dd::X.ds}
theorem bEW{c:Operand}{f:FuncId}{c1 c2:List Γ}{ats:Array Θ}(ho:all[ix]?= some ⟨none,.defer {callee:=.value c,args:=#[],argTypes:=ats},ty,pos,aft,g⟩)(hX:X.r=none)(hc:ev σ c=some (.func (.func f) c1.toArray c2.toArray))(hg:cQ all σ g)
  (k:WL P (X.push ⟨.fn (.func f) c2.toArray,c1.toArray⟩) bad all K Q os σ μ Ds):WL P X bad all K Q ((false,ix)::os) σ μ Ds:=by
 intro a w hh;rw[vT ho];have hq:kV (Op.defer {callee:=.value c,args:=#[],argTypes:=ats})=false:=rfl;simp only[tM,hq,bOS,bPL];unfold T1;rw[bNK (hh.wanted hg)];refine⟨fun _ _=>trivial,?_⟩;have e:(Oper.semAt (FW X.r).round a.eval ⟨none,.defer {callee:=.value c,args:=#[],argTypes:=ats},ty,pos,aft,g⟩).run P w=.ok (.defer ⟨.fn (.func f) c2.toArray,c1.toArray⟩) w:=by
  rw[hX];show(Oper.semAt none a.eval _).run P w=_;rw[Oper.semAt_none];simp only[execOp,resolve,hh.eval hc,Deferred.ofValue,Array.map_empty,Array.append_empty];rfl
 rw[e];obtain⟨h1,h2,h3,D,h4,h5,I⟩:=hh;exact⟨fun h=>Xaf,k _ _ ⟨h1,h2,by simp[Act.put,h3],D,h4,h5,I⟩⟩
theorem bHX{f:FuncId}{fn:Func}{c:Code}{args:List Γ}{D:aC}{post:aC→Γ→Prop}(N:Nat)(hf:P.funcs[f]?= some fn)(hn:(fn.name== "runtime.NumGoroutine")=false)(hb:fn.body=some c)(hN:fn.ntmps=N)(hsz:Nat.ble args.length N=true)
  (h:∀h0:H0,WC P ⟨none,N,[],h0,h0.size,D,[],none⟩ (bodyPostDIn (FW none) 0 P fn (qV ⟨none,N,[],h0,h0.size,D,[],none⟩ fun D' v _=>post D' v)) c (jP 0 args) [] [D]):Fn P f args.toArray D post:=by
 refine⟨EF.of hf hn hb,fun w hw=>?_⟩;subst hN;have hsz:=bPE hsz;refine(dR (r:=none) (n:=0)).1 ((callsIn_of_wp_defers (R:=qV ⟨none,fn.ntmps,[],hd w,w.heap.size,D,[],none⟩ fun D' v _=>post D' v) hf hb bSM (h (hd w) _ w ⟨?_,fun s v hs=>?_,rfl,D,⟨bNJ _,bNJ _,fun _ _ _=>rfl,fun _ _=>rfl,hw,Yi,bPA,Yi,fun e he=>bNS he⟩,fun D₁ h1=>?_,bSM⟩) rfl).mono ?_)
 ·simp;omega
 ·obtain⟨_,h2⟩:=gX args 0 s v hs;have hl:=(bMW.1 h2).1;simp only[bQH]at h2 hl;show(args.toArray++_)[s]?= some v;rw[bPS Yaz];simpa using h2
 ·simp only[bNL]at h1;subst h1;exact Le.refl _
 ·rintro e w' ⟨v,D',μ',rfl,hs,hp⟩;exact⟨v,D',rfl,hs.sub (by intro p hp;cases hp) bPA,hp⟩
def KR(P:Program)(f:FuncId)(args:List Γ)(D:aC)(ν:aD)(u u2:FrameMode)(post:aC→aD→Prop):Prop:=
 EF P f∧∀w,fA D w→(∀p∈ν,w.heap[p.1]?= some p.2∧D p.1=[]∧cU p.2)→ν.ks.Nodup→CallsDIn (FW none) 0 P f args.toArray u w fun e u' w'=>∃v D' ν',e=.returned v∧u'=u2∧iT (hd w) w.heap.size D ν.ks ν' D' w'∧post D' ν'
theorem aCC{fn:Func}{post:aC→Γ→aD→Prop}{dpost:aC→aD→Prop}{A B ν:aD}{f:FuncId}{c1 c2:List Γ}{u u2:FrameMode}{rs:List ResultVar}(hu:u≠.run)(hds:X.ds=[⟨.fn (.func f) c2.toArray,c1.toArray⟩])(hex:X.ex=none)(hun:∀p∈ν,cU p.2)
  (hf:∀D,(∀D₁∈Ds,Le D₁ D)→KR P f (c1++c2) D ν u u2 dpost) (hst:settle u2=.returning) (hr:fn.results=rs.toArray)
  (h:∀D ν',(∀D₁∈Ds,Le D₁ D)→dpost D ν'→∃vs,C5 P X σ (A++ν'++B) rs vs∧post D (qO vs) (A++ν'++B)):∀a w,Hl X σ (A++ν++B) Ds a w→LeavesIn (FW none) 0 P fn a.tmps (qV X post) a.defers u w:=by
 intro a w hh;obtain⟨h1,h2,h3,D,h4,h5,I⟩:=id hh;rw[h3,hds];have hF:=hf D h5;have hbx:∀p∈ν,_:=fun p hp=>h4.box p (bNE _ (GE _ hp))
 have hnd:=h4.nd;simp only[bNG]at hnd;refine leavesIn_cons hu (fun hh=>by simp[FW]at hh) (f:=f) (args:=(c1++c2).toArray) ?_ (fun _ _=>trivial) ?_
 ·show(callFunc f (c1.toArray++c2.toArray)).run P w=_;rw[hF.1];simp
 ·refine(hF.2 w h4.agr (fun p hp=>⟨(hbx p hp).1,(hbx p hp).2.1,hun p hp⟩) (bNF.1 (bNF.1 hnd).1).2.1).mono ?_;rintro e u' w' ⟨v,D',ν',rfl,rfl,hs,hp⟩;have hle:=gO h4.agr hs;have h5':∀D₁∈Ds,Le D₁ D':=fun D₁ hD₁=>(h5 D₁ hD₁).trans hle
  obtain⟨vs,hv,hpost⟩:=h D' ν' h5' hp;have hh':Hl X σ (A++ν'++B) Ds a w':=⟨h1,h2,h3,D',h4.afterG hs,h5',Xbg⟩
  show LeavesIn (FW none) 0 P fn a.tmps (qV X post) [] (settle u') w';rw[hst];exact⟨_,jG hh' hr hv,_,D',_,rfl,h4.afterG hs,hpost⟩
theorem bFZ{fn:Func}{post:aC→Γ→aD→Prop}{dpost:aC→aD→Prop}{A B ν:aD}{f:FuncId}{c1 c2:List Γ}{rs:List ResultVar}{e:Exit}(he:(match e with|.normal=>true|.ret=>true|_=>false)=true)(hds:X.ds=[⟨.fn (.func f) c2.toArray,c1.toArray⟩])(hex:X.ex=none)(hun:∀p∈ν,cU p.2)
  (hf:∀D,(∀D₁∈Ds,Le D₁ D)→KR P f (c1++c2) D ν .returning .returning dpost) (hr:fn.results=rs.toArray)
  (h:∀D ν',(∀D₁∈Ds,Le D₁ D)→dpost D ν'→∃vs,C5 P X σ (A++ν'++B) rs vs∧post D (qO vs) (A++ν'++B)):∀a w,Hl X σ (A++ν++B) Ds a w→bodyPostDIn (FW none) 0 P fn (qV X post) e a w:=by
 intro a w hh;have:=aCC (u:=.returning) (u2:=.returning) Yf hds hex hun hf rfl hr h a w hh;cases e<;>first|exact this|cases he
theorem OA{fn:Func}{post:aC→Γ→aD→Prop}{dpost:aC→aD→Prop}{A B ν:aD}{f:FuncId}{c1 c2:List Γ}{rs:List ResultVar}{v:Γ}(hds:X.ds=[⟨.fn (.func f) c2.toArray,c1.toArray⟩])(hex:X.ex=none)(hun:∀p∈ν,cU p.2)
  (hf:∀D,(∀D₁∈Ds,Le D₁ D)→KR P f (c1++c2) D ν (.panicking (oW v)) (.panicking [{v,recovered:=true}]) dpost) (hr:fn.results=rs.toArray)
  (h:∀D ν',(∀D₁∈Ds,Le D₁ D)→dpost D ν'→∃vs,C5 P X σ (A++ν'++B) rs vs∧post D (qO vs) (A++ν'++B)):∀a w,Hl X σ (A++ν++B) Ds a w→bodyPostDIn (FW none) 0 P fn (qV X post) (.panic (oW v)) a w:=
 fun a w hh=>aCC Yf hds hex hun hf rfl hr h a w hh
theorem aSA{f:FuncId}{fn:Func}{id t:Nat}{y:Code}{args:List Γ}{D:aC}{ν:aD}{u u2:FrameMode}{rv:Γ}{dpost:aC→aD→Prop}{ats:Array Θ}(N:Nat)(hf:P.funcs[f]?= some fn)(hn:(fn.name== "runtime.NumGoroutine")=false)
  (hb:fn.body=some (.seq (.region id #[⟨some t,.call {callee:=.builtin .recover,args:=#[],argTypes:=ats},ty,pos,aft,none⟩] false) y)) (hN:fn.ntmps=N) (hsz:Nat.ble args.length N=true) (ht:Nat.blt t N=true)
  (hrec:∀(c₀:Frame) (cs:List Frame),c₀.mode=u→(recoverD (c₀::cs)=some (rv,{c₀ with mode:=u2}::cs))∨(recoverD (c₀::cs)=none∧rv=.nilIface∧u2=u))
  (h:∀h0:H0,(∀p∈ν,p.1<h0.size)→ν.ks.Nodup→WC P (sO N h0 D ν.ks) (bodyPost P fn (AW (sO N h0 D ν.ks) (fun D' _ ν'=>dpost D' ν') fun _=>False)) y ((t,rv)::jP 0 args) ν [D]):KR P f args D ν u u2 dpost:=by
 refine⟨EF.of hf hn hb,fun w hw hν hnd=>?_⟩;subst hN;have hsz:=bPE hsz;refine callsDIn_of_wpSIn hf hb bSM fun c₀ cs hm=>?_
 have hcs:({c₀ with mode:=u}:Frame)=c₀:=by subst hm;rfl
 have hH:Hl (sO fn.ntmps (hd w) D ν.ks) (jP 0 args) ν [D] {tmps:=args.toArray++Array.replicate (fn.ntmps-args.toArray.size) undef,defers:=[]} w:=by
  refine⟨?_,fun s v hs=>?_,rfl,D,⟨bNJ _,bNJ _,fun _ _ _=>rfl,fun _ _=>rfl,hw,(fun p hp=>?_),hnd,(fun p hp=>(hν p hp).2.2),fun e he=>bNS he⟩,fun D₁ h1=>?_,bSM⟩
  ·simp[sO];omega
  ·obtain⟨_,h2⟩:=gX args 0 s v hs;have hl:=(bMW.1 h2).1;simp only[bQH]at h2 hl;show(args.toArray++_)[s]?= some v;rw[bPS Yaz];simpa using h2
  ·exact⟨(hν p hp).1,(hν p hp).2.1,bNC (bMR.2 ⟨p,hp,rfl⟩)⟩
  ·simp only[bNL]at h1;subst h1;exact Le.refl _
 have key:=h (hd w) (fun p hp=>bJ (hν p hp).1) hnd _ w (hH.put ht rv);refine wpSIn_seq (wpSIn_region ?_);have hex:∀ρ:Operand→Γ,(execOp ρ ⟨some t,.call {callee:=.builtin .recover,args:=#[],argTypes:=ats},ty,pos,aft,none⟩).run P w=.ok .recover w:=fun ρ=>by
  simp only[execOp,resolve,Array.map_empty];rfl
 have fin:∀cs',cs'=({c₀ with mode:=u2}:Frame)::cs→(y.wpSIn (FW none) 0 P (bodyPostS P fn c₀ cs fun e u' w'=>∃v D' ν',e=.returned v∧u'=u2∧iT (hd w) w.heap.size D ν.ks ν' D' w'∧dpost D' ν')
   (Act.put {tmps:=args.toArray++Array.replicate (fn.ntmps-args.toArray.size) undef,defers:=[]} (some t) rv) cs' w):=by
  rintro cs' rfl;refine wpSIn_of_wpIn rfl (wpIn_mono key fun e a w' hq=>?_);cases e with
  |normal|ret=>
   obtain⟨hd',v,hr,hR⟩:=hq;rcases hR with⟨v',D',ν',he,hs,hp⟩|⟨_,_,_,_,hp⟩
   ·exact⟨hd',u2,rfl,v,hr,v',D',ν',he,rfl,hs,hp⟩
   ·exact hp.elim
  |panic ch=>
   obtain⟨hd',hR⟩:=hq;rcases hR with⟨v',D',ν',he,hs,hp⟩|⟨_,_,_,_,hp⟩
   ·cases he
   ·exact hp.elim
  |outgrown=>
   rcases hq with⟨v',D',ν',he,hs,hp⟩|⟨_,_,_,_,hp⟩
   ·cases he
   ·exact hp.elim
  |exit=>exact hq.elim
  |goto=>exact hq.elim
 show wpOpsSIn (FW none) 0 P _ _ [0] _ _ _;simp only[wpOpsSIn,List.getElem?_toArray,List.getElem?_cons_zero];refine⟨fun _ _=>trivial,?_⟩;rw[bNK Ybb,hex];rcases hrec c₀ cs hm with hr|⟨hr,rfl,rfl⟩
 ·simp only[hr];exact fin _ rfl
 ·simp only[hr];exact fin _ (by rw[hcs])
theorem aVZ{c₀:Frame}{cs:List Frame}(hm:c₀.mode=.returning):recoverD (c₀::cs)=none:=by simp[recoverD,hm]
theorem aOZ{c₀:Frame}{cs:List Frame}{v:Γ}(hm:c₀.mode=.panicking (oW v)):recoverD (c₀::cs)=some (v,{c₀ with mode:=.panicking [{v,recovered:=true}]}::cs):=by simp[recoverD,hm,oW]
theorem kH.reorder{f:FuncId}{args:List Γ}{D:aC}{ν ν2:aD}{post post':aC→Γ→aD→Prop}{pan pan':Γ→Prop}(h:kH P f args D ν post pan)(hp:ν.Perm ν2)(h1:∀D' v ν',Le D D'→post D' v ν'→∃ν'',ν''.Perm ν'∧post' D' v ν'')(h2:∀v,pan v→pan' v):kH P f args D ν2 post' pan':=by
 refine⟨h.1,fun w hw hν hn=>(h.2 w hw (fun p hp'=>hν p (hp.mem_iff.1 hp')) ((hp.map (·.1)).nodup_iff.2 hn)).mono ?_⟩;have hk:∀b,b∉ν2.ks→b∉ν.ks:=fun b hb hm=>hb ((hp.map (·.1)).mem_iff.1 hm)
 rintro e w' (⟨v,D',ν',he,hs,hpost⟩|⟨v,D',he,hs,hpan⟩)
 ·obtain⟨ν'',hq,hpost'⟩:=h1 D' v ν' (gO hw hs) hpost;refine bNI ⟨v,D',ν'',he,⟨hs.hlo,hs.size,fun b hb hm=>hs.old b hb (hk b hm),hs.dold,hs.agr,fun p hp'=>?_,(hq.map (·.1)).nodup_iff.2 hs.nd,fun p hp'=>hs.fz p (hq.mem_iff.1 hp'),hs.env⟩,hpost'⟩;obtain⟨I,k2,O⟩:=hs.box p (hq.mem_iff.1 hp');exact⟨I,k2,O.imp id fun hm=>(hp.map (·.1)).mem_iff.1 hm⟩
 ·exact bNC ⟨v,D',he,⟨hs.hlo,hs.size,fun b hb hm=>hs.old b hb (hk b hm),hs.dold,hs.agr,(fun p hp'=>by cases hp'),bPA,(fun p hp'=>by cases hp'),hs.env⟩,h2 v hpan⟩
theorem oH{I O:aD}(h:∀ [BEq (Nat×Obj)] [LawfulBEq (Nat×Obj)] (a:Nat×Obj),I.count a=O.count a):I.Perm O:=by
 classical
 exact List.perm_iff_count.2 fun a=>h a
def bLZ(Q:Exit→Act→Δ→Prop):Exit→Act→Δ→Prop:=fun e a w=>match e with
 |.panic _=>False
 |e=>Q e a w
theorem bJA:NP (bLZ Q):=fun _ _ _ h=>h
theorem aGL{c:Code}(h:WC P X (bLZ Q) c σ μ Ds):WC P X Q c σ μ Ds:=fun a w hh=>wpIn_mono (h a w hh) fun e a w hq=>by cases e<;>first|exact hq|exact hq.elim
theorem bDY{y:Code}(h:WC P X Q y σ μ Ds):∀a w,Hl X σ μ Ds a w→bLZ (Exit.then (y.wpIn (FW X.r) 0 P Q) Q) .normal a w:=h
theorem aIB(a b:Λ):(a.toList==b.toList)=decide (a=b):=by
 rw[bPT];simp only[bRL,GT];rw[ByteArray.toList_eq,ByteArray.toList_eq];exact⟨fun h=>Go.WideShapes.bytes_inj h,fun h=>by rw[h]⟩
theorem gS{t t':Θ}{a b:Λ}(ho:all[ix]?= some ⟨some d,.binOp .add t x y t',ty,pos,aft,g⟩)(hx:ev σ x=some (.string a))(hy:ev σ y=some (.string b))(hl:a.size+b.size≤9223372036854775807)(hN:Nat.blt d X.N=true)(hg:cQ all σ g)
  (kk:WL P X bad all K Q os ((d,.string (a++b))::σ) μ Ds):WL P X bad all K Q ((fl,ix)::os) σ μ Ds:=
 bW ho rfl rfl hN hg (fun ρ hρ w'=>by
  have:((do eqGuard .add t x y (.string a) (.string b);binOp .add t (.string a) (.string b)):Sem Γ).run P w'=.ok (.string (a++b)) w':=by
   rw[Ω];have h1:(eqGuard .add t x y (.string a) (.string b)).run P w'=.ok () w':=rfl;rw[h1];show(binOp .add t (.string a) (.string b)).run P w'=_;rw[binOp_string_add];exact run_string_add_sum _ a b hl
  simp only[execOp,hρ x _ hx,hρ y _ hy];rw[Ω,this];rfl) kk
theorem lW{t t':Θ}{a b:Λ}(ho:all[ix]?= some ⟨some d,.binOp .eql t x y t',ty,pos,aft,g⟩)(hx:ev σ x=some (.string a))(hy:ev σ y=some (.string b))(hN:Nat.blt d X.N=true)(hg:cQ all σ g)
  (kk:WL P X bad all K Q os ((d,.bool (decide (a=b)))::σ) μ Ds):WL P X bad all K Q ((fl,ix)::os) σ μ Ds:=
 M6 ho (fun w=>by
  rw[Ω];have h1:(eqGuard .eql t x y (.string a) (.string b)).run P w=.ok () w:=rfl;rw[h1,←aIB];show(binOp .eql t (.string a) (.string b)).run P w=_;rw[binOp_string_eql];rfl) hx hy hN hg kk
theorem _root_.Go.Fs.Zaw{t:Θ}{t':Θ}{a:Λ}{b:Λ}(e9:(all[ix]?,ev σ x,ev σ y)=(some ⟨some d,.binOp .eql t x y t',ty,pos,aft,g⟩,some (.string a),some (.string b)))(kk:WL P X bad all K Q os ((d,.bool (decide (a=b)))::σ) μ Ds)(hN:Nat.blt d X.N=true:=by exact rfl)(hg:cQ all σ g:=by exact bSM):WL P X bad all K Q ((fl,ix)::os) σ μ Ds:=lW (bNB (fun z=>z.1) e9) (bNB (fun z=>z.2.1) e9) (bNB (fun z=>z.2.2) e9) hN hg kk
theorem pN{t:Θ}{s:Λ}{k:IntKind}{i:Int}{c:UInt8}(ho:all[ix]?= some ⟨some d,.index t x y,ty,pos,aft,g⟩)(ht:P.underlying t=some .string)(hx:ev σ x=some (.string s))(hy:ev σ y=some (.int k i))(h0:0≤i)(hc:s[i.toNat]?= some c)(hN:Nat.blt d X.N=true)(hg:cQ all σ g)
  (kk:WL P X bad all K Q os ((d,.int .u8 c.toNat)::σ) μ Ds):WL P X bad all K Q ((fl,ix)::os) σ μ Ds:=
 bW ho rfl rfl hN hg (fun ρ hρ w'=>by
  simp only[execOp,hρ x _ hx,hρ y _ hy];unfold Instr.index asIntOf;simp only[Ω,TU.of ht w',Ξ,ε,pure_bind,h0,bPG,hc]) kk
theorem GB{t:Θ}{s:Λ}{I k2:IntKind}{i j:Int}(ho:all[ix]?= some ⟨some d,.slice t x (some y) (some z) none,ty,pos,aft,g⟩)(ht:P.underlying t=some .string)(hx:ev σ x=some (.string s))(hy:ev σ y=some (.int I i))(hz:ev σ z=some (.int k2 j))(h0:0≤i)(h1:i≤j)(h2:j≤(s.size:Int))(hN:Nat.blt d X.N=true)(hg:cQ all σ g)
  (kk:WL P X bad all K Q os ((d,.string (s.extract i.toNat j.toNat))::σ) μ Ds):WL P X bad all K Q ((fl,ix)::os) σ μ Ds:=
 bW ho rfl rfl hN hg (fun ρ hρ w'=>by
  simp only[execOp,hρ x _ hx,hρ y _ hy,hρ z _ hz,bPI,bOO];unfold Instr.sliceAt Instr.slice Instr.sliceBounds Instr.sliceBound asIntOf;have O:0≤i∧i≤((j.toNat:Nat):Int):=Yd
  have a2:0≤j∧j≤(s.size:Int):=Yd
  simp only[Ω,TU.of ht w',Ξ,ε,pure_bind,O,a2,bRS,bPG,Option.isSome_none,bOS,bPL]) kk
theorem UC{t:Θ}{s:Λ}{I:IntKind}{i:Int}(ho:all[ix]?= some ⟨some d,.slice t x (some y) none none,ty,pos,aft,g⟩)(ht:P.underlying t=some .string)(hx:ev σ x=some (.string s))(hy:ev σ y=some (.int I i))(h0:0≤i)(h2:i≤(s.size:Int))(hN:Nat.blt d X.N=true)(hg:cQ all σ g)
  (kk:WL P X bad all K Q os ((d,.string (s.extract i.toNat s.size))::σ) μ Ds):WL P X bad all K Q ((fl,ix)::os) σ μ Ds:=
 bW ho rfl rfl hN hg (fun ρ hρ w'=>by
  simp only[execOp,hρ x _ hx,hρ y _ hy,bPI,bOO];unfold Instr.sliceAt Instr.slice Instr.sliceBounds Instr.sliceBound asIntOf;have O:0≤i∧i≤((s.size:Nat):Int):=Yd
  simp only[Ω,TU.of ht w',Ξ,ε,pure_bind,O,bRS,bPG,Option.isSome_none,bOS,bPL]) kk
def aHX:Γ→Bool
 |.nilIface=>true
 |_=>false
theorem YK{t t':Θ}{c:Γ}{ms:Array (String×Θ)}(ho:all[ix]?= some ⟨some d,.binOp .eql t x (.const .nilIface) t',ty,pos,aft,g⟩)(ht:P.underlying t=some (.interface ms))(hx:ev σ x=some c)(hc:c=.nilIface∨∃t u,c=.iface t u)(hN:Nat.blt d X.N=true)(hg:cQ all σ g)
  (kk:WL P X bad all K Q os ((d,.bool (aHX c))::σ) μ Ds):WL P X bad all K Q ((fl,ix)::os) σ μ Ds:=
 M6 ho (fun w=>by
  have h1:(eqGuard .eql t x (.const .nilIface) c .nilIface).run P w=.ok () w:=by
   rcases hc with rfl|⟨_,_,rfl⟩
   ·simp only[eqGuard];cases x<;>rfl
   ·rfl
  have h2:(Op.equal t c .nilIface).run P w=.ok (aHX c) w:=by
   show(Op.equalIn (9999+1) t c .nilIface).run P w=_;rw[Op.equalIn,Ω,TU.of ht w];rcases hc with rfl|⟨_,_,rfl⟩<;>rfl
  rw[Ω,h1];have h3:(binOp .eql t c .nilIface).run P w=((do Pure.pure (Value.bool (←Op.equal t c .nilIface))):Sem Γ).run P w:=by rcases hc with rfl|⟨_,_,rfl⟩<;>rfl
  show(binOp .eql t c .nilIface).run P w=_;rw[h3,Ω,h2];rfl) hx rfl hN hg kk
theorem aIP{t t':Θ}{fs:Array Field}(ho:all[ix]?= some ⟨some d,.typeAssert x t' t true,ty,pos,aft,g⟩)(ht:P.underlying t=some (.struct fs))(hx:ev σ x=some (.iface t v))(hN:Nat.blt d X.N=true)(hg:cQ all σ g)
  (kk:WL P X bad all K Q os ((d,.tuple #[v,.bool true])::σ) μ Ds):WL P X bad all K Q ((fl,ix)::os) σ μ Ds:=
 bW ho rfl rfl hN hg (fun ρ hρ w'=>by
  simp only[execOp,hρ x _ hx];unfold Instr.typeAssert;simp only[Ω,TU.of ht w',Ξ,bPG,ε]) kk

theorem Fn.of_below{f:FuncId}{args:Array Γ}{D:aC}{post:aC→Γ→Prop}(hEF:EF P f)(h:∀w,fA D w→Calls P f args w fun en w'=>∃r,en=.returned r∧Go.RowKit.Below w.heap.size w w'∧∀D',Le D D'→post D' r):Fn P f args D post:=by
 refine⟨hEF,fun w hw=>(h w hw).mono ?_⟩;rintro en w' ⟨r,he,hb,hp⟩;refine⟨r,D,he,⟨bNJ _,hb.size,fun b hl _=>hb.block b hl,fun _ _=>rfl,hw.of (fun b hb'=>?_) rfl (hb.block 0 hw.pos),Yi,bPA,Yi,fun e he=>by rw[←bNS he];exact Prod.ext hb.os hb.output⟩,hp D (Le.refl _)⟩
 obtain⟨cs,e,fz,h1,h2⟩:=hw.1 b hb';exact⟨cs,e,fz,by rw[hb.block b (bJ h1)];exact h1,h2⟩
theorem R4{α:Type}{R:Rd α}{t e:Θ}{D₁:aC}{ad:Option Addr}{n cap j:Nat}{k:IntKind}{xs:List α}(ho:all[ix]?= some ⟨some d,.slice t x (some y) none none,ty,pos,aft,g⟩)(ht:P.underlying t=some (.slice e))(hs:TS P e 1)(hx:ev σ x=some (.slice ad n cap))(hS:Sl D₁ R 1 (.slice ad n cap) xs)(hy:ev σ y=some (.int k (j:Int)))(hj:j≤n)
  (hN:Nat.blt d X.N=true) (hg:cQ all σ g) (kk:∀a',Sl D₁ R 1 (.slice a' (n-j) (cap-j)) (xs.drop j)→WL P X bad all K Q os ((d,.slice a' (n-j) (cap-j))::σ) μ Ds):WL P X bad all K Q ((fl,ix)::os) σ μ Ds:=by
 obtain⟨a,c,hv,h1,h2,h3⟩:=hS;cases hv;refine bW (v:=.slice (if cap=j then ad else ad.map (·.add (j*1))) (xs.length-j) (cap-j)) ho rfl rfl hN hg (fun ρ hρ w'=>?_) (kk _ ⟨_,_,by rw[bOU],by rw[bOU];omega,by rw[bOU];omega,?_⟩)
 ·simp only[execOp,bPI,bOO,hρ x _ hx,hρ y _ hy];unfold Instr.sliceAt Instr.slice Instr.sliceBounds Instr.sliceBound asIntOf;have hle:(0:Int)≤(j:Int)∧(j:Int)≤(xs.length:Nat):=Yd
  simp only[Ω,TU.of ht w',Ξ,ε,pure_bind,hs w',hle,bRS,bPG,bOI]
 ·by_cases he:xs.length=j
  ·exact bNI (bOL Yd)
  ·rcases h3 with h3|⟨b,o,rfl,h3⟩
   ·subst h3;simp at he hj;omega
   ·refine bNC ⟨b,o+j,by rw[bNA Yd];simp[gY],fun i z hi=>?_⟩;rw[bPC]at hi;obtain⟨cs,hr,hc,hA⟩:=h3 _ _ hi;exact⟨cs,hr,hc,by rw[show o+j+i*1=o+(j+i)*1 by omega];exact hA⟩
end Go.Fs
namespace Go.Proofs
open Go.Shelf
def Tryz.lays169_ren:Go.Shelf.Ren:=⟨fun|169=>72|n=>n,fun|70=>135|9=>9|0=>0|72=>137|37=>99|127=>274|3=>3|5=>5|n=>n,fun|n=>n⟩
theorem Tryz.lays169:Go.Proofs.Lays.n169 Tryz.prog Tryz.lays169_ren:={
 mixed:=by kernel_rfl
 f169:=Tryz.func72.trans (bNB some Yg)
 t0:=Tryz.underlying0
 a0:=Tryz.isAgg0
 z0:=Tryz.sizeOf0
 v0:=Tryz.zeroValue0
 t3:=Tryz.underlying3
 a3:=Tryz.isAgg3
 z3:=Tryz.sizeOf3
 v3:=Tryz.zeroValue3
 t9:=Tryz.underlying9
 a9:=Tryz.isAgg9
 z9:=Tryz.sizeOf9
 v9:=Tryz.zeroValue9
 t37:=Tryz.underlying99
 a37:=Tryz.isAgg99
 z37:=Tryz.sizeOf99
 v37:=Tryz.zeroValue99
 t70:=Tryz.underlying135
 a70:=Tryz.isAgg135
 z70:=Tryz.sizeOf135
 v70:=Tryz.zeroValue135
 t72:=Tryz.underlying137
 a72:=Tryz.isAgg137
 z72:=Tryz.sizeOf137
 v72:=Tryz.zeroValue137
 t127:=Tryz.underlying274
 a127:=Tryz.isAgg274
 z127:=Tryz.sizeOf274
 v127:=Tryz.zeroValue274}
theorem Tryz.Builder_Extra_169:Builder.Extra Tryz.prog Tryz.lays169_ren:={
 sizeBuilder:=by kernel_rfl
 liesBuilder:=by kernel_rfl
 t5:=Tryz.underlying5
 a5:=Tryz.isAgg5
 z5:=Tryz.sizeOf5
 v5:=Tryz.zeroValue5
 infoByte:=by kernel_rfl
 cellsByte:=by kernel_rfl
 sizeByte:=by kernel_rfl
 neB5:=by decide}
open Go.RowKit in
theorem Tryz.Builder_String_any(B b:Nat)(l:List UInt8)(w:World)(h:Lib.IsBuilder 137 5 B b (Lib.byteCells l) w)(hBw:B≤w.heap.size):
  Calls Tryz.prog 72 #[.pointer (some ⟨b,0,none⟩)] w fun e w'=>e=.returned (.string ⟨l.toArray⟩)∧Below B w w':=Any.Builder_String_any Tryz.lays169 Tryz.Builder_Extra_169 B b l w h hBw
def Tryz.laysM171_ren:Go.Shelf.Ren:=⟨fun|171=>65|243=>131|246=>208|283=>305|284=>306|285=>307|286=>308|129=>360|317=>359|318=>361|319=>362|320=>363|337=>381|338=>382|n=>n,fun|3=>3|9=>9|2=>2|4=>4|171=>423|0=>0|53=>424|37=>99|5=>5|173=>427|212=>461|51=>462|20=>20|213=>463|46=>380|232=>488|233=>489|n=>n,fun|17=>0|18=>4|19=>5|n=>n⟩
theorem Tryz.laysM171:Go.Proofs.LaysM.n171 Tryz.prog Tryz.laysM171_ren:={
 mixed:=by kernel_rfl
 f129:=Tryz.func360.trans (bNB some Yg)
 f171:=Tryz.func65.trans (bNB some Yg)
 f243:=Tryz.func131.trans (bNB some Yg)
 f246:=Tryz.func208.trans (bNB some Yg)
 f283:=Tryz.func305.trans (bNB some Yg)
 f284:=Tryz.func306.trans (bNB some Yg)
 f285:=Tryz.func307.trans (bNB some Yg)
 f286:=Tryz.func308.trans (bNB some Yg)
 f317:=Tryz.func359.trans (bNB some Yg)
 f318:=Tryz.func361.trans (bNB some Yg)
 f319:=Tryz.func362.trans (bNB some Yg)
 f320:=Tryz.func363.trans (bNB some Yg)
 f337:=Tryz.func381.trans (bNB some Yg)
 f338:=Tryz.func382.trans (bNB some Yg)
 t0:=Tryz.underlying0
 a0:=Tryz.isAgg0
 z0:=Tryz.sizeOf0
 v0:=Tryz.zeroValue0
 t2:=Tryz.underlying2
 a2:=Tryz.isAgg2
 z2:=Tryz.sizeOf2
 v2:=Tryz.zeroValue2
 t3:=Tryz.underlying3
 a3:=Tryz.isAgg3
 z3:=Tryz.sizeOf3
 v3:=Tryz.zeroValue3
 t4:=Tryz.underlying4
 a4:=Tryz.isAgg4
 z4:=Tryz.sizeOf4
 v4:=Tryz.zeroValue4
 t5:=Tryz.underlying5
 a5:=Tryz.isAgg5
 z5:=Tryz.sizeOf5
 v5:=Tryz.zeroValue5
 t9:=Tryz.underlying9
 a9:=Tryz.isAgg9
 z9:=Tryz.sizeOf9
 v9:=Tryz.zeroValue9
 t20:=Tryz.underlying20
 a20:=Tryz.isAgg20
 z20:=Tryz.sizeOf20
 v20:=Tryz.zeroValue20
 t37:=Tryz.underlying99
 a37:=Tryz.isAgg99
 z37:=Tryz.sizeOf99
 v37:=Tryz.zeroValue99
 t46:=Tryz.underlying380
 a46:=Tryz.isAgg380
 z46:=Tryz.sizeOf380
 v46:=Tryz.zeroValue380
 t51:=Tryz.underlying462
 a51:=Tryz.isAgg462
 z51:=Tryz.sizeOf462
 v51:=Tryz.zeroValue462
 t53:=Tryz.underlying424
 a53:=Tryz.isAgg424
 z53:=Tryz.sizeOf424
 v53:=Tryz.zeroValue424
 t171:=Tryz.underlying423
 a171:=Tryz.isAgg423
 z171:=Tryz.sizeOf423
 v171:=Tryz.zeroValue423
 t173:=Tryz.underlying427
 a173:=Tryz.isAgg427
 z173:=Tryz.sizeOf427
 v173:=Tryz.zeroValue427
 t212:=Tryz.underlying461
 a212:=Tryz.isAgg461
 z212:=Tryz.sizeOf461
 v212:=Tryz.zeroValue461
 t213:=Tryz.underlying463
 a213:=Tryz.isAgg463
 z213:=Tryz.sizeOf463
 t232:=Tryz.underlying488
 a232:=Tryz.isAgg488
 z232:=Tryz.sizeOf488
 v232:=Tryz.zeroValue488
 t233:=Tryz.underlying489
 a233:=Tryz.isAgg489
 z233:=Tryz.sizeOf489
 v233:=Tryz.zeroValue489
 g17:=by kernel_rfl
 g18:=by kernel_rfl
 g19:=by kernel_rfl
 i0:=by kernel_rfl
 i2:=by kernel_rfl
 i3:=by kernel_rfl
 i4:=by kernel_rfl
 i5:=by kernel_rfl
 i9:=by kernel_rfl
 i20:=by kernel_rfl
 i37:=by kernel_rfl
 i46:=by kernel_rfl
 i51:=by kernel_rfl
 i53:=by kernel_rfl
 i171:=by kernel_rfl
 i173:=by kernel_rfl
 i212:=by kernel_rfl
 i232:=by kernel_rfl
 i233:=by kernel_rfl
 m17:=by kernel_rfl
 m18:=by kernel_rfl
 m19:=by kernel_rfl}
open Go.RowKit Go.Sort Go.Lib in
theorem Tryz.strconv_Itoa(n:Int)(h0: -9223372036854775808≤n)(h1:n≤9223372036854775807)(w:World)(htab:Lib.TabIs Tryz.prog w "internal/strconv.uint64pow10" .u64 Lib.pow10Tab):
  Calls Tryz.prog 65 #[.int .i64 n] w fun e w'=>e=.returned (.string ⟨(Lib.itoa n).toArray⟩)∧∃k os,w'=grow (w.drewN k) os:=Any.strconv_Itoa Tryz.laysM171 n h0 h1 w htab
def Tryz.laysC172_ren:Go.Shelf.Ren:=⟨fun|172=>289|244=>351|245=>352|247=>376|279=>377|280=>378|281=>379|282=>380|287=>388|316=>389|171=>65|205=>390|321=>393|322=>394|243=>131|246=>208|283=>305|284=>306|285=>307|286=>308|129=>360|317=>359|318=>361|319=>362|320=>363|337=>381|338=>382|n=>n,fun|9=>9|3=>3|75=>139|76=>140|4=>4|5=>5|167=>475|37=>99|0=>0|85=>476|2=>2|168=>478|53=>424|175=>482|46=>380|210=>486|127=>274|145=>499|143=>497|21=>21|171=>423|173=>427|212=>461|51=>462|20=>20|213=>463|232=>488|233=>489|80=>154|n=>n,fun|15=>2|16=>3|17=>0|18=>4|19=>5|n=>n⟩
theorem Tryz.laysC172:Go.Proofs.LaysC.n172 Tryz.prog Tryz.laysC172_ren:={
 mixed:=by kernel_rfl
 f129:=Tryz.func360.trans (bNB some Yg)
 f171:=Tryz.func65.trans (bNB some Yg)
 f172:=Tryz.func289.trans (bNB some Yg)
 f205:=Tryz.func390.trans (bNB some Yg)
 f243:=Tryz.func131.trans (bNB some Yg)
 f244:=Tryz.func351.trans (bNB some Yg)
 f245:=Tryz.func352.trans (bNB some Yg)
 f246:=Tryz.func208.trans (bNB some Yg)
 f247:=Tryz.func376.trans (bNB some Yg)
 f279:=Tryz.func377.trans (bNB some Yg)
 f280:=Tryz.func378.trans (bNB some Yg)
 f281:=Tryz.func379.trans (bNB some Yg)
 f282:=Tryz.func380.trans (bNB some Yg)
 f283:=Tryz.func305.trans (bNB some Yg)
 f284:=Tryz.func306.trans (bNB some Yg)
 f285:=Tryz.func307.trans (bNB some Yg)
 f286:=Tryz.func308.trans (bNB some Yg)
 f287:=Tryz.func388.trans (bNB some Yg)
 f316:=Tryz.func389.trans (bNB some Yg)
 f317:=Tryz.func359.trans (bNB some Yg)
 f318:=Tryz.func361.trans (bNB some Yg)
 f319:=Tryz.func362.trans (bNB some Yg)
 f320:=Tryz.func363.trans (bNB some Yg)
 f321:=Tryz.func393.trans (bNB some Yg)
 f322:=Tryz.func394.trans (bNB some Yg)
 f337:=Tryz.func381.trans (bNB some Yg)
 f338:=Tryz.func382.trans (bNB some Yg)
 t0:=Tryz.underlying0
 a0:=Tryz.isAgg0
 z0:=Tryz.sizeOf0
 v0:=Tryz.zeroValue0
 t2:=Tryz.underlying2
 a2:=Tryz.isAgg2
 z2:=Tryz.sizeOf2
 v2:=Tryz.zeroValue2
 t3:=Tryz.underlying3
 a3:=Tryz.isAgg3
 z3:=Tryz.sizeOf3
 v3:=Tryz.zeroValue3
 t4:=Tryz.underlying4
 a4:=Tryz.isAgg4
 z4:=Tryz.sizeOf4
 v4:=Tryz.zeroValue4
 t5:=Tryz.underlying5
 a5:=Tryz.isAgg5
 z5:=Tryz.sizeOf5
 v5:=Tryz.zeroValue5
 t9:=Tryz.underlying9
 a9:=Tryz.isAgg9
 z9:=Tryz.sizeOf9
 v9:=Tryz.zeroValue9
 t20:=Tryz.underlying20
 a20:=Tryz.isAgg20
 z20:=Tryz.sizeOf20
 v20:=Tryz.zeroValue20
 t21:=Tryz.underlying21
 a21:=Tryz.isAgg21
 z21:=Tryz.sizeOf21
 v21:=Tryz.zeroValue21
 t37:=Tryz.underlying99
 a37:=Tryz.isAgg99
 z37:=Tryz.sizeOf99
 v37:=Tryz.zeroValue99
 t46:=Tryz.underlying380
 a46:=Tryz.isAgg380
 z46:=Tryz.sizeOf380
 v46:=Tryz.zeroValue380
 t51:=Tryz.underlying462
 a51:=Tryz.isAgg462
 z51:=Tryz.sizeOf462
 v51:=Tryz.zeroValue462
 t53:=Tryz.underlying424
 a53:=Tryz.isAgg424
 z53:=Tryz.sizeOf424
 v53:=Tryz.zeroValue424
 t75:=Tryz.underlying139
 a75:=Tryz.isAgg139
 z75:=Tryz.sizeOf139
 v75:=Tryz.zeroValue139
 t76:=Tryz.underlying140
 a76:=Tryz.isAgg140
 z76:=Tryz.sizeOf140
 v76:=Tryz.zeroValue140
 t85:=Tryz.underlying476
 a85:=Tryz.isAgg476
 z85:=Tryz.sizeOf476
 v85:=Tryz.zeroValue476
 t127:=Tryz.underlying274
 a127:=Tryz.isAgg274
 z127:=Tryz.sizeOf274
 v127:=Tryz.zeroValue274
 t143:=Tryz.underlying497
 a143:=Tryz.isAgg497
 z143:=Tryz.sizeOf497
 v143:=Tryz.zeroValue497
 t145:=Tryz.underlying499
 a145:=Tryz.isAgg499
 z145:=Tryz.sizeOf499
 v145:=Tryz.zeroValue499
 t167:=Tryz.underlying475
 a167:=Tryz.isAgg475
 z167:=Tryz.sizeOf475
 v167:=Tryz.zeroValue475
 t168:=Tryz.underlying478
 a168:=Tryz.isAgg478
 z168:=Tryz.sizeOf478
 v168:=Tryz.zeroValue478
 t171:=Tryz.underlying423
 a171:=Tryz.isAgg423
 z171:=Tryz.sizeOf423
 v171:=Tryz.zeroValue423
 t173:=Tryz.underlying427
 a173:=Tryz.isAgg427
 z173:=Tryz.sizeOf427
 v173:=Tryz.zeroValue427
 t175:=Tryz.underlying482
 a175:=Tryz.isAgg482
 z175:=Tryz.sizeOf482
 v175:=Tryz.zeroValue482
 t210:=Tryz.underlying486
 a210:=Tryz.isAgg486
 z210:=Tryz.sizeOf486
 v210:=Tryz.zeroValue486
 t212:=Tryz.underlying461
 a212:=Tryz.isAgg461
 z212:=Tryz.sizeOf461
 v212:=Tryz.zeroValue461
 t213:=Tryz.underlying463
 a213:=Tryz.isAgg463
 z213:=Tryz.sizeOf463
 t232:=Tryz.underlying488
 a232:=Tryz.isAgg488
 z232:=Tryz.sizeOf488
 v232:=Tryz.zeroValue488
 t233:=Tryz.underlying489
 a233:=Tryz.isAgg489
 z233:=Tryz.sizeOf489
 v233:=Tryz.zeroValue489
 g15:=by kernel_rfl
 g16:=by kernel_rfl
 g17:=by kernel_rfl
 g18:=by kernel_rfl
 g19:=by kernel_rfl
 t80:=Tryz.underlying154
 a80:=Tryz.isAgg154
 z80:=Tryz.sizeOf154
 v80:=Tryz.zeroValue154
 i0:=by kernel_rfl
 i2:=by kernel_rfl
 i3:=by kernel_rfl
 i4:=by kernel_rfl
 i5:=by kernel_rfl
 i9:=by kernel_rfl
 i20:=by kernel_rfl
 i21:=by kernel_rfl
 i37:=by kernel_rfl
 i46:=by kernel_rfl
 i51:=by kernel_rfl
 i53:=by kernel_rfl
 i75:=by kernel_rfl
 i76:=by kernel_rfl
 i80:=by kernel_rfl
 i85:=by kernel_rfl
 i127:=by kernel_rfl
 i143:=by kernel_rfl
 i145:=by kernel_rfl
 i167:=by kernel_rfl
 i168:=by kernel_rfl
 i171:=by kernel_rfl
 i173:=by kernel_rfl
 i175:=by kernel_rfl
 i210:=by kernel_rfl
 i212:=by kernel_rfl
 i232:=by kernel_rfl
 i233:=by kernel_rfl
 m15:=by kernel_rfl
 m16:=by kernel_rfl
 m17:=by kernel_rfl
 m18:=by kernel_rfl
 m19:=by kernel_rfl
 c0:=by kernel_rfl
 c2:=by kernel_rfl
 c3:=by kernel_rfl
 c4:=by kernel_rfl
 c5:=by kernel_rfl
 c9:=by kernel_rfl
 c20:=by kernel_rfl
 c21:=by kernel_rfl
 c37:=by kernel_rfl
 c46:=by kernel_rfl
 c51:=by kernel_rfl
 c53:=by kernel_rfl
 c75:=by kernel_rfl
 c76:=by kernel_rfl
 c80:=by kernel_rfl
 c85:=by kernel_rfl
 c127:=by kernel_rfl
 c143:=by kernel_rfl
 c145:=by kernel_rfl
 c167:=by kernel_rfl
 c168:=by kernel_rfl
 c171:=by kernel_rfl
 c173:=by kernel_rfl
 c175:=by kernel_rfl
 c210:=by kernel_rfl
 c212:=by kernel_rfl
 c213:=by kernel_rfl
 c232:=by kernel_rfl
 c233:=by kernel_rfl}
open Go.RowKit in
theorem Tryz.strconv_Atoi_ok(s:ByteArray)(hmax:s.size≤9223372036854775806)(v:Int)(h:Lib.atoiAll s.data.toList=.ok v)(w:World):
  Calls Tryz.prog 289 #[.string s] w fun e w'=>e=.returned (.tuple #[.int .i64 v,.nilIface])∧(w'=w∨∃t,w'=Lib.bytesWorld w 5 t):=Any.strconv_Atoi_ok Tryz.laysC172 s hmax v h w
open Go.RowKit in
theorem Tryz.strconv_Atoi_syntax(s:ByteArray)(hlim:s.size≤281474976710656)(h:Lib.atoiAll s.data.toList=Lib.atoiAll [])(ev:Value)(w:World)(hv:w.cell? ⟨2,0,none⟩=some ev)(hev:ev=.nilIface∨∃te pe,ev=.iface te pe):
  Calls Tryz.prog 289 #[.string s] w fun e w'=>∃N,e=.returned (.tuple #[.int .i64 (0),.iface 478 (.pointer (some ⟨N,0,none⟩))])∧w.heap.size≤N∧w'.heap[N]?= some (.cells #[.string ⟨#[65,116,111,105]⟩,.string s,ev] 486 (0,0))∧Below w.heap.size w w':=Any.strconv_Atoi_syntax Tryz.laysC172 s hlim h ev w hv hev
open Go.RowKit in
theorem Tryz.strconv_Atoi_range(s:ByteArray)(hlim:s.size≤281474976710656)(h:Lib.atoiAll s.data.toList=.range)(ev:Value)(w:World)(hv:w.cell? ⟨3,0,none⟩=some ev)(hev:ev=.nilIface∨∃te pe,ev=.iface te pe):
  Calls Tryz.prog 289 #[.string s] w fun e w'=>∃N,e=.returned (.tuple #[.int .i64 (Lib.atoiSat s.data.toList),.iface 478 (.pointer (some ⟨N,0,none⟩))])∧w.heap.size≤N∧w'.heap[N]?= some (.cells #[.string ⟨#[65,116,111,105]⟩,.string s,ev] 486 (0,0))∧Below w.heap.size w w':=Any.strconv_Atoi_range Tryz.laysC172 s hlim h ev w hv hev
def Tryz.lays146_ren:Go.Shelf.Ren:=⟨fun|146=>188|221=>265|268=>337|138=>338|143=>339|195=>372|197=>373|218=>374|219=>375|260=>383|217=>384|225=>385|224=>386|267=>387|266=>391|314=>392|n=>n,fun|9=>9|31=>22|3=>3|4=>4|0=>0|105=>472|21=>21|5=>5|46=>380|119=>490|139=>493|138=>492|146=>494|51=>462|n=>n,fun|1=>1|3=>6|4=>7|n=>n⟩
theorem Tryz.lays146:Go.Proofs.Lays.n146 Tryz.prog Tryz.lays146_ren:={
 mixed:=by kernel_rfl
 f138:=Tryz.func338.trans (bNB some Yg)
 f143:=Tryz.func339.trans (bNB some Yg)
 f146:=Tryz.func188.trans (bNB some Yg)
 f195:=Tryz.func372.trans (bNB some Yg)
 f197:=Tryz.func373.trans (bNB some Yg)
 f217:=Tryz.func384.trans (bNB some Yg)
 f218:=Tryz.func374.trans (bNB some Yg)
 f219:=Tryz.func375.trans (bNB some Yg)
 f221:=Tryz.func265.trans (bNB some Yg)
 f224:=Tryz.func386.trans (bNB some Yg)
 f225:=Tryz.func385.trans (bNB some Yg)
 f260:=Tryz.func383.trans (bNB some Yg)
 f266:=Tryz.func391.trans (bNB some Yg)
 f267:=Tryz.func387.trans (bNB some Yg)
 f268:=Tryz.func337.trans (bNB some Yg)
 f314:=Tryz.func392.trans (bNB some Yg)
 t0:=Tryz.underlying0
 a0:=Tryz.isAgg0
 z0:=Tryz.sizeOf0
 v0:=Tryz.zeroValue0
 t3:=Tryz.underlying3
 a3:=Tryz.isAgg3
 z3:=Tryz.sizeOf3
 v3:=Tryz.zeroValue3
 t4:=Tryz.underlying4
 a4:=Tryz.isAgg4
 z4:=Tryz.sizeOf4
 v4:=Tryz.zeroValue4
 t5:=Tryz.underlying5
 a5:=Tryz.isAgg5
 z5:=Tryz.sizeOf5
 v5:=Tryz.zeroValue5
 t9:=Tryz.underlying9
 a9:=Tryz.isAgg9
 z9:=Tryz.sizeOf9
 v9:=Tryz.zeroValue9
 t21:=Tryz.underlying21
 a21:=Tryz.isAgg21
 z21:=Tryz.sizeOf21
 v21:=Tryz.zeroValue21
 t31:=Tryz.underlying22
 a31:=Tryz.isAgg22
 z31:=Tryz.sizeOf22
 v31:=Tryz.zeroValue22
 t46:=Tryz.underlying380
 a46:=Tryz.isAgg380
 z46:=Tryz.sizeOf380
 v46:=Tryz.zeroValue380
 t51:=Tryz.underlying462
 a51:=Tryz.isAgg462
 z51:=Tryz.sizeOf462
 v51:=Tryz.zeroValue462
 t105:=Tryz.underlying472
 a105:=Tryz.isAgg472
 z105:=Tryz.sizeOf472
 v105:=Tryz.zeroValue472
 t119:=Tryz.underlying490
 a119:=Tryz.isAgg490
 z119:=Tryz.sizeOf490
 t138:=Tryz.underlying492
 a138:=Tryz.isAgg492
 z138:=Tryz.sizeOf492
 v138:=Tryz.zeroValue492
 t139:=Tryz.underlying493
 a139:=Tryz.isAgg493
 z139:=Tryz.sizeOf493
 v139:=Tryz.zeroValue493
 t146:=Tryz.underlying494
 a146:=Tryz.isAgg494
 z146:=Tryz.sizeOf494
 v146:=Tryz.zeroValue494
 g1:=by kernel_rfl
 g3:=by kernel_rfl
 g4:=by kernel_rfl}
open Go.RowKit Go.Lib in
theorem Tryz.strings_Split(s sep:ByteArray)(m:Int)(w:World)(hs:s.size<4294967281)(hm:w.cell? ⟨1,0,none⟩=some (.int .i64 m))(h1:1≤sep.size):
  Calls Tryz.prog 188 #[.string s,.string sep] w fun e w'=>
   e=.returned (.slice (some ⟨w.heap.size,0,none⟩) (Lib.countB s sep+1) (Lib.countB s sep+1))∧w'=w.alloc (.cells ((Lib.splitB sep 0 (Lib.countB s sep) s).map Value.string).toArray 9):=Any.strings_Split Tryz.lays146 Yg s sep m w hs hm h1
end Go.Proofs
namespace Go.Fs
open Go.Proofs Tryz
namespace L12
open C12 Go.Lib
structure oD(D:aC):Prop where
 tab:D 0=pow10Tab.map (Value.int .u64)
 maxLen:∃m,(D 1)[0]?= some (qI m)
 esyn:∃c,(D 2)[0]?= some c∧(c=.nilIface∨∃t u,c=.iface t u)
 erng:∃c,(D 3)[0]?= some c∧(c=.nilIface∨∃t u,c=.iface t u)
theorem oD.up{D D':aC}(h:oD D)(hl:Le D D'):oD D':=by
 obtain⟨h1,⟨m,h2⟩,⟨c,h3,h3'⟩,⟨e,h4,h4'⟩⟩:=h;exact⟨hl.2.trans h1,⟨m,hl.get h2⟩,⟨c,hl.get h3,h3'⟩,⟨e,hl.get h4,h4'⟩⟩
theorem oD.tabIs{D:aC}(h:oD D){w:Δ}(hw:fA D w):TabIs prog w "internal/strconv.uint64pow10" .u64 pow10Tab:=by
 have hg:prog.globalNamed "internal/strconv.uint64pow10" =some 0:=Yg
 obtain⟨-, -,e,fz,h0⟩:=hw;unfold TabIs World.var?;rw[hg,Option.bind_some,h0,h.tab]
theorem RO(w:Δ)(e:Θ)(t:Λ):Go.RowKit.Below w.heap.size w (bytesWorld w e t):=⟨rfl,rfl,rfl,by rw[bytesWorld_size];omega,fun b hb=>bytesWorld_at_old w e t b hb⟩
theorem TH(w:Δ)(k:Nat)(os:Array Obj):Go.RowKit.Below w.heap.size w (Go.Sort.grow (w.drewN k) os):=
 ⟨rfl,rfl,rfl,by show w.heap.size≤(w.heap++os).size;rw[Array.size_append];omega,fun b hb=>by show(w.heap++os)[b]?= _;rw[bPS hb]⟩
theorem m2(n:Int)(hn:wD .i64 n)(D:aC)(hV:oD D):Fn prog 65 #[qI n] D (fun _ v=>v=.string (rF (itoa n))):=by
 have hb: -9223372036854775808≤n∧n≤9223372036854775807:=by simpa [wD]using hn
 refine Fn.of_below (EF.of func65 rfl rfl) fun w hw=>(Go.Proofs.Tryz.strconv_Itoa n hb.1 hb.2 w (hV.tabIs hw)).mono ?_
 rintro e w' ⟨rfl,k,os,rfl⟩;exact⟨_,rfl,TH w k os,fun _ _=>rfl⟩
theorem aRH(s:Λ)(hs:s.size≤1000)(D:aC)(hV:oD D):Fn prog 188 #[.string s,.string ⟨#[32]⟩] D (fun D' v=>Sl D' RS 1 v (eA s)):=by
 obtain⟨m,hm⟩:=hV.maxLen;refine Fn.of_alloc (cs:=(eA s).map Value.string) (e:=9) (r:=fun b=>qS b (eA s).length (eA s).length) (EF.of func188 rfl rfl) (fun w hw=>(Go.Proofs.Tryz.strings_Split s ⟨#[32]⟩ m w Yd (hw.cell hm) Yt).mono ?_) fun D' b _ hA=>?_
 ·rintro e w' ⟨rfl,rfl⟩;rw[aBU,WQ];exact⟨rfl,rfl⟩
 ·have hl:(eA s).length≤1001:=by unfold eA;rw[bOB];exact bPD (OG _) (by show s.size+1≤1001;omega)
  refine⟨_,_,rfl,bNJ _,Yd,bNC ⟨b,0,rfl,fun i x hi=>⟨_,rfl,rfl,fun j v hj=>?_⟩⟩⟩;cases j with
  |zero=>
   obtain rfl:Value.string x=v:=Xam
   have h:=hA i (.string x) (by rw[bOD,hi];rfl);simpa using h
  |succ j=>simp at hj
theorem bED(s:Λ)(hs:s.size≤1000)(D:aC)(hV:oD D):Fn prog 289 #[.string s] D (fun _ v=>∃m c,v=.tuple #[qI m,c]∧wD .i64 m∧((c=.nilIface∧atoiAll s.data.toList=.ok m)∨((∃t u,c=.iface t u)∧∀x,atoiAll s.data.toList≠.ok x))):=by
 refine Fn.of_below (EF.of func289 rfl rfl) fun w hw=>?_
 rcases h:atoiAll s.data.toList with v|_|_
 ·refine(Go.Proofs.Tryz.strconv_Atoi_ok s Yd v h w).mono ?_;rintro e w' ⟨rfl,hw'⟩;refine⟨_,rfl,?_,fun _ _=>⟨v,_,rfl,by have:=atoiAll_bounds h;simp only[wD];omega,bNI ⟨rfl,rfl⟩⟩⟩
  rcases hw' with rfl|⟨t,rfl⟩
  ·exact .refl _ _
  ·exact RO w _ t
 ·obtain⟨c,hc,hc'⟩:=hV.esyn;refine(Go.Proofs.Tryz.strconv_Atoi_syntax s Yd h c w (hw.cell hc) hc').mono ?_;rintro e w' ⟨N,rfl,_,_,hb⟩;exact⟨_,rfl,hb,fun _ _=>⟨0,_,rfl,Ye,bNC ⟨⟨_,_,rfl⟩,fun x hx=>by cases hx⟩⟩⟩
 ·obtain⟨c,hc,hc'⟩:=hV.erng;refine(Go.Proofs.Tryz.strconv_Atoi_range s Yd h c w (hw.cell hc) hc').mono ?_;rintro e w' ⟨N,rfl,_,_,hb⟩;exact⟨_,rfl,hb,fun _ _=>⟨_,_,rfl,by unfold atoiSat;split<;>simp only[wD]<;>omega,bNC ⟨⟨_,_,rfl⟩,fun x hx=>by cases hx⟩⟩⟩
theorem aTG{s:Λ}{m:Int}{c:Γ}(h:(c=.nilIface∧atoiAll s.data.toList=.ok m)∨((∃t u,c=.iface t u)∧∀x,atoiAll s.data.toList≠.ok x)):rR s.data.toList=if(((aHX c&&decide (m≥0))&&decide ((s.size:Int)≤3))&&decide (rF (itoa m)=s))=true then some m else none:=by
 rw[←aEB];unfold aXO;rcases h with⟨rfl,h⟩|⟨⟨t,u,rfl⟩,h⟩
 ·rw[h];have e:s.data.toList.length=s.size:=rfl;have I:(rF (itoa m)=s) ↔ itoa m=s.data.toList:=⟨fun h=>by rw[←h];rfl,fun h=>by rw[h];exact yO s⟩
  simp only[aHX,bQZ,bMS,GT,e,I,and_assoc];congr 1;simp only[eq_iff_iff];constructor
  ·rintro⟨h1,h2,h3⟩;exact⟨h1,Yd,h3⟩
  ·rintro⟨h1,h2,h3⟩;exact⟨h1,Yd,h3⟩
 ·split
  ·rename_i v hv;exact absurd hv (h v)
  ·rfl
theorem aZW{s:Λ}{m:Int}{c:Γ}(h:(c=.nilIface∧atoiAll s.data.toList=.ok m)∨((∃t u,c=.iface t u)∧∀x,atoiAll s.data.toList≠.ok x)):(((aHX c&&decide (m≥0))&&decide ((s.size:Int)≤3))&&decide (rF (itoa m)=s))=true→rR s.data.toList=some m:=fun hb=>by rw[aTG h,bNK hb]
theorem bJQ{s:Λ}{m:Int}{c:Γ}(h:(c=.nilIface∧atoiAll s.data.toList=.ok m)∨((∃t u,c=.iface t u)∧∀x,atoiAll s.data.toList≠.ok x)):(((aHX c&&decide (m≥0))&&decide ((s.size:Int)≤3))&&decide (rF (itoa m)=s))=false→rR s.data.toList=none:=fun hb=>by rw[aTG h,bNA (by rw[hb];simp)]
theorem aIR(s:Λ)(hs:s.size≤1000)(D:aC)(hV:oD D):Fn prog 191 #[.string s] D (fun _ v=>∃m b,v=.tuple #[qI m,.bool b]∧(b=true→rR s.data.toList=some m)∧(b=false→rR s.data.toList=none)):=by
 refine Zw 29 func191 rfl fun h0=>aA<|Zf rfl<|Zf rfl<|aJ<|Za rfl<|Zy rfl (fun D1 O=>bED s hs _ (hV.up (O _ Yf))) fun v1 D1 O R=>?_;obtain⟨m,c,rfl,U,I⟩:=R;refine Za rfl<|Zap rfl<|Zap rfl<|Zf rfl<|Zf rfl<|aJ<|Za rfl<|Za rfl<|YK rfl U139 rfl (by rcases I with⟨h,_⟩|⟨h,_⟩;exact Or.inl h;exact Or.inr h) rfl bSM<|Za rfl ?_
 refine' bX 3 (s:=14) (p:=17) rfl (fun V=>?_) (fun V=>?_) ?_;rotate_left
 ·refine Zb rfl<|lH rfl rfl rfl rfl ⟨_,rfl,rfl⟩<|Zak rfl ?_;exact aN 2
 ·refine War ?_;exact aN 2
 refine Za rfl ?_;refine' bX 4 (s:=18) (p:=22) rfl (fun Y=>?_) (fun Y=>?_) ?_;rotate_left
 ·refine Zb rfl<|gR rfl U9 rfl rfl rfl ⟨_,rfl,rfl⟩<|Wj ?_;exact aN 3
 ·refine Wc ?_;exact aN 3
 refine Za rfl ?_;refine' bX 5 (s:=23) (p:=28) rfl (fun Z=>?_) (fun Z=>?_) ?_;rotate_left
 ·refine Zb rfl<|Ze rfl (fun D2 hB=>m2 m U _ (hV.up (hB _ Yf)))<|Zb rfl<|Wat ?_;exact aN 4
 ·refine Zg rfl<|Wc ?_;exact aN 4
 refine Wcd ?_;exact Zo [_,_] rfl cF fun D hD=>⟨m,_,rfl,aZW I,bJQ I⟩
end L12
end Go.Fs
