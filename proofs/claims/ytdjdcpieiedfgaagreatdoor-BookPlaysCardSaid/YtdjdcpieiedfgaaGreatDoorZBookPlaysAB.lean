/- Of BookPlays. -/
import Derived.Test.YtdjdcpieiedfgaaGreatDoorZBookPlaysAA
import Derived.RangeFuncLeaves
import Derived.RangeFuncRecord
import Derived.Test.YtdjdcpieiedfgaaGreatDoorProg
import Derived.ChangeKeysEq
namespace Go.Fs
variable{P:Program}{X:Cx}{γb:Type}[Membership Nat γb]{bad:γb}{all:Array Oper}{K:Act→Δ→Prop}{Q:Exit→Act→Δ→Prop}
variable{σ:cD}{μ:aD}{Ds:List aC}{os:List (Bool×Nat)}{fl:Bool}{ix:Nat}
variable{d:Nat}{x y z:Operand}{u v:Γ}{ty:Θ}{pos:String}{aft:Array Edge}{g:Option (Nat×Bool)}

def ints(l:List Int):List Γ:=l.map (Value.int .i64)
@[simp] theorem aN(l:List Int):(ints l).length=l.length:=by simp[ints]
theorem cN{l:List Int}{k:Nat}{n:Int}(h:l[k]?= some n):(ints l)[k]?= some (qI n):=by simp[ints,h]
theorem dI(l:List Int):∀v∈ints l,cell1 v=true:=by intro v hv;simp[ints]at hv;obtain⟨n,_,rfl⟩:=hv;rfl
theorem cA{t e:Θ}{n b:Nat}{k:IntKind}{i:Int}(ho:all[ix]?= some ⟨some d,.indexAddr t x y,ty,pos,aft,g⟩)(ht:P.underlying t=some (.array n e))(hs:TS P e 1)(hx:ev σ x=some (qP b))(hy:ev σ y=some (.int k i))(h0:0≤i)(h1:i<n)
  (hN:Nat.blt d X.N=true) (hg:dH all σ g) (kk:WL P X bad all K Q os ((d,.pointer (some ⟨b,i.toNat,none⟩))::σ) μ Ds):WL P X bad all K Q ((fl,ix)::os) σ μ Ds:=
 eV ho ht hs hx hy h0 h1 hN hg (by simpa using kk)
theorem Z3{t:Θ}{b k:Nat}{l:List Int}{n:Int}{e:Θ}{μ':aD}(ho:all[ix]?= some ⟨none,.store t x y,ty,pos,aft,g⟩)(hs:TS P t 1)(hx:ev σ x=some (.pointer (some ⟨b,k,none⟩)))(hy:ev σ y=some (qI n))
  (hm:bO μ b (.cells (ints l).toArray e (0,0)) (.cells (ints (l.set k n)).toArray e (0,0)) μ') (hl:k<l.length) (hg:dH all σ g)
  (kk:WL P X bad all K Q os σ μ' Ds):WL P X bad all K Q ((false,ix)::os) σ μ Ds:=
 bP (us:=[qI n]) (vs:=ints l) (ws:=ints (l.set k n)) ho hx hy rfl hs hm Yaq (by
  rw[show ints (l.set k n)=(ints l).set k (qI n) by simp[ints,List.map_set],List.set_eq_take_append_cons_drop,bLR Yay];simp) Yk hg kk

def GP(σ:cD):List (Nat×Operand)→Option (List (Nat×Γ))
 | []=>some []
 |(i,x)::xs=>match ev σ x,GP σ xs with
  |some v,some vs=>some ((i,v)::vs)
  |_,_=>none
theorem yE{ρ:Operand→Γ}(hρ:∀x u,ev σ x=some u→ρ x=u):∀{xs:List (Nat×Operand)} {vs:List (Nat×Γ)},GP σ xs=some vs→(xs.map fun p=>(p.1,ρ p.2))=vs
 | [],vs,h=>by simp[GP]at h;simp[h]
 |(i,x)::xs,vs,h=>by
  simp only[GP]at h;cases h1:ev σ x with
  |none=>simp[h1]at h
  |some I=>
   cases h2:GP σ xs with
   |none=>simp[h1,h2]at h
   |some v2=>
    simp[h1,h2]at h;rw[←h,bMD,hρ x I h1,yE hρ h2]
def TP(P:Program)(t:Θ)(pl:List (Nat×Nat)):Prop:=
 ∃fs,P.underlying t=some (.struct fs)∧∀w,(fs.mapM (fun f=>do pure (f.offset,←sizeOf f.type):Field→Sem (Nat×Nat))).run P w=.ok pl.toArray w
theorem FF{P:Program}:∀(fs:List Field) (pl:List (Nat×Nat)),(fs.map fun f=>(f.offset,P.cellsOf f.type))=pl→(∀f∈fs,(P.info? f.type).isSome=true)→∀w,
  (fs.mapM (fun f=>do pure (f.offset,←sizeOf f.type):Field→Sem (Nat×Nat))).run P w=.ok pl w
 | [],pl,h,_,w=>by subst h;rfl
 |f::fs,pl,h,hi,w=>by
  subst h;have hs:(sizeOf f.type).run P w=.ok (P.cellsOf f.type) w:=by
   have:=hi f bKZ;obtain⟨i,hi⟩:=Option.isSome_iff_exists.1 this;exact TS.of (by rw[hi];simp[Program.cellsOf,hi]) w
  rw[bOR,Ω,Ω,hs];simp only[Ξ,ε];rw[Ω,FF fs _ rfl (fun f hf=>hi f (bKY _ hf)) w];rfl
theorem TP.of{t:Θ}{fs:Array Field}{pl:List (Nat×Nat)}(h:P.underlying t=some (.struct fs))(hp:(fs.toList.map fun f=>(f.offset,P.cellsOf f.type))=pl)(hi:(fs.toList.all fun f=>(P.info? f.type).isSome)=true):TP P t pl:=by
 refine⟨fs,h,fun w=>?_⟩;have hr:=FF (P:=P) fs.toList pl hp (fun f hf=>bLX.1 hi f hf) w;have e:fs=fs.toList.toArray:=rfl;rw[e,List.mapM_toArray,Sem.run_map];simp only[hr,Ξ]
theorem kB{t:Θ}{parts:Array (Nat×Operand)}{us:List (Nat×Γ)}{zs cs:List Γ}{pl:List (Nat×Nat)}(ho:all[ix]?= some ⟨some d,.build t parts,ty,pos,aft,g⟩)(hpl:TP P t pl)(hz:TZ P t (.agg zs.toArray))(hu:GP σ parts.toList=some us)
  (hf:Instr.fill (fun i=>pl[i]?) zs.toArray us=some cs.toArray) (hN:Nat.blt d X.N=true) (hg:dH all σ g) (kk:WL P X bad all K Q os ((d,.agg cs.toArray)::σ) μ Ds):WL P X bad all K Q ((fl,ix)::os) σ μ Ds:=
 bZ ho rfl rfl hN hg (fun ρ hρ w'=>by
  obtain⟨fs,h,hp⟩:=hpl;have e:(parts.map fun(i,x)=>(i,ρ x)).toList=us:=by rw[←yE hρ hu];simp
  have hf':Instr.fill (fun i=>pl.toArray[i]?) zs.toArray us=some cs.toArray:=by simpa using hf
  simp only[execOp,Instr.build,Ω,hz w',Ξ,TU.of h w',hp w',Value.cells,e,hf',ε]) kk
theorem _root_.Go.Fs.Zt{t:Θ}{parts:Array (Nat×Operand)}{us:List (Nat×Γ)}{zs:List Γ}(cs:List Γ){pl:List (Nat×Nat)}(ho:all[ix]?= some ⟨some d,.build t parts,ty,pos,aft,g⟩)(hpl:TP P t pl)(hz:TZ P t (.agg zs.toArray))(e9:(GP σ parts.toList,Instr.fill (fun i=>pl[i]?) zs.toArray us)=(some us,some cs.toArray))(kk:WL P X bad all K Q os ((d,.agg cs.toArray)::σ) μ Ds)(hN:Nat.blt d X.N=true:=by exact rfl)(hg:dH all σ g:=by exact bQK):WL P X bad all K Q ((fl,ix)::os) σ μ Ds:=kB (cs:=cs) ho hpl hz (bLE (fun z=>z.1) e9) (bLE (fun z=>z.2) e9) hN hg kk

inductive QD(sz:Nat):Nat→List (Nat×Γ)→List Γ→Prop
 |nil {k}:QD sz k [] []
 |cons {k v cs r rs} (hv:v.cells=cs.toArray) (hc:cs.length=sz) (h:QD sz (k+1) r rs):QD sz k ((k,v)::r) (cs++rs)
theorem QD.len{sz k:Nat}{r:List (Nat×Γ)}{rs:List Γ}(h:QD sz k r rs):rs.length=r.length*sz:=by
 induction h with
 |nil=>simp
 |cons hv hc h ih=>simp[ih,hc,bNV];omega
theorem IM:∀(cs:List Γ) (j off:Nat) (pre mid post:List Γ),pre.length=off+j→mid.length=cs.length→
  (cs.zipIdx j).foldl (fun(a:Array Γ) (p:Γ×Nat)=>a.setIfInBounds (off+p.2) p.1) (pre++mid++post).toArray=(pre++cs++post).toArray
 | [],j,off,pre,mid,post,h1,h2=>by have:mid=[]:=bOL.1 h2;subst this;rfl
 |c::cs,j,off,pre,[],post,h1,h2=>by simp at h2
 |c::cs,j,off,pre,m::mid,post,h1,h2=>by
  rw[List.zipIdx_cons,bME];have e:(pre++(m::mid)++post).toArray.setIfInBounds (off+j) c=((pre++[c])++mid++post).toArray:=by
   rw[←h1];simp
  rw[e,IM cs (j+1) off (pre++[c]) mid post Yaq Xao];simp
theorem LN{sz:Nat}{k:Nat}{r:List (Nat×Γ)}{rs:List Γ}(h:QD sz k r rs):∀(pre zs:List Γ),pre.length=k*sz→zs.length=rs.length→
  Instr.fill (fun i=>some (i*sz,sz)) (pre++zs).toArray r=some (pre++rs).toArray:=by
 induction h with
 |nil=>intro pre zs h1 h2;have:zs=[]:=bOL.1 h2;subst this;rfl
 | @cons k v cs r rs hv hc h ih=>
  intro pre zs h1 h2;obtain⟨m,post,rfl,hm⟩:∃m post,zs=m++post∧m.length=cs.length:=⟨zs.take cs.length,zs.drop cs.length,Ye,by rw[bMV,h2];simp⟩
  have hpost:post.length=rs.length:=by simp[hm]at h2;omega
  simp only[Instr.fill];rw[bLI]
  ·rw[hv];have hz:(cs.toArray.zipIdx.foldl (fun(a:Array Γ) (p:Γ×Nat)=>a.setIfInBounds (k*sz+p.2) p.1) (pre++m++post).toArray)=(pre++cs++post).toArray:=by
    have:=IM cs 0 (k*sz) pre m post Xae hm;rw[←this,←Array.foldl_toList];simp
   have e:(pre++(m++post)).toArray=(pre++m++post).toArray:=by simp
   rw[e];rw[hz,ih (pre++cs) post (by simp[h1,hc,bNV]) hpost];simp
  ·rw[hv];simp[h1,hc,hm]
theorem OI{t e:Θ}{sz n:Nat}{parts:Array (Nat×Operand)}{us:List (Nat×Γ)}{rs:List Γ}{z0:Γ}(ho:all[ix]?= some ⟨some d,.buildSlice t n parts,ty,pos,aft,g⟩)(ht:P.underlying t=some (.slice e))(hs:TS P e sz)(hz:TZ P e z0)(_hz1:Nat.beq z0.cells.size sz=true)
  (hu:GP σ parts.toList=some us) (hn:us.length=n) (hnz:Nat.ble (n*sz) 4096=true) (hf:QD sz 0 us rs) (hN:Nat.blt d X.N=true) (hg:dH all σ g)
  (kk:∀b D,(∀D₁∈Ds,Le D₁ D)→At D b 0 rs→WL P X bad all K Q os ((d,qS b n n)::σ) μ (D::Ds)):WL P X bad all K Q ((fl,ix)::os) σ μ Ds:=by
 refine fG ho rfl rfl hg fun a w hh=>?_
 obtain⟨h1,h2,h3,D,h4,h5,h6⟩:=id hh;have hnz':n*sz≤4096:=bNJ hnz;have hlen:rs.length=n*sz:=by rw[hf.len,hn]
 have e1:(parts.map fun(i,x)=>(i,a.eval x)).toList=us:=by rw[←yE (fun _ _ hx=>hh.eval hx) hu];simp
 have hrun:(execOp a.eval ⟨some d,.buildSlice t n parts,ty,pos,aft,g⟩).run P w=.ok (.value (.slice (some ⟨w.heap.size,0,none⟩) n n)) {w with heap:=w.heap.push (.cells rs.toArray e (0,0))}:=by
  simp only[execOp,Instr.buildSlice,Ω,TU.of ht w,Ξ,hs w];rw[bLI Yd];simp only[pure_bind];have key:∀zc:Array Γ,Instr.fill (fun i=>some (i*sz,sz)) ((Array.range (n*sz)).map (zc[· %zc.size]!)) us=some rs.toArray:=by
   intro zc;have:=LN hf [] ((Array.range (n*sz)).map (zc[· %zc.size]!)).toList Ye (by simp[hlen]);rw[bMH,bMH]at this;exact this
  split
  ·simp only[Ω,ε,Ξ,e1,key,kO]
  ·simp only[Ω,ε,Ξ,hz w,e1,key,kO]
 rw[hrun];obtain⟨D',hle,hD',hDo,hs'⟩:=h4.pushD rs e;refine⟨fun _=>pV _ _ _,kk w.heap.size D' (fun D₁ hD₁=>(h5 D₁ hD₁).trans hle) (fun j v hj=>by rw[hD'];simpa using hj) _ _ (Hl.put ⟨h1,h2,h3,D',hs',fun D₁ hD₁=>?_,h6.step (fun _ p hp=>bLL (bKX.2 ⟨p,hp,rfl⟩)) (fun _=>⟨Ye,fun b hb _=>⟨dR hb,hDo b Yd⟩,rfl⟩) hs'.dom⟩ hN _)⟩
 rcases bNA.1 hD₁ with rfl|hD₁
 ·exact Le.refl _
 ·exact(h5 D₁ hD₁).trans hle
theorem _root_.Go.Fs.Zu{t:Θ}{e:Θ}{sz:Nat}{n:Nat}{parts:Array (Nat×Operand)}{us:List (Nat×Γ)}{rs:List Γ}{z0:Γ}(ho:all[ix]?= some ⟨some d,.buildSlice t n parts,ty,pos,aft,g⟩)(ht:P.underlying t=some (.slice e))(hs:TS P e sz)(hz:TZ P e z0)(e9:(Nat.beq z0.cells.size sz,GP σ parts.toList,us.length,Nat.ble (n*sz) 4096)=(true,some us,n,true))(hf:QD sz 0 us rs)(kk:∀b D,(∀D₁∈Ds,Le D₁ D)→At D b 0 rs→WL P X bad all K Q os ((d,qS b n n)::σ) μ (D::Ds))(hN:Nat.blt d X.N=true:=by exact rfl)(hg:dH all σ g:=by exact bQK):WL P X bad all K Q ((fl,ix)::os) σ μ Ds:=OI ho ht hs hz (bLE (fun z=>z.1) e9) (bLE (fun z=>z.2.1) e9) (bLE (fun z=>z.2.2.1) e9) (bLE (fun z=>z.2.2.2) e9) hf hN hg kk
theorem Sl.of_at{α:Type}{R:Rd α}{D:aC}{sz b n cap:Nat}{xs:List α}{rs:List Γ}(hA:At D b 0 rs)(hn:xs.length=n)(hc:n≤cap)(hb:n≤9223372036854775807)(h:∀i x,xs[i]?= some x→∃cs,R D x cs∧cs.length=sz∧(rs.drop (i*sz)).take sz=cs):Sl D R sz (qS b n cap) xs:=by
 subst hn;refine⟨_,cap,rfl,hc,hb,bLG ⟨b,0,rfl,fun i x hx=>?_⟩⟩;obtain⟨cs,hr,hl,hcs⟩:=h i x hx;refine⟨cs,hr,hl,fun j v hj=>?_⟩;have hlt:=(bLD.1 hj).1;rw[←hcs,bOD Yd,bNS]at hj;have:=hA _ _ hj;simpa [Nat.add_assoc]using this
theorem Sl.ofInts{D:aC}{b cap:Nat}{l:List Int}{n:Nat}(hA:At D b 0 (ints l))(hn:l.length=n)(hc:n≤cap)(hb:n≤9223372036854775807):Sl D RI 1 (qS b n cap) l:=
 Sl.of_at hA hn hc hb fun i x hx=>⟨[qI x],rfl,rfl,by
  have h:=cN hx;have hl:=(bLD.1 h).1;rw[bNL,bMM hl];rw[bLB hl]at h;simp[bLY h]⟩
theorem YC{f:FuncId}{xs ys:Array Operand}{vs us:List Γ}(ho:all[ix]?= some ⟨some d,.makeFunc (.func f) xs ys,ty,pos,aft,g⟩)(hx:x5 σ xs.toList=some vs)(hy:x5 σ ys.toList=some us)(hN:Nat.blt d X.N=true)(hg:dH all σ g)
  (kk:WL P X bad all K Q os ((d,.func (.func f) vs.toArray us.toArray)::σ) μ Ds):WL P X bad all K Q ((fl,ix)::os) σ μ Ds:=
 bZ ho rfl rfl hN hg (fun ρ hρ w'=>by
  have e1:xs.map ρ=vs.toArray:=by rw[←mD hρ hx,←bPW]
  have e2:ys.map ρ=us.toArray:=by rw[←mD hρ hy,←bPW]
  simp only[execOp,Instr.makeFunc,e1,e2,pure_bind,ε]) kk
theorem _root_.Go.Fs.Za0{f:FuncId}{xs:Array Operand}{ys:Array Operand}{vs:List Γ}{us:List Γ}(e9:(all[ix]?,x5 σ xs.toList,x5 σ ys.toList)=(some ⟨some d,.makeFunc (.func f) xs ys,ty,pos,aft,g⟩,some vs,some us))(kk:WL P X bad all K Q os ((d,.func (.func f) vs.toArray us.toArray)::σ) μ Ds)(hN:Nat.blt d X.N=true:=by exact rfl)(hg:dH all σ g:=by exact bQK):WL P X bad all K Q ((fl,ix)::os) σ μ Ds:=YC (bLE (fun z=>z.1) e9) (bLE (fun z=>z.2.1) e9) (bLE (fun z=>z.2.2) e9) hN hg kk
theorem tO{e:Θ}{vs:List Γ}(ho:all[ix]?= some ⟨some d,.box e x,ty,pos,aft,g⟩)(hx:ev σ x=some v)(hv:v.cells=vs.toArray)(hN:Nat.blt d X.N=true)(hg:dH all σ g)
  (kk:∀b D,(∀D₁∈Ds,Le D₁ D)→At D b 0 vs→WL P X bad all K Q os ((d,qP b)::σ) μ (D::Ds)):WL P X bad all K Q ((fl,ix)::os) σ μ Ds:=by
 refine fG ho rfl rfl hg fun a w hh=>?_
 obtain⟨h1,h2,h3,D,h4,h5,h6⟩:=id hh;have:(execOp a.eval ⟨some d,.box e x,ty,pos,aft,g⟩).run P w=.ok (.value (.pointer (some ⟨w.heap.size,0,none⟩))) {w with heap:=w.heap.push (.cells vs.toArray e (0,0))}:=by
  simp only[execOp,hh.eval hx,Instr.box,newVar,hv,Ω,kO,Ξ,ε]
 rw[this];obtain⟨D',hle,hD',hDo,hs'⟩:=h4.pushD vs e;refine⟨fun _=>pV _ _ _,kk w.heap.size D' (fun D₁ hD₁=>(h5 D₁ hD₁).trans hle) (fun j v hj=>by rw[hD'];simpa using hj) _ _ (Hl.put ⟨h1,h2,h3,D',hs',fun D₁ hD₁=>?_,h6.step (fun _ p hp=>bLL (bKX.2 ⟨p,hp,rfl⟩)) (fun _=>⟨Ye,fun b hb _=>⟨dR hb,hDo b Yd⟩,rfl⟩) hs'.dom⟩ hN _)⟩
 rcases bNA.1 hD₁ with rfl|hD₁
 ·exact Le.refl _
 ·exact(h5 D₁ hD₁).trans hle
theorem _root_.Go.Fs.Zab{e:Θ}{vs:List Γ}(e9:(all[ix]?,ev σ x,v.cells)=(some ⟨some d,.box e x,ty,pos,aft,g⟩,some v,vs.toArray))(kk:∀b D,(∀D₁∈Ds,Le D₁ D)→At D b 0 vs→WL P X bad all K Q os ((d,qP b)::σ) μ (D::Ds))(hN:Nat.blt d X.N=true:=by exact rfl)(hg:dH all σ g:=by exact bQK):WL P X bad all K Q ((fl,ix)::os) σ μ Ds:=tO (bLE (fun z=>z.1) e9) (bLE (fun z=>z.2.1) e9) (bLE (fun z=>z.2.2) e9) hN hg kk
def dE{α:Type}(P:Program)(D:aC)(val:α→Γ)(fv:Γ)(p:α→Bool):Prop:=
 ∃f c1 c2,fv=.func (.func f) (List.toArray c1) (List.toArray c2)∧∀x D',Le D D'→Fn P f (c1++[val x]++c2).toArray D' fun _ v=>v=.bool (p x)
theorem dE.up{α:Type}{D D':aC}{val:α→Γ}{fv:Γ}{p:α→Bool}(h:dE P D val fv p)(hl:Le D D'):dE P D' val fv p:=by
 obtain⟨f,c1,c2,h1,h2⟩:=h;exact⟨f,c1,c2,h1,fun x D'' hl'=>h2 x D'' (hl.trans hl')⟩
theorem dE.of{α:Type}{D:aC}{val:α→Γ}{f:FuncId}{p:α→Bool}(h:∀x D',Fn P f #[val x] D' fun _ v=>v=.bool (p x)):dE P D val (.func (.func f) #[] #[]) p:=
 ⟨f,[],[],rfl,fun x D' _=>h x D'⟩
def bD(e:Θ)(sz:Nat)(v:Γ)(n:Nat)(cells:List Γ)(ν:aD):Prop:=
 (∃a,v=.slice a 0 0∧n=0∧cells=[]∧ν=[])∨
 (∃b cap junk,v=qS b n cap∧n≤cap∧ν=[(b,.cells (cells++junk).toArray e (0,0))]∧cells.length=n*sz∧(cells++junk).length=cap*sz)
theorem bD.nil{e:Θ}{sz:Nat}{a:Option Addr}:bD e sz (.slice a 0 0) 0 [] []:=bLL ⟨a,rfl,rfl,rfl,rfl⟩
theorem oO{w:Δ}{b o:Nat}{vs:List Γ}{n:Nat}(hn:vs.length=n)(h:aMU w b o vs):(loadCells ⟨b,o,none⟩ n).run P w=.ok vs.toArray w:=by
 unfold loadCells;rw[wG n 0 #[] vs hn (fun j v hj=>by rw[show o+(0+j)=o+j by omega];exact h j v hj)]
 simp
def iL(D:aC)(x:Γ)(m:Nat)(xs:List Γ):Prop:=(∃a c,x=.slice a 0 c∧m=0∧xs=[])∨(∃b o c,x=.slice (some ⟨b,o,none⟩) m c∧At D b o xs)
theorem G9{D:aC}{w:Δ}{x:Γ}{m sz:Nat}{xs:List Γ}(h:iL D x m xs)(hl:xs.length=m*sz)(hw:∀b o,At D b o xs→aMU w b o xs):(Builtin.firstCells sz m x).run P w=.ok xs.toArray w:=by
 rcases h with⟨a,c,rfl,rfl,rfl⟩|⟨b,o,c,rfl,hA⟩
 ·cases a with
  |none=>rfl
  |some a=>simp[Builtin.firstCells,loadCells,loadCellsFrom]
 ·simp only[Builtin.firstCells];exact oO hl (hw b o hA)
theorem MC{D:aC}{w:Δ}{x:Γ}{m:Nat}{xs:List Γ}(h:iL D x m xs):(Builtin.lenOf x).run P w=.ok m w:=by
 rcases h with⟨a,c,rfl,rfl,rfl⟩|⟨b,o,c,rfl,hA⟩<;>rfl
theorem XI{need cap:Nat}(h:cap<need):Builtin.nextslicecap need cap≤2*need+768:=by
 unfold Builtin.nextslicecap;split
 ·omega
 ·split
  ·omega
  ·have key:∀(r c:Nat),c<need+need / 4+400→Builtin.growBy need r c≤2*need+768:=by
    intro r;induction r with
    |zero=>intro c hc;simp only[Builtin.growBy];omega
    |succ r ih=>
     intro c hc;simp only[Builtin.growBy];split
     ·omega
     ·exact ih _ Yd
   exact key _ _ Yd
theorem BC{w:Δ}{n:Nat}:(askRoom n).run P w=.ok () w:=by unfold askRoom;split<;>rfl
theorem K7(z:Array Γ)(n:Nat):(Builtin.zeroCells z n).size=n*z.size:=by simp[Builtin.zeroCells]
section run
variable{t t1 e tr:Θ}{sz:Nat}{z0:Γ}{i0:TypeInfo}{ats:Array Θ}
theorem rY(ht:P.underlying t=some (.slice e))(hat:ats[0]?= some t)(I:ats[1]?= some t1)(hk:P.underlying t1=some .string∨t1=t)(hs:TS P e sz){w:Δ}{a:Option Addr}{n cap m:Nat}{xv:Γ}{xs:List Γ}
  (hm:(Builtin.lenOf xv).run P w=.ok m w) (hx:(Builtin.firstCells sz m xv).run P w=.ok xs.toArray w) (hle:n+m≤cap) {w':Δ}
  (hst:(match a with|some a=>storeCells (a.add (n*sz)) xs|none=>pure ():Sem Unit).run P w=.ok () w'):
  (Builtin.append_ ats tr #[.slice a n cap,xv]).run P w=.ok (.slice a (n+m) cap) w':=by
 have R:(#[Value.slice a n cap,xv]:Array Γ)[0]?= some (.slice a n cap):=rfl;have U:(#[Value.slice a n cap,xv]:Array Γ)[1]?= some xv:=rfl;obtain⟨dd,O,hdd⟩:∃dd,P.underlying t1=some dd∧(dd=.string∨dd=.slice e):=by
  rcases hk with hk|rfl
  ·exact⟨_,hk,bLL rfl⟩
  ·exact⟨_,ht,bLG rfl⟩
 unfold Builtin.append_;rcases hdd with rfl|rfl;all_goals
  simp only[hat,I,R,U,Ω,TU.of ht w,TU.of O w,Ξ,hs w,ε,bMU,bNU,hm,Bool.not_false,bNM,hle,hx];cases a with
  |none=>
   have:w'=w:=by
    have h:(pure ():Sem Unit).run P w=.ok () w':=hst;rw[ε]at h;cases h;rfl
   subst this;rfl
  |some a=>
   have h:(storeCells (a.add (n*sz)) xs).run P w=.ok () w':=hst;simp only[Ω,h,Ξ,ε]
theorem wN(ht:P.underlying t=some (.slice e))(hat:ats[0]?= some t)(I:ats[1]?= some t1)(hk:P.underlying t1=some .string∨t1=t)(hs:TS P e sz)(hz:TZ P e z0)(hi:P.info? e=some i0){w:Δ}{a:Option Addr}{n cap m:Nat}{xv:Γ}{old xs:List Γ}
  (hm:(Builtin.lenOf xv).run P w=.ok m w) (hx:∀w',w'.heap=w.heap→(Builtin.firstCells sz m xv).run P w'=.ok xs.toArray w') (ho:∀w',w'.heap=w.heap→(Builtin.firstCells sz n (.slice a n cap)).run P w'=.ok old.toArray w')
  (hgt:cap<n+m) (hlen:n+m≤10000000) (hb:1≤i0.bytes∧i0.bytes≤4096):
  ∃c,n+m≤c∧c≤9223372036854775807∧(Builtin.append_ ats tr #[.slice a n cap,xv]).run P w=.ok (.slice (some ⟨w.heap.size,0,none⟩) (n+m) c)
   {w with drawn:=w.drawn+1,heap:=w.heap.push (.cells (old.toArray++xs.toArray++Builtin.zeroCells z0.cells (c-(n+m))) e (0,0))}:=by
 have R:(#[Value.slice a n cap,xv]:Array Γ)[0]?= some (.slice a n cap):=rfl;have U:(#[Value.slice a n cap,xv]:Array Γ)[1]?= some xv:=rfl;have hti:∀w,(typeInfo e).run P w=.ok i0 w:=fun w=>by simp[typeInfo,program,Sem.run,hi,go_sem]
 have hcapn:=XI hgt;have hbig:¬Builtin.nextslicecap (n+m) cap*i0.bytes>2^48:=by
  have:Builtin.nextslicecap (n+m) cap*i0.bytes≤(2*(n+m)+768)*4096:=bPS hcapn hb.2;omega
 have hch:(choose (.appendCap (n+m) cap e)).run P w=.ok ((n+m)+(w.tape w.drawn (.appendCap (n+m) cap e))%(2^63-(n+m))) {w with drawn:=w.drawn+1}:=by
  simp[choose,Sem.run,Question.forced,Question.cut]
 refine⟨(n+m)+(w.tape w.drawn (.appendCap (n+m) cap e))%(2^63-(n+m)),Nat.le_add_right _ _,by have:=Nat.mod_lt (w.tape w.drawn (.appendCap (n+m) cap e)) (show 0<2^63-(n+m) by omega);omega,?_⟩;obtain⟨dd,O,hdd⟩:∃dd,P.underlying t1=some dd∧(dd=.string∨dd=.slice e):=by
  rcases hk with hk|rfl
  ·exact⟨_,hk,bLL rfl⟩
  ·exact⟨_,ht,bLG rfl⟩
 unfold Builtin.append_;have hnot:¬(n+m≤cap):=by omega
 have hmax:¬(((n+m:Nat):Int)>IntKind.i64.max∧(false=true∨i0.bytes=0)):=by
  rintro⟨_,h|h⟩
  ·cases h
  ·omega
 rcases hdd with rfl|rfl;all_goals
  simp only[hat,I,R,U,Ω,TU.of ht w,TU.of O w,Ξ,hs w,ε,bMU,bNU,hm,Bool.not_false,bNM,hnot,hti];rw[bLI (by rintro⟨_,h|h⟩;exact h.elim;omega)]
  simp only[Ω,Ξ,hti];rw[bLI hbig];have hzz:∀w,(zeroValue e).run P w=.ok z0 w:=hz;simp only[Ω,ε,Ξ,hti,hch,BC,hzz,ho {w with drawn:=w.drawn+1} rfl,hx {w with drawn:=w.drawn+1} rfl,kO]
theorem E9(ht:P.underlying t=some (.slice e))(hat:ats[0]?= some t)(I:ats[1]?= some t)(hs:TS P e sz){w:Δ}{a:Option Addr}{n cap m:Nat}{xv:Γ}{xs:List Γ}
  (hm:(Builtin.lenOf xv).run P w=.ok m w) (hx:(Builtin.firstCells sz m xv).run P w=.ok xs.toArray w) (hle:n+m≤cap) {w':Δ}
  (hst:(match a with|some a=>storeCells (a.add (n*sz)) xs|none=>pure ():Sem Unit).run P w=.ok () w'):
  (Builtin.append_ ats tr #[.slice a n cap,xv]).run P w=.ok (.slice a (n+m) cap) w':=rY ht hat I (bLG rfl) hs hm hx hle hst
theorem x3(ht:P.underlying t=some (.slice e))(hat:ats[0]?= some t)(I:ats[1]?= some t)(hs:TS P e sz)(hz:TZ P e z0)(hi:P.info? e=some i0){w:Δ}{a:Option Addr}{n cap m:Nat}{xv:Γ}{old xs:List Γ}
  (hm:(Builtin.lenOf xv).run P w=.ok m w) (hx:∀w',w'.heap=w.heap→(Builtin.firstCells sz m xv).run P w'=.ok xs.toArray w') (ho:∀w',w'.heap=w.heap→(Builtin.firstCells sz n (.slice a n cap)).run P w'=.ok old.toArray w')
  (hgt:cap<n+m) (hlen:n+m≤10000000) (hb:1≤i0.bytes∧i0.bytes≤4096):
  ∃c,n+m≤c∧(Builtin.append_ ats tr #[.slice a n cap,xv]).run P w=.ok (.slice (some ⟨w.heap.size,0,none⟩) (n+m) c)
   {w with drawn:=w.drawn+1,heap:=w.heap.push (.cells (old.toArray++xs.toArray++Builtin.zeroCells z0.cells (c-(n+m))) e (0,0))}:=by
 obtain⟨c,h1, -,h2⟩:=wN (tr:=tr) ht hat I (bLG rfl) hs hz hi hm hx ho hgt hlen hb;exact⟨c,h1,h2⟩
end run
def VE(v:Γ):Prop:=∀a n c,v=.slice a n c→c≤9223372036854775807
theorem CL{a:Option Addr}{n c:Nat}(h:c≤9223372036854775807):VE (.slice a n c):=fun _ _ _ e=>by cases e;exact h
theorem DQ{A B ν:aD}{t t1 e tr:Θ}{sz n m:Nat}{cells xs:List Γ}{xv:Γ}{z0:Γ}{ats:Array Θ}
  (ho:all[ix]?= some ⟨some d,.call {callee:=.builtin .append,args:=#[x,y],argTypes:=ats},tr,pos,aft,g⟩) (ht:P.underlying t=some (.slice e)) (hat:ats[0]?= some t) (I:ats[1]?= some t1) (hk:P.underlying t1=some .string∨t1=t)
  (hs:TS P e sz) (hz:TZ P e z0) (V:Nat.beq z0.cells.size sz=true) (hi:(P.info? e).map (fun i=>Nat.ble 1 i.bytes&&Nat.ble i.bytes 4096)=some true) (O:Nat.ble 1 sz=true)
  (hx:ev σ x=some v) (hy:ev σ y=some xv) (hacc:bD e sz v n cells ν) (hsrc:∀a w,Hl X σ (A++ν++B) Ds a w→(Builtin.lenOf xv).run P w=.ok m w∧∀w',w'.heap=w.heap→(Builtin.firstCells sz m xv).run P w'=.ok xs.toArray w') (hxl:xs.length=m*sz) (hcl:cells.length=n*sz) (hx1:∀u∈xs,cell1 u=true) (hlen:n+m≤10000000)
  (hfl:fl=false∨∀p∈ν,p.1∈bad)
  (hN:Nat.blt d X.N=true) (hg:dH all σ g)
  (kk:∀v' ν',bD e sz v' (n+m) (cells++xs) ν'→(VE v→VE v')→WL P X bad all K Q os ((d,v')::σ) (A++ν'++B) Ds):WL P X bad all K Q ((fl,ix)::os) σ (A++ν++B) Ds:=by
 refine fG ho rfl rfl hg fun a w hh=>?_
 obtain⟨h1,h2,h3,D,h4,h5,h6⟩:=id hh;obtain⟨i0,hi,Y,Z⟩:∃i0,P.info? e=some i0∧1≤i0.bytes∧i0.bytes≤4096:=by
  cases h:P.info? e with
  |none=>simp[h]at hi
  |some i=>simp[h]at hi;exact⟨i,rfl,hi⟩
 have hsz:1≤sz:=bNJ O;have hz1':=bMW V;have hex:(execOp a.eval ⟨some d,.call {callee:=.builtin .append,args:=#[x,y],argTypes:=ats},tr,pos,aft,g⟩).run P w=
   ((Builtin.append_ ats tr #[v,xv]).run P w).andThen fun r w'=>.ok (.value r) w':=by
  simp only[execOp,resolve,pure_bind,invoke,builtin];have e1:(#[x,y].map a.eval)=#[v,xv]:=by simp[hh.eval hx,hh.eval hy]
  rw[e1,Ω];simp only[ε]
 rw[hex];obtain⟨hm,hfc⟩:=hsrc a w hh;have grow:∀(old:Option Addr) (cap:Nat),v=.slice old n cap→cap<n+m→(∀w',w'.heap=w.heap→(Builtin.firstCells sz n (.slice old n cap)).run P w'=.ok cells.toArray w')→
   Oper.uponIn (FW X.r) 0 P ⟨some d,.call {callee:=.builtin .append,args:=#[x,y],argTypes:=ats},tr,pos,aft,g⟩ a (fun a' w'=>(fl=true→qA bad w w')∧vQ X.r bad P all K Q (jF all os) a' w') Q
    (((Builtin.append_ ats tr #[v,xv]).run P w).andThen fun r w'=>.ok (.value r) w'):=by
  intro old cap hv hgt hold;obtain⟨c,hc,hcB,hrun⟩:=wN (tr:=tr) ht hat I hk hs hz hi hm hfc hold hgt hlen ⟨Y,Z⟩;rw[hv,hrun];obtain⟨junk,hjunk⟩:∃junk:List Γ,cells.toArray++xs.toArray++Builtin.zeroCells z0.cells (c-(n+m))=(cells++xs++junk).toArray∧(cells++xs++junk).length=c*sz:=by
   refine⟨(Builtin.zeroCells z0.cells (c-(n+m))).toList,Ye,?_⟩;have:=K7 z0.cells (c-(n+m));simp only[GE,Array.length_toList,this,hz1',hcl,hxl];rw[←bNV,←bNV];congr 1;omega
  have hpush:=h4.push (.cells (cells++xs++junk).toArray e (0,0)) rfl;simp only[Ξ];rw[hjunk.1];refine⟨fun _=>⟨Ye,fun b hb _=>dR hb⟩,?_⟩;have hst:jE X.h0 X.lo X.D0 X.mods (A++[(w.heap.size,.cells (cells++xs++junk).toArray e (0,0))]++B) D {w with drawn:=w.drawn+1,heap:=w.heap.push (.cells (cells++xs++junk).toArray e (0,0))}:=by
   have h:=hpush.sub (μ':=A++[(w.heap.size,.cells (cells++xs++junk).toArray e (0,0))]++B) (fun p hp=>by
    simp only[bLM,bNA]at hp ⊢
    rcases hp with(hp|hp)|hp
    ·exact bLG (bLL (bLL hp))
    ·exact bLL (hp.resolve_right Ye)
    ·exact bLG (bLG hp)) (by
    have hn:=hpush.nd;simp only[bMD,bLO,bMX,bLM,bQE]at hn;obtain⟨⟨⟨ha,_⟩,hb⟩,hn⟩:=hn;rw[bLJ,bLJ]at hn;simp only[bLO,bMD,bPK];rw[bLJ,bLJ];refine⟨⟨hn.1.1,Ye,fun q hq r hr=>?_⟩,hn.2.1,fun q hq r hr=>?_⟩
    ·simp only[bLS]at hr;rintro rfl;exact ha (hr▸hq)
    ·simp only[bLM,bLS]at hq;rcases hq with hq|hq
     ·exact hn.2.2 q (bLH _ hq) r hr
     ·rintro rfl;exact hb (hq▸hr))
   exact⟨h.hlo,h.size,h.old,h.dold,h.agr,h.box,h.nd,h.fz,h.env⟩
  exact kk _ _ (bLG ⟨_,c,junk,rfl,hc,rfl,by simp[hcl,hxl,bNV],hjunk.2⟩) (fun _=>CL hcB) _ _ (Hl.put ⟨h1,h2,h3,D,hst,h5,h6.step (fun _ p hp=>by
   rcases bLM.1 hp with hp|hp
   ·rcases bLM.1 hp with hp|hp
    ·exact bLL (bKX.2 ⟨p,bLH _ (bLH _ hp),rfl⟩)
    ·exact bLG (by rw[bLS.1 hp];exact bLQ _)
   ·exact bLL (bKX.2 ⟨p,LE _ hp,rfl⟩)) (fun _=>⟨Ye,fun b hb _=>⟨dR hb,rfl⟩,rfl⟩) hst.dom⟩ hN _)
 rcases hacc with⟨old,hv,hn,hc,hν⟩|⟨b,cap,junk,hv,hncap,hν,hl1,R⟩
 ·subst hn;subst hc;subst hν
  by_cases h0:m=0
  ·subst h0;have hxs:xs=[]:=bOL.1 (by simpa using hxl);subst hxs;rw[hv,rY (tr:=tr) (w':=w) ht hat I hk hs hm (hfc w rfl) (bLQ _) (by cases old<;>rfl)]
   refine⟨fun _=>qA.refl _ _,kk _ [] (bLL ⟨old,rfl,rfl,rfl,rfl⟩) (fun _=>CL Yt) _ _ (Hl.put hh hN _)⟩
  ·refine grow old 0 hv Yd fun w' _=>?_
   cases old with
   |none=>rfl
   |some a=>simp[Builtin.firstCells,loadCells,loadCellsFrom]
 ·subst hν;have hbx:=(h4.box (b,.cells (cells++junk).toArray e (0,0)) Ye).1;by_cases hfit:n+m≤cap
  ·have hjl:xs.length≤junk.length:=by
    have h1:(n+m)*sz≤cap*sz:=bPJ sz hfit;rw[←R,bNV,GE,hcl]at h1;omega
   have U:n*sz+0+xs.length≤(cells++junk).length:=by rw[GE,hcl];omega
   obtain⟨w',hr,hw'⟩:=lG (P:=P) xs 0 w b (n*sz) (cells++junk) e hbx U hx1;have htk:(cells++junk).take (n*sz+0)++xs++(cells++junk).drop (n*sz+0+xs.length)=cells++xs++junk.drop xs.length:=by
    rw[←hcl,Nat.add_zero,bPY,bPH,bMQ Yd];simp
   rw[htk]at hw';rw[hv,rY (tr:=tr) (w':=w') ht hat I hk hs hm (hfc w rfl) hfit (by
    show(storeCells ((⟨b,0,none⟩:Addr).add (n*sz)) xs).run P w=_;rw[iI,bOH];exact hr)]
   have hHas:bO (A++[(b,.cells (cells++junk).toArray e (0,0))]++B) b (.cells (cells++junk).toArray e (0,0)) (.cells (cells++xs++junk.drop xs.length).toArray e (0,0)) (A++[(b,.cells (cells++xs++junk.drop xs.length).toArray e (0,0))]++B):=by
    rw[bLK A,bLK A];exact .app .head
   have hst:=h4.set hHas hw' rfl;refine⟨fun hf=>⟨Xay,fun c hc hcb=>?_⟩,kk _ _ (bLG ⟨b,cap,junk.drop xs.length,rfl,hfit,rfl,by simp[hcl,hxl,bNV],?_⟩) (fun hB=>CL (hB _ _ _ hv)) _ _ (Hl.put ⟨h1,h2,h3,D,hst,h5,h6.step (fun _ p hp=>bLL Ys) (fun _=>lX hw' (bKX.2 ⟨_,hHas.mem,rfl⟩)) hst.dom⟩ hN _)⟩
   ·have hb:b∈bad:=by
     rcases hfl with h|h
     ·rw[hf]at h;cases h
     ·exact h _ (bLS.2 rfl)
    rw[hw'.1,bNZ (by rintro rfl;exact hcb hb)]
   ·rw[←R];simp;omega
  ·refine grow _ cap hv Yd fun w' hw'=>?_
   simp only[Builtin.firstCells];refine oO hcl fun j u hj=>sQ (cs:=(cells++junk).toArray) (by rw[hw'];exact hbx) ?_
   have:=(bLD.1 hj).1;simp only[List.getElem?_toArray,bOH];rw[bNP this];exact hj
theorem aHC{A B ν:aD}{t e tr:Θ}{sz n m:Nat}{cells xs:List Γ}{xv:Γ}{z0:Γ}{ats:Array Θ}
  (ho:all[ix]?= some ⟨some d,.call {callee:=.builtin .append,args:=#[x,y],argTypes:=ats},tr,pos,aft,g⟩) (ht:P.underlying t=some (.slice e)) (hat:ats[0]?= some t) (I:ats[1]?= some t)
  (hs:TS P e sz) (hz:TZ P e z0) (R:Nat.beq z0.cells.size sz=true) (hi:(P.info? e).map (fun i=>Nat.ble 1 i.bytes&&Nat.ble i.bytes 4096)=some true) (O:Nat.ble 1 sz=true)
  (hx:ev σ x=some v) (hy:ev σ y=some xv) (hacc:bD e sz v n cells ν) (hsrc:∀a w,Hl X σ (A++ν++B) Ds a w→(Builtin.lenOf xv).run P w=.ok m w∧∀w',w'.heap=w.heap→(Builtin.firstCells sz m xv).run P w'=.ok xs.toArray w') (hxl:xs.length=m*sz) (hcl:cells.length=n*sz) (hx1:∀u∈xs,cell1 u=true) (hlen:n+m≤10000000)
  (hfl:fl=false∨∀p∈ν,p.1∈bad)
  (hN:Nat.blt d X.N=true) (hg:dH all σ g)
  (kk:∀v' ν',bD e sz v' (n+m) (cells++xs) ν'→WL P X bad all K Q os ((d,v')::σ) (A++ν'++B) Ds):WL P X bad all K Q ((fl,ix)::os) σ (A++ν++B) Ds:=
 DQ ho ht hat I (bLG rfl) hs hz R hi O hx hy hacc hsrc hxl hcl hx1 hlen hfl hN hg fun v' ν' h _=>kk v' ν' h

theorem jE.freeze{h0:H0}{lo:Nat}{D0 D:aC}{mods:List Nat}{A B:aD}{w:Δ}{b:Nat}{cells junk:List Γ}{e:Θ}(h:jE h0 lo D0 mods (A++[(b,.cells (cells++junk).toArray e (0,0))]++B) D w)(hb:lo≤b):
  ∃D',Le D D'∧D' b=cells∧(∀c,c≠b→D' c=D c)∧jE h0 lo D0 mods (A++B) D' w:=by
 have hx:=h.box (b,.cells (cells++junk).toArray e (0,0)) Ye;have hnd:b∉(A++B).map (·.1):=by
  have hn:=h.nd;simp only[bLO,bMD,bPK]at hn ⊢
  rw[bLJ,bLJ]at hn;simp only[bLM,bQE];exact⟨fun hm=>hn.1.2.2 b hm b Ye rfl,fun hm=>hn.2.2 b Ye b hm rfl⟩
 have hlo:=h.hlo;refine⟨fun c=>if c=b then cells else D c,⟨fun c=>?_,by simp only[Ne.symm (h.agr.ne0 hx.2.1),bNU]⟩,Ye,(fun c hc=>by simp[hc]),h.hlo,h.size,h.old,fun c hc=>?_,h.agr.of (fun c hc=>?_) (by simp only[Ne.symm (h.agr.ne0 hx.2.1),bNU]) rfl,fun p hp=>?_,?_,(fun p hp=>h.fz p (by rcases bLM.1 hp with hp|hp<;>simp[hp])),h.env⟩
 ·by_cases hcb:c=b
  ·subst hcb;rw[hx.2.1];exact bQB
  ·simp[hcb]
 ·have:c≠b:=by omega
  simp only[this,bNU];exact h.dold c hc
 ·by_cases hcb:c=b
  ·subst hcb;exact⟨_,e,_,hx.1,Ye⟩
  ·simp only[hcb,bNU]at hc ⊢;exact h.agr.1 c hc
 ·have hp':p∈A++[(b,Obj.cells (cells++junk).toArray e (0,0))]++B:=by
   rcases bLM.1 hp with hp|hp
   ·exact bLH _ (bLH _ hp)
   ·exact LE _ hp
  obtain⟨h1,h2,h3⟩:=h.box p hp';have:p.1≠b:=by rintro rfl;exact hnd (bKX.2 ⟨p,hp,rfl⟩)
  exact⟨h1,by simp only[this,bNU];exact h2,h3⟩
 ·have hn:=h.nd;simp only[bLO,bMD,bPK]at hn ⊢
  rw[bLJ,bLJ]at hn;rw[bLJ];exact⟨hn.1.1,hn.2.1,fun q hq r hr=>hn.2.2 q (bLH _ hq) r hr⟩
theorem aR{A B ν:aD}{D₁:aC}{t e tr:Θ}{sz n m:Nat}{cells xs:List Γ}{xv:Γ}{z0:Γ}{ats:Array Θ}
  (ho:all[ix]?= some ⟨some d,.call {callee:=.builtin .append,args:=#[x,y],argTypes:=ats},tr,pos,aft,g⟩) (ht:P.underlying t=some (.slice e)) (hat:ats[0]?= some t) (I:ats[1]?= some t)
  (hs:TS P e sz) (hz:TZ P e z0) (R:Nat.beq z0.cells.size sz=true) (hi:(P.info? e).map (fun i=>Nat.ble 1 i.bytes&&Nat.ble i.bytes 4096)=some true) (O:Nat.ble 1 sz=true)
  (hx:ev σ x=some v) (hy:ev σ y=some xv) (hacc:bD e sz v n cells ν) (hsrc:iL D₁ xv m xs) (hD:D₁∈Ds) (hxl:xs.length=m*sz) (hcl:cells.length=n*sz) (hx1:∀u∈xs,cell1 u=true) (hlen:n+m≤10000000)
  (hfl:fl=false∨∀p∈ν,p.1∈bad)
  (hN:Nat.blt d X.N=true) (hg:dH all σ g)
  (kk:∀v' ν',bD e sz v' (n+m) (cells++xs) ν'→WL P X bad all K Q os ((d,v')::σ) (A++ν'++B) Ds):WL P X bad all K Q ((fl,ix)::os) σ (A++ν++B) Ds:=by
 refine aHC ho ht hat I hs hz R hi O hx hy hacc (fun a w hh=>?_) hxl hcl hx1 hlen hfl hN hg kk;obtain⟨h1,h2,h3,D,h4,h5,U⟩:=id hh;refine⟨MC hsrc,fun w' hw'=>G9 hsrc hxl fun b o hA j u hj=>?_⟩;have:=h4.agr.cell ((h5 D₁ hD).get (hA j u hj));unfold World.cell? at this ⊢
 rw[hw'];exact this
def kN(D:aC)(v:Γ)(n:Nat)(cells:List Γ):Prop:=(∃a,v=.slice a 0 0∧n=0∧cells=[])∨(∃b cap,v=qS b n cap∧n≤cap∧At D b 0 cells)
theorem Hl.freeze{A B ν:aD}{e sz n:Nat}{cells:List Γ}{a:Act}{w:Δ}(hacc:bD e sz v n cells ν)(hmods:X.mods=[])(hh:Hl X σ (A++ν++B) Ds a w):
  ∃D',(∀D₁∈Ds,Le D₁ D')∧kN D' v n cells∧Hl X σ (A++B) (D'::Ds) a w:=by
 obtain⟨h1,h2,h3,D,h4,h5,I⟩:=hh;rcases hacc with⟨old,hv,hn,hc,hν⟩|⟨b,cap,junk,hv,hncap,hν,hl1,O⟩
 ·subst hν;refine⟨D,h5,bLL ⟨old,hv,hn,hc⟩,h1,h2,h3,D,by simpa using h4,fun D₁ hD₁=>?_,by simpa using I⟩;rcases bNA.1 hD₁ with rfl|hD₁
  ·exact Le.refl _
  ·exact h5 D₁ hD₁
 ·subst hν;have hb:=(h4.box (b,.cells (cells++junk).toArray e (0,0)) Ye).2.2;have hb':=hb.resolve_right (by rw[hmods];simp)
  obtain⟨D',hle,hD',hDo,hs⟩:=h4.freeze hb';refine⟨D',fun D₁ hD₁=>(h5 D₁ hD₁).trans hle,bLG ⟨b,cap,hv,hncap,fun j u hj=>by rw[hD',bOH];exact hj⟩,h1,h2,h3,D',hs,fun D₁ hD₁=>?_,I.step (fun _ p hp=>bLL (bKX.2 ⟨p,Xct,rfl⟩)) (fun _=>⟨bLQ _,fun c _ hn=>⟨rfl,hDo c (by rintro rfl;exact hn Ye)⟩,rfl⟩) hs.dom⟩
  rcases bNA.1 hD₁ with rfl|hD₁
  ·exact Le.refl _
  ·exact(h5 D₁ hD₁).trans hle
theorem SR{A B ν:aD}{e sz n:Nat}{cells:List Γ}(hacc:bD e sz v n cells ν)(hmods:X.mods=[])(kk:∀D,(∀D₁∈Ds,Le D₁ D)→kN D v n cells→WL P X bad all K Q os σ (A++B) (D::Ds)):WL P X bad all K Q os σ (A++ν++B) Ds:=by
 intro a w hh;obtain⟨D',h1,h2,h3⟩:=hh.freeze hacc hmods;exact kk D' h1 h2 a w h3
theorem rF{c:Code}{A B ν:aD}{e sz n:Nat}{cells:List Γ}(hacc:bD e sz v n cells ν)(hmods:X.mods=[])(kk:∀D,(∀D₁∈Ds,Le D₁ D)→kN D v n cells→WC P X Q c σ (A++B) (D::Ds)):WC P X Q c σ (A++ν++B) Ds:=by
 intro a w hh;obtain⟨D',h1,h2,h3⟩:=hh.freeze hacc hmods;exact kk D' h1 h2 a w h3
theorem DU{T:Act→Δ→Prop}{A B ν:aD}{e sz n:Nat}{cells:List Γ}(hacc:bD e sz v n cells ν)(hmods:X.mods=[])(kk:∀D,(∀D₁∈Ds,Le D₁ D)→kN D v n cells→∀a w,Hl X σ (A++B) (D::Ds) a w→T a w):∀a w,Hl X σ (A++ν++B) Ds a w→T a w:=by
 intro a w hh;obtain⟨D',h1,h2,h3⟩:=hh.freeze hacc hmods;exact kk D' h1 h2 a w h3
theorem _root_.Go.Fs.Zar{T:Act→Δ→Prop}(A:aD)(B:aD){ν:aD}{e:Nat}{sz:Nat}{n:Nat}{cells:List Γ}(hacc:bD e sz v n cells ν)(hmods:X.mods=[])(kk:∀D,(∀D₁∈Ds,Le D₁ D)→kN D v n cells→∀a w,Hl X σ (A++B) (D::Ds) a w→T a w):∀a w,Hl X σ (A++ν++B) Ds a w→T a w:=DU (A:=A) (B:=B) hacc hmods kk
theorem kN.sl{α:Type}{R:Rd α}{D:aC}{sz n:Nat}{cells:List Γ}{xs:List α}(h:kN D v n cells)(hn:xs.length=n)(hb:n≤9223372036854775807)(he:∀i x,xs[i]?= some x→∃cs,R D x cs∧cs.length=sz∧(cells.drop (i*sz)).take sz=cs):Sl D R sz v xs:=by
 rcases h with⟨a,hv,I,hc⟩|⟨b,cap,hv,hc,hA⟩
 ·subst I;have:xs=[]:=bOL.1 hn;subst this;subst hv
  exact⟨a,0,rfl,bLQ _,Ye,bLL rfl⟩
 ·subst hv;exact Sl.of_at hA hn hc hb he
theorem kN.ints{D:aC}{n:Nat}{l:List Int}(h:kN D v n (ints l))(hn:l.length=n)(hb:n≤9223372036854775807):Sl D RI 1 v l:=
 h.sl hn hb fun i x hx=>⟨[qI x],rfl,rfl,by
  have h:=cN hx;have hl:=(bLD.1 h).1;rw[bNL,bMM hl];rw[bLB hl]at h;simp[bLY h]⟩
theorem iL.lit{D:aC}{b m c:Nat}{xs:List Γ}(h:At D b 0 xs):iL D (qS b m c) m xs:=bLG ⟨b,0,c,rfl,h⟩
theorem iL.ints{D:aC}{l:List Int}(h:Sl D RI 1 v l):iL D v l.length (ints l):=by
 obtain⟨a,cap,rfl,h1,h2,h3⟩:=h;rcases h3 with rfl|⟨b,o,rfl,h3⟩
 ·exact bLL ⟨a,cap,rfl,rfl,rfl⟩
 ·refine bLG ⟨b,o,cap,rfl,fun j v hj=>?_⟩;simp only[Fs.ints,bMI,bOG]at hj;obtain⟨n,hn,rfl⟩:=hj;obtain⟨cs,hr,hc,hA⟩:=h3 j n hn;obtain rfl:cs=[qI n]:=hr;have:=hA 0 _ rfl;simpa using this
def G5(β:List Nat)(D:aC)(w:Δ)(D':aC)(w':Δ):Prop:=w.heap.size≤w'.heap.size∧Le D D'∧∀b∈β,w'.heap[b]?= w.heap[b]?∧D' b=D b
abbrev wC:=List Nat→aC→Δ→Prop
def jO(P:Program)(l:Nat)(vs:List Γ)(w:Δ)(R:Bool→aC→Δ→Prop):Prop:=
 ∃fn tmps assign body,(Instr.yield l vs.toArray).run P w=.ok (.round l fn tmps assign body) w∧aTF P l fn tmps assign body w fun e w'=>∃b D',e=.returned (.bool b)∧R b D' w'
def Cx.withEx(X:Cx)(J:wC):Cx:={X with ex:=some J}
theorem aWQ{J J1 J0:wC}{l:Nat}{c:Operand}{xs:Array Operand}{ats:Array Θ}{vs:List Γ}(ho:all[ix]?= some ⟨some d,.call {callee:=.value c,args:=xs,argTypes:=ats},ty,pos,aft,g⟩)
  (hc:ev σ c=some (.func (.yield l) #[] #[])) (hxs:x5 σ xs.toList=some vs) (hex:X.ex=some J) (hfl:fl=false) (h0:X.h0=⟨#[],none⟩) (_hm:X.mods=[]) (I:T1 X.lo J1) (O:T1 X.lo J0)
  (hY:∀D w,G2 X.lo D w→J (μ.map (·.1)) D w→(∀p∈μ,p.1<w.heap.size)→(∀D₁∈Ds,Le D₁ D)→jO P l vs w fun b D' w'=>G2 X.lo D' w'∧G5 (μ.map (·.1)) D w D' w'∧(if b then J1 (μ.map (·.1)) D' w' else J0 (μ.map (·.1)) D' w'))
  (hN:Nat.blt d X.N=true) (hg:dH all σ g)
  (U:WL P (X.withEx J1) bad all K Q os ((d,.bool true)::σ) μ Ds) (V:WL P (X.withEx J0) bad all K Q os ((d,.bool false)::σ) μ Ds):WL P X bad all K Q ((fl,ix)::os) σ μ Ds:=by
 refine fG ho rfl rfl hg fun a w hh=>?_
 obtain⟨h1,h2,h3,D,h4,h5,R⟩:=id hh;have hJ:J (μ.map (·.1)) D w:=by unfold Q6 at R;rw[hex]at R;exact R.2
 obtain⟨fn,tmps,assign,body,hy,hr⟩:=hY D w h4.dom hJ (fun p hp=>bR (h4.box p hp).1) h5;have e:xs.map a.eval=vs.toArray:=by rw[←mD (fun _ _ hx=>hh.eval hx) hxs,←bPW]
 have hrun:(execOp a.eval ⟨some d,.call {callee:=.value c,args:=xs,argTypes:=ats},ty,pos,aft,g⟩).run P w=.ok (.round l fn tmps assign body) w:=by
  simp only[execOp,resolve,hh.eval hc,Deferred.ofValue,pure_bind,invoke,e];rw[←hy];simp
 rw[hrun];refine⟨fun h=>Xab,(FY hr).mono ?_⟩;rintro e' w' ⟨b,D',rfl,hd',hh',hb⟩;have hst:jE X.h0 X.lo X.D0 X.mods μ D' w':=by
  refine⟨h4.hlo,hd'.2,(fun b hb=>Xbi),(fun b hb=>Xbi),hd'.1,fun p hp=>?_,h4.nd,h4.fz,fun e he=>by rw[h0]at he;cases he⟩;obtain⟨p1,p2,p3⟩:=h4.box p hp;obtain⟨Y,Z⟩:=hh'.2.2 p.1 (bKX.2 ⟨p,hp,rfl⟩);exact⟨Y.trans p1,Z.trans p2,p3⟩
 have hds:∀D₁∈Ds,Le D₁ D':=fun D₁ hD₁=>(h5 D₁ hD₁).trans hh'.2.1
 refine⟨(fun h=>by rw[hfl]at h;cases h),?_⟩;cases b with
 |true=>
  refine U _ _ (Hl.put (X:=X.withEx J1) ⟨h1,h2,h3,D',hst,hds,⟨I,hb⟩⟩ hN _)
 |false=>
  refine V _ _ (Hl.put (X:=X.withEx J0) ⟨h1,h2,h3,D',hst,hds,⟨O,hb⟩⟩ hN _)

def Xj(N lo:Nat)(J:wC):Cx:=⟨none,N,[],⟨#[],none⟩,lo,fun _=>[],[],some J⟩
def SJ(lo:Nat)(J:wC)(μ:aD)(Ds:List aC)(w:Δ):Prop:=
 ∃D,jE ⟨#[],none⟩ lo (fun _=>[]) [] μ D w∧(∀D₁∈Ds,Le D₁ D)∧Q6 (Xj 0 lo J) μ D w
def bID(P:Program)(f:FuncId)(args:List Γ)(lo:Nat)(J:wC)(μ:aD)(Ds:List aC)(post:Γ→wC→aD→Prop):Prop:=
 EF P f∧∀w,SJ lo J μ Ds w→Calls P f args.toArray w fun e w'=>∃v J' μ',e=.returned v∧SJ lo J' μ' Ds w'∧post v J' μ'
def AY(lo:Nat)(Ds:List aC)(post:Γ→wC→aD→Prop):Ending→Δ→Prop:=fun e w'=>∃v J' μ',e=.returned v∧SJ lo J' μ' Ds w'∧post v J' μ'
theorem j2{fn:Func}{lo:Nat}{post:Γ→wC→aD→Prop}:NP (bodyPost P fn (AY lo Ds post)):=by
 rintro c a w ⟨_,v,D',μ',h,_⟩;cases h
theorem V3{f:FuncId}{fn:Func}{c:Code}{args:List Γ}{lo:Nat}{J:wC}{post:Γ→wC→aD→Prop}(N:Nat)(hf:P.funcs[f]?= some fn)(hn:(fn.name== "runtime.NumGoroutine")=false)(hb:fn.body=some c)(hN:fn.ntmps=N)(hsz:Nat.ble args.length N=true)
  (h:WC P (Xj N lo J) (bodyPost P fn (AY lo Ds post)) c (jY 0 args) μ Ds):bID P f args lo J μ Ds post:=by
 refine⟨EF.of hf hn hb,fun w hw=>?_⟩;subst hN;have hsz:=bNJ hsz;obtain⟨D,hs,hds,hex⟩:=hw;refine(dY (r:=none) (n:=0)).1 (callsIn_of_wp (R:=AY lo Ds post) hf hb bQK (h _ w ⟨?_,(fun s v hs=>?_),rfl,D,hs,hds,hex⟩) rfl)
 ·simp[Xj];omega
 ·obtain⟨_,h2⟩:=gV args 0 s v hs;have hl:=(bLD.1 h2).1;simp only[bPB]at h2 hl;show(args.toArray++_)[s]?= some v;rw[bNT Yay];simpa using h2
theorem nC{fn:Func}{lo N:Nat}{J:wC}{post:Γ→wC→aD→Prop}{e:Exit}(he:(match e with|.normal=>true|.ret=>true|_=>false)=true){rs:List ResultVar}{vs:List Γ}(hr:fn.results=rs.toArray)(h:A1 P (Xj N lo J) σ μ rs vs)
  {Ds':List aC} (hD:∀D∈Ds',∃D'∈Ds,Le D D') (hp:post (tA vs) J μ):∀a w,Hl (Xj N lo J) σ μ Ds a w→bodyPost P fn (AY lo Ds' post) e a w:=by
 intro a w hh;have hrun:=jN hh hr h;obtain⟨h1,h2,h3,D,h4,h5,I⟩:=hh;have:a.defers=[]∧∃v,(results fn a.tmps).run P w=.ok v w∧AY lo Ds' post (.returned v) w:=⟨h3,_,hrun,_,J,μ,rfl,⟨D,h4,(fun D₁ h=>by obtain⟨O,hm,hle⟩:=hD D₁ h;exact hle.trans (h5 O hm)),I⟩,hp⟩
 cases e<;>first|exact this|cases he
theorem wU{J:wC}{N lo:Nat}{c:Operand}{xs:Array Operand}{ats:Array Θ}{f:FuncId}{c1 c2 vs:List Γ}{post:Γ→wC→aD→Prop}(ho:all[ix]?= some ⟨some d,.call {callee:=.value c,args:=xs,argTypes:=ats},ty,pos,aft,g⟩)
  (hc:ev σ c=some (.func (.func f) c1.toArray c2.toArray)) (hxs:x5 σ xs.toList=some vs) (hfl:fl=false)
  (hf:bID P f (c1++vs++c2) lo J μ Ds post) (hN:Nat.blt d N=true) (hg:dH all σ g)
  (kk:∀v J' μ',post v J' μ'→WL P (Xj N lo J') bad all K Q os ((d,v)::σ) μ' Ds):WL P (Xj N lo J) bad all K Q ((fl,ix)::os) σ μ Ds:=by
 refine fG ho rfl rfl hg fun a w hh=>?_
 obtain⟨h1,h2,h3,D,h4,h5,I⟩:=id hh;rw[xY hf.1 (hh.eval hc) (mD (fun _ _ hx=>hh.eval hx) hxs)];refine⟨fun h=>Xab,dY.2 ((hf.2 w ⟨D,h4,h5,I⟩).mono ?_)⟩;rintro e w' ⟨v,J',μ',rfl,⟨D',hs,hds,hex⟩,hpost⟩;exact⟨(fun h=>by rw[hfl]at h;cases h),kk v J' μ' hpost _ _ (Hl.put (X:=Xj N lo J') ⟨h1,h2,h3,D',hs,hds,hex⟩ hN v)⟩

def u6{α:Type}(P:Program)(f:FuncId)(cap:List Γ)(Dr:aC)(xs:List α)(enc:α→List Γ):Prop:=
 EF P f∧∀(lo l:Nat) (J Jx:List α→wC),(∀pre,T1 lo (J pre))→(∀pre,T1 lo (Jx pre))→
  (∀pre x β D w,(∃r,xs=pre++x::r)→G2 lo D w→J pre β D w→(∀b∈β,b<w.heap.size)→Le Dr D→
   jO P l (enc x) w fun b D' w'=>G2 lo D' w'∧G5 β D w D' w'∧(if b then J (pre++[x]) β D' w' else Jx (pre++[x]) β D' w'))→
  ∀D w,G2 lo D w→Le Dr D→J [] [] D w→Calls P f (.func (.yield l) #[] #[]::cap).toArray w fun e w'=>∃v D',e=.returned v∧G2 lo D' w'∧(J xs [] D' w'∨∃pre,Jx pre [] D' w')
def bKL{γ:Type}(h0:H0)(lo:Nat)(D0:aC)(mods:List Nat)(Ds:List aC)(Φ:γ→Prop)(Mx:γ→aD):wC:=fun β D w=>
 ∃g,Φ g∧jE h0 lo D0 mods (Mx g) D w∧(∀D₁∈Ds,Le D₁ D)∧(∀b∈β,h0.size≤b∧∀D₁∈Ds,D₁ b=[])∧∀p∈Mx g,p.1∉β
theorem aDN{γ:Type}{h0:H0}{lo:Nat}{D0:aC}{Ds:List aC}{Φ:γ→Prop}{Mx:γ→aD}:T1 lo (bKL h0 lo D0 [] Ds Φ Mx):=by
 constructor
 ·rintro β D w D' w' ⟨g,hg,hs,hD,hβ,hM⟩ ⟨hl1,I,O⟩ hd;refine⟨g,hg,⟨hs.hlo,hd.2,fun b hb hm=>?_,fun b hb=>?_,hd.1,fun p hp=>?_,hs.nd,hs.fz,fun e he=>O.trans (hs.env e he)⟩,fun D₁ hD₁=>⟨fun b=>?_,?_⟩,hβ,hM⟩
  ·have hlt:b<w.heap.size:=by have:=hs.hlo;have:=hs.size;omega
   have hn:b∉β:=fun h=>by have:=(hβ b h).1;omega
   rw[(I b hlt hn).1];exact hs.old b hb hm
  ·have hlt:b<w.heap.size:=by have:=hs.hlo;have:=hs.size;omega
   have hn:b∉β:=fun h=>by have:=(hβ b h).1;omega
   rw[(I b hlt hn).2];exact hs.dold b hb
  ·obtain⟨p1,p2,p3⟩:=hs.box p hp;obtain⟨R,U⟩:=I p.1 (bR p1) (hM p hp);exact⟨R.trans p1,U.trans p2,p3⟩
  ·by_cases hb:b∈β
   ·rw[(hβ b hb).2 D₁ hD₁];exact bQB
   ·by_cases hlt:b<w.heap.size
    ·rw[(I b hlt hb).2];exact(hD D₁ hD₁).1 b
    ·have:=(hD D₁ hD₁).1 b;rw[hs.agr.fresh (Nat.le_of_not_lt hlt)]at this;rw[List.prefix_nil.1 this];exact bQB
  ·have h0:(0:Nat)∉β:=fun hm=>hs.agr.2.1 ((hD D₁ hD₁).2.trans ((hβ 0 hm).2 D₁ hD₁))
   rw[(I 0 hs.agr.pos h0).2];exact(hD D₁ hD₁).2
 ·rintro β β' D w ⟨g,hg,hs,hD,hβ,hM⟩ hb';refine⟨g,hg,hs,hD,fun b hb=>?_,fun p hp hb=>?_⟩
  ·rcases hb' b hb with h|h
   ·exact hβ b h
   ·refine⟨by have:=hs.hlo;have:=hs.size;omega,fun D₁ hD₁=>?_⟩;have:=(hD D₁ hD₁).1 b;rw[hs.agr.fresh h]at this;exact List.prefix_nil.1 this
  ·rcases hb' _ hb with h|h
   ·exact hM p hp h
   ·have:=bR (hs.box p hp).1;omega
theorem jE.round{h0:H0}{lo:Nat}{D0 D D':aC}{μ μ':aD}{w w':Δ}(h:jE h0 lo D0 [] μ D w)(hs:jE (hd w) w.heap.size D (μ.map (·.1)) μ' D' w'):jE h0 lo D0 [] μ' D' w':=by
 have hle:=bNK h.hlo h.size;have hkey:∀b∈μ.map (·.1),lo≤b:=by
  intro b hb;obtain⟨p,hp,rfl⟩:=bKX.1 hb;exact(h.box p hp).2.2.resolve_right Ye
 refine⟨h.hlo,bNK h.size hs.size,fun b hb hm=>?_,fun b hb=>?_,hs.agr,fun p hp=>?_,hs.nd,hs.fz,fun e he=>(hs.env _ rfl).trans (h.env e he)⟩
 ·rw[hs.old b (bNR hb hle) (fun hk=>by have:=hkey b hk;have:=h.hlo;omega)];exact h.old b hb hm
 ·rw[hs.dold b (bNR hb hle)];exact h.dold b hb
 ·obtain⟨p1,p2,p3⟩:=hs.box p hp;refine⟨p1,p2,bLL ?_⟩;rcases p3 with p3|p3
  ·have:=h.size;omega
  ·exact hkey _ p3
theorem jE.roundHigh{D D':aC}{w w':Δ}{μ μ':aD}{β:List Nat}(hw:fO D w)(hs:jE (hd w) w.heap.size D (μ.map (·.1)) μ' D' w')(hβ:∀b∈β,b<w.heap.size)(hM:∀p∈μ,p.1∉β):G5 β D w D' w':=by
 refine⟨hs.size,iF hw hs,fun b hb=>⟨hs.old b (hβ b hb) fun hk=>?_,hs.dold b (hβ b hb)⟩⟩;obtain⟨p,hp,rfl⟩:=bKX.1 hk;exact hM p hp hb
def oC(bd:Nat):Deferred:={target:=.collected bd,args:=#[]}
def Cx.withDs(X:Cx)(bd:Nat):Cx:={X with ds:=oC bd::X.ds}
def Xr(l N:Nat)(h0:H0)(D:aC)(mods:List Nat):Cx:=⟨some l,N,[],h0,h0.size,D,mods,none⟩
def G8{γ:Type}(h0:H0)(D:aC)(mods:List Nat)(Φ:γ→Prop)(Ψ:Code→γ→Prop)(Mx:γ→aD)(My:Code→γ→aD):Ending→Δ→Prop:=fun e w'=>
 ∃b D',e=.returned (.bool b)∧(if b then ∃g,Φ g∧jE h0 h0.size D mods (Mx g) D' w' else ∃c g,Ψ c g∧jE h0 h0.size D mods (My c g) D' w')
theorem N3{c:Code}{A B:aD}{l:Nat}{r:Loop}{QQ:Exit→Act→Δ→Prop}(hr:X.r=some l)(hst:r.state=.ready)(h:WC P X Q c σ (A++(l,.loop {r with state:=.busy})::B) Ds):
  ∀a w,Hl X σ (A++(l,.loop r)::B) Ds a w→Exit.then (fun a₁ w₁=>∃w₂,(Instr.beginRound l).run P w₁=.ok () w₂∧c.wpIn ((FW none).inRound l) 0 P Q a₁ w₂) QQ .normal a w:=by
 intro a w hh;obtain⟨h1,h2,h3,D,h4,h5,I⟩:=hh;have hb:=(h4.box (l,.loop r) Ye).1;refine⟨_,run_beginRound hb hst,?_⟩;have hHas:bO (A++(l,.loop r)::B) l (.loop r) (.loop {r with state:=.busy}) (A++(l,.loop {r with state:=.busy})::B):=.app .head;have hs:=h4.set (w':=w.putObj l (.loop {r with state:=.busy})) hHas ⟨rfl,rfl⟩ trivial;have:=h a _ ⟨h1,h2,h3,D,hs,h5,I.step (fun _ p hp=>bLL Ys) (fun _=>lX ⟨rfl,rfl⟩ (bKX.2 ⟨_,hHas.mem,rfl⟩)) hs.dom⟩;rw[hr]at this;exact this
theorem jP{γ:Type}{A B:aD}{l:Nat}{r:Loop}{Φ:γ→Prop}{Ψ:Code→γ→Prop}{Mx:γ→aD}{My:Code→γ→aD}(g:γ)(hΦ:Φ g)(hM:Mx g=A++(l,.loop {r with state:=.ready,pending:=none})::B)(hlo:X.lo=X.h0.size):
  ∀a w,Hl X σ (A++(l,.loop r)::B) Ds a w→roundPost P l (G8 X.h0 X.D0 X.mods Φ Ψ Mx My) .normal a w:=by
 intro a w hh;obtain⟨h1,h2,h3,D,h4,h5,I⟩:=hh;have hb:=(h4.box (l,.loop r) Ye).1;refine⟨_,_,run_endRound none hb,true,D,rfl,g,hΦ,?_⟩;have hHas:bO (A++(l,.loop r)::B) l (.loop r) (.loop {r with state:=.ready,pending:=none}) (A++(l,.loop {r with state:=.ready,pending:=none})::B):=.app .head;have hs:=h4.set (w':=w.putObj l (.loop {r with state:=.ready,pending:=none})) hHas ⟨rfl,rfl⟩ trivial;rw[hM,←hlo];exact hs
theorem aNU{γ:Type}{A B:aD}{l:Nat}{r:Loop}{Φ:γ→Prop}{Ψ:Code→γ→Prop}{Mx:γ→aD}{My:Code→γ→aD}(c:Code)(g:γ)(hΨ:Ψ c g)(hM:My c g=A++(l,.loop {r with state:=.done,pending:=some c})::B)(hlo:X.lo=X.h0.size):
  ∀a w,Hl X σ (A++(l,.loop r)::B) Ds a w→∃v w',(Instr.endRound l (some c)).run P w=.ok v w'∧G8 X.h0 X.D0 X.mods Φ Ψ Mx My (.returned v) w':=by
 intro a w hh;obtain⟨h1,h2,h3,D,h4,h5,I⟩:=hh;have hb:=(h4.box (l,.loop r) Ye).1;refine⟨_,_,run_endRound (some c) hb,false,D,rfl,c,g,hΨ,?_⟩;have hHas:bO (A++(l,.loop r)::B) l (.loop r) (.loop {r with state:=.done,pending:=some c}) (A++(l,.loop {r with state:=.done,pending:=some c})::B):=.app .head;have hs:=h4.set (w':=w.putObj l (.loop {r with state:=.done,pending:=some c})) hHas ⟨rfl,rfl⟩ trivial;rw[hM,←hlo];exact hs
def I9:List Tmp→List Γ→cD→cD
 |p::ps,v::vs,σ=>I9 ps vs ((p,v)::σ)
 |_,_,σ=>σ
theorem l6:∀(ps:List Tmp) (vs:List Γ) (tmps:Array Γ) (σ:cD),(∀s v,look σ s=some v→tmps[s]?= some v)→(∀p∈ps,p<tmps.size)→
  ∀s v,look (I9 ps vs σ) s=some v→((ps.zip vs).foldl (fun tmps (p:Tmp×Γ)=>tmps.setIfInBounds p.1 p.2) tmps)[s]?= some v
 | [],vs,tmps,σ,h,_,s,v,hs=>by cases vs<;>exact h s v hs
 |p::ps,[],tmps,σ,h,_,s,v,hs=>h s v hs
 |p::ps,u::vs,tmps,σ,h,hp,s,v,hs=>by
  refine l6 ps vs (tmps.setIfInBounds p u) ((p,u)::σ) (fun s v hs=>?_) (fun q hq=>by simpa using hp q (bKY _ hq)) s v hs;simp only[look]at hs;cases hb:Nat.beq p s with
  |true=>rw[hb]at hs;cases hs;obtain rfl:=bMW hb;rw[Array.getElem?_setIfInBounds_self_of_lt (hp p bKZ)]
  |false=>rw[hb]at hs;rw[bNZ (fun e=>by subst e;simp at hb)];exact h s v hs
theorem d7:∀(l:List (Tmp×Γ)) (tmps:Array Γ),(l.foldl (fun tmps (p:Tmp×Γ)=>tmps.setIfInBounds p.1 p.2) tmps).size=tmps.size
 | [],_=>rfl
 |p::l,tmps=>by rw[bME,d7 l];simp
theorem wW{α γ:Type}{xs:List α}{enc:α→List Γ}{Dr:aC}{f:FuncId}{cap:List Γ}{gop:Operand}{ps:Array Tmp}{assign body:Code}
  (Φ:List α→γ→Prop) (Ψ:List α→Code→γ→Prop) (M:γ→aD) (g₀:γ) (hr:X.r=none) (hex:X.ex=none) (hmods:X.mods=[])
  (hg:ev σ gop=some (.func (.func f) #[] cap.toArray)) (hit:u6 P f cap Dr xs enc) (hDr:Dr∈Ds) (hps:∀x,(enc x).length=ps.size) (hpN:(ps.toList.all fun p=>Nat.blt p X.N)=true) (h₀:Φ [] g₀) (hμ:M g₀=μ)
  (hround:∀pre x g,(∃r,xs=pre++x::r)→Φ pre g→∀(l bd:Nat) (rec:Loop) (h0:H0) (D:aC),(∀D₁∈Ds,Le D₁ D)→rec.state=.ready→rec.pending=none→
   WC P (Xr l X.N h0 D ((M g++(l,Obj.loop rec)::[(bd,Obj.deferred (some []))]).map (·.1)))
    (Exit.then (fun a₁ w₁=>∃w₂,(Instr.beginRound l).run P w₁=.ok () w₂∧body.wpIn ((FW none).inRound l) 0 P (roundPost P l (G8 h0 D ((M g++(l,Obj.loop rec)::[(bd,Obj.deferred (some []))]).map (·.1)) (Φ (pre++[x])) (Ψ (pre++[x]))
     (fun g=>M g++(l,Obj.loop {rec with state:=.ready,pending:=none})::[(bd,Obj.deferred (some []))]) fun c g=>M g++(l,Obj.loop {rec with state:=.done,pending:=some c})::[(bd,Obj.deferred (some []))])) a₁ w₂) fun _ _ _=>False)
    assign (I9 ps.toList (enc x) σ) (M g++(l,Obj.loop rec)::[(bd,Obj.deferred (some []))]) (D::Ds))
  (hdone:∀g bd,Φ xs g→∀a w,Hl (X.withDs bd) σ (M g++[(bd,Obj.deferred (some []))]) Ds a w→Q .normal a w)
  (hstop:∀pre c g bd,Ψ pre c g→WC P (X.withDs bd) Q c σ (M g++[(bd,Obj.deferred (some []))]) Ds):WC P X Q (.rangeFunc gop ps assign body) σ μ Ds:=by
 intro a w hh;subst hμ;have hev:=hh.eval hg;obtain⟨h1,h2,h3,D,h4,h5,Z⟩:=hh;rw[hmods]at h4;refine wpIn_rangeFunc fun fn _=>?_
 have hround':(FW X.r).round=none:=hr;rw[hround']
 let bd:=w.heap.size
 let l:=w.heap.size+1
 let I:Loop:={state:=.ready,pending:=none,fn,tmps:=a.tmps,params:=ps,assign,body,defers:=bd}
 let V:Δ:={w with heap:=w.heap.push (.deferred (some []))}
 let U:Δ:={V with heap:=V.heap.push (.loop I)}
 have Y:jE X.h0 X.lo X.D0 [] ((bd,Obj.deferred (some []))::M g₀) D V:=h4.push (.deferred (some [])) trivial;have O:jE X.h0 X.lo X.D0 [] ((l,Obj.loop I)::(bd,Obj.deferred (some []))::M g₀) D U:=by
  have:=Y.push (.loop I) trivial;have e:V.heap.size=l:=by simp[V,l]
  rw[e]at this;exact this
 have hperm:jE X.h0 X.lo X.D0 [] (M g₀++(l,Obj.loop I)::[(bd,Obj.deferred (some []))]) D U:=by
  refine O.sub (fun p hp=>?_) ?_
  ·simp only[bLM,bNA,n4,bND]at hp ⊢
   rcases hp with hp|hp|hp
   ·exact bLG (bLG hp)
   ·exact bLL hp
   ·exact bLG (bLL hp)
  ·have hn:=O.nd;simp only[bMD,bMX,bNA,bQE]at hn;simp only[bLO,bMD,bPK,bLJ,bMX,bNA,n4,bND,bPU,bNH,and_true];refine⟨hn.2.2,hn.1.1,fun q hq r hr'=>?_⟩;rcases hr' with rfl|rfl
   ·rintro rfl;exact hn.1.2 hq
   ·rintro rfl;exact hn.2.1 hq
 refine⟨l,[oC bd],U,{target:=.fn (.func f) cap.toArray,args:=#[.func (.yield l) #[] #[]]},U,f,(.func (.yield l) #[] #[]::cap).toArray,U,run_enterLoop_outer fn a.tmps ps assign body,?_,fun _ _=>trivial,?_,fun h=>Xab,?_⟩
 ·simp only[resolve,Deferred.ofValue];have e:Array.map a.eval #[Operand.const (Value.func (Fn.yield l) #[] #[])]=#[.func (.yield l) #[] #[]]:=by simp[Act.eval]
  rw[e,hev];rfl
 ·simp only[invoke];rw[hit.1];simp
 ·refine dY.2 ((hit.2 X.lo l
   (fun pre=>bKL X.h0 X.lo X.D0 [] Ds (Φ pre) fun g=>M g++(l,Obj.loop I)::[(bd,Obj.deferred (some []))])
   (fun pre=>bKL X.h0 X.lo X.D0 [] Ds (fun cg:Code×γ=>Ψ pre cg.1 cg.2) fun cg=>M cg.2++(l,Obj.loop {I with state:=.done,pending:=some cg.1})::[(bd,Obj.deferred (some []))])
   (fun _=>aDN) (fun _=>aDN) ?_ D U O.dom (h5 Dr hDr) ⟨g₀,h₀,hperm,h5,(fun _ h=>Xaa),(fun _ _ h=>Xaa)⟩).mono ?_)
  ·rintro pre x β Dx wx hx hdx ⟨g,hΦ,hst,hDs,hβ,hM⟩ hβs hle;have hbox:=(hst.box (l,Obj.loop I) Ye).1;refine⟨fn,_,assign,body,run_yield hbox (by simpa using hps x),?_⟩;refine(roundIn_of_wpIn (F:=FW none) bQK (R:=G8 (hd wx) Dx ((M g++(l,Obj.loop I)::[(bd,Obj.deferred (some []))]).map (·.1)) (Φ (pre++[x])) (Ψ (pre++[x]))
     (fun g=>M g++(l,Obj.loop {I with state:=.ready,pending:=none})::[(bd,Obj.deferred (some []))]) fun c g=>M g++(l,Obj.loop {I with state:=.done,pending:=some c})::[(bd,Obj.deferred (some []))]) ?_).mono ?_
   ·have hw:=hround pre x g hx hΦ l bd I (hd wx) Dx hDs rfl rfl;have ht:(ps.zip (enc x).toArray).foldl (fun tmps (t,a)=>tmps.setIfInBounds t a) a.tmps=(ps.toList.zip (enc x)).foldl (fun tmps (p:Tmp×Γ)=>tmps.setIfInBounds p.1 p.2) a.tmps:=by
     rw[←Array.foldl_toList];simp
    have hpN':∀p∈ps.toList,p<a.tmps.size:=fun p hp=>by rw[h1];simpa [Nat.blt_eq]using bLX.1 hpN p hp
    refine hw {tmps:=_,defers:=[]} wx ⟨?_,fun s v hs=>?_,rfl,Dx,⟨bLQ _,bLQ _,fun _ _ _=>rfl,fun _ _=>rfl,hst.agr,fun p hp=>?_,hst.nd,hst.fz,fun e he=>bLY he⟩,fun D₁ hD₁=>?_,bQK⟩
    ·show((ps.zip (enc x).toArray).foldl _ a.tmps).size=X.N;rw[ht,d7];exact h1
    ·show((ps.zip (enc x).toArray).foldl _ a.tmps)[s]?= some v;rw[ht];exact l6 _ _ _ _ h2 hpN' s v hs
    ·obtain⟨p1,p2,p3⟩:=hst.box p hp;exact⟨p1,p2,bLG (bKX.2 ⟨p,hp,rfl⟩)⟩
    ·rcases bNA.1 hD₁ with rfl|hD₁
     ·exact Le.refl _
     ·exact hDs D₁ hD₁
   ·rintro e w' ⟨b,D',rfl,hb⟩;have fin:∀μ',jE (hd wx) wx.heap.size Dx ((M g++(l,Obj.loop I)::[(bd,Obj.deferred (some []))]).map (·.1)) μ' D' w'→jE X.h0 X.lo X.D0 [] μ' D' w'∧G5 β Dx wx D' w'∧(∀D₁∈Ds,Le D₁ D')∧(∀p∈μ',p.1∉β):=by
     intro μ' hs';refine⟨hst.round hs',jE.roundHigh hst.agr hs' hβs hM,fun D₁ hD₁=>(hDs D₁ hD₁).trans (iF hst.agr hs'),fun p hp hpb=>?_⟩;rcases(hs'.box p hp).2.2 with h|h
     ·have:=hβs _ hpb;omega
     ·obtain⟨q,hq,he⟩:=bKX.1 h;exact hM q hq (by rw[he];exact hpb)
    refine⟨b,D',rfl,?_⟩;cases b with
    |true=>
     obtain⟨g',hg',hs'⟩:=hb;obtain⟨f1,f2,f3,f4⟩:=fin _ hs';exact⟨f1.dom,f2,g',hg',f1,f3,hβ,f4⟩
    |false=>
     obtain⟨c',g',hg',hs'⟩:=hb;obtain⟨f1,f2,f3,f4⟩:=fin _ hs';exact⟨f1.dom,f2,(c',g'),hg',f1,f3,hβ,f4⟩
  ·rintro e w' ⟨v,D',rfl,hd,hend⟩;have post:∀(g:γ) (r:Loop),jE X.h0 X.lo X.D0 [] (M g++(l,Obj.loop r)::[(bd,Obj.deferred (some []))]) D' w'→(∀D₁∈Ds,Le D₁ D')→
     Hl (X.withDs bd) σ (M g++[(bd,Obj.deferred (some []))]) Ds {a with defers:=[oC bd]++a.defers} (w'.putObj l (.loop {r with state:=.exhausted})):=by
    intro g r hs hD';have hHas:bO (M g++(l,Obj.loop r)::[(bd,Obj.deferred (some []))]) l (.loop r) (.loop {r with state:=.exhausted}) (M g++(l,Obj.loop {r with state:=.exhausted})::[(bd,Obj.deferred (some []))]):=.app .head;have hs':=hs.set (w':=w'.putObj l (.loop {r with state:=.exhausted})) hHas ⟨rfl,rfl⟩ trivial;have hs'':=hs'.sub (μ':=M g++[(bd,Obj.deferred (some []))]) (fun p hp=>by
     rcases bLM.1 hp with hp|hp
     ·exact bLH _ hp
     ·exact LE _ (bKY _ hp)) (by
     have hn:=hs'.nd;rw[bLO,bLJ]at hn ⊢
     simp only[bMD]at hn;exact⟨hn.1,(bMX.1 hn.2.1).2,fun q hq r hr=>hn.2.2 q hq r (bKY _ hr)⟩)
    exact⟨h1,h2,bLE (oC bd:: ·) h3,D',by show jE X.h0 X.lo X.D0 X.mods _ _ _;rw[hmods];exact hs'',hD',Xcc⟩
   rcases hend with⟨g,hΦ,hs,hDs,_,_⟩|⟨pre,⟨c,g⟩,hΨ,hs,hDs,_,_⟩
   ·have hb:=(hs.box (l,Obj.loop I) Ye).1;exact⟨none,_,run_endLoop hb (by simp[I]),hdone g bd hΦ _ _ (post g I hs hDs)⟩
   ·have hb:=(hs.box (l,Obj.loop {I with state:=.done,pending:=some c}) Ye).1;refine⟨some c,_,run_endLoop hb Ye,?_⟩;have:=hstop pre c g bd hΨ _ _ (post g _ hs hDs);exact this

def S2(P:Program)(fn:Func)(R:Ending→Δ→Prop):Exit→Act→Δ→Prop
 |.normal,a,w=>LeavesInM (FW none) 0 P fn a.tmps R a.defers .returning w
 |.ret,a,w=>LeavesInM (FW none) 0 P fn a.tmps R a.defers .returning w
 |_,_,_=>False
theorem NH{f:FuncId}{fn:Func}{c:Code}{args:List Γ}{D:aC}{post:aC→Γ→Prop}(N:Nat)(hf:P.funcs[f]?= some fn)(hn:(fn.name== "runtime.NumGoroutine")=false)(hb:fn.body=some c)(hN:fn.ntmps=N)(hsz:Nat.ble args.length N=true)
  (h:∀h0:H0,WC P ⟨none,N,[],h0,h0.size,D,[],none⟩ (S2 P fn (rG ⟨none,N,[],h0,h0.size,D,[],none⟩ fun D' v _=>post D' v)) c (jY 0 args) [] [D]):Fn P f args.toArray D post:=by
 refine⟨EF.of hf hn hb,fun w hw=>?_⟩;subst hN;have hsz:=bNJ hsz;have hq:∀e a w',S2 P fn (rG ⟨none,fn.ntmps,[],hd w,w.heap.size,D,[],none⟩ fun D' v _=>post D' v) e a w'→bodyPostM (FW none) 0 P fn (rG ⟨none,fn.ntmps,[],hd w,w.heap.size,D,[],none⟩ fun D' v _=>post D' v) e a w':=by
  intro e a w' he;cases e<;>first|exact he|exact he.elim
 have hwp:=h (hd w) {tmps:=args.toArray++Array.replicate (fn.ntmps-args.toArray.size) undef,defers:=[]} w ⟨Yaq,fun s v hs=>by
  obtain⟨_,h2⟩:=gV args 0 s v hs;have hl:=(bLD.1 h2).1;simp only[bPB]at h2 hl;show(args.toArray++_)[s]?= some v;rw[bNT Yay];simpa using h2,rfl,D,⟨bLQ _,bLQ _,(fun _ _ _=>rfl),(fun _ _=>rfl),hw,Yi,bNH,Yi,fun e he=>bLY he⟩,(fun D₁ h1=>Xcd),bQK⟩
 refine(dY (r:=none) (n:=0)).1 ((callsIn_of_wp_marks hf hb bQK (wpIn_mono hwp hq) rfl).mono ?_);rintro e w' ⟨v,D',μ',rfl,hs,hp⟩;exact⟨v,D',rfl,hs.sub (by intro p hp;cases hp) bNH,hp⟩
theorem xB{fn:Func}{post:aC→Γ→aD→Prop}{e:Exit}(he:(match e with|.normal=>true|.ret=>true|_=>false)=true){rs:List ResultVar}{vs:List Γ}(hds:X.ds=[])(hr:fn.results=rs.toArray)(h:A1 P X σ μ rs vs)
  (hp:∀D,(∀D₁∈Ds,Le D₁ D)→post D (tA vs) μ):∀a w,Hl X σ μ Ds a w→S2 P fn (rG X post) e a w:=by
 intro a w hh;have hrun:=jN hh hr h;obtain⟨h1,h2,h3,D,h4,h5,I⟩:=hh;have:LeavesInM (FW none) 0 P fn a.tmps (rG X post) a.defers .returning w:=by
  rw[h3,hds];exact⟨_,hrun,_,D,μ,rfl,h4,hp D h5⟩
 cases e<;>first|exact this|cases he
theorem A3{fn:Func}{bd:Nat}{post:aC→Γ→aD→Prop}{e:Exit}(he:(match e with|.normal=>true|.ret=>true|_=>false)=true){rs:List ResultVar}{vs:List Γ}{A:aD}(hds:X.ds=[])(hr:fn.results=rs.toArray)(h:A1 P X σ (A++[(bd,Obj.deferred none)]) rs vs)
  (hp:∀D,(∀D₁∈Ds,Le D₁ D)→post D (tA vs) (A++[(bd,Obj.deferred none)])):∀a w,Hl (X.withDs bd) σ (A++[(bd,Obj.deferred (some []))]) Ds a w→S2 P fn (rG X post) e a w:=by
 intro a w hh;obtain⟨h1,h2,h3,D,h4,h5,I⟩:=hh;have hHas:bO (A++[(bd,Obj.deferred (some []))]) bd (.deferred (some [])) (.deferred none) (A++[(bd,Obj.deferred none)]):=.app .head;have hs:=h4.set (w':=w.putObj bd (.deferred none)) hHas ⟨rfl,rfl⟩ trivial;have hh':Hl X σ (A++[(bd,Obj.deferred none)]) Ds {a with defers:=[]} (w.putObj bd (.deferred none)):=
  ⟨h1,h2,hds.symm,D,hs,h5,I.step (X:=X.withDs bd) (fun _ p hp=>bLL Ys) (fun _=>lX ⟨rfl,rfl⟩ (bKX.2 ⟨_,hHas.mem,rfl⟩)) hs.dom⟩
 have hrun:=jN hh' hr h;have hb:=(h4.box (bd,Obj.deferred (some [])) Ye).1;have:LeavesInM (FW none) 0 P fn a.tmps (rG X post) a.defers .returning w:=by
  have h3':a.defers=[oC bd]:=h3.trans Xce;rw[h3'];exact⟨Ye,bLL ⟨bd,_,rfl,run_takeDeferred hb,_,hrun,_,D,_,rfl,hs,hp D h5⟩⟩
 cases e<;>first|exact this|cases he

theorem KT{α:Type}{f:FuncId}{fn:Func}{c:Code}{cap:List Γ}{Dr:aC}{xs:List α}{enc:α→List Γ}(N:Nat)(hf:P.funcs[f]?= some fn)(hn:(fn.name== "runtime.NumGoroutine")=false)(hb:fn.body=some c)(hN:fn.ntmps=N)(hsz:Nat.ble (cap.length+1) N=true)
  (h:∀(lo l:Nat) (J Jx:List α→wC),(∀pre,T1 lo (J pre))→(∀pre,T1 lo (Jx pre))→
   (∀pre x β D w,(∃r,xs=pre++x::r)→G2 lo D w→J pre β D w→(∀b∈β,b<w.heap.size)→Le Dr D→
    jO P l (enc x) w fun b D' w'=>G2 lo D' w'∧G5 β D w D' w'∧(if b then J (pre++[x]) β D' w' else Jx (pre++[x]) β D' w'))→
   WC P (Xj N lo (J [])) (bodyPost P fn (AY lo [Dr] fun _ J' _=>J'=J xs∨∃pre,J'=Jx pre)) c (jY 0 (.func (.yield l) #[] #[]::cap)) [] [Dr]):u6 P f cap Dr xs enc:=by
 refine⟨EF.of hf hn hb,fun lo l J Jx hs hsx hY D w hd hle hJ=>?_⟩;have hF:=V3 (μ:=[]) N hf hn hb hN (by simpa using hsz) (h lo l J Jx hs hsx hY);refine(hF.2 w ⟨D,⟨bQA _,hd.2,fun b hb=>absurd hb (bPM _),fun b hb=>absurd hb (bPM _),hd.1,Yi,bNH,Yi,fun e he=>by cases he⟩,fun D₁ h1=>?_,hs [],hJ⟩).mono ?_
 ·simp only[bLS]at h1;subst h1;exact hle
 ·rintro e w' ⟨v,J',μ',rfl,⟨D',hst,hds,hex⟩,hpost⟩;refine⟨v,D',rfl,hst.dom,?_⟩;have hJ':J' [] D' w':=hex.1.own _ [] D' w' hex.2 (fun b hb=>by cases hb);rcases hpost with rfl|⟨pre,rfl⟩
  ·exact bLL hJ'
  ·exact bLG ⟨pre,hJ'⟩
theorem aRB{t e:Θ}{n b:Nat}(ho:all[ix]?= some ⟨some d,.slice t x none none none,ty,pos,aft,g⟩)(ht:P.underlying t=some (.array n e))(hs:TS P e 1)(hx:ev σ x=some (qP b))
  (hN:Nat.blt d X.N=true) (hg:dH all σ g) (kk:WL P X bad all K Q os ((d,qS b n n)::σ) μ Ds):WL P X bad all K Q ((fl,ix)::os) σ μ Ds:=
 bZ ho rfl rfl hN hg (fun ρ hρ w'=>by
  simp only[execOp,hρ x _ hx,bNQ];unfold Instr.sliceAt Instr.sureAddr Instr.sliceBounds;simp only[Ω,TU.of ht w',Ξ,hs w',ε,pure_bind,bPG,bPB];split<;>simp[Addr.add]) kk
theorem aLD{k k':IntKind}{s t:Θ}{n:Int}(ho:all[ix]?= some ⟨some d,.convert s t x,ty,pos,aft,g⟩)(hr:∀w,(Go.convert s t (.int k n)).run P w=.ok (.int k' n) w)(hx:ev σ x=some (.int k n))(hN:Nat.blt d X.N=true)(hg:dH all σ g)
  (kk:WL P X bad all K Q os ((d,.int k' n)::σ) μ Ds):WL P X bad all K Q ((fl,ix)::os) σ μ Ds:=
 bZ ho rfl rfl hN hg (fun ρ hρ w'=>by simp only[execOp,hρ x _ hx,Ω,hr w',Ξ,ε]) kk
theorem V9{t t':Θ}{b:Bool}(ho:all[ix]?= some ⟨some d,.binOp .eql t x y t',ty,pos,aft,g⟩)(hr:∀w,((do eqGuard .eql t x y u v;binOp .eql t u v):Sem Γ).run P w=.ok (.bool b) w)(hx:ev σ x=some u)(hy:ev σ y=some v)(hN:Nat.blt d X.N=true)(hg:dH all σ g)
  (kk:WL P X bad all K Q os ((d,.bool b)::σ) μ Ds):WL P X bad all K Q ((fl,ix)::os) σ μ Ds:=
 bZ ho rfl rfl hN hg (fun ρ hρ w'=>Xcu) kk
theorem PC{t t':Θ}{b:Bool}(ho:all[ix]?= some ⟨some d,.binOp .neq t x y t',ty,pos,aft,g⟩)(hr:∀w,((do eqGuard .neq t x y u v;binOp .neq t u v):Sem Γ).run P w=.ok (.bool b) w)(hx:ev σ x=some u)(hy:ev σ y=some v)(hN:Nat.blt d X.N=true)(hg:dH all σ g)
  (kk:WL P X bad all K Q os ((d,.bool b)::σ) μ Ds):WL P X bad all K Q ((fl,ix)::os) σ μ Ds:=
 bZ ho rfl rfl hN hg (fun ρ hρ w'=>Xcu) kk
theorem H4{t:Θ}{a b:Bool}(ht:P.underlying t=some .bool)(w:Δ):(Op.equal t (.bool a) (.bool b)).run P w=.ok (a==b) w:=by
 have h:(Op.equalIn (9999+1) t (.bool a) (.bool b)).run P w=.ok (a==b) w:=by
  rw[Op.equalIn,Ω,TU.of ht w];rfl
 exact h
theorem bFG{t t':Θ}{a b:Bool}(ho:all[ix]?= some ⟨some d,.binOp .eql t x y t',ty,pos,aft,g⟩)(ht:P.underlying t=some .bool)(hx:ev σ x=some (.bool a))(hy:ev σ y=some (.bool b))(hN:Nat.blt d X.N=true)(hg:dH all σ g)
  (kk:WL P X bad all K Q os ((d,.bool (a==b))::σ) μ Ds):WL P X bad all K Q ((fl,ix)::os) σ μ Ds:=
 V9 ho (fun w=>by
  have hg:(eqGuard .eql t x y (.bool a) (.bool b)).run P w=.ok () w:=rfl;rw[Ω,hg];show((do Pure.pure (Value.bool (←Op.equal t (.bool a) (.bool b)))):Sem Γ).run P w=_;rw[Ω,H4 ht];rfl) hx hy hN hg kk
theorem NQ{t t':Θ}{a b:Bool}(ho:all[ix]?= some ⟨some d,.binOp .neq t x y t',ty,pos,aft,g⟩)(ht:P.underlying t=some .bool)(hx:ev σ x=some (.bool a))(hy:ev σ y=some (.bool b))(hN:Nat.blt d X.N=true)(hg:dH all σ g)
  (kk:WL P X bad all K Q os ((d,.bool (!(a==b)))::σ) μ Ds):WL P X bad all K Q ((fl,ix)::os) σ μ Ds:=
 PC ho (fun w=>by
  have hg:(eqGuard .neq t x y (.bool a) (.bool b)).run P w=.ok () w:=rfl;rw[Ω,hg];show((do Pure.pure (Value.bool (!(←Op.equal t (.bool a) (.bool b))))):Sem Γ).run P w=_;rw[Ω,H4 ht];rfl) hx hy hN hg kk
theorem MI{n:Nat}(h:∀a w,Hl X σ μ Ds a w→Q .normal a w):WC P X Q (.label n) σ μ Ds:=fun a w hh=>wpIn_label (h a w hh)
theorem DR{t e:Θ}{n:Nat}{l:List Int}{k:IntKind}{i m:Int}(ho:all[ix]?= some ⟨some d,.index t x y,ty,pos,aft,g⟩)(ht:P.underlying t=some (.array n e))(ha:TA P e false)(hs:TS P e 1)(hx:ev σ x=some (.agg (ints l).toArray))(hy:ev σ y=some (.int k i))(h0:0≤i)(h1:i<n)(hm:l[i.toNat]?= some m)
  (hN:Nat.blt d X.N=true) (hg:dH all σ g) (kk:WL P X bad all K Q os ((d,qI m)::σ) μ Ds):WL P X bad all K Q ((fl,ix)::os) σ μ Ds:=
 bZ ho rfl rfl hN hg (fun ρ hρ w'=>by
  have hg:(ints l).toArray[i.toNat]?= some (qI m):=by simpa using cN hm
  simp only[execOp,hρ x _ hx,hρ y _ hy];unfold Instr.index asIntOf part;simp only[Ω,TU.of ht w',Ξ,hs w',ha w',ε,pure_bind,h0,h1,bPZ,bNM,bNL,bMU,bNU,hg]) kk
theorem eW(l m:List Int):ints l++ints m=ints (l++m):=by simp[ints]
theorem bDI{t f k ft:Nat}{cs:List Γ}{fs:Array Field}(ho:all[ix]?= some ⟨some d,.field t x f,ty,pos,aft,g⟩)(ht:P.underlying t=some (.struct fs))(hk:(fs[f]?).map (fun f=>(f.offset,f.type))=some (k,ft))(ha:TA P ft false)(hx:ev σ x=some (.agg cs.toArray))(hv:cs[k]?= some v)
  (hN:Nat.blt d X.N=true) (hg:dH all σ g) (kk:WL P X bad all K Q os ((d,v)::σ) μ Ds):WL P X bad all K Q ((fl,ix)::os) σ μ Ds:=
 bZ ho rfl rfl hN hg (fun ρ hρ w'=>by
  cases hf:fs[f]? with
  |none=>simp[hf]at hk
  |some f0=>
   simp only[hf,bMS,bPL,bOU]at hk;obtain⟨rfl,rfl⟩:=hk;have hv':cs.toArray[f0.offset]?= some v:=by simpa using hv
   simp only[execOp,hρ x _ hx];unfold Instr.field asAgg part;simp only[Ω,TU.of ht w',Ξ,hf,ha w',ε,pure_bind,bMU,bNU,hv']) kk
theorem iQ{t:Θ}{D₁:aC}{b k:Nat}{cs:List Γ}(ho:all[ix]?= some ⟨some d,.load t x,ty,pos,aft,g⟩)(ha:TA P t false)(hx:ev σ x=some (.pointer (some ⟨b,k,none⟩)))(hA:At D₁ b 0 cs)(hD:D₁∈Ds)(hv:cs[k]?= some v)(hb:b∉bad)
  (hN:Nat.blt d X.N=true) (hg:dH all σ g) (kk:WL P X bad all K Q os ((d,v)::σ) μ Ds):WL P X bad all K Q ((fl,ix)::os) σ μ Ds:=
 dZ (o:=0) (k:=k) ho ha (by rw[bOH];exact hx) hA hD hv hb hN hg kk
theorem CO{γ:Type}{c:Code}{N lo:Nat}{J0:wC}(m:γ→Nat)(I:γ→Prop)(J:γ→wC)(ch:γ→cD)(rest:cD)(M:γ→aD)(E:γ→List aC)(g₀:γ)(h₀:I g₀)(hJ:J0=J g₀)(hch:CG σ (ch g₀))(hrest:CG σ rest)(hμ:(M g₀).Sublist μ)(hD:∀D∈E g₀,∃D'∈Ds,Le D D')
  (round:∀g,I g→WC P (Xj N lo (J g)) (Exit.then (fun a w=>∃g',I g'∧m g'<m g∧Hl (Xj N lo (J g')) (ch g'++rest) (M g') (E g') a w) Q) c (ch g++rest) (M g) (E g)):WC P (Xj N lo J0) Q (.loop c) σ μ Ds:=by
 subst hJ
 let p:Act→Δ→Nat→Prop:=fun a w n=>∃g,I g∧m g=n∧Hl (Xj N lo (J g)) (ch g++rest) (M g) (E g) a w
 have ex:∀a w,(∃n,p a w n)→∃n,p a w n∧∀k,p a w k→n≤k:=by
  intro a w ⟨n,hn⟩;induction n using Nat.strongRecOn with
  |_ n ih=>
   by_cases h:∃k,k<n∧p a w k
   ·obtain⟨k,hk,hp⟩:=h;exact ih k hk hp
   ·exact⟨n,hn,fun k hk=>Nat.le_of_not_lt fun hl=>h ⟨k,hl,hk⟩⟩
 intro a w hh;refine wpIn_loop (fun a w=>∃n,p a w n) (fun a w=>open Classical in if h:∃n,p a w n then(ex a w h).choose else 0) ⟨_,g₀,h₀,rfl,hh.weak (CG.app hch hrest) hμ hD⟩ ?_;intro a w hI;obtain⟨⟨g,hg,hm,hst⟩,hmin⟩:=(ex a w hI).choose_spec;refine wpIn_mono (round g hg a w hst) fun e a' w' hq=>?_
 cases e with
 |normal=>
  obtain⟨g',hg',hlt,hst'⟩:=hq;have hI':∃n,p a' w' n:=⟨_,g',hg',rfl,hst'⟩
  refine⟨hI',?_⟩;simp only[dif_pos hI',dif_pos hI];have:=(ex a' w' hI').choose_spec.2 _ ⟨g',hg',rfl,hst'⟩;omega
 |_=>exact hq
theorem vY{γ:Type}{N lo:Nat}{J1:wC}{m:γ→Nat}{I:γ→Prop}{J:γ→wC}{ch:γ→cD}{rest:cD}{M:γ→aD}{E:γ→List aC}{g:γ}(n:Nat)(g':γ)(h1:I g')(h2:m g'<m g)(hJ:J1=J g')(hch:CG σ (ch g'))(hn:V2 n σ=true)(hr:σ.drop n=rest)(hμ:(M g').Sublist μ)(hD:∀D∈E g',∃D'∈Ds,Le D D'):
  ∀a w,Hl (Xj N lo J1) σ μ Ds a w→Exit.then (fun a w=>∃g',I g'∧m g'<m g∧Hl (Xj N lo (J g')) (ch g'++rest) (M g') (E g') a w) Q .normal a w:=by
 subst hJ;intro a w hh;refine⟨g',h1,h2,?_⟩;have h3:=hh.weak (σ':=ch g') hch hμ hD;refine⟨h3.1,fun s v hs=>?_,h3.2.2⟩;rcases AP hs with hs|hs
 ·exact h3.2.1 s v hs
 ·subst hr;exact hh.2.1 s v (P5 n σ hn s v hs)
theorem RA{J J1 J0:wC}{l N lo:Nat}{c:Operand}{xs:Array Operand}{ats:Array Θ}{vs:List Γ}(ho:all[ix]?= some ⟨some d,.call {callee:=.value c,args:=xs,argTypes:=ats},ty,pos,aft,g⟩)
  (hc:ev σ c=some (.func (.yield l) #[] #[])) (hxs:x5 σ xs.toList=some vs) (hfl:fl=false) (I:T1 lo J1) (O:T1 lo J0)
  (hY:∀D w,G2 lo D w→J (μ.map (·.1)) D w→(∀p∈μ,p.1<w.heap.size)→(∀D₁∈Ds,Le D₁ D)→jO P l vs w fun b D' w'=>G2 lo D' w'∧G5 (μ.map (·.1)) D w D' w'∧(if b then J1 (μ.map (·.1)) D' w' else J0 (μ.map (·.1)) D' w'))
  (hN:Nat.blt d N=true) (hg:dH all σ g)
  (kk:∀b J',J'=(if b=true then J1 else J0)→WL P (Xj N lo J') bad all K Q os ((d,.bool b)::σ) μ Ds):WL P (Xj N lo J) bad all K Q ((fl,ix)::os) σ μ Ds:=
 aWQ (X:=Xj N lo J) ho hc hxs rfl hfl rfl rfl I O hY hN hg (kk true J1 rfl) (kk false J0 rfl)
theorem pY{c:Code}(k:(μ.map (·.1)).Nodup→WC P X Q c σ μ Ds):WC P X Q c σ μ Ds:=fun a w hh=>k (by obtain⟨_,_,_,D,h4,_⟩:=hh;exact h4.nd) a w hh
theorem cQ{t:Θ}{b n:Nat}{vs us:List Γ}{e:Θ}{μ':aD}(ho:all[ix]?= some ⟨none,.store t x y,ty,pos,aft,g⟩)(hx:ev σ x=some (qP b))(hy:ev σ y=some v)(hv:v.cells=us.toArray)(hs:TS P t n)
  (hn:us.length=n) (hl:vs.length=n) (hm:bO μ b (.cells vs.toArray e (0,0)) (.cells us.toArray e (0,0)) μ') (hc1:∀u∈us,cell1 u=true) (hg:dH all σ g)
  (kk:WL P X bad all K Q os σ μ' Ds):WL P X bad all K Q ((false,ix)::os) σ μ Ds:=
 bP ho hx hy hv (by rw[hn];exact hs) hm Yd (by rw[List.take_zero,bOH,bMQ Yd];simp) hc1 hg kk
theorem _root_.Go.Fs.Zy{t:Θ}{b:Nat}{n:Nat}{vs:List Γ}{us:List Γ}{e:Θ}{μ':aD}(e9:(all[ix]?,ev σ x,ev σ y,v.cells)=(some ⟨none,.store t x y,ty,pos,aft,g⟩,some (qP b),some v,us.toArray))(hs:TS P t n)(hm:bO μ b (.cells vs.toArray e (0,0)) (.cells us.toArray e (0,0)) μ')(kk:WL P X bad all K Q os σ μ' Ds)(hn:us.length=n:=by exact Yb)(hl:vs.length=n:=by exact Yb)(hc1:∀u∈us,cell1 u=true:=by exact Yh)(hg:dH all σ g:=by exact bQK):WL P X bad all K Q ((false,ix)::os) σ μ Ds:=cQ (bLE (fun z=>z.1) e9) (bLE (fun z=>z.2.1) e9) (bLE (fun z=>z.2.2.1) e9) (bLE (fun z=>z.2.2.2) e9) hs hn hl hm hc1 hg kk
theorem _root_.Go.Fs.Zz{t:Θ}{b:Nat}{n:Nat}{vs:List Γ}{us:List Γ}{e:Θ}{μ':aD}(e9:(all[ix]?,ev σ x,ev σ y,v.cells)=(some ⟨none,.store t x y,ty,pos,aft,g⟩,some (qP b),some v,us.toArray))(hs:TS P t n)(hm:bO μ b (.cells vs.toArray e (0,0)) (.cells us.toArray e (0,0)) μ')(hc1:∀u∈us,cell1 u=true)(kk:WL P X bad all K Q os σ μ' Ds)(hn:us.length=n:=by exact Yb)(hl:vs.length=n:=by exact Yb)(hg:dH all σ g:=by exact bQK):WL P X bad all K Q ((false,ix)::os) σ μ Ds:=cQ (bLE (fun z=>z.1) e9) (bLE (fun z=>z.2.1) e9) (bLE (fun z=>z.2.2.1) e9) (bLE (fun z=>z.2.2.2) e9) hs hn hl hm hc1 hg kk
theorem cE{t e tr e':Θ}{n sz:Nat}{cells:List Γ}{ν:aD}{ats:Array Θ}(ho:all[ix]?= some ⟨some d,.call {callee:=.builtin .len,args:=#[x],argTypes:=ats},tr,pos,aft,g⟩)(ht:P.underlying t=some (.slice e))(hx:ev σ x=some v)(hS:bD e' sz v n cells ν)(hat:ats[0]?= some t)
  (hN:Nat.blt d X.N=true) (hg:dH all σ g) (kk:WL P X bad all K Q os ((d,qI (n:Int))::σ) μ Ds):
  WL P X bad all K Q ((fl,ix)::os) σ μ Ds:=
 bZ ho rfl rfl hN hg (fun ρ hρ w'=>by
  have hx':=hρ x _ hx;rcases hS with⟨a,rfl,rfl,_⟩|⟨b,cap,junk,rfl,_⟩
  ·simp[Builtin.len_,hat,hx',TU.of ht w',goInt,go_sem]
  ·simp[Builtin.len_,hat,hx',TU.of ht w',goInt,go_sem]) kk
theorem Hl.dropBoxes{a:Act}{w:Δ}(n:Nat)(h:Hl X σ μ Ds a w):Hl X σ (μ.drop n) Ds a w:=by
 obtain⟨h1,h2,h3,D,h4,h5,I⟩:=h;have hμ:(μ.drop n).Sublist μ:=List.drop_sublist n μ;exact⟨h1,h2,h3,D,h4.sub (fun p hp=>hμ.mem hp) ((hμ.map (·.1)).nodup h4.nd),h5,I.step (fun _ p hp=>bLL (bKX.2 ⟨p,hμ.mem hp,rfl⟩)) (fun _=>aVF.refl _ _ _) h4.dom⟩
theorem bD.cells1{e:Θ}{sz n:Nat}{cells:List Γ}{ν:aD}(h:bD e sz v n cells ν):v.cells=[v].toArray:=by
 rcases h with⟨a,rfl,_⟩|⟨b,cap,junk,rfl,_⟩<;>rfl
theorem bD.cell1{e:Θ}{sz n:Nat}{cells:List Γ}{ν:aD}(h:bD e sz v n cells ν):∀u∈[v],Fs.cell1 u=true:=by
 rcases h with⟨a,rfl,_⟩|⟨b,cap,junk,rfl,_⟩<;>simp[Fs.cell1]

theorem nW{b:Frame}{a:Act}{k:List Item}{cs:List Frame}{w:Δ}{c:Code}:step P (lone (b.atR a (.code (.scope c)::k)) cs w)=.next (lone (b.atR a (.code c::.inScope c::k)) cs w):=
 step_lone_go (by simp[stepG,stepG.exec,Frame.atR])
theorem EU{b:Frame}{a:Act}{k:List Item}{cs:List Frame}{w:Δ}{c:Code}:step P (lone (b.atR a (.inScope c::k)) cs w)=.next (lone (b.atR a k) cs w):=
 step_lone_go (by simp[stepG,stepG.exec,Frame.atR])
def o6(Q:Exit→Act→Δ→Prop):Exit→Act→Δ→Prop
 |.goto _,_,_=>False
 |e,a,w=>Q e a w
theorem NP.ngt{Q:Exit→Act→Δ→Prop}(h:NP Q):NP (o6 Q):=fun c a w q=>h c a w q
theorem PI.ngt{Q:Exit→Act→Δ→Prop}(h:PI Q):PI (o6 Q):=fun c a b w d q=>h c a b w d q
theorem VM{F:Fence}{n:Nat}{c:Code}{a:Act}{w:Δ}(h:c.wpIn F n P (o6 Q) a w):(Code.scope c).wpIn F n P Q a w:=by
 intro b k cs hro hb hr;have h0:(lone (b.atR a (.code (.scope c)::k)) cs w).fenced P F:=fenced_calm hb hr rfl;obtain⟨e,a₁,w₁,hq,harr⟩:=h b (.inScope c::k) cs hro hb hr;cases e with
 |normal=>exact⟨.normal,a₁,w₁,hq,.head h0 nW (StepsIn.trans harr (.one (fenced_calm hb hr rfl) EU))⟩
 |exit id'=>
  have hx:exitTo id' (.inScope c::k)=exitTo id' k:=by simp[exitTo]
  exact⟨.exit id',a₁,w₁,hq,fun k' hk=>.head h0 nW (harr.1 k' (by rw[hx];exact hk)),
   fun hr' hk=>let ⟨k₁,h1,h2⟩:=harr.2 hr' (by rw[hx];exact hk);⟨k₁,h1,.head h0 nW h2⟩⟩
 |goto l=>exact hq.elim
 |ret=>exact⟨_,a₁,w₁,hq,.of_steps (.one h0 nW) harr⟩
 |panic ch=>exact⟨_,a₁,w₁,hq,.of_steps (.one h0 nW) harr⟩
 |outgrown=>exact⟨_,a₁,w₁,hq,.of_steps (.one h0 nW) harr⟩
theorem aDO{c:Code}(h:WC P X (o6 Q) c σ μ Ds):WC P X Q (.scope c) σ μ Ds:=fun a w hh=>VM (h a w hh)
theorem B1(h:∀a w,Hl X σ μ Ds a w→Q .normal a w):∀a w,Hl X σ μ Ds a w→o6 Q .normal a w:=h
theorem V7(h:∀a w,Hl X σ μ Ds a w→Q .ret a w):∀a w,Hl X σ μ Ds a w→o6 Q .ret a w:=h
theorem aU(μ':aD)(h:μ=μ')(k:WL P X bad all K Q os σ μ' Ds):WL P X bad all K Q os σ μ Ds:=h▸k
theorem _root_.Go.Fs.Zac(μ':aD)(h:μ=μ')(k:WL P X bad all K Q os σ μ' Ds):WL P X bad all K Q os σ μ Ds:=aU μ' h k
theorem IH{c:Code}(μ':aD)(h:μ=μ')(k:WC P X Q c σ μ' Ds):WC P X Q c σ μ Ds:=h▸k
theorem Sl.cell1{α:Type}{R:Rd α}{D:aC}{sz:Nat}{v:Γ}{xs:List α}(h:Sl D R sz v xs):∀u∈[v],Fs.cell1 u=true:=by
 obtain⟨a,cap,rfl,_⟩:=h;simp[Fs.cell1]
open Go.Proofs Tryz

theorem bC:prog.follows .mixedOrders=true:=by kernel_rfl
theorem _root_.Go.Fs.U3:type_of% underlying3:=underlying3
theorem _root_.Go.Fs.U4:type_of% underlying4:=underlying4
theorem _root_.Go.Fs.U5:type_of% underlying5:=underlying5
theorem _root_.Go.Fs.U9:type_of% underlying9:=underlying9
theorem _root_.Go.Fs.U20:type_of% underlying20:=underlying20
theorem _root_.Go.Fs.U22:type_of% underlying22:=underlying22
theorem _root_.Go.Fs.U25:type_of% underlying25:=underlying25
theorem _root_.Go.Fs.U26:type_of% underlying26:=underlying26
theorem _root_.Go.Fs.U29:type_of% underlying29:=underlying29
theorem _root_.Go.Fs.U30:type_of% underlying30:=underlying30
theorem _root_.Go.Fs.U33:type_of% underlying33:=underlying33
theorem _root_.Go.Fs.U34:type_of% underlying34:=underlying34
theorem _root_.Go.Fs.U37:type_of% underlying37:=underlying37
theorem _root_.Go.Fs.U38:type_of% underlying38:=underlying38
theorem _root_.Go.Fs.U43:type_of% underlying43:=underlying43
theorem _root_.Go.Fs.U50:type_of% underlying50:=underlying50
theorem _root_.Go.Fs.U53:type_of% underlying53:=underlying53
theorem _root_.Go.Fs.U54:type_of% underlying54:=underlying54
theorem _root_.Go.Fs.U57:type_of% underlying57:=underlying57
theorem _root_.Go.Fs.U58:type_of% underlying58:=underlying58
theorem _root_.Go.Fs.U61:type_of% underlying61:=underlying61
theorem _root_.Go.Fs.U62:type_of% underlying62:=underlying62
theorem _root_.Go.Fs.U80:type_of% underlying80:=underlying80
theorem _root_.Go.Fs.U93:type_of% underlying93:=underlying93
theorem _root_.Go.Fs.U99:type_of% underlying99:=underlying99
theorem _root_.Go.Fs.U135:type_of% underlying135:=underlying135
theorem _root_.Go.Fs.U139:type_of% underlying139:=underlying139
theorem _root_.Go.Fs.U151:type_of% underlying151:=underlying151
theorem _root_.Go.Fs.U170:type_of% underlying170:=underlying170
theorem _root_.Go.Fs.U210:type_of% underlying210:=underlying210
theorem _root_.Go.Fs.U232:type_of% underlying232:=underlying232
theorem _root_.Go.Fs.U240:type_of% underlying240:=underlying240
theorem _root_.Go.Fs.U249:type_of% underlying249:=underlying249
theorem _root_.Go.Fs.U258:type_of% underlying258:=underlying258
theorem _root_.Go.Fs.U264:type_of% underlying264:=underlying264
theorem _root_.Go.Fs.U284:type_of% underlying284:=underlying284
theorem _root_.Go.Fs.U288:type_of% underlying288:=underlying288
theorem _root_.Go.Fs.U292:type_of% underlying292:=underlying292
theorem _root_.Go.Fs.U297:type_of% underlying297:=underlying297
theorem _root_.Go.Fs.U303:type_of% underlying303:=underlying303
theorem _root_.Go.Fs.U305:type_of% underlying305:=underlying305
theorem _root_.Go.Fs.U313:type_of% underlying313:=underlying313
theorem _root_.Go.Fs.U314:type_of% underlying314:=underlying314
theorem _root_.Go.Fs.U320:type_of% underlying320:=underlying320
theorem _root_.Go.Fs.U331:type_of% underlying331:=underlying331
theorem _root_.Go.Fs.U337:type_of% underlying337:=underlying337
theorem _root_.Go.Fs.U349:type_of% underlying349:=underlying349
theorem _root_.Go.Fs.U355:type_of% underlying355:=underlying355
theorem _root_.Go.Fs.U370:type_of% underlying370:=underlying370
theorem _root_.Go.Fs.U380:type_of% underlying380:=underlying380
theorem _root_.Go.Fs.U401:type_of% underlying401:=underlying401
theorem _root_.Go.Fs.U412:type_of% underlying412:=underlying412
theorem _root_.Go.Fs.U414:type_of% underlying414:=underlying414
abbrev υ:=TA prog
abbrev φ:=TF prog
abbrev χ:=TS prog
abbrev ι:=TZ prog
abbrev κ:=TP prog
abbrev ξ(t:Θ):Prop:=(prog.info? t).map (fun i=>Nat.ble 1 i.bytes&&Nat.ble i.bytes 4096)=some true
theorem ο{t:Θ}{i k ft n:Nat}{fs:Array Field}(h:prog.underlying t=some (.struct fs))(hs:TS prog ft n)(hk:(fs[i]?).map (fun f=>(f.offset,f.type))=some (k,ft):=by rfl)(hn:Nat.beq n 0=false:=by rfl):TF prog t i k:=TF.of h hk hs hn
theorem π{t:Θ}{n:Nat}(h:(prog.info? t).map (·.size)=some n:=by kernel_rfl):TS prog t n:=TS.of h
theorem δ{t:Θ}{v:Γ}(h:(prog.info? t).bind (·.zero)=some v:=by kernel_rfl):TZ prog t v:=TZ.of h
theorem η{t:Θ}{fs:Array Field}{pl:List (Nat×Nat)}(h:prog.underlying t=some (.struct fs))(hp:(fs.toList.map fun f=>(f.offset,prog.cellsOf f.type))=pl:=by kernel_rfl)(hi:(fs.toList.all fun f=>(prog.info? f.type).isSome)=true:=by kernel_rfl):TP prog t pl:=TP.of h hp hi
theorem θ{t:Θ}(h:(prog.info? t).map (fun i=>Nat.ble 1 i.bytes&&Nat.ble i.bytes 4096)=some true:=by kernel_rfl):ξ t:=h
theorem aH:υ 3 false:=TA.of underlying3 _ rfl
theorem aJ:χ 3 1:=π
theorem cK:ι 3 (qI 0):=δ
theorem kE:ξ 3:=θ
theorem a8:υ 4 false:=TA.of underlying4 _ rfl
theorem mS:χ 4 1:=π
theorem pW:ι 4 (.bool false):=δ
theorem aMP:υ 5 false:=TA.of underlying5 _ rfl
theorem mY:χ 5 1:=π
theorem aPS:ι 5 (.int .u8 0):=δ
theorem aPC:ξ 5:=θ
theorem wY:υ 9 false:=TA.of underlying9 _ rfl
theorem lS:χ 9 1:=π
theorem aED:ξ 9:=θ
theorem bX:υ 25 false:=TA.of underlying25 _ rfl
theorem fR:χ 25 1:=π
theorem vX:ι 25 (qN):=δ
theorem MW:ξ 25:=θ
theorem pL:υ 26 false:=TA.of underlying26 _ rfl
theorem u7:χ 26 1:=π
theorem jX:υ 28 true:=TA.of underlying28 _ rfl
theorem hC:χ 28 4:=π
theorem GW:ι 28 (.agg #[qN,qN,qI 0,qI 0]):=δ
theorem aVC:κ 28 [(0,1),(1,1),(2,1),(3,1)]:=η underlying28
theorem eN:φ 28 0 0:=ο underlying28 fR
theorem gF:φ 28 1 1:=ο underlying28 u7
theorem I0:φ 28 2 2:=ο underlying28 aJ
theorem zA:φ 28 3 3:=ο underlying28 aJ
theorem nN:υ 29 false:=TA.of underlying29 _ rfl
theorem FM:χ 29 1:=π
theorem pK:υ 30 false:=TA.of underlying30 _ rfl
theorem o8:χ 30 1:=π
theorem iS:υ 32 true:=TA.of underlying32 _ rfl
theorem fS:χ 32 5:=π
theorem GH:ι 32 (.agg #[qI 0,qN,qI 0,qN,qN]):=δ
theorem aMN:κ 32 [(0,1),(1,1),(2,1),(3,1),(4,1)]:=η underlying32
theorem lQ:φ 32 0 0:=ο underlying32 aJ
theorem fQ:φ 32 1 1:=ο underlying32 FM
theorem vN:φ 32 2 2:=ο underlying32 aJ
theorem kL:φ 32 3 3:=ο underlying32 fR
theorem gD:φ 32 4 4:=ο underlying32 o8
theorem fU:υ 33 false:=TA.of underlying33 _ rfl
theorem eP:χ 33 1:=π
theorem nZ:ι 33 (qN):=δ
theorem tD:υ 34 false:=TA.of underlying34 _ rfl
theorem FZ:χ 34 1:=π
theorem eT:υ 36 true:=TA.of underlying36 _ rfl
theorem dU:χ 36 5:=π
theorem T8:ι 36 (.agg #[qI 0,qI 0,qI 0,qN,qN]):=δ
theorem aNW:κ 36 [(0,1),(1,1),(2,1),(3,1),(4,1)]:=η underlying36
theorem qD:φ 36 0 0:=ο underlying36 aJ
theorem wB:φ 36 1 1:=ο underlying36 aJ
theorem I7:φ 36 2 2:=ο underlying36 aJ
theorem cS:φ 36 3 3:=ο underlying36 eP
theorem jG:φ 36 4 4:=ο underlying36 FZ
theorem kS:υ 37 false:=TA.of underlying37 _ rfl
theorem OD:χ 37 1:=π
theorem qE:υ 38 false:=TA.of underlying38 _ rfl
theorem DV:χ 38 1:=π
theorem kP:υ 40 true:=TA.of underlying40 _ rfl
theorem jA:χ 40 3:=π
theorem ZC:ι 40 (.agg #[qN,qI 0,qN]):=δ
theorem bET:κ 40 [(0,1),(1,1),(2,1)]:=η underlying40
theorem eO:φ 40 0 0:=ο underlying40 OD
theorem vV:φ 40 1 1:=ο underlying40 aJ
theorem hZ:φ 40 2 2:=ο underlying40 DV
theorem kG:υ 42 true:=TA.of underlying42 _ rfl
theorem eE:χ 42 17:=π
theorem oG:ι 42 (.agg #[qN,qN,qI 0,qI 0,qI 0,qN,qI 0,qN,qN,qI 0,qI 0,qI 0,qN,qN,qN,qI 0,qN]):=δ
theorem XU:κ 42 [(0,4),(4,5),(9,5),(14,3)]:=η underlying42
theorem dS:φ 42 0 0:=ο underlying42 hC
theorem cW:φ 42 1 4:=ο underlying42 fS
theorem eR:φ 42 2 9:=ο underlying42 dU
theorem eG:φ 42 3 14:=ο underlying42 jA
theorem tH:υ 44 false:=TA.of underlying44 _ rfl
theorem tG:χ 44 1:=π
theorem QN:ι 44 (qI 0):=δ
theorem bFB:ξ 44:=θ
theorem qM:υ 50 false:=TA.of underlying50 _ rfl
theorem DE:χ 50 1:=π
theorem x8:υ 52 true:=TA.of underlying52 _ rfl
theorem J5:χ 52 4:=π
theorem bGS:ι 52 (.agg #[qN,qN,qI 0,qI 0]):=δ
theorem bGR:κ 52 [(0,1),(1,1),(2,1),(3,1)]:=η underlying52
theorem jH:φ 52 0 0:=ο underlying52 fR
theorem iB:φ 52 1 1:=ο underlying52 DE
theorem GO:φ 52 2 2:=ο underlying52 aJ
theorem CY:φ 52 3 3:=ο underlying52 aJ
theorem qK:υ 53 false:=TA.of underlying53 _ rfl
theorem aPW:χ 53 1:=π
theorem tL:υ 54 false:=TA.of underlying54 _ rfl
theorem PO:χ 54 1:=π
theorem xN:υ 56 true:=TA.of underlying56 _ rfl
theorem tF:χ 56 5:=π
theorem bGG:ι 56 (.agg #[qI 0,qN,qI 0,qN,qN]):=δ
theorem bES:κ 56 [(0,1),(1,1),(2,1),(3,1),(4,1)]:=η underlying56
theorem X3:φ 56 0 0:=ο underlying56 aJ
theorem jV:φ 56 1 1:=ο underlying56 aPW
theorem m2:φ 56 2 2:=ο underlying56 aJ
theorem sT:φ 56 3 3:=ο underlying56 fR
theorem jS:φ 56 4 4:=ο underlying56 PO
theorem qW:υ 57 false:=TA.of underlying57 _ rfl
theorem EG:χ 57 1:=π
theorem y0:υ 58 false:=TA.of underlying58 _ rfl
theorem bGA:χ 58 1:=π
theorem aAU:υ 60 true:=TA.of underlying60 _ rfl
theorem EO:χ 60 5:=π
theorem bHO:ι 60 (.agg #[qI 0,qI 0,qI 0,qN,qN]):=δ
theorem bFM:κ 60 [(0,1),(1,1),(2,1),(3,1),(4,1)]:=η underlying60
theorem FI:φ 60 0 0:=ο underlying60 aJ
theorem aRL:φ 60 1 1:=ο underlying60 aJ
theorem aSF:φ 60 2 2:=ο underlying60 aJ
theorem iC:φ 60 3 3:=ο underlying60 EG
theorem yN:φ 60 4 4:=ο underlying60 bGA
theorem mN:υ 61 false:=TA.of underlying61 _ rfl
theorem aBL:χ 61 1:=π
theorem tI:υ 62 false:=TA.of underlying62 _ rfl
theorem QK:χ 62 1:=π
theorem pN:υ 64 true:=TA.of underlying64 _ rfl
theorem nE:χ 64 3:=π
theorem bGX:ι 64 (.agg #[qN,qI 0,qN]):=δ
theorem bGP:κ 64 [(0,1),(1,1),(2,1)]:=η underlying64
theorem gC:φ 64 0 0:=ο underlying64 aBL
theorem yC:φ 64 1 1:=ο underlying64 aJ
theorem jT:φ 64 2 2:=ο underlying64 QK
theorem mL:υ 66 true:=TA.of underlying66 _ rfl
theorem gR:χ 66 17:=π
theorem G3:ι 66 (.agg #[qN,qN,qI 0,qI 0,qI 0,qN,qI 0,qN,qN,qI 0,qI 0,qI 0,qN,qN,qN,qI 0,qN]):=δ
theorem sS:φ 66 0 0:=ο underlying66 J5
theorem nO:φ 66 1 4:=ο underlying66 tF
theorem yA:φ 66 2 9:=ο underlying66 EO
theorem nP:φ 66 3 14:=ο underlying66 nE
theorem mZ:υ 72 true:=TA.of underlying72 _ rfl
theorem eC:χ 72 2:=π
theorem nA:ι 72 (.agg #[qI 0,qI 0]):=δ
theorem U8:κ 72 [(0,1),(1,1)]:=η underlying72
theorem yU:φ 72 0 0:=ο underlying72 aJ
theorem yP:φ 72 1 1:=ο underlying72 aJ
theorem A2:υ 75 true:=TA.of underlying75 _ rfl
theorem jU:χ 75 2:=π
theorem tJ:ι 75 (.agg #[qI 0,qI 0]):=δ
theorem CV:κ 75 [(0,1),(1,1)]:=η underlying75
theorem TD:φ 75 0 0:=ο underlying75 aJ
theorem RH:φ 75 1 1:=ο underlying75 aJ
theorem aUN:υ 84 true:=TA.of underlying84 _ rfl
theorem aAH:χ 84 2:=π
theorem aOE:φ 84 0 0:=ο underlying84 aJ
theorem aNL:φ 84 1 1:=ο underlying84 aJ
theorem oA:υ 90 true:=TA.of underlying90 _ rfl
theorem cY:χ 90 2:=π
theorem kR:ι 90 (.agg #[qI 0,qI 0]):=δ
theorem XK:ξ 90:=θ
theorem t7:κ 90 [(0,1),(1,1)]:=η underlying90
theorem zB:φ 90 0 0:=ο underlying90 aJ
theorem xX:φ 90 1 1:=ο underlying90 aJ
theorem lL:υ 93 true:=TA.of underlying93 _ rfl
theorem cJ:χ 93 2:=π
theorem iG:ι 93 (.agg #[qI 0,qI 0]):=δ
theorem ET:ξ 93:=θ
theorem K9:κ 93 [(0,1),(1,1)]:=η underlying93
theorem vH:φ 93 0 0:=ο underlying93 aJ
theorem zP:φ 93 1 1:=ο underlying93 aJ
theorem bEJ:υ 99 false:=TA.of underlying99 _ rfl
theorem aUR:χ 99 1:=π
theorem aBR:υ 135 false:=TA.of underlying135 _ rfl
theorem aFM:χ 135 1:=π
theorem aWZ:χ 137 2:=π
theorem aZO:ι 137 (.agg #[.pointer none,qN]):=δ
theorem u0:φ 137 0 0:=ο underlying137 aFM
theorem LX:φ 137 1 1:=ο underlying137 aUR
theorem BW:υ 151 false:=TA.of underlying151 _ rfl
theorem BX:χ 151 1:=π
theorem aZJ:ι 151 (qN):=δ
theorem wP:υ 158 true:=TA.of underlying158 _ rfl
theorem iW:χ 158 2:=π
theorem tX:ι 158 (.agg #[qI 0,qI 0]):=δ
theorem bAS:ξ 158:=θ
theorem O2:κ 158 [(0,1),(1,1)]:=η underlying158
theorem zC:φ 158 0 0:=ο underlying158 aJ
theorem N5:φ 158 1 1:=ο underlying158 aJ
theorem aWO:υ 165 true:=TA.of underlying165 _ rfl
theorem sH:χ 165 2:=π
theorem CI:ι 165 (.agg #[qI 0,qI 0]):=δ
theorem aEG:ξ 165:=θ
theorem aYW:κ 165 [(0,1),(1,1)]:=η underlying165
theorem JU:φ 165 0 0:=ο underlying165 aJ
theorem KL:φ 165 1 1:=ο underlying165 aJ
theorem wJ:υ 170 false:=TA.of underlying170 _ rfl
theorem a7:χ 170 1:=π
theorem aEL:ι 170 (qN):=δ
theorem BZ:υ 172 false:=TA.of underlying172 _ rfl
theorem aFV:υ 175 false:=TA.of underlying175 _ rfl
theorem aXH:χ 175 1:=π
theorem aCU:χ 178 1:=π
theorem MQ:ι 178 (.agg #[.nilFunc]):=δ
theorem aVX:κ 178 [(0,1)]:=η underlying178
theorem JK:φ 178 0 0:=ο underlying178 aXH
theorem wK:υ 179 false:=TA.of underlying179 _ rfl
theorem aVY:χ 179 1:=π
theorem bCZ:ι 179 (.pointer none):=δ
theorem rE:υ 182 false:=TA.of underlying182 _ rfl
theorem BS:χ 182 1:=π
theorem CD:ι 182 (.nilFunc):=δ
theorem aEW:υ 183 false:=TA.of underlying183 _ rfl
theorem bDH:χ 183 1:=π
theorem aBN:ι 186 (.agg #[.nilFunc]):=δ
theorem aFU:κ 186 [(0,1)]:=η underlying186
theorem JD:φ 186 0 0:=ο underlying186 bDH
theorem bBY:υ 196 false:=TA.of underlying196 _ rfl
theorem O1:υ 202 true:=TA.of underlying202 _ rfl
theorem gJ:χ 202 3:=π
theorem nS:ι 202 (.agg #[.bool false,qI 0,qI 0]):=δ
theorem BV:ξ 202:=θ
theorem QM:κ 202 [(0,1),(1,1),(2,1)]:=η underlying202
theorem aJX:φ 202 0 0:=ο underlying202 mS
theorem s7:φ 202 1 1:=ο underlying202 aJ
theorem yI:φ 202 2 2:=ο underlying202 aJ
theorem X0:υ 204 true:=TA.of underlying204 _ rfl
theorem gW:χ 204 4:=π
theorem nQ:ι 204 (.agg #[qI 0,qI 0,qI 0,qI 0]):=δ
theorem CH:ξ 204:=θ
theorem PG:κ 204 [(0,1),(1,1),(2,2)]:=η underlying204
theorem JZ:φ 204 0 0:=ο underlying204 aJ
theorem KK:φ 204 1 1:=ο underlying204 aJ
theorem LF:φ 204 2 2:=ο underlying204 cJ
theorem lY:υ 206 true:=TA.of underlying206 _ rfl
theorem cF:χ 206 3:=π
theorem jM:ι 206 (.agg #[qI 0,qI 0,qI 0]):=δ
theorem O9:ξ 206:=θ
theorem QF:κ 206 [(0,1),(1,1),(2,1)]:=η underlying206
theorem y7:φ 206 0 0:=ο underlying206 aJ
theorem rX:φ 206 1 1:=ο underlying206 aJ
theorem nU:φ 206 2 2:=ο underlying206 aJ
theorem i7:υ 208 true:=TA.of underlying208 _ rfl
theorem lE:χ 208 3:=π
theorem sL:ι 208 (.agg #[qI 0,qI 0,qI 0]):=δ
theorem NS:ξ 208:=θ
theorem MM:κ 208 [(0,1),(1,2)]:=η underlying208
theorem P4:φ 208 0 0:=ο underlying208 aJ
theorem p4:φ 208 1 1:=ο underlying208 eC
theorem oW:υ 210 true:=TA.of underlying210 _ rfl
theorem nT:χ 210 3:=π
theorem m3:ι 210 (.agg #[qI 0,qI 0,qI 0]):=δ
theorem aVV:ξ 210:=θ
theorem X9:υ 212 true:=TA.of underlying212 _ rfl
theorem iX:χ 212 4:=π
theorem uD:ι 212 (.agg #[qI 0,qI 0,qI 0,qI 0]):=δ
theorem NZ:ξ 212:=θ
theorem aCG:κ 212 [(0,1),(1,3)]:=η underlying212
theorem p9:φ 212 0 0:=ο underlying212 aJ
theorem O5:φ 212 1 1:=ο underlying212 nT
theorem OC:υ 224 true:=TA.of underlying224 _ rfl
theorem lD:χ 224 3:=π
theorem uF:ι 224 (.agg #[.bool false,qI 0,qI 0]):=δ
theorem MS:ξ 224:=θ
theorem aFW:κ 224 [(0,1),(1,1),(2,1)]:=η underlying224
theorem y1:φ 224 0 0:=ο underlying224 mS
theorem O4:φ 224 1 1:=ο underlying224 aJ
theorem uX:φ 224 2 2:=ο underlying224 aJ
theorem NU:υ 227 true:=TA.of underlying227 _ rfl
theorem mR:χ 227 4:=π
theorem M7:ι 227 (.agg #[qI 0,qI 0,qI 0,qI 0]):=δ
theorem aFB:ξ 227:=θ
theorem aYQ:κ 227 [(0,1),(1,1),(2,2)]:=η underlying227
theorem t6:φ 227 0 0:=ο underlying227 aJ
theorem n8:φ 227 1 1:=ο underlying227 aJ
theorem N2:φ 227 2 2:=ο underlying227 iW
theorem CE:χ 230 3:=π
theorem KG:φ 230 0 0:=ο underlying230 aJ
theorem JN:φ 230 1 1:=ο underlying230 aAH
theorem sI:υ 232 true:=TA.of underlying232 _ rfl
theorem fD:χ 232 3:=π
theorem wR:ι 232 (.agg #[qI 0,qI 0,qI 0]):=δ
theorem aZM:ξ 232:=θ
theorem oX:χ 234 4:=π
theorem BR:ι 234 (.agg #[qI 0,qI 0,qI 0,qI 0]):=δ
theorem aCK:ξ 234:=θ
theorem bDF:κ 234 [(0,1),(1,3)]:=η underlying234
theorem zH:φ 234 0 0:=ο underlying234 aJ
theorem P1:φ 234 1 1:=ο underlying234 fD
theorem uO:υ 240 true:=TA.of underlying240 _ rfl
theorem pF:χ 240 4:=π
theorem bBO:ι 240 (.agg #[qI 0,qI 0,qI 0,qI 0]):=δ
theorem lA:υ 242 true:=TA.of underlying242 _ rfl
theorem eB:χ 242 10:=π
theorem wQ:ι 242 (.agg #[qI 0,qI 0,qI 0,qI 0,qI 0,qI 0,qI 0,qI 0,qI 0,qI 0]):=δ
theorem aYV:ξ 242:=θ
theorem aWI:κ 242 [(0,4),(4,4),(8,1),(9,1)]:=η underlying242
theorem uU:φ 242 0 0:=ο underlying242 pF
theorem uY:φ 242 1 4:=ο underlying242 pF
theorem pQ:φ 242 2 8:=ο underlying242 aJ
theorem s8:φ 242 3 9:=ο underlying242 aJ
theorem aXJ:υ 243 false:=TA.of underlying243 _ rfl
theorem BY:υ 244 false:=TA.of underlying244 _ rfl
theorem bAW:χ 244 1:=π
theorem aXT:ι 244 (.pointer none):=δ
theorem L9:υ 249 false:=TA.of underlying249 _ rfl
theorem aCH:χ 249 1:=π
theorem bCP:ι 251 (.agg #[qN,qN,qI 0,qI 0,qN]):=δ
theorem bBQ:κ 251 [(0,4),(4,1)]:=η underlying251
theorem rN:φ 251 1 4:=ο underlying251 aCH
theorem aFD:υ 254 true:=TA.of underlying254 _ rfl
theorem kC:χ 254 3:=π
theorem qO:ι 254 (.agg #[qI 0,qI 0,qI 0]):=δ
theorem CP:ξ 254:=θ
theorem CM:κ 254 [(0,1),(1,1),(2,1)]:=η underlying254
theorem O7:φ 254 0 0:=ο underlying254 aJ
theorem P3:φ 254 1 1:=ο underlying254 aJ
theorem uP:φ 254 2 2:=ο underlying254 aJ
theorem kX:υ 258 true:=TA.of underlying258 _ rfl
theorem eF:χ 258 9:=π
theorem uG:ι 258 (.agg #[qI 0,qI 0,qI 0,qI 0,qI 0,qI 0,qI 0,qI 0,qI 0]):=δ
theorem aXP:ξ 258:=θ
theorem BL:υ 264 true:=TA.of underlying264 _ rfl
theorem uA:χ 264 10:=π
theorem aZI:ι 264 (.agg #[qI 0,qI 0,qI 0,qI 0,qI 0,qI 0,qI 0,qI 0,qI 0,qI 0]):=δ
theorem aEY:υ 267 false:=TA.of underlying267 _ rfl
theorem bAK:χ 267 1:=π
theorem bDG:ι 267 (.nilFunc):=δ
theorem NM:υ 269 false:=TA.of underlying269 _ rfl
theorem aXD:χ 269 1:=π
theorem bAQ:ι 269 (.nilFunc):=δ
theorem bAN:υ 273 true:=TA.of underlying273 _ rfl
theorem uN:χ 273 2:=π
theorem wT:ι 273 (.agg #[qI 0,qI 0]):=δ
theorem OO:ξ 273:=θ
theorem bAD:κ 273 [(0,1),(1,1)]:=η underlying273
theorem aIT:φ 273 0 0:=ο underlying273 aJ
theorem aME:φ 273 1 1:=ο underlying273 aJ
theorem aCA:υ 292 false:=TA.of underlying292 _ rfl
theorem l5:χ 292 1:=π
theorem NG:ι 292 (qN):=δ
theorem bCJ:ξ 292:=θ
theorem aYU:υ 293 false:=TA.of underlying293 _ rfl
theorem aYP:υ 295 false:=TA.of underlying295 _ rfl
theorem aDS:υ 297 false:=TA.of underlying297 _ rfl
theorem bBZ:χ 297 1:=π
theorem aZY:ι 299 (.agg #[qN,qI 0,qN,.map none]):=δ
theorem aWR:κ 299 [(0,3),(3,1)]:=η underlying299
theorem P6:φ 299 0 0:=ο underlying299 jA
theorem KQ:φ 299 1 3:=ο underlying299 bBZ
theorem OG:υ 303 false:=TA.of underlying303 _ rfl
theorem bAC:χ 303 1:=π
theorem aVR:ι 303 (qN):=δ
theorem Z2:υ 305 true:=TA.of underlying305 _ rfl
theorem B9:χ 305 7:=π
theorem uI:υ 307 true:=TA.of underlying307 _ rfl
theorem iJ:χ 307 9:=π
theorem wZ:ι 307 (.agg #[qI 0,qI 0,qI 0,qI 0,qI 0,qI 0,qI 0,qI 0,qI 0]):=δ
theorem MZ:ξ 307:=θ
theorem N0:φ 307 0 0:=ο underlying307 aJ
theorem u9:φ 307 1 1:=ο underlying307 aJ
theorem O8:φ 307 2 2:=ο underlying307 B9
theorem aEO:υ 313 false:=TA.of underlying313 _ rfl
theorem aXE:χ 313 1:=π
theorem uL:υ 314 false:=TA.of underlying314 _ rfl
theorem aCN:χ 314 1:=π
theorem aXM:ι 316 (.agg #[qI 0,qN,qI 0,qN,qN,qN,.map none]):=δ
theorem bBM:κ 316 [(0,5),(5,1),(6,1)]:=η underlying316
theorem IL:φ 316 0 0:=ο underlying316 fS
theorem mI:φ 316 1 5:=ο underlying316 aCN
theorem LO:φ 316 2 6:=ο underlying316 aXE
theorem pG:υ 320 true:=TA.of underlying320 _ rfl
theorem kA:χ 320 10:=π
theorem Z1:ι 320 (.agg #[qI 0,qI 0,qI 0,qI 0,qI 0,qI 0,qI 0,qI 0,qI 0,qI 0]):=δ
theorem aXQ:ξ 320:=θ
theorem aVW:χ 323 2:=π
theorem aFN:ι 323 (.agg #[qI 0,qI 0]):=δ
theorem aZP:κ 323 [(0,1),(1,1)]:=η underlying323
theorem aLX:φ 323 0 0:=ο underlying323 aJ
theorem aJT:φ 323 1 1:=ο underlying323 aJ
theorem aZK:χ 331 1:=π
theorem aDP:ι 331 (.agg #[qI 0]):=δ
theorem aWU:κ 331 [(0,1)]:=η underlying331
theorem aJH:φ 331 0 0:=ο underlying331 tG
theorem aZC:υ 333 false:=TA.of underlying333 _ rfl
theorem aZD:χ 333 1:=π
theorem aWE:χ 335 2:=π
theorem fH:ι 335 (.agg #[qI 0,.nilFunc]):=δ
theorem hG:κ 335 [(0,1),(1,1)]:=η underlying335
theorem aGP:φ 335 0 0:=ο underlying335 aJ
theorem aHV:φ 335 1 1:=ο underlying335 aZD
theorem aWW:ι 343 (.agg #[qN,qN,qI 0,qI 0,qI 0,qN,qI 0,qN,qN,qI 0,qI 0,qI 0,qN,qN,qN,qI 0,qN]):=δ
theorem aXA:κ 343 [(0,17)]:=η underlying343
theorem bA:φ 343 0 0:=ο underlying343 eE
theorem b6:υ 349 false:=TA.of underlying349 _ rfl
theorem aZV:χ 349 1:=π
theorem lB:ι 349 (qN):=δ
theorem aWJ:υ 358 false:=TA.of underlying358 _ rfl
theorem aYD:υ 361 false:=TA.of underlying361 _ rfl
theorem bAX:υ 363 false:=TA.of underlying363 _ rfl
theorem aZN:υ 364 false:=TA.of underlying364 _ rfl
theorem NT:υ 370 false:=TA.of underlying370 _ rfl
theorem aZU:χ 370 1:=π
theorem aDT:ι 372 (.agg #[qI 0,qI 0,qI 0,qN,qN,.map none]):=δ
theorem aEJ:κ 372 [(0,5),(5,1)]:=η underlying372
theorem zI:φ 372 0 0:=ο underlying372 dU
theorem p7:φ 372 1 5:=ο underlying372 aZU
theorem BP:χ 381 2:=π
theorem PM:ι 381 (.agg #[qI 0,qI 0]):=δ
theorem aYZ:ξ 381:=θ
theorem aXZ:κ 381 [(0,1),(1,1)]:=η underlying381
theorem aJB:φ 381 0 0:=ο underlying381 aJ
theorem aIW:φ 381 1 1:=ο underlying381 aJ
theorem aWY:υ 383 false:=TA.of underlying383 _ rfl
theorem aEB:υ 387 true:=TA.of underlying387 _ rfl
theorem aFA:χ 387 8:=π
theorem OK:ι 387 (.agg #[qI 0,qI 0,qI 0,qI 0,qI 0,qI 0,qI 0,qI 0]):=δ
theorem PK:κ 387 [(0,1),(1,7)]:=η underlying387
theorem z7:φ 387 0 0:=ο underlying387 aJ
theorem y3:φ 387 1 1:=ο underlying387 B9
theorem aZQ:υ 389 false:=TA.of underlying389 _ rfl
theorem bCY:υ 391 false:=TA.of underlying391 _ rfl
theorem bDA:υ 394 false:=TA.of underlying394 _ rfl
theorem bAM:χ 412 3:=π
theorem bCK:ι 412 (.agg #[.int .u8 0,.int .u8 0,.int .u8 0]):=δ
theorem aEN:υ 414 true:=TA.of underlying414 _ rfl
theorem B3:χ 414 4:=π
theorem aCF:ι 414 (.agg #[.int .u8 0,.int .u8 0,.int .u8 0,.int .u8 0]):=δ
theorem bCT:υ 416 true:=TA.of underlying416 _ rfl
theorem BO:χ 416 7:=π
theorem PT:ι 416 (.agg #[.int .u8 0,.int .u8 0,.int .u8 0,.int .u8 0,.int .u8 0,.int .u8 0,.int .u8 0]):=δ
theorem bDD:κ 416 [(0,3),(3,4)]:=η underlying416
theorem q9:φ 416 0 0:=ο underlying416 bAM
theorem aJM:φ 416 1 3:=ο underlying416 B3
theorem aVZ:υ 420 false:=TA.of underlying420 _ rfl
theorem NO:υ 433 true:=TA.of underlying433 _ rfl
theorem CF:χ 433 9:=π
theorem P7:ι 433 (.agg #[qI 0,qI 0,qI 0,qI 0,qI 0,qI 0,qI 0,qI 0,qI 0]):=δ
theorem NW:κ 433 [(0,1),(1,4),(5,4)]:=η underlying433
theorem ML:υ 455 false:=TA.of underlying455 _ rfl
theorem bAO:χ 455 1:=π
theorem bBW:ι 458 (.agg #[.nilFunc]):=δ
theorem bBE:κ 458 [(0,1)]:=η underlying458
theorem s9:φ 458 0 0:=ο underlying458 bAO

end Go.Fs
namespace Go.Fs.C1
structure uV where
 back:Bool
 many:Int
 num:Int
 deriving DecidableEq
structure dB where
 places:List Int
 counts:List uV
 wrong:Int
 off:Int
 deriving DecidableEq
def gZ(n lo hi:Int):Bool:=decide (lo≤n)&&decide (n≤hi)
def tW(n:Int):Bool:=gZ n 0 2
def sX(len:Nat)(c:uV):Bool:=gZ c.many 0 len&&gZ c.num 0 9
def bB(r:dB):Int:=
 if 9<r.places.length∨6<r.counts.length then 3
 else if r.places.length=0∨gZ r.wrong 0 6=false∨gZ r.off 0 9=false∨r.places.all tW=false∨r.counts.all (sX r.places.length)=false then 1
 else 0
def dK(l:List Int):Nat:=(l.filter (· ==2)).length
def qY(t p:Int):Bool:=gZ t 0 1&&(p==2||t==p)
def eJ(r:dB)(t:List Int):Bool:=(t.length==r.places.length)&&(t.zip r.places).all fun x=>qY x.1 x.2
def dT(l:List Int)(i k:Nat):Int:=((l.drop i).take k).sum
def L8(t:List Int)(c:uV):Int:=if c.back then dT t (t.length-c.many.toNat) c.many.toNat else dT t 0 c.many.toNat
def gP(t:List Int)(c:uV):Int:=max (L8 t c-c.num) (c.num-L8 t c)
def eS(r:dB)(t:List Int):Bool:=r.counts.all fun c=>decide (gP t c≤r.off)
def rO(r:dB)(t:List Int):Nat:=(r.counts.filter fun c=>decide (0<gP t c)).length
def cG:List Int→List (List Int)
 | []=>[[]]
 |p::ps=>(if p=2∨p=0 then(cG ps).map (0:: ·)else [])++(if p=2∨p=1 then(cG ps).map (1:: ·)else [])
def fits(r:dB)(t:List Int):Bool:=eS r t&&decide ((rO r t:Int)≤r.wrong)
def truths(r:dB):List (List Int):=(cG r.places).filter (fits r)
def qR(t:List Int)(i j:Nat):Int:=dT t i (j+1-i)
def tN:List Int→Int
 | []=>0
 |x::xs=>xs.foldl min x
def rK:List Int→Int
 | []=>0
 |x::xs=>xs.foldl max x

theorem B8{l:List Int}{i k:Nat}{x:Int}(h:l[i+k]?= some x):dT l i (k+1)=dT l i k+x:=by
 unfold dT;rw[bLA,bNS,h];simp
theorem eX{l:List Int}(hb:∀x∈l,0≤x∧x≤1)(i k:Nat):0≤dT l i k∧dT l i k≤k:=by
 induction k with
 |zero=>simp[dT]
 |succ k ih=>
  cases h:l[i+k]? with
  |none=>
   have:dT l i (k+1)=dT l i k:=by
    unfold dT;rw[bLA,bNS,h];simp
   rw[this];omega
  |some x=>rw[B8 h];have:=hb x (GT h);omega
theorem S1(l:List Int)(i k m:Nat):dT l i (k+m)=dT l i k+dT l (i+k) m:=by
 unfold dT;rw[List.take_add,List.drop_drop];simp
def gM(t:List Int):List Int:=t++List.replicate (9-t.length) 0
theorem iP{t:List Int}(h:t.length≤9):(gM t).length=9:=by simp[gM];omega
theorem aAL{t:List Int}(h:∀x∈t,0≤x∧x≤1):∀x∈gM t,0≤x∧x≤1:=by
 intro x hx;rcases bLM.1 hx with hx|hx
 ·exact h x hx
 ·rw[(List.mem_replicate.1 hx).2];omega
theorem V1(n:Nat):(List.replicate n (0:Int)).sum=0:=by
 induction n with
 |zero=>rfl
 |succ n ih=>rw[List.replicate_succ,List.sum_cons,ih];rfl
theorem VA(t:List Int)(k:Nat):dT (gM t) 0 k=dT t 0 k:=by
 unfold dT gM;simp only[bOY,List.take_append,List.sum_append,List.take_replicate,V1];omega
def oD(c:List Int):List Int:=(List.range 10).map fun k=>dT c 0 k
def sO(c:List Int)(k:Nat):List Int:=(List.range 10).map fun j=>if j≤k then dT c 0 j else 0
theorem sJ(c:List Int):(oD c).length=10:=by simp[oD]
theorem DD(c:List Int)(k:Nat):(sO c k).length=10:=by simp[sO]
theorem PA(c:List Int):sO c 9=oD c:=by simp[sO,oD,List.range,List.range.loop]
theorem RK(c:List Int)(k:Nat)(h:k<10):(sO c k)[k]?= some (dT c 0 k):=by simp[sO,h]
theorem TG(c:List Int)(k:Nat):(sO c k).set (k+1) (dT c 0 (k+1))=sO c (k+1):=by
 apply List.ext_getElem?;intro j;rw[List.getElem?_set];simp only[sO,bMI];by_cases hj:k+1=j
 ·subst hj;by_cases hk:k+1<10
  ·simp[hk]
  ·simp[hk]
 ·rw[bLI hj];by_cases hk:j<10
  ·simp only[bPN hk,bMS];by_cases h1:j≤k
   ·rw[bLR h1,bLR Yd]
   ·rw[bLI h1,bLI Yd]
  ·simp[hk]
theorem vF(c:List Int)(k:Nat)(h:k<10):(oD c)[k]?= some (dT c 0 k):=by simp[oD,h]
theorem aAO(t:List Int):oD (gM t)=oD t:=by simp[oD,VA]

structure mP(r:dB):Prop where
 len0:0<r.places.length
 len9:r.places.length≤9
 cnt6:r.counts.length≤6
 wrong:0≤r.wrong∧r.wrong≤6
 off:0≤r.off∧r.off≤9
 place:∀p∈r.places,0≤p∧p≤2
 cnt:∀c∈r.counts,0≤c.many∧c.many≤r.places.length∧0≤c.num∧c.num≤9
theorem bT{n lo hi:Int}:gZ n lo hi=true ↔ lo≤n∧n≤hi:=by simp[gZ]
theorem n6{r:dB}:bB r=0 ↔ mP r:=by
 unfold bB;constructor
 ·intro h;split at h
  ·cases h
  ·split at h
   ·cases h
   ·rename_i h1 h2;simp only[bQE]at h1 h2;obtain⟨a,b,c,d,e⟩:=h2;simp only[Bool.not_eq_false,bLX,tW,sX,bKW,bT]at b c d e;exact⟨Yd,Yd,Yd,b,c,d,fun x hx=>⟨(e x hx).1.1,(e x hx).1.2,(e x hx).2.1,(e x hx).2.2⟩⟩
 ·intro h;rw[bLI (by have:=h.len9;have:=h.cnt6;omega),bLI]
  simp only[bQE,Bool.not_eq_false,bLX,tW,sX,bKW,bT];exact⟨by have:=h.len0;omega,h.wrong,h.off,h.place,fun x hx=>⟨⟨(h.cnt x hx).1,(h.cnt x hx).2.1⟩,(h.cnt x hx).2.2⟩⟩
def pA(r:dB)(t:List Int):Prop:=t.length=r.places.length∧∀x∈t,0≤x∧x≤1
def bKN(r:dB)(t:List Int):Bool:=(t.length==r.places.length)&&t.all (fun x=>gZ x 0 1)&&(t.zip r.places).all fun x=>x.2==2||x.1==x.2
theorem Y8{α β:Type}{p:α→Bool}:∀{l:List α} {m:List β},l.length=m.length→((l.zip m).all fun x=>p x.1)=l.all p
 | [],[],_=>rfl
 |a::l,b::m,h=>by simp only[bOS,bOZ];rw[Y8 Yax]
theorem bER(r:dB)(t:List Int):bKN r t=eJ r t:=by
 unfold bKN eJ qY;by_cases h:t.length=r.places.length
 ·rw[←Y8 h];simp only[h,beq_self_eq_true,bPE];rw[bOC];simp only[bKW,bLX];constructor
  ·rintro⟨h1,h2⟩ x hx;exact⟨h1 x hx,h2 x hx⟩
  ·intro h;exact⟨fun x hx=>(h x hx).1,fun x hx=>(h x hx).2⟩
 ·have:(t.length==r.places.length)=false:=by simpa using h
  simp[this]
theorem WV{r:dB}{t:List Int}(h:eJ r t=true):pA r t:=by
 rw[←bER]at h;simp only[bKN,bKW,bPX,bLX,bT]at h;exact⟨h.1.1,h.1.2⟩
theorem XJ{r:dB}{t:List Int}{c:uV}(ht:pA r t)(h0:0≤c.many)(h1:c.many≤r.places.length):
  L8 t c=if c.back then dT t 0 t.length-dT t 0 (t.length-c.many.toNat)else dT t 0 c.many.toNat:=by
 unfold L8;split
 ·have h:=S1 t 0 (t.length-c.many.toNat) c.many.toNat;rw[show t.length-c.many.toNat+c.many.toNat=t.length by rw[ht.1];omega,bOH]at h
  omega
 ·rfl
theorem AH{r:dB}{t:List Int}{c:uV}(ht:pA r t)(_h0:0≤c.many)(h1:c.many≤r.places.length)(I:r.places.length≤9):0≤L8 t c∧L8 t c≤9:=by
 unfold L8;split
 ·have:=eX ht.2 (t.length-c.many.toNat) c.many.toNat;omega
 ·have:=eX ht.2 0 c.many.toNat;omega
theorem TV{r:dB}{t:List Int}{c:uV}(hr:mP r)(ht:pA r t)(hc:c∈r.counts):0≤gP t c∧gP t c≤9:=by
 obtain⟨a,b,d,e⟩:=hr.cnt c hc;have:=AH ht a b hr.len9;unfold gP;omega

def RF(p:Int)(ps pre:List Int)(k:Nat):List (List Int):=(List.range k).flatMap fun(m:Nat)=>if p=2∨p=(m:Int)then(cG ps).map (fun t=>gM (pre++(m:Int)::t))else []
theorem aVG{p:Int}{ps pre:List Int}:RF p ps pre 0=[]:=rfl
theorem bGW{p:Int}{ps pre:List Int}{k:Nat}(h:¬(p=2∨p=(k:Int))):RF p ps pre (k+1)=RF p ps pre k:=by
 unfold RF;rw[bMN,bLN];simp[h]
theorem aFL{p:Int}{ps pre:List Int}{k:Nat}(h:p=2∨p=(k:Int)):RF p ps pre (k+1)=RF p ps pre k++(cG ps).map (fun t=>gM (pre++[(k:Int)]++t)):=by
 unfold RF;rw[bMN,bLN];simp[h]
theorem aDF{p:Int}{ps pre:List Int}:RF p ps pre 2=(cG (p::ps)).map (fun t=>gM (pre++t)):=by
 by_cases h2:p=2
 ·simp[RF,cG,List.range,List.range.loop,Function.comp_def,h2]
 ·by_cases h0:p=0
  ·simp[RF,cG,List.range,List.range.loop,Function.comp_def,h0]
  ·by_cases h1:p=1
   ·simp[RF,cG,List.range,List.range.loop,Function.comp_def,h1]
   ·have:¬(1:Int)=p:=fun e=>h1 e.symm
    simp[RF,cG,List.range,List.range.loop,h2,h0,h1]
theorem aOZ{p:Int}{ps pre:List Int}{k:Nat}(hk:k<2):∃r,RF p ps pre 2=RF p ps pre (k+1)++r:=by
 rcases(by omega:k=0∨k=1)with rfl|rfl
 ·refine⟨if p=2∨p=1 then(cG ps).map (fun t=>gM (pre++1::t))else [],?_⟩;simp[RF,List.range,List.range.loop]
 ·exact⟨[],Ye⟩
theorem TH{pre c:List Int}{n:Nat}(_h9:c.length=9)(hp:c.take n=pre)(hn:pre.length=n)(hz:c.drop n=List.replicate (9-n) 0):c=gM pre:=by
 rw[←bOJ n c,hp,hz];unfold gM;rw[hn]
theorem YG{pre c:List Int}{i n:Nat}{k:Int}(I:c.length=9)(hi:i<n)(hn:n≤9)(hp:c.take i=pre)(hz:c.drop n=List.replicate (9-n) 0):
  (c.set i k).length=9∧(c.set i k).take (i+1)=pre++[k]∧(c.set i k).drop n=List.replicate (9-n) 0:=by
 refine⟨by simpa using I,?_,?_⟩
 ·rw[List.take_succ_eq_append_getElem Yaq,List.take_set_of_le (bLQ _),hp];simp
 ·rw[List.drop_set_of_lt hi,hz]
theorem sR(l:List Int):(cG l).length≤2^l.length:=by
 induction l with
 |nil=>simp[cG]
 |cons p ps ih=>
  simp only[cG,GE,bLF,Nat.pow_succ];have:∀(c:Prop) [Decidable c] (f:List Int→List Int),(if c then(cG ps).map f else []).length≤(cG ps).length:=by intro c _ f;split<;>simp
  have h1:=this (p=2∨p=0) (0:: ·);have h2:=this (p=2∨p=1) (1:: ·);omega
theorem qQ{l t:List Int}(h:t∈cG l):t.length=l.length∧∀x∈t,0≤x∧x≤1:=by
 induction l generalizing t with
 |nil=>simp[cG]at h;subst h;simp
 |cons p ps ih=>
  simp only[cG,bLM]at h;rcases h with h|h
  ·split at h
   ·obtain⟨t',ht',rfl⟩:=bKX.1 h;refine⟨by simp[(ih ht').1],fun x hx=>?_⟩;rcases bNA.1 hx with rfl|hx
    ·omega
    ·exact(ih ht').2 x hx
   ·simp at h
  ·split at h
   ·obtain⟨t',ht',rfl⟩:=bKX.1 h;refine⟨by simp[(ih ht').1],fun x hx=>?_⟩;rcases bNA.1 hx with rfl|hx
    ·omega
    ·exact(ih ht').2 x hx
   ·simp at h
theorem O6{places x:List Int}{pre r:List (List Int)}(h:(cG places).map gM=pre++x::r):∃t,(cG places)[pre.length]?= some t∧x=gM t∧t∈cG places∧(cG places).take (pre++[x]).length=(cG places).take pre.length++[t]:=by
 have h1:((cG places).map gM)[pre.length]?= some x:=by rw[h];simp
 rw[bMI,bOG]at h1;obtain⟨t,ht,hx⟩:=h1;refine⟨t,ht,hx.symm,GT ht,?_⟩;rw[GE,bNW,bLA,ht];rfl
def eM(r:dB)(fine:Bool):Int:=if bB r≠0 then bB r else if fine=false then 2 else if truths r=[]then 11 else 0
def vO(r:dB)(i j:Int):Bool:=gZ i 0 (r.places.length-1)&&gZ j i (r.places.length-1)

def aQG(ts:List (List Int))(i j:Nat):Int:=tN (ts.map fun t=>qR t i j)
def aUK(ts:List (List Int))(i j:Nat):Int:=rK (ts.map fun t=>qR t i j)
theorem DA(l:List Int)(a:Int)(h:l[0]?= some a):l.foldl min a=tN l:=by
 cases l with
 |nil=>simp at h
 |cons x l=>simp at h;subst h;simp[tN]
theorem GG(l:List Int)(a:Int)(h:l[0]?= some a):l.foldl max a=rK l:=by
 cases l with
 |nil=>simp at h
 |cons x l=>simp at h;subst h;simp[rK]
theorem MY{t:List Int}(hb:∀x∈t,0≤x∧x≤1)(i j:Nat)(hj:j<9):0≤qR t i j∧qR t i j≤9:=by
 unfold qR;have:=eX hb i (j+1-i);omega
def vd(ts:List (List Int))(q:List Int→Bool):Int:=
 match ts with
 | []=>1
 |t0::_=>if(ts.all fun t=>q t==q t0)=true then(if q t0=true then 1 else 2)else 3
theorem aSP{ts:List (List Int)}{q:List Int→Bool}{t0:List Int}(h0:ts[0]?= some t0){j:Nat}(hj:ts.length≤j)(h:(ts.take j).all (fun t=>q t==q t0)=true):vd ts q=if q t0=true then 1 else 2:=by
 rw[bLZ hj]at h;cases ts with
 |nil=>simp at h0
 |cons x l=>simp at h0;subst h0;simp only[vd];rw[bLR h]
theorem bDK{ts:List (List Int)}{q:List Int→Bool}{t0 t:List Int}(h0:ts[0]?= some t0){j:Nat}(hj:ts[j]?= some t)(h:(!(q t==q t0))=true):vd ts q=3:=by
 cases ts with
 |nil=>simp at h0
 |cons x l=>
  simp only[List.getElem?_cons_zero,bPL]at h0;subst h0;simp only[vd]
  rw[bLI];intro ha;have:=bLX.1 ha t (GT hj);simp[this]at h
def aOD(i:Nat)(t:List Int):Bool:=decide (0<t.getD i 0)
def tZ(r:dB)(i:Nat)(t:List Int):Bool:=match r.counts[i]? with|some c=>decide (gP t c=0)|none=>false
theorem aRV{t:List Int}{i:Nat}(h:i<9)(I:t.length≤9):(gM t)[i]?= some (t.getD i 0):=by
 unfold gM;by_cases hi:i<t.length
 ·rw[bNP hi,bNG,bLB hi];rfl
 ·rw[bPC Yd,List.getElem?_replicate,bLR Yd,bNG,bNX Yd];rfl
theorem Q3{r:dB}{t:List Int}(h:t∈truths r):pA r t:=qQ (bON.1 h).1


def mJ(r:dB)(o:Option Int)(t:List Int):Option Int:=if eS r t=true then some (match o with|none=>(rO r t:Int)|some m=>min m (rO r t))else o
def oZ(r:dB)(us:List (List Int)):Option Int:=us.foldl (mJ r) none
theorem zT(r:dB)(us:List (List Int))(t:List Int):oZ r (us++[t])=mJ r (oZ r us) t:=by simp[oZ]
theorem OT{r:dB}{o:Option Int}{t:List Int}{w:Int}(h:∃m,o=some m∧m≤w):∃m,mJ r o t=some m∧m≤w:=by
 obtain⟨m,rfl,hm⟩:=h;unfold mJ;split
 ·exact⟨_,rfl,Yl⟩
 ·exact⟨m,rfl,hm⟩
theorem Z0{r:dB}{w:Int}:∀(us:List (List Int)) (o:Option Int),(∃m,o=some m∧m≤w)→∃m,us.foldl (mJ r) o=some m∧m≤w
 | [],o,h=>h
 |t::us,o,h=>by rw[bME];exact Z0 us _ (OT h)
theorem S4{r:dB}{t:List Int}(he:eS r t=true):∀(us:List (List Int)) (o:Option Int),t∈us→∃m,us.foldl (mJ r) o=some m∧m≤(rO r t:Int)
 |u::us,o,h=>by
  rw[bME];rcases bNA.1 h with rfl|h
  ·refine Z0 us _ ?_;unfold mJ;rw[bLR he];refine⟨_,rfl,?_⟩;split<;>omega
  ·exact S4 he us _ h
theorem HF{r:dB}{us:List (List Int)}{t:List Int}(h:t∈us):oZ r (us++[t])=oZ r us:=by
 rw[zT];unfold mJ;split
 ·rename_i he;obtain⟨m,hm,hle⟩:=S4 he us none h;have:oZ r us=some m:=hm;rw[this];simp only;rw[Int.min_eq_left hle]
 ·rfl
theorem aRI{t u:List Int}(hl:t.length=u.length)(h:gM t=gM u):t=u:=by
 have:=bLE (List.take t.length) h;unfold gM at this;rw[bPY,hl,bPY]at this;exact this
def G6(r:dB)(pre:List (List Int))(g:Option Int×List Int):Prop:=g.1=oZ r ((cG r.places).take pre.length)∧g.2.length=9∧∀u,((cG r.places).take pre.length).getLast?= some u→g.2=gM u
theorem ZW{r:dB}{pre:List (List Int)}{o:Option Int}{last t:List Int}(h:G6 r pre (o,last))(ht:t∈cG r.places)(htake:(cG r.places).take (pre++[gM t]).length=(cG r.places).take pre.length++[t])(hc:(o.isSome&&(gM t==last))=true):G6 r (pre++[gM t]) (o,last):=by
 obtain⟨h1,h2,h3⟩:=h;simp only[bKW,bPX]at hc;obtain⟨ho,hl⟩:=hc;cases hg:((cG r.places).take pre.length).getLast? with
 |none=>
  rw[List.getLast?_eq_none_iff]at hg;rw[hg]at h1;simp only at h1;rw[h1]at ho;cases ho
 |some u=>
  have hu:=List.mem_of_getLast? hg;have h4:=h3 u hg;simp only at h4;have hut:t=u:=aRI (by rw[(qQ ht).1,(qQ (bQF hu)).1]) (by rw[hl,h4]);subst hut;refine⟨?_,h2,fun v hv=>?_⟩
  ·rw[htake,HF hu];exact h1
  ·rw[htake,List.getLast?_concat]at hv;cases hv;exact h4
theorem aKB{r:dB}{pre:List (List Int)}{o:Option Int}{last t:List Int}(h:G6 r pre (o,last))(I:(gM t).length=9)(htake:(cG r.places).take (pre++[gM t]).length=(cG r.places).take pre.length++[t])
  (hc:(eS r t&&(!o.isSome||decide ((if eS r t=true then(rO r t:Int)else 0)<o.getD 0)))=true):G6 r (pre++[gM t]) (some (if eS r t=true then(rO r t:Int)else 0),gM t):=by
 obtain⟨h1,h2,h3⟩:=h;simp only[bKW]at hc;obtain⟨he,hc⟩:=hc;refine⟨?_,I,fun v hv=>?_⟩
 ·simp only at h1;rw[htake,zT,←h1];simp only[mJ,he,bNM]at hc ⊢
  cases o with
  |none=>rfl
  |some m=>
   simp only[Option.isSome_some,Bool.not_true,Bool.false_or,LT,bOQ]at hc;simp only;rw[Int.min_eq_right Yd]
 ·rw[htake,List.getLast?_concat]at hv;cases hv;rfl
theorem aUY{r:dB}{pre:List (List Int)}{o:Option Int}{last t:List Int}(h:G6 r pre (o,last))(I:(gM t).length=9)(htake:(cG r.places).take (pre++[gM t]).length=(cG r.places).take pre.length++[t])
  (hc:(eS r t&&(!o.isSome||decide ((if eS r t=true then(rO r t:Int)else 0)<o.getD 0)))=false):G6 r (pre++[gM t]) (o,gM t):=by
 obtain⟨h1,h2,h3⟩:=h;refine⟨?_,I,fun v hv=>?_⟩
 ·simp only at h1;rw[htake,zT,←h1];unfold mJ;split
  ·rename_i he;simp only[he,bPE,bNM]at hc;cases o with
   |none=>simp at hc
   |some m=>
    simp only[Option.isSome_some,Bool.not_true,Bool.false_or,bLC,bOQ]at hc;simp only;rw[Int.min_eq_left Yd]
  ·rfl
 ·rw[htake,List.getLast?_concat]at hv;cases hv;rfl
def xF(r:dB):Int:=if bB r≠0 then 0 else(oZ r (cG r.places)).getD 0
def m9(r:dB):Int:=if bB r≠0 then bB r else if(oZ r (cG r.places)).isSome=true then 0 else 10
theorem SU{r:dB}{o:Option Int}(ho:o=oZ r (cG r.places))(hf:bB r=0)(h:(!o.isSome)=true):xF r=0∧m9 r=10:=by
 have hn:o=none:=by simpa using h
 rw[xF,m9,←ho,hn,hf];exact⟨rfl,rfl⟩
theorem SG{r:dB}{o:Option Int}(ho:o=oZ r (cG r.places))(hf:bB r=0)(h:(!o.isSome)=false):xF r=o.getD 0∧m9 r=0:=by
 have hn:o.isSome=true:=by simpa using h
 rw[xF,m9,←ho,hf,hn];exact⟨rfl,rfl⟩

def G4(p:Int)(t:List Int)(m:Nat):List (List Int):=(List.range m).flatMap fun(c:Nat)=>if p=2∨p=(c:Int)then [t++[(c:Int)]]else []
def kU(p:Int)(out:List (List Int)):List (List Int):=out.flatMap fun t=>G4 p t 2
theorem UD{p:Int}{t:List Int}{m:Nat}(h:p=2∨p=(m:Int)):G4 p t (m+1)=G4 p t m++[t++[(m:Int)]]:=by
 unfold G4;rw[bMN,bLN];simp[h]
theorem aDR{p:Int}{t:List Int}{m:Nat}(h:¬(p=2∨p=(m:Int))):G4 p t (m+1)=G4 p t m:=by
 unfold G4;rw[bMN,bLN];simp[h]
theorem ZX{p:Int}{out:List (List Int)}{k:Nat}{t:List Int}(h:out[k]?= some t):kU p (out.take (k+1))=kU p (out.take k)++G4 p t 2:=by
 unfold kU;rw[bLA,h,bLT,bLN];simp
theorem BA:∀(l:List Int) (out:List (List Int)),l.foldl (fun o p=>kU p o) out=out.flatMap fun t=>(cG l).map (t++ ·)
 | [],out=>by simp[cG]
 |p::ps,out=>by
  rw[bME,BA ps];unfold kU;rw[List.flatMap_assoc];congr 1;funext t;have I:∀c:Int,(cG ps).map ((t++[c])++ ·)=((cG ps).map (c:: ·)).map (t++ ·):=fun c=>by rw[bPP];congr 1;funext u;simp
  by_cases h2:p=2
  ·simp[G4,cG,h2,List.range,List.range.loop,Function.comp_def]
  ·by_cases h0:p=0
   ·simp[G4,cG,h0,List.range,List.range.loop,Function.comp_def]
   ·by_cases h1:p=1
    ·simp[G4,cG,h1,List.range,List.range.loop,Function.comp_def]
    ·simp[G4,cG,h2,h0,h1,List.range,List.range.loop]
theorem T7(l:List Int):l.foldl (fun o p=>kU p o) [[]]=cG l:=by rw[BA];simp
end Go.Fs.C1
namespace Go.Fs
open C1
def RC:Rd uV:=fun _ c cs=>cs=[.bool c.back,qI c.many,qI c.num]
theorem RC.up:RC.Up:=fun _ _ _ h=>h
def iV(n:Int):Γ:=qI n
def cV(c:uV):Γ:=.agg #[.bool c.back,qI c.many,qI c.num]
def mE(D:aC)(v:Γ)(r:dB):Prop:=∃pv cv,v=.agg #[pv,cv,qI r.wrong,qI r.off]∧Sl D RI 1 pv r.places∧Sl D RC 3 cv r.counts
theorem mE.up{D D':aC}{v:Γ}{r:dB}(h:mE D v r)(hl:Le D D'):mE D' v r:=by
 obtain⟨pv,cv,hv,hp,hc⟩:=h;exact⟨pv,cv,hv,hp.up RI.up hl,hc.up RC.up hl⟩
def idxOf{α:Type}(p:α→Bool)(xs:List α):Int:=if xs.any p then(xs.findIdx p:Int)else -1
def RT:Rd (List Int):=fun _ t cs=>cs=ints (gM t)
theorem RT.up:RT.Up:=fun _ _ _ h=>h
def aNT(D:aC)(v:Γ)(r:dB):Prop:=∃b pv cv tv,v=qP b∧At D b 0 [pv,cv,qI r.wrong,qI r.off,tv]∧Sl D RI 1 pv r.places∧Sl D RC 3 cv r.counts∧Sl D RT 9 tv (truths r)
def U1(e:Nat)(r:dB)(pre:List (List Int))(g:Γ×aD):Prop:=bD e 9 g.1 (((cG r.places).take pre.length).filter (fits r)).length ((((cG r.places).take pre.length).filter (fits r)).flatMap fun t=>ints (gM t)) g.2
theorem QZ{l:List (List Int)}(h:∀t∈l,t.length≤9):(l.flatMap fun t=>ints (gM t)).length=l.length*9:=by
 induction l with
 |nil=>rfl
 |cons t l ih=>
  rw[bMA,GE,ih fun t ht=>h t (bKY _ ht),bLF,Fs.aN,iP (h t bKZ),bNV];omega
theorem j7{l:List (List Int)}(h:∀t∈l,t.length≤9){i:Nat}{t:List Int}(hi:l[i]?= some t):((l.flatMap fun t=>ints (gM t)).drop (i*9)).take 9=ints (gM t):=by
 induction l generalizing i with
 |nil=>simp at hi
 |cons u l ih=>
  have hu:(ints (gM u)).length=9:=by rw[Fs.aN,iP (h u bKZ)]
  rw[bMA];cases i with
  |zero=>
   obtain rfl:u=t:=by simpa using hi
   rw[bPG,bOY,bMP Yd,bLZ Yd]
  |succ i=>
   rw[bPH,bMQ Yd,bMH,hu,show(i+1)*9-9=i*9 by omega];exact ih (fun t ht=>h t (bKY _ ht)) Yau
theorem kN.truths{D:aC}{v:Γ}{n:Nat}{l:List (List Int)}(hF:kN D v n (l.flatMap fun t=>Fs.ints (gM t)))(hn:l.length=n)(hb:n≤9223372036854775807)(h:∀t∈l,t.length≤9):Sl D RT 9 v l:=
 hF.sl hn hb fun i t hi=>⟨Fs.ints (gM t),rfl,by rw[Fs.aN,iP (h t (GT hi))],j7 h hi⟩
theorem bBR{e sz b:Nat}{cells:List Γ}(h:cells.length=sz):bD e sz (qS b 1 1) 1 cells [(b,.cells cells.toArray e (0,0))]:=
 bLG ⟨b,1,[],rfl,bLQ _,Ye,Yd,Yaq⟩
theorem kN.at{D:aC}{b n cap:Nat}{cells:List Γ}(h:kN D (qS b n cap) n cells)(hn:0<n):At D b 0 cells:=by
 rcases h with⟨a,hv,h0,_⟩|⟨b',cap',hv,_,hA⟩
 ·omega
 ·cases hv;exact hA
variable{P:Program}{X:Cx}{γb:Type}[Membership Nat γb]{bad:γb}{all:Array Oper}{K:Act→Δ→Prop}{Q:Exit→Act→Δ→Prop}
variable{σ:cD}{μ:aD}{Ds:List aC}{os:List (Bool×Nat)}{fl:Bool}{ix:Nat}
variable{d:Nat}{x y z:Operand}{u v:Γ}{ty:Θ}{pos:String}{aft:Array Edge}{g:Option (Nat×Bool)}
theorem dL{e:Θ}{q:IntKind}(hu:P.underlying e=some (.int q)){xs:Array Γ}{off:Nat}{v:Γ}(hx:xs[off]?= some v)(w:Δ):(part e xs off).run P w=.ok v w:=
 run_part_plain w (by simp[Program.plainKey,hu]) hx
theorem nR(dp:Nat){e:Θ}(hu:P.underlying e=some (.int .i64))(l m:List Int)(w:Δ):∀(is:List Nat),(∀i∈is,i<l.length∧i<m.length)→
  (Op.eqItems (dp+1) e 1 (ints l).toArray (ints m).toArray is).run P w=.ok (is.all fun i=>l[i]? ==m[i]?) w
 | [],_=>by simp[Op.eqItems]
 |i::is,h=>by
  obtain⟨h1,h2⟩:=h i bKZ;have g1:(ints l).toArray[i*1]?= some (qI l[i]):=by rw[bNL];simpa using cN (bLB h1)
  have g2:(ints m).toArray[i*1]?= some (qI m[i]):=by rw[bNL];simpa using cN (bLB h2)
  simp only[Op.eqItems,Ω,dL hu g1,dL hu g2,run_equalIn_int w dp e .i64 .i64 _ _ hu,Ξ,bOZ,bLB h1,bLB h2];by_cases he:l[i]=m[i]
  ·simp[he,nR dp hu l m w is (fun j hj=>h j (bKY _ hj))]
  ·simp[he]
theorem zY{l m:List Int}{n:Nat}(hl:l.length=n)(hm:m.length=n):((List.range n).all fun i=>l[i]? ==m[i]?)=(l==m):=by
 rw[bOC];simp only[bLX,bMZ,bPX];constructor
 ·intro h;apply List.ext_getElem?;intro i;by_cases hi:i<n
  ·exact h i hi
  ·rw[bNX Yd,bNX Yd]
 ·rintro rfl i _;rfl
theorem YZ{t e t':Θ}{n:Nat}{l m:List Int}(ho:all[ix]?= some ⟨some d,.binOp .eql t x y t',ty,pos,aft,g⟩)(hgt:P.eqGuardType P.depth t=false)(ht:P.underlying t=some (.array n e))(he:P.underlying e=some (.int .i64))(hc:P.cellsOf e=1)
  (hl:l.length=n) (hm:m.length=n) (hx:ev σ x=some (.agg (ints l).toArray)) (hy:ev σ y=some (.agg (ints m).toArray)) (hN:Nat.blt d X.N=true) (hg:dH all σ g)
  (kk:WL P X bad all K Q os ((d,.bool (l==m))::σ) μ Ds):WL P X bad all K Q ((fl,ix)::os) σ μ Ds:=
 V9 ho (fun w=>by
  have hgd:(eqGuard .eql t x y (.agg (ints l).toArray) (.agg (ints m).toArray)).run P w=.ok () w:=by
   simp only[eqGuard,program];simp[Sem.run,hgt,go_sem]
  have heq:(Op.equal t (.agg (ints l).toArray) (.agg (ints m).toArray)).run P w=.ok (l==m) w:=by
   obtain⟨i,hi⟩:=info_of_underlying he;have h:=run_equalIn_array (P:=P) w 9999 (ints l).toArray (ints m).toArray ht hi;rw[hc,nR 9998 he l m w (List.range n) fun j hj=>by have:=bMZ.1 hj;omega,zY hl hm]at h
   exact h
  rw[Ω,hgd];show((do Pure.pure (Value.bool (←Op.equal t (.agg (ints l).toArray) (.agg (ints m).toArray)))):Sem Γ).run P w=_;rw[Ω,heq];rfl) hx hy hN hg kk

def K2(P:Program)(k:Θ):Prop:=P.underlying k=some (.struct (P.fieldsOf k))∧P.stoodInHeld k=false∧
 (P.fieldsOf k).toList.map (fun f=>(f.name== "_",f.offset,P.underlying f.type))=[(false,0,some (.int .i64)),(false,1,some (.int .i64))]
def mH(k:Int×Int):Γ:=.agg #[qI k.1,qI k.2]
theorem K2.fields{k:Θ}(h:K2 P k):∃f0 f1,P.underlying k=some (.struct #[f0,f1])∧P.fieldsOf k=#[f0,f1]∧f0.name≠ "_" ∧f1.name≠ "_" ∧f0.offset=0∧f1.offset=1∧P.underlying f0.type=some (.int .i64)∧P.underlying f1.type=some (.int .i64):=by
 obtain⟨h1,h2,h3⟩:=h;generalize hl:(P.fieldsOf k).toList=fs at h3;have h0:=bLE List.length h3;simp only[bMK,bLF,bNE]at h0;rcases fs with _|⟨f0,_|⟨f1,_|⟨f2,fs⟩⟩⟩<;>simp only[bLF,bNE]at h0<;>try omega
 have he:P.fieldsOf k=#[f0,f1]:=by rw[←Array.toArray_toList (xs:=P.fieldsOf k),hl]
 simp only[bMD,bPK,bNI,bOU,and_true,beq_eq_false_iff_ne]at h3;exact⟨f0,f1,by rw[h1,he],he,h3.1.1,h3.2.1,h3.1.2.1,h3.2.2.1,h3.1.2.2,h3.2.2.2⟩
theorem k9{k:Θ}(h:K2 P k)(a b:Int×Int)(w:Δ):(Op.equal k (mH a) (mH b)).run P w=.ok (a==b) w:=by
 obtain⟨I,a2⟩:=a;obtain⟨O,b2⟩:=b;obtain⟨f0,f1,hu,hf,n0,n1,o0,o1,t0,t1⟩:=h.fields;have he:=run_equalIn_struct (P:=P) w 9999 k #[qI I,qI a2] #[qI O,qI b2] h.1 h.2.1;show(Op.equalIn (9999+1) k (.agg #[qI I,qI a2]) (.agg #[qI O,qI b2])).run P w=_;rw[he,hf];have p0:∀c1 c2:Int,(part f0.type #[qI c1,qI c2] f0.offset).run P w=.ok (qI c1) w:=fun c1 c2=>dL t0 (by rw[o0];rfl) w
 have p1:∀c1 c2:Int,(part f1.type #[qI c1,qI c2] f1.offset).run P w=.ok (qI c2) w:=fun c1 c2=>dL t1 (by rw[o1];rfl) w
 have e0:=run_equalIn_int w 9998 f0.type .i64 .i64 I O t0;have R:=run_equalIn_int w 9998 f1.type .i64 .i64 a2 b2 t1;have U:(Op.eqFields 9999 #[qI I,qI a2] #[qI O,qI b2] [f1]).run P w=.ok (a2==b2) w:=by
  simp only[Op.eqFields,n1,ne_eq,bPU,bNM,Ω,p1,Ξ];rw[R];simp only[Ξ];cases a2==b2<;>rfl
 show(Op.eqFields 9999 #[qI I,qI a2] #[qI O,qI b2] (f0::[f1])).run P w=_;rw[Op.eqFields,bLR n0];simp only[Ω,p0,Ξ];rw[e0];simp only[Ξ];by_cases hab:I=O
 ·subst hab;simp only[beq_self_eq_true,Bool.not_true,bMU,bNU];rw[U];have:(a2==b2)=((I,a2)==(I,b2)):=by rw[bOC];simp
  rw[this]
 ·have hb:(I==O)=false:=by simpa using hab
  simp only[hb,Bool.not_false,bNM,ε];simp[hab]
theorem aMV{t t':Θ}{a b:Int×Int}(ho:all[ix]?= some ⟨some d,.binOp .eql t x y t',ty,pos,aft,g⟩)(hgt:P.eqGuardType P.depth t=false)(ht:K2 P t)(hx:ev σ x=some (mH a))(hy:ev σ y=some (mH b))(hN:Nat.blt d X.N=true)(hg:dH all σ g)
  (kk:WL P X bad all K Q os ((d,.bool (a==b))::σ) μ Ds):WL P X bad all K Q ((fl,ix)::os) σ μ Ds:=
 V9 ho (fun w=>by
  have hgd:(eqGuard .eql t x y (mH a) (mH b)).run P w=.ok () w:=by
   simp only[eqGuard,mH,program];simp[Sem.run,hgt,go_sem]
  rw[Ω,hgd];show((do Pure.pure (Value.bool (←Op.equal t (mH a) (mH b)))):Sem Γ).run P w=_;rw[Ω,k9 ht];rfl) hx hy hN hg kk
theorem uB{k k':IntKind}{s t:Θ}{u':TypeDesc}{n:Int}(ho:all[ix]?= some ⟨some d,.convert s t x,ty,pos,aft,g⟩)(hs:P.underlying s=some u')(ht:P.underlying t=some (.int k'))(hx:ev σ x=some (.int k n))(hn:wD k' n)(hN:Nat.blt d X.N=true)(hg:dH all σ g)
  (kk:WL P X bad all K Q os ((d,.int k' n)::σ) μ Ds):WL P X bad all K Q ((fl,ix)::os) σ μ Ds:=
 aLD ho (fun w=>by
  simp only[Go.convert,Ω,TU.of hs w,TU.of ht w,Ξ,Conv.intToInt,sP hn];rfl) hx hN hg kk
theorem bD.shape{e:Θ}{sz n:Nat}{cells:List Γ}{ν:aD}(h:bD e sz v n cells ν):∃a cap,v=.slice a n cap:=by
 rcases h with⟨a,hv,hn,_,_⟩|⟨b,cap,junk,hv,_⟩
 ·exact⟨a,0,by rw[hv,hn]⟩
 ·exact⟨_,cap,hv⟩
theorem Sl.shape{α:Type}{R:Rd α}{D:aC}{sz:Nat}{xs:List α}(h:Sl D R sz v xs):∃a cap,v=.slice a xs.length cap:=by
 obtain⟨a,cap,hv,_⟩:=h;exact⟨a,cap,hv⟩
theorem S3{t e:Θ}{sz n:Nat}{parts:Array (Nat×Operand)}{us:List (Nat×Γ)}{rs:List Γ}{z0:Γ}(ho:all[ix]?= some ⟨some d,.buildSlice t n parts,ty,pos,aft,g⟩)(ht:P.underlying t=some (.slice e))(hs:TS P e sz)(hz:TZ P e z0)(_hz1:Nat.beq z0.cells.size sz=true)
  (hu:GP σ parts.toList=some us) (hn:us.length=n) (hnz:Nat.ble (n*sz) 4096=true) (hf:QD sz 0 us rs) (hN:Nat.blt d X.N=true) (hg:dH all σ g)
  (kk:∀b,bD e sz (qS b n n) n rs [(b,.cells rs.toArray e (0,0))]→WL P X bad all K Q os ((d,qS b n n)::σ) ((b,.cells rs.toArray e (0,0))::μ) Ds):WL P X bad all K Q ((fl,ix)::os) σ μ Ds:=by
 refine fG ho rfl rfl hg fun a w hh=>?_
 obtain⟨h1,h2,h3,D,h4,h5,O⟩:=id hh;have hnz':n*sz≤4096:=bNJ hnz;have hlen:rs.length=n*sz:=by rw[hf.len,hn]
 have I:(parts.map fun(i,x)=>(i,a.eval x)).toList=us:=by rw[←yE (fun _ _ hx=>hh.eval hx) hu];simp
 have hrun:(execOp a.eval ⟨some d,.buildSlice t n parts,ty,pos,aft,g⟩).run P w=.ok (.value (.slice (some ⟨w.heap.size,0,none⟩) n n)) {w with heap:=w.heap.push (.cells rs.toArray e (0,0))}:=by
  simp only[execOp,Instr.buildSlice,Ω,TU.of ht w,Ξ,hs w];rw[bLI Yd];simp only[pure_bind];have key:∀zc:Array Γ,Instr.fill (fun i=>some (i*sz,sz)) ((Array.range (n*sz)).map (zc[· %zc.size]!)) us=some rs.toArray:=by
   intro zc;have:=LN hf [] ((Array.range (n*sz)).map (zc[· %zc.size]!)).toList Ye (by simp[hlen]);rw[bMH,bMH]at this;exact this
  split
  ·simp only[Ω,ε,Ξ,I,key,kO]
  ·simp only[Ω,ε,Ξ,hz w,I,key,kO]
 rw[hrun];have hs':=h4.push (.cells rs.toArray e (0,0)) rfl;refine⟨fun _=>pV _ _ _,kk w.heap.size (bLG ⟨_,n,[],rfl,bLQ _,Ye,hlen,by simpa using hlen⟩) _ _ (Hl.put ⟨h1,h2,h3,D,hs',h5,O.step (fun _ p hp=>?_) (fun _=>K6 _ _) hs'.dom⟩ hN _)⟩;rcases bNA.1 hp with rfl|hp
 ·exact bLG (bLQ _)
 ·exact bLL (bKX.2 ⟨p,hp,rfl⟩)
theorem BH{k:Θ}(h:K2 P k)(em:Bool)(a:Int×Int)(w:Δ):(Instr.checkKey em 10000 k (mH a)).run P w=.ok () w:=by
 obtain⟨f0,f1,hu,hf,n0,n1,o0,o1,t0,t1⟩:=h.fields;have p0:(part f0.type #[qI a.1,qI a.2] f0.offset).run P w=.ok (qI a.1) w:=dL t0 (by rw[o0];rfl) w
 have p1:(part f1.type #[qI a.1,qI a.2] f1.offset).run P w=.ok (qI a.2) w:=dL t1 (by rw[o1];rfl) w;have c0:(Instr.checkKey em (9998+1) f0.type (qI a.1)).run P w=.ok () w:=by
  rw[Instr.checkKey,Ω,TU.of t0 w];rfl
 have c1:(Instr.checkKey em (9998+1) f1.type (qI a.2)).run P w=.ok () w:=by
  rw[Instr.checkKey,Ω,TU.of t1 w];rfl
 show(Instr.checkKey em (9999+1) k (.agg #[qI a.1,qI a.2])).run P w=_;rw[Instr.checkKey,Ω,TU.of hu w];simp only[Ξ];rw[←Array.forIn_toList];simp only[List.forIn_cons,List.forIn_nil,n0,n1,ne_eq,bPU,bNM,Ω,p0,Ξ,ε];rw[c0];simp only[Ξ,ε,Ω,p1];rw[c1];simp
theorem yL{t:Θ}(ho:all[ix]?= some ⟨some d,.makeMap t none,ty,pos,aft,g⟩)(hN:Nat.blt d X.N=true)(hg:dH all σ g)
  (kk:∀b,WL P X bad all K Q os ((d,.map (some b))::σ) ((b,.map #[] 0)::μ) Ds):WL P X bad all K Q ((fl,ix)::os) σ μ Ds:=by
 refine fG ho rfl rfl hg fun a w hh=>?_
 obtain⟨h1,h2,h3,D,h4,h5,I⟩:=id hh;have:(execOp a.eval ⟨some d,.makeMap t none,ty,pos,aft,g⟩).run P w=.ok (.value (.map (some w.heap.size))) {w with heap:=w.heap.push (.map #[] 0)}:=rfl;rw[this];exact⟨fun _=>pV _ _ _,kk _ _ _ (Hl.put ⟨h1,h2,h3,D,h4.push _ (show dC (.map #[] 0)from bQK),h5,I.step (fun _ p hp=>Xbh) (fun _=>K6 _ _) (h4.push _ (show dC (.map #[] 0)from bQK)).dom⟩ hN _)⟩
theorem pO{w:Δ}{r:Nat}{es:Array MapEntry}{clock:Nat}(h:w.heap[r]?= some (.map es clock)):(getObj r).run P w=.ok (.map es clock) w:=by
 simp[getObj,Sem.run,h]

theorem bIW{t t':Θ}{m n:Int}{k:IntKind}(ho:all[ix]?= some ⟨some d,.binOp .shl t x y t',ty,pos,aft,g⟩)(hx:ev σ x=some (qI m))(hy:ev σ y=some (.int k n))(h0:0≤n)(h1:n<64)(hr:wD .i64 (m*2^n.toNat))(hN:Nat.blt d X.N=true)(hg:dH all σ g)
  (kk:WL P X bad all K Q os ((d,qI (m*2^n.toNat))::σ) μ Ds):WL P X bad all K Q ((fl,ix)::os) σ μ Ds:=
 bZ ho rfl rfl hN hg (fun ρ hρ w'=>by
  have hn:min n.toNat IntKind.i64.bits=n.toNat:=by have:IntKind.i64.bits=64:=rfl;omega
  have h0':¬n<0:=by omega
  have hs:(binOp .shl t (qI m) (.int k n)).run P w'=.ok (qI (m*2^n.toNat)) w':=by
   show(Op.shift .shl .i64 m k n).run P w'=_;unfold Op.shift;rw[bLI h0'];simp only[hn,sP hr,ε]
  have hg:∀w,(eqGuard .shl t x y (qI m) (.int k n)).run P w=.ok () w:=fun w=>rfl
  simp only[execOp,hρ x _ hx,hρ y _ hy,Ω,hg,Ξ,hs,ε]) kk

def bEB(X:Cx)(b:Nat)(post:aC→Γ→Obj→Prop):Ending→Δ→Prop:=fun e w'=>∃v D' o',e=.returned v∧jE X.h0 X.lo X.D0 X.mods [(b,o')] D' w'∧post D' v o'
theorem fF{fn:Func}{b:Nat}{o':Obj}{post:aC→Γ→Obj→Prop}{e:Exit}(he:(match e with|.normal=>true|.ret=>true|_=>false)=true){rs:List ResultVar}{vs:List Γ}(hds:X.ds=[])(hr:fn.results=rs.toArray)(h:A1 P X σ μ rs vs)
  (hm:(b,o')∈μ) (hp:∀D,(∀D₁∈Ds,Le D₁ D)→post D (tA vs) o'):∀a w,Hl X σ μ Ds a w→bodyPost P fn (bEB X b post) e a w:=by
 intro a w hh;have hrun:=jN hh hr h;obtain⟨h1,h2,h3,D,h4,h5,I⟩:=hh;have:a.defers=[]∧∃v,(results fn a.tmps).run P w=.ok v w∧bEB X b post (.returned v) w:=⟨h3.trans hds,_,hrun,_,D,o',rfl,h4.sub (fun p hp=>by rw[bLS.1 hp];exact hm) Ye,hp D h5⟩
 cases e<;>first|exact this|cases he
theorem FA{t t':Θ}{n:Nat}(ho:all[ix]?= some ⟨some d,.binOp .shl t x y t',ty,pos,aft,g⟩)(hx:ev σ x=some (qI 1))(hy:ev σ y=some (qI (n:Int)))(h1:n<62)(hN:Nat.blt d X.N=true)(hg:dH all σ g)
  (kk:WL P X bad all K Q os ((d,qI ((2^n:Nat):Int))::σ) μ Ds):WL P X bad all K Q ((fl,ix)::os) σ μ Ds:=by
 have h2:(2:Nat)^n<2^62:=Nat.pow_lt_pow_right Yd h1;have e:(1:Int)*2^(n:Int).toNat=((2^n:Nat):Int):=by simp
 have hr:wD .i64 ((1:Int)*2^(n:Int).toNat):=by
  rw[e];generalize (2:Nat)^n=q at h2;simp only[wD];omega
 refine bIW ho hx hy Yd Yd hr hN hg ?_;rw[e];exact kk
def IU(P:Program)(f:FuncId)(args:Array Γ)(D:aC)(post:aC→Γ→aD→Prop):Prop:=
 EF P f∧∀w,fO D w→Calls P f args w fun e w'=>∃v D' ν,e=.returned v∧jE (hd w) w.heap.size D [] ν D' w'∧post D' v ν
theorem rD{f:FuncId}{fn:Func}{c:Code}{args:List Γ}{D:aC}{post:aC→Γ→aD→Prop}(N:Nat)(hf:P.funcs[f]?= some fn)(hn:(fn.name== "runtime.NumGoroutine")=false)(hb:fn.body=some c)(hN:fn.ntmps=N)(hsz:Nat.ble args.length N=true)
  (h:∀h0:H0,WC P ⟨none,N,[],h0,h0.size,D,[],none⟩ (bodyPost P fn (rG ⟨none,N,[],h0,h0.size,D,[],none⟩ post)) c (jY 0 args) [] [D]):IU P f args.toArray D post:=by
 refine⟨EF.of hf hn hb,fun w hw=>?_⟩;subst hN;have hsz:=bNJ hsz;refine(dY (r:=none) (n:=0)).1 ((callsIn_of_wp (R:=rG ⟨none,fn.ntmps,[],hd w,w.heap.size,D,[],none⟩ post) hf hb bQK (h (hd w) _ w ⟨?_,fun s v hs=>?_,rfl,D,⟨bLQ _,bLQ _,fun _ _ _=>rfl,fun _ _=>rfl,hw,Yi,bNH,Yi,fun e he=>bLY he⟩,fun D₁ h1=>?_,bQK⟩) rfl).mono ?_)
 ·simp;omega
 ·obtain⟨_,h2⟩:=gV args 0 s v hs;have hl:=(bLD.1 h2).1;simp only[bPB]at h2 hl;show(args.toArray++_)[s]?= some v;rw[bNT Yay];simpa using h2
 ·simp only[bLS]at h1;subst h1;exact Le.refl _
 ·rintro e w' ⟨v,D',μ',rfl,hs,hp⟩;exact⟨v,D',μ',rfl,hs,hp⟩
theorem jE.afterO{h0:H0}{lo:Nat}{D0 D D':aC}{mods:List Nat}{μ ν:aD}{w w':Δ}(h:jE h0 lo D0 mods μ D w)(hs:jE (hd w) w.heap.size D [] ν D' w'):jE h0 lo D0 mods (ν++μ) D' w':=by
 have h1:=h.after (hs.sub (μ':=[]) Yi bNH);have hge:∀p∈ν,w.heap.size≤p.1:=fun p hp=>(hs.box p hp).2.2.resolve_right Ye
 refine⟨h1.hlo,h1.size,h1.old,h1.dold,h1.agr,fun p hp=>?_,?_,(fun p hp=>by rcases bLM.1 hp with hp|hp;exact hs.fz p hp;exact h.fz p hp),h1.env⟩
 ·rcases bLM.1 hp with hp|hp
  ·obtain⟨a,b,_⟩:=hs.box p hp;exact⟨a,b,bLL (bNK h.size (hge p hp))⟩
  ·exact h1.box p hp
 ·rw[bLO,bLJ];refine⟨hs.nd,h.nd,fun a ha b hb=>?_⟩;obtain⟨p,hp,rfl⟩:=bKX.1 ha;obtain⟨q,hq,rfl⟩:=bKX.1 hb;have:=hge p hp;have:=bR (h.box q hq).1;omega
theorem gG{c:Operand}{xs:Array Operand}{ats:Array Θ}{f:FuncId}{c1 c2:List Γ}{vs:List Γ}{post:aC→Γ→aD→Prop}(ho:all[ix]?= some ⟨some d,.call {callee:=.value c,args:=xs,argTypes:=ats},ty,pos,aft,g⟩)(hc:ev σ c=some (.func (.func f) c1.toArray c2.toArray))(hxs:x5 σ xs.toList=some vs)
  (hf:∀D,(∀D₁∈Ds,Le D₁ D)→IU P f (c1++vs++c2).toArray D post) (hN:Nat.blt d X.N=true) (hg:dH all σ g)
  (kk:∀v D ν,(∀D₁∈Ds,Le D₁ D)→post D v ν→WL P X bad all K Q os ((d,v)::σ) (ν++μ) (D::Ds)):
  WL P X bad all K Q ((fl,ix)::os) σ μ Ds:=by
 refine fG ho rfl rfl hg fun a w hh=>?_
 obtain⟨h1,h2,h3,D,h4,h5,I⟩:=id hh;have hF:=hf D h5;rw[xY hF.1 (hh.eval hc) (mD (fun _ _ hx=>hh.eval hx) hxs)];refine⟨fun h=>Xab,dY.2 ((hF.2 w h4.agr).mono ?_)⟩;rintro e w' ⟨v,D',ν,rfl,hs,hpost⟩;have hle:=iF h4.agr hs;refine⟨fun _=>hs.keep bad,kk v D' ν (fun D₁ hD₁=>(h5 D₁ hD₁).trans hle) hpost _ _ ?_⟩;refine Hl.put ⟨h1,h2,h3,D',h4.afterO hs,fun D₁ hD₁=>?_,I.step (fun _ p hp=>?_) (fun _=>hs.low _) (h4.afterO hs).dom⟩ hN v
 ·rcases bNA.1 hD₁ with rfl|hD₁
  ·exact Le.refl _
  ·exact(h5 D₁ hD₁).trans hle
 ·rcases bLM.1 hp with hp|hp
  ·exact bLG ((hs.box p hp).2.2.resolve_right Ye)
  ·exact bLL (bKX.2 ⟨p,hp,rfl⟩)
theorem eU{t e:Θ}{sz b o n cap:Nat}{k:IntKind}{i:Int}(ho:all[ix]?= some ⟨some d,.indexAddr t x y,ty,pos,aft,g⟩)(ht:P.underlying t=some (.slice e))(hs:TS P e sz)(hx:ev σ x=some (.slice (some ⟨b,o,none⟩) n cap))
  (hy:ev σ y=some (.int k i)) (h0:0≤i) (hi:i<n) (hN:Nat.blt d X.N=true) (hg:dH all σ g)
  (kk:WL P X bad all K Q os ((d,.pointer (some ⟨b,o+i.toNat*sz,none⟩))::σ) μ Ds):WL P X bad all K Q ((fl,ix)::os) σ μ Ds:=
 bZ ho rfl rfl hN hg (fun ρ hρ w'=>by
  simp only[execOp,hρ x _ hx,hρ y _ hy];unfold Instr.indexAt asIntOf;simp only[Ω,TU.of ht w',Ξ,hs w',ε,pure_bind,h0,hi,bPZ,bNM,iI]) kk
theorem bD.some{e:Θ}{sz n:Nat}{cells:List Γ}{ν:aD}(h:bD e sz v n cells ν)(hn:0<n):∃b cap junk,v=qS b n cap∧n≤cap∧ν=[(b,.cells (cells++junk).toArray e (0,0))]∧cells.length=n*sz∧(cells++junk).length=cap*sz:=by
 rcases h with⟨_,_,h0,_⟩|h
 ·omega
 ·exact h
namespace C2
open C1 (gZ bT tN rK)
structure Mk where
 frm:Int
 to:Int
 lo:Int
 hi:Int
deriving DecidableEq
structure aW where
 last:Int
 heights:List (Int×Int)
 step:Int
 levels:List Int
 marks:List Mk
def fI(n:Int):Bool:=gZ n 0 99
def jJ(r:Int×Int):Bool:=decide (r.1≤r.2)&&fI r.1&&fI r.2
def fJ(r:Int×Int):Int:=r.2-r.1+1
def GQ(last n:Int):Bool:=gZ n 0 last
def tE(last a b:Int):Bool:=GQ last a&&GQ last b&&decide (a≤b)
def xA(last:Int)(m:Mk):Bool:=tE last m.frm m.to&&jJ (m.lo,m.hi)
def rI(hs:List (Int×Int)):Int:=hs.foldl (fun(m:Int) r=>min (m*fJ r) 2001) 1
def lV(step:Int)(p:Option Int)(n:Int):Bool:=match p with
 |none=>true
 |some q=>gZ (n-q) (-step) step
def iM(step:Int):List (Int×Int)→Option Int→List (List Int)
 | [],_=>[[]]
 |r::rs,p=>(List.range (fJ r).toNat).flatMap fun(k:Nat)=>if lV step p (r.1+k)=true then(iM step rs (some (r.1+k))).map (fun l=>(r.1+(k:Int))::l)else []
def eY(t:aW):List (List Int):=iM t.step t.heights none
def aLT(t:aW):Bool:=decide (t.last>9)||decide ((t.levels.length:Int)>6)||decide ((t.marks.length:Int)>5)
def bDZ(t:aW):Bool:=decide (0≤t.last)&&decide ((t.heights.length:Int)=t.last+1)&&t.heights.all jJ&&fI t.step&&t.levels.all fI&&t.marks.all (xA t.last)
def bB(t:aW):Int:=if aLT t=true then 3 else if bDZ t=false then 1 else if 2000<rI t.heights then 3 else if eY t=[]then 9 else 0
def kD(s:List Int)(a b:Int):Int:=rK ((s.drop a.toNat).take (b+1-a).toNat)
def iH(t:aW)(s:List Int):Bool:=t.marks.all fun m=>gZ (kD s m.frm m.to) m.lo m.hi
def xJ(t:aW)(acc:List (List Int))(s:List Int):List (List Int):=if iH t s=false∨acc.getLast?= some s then acc else acc++[s]
def bN(t:aW):List (List Int):=(eY t).foldl (xJ t) []
def oL(t:aW)(fine:Bool):Int:=if bB t≠0 then bB t else if fine=false then 2 else if bN t=[]then 11 else 0
def bJX(s:List Int)(i:Nat):Int:=s.getD i 0
def zZ(t:aW)(i:Nat):Int×Int:=(tN ((bN t).map (bJX · i)),rK ((bN t).map (bJX · i)))
def zS(s:List Int)(level:Int):Int:=((s.takeWhile fun n=>decide (n≤level)).length:Int)
def aTC(t:aW)(level:Int):Int×Int:=(tN ((bN t).map (zS · level)),rK ((bN t).map (zS · level)))
def bJR(t:aW)(a b:Int):Int:=rK ((bN t).map (kD · a b))
def dP(l:List Int):List Int:=l++List.replicate (10-l.length) 0
theorem gQ{l:List Int}(h:l.length≤10):(dP l).length=10:=by simp[dP];omega
theorem aBG{c l:List Int}(h2:c.take l.length=l)(h3:c.drop l.length=List.replicate (10-l.length) 0):dP l=c:=by
 unfold dP;rw[←h3]
 conv=>rhs;rw[←bOJ l.length c,h2]
def WA(step:Int)(rs:List (Int×Int))(pre:List Int)(r:Int×Int)(k:Nat):List (List Int):=(List.range k).flatMap fun(m:Nat)=>if lV step pre.getLast? (r.1+m)=true then(iM step rs (some (r.1+m))).map (fun t=>dP (pre++(r.1+(m:Int))::t))else []
theorem aVH{step:Int}{rs:List (Int×Int)}{pre:List Int}{r:Int×Int}:WA step rs pre r 0=[]:=rfl
theorem bEQ{step:Int}{rs:List (Int×Int)}{pre:List Int}{r:Int×Int}{k:Nat}(h:lV step pre.getLast? (r.1+k)=false):WA step rs pre r (k+1)=WA step rs pre r k:=by
 unfold WA;rw[bMN,bLN,bMC,bLI (by simp[h]),n5]
theorem aEA{step:Int}{rs:List (Int×Int)}{pre:List Int}{r:Int×Int}{k:Nat}(h:lV step pre.getLast? (r.1+k)=true):WA step rs pre r (k+1)=WA step rs pre r k++(iM step rs ((pre++[r.1+(k:Int)]).getLast?)).map (fun t=>dP ((pre++[r.1+(k:Int)])++t)):=by
 unfold WA;rw[bMN,bLN,bMC,bLR h,List.getLast?_concat];simp
theorem aCT{step:Int}{rs:List (Int×Int)}{pre:List Int}{r:Int×Int}:WA step rs pre r (fJ r).toNat=(iM step (r::rs) pre.getLast?).map (fun t=>dP (pre++t)):=by
 unfold WA;simp only[iM];rw[List.map_flatMap]
 congr 1;funext m
 split<;>simp
theorem aUX{step:Int}{rs:List (Int×Int)}{pre:List Int}{r:Int×Int}{k n:Nat}(hk:k<n):∃rr,WA step rs pre r n=WA step rs pre r (k+1)++rr:=by
 refine⟨((List.range n).drop (k+1)).flatMap fun(m:Nat)=>if lV step pre.getLast? (r.1+m)=true then(iM step rs (some (r.1+m))).map (fun t=>dP (pre++(r.1+(m:Int))::t))else [],?_⟩;unfold WA;rw[←bLN];congr 1;have h:=bOJ (k+1) (List.range n);rw[List.take_range,bOA Yd]at h;exact h.symm
theorem GM{step:Int}:∀(rs:List (Int×Int)) (p:Option Int) (t:List Int),t∈iM step rs p→t.length=rs.length
 | [],p,t,h=>by simp[iM]at h;subst h;rfl
 |r::rs,p,t,h=>by
  simp only[iM,bOV,bMZ]at h;obtain⟨m,hm,h⟩:=h;split at h
  ·obtain⟨u,hu,rfl⟩:=bKX.1 h;rw[bLF,GM rs _ u hu,bLF]
  ·cases h
theorem OS{step:Int}:∀(rs:List (Int×Int)) (p:Option Int) (t:List Int),(∀r∈rs,jJ r=true)→t∈iM step rs p→∀x∈t,0≤x∧x≤99
 | [],p,t,_,h=>by simp[iM]at h;subst h;intro x hx;cases hx
 |r::rs,p,t,hr,h=>by
  simp only[iM,bOV,bMZ]at h;obtain⟨m,hm,h⟩:=h;split at h
  ·obtain⟨u,hu,rfl⟩:=bKX.1 h;intro x hx;rcases bNA.1 hx with rfl|hx
   ·have h1:=hr r bKZ;unfold jJ fI at h1;simp only[bKW,LT,bT]at h1;unfold fJ at hm;omega
   ·exact OS rs _ u (fun q hq=>hr q (bKY _ hq)) hu x hx
  ·cases h
structure LH(t:aW):Prop where
 last:0≤t.last∧t.last≤9
 len:(t.heights.length:Int)=t.last+1
 step:0≤t.step∧t.step≤99
 hts:∀r∈t.heights,jJ r=true
 lev:t.levels.length≤6
 levs:∀n∈t.levels,0≤n∧n≤99
 mks:t.marks.length≤5
 mark:∀m∈t.marks,xA t.last m=true
theorem tOk{t:aW}(h1:aLT t=false)(h2:bDZ t=true):LH t:=by
 unfold aLT at h1;unfold bDZ fI at h2;simp only[bMG,bLC]at h1;simp only[bKW,LT,bLX,bT]at h2;obtain⟨⟨⟨⟨⟨h3,h4⟩,h5⟩,I⟩,O⟩,h8⟩:=h2;exact⟨Yd,h4,I,h5,Yd,O,Yd,h8⟩
theorem LL{t:aW}(h:bB t=0):LH t:=by
 unfold bB at h;split at h
 ·omega
 ·rename_i h1;split at h
  ·omega
  ·rename_i h2;exact tOk Xae Xao
theorem LH.len10{t:aW}(h:LH t):t.heights.length≤10:=by have:=h.len;have:=h.last;omega

theorem aTW{s:List Int}{a k:Nat}(h:a+k≤s.length):((dP s).drop a).take k=(s.drop a).take k:=by
 unfold dP;rw[List.drop_append_of_le_length Yd,bMP Yaq]
theorem K3{s:List Int}{a b:Int}(h0:0≤a)(h1:a≤b)(h2:b<s.length):kD (dP s) a b=kD s a b:=by
 unfold kD;rw[aTW Yd]
theorem aJW{last:Int}{m:Mk}(h:xA last m=true):0≤m.frm∧m.frm≤m.to∧m.to≤last∧0≤m.lo∧m.lo≤m.hi∧m.hi≤99:=by
 unfold xA tE GQ jJ fI at h;simp only[bKW,LT,bT]at h;omega
theorem aII{t:aW}(ht:LH t){s:List Int}(hs:(s.length:Int)=t.last+1):iH t (dP s)=iH t s:=by
 unfold iH;rw[bOC,bLX,bLX];constructor<;>intro h m hm<;>have h1:=aJW (ht.mark m hm)<;>have h2:=h m hm
 ·rwa [K3 Yd Yd Yd]at h2
 ·rwa [K3 Yd Yd Yd]
theorem aAM{l:List (List Int)}{pre us:List (List Int)}{x:List Int}(h:l.map dP=pre++x::us):∃s,l[pre.length]?= some s∧x=dP s∧s∈l∧l.take (pre.length+1)=l.take pre.length++[s]:=by
 have h1:(l.map dP)[pre.length]?= some x:=by rw[h];simp
 rw[bMI]at h1;obtain⟨s,hs,hx⟩:=bOG.1 h1;exact⟨s,hs,hx.symm,GT hs,by rw[bLA,hs];rfl⟩
def lT(t:aW)(k:Nat):List (List Int):=((eY t).take k).foldl (xJ t) []
theorem W8(t:aW){k:Nat}(h:(eY t).length≤k):lT t k=bN t:=by unfold lT bN;rw[bLZ h]
theorem LD{t:aW}{k:Nat}{s:List Int}(h:(eY t).take (k+1)=(eY t).take k++[s]):lT t (k+1)=xJ t (lT t k) s:=by
 unfold lT;rw[h,bMT];rfl
theorem aQJ{t:aW}{acc:List (List Int)}{s:List Int}:∀u∈xJ t acc s,u∈acc∨u=s:=by
 intro u hu;unfold xJ at hu
 split at hu
 ·exact bLL hu
 ·simpa using hu
theorem z8{t:aW}:∀(l acc:List (List Int)),∀u∈l.foldl (xJ t) acc,u∈acc∨u∈l
 | [],acc,u,h=>bLL h
 |s::l,acc,u,h=>by
  rcases z8 l (xJ t acc s) u h with h|h
  ·rcases aQJ u h with h|rfl
   ·exact bLL h
   ·exact bLG bKZ
  ·exact bLG (bKY _ h)
theorem LZ{t:aW}:∀(l acc:List (List Int)),(l.foldl (xJ t) acc).length≤acc.length+l.length
 | [],acc=>by simp
 |s::l,acc=>by
  have h1:=LZ (t:=t) l (xJ t acc s);have h2:(xJ t acc s).length≤acc.length+1:=by
   unfold xJ;split
   ·omega
   ·simp
  rw[bME,bLF];omega
theorem Y5{t:aW}{k:Nat}{u:List Int}(h:u∈lT t k):u∈eY t:=by
 rcases z8 _ _ u h with h|h
 ·cases h
 ·exact bQF h
theorem TL(t:aW)(k:Nat):(lT t k).length≤(eY t).length:=by
 have h1:=LZ (t:=t) ((eY t).take k) [];have h2:=bOB k (eY t);rw[bMV]at h1;unfold lT;simp only[bNE]at h1;omega
def wX:List (Int×Int)→Int
 | []=>1
 |r::l=>fJ r*wX l
theorem KE:∀(l:List (Int×Int)) (m:Int),(∀r∈l,jJ r=true)→0≤m→l.foldl (fun(m:Int) r=>min (m*fJ r) 2001) m≤2000→m*wX l≤2000∧1≤wX l
 | [],m,_,_,h=>by simpa [wX]using h
 |r::l,m,hr,hm,h=>by
  have h1:1≤fJ r:=by
   have h1:=hr r bKZ;unfold jJ fI at h1;simp only[bKW,LT,bT]at h1;unfold fJ;omega
  have h2:0≤m*fJ r:=bQH hm Yd;rw[bME]at h;obtain⟨h3,h4⟩:=KE l (min (m*fJ r) 2001) (fun q hq=>hr q (bKY _ hq)) Yd h;have h5:1≤fJ r*wX l:=by
   have:=Int.mul_le_mul h1 h4 Yd Yd;omega
  refine⟨?_,h5⟩;show m*(fJ r*wX l)≤2000;rw[←Int.mul_assoc];by_cases hc:m*fJ r≤2001
  ·rwa [Int.min_eq_left hc]at h3
  ·rw[Int.min_eq_right Yd]at h3;omega
theorem kI{α β:Type}{f:α→List β}{n:Nat}:∀(l:List α),(∀x∈l,(f x).length≤n)→(l.flatMap f).length≤l.length*n
 | [],_=>by simp
 |x::l,h=>by
  have h1:=kI l fun y hy=>h y (bKY _ hy)
  have h2:=h x bKZ;rw[bMA,GE,bLF,bNV];omega
theorem A5{step:Int}:∀(rs:List (Int×Int)) (p:Option Int),(∀r∈rs,jJ r=true)→1≤wX rs∧((iM step rs p).length:Int)≤wX rs
 | [],p,_=>by simp[iM,wX]
 |r::rs,p,hr=>by
  have h1:1≤fJ r:=by
   have h1:=hr r bKZ;unfold jJ fI at h1;simp only[bKW,LT,bT]at h1;unfold fJ;omega
  have h2:=A5 (step:=step) rs none fun q hq=>hr q (bKY _ hq)
  have h3:(iM step (r::rs) p).length≤(List.range (fJ r).toNat).length*(wX rs).toNat:=by
   simp only[iM];refine kI _ fun k _=>?_
   split
   ·rw[bMK];have:=(A5 (step:=step) rs (some (r.1+(k:Int))) fun q hq=>hr q (bKY _ hq)).2;omega
   ·exact bQA _
  rw[bPD]at h3;have h4:(((fJ r).toNat*(wX rs).toNat:Nat):Int)=fJ r*wX rs:=by
   rw[Int.natCast_mul,Int.toNat_of_nonneg Yd,Int.toNat_of_nonneg Yd]
  have h5:=Int.mul_le_mul h1 h2.1 Yd Yd;refine⟨?_,?_⟩
  ·show 1≤fJ r*wX rs;omega
  ·show _≤fJ r*wX rs;rw[←h4];exact Int.ofNat_le.2 h3
theorem TQ{t:aW}(h:bB t=0):rI t.heights≤2000:=by
 unfold bB at h;split at h
 ·omega
 ·split at h
  ·omega
  ·split at h
   ·omega
   ·omega
theorem AT{t:aW}(h:bB t=0):(eY t).length≤2000:=by
 have h1:=LL h;have h2:=(A5 (step:=t.step) t.heights none h1.hts).2;have h3:=(KE t.heights 1 h1.hts Yd (TQ h)).1;show(iM t.step t.heights none).length≤2000;omega
theorem rT{t:aW}{s:List Int}(h:s∈eY t):s.length=t.heights.length:=GM _ _ _ h
def R4(l:List (List Int))(last:Int)(S:List (Int×Int)):Prop:=∀p,p∈S ↔∃s∈l,∃j:Nat,(j:Int)≤last∧p=((j:Int),s.getD j 0)
theorem R4.nil{last:Int}:R4 [] last []:=fun p=>by simp
end C2
open C1 C2
def HB:Rd Mk:=fun _ m cs=>cs=[qI m.frm,qI m.to,qI m.lo,qI m.hi]
theorem HB.up:HB.Up:=fun _ _ _ h=>h
def W5:Rd (Int×Int):=fun _ p cs=>cs=[qI p.1,qI p.2]
theorem W5.up:W5.Up:=fun _ _ _ h=>h
def bHT(m:Mk):Γ:=.agg #[qI m.frm,qI m.to,qI m.lo,qI m.hi]
def fA(D:aC)(v:Γ)(t:aW):Prop:=∃hv lv mv,v=.agg #[qI t.last,hv,qI t.step,lv,mv]∧Sl D W5 2 hv t.heights∧Sl D RI 1 lv t.levels∧Sl D HB 4 mv t.marks
def HE:Rd (List Int):=fun _ l cs=>cs=ints (dP l)
theorem HE.up:HE.Up:=fun _ _ _ h=>h
def U6(l:List (List Int)):List Γ:=l.flatMap fun s=>ints (dP s)
theorem VS{l:List (List Int)}(h:∀s∈l,s.length≤10):(U6 l).length=l.length*10:=by
 induction l with
 |nil=>rfl
 |cons c l ih=>
  have:=ih fun s hs=>h s (bKY _ hs)
  unfold U6 at this ⊢
  rw[bMA,GE,this,aN,gQ (h c bKZ),bLF];omega
theorem UH{l:List (List Int)}(h:∀s∈l,s.length≤10){i:Nat}{s:List Int}(hi:l[i]?= some s)(junk:List Γ):((U6 l++junk).drop (i*10)).take 10=ints (dP s):=by
 induction l generalizing i with
 |nil=>simp at hi
 |cons d l ih=>
  have I:(ints (dP d)).length=10:=by rw[aN,gQ (h d bKZ)]
  have hc:U6 (d::l)=ints (dP d)++U6 l:=rfl;rw[hc,bLK];cases i with
  |zero=>
   obtain rfl:d=s:=by simpa using hi
   rw[bPG,bOY,bMP Yd,bLZ Yd]
  |succ i=>
   rw[show(i+1)*10=(ints (dP d)).length+i*10 by omega,bPO];exact ih (fun s hs=>h s (bKY _ hs)) Yau
theorem kN.seas{D:aC}{v:Γ}{n:Nat}{l:List (List Int)}(hF:kN D v n (U6 l))(hn:l.length=n)(hb:n≤9223372036854775807)(h:∀t∈l,t.length≤10):Sl D HE 10 v l:=
 hF.sl hn hb fun i t hi=>⟨Fs.ints (dP t),rfl,by rw[Fs.aN,gQ (h t (GT hi))],by have:=UH h hi [];rwa [n5]at this⟩
theorem fA.up{D D':aC}{v:Γ}{t:aW}(h:fA D v t)(hl:Le D D'):fA D' v t:=by
 obtain⟨hv,lv,mv,e,h1,h2,h3⟩:=h;exact⟨hv,lv,mv,e,h1.up W5.up hl,h2.up RI.up hl,h3.up HB.up hl⟩
namespace C3
open C1 (gZ bT)
structure eL where
 kind:Int
 chair:Int
 token:Int
deriving DecidableEq
structure Cn where
 after:Int
 lo:Int
 hi:Int
deriving DecidableEq
structure bH where
 chairs:Int
 coin:Int
 box:Int
 lines:List eL
 counts:List Cn
def xE(n:Int)(l:eL):Bool:=gZ l.kind 0 2&&gZ l.chair (-1) (n-1)&&gZ l.token (-1) (n-1)
def sX(len:Int)(c:Cn):Bool:=gZ c.after 0 len&&decide (0≤c.lo)&&decide (c.lo≤c.hi)&&decide (c.hi≤2000)
def fZ(sign none lo hi:Int):List Int:=if sign≠none then [sign]else(List.range (hi+1-lo).toNat).map fun i:Nat=>lo+(i:Int)
def cX(n:Int)(l:eL):List eL:=(fZ l.kind 0 1 2).flatMap fun k=>(fZ l.chair (-1) 0 (n-1)).flatMap fun c=>(fZ l.token (-1) 0 (n-1)).map fun t=>⟨k,c,t⟩
def tR(n:Int)(ls:List eL):Int:=ls.foldl (fun m l=>min (m*(cX n l).length) 4097) 1
def tK(b:bH):Bool:=gZ b.chairs 1 4&&gZ b.coin 1 99&&gZ b.box 0 999&&b.lines.all (xE b.chairs)&&b.counts.all (sX b.lines.length)
def bB(b:bH):Int:=if 8<b.lines.length∨4<b.counts.length then 3 else if tK b=false then 1 else if 4096<tR b.chairs b.lines then 3 else 0
structure Sc where
 ch:List Int
 tk:List Int
 money:Int
 mixed:Int
deriving DecidableEq
def rH(s:Sc):List Int:=s.ch++s.tk++[s.money,s.mixed]
def oS(l:List Int)(i:Int):Int:=l.getD i.toNat 0
def mB(s:Sc)(l:eL):Bool:=(decide (oS s.ch l.chair≠0)==decide (l.kind=2))&&(decide (oS s.tk l.token≠0)==decide (l.kind=2))
def fK(b:bH)(s:Sc)(i:Int)(l:eL):Sc:=
 if l.kind=2 then⟨s.ch.set l.chair.toNat 0,s.tk.set l.token.toNat 0,s.money-b.coin,if oS s.ch l.chair≠oS s.tk l.token then s.mixed+1 else s.mixed⟩
 else⟨s.ch.set l.chair.toNat (i+1),s.tk.set l.token.toNat (i+1),s.money+b.coin,s.mixed⟩
def iA(b:bH)(s:Sc)(after:Int):Bool:=b.counts.all fun c=>decide (c.after≠after)||gZ s.money c.lo c.hi
def gN(b:bH):Sc:=⟨[0,0,0,0],[0,0,0,0],b.box,0⟩
def H2(b:bH):List eL→Nat→Sc→List (List eL×List Sc)
 | [],i,s=>if iA b s i=true then [([],[s])]else []
 |l::ls,i,s=>if iA b s i=true then(cX b.chairs l).flatMap fun r=>if mB s r=true then(H2 b ls (i+1) (fK b s i r)).map fun x=>(r::x.1,s::x.2)else []else []
def truths(b:bH):List (List eL×List Sc):=H2 b b.lines 0 (gN b)
def J6(b:bH)(fine:Bool):Int:=if bB b≠0 then bB b else if fine=false then 2 else if truths b=[]then 11 else 0
def bEK(ss:List Sc)(k:Nat):Sc:=ss.getD k ⟨[],[],0,0⟩
end C3
open C1 C3
def oE:Rd eL:=fun _ l cs=>cs=[qI l.kind,qI l.chair,qI l.token]
theorem oE.up:oE.Up:=fun _ _ _ h=>h
def tC:Rd Cn:=fun _ c cs=>cs=[qI c.after,qI c.lo,qI c.hi]
theorem tC.up:tC.Up:=fun _ _ _ h=>h
def EH(l:eL):Γ:=.agg #[qI l.kind,qI l.chair,qI l.token]
def bEI(c:Cn):Γ:=.agg #[qI c.after,qI c.lo,qI c.hi]
def gK(D:aC)(v:Γ)(b:bH):Prop:=∃lv cv,v=.agg #[qI b.chairs,qI b.coin,qI b.box,lv,cv]∧Sl D oE 3 lv b.lines∧Sl D tC 3 cv b.counts
theorem gK.up{D D':aC}{v:Γ}{b:bH}(h:gK D v b)(hl:Le D D'):gK D' v b:=by
 obtain⟨lv,cv,e,h1,h2⟩:=h;exact⟨lv,cv,e,h1.up oE.up hl,h2.up tC.up hl⟩
def ZV(s:Sc):Γ:=.agg (ints (rH s)).toArray
def WD:Rd Sc:=fun _ s cs=>cs=ints (rH s)
theorem WD.up:WD.Up:=fun _ _ _ h=>h
end Go.Fs
namespace Go.Fs.C3
open C1 (gZ bT)

theorem aGX{sign none lo hi x:Int}:x∈fZ sign none lo hi ↔ (sign≠none∧x=sign)∨(sign=none∧lo≤x∧x≤hi):=by
 unfold fZ;by_cases h:sign=none
 ·rw[bLI Yax,bKX];constructor
  ·rintro⟨i,hi',rfl⟩;have:=bMZ.1 hi';exact bLG ⟨h,Yd,Yd⟩
  ·rintro(⟨h1,_⟩|⟨_,h1,h2⟩)
   ·exact absurd h h1
   ·exact⟨(x-lo).toNat,bMZ.2 Yd,Yd⟩
 ·rw[bLR h];simp[h]
def uH(l x:eL):Bool:=(decide (l.kind=0)||decide (l.kind=x.kind))&&(decide (l.chair<0)||decide (l.chair=x.chair))&&(decide (l.token<0)||decide (l.token=x.token))
def bDS(n:Int)(x:eL):Prop:=(x.kind=1∨x.kind=2)∧0≤x.chair∧x.chair<n∧0≤x.token∧x.token<n
theorem j4{n:Int}{l x:eL}(hl:xE n l=true):x∈cX n l ↔ bDS n x∧uH l x=true:=by
 unfold xE at hl;simp only[bKW,bT]at hl;unfold cX bDS uH;simp only[bOV,bKX,aGX,bKW,bMF,LT];constructor
 ·rintro⟨k,hk,c,hc,t,ht,rfl⟩;simp only;omega
 ·rintro⟨⟨h1,h2,h3,h4,h5⟩,⟨I,O⟩,h8⟩;refine⟨x.kind,Yd,x.chair,Yd,x.token,Yd,rfl⟩
structure RG(b:bH)(s:Sc):Prop where
 lc:s.ch.length=4
 lt:s.tk.length=4
 pc:∀x∈s.ch,0≤x∧x≤8
 pt:∀x∈s.tk,0≤x∧x≤8
def NJ(l:List Int):Int:=((l.filter fun x=>decide (x≠0)).length:Int)
def nJ(b:bH):List eL→Nat→Sc→Bool
 | [],i,s=>iA b s i
 |l::ls,i,s=>iA b s i&&(cX b.chairs l).any fun r=>mB s r&&nJ b ls (i+1) (fK b s i r)
theorem YX{α β:Type}{l:List α}{f:α→List β}:l.flatMap f≠[] ↔∃x∈l,f x≠[]:=by
 rw[Ne,List.flatMap_eq_nil_iff];simp
theorem VL(b:bH):∀(ls:List eL) (i:Nat) (s:Sc),nJ b ls i s=true ↔ H2 b ls i s≠[]
 | [],i,s=>by
  unfold nJ H2;cases iA b s i<;>simp
 |l::ls,i,s=>by
  unfold nJ H2;cases iA b s i with
  |false=>simp
  |true=>
   rw[bPE,bPI,bLR rfl,YX];refine exists_congr fun r=>and_congr_right fun _=>?_
   rw[bKW,VL b ls];cases mB s r<;>simp
theorem K0(b:bH):nJ b b.lines 0 (gN b)=decide (truths b≠[]):=by
 rw[bOC,VL,LT];rfl

def F9(l:List Int):List Int:=l.map fun x=>min x 1
theorem RW(l:List Int):(F9 l).length=l.length:=bMK _
theorem l4(l:List Int)(k:Nat)(x:Int):F9 (l.set k x)=(F9 l).set k (min x 1):=List.map_set
theorem Q2{l:List Int}(h:∀x∈l,0≤x)(c:Int):(oS l c≠0) ↔ oS (F9 l) c≠0:=by
 unfold oS F9;rw[bNG,bNG,bMI];cases e:l[c.toNat]? with
 |none=>simp
 |some x=>
  have:=h x (GT e);simp only[bMS,bOQ];omega
structure bJZ(s s':Sc):Prop where
 ch:F9 s.ch=F9 s'.ch
 tk:F9 s.tk=F9 s'.tk
 money:s.money=s'.money
structure aMJ(s:Sc):Prop where
 ch:∀x∈s.ch,0≤x
 tk:∀x∈s.tk,0≤x
theorem bCD{s s':Sc}(h:bJZ s s')(hp:aMJ s)(hp':aMJ s')(l:eL):mB s l=mB s' l:=by
 unfold mB;have I:decide (oS s.ch l.chair≠0)=decide (oS s'.ch l.chair≠0):=decide_eq_decide.2 (by rw[Q2 hp.ch,Q2 hp'.ch,h.ch]);have O:decide (oS s.tk l.token≠0)=decide (oS s'.tk l.token≠0):=decide_eq_decide.2 (by rw[Q2 hp.tk,Q2 hp'.tk,h.tk]);rw[I,O]
theorem aRS{b:bH}{s s':Sc}(h:bJZ s s')(i:Nat)(l:eL):bJZ (fK b s i l) (fK b s' i l):=by
 unfold fK;split
 ·exact⟨by simp only[l4,h.ch],by simp only[l4,h.tk],by simp only[h.money]⟩
 ·exact⟨by simp only[l4,h.ch],by simp only[l4,h.tk],by simp only[h.money]⟩
theorem CA{l:List Int}(h:∀x∈l,0≤x)(k:Nat){y:Int}(hy:0≤y):∀x∈l.set k y,0≤x:=fun x hx=>by
 rcases List.mem_or_eq_of_mem_set hx with hx|rfl
 ·exact h x hx
 ·exact hy
theorem FO{b:bH}{s:Sc}(h:aMJ s)(i:Nat)(l:eL):aMJ (fK b s i l):=by
 unfold fK;split
 ·exact⟨CA h.ch _ Yd,CA h.tk _ Yd⟩
 ·exact⟨CA h.ch _ Yd,CA h.tk _ Yd⟩
theorem VF(b:bH):∀(ls:List eL) (i:Nat) (s s':Sc),bJZ s s'→aMJ s→aMJ s'→nJ b ls i s=nJ b ls i s'
 | [],i,s,s',h,_,_=>by unfold nJ iA;rw[h.money]
 |l::ls,i,s,s',h,hp,hp'=>by
  unfold nJ;have e:iA b s i=iA b s' i:=by unfold iA;rw[h.money]
  rw[e];congr 1;refine bLE _ (funext fun r=>?_);rw[bCD h hp hp',VF b ls (i+1) _ _ (aRS h i r) (FO hp i r) (FO hp' i r)]

theorem VK{l:List Int}{k:Nat}(hk:k<l.length)(y:Int):NJ (l.set k y)=NJ l-(if l.getD k 0≠0 then 1 else 0)+(if y≠0 then 1 else 0):=by
 induction l generalizing k with
 |nil=>simp at hk
 |cons x l ih=>
  cases k with
  |zero=>
   unfold NJ;simp only[List.set_cons_zero,bNN,List.getD_cons_zero,LT];split<;>split<;>simp<;>omega
  |succ k=>
   have:=ih (k:=k) Xaz;unfold NJ at this ⊢
   simp only[List.set_cons_succ,bNN,List.getD_cons_succ];split
   ·simp only[bLF];push_cast;omega
   ·exact this
def GR(b:bH)(s:Sc):Prop:=s.money=b.box+b.coin*NJ s.ch
theorem aHR{l m:List Int}(h:F9 l=F9 m)(hl:∀x∈l,0≤x)(hm:∀x∈m,0≤x):NJ l=NJ m:=by
 induction l generalizing m with
 |nil=>
  cases m with
  |nil=>rfl
  |cons y m=>simp[F9]at h
 |cons x l ih=>
  cases m with
  |nil=>simp[F9]at h
  |cons y m=>
   simp only[F9,bMD,bNI]at h;have:=ih h.2 (fun x hx=>hl x (bKY _ hx)) fun x hx=>hm x (bKY _ hx)
   have h1:=hl x bKZ;have h2:=hm y bKZ;unfold NJ at this ⊢
   simp only[bNN,LT];have e:x≠0 ↔ y≠0:=by have:=h.1;omega
   by_cases hx:x≠0
   ·rw[bLR hx,bLR (e.1 hx)];simp only[bLF];push_cast;omega
   ·rw[bLI hx,bLI fun hy=>hx (e.2 hy)];exact this
theorem aQP{b:bH}{s:Sc}(h:GR b s)(h4:s.ch.length=4){i:Nat}{l:eL}(hc:mB s l=true)(h0:0≤l.chair)(h1:l.chair<4):GR b (fK b s i l):=by
 unfold mB at hc;simp only[bKW,bPX,decide_eq_decide]at hc;have hk:l.chair.toNat<s.ch.length:=by omega
 unfold GR at h ⊢
 unfold fK;have hg:s.ch.getD l.chair.toNat 0=oS s.ch l.chair:=rfl;by_cases e:l.kind=2
 ·rw[bLR e];simp only;rw[VK hk,hg,bLR (hc.1.2 e),bLI Yd,h,Int.mul_add,Int.mul_sub];omega
 ·rw[bLI e];simp only;rw[VK hk,hg,bLI fun hh=>e (hc.1.1 hh),bLR Yd,h,Int.mul_add,Int.mul_sub];omega
theorem s4(b:bH):GR b (gN b):=by unfold GR gN NJ;simp
def aUI(s:Sc)(i:Nat):List Int:=(i:Int)::(F9 s.ch++F9 s.tk)
theorem aVL{b:bH}{ls:List eL}{i i':Nat}{s s':Sc}(e:aUI s i=aUI s' i')(h:GR b s)(h':GR b s')(hp:aMJ s)(hp':aMJ s')(h4:s.ch.length=4)(h4':s'.ch.length=4):i=i'∧nJ b ls i s=nJ b ls i' s':=by
 unfold aUI at e;rw[bNI]at e;obtain⟨U,O⟩:=e;obtain⟨I,R⟩:=List.append_inj O (by rw[RW,RW];omega)
 have hi:i=i':=by omega
 subst hi;refine⟨rfl,VF b ls i s s' ⟨I,R,?_⟩ hp hp'⟩;unfold GR at h h';rw[h,h',aHR I hp.ch hp'.ch]
end Go.Fs.C3
namespace Go.Fs
variable{P:Program}{X:Cx}{γb:Type}[Membership Nat γb]{bad:γb}{all:Array Oper}{K:Act→Δ→Prop}{Q:Exit→Act→Δ→Prop}
variable{σ:cD}{μ:aD}{Ds:List aC}{os:List (Bool×Nat)}{fl:Bool}{ix:Nat}
variable{d:Nat}{x y z:Operand}{u v:Γ}{ty:Θ}{pos:String}{aft:Array Edge}{g:Option (Nat×Bool)}
variable{k':IntKind}{m n:Nat}{t t':Θ}
def pX(m n:Nat):Nat:=m ^^^ (m&&&n)
theorem N4(m n i:Nat):(pX m n).testBit i=(m.testBit i&& !n.testBit i):=by
 unfold pX;rw[Nat.testBit_xor,Nat.testBit_and];cases m.testBit i<;>cases n.testBit i<;>rfl
theorem H5(m n:Nat):pX m n≤m:=by
 apply Nat.le_of_testBit;intro i hi;rw[N4]at hi;simp at hi;exact hi.1
theorem yX{m:Nat}(h:m<9223372036854775808):(BitVec.ofInt IntKind.i64.bits (m:Int)).toNat=m:=by
 rw[BitVec.ofInt_natCast,BitVec.toNat_ofNat];exact Nat.mod_eq_of_lt (by show m<2^64;omega)
theorem bFN{m n:Nat}(h:m<9223372036854775808):m&&&n<9223372036854775808:=Nat.lt_of_le_of_lt Nat.and_le_left h
theorem bIG{m n:Nat}(h:m<9223372036854775808)(h':n<9223372036854775808):m|||n<9223372036854775808:=Nat.or_lt_two_pow (n:=63) h h'
theorem aSX(ho:all[ix]?= some ⟨some d,.binOp .and t x y t',ty,pos,aft,g⟩)(hx:ev σ x=some (qI (m:Int)))(hy:ev σ y=some (qI (n:Int)))(hm:m<9223372036854775808)(hn:n<9223372036854775808)(hN:Nat.blt d X.N=true)(hg:dH all σ g)
  (kk:WL P X bad all K Q os ((d,qI ((m&&&n:Nat):Int))::σ) μ Ds):WL P X bad all K Q ((fl,ix)::os) σ μ Ds:=
 bZ ho rfl rfl hN hg (fun ρ hρ w'=>mU Ye (by
  have e:(BitVec.ofInt IntKind.i64.bits (m:Int)&&&BitVec.ofInt IntKind.i64.bits (n:Int)).toNat=m&&&n:=by rw[BitVec.toNat_and,yX hm,yX hn]
  have h2:=bFN (n:=n) hm;have h3:wD .i64 ((m&&&n:Nat):Int):=by simp only[wD];omega
  simp only[binOp,ne_eq,not_true_eq_false,bNU,Op.intBits,e,sP h3];rfl) (hρ x _ hx) (hρ y _ hy)) kk
theorem IZ(ho:all[ix]?= some ⟨some d,.binOp .or t x y t',ty,pos,aft,g⟩)(hx:ev σ x=some (qI (m:Int)))(hy:ev σ y=some (qI (n:Int)))(hm:m<9223372036854775808)(hn:n<9223372036854775808)(hN:Nat.blt d X.N=true)(hg:dH all σ g)
  (kk:WL P X bad all K Q os ((d,qI ((m|||n:Nat):Int))::σ) μ Ds):WL P X bad all K Q ((fl,ix)::os) σ μ Ds:=
 bZ ho rfl rfl hN hg (fun ρ hρ w'=>mU Ye (by
  have e:(BitVec.ofInt IntKind.i64.bits (m:Int)|||BitVec.ofInt IntKind.i64.bits (n:Int)).toNat=m|||n:=by rw[BitVec.toNat_or,yX hm,yX hn]
  have h2:=bIG hm hn;have h3:wD .i64 ((m|||n:Nat):Int):=by simp only[wD];omega
  simp only[binOp,ne_eq,not_true_eq_false,bNU,Op.intBits,e,sP h3];rfl) (hρ x _ hx) (hρ y _ hy)) kk
theorem aSU(ho:all[ix]?= some ⟨some d,.binOp .andNot t x y t',ty,pos,aft,g⟩)(hx:ev σ x=some (qI (m:Int)))(hy:ev σ y=some (qI (n:Int)))(hm:m<9223372036854775808)(hn:n<9223372036854775808)(hN:Nat.blt d X.N=true)(hg:dH all σ g)
  (kk:WL P X bad all K Q os ((d,qI ((pX m n:Nat):Int))::σ) μ Ds):WL P X bad all K Q ((fl,ix)::os) σ μ Ds:=
 bZ ho rfl rfl hN hg (fun ρ hρ w'=>mU Ye (by
  have e:(BitVec.ofInt IntKind.i64.bits (m:Int)&&& ~~~ BitVec.ofInt IntKind.i64.bits (n:Int)).toNat=pX m n:=by
   apply Nat.eq_of_testBit_eq;intro i;rw[N4,BitVec.testBit_toNat,BitVec.getLsbD_and,BitVec.getLsbD_not,←BitVec.testBit_toNat,←BitVec.testBit_toNat,yX hm,yX hn];by_cases hi:i<IntKind.i64.bits
   ·simp[hi]
   ·have:m.testBit i=false:=Nat.testBit_lt_two_pow (bNR hm (bNK (show 9223372036854775808≤2^64 by decide) (bMY Yt (show 64≤i from Nat.le_of_not_lt hi))));simp[this]
  have h2:=H5 m n;have h3:wD .i64 ((pX m n:Nat):Int):=by simp only[wD];omega
  simp only[binOp,ne_eq,not_true_eq_false,bNU,Op.intBits,e,sP h3];rfl) (hρ x _ hx) (hρ y _ hy)) kk
theorem ZI{a b:Int}(ho:all[ix]?= some ⟨some d,.binOp .or t x y t',ty,pos,aft,g⟩)(hx:ev σ x=some (qI a))(hy:ev σ y=some (qI b))(ha:0≤a∧a≤1)(hb:0≤b∧b≤1)(hN:Nat.blt d X.N=true)(hg:dH all σ g)
  (kk:WL P X bad all K Q os ((d,qI (max a b))::σ) μ Ds):WL P X bad all K Q ((fl,ix)::os) σ μ Ds:=by
 have h1:a=((a.toNat:Nat):Int):=by omega
 have h2:b=((b.toNat:Nat):Int):=by omega
 have h3:max a b=((a.toNat|||b.toNat:Nat):Int):=by
  have ha':a=0∨a=1:=by omega
  have hb':b=0∨b=1:=by omega
  rcases ha' with rfl|rfl<;>rcases hb' with rfl|rfl<;>decide
 rw[h3]at kk;rw[h1]at hx;rw[h2]at hy;exact IZ ho hx hy Yd Yd hN hg kk
theorem aDW{k:IntKind}{a:Int}(ho:all[ix]?= some ⟨some d,.unOp .neg t x,ty,pos,aft,g⟩)(hx:ev σ x=some (.int k a))(hr:wD k (-a))(hN:Nat.blt d X.N=true)(hg:dH all σ g)
  (kk:WL P X bad all K Q os ((d,.int k (-a))::σ) μ Ds):WL P X bad all K Q ((fl,ix)::os) σ μ Ds:=
 bZ ho rfl rfl hN hg (fun ρ hρ w'=>by
  have h2:(0:Int)-a= -a:=by omega
  simp only[execOp,hρ x _ hx,Op.unary,Op.intArith,h2,sP hr];rfl) kk
theorem W9{t e:Θ}{n sz:Nat}{parts:Array (Nat×Operand)}{us:List (Nat×Γ)}{zs cs:List Γ}(ho:all[ix]?= some ⟨some d,.build t parts,ty,pos,aft,g⟩)(ht:P.underlying t=some (.array n e))(hs:TS P e sz)(hz:TZ P t (.agg zs.toArray))(hu:GP σ parts.toList=some us)
  (hf:Instr.fill (fun i=>some (i*sz,sz)) zs.toArray us=some cs.toArray) (hN:Nat.blt d X.N=true) (hg:dH all σ g) (kk:WL P X bad all K Q os ((d,.agg cs.toArray)::σ) μ Ds):WL P X bad all K Q ((fl,ix)::os) σ μ Ds:=
 bZ ho rfl rfl hN hg (fun ρ hρ w'=>by
  have e:(parts.map fun(i,x)=>(i,ρ x)).toList=us:=by rw[←yE hρ hu];simp
  simp only[execOp,Instr.build,Ω,hz w',Ξ,TU.of ht w',hs w',Value.cells,e,hf,ε]) kk
theorem JA{op:BinOp}(he:op=.shl∨op=.shr){k:IntKind}{a b:Int}{w:Δ}{r:Γ}(h:(Op.shift op k a k' b).run P w=.ok r w){ρ:Operand→Γ}(hx:ρ x=.int k a)(hy:ρ y=.int k' b):
  (execOp ρ ⟨some d,.binOp op t x y t',ty,pos,aft,g⟩).run P w=.ok (.value r) w:=by
 rcases he with rfl|rfl<;>simp[execOp,hx,hy,binOp,h,go_sem]
theorem bHN(ho:all[ix]?= some ⟨some d,.binOp .shl t x y t',ty,pos,aft,g⟩)(hx:ev σ x=some (qI (m:Int)))(hy:ev σ y=some (.int k' (n:Int)))(hn:n≤62)(hm:m*2^n<9223372036854775808)(hN:Nat.blt d X.N=true)(hg:dH all σ g)
  (kk:WL P X bad all K Q os ((d,qI ((m <<< n:Nat):Int))::σ) μ Ds):WL P X bad all K Q ((fl,ix)::os) σ μ Ds:=
 bZ ho rfl rfl hN hg (fun ρ hρ w'=>JA (bLL rfl) (by
  have h1:¬((n:Int)<0):=by omega
  have h2:min (n:Int).toNat IntKind.i64.bits=n:=by rw[bMR];exact bOA (bNK hn Yt)
  have h3:(m:Int)*2^n=((m <<< n:Nat):Int):=by rw[Nat.shiftLeft_eq];simp
  have h4:wD .i64 ((m <<< n:Nat):Int):=by rw[Nat.shiftLeft_eq];simp only[wD];omega
  simp only[Op.shift,h1,bNU,h2,h3,sP h4];rfl) (hρ x _ hx) (hρ y _ hy)) kk
theorem W2(ho:all[ix]?= some ⟨some d,.binOp .shr t x y t',ty,pos,aft,g⟩)(hx:ev σ x=some (qI (m:Int)))(hy:ev σ y=some (.int k' (n:Int)))(hn:n≤62)(hN:Nat.blt d X.N=true)(hg:dH all σ g)
  (kk:WL P X bad all K Q os ((d,qI ((m >>> n:Nat):Int))::σ) μ Ds):WL P X bad all K Q ((fl,ix)::os) σ μ Ds:=
 bZ ho rfl rfl hN hg (fun ρ hρ w'=>JA (bLG rfl) (by
  have h1:¬((n:Int)<0):=by omega
  have h2:min (n:Int).toNat IntKind.i64.bits=n:=by rw[bMR];exact bOA (bNK hn Yt)
  have h3:(m:Int).fdiv (2^n)=((m >>> n:Nat):Int):=by
   rw[Nat.shiftRight_eq_div_pow,Int.fdiv_eq_ediv_of_nonneg _ (by exact_mod_cast bQA (2^n))];simp
  simp only[Op.shift,h1,bNU,h2,h3];rfl) (hρ x _ hx) (hρ y _ hy)) kk
theorem mQ(m n:Nat):((m >>> n:Nat):Int)%2=if m.testBit n then 1 else 0:=by
 rw[Nat.testBit,Nat.one_and_eq_mod_two];have:=Nat.mod_two_eq_zero_or_one (m >>> n);rcases this with h|h
 ·have:((m >>> n:Nat):Int)%2=0:=by omega
  rw[this];simp[h]
 ·have:((m >>> n:Nat):Int)%2=1:=by omega
  rw[this];simp[h]
namespace C7
structure Pt where
 a:Int
 b:Int
 c:Int
deriving DecidableEq
structure Ch where
 size:Int
 parts:Pt
structure aZ where
 chairs:List Ch
 fit:Int
 claims:List (Int×Int)
def Pt.l(p:Pt):List Int:=[p.a,p.b,p.c]
def gZ(n lo hi:Int):Bool:=decide (lo≤n)&&decide (n≤hi)
theorem bT{n lo hi:Int}:gZ n lo hi=true ↔ lo≤n∧n≤hi:=by simp[gZ]
def SL(p:Pt)(m:Int):Bool:=p.l.all fun n=>gZ n 0 m
def lC(c:Ch):Bool:=gZ c.size 0 9&&SL c.parts 2
def mO(r:Int×Int):Bool:=(decide (0≤r.1)&&decide (r.1≤r.2))&&decide (r.2≤7)
def aBM(p:Pt):Nat:=(p.l.filter fun n=>decide (n=2)).length
def dK(l:List Ch):Nat:=(l.map fun c=>aBM c.parts).sum
def B7(y:aZ):Bool:=(gZ y.fit 0 9&&y.chairs.all lC)&&y.claims.all mO
def bB(y:aZ):Int:=if 7<y.chairs.length∨5<y.claims.length then 3 else if B7 y=false then 1 else if 8<dK y.chairs then 3 else 0
def xG(n t:Int):Bool:=gZ t 0 1&&(decide (n=2)||decide (t=n))
def S8(p t:Pt):Bool:=(p.l.zip t.l).all fun x=>xG x.1 x.2
def eJ(y:aZ)(t:List Pt):Bool:=decide (t.length=y.chairs.length)&&(y.chairs.zip t).all fun x=>S8 x.1.parts x.2
def iK(p:Pt):Bool:=decide (p=⟨1,1,1⟩)
def whole(t:List Pt):Nat:=(t.filter iK).length
end C7
open C7
def bII(p:Pt):Γ:=.agg #[qI p.a,qI p.b,qI p.c]
def bIC(c:Ch):Γ:=.agg #[qI c.size,qI c.parts.a,qI c.parts.b,qI c.parts.c]
def RP:Rd Pt:=fun _ p cs=>cs=[qI p.a,qI p.b,qI p.c]
theorem RP.up:RP.Up:=fun _ _ _ h=>h
def xW:Rd Ch:=fun _ c cs=>cs=[qI c.size,qI c.parts.a,qI c.parts.b,qI c.parts.c]
theorem xW.up:xW.Up:=fun _ _ _ h=>h
def R2:Rd (Int×Int):=fun _ p cs=>cs=[qI p.1,qI p.2]
theorem R2.up:R2.Up:=fun _ _ _ h=>h
def gU(D:aC)(v:Γ)(y:aZ):Prop:=∃cv rv,v=.agg #[cv,qI y.fit,rv]∧Sl D xW 4 cv y.chairs∧Sl D R2 2 rv y.claims
theorem gU.up{D D':aC}{v:Γ}{y:aZ}(h:gU D v y)(hl:Le D D'):gU D' v y:=by
 obtain⟨cv,rv,hv,hc,hr⟩:=h;exact⟨cv,rv,hv,hc.up xW.up hl,hr.up R2.up hl⟩
abbrev aD.ks(μ:aD):List Nat:=μ.map fun p=>p.1
def HA(P:Program)(f:FuncId)(args:List Γ)(D:aC)(ν:aD)(post:aC→Γ→aD→Prop):Prop:=
 EF P f∧∀w,fO D w→(∀p∈ν,w.heap[p.1]?= some p.2∧D p.1=[]∧dC p.2)→ν.ks.Nodup→Calls P f args.toArray w fun e w'=>∃v D' ν',e=.returned v∧ν'.ks=ν.ks∧jE (hd w) w.heap.size D ν.ks ν' D' w'∧post D' v ν'
theorem jE.afterM{h0:H0}{lo:Nat}{D0 D D':aC}{mods:List Nat}{A B ν ν':aD}{w w':Δ}(h:jE h0 lo D0 mods (A++ν++B) D w)(hk:ν'.ks=ν.ks)(hs:jE (hd w) w.heap.size D ν.ks ν' D' w'):jE h0 lo D0 mods (A++ν'++B) D' w':=by
 have hle:=bNK h.hlo h.size;have hin:∀c∈ν.ks,∃o,(c,o)∈ν:=fun c hc=>by
  obtain⟨p,hp,rfl⟩:=bKX.1 hc;exact⟨p.2,hp⟩
 have hbx:∀p∈ν,_:=fun p hp=>h.box p (bLH _ (LE _ hp))
 have hnd:=h.nd;simp only[bLO]at hnd;have keys:(A++ν'++B).map (fun p=>p.1)=(A++ν++B).map (fun p=>p.1):=by
  simp only[bLO];rw[show ν'.map (fun p=>p.1)=ν.map (fun p=>p.1)from hk]
 refine⟨h.hlo,bNK h.size hs.size,fun c hc hm=>?_,fun c hc=>?_,hs.agr,fun p hp=>?_,by rw[keys];exact h.nd,fun p hp=>?_,fun e he=>(hs.env _ rfl).trans (h.env e he)⟩
 ·have hne:c∉ν.ks:=by
   intro hcm;obtain⟨o,ho⟩:=hin c hcm;rcases(hbx _ ho).2.2 with h'|h'
   ·have:=h.hlo;simp at h';omega
   ·exact hm h'
  rw[hs.old c (bNR hc hle) hne];exact h.old c hc hm
 ·rw[hs.dold c (bNR hc hle)];exact h.dold c hc
 ·rcases bLM.1 hp with hp|hp
  ·rcases bLM.1 hp with hp|hp
   ·obtain⟨h1,h2,h3⟩:=h.box p (bLH _ (bLH _ hp));have hl:=bR h1;have hne:p.1∉ν.ks:=fun hm=>(bLJ.1 (bLJ.1 hnd).1).2.2 p.1 (bKX.2 ⟨p,hp,rfl⟩) p.1 hm rfl
    exact⟨Xbj,Xax,h3⟩
   ·obtain⟨I,O,_⟩:=hs.box p hp;have hm:p.1∈ν.ks:=by rw[←hk];exact bKX.2 ⟨p,hp,rfl⟩
    obtain⟨o,ho⟩:=hin p.1 hm;exact⟨I,O,(hbx _ ho).2.2⟩
  ·obtain⟨h1,h2,h3⟩:=h.box p (LE _ hp);have hl:=bR h1;have hne:p.1∉ν.ks:=fun hm=>(bLJ.1 hnd).2.2 p.1 (LE _ hm) p.1 (bKX.2 ⟨p,hp,rfl⟩) rfl
   exact⟨Xbj,Xax,h3⟩
 ·rcases bLM.1 hp with hp|hp
  ·rcases bLM.1 hp with hp|hp
   ·exact h.fz p (bLH _ (bLH _ hp))
   ·exact hs.fz p hp
  ·exact h.fz p (LE _ hp)
theorem gH{c:Operand}{xs:Array Operand}{ats:Array Θ}{f:FuncId}{c1 c2:List Γ}{vs:List Γ}{A B ν:aD}{post:aC→Γ→aD→Prop}(ho:all[ix]?= some ⟨some d,.call {callee:=.value c,args:=xs,argTypes:=ats},ty,pos,aft,g⟩)(hc:ev σ c=some (.func (.func f) c1.toArray c2.toArray))(hxs:x5 σ xs.toList=some vs)
  (hex:X.ex=none) (hfl:fl=false∨∀p∈ν,p.1∈bad) (hu:∀p∈ν,dC p.2) (hf:∀D,(∀D₁∈Ds,Le D₁ D)→HA P f (c1++vs++c2) D ν post) (hN:Nat.blt d X.N=true) (hg:dH all σ g)
  (kk:∀v D ν',(∀D₁∈Ds,Le D₁ D)→post D v ν'→WL P X bad all K Q os ((d,v)::σ) (A++ν'++B) (D::Ds)):
  WL P X bad all K Q ((fl,ix)::os) σ (A++ν++B) Ds:=by
 refine fG ho rfl rfl hg fun a w hh=>?_
 obtain⟨h1,h2,h3,D,h4,h5,I⟩:=id hh;have hF:=hf D h5;have hbx:∀p∈ν,_:=fun p hp=>h4.box p (bLH _ (LE _ hp))
 have hnd:=h4.nd;simp only[bLO]at hnd;rw[xY hF.1 (hh.eval hc) (mD (fun _ _ hx=>hh.eval hx) hxs)];refine⟨fun h=>Xab,dY.2 ((hF.2 w h4.agr (fun p hp=>⟨(hbx p hp).1,(hbx p hp).2.1,hu p hp⟩) (bLJ.1 (bLJ.1 hnd).1).2.1).mono ?_)⟩;rintro e w' ⟨v,D',ν',rfl,hk,hs,hpost⟩;have hle:=iF h4.agr hs;refine⟨fun hflt=>⟨hs.size,fun c hc hcb=>hs.old c hc fun hm=>?_⟩,kk v D' ν' (fun D₁ hD₁=>(h5 D₁ hD₁).trans hle) hpost _ _ ?_⟩
 ·obtain⟨p,hp,rfl⟩:=bKX.1 hm;rcases hfl with h|h
  ·rw[hflt]at h;cases h
  ·exact hcb (h p hp)
 ·refine Hl.put ⟨h1,h2,h3,D',h4.afterM hk hs,fun D₁ hD₁=>?_,Xba⟩ hN v;rcases bNA.1 hD₁ with rfl|hD₁
  ·exact Le.refl _
  ·exact(h5 D₁ hD₁).trans hle
theorem GA{c:Operand}{xs:Array Operand}{ats:Array Θ}{f:FuncId}{c1 c2:List Γ}{vs:List Γ}{A ν:aD}{post:aC→Γ→aD→Prop}(ho:all[ix]?= some ⟨some d,.call {callee:=.value c,args:=xs,argTypes:=ats},ty,pos,aft,g⟩)(hc:ev σ c=some (.func (.func f) c1.toArray c2.toArray))(hxs:x5 σ xs.toList=some vs)
  (hex:X.ex=none) (hfl:fl=false∨∀p∈ν,p.1∈bad) (hu:∀p∈ν,dC p.2) (hf:∀D,(∀D₁∈Ds,Le D₁ D)→HA P f (c1++vs++c2) D ν post) (hN:Nat.blt d X.N=true) (hg:dH all σ g)
  (kk:∀v D ν',(∀D₁∈Ds,Le D₁ D)→post D v ν'→WL P X bad all K Q os ((d,v)::σ) (A++ν') (D::Ds)):
  WL P X bad all K Q ((fl,ix)::os) σ (A++ν) Ds:=by
 have:=gH (A:=A) (B:=[]) ho hc hxs hex hfl hu hf hN hg fun v D ν' h1 h2=>by rw[n5];exact kk v D ν' h1 h2
 rwa [n5]at this
def nF(X:Cx)(ks:List Nat)(post:aC→Γ→aD→Prop):Ending→Δ→Prop:=fun e w'=>∃v D' ν',e=.returned v∧ν'.ks=ks∧jE X.h0 X.lo X.D0 X.mods ν' D' w'∧post D' v ν'
theorem kK{fn:Func}{ks:List Nat}{post:aC→Γ→aD→Prop}:NP (bodyPost P fn (nF X ks post)):=by
 rintro c a w ⟨_,v,D',μ',h,_⟩;cases h
def sV(N:Nat)(h0:H0)(D:aC)(ks:List Nat):Cx:=⟨none,N,[],h0,h0.size,D,ks,none⟩
theorem jR{f:FuncId}{fn:Func}{c:Code}{args:List Γ}{D:aC}{ν:aD}{post:aC→Γ→aD→Prop}(N:Nat)(hf:P.funcs[f]?= some fn)(hn:(fn.name== "runtime.NumGoroutine")=false)(hb:fn.body=some c)(hN:fn.ntmps=N)(hsz:Nat.ble args.length N=true)
  (h:∀h0:H0,(∀p∈ν,p.1<h0.size)→ν.ks.Nodup→WC P (sV N h0 D ν.ks) (bodyPost P fn (nF (sV N h0 D ν.ks) ν.ks post)) c (jY 0 args) ν [D]):HA P f args D ν post:=by
 refine⟨EF.of hf hn hb,fun w hw hν hnd=>?_⟩;subst hN;have hsz:=bNJ hsz;refine(dY (r:=none) (n:=0)).1 ((callsIn_of_wp (R:=nF (sV fn.ntmps (hd w) D ν.ks) ν.ks post) hf hb bQK (h (hd w) (fun p hp=>bR (hν p hp).1) hnd _ w ⟨?_,fun s v hs=>?_,rfl,D,⟨bLQ _,bLQ _,fun _ _ _=>rfl,fun _ _=>rfl,hw,(fun p hp=>?_),hnd,(fun p hp=>(hν p hp).2.2),fun e he=>bLY he⟩,fun D₁ h1=>?_,bQK⟩) rfl).mono ?_)
 ·simp[sV];omega
 ·obtain⟨_,h2⟩:=gV args 0 s v hs;have hl:=(bLD.1 h2).1;simp only[bPB]at h2 hl;show(args.toArray++_)[s]?= some v;rw[bNT Yay];simpa using h2
 ·exact⟨(hν p hp).1,(hν p hp).2.1,bLG (bKX.2 ⟨p,hp,rfl⟩)⟩
 ·simp only[bLS]at h1;subst h1;exact Le.refl _
 ·rintro e w' ⟨v,D',ν',rfl,hk,hs,hp⟩;exact⟨v,D',ν',rfl,hk,hs,hp⟩
theorem Q1{fn:Func}{ks:List Nat}{A B ν':aD}{post:aC→Γ→aD→Prop}{e:Exit}(he:(match e with|.normal=>true|.ret=>true|_=>false)=true){rs:List ResultVar}{vs:List Γ}(hds:X.ds=[])(hr:fn.results=rs.toArray)(h:A1 P X σ (A++ν'++B) rs vs)
  (hk:ν'.ks=ks) (hp:∀D,(∀D₁∈Ds,Le D₁ D)→post D (tA vs) ν'):∀a w,Hl X σ (A++ν'++B) Ds a w→bodyPost P fn (nF X ks post) e a w:=by
 intro a w hh;have hrun:=jN hh hr h;obtain⟨h1,h2,h3,D,h4,h5,h6⟩:=hh;have hnd:=h4.nd;simp only[bLO]at hnd;have:a.defers=[]∧∃v,(results fn a.tmps).run P w=.ok v w∧nF X ks post (.returned v) w:=⟨h3.trans hds,_,hrun,_,D,ν',rfl,hk,h4.sub (fun p hp=>bLH _ (LE _ hp)) (bLJ.1 (bLJ.1 hnd).1).2.1,hp D h5⟩
 cases e<;>first|exact this|cases he
theorem _root_.Go.Fs.Zaj{fn:Func}{ks:List Nat}(A:aD)(B:aD)(ν':aD){post:aC→Γ→aD→Prop}{e:Exit}{rs:List ResultVar}(vs:List Γ)(e9:((match e with|.normal=>true|.ret=>true|_=>false),X.ds,fn.results)=(true,[],rs.toArray))(h:A1 P X σ (A++ν'++B) rs vs)(hk:ν'.ks=ks)(hp:∀D,(∀D₁∈Ds,Le D₁ D)→post D (tA vs) ν'):∀a w,Hl X σ (A++ν'++B) Ds a w→bodyPost P fn (nF X ks post) e a w:=Q1 (A:=A) (B:=B) (ν':=ν') (vs:=vs) (bLE (fun z=>z.1) e9) (bLE (fun z=>z.2.1) e9) (bLE (fun z=>z.2.2) e9) h hk hp
end Go.Fs
