/- Of BookResumes. -/
import Derived.Test.YtdjdcpieiedfgaaGreatDoorZBookResumesAA
import Derived.RangeFuncLeaves
import Derived.RangeFuncRecord
import Derived.Test.YtdjdcpieiedfgaaGreatDoorProg
import Derived.ChangeKeysEq
namespace Go.Fs
variable{P:Program}{X:Cx}{γb:Type}[Membership Nat γb]{bad:γb}{all:Array Oper}{K:Act→Δ→Prop}{Q:Exit→Act→Δ→Prop}
variable{σ:bU}{μ:aD}{Ds:List aC}{os:List (Bool×Nat)}{fl:Bool}{ix:Nat}
variable{d:Nat}{x y z:Operand}{u v:Γ}{ty:Θ}{pos:String}{aft:Array Edge}{g:Option (Nat×Bool)}

def ints(l:List Int):List Γ:=l.map (Value.int .i64)
@[simp] theorem aP(l:List Int):(ints l).length=l.length:=by simp[ints]
theorem cO{l:List Int}{k:Nat}{n:Int}(h:l[k]?= some n):(ints l)[k]?= some (qI n):=by simp[ints,h]
theorem dP(l:List Int):∀v∈ints l,cell1 v=true:=by intro v hv;simp[ints]at hv;obtain⟨n,_,rfl⟩:=hv;rfl
theorem cA{t e:Θ}{n b:Nat}{k:IntKind}{i:Int}(ho:all[ix]?= some ⟨some d,.indexAddr t x y,ty,pos,aft,g⟩)(ht:P.underlying t=some (.array n e))(hs:TS P e 1)(hx:ev σ x=some (qP b))(hy:ev σ y=some (.int k i))(h0:0≤i)(h1:i<n)
  (hN:Nat.blt d X.N=true) (hg:cQ all σ g) (kk:WL P X bad all K Q os ((d,.pointer (some ⟨b,i.toNat,none⟩))::σ) μ Ds):WL P X bad all K Q ((fl,ix)::os) σ μ Ds:=
 eT ho ht hs hx hy h0 h1 hN hg (by simpa using kk)
theorem p5{t:Θ}{b k:Nat}{l:List Int}{n:Int}{e:Θ}{μ':aD}(ho:all[ix]?= some ⟨none,.store t x y,ty,pos,aft,g⟩)(hs:TS P t 1)(hx:ev σ x=some (.pointer (some ⟨b,k,none⟩)))(hy:ev σ y=some (qI n))
  (hm:bP μ b (.cells (ints l).toArray e (0,0)) (.cells (ints (l.set k n)).toArray e (0,0)) μ') (hl:k<l.length) (hg:cQ all σ g)
  (kk:WL P X bad all K Q os σ μ' Ds):WL P X bad all K Q ((false,ix)::os) σ μ Ds:=
 cR (us:=[qI n]) (vs:=ints l) (ws:=ints (l.set k n)) ho hx hy rfl hs hm Yaq (by
  rw[show ints (l.set k n)=(ints l).set k (qI n) by simp[ints,List.map_set],List.set_eq_take_append_cons_drop,bNK Yaz];simp) Yk hg kk

def ES(σ:bU):List (Nat×Operand)→Option (List (Nat×Γ))
 | []=>some []
 |(i,x)::xs=>match ev σ x,ES σ xs with
  |some v,some vs=>some ((i,v)::vs)
  |_,_=>none
theorem yD{ρ:Operand→Γ}(hρ:∀x u,ev σ x=some u→ρ x=u):∀{xs:List (Nat×Operand)} {vs:List (Nat×Γ)},ES σ xs=some vs→(xs.map fun p=>(p.1,ρ p.2))=vs
 | [],vs,h=>by simp[ES]at h;simp[h]
 |(i,x)::xs,vs,h=>by
  simp only[ES]at h;cases h1:ev σ x with
  |none=>simp[h1]at h
  |some v1=>
   cases h2:ES σ xs with
   |none=>simp[h1,h2]at h
   |some v2=>
    simp[h1,h2]at h;rw[←h,bNT,hρ x v1 h1,yD hρ h2]
def TP(P:Program)(t:Θ)(pl:List (Nat×Nat)):Prop:=
 ∃fs,P.underlying t=some (.struct fs)∧∀w,(fs.mapM (fun f=>do pure (f.offset,←sizeOf f.type):Field→Sem (Nat×Nat))).run P w=.ok pl.toArray w
theorem FP{P:Program}:∀(fs:List Field) (pl:List (Nat×Nat)),(fs.map fun f=>(f.offset,P.cellsOf f.type))=pl→(∀f∈fs,(P.info? f.type).isSome=true)→∀w,
  (fs.mapM (fun f=>do pure (f.offset,←sizeOf f.type):Field→Sem (Nat×Nat))).run P w=.ok pl w
 | [],pl,h,_,w=>by subst h;rfl
 |f::fs,pl,h,hi,w=>by
  subst h;have hs:(sizeOf f.type).run P w=.ok (P.cellsOf f.type) w:=by
   have:=hi f bMV;obtain⟨i,hi⟩:=Option.isSome_iff_exists.1 this;exact TS.of (by rw[hi];simp[Program.cellsOf,hi]) w
  rw[bQM,Ω,Ω,hs];simp only[Ξ,ε];rw[Ω,FP fs _ rfl (fun f hf=>hi f (bMT _ hf)) w];rfl
theorem TP.of{t:Θ}{fs:Array Field}{pl:List (Nat×Nat)}(h:P.underlying t=some (.struct fs))(hp:(fs.toList.map fun f=>(f.offset,P.cellsOf f.type))=pl)(hi:(fs.toList.all fun f=>(P.info? f.type).isSome)=true):TP P t pl:=by
 refine⟨fs,h,fun w=>?_⟩;have hr:=FP (P:=P) fs.toList pl hp (fun f hf=>bNQ.1 hi f hf) w;have e:fs=fs.toList.toArray:=rfl;rw[e,List.mapM_toArray,Sem.run_map];simp only[hr,Ξ]
theorem jM{t:Θ}{parts:Array (Nat×Operand)}{us:List (Nat×Γ)}{zs cs:List Γ}{pl:List (Nat×Nat)}(ho:all[ix]?= some ⟨some d,.build t parts,ty,pos,aft,g⟩)(hpl:TP P t pl)(hz:TZ P t (.agg zs.toArray))(hu:ES σ parts.toList=some us)
  (hf:Instr.fill (fun i=>pl[i]?) zs.toArray us=some cs.toArray) (hN:Nat.blt d X.N=true) (hg:cQ all σ g) (kk:WL P X bad all K Q os ((d,.agg cs.toArray)::σ) μ Ds):WL P X bad all K Q ((fl,ix)::os) σ μ Ds:=
 bW ho rfl rfl hN hg (fun ρ hρ w'=>by
  obtain⟨fs,h,hp⟩:=hpl;have e:(parts.map fun(i,x)=>(i,ρ x)).toList=us:=by rw[←yD hρ hu];simp
  have hf':Instr.fill (fun i=>pl.toArray[i]?) zs.toArray us=some cs.toArray:=by simpa using hf
  simp only[execOp,Instr.build,Ω,hz w',Ξ,TU.of h w',hp w',Value.cells,e,hf',ε]) kk
theorem _root_.Go.Fs.Zu{t:Θ}{parts:Array (Nat×Operand)}{us:List (Nat×Γ)}{zs:List Γ}(cs:List Γ){pl:List (Nat×Nat)}(ho:all[ix]?= some ⟨some d,.build t parts,ty,pos,aft,g⟩)(hpl:TP P t pl)(hz:TZ P t (.agg zs.toArray))(e9:(ES σ parts.toList,Instr.fill (fun i=>pl[i]?) zs.toArray us)=(some us,some cs.toArray))(kk:WL P X bad all K Q os ((d,.agg cs.toArray)::σ) μ Ds)(hN:Nat.blt d X.N=true:=by exact rfl)(hg:cQ all σ g:=by exact bSM):WL P X bad all K Q ((fl,ix)::os) σ μ Ds:=jM (cs:=cs) ho hpl hz (bNB (fun z=>z.1) e9) (bNB (fun z=>z.2) e9) hN hg kk

inductive PG(sz:Nat):Nat→List (Nat×Γ)→List Γ→Prop
 |nil {k}:PG sz k [] []
 |cons {k v cs r rs} (hv:v.cells=cs.toArray) (hc:cs.length=sz) (h:PG sz (k+1) r rs):PG sz k ((k,v)::r) (cs++rs)
theorem PG.len{sz k:Nat}{r:List (Nat×Γ)}{rs:List Γ}(h:PG sz k r rs):rs.length=r.length*sz:=by
 induction h with
 |nil=>simp
 |cons hv hc h ih=>simp[ih,hc,bPR];omega
theorem MA:∀(cs:List Γ) (j off:Nat) (pre mid post:List Γ),pre.length=off+j→mid.length=cs.length→
  (cs.zipIdx j).foldl (fun(a:Array Γ) (p:Γ×Nat)=>a.setIfInBounds (off+p.2) p.1) (pre++mid++post).toArray=(pre++cs++post).toArray
 | [],j,off,pre,mid,post,h1,h2=>by have:mid=[]:=bQC.1 h2;subst this;rfl
 |c::cs,j,off,pre,[],post,h1,h2=>by simp at h2
 |c::cs,j,off,pre,m::mid,post,h1,h2=>by
  rw[List.zipIdx_cons,bNX];have e:(pre++(m::mid)++post).toArray.setIfInBounds (off+j) c=((pre++[c])++mid++post).toArray:=by
   rw[←h1];simp
  rw[e,MA cs (j+1) off (pre++[c]) mid post Yaq Xai];simp
theorem KO{sz:Nat}{k:Nat}{r:List (Nat×Γ)}{rs:List Γ}(h:PG sz k r rs):∀(pre zs:List Γ),pre.length=k*sz→zs.length=rs.length→
  Instr.fill (fun i=>some (i*sz,sz)) (pre++zs).toArray r=some (pre++rs).toArray:=by
 induction h with
 |nil=>intro pre zs h1 h2;have:zs=[]:=bQC.1 h2;subst this;rfl
 | @cons k v cs r rs hv hc h ih=>
  intro pre zs h1 h2;obtain⟨m,post,rfl,hm⟩:∃m post,zs=m++post∧m.length=cs.length:=⟨zs.take cs.length,zs.drop cs.length,Yf,by rw[bON,h2];simp⟩
  have hpost:post.length=rs.length:=by simp[hm]at h2;omega
  simp only[Instr.fill];rw[bNA]
  ·rw[hv];have hz:(cs.toArray.zipIdx.foldl (fun(a:Array Γ) (p:Γ×Nat)=>a.setIfInBounds (k*sz+p.2) p.1) (pre++m++post).toArray)=(pre++cs++post).toArray:=by
    have:=MA cs 0 (k*sz) pre m post Xae hm;rw[←this,←Array.foldl_toList];simp
   have e:(pre++(m++post)).toArray=(pre++m++post).toArray:=Yf
   rw[e];rw[hz,ih (pre++cs) post (by simp[h1,hc,bPR]) hpost];simp
  ·rw[hv];simp[h1,hc,hm]
theorem j5{t e:Θ}{sz n:Nat}{parts:Array (Nat×Operand)}{us:List (Nat×Γ)}{rs:List Γ}{z0:Γ}(ho:all[ix]?= some ⟨some d,.buildSlice t n parts,ty,pos,aft,g⟩)(ht:P.underlying t=some (.slice e))(hs:TS P e sz)(hz:TZ P e z0)(_hz1:Nat.beq z0.cells.size sz=true)
  (hu:ES σ parts.toList=some us) (hn:us.length=n) (hnz:Nat.ble (n*sz) 4096=true) (hf:PG sz 0 us rs) (hN:Nat.blt d X.N=true) (hg:cQ all σ g)
  (kk:∀b D,(∀D₁∈Ds,Le D₁ D)→At D b 0 rs→WL P X bad all K Q os ((d,qS b n n)::σ) μ (D::Ds)):WL P X bad all K Q ((fl,ix)::os) σ μ Ds:=by
 refine fF ho rfl rfl hg fun a w hh=>?_
 obtain⟨h1,h2,h3,D,h4,h5,h6⟩:=id hh;have hnz':n*sz≤4096:=bPE hnz;have hlen:rs.length=n*sz:=by rw[hf.len,hn]
 have e1:(parts.map fun(i,x)=>(i,a.eval x)).toList=us:=by rw[←yD (fun _ _ hx=>hh.eval hx) hu];simp
 have hrun:(execOp a.eval ⟨some d,.buildSlice t n parts,ty,pos,aft,g⟩).run P w=.ok (.value (.slice (some ⟨w.heap.size,0,none⟩) n n)) {w with heap:=w.heap.push (.cells rs.toArray e (0,0))}:=by
  simp only[execOp,Instr.buildSlice,Ω,TU.of ht w,Ξ,hs w];rw[bNA Yd];simp only[pure_bind];have key:∀zc:Array Γ,Instr.fill (fun i=>some (i*sz,sz)) ((Array.range (n*sz)).map (zc[· %zc.size]!)) us=some rs.toArray:=by
   intro zc;have:=KO hf [] ((Array.range (n*sz)).map (zc[· %zc.size]!)).toList Yf (by simp[hlen]);rw[bOA,bOA]at this;exact this
  split
  ·simp only[Ω,ε,Ξ,e1,key,kB]
  ·simp only[Ω,ε,Ξ,hz w,e1,key,kB]
 rw[hrun];obtain⟨D',hle,hD',hDo,hs'⟩:=h4.pushD rs e;refine⟨fun _=>pU _ _ _,kk w.heap.size D' (fun D₁ hD₁=>(h5 D₁ hD₁).trans hle) (fun j v hj=>by rw[hD'];simpa using hj) _ _ (Hl.put ⟨h1,h2,h3,D',hs',fun D₁ hD₁=>?_,h6.step (fun _ p hp=>bNI (bMR.2 ⟨p,hp,rfl⟩)) (fun _=>⟨Yf,fun b hb _=>⟨dJ hb,hDo b Yd⟩,rfl⟩) hs'.dom⟩ hN _)⟩
 rcases LT.1 hD₁ with rfl|hD₁
 ·exact Le.refl _
 ·exact(h5 D₁ hD₁).trans hle
theorem _root_.Go.Fs.Zt{t:Θ}{e:Θ}{sz:Nat}{n:Nat}{parts:Array (Nat×Operand)}{us:List (Nat×Γ)}{rs:List Γ}{z0:Γ}(ho:all[ix]?= some ⟨some d,.buildSlice t n parts,ty,pos,aft,g⟩)(ht:P.underlying t=some (.slice e))(hs:TS P e sz)(hz:TZ P e z0)(e9:(Nat.beq z0.cells.size sz,ES σ parts.toList,us.length,Nat.ble (n*sz) 4096)=(true,some us,n,true))(hf:PG sz 0 us rs)(kk:∀b D,(∀D₁∈Ds,Le D₁ D)→At D b 0 rs→WL P X bad all K Q os ((d,qS b n n)::σ) μ (D::Ds))(hN:Nat.blt d X.N=true:=by exact rfl)(hg:cQ all σ g:=by exact bSM):WL P X bad all K Q ((fl,ix)::os) σ μ Ds:=j5 ho ht hs hz (bNB (fun z=>z.1) e9) (bNB (fun z=>z.2.1) e9) (bNB (fun z=>z.2.2.1) e9) (bNB (fun z=>z.2.2.2) e9) hf hN hg kk
theorem Sl.of_at{α:Type}{R:Rd α}{D:aC}{sz b n cap:Nat}{xs:List α}{rs:List Γ}(hA:At D b 0 rs)(hn:xs.length=n)(hc:n≤cap)(hb:n≤9223372036854775807)(h:∀i x,xs[i]?= some x→∃cs,R D x cs∧cs.length=sz∧(rs.drop (i*sz)).take sz=cs):Sl D R sz (qS b n cap) xs:=by
 subst hn;refine⟨_,cap,rfl,hc,hb,bNC ⟨b,0,rfl,fun i x hx=>?_⟩⟩;obtain⟨cs,hr,hl,hcs⟩:=h i x hx;refine⟨cs,hr,hl,fun j v hj=>?_⟩;have hlt:=(bMW.1 hj).1;rw[←hcs,bPX Yd,bPC]at hj;have:=hA _ _ hj;simpa [Nat.add_assoc]using this
theorem Sl.ofInts{D:aC}{b cap:Nat}{l:List Int}{n:Nat}(hA:At D b 0 (ints l))(hn:l.length=n)(hc:n≤cap)(hb:n≤9223372036854775807):Sl D RI 1 (qS b n cap) l:=
 Sl.of_at hA hn hc hb fun i x hx=>⟨[qI x],rfl,rfl,by
  have h:=cO hx;have hl:=(bMW.1 h).1;rw[bPK,bOF hl];rw[bMU hl]at h;simp[bNS h]⟩
theorem aAS{f:FuncId}{xs ys:Array Operand}{vs us:List Γ}(ho:all[ix]?= some ⟨some d,.makeFunc (.func f) xs ys,ty,pos,aft,g⟩)(hx:q9 σ xs.toList=some vs)(hy:q9 σ ys.toList=some us)(hN:Nat.blt d X.N=true)(hg:cQ all σ g)
  (kk:WL P X bad all K Q os ((d,.func (.func f) vs.toArray us.toArray)::σ) μ Ds):WL P X bad all K Q ((fl,ix)::os) σ μ Ds:=
 bW ho rfl rfl hN hg (fun ρ hρ w'=>by
  have e1:xs.map ρ=vs.toArray:=by rw[←kT hρ hx,←bRE]
  have e2:ys.map ρ=us.toArray:=by rw[←kT hρ hy,←bRE]
  simp only[execOp,Instr.makeFunc,e1,e2,pure_bind,ε]) kk
theorem _root_.Go.Fs.Zay{f:FuncId}{xs:Array Operand}{ys:Array Operand}{vs:List Γ}{us:List Γ}(e9:(all[ix]?,q9 σ xs.toList,q9 σ ys.toList)=(some ⟨some d,.makeFunc (.func f) xs ys,ty,pos,aft,g⟩,some vs,some us))(kk:WL P X bad all K Q os ((d,.func (.func f) vs.toArray us.toArray)::σ) μ Ds)(hN:Nat.blt d X.N=true:=by exact rfl)(hg:cQ all σ g:=by exact bSM):WL P X bad all K Q ((fl,ix)::os) σ μ Ds:=aAS (bNB (fun z=>z.1) e9) (bNB (fun z=>z.2.1) e9) (bNB (fun z=>z.2.2) e9) hN hg kk
theorem tD{e:Θ}{vs:List Γ}(ho:all[ix]?= some ⟨some d,.box e x,ty,pos,aft,g⟩)(hx:ev σ x=some v)(hv:v.cells=vs.toArray)(hN:Nat.blt d X.N=true)(hg:cQ all σ g)
  (kk:∀b D,(∀D₁∈Ds,Le D₁ D)→At D b 0 vs→WL P X bad all K Q os ((d,qP b)::σ) μ (D::Ds)):WL P X bad all K Q ((fl,ix)::os) σ μ Ds:=by
 refine fF ho rfl rfl hg fun a w hh=>?_
 obtain⟨h1,h2,h3,D,h4,h5,h6⟩:=id hh;have:(execOp a.eval ⟨some d,.box e x,ty,pos,aft,g⟩).run P w=.ok (.value (.pointer (some ⟨w.heap.size,0,none⟩))) {w with heap:=w.heap.push (.cells vs.toArray e (0,0))}:=by
  simp only[execOp,hh.eval hx,Instr.box,newVar,hv,Ω,kB,Ξ,ε]
 rw[this];obtain⟨D',hle,hD',hDo,hs'⟩:=h4.pushD vs e;refine⟨fun _=>pU _ _ _,kk w.heap.size D' (fun D₁ hD₁=>(h5 D₁ hD₁).trans hle) (fun j v hj=>by rw[hD'];simpa using hj) _ _ (Hl.put ⟨h1,h2,h3,D',hs',fun D₁ hD₁=>?_,h6.step (fun _ p hp=>bNI (bMR.2 ⟨p,hp,rfl⟩)) (fun _=>⟨Yf,fun b hb _=>⟨dJ hb,hDo b Yd⟩,rfl⟩) hs'.dom⟩ hN _)⟩
 rcases LT.1 hD₁ with rfl|hD₁
 ·exact Le.refl _
 ·exact(h5 D₁ hD₁).trans hle
theorem _root_.Go.Fs.Zz{e:Θ}{vs:List Γ}(e9:(all[ix]?,ev σ x,v.cells)=(some ⟨some d,.box e x,ty,pos,aft,g⟩,some v,vs.toArray))(kk:∀b D,(∀D₁∈Ds,Le D₁ D)→At D b 0 vs→WL P X bad all K Q os ((d,qP b)::σ) μ (D::Ds))(hN:Nat.blt d X.N=true:=by exact rfl)(hg:cQ all σ g:=by exact bSM):WL P X bad all K Q ((fl,ix)::os) σ μ Ds:=tD (bNB (fun z=>z.1) e9) (bNB (fun z=>z.2.1) e9) (bNB (fun z=>z.2.2) e9) hN hg kk
def cX{α:Type}(P:Program)(D:aC)(val:α→Γ)(fv:Γ)(p:α→Bool):Prop:=
 ∃f c1 c2,fv=.func (.func f) (List.toArray c1) (List.toArray c2)∧∀x D',Le D D'→Fn P f (c1++[val x]++c2).toArray D' fun _ v=>v=.bool (p x)
theorem cX.up{α:Type}{D D':aC}{val:α→Γ}{fv:Γ}{p:α→Bool}(h:cX P D val fv p)(hl:Le D D'):cX P D' val fv p:=by
 obtain⟨f,c1,c2,h1,h2⟩:=h;exact⟨f,c1,c2,h1,fun x D'' hl'=>h2 x D'' (hl.trans hl')⟩
theorem cX.of{α:Type}{D:aC}{val:α→Γ}{f:FuncId}{p:α→Bool}(h:∀x D',Fn P f #[val x] D' fun _ v=>v=.bool (p x)):cX P D val (.func (.func f) #[] #[]) p:=
 ⟨f,[],[],rfl,fun x D' _=>h x D'⟩
def bI(e:Θ)(sz:Nat)(v:Γ)(n:Nat)(cells:List Γ)(ν:aD):Prop:=
 (∃a,v=.slice a 0 0∧n=0∧cells=[]∧ν=[])∨
 (∃b cap junk,v=qS b n cap∧n≤cap∧ν=[(b,.cells (cells++junk).toArray e (0,0))]∧cells.length=n*sz∧(cells++junk).length=cap*sz)
theorem bI.nil{e:Θ}{sz:Nat}{a:Option Addr}:bI e sz (.slice a 0 0) 0 [] []:=bNI ⟨a,rfl,rfl,rfl,rfl⟩
theorem oK{w:Δ}{b o:Nat}{vs:List Γ}{n:Nat}(hn:vs.length=n)(h:aSL w b o vs):(loadCells ⟨b,o,none⟩ n).run P w=.ok vs.toArray w:=by
 unfold loadCells;rw[wP n 0 #[] vs hn (fun j v hj=>by rw[show o+(0+j)=o+j by omega];exact h j v hj)]
 simp
def jY(D:aC)(x:Γ)(m:Nat)(xs:List Γ):Prop:=(∃a c,x=.slice a 0 c∧m=0∧xs=[])∨(∃b o c,x=.slice (some ⟨b,o,none⟩) m c∧At D b o xs)
theorem L6{D:aC}{w:Δ}{x:Γ}{m sz:Nat}{xs:List Γ}(h:jY D x m xs)(hl:xs.length=m*sz)(hw:∀b o,At D b o xs→aSL w b o xs):(Builtin.firstCells sz m x).run P w=.ok xs.toArray w:=by
 rcases h with⟨a,c,rfl,rfl,rfl⟩|⟨b,o,c,rfl,hA⟩
 ·cases a with
  |none=>rfl
  |some a=>simp[Builtin.firstCells,loadCells,loadCellsFrom]
 ·simp only[Builtin.firstCells];exact oK hl (hw b o hA)
theorem KP{D:aC}{w:Δ}{x:Γ}{m:Nat}{xs:List Γ}(h:jY D x m xs):(Builtin.lenOf x).run P w=.ok m w:=by
 rcases h with⟨a,c,rfl,rfl,rfl⟩|⟨b,o,c,rfl,hA⟩<;>rfl
theorem XP{need cap:Nat}(h:cap<need):Builtin.nextslicecap need cap≤2*need+768:=by
 unfold Builtin.nextslicecap;split
 ·omega
 ·split
  ·omega
  ·have key:∀(r c:Nat),c<need+need / 4+400→Builtin.growBy need r c≤2*need+768:=by
    intro r;induction r with
    |zero=>intro c hc;simp only[Builtin.growBy];omega
    |succ r ih=>
     intro c hc;simp only[Builtin.growBy];split
     ·omega
     ·exact ih _ Yd
   exact key _ _ Yd
theorem BT{w:Δ}{n:Nat}:(askRoom n).run P w=.ok () w:=by unfold askRoom;split<;>rfl
theorem L8(z:Array Γ)(n:Nat):(Builtin.zeroCells z n).size=n*z.size:=by simp[Builtin.zeroCells]
section run
variable{t t1 e tr:Θ}{sz:Nat}{z0:Γ}{i0:TypeInfo}{ats:Array Θ}
theorem rT(ht:P.underlying t=some (.slice e))(hat:ats[0]?= some t)(I:ats[1]?= some t1)(hk:P.underlying t1=some .string∨t1=t)(hs:TS P e sz){w:Δ}{a:Option Addr}{n cap m:Nat}{xv:Γ}{xs:List Γ}
  (hm:(Builtin.lenOf xv).run P w=.ok m w) (hx:(Builtin.firstCells sz m xv).run P w=.ok xs.toArray w) (hle:n+m≤cap) {w':Δ}
  (hst:(match a with|some a=>storeCells (a.add (n*sz)) xs|none=>pure ():Sem Unit).run P w=.ok () w'):
  (Builtin.append_ ats tr #[.slice a n cap,xv]).run P w=.ok (.slice a (n+m) cap) w':=by
 have R:(#[Value.slice a n cap,xv]:Array Γ)[0]?= some (.slice a n cap):=rfl;have U:(#[Value.slice a n cap,xv]:Array Γ)[1]?= some xv:=rfl;obtain⟨dd,O,hdd⟩:∃dd,P.underlying t1=some dd∧(dd=.string∨dd=.slice e):=by
  rcases hk with hk|rfl
  ·exact⟨_,hk,bNI rfl⟩
  ·exact⟨_,ht,bNC rfl⟩
 unfold Builtin.append_;rcases hdd with rfl|rfl;all_goals
  simp only[hat,I,R,U,Ω,TU.of ht w,TU.of O w,Ξ,hs w,ε,bOS,bPL,hm,bSJ,bPG,hle,hx];cases a with
  |none=>
   have:w'=w:=by
    have h:(pure ():Sem Unit).run P w=.ok () w':=hst;rw[ε]at h;cases h;rfl
   subst this;rfl
  |some a=>
   have h:(storeCells (a.add (n*sz)) xs).run P w=.ok () w':=hst;simp only[Ω,h,Ξ,ε]
theorem wO(ht:P.underlying t=some (.slice e))(hat:ats[0]?= some t)(I:ats[1]?= some t1)(hk:P.underlying t1=some .string∨t1=t)(hs:TS P e sz)(hz:TZ P e z0)(hi:P.info? e=some i0){w:Δ}{a:Option Addr}{n cap m:Nat}{xv:Γ}{old xs:List Γ}
  (hm:(Builtin.lenOf xv).run P w=.ok m w) (hx:∀w',w'.heap=w.heap→(Builtin.firstCells sz m xv).run P w'=.ok xs.toArray w') (ho:∀w',w'.heap=w.heap→(Builtin.firstCells sz n (.slice a n cap)).run P w'=.ok old.toArray w')
  (hgt:cap<n+m) (hlen:n+m≤10000000) (hb:1≤i0.bytes∧i0.bytes≤4096):
  ∃c,n+m≤c∧c≤9223372036854775807∧(Builtin.append_ ats tr #[.slice a n cap,xv]).run P w=.ok (.slice (some ⟨w.heap.size,0,none⟩) (n+m) c)
   {w with drawn:=w.drawn+1,heap:=w.heap.push (.cells (old.toArray++xs.toArray++Builtin.zeroCells z0.cells (c-(n+m))) e (0,0))}:=by
 have R:(#[Value.slice a n cap,xv]:Array Γ)[0]?= some (.slice a n cap):=rfl;have U:(#[Value.slice a n cap,xv]:Array Γ)[1]?= some xv:=rfl;have hti:∀w,(typeInfo e).run P w=.ok i0 w:=fun w=>by simp[typeInfo,program,Sem.run,hi,go_sem]
 have hcapn:=XP hgt;have hbig:¬Builtin.nextslicecap (n+m) cap*i0.bytes>2^48:=by
  have:Builtin.nextslicecap (n+m) cap*i0.bytes≤(2*(n+m)+768)*4096:=bRR hcapn hb.2;omega
 have hch:(choose (.appendCap (n+m) cap e)).run P w=.ok ((n+m)+(w.tape w.drawn (.appendCap (n+m) cap e))%(2^63-(n+m))) {w with drawn:=w.drawn+1}:=by
  simp[choose,Sem.run,Question.forced,Question.cut]
 refine⟨(n+m)+(w.tape w.drawn (.appendCap (n+m) cap e))%(2^63-(n+m)),Nat.le_add_right _ _,by have:=Nat.mod_lt (w.tape w.drawn (.appendCap (n+m) cap e)) (show 0<2^63-(n+m) by omega);omega,?_⟩;obtain⟨dd,O,hdd⟩:∃dd,P.underlying t1=some dd∧(dd=.string∨dd=.slice e):=by
  rcases hk with hk|rfl
  ·exact⟨_,hk,bNI rfl⟩
  ·exact⟨_,ht,bNC rfl⟩
 unfold Builtin.append_;have hnot:¬(n+m≤cap):=Yd
 have hmax:¬(((n+m:Nat):Int)>IntKind.i64.max∧(false=true∨i0.bytes=0)):=by
  rintro⟨_,h|h⟩
  ·cases h
  ·omega
 rcases hdd with rfl|rfl;all_goals
  simp only[hat,I,R,U,Ω,TU.of ht w,TU.of O w,Ξ,hs w,ε,bOS,bPL,hm,bSJ,bPG,hnot,hti];rw[bNA (by rintro⟨_,h|h⟩;exact h.elim;omega)]
  simp only[Ω,Ξ,hti];rw[bNA hbig];have hzz:∀w,(zeroValue e).run P w=.ok z0 w:=hz;simp only[Ω,ε,Ξ,hti,hch,BT,hzz,ho {w with drawn:=w.drawn+1} rfl,hx {w with drawn:=w.drawn+1} rfl,kB]
theorem G0(ht:P.underlying t=some (.slice e))(hat:ats[0]?= some t)(I:ats[1]?= some t)(hs:TS P e sz){w:Δ}{a:Option Addr}{n cap m:Nat}{xv:Γ}{xs:List Γ}
  (hm:(Builtin.lenOf xv).run P w=.ok m w) (hx:(Builtin.firstCells sz m xv).run P w=.ok xs.toArray w) (hle:n+m≤cap) {w':Δ}
  (hst:(match a with|some a=>storeCells (a.add (n*sz)) xs|none=>pure ():Sem Unit).run P w=.ok () w'):
  (Builtin.append_ ats tr #[.slice a n cap,xv]).run P w=.ok (.slice a (n+m) cap) w':=rT ht hat I (bNC rfl) hs hm hx hle hst
theorem AC(ht:P.underlying t=some (.slice e))(hat:ats[0]?= some t)(I:ats[1]?= some t)(hs:TS P e sz)(hz:TZ P e z0)(hi:P.info? e=some i0){w:Δ}{a:Option Addr}{n cap m:Nat}{xv:Γ}{old xs:List Γ}
  (hm:(Builtin.lenOf xv).run P w=.ok m w) (hx:∀w',w'.heap=w.heap→(Builtin.firstCells sz m xv).run P w'=.ok xs.toArray w') (ho:∀w',w'.heap=w.heap→(Builtin.firstCells sz n (.slice a n cap)).run P w'=.ok old.toArray w')
  (hgt:cap<n+m) (hlen:n+m≤10000000) (hb:1≤i0.bytes∧i0.bytes≤4096):
  ∃c,n+m≤c∧(Builtin.append_ ats tr #[.slice a n cap,xv]).run P w=.ok (.slice (some ⟨w.heap.size,0,none⟩) (n+m) c)
   {w with drawn:=w.drawn+1,heap:=w.heap.push (.cells (old.toArray++xs.toArray++Builtin.zeroCells z0.cells (c-(n+m))) e (0,0))}:=by
 obtain⟨c,h1, -,h2⟩:=wO (tr:=tr) ht hat I (bNC rfl) hs hz hi hm hx ho hgt hlen hb;exact⟨c,h1,h2⟩
end run
def UZ(v:Γ):Prop:=∀a n c,v=.slice a n c→c≤9223372036854775807
theorem DH{a:Option Addr}{n c:Nat}(h:c≤9223372036854775807):UZ (.slice a n c):=fun _ _ _ e=>by cases e;exact h
theorem EI{A B ν:aD}{t t1 e tr:Θ}{sz n m:Nat}{cells xs:List Γ}{xv:Γ}{z0:Γ}{ats:Array Θ}
  (ho:all[ix]?= some ⟨some d,.call {callee:=.builtin .append,args:=#[x,y],argTypes:=ats},tr,pos,aft,g⟩) (ht:P.underlying t=some (.slice e)) (hat:ats[0]?= some t) (I:ats[1]?= some t1) (hk:P.underlying t1=some .string∨t1=t)
  (hs:TS P e sz) (hz:TZ P e z0) (V:Nat.beq z0.cells.size sz=true) (hi:(P.info? e).map (fun i=>Nat.ble 1 i.bytes&&Nat.ble i.bytes 4096)=some true) (O:Nat.ble 1 sz=true)
  (hx:ev σ x=some v) (hy:ev σ y=some xv) (hacc:bI e sz v n cells ν) (hsrc:∀a w,Hl X σ (A++ν++B) Ds a w→(Builtin.lenOf xv).run P w=.ok m w∧∀w',w'.heap=w.heap→(Builtin.firstCells sz m xv).run P w'=.ok xs.toArray w') (hxl:xs.length=m*sz) (hcl:cells.length=n*sz) (hx1:∀u∈xs,cell1 u=true) (hlen:n+m≤10000000)
  (hfl:fl=false∨∀p∈ν,p.1∈bad)
  (hN:Nat.blt d X.N=true) (hg:cQ all σ g)
  (kk:∀v' ν',bI e sz v' (n+m) (cells++xs) ν'→(UZ v→UZ v')→WL P X bad all K Q os ((d,v')::σ) (A++ν'++B) Ds):WL P X bad all K Q ((fl,ix)::os) σ (A++ν++B) Ds:=by
 refine fF ho rfl rfl hg fun a w hh=>?_
 obtain⟨h1,h2,h3,D,h4,h5,h6⟩:=id hh;obtain⟨i0,hi,Y,Z⟩:∃i0,P.info? e=some i0∧1≤i0.bytes∧i0.bytes≤4096:=by
  cases h:P.info? e with
  |none=>simp[h]at hi
  |some i=>simp[h]at hi;exact⟨i,rfl,hi⟩
 have hsz:1≤sz:=bPE O;have hz1':=bOV V;have hex:(execOp a.eval ⟨some d,.call {callee:=.builtin .append,args:=#[x,y],argTypes:=ats},tr,pos,aft,g⟩).run P w=
   ((Builtin.append_ ats tr #[v,xv]).run P w).andThen fun r w'=>.ok (.value r) w':=by
  simp only[execOp,resolve,pure_bind,invoke,builtin];have e1:(#[x,y].map a.eval)=#[v,xv]:=Xbe
  rw[e1,Ω];simp only[ε]
 rw[hex];obtain⟨hm,hfc⟩:=hsrc a w hh;have grow:∀(old:Option Addr) (cap:Nat),v=.slice old n cap→cap<n+m→(∀w',w'.heap=w.heap→(Builtin.firstCells sz n (.slice old n cap)).run P w'=.ok cells.toArray w')→
   Oper.uponIn (FW X.r) 0 P ⟨some d,.call {callee:=.builtin .append,args:=#[x,y],argTypes:=ats},tr,pos,aft,g⟩ a (fun a' w'=>(fl=true→pX bad w w')∧tM X.r bad P all K Q (iS all os) a' w') Q
    (((Builtin.append_ ats tr #[v,xv]).run P w).andThen fun r w'=>.ok (.value r) w'):=by
  intro old cap hv hgt hold;obtain⟨c,hc,hcB,hrun⟩:=wO (tr:=tr) ht hat I hk hs hz hi hm hfc hold hgt hlen ⟨Y,Z⟩;rw[hv,hrun];obtain⟨junk,hjunk⟩:∃junk:List Γ,cells.toArray++xs.toArray++Builtin.zeroCells z0.cells (c-(n+m))=(cells++xs++junk).toArray∧(cells++xs++junk).length=c*sz:=by
   refine⟨(Builtin.zeroCells z0.cells (c-(n+m))).toList,Yf,?_⟩;have:=L8 z0.cells (c-(n+m));simp only[LE,Array.length_toList,this,hz1',hcl,hxl];rw[←bPR,←bPR];congr 1;omega
  have hpush:=h4.push (.cells (cells++xs++junk).toArray e (0,0)) rfl;simp only[Ξ];rw[hjunk.1];refine⟨fun _=>⟨Yf,fun b hb _=>dJ hb⟩,?_⟩;have hst:iT X.h0 X.lo X.D0 X.mods (A++[(w.heap.size,.cells (cells++xs++junk).toArray e (0,0))]++B) D {w with drawn:=w.drawn+1,heap:=w.heap.push (.cells (cells++xs++junk).toArray e (0,0))}:=by
   have h:=hpush.sub (μ':=A++[(w.heap.size,.cells (cells++xs++junk).toArray e (0,0))]++B) (fun p hp=>by
    simp only[bNH,LT]at hp ⊢
    rcases hp with(hp|hp)|hp
    ·exact bNC (bNI (bNI hp))
    ·exact bNI (hp.resolve_right Yf)
    ·exact bNC (bNC hp)) (by
    have hn:=hpush.nd;simp only[bNT,bNG,bOT,bNH,bSF]at hn;obtain⟨⟨⟨ha,_⟩,hb⟩,hn⟩:=hn;rw[bNF,bNF]at hn;simp only[bNG,bNT,bRF];rw[bNF,bNF];refine⟨⟨hn.1.1,Yf,fun q hq r hr=>?_⟩,hn.2.1,fun q hq r hr=>?_⟩
    ·simp only[bNL]at hr;rintro rfl;exact ha (hr▸hq)
    ·simp only[bNH,bNL]at hq;rcases hq with hq|hq
     ·exact hn.2.2 q (bNE _ hq) r hr
     ·rintro rfl;exact hb (hq▸hr))
   exact⟨h.hlo,h.size,h.old,h.dold,h.agr,h.box,h.nd,h.fz,h.env⟩
  exact kk _ _ (bNC ⟨_,c,junk,rfl,hc,rfl,by simp[hcl,hxl,bPR],hjunk.2⟩) (fun _=>DH hcB) _ _ (Hl.put ⟨h1,h2,h3,D,hst,h5,h6.step (fun _ p hp=>by
   rcases bNH.1 hp with hp|hp
   ·rcases bNH.1 hp with hp|hp
    ·exact bNI (bMR.2 ⟨p,bNE _ (bNE _ hp),rfl⟩)
    ·exact bNC (by rw[bNL.1 hp];exact bNJ _)
   ·exact bNI (bMR.2 ⟨p,GE _ hp,rfl⟩)) (fun _=>⟨Yf,fun b hb _=>⟨dJ hb,rfl⟩,rfl⟩) hst.dom⟩ hN _)
 rcases hacc with⟨old,hv,hn,hc,hν⟩|⟨b,cap,junk,hv,hncap,hν,hl1,R⟩
 ·subst hn;subst hc;subst hν
  by_cases h0:m=0
  ·subst h0;have hxs:xs=[]:=bQC.1 (by simpa using hxl);subst hxs;rw[hv,rT (tr:=tr) (w':=w) ht hat I hk hs hm (hfc w rfl) (bNJ _) (by cases old<;>rfl)]
   refine⟨fun _=>pX.refl _ _,kk _ [] (bNI ⟨old,rfl,rfl,rfl,rfl⟩) (fun _=>DH Yt) _ _ (Hl.put hh hN _)⟩
  ·refine grow old 0 hv Yd fun w' _=>?_
   cases old with
   |none=>rfl
   |some a=>simp[Builtin.firstCells,loadCells,loadCellsFrom]
 ·subst hν;have hbx:=(h4.box (b,.cells (cells++junk).toArray e (0,0)) Yf).1;by_cases hfit:n+m≤cap
  ·have hjl:xs.length≤junk.length:=by
    have h1:(n+m)*sz≤cap*sz:=bQN sz hfit;rw[←R,bPR,LE,hcl]at h1;omega
   have U:n*sz+0+xs.length≤(cells++junk).length:=by rw[LE,hcl];omega
   obtain⟨w',hr,hw'⟩:=kY (P:=P) xs 0 w b (n*sz) (cells++junk) e hbx U hx1;have htk:(cells++junk).take (n*sz+0)++xs++(cells++junk).drop (n*sz+0+xs.length)=cells++xs++junk.drop xs.length:=by
    rw[←hcl,Nat.add_zero,bRZ,bRA,bOL Yd];simp
   rw[htk]at hw';rw[hv,rT (tr:=tr) (w':=w') ht hat I hk hs hm (hfc w rfl) hfit (by
    show(storeCells ((⟨b,0,none⟩:Addr).add (n*sz)) xs).run P w=_;rw[gY,bQB];exact hr)]
   have hHas:bP (A++[(b,.cells (cells++junk).toArray e (0,0))]++B) b (.cells (cells++junk).toArray e (0,0)) (.cells (cells++xs++junk.drop xs.length).toArray e (0,0)) (A++[(b,.cells (cells++xs++junk.drop xs.length).toArray e (0,0))]++B):=by
    rw[bND A,bND A];exact .app .head
   have hst:=h4.set hHas hw' rfl;refine⟨fun hf=>⟨Xbf,fun c hc hcb=>?_⟩,kk _ _ (bNC ⟨b,cap,junk.drop xs.length,rfl,hfit,rfl,by simp[hcl,hxl,bPR],?_⟩) (fun hB=>DH (hB _ _ _ hv)) _ _ (Hl.put ⟨h1,h2,h3,D,hst,h5,h6.step (fun _ p hp=>bNI Yu) (fun _=>lO hw' (bMR.2 ⟨_,hHas.mem,rfl⟩)) hst.dom⟩ hN _)⟩
   ·have hb:b∈bad:=by
     rcases hfl with h|h
     ·rw[hf]at h;cases h
     ·exact h _ (bNL.2 rfl)
    rw[hw'.1,bPV (by rintro rfl;exact hcb hb)]
   ·rw[←R];simp;omega
  ·refine grow _ cap hv Yd fun w' hw'=>?_
   simp only[Builtin.firstCells];refine oK hcl fun j u hj=>sL (cs:=(cells++junk).toArray) (by rw[hw'];exact hbx) ?_
   have:=(bMW.1 hj).1;simp only[List.getElem?_toArray,bQB];rw[bPH this];exact hj
theorem aIH{A B ν:aD}{t e tr:Θ}{sz n m:Nat}{cells xs:List Γ}{xv:Γ}{z0:Γ}{ats:Array Θ}
  (ho:all[ix]?= some ⟨some d,.call {callee:=.builtin .append,args:=#[x,y],argTypes:=ats},tr,pos,aft,g⟩) (ht:P.underlying t=some (.slice e)) (hat:ats[0]?= some t) (I:ats[1]?= some t)
  (hs:TS P e sz) (hz:TZ P e z0) (R:Nat.beq z0.cells.size sz=true) (hi:(P.info? e).map (fun i=>Nat.ble 1 i.bytes&&Nat.ble i.bytes 4096)=some true) (O:Nat.ble 1 sz=true)
  (hx:ev σ x=some v) (hy:ev σ y=some xv) (hacc:bI e sz v n cells ν) (hsrc:∀a w,Hl X σ (A++ν++B) Ds a w→(Builtin.lenOf xv).run P w=.ok m w∧∀w',w'.heap=w.heap→(Builtin.firstCells sz m xv).run P w'=.ok xs.toArray w') (hxl:xs.length=m*sz) (hcl:cells.length=n*sz) (hx1:∀u∈xs,cell1 u=true) (hlen:n+m≤10000000)
  (hfl:fl=false∨∀p∈ν,p.1∈bad)
  (hN:Nat.blt d X.N=true) (hg:cQ all σ g)
  (kk:∀v' ν',bI e sz v' (n+m) (cells++xs) ν'→WL P X bad all K Q os ((d,v')::σ) (A++ν'++B) Ds):WL P X bad all K Q ((fl,ix)::os) σ (A++ν++B) Ds:=
 EI ho ht hat I (bNC rfl) hs hz R hi O hx hy hacc hsrc hxl hcl hx1 hlen hfl hN hg fun v' ν' h _=>kk v' ν' h

theorem iT.freeze{h0:H0}{lo:Nat}{D0 D:aC}{mods:List Nat}{A B:aD}{w:Δ}{b:Nat}{cells junk:List Γ}{e:Θ}(h:iT h0 lo D0 mods (A++[(b,.cells (cells++junk).toArray e (0,0))]++B) D w)(hb:lo≤b):
  ∃D',Le D D'∧D' b=cells∧(∀c,c≠b→D' c=D c)∧iT h0 lo D0 mods (A++B) D' w:=by
 have hx:=h.box (b,.cells (cells++junk).toArray e (0,0)) Yf;have hnd:b∉(A++B).map (·.1):=by
  have hn:=h.nd;simp only[bNG,bNT,bRF]at hn ⊢
  rw[bNF,bNF]at hn;simp only[bNH,bSF];exact⟨fun hm=>hn.1.2.2 b hm b Yf rfl,fun hm=>hn.2.2 b Yf b hm rfl⟩
 have hlo:=h.hlo;refine⟨fun c=>if c=b then cells else D c,⟨fun c=>?_,by simp only[Ne.symm (h.agr.ne0 hx.2.1),bPL]⟩,Yf,(fun c hc=>by simp[hc]),h.hlo,h.size,h.old,fun c hc=>?_,h.agr.of (fun c hc=>?_) (by simp only[Ne.symm (h.agr.ne0 hx.2.1),bPL]) rfl,fun p hp=>?_,?_,(fun p hp=>h.fz p (by rcases bNH.1 hp with hp|hp<;>simp[hp])),h.env⟩
 ·by_cases hcb:c=b
  ·subst hcb;rw[hx.2.1];exact bRW
  ·simp[hcb]
 ·have:c≠b:=Yd
  simp only[this,bPL];exact h.dold c hc
 ·by_cases hcb:c=b
  ·subst hcb;exact⟨_,e,_,hx.1,Yf⟩
  ·simp only[hcb,bPL]at hc ⊢;exact h.agr.1 c hc
 ·have hp':p∈A++[(b,Obj.cells (cells++junk).toArray e (0,0))]++B:=by
   rcases bNH.1 hp with hp|hp
   ·exact bNE _ (bNE _ hp)
   ·exact GE _ hp
  obtain⟨h1,h2,h3⟩:=h.box p hp';have:p.1≠b:=by rintro rfl;exact hnd (bMR.2 ⟨p,hp,rfl⟩)
  exact⟨h1,by simp only[this,bPL];exact h2,h3⟩
 ·have hn:=h.nd;simp only[bNG,bNT,bRF]at hn ⊢
  rw[bNF,bNF]at hn;rw[bNF];exact⟨hn.1.1,hn.2.1,fun q hq r hr=>hn.2.2 q (bNE _ hq) r hr⟩
theorem aS{A B ν:aD}{D₁:aC}{t e tr:Θ}{sz n m:Nat}{cells xs:List Γ}{xv:Γ}{z0:Γ}{ats:Array Θ}
  (ho:all[ix]?= some ⟨some d,.call {callee:=.builtin .append,args:=#[x,y],argTypes:=ats},tr,pos,aft,g⟩) (ht:P.underlying t=some (.slice e)) (hat:ats[0]?= some t) (I:ats[1]?= some t)
  (hs:TS P e sz) (hz:TZ P e z0) (R:Nat.beq z0.cells.size sz=true) (hi:(P.info? e).map (fun i=>Nat.ble 1 i.bytes&&Nat.ble i.bytes 4096)=some true) (O:Nat.ble 1 sz=true)
  (hx:ev σ x=some v) (hy:ev σ y=some xv) (hacc:bI e sz v n cells ν) (hsrc:jY D₁ xv m xs) (hD:D₁∈Ds) (hxl:xs.length=m*sz) (hcl:cells.length=n*sz) (hx1:∀u∈xs,cell1 u=true) (hlen:n+m≤10000000)
  (hfl:fl=false∨∀p∈ν,p.1∈bad)
  (hN:Nat.blt d X.N=true) (hg:cQ all σ g)
  (kk:∀v' ν',bI e sz v' (n+m) (cells++xs) ν'→WL P X bad all K Q os ((d,v')::σ) (A++ν'++B) Ds):WL P X bad all K Q ((fl,ix)::os) σ (A++ν++B) Ds:=by
 refine aIH ho ht hat I hs hz R hi O hx hy hacc (fun a w hh=>?_) hxl hcl hx1 hlen hfl hN hg kk;obtain⟨h1,h2,h3,D,h4,h5,U⟩:=id hh;refine⟨KP hsrc,fun w' hw'=>L6 hsrc hxl fun b o hA j u hj=>?_⟩;have:=h4.agr.cell ((h5 D₁ hD).get (hA j u hj));unfold World.cell? at this ⊢
 rw[hw'];exact this
def kZ(D:aC)(v:Γ)(n:Nat)(cells:List Γ):Prop:=(∃a,v=.slice a 0 0∧n=0∧cells=[])∨(∃b cap,v=qS b n cap∧n≤cap∧At D b 0 cells)
theorem Hl.freeze{A B ν:aD}{e sz n:Nat}{cells:List Γ}{a:Act}{w:Δ}(hacc:bI e sz v n cells ν)(hmods:X.mods=[])(hh:Hl X σ (A++ν++B) Ds a w):
  ∃D',(∀D₁∈Ds,Le D₁ D')∧kZ D' v n cells∧Hl X σ (A++B) (D'::Ds) a w:=by
 obtain⟨h1,h2,h3,D,h4,h5,I⟩:=hh;rcases hacc with⟨old,hv,hn,hc,hν⟩|⟨b,cap,junk,hv,hncap,hν,hl1,O⟩
 ·subst hν;refine⟨D,h5,bNI ⟨old,hv,hn,hc⟩,h1,h2,h3,D,by simpa using h4,fun D₁ hD₁=>?_,by simpa using I⟩;rcases LT.1 hD₁ with rfl|hD₁
  ·exact Le.refl _
  ·exact h5 D₁ hD₁
 ·subst hν;have hb:=(h4.box (b,.cells (cells++junk).toArray e (0,0)) Yf).2.2;have hb':=hb.resolve_right (by rw[hmods];simp)
  obtain⟨D',hle,hD',hDo,hs⟩:=h4.freeze hb';refine⟨D',fun D₁ hD₁=>(h5 D₁ hD₁).trans hle,bNC ⟨b,cap,hv,hncap,fun j u hj=>by rw[hD',bQB];exact hj⟩,h1,h2,h3,D',hs,fun D₁ hD₁=>?_,I.step (fun _ p hp=>bNI (bMR.2 ⟨p,Xdb,rfl⟩)) (fun _=>⟨bNJ _,fun c _ hn=>⟨rfl,hDo c (by rintro rfl;exact hn Yf)⟩,rfl⟩) hs.dom⟩
  rcases LT.1 hD₁ with rfl|hD₁
  ·exact Le.refl _
  ·exact(h5 D₁ hD₁).trans hle
theorem HH{A B ν:aD}{e sz n:Nat}{cells:List Γ}(hacc:bI e sz v n cells ν)(hmods:X.mods=[])(kk:∀D,(∀D₁∈Ds,Le D₁ D)→kZ D v n cells→WL P X bad all K Q os σ (A++B) (D::Ds)):WL P X bad all K Q os σ (A++ν++B) Ds:=by
 intro a w hh;obtain⟨D',h1,h2,h3⟩:=hh.freeze hacc hmods;exact kk D' h1 h2 a w h3
theorem sN{c:Code}{A B ν:aD}{e sz n:Nat}{cells:List Γ}(hacc:bI e sz v n cells ν)(hmods:X.mods=[])(kk:∀D,(∀D₁∈Ds,Le D₁ D)→kZ D v n cells→WC P X Q c σ (A++B) (D::Ds)):WC P X Q c σ (A++ν++B) Ds:=by
 intro a w hh;obtain⟨D',h1,h2,h3⟩:=hh.freeze hacc hmods;exact kk D' h1 h2 a w h3
theorem dS{T:Act→Δ→Prop}{A B ν:aD}{e sz n:Nat}{cells:List Γ}(hacc:bI e sz v n cells ν)(hmods:X.mods=[])(kk:∀D,(∀D₁∈Ds,Le D₁ D)→kZ D v n cells→∀a w,Hl X σ (A++B) (D::Ds) a w→T a w):∀a w,Hl X σ (A++ν++B) Ds a w→T a w:=by
 intro a w hh;obtain⟨D',h1,h2,h3⟩:=hh.freeze hacc hmods;exact kk D' h1 h2 a w h3
theorem kZ.sl{α:Type}{R:Rd α}{D:aC}{sz n:Nat}{cells:List Γ}{xs:List α}(h:kZ D v n cells)(hn:xs.length=n)(hb:n≤9223372036854775807)(he:∀i x,xs[i]?= some x→∃cs,R D x cs∧cs.length=sz∧(cells.drop (i*sz)).take sz=cs):Sl D R sz v xs:=by
 rcases h with⟨a,hv,I,hc⟩|⟨b,cap,hv,hc,hA⟩
 ·subst I;have:xs=[]:=bQC.1 hn;subst this;subst hv
  exact⟨a,0,rfl,bNJ _,Yf,bNI rfl⟩
 ·subst hv;exact Sl.of_at hA hn hc hb he
theorem kZ.ints{D:aC}{n:Nat}{l:List Int}(h:kZ D v n (ints l))(hn:l.length=n)(hb:n≤9223372036854775807):Sl D RI 1 v l:=
 h.sl hn hb fun i x hx=>⟨[qI x],rfl,rfl,by
  have h:=cO hx;have hl:=(bMW.1 h).1;rw[bPK,bOF hl];rw[bMU hl]at h;simp[bNS h]⟩
theorem jY.lit{D:aC}{b m c:Nat}{xs:List Γ}(h:At D b 0 xs):jY D (qS b m c) m xs:=bNC ⟨b,0,c,rfl,h⟩
theorem jY.ints{D:aC}{l:List Int}(h:Sl D RI 1 v l):jY D v l.length (ints l):=by
 obtain⟨a,cap,rfl,h1,h2,h3⟩:=h;rcases h3 with rfl|⟨b,o,rfl,h3⟩
 ·exact bNI ⟨a,cap,rfl,rfl,rfl⟩
 ·refine bNC ⟨b,o,cap,rfl,fun j v hj=>?_⟩;simp only[Fs.ints,bOD,bQD]at hj;obtain⟨n,hn,rfl⟩:=hj;obtain⟨cs,hr,hc,hA⟩:=h3 j n hn;obtain rfl:cs=[qI n]:=hr;have:=hA 0 _ rfl;simpa using this
def N6(β:List Nat)(D:aC)(w:Δ)(D':aC)(w':Δ):Prop:=w.heap.size≤w'.heap.size∧Le D D'∧∀b∈β,w'.heap[b]?= w.heap[b]?∧D' b=D b
abbrev wE:=List Nat→aC→Δ→Prop
def jI(P:Program)(l:Nat)(vs:List Γ)(w:Δ)(R:Bool→aC→Δ→Prop):Prop:=
 ∃fn tmps assign body,(Instr.yield l vs.toArray).run P w=.ok (.round l fn tmps assign body) w∧aWA P l fn tmps assign body w fun e w'=>∃b D',e=.returned (.bool b)∧R b D' w'
def Cx.withEx(X:Cx)(J:wE):Cx:={X with ex:=some J}
theorem bAT{J J1 J0:wE}{l:Nat}{c:Operand}{xs:Array Operand}{ats:Array Θ}{vs:List Γ}(ho:all[ix]?= some ⟨some d,.call {callee:=.value c,args:=xs,argTypes:=ats},ty,pos,aft,g⟩)
  (hc:ev σ c=some (.func (.yield l) #[] #[])) (hxs:q9 σ xs.toList=some vs) (hex:X.ex=some J) (hfl:fl=false) (h0:X.h0=⟨#[],none⟩) (_hm:X.mods=[]) (I:V6 X.lo J1) (O:V6 X.lo J0)
  (hY:∀D w,N9 X.lo D w→J (μ.map (·.1)) D w→(∀p∈μ,p.1<w.heap.size)→(∀D₁∈Ds,Le D₁ D)→jI P l vs w fun b D' w'=>N9 X.lo D' w'∧N6 (μ.map (·.1)) D w D' w'∧(if b then J1 (μ.map (·.1)) D' w' else J0 (μ.map (·.1)) D' w'))
  (hN:Nat.blt d X.N=true) (hg:cQ all σ g)
  (U:WL P (X.withEx J1) bad all K Q os ((d,.bool true)::σ) μ Ds) (V:WL P (X.withEx J0) bad all K Q os ((d,.bool false)::σ) μ Ds):WL P X bad all K Q ((fl,ix)::os) σ μ Ds:=by
 refine fF ho rfl rfl hg fun a w hh=>?_
 obtain⟨h1,h2,h3,D,h4,h5,R⟩:=id hh;have hJ:J (μ.map (·.1)) D w:=by unfold S9 at R;rw[hex]at R;exact R.2
 obtain⟨fn,tmps,assign,body,hy,hr⟩:=hY D w h4.dom hJ (fun p hp=>bJ (h4.box p hp).1) h5;have e:xs.map a.eval=vs.toArray:=by rw[←kT (fun _ _ hx=>hh.eval hx) hxs,←bRE]
 have hrun:(execOp a.eval ⟨some d,.call {callee:=.value c,args:=xs,argTypes:=ats},ty,pos,aft,g⟩).run P w=.ok (.round l fn tmps assign body) w:=by
  simp only[execOp,resolve,hh.eval hc,Deferred.ofValue,pure_bind,invoke,e];rw[←hy];simp
 rw[hrun];refine⟨fun h=>Xad,(IC hr).mono ?_⟩;rintro e' w' ⟨b,D',rfl,hd',hh',hb⟩;have hst:iT X.h0 X.lo X.D0 X.mods μ D' w':=by
  refine⟨h4.hlo,hd'.2,(fun b hb=>Xbq),(fun b hb=>Xbq),hd'.1,fun p hp=>?_,h4.nd,h4.fz,fun e he=>by rw[h0]at he;cases he⟩;obtain⟨p1,p2,p3⟩:=h4.box p hp;obtain⟨q1,Y⟩:=hh'.2.2 p.1 (bMR.2 ⟨p,hp,rfl⟩);exact⟨q1.trans p1,Y.trans p2,p3⟩
 have hds:∀D₁∈Ds,Le D₁ D':=fun D₁ hD₁=>(h5 D₁ hD₁).trans hh'.2.1
 refine⟨(fun h=>by rw[hfl]at h;cases h),?_⟩;cases b with
 |true=>
  refine U _ _ (Hl.put (X:=X.withEx J1) ⟨h1,h2,h3,D',hst,hds,⟨I,hb⟩⟩ hN _)
 |false=>
  refine V _ _ (Hl.put (X:=X.withEx J0) ⟨h1,h2,h3,D',hst,hds,⟨O,hb⟩⟩ hN _)

def Xj(N lo:Nat)(J:wE):Cx:=⟨none,N,[],⟨#[],none⟩,lo,fun _=>[],[],some J⟩
def SJ(lo:Nat)(J:wE)(μ:aD)(Ds:List aC)(w:Δ):Prop:=
 ∃D,iT ⟨#[],none⟩ lo (fun _=>[]) [] μ D w∧(∀D₁∈Ds,Le D₁ D)∧S9 (Xj 0 lo J) μ D w
def bJV(P:Program)(f:FuncId)(args:List Γ)(lo:Nat)(J:wE)(μ:aD)(Ds:List aC)(post:Γ→wE→aD→Prop):Prop:=
 EF P f∧∀w,SJ lo J μ Ds w→Calls P f args.toArray w fun e w'=>∃v J' μ',e=.returned v∧SJ lo J' μ' Ds w'∧post v J' μ'
def BI(lo:Nat)(Ds:List aC)(post:Γ→wE→aD→Prop):Ending→Δ→Prop:=fun e w'=>∃v J' μ',e=.returned v∧SJ lo J' μ' Ds w'∧post v J' μ'
theorem j3{fn:Func}{lo:Nat}{post:Γ→wE→aD→Prop}:NP (bodyPost P fn (BI lo Ds post)):=by
 rintro c a w ⟨_,v,D',μ',h,_⟩;cases h
theorem W8{f:FuncId}{fn:Func}{c:Code}{args:List Γ}{lo:Nat}{J:wE}{post:Γ→wE→aD→Prop}(N:Nat)(hf:P.funcs[f]?= some fn)(hn:(fn.name== "runtime.NumGoroutine")=false)(hb:fn.body=some c)(hN:fn.ntmps=N)(hsz:Nat.ble args.length N=true)
  (h:WC P (Xj N lo J) (bodyPost P fn (BI lo Ds post)) c (jP 0 args) μ Ds):bJV P f args lo J μ Ds post:=by
 refine⟨EF.of hf hn hb,fun w hw=>?_⟩;subst hN;have hsz:=bPE hsz;obtain⟨D,hs,hds,hex⟩:=hw;refine(dR (r:=none) (n:=0)).1 (callsIn_of_wp (R:=BI lo Ds post) hf hb bSM (h _ w ⟨?_,(fun s v hs=>?_),rfl,D,hs,hds,hex⟩) rfl)
 ·simp[Xj];omega
 ·obtain⟨_,h2⟩:=gX args 0 s v hs;have hl:=(bMW.1 h2).1;simp only[bQH]at h2 hl;show(args.toArray++_)[s]?= some v;rw[bPS Yaz];simpa using h2
theorem lA{fn:Func}{lo N:Nat}{J:wE}{post:Γ→wE→aD→Prop}{e:Exit}(he:(match e with|.normal=>true|.ret=>true|_=>false)=true){rs:List ResultVar}{vs:List Γ}(hr:fn.results=rs.toArray)(h:C5 P (Xj N lo J) σ μ rs vs)
  {Ds':List aC} (hD:∀D∈Ds',∃D'∈Ds,Le D D') (hp:post (qO vs) J μ):∀a w,Hl (Xj N lo J) σ μ Ds a w→bodyPost P fn (BI lo Ds' post) e a w:=by
 intro a w hh;have hrun:=jG hh hr h;obtain⟨h1,h2,h3,D,h4,h5,I⟩:=hh;have:a.defers=[]∧∃v,(results fn a.tmps).run P w=.ok v w∧BI lo Ds' post (.returned v) w:=⟨h3,_,hrun,_,J,μ,rfl,⟨D,h4,(fun D₁ h=>by obtain⟨O,hm,hle⟩:=hD D₁ h;exact hle.trans (h5 O hm)),I⟩,hp⟩
 cases e<;>first|exact this|cases he
theorem wZ{J:wE}{N lo:Nat}{c:Operand}{xs:Array Operand}{ats:Array Θ}{f:FuncId}{c1 c2 vs:List Γ}{post:Γ→wE→aD→Prop}(ho:all[ix]?= some ⟨some d,.call {callee:=.value c,args:=xs,argTypes:=ats},ty,pos,aft,g⟩)
  (hc:ev σ c=some (.func (.func f) c1.toArray c2.toArray)) (hxs:q9 σ xs.toList=some vs) (hfl:fl=false)
  (hf:bJV P f (c1++vs++c2) lo J μ Ds post) (hN:Nat.blt d N=true) (hg:cQ all σ g)
  (kk:∀v J' μ',post v J' μ'→WL P (Xj N lo J') bad all K Q os ((d,v)::σ) μ' Ds):WL P (Xj N lo J) bad all K Q ((fl,ix)::os) σ μ Ds:=by
 refine fF ho rfl rfl hg fun a w hh=>?_
 obtain⟨h1,h2,h3,D,h4,h5,I⟩:=id hh;rw[uY hf.1 (hh.eval hc) (kT (fun _ _ hx=>hh.eval hx) hxs)];refine⟨fun h=>Xad,dR.2 ((hf.2 w ⟨D,h4,h5,I⟩).mono ?_)⟩;rintro e w' ⟨v,J',μ',rfl,⟨D',hs,hds,hex⟩,hpost⟩;exact⟨(fun h=>by rw[hfl]at h;cases h),kk v J' μ' hpost _ _ (Hl.put (X:=Xj N lo J') ⟨h1,h2,h3,D',hs,hds,hex⟩ hN v)⟩

def G8{α:Type}(P:Program)(f:FuncId)(cap:List Γ)(Dr:aC)(xs:List α)(enc:α→List Γ):Prop:=
 EF P f∧∀(lo l:Nat) (J Jx:List α→wE),(∀pre,V6 lo (J pre))→(∀pre,V6 lo (Jx pre))→
  (∀pre x β D w,(∃r,xs=pre++x::r)→N9 lo D w→J pre β D w→(∀b∈β,b<w.heap.size)→Le Dr D→
   jI P l (enc x) w fun b D' w'=>N9 lo D' w'∧N6 β D w D' w'∧(if b then J (pre++[x]) β D' w' else Jx (pre++[x]) β D' w'))→
  ∀D w,N9 lo D w→Le Dr D→J [] [] D w→Calls P f (.func (.yield l) #[] #[]::cap).toArray w fun e w'=>∃v D',e=.returned v∧N9 lo D' w'∧(J xs [] D' w'∨∃pre,Jx pre [] D' w')
def bMP{γ:Type}(h0:H0)(lo:Nat)(D0:aC)(mods:List Nat)(Ds:List aC)(Φ:γ→Prop)(Mx:γ→aD):wE:=fun β D w=>
 ∃g,Φ g∧iT h0 lo D0 mods (Mx g) D w∧(∀D₁∈Ds,Le D₁ D)∧(∀b∈β,h0.size≤b∧∀D₁∈Ds,D₁ b=[])∧∀p∈Mx g,p.1∉β
theorem aGI{γ:Type}{h0:H0}{lo:Nat}{D0:aC}{Ds:List aC}{Φ:γ→Prop}{Mx:γ→aD}:V6 lo (bMP h0 lo D0 [] Ds Φ Mx):=by
 constructor
 ·rintro β D w D' w' ⟨g,hg,hs,hD,hβ,hM⟩ ⟨hl1,I,O⟩ hd;refine⟨g,hg,⟨hs.hlo,hd.2,fun b hb hm=>?_,fun b hb=>?_,hd.1,fun p hp=>?_,hs.nd,hs.fz,fun e he=>O.trans (hs.env e he)⟩,fun D₁ hD₁=>⟨fun b=>?_,?_⟩,hβ,hM⟩
  ·have hlt:b<w.heap.size:=by have:=hs.hlo;have:=hs.size;omega
   have hn:b∉β:=fun h=>by have:=(hβ b h).1;omega
   rw[(I b hlt hn).1];exact hs.old b hb hm
  ·have hlt:b<w.heap.size:=by have:=hs.hlo;have:=hs.size;omega
   have hn:b∉β:=fun h=>by have:=(hβ b h).1;omega
   rw[(I b hlt hn).2];exact hs.dold b hb
  ·obtain⟨p1,p2,p3⟩:=hs.box p hp;obtain⟨q1,R⟩:=I p.1 (bJ p1) (hM p hp);exact⟨q1.trans p1,R.trans p2,p3⟩
  ·by_cases hb:b∈β
   ·rw[(hβ b hb).2 D₁ hD₁];exact bRW
   ·by_cases hlt:b<w.heap.size
    ·rw[(I b hlt hb).2];exact(hD D₁ hD₁).1 b
    ·have:=(hD D₁ hD₁).1 b;rw[hs.agr.fresh (Nat.le_of_not_lt hlt)]at this;rw[List.prefix_nil.1 this];exact bRW
  ·have h0:(0:Nat)∉β:=fun hm=>hs.agr.2.1 ((hD D₁ hD₁).2.trans ((hβ 0 hm).2 D₁ hD₁))
   rw[(I 0 hs.agr.pos h0).2];exact(hD D₁ hD₁).2
 ·rintro β β' D w ⟨g,hg,hs,hD,hβ,hM⟩ hb';refine⟨g,hg,hs,hD,fun b hb=>?_,fun p hp hb=>?_⟩
  ·rcases hb' b hb with h|h
   ·exact hβ b h
   ·refine⟨by have:=hs.hlo;have:=hs.size;omega,fun D₁ hD₁=>?_⟩;have:=(hD D₁ hD₁).1 b;rw[hs.agr.fresh h]at this;exact List.prefix_nil.1 this
  ·rcases hb' _ hb with h|h
   ·exact hM p hp h
   ·have:=bJ (hs.box p hp).1;omega
theorem iT.round{h0:H0}{lo:Nat}{D0 D D':aC}{μ μ':aD}{w w':Δ}(h:iT h0 lo D0 [] μ D w)(hs:iT (hd w) w.heap.size D (μ.map (·.1)) μ' D' w'):iT h0 lo D0 [] μ' D' w':=by
 have hle:=bPD h.hlo h.size;have hkey:∀b∈μ.map (·.1),lo≤b:=by
  intro b hb;obtain⟨p,hp,rfl⟩:=bMR.1 hb;exact(h.box p hp).2.2.resolve_right Yf
 refine⟨h.hlo,bPD h.size hs.size,fun b hb hm=>?_,fun b hb=>?_,hs.agr,fun p hp=>?_,hs.nd,hs.fz,fun e he=>(hs.env _ rfl).trans (h.env e he)⟩
 ·rw[hs.old b (bPO hb hle) (fun hk=>by have:=hkey b hk;have:=h.hlo;omega)];exact h.old b hb hm
 ·rw[hs.dold b (bPO hb hle)];exact h.dold b hb
 ·obtain⟨p1,p2,p3⟩:=hs.box p hp;refine⟨p1,p2,bNI ?_⟩;rcases p3 with p3|p3
  ·have:=h.size;omega
  ·exact hkey _ p3
theorem iT.roundHigh{D D':aC}{w w':Δ}{μ μ':aD}{β:List Nat}(hw:fA D w)(hs:iT (hd w) w.heap.size D (μ.map (·.1)) μ' D' w')(hβ:∀b∈β,b<w.heap.size)(hM:∀p∈μ,p.1∉β):N6 β D w D' w':=by
 refine⟨hs.size,gO hw hs,fun b hb=>⟨hs.old b (hβ b hb) fun hk=>?_,hs.dold b (hβ b hb)⟩⟩;obtain⟨p,hp,rfl⟩:=bMR.1 hk;exact hM p hp hb
def nZ(bd:Nat):Deferred:={target:=.collected bd,args:=#[]}
def Cx.withDs(X:Cx)(bd:Nat):Cx:={X with ds:=nZ bd::X.ds}
def Xr(l N:Nat)(h0:H0)(D:aC)(mods:List Nat):Cx:=⟨some l,N,[],h0,h0.size,D,mods,none⟩
def H4{γ:Type}(h0:H0)(D:aC)(mods:List Nat)(Φ:γ→Prop)(Ψ:Code→γ→Prop)(Mx:γ→aD)(My:Code→γ→aD):Ending→Δ→Prop:=fun e w'=>
 ∃b D',e=.returned (.bool b)∧(if b then ∃g,Φ g∧iT h0 h0.size D mods (Mx g) D' w' else ∃c g,Ψ c g∧iT h0 h0.size D mods (My c g) D' w')
theorem zQ{c:Code}{A B:aD}{l:Nat}{r:Loop}{QQ:Exit→Act→Δ→Prop}(hr:X.r=some l)(hst:r.state=.ready)(h:WC P X Q c σ (A++(l,.loop {r with state:=.busy})::B) Ds):
  ∀a w,Hl X σ (A++(l,.loop r)::B) Ds a w→Exit.then (fun a₁ w₁=>∃w₂,(Instr.beginRound l).run P w₁=.ok () w₂∧c.wpIn ((FW none).inRound l) 0 P Q a₁ w₂) QQ .normal a w:=by
 intro a w hh;obtain⟨h1,h2,h3,D,h4,h5,I⟩:=hh;have hb:=(h4.box (l,.loop r) Yf).1;refine⟨_,run_beginRound hb hst,?_⟩;have hHas:bP (A++(l,.loop r)::B) l (.loop r) (.loop {r with state:=.busy}) (A++(l,.loop {r with state:=.busy})::B):=.app .head;have hs:=h4.set (w':=w.putObj l (.loop {r with state:=.busy})) hHas ⟨rfl,rfl⟩ trivial;have:=h a _ ⟨h1,h2,h3,D,hs,h5,I.step (fun _ p hp=>bNI Yu) (fun _=>lO ⟨rfl,rfl⟩ (bMR.2 ⟨_,hHas.mem,rfl⟩)) hs.dom⟩;rw[hr]at this;exact this
theorem iX{γ:Type}{A B:aD}{l:Nat}{r:Loop}{Φ:γ→Prop}{Ψ:Code→γ→Prop}{Mx:γ→aD}{My:Code→γ→aD}(g:γ)(hΦ:Φ g)(hM:Mx g=A++(l,.loop {r with state:=.ready,pending:=none})::B)(hlo:X.lo=X.h0.size):
  ∀a w,Hl X σ (A++(l,.loop r)::B) Ds a w→roundPost P l (H4 X.h0 X.D0 X.mods Φ Ψ Mx My) .normal a w:=by
 intro a w hh;obtain⟨h1,h2,h3,D,h4,h5,I⟩:=hh;have hb:=(h4.box (l,.loop r) Yf).1;refine⟨_,_,run_endRound none hb,true,D,rfl,g,hΦ,?_⟩;have hHas:bP (A++(l,.loop r)::B) l (.loop r) (.loop {r with state:=.ready,pending:=none}) (A++(l,.loop {r with state:=.ready,pending:=none})::B):=.app .head;have hs:=h4.set (w':=w.putObj l (.loop {r with state:=.ready,pending:=none})) hHas ⟨rfl,rfl⟩ trivial;rw[hM,←hlo];exact hs
theorem aVP{γ:Type}{A B:aD}{l:Nat}{r:Loop}{Φ:γ→Prop}{Ψ:Code→γ→Prop}{Mx:γ→aD}{My:Code→γ→aD}(c:Code)(g:γ)(hΨ:Ψ c g)(hM:My c g=A++(l,.loop {r with state:=.done,pending:=some c})::B)(hlo:X.lo=X.h0.size):
  ∀a w,Hl X σ (A++(l,.loop r)::B) Ds a w→∃v w',(Instr.endRound l (some c)).run P w=.ok v w'∧H4 X.h0 X.D0 X.mods Φ Ψ Mx My (.returned v) w':=by
 intro a w hh;obtain⟨h1,h2,h3,D,h4,h5,I⟩:=hh;have hb:=(h4.box (l,.loop r) Yf).1;refine⟨_,_,run_endRound (some c) hb,false,D,rfl,c,g,hΨ,?_⟩;have hHas:bP (A++(l,.loop r)::B) l (.loop r) (.loop {r with state:=.done,pending:=some c}) (A++(l,.loop {r with state:=.done,pending:=some c})::B):=.app .head;have hs:=h4.set (w':=w.putObj l (.loop {r with state:=.done,pending:=some c})) hHas ⟨rfl,rfl⟩ trivial;rw[hM,←hlo];exact hs
def O1:List Tmp→List Γ→bU→bU
 |p::ps,v::vs,σ=>O1 ps vs ((p,v)::σ)
 |_,_,σ=>σ
theorem Z3:∀(ps:List Tmp) (vs:List Γ) (tmps:Array Γ) (σ:bU),(∀s v,look σ s=some v→tmps[s]?= some v)→(∀p∈ps,p<tmps.size)→
  ∀s v,look (O1 ps vs σ) s=some v→((ps.zip vs).foldl (fun tmps (p:Tmp×Γ)=>tmps.setIfInBounds p.1 p.2) tmps)[s]?= some v
 | [],vs,tmps,σ,h,_,s,v,hs=>by cases vs<;>exact h s v hs
 |p::ps,[],tmps,σ,h,_,s,v,hs=>h s v hs
 |p::ps,u::vs,tmps,σ,h,hp,s,v,hs=>by
  refine Z3 ps vs (tmps.setIfInBounds p u) ((p,u)::σ) (fun s v hs=>?_) (fun q hq=>by simpa using hp q (bMT _ hq)) s v hs;simp only[look]at hs;cases hb:Nat.beq p s with
  |true=>rw[hb]at hs;cases hs;obtain rfl:=bOV hb;rw[Array.getElem?_setIfInBounds_self_of_lt (hp p bMV)]
  |false=>rw[hb]at hs;rw[bPV (fun e=>by subst e;simp at hb)];exact h s v hs
theorem m9:∀(l:List (Tmp×Γ)) (tmps:Array Γ),(l.foldl (fun tmps (p:Tmp×Γ)=>tmps.setIfInBounds p.1 p.2) tmps).size=tmps.size
 | [],_=>rfl
 |p::l,tmps=>by rw[bNX,m9 l];simp
theorem sW{α γ:Type}{xs:List α}{enc:α→List Γ}{Dr:aC}{f:FuncId}{cap:List Γ}{gop:Operand}{ps:Array Tmp}{assign body:Code}
  (Φ:List α→γ→Prop) (Ψ:List α→Code→γ→Prop) (M:γ→aD) (g₀:γ) (hr:X.r=none) (hex:X.ex=none) (hmods:X.mods=[])
  (hg:ev σ gop=some (.func (.func f) #[] cap.toArray)) (hit:G8 P f cap Dr xs enc) (hDr:Dr∈Ds) (hps:∀x,(enc x).length=ps.size) (hpN:(ps.toList.all fun p=>Nat.blt p X.N)=true) (h₀:Φ [] g₀) (hμ:M g₀=μ)
  (hround:∀pre x g,(∃r,xs=pre++x::r)→Φ pre g→∀(l bd:Nat) (rec:Loop) (h0:H0) (D:aC),(∀D₁∈Ds,Le D₁ D)→rec.state=.ready→rec.pending=none→
   WC P (Xr l X.N h0 D ((M g++(l,Obj.loop rec)::[(bd,Obj.deferred (some []))]).map (·.1)))
    (Exit.then (fun a₁ w₁=>∃w₂,(Instr.beginRound l).run P w₁=.ok () w₂∧body.wpIn ((FW none).inRound l) 0 P (roundPost P l (H4 h0 D ((M g++(l,Obj.loop rec)::[(bd,Obj.deferred (some []))]).map (·.1)) (Φ (pre++[x])) (Ψ (pre++[x]))
     (fun g=>M g++(l,Obj.loop {rec with state:=.ready,pending:=none})::[(bd,Obj.deferred (some []))]) fun c g=>M g++(l,Obj.loop {rec with state:=.done,pending:=some c})::[(bd,Obj.deferred (some []))])) a₁ w₂) fun _ _ _=>False)
    assign (O1 ps.toList (enc x) σ) (M g++(l,Obj.loop rec)::[(bd,Obj.deferred (some []))]) (D::Ds))
  (hdone:∀g bd,Φ xs g→∀a w,Hl (X.withDs bd) σ (M g++[(bd,Obj.deferred (some []))]) Ds a w→Q .normal a w)
  (hstop:∀pre c g bd,Ψ pre c g→WC P (X.withDs bd) Q c σ (M g++[(bd,Obj.deferred (some []))]) Ds):WC P X Q (.rangeFunc gop ps assign body) σ μ Ds:=by
 intro a w hh;subst hμ;have hev:=hh.eval hg;obtain⟨h1,h2,h3,D,h4,h5,Z⟩:=hh;rw[hmods]at h4;refine wpIn_rangeFunc fun fn _=>?_
 have hround':(FW X.r).round=none:=hr;rw[hround']
 let bd:=w.heap.size
 let l:=w.heap.size+1
 let I:Loop:={state:=.ready,pending:=none,fn,tmps:=a.tmps,params:=ps,assign,body,defers:=bd}
 let V:Δ:={w with heap:=w.heap.push (.deferred (some []))}
 let U:Δ:={V with heap:=V.heap.push (.loop I)}
 have Y:iT X.h0 X.lo X.D0 [] ((bd,Obj.deferred (some []))::M g₀) D V:=h4.push (.deferred (some [])) trivial;have O:iT X.h0 X.lo X.D0 [] ((l,Obj.loop I)::(bd,Obj.deferred (some []))::M g₀) D U:=by
  have:=Y.push (.loop I) trivial;have e:V.heap.size=l:=by simp[V,l]
  rw[e]at this;exact this
 have hperm:iT X.h0 X.lo X.D0 [] (M g₀++(l,Obj.loop I)::[(bd,Obj.deferred (some []))]) D U:=by
  refine O.sub (fun p hp=>?_) ?_
  ·simp only[bNH,LT,n4,bOZ]at hp ⊢
   rcases hp with hp|hp|hp
   ·exact bNC (bNC hp)
   ·exact bNI hp
   ·exact bNC (bNI hp)
  ·have hn:=O.nd;simp only[bNT,bOT,LT,bSF]at hn;simp only[bNG,bNT,bRF,bNF,bOT,LT,n4,bOZ,bRV,bPA,and_true];refine⟨hn.2.2,hn.1.1,fun q hq r hr'=>?_⟩;rcases hr' with rfl|rfl
   ·rintro rfl;exact hn.1.2 hq
   ·rintro rfl;exact hn.2.1 hq
 refine⟨l,[nZ bd],U,{target:=.fn (.func f) cap.toArray,args:=#[.func (.yield l) #[] #[]]},U,f,(.func (.yield l) #[] #[]::cap).toArray,U,run_enterLoop_outer fn a.tmps ps assign body,?_,fun _ _=>trivial,?_,fun h=>Xad,?_⟩
 ·simp only[resolve,Deferred.ofValue];have e:Array.map a.eval #[Operand.const (Value.func (Fn.yield l) #[] #[])]=#[.func (.yield l) #[] #[]]:=by simp[Act.eval]
  rw[e,hev];rfl
 ·simp only[invoke];rw[hit.1];simp
 ·refine dR.2 ((hit.2 X.lo l
   (fun pre=>bMP X.h0 X.lo X.D0 [] Ds (Φ pre) fun g=>M g++(l,Obj.loop I)::[(bd,Obj.deferred (some []))])
   (fun pre=>bMP X.h0 X.lo X.D0 [] Ds (fun cg:Code×γ=>Ψ pre cg.1 cg.2) fun cg=>M cg.2++(l,Obj.loop {I with state:=.done,pending:=some cg.1})::[(bd,Obj.deferred (some []))])
   (fun _=>aGI) (fun _=>aGI) ?_ D U O.dom (h5 Dr hDr) ⟨g₀,h₀,hperm,h5,(fun _ h=>Xab),(fun _ _ h=>Xab)⟩).mono ?_)
  ·rintro pre x β Dx wx hx hdx ⟨g,hΦ,hst,hDs,hβ,hM⟩ hβs hle;have hbox:=(hst.box (l,Obj.loop I) Yf).1;refine⟨fn,_,assign,body,run_yield hbox (by simpa using hps x),?_⟩;refine(roundIn_of_wpIn (F:=FW none) bSM (R:=H4 (hd wx) Dx ((M g++(l,Obj.loop I)::[(bd,Obj.deferred (some []))]).map (·.1)) (Φ (pre++[x])) (Ψ (pre++[x]))
     (fun g=>M g++(l,Obj.loop {I with state:=.ready,pending:=none})::[(bd,Obj.deferred (some []))]) fun c g=>M g++(l,Obj.loop {I with state:=.done,pending:=some c})::[(bd,Obj.deferred (some []))]) ?_).mono ?_
   ·have hw:=hround pre x g hx hΦ l bd I (hd wx) Dx hDs rfl rfl;have ht:(ps.zip (enc x).toArray).foldl (fun tmps (t,a)=>tmps.setIfInBounds t a) a.tmps=(ps.toList.zip (enc x)).foldl (fun tmps (p:Tmp×Γ)=>tmps.setIfInBounds p.1 p.2) a.tmps:=by
     rw[←Array.foldl_toList];simp
    have hpN':∀p∈ps.toList,p<a.tmps.size:=fun p hp=>by rw[h1];simpa [Nat.blt_eq]using bNQ.1 hpN p hp
    refine hw {tmps:=_,defers:=[]} wx ⟨?_,fun s v hs=>?_,rfl,Dx,⟨bNJ _,bNJ _,fun _ _ _=>rfl,fun _ _=>rfl,hst.agr,fun p hp=>?_,hst.nd,hst.fz,fun e he=>bNS he⟩,fun D₁ hD₁=>?_,bSM⟩
    ·show((ps.zip (enc x).toArray).foldl _ a.tmps).size=X.N;rw[ht,m9];exact h1
    ·show((ps.zip (enc x).toArray).foldl _ a.tmps)[s]?= some v;rw[ht];exact Z3 _ _ _ _ h2 hpN' s v hs
    ·obtain⟨p1,p2,p3⟩:=hst.box p hp;exact⟨p1,p2,bNC (bMR.2 ⟨p,hp,rfl⟩)⟩
    ·rcases LT.1 hD₁ with rfl|hD₁
     ·exact Le.refl _
     ·exact hDs D₁ hD₁
   ·rintro e w' ⟨b,D',rfl,hb⟩;have fin:∀μ',iT (hd wx) wx.heap.size Dx ((M g++(l,Obj.loop I)::[(bd,Obj.deferred (some []))]).map (·.1)) μ' D' w'→iT X.h0 X.lo X.D0 [] μ' D' w'∧N6 β Dx wx D' w'∧(∀D₁∈Ds,Le D₁ D')∧(∀p∈μ',p.1∉β):=by
     intro μ' hs';refine⟨hst.round hs',iT.roundHigh hst.agr hs' hβs hM,fun D₁ hD₁=>(hDs D₁ hD₁).trans (gO hst.agr hs'),fun p hp hpb=>?_⟩;rcases(hs'.box p hp).2.2 with h|h
     ·have:=hβs _ hpb;omega
     ·obtain⟨q,hq,he⟩:=bMR.1 h;exact hM q hq (by rw[he];exact hpb)
    refine⟨b,D',rfl,?_⟩;cases b with
    |true=>
     obtain⟨g',hg',hs'⟩:=hb;obtain⟨f1,f2,f3,f4⟩:=fin _ hs';exact⟨f1.dom,f2,g',hg',f1,f3,hβ,f4⟩
    |false=>
     obtain⟨c',g',hg',hs'⟩:=hb;obtain⟨f1,f2,f3,f4⟩:=fin _ hs';exact⟨f1.dom,f2,(c',g'),hg',f1,f3,hβ,f4⟩
  ·rintro e w' ⟨v,D',rfl,hd,hend⟩;have post:∀(g:γ) (r:Loop),iT X.h0 X.lo X.D0 [] (M g++(l,Obj.loop r)::[(bd,Obj.deferred (some []))]) D' w'→(∀D₁∈Ds,Le D₁ D')→
     Hl (X.withDs bd) σ (M g++[(bd,Obj.deferred (some []))]) Ds {a with defers:=[nZ bd]++a.defers} (w'.putObj l (.loop {r with state:=.exhausted})):=by
    intro g r hs hD';have hHas:bP (M g++(l,Obj.loop r)::[(bd,Obj.deferred (some []))]) l (.loop r) (.loop {r with state:=.exhausted}) (M g++(l,Obj.loop {r with state:=.exhausted})::[(bd,Obj.deferred (some []))]):=.app .head;have hs':=hs.set (w':=w'.putObj l (.loop {r with state:=.exhausted})) hHas ⟨rfl,rfl⟩ trivial;have hs'':=hs'.sub (μ':=M g++[(bd,Obj.deferred (some []))]) (fun p hp=>by
     rcases bNH.1 hp with hp|hp
     ·exact bNE _ hp
     ·exact GE _ (bMT _ hp)) (by
     have hn:=hs'.nd;rw[bNG,bNF]at hn ⊢
     simp only[bNT]at hn;exact⟨hn.1,(bOT.1 hn.2.1).2,fun q hq r hr=>hn.2.2 q hq r (bMT _ hr)⟩)
    exact⟨h1,h2,bNB (nZ bd:: ·) h3,D',by show iT X.h0 X.lo X.D0 X.mods _ _ _;rw[hmods];exact hs'',hD',Xcj⟩
   rcases hend with⟨g,hΦ,hs,hDs,_,_⟩|⟨pre,⟨c,g⟩,hΨ,hs,hDs,_,_⟩
   ·have hb:=(hs.box (l,Obj.loop I) Yf).1;exact⟨none,_,run_endLoop hb (by simp[I]),hdone g bd hΦ _ _ (post g I hs hDs)⟩
   ·have hb:=(hs.box (l,Obj.loop {I with state:=.done,pending:=some c}) Yf).1;refine⟨some c,_,run_endLoop hb Yf,?_⟩;have:=hstop pre c g bd hΨ _ _ (post g _ hs hDs);exact this

def V1(P:Program)(fn:Func)(R:Ending→Δ→Prop):Exit→Act→Δ→Prop
 |.normal,a,w=>LeavesInM (FW none) 0 P fn a.tmps R a.defers .returning w
 |.ret,a,w=>LeavesInM (FW none) 0 P fn a.tmps R a.defers .returning w
 |_,_,_=>False
theorem NE{f:FuncId}{fn:Func}{c:Code}{args:List Γ}{D:aC}{post:aC→Γ→Prop}(N:Nat)(hf:P.funcs[f]?= some fn)(hn:(fn.name== "runtime.NumGoroutine")=false)(hb:fn.body=some c)(hN:fn.ntmps=N)(hsz:Nat.ble args.length N=true)
  (h:∀h0:H0,WC P ⟨none,N,[],h0,h0.size,D,[],none⟩ (V1 P fn (qV ⟨none,N,[],h0,h0.size,D,[],none⟩ fun D' v _=>post D' v)) c (jP 0 args) [] [D]):Fn P f args.toArray D post:=by
 refine⟨EF.of hf hn hb,fun w hw=>?_⟩;subst hN;have hsz:=bPE hsz;have hq:∀e a w',V1 P fn (qV ⟨none,fn.ntmps,[],hd w,w.heap.size,D,[],none⟩ fun D' v _=>post D' v) e a w'→bodyPostM (FW none) 0 P fn (qV ⟨none,fn.ntmps,[],hd w,w.heap.size,D,[],none⟩ fun D' v _=>post D' v) e a w':=by
  intro e a w' he;cases e<;>first|exact he|exact he.elim
 have hwp:=h (hd w) {tmps:=args.toArray++Array.replicate (fn.ntmps-args.toArray.size) undef,defers:=[]} w ⟨Yaq,fun s v hs=>by
  obtain⟨_,h2⟩:=gX args 0 s v hs;have hl:=(bMW.1 h2).1;simp only[bQH]at h2 hl;show(args.toArray++_)[s]?= some v;rw[bPS Yaz];simpa using h2,rfl,D,⟨bNJ _,bNJ _,(fun _ _ _=>rfl),(fun _ _=>rfl),hw,Yi,bPA,Yi,fun e he=>bNS he⟩,(fun D₁ h1=>Xck),bSM⟩
 refine(dR (r:=none) (n:=0)).1 ((callsIn_of_wp_marks hf hb bSM (wpIn_mono hwp hq) rfl).mono ?_);rintro e w' ⟨v,D',μ',rfl,hs,hp⟩;exact⟨v,D',rfl,hs.sub (by intro p hp;cases hp) bPA,hp⟩
theorem wL{fn:Func}{post:aC→Γ→aD→Prop}{e:Exit}(he:(match e with|.normal=>true|.ret=>true|_=>false)=true){rs:List ResultVar}{vs:List Γ}(hds:X.ds=[])(hr:fn.results=rs.toArray)(h:C5 P X σ μ rs vs)
  (hp:∀D,(∀D₁∈Ds,Le D₁ D)→post D (qO vs) μ):∀a w,Hl X σ μ Ds a w→V1 P fn (qV X post) e a w:=by
 intro a w hh;have hrun:=jG hh hr h;obtain⟨h1,h2,h3,D,h4,h5,I⟩:=hh;have:LeavesInM (FW none) 0 P fn a.tmps (qV X post) a.defers .returning w:=by
  rw[h3,hds];exact⟨_,hrun,_,D,μ,rfl,h4,hp D h5⟩
 cases e<;>first|exact this|cases he
theorem zV{fn:Func}{bd:Nat}{post:aC→Γ→aD→Prop}{e:Exit}(he:(match e with|.normal=>true|.ret=>true|_=>false)=true){rs:List ResultVar}{vs:List Γ}{A:aD}(hds:X.ds=[])(hr:fn.results=rs.toArray)(h:C5 P X σ (A++[(bd,Obj.deferred none)]) rs vs)
  (hp:∀D,(∀D₁∈Ds,Le D₁ D)→post D (qO vs) (A++[(bd,Obj.deferred none)])):∀a w,Hl (X.withDs bd) σ (A++[(bd,Obj.deferred (some []))]) Ds a w→V1 P fn (qV X post) e a w:=by
 intro a w hh;obtain⟨h1,h2,h3,D,h4,h5,I⟩:=hh;have hHas:bP (A++[(bd,Obj.deferred (some []))]) bd (.deferred (some [])) (.deferred none) (A++[(bd,Obj.deferred none)]):=.app .head;have hs:=h4.set (w':=w.putObj bd (.deferred none)) hHas ⟨rfl,rfl⟩ trivial;have hh':Hl X σ (A++[(bd,Obj.deferred none)]) Ds {a with defers:=[]} (w.putObj bd (.deferred none)):=
  ⟨h1,h2,hds.symm,D,hs,h5,I.step (X:=X.withDs bd) (fun _ p hp=>bNI Yu) (fun _=>lO ⟨rfl,rfl⟩ (bMR.2 ⟨_,hHas.mem,rfl⟩)) hs.dom⟩
 have hrun:=jG hh' hr h;have hb:=(h4.box (bd,Obj.deferred (some [])) Yf).1;have:LeavesInM (FW none) 0 P fn a.tmps (qV X post) a.defers .returning w:=by
  have h3':a.defers=[nZ bd]:=h3.trans Xcl;rw[h3'];exact⟨Yf,bNI ⟨bd,_,rfl,run_takeDeferred hb,_,hrun,_,D,_,rfl,hs,hp D h5⟩⟩
 cases e<;>first|exact this|cases he

theorem AQ{α:Type}{f:FuncId}{fn:Func}{c:Code}{cap:List Γ}{Dr:aC}{xs:List α}{enc:α→List Γ}(N:Nat)(hf:P.funcs[f]?= some fn)(hn:(fn.name== "runtime.NumGoroutine")=false)(hb:fn.body=some c)(hN:fn.ntmps=N)(hsz:Nat.ble (cap.length+1) N=true)
  (h:∀(lo l:Nat) (J Jx:List α→wE),(∀pre,V6 lo (J pre))→(∀pre,V6 lo (Jx pre))→
   (∀pre x β D w,(∃r,xs=pre++x::r)→N9 lo D w→J pre β D w→(∀b∈β,b<w.heap.size)→Le Dr D→
    jI P l (enc x) w fun b D' w'=>N9 lo D' w'∧N6 β D w D' w'∧(if b then J (pre++[x]) β D' w' else Jx (pre++[x]) β D' w'))→
   WC P (Xj N lo (J [])) (bodyPost P fn (BI lo [Dr] fun _ J' _=>J'=J xs∨∃pre,J'=Jx pre)) c (jP 0 (.func (.yield l) #[] #[]::cap)) [] [Dr]):G8 P f cap Dr xs enc:=by
 refine⟨EF.of hf hn hb,fun lo l J Jx hs hsx hY D w hd hle hJ=>?_⟩;have hF:=W8 (μ:=[]) N hf hn hb hN (by simpa using hsz) (h lo l J Jx hs hsx hY);refine(hF.2 w ⟨D,⟨bRC _,hd.2,fun b hb=>absurd hb (bRH _),fun b hb=>absurd hb (bRH _),hd.1,Yi,bPA,Yi,fun e he=>by cases he⟩,fun D₁ h1=>?_,hs [],hJ⟩).mono ?_
 ·simp only[bNL]at h1;subst h1;exact hle
 ·rintro e w' ⟨v,J',μ',rfl,⟨D',hst,hds,hex⟩,hpost⟩;refine⟨v,D',rfl,hst.dom,?_⟩;have hJ':J' [] D' w':=hex.1.own _ [] D' w' hex.2 (fun b hb=>by cases hb);rcases hpost with rfl|⟨pre,rfl⟩
  ·exact bNI hJ'
  ·exact bNC ⟨pre,hJ'⟩
theorem aNZ{t e:Θ}{n b:Nat}(ho:all[ix]?= some ⟨some d,.slice t x none none none,ty,pos,aft,g⟩)(ht:P.underlying t=some (.array n e))(hs:TS P e 1)(hx:ev σ x=some (qP b))
  (hN:Nat.blt d X.N=true) (hg:cQ all σ g) (kk:WL P X bad all K Q os ((d,qS b n n)::σ) μ Ds):WL P X bad all K Q ((fl,ix)::os) σ μ Ds:=
 bW ho rfl rfl hN hg (fun ρ hρ w'=>by
  simp only[execOp,hρ x _ hx,bPI];unfold Instr.sliceAt Instr.sureAddr Instr.sliceBounds;simp only[Ω,TU.of ht w',Ξ,hs w',ε,pure_bind,bRB,bQH];split<;>simp[Addr.add]) kk
theorem aGR{k k':IntKind}{s t:Θ}{n:Int}(ho:all[ix]?= some ⟨some d,.convert s t x,ty,pos,aft,g⟩)(hr:∀w,(Go.convert s t (.int k n)).run P w=.ok (.int k' n) w)(hx:ev σ x=some (.int k n))(hN:Nat.blt d X.N=true)(hg:cQ all σ g)
  (kk:WL P X bad all K Q os ((d,.int k' n)::σ) μ Ds):WL P X bad all K Q ((fl,ix)::os) σ μ Ds:=
 bW ho rfl rfl hN hg (fun ρ hρ w'=>by simp only[execOp,hρ x _ hx,Ω,hr w',Ξ,ε]) kk
theorem M6{t t':Θ}{b:Bool}(ho:all[ix]?= some ⟨some d,.binOp .eql t x y t',ty,pos,aft,g⟩)(hr:∀w,((do eqGuard .eql t x y u v;binOp .eql t u v):Sem Γ).run P w=.ok (.bool b) w)(hx:ev σ x=some u)(hy:ev σ y=some v)(hN:Nat.blt d X.N=true)(hg:cQ all σ g)
  (kk:WL P X bad all K Q os ((d,.bool b)::σ) μ Ds):WL P X bad all K Q ((fl,ix)::os) σ μ Ds:=
 bW ho rfl rfl hN hg (fun ρ hρ w'=>Xdc) kk
theorem ZA{t t':Θ}{b:Bool}(ho:all[ix]?= some ⟨some d,.binOp .neq t x y t',ty,pos,aft,g⟩)(hr:∀w,((do eqGuard .neq t x y u v;binOp .neq t u v):Sem Γ).run P w=.ok (.bool b) w)(hx:ev σ x=some u)(hy:ev σ y=some v)(hN:Nat.blt d X.N=true)(hg:cQ all σ g)
  (kk:WL P X bad all K Q os ((d,.bool b)::σ) μ Ds):WL P X bad all K Q ((fl,ix)::os) σ μ Ds:=
 bW ho rfl rfl hN hg (fun ρ hρ w'=>Xdc) kk
theorem G9{t:Θ}{a b:Bool}(ht:P.underlying t=some .bool)(w:Δ):(Op.equal t (.bool a) (.bool b)).run P w=.ok (a==b) w:=by
 have h:(Op.equalIn (9999+1) t (.bool a) (.bool b)).run P w=.ok (a==b) w:=by
  rw[Op.equalIn,Ω,TU.of ht w];rfl
 exact h
theorem bGL{t t':Θ}{a b:Bool}(ho:all[ix]?= some ⟨some d,.binOp .eql t x y t',ty,pos,aft,g⟩)(ht:P.underlying t=some .bool)(hx:ev σ x=some (.bool a))(hy:ev σ y=some (.bool b))(hN:Nat.blt d X.N=true)(hg:cQ all σ g)
  (kk:WL P X bad all K Q os ((d,.bool (a==b))::σ) μ Ds):WL P X bad all K Q ((fl,ix)::os) σ μ Ds:=
 M6 ho (fun w=>by
  have hg:(eqGuard .eql t x y (.bool a) (.bool b)).run P w=.ok () w:=rfl;rw[Ω,hg];show((do Pure.pure (Value.bool (←Op.equal t (.bool a) (.bool b)))):Sem Γ).run P w=_;rw[Ω,G9 ht];rfl) hx hy hN hg kk
theorem QW{t t':Θ}{a b:Bool}(ho:all[ix]?= some ⟨some d,.binOp .neq t x y t',ty,pos,aft,g⟩)(ht:P.underlying t=some .bool)(hx:ev σ x=some (.bool a))(hy:ev σ y=some (.bool b))(hN:Nat.blt d X.N=true)(hg:cQ all σ g)
  (kk:WL P X bad all K Q os ((d,.bool (!(a==b)))::σ) μ Ds):WL P X bad all K Q ((fl,ix)::os) σ μ Ds:=
 ZA ho (fun w=>by
  have hg:(eqGuard .neq t x y (.bool a) (.bool b)).run P w=.ok () w:=rfl;rw[Ω,hg];show((do Pure.pure (Value.bool (!(←Op.equal t (.bool a) (.bool b))))):Sem Γ).run P w=_;rw[Ω,G9 ht];rfl) hx hy hN hg kk
theorem DL{n:Nat}(h:∀a w,Hl X σ μ Ds a w→Q .normal a w):WC P X Q (.label n) σ μ Ds:=fun a w hh=>wpIn_label (h a w hh)
theorem FS{t e:Θ}{n:Nat}{l:List Int}{k:IntKind}{i m:Int}(ho:all[ix]?= some ⟨some d,.index t x y,ty,pos,aft,g⟩)(ht:P.underlying t=some (.array n e))(ha:TA P e false)(hs:TS P e 1)(hx:ev σ x=some (.agg (ints l).toArray))(hy:ev σ y=some (.int k i))(h0:0≤i)(h1:i<n)(hm:l[i.toNat]?= some m)
  (hN:Nat.blt d X.N=true) (hg:cQ all σ g) (kk:WL P X bad all K Q os ((d,qI m)::σ) μ Ds):WL P X bad all K Q ((fl,ix)::os) σ μ Ds:=
 bW ho rfl rfl hN hg (fun ρ hρ w'=>by
  have hg:(ints l).toArray[i.toNat]?= some (qI m):=by simpa using cO hm
  simp only[execOp,hρ x _ hx,hρ y _ hy];unfold Instr.index asIntOf part;simp only[Ω,TU.of ht w',Ξ,hs w',ha w',ε,pure_bind,h0,h1,bRS,bPG,bPK,bOS,bPL,hg]) kk
theorem eV(l m:List Int):ints l++ints m=ints (l++m):=by simp[ints]
theorem aYX{t f k ft:Nat}{cs:List Γ}{fs:Array Field}(ho:all[ix]?= some ⟨some d,.field t x f,ty,pos,aft,g⟩)(ht:P.underlying t=some (.struct fs))(hk:(fs[f]?).map (fun f=>(f.offset,f.type))=some (k,ft))(ha:TA P ft false)(hx:ev σ x=some (.agg cs.toArray))(hv:cs[k]?= some v)
  (hN:Nat.blt d X.N=true) (hg:cQ all σ g) (kk:WL P X bad all K Q os ((d,v)::σ) μ Ds):WL P X bad all K Q ((fl,ix)::os) σ μ Ds:=
 bW ho rfl rfl hN hg (fun ρ hρ w'=>by
  cases hf:fs[f]? with
  |none=>simp[hf]at hk
  |some f0=>
   simp only[hf,bOO,bRG,bQS]at hk;obtain⟨rfl,rfl⟩:=hk;have hv':cs.toArray[f0.offset]?= some v:=by simpa using hv
   simp only[execOp,hρ x _ hx];unfold Instr.field asAgg part;simp only[Ω,TU.of ht w',Ξ,hf,ha w',ε,pure_bind,bOS,bPL,hv']) kk
theorem iL{t:Θ}{D₁:aC}{b k:Nat}{cs:List Γ}(ho:all[ix]?= some ⟨some d,.load t x,ty,pos,aft,g⟩)(ha:TA P t false)(hx:ev σ x=some (.pointer (some ⟨b,k,none⟩)))(hA:At D₁ b 0 cs)(hD:D₁∈Ds)(hv:cs[k]?= some v)(hb:b∉bad)
  (hN:Nat.blt d X.N=true) (hg:cQ all σ g) (kk:WL P X bad all K Q os ((d,v)::σ) μ Ds):WL P X bad all K Q ((fl,ix)::os) σ μ Ds:=
 dU (o:=0) (k:=k) ho ha (by rw[bQB];exact hx) hA hD hv hb hN hg kk
theorem Z1{γ:Type}{c:Code}{N lo:Nat}{J0:wE}(m:γ→Nat)(I:γ→Prop)(J:γ→wE)(ch:γ→bU)(rest:bU)(M:γ→aD)(E:γ→List aC)(g₀:γ)(h₀:I g₀)(hJ:J0=J g₀)(hch:EV σ (ch g₀))(hrest:EV σ rest)(hμ:(M g₀).Sublist μ)(hD:∀D∈E g₀,∃D'∈Ds,Le D D')
  (round:∀g,I g→WC P (Xj N lo (J g)) (Exit.then (fun a w=>∃g',I g'∧m g'<m g∧Hl (Xj N lo (J g')) (ch g'++rest) (M g') (E g') a w) Q) c (ch g++rest) (M g) (E g)):WC P (Xj N lo J0) Q (.loop c) σ μ Ds:=by
 subst hJ
 let p:Act→Δ→Nat→Prop:=fun a w n=>∃g,I g∧m g=n∧Hl (Xj N lo (J g)) (ch g++rest) (M g) (E g) a w
 have ex:∀a w,(∃n,p a w n)→∃n,p a w n∧∀k,p a w k→n≤k:=by
  intro a w ⟨n,hn⟩;induction n using Nat.strongRecOn with
  |_ n ih=>
   by_cases h:∃k,k<n∧p a w k
   ·obtain⟨k,hk,hp⟩:=h;exact ih k hk hp
   ·exact⟨n,hn,fun k hk=>Nat.le_of_not_lt fun hl=>h ⟨k,hl,hk⟩⟩
 intro a w hh;refine wpIn_loop (fun a w=>∃n,p a w n) (fun a w=>open Classical in if h:∃n,p a w n then(ex a w h).choose else 0) ⟨_,g₀,h₀,rfl,hh.weak (EV.app hch hrest) hμ hD⟩ ?_;intro a w hI;obtain⟨⟨g,hg,hm,hst⟩,hmin⟩:=(ex a w hI).choose_spec;refine wpIn_mono (round g hg a w hst) fun e a' w' hq=>?_
 cases e with
 |normal=>
  obtain⟨g',hg',hlt,hst'⟩:=hq;have hI':∃n,p a' w' n:=⟨_,g',hg',rfl,hst'⟩
  refine⟨hI',?_⟩;simp only[dif_pos hI',dif_pos hI];have:=(ex a' w' hI').choose_spec.2 _ ⟨g',hg',rfl,hst'⟩;omega
 |_=>exact hq
theorem sX{γ:Type}{N lo:Nat}{J1:wE}{m:γ→Nat}{I:γ→Prop}{J:γ→wE}{ch:γ→bU}{rest:bU}{M:γ→aD}{E:γ→List aC}{g:γ}(n:Nat)(g':γ)(h1:I g')(h2:m g'<m g)(hJ:J1=J g')(hch:EV σ (ch g'))(hn:K9 n σ=true)(hr:σ.drop n=rest)(hμ:(M g').Sublist μ)(hD:∀D∈E g',∃D'∈Ds,Le D D'):
  ∀a w,Hl (Xj N lo J1) σ μ Ds a w→Exit.then (fun a w=>∃g',I g'∧m g'<m g∧Hl (Xj N lo (J g')) (ch g'++rest) (M g') (E g') a w) Q .normal a w:=by
 subst hJ;intro a w hh;refine⟨g',h1,h2,?_⟩;have h3:=hh.weak (σ':=ch g') hch hμ hD;refine⟨h3.1,fun s v hs=>?_,h3.2.2⟩;rcases BY hs with hs|hs
 ·exact h3.2.1 s v hs
 ·subst hr;exact hh.2.1 s v (R6 n σ hn s v hs)
theorem FQ{J J1 J0:wE}{l N lo:Nat}{c:Operand}{xs:Array Operand}{ats:Array Θ}{vs:List Γ}(ho:all[ix]?= some ⟨some d,.call {callee:=.value c,args:=xs,argTypes:=ats},ty,pos,aft,g⟩)
  (hc:ev σ c=some (.func (.yield l) #[] #[])) (hxs:q9 σ xs.toList=some vs) (hfl:fl=false) (I:V6 lo J1) (O:V6 lo J0)
  (hY:∀D w,N9 lo D w→J (μ.map (·.1)) D w→(∀p∈μ,p.1<w.heap.size)→(∀D₁∈Ds,Le D₁ D)→jI P l vs w fun b D' w'=>N9 lo D' w'∧N6 (μ.map (·.1)) D w D' w'∧(if b then J1 (μ.map (·.1)) D' w' else J0 (μ.map (·.1)) D' w'))
  (hN:Nat.blt d N=true) (hg:cQ all σ g)
  (kk:∀b J',J'=(if b=true then J1 else J0)→WL P (Xj N lo J') bad all K Q os ((d,.bool b)::σ) μ Ds):WL P (Xj N lo J) bad all K Q ((fl,ix)::os) σ μ Ds:=
 bAT (X:=Xj N lo J) ho hc hxs rfl hfl rfl rfl I O hY hN hg (kk true J1 rfl) (kk false J0 rfl)
theorem pF{c:Code}(k:(μ.map (·.1)).Nodup→WC P X Q c σ μ Ds):WC P X Q c σ μ Ds:=fun a w hh=>k (by obtain⟨_,_,_,D,h4,_⟩:=hh;exact h4.nd) a w hh
theorem eF{t:Θ}{b n:Nat}{vs us:List Γ}{e:Θ}{μ':aD}(ho:all[ix]?= some ⟨none,.store t x y,ty,pos,aft,g⟩)(hx:ev σ x=some (qP b))(hy:ev σ y=some v)(hv:v.cells=us.toArray)(hs:TS P t n)
  (hn:us.length=n) (hl:vs.length=n) (hm:bP μ b (.cells vs.toArray e (0,0)) (.cells us.toArray e (0,0)) μ') (hc1:∀u∈us,cell1 u=true) (hg:cQ all σ g)
  (kk:WL P X bad all K Q os σ μ' Ds):WL P X bad all K Q ((false,ix)::os) σ μ Ds:=
 cR ho hx hy hv (by rw[hn];exact hs) hm Yd (by rw[List.take_zero,bQB,bOL Yd];simp) hc1 hg kk
theorem _root_.Go.Fs.Zab{t:Θ}{b:Nat}{n:Nat}{vs:List Γ}{us:List Γ}{e:Θ}{μ':aD}(e9:(all[ix]?,ev σ x,ev σ y,v.cells)=(some ⟨none,.store t x y,ty,pos,aft,g⟩,some (qP b),some v,us.toArray))(hs:TS P t n)(hm:bP μ b (.cells vs.toArray e (0,0)) (.cells us.toArray e (0,0)) μ')(kk:WL P X bad all K Q os σ μ' Ds)(hn:us.length=n:=by exact Yb)(hl:vs.length=n:=by exact Yb)(hc1:∀u∈us,cell1 u=true:=by exact Yh)(hg:cQ all σ g:=by exact bSM):WL P X bad all K Q ((false,ix)::os) σ μ Ds:=eF (bNB (fun z=>z.1) e9) (bNB (fun z=>z.2.1) e9) (bNB (fun z=>z.2.2.1) e9) (bNB (fun z=>z.2.2.2) e9) hs hn hl hm hc1 hg kk
theorem _root_.Go.Fs.Zac{t:Θ}{b:Nat}{n:Nat}{vs:List Γ}{us:List Γ}{e:Θ}{μ':aD}(e9:(all[ix]?,ev σ x,ev σ y,v.cells)=(some ⟨none,.store t x y,ty,pos,aft,g⟩,some (qP b),some v,us.toArray))(hs:TS P t n)(hm:bP μ b (.cells vs.toArray e (0,0)) (.cells us.toArray e (0,0)) μ')(hc1:∀u∈us,cell1 u=true)(kk:WL P X bad all K Q os σ μ' Ds)(hn:us.length=n:=by exact Yb)(hl:vs.length=n:=by exact Yb)(hg:cQ all σ g:=by exact bSM):WL P X bad all K Q ((false,ix)::os) σ μ Ds:=eF (bNB (fun z=>z.1) e9) (bNB (fun z=>z.2.1) e9) (bNB (fun z=>z.2.2.1) e9) (bNB (fun z=>z.2.2.2) e9) hs hn hl hm hc1 hg kk
theorem bR{t e tr e':Θ}{n sz:Nat}{cells:List Γ}{ν:aD}{ats:Array Θ}(ho:all[ix]?= some ⟨some d,.call {callee:=.builtin .len,args:=#[x],argTypes:=ats},tr,pos,aft,g⟩)(ht:P.underlying t=some (.slice e))(hx:ev σ x=some v)(hS:bI e' sz v n cells ν)(hat:ats[0]?= some t)
  (hN:Nat.blt d X.N=true) (hg:cQ all σ g) (kk:WL P X bad all K Q os ((d,qI (n:Int))::σ) μ Ds):
  WL P X bad all K Q ((fl,ix)::os) σ μ Ds:=
 bW ho rfl rfl hN hg (fun ρ hρ w'=>by
  have hx':=hρ x _ hx;rcases hS with⟨a,rfl,rfl,_⟩|⟨b,cap,junk,rfl,_⟩
  ·simp[Builtin.len_,hat,hx',TU.of ht w',goInt,go_sem]
  ·simp[Builtin.len_,hat,hx',TU.of ht w',goInt,go_sem]) kk
theorem Hl.dropBoxes{a:Act}{w:Δ}(n:Nat)(h:Hl X σ μ Ds a w):Hl X σ (μ.drop n) Ds a w:=by
 obtain⟨h1,h2,h3,D,h4,h5,I⟩:=h;have hμ:(μ.drop n).Sublist μ:=List.drop_sublist n μ;exact⟨h1,h2,h3,D,h4.sub (fun p hp=>hμ.mem hp) ((hμ.map (·.1)).nodup h4.nd),h5,I.step (fun _ p hp=>bNI (bMR.2 ⟨p,hμ.mem hp,rfl⟩)) (fun _=>aNV.refl _ _ _) h4.dom⟩
theorem bI.cells1{e:Θ}{sz n:Nat}{cells:List Γ}{ν:aD}(h:bI e sz v n cells ν):v.cells=[v].toArray:=by
 rcases h with⟨a,rfl,_⟩|⟨b,cap,junk,rfl,_⟩<;>rfl
theorem bI.cell1{e:Θ}{sz n:Nat}{cells:List Γ}{ν:aD}(h:bI e sz v n cells ν):∀u∈[v],Fs.cell1 u=true:=by
 rcases h with⟨a,rfl,_⟩|⟨b,cap,junk,rfl,_⟩<;>simp[Fs.cell1]

theorem nJ{b:Frame}{a:Act}{k:List Item}{cs:List Frame}{w:Δ}{c:Code}:step P (lone (b.atR a (.code (.scope c)::k)) cs w)=.next (lone (b.atR a (.code c::.inScope c::k)) cs w):=
 step_lone_go (by simp[stepG,stepG.exec,Frame.atR])
theorem GZ{b:Frame}{a:Act}{k:List Item}{cs:List Frame}{w:Δ}{c:Code}:step P (lone (b.atR a (.inScope c::k)) cs w)=.next (lone (b.atR a k) cs w):=
 step_lone_go (by simp[stepG,stepG.exec,Frame.atR])
def y5(Q:Exit→Act→Δ→Prop):Exit→Act→Δ→Prop
 |.goto _,_,_=>False
 |e,a,w=>Q e a w
theorem NP.ngt{Q:Exit→Act→Δ→Prop}(h:NP Q):NP (y5 Q):=fun c a w q=>h c a w q
theorem PI.ngt{Q:Exit→Act→Δ→Prop}(h:PI Q):PI (y5 Q):=fun c a b w d q=>h c a b w d q
theorem TO{F:Fence}{n:Nat}{c:Code}{a:Act}{w:Δ}(h:c.wpIn F n P (y5 Q) a w):(Code.scope c).wpIn F n P Q a w:=by
 intro b k cs hro hb hr;have h0:(lone (b.atR a (.code (.scope c)::k)) cs w).fenced P F:=fenced_calm hb hr rfl;obtain⟨e,a₁,w₁,hq,harr⟩:=h b (.inScope c::k) cs hro hb hr;cases e with
 |normal=>exact⟨.normal,a₁,w₁,hq,.head h0 nJ (StepsIn.trans harr (.one (fenced_calm hb hr rfl) GZ))⟩
 |exit id'=>
  have hx:exitTo id' (.inScope c::k)=exitTo id' k:=by simp[exitTo]
  exact⟨.exit id',a₁,w₁,hq,fun k' hk=>.head h0 nJ (harr.1 k' (by rw[hx];exact hk)),
   fun hr' hk=>let ⟨k₁,h1,h2⟩:=harr.2 hr' (by rw[hx];exact hk);⟨k₁,h1,.head h0 nJ h2⟩⟩
 |goto l=>exact hq.elim
 |ret=>exact⟨_,a₁,w₁,hq,.of_steps (.one h0 nJ) harr⟩
 |panic ch=>exact⟨_,a₁,w₁,hq,.of_steps (.one h0 nJ) harr⟩
 |outgrown=>exact⟨_,a₁,w₁,hq,.of_steps (.one h0 nJ) harr⟩
theorem OJ{c:Code}(h:WC P X (y5 Q) c σ μ Ds):WC P X Q (.scope c) σ μ Ds:=fun a w hh=>TO (h a w hh)
theorem sD(h:∀a w,Hl X σ μ Ds a w→Q .normal a w):∀a w,Hl X σ μ Ds a w→y5 Q .normal a w:=h
theorem zL(h:∀a w,Hl X σ μ Ds a w→Q .ret a w):∀a w,Hl X σ μ Ds a w→y5 Q .ret a w:=h
theorem aV(μ':aD)(h:μ=μ')(k:WL P X bad all K Q os σ μ' Ds):WL P X bad all K Q os σ μ Ds:=h▸k
theorem _root_.Go.Fs.Zaa(μ':aD)(h:μ=μ')(k:WL P X bad all K Q os σ μ' Ds):WL P X bad all K Q os σ μ Ds:=aV μ' h k
theorem MR{c:Code}(μ':aD)(h:μ=μ')(k:WC P X Q c σ μ' Ds):WC P X Q c σ μ Ds:=h▸k
theorem Sl.cell1{α:Type}{R:Rd α}{D:aC}{sz:Nat}{v:Γ}{xs:List α}(h:Sl D R sz v xs):∀u∈[v],Fs.cell1 u=true:=by
 obtain⟨a,cap,rfl,_⟩:=h;simp[Fs.cell1]
open Go.Proofs Tryz

theorem bB:prog.follows .mixedOrders=true:=Yg
theorem _root_.Go.Fs.U3:type_of% underlying3:=underlying3
theorem _root_.Go.Fs.U4:type_of% underlying4:=underlying4
theorem _root_.Go.Fs.U5:type_of% underlying5:=underlying5
theorem _root_.Go.Fs.U9:type_of% underlying9:=underlying9
theorem _root_.Go.Fs.U20:type_of% underlying20:=underlying20
theorem _root_.Go.Fs.U22:type_of% underlying22:=underlying22
theorem _root_.Go.Fs.U25:type_of% underlying25:=underlying25
theorem _root_.Go.Fs.U26:type_of% underlying26:=underlying26
theorem _root_.Go.Fs.U29:type_of% underlying29:=underlying29
theorem _root_.Go.Fs.U30:type_of% underlying30:=underlying30
theorem _root_.Go.Fs.U33:type_of% underlying33:=underlying33
theorem _root_.Go.Fs.U34:type_of% underlying34:=underlying34
theorem _root_.Go.Fs.U37:type_of% underlying37:=underlying37
theorem _root_.Go.Fs.U38:type_of% underlying38:=underlying38
theorem _root_.Go.Fs.U43:type_of% underlying43:=underlying43
theorem _root_.Go.Fs.U50:type_of% underlying50:=underlying50
theorem _root_.Go.Fs.U53:type_of% underlying53:=underlying53
theorem _root_.Go.Fs.U54:type_of% underlying54:=underlying54
theorem _root_.Go.Fs.U57:type_of% underlying57:=underlying57
theorem _root_.Go.Fs.U61:type_of% underlying61:=underlying61
theorem _root_.Go.Fs.U62:type_of% underlying62:=underlying62
theorem _root_.Go.Fs.U80:type_of% underlying80:=underlying80
theorem _root_.Go.Fs.U93:type_of% underlying93:=underlying93
theorem _root_.Go.Fs.U99:type_of% underlying99:=underlying99
theorem _root_.Go.Fs.U135:type_of% underlying135:=underlying135
theorem _root_.Go.Fs.U139:type_of% underlying139:=underlying139
theorem _root_.Go.Fs.U151:type_of% underlying151:=underlying151
theorem _root_.Go.Fs.U170:type_of% underlying170:=underlying170
theorem _root_.Go.Fs.U210:type_of% underlying210:=underlying210
theorem _root_.Go.Fs.U232:type_of% underlying232:=underlying232
theorem _root_.Go.Fs.U240:type_of% underlying240:=underlying240
theorem _root_.Go.Fs.U249:type_of% underlying249:=underlying249
theorem _root_.Go.Fs.U258:type_of% underlying258:=underlying258
theorem _root_.Go.Fs.U264:type_of% underlying264:=underlying264
theorem _root_.Go.Fs.U284:type_of% underlying284:=underlying284
theorem _root_.Go.Fs.U288:type_of% underlying288:=underlying288
theorem _root_.Go.Fs.U292:type_of% underlying292:=underlying292
theorem _root_.Go.Fs.U297:type_of% underlying297:=underlying297
theorem _root_.Go.Fs.U303:type_of% underlying303:=underlying303
theorem _root_.Go.Fs.U305:type_of% underlying305:=underlying305
theorem _root_.Go.Fs.U313:type_of% underlying313:=underlying313
theorem _root_.Go.Fs.U314:type_of% underlying314:=underlying314
theorem _root_.Go.Fs.U320:type_of% underlying320:=underlying320
theorem _root_.Go.Fs.U331:type_of% underlying331:=underlying331
theorem _root_.Go.Fs.U337:type_of% underlying337:=underlying337
theorem _root_.Go.Fs.U349:type_of% underlying349:=underlying349
theorem _root_.Go.Fs.U355:type_of% underlying355:=underlying355
theorem _root_.Go.Fs.U370:type_of% underlying370:=underlying370
theorem _root_.Go.Fs.U380:type_of% underlying380:=underlying380
theorem _root_.Go.Fs.U401:type_of% underlying401:=underlying401
theorem _root_.Go.Fs.U412:type_of% underlying412:=underlying412
theorem _root_.Go.Fs.U414:type_of% underlying414:=underlying414
abbrev υ:=TA prog
abbrev φ:=TF prog
abbrev χ:=TS prog
abbrev ι:=TZ prog
abbrev κ:=TP prog
abbrev ξ(t:Θ):Prop:=(prog.info? t).map (fun i=>Nat.ble 1 i.bytes&&Nat.ble i.bytes 4096)=some true
theorem ο{t:Θ}{i k ft n:Nat}{fs:Array Field}(h:prog.underlying t=some (.struct fs))(hs:TS prog ft n)(hk:(fs[i]?).map (fun f=>(f.offset,f.type))=some (k,ft):=by rfl)(hn:Nat.beq n 0=false:=by rfl):TF prog t i k:=TF.of h hk hs hn
theorem π{t:Θ}{n:Nat}(h:(prog.info? t).map (·.size)=some n:=by kernel_rfl):TS prog t n:=TS.of h
theorem δ{t:Θ}{v:Γ}(h:(prog.info? t).bind (·.zero)=some v:=by kernel_rfl):TZ prog t v:=TZ.of h
theorem η{t:Θ}{fs:Array Field}{pl:List (Nat×Nat)}(h:prog.underlying t=some (.struct fs))(hp:(fs.toList.map fun f=>(f.offset,prog.cellsOf f.type))=pl:=by kernel_rfl)(hi:(fs.toList.all fun f=>(prog.info? f.type).isSome)=true:=by kernel_rfl):TP prog t pl:=TP.of h hp hi
theorem θ{t:Θ}(h:(prog.info? t).map (fun i=>Nat.ble 1 i.bytes&&Nat.ble i.bytes 4096)=some true:=by kernel_rfl):ξ t:=h
theorem aI:υ 3 false:=TA.of underlying3 _ rfl
theorem aH:χ 3 1:=π
theorem cE:ι 3 (qI 0):=δ
theorem kD:ξ 3:=θ
theorem FM:υ 4 false:=TA.of underlying4 _ rfl
theorem mG:χ 4 1:=π
theorem pV:ι 4 (.bool false):=δ
theorem EK:υ 5 false:=TA.of underlying5 _ rfl
theorem iU:χ 5 1:=π
theorem aFK:ι 5 (.int .u8 0):=δ
theorem aUK:ξ 5:=θ
theorem sZ:υ 9 false:=TA.of underlying9 _ rfl
theorem fU:χ 9 1:=π
theorem G6:ξ 9:=θ
theorem YB:υ 22 false:=TA.of underlying22 _ rfl
theorem aUY:χ 22 1:=π
theorem bIT:ι 22 (qN):=δ
theorem cD:υ 25 false:=TA.of underlying25 _ rfl
theorem fR:χ 25 1:=π
theorem vE:ι 25 (qN):=δ
theorem QI:ξ 25:=θ
theorem I5:υ 26 false:=TA.of underlying26 _ rfl
theorem NW:χ 26 1:=π
theorem nI:υ 28 true:=TA.of underlying28 _ rfl
theorem mE:χ 28 4:=π
theorem fH:φ 28 0 0:=ο underlying28 fR
theorem nE:φ 28 1 1:=ο underlying28 NW
theorem FB:φ 28 2 2:=ο underlying28 aH
theorem j2:φ 28 3 3:=ο underlying28 aH
theorem xE:υ 29 false:=TA.of underlying29 _ rfl
theorem aBM:χ 29 1:=π
theorem I9:υ 30 false:=TA.of underlying30 _ rfl
theorem OS:χ 30 1:=π
theorem lF:υ 32 true:=TA.of underlying32 _ rfl
theorem jS:χ 32 5:=π
theorem mX:φ 32 0 0:=ο underlying32 aH
theorem lU:φ 32 1 1:=ο underlying32 aBM
theorem L9:φ 32 2 2:=ο underlying32 aH
theorem lT:φ 32 3 3:=ο underlying32 fR
theorem mO:φ 32 4 4:=ο underlying32 OS
theorem iB:υ 33 false:=TA.of underlying33 _ rfl
theorem eR:χ 33 1:=π
theorem nT:ι 33 (qN):=δ
theorem FO:υ 34 false:=TA.of underlying34 _ rfl
theorem aBH:χ 34 1:=π
theorem gU:υ 36 true:=TA.of underlying36 _ rfl
theorem fI:χ 36 5:=π
theorem aOR:ι 36 (.agg #[qI 0,qI 0,qI 0,qN,qN]):=δ
theorem wC:φ 36 0 0:=ο underlying36 aH
theorem I3:φ 36 1 1:=ο underlying36 aH
theorem GK:φ 36 2 2:=ο underlying36 aH
theorem dM:φ 36 3 3:=ο underlying36 eR
theorem vA:φ 36 4 4:=ο underlying36 aBH
theorem pL:υ 37 false:=TA.of underlying37 _ rfl
theorem YM:χ 37 1:=π
theorem J4:υ 38 false:=TA.of underlying38 _ rfl
theorem PQ:χ 38 1:=π
theorem nA:υ 40 true:=TA.of underlying40 _ rfl
theorem lN:χ 40 3:=π
theorem iF:φ 40 0 0:=ο underlying40 YM
theorem N4:φ 40 1 1:=ο underlying40 aH
theorem mR:φ 40 2 2:=ο underlying40 PQ
theorem kC:υ 42 true:=TA.of underlying42 _ rfl
theorem eD:χ 42 17:=π
theorem rD:ι 42 (.agg #[qN,qN,qI 0,qI 0,qI 0,qN,qI 0,qN,qN,qI 0,qI 0,qI 0,qN,qN,qN,qI 0,qN]):=δ
theorem bGX:κ 42 [(0,4),(4,5),(9,5),(14,3)]:=η underlying42
theorem dT:φ 42 0 0:=ο underlying42 mE
theorem cY:φ 42 1 4:=ο underlying42 jS
theorem fV:φ 42 2 9:=ο underlying42 fI
theorem eX:φ 42 3 14:=ο underlying42 lN
theorem tC:υ 44 false:=TA.of underlying44 _ rfl
theorem tE:χ 44 1:=π
theorem RD:ι 44 (qI 0):=δ
theorem bGQ:ξ 44:=θ
theorem xM:υ 50 false:=TA.of underlying50 _ rfl
theorem DZ:χ 50 1:=π
theorem DY:υ 52 true:=TA.of underlying52 _ rfl
theorem V9:χ 52 4:=π
theorem bIK:ι 52 (.agg #[qN,qN,qI 0,qI 0]):=δ
theorem bHM:κ 52 [(0,1),(1,1),(2,1),(3,1)]:=η underlying52
theorem jL:φ 52 0 0:=ο underlying52 fR
theorem jX:φ 52 1 1:=ο underlying52 DZ
theorem SC:φ 52 2 2:=ο underlying52 aH
theorem SH:φ 52 3 3:=ο underlying52 aH
theorem xR:υ 53 false:=TA.of underlying53 _ rfl
theorem aUA:χ 53 1:=π
theorem H3:υ 54 false:=TA.of underlying54 _ rfl
theorem RE:χ 54 1:=π
theorem zN:υ 56 true:=TA.of underlying56 _ rfl
theorem vV:χ 56 5:=π
theorem bGJ:ι 56 (.agg #[qI 0,qN,qI 0,qN,qN]):=δ
theorem bJG:κ 56 [(0,1),(1,1),(2,1),(3,1),(4,1)]:=η underlying56
theorem GI:φ 56 0 0:=ο underlying56 aH
theorem mY:φ 56 1 1:=ο underlying56 aUA
theorem HV:φ 56 2 2:=ο underlying56 aH
theorem vQ:φ 56 3 3:=ο underlying56 fR
theorem mQ:φ 56 4 4:=ο underlying56 RE
theorem sC:υ 57 false:=TA.of underlying57 _ rfl
theorem ID:χ 57 1:=π
theorem aUL:υ 60 true:=TA.of underlying60 _ rfl
theorem QA:χ 60 5:=π
theorem bFX:ι 60 (.agg #[qI 0,qI 0,qI 0,qN,qN]):=δ
theorem bGR:κ 60 [(0,1),(1,1),(2,1),(3,1),(4,1)]:=η underlying60
theorem SV:φ 60 0 0:=ο underlying60 aH
theorem iG:φ 60 3 3:=ο underlying60 ID
theorem pK:υ 61 false:=TA.of underlying61 _ rfl
theorem YU:χ 61 1:=π
theorem xG:υ 62 false:=TA.of underlying62 _ rfl
theorem PB:χ 62 1:=π
theorem qQ:υ 64 true:=TA.of underlying64 _ rfl
theorem nW:χ 64 3:=π
theorem bJK:ι 64 (.agg #[qN,qI 0,qN]):=δ
theorem bHN:κ 64 [(0,1),(1,1),(2,1)]:=η underlying64
theorem iO:φ 64 0 0:=ο underlying64 YU
theorem J5:φ 64 1 1:=ο underlying64 aH
theorem kU:φ 64 2 2:=ο underlying64 PB
theorem nF:υ 66 true:=TA.of underlying66 _ rfl
theorem hG:χ 66 17:=π
theorem L5:ι 66 (.agg #[qN,qN,qI 0,qI 0,qI 0,qN,qI 0,qN,qN,qI 0,qI 0,qI 0,qN,qN,qN,qI 0,qN]):=δ
theorem uW:φ 66 0 0:=ο underlying66 V9
theorem oF:φ 66 1 4:=ο underlying66 vV
theorem J8:φ 66 2 9:=ο underlying66 QA
theorem oA:φ 66 3 14:=ο underlying66 nW
theorem pH:υ 72 true:=TA.of underlying72 _ rfl
theorem eQ:χ 72 2:=π
theorem pC:ι 72 (.agg #[qI 0,qI 0]):=δ
theorem AK:κ 72 [(0,1),(1,1)]:=η underlying72
theorem yX:φ 72 0 0:=ο underlying72 aH
theorem xX:φ 72 1 1:=ο underlying72 aH
theorem zY:υ 75 true:=TA.of underlying75 _ rfl
theorem jK:χ 75 2:=π
theorem tH:ι 75 (.agg #[qI 0,qI 0]):=δ
theorem HT:κ 75 [(0,1),(1,1)]:=η underlying75
theorem WA:φ 75 0 0:=ο underlying75 aH
theorem SR:φ 75 1 1:=ο underlying75 aH
theorem rV:υ 90 true:=TA.of underlying90 _ rfl
theorem dV:χ 90 2:=π
theorem nH:ι 90 (.agg #[qI 0,qI 0]):=δ
theorem aSD:ξ 90:=θ
theorem FI:κ 90 [(0,1),(1,1)]:=η underlying90
theorem yS:φ 90 0 0:=ο underlying90 aH
theorem yR:φ 90 1 1:=ο underlying90 aH
theorem nR:υ 93 true:=TA.of underlying93 _ rfl
theorem dQ:χ 93 2:=π
theorem kA:ι 93 (.agg #[qI 0,qI 0]):=δ
theorem aAV:ξ 93:=θ
theorem X8:κ 93 [(0,1),(1,1)]:=η underlying93
theorem vJ:φ 93 0 0:=ο underlying93 aH
theorem yH:φ 93 1 1:=ο underlying93 aH
theorem aRQ:υ 99 false:=TA.of underlying99 _ rfl
theorem aOU:χ 99 1:=π
theorem aFI:υ 135 false:=TA.of underlying135 _ rfl
theorem aFX:χ 135 1:=π
theorem bBA:χ 137 2:=π
theorem aXR:ι 137 (.agg #[.pointer none,qN]):=δ
theorem u7:φ 137 0 0:=ο underlying137 aFX
theorem JJ:φ 137 1 1:=ο underlying137 aOU
theorem DD:υ 151 false:=TA.of underlying151 _ rfl
theorem DI:χ 151 1:=π
theorem aYL:ι 151 (qN):=δ
theorem CP:υ 158 true:=TA.of underlying158 _ rfl
theorem mF:χ 158 2:=π
theorem tT:ι 158 (.agg #[qI 0,qI 0]):=δ
theorem bDR:ξ 158:=θ
theorem S6:κ 158 [(0,1),(1,1)]:=η underlying158
theorem O6:φ 158 0 0:=ο underlying158 aH
theorem t6:φ 158 1 1:=ο underlying158 aH
theorem wV:χ 165 2:=π
theorem CF:ι 165 (.agg #[qI 0,qI 0]):=δ
theorem aDG:ξ 165:=θ
theorem bCG:κ 165 [(0,1),(1,1)]:=η underlying165
theorem aLS:φ 165 0 0:=ο underlying165 aH
theorem aMZ:φ 165 1 1:=ο underlying165 aH
theorem xB:υ 170 false:=TA.of underlying170 _ rfl
theorem n8:χ 170 1:=π
theorem aFR:ι 170 (qN):=δ
theorem DG:υ 172 false:=TA.of underlying172 _ rfl
theorem aCR:υ 175 false:=TA.of underlying175 _ rfl
theorem aZS:χ 175 1:=π
theorem aDB:χ 178 1:=π
theorem QG:ι 178 (.agg #[.nilFunc]):=δ
theorem aXC:κ 178 [(0,1)]:=η underlying178
theorem MX:φ 178 0 0:=ο underlying178 aZS
theorem wX:υ 179 false:=TA.of underlying179 _ rfl
theorem bAE:χ 179 1:=π
theorem bDD:ι 179 (.pointer none):=δ
theorem qY:υ 182 false:=TA.of underlying182 _ rfl
theorem CI:χ 182 1:=π
theorem CM:ι 182 (.nilFunc):=δ
theorem aEW:υ 183 false:=TA.of underlying183 _ rfl
theorem aXA:χ 183 1:=π
theorem aDL:ι 186 (.agg #[.nilFunc]):=δ
theorem aCJ:κ 186 [(0,1)]:=η underlying186
theorem MV:φ 186 0 0:=ο underlying186 aXA
theorem aXD:υ 196 false:=TA.of underlying196 _ rfl
theorem DE:υ 202 true:=TA.of underlying202 _ rfl
theorem kM:χ 202 3:=π
theorem A5:ι 202 (.agg #[.bool false,qI 0,qI 0]):=δ
theorem aEJ:ξ 202:=θ
theorem bBI:κ 202 [(0,1),(1,1),(2,1)]:=η underlying202
theorem aMR:φ 202 0 0:=ο underlying202 mG
theorem x9:φ 202 1 1:=ο underlying202 aH
theorem yC:φ 202 2 2:=ο underlying202 aH
theorem QM:υ 204 true:=TA.of underlying204 _ rfl
theorem lP:χ 204 4:=π
theorem C6:ι 204 (.agg #[qI 0,qI 0,qI 0,qI 0]):=δ
theorem aGD:ξ 204:=θ
theorem aXM:κ 204 [(0,1),(1,1),(2,2)]:=η underlying204
theorem MW:φ 204 0 0:=ο underlying204 aH
theorem JS:φ 204 1 1:=ο underlying204 aH
theorem JY:φ 204 2 2:=ο underlying204 dQ
theorem nN:υ 206 true:=TA.of underlying206 _ rfl
theorem cG:χ 206 3:=π
theorem kO:ι 206 (.agg #[qI 0,qI 0,qI 0]):=δ
theorem c8:ξ 206:=θ
theorem aDT:κ 206 [(0,1),(1,1),(2,1)]:=η underlying206
theorem x5:φ 206 0 0:=ο underlying206 aH
theorem rQ:φ 206 1 1:=ο underlying206 aH
theorem nO:φ 206 2 2:=ο underlying206 aH
theorem RG:υ 208 true:=TA.of underlying208 _ rfl
theorem xC:χ 208 3:=π
theorem CH:ι 208 (.agg #[qI 0,qI 0,qI 0]):=δ
theorem bCI:ξ 208:=θ
theorem bEK:κ 208 [(0,1),(1,2)]:=η underlying208
theorem Q0:φ 208 0 0:=ο underlying208 aH
theorem y2:φ 208 1 1:=ο underlying208 eQ
theorem rE:υ 210 true:=TA.of underlying210 _ rfl
theorem oO:χ 210 3:=π
theorem m7:ι 210 (.agg #[qI 0,qI 0,qI 0]):=δ
theorem bAO:ξ 210:=θ
theorem OO:υ 212 true:=TA.of underlying212 _ rfl
theorem mK:χ 212 4:=π
theorem Q3:ι 212 (.agg #[qI 0,qI 0,qI 0,qI 0]):=δ
theorem aCS:ξ 212:=θ
theorem aWX:κ 212 [(0,1),(1,3)]:=η underlying212
theorem s5:φ 212 0 0:=ο underlying212 aH
theorem R1:φ 212 1 1:=ο underlying212 oO
theorem bBH:υ 224 true:=TA.of underlying224 _ rfl
theorem sI:χ 224 3:=π
theorem A1:ι 224 (.agg #[.bool false,qI 0,qI 0]):=δ
theorem QD:ξ 224:=θ
theorem aEQ:κ 224 [(0,1),(1,1),(2,1)]:=η underlying224
theorem aJR:φ 224 0 0:=ο underlying224 mG
theorem KN:φ 224 1 1:=ο underlying224 aH
theorem S1:φ 224 2 2:=ο underlying224 aH
theorem bEJ:υ 227 true:=TA.of underlying227 _ rfl
theorem wG:χ 227 4:=π
theorem DC:ι 227 (.agg #[qI 0,qI 0,qI 0,qI 0]):=δ
theorem aCX:ξ 227:=θ
theorem aYU:κ 227 [(0,1),(1,1),(2,2)]:=η underlying227
theorem aIN:φ 227 0 0:=ο underlying227 aH
theorem aMV:φ 227 1 1:=ο underlying227 aH
theorem MM:φ 227 2 2:=ο underlying227 mF
theorem uA:υ 232 true:=TA.of underlying232 _ rfl
theorem fP:χ 232 3:=π
theorem xD:ι 232 (.agg #[qI 0,qI 0,qI 0]):=δ
theorem bAN:ξ 232:=θ
theorem sG:χ 234 4:=π
theorem CL:ι 234 (.agg #[qI 0,qI 0,qI 0,qI 0]):=δ
theorem aEY:ξ 234:=θ
theorem bBZ:κ 234 [(0,1),(1,3)]:=η underlying234
theorem P8:φ 234 0 0:=ο underlying234 aH
theorem AP:φ 234 1 1:=ο underlying234 fP
theorem uJ:υ 240 true:=TA.of underlying240 _ rfl
theorem oV:χ 240 4:=π
theorem bAD:ι 240 (.agg #[qI 0,qI 0,qI 0,qI 0]):=δ
theorem kL:υ 242 true:=TA.of underlying242 _ rfl
theorem dY:χ 242 10:=π
theorem wY:ι 242 (.agg #[qI 0,qI 0,qI 0,qI 0,qI 0,qI 0,qI 0,qI 0,qI 0,qI 0]):=δ
theorem bAK:ξ 242:=θ
theorem bCA:κ 242 [(0,4),(4,4),(8,1),(9,1)]:=η underlying242
theorem uO:φ 242 0 0:=ο underlying242 oV
theorem uV:φ 242 1 4:=ο underlying242 oV
theorem pT:φ 242 2 8:=ο underlying242 aH
theorem x7:φ 242 3 9:=ο underlying242 aH
theorem aXU:υ 243 false:=TA.of underlying243 _ rfl
theorem DB:υ 244 false:=TA.of underlying244 _ rfl
theorem aYK:χ 244 1:=π
theorem bBQ:ι 244 (.pointer none):=δ
theorem P5:υ 249 false:=TA.of underlying249 _ rfl
theorem aCN:χ 249 1:=π
theorem bDT:ι 251 (.agg #[qN,qN,qI 0,qI 0,qN]):=δ
theorem bBT:κ 251 [(0,4),(4,1)]:=η underlying251
theorem rX:φ 251 1 4:=ο underlying251 aCN
theorem aCF:υ 254 true:=TA.of underlying254 _ rfl
theorem lK:χ 254 3:=π
theorem qU:ι 254 (.agg #[qI 0,qI 0,qI 0]):=δ
theorem CE:ξ 254:=θ
theorem CV:κ 254 [(0,1),(1,1),(2,1)]:=η underlying254
theorem AG:φ 254 0 0:=ο underlying254 aH
theorem AF:φ 254 1 1:=ο underlying254 aH
theorem yW:φ 254 2 2:=ο underlying254 aH
theorem kS:υ 258 true:=TA.of underlying258 _ rfl
theorem eB:χ 258 9:=π
theorem tW:ι 258 (.agg #[qI 0,qI 0,qI 0,qI 0,qI 0,qI 0,qI 0,qI 0,qI 0]):=δ
theorem bCD:ξ 258:=θ
theorem CR:υ 264 true:=TA.of underlying264 _ rfl
theorem uB:χ 264 10:=π
theorem bDP:ι 264 (.agg #[qI 0,qI 0,qI 0,qI 0,qI 0,qI 0,qI 0,qI 0,qI 0,qI 0]):=δ
theorem aFM:υ 267 false:=TA.of underlying267 _ rfl
theorem aZI:χ 267 1:=π
theorem aYR:ι 267 (.nilFunc):=δ
theorem NM:υ 269 false:=TA.of underlying269 _ rfl
theorem aZX:χ 269 1:=π
theorem bEU:ι 269 (.nilFunc):=δ
theorem aXS:υ 273 true:=TA.of underlying273 _ rfl
theorem tN:χ 273 2:=π
theorem wW:ι 273 (.agg #[qI 0,qI 0]):=δ
theorem QR:ξ 273:=θ
theorem bET:κ 273 [(0,1),(1,1)]:=η underlying273
theorem aMG:φ 273 0 0:=ο underlying273 aH
theorem aHV:φ 273 1 1:=ο underlying273 aH
theorem aDC:υ 292 false:=TA.of underlying292 _ rfl
theorem Z2:χ 292 1:=π
theorem OV:ι 292 (qN):=δ
theorem bAB:ξ 292:=θ
theorem bBF:υ 293 false:=TA.of underlying293 _ rfl
theorem aXB:υ 295 false:=TA.of underlying295 _ rfl
theorem aGA:υ 297 false:=TA.of underlying297 _ rfl
theorem bBS:χ 297 1:=π
theorem bAL:ι 299 (.agg #[qN,qI 0,qN,.map none]):=δ
theorem bER:κ 299 [(0,3),(3,1)]:=η underlying299
theorem O9:φ 299 0 0:=ο underlying299 lN
theorem LF:φ 299 1 3:=ο underlying299 bBS
theorem OX:υ 303 false:=TA.of underlying303 _ rfl
theorem bDJ:χ 303 1:=π
theorem bDQ:ι 303 (qN):=δ
theorem p7:υ 305 true:=TA.of underlying305 _ rfl
theorem A4:χ 305 7:=π
theorem uK:υ 307 true:=TA.of underlying307 _ rfl
theorem iD:χ 307 9:=π
theorem wQ:ι 307 (.agg #[qI 0,qI 0,qI 0,qI 0,qI 0,qI 0,qI 0,qI 0,qI 0]):=δ
theorem OC:ξ 307:=θ
theorem P0:φ 307 0 0:=ο underlying307 aH
theorem AT:φ 307 1 1:=ο underlying307 aH
theorem O5:φ 307 2 2:=ο underlying307 A4
theorem aFU:υ 313 false:=TA.of underlying313 _ rfl
theorem bCF:χ 313 1:=π
theorem tS:υ 314 false:=TA.of underlying314 _ rfl
theorem aFF:χ 314 1:=π
theorem bEX:ι 316 (.agg #[qI 0,qN,qI 0,qN,qN,qN,.map none]):=δ
theorem aXW:κ 316 [(0,5),(5,1),(6,1)]:=η underlying316
theorem LJ:φ 316 0 0:=ο underlying316 jS
theorem lZ:φ 316 1 5:=ο underlying316 aFF
theorem KF:φ 316 2 6:=ο underlying316 bCF
theorem oQ:υ 320 true:=TA.of underlying320 _ rfl
theorem jN:χ 320 10:=π
theorem j7:ι 320 (.agg #[qI 0,qI 0,qI 0,qI 0,qI 0,qI 0,qI 0,qI 0,qI 0,qI 0]):=δ
theorem bCJ:ξ 320:=θ
theorem bEI:χ 323 2:=π
theorem aDR:ι 323 (.agg #[qI 0,qI 0]):=δ
theorem aYN:κ 323 [(0,1),(1,1)]:=η underlying323
theorem aMX:φ 323 0 0:=ο underlying323 aH
theorem aJX:φ 323 1 1:=ο underlying323 aH
theorem bDH:χ 331 1:=π
theorem aCD:ι 331 (.agg #[qI 0]):=δ
theorem aWV:κ 331 [(0,1)]:=η underlying331
theorem aIL:φ 331 0 0:=ο underlying331 tE
theorem bDL:υ 333 false:=TA.of underlying333 _ rfl
theorem aYB:χ 333 1:=π
theorem bBE:χ 335 2:=π
theorem fM:ι 335 (.agg #[qI 0,.nilFunc]):=δ
theorem hU:κ 335 [(0,1),(1,1)]:=η underlying335
theorem aGO:φ 335 0 0:=ο underlying335 aH
theorem aIG:φ 335 1 1:=ο underlying335 aYB
theorem aZR:ι 343 (.agg #[qN,qN,qI 0,qI 0,qI 0,qN,qI 0,qN,qN,qI 0,qI 0,qI 0,qN,qN,qN,qI 0,qN]):=δ
theorem aZV:κ 343 [(0,17)]:=η underlying343
theorem aY:φ 343 0 0:=ο underlying343 eD
theorem a7:υ 349 false:=TA.of underlying349 _ rfl
theorem bEA:χ 349 1:=π
theorem kQ:ι 349 (qN):=δ
theorem bEG:υ 358 false:=TA.of underlying358 _ rfl
theorem bCL:υ 361 false:=TA.of underlying361 _ rfl
theorem aXJ:υ 363 false:=TA.of underlying363 _ rfl
theorem aZC:υ 364 false:=TA.of underlying364 _ rfl
theorem PS:υ 370 false:=TA.of underlying370 _ rfl
theorem bAP:χ 370 1:=π
theorem aDF:ι 372 (.agg #[qI 0,qI 0,qI 0,qN,qN,.map none]):=δ
theorem aEU:κ 372 [(0,5),(5,1)]:=η underlying372
theorem zG:φ 372 0 0:=ο underlying372 fI
theorem s8:φ 372 1 5:=ο underlying372 bAP
theorem DF:χ 381 2:=π
theorem QN:ι 381 (.agg #[qI 0,qI 0]):=δ
theorem bAI:ξ 381:=θ
theorem aXL:κ 381 [(0,1),(1,1)]:=η underlying381
theorem aIQ:φ 381 0 0:=ο underlying381 aH
theorem aHI:φ 381 1 1:=ο underlying381 aH
theorem aZM:υ 383 false:=TA.of underlying383 _ rfl
theorem aFW:υ 387 true:=TA.of underlying387 _ rfl
theorem aEK:χ 387 8:=π
theorem NC:ι 387 (.agg #[qI 0,qI 0,qI 0,qI 0,qI 0,qI 0,qI 0,qI 0]):=δ
theorem NV:κ 387 [(0,1),(1,7)]:=η underlying387
theorem y1:φ 387 0 0:=ο underlying387 aH
theorem z8:φ 387 1 1:=ο underlying387 A4
theorem aYQ:υ 389 false:=TA.of underlying389 _ rfl
theorem bDU:υ 391 false:=TA.of underlying391 _ rfl
theorem aWU:υ 394 false:=TA.of underlying394 _ rfl
theorem aXH:υ 412 true:=TA.of underlying412 _ rfl
theorem aES:χ 412 3:=π
theorem aCV:ι 412 (.agg #[.int .u8 0,.int .u8 0,.int .u8 0]):=δ
theorem Z0:υ 414 true:=TA.of underlying414 _ rfl
theorem sH:χ 414 4:=π
theorem aDY:ι 414 (.agg #[.int .u8 0,.int .u8 0,.int .u8 0,.int .u8 0]):=δ
theorem OP:υ 416 true:=TA.of underlying416 _ rfl
theorem wJ:χ 416 7:=π
theorem B7:ι 416 (.agg #[.int .u8 0,.int .u8 0,.int .u8 0,.int .u8 0,.int .u8 0,.int .u8 0,.int .u8 0]):=δ
theorem NA:κ 416 [(0,3),(3,4)]:=η underlying416
theorem s4:φ 416 0 0:=ο underlying416 aES
theorem aJP:φ 416 1 3:=ο underlying416 sH
theorem aXP:υ 420 false:=TA.of underlying420 _ rfl
theorem PJ:υ 433 true:=TA.of underlying433 _ rfl
theorem CX:χ 433 9:=π
theorem Q6:ι 433 (.agg #[qI 0,qI 0,qI 0,qI 0,qI 0,qI 0,qI 0,qI 0,qI 0]):=δ
theorem NL:κ 433 [(0,1),(1,4),(5,4)]:=η underlying433
theorem PM:υ 455 false:=TA.of underlying455 _ rfl
theorem bCS:χ 455 1:=π
theorem bEF:ι 458 (.agg #[.nilFunc]):=δ
theorem bAF:κ 458 [(0,1)]:=η underlying458
theorem x6:φ 458 0 0:=ο underlying458 bCS

end Go.Fs
namespace Go.Fs.C1
structure xW where
 back:Bool
 many:Int
 num:Int
 deriving DecidableEq
structure dH where
 places:List Int
 counts:List xW
 wrong:Int
 off:Int
 deriving DecidableEq
def hC(n lo hi:Int):Bool:=decide (lo≤n)&&decide (n≤hi)
def tY(n:Int):Bool:=hC n 0 2
def sU(len:Nat)(c:xW):Bool:=hC c.many 0 len&&hC c.num 0 9
def aZ(r:dH):Int:=
 if 9<r.places.length∨6<r.counts.length then 3
 else if r.places.length=0∨hC r.wrong 0 6=false∨hC r.off 0 9=false∨r.places.all tY=false∨r.counts.all (sU r.places.length)=false then 1
 else 0
def dA(l:List Int):Nat:=(l.filter (· ==2)).length
def qZ(t p:Int):Bool:=hC t 0 1&&(p==2||t==p)
def eJ(r:dH)(t:List Int):Bool:=(t.length==r.places.length)&&(t.zip r.places).all fun x=>qZ x.1 x.2
def dK(l:List Int)(i k:Nat):Int:=((l.drop i).take k).sum
def I2(t:List Int)(c:xW):Int:=if c.back then dK t (t.length-c.many.toNat) c.many.toNat else dK t 0 c.many.toNat
def gV(t:List Int)(c:xW):Int:=max (I2 t c-c.num) (c.num-I2 t c)
def eW(r:dH)(t:List Int):Bool:=r.counts.all fun c=>decide (gV t c≤r.off)
def rO(r:dH)(t:List Int):Nat:=(r.counts.filter fun c=>decide (0<gV t c)).length
def cB:List Int→List (List Int)
 | []=>[[]]
 |p::ps=>(if p=2∨p=0 then(cB ps).map (0:: ·)else [])++(if p=2∨p=1 then(cB ps).map (1:: ·)else [])
def fits(r:dH)(t:List Int):Bool:=eW r t&&decide ((rO r t:Int)≤r.wrong)
def truths(r:dH):List (List Int):=(cB r.places).filter (fits r)
def qX(t:List Int)(i j:Nat):Int:=dK t i (j+1-i)
def tG:List Int→Int
 | []=>0
 |x::xs=>xs.foldl min x
def rK:List Int→Int
 | []=>0
 |x::xs=>xs.foldl max x

theorem zU{l:List Int}{i k:Nat}{x:Int}(h:l[i+k]?= some x):dK l i (k+1)=dK l i k+x:=by
 unfold dK;rw[bMZ,bPC,h];simp
theorem eZ{l:List Int}(hb:∀x∈l,0≤x∧x≤1)(i k:Nat):0≤dK l i k∧dK l i k≤k:=by
 induction k with
 |zero=>simp[dK]
 |succ k ih=>
  cases h:l[i+k]? with
  |none=>
   have:dK l i (k+1)=dK l i k:=by
    unfold dK;rw[bMZ,bPC,h];simp
   rw[this];omega
  |some x=>rw[zU h];have:=hb x (n5 h);omega
theorem U2(l:List Int)(i k m:Nat):dK l i (k+m)=dK l i k+dK l (i+k) m:=by
 unfold dK;rw[List.take_add,bQX];simp
def gL(t:List Int):List Int:=t++List.replicate (9-t.length) 0
theorem iI{t:List Int}(h:t.length≤9):(gL t).length=9:=by simp[gL];omega
theorem aAB{t:List Int}(h:∀x∈t,0≤x∧x≤1):∀x∈gL t,0≤x∧x≤1:=by
 intro x hx;rcases bNH.1 hx with hx|hx
 ·exact h x hx
 ·rw[(List.mem_replicate.1 hx).2];omega
theorem X0(n:Nat):(List.replicate n (0:Int)).sum=0:=by
 induction n with
 |zero=>rfl
 |succ n ih=>rw[List.replicate_succ,List.sum_cons,ih];rfl
theorem SY(t:List Int)(k:Nat):dK (gL t) 0 k=dK t 0 k:=by
 unfold dK gL;simp only[bQQ,List.take_append,List.sum_append,List.take_replicate,X0];omega
def nU(c:List Int):List Int:=(List.range 10).map fun k=>dK c 0 k
def sM(c:List Int)(k:Nat):List Int:=(List.range 10).map fun j=>if j≤k then dK c 0 j else 0
theorem sK(c:List Int):(nU c).length=10:=by simp[nU]
theorem GY(c:List Int)(k:Nat):(sM c k).length=10:=by simp[sM]
theorem PD(c:List Int):sM c 9=nU c:=by simp[sM,nU,List.range,List.range.loop]
theorem WG(c:List Int)(k:Nat)(h:k<10):(sM c k)[k]?= some (dK c 0 k):=by simp[sM,h]
theorem VG(c:List Int)(k:Nat):(sM c k).set (k+1) (dK c 0 (k+1))=sM c (k+1):=by
 apply List.ext_getElem?;intro j;rw[List.getElem?_set];simp only[sM,bOD];by_cases hj:k+1=j
 ·subst hj;by_cases hk:k+1<10
  ·simp[hk]
  ·simp[hk]
 ·rw[bNA hj];by_cases hk:j<10
  ·simp only[bRI hk,bOO];by_cases h1:j≤k
   ·rw[bNK h1,bNK Yd]
   ·rw[bNA h1,bNA Yd]
  ·simp[hk]
theorem vP(c:List Int)(k:Nat)(h:k<10):(nU c)[k]?= some (dK c 0 k):=by simp[nU,h]
theorem aBV(t:List Int):nU (gL t)=nU t:=by simp[nU,SY]

structure mM(r:dH):Prop where
 len0:0<r.places.length
 len9:r.places.length≤9
 cnt6:r.counts.length≤6
 wrong:0≤r.wrong∧r.wrong≤6
 off:0≤r.off∧r.off≤9
 place:∀p∈r.places,0≤p∧p≤2
 cnt:∀c∈r.counts,0≤c.many∧c.many≤r.places.length∧0≤c.num∧c.num≤9
theorem bS{n lo hi:Int}:hC n lo hi=true ↔ lo≤n∧n≤hi:=by simp[hC]
theorem AD{r:dH}:aZ r=0 ↔ mM r:=by
 unfold aZ;constructor
 ·intro h;split at h
  ·cases h
  ·split at h
   ·cases h
   ·rename_i h1 h2;simp only[bSF]at h1 h2;obtain⟨a,b,c,d,e⟩:=h2;simp only[Bool.not_eq_false,bNQ,tY,sU,bMS,bS]at b c d e;exact⟨Yd,Yd,Yd,b,c,d,fun x hx=>⟨(e x hx).1.1,(e x hx).1.2,(e x hx).2.1,(e x hx).2.2⟩⟩
 ·intro h;rw[bNA (by have:=h.len9;have:=h.cnt6;omega),bNA]
  simp only[bSF,Bool.not_eq_false,bNQ,tY,sU,bMS,bS];exact⟨by have:=h.len0;omega,h.wrong,h.off,h.place,fun x hx=>⟨⟨(h.cnt x hx).1,(h.cnt x hx).2.1⟩,(h.cnt x hx).2.2⟩⟩
def oR(r:dH)(t:List Int):Prop:=t.length=r.places.length∧∀x∈t,0≤x∧x≤1
def bML(r:dH)(t:List Int):Bool:=(t.length==r.places.length)&&t.all (fun x=>hC x 0 1)&&(t.zip r.places).all fun x=>x.2==2||x.1==x.2
theorem b6{α β:Type}{p:α→Bool}:∀{l:List α} {m:List β},l.length=m.length→((l.zip m).all fun x=>p x.1)=l.all p
 | [],[],_=>rfl
 |a::l,b::m,h=>by simp only[bQO,bQU];rw[b6 Yaw]
theorem bII(r:dH)(t:List Int):bML r t=eJ r t:=by
 unfold bML eJ qZ;by_cases h:t.length=r.places.length
 ·rw[←b6 h];simp only[h,beq_self_eq_true,bQZ];rw[bPT];simp only[bMS,bNQ];constructor
  ·rintro⟨h1,h2⟩ x hx;exact⟨h1 x hx,h2 x hx⟩
  ·intro h;exact⟨fun x hx=>(h x hx).1,fun x hx=>(h x hx).2⟩
 ·have:(t.length==r.places.length)=false:=Yaw
  simp[this]
theorem aAO{r:dH}{t:List Int}(h:eJ r t=true):oR r t:=by
 rw[←bII]at h;simp only[bML,bMS,bRL,bNQ,bS]at h;exact⟨h.1.1,h.1.2⟩
theorem aAW{r:dH}{t:List Int}{c:xW}(ht:oR r t)(h0:0≤c.many)(h1:c.many≤r.places.length):
  I2 t c=if c.back then dK t 0 t.length-dK t 0 (t.length-c.many.toNat)else dK t 0 c.many.toNat:=by
 unfold I2;split
 ·have h:=U2 t 0 (t.length-c.many.toNat) c.many.toNat;rw[show t.length-c.many.toNat+c.many.toNat=t.length by rw[ht.1];omega,bQB]at h
  omega
 ·rfl
theorem CA{r:dH}{t:List Int}{c:xW}(ht:oR r t)(_h0:0≤c.many)(h1:c.many≤r.places.length)(h9:r.places.length≤9):0≤I2 t c∧I2 t c≤9:=by
 unfold I2;split
 ·have:=eZ ht.2 (t.length-c.many.toNat) c.many.toNat;omega
 ·have:=eZ ht.2 0 c.many.toNat;omega
theorem UL{r:dH}{t:List Int}{c:xW}(hr:mM r)(ht:oR r t)(hc:c∈r.counts):0≤gV t c∧gV t c≤9:=by
 obtain⟨a,b,d,e⟩:=hr.cnt c hc;have:=CA ht a b hr.len9;unfold gV;omega

def VL(p:Int)(ps pre:List Int)(k:Nat):List (List Int):=(List.range k).flatMap fun(m:Nat)=>if p=2∨p=(m:Int)then(cB ps).map (fun t=>gL (pre++(m:Int)::t))else []
theorem aUP{p:Int}{ps pre:List Int}:VL p ps pre 0=[]:=rfl
theorem bIO{p:Int}{ps pre:List Int}{k:Nat}(h:¬(p=2∨p=(k:Int))):VL p ps pre (k+1)=VL p ps pre k:=by
 unfold VL;rw[bOG,bOC];simp[h]
theorem aDO{p:Int}{ps pre:List Int}{k:Nat}(h:p=2∨p=(k:Int)):VL p ps pre (k+1)=VL p ps pre k++(cB ps).map (fun t=>gL (pre++[(k:Int)]++t)):=by
 unfold VL;rw[bOG,bOC];simp[h]
theorem aEF{p:Int}{ps pre:List Int}:VL p ps pre 2=(cB (p::ps)).map (fun t=>gL (pre++t)):=by
 by_cases h2:p=2
 ·simp[VL,cB,List.range,List.range.loop,bSC,h2]
 ·by_cases h0:p=0
  ·simp[VL,cB,List.range,List.range.loop,bSC,h0]
  ·by_cases h1:p=1
   ·simp[VL,cB,List.range,List.range.loop,bSC,h1]
   ·have:¬(1:Int)=p:=fun e=>h1 e.symm
    simp[VL,cB,List.range,List.range.loop,h2,h0,h1]
theorem aVB{p:Int}{ps pre:List Int}{k:Nat}(hk:k<2):∃r,VL p ps pre 2=VL p ps pre (k+1)++r:=by
 rcases(by omega:k=0∨k=1)with rfl|rfl
 ·refine⟨if p=2∨p=1 then(cB ps).map (fun t=>gL (pre++1::t))else [],?_⟩;simp[VL,List.range,List.range.loop]
 ·exact⟨[],Yf⟩
theorem RJ{pre c:List Int}{n:Nat}(_h9:c.length=9)(hp:c.take n=pre)(hn:pre.length=n)(hz:c.drop n=List.replicate (9-n) 0):c=gL pre:=by
 rw[←bPJ n c,hp,hz];unfold gL;rw[hn]
theorem aBD{pre c:List Int}{i n:Nat}{k:Int}(h9:c.length=9)(hi:i<n)(hn:n≤9)(hp:c.take i=pre)(hz:c.drop n=List.replicate (9-n) 0):
  (c.set i k).length=9∧(c.set i k).take (i+1)=pre++[k]∧(c.set i k).drop n=List.replicate (9-n) 0:=by
 refine⟨by simpa using h9,?_,?_⟩
 ·rw[List.take_succ_eq_append_getElem Yaq,List.take_set_of_le (bNJ _),hp];simp
 ·rw[List.drop_set_of_lt hi,hz]
theorem sS(l:List Int):(cB l).length≤2^l.length:=by
 induction l with
 |nil=>simp[cB]
 |cons p ps ih=>
  simp only[cB,LE,bMX,Nat.pow_succ];have:∀(c:Prop) [Decidable c] (f:List Int→List Int),(if c then(cB ps).map f else []).length≤(cB ps).length:=by intro c _ f;split<;>simp
  have h1:=this (p=2∨p=0) (0:: ·);have h2:=this (p=2∨p=1) (1:: ·);omega
theorem qF{l t:List Int}(h:t∈cB l):t.length=l.length∧∀x∈t,0≤x∧x≤1:=by
 induction l generalizing t with
 |nil=>simp[cB]at h;subst h;simp
 |cons p ps ih=>
  simp only[cB,bNH]at h;rcases h with h|h
  ·split at h
   ·obtain⟨t',ht',rfl⟩:=bMR.1 h;refine⟨by simp[(ih ht').1],fun x hx=>?_⟩;rcases LT.1 hx with rfl|hx
    ·omega
    ·exact(ih ht').2 x hx
   ·simp at h
  ·split at h
   ·obtain⟨t',ht',rfl⟩:=bMR.1 h;refine⟨by simp[(ih ht').1],fun x hx=>?_⟩;rcases LT.1 hx with rfl|hx
    ·omega
    ·exact(ih ht').2 x hx
   ·simp at h
theorem R7{places x:List Int}{pre r:List (List Int)}(h:(cB places).map gL=pre++x::r):∃t,(cB places)[pre.length]?= some t∧x=gL t∧t∈cB places∧(cB places).take (pre++[x]).length=(cB places).take pre.length++[t]:=by
 have h1:((cB places).map gL)[pre.length]?= some x:=by rw[h];simp
 rw[bOD,bQD]at h1;obtain⟨t,ht,hx⟩:=h1;refine⟨t,ht,hx.symm,n5 ht,?_⟩;rw[LE,bPB,bMZ,ht];rfl
def eM(r:dH)(fine:Bool):Int:=if aZ r≠0 then aZ r else if fine=false then 2 else if truths r=[]then 11 else 0
def vG(r:dH)(i j:Int):Bool:=hC i 0 (r.places.length-1)&&hC j i (r.places.length-1)

def aPX(ts:List (List Int))(i j:Nat):Int:=tG (ts.map fun t=>qX t i j)
def aSR(ts:List (List Int))(i j:Nat):Int:=rK (ts.map fun t=>qX t i j)
theorem DT(l:List Int)(a:Int)(h:l[0]?= some a):l.foldl min a=tG l:=by
 cases l with
 |nil=>simp at h
 |cons x l=>simp at h;subst h;simp[tG]
theorem EL(l:List Int)(a:Int)(h:l[0]?= some a):l.foldl max a=rK l:=by
 cases l with
 |nil=>simp at h
 |cons x l=>simp at h;subst h;simp[rK]
theorem PO{t:List Int}(hb:∀x∈t,0≤x∧x≤1)(i j:Nat)(hj:j<9):0≤qX t i j∧qX t i j≤9:=by
 unfold qX;have:=eZ hb i (j+1-i);omega
def vd(ts:List (List Int))(q:List Int→Bool):Int:=
 match ts with
 | []=>1
 |t0::_=>if(ts.all fun t=>q t==q t0)=true then(if q t0=true then 1 else 2)else 3
theorem aWO{ts:List (List Int)}{q:List Int→Bool}{t0:List Int}(h0:ts[0]?= some t0){j:Nat}(hj:ts.length≤j)(h:(ts.take j).all (fun t=>q t==q t0)=true):vd ts q=if q t0=true then 1 else 2:=by
 rw[bNV hj]at h;cases ts with
 |nil=>simp at h0
 |cons x l=>simp at h0;subst h0;simp only[vd];rw[bNK h]
theorem bFD{ts:List (List Int)}{q:List Int→Bool}{t0 t:List Int}(h0:ts[0]?= some t0){j:Nat}(hj:ts[j]?= some t)(h:(!(q t==q t0))=true):vd ts q=3:=by
 cases ts with
 |nil=>simp at h0
 |cons x l=>
  simp only[List.getElem?_cons_zero,bRG]at h0;subst h0;simp only[vd]
  rw[bNA];intro ha;have:=bNQ.1 ha t (n5 hj);simp[this]at h
def aSP(i:Nat)(t:List Int):Bool:=decide (0<t.getD i 0)
def uI(r:dH)(i:Nat)(t:List Int):Bool:=match r.counts[i]? with|some c=>decide (gV t c=0)|none=>false
theorem aNL{t:List Int}{i:Nat}(h:i<9)(h9:t.length≤9):(gL t)[i]?= some (t.getD i 0):=by
 unfold gL;by_cases hi:i<t.length
 ·rw[bPH hi,bOP,bMU hi];rfl
 ·rw[bPY Yd,List.getElem?_replicate,bNK Yd,bOP,bPU Yd];rfl
theorem P3{r:dH}{t:List Int}(h:t∈truths r):oR r t:=qF (bQF.1 h).1


def mA(r:dH)(o:Option Int)(t:List Int):Option Int:=if eW r t=true then some (match o with|none=>(rO r t:Int)|some m=>min m (rO r t))else o
def oX(r:dH)(us:List (List Int)):Option Int:=us.foldl (mA r) none
theorem A6(r:dH)(us:List (List Int))(t:List Int):oX r (us++[t])=mA r (oX r us) t:=by simp[oX]
theorem MZ{r:dH}{o:Option Int}{t:List Int}{w:Int}(h:∃m,o=some m∧m≤w):∃m,mA r o t=some m∧m≤w:=by
 obtain⟨m,rfl,hm⟩:=h;unfold mA;split
 ·exact⟨_,rfl,Yn⟩
 ·exact⟨m,rfl,hm⟩
theorem j0{r:dH}{w:Int}:∀(us:List (List Int)) (o:Option Int),(∃m,o=some m∧m≤w)→∃m,us.foldl (mA r) o=some m∧m≤w
 | [],o,h=>h
 |t::us,o,h=>by rw[bNX];exact j0 us _ (MZ h)
theorem V0{r:dH}{t:List Int}(he:eW r t=true):∀(us:List (List Int)) (o:Option Int),t∈us→∃m,us.foldl (mA r) o=some m∧m≤(rO r t:Int)
 |u::us,o,h=>by
  rw[bNX];rcases LT.1 h with rfl|h
  ·refine j0 us _ ?_;unfold mA;rw[bNK he];refine⟨_,rfl,?_⟩;split<;>omega
  ·exact V0 he us _ h
theorem JD{r:dH}{us:List (List Int)}{t:List Int}(h:t∈us):oX r (us++[t])=oX r us:=by
 rw[A6];unfold mA;split
 ·rename_i he;obtain⟨m,hm,hle⟩:=V0 he us none h;have:oX r us=some m:=hm;rw[this];simp only;rw[Int.min_eq_left hle]
 ·rfl
theorem aPU{t u:List Int}(hl:t.length=u.length)(h:gL t=gL u):t=u:=by
 have:=bNB (List.take t.length) h;unfold gL at this;rw[bRZ,hl,bRZ]at this;exact this
def H9(r:dH)(pre:List (List Int))(g:Option Int×List Int):Prop:=g.1=oX r ((cB r.places).take pre.length)∧g.2.length=9∧∀u,((cB r.places).take pre.length).getLast?= some u→g.2=gL u
theorem aAP{r:dH}{pre:List (List Int)}{o:Option Int}{last t:List Int}(h:H9 r pre (o,last))(ht:t∈cB r.places)(htake:(cB r.places).take (pre++[gL t]).length=(cB r.places).take pre.length++[t])(hc:(o.isSome&&(gL t==last))=true):H9 r (pre++[gL t]) (o,last):=by
 obtain⟨h1,h2,h3⟩:=h;simp only[bMS,bRL]at hc;obtain⟨ho,hl⟩:=hc;cases hg:((cB r.places).take pre.length).getLast? with
 |none=>
  rw[List.getLast?_eq_none_iff]at hg;rw[hg]at h1;simp only at h1;rw[h1]at ho;cases ho
 |some u=>
  have hu:=List.mem_of_getLast? hg;have h4:=h3 u hg;simp only at h4;have hut:t=u:=aPU (by rw[(qF ht).1,(qF (bRT hu)).1]) (by rw[hl,h4]);subst hut;refine⟨?_,h2,fun v hv=>?_⟩
  ·rw[htake,JD hu];exact h1
  ·rw[htake,List.getLast?_concat]at hv;cases hv;exact h4
theorem aHY{r:dH}{pre:List (List Int)}{o:Option Int}{last t:List Int}(h:H9 r pre (o,last))(h9:(gL t).length=9)(htake:(cB r.places).take (pre++[gL t]).length=(cB r.places).take pre.length++[t])
  (hc:(eW r t&&(!o.isSome||decide ((if eW r t=true then(rO r t:Int)else 0)<o.getD 0)))=true):H9 r (pre++[gL t]) (some (if eW r t=true then(rO r t:Int)else 0),gL t):=by
 obtain⟨h1,h2,h3⟩:=h;simp only[bMS]at hc;obtain⟨he,hc⟩:=hc;refine⟨?_,h9,fun v hv=>?_⟩
 ·simp only at h1;rw[htake,A6,←h1];simp only[mA,he,bPG]at hc ⊢
  cases o with
  |none=>rfl
  |some m=>
   simp only[Option.isSome_some,bSD,Bool.false_or,GT,bQL]at hc;simp only;rw[Int.min_eq_right Yd]
 ·rw[htake,List.getLast?_concat]at hv;cases hv;rfl
theorem aQL{r:dH}{pre:List (List Int)}{o:Option Int}{last t:List Int}(h:H9 r pre (o,last))(h9:(gL t).length=9)(htake:(cB r.places).take (pre++[gL t]).length=(cB r.places).take pre.length++[t])
  (hc:(eW r t&&(!o.isSome||decide ((if eW r t=true then(rO r t:Int)else 0)<o.getD 0)))=false):H9 r (pre++[gL t]) (o,gL t):=by
 obtain⟨h1,h2,h3⟩:=h;refine⟨?_,h9,fun v hv=>?_⟩
 ·simp only at h1;rw[htake,A6,←h1];unfold mA;split
  ·rename_i he;simp only[he,bQZ,bPG]at hc;cases o with
   |none=>simp at hc
   |some m=>
    simp only[Option.isSome_some,bSD,Bool.false_or,bMY,bQL]at hc;simp only;rw[Int.min_eq_left Yd]
  ·rfl
 ·rw[htake,List.getLast?_concat]at hv;cases hv;rfl
def xO(r:dH):Int:=if aZ r≠0 then 0 else(oX r (cB r.places)).getD 0
def AA(r:dH):Int:=if aZ r≠0 then aZ r else if(oX r (cB r.places)).isSome=true then 0 else 10
theorem WO{r:dH}{o:Option Int}(ho:o=oX r (cB r.places))(hf:aZ r=0)(h:(!o.isSome)=true):xO r=0∧AA r=10:=by
 have hn:o=none:=Yaw
 rw[xO,AA,←ho,hn,hf];exact⟨rfl,rfl⟩
theorem VT{r:dH}{o:Option Int}(ho:o=oX r (cB r.places))(hf:aZ r=0)(h:(!o.isSome)=false):xO r=o.getD 0∧AA r=0:=by
 have hn:o.isSome=true:=Yaw
 rw[xO,AA,←ho,hf,hn];exact⟨rfl,rfl⟩

def I7(p:Int)(t:List Int)(m:Nat):List (List Int):=(List.range m).flatMap fun(c:Nat)=>if p=2∨p=(c:Int)then [t++[(c:Int)]]else []
def kE(p:Int)(out:List (List Int)):List (List Int):=out.flatMap fun t=>I7 p t 2
theorem UO{p:Int}{t:List Int}{m:Nat}(h:p=2∨p=(m:Int)):I7 p t (m+1)=I7 p t m++[t++[(m:Int)]]:=by
 unfold I7;rw[bOG,bOC];simp[h]
theorem aBW{p:Int}{t:List Int}{m:Nat}(h:¬(p=2∨p=(m:Int))):I7 p t (m+1)=I7 p t m:=by
 unfold I7;rw[bOG,bOC];simp[h]
theorem aBI{p:Int}{out:List (List Int)}{k:Nat}{t:List Int}(h:out[k]?= some t):kE p (out.take (k+1))=kE p (out.take k)++I7 p t 2:=by
 unfold kE;rw[bMZ,h,bNU,bOC];simp
theorem AU:∀(l:List Int) (out:List (List Int)),l.foldl (fun o p=>kE p o) out=out.flatMap fun t=>(cB l).map (t++ ·)
 | [],out=>by simp[cB]
 |p::ps,out=>by
  rw[bNX,AU ps];unfold kE;rw[List.flatMap_assoc];congr 1;funext t;have I:∀c:Int,(cB ps).map ((t++[c])++ ·)=((cB ps).map (c:: ·)).map (t++ ·):=fun c=>by rw[bRM];congr 1;funext u;simp
  by_cases h2:p=2
  ·simp[I7,cB,h2,List.range,List.range.loop,bSC]
  ·by_cases h0:p=0
   ·simp[I7,cB,h0,List.range,List.range.loop,bSC]
   ·by_cases h1:p=1
    ·simp[I7,cB,h1,List.range,List.range.loop,bSC]
    ·simp[I7,cB,h2,h0,h1,List.range,List.range.loop]
theorem X7(l:List Int):l.foldl (fun o p=>kE p o) [[]]=cB l:=by rw[AU];simp
end Go.Fs.C1
namespace Go.Fs
open C1
def RC:Rd xW:=fun _ c cs=>cs=[.bool c.back,qI c.many,qI c.num]
theorem RC.up:RC.Up:=fun _ _ _ h=>h
def iV(n:Int):Γ:=qI n
def cV(c:xW):Γ:=.agg #[.bool c.back,qI c.many,qI c.num]
def oG(D:aC)(v:Γ)(r:dH):Prop:=∃pv cv,v=.agg #[pv,cv,qI r.wrong,qI r.off]∧Sl D RI 1 pv r.places∧Sl D RC 3 cv r.counts
theorem oG.up{D D':aC}{v:Γ}{r:dH}(h:oG D v r)(hl:Le D D'):oG D' v r:=by
 obtain⟨pv,cv,hv,hp,hc⟩:=h;exact⟨pv,cv,hv,hp.up RI.up hl,hc.up RC.up hl⟩
def idxOf{α:Type}(p:α→Bool)(xs:List α):Int:=if xs.any p then(xs.findIdx p:Int)else -1
def RT:Rd (List Int):=fun _ t cs=>cs=ints (gL t)
theorem RT.up:RT.Up:=fun _ _ _ h=>h
def aPB(D:aC)(v:Γ)(r:dH):Prop:=∃b pv cv tv,v=qP b∧At D b 0 [pv,cv,qI r.wrong,qI r.off,tv]∧Sl D RI 1 pv r.places∧Sl D RC 3 cv r.counts∧Sl D RT 9 tv (truths r)
def W4(e:Nat)(r:dH)(pre:List (List Int))(g:Γ×aD):Prop:=bI e 9 g.1 (((cB r.places).take pre.length).filter (fits r)).length ((((cB r.places).take pre.length).filter (fits r)).flatMap fun t=>ints (gL t)) g.2
theorem SL{l:List (List Int)}(h:∀t∈l,t.length≤9):(l.flatMap fun t=>ints (gL t)).length=l.length*9:=by
 induction l with
 |nil=>rfl
 |cons t l ih=>
  rw[bNW,LE,ih fun t ht=>h t (bMT _ ht),bMX,Fs.aP,iI (h t bMV),bPR];omega
theorem GM{l:List (List Int)}(h:∀t∈l,t.length≤9){i:Nat}{t:List Int}(hi:l[i]?= some t):((l.flatMap fun t=>ints (gL t)).drop (i*9)).take 9=ints (gL t):=by
 induction l generalizing i with
 |nil=>simp at hi
 |cons u l ih=>
  have hu:(ints (gL u)).length=9:=by rw[Fs.aP,iI (h u bMV)]
  rw[bNW];cases i with
  |zero=>
   obtain rfl:u=t:=Yau
   rw[bRB,bQQ,bOK Yd,bNV Yd]
  |succ i=>
   rw[bRA,bOL Yd,bOA,hu,show(i+1)*9-9=i*9 by omega];exact ih (fun t ht=>h t (bMT _ ht)) Yau
theorem kZ.truths{D:aC}{v:Γ}{n:Nat}{l:List (List Int)}(hF:kZ D v n (l.flatMap fun t=>Fs.ints (gL t)))(hn:l.length=n)(hb:n≤9223372036854775807)(h:∀t∈l,t.length≤9):Sl D RT 9 v l:=
 hF.sl hn hb fun i t hi=>⟨Fs.ints (gL t),rfl,by rw[Fs.aP,iI (h t (n5 hi))],GM h hi⟩
theorem aZN{e sz b:Nat}{cells:List Γ}(h:cells.length=sz):bI e sz (qS b 1 1) 1 cells [(b,.cells cells.toArray e (0,0))]:=
 bNC ⟨b,1,[],rfl,bNJ _,Yf,Yd,Yaq⟩
theorem kZ.at{D:aC}{b n cap:Nat}{cells:List Γ}(h:kZ D (qS b n cap) n cells)(hn:0<n):At D b 0 cells:=by
 rcases h with⟨a,hv,h0,_⟩|⟨b',cap',hv,_,hA⟩
 ·omega
 ·cases hv;exact hA
variable{P:Program}{X:Cx}{γb:Type}[Membership Nat γb]{bad:γb}{all:Array Oper}{K:Act→Δ→Prop}{Q:Exit→Act→Δ→Prop}
variable{σ:bU}{μ:aD}{Ds:List aC}{os:List (Bool×Nat)}{fl:Bool}{ix:Nat}
variable{d:Nat}{x y z:Operand}{u v:Γ}{ty:Θ}{pos:String}{aft:Array Edge}{g:Option (Nat×Bool)}
theorem eO{e:Θ}{q:IntKind}(hu:P.underlying e=some (.int q)){xs:Array Γ}{off:Nat}{v:Γ}(hx:xs[off]?= some v)(w:Δ):(part e xs off).run P w=.ok v w:=
 run_part_plain w (by simp[Program.plainKey,hu]) hx
theorem nL(dp:Nat){e:Θ}(hu:P.underlying e=some (.int .i64))(l m:List Int)(w:Δ):∀(is:List Nat),(∀i∈is,i<l.length∧i<m.length)→
  (Op.eqItems (dp+1) e 1 (ints l).toArray (ints m).toArray is).run P w=.ok (is.all fun i=>l[i]? ==m[i]?) w
 | [],_=>by simp[Op.eqItems]
 |i::is,h=>by
  obtain⟨h1,h2⟩:=h i bMV;have g1:(ints l).toArray[i*1]?= some (qI l[i]):=by rw[bPK];simpa using cO (bMU h1)
  have g2:(ints m).toArray[i*1]?= some (qI m[i]):=by rw[bPK];simpa using cO (bMU h2)
  simp only[Op.eqItems,Ω,eO hu g1,eO hu g2,run_equalIn_int w dp e .i64 .i64 _ _ hu,Ξ,bQU,bMU h1,bMU h2];by_cases he:l[i]=m[i]
  ·simp[he,nL dp hu l m w is (fun j hj=>h j (bMT _ hj))]
  ·simp[he]
theorem tR{l m:List Int}{n:Nat}(hl:l.length=n)(hm:m.length=n):((List.range n).all fun i=>l[i]? ==m[i]?)=(l==m):=by
 rw[bPT];simp only[bNQ,bOQ,bRL];constructor
 ·intro h;apply List.ext_getElem?;intro i;by_cases hi:i<n
  ·exact h i hi
  ·rw[bPU Yd,bPU Yd]
 ·rintro rfl i _;rfl
theorem aBF{t e t':Θ}{n:Nat}{l m:List Int}(ho:all[ix]?= some ⟨some d,.binOp .eql t x y t',ty,pos,aft,g⟩)(hgt:P.eqGuardType P.depth t=false)(ht:P.underlying t=some (.array n e))(he:P.underlying e=some (.int .i64))(hc:P.cellsOf e=1)
  (hl:l.length=n) (hm:m.length=n) (hx:ev σ x=some (.agg (ints l).toArray)) (hy:ev σ y=some (.agg (ints m).toArray)) (hN:Nat.blt d X.N=true) (hg:cQ all σ g)
  (kk:WL P X bad all K Q os ((d,.bool (l==m))::σ) μ Ds):WL P X bad all K Q ((fl,ix)::os) σ μ Ds:=
 M6 ho (fun w=>by
  have hgd:(eqGuard .eql t x y (.agg (ints l).toArray) (.agg (ints m).toArray)).run P w=.ok () w:=by
   simp only[eqGuard,program];simp[Sem.run,hgt,go_sem]
  have heq:(Op.equal t (.agg (ints l).toArray) (.agg (ints m).toArray)).run P w=.ok (l==m) w:=by
   obtain⟨i,hi⟩:=info_of_underlying he;have h:=run_equalIn_array (P:=P) w 9999 (ints l).toArray (ints m).toArray ht hi;rw[hc,nL 9998 he l m w (List.range n) fun j hj=>Xbr,tR hl hm]at h
   exact h
  rw[Ω,hgd];show((do Pure.pure (Value.bool (←Op.equal t (.agg (ints l).toArray) (.agg (ints m).toArray)))):Sem Γ).run P w=_;rw[Ω,heq];rfl) hx hy hN hg kk

def K2(P:Program)(k:Θ):Prop:=P.underlying k=some (.struct (P.fieldsOf k))∧P.stoodInHeld k=false∧
 (P.fieldsOf k).toList.map (fun f=>(f.name== "_",f.offset,P.underlying f.type))=[(false,0,some (.int .i64)),(false,1,some (.int .i64))]
def mH(k:Int×Int):Γ:=.agg #[qI k.1,qI k.2]
theorem K2.fields{k:Θ}(h:K2 P k):∃f0 f1,P.underlying k=some (.struct #[f0,f1])∧P.fieldsOf k=#[f0,f1]∧f0.name≠ "_" ∧f1.name≠ "_" ∧f0.offset=0∧f1.offset=1∧P.underlying f0.type=some (.int .i64)∧P.underlying f1.type=some (.int .i64):=by
 obtain⟨h1,h2,h3⟩:=h;generalize hl:(P.fieldsOf k).toList=fs at h3;have h0:=bNB List.length h3;simp only[bOB,bMX,bOY]at h0;rcases fs with _|⟨f0,_|⟨f1,_|⟨f2,fs⟩⟩⟩<;>simp only[bMX,bOY]at h0<;>try omega
 have he:P.fieldsOf k=#[f0,f1]:=by rw[←Array.toArray_toList (xs:=P.fieldsOf k),hl]
 simp only[bNT,bRF,bPN,bQS,and_true,beq_eq_false_iff_ne]at h3;exact⟨f0,f1,by rw[h1,he],he,h3.1.1,h3.2.1,h3.1.2.1,h3.2.2.1,h3.1.2.2,h3.2.2.2⟩
theorem j9{k:Θ}(h:K2 P k)(a b:Int×Int)(w:Δ):(Op.equal k (mH a) (mH b)).run P w=.ok (a==b) w:=by
 obtain⟨I,a2⟩:=a;obtain⟨O,b2⟩:=b;obtain⟨f0,f1,hu,hf,R,U,V,Y,t0,t1⟩:=h.fields;have he:=run_equalIn_struct (P:=P) w 9999 k #[qI I,qI a2] #[qI O,qI b2] h.1 h.2.1;show(Op.equalIn (9999+1) k (.agg #[qI I,qI a2]) (.agg #[qI O,qI b2])).run P w=_;rw[he,hf];have p0:∀c1 c2:Int,(part f0.type #[qI c1,qI c2] f0.offset).run P w=.ok (qI c1) w:=fun c1 c2=>eO t0 (by rw[V];rfl) w
 have p1:∀c1 c2:Int,(part f1.type #[qI c1,qI c2] f1.offset).run P w=.ok (qI c2) w:=fun c1 c2=>eO t1 (by rw[Y];rfl) w
 have e0:=run_equalIn_int w 9998 f0.type .i64 .i64 I O t0;have Z:=run_equalIn_int w 9998 f1.type .i64 .i64 a2 b2 t1;have s1:(Op.eqFields 9999 #[qI I,qI a2] #[qI O,qI b2] [f1]).run P w=.ok (a2==b2) w:=by
  simp only[Op.eqFields,U,ne_eq,bRV,bPG,Ω,p1,Ξ];rw[Z];simp only[Ξ];cases a2==b2<;>rfl
 show(Op.eqFields 9999 #[qI I,qI a2] #[qI O,qI b2] (f0::[f1])).run P w=_;rw[Op.eqFields,bNK R];simp only[Ω,p0,Ξ];rw[e0];simp only[Ξ];by_cases hab:I=O
 ·subst hab;simp only[beq_self_eq_true,bSD,bOS,bPL];rw[s1];have:(a2==b2)=((I,a2)==(I,b2)):=by rw[bPT];simp
  rw[this]
 ·have hb:(I==O)=false:=by simpa using hab
  simp only[hb,bSJ,bPG,ε];simp[hab]
theorem aVO{t t':Θ}{a b:Int×Int}(ho:all[ix]?= some ⟨some d,.binOp .eql t x y t',ty,pos,aft,g⟩)(hgt:P.eqGuardType P.depth t=false)(ht:K2 P t)(hx:ev σ x=some (mH a))(hy:ev σ y=some (mH b))(hN:Nat.blt d X.N=true)(hg:cQ all σ g)
  (kk:WL P X bad all K Q os ((d,.bool (a==b))::σ) μ Ds):WL P X bad all K Q ((fl,ix)::os) σ μ Ds:=
 M6 ho (fun w=>by
  have hgd:(eqGuard .eql t x y (mH a) (mH b)).run P w=.ok () w:=by
   simp only[eqGuard,mH,program];simp[Sem.run,hgt,go_sem]
  rw[Ω,hgd];show((do Pure.pure (Value.bool (←Op.equal t (mH a) (mH b)))):Sem Γ).run P w=_;rw[Ω,j9 ht];rfl) hx hy hN hg kk
theorem oU{k k':IntKind}{s t:Θ}{u':TypeDesc}{n:Int}(ho:all[ix]?= some ⟨some d,.convert s t x,ty,pos,aft,g⟩)(hs:P.underlying s=some u')(ht:P.underlying t=some (.int k'))(hx:ev σ x=some (.int k n))(hn:wD k' n)(hN:Nat.blt d X.N=true)(hg:cQ all σ g)
  (kk:WL P X bad all K Q os ((d,.int k' n)::σ) μ Ds):WL P X bad all K Q ((fl,ix)::os) σ μ Ds:=
 aGR ho (fun w=>by
  simp only[Go.convert,Ω,TU.of hs w,TU.of ht w,Ξ,Conv.intToInt,sE hn];rfl) hx hN hg kk
theorem bI.shape{e:Θ}{sz n:Nat}{cells:List Γ}{ν:aD}(h:bI e sz v n cells ν):∃a cap,v=.slice a n cap:=by
 rcases h with⟨a,hv,hn,_,_⟩|⟨b,cap,junk,hv,_⟩
 ·exact⟨a,0,by rw[hv,hn]⟩
 ·exact⟨_,cap,hv⟩
theorem Sl.shape{α:Type}{R:Rd α}{D:aC}{sz:Nat}{xs:List α}(h:Sl D R sz v xs):∃a cap,v=.slice a xs.length cap:=by
 obtain⟨a,cap,hv,_⟩:=h;exact⟨a,cap,hv⟩
theorem U7{t e:Θ}{sz n:Nat}{parts:Array (Nat×Operand)}{us:List (Nat×Γ)}{rs:List Γ}{z0:Γ}(ho:all[ix]?= some ⟨some d,.buildSlice t n parts,ty,pos,aft,g⟩)(ht:P.underlying t=some (.slice e))(hs:TS P e sz)(hz:TZ P e z0)(_hz1:Nat.beq z0.cells.size sz=true)
  (hu:ES σ parts.toList=some us) (hn:us.length=n) (hnz:Nat.ble (n*sz) 4096=true) (hf:PG sz 0 us rs) (hN:Nat.blt d X.N=true) (hg:cQ all σ g)
  (kk:∀b,bI e sz (qS b n n) n rs [(b,.cells rs.toArray e (0,0))]→WL P X bad all K Q os ((d,qS b n n)::σ) ((b,.cells rs.toArray e (0,0))::μ) Ds):WL P X bad all K Q ((fl,ix)::os) σ μ Ds:=by
 refine fF ho rfl rfl hg fun a w hh=>?_
 obtain⟨h1,h2,h3,D,h4,h5,O⟩:=id hh;have hnz':n*sz≤4096:=bPE hnz;have hlen:rs.length=n*sz:=by rw[hf.len,hn]
 have I:(parts.map fun(i,x)=>(i,a.eval x)).toList=us:=by rw[←yD (fun _ _ hx=>hh.eval hx) hu];simp
 have hrun:(execOp a.eval ⟨some d,.buildSlice t n parts,ty,pos,aft,g⟩).run P w=.ok (.value (.slice (some ⟨w.heap.size,0,none⟩) n n)) {w with heap:=w.heap.push (.cells rs.toArray e (0,0))}:=by
  simp only[execOp,Instr.buildSlice,Ω,TU.of ht w,Ξ,hs w];rw[bNA Yd];simp only[pure_bind];have key:∀zc:Array Γ,Instr.fill (fun i=>some (i*sz,sz)) ((Array.range (n*sz)).map (zc[· %zc.size]!)) us=some rs.toArray:=by
   intro zc;have:=KO hf [] ((Array.range (n*sz)).map (zc[· %zc.size]!)).toList Yf (by simp[hlen]);rw[bOA,bOA]at this;exact this
  split
  ·simp only[Ω,ε,Ξ,I,key,kB]
  ·simp only[Ω,ε,Ξ,hz w,I,key,kB]
 rw[hrun];have hs':=h4.push (.cells rs.toArray e (0,0)) rfl;refine⟨fun _=>pU _ _ _,kk w.heap.size (bNC ⟨_,n,[],rfl,bNJ _,Yf,hlen,by simpa using hlen⟩) _ _ (Hl.put ⟨h1,h2,h3,D,hs',h5,O.step (fun _ p hp=>?_) (fun _=>G7 _ _) hs'.dom⟩ hN _)⟩;rcases LT.1 hp with rfl|hp
 ·exact bNC (bNJ _)
 ·exact bNI (bMR.2 ⟨p,hp,rfl⟩)
theorem CC{k:Θ}(h:K2 P k)(em:Bool)(a:Int×Int)(w:Δ):(Instr.checkKey em 10000 k (mH a)).run P w=.ok () w:=by
 obtain⟨f0,f1,hu,hf,I,O,R,U,t0,t1⟩:=h.fields;have p0:(part f0.type #[qI a.1,qI a.2] f0.offset).run P w=.ok (qI a.1) w:=eO t0 (by rw[R];rfl) w
 have p1:(part f1.type #[qI a.1,qI a.2] f1.offset).run P w=.ok (qI a.2) w:=eO t1 (by rw[U];rfl) w;have c0:(Instr.checkKey em (9998+1) f0.type (qI a.1)).run P w=.ok () w:=by
  rw[Instr.checkKey,Ω,TU.of t0 w];rfl
 have c1:(Instr.checkKey em (9998+1) f1.type (qI a.2)).run P w=.ok () w:=by
  rw[Instr.checkKey,Ω,TU.of t1 w];rfl
 show(Instr.checkKey em (9999+1) k (.agg #[qI a.1,qI a.2])).run P w=_;rw[Instr.checkKey,Ω,TU.of hu w];simp only[Ξ];rw[←Array.forIn_toList];simp only[List.forIn_cons,List.forIn_nil,I,O,ne_eq,bRV,bPG,Ω,p0,Ξ,ε];rw[c0];simp only[Ξ,ε,Ω,p1];rw[c1];simp
theorem zJ{t:Θ}(ho:all[ix]?= some ⟨some d,.makeMap t none,ty,pos,aft,g⟩)(hN:Nat.blt d X.N=true)(hg:cQ all σ g)
  (kk:∀b,WL P X bad all K Q os ((d,.map (some b))::σ) ((b,.map #[] 0)::μ) Ds):WL P X bad all K Q ((fl,ix)::os) σ μ Ds:=by
 refine fF ho rfl rfl hg fun a w hh=>?_
 obtain⟨h1,h2,h3,D,h4,h5,I⟩:=id hh;have:(execOp a.eval ⟨some d,.makeMap t none,ty,pos,aft,g⟩).run P w=.ok (.value (.map (some w.heap.size))) {w with heap:=w.heap.push (.map #[] 0)}:=rfl;rw[this];exact⟨fun _=>pU _ _ _,kk _ _ _ (Hl.put ⟨h1,h2,h3,D,h4.push _ (show cU (.map #[] 0)from bSM),h5,I.step (fun _ p hp=>Xbp) (fun _=>G7 _ _) (h4.push _ (show cU (.map #[] 0)from bSM)).dom⟩ hN _)⟩
theorem pM{w:Δ}{r:Nat}{es:Array MapEntry}{clock:Nat}(h:w.heap[r]?= some (.map es clock)):(getObj r).run P w=.ok (.map es clock) w:=by
 simp[getObj,Sem.run,h]

theorem bLI{t t':Θ}{m n:Int}{k:IntKind}(ho:all[ix]?= some ⟨some d,.binOp .shl t x y t',ty,pos,aft,g⟩)(hx:ev σ x=some (qI m))(hy:ev σ y=some (.int k n))(h0:0≤n)(h1:n<64)(hr:wD .i64 (m*2^n.toNat))(hN:Nat.blt d X.N=true)(hg:cQ all σ g)
  (kk:WL P X bad all K Q os ((d,qI (m*2^n.toNat))::σ) μ Ds):WL P X bad all K Q ((fl,ix)::os) σ μ Ds:=
 bW ho rfl rfl hN hg (fun ρ hρ w'=>by
  have hn:min n.toNat IntKind.i64.bits=n.toNat:=by have:IntKind.i64.bits=64:=rfl;omega
  have h0':¬n<0:=Yd
  have hs:(binOp .shl t (qI m) (.int k n)).run P w'=.ok (qI (m*2^n.toNat)) w':=by
   show(Op.shift .shl .i64 m k n).run P w'=_;unfold Op.shift;rw[bNA h0'];simp only[hn,sE hr,ε]
  have hg:∀w,(eqGuard .shl t x y (qI m) (.int k n)).run P w=.ok () w:=fun w=>rfl
  simp only[execOp,hρ x _ hx,hρ y _ hy,Ω,hg,Ξ,hs,ε]) kk

def bEY(X:Cx)(b:Nat)(post:aC→Γ→Obj→Prop):Ending→Δ→Prop:=fun e w'=>∃v D' o',e=.returned v∧iT X.h0 X.lo X.D0 X.mods [(b,o')] D' w'∧post D' v o'
theorem fJ{fn:Func}{b:Nat}{o':Obj}{post:aC→Γ→Obj→Prop}{e:Exit}(he:(match e with|.normal=>true|.ret=>true|_=>false)=true){rs:List ResultVar}{vs:List Γ}(hds:X.ds=[])(hr:fn.results=rs.toArray)(h:C5 P X σ μ rs vs)
  (hm:(b,o')∈μ) (hp:∀D,(∀D₁∈Ds,Le D₁ D)→post D (qO vs) o'):∀a w,Hl X σ μ Ds a w→bodyPost P fn (bEY X b post) e a w:=by
 intro a w hh;have hrun:=jG hh hr h;obtain⟨h1,h2,h3,D,h4,h5,I⟩:=hh;have:a.defers=[]∧∃v,(results fn a.tmps).run P w=.ok v w∧bEY X b post (.returned v) w:=⟨h3.trans hds,_,hrun,_,D,o',rfl,h4.sub (fun p hp=>by rw[bNL.1 hp];exact hm) Yf,hp D h5⟩
 cases e<;>first|exact this|cases he
theorem GC{t t':Θ}{n:Nat}(ho:all[ix]?= some ⟨some d,.binOp .shl t x y t',ty,pos,aft,g⟩)(hx:ev σ x=some (qI 1))(hy:ev σ y=some (qI (n:Int)))(h1:n<62)(hN:Nat.blt d X.N=true)(hg:cQ all σ g)
  (kk:WL P X bad all K Q os ((d,qI ((2^n:Nat):Int))::σ) μ Ds):WL P X bad all K Q ((fl,ix)::os) σ μ Ds:=by
 have h2:(2:Nat)^n<2^62:=Nat.pow_lt_pow_right Yd h1;have e:(1:Int)*2^(n:Int).toNat=((2^n:Nat):Int):=Yf
 have hr:wD .i64 ((1:Int)*2^(n:Int).toNat):=by
  rw[e];generalize (2:Nat)^n=q at h2;simp only[wD];omega
 refine bLI ho hx hy Yd Yd hr hN hg ?_;rw[e];exact kk
def IU(P:Program)(f:FuncId)(args:Array Γ)(D:aC)(post:aC→Γ→aD→Prop):Prop:=
 EF P f∧∀w,fA D w→Calls P f args w fun e w'=>∃v D' ν,e=.returned v∧iT (hd w) w.heap.size D [] ν D' w'∧post D' v ν
theorem qR{f:FuncId}{fn:Func}{c:Code}{args:List Γ}{D:aC}{post:aC→Γ→aD→Prop}(N:Nat)(hf:P.funcs[f]?= some fn)(hn:(fn.name== "runtime.NumGoroutine")=false)(hb:fn.body=some c)(hN:fn.ntmps=N)(hsz:Nat.ble args.length N=true)
  (h:∀h0:H0,WC P ⟨none,N,[],h0,h0.size,D,[],none⟩ (bodyPost P fn (qV ⟨none,N,[],h0,h0.size,D,[],none⟩ post)) c (jP 0 args) [] [D]):IU P f args.toArray D post:=by
 refine⟨EF.of hf hn hb,fun w hw=>?_⟩;subst hN;have hsz:=bPE hsz;refine(dR (r:=none) (n:=0)).1 ((callsIn_of_wp (R:=qV ⟨none,fn.ntmps,[],hd w,w.heap.size,D,[],none⟩ post) hf hb bSM (h (hd w) _ w ⟨?_,fun s v hs=>?_,rfl,D,⟨bNJ _,bNJ _,fun _ _ _=>rfl,fun _ _=>rfl,hw,Yi,bPA,Yi,fun e he=>bNS he⟩,fun D₁ h1=>?_,bSM⟩) rfl).mono ?_)
 ·simp;omega
 ·obtain⟨_,h2⟩:=gX args 0 s v hs;have hl:=(bMW.1 h2).1;simp only[bQH]at h2 hl;show(args.toArray++_)[s]?= some v;rw[bPS Yaz];simpa using h2
 ·simp only[bNL]at h1;subst h1;exact Le.refl _
 ·rintro e w' ⟨v,D',μ',rfl,hs,hp⟩;exact⟨v,D',μ',rfl,hs,hp⟩
theorem iT.afterO{h0:H0}{lo:Nat}{D0 D D':aC}{mods:List Nat}{μ ν:aD}{w w':Δ}(h:iT h0 lo D0 mods μ D w)(hs:iT (hd w) w.heap.size D [] ν D' w'):iT h0 lo D0 mods (ν++μ) D' w':=by
 have h1:=h.after (hs.sub (μ':=[]) Yi bPA);have hge:∀p∈ν,w.heap.size≤p.1:=fun p hp=>(hs.box p hp).2.2.resolve_right Yf
 refine⟨h1.hlo,h1.size,h1.old,h1.dold,h1.agr,fun p hp=>?_,?_,(fun p hp=>by rcases bNH.1 hp with hp|hp;exact hs.fz p hp;exact h.fz p hp),h1.env⟩
 ·rcases bNH.1 hp with hp|hp
  ·obtain⟨a,b,_⟩:=hs.box p hp;exact⟨a,b,bNI (bPD h.size (hge p hp))⟩
  ·exact h1.box p hp
 ·rw[bNG,bNF];refine⟨hs.nd,h.nd,fun a ha b hb=>?_⟩;obtain⟨p,hp,rfl⟩:=bMR.1 ha;obtain⟨q,hq,rfl⟩:=bMR.1 hb;have:=hge p hp;have:=bJ (h.box q hq).1;omega
theorem fX{c:Operand}{xs:Array Operand}{ats:Array Θ}{f:FuncId}{c1 c2:List Γ}{vs:List Γ}{post:aC→Γ→aD→Prop}(ho:all[ix]?= some ⟨some d,.call {callee:=.value c,args:=xs,argTypes:=ats},ty,pos,aft,g⟩)(hc:ev σ c=some (.func (.func f) c1.toArray c2.toArray))(hxs:q9 σ xs.toList=some vs)
  (hf:∀D,(∀D₁∈Ds,Le D₁ D)→IU P f (c1++vs++c2).toArray D post) (hN:Nat.blt d X.N=true) (hg:cQ all σ g)
  (kk:∀v D ν,(∀D₁∈Ds,Le D₁ D)→post D v ν→WL P X bad all K Q os ((d,v)::σ) (ν++μ) (D::Ds)):
  WL P X bad all K Q ((fl,ix)::os) σ μ Ds:=by
 refine fF ho rfl rfl hg fun a w hh=>?_
 obtain⟨h1,h2,h3,D,h4,h5,I⟩:=id hh;have hF:=hf D h5;rw[uY hF.1 (hh.eval hc) (kT (fun _ _ hx=>hh.eval hx) hxs)];refine⟨fun h=>Xad,dR.2 ((hF.2 w h4.agr).mono ?_)⟩;rintro e w' ⟨v,D',ν,rfl,hs,hpost⟩;have hle:=gO h4.agr hs;refine⟨fun _=>hs.keep bad,kk v D' ν (fun D₁ hD₁=>(h5 D₁ hD₁).trans hle) hpost _ _ ?_⟩;refine Hl.put ⟨h1,h2,h3,D',h4.afterO hs,fun D₁ hD₁=>?_,I.step (fun _ p hp=>?_) (fun _=>hs.low _) (h4.afterO hs).dom⟩ hN v
 ·rcases LT.1 hD₁ with rfl|hD₁
  ·exact Le.refl _
  ·exact(h5 D₁ hD₁).trans hle
 ·rcases bNH.1 hp with hp|hp
  ·exact bNC ((hs.box p hp).2.2.resolve_right Yf)
  ·exact bNI (bMR.2 ⟨p,hp,rfl⟩)
theorem eY{t e:Θ}{sz b o n cap:Nat}{k:IntKind}{i:Int}(ho:all[ix]?= some ⟨some d,.indexAddr t x y,ty,pos,aft,g⟩)(ht:P.underlying t=some (.slice e))(hs:TS P e sz)(hx:ev σ x=some (.slice (some ⟨b,o,none⟩) n cap))
  (hy:ev σ y=some (.int k i)) (h0:0≤i) (hi:i<n) (hN:Nat.blt d X.N=true) (hg:cQ all σ g)
  (kk:WL P X bad all K Q os ((d,.pointer (some ⟨b,o+i.toNat*sz,none⟩))::σ) μ Ds):WL P X bad all K Q ((fl,ix)::os) σ μ Ds:=
 bW ho rfl rfl hN hg (fun ρ hρ w'=>by
  simp only[execOp,hρ x _ hx,hρ y _ hy];unfold Instr.indexAt asIntOf;simp only[Ω,TU.of ht w',Ξ,hs w',ε,pure_bind,h0,hi,bRS,bPG,gY]) kk
theorem bI.some{e:Θ}{sz n:Nat}{cells:List Γ}{ν:aD}(h:bI e sz v n cells ν)(hn:0<n):∃b cap junk,v=qS b n cap∧n≤cap∧ν=[(b,.cells (cells++junk).toArray e (0,0))]∧cells.length=n*sz∧(cells++junk).length=cap*sz:=by
 rcases h with⟨_,_,h0,_⟩|h
 ·omega
 ·exact h
namespace C2
open C1 (hC bS tG rK)
structure Mk where
 frm:Int
 to:Int
 lo:Int
 hi:Int
deriving DecidableEq
structure aX where
 last:Int
 heights:List (Int×Int)
 step:Int
 levels:List Int
 marks:List Mk
def fQ(n:Int):Bool:=hC n 0 99
def jD(r:Int×Int):Bool:=decide (r.1≤r.2)&&fQ r.1&&fQ r.2
def fO(r:Int×Int):Int:=r.2-r.1+1
def DN(last n:Int):Bool:=hC n 0 last
def tA(last a b:Int):Bool:=DN last a&&DN last b&&decide (a≤b)
def wN(last:Int)(m:Mk):Bool:=tA last m.frm m.to&&jD (m.lo,m.hi)
def rI(hs:List (Int×Int)):Int:=hs.foldl (fun(m:Int) r=>min (m*fO r) 2001) 1
def lJ(step:Int)(p:Option Int)(n:Int):Bool:=match p with
 |none=>true
 |some q=>hC (n-q) (-step) step
def iN(step:Int):List (Int×Int)→Option Int→List (List Int)
 | [],_=>[[]]
 |r::rs,p=>(List.range (fO r).toNat).flatMap fun(k:Nat)=>if lJ step p (r.1+k)=true then(iN step rs (some (r.1+k))).map (fun l=>(r.1+(k:Int))::l)else []
def fD(t:aX):List (List Int):=iN t.step t.heights none
def aKJ(t:aX):Bool:=decide (t.last>9)||decide ((t.levels.length:Int)>6)||decide ((t.marks.length:Int)>5)
def bFF(t:aX):Bool:=decide (0≤t.last)&&decide ((t.heights.length:Int)=t.last+1)&&t.heights.all jD&&fQ t.step&&t.levels.all fQ&&t.marks.all (wN t.last)
def aZ(t:aX):Int:=if aKJ t=true then 3 else if bFF t=false then 1 else if 2000<rI t.heights then 3 else if fD t=[]then 9 else 0
def jQ(s:List Int)(a b:Int):Int:=rK ((s.drop a.toNat).take (b+1-a).toNat)
def iA(t:aX)(s:List Int):Bool:=t.marks.all fun m=>hC (jQ s m.frm m.to) m.lo m.hi
def xS(t:aX)(acc:List (List Int))(s:List Int):List (List Int):=if iA t s=false∨acc.getLast?= some s then acc else acc++[s]
def bK(t:aX):List (List Int):=(fD t).foldl (xS t) []
def oB(t:aX)(fine:Bool):Int:=if aZ t≠0 then aZ t else if fine=false then 2 else if bK t=[]then 11 else 0
def bLR(s:List Int)(i:Nat):Int:=s.getD i 0
def B1(t:aX)(i:Nat):Int×Int:=(tG ((bK t).map (bLR · i)),rK ((bK t).map (bLR · i)))
def B3(s:List Int)(level:Int):Int:=((s.takeWhile fun n=>decide (n≤level)).length:Int)
def aQY(t:aX)(level:Int):Int×Int:=(tG ((bK t).map (B3 · level)),rK ((bK t).map (B3 · level)))
def bKN(t:aX)(a b:Int):Int:=rK ((bK t).map (jQ · a b))
def dG(l:List Int):List Int:=l++List.replicate (10-l.length) 0
theorem gM{l:List Int}(h:l.length≤10):(dG l).length=10:=by simp[dG];omega
theorem aAG{c l:List Int}(h2:c.take l.length=l)(h3:c.drop l.length=List.replicate (10-l.length) 0):dG l=c:=by
 unfold dG;rw[←h3]
 conv=>rhs;rw[←bPJ l.length c,h2]
def WT(step:Int)(rs:List (Int×Int))(pre:List Int)(r:Int×Int)(k:Nat):List (List Int):=(List.range k).flatMap fun(m:Nat)=>if lJ step pre.getLast? (r.1+m)=true then(iN step rs (some (r.1+m))).map (fun t=>dG (pre++(r.1+(m:Int))::t))else []
theorem aRI{step:Int}{rs:List (Int×Int)}{pre:List Int}{r:Int×Int}:WT step rs pre r 0=[]:=rfl
theorem bGZ{step:Int}{rs:List (Int×Int)}{pre:List Int}{r:Int×Int}{k:Nat}(h:lJ step pre.getLast? (r.1+k)=false):WT step rs pre r (k+1)=WT step rs pre r k:=by
 unfold WT;rw[bOG,bOC,bPM,bNA (by simp[h]),bNN]
theorem aFZ{step:Int}{rs:List (Int×Int)}{pre:List Int}{r:Int×Int}{k:Nat}(h:lJ step pre.getLast? (r.1+k)=true):WT step rs pre r (k+1)=WT step rs pre r k++(iN step rs ((pre++[r.1+(k:Int)]).getLast?)).map (fun t=>dG ((pre++[r.1+(k:Int)])++t)):=by
 unfold WT;rw[bOG,bOC,bPM,bNK h,List.getLast?_concat];simp
theorem aCQ{step:Int}{rs:List (Int×Int)}{pre:List Int}{r:Int×Int}:WT step rs pre r (fO r).toNat=(iN step (r::rs) pre.getLast?).map (fun t=>dG (pre++t)):=by
 unfold WT;simp only[iN];rw[List.map_flatMap]
 congr 1;funext m
 split<;>simp
theorem aPA{step:Int}{rs:List (Int×Int)}{pre:List Int}{r:Int×Int}{k n:Nat}(hk:k<n):∃rr,WT step rs pre r n=WT step rs pre r (k+1)++rr:=by
 refine⟨((List.range n).drop (k+1)).flatMap fun(m:Nat)=>if lJ step pre.getLast? (r.1+m)=true then(iN step rs (some (r.1+m))).map (fun t=>dG (pre++(r.1+(m:Int))::t))else [],?_⟩;unfold WT;rw[←bOC];congr 1;have h:=bPJ (k+1) (List.range n);rw[List.take_range,bQI Yd]at h;exact h.symm
theorem DP{step:Int}:∀(rs:List (Int×Int)) (p:Option Int) (t:List Int),t∈iN step rs p→t.length=rs.length
 | [],p,t,h=>by simp[iN]at h;subst h;rfl
 |r::rs,p,t,h=>by
  simp only[iN,bQT,bOQ]at h;obtain⟨m,hm,h⟩:=h;split at h
  ·obtain⟨u,hu,rfl⟩:=bMR.1 h;rw[bMX,DP rs _ u hu,bMX]
  ·cases h
theorem NQ{step:Int}:∀(rs:List (Int×Int)) (p:Option Int) (t:List Int),(∀r∈rs,jD r=true)→t∈iN step rs p→∀x∈t,0≤x∧x≤99
 | [],p,t,_,h=>by simp[iN]at h;subst h;intro x hx;cases hx
 |r::rs,p,t,hr,h=>by
  simp only[iN,bQT,bOQ]at h;obtain⟨m,hm,h⟩:=h;split at h
  ·obtain⟨u,hu,rfl⟩:=bMR.1 h;intro x hx;rcases LT.1 hx with rfl|hx
   ·have h1:=hr r bMV;unfold jD fQ at h1;simp only[bMS,GT,bS]at h1;unfold fO at hm;omega
   ·exact NQ rs _ u (fun q hq=>hr q (bMT _ hq)) hu x hx
  ·cases h
structure KL(t:aX):Prop where
 last:0≤t.last∧t.last≤9
 len:(t.heights.length:Int)=t.last+1
 step:0≤t.step∧t.step≤99
 hts:∀r∈t.heights,jD r=true
 lev:t.levels.length≤6
 levs:∀n∈t.levels,0≤n∧n≤99
 mks:t.marks.length≤5
 mark:∀m∈t.marks,wN t.last m=true
theorem tOk{t:aX}(h1:aKJ t=false)(h2:bFF t=true):KL t:=by
 unfold aKJ at h1;unfold bFF fQ at h2;simp only[bOH,bMY]at h1;simp only[bMS,GT,bNQ,bS]at h2;obtain⟨⟨⟨⟨⟨h3,h4⟩,h5⟩,I⟩,O⟩,h8⟩:=h2;exact⟨Yd,h4,I,h5,Yd,O,Yd,h8⟩
theorem MU{t:aX}(h:aZ t=0):KL t:=by
 unfold aZ at h;split at h
 ·omega
 ·rename_i h1;split at h
  ·omega
  ·rename_i h2;exact tOk Xae Xai
theorem KL.len10{t:aX}(h:KL t):t.heights.length≤10:=by have:=h.len;have:=h.last;omega

theorem aRZ{s:List Int}{a k:Nat}(h:a+k≤s.length):((dG s).drop a).take k=(s.drop a).take k:=by
 unfold dG;rw[List.drop_append_of_le_length Yd,bOK Yaq]
theorem I0{s:List Int}{a b:Int}(h0:0≤a)(h1:a≤b)(h2:b<s.length):jQ (dG s) a b=jQ s a b:=by
 unfold jQ;rw[aRZ Yd]
theorem aLW{last:Int}{m:Mk}(h:wN last m=true):0≤m.frm∧m.frm≤m.to∧m.to≤last∧0≤m.lo∧m.lo≤m.hi∧m.hi≤99:=by
 unfold wN tA DN jD fQ at h;simp only[bMS,GT,bS]at h;omega
theorem aLA{t:aX}(ht:KL t){s:List Int}(hs:(s.length:Int)=t.last+1):iA t (dG s)=iA t s:=by
 unfold iA;rw[bPT,bNQ,bNQ];constructor<;>intro h m hm<;>have h1:=aLW (ht.mark m hm)<;>have h2:=h m hm
 ·rwa [I0 Yd Yd Yd]at h2
 ·rwa [I0 Yd Yd Yd]
theorem YG{l:List (List Int)}{pre us:List (List Int)}{x:List Int}(h:l.map dG=pre++x::us):∃s,l[pre.length]?= some s∧x=dG s∧s∈l∧l.take (pre.length+1)=l.take pre.length++[s]:=by
 have h1:(l.map dG)[pre.length]?= some x:=by rw[h];simp
 rw[bOD]at h1;obtain⟨s,hs,hx⟩:=bQD.1 h1;exact⟨s,hs,hx.symm,n5 hs,by rw[bMZ,hs];rfl⟩
def lI(t:aX)(k:Nat):List (List Int):=((fD t).take k).foldl (xS t) []
theorem n7(t:aX){k:Nat}(h:(fD t).length≤k):lI t k=bK t:=by unfold lI bK;rw[bNV h]
theorem KQ{t:aX}{k:Nat}{s:List Int}(h:(fD t).take (k+1)=(fD t).take k++[s]):lI t (k+1)=xS t (lI t k) s:=by
 unfold lI;rw[h,bOR];rfl
theorem aRR{t:aX}{acc:List (List Int)}{s:List Int}:∀u∈xS t acc s,u∈acc∨u=s:=by
 intro u hu;unfold xS at hu
 split at hu
 ·exact bNI hu
 ·simpa using hu
theorem y4{t:aX}:∀(l acc:List (List Int)),∀u∈l.foldl (xS t) acc,u∈acc∨u∈l
 | [],acc,u,h=>bNI h
 |s::l,acc,u,h=>by
  rcases y4 l (xS t acc s) u h with h|h
  ·rcases aRR u h with h|rfl
   ·exact bNI h
   ·exact bNC bMV
  ·exact bNC (bMT _ h)
theorem MH{t:aX}:∀(l acc:List (List Int)),(l.foldl (xS t) acc).length≤acc.length+l.length
 | [],acc=>by simp
 |s::l,acc=>by
  have h1:=MH (t:=t) l (xS t acc s);have h2:(xS t acc s).length≤acc.length+1:=by
   unfold xS;split
   ·omega
   ·simp
  rw[bNX,bMX];omega
theorem b8{t:aX}{k:Nat}{u:List Int}(h:u∈lI t k):u∈fD t:=by
 rcases y4 _ _ u h with h|h
 ·cases h
 ·exact bRT h
theorem VK(t:aX)(k:Nat):(lI t k).length≤(fD t).length:=by
 have h1:=MH (t:=t) ((fD t).take k) [];have h2:=bPW k (fD t);rw[bON]at h1;unfold lI;simp only[bOY]at h1;omega
def wK:List (Int×Int)→Int
 | []=>1
 |r::l=>fO r*wK l
theorem LQ:∀(l:List (Int×Int)) (m:Int),(∀r∈l,jD r=true)→0≤m→l.foldl (fun(m:Int) r=>min (m*fO r) 2001) m≤2000→m*wK l≤2000∧1≤wK l
 | [],m,_,_,h=>by simpa [wK]using h
 |r::l,m,hr,hm,h=>by
  have h1:1≤fO r:=by
   have h1:=hr r bMV;unfold jD fQ at h1;simp only[bMS,GT,bS]at h1;unfold fO;omega
  have h2:0≤m*fO r:=bSI hm Yd;rw[bNX]at h;obtain⟨h3,h4⟩:=LQ l (min (m*fO r) 2001) (fun q hq=>hr q (bMT _ hq)) Yd h;have h5:1≤fO r*wK l:=by
   have:=Int.mul_le_mul h1 h4 Yd Yd;omega
  refine⟨?_,h5⟩;show m*(fO r*wK l)≤2000;rw[←Int.mul_assoc];by_cases hc:m*fO r≤2001
  ·rwa [Int.min_eq_left hc]at h3
  ·rw[Int.min_eq_right Yd]at h3;omega
theorem jV{α β:Type}{f:α→List β}{n:Nat}:∀(l:List α),(∀x∈l,(f x).length≤n)→(l.flatMap f).length≤l.length*n
 | [],_=>by simp
 |x::l,h=>by
  have h1:=jV l fun y hy=>h y (bMT _ hy)
  have h2:=h x bMV;rw[bNW,LE,bMX,bPR];omega
theorem B5{step:Int}:∀(rs:List (Int×Int)) (p:Option Int),(∀r∈rs,jD r=true)→1≤wK rs∧((iN step rs p).length:Int)≤wK rs
 | [],p,_=>by simp[iN,wK]
 |r::rs,p,hr=>by
  have h1:1≤fO r:=by
   have h1:=hr r bMV;unfold jD fQ at h1;simp only[bMS,GT,bS]at h1;unfold fO;omega
  have h2:=B5 (step:=step) rs none fun q hq=>hr q (bMT _ hq)
  have h3:(iN step (r::rs) p).length≤(List.range (fO r).toNat).length*(wK rs).toNat:=by
   simp only[iN];refine jV _ fun k _=>?_
   split
   ·rw[bOB];have:=(B5 (step:=step) rs (some (r.1+(k:Int))) fun q hq=>hr q (bMT _ hq)).2;omega
   ·exact bRC _
  rw[bQW]at h3;have h4:(((fO r).toNat*(wK rs).toNat:Nat):Int)=fO r*wK rs:=by
   rw[Int.natCast_mul,Int.toNat_of_nonneg Yd,Int.toNat_of_nonneg Yd]
  have h5:=Int.mul_le_mul h1 h2.1 Yd Yd;refine⟨?_,?_⟩
  ·show 1≤fO r*wK rs;omega
  ·show _≤fO r*wK rs;rw[←h4];exact Int.ofNat_le.2 h3
theorem VC{t:aX}(h:aZ t=0):rI t.heights≤2000:=by
 unfold aZ at h;split at h
 ·omega
 ·split at h
  ·omega
  ·split at h
   ·omega
   ·omega
theorem AZ{t:aX}(h:aZ t=0):(fD t).length≤2000:=by
 have h1:=MU h;have h2:=(B5 (step:=t.step) t.heights none h1.hts).2;have h3:=(LQ t.heights 1 h1.hts Yd (VC h)).1;show(iN t.step t.heights none).length≤2000;omega
theorem rU{t:aX}{s:List Int}(h:s∈fD t):s.length=t.heights.length:=DP _ _ _ h
def U1(l:List (List Int))(last:Int)(S:List (Int×Int)):Prop:=∀p,p∈S ↔∃s∈l,∃j:Nat,(j:Int)≤last∧p=((j:Int),s.getD j 0)
theorem U1.nil{last:Int}:U1 [] last []:=fun p=>by simp
end C2
open C1 C2
def UV:Rd Mk:=fun _ m cs=>cs=[qI m.frm,qI m.to,qI m.lo,qI m.hi]
theorem UV.up:UV.Up:=fun _ _ _ h=>h
def AV:Rd (Int×Int):=fun _ p cs=>cs=[qI p.1,qI p.2]
theorem AV.up:AV.Up:=fun _ _ _ h=>h
def bJH(m:Mk):Γ:=.agg #[qI m.frm,qI m.to,qI m.lo,qI m.hi]
def gN(D:aC)(v:Γ)(t:aX):Prop:=∃hv lv mv,v=.agg #[qI t.last,hv,qI t.step,lv,mv]∧Sl D AV 2 hv t.heights∧Sl D RI 1 lv t.levels∧Sl D UV 4 mv t.marks
def JB:Rd (List Int):=fun _ l cs=>cs=ints (dG l)
theorem JB.up:JB.Up:=fun _ _ _ h=>h
def W5(l:List (List Int)):List Γ:=l.flatMap fun s=>ints (dG s)
theorem VR{l:List (List Int)}(h:∀s∈l,s.length≤10):(W5 l).length=l.length*10:=by
 induction l with
 |nil=>rfl
 |cons c l ih=>
  have:=ih fun s hs=>h s (bMT _ hs)
  unfold W5 at this ⊢
  rw[bNW,LE,this,aP,gM (h c bMV),bMX];omega
theorem VF{l:List (List Int)}(h:∀s∈l,s.length≤10){i:Nat}{s:List Int}(hi:l[i]?= some s)(junk:List Γ):((W5 l++junk).drop (i*10)).take 10=ints (dG s):=by
 induction l generalizing i with
 |nil=>simp at hi
 |cons d l ih=>
  have h9:(ints (dG d)).length=10:=by rw[aP,gM (h d bMV)]
  have hc:W5 (d::l)=ints (dG d)++W5 l:=rfl;rw[hc,bND];cases i with
  |zero=>
   obtain rfl:d=s:=Yau
   rw[bRB,bQQ,bOK Yd,bNV Yd]
  |succ i=>
   rw[show(i+1)*10=(ints (dG d)).length+i*10 by omega,bRK];exact ih (fun s hs=>h s (bMT _ hs)) Yau
theorem kZ.seas{D:aC}{v:Γ}{n:Nat}{l:List (List Int)}(hF:kZ D v n (W5 l))(hn:l.length=n)(hb:n≤9223372036854775807)(h:∀t∈l,t.length≤10):Sl D JB 10 v l:=
 hF.sl hn hb fun i t hi=>⟨Fs.ints (dG t),rfl,by rw[Fs.aP,gM (h t (n5 hi))],by have:=VF h hi [];rwa [bNN]at this⟩
theorem gN.up{D D':aC}{v:Γ}{t:aX}(h:gN D v t)(hl:Le D D'):gN D' v t:=by
 obtain⟨hv,lv,mv,e,h1,h2,h3⟩:=h;exact⟨hv,lv,mv,e,h1.up AV.up hl,h2.up RI.up hl,h3.up UV.up hl⟩
namespace C3
open C1 (hC bS)
structure eS where
 kind:Int
 chair:Int
 token:Int
deriving DecidableEq
structure Cn where
 after:Int
 lo:Int
 hi:Int
deriving DecidableEq
structure bH where
 chairs:Int
 coin:Int
 box:Int
 lines:List eS
 counts:List Cn
def xH(n:Int)(l:eS):Bool:=hC l.kind 0 2&&hC l.chair (-1) (n-1)&&hC l.token (-1) (n-1)
def sU(len:Int)(c:Cn):Bool:=hC c.after 0 len&&decide (0≤c.lo)&&decide (c.lo≤c.hi)&&decide (c.hi≤2000)
def gC(sign none lo hi:Int):List Int:=if sign≠none then [sign]else(List.range (hi+1-lo).toNat).map fun i:Nat=>lo+(i:Int)
def cN(n:Int)(l:eS):List eS:=(gC l.kind 0 1 2).flatMap fun k=>(gC l.chair (-1) 0 (n-1)).flatMap fun c=>(gC l.token (-1) 0 (n-1)).map fun t=>⟨k,c,t⟩
def tL(n:Int)(ls:List eS):Int:=ls.foldl (fun m l=>min (m*(cN n l).length) 4097) 1
def tB(b:bH):Bool:=hC b.chairs 1 4&&hC b.coin 1 99&&hC b.box 0 999&&b.lines.all (xH b.chairs)&&b.counts.all (sU b.lines.length)
def aZ(b:bH):Int:=if 8<b.lines.length∨4<b.counts.length then 3 else if tB b=false then 1 else if 4096<tL b.chairs b.lines then 3 else 0
structure Sc where
 ch:List Int
 tk:List Int
 money:Int
 mixed:Int
deriving DecidableEq
def rH(s:Sc):List Int:=s.ch++s.tk++[s.money,s.mixed]
def oM(l:List Int)(i:Int):Int:=l.getD i.toNat 0
def lX(s:Sc)(l:eS):Bool:=(decide (oM s.ch l.chair≠0)==decide (l.kind=2))&&(decide (oM s.tk l.token≠0)==decide (l.kind=2))
def fK(b:bH)(s:Sc)(i:Int)(l:eS):Sc:=
 if l.kind=2 then⟨s.ch.set l.chair.toNat 0,s.tk.set l.token.toNat 0,s.money-b.coin,if oM s.ch l.chair≠oM s.tk l.token then s.mixed+1 else s.mixed⟩
 else⟨s.ch.set l.chair.toNat (i+1),s.tk.set l.token.toNat (i+1),s.money+b.coin,s.mixed⟩
def hZ(b:bH)(s:Sc)(after:Int):Bool:=b.counts.all fun c=>decide (c.after≠after)||hC s.money c.lo c.hi
def gW(b:bH):Sc:=⟨[0,0,0,0],[0,0,0,0],b.box,0⟩
def K5(b:bH):List eS→Nat→Sc→List (List eS×List Sc)
 | [],i,s=>if hZ b s i=true then [([],[s])]else []
 |l::ls,i,s=>if hZ b s i=true then(cN b.chairs l).flatMap fun r=>if lX s r=true then(K5 b ls (i+1) (fK b s i r)).map fun x=>(r::x.1,s::x.2)else []else []
def truths(b:bH):List (List eS×List Sc):=K5 b b.lines 0 (gW b)
def N1(b:bH)(fine:Bool):Int:=if aZ b≠0 then aZ b else if fine=false then 2 else if truths b=[]then 11 else 0
def bHZ(ss:List Sc)(k:Nat):Sc:=ss.getD k ⟨[],[],0,0⟩
end C3
open C1 C3
def tZ:Rd eS:=fun _ l cs=>cs=[qI l.kind,qI l.chair,qI l.token]
theorem tZ.up:tZ.Up:=fun _ _ _ h=>h
def vK:Rd Cn:=fun _ c cs=>cs=[qI c.after,qI c.lo,qI c.hi]
theorem vK.up:vK.Up:=fun _ _ _ h=>h
def GL(l:eS):Γ:=.agg #[qI l.kind,qI l.chair,qI l.token]
def bHB(c:Cn):Γ:=.agg #[qI c.after,qI c.lo,qI c.hi]
def iM(D:aC)(v:Γ)(b:bH):Prop:=∃lv cv,v=.agg #[qI b.chairs,qI b.coin,qI b.box,lv,cv]∧Sl D tZ 3 lv b.lines∧Sl D vK 3 cv b.counts
theorem iM.up{D D':aC}{v:Γ}{b:bH}(h:iM D v b)(hl:Le D D'):iM D' v b:=by
 obtain⟨lv,cv,e,h1,h2⟩:=h;exact⟨lv,cv,e,h1.up tZ.up hl,h2.up vK.up hl⟩
def XF(s:Sc):Γ:=.agg (ints (rH s)).toArray
def WV:Rd Sc:=fun _ s cs=>cs=ints (rH s)
theorem WV.up:WV.Up:=fun _ _ _ h=>h
end Go.Fs
namespace Go.Fs.C3
open C1 (hC bS)

theorem aLL{sign none lo hi x:Int}:x∈gC sign none lo hi ↔ (sign≠none∧x=sign)∨(sign=none∧lo≤x∧x≤hi):=by
 unfold gC;by_cases h:sign=none
 ·rw[bNA Yaw,bMR];constructor
  ·rintro⟨i,hi',rfl⟩;have:=bOQ.1 hi';exact bNC ⟨h,Yd,Yd⟩
  ·rintro(⟨h1,_⟩|⟨_,h1,h2⟩)
   ·exact absurd h h1
   ·exact⟨(x-lo).toNat,bOQ.2 Yd,Yd⟩
 ·rw[bNK h];simp[h]
def tP(l x:eS):Bool:=(decide (l.kind=0)||decide (l.kind=x.kind))&&(decide (l.chair<0)||decide (l.chair=x.chair))&&(decide (l.token<0)||decide (l.token=x.token))
def bFK(n:Int)(x:eS):Prop:=(x.kind=1∨x.kind=2)∧0≤x.chair∧x.chair<n∧0≤x.token∧x.token<n
theorem o8{n:Int}{l x:eS}(hl:xH n l=true):x∈cN n l ↔ bFK n x∧tP l x=true:=by
 unfold xH at hl;simp only[bMS,bS]at hl;unfold cN bFK tP;simp only[bQT,bMR,aLL,bMS,bNZ,GT];constructor
 ·rintro⟨k,hk,c,hc,t,ht,rfl⟩;simp only;omega
 ·rintro⟨⟨h1,h2,h3,h4,h5⟩,⟨I,O⟩,h8⟩;refine⟨x.kind,Yd,x.chair,Yd,x.token,Yd,rfl⟩
structure VW(b:bH)(s:Sc):Prop where
 lc:s.ch.length=4
 lt:s.tk.length=4
 pc:∀x∈s.ch,0≤x∧x≤8
 pt:∀x∈s.tk,0≤x∧x≤8
def PA(l:List Int):Int:=((l.filter fun x=>decide (x≠0)).length:Int)
def nG(b:bH):List eS→Nat→Sc→Bool
 | [],i,s=>hZ b s i
 |l::ls,i,s=>hZ b s i&&(cN b.chairs l).any fun r=>lX s r&&nG b ls (i+1) (fK b s i r)
theorem XC{α β:Type}{l:List α}{f:α→List β}:l.flatMap f≠[] ↔∃x∈l,f x≠[]:=by
 rw[Ne,List.flatMap_eq_nil_iff];simp
theorem UR(b:bH):∀(ls:List eS) (i:Nat) (s:Sc),nG b ls i s=true ↔ K5 b ls i s≠[]
 | [],i,s=>by
  unfold nG K5;cases hZ b s i<;>simp
 |l::ls,i,s=>by
  unfold nG K5;cases hZ b s i with
  |false=>simp
  |true=>
   rw[bQZ,bRD,bNK rfl,XC];refine exists_congr fun r=>and_congr_right fun _=>?_
   rw[bMS,UR b ls];cases lX s r<;>simp
theorem I4(b:bH):nG b b.lines 0 (gW b)=decide (truths b≠[]):=by
 rw[bPT,UR,GT];rfl

def G2(l:List Int):List Int:=l.map fun x=>min x 1
theorem TW(l:List Int):(G2 l).length=l.length:=bOB _
theorem d4(l:List Int)(k:Nat)(x:Int):G2 (l.set k x)=(G2 l).set k (min x 1):=List.map_set
theorem P7{l:List Int}(h:∀x∈l,0≤x)(c:Int):(oM l c≠0) ↔ oM (G2 l) c≠0:=by
 unfold oM G2;rw[bOP,bOP,bOD];cases e:l[c.toNat]? with
 |none=>simp
 |some x=>
  have:=h x (n5 e);simp only[bOO,bQL];omega
structure bLX(s s':Sc):Prop where
 ch:G2 s.ch=G2 s'.ch
 tk:G2 s.tk=G2 s'.tk
 money:s.money=s'.money
structure aND(s:Sc):Prop where
 ch:∀x∈s.ch,0≤x
 tk:∀x∈s.tk,0≤x
theorem bEE{s s':Sc}(h:bLX s s')(hp:aND s)(hp':aND s')(l:eS):lX s l=lX s' l:=by
 unfold lX;have I:decide (oM s.ch l.chair≠0)=decide (oM s'.ch l.chair≠0):=decide_eq_decide.2 (by rw[P7 hp.ch,P7 hp'.ch,h.ch]);have O:decide (oM s.tk l.token≠0)=decide (oM s'.tk l.token≠0):=decide_eq_decide.2 (by rw[P7 hp.tk,P7 hp'.tk,h.tk]);rw[I,O]
theorem aSJ{b:bH}{s s':Sc}(h:bLX s s')(i:Nat)(l:eS):bLX (fK b s i l) (fK b s' i l):=by
 unfold fK;split
 ·exact⟨by simp only[d4,h.ch],by simp only[d4,h.tk],by simp only[h.money]⟩
 ·exact⟨by simp only[d4,h.ch],by simp only[d4,h.tk],by simp only[h.money]⟩
theorem DJ{l:List Int}(h:∀x∈l,0≤x)(k:Nat){y:Int}(hy:0≤y):∀x∈l.set k y,0≤x:=fun x hx=>by
 rcases List.mem_or_eq_of_mem_set hx with hx|rfl
 ·exact h x hx
 ·exact hy
theorem FH{b:bH}{s:Sc}(h:aND s)(i:Nat)(l:eS):aND (fK b s i l):=by
 unfold fK;split
 ·exact⟨DJ h.ch _ Yd,DJ h.tk _ Yd⟩
 ·exact⟨DJ h.ch _ Yd,DJ h.tk _ Yd⟩
theorem VU(b:bH):∀(ls:List eS) (i:Nat) (s s':Sc),bLX s s'→aND s→aND s'→nG b ls i s=nG b ls i s'
 | [],i,s,s',h,_,_=>by unfold nG hZ;rw[h.money]
 |l::ls,i,s,s',h,hp,hp'=>by
  unfold nG;have e:hZ b s i=hZ b s' i:=by unfold hZ;rw[h.money]
  rw[e];congr 1;refine bNB _ (funext fun r=>?_);rw[bEE h hp hp',VU b ls (i+1) _ _ (aSJ h i r) (FH hp i r) (FH hp' i r)]

theorem TG{l:List Int}{k:Nat}(hk:k<l.length)(y:Int):PA (l.set k y)=PA l-(if l.getD k 0≠0 then 1 else 0)+(if y≠0 then 1 else 0):=by
 induction l generalizing k with
 |nil=>simp at hk
 |cons x l ih=>
  cases k with
  |zero=>
   unfold PA;simp only[List.set_cons_zero,bPP,List.getD_cons_zero,GT];split<;>split<;>simp<;>omega
  |succ k=>
   have:=ih (k:=k) Xay;unfold PA at this ⊢
   simp only[List.set_cons_succ,bPP,bRJ];split
   ·simp only[bMX];push_cast;omega
   ·exact this
def GF(b:bH)(s:Sc):Prop:=s.money=b.box+b.coin*PA s.ch
theorem aME{l m:List Int}(h:G2 l=G2 m)(hl:∀x∈l,0≤x)(hm:∀x∈m,0≤x):PA l=PA m:=by
 induction l generalizing m with
 |nil=>
  cases m with
  |nil=>rfl
  |cons y m=>simp[G2]at h
 |cons x l ih=>
  cases m with
  |nil=>simp[G2]at h
  |cons y m=>
   simp only[G2,bNT,bPN]at h;have:=ih h.2 (fun x hx=>hl x (bMT _ hx)) fun x hx=>hm x (bMT _ hx)
   have h1:=hl x bMV;have h2:=hm y bMV;unfold PA at this ⊢
   simp only[bPP,GT];have e:x≠0 ↔ y≠0:=by have:=h.1;omega
   by_cases hx:x≠0
   ·rw[bNK hx,bNK (e.1 hx)];simp only[bMX];push_cast;omega
   ·rw[bNA hx,bNA fun hy=>hx (e.2 hy)];exact this
theorem aTA{b:bH}{s:Sc}(h:GF b s)(h4:s.ch.length=4){i:Nat}{l:eS}(hc:lX s l=true)(h0:0≤l.chair)(h1:l.chair<4):GF b (fK b s i l):=by
 unfold lX at hc;simp only[bMS,bRL,decide_eq_decide]at hc;have hk:l.chair.toNat<s.ch.length:=Yd
 unfold GF at h ⊢
 unfold fK;have hg:s.ch.getD l.chair.toNat 0=oM s.ch l.chair:=rfl;by_cases e:l.kind=2
 ·rw[bNK e];simp only;rw[TG hk,hg,bNK (hc.1.2 e),bNA Yd,h,Int.mul_add,Int.mul_sub];omega
 ·rw[bNA e];simp only;rw[TG hk,hg,bNA fun hh=>e (hc.1.1 hh),bNK Yd,h,Int.mul_add,Int.mul_sub];omega
theorem AI(b:bH):GF b (gW b):=by unfold GF gW PA;simp
def aVY(s:Sc)(i:Nat):List Int:=(i:Int)::(G2 s.ch++G2 s.tk)
theorem aRY{b:bH}{ls:List eS}{i i':Nat}{s s':Sc}(e:aVY s i=aVY s' i')(h:GF b s)(h':GF b s')(hp:aND s)(hp':aND s')(h4:s.ch.length=4)(h4':s'.ch.length=4):i=i'∧nG b ls i s=nG b ls i' s':=by
 unfold aVY at e;rw[bPN]at e;obtain⟨U,O⟩:=e;obtain⟨I,R⟩:=List.append_inj O (by rw[TW,TW];omega)
 have hi:i=i':=Yd
 subst hi;refine⟨rfl,VU b ls i s s' ⟨I,R,?_⟩ hp hp'⟩;unfold GF at h h';rw[h,h',aME I hp.ch hp'.ch]
end Go.Fs.C3
namespace Go.Fs
variable{P:Program}{X:Cx}{γb:Type}[Membership Nat γb]{bad:γb}{all:Array Oper}{K:Act→Δ→Prop}{Q:Exit→Act→Δ→Prop}
variable{σ:bU}{μ:aD}{Ds:List aC}{os:List (Bool×Nat)}{fl:Bool}{ix:Nat}
variable{d:Nat}{x y z:Operand}{u v:Γ}{ty:Θ}{pos:String}{aft:Array Edge}{g:Option (Nat×Bool)}
variable{k':IntKind}{m n:Nat}{t t':Θ}
def pP(m n:Nat):Nat:=m ^^^ (m&&&n)
theorem S0(m n i:Nat):(pP m n).testBit i=(m.testBit i&& !n.testBit i):=by
 unfold pP;rw[Nat.testBit_xor,Nat.testBit_and];cases m.testBit i<;>cases n.testBit i<;>rfl
theorem N0(m n:Nat):pP m n≤m:=by
 apply Nat.le_of_testBit;intro i hi;rw[S0]at hi;simp at hi;exact hi.1
theorem yN{m:Nat}(h:m<9223372036854775808):(BitVec.ofInt IntKind.i64.bits (m:Int)).toNat=m:=by
 rw[BitVec.ofInt_natCast,BitVec.toNat_ofNat];exact Nat.mod_eq_of_lt (by show m<2^64;omega)
theorem bIG{m n:Nat}(h:m<9223372036854775808):m&&&n<9223372036854775808:=Nat.lt_of_le_of_lt Nat.and_le_left h
theorem bKI{m n:Nat}(h:m<9223372036854775808)(h':n<9223372036854775808):m|||n<9223372036854775808:=Nat.or_lt_two_pow (n:=63) h h'
theorem aUT(ho:all[ix]?= some ⟨some d,.binOp .and t x y t',ty,pos,aft,g⟩)(hx:ev σ x=some (qI (m:Int)))(hy:ev σ y=some (qI (n:Int)))(hm:m<9223372036854775808)(hn:n<9223372036854775808)(hN:Nat.blt d X.N=true)(hg:cQ all σ g)
  (kk:WL P X bad all K Q os ((d,qI ((m&&&n:Nat):Int))::σ) μ Ds):WL P X bad all K Q ((fl,ix)::os) σ μ Ds:=
 bW ho rfl rfl hN hg (fun ρ hρ w'=>mL Yf (by
  have e:(BitVec.ofInt IntKind.i64.bits (m:Int)&&&BitVec.ofInt IntKind.i64.bits (n:Int)).toNat=m&&&n:=by rw[BitVec.toNat_and,yN hm,yN hn]
  have h2:=bIG (n:=n) hm;have h3:wD .i64 ((m&&&n:Nat):Int):=by simp only[wD];omega
  simp only[binOp,ne_eq,not_true_eq_false,bPL,Op.intBits,e,sE h3];rfl) (hρ x _ hx) (hρ y _ hy)) kk
theorem MS(ho:all[ix]?= some ⟨some d,.binOp .or t x y t',ty,pos,aft,g⟩)(hx:ev σ x=some (qI (m:Int)))(hy:ev σ y=some (qI (n:Int)))(hm:m<9223372036854775808)(hn:n<9223372036854775808)(hN:Nat.blt d X.N=true)(hg:cQ all σ g)
  (kk:WL P X bad all K Q os ((d,qI ((m|||n:Nat):Int))::σ) μ Ds):WL P X bad all K Q ((fl,ix)::os) σ μ Ds:=
 bW ho rfl rfl hN hg (fun ρ hρ w'=>mL Yf (by
  have e:(BitVec.ofInt IntKind.i64.bits (m:Int)|||BitVec.ofInt IntKind.i64.bits (n:Int)).toNat=m|||n:=by rw[BitVec.toNat_or,yN hm,yN hn]
  have h2:=bKI hm hn;have h3:wD .i64 ((m|||n:Nat):Int):=by simp only[wD];omega
  simp only[binOp,ne_eq,not_true_eq_false,bPL,Op.intBits,e,sE h3];rfl) (hρ x _ hx) (hρ y _ hy)) kk
theorem aSC(ho:all[ix]?= some ⟨some d,.binOp .andNot t x y t',ty,pos,aft,g⟩)(hx:ev σ x=some (qI (m:Int)))(hy:ev σ y=some (qI (n:Int)))(hm:m<9223372036854775808)(hn:n<9223372036854775808)(hN:Nat.blt d X.N=true)(hg:cQ all σ g)
  (kk:WL P X bad all K Q os ((d,qI ((pP m n:Nat):Int))::σ) μ Ds):WL P X bad all K Q ((fl,ix)::os) σ μ Ds:=
 bW ho rfl rfl hN hg (fun ρ hρ w'=>mL Yf (by
  have e:(BitVec.ofInt IntKind.i64.bits (m:Int)&&& ~~~ BitVec.ofInt IntKind.i64.bits (n:Int)).toNat=pP m n:=by
   apply Nat.eq_of_testBit_eq;intro i;rw[S0,BitVec.testBit_toNat,BitVec.getLsbD_and,BitVec.getLsbD_not,←BitVec.testBit_toNat,←BitVec.testBit_toNat,yN hm,yN hn];by_cases hi:i<IntKind.i64.bits
   ·simp[hi]
   ·have:m.testBit i=false:=Nat.testBit_lt_two_pow (bPO hm (bPD (show 9223372036854775808≤2^64 by decide) (bOW Yt (show 64≤i from Nat.le_of_not_lt hi))));simp[this]
  have h2:=N0 m n;have h3:wD .i64 ((pP m n:Nat):Int):=by simp only[wD];omega
  simp only[binOp,ne_eq,not_true_eq_false,bPL,Op.intBits,e,sE h3];rfl) (hρ x _ hx) (hρ y _ hy)) kk
theorem aAN{a b:Int}(ho:all[ix]?= some ⟨some d,.binOp .or t x y t',ty,pos,aft,g⟩)(hx:ev σ x=some (qI a))(hy:ev σ y=some (qI b))(ha:0≤a∧a≤1)(hb:0≤b∧b≤1)(hN:Nat.blt d X.N=true)(hg:cQ all σ g)
  (kk:WL P X bad all K Q os ((d,qI (max a b))::σ) μ Ds):WL P X bad all K Q ((fl,ix)::os) σ μ Ds:=by
 have h1:a=((a.toNat:Nat):Int):=Yd
 have h2:b=((b.toNat:Nat):Int):=Yd
 have h3:max a b=((a.toNat|||b.toNat:Nat):Int):=by
  have ha':a=0∨a=1:=Yd
  have hb':b=0∨b=1:=Yd
  rcases ha' with rfl|rfl<;>rcases hb' with rfl|rfl<;>decide
 rw[h3]at kk;rw[h1]at hx;rw[h2]at hy;exact MS ho hx hy Yd Yd hN hg kk
theorem aED{k:IntKind}{a:Int}(ho:all[ix]?= some ⟨some d,.unOp .neg t x,ty,pos,aft,g⟩)(hx:ev σ x=some (.int k a))(hr:wD k (-a))(hN:Nat.blt d X.N=true)(hg:cQ all σ g)
  (kk:WL P X bad all K Q os ((d,.int k (-a))::σ) μ Ds):WL P X bad all K Q ((fl,ix)::os) σ μ Ds:=
 bW ho rfl rfl hN hg (fun ρ hρ w'=>by
  have h2:(0:Int)-a= -a:=Yd
  simp only[execOp,hρ x _ hx,Op.unary,Op.intArith,h2,sE hr];rfl) kk
theorem M8{t e:Θ}{n sz:Nat}{parts:Array (Nat×Operand)}{us:List (Nat×Γ)}{zs cs:List Γ}(ho:all[ix]?= some ⟨some d,.build t parts,ty,pos,aft,g⟩)(ht:P.underlying t=some (.array n e))(hs:TS P e sz)(hz:TZ P t (.agg zs.toArray))(hu:ES σ parts.toList=some us)
  (hf:Instr.fill (fun i=>some (i*sz,sz)) zs.toArray us=some cs.toArray) (hN:Nat.blt d X.N=true) (hg:cQ all σ g) (kk:WL P X bad all K Q os ((d,.agg cs.toArray)::σ) μ Ds):WL P X bad all K Q ((fl,ix)::os) σ μ Ds:=
 bW ho rfl rfl hN hg (fun ρ hρ w'=>by
  have e:(parts.map fun(i,x)=>(i,ρ x)).toList=us:=by rw[←yD hρ hu];simp
  simp only[execOp,Instr.build,Ω,hz w',Ξ,TU.of ht w',hs w',Value.cells,e,hf,ε]) kk
theorem KB{op:BinOp}(he:op=.shl∨op=.shr){k:IntKind}{a b:Int}{w:Δ}{r:Γ}(h:(Op.shift op k a k' b).run P w=.ok r w){ρ:Operand→Γ}(hx:ρ x=.int k a)(hy:ρ y=.int k' b):
  (execOp ρ ⟨some d,.binOp op t x y t',ty,pos,aft,g⟩).run P w=.ok (.value r) w:=by
 rcases he with rfl|rfl<;>simp[execOp,hx,hy,binOp,h,go_sem]
theorem bGD(ho:all[ix]?= some ⟨some d,.binOp .shl t x y t',ty,pos,aft,g⟩)(hx:ev σ x=some (qI (m:Int)))(hy:ev σ y=some (.int k' (n:Int)))(hn:n≤62)(hm:m*2^n<9223372036854775808)(hN:Nat.blt d X.N=true)(hg:cQ all σ g)
  (kk:WL P X bad all K Q os ((d,qI ((m <<< n:Nat):Int))::σ) μ Ds):WL P X bad all K Q ((fl,ix)::os) σ μ Ds:=
 bW ho rfl rfl hN hg (fun ρ hρ w'=>KB (bNI rfl) (by
  have h1:¬((n:Int)<0):=Yd
  have h2:min (n:Int).toNat IntKind.i64.bits=n:=by rw[bOI];exact bQI (bPD hn Yt)
  have h3:(m:Int)*2^n=((m <<< n:Nat):Int):=by rw[Nat.shiftLeft_eq];simp
  have h4:wD .i64 ((m <<< n:Nat):Int):=by rw[Nat.shiftLeft_eq];simp only[wD];omega
  simp only[Op.shift,h1,bPL,h2,h3,sE h4];rfl) (hρ x _ hx) (hρ y _ hy)) kk
theorem W2(ho:all[ix]?= some ⟨some d,.binOp .shr t x y t',ty,pos,aft,g⟩)(hx:ev σ x=some (qI (m:Int)))(hy:ev σ y=some (.int k' (n:Int)))(hn:n≤62)(hN:Nat.blt d X.N=true)(hg:cQ all σ g)
  (kk:WL P X bad all K Q os ((d,qI ((m >>> n:Nat):Int))::σ) μ Ds):WL P X bad all K Q ((fl,ix)::os) σ μ Ds:=
 bW ho rfl rfl hN hg (fun ρ hρ w'=>KB (bNC rfl) (by
  have h1:¬((n:Int)<0):=Yd
  have h2:min (n:Int).toNat IntKind.i64.bits=n:=by rw[bOI];exact bQI (bPD hn Yt)
  have h3:(m:Int).fdiv (2^n)=((m >>> n:Nat):Int):=by
   rw[Nat.shiftRight_eq_div_pow,Int.fdiv_eq_ediv_of_nonneg _ (by exact_mod_cast bRC (2^n))];simp
  simp only[Op.shift,h1,bPL,h2,h3];rfl) (hρ x _ hx) (hρ y _ hy)) kk
theorem mN(m n:Nat):((m >>> n:Nat):Int)%2=if m.testBit n then 1 else 0:=by
 rw[Nat.testBit,Nat.one_and_eq_mod_two];have:=Nat.mod_two_eq_zero_or_one (m >>> n);rcases this with h|h
 ·have:((m >>> n:Nat):Int)%2=0:=Yd
  rw[this];simp[h]
 ·have:((m >>> n:Nat):Int)%2=1:=Yd
  rw[this];simp[h]
namespace C7
structure Pt where
 a:Int
 b:Int
 c:Int
deriving DecidableEq
structure Ch where
 size:Int
 parts:Pt
structure bA where
 chairs:List Ch
 fit:Int
 claims:List (Int×Int)
def Pt.l(p:Pt):List Int:=[p.a,p.b,p.c]
def hC(n lo hi:Int):Bool:=decide (lo≤n)&&decide (n≤hi)
theorem bS{n lo hi:Int}:hC n lo hi=true ↔ lo≤n∧n≤hi:=by simp[hC]
def TT(p:Pt)(m:Int):Bool:=p.l.all fun n=>hC n 0 m
def kP(c:Ch):Bool:=hC c.size 0 9&&TT c.parts 2
def mJ(r:Int×Int):Bool:=(decide (0≤r.1)&&decide (r.1≤r.2))&&decide (r.2≤7)
def aAL(p:Pt):Nat:=(p.l.filter fun n=>decide (n=2)).length
def dA(l:List Ch):Nat:=(l.map fun c=>aAL c.parts).sum
def zR(y:bA):Bool:=(hC y.fit 0 9&&y.chairs.all kP)&&y.claims.all mJ
def aZ(y:bA):Int:=if 7<y.chairs.length∨5<y.claims.length then 3 else if zR y=false then 1 else if 8<dA y.chairs then 3 else 0
def xI(n t:Int):Bool:=hC t 0 1&&(decide (n=2)||decide (t=n))
def T9(p t:Pt):Bool:=(p.l.zip t.l).all fun x=>xI x.1 x.2
def eJ(y:bA)(t:List Pt):Bool:=decide (t.length=y.chairs.length)&&(y.chairs.zip t).all fun x=>T9 x.1.parts x.2
def iE(p:Pt):Bool:=decide (p=⟨1,1,1⟩)
def whole(t:List Pt):Nat:=(t.filter iE).length
end C7
open C7
def bKZ(p:Pt):Γ:=.agg #[qI p.a,qI p.b,qI p.c]
def bJW(c:Ch):Γ:=.agg #[qI c.size,qI c.parts.a,qI c.parts.b,qI c.parts.c]
def RP:Rd Pt:=fun _ p cs=>cs=[qI p.a,qI p.b,qI p.c]
theorem RP.up:RP.Up:=fun _ _ _ h=>h
def A3:Rd Ch:=fun _ c cs=>cs=[qI c.size,qI c.parts.a,qI c.parts.b,qI c.parts.c]
theorem A3.up:A3.Up:=fun _ _ _ h=>h
def R2:Rd (Int×Int):=fun _ p cs=>cs=[qI p.1,qI p.2]
theorem R2.up:R2.Up:=fun _ _ _ h=>h
def iY(D:aC)(v:Γ)(y:bA):Prop:=∃cv rv,v=.agg #[cv,qI y.fit,rv]∧Sl D A3 4 cv y.chairs∧Sl D R2 2 rv y.claims
theorem iY.up{D D':aC}{v:Γ}{y:bA}(h:iY D v y)(hl:Le D D'):iY D' v y:=by
 obtain⟨cv,rv,hv,hc,hr⟩:=h;exact⟨cv,rv,hv,hc.up A3.up hl,hr.up R2.up hl⟩
abbrev aD.ks(μ:aD):List Nat:=μ.map fun p=>p.1
def IF(P:Program)(f:FuncId)(args:List Γ)(D:aC)(ν:aD)(post:aC→Γ→aD→Prop):Prop:=
 EF P f∧∀w,fA D w→(∀p∈ν,w.heap[p.1]?= some p.2∧D p.1=[]∧cU p.2)→ν.ks.Nodup→Calls P f args.toArray w fun e w'=>∃v D' ν',e=.returned v∧ν'.ks=ν.ks∧iT (hd w) w.heap.size D ν.ks ν' D' w'∧post D' v ν'
theorem iT.afterM{h0:H0}{lo:Nat}{D0 D D':aC}{mods:List Nat}{A B ν ν':aD}{w w':Δ}(h:iT h0 lo D0 mods (A++ν++B) D w)(hk:ν'.ks=ν.ks)(hs:iT (hd w) w.heap.size D ν.ks ν' D' w'):iT h0 lo D0 mods (A++ν'++B) D' w':=by
 have hle:=bPD h.hlo h.size;have hin:∀c∈ν.ks,∃o,(c,o)∈ν:=fun c hc=>by
  obtain⟨p,hp,rfl⟩:=bMR.1 hc;exact⟨p.2,hp⟩
 have hbx:∀p∈ν,_:=fun p hp=>h.box p (bNE _ (GE _ hp))
 have hnd:=h.nd;simp only[bNG]at hnd;have keys:(A++ν'++B).map (fun p=>p.1)=(A++ν++B).map (fun p=>p.1):=by
  simp only[bNG];rw[show ν'.map (fun p=>p.1)=ν.map (fun p=>p.1)from hk]
 refine⟨h.hlo,bPD h.size hs.size,fun c hc hm=>?_,fun c hc=>?_,hs.agr,fun p hp=>?_,by rw[keys];exact h.nd,fun p hp=>?_,fun e he=>(hs.env _ rfl).trans (h.env e he)⟩
 ·have hne:c∉ν.ks:=by
   intro hcm;obtain⟨o,ho⟩:=hin c hcm;rcases(hbx _ ho).2.2 with h'|h'
   ·have:=h.hlo;simp at h';omega
   ·exact hm h'
  rw[hs.old c (bPO hc hle) hne];exact h.old c hc hm
 ·rw[hs.dold c (bPO hc hle)];exact h.dold c hc
 ·rcases bNH.1 hp with hp|hp
  ·rcases bNH.1 hp with hp|hp
   ·obtain⟨h1,h2,h3⟩:=h.box p (bNE _ (bNE _ hp));have hl:=bJ h1;have hne:p.1∉ν.ks:=fun hm=>(bNF.1 (bNF.1 hnd).1).2.2 p.1 (bMR.2 ⟨p,hp,rfl⟩) p.1 hm rfl
    exact⟨Xbs,Xbd,h3⟩
   ·obtain⟨q1,I,_⟩:=hs.box p hp;have hm:p.1∈ν.ks:=by rw[←hk];exact bMR.2 ⟨p,hp,rfl⟩
    obtain⟨o,ho⟩:=hin p.1 hm;exact⟨q1,I,(hbx _ ho).2.2⟩
  ·obtain⟨h1,h2,h3⟩:=h.box p (GE _ hp);have hl:=bJ h1;have hne:p.1∉ν.ks:=fun hm=>(bNF.1 hnd).2.2 p.1 (GE _ hm) p.1 (bMR.2 ⟨p,hp,rfl⟩) rfl
   exact⟨Xbs,Xbd,h3⟩
 ·rcases bNH.1 hp with hp|hp
  ·rcases bNH.1 hp with hp|hp
   ·exact h.fz p (bNE _ (bNE _ hp))
   ·exact hs.fz p hp
  ·exact h.fz p (GE _ hp)
theorem gF{c:Operand}{xs:Array Operand}{ats:Array Θ}{f:FuncId}{c1 c2:List Γ}{vs:List Γ}{A B ν:aD}{post:aC→Γ→aD→Prop}(ho:all[ix]?= some ⟨some d,.call {callee:=.value c,args:=xs,argTypes:=ats},ty,pos,aft,g⟩)(hc:ev σ c=some (.func (.func f) c1.toArray c2.toArray))(hxs:q9 σ xs.toList=some vs)
  (hex:X.ex=none) (hfl:fl=false∨∀p∈ν,p.1∈bad) (hu:∀p∈ν,cU p.2) (hf:∀D,(∀D₁∈Ds,Le D₁ D)→IF P f (c1++vs++c2) D ν post) (hN:Nat.blt d X.N=true) (hg:cQ all σ g)
  (kk:∀v D ν',(∀D₁∈Ds,Le D₁ D)→post D v ν'→WL P X bad all K Q os ((d,v)::σ) (A++ν'++B) (D::Ds)):
  WL P X bad all K Q ((fl,ix)::os) σ (A++ν++B) Ds:=by
 refine fF ho rfl rfl hg fun a w hh=>?_
 obtain⟨h1,h2,h3,D,h4,h5,I⟩:=id hh;have hF:=hf D h5;have hbx:∀p∈ν,_:=fun p hp=>h4.box p (bNE _ (GE _ hp))
 have hnd:=h4.nd;simp only[bNG]at hnd;rw[uY hF.1 (hh.eval hc) (kT (fun _ _ hx=>hh.eval hx) hxs)];refine⟨fun h=>Xad,dR.2 ((hF.2 w h4.agr (fun p hp=>⟨(hbx p hp).1,(hbx p hp).2.1,hu p hp⟩) (bNF.1 (bNF.1 hnd).1).2.1).mono ?_)⟩;rintro e w' ⟨v,D',ν',rfl,hk,hs,hpost⟩;have hle:=gO h4.agr hs;refine⟨fun hflt=>⟨hs.size,fun c hc hcb=>hs.old c hc fun hm=>?_⟩,kk v D' ν' (fun D₁ hD₁=>(h5 D₁ hD₁).trans hle) hpost _ _ ?_⟩
 ·obtain⟨p,hp,rfl⟩:=bMR.1 hm;rcases hfl with h|h
  ·rw[hflt]at h;cases h
  ·exact hcb (h p hp)
 ·refine Hl.put ⟨h1,h2,h3,D',h4.afterM hk hs,fun D₁ hD₁=>?_,Xbg⟩ hN v;rcases LT.1 hD₁ with rfl|hD₁
  ·exact Le.refl _
  ·exact(h5 D₁ hD₁).trans hle
theorem FR{c:Operand}{xs:Array Operand}{ats:Array Θ}{f:FuncId}{c1 c2:List Γ}{vs:List Γ}{A ν:aD}{post:aC→Γ→aD→Prop}(ho:all[ix]?= some ⟨some d,.call {callee:=.value c,args:=xs,argTypes:=ats},ty,pos,aft,g⟩)(hc:ev σ c=some (.func (.func f) c1.toArray c2.toArray))(hxs:q9 σ xs.toList=some vs)
  (hex:X.ex=none) (hfl:fl=false∨∀p∈ν,p.1∈bad) (hu:∀p∈ν,cU p.2) (hf:∀D,(∀D₁∈Ds,Le D₁ D)→IF P f (c1++vs++c2) D ν post) (hN:Nat.blt d X.N=true) (hg:cQ all σ g)
  (kk:∀v D ν',(∀D₁∈Ds,Le D₁ D)→post D v ν'→WL P X bad all K Q os ((d,v)::σ) (A++ν') (D::Ds)):
  WL P X bad all K Q ((fl,ix)::os) σ (A++ν) Ds:=by
 have:=gF (A:=A) (B:=[]) ho hc hxs hex hfl hu hf hN hg fun v D ν' h1 h2=>by rw[bNN];exact kk v D ν' h1 h2
 rwa [bNN]at this
def mW(X:Cx)(ks:List Nat)(post:aC→Γ→aD→Prop):Ending→Δ→Prop:=fun e w'=>∃v D' ν',e=.returned v∧ν'.ks=ks∧iT X.h0 X.lo X.D0 X.mods ν' D' w'∧post D' v ν'
theorem jW{fn:Func}{ks:List Nat}{post:aC→Γ→aD→Prop}:NP (bodyPost P fn (mW X ks post)):=by
 rintro c a w ⟨_,v,D',μ',h,_⟩;cases h
def sO(N:Nat)(h0:H0)(D:aC)(ks:List Nat):Cx:=⟨none,N,[],h0,h0.size,D,ks,none⟩
theorem jH{f:FuncId}{fn:Func}{c:Code}{args:List Γ}{D:aC}{ν:aD}{post:aC→Γ→aD→Prop}(N:Nat)(hf:P.funcs[f]?= some fn)(hn:(fn.name== "runtime.NumGoroutine")=false)(hb:fn.body=some c)(hN:fn.ntmps=N)(hsz:Nat.ble args.length N=true)
  (h:∀h0:H0,(∀p∈ν,p.1<h0.size)→ν.ks.Nodup→WC P (sO N h0 D ν.ks) (bodyPost P fn (mW (sO N h0 D ν.ks) ν.ks post)) c (jP 0 args) ν [D]):IF P f args D ν post:=by
 refine⟨EF.of hf hn hb,fun w hw hν hnd=>?_⟩;subst hN;have hsz:=bPE hsz;refine(dR (r:=none) (n:=0)).1 ((callsIn_of_wp (R:=mW (sO fn.ntmps (hd w) D ν.ks) ν.ks post) hf hb bSM (h (hd w) (fun p hp=>bJ (hν p hp).1) hnd _ w ⟨?_,fun s v hs=>?_,rfl,D,⟨bNJ _,bNJ _,fun _ _ _=>rfl,fun _ _=>rfl,hw,(fun p hp=>?_),hnd,(fun p hp=>(hν p hp).2.2),fun e he=>bNS he⟩,fun D₁ h1=>?_,bSM⟩) rfl).mono ?_)
 ·simp[sO];omega
 ·obtain⟨_,h2⟩:=gX args 0 s v hs;have hl:=(bMW.1 h2).1;simp only[bQH]at h2 hl;show(args.toArray++_)[s]?= some v;rw[bPS Yaz];simpa using h2
 ·exact⟨(hν p hp).1,(hν p hp).2.1,bNC (bMR.2 ⟨p,hp,rfl⟩)⟩
 ·simp only[bNL]at h1;subst h1;exact Le.refl _
 ·rintro e w' ⟨v,D',ν',rfl,hk,hs,hp⟩;exact⟨v,D',ν',rfl,hk,hs,hp⟩
theorem R9{fn:Func}{ks:List Nat}{A B ν':aD}{post:aC→Γ→aD→Prop}{e:Exit}(he:(match e with|.normal=>true|.ret=>true|_=>false)=true){rs:List ResultVar}{vs:List Γ}(hds:X.ds=[])(hr:fn.results=rs.toArray)(h:C5 P X σ (A++ν'++B) rs vs)
  (hk:ν'.ks=ks) (hp:∀D,(∀D₁∈Ds,Le D₁ D)→post D (qO vs) ν'):∀a w,Hl X σ (A++ν'++B) Ds a w→bodyPost P fn (mW X ks post) e a w:=by
 intro a w hh;have hrun:=jG hh hr h;obtain⟨h1,h2,h3,D,h4,h5,h6⟩:=hh;have hnd:=h4.nd;simp only[bNG]at hnd;have:a.defers=[]∧∃v,(results fn a.tmps).run P w=.ok v w∧mW X ks post (.returned v) w:=⟨h3.trans hds,_,hrun,_,D,ν',rfl,hk,h4.sub (fun p hp=>bNE _ (GE _ hp)) (bNF.1 (bNF.1 hnd).1).2.1,hp D h5⟩
 cases e<;>first|exact this|cases he
theorem _root_.Go.Fs.Zaj{fn:Func}{ks:List Nat}(A:aD)(B:aD)(ν':aD){post:aC→Γ→aD→Prop}{e:Exit}{rs:List ResultVar}(vs:List Γ)(e9:((match e with|.normal=>true|.ret=>true|_=>false),X.ds,fn.results)=(true,[],rs.toArray))(h:C5 P X σ (A++ν'++B) rs vs)(hk:ν'.ks=ks)(hp:∀D,(∀D₁∈Ds,Le D₁ D)→post D (qO vs) ν'):∀a w,Hl X σ (A++ν'++B) Ds a w→bodyPost P fn (mW X ks post) e a w:=R9 (A:=A) (B:=B) (ν':=ν') (vs:=vs) (bNB (fun z=>z.1) e9) (bNB (fun z=>z.2.1) e9) (bNB (fun z=>z.2.2) e9) h hk hp
end Go.Fs
