/- Of BookAsks. -/
import Derived.Test.YtmmdpkkcedmgoaaGreatDoorZBookAsksAA
import Derived.RangeFuncLeaves
import Derived.RangeFuncRecord
import Derived.Test.YtmmdpkkcedmgoaaGreatDoorProg
import Derived.ChangeKeysEq
namespace Go.Fs
variable{P:Program}{X:Cx}{γb:Type}[Membership Nat γb]{bad:γb}{all:Array Oper}{K:Act→Δ→Prop}{Q:Exit→Act→Δ→Prop}
variable{σ:bX}{μ:aD}{Ds:List aC}{os:List (Bool×Nat)}{fl:Bool}{ix:Nat}
variable{d:Nat}{x y z:Operand}{u v:Γ}{ty:Θ}{pos:String}{aft:Array Edge}{g:Option (Nat×Bool)}

def ints(l:List Int):List Γ:=l.map (Value.int .i64)
@[simp] theorem aM(l:List Int):(ints l).length=l.length:=by simp[ints]
theorem cW{l:List Int}{k:Nat}{n:Int}(h:l[k]?= some n):(ints l)[k]?= some (qI n):=by simp[ints,h]
theorem dS(l:List Int):∀v∈ints l,cell1 v=true:=by intro v hv;simp[ints]at hv;obtain⟨n,_,rfl⟩:=hv;rfl
theorem cD{t e:Θ}{n b:Nat}{k:IntKind}{i:Int}(ho:all[ix]?= some ⟨some d,.indexAddr t x y,ty,pos,aft,g⟩)(ht:P.underlying t=some (.array n e))(hs:TS P e 1)(hx:ev σ x=some (qP b))(hy:ev σ y=some (.int k i))(h0:0≤i)(h1:i<n)
  (hN:Nat.blt d X.N=true) (hg:cZ all σ g) (kk:WL P X bad all K Q os ((d,.pointer (some ⟨b,i.toNat,none⟩))::σ) μ Ds):WL P X bad all K Q ((fl,ix)::os) σ μ Ds:=
 eX ho ht hs hx hy h0 h1 hN hg (by simpa using kk)
theorem d6{t:Θ}{b k:Nat}{l:List Int}{n:Int}{e:Θ}{μ':aD}(ho:all[ix]?= some ⟨none,.store t x y,ty,pos,aft,g⟩)(hs:TS P t 1)(hx:ev σ x=some (.pointer (some ⟨b,k,none⟩)))(hy:ev σ y=some (qI n))
  (hm:bR μ b (.cells (ints l).toArray e (0,0)) (.cells (ints (l.set k n)).toArray e (0,0)) μ') (hl:k<l.length) (hg:cZ all σ g)
  (kk:WL P X bad all K Q os σ μ' Ds):WL P X bad all K Q ((false,ix)::os) σ μ Ds:=
 cY (us:=[qI n]) (vs:=ints l) (ws:=ints (l.set k n)) ho hx hy rfl hs hm Yap (by
  rw[show ints (l.set k n)=(ints l).set k (qI n) by simp[ints,List.map_set],List.set_eq_take_append_cons_drop,bMG Yay];simp) Yk hg kk

def HG(σ:bX):List (Nat×Operand)→Option (List (Nat×Γ))
 | []=>some []
 |(i,x)::xs=>match ev σ x,HG σ xs with
  |some v,some vs=>some ((i,v)::vs)
  |_,_=>none
theorem yG{ρ:Operand→Γ}(hρ:∀x u,ev σ x=some u→ρ x=u):∀{xs:List (Nat×Operand)} {vs:List (Nat×Γ)},HG σ xs=some vs→(xs.map fun p=>(p.1,ρ p.2))=vs
 | [],vs,h=>by simp[HG]at h;simp[h]
 |(i,x)::xs,vs,h=>by
  simp only[HG]at h;cases h1:ev σ x with
  |none=>simp[h1]at h
  |some I=>
   cases h2:HG σ xs with
   |none=>simp[h1,h2]at h
   |some v2=>
    simp[h1,h2]at h;rw[←h,bMT,hρ x I h1,yG hρ h2]
def TP(P:Program)(t:Θ)(pl:List (Nat×Nat)):Prop:=
 ∃fs,P.underlying t=some (.struct fs)∧∀w,(fs.mapM (fun f=>do pure (f.offset,←sizeOf f.type):Field→Sem (Nat×Nat))).run P w=.ok pl.toArray w
theorem FC{P:Program}:∀(fs:List Field) (pl:List (Nat×Nat)),(fs.map fun f=>(f.offset,P.cellsOf f.type))=pl→(∀f∈fs,(P.info? f.type).isSome=true)→∀w,
  (fs.mapM (fun f=>do pure (f.offset,←sizeOf f.type):Field→Sem (Nat×Nat))).run P w=.ok pl w
 | [],pl,h,_,w=>by subst h;rfl
 |f::fs,pl,h,hi,w=>by
  subst h;have hs:(sizeOf f.type).run P w=.ok (P.cellsOf f.type) w:=by
   have:=hi f bLP;obtain⟨i,hi⟩:=Option.isSome_iff_exists.1 this;exact TS.of (by rw[hi];simp[Program.cellsOf,hi]) w
  rw[bPL,Ω,Ω,hs];simp only[Ξ,ε];rw[Ω,FC fs _ rfl (fun f hf=>hi f (LE _ hf)) w];rfl
theorem TP.of{t:Θ}{fs:Array Field}{pl:List (Nat×Nat)}(h:P.underlying t=some (.struct fs))(hp:(fs.toList.map fun f=>(f.offset,P.cellsOf f.type))=pl)(hi:(fs.toList.all fun f=>(P.info? f.type).isSome)=true):TP P t pl:=by
 refine⟨fs,h,fun w=>?_⟩;have hr:=FC (P:=P) fs.toList pl hp (fun f hf=>bMK.1 hi f hf) w;have e:fs=fs.toList.toArray:=rfl;rw[e,List.mapM_toArray,Sem.run_map];simp only[hr,Ξ]
theorem iB{t:Θ}{parts:Array (Nat×Operand)}{us:List (Nat×Γ)}{zs cs:List Γ}{pl:List (Nat×Nat)}(ho:all[ix]?= some ⟨some d,.build t parts,ty,pos,aft,g⟩)(hpl:TP P t pl)(hz:TZ P t (.agg zs.toArray))(hu:HG σ parts.toList=some us)
  (hf:Instr.fill (fun i=>pl[i]?) zs.toArray us=some cs.toArray) (hN:Nat.blt d X.N=true) (hg:cZ all σ g) (kk:WL P X bad all K Q os ((d,.agg cs.toArray)::σ) μ Ds):WL P X bad all K Q ((fl,ix)::os) σ μ Ds:=
 cA ho rfl rfl hN hg (fun ρ hρ w'=>by
  obtain⟨fs,h,hp⟩:=hpl;have e:(parts.map fun(i,x)=>(i,ρ x)).toList=us:=by rw[←yG hρ hu];simp
  have hf':Instr.fill (fun i=>pl.toArray[i]?) zs.toArray us=some cs.toArray:=by simpa using hf
  simp only[execOp,Instr.build,Ω,hz w',Ξ,TU.of h w',hp w',Value.cells,e,hf',ε]) kk
theorem _root_.Go.Fs.Zu{t:Θ}{parts:Array (Nat×Operand)}{us:List (Nat×Γ)}{zs:List Γ}(cs:List Γ){pl:List (Nat×Nat)}(ho:all[ix]?= some ⟨some d,.build t parts,ty,pos,aft,g⟩)(hpl:TP P t pl)(hz:TZ P t (.agg zs.toArray))(e9:(HG σ parts.toList,Instr.fill (fun i=>pl[i]?) zs.toArray us)=(some us,some cs.toArray))(kk:WL P X bad all K Q os ((d,.agg cs.toArray)::σ) μ Ds)(hN:Nat.blt d X.N=true:=by exact rfl)(hg:cZ all σ g:=by exact bRD):WL P X bad all K Q ((fl,ix)::os) σ μ Ds:=iB (cs:=cs) ho hpl hz (bLZ (fun z=>z.1) e9) (bLZ (fun z=>z.2) e9) hN hg kk

inductive PV(sz:Nat):Nat→List (Nat×Γ)→List Γ→Prop
 |nil {k}:PV sz k [] []
 |cons {k v cs r rs} (hv:v.cells=cs.toArray) (hc:cs.length=sz) (h:PV sz (k+1) r rs):PV sz k ((k,v)::r) (cs++rs)
theorem PV.len{sz k:Nat}{r:List (Nat×Γ)}{rs:List Γ}(h:PV sz k r rs):rs.length=r.length*sz:=by
 induction h with
 |nil=>simp
 |cons hv hc h ih=>simp[ih,hc,bOK];omega
theorem LF:∀(cs:List Γ) (j off:Nat) (pre mid post:List Γ),pre.length=off+j→mid.length=cs.length→
  (cs.zipIdx j).foldl (fun(a:Array Γ) (p:Γ×Nat)=>a.setIfInBounds (off+p.2) p.1) (pre++mid++post).toArray=(pre++cs++post).toArray
 | [],j,off,pre,mid,post,h1,h2=>by have:mid=[]:=bPD.1 h2;subst this;rfl
 |c::cs,j,off,pre,[],post,h1,h2=>by simp at h2
 |c::cs,j,off,pre,m::mid,post,h1,h2=>by
  rw[List.zipIdx_cons,bMO];have e:(pre++(m::mid)++post).toArray.setIfInBounds (off+j) c=((pre++[c])++mid++post).toArray:=by
   rw[←h1];simp
  rw[e,LF cs (j+1) off (pre++[c]) mid post Yap Xal];simp
theorem IR{sz:Nat}{k:Nat}{r:List (Nat×Γ)}{rs:List Γ}(h:PV sz k r rs):∀(pre zs:List Γ),pre.length=k*sz→zs.length=rs.length→
  Instr.fill (fun i=>some (i*sz,sz)) (pre++zs).toArray r=some (pre++rs).toArray:=by
 induction h with
 |nil=>intro pre zs h1 h2;have:zs=[]:=bPD.1 h2;subst this;rfl
 | @cons k v cs r rs hv hc h ih=>
  intro pre zs h1 h2;obtain⟨m,post,rfl,hm⟩:∃m post,zs=m++post∧m.length=cs.length:=⟨zs.take cs.length,zs.drop cs.length,Yf,by rw[bNT,h2];simp⟩
  have hpost:post.length=rs.length:=by simp[hm]at h2;omega
  simp only[Instr.fill];rw[bLX]
  ·rw[hv];have hz:(cs.toArray.zipIdx.foldl (fun(a:Array Γ) (p:Γ×Nat)=>a.setIfInBounds (k*sz+p.2) p.1) (pre++m++post).toArray)=(pre++cs++post).toArray:=by
    have:=LF cs 0 (k*sz) pre m post Xae hm;rw[←this,←Array.foldl_toList];simp
   have e:(pre++(m++post)).toArray=(pre++m++post).toArray:=by simp
   rw[e];rw[hz,ih (pre++cs) post (by simp[h1,hc,bOK]) hpost];simp
  ·rw[hv];simp[h1,hc,hm]
theorem Z4{t e:Θ}{sz n:Nat}{parts:Array (Nat×Operand)}{us:List (Nat×Γ)}{rs:List Γ}{z0:Γ}(ho:all[ix]?= some ⟨some d,.buildSlice t n parts,ty,pos,aft,g⟩)(ht:P.underlying t=some (.slice e))(hs:TS P e sz)(hz:TZ P e z0)(_hz1:Nat.beq z0.cells.size sz=true)
  (hu:HG σ parts.toList=some us) (hn:us.length=n) (hnz:Nat.ble (n*sz) 4096=true) (hf:PV sz 0 us rs) (hN:Nat.blt d X.N=true) (hg:cZ all σ g)
  (kk:∀b D,(∀D₁∈Ds,Le D₁ D)→At D b 0 rs→WL P X bad all K Q os ((d,qS b n n)::σ) μ (D::Ds)):WL P X bad all K Q ((fl,ix)::os) σ μ Ds:=by
 refine fJ ho rfl rfl hg fun a w hh=>?_
 obtain⟨h1,h2,h3,D,h4,h5,h6⟩:=id hh;have hnz':n*sz≤4096:=bNZ hnz;have hlen:rs.length=n*sz:=by rw[hf.len,hn]
 have e1:(parts.map fun(i,x)=>(i,a.eval x)).toList=us:=by rw[←yG (fun _ _ hx=>hh.eval hx) hu];simp
 have hrun:(execOp a.eval ⟨some d,.buildSlice t n parts,ty,pos,aft,g⟩).run P w=.ok (.value (.slice (some ⟨w.heap.size,0,none⟩) n n)) {w with heap:=w.heap.push (.cells rs.toArray e (0,0))}:=by
  simp only[execOp,Instr.buildSlice,Ω,TU.of ht w,Ξ,hs w];rw[bLX Yd];simp only[pure_bind];have key:∀zc:Array Γ,Instr.fill (fun i=>some (i*sz,sz)) ((Array.range (n*sz)).map (zc[· %zc.size]!)) us=some rs.toArray:=by
   intro zc;have:=IR hf [] ((Array.range (n*sz)).map (zc[· %zc.size]!)).toList Yf (by simp[hlen]);rw[bMW,bMW]at this;exact this
  split
  ·simp only[Ω,ε,Ξ,e1,key,jY]
  ·simp only[Ω,ε,Ξ,hz w,e1,key,jY]
 rw[hrun];obtain⟨D',hle,hD',hDo,hs'⟩:=h4.pushD rs e;refine⟨fun _=>pU _ _ _,kk w.heap.size D' (fun D₁ hD₁=>(h5 D₁ hD₁).trans hle) (fun j v hj=>by rw[hD'];simpa using hj) _ _ (Hl.put ⟨h1,h2,h3,D',hs',fun D₁ hD₁=>?_,h6.step (fun _ p hp=>bMF (GE.2 ⟨p,hp,rfl⟩)) (fun _=>⟨Yf,fun b hb _=>⟨dP hb,hDo b Yd⟩,rfl⟩) hs'.dom⟩ hN _)⟩
 rcases bLO.1 hD₁ with rfl|hD₁
 ·exact Le.refl _
 ·exact(h5 D₁ hD₁).trans hle
theorem _root_.Go.Fs.Zt{t:Θ}{e:Θ}{sz:Nat}{n:Nat}{parts:Array (Nat×Operand)}{us:List (Nat×Γ)}{rs:List Γ}{z0:Γ}(ho:all[ix]?= some ⟨some d,.buildSlice t n parts,ty,pos,aft,g⟩)(ht:P.underlying t=some (.slice e))(hs:TS P e sz)(hz:TZ P e z0)(e9:(Nat.beq z0.cells.size sz,HG σ parts.toList,us.length,Nat.ble (n*sz) 4096)=(true,some us,n,true))(hf:PV sz 0 us rs)(kk:∀b D,(∀D₁∈Ds,Le D₁ D)→At D b 0 rs→WL P X bad all K Q os ((d,qS b n n)::σ) μ (D::Ds))(hN:Nat.blt d X.N=true:=by exact rfl)(hg:cZ all σ g:=by exact bRD):WL P X bad all K Q ((fl,ix)::os) σ μ Ds:=Z4 ho ht hs hz (bLZ (fun z=>z.1) e9) (bLZ (fun z=>z.2.1) e9) (bLZ (fun z=>z.2.2.1) e9) (bLZ (fun z=>z.2.2.2) e9) hf hN hg kk
theorem Sl.of_at{α:Type}{R:Rd α}{D:aC}{sz b n cap:Nat}{xs:List α}{rs:List Γ}(hA:At D b 0 rs)(hn:xs.length=n)(hc:n≤cap)(hb:n≤9223372036854775807)(h:∀i x,xs[i]?= some x→∃cs,R D x cs∧cs.length=sz∧(rs.drop (i*sz)).take sz=cs):Sl D R sz (qS b n cap) xs:=by
 subst hn;refine⟨_,cap,rfl,hc,hb,bLY ⟨b,0,rfl,fun i x hx=>?_⟩⟩;obtain⟨cs,hr,hl,hcs⟩:=h i x hx;refine⟨cs,hr,hl,fun j v hj=>?_⟩;have hlt:=(bLS.1 hj).1;rw[←hcs,bOU Yd,bOJ]at hj;have:=hA _ _ hj;simpa [Nat.add_assoc]using this
theorem Sl.ofInts{D:aC}{b cap:Nat}{l:List Int}{n:Nat}(hA:At D b 0 (ints l))(hn:l.length=n)(hc:n≤cap)(hb:n≤9223372036854775807):Sl D RI 1 (qS b n cap) l:=
 Sl.of_at hA hn hc hb fun i x hx=>⟨[qI x],rfl,rfl,by
  have h:=cW hx;have hl:=(bLS.1 h).1;rw[bNY,bNC hl];rw[bLR hl]at h;simp[bMQ h]⟩
theorem WD{f:FuncId}{xs ys:Array Operand}{vs us:List Γ}(ho:all[ix]?= some ⟨some d,.makeFunc (.func f) xs ys,ty,pos,aft,g⟩)(hx:x5 σ xs.toList=some vs)(hy:x5 σ ys.toList=some us)(hN:Nat.blt d X.N=true)(hg:cZ all σ g)
  (kk:WL P X bad all K Q os ((d,.func (.func f) vs.toArray us.toArray)::σ) μ Ds):WL P X bad all K Q ((fl,ix)::os) σ μ Ds:=
 cA ho rfl rfl hN hg (fun ρ hρ w'=>by
  have e1:xs.map ρ=vs.toArray:=by rw[←lO hρ hx,←bQQ]
  have e2:ys.map ρ=us.toArray:=by rw[←lO hρ hy,←bQQ]
  simp only[execOp,Instr.makeFunc,e1,e2,pure_bind,ε]) kk
theorem _root_.Go.Fs.Zax{f:FuncId}{xs:Array Operand}{ys:Array Operand}{vs:List Γ}{us:List Γ}(e9:(all[ix]?,x5 σ xs.toList,x5 σ ys.toList)=(some ⟨some d,.makeFunc (.func f) xs ys,ty,pos,aft,g⟩,some vs,some us))(kk:WL P X bad all K Q os ((d,.func (.func f) vs.toArray us.toArray)::σ) μ Ds)(hN:Nat.blt d X.N=true:=by exact rfl)(hg:cZ all σ g:=by exact bRD):WL P X bad all K Q ((fl,ix)::os) σ μ Ds:=WD (bLZ (fun z=>z.1) e9) (bLZ (fun z=>z.2.1) e9) (bLZ (fun z=>z.2.2) e9) hN hg kk
theorem sW{e:Θ}{vs:List Γ}(ho:all[ix]?= some ⟨some d,.box e x,ty,pos,aft,g⟩)(hx:ev σ x=some v)(hv:v.cells=vs.toArray)(hN:Nat.blt d X.N=true)(hg:cZ all σ g)
  (kk:∀b D,(∀D₁∈Ds,Le D₁ D)→At D b 0 vs→WL P X bad all K Q os ((d,qP b)::σ) μ (D::Ds)):WL P X bad all K Q ((fl,ix)::os) σ μ Ds:=by
 refine fJ ho rfl rfl hg fun a w hh=>?_
 obtain⟨h1,h2,h3,D,h4,h5,h6⟩:=id hh;have:(execOp a.eval ⟨some d,.box e x,ty,pos,aft,g⟩).run P w=.ok (.value (.pointer (some ⟨w.heap.size,0,none⟩))) {w with heap:=w.heap.push (.cells vs.toArray e (0,0))}:=by
  simp only[execOp,hh.eval hx,Instr.box,newVar,hv,Ω,jY,Ξ,ε]
 rw[this];obtain⟨D',hle,hD',hDo,hs'⟩:=h4.pushD vs e;refine⟨fun _=>pU _ _ _,kk w.heap.size D' (fun D₁ hD₁=>(h5 D₁ hD₁).trans hle) (fun j v hj=>by rw[hD'];simpa using hj) _ _ (Hl.put ⟨h1,h2,h3,D',hs',fun D₁ hD₁=>?_,h6.step (fun _ p hp=>bMF (GE.2 ⟨p,hp,rfl⟩)) (fun _=>⟨Yf,fun b hb _=>⟨dP hb,hDo b Yd⟩,rfl⟩) hs'.dom⟩ hN _)⟩
 rcases bLO.1 hD₁ with rfl|hD₁
 ·exact Le.refl _
 ·exact(h5 D₁ hD₁).trans hle
theorem _root_.Go.Fs.Zy{e:Θ}{vs:List Γ}(e9:(all[ix]?,ev σ x,v.cells)=(some ⟨some d,.box e x,ty,pos,aft,g⟩,some v,vs.toArray))(kk:∀b D,(∀D₁∈Ds,Le D₁ D)→At D b 0 vs→WL P X bad all K Q os ((d,qP b)::σ) μ (D::Ds))(hN:Nat.blt d X.N=true:=by exact rfl)(hg:cZ all σ g:=by exact bRD):WL P X bad all K Q ((fl,ix)::os) σ μ Ds:=sW (bLZ (fun z=>z.1) e9) (bLZ (fun z=>z.2.1) e9) (bLZ (fun z=>z.2.2) e9) hN hg kk
def dB{α:Type}(P:Program)(D:aC)(val:α→Γ)(fv:Γ)(p:α→Bool):Prop:=
 ∃f c1 c2,fv=.func (.func f) (List.toArray c1) (List.toArray c2)∧∀x D',Le D D'→Fn P f (c1++[val x]++c2).toArray D' fun _ v=>v=.bool (p x)
theorem dB.up{α:Type}{D D':aC}{val:α→Γ}{fv:Γ}{p:α→Bool}(h:dB P D val fv p)(hl:Le D D'):dB P D' val fv p:=by
 obtain⟨f,c1,c2,h1,h2⟩:=h;exact⟨f,c1,c2,h1,fun x D'' hl'=>h2 x D'' (hl.trans hl')⟩
theorem dB.of{α:Type}{D:aC}{val:α→Γ}{f:FuncId}{p:α→Bool}(h:∀x D',Fn P f #[val x] D' fun _ v=>v=.bool (p x)):dB P D val (.func (.func f) #[] #[]) p:=
 ⟨f,[],[],rfl,fun x D' _=>h x D'⟩
def bM(e:Θ)(sz:Nat)(v:Γ)(n:Nat)(cells:List Γ)(ν:aD):Prop:=
 (∃a,v=.slice a 0 0∧n=0∧cells=[]∧ν=[])∨
 (∃b cap junk,v=qS b n cap∧n≤cap∧ν=[(b,.cells (cells++junk).toArray e (0,0))]∧cells.length=n*sz∧(cells++junk).length=cap*sz)
theorem bM.nil{e:Θ}{sz:Nat}{a:Option Addr}:bM e sz (.slice a 0 0) 0 [] []:=bMF ⟨a,rfl,rfl,rfl,rfl⟩
theorem oJ{w:Δ}{b o:Nat}{vs:List Γ}{n:Nat}(hn:vs.length=n)(h:aRD w b o vs):(loadCells ⟨b,o,none⟩ n).run P w=.ok vs.toArray w:=by
 unfold loadCells;rw[wF n 0 #[] vs hn (fun j v hj=>by rw[show o+(0+j)=o+j by omega];exact h j v hj)]
 simp
def lD(D:aC)(x:Γ)(m:Nat)(xs:List Γ):Prop:=(∃a c,x=.slice a 0 c∧m=0∧xs=[])∨(∃b o c,x=.slice (some ⟨b,o,none⟩) m c∧At D b o xs)
theorem K4{D:aC}{w:Δ}{x:Γ}{m sz:Nat}{xs:List Γ}(h:lD D x m xs)(hl:xs.length=m*sz)(hw:∀b o,At D b o xs→aRD w b o xs):(Builtin.firstCells sz m x).run P w=.ok xs.toArray w:=by
 rcases h with⟨a,c,rfl,rfl,rfl⟩|⟨b,o,c,rfl,hA⟩
 ·cases a with
  |none=>rfl
  |some a=>simp[Builtin.firstCells,loadCells,loadCellsFrom]
 ·simp only[Builtin.firstCells];exact oJ hl (hw b o hA)
theorem KJ{D:aC}{w:Δ}{x:Γ}{m:Nat}{xs:List Γ}(h:lD D x m xs):(Builtin.lenOf x).run P w=.ok m w:=by
 rcases h with⟨a,c,rfl,rfl,rfl⟩|⟨b,o,c,rfl,hA⟩<;>rfl
theorem XW{need cap:Nat}(h:cap<need):Builtin.nextslicecap need cap≤2*need+768:=by
 unfold Builtin.nextslicecap;split
 ·omega
 ·split
  ·omega
  ·have key:∀(r c:Nat),c<need+need / 4+400→Builtin.growBy need r c≤2*need+768:=by
    intro r;induction r with
    |zero=>intro c hc;simp only[Builtin.growBy];omega
    |succ r ih=>
     intro c hc;simp only[Builtin.growBy];split
     ·omega
     ·exact ih _ Yd
   exact key _ _ Yd
theorem BY{w:Δ}{n:Nat}:(askRoom n).run P w=.ok () w:=by unfold askRoom;split<;>rfl
theorem N7(z:Array Γ)(n:Nat):(Builtin.zeroCells z n).size=n*z.size:=by simp[Builtin.zeroCells]
section run
variable{t t1 e tr:Θ}{sz:Nat}{z0:Γ}{i0:TypeInfo}{ats:Array Θ}
theorem rS(ht:P.underlying t=some (.slice e))(hat:ats[0]?= some t)(I:ats[1]?= some t1)(hk:P.underlying t1=some .string∨t1=t)(hs:TS P e sz){w:Δ}{a:Option Addr}{n cap m:Nat}{xv:Γ}{xs:List Γ}
  (hm:(Builtin.lenOf xv).run P w=.ok m w) (hx:(Builtin.firstCells sz m xv).run P w=.ok xs.toArray w) (hle:n+m≤cap) {w':Δ}
  (hst:(match a with|some a=>storeCells (a.add (n*sz)) xs|none=>pure ():Sem Unit).run P w=.ok () w'):
  (Builtin.append_ ats tr #[.slice a n cap,xv]).run P w=.ok (.slice a (n+m) cap) w':=by
 have R:(#[Value.slice a n cap,xv]:Array Γ)[0]?= some (.slice a n cap):=rfl;have U:(#[Value.slice a n cap,xv]:Array Γ)[1]?= some xv:=rfl;obtain⟨dd,O,hdd⟩:∃dd,P.underlying t1=some dd∧(dd=.string∨dd=.slice e):=by
  rcases hk with hk|rfl
  ·exact⟨_,hk,bMF rfl⟩
  ·exact⟨_,ht,bLY rfl⟩
 unfold Builtin.append_;rcases hdd with rfl|rfl;all_goals
  simp only[hat,I,R,U,Ω,TU.of ht w,TU.of O w,Ξ,hs w,ε,bNN,bOO,hm,Bool.not_false,bOC,hle,hx];cases a with
  |none=>
   have:w'=w:=by
    have h:(pure ():Sem Unit).run P w=.ok () w':=hst;rw[ε]at h;cases h;rfl
   subst this;rfl
  |some a=>
   have h:(storeCells (a.add (n*sz)) xs).run P w=.ok () w':=hst;simp only[Ω,h,Ξ,ε]
theorem wC(ht:P.underlying t=some (.slice e))(hat:ats[0]?= some t)(I:ats[1]?= some t1)(hk:P.underlying t1=some .string∨t1=t)(hs:TS P e sz)(hz:TZ P e z0)(hi:P.info? e=some i0){w:Δ}{a:Option Addr}{n cap m:Nat}{xv:Γ}{old xs:List Γ}
  (hm:(Builtin.lenOf xv).run P w=.ok m w) (hx:∀w',w'.heap=w.heap→(Builtin.firstCells sz m xv).run P w'=.ok xs.toArray w') (ho:∀w',w'.heap=w.heap→(Builtin.firstCells sz n (.slice a n cap)).run P w'=.ok old.toArray w')
  (hgt:cap<n+m) (hlen:n+m≤10000000) (hb:1≤i0.bytes∧i0.bytes≤4096):
  ∃c,n+m≤c∧c≤9223372036854775807∧(Builtin.append_ ats tr #[.slice a n cap,xv]).run P w=.ok (.slice (some ⟨w.heap.size,0,none⟩) (n+m) c)
   {w with drawn:=w.drawn+1,heap:=w.heap.push (.cells (old.toArray++xs.toArray++Builtin.zeroCells z0.cells (c-(n+m))) e (0,0))}:=by
 have R:(#[Value.slice a n cap,xv]:Array Γ)[0]?= some (.slice a n cap):=rfl;have U:(#[Value.slice a n cap,xv]:Array Γ)[1]?= some xv:=rfl;have hti:∀w,(typeInfo e).run P w=.ok i0 w:=fun w=>by simp[typeInfo,program,Sem.run,hi,go_sem]
 have hcapn:=XW hgt;have hbig:¬Builtin.nextslicecap (n+m) cap*i0.bytes>2^48:=by
  have:Builtin.nextslicecap (n+m) cap*i0.bytes≤(2*(n+m)+768)*4096:=bQJ hcapn hb.2;omega
 have hch:(choose (.appendCap (n+m) cap e)).run P w=.ok ((n+m)+(w.tape w.drawn (.appendCap (n+m) cap e))%(2^63-(n+m))) {w with drawn:=w.drawn+1}:=by
  simp[choose,Sem.run,Question.forced,Question.cut]
 refine⟨(n+m)+(w.tape w.drawn (.appendCap (n+m) cap e))%(2^63-(n+m)),Nat.le_add_right _ _,by have:=Nat.mod_lt (w.tape w.drawn (.appendCap (n+m) cap e)) (show 0<2^63-(n+m) by omega);omega,?_⟩;obtain⟨dd,O,hdd⟩:∃dd,P.underlying t1=some dd∧(dd=.string∨dd=.slice e):=by
  rcases hk with hk|rfl
  ·exact⟨_,hk,bMF rfl⟩
  ·exact⟨_,ht,bLY rfl⟩
 unfold Builtin.append_;have hnot:¬(n+m≤cap):=by omega
 have hmax:¬(((n+m:Nat):Int)>IntKind.i64.max∧(false=true∨i0.bytes=0)):=by
  rintro⟨_,h|h⟩
  ·cases h
  ·omega
 rcases hdd with rfl|rfl;all_goals
  simp only[hat,I,R,U,Ω,TU.of ht w,TU.of O w,Ξ,hs w,ε,bNN,bOO,hm,Bool.not_false,bOC,hnot,hti];rw[bLX (by rintro⟨_,h|h⟩;exact h.elim;omega)]
  simp only[Ω,Ξ,hti];rw[bLX hbig];have hzz:∀w,(zeroValue e).run P w=.ok z0 w:=hz;simp only[Ω,ε,Ξ,hti,hch,BY,hzz,ho {w with drawn:=w.drawn+1} rfl,hx {w with drawn:=w.drawn+1} rfl,jY]
theorem G4(ht:P.underlying t=some (.slice e))(hat:ats[0]?= some t)(I:ats[1]?= some t)(hs:TS P e sz){w:Δ}{a:Option Addr}{n cap m:Nat}{xv:Γ}{xs:List Γ}
  (hm:(Builtin.lenOf xv).run P w=.ok m w) (hx:(Builtin.firstCells sz m xv).run P w=.ok xs.toArray w) (hle:n+m≤cap) {w':Δ}
  (hst:(match a with|some a=>storeCells (a.add (n*sz)) xs|none=>pure ():Sem Unit).run P w=.ok () w'):
  (Builtin.append_ ats tr #[.slice a n cap,xv]).run P w=.ok (.slice a (n+m) cap) w':=rS ht hat I (bLY rfl) hs hm hx hle hst
theorem x7(ht:P.underlying t=some (.slice e))(hat:ats[0]?= some t)(I:ats[1]?= some t)(hs:TS P e sz)(hz:TZ P e z0)(hi:P.info? e=some i0){w:Δ}{a:Option Addr}{n cap m:Nat}{xv:Γ}{old xs:List Γ}
  (hm:(Builtin.lenOf xv).run P w=.ok m w) (hx:∀w',w'.heap=w.heap→(Builtin.firstCells sz m xv).run P w'=.ok xs.toArray w') (ho:∀w',w'.heap=w.heap→(Builtin.firstCells sz n (.slice a n cap)).run P w'=.ok old.toArray w')
  (hgt:cap<n+m) (hlen:n+m≤10000000) (hb:1≤i0.bytes∧i0.bytes≤4096):
  ∃c,n+m≤c∧(Builtin.append_ ats tr #[.slice a n cap,xv]).run P w=.ok (.slice (some ⟨w.heap.size,0,none⟩) (n+m) c)
   {w with drawn:=w.drawn+1,heap:=w.heap.push (.cells (old.toArray++xs.toArray++Builtin.zeroCells z0.cells (c-(n+m))) e (0,0))}:=by
 obtain⟨c,h1, -,h2⟩:=wC (tr:=tr) ht hat I (bLY rfl) hs hz hi hm hx ho hgt hlen hb;exact⟨c,h1,h2⟩
end run
def UF(v:Γ):Prop:=∀a n c,v=.slice a n c→c≤9223372036854775807
theorem DI{a:Option Addr}{n c:Nat}(h:c≤9223372036854775807):UF (.slice a n c):=fun _ _ _ e=>by cases e;exact h
theorem FI{A B ν:aD}{t t1 e tr:Θ}{sz n m:Nat}{cells xs:List Γ}{xv:Γ}{z0:Γ}{ats:Array Θ}
  (ho:all[ix]?= some ⟨some d,.call {callee:=.builtin .append,args:=#[x,y],argTypes:=ats},tr,pos,aft,g⟩) (ht:P.underlying t=some (.slice e)) (hat:ats[0]?= some t) (I:ats[1]?= some t1) (hk:P.underlying t1=some .string∨t1=t)
  (hs:TS P e sz) (hz:TZ P e z0) (V:Nat.beq z0.cells.size sz=true) (hi:(P.info? e).map (fun i=>Nat.ble 1 i.bytes&&Nat.ble i.bytes 4096)=some true) (O:Nat.ble 1 sz=true)
  (hx:ev σ x=some v) (hy:ev σ y=some xv) (hacc:bM e sz v n cells ν) (hsrc:∀a w,Hl X σ (A++ν++B) Ds a w→(Builtin.lenOf xv).run P w=.ok m w∧∀w',w'.heap=w.heap→(Builtin.firstCells sz m xv).run P w'=.ok xs.toArray w') (hxl:xs.length=m*sz) (hcl:cells.length=n*sz) (hx1:∀u∈xs,cell1 u=true) (hlen:n+m≤10000000)
  (hfl:fl=false∨∀p∈ν,p.1∈bad)
  (hN:Nat.blt d X.N=true) (hg:cZ all σ g)
  (kk:∀v' ν',bM e sz v' (n+m) (cells++xs) ν'→(UF v→UF v')→WL P X bad all K Q os ((d,v')::σ) (A++ν'++B) Ds):WL P X bad all K Q ((fl,ix)::os) σ (A++ν++B) Ds:=by
 refine fJ ho rfl rfl hg fun a w hh=>?_
 obtain⟨h1,h2,h3,D,h4,h5,h6⟩:=id hh;obtain⟨i0,hi,Y,Z⟩:∃i0,P.info? e=some i0∧1≤i0.bytes∧i0.bytes≤4096:=by
  cases h:P.info? e with
  |none=>simp[h]at hi
  |some i=>simp[h]at hi;exact⟨i,rfl,hi⟩
 have hsz:1≤sz:=bNZ O;have hz1':=bNO V;have hex:(execOp a.eval ⟨some d,.call {callee:=.builtin .append,args:=#[x,y],argTypes:=ats},tr,pos,aft,g⟩).run P w=
   ((Builtin.append_ ats tr #[v,xv]).run P w).andThen fun r w'=>.ok (.value r) w':=by
  simp only[execOp,resolve,pure_bind,invoke,builtin];have e1:(#[x,y].map a.eval)=#[v,xv]:=by simp[hh.eval hx,hh.eval hy]
  rw[e1,Ω];simp only[ε]
 rw[hex];obtain⟨hm,hfc⟩:=hsrc a w hh;have grow:∀(old:Option Addr) (cap:Nat),v=.slice old n cap→cap<n+m→(∀w',w'.heap=w.heap→(Builtin.firstCells sz n (.slice old n cap)).run P w'=.ok cells.toArray w')→
   Oper.uponIn (FW X.r) 0 P ⟨some d,.call {callee:=.builtin .append,args:=#[x,y],argTypes:=ats},tr,pos,aft,g⟩ a (fun a' w'=>(fl=true→pV bad w w')∧vG X.r bad P all K Q (iZ all os) a' w') Q
    (((Builtin.append_ ats tr #[v,xv]).run P w).andThen fun r w'=>.ok (.value r) w'):=by
  intro old cap hv hgt hold;obtain⟨c,hc,hcB,hrun⟩:=wC (tr:=tr) ht hat I hk hs hz hi hm hfc hold hgt hlen ⟨Y,Z⟩;rw[hv,hrun];obtain⟨junk,hjunk⟩:∃junk:List Γ,cells.toArray++xs.toArray++Builtin.zeroCells z0.cells (c-(n+m))=(cells++xs++junk).toArray∧(cells++xs++junk).length=c*sz:=by
   refine⟨(Builtin.zeroCells z0.cells (c-(n+m))).toList,Yf,?_⟩;have:=N7 z0.cells (c-(n+m));simp only[bLT,Array.length_toList,this,hz1',hcl,hxl];rw[←bOK,←bOK];congr 1;omega
  have hpush:=h4.push (.cells (cells++xs++junk).toArray e (0,0)) rfl;simp only[Ξ];rw[hjunk.1];refine⟨fun _=>⟨Yf,fun b hb _=>dP hb⟩,?_⟩;have hst:iX X.h0 X.lo X.D0 X.mods (A++[(w.heap.size,.cells (cells++xs++junk).toArray e (0,0))]++B) D {w with drawn:=w.drawn+1,heap:=w.heap.push (.cells (cells++xs++junk).toArray e (0,0))}:=by
   have h:=hpush.sub (μ':=A++[(w.heap.size,.cells (cells++xs++junk).toArray e (0,0))]++B) (fun p hp=>by
    simp only[bMD,bLO]at hp ⊢
    rcases hp with(hp|hp)|hp
    ·exact bLY (bMF (bMF hp))
    ·exact bMF (hp.resolve_right Yf)
    ·exact bLY (bLY hp)) (by
    have hn:=hpush.nd;simp only[bMT,bME,bNP,bMD,bQX]at hn;obtain⟨⟨⟨ha,_⟩,hb⟩,hn⟩:=hn;rw[bMB,bMB]at hn;simp only[bME,bMT,bQB];rw[bMB,bMB];refine⟨⟨hn.1.1,Yf,fun q hq r hr=>?_⟩,hn.2.1,fun q hq r hr=>?_⟩
    ·simp only[bMI]at hr;rintro rfl;exact ha (hr▸hq)
    ·simp only[bMD,bMI]at hq;rcases hq with hq|hq
     ·exact hn.2.2 q (bMA _ hq) r hr
     ·rintro rfl;exact hb (hq▸hr))
   exact⟨h.hlo,h.size,h.old,h.dold,h.agr,h.box,h.nd,h.fz,h.env⟩
  exact kk _ _ (bLY ⟨_,c,junk,rfl,hc,rfl,by simp[hcl,hxl,bOK],hjunk.2⟩) (fun _=>DI hcB) _ _ (Hl.put ⟨h1,h2,h3,D,hst,h5,h6.step (fun _ p hp=>by
   rcases bMD.1 hp with hp|hp
   ·rcases bMD.1 hp with hp|hp
    ·exact bMF (GE.2 ⟨p,bMA _ (bMA _ hp),rfl⟩)
    ·exact bLY (by rw[bMI.1 hp];exact bMH _)
   ·exact bMF (GE.2 ⟨p,GT _ hp,rfl⟩)) (fun _=>⟨Yf,fun b hb _=>⟨dP hb,rfl⟩,rfl⟩) hst.dom⟩ hN _)
 rcases hacc with⟨old,hv,hn,hc,hν⟩|⟨b,cap,junk,hv,hncap,hν,hl1,R⟩
 ·subst hn;subst hc;subst hν
  by_cases h0:m=0
  ·subst h0;have hxs:xs=[]:=bPD.1 (by simpa using hxl);subst hxs;rw[hv,rS (tr:=tr) (w':=w) ht hat I hk hs hm (hfc w rfl) (bMH _) (by cases old<;>rfl)]
   refine⟨fun _=>pV.refl _ _,kk _ [] (bMF ⟨old,rfl,rfl,rfl,rfl⟩) (fun _=>DI Yu) _ _ (Hl.put hh hN _)⟩
  ·refine grow old 0 hv Yd fun w' _=>?_
   cases old with
   |none=>rfl
   |some a=>simp[Builtin.firstCells,loadCells,loadCellsFrom]
 ·subst hν;have hbx:=(h4.box (b,.cells (cells++junk).toArray e (0,0)) Yf).1;by_cases hfit:n+m≤cap
  ·have hjl:xs.length≤junk.length:=by
    have h1:(n+m)*sz≤cap*sz:=bPG sz hfit;rw[←R,bOK,bLT,hcl]at h1;omega
   have U:n*sz+0+xs.length≤(cells++junk).length:=by rw[bLT,hcl];omega
   obtain⟨w',hr,hw'⟩:=kV (P:=P) xs 0 w b (n*sz) (cells++junk) e hbx U hx1;have htk:(cells++junk).take (n*sz+0)++xs++(cells++junk).drop (n*sz+0+xs.length)=cells++xs++junk.drop xs.length:=by
    rw[←hcl,bRC,bQS,bPZ,bNK Yd];simp
   rw[htk]at hw';rw[hv,rS (tr:=tr) (w':=w') ht hat I hk hs hm (hfc w rfl) hfit (by
    show(storeCells ((⟨b,0,none⟩:Addr).add (n*sz)) xs).run P w=_;rw[gY,bOM];exact hr)]
   have hHas:bR (A++[(b,.cells (cells++junk).toArray e (0,0))]++B) b (.cells (cells++junk).toArray e (0,0)) (.cells (cells++xs++junk.drop xs.length).toArray e (0,0)) (A++[(b,.cells (cells++xs++junk.drop xs.length).toArray e (0,0))]++B):=by
    rw[bMC A,bMC A];exact .app .head
   have hst:=h4.set hHas hw' rfl;refine⟨fun hf=>⟨Xax,fun c hc hcb=>?_⟩,kk _ _ (bLY ⟨b,cap,junk.drop xs.length,rfl,hfit,rfl,by simp[hcl,hxl,bOK],?_⟩) (fun hB=>DI (hB _ _ _ hv)) _ _ (Hl.put ⟨h1,h2,h3,D,hst,h5,h6.step (fun _ p hp=>bMF Yt) (fun _=>lJ hw' (GE.2 ⟨_,hHas.mem,rfl⟩)) hst.dom⟩ hN _)⟩
   ·have hb:b∈bad:=by
     rcases hfl with h|h
     ·rw[hf]at h;cases h
     ·exact h _ (bMI.2 rfl)
    rw[hw'.1,bOR (by rintro rfl;exact hcb hb)]
   ·rw[←R];simp;omega
  ·refine grow _ cap hv Yd fun w' hw'=>?_
   simp only[Builtin.firstCells];refine oJ hcl fun j u hj=>sK (cs:=(cells++junk).toArray) (by rw[hw'];exact hbx) ?_
   have:=(bLS.1 hj).1;simp only[List.getElem?_toArray,bOM];rw[bNX this];exact hj
theorem aHW{A B ν:aD}{t e tr:Θ}{sz n m:Nat}{cells xs:List Γ}{xv:Γ}{z0:Γ}{ats:Array Θ}
  (ho:all[ix]?= some ⟨some d,.call {callee:=.builtin .append,args:=#[x,y],argTypes:=ats},tr,pos,aft,g⟩) (ht:P.underlying t=some (.slice e)) (hat:ats[0]?= some t) (I:ats[1]?= some t)
  (hs:TS P e sz) (hz:TZ P e z0) (R:Nat.beq z0.cells.size sz=true) (hi:(P.info? e).map (fun i=>Nat.ble 1 i.bytes&&Nat.ble i.bytes 4096)=some true) (O:Nat.ble 1 sz=true)
  (hx:ev σ x=some v) (hy:ev σ y=some xv) (hacc:bM e sz v n cells ν) (hsrc:∀a w,Hl X σ (A++ν++B) Ds a w→(Builtin.lenOf xv).run P w=.ok m w∧∀w',w'.heap=w.heap→(Builtin.firstCells sz m xv).run P w'=.ok xs.toArray w') (hxl:xs.length=m*sz) (hcl:cells.length=n*sz) (hx1:∀u∈xs,cell1 u=true) (hlen:n+m≤10000000)
  (hfl:fl=false∨∀p∈ν,p.1∈bad)
  (hN:Nat.blt d X.N=true) (hg:cZ all σ g)
  (kk:∀v' ν',bM e sz v' (n+m) (cells++xs) ν'→WL P X bad all K Q os ((d,v')::σ) (A++ν'++B) Ds):WL P X bad all K Q ((fl,ix)::os) σ (A++ν++B) Ds:=
 FI ho ht hat I (bLY rfl) hs hz R hi O hx hy hacc hsrc hxl hcl hx1 hlen hfl hN hg fun v' ν' h _=>kk v' ν' h

theorem iX.freeze{h0:H0}{lo:Nat}{D0 D:aC}{mods:List Nat}{A B:aD}{w:Δ}{b:Nat}{cells junk:List Γ}{e:Θ}(h:iX h0 lo D0 mods (A++[(b,.cells (cells++junk).toArray e (0,0))]++B) D w)(hb:lo≤b):
  ∃D',Le D D'∧D' b=cells∧(∀c,c≠b→D' c=D c)∧iX h0 lo D0 mods (A++B) D' w:=by
 have hx:=h.box (b,.cells (cells++junk).toArray e (0,0)) Yf;have hnd:b∉(A++B).map (·.1):=by
  have hn:=h.nd;simp only[bME,bMT,bQB]at hn ⊢
  rw[bMB,bMB]at hn;simp only[bMD,bQX];exact⟨fun hm=>hn.1.2.2 b hm b Yf rfl,fun hm=>hn.2.2 b Yf b hm rfl⟩
 have hlo:=h.hlo;refine⟨fun c=>if c=b then cells else D c,⟨fun c=>?_,by simp only[Ne.symm (h.agr.ne0 hx.2.1),bOO]⟩,Yf,(fun c hc=>by simp[hc]),h.hlo,h.size,h.old,fun c hc=>?_,h.agr.of (fun c hc=>?_) (by simp only[Ne.symm (h.agr.ne0 hx.2.1),bOO]) rfl,fun p hp=>?_,?_,(fun p hp=>h.fz p (by rcases bMD.1 hp with hp|hp<;>simp[hp])),h.env⟩
 ·by_cases hcb:c=b
  ·subst hcb;rw[hx.2.1];exact bQU
  ·simp[hcb]
 ·have:c≠b:=by omega
  simp only[this,bOO];exact h.dold c hc
 ·by_cases hcb:c=b
  ·subst hcb;exact⟨_,e,_,hx.1,Yf⟩
  ·simp only[hcb,bOO]at hc ⊢;exact h.agr.1 c hc
 ·have hp':p∈A++[(b,Obj.cells (cells++junk).toArray e (0,0))]++B:=by
   rcases bMD.1 hp with hp|hp
   ·exact bMA _ (bMA _ hp)
   ·exact GT _ hp
  obtain⟨h1,h2,h3⟩:=h.box p hp';have:p.1≠b:=by rintro rfl;exact hnd (GE.2 ⟨p,hp,rfl⟩)
  exact⟨h1,by simp only[this,bOO];exact h2,h3⟩
 ·have hn:=h.nd;simp only[bME,bMT,bQB]at hn ⊢
  rw[bMB,bMB]at hn;rw[bMB];exact⟨hn.1.1,hn.2.1,fun q hq r hr=>hn.2.2 q (bMA _ hq) r hr⟩
theorem aU{A B ν:aD}{D₁:aC}{t e tr:Θ}{sz n m:Nat}{cells xs:List Γ}{xv:Γ}{z0:Γ}{ats:Array Θ}
  (ho:all[ix]?= some ⟨some d,.call {callee:=.builtin .append,args:=#[x,y],argTypes:=ats},tr,pos,aft,g⟩) (ht:P.underlying t=some (.slice e)) (hat:ats[0]?= some t) (I:ats[1]?= some t)
  (hs:TS P e sz) (hz:TZ P e z0) (R:Nat.beq z0.cells.size sz=true) (hi:(P.info? e).map (fun i=>Nat.ble 1 i.bytes&&Nat.ble i.bytes 4096)=some true) (O:Nat.ble 1 sz=true)
  (hx:ev σ x=some v) (hy:ev σ y=some xv) (hacc:bM e sz v n cells ν) (hsrc:lD D₁ xv m xs) (hD:D₁∈Ds) (hxl:xs.length=m*sz) (hcl:cells.length=n*sz) (hx1:∀u∈xs,cell1 u=true) (hlen:n+m≤10000000)
  (hfl:fl=false∨∀p∈ν,p.1∈bad)
  (hN:Nat.blt d X.N=true) (hg:cZ all σ g)
  (kk:∀v' ν',bM e sz v' (n+m) (cells++xs) ν'→WL P X bad all K Q os ((d,v')::σ) (A++ν'++B) Ds):WL P X bad all K Q ((fl,ix)::os) σ (A++ν++B) Ds:=by
 refine aHW ho ht hat I hs hz R hi O hx hy hacc (fun a w hh=>?_) hxl hcl hx1 hlen hfl hN hg kk;obtain⟨h1,h2,h3,D,h4,h5,U⟩:=id hh;refine⟨KJ hsrc,fun w' hw'=>K4 hsrc hxl fun b o hA j u hj=>?_⟩;have:=h4.agr.cell ((h5 D₁ hD).get (hA j u hj));unfold World.cell? at this ⊢
 rw[hw'];exact this
def kH(D:aC)(v:Γ)(n:Nat)(cells:List Γ):Prop:=(∃a,v=.slice a 0 0∧n=0∧cells=[])∨(∃b cap,v=qS b n cap∧n≤cap∧At D b 0 cells)
theorem Hl.freeze{A B ν:aD}{e sz n:Nat}{cells:List Γ}{a:Act}{w:Δ}(hacc:bM e sz v n cells ν)(hmods:X.mods=[])(hh:Hl X σ (A++ν++B) Ds a w):
  ∃D',(∀D₁∈Ds,Le D₁ D')∧kH D' v n cells∧Hl X σ (A++B) (D'::Ds) a w:=by
 obtain⟨h1,h2,h3,D,h4,h5,I⟩:=hh;rcases hacc with⟨old,hv,hn,hc,hν⟩|⟨b,cap,junk,hv,hncap,hν,hl1,O⟩
 ·subst hν;refine⟨D,h5,bMF ⟨old,hv,hn,hc⟩,h1,h2,h3,D,by simpa using h4,fun D₁ hD₁=>?_,by simpa using I⟩;rcases bLO.1 hD₁ with rfl|hD₁
  ·exact Le.refl _
  ·exact h5 D₁ hD₁
 ·subst hν;have hb:=(h4.box (b,.cells (cells++junk).toArray e (0,0)) Yf).2.2;have hb':=hb.resolve_right (by rw[hmods];simp)
  obtain⟨D',hle,hD',hDo,hs⟩:=h4.freeze hb';refine⟨D',fun D₁ hD₁=>(h5 D₁ hD₁).trans hle,bLY ⟨b,cap,hv,hncap,fun j u hj=>by rw[hD',bOM];exact hj⟩,h1,h2,h3,D',hs,fun D₁ hD₁=>?_,I.step (fun _ p hp=>bMF (GE.2 ⟨p,Xcw,rfl⟩)) (fun _=>⟨bMH _,fun c _ hn=>⟨rfl,hDo c (by rintro rfl;exact hn Yf)⟩,rfl⟩) hs.dom⟩
  rcases bLO.1 hD₁ with rfl|hD₁
  ·exact Le.refl _
  ·exact(h5 D₁ hD₁).trans hle
theorem SB{A B ν:aD}{e sz n:Nat}{cells:List Γ}(hacc:bM e sz v n cells ν)(hmods:X.mods=[])(kk:∀D,(∀D₁∈Ds,Le D₁ D)→kH D v n cells→WL P X bad all K Q os σ (A++B) (D::Ds)):WL P X bad all K Q os σ (A++ν++B) Ds:=by
 intro a w hh;obtain⟨D',h1,h2,h3⟩:=hh.freeze hacc hmods;exact kk D' h1 h2 a w h3
theorem zE{c:Code}{A B ν:aD}{e sz n:Nat}{cells:List Γ}(hacc:bM e sz v n cells ν)(hmods:X.mods=[])(kk:∀D,(∀D₁∈Ds,Le D₁ D)→kH D v n cells→WC P X Q c σ (A++B) (D::Ds)):WC P X Q c σ (A++ν++B) Ds:=by
 intro a w hh;obtain⟨D',h1,h2,h3⟩:=hh.freeze hacc hmods;exact kk D' h1 h2 a w h3
theorem dU{T:Act→Δ→Prop}{A B ν:aD}{e sz n:Nat}{cells:List Γ}(hacc:bM e sz v n cells ν)(hmods:X.mods=[])(kk:∀D,(∀D₁∈Ds,Le D₁ D)→kH D v n cells→∀a w,Hl X σ (A++B) (D::Ds) a w→T a w):∀a w,Hl X σ (A++ν++B) Ds a w→T a w:=by
 intro a w hh;obtain⟨D',h1,h2,h3⟩:=hh.freeze hacc hmods;exact kk D' h1 h2 a w h3
theorem kH.sl{α:Type}{R:Rd α}{D:aC}{sz n:Nat}{cells:List Γ}{xs:List α}(h:kH D v n cells)(hn:xs.length=n)(hb:n≤9223372036854775807)(he:∀i x,xs[i]?= some x→∃cs,R D x cs∧cs.length=sz∧(cells.drop (i*sz)).take sz=cs):Sl D R sz v xs:=by
 rcases h with⟨a,hv,I,hc⟩|⟨b,cap,hv,hc,hA⟩
 ·subst I;have:xs=[]:=bPD.1 hn;subst this;subst hv
  exact⟨a,0,rfl,bMH _,Yf,bMF rfl⟩
 ·subst hv;exact Sl.of_at hA hn hc hb he
theorem kH.ints{D:aC}{n:Nat}{l:List Int}(h:kH D v n (ints l))(hn:l.length=n)(hb:n≤9223372036854775807):Sl D RI 1 v l:=
 h.sl hn hb fun i x hx=>⟨[qI x],rfl,rfl,by
  have h:=cW hx;have hl:=(bLS.1 h).1;rw[bNY,bNC hl];rw[bLR hl]at h;simp[bMQ h]⟩
theorem lD.lit{D:aC}{b m c:Nat}{xs:List Γ}(h:At D b 0 xs):lD D (qS b m c) m xs:=bLY ⟨b,0,c,rfl,h⟩
theorem lD.ints{D:aC}{l:List Int}(h:Sl D RI 1 v l):lD D v l.length (ints l):=by
 obtain⟨a,cap,rfl,h1,h2,h3⟩:=h;rcases h3 with rfl|⟨b,o,rfl,h3⟩
 ·exact bMF ⟨a,cap,rfl,rfl,rfl⟩
 ·refine bLY ⟨b,o,cap,rfl,fun j v hj=>?_⟩;simp only[Fs.ints,bNB,bOY]at hj;obtain⟨n,hn,rfl⟩:=hj;obtain⟨cs,hr,hc,hA⟩:=h3 j n hn;obtain rfl:cs=[qI n]:=hr;have:=hA 0 _ rfl;simpa using this
def M7(β:List Nat)(D:aC)(w:Δ)(D':aC)(w':Δ):Prop:=w.heap.size≤w'.heap.size∧Le D D'∧∀b∈β,w'.heap[b]?= w.heap[b]?∧D' b=D b
abbrev vZ:=List Nat→aC→Δ→Prop
def jG(P:Program)(l:Nat)(vs:List Γ)(w:Δ)(R:Bool→aC→Δ→Prop):Prop:=
 ∃fn tmps assign body,(Instr.yield l vs.toArray).run P w=.ok (.round l fn tmps assign body) w∧aPS P l fn tmps assign body w fun e w'=>∃b D',e=.returned (.bool b)∧R b D' w'
def Cx.withEx(X:Cx)(J:vZ):Cx:={X with ex:=some J}
theorem aYL{J J1 J0:vZ}{l:Nat}{c:Operand}{xs:Array Operand}{ats:Array Θ}{vs:List Γ}(ho:all[ix]?= some ⟨some d,.call {callee:=.value c,args:=xs,argTypes:=ats},ty,pos,aft,g⟩)
  (hc:ev σ c=some (.func (.yield l) #[] #[])) (hxs:x5 σ xs.toList=some vs) (hex:X.ex=some J) (hfl:fl=false) (h0:X.h0=⟨#[],none⟩) (_hm:X.mods=[]) (I:V6 X.lo J1) (O:V6 X.lo J0)
  (hY:∀D w,I4 X.lo D w→J (μ.map (·.1)) D w→(∀p∈μ,p.1<w.heap.size)→(∀D₁∈Ds,Le D₁ D)→jG P l vs w fun b D' w'=>I4 X.lo D' w'∧M7 (μ.map (·.1)) D w D' w'∧(if b then J1 (μ.map (·.1)) D' w' else J0 (μ.map (·.1)) D' w'))
  (hN:Nat.blt d X.N=true) (hg:cZ all σ g)
  (U:WL P (X.withEx J1) bad all K Q os ((d,.bool true)::σ) μ Ds) (V:WL P (X.withEx J0) bad all K Q os ((d,.bool false)::σ) μ Ds):WL P X bad all K Q ((fl,ix)::os) σ μ Ds:=by
 refine fJ ho rfl rfl hg fun a w hh=>?_
 obtain⟨h1,h2,h3,D,h4,h5,R⟩:=id hh;have hJ:J (μ.map (·.1)) D w:=by unfold S2 at R;rw[hex]at R;exact R.2
 obtain⟨fn,tmps,assign,body,hy,hr⟩:=hY D w h4.dom hJ (fun p hp=>bO (h4.box p hp).1) h5;have e:xs.map a.eval=vs.toArray:=by rw[←lO (fun _ _ hx=>hh.eval hx) hxs,←bQQ]
 have hrun:(execOp a.eval ⟨some d,.call {callee:=.value c,args:=xs,argTypes:=ats},ty,pos,aft,g⟩).run P w=.ok (.round l fn tmps assign body) w:=by
  simp only[execOp,resolve,hh.eval hc,Deferred.ofValue,pure_bind,invoke,e];rw[←hy];simp
 rw[hrun];refine⟨fun h=>Xac,(EE hr).mono ?_⟩;rintro e' w' ⟨b,D',rfl,hd',hh',hb⟩;have hst:iX X.h0 X.lo X.D0 X.mods μ D' w':=by
  refine⟨h4.hlo,hd'.2,(fun b hb=>Xbj),(fun b hb=>Xbj),hd'.1,fun p hp=>?_,h4.nd,h4.fz,fun e he=>by rw[h0]at he;cases he⟩;obtain⟨p1,p2,p3⟩:=h4.box p hp;obtain⟨Y,Z⟩:=hh'.2.2 p.1 (GE.2 ⟨p,hp,rfl⟩);exact⟨Y.trans p1,Z.trans p2,p3⟩
 have hds:∀D₁∈Ds,Le D₁ D':=fun D₁ hD₁=>(h5 D₁ hD₁).trans hh'.2.1
 refine⟨(fun h=>by rw[hfl]at h;cases h),?_⟩;cases b with
 |true=>
  refine U _ _ (Hl.put (X:=X.withEx J1) ⟨h1,h2,h3,D',hst,hds,⟨I,hb⟩⟩ hN _)
 |false=>
  refine V _ _ (Hl.put (X:=X.withEx J0) ⟨h1,h2,h3,D',hst,hds,⟨O,hb⟩⟩ hN _)

def Xj(N lo:Nat)(J:vZ):Cx:=⟨none,N,[],⟨#[],none⟩,lo,fun _=>[],[],some J⟩
def SJ(lo:Nat)(J:vZ)(μ:aD)(Ds:List aC)(w:Δ):Prop:=
 ∃D,iX ⟨#[],none⟩ lo (fun _=>[]) [] μ D w∧(∀D₁∈Ds,Le D₁ D)∧S2 (Xj 0 lo J) μ D w
def bJB(P:Program)(f:FuncId)(args:List Γ)(lo:Nat)(J:vZ)(μ:aD)(Ds:List aC)(post:Γ→vZ→aD→Prop):Prop:=
 EF P f∧∀w,SJ lo J μ Ds w→Calls P f args.toArray w fun e w'=>∃v J' μ',e=.returned v∧SJ lo J' μ' Ds w'∧post v J' μ'
def AS(lo:Nat)(Ds:List aC)(post:Γ→vZ→aD→Prop):Ending→Δ→Prop:=fun e w'=>∃v J' μ',e=.returned v∧SJ lo J' μ' Ds w'∧post v J' μ'
theorem c8{fn:Func}{lo:Nat}{post:Γ→vZ→aD→Prop}:NP (bodyPost P fn (AS lo Ds post)):=by
 rintro c a w ⟨_,v,D',μ',h,_⟩;cases h
theorem U6{f:FuncId}{fn:Func}{c:Code}{args:List Γ}{lo:Nat}{J:vZ}{post:Γ→vZ→aD→Prop}(N:Nat)(hf:P.funcs[f]?= some fn)(hn:(fn.name== "runtime.NumGoroutine")=false)(hb:fn.body=some c)(hN:fn.ntmps=N)(hsz:Nat.ble args.length N=true)
  (h:WC P (Xj N lo J) (bodyPost P fn (AS lo Ds post)) c (jJ 0 args) μ Ds):bJB P f args lo J μ Ds post:=by
 refine⟨EF.of hf hn hb,fun w hw=>?_⟩;subst hN;have hsz:=bNZ hsz;obtain⟨D,hs,hds,hex⟩:=hw;refine(dZ (r:=none) (n:=0)).1 (callsIn_of_wp (R:=AS lo Ds post) hf hb bRD (h _ w ⟨?_,(fun s v hs=>?_),rfl,D,hs,hds,hex⟩) rfl)
 ·simp[Xj];omega
 ·obtain⟨_,h2⟩:=gR args 0 s v hs;have hl:=(bLS.1 h2).1;simp only[bPU]at h2 hl;show(args.toArray++_)[s]?= some v;rw[bON Yay];simpa using h2
theorem mQ{fn:Func}{lo N:Nat}{J:vZ}{post:Γ→vZ→aD→Prop}{e:Exit}(he:(match e with|.normal=>true|.ret=>true|_=>false)=true){rs:List ResultVar}{vs:List Γ}(hr:fn.results=rs.toArray)(h:G9 P (Xj N lo J) σ μ rs vs)
  {Ds':List aC} (hD:∀D∈Ds',∃D'∈Ds,Le D D') (hp:post (rG vs) J μ):∀a w,Hl (Xj N lo J) σ μ Ds a w→bodyPost P fn (AS lo Ds' post) e a w:=by
 intro a w hh;have hrun:=jE hh hr h;obtain⟨h1,h2,h3,D,h4,h5,I⟩:=hh;have:a.defers=[]∧∃v,(results fn a.tmps).run P w=.ok v w∧AS lo Ds' post (.returned v) w:=⟨h3,_,hrun,_,J,μ,rfl,⟨D,h4,(fun D₁ h=>by obtain⟨O,hm,hle⟩:=hD D₁ h;exact hle.trans (h5 O hm)),I⟩,hp⟩
 cases e<;>first|exact this|cases he
theorem wX{J:vZ}{N lo:Nat}{c:Operand}{xs:Array Operand}{ats:Array Θ}{f:FuncId}{c1 c2 vs:List Γ}{post:Γ→vZ→aD→Prop}(ho:all[ix]?= some ⟨some d,.call {callee:=.value c,args:=xs,argTypes:=ats},ty,pos,aft,g⟩)
  (hc:ev σ c=some (.func (.func f) c1.toArray c2.toArray)) (hxs:x5 σ xs.toList=some vs) (hfl:fl=false)
  (hf:bJB P f (c1++vs++c2) lo J μ Ds post) (hN:Nat.blt d N=true) (hg:cZ all σ g)
  (kk:∀v J' μ',post v J' μ'→WL P (Xj N lo J') bad all K Q os ((d,v)::σ) μ' Ds):WL P (Xj N lo J) bad all K Q ((fl,ix)::os) σ μ Ds:=by
 refine fJ ho rfl rfl hg fun a w hh=>?_
 obtain⟨h1,h2,h3,D,h4,h5,I⟩:=id hh;rw[yH hf.1 (hh.eval hc) (lO (fun _ _ hx=>hh.eval hx) hxs)];refine⟨fun h=>Xac,dZ.2 ((hf.2 w ⟨D,h4,h5,I⟩).mono ?_)⟩;rintro e w' ⟨v,J',μ',rfl,⟨D',hs,hds,hex⟩,hpost⟩;exact⟨(fun h=>by rw[hfl]at h;cases h),kk v J' μ' hpost _ _ (Hl.put (X:=Xj N lo J') ⟨h1,h2,h3,D',hs,hds,hex⟩ hN v)⟩

def u9{α:Type}(P:Program)(f:FuncId)(cap:List Γ)(Dr:aC)(xs:List α)(enc:α→List Γ):Prop:=
 EF P f∧∀(lo l:Nat) (J Jx:List α→vZ),(∀pre,V6 lo (J pre))→(∀pre,V6 lo (Jx pre))→
  (∀pre x β D w,(∃r,xs=pre++x::r)→I4 lo D w→J pre β D w→(∀b∈β,b<w.heap.size)→Le Dr D→
   jG P l (enc x) w fun b D' w'=>I4 lo D' w'∧M7 β D w D' w'∧(if b then J (pre++[x]) β D' w' else Jx (pre++[x]) β D' w'))→
  ∀D w,I4 lo D w→Le Dr D→J [] [] D w→Calls P f (.func (.yield l) #[] #[]::cap).toArray w fun e w'=>∃v D',e=.returned v∧I4 lo D' w'∧(J xs [] D' w'∨∃pre,Jx pre [] D' w')
def bLF{γ:Type}(h0:H0)(lo:Nat)(D0:aC)(mods:List Nat)(Ds:List aC)(Φ:γ→Prop)(Mx:γ→aD):vZ:=fun β D w=>
 ∃g,Φ g∧iX h0 lo D0 mods (Mx g) D w∧(∀D₁∈Ds,Le D₁ D)∧(∀b∈β,h0.size≤b∧∀D₁∈Ds,D₁ b=[])∧∀p∈Mx g,p.1∉β
theorem aCO{γ:Type}{h0:H0}{lo:Nat}{D0:aC}{Ds:List aC}{Φ:γ→Prop}{Mx:γ→aD}:V6 lo (bLF h0 lo D0 [] Ds Φ Mx):=by
 constructor
 ·rintro β D w D' w' ⟨g,hg,hs,hD,hβ,hM⟩ ⟨hl1,I,O⟩ hd;refine⟨g,hg,⟨hs.hlo,hd.2,fun b hb hm=>?_,fun b hb=>?_,hd.1,fun p hp=>?_,hs.nd,hs.fz,fun e he=>O.trans (hs.env e he)⟩,fun D₁ hD₁=>⟨fun b=>?_,?_⟩,hβ,hM⟩
  ·have hlt:b<w.heap.size:=by have:=hs.hlo;have:=hs.size;omega
   have hn:b∉β:=fun h=>by have:=(hβ b h).1;omega
   rw[(I b hlt hn).1];exact hs.old b hb hm
  ·have hlt:b<w.heap.size:=by have:=hs.hlo;have:=hs.size;omega
   have hn:b∉β:=fun h=>by have:=(hβ b h).1;omega
   rw[(I b hlt hn).2];exact hs.dold b hb
  ·obtain⟨p1,p2,p3⟩:=hs.box p hp;obtain⟨R,U⟩:=I p.1 (bO p1) (hM p hp);exact⟨R.trans p1,U.trans p2,p3⟩
  ·by_cases hb:b∈β
   ·rw[(hβ b hb).2 D₁ hD₁];exact bQU
   ·by_cases hlt:b<w.heap.size
    ·rw[(I b hlt hb).2];exact(hD D₁ hD₁).1 b
    ·have:=(hD D₁ hD₁).1 b;rw[hs.agr.fresh (Nat.le_of_not_lt hlt)]at this;rw[List.prefix_nil.1 this];exact bQU
  ·have h0:(0:Nat)∉β:=fun hm=>hs.agr.2.1 ((hD D₁ hD₁).2.trans ((hβ 0 hm).2 D₁ hD₁))
   rw[(I 0 hs.agr.pos h0).2];exact(hD D₁ hD₁).2
 ·rintro β β' D w ⟨g,hg,hs,hD,hβ,hM⟩ hb';refine⟨g,hg,hs,hD,fun b hb=>?_,fun p hp hb=>?_⟩
  ·rcases hb' b hb with h|h
   ·exact hβ b h
   ·refine⟨by have:=hs.hlo;have:=hs.size;omega,fun D₁ hD₁=>?_⟩;have:=(hD D₁ hD₁).1 b;rw[hs.agr.fresh h]at this;exact List.prefix_nil.1 this
  ·rcases hb' _ hb with h|h
   ·exact hM p hp h
   ·have:=bO (hs.box p hp).1;omega
theorem iX.round{h0:H0}{lo:Nat}{D0 D D':aC}{μ μ':aD}{w w':Δ}(h:iX h0 lo D0 [] μ D w)(hs:iX (hd w) w.heap.size D (μ.map (·.1)) μ' D' w'):iX h0 lo D0 [] μ' D' w':=by
 have hle:=bOB h.hlo h.size;have hkey:∀b∈μ.map (·.1),lo≤b:=by
  intro b hb;obtain⟨p,hp,rfl⟩:=GE.1 hb;exact(h.box p hp).2.2.resolve_right Yf
 refine⟨h.hlo,bOB h.size hs.size,fun b hb hm=>?_,fun b hb=>?_,hs.agr,fun p hp=>?_,hs.nd,hs.fz,fun e he=>(hs.env _ rfl).trans (h.env e he)⟩
 ·rw[hs.old b (bOI hb hle) (fun hk=>by have:=hkey b hk;have:=h.hlo;omega)];exact h.old b hb hm
 ·rw[hs.dold b (bOI hb hle)];exact h.dold b hb
 ·obtain⟨p1,p2,p3⟩:=hs.box p hp;refine⟨p1,p2,bMF ?_⟩;rcases p3 with p3|p3
  ·have:=h.size;omega
  ·exact hkey _ p3
theorem iX.roundHigh{D D':aC}{w w':Δ}{μ μ':aD}{β:List Nat}(hw:fR D w)(hs:iX (hd w) w.heap.size D (μ.map (·.1)) μ' D' w')(hβ:∀b∈β,b<w.heap.size)(hM:∀p∈μ,p.1∉β):M7 β D w D' w':=by
 refine⟨hs.size,hU hw hs,fun b hb=>⟨hs.old b (hβ b hb) fun hk=>?_,hs.dold b (hβ b hb)⟩⟩;obtain⟨p,hp,rfl⟩:=GE.1 hk;exact hM p hp hb
def nV(bd:Nat):Deferred:={target:=.collected bd,args:=#[]}
def Cx.withDs(X:Cx)(bd:Nat):Cx:={X with ds:=nV bd::X.ds}
def Xr(l N:Nat)(h0:H0)(D:aC)(mods:List Nat):Cx:=⟨some l,N,[],h0,h0.size,D,mods,none⟩
def N9{γ:Type}(h0:H0)(D:aC)(mods:List Nat)(Φ:γ→Prop)(Ψ:Code→γ→Prop)(Mx:γ→aD)(My:Code→γ→aD):Ending→Δ→Prop:=fun e w'=>
 ∃b D',e=.returned (.bool b)∧(if b then ∃g,Φ g∧iX h0 h0.size D mods (Mx g) D' w' else ∃c g,Ψ c g∧iX h0 h0.size D mods (My c g) D' w')
theorem O7{c:Code}{A B:aD}{l:Nat}{r:Loop}{QQ:Exit→Act→Δ→Prop}(hr:X.r=some l)(hst:r.state=.ready)(h:WC P X Q c σ (A++(l,.loop {r with state:=.busy})::B) Ds):
  ∀a w,Hl X σ (A++(l,.loop r)::B) Ds a w→Exit.then (fun a₁ w₁=>∃w₂,(Instr.beginRound l).run P w₁=.ok () w₂∧c.wpIn ((FW none).inRound l) 0 P Q a₁ w₂) QQ .normal a w:=by
 intro a w hh;obtain⟨h1,h2,h3,D,h4,h5,I⟩:=hh;have hb:=(h4.box (l,.loop r) Yf).1;refine⟨_,run_beginRound hb hst,?_⟩;have hHas:bR (A++(l,.loop r)::B) l (.loop r) (.loop {r with state:=.busy}) (A++(l,.loop {r with state:=.busy})::B):=.app .head;have hs:=h4.set (w':=w.putObj l (.loop {r with state:=.busy})) hHas ⟨rfl,rfl⟩ trivial;have:=h a _ ⟨h1,h2,h3,D,hs,h5,I.step (fun _ p hp=>bMF Yt) (fun _=>lJ ⟨rfl,rfl⟩ (GE.2 ⟨_,hHas.mem,rfl⟩)) hs.dom⟩;rw[hr]at this;exact this
theorem jH{γ:Type}{A B:aD}{l:Nat}{r:Loop}{Φ:γ→Prop}{Ψ:Code→γ→Prop}{Mx:γ→aD}{My:Code→γ→aD}(g:γ)(hΦ:Φ g)(hM:Mx g=A++(l,.loop {r with state:=.ready,pending:=none})::B)(hlo:X.lo=X.h0.size):
  ∀a w,Hl X σ (A++(l,.loop r)::B) Ds a w→roundPost P l (N9 X.h0 X.D0 X.mods Φ Ψ Mx My) .normal a w:=by
 intro a w hh;obtain⟨h1,h2,h3,D,h4,h5,I⟩:=hh;have hb:=(h4.box (l,.loop r) Yf).1;refine⟨_,_,run_endRound none hb,true,D,rfl,g,hΦ,?_⟩;have hHas:bR (A++(l,.loop r)::B) l (.loop r) (.loop {r with state:=.ready,pending:=none}) (A++(l,.loop {r with state:=.ready,pending:=none})::B):=.app .head;have hs:=h4.set (w':=w.putObj l (.loop {r with state:=.ready,pending:=none})) hHas ⟨rfl,rfl⟩ trivial;rw[hM,←hlo];exact hs
theorem aQW{γ:Type}{A B:aD}{l:Nat}{r:Loop}{Φ:γ→Prop}{Ψ:Code→γ→Prop}{Mx:γ→aD}{My:Code→γ→aD}(c:Code)(g:γ)(hΨ:Ψ c g)(hM:My c g=A++(l,.loop {r with state:=.done,pending:=some c})::B)(hlo:X.lo=X.h0.size):
  ∀a w,Hl X σ (A++(l,.loop r)::B) Ds a w→∃v w',(Instr.endRound l (some c)).run P w=.ok v w'∧N9 X.h0 X.D0 X.mods Φ Ψ Mx My (.returned v) w':=by
 intro a w hh;obtain⟨h1,h2,h3,D,h4,h5,I⟩:=hh;have hb:=(h4.box (l,.loop r) Yf).1;refine⟨_,_,run_endRound (some c) hb,false,D,rfl,c,g,hΨ,?_⟩;have hHas:bR (A++(l,.loop r)::B) l (.loop r) (.loop {r with state:=.done,pending:=some c}) (A++(l,.loop {r with state:=.done,pending:=some c})::B):=.app .head;have hs:=h4.set (w':=w.putObj l (.loop {r with state:=.done,pending:=some c})) hHas ⟨rfl,rfl⟩ trivial;rw[hM,←hlo];exact hs
def J9:List Tmp→List Γ→bX→bX
 |p::ps,v::vs,σ=>J9 ps vs ((p,v)::σ)
 |_,_,σ=>σ
theorem Y7:∀(ps:List Tmp) (vs:List Γ) (tmps:Array Γ) (σ:bX),(∀s v,look σ s=some v→tmps[s]?= some v)→(∀p∈ps,p<tmps.size)→
  ∀s v,look (J9 ps vs σ) s=some v→((ps.zip vs).foldl (fun tmps (p:Tmp×Γ)=>tmps.setIfInBounds p.1 p.2) tmps)[s]?= some v
 | [],vs,tmps,σ,h,_,s,v,hs=>by cases vs<;>exact h s v hs
 |p::ps,[],tmps,σ,h,_,s,v,hs=>h s v hs
 |p::ps,u::vs,tmps,σ,h,hp,s,v,hs=>by
  refine Y7 ps vs (tmps.setIfInBounds p u) ((p,u)::σ) (fun s v hs=>?_) (fun q hq=>by simpa using hp q (LE _ hq)) s v hs;simp only[look]at hs;cases hb:Nat.beq p s with
  |true=>rw[hb]at hs;cases hs;obtain rfl:=bNO hb;rw[Array.getElem?_setIfInBounds_self_of_lt (hp p bLP)]
  |false=>rw[hb]at hs;rw[bOR (fun e=>by subst e;simp at hb)];exact h s v hs
theorem m2:∀(l:List (Tmp×Γ)) (tmps:Array Γ),(l.foldl (fun tmps (p:Tmp×Γ)=>tmps.setIfInBounds p.1 p.2) tmps).size=tmps.size
 | [],_=>rfl
 |p::l,tmps=>by rw[bMO,m2 l];simp
theorem wB{α γ:Type}{xs:List α}{enc:α→List Γ}{Dr:aC}{f:FuncId}{cap:List Γ}{gop:Operand}{ps:Array Tmp}{assign body:Code}
  (Φ:List α→γ→Prop) (Ψ:List α→Code→γ→Prop) (M:γ→aD) (g₀:γ) (hr:X.r=none) (hex:X.ex=none) (hmods:X.mods=[])
  (hg:ev σ gop=some (.func (.func f) #[] cap.toArray)) (hit:u9 P f cap Dr xs enc) (hDr:Dr∈Ds) (hps:∀x,(enc x).length=ps.size) (hpN:(ps.toList.all fun p=>Nat.blt p X.N)=true) (h₀:Φ [] g₀) (hμ:M g₀=μ)
  (hround:∀pre x g,(∃r,xs=pre++x::r)→Φ pre g→∀(l bd:Nat) (rec:Loop) (h0:H0) (D:aC),(∀D₁∈Ds,Le D₁ D)→rec.state=.ready→rec.pending=none→
   WC P (Xr l X.N h0 D ((M g++(l,Obj.loop rec)::[(bd,Obj.deferred (some []))]).map (·.1)))
    (Exit.then (fun a₁ w₁=>∃w₂,(Instr.beginRound l).run P w₁=.ok () w₂∧body.wpIn ((FW none).inRound l) 0 P (roundPost P l (N9 h0 D ((M g++(l,Obj.loop rec)::[(bd,Obj.deferred (some []))]).map (·.1)) (Φ (pre++[x])) (Ψ (pre++[x]))
     (fun g=>M g++(l,Obj.loop {rec with state:=.ready,pending:=none})::[(bd,Obj.deferred (some []))]) fun c g=>M g++(l,Obj.loop {rec with state:=.done,pending:=some c})::[(bd,Obj.deferred (some []))])) a₁ w₂) fun _ _ _=>False)
    assign (J9 ps.toList (enc x) σ) (M g++(l,Obj.loop rec)::[(bd,Obj.deferred (some []))]) (D::Ds))
  (hdone:∀g bd,Φ xs g→∀a w,Hl (X.withDs bd) σ (M g++[(bd,Obj.deferred (some []))]) Ds a w→Q .normal a w)
  (hstop:∀pre c g bd,Ψ pre c g→WC P (X.withDs bd) Q c σ (M g++[(bd,Obj.deferred (some []))]) Ds):WC P X Q (.rangeFunc gop ps assign body) σ μ Ds:=by
 intro a w hh;subst hμ;have hev:=hh.eval hg;obtain⟨h1,h2,h3,D,h4,h5,Z⟩:=hh;rw[hmods]at h4;refine wpIn_rangeFunc fun fn _=>?_
 have hround':(FW X.r).round=none:=hr;rw[hround']
 let bd:=w.heap.size
 let l:=w.heap.size+1
 let I:Loop:={state:=.ready,pending:=none,fn,tmps:=a.tmps,params:=ps,assign,body,defers:=bd}
 let V:Δ:={w with heap:=w.heap.push (.deferred (some []))}
 let U:Δ:={V with heap:=V.heap.push (.loop I)}
 have Y:iX X.h0 X.lo X.D0 [] ((bd,Obj.deferred (some []))::M g₀) D V:=h4.push (.deferred (some [])) trivial;have O:iX X.h0 X.lo X.D0 [] ((l,Obj.loop I)::(bd,Obj.deferred (some []))::M g₀) D U:=by
  have:=Y.push (.loop I) trivial;have e:V.heap.size=l:=by simp[V,l]
  rw[e]at this;exact this
 have hperm:iX X.h0 X.lo X.D0 [] (M g₀++(l,Obj.loop I)::[(bd,Obj.deferred (some []))]) D U:=by
  refine O.sub (fun p hp=>?_) ?_
  ·simp only[bMD,bLO,n4,bNV]at hp ⊢
   rcases hp with hp|hp|hp
   ·exact bLY (bLY hp)
   ·exact bMF hp
   ·exact bLY (bMF hp)
  ·have hn:=O.nd;simp only[bMT,bNP,bLO,bQX]at hn;simp only[bME,bMT,bQB,bMB,bNP,bLO,n4,bNV,bQM,bNW,and_true];refine⟨hn.2.2,hn.1.1,fun q hq r hr'=>?_⟩;rcases hr' with rfl|rfl
   ·rintro rfl;exact hn.1.2 hq
   ·rintro rfl;exact hn.2.1 hq
 refine⟨l,[nV bd],U,{target:=.fn (.func f) cap.toArray,args:=#[.func (.yield l) #[] #[]]},U,f,(.func (.yield l) #[] #[]::cap).toArray,U,run_enterLoop_outer fn a.tmps ps assign body,?_,fun _ _=>trivial,?_,fun h=>Xac,?_⟩
 ·simp only[resolve,Deferred.ofValue];have e:Array.map a.eval #[Operand.const (Value.func (Fn.yield l) #[] #[])]=#[.func (.yield l) #[] #[]]:=by simp[Act.eval]
  rw[e,hev];rfl
 ·simp only[invoke];rw[hit.1];simp
 ·refine dZ.2 ((hit.2 X.lo l
   (fun pre=>bLF X.h0 X.lo X.D0 [] Ds (Φ pre) fun g=>M g++(l,Obj.loop I)::[(bd,Obj.deferred (some []))])
   (fun pre=>bLF X.h0 X.lo X.D0 [] Ds (fun cg:Code×γ=>Ψ pre cg.1 cg.2) fun cg=>M cg.2++(l,Obj.loop {I with state:=.done,pending:=some cg.1})::[(bd,Obj.deferred (some []))])
   (fun _=>aCO) (fun _=>aCO) ?_ D U O.dom (h5 Dr hDr) ⟨g₀,h₀,hperm,h5,(fun _ h=>Xab),(fun _ _ h=>Xab)⟩).mono ?_)
  ·rintro pre x β Dx wx hx hdx ⟨g,hΦ,hst,hDs,hβ,hM⟩ hβs hle;have hbox:=(hst.box (l,Obj.loop I) Yf).1;refine⟨fn,_,assign,body,run_yield hbox (by simpa using hps x),?_⟩;refine(roundIn_of_wpIn (F:=FW none) bRD (R:=N9 (hd wx) Dx ((M g++(l,Obj.loop I)::[(bd,Obj.deferred (some []))]).map (·.1)) (Φ (pre++[x])) (Ψ (pre++[x]))
     (fun g=>M g++(l,Obj.loop {I with state:=.ready,pending:=none})::[(bd,Obj.deferred (some []))]) fun c g=>M g++(l,Obj.loop {I with state:=.done,pending:=some c})::[(bd,Obj.deferred (some []))]) ?_).mono ?_
   ·have hw:=hround pre x g hx hΦ l bd I (hd wx) Dx hDs rfl rfl;have ht:(ps.zip (enc x).toArray).foldl (fun tmps (t,a)=>tmps.setIfInBounds t a) a.tmps=(ps.toList.zip (enc x)).foldl (fun tmps (p:Tmp×Γ)=>tmps.setIfInBounds p.1 p.2) a.tmps:=by
     rw[←Array.foldl_toList];simp
    have hpN':∀p∈ps.toList,p<a.tmps.size:=fun p hp=>by rw[h1];simpa [Nat.blt_eq]using bMK.1 hpN p hp
    refine hw {tmps:=_,defers:=[]} wx ⟨?_,fun s v hs=>?_,rfl,Dx,⟨bMH _,bMH _,fun _ _ _=>rfl,fun _ _=>rfl,hst.agr,fun p hp=>?_,hst.nd,hst.fz,fun e he=>bMQ he⟩,fun D₁ hD₁=>?_,bRD⟩
    ·show((ps.zip (enc x).toArray).foldl _ a.tmps).size=X.N;rw[ht,m2];exact h1
    ·show((ps.zip (enc x).toArray).foldl _ a.tmps)[s]?= some v;rw[ht];exact Y7 _ _ _ _ h2 hpN' s v hs
    ·obtain⟨p1,p2,p3⟩:=hst.box p hp;exact⟨p1,p2,bLY (GE.2 ⟨p,hp,rfl⟩)⟩
    ·rcases bLO.1 hD₁ with rfl|hD₁
     ·exact Le.refl _
     ·exact hDs D₁ hD₁
   ·rintro e w' ⟨b,D',rfl,hb⟩;have fin:∀μ',iX (hd wx) wx.heap.size Dx ((M g++(l,Obj.loop I)::[(bd,Obj.deferred (some []))]).map (·.1)) μ' D' w'→iX X.h0 X.lo X.D0 [] μ' D' w'∧M7 β Dx wx D' w'∧(∀D₁∈Ds,Le D₁ D')∧(∀p∈μ',p.1∉β):=by
     intro μ' hs';refine⟨hst.round hs',iX.roundHigh hst.agr hs' hβs hM,fun D₁ hD₁=>(hDs D₁ hD₁).trans (hU hst.agr hs'),fun p hp hpb=>?_⟩;rcases(hs'.box p hp).2.2 with h|h
     ·have:=hβs _ hpb;omega
     ·obtain⟨q,hq,he⟩:=GE.1 h;exact hM q hq (by rw[he];exact hpb)
    refine⟨b,D',rfl,?_⟩;cases b with
    |true=>
     obtain⟨g',hg',hs'⟩:=hb;obtain⟨f1,f2,f3,f4⟩:=fin _ hs';exact⟨f1.dom,f2,g',hg',f1,f3,hβ,f4⟩
    |false=>
     obtain⟨c',g',hg',hs'⟩:=hb;obtain⟨f1,f2,f3,f4⟩:=fin _ hs';exact⟨f1.dom,f2,(c',g'),hg',f1,f3,hβ,f4⟩
  ·rintro e w' ⟨v,D',rfl,hd,hend⟩;have post:∀(g:γ) (r:Loop),iX X.h0 X.lo X.D0 [] (M g++(l,Obj.loop r)::[(bd,Obj.deferred (some []))]) D' w'→(∀D₁∈Ds,Le D₁ D')→
     Hl (X.withDs bd) σ (M g++[(bd,Obj.deferred (some []))]) Ds {a with defers:=[nV bd]++a.defers} (w'.putObj l (.loop {r with state:=.exhausted})):=by
    intro g r hs hD';have hHas:bR (M g++(l,Obj.loop r)::[(bd,Obj.deferred (some []))]) l (.loop r) (.loop {r with state:=.exhausted}) (M g++(l,Obj.loop {r with state:=.exhausted})::[(bd,Obj.deferred (some []))]):=.app .head;have hs':=hs.set (w':=w'.putObj l (.loop {r with state:=.exhausted})) hHas ⟨rfl,rfl⟩ trivial;have hs'':=hs'.sub (μ':=M g++[(bd,Obj.deferred (some []))]) (fun p hp=>by
     rcases bMD.1 hp with hp|hp
     ·exact bMA _ hp
     ·exact GT _ (LE _ hp)) (by
     have hn:=hs'.nd;rw[bME,bMB]at hn ⊢
     simp only[bMT]at hn;exact⟨hn.1,(bNP.1 hn.2.1).2,fun q hq r hr=>hn.2.2 q hq r (LE _ hr)⟩)
    exact⟨h1,h2,bLZ (nV bd:: ·) h3,D',by show iX X.h0 X.lo X.D0 X.mods _ _ _;rw[hmods];exact hs'',hD',Xcb⟩
   rcases hend with⟨g,hΦ,hs,hDs,_,_⟩|⟨pre,⟨c,g⟩,hΨ,hs,hDs,_,_⟩
   ·have hb:=(hs.box (l,Obj.loop I) Yf).1;exact⟨none,_,run_endLoop hb (by simp[I]),hdone g bd hΦ _ _ (post g I hs hDs)⟩
   ·have hb:=(hs.box (l,Obj.loop {I with state:=.done,pending:=some c}) Yf).1;refine⟨some c,_,run_endLoop hb Yf,?_⟩;have:=hstop pre c g bd hΨ _ _ (post g _ hs hDs);exact this

def T9(P:Program)(fn:Func)(R:Ending→Δ→Prop):Exit→Act→Δ→Prop
 |.normal,a,w=>LeavesInM (FW none) 0 P fn a.tmps R a.defers .returning w
 |.ret,a,w=>LeavesInM (FW none) 0 P fn a.tmps R a.defers .returning w
 |_,_,_=>False
theorem PL{f:FuncId}{fn:Func}{c:Code}{args:List Γ}{D:aC}{post:aC→Γ→Prop}(N:Nat)(hf:P.funcs[f]?= some fn)(hn:(fn.name== "runtime.NumGoroutine")=false)(hb:fn.body=some c)(hN:fn.ntmps=N)(hsz:Nat.ble args.length N=true)
  (h:∀h0:H0,WC P ⟨none,N,[],h0,h0.size,D,[],none⟩ (T9 P fn (rE ⟨none,N,[],h0,h0.size,D,[],none⟩ fun D' v _=>post D' v)) c (jJ 0 args) [] [D]):Fn P f args.toArray D post:=by
 refine⟨EF.of hf hn hb,fun w hw=>?_⟩;subst hN;have hsz:=bNZ hsz;have hq:∀e a w',T9 P fn (rE ⟨none,fn.ntmps,[],hd w,w.heap.size,D,[],none⟩ fun D' v _=>post D' v) e a w'→bodyPostM (FW none) 0 P fn (rE ⟨none,fn.ntmps,[],hd w,w.heap.size,D,[],none⟩ fun D' v _=>post D' v) e a w':=by
  intro e a w' he;cases e<;>first|exact he|exact he.elim
 have hwp:=h (hd w) {tmps:=args.toArray++Array.replicate (fn.ntmps-args.toArray.size) undef,defers:=[]} w ⟨Yap,fun s v hs=>by
  obtain⟨_,h2⟩:=gR args 0 s v hs;have hl:=(bLS.1 h2).1;simp only[bPU]at h2 hl;show(args.toArray++_)[s]?= some v;rw[bON Yay];simpa using h2,rfl,D,⟨bMH _,bMH _,(fun _ _ _=>rfl),(fun _ _=>rfl),hw,Yi,bNW,Yi,fun e he=>bMQ he⟩,(fun D₁ h1=>Xcc),bRD⟩
 refine(dZ (r:=none) (n:=0)).1 ((callsIn_of_wp_marks hf hb bRD (wpIn_mono hwp hq) rfl).mono ?_);rintro e w' ⟨v,D',μ',rfl,hs,hp⟩;exact⟨v,D',rfl,hs.sub (by intro p hp;cases hp) bNW,hp⟩
theorem wZ{fn:Func}{post:aC→Γ→aD→Prop}{e:Exit}(he:(match e with|.normal=>true|.ret=>true|_=>false)=true){rs:List ResultVar}{vs:List Γ}(hds:X.ds=[])(hr:fn.results=rs.toArray)(h:G9 P X σ μ rs vs)
  (hp:∀D,(∀D₁∈Ds,Le D₁ D)→post D (rG vs) μ):∀a w,Hl X σ μ Ds a w→T9 P fn (rE X post) e a w:=by
 intro a w hh;have hrun:=jE hh hr h;obtain⟨h1,h2,h3,D,h4,h5,I⟩:=hh;have:LeavesInM (FW none) 0 P fn a.tmps (rE X post) a.defers .returning w:=by
  rw[h3,hds];exact⟨_,hrun,_,D,μ,rfl,h4,hp D h5⟩
 cases e<;>first|exact this|cases he
theorem E9{fn:Func}{bd:Nat}{post:aC→Γ→aD→Prop}{e:Exit}(he:(match e with|.normal=>true|.ret=>true|_=>false)=true){rs:List ResultVar}{vs:List Γ}{A:aD}(hds:X.ds=[])(hr:fn.results=rs.toArray)(h:G9 P X σ (A++[(bd,Obj.deferred none)]) rs vs)
  (hp:∀D,(∀D₁∈Ds,Le D₁ D)→post D (rG vs) (A++[(bd,Obj.deferred none)])):∀a w,Hl (X.withDs bd) σ (A++[(bd,Obj.deferred (some []))]) Ds a w→T9 P fn (rE X post) e a w:=by
 intro a w hh;obtain⟨h1,h2,h3,D,h4,h5,I⟩:=hh;have hHas:bR (A++[(bd,Obj.deferred (some []))]) bd (.deferred (some [])) (.deferred none) (A++[(bd,Obj.deferred none)]):=.app .head;have hs:=h4.set (w':=w.putObj bd (.deferred none)) hHas ⟨rfl,rfl⟩ trivial;have hh':Hl X σ (A++[(bd,Obj.deferred none)]) Ds {a with defers:=[]} (w.putObj bd (.deferred none)):=
  ⟨h1,h2,hds.symm,D,hs,h5,I.step (X:=X.withDs bd) (fun _ p hp=>bMF Yt) (fun _=>lJ ⟨rfl,rfl⟩ (GE.2 ⟨_,hHas.mem,rfl⟩)) hs.dom⟩
 have hrun:=jE hh' hr h;have hb:=(h4.box (bd,Obj.deferred (some [])) Yf).1;have:LeavesInM (FW none) 0 P fn a.tmps (rE X post) a.defers .returning w:=by
  have h3':a.defers=[nV bd]:=h3.trans Xcd;rw[h3'];exact⟨Yf,bMF ⟨bd,_,rfl,run_takeDeferred hb,_,hrun,_,D,_,rfl,hs,hp D h5⟩⟩
 cases e<;>first|exact this|cases he

theorem JO{α:Type}{f:FuncId}{fn:Func}{c:Code}{cap:List Γ}{Dr:aC}{xs:List α}{enc:α→List Γ}(N:Nat)(hf:P.funcs[f]?= some fn)(hn:(fn.name== "runtime.NumGoroutine")=false)(hb:fn.body=some c)(hN:fn.ntmps=N)(hsz:Nat.ble (cap.length+1) N=true)
  (h:∀(lo l:Nat) (J Jx:List α→vZ),(∀pre,V6 lo (J pre))→(∀pre,V6 lo (Jx pre))→
   (∀pre x β D w,(∃r,xs=pre++x::r)→I4 lo D w→J pre β D w→(∀b∈β,b<w.heap.size)→Le Dr D→
    jG P l (enc x) w fun b D' w'=>I4 lo D' w'∧M7 β D w D' w'∧(if b then J (pre++[x]) β D' w' else Jx (pre++[x]) β D' w'))→
   WC P (Xj N lo (J [])) (bodyPost P fn (AS lo [Dr] fun _ J' _=>J'=J xs∨∃pre,J'=Jx pre)) c (jJ 0 (.func (.yield l) #[] #[]::cap)) [] [Dr]):u9 P f cap Dr xs enc:=by
 refine⟨EF.of hf hn hb,fun lo l J Jx hs hsx hY D w hd hle hJ=>?_⟩;have hF:=U6 (μ:=[]) N hf hn hb hN (by simpa using hsz) (h lo l J Jx hs hsx hY);refine(hF.2 w ⟨D,⟨bRB _,hd.2,fun b hb=>absurd hb (bQE _),fun b hb=>absurd hb (bQE _),hd.1,Yi,bNW,Yi,fun e he=>by cases he⟩,fun D₁ h1=>?_,hs [],hJ⟩).mono ?_
 ·simp only[bMI]at h1;subst h1;exact hle
 ·rintro e w' ⟨v,J',μ',rfl,⟨D',hst,hds,hex⟩,hpost⟩;refine⟨v,D',rfl,hst.dom,?_⟩;have hJ':J' [] D' w':=hex.1.own _ [] D' w' hex.2 (fun b hb=>by cases hb);rcases hpost with rfl|⟨pre,rfl⟩
  ·exact bMF hJ'
  ·exact bLY ⟨pre,hJ'⟩
theorem aOF{t e:Θ}{n b:Nat}(ho:all[ix]?= some ⟨some d,.slice t x none none none,ty,pos,aft,g⟩)(ht:P.underlying t=some (.array n e))(hs:TS P e 1)(hx:ev σ x=some (qP b))
  (hN:Nat.blt d X.N=true) (hg:cZ all σ g) (kk:WL P X bad all K Q os ((d,qS b n n)::σ) μ Ds):WL P X bad all K Q ((fl,ix)::os) σ μ Ds:=
 cA ho rfl rfl hN hg (fun ρ hρ w'=>by
  simp only[execOp,hρ x _ hx,bOG];unfold Instr.sliceAt Instr.sureAddr Instr.sliceBounds;simp only[Ω,TU.of ht w',Ξ,hs w',ε,pure_bind,bPY,bPU];split<;>simp[Addr.add]) kk
theorem aJE{k k':IntKind}{s t:Θ}{n:Int}(ho:all[ix]?= some ⟨some d,.convert s t x,ty,pos,aft,g⟩)(hr:∀w,(Go.convert s t (.int k n)).run P w=.ok (.int k' n) w)(hx:ev σ x=some (.int k n))(hN:Nat.blt d X.N=true)(hg:cZ all σ g)
  (kk:WL P X bad all K Q os ((d,.int k' n)::σ) μ Ds):WL P X bad all K Q ((fl,ix)::os) σ μ Ds:=
 cA ho rfl rfl hN hg (fun ρ hρ w'=>by simp only[execOp,hρ x _ hx,Ω,hr w',Ξ,ε]) kk
theorem W0{t t':Θ}{b:Bool}(ho:all[ix]?= some ⟨some d,.binOp .eql t x y t',ty,pos,aft,g⟩)(hr:∀w,((do eqGuard .eql t x y u v;binOp .eql t u v):Sem Γ).run P w=.ok (.bool b) w)(hx:ev σ x=some u)(hy:ev σ y=some v)(hN:Nat.blt d X.N=true)(hg:cZ all σ g)
  (kk:WL P X bad all K Q os ((d,.bool b)::σ) μ Ds):WL P X bad all K Q ((fl,ix)::os) σ μ Ds:=
 cA ho rfl rfl hN hg (fun ρ hρ w'=>Xcx) kk
theorem MY{t t':Θ}{b:Bool}(ho:all[ix]?= some ⟨some d,.binOp .neq t x y t',ty,pos,aft,g⟩)(hr:∀w,((do eqGuard .neq t x y u v;binOp .neq t u v):Sem Γ).run P w=.ok (.bool b) w)(hx:ev σ x=some u)(hy:ev σ y=some v)(hN:Nat.blt d X.N=true)(hg:cZ all σ g)
  (kk:WL P X bad all K Q os ((d,.bool b)::σ) μ Ds):WL P X bad all K Q ((fl,ix)::os) σ μ Ds:=
 cA ho rfl rfl hN hg (fun ρ hρ w'=>Xcx) kk
theorem K6{t:Θ}{a b:Bool}(ht:P.underlying t=some .bool)(w:Δ):(Op.equal t (.bool a) (.bool b)).run P w=.ok (a==b) w:=by
 have h:(Op.equalIn (9999+1) t (.bool a) (.bool b)).run P w=.ok (a==b) w:=by
  rw[Op.equalIn,Ω,TU.of ht w];rfl
 exact h
theorem bFA{t t':Θ}{a b:Bool}(ho:all[ix]?= some ⟨some d,.binOp .eql t x y t',ty,pos,aft,g⟩)(ht:P.underlying t=some .bool)(hx:ev σ x=some (.bool a))(hy:ev σ y=some (.bool b))(hN:Nat.blt d X.N=true)(hg:cZ all σ g)
  (kk:WL P X bad all K Q os ((d,.bool (a==b))::σ) μ Ds):WL P X bad all K Q ((fl,ix)::os) σ μ Ds:=
 W0 ho (fun w=>by
  have hg:(eqGuard .eql t x y (.bool a) (.bool b)).run P w=.ok () w:=rfl;rw[Ω,hg];show((do Pure.pure (Value.bool (←Op.equal t (.bool a) (.bool b)))):Sem Γ).run P w=_;rw[Ω,K6 ht];rfl) hx hy hN hg kk
theorem u0{t t':Θ}{a b:Bool}(ho:all[ix]?= some ⟨some d,.binOp .neq t x y t',ty,pos,aft,g⟩)(ht:P.underlying t=some .bool)(hx:ev σ x=some (.bool a))(hy:ev σ y=some (.bool b))(hN:Nat.blt d X.N=true)(hg:cZ all σ g)
  (kk:WL P X bad all K Q os ((d,.bool (!(a==b)))::σ) μ Ds):WL P X bad all K Q ((fl,ix)::os) σ μ Ds:=
 MY ho (fun w=>by
  have hg:(eqGuard .neq t x y (.bool a) (.bool b)).run P w=.ok () w:=rfl;rw[Ω,hg];show((do Pure.pure (Value.bool (!(←Op.equal t (.bool a) (.bool b))))):Sem Γ).run P w=_;rw[Ω,K6 ht];rfl) hx hy hN hg kk
theorem QC{n:Nat}(h:∀a w,Hl X σ μ Ds a w→Q .normal a w):WC P X Q (.label n) σ μ Ds:=fun a w hh=>wpIn_label (h a w hh)
theorem GV{t e:Θ}{n:Nat}{l:List Int}{k:IntKind}{i m:Int}(ho:all[ix]?= some ⟨some d,.index t x y,ty,pos,aft,g⟩)(ht:P.underlying t=some (.array n e))(ha:TA P e false)(hs:TS P e 1)(hx:ev σ x=some (.agg (ints l).toArray))(hy:ev σ y=some (.int k i))(h0:0≤i)(h1:i<n)(hm:l[i.toNat]?= some m)
  (hN:Nat.blt d X.N=true) (hg:cZ all σ g) (kk:WL P X bad all K Q os ((d,qI m)::σ) μ Ds):WL P X bad all K Q ((fl,ix)::os) σ μ Ds:=
 cA ho rfl rfl hN hg (fun ρ hρ w'=>by
  have hg:(ints l).toArray[i.toNat]?= some (qI m):=by simpa using cW hm
  simp only[execOp,hρ x _ hx,hρ y _ hy];unfold Instr.index asIntOf part;simp only[Ω,TU.of ht w',Ξ,hs w',ha w',ε,pure_bind,h0,h1,bQT,bOC,bNY,bNN,bOO,hg]) kk
theorem eV(l m:List Int):ints l++ints m=ints (l++m):=by simp[ints]
theorem bCN{t f k ft:Nat}{cs:List Γ}{fs:Array Field}(ho:all[ix]?= some ⟨some d,.field t x f,ty,pos,aft,g⟩)(ht:P.underlying t=some (.struct fs))(hk:(fs[f]?).map (fun f=>(f.offset,f.type))=some (k,ft))(ha:TA P ft false)(hx:ev σ x=some (.agg cs.toArray))(hv:cs[k]?= some v)
  (hN:Nat.blt d X.N=true) (hg:cZ all σ g) (kk:WL P X bad all K Q os ((d,v)::σ) μ Ds):WL P X bad all K Q ((fl,ix)::os) σ μ Ds:=
 cA ho rfl rfl hN hg (fun ρ hρ w'=>by
  cases hf:fs[f]? with
  |none=>simp[hf]at hk
  |some f0=>
   simp only[hf,bNL,bPV,bPO]at hk;obtain⟨rfl,rfl⟩:=hk;have hv':cs.toArray[f0.offset]?= some v:=by simpa using hv
   simp only[execOp,hρ x _ hx];unfold Instr.field asAgg part;simp only[Ω,TU.of ht w',Ξ,hf,ha w',ε,pure_bind,bNN,bOO,hv']) kk
theorem iO{t:Θ}{D₁:aC}{b k:Nat}{cs:List Γ}(ho:all[ix]?= some ⟨some d,.load t x,ty,pos,aft,g⟩)(ha:TA P t false)(hx:ev σ x=some (.pointer (some ⟨b,k,none⟩)))(hA:At D₁ b 0 cs)(hD:D₁∈Ds)(hv:cs[k]?= some v)(hb:b∉bad)
  (hN:Nat.blt d X.N=true) (hg:cZ all σ g) (kk:WL P X bad all K Q os ((d,v)::σ) μ Ds):WL P X bad all K Q ((fl,ix)::os) σ μ Ds:=
 dW (o:=0) (k:=k) ho ha (by rw[bOM];exact hx) hA hD hv hb hN hg kk
theorem CZ{γ:Type}{c:Code}{N lo:Nat}{J0:vZ}(m:γ→Nat)(I:γ→Prop)(J:γ→vZ)(ch:γ→bX)(rest:bX)(M:γ→aD)(E:γ→List aC)(g₀:γ)(h₀:I g₀)(hJ:J0=J g₀)(hch:FA σ (ch g₀))(hrest:FA σ rest)(hμ:(M g₀).Sublist μ)(hD:∀D∈E g₀,∃D'∈Ds,Le D D')
  (round:∀g,I g→WC P (Xj N lo (J g)) (Exit.then (fun a w=>∃g',I g'∧m g'<m g∧Hl (Xj N lo (J g')) (ch g'++rest) (M g') (E g') a w) Q) c (ch g++rest) (M g) (E g)):WC P (Xj N lo J0) Q (.loop c) σ μ Ds:=by
 subst hJ
 let p:Act→Δ→Nat→Prop:=fun a w n=>∃g,I g∧m g=n∧Hl (Xj N lo (J g)) (ch g++rest) (M g) (E g) a w
 have ex:∀a w,(∃n,p a w n)→∃n,p a w n∧∀k,p a w k→n≤k:=by
  intro a w ⟨n,hn⟩;induction n using Nat.strongRecOn with
  |_ n ih=>
   by_cases h:∃k,k<n∧p a w k
   ·obtain⟨k,hk,hp⟩:=h;exact ih k hk hp
   ·exact⟨n,hn,fun k hk=>Nat.le_of_not_lt fun hl=>h ⟨k,hl,hk⟩⟩
 intro a w hh;refine wpIn_loop (fun a w=>∃n,p a w n) (fun a w=>open Classical in if h:∃n,p a w n then(ex a w h).choose else 0) ⟨_,g₀,h₀,rfl,hh.weak (FA.app hch hrest) hμ hD⟩ ?_;intro a w hI;obtain⟨⟨g,hg,hm,hst⟩,hmin⟩:=(ex a w hI).choose_spec;refine wpIn_mono (round g hg a w hst) fun e a' w' hq=>?_
 cases e with
 |normal=>
  obtain⟨g',hg',hlt,hst'⟩:=hq;have hI':∃n,p a' w' n:=⟨_,g',hg',rfl,hst'⟩
  refine⟨hI',?_⟩;simp only[dif_pos hI',dif_pos hI];have:=(ex a' w' hI').choose_spec.2 _ ⟨g',hg',rfl,hst'⟩;omega
 |_=>exact hq
theorem uY{γ:Type}{N lo:Nat}{J1:vZ}{m:γ→Nat}{I:γ→Prop}{J:γ→vZ}{ch:γ→bX}{rest:bX}{M:γ→aD}{E:γ→List aC}{g:γ}(n:Nat)(g':γ)(h1:I g')(h2:m g'<m g)(hJ:J1=J g')(hch:FA σ (ch g'))(hn:I1 n σ=true)(hr:σ.drop n=rest)(hμ:(M g').Sublist μ)(hD:∀D∈E g',∃D'∈Ds,Le D D'):
  ∀a w,Hl (Xj N lo J1) σ μ Ds a w→Exit.then (fun a w=>∃g',I g'∧m g'<m g∧Hl (Xj N lo (J g')) (ch g'++rest) (M g') (E g') a w) Q .normal a w:=by
 subst hJ;intro a w hh;refine⟨g',h1,h2,?_⟩;have h3:=hh.weak (σ':=ch g') hch hμ hD;refine⟨h3.1,fun s v hs=>?_,h3.2.2⟩;rcases BA hs with hs|hs
 ·exact h3.2.1 s v hs
 ·subst hr;exact hh.2.1 s v (P2 n σ hn s v hs)
theorem TI{J J1 J0:vZ}{l N lo:Nat}{c:Operand}{xs:Array Operand}{ats:Array Θ}{vs:List Γ}(ho:all[ix]?= some ⟨some d,.call {callee:=.value c,args:=xs,argTypes:=ats},ty,pos,aft,g⟩)
  (hc:ev σ c=some (.func (.yield l) #[] #[])) (hxs:x5 σ xs.toList=some vs) (hfl:fl=false) (I:V6 lo J1) (O:V6 lo J0)
  (hY:∀D w,I4 lo D w→J (μ.map (·.1)) D w→(∀p∈μ,p.1<w.heap.size)→(∀D₁∈Ds,Le D₁ D)→jG P l vs w fun b D' w'=>I4 lo D' w'∧M7 (μ.map (·.1)) D w D' w'∧(if b then J1 (μ.map (·.1)) D' w' else J0 (μ.map (·.1)) D' w'))
  (hN:Nat.blt d N=true) (hg:cZ all σ g)
  (kk:∀b J',J'=(if b=true then J1 else J0)→WL P (Xj N lo J') bad all K Q os ((d,.bool b)::σ) μ Ds):WL P (Xj N lo J) bad all K Q ((fl,ix)::os) σ μ Ds:=
 aYL (X:=Xj N lo J) ho hc hxs rfl hfl rfl rfl I O hY hN hg (kk true J1 rfl) (kk false J0 rfl)
theorem pW{c:Code}(k:(μ.map (·.1)).Nodup→WC P X Q c σ μ Ds):WC P X Q c σ μ Ds:=fun a w hh=>k (by obtain⟨_,_,_,D,h4,_⟩:=hh;exact h4.nd) a w hh
theorem bE{t:Θ}{b n:Nat}{vs us:List Γ}{e:Θ}{μ':aD}(ho:all[ix]?= some ⟨none,.store t x y,ty,pos,aft,g⟩)(hx:ev σ x=some (qP b))(hy:ev σ y=some v)(hv:v.cells=us.toArray)(hs:TS P t n)
  (hn:us.length=n) (hl:vs.length=n) (hm:bR μ b (.cells vs.toArray e (0,0)) (.cells us.toArray e (0,0)) μ') (hc1:∀u∈us,cell1 u=true) (hg:cZ all σ g)
  (kk:WL P X bad all K Q os σ μ' Ds):WL P X bad all K Q ((false,ix)::os) σ μ Ds:=
 cY ho hx hy hv (by rw[hn];exact hs) hm Yd (by rw[List.take_zero,bOM,bNK Yd];simp) hc1 hg kk
theorem _root_.Go.Fs.Zz{t:Θ}{b:Nat}{n:Nat}{vs:List Γ}{us:List Γ}{e:Θ}{μ':aD}(e9:(all[ix]?,ev σ x,ev σ y,v.cells)=(some ⟨none,.store t x y,ty,pos,aft,g⟩,some (qP b),some v,us.toArray))(hs:TS P t n)(hm:bR μ b (.cells vs.toArray e (0,0)) (.cells us.toArray e (0,0)) μ')(kk:WL P X bad all K Q os σ μ' Ds)(hn:us.length=n:=by exact Yb)(hl:vs.length=n:=by exact Yb)(hc1:∀u∈us,cell1 u=true:=by exact Yh)(hg:cZ all σ g:=by exact bRD):WL P X bad all K Q ((false,ix)::os) σ μ Ds:=bE (bLZ (fun z=>z.1) e9) (bLZ (fun z=>z.2.1) e9) (bLZ (fun z=>z.2.2.1) e9) (bLZ (fun z=>z.2.2.2) e9) hs hn hl hm hc1 hg kk
theorem cG{t e tr e':Θ}{n sz:Nat}{cells:List Γ}{ν:aD}{ats:Array Θ}(ho:all[ix]?= some ⟨some d,.call {callee:=.builtin .len,args:=#[x],argTypes:=ats},tr,pos,aft,g⟩)(ht:P.underlying t=some (.slice e))(hx:ev σ x=some v)(hS:bM e' sz v n cells ν)(hat:ats[0]?= some t)
  (hN:Nat.blt d X.N=true) (hg:cZ all σ g) (kk:WL P X bad all K Q os ((d,qI (n:Int))::σ) μ Ds):
  WL P X bad all K Q ((fl,ix)::os) σ μ Ds:=
 cA ho rfl rfl hN hg (fun ρ hρ w'=>by
  have hx':=hρ x _ hx;rcases hS with⟨a,rfl,rfl,_⟩|⟨b,cap,junk,rfl,_⟩
  ·simp[Builtin.len_,hat,hx',TU.of ht w',goInt,go_sem]
  ·simp[Builtin.len_,hat,hx',TU.of ht w',goInt,go_sem]) kk
theorem Hl.dropBoxes{a:Act}{w:Δ}(n:Nat)(h:Hl X σ μ Ds a w):Hl X σ (μ.drop n) Ds a w:=by
 obtain⟨h1,h2,h3,D,h4,h5,I⟩:=h;have hμ:(μ.drop n).Sublist μ:=List.drop_sublist n μ;exact⟨h1,h2,h3,D,h4.sub (fun p hp=>hμ.mem hp) ((hμ.map (·.1)).nodup h4.nd),h5,I.step (fun _ p hp=>bMF (GE.2 ⟨p,hμ.mem hp,rfl⟩)) (fun _=>aSN.refl _ _ _) h4.dom⟩
theorem bM.cells1{e:Θ}{sz n:Nat}{cells:List Γ}{ν:aD}(h:bM e sz v n cells ν):v.cells=[v].toArray:=by
 rcases h with⟨a,rfl,_⟩|⟨b,cap,junk,rfl,_⟩<;>rfl
theorem bM.cell1{e:Θ}{sz n:Nat}{cells:List Γ}{ν:aD}(h:bM e sz v n cells ν):∀u∈[v],Fs.cell1 u=true:=by
 rcases h with⟨a,rfl,_⟩|⟨b,cap,junk,rfl,_⟩<;>simp[Fs.cell1]

theorem nL{b:Frame}{a:Act}{k:List Item}{cs:List Frame}{w:Δ}{c:Code}:step P (lone (b.atR a (.code (.scope c)::k)) cs w)=.next (lone (b.atR a (.code c::.inScope c::k)) cs w):=
 step_lone_go (by simp[stepG,stepG.exec,Frame.atR])
theorem HJ{b:Frame}{a:Act}{k:List Item}{cs:List Frame}{w:Δ}{c:Code}:step P (lone (b.atR a (.inScope c::k)) cs w)=.next (lone (b.atR a k) cs w):=
 step_lone_go (by simp[stepG,stepG.exec,Frame.atR])
def AP(Q:Exit→Act→Δ→Prop):Exit→Act→Δ→Prop
 |.goto _,_,_=>False
 |e,a,w=>Q e a w
theorem NP.ngt{Q:Exit→Act→Δ→Prop}(h:NP Q):NP (AP Q):=fun c a w q=>h c a w q
theorem PI.ngt{Q:Exit→Act→Δ→Prop}(h:PI Q):PI (AP Q):=fun c a b w d q=>h c a b w d q
theorem RA{F:Fence}{n:Nat}{c:Code}{a:Act}{w:Δ}(h:c.wpIn F n P (AP Q) a w):(Code.scope c).wpIn F n P Q a w:=by
 intro b k cs hro hb hr;have h0:(lone (b.atR a (.code (.scope c)::k)) cs w).fenced P F:=fenced_calm hb hr rfl;obtain⟨e,a₁,w₁,hq,harr⟩:=h b (.inScope c::k) cs hro hb hr;cases e with
 |normal=>exact⟨.normal,a₁,w₁,hq,.head h0 nL (StepsIn.trans harr (.one (fenced_calm hb hr rfl) HJ))⟩
 |exit id'=>
  have hx:exitTo id' (.inScope c::k)=exitTo id' k:=by simp[exitTo]
  exact⟨.exit id',a₁,w₁,hq,fun k' hk=>.head h0 nL (harr.1 k' (by rw[hx];exact hk)),
   fun hr' hk=>let ⟨k₁,h1,h2⟩:=harr.2 hr' (by rw[hx];exact hk);⟨k₁,h1,.head h0 nL h2⟩⟩
 |goto l=>exact hq.elim
 |ret=>exact⟨_,a₁,w₁,hq,.of_steps (.one h0 nL) harr⟩
 |panic ch=>exact⟨_,a₁,w₁,hq,.of_steps (.one h0 nL) harr⟩
 |outgrown=>exact⟨_,a₁,w₁,hq,.of_steps (.one h0 nL) harr⟩
theorem aCM{c:Code}(h:WC P X (AP Q) c σ μ Ds):WC P X Q (.scope c) σ μ Ds:=fun a w hh=>RA (h a w hh)
theorem B1(h:∀a w,Hl X σ μ Ds a w→Q .normal a w):∀a w,Hl X σ μ Ds a w→AP Q .normal a w:=h
theorem W6(h:∀a w,Hl X σ μ Ds a w→Q .ret a w):∀a w,Hl X σ μ Ds a w→AP Q .ret a w:=h
theorem aY(μ':aD)(h:μ=μ')(k:WL P X bad all K Q os σ μ' Ds):WL P X bad all K Q os σ μ Ds:=h▸k
theorem _root_.Go.Fs.Zab(μ':aD)(h:μ=μ')(k:WL P X bad all K Q os σ μ' Ds):WL P X bad all K Q os σ μ Ds:=aY μ' h k
theorem KP{c:Code}(μ':aD)(h:μ=μ')(k:WC P X Q c σ μ' Ds):WC P X Q c σ μ Ds:=h▸k
theorem Sl.cell1{α:Type}{R:Rd α}{D:aC}{sz:Nat}{v:Γ}{xs:List α}(h:Sl D R sz v xs):∀u∈[v],Fs.cell1 u=true:=by
 obtain⟨a,cap,rfl,_⟩:=h;simp[Fs.cell1]
open Go.Proofs Tryz

theorem bB:prog.follows .mixedOrders=true:=by kernel_rfl
theorem _root_.Go.Fs.U3:type_of% underlying3:=underlying3
theorem _root_.Go.Fs.U4:type_of% underlying4:=underlying4
theorem _root_.Go.Fs.U5:type_of% underlying5:=underlying5
theorem _root_.Go.Fs.U9:type_of% underlying9:=underlying9
theorem _root_.Go.Fs.U20:type_of% underlying20:=underlying20
theorem _root_.Go.Fs.U22:type_of% underlying22:=underlying22
theorem _root_.Go.Fs.U35:type_of% underlying35:=underlying35
theorem _root_.Go.Fs.U36:type_of% underlying36:=underlying36
theorem _root_.Go.Fs.U39:type_of% underlying39:=underlying39
theorem _root_.Go.Fs.U40:type_of% underlying40:=underlying40
theorem _root_.Go.Fs.U43:type_of% underlying43:=underlying43
theorem _root_.Go.Fs.U44:type_of% underlying44:=underlying44
theorem _root_.Go.Fs.U47:type_of% underlying47:=underlying47
theorem _root_.Go.Fs.U48:type_of% underlying48:=underlying48
theorem _root_.Go.Fs.U57:type_of% underlying57:=underlying57
theorem _root_.Go.Fs.U59:type_of% underlying59:=underlying59
theorem _root_.Go.Fs.U70:type_of% underlying70:=underlying70
theorem _root_.Go.Fs.U73:type_of% underlying73:=underlying73
theorem _root_.Go.Fs.U76:type_of% underlying76:=underlying76
theorem _root_.Go.Fs.U77:type_of% underlying77:=underlying77
theorem _root_.Go.Fs.U80:type_of% underlying80:=underlying80
theorem _root_.Go.Fs.U81:type_of% underlying81:=underlying81
theorem _root_.Go.Fs.U84:type_of% underlying84:=underlying84
theorem _root_.Go.Fs.U85:type_of% underlying85:=underlying85
theorem _root_.Go.Fs.U90:type_of% underlying90:=underlying90
theorem _root_.Go.Fs.U110:type_of% underlying110:=underlying110
theorem _root_.Go.Fs.U114:type_of% underlying114:=underlying114
theorem _root_.Go.Fs.U122:type_of% underlying122:=underlying122
theorem _root_.Go.Fs.U132:type_of% underlying132:=underlying132
theorem _root_.Go.Fs.U159:type_of% underlying159:=underlying159
theorem _root_.Go.Fs.U168:type_of% underlying168:=underlying168
theorem _root_.Go.Fs.U190:type_of% underlying190:=underlying190
theorem _root_.Go.Fs.U196:type_of% underlying196:=underlying196
theorem _root_.Go.Fs.U212:type_of% underlying212:=underlying212
theorem _root_.Go.Fs.U237:type_of% underlying237:=underlying237
theorem _root_.Go.Fs.U241:type_of% underlying241:=underlying241
theorem _root_.Go.Fs.U245:type_of% underlying245:=underlying245
theorem _root_.Go.Fs.U256:type_of% underlying256:=underlying256
theorem _root_.Go.Fs.U265:type_of% underlying265:=underlying265
theorem _root_.Go.Fs.U271:type_of% underlying271:=underlying271
theorem _root_.Go.Fs.U282:type_of% underlying282:=underlying282
theorem _root_.Go.Fs.U283:type_of% underlying283:=underlying283
theorem _root_.Go.Fs.U289:type_of% underlying289:=underlying289
theorem _root_.Go.Fs.U305:type_of% underlying305:=underlying305
theorem _root_.Go.Fs.U312:type_of% underlying312:=underlying312
theorem _root_.Go.Fs.U317:type_of% underlying317:=underlying317
theorem _root_.Go.Fs.U323:type_of% underlying323:=underlying323
theorem _root_.Go.Fs.U325:type_of% underlying325:=underlying325
theorem _root_.Go.Fs.U336:type_of% underlying336:=underlying336
theorem _root_.Go.Fs.U339:type_of% underlying339:=underlying339
theorem _root_.Go.Fs.U341:type_of% underlying341:=underlying341
theorem _root_.Go.Fs.U347:type_of% underlying347:=underlying347
theorem _root_.Go.Fs.U353:type_of% underlying353:=underlying353
theorem _root_.Go.Fs.U397:type_of% underlying397:=underlying397
abbrev υ:=TA prog
abbrev φ:=TF prog
abbrev χ:=TS prog
abbrev ι:=TZ prog
abbrev κ:=TP prog
abbrev ξ(t:Θ):Prop:=(prog.info? t).map (fun i=>Nat.ble 1 i.bytes&&Nat.ble i.bytes 4096)=some true
theorem ο{t:Θ}{i k ft n:Nat}{fs:Array Field}(h:prog.underlying t=some (.struct fs))(hs:TS prog ft n)(hk:(fs[i]?).map (fun f=>(f.offset,f.type))=some (k,ft):=by rfl)(hn:Nat.beq n 0=false:=by rfl):TF prog t i k:=TF.of h hk hs hn
theorem π{t:Θ}{n:Nat}(h:(prog.info? t).map (·.size)=some n:=by kernel_rfl):TS prog t n:=TS.of h
theorem δ{t:Θ}{v:Γ}(h:(prog.info? t).bind (·.zero)=some v:=by kernel_rfl):TZ prog t v:=TZ.of h
theorem η{t:Θ}{fs:Array Field}{pl:List (Nat×Nat)}(h:prog.underlying t=some (.struct fs))(hp:(fs.toList.map fun f=>(f.offset,prog.cellsOf f.type))=pl:=by kernel_rfl)(hi:(fs.toList.all fun f=>(prog.info? f.type).isSome)=true:=by kernel_rfl):TP prog t pl:=TP.of h hp hi
theorem θ{t:Θ}(h:(prog.info? t).map (fun i=>Nat.ble 1 i.bytes&&Nat.ble i.bytes 4096)=some true:=by kernel_rfl):ξ t:=h
theorem aH:υ 3 false:=TA.of underlying3 _ rfl
theorem aI:χ 3 1:=π
theorem cO:ι 3 (qI 0):=δ
theorem kD:ξ 3:=θ
theorem DS:υ 4 false:=TA.of underlying4 _ rfl
theorem mI:χ 4 1:=π
theorem pO:ι 4 (.bool false):=δ
theorem aRX:υ 5 false:=TA.of underlying5 _ rfl
theorem mR:χ 5 1:=π
theorem aRK:ι 5 (.int .u8 0):=δ
theorem aTN:ξ 5:=θ
theorem wQ:υ 9 false:=TA.of underlying9 _ rfl
theorem kZ:χ 9 1:=π
theorem aFE:ξ 9:=θ
theorem lZ:υ 26 true:=TA.of underlying26 _ rfl
theorem eF:χ 26 2:=π
theorem lL:ι 26 (.agg #[qI 0,qI 0]):=δ
theorem A2:κ 26 [(0,1),(1,1)]:=η underlying26
theorem yS:φ 26 0 0:=ο underlying26 aI
theorem yX:φ 26 1 1:=ο underlying26 aI
theorem tA:υ 27 false:=TA.of underlying27 _ rfl
theorem sZ:χ 27 1:=π
theorem OY:ι 27 (qI 0):=δ
theorem bGG:ξ 27:=θ
theorem vV:υ 31 true:=TA.of underlying31 _ rfl
theorem iE:χ 31 2:=π
theorem pF:ι 31 (.agg #[qI 0,qI 0]):=δ
theorem W9:κ 31 [(0,1),(1,1)]:=η underlying31
theorem QR:φ 31 0 0:=ο underlying31 aI
theorem TG:φ 31 1 1:=ο underlying31 aI
theorem cF:υ 35 false:=TA.of underlying35 _ rfl
theorem fK:χ 35 1:=π
theorem vD:ι 35 (qN):=δ
theorem MM:ξ 35:=θ
theorem xR:υ 36 false:=TA.of underlying36 _ rfl
theorem FK:χ 36 1:=π
theorem w0:υ 38 true:=TA.of underlying38 _ rfl
theorem L0:χ 38 4:=π
theorem bGL:ι 38 (.agg #[qN,qN,qI 0,qI 0]):=δ
theorem bFQ:κ 38 [(0,1),(1,1),(2,1),(3,1)]:=η underlying38
theorem iW:φ 38 0 0:=ο underlying38 fK
theorem jX:φ 38 1 1:=ο underlying38 FK
theorem TH:φ 38 2 2:=ο underlying38 aI
theorem TO:φ 38 3 3:=ο underlying38 aI
theorem xQ:υ 39 false:=TA.of underlying39 _ rfl
theorem aTH:χ 39 1:=π
theorem M6:υ 40 false:=TA.of underlying40 _ rfl
theorem NE:χ 40 1:=π
theorem A3:υ 42 true:=TA.of underlying42 _ rfl
theorem vU:χ 42 5:=π
theorem bGH:ι 42 (.agg #[qI 0,qN,qI 0,qN,qN]):=δ
theorem bGA:κ 42 [(0,1),(1,1),(2,1),(3,1),(4,1)]:=η underlying42
theorem ES:φ 42 0 0:=ο underlying42 aI
theorem mO:φ 42 1 1:=ο underlying42 aTH
theorem GX:φ 42 2 2:=ο underlying42 aI
theorem vB:φ 42 3 3:=ο underlying42 fK
theorem mT:φ 42 4 4:=ο underlying42 NE
theorem nB:υ 43 false:=TA.of underlying43 _ rfl
theorem I3:χ 43 1:=π
theorem aTF:ι 43 (qN):=δ
theorem bGS:ξ 43:=θ
theorem bFD:υ 44 false:=TA.of underlying44 _ rfl
theorem bHM:χ 44 1:=π
theorem zU:υ 46 true:=TA.of underlying46 _ rfl
theorem vH:χ 46 5:=π
theorem bFH:ι 46 (.agg #[qI 0,qI 0,qI 0,qN,qN]):=δ
theorem bGX:κ 46 [(0,1),(1,1),(2,1),(3,1),(4,1)]:=η underlying46
theorem VB:φ 46 0 0:=ο underlying46 aI
theorem TQ:φ 46 1 1:=ο underlying46 aI
theorem aMS:φ 46 2 2:=ο underlying46 aI
theorem gF:φ 46 3 3:=ο underlying46 I3
theorem aRM:φ 46 4 4:=ο underlying46 bHM
theorem pD:υ 47 false:=TA.of underlying47 _ rfl
theorem XJ:χ 47 1:=π
theorem xS:υ 48 false:=TA.of underlying48 _ rfl
theorem PU:χ 48 1:=π
theorem qD:υ 50 true:=TA.of underlying50 _ rfl
theorem nW:χ 50 3:=π
theorem bIT:ι 50 (.agg #[qN,qI 0,qN]):=δ
theorem bIG:κ 50 [(0,1),(1,1),(2,1)]:=η underlying50
theorem iJ:φ 50 0 0:=ο underlying50 XJ
theorem N5:φ 50 1 1:=ο underlying50 aI
theorem kT:φ 50 2 2:=ο underlying50 PU
theorem mZ:υ 52 true:=TA.of underlying52 _ rfl
theorem gV:χ 52 17:=π
theorem J7:ι 52 (.agg #[qN,qN,qI 0,qI 0,qI 0,qN,qI 0,qN,qN,qI 0,qI 0,qI 0,qN,qN,qN,qI 0,qN]):=δ
theorem qW:φ 52 0 0:=ο underlying52 L0
theorem oD:φ 52 1 4:=ο underlying52 vU
theorem sU:φ 52 2 9:=ο underlying52 vH
theorem oN:φ 52 3 14:=ο underlying52 nW
theorem HN:υ 55 true:=TA.of underlying55 _ rfl
theorem qK:χ 55 2:=π
theorem B3:ι 55 (.agg #[qI 0,qI 0]):=δ
theorem aRI:κ 55 [(0,1),(1,1)]:=η underlying55
theorem UU:φ 55 0 0:=ο underlying55 aI
theorem QY:φ 55 1 1:=ο underlying55 aI
theorem EG:υ 61 true:=TA.of underlying61 _ rfl
theorem pZ:χ 61 2:=π
theorem V9:ι 61 (.agg #[qI 0,qI 0]):=δ
theorem aVP:κ 61 [(0,1),(1,1)]:=η underlying61
theorem RE:φ 61 0 0:=ο underlying61 aI
theorem UW:φ 61 1 1:=ο underlying61 aI
theorem bGU:υ 70 false:=TA.of underlying70 _ rfl
theorem aQR:χ 70 1:=π
theorem M8:υ 73 false:=TA.of underlying73 _ rfl
theorem QA:χ 73 1:=π
theorem mM:υ 75 true:=TA.of underlying75 _ rfl
theorem lY:χ 75 4:=π
theorem fF:φ 75 0 0:=ο underlying75 fK
theorem mW:φ 75 1 1:=ο underlying75 QA
theorem DY:φ 75 2 2:=ο underlying75 aI
theorem d9:φ 75 3 3:=ο underlying75 aI
theorem xU:υ 76 false:=TA.of underlying76 _ rfl
theorem aAN:χ 76 1:=π
theorem H7:υ 77 false:=TA.of underlying77 _ rfl
theorem MI:χ 77 1:=π
theorem lB:υ 79 true:=TA.of underlying79 _ rfl
theorem jP:χ 79 5:=π
theorem mU:φ 79 0 0:=ο underlying79 aI
theorem lQ:φ 79 1 1:=ο underlying79 aAN
theorem I6:φ 79 2 2:=ο underlying79 aI
theorem lR:φ 79 3 3:=ο underlying79 fK
theorem nH:φ 79 4 4:=ο underlying79 MI
theorem hG:υ 80 false:=TA.of underlying80 _ rfl
theorem eR:χ 80 1:=π
theorem oA:ι 80 (qN):=δ
theorem HH:υ 81 false:=TA.of underlying81 _ rfl
theorem ZQ:χ 81 1:=π
theorem gO:υ 83 true:=TA.of underlying83 _ rfl
theorem fG:χ 83 5:=π
theorem aQV:ι 83 (.agg #[qI 0,qI 0,qI 0,qN,qN]):=δ
theorem vP:φ 83 0 0:=ο underlying83 aI
theorem K0:φ 83 1 1:=ο underlying83 aI
theorem GY:φ 83 2 2:=ο underlying83 aI
theorem dN:φ 83 3 3:=ο underlying83 eR
theorem uX:φ 83 4 4:=ο underlying83 ZQ
theorem pE:υ 84 false:=TA.of underlying84 _ rfl
theorem aAE:χ 84 1:=π
theorem L4:υ 85 false:=TA.of underlying85 _ rfl
theorem MR:χ 85 1:=π
theorem mN:υ 87 true:=TA.of underlying87 _ rfl
theorem lH:χ 87 3:=π
theorem iH:φ 87 0 0:=ο underlying87 aAE
theorem K8:φ 87 1 1:=ο underlying87 aI
theorem nD:φ 87 2 2:=ο underlying87 MR
theorem lK:υ 89 true:=TA.of underlying89 _ rfl
theorem fC:χ 89 17:=π
theorem tC:ι 89 (.agg #[qN,qN,qI 0,qI 0,qI 0,qN,qI 0,qN,qN,qI 0,qI 0,qI 0,qN,qN,qN,qI 0,qN]):=δ
theorem bHG:κ 89 [(0,4),(4,5),(9,5),(14,3)]:=η underlying89
theorem eB:φ 89 0 0:=ο underlying89 lY
theorem dA:φ 89 1 4:=ο underlying89 jP
theorem fS:φ 89 2 9:=ο underlying89 fG
theorem eU:φ 89 3 14:=ο underlying89 lH
theorem aDJ:υ 110 false:=TA.of underlying110 _ rfl
theorem aCQ:χ 110 1:=π
theorem aYS:χ 112 2:=π
theorem aXA:ι 112 (.agg #[.pointer none,qN]):=δ
theorem AN:φ 112 0 0:=ο underlying112 aCQ
theorem LC:φ 112 1 1:=ο underlying112 aQR
theorem kK:υ 122 true:=TA.of underlying122 _ rfl
theorem cN:χ 122 2:=π
theorem iC:ι 122 (.agg #[qI 0,qI 0]):=δ
theorem OL:ξ 122:=θ
theorem zV:κ 122 [(0,1),(1,1)]:=η underlying122
theorem rO:φ 122 0 0:=ο underlying122 aI
theorem uO:φ 122 1 1:=ο underlying122 aI
theorem nO:υ 129 true:=TA.of underlying129 _ rfl
theorem cQ:χ 129 2:=π
theorem jS:ι 129 (.agg #[qI 0,qI 0]):=δ
theorem aEG:ξ 129:=θ
theorem j0:κ 129 [(0,1),(1,1)]:=η underlying129
theorem uP:φ 129 0 0:=ο underlying129 aI
theorem uR:φ 129 1 1:=ο underlying129 aI
theorem CT:υ 132 false:=TA.of underlying132 _ rfl
theorem DL:χ 132 1:=π
theorem aVZ:ι 132 (qN):=δ
theorem CY:υ 139 true:=TA.of underlying139 _ rfl
theorem mK:χ 139 2:=π
theorem tM:ι 139 (.agg #[qI 0,qI 0]):=δ
theorem bBO:ξ 139:=θ
theorem P5:κ 139 [(0,1),(1,1)]:=η underlying139
theorem P8:φ 139 0 0:=ο underlying139 aI
theorem y6:φ 139 1 1:=ο underlying139 aI
theorem xE:χ 146 2:=π
theorem CP:ι 146 (.agg #[qI 0,qI 0]):=δ
theorem aEE:ξ 146:=θ
theorem aZQ:κ 146 [(0,1),(1,1)]:=η underlying146
theorem aHV:φ 146 0 0:=ο underlying146 aI
theorem aJA:φ 146 1 1:=ο underlying146 aI
theorem tN:υ 159 true:=TA.of underlying159 _ rfl
theorem oS:χ 159 4:=π
theorem aXR:ι 159 (.agg #[qI 0,qI 0,qI 0,qI 0]):=δ
theorem kN:υ 161 true:=TA.of underlying161 _ rfl
theorem eD:χ 161 10:=π
theorem wE:ι 161 (.agg #[qI 0,qI 0,qI 0,qI 0,qI 0,qI 0,qI 0,qI 0,qI 0,qI 0]):=δ
theorem aYX:ξ 161:=θ
theorem aXS:κ 161 [(0,4),(4,4),(8,1),(9,1)]:=η underlying161
theorem uL:φ 161 0 0:=ο underlying161 oS
theorem uN:φ 161 1 4:=ο underlying161 oS
theorem pT:φ 161 2 8:=ο underlying161 aI
theorem u5:φ 161 3 9:=ο underlying161 aI
theorem bEA:υ 162 false:=TA.of underlying162 _ rfl
theorem CL:υ 163 false:=TA.of underlying163 _ rfl
theorem bAM:χ 163 1:=π
theorem aWG:ι 163 (.pointer none):=δ
theorem O9:υ 168 false:=TA.of underlying168 _ rfl
theorem aFK:χ 168 1:=π
theorem bBH:ι 170 (.agg #[qN,qN,qI 0,qI 0,qN]):=δ
theorem bEC:κ 170 [(0,4),(4,1)]:=η underlying170
theorem rK:φ 170 1 4:=ο underlying170 aFK
theorem DJ:υ 184 true:=TA.of underlying184 _ rfl
theorem eQ:χ 184 3:=π
theorem nP:ι 184 (.agg #[qI 0,qI 0,qI 0]):=δ
theorem a7:ξ 184:=θ
theorem CI:κ 184 [(0,1),(1,1),(2,1)]:=η underlying184
theorem rY:φ 184 0 0:=ο underlying184 aI
theorem yW:φ 184 1 1:=ο underlying184 aI
theorem rJ:φ 184 2 2:=ο underlying184 aI
theorem kL:υ 190 true:=TA.of underlying190 _ rfl
theorem eH:χ 190 9:=π
theorem uH:ι 190 (.agg #[qI 0,qI 0,qI 0,qI 0,qI 0,qI 0,qI 0,qI 0,qI 0]):=δ
theorem bDE:ξ 190:=θ
theorem CJ:υ 196 true:=TA.of underlying196 _ rfl
theorem uE:χ 196 10:=π
theorem aYA:ι 196 (.agg #[qI 0,qI 0,qI 0,qI 0,qI 0,qI 0,qI 0,qI 0,qI 0,qI 0]):=δ
theorem wU:υ 198 false:=TA.of underlying198 _ rfl
theorem aXB:χ 198 1:=π
theorem aZW:ι 198 (.pointer none):=δ
theorem qF:υ 201 false:=TA.of underlying201 _ rfl
theorem CE:χ 201 1:=π
theorem DO:ι 201 (.nilFunc):=δ
theorem aES:υ 202 false:=TA.of underlying202 _ rfl
theorem aZB:χ 202 1:=π
theorem aEK:ι 205 (.agg #[.nilFunc]):=δ
theorem aBI:κ 205 [(0,1)]:=η underlying205
theorem IU:φ 205 0 0:=ο underlying205 aZB
theorem aCW:υ 208 false:=TA.of underlying208 _ rfl
theorem aZT:χ 208 1:=π
theorem bAE:ι 208 (.nilFunc):=δ
theorem wY:υ 212 false:=TA.of underlying212 _ rfl
theorem Z1:χ 212 1:=π
theorem aCP:ι 212 (qN):=δ
theorem CQ:υ 214 false:=TA.of underlying214 _ rfl
theorem aFI:υ 217 false:=TA.of underlying217 _ rfl
theorem aYF:χ 217 1:=π
theorem aDZ:χ 220 1:=π
theorem QF:ι 220 (.agg #[.nilFunc]):=δ
theorem bAT:κ 220 [(0,1)]:=η underlying220
theorem LY:φ 220 0 0:=ο underlying220 aYF
theorem QB:υ 221 false:=TA.of underlying221 _ rfl
theorem aXU:χ 221 1:=π
theorem aWQ:ι 221 (.nilFunc):=δ
theorem aYW:υ 225 true:=TA.of underlying225 _ rfl
theorem tT:χ 225 2:=π
theorem wR:ι 225 (.agg #[qI 0,qI 0]):=δ
theorem OE:ξ 225:=θ
theorem aZE:κ 225 [(0,1),(1,1)]:=η underlying225
theorem aGQ:φ 225 0 0:=ο underlying225 aI
theorem aGI:φ 225 1 1:=ο underlying225 aI
theorem aEB:υ 245 false:=TA.of underlying245 _ rfl
theorem l7:χ 245 1:=π
theorem OJ:ι 245 (qN):=δ
theorem aZS:ξ 245:=θ
theorem bAS:υ 246 false:=TA.of underlying246 _ rfl
theorem X9:υ 256 false:=TA.of underlying256 _ rfl
theorem aXL:χ 256 1:=π
theorem kM:ι 256 (qN):=δ
theorem bCD:υ 261 true:=TA.of underlying261 _ rfl
theorem sH:χ 261 3:=π
theorem C8:ι 261 (.agg #[.bool false,qI 0,qI 0]):=δ
theorem OK:ξ 261:=θ
theorem aFJ:κ 261 [(0,1),(1,1),(2,1)]:=η underlying261
theorem aLF:φ 261 0 0:=ο underlying261 mI
theorem LM:φ 261 1 1:=ο underlying261 aI
theorem O0:φ 261 2 2:=ο underlying261 aI
theorem aZG:υ 263 true:=TA.of underlying263 _ rfl
theorem wM:χ 263 4:=π
theorem CN:ι 263 (.agg #[qI 0,qI 0,qI 0,qI 0]):=δ
theorem aCT:ξ 263:=θ
theorem bCX:κ 263 [(0,1),(1,1),(2,2)]:=η underlying263
theorem aKW:φ 263 0 0:=ο underlying263 aI
theorem aKB:φ 263 1 1:=ο underlying263 aI
theorem IS:φ 263 2 2:=ο underlying263 mK
theorem tY:υ 265 true:=TA.of underlying265 _ rfl
theorem fO:χ 265 3:=π
theorem wS:ι 265 (.agg #[qI 0,qI 0,qI 0]):=δ
theorem bCQ:ξ 265:=θ
theorem sG:χ 267 4:=π
theorem DK:ι 267 (.agg #[qI 0,qI 0,qI 0,qI 0]):=δ
theorem aFL:ξ 267:=θ
theorem aWZ:κ 267 [(0,1),(1,3)]:=η underlying267
theorem O4:φ 267 0 0:=ο underlying267 aI
theorem y0:φ 267 1 1:=ο underlying267 fO
theorem aWH:υ 274 false:=TA.of underlying274 _ rfl
theorem DE:υ 277 true:=TA.of underlying277 _ rfl
theorem kP:χ 277 3:=π
theorem zX:ι 277 (.agg #[.bool false,qI 0,qI 0]):=δ
theorem aDK:ξ 277:=θ
theorem aYY:κ 277 [(0,1),(1,1),(2,1)]:=η underlying277
theorem aHY:φ 277 0 0:=ο underlying277 mI
theorem x3:φ 277 1 1:=ο underlying277 aI
theorem yM:φ 277 2 2:=ο underlying277 aI
theorem bDG:υ 278 false:=TA.of underlying278 _ rfl
theorem aFH:υ 282 false:=TA.of underlying282 _ rfl
theorem bBD:χ 282 1:=π
theorem tH:υ 283 false:=TA.of underlying283 _ rfl
theorem aCC:χ 283 1:=π
theorem bCG:ι 285 (.agg #[qI 0,qN,qI 0,qN,qN,qN,.map none]):=δ
theorem bDF:κ 285 [(0,5),(5,1),(6,1)]:=η underlying285
theorem JI:φ 285 0 0:=ο underlying285 jP
theorem lV:φ 285 1 5:=ο underlying285 aCC
theorem KQ:φ 285 2 6:=ο underlying285 bBD
theorem pA:υ 289 true:=TA.of underlying289 _ rfl
theorem jL:χ 289 10:=π
theorem i7:ι 289 (.agg #[qI 0,qI 0,qI 0,qI 0,qI 0,qI 0,qI 0,qI 0,qI 0,qI 0]):=δ
theorem bDX:ξ 289:=θ
theorem bCY:χ 292 2:=π
theorem aFN:ι 292 (.agg #[qI 0,qI 0]):=δ
theorem bBM:κ 292 [(0,1),(1,1)]:=η underlying292
theorem aJT:φ 292 0 0:=ο underlying292 aI
theorem aLX:φ 292 1 1:=ο underlying292 aI
theorem aWS:υ 295 false:=TA.of underlying295 _ rfl
theorem bBE:υ 296 false:=TA.of underlying296 _ rfl
theorem nM:υ 298 true:=TA.of underlying298 _ rfl
theorem cS:χ 298 3:=π
theorem kQ:ι 298 (.agg #[qI 0,qI 0,qI 0]):=δ
theorem n9:ξ 298:=θ
theorem aBW:κ 298 [(0,1),(1,1),(2,1)]:=η underlying298
theorem t6:φ 298 0 0:=ο underlying298 aI
theorem rU:φ 298 1 1:=ο underlying298 aI
theorem nR:φ 298 2 2:=ο underlying298 aI
theorem NO:υ 301 true:=TA.of underlying301 _ rfl
theorem wO:χ 301 3:=π
theorem DC:ι 301 (.agg #[qI 0,qI 0,qI 0]):=δ
theorem bDI:ξ 301:=θ
theorem aXJ:κ 301 [(0,1),(1,2)]:=η underlying301
theorem R1:φ 301 0 0:=ο underlying301 aI
theorem s8:φ 301 1 1:=ο underlying301 eF
theorem OA:υ 305 false:=TA.of underlying305 _ rfl
theorem bDS:χ 305 1:=π
theorem aEW:ι 307 (.agg #[qI 0,qI 0,qI 0,qN,qN,.map none]):=δ
theorem aEY:κ 307 [(0,5),(5,1)]:=η underlying307
theorem zD:φ 307 0 0:=ο underlying307 fG
theorem x4:φ 307 1 5:=ο underlying307 bDS
theorem aWR:υ 310 false:=TA.of underlying310 _ rfl
theorem qE:υ 312 true:=TA.of underlying312 _ rfl
theorem oQ:χ 312 3:=π
theorem d7:ι 312 (.agg #[qI 0,qI 0,qI 0]):=δ
theorem aYV:ξ 312:=θ
theorem MS:υ 314 true:=TA.of underlying314 _ rfl
theorem mC:χ 314 4:=π
theorem P1:ι 314 (.agg #[qI 0,qI 0,qI 0,qI 0]):=δ
theorem aDF:ξ 314:=θ
theorem aWX:κ 314 [(0,1),(1,3)]:=η underlying314
theorem AM:φ 314 0 0:=ο underlying314 aI
theorem Q8:φ 314 1 1:=ο underlying314 oQ
theorem aZX:υ 315 false:=TA.of underlying315 _ rfl
theorem aBX:υ 317 false:=TA.of underlying317 _ rfl
theorem aYI:χ 317 1:=π
theorem aXX:ι 319 (.agg #[qN,qI 0,qN,.map none]):=δ
theorem bDN:κ 319 [(0,3),(3,1)]:=η underlying319
theorem R5:φ 319 0 0:=ο underlying319 lH
theorem JV:φ 319 1 3:=ο underlying319 aYI
theorem OD:υ 323 false:=TA.of underlying323 _ rfl
theorem aZA:χ 323 1:=π
theorem aWW:ι 323 (qN):=δ
theorem Y5:υ 325 true:=TA.of underlying325 _ rfl
theorem zP:χ 325 7:=π
theorem uD:υ 327 true:=TA.of underlying327 _ rfl
theorem hZ:χ 327 9:=π
theorem xC:ι 327 (.agg #[qI 0,qI 0,qI 0,qI 0,qI 0,qI 0,qI 0,qI 0,qI 0]):=δ
theorem PB:ξ 327:=θ
theorem O3:φ 327 0 0:=ο underlying327 aI
theorem p7:φ 327 1 1:=ο underlying327 aI
theorem Q1:φ 327 2 2:=ο underlying327 zP
theorem CX:χ 337 2:=π
theorem NF:ι 337 (.agg #[qI 0,qI 0]):=δ
theorem bCW:ξ 337:=θ
theorem bDT:κ 337 [(0,1),(1,1)]:=η underlying337
theorem aID:φ 337 0 0:=ο underlying337 aI
theorem aJR:φ 337 1 1:=ο underlying337 aI
theorem bEB:χ 339 3:=π
theorem aZO:ι 339 (.agg #[.int .u8 0,.int .u8 0,.int .u8 0]):=δ
theorem aFB:υ 341 true:=TA.of underlying341 _ rfl
theorem B9:χ 341 4:=π
theorem aEP:ι 341 (.agg #[.int .u8 0,.int .u8 0,.int .u8 0,.int .u8 0]):=δ
theorem bAI:υ 343 true:=TA.of underlying343 _ rfl
theorem CD:χ 343 7:=π
theorem OT:ι 343 (.agg #[.int .u8 0,.int .u8 0,.int .u8 0,.int .u8 0,.int .u8 0,.int .u8 0,.int .u8 0]):=δ
theorem aZR:κ 343 [(0,3),(3,4)]:=η underlying343
theorem AD:φ 343 0 0:=ο underlying343 bEB
theorem aJY:φ 343 1 3:=ο underlying343 B9
theorem aWE:χ 347 1:=π
theorem aCJ:ι 347 (.agg #[qI 0]):=δ
theorem aYJ:κ 347 [(0,1)]:=η underlying347
theorem aIM:φ 347 0 0:=ο underlying347 sZ
theorem bDK:υ 349 false:=TA.of underlying349 _ rfl
theorem aZN:χ 349 1:=π
theorem bDZ:χ 351 2:=π
theorem fQ:ι 351 (.agg #[qI 0,.nilFunc]):=δ
theorem gW:κ 351 [(0,1),(1,1)]:=η underlying351
theorem aHE:φ 351 0 0:=ο underlying351 aI
theorem aIB:φ 351 1 1:=ο underlying351 aZN
theorem aWY:ι 359 (.agg #[qN,qN,qI 0,qI 0,qI 0,qN,qI 0,qN,qN,qI 0,qI 0,qI 0,qN,qN,qN,qI 0,qN]):=δ
theorem aXY:κ 359 [(0,17)]:=η underlying359
theorem aZ:φ 359 0 0:=ο underlying359 fC
theorem bAL:υ 360 false:=TA.of underlying360 _ rfl
theorem aWJ:υ 371 false:=TA.of underlying371 _ rfl
theorem aWT:υ 373 false:=TA.of underlying373 _ rfl
theorem PN:υ 376 true:=TA.of underlying376 _ rfl
theorem lM:χ 376 4:=π
theorem A5:ι 376 (.agg #[qI 0,qI 0,qI 0,qI 0]):=δ
theorem aFC:ξ 376:=θ
theorem bDJ:κ 376 [(0,1),(1,1),(2,2)]:=η underlying376
theorem LR:φ 376 0 0:=ο underlying376 aI
theorem JD:φ 376 1 1:=ο underlying376 aI
theorem KI:φ 376 2 2:=ο underlying376 cN
theorem aZL:υ 378 false:=TA.of underlying378 _ rfl
theorem NQ:υ 383 true:=TA.of underlying383 _ rfl
theorem DM:χ 383 9:=π
theorem R4:ι 383 (.agg #[qI 0,qI 0,qI 0,qI 0,qI 0,qI 0,qI 0,qI 0,qI 0]):=δ
theorem NC:κ 383 [(0,1),(1,4),(5,4)]:=η underlying383
theorem bBX:υ 385 false:=TA.of underlying385 _ rfl
theorem aFF:υ 389 true:=TA.of underlying389 _ rfl
theorem aCR:χ 389 8:=π
theorem OR:ι 389 (.agg #[qI 0,qI 0,qI 0,qI 0,qI 0,qI 0,qI 0,qI 0]):=δ
theorem PO:κ 389 [(0,1),(1,7)]:=η underlying389
theorem x8:φ 389 0 0:=ο underlying389 aI
theorem s9:φ 389 1 1:=ο underlying389 zP
theorem MH:υ 434 false:=TA.of underlying434 _ rfl
theorem bCU:χ 434 1:=π
theorem bDP:ι 437 (.agg #[.nilFunc]):=δ
theorem aZP:κ 437 [(0,1)]:=η underlying437
theorem s4:φ 437 0 0:=ο underlying437 bCU

end Go.Fs
namespace Go.Fs.C1
structure xX where
 back:Bool
 many:Int
 num:Int
 deriving DecidableEq
structure dO where
 places:List Int
 counts:List xX
 wrong:Int
 off:Int
 deriving DecidableEq
def gU(n lo hi:Int):Bool:=decide (lo≤n)&&decide (n≤hi)
def tP(n:Int):Bool:=gU n 0 2
def sS(len:Nat)(c:xX):Bool:=gU c.many 0 len&&gU c.num 0 9
def aX(r:dO):Int:=
 if 9<r.places.length∨6<r.counts.length then 3
 else if r.places.length=0∨gU r.wrong 0 6=false∨gU r.off 0 9=false∨r.places.all tP=false∨r.counts.all (sS r.places.length)=false then 1
 else 0
def dH(l:List Int):Nat:=(l.filter (· ==2)).length
def qA(t p:Int):Bool:=gU t 0 1&&(p==2||t==p)
def eO(r:dO)(t:List Int):Bool:=(t.length==r.places.length)&&(t.zip r.places).all fun x=>qA x.1 x.2
def dG(l:List Int)(i k:Nat):Int:=((l.drop i).take k).sum
def H3(t:List Int)(c:xX):Int:=if c.back then dG t (t.length-c.many.toNat) c.many.toNat else dG t 0 c.many.toNat
def gS(t:List Int)(c:xX):Int:=max (H3 t c-c.num) (c.num-H3 t c)
def eW(r:dO)(t:List Int):Bool:=r.counts.all fun c=>decide (gS t c≤r.off)
def sD(r:dO)(t:List Int):Nat:=(r.counts.filter fun c=>decide (0<gS t c)).length
def cE:List Int→List (List Int)
 | []=>[[]]
 |p::ps=>(if p=2∨p=0 then(cE ps).map (0:: ·)else [])++(if p=2∨p=1 then(cE ps).map (1:: ·)else [])
def fits(r:dO)(t:List Int):Bool:=eW r t&&decide ((sD r t:Int)≤r.wrong)
def truths(r:dO):List (List Int):=(cE r.places).filter (fits r)
def jQ(t:List Int)(i j:Nat):Int:=dG t i (j+1-i)
def rC:List Int→Int
 | []=>0
 |x::xs=>xs.foldl min x
def pH:List Int→Int
 | []=>0
 |x::xs=>xs.foldl max x

theorem B4{l:List Int}{i k:Nat}{x:Int}(h:l[i+k]?= some x):dG l i (k+1)=dG l i k+x:=by
 unfold dG;rw[bLW,bOJ,h];simp
theorem eY{l:List Int}(hb:∀x∈l,0≤x∧x≤1)(i k:Nat):0≤dG l i k∧dG l i k≤k:=by
 induction k with
 |zero=>simp[dG]
 |succ k ih=>
  cases h:l[i+k]? with
  |none=>
   have:dG l i (k+1)=dG l i k:=by
    unfold dG;rw[bLW,bOJ,h];simp
   rw[this];omega
  |some x=>rw[B4 h];have:=hb x (n5 h);omega
theorem S6(l:List Int)(i k m:Nat):dG l i (k+m)=dG l i k+dG l (i+k) m:=by
 unfold dG;rw[List.take_add,List.drop_drop];simp
def gK(t:List Int):List Int:=t++List.replicate (9-t.length) 0
theorem iM{t:List Int}(h:t.length≤9):(gK t).length=9:=by simp[gK];omega
theorem aAI{t:List Int}(h:∀x∈t,0≤x∧x≤1):∀x∈gK t,0≤x∧x≤1:=by
 intro x hx;rcases bMD.1 hx with hx|hx
 ·exact h x hx
 ·rw[(List.mem_replicate.1 hx).2];omega
theorem X6(n:Nat):(List.replicate n (0:Int)).sum=0:=by
 induction n with
 |zero=>rfl
 |succ n ih=>rw[List.replicate_succ,List.sum_cons,ih];rfl
theorem VS(t:List Int)(k:Nat):dG (gK t) 0 k=dG t 0 k:=by
 unfold dG gK;simp only[bPN,List.take_append,List.sum_append,List.take_replicate,X6];omega
def nX(c:List Int):List Int:=(List.range 10).map fun k=>dG c 0 k
def sL(c:List Int)(k:Nat):List Int:=(List.range 10).map fun j=>if j≤k then dG c 0 j else 0
theorem sJ(c:List Int):(nX c).length=10:=by simp[nX]
theorem HK(c:List Int)(k:Nat):(sL c k).length=10:=by simp[sL]
theorem OQ(c:List Int):sL c 9=nX c:=by simp[sL,nX,List.range,List.range.loop]
theorem VV(c:List Int)(k:Nat)(h:k<10):(sL c k)[k]?= some (dG c 0 k):=by simp[sL,h]
theorem RJ(c:List Int)(k:Nat):(sL c k).set (k+1) (dG c 0 (k+1))=sL c (k+1):=by
 apply List.ext_getElem?;intro j;rw[List.getElem?_set];simp only[sL,bNB];by_cases hj:k+1=j
 ·subst hj;by_cases hk:k+1<10
  ·simp[hk]
  ·simp[hk]
 ·rw[bLX hj];by_cases hk:j<10
  ·simp only[bPW hk,bNL];by_cases h1:j≤k
   ·rw[bMG h1,bMG Yd]
   ·rw[bLX h1,bLX Yd]
  ·simp[hk]
theorem vK(c:List Int)(k:Nat)(h:k<10):(nX c)[k]?= some (dG c 0 k):=by simp[nX,h]
theorem XZ(t:List Int):nX (gK t)=nX t:=by simp[nX,VS]

structure mD(r:dO):Prop where
 len0:0<r.places.length
 len9:r.places.length≤9
 cnt6:r.counts.length≤6
 wrong:0≤r.wrong∧r.wrong≤6
 off:0≤r.off∧r.off≤9
 place:∀p∈r.places,0≤p∧p≤2
 cnt:∀c∈r.counts,0≤c.many∧c.many≤r.places.length∧0≤c.num∧c.num≤9
theorem bN{n lo hi:Int}:gU n lo hi=true ↔ lo≤n∧n≤hi:=by simp[gU]
theorem AG{r:dO}:aX r=0 ↔ mD r:=by
 unfold aX;constructor
 ·intro h;split at h
  ·cases h
  ·split at h
   ·cases h
   ·rename_i h1 h2;simp only[bQX]at h1 h2;obtain⟨a,b,c,d,e⟩:=h2;simp only[Bool.not_eq_false,bMK,tP,sS,bLQ,bN]at b c d e;exact⟨Yd,Yd,Yd,b,c,d,fun x hx=>⟨(e x hx).1.1,(e x hx).1.2,(e x hx).2.1,(e x hx).2.2⟩⟩
 ·intro h;rw[bLX (by have:=h.len9;have:=h.cnt6;omega),bLX]
  simp only[bQX,Bool.not_eq_false,bMK,tP,sS,bLQ,bN];exact⟨by have:=h.len0;omega,h.wrong,h.off,h.place,fun x hx=>⟨⟨(h.cnt x hx).1,(h.cnt x hx).2.1⟩,(h.cnt x hx).2.2⟩⟩
def oX(r:dO)(t:List Int):Prop:=t.length=r.places.length∧∀x∈t,0≤x∧x≤1
def bLD(r:dO)(t:List Int):Bool:=(t.length==r.places.length)&&t.all (fun x=>gU x 0 1)&&(t.zip r.places).all fun x=>x.2==2||x.1==x.2
theorem Y2{α β:Type}{p:α→Bool}:∀{l:List α} {m:List β},l.length=m.length→((l.zip m).all fun x=>p x.1)=l.all p
 | [],[],_=>rfl
 |a::l,b::m,h=>by simp only[bPM,bPS];rw[Y2 Yax]
theorem bHL(r:dO)(t:List Int):bLD r t=eO r t:=by
 unfold bLD eO qA;by_cases h:t.length=r.places.length
 ·rw[←Y2 h];simp only[h,beq_self_eq_true,bPT];rw[bOX];simp only[bLQ,bMK];constructor
  ·rintro⟨h1,h2⟩ x hx;exact⟨h1 x hx,h2 x hx⟩
  ·intro h;exact⟨fun x hx=>(h x hx).1,fun x hx=>(h x hx).2⟩
 ·have:(t.length==r.places.length)=false:=by simpa using h
  simp[this]
theorem ZW{r:dO}{t:List Int}(h:eO r t=true):oX r t:=by
 rw[←bHL]at h;simp only[bLD,bLQ,bQR,bMK,bN]at h;exact⟨h.1.1,h.1.2⟩
theorem ZL{r:dO}{t:List Int}{c:xX}(ht:oX r t)(h0:0≤c.many)(h1:c.many≤r.places.length):
  H3 t c=if c.back then dG t 0 t.length-dG t 0 (t.length-c.many.toNat)else dG t 0 c.many.toNat:=by
 unfold H3;split
 ·have h:=S6 t 0 (t.length-c.many.toNat) c.many.toNat;rw[show t.length-c.many.toNat+c.many.toNat=t.length by rw[ht.1];omega,bOM]at h
  omega
 ·rfl
theorem CA{r:dO}{t:List Int}{c:xX}(ht:oX r t)(_h0:0≤c.many)(h1:c.many≤r.places.length)(I:r.places.length≤9):0≤H3 t c∧H3 t c≤9:=by
 unfold H3;split
 ·have:=eY ht.2 (t.length-c.many.toNat) c.many.toNat;omega
 ·have:=eY ht.2 0 c.many.toNat;omega
theorem SV{r:dO}{t:List Int}{c:xX}(hr:mD r)(ht:oX r t)(hc:c∈r.counts):0≤gS t c∧gS t c≤9:=by
 obtain⟨a,b,d,e⟩:=hr.cnt c hc;have:=CA ht a b hr.len9;unfold gS;omega

def UZ(p:Int)(ps pre:List Int)(k:Nat):List (List Int):=(List.range k).flatMap fun(m:Nat)=>if p=2∨p=(m:Int)then(cE ps).map (fun t=>gK (pre++(m:Int)::t))else []
theorem aVK{p:Int}{ps pre:List Int}:UZ p ps pre 0=[]:=rfl
theorem bGO{p:Int}{ps pre:List Int}{k:Nat}(h:¬(p=2∨p=(k:Int))):UZ p ps pre (k+1)=UZ p ps pre k:=by
 unfold UZ;rw[bND,bMZ];simp[h]
theorem aDG{p:Int}{ps pre:List Int}{k:Nat}(h:p=2∨p=(k:Int)):UZ p ps pre (k+1)=UZ p ps pre k++(cE ps).map (fun t=>gK (pre++[(k:Int)]++t)):=by
 unfold UZ;rw[bND,bMZ];simp[h]
theorem aDR{p:Int}{ps pre:List Int}:UZ p ps pre 2=(cE (p::ps)).map (fun t=>gK (pre++t)):=by
 by_cases h2:p=2
 ·simp[UZ,cE,List.range,List.range.loop,Function.comp_def,h2]
 ·by_cases h0:p=0
  ·simp[UZ,cE,List.range,List.range.loop,Function.comp_def,h0]
  ·by_cases h1:p=1
   ·simp[UZ,cE,List.range,List.range.loop,Function.comp_def,h1]
   ·have:¬(1:Int)=p:=fun e=>h1 e.symm
    simp[UZ,cE,List.range,List.range.loop,h2,h0,h1]
theorem aOP{p:Int}{ps pre:List Int}{k:Nat}(hk:k<2):∃r,UZ p ps pre 2=UZ p ps pre (k+1)++r:=by
 rcases(by omega:k=0∨k=1)with rfl|rfl
 ·refine⟨if p=2∨p=1 then(cE ps).map (fun t=>gK (pre++1::t))else [],?_⟩;simp[UZ,List.range,List.range.loop]
 ·exact⟨[],Yf⟩
theorem TY{pre c:List Int}{n:Nat}(_h9:c.length=9)(hp:c.take n=pre)(hn:pre.length=n)(hz:c.drop n=List.replicate (9-n) 0):c=gK pre:=by
 rw[←bPB n c,hp,hz];unfold gK;rw[hn]
theorem XQ{pre c:List Int}{i n:Nat}{k:Int}(I:c.length=9)(hi:i<n)(hn:n≤9)(hp:c.take i=pre)(hz:c.drop n=List.replicate (9-n) 0):
  (c.set i k).length=9∧(c.set i k).take (i+1)=pre++[k]∧(c.set i k).drop n=List.replicate (9-n) 0:=by
 refine⟨by simpa using I,?_,?_⟩
 ·rw[List.take_succ_eq_append_getElem Yap,List.take_set_of_le (bMH _),hp];simp
 ·rw[List.drop_set_of_lt hi,hz]
theorem sO(l:List Int):(cE l).length≤2^l.length:=by
 induction l with
 |nil=>simp[cE]
 |cons p ps ih=>
  simp only[cE,bLT,bLU,Nat.pow_succ];have:∀(c:Prop) [Decidable c] (f:List Int→List Int),(if c then(cE ps).map f else []).length≤(cE ps).length:=by intro c _ f;split<;>simp
  have h1:=this (p=2∨p=0) (0:: ·);have h2:=this (p=2∨p=1) (1:: ·);omega
theorem qL{l t:List Int}(h:t∈cE l):t.length=l.length∧∀x∈t,0≤x∧x≤1:=by
 induction l generalizing t with
 |nil=>simp[cE]at h;subst h;simp
 |cons p ps ih=>
  simp only[cE,bMD]at h;rcases h with h|h
  ·split at h
   ·obtain⟨t',ht',rfl⟩:=GE.1 h;refine⟨by simp[(ih ht').1],fun x hx=>?_⟩;rcases bLO.1 hx with rfl|hx
    ·omega
    ·exact(ih ht').2 x hx
   ·simp at h
  ·split at h
   ·obtain⟨t',ht',rfl⟩:=GE.1 h;refine⟨by simp[(ih ht').1],fun x hx=>?_⟩;rcases bLO.1 hx with rfl|hx
    ·omega
    ·exact(ih ht').2 x hx
   ·simp at h
theorem Q6{places x:List Int}{pre r:List (List Int)}(h:(cE places).map gK=pre++x::r):∃t,(cE places)[pre.length]?= some t∧x=gK t∧t∈cE places∧(cE places).take (pre++[x]).length=(cE places).take pre.length++[t]:=by
 have h1:((cE places).map gK)[pre.length]?= some x:=by rw[h];simp
 rw[bNB,bOY]at h1;obtain⟨t,ht,hx⟩:=h1;refine⟨t,ht,hx.symm,n5 ht,?_⟩;rw[bLT,bOD,bLW,ht];rfl
def eE(r:dO)(fine:Bool):Int:=if aX r≠0 then aX r else if fine=false then 2 else if truths r=[]then 11 else 0
def qM(r:dO)(i j:Int):Bool:=gU i 0 (r.places.length-1)&&gU j i (r.places.length-1)

def EB(ts:List (List Int))(i j:Nat):Int:=rC (ts.map fun t=>jQ t i j)
def DR(ts:List (List Int))(i j:Nat):Int:=pH (ts.map fun t=>jQ t i j)
theorem FM(l:List Int)(a:Int)(h:l[0]?= some a):l.foldl min a=rC l:=by
 cases l with
 |nil=>simp at h
 |cons x l=>simp at h;subst h;simp[rC]
theorem DZ(l:List Int)(a:Int)(h:l[0]?= some a):l.foldl max a=pH l:=by
 cases l with
 |nil=>simp at h
 |cons x l=>simp at h;subst h;simp[pH]
theorem MV{t:List Int}(hb:∀x∈t,0≤x∧x≤1)(i j:Nat)(hj:j<9):0≤jQ t i j∧jQ t i j≤9:=by
 unfold jQ;have:=eY hb i (j+1-i);omega
def vd(ts:List (List Int))(q:List Int→Bool):Int:=
 match ts with
 | []=>1
 |t0::_=>if(ts.all fun t=>q t==q t0)=true then(if q t0=true then 1 else 2)else 3
theorem aRB{ts:List (List Int)}{q:List Int→Bool}{t0:List Int}(h0:ts[0]?= some t0){j:Nat}(hj:ts.length≤j)(h:(ts.take j).all (fun t=>q t==q t0)=true):vd ts q=if q t0=true then 1 else 2:=by
 rw[bMV hj]at h;cases ts with
 |nil=>simp at h0
 |cons x l=>simp at h0;subst h0;simp only[vd];rw[bMG h]
theorem bEM{ts:List (List Int)}{q:List Int→Bool}{t0 t:List Int}(h0:ts[0]?= some t0){j:Nat}(hj:ts[j]?= some t)(h:(!(q t==q t0))=true):vd ts q=3:=by
 cases ts with
 |nil=>simp at h0
 |cons x l=>
  simp only[List.getElem?_cons_zero,bPV]at h0;subst h0;simp only[vd]
  rw[bLX];intro ha;have:=bMK.1 ha t (n5 hj);simp[this]at h
def aOR(i:Nat)(t:List Int):Bool:=decide (0<t.getD i 0)
def tI(r:dO)(i:Nat)(t:List Int):Bool:=match r.counts[i]? with|some c=>decide (gS t c=0)|none=>false
theorem aTM{t:List Int}{i:Nat}(h:i<9)(I:t.length≤9):(gK t)[i]?= some (t.getD i 0):=by
 unfold gK;by_cases hi:i<t.length
 ·rw[bNX hi,bNR,bLR hi];rfl
 ·rw[bOV Yd,List.getElem?_replicate,bMG Yd,bNR,bOP Yd];rfl
theorem uT{r:dO}{t:List Int}(h:t∈truths r):oX r t:=qL (bOZ.1 h).1


def lW(r:dO)(o:Option Int)(t:List Int):Option Int:=if eW r t=true then some (match o with|none=>(sD r t:Int)|some m=>min m (sD r t))else o
def oU(r:dO)(us:List (List Int)):Option Int:=us.foldl (lW r) none
theorem F0(r:dO)(us:List (List Int))(t:List Int):oU r (us++[t])=lW r (oU r us) t:=by simp[oU]
theorem OV{r:dO}{o:Option Int}{t:List Int}{w:Int}(h:∃m,o=some m∧m≤w):∃m,lW r o t=some m∧m≤w:=by
 obtain⟨m,rfl,hm⟩:=h;unfold lW;split
 ·exact⟨_,rfl,Yn⟩
 ·exact⟨m,rfl,hm⟩
theorem b8{r:dO}{w:Int}:∀(us:List (List Int)) (o:Option Int),(∃m,o=some m∧m≤w)→∃m,us.foldl (lW r) o=some m∧m≤w
 | [],o,h=>h
 |t::us,o,h=>by rw[bMO];exact b8 us _ (OV h)
theorem T1{r:dO}{t:List Int}(he:eW r t=true):∀(us:List (List Int)) (o:Option Int),t∈us→∃m,us.foldl (lW r) o=some m∧m≤(sD r t:Int)
 |u::us,o,h=>by
  rw[bMO];rcases bLO.1 h with rfl|h
  ·refine b8 us _ ?_;unfold lW;rw[bMG he];refine⟨_,rfl,?_⟩;split<;>omega
  ·exact T1 he us _ h
theorem IA{r:dO}{us:List (List Int)}{t:List Int}(h:t∈us):oU r (us++[t])=oU r us:=by
 rw[F0];unfold lW;split
 ·rename_i he;obtain⟨m,hm,hle⟩:=T1 he us none h;have:oU r us=some m:=hm;rw[this];simp only;rw[Int.min_eq_left hle]
 ·rfl
theorem aOU{t u:List Int}(hl:t.length=u.length)(h:gK t=gK u):t=u:=by
 have:=bLZ (List.take t.length) h;unfold gK at this;rw[bQS,hl,bQS]at this;exact this
def J5(r:dO)(pre:List (List Int))(g:Option Int×List Int):Prop:=g.1=oU r ((cE r.places).take pre.length)∧g.2.length=9∧∀u,((cE r.places).take pre.length).getLast?= some u→g.2=gK u
theorem YQ{r:dO}{pre:List (List Int)}{o:Option Int}{last t:List Int}(h:J5 r pre (o,last))(ht:t∈cE r.places)(htake:(cE r.places).take (pre++[gK t]).length=(cE r.places).take pre.length++[t])(hc:(o.isSome&&(gK t==last))=true):J5 r (pre++[gK t]) (o,last):=by
 obtain⟨h1,h2,h3⟩:=h;simp only[bLQ,bQR]at hc;obtain⟨ho,hl⟩:=hc;cases hg:((cE r.places).take pre.length).getLast? with
 |none=>
  rw[List.getLast?_eq_none_iff]at hg;rw[hg]at h1;simp only at h1;rw[h1]at ho;cases ho
 |some u=>
  have hu:=List.mem_of_getLast? hg;have h4:=h3 u hg;simp only at h4;have hut:t=u:=aOU (by rw[(qL ht).1,(qL (bQK hu)).1]) (by rw[hl,h4]);subst hut;refine⟨?_,h2,fun v hv=>?_⟩
  ·rw[htake,IA hu];exact h1
  ·rw[htake,List.getLast?_concat]at hv;cases hv;exact h4
theorem aLW{r:dO}{pre:List (List Int)}{o:Option Int}{last t:List Int}(h:J5 r pre (o,last))(I:(gK t).length=9)(htake:(cE r.places).take (pre++[gK t]).length=(cE r.places).take pre.length++[t])
  (hc:(eW r t&&(!o.isSome||decide ((if eW r t=true then(sD r t:Int)else 0)<o.getD 0)))=true):J5 r (pre++[gK t]) (some (if eW r t=true then(sD r t:Int)else 0),gK t):=by
 obtain⟨h1,h2,h3⟩:=h;simp only[bLQ]at hc;obtain⟨he,hc⟩:=hc;refine⟨?_,I,fun v hv=>?_⟩
 ·simp only at h1;rw[htake,F0,←h1];simp only[lW,he,bOC]at hc ⊢
  cases o with
  |none=>rfl
  |some m=>
   simp only[Option.isSome_some,Bool.not_true,Bool.false_or,LT,bPK]at hc;simp only;rw[Int.min_eq_right Yd]
 ·rw[htake,List.getLast?_concat]at hv;cases hv;rfl
theorem aPW{r:dO}{pre:List (List Int)}{o:Option Int}{last t:List Int}(h:J5 r pre (o,last))(I:(gK t).length=9)(htake:(cE r.places).take (pre++[gK t]).length=(cE r.places).take pre.length++[t])
  (hc:(eW r t&&(!o.isSome||decide ((if eW r t=true then(sD r t:Int)else 0)<o.getD 0)))=false):J5 r (pre++[gK t]) (o,gK t):=by
 obtain⟨h1,h2,h3⟩:=h;refine⟨?_,I,fun v hv=>?_⟩
 ·simp only at h1;rw[htake,F0,←h1];unfold lW;split
  ·rename_i he;simp only[he,bPT,bOC]at hc;cases o with
   |none=>simp at hc
   |some m=>
    simp only[Option.isSome_some,Bool.not_true,Bool.false_or,bLV,bPK]at hc;simp only;rw[Int.min_eq_left Yd]
  ·rfl
 ·rw[htake,List.getLast?_concat]at hv;cases hv;rfl
def xJ(r:dO):Int:=if aX r≠0 then 0 else(oU r (cE r.places)).getD 0
def p9(r:dO):Int:=if aX r≠0 then aX r else if(oU r (cE r.places)).isSome=true then 0 else 10
theorem RQ{r:dO}{o:Option Int}(ho:o=oU r (cE r.places))(hf:aX r=0)(h:(!o.isSome)=true):xJ r=0∧p9 r=10:=by
 have hn:o=none:=by simpa using h
 rw[xJ,p9,←ho,hn,hf];exact⟨rfl,rfl⟩
theorem QK{r:dO}{o:Option Int}(ho:o=oU r (cE r.places))(hf:aX r=0)(h:(!o.isSome)=false):xJ r=o.getD 0∧p9 r=0:=by
 have hn:o.isSome=true:=by simpa using h
 rw[xJ,p9,←ho,hf,hn];exact⟨rfl,rfl⟩

def J4(p:Int)(t:List Int)(m:Nat):List (List Int):=(List.range m).flatMap fun(c:Nat)=>if p=2∨p=(c:Int)then [t++[(c:Int)]]else []
def kB(p:Int)(out:List (List Int)):List (List Int):=out.flatMap fun t=>J4 p t 2
theorem UC{p:Int}{t:List Int}{m:Nat}(h:p=2∨p=(m:Int)):J4 p t (m+1)=J4 p t m++[t++[(m:Int)]]:=by
 unfold J4;rw[bND,bMZ];simp[h]
theorem aDH{p:Int}{t:List Int}{m:Nat}(h:¬(p=2∨p=(m:Int))):J4 p t (m+1)=J4 p t m:=by
 unfold J4;rw[bND,bMZ];simp[h]
theorem YC{p:Int}{out:List (List Int)}{k:Nat}{t:List Int}(h:out[k]?= some t):kB p (out.take (k+1))=kB p (out.take k)++J4 p t 2:=by
 unfold kB;rw[bLW,h,bMR,bMZ];simp
theorem BI:∀(l:List Int) (out:List (List Int)),l.foldl (fun o p=>kB p o) out=out.flatMap fun t=>(cE l).map (t++ ·)
 | [],out=>by simp[cE]
 |p::ps,out=>by
  rw[bMO,BI ps];unfold kB;rw[List.flatMap_assoc];congr 1;funext t;have I:∀c:Int,(cE ps).map ((t++[c])++ ·)=((cE ps).map (c:: ·)).map (t++ ·):=fun c=>by rw[bQC];congr 1;funext u;simp
  by_cases h2:p=2
  ·simp[J4,cE,h2,List.range,List.range.loop,Function.comp_def]
  ·by_cases h0:p=0
   ·simp[J4,cE,h0,List.range,List.range.loop,Function.comp_def]
   ·by_cases h1:p=1
    ·simp[J4,cE,h1,List.range,List.range.loop,Function.comp_def]
    ·simp[J4,cE,h2,h0,h1,List.range,List.range.loop]
theorem U2(l:List Int):l.foldl (fun o p=>kB p o) [[]]=cE l:=by rw[BI];simp
end Go.Fs.C1
namespace Go.Fs
open C1
def RC:Rd xX:=fun _ c cs=>cs=[.bool c.back,qI c.many,qI c.num]
theorem RC.up:RC.Up:=fun _ _ _ h=>h
def iV(n:Int):Γ:=qI n
def cV(c:xX):Γ:=.agg #[.bool c.back,qI c.many,qI c.num]
def oI(D:aC)(v:Γ)(r:dO):Prop:=∃pv cv,v=.agg #[pv,cv,qI r.wrong,qI r.off]∧Sl D RI 1 pv r.places∧Sl D RC 3 cv r.counts
theorem oI.up{D D':aC}{v:Γ}{r:dO}(h:oI D v r)(hl:Le D D'):oI D' v r:=by
 obtain⟨pv,cv,hv,hp,hc⟩:=h;exact⟨pv,cv,hv,hp.up RI.up hl,hc.up RC.up hl⟩
def idxOf{α:Type}(p:α→Bool)(xs:List α):Int:=if xs.any p then(xs.findIdx p:Int)else -1
def RT:Rd (List Int):=fun _ t cs=>cs=ints (gK t)
theorem RT.up:RT.Up:=fun _ _ _ h=>h
def aNQ(D:aC)(v:Γ)(r:dO):Prop:=∃b pv cv tv,v=qP b∧At D b 0 [pv,cv,qI r.wrong,qI r.off,tv]∧Sl D RI 1 pv r.places∧Sl D RC 3 cv r.counts∧Sl D RT 9 tv (truths r)
def V1(e:Nat)(r:dO)(pre:List (List Int))(g:Γ×aD):Prop:=bM e 9 g.1 (((cE r.places).take pre.length).filter (fits r)).length ((((cE r.places).take pre.length).filter (fits r)).flatMap fun t=>ints (gK t)) g.2
theorem SX{l:List (List Int)}(h:∀t∈l,t.length≤9):(l.flatMap fun t=>ints (gK t)).length=l.length*9:=by
 induction l with
 |nil=>rfl
 |cons t l ih=>
  rw[bMS,bLT,ih fun t ht=>h t (LE _ ht),bLU,Fs.aM,iM (h t bLP),bOK];omega
theorem GW{l:List (List Int)}(h:∀t∈l,t.length≤9){i:Nat}{t:List Int}(hi:l[i]?= some t):((l.flatMap fun t=>ints (gK t)).drop (i*9)).take 9=ints (gK t):=by
 induction l generalizing i with
 |nil=>simp at hi
 |cons u l ih=>
  have hu:(ints (gK u)).length=9:=by rw[Fs.aM,iM (h u bLP)]
  rw[bMS];cases i with
  |zero=>
   obtain rfl:u=t:=by simpa using hi
   rw[bPY,bPN,bNH Yd,bMV Yd]
  |succ i=>
   rw[bPZ,bNK Yd,bMW,hu,show(i+1)*9-9=i*9 by omega];exact ih (fun t ht=>h t (LE _ ht)) Yas
theorem kH.truths{D:aC}{v:Γ}{n:Nat}{l:List (List Int)}(hF:kH D v n (l.flatMap fun t=>Fs.ints (gK t)))(hn:l.length=n)(hb:n≤9223372036854775807)(h:∀t∈l,t.length≤9):Sl D RT 9 v l:=
 hF.sl hn hb fun i t hi=>⟨Fs.ints (gK t),rfl,by rw[Fs.aM,iM (h t (n5 hi))],GW h hi⟩
theorem bBC{e sz b:Nat}{cells:List Γ}(h:cells.length=sz):bM e sz (qS b 1 1) 1 cells [(b,.cells cells.toArray e (0,0))]:=
 bLY ⟨b,1,[],rfl,bMH _,Yf,Yd,Yap⟩
theorem kH.at{D:aC}{b n cap:Nat}{cells:List Γ}(h:kH D (qS b n cap) n cells)(hn:0<n):At D b 0 cells:=by
 rcases h with⟨a,hv,h0,_⟩|⟨b',cap',hv,_,hA⟩
 ·omega
 ·cases hv;exact hA
variable{P:Program}{X:Cx}{γb:Type}[Membership Nat γb]{bad:γb}{all:Array Oper}{K:Act→Δ→Prop}{Q:Exit→Act→Δ→Prop}
variable{σ:bX}{μ:aD}{Ds:List aC}{os:List (Bool×Nat)}{fl:Bool}{ix:Nat}
variable{d:Nat}{x y z:Operand}{u v:Γ}{ty:Θ}{pos:String}{aft:Array Edge}{g:Option (Nat×Bool)}
theorem fV{e:Θ}{q:IntKind}(hu:P.underlying e=some (.int q)){xs:Array Γ}{off:Nat}{v:Γ}(hx:xs[off]?= some v)(w:Δ):(part e xs off).run P w=.ok v w:=
 run_part_plain w (by simp[Program.plainKey,hu]) hx
theorem nJ(dp:Nat){e:Θ}(hu:P.underlying e=some (.int .i64))(l m:List Int)(w:Δ):∀(is:List Nat),(∀i∈is,i<l.length∧i<m.length)→
  (Op.eqItems (dp+1) e 1 (ints l).toArray (ints m).toArray is).run P w=.ok (is.all fun i=>l[i]? ==m[i]?) w
 | [],_=>by simp[Op.eqItems]
 |i::is,h=>by
  obtain⟨h1,h2⟩:=h i bLP;have g1:(ints l).toArray[i*1]?= some (qI l[i]):=by rw[bNY];simpa using cW (bLR h1)
  have g2:(ints m).toArray[i*1]?= some (qI m[i]):=by rw[bNY];simpa using cW (bLR h2)
  simp only[Op.eqItems,Ω,fV hu g1,fV hu g2,run_equalIn_int w dp e .i64 .i64 _ _ hu,Ξ,bPS,bLR h1,bLR h2];by_cases he:l[i]=m[i]
  ·simp[he,nJ dp hu l m w is (fun j hj=>h j (LE _ hj))]
  ·simp[he]
theorem zZ{l m:List Int}{n:Nat}(hl:l.length=n)(hm:m.length=n):((List.range n).all fun i=>l[i]? ==m[i]?)=(l==m):=by
 rw[bOX];simp only[bMK,bNJ,bQR];constructor
 ·intro h;apply List.ext_getElem?;intro i;by_cases hi:i<n
  ·exact h i hi
  ·rw[bOP Yd,bOP Yd]
 ·rintro rfl i _;rfl
theorem WU{t e t':Θ}{n:Nat}{l m:List Int}(ho:all[ix]?= some ⟨some d,.binOp .eql t x y t',ty,pos,aft,g⟩)(hgt:P.eqGuardType P.depth t=false)(ht:P.underlying t=some (.array n e))(he:P.underlying e=some (.int .i64))(hc:P.cellsOf e=1)
  (hl:l.length=n) (hm:m.length=n) (hx:ev σ x=some (.agg (ints l).toArray)) (hy:ev σ y=some (.agg (ints m).toArray)) (hN:Nat.blt d X.N=true) (hg:cZ all σ g)
  (kk:WL P X bad all K Q os ((d,.bool (l==m))::σ) μ Ds):WL P X bad all K Q ((fl,ix)::os) σ μ Ds:=
 W0 ho (fun w=>by
  have hgd:(eqGuard .eql t x y (.agg (ints l).toArray) (.agg (ints m).toArray)).run P w=.ok () w:=by
   simp only[eqGuard,program];simp[Sem.run,hgt,go_sem]
  have heq:(Op.equal t (.agg (ints l).toArray) (.agg (ints m).toArray)).run P w=.ok (l==m) w:=by
   obtain⟨i,hi⟩:=info_of_underlying he;have h:=run_equalIn_array (P:=P) w 9999 (ints l).toArray (ints m).toArray ht hi;rw[hc,nJ 9998 he l m w (List.range n) fun j hj=>by have:=bNJ.1 hj;omega,zZ hl hm]at h
   exact h
  rw[Ω,hgd];show((do Pure.pure (Value.bool (←Op.equal t (.agg (ints l).toArray) (.agg (ints m).toArray)))):Sem Γ).run P w=_;rw[Ω,heq];rfl) hx hy hN hg kk

def K2(P:Program)(k:Θ):Prop:=P.underlying k=some (.struct (P.fieldsOf k))∧P.stoodInHeld k=false∧
 (P.fieldsOf k).toList.map (fun f=>(f.name== "_",f.offset,P.underlying f.type))=[(false,0,some (.int .i64)),(false,1,some (.int .i64))]
def lE(k:Int×Int):Γ:=.agg #[qI k.1,qI k.2]
theorem K2.fields{k:Θ}(h:K2 P k):∃f0 f1,P.underlying k=some (.struct #[f0,f1])∧P.fieldsOf k=#[f0,f1]∧f0.name≠ "_" ∧f1.name≠ "_" ∧f0.offset=0∧f1.offset=1∧P.underlying f0.type=some (.int .i64)∧P.underlying f1.type=some (.int .i64):=by
 obtain⟨h1,h2,h3⟩:=h;generalize hl:(P.fieldsOf k).toList=fs at h3;have h0:=bLZ List.length h3;simp only[bNE,bLU,bNU]at h0;rcases fs with _|⟨f0,_|⟨f1,_|⟨f2,fs⟩⟩⟩<;>simp only[bLU,bNU]at h0<;>try omega
 have he:P.fieldsOf k=#[f0,f1]:=by rw[←Array.toArray_toList (xs:=P.fieldsOf k),hl]
 simp only[bMT,bQB,bOH,bPO,and_true,beq_eq_false_iff_ne]at h3;exact⟨f0,f1,by rw[h1,he],he,h3.1.1,h3.2.1,h3.1.2.1,h3.2.2.1,h3.1.2.2,h3.2.2.2⟩
theorem zR{k:Θ}(h:K2 P k)(a b:Int×Int)(w:Δ):(Op.equal k (lE a) (lE b)).run P w=.ok (a==b) w:=by
 obtain⟨I,a2⟩:=a;obtain⟨O,b2⟩:=b;obtain⟨f0,f1,hu,hf,R,U,V,Y,t0,t1⟩:=h.fields;have he:=run_equalIn_struct (P:=P) w 9999 k #[qI I,qI a2] #[qI O,qI b2] h.1 h.2.1;show(Op.equalIn (9999+1) k (.agg #[qI I,qI a2]) (.agg #[qI O,qI b2])).run P w=_;rw[he,hf];have p0:∀c1 c2:Int,(part f0.type #[qI c1,qI c2] f0.offset).run P w=.ok (qI c1) w:=fun c1 c2=>fV t0 (by rw[V];rfl) w
 have p1:∀c1 c2:Int,(part f1.type #[qI c1,qI c2] f1.offset).run P w=.ok (qI c2) w:=fun c1 c2=>fV t1 (by rw[Y];rfl) w
 have e0:=run_equalIn_int w 9998 f0.type .i64 .i64 I O t0;have Z:=run_equalIn_int w 9998 f1.type .i64 .i64 a2 b2 t1;have s1:(Op.eqFields 9999 #[qI I,qI a2] #[qI O,qI b2] [f1]).run P w=.ok (a2==b2) w:=by
  simp only[Op.eqFields,U,ne_eq,bQM,bOC,Ω,p1,Ξ];rw[Z];simp only[Ξ];cases a2==b2<;>rfl
 show(Op.eqFields 9999 #[qI I,qI a2] #[qI O,qI b2] (f0::[f1])).run P w=_;rw[Op.eqFields,bMG R];simp only[Ω,p0,Ξ];rw[e0];simp only[Ξ];by_cases hab:I=O
 ·subst hab;simp only[beq_self_eq_true,Bool.not_true,bNN,bOO];rw[s1];have:(a2==b2)=((I,a2)==(I,b2)):=by rw[bOX];simp
  rw[this]
 ·have hb:(I==O)=false:=by simpa using hab
  simp only[hb,Bool.not_false,bOC,ε];simp[hab]
theorem x9{t t':Θ}{a b:Int×Int}(ho:all[ix]?= some ⟨some d,.binOp .eql t x y t',ty,pos,aft,g⟩)(hgt:P.eqGuardType P.depth t=false)(ht:K2 P t)(hx:ev σ x=some (lE a))(hy:ev σ y=some (lE b))(hN:Nat.blt d X.N=true)(hg:cZ all σ g)
  (kk:WL P X bad all K Q os ((d,.bool (a==b))::σ) μ Ds):WL P X bad all K Q ((fl,ix)::os) σ μ Ds:=
 W0 ho (fun w=>by
  have hgd:(eqGuard .eql t x y (lE a) (lE b)).run P w=.ok () w:=by
   simp only[eqGuard,lE,program];simp[Sem.run,hgt,go_sem]
  rw[Ω,hgd];show((do Pure.pure (Value.bool (←Op.equal t (lE a) (lE b)))):Sem Γ).run P w=_;rw[Ω,zR ht];rfl) hx hy hN hg kk
theorem bIC{t t':Θ}{a b:Int×Int}(ho:all[ix]?= some ⟨some d,.binOp .neq t x y t',ty,pos,aft,g⟩)(hgt:P.eqGuardType P.depth t=false)(ht:K2 P t)(hx:ev σ x=some (lE a))(hy:ev σ y=some (lE b))(hN:Nat.blt d X.N=true)(hg:cZ all σ g)
  (kk:WL P X bad all K Q os ((d,.bool (!(a==b)))::σ) μ Ds):WL P X bad all K Q ((fl,ix)::os) σ μ Ds:=
 MY ho (fun w=>by
  have hgd:(eqGuard .neq t x y (lE a) (lE b)).run P w=.ok () w:=by
   simp only[eqGuard,lE,program];simp[Sem.run,hgt,go_sem]
  rw[Ω,hgd];show((do Pure.pure (Value.bool (!(←Op.equal t (lE a) (lE b))))):Sem Γ).run P w=_;rw[Ω,zR ht];rfl) hx hy hN hg kk
theorem uB{k k':IntKind}{s t:Θ}{u':TypeDesc}{n:Int}(ho:all[ix]?= some ⟨some d,.convert s t x,ty,pos,aft,g⟩)(hs:P.underlying s=some u')(ht:P.underlying t=some (.int k'))(hx:ev σ x=some (.int k n))(hn:tQ k' n)(hN:Nat.blt d X.N=true)(hg:cZ all σ g)
  (kk:WL P X bad all K Q os ((d,.int k' n)::σ) μ Ds):WL P X bad all K Q ((fl,ix)::os) σ μ Ds:=
 aJE ho (fun w=>by
  simp only[Go.convert,Ω,TU.of hs w,TU.of ht w,Ξ,Conv.intToInt,sF hn];rfl) hx hN hg kk
theorem bM.shape{e:Θ}{sz n:Nat}{cells:List Γ}{ν:aD}(h:bM e sz v n cells ν):∃a cap,v=.slice a n cap:=by
 rcases h with⟨a,hv,hn,_,_⟩|⟨b,cap,junk,hv,_⟩
 ·exact⟨a,0,by rw[hv,hn]⟩
 ·exact⟨_,cap,hv⟩
theorem Sl.shape{α:Type}{R:Rd α}{D:aC}{sz:Nat}{xs:List α}(h:Sl D R sz v xs):∃a cap,v=.slice a xs.length cap:=by
 obtain⟨a,cap,hv,_⟩:=h;exact⟨a,cap,hv⟩
theorem S9{t e:Θ}{sz n:Nat}{parts:Array (Nat×Operand)}{us:List (Nat×Γ)}{rs:List Γ}{z0:Γ}(ho:all[ix]?= some ⟨some d,.buildSlice t n parts,ty,pos,aft,g⟩)(ht:P.underlying t=some (.slice e))(hs:TS P e sz)(hz:TZ P e z0)(_hz1:Nat.beq z0.cells.size sz=true)
  (hu:HG σ parts.toList=some us) (hn:us.length=n) (hnz:Nat.ble (n*sz) 4096=true) (hf:PV sz 0 us rs) (hN:Nat.blt d X.N=true) (hg:cZ all σ g)
  (kk:∀b,bM e sz (qS b n n) n rs [(b,.cells rs.toArray e (0,0))]→WL P X bad all K Q os ((d,qS b n n)::σ) ((b,.cells rs.toArray e (0,0))::μ) Ds):WL P X bad all K Q ((fl,ix)::os) σ μ Ds:=by
 refine fJ ho rfl rfl hg fun a w hh=>?_
 obtain⟨h1,h2,h3,D,h4,h5,O⟩:=id hh;have hnz':n*sz≤4096:=bNZ hnz;have hlen:rs.length=n*sz:=by rw[hf.len,hn]
 have I:(parts.map fun(i,x)=>(i,a.eval x)).toList=us:=by rw[←yG (fun _ _ hx=>hh.eval hx) hu];simp
 have hrun:(execOp a.eval ⟨some d,.buildSlice t n parts,ty,pos,aft,g⟩).run P w=.ok (.value (.slice (some ⟨w.heap.size,0,none⟩) n n)) {w with heap:=w.heap.push (.cells rs.toArray e (0,0))}:=by
  simp only[execOp,Instr.buildSlice,Ω,TU.of ht w,Ξ,hs w];rw[bLX Yd];simp only[pure_bind];have key:∀zc:Array Γ,Instr.fill (fun i=>some (i*sz,sz)) ((Array.range (n*sz)).map (zc[· %zc.size]!)) us=some rs.toArray:=by
   intro zc;have:=IR hf [] ((Array.range (n*sz)).map (zc[· %zc.size]!)).toList Yf (by simp[hlen]);rw[bMW,bMW]at this;exact this
  split
  ·simp only[Ω,ε,Ξ,I,key,jY]
  ·simp only[Ω,ε,Ξ,hz w,I,key,jY]
 rw[hrun];have hs':=h4.push (.cells rs.toArray e (0,0)) rfl;refine⟨fun _=>pU _ _ _,kk w.heap.size (bLY ⟨_,n,[],rfl,bMH _,Yf,hlen,by simpa using hlen⟩) _ _ (Hl.put ⟨h1,h2,h3,D,hs',h5,O.step (fun _ p hp=>?_) (fun _=>L5 _ _) hs'.dom⟩ hN _)⟩;rcases bLO.1 hp with rfl|hp
 ·exact bLY (bMH _)
 ·exact bMF (GE.2 ⟨p,hp,rfl⟩)
theorem CC{k:Θ}(h:K2 P k)(em:Bool)(a:Int×Int)(w:Δ):(Instr.checkKey em 10000 k (lE a)).run P w=.ok () w:=by
 obtain⟨f0,f1,hu,hf,I,O,R,U,t0,t1⟩:=h.fields;have p0:(part f0.type #[qI a.1,qI a.2] f0.offset).run P w=.ok (qI a.1) w:=fV t0 (by rw[R];rfl) w
 have p1:(part f1.type #[qI a.1,qI a.2] f1.offset).run P w=.ok (qI a.2) w:=fV t1 (by rw[U];rfl) w;have c0:(Instr.checkKey em (9998+1) f0.type (qI a.1)).run P w=.ok () w:=by
  rw[Instr.checkKey,Ω,TU.of t0 w];rfl
 have c1:(Instr.checkKey em (9998+1) f1.type (qI a.2)).run P w=.ok () w:=by
  rw[Instr.checkKey,Ω,TU.of t1 w];rfl
 show(Instr.checkKey em (9999+1) k (.agg #[qI a.1,qI a.2])).run P w=_;rw[Instr.checkKey,Ω,TU.of hu w];simp only[Ξ];rw[←Array.forIn_toList];simp only[List.forIn_cons,List.forIn_nil,I,O,ne_eq,bQM,bOC,Ω,p0,Ξ,ε];rw[c0];simp only[Ξ,ε,Ω,p1];rw[c1];simp
theorem zG{t:Θ}(ho:all[ix]?= some ⟨some d,.makeMap t none,ty,pos,aft,g⟩)(hN:Nat.blt d X.N=true)(hg:cZ all σ g)
  (kk:∀b,WL P X bad all K Q os ((d,.map (some b))::σ) ((b,.map #[] 0)::μ) Ds):WL P X bad all K Q ((fl,ix)::os) σ μ Ds:=by
 refine fJ ho rfl rfl hg fun a w hh=>?_
 obtain⟨h1,h2,h3,D,h4,h5,I⟩:=id hh;have:(execOp a.eval ⟨some d,.makeMap t none,ty,pos,aft,g⟩).run P w=.ok (.value (.map (some w.heap.size))) {w with heap:=w.heap.push (.map #[] 0)}:=rfl;rw[this];exact⟨fun _=>pU _ _ _,kk _ _ _ (Hl.put ⟨h1,h2,h3,D,h4.push _ (show dE (.map #[] 0)from bRD),h5,I.step (fun _ p hp=>Xbi) (fun _=>L5 _ _) (h4.push _ (show dE (.map #[] 0)from bRD)).dom⟩ hN _)⟩
theorem pG{w:Δ}{r:Nat}{es:Array MapEntry}{clock:Nat}(h:w.heap[r]?= some (.map es clock)):(getObj r).run P w=.ok (.map es clock) w:=by
 simp[getObj,Sem.run,h]

theorem bJQ{t t':Θ}{m n:Int}{k:IntKind}(ho:all[ix]?= some ⟨some d,.binOp .shl t x y t',ty,pos,aft,g⟩)(hx:ev σ x=some (qI m))(hy:ev σ y=some (.int k n))(h0:0≤n)(h1:n<64)(hr:tQ .i64 (m*2^n.toNat))(hN:Nat.blt d X.N=true)(hg:cZ all σ g)
  (kk:WL P X bad all K Q os ((d,qI (m*2^n.toNat))::σ) μ Ds):WL P X bad all K Q ((fl,ix)::os) σ μ Ds:=
 cA ho rfl rfl hN hg (fun ρ hρ w'=>by
  have hn:min n.toNat IntKind.i64.bits=n.toNat:=by have:IntKind.i64.bits=64:=rfl;omega
  have h0':¬n<0:=by omega
  have hs:(binOp .shl t (qI m) (.int k n)).run P w'=.ok (qI (m*2^n.toNat)) w':=by
   show(Op.shift .shl .i64 m k n).run P w'=_;unfold Op.shift;rw[bLX h0'];simp only[hn,sF hr,ε]
  have hg:∀w,(eqGuard .shl t x y (qI m) (.int k n)).run P w=.ok () w:=fun w=>rfl
  simp only[execOp,hρ x _ hx,hρ y _ hy,Ω,hg,Ξ,hs,ε]) kk

def bEV(X:Cx)(b:Nat)(post:aC→Γ→Obj→Prop):Ending→Δ→Prop:=fun e w'=>∃v D' o',e=.returned v∧iX X.h0 X.lo X.D0 X.mods [(b,o')] D' w'∧post D' v o'
theorem fI{fn:Func}{b:Nat}{o':Obj}{post:aC→Γ→Obj→Prop}{e:Exit}(he:(match e with|.normal=>true|.ret=>true|_=>false)=true){rs:List ResultVar}{vs:List Γ}(hds:X.ds=[])(hr:fn.results=rs.toArray)(h:G9 P X σ μ rs vs)
  (hm:(b,o')∈μ) (hp:∀D,(∀D₁∈Ds,Le D₁ D)→post D (rG vs) o'):∀a w,Hl X σ μ Ds a w→bodyPost P fn (bEV X b post) e a w:=by
 intro a w hh;have hrun:=jE hh hr h;obtain⟨h1,h2,h3,D,h4,h5,I⟩:=hh;have:a.defers=[]∧∃v,(results fn a.tmps).run P w=.ok v w∧bEV X b post (.returned v) w:=⟨h3.trans hds,_,hrun,_,D,o',rfl,h4.sub (fun p hp=>by rw[bMI.1 hp];exact hm) Yf,hp D h5⟩
 cases e<;>first|exact this|cases he
theorem GU{t t':Θ}{n:Nat}(ho:all[ix]?= some ⟨some d,.binOp .shl t x y t',ty,pos,aft,g⟩)(hx:ev σ x=some (qI 1))(hy:ev σ y=some (qI (n:Int)))(h1:n<62)(hN:Nat.blt d X.N=true)(hg:cZ all σ g)
  (kk:WL P X bad all K Q os ((d,qI ((2^n:Nat):Int))::σ) μ Ds):WL P X bad all K Q ((fl,ix)::os) σ μ Ds:=by
 have h2:(2:Nat)^n<2^62:=Nat.pow_lt_pow_right Yd h1;have e:(1:Int)*2^(n:Int).toNat=((2^n:Nat):Int):=by simp
 have hr:tQ .i64 ((1:Int)*2^(n:Int).toNat):=by
  rw[e];generalize (2:Nat)^n=q at h2;simp only[tQ];omega
 refine bJQ ho hx hy Yd Yd hr hN hg ?_;rw[e];exact kk
def KH(P:Program)(f:FuncId)(args:Array Γ)(D:aC)(post:aC→Γ→aD→Prop):Prop:=
 EF P f∧∀w,fR D w→Calls P f args w fun e w'=>∃v D' ν,e=.returned v∧iX (hd w) w.heap.size D [] ν D' w'∧post D' v ν
theorem qR{f:FuncId}{fn:Func}{c:Code}{args:List Γ}{D:aC}{post:aC→Γ→aD→Prop}(N:Nat)(hf:P.funcs[f]?= some fn)(hn:(fn.name== "runtime.NumGoroutine")=false)(hb:fn.body=some c)(hN:fn.ntmps=N)(hsz:Nat.ble args.length N=true)
  (h:∀h0:H0,WC P ⟨none,N,[],h0,h0.size,D,[],none⟩ (bodyPost P fn (rE ⟨none,N,[],h0,h0.size,D,[],none⟩ post)) c (jJ 0 args) [] [D]):KH P f args.toArray D post:=by
 refine⟨EF.of hf hn hb,fun w hw=>?_⟩;subst hN;have hsz:=bNZ hsz;refine(dZ (r:=none) (n:=0)).1 ((callsIn_of_wp (R:=rE ⟨none,fn.ntmps,[],hd w,w.heap.size,D,[],none⟩ post) hf hb bRD (h (hd w) _ w ⟨?_,fun s v hs=>?_,rfl,D,⟨bMH _,bMH _,fun _ _ _=>rfl,fun _ _=>rfl,hw,Yi,bNW,Yi,fun e he=>bMQ he⟩,fun D₁ h1=>?_,bRD⟩) rfl).mono ?_)
 ·simp;omega
 ·obtain⟨_,h2⟩:=gR args 0 s v hs;have hl:=(bLS.1 h2).1;simp only[bPU]at h2 hl;show(args.toArray++_)[s]?= some v;rw[bON Yay];simpa using h2
 ·simp only[bMI]at h1;subst h1;exact Le.refl _
 ·rintro e w' ⟨v,D',μ',rfl,hs,hp⟩;exact⟨v,D',μ',rfl,hs,hp⟩
theorem iX.afterO{h0:H0}{lo:Nat}{D0 D D':aC}{mods:List Nat}{μ ν:aD}{w w':Δ}(h:iX h0 lo D0 mods μ D w)(hs:iX (hd w) w.heap.size D [] ν D' w'):iX h0 lo D0 mods (ν++μ) D' w':=by
 have h1:=h.after (hs.sub (μ':=[]) Yi bNW);have hge:∀p∈ν,w.heap.size≤p.1:=fun p hp=>(hs.box p hp).2.2.resolve_right Yf
 refine⟨h1.hlo,h1.size,h1.old,h1.dold,h1.agr,fun p hp=>?_,?_,(fun p hp=>by rcases bMD.1 hp with hp|hp;exact hs.fz p hp;exact h.fz p hp),h1.env⟩
 ·rcases bMD.1 hp with hp|hp
  ·obtain⟨a,b,_⟩:=hs.box p hp;exact⟨a,b,bMF (bOB h.size (hge p hp))⟩
  ·exact h1.box p hp
 ·rw[bME,bMB];refine⟨hs.nd,h.nd,fun a ha b hb=>?_⟩;obtain⟨p,hp,rfl⟩:=GE.1 ha;obtain⟨q,hq,rfl⟩:=GE.1 hb;have:=hge p hp;have:=bO (h.box q hq).1;omega
theorem gI{c:Operand}{xs:Array Operand}{ats:Array Θ}{f:FuncId}{c1 c2:List Γ}{vs:List Γ}{post:aC→Γ→aD→Prop}(ho:all[ix]?= some ⟨some d,.call {callee:=.value c,args:=xs,argTypes:=ats},ty,pos,aft,g⟩)(hc:ev σ c=some (.func (.func f) c1.toArray c2.toArray))(hxs:x5 σ xs.toList=some vs)
  (hf:∀D,(∀D₁∈Ds,Le D₁ D)→KH P f (c1++vs++c2).toArray D post) (hN:Nat.blt d X.N=true) (hg:cZ all σ g)
  (kk:∀v D ν,(∀D₁∈Ds,Le D₁ D)→post D v ν→WL P X bad all K Q os ((d,v)::σ) (ν++μ) (D::Ds)):
  WL P X bad all K Q ((fl,ix)::os) σ μ Ds:=by
 refine fJ ho rfl rfl hg fun a w hh=>?_
 obtain⟨h1,h2,h3,D,h4,h5,I⟩:=id hh;have hF:=hf D h5;rw[yH hF.1 (hh.eval hc) (lO (fun _ _ hx=>hh.eval hx) hxs)];refine⟨fun h=>Xac,dZ.2 ((hF.2 w h4.agr).mono ?_)⟩;rintro e w' ⟨v,D',ν,rfl,hs,hpost⟩;have hle:=hU h4.agr hs;refine⟨fun _=>hs.keep bad,kk v D' ν (fun D₁ hD₁=>(h5 D₁ hD₁).trans hle) hpost _ _ ?_⟩;refine Hl.put ⟨h1,h2,h3,D',h4.afterO hs,fun D₁ hD₁=>?_,I.step (fun _ p hp=>?_) (fun _=>hs.low _) (h4.afterO hs).dom⟩ hN v
 ·rcases bLO.1 hD₁ with rfl|hD₁
  ·exact Le.refl _
  ·exact(h5 D₁ hD₁).trans hle
 ·rcases bMD.1 hp with hp|hp
  ·exact bLY ((hs.box p hp).2.2.resolve_right Yf)
  ·exact bMF (GE.2 ⟨p,hp,rfl⟩)
theorem eP{t e:Θ}{sz b o n cap:Nat}{k:IntKind}{i:Int}(ho:all[ix]?= some ⟨some d,.indexAddr t x y,ty,pos,aft,g⟩)(ht:P.underlying t=some (.slice e))(hs:TS P e sz)(hx:ev σ x=some (.slice (some ⟨b,o,none⟩) n cap))
  (hy:ev σ y=some (.int k i)) (h0:0≤i) (hi:i<n) (hN:Nat.blt d X.N=true) (hg:cZ all σ g)
  (kk:WL P X bad all K Q os ((d,.pointer (some ⟨b,o+i.toNat*sz,none⟩))::σ) μ Ds):WL P X bad all K Q ((fl,ix)::os) σ μ Ds:=
 cA ho rfl rfl hN hg (fun ρ hρ w'=>by
  simp only[execOp,hρ x _ hx,hρ y _ hy];unfold Instr.indexAt asIntOf;simp only[Ω,TU.of ht w',Ξ,hs w',ε,pure_bind,h0,hi,bQT,bOC,gY]) kk
theorem bM.some{e:Θ}{sz n:Nat}{cells:List Γ}{ν:aD}(h:bM e sz v n cells ν)(hn:0<n):∃b cap junk,v=qS b n cap∧n≤cap∧ν=[(b,.cells (cells++junk).toArray e (0,0))]∧cells.length=n*sz∧(cells++junk).length=cap*sz:=by
 rcases h with⟨_,_,h0,_⟩|h
 ·omega
 ·exact h
namespace C2
open C1 (gU bN rC pH)
structure Mk where
 frm:Int
 to:Int
 lo:Int
 hi:Int
deriving DecidableEq
structure aW where
 last:Int
 heights:List (Int×Int)
 step:Int
 levels:List Int
 marks:List Mk
def fP(n:Int):Bool:=gU n 0 99
def jB(r:Int×Int):Bool:=decide (r.1≤r.2)&&fP r.1&&fP r.2
def fN(r:Int×Int):Int:=r.2-r.1+1
def FO(last n:Int):Bool:=gU n 0 last
def tD(last a b:Int):Bool:=FO last a&&FO last b&&decide (a≤b)
def wD(last:Int)(m:Mk):Bool:=tD last m.frm m.to&&jB (m.lo,m.hi)
def rF(hs:List (Int×Int)):Int:=hs.foldl (fun(m:Int) r=>min (m*fN r) 2001) 1
def lG(step:Int)(p:Option Int)(n:Int):Bool:=match p with
 |none=>true
 |some q=>gU (n-q) (-step) step
def iF(step:Int):List (Int×Int)→Option Int→List (List Int)
 | [],_=>[[]]
 |r::rs,p=>(List.range (fN r).toNat).flatMap fun(k:Nat)=>if lG step p (r.1+k)=true then(iF step rs (some (r.1+k))).map (fun l=>(r.1+(k:Int))::l)else []
def eZ(t:aW):List (List Int):=iF t.step t.heights none
def aKE(t:aW):Bool:=decide (t.last>9)||decide ((t.levels.length:Int)>6)||decide ((t.marks.length:Int)>5)
def bER(t:aW):Bool:=decide (0≤t.last)&&decide ((t.heights.length:Int)=t.last+1)&&t.heights.all jB&&fP t.step&&t.levels.all fP&&t.marks.all (wD t.last)
def aX(t:aW):Int:=if aKE t=true then 3 else if bER t=false then 1 else if 2000<rF t.heights then 3 else if eZ t=[]then 9 else 0
def jK(s:List Int)(a b:Int):Int:=pH ((s.drop a.toNat).take (b+1-a).toNat)
def gZ(t:aW)(s:List Int):Bool:=t.marks.all fun m=>gU (jK s m.frm m.to) m.lo m.hi
def xM(t:aW)(acc:List (List Int))(s:List Int):List (List Int):=if gZ t s=false∨acc.getLast?= some s then acc else acc++[s]
def bL(t:aW):List (List Int):=(eZ t).foldl (xM t) []
def oB(t:aW)(fine:Bool):Int:=if aX t≠0 then aX t else if fine=false then 2 else if bL t=[]then 11 else 0
def bKQ(s:List Int)(i:Nat):Int:=s.getD i 0
def B2(t:aW)(i:Nat):Int×Int:=(rC ((bL t).map (bKQ · i)),pH ((bL t).map (bKQ · i)))
def C0(s:List Int)(level:Int):Int:=((s.takeWhile fun n=>decide (n≤level)).length:Int)
def aNK(t:aW)(level:Int):Int×Int:=(rC ((bL t).map (C0 · level)),pH ((bL t).map (C0 · level)))
def bJP(t:aW)(a b:Int):Int:=pH ((bL t).map (jK · a b))
def dL(l:List Int):List Int:=l++List.replicate (10-l.length) 0
theorem gL{l:List Int}(h:l.length≤10):(dL l).length=10:=by simp[dL];omega
theorem YW{c l:List Int}(h2:c.take l.length=l)(h3:c.drop l.length=List.replicate (10-l.length) 0):dL l=c:=by
 unfold dL;rw[←h3]
 conv=>rhs;rw[←bPB l.length c,h2]
def WA(step:Int)(rs:List (Int×Int))(pre:List Int)(r:Int×Int)(k:Nat):List (List Int):=(List.range k).flatMap fun(m:Nat)=>if lG step pre.getLast? (r.1+m)=true then(iF step rs (some (r.1+m))).map (fun t=>dL (pre++(r.1+(m:Int))::t))else []
theorem aRQ{step:Int}{rs:List (Int×Int)}{pre:List Int}{r:Int×Int}:WA step rs pre r 0=[]:=rfl
theorem bIS{step:Int}{rs:List (Int×Int)}{pre:List Int}{r:Int×Int}{k:Nat}(h:lG step pre.getLast? (r.1+k)=false):WA step rs pre r (k+1)=WA step rs pre r k:=by
 unfold WA;rw[bND,bMZ,bOE,bLX (by simp[h]),bMM]
theorem aCN{step:Int}{rs:List (Int×Int)}{pre:List Int}{r:Int×Int}{k:Nat}(h:lG step pre.getLast? (r.1+k)=true):WA step rs pre r (k+1)=WA step rs pre r k++(iF step rs ((pre++[r.1+(k:Int)]).getLast?)).map (fun t=>dL ((pre++[r.1+(k:Int)])++t)):=by
 unfold WA;rw[bND,bMZ,bOE,bMG h,List.getLast?_concat];simp
theorem aDP{step:Int}{rs:List (Int×Int)}{pre:List Int}{r:Int×Int}:WA step rs pre r (fN r).toNat=(iF step (r::rs) pre.getLast?).map (fun t=>dL (pre++t)):=by
 unfold WA;simp only[iF];rw[List.map_flatMap]
 congr 1;funext m
 split<;>simp
theorem aSP{step:Int}{rs:List (Int×Int)}{pre:List Int}{r:Int×Int}{k n:Nat}(hk:k<n):∃rr,WA step rs pre r n=WA step rs pre r (k+1)++rr:=by
 refine⟨((List.range n).drop (k+1)).flatMap fun(m:Nat)=>if lG step pre.getLast? (r.1+m)=true then(iF step rs (some (r.1+m))).map (fun t=>dL (pre++(r.1+(m:Int))::t))else [],?_⟩;unfold WA;rw[←bMZ];congr 1;have h:=bPB (k+1) (List.range n);rw[List.take_range,bPH Yd]at h;exact h.symm
theorem GZ{step:Int}:∀(rs:List (Int×Int)) (p:Option Int) (t:List Int),t∈iF step rs p→t.length=rs.length
 | [],p,t,h=>by simp[iF]at h;subst h;rfl
 |r::rs,p,t,h=>by
  simp only[iF,bPE,bNJ]at h;obtain⟨m,hm,h⟩:=h;split at h
  ·obtain⟨u,hu,rfl⟩:=GE.1 h;rw[bLU,GZ rs _ u hu,bLU]
  ·cases h
theorem PX{step:Int}:∀(rs:List (Int×Int)) (p:Option Int) (t:List Int),(∀r∈rs,jB r=true)→t∈iF step rs p→∀x∈t,0≤x∧x≤99
 | [],p,t,_,h=>by simp[iF]at h;subst h;intro x hx;cases hx
 |r::rs,p,t,hr,h=>by
  simp only[iF,bPE,bNJ]at h;obtain⟨m,hm,h⟩:=h;split at h
  ·obtain⟨u,hu,rfl⟩:=GE.1 h;intro x hx;rcases bLO.1 hx with rfl|hx
   ·have h1:=hr r bLP;unfold jB fP at h1;simp only[bLQ,LT,bN]at h1;unfold fN at hm;omega
   ·exact PX rs _ u (fun q hq=>hr q (LE _ hq)) hu x hx
  ·cases h
structure IW(t:aW):Prop where
 last:0≤t.last∧t.last≤9
 len:(t.heights.length:Int)=t.last+1
 step:0≤t.step∧t.step≤99
 hts:∀r∈t.heights,jB r=true
 lev:t.levels.length≤6
 levs:∀n∈t.levels,0≤n∧n≤99
 mks:t.marks.length≤5
 mark:∀m∈t.marks,wD t.last m=true
theorem tOk{t:aW}(h1:aKE t=false)(h2:bER t=true):IW t:=by
 unfold aKE at h1;unfold bER fP at h2;simp only[bNG,bLV]at h1;simp only[bLQ,LT,bMK,bN]at h2;obtain⟨⟨⟨⟨⟨h3,h4⟩,h5⟩,I⟩,O⟩,h8⟩:=h2;exact⟨Yd,h4,I,h5,Yd,O,Yd,h8⟩
theorem JN{t:aW}(h:aX t=0):IW t:=by
 unfold aX at h;split at h
 ·omega
 ·rename_i h1;split at h
  ·omega
  ·rename_i h2;exact tOk Xae Xal
theorem IW.len10{t:aW}(h:IW t):t.heights.length≤10:=by have:=h.len;have:=h.last;omega

theorem aSZ{s:List Int}{a k:Nat}(h:a+k≤s.length):((dL s).drop a).take k=(s.drop a).take k:=by
 unfold dL;rw[List.drop_append_of_le_length Yd,bNH Yap]
theorem N2{s:List Int}{a b:Int}(h0:0≤a)(h1:a≤b)(h2:b<s.length):jK (dL s) a b=jK s a b:=by
 unfold jK;rw[aSZ Yd]
theorem aIG{last:Int}{m:Mk}(h:wD last m=true):0≤m.frm∧m.frm≤m.to∧m.to≤last∧0≤m.lo∧m.lo≤m.hi∧m.hi≤99:=by
 unfold wD tD FO jB fP at h;simp only[bLQ,LT,bN]at h;omega
theorem aLJ{t:aW}(ht:IW t){s:List Int}(hs:(s.length:Int)=t.last+1):gZ t (dL s)=gZ t s:=by
 unfold gZ;rw[bOX,bMK,bMK];constructor<;>intro h m hm<;>have h1:=aIG (ht.mark m hm)<;>have h2:=h m hm
 ·rwa [N2 Yd Yd Yd]at h2
 ·rwa [N2 Yd Yd Yd]
theorem WG{l:List (List Int)}{pre us:List (List Int)}{x:List Int}(h:l.map dL=pre++x::us):∃s,l[pre.length]?= some s∧x=dL s∧s∈l∧l.take (pre.length+1)=l.take pre.length++[s]:=by
 have h1:(l.map dL)[pre.length]?= some x:=by rw[h];simp
 rw[bNB]at h1;obtain⟨s,hs,hx⟩:=bOY.1 h1;exact⟨s,hs,hx.symm,n5 hs,by rw[bLW,hs];rfl⟩
def lF(t:aW)(k:Nat):List (List Int):=((eZ t).take k).foldl (xM t) []
theorem n7(t:aW){k:Nat}(h:(eZ t).length≤k):lF t k=bL t:=by unfold lF bL;rw[bMV h]
theorem JL{t:aW}{k:Nat}{s:List Int}(h:(eZ t).take (k+1)=(eZ t).take k++[s]):lF t (k+1)=xM t (lF t k) s:=by
 unfold lF;rw[h,bNM];rfl
theorem aPH{t:aW}{acc:List (List Int)}{s:List Int}:∀u∈xM t acc s,u∈acc∨u=s:=by
 intro u hu;unfold xM at hu
 split at hu
 ·exact bMF hu
 ·simpa using hu
theorem AH{t:aW}:∀(l acc:List (List Int)),∀u∈l.foldl (xM t) acc,u∈acc∨u∈l
 | [],acc,u,h=>bMF h
 |s::l,acc,u,h=>by
  rcases AH l (xM t acc s) u h with h|h
  ·rcases aPH u h with h|rfl
   ·exact bMF h
   ·exact bLY bLP
  ·exact bLY (LE _ h)
theorem JM{t:aW}:∀(l acc:List (List Int)),(l.foldl (xM t) acc).length≤acc.length+l.length
 | [],acc=>by simp
 |s::l,acc=>by
  have h1:=JM (t:=t) l (xM t acc s);have h2:(xM t acc s).length≤acc.length+1:=by
   unfold xM;split
   ·omega
   ·simp
  rw[bMO,bLU];omega
theorem o7{t:aW}{k:Nat}{u:List Int}(h:u∈lF t k):u∈eZ t:=by
 rcases AH _ _ u h with h|h
 ·cases h
 ·exact bQK h
theorem SK(t:aW)(k:Nat):(lF t k).length≤(eZ t).length:=by
 have h1:=JM (t:=t) ((eZ t).take k) [];have h2:=bOT k (eZ t);rw[bNT]at h1;unfold lF;simp only[bNU]at h1;omega
def wW:List (Int×Int)→Int
 | []=>1
 |r::l=>fN r*wW l
theorem yL:∀(l:List (Int×Int)) (m:Int),(∀r∈l,jB r=true)→0≤m→l.foldl (fun(m:Int) r=>min (m*fN r) 2001) m≤2000→m*wW l≤2000∧1≤wW l
 | [],m,_,_,h=>by simpa [wW]using h
 |r::l,m,hr,hm,h=>by
  have h1:1≤fN r:=by
   have h1:=hr r bLP;unfold jB fP at h1;simp only[bLQ,LT,bN]at h1;unfold fN;omega
  have h2:0≤m*fN r:=bRA hm Yd;rw[bMO]at h;obtain⟨h3,h4⟩:=yL l (min (m*fN r) 2001) (fun q hq=>hr q (LE _ hq)) Yd h;have h5:1≤fN r*wW l:=by
   have:=Int.mul_le_mul h1 h4 Yd Yd;omega
  refine⟨?_,h5⟩;show m*(fN r*wW l)≤2000;rw[←Int.mul_assoc];by_cases hc:m*fN r≤2001
  ·rwa [Int.min_eq_left hc]at h3
  ·rw[Int.min_eq_right Yd]at h3;omega
theorem jW{α β:Type}{f:α→List β}{n:Nat}:∀(l:List α),(∀x∈l,(f x).length≤n)→(l.flatMap f).length≤l.length*n
 | [],_=>by simp
 |x::l,h=>by
  have h1:=jW l fun y hy=>h y (LE _ hy)
  have h2:=h x bLP;rw[bMS,bLT,bLU,bOK];omega
theorem A1{step:Int}:∀(rs:List (Int×Int)) (p:Option Int),(∀r∈rs,jB r=true)→1≤wW rs∧((iF step rs p).length:Int)≤wW rs
 | [],p,_=>by simp[iF,wW]
 |r::rs,p,hr=>by
  have h1:1≤fN r:=by
   have h1:=hr r bLP;unfold jB fP at h1;simp only[bLQ,LT,bN]at h1;unfold fN;omega
  have h2:=A1 (step:=step) rs none fun q hq=>hr q (LE _ hq)
  have h3:(iF step (r::rs) p).length≤(List.range (fN r).toNat).length*(wW rs).toNat:=by
   simp only[iF];refine jW _ fun k _=>?_
   split
   ·rw[bNE];have:=(A1 (step:=step) rs (some (r.1+(k:Int))) fun q hq=>hr q (LE _ hq)).2;omega
   ·exact bRB _
  rw[bPQ]at h3;have h4:(((fN r).toNat*(wW rs).toNat:Nat):Int)=fN r*wW rs:=by
   rw[Int.natCast_mul,Int.toNat_of_nonneg Yd,Int.toNat_of_nonneg Yd]
  have h5:=Int.mul_le_mul h1 h2.1 Yd Yd;refine⟨?_,?_⟩
  ·show 1≤fN r*wW rs;omega
  ·show _≤fN r*wW rs;rw[←h4];exact Int.ofNat_le.2 h3
theorem QI{t:aW}(h:aX t=0):rF t.heights≤2000:=by
 unfold aX at h;split at h
 ·omega
 ·split at h
  ·omega
  ·split at h
   ·omega
   ·omega
theorem AV{t:aW}(h:aX t=0):(eZ t).length≤2000:=by
 have h1:=JN h;have h2:=(A1 (step:=t.step) t.heights none h1.hts).2;have h3:=(yL t.heights 1 h1.hts Yd (QI h)).1;show(iF t.step t.heights none).length≤2000;omega
theorem rI{t:aW}{s:List Int}(h:s∈eZ t):s.length=t.heights.length:=GZ _ _ _ h
def U1(l:List (List Int))(last:Int)(S:List (Int×Int)):Prop:=∀p,p∈S ↔∃s∈l,∃j:Nat,(j:Int)≤last∧p=((j:Int),s.getD j 0)
theorem U1.nil{last:Int}:U1 [] last []:=fun p=>by simp
end C2
open C1 C2
def UB:Rd Mk:=fun _ m cs=>cs=[qI m.frm,qI m.to,qI m.lo,qI m.hi]
theorem UB.up:UB.Up:=fun _ _ _ h=>h
def BL:Rd (Int×Int):=fun _ p cs=>cs=[qI p.1,qI p.2]
theorem BL.up:BL.Up:=fun _ _ _ h=>h
def bHY(m:Mk):Γ:=.agg #[qI m.frm,qI m.to,qI m.lo,qI m.hi]
def gQ(D:aC)(v:Γ)(t:aW):Prop:=∃hv lv mv,v=.agg #[qI t.last,hv,qI t.step,lv,mv]∧Sl D BL 2 hv t.heights∧Sl D RI 1 lv t.levels∧Sl D UB 4 mv t.marks
def IF:Rd (List Int):=fun _ l cs=>cs=ints (dL l)
theorem IF.up:IF.Up:=fun _ _ _ h=>h
def U8(l:List (List Int)):List Γ:=l.flatMap fun s=>ints (dL s)
theorem VD{l:List (List Int)}(h:∀s∈l,s.length≤10):(U8 l).length=l.length*10:=by
 induction l with
 |nil=>rfl
 |cons c l ih=>
  have:=ih fun s hs=>h s (LE _ hs)
  unfold U8 at this ⊢
  rw[bMS,bLT,this,aM,gL (h c bLP),bLU];omega
theorem VY{l:List (List Int)}(h:∀s∈l,s.length≤10){i:Nat}{s:List Int}(hi:l[i]?= some s)(junk:List Γ):((U8 l++junk).drop (i*10)).take 10=ints (dL s):=by
 induction l generalizing i with
 |nil=>simp at hi
 |cons d l ih=>
  have I:(ints (dL d)).length=10:=by rw[aM,gL (h d bLP)]
  have hc:U8 (d::l)=ints (dL d)++U8 l:=rfl;rw[hc,bMC];cases i with
  |zero=>
   obtain rfl:d=s:=by simpa using hi
   rw[bPY,bPN,bNH Yd,bMV Yd]
  |succ i=>
   rw[show(i+1)*10=(ints (dL d)).length+i*10 by omega,bQF];exact ih (fun s hs=>h s (LE _ hs)) Yas
theorem kH.seas{D:aC}{v:Γ}{n:Nat}{l:List (List Int)}(hF:kH D v n (U8 l))(hn:l.length=n)(hb:n≤9223372036854775807)(h:∀t∈l,t.length≤10):Sl D IF 10 v l:=
 hF.sl hn hb fun i t hi=>⟨Fs.ints (dL t),rfl,by rw[Fs.aM,gL (h t (n5 hi))],by have:=VY h hi [];rwa [bMM]at this⟩
theorem gQ.up{D D':aC}{v:Γ}{t:aW}(h:gQ D v t)(hl:Le D D'):gQ D' v t:=by
 obtain⟨hv,lv,mv,e,h1,h2,h3⟩:=h;exact⟨hv,lv,mv,e,h1.up BL.up hl,h2.up RI.up hl,h3.up UB.up hl⟩
namespace C3
open C1 (gU bN)
structure cB where
 kind:Int
 chair:Int
 token:Int
deriving DecidableEq
structure Cn where
 after:Int
 lo:Int
 hi:Int
deriving DecidableEq
structure bA where
 chairs:Int
 coin:Int
 box:Int
 lines:List cB
 counts:List Cn
def rN(n:Int)(l:cB):Bool:=gU l.kind 0 2&&gU l.chair (-1) (n-1)&&gU l.token (-1) (n-1)
def sS(len:Int)(c:Cn):Bool:=gU c.after 0 len&&decide (0≤c.lo)&&decide (c.lo≤c.hi)&&decide (c.hi≤2000)
def gC(sign none lo hi:Int):List Int:=if sign≠none then [sign]else(List.range (hi+1-lo).toNat).map fun i:Nat=>lo+(i:Int)
def cK(n:Int)(l:cB):List cB:=(gC l.kind 0 1 2).flatMap fun k=>(gC l.chair (-1) 0 (n-1)).flatMap fun c=>(gC l.token (-1) 0 (n-1)).map fun t=>⟨k,c,t⟩
def tE(n:Int)(ls:List cB):Int:=ls.foldl (fun m l=>min (m*(cK n l).length) 4097) 1
def sY(b:bA):Bool:=gU b.chairs 1 4&&gU b.coin 1 99&&gU b.box 0 999&&b.lines.all (rN b.chairs)&&b.counts.all (sS b.lines.length)
def aX(b:bA):Int:=if 8<b.lines.length∨4<b.counts.length then 3 else if sY b=false then 1 else if 4096<tE b.chairs b.lines then 3 else 0
structure Sc where
 ch:List Int
 tk:List Int
 money:Int
 mixed:Int
deriving DecidableEq
def rD(s:Sc):List Int:=s.ch++s.tk++[s.money,s.mixed]
def oC(l:List Int)(i:Int):Int:=l.getD i.toNat 0
def jZ(s:Sc)(l:cB):Bool:=(decide (oC s.ch l.chair≠0)==decide (l.kind=2))&&(decide (oC s.tk l.token≠0)==decide (l.kind=2))
def eM(b:bA)(s:Sc)(i:Int)(l:cB):Sc:=
 if l.kind=2 then⟨s.ch.set l.chair.toNat 0,s.tk.set l.token.toNat 0,s.money-b.coin,if oC s.ch l.chair≠oC s.tk l.token then s.mixed+1 else s.mixed⟩
 else⟨s.ch.set l.chair.toNat (i+1),s.tk.set l.token.toNat (i+1),s.money+b.coin,s.mixed⟩
def fU(b:bA)(s:Sc)(after:Int):Bool:=b.counts.all fun c=>decide (c.after≠after)||gU s.money c.lo c.hi
def fH(b:bA):Sc:=⟨[0,0,0,0],[0,0,0,0],b.box,0⟩
def tL(b:bA):List cB→Nat→Sc→List (List cB×List Sc)
 | [],i,s=>if fU b s i=true then [([],[s])]else []
 |l::ls,i,s=>if fU b s i=true then(cK b.chairs l).flatMap fun r=>if jZ s r=true then(tL b ls (i+1) (eM b s i r)).map fun x=>(r::x.1,s::x.2)else []else []
def truths(b:bA):List (List cB×List Sc):=tL b b.lines 0 (fH b)
def A0(b:bA)(fine:Bool):Int:=if aX b≠0 then aX b else if fine=false then 2 else if truths b=[]then 11 else 0
def aRL(ss:List Sc)(k:Nat):Sc:=ss.getD k ⟨[],[],0,0⟩
end C3
open C1 C3
def kE:Rd cB:=fun _ l cs=>cs=[qI l.kind,qI l.chair,qI l.token]
theorem kE.up:kE.Up:=fun _ _ _ h=>h
def vY:Rd Cn:=fun _ c cs=>cs=[qI c.after,qI c.lo,qI c.hi]
theorem vY.up:vY.Up:=fun _ _ _ h=>h
def GJ(l:cB):Γ:=.agg #[qI l.kind,qI l.chair,qI l.token]
def bFC(c:Cn):Γ:=.agg #[qI c.after,qI c.lo,qI c.hi]
def gD(D:aC)(v:Γ)(b:bA):Prop:=∃lv cv,v=.agg #[qI b.chairs,qI b.coin,qI b.box,lv,cv]∧Sl D kE 3 lv b.lines∧Sl D vY 3 cv b.counts
theorem gD.up{D D':aC}{v:Γ}{b:bA}(h:gD D v b)(hl:Le D D'):gD D' v b:=by
 obtain⟨lv,cv,e,h1,h2⟩:=h;exact⟨lv,cv,e,h1.up kE.up hl,h2.up vY.up hl⟩
def aBB(s:Sc):Γ:=.agg (ints (rD s)).toArray
def VZ:Rd Sc:=fun _ s cs=>cs=ints (rD s)
theorem VZ.up:VZ.Up:=fun _ _ _ h=>h
end Go.Fs
namespace Go.Fs.C3
open C1 (gU bN)

theorem aKP{sign none lo hi x:Int}:x∈gC sign none lo hi ↔ (sign≠none∧x=sign)∨(sign=none∧lo≤x∧x≤hi):=by
 unfold gC;by_cases h:sign=none
 ·rw[bLX Yax,GE];constructor
  ·rintro⟨i,hi',rfl⟩;have:=bNJ.1 hi';exact bLY ⟨h,Yd,Yd⟩
  ·rintro(⟨h1,_⟩|⟨_,h1,h2⟩)
   ·exact absurd h h1
   ·exact⟨(x-lo).toNat,bNJ.2 Yd,Yd⟩
 ·rw[bMG h];simp[h]
def tX(l x:cB):Bool:=(decide (l.kind=0)||decide (l.kind=x.kind))&&(decide (l.chair<0)||decide (l.chair=x.chair))&&(decide (l.token<0)||decide (l.token=x.token))
def JT(n:Int)(x:cB):Prop:=(x.kind=1∨x.kind=2)∧0≤x.chair∧x.chair<n∧0≤x.token∧x.token<n
theorem tV{n:Int}{l x:cB}(hl:rN n l=true):x∈cK n l ↔ JT n x∧tX l x=true:=by
 unfold rN at hl;simp only[bLQ,bN]at hl;unfold cK JT tX;simp only[bPE,GE,aKP,bLQ,bMU,LT];constructor
 ·rintro⟨k,hk,c,hc,t,ht,rfl⟩;simp only;omega
 ·rintro⟨⟨h1,h2,h3,h4,h5⟩,⟨I,O⟩,h8⟩;refine⟨x.kind,Yd,x.chair,Yd,x.token,Yd,rfl⟩
structure VT(b:bA)(s:Sc):Prop where
 lc:s.ch.length=4
 lt:s.tk.length=4
 pc:∀x∈s.ch,0≤x∧x≤8
 pt:∀x∈s.tk,0≤x∧x≤8
def PQ(l:List Int):Int:=((l.filter fun x=>decide (x≠0)).length:Int)
def nC(b:bA):List cB→Nat→Sc→Bool
 | [],i,s=>fU b s i
 |l::ls,i,s=>fU b s i&&(cK b.chairs l).any fun r=>jZ s r&&nC b ls (i+1) (eM b s i r)
theorem XI{α β:Type}{l:List α}{f:α→List β}:l.flatMap f≠[] ↔∃x∈l,f x≠[]:=by
 rw[Ne,List.flatMap_eq_nil_iff];simp
theorem TK(b:bA):∀(ls:List cB) (i:Nat) (s:Sc),nC b ls i s=true ↔ tL b ls i s≠[]
 | [],i,s=>by
  unfold nC tL;cases fU b s i<;>simp
 |l::ls,i,s=>by
  unfold nC tL;cases fU b s i with
  |false=>simp
  |true=>
   rw[bPT,bQA,bMG rfl,XI];refine exists_congr fun r=>and_congr_right fun _=>?_
   rw[bLQ,TK b ls];cases jZ s r<;>simp
theorem N4(b:bA):nC b b.lines 0 (fH b)=decide (truths b≠[]):=by
 rw[bOX,TK,LT];rfl

def G8(l:List Int):List Int:=l.map fun x=>min x 1
theorem VH(l:List Int):(G8 l).length=l.length:=bNE _
theorem Z3(l:List Int)(k:Nat)(x:Int):G8 (l.set k x)=(G8 l).set k (min x 1):=List.map_set
theorem Q2{l:List Int}(h:∀x∈l,0≤x)(c:Int):(oC l c≠0) ↔ oC (G8 l) c≠0:=by
 unfold oC G8;rw[bNR,bNR,bNB];cases e:l[c.toNat]? with
 |none=>simp
 |some x=>
  have:=h x (n5 e);simp only[bNL,bPK];omega
structure bKU(s s':Sc):Prop where
 ch:G8 s.ch=G8 s'.ch
 tk:G8 s.tk=G8 s'.tk
 money:s.money=s'.money
structure aMM(s:Sc):Prop where
 ch:∀x∈s.ch,0≤x
 tk:∀x∈s.tk,0≤x
theorem aZI{s s':Sc}(h:bKU s s')(hp:aMM s)(hp':aMM s')(l:cB):jZ s l=jZ s' l:=by
 unfold jZ;have I:decide (oC s.ch l.chair≠0)=decide (oC s'.ch l.chair≠0):=decide_eq_decide.2 (by rw[Q2 hp.ch,Q2 hp'.ch,h.ch]);have O:decide (oC s.tk l.token≠0)=decide (oC s'.tk l.token≠0):=decide_eq_decide.2 (by rw[Q2 hp.tk,Q2 hp'.tk,h.tk]);rw[I,O]
theorem aUB{b:bA}{s s':Sc}(h:bKU s s')(i:Nat)(l:cB):bKU (eM b s i l) (eM b s' i l):=by
 unfold eM;split
 ·exact⟨by simp only[Z3,h.ch],by simp only[Z3,h.tk],by simp only[h.money]⟩
 ·exact⟨by simp only[Z3,h.ch],by simp only[Z3,h.tk],by simp only[h.money]⟩
theorem DB{l:List Int}(h:∀x∈l,0≤x)(k:Nat){y:Int}(hy:0≤y):∀x∈l.set k y,0≤x:=fun x hx=>by
 rcases List.mem_or_eq_of_mem_set hx with hx|rfl
 ·exact h x hx
 ·exact hy
theorem HI{b:bA}{s:Sc}(h:aMM s)(i:Nat)(l:cB):aMM (eM b s i l):=by
 unfold eM;split
 ·exact⟨DB h.ch _ Yd,DB h.tk _ Yd⟩
 ·exact⟨DB h.ch _ Yd,DB h.tk _ Yd⟩
theorem TJ(b:bA):∀(ls:List cB) (i:Nat) (s s':Sc),bKU s s'→aMM s→aMM s'→nC b ls i s=nC b ls i s'
 | [],i,s,s',h,_,_=>by unfold nC fU;rw[h.money]
 |l::ls,i,s,s',h,hp,hp'=>by
  unfold nC;have e:fU b s i=fU b s' i:=by unfold fU;rw[h.money]
  rw[e];congr 1;refine bLZ _ (funext fun r=>?_);rw[aZI h hp hp',TJ b ls (i+1) _ _ (aUB h i r) (HI hp i r) (HI hp' i r)]

theorem UX{l:List Int}{k:Nat}(hk:k<l.length)(y:Int):PQ (l.set k y)=PQ l-(if l.getD k 0≠0 then 1 else 0)+(if y≠0 then 1 else 0):=by
 induction l generalizing k with
 |nil=>simp at hk
 |cons x l ih=>
  cases k with
  |zero=>
   unfold PQ;simp only[List.set_cons_zero,bOA,List.getD_cons_zero,LT];split<;>split<;>simp<;>omega
  |succ k=>
   have:=ih (k:=k) Xay;unfold PQ at this ⊢
   simp only[List.set_cons_succ,bOA,List.getD_cons_succ];split
   ·simp only[bLU];push_cast;omega
   ·exact this
def FL(b:bA)(s:Sc):Prop:=s.money=b.box+b.coin*PQ s.ch
theorem aHG{l m:List Int}(h:G8 l=G8 m)(hl:∀x∈l,0≤x)(hm:∀x∈m,0≤x):PQ l=PQ m:=by
 induction l generalizing m with
 |nil=>
  cases m with
  |nil=>rfl
  |cons y m=>simp[G8]at h
 |cons x l ih=>
  cases m with
  |nil=>simp[G8]at h
  |cons y m=>
   simp only[G8,bMT,bOH]at h;have:=ih h.2 (fun x hx=>hl x (LE _ hx)) fun x hx=>hm x (LE _ hx)
   have h1:=hl x bLP;have h2:=hm y bLP;unfold PQ at this ⊢
   simp only[bOA,LT];have e:x≠0 ↔ y≠0:=by have:=h.1;omega
   by_cases hx:x≠0
   ·rw[bMG hx,bMG (e.1 hx)];simp only[bLU];push_cast;omega
   ·rw[bLX hx,bLX fun hy=>hx (e.2 hy)];exact this
theorem aTS{b:bA}{s:Sc}(h:FL b s)(h4:s.ch.length=4){i:Nat}{l:cB}(hc:jZ s l=true)(h0:0≤l.chair)(h1:l.chair<4):FL b (eM b s i l):=by
 unfold jZ at hc;simp only[bLQ,bQR,decide_eq_decide]at hc;have hk:l.chair.toNat<s.ch.length:=by omega
 unfold FL at h ⊢
 unfold eM;have hg:s.ch.getD l.chair.toNat 0=oC s.ch l.chair:=rfl;by_cases e:l.kind=2
 ·rw[bMG e];simp only;rw[UX hk,hg,bMG (hc.1.2 e),bLX Yd,h,Int.mul_add,Int.mul_sub];omega
 ·rw[bLX e];simp only;rw[UX hk,hg,bLX fun hh=>e (hc.1.1 hh),bMG Yd,h,Int.mul_add,Int.mul_sub];omega
theorem u7(b:bA):FL b (fH b):=by unfold FL fH PQ;simp
def aTK(s:Sc)(i:Nat):List Int:=(i:Int)::(G8 s.ch++G8 s.tk)
theorem aVJ{b:bA}{ls:List cB}{i i':Nat}{s s':Sc}(e:aTK s i=aTK s' i')(h:FL b s)(h':FL b s')(hp:aMM s)(hp':aMM s')(h4:s.ch.length=4)(h4':s'.ch.length=4):i=i'∧nC b ls i s=nC b ls i' s':=by
 unfold aTK at e;rw[bOH]at e;obtain⟨U,O⟩:=e;obtain⟨I,R⟩:=List.append_inj O (by rw[VH,VH];omega)
 have hi:i=i':=by omega
 subst hi;refine⟨rfl,TJ b ls i s s' ⟨I,R,?_⟩ hp hp'⟩;unfold FL at h h';rw[h,h',aHG I hp.ch hp'.ch]
end Go.Fs.C3
namespace Go.Fs
variable{P:Program}{X:Cx}{γb:Type}[Membership Nat γb]{bad:γb}{all:Array Oper}{K:Act→Δ→Prop}{Q:Exit→Act→Δ→Prop}
variable{σ:bX}{μ:aD}{Ds:List aC}{os:List (Bool×Nat)}{fl:Bool}{ix:Nat}
variable{d:Nat}{x y z:Operand}{u v:Γ}{ty:Θ}{pos:String}{aft:Array Edge}{g:Option (Nat×Bool)}
variable{k':IntKind}{m n:Nat}{t t':Θ}
def pR(m n:Nat):Nat:=m ^^^ (m&&&n)
theorem Q4(m n i:Nat):(pR m n).testBit i=(m.testBit i&& !n.testBit i):=by
 unfold pR;rw[Nat.testBit_xor,Nat.testBit_and];cases m.testBit i<;>cases n.testBit i<;>rfl
theorem H5(m n:Nat):pR m n≤m:=by
 apply Nat.le_of_testBit;intro i hi;rw[Q4]at hi;simp at hi;exact hi.1
theorem zB{m:Nat}(h:m<9223372036854775808):(BitVec.ofInt IntKind.i64.bits (m:Int)).toNat=m:=by
 rw[BitVec.ofInt_natCast,BitVec.toNat_ofNat];exact Nat.mod_eq_of_lt (by show m<2^64;omega)
theorem bIN{m n:Nat}(h:m<9223372036854775808):m&&&n<9223372036854775808:=Nat.lt_of_le_of_lt Nat.and_le_left h
theorem bJU{m n:Nat}(h:m<9223372036854775808)(h':n<9223372036854775808):m|||n<9223372036854775808:=Nat.or_lt_two_pow (n:=63) h h'
theorem aUP(ho:all[ix]?= some ⟨some d,.binOp .and t x y t',ty,pos,aft,g⟩)(hx:ev σ x=some (qI (m:Int)))(hy:ev σ y=some (qI (n:Int)))(hm:m<9223372036854775808)(hn:n<9223372036854775808)(hN:Nat.blt d X.N=true)(hg:cZ all σ g)
  (kk:WL P X bad all K Q os ((d,qI ((m&&&n:Nat):Int))::σ) μ Ds):WL P X bad all K Q ((fl,ix)::os) σ μ Ds:=
 cA ho rfl rfl hN hg (fun ρ hρ w'=>mE Yf (by
  have e:(BitVec.ofInt IntKind.i64.bits (m:Int)&&&BitVec.ofInt IntKind.i64.bits (n:Int)).toNat=m&&&n:=by rw[BitVec.toNat_and,zB hm,zB hn]
  have h2:=bIN (n:=n) hm;have h3:tQ .i64 ((m&&&n:Nat):Int):=by simp only[tQ];omega
  simp only[binOp,ne_eq,not_true_eq_false,bOO,Op.intBits,e,sF h3];rfl) (hρ x _ hx) (hρ y _ hy)) kk
theorem LW(ho:all[ix]?= some ⟨some d,.binOp .or t x y t',ty,pos,aft,g⟩)(hx:ev σ x=some (qI (m:Int)))(hy:ev σ y=some (qI (n:Int)))(hm:m<9223372036854775808)(hn:n<9223372036854775808)(hN:Nat.blt d X.N=true)(hg:cZ all σ g)
  (kk:WL P X bad all K Q os ((d,qI ((m|||n:Nat):Int))::σ) μ Ds):WL P X bad all K Q ((fl,ix)::os) σ μ Ds:=
 cA ho rfl rfl hN hg (fun ρ hρ w'=>mE Yf (by
  have e:(BitVec.ofInt IntKind.i64.bits (m:Int)|||BitVec.ofInt IntKind.i64.bits (n:Int)).toNat=m|||n:=by rw[BitVec.toNat_or,zB hm,zB hn]
  have h2:=bJU hm hn;have h3:tQ .i64 ((m|||n:Nat):Int):=by simp only[tQ];omega
  simp only[binOp,ne_eq,not_true_eq_false,bOO,Op.intBits,e,sF h3];rfl) (hρ x _ hx) (hρ y _ hy)) kk
theorem aMQ(ho:all[ix]?= some ⟨some d,.binOp .andNot t x y t',ty,pos,aft,g⟩)(hx:ev σ x=some (qI (m:Int)))(hy:ev σ y=some (qI (n:Int)))(hm:m<9223372036854775808)(hn:n<9223372036854775808)(hN:Nat.blt d X.N=true)(hg:cZ all σ g)
  (kk:WL P X bad all K Q os ((d,qI ((pR m n:Nat):Int))::σ) μ Ds):WL P X bad all K Q ((fl,ix)::os) σ μ Ds:=
 cA ho rfl rfl hN hg (fun ρ hρ w'=>mE Yf (by
  have e:(BitVec.ofInt IntKind.i64.bits (m:Int)&&& ~~~ BitVec.ofInt IntKind.i64.bits (n:Int)).toNat=pR m n:=by
   apply Nat.eq_of_testBit_eq;intro i;rw[Q4,BitVec.testBit_toNat,BitVec.getLsbD_and,BitVec.getLsbD_not,←BitVec.testBit_toNat,←BitVec.testBit_toNat,zB hm,zB hn];by_cases hi:i<IntKind.i64.bits
   ·simp[hi]
   ·have:m.testBit i=false:=Nat.testBit_lt_two_pow (bOI hm (bOB (show 9223372036854775808≤2^64 by decide) (bNQ Yu (show 64≤i from Nat.le_of_not_lt hi))));simp[this]
  have h2:=H5 m n;have h3:tQ .i64 ((pR m n:Nat):Int):=by simp only[tQ];omega
  simp only[binOp,ne_eq,not_true_eq_false,bOO,Op.intBits,e,sF h3];rfl) (hρ x _ hx) (hρ y _ hy)) kk
theorem XK{a b:Int}(ho:all[ix]?= some ⟨some d,.binOp .or t x y t',ty,pos,aft,g⟩)(hx:ev σ x=some (qI a))(hy:ev σ y=some (qI b))(ha:0≤a∧a≤1)(hb:0≤b∧b≤1)(hN:Nat.blt d X.N=true)(hg:cZ all σ g)
  (kk:WL P X bad all K Q os ((d,qI (max a b))::σ) μ Ds):WL P X bad all K Q ((fl,ix)::os) σ μ Ds:=by
 have h1:a=((a.toNat:Nat):Int):=by omega
 have h2:b=((b.toNat:Nat):Int):=by omega
 have h3:max a b=((a.toNat|||b.toNat:Nat):Int):=by
  have ha':a=0∨a=1:=by omega
  have hb':b=0∨b=1:=by omega
  rcases ha' with rfl|rfl<;>rcases hb' with rfl|rfl<;>decide
 rw[h3]at kk;rw[h1]at hx;rw[h2]at hy;exact LW ho hx hy Yd Yd hN hg kk
theorem aEC{k:IntKind}{a:Int}(ho:all[ix]?= some ⟨some d,.unOp .neg t x,ty,pos,aft,g⟩)(hx:ev σ x=some (.int k a))(hr:tQ k (-a))(hN:Nat.blt d X.N=true)(hg:cZ all σ g)
  (kk:WL P X bad all K Q os ((d,.int k (-a))::σ) μ Ds):WL P X bad all K Q ((fl,ix)::os) σ μ Ds:=
 cA ho rfl rfl hN hg (fun ρ hρ w'=>by
  have h2:(0:Int)-a= -a:=by omega
  simp only[execOp,hρ x _ hx,Op.unary,Op.intArith,h2,sF hr];rfl) kk
theorem j7{t e:Θ}{n sz:Nat}{parts:Array (Nat×Operand)}{us:List (Nat×Γ)}{zs cs:List Γ}(ho:all[ix]?= some ⟨some d,.build t parts,ty,pos,aft,g⟩)(ht:P.underlying t=some (.array n e))(hs:TS P e sz)(hz:TZ P t (.agg zs.toArray))(hu:HG σ parts.toList=some us)
  (hf:Instr.fill (fun i=>some (i*sz,sz)) zs.toArray us=some cs.toArray) (hN:Nat.blt d X.N=true) (hg:cZ all σ g) (kk:WL P X bad all K Q os ((d,.agg cs.toArray)::σ) μ Ds):WL P X bad all K Q ((fl,ix)::os) σ μ Ds:=
 cA ho rfl rfl hN hg (fun ρ hρ w'=>by
  have e:(parts.map fun(i,x)=>(i,ρ x)).toList=us:=by rw[←yG hρ hu];simp
  simp only[execOp,Instr.build,Ω,hz w',Ξ,TU.of ht w',hs w',Value.cells,e,hf,ε]) kk
theorem KN{op:BinOp}(he:op=.shl∨op=.shr){k:IntKind}{a b:Int}{w:Δ}{r:Γ}(h:(Op.shift op k a k' b).run P w=.ok r w){ρ:Operand→Γ}(hx:ρ x=.int k a)(hy:ρ y=.int k' b):
  (execOp ρ ⟨some d,.binOp op t x y t',ty,pos,aft,g⟩).run P w=.ok (.value r) w:=by
 rcases he with rfl|rfl<;>simp[execOp,hx,hy,binOp,h,go_sem]
theorem bFL(ho:all[ix]?= some ⟨some d,.binOp .shl t x y t',ty,pos,aft,g⟩)(hx:ev σ x=some (qI (m:Int)))(hy:ev σ y=some (.int k' (n:Int)))(hn:n≤62)(hm:m*2^n<9223372036854775808)(hN:Nat.blt d X.N=true)(hg:cZ all σ g)
  (kk:WL P X bad all K Q os ((d,qI ((m <<< n:Nat):Int))::σ) μ Ds):WL P X bad all K Q ((fl,ix)::os) σ μ Ds:=
 cA ho rfl rfl hN hg (fun ρ hρ w'=>KN (bMF rfl) (by
  have h1:¬((n:Int)<0):=by omega
  have h2:min (n:Int).toNat IntKind.i64.bits=n:=by rw[bNI];exact bPH (bOB hn Yu)
  have h3:(m:Int)*2^n=((m <<< n:Nat):Int):=by rw[Nat.shiftLeft_eq];simp
  have h4:tQ .i64 ((m <<< n:Nat):Int):=by rw[Nat.shiftLeft_eq];simp only[tQ];omega
  simp only[Op.shift,h1,bOO,h2,h3,sF h4];rfl) (hρ x _ hx) (hρ y _ hy)) kk
theorem V3(ho:all[ix]?= some ⟨some d,.binOp .shr t x y t',ty,pos,aft,g⟩)(hx:ev σ x=some (qI (m:Int)))(hy:ev σ y=some (.int k' (n:Int)))(hn:n≤62)(hN:Nat.blt d X.N=true)(hg:cZ all σ g)
  (kk:WL P X bad all K Q os ((d,qI ((m >>> n:Nat):Int))::σ) μ Ds):WL P X bad all K Q ((fl,ix)::os) σ μ Ds:=
 cA ho rfl rfl hN hg (fun ρ hρ w'=>KN (bLY rfl) (by
  have h1:¬((n:Int)<0):=by omega
  have h2:min (n:Int).toNat IntKind.i64.bits=n:=by rw[bNI];exact bPH (bOB hn Yu)
  have h3:(m:Int).fdiv (2^n)=((m >>> n:Nat):Int):=by
   rw[Nat.shiftRight_eq_div_pow,Int.fdiv_eq_ediv_of_nonneg _ (by exact_mod_cast bRB (2^n))];simp
  simp only[Op.shift,h1,bOO,h2,h3];rfl) (hρ x _ hx) (hρ y _ hy)) kk
theorem mH(m n:Nat):((m >>> n:Nat):Int)%2=if m.testBit n then 1 else 0:=by
 rw[Nat.testBit,Nat.one_and_eq_mod_two];have:=Nat.mod_two_eq_zero_or_one (m >>> n);rcases this with h|h
 ·have:((m >>> n:Nat):Int)%2=0:=by omega
  rw[this];simp[h]
 ·have:((m >>> n:Nat):Int)%2=1:=by omega
  rw[this];simp[h]
namespace C7
structure Pt where
 a:Int
 b:Int
 c:Int
deriving DecidableEq
structure Ch where
 size:Int
 parts:Pt
structure bC where
 chairs:List Ch
 fit:Int
 claims:List (Int×Int)
def Pt.l(p:Pt):List Int:=[p.a,p.b,p.c]
def gU(n lo hi:Int):Bool:=decide (lo≤n)&&decide (n≤hi)
theorem bN{n lo hi:Int}:gU n lo hi=true ↔ lo≤n∧n≤hi:=by simp[gU]
def RW(p:Pt)(m:Int):Bool:=p.l.all fun n=>gU n 0 m
def kI(c:Ch):Bool:=gU c.size 0 9&&RW c.parts 2
def mF(r:Int×Int):Bool:=(decide (0≤r.1)&&decide (r.1≤r.2))&&decide (r.2≤7)
def YR(p:Pt):Nat:=(p.l.filter fun n=>decide (n=2)).length
def dH(l:List Ch):Nat:=(l.map fun c=>YR c.parts).sum
def zN(y:bC):Bool:=(gU y.fit 0 9&&y.chairs.all kI)&&y.claims.all mF
def aX(y:bC):Int:=if 7<y.chairs.length∨5<y.claims.length then 3 else if zN y=false then 1 else if 8<dH y.chairs then 3 else 0
def xO(n t:Int):Bool:=gU t 0 1&&(decide (n=2)||decide (t=n))
def S4(p t:Pt):Bool:=(p.l.zip t.l).all fun x=>xO x.1 x.2
def eO(y:bC)(t:List Pt):Bool:=decide (t.length=y.chairs.length)&&(y.chairs.zip t).all fun x=>S4 x.1.parts x.2
def iA(p:Pt):Bool:=decide (p=⟨1,1,1⟩)
def whole(t:List Pt):Nat:=(t.filter iA).length
end C7
open C7
def bKF(p:Pt):Γ:=.agg #[qI p.a,qI p.b,qI p.c]
def bJA(c:Ch):Γ:=.agg #[qI c.size,qI c.parts.a,qI c.parts.b,qI c.parts.c]
def RP:Rd Pt:=fun _ p cs=>cs=[qI p.a,qI p.b,qI p.c]
theorem RP.up:RP.Up:=fun _ _ _ h=>h
def zS:Rd Ch:=fun _ c cs=>cs=[qI c.size,qI c.parts.a,qI c.parts.b,qI c.parts.c]
theorem zS.up:zS.Up:=fun _ _ _ h=>h
def R2:Rd (Int×Int):=fun _ p cs=>cs=[qI p.1,qI p.2]
theorem R2.up:R2.Up:=fun _ _ _ h=>h
def iR(D:aC)(v:Γ)(y:bC):Prop:=∃cv rv,v=.agg #[cv,qI y.fit,rv]∧Sl D zS 4 cv y.chairs∧Sl D R2 2 rv y.claims
theorem iR.up{D D':aC}{v:Γ}{y:bC}(h:iR D v y)(hl:Le D D'):iR D' v y:=by
 obtain⟨cv,rv,hv,hc,hr⟩:=h;exact⟨cv,rv,hv,hc.up zS.up hl,hr.up R2.up hl⟩
abbrev aD.ks(μ:aD):List Nat:=μ.map fun p=>p.1
def HO(P:Program)(f:FuncId)(args:List Γ)(D:aC)(ν:aD)(post:aC→Γ→aD→Prop):Prop:=
 EF P f∧∀w,fR D w→(∀p∈ν,w.heap[p.1]?= some p.2∧D p.1=[]∧dE p.2)→ν.ks.Nodup→Calls P f args.toArray w fun e w'=>∃v D' ν',e=.returned v∧ν'.ks=ν.ks∧iX (hd w) w.heap.size D ν.ks ν' D' w'∧post D' v ν'
theorem iX.afterM{h0:H0}{lo:Nat}{D0 D D':aC}{mods:List Nat}{A B ν ν':aD}{w w':Δ}(h:iX h0 lo D0 mods (A++ν++B) D w)(hk:ν'.ks=ν.ks)(hs:iX (hd w) w.heap.size D ν.ks ν' D' w'):iX h0 lo D0 mods (A++ν'++B) D' w':=by
 have hle:=bOB h.hlo h.size;have hin:∀c∈ν.ks,∃o,(c,o)∈ν:=fun c hc=>by
  obtain⟨p,hp,rfl⟩:=GE.1 hc;exact⟨p.2,hp⟩
 have hbx:∀p∈ν,_:=fun p hp=>h.box p (bMA _ (GT _ hp))
 have hnd:=h.nd;simp only[bME]at hnd;have keys:(A++ν'++B).map (fun p=>p.1)=(A++ν++B).map (fun p=>p.1):=by
  simp only[bME];rw[show ν'.map (fun p=>p.1)=ν.map (fun p=>p.1)from hk]
 refine⟨h.hlo,bOB h.size hs.size,fun c hc hm=>?_,fun c hc=>?_,hs.agr,fun p hp=>?_,by rw[keys];exact h.nd,fun p hp=>?_,fun e he=>(hs.env _ rfl).trans (h.env e he)⟩
 ·have hne:c∉ν.ks:=by
   intro hcm;obtain⟨o,ho⟩:=hin c hcm;rcases(hbx _ ho).2.2 with h'|h'
   ·have:=h.hlo;simp at h';omega
   ·exact hm h'
  rw[hs.old c (bOI hc hle) hne];exact h.old c hc hm
 ·rw[hs.dold c (bOI hc hle)];exact h.dold c hc
 ·rcases bMD.1 hp with hp|hp
  ·rcases bMD.1 hp with hp|hp
   ·obtain⟨h1,h2,h3⟩:=h.box p (bMA _ (bMA _ hp));have hl:=bO h1;have hne:p.1∉ν.ks:=fun hm=>(bMB.1 (bMB.1 hnd).1).2.2 p.1 (GE.2 ⟨p,hp,rfl⟩) p.1 hm rfl
    exact⟨Xbk,Xaw,h3⟩
   ·obtain⟨I,O,_⟩:=hs.box p hp;have hm:p.1∈ν.ks:=by rw[←hk];exact GE.2 ⟨p,hp,rfl⟩
    obtain⟨o,ho⟩:=hin p.1 hm;exact⟨I,O,(hbx _ ho).2.2⟩
  ·obtain⟨h1,h2,h3⟩:=h.box p (GT _ hp);have hl:=bO h1;have hne:p.1∉ν.ks:=fun hm=>(bMB.1 hnd).2.2 p.1 (GT _ hm) p.1 (GE.2 ⟨p,hp,rfl⟩) rfl
   exact⟨Xbk,Xaw,h3⟩
 ·rcases bMD.1 hp with hp|hp
  ·rcases bMD.1 hp with hp|hp
   ·exact h.fz p (bMA _ (bMA _ hp))
   ·exact hs.fz p hp
  ·exact h.fz p (GT _ hp)
theorem gH{c:Operand}{xs:Array Operand}{ats:Array Θ}{f:FuncId}{c1 c2:List Γ}{vs:List Γ}{A B ν:aD}{post:aC→Γ→aD→Prop}(ho:all[ix]?= some ⟨some d,.call {callee:=.value c,args:=xs,argTypes:=ats},ty,pos,aft,g⟩)(hc:ev σ c=some (.func (.func f) c1.toArray c2.toArray))(hxs:x5 σ xs.toList=some vs)
  (hex:X.ex=none) (hfl:fl=false∨∀p∈ν,p.1∈bad) (hu:∀p∈ν,dE p.2) (hf:∀D,(∀D₁∈Ds,Le D₁ D)→HO P f (c1++vs++c2) D ν post) (hN:Nat.blt d X.N=true) (hg:cZ all σ g)
  (kk:∀v D ν',(∀D₁∈Ds,Le D₁ D)→post D v ν'→WL P X bad all K Q os ((d,v)::σ) (A++ν'++B) (D::Ds)):
  WL P X bad all K Q ((fl,ix)::os) σ (A++ν++B) Ds:=by
 refine fJ ho rfl rfl hg fun a w hh=>?_
 obtain⟨h1,h2,h3,D,h4,h5,I⟩:=id hh;have hF:=hf D h5;have hbx:∀p∈ν,_:=fun p hp=>h4.box p (bMA _ (GT _ hp))
 have hnd:=h4.nd;simp only[bME]at hnd;rw[yH hF.1 (hh.eval hc) (lO (fun _ _ hx=>hh.eval hx) hxs)];refine⟨fun h=>Xac,dZ.2 ((hF.2 w h4.agr (fun p hp=>⟨(hbx p hp).1,(hbx p hp).2.1,hu p hp⟩) (bMB.1 (bMB.1 hnd).1).2.1).mono ?_)⟩;rintro e w' ⟨v,D',ν',rfl,hk,hs,hpost⟩;have hle:=hU h4.agr hs;refine⟨fun hflt=>⟨hs.size,fun c hc hcb=>hs.old c hc fun hm=>?_⟩,kk v D' ν' (fun D₁ hD₁=>(h5 D₁ hD₁).trans hle) hpost _ _ ?_⟩
 ·obtain⟨p,hp,rfl⟩:=GE.1 hm;rcases hfl with h|h
  ·rw[hflt]at h;cases h
  ·exact hcb (h p hp)
 ·refine Hl.put ⟨h1,h2,h3,D',h4.afterM hk hs,fun D₁ hD₁=>?_,Xaz⟩ hN v;rcases bLO.1 hD₁ with rfl|hD₁
  ·exact Le.refl _
  ·exact(h5 D₁ hD₁).trans hle
theorem EP{c:Operand}{xs:Array Operand}{ats:Array Θ}{f:FuncId}{c1 c2:List Γ}{vs:List Γ}{A ν:aD}{post:aC→Γ→aD→Prop}(ho:all[ix]?= some ⟨some d,.call {callee:=.value c,args:=xs,argTypes:=ats},ty,pos,aft,g⟩)(hc:ev σ c=some (.func (.func f) c1.toArray c2.toArray))(hxs:x5 σ xs.toList=some vs)
  (hex:X.ex=none) (hfl:fl=false∨∀p∈ν,p.1∈bad) (hu:∀p∈ν,dE p.2) (hf:∀D,(∀D₁∈Ds,Le D₁ D)→HO P f (c1++vs++c2) D ν post) (hN:Nat.blt d X.N=true) (hg:cZ all σ g)
  (kk:∀v D ν',(∀D₁∈Ds,Le D₁ D)→post D v ν'→WL P X bad all K Q os ((d,v)::σ) (A++ν') (D::Ds)):
  WL P X bad all K Q ((fl,ix)::os) σ (A++ν) Ds:=by
 have:=gH (A:=A) (B:=[]) ho hc hxs hex hfl hu hf hN hg fun v D ν' h1 h2=>by rw[bMM];exact kk v D ν' h1 h2
 rwa [bMM]at this
def nI(X:Cx)(ks:List Nat)(post:aC→Γ→aD→Prop):Ending→Δ→Prop:=fun e w'=>∃v D' ν',e=.returned v∧ν'.ks=ks∧iX X.h0 X.lo X.D0 X.mods ν' D' w'∧post D' v ν'
theorem jV{fn:Func}{ks:List Nat}{post:aC→Γ→aD→Prop}:NP (bodyPost P fn (nI X ks post)):=by
 rintro c a w ⟨_,v,D',μ',h,_⟩;cases h
def sP(N:Nat)(h0:H0)(D:aC)(ks:List Nat):Cx:=⟨none,N,[],h0,h0.size,D,ks,none⟩
theorem jF{f:FuncId}{fn:Func}{c:Code}{args:List Γ}{D:aC}{ν:aD}{post:aC→Γ→aD→Prop}(N:Nat)(hf:P.funcs[f]?= some fn)(hn:(fn.name== "runtime.NumGoroutine")=false)(hb:fn.body=some c)(hN:fn.ntmps=N)(hsz:Nat.ble args.length N=true)
  (h:∀h0:H0,(∀p∈ν,p.1<h0.size)→ν.ks.Nodup→WC P (sP N h0 D ν.ks) (bodyPost P fn (nI (sP N h0 D ν.ks) ν.ks post)) c (jJ 0 args) ν [D]):HO P f args D ν post:=by
 refine⟨EF.of hf hn hb,fun w hw hν hnd=>?_⟩;subst hN;have hsz:=bNZ hsz;refine(dZ (r:=none) (n:=0)).1 ((callsIn_of_wp (R:=nI (sP fn.ntmps (hd w) D ν.ks) ν.ks post) hf hb bRD (h (hd w) (fun p hp=>bO (hν p hp).1) hnd _ w ⟨?_,fun s v hs=>?_,rfl,D,⟨bMH _,bMH _,fun _ _ _=>rfl,fun _ _=>rfl,hw,(fun p hp=>?_),hnd,(fun p hp=>(hν p hp).2.2),fun e he=>bMQ he⟩,fun D₁ h1=>?_,bRD⟩) rfl).mono ?_)
 ·simp[sP];omega
 ·obtain⟨_,h2⟩:=gR args 0 s v hs;have hl:=(bLS.1 h2).1;simp only[bPU]at h2 hl;show(args.toArray++_)[s]?= some v;rw[bON Yay];simpa using h2
 ·exact⟨(hν p hp).1,(hν p hp).2.1,bLY (GE.2 ⟨p,hp,rfl⟩)⟩
 ·simp only[bMI]at h1;subst h1;exact Le.refl _
 ·rintro e w' ⟨v,D',ν',rfl,hk,hs,hp⟩;exact⟨v,D',ν',rfl,hk,hs,hp⟩
theorem Q9{fn:Func}{ks:List Nat}{A B ν':aD}{post:aC→Γ→aD→Prop}{e:Exit}(he:(match e with|.normal=>true|.ret=>true|_=>false)=true){rs:List ResultVar}{vs:List Γ}(hds:X.ds=[])(hr:fn.results=rs.toArray)(h:G9 P X σ (A++ν'++B) rs vs)
  (hk:ν'.ks=ks) (hp:∀D,(∀D₁∈Ds,Le D₁ D)→post D (rG vs) ν'):∀a w,Hl X σ (A++ν'++B) Ds a w→bodyPost P fn (nI X ks post) e a w:=by
 intro a w hh;have hrun:=jE hh hr h;obtain⟨h1,h2,h3,D,h4,h5,h6⟩:=hh;have hnd:=h4.nd;simp only[bME]at hnd;have:a.defers=[]∧∃v,(results fn a.tmps).run P w=.ok v w∧nI X ks post (.returned v) w:=⟨h3.trans hds,_,hrun,_,D,ν',rfl,hk,h4.sub (fun p hp=>bMA _ (GT _ hp)) (bMB.1 (bMB.1 hnd).1).2.1,hp D h5⟩
 cases e<;>first|exact this|cases he
theorem _root_.Go.Fs.Zai{fn:Func}{ks:List Nat}(A:aD)(B:aD)(ν':aD){post:aC→Γ→aD→Prop}{e:Exit}{rs:List ResultVar}(vs:List Γ)(e9:((match e with|.normal=>true|.ret=>true|_=>false),X.ds,fn.results)=(true,[],rs.toArray))(h:G9 P X σ (A++ν'++B) rs vs)(hk:ν'.ks=ks)(hp:∀D,(∀D₁∈Ds,Le D₁ D)→post D (rG vs) ν'):∀a w,Hl X σ (A++ν'++B) Ds a w→bodyPost P fn (nI X ks post) e a w:=Q9 (A:=A) (B:=B) (ν':=ν') (vs:=vs) (bLZ (fun z=>z.1) e9) (bLZ (fun z=>z.2.1) e9) (bLZ (fun z=>z.2.2) e9) h hk hp
end Go.Fs
