/- Of BookReports. -/
import Derived.Test.YtmmdpkkcedmgoaaGreatDoorZBookReportsAA
import Derived.RangeFuncLeaves
import Derived.RangeFuncRecord
import Derived.Test.YtmmdpkkcedmgoaaGreatDoorProg
import Derived.ChangeKeysEq
namespace Go.Fs
variable{P:Program}{X:Cx}{γb:Type}[Membership Nat γb]{H:γb}{G:Array Oper}{K:Act→Δ→Prop}{Q:Exit→Act→Δ→Prop}
variable{T:bZ}{L:aF}{W:List aC}{os:List (Bool×Nat)}{fl:Bool}{ix:Nat}
variable{d:Nat}{x y z:Operand}{u v:Γ}{ty:Θ}{pos:String}{aft:Array Edge}{g:Option (Nat×Bool)}
def bM(e:Θ)(sz:Nat)(v:Γ)(n:Nat)(cells:List Γ)(ν:aF):Prop:=
 (∃a,v=.slice a 0 0∧n=0∧cells=[]∧ν=[])∨
 (∃b cap junk,v=qS b n cap∧n≤cap∧ν=[(b,.cells (cells++junk).toArray e (0,0))]∧cells.length=n*sz∧(cells++junk).length=cap*sz)
theorem bM.nil{e:Θ}{sz:Nat}{a:Option Addr}:bM e sz (.slice a 0 0) 0 [] []:=zq ⟨a,C,C,C,C⟩
theorem pL{w:Δ}{b o:Nat}{vs:List Γ}{n:Nat}(hn:vs.length=n)(h:k_ w b o vs):(loadCells ⟨b,o,none⟩ n).run P w=.ok vs.toArray w:=by
 unfold loadCells;rw[yN n 0 #[] vs hn (λj v hj=>by rw[show o+(0+j)=o+j by omega];exact h j v hj)]
 simp
def kX(D:aC)(x:Γ)(m:Nat)(xs:List Γ):Prop:=(∃a c,x=.slice a 0 c∧m=0∧xs=[])∨(∃b o c,x=.slice (some ⟨b,o,none⟩) m c∧At D b o xs)
theorem R4{D:aC}{w:Δ}{x:Γ}{m sz:Nat}{xs:List Γ}(h:kX D x m xs)(hl:xs.length=m*sz)(hw:∀b o,At D b o xs→k_ w b o xs):(Builtin.firstCells sz m x).run P w=.ok xs.toArray w:=by
 rcases h with⟨a,c,rfl,rfl,rfl⟩|⟨b,o,c,rfl,hA⟩
 ·cases a with
  |none=>rfl
  |some a=>simp[Builtin.firstCells,loadCells,loadCellsFrom]
 ·simp only[Builtin.firstCells];exact pL hl (hw b o hA)
theorem OT{D:aC}{w:Δ}{x:Γ}{m:Nat}{xs:List Γ}(h:kX D x m xs):(Builtin.lenOf x).run P w=.ok m w:=by
 rcases h with⟨a,c,rfl,rfl,rfl⟩|⟨b,o,c,rfl,hA⟩<;>rfl
theorem L_{need cap:Nat}(h:cap<need):Builtin.nextslicecap need cap≤2*need+768:=by
 unfold Builtin.nextslicecap;split
 ·omega
 ·split
  ·omega
  ·have key:∀(r c:Nat),c<need+need / 4+400→Builtin.growBy need r c≤2*need+768:=by
    intro r;induction r with
    |zero=>intro c hc;simp only[Builtin.growBy];omega
    |succ r ih=>
     intro c hc;simp only[Builtin.growBy];split
     ·omega
     ·exact ih _ Yd
   exact key _ _ Yd
theorem FF{w:Δ}{n:Nat}:(askRoom n).run P w=.ok () w:=by unfold askRoom;split<;>rfl
theorem P1(z:Array Γ)(n:Nat):(Builtin.zeroCells z n).size=n*z.size:=by simp[Builtin.zeroCells]
section run
variable{t t1 e tr:Θ}{sz:Nat}{z0:Γ}{i0:TypeInfo}{ats:Array Θ}
theorem sT(ht:P.underlying t=some (.slice e))(hat:ats[0]?= some t)(I:ats[1]?= some t1)(hk:P.underlying t1=some .string∨t1=t)(hs:TS P e sz){w:Δ}{a:Option Addr}{n cap m:Nat}{xv:Γ}{xs:List Γ}
  (hm:(Builtin.lenOf xv).run P w=.ok m w) (hx:(Builtin.firstCells sz m xv).run P w=.ok xs.toArray w) (hle:n+m≤cap) {w':Δ}
  (hst:(match a with|some a=>storeCells (a.add (n*sz)) xs|none=>pure ():Sem Unit).run P w=.ok () w'):
  (Builtin.append_ ats tr #[.slice a n cap,xv]).run P w=.ok (.slice a (n+m) cap) w':=by
 have R:(#[Value.slice a n cap,xv]:Array Γ)[0]?= some (.slice a n cap):=rfl;have U:(#[Value.slice a n cap,xv]:Array Γ)[1]?= some xv:=rfl;obtain⟨dd,O,hdd⟩:∃dd,P.underlying t1=some dd∧(dd=.string∨dd=.slice e):=by
  rcases hk with hk|rfl
  ·exact⟨_,hk,zq C⟩
  ·exact⟨_,ht,zt C⟩
 unfold Builtin.append_;rcases hdd with rfl|rfl;all_goals
  simp only[hat,I,R,U,Ω,TU.of ht w,TU.of O w,Ξ,hs w,ε,wt,xx,hm,Bool.not_false,yo,hle,hx];cases a with
  |none=>
   have:w'=w:=by
    have h:(pure ():Sem Unit).run P w=.ok () w':=hst;rw[ε]at h;cases h;rfl
   subst this;rfl
  |some a=>
   have h:(storeCells (a.add (n*sz)) xs).run P w=.ok () w':=hst;simp only[Ω,h,Ξ,ε]
theorem yA(ht:P.underlying t=some (.slice e))(hat:ats[0]?= some t)(I:ats[1]?= some t1)(hk:P.underlying t1=some .string∨t1=t)(hs:TS P e sz)(hz:TZ P e z0)(hi:P.info? e=some i0){w:Δ}{a:Option Addr}{n cap m:Nat}{xv:Γ}{old xs:List Γ}
  (hm:(Builtin.lenOf xv).run P w=.ok m w) (hx:∀w',w'.heap=w.heap→(Builtin.firstCells sz m xv).run P w'=.ok xs.toArray w') (ho:∀w',w'.heap=w.heap→(Builtin.firstCells sz n (.slice a n cap)).run P w'=.ok old.toArray w')
  (hgt:cap<n+m) (hlen:n+m≤10000000) (hb:1≤i0.bytes∧i0.bytes≤4096):
  ∃c,n+m≤c∧c≤9223372036854775807∧(Builtin.append_ ats tr #[.slice a n cap,xv]).run P w=.ok (.slice (some ⟨w.heap.size,0,none⟩) (n+m) c)
   {w with drawn:=w.drawn+1,heap:=w.heap.push (.cells (old.toArray++xs.toArray++Builtin.zeroCells z0.cells (c-(n+m))) e (0,0))}:=by
 have R:(#[Value.slice a n cap,xv]:Array Γ)[0]?= some (.slice a n cap):=rfl;have U:(#[Value.slice a n cap,xv]:Array Γ)[1]?= some xv:=rfl;have hti:∀w,(typeInfo e).run P w=.ok i0 w:=λw=>by simp[typeInfo,program,Sem.run,hi,go_sem]
 have hcapn:=L_ hgt;have hbig:¬Builtin.nextslicecap (n+m) cap*i0.bytes>2^48:=by
  have:Builtin.nextslicecap (n+m) cap*i0.bytes≤(2*(n+m)+768)*4096:=rc hcapn hb.2;omega
 have hch:(choose (.appendCap (n+m) cap e)).run P w=.ok ((n+m)+(w.tape w.drawn (.appendCap (n+m) cap e))%(2^63-(n+m))) {w with drawn:=w.drawn+1}:=by
  simp[choose,Sem.run,Question.forced,Question.cut]
 refine⟨(n+m)+(w.tape w.drawn (.appendCap (n+m) cap e))%(2^63-(n+m)),Nat.le_add_right _ _,by have:=Nat.mod_lt (w.tape w.drawn (.appendCap (n+m) cap e)) (show 0<2^63-(n+m) by omega);omega,?_⟩;obtain⟨dd,O,hdd⟩:∃dd,P.underlying t1=some dd∧(dd=.string∨dd=.slice e):=by
  rcases hk with hk|rfl
  ·exact⟨_,hk,zq C⟩
  ·exact⟨_,ht,zt C⟩
 unfold Builtin.append_;have hnot:¬(n+m≤cap):=Yd
 have hmax:¬(((n+m:Nat):Int)>IntKind.i64.max∧(false=true∨i0.bytes=0)):=by
  rintro⟨_,h|h⟩
  ·cases h
  ·omega
 rcases hdd with rfl|rfl;all_goals
  simp only[hat,I,R,U,Ω,TU.of ht w,TU.of O w,Ξ,hs w,ε,wt,xx,hm,Bool.not_false,yo,hnot,hti];rw[zv (by rintro⟨_,h|h⟩;exact h.elim;omega)]
  simp only[Ω,Ξ,hti];rw[zv hbig];have hzz:∀w,(zeroValue e).run P w=.ok z0 w:=hz;simp only[Ω,ε,Ξ,hti,hch,FF,hzz,ho {w with drawn:=w.drawn+1} C,hx {w with drawn:=w.drawn+1} C,kV]
theorem N0(ht:P.underlying t=some (.slice e))(hat:ats[0]?= some t)(I:ats[1]?= some t)(hs:TS P e sz){w:Δ}{a:Option Addr}{n cap m:Nat}{xv:Γ}{xs:List Γ}
  (hm:(Builtin.lenOf xv).run P w=.ok m w) (hx:(Builtin.firstCells sz m xv).run P w=.ok xs.toArray w) (hle:n+m≤cap) {w':Δ}
  (hst:(match a with|some a=>storeCells (a.add (n*sz)) xs|none=>pure ():Sem Unit).run P w=.ok () w'):
  (Builtin.append_ ats tr #[.slice a n cap,xv]).run P w=.ok (.slice a (n+m) cap) w':=sT ht hat I (zt C) hs hm hx hle hst
theorem DB(ht:P.underlying t=some (.slice e))(hat:ats[0]?= some t)(I:ats[1]?= some t)(hs:TS P e sz)(hz:TZ P e z0)(hi:P.info? e=some i0){w:Δ}{a:Option Addr}{n cap m:Nat}{xv:Γ}{old xs:List Γ}
  (hm:(Builtin.lenOf xv).run P w=.ok m w) (hx:∀w',w'.heap=w.heap→(Builtin.firstCells sz m xv).run P w'=.ok xs.toArray w') (ho:∀w',w'.heap=w.heap→(Builtin.firstCells sz n (.slice a n cap)).run P w'=.ok old.toArray w')
  (hgt:cap<n+m) (hlen:n+m≤10000000) (hb:1≤i0.bytes∧i0.bytes≤4096):
  ∃c,n+m≤c∧(Builtin.append_ ats tr #[.slice a n cap,xv]).run P w=.ok (.slice (some ⟨w.heap.size,0,none⟩) (n+m) c)
   {w with drawn:=w.drawn+1,heap:=w.heap.push (.cells (old.toArray++xs.toArray++Builtin.zeroCells z0.cells (c-(n+m))) e (0,0))}:=by
 obtain⟨c,h1, -,h2⟩:=yA (tr:=tr) ht hat I (zt C) hs hz hi hm hx ho hgt hlen hb;exact⟨c,h1,h2⟩
end run
def ZY(v:Γ):Prop:=∀a n c,v=.slice a n c→c≤9223372036854775807
theorem GI{a:Option Addr}{n c:Nat}(h:c≤9223372036854775807):ZY (.slice a n c):=λ_ _ _ e=>by cases e;exact h
theorem HR{A B ν:aF}{t t1 e tr:Θ}{sz n m:Nat}{cells xs:List Γ}{xv:Γ}{z0:Γ}{ats:Array Θ}
  (ho:G[ix]?= some ⟨some d,.call {callee:=.builtin .append,args:=#[x,y],argTypes:=ats},tr,pos,aft,g⟩) (ht:P.underlying t=some (.slice e)) (hat:ats[0]?= some t) (I:ats[1]?= some t1) (hk:P.underlying t1=some .string∨t1=t)
  (hs:TS P e sz) (hz:TZ P e z0) (V:Nat.beq z0.cells.size sz=true) (hi:(P.info? e).map (λi=>Nat.ble 1 i.bytes&&Nat.ble i.bytes 4096)=some true) (O:Nat.ble 1 sz=true)
  (hx:ev T x=some v) (hy:ev T y=some xv) (hacc:bM e sz v n cells ν) (hsrc:∀a w,Hl X T (A++ν++B) W a w→(Builtin.lenOf xv).run P w=.ok m w∧∀w',w'.heap=w.heap→(Builtin.firstCells sz m xv).run P w'=.ok xs.toArray w') (hxl:xs.length=m*sz) (hcl:cells.length=n*sz) (hx1:∀u∈xs,cell1 u=true) (hlen:n+m≤10000000)
  (hfl:fl=false∨∀p∈ν,p.1∈H)
  (hN:Nat.blt d X.N=true) (hg:dF G T g)
  (kk:∀v' ν',bM e sz v' (n+m) (cells++xs) ν'→(ZY v→ZY v')→WL P X H G K Q os ((d,v')::T) (A++ν'++B) W):WL P X H G K Q ((fl,ix)::os) T (A++ν++B) W:=by
 refine fW ho C C hg λa w hh=>?_
 obtain⟨h1,h2,h3,D,h4,h5,h6⟩:=id hh;obtain⟨i0,hi,Y,Z⟩:∃i0,P.info? e=some i0∧1≤i0.bytes∧i0.bytes≤4096:=by
  cases h:P.info? e with
  |none=>simp[h]at hi
  |some i=>simp[h]at hi;exact⟨i,C,hi⟩
 have hsz:1≤sz:=vf O;have hz1':=wa V;have hex:(execOp a.eval ⟨some d,.call {callee:=.builtin .append,args:=#[x,y],argTypes:=ats},tr,pos,aft,g⟩).run P w=
   ((Builtin.append_ ats tr #[v,xv]).run P w).andThen λr w'=>.ok (.value r) w':=by
  simp only[execOp,resolve,pure_bind,invoke,builtin];have e1:(#[x,y].map a.eval)=#[v,xv]:=kz
  rw[e1,Ω];simp only[ε]
 rw[hex];obtain⟨hm,hfc⟩:=hsrc a w hh;have grow:∀(old:Option Addr) (cap:Nat),v=.slice old n cap→cap<n+m→(∀w',w'.heap=w.heap→(Builtin.firstCells sz n (.slice old n cap)).run P w'=.ok cells.toArray w')→
   Oper.uponIn (FW X.r) 0 P ⟨some d,.call {callee:=.builtin .append,args:=#[x,y],argTypes:=ats},tr,pos,aft,g⟩ a (λa' w'=>(fl=true→rL H w w')∧wT X.r H P G K Q (jC G os) a' w') Q
    (((Builtin.append_ ats tr #[v,xv]).run P w).andThen λr w'=>.ok (.value r) w'):=by
  intro old cap hv hgt hold;obtain⟨c,hc,hcB,hrun⟩:=yA (tr:=tr) ht hat I hk hs hz hi hm hfc hold hgt hlen ⟨Y,Z⟩;rw[hv,hrun];obtain⟨junk,hjunk⟩:∃junk:List Γ,cells.toArray++xs.toArray++Builtin.zeroCells z0.cells (c-(n+m))=(cells++xs++junk).toArray∧(cells++xs++junk).length=c*sz:=by
   refine⟨(Builtin.zeroCells z0.cells (c-(n+m))).toList,Yf,?_⟩;have:=P1 z0.cells (c-(n+m));simp only[zf,Array.length_toList,this,hz1',hcl,hxl];rw[←xb,←xb];congr 1;omega
  have hpush:=h4.push (.cells (cells++xs++junk).toArray e (0,0)) C;simp only[Ξ];rw[hjunk.1];refine⟨λ_=>⟨Yf,λb hb _=>dV hb⟩,?_⟩;have hst:jH X.h0 X.lo X.D0 X.mods (A++[(w.heap.size,.cells (cells++xs++junk).toArray e (0,0))]++B) D {w with drawn:=w.drawn+1,heap:=w.heap.push (.cells (cells++xs++junk).toArray e (0,0))}:=by
   have h:=hpush.sub (μ':=A++[(w.heap.size,.cells (cells++xs++junk).toArray e (0,0))]++B) (λp hp=>by
    simp only[zd,zm]at hp ⊢
    rcases hp with(hp|hp)|hp
    ·exact zt (zq (zq hp))
    ·exact zq (hp.resolve_right Yf)
    ·exact zt (zt hp)) (by
    have hn:=hpush.nd;simp only[yl,ze,xg,zd,wn]at hn;obtain⟨⟨⟨ha,_⟩,hb⟩,hn⟩:=hn;rw[za,za]at hn;simp only[ze,yl,tj];rw[za,za];refine⟨⟨hn.1.1,Yf,λq hq r hr=>?_⟩,hn.2.1,λq hq r hr=>?_⟩
    ·simp only[yf]at hr;rintro rfl;exact ha (hr▸hq)
    ·simp only[zd,yf]at hq;rcases hq with hq|hq
     ·exact hn.2.2 q (yw _ hq) r hr
     ·rintro rfl;exact hb (hq▸hr))
   exact⟨h.hlo,h.size,h.old,h.dold,h.agr,h.box,h.nd,h.fz,h.env⟩
  exact kk _ _ (zt ⟨_,c,junk,C,hc,C,by simp[hcl,hxl,xb],hjunk.2⟩) (λ_=>GI hcB) _ _ (Hl.put ⟨h1,h2,h3,D,hst,h5,h6.step (λ_ p hp=>by
   rcases zd.1 hp with hp|hp
   ·rcases zd.1 hp with hp|hp
    ·exact zq (n5.2 ⟨p,yw _ (yw _ hp),C⟩)
    ·exact zt (by rw[yf.1 hp];exact zk _)
   ·exact zq (n5.2 ⟨p,LT _ hp,C⟩)) (λ_=>⟨Yf,λb hb _=>⟨dV hb,C⟩,C⟩) hst.dom⟩ hN _)
 rcases hacc with⟨old,hv,hn,hc,hν⟩|⟨b,cap,junk,hv,hncap,hν,hl1,R⟩
 ·subst hn;subst hc;subst hν
  by_cases h0:m=0
  ·subst h0;have hxs:xs=[]:=ri.1 (by simpa using hxl);subst hxs;rw[hv,sT (tr:=tr) (w':=w) ht hat I hk hs hm (hfc w C) (zk _) (by cases old<;>rfl)]
   refine⟨λ_=>rL.refl _ _,kk _ [] (zq ⟨old,C,C,C,C⟩) (λ_=>GI Yu) _ _ (Hl.put hh hN _)⟩
  ·refine grow old 0 hv Yd λw' _=>?_
   cases old with
   |none=>rfl
   |some a=>simp[Builtin.firstCells,loadCells,loadCellsFrom]
 ·subst hν;have hbx:=(h4.box (b,.cells (cells++junk).toArray e (0,0)) Yf).1;by_cases hfit:n+m≤cap
  ·have hjl:xs.length≤junk.length:=by
    have h1:(n+m)*sz≤cap*sz:=so sz hfit;rw[←R,xb,zf,hcl]at h1;omega
   have U:n*sz+0+xs.length≤(cells++junk).length:=by rw[zf,hcl];omega
   obtain⟨w',hr,hw'⟩:=lX (P:=P) xs 0 w b (n*sz) (cells++junk) e hbx U hx1;have htk:(cells++junk).take (n*sz+0)++xs++(cells++junk).drop (n*sz+0+xs.length)=cells++xs++junk.drop xs.length:=by
    rw[←hcl,tl,qi,rd,wl Yd];simp
   rw[htk]at hw';rw[hv,sT (tr:=tr) (w':=w') ht hat I hk hs hm (hfc w C) hfit (by
    show(storeCells ((⟨b,0,none⟩:Addr).add (n*sz)) xs).run P w=_;rw[iL,wo];exact hr)]
   have hHas:bO (A++[(b,.cells (cells++junk).toArray e (0,0))]++B) b (.cells (cells++junk).toArray e (0,0)) (.cells (cells++xs++junk.drop xs.length).toArray e (0,0)) (A++[(b,.cells (cells++xs++junk.drop xs.length).toArray e (0,0))]++B):=by
    rw[yy A,yy A];exact .app .head
   have hst:=h4.set hHas hw' C;refine⟨λhf=>⟨ky,λc hc hcb=>?_⟩,kk _ _ (zt ⟨b,cap,junk.drop xs.length,C,hfit,C,by simp[hcl,hxl,xb],?_⟩) (λhB=>GI (hB _ _ _ hv)) _ _ (Hl.put ⟨h1,h2,h3,D,hst,h5,h6.step (λ_ p hp=>zq Yw) (λ_=>mK hw' (n5.2 ⟨_,hHas.mem,C⟩)) hst.dom⟩ hN _)⟩
   ·have hb:b∈H:=by
     rcases hfl with h|h
     ·rw[hf]at h;cases h
     ·exact h _ (yf.2 C)
    rw[hw'.1,qp (by rintro rfl;exact hcb hb)]
   ·rw[←R];simp;omega
  ·refine grow _ cap hv Yd λw' hw'=>?_
   simp only[Builtin.firstCells];refine pL hcl λj u hj=>tO (cs:=(cells++junk).toArray) (by rw[hw'];exact hbx) ?_
   have:=(yx.1 hj).1;simp only[List.getElem?_toArray,wo];rw[uo this];exact hj
theorem Fy{A B ν:aF}{t e tr:Θ}{sz n m:Nat}{cells xs:List Γ}{xv:Γ}{z0:Γ}{ats:Array Θ}
  (ho:G[ix]?= some ⟨some d,.call {callee:=.builtin .append,args:=#[x,y],argTypes:=ats},tr,pos,aft,g⟩) (ht:P.underlying t=some (.slice e)) (hat:ats[0]?= some t) (I:ats[1]?= some t)
  (hs:TS P e sz) (hz:TZ P e z0) (R:Nat.beq z0.cells.size sz=true) (hi:(P.info? e).map (λi=>Nat.ble 1 i.bytes&&Nat.ble i.bytes 4096)=some true) (O:Nat.ble 1 sz=true)
  (hx:ev T x=some v) (hy:ev T y=some xv) (hacc:bM e sz v n cells ν) (hsrc:∀a w,Hl X T (A++ν++B) W a w→(Builtin.lenOf xv).run P w=.ok m w∧∀w',w'.heap=w.heap→(Builtin.firstCells sz m xv).run P w'=.ok xs.toArray w') (hxl:xs.length=m*sz) (hcl:cells.length=n*sz) (hx1:∀u∈xs,cell1 u=true) (hlen:n+m≤10000000)
  (hfl:fl=false∨∀p∈ν,p.1∈H)
  (hN:Nat.blt d X.N=true) (hg:dF G T g)
  (kk:∀v' ν',bM e sz v' (n+m) (cells++xs) ν'→WL P X H G K Q os ((d,v')::T) (A++ν'++B) W):WL P X H G K Q ((fl,ix)::os) T (A++ν++B) W:=
 HR ho ht hat I (zt C) hs hz R hi O hx hy hacc hsrc hxl hcl hx1 hlen hfl hN hg λv' ν' h _=>kk v' ν' h

theorem jH.freeze{h0:H0}{lo:Nat}{D0 D:aC}{mods:List Nat}{A B:aF}{w:Δ}{b:Nat}{cells junk:List Γ}{e:Θ}(h:jH h0 lo D0 mods (A++[(b,.cells (cells++junk).toArray e (0,0))]++B) D w)(hb:lo≤b):
  ∃D',Le D D'∧D' b=cells∧(∀c,c≠b→D' c=D c)∧jH h0 lo D0 mods (A++B) D' w:=by
 have hx:=h.box (b,.cells (cells++junk).toArray e (0,0)) Yf;have hnd:b∉(A++B).map (·.1):=by
  have hn:=h.nd;simp only[ze,yl,tj]at hn ⊢
  rw[za,za]at hn;simp only[zd,wn];exact⟨λhm=>hn.1.2.2 b hm b Yf C,λhm=>hn.2.2 b Yf b hm C⟩
 have hlo:=h.hlo;refine⟨λc=>if c=b then cells else D c,⟨λc=>?_,by simp only[Ne.symm (h.agr.ne0 hx.2.1),xx]⟩,Yf,(λc hc=>by simp[hc]),h.hlo,h.size,h.old,λc hc=>?_,h.agr.of (λc hc=>?_) (by simp only[Ne.symm (h.agr.ne0 hx.2.1),xx]) C,λp hp=>?_,?_,(λp hp=>h.fz p (by rcases zd.1 hp with hp|hp<;>simp[hp])),h.env⟩
 ·by_cases hcb:c=b
  ·subst hcb;rw[hx.2.1];exact oq
  ·simp[hcb]
 ·have:c≠b:=Yd
  simp only[this,xx];exact h.dold c hc
 ·by_cases hcb:c=b
  ·subst hcb;exact⟨_,e,_,hx.1,Yf⟩
  ·simp only[hcb,xx]at hc ⊢;exact h.agr.1 c hc
 ·have hp':p∈A++[(b,Obj.cells (cells++junk).toArray e (0,0))]++B:=by
   rcases zd.1 hp with hp|hp
   ·exact yw _ (yw _ hp)
   ·exact LT _ hp
  obtain⟨h1,h2,h3⟩:=h.box p hp';have:p.1≠b:=by rintro rfl;exact hnd (n5.2 ⟨p,hp,C⟩)
  exact⟨h1,by simp only[this,xx];exact h2,h3⟩
 ·have hn:=h.nd;simp only[ze,yl,tj]at hn ⊢
  rw[za,za]at hn;rw[za];exact⟨hn.1.1,hn.2.1,λq hq r hr=>hn.2.2 q (yw _ hq) r hr⟩
theorem aT{A B ν:aF}{D₁:aC}{t e tr:Θ}{sz n m:Nat}{cells xs:List Γ}{xv:Γ}{z0:Γ}{ats:Array Θ}
  (ho:G[ix]?= some ⟨some d,.call {callee:=.builtin .append,args:=#[x,y],argTypes:=ats},tr,pos,aft,g⟩) (ht:P.underlying t=some (.slice e)) (hat:ats[0]?= some t) (I:ats[1]?= some t)
  (hs:TS P e sz) (hz:TZ P e z0) (R:Nat.beq z0.cells.size sz=true) (hi:(P.info? e).map (λi=>Nat.ble 1 i.bytes&&Nat.ble i.bytes 4096)=some true) (O:Nat.ble 1 sz=true)
  (hx:ev T x=some v) (hy:ev T y=some xv) (hacc:bM e sz v n cells ν) (hsrc:kX D₁ xv m xs) (hD:D₁∈W) (hxl:xs.length=m*sz) (hcl:cells.length=n*sz) (hx1:∀u∈xs,cell1 u=true) (hlen:n+m≤10000000)
  (hfl:fl=false∨∀p∈ν,p.1∈H)
  (hN:Nat.blt d X.N=true) (hg:dF G T g)
  (kk:∀v' ν',bM e sz v' (n+m) (cells++xs) ν'→WL P X H G K Q os ((d,v')::T) (A++ν'++B) W):WL P X H G K Q ((fl,ix)::os) T (A++ν++B) W:=by
 refine Fy ho ht hat I hs hz R hi O hx hy hacc (λa w hh=>?_) hxl hcl hx1 hlen hfl hN hg kk;obtain⟨h1,h2,h3,D,h4,h5,U⟩:=id hh;refine⟨OT hsrc,λw' hw'=>R4 hsrc hxl λb o hA j u hj=>?_⟩;have:=h4.agr.cell ((h5 D₁ hD).get (hA j u hj));unfold World.cell? at this ⊢
 rw[hw'];exact this
def lB(D:aC)(v:Γ)(n:Nat)(cells:List Γ):Prop:=(∃a,v=.slice a 0 0∧n=0∧cells=[])∨(∃b cap,v=qS b n cap∧n≤cap∧At D b 0 cells)
theorem Hl.freeze{A B ν:aF}{e sz n:Nat}{cells:List Γ}{a:Act}{w:Δ}(hacc:bM e sz v n cells ν)(hmods:X.mods=[])(hh:Hl X T (A++ν++B) W a w):
  ∃D',(∀D₁∈W,Le D₁ D')∧lB D' v n cells∧Hl X T (A++B) (D'::W) a w:=by
 obtain⟨h1,h2,h3,D,h4,h5,I⟩:=hh;rcases hacc with⟨old,hv,hn,hc,hν⟩|⟨b,cap,junk,hv,hncap,hν,hl1,O⟩
 ·subst hν;refine⟨D,h5,zq ⟨old,hv,hn,hc⟩,h1,h2,h3,D,by simpa using h4,λD₁ hD₁=>?_,by simpa using I⟩;rcases zm.1 hD₁ with rfl|hD₁
  ·exact Le.refl _
  ·exact h5 D₁ hD₁
 ·subst hν;have hb:=(h4.box (b,.cells (cells++junk).toArray e (0,0)) Yf).2.2;have hb':=hb.resolve_right (by rw[hmods];simp)
  obtain⟨D',hle,hD',hDo,hs⟩:=h4.freeze hb';refine⟨D',λD₁ hD₁=>(h5 D₁ hD₁).trans hle,zt ⟨b,cap,hv,hncap,λj u hj=>by rw[hD',wo];exact hj⟩,h1,h2,h3,D',hs,λD₁ hD₁=>?_,I.step (λ_ p hp=>zq (n5.2 ⟨p,ai,C⟩)) (λ_=>⟨zk _,λc _ hn=>⟨C,hDo c (by rintro rfl;exact hn Yf)⟩,C⟩) hs.dom⟩
  rcases zm.1 hD₁ with rfl|hD₁
  ·exact Le.refl _
  ·exact(h5 D₁ hD₁).trans hle
theorem ZB{A B ν:aF}{e sz n:Nat}{cells:List Γ}(hacc:bM e sz v n cells ν)(hmods:X.mods=[])(kk:∀D,(∀D₁∈W,Le D₁ D)→lB D v n cells→WL P X H G K Q os T (A++B) (D::W)):WL P X H G K Q os T (A++ν++B) W:=by
 intro a w hh;obtain⟨D',h1,h2,h3⟩:=hh.freeze hacc hmods;exact kk D' h1 h2 a w h3
theorem zN{c:Code}{A B ν:aF}{e sz n:Nat}{cells:List Γ}(hacc:bM e sz v n cells ν)(hmods:X.mods=[])(kk:∀D,(∀D₁∈W,Le D₁ D)→lB D v n cells→WC P X Q c T (A++B) (D::W)):WC P X Q c T (A++ν++B) W:=by
 intro a w hh;obtain⟨D',h1,h2,h3⟩:=hh.freeze hacc hmods;exact kk D' h1 h2 a w h3
theorem dE{w9:Act→Δ→Prop}{A B ν:aF}{e sz n:Nat}{cells:List Γ}(hacc:bM e sz v n cells ν)(hmods:X.mods=[])(kk:∀D,(∀D₁∈W,Le D₁ D)→lB D v n cells→∀a w,Hl X T (A++B) (D::W) a w→w9 a w):∀a w,Hl X T (A++ν++B) W a w→w9 a w:=by
 intro a w hh;obtain⟨D',h1,h2,h3⟩:=hh.freeze hacc hmods;exact kk D' h1 h2 a w h3
theorem lB.sl{α:Type}{R:Rd α}{D:aC}{sz n:Nat}{cells:List Γ}{xs:List α}(h:lB D v n cells)(hn:xs.length=n)(hb:n≤9223372036854775807)(he:∀i x,xs[i]?= some x→∃cs,R D x cs∧cs.length=sz∧(cells.drop (i*sz)).take sz=cs):Sl D R sz v xs:=by
 rcases h with⟨a,hv,I,hc⟩|⟨b,cap,hv,hc,hA⟩
 ·subst I;have:xs=[]:=ri.1 hn;subst this;subst hv
  exact⟨a,0,C,zk _,Yf,zq C⟩
 ·subst hv;exact Sl.of_at hA hn hc hb he
theorem lB.ints{D:aC}{n:Nat}{l:List Int}(h:lB D v n (ints l))(hn:l.length=n)(hb:n≤9223372036854775807):Sl D RI 1 v l:=
 h.sl hn hb λi x hx=>⟨[qI x],C,C,by
  have h:=dA hx;have hl:=(yx.1 h).1;rw[xp,xc hl];rw[yz hl]at h;simp[yi h]⟩
theorem kX.lit{D:aC}{b m c:Nat}{xs:List Γ}(h:At D b 0 xs):kX D (qS b m c) m xs:=zt ⟨b,0,c,C,h⟩
theorem kX.ints{D:aC}{l:List Int}(h:Sl D RI 1 v l):kX D v l.length (ints l):=by
 obtain⟨a,cap,rfl,h1,h2,h3⟩:=h;rcases h3 with rfl|⟨b,o,rfl,h3⟩
 ·exact zq ⟨a,cap,C,C,C⟩
 ·refine zt ⟨b,o,cap,C,λj v hj=>?_⟩;simp only[Fs.ints,xt,s_]at hj;obtain⟨n,hn,rfl⟩:=hj;obtain⟨cs,hr,hc,hA⟩:=h3 j n hn;obtain rfl:cs=[qI n]:=hr;have:=hA 0 _ C;simpa using this
def O1(β:List Nat)(D:aC)(w:Δ)(D':aC)(w':Δ):Prop:=w.heap.size≤w'.heap.size∧Le D D'∧∀b∈β,w'.heap[b]?= w.heap[b]?∧D' b=D b
abbrev xL:=List Nat→aC→Δ→Prop
def jS(P:Program)(l:Nat)(vs:List Γ)(w:Δ)(R:Bool→aC→Δ→Prop):Prop:=
 ∃fn tmps assign body,(Instr.yield l vs.toArray).run P w=.ok (.round l fn tmps assign body) w∧Ri P l fn tmps assign body w λe w'=>∃b D',e=.returned (.bool b)∧R b D' w'
def Cx.withEx(X:Cx)(J:xL):Cx:={X with ex:=some J}
theorem Yau{J J1 J0:xL}{l:Nat}{c:Operand}{xs:Array Operand}{ats:Array Θ}{vs:List Γ}(ho:G[ix]?= some ⟨some d,.call {callee:=.value c,args:=xs,argTypes:=ats},ty,pos,aft,g⟩)
  (hc:ev T c=some (.func (.yield l) #[] #[])) (hxs:CM T xs.toList=some vs) (hex:X.ex=some J) (hfl:fl=false) (h0:X.h0=⟨#[],none⟩) (_hm:X.mods=[]) (I:k9 X.lo J1) (O:k9 X.lo J0)
  (hY:∀D w,Q3 X.lo D w→J (L.map (·.1)) D w→(∀p∈L,p.1<w.heap.size)→(∀D₁∈W,Le D₁ D)→jS P l vs w λb D' w'=>Q3 X.lo D' w'∧O1 (L.map (·.1)) D w D' w'∧(if b then J1 (L.map (·.1)) D' w' else J0 (L.map (·.1)) D' w'))
  (hN:Nat.blt d X.N=true) (hg:dF G T g)
  (U:WL P (X.withEx J1) H G K Q os ((d,.bool true)::T) L W) (V:WL P (X.withEx J0) H G K Q os ((d,.bool false)::T) L W):WL P X H G K Q ((fl,ix)::os) T L W:=by
 refine fW ho C C hg λa w hh=>?_
 obtain⟨h1,h2,h3,D,h4,h5,R⟩:=id hh;have hJ:J (L.map (·.1)) D w:=by unfold Y5 at R;rw[hex]at R;exact R.2
 obtain⟨fn,tmps,assign,body,hy,hr⟩:=hY D w h4.dom hJ (λp hp=>bR (h4.box p hp).1) h5;have e:xs.map a.eval=vs.toArray:=by rw[←mY (λ_ _ hx=>hh.eval hx) hxs,←ou]
 have hrun:(execOp a.eval ⟨some d,.call {callee:=.value c,args:=xs,argTypes:=ats},ty,pos,aft,g⟩).run P w=.ok (.round l fn tmps assign body) w:=by
  simp only[execOp,resolve,hh.eval hc,Deferred.ofValue,pure_bind,invoke,e];rw[←hy];simp
 rw[hrun];refine⟨λh=>vk,(JF hr).mono ?_⟩;rintro e' w' ⟨b,D',rfl,hd',hh',hb⟩;have hst:jH X.h0 X.lo X.D0 X.mods L D' w':=by
  refine⟨h4.hlo,hd'.2,(λb hb=>jg),(λb hb=>jg),hd'.1,λp hp=>?_,h4.nd,h4.fz,λe he=>by rw[h0]at he;cases he⟩;obtain⟨p1,p2,p3⟩:=h4.box p hp;obtain⟨Y,Z⟩:=hh'.2.2 p.1 (n5.2 ⟨p,hp,C⟩);exact⟨Y.trans p1,Z.trans p2,p3⟩
 have hds:∀D₁∈W,Le D₁ D':=λD₁ hD₁=>(h5 D₁ hD₁).trans hh'.2.1
 refine⟨(λh=>by rw[hfl]at h;cases h),?_⟩;cases b with
 |true=>
  refine U _ _ (Hl.put (X:=X.withEx J1) ⟨h1,h2,h3,D',hst,hds,⟨I,hb⟩⟩ hN _)
 |false=>
  refine V _ _ (Hl.put (X:=X.withEx J0) ⟨h1,h2,h3,D',hst,hds,⟨O,hb⟩⟩ hN _)

def Xj(N lo:Nat)(J:xL):Cx:=⟨none,N,[],⟨#[],none⟩,lo,λ_=>[],[],some J⟩
def SJ(lo:Nat)(J:xL)(L:aF)(W:List aC)(w:Δ):Prop:=
 ∃D,jH ⟨#[],none⟩ lo (λ_=>[]) [] L D w∧(∀D₁∈W,Le D₁ D)∧Y5 (Xj 0 lo J) L D w
def lr(P:Program)(f:FuncId)(args:List Γ)(lo:Nat)(J:xL)(L:aF)(W:List aC)(post:Γ→xL→aF→Prop):Prop:=
 EF P f∧∀w,SJ lo J L W w→Calls P f args.toArray w λe w'=>∃v J' μ',e=.returned v∧SJ lo J' μ' W w'∧post v J' μ'
def ES(lo:Nat)(W:List aC)(post:Γ→xL→aF→Prop):Ending→Δ→Prop:=λe w'=>∃v J' μ',e=.returned v∧SJ lo J' μ' W w'∧post v J' μ'
theorem AO{fn:Func}{lo:Nat}{post:Γ→xL→aF→Prop}:NP (bodyPost P fn (ES lo W post)):=by
 rintro c a w ⟨_,v,D',μ',h,_⟩;cases h
theorem j4{f:FuncId}{fn:Func}{c:Code}{args:List Γ}{lo:Nat}{J:xL}{post:Γ→xL→aF→Prop}(N:Nat)(hf:P.funcs[f]?= some fn)(hn:(fn.name== "runtime.NumGoroutine")=false)(hb:fn.body=some c)(hN:fn.ntmps=N)(hsz:Nat.ble args.length N=true)
  (h:WC P (Xj N lo J) (bodyPost P fn (ES lo W post)) c (kA 0 args) L W):lr P f args lo J L W post:=by
 refine⟨EF.of hf hn hb,λw hw=>?_⟩;subst hN;have hsz:=vf hsz;obtain⟨D,hs,hds,hex⟩:=hw;refine(eC (r:=none) (n:=0)).1 (callsIn_of_wp (R:=ES lo W post) hf hb zy (h _ w ⟨?_,(λs v hs=>?_),C,D,hs,hds,hex⟩) C)
 ·simp[Xj];omega
 ·obtain⟨_,h2⟩:=gV args 0 s v hs;have hl:=(yx.1 h2).1;simp only[uw]at h2 hl;show(args.toArray++_)[s]?= some v;rw[sb uu];simpa using h2
theorem nU{fn:Func}{lo N:Nat}{J:xL}{post:Γ→xL→aF→Prop}{e:Exit}(he:(match e with|.normal=>true|.ret=>true|_=>false)=true){rs:List ResultVar}{vs:List Γ}(hr:fn.results=rs.toArray)(h:N3 P (Xj N lo J) T L rs vs)
  {Ds':List aC} (hD:∀D∈Ds',∃D'∈W,Le D D') (hp:post (sR vs) J L):∀a w,Hl (Xj N lo J) T L W a w→bodyPost P fn (ES lo Ds' post) e a w:=by
 intro a w hh;have hrun:=jP hh hr h;obtain⟨h1,h2,h3,D,h4,h5,I⟩:=hh;have:a.defers=[]∧∃v,(results fn a.tmps).run P w=.ok v w∧ES lo Ds' post (.returned v) w:=⟨h3,_,hrun,_,J,L,C,⟨D,h4,(λD₁ h=>by obtain⟨O,hm,hle⟩:=hD D₁ h;exact hle.trans (h5 O hm)),I⟩,hp⟩
 cases e<;>first|exact this|cases he
theorem yQ{J:xL}{N lo:Nat}{c:Operand}{xs:Array Operand}{ats:Array Θ}{f:FuncId}{c1 c2 vs:List Γ}{post:Γ→xL→aF→Prop}(ho:G[ix]?= some ⟨some d,.call {callee:=.value c,args:=xs,argTypes:=ats},ty,pos,aft,g⟩)
  (hc:ev T c=some (.func (.func f) c1.toArray c2.toArray)) (hxs:CM T xs.toList=some vs) (hfl:fl=false)
  (hf:lr P f (c1++vs++c2) lo J L W post) (hN:Nat.blt d N=true) (hg:dF G T g)
  (kk:∀v J' μ',post v J' μ'→WL P (Xj N lo J') H G K Q os ((d,v)::T) μ' W):WL P (Xj N lo J) H G K Q ((fl,ix)::os) T L W:=by
 refine fW ho C C hg λa w hh=>?_
 obtain⟨h1,h2,h3,D,h4,h5,I⟩:=id hh;rw[zR hf.1 (hh.eval hc) (mY (λ_ _ hx=>hh.eval hx) hxs)];refine⟨λh=>vk,eC.2 ((hf.2 w ⟨D,h4,h5,I⟩).mono ?_)⟩;rintro e w' ⟨v,J',μ',rfl,⟨D',hs,hds,hex⟩,hpost⟩;exact⟨(λh=>by rw[hfl]at h;cases h),kk v J' μ' hpost _ _ (Hl.put (X:=Xj N lo J') ⟨h1,h2,h3,D',hs,hds,hex⟩ hN v)⟩

def DC{α:Type}(P:Program)(f:FuncId)(cap:List Γ)(Dr:aC)(xs:List α)(enc:α→List Γ):Prop:=
 EF P f∧∀(lo l:Nat) (J Jx:List α→xL),(∀pre,k9 lo (J pre))→(∀pre,k9 lo (Jx pre))→
  (∀pre x β D w,(∃r,xs=pre++x::r)→Q3 lo D w→J pre β D w→(∀b∈β,b<w.heap.size)→Le Dr D→
   jS P l (enc x) w λb D' w'=>Q3 lo D' w'∧O1 β D w D' w'∧(if b then J (pre++[x]) β D' w' else Jx (pre++[x]) β D' w'))→
  ∀D w,Q3 lo D w→Le Dr D→J [] [] D w→Calls P f (.func (.yield l) #[] #[]::cap).toArray w λe w'=>∃v D',e=.returned v∧Q3 lo D' w'∧(J xs [] D' w'∨∃pre,Jx pre [] D' w')
def bw{γ:Type}(h0:H0)(lo:Nat)(D0:aC)(mods:List Nat)(W:List aC)(Φ:γ→Prop)(Mx:γ→aF):xL:=λβ D w=>
 ∃g,Φ g∧jH h0 lo D0 mods (Mx g) D w∧(∀D₁∈W,Le D₁ D)∧(∀b∈β,h0.size≤b∧∀D₁∈W,D₁ b=[])∧∀p∈Mx g,p.1∉β
theorem Vi{γ:Type}{h0:H0}{lo:Nat}{D0:aC}{W:List aC}{Φ:γ→Prop}{Mx:γ→aF}:k9 lo (bw h0 lo D0 [] W Φ Mx):=by
 constructor
 ·rintro β D w D' w' ⟨g,hg,hs,hD,hβ,hM⟩ ⟨hl1,I,O⟩ hd;refine⟨g,hg,⟨hs.hlo,hd.2,λb hb hm=>?_,λb hb=>?_,hd.1,λp hp=>?_,hs.nd,hs.fz,λe he=>O.trans (hs.env e he)⟩,λD₁ hD₁=>⟨λb=>?_,?_⟩,hβ,hM⟩
  ·have hlt:b<w.heap.size:=by have:=hs.hlo;have:=hs.size;omega
   have hn:b∉β:=λh=>by have:=(hβ b h).1;omega
   rw[(I b hlt hn).1];exact hs.old b hb hm
  ·have hlt:b<w.heap.size:=by have:=hs.hlo;have:=hs.size;omega
   have hn:b∉β:=λh=>by have:=(hβ b h).1;omega
   rw[(I b hlt hn).2];exact hs.dold b hb
  ·obtain⟨p1,p2,p3⟩:=hs.box p hp;obtain⟨R,U⟩:=I p.1 (bR p1) (hM p hp);exact⟨R.trans p1,U.trans p2,p3⟩
  ·by_cases hb:b∈β
   ·rw[(hβ b hb).2 D₁ hD₁];exact oq
   ·by_cases hlt:b<w.heap.size
    ·rw[(I b hlt hb).2];exact(hD D₁ hD₁).1 b
    ·have:=(hD D₁ hD₁).1 b;rw[hs.agr.fresh (Nat.le_of_not_lt hlt)]at this;rw[List.prefix_nil.1 this];exact oq
  ·have h0:(0:Nat)∉β:=λhm=>hs.agr.2.1 ((hD D₁ hD₁).2.trans ((hβ 0 hm).2 D₁ hD₁))
   rw[(I 0 hs.agr.pos h0).2];exact(hD D₁ hD₁).2
 ·rintro β β' D w ⟨g,hg,hs,hD,hβ,hM⟩ hb';refine⟨g,hg,hs,hD,λb hb=>?_,λp hp hb=>?_⟩
  ·rcases hb' b hb with h|h
   ·exact hβ b h
   ·refine⟨by have:=hs.hlo;have:=hs.size;omega,λD₁ hD₁=>?_⟩;have:=(hD D₁ hD₁).1 b;rw[hs.agr.fresh h]at this;exact List.prefix_nil.1 this
  ·rcases hb' _ hb with h|h
   ·exact hM p hp h
   ·have:=bR (hs.box p hp).1;omega
theorem jH.round{h0:H0}{lo:Nat}{D0 D D':aC}{L μ':aF}{w w':Δ}(h:jH h0 lo D0 [] L D w)(hs:jH (hd w) w.heap.size D (L.map (·.1)) μ' D' w'):jH h0 lo D0 [] μ' D' w':=by
 have hle:=xj h.hlo h.size;have hkey:∀b∈L.map (·.1),lo≤b:=by
  intro b hb;obtain⟨p,hp,rfl⟩:=n5.1 hb;exact(h.box p hp).2.2.resolve_right Yf
 refine⟨h.hlo,xj h.size hs.size,λb hb hm=>?_,λb hb=>?_,hs.agr,λp hp=>?_,hs.nd,hs.fz,λe he=>(hs.env _ C).trans (h.env e he)⟩
 ·rw[hs.old b (vc hb hle) (λhk=>by have:=hkey b hk;have:=h.hlo;omega)];exact h.old b hb hm
 ·rw[hs.dold b (vc hb hle)];exact h.dold b hb
 ·obtain⟨p1,p2,p3⟩:=hs.box p hp;refine⟨p1,p2,zq ?_⟩;rcases p3 with p3|p3
  ·have:=h.size;omega
  ·exact hkey _ p3
theorem jH.roundHigh{D D':aC}{w w':Δ}{L μ':aF}{β:List Nat}(hw:gI D w)(hs:jH (hd w) w.heap.size D (L.map (·.1)) μ' D' w')(hβ:∀b∈β,b<w.heap.size)(hM:∀p∈L,p.1∉β):O1 β D w D' w':=by
 refine⟨hs.size,iJ hw hs,λb hb=>⟨hs.old b (hβ b hb) λhk=>?_,hs.dold b (hβ b hb)⟩⟩;obtain⟨p,hp,rfl⟩:=n5.1 hk;exact hM p hp hb
def pE(bd:Nat):Deferred:={target:=.collected bd,args:=#[]}
def Cx.withDs(X:Cx)(bd:Nat):Cx:={X with ds:=pE bd::X.ds}
def Xr(l N:Nat)(h0:H0)(D:aC)(mods:List Nat):Cx:=⟨some l,N,[],h0,h0.size,D,mods,none⟩
def P5{γ:Type}(h0:H0)(D:aC)(mods:List Nat)(Φ:γ→Prop)(Ψ:Code→γ→Prop)(Mx:γ→aF)(My:Code→γ→aF):Ending→Δ→Prop:=λe w'=>
 ∃b D',e=.returned (.bool b)∧(if b then ∃g,Φ g∧jH h0 h0.size D mods (Mx g) D' w' else ∃c g,Ψ c g∧jH h0 h0.size D mods (My c g) D' w')
theorem X6{c:Code}{A B:aF}{l:Nat}{r:Loop}{QQ:Exit→Act→Δ→Prop}(hr:X.r=some l)(hst:r.state=.ready)(h:WC P X Q c T (A++(l,.loop {r with state:=.busy})::B) W):
  ∀a w,Hl X T (A++(l,.loop r)::B) W a w→Exit.then (λa₁ w₁=>∃w₂,(Instr.beginRound l).run P w₁=.ok () w₂∧c.wpIn ((FW none).inRound l) 0 P Q a₁ w₂) QQ .normal a w:=by
 intro a w hh;obtain⟨h1,h2,h3,D,h4,h5,I⟩:=hh;have hb:=(h4.box (l,.loop r) Yf).1;refine⟨_,run_beginRound hb hst,?_⟩;have hHas:bO (A++(l,.loop r)::B) l (.loop r) (.loop {r with state:=.busy}) (A++(l,.loop {r with state:=.busy})::B):=.app .head;have hs:=h4.set (w':=w.putObj l (.loop {r with state:=.busy})) hHas ⟨C,C⟩ trivial;have:=h a _ ⟨h1,h2,h3,D,hs,h5,I.step (λ_ p hp=>zq Yw) (λ_=>mK ⟨C,C⟩ (n5.2 ⟨_,hHas.mem,C⟩)) hs.dom⟩;rw[hr]at this;exact this
theorem jT{γ:Type}{A B:aF}{l:Nat}{r:Loop}{Φ:γ→Prop}{Ψ:Code→γ→Prop}{Mx:γ→aF}{My:Code→γ→aF}(g:γ)(hΦ:Φ g)(hM:Mx g=A++(l,.loop {r with state:=.ready,pending:=none})::B)(hlo:X.lo=X.h0.size):
  ∀a w,Hl X T (A++(l,.loop r)::B) W a w→roundPost P l (P5 X.h0 X.D0 X.mods Φ Ψ Mx My) .normal a w:=by
 intro a w hh;obtain⟨h1,h2,h3,D,h4,h5,I⟩:=hh;have hb:=(h4.box (l,.loop r) Yf).1;refine⟨_,_,run_endRound none hb,true,D,C,g,hΦ,?_⟩;have hHas:bO (A++(l,.loop r)::B) l (.loop r) (.loop {r with state:=.ready,pending:=none}) (A++(l,.loop {r with state:=.ready,pending:=none})::B):=.app .head;have hs:=h4.set (w':=w.putObj l (.loop {r with state:=.ready,pending:=none})) hHas ⟨C,C⟩ trivial;rw[hM,←hlo];exact hs
theorem aIC{γ:Type}{A B:aF}{l:Nat}{r:Loop}{Φ:γ→Prop}{Ψ:Code→γ→Prop}{Mx:γ→aF}{My:Code→γ→aF}(c:Code)(g:γ)(hΨ:Ψ c g)(hM:My c g=A++(l,.loop {r with state:=.done,pending:=some c})::B)(hlo:X.lo=X.h0.size):
  ∀a w,Hl X T (A++(l,.loop r)::B) W a w→∃v w',(Instr.endRound l (some c)).run P w=.ok v w'∧P5 X.h0 X.D0 X.mods Φ Ψ Mx My (.returned v) w':=by
 intro a w hh;obtain⟨h1,h2,h3,D,h4,h5,I⟩:=hh;have hb:=(h4.box (l,.loop r) Yf).1;refine⟨_,_,run_endRound (some c) hb,false,D,C,c,g,hΨ,?_⟩;have hHas:bO (A++(l,.loop r)::B) l (.loop r) (.loop {r with state:=.done,pending:=some c}) (A++(l,.loop {r with state:=.done,pending:=some c})::B):=.app .head;have hs:=h4.set (w':=w.putObj l (.loop {r with state:=.done,pending:=some c})) hHas ⟨C,C⟩ trivial;rw[hM,←hlo];exact hs
def O0:List Tmp→List Γ→bZ→bZ
 |p::ps,v::vs,T=>O0 ps vs ((p,v)::T)
 |_,_,T=>T
theorem s5:∀(ps:List Tmp) (vs:List Γ) (tmps:Array Γ) (T:bZ),(∀s v,look T s=some v→tmps[s]?= some v)→(∀p∈ps,p<tmps.size)→
  ∀s v,look (O0 ps vs T) s=some v→((ps.zip vs).foldl (λtmps (p:Tmp×Γ)=>tmps.setIfInBounds p.1 p.2) tmps)[s]?= some v
 | [],vs,tmps,T,h,_,s,v,hs=>by cases vs<;>exact h s v hs
 |p::ps,[],tmps,T,h,_,s,v,hs=>h s v hs
 |p::ps,u::vs,tmps,T,h,hp,s,v,hs=>by
  refine s5 ps vs (tmps.setIfInBounds p u) ((p,u)::T) (λs v hs=>?_) (λq hq=>by simpa using hp q (GT _ hq)) s v hs;simp only[look]at hs;cases hb:Nat.beq p s with
  |true=>rw[hb]at hs;cases hs;obtain rfl:=wa hb;rw[Array.getElem?_setIfInBounds_self_of_lt (hp p zj)]
  |false=>rw[hb]at hs;rw[qp (λe=>by subst e;simp at hb)];exact h s v hs
theorem u7:∀(l:List (Tmp×Γ)) (tmps:Array Γ),(l.foldl (λtmps (p:Tmp×Γ)=>tmps.setIfInBounds p.1 p.2) tmps).size=tmps.size
 | [],_=>rfl
 |p::l,tmps=>by rw[yp,u7 l];simp
theorem yO{α γ:Type}{xs:List α}{enc:α→List Γ}{Dr:aC}{f:FuncId}{cap:List Γ}{gop:Operand}{ps:Array Tmp}{assign body:Code}
  (Φ:List α→γ→Prop) (Ψ:List α→Code→γ→Prop) (M:γ→aF) (g₀:γ) (hr:X.r=none) (hex:X.ex=none) (hmods:X.mods=[])
  (hg:ev T gop=some (.func (.func f) #[] cap.toArray)) (hit:DC P f cap Dr xs enc) (hDr:Dr∈W) (hps:∀x,(enc x).length=ps.size) (hpN:(ps.toList.all λp=>Nat.blt p X.N)=true) (h₀:Φ [] g₀) (hμ:M g₀=L)
  (hround:∀pre x g,(∃r,xs=pre++x::r)→Φ pre g→∀(l bd:Nat) (rec:Loop) (h0:H0) (D:aC),(∀D₁∈W,Le D₁ D)→rec.state=.ready→rec.pending=none→
   WC P (Xr l X.N h0 D ((M g++(l,Obj.loop rec)::[(bd,Obj.deferred (some []))]).map (·.1)))
    (Exit.then (λa₁ w₁=>∃w₂,(Instr.beginRound l).run P w₁=.ok () w₂∧body.wpIn ((FW none).inRound l) 0 P (roundPost P l (P5 h0 D ((M g++(l,Obj.loop rec)::[(bd,Obj.deferred (some []))]).map (·.1)) (Φ (pre++[x])) (Ψ (pre++[x]))
     (λg=>M g++(l,Obj.loop {rec with state:=.ready,pending:=none})::[(bd,Obj.deferred (some []))]) λc g=>M g++(l,Obj.loop {rec with state:=.done,pending:=some c})::[(bd,Obj.deferred (some []))])) a₁ w₂) λ_ _ _=>False)
    assign (O0 ps.toList (enc x) T) (M g++(l,Obj.loop rec)::[(bd,Obj.deferred (some []))]) (D::W))
  (hdone:∀g bd,Φ xs g→∀a w,Hl (X.withDs bd) T (M g++[(bd,Obj.deferred (some []))]) W a w→Q .normal a w)
  (hstop:∀pre c g bd,Ψ pre c g→WC P (X.withDs bd) Q c T (M g++[(bd,Obj.deferred (some []))]) W):WC P X Q (.rangeFunc gop ps assign body) T L W:=by
 intro a w hh;subst hμ;have hev:=hh.eval hg;obtain⟨h1,h2,h3,D,h4,h5,Z⟩:=hh;rw[hmods]at h4;refine wpIn_rangeFunc λfn _=>?_
 have hround':(FW X.r).round=none:=hr;rw[hround']
 let bd:=w.heap.size
 let l:=w.heap.size+1
 let I:Loop:={state:=.ready,pending:=none,fn,tmps:=a.tmps,params:=ps,assign,body,defers:=bd}
 let V:Δ:={w with heap:=w.heap.push (.deferred (some []))}
 let U:Δ:={V with heap:=V.heap.push (.loop I)}
 have Y:jH X.h0 X.lo X.D0 [] ((bd,Obj.deferred (some []))::M g₀) D V:=h4.push (.deferred (some [])) trivial;have O:jH X.h0 X.lo X.D0 [] ((l,Obj.loop I)::(bd,Obj.deferred (some []))::M g₀) D U:=by
  have:=Y.push (.loop I) trivial;have e:V.heap.size=l:=by simp[V,l]
  rw[e]at this;exact this
 have hperm:jH X.h0 X.lo X.D0 [] (M g₀++(l,Obj.loop I)::[(bd,Obj.deferred (some []))]) D U:=by
  refine O.sub (λp hp=>?_) ?_
  ·simp only[zd,zm,n4,yk]at hp ⊢
   rcases hp with hp|hp|hp
   ·exact zt (zt hp)
   ·exact zq hp
   ·exact zt (zq hp)
  ·have hn:=O.nd;simp only[yl,xg,zm,wn]at hn;simp only[ze,yl,tj,za,xg,zm,n4,yk,p_,wz,and_true];refine⟨hn.2.2,hn.1.1,λq hq r hr'=>?_⟩;rcases hr' with rfl|rfl
   ·rintro rfl;exact hn.1.2 hq
   ·rintro rfl;exact hn.2.1 hq
 refine⟨l,[pE bd],U,{target:=.fn (.func f) cap.toArray,args:=#[.func (.yield l) #[] #[]]},U,f,(.func (.yield l) #[] #[]::cap).toArray,U,run_enterLoop_outer fn a.tmps ps assign body,?_,λ_ _=>trivial,?_,λh=>vk,?_⟩
 ·simp only[resolve,Deferred.ofValue];have e:Array.map a.eval #[Operand.const (Value.func (Fn.yield l) #[] #[])]=#[.func (.yield l) #[] #[]]:=by simp[Act.eval]
  rw[e,hev];rfl
 ·simp only[invoke];rw[hit.1];simp
 ·refine eC.2 ((hit.2 X.lo l
   (λpre=>bw X.h0 X.lo X.D0 [] W (Φ pre) λg=>M g++(l,Obj.loop I)::[(bd,Obj.deferred (some []))])
   (λpre=>bw X.h0 X.lo X.D0 [] W (λcg:Code×γ=>Ψ pre cg.1 cg.2) λcg=>M cg.2++(l,Obj.loop {I with state:=.done,pending:=some cg.1})::[(bd,Obj.deferred (some []))])
   (λ_=>Vi) (λ_=>Vi) ?_ D U O.dom (h5 Dr hDr) ⟨g₀,h₀,hperm,h5,(λ_ h=>wg),(λ_ _ h=>wg)⟩).mono ?_)
  ·rintro pre x β Dx wx hx hdx ⟨g,hΦ,hst,hDs,hβ,hM⟩ hβs hle;have hbox:=(hst.box (l,Obj.loop I) Yf).1;refine⟨fn,_,assign,body,run_yield hbox (by simpa using hps x),?_⟩;refine(roundIn_of_wpIn (F:=FW none) zy (R:=P5 (hd wx) Dx ((M g++(l,Obj.loop I)::[(bd,Obj.deferred (some []))]).map (·.1)) (Φ (pre++[x])) (Ψ (pre++[x]))
     (λg=>M g++(l,Obj.loop {I with state:=.ready,pending:=none})::[(bd,Obj.deferred (some []))]) λc g=>M g++(l,Obj.loop {I with state:=.done,pending:=some c})::[(bd,Obj.deferred (some []))]) ?_).mono ?_
   ·have hw:=hround pre x g hx hΦ l bd I (hd wx) Dx hDs C C;have ht:(ps.zip (enc x).toArray).foldl (λtmps (t,a)=>tmps.setIfInBounds t a) a.tmps=(ps.toList.zip (enc x)).foldl (λtmps (p:Tmp×Γ)=>tmps.setIfInBounds p.1 p.2) a.tmps:=by
     rw[←Array.foldl_toList];simp
    have hpN':∀p∈ps.toList,p<a.tmps.size:=λp hp=>by rw[h1];simpa [Nat.blt_eq]using yu.1 hpN p hp
    refine hw {tmps:=_,defers:=[]} wx ⟨?_,λs v hs=>?_,C,Dx,⟨zk _,zk _,λ_ _ _=>C,λ_ _=>C,hst.agr,λp hp=>?_,hst.nd,hst.fz,λe he=>yi he⟩,λD₁ hD₁=>?_,zy⟩
    ·show((ps.zip (enc x).toArray).foldl _ a.tmps).size=X.N;rw[ht,u7];exact h1
    ·show((ps.zip (enc x).toArray).foldl _ a.tmps)[s]?= some v;rw[ht];exact s5 _ _ _ _ h2 hpN' s v hs
    ·obtain⟨p1,p2,p3⟩:=hst.box p hp;exact⟨p1,p2,zt (n5.2 ⟨p,hp,C⟩)⟩
    ·rcases zm.1 hD₁ with rfl|hD₁
     ·exact Le.refl _
     ·exact hDs D₁ hD₁
   ·rintro e w' ⟨b,D',rfl,hb⟩;have fin:∀μ',jH (hd wx) wx.heap.size Dx ((M g++(l,Obj.loop I)::[(bd,Obj.deferred (some []))]).map (·.1)) μ' D' w'→jH X.h0 X.lo X.D0 [] μ' D' w'∧O1 β Dx wx D' w'∧(∀D₁∈W,Le D₁ D')∧(∀p∈μ',p.1∉β):=by
     intro μ' hs';refine⟨hst.round hs',jH.roundHigh hst.agr hs' hβs hM,λD₁ hD₁=>(hDs D₁ hD₁).trans (iJ hst.agr hs'),λp hp hpb=>?_⟩;rcases(hs'.box p hp).2.2 with h|h
     ·have:=hβs _ hpb;omega
     ·obtain⟨q,hq,he⟩:=n5.1 h;exact hM q hq (by rw[he];exact hpb)
    refine⟨b,D',C,?_⟩;cases b with
    |true=>
     obtain⟨g',hg',hs'⟩:=hb;obtain⟨f1,f2,f3,f4⟩:=fin _ hs';exact⟨f1.dom,f2,g',hg',f1,f3,hβ,f4⟩
    |false=>
     obtain⟨c',g',hg',hs'⟩:=hb;obtain⟨f1,f2,f3,f4⟩:=fin _ hs';exact⟨f1.dom,f2,(c',g'),hg',f1,f3,hβ,f4⟩
  ·rintro e w' ⟨v,D',rfl,hd,hend⟩;have post:∀(g:γ) (r:Loop),jH X.h0 X.lo X.D0 [] (M g++(l,Obj.loop r)::[(bd,Obj.deferred (some []))]) D' w'→(∀D₁∈W,Le D₁ D')→
     Hl (X.withDs bd) T (M g++[(bd,Obj.deferred (some []))]) W {a with defers:=[pE bd]++a.defers} (w'.putObj l (.loop {r with state:=.exhausted})):=by
    intro g r hs hD';have hHas:bO (M g++(l,Obj.loop r)::[(bd,Obj.deferred (some []))]) l (.loop r) (.loop {r with state:=.exhausted}) (M g++(l,Obj.loop {r with state:=.exhausted})::[(bd,Obj.deferred (some []))]):=.app .head;have hs':=hs.set (w':=w'.putObj l (.loop {r with state:=.exhausted})) hHas ⟨C,C⟩ trivial;have hs'':=hs'.sub (μ':=M g++[(bd,Obj.deferred (some []))]) (λp hp=>by
     rcases zd.1 hp with hp|hp
     ·exact yw _ hp
     ·exact LT _ (GT _ hp)) (by
     have hn:=hs'.nd;rw[ze,za]at hn ⊢
     simp only[yl]at hn;exact⟨hn.1,(xg.1 hn.2.1).2,λq hq r hr=>hn.2.2 q hq r (GT _ hr)⟩)
    exact⟨h1,h2,zn (pE bd:: ·) h3,D',by show jH X.h0 X.lo X.D0 X.mods _ _ _;rw[hmods];exact hs'',hD',fw⟩
   rcases hend with⟨g,hΦ,hs,hDs,_,_⟩|⟨pre,⟨c,g⟩,hΨ,hs,hDs,_,_⟩
   ·have hb:=(hs.box (l,Obj.loop I) Yf).1;exact⟨none,_,run_endLoop hb (by simp[I]),hdone g bd hΦ _ _ (post g I hs hDs)⟩
   ·have hb:=(hs.box (l,Obj.loop {I with state:=.done,pending:=some c}) Yf).1;refine⟨some c,_,run_endLoop hb Yf,?_⟩;have:=hstop pre c g bd hΨ _ _ (post g _ hs hDs);exact this

def d4(P:Program)(fn:Func)(R:Ending→Δ→Prop):Exit→Act→Δ→Prop
 |.normal,a,w=>LeavesInM (FW none) 0 P fn a.tmps R a.defers .returning w
 |.ret,a,w=>LeavesInM (FW none) 0 P fn a.tmps R a.defers .returning w
 |_,_,_=>False
theorem QU{f:FuncId}{fn:Func}{c:Code}{args:List Γ}{D:aC}{post:aC→Γ→Prop}(N:Nat)(hf:P.funcs[f]?= some fn)(hn:(fn.name== "runtime.NumGoroutine")=false)(hb:fn.body=some c)(hN:fn.ntmps=N)(hsz:Nat.ble args.length N=true)
  (h:∀h0:H0,WC P ⟨none,N,[],h0,h0.size,D,[],none⟩ (d4 P fn (sN ⟨none,N,[],h0,h0.size,D,[],none⟩ λD' v _=>post D' v)) c (kA 0 args) [] [D]):Fn P f args.toArray D post:=by
 refine⟨EF.of hf hn hb,λw hw=>?_⟩;subst hN;have hsz:=vf hsz;have hq:∀e a w',d4 P fn (sN ⟨none,fn.ntmps,[],hd w,w.heap.size,D,[],none⟩ λD' v _=>post D' v) e a w'→bodyPostM (FW none) 0 P fn (sN ⟨none,fn.ntmps,[],hd w,w.heap.size,D,[],none⟩ λD' v _=>post D' v) e a w':=by
  intro e a w' he;cases e<;>first|exact he|exact he.elim
 have hwp:=h (hd w) {tmps:=args.toArray++Array.replicate (fn.ntmps-args.toArray.size) undef,defers:=[]} w ⟨xw,λs v hs=>by
  obtain⟨_,h2⟩:=gV args 0 s v hs;have hl:=(yx.1 h2).1;simp only[uw]at h2 hl;show(args.toArray++_)[s]?= some v;rw[sb uu];simpa using h2,C,D,⟨zk _,zk _,(λ_ _ _=>C),(λ_ _=>C),hw,Yi,wz,Yi,λe he=>yi he⟩,(λD₁ h1=>fu),zy⟩
 refine(eC (r:=none) (n:=0)).1 ((callsIn_of_wp_marks hf hb zy (wpIn_mono hwp hq) C).mono ?_);rintro e w' ⟨v,D',μ',rfl,hs,hp⟩;exact⟨v,D',C,hs.sub (by intro p hp;cases hp) wz,hp⟩
theorem yI{fn:Func}{post:aC→Γ→aF→Prop}{e:Exit}(he:(match e with|.normal=>true|.ret=>true|_=>false)=true){rs:List ResultVar}{vs:List Γ}(hds:X.ds=[])(hr:fn.results=rs.toArray)(h:N3 P X T L rs vs)
  (hp:∀D,(∀D₁∈W,Le D₁ D)→post D (sR vs) L):∀a w,Hl X T L W a w→d4 P fn (sN X post) e a w:=by
 intro a w hh;have hrun:=jP hh hr h;obtain⟨h1,h2,h3,D,h4,h5,I⟩:=hh;have:LeavesInM (FW none) 0 P fn a.tmps (sN X post) a.defers .returning w:=by
  rw[h3,hds];exact⟨_,hrun,_,D,L,C,h4,hp D h5⟩
 cases e<;>first|exact this|cases he
theorem I8{fn:Func}{bd:Nat}{post:aC→Γ→aF→Prop}{e:Exit}(he:(match e with|.normal=>true|.ret=>true|_=>false)=true){rs:List ResultVar}{vs:List Γ}{A:aF}(hds:X.ds=[])(hr:fn.results=rs.toArray)(h:N3 P X T (A++[(bd,Obj.deferred none)]) rs vs)
  (hp:∀D,(∀D₁∈W,Le D₁ D)→post D (sR vs) (A++[(bd,Obj.deferred none)])):∀a w,Hl (X.withDs bd) T (A++[(bd,Obj.deferred (some []))]) W a w→d4 P fn (sN X post) e a w:=by
 intro a w hh;obtain⟨h1,h2,h3,D,h4,h5,I⟩:=hh;have hHas:bO (A++[(bd,Obj.deferred (some []))]) bd (.deferred (some [])) (.deferred none) (A++[(bd,Obj.deferred none)]):=.app .head;have hs:=h4.set (w':=w.putObj bd (.deferred none)) hHas ⟨C,C⟩ trivial;have hh':Hl X T (A++[(bd,Obj.deferred none)]) W {a with defers:=[]} (w.putObj bd (.deferred none)):=
  ⟨h1,h2,hds.symm,D,hs,h5,I.step (X:=X.withDs bd) (λ_ p hp=>zq Yw) (λ_=>mK ⟨C,C⟩ (n5.2 ⟨_,hHas.mem,C⟩)) hs.dom⟩
 have hrun:=jP hh' hr h;have hb:=(h4.box (bd,Obj.deferred (some [])) Yf).1;have:LeavesInM (FW none) 0 P fn a.tmps (sN X post) a.defers .returning w:=by
  have h3':a.defers=[pE bd]:=h3.trans fq;rw[h3'];exact⟨Yf,zq ⟨bd,_,C,run_takeDeferred hb,_,hrun,_,D,_,C,hs,hp D h5⟩⟩
 cases e<;>first|exact this|cases he

theorem NS{α:Type}{f:FuncId}{fn:Func}{c:Code}{cap:List Γ}{Dr:aC}{xs:List α}{enc:α→List Γ}(N:Nat)(hf:P.funcs[f]?= some fn)(hn:(fn.name== "runtime.NumGoroutine")=false)(hb:fn.body=some c)(hN:fn.ntmps=N)(hsz:Nat.ble (cap.length+1) N=true)
  (h:∀(lo l:Nat) (J Jx:List α→xL),(∀pre,k9 lo (J pre))→(∀pre,k9 lo (Jx pre))→
   (∀pre x β D w,(∃r,xs=pre++x::r)→Q3 lo D w→J pre β D w→(∀b∈β,b<w.heap.size)→Le Dr D→
    jS P l (enc x) w λb D' w'=>Q3 lo D' w'∧O1 β D w D' w'∧(if b then J (pre++[x]) β D' w' else Jx (pre++[x]) β D' w'))→
   WC P (Xj N lo (J [])) (bodyPost P fn (ES lo [Dr] λ_ J' _=>J'=J xs∨∃pre,J'=Jx pre)) c (kA 0 (.func (.yield l) #[] #[]::cap)) [] [Dr]):DC P f cap Dr xs enc:=by
 refine⟨EF.of hf hn hb,λlo l J Jx hs hsx hY D w hd hle hJ=>?_⟩;have hF:=j4 (L:=[]) N hf hn hb hN (by simpa using hsz) (h lo l J Jx hs hsx hY);refine(hF.2 w ⟨D,⟨ra _,hd.2,λb hb=>absurd hb (pg _),λb hb=>absurd hb (pg _),hd.1,Yi,wz,Yi,λe he=>by cases he⟩,λD₁ h1=>?_,hs [],hJ⟩).mono ?_
 ·simp only[yf]at h1;subst h1;exact hle
 ·rintro e w' ⟨v,J',μ',rfl,⟨D',hst,hds,hex⟩,hpost⟩;refine⟨v,D',C,hst.dom,?_⟩;have hJ':J' [] D' w':=hex.1.own _ [] D' w' hex.2 (λb hb=>by cases hb);rcases hpost with rfl|⟨pre,rfl⟩
  ·exact zq hJ'
  ·exact zt ⟨pre,hJ'⟩
theorem Da{t e:Θ}{n b:Nat}(ho:G[ix]?= some ⟨some d,.slice t x none none none,ty,pos,aft,g⟩)(ht:P.underlying t=some (.array n e))(hs:TS P e 1)(hx:ev T x=some (qP b))
  (hN:Nat.blt d X.N=true) (hg:dF G T g) (kk:WL P X H G K Q os ((d,qS b n n)::T) L W):WL P X H G K Q ((fl,ix)::os) T L W:=
 cB ho C C hN hg (λρ hρ w'=>by
  simp only[execOp,hρ x _ hx,vy];unfold Instr.sliceAt Instr.sureAddr Instr.sliceBounds;simp only[Ω,TU.of ht w',Ξ,hs w',ε,pure_bind,ug,uw];split<;>simp[Addr.add]) kk
theorem Fi{k k':IntKind}{s t:Θ}{n:Int}(ho:G[ix]?= some ⟨some d,.convert s t x,ty,pos,aft,g⟩)(hr:∀w,(Go.convert s t (.int k n)).run P w=.ok (.int k' n) w)(hx:ev T x=some (.int k n))(hN:Nat.blt d X.N=true)(hg:dF G T g)
  (kk:WL P X H G K Q os ((d,.int k' n)::T) L W):WL P X H G K Q ((fl,ix)::os) T L W:=
 cB ho C C hN hg (λρ hρ w'=>by simp only[execOp,hρ x _ hx,Ω,hr w',Ξ,ε]) kk
theorem j3{t t':Θ}{b:Bool}(ho:G[ix]?= some ⟨some d,.binOp .eql t x y t',ty,pos,aft,g⟩)(hr:∀w,((do eqGuard .eql t x y u v;binOp .eql t u v):Sem Γ).run P w=.ok (.bool b) w)(hx:ev T x=some u)(hy:ev T y=some v)(hN:Nat.blt d X.N=true)(hg:dF G T g)
  (kk:WL P X H G K Q os ((d,.bool b)::T) L W):WL P X H G K Q ((fl,ix)::os) T L W:=
 cB ho C C hN hg (λρ hρ w'=>ag) kk
theorem dr{t t':Θ}{b:Bool}(ho:G[ix]?= some ⟨some d,.binOp .neq t x y t',ty,pos,aft,g⟩)(hr:∀w,((do eqGuard .neq t x y u v;binOp .neq t u v):Sem Γ).run P w=.ok (.bool b) w)(hx:ev T x=some u)(hy:ev T y=some v)(hN:Nat.blt d X.N=true)(hg:dF G T g)
  (kk:WL P X H G K Q os ((d,.bool b)::T) L W):WL P X H G K Q ((fl,ix)::os) T L W:=
 cB ho C C hN hg (λρ hρ w'=>ag) kk
theorem S9{t:Θ}{a b:Bool}(ht:P.underlying t=some .bool)(w:Δ):(Op.equal t (.bool a) (.bool b)).run P w=.ok (a==b) w:=by
 have h:(Op.equalIn (9999+1) t (.bool a) (.bool b)).run P w=.ok (a==b) w:=by
  rw[Op.equalIn,Ω,TU.of ht w];rfl
 exact h
theorem Xcv{t t':Θ}{a b:Bool}(ho:G[ix]?= some ⟨some d,.binOp .eql t x y t',ty,pos,aft,g⟩)(ht:P.underlying t=some .bool)(hx:ev T x=some (.bool a))(hy:ev T y=some (.bool b))(hN:Nat.blt d X.N=true)(hg:dF G T g)
  (kk:WL P X H G K Q os ((d,.bool (a==b))::T) L W):WL P X H G K Q ((fl,ix)::os) T L W:=
 j3 ho (λw=>by
  have hg:(eqGuard .eql t x y (.bool a) (.bool b)).run P w=.ok () w:=rfl;rw[Ω,hg];show((do Pure.pure (Value.bool (←Op.equal t (.bool a) (.bool b)))):Sem Γ).run P w=_;rw[Ω,S9 ht];rfl) hx hy hN hg kk
theorem CR{t t':Θ}{a b:Bool}(ho:G[ix]?= some ⟨some d,.binOp .neq t x y t',ty,pos,aft,g⟩)(ht:P.underlying t=some .bool)(hx:ev T x=some (.bool a))(hy:ev T y=some (.bool b))(hN:Nat.blt d X.N=true)(hg:dF G T g)
  (kk:WL P X H G K Q os ((d,.bool (!(a==b)))::T) L W):WL P X H G K Q ((fl,ix)::os) T L W:=
 dr ho (λw=>by
  have hg:(eqGuard .neq t x y (.bool a) (.bool b)).run P w=.ok () w:=rfl;rw[Ω,hg];show((do Pure.pure (Value.bool (!(←Op.equal t (.bool a) (.bool b))))):Sem Γ).run P w=_;rw[Ω,S9 ht];rfl) hx hy hN hg kk
theorem TE{n:Nat}(h:∀a w,Hl X T L W a w→Q .normal a w):WC P X Q (.label n) T L W:=λa w hh=>wpIn_label (h a w hh)
theorem JA{t e:Θ}{n:Nat}{l:List Int}{k:IntKind}{i m:Int}(ho:G[ix]?= some ⟨some d,.index t x y,ty,pos,aft,g⟩)(ht:P.underlying t=some (.array n e))(ha:TA P e false)(hs:TS P e 1)(hx:ev T x=some (.agg (ints l).toArray))(hy:ev T y=some (.int k i))(h0:0≤i)(h1:i<n)(hm:l[i.toNat]?= some m)
  (hN:Nat.blt d X.N=true) (hg:dF G T g) (kk:WL P X H G K Q os ((d,qI m)::T) L W):WL P X H G K Q ((fl,ix)::os) T L W:=
 cB ho C C hN hg (λρ hρ w'=>by
  have hg:(ints l).toArray[i.toNat]?= some (qI m):=by simpa using dA hm
  simp only[execOp,hρ x _ hx,hρ y _ hy];unfold Instr.index asIntOf part;simp only[Ω,TU.of ht w',Ξ,hs w',ha w',ε,pure_bind,h0,h1,vl,yo,xp,wt,xx,hg]) kk
theorem eL(l m:List Int):ints l++ints m=ints (l++m):=by simp[ints]
theorem Ybg{t f k ft:Nat}{cs:List Γ}{fs:Array Field}(ho:G[ix]?= some ⟨some d,.field t x f,ty,pos,aft,g⟩)(ht:P.underlying t=some (.struct fs))(hk:(fs[f]?).map (λf=>(f.offset,f.type))=some (k,ft))(ha:TA P ft false)(hx:ev T x=some (.agg cs.toArray))(hv:cs[k]?= some v)
  (hN:Nat.blt d X.N=true) (hg:dF G T g) (kk:WL P X H G K Q os ((d,v)::T) L W):WL P X H G K Q ((fl,ix)::os) T L W:=
 cB ho C C hN hg (λρ hρ w'=>by
  cases hf:fs[f]? with
  |none=>simp[hf]at hk
  |some f0=>
   simp only[hf,xo,uk,ux]at hk;obtain⟨rfl,rfl⟩:=hk;have hv':cs.toArray[f0.offset]?= some v:=by simpa using hv
   simp only[execOp,hρ x _ hx];unfold Instr.field asAgg part;simp only[Ω,TU.of ht w',Ξ,hf,ha w',ε,pure_bind,wt,xx,hv']) kk
theorem iW{t:Θ}{D₁:aC}{b k:Nat}{cs:List Γ}(ho:G[ix]?= some ⟨some d,.load t x,ty,pos,aft,g⟩)(ha:TA P t false)(hx:ev T x=some (.pointer (some ⟨b,k,none⟩)))(hA:At D₁ b 0 cs)(hD:D₁∈W)(hv:cs[k]?= some v)(hb:b∉H)
  (hN:Nat.blt d X.N=true) (hg:dF G T g) (kk:WL P X H G K Q os ((d,v)::T) L W):WL P X H G K Q ((fl,ix)::os) T L W:=
 eE (o:=0) (k:=k) ho ha (by rw[wo];exact hx) hA hD hv hb hN hg kk
theorem GG{γ:Type}{c:Code}{N lo:Nat}{J0:xL}(m:γ→Nat)(I:γ→Prop)(J:γ→xL)(ch:γ→bZ)(rest:bZ)(M:γ→aF)(E:γ→List aC)(g₀:γ)(h₀:I g₀)(hJ:J0=J g₀)(hch:FM T (ch g₀))(hrest:FM T rest)(hμ:(M g₀).Sublist L)(hD:∀D∈E g₀,∃D'∈W,Le D D')
  (round:∀g,I g→WC P (Xj N lo (J g)) (Exit.then (λa w=>∃g',I g'∧m g'<m g∧Hl (Xj N lo (J g')) (ch g'++rest) (M g') (E g') a w) Q) c (ch g++rest) (M g) (E g)):WC P (Xj N lo J0) Q (.loop c) T L W:=by
 subst hJ
 let p:Act→Δ→Nat→Prop:=λa w n=>∃g,I g∧m g=n∧Hl (Xj N lo (J g)) (ch g++rest) (M g) (E g) a w
 have ex:∀a w,(∃n,p a w n)→∃n,p a w n∧∀k,p a w k→n≤k:=by
  intro a w ⟨n,hn⟩;induction n using Nat.strongRecOn with
  |_ n ih=>
   by_cases h:∃k,k<n∧p a w k
   ·obtain⟨k,hk,hp⟩:=h;exact ih k hk hp
   ·exact⟨n,hn,λk hk=>Nat.le_of_not_lt λhl=>h ⟨k,hl,hk⟩⟩
 intro a w hh;refine wpIn_loop (λa w=>∃n,p a w n) (λa w=>open Classical in if h:∃n,p a w n then(ex a w h).choose else 0) ⟨_,g₀,h₀,C,hh.weak (FM.app hch hrest) hμ hD⟩ ?_;intro a w hI;obtain⟨⟨g,hg,hm,hst⟩,hmin⟩:=(ex a w hI).choose_spec;refine wpIn_mono (round g hg a w hst) λe a' w' hq=>?_
 cases e with
 |normal=>
  obtain⟨g',hg',hlt,hst'⟩:=hq;have hI':∃n,p a' w' n:=⟨_,g',hg',C,hst'⟩
  refine⟨hI',?_⟩;simp only[dif_pos hI',dif_pos hI];have:=(ex a' w' hI').choose_spec.2 _ ⟨g',hg',C,hst'⟩;omega
 |_=>exact hq
theorem xK{γ:Type}{N lo:Nat}{J1:xL}{m:γ→Nat}{I:γ→Prop}{J:γ→xL}{ch:γ→bZ}{rest:bZ}{M:γ→aF}{E:γ→List aC}{g:γ}(n:Nat)(g':γ)(h1:I g')(h2:m g'<m g)(hJ:J1=J g')(hch:FM T (ch g'))(hn:P6 n T=true)(hr:T.drop n=rest)(hμ:(M g').Sublist L)(hD:∀D∈E g',∃D'∈W,Le D D'):
  ∀a w,Hl (Xj N lo J1) T L W a w→Exit.then (λa w=>∃g',I g'∧m g'<m g∧Hl (Xj N lo (J g')) (ch g'++rest) (M g') (E g') a w) Q .normal a w:=by
 subst hJ;intro a w hh;refine⟨g',h1,h2,?_⟩;have h3:=hh.weak (σ':=ch g') hch hμ hD;refine⟨h3.1,λs v hs=>?_,h3.2.2⟩;rcases EE hs with hs|hs
 ·exact h3.2.1 s v hs
 ·subst hr;exact hh.2.1 s v (W2 n T hn s v hs)
theorem XN{J J1 J0:xL}{l N lo:Nat}{c:Operand}{xs:Array Operand}{ats:Array Θ}{vs:List Γ}(ho:G[ix]?= some ⟨some d,.call {callee:=.value c,args:=xs,argTypes:=ats},ty,pos,aft,g⟩)
  (hc:ev T c=some (.func (.yield l) #[] #[])) (hxs:CM T xs.toList=some vs) (hfl:fl=false) (I:k9 lo J1) (O:k9 lo J0)
  (hY:∀D w,Q3 lo D w→J (L.map (·.1)) D w→(∀p∈L,p.1<w.heap.size)→(∀D₁∈W,Le D₁ D)→jS P l vs w λb D' w'=>Q3 lo D' w'∧O1 (L.map (·.1)) D w D' w'∧(if b then J1 (L.map (·.1)) D' w' else J0 (L.map (·.1)) D' w'))
  (hN:Nat.blt d N=true) (hg:dF G T g)
  (kk:∀b J',J'=(if b=true then J1 else J0)→WL P (Xj N lo J') H G K Q os ((d,.bool b)::T) L W):WL P (Xj N lo J) H G K Q ((fl,ix)::os) T L W:=
 Yau (X:=Xj N lo J) ho hc hxs C hfl C C I O hY hN hg (kk true J1 C) (kk false J0 C)
theorem rM{c:Code}(k:(L.map (·.1)).Nodup→WC P X Q c T L W):WC P X Q c T L W:=λa w hh=>k (by obtain⟨_,_,_,D,h4,_⟩:=hh;exact h4.nd) a w hh
theorem fG{t:Θ}{b n:Nat}{vs us:List Γ}{e:Θ}{μ':aF}(ho:G[ix]?= some ⟨none,.store t x y,ty,pos,aft,g⟩)(hx:ev T x=some (qP b))(hy:ev T y=some v)(hv:v.cells=us.toArray)(hs:TS P t n)
  (hn:us.length=n) (hl:vs.length=n) (hm:bO L b (.cells vs.toArray e (0,0)) (.cells us.toArray e (0,0)) μ') (hc1:∀u∈us,cell1 u=true) (hg:dF G T g)
  (kk:WL P X H G K Q os T μ' W):WL P X H G K Q ((false,ix)::os) T L W:=
 dD ho hx hy hv (by rw[hn];exact hs) hm Yd (by rw[List.take_zero,wo,wl Yd];simp) hc1 hg kk
theorem _root_.Go.Fs.Zaa{t:Θ}{b:Nat}{n:Nat}{vs:List Γ}{us:List Γ}{e:Θ}{μ':aF}(e9:(G[ix]?,ev T x,ev T y,v.cells)=(some ⟨none,.store t x y,ty,pos,aft,g⟩,some (qP b),some v,us.toArray))(hs:TS P t n)(hm:bO L b (.cells vs.toArray e (0,0)) (.cells us.toArray e (0,0)) μ')(kk:WL P X H G K Q os T μ' W)(hn:us.length=n:=by exact Yb)(hl:vs.length=n:=by exact Yb)(hc1:∀u∈us,cell1 u=true:=by exact Yh)(hg:dF G T g:=by exact zy):WL P X H G K Q ((false,ix)::os) T L W:=fG (zn (λz=>z.1) e9) (zn (λz=>z.2.1) e9) (zn (λz=>z.2.2.1) e9) (zn (λz=>z.2.2.2) e9) hs hn hl hm hc1 hg kk
theorem _root_.Go.Fs.Zab{t:Θ}{b:Nat}{n:Nat}{vs:List Γ}{us:List Γ}{e:Θ}{μ':aF}(e9:(G[ix]?,ev T x,ev T y,v.cells)=(some ⟨none,.store t x y,ty,pos,aft,g⟩,some (qP b),some v,us.toArray))(hs:TS P t n)(hm:bO L b (.cells vs.toArray e (0,0)) (.cells us.toArray e (0,0)) μ')(hc1:∀u∈us,cell1 u=true)(kk:WL P X H G K Q os T μ' W)(hn:us.length=n:=by exact Yb)(hl:vs.length=n:=by exact Yb)(hg:dF G T g:=by exact zy):WL P X H G K Q ((false,ix)::os) T L W:=fG (zn (λz=>z.1) e9) (zn (λz=>z.2.1) e9) (zn (λz=>z.2.2.1) e9) (zn (λz=>z.2.2.2) e9) hs hn hl hm hc1 hg kk
theorem cG{t e tr e':Θ}{n sz:Nat}{cells:List Γ}{ν:aF}{ats:Array Θ}(ho:G[ix]?= some ⟨some d,.call {callee:=.builtin .len,args:=#[x],argTypes:=ats},tr,pos,aft,g⟩)(ht:P.underlying t=some (.slice e))(hx:ev T x=some v)(hS:bM e' sz v n cells ν)(hat:ats[0]?= some t)
  (hN:Nat.blt d X.N=true) (hg:dF G T g) (kk:WL P X H G K Q os ((d,qI (n:Int))::T) L W):
  WL P X H G K Q ((fl,ix)::os) T L W:=
 cB ho C C hN hg (λρ hρ w'=>by
  have hx':=hρ x _ hx;rcases hS with⟨a,rfl,rfl,_⟩|⟨b,cap,junk,rfl,_⟩
  ·simp[Builtin.len_,hat,hx',TU.of ht w',goInt,go_sem]
  ·simp[Builtin.len_,hat,hx',TU.of ht w',goInt,go_sem]) kk
theorem Hl.dropBoxes{a:Act}{w:Δ}(n:Nat)(h:Hl X T L W a w):Hl X T (L.drop n) W a w:=by
 obtain⟨h1,h2,h3,D,h4,h5,I⟩:=h;have hμ:(L.drop n).Sublist L:=List.drop_sublist n L;exact⟨h1,h2,h3,D,h4.sub (λp hp=>hμ.mem hp) ((hμ.map (·.1)).nodup h4.nd),h5,I.step (λ_ p hp=>zq (n5.2 ⟨p,hμ.mem hp,C⟩)) (λ_=>sd.refl _ _ _) h4.dom⟩
theorem bM.cells1{e:Θ}{sz n:Nat}{cells:List Γ}{ν:aF}(h:bM e sz v n cells ν):v.cells=[v].toArray:=by
 rcases h with⟨a,rfl,_⟩|⟨b,cap,junk,rfl,_⟩<;>rfl
theorem bM.cell1{e:Θ}{sz n:Nat}{cells:List Γ}{ν:aF}(h:bM e sz v n cells ν):∀u∈[v],Fs.cell1 u=true:=by
 rcases h with⟨a,rfl,_⟩|⟨b,cap,junk,rfl,_⟩<;>simp[Fs.cell1]

theorem oQ{b:Frame}{a:Act}{k:List Item}{cs:List Frame}{w:Δ}{c:Code}:step P (lone (b.atR a (.code (.scope c)::k)) cs w)=.next (lone (b.atR a (.code c::.inScope c::k)) cs w):=
 step_lone_go (by simp[stepG,stepG.exec,Frame.atR])
theorem LG{b:Frame}{a:Act}{k:List Item}{cs:List Frame}{w:Δ}{c:Code}:step P (lone (b.atR a (.inScope c::k)) cs w)=.next (lone (b.atR a k) cs w):=
 step_lone_go (by simp[stepG,stepG.exec,Frame.atR])
def DM(Q:Exit→Act→Δ→Prop):Exit→Act→Δ→Prop
 |.goto _,_,_=>False
 |e,a,w=>Q e a w
theorem NP.ngt{Q:Exit→Act→Δ→Prop}(h:NP Q):NP (DM Q):=λc a w q=>h c a w q
theorem PI.ngt{Q:Exit→Act→Δ→Prop}(h:PI Q):PI (DM Q):=λc a b w d q=>h c a b w d q
theorem YY{F:Fence}{n:Nat}{c:Code}{a:Act}{w:Δ}(h:c.wpIn F n P (DM Q) a w):(Code.scope c).wpIn F n P Q a w:=by
 intro b k cs hro hb hr;have h0:(lone (b.atR a (.code (.scope c)::k)) cs w).fenced P F:=fenced_calm hb hr C;obtain⟨e,a₁,w₁,hq,harr⟩:=h b (.inScope c::k) cs hro hb hr;cases e with
 |normal=>exact⟨.normal,a₁,w₁,hq,.head h0 oQ (StepsIn.trans harr (.one (fenced_calm hb hr C) LG))⟩
 |exit id'=>
  have hx:exitTo id' (.inScope c::k)=exitTo id' k:=by simp[exitTo]
  exact⟨.exit id',a₁,w₁,hq,λk' hk=>.head h0 oQ (harr.1 k' (by rw[hx];exact hk)),
   λhr' hk=>let ⟨k₁,h1,h2⟩:=harr.2 hr' (by rw[hx];exact hk);⟨k₁,h1,.head h0 oQ h2⟩⟩
 |goto l=>exact hq.elim
 |ret=>exact⟨_,a₁,w₁,hq,.of_steps (.one h0 oQ) harr⟩
 |panic ch=>exact⟨_,a₁,w₁,hq,.of_steps (.one h0 oQ) harr⟩
 |outgrown=>exact⟨_,a₁,w₁,hq,.of_steps (.one h0 oQ) harr⟩
theorem Tt{c:Code}(h:WC P X (DM Q) c T L W):WC P X Q (.scope c) T L W:=λa w hh=>YY (h a w hh)
theorem H5(h:∀a w,Hl X T L W a w→Q .normal a w):∀a w,Hl X T L W a w→DM Q .normal a w:=h
theorem i6(h:∀a w,Hl X T L W a w→Q .ret a w):∀a w,Hl X T L W a w→DM Q .ret a w:=h
theorem bB(μ':aF)(h:L=μ')(k:WL P X H G K Q os T μ' W):WL P X H G K Q os T L W:=h▸k
theorem _root_.Go.Fs.Zad(μ':aF)(h:L=μ')(k:WL P X H G K Q os T μ' W):WL P X H G K Q os T L W:=bB μ' h k
theorem NG{c:Code}(μ':aF)(h:L=μ')(k:WC P X Q c T μ' W):WC P X Q c T L W:=h▸k
theorem Sl.cell1{α:Type}{R:Rd α}{D:aC}{sz:Nat}{v:Γ}{xs:List α}(h:Sl D R sz v xs):∀u∈[v],Fs.cell1 u=true:=by
 obtain⟨a,cap,rfl,_⟩:=h;simp[Fs.cell1]
open Go.Proofs Tryz

theorem aV:prog.follows .mixedOrders=true:=Yg
theorem _root_.Go.Fs.U3:type_of% underlying3:=underlying3
theorem _root_.Go.Fs.U4:type_of% underlying4:=underlying4
theorem _root_.Go.Fs.U5:type_of% underlying5:=underlying5
theorem _root_.Go.Fs.U9:type_of% underlying9:=underlying9
theorem _root_.Go.Fs.U20:type_of% underlying20:=underlying20
theorem _root_.Go.Fs.U22:type_of% underlying22:=underlying22
theorem _root_.Go.Fs.U35:type_of% underlying35:=underlying35
theorem _root_.Go.Fs.U36:type_of% underlying36:=underlying36
theorem _root_.Go.Fs.U39:type_of% underlying39:=underlying39
theorem _root_.Go.Fs.U40:type_of% underlying40:=underlying40
theorem _root_.Go.Fs.U43:type_of% underlying43:=underlying43
theorem _root_.Go.Fs.U44:type_of% underlying44:=underlying44
theorem _root_.Go.Fs.U47:type_of% underlying47:=underlying47
theorem _root_.Go.Fs.U48:type_of% underlying48:=underlying48
theorem _root_.Go.Fs.U57:type_of% underlying57:=underlying57
theorem _root_.Go.Fs.U59:type_of% underlying59:=underlying59
theorem _root_.Go.Fs.U70:type_of% underlying70:=underlying70
theorem _root_.Go.Fs.U73:type_of% underlying73:=underlying73
theorem _root_.Go.Fs.U76:type_of% underlying76:=underlying76
theorem _root_.Go.Fs.U77:type_of% underlying77:=underlying77
theorem _root_.Go.Fs.U80:type_of% underlying80:=underlying80
theorem _root_.Go.Fs.U81:type_of% underlying81:=underlying81
theorem _root_.Go.Fs.U84:type_of% underlying84:=underlying84
theorem _root_.Go.Fs.U85:type_of% underlying85:=underlying85
theorem _root_.Go.Fs.U90:type_of% underlying90:=underlying90
theorem _root_.Go.Fs.U110:type_of% underlying110:=underlying110
theorem _root_.Go.Fs.U114:type_of% underlying114:=underlying114
theorem _root_.Go.Fs.U122:type_of% underlying122:=underlying122
theorem _root_.Go.Fs.U132:type_of% underlying132:=underlying132
theorem _root_.Go.Fs.U159:type_of% underlying159:=underlying159
theorem _root_.Go.Fs.U168:type_of% underlying168:=underlying168
theorem _root_.Go.Fs.U190:type_of% underlying190:=underlying190
theorem _root_.Go.Fs.U196:type_of% underlying196:=underlying196
theorem _root_.Go.Fs.U212:type_of% underlying212:=underlying212
theorem _root_.Go.Fs.U237:type_of% underlying237:=underlying237
theorem _root_.Go.Fs.U241:type_of% underlying241:=underlying241
theorem _root_.Go.Fs.U245:type_of% underlying245:=underlying245
theorem _root_.Go.Fs.U256:type_of% underlying256:=underlying256
theorem _root_.Go.Fs.U265:type_of% underlying265:=underlying265
theorem _root_.Go.Fs.U271:type_of% underlying271:=underlying271
theorem _root_.Go.Fs.U282:type_of% underlying282:=underlying282
theorem _root_.Go.Fs.U283:type_of% underlying283:=underlying283
theorem _root_.Go.Fs.U289:type_of% underlying289:=underlying289
theorem _root_.Go.Fs.U305:type_of% underlying305:=underlying305
theorem _root_.Go.Fs.U312:type_of% underlying312:=underlying312
theorem _root_.Go.Fs.U317:type_of% underlying317:=underlying317
theorem _root_.Go.Fs.U323:type_of% underlying323:=underlying323
theorem _root_.Go.Fs.U325:type_of% underlying325:=underlying325
theorem _root_.Go.Fs.U336:type_of% underlying336:=underlying336
theorem _root_.Go.Fs.U339:type_of% underlying339:=underlying339
theorem _root_.Go.Fs.U341:type_of% underlying341:=underlying341
theorem _root_.Go.Fs.U347:type_of% underlying347:=underlying347
theorem _root_.Go.Fs.U353:type_of% underlying353:=underlying353
theorem _root_.Go.Fs.U397:type_of% underlying397:=underlying397
abbrev υ:=TA prog
abbrev φ:=TF prog
abbrev χ:=TS prog
abbrev ι:=TZ prog
abbrev κ:=TP prog
abbrev ξ(t:Θ):Prop:=(prog.info? t).map (λi=>Nat.ble 1 i.bytes&&Nat.ble i.bytes 4096)=some true
theorem ο{t:Θ}{i k ft n:Nat}{fs:Array Field}(h:prog.underlying t=some (.struct fs))(hs:TS prog ft n)(hk:(fs[i]?).map (λf=>(f.offset,f.type))=some (k,ft):=by rfl)(hn:Nat.beq n 0=false:=by rfl):TF prog t i k:=TF.of h hk hs hn
theorem π{t:Θ}{n:Nat}(h:(prog.info? t).map (·.size)=some n:=by kernel_rfl):TS prog t n:=TS.of h
theorem δ{t:Θ}{v:Γ}(h:(prog.info? t).bind (·.zero)=some v:=by kernel_rfl):TZ prog t v:=TZ.of h
theorem η{t:Θ}{fs:Array Field}{pl:List (Nat×Nat)}(h:prog.underlying t=some (.struct fs))(hp:(fs.toList.map λf=>(f.offset,prog.cellsOf f.type))=pl:=by kernel_rfl)(hi:(fs.toList.all λf=>(prog.info? f.type).isSome)=true:=by kernel_rfl):TP prog t pl:=TP.of h hp hi
theorem θ{t:Θ}(h:(prog.info? t).map (λi=>Nat.ble 1 i.bytes&&Nat.ble i.bytes 4096)=some true:=by kernel_rfl):ξ t:=h
theorem aH:υ 3 false:=TA.of underlying3 _ C
theorem aI:χ 3 1:=π
theorem cN:ι 3 (qI 0):=δ
theorem jV:ξ 3:=θ
theorem JE:υ 4 false:=TA.of underlying4 _ C
theorem nM:χ 4 1:=π
theorem rJ:ι 4 (.bool false):=δ
theorem cw:υ 5 false:=TA.of underlying5 _ C
theorem mU:χ 5 1:=π
theorem YZ:ι 5 (.int .u8 0):=δ
theorem d7:ξ 5:=θ
theorem yL:υ 9 false:=TA.of underlying9 _ C
theorem lT:χ 9 1:=π
theorem gx:ξ 9:=θ
theorem qO:υ 26 true:=TA.of underlying26 _ C
theorem eY:χ 26 2:=π
theorem qJ:ι 26 (.agg #[qI 0,qI 0]):=δ
theorem DX:κ 26 [(0,1),(1,1)]:=η underlying26
theorem A5:φ 26 0 0:=ο underlying26 aI
theorem zQ:φ 26 1 1:=ο underlying26 aI
theorem uN:υ 27 false:=TA.of underlying27 _ C
theorem uJ:χ 27 1:=π
theorem SX:ι 27 (qI 0):=δ
theorem Xah:ξ 27:=θ
theorem L8:υ 31 true:=TA.of underlying31 _ C
theorem jW:χ 31 2:=π
theorem uP:ι 31 (.agg #[qI 0,qI 0]):=δ
theorem JW:κ 31 [(0,1),(1,1)]:=η underlying31
theorem WH:φ 31 0 0:=ο underlying31 aI
theorem Xq:φ 31 1 1:=ο underlying31 aI
theorem bW:υ 35 false:=TA.of underlying35 _ C
theorem eZ:χ 35 1:=π
theorem wP:ι 35 (qN):=δ
theorem UQ:ξ 35:=θ
theorem zF:υ 36 false:=TA.of underlying36 _ C
theorem KF:χ 36 1:=π
theorem H7:υ 38 true:=TA.of underlying38 _ C
theorem wS:χ 38 4:=π
theorem Wcd:ι 38 (.agg #[qN,qN,qI 0,qI 0]):=δ
theorem Xbp:κ 38 [(0,1),(1,1),(2,1),(3,1)]:=η underlying38
theorem jG:φ 38 0 0:=ο underlying38 eZ
theorem kL:φ 38 1 1:=ο underlying38 KF
theorem Xt:φ 38 2 2:=ο underlying38 aI
theorem WU:φ 38 3 3:=ο underlying38 aI
theorem yU:υ 39 false:=TA.of underlying39 _ C
theorem Rf:χ 39 1:=π
theorem T4:υ 40 false:=TA.of underlying40 _ C
theorem UH:χ 40 1:=π
theorem yY:υ 42 true:=TA.of underlying42 _ C
theorem uM:χ 42 5:=π
theorem Xcf:ι 42 (.agg #[qI 0,qN,qI 0,qN,qN]):=δ
theorem Xab:κ 42 [(0,1),(1,1),(2,1),(3,1),(4,1)]:=η underlying42
theorem AQ:φ 42 0 0:=ο underlying42 aI
theorem oM:φ 42 1 1:=ο underlying42 Rf
theorem HI:φ 42 2 2:=ο underlying42 aI
theorem sD:φ 42 3 3:=ο underlying42 eZ
theorem oK:φ 42 4 4:=ο underlying42 UH
theorem kG:υ 43 false:=TA.of underlying43 _ C
theorem wJ:χ 43 1:=π
theorem Rw:ι 43 (qN):=δ
theorem Xaj:ξ 43:=θ
theorem Ql:υ 44 false:=TA.of underlying44 _ C
theorem Qf:χ 44 1:=π
theorem mE:υ 46 true:=TA.of underlying46 _ C
theorem jX:χ 46 5:=π
theorem eg:ι 46 (.agg #[qI 0,qI 0,qI 0,qN,qN]):=δ
theorem Xcl:κ 46 [(0,1),(1,1),(2,1),(3,1),(4,1)]:=η underlying46
theorem YL:φ 46 0 0:=ο underlying46 aI
theorem Xd:φ 46 1 1:=ο underlying46 aI
theorem aGT:φ 46 2 2:=ο underlying46 aI
theorem eK:φ 46 3 3:=ο underlying46 wJ
theorem HQ:φ 46 4 4:=ο underlying46 Qf
theorem qM:υ 47 false:=TA.of underlying47 _ C
theorem ei:χ 47 1:=π
theorem yX:υ 48 false:=TA.of underlying48 _ C
theorem UL:χ 48 1:=π
theorem jU:υ 50 true:=TA.of underlying50 _ C
theorem jB:χ 50 3:=π
theorem Xbm:ι 50 (.agg #[qN,qI 0,qN]):=δ
theorem Xby:κ 50 [(0,1),(1,1),(2,1)]:=η underlying50
theorem iQ:φ 50 0 0:=ο underlying50 ei
theorem P9:φ 50 1 1:=ο underlying50 aI
theorem lY:φ 50 2 2:=ο underlying50 UL
theorem nF:υ 52 true:=TA.of underlying52 _ C
theorem hG:χ 52 17:=π
theorem R5:ι 52 (.agg #[qN,qN,qI 0,qI 0,qI 0,qN,qI 0,qN,qN,qI 0,qI 0,qI 0,qN,qN,qN,qI 0,qN]):=δ
theorem pN:φ 52 0 0:=ο underlying52 wS
theorem kM:φ 52 1 4:=ο underlying52 uM
theorem sF:φ 52 2 9:=ο underlying52 jX
theorem lZ:φ 52 3 14:=ο underlying52 jB
theorem JM:υ 55 true:=TA.of underlying55 _ C
theorem rT:χ 55 2:=π
theorem G6:ι 55 (.agg #[qI 0,qI 0]):=δ
theorem Ro:κ 55 [(0,1),(1,1)]:=η underlying55
theorem WJ:φ 55 0 0:=ο underlying55 aI
theorem WR:φ 55 1 1:=ο underlying55 aI
theorem R9:υ 61 true:=TA.of underlying61 _ C
theorem kJ:χ 61 2:=π
theorem zB:ι 61 (.agg #[qI 0,qI 0]):=δ
theorem Rk:κ 61 [(0,1),(1,1)]:=η underlying61
theorem HE:φ 61 0 0:=ο underlying61 aI
theorem LH:φ 61 1 1:=ο underlying61 aI
theorem Xav:υ 70 false:=TA.of underlying70 _ C
theorem Qp:χ 70 1:=π
theorem T0:υ 73 false:=TA.of underlying73 _ C
theorem VK:χ 73 1:=π
theorem oL:υ 75 true:=TA.of underlying75 _ C
theorem nH:χ 75 4:=π
theorem fQ:φ 75 0 0:=ο underlying75 eZ
theorem oD:φ 75 1 1:=ο underlying75 VK
theorem IH:φ 75 2 2:=ο underlying75 aI
theorem BJ:φ 75 3 3:=ο underlying75 aI
theorem yT:υ 76 false:=TA.of underlying76 _ C
theorem dh:χ 76 1:=π
theorem P8:υ 77 false:=TA.of underlying77 _ C
theorem TQ:χ 77 1:=π
theorem lR:υ 79 true:=TA.of underlying79 _ C
theorem kF:χ 79 5:=π
theorem nT:φ 79 0 0:=ο underlying79 aI
theorem mQ:φ 79 1 1:=ο underlying79 dh
theorem O6:φ 79 2 2:=ο underlying79 aI
theorem mX:φ 79 3 3:=ο underlying79 eZ
theorem nZ:φ 79 4 4:=ο underlying79 TQ
theorem iK:υ 80 false:=TA.of underlying80 _ C
theorem fC:χ 80 1:=π
theorem pG:ι 80 (qN):=δ
theorem IQ:υ 81 false:=TA.of underlying81 _ C
theorem dy:χ 81 1:=π
theorem gW:υ 83 true:=TA.of underlying83 _ C
theorem fU:χ 83 5:=π
theorem Qe:ι 83 (.agg #[qI 0,qI 0,qI 0,qN,qN]):=δ
theorem wX:φ 83 0 0:=ο underlying83 aI
theorem S7:φ 83 1 1:=ο underlying83 aI
theorem JL:φ 83 2 2:=ο underlying83 aI
theorem dX:φ 83 3 3:=ο underlying83 fC
theorem xJ:φ 83 4 4:=ο underlying83 dy
theorem qG:υ 84 false:=TA.of underlying84 _ C
theorem dk:χ 84 1:=π
theorem P3:υ 85 false:=TA.of underlying85 _ C
theorem QY:χ 85 1:=π
theorem nY:υ 87 true:=TA.of underlying87 _ C
theorem mD:χ 87 3:=π
theorem iS:φ 87 0 0:=ο underlying87 dk
theorem Q7:φ 87 1 1:=ο underlying87 aI
theorem nV:φ 87 2 2:=ο underlying87 QY
theorem mM:υ 89 true:=TA.of underlying89 _ C
theorem fN:χ 89 17:=π
theorem uK:ι 89 (.agg #[qN,qN,qI 0,qI 0,qI 0,qN,qI 0,qN,qN,qI 0,qI 0,qI 0,qN,qN,qN,qI 0,qN]):=δ
theorem Wce:κ 89 [(0,4),(4,5),(9,5),(14,3)]:=η underlying89
theorem eD:φ 89 0 0:=ο underlying89 nH
theorem dK:φ 89 1 4:=ο underlying89 kF
theorem gJ:φ 89 2 9:=ο underlying89 fU
theorem fF:φ 89 3 14:=ο underlying89 mD
theorem Vf:υ 110 false:=TA.of underlying110 _ C
theorem Uq:χ 110 1:=π
theorem Xdh:χ 112 2:=π
theorem Xdm:ι 112 (.agg #[.pointer none,qN]):=δ
theorem DW:φ 112 0 0:=ο underlying112 Uq
theorem NU:φ 112 1 1:=ο underlying112 Qp
theorem lH:υ 122 true:=TA.of underlying122 _ C
theorem cR:χ 122 2:=π
theorem iO:ι 122 (.agg #[qI 0,qI 0]):=δ
theorem QZ:ξ 122:=θ
theorem G9:κ 122 [(0,1),(1,1)]:=η underlying122
theorem sY:φ 122 0 0:=ο underlying122 aI
theorem vV:φ 122 1 1:=ο underlying122 aI
theorem oZ:υ 129 true:=TA.of underlying129 _ C
theorem cU:χ 129 2:=π
theorem kT:ι 129 (.agg #[qI 0,qI 0]):=δ
theorem Tu:ξ 129:=θ
theorem n6:κ 129 [(0,1),(1,1)]:=η underlying129
theorem vX:φ 129 0 0:=ο underlying129 aI
theorem vY:φ 129 1 1:=ο underlying129 aI
theorem FP:υ 132 false:=TA.of underlying132 _ C
theorem GC:χ 132 1:=π
theorem Yag:ι 132 (qN):=δ
theorem vJ:υ 139 true:=TA.of underlying139 _ C
theorem fD:χ 139 2:=π
theorem lC:ι 139 (.agg #[qI 0,qI 0]):=δ
theorem aAP:ξ 139:=θ
theorem yK:κ 139 [(0,1),(1,1)]:=η underlying139
theorem wE:φ 139 0 0:=ο underlying139 aI
theorem C5:φ 139 1 1:=ο underlying139 aI
theorem Vh:υ 146 true:=TA.of underlying146 _ C
theorem mG:χ 146 2:=π
theorem vN:ι 146 (.agg #[qI 0,qI 0]):=δ
theorem Vg:ξ 146:=θ
theorem UT:κ 146 [(0,1),(1,1)]:=η underlying146
theorem DO:φ 146 0 0:=ο underlying146 aI
theorem CP:φ 146 1 1:=ο underlying146 aI
theorem vA:υ 159 true:=TA.of underlying159 _ C
theorem qE:χ 159 4:=π
theorem aCB:ι 159 (.agg #[qI 0,qI 0,qI 0,qI 0]):=δ
theorem lF:υ 161 true:=TA.of underlying161 _ C
theorem eG:χ 161 10:=π
theorem xW:ι 161 (.agg #[qI 0,qI 0,qI 0,qI 0,qI 0,qI 0,qI 0,qI 0,qI 0,qI 0]):=δ
theorem Yao:ξ 161:=θ
theorem Xdj:κ 161 [(0,4),(4,4),(8,1),(9,1)]:=η underlying161
theorem wA:φ 161 0 0:=ο underlying161 qE
theorem wG:φ 161 1 4:=ο underlying161 qE
theorem rI:φ 161 2 8:=ο underlying161 aI
theorem CN:φ 161 3 9:=ο underlying161 aI
theorem aAF:υ 162 false:=TA.of underlying162 _ C
theorem FZ:υ 163 false:=TA.of underlying163 _ C
theorem aAV:χ 163 1:=π
theorem Ya2:ι 163 (.pointer none):=δ
theorem V1:υ 168 false:=TA.of underlying168 _ C
theorem Tb:χ 168 1:=π
theorem aCK:ι 170 (.agg #[qN,qN,qI 0,qI 0,qN]):=δ
theorem aEV:κ 170 [(0,4),(4,1)]:=η underlying170
theorem tE:φ 170 1 4:=ο underlying170 Tb
theorem W9:υ 184 true:=TA.of underlying184 _ C
theorem dR:χ 184 3:=π
theorem lL:ι 184 (.agg #[qI 0,qI 0,qI 0]):=δ
theorem V8:ξ 184:=θ
theorem FS:κ 184 [(0,1),(1,1),(2,1)]:=η underlying184
theorem rG:φ 184 0 0:=ο underlying184 aI
theorem wC:φ 184 1 1:=ο underlying184 aI
theorem rE:φ 184 2 2:=ο underlying184 aI
theorem lE:υ 190 true:=TA.of underlying190 _ C
theorem eN:χ 190 9:=π
theorem vF:ι 190 (.agg #[qI 0,qI 0,qI 0,qI 0,qI 0,qI 0,qI 0,qI 0,qI 0]):=δ
theorem aET:ξ 190:=θ
theorem FU:υ 196 true:=TA.of underlying196 _ C
theorem vM:χ 196 10:=π
theorem aBN:ι 196 (.agg #[qI 0,qI 0,qI 0,qI 0,qI 0,qI 0,qI 0,qI 0,qI 0,qI 0]):=δ
theorem xT:υ 198 false:=TA.of underlying198 _ C
theorem Ybh:χ 198 1:=π
theorem aAE:ι 198 (.pointer none):=δ
theorem sG:υ 201 false:=TA.of underlying201 _ C
theorem GS:χ 201 1:=π
theorem FX:ι 201 (.nilFunc):=δ
theorem Ty:υ 202 false:=TA.of underlying202 _ C
theorem aAX:χ 202 1:=π
theorem Tm:ι 205 (.agg #[.nilFunc]):=δ
theorem Sw:κ 205 [(0,1)]:=η underlying205
theorem QE:φ 205 0 0:=ο underlying205 aAX
theorem Vs:υ 208 false:=TA.of underlying208 _ C
theorem aDQ:χ 208 1:=π
theorem aAO:ι 208 (.nilFunc):=δ
theorem yC:υ 212 false:=TA.of underlying212 _ C
theorem m9:χ 212 1:=π
theorem Th:ι 212 (qN):=δ
theorem FO:υ 214 false:=TA.of underlying214 _ C
theorem Se:υ 217 false:=TA.of underlying217 _ C
theorem Xdi:χ 217 1:=π
theorem Tq:χ 220 1:=π
theorem SC:ι 220 (.agg #[.nilFunc]):=δ
theorem aEC:κ 220 [(0,1)]:=η underlying220
theorem PE:φ 220 0 0:=ο underlying220 Xdi
theorem RX:υ 221 false:=TA.of underlying221 _ C
theorem Ya6:χ 221 1:=π
theorem Ybb:ι 221 (.nilFunc):=δ
theorem Yay:υ 225 true:=TA.of underlying225 _ C
theorem uU:χ 225 2:=π
theorem yB:ι 225 (.agg #[qI 0,qI 0]):=δ
theorem SN:ξ 225:=θ
theorem aDW:κ 225 [(0,1),(1,1)]:=η underlying225
theorem Kb:φ 225 0 0:=ο underlying225 aI
theorem Gc:φ 225 1 1:=ο underlying225 aI
theorem UE:υ 245 false:=TA.of underlying245 _ C
theorem V0:χ 245 1:=π
theorem SL:ι 245 (qN):=δ
theorem Yar:ξ 245:=θ
theorem aEI:υ 246 false:=TA.of underlying246 _ C
theorem m8:υ 256 false:=TA.of underlying256 _ C
theorem aBE:χ 256 1:=π
theorem lG:ι 256 (qN):=δ
theorem aFU:υ 261 true:=TA.of underlying261 _ C
theorem tP:χ 261 3:=π
theorem G3:ι 261 (.agg #[.bool false,qI 0,qI 0]):=δ
theorem RN:ξ 261:=θ
theorem Su:κ 261 [(0,1),(1,1),(2,1)]:=η underlying261
theorem Jf:φ 261 0 0:=ο underlying261 nM
theorem NT:φ 261 1 1:=ο underlying261 aI
theorem T8:φ 261 2 2:=ο underlying261 aI
theorem aAG:υ 263 true:=TA.of underlying263 _ C
theorem yF:χ 263 4:=π
theorem GO:ι 263 (.agg #[qI 0,qI 0,qI 0,qI 0]):=δ
theorem Uj:ξ 263:=θ
theorem Xdf:κ 263 [(0,1),(1,1),(2,2)]:=η underlying263
theorem Fu:φ 263 0 0:=ο underlying263 aI
theorem Gy:φ 263 1 1:=ο underlying263 aI
theorem NK:φ 263 2 2:=ο underlying263 fD
theorem vB:υ 265 true:=TA.of underlying265 _ C
theorem fX:χ 265 3:=π
theorem xS:ι 265 (.agg #[qI 0,qI 0,qI 0]):=δ
theorem aDU:ξ 265:=θ
theorem tN:χ 267 4:=π
theorem FQ:ι 267 (.agg #[qI 0,qI 0,qI 0,qI 0]):=δ
theorem Ve:ξ 267:=θ
theorem aFL:κ 267 [(0,1),(1,3)]:=η underlying267
theorem T6:φ 267 0 0:=ο underlying267 aI
theorem DV:φ 267 1 1:=ο underlying267 fX
theorem aBI:υ 274 false:=TA.of underlying274 _ C
theorem GB:υ 277 true:=TA.of underlying277 _ C
theorem lM:χ 277 3:=π
theorem K4:ι 277 (.agg #[.bool false,qI 0,qI 0]):=δ
theorem Vu:ξ 277:=θ
theorem aBD:κ 277 [(0,1),(1,1),(2,1)]:=η underlying277
theorem Hc:φ 277 0 0:=ο underlying277 nM
theorem CZ:φ 277 1 1:=ο underlying277 aI
theorem C6:φ 277 2 2:=ο underlying277 aI
theorem aEG:υ 278 false:=TA.of underlying278 _ C
theorem Sg:υ 282 false:=TA.of underlying282 _ C
theorem aEP:χ 282 1:=π
theorem uZ:υ 283 false:=TA.of underlying283 _ C
theorem Vq:χ 283 1:=π
theorem aCC:ι 285 (.agg #[qI 0,qN,qI 0,qN,qN,qN,.map none]):=δ
theorem aCQ:κ 285 [(0,5),(5,1),(6,1)]:=η underlying285
theorem OB:φ 285 0 0:=ο underlying285 kF
theorem mZ:φ 285 1 5:=ο underlying285 Vq
theorem QI:φ 285 2 6:=ο underlying285 aEP
theorem qD:υ 289 true:=TA.of underlying289 _ C
theorem kC:χ 289 10:=π
theorem BE:ι 289 (.agg #[qI 0,qI 0,qI 0,qI 0,qI 0,qI 0,qI 0,qI 0,qI 0,qI 0]):=δ
theorem aEM:ξ 289:=θ
theorem Yac:χ 292 2:=π
theorem Ux:ι 292 (.agg #[qI 0,qI 0]):=δ
theorem Ybd:κ 292 [(0,1),(1,1)]:=η underlying292
theorem Ft:φ 292 0 0:=ο underlying292 aI
theorem Gg:φ 292 1 1:=ο underlying292 aI
theorem aAA:υ 295 false:=TA.of underlying295 _ C
theorem aEO:υ 296 false:=TA.of underlying296 _ C
theorem oX:υ 298 true:=TA.of underlying298 _ C
theorem cT:χ 298 3:=π
theorem lI:ι 298 (.agg #[qI 0,qI 0,qI 0]):=δ
theorem AG:ξ 298:=θ
theorem Ur:κ 298 [(0,1),(1,1),(2,1)]:=η underlying298
theorem CY:φ 298 0 0:=ο underlying298 aI
theorem tC:φ 298 1 1:=ο underlying298 aI
theorem pA:φ 298 2 2:=ο underlying298 aI
theorem TL:υ 301 true:=TA.of underlying301 _ C
theorem yP:χ 301 3:=π
theorem GN:ι 301 (.agg #[qI 0,qI 0,qI 0]):=δ
theorem aDG:ξ 301:=θ
theorem aEJ:κ 301 [(0,1),(1,2)]:=η underlying301
theorem X5:φ 301 0 0:=ο underlying301 aI
theorem CA:φ 301 1 1:=ο underlying301 eY
theorem SY:υ 305 false:=TA.of underlying305 _ C
theorem aCX:χ 305 1:=π
theorem Vc:ι 307 (.agg #[qI 0,qI 0,qI 0,qN,qN,.map none]):=δ
theorem Vw:κ 307 [(0,5),(5,1)]:=η underlying307
theorem A7:φ 307 0 0:=ο underlying307 fU
theorem BY:φ 307 1 5:=ο underlying307 aCX
theorem aCE:υ 310 false:=TA.of underlying310 _ C
theorem rP:υ 312 true:=TA.of underlying312 _ C
theorem pX:χ 312 3:=π
theorem AN:ι 312 (.agg #[qI 0,qI 0,qI 0]):=δ
theorem Yal:ξ 312:=θ
theorem VH:υ 314 true:=TA.of underlying314 _ C
theorem nK:χ 314 4:=π
theorem U6:ι 314 (.agg #[qI 0,qI 0,qI 0,qI 0]):=δ
theorem Vk:ξ 314:=θ
theorem aFB:κ 314 [(0,1),(1,3)]:=η underlying314
theorem CB:φ 314 0 0:=ο underlying314 aI
theorem V7:φ 314 1 1:=ο underlying314 pX
theorem Xdb:υ 315 false:=TA.of underlying315 _ C
theorem Vx:υ 317 false:=TA.of underlying317 _ C
theorem Ya4:χ 317 1:=π
theorem Ya3:ι 319 (.agg #[qN,qI 0,qN,.map none]):=δ
theorem aFC:κ 319 [(0,3),(3,1)]:=η underlying319
theorem W8:φ 319 0 0:=ο underlying319 mD
theorem MY:φ 319 1 3:=ο underlying319 Ya4
theorem RD:υ 323 false:=TA.of underlying323 _ C
theorem aFN:χ 323 1:=π
theorem Xcy:ι 323 (qN):=δ
theorem AV:υ 325 true:=TA.of underlying325 _ C
theorem H1:χ 325 7:=π
theorem uX:υ 327 true:=TA.of underlying327 _ C
theorem iN:χ 327 9:=π
theorem xZ:ι 327 (.agg #[qI 0,qI 0,qI 0,qI 0,qI 0,qI 0,qI 0,qI 0,qI 0]):=δ
theorem UR:ξ 327:=θ
theorem V2:φ 327 0 0:=ο underlying327 aI
theorem CD:φ 327 1 1:=ο underlying327 aI
theorem W0:φ 327 2 2:=ο underlying327 H1
theorem FY:χ 337 2:=π
theorem RR:ι 337 (.agg #[qI 0,qI 0]):=δ
theorem aBW:ξ 337:=θ
theorem aDF:κ 337 [(0,1),(1,1)]:=η underlying337
theorem Hr:φ 337 0 0:=ο underlying337 aI
theorem Ej:φ 337 1 1:=ο underlying337 aI
theorem aBO:χ 339 3:=π
theorem Yae:ι 339 (.agg #[.int .u8 0,.int .u8 0,.int .u8 0]):=δ
theorem Uy:υ 341 true:=TA.of underlying341 _ C
theorem I4:χ 341 4:=π
theorem Uc:ι 341 (.agg #[.int .u8 0,.int .u8 0,.int .u8 0,.int .u8 0]):=δ
theorem Yaw:υ 343 true:=TA.of underlying343 _ C
theorem GF:χ 343 7:=π
theorem QM:ι 343 (.agg #[.int .u8 0,.int .u8 0,.int .u8 0,.int .u8 0,.int .u8 0,.int .u8 0,.int .u8 0]):=δ
theorem Ybc:κ 343 [(0,3),(3,4)]:=η underlying343
theorem CU:φ 343 0 0:=ο underlying343 aBO
theorem Gb:φ 343 1 3:=ο underlying343 I4
theorem aER:χ 347 1:=π
theorem Sr:ι 347 (.agg #[qI 0]):=δ
theorem aDL:κ 347 [(0,1)]:=η underlying347
theorem Hj:φ 347 0 0:=ο underlying347 uJ
theorem aDP:υ 349 false:=TA.of underlying349 _ C
theorem aAB:χ 349 1:=π
theorem aFE:χ 351 2:=π
theorem gC:ι 351 (.agg #[qI 0,.nilFunc]):=δ
theorem iD:κ 351 [(0,1),(1,1)]:=η underlying351
theorem El:φ 351 0 0:=ο underlying351 aI
theorem Ge:φ 351 1 1:=ο underlying351 aAB
theorem Ya8:ι 359 (.agg #[qN,qN,qI 0,qI 0,qI 0,qN,qI 0,qN,qN,qI 0,qI 0,qI 0,qN,qN,qN,qI 0,qN]):=δ
theorem aAL:κ 359 [(0,17)]:=η underlying359
theorem bC:φ 359 0 0:=ο underlying359 fN
theorem aFR:υ 360 false:=TA.of underlying360 _ C
theorem Yax:υ 371 false:=TA.of underlying371 _ C
theorem aCD:υ 373 false:=TA.of underlying373 _ C
theorem SU:υ 376 true:=TA.of underlying376 _ C
theorem mO:χ 376 4:=π
theorem K7:ι 376 (.agg #[qI 0,qI 0,qI 0,qI 0]):=δ
theorem Vl:ξ 376:=θ
theorem aDY:κ 376 [(0,1),(1,1),(2,2)]:=η underlying376
theorem NZ:φ 376 0 0:=ο underlying376 aI
theorem NI:φ 376 1 1:=ο underlying376 aI
theorem QF:φ 376 2 2:=ο underlying376 cR
theorem aDE:υ 378 false:=TA.of underlying378 _ C
theorem VC:υ 383 true:=TA.of underlying383 _ C
theorem GU:χ 383 9:=π
theorem V4:ι 383 (.agg #[qI 0,qI 0,qI 0,qI 0,qI 0,qI 0,qI 0,qI 0,qI 0]):=δ
theorem TV:κ 383 [(0,1),(1,4),(5,4)]:=η underlying383
theorem Ybj:υ 385 false:=TA.of underlying385 _ C
theorem V_:υ 389 true:=TA.of underlying389 _ C
theorem Vy:χ 389 8:=π
theorem UK:ι 389 (.agg #[qI 0,qI 0,qI 0,qI 0,qI 0,qI 0,qI 0,qI 0]):=δ
theorem RF:κ 389 [(0,1),(1,7)]:=η underlying389
theorem BV:φ 389 0 0:=ο underlying389 aI
theorem BW:φ 389 1 1:=ο underlying389 H1
theorem ST:υ 434 false:=TA.of underlying434 _ C
theorem aFS:χ 434 1:=π
theorem Xda:ι 437 (.agg #[.nilFunc]):=δ
theorem Yaf:κ 437 [(0,1)]:=η underlying437
theorem CI:φ 437 0 0:=ο underlying437 aFS

end Go.Fs
namespace Go.Fs.C1
structure zM where
 back:Bool
 many:Int
 num:Int
 deriving DecidableEq
structure dG where
 places:List Int
 counts:List zM
 wrong:Int
 off:Int
 deriving DecidableEq
def gF(n lo hi:Int):Bool:=decide (lo≤n)&&decide (n≤hi)
def vO(n:Int):Bool:=gF n 0 2
def tV(len:Nat)(c:zM):Bool:=gF c.many 0 len&&gF c.num 0 9
def aW(r:dG):Int:=
 if 9<r.places.length∨6<r.counts.length then 3
 else if r.places.length=0∨gF r.wrong 0 6=false∨gF r.off 0 9=false∨r.places.all vO=false∨r.counts.all (tV r.places.length)=false then 1
 else 0
def cZ(l:List Int):Nat:=(l.filter (· ==2)).length
def rV(t p:Int):Bool:=gF t 0 1&&(p==2||t==p)
def eM(r:dG)(t:List Int):Bool:=(t.length==r.places.length)&&(t.zip r.places).all λx=>rV x.1 x.2
def dN(l:List Int)(i k:Nat):Int:=((l.drop i).take k).sum
def Q9(t:List Int)(c:zM):Int:=if c.back then dN t (t.length-c.many.toNat) c.many.toNat else dN t 0 c.many.toNat
def hC(t:List Int)(c:zM):Int:=max (Q9 t c-c.num) (c.num-Q9 t c)
def cK(r:dG)(t:List Int):Bool:=r.counts.all λc=>decide (hC t c≤r.off)
def jM(r:dG)(t:List Int):Nat:=(r.counts.filter λc=>decide (0<hC t c)).length
def bP:List Int→List (List Int)
 | []=>[[]]
 |p::ps=>(if p=2∨p=0 then(bP ps).map (0:: ·)else [])++(if p=2∨p=1 then(bP ps).map (1:: ·)else [])
def fits(r:dG)(t:List Int):Bool:=cK r t&&decide ((jM r t:Int)≤r.wrong)
def truths(r:dG):List (List Int):=(bP r.places).filter (fits r)
def iH(t:List Int)(i j:Nat):Int:=dN t i (j+1-i)
def qH:List Int→Int
 | []=>0
 |x::xs=>xs.foldl min x
def kU:List Int→Int
 | []=>0
 |x::xs=>xs.foldl max x

theorem I9{l:List Int}{i k:Nat}{x:Int}(h:l[i+k]?= some x):dN l i (k+1)=dN l i k+x:=by
 unfold dN;rw[zg,vb,h];simp
theorem fI{l:List Int}(hb:∀x∈l,0≤x∧x≤1)(i k:Nat):0≤dN l i k∧dN l i k≤k:=by
 induction k with
 |zero=>simp[dN]
 |succ k ih=>
  cases h:l[i+k]? with
  |none=>
   have:dN l i (k+1)=dN l i k:=by
    unfold dN;rw[zg,vb,h];simp
   rw[this];omega
  |some x=>rw[I9 h];have:=hb x (GE h);omega
theorem Z0(l:List Int)(i k m:Nat):dN l i (k+m)=dN l i k+dN l (i+k) m:=by
 unfold dN;rw[List.take_add,List.drop_drop];simp
def gT(t:List Int):List Int:=t++List.replicate (9-t.length) 0
theorem iP{t:List Int}(h:t.length≤9):(gT t).length=9:=by simp[gT];omega
theorem Nb{t:List Int}(h:∀x∈t,0≤x∧x≤1):∀x∈gT t,0≤x∧x≤1:=by
 intro x hx;rcases zd.1 hx with hx|hx
 ·exact h x hx
 ·rw[(List.mem_replicate.1 hx).2];omega
theorem Wac(n:Nat):(List.replicate n (0:Int)).sum=0:=by
 induction n with
 |zero=>rfl
 |succ n ih=>rw[List.replicate_succ,List.sum_cons,ih];rfl
theorem ZA(t:List Int)(k:Nat):dN (gT t) 0 k=dN t 0 k:=by
 unfold dN gT;simp only[sk,List.take_append,List.sum_append,List.take_replicate,Wac];omega
def pD(c:List Int):List Int:=(List.range 10).map λk=>dN c 0 k
def tJ(c:List Int)(k:Nat):List Int:=(List.range 10).map λj=>if j≤k then dN c 0 j else 0
theorem tM(c:List Int):(pD c).length=10:=by simp[pD]
theorem LU(c:List Int)(k:Nat):(tJ c k).length=10:=by simp[tJ]
theorem SS(c:List Int):tJ c 9=pD c:=by simp[tJ,pD,List.range,List.range.loop]
theorem VY(c:List Int)(k:Nat)(h:k<10):(tJ c k)[k]?= some (dN c 0 k):=by simp[tJ,h]
theorem Om(c:List Int)(k:Nat):(tJ c k).set (k+1) (dN c 0 (k+1))=tJ c (k+1):=by
 apply List.ext_getElem?;intro j;rw[List.getElem?_set];simp only[tJ,xt];by_cases hj:k+1=j
 ·subst hj;by_cases hk:k+1<10
  ·simp[hk]
  ·simp[hk]
 ·rw[zv hj];by_cases hk:j<10
  ·simp only[rf hk,xo];by_cases h1:j≤k
   ·rw[zo h1,zo Yd]
   ·rw[zv h1,zv Yd]
  ·simp[hk]
theorem xF(c:List Int)(k:Nat)(h:k<10):(pD c)[k]?= some (dN c 0 k):=by simp[pD,h]
theorem Km(t:List Int):pD (gT t)=pD t:=by simp[pD,ZA]

structure mV(r:dG):Prop where
 len0:0<r.places.length
 len9:r.places.length≤9
 cnt6:r.counts.length≤6
 wrong:0≤r.wrong∧r.wrong≤6
 off:0≤r.off∧r.off≤9
 place:∀p∈r.places,0≤p∧p≤2
 cnt:∀c∈r.counts,0≤c.many∧c.many≤r.places.length∧0≤c.num∧c.num≤9
theorem bH{n lo hi:Int}:gF n lo hi=true ↔ lo≤n∧n≤hi:=by simp[gF]
theorem V5{r:dG}:aW r=0 ↔ mV r:=by
 unfold aW;constructor
 ·intro h;split at h
  ·cases h
  ·split at h
   ·cases h
   ·rename_i h1 h2;simp only[wn]at h1 h2;obtain⟨a,b,c,d,e⟩:=h2;simp only[Bool.not_eq_false,yu,vO,tV,zl,bH]at b c d e;exact⟨Yd,Yd,Yd,b,c,d,λx hx=>⟨(e x hx).1.1,(e x hx).1.2,(e x hx).2.1,(e x hx).2.2⟩⟩
 ·intro h;rw[zv (by have:=h.len9;have:=h.cnt6;omega),zv]
  simp only[wn,Bool.not_eq_false,yu,vO,tV,zl,bH];exact⟨by have:=h.len0;omega,h.wrong,h.off,h.place,λx hx=>⟨⟨(h.cnt x hx).1,(h.cnt x hx).2.1⟩,(h.cnt x hx).2.2⟩⟩
def oS(r:dG)(t:List Int):Prop:=t.length=r.places.length∧∀x∈t,0≤x∧x≤1
def cf(r:dG)(t:List Int):Bool:=(t.length==r.places.length)&&t.all (λx=>gF x 0 1)&&(t.zip r.places).all λx=>x.2==2||x.1==x.2
theorem AK{α β:Type}{p:α→Bool}:∀{l:List α} {m:List β},l.length=m.length→((l.zip m).all λx=>p x.1)=l.all p
 | [],[],_=>rfl
 |a::l,b::m,h=>by simp only[s3,uh];rw[AK xd]
theorem Xay(r:dG)(t:List Int):cf r t=eM r t:=by
 unfold cf eM rV;by_cases h:t.length=r.places.length
 ·rw[←AK h];simp only[h,beq_self_eq_true,v_];rw[vv];simp only[zl,yu];constructor
  ·rintro⟨h1,h2⟩ x hx;exact⟨h1 x hx,h2 x hx⟩
  ·intro h;exact⟨λx hx=>(h x hx).1,λx hx=>(h x hx).2⟩
 ·have:(t.length==r.places.length)=false:=xd
  simp[this]
theorem Mh{r:dG}{t:List Int}(h:eM r t=true):oS r t:=by
 rw[←Xay]at h;simp only[cf,zl,th,yu,bH]at h;exact⟨h.1.1,h.1.2⟩
theorem Mn{r:dG}{t:List Int}{c:zM}(ht:oS r t)(h0:0≤c.many)(h1:c.many≤r.places.length):
  Q9 t c=if c.back then dN t 0 t.length-dN t 0 (t.length-c.many.toNat)else dN t 0 c.many.toNat:=by
 unfold Q9;split
 ·have h:=Z0 t 0 (t.length-c.many.toNat) c.many.toNat;rw[show t.length-c.many.toNat+c.many.toNat=t.length by rw[ht.1];omega,wo]at h
  omega
 ·rfl
theorem EB{r:dG}{t:List Int}{c:zM}(ht:oS r t)(_h0:0≤c.many)(h1:c.many≤r.places.length)(I:r.places.length≤9):0≤Q9 t c∧Q9 t c≤9:=by
 unfold Q9;split
 ·have:=fI ht.2 (t.length-c.many.toNat) c.many.toNat;omega
 ·have:=fI ht.2 0 c.many.toNat;omega
theorem XF{r:dG}{t:List Int}{c:zM}(hr:mV r)(ht:oS r t)(hc:c∈r.counts):0≤hC t c∧hC t c≤9:=by
 obtain⟨a,b,d,e⟩:=hr.cnt c hc;have:=EB ht a b hr.len9;unfold hC;omega

def vm(p:Int)(ps pre:List Int)(k:Nat):List (List Int):=(List.range k).flatMap λ(m:Nat)=>if p=2∨p=(m:Int)then(bP ps).map (λt=>gT (pre++(m:Int)::t))else []
theorem Cc{p:Int}{ps pre:List Int}:vm p ps pre 0=[]:=rfl
theorem Xct{p:Int}{ps pre:List Int}{k:Nat}(h:¬(p=2∨p=(k:Int))):vm p ps pre (k+1)=vm p ps pre k:=by
 unfold vm;rw[yb,xl];simp[h]
theorem Va{p:Int}{ps pre:List Int}{k:Nat}(h:p=2∨p=(k:Int)):vm p ps pre (k+1)=vm p ps pre k++(bP ps).map (λt=>gT (pre++[(k:Int)]++t)):=by
 unfold vm;rw[yb,xl];simp[h]
theorem Ry{p:Int}{ps pre:List Int}:vm p ps pre 2=(bP (p::ps)).map (λt=>gT (pre++t)):=by
 by_cases h2:p=2
 ·simp[vm,bP,List.range,List.range.loop,Function.comp_def,h2]
 ·by_cases h0:p=0
  ·simp[vm,bP,List.range,List.range.loop,Function.comp_def,h0]
  ·by_cases h1:p=1
   ·simp[vm,bP,List.range,List.range.loop,Function.comp_def,h1]
   ·have:¬(1:Int)=p:=λe=>h1 e.symm
    simp[vm,bP,List.range,List.range.loop,h2,h0,h1]
theorem Aq{p:Int}{ps pre:List Int}{k:Nat}(hk:k<2):∃r,vm p ps pre 2=vm p ps pre (k+1)++r:=by
 rcases(by omega:k=0∨k=1)with rfl|rfl
 ·refine⟨if p=2∨p=1 then(bP ps).map (λt=>gT (pre++1::t))else [],?_⟩;simp[vm,List.range,List.range.loop]
 ·exact⟨[],Yf⟩
theorem ZL{pre c:List Int}{n:Nat}(_h9:c.length=9)(hp:c.take n=pre)(hn:pre.length=n)(hz:c.drop n=List.replicate (9-n) 0):c=gT pre:=by
 rw[←sq n c,hp,hz];unfold gT;rw[hn]
theorem Nv{pre c:List Int}{i n:Nat}{k:Int}(I:c.length=9)(hi:i<n)(hn:n≤9)(hp:c.take i=pre)(hz:c.drop n=List.replicate (9-n) 0):
  (c.set i k).length=9∧(c.set i k).take (i+1)=pre++[k]∧(c.set i k).drop n=List.replicate (9-n) 0:=by
 refine⟨by simpa using I,?_,?_⟩
 ·rw[List.take_succ_eq_append_getElem xw,List.take_set_of_le (zk _),hp];simp
 ·rw[List.drop_set_of_lt hi,hz]
theorem tR(l:List Int):(bP l).length≤2^l.length:=by
 induction l with
 |nil=>simp[bP]
 |cons p ps ih=>
  simp only[bP,zf,zh,Nat.pow_succ];have:∀(c:Prop) [Decidable c] (f:List Int→List Int),(if c then(bP ps).map f else []).length≤(bP ps).length:=by intro c _ f;split<;>simp
  have h1:=this (p=2∨p=0) (0:: ·);have h2:=this (p=2∨p=1) (1:: ·);omega
theorem pZ{l t:List Int}(h:t∈bP l):t.length=l.length∧∀x∈t,0≤x∧x≤1:=by
 induction l generalizing t with
 |nil=>simp[bP]at h;subst h;simp
 |cons p ps ih=>
  simp only[bP,zd]at h;rcases h with h|h
  ·split at h
   ·obtain⟨t',ht',rfl⟩:=n5.1 h;refine⟨by simp[(ih ht').1],λx hx=>?_⟩;rcases zm.1 hx with rfl|hx
    ·omega
    ·exact(ih ht').2 x hx
   ·simp at h
  ·split at h
   ·obtain⟨t',ht',rfl⟩:=n5.1 h;refine⟨by simp[(ih ht').1],λx hx=>?_⟩;rcases zm.1 hx with rfl|hx
    ·omega
    ·exact(ih ht').2 x hx
   ·simp at h
theorem X1{places x:List Int}{pre r:List (List Int)}(h:(bP places).map gT=pre++x::r):∃t,(bP places)[pre.length]?= some t∧x=gT t∧t∈bP places∧(bP places).take (pre++[x]).length=(bP places).take pre.length++[t]:=by
 have h1:((bP places).map gT)[pre.length]?= some x:=by rw[h];simp
 rw[xt,s_]at h1;obtain⟨t,ht,hx⟩:=h1;refine⟨t,ht,hx.symm,GE ht,?_⟩;rw[zf,ve,zg,ht];rfl
def eJ(r:dG)(fine:Bool):Int:=if aW r≠0 then aW r else if fine=false then 2 else if truths r=[]then 11 else 0
def rX(r:dG)(i j:Int):Bool:=gF i 0 (r.places.length-1)&&gF j i (r.places.length-1)

def SK(ts:List (List Int))(i j:Nat):Int:=qH (ts.map λt=>iH t i j)
def UX(ts:List (List Int))(i j:Nat):Int:=kU (ts.map λt=>iH t i j)
theorem LQ(l:List Int)(a:Int)(h:l[0]?= some a):l.foldl min a=qH l:=by
 cases l with
 |nil=>simp at h
 |cons x l=>simp at h;subst h;simp[qH]
theorem IZ(l:List Int)(a:Int)(h:l[0]?= some a):l.foldl max a=kU l:=by
 cases l with
 |nil=>simp at h
 |cons x l=>simp at h;subst h;simp[kU]
theorem x9{t:List Int}(hb:∀x∈t,0≤x∧x≤1)(i j:Nat)(hj:j<9):0≤iH t i j∧iH t i j≤9:=by
 unfold iH;have:=fI hb i (j+1-i);omega
def vd(ts:List (List Int))(q:List Int→Bool):Int:=
 match ts with
 | []=>1
 |t0::_=>if(ts.all λt=>q t==q t0)=true then(if q t0=true then 1 else 2)else 3
theorem Pu{ts:List (List Int)}{q:List Int→Bool}{t0:List Int}(h0:ts[0]?= some t0){j:Nat}(hj:ts.length≤j)(h:(ts.take j).all (λt=>q t==q t0)=true):vd ts q=if q t0=true then 1 else 2:=by
 rw[ww hj]at h;cases ts with
 |nil=>simp at h0
 |cons x l=>simp at h0;subst h0;simp only[vd];rw[zo h]
theorem Pp{ts:List (List Int)}{q:List Int→Bool}{t0 t:List Int}(h0:ts[0]?= some t0){j:Nat}(hj:ts[j]?= some t)(h:(!(q t==q t0))=true):vd ts q=3:=by
 cases ts with
 |nil=>simp at h0
 |cons x l=>
  simp only[List.getElem?_cons_zero,uk]at h0;subst h0;simp only[vd]
  rw[zv];intro ha;have:=yu.1 ha t (GE hj);simp[this]at h
def d3(i:Nat)(t:List Int):Bool:=decide (0<t.getD i 0)
def rW(r:dG)(i:Nat)(t:List Int):Bool:=match r.counts[i]? with|some c=>decide (hC t c=0)|none=>false
theorem aHY{t:List Int}{i:Nat}(h:i<9)(I:t.length≤9):(gT t)[i]?= some (t.getD i 0):=by
 unfold gT;by_cases hi:i<t.length
 ·rw[uo hi,wi,yz hi];rfl
 ·rw[rk Yd,List.getElem?_replicate,zo Yd,wi,tq Yd];rfl
theorem wH{r:dG}{t:List Int}(h:t∈truths r):oS r t:=pZ (xf.1 h).1


def gG(r:dG)(o:Option Int)(t:List Int):Option Int:=if cK r t=true then some (match o with|none=>(jM r t:Int)|some m=>min m (jM r t))else o
def fL(r:dG)(us:List (List Int)):Option Int:=us.foldl (gG r) none
theorem vD(r:dG)(us:List (List Int))(t:List Int):fL r (us++[t])=gG r (fL r us) t:=by simp[fL]
theorem TI{r:dG}{o:Option Int}{t:List Int}{w:Int}(h:∃m,o=some m∧m≤w):∃m,gG r o t=some m∧m≤w:=by
 obtain⟨m,rfl,hm⟩:=h;unfold gG;split
 ·exact⟨_,C,Yl⟩
 ·exact⟨m,C,hm⟩
theorem AF{r:dG}{w:Int}:∀(us:List (List Int)) (o:Option Int),(∃m,o=some m∧m≤w)→∃m,us.foldl (gG r) o=some m∧m≤w
 | [],o,h=>h
 |t::us,o,h=>by rw[yp];exact AF us _ (TI h)
theorem Z1{r:dG}{t:List Int}(he:cK r t=true):∀(us:List (List Int)) (o:Option Int),t∈us→∃m,us.foldl (gG r) o=some m∧m≤(jM r t:Int)
 |u::us,o,h=>by
  rw[yp];rcases zm.1 h with rfl|h
  ·refine AF us _ ?_;unfold gG;rw[zo he];refine⟨_,C,?_⟩;split<;>omega
  ·exact Z1 he us _ h
theorem MN{r:dG}{us:List (List Int)}{t:List Int}(h:t∈us):fL r (us++[t])=fL r us:=by
 rw[vD];unfold gG;split
 ·rename_i he;obtain⟨m,hm,hle⟩:=Z1 he us none h;have:fL r us=some m:=hm;rw[this];simp only;rw[Int.min_eq_left hle]
 ·rfl
theorem Ay{t u:List Int}(hl:t.length=u.length)(h:gT t=gT u):t=u:=by
 have:=zn (List.take t.length) h;unfold gT at this;rw[qi,hl,qi]at this;exact this
def R6(r:dG)(pre:List (List Int))(g:Option Int×List Int):Prop:=g.1=fL r ((bP r.places).take pre.length)∧g.2.length=9∧∀u,((bP r.places).take pre.length).getLast?= some u→g.2=gT u
theorem Ml{r:dG}{pre:List (List Int)}{o:Option Int}{last t:List Int}(h:R6 r pre (o,last))(ht:t∈bP r.places)(htake:(bP r.places).take (pre++[gT t]).length=(bP r.places).take pre.length++[t])(hc:(o.isSome&&(gT t==last))=true):R6 r (pre++[gT t]) (o,last):=by
 obtain⟨h1,h2,h3⟩:=h;simp only[zl,th]at hc;obtain⟨ho,hl⟩:=hc;cases hg:((bP r.places).take pre.length).getLast? with
 |none=>
  rw[List.getLast?_eq_none_iff]at hg;rw[hg]at h1;simp only at h1;rw[h1]at ho;cases ho
 |some u=>
  have hu:=List.mem_of_getLast? hg;have h4:=h3 u hg;simp only at h4;have hut:t=u:=Ay (by rw[(pZ ht).1,(pZ (pd hu)).1]) (by rw[hl,h4]);subst hut;refine⟨?_,h2,λv hv=>?_⟩
  ·rw[htake,MN hu];exact h1
  ·rw[htake,List.getLast?_concat]at hv;cases hv;exact h4
theorem Ex{r:dG}{pre:List (List Int)}{o:Option Int}{last t:List Int}(h:R6 r pre (o,last))(I:(gT t).length=9)(htake:(bP r.places).take (pre++[gT t]).length=(bP r.places).take pre.length++[t])
  (hc:(cK r t&&(!o.isSome||decide ((if cK r t=true then(jM r t:Int)else 0)<o.getD 0)))=true):R6 r (pre++[gT t]) (some (if cK r t=true then(jM r t:Int)else 0),gT t):=by
 obtain⟨h1,h2,h3⟩:=h;simp only[zl]at hc;obtain⟨he,hc⟩:=hc;refine⟨?_,I,λv hv=>?_⟩
 ·simp only at h1;rw[htake,vD,←h1];simp only[gG,he,yo]at hc ⊢
  cases o with
  |none=>rfl
  |some m=>
   simp only[Option.isSome_some,Bool.not_true,Bool.false_or,LE,va]at hc;simp only;rw[ow Yd]
 ·rw[htake,List.getLast?_concat]at hv;cases hv;rfl
theorem aGK{r:dG}{pre:List (List Int)}{o:Option Int}{last t:List Int}(h:R6 r pre (o,last))(I:(gT t).length=9)(htake:(bP r.places).take (pre++[gT t]).length=(bP r.places).take pre.length++[t])
  (hc:(cK r t&&(!o.isSome||decide ((if cK r t=true then(jM r t:Int)else 0)<o.getD 0)))=false):R6 r (pre++[gT t]) (o,gT t):=by
 obtain⟨h1,h2,h3⟩:=h;refine⟨?_,I,λv hv=>?_⟩
 ·simp only at h1;rw[htake,vD,←h1];unfold gG;split
  ·rename_i he;simp only[he,v_,yo]at hc;cases o with
   |none=>simp at hc
   |some m=>
    simp only[Option.isSome_some,Bool.not_true,Bool.false_or,yt,va]at hc;simp only;rw[Int.min_eq_left Yd]
  ·rfl
 ·rw[htake,List.getLast?_concat]at hv;cases hv;rfl
def pF(r:dG):Int:=if aW r≠0 then 0 else(fL r (bP r.places)).getD 0
def CH(r:dG):Int:=if aW r≠0 then aW r else if(fL r (bP r.places)).isSome=true then 0 else 10
theorem YU{r:dG}{o:Option Int}(ho:o=fL r (bP r.places))(hf:aW r=0)(h:(!o.isSome)=true):pF r=0∧CH r=10:=by
 have hn:o=none:=xd
 rw[pF,CH,←ho,hn,hf];exact⟨C,C⟩
theorem XP{r:dG}{o:Option Int}(ho:o=fL r (bP r.places))(hf:aW r=0)(h:(!o.isSome)=false):pF r=o.getD 0∧CH r=0:=by
 have hn:o.isSome=true:=xd
 rw[pF,CH,←ho,hf,hn];exact⟨C,C⟩

def S6(p:Int)(t:List Int)(m:Nat):List (List Int):=(List.range m).flatMap λ(c:Nat)=>if p=2∨p=(c:Int)then [t++[(c:Int)]]else []
def kZ(p:Int)(out:List (List Int)):List (List Int):=out.flatMap λt=>S6 p t 2
theorem XU{p:Int}{t:List Int}{m:Nat}(h:p=2∨p=(m:Int)):S6 p t (m+1)=S6 p t m++[t++[(m:Int)]]:=by
 unfold S6;rw[yb,xl];simp[h]
theorem Vp{p:Int}{t:List Int}{m:Nat}(h:¬(p=2∨p=(m:Int))):S6 p t (m+1)=S6 p t m:=by
 unfold S6;rw[yb,xl];simp[h]
theorem Ln{p:Int}{out:List (List Int)}{k:Nat}{t:List Int}(h:out[k]?= some t):kZ p (out.take (k+1))=kZ p (out.take k)++S6 p t 2:=by
 unfold kZ;rw[zg,h,yd,xl];simp
theorem EK:∀(l:List Int) (out:List (List Int)),l.foldl (λo p=>kZ p o) out=out.flatMap λt=>(bP l).map (t++ ·)
 | [],out=>by simp[bP]
 |p::ps,out=>by
  rw[yp,EK ps];unfold kZ;rw[List.flatMap_assoc];congr 1;funext t;have I:∀c:Int,(bP ps).map ((t++[c])++ ·)=((bP ps).map (c:: ·)).map (t++ ·):=λc=>by rw[uf];congr 1;funext u;simp
  by_cases h2:p=2
  ·simp[S6,bP,h2,List.range,List.range.loop,Function.comp_def]
  ·by_cases h0:p=0
   ·simp[S6,bP,h0,List.range,List.range.loop,Function.comp_def]
   ·by_cases h1:p=1
    ·simp[S6,bP,h1,List.range,List.range.loop,Function.comp_def]
    ·simp[S6,bP,h2,h0,h1,List.range,List.range.loop]
theorem m5(l:List Int):l.foldl (λo p=>kZ p o) [[]]=bP l:=by rw[EK];simp
end Go.Fs.C1
namespace Go.Fs
open C1
def RC:Rd zM:=λ_ c cs=>cs=[.bool c.back,qI c.many,qI c.num]
theorem RC.up:RC.Up:=λ_ _ _ h=>h
def iV(n:Int):Γ:=qI n
def cV(c:zM):Γ:=.agg #[.bool c.back,qI c.many,qI c.num]
def nS(D:aC)(v:Γ)(r:dG):Prop:=∃pv cv,v=.agg #[pv,cv,qI r.wrong,qI r.off]∧Sl D RI 1 pv r.places∧Sl D RC 3 cv r.counts
theorem nS.up{D D':aC}{v:Γ}{r:dG}(h:nS D v r)(hl:Le D D'):nS D' v r:=by
 obtain⟨pv,cv,hv,hp,hc⟩:=h;exact⟨pv,cv,hv,hp.up RI.up hl,hc.up RC.up hl⟩
def idxOf{α:Type}(p:α→Bool)(xs:List α):Int:=if xs.any p then(xs.findIdx p:Int)else -1
def RT:Rd (List Int):=λ_ t cs=>cs=ints (gT t)
theorem RT.up:RT.Up:=λ_ _ _ h=>h
def Rj(D:aC)(v:Γ)(r:dG):Prop:=∃b pv cv tv,v=qP b∧At D b 0 [pv,cv,qI r.wrong,qI r.off,tv]∧Sl D RI 1 pv r.places∧Sl D RC 3 cv r.counts∧Sl D RT 9 tv (truths r)
def i7(e:Nat)(r:dG)(pre:List (List Int))(g:Γ×aF):Prop:=bM e 9 g.1 (((bP r.places).take pre.length).filter (fits r)).length ((((bP r.places).take pre.length).filter (fits r)).flatMap λt=>ints (gT t)) g.2
theorem ZU{l:List (List Int)}(h:∀t∈l,t.length≤9):(l.flatMap λt=>ints (gT t)).length=l.length*9:=by
 induction l with
 |nil=>rfl
 |cons t l ih=>
  rw[xy,zf,ih λt ht=>h t (GT _ ht),zh,Fs.aL,iP (h t zj),xb];omega
theorem KC{l:List (List Int)}(h:∀t∈l,t.length≤9){i:Nat}{t:List Int}(hi:l[i]?= some t):((l.flatMap λt=>ints (gT t)).drop (i*9)).take 9=ints (gT t):=by
 induction l generalizing i with
 |nil=>simp at hi
 |cons u l ih=>
  have hu:(ints (gT u)).length=9:=by rw[Fs.aL,iP (h u zj)]
  rw[xy];cases i with
  |zero=>
   obtain rfl:u=t:=wy
   rw[ug,sk,vg Yd,ww Yd]
  |succ i=>
   rw[rd,wl Yd,ya,hu,show(i+1)*9-9=i*9 by omega];exact ih (λt ht=>h t (GT _ ht)) wy
theorem lB.truths{D:aC}{v:Γ}{n:Nat}{l:List (List Int)}(hF:lB D v n (l.flatMap λt=>Fs.ints (gT t)))(hn:l.length=n)(hb:n≤9223372036854775807)(h:∀t∈l,t.length≤9):Sl D RT 9 v l:=
 hF.sl hn hb λi t hi=>⟨Fs.ints (gT t),C,by rw[Fs.aL,iP (h t (GE hi))],KC h hi⟩
theorem aBG{e sz b:Nat}{cells:List Γ}(h:cells.length=sz):bM e sz (qS b 1 1) 1 cells [(b,.cells cells.toArray e (0,0))]:=
 zt ⟨b,1,[],C,zk _,Yf,Yd,xw⟩
theorem lB.at{D:aC}{b n cap:Nat}{cells:List Γ}(h:lB D (qS b n cap) n cells)(hn:0<n):At D b 0 cells:=by
 rcases h with⟨a,hv,h0,_⟩|⟨b',cap',hv,_,hA⟩
 ·omega
 ·cases hv;exact hA
variable{P:Program}{X:Cx}{γb:Type}[Membership Nat γb]{H:γb}{G:Array Oper}{K:Act→Δ→Prop}{Q:Exit→Act→Δ→Prop}
variable{T:bZ}{L:aF}{W:List aC}{os:List (Bool×Nat)}{fl:Bool}{ix:Nat}
variable{d:Nat}{x y z:Operand}{u v:Γ}{ty:Θ}{pos:String}{aft:Array Edge}{g:Option (Nat×Bool)}
theorem gL{e:Θ}{q:IntKind}(hu:P.underlying e=some (.int q)){xs:Array Γ}{off:Nat}{v:Γ}(hx:xs[off]?= some v)(w:Δ):(part e xs off).run P w=.ok v w:=
 run_part_plain w (by simp[Program.plainKey,hu]) hx
theorem oY(dp:Nat){e:Θ}(hu:P.underlying e=some (.int .i64))(l m:List Int)(w:Δ):∀(is:List Nat),(∀i∈is,i<l.length∧i<m.length)→
  (Op.eqItems (dp+1) e 1 (ints l).toArray (ints m).toArray is).run P w=.ok (is.all λi=>l[i]? ==m[i]?) w
 | [],_=>by simp[Op.eqItems]
 |i::is,h=>by
  obtain⟨h1,h2⟩:=h i zj;have g1:(ints l).toArray[i*1]?= some (qI l[i]):=by rw[xp];simpa using dA (yz h1)
  have g2:(ints m).toArray[i*1]?= some (qI m[i]):=by rw[xp];simpa using dA (yz h2)
  simp only[Op.eqItems,Ω,gL hu g1,gL hu g2,run_equalIn_int w dp e .i64 .i64 _ _ hu,Ξ,uh,yz h1,yz h2];by_cases he:l[i]=m[i]
  ·simp[he,oY dp hu l m w is (λj hj=>h j (GT _ hj))]
  ·simp[he]
theorem J8{l m:List Int}{n:Nat}(hl:l.length=n)(hm:m.length=n):((List.range n).all λi=>l[i]? ==m[i]?)=(l==m):=by
 rw[vv];simp only[yu,yj,th];constructor
 ·intro h;apply List.ext_getElem?;intro i;by_cases hi:i<n
  ·exact h i hi
  ·rw[tq Yd,tq Yd]
 ·rintro rfl i _;rfl
theorem dn{t e t':Θ}{n:Nat}{l m:List Int}(ho:G[ix]?= some ⟨some d,.binOp .eql t x y t',ty,pos,aft,g⟩)(hgt:P.eqGuardType P.depth t=false)(ht:P.underlying t=some (.array n e))(he:P.underlying e=some (.int .i64))(hc:P.cellsOf e=1)
  (hl:l.length=n) (hm:m.length=n) (hx:ev T x=some (.agg (ints l).toArray)) (hy:ev T y=some (.agg (ints m).toArray)) (hN:Nat.blt d X.N=true) (hg:dF G T g)
  (kk:WL P X H G K Q os ((d,.bool (l==m))::T) L W):WL P X H G K Q ((fl,ix)::os) T L W:=
 j3 ho (λw=>by
  have hgd:(eqGuard .eql t x y (.agg (ints l).toArray) (.agg (ints m).toArray)).run P w=.ok () w:=by
   simp only[eqGuard,program];simp[Sem.run,hgt,go_sem]
  have heq:(Op.equal t (.agg (ints l).toArray) (.agg (ints m).toArray)).run P w=.ok (l==m) w:=by
   obtain⟨i,hi⟩:=info_of_underlying he;have h:=run_equalIn_array (P:=P) w 9999 (ints l).toArray (ints m).toArray ht hi;rw[hc,oY 9998 he l m w (List.range n) λj hj=>by have:=yj.1 hj;omega,J8 hl hm]at h
   exact h
  rw[Ω,hgd];show((do Pure.pure (Value.bool (←Op.equal t (.agg (ints l).toArray) (.agg (ints m).toArray)))):Sem Γ).run P w=_;rw[Ω,heq];rfl) hx hy hN hg kk

def K2(P:Program)(k:Θ):Prop:=P.underlying k=some (.struct (P.fieldsOf k))∧P.stoodInHeld k=false∧
 (P.fieldsOf k).toList.map (λf=>(f.name== "_",f.offset,P.underlying f.type))=[(false,0,some (.int .i64)),(false,1,some (.int .i64))]
def nA(k:Int×Int):Γ:=.agg #[qI k.1,qI k.2]
theorem K2.fields{k:Θ}(h:K2 P k):∃f0 f1,P.underlying k=some (.struct #[f0,f1])∧P.fieldsOf k=#[f0,f1]∧f0.name≠ "_" ∧f1.name≠ "_" ∧f0.offset=0∧f1.offset=1∧P.underlying f0.type=some (.int .i64)∧P.underlying f1.type=some (.int .i64):=by
 obtain⟨h1,h2,h3⟩:=h;generalize hl:(P.fieldsOf k).toList=fs at h3;have h0:=zn List.length h3;simp only[yh,zh,wp]at h0;rcases fs with _|⟨f0,_|⟨f1,_|⟨f2,fs⟩⟩⟩<;>simp only[zh,wp]at h0<;>try omega
 have he:P.fieldsOf k=#[f0,f1]:=by rw[←Array.toArray_toList (xs:=P.fieldsOf k),hl]
 simp only[yl,tj,vx,ux,and_true,beq_eq_false_iff_ne]at h3;exact⟨f0,f1,by rw[h1,he],he,h3.1.1,h3.2.1,h3.1.2.1,h3.2.2.1,h3.1.2.2,h3.2.2.2⟩
theorem AC{k:Θ}(h:K2 P k)(a b:Int×Int)(w:Δ):(Op.equal k (nA a) (nA b)).run P w=.ok (a==b) w:=by
 obtain⟨I,a2⟩:=a;obtain⟨O,b2⟩:=b;obtain⟨f0,f1,hu,hf,R,U,V,Y,t0,t1⟩:=h.fields;have he:=run_equalIn_struct (P:=P) w 9999 k #[qI I,qI a2] #[qI O,qI b2] h.1 h.2.1;show(Op.equalIn (9999+1) k (.agg #[qI I,qI a2]) (.agg #[qI O,qI b2])).run P w=_;rw[he,hf];have p0:∀c1 c2:Int,(part f0.type #[qI c1,qI c2] f0.offset).run P w=.ok (qI c1) w:=λc1 c2=>gL t0 (by rw[V];rfl) w
 have p1:∀c1 c2:Int,(part f1.type #[qI c1,qI c2] f1.offset).run P w=.ok (qI c2) w:=λc1 c2=>gL t1 (by rw[Y];rfl) w
 have e0:=run_equalIn_int w 9998 f0.type .i64 .i64 I O t0;have Z:=run_equalIn_int w 9998 f1.type .i64 .i64 a2 b2 t1;have s1:(Op.eqFields 9999 #[qI I,qI a2] #[qI O,qI b2] [f1]).run P w=.ok (a2==b2) w:=by
  simp only[Op.eqFields,U,ne_eq,p_,yo,Ω,p1,Ξ];rw[Z];simp only[Ξ];cases a2==b2<;>rfl
 show(Op.eqFields 9999 #[qI I,qI a2] #[qI O,qI b2] (f0::[f1])).run P w=_;rw[Op.eqFields,zo R];simp only[Ω,p0,Ξ];rw[e0];simp only[Ξ];by_cases hab:I=O
 ·subst hab;simp only[beq_self_eq_true,Bool.not_true,wt,xx];rw[s1];have:(a2==b2)=((I,a2)==(I,b2)):=by rw[vv];simp
  rw[this]
 ·have hb:(I==O)=false:=by simpa using hab
  simp only[hb,Bool.not_false,yo,ε];simp[hab]
theorem Rq{t t':Θ}{a b:Int×Int}(ho:G[ix]?= some ⟨some d,.binOp .eql t x y t',ty,pos,aft,g⟩)(hgt:P.eqGuardType P.depth t=false)(ht:K2 P t)(hx:ev T x=some (nA a))(hy:ev T y=some (nA b))(hN:Nat.blt d X.N=true)(hg:dF G T g)
  (kk:WL P X H G K Q os ((d,.bool (a==b))::T) L W):WL P X H G K Q ((fl,ix)::os) T L W:=
 j3 ho (λw=>by
  have hgd:(eqGuard .eql t x y (nA a) (nA b)).run P w=.ok () w:=by
   simp only[eqGuard,nA,program];simp[Sem.run,hgt,go_sem]
  rw[Ω,hgd];show((do Pure.pure (Value.bool (←Op.equal t (nA a) (nA b)))):Sem Γ).run P w=_;rw[Ω,AC ht];rfl) hx hy hN hg kk
theorem mJ{k k':IntKind}{s t:Θ}{u':TypeDesc}{n:Int}(ho:G[ix]?= some ⟨some d,.convert s t x,ty,pos,aft,g⟩)(hs:P.underlying s=some u')(ht:P.underlying t=some (.int k'))(hx:ev T x=some (.int k n))(hn:vE k' n)(hN:Nat.blt d X.N=true)(hg:dF G T g)
  (kk:WL P X H G K Q os ((d,.int k' n)::T) L W):WL P X H G K Q ((fl,ix)::os) T L W:=
 Fi ho (λw=>by
  simp only[Go.convert,Ω,TU.of hs w,TU.of ht w,Ξ,Conv.intToInt,tL hn];rfl) hx hN hg kk
theorem bM.shape{e:Θ}{sz n:Nat}{cells:List Γ}{ν:aF}(h:bM e sz v n cells ν):∃a cap,v=.slice a n cap:=by
 rcases h with⟨a,hv,hn,_,_⟩|⟨b,cap,junk,hv,_⟩
 ·exact⟨a,0,by rw[hv,hn]⟩
 ·exact⟨_,cap,hv⟩
theorem Sl.shape{α:Type}{R:Rd α}{D:aC}{sz:Nat}{xs:List α}(h:Sl D R sz v xs):∃a cap,v=.slice a xs.length cap:=by
 obtain⟨a,cap,hv,_⟩:=h;exact⟨a,cap,hv⟩
theorem Z4{t e:Θ}{sz n:Nat}{parts:Array (Nat×Operand)}{us:List (Nat×Γ)}{rs:List Γ}{z0:Γ}(ho:G[ix]?= some ⟨some d,.buildSlice t n parts,ty,pos,aft,g⟩)(ht:P.underlying t=some (.slice e))(hs:TS P e sz)(hz:TZ P e z0)(_hz1:Nat.beq z0.cells.size sz=true)
  (hu:HN T parts.toList=some us) (hn:us.length=n) (hnz:Nat.ble (n*sz) 4096=true) (hf:SH sz 0 us rs) (hN:Nat.blt d X.N=true) (hg:dF G T g)
  (kk:∀b,bM e sz (qS b n n) n rs [(b,.cells rs.toArray e (0,0))]→WL P X H G K Q os ((d,qS b n n)::T) ((b,.cells rs.toArray e (0,0))::L) W):WL P X H G K Q ((fl,ix)::os) T L W:=by
 refine fW ho C C hg λa w hh=>?_
 obtain⟨h1,h2,h3,D,h4,h5,O⟩:=id hh;have hnz':n*sz≤4096:=vf hnz;have hlen:rs.length=n*sz:=by rw[hf.len,hn]
 have I:(parts.map λ(i,x)=>(i,a.eval x)).toList=us:=by rw[←A8 (λ_ _ hx=>hh.eval hx) hu];simp
 have hrun:(execOp a.eval ⟨some d,.buildSlice t n parts,ty,pos,aft,g⟩).run P w=.ok (.value (.slice (some ⟨w.heap.size,0,none⟩) n n)) {w with heap:=w.heap.push (.cells rs.toArray e (0,0))}:=by
  simp only[execOp,Instr.buildSlice,Ω,TU.of ht w,Ξ,hs w];rw[zv Yd];simp only[pure_bind];have key:∀zc:Array Γ,Instr.fill (λi=>some (i*sz,sz)) ((Array.range (n*sz)).map (zc[· %zc.size]!)) us=some rs.toArray:=by
   intro zc;have:=NO hf [] ((Array.range (n*sz)).map (zc[· %zc.size]!)).toList Yf (by simp[hlen]);rw[ya,ya]at this;exact this
  split
  ·simp only[Ω,ε,Ξ,I,key,kV]
  ·simp only[Ω,ε,Ξ,hz w,I,key,kV]
 rw[hrun];have hs':=h4.push (.cells rs.toArray e (0,0)) C;refine⟨λ_=>rH _ _ _,kk w.heap.size (zt ⟨_,n,[],C,zk _,Yf,hlen,by simpa using hlen⟩) _ _ (Hl.put ⟨h1,h2,h3,D,hs',h5,O.step (λ_ p hp=>?_) (λ_=>S5 _ _) hs'.dom⟩ hN _)⟩;rcases zm.1 hp with rfl|hp
 ·exact zt (zk _)
 ·exact zq (n5.2 ⟨p,hp,C⟩)
theorem FI{k:Θ}(h:K2 P k)(em:Bool)(a:Int×Int)(w:Δ):(Instr.checkKey em 10000 k (nA a)).run P w=.ok () w:=by
 obtain⟨f0,f1,hu,hf,I,O,R,U,t0,t1⟩:=h.fields;have p0:(part f0.type #[qI a.1,qI a.2] f0.offset).run P w=.ok (qI a.1) w:=gL t0 (by rw[R];rfl) w
 have p1:(part f1.type #[qI a.1,qI a.2] f1.offset).run P w=.ok (qI a.2) w:=gL t1 (by rw[U];rfl) w;have c0:(Instr.checkKey em (9998+1) f0.type (qI a.1)).run P w=.ok () w:=by
  rw[Instr.checkKey,Ω,TU.of t0 w];rfl
 have c1:(Instr.checkKey em (9998+1) f1.type (qI a.2)).run P w=.ok () w:=by
  rw[Instr.checkKey,Ω,TU.of t1 w];rfl
 show(Instr.checkKey em (9999+1) k (.agg #[qI a.1,qI a.2])).run P w=_;rw[Instr.checkKey,Ω,TU.of hu w];simp only[Ξ];rw[←Array.forIn_toList];simp only[List.forIn_cons,List.forIn_nil,I,O,ne_eq,p_,yo,Ω,p0,Ξ,ε];rw[c0];simp only[Ξ,ε,Ω,p1];rw[c1];simp
theorem A2{t:Θ}(ho:G[ix]?= some ⟨some d,.makeMap t none,ty,pos,aft,g⟩)(hN:Nat.blt d X.N=true)(hg:dF G T g)
  (kk:∀b,WL P X H G K Q os ((d,.map (some b))::T) ((b,.map #[] 0)::L) W):WL P X H G K Q ((fl,ix)::os) T L W:=by
 refine fW ho C C hg λa w hh=>?_
 obtain⟨h1,h2,h3,D,h4,h5,I⟩:=id hh;have:(execOp a.eval ⟨some d,.makeMap t none,ty,pos,aft,g⟩).run P w=.ok (.value (.map (some w.heap.size))) {w with heap:=w.heap.push (.map #[] 0)}:=rfl;rw[this];exact⟨λ_=>rH _ _ _,kk _ _ _ (Hl.put ⟨h1,h2,h3,D,h4.push _ (show dH (.map #[] 0)from zy),h5,I.step (λ_ p hp=>jh) (λ_=>S5 _ _) (h4.push _ (show dH (.map #[] 0)from zy)).dom⟩ hN _)⟩
theorem qQ{w:Δ}{r:Nat}{es:Array MapEntry}{clock:Nat}(h:w.heap[r]?= some (.map es clock)):(getObj r).run P w=.ok (.map es clock) w:=by
 simp[getObj,Sem.run,h]

theorem Wbk{t t':Θ}{m n:Int}{k:IntKind}(ho:G[ix]?= some ⟨some d,.binOp .shl t x y t',ty,pos,aft,g⟩)(hx:ev T x=some (qI m))(hy:ev T y=some (.int k n))(h0:0≤n)(h1:n<64)(hr:vE .i64 (m*2^n.toNat))(hN:Nat.blt d X.N=true)(hg:dF G T g)
  (kk:WL P X H G K Q os ((d,qI (m*2^n.toNat))::T) L W):WL P X H G K Q ((fl,ix)::os) T L W:=
 cB ho C C hN hg (λρ hρ w'=>by
  have hn:min n.toNat IntKind.i64.bits=n.toNat:=by have:IntKind.i64.bits=64:=rfl;omega
  have h0':¬n<0:=Yd
  have hs:(binOp .shl t (qI m) (.int k n)).run P w'=.ok (qI (m*2^n.toNat)) w':=by
   show(Op.shift .shl .i64 m k n).run P w'=_;unfold Op.shift;rw[zv h0'];simp only[hn,tL hr,ε]
  have hg:∀w,(eqGuard .shl t x y (qI m) (.int k n)).run P w=.ok () w:=λw=>C
  simp only[execOp,hρ x _ hx,hρ y _ hy,Ω,hg,Ξ,hs,ε]) kk

def Pb(X:Cx)(b:Nat)(post:aC→Γ→Obj→Prop):Ending→Δ→Prop:=λe w'=>∃v D' o',e=.returned v∧jH X.h0 X.lo X.D0 X.mods [(b,o')] D' w'∧post D' v o'
theorem cS{fn:Func}{b:Nat}{o':Obj}{post:aC→Γ→Obj→Prop}{e:Exit}(he:(match e with|.normal=>true|.ret=>true|_=>false)=true){rs:List ResultVar}{vs:List Γ}(hds:X.ds=[])(hr:fn.results=rs.toArray)(h:N3 P X T L rs vs)
  (hm:(b,o')∈L) (hp:∀D,(∀D₁∈W,Le D₁ D)→post D (sR vs) o'):∀a w,Hl X T L W a w→bodyPost P fn (Pb X b post) e a w:=by
 intro a w hh;have hrun:=jP hh hr h;obtain⟨h1,h2,h3,D,h4,h5,I⟩:=hh;have:a.defers=[]∧∃v,(results fn a.tmps).run P w=.ok v w∧Pb X b post (.returned v) w:=⟨h3.trans hds,_,hrun,_,D,o',C,h4.sub (λp hp=>by rw[yf.1 hp];exact hm) Yf,hp D h5⟩
 cases e<;>first|exact this|cases he
theorem IB{t t':Θ}{n:Nat}(ho:G[ix]?= some ⟨some d,.binOp .shl t x y t',ty,pos,aft,g⟩)(hx:ev T x=some (qI 1))(hy:ev T y=some (qI (n:Int)))(h1:n<62)(hN:Nat.blt d X.N=true)(hg:dF G T g)
  (kk:WL P X H G K Q os ((d,qI ((2^n:Nat):Int))::T) L W):WL P X H G K Q ((fl,ix)::os) T L W:=by
 have h2:(2:Nat)^n<2^62:=Nat.pow_lt_pow_right Yd h1;have e:(1:Int)*2^(n:Int).toNat=((2^n:Nat):Int):=Yf
 have hr:vE .i64 ((1:Int)*2^(n:Int).toNat):=by
  rw[e];generalize (2:Nat)^n=q at h2;simp only[vE];omega
 refine Wbk ho hx hy Yd Yd hr hN hg ?_;rw[e];exact kk
def NC(P:Program)(f:FuncId)(args:Array Γ)(D:aC)(post:aC→Γ→aF→Prop):Prop:=
 EF P f∧∀w,gI D w→Calls P f args w λe w'=>∃v D' ν,e=.returned v∧jH (hd w) w.heap.size D [] ν D' w'∧post D' v ν
theorem sE{f:FuncId}{fn:Func}{c:Code}{args:List Γ}{D:aC}{post:aC→Γ→aF→Prop}(N:Nat)(hf:P.funcs[f]?= some fn)(hn:(fn.name== "runtime.NumGoroutine")=false)(hb:fn.body=some c)(hN:fn.ntmps=N)(hsz:Nat.ble args.length N=true)
  (h:∀h0:H0,WC P ⟨none,N,[],h0,h0.size,D,[],none⟩ (bodyPost P fn (sN ⟨none,N,[],h0,h0.size,D,[],none⟩ post)) c (kA 0 args) [] [D]):NC P f args.toArray D post:=by
 refine⟨EF.of hf hn hb,λw hw=>?_⟩;subst hN;have hsz:=vf hsz;refine(eC (r:=none) (n:=0)).1 ((callsIn_of_wp (R:=sN ⟨none,fn.ntmps,[],hd w,w.heap.size,D,[],none⟩ post) hf hb zy (h (hd w) _ w ⟨?_,λs v hs=>?_,C,D,⟨zk _,zk _,λ_ _ _=>C,λ_ _=>C,hw,Yi,wz,Yi,λe he=>yi he⟩,λD₁ h1=>?_,zy⟩) C).mono ?_)
 ·simp;omega
 ·obtain⟨_,h2⟩:=gV args 0 s v hs;have hl:=(yx.1 h2).1;simp only[uw]at h2 hl;show(args.toArray++_)[s]?= some v;rw[sb uu];simpa using h2
 ·simp only[yf]at h1;subst h1;exact Le.refl _
 ·rintro e w' ⟨v,D',μ',rfl,hs,hp⟩;exact⟨v,D',μ',C,hs,hp⟩
theorem jH.afterO{h0:H0}{lo:Nat}{D0 D D':aC}{mods:List Nat}{L ν:aF}{w w':Δ}(h:jH h0 lo D0 mods L D w)(hs:jH (hd w) w.heap.size D [] ν D' w'):jH h0 lo D0 mods (ν++L) D' w':=by
 have h1:=h.after (hs.sub (μ':=[]) Yi wz);have hge:∀p∈ν,w.heap.size≤p.1:=λp hp=>(hs.box p hp).2.2.resolve_right Yf
 refine⟨h1.hlo,h1.size,h1.old,h1.dold,h1.agr,λp hp=>?_,?_,(λp hp=>by rcases zd.1 hp with hp|hp;exact hs.fz p hp;exact h.fz p hp),h1.env⟩
 ·rcases zd.1 hp with hp|hp
  ·obtain⟨a,b,_⟩:=hs.box p hp;exact⟨a,b,zq (xj h.size (hge p hp))⟩
  ·exact h1.box p hp
 ·rw[ze,za];refine⟨hs.nd,h.nd,λa ha b hb=>?_⟩;obtain⟨p,hp,rfl⟩:=n5.1 ha;obtain⟨q,hq,rfl⟩:=n5.1 hb;have:=hge p hp;have:=bR (h.box q hq).1;omega
theorem gQ{c:Operand}{xs:Array Operand}{ats:Array Θ}{f:FuncId}{c1 c2:List Γ}{vs:List Γ}{post:aC→Γ→aF→Prop}(ho:G[ix]?= some ⟨some d,.call {callee:=.value c,args:=xs,argTypes:=ats},ty,pos,aft,g⟩)(hc:ev T c=some (.func (.func f) c1.toArray c2.toArray))(hxs:CM T xs.toList=some vs)
  (hf:∀D,(∀D₁∈W,Le D₁ D)→NC P f (c1++vs++c2).toArray D post) (hN:Nat.blt d X.N=true) (hg:dF G T g)
  (kk:∀v D ν,(∀D₁∈W,Le D₁ D)→post D v ν→WL P X H G K Q os ((d,v)::T) (ν++L) (D::W)):
  WL P X H G K Q ((fl,ix)::os) T L W:=by
 refine fW ho C C hg λa w hh=>?_
 obtain⟨h1,h2,h3,D,h4,h5,I⟩:=id hh;have hF:=hf D h5;rw[zR hF.1 (hh.eval hc) (mY (λ_ _ hx=>hh.eval hx) hxs)];refine⟨λh=>vk,eC.2 ((hF.2 w h4.agr).mono ?_)⟩;rintro e w' ⟨v,D',ν,rfl,hs,hpost⟩;have hle:=iJ h4.agr hs;refine⟨λ_=>hs.keep H,kk v D' ν (λD₁ hD₁=>(h5 D₁ hD₁).trans hle) hpost _ _ ?_⟩;refine Hl.put ⟨h1,h2,h3,D',h4.afterO hs,λD₁ hD₁=>?_,I.step (λ_ p hp=>?_) (λ_=>hs.low _) (h4.afterO hs).dom⟩ hN v
 ·rcases zm.1 hD₁ with rfl|hD₁
  ·exact Le.refl _
  ·exact(h5 D₁ hD₁).trans hle
 ·rcases zd.1 hp with hp|hp
  ·exact zt ((hs.box p hp).2.2.resolve_right Yf)
  ·exact zq (n5.2 ⟨p,hp,C⟩)
theorem eV{t e:Θ}{sz b o n cap:Nat}{k:IntKind}{i:Int}(ho:G[ix]?= some ⟨some d,.indexAddr t x y,ty,pos,aft,g⟩)(ht:P.underlying t=some (.slice e))(hs:TS P e sz)(hx:ev T x=some (.slice (some ⟨b,o,none⟩) n cap))
  (hy:ev T y=some (.int k i)) (h0:0≤i) (hi:i<n) (hN:Nat.blt d X.N=true) (hg:dF G T g)
  (kk:WL P X H G K Q os ((d,.pointer (some ⟨b,o+i.toNat*sz,none⟩))::T) L W):WL P X H G K Q ((fl,ix)::os) T L W:=
 cB ho C C hN hg (λρ hρ w'=>by
  simp only[execOp,hρ x _ hx,hρ y _ hy];unfold Instr.indexAt asIntOf;simp only[Ω,TU.of ht w',Ξ,hs w',ε,pure_bind,h0,hi,vl,yo,iL]) kk
theorem bM.some{e:Θ}{sz n:Nat}{cells:List Γ}{ν:aF}(h:bM e sz v n cells ν)(hn:0<n):∃b cap junk,v=qS b n cap∧n≤cap∧ν=[(b,.cells (cells++junk).toArray e (0,0))]∧cells.length=n*sz∧(cells++junk).length=cap*sz:=by
 rcases h with⟨_,_,h0,_⟩|h
 ·omega
 ·exact h
namespace C2
open C1 (gF bH qH kU)
structure Mk where
 frm:Int
 to:Int
 lo:Int
 hi:Int
deriving DecidableEq
structure bA where
 last:Int
 heights:List (Int×Int)
 step:Int
 levels:List Int
 marks:List Mk
def gD(n:Int):Bool:=gF n 0 99
def jN(r:Int×Int):Bool:=decide (r.1≤r.2)&&gD r.1&&gD r.2
def fZ(r:Int×Int):Int:=r.2-r.1+1
def IE(last n:Int):Bool:=gF n 0 last
def sK(last a b:Int):Bool:=IE last a&&IE last b&&decide (a≤b)
def xQ(last:Int)(m:Mk):Bool:=sK last m.frm m.to&&jN (m.lo,m.hi)
def sO(hs:List (Int×Int)):Int:=hs.foldl (λ(m:Int) r=>min (m*fZ r) 2001) 1
def iF(step:Int)(p:Option Int)(n:Int):Bool:=match p with
 |none=>true
 |some q=>gF (n-q) (-step) step
def iX(step:Int):List (Int×Int)→Option Int→List (List Int)
 | [],_=>[[]]
 |r::rs,p=>(List.range (fZ r).toNat).flatMap λ(k:Nat)=>if iF step p (r.1+k)=true then(iX step rs (some (r.1+k))).map (λl=>(r.1+(k:Int))::l)else []
def fM(t:bA):List (List Int):=iX t.step t.heights none
def aOT(t:bA):Bool:=decide (t.last>9)||decide ((t.levels.length:Int)>6)||decide ((t.marks.length:Int)>5)
def bMM(t:bA):Bool:=decide (0≤t.last)&&decide ((t.heights.length:Int)=t.last+1)&&t.heights.all jN&&gD t.step&&t.levels.all gD&&t.marks.all (xQ t.last)
def aW(t:bA):Int:=if aOT t=true then 3 else if bMM t=false then 1 else if 2000<sO t.heights then 3 else if fM t=[]then 9 else 0
def cO(s:List Int)(a b:Int):Int:=kU ((s.drop a.toNat).take (b+1-a).toNat)
def iI(t:bA)(s:List Int):Bool:=t.marks.all λm=>gF (cO s m.frm m.to) m.lo m.hi
def yR(t:bA)(acc:List (List Int))(s:List Int):List (List Int):=if iI t s=false∨acc.getLast?= some s then acc else acc++[s]
def bI(t:bA):List (List Int):=(fM t).foldl (yR t) []
def nG(t:bA)(fine:Bool):Int:=if aW t≠0 then aW t else if fine=false then 2 else if bI t=[]then 11 else 0
def ge(s:List Int)(i:Nat):Int:=s.getD i 0
def H4(t:bA)(i:Nat):Int×Int:=(qH ((bI t).map (ge · i)),kU ((bI t).map (ge · i)))
def cX(s:List Int)(level:Int):Int:=((s.takeWhile λn=>decide (n≤level)).length:Int)
def aZE(t:bA)(level:Int):Int×Int:=(qH ((bI t).map (cX · level)),kU ((bI t).map (cX · level)))
def bSH(t:bA)(a b:Int):Int:=kU ((bI t).map (cO · a b))
def dT(l:List Int):List Int:=l++List.replicate (10-l.length) 0
theorem hU{l:List Int}(h:l.length≤10):(dT l).length=10:=by simp[dT];omega
theorem Ld{c l:List Int}(h2:c.take l.length=l)(h3:c.drop l.length=List.replicate (10-l.length) 0):dT l=c:=by
 unfold dT;rw[←h3]
 conv=>rhs;rw[←sq l.length c,h2]
def vh(step:Int)(rs:List (Int×Int))(pre:List Int)(r:Int×Int)(k:Nat):List (List Int):=(List.range k).flatMap λ(m:Nat)=>if iF step pre.getLast? (r.1+m)=true then(iX step rs (some (r.1+m))).map (λt=>dT (pre++(r.1+(m:Int))::t))else []
theorem Dg{step:Int}{rs:List (Int×Int)}{pre:List Int}{r:Int×Int}:vh step rs pre r 0=[]:=rfl
theorem Xbg{step:Int}{rs:List (Int×Int)}{pre:List Int}{r:Int×Int}{k:Nat}(h:iF step pre.getLast? (r.1+k)=false):vh step rs pre r (k+1)=vh step rs pre r k:=by
 unfold vh;rw[yb,xl,um,zv (by simp[h]),yr]
theorem Vb{step:Int}{rs:List (Int×Int)}{pre:List Int}{r:Int×Int}{k:Nat}(h:iF step pre.getLast? (r.1+k)=true):vh step rs pre r (k+1)=vh step rs pre r k++(iX step rs ((pre++[r.1+(k:Int)]).getLast?)).map (λt=>dT ((pre++[r.1+(k:Int)])++t)):=by
 unfold vh;rw[yb,xl,um,zo h,List.getLast?_concat];simp
theorem Si{step:Int}{rs:List (Int×Int)}{pre:List Int}{r:Int×Int}:vh step rs pre r (fZ r).toNat=(iX step (r::rs) pre.getLast?).map (λt=>dT (pre++t)):=by
 unfold vh;simp only[iX];rw[List.map_flatMap]
 congr 1;funext m
 split<;>simp
theorem aGG{step:Int}{rs:List (Int×Int)}{pre:List Int}{r:Int×Int}{k n:Nat}(hk:k<n):∃rr,vh step rs pre r n=vh step rs pre r (k+1)++rr:=by
 refine⟨((List.range n).drop (k+1)).flatMap λ(m:Nat)=>if iF step pre.getLast? (r.1+m)=true then(iX step rs (some (r.1+m))).map (λt=>dT (pre++(r.1+(m:Int))::t))else [],?_⟩;unfold vh;rw[←xl];congr 1;have h:=sq (k+1) (List.range n);rw[List.take_range,uj Yd]at h;exact h.symm
theorem HT{step:Int}:∀(rs:List (Int×Int)) (p:Option Int) (t:List Int),t∈iX step rs p→t.length=rs.length
 | [],p,t,h=>by simp[iX]at h;subst h;rfl
 |r::rs,p,t,h=>by
  simp only[iX,vr,yj]at h;obtain⟨m,hm,h⟩:=h;split at h
  ·obtain⟨u,hu,rfl⟩:=n5.1 h;rw[zh,HT rs _ u hu,zh]
  ·cases h
theorem SD{step:Int}:∀(rs:List (Int×Int)) (p:Option Int) (t:List Int),(∀r∈rs,jN r=true)→t∈iX step rs p→∀x∈t,0≤x∧x≤99
 | [],p,t,_,h=>by simp[iX]at h;subst h;intro x hx;cases hx
 |r::rs,p,t,hr,h=>by
  simp only[iX,vr,yj]at h;obtain⟨m,hm,h⟩:=h;split at h
  ·obtain⟨u,hu,rfl⟩:=n5.1 h;intro x hx;rcases zm.1 hx with rfl|hx
   ·have h1:=hr r zj;unfold jN gD at h1;simp only[zl,LE,bH]at h1;unfold fZ at hm;omega
   ·exact SD rs _ u (λq hq=>hr q (GT _ hq)) hu x hx
  ·cases h
structure MU(t:bA):Prop where
 last:0≤t.last∧t.last≤9
 len:(t.heights.length:Int)=t.last+1
 step:0≤t.step∧t.step≤99
 hts:∀r∈t.heights,jN r=true
 lev:t.levels.length≤6
 levs:∀n∈t.levels,0≤n∧n≤99
 mks:t.marks.length≤5
 mark:∀m∈t.marks,xQ t.last m=true
theorem tOk{t:bA}(h1:aOT t=false)(h2:bMM t=true):MU t:=by
 unfold aOT at h1;unfold bMM gD at h2;simp only[xn,yt]at h1;simp only[zl,LE,yu,bH]at h2;obtain⟨⟨⟨⟨⟨h3,h4⟩,h5⟩,I⟩,O⟩,h8⟩:=h2;exact⟨Yd,h4,I,h5,Yd,O,Yd,h8⟩
theorem NN{t:bA}(h:aW t=0):MU t:=by
 unfold aW at h;split at h
 ·omega
 ·rename_i h1;split at h
  ·omega
  ·rename_i h2;exact tOk vj rt
theorem MU.len10{t:bA}(h:MU t):t.heights.length≤10:=by have:=h.len;have:=h.last;omega

theorem De{s:List Int}{a k:Nat}(h:a+k≤s.length):((dT s).drop a).take k=(s.drop a).take k:=by
 unfold dT;rw[List.drop_append_of_le_length Yd,vg xw]
theorem R3{s:List Int}{a b:Int}(h0:0≤a)(h1:a≤b)(h2:b<s.length):cO (dT s) a b=cO s a b:=by
 unfold cO;rw[De Yd]
theorem Hd{last:Int}{m:Mk}(h:xQ last m=true):0≤m.frm∧m.frm≤m.to∧m.to≤last∧0≤m.lo∧m.lo≤m.hi∧m.hi≤99:=by
 unfold xQ sK IE jN gD at h;simp only[zl,LE,bH]at h;omega
theorem Jk{t:bA}(ht:MU t){s:List Int}(hs:(s.length:Int)=t.last+1):iI t (dT s)=iI t s:=by
 unfold iI;rw[vv,yu,yu];constructor<;>intro h m hm<;>have h1:=Hd (ht.mark m hm)<;>have h2:=h m hm
 ·rwa [R3 Yd Yd Yd]at h2
 ·rwa [R3 Yd Yd Yd]
theorem Lb{l:List (List Int)}{pre us:List (List Int)}{x:List Int}(h:l.map dT=pre++x::us):∃s,l[pre.length]?= some s∧x=dT s∧s∈l∧l.take (pre.length+1)=l.take pre.length++[s]:=by
 have h1:(l.map dT)[pre.length]?= some x:=by rw[h];simp
 rw[xt]at h1;obtain⟨s,hs,hx⟩:=s_.1 h1;exact⟨s,hs,hx.symm,GE hs,by rw[zg,hs];rfl⟩
def mB(t:bA)(k:Nat):List (List Int):=((fM t).take k).foldl (yR t) []
theorem m6(t:bA){k:Nat}(h:(fM t).length≤k):mB t k=bI t:=by unfold mB bI;rw[ww h]
theorem NH{t:bA}{k:Nat}{s:List Int}(h:(fM t).take (k+1)=(fM t).take k++[s]):mB t (k+1)=yR t (mB t k) s:=by
 unfold mB;rw[h,xk];rfl
theorem aID{t:bA}{acc:List (List Int)}{s:List Int}:∀u∈yR t acc s,u∈acc∨u=s:=by
 intro u hu;unfold yR at hu
 split at hu
 ·exact zq hu
 ·simpa using hu
theorem DP{t:bA}:∀(l acc:List (List Int)),∀u∈l.foldl (yR t) acc,u∈acc∨u∈l
 | [],acc,u,h=>zq h
 |s::l,acc,u,h=>by
  rcases DP l (yR t acc s) u h with h|h
  ·rcases aID u h with h|rfl
   ·exact zq h
   ·exact zt zj
  ·exact zt (GT _ h)
theorem QB{t:bA}:∀(l acc:List (List Int)),(l.foldl (yR t) acc).length≤acc.length+l.length
 | [],acc=>by simp
 |s::l,acc=>by
  have h1:=QB (t:=t) l (yR t acc s);have h2:(yR t acc s).length≤acc.length+1:=by
   unfold yR;split
   ·omega
   ·simp
  rw[yp,zh];omega
theorem AT{t:bA}{k:Nat}{u:List Int}(h:u∈mB t k):u∈fM t:=by
 rcases DP _ _ u h with h|h
 ·cases h
 ·exact pd h
theorem ZO(t:bA)(k:Nat):(mB t k).length≤(fM t).length:=by
 have h1:=QB (t:=t) ((fM t).take k) [];have h2:=ul k (fM t);rw[wq]at h1;unfold mB;simp only[wp]at h1;omega
def yH:List (Int×Int)→Int
 | []=>1
 |r::l=>fZ r*yH l
theorem C0:∀(l:List (Int×Int)) (m:Int),(∀r∈l,jN r=true)→0≤m→l.foldl (λ(m:Int) r=>min (m*fZ r) 2001) m≤2000→m*yH l≤2000∧1≤yH l
 | [],m,_,_,h=>by simpa [yH]using h
 |r::l,m,hr,hm,h=>by
  have h1:1≤fZ r:=by
   have h1:=hr r zj;unfold jN gD at h1;simp only[zl,LE,bH]at h1;unfold fZ;omega
  have h2:0≤m*fZ r:=om hm Yd;rw[yp]at h;obtain⟨h3,h4⟩:=C0 l (min (m*fZ r) 2001) (λq hq=>hr q (GT _ hq)) Yd h;have h5:1≤fZ r*yH l:=by
   have:=Int.mul_le_mul h1 h4 Yd Yd;omega
  refine⟨?_,h5⟩;show m*(fZ r*yH l)≤2000;rw[←Int.mul_assoc];by_cases hc:m*fZ r≤2001
  ·rwa [Int.min_eq_left hc]at h3
  ·rw[ow Yd]at h3;omega
theorem kO{α β:Type}{f:α→List β}{n:Nat}:∀(l:List α),(∀x∈l,(f x).length≤n)→(l.flatMap f).length≤l.length*n
 | [],_=>by simp
 |x::l,h=>by
  have h1:=kO l λy hy=>h y (GT _ hy)
  have h2:=h x zj;rw[xy,zf,zh,xb];omega
theorem K6{step:Int}:∀(rs:List (Int×Int)) (p:Option Int),(∀r∈rs,jN r=true)→1≤yH rs∧((iX step rs p).length:Int)≤yH rs
 | [],p,_=>by simp[iX,yH]
 |r::rs,p,hr=>by
  have h1:1≤fZ r:=by
   have h1:=hr r zj;unfold jN gD at h1;simp only[zl,LE,bH]at h1;unfold fZ;omega
  have h2:=K6 (step:=step) rs none λq hq=>hr q (GT _ hq)
  have h3:(iX step (r::rs) p).length≤(List.range (fZ r).toNat).length*(yH rs).toNat:=by
   simp only[iX];refine kO _ λk _=>?_
   split
   ·rw[yh];have:=(K6 (step:=step) rs (some (r.1+(k:Int))) λq hq=>hr q (GT _ hq)).2;omega
   ·exact ra _
  rw[vz]at h3;have h4:(((fZ r).toNat*(yH rs).toNat:Nat):Int)=fZ r*yH rs:=by
   rw[Int.natCast_mul,Int.toNat_of_nonneg Yd,Int.toNat_of_nonneg Yd]
  have h5:=Int.mul_le_mul h1 h2.1 Yd Yd;refine⟨?_,?_⟩
  ·show 1≤fZ r*yH rs;omega
  ·show _≤fZ r*yH rs;rw[←h4];exact Int.ofNat_le.2 h3
theorem YK{t:bA}(h:aW t=0):sO t.heights≤2000:=by
 unfold aW at h;split at h
 ·omega
 ·split at h
  ·omega
  ·split at h
   ·omega
   ·omega
theorem ED{t:bA}(h:aW t=0):(fM t).length≤2000:=by
 have h1:=NN h;have h2:=(K6 (step:=t.step) t.heights none h1.hts).2;have h3:=(C0 t.heights 1 h1.hts Yd (YK h)).1;show(iX t.step t.heights none).length≤2000;omega
theorem sS{t:bA}{s:List Int}(h:s∈fM t):s.length=t.heights.length:=HT _ _ _ h
def c8(l:List (List Int))(last:Int)(S:List (Int×Int)):Prop:=∀p,p∈S ↔∃s∈l,∃j:Nat,(j:Int)≤last∧p=((j:Int),s.getD j 0)
theorem c8.nil{last:Int}:c8 [] last []:=λp=>by simp
end C2
open C1 C2
def YV:Rd Mk:=λ_ m cs=>cs=[qI m.frm,qI m.to,qI m.lo,qI m.hi]
theorem YV.up:YV.Up:=λ_ _ _ h=>h
def EQ:Rd (Int×Int):=λ_ p cs=>cs=[qI p.1,qI p.2]
theorem EQ.up:EQ.Up:=λ_ _ _ h=>h
def ni(m:Mk):Γ:=.agg #[qI m.frm,qI m.to,qI m.lo,qI m.hi]
def hZ(D:aC)(v:Γ)(t:bA):Prop:=∃hv lv mv,v=.agg #[qI t.last,hv,qI t.step,lv,mv]∧Sl D EQ 2 hv t.heights∧Sl D RI 1 lv t.levels∧Sl D YV 4 mv t.marks
def MT:Rd (List Int):=λ_ l cs=>cs=ints (dT l)
theorem MT.up:MT.Up:=λ_ _ _ h=>h
def m2(l:List (List Int)):List Γ:=l.flatMap λs=>ints (dT s)
theorem ZD{l:List (List Int)}(h:∀s∈l,s.length≤10):(m2 l).length=l.length*10:=by
 induction l with
 |nil=>rfl
 |cons c l ih=>
  have:=ih λs hs=>h s (GT _ hs)
  unfold m2 at this ⊢
  rw[xy,zf,this,aL,hU (h c zj),zh];omega
theorem WO{l:List (List Int)}(h:∀s∈l,s.length≤10){i:Nat}{s:List Int}(hi:l[i]?= some s)(junk:List Γ):((m2 l++junk).drop (i*10)).take 10=ints (dT s):=by
 induction l generalizing i with
 |nil=>simp at hi
 |cons d l ih=>
  have I:(ints (dT d)).length=10:=by rw[aL,hU (h d zj)]
  have hc:m2 (d::l)=ints (dT d)++m2 l:=rfl;rw[hc,yy];cases i with
  |zero=>
   obtain rfl:d=s:=wy
   rw[ug,sk,vg Yd,ww Yd]
  |succ i=>
   rw[show(i+1)*10=(ints (dT d)).length+i*10 by omega,lh];exact ih (λs hs=>h s (GT _ hs)) wy
theorem lB.seas{D:aC}{v:Γ}{n:Nat}{l:List (List Int)}(hF:lB D v n (m2 l))(hn:l.length=n)(hb:n≤9223372036854775807)(h:∀t∈l,t.length≤10):Sl D MT 10 v l:=
 hF.sl hn hb λi t hi=>⟨Fs.ints (dT t),C,by rw[Fs.aL,hU (h t (GE hi))],by have:=WO h hi [];rwa [yr]at this⟩
theorem hZ.up{D D':aC}{v:Γ}{t:bA}(h:hZ D v t)(hl:Le D D'):hZ D' v t:=by
 obtain⟨hv,lv,mv,e,h1,h2,h3⟩:=h;exact⟨hv,lv,mv,e,h1.up EQ.up hl,h2.up RI.up hl,h3.up YV.up hl⟩
namespace C3
open C1 (gF bH)
structure bQ where
 kind:Int
 chair:Int
 token:Int
deriving DecidableEq
structure Cn where
 after:Int
 lo:Int
 hi:Int
deriving DecidableEq
structure aU where
 chairs:Int
 coin:Int
 box:Int
 lines:List bQ
 counts:List Cn
def sH(n:Int)(l:bQ):Bool:=gF l.kind 0 2&&gF l.chair (-1) (n-1)&&gF l.token (-1) (n-1)
def tV(len:Int)(c:Cn):Bool:=gF c.after 0 len&&decide (0≤c.lo)&&decide (c.lo≤c.hi)&&decide (c.hi≤2000)
def gM(sign none lo hi:Int):List Int:=if sign≠none then [sign]else(List.range (hi+1-lo).toNat).map λi:Nat=>lo+(i:Int)
def cJ(n:Int)(l:bQ):List bQ:=(gM l.kind 0 1 2).flatMap λk=>(gM l.chair (-1) 0 (n-1)).flatMap λc=>(gM l.token (-1) 0 (n-1)).map λt=>⟨k,c,t⟩
def uQ(n:Int)(ls:List bQ):Int:=ls.foldl (λm l=>min (m*(cJ n l).length) 4097) 1
def uL(b:aU):Bool:=gF b.chairs 1 4&&gF b.coin 1 99&&gF b.box 0 999&&b.lines.all (sH b.chairs)&&b.counts.all (tV b.lines.length)
def aW(b:aU):Int:=if 8<b.lines.length∨4<b.counts.length then 3 else if uL b=false then 1 else if 4096<uQ b.chairs b.lines then 3 else 0
structure Sc where
 ch:List Int
 tk:List Int
 money:Int
 mixed:Int
deriving DecidableEq
def sM(s:Sc):List Int:=s.ch++s.tk++[s.money,s.mixed]
def nR(l:List Int)(i:Int):Int:=l.getD i.toNat 0
def kN(s:Sc)(l:bQ):Bool:=(decide (nR s.ch l.chair≠0)==decide (l.kind=2))&&(decide (nR s.tk l.token≠0)==decide (l.kind=2))
def eP(b:aU)(s:Sc)(i:Int)(l:bQ):Sc:=
 if l.kind=2 then⟨s.ch.set l.chair.toNat 0,s.tk.set l.token.toNat 0,s.money-b.coin,if nR s.ch l.chair≠nR s.tk l.token then s.mixed+1 else s.mixed⟩
 else⟨s.ch.set l.chair.toNat (i+1),s.tk.set l.token.toNat (i+1),s.money+b.coin,s.mixed⟩
def fP(b:aU)(s:Sc)(after:Int):Bool:=b.counts.all λc=>decide (c.after≠after)||gF s.money c.lo c.hi
def fA(b:aU):Sc:=⟨[0,0,0,0],[0,0,0,0],b.box,0⟩
def uI(b:aU):List bQ→Nat→Sc→List (List bQ×List Sc)
 | [],i,s=>if fP b s i=true then [([],[s])]else []
 |l::ls,i,s=>if fP b s i=true then(cJ b.chairs l).flatMap λr=>if kN s r=true then(uI b ls (i+1) (eP b s i r)).map λx=>(r::x.1,s::x.2)else []else []
def truths(b:aU):List (List bQ×List Sc):=uI b b.lines 0 (fA b)
def J7(b:aU)(fine:Bool):Int:=if aW b≠0 then aW b else if fine=false then 2 else if truths b=[]then 11 else 0
def aCO(ss:List Sc)(k:Nat):Sc:=ss.getD k ⟨[],[],0,0⟩
end C3
open C1 C3
def jQ:Rd bQ:=λ_ l cs=>cs=[qI l.kind,qI l.chair,qI l.token]
theorem jQ.up:jQ.Up:=λ_ _ _ h=>h
def wQ:Rd Cn:=λ_ c cs=>cs=[qI c.after,qI c.lo,qI c.hi]
theorem wQ.up:wQ.Up:=λ_ _ _ h=>h
def HK(l:bQ):Γ:=.agg #[qI l.kind,qI l.chair,qI l.token]
def nf(c:Cn):Γ:=.agg #[qI c.after,qI c.lo,qI c.hi]
def eT(D:aC)(v:Γ)(b:aU):Prop:=∃lv cv,v=.agg #[qI b.chairs,qI b.coin,qI b.box,lv,cv]∧Sl D jQ 3 lv b.lines∧Sl D wQ 3 cv b.counts
theorem eT.up{D D':aC}{v:Γ}{b:aU}(h:eT D v b)(hl:Le D D'):eT D' v b:=by
 obtain⟨lv,cv,e,h1,h2⟩:=h;exact⟨lv,cv,e,h1.up jQ.up hl,h2.up wQ.up hl⟩
def aCG(s:Sc):Γ:=.agg (ints (sM s)).toArray
def aBP:Rd Sc:=λ_ s cs=>cs=ints (sM s)
theorem aBP.up:aBP.Up:=λ_ _ _ h=>h
end Go.Fs
namespace Go.Fs.C3
open C1 (gF bH)

theorem Ha{sign none lo hi x:Int}:x∈gM sign none lo hi ↔ (sign≠none∧x=sign)∨(sign=none∧lo≤x∧x≤hi):=by
 unfold gM;by_cases h:sign=none
 ·rw[zv xd,n5];constructor
  ·rintro⟨i,hi',rfl⟩;have:=yj.1 hi';exact zt ⟨h,Yd,Yd⟩
  ·rintro(⟨h1,_⟩|⟨_,h1,h2⟩)
   ·exact absurd h h1
   ·exact⟨(x-lo).toNat,yj.2 Yd,Yd⟩
 ·rw[zo h];simp[h]
def uW(l x:bQ):Bool:=(decide (l.kind=0)||decide (l.kind=x.kind))&&(decide (l.chair<0)||decide (l.chair=x.chair))&&(decide (l.token<0)||decide (l.token=x.token))
def AU(n:Int)(x:bQ):Prop:=(x.kind=1∨x.kind=2)∧0≤x.chair∧x.chair<n∧0≤x.token∧x.token<n
theorem sC{n:Int}{l x:bQ}(hl:sH n l=true):x∈cJ n l ↔ AU n x∧uW l x=true:=by
 unfold sH at hl;simp only[zl,bH]at hl;unfold cJ AU uW;simp only[vr,n5,Ha,zl,yg,LE];constructor
 ·rintro⟨k,hk,c,hc,t,ht,rfl⟩;simp only;omega
 ·rintro⟨⟨h1,h2,h3,h4,h5⟩,⟨I,O⟩,h8⟩;refine⟨x.kind,Yd,x.chair,Yd,x.token,Yd,C⟩
structure YW(b:aU)(s:Sc):Prop where
 lc:s.ch.length=4
 lt:s.tk.length=4
 pc:∀x∈s.ch,0≤x∧x≤8
 pt:∀x∈s.tk,0≤x∧x≤8
def FJ(l:List Int):Int:=((l.filter λx=>decide (x≠0)).length:Int)
def oF(b:aU):List bQ→Nat→Sc→Bool
 | [],i,s=>fP b s i
 |l::ls,i,s=>fP b s i&&(cJ b.chairs l).any λr=>kN s r&&oF b ls (i+1) (eP b s i r)
theorem Nc{α β:Type}{l:List α}{f:α→List β}:l.flatMap f≠[] ↔∃x∈l,f x≠[]:=by
 rw[Ne,List.flatMap_eq_nil_iff];simp
theorem X_(b:aU):∀(ls:List bQ) (i:Nat) (s:Sc),oF b ls i s=true ↔ uI b ls i s≠[]
 | [],i,s=>by
  unfold oF uI;cases fP b s i<;>simp
 |l::ls,i,s=>by
  unfold oF uI;cases fP b s i with
  |false=>simp
  |true=>
   rw[v_,rx,zo C,Nc];refine exists_congr λr=>and_congr_right λ_=>?_
   rw[zl,X_ b ls];cases kN s r<;>simp
theorem R0(b:aU):oF b b.lines 0 (fA b)=decide (truths b≠[]):=by
 rw[vv,X_,LE];rfl

def N4(l:List Int):List Int:=l.map λx=>min x 1
theorem Xo(l:List Int):(N4 l).length=l.length:=yh _
theorem n7(l:List Int)(k:Nat)(x:Int):N4 (l.set k x)=(N4 l).set k (min x 1):=List.map_set
theorem T9{l:List Int}(h:∀x∈l,0≤x)(c:Int):(nR l c≠0) ↔ nR (N4 l) c≠0:=by
 unfold nR N4;rw[wi,wi,xt];cases e:l[c.toNat]? with
 |none=>simp
 |some x=>
  have:=h x (GE e);simp only[xo,va];omega
structure gf(s s':Sc):Prop where
 ch:N4 s.ch=N4 s'.ch
 tk:N4 s.tk=N4 s'.tk
 money:s.money=s'.money
structure sy(s:Sc):Prop where
 ch:∀x∈s.ch,0≤x
 tk:∀x∈s.tk,0≤x
theorem aBQ{s s':Sc}(h:gf s s')(hp:sy s)(hp':sy s')(l:bQ):kN s l=kN s' l:=by
 unfold kN;have I:decide (nR s.ch l.chair≠0)=decide (nR s'.ch l.chair≠0):=oz.2 (by rw[T9 hp.ch,T9 hp'.ch,h.ch]);have O:decide (nR s.tk l.token≠0)=decide (nR s'.tk l.token≠0):=oz.2 (by rw[T9 hp.tk,T9 hp'.tk,h.tk]);rw[I,O]
theorem Di{b:aU}{s s':Sc}(h:gf s s')(i:Nat)(l:bQ):gf (eP b s i l) (eP b s' i l):=by
 unfold eP;split
 ·exact⟨by simp only[n7,h.ch],by simp only[n7,h.tk],by simp only[h.money]⟩
 ·exact⟨by simp only[n7,h.ch],by simp only[n7,h.tk],by simp only[h.money]⟩
theorem FV{l:List Int}(h:∀x∈l,0≤x)(k:Nat){y:Int}(hy:0≤y):∀x∈l.set k y,0≤x:=λx hx=>by
 rcases List.mem_or_eq_of_mem_set hx with hx|rfl
 ·exact h x hx
 ·exact hy
theorem KN{b:aU}{s:Sc}(h:sy s)(i:Nat)(l:bQ):sy (eP b s i l):=by
 unfold eP;split
 ·exact⟨FV h.ch _ Yd,FV h.tk _ Yd⟩
 ·exact⟨FV h.ch _ Yd,FV h.tk _ Yd⟩
theorem Vz(b:aU):∀(ls:List bQ) (i:Nat) (s s':Sc),gf s s'→sy s→sy s'→oF b ls i s=oF b ls i s'
 | [],i,s,s',h,_,_=>by unfold oF fP;rw[h.money]
 |l::ls,i,s,s',h,hp,hp'=>by
  unfold oF;have e:fP b s i=fP b s' i:=by unfold fP;rw[h.money]
  rw[e];congr 1;refine zn _ (funext λr=>?_);rw[aBQ h hp hp',Vz b ls (i+1) _ _ (Di h i r) (KN hp i r) (KN hp' i r)]

theorem YT{l:List Int}{k:Nat}(hk:k<l.length)(y:Int):FJ (l.set k y)=FJ l-(if l.getD k 0≠0 then 1 else 0)+(if y≠0 then 1 else 0):=by
 induction l generalizing k with
 |nil=>simp at hk
 |cons x l ih=>
  cases k with
  |zero=>
   unfold FJ;simp only[List.set_cons_zero,wj,List.getD_cons_zero,LE];split<;>split<;>simp<;>omega
  |succ k=>
   have:=ih (k:=k) kx;unfold FJ at this ⊢
   simp only[List.set_cons_succ,wj,List.getD_cons_succ];split
   ·simp only[zh];push_cast;omega
   ·exact this
def CO(b:aU)(s:Sc):Prop:=s.money=b.box+b.coin*FJ s.ch
theorem Ey{l m:List Int}(h:N4 l=N4 m)(hl:∀x∈l,0≤x)(hm:∀x∈m,0≤x):FJ l=FJ m:=by
 induction l generalizing m with
 |nil=>
  cases m with
  |nil=>rfl
  |cons y m=>simp[N4]at h
 |cons x l ih=>
  cases m with
  |nil=>simp[N4]at h
  |cons y m=>
   simp only[N4,yl,vx]at h;have:=ih h.2 (λx hx=>hl x (GT _ hx)) λx hx=>hm x (GT _ hx)
   have h1:=hl x zj;have h2:=hm y zj;unfold FJ at this ⊢
   simp only[wj,LE];have e:x≠0 ↔ y≠0:=by have:=h.1;omega
   by_cases hx:x≠0
   ·rw[zo hx,zo (e.1 hx)];simp only[zh];push_cast;omega
   ·rw[zv hx,zv λhy=>hx (e.2 hy)];exact this
theorem aBF{b:aU}{s:Sc}(h:CO b s)(h4:s.ch.length=4){i:Nat}{l:bQ}(hc:kN s l=true)(h0:0≤l.chair)(h1:l.chair<4):CO b (eP b s i l):=by
 unfold kN at hc;simp only[zl,th,oz]at hc;have hk:l.chair.toNat<s.ch.length:=Yd
 unfold CO at h ⊢
 unfold eP;have hg:s.ch.getD l.chair.toNat 0=nR s.ch l.chair:=rfl;by_cases e:l.kind=2
 ·rw[zo e];simp only;rw[YT hk,hg,zo (hc.1.2 e),zv Yd,h,Int.mul_add,Int.mul_sub];omega
 ·rw[zv e];simp only;rw[YT hk,hg,zv λhh=>e (hc.1.1 hh),zo Yd,h,Int.mul_add,Int.mul_sub];omega
theorem W3(b:aU):CO b (fA b):=by unfold CO fA FJ;simp
def jy(s:Sc)(i:Nat):List Int:=(i:Int)::(N4 s.ch++N4 s.tk)
theorem Bq{b:aU}{ls:List bQ}{i i':Nat}{s s':Sc}(e:jy s i=jy s' i')(h:CO b s)(h':CO b s')(hp:sy s)(hp':sy s')(h4:s.ch.length=4)(h4':s'.ch.length=4):i=i'∧oF b ls i s=oF b ls i' s':=by
 unfold jy at e;rw[vx]at e;obtain⟨U,O⟩:=e;obtain⟨I,R⟩:=List.append_inj O (by rw[Xo,Xo];omega)
 have hi:i=i':=Yd
 subst hi;refine⟨C,Vz b ls i s s' ⟨I,R,?_⟩ hp hp'⟩;unfold CO at h h';rw[h,h',Ey I hp.ch hp'.ch]
end Go.Fs.C3
namespace Go.Fs
variable{P:Program}{X:Cx}{γb:Type}[Membership Nat γb]{H:γb}{G:Array Oper}{K:Act→Δ→Prop}{Q:Exit→Act→Δ→Prop}
variable{T:bZ}{L:aF}{W:List aC}{os:List (Bool×Nat)}{fl:Bool}{ix:Nat}
variable{d:Nat}{x y z:Operand}{u v:Γ}{ty:Θ}{pos:String}{aft:Array Edge}{g:Option (Nat×Bool)}
variable{k':IntKind}{m n:Nat}{t t':Θ}
def nE(m n:Nat):Nat:=m ^^^ (m&&&n)
theorem L0(m n i:Nat):(nE m n).testBit i=(m.testBit i&& !n.testBit i):=by
 unfold nE;rw[Nat.testBit_xor,Nat.testBit_and];cases m.testBit i<;>cases n.testBit i<;>rfl
theorem H2(m n:Nat):nE m n≤m:=by
 apply Nat.le_of_testBit;intro i hi;rw[L0]at hi;simp at hi;exact hi.1
theorem C9{m:Nat}(h:m<9223372036854775808):(BitVec.ofInt IntKind.i64.bits (m:Int)).toNat=m:=by
 rw[BitVec.ofInt_natCast,BitVec.toNat_ofNat];exact Nat.mod_eq_of_lt (by show m<2^64;omega)
theorem Xbx{m n:Nat}(h:m<9223372036854775808):m&&&n<9223372036854775808:=Nat.lt_of_le_of_lt Nat.and_le_left h
theorem Wbn{m n:Nat}(h:m<9223372036854775808)(h':n<9223372036854775808):m|||n<9223372036854775808:=Nat.or_lt_two_pow (n:=63) h h'
theorem Qj(ho:G[ix]?= some ⟨some d,.binOp .and t x y t',ty,pos,aft,g⟩)(hx:ev T x=some (qI (m:Int)))(hy:ev T y=some (qI (n:Int)))(hm:m<9223372036854775808)(hn:n<9223372036854775808)(hN:Nat.blt d X.N=true)(hg:dF G T g)
  (kk:WL P X H G K Q os ((d,qI ((m&&&n:Nat):Int))::T) L W):WL P X H G K Q ((fl,ix)::os) T L W:=
 cB ho C C hN hg (λρ hρ w'=>nL Yf (by
  have e:(BitVec.ofInt IntKind.i64.bits (m:Int)&&&BitVec.ofInt IntKind.i64.bits (n:Int)).toNat=m&&&n:=by rw[BitVec.toNat_and,C9 hm,C9 hn]
  have h2:=Xbx (n:=n) hm;have h3:vE .i64 ((m&&&n:Nat):Int):=by simp only[vE];omega
  simp only[binOp,ne_eq,not_true_eq_false,xx,Op.intBits,e,tL h3];rfl) (hρ x _ hx) (hρ y _ hy)) kk
theorem OC(ho:G[ix]?= some ⟨some d,.binOp .or t x y t',ty,pos,aft,g⟩)(hx:ev T x=some (qI (m:Int)))(hy:ev T y=some (qI (n:Int)))(hm:m<9223372036854775808)(hn:n<9223372036854775808)(hN:Nat.blt d X.N=true)(hg:dF G T g)
  (kk:WL P X H G K Q os ((d,qI ((m|||n:Nat):Int))::T) L W):WL P X H G K Q ((fl,ix)::os) T L W:=
 cB ho C C hN hg (λρ hρ w'=>nL Yf (by
  have e:(BitVec.ofInt IntKind.i64.bits (m:Int)|||BitVec.ofInt IntKind.i64.bits (n:Int)).toNat=m|||n:=by rw[BitVec.toNat_or,C9 hm,C9 hn]
  have h2:=Wbn hm hn;have h3:vE .i64 ((m|||n:Nat):Int):=by simp only[vE];omega
  simp only[binOp,ne_eq,not_true_eq_false,xx,Op.intBits,e,tL h3];rfl) (hρ x _ hx) (hρ y _ hy)) kk
theorem dq(ho:G[ix]?= some ⟨some d,.binOp .andNot t x y t',ty,pos,aft,g⟩)(hx:ev T x=some (qI (m:Int)))(hy:ev T y=some (qI (n:Int)))(hm:m<9223372036854775808)(hn:n<9223372036854775808)(hN:Nat.blt d X.N=true)(hg:dF G T g)
  (kk:WL P X H G K Q os ((d,qI ((nE m n:Nat):Int))::T) L W):WL P X H G K Q ((fl,ix)::os) T L W:=
 cB ho C C hN hg (λρ hρ w'=>nL Yf (by
  have e:(BitVec.ofInt IntKind.i64.bits (m:Int)&&& ~~~ BitVec.ofInt IntKind.i64.bits (n:Int)).toNat=nE m n:=by
   apply n_;intro i;rw[L0,BitVec.testBit_toNat,BitVec.getLsbD_and,BitVec.getLsbD_not,←BitVec.testBit_toNat,←BitVec.testBit_toNat,C9 hm,C9 hn];by_cases hi:i<IntKind.i64.bits
   ·simp[hi]
   ·have:m.testBit i=false:=Nat.testBit_lt_two_pow (vc hm (xj (show 9223372036854775808≤2^64 by decide) (wu Yu (show 64≤i from Nat.le_of_not_lt hi))));simp[this]
  have h2:=H2 m n;have h3:vE .i64 ((nE m n:Nat):Int):=by simp only[vE];omega
  simp only[binOp,ne_eq,not_true_eq_false,xx,Op.intBits,e,tL h3];rfl) (hρ x _ hx) (hρ y _ hy)) kk
theorem dz{a b:Int}(ho:G[ix]?= some ⟨some d,.binOp .or t x y t',ty,pos,aft,g⟩)(hx:ev T x=some (qI a))(hy:ev T y=some (qI b))(ha:0≤a∧a≤1)(hb:0≤b∧b≤1)(hN:Nat.blt d X.N=true)(hg:dF G T g)
  (kk:WL P X H G K Q os ((d,qI (max a b))::T) L W):WL P X H G K Q ((fl,ix)::os) T L W:=by
 have h1:a=((a.toNat:Nat):Int):=Yd
 have h2:b=((b.toNat:Nat):Int):=Yd
 have h3:max a b=((a.toNat|||b.toNat:Nat):Int):=by
  have ha':a=0∨a=1:=Yd
  have hb':b=0∨b=1:=Yd
  rcases ha' with rfl|rfl<;>rcases hb' with rfl|rfl<;>decide
 rw[h3]at kk;rw[h1]at hx;rw[h2]at hy;exact OC ho hx hy Yd Yd hN hg kk
theorem gu{k:IntKind}{a:Int}(ho:G[ix]?= some ⟨some d,.unOp .neg t x,ty,pos,aft,g⟩)(hx:ev T x=some (.int k a))(hr:vE k (-a))(hN:Nat.blt d X.N=true)(hg:dF G T g)
  (kk:WL P X H G K Q os ((d,.int k (-a))::T) L W):WL P X H G K Q ((fl,ix)::os) T L W:=
 cB ho C C hN hg (λρ hρ w'=>by
  have h2:(0:Int)-a= -a:=Yd
  simp only[execOp,hρ x _ hx,Op.unary,Op.intArith,h2,tL hr];rfl) kk
theorem BC{t e:Θ}{n sz:Nat}{parts:Array (Nat×Operand)}{us:List (Nat×Γ)}{zs cs:List Γ}(ho:G[ix]?= some ⟨some d,.build t parts,ty,pos,aft,g⟩)(ht:P.underlying t=some (.array n e))(hs:TS P e sz)(hz:TZ P t (.agg zs.toArray))(hu:HN T parts.toList=some us)
  (hf:Instr.fill (λi=>some (i*sz,sz)) zs.toArray us=some cs.toArray) (hN:Nat.blt d X.N=true) (hg:dF G T g) (kk:WL P X H G K Q os ((d,.agg cs.toArray)::T) L W):WL P X H G K Q ((fl,ix)::os) T L W:=
 cB ho C C hN hg (λρ hρ w'=>by
  have e:(parts.map λ(i,x)=>(i,ρ x)).toList=us:=by rw[←A8 hρ hu];simp
  simp only[execOp,Instr.build,Ω,hz w',Ξ,TU.of ht w',hs w',Value.cells,e,hf,ε]) kk
theorem MZ{op:BinOp}(he:op=.shl∨op=.shr){k:IntKind}{a b:Int}{w:Δ}{r:Γ}(h:(Op.shift op k a k' b).run P w=.ok r w){ρ:Operand→Γ}(hx:ρ x=.int k a)(hy:ρ y=.int k' b):
  (execOp ρ ⟨some d,.binOp op t x y t',ty,pos,aft,g⟩).run P w=.ok (.value r) w:=by
 rcases he with rfl|rfl<;>simp[execOp,hx,hy,binOp,h,go_sem]
theorem Xam(ho:G[ix]?= some ⟨some d,.binOp .shl t x y t',ty,pos,aft,g⟩)(hx:ev T x=some (qI (m:Int)))(hy:ev T y=some (.int k' (n:Int)))(hn:n≤62)(hm:m*2^n<9223372036854775808)(hN:Nat.blt d X.N=true)(hg:dF G T g)
  (kk:WL P X H G K Q os ((d,qI ((m <<< n:Nat):Int))::T) L W):WL P X H G K Q ((fl,ix)::os) T L W:=
 cB ho C C hN hg (λρ hρ w'=>MZ (zq C) (by
  have h1:¬((n:Int)<0):=Yd
  have h2:min (n:Int).toNat IntKind.i64.bits=n:=by rw[xr];exact uj (xj hn Yu)
  have h3:(m:Int)*2^n=((m <<< n:Nat):Int):=by rw[Nat.shiftLeft_eq];simp
  have h4:vE .i64 ((m <<< n:Nat):Int):=by rw[Nat.shiftLeft_eq];simp only[vE];omega
  simp only[Op.shift,h1,xx,h2,h3,tL h4];rfl) (hρ x _ hx) (hρ y _ hy)) kk
theorem yS(ho:G[ix]?= some ⟨some d,.binOp .shr t x y t',ty,pos,aft,g⟩)(hx:ev T x=some (qI (m:Int)))(hy:ev T y=some (.int k' (n:Int)))(hn:n≤62)(hN:Nat.blt d X.N=true)(hg:dF G T g)
  (kk:WL P X H G K Q os ((d,qI ((m >>> n:Nat):Int))::T) L W):WL P X H G K Q ((fl,ix)::os) T L W:=
 cB ho C C hN hg (λρ hρ w'=>MZ (zt C) (by
  have h1:¬((n:Int)<0):=Yd
  have h2:min (n:Int).toNat IntKind.i64.bits=n:=by rw[xr];exact uj (xj hn Yu)
  have h3:(m:Int).fdiv (2^n)=((m >>> n:Nat):Int):=by
   rw[Nat.shiftRight_eq_div_pow,Int.fdiv_eq_ediv_of_nonneg _ (by exact_mod_cast ra (2^n))];simp
  simp only[Op.shift,h1,xx,h2,h3];rfl) (hρ x _ hx) (hρ y _ hy)) kk
theorem nO(m n:Nat):((m >>> n:Nat):Int)%2=if m.testBit n then 1 else 0:=by
 rw[Nat.testBit,Nat.one_and_eq_mod_two];have:=Nat.mod_two_eq_zero_or_one (m >>> n);rcases this with h|h
 ·have:((m >>> n:Nat):Int)%2=0:=Yd
  rw[this];simp[h]
 ·have:((m >>> n:Nat):Int)%2=1:=Yd
  rw[this];simp[h]
namespace C7
structure Pt where
 a:Int
 b:Int
 c:Int
deriving DecidableEq
structure Ch where
 size:Int
 parts:Pt
structure aS where
 chairs:List Ch
 fit:Int
 claims:List (Int×Int)
def Pt.l(p:Pt):List Int:=[p.a,p.b,p.c]
def gF(n lo hi:Int):Bool:=decide (lo≤n)&&decide (n≤hi)
theorem bH{n lo hi:Int}:gF n lo hi=true ↔ lo≤n∧n≤hi:=by simp[gF]
def VW(p:Pt)(m:Int):Bool:=p.l.all λn=>gF n 0 m
def lD(c:Ch):Bool:=gF c.size 0 9&&VW c.parts 2
def nN(r:Int×Int):Bool:=(decide (0≤r.1)&&decide (r.1≤r.2))&&decide (r.2≤7)
def nw(p:Pt):Nat:=(p.l.filter λn=>decide (n=2)).length
def cZ(l:List Ch):Nat:=(l.map λc=>nw c.parts).sum
def K8(y:aS):Bool:=(gF y.fit 0 9&&y.chairs.all lD)&&y.claims.all nN
def aW(y:aS):Int:=if 7<y.chairs.length∨5<y.claims.length then 3 else if K8 y=false then 1 else if 8<cZ y.chairs then 3 else 0
def zJ(n t:Int):Bool:=gF t 0 1&&(decide (n=2)||decide (t=n))
def Z3(p t:Pt):Bool:=(p.l.zip t.l).all λx=>zJ x.1 x.2
def eM(y:aS)(t:List Pt):Bool:=decide (t.length=y.chairs.length)&&(y.chairs.zip t).all λx=>Z3 x.1.parts x.2
def iM(p:Pt):Bool:=decide (p=⟨1,1,1⟩)
def whole(t:List Pt):Nat:=(t.filter iM).length
end C7
open C7
def ju(p:Pt):Γ:=.agg #[qI p.a,qI p.b,qI p.c]
def lk(c:Ch):Γ:=.agg #[qI c.size,qI c.parts.a,qI c.parts.b,qI c.parts.c]
def RP:Rd Pt:=λ_ p cs=>cs=[qI p.a,qI p.b,qI p.c]
theorem RP.up:RP.Up:=λ_ _ _ h=>h
def I0:Rd Ch:=λ_ c cs=>cs=[qI c.size,qI c.parts.a,qI c.parts.b,qI c.parts.c]
theorem I0.up:I0.Up:=λ_ _ _ h=>h
def R2:Rd (Int×Int):=λ_ p cs=>cs=[qI p.1,qI p.2]
theorem R2.up:R2.Up:=λ_ _ _ h=>h
def gZ(D:aC)(v:Γ)(y:aS):Prop:=∃cv rv,v=.agg #[cv,qI y.fit,rv]∧Sl D I0 4 cv y.chairs∧Sl D R2 2 rv y.claims
theorem gZ.up{D D':aC}{v:Γ}{y:aS}(h:gZ D v y)(hl:Le D D'):gZ D' v y:=by
 obtain⟨cv,rv,hv,hc,hr⟩:=h;exact⟨cv,rv,hv,hc.up I0.up hl,hr.up R2.up hl⟩
abbrev aF.ks(L:aF):List Nat:=L.map λp=>p.1
def LX(P:Program)(f:FuncId)(args:List Γ)(D:aC)(ν:aF)(post:aC→Γ→aF→Prop):Prop:=
 EF P f∧∀w,gI D w→(∀p∈ν,w.heap[p.1]?= some p.2∧D p.1=[]∧dH p.2)→ν.ks.Nodup→Calls P f args.toArray w λe w'=>∃v D' ν',e=.returned v∧ν'.ks=ν.ks∧jH (hd w) w.heap.size D ν.ks ν' D' w'∧post D' v ν'
theorem jH.afterM{h0:H0}{lo:Nat}{D0 D D':aC}{mods:List Nat}{A B ν ν':aF}{w w':Δ}(h:jH h0 lo D0 mods (A++ν++B) D w)(hk:ν'.ks=ν.ks)(hs:jH (hd w) w.heap.size D ν.ks ν' D' w'):jH h0 lo D0 mods (A++ν'++B) D' w':=by
 have hle:=xj h.hlo h.size;have hin:∀c∈ν.ks,∃o,(c,o)∈ν:=λc hc=>by
  obtain⟨p,hp,rfl⟩:=n5.1 hc;exact⟨p.2,hp⟩
 have hbx:∀p∈ν,_:=λp hp=>h.box p (yw _ (LT _ hp))
 have hnd:=h.nd;simp only[ze]at hnd;have keys:(A++ν'++B).map (λp=>p.1)=(A++ν++B).map (λp=>p.1):=by
  simp only[ze];rw[show ν'.map (λp=>p.1)=ν.map (λp=>p.1)from hk]
 refine⟨h.hlo,xj h.size hs.size,λc hc hm=>?_,λc hc=>?_,hs.agr,λp hp=>?_,by rw[keys];exact h.nd,λp hp=>?_,λe he=>(hs.env _ C).trans (h.env e he)⟩
 ·have hne:c∉ν.ks:=by
   intro hcm;obtain⟨o,ho⟩:=hin c hcm;rcases(hbx _ ho).2.2 with h'|h'
   ·have:=h.hlo;simp at h';omega
   ·exact hm h'
  rw[hs.old c (vc hc hle) hne];exact h.old c hc hm
 ·rw[hs.dold c (vc hc hle)];exact h.dold c hc
 ·rcases zd.1 hp with hp|hp
  ·rcases zd.1 hp with hp|hp
   ·obtain⟨h1,h2,h3⟩:=h.box p (yw _ (yw _ hp));have hl:=bR h1;have hne:p.1∉ν.ks:=λhm=>(za.1 (za.1 hnd).1).2.2 p.1 (n5.2 ⟨p,hp,C⟩) p.1 hm C
    exact⟨jf,l1,h3⟩
   ·obtain⟨I,O,_⟩:=hs.box p hp;have hm:p.1∈ν.ks:=by rw[←hk];exact n5.2 ⟨p,hp,C⟩
    obtain⟨o,ho⟩:=hin p.1 hm;exact⟨I,O,(hbx _ ho).2.2⟩
  ·obtain⟨h1,h2,h3⟩:=h.box p (LT _ hp);have hl:=bR h1;have hne:p.1∉ν.ks:=λhm=>(za.1 hnd).2.2 p.1 (LT _ hm) p.1 (n5.2 ⟨p,hp,C⟩) C
   exact⟨jf,l1,h3⟩
 ·rcases zd.1 hp with hp|hp
  ·rcases zd.1 hp with hp|hp
   ·exact h.fz p (yw _ (yw _ hp))
   ·exact hs.fz p hp
  ·exact h.fz p (LT _ hp)
theorem gP{c:Operand}{xs:Array Operand}{ats:Array Θ}{f:FuncId}{c1 c2:List Γ}{vs:List Γ}{A B ν:aF}{post:aC→Γ→aF→Prop}(ho:G[ix]?= some ⟨some d,.call {callee:=.value c,args:=xs,argTypes:=ats},ty,pos,aft,g⟩)(hc:ev T c=some (.func (.func f) c1.toArray c2.toArray))(hxs:CM T xs.toList=some vs)
  (hex:X.ex=none) (hfl:fl=false∨∀p∈ν,p.1∈H) (hu:∀p∈ν,dH p.2) (hf:∀D,(∀D₁∈W,Le D₁ D)→LX P f (c1++vs++c2) D ν post) (hN:Nat.blt d X.N=true) (hg:dF G T g)
  (kk:∀v D ν',(∀D₁∈W,Le D₁ D)→post D v ν'→WL P X H G K Q os ((d,v)::T) (A++ν'++B) (D::W)):
  WL P X H G K Q ((fl,ix)::os) T (A++ν++B) W:=by
 refine fW ho C C hg λa w hh=>?_
 obtain⟨h1,h2,h3,D,h4,h5,I⟩:=id hh;have hF:=hf D h5;have hbx:∀p∈ν,_:=λp hp=>h4.box p (yw _ (LT _ hp))
 have hnd:=h4.nd;simp only[ze]at hnd;rw[zR hF.1 (hh.eval hc) (mY (λ_ _ hx=>hh.eval hx) hxs)];refine⟨λh=>vk,eC.2 ((hF.2 w h4.agr (λp hp=>⟨(hbx p hp).1,(hbx p hp).2.1,hu p hp⟩) (za.1 (za.1 hnd).1).2.1).mono ?_)⟩;rintro e w' ⟨v,D',ν',rfl,hk,hs,hpost⟩;have hle:=iJ h4.agr hs;refine⟨λhflt=>⟨hs.size,λc hc hcb=>hs.old c hc λhm=>?_⟩,kk v D' ν' (λD₁ hD₁=>(h5 D₁ hD₁).trans hle) hpost _ _ ?_⟩
 ·obtain⟨p,hp,rfl⟩:=n5.1 hm;rcases hfl with h|h
  ·rw[hflt]at h;cases h
  ·exact hcb (h p hp)
 ·refine Hl.put ⟨h1,h2,h3,D',h4.afterM hk hs,λD₁ hD₁=>?_,kw⟩ hN v;rcases zm.1 hD₁ with rfl|hD₁
  ·exact Le.refl _
  ·exact(h5 D₁ hD₁).trans hle
theorem HC{c:Operand}{xs:Array Operand}{ats:Array Θ}{f:FuncId}{c1 c2:List Γ}{vs:List Γ}{A ν:aF}{post:aC→Γ→aF→Prop}(ho:G[ix]?= some ⟨some d,.call {callee:=.value c,args:=xs,argTypes:=ats},ty,pos,aft,g⟩)(hc:ev T c=some (.func (.func f) c1.toArray c2.toArray))(hxs:CM T xs.toList=some vs)
  (hex:X.ex=none) (hfl:fl=false∨∀p∈ν,p.1∈H) (hu:∀p∈ν,dH p.2) (hf:∀D,(∀D₁∈W,Le D₁ D)→LX P f (c1++vs++c2) D ν post) (hN:Nat.blt d X.N=true) (hg:dF G T g)
  (kk:∀v D ν',(∀D₁∈W,Le D₁ D)→post D v ν'→WL P X H G K Q os ((d,v)::T) (A++ν') (D::W)):
  WL P X H G K Q ((fl,ix)::os) T (A++ν) W:=by
 have:=gP (A:=A) (B:=[]) ho hc hxs hex hfl hu hf hN hg λv D ν' h1 h2=>by rw[yr];exact kk v D ν' h1 h2
 rwa [yr]at this
def oJ(X:Cx)(ks:List Nat)(post:aC→Γ→aF→Prop):Ending→Δ→Prop:=λe w'=>∃v D' ν',e=.returned v∧ν'.ks=ks∧jH X.h0 X.lo X.D0 X.mods ν' D' w'∧post D' v ν'
theorem kQ{fn:Func}{ks:List Nat}{post:aC→Γ→aF→Prop}:NP (bodyPost P fn (oJ X ks post)):=by
 rintro c a w ⟨_,v,D',μ',h,_⟩;cases h
def tX(N:Nat)(h0:H0)(D:aC)(ks:List Nat):Cx:=⟨none,N,[],h0,h0.size,D,ks,none⟩
theorem jR{f:FuncId}{fn:Func}{c:Code}{args:List Γ}{D:aC}{ν:aF}{post:aC→Γ→aF→Prop}(N:Nat)(hf:P.funcs[f]?= some fn)(hn:(fn.name== "runtime.NumGoroutine")=false)(hb:fn.body=some c)(hN:fn.ntmps=N)(hsz:Nat.ble args.length N=true)
  (h:∀h0:H0,(∀p∈ν,p.1<h0.size)→ν.ks.Nodup→WC P (tX N h0 D ν.ks) (bodyPost P fn (oJ (tX N h0 D ν.ks) ν.ks post)) c (kA 0 args) ν [D]):LX P f args D ν post:=by
 refine⟨EF.of hf hn hb,λw hw hν hnd=>?_⟩;subst hN;have hsz:=vf hsz;refine(eC (r:=none) (n:=0)).1 ((callsIn_of_wp (R:=oJ (tX fn.ntmps (hd w) D ν.ks) ν.ks post) hf hb zy (h (hd w) (λp hp=>bR (hν p hp).1) hnd _ w ⟨?_,λs v hs=>?_,C,D,⟨zk _,zk _,λ_ _ _=>C,λ_ _=>C,hw,(λp hp=>?_),hnd,(λp hp=>(hν p hp).2.2),λe he=>yi he⟩,λD₁ h1=>?_,zy⟩) C).mono ?_)
 ·simp[tX];omega
 ·obtain⟨_,h2⟩:=gV args 0 s v hs;have hl:=(yx.1 h2).1;simp only[uw]at h2 hl;show(args.toArray++_)[s]?= some v;rw[sb uu];simpa using h2
 ·exact⟨(hν p hp).1,(hν p hp).2.1,zt (n5.2 ⟨p,hp,C⟩)⟩
 ·simp only[yf]at h1;subst h1;exact Le.refl _
 ·rintro e w' ⟨v,D',ν',rfl,hk,hs,hp⟩;exact⟨v,D',ν',C,hk,hs,hp⟩
theorem Y1{fn:Func}{ks:List Nat}{A B ν':aF}{post:aC→Γ→aF→Prop}{e:Exit}(he:(match e with|.normal=>true|.ret=>true|_=>false)=true){rs:List ResultVar}{vs:List Γ}(hds:X.ds=[])(hr:fn.results=rs.toArray)(h:N3 P X T (A++ν'++B) rs vs)
  (hk:ν'.ks=ks) (hp:∀D,(∀D₁∈W,Le D₁ D)→post D (sR vs) ν'):∀a w,Hl X T (A++ν'++B) W a w→bodyPost P fn (oJ X ks post) e a w:=by
 intro a w hh;have hrun:=jP hh hr h;obtain⟨h1,h2,h3,D,h4,h5,h6⟩:=hh;have hnd:=h4.nd;simp only[ze]at hnd;have:a.defers=[]∧∃v,(results fn a.tmps).run P w=.ok v w∧oJ X ks post (.returned v) w:=⟨h3.trans hds,_,hrun,_,D,ν',C,hk,h4.sub (λp hp=>yw _ (LT _ hp)) (za.1 (za.1 hnd).1).2.1,hp D h5⟩
 cases e<;>first|exact this|cases he
theorem _root_.Go.Fs.Zak{fn:Func}{ks:List Nat}(A:aF)(B:aF)(ν':aF){post:aC→Γ→aF→Prop}{e:Exit}{rs:List ResultVar}(vs:List Γ)(e9:((match e with|.normal=>true|.ret=>true|_=>false),X.ds,fn.results)=(true,[],rs.toArray))(h:N3 P X T (A++ν'++B) rs vs)(hk:ν'.ks=ks)(hp:∀D,(∀D₁∈W,Le D₁ D)→post D (sR vs) ν'):∀a w,Hl X T (A++ν'++B) W a w→bodyPost P fn (oJ X ks post) e a w:=Y1 (A:=A) (B:=B) (ν':=ν') (vs:=vs) (zn (λz=>z.1) e9) (zn (λz=>z.2.1) e9) (zn (λz=>z.2.2) e9) h hk hp
def QG(β:List Nat)(D:aC)(w:Δ)(bo:Nat)(cs:List Γ):Prop:=bo∈β∧D bo=[]∧∃e fz,w.heap[bo]?= some (.cells cs.toArray e fz)
def jD(D:aC)(bo:Nat)(cs:List Γ):aC:=λc=>if c=bo then cs else D c
theorem n9{D:aC}{bo:Nat}{cs:List Γ}(h:D bo=[])(h0:bo≠0):Le D (jD D bo cs):=⟨λc=>by
 unfold jD;split
 ·rename_i e;subst e;rw[h];exact oq
 ·exact List.prefix_refl _,by unfold jD;rw[zv (Ne.symm h0)]⟩
theorem XL(D:aC)(bo:Nat)(cs:List Γ):At (jD D bo cs) bo 0 cs:=λj v hj=>by unfold jD;simpa using hj
theorem OS{D:aC}{w:Δ}{bo:Nat}{cs:List Γ}{e:Θ}{fz:Nat×Nat}(h:gI D w)(hb:w.heap[bo]?= some (.cells cs.toArray e fz))(hD:D bo=[]):gI (jD D bo cs) w:=h.of (λc hc=>by
 unfold jD at hc ⊢
 split
 ·rename_i ec;subst ec;exact⟨_,_,_,hb,List.prefix_refl _⟩
 ·rename_i ec;rw[zv ec]at hc;exact h.1 c hc) (by unfold jD;rw[zv (Ne.symm (h.ne0 hD))]) C
theorem jH.hide{w w':Δ}{D D':aC}{mods:List Nat}{L:aF}{bo:Nat}{cs:List Γ}(h:jH (hd w) w.heap.size (jD D bo cs) mods L D' w')(hD:D bo=[])(I:bo≠0):jH (hd w) w.heap.size D mods L (jD D' bo []) w':=by
 refine⟨h.hlo,h.size,h.old,λb hb=>?_,h.agr.of (λb hb=>?_) (by unfold jD;rw[zv (Ne.symm I)]) C,λp hp=>?_,h.nd,h.fz,h.env⟩
 ·unfold jD;split
  ·rename_i e;subst e;exact hD.symm
  ·rename_i e;rw[h.dold b hb];unfold jD;rw[zv e]
 ·unfold jD at hb ⊢
  split
  ·rename_i e;rw[zo e]at hb;exact absurd C hb
  ·rename_i e;rw[zv e]at hb;exact h.agr.1 b hb
 ·obtain⟨h1,h2,h3⟩:=h.box p hp;refine⟨h1,?_,h3⟩;unfold jD;split
  ·rfl
  ·exact h2
def Po{α:Type}(P:Program)(f:FuncId)(cap:List Γ)(Dr:aC)(xs:List α)(enc:Nat→List Γ)(cells:α→List Γ):Prop:=
 EF P f∧∀(lo l:Nat) (J Jx:List α→xL),(∀pre,k9 lo (J pre))→(∀pre,k9 lo (Jx pre))→
  (∀pre x β D w bo,(∃r,xs=pre++x::r)→Q3 lo D w→J pre β D w→(∀b∈β,b<w.heap.size)→Le Dr D→QG β D w bo (cells x)→
   jS P l (enc bo) w λb D' w'=>Q3 lo D' w'∧O1 β D w D' w'∧(if b then J (pre++[x]) β D' w' else Jx (pre++[x]) β D' w'))→
  ∀D w,Q3 lo D w→Le Dr D→J [] [] D w→Calls P f (.func (.yield l) #[] #[]::cap).toArray w λe w'=>∃v D',e=.returned v∧Q3 lo D' w'∧(J xs [] D' w'∨∃pre,Jx pre [] D' w')
theorem aHA{J J1 J0:xL}{l:Nat}{c:Operand}{xs:Array Operand}{ats:Array Θ}{vs:List Γ}(ho:G[ix]?= some ⟨some d,.call {callee:=.value c,args:=xs,argTypes:=ats},ty,pos,aft,g⟩)
  (hc:ev T c=some (.func (.yield l) #[] #[])) (hxs:CM T xs.toList=some vs) (hex:X.ex=some J) (hfl:fl=false) (h0:X.h0=⟨#[],none⟩) (_hm:X.mods=[]) (I:k9 X.lo J1) (O:k9 X.lo J0)
  (hY:∀D w,Q3 X.lo D w→J (L.map (·.1)) D w→(∀p∈L,w.heap[p.1]?= some p.2∧D p.1=[])→(∀D₁∈W,Le D₁ D)→jS P l vs w λb D' w'=>Q3 X.lo D' w'∧O1 (L.map (·.1)) D w D' w'∧(if b then J1 (L.map (·.1)) D' w' else J0 (L.map (·.1)) D' w'))
  (hN:Nat.blt d X.N=true) (hg:dF G T g)
  (U:WL P (X.withEx J1) H G K Q os ((d,.bool true)::T) L W) (V:WL P (X.withEx J0) H G K Q os ((d,.bool false)::T) L W):WL P X H G K Q ((fl,ix)::os) T L W:=by
 refine fW ho C C hg λa w hh=>?_
 obtain⟨h1,h2,h3,D,h4,h5,R⟩:=id hh;have hJ:J (L.map (·.1)) D w:=by unfold Y5 at R;rw[hex]at R;exact R.2
 obtain⟨fn,tmps,assign,body,hy,hr⟩:=hY D w h4.dom hJ (λp hp=>⟨(h4.box p hp).1,(h4.box p hp).2.1⟩) h5;have e:xs.map a.eval=vs.toArray:=by rw[←mY (λ_ _ hx=>hh.eval hx) hxs,←ou]
 have hrun:(execOp a.eval ⟨some d,.call {callee:=.value c,args:=xs,argTypes:=ats},ty,pos,aft,g⟩).run P w=.ok (.round l fn tmps assign body) w:=by
  simp only[execOp,resolve,hh.eval hc,Deferred.ofValue,pure_bind,invoke,e];rw[←hy];simp
 rw[hrun];refine⟨λh=>vk,(JF hr).mono ?_⟩;rintro e' w' ⟨b,D',rfl,hd',hh',hb⟩;have hst:jH X.h0 X.lo X.D0 X.mods L D' w':=by
  refine⟨h4.hlo,hd'.2,(λb hb=>jg),(λb hb=>jg),hd'.1,λp hp=>?_,h4.nd,h4.fz,λe he=>by rw[h0]at he;cases he⟩;obtain⟨p1,p2,p3⟩:=h4.box p hp;obtain⟨Y,Z⟩:=hh'.2.2 p.1 (n5.2 ⟨p,hp,C⟩);exact⟨Y.trans p1,Z.trans p2,p3⟩
 have hds:∀D₁∈W,Le D₁ D':=λD₁ hD₁=>(h5 D₁ hD₁).trans hh'.2.1
 refine⟨(λh=>by rw[hfl]at h;cases h),?_⟩;cases b with
 |true=>
  refine U _ _ (Hl.put (X:=X.withEx J1) ⟨h1,h2,h3,D',hst,hds,⟨I,hb⟩⟩ hN _)
 |false=>
  refine V _ _ (Hl.put (X:=X.withEx J0) ⟨h1,h2,h3,D',hst,hds,⟨O,hb⟩⟩ hN _)
theorem NJ{J J1 J0:xL}{l N lo:Nat}{c:Operand}{xs:Array Operand}{ats:Array Θ}{vs:List Γ}(ho:G[ix]?= some ⟨some d,.call {callee:=.value c,args:=xs,argTypes:=ats},ty,pos,aft,g⟩)
  (hc:ev T c=some (.func (.yield l) #[] #[])) (hxs:CM T xs.toList=some vs) (hfl:fl=false) (I:k9 lo J1) (O:k9 lo J0)
  (hY:∀D w,Q3 lo D w→J (L.map (·.1)) D w→(∀p∈L,w.heap[p.1]?= some p.2∧D p.1=[])→(∀D₁∈W,Le D₁ D)→jS P l vs w λb D' w'=>Q3 lo D' w'∧O1 (L.map (·.1)) D w D' w'∧(if b then J1 (L.map (·.1)) D' w' else J0 (L.map (·.1)) D' w'))
  (hN:Nat.blt d N=true) (hg:dF G T g)
  (kk:∀b J',J'=(if b=true then J1 else J0)→WL P (Xj N lo J') H G K Q os ((d,.bool b)::T) L W):WL P (Xj N lo J) H G K Q ((fl,ix)::os) T L W:=
 aHA (X:=Xj N lo J) ho hc hxs C hfl C C I O hY hN hg (kk true J1 C) (kk false J0 C)
def jx{γ:Type}(h0:H0)(lo:Nat)(D0:aC)(mods:List Nat)(W:List aC)(Φ:γ→Prop)(Mx:γ→aF):xL:=λβ D w=>
 ∃g,Φ g∧jH h0 lo D0 mods (Mx g) D w∧(∀D₁∈W,Le D₁ D)∧(∀b∈β,h0.size≤b∧∀D₁∈W,D₁ b=[])∧(∀p∈Mx g,p.1∉β)∧∀k∈mods,k∈(Mx g).ks
theorem BG{γ:Type}{h0:H0}{lo:Nat}{D0:aC}{mods:List Nat}{W:List aC}{Φ:γ→Prop}{Mx:γ→aF}:k9 lo (jx h0 lo D0 mods W Φ Mx):=by
 constructor
 ·rintro β D w D' w' ⟨g,hg,hs,hD,hβ,hM,hmk⟩ ⟨hl1,I,O⟩ hd;have box':∀p∈Mx g,w'.heap[p.1]?= w.heap[p.1]?∧D' p.1=D p.1:=λp hp=>I p.1 (bR (hs.box p hp).1) (hM p hp)
  refine⟨g,hg,⟨hs.hlo,hd.2,λb hb hm=>?_,λb hb=>?_,hd.1,λp hp=>?_,hs.nd,hs.fz,λe he=>O.trans (hs.env e he)⟩,λD₁ hD₁=>⟨λb=>?_,?_⟩,hβ,hM,hmk⟩
  ·have hlt:b<w.heap.size:=by have:=hs.hlo;have:=hs.size;omega
   have hn:b∉β:=λh=>by have:=(hβ b h).1;omega
   rw[(I b hlt hn).1];exact hs.old b hb hm
  ·have hlt:b<w.heap.size:=by have:=hs.hlo;have:=hs.size;omega
   have hn:b∉β:=λh=>by have:=(hβ b h).1;omega
   rw[(I b hlt hn).2];exact hs.dold b hb
  ·obtain⟨p1,p2,p3⟩:=hs.box p hp;obtain⟨R,U⟩:=box' p hp;exact⟨R.trans p1,U.trans p2,p3⟩
  ·by_cases hb:b∈β
   ·rw[(hβ b hb).2 D₁ hD₁];exact oq
   ·by_cases hlt:b<w.heap.size
    ·rw[(I b hlt hb).2];exact(hD D₁ hD₁).1 b
    ·have:=(hD D₁ hD₁).1 b;rw[hs.agr.fresh (Nat.le_of_not_lt hlt)]at this;rw[List.prefix_nil.1 this];exact oq
  ·have h0:(0:Nat)∉β:=λhm=>hs.agr.2.1 ((hD D₁ hD₁).2.trans ((hβ 0 hm).2 D₁ hD₁))
   rw[(I 0 hs.agr.pos h0).2];exact(hD D₁ hD₁).2
 ·rintro β β' D w ⟨g,hg,hs,hD,hβ,hM,hmk⟩ hb';refine⟨g,hg,hs,hD,λb hb=>?_,λp hp hb=>?_,hmk⟩
  ·rcases hb' b hb with h|h
   ·exact hβ b h
   ·refine⟨by have:=hs.hlo;have:=hs.size;omega,λD₁ hD₁=>?_⟩;have:=(hD D₁ hD₁).1 b;rw[hs.agr.fresh h]at this;exact List.prefix_nil.1 this
  ·rcases hb' _ hb with h|h
   ·exact hM p hp h
   ·have:=bR (hs.box p hp).1;omega
theorem jH.roundM{h0:H0}{lo:Nat}{D0 D D':aC}{mods:List Nat}{L μ':aF}{w w':Δ}(h:jH h0 lo D0 mods L D w)(_hmk:∀k∈mods,k∈L.ks)(hs:jH (hd w) w.heap.size D (L.map (·.1)) μ' D' w'):jH h0 lo D0 mods μ' D' w':=by
 have hle:=xj h.hlo h.size;have hkey:∀b∈L.map (·.1),lo≤b∨b∈mods:=by
  intro b hb;obtain⟨p,hp,rfl⟩:=n5.1 hb;exact(h.box p hp).2.2
 refine⟨h.hlo,xj h.size hs.size,λb hb hm=>?_,λb hb=>?_,hs.agr,λp hp=>?_,hs.nd,hs.fz,λe he=>(hs.env _ C).trans (h.env e he)⟩
 ·rw[hs.old b (vc hb hle) (λhk=>by
   rcases hkey b hk with h1|h1
   ·have:=h.hlo;omega
   ·exact hm h1)]
  exact h.old b hb hm
 ·rw[hs.dold b (vc hb hle)];exact h.dold b hb
 ·obtain⟨p1,p2,p3⟩:=hs.box p hp;refine⟨p1,p2,?_⟩;rcases p3 with p3|p3
  ·exact zq (by have:=h.size;omega)
  ·exact hkey _ p3
theorem Mm3{α γ:Type}{xs:List α}{enc:Nat→List Γ}{cells:α→List Γ}{Dr:aC}{f:FuncId}{cap:List Γ}{gop:Operand}{ps:Array Tmp}{assign body:Code}
  (Φ:List α→γ→Prop) (Ψ:List α→Code→γ→Prop) (M:γ→aF) (g₀:γ) (hr:X.r=none) (hex:X.ex=none) (hmods:∀g,∀k∈X.mods,k∈(M g).ks)
  (hg:ev T gop=some (.func (.func f) #[] cap.toArray)) (hit:Po P f cap Dr xs enc cells) (hDr:Dr∈W) (hps:∀b,(enc b).length=ps.size) (hpN:(ps.toList.all λp=>Nat.blt p X.N)=true) (h₀:Φ [] g₀) (hμ:M g₀=L)
  (hround:∀pre x g,(∃r,xs=pre++x::r)→Φ pre g→∀(l bd bo:Nat) (rec:Loop) (h0:H0) (D:aC),(∀D₁∈W,Le D₁ D)→At D bo 0 (cells x)→rec.state=.ready→rec.pending=none→
   WC P (Xr l X.N h0 D ((M g++(l,Obj.loop rec)::[(bd,Obj.deferred (some []))]).map (·.1)))
    (Exit.then (λa₁ w₁=>∃w₂,(Instr.beginRound l).run P w₁=.ok () w₂∧body.wpIn ((FW none).inRound l) 0 P (roundPost P l (P5 h0 D ((M g++(l,Obj.loop rec)::[(bd,Obj.deferred (some []))]).map (·.1)) (Φ (pre++[x])) (Ψ (pre++[x]))
     (λg=>M g++(l,Obj.loop {rec with state:=.ready,pending:=none})::[(bd,Obj.deferred (some []))]) λc g=>M g++(l,Obj.loop {rec with state:=.done,pending:=some c})::[(bd,Obj.deferred (some []))])) a₁ w₂) λ_ _ _=>False)
    assign (O0 ps.toList (enc bo) T) (M g++(l,Obj.loop rec)::[(bd,Obj.deferred (some []))]) (D::W))
  (hdone:∀g bd,Φ xs g→∀a w,Hl (X.withDs bd) T (M g++[(bd,Obj.deferred (some []))]) W a w→Q .normal a w)
  (hstop:∀pre c g bd,Ψ pre c g→WC P (X.withDs bd) Q c T (M g++[(bd,Obj.deferred (some []))]) W):WC P X Q (.rangeFunc gop ps assign body) T L W:=by
 intro a w hh;subst hμ;have hev:=hh.eval hg;obtain⟨h1,h2,h3,D,h4,h5,h6⟩:=hh;refine wpIn_rangeFunc λfn _=>?_
 have hround':(FW X.r).round=none:=hr;rw[hround'];have hmk:∀g (B:aF),∀k∈X.mods,k∈(M g++B).ks:=λg B k hk=>by
  show k∈(M g++B).map _;rw[ze];exact yw _ (hmods g k hk)
 let bd:=w.heap.size
 let l:=w.heap.size+1
 let I:Loop:={state:=.ready,pending:=none,fn,tmps:=a.tmps,params:=ps,assign,body,defers:=bd}
 let V:Δ:={w with heap:=w.heap.push (.deferred (some []))}
 let U:Δ:={V with heap:=V.heap.push (.loop I)}
 have Y:jH X.h0 X.lo X.D0 X.mods ((bd,Obj.deferred (some []))::M g₀) D V:=h4.push (.deferred (some [])) trivial;have O:jH X.h0 X.lo X.D0 X.mods ((l,Obj.loop I)::(bd,Obj.deferred (some []))::M g₀) D U:=by
  have:=Y.push (.loop I) trivial;have e:V.heap.size=l:=by simp[V,l]
  rw[e]at this;exact this
 have hperm:jH X.h0 X.lo X.D0 X.mods (M g₀++(l,Obj.loop I)::[(bd,Obj.deferred (some []))]) D U:=by
  refine O.sub (λp hp=>?_) ?_
  ·simp only[zd,zm,n4,yk]at hp ⊢
   rcases hp with hp|hp|hp
   ·exact zt (zt hp)
   ·exact zq hp
   ·exact zt (zq hp)
  ·have hn:=O.nd;simp only[yl,xg,zm,wn]at hn;simp only[ze,yl,tj,za,xg,zm,n4,yk,p_,wz,and_true];refine⟨hn.2.2,hn.1.1,λq hq r hr'=>?_⟩;rcases hr' with rfl|rfl
   ·rintro rfl;exact hn.1.2 hq
   ·rintro rfl;exact hn.2.1 hq
 refine⟨l,[pE bd],U,{target:=.fn (.func f) cap.toArray,args:=#[.func (.yield l) #[] #[]]},U,f,(.func (.yield l) #[] #[]::cap).toArray,U,run_enterLoop_outer fn a.tmps ps assign body,?_,λ_ _=>trivial,?_,λh=>vk,?_⟩
 ·simp only[resolve,Deferred.ofValue];have e:Array.map a.eval #[Operand.const (Value.func (Fn.yield l) #[] #[])]=#[.func (.yield l) #[] #[]]:=by simp[Act.eval]
  rw[e,hev];rfl
 ·simp only[invoke];rw[hit.1];simp
 ·refine eC.2 ((hit.2 X.lo l
   (λpre=>jx X.h0 X.lo X.D0 X.mods W (Φ pre) λg=>M g++(l,Obj.loop I)::[(bd,Obj.deferred (some []))])
   (λpre=>jx X.h0 X.lo X.D0 X.mods W (λcg:Code×γ=>Ψ pre cg.1 cg.2) λcg=>M cg.2++(l,Obj.loop {I with state:=.done,pending:=some cg.1})::[(bd,Obj.deferred (some []))])
   (λ_=>BG) (λ_=>BG) ?_ D U O.dom (h5 Dr hDr) ⟨g₀,h₀,hperm,h5,(λ_ h=>wg),(λ_ _ h=>wg),hmk g₀ _⟩).mono ?_)
  ·rintro pre x β Dx wx bo hx hdx ⟨g,hΦ,hst,hDs,hβ,hM,hmg⟩ hβs hle ⟨hbo,hbD,be,bfz,hbw⟩;have hbox:=(hst.box (l,Obj.loop I) Yf).1;refine⟨fn,_,assign,body,run_yield hbox (by simpa using hps bo),?_⟩;refine(roundIn_of_wpIn (F:=FW none) zy (R:=P5 (hd wx) (jD Dx bo (cells x)) ((M g++(l,Obj.loop I)::[(bd,Obj.deferred (some []))]).map (·.1)) (Φ (pre++[x])) (Ψ (pre++[x]))
     (λg=>M g++(l,Obj.loop {I with state:=.ready,pending:=none})::[(bd,Obj.deferred (some []))]) λc g=>M g++(l,Obj.loop {I with state:=.done,pending:=some c})::[(bd,Obj.deferred (some []))]) ?_).mono ?_
   ·have hw:=hround pre x g hx hΦ l bd bo I (hd wx) (jD Dx bo (cells x)) (λD₁ h=>(hDs D₁ h).trans (n9 hbD (hst.agr.ne0 hbD))) (XL _ _ _) C C;have ht:(ps.zip (enc bo).toArray).foldl (λtmps (t,a)=>tmps.setIfInBounds t a) a.tmps=(ps.toList.zip (enc bo)).foldl (λtmps (p:Tmp×Γ)=>tmps.setIfInBounds p.1 p.2) a.tmps:=by
     rw[←Array.foldl_toList];simp
    have hpN':∀p∈ps.toList,p<a.tmps.size:=λp hp=>by rw[h1];simpa [Nat.blt_eq]using yu.1 hpN p hp
    refine hw {tmps:=_,defers:=[]} wx ⟨?_,λs v hs=>?_,C,jD Dx bo (cells x),⟨zk _,zk _,λ_ _ _=>C,λ_ _=>C,OS hst.agr hbw hbD,λp hp=>?_,hst.nd,hst.fz,λe he=>yi he⟩,λD₁ hD₁=>?_,zy⟩
    ·show((ps.zip (enc bo).toArray).foldl _ a.tmps).size=X.N;rw[ht,u7];exact h1
    ·show((ps.zip (enc bo).toArray).foldl _ a.tmps)[s]?= some v;rw[ht];exact s5 _ _ _ _ h2 hpN' s v hs
    ·obtain⟨p1,p2,p3⟩:=hst.box p hp;exact⟨p1,af,zt (n5.2 ⟨p,hp,C⟩)⟩
    ·rcases zm.1 hD₁ with rfl|hD₁
     ·exact Le.refl _
     ·exact(hDs D₁ hD₁).trans (n9 hbD (hst.agr.ne0 hbD))
   ·rintro e w' ⟨b,D',rfl,hb⟩;have fin:∀μ',jH (hd wx) wx.heap.size (jD Dx bo (cells x)) ((M g++(l,Obj.loop I)::[(bd,Obj.deferred (some []))]).map (·.1)) μ' D' w'→jH X.h0 X.lo X.D0 X.mods μ' (jD D' bo []) w'∧O1 β Dx wx (jD D' bo []) w'∧(∀D₁∈W,Le D₁ (jD D' bo []))∧(∀p∈μ',p.1∉β):=by
     intro μ' Z;have hs':=Z.hide hbD (hst.agr.ne0 hbD);refine⟨hst.roundM hmg hs',jH.roundHigh hst.agr hs' hβs hM,λD₁ hD₁=>(hDs D₁ hD₁).trans (iJ hst.agr hs'),λp hp hpb=>?_⟩;rcases(hs'.box p hp).2.2 with h|h
     ·have:=hβs _ hpb;omega
     ·obtain⟨q,hq,he⟩:=n5.1 h;exact hM q hq (by rw[he];exact hpb)
    refine⟨b,jD D' bo [],C,?_⟩;cases b with
    |true=>
     obtain⟨g',hg',hs'⟩:=hb;obtain⟨f1,f2,f3,f4⟩:=fin _ hs';exact⟨f1.dom,f2,g',hg',f1,f3,hβ,f4,hmk g' _⟩
    |false=>
     obtain⟨c',g',hg',hs'⟩:=hb;obtain⟨f1,f2,f3,f4⟩:=fin _ hs';exact⟨f1.dom,f2,(c',g'),hg',f1,f3,hβ,f4,hmk g' _⟩
  ·rintro e w' ⟨v,D',rfl,hd,hend⟩;have post:∀(g:γ) (r:Loop),jH X.h0 X.lo X.D0 X.mods (M g++(l,Obj.loop r)::[(bd,Obj.deferred (some []))]) D' w'→(∀D₁∈W,Le D₁ D')→
     Hl (X.withDs bd) T (M g++[(bd,Obj.deferred (some []))]) W {a with defers:=[pE bd]++a.defers} (w'.putObj l (.loop {r with state:=.exhausted})):=by
    intro g r hs hD';have hHas:bO (M g++(l,Obj.loop r)::[(bd,Obj.deferred (some []))]) l (.loop r) (.loop {r with state:=.exhausted}) (M g++(l,Obj.loop {r with state:=.exhausted})::[(bd,Obj.deferred (some []))]):=.app .head;have hs':=hs.set (w':=w'.putObj l (.loop {r with state:=.exhausted})) hHas ⟨C,C⟩ trivial;have hs'':=hs'.sub (μ':=M g++[(bd,Obj.deferred (some []))]) (λp hp=>by
     rcases zd.1 hp with hp|hp
     ·exact yw _ hp
     ·exact LT _ (GT _ hp)) (by
     have hn:=hs'.nd;rw[ze,za]at hn ⊢
     simp only[yl]at hn;exact⟨hn.1,(xg.1 hn.2.1).2,λq hq r hr=>hn.2.2 q hq r (GT _ hr)⟩)
    exact⟨h1,h2,zn (pE bd:: ·) h3,D',hs'',hD',fw⟩
   rcases hend with⟨g,hΦ,hs,hDs,_,_,_⟩|⟨pre,⟨c,g⟩,hΨ,hs,hDs,_,_,_⟩
   ·have hb:=(hs.box (l,Obj.loop I) Yf).1;exact⟨none,_,run_endLoop hb (by simp[I]),hdone g bd hΦ _ _ (post g I hs hDs)⟩
   ·have hb:=(hs.box (l,Obj.loop {I with state:=.done,pending:=some c}) Yf).1;refine⟨some c,_,run_endLoop hb Yf,?_⟩;have:=hstop pre c g bd hΨ _ _ (post g _ hs hDs);exact this

theorem Mm2{α:Type}{f:FuncId}{fn:Func}{c:Code}{cap:List Γ}{Dr:aC}{xs:List α}{enc:Nat→List Γ}{cells:α→List Γ}(N:Nat)(hf:P.funcs[f]?= some fn)(hn:(fn.name== "runtime.NumGoroutine")=false)(hb:fn.body=some c)(hN:fn.ntmps=N)(hsz:Nat.ble (cap.length+1) N=true)
  (h:∀(lo l:Nat) (J Jx:List α→xL),(∀pre,k9 lo (J pre))→(∀pre,k9 lo (Jx pre))→
   (∀pre x β D w bo,(∃r,xs=pre++x::r)→Q3 lo D w→J pre β D w→(∀b∈β,b<w.heap.size)→Le Dr D→QG β D w bo (cells x)→
    jS P l (enc bo) w λb D' w'=>Q3 lo D' w'∧O1 β D w D' w'∧(if b then J (pre++[x]) β D' w' else Jx (pre++[x]) β D' w'))→
   WC P (Xj N lo (J [])) (bodyPost P fn (ES lo [Dr] λ_ J' _=>J'=J xs∨∃pre,J'=Jx pre)) c (kA 0 (.func (.yield l) #[] #[]::cap)) [] [Dr]):Po P f cap Dr xs enc cells:=by
 refine⟨EF.of hf hn hb,λlo l J Jx hs hsx hY D w hd hle hJ=>?_⟩;have hF:=j4 (L:=[]) N hf hn hb hN (by simpa using hsz) (h lo l J Jx hs hsx hY);refine(hF.2 w ⟨D,⟨ra _,hd.2,λb hb=>absurd hb (pg _),λb hb=>absurd hb (pg _),hd.1,Yi,wz,Yi,λe he=>by cases he⟩,λD₁ h1=>?_,hs [],hJ⟩).mono ?_
 ·simp only[yf]at h1;subst h1;exact hle
 ·rintro e w' ⟨v,J',μ',rfl,⟨D',hst,hds,hex⟩,hpost⟩;refine⟨v,D',C,hst.dom,?_⟩;have hJ':J' [] D' w':=hex.1.own _ [] D' w' hex.2 (λb hb=>by cases hb);rcases hpost with rfl|⟨pre,rfl⟩
  ·exact zq hJ'
  ·exact zt ⟨pre,hJ'⟩
theorem vP{t e:Θ}{sz n:Nat}{z0:Γ}{zs cs:List Γ}{k k':IntKind}(ho:G[ix]?= some ⟨some d,.makeSlice t x y,ty,pos,aft,g⟩)(ht:P.underlying t=some (.slice e))(hs:TS P e sz)(hz:TZ P e z0)(hzc:z0.cells=zs.toArray)(hi:(P.info? e).map (λi=>Nat.ble 1 i.bytes&&Nat.ble i.bytes 4096)=some true)
  (hx:ev T x=some (.int k n)) (hy:ev T y=some (.int k' n)) (hn:n≤10000) (hcs:((Array.range (n*sz)).map (zs.toArray[· %zs.toArray.size]!)).toList=cs) (hN:Nat.blt d X.N=true) (hg:dF G T g)
  (kk:∀b,WL P X H G K Q os ((d,qS b n n)::T) ((b,.cells cs.toArray e (0,0))::L) W):WL P X H G K Q ((fl,ix)::os) T L W:=by
 refine fW ho C C hg λa w hh=>?_
 obtain⟨h1,h2,h3,D,h4,h5,V⟩:=id hh;have hn':=hn;obtain⟨i0,O,hb⟩:=s_.1 hi;simp only[zl]at hb;have Y:=vf hb.1;have R:=vf hb.2;have hti:∀w,(typeInfo e).run P w=.ok i0 w:=λw=>by simp[typeInfo,program,Sem.run,O,go_sem]
 have hw:IntKind.i64.wrap (n:Int)=n:=tL Ye;have hbn:i0.bytes*n≤4096*10000:=rc R hn';have hlarge:(((n:Int)<0)||decide ((i0.bytes:Int)*n>2^48))=false:=by
  have:((i0.bytes*n:Nat):Int)≤40960000:=Yd
  rw[Int.natCast_mul]at this;simp only[xn,yt];constructor
  ·omega
  ·omega
 have hzz:∀w,(zeroValue e).run P w=.ok z0 w:=hz;have hrun:(execOp a.eval ⟨some d,.makeSlice t x y,ty,pos,aft,g⟩).run P w=.ok (.value (.slice (some ⟨w.heap.size,0,none⟩) n n)) {w with heap:=w.heap.push (.cells cs.toArray e (0,0))}:=by
  have hcs':(Array.range (n*sz)).map (zs.toArray[· %zs.toArray.size]!)=cs.toArray:=by rw[←hcs]
  have hai:∀(k:IntKind) (m:Int) (w:Δ),(asInt (.int k m)).run P w=.ok m w:=λ_ _ _=>C
  simp only[execOp,Instr.makeSlice,hh.eval hx,hh.eval hy,hai,Ω,TU.of ht w,Ξ,ε,hti,hw,pure_bind];rw[zv (by simp only[yg,LE,wn];exact⟨⟨by simpa using hlarge,Yd⟩,Yd⟩)]
  simp only[Ω,FF,Ξ,hs w,xr];by_cases hnz:n*sz=0
  ·rw[zo hnz];have I:∀f:Nat→Γ,(Array.range 0).map f=#[]:=λf=>by simp
   have U:cs.toArray=#[]:=by rw[←hcs',hnz];exact I _
   simp only[ε,Ω,U];rw[hnz];simp only[I,kV,Ξ]
  ·rw[zv hnz];simp only[Ω,hzz,Ξ,ε,hzc,hcs',kV]
 rw[hrun];have hs':=h4.push (.cells cs.toArray e (0,0)) C;refine⟨λ_=>rH _ _ _,kk w.heap.size _ _ (Hl.put ⟨h1,h2,h3,D,hs',h5,V.step (λ_ p hp=>?_) (λ_=>⟨Yf,λb hb _=>⟨dV hb,C⟩,C⟩) hs'.dom⟩ hN _)⟩;rcases zm.1 hp with rfl|hp
 ·exact zt (zk _)
 ·exact zq (n5.2 ⟨p,hp,C⟩)
theorem j8{n sz:Nat}{zs:List Γ}(h:∀u∈zs,u=qI 0)(hl:zs.length=sz):((Array.range (n*sz)).map (zs.toArray[· %zs.toArray.size]!)).toList=ints (List.replicate (n*sz) 0):=by
 apply List.ext_getElem?;intro i;simp only[ou,Array.toList_range,xt,ints,List.map_replicate,List.getElem?_replicate];by_cases hi:i<n*sz
 ·rw[rf hi,zo hi];have hpos:0<sz:=by
   rcases Nat.eq_zero_or_pos sz with h0|h0
   ·subst h0;simp at hi
   ·exact h0
  have hm:i%zs.toArray.size<zs.length:=by simp only[wd,hl];exact Nat.mod_lt _ hpos
  simp only[xo];congr 1;rw[getElem!_pos _ _ ob];exact h _ Yf
 ·rw[tq wy,zv hi];rfl

theorem Hl.freezeM{A B ν:aF}{e sz n:Nat}{cells:List Γ}{a:Act}{w:Δ}(hacc:bM e sz v n cells ν)(hmods:∀k∈X.mods,k∈(A++B).ks)(hh:Hl X T (A++ν++B) W a w):
  ∃D',(∀D₁∈W,Le D₁ D')∧lB D' v n cells∧Hl X T (A++B) (D'::W) a w:=by
 obtain⟨h1,h2,h3,D,h4,h5,I⟩:=hh;rcases hacc with⟨old,hv,hn,hc,hν⟩|⟨b,cap,junk,hv,hncap,hν,hl1,O⟩
 ·subst hν;refine⟨D,h5,zq ⟨old,hv,hn,hc⟩,h1,h2,h3,D,by simpa using h4,λD₁ hD₁=>?_,by simpa using I⟩;rcases zm.1 hD₁ with rfl|hD₁
  ·exact Le.refl _
  ·exact h5 D₁ hD₁
 ·subst hν;have hb:=(h4.box (b,.cells (cells++junk).toArray e (0,0)) Yf).2.2;have hnb:b∉(A++B).ks:=λhm=>by
   have hnd:=h4.nd;simp only[ze,yl,yy,rh]at hnd;have:=za.1 hnd;have h2':=xg.1 this.2.1;simp only[aF.ks,ze,zd]at hm;rcases hm with hm|hm
   ·exact this.2.2 b hm b zj C
   ·exact h2'.1 hm
  have hb':=hb.resolve_right λh=>hnb (hmods b h);obtain⟨D',hle,hD',hDo,hs⟩:=h4.freeze hb';refine⟨D',λD₁ hD₁=>(h5 D₁ hD₁).trans hle,zt ⟨b,cap,hv,hncap,λj u hj=>by rw[hD',wo];exact hj⟩,h1,h2,h3,D',hs,λD₁ hD₁=>?_,I.step (λ_ p hp=>zq (n5.2 ⟨p,ai,C⟩)) (λ_=>⟨zk _,λc _ hn=>⟨C,hDo c (by rintro rfl;exact hn Yf)⟩,C⟩) hs.dom⟩
  rcases zm.1 hD₁ with rfl|hD₁
  ·exact Le.refl _
  ·exact(h5 D₁ hD₁).trans hle
theorem E9{A B ν:aF}{e sz n:Nat}{cells:List Γ}(hacc:bM e sz v n cells ν)(hmods:∀k∈X.mods,k∈(A++B).ks)(kk:∀D,(∀D₁∈W,Le D₁ D)→lB D v n cells→WL P X H G K Q os T (A++B) (D::W)):WL P X H G K Q os T (A++ν++B) W:=by
 intro a w hh;obtain⟨D',h1,h2,h3⟩:=hh.freezeM hacc hmods;exact kk D' h1 h2 a w h3
theorem OY{w9:Act→Δ→Prop}{A B ν:aF}{e sz n:Nat}{cells:List Γ}(hacc:bM e sz v n cells ν)(hmods:∀k∈X.mods,k∈(A++B).ks)(kk:∀D,(∀D₁∈W,Le D₁ D)→lB D v n cells→∀a w,Hl X T (A++B) (D::W) a w→w9 a w):∀a w,Hl X T (A++ν++B) W a w→w9 a w:=by
 intro a w hh;obtain⟨D',h1,h2,h3⟩:=hh.freezeM hacc hmods;exact kk D' h1 h2 a w h3
theorem Hl.apart{a:Act}{w:Δ}{D₁:aC}{b o:Nat}{c:Γ}{cs:List Γ}(hh:Hl X T L W a w)(hA:At D₁ b o (c::cs))(hD:D₁∈W):b∉L.ks:=by
 obtain⟨h1,h2,h3,D,h4,h5,I⟩:=hh;intro hm;obtain⟨p,hp,rfl⟩:=n5.1 hm;have h0:=(h5 D₁ hD).get (hA 0 c C);rw[(h4.box p hp).2.1]at h0;simp at h0
theorem fK{c':Code}{D₁:aC}{b o:Nat}{c:Γ}{cs:List Γ}(hA:At D₁ b o (c::cs))(hD:D₁∈W)(k:b∉L.ks→WC P X Q c' T L W):WC P X Q c' T L W:=λa w hh=>k (hh.apart hA hD) a w hh
theorem At.tail{D:aC}{b o:Nat}{c:Γ}{cs:List Γ}(h:At D b o (c::cs)):At D b (o+1) cs:=λj v hj=>by
 have:=h (j+1) v qd;rw[show o+1+j=o+(j+1) by omega];exact this

theorem Kq{f:FuncId}{fn:Func}{c:Code}{args:List Γ}{D:aC}{ν:aF}{post:aC→Γ→aF→Prop}(N:Nat)(hf:P.funcs[f]?= some fn)(hn:(fn.name== "runtime.NumGoroutine")=false)(hb:fn.body=some c)(hN:fn.ntmps=N)(hsz:Nat.ble args.length N=true)
  (h:∀h0:H0,(∀p∈ν,p.1<h0.size)→ν.ks.Nodup→WC P (tX N h0 D ν.ks) (d4 P fn (oJ (tX N h0 D ν.ks) ν.ks post)) c (kA 0 args) ν [D]):LX P f args D ν post:=by
 refine⟨EF.of hf hn hb,λw hw hν hnd=>?_⟩;subst hN;have hsz:=vf hsz;have hq:∀e a w',d4 P fn (oJ (tX fn.ntmps (hd w) D ν.ks) ν.ks post) e a w'→bodyPostM (FW none) 0 P fn (oJ (tX fn.ntmps (hd w) D ν.ks) ν.ks post) e a w':=by
  intro e a w' he;cases e<;>first|exact he|exact he.elim
 have hwp:=h (hd w) (λp hp=>bR (hν p hp).1) hnd {tmps:=args.toArray++Array.replicate (fn.ntmps-args.toArray.size) undef,defers:=[]} w ⟨by simp[tX];omega,λs v hs=>by
  obtain⟨_,h2⟩:=gV args 0 s v hs;have hl:=(yx.1 h2).1;simp only[uw]at h2 hl;show(args.toArray++_)[s]?= some v;rw[sb uu];simpa using h2,C,D,⟨zk _,zk _,(λ_ _ _=>C),(λ_ _=>C),hw,(λp hp=>⟨(hν p hp).1,(hν p hp).2.1,zt (n5.2 ⟨p,hp,C⟩)⟩),hnd,(λp hp=>(hν p hp).2.2),λe he=>yi he⟩,(λD₁ h1=>fu),zy⟩
 refine(eC (r:=none) (n:=0)).1 ((callsIn_of_wp_marks hf hb zy (wpIn_mono hwp hq) C).mono ?_);rintro e w' ⟨v,D',ν',rfl,hk,hs,hp⟩;exact⟨v,D',ν',C,hk,hs,hp⟩
theorem Od{fn:Func}{bd:Nat}{ks:List Nat}{post:aC→Γ→aF→Prop}{e:Exit}(he:(match e with|.normal=>true|.ret=>true|_=>false)=true){rs:List ResultVar}{vs:List Γ}{A B ν':aF}(hds:X.ds=[])(hr:fn.results=rs.toArray)(h:N3 P X T (A++ν'++B++[(bd,Obj.deferred none)]) rs vs)
  (hk:ν'.ks=ks) (hp:∀D,(∀D₁∈W,Le D₁ D)→post D (sR vs) ν'):∀a w,Hl (X.withDs bd) T (A++ν'++B++[(bd,Obj.deferred (some []))]) W a w→d4 P fn (oJ X ks post) e a w:=by
 intro a w hh;obtain⟨h1,h2,h3,D,h4,h5,I⟩:=hh;have hHas:bO (A++ν'++B++[(bd,Obj.deferred (some []))]) bd (.deferred (some [])) (.deferred none) (A++ν'++B++[(bd,Obj.deferred none)]):=.app .head;have hs:=h4.set (w':=w.putObj bd (.deferred none)) hHas ⟨C,C⟩ trivial;have hh':Hl X T (A++ν'++B++[(bd,Obj.deferred none)]) W {a with defers:=[]} (w.putObj bd (.deferred none)):=
  ⟨h1,h2,hds.symm,D,hs,h5,I.step (X:=X.withDs bd) (λ_ p hp=>zq Yw) (λ_=>mK ⟨C,C⟩ (n5.2 ⟨_,hHas.mem,C⟩)) hs.dom⟩
 have hrun:=jP hh' hr h;have hb:=(h4.box (bd,Obj.deferred (some [])) Yf).1;have hnd:=h4.nd;simp only[ze]at hnd;have hsub:=hs.sub (μ':=ν') (λp hp=>yw _ (yw _ (LT _ hp))) (za.1 (za.1 (za.1 hnd).1).1).2.1;have:LeavesInM (FW none) 0 P fn a.tmps (oJ X ks post) a.defers .returning w:=by
  have h3':a.defers=[pE bd]:=h3.trans fq;rw[h3'];exact⟨Yf,zq ⟨bd,_,C,run_takeDeferred hb,_,hrun,_,D,ν',C,hk,hsub,hp D h5⟩⟩
 cases e<;>first|exact this|cases he
theorem Xcq{γ:Type}(I:γ→Prop)(S:γ→Bool)(M:γ→aF)(xs ys:List (Bool×Nat)){s p:Nat}{b:Bool}(ho:os=xs++ys)(hs:look T s=some (.bool b))
  (hyes:b=true→WL P X H G (λa w=>∃g,I g∧Hl X ((p,.bool (S g))::(s,.bool true)::T) (M g) W a w) Q xs ((s,.bool true)::T) L W)
  (hno:b=false→WL P X H G (λa w=>∃g,I g∧Hl X ((p,.bool (S g))::(s,.bool false)::T) (M g) W a w) Q xs ((s,.bool false)::T) L W)
  (k:∀g,I g→WL P X H G K Q ys ((p,.bool (S g))::T) (M g) W):WL P X H G K Q os T L W:=by
 have hsub:∀u,Value.bool b=u→∀a w,Hl X T L W a w→Hl X ((s,u)::T) L W a w:=by
  rintro _ rfl a w ⟨h1,h2,h3⟩;refine⟨h1,λt v ht=>?_,h3⟩;simp only[look]at ht;cases hb:Nat.beq s t with
  |true=>rw[hb]at ht;cases ht;obtain rfl:=wa hb;exact h2 _ _ hs
  |false=>rw[hb]at ht;exact h2 _ _ ht
 have hback:∀u v μ',Value.bool b=u→∀a w,Hl X ((p,v)::(s,u)::T) μ' W a w→Hl X ((p,v)::T) μ' W a w:=by
  rintro _ v μ' rfl a w ⟨h1,h2,h3⟩;refine⟨h1,λt v' ht=>?_,h3⟩;refine h2 t v' ?_;simp only[look]at ht ⊢
  cases hp:Nat.beq p t with
  |true=>rw[hp]at ht;exact ht
  |false=>
   rw[hp]at ht;cases hb:Nat.beq s t with
   |true=>obtain rfl:=wa hb;rw[←ht,hs]
   |false=>exact ht
 subst ho;intro a w hh;cases b
 ·refine WL.append (hno C a w (hsub _ C a w hh)) ?_;rintro a w ⟨g,hI,h⟩;exact k g hI a w (hback _ _ _ C a w h)
 ·refine WL.append (hyes C a w (hsub _ C a w hh)) ?_;rintro a w ⟨g,hI,h⟩;exact k g hI a w (hback _ _ _ C a w h)
theorem zY{t:Θ}{b k:Nat}{l:List Int}{n:Int}{e:Θ}{μ':aF}(ho:G[ix]?= some ⟨none,.store t x y,ty,pos,aft,g⟩)(hs:TS P t 1)(hx:ev T x=some (.pointer (some ⟨b,k,none⟩)))(hy:ev T y=some (qI n))
  (hm:bO L b (.cells (ints l).toArray e (0,0)) (.cells (ints (l.set k n)).toArray e (0,0)) μ') (hl:k<l.length) (hg:dF G T g)
  (kk:WL P X H G K Q os T μ' W):WL P X H G K Q ((false,ix)::os) T L W:=by
 have hil:(ints l).length=l.length:=aL l;refine dD (off:=k) (us:=[qI n]) (vs:=ints l) (ws:=ints (l.set k n)) ho hx hy C hs hm (by simp[hil];omega) ?_ (λu hu=>by simp at hu;subst hu;rfl) hg kk
 rw[show ints (l.set k n)=(ints l).set k (qI n) by simp[ints,List.map_set],List.set_eq_take_append_cons_drop,zo (by rw[hil];exact hl)];simp
theorem nB{t e tr:Θ}{a:Option Addr}{n c:Nat}{ats:Array Θ}(ho:G[ix]?= some ⟨some d,.call {callee:=.builtin .len,args:=#[x],argTypes:=ats},tr,pos,aft,g⟩)(ht:P.underlying t=some (.slice e))(hx:ev T x=some (.slice a n c))(hat:ats[0]?= some t)
  (hN:Nat.blt d X.N=true) (hg:dF G T g) (kk:WL P X H G K Q os ((d,qI (n:Int))::T) L W):WL P X H G K Q ((fl,ix)::os) T L W:=
 cB ho C C hN hg (λρ hρ w'=>by
  have hx':=hρ x _ hx;simp[Builtin.len_,hat,hx',TU.of ht w',goInt,go_sem]) kk
theorem Hl.boxesEq{a:Act}{w:Δ}{μ':aF}(hh:Hl X T L W a w)(h:L=μ'):Hl X T μ' W a w:=h▸hh
theorem B8{w9:Act→Δ→Prop}(μ':aF)(h:L=μ')(k:∀a w,Hl X T μ' W a w→w9 a w):∀a w,Hl X T L W a w→w9 a w:=h▸k
theorem sJ{t t' e:Θ}{a:Option Addr}{n c:Nat}(ho:G[ix]?= some ⟨some d,.binOp .eql t x y t',ty,pos,aft,g⟩)(ht:P.underlying t=some (.slice e))(hx:ev T x=some (.slice a n c))(hy:ev T y=some (qN))(hN:Nat.blt d X.N=true)(hg:dF G T g)
  (kk:WL P X H G K Q os ((d,.bool (a.isNone))::T) L W):WL P X H G K Q ((fl,ix)::os) T L W:=
 j3 ho (λw=>by
  have hgd:(eqGuard .eql t x y (.slice a n c) (qN)).run P w=.ok () w:=by
   simp only[eqGuard];simp[go_sem]
  have heq:(Op.equal t (.slice a n c) (qN)).run P w=.ok a.isNone w:=by
   show(Op.equalIn (9999+1) t (.slice a n c) (qN)).run P w=_;rw[Op.equalIn,Ω,TU.of ht w];cases a<;>rfl
  rw[Ω,hgd];show((do Pure.pure (Value.bool (←Op.equal t (.slice a n c) (qN)))):Sem Γ).run P w=_;rw[Ω,heq];rfl) hx hy hN hg kk
theorem YQ{t:Θ}{b off:Nat}{vs us:List Γ}{e:Θ}{μ':aF}(ho:G[ix]?= some ⟨none,.store t x y,ty,pos,aft,g⟩)(hx:ev T x=some (.pointer (some ⟨b,off,none⟩)))(hy:ev T y=some v)(hv:v.cells=us.toArray)(hs:TS P t us.length)
  (hm:bO L b (.cells vs.toArray e (0,0)) (.cells vs.toArray e (0,0)) μ') (hl:off+us.length≤vs.length) (hw:vs.take off++us++vs.drop (off+us.length)=vs) (hc1:∀u∈us,cell1 u=true) (hg:dF G T g)
  (kk:WL P X H G K Q os T μ' W):WL P X H G K Q ((fl,ix)::os) T L W:=by
 refine fW ho C C hg λa w hh=>?_
 obtain⟨h1,h2,h3,D,h4,h5,I⟩:=id hh;obtain⟨w',hr,hw'⟩:=P4 (P:=P) hs hv (h4.box _ hm.mem).1 hl hc1;have:(execOp a.eval ⟨none,.store t x y,ty,pos,aft,g⟩).run P w=.ok .skip w':=by
  simp only[execOp,hh.eval hx,hh.eval hy,Ω,hr,Ξ,ε]
 rw[this];rw[hw]at hw';refine⟨λ_=>⟨ky,λc _ _=>?_⟩,kk _ _ ⟨h1,h2,h3,D,h4.set hm hw' C,h5,I.step (λ_ p hp=>zq il) (λ_=>mK hw' (n5.2 ⟨_,hm.mem,C⟩)) (h4.set hm hw' C).dom⟩⟩
 have hb:=(h4.box _ hm.mem).1;rw[hw'.1];by_cases hc:b=c
 ·subst hc;rw[Array.getElem?_setIfInBounds_self_of_lt (bR hb)];exact hb.symm
 ·rw[qp hc]

theorem lO{D₁:aC}{b o:Nat}{c:Γ}{cs:List Γ}(hA:At D₁ b o (c::cs))(hD:D₁∈W)(k:b∉L.ks→WL P X H G K Q os T L W):WL P X H G K Q os T L W:=λa w hh=>k (hh.apart hA hD) a w hh
theorem aDD{e sz b:Nat}{cells:List Γ}(h:cells.length=sz):bM e sz (qS b 1 1) 1 cells [(b,.cells cells.toArray e (0,0))]:=
 zt ⟨b,1,[],C,zk _,Yf,Yd,xw⟩
theorem aHG{D:aC}{b:Nat}{cells:List Γ}(h:lB D (qS b 1 1) 1 cells):At D b 0 cells:=by
 rcases h with⟨a,_,h0,_⟩|⟨b',cap,hv,_,hA⟩
 ·omega
 ·cases hv;exact hA
theorem Q8{c:Code}{A B:aF}{b:Nat}{cells:List Γ}{e:Θ}(hmods:X.mods=[])(kk:∀D,(∀D₁∈W,Le D₁ D)→At D b 0 cells→WC P X Q c T (A++B) (D::W)):WC P X Q c T (A++(b,.cells cells.toArray e (0,0))::B) W:=by
 have:=zN (A:=A) (B:=B) (ν:=[(b,.cells cells.toArray e (0,0))]) (c:=c) (P:=P) (X:=X) (Q:=Q) (T:=T) (W:=W) (aDD (e:=e) (b:=b) (cells:=cells) C) hmods λD hD hF=>kk D hD (aHG hF)
 simpa using this
theorem Ti{α:Type}{D:aC}{b sz:Nat}{cells:α→List Γ}(hsz:∀x,(cells x).length=sz):∀{xs:List α} {o:Nat},(∀i x,xs[i]?= some x→At D b (o+i*sz) (cells x))→At D b o (xs.flatMap cells)
 | [],o,_=>λj v hj=>by simp at hj
 |x::xs,o,h=>λj v hj=>by
  rw[xy]at hj;have h0:=h 0 x C;rw[ug,tl]at h0;have hr:=Ti hsz (xs:=xs) (o:=o+sz) λi y hy=>by
   have:=h (i+1) y (by simpa using hy);rw[show o+sz+i*sz=o+(i+1)*sz by rw[xb];omega];exact this
  rcases Nat.lt_or_ge j (cells x).length with hl|hl
  ·rw[uo hl]at hj;exact h0 j v hj
  ·rw[rk hl]at hj;have:=hr _ v hj;rw[hsz]at this;rw[show o+j=o+sz+(j-sz) by rw[hsz]at hl;omega];exact this
theorem kX.of{α:Type}{R:Rd α}{D:aC}{sz:Nat}{xs:List α}{cells:α→List Γ}(hR:∀D x cs,R D x cs→cs=cells x)(hsz:∀x,(cells x).length=sz)(h:Sl D R sz v xs):kX D v xs.length (xs.flatMap cells):=by
 obtain⟨a,cap,rfl,h1,h2,h3⟩:=h;rcases h3 with rfl|⟨b,o,rfl,h3⟩
 ·exact zq ⟨a,cap,C,C,C⟩
 ·refine zt ⟨b,o,cap,C,Ti hsz λi x hx=>?_⟩;obtain⟨cs,hr,hc,hA⟩:=h3 i x hx;rw[hR _ _ _ hr]at hA;exact hA
theorem vI{α:Type}{R:Rd α}{D:aC}{sz n c:Nat}{xs:List α}(h:Sl D R sz (.slice none n c) xs):xs=[]:=by
 obtain⟨a,cap,hv,h1,h2,h3⟩:=h;rcases h3 with h3|⟨b,o,ha,_⟩
 ·exact h3
 ·rw[ha]at hv;cases hv
theorem jI{α:Type}{R:Rd α}{D₁:aC}{sz:Nat}{t e:Θ}{xs:List α}{k:IntKind}{i:Int}{el:α}{bt ot ct:Nat}(ho:G[ix]?= some ⟨some d,.indexAddr t x y,ty,pos,aft,g⟩)(ht:P.underlying t=some (.slice e))(hs:TS P e sz)(hx:ev T x=some (.slice (some ⟨bt,ot,none⟩) xs.length ct))(hS:Sl D₁ R sz (.slice (some ⟨bt,ot,none⟩) xs.length ct) xs)
  (hy:ev T y=some (.int k i)) (h0:0≤i) (hi:xs[i.toNat]?= some el) (hN:Nat.blt d X.N=true) (hg:dF G T g)
  (kk:∀cs,R D₁ el cs→cs.length=sz→At D₁ bt (ot+i.toNat*sz) cs→WL P X H G K Q os ((d,.pointer (some ⟨bt,ot+i.toNat*sz,none⟩))::T) L W):WL P X H G K Q ((fl,ix)::os) T L W:=by
 obtain⟨a,cap,hv,h1,h2,h3⟩:=hS;cases hv;have hlt:=(yx.1 hi).1;rcases h3 with h3|⟨b,o,ha,h3⟩
 ·subst h3;simp at hi
 ·cases ha;obtain⟨cs,hr,hc,hA⟩:=h3 _ _ hi;exact eV ho ht hs hx hy h0 Yd hN hg (kk cs hr hc hA)
section
variable{t e t2:Θ}{D₁:aC}{xs:List Int}{k:IntKind}{i el:Int}{ix2 d2:Nat}{x2:Operand}{ty2:Θ}{pos2:String}{aft2:Array Edge}{g2:Option (Nat×Bool)}{fl2:Bool}
theorem aX{bt ot ct:Nat}(e9:(G[ix]?,G[ix2]?,ev T x,ev T y,xs[i.toNat]?,ev ((d,.pointer (some ⟨bt,ot+i.toNat*1,none⟩))::T) x2)=(some ⟨some d,.indexAddr t x y,ty,pos,aft,g⟩,some ⟨some d2,.load t2 x2,ty2,pos2,aft2,g2⟩,some (.slice (some ⟨bt,ot,none⟩) xs.length ct),some (.int k i),some el,some (.pointer (some ⟨bt,ot+i.toNat*1+0,none⟩))))(hS:Sl D₁ RI 1 (.slice (some ⟨bt,ot,none⟩) xs.length ct) xs)
  (kk:WL P X H G K Q os ((d2,qI el)::(d,.pointer (some ⟨bt,ot+i.toNat*1,none⟩))::T) L W) (h0:0≤i:=by omega) (ht:P.underlying t=some (.slice e):=by exact U35) (hs:TS P e 1:=by exact aI) (ha:TA P t2 false:=by exact aH) (hD:D₁∈W:=by first|simp|assumption) (hb:bt∉H:=by first|exact n4|assumption|simp)
  (hN:Nat.blt d X.N=true:=by exact C) (hg:dF G T g:=by exact zy) (hN2:Nat.blt d2 X.N=true:=by exact C) (hg2:dF G ((d,.pointer (some ⟨bt,ot+i.toNat*1,none⟩))::T) g2:=by exact zy):WL P X H G K Q ((fl,ix)::(fl2,ix2)::os) T L W:=
 jI (zn (λz=>z.1) e9) ht hs (zn (λz=>z.2.2.1) e9) hS (zn (λz=>z.2.2.2.1) e9) h0 (zn (λz=>z.2.2.2.2.1) e9) hN hg λcs hr hcl hA=>by
  obtain rfl:cs=[qI _]:=hr;exact eE (k:=0) (zn (λz=>z.2.1) e9) ha (zn (λz=>z.2.2.2.2.2) e9) hA hD C hb hN2 hg2 kk
end
theorem dM{α:Type}{R:Rd α}{D:aC}{sz:Nat}{xs:List α}{v:Γ}(h:Sl D R sz v xs)(hne:xs≠[]):∃bt ot ct,v=.slice (some ⟨bt,ot,none⟩) xs.length ct:=by
 obtain⟨a,cap,hv,h1,h2,h3⟩:=h;rcases h3 with h3|⟨b,o,ha,_⟩
 ·exact absurd h3 hne
 ·exact⟨b,o,cap,by rw[hv,ha]⟩
theorem p7{t t':Θ}{n:Nat}{k':IntKind}(ho:G[ix]?= some ⟨some d,.binOp .shl t x y t',ty,pos,aft,g⟩)(hx:ev T x=some (qI 1))(hy:ev T y=some (.int k' (n:Int)))(hn:n<62)(hN:Nat.blt d X.N=true)(hg:dF G T g)
  (kk:WL P X H G K Q os ((d,qI ((2^n:Nat):Int))::T) L W):WL P X H G K Q ((fl,ix)::os) T L W:=by
 have h2:2^n≤2^62:=wu Yd Yd;refine Xam (m:=1) ho hx hy Yd Yd hN hg ?_;rw[Nat.one_shiftLeft];exact kk
theorem oE{t:Θ}{b off:Nat}{vs us ws:List Γ}{e:Θ}{μ':aF}(ho:G[ix]?= some ⟨none,.store t x y,ty,pos,aft,g⟩)(hx:ev T x=some (.pointer (some ⟨b,off,none⟩)))(hy:ev T y=some v)(hv:v.cells=us.toArray)(hs:TS P t us.length)
  (hm:bO L b (.cells vs.toArray e (0,0)) (.cells ws.toArray e (0,0)) μ') (hl:off+us.length≤vs.length) (hw:vs.take off++us++vs.drop (off+us.length)=ws) (hc1:∀u∈us,cell1 u=true) (hfl:fl=false∨b∈H) (hg:dF G T g)
  (kk:WL P X H G K Q os T μ' W):WL P X H G K Q ((fl,ix)::os) T L W:=by
 refine fW ho C C hg λa w hh=>?_
 obtain⟨h1,h2,h3,D,h4,h5,I⟩:=id hh;obtain⟨w',hr,hw'⟩:=P4 (P:=P) hs hv (h4.box _ hm.mem).1 hl hc1;have:(execOp a.eval ⟨none,.store t x y,ty,pos,aft,g⟩).run P w=.ok .skip w':=by
  simp only[execOp,hh.eval hx,hh.eval hy,Ω,hr,Ξ,ε]
 rw[this];rw[hw]at hw';refine⟨λh=>⟨ky,λc _ hn=>?_⟩,kk _ _ ⟨h1,h2,h3,D,h4.set hm hw' C,h5,I.step (λ_ p hp=>zq il) (λ_=>mK hw' (n5.2 ⟨_,hm.mem,C⟩)) (h4.set hm hw' C).dom⟩⟩
 rcases hfl with hf|hf
 ·rw[hf]at h;cases h
 ·rw[hw'.1,qp (by rintro rfl;exact hn hf)]
theorem NC.fn{f:FuncId}{args:Array Γ}{D:aC}{post:aC→Γ→aF→Prop}{I:aC→Γ→Prop}{e sz:Nat}(h:NC P f args D post)(hacc:∀D' v ν,post D' v ν→∃n cells,bM e sz v n cells ν∧∀D'',Le D' D''→lB D'' v n cells→I D'' v):Fn P f args D I:=by
 refine⟨h.1,λw hw=>(h.2 w hw).mono ?_⟩;rintro e' w' ⟨v,D',ν,rfl,hs,hp⟩;obtain⟨n,cells,ha,hk⟩:=hacc D' v ν hp;rcases ha with⟨old,hv,hn,hc,hν⟩|⟨b,cap,junk,hv,hncap,hν,hl1,R⟩
 ·subst hν;exact⟨v,D',C,hs,hk D' (Le.refl _) (zq ⟨old,hv,hn,hc⟩)⟩
 ·subst hν;have hb:=(hs.box (b,.cells (cells++junk).toArray e (0,0)) Yf).2.2;have hs':jH (hd w) w.heap.size D [] ([]++[(b,.cells (cells++junk).toArray e (0,0))]++[]) D' w':=by simpa using hs
  obtain⟨D'',hle,hD'',hDo,O⟩:=hs'.freeze (hb.resolve_right Yf);exact⟨v,D'',C,by simpa using O,hk D'' hle (zt ⟨b,cap,hv,hncap,λj u hj=>by rw[hD'',wo];exact hj⟩)⟩
end Go.Fs
