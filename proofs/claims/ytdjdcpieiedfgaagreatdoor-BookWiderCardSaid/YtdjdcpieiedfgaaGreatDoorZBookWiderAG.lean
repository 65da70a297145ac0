/- Of the proof of BookWider: V4, V5, V6, V7, V8, V9, V10, V11, V12, V13, V14, Shell, V15, V16, V17, V18, V19, V20, V21, V22, V23, V24, V29, SW9. -/
import Derived.Test.YtdjdcpieiedfgaaGreatDoorZBookWiderAF
import Derived.Test.YtdjdcpieiedfgaaGreatDoorZBookWiderAC
import Derived.Test.YtdjdcpieiedfgaaGreatDoorZBookWiderAE
import Derived.Test.YtdjdcpieiedfgaaGreatDoorZBookWiderAD
import Derived.ProofKit
import Derived.OpenShut
import Derived.WideKeyArgs
import Derived.JoinedCond
namespace Go.Fs
open Go.Proofs Tryz
namespace L3
open L1
open C3
theorem aXR{b:bA}(h:((!C1.gW b.chairs 1 4|| !C1.gW b.coin 1 99)|| !C1.gW b.box 0 999)=false):1≤b.chairs∧b.chairs≤4:=by
 simp only[bAU,Bool.not_eq_false',C1.bX]at h;exact h.1.1
theorem aWJ{b:bA}(h:((((!C1.gW b.chairs 1 4|| !C1.gW b.coin 1 99)|| !C1.gW b.box 0 999)|| !b.lines.all (wO b.chairs))|| !b.counts.all (qV b.lines.length))=false):uU b=true∧1≤b.chairs∧b.chairs≤4:=by
 simp only[bAU,Bool.not_eq_false']at h;obtain⟨⟨⟨⟨h1,h2⟩,h3⟩,h4⟩,h5⟩:=h;exact⟨by unfold uU;rw[h1,h2,h3,h4,h5];rfl,(C1.bX.1 h1)⟩
theorem OP{b:bA}(h:(decide ((8:Int)<b.lines.length)||decide ((4:Int)<b.counts.length))=false):¬(8<b.lines.length∨4<b.counts.length):=by
 simp only[bAU,bAH]at h;omega
theorem aEJ{b:bA}(h:(decide ((8:Int)<b.lines.length)||decide ((4:Int)<b.counts.length))=true):aV b=3:=by
 simp only[bAD,aZI]at h;unfold aV;rw[aZK Yd]
theorem aVK{b:bA}(h:(decide ((8:Int)<b.lines.length)||decide ((4:Int)<b.counts.length))=false)(h2:((((!C1.gW b.chairs 1 4|| !C1.gW b.coin 1 99)|| !C1.gW b.box 0 999)|| !b.lines.all (wO b.chairs))|| !b.counts.all (qV b.lines.length))=true):aV b=1:=by
 unfold aV;rw[aZB (OP h),aZK]
 revert h2;unfold uU
 generalize C1.gW b.chairs 1 4=x,C1.gW b.coin 1 99=y,C1.gW b.box 0 999=z,b.lines.all (wO b.chairs)=u,b.counts.all (qV b.lines.length)=w;cases x<;>cases y<;>cases z<;>cases u<;>cases w<;>decide
theorem aQG{b:bA}(h:(decide ((8:Int)<b.lines.length)||decide ((4:Int)<b.counts.length))=false)(h2:uU b=true)(h3:E9 b.chairs b.lines>4096):aV b=3:=by
 unfold aV;rw[aZB (OP h),aZB (by rw[h2];simp),aZK h3]
theorem aOB{b:bA}(h:(decide ((8:Int)<b.lines.length)||decide ((4:Int)<b.counts.length))=false)(h2:uU b=true)(h3:¬E9 b.chairs b.lines>4096):aV b=0:=by
 unfold aV;rw[aZB (OP h),aZB (by rw[h2];simp),aZB h3]
theorem QX{n:Int}{ls:List gI}{i:Nat}{x:gI}(hx:ls[i]?= some x):E9 n (ls.take (i+1))=min (E9 n (ls.take i)*(dH n x).length) 4097:=by
 unfold E9;rw[aZG,hx,bAR,bAN];rfl
theorem aEP(n:Int)(ls:List gI):0≤E9 n ls∧E9 n ls≤4097:=by
 unfold E9;have key:∀(l:List gI) (m:Int),0≤m∧m≤4097→0≤l.foldl (fun(m:Int) l=>min (m*((dH n l).length:Int)) 4097) m∧l.foldl (fun(m:Int) l=>min (m*((dH n l).length:Int)) 4097) m≤4097:=by
  intro l;induction l with
  |nil=>intro m h;exact h
  |cons x l ih=>
   intro m h;rw[bAG];refine ih _ ⟨?_,by omega⟩;have:0≤m*((dH n x).length:Int):=Int.mul_nonneg h.1 Yd;omega
 exact key ls 1 Yd
theorem aTE{m:Int}{k:Nat}(h:0≤m∧m≤4097)(hk:k≤32):uN .i64 (m*(k:Int)):=by
 have h1:0≤m*(k:Int):=Int.mul_nonneg h.1 Yd;have h2:m*(k:Int)≤4097*32:=Int.mul_le_mul h.2 Yd Yd Yd;simp only[uN];omega
theorem wQ(bv:Value)(b:bA)(D:aC)(hb:gL D bv b):Fn prog 138 #[bv] D (fun _ v=>v=qI (aV b)):=by
 have M:=hb;obtain⟨lv,cv,rfl,hl,hc⟩:=hb;have hll:=hl.len;refine Zs 72 func138 rfl (fun h0=>aA<|Zu rfl (fun q1 E1 hE1 G=>Zg rfl<|bT<|bW [] 1 6 28<|Zq rfl fG rfl G eK<|Zao rfl<|Zq rfl fG rfl G eK<|Zao rfl<|Zg rfl<|Zg rfl ?_));refine bT<|Zar<|aA<|Zh rfl cE rfl<|Zj 3 rfl fA rfl G rfl<|Zab rfl U33 rfl hl rfl<|fI rfl rfl rfl rfl bDY<|Za rfl ?_;refine' cR 5 (s:=17) (p:=22) rfl (fun hE=>?_) (fun hE=>?_) ?_;rotate_left
 ·refine Zi rfl kR rfl<|Zk 4 rfl uM rfl G rfl<|cZ rfl U34 rfl hc rfl rfl ⟨_,rfl,rfl⟩<|fI rfl rfl rfl rfl ⟨_,rfl,rfl⟩<|Zae rfl ?_;exact aQ 4
 ·refine Zf rfl<|Zf rfl<|Zf rfl<|Zf rfl<|Zad rfl ?_;exact aQ 4
 refine Zg rfl<|aF<|aP rfl (fun I=>?_) (fun I=>?_)
 ·refine aA<|Zg rfl<|aG<|Zau<|Zap ?_;exact aE rfl (fun D hD=>by show Value.int _ _=_;rw[aEJ I])
 ·refine aA<|Zh rfl oI rfl<|Zj 0 rfl aJ rfl G rfl<|Zc rfl (fun D1 hD1=>kH _ _ _ _)<|Zal rfl<|Za rfl ?_;refine' cR 5 (s:=28) (p:=33) rfl (fun hF=>?_) (fun hF=>?_) ?_;rotate_left
  ·refine Zi rfl tD rfl<|Zk 1 rfl aJ rfl G rfl<|Zd rfl (fun D2 hD2=>kH _ _ _ _)<|lJ rfl rfl rfl ⟨_,rfl,rfl⟩<|Zae rfl ?_;exact aQ 4
  ·refine Zf rfl<|Zf rfl<|Zf rfl<|Zf rfl<|Zad rfl ?_;exact aQ 4
  refine Za rfl ?_;refine' cR 5 (s:=34) (p:=39) rfl (fun hH=>?_) (fun hH=>?_) ?_;rotate_left
  ·refine Zi rfl zJ rfl<|Zk 2 rfl aJ rfl G rfl<|Zd rfl (fun D3 hD3=>kH _ _ _ _)<|lJ rfl rfl rfl ⟨_,rfl,rfl⟩<|Zae rfl ?_;exact aQ 4
  ·refine Zf rfl<|Zf rfl<|Zf rfl<|Zf rfl<|Zad rfl ?_;exact aQ 4
  refine Za rfl ?_;refine' cR 6 (s:=40) (p:=46) rfl (fun V=>?_) (fun V=>?_) ?_;rotate_left
  ·have hch:=aXR V;refine Zi rfl cE rfl<|Zk 3 rfl fA rfl G rfl<|Zb rfl<|Zd rfl (fun D4 Y=>aOH _ _ _ (wO b.chairs) _ (Sl.at tN.up Y Yl Ye) ⟨_,[_],[],rfl,fun r D2 hl=>aHO _ b r D2 (M.up ((Y _ Ye).trans hl)) Yd⟩ rfl)<|lJ rfl rfl rfl ⟨_,rfl,rfl⟩<|Zae rfl ?_;exact aQ 5
  ·refine Zf rfl<|Zf rfl<|Zf rfl<|Zf rfl<|Zf rfl<|Zad rfl ?_;exact aQ 5
  refine Za rfl ?_;refine' cR 6 (s:=47) (p:=53) rfl (fun hI=>?_) (fun hI=>?_) ?_;rotate_left
  ·refine Zi rfl kR rfl<|Zk 4 rfl uM rfl G rfl<|Zb rfl<|Zd rfl (fun D5 Z=>VK _ _ _ (qV b.lines.length) _ (Sl.at wC.up Z Yl Ye) ⟨_,[_],[],rfl,fun r D2 hl=>YT _ b r D2 (M.up ((Z _ Ye).trans hl))⟩ rfl)<|lJ rfl rfl rfl ⟨_,rfl,rfl⟩<|Zae rfl ?_;exact aQ 5
  ·refine Zf rfl<|Zf rfl<|Zf rfl<|Zf rfl<|Zf rfl<|Zad rfl ?_;exact aQ 5
  refine Zg rfl<|aF<|aP rfl (fun hc2=>?_) (fun hc2=>?_)
  ·refine aA<|Zg rfl<|aG<|Zau<|Zap ?_;exact aE rfl (fun D hD=>by show Value.int _ _=_;rw[aVK I hc2])
  ·obtain⟨hok,hY⟩:=aWJ hc2;refine bM<|Zat<|Zaq<|aA<|Zg rfl<|bJ<|Zh rfl cE rfl<|Zj 3 rfl fA rfl G rfl<|Zab rfl U33 rfl hl rfl<|Za rfl<|aF<|Zar ?_;refine gX (γ:=Nat) (fun i=>b.lines.length-i) (fun i=>i≤b.lines.length) (fun i=>[(57,qI (i:Int)),(5,qI (E9 b.chairs (b.lines.take i)))]) [(56,_),(55,_),(2,_),(1,_)] (fun i=>[E1,D]) 0 Yd ⟨Yb,Yb,bDY⟩ cQ (aH) ?_;rintro i h1;refine aA<|Zai rfl<|bT<|Zz rfl (fun hJ=>?_) (fun hJ=>?_)
   ·have hi:i<b.lines.length:=by omega
    obtain⟨x,hx⟩:=dV b.lines i;refine aT<|aS<|Zar<|aA<|Zw rfl U33 bU rfl hl rfl hx (fun b1 o1 hK hM rA hN=>?_);obtain rfl:hK=[qI _,qI _,qI _]:=hM;refine Zq rfl kJ rfl hN bU<|Zx rfl jJ rfl (fun q2=>Zt rfl bU (bR.head)<|aF<|aU<|Za rfl<|Zq rfl fG rfl G eK<|Zy rfl kJ rfl Mm0 bU<|Zv rfl (fun D6 hB=>yT _ b x _ (M.up (hB _ Ye)) Yd) (fun v6 D6 hB hO=>?_));have hR:=hO;have hrl:=QJ (l:=x) (n:=b.chairs) Yd;have hmk:=aEP b.chairs (b.lines.take i);refine Zab rfl U33 rfl hR rfl<|k9 rfl rfl rfl (aTE hmk hrl) rfl bDY<|Zp rfl U25 aM dS rfl (.cons rfl rfl (.cons rfl rfl .nil)) (fun rB D901 hS O=>?_);have R:=Sl.ofInts (l:=[_,_]) (n:=2) (cap:=2) O rfl Yd Yd;refine Zc rfl (fun D7 hX=>zE _ _ [4097] _ (R.up RI.up (hX _ Ye)))<|Zg rfl<|Zah<|Zat<|Zaq<|aU<|Zaa rfl<|Za rfl<|Zah ?_;exact aK 17 (i+1) Yd Yd ⟨Yb,(by rw[QX hx];rfl),bDY⟩ rfl rfl (List.Sublist.cons _ Mm5) (fun D h=>⟨D,aZJ _ (aZJ _ (h)),Le.refl D⟩)
   ·obtain rfl:i=b.lines.length:=by omega
    rw[bAA];refine aW<|Zas<|Zas<|Zav<|Zaq<|eH<|Za rfl<|fI rfl rfl rfl rfl bDY<|aF<|Zz rfl (fun U=>?_) (fun U=>?_)
    ·refine aA<|Zg rfl<|aG<|Zap ?_;exact aE rfl (fun D hD=>by show Value.int _ _=_;rw[aQG I hok U])
    ·refine aT<|aA<|Zg rfl<|aG ?_;exact aE rfl (fun D hD=>by show Value.int _ _=_;rw[aOB I hok U])
end L3
namespace L3
open L1
section
variable{P:Program}{X:Cx}{γb:Type}[Membership Nat γb]{bad:γb}{all:Array Oper}{K:Act→World→Prop}{Q:Exit→Act→World→Prop}
variable{σ:bO}{μ:aD}{Ds:List aC}{os:List (Bool×Nat)}{fl:Bool}{ix:Nat}
variable{d:Nat}{x y z:Operand}{u v:Value}{ty:TypeId}{pos:String}{aft:Array Edge}{g:Option (Nat×Bool)}
theorem sF{t:TypeId}{b k:Nat}{l:List Int}{n:Int}{e:TypeId}{μ':aD}(ho:all[ix]?= some ⟨none,.store t x y,ty,pos,aft,g⟩)(hs:TS P t 1)(hx:ev σ x=some (.pointer (some ⟨b,k,none⟩)))(hy:ev σ y=some (qI n))
  (hm:bR μ b (qC (ints l) e) (qC (ints (l.set k n)) e) μ') (hl:k<l.length) (hfl:fl=false∨b∈bad) (hg:dE all σ g)
  (kk:WL P X bad all K Q os σ μ' Ds):WL P X bad all K Q ((fl,ix)::os) σ μ Ds:=by
 have hil:(ints l).length=l.length:=aO l;refine sW (off:=k) (us:=[qI n]) (vs:=ints l) (ws:=ints (l.set k n)) ho hx hy rfl hs hm (by simp[hil];omega) ?_ (fun u hu=>by simp at hu;subst hu;rfl) hfl hg kk
 rw[show ints (l.set k n)=(ints l).set k (qI n) by simp[ints,List.map_set],List.set_eq_take_append_cons_drop,aZK (by rw[hil];exact hl)];simp
end
open C3
theorem uV{q a b:Nat}(h:a=b):some (Value.pointer (some ⟨q,a,none⟩))=some (Value.pointer (some ⟨q,b,none⟩)):=by rw[h]
theorem zW{s:Sc}(h4:s.ch.length=4)(h5:s.tk.length=4):(pA s).length=10:=by unfold pA;simp[h4,h5]
theorem aSN{s:Sc}(h4:s.ch.length=4){c:Int}(hc:0≤c∧c<4):(ints (pA s))[0+c.toNat*1]?= some (qI (nA s.ch c)):=by
 rw[bCB,bBQ];refine cD ?_;unfold pA nA;rw[aZD,bBR Yd,bAQ,aYU Yd];rfl
theorem aSA{s:Sc}(h4:s.ch.length=4)(h5:s.tk.length=4){c:Int}(hc:0≤c∧c<4):(ints (pA s))[0+4+c.toNat*1]?= some (qI (nA s.tk c)):=by
 rw[bBQ];refine cD ?_;unfold pA nA;rw[aZD,bCZ Yd,bBR Yd,bAQ,show 0+4+c.toNat-s.ch.length=c.toNat by omega,aYU Yd];rfl
theorem FR{l:List Int}(h:l.length=4):∃a b c d,l=[a,b,c,d]:=by
 match l,h with
 | [a,b,c,d],_=>exact⟨a,b,c,d,rfl⟩
theorem zH{s:Sc}(h4:s.ch.length=4)(h5:s.tk.length=4):(pA s)[8]?= some s.money:=by
 obtain⟨a,b,c,d,e⟩:=FR h4;obtain⟨a',b',c',d',e'⟩:=FR h5;unfold pA;rw[e,e'];rfl
theorem IU{s:Sc}(h4:s.ch.length=4)(h5:s.tk.length=4):(pA s)[9]?= some s.mixed:=by
 obtain⟨a,b,c,d,e⟩:=FR h4;obtain⟨a',b',c',d',e'⟩:=FR h5;unfold pA;rw[e,e'];rfl
theorem WU{s:Sc}(h4:s.ch.length=4)(h5:s.tk.length=4){c t:Int}(hc:0≤c∧c<4)(ht:0≤t∧t<4)(x y m:Int):
  (((pA s).set c.toNat x).set (4+t.toNat) y).set 8 m=pA ⟨s.ch.set c.toNat x,s.tk.set t.toNat y,m,s.mixed⟩∧∀z,((((pA s).set 9 z).set c.toNat x).set (4+t.toNat) y).set 8 m=pA ⟨s.ch.set c.toNat x,s.tk.set t.toNat y,m,z⟩:=by
 obtain⟨a,b,c',d,e⟩:=FR h4;obtain⟨a',b',c'',d',e'⟩:=FR h5;unfold pA;rw[e,e'];have hc':c.toNat=0∨c.toNat=1∨c.toNat=2∨c.toNat=3:=by omega
 have ht':t.toNat=0∨t.toNat=1∨t.toNat=2∨t.toNat=3:=by omega
 rcases hc' with h|h|h|h<;>rcases ht' with h'|h'|h'|h'<;>rw[h,h']<;>exact⟨rfl,fun _=>rfl⟩
theorem aVJ{s:Sc}{l:gI}(h:((!(decide (nA s.ch l.chair≠0)==decide (l.kind=2)))||(!(decide (nA s.tk l.token≠0)==decide (l.kind=2))))=true):kO s l=false:=by
 unfold kO
 revert h
 generalize decide (nA s.ch l.chair≠0)=a,decide (nA s.tk l.token≠0)=c,decide (l.kind=2)=e;cases a<;>cases c<;>cases e<;>decide
theorem aPF{s:Sc}{l:gI}(h:((!(decide (nA s.ch l.chair≠0)==decide (l.kind=2)))||(!(decide (nA s.tk l.token≠0)==decide (l.kind=2))))=false):kO s l=true:=by
 unfold kO
 revert h
 generalize decide (nA s.ch l.chair≠0)=a,decide (nA s.tk l.token≠0)=c,decide (l.kind=2)=e;cases a<;>cases c<;>cases e<;>decide
theorem aUP{b:bA}{s:Sc}{i:Int}{l:gI}(h:kO s l=false):Value.tuple #[.agg (ints (pA s)).toArray,.bool false]=.tuple #[QL (if kO s l=true then eV b s i l else s),.bool (kO s l)]:=by rw[h];rfl
theorem FB{b:bA}{s:Sc}{i:Int}{l:gI}{L:List Int}(h:kO s l=true)(hL:L=pA (eV b s i l)):Value.tuple #[.agg (ints L).toArray,.bool true]=.tuple #[QL (if kO s l=true then eV b s i l else s),.bool (kO s l)]:=by rw[h,hL];rfl
theorem EU{b:bA}{s:Sc}{i:Int}{l:gI}{L:List Int}(h4:s.ch.length=4)(h5:s.tk.length=4)(hc:0≤l.chair∧l.chair<4)(ht:0≤l.token∧l.token<4)(hk:l.kind=2)
  (h:(nA s.ch l.chair≠nA s.tk l.token∧L=(pA s).set 9 (s.mixed+1))∨(nA s.ch l.chair=nA s.tk l.token∧L=pA s)):((L.set l.chair.toNat 0).set (4+l.token.toNat) 0).set 8 (s.money-b.coin)=pA (eV b s i l):=by
 obtain⟨g1,g2⟩:=WU h4 h5 hc ht 0 0 (s.money-b.coin);unfold eV;rw[aZK hk];rcases h with⟨e,rfl⟩|⟨e,rfl⟩
 ·rw[g2,aZK e]
 ·rw[g1,aZB (by rw[e];simp)]
theorem aHI{b:bA}{s:Sc}{i:Int}{l:gI}(h4:s.ch.length=4)(h5:s.tk.length=4)(hc:0≤l.chair∧l.chair<4)(ht:0≤l.token∧l.token<4)(hk:l.kind≠2):
  (((pA s).set l.chair.toNat (i+1)).set (4+l.token.toNat) (i+1)).set 8 (s.money+b.coin)=pA (eV b s i l):=by
 rw[(WU h4 h5 hc ht (i+1) (i+1) (s.money+b.coin)).1];unfold eV;rw[aZB hk]
theorem a8(bv:Value)(b:bA)(s:Sc)(i:Int)(l:gI)(D:aC)(hb:gL D bv b)(h4:s.ch.length=4)(h5:s.tk.length=4)(hc:0≤l.chair∧l.chair<4)(ht:0≤l.token∧l.token<4)(hi:0≤i∧i≤100)(hm: -100000≤s.money∧s.money≤100000)(hx:0≤s.mixed∧s.mixed≤1000)(hn:0≤b.coin∧b.coin≤99):
  Fn prog 304 #[bv,QL s,qI i,NK l] D (fun _ v=>v=.tuple #[QL (if kO s l=true then eV b s i l else s),.bool (kO s l)]):=by
 obtain⟨lv,cv,rfl,hl,hcn⟩:=hb;have G:=zW h4 h5;refine Zs 83 func304 rfl (fun h0=>aA<|Zu rfl (fun q1 E1 Z O=>DK rfl (e:=242) rfl rfl rfl bDY (fun q2=>Zu rfl (fun V E3 hB I=>Zx rfl tP rfl (fun q4=>Zg rfl<|aL<|Zh rfl V8 rfl<|Zj 0 rfl aJ rfl I rfl<|Zam rfl<|Zg rfl ?_)))));refine bJ<|Zh rfl pK rfl<|Zj 1 rfl aJ rfl I rfl<|Zh rfl rZ rfl<|fC rfl U240 aM rfl rfl Yd Yd rfl bDY<|bZ (v:=qI (nA s.ch l.chair)) rfl aJ rfl Mm1 (aSN h4 hc) n3 rfl bDY<|Zak rfl<|Za rfl<|ID rfl U4 rfl rfl rfl bDY<|Za rfl ?_;refine' cR 9 (s:=22) (p:=31) rfl (fun Y=>?_) (fun Y=>?_) ?_;rotate_left
 ·refine Zi rfl mC rfl<|Zk 2 rfl aJ rfl I rfl<|Zi rfl sI rfl<|fC rfl U240 aM rfl rfl Yd Yd rfl ⟨_,rfl,rfl⟩<|bZ (v:=qI (nA s.tk l.token)) rfl aJ rfl Mm1 (aSA h4 h5 ht) n3 rfl ⟨_,rfl,rfl⟩<|mS rfl rfl rfl rfl ⟨_,rfl,rfl⟩<|Zb rfl<|ID rfl U4 rfl rfl rfl ⟨_,rfl,rfl⟩<|Zae rfl ?_;exact aQ 8
 ·refine Zf rfl<|Zf rfl<|Zf rfl<|Zf rfl<|Zf rfl<|Zf rfl<|Zf rfl<|Zf rfl<|Zad rfl ?_;exact aQ 8
 refine aF<|aP rfl (fun R=>?_) (fun R=>?_)
 ·refine aA<|bK (e:=242) (fz:=(0,0)) rfl jL rfl Mm1 (by rw[show(ints _).length=10 by simp[G]];exact dT) n3 rfl bDY<|bD rfl rfl rfl rfl dT (by simp[G]) Yax .head (dR _) bDY<|Zg rfl<|aG<|Zap ?_;exact cS (vs:=[_,_]) rfl rfl rfl ⟨⟨_,_,_,rfl,Mm0,aYZ ⟨jL,(by rw[show(ints _).toArray.size=10 by simp[G]];exact dT),rfl⟩⟩,rfl,bDY⟩ (fun D hD=>aUP (aVJ R))
 ·have hcan:kO s l=true:=aPF R;refine aT<|eH<|Za rfl<|aF<|Zz rfl (fun hc2=>?_) (fun hc2=>?_)
  ·have M:l.kind=2:=by simpa using hc2
   refine aS<|aS<|bW [] 4 11 996<|Zh rfl pK rfl<|Zj 1 rfl aJ rfl I rfl<|Zh rfl rZ rfl<|fC rfl U240 aM rfl rfl Yd Yd rfl bDY<|bZ (v:=qI (nA s.ch l.chair)) rfl aJ rfl Mm1 (aSN h4 hc) n3 rfl bDY<|Zh rfl mC rfl<|Zj 2 rfl aJ rfl I rfl<|Zh rfl sI rfl<|fC rfl U240 aM rfl rfl Yd Yd rfl bDY ?_;refine bZ (v:=qI (nA s.tk l.token)) rfl aJ rfl Mm1 (aSA h4 h5 ht) n3 rfl bDY<|Zak rfl<|aF<|Zz rfl (fun U=>?_) (fun U=>?_)
   ·refine aU<|Zh rfl T0 rfl<|bZ (v:=qI s.mixed) rfl aJ rfl Mm1 (cD (IU h4 h5)) n3 rfl bDY<|Zaa rfl<|Zh rfl T0 rfl<|vI (k:=9) rfl aM rfl rfl (.tail bR.head) Yt bDY<|bT<|lI (gN.mk [V]) 2 [0,1,2,3,4,5,7,6,8,9] [false,false,true,true,true,true,true,true,false,false] [(false,0),(false,1),(true,2),(true,3),(true,4),(true,5),(true,7),(true,6),(false,8),(false,9)] bI (fun _ _ _ h=>kL (P:=prog) (fn:=f304) _ _ _ h) Yg rfl<|Zh rfl pK rfl<|dU rfl (k:=1) aJ rfl I Yc rfl (gN.out Ye) rfl bDY<|Zh rfl mC rfl<|dU rfl (k:=2) aJ rfl I Yc rfl (gN.out Ye) rfl bDY ?_;refine Zh rfl rZ rfl<|fC rfl U240 aM rfl rfl Yd Yd rfl bDY<|Zh rfl sI rfl<|lC I Ye (fun hap=>sF (k:=l.chair.toNat) rfl aM (uV Yd) rfl (.tail bR.head) Yt (aYZ (gN.in_ Ys)) bDY<|fC rfl U240 aM rfl rfl Yd Yd rfl bDY<|lC I Ye (fun hap=>sF (k:=4+l.token.toNat) rfl aM (uV Yd) rfl (.tail bR.head) Yt (aYZ (gN.in_ Ys)) bDY<|aL<|Zh rfl nT rfl<|bZ (v:=qI s.money) rfl aJ rfl Mm1 (cD Yaa) n3 rfl bDY<|Zh rfl tD rfl ?_));refine Zj 1 rfl aJ rfl O rfl<|Zan rfl<|Zh rfl nT rfl<|vI (k:=8) rfl aM rfl rfl (.tail bR.head) Yt bDY<|aL<|bK (e:=242) (fz:=(0,0)) rfl jL rfl Mm1 (by rw[show(ints _).length=10 by simp[G]];exact dT) n3 rfl bDY<|bD rfl rfl rfl rfl dT (by simp[G]) Yax .head (dR _) bDY<|Zg rfl<|aG<|Zap ?_
    exact cS (vs:=[_,_]) rfl rfl rfl ⟨⟨_,_,_,rfl,Mm0,aYZ ⟨jL,(by rw[show(ints _).toArray.size=10 by simp[G]];exact dT),rfl⟩⟩,rfl,bDY⟩ (fun D hD=>FB hcan (EU h4 h5 hc ht M (aZE ⟨by simpa using U,rfl⟩)))
   ·refine aT<|aS<|lI (gN.mk [V]) 2 [0,1,2,3,4,5,7,6,8,9] [false,false,true,true,true,true,true,true,false,false] [(false,0),(false,1),(true,2),(true,3),(true,4),(true,5),(true,7),(true,6),(false,8),(false,9)] bI (fun _ _ _ h=>kL (P:=prog) (fn:=f304) _ _ _ h) Yg rfl<|Zh rfl pK rfl<|dU rfl (k:=1) aJ rfl I Yc rfl (gN.out Ye) rfl bDY<|Zh rfl mC rfl<|dU rfl (k:=2) aJ rfl I Yc rfl (gN.out Ye) rfl bDY<|Zh rfl rZ rfl<|fC rfl U240 aM rfl rfl Yd Yd rfl bDY<|Zh rfl sI rfl<|lC I Ye (fun hap=>sF (k:=l.chair.toNat) rfl aM (uV Yd) rfl (.tail bR.head) Yt (aYZ (gN.in_ Ys)) bDY ?_);refine fC rfl U240 aM rfl rfl Yd Yd rfl bDY<|lC I Ye (fun hap=>sF (k:=4+l.token.toNat) rfl aM (uV Yd) rfl (.tail bR.head) Yt (aYZ (gN.in_ Ys)) bDY<|aL<|Zh rfl nT rfl<|bZ (v:=qI s.money) rfl aJ rfl Mm1 (cD Yaa) n3 rfl bDY<|Zh rfl tD rfl<|Zj 1 rfl aJ rfl O rfl<|Zan rfl<|Zh rfl nT rfl<|vI (k:=8) rfl aM rfl rfl (.tail bR.head) Yt bDY<|aL ?_);refine bK (e:=242) (fz:=(0,0)) rfl jL rfl Mm1 (by rw[show(ints _).length=10 by simp[G]];exact dT) n3 rfl bDY<|bD rfl rfl rfl rfl dT (by simp[G]) Yax .head (dR _) bDY<|Zg rfl<|aG<|Zap ?_
    exact cS (vs:=[_,_]) rfl rfl rfl ⟨⟨_,_,_,rfl,Mm0,aYZ ⟨jL,(by rw[show(ints _).toArray.size=10 by simp[G]];exact dT),rfl⟩⟩,rfl,bDY⟩ (fun D hD=>FB hcan (EU h4 h5 hc ht M (aYZ ⟨by simpa using U,rfl⟩)))
  ·have M:l.kind≠2:=by simpa using hc2
   refine aT<|aS<|lI (gN.mk [V]) 2 [0,1,2,3,4,5,6,7,8,9,11,10,12,13] [false,false,true,true,true,true,true,true,true,true,true,true,false,false] [(false,0),(false,1),(true,2),(true,3),(true,4),(true,5),(true,6),(true,7),(true,8),(true,9),(true,11),(true,10),(false,12),(false,13)] bI (fun _ _ _ h=>kL (P:=prog) (fn:=f304) _ _ _ h) Yg rfl<|Zh rfl pK rfl<|dU rfl (k:=1) aJ rfl I Yc rfl (gN.out Ye) rfl bDY<|Zh rfl mC rfl<|dU rfl (k:=2) aJ rfl I Yc rfl (gN.out Ye) rfl bDY<|Za rfl<|Zaa rfl<|Za rfl<|Zaa rfl<|Zh rfl rZ rfl ?_;refine fC rfl U240 aM rfl rfl Yd Yd rfl bDY<|Zh rfl sI rfl<|lC I Ye (fun hap=>sF (k:=l.chair.toNat) rfl aM (uV Yd) rfl (.tail bR.head) Yt (aYZ (gN.in_ Ys)) bDY<|fC rfl U240 aM rfl rfl Yd Yd rfl bDY<|lC I Ye (fun hap=>sF (k:=4+l.token.toNat) rfl aM (uV Yd) rfl (.tail bR.head) Yt (aYZ (gN.in_ Ys)) bDY<|aL<|Zh rfl nT rfl<|bZ (v:=qI s.money) rfl aJ rfl Mm1 (cD Yaa) n3 rfl bDY<|Zh rfl tD rfl<|Zj 1 rfl aJ rfl O rfl ?_));refine Zaa rfl<|Zh rfl nT rfl<|vI (k:=8) rfl aM rfl rfl (.tail bR.head) Yt bDY<|aL<|bK (e:=242) (fz:=(0,0)) rfl jL rfl Mm1 (by rw[show(ints _).length=10 by simp[G]];exact dT) n3 rfl bDY<|bD rfl rfl rfl rfl dT (by simp[G]) Yax .head (dR _) bDY<|Zg rfl<|aG ?_
   exact cS (vs:=[_,_]) rfl rfl rfl ⟨⟨_,_,_,rfl,Mm0,aYZ ⟨jL,(by rw[show(ints _).toArray.size=10 by simp[G]];exact dT),rfl⟩⟩,rfl,bDY⟩ (fun D hD=>FB hcan (aHI h4 h5 hc ht M))
end L3
namespace L3
open L1
open C3
theorem MW(c:Cn)(ba bs:Nat)(a:Int)(s:Sc)(D:aC)(h4:s.ch.length=4)(h5:s.tk.length=4)(hA:At D ba 0 [qI a])(hS:At D bs 0 (ints (pA s))):
  Fn prog 357 #[aUA c,qP ba,qP bs] D (fun _ v=>v=.bool (decide (c.after≠a)||C1.gW s.money c.lo c.hi)):=by
 refine Zs 16 func357 rfl (fun h0=>aA<|Zu rfl (fun q1 R M G=>Zg rfl<|aL<|Zh rfl B7 rfl<|Zj 0 rfl aJ rfl G rfl<|Zj 0 rfl aJ rfl hA rfl<|Zak rfl<|Za rfl ?_));refine' cR 6 (s:=9) (p:=15) rfl (fun I=>?_) (fun I=>?_) ?_;rotate_left
 ·refine Zi rfl S1 rfl<|dW rfl (k:=1) mM eG rfl G Yc rfl rfl n3 rfl ⟨_,rfl,rfl⟩<|Zi rfl nT rfl<|dU (v:=qI s.money) rfl (k:=8) aJ rfl hS Yc (cD (zH h4 h5)) n3 rfl ⟨_,rfl,rfl⟩<|Zd rfl (fun U O=>aQC (c.lo,c.hi) _ _)<|Zae rfl ?_;exact aQ 5
 ·refine Zf rfl<|Zf rfl<|Zf rfl<|Zf rfl<|Zf rfl<|Zad rfl ?_;exact aQ 5
 refine Zg rfl<|aG ?_;exact aE rfl (fun D hD=>rfl)
theorem u7(bv:Value)(b:bA)(s:Sc)(a:Int)(D:aC)(hb:gL D bv b)(h4:s.ch.length=4)(h5:s.tk.length=4):Fn prog 303 #[bv,QL s,qI a] D (fun _ v=>v=.bool (gD b s a)):=by
 obtain⟨lv,cv,rfl,hl,hc⟩:=hb;refine Zs 11 func303 rfl (fun h0=>aA<|Zu rfl (fun q1 Z R I=>Zu rfl (fun q2 E2 U M=>Zu rfl (fun q3 E3 V O=>Zg rfl<|aL<|Zh rfl kR rfl<|Zj 4 rfl uM rfl I rfl<|Zao rfl<|Zc rfl (fun D1 G=>VK _ _ _ (fun c=>decide (c.after≠a)||C1.gW s.money c.lo c.hi) _ (Sl.at wC.up G Yl Ye) ⟨_,[],[_,_],rfl,fun c Y hl=>MW c _ _ a s Y h4 h5 (O.up ((G _ Ye).trans hl)) (M.up ((G _ Ye).trans hl))⟩ rfl)<|Zg rfl ?_))));refine aG ?_;exact aE rfl (fun D hD=>rfl)
theorem vO(bv:Value)(b:bA)(D:aC)(hb:gL D bv b):Fn prog 227 #[bv] D (fun _ v=>v=QL (fT b)):=by
 obtain⟨lv,cv,rfl,hl,hc⟩:=hb;refine Zs 6 func227 rfl (fun h0=>aA<|Zu rfl (fun q1 M I G=>Zx rfl tP rfl (fun q2=>aL<|Zh rfl zJ rfl<|Zj 2 rfl aJ rfl G rfl<|Zr [qI 0,qI 0,qI 0,qI 0,qI 0,qI 0,qI 0,qI 0,qI b.box,qI 0] rfl aMV tP rfl<|Zt rfl dT (bR.head)<|aG ?_)));exact cS (vs:=[_]) rfl rfl rfl ⟨⟨_,_,_,rfl,Mm0,aYZ ⟨jL,(by first|exact dT|(simp only[aZV,aO, *];exact dT)),rfl⟩⟩,bDY⟩ (fun D hD=>rfl)
end L3
open Go.Proofs
namespace L3
open L1
open C3
structure aCV(b:bA):Prop where
 ch:1≤b.chairs∧b.chairs≤4
 co:1≤b.coin∧b.coin≤99
 bx:0≤b.box∧b.box≤999
 l8:b.lines.length≤8
 c4:b.counts.length≤4
 ln:∀l∈b.lines,wO b.chairs l=true
theorem aWY{b:bA}(h:aV b=0):aCV b:=by
 unfold aV at h;split at h
 ·omega
 ·rename_i h1;split at h
  ·omega
  ·rename_i h2;have h3:uU b=true:=by simpa using h2
   unfold uU at h3;simp only[aYT,C1.bX,aZN]at h3;exact⟨h3.1.1.1.1,h3.1.1.1.2,h3.1.1.2,by omega,by omega,h3.1.2⟩
def fS(l:List Sc):List Value:=l.flatMap fun s=>ints (pA s)
structure aXB(b:bA)(s:Sc)(k:Nat):Prop where
 lc:s.ch.length=4
 lt:s.tk.length=4
 mo:b.box-99*(k:Int)≤s.money∧s.money≤b.box+99*(k:Int)
 mi:0≤s.mixed∧s.mixed≤k
theorem aHV{b:bA}(hb:aCV b){s:Sc}{k:Nat}(h:aXB b s k)(l:gI)(i:Int):aXB b (eV b s i l) (k+1):=by
 have:=hb.co;have:=h.mo;have:=h.mi;unfold eV;split
 ·refine⟨by simp[h.lc],by simp[h.lt],?_,?_⟩
  ·simp only;push_cast;omega
  ·simp only;split<;>push_cast<;>omega
 ·refine⟨by simp[h.lc],by simp[h.lt],?_,?_⟩
  ·simp only;push_cast;omega
  ·simp only;push_cast;omega
theorem H3{l:List Sc}(h:∀s∈l,(pA s).length=10){i:Nat}{s:Sc}(hi:l[i]?= some s):((fS l).drop (i*10)).take 10=ints (pA s):=by
 induction l generalizing i with
 |nil=>simp at hi
 |cons u l ih=>
  have hu:(ints (pA u)).length=10:=by rw[aO,h u LT]
  have e:fS (u::l)=ints (pA u)++fS l:=rfl;rw[e];cases i with
  |zero=>
   obtain rfl:u=s:=by simpa using hi
   rw[bCS,bCN,bAB Yd,aZP Yd]
  |succ i=>
   rw[bDA,aZZ Yd,aZU,hu,show(i+1)*10-10=i*10 by omega];exact ih (fun t ht=>h t (n5 _ ht)) Yal
end L3
namespace L3
open L1
open C3
end L3
namespace L3
open L1
open C3
def aDF(l:List Int)(k:Nat):List Int:=(List.range 4).map fun j=>if j<k then min (l.getD j 0) 1 else 0
theorem aKX{l:List Int}{k:Nat}{x:Int}(hx:l[k]?= some x):(aDF l k).set k (min x 1)=aDF l (k+1):=by
 apply bDE;intro i;unfold aDF;rw[List.getElem?_set,aZT,aZT];simp only[bAY,List.length_range];by_cases hi:i<4
 ·rw[bDI hi];simp only[aZX];by_cases e:k=i
  ·subst e;rw[aZK rfl,aZK hi,aZK Yd,bAQ,hx];rfl
  ·rw[aZB e];by_cases h:i<k
   ·rw[aZK h,aZK Yd]
   ·rw[aZB h,aZB Yd]
 ·rw[bBX Yal];by_cases e:k=i
  ·subst e;rw[aZK rfl,aZB hi];rfl
  ·rw[aZB e];rfl
theorem aQL{l:List Int}(h:l.length=4):aDF l 4=xU l:=by
 obtain⟨a,b,c,d,rfl⟩:=FR h;rfl
theorem z7(l:List Int)(D:aC)(h4:l.length=4):Fn prog 321 #[.agg (ints l).toArray] D (fun _ v=>v=.agg (ints (xU l)).toArray):=by
 refine Zs 17 func321 rfl (fun h0=>aA<|Zu rfl (fun q1 Z hB M=>Zx rfl aPT rfl (fun q2=>bJ<|dQ rfl rY rfl M Yn (by rw[show(ints _).length=4 by simp[h4]];exact nK) n3 rfl bDY<|Za rfl<|aF<|Zar<|dD (γ:=Nat) (fun k=>4-k) (fun k=>k≤4) (fun k=>[(6,qI (k:Int))]) [(5,_),(2,_)] (fun k=>[(q2,qC (ints (aDF l k)) 240)]) (fun k=>[Z,D]) 0 Yd ⟨Yb,bDY⟩ cQ Mm5 (aH) ?_)));rintro k h1;refine aA<|Zai rfl<|bT<|Zz rfl (fun O=>?_) (fun O=>?_)
 ·have hk:k<4:=by omega
  obtain⟨x,hx0⟩:=dV l k;have hx:l[((k:Nat):Int).toNat]?= some x:=by simpa using hx0
  have hstep:=aKX hx0;refine aT<|aS<|Zar<|aA<|Za rfl<|p5 (l:=l) rfl U240 aJ aM rfl rfl Yd Yd hx rfl bDY<|Zg rfl<|Zg rfl<|aF<|aU<|Za rfl<|Za rfl ?_;refine Zp rfl U25 aM dS rfl (.cons rfl rfl (.cons rfl rfl .nil)) (fun V Y R G=>?_);have I:=Sl.ofInts (l:=[_,_]) (n:=2) (cap:=2) G rfl Yd Yd;refine Zc rfl (fun D1 U=>zE _ x [1] _ (I.up RI.up (U _ Ye)))<|fC rfl U240 aM rfl rfl Yd Yd rfl bDY<|vI (k:=k) rfl aM (uV Yd) rfl .head (by simp[aDF];omega) bDY ?_
  rw[show(aDF l k).set k (List.foldl min x [1])=aDF l (k+1)from hstep];refine Zah<|Zat<|Zaq<|aU<|Zaa rfl<|Za rfl<|Zah ?_;exact aK 13 (k+1) Yd Yd ⟨Yb,bDY⟩ rfl rfl Mm5 (fun D h=>⟨D,aZJ _ (h),Le.refl D⟩)
 ·obtain rfl:k=4:=by omega
  refine aW<|Zas<|Zas<|Zav<|Zaq<|aA<|bK (e:=240) (fz:=(0,0)) rfl rY rfl Mm0 (by rw[show(ints _).length=4 by simp[aDF]];exact nK) n3 rfl bDY<|bD rfl rfl rfl rfl nK (by simp[aDF]) (by simp[aDF]) .head (dR _) bDY<|aG ?_;exact cS (vs:=[_]) rfl rfl rfl ⟨⟨_,_,_,rfl,Mm0,aYZ ⟨rY,(by rw[show(ints _).toArray.size=4 by simp[aDF]];exact nK),rfl⟩⟩,bDY⟩ (fun D hD=>by show Value.agg _=_;rw[aQL h4])
theorem aVE:KS prog 433 9:=by
 have hf:(prog.fieldsOf 433).toList=[(prog.fieldsOf 433)[0]!,(prog.fieldsOf 433)[1]!,(prog.fieldsOf 433)[2]!]:=by kernel_rfl
 refine⟨by kernel_rfl,by kernel_rfl,by kernel_rfl,?_⟩;rw[hf];refine .cons (jY.int Yad Yg Yg) (.cons (n:=4) (jY.arr (e:=3) Yad Yg Yg Yg Yg ?_ ?_) (.cons (n:=4) (jY.arr (e:=3) Yad Yg Yg Yg Yg ?_ ?_) .nil))
 ·rw[show((prog.fieldsOf 433)[1]!).type=240 by kernel_rfl];exact rY
 ·rw[show((prog.fieldsOf 433)[1]!).type=240 by kernel_rfl];exact nK
 ·rw[show((prog.fieldsOf 433)[2]!).type=240 by kernel_rfl];exact rY
 ·rw[show((prog.fieldsOf 433)[2]!).type=240 by kernel_rfl];exact nK
theorem aVN:KM prog 433 4:=⟨(prog.fieldsOf 433)[0]!,(prog.fieldsOf 433)[1]!,(prog.fieldsOf 433)[2]!,3,by kernel_rfl,by kernel_rfl,by decide+kernel,by decide+kernel,by decide+kernel,by kernel_rfl,by kernel_rfl,by kernel_rfl,by kernel_rfl,by kernel_rfl,by kernel_rfl,by kernel_rfl,
 by rw[show((prog.fieldsOf 433)[1]!).type=240 by kernel_rfl];exact rY,by rw[show((prog.fieldsOf 433)[1]!).type=240 by kernel_rfl];exact nK,by rw[show((prog.fieldsOf 433)[2]!).type=240 by kernel_rfl];exact rY,by rw[show((prog.fieldsOf 433)[2]!).type=240 by kernel_rfl];exact nK,aM⟩
theorem aKM:BN prog 433 (X2 (n:=9)):=KM.key aVN aVE
end L3
namespace L3
open L1
section
variable{P:Program}{X:Cx}{γb:Type}[Membership Nat γb]{bad:γb}{all:Array Oper}{K:Act→World→Prop}{Q:Exit→Act→World→Prop}
variable{σ:bO}{μ:aD}{Ds:List aC}{os:List (Bool×Nat)}
theorem aSX(k:(μ.map fun p=>p.1).Nodup→WL P X bad all K Q os σ μ Ds):WL P X bad all K Q os σ μ Ds:=fun a w hh=>by
 obtain⟨_,_,_,D,hs,_⟩:=id hh;exact k hs.nd a w hh
end
theorem aUJ{w q1 G I:Nat}{o M:Obj}{R:aD}(h1:w∉aD.ks ((I,o)::(G,M)::R))(h2:q1∉aD.ks ((I,o)::(G,M)::R))(h3:(((I,o)::(G,M)::R).map fun p=>p.1).Nodup):I∉[w,q1,G]:=by
 simp only[aZR,bAO,n4,not_or]at h1 h2 h3;intro h;simp only[n4,n3,bBB]at h;rcases h with rfl|rfl|rfl
 ·exact h1.1 rfl
 ·exact h2.1 rfl
 ·exact h3.1.1 rfl
open C3
def Z5(b:bA)(Mm:List (uW 9×Bool)):Prop:=∀p∈Mm,∀(i:Nat) (s:Sc),l6 b s→aDG s→s.ch.length=4→p.1.l=aIZ s i→p.2=lU b (b.lines.drop i) i s
theorem Z5.nil{b:bA}:Z5 b []:=fun p hp=>by cases hp
theorem Z5.add{b:bA}{Mm M':List (uW 9×Bool)}{i:Nat}{s:Sc}{a:uW 9}{r:Bool}(h:Z5 b Mm)(hm:∀p∈M',p∈Mm∨p=(a,r))(ha:a.l=aIZ s i)(hi:l6 b s)(hp:aDG s)(h4:s.ch.length=4)(hr:r=lU b (b.lines.drop i) i s):Z5 b M':=by
 intro p hp' i' s' hi' hps' h4' he;rcases hm p hp' with h1|h1
 ·exact h p h1 i' s' hi' hps' h4' he
 ·subst h1;simp only at he ⊢
  rw[ha]at he;obtain⟨G,I⟩:=aIS (ls:=b.lines.drop i) he hi hi' hp hps' h4 h4';rw[hr,←G];exact I.trans (by rw[←G])
theorem HI{a c d:Value}{lv cv lv' cv':Value}(h:Value.agg #[a,c,d,lv,cv]=.agg #[a,c,d,lv',cv']):lv=lv'∧cv=cv':=by
 simp at h;exact h
theorem aOA{b:bA}{ls:List gI}{i:Nat}{s:Sc}(h:gD b s i=false):lU b ls i s=false:=by
 cases ls with
 |nil=>exact h
 |cons l ls=>unfold lU;rw[h];rfl
theorem aKI{b:bA}{i:Nat}{s:Sc}(h:gD b s i=true)(hi:(i:Int)=(b.lines.length:Int)):lU b (b.lines.drop i) i s=true:=by
 rw[aZZ Yd];exact h
def aVA(b:bA)(i:Nat)(s:Sc)(r:gI):Bool:=kO s r&&lU b (b.lines.drop (i+1)) (i+1) (eV b s i r)
theorem aUK{b:bA}{i:Nat}{s:Sc}{r:gI}(h:kO s r=true):lU b (b.lines.drop (i+1)) (i+1) (eV b s i r)=aVA b i s r:=by unfold aVA;rw[h];rfl
theorem aWT{b:bA}{i:Nat}{s:Sc}{r:gI}(h:kO s r=false):false=aVA b i s r:=by unfold aVA;rw[h];rfl
theorem QS{b:bA}{s:Sc}{i:Int}{r:gI}(h4:s.ch.length=4)(h5:s.tk.length=4):(pA (eV b s i r)).length=10:=by
 unfold eV;split
 ·exact zW (by simp[h4]) (by simp[h5])
 ·exact zW (by simp[h4]) (by simp[h5])
theorem VC{mb cl:Nat}{es:Array MapEntry}:∀p∈[(mb,Obj.map es cl)],dB p.2:=by
 intro p hp;simp only[n4,n3,bBB]at hp;subst hp;trivial
set_option maxHeartbeats 1000000 in
theorem GP{b:bA}{bv lv cv:Value}{wb mb:Nat}(hbo:aCV b)(hbv:bv=.agg #[qI b.chairs,qI b.coin,qI b.box,lv,cv]):
  ∀(j i:Nat) (s:Sc) (es:Array MapEntry) (cl:Nat) (Mm:List (uW 9×Bool)) (D:aC),i+j=b.lines.length→aXB b s i→aDG s→l6 b s→C6 X2 Value.bool es Mm→Z5 b Mm→gL D bv b→At D wb 0 [qI b.chairs,qI b.coin,qI b.box,lv,cv,.map (some mb)]→
  AN prog 226 [qP wb,QL s,qI (i:Int)] D [(mb,.map es cl)] (fun _ v ν'=>v=.bool (lU b (b.lines.drop i) i s)∧∃es' cl' M',ν'=[(mb,.map es' cl')]∧C6 X2 Value.bool es' M'∧Z5 b M'):=by
 subst hbv;intro j;induction j using Nat.strongRecOn with
 |_ j ih=>
 intro i s es cl Mm D hij hsb hsp hsi hM hok hb0 hA;obtain⟨ch,tk,mo,mi⟩:=s;obtain⟨c0,c1,c2,c3,rfl⟩:=FR hsb.lc;obtain⟨k0,k1,k2,k3,rfl⟩:=FR hsb.lt;have hb:=hb0;obtain⟨lv',cv',he,hl,hc⟩:=hb;obtain⟨rfl,rfl⟩:=HI he;have hl8:=hbo.l8;have hch:=hbo.ch;have hco:=hbo.co;have hbx:=hbo.bx;have hmo:=hsb.mo;have hmi:=hsb.mi;simp only at hmo hmi;show AN _ _ [qP wb,.agg #[qI c0,qI c1,qI c2,qI c3,qI k0,qI k1,qI k2,qI k3,qI mo,qI mi],qI (i:Int)] _ _ _;refine iL 94 func226 rfl rfl rfl rfl (fun h0 hwl hwn=>aA<|Zu rfl (fun q1 E1 hE1 hB1=>Zg rfl<|bT<|aS<|bW [] 5 8 48<|Za rfl<|Zaj rfl<|Zh rfl vN rfl<|dW rfl (k:=0) fG eK rfl hA Yc rfl rfl n3 rfl bDY<|Zq rfl jL rfl hB1 dT ?_));refine Za rfl<|Zc rfl (fun D1 hD1=>u7 _ b (⟨[c0,c1,c2,c3],[k0,k1,k2,k3],mo,mi⟩:Sc) i _ (hb0.up (hD1 _ Ye)) rfl rfl)<|Zal rfl<|aF<|aP rfl (fun hc1=>?_) (fun hc1=>?_)
 ·refine aA<|Zg rfl<|aG<|Zap ?_;exact Zac [] [] [_] [_] rfl ⟨rfl,bDY⟩ rfl (fun D' hD=>⟨aYY Value.bool (aOA (by simpa using hc1)).symm,es,cl,Mm,rfl,hM,hok⟩)
 ·have hcd:gD b (⟨[c0,c1,c2,c3],[k0,k1,k2,k3],mo,mi⟩:Sc) i=true:=by simpa using hc1
  refine aT<|eH<|Za rfl<|Za rfl<|Zaj rfl<|Zh rfl vN rfl<|Zh rfl cE rfl<|Zj 3 rfl fA rfl hA rfl<|Zab rfl U33 rfl hl rfl<|Zam rfl<|aF<|Zz rfl (fun hc2=>?_) (fun hc2=>?_)
  ·refine aA<|Zg rfl<|aG<|Zap ?_;exact Zac [] [] [_] [_] rfl ⟨rfl,bDY⟩ rfl (fun D' hD=>⟨aYY Value.bool (aKI hcd hc2).symm,es,cl,Mm,rfl,hM,hok⟩)
  ·have hil:i<b.lines.length:=by omega
   obtain⟨z,hz⟩:=dV b.lines i;have hdr:b.lines.drop i=z::b.lines.drop (i+1):=by rw[bAM hil];congr 1;exact aZO ((aYU hil).symm.trans hz)
   refine aT<|aS<|pY [] 3 [false,true,true,true,true,true,true,false,true,false] [.fork [0,1,2,4,5] 3 (.fork [] 6 (.fin [7,8]) 8 (.fin [6,7])) 8 (.fin [3,6,7]),.fin [9]] bI (fun _ _ _ h=>jA (P:=prog) (fn:=f226) _ _ _ h) Yg ?_;apply y9 (γ:=Nat) (fun _=>True) _ _ _ [.fork [0,1,2,4,5] 3 (.fork [] 6 (.fin [7,8]) 8 (.fin [6,7])) 8 (.fin [3,6,7])] [.fin [9]] rfl
   ·refine uP<|bL [(false,0),(true,1),(true,2),(true,4),(true,5)] rfl<|Za rfl<|Zh rfl rZ rfl<|dW rfl (k:=0) rY nK rfl hB1 Yc rfl rfl n3 rfl bDY<|Zh rfl sI rfl<|dW rfl (k:=4) rY nK rfl hB1 Yc rfl rfl n3 rfl bDY<|Zah (eE true true rfl rfl ?_ ?_)
    ·refine Zc rfl (fun D2 hD2=>z7 [c0,c1,c2,c3] _ rfl)<|Zah<|bL [] rfl<|Zah (eE true true rfl rfl ?_ ?_)
     ·refine Zc rfl (fun D3 hD3=>z7 [k0,k1,k2,k3] _ rfl)<|Zah<|aZ [(false,7),(true,8)] rfl<|kE (cs:=[qI (i:Int),qI (min c0 1),qI (min c1 1),qI (min c2 1),qI (min c3 1),qI (min k0 1),qI (min k1 1),qI (min k2 1),qI (min k3 1)]) rfl FA zX rfl Yg rfl bDY<|Zx rfl zX rfl (fun q2=>Zah ?_);exact fun a w hh=>⟨q2,bDY,hh⟩
     ·refine Zx rfl zX rfl (fun q2=>Zah<|aZ [(true,6),(false,7)] rfl<|Zc rfl (fun D3 hD3=>z7 [k0,k1,k2,k3] _ rfl)<|kE (cs:=[qI (i:Int),qI (min c0 1),qI (min c1 1),qI (min c2 1),qI (min c3 1),qI (min k0 1),qI (min k1 1),qI (min k2 1),qI (min k3 1)]) rfl FA zX rfl Yg rfl bDY<|Zah ?_);exact fun a w hh=>⟨q2,bDY,hh.weak cQ Mm5 aH⟩
    ·refine Zx rfl zX rfl (fun q2=>Zah<|aZ [(true,3),(true,6),(false,7)] rfl<|Zc rfl (fun D2 hD2=>z7 [c0,c1,c2,c3] _ rfl)<|Zc rfl (fun D3 hD3=>z7 [k0,k1,k2,k3] _ rfl)<|kE (cs:=[qI (i:Int),qI (min c0 1),qI (min c1 1),qI (min c2 1),qI (min c3 1),qI (min k0 1),qI (min k1 1),qI (min k2 1),qI (min k3 1)]) rfl FA zX rfl Yg rfl bDY<|Zah ?_);exact fun a w hh=>⟨q2,bDY,hh.weak cQ Mm5 aH⟩
   rintro q2 -;refine oM [(false,9)] rfl<|Zt rfl b9 (bR.head)<|Zah<|qF<|Zaq<|aS<|bW [] 6 11 784<|Za rfl<|Zaj rfl<|Zh rfl V9 rfl<|Zj 5 rfl EX rfl hA rfl<|Zy rfl HU rfl Mm0 b9 ?_;refine CL (val:=X2 (n:=9)) (wal:=Value.bool) (a:=⟨[(i:Int),min c0 1,min c1 1,min c2 1,min c3 1,min k0 1,min k1 1,min k2 1,min k3 1],rfl⟩) rfl U370 aKM nS rfl rfl Mm1 n3 hM rfl bDY (fun nv ok hin hout=>Za rfl<|Zaf rfl<|Zaf rfl<|Zg rfl<|Zg rfl<|bJ<|Za rfl<|aF<|aP rfl (fun hc3=>?_) (fun hc3=>?_))
   ·obtain⟨r,rfl,hmem⟩:=hin hc3;refine aA<|Za rfl<|Zg rfl<|aG<|Zap ?_;exact Zac [(_,_)] [] [_] [_] rfl ⟨rfl,bDY⟩ rfl (fun D' hD=>⟨aYY Value.bool (hok _ hmem i (⟨[c0,c1,c2,c3],[k0,k1,k2,k3],mo,mi⟩:Sc) hsi hsp rfl rfl),es,cl,Mm,rfl,hM,hok⟩)
   ·obtain rfl:=hout hc3;refine aT<|aS<|aS<|lI [] 3 [0,1,2,3,4,5,6,7,8,9,10,11,14,12,13] [false,false,false,false,true,true,true,true,true,true,true,true,true,true,true] [(false,0),(false,1),(false,2),(false,3),(true,4),(true,5),(true,6),(true,7),(true,8),(true,9),(true,10),(true,11),(true,14),(true,12),(true,13)] bI (fun _ _ _ h=>jA (P:=prog) (fn:=f226) _ _ _ h) Yg rfl<|Za rfl<|Zaj rfl<|Zh rfl vN rfl<|dW rfl (k:=0) fG eK rfl hA Yc rfl rfl n3 rfl bDY<|Za rfl<|Zaj rfl<|Zh rfl vN rfl<|Zh rfl cE rfl ?_;refine Zj 3 rfl fA rfl hA rfl<|Za rfl<|Zw rfl U33 bU rfl hl rfl hz (fun b1 o1 cs1 hr1 hcl1 hA1=>?_);obtain rfl:cs1=[qI _,qI _,qI _]:=hr1;refine Zq rfl kJ rfl hA1 bU<|Za rfl<|Zv rfl (fun D4 hD4=>yT _ b z _ (hb0.up (hD4 _ Ye)) Yd) (fun v4 D4 hD4 hp4=>?_);have hr:=hp4;have hrl:=hr.len;refine cZ rfl U33 rfl Yl rfl rfl bDY<|aF<|Zar<|dD (γ:=Nat×Array MapEntry×Nat×List (uW 9×Bool)) (fun g=>(dH b.chairs z).length-g.1) (fun g=>g.1≤(dH b.chairs z).length∧((dH b.chairs z).take g.1).any (fun r=>aVA b i (⟨[c0,c1,c2,c3],[k0,k1,k2,k3],mo,mi⟩:Sc) r)=false∧C6 X2 Value.bool g.2.1 g.2.2.2∧Z5 b g.2.2.2) (fun g=>[(63,qI (g.1:Int)),(8,.bool false)]) [(62,_),(61,_),(7,_),(6,_),(4,_),(0,_),(2,_)] (fun g=>[(q2,qC [qI (i:Int),qI (min c0 1),qI (min c1 1),qI (min c2 1),qI (min c3 1),qI (min k0 1),qI (min k1 1),qI (min k2 1),qI (min k3 1)] 433),(mb,.map g.2.1 g.2.2.1)]) (fun g=>[D4,E1,D]) (0,es,cl,Mm) ⟨by simp,rfl,hM,hok⟩ ⟨Yb,Yb,bDY⟩ cQ Mm5 (aH) ?_;rintro⟨k,es2,cl2,M2⟩ ⟨h1,hno,hM2,hok2⟩;simp only at h1 hno hM2 hok2;refine aA<|Zai rfl<|bT<|Zz rfl (fun hc4=>?_) (fun hc4=>?_)
    ·simp only at hc4;obtain⟨x,hx⟩:=dV (dH b.chairs z) k;have hin:=((K3 (hbo.ln z (LE hz))).1 (LE hx)).1;refine aT<|aS<|Zar<|aA<|Zw rfl U33 bU rfl hr rfl hx (fun b2 o2 cs2 hr2 hcl2 hA2=>?_);obtain rfl:cs2=[qI _,qI _,qI _]:=hr2;refine Zq rfl kJ rfl hA2 bU<|Zx rfl jJ rfl (fun q3=>Zt rfl bU (bR.head)<|bT ?_);have hif:(pA (if kO (⟨[c0,c1,c2,c3],[k0,k1,k2,k3],mo,mi⟩:Sc) x=true then(eV b (⟨[c0,c1,c2,c3],[k0,k1,k2,k3],mo,mi⟩:Sc) i x)else(⟨[c0,c1,c2,c3],[k0,k1,k2,k3],mo,mi⟩:Sc))).length=10:=by split;exact QS rfl rfl;rfl
     have hnl:(pA (eV b (⟨[c0,c1,c2,c3],[k0,k1,k2,k3],mo,mi⟩:Sc) i x)).length=10:=QS rfl rfl;refine pY (gN.mk [wb,q1,q3]) 6 [false,false,false,false,true,true,true,true,false,false,true,true,true,false] [.fork [0,1,2,3,4,5,6] 7 (.fin [8,9,10,11]) 11 (.fin [7,8,9,10]),.fin [12,13]] bI (fun _ _ _ h=>jA (P:=prog) (fn:=f226) _ _ _ h) Yg ?_;apply y9 (γ:=Nat) (fun _=>True) _ _ _ [.fork [0,1,2,3,4,5,6] 7 (.fin [8,9,10,11]) 11 (.fin [7,8,9,10])] [.fin [12,13]] rfl
     ·refine uP<|bL [(false,0),(false,1),(false,2),(false,3),(true,4),(true,5),(true,6)] rfl<|Za rfl<|Zaj rfl<|Zh rfl vN rfl<|dW rfl (k:=0) fG eK rfl hA Yc rfl rfl (gN.out Ye) rfl bDY<|dQ rfl jL rfl hB1 Yn dT (gN.out Ye) rfl bDY<|Za rfl<|bK rfl kJ rfl Mm0 bU (gN.out Ye) rfl bDY<|Zah (eE true true rfl rfl ?_ ?_)
      ·refine Zc rfl (fun D5 hD5=>a8 _ b (⟨[c0,c1,c2,c3],[k0,k1,k2,k3],mo,mi⟩:Sc) i x _ (hb0.up (hD5 _ Ye)) rfl rfl Yat Yat Yd (by show -100000≤mo∧mo≤100000;omega) (by show 0≤mi∧mi≤1000;omega) Yd)<|Zah<|aZ [(false,8),(false,9),(true,10),(true,11)] rfl<|Za rfl<|Zaf rfl<|Zaf rfl<|Zx rfl tP rfl (fun q4=>Zah ?_);exact fun a w hh=>⟨q4,bDY,hh⟩
      ·refine Zx rfl tP rfl (fun q4=>Zah<|aZ [(true,7),(false,8),(false,9),(true,10)] rfl<|Zc rfl (fun D5 hD5=>a8 _ b (⟨[c0,c1,c2,c3],[k0,k1,k2,k3],mo,mi⟩:Sc) i x _ (hb0.up (hD5 _ Ye)) rfl rfl Yat Yat Yd (by show -100000≤mo∧mo≤100000;omega) (by show 0≤mi∧mi≤1000;omega) Yd)<|Za rfl<|Zaf rfl<|Zaf rfl<|Zah ?_);exact fun a w hh=>⟨q4,bDY,hh.weak cQ Mm5 aH⟩
     rintro q4 -;refine oM [(true,12),(false,13)] rfl<|lC hA Ye (fun hap1=>lC hB1 Ye (fun hap2=>aSX (fun hnd=>sW (off:=0) (us:=ints (pA (if kO (⟨[c0,c1,c2,c3],[k0,k1,k2,k3],mo,mi⟩:Sc) x=true then(eV b (⟨[c0,c1,c2,c3],[k0,k1,k2,k3],mo,mi⟩:Sc) i x)else(⟨[c0,c1,c2,c3],[k0,k1,k2,k3],mo,mi⟩:Sc)))) (ws:=ints (pA (if kO (⟨[c0,c1,c2,c3],[k0,k1,k2,k3],mo,mi⟩:Sc) x=true then(eV b (⟨[c0,c1,c2,c3],[k0,k1,k2,k3],mo,mi⟩:Sc) i x)else(⟨[c0,c1,c2,c3],[k0,k1,k2,k3],mo,mi⟩:Sc)))) rfl rfl rfl rfl (by rw[show(ints _).length=10 by simp[hif]];exact dT) .head (by simp[hif]) (by simp[hif]) (dR _) (aYZ (gN.in_ (aUJ hap1 hap2 hnd))) bDY<|Zg rfl<|Zah<|qF<|Zaq<|aA<|Za rfl<|Za rfl ?_)));refine aTS (γ:=Bool×Array MapEntry×Nat×List (uW 9×Bool)) (fun g=>g.1=aVA b i (⟨[c0,c1,c2,c3],[k0,k1,k2,k3],mo,mi⟩:Sc) x∧C6 X2 Value.bool g.2.1 g.2.2.2∧Z5 b g.2.2.2) (fun g=>g.1) (fun g=>[(q4,qC (ints (pA (if kO (⟨[c0,c1,c2,c3],[k0,k1,k2,k3],mo,mi⟩:Sc) x=true then(eV b (⟨[c0,c1,c2,c3],[k0,k1,k2,k3],mo,mi⟩:Sc) i x)else(⟨[c0,c1,c2,c3],[k0,k1,k2,k3],mo,mi⟩:Sc)))) 242),(q3,qC [qI x.kind,qI x.chair,qI x.token] 206),(q2,qC [qI (i:Int),qI (min c0 1),qI (min c1 1),qI (min c2 1),qI (min c3 1),qI (min k0 1),qI (min k1 1),qI (min k2 1),qI (min k3 1)] 433),(mb,.map g.2.1 g.2.2.1)]) [(false,2),(false,3),(false,4),(false,5),(false,6),(false,7)] [] (s:=79) (p:=85) rfl rfl (fun hg1=>?_) (fun hg1=>?_) ?_
     ·have hgc:=hg1;rw[aZK hgc];refine Zb rfl<|bK (e:=242) (fz:=(0,0)) rfl jL rfl Mm0 (by rw[show(ints _).length=10 by simp[hnl]];exact dT) n3 rfl ⟨_,rfl,rfl⟩<|Zb rfl<|y7 rfl rfl rfl Yf rfl ⟨_,rfl,rfl⟩<|aI ([(_,_),(_,_),(_,_)]++[(_,_)]++([])) rfl<|fK (A:=[(_,_),(_,_),(_,_)]) (ν:=[(_,_)]) (B:=[]) rfl rfl rfl rfl (aZE rfl) VC (fun D9 hD9=>ih (j-1) Yd (i+1) (eV b (⟨[c0,c1,c2,c3],[k0,k1,k2,k3],mo,mi⟩:Sc) i x) es2 cl2 M2 _ Yd (aHV hbo hsb x i) (m9 hsp i x) (aGB hsi rfl hgc hin.2.1 (by have:=hin.2.2.1;omega)) hM2 hok2 (hb0.up (hD9 _ Ye)) (hA.up (hD9 _ Ye))) rfl ⟨_,rfl,rfl⟩ (fun v9 D10 _ hD10 hp9=>?_)
      obtain⟨rfl,es3,cl3,M3,rfl,hM3,hok3⟩:=hp9;refine Zad rfl ?_;exact X0 fun a w hh=>⟨(_,es3,cl3,M3),⟨aUK Yl,hM3,hok3⟩,(hh.cutK 5 rfl).ds (fun _ h=>aZJ _ (h))⟩
     ·refine Zf rfl<|Zf rfl<|Zf rfl<|Zf rfl<|Zf rfl<|Zae rfl ?_;exact X0 fun a w hh=>⟨(false,es2,cl2,M2),⟨aWT Yl,hM2,hok2⟩,hh.cutK 5 rfl⟩
     rintro⟨bm,es3,cl3,M3⟩ ⟨hbm,hM3,hok3⟩;simp only at hbm hM3 hok3;refine aF<|aP rfl (fun hc5=>?_) (fun hc5=>?_)
     ·obtain rfl:bm=true:=hc5;have hres:true=lU b (b.lines.drop i) i (⟨[c0,c1,c2,c3],[k0,k1,k2,k3],mo,mi⟩:Sc):=by rw[hdr,lU,hcd,bCR];exact(bDW.2 ⟨x,LE hx,hbm.symm⟩).symm
      refine aA<|Zg rfl<|aF<|aW<|tS rfl<|Zas<|Zas<|Zav<|Zaq<|aS<|bW [] 3 7 48<|Za rfl ?_;refine Zaj rfl<|Zh rfl V9 rfl<|Zj 5 rfl EX rfl hA rfl<|Zy rfl HU rfl Mm2 b9<|Za rfl<|S5 (val:=X2 (n:=9)) (wal:=Value.bool) (A:=[(_,_),(_,_),(_,_)]) (B:=[]) (a:=⟨[(i:Int),min c0 1,min c1 1,min c2 1,min c3 1,min k0 1,min k1 1,min k2 1,min k3 1],rfl⟩) (n:=true) rfl U370 aKM rfl rfl rfl hM3 bDY (fun es9 cl9 M9 hM9 hm9=>aL<|Za rfl<|Zg rfl<|aG ?_);exact Zac [(_,_),(_,_),(_,_)] [] [_] [_] rfl ⟨rfl,bDY⟩ rfl (fun D' hD=>⟨aYY Value.bool hres,es9,cl9,M9,rfl,hM9,hok3.add hm9 rfl hsi hsp rfl hres⟩)
     ·obtain rfl:bm=false:=hc5;have hgo:aVA b i (⟨[c0,c1,c2,c3],[k0,k1,k2,k3],mo,mi⟩:Sc) x=false:=hbm.symm;refine bM<|Zat<|Zaq<|aU<|Zaa rfl<|Za rfl<|Zah ?_;exact aK 24 (k+1,es3,cl3,M3) ⟨by simp only;omega,by simp only;rw[aZG,hx,bCF,hno];simp[hgo],hM3,hok3⟩ Ym ⟨Yb,Yb,bDY⟩ rfl rfl (List.Sublist.cons _ (List.Sublist.cons _ Mm5)) (aH)
    ·obtain rfl:k=(dH b.chairs z).length:=by simp only at hc4;omega
     rw[bAA]at hno;have hres:false=lU b (b.lines.drop i) i (⟨[c0,c1,c2,c3],[k0,k1,k2,k3],mo,mi⟩:Sc):=by rw[hdr,lU,hcd];exact hno.symm
     refine aW<|Zas<|Zas<|Zav<|Zaq<|aS<|bW [] 3 7 48<|Za rfl<|Zaj rfl<|Zh rfl V9 rfl<|Zj 5 rfl EX rfl hA rfl<|Zy rfl HU rfl Mm0 b9 ?_;refine Za rfl<|S5 (val:=X2 (n:=9)) (wal:=Value.bool) (A:=[(_,_)]) (B:=[]) (a:=⟨[(i:Int),min c0 1,min c1 1,min c2 1,min c3 1,min k0 1,min k1 1,min k2 1,min k3 1],rfl⟩) (n:=false) rfl U370 aKM rfl rfl rfl hM2 bDY (fun es9 cl9 M9 hM9 hm9=>aL<|Za rfl<|Zg rfl<|aG ?_);exact Zac [(_,_)] [] [_] [_] rfl ⟨rfl,bDY⟩ rfl (fun D' hD=>⟨aYY Value.bool hres,es9,cl9,M9,rfl,hM9,hok2.add hm9 rfl hsi hsp rfl hres⟩)
end L3
namespace L3
open L1
open C3
theorem Z8(b:bA):aXB b (fT b) 0:=⟨rfl,rfl,by simp[fT],by simp[fT]⟩
theorem T1(b:bA):aDG (fT b):=⟨fun x hx=>by simp[fT]at hx;omega,fun x hx=>by simp[fT]at hx;omega⟩
theorem Y3(bv:Value)(b:bA)(D:aC)(hb:gL D bv b)(hbo:aCV b):Fn prog 141 #[bv] D (fun _ v=>v=.bool (decide (truths b≠[]))):=by
 have I:=hb;obtain⟨lv,cv,rfl,hl,hc⟩:=hb;refine Zs 10 func141 rfl (fun h0=>aA<|Zu rfl (fun q1 E1 hH Y=>Zg rfl<|bT<|pY [] 3 [false,true,true,true,true,true,false,false] [.fork [0,4] 1 (.fork [2] 3 (.fin [5]) 5 (.fin [3])) 5 (.fin [1,2,3]),.fin [6,7]] bI (fun _ _ _ h=>kL (P:=prog) (fn:=f141) _ _ _ h) Yg<|uP<|bL [(false,0),(true,4)] rfl<|Zq rfl fG rfl Y eK<|Zq rfl fG rfl Y eK<|Zah (eE true true rfl rfl ?_ ?_)))
 ·refine vX rfl rfl bDY (fun qm=>Zah<|bL [(true,2)] rfl<|kE (cs:=[qI b.chairs,qI b.coin,qI b.box,lv,cv,.map (some qm)]) rfl WT SX rfl Yg rfl bDY<|Zah (eE true true rfl rfl ?_ ?_))
  ·refine Zu rfl (fun q2 E2 Z M=>Zah<|aZ [(true,5)] rfl<|Zc rfl (fun D1 O=>vO _ b _ (I.up (O _ Ye)))<|Zah<|oM [(false,6),(false,7)] rfl<|fK (A:=[]) (ν:=[(_,_)]) (B:=[]) rfl rfl rfl rfl (aZE rfl) VC (fun D9 G=>GP hbo rfl b.lines.length 0 (fT b) #[] 0 [] _ Yd (Z8 b) (T1 b) (V3 b) rfl Z5.nil (I.up (G _ Ye)) (M.up (G _ Ye))) rfl bDY (fun v9 D10 _ U R=>?_));obtain⟨rfl,hB,hE,M3,rfl,hF,V⟩:=R;refine Zg rfl<|Zah<|qF<|Zaq<|CG ?_;exact aE rfl (fun D hD=>by show Value.bool _=_;rw[bCN,zG])
  ·refine Zc rfl (fun D1 O=>vO _ b _ (I.up (O _ Ye)))<|Zah<|aZ [(true,3)] rfl<|Zu rfl (fun q2 E2 Z M=>Zah<|oM [(false,6),(false,7)] rfl<|fK (A:=[]) (ν:=[(_,_)]) (B:=[]) rfl rfl rfl rfl (aZE rfl) VC (fun D9 G=>GP hbo rfl b.lines.length 0 (fT b) #[] 0 [] _ Yd (Z8 b) (T1 b) (V3 b) rfl Z5.nil (I.up (G _ Ye)) (M.up (G _ Ye))) rfl bDY (fun v9 D10 _ U R=>?_));obtain⟨rfl,hB,hE,M3,rfl,hF,V⟩:=R;refine Zg rfl<|Zah<|qF<|Zaq<|CG ?_;exact aE rfl (fun D hD=>by show Value.bool _=_;rw[bCN,zG])
 ·refine Zc rfl (fun D1 O=>vO _ b _ (I.up (O _ Ye)))<|Zah<|aZ [(true,1),(true,2),(true,3)] rfl<|vX rfl rfl bDY (fun qm=>kE (cs:=[qI b.chairs,qI b.coin,qI b.box,lv,cv,.map (some qm)]) rfl WT SX rfl Yg rfl bDY<|Zu rfl (fun q2 E2 Z M=>Zah<|oM [(false,6),(false,7)] rfl<|fK (A:=[]) (ν:=[(_,_)]) (B:=[]) rfl rfl rfl rfl (aZE rfl) VC (fun D9 G=>GP hbo rfl b.lines.length 0 (fT b) #[] 0 [] _ Yd (Z8 b) (T1 b) (V3 b) rfl Z5.nil (I.up (G _ Ye)) (M.up (G _ Ye))) rfl bDY (fun v9 D10 _ U R=>?_)));obtain⟨rfl,hB,hE,M3,rfl,hF,V⟩:=R;refine Zg rfl<|Zah<|qF<|Zaq<|CG ?_;exact aE rfl (fun D hD=>by show Value.bool _=_;rw[bCN,zG])
theorem CV(bv:Value)(b:bA)(fine:Bool)(D:aC)(hb:gL D bv b):Fn prog 116 #[bv,.bool fine] D (fun _ v=>v=qI (yV b fine)):=by
 have M:=hb;obtain⟨lv,cv,rfl,hl,hc⟩:=hb;refine Zs 19 func116 rfl (fun h0=>aA<|Zu rfl (fun q1 Z Y O=>Zg rfl<|bJ<|Zq rfl fG rfl O eK<|Zc rfl (fun D1 R=>wQ _ b _ (M.up (R _ Ye)))<|Zg rfl<|aF<|Zar<|aA<|Za rfl ?_));refine Zak rfl<|Zg rfl<|aF<|aP rfl (fun G=>?_) (fun G=>?_)
 ·refine aA<|Za rfl<|Zg rfl<|aG<|Zau<|Zap ?_;exact aE rfl (fun D hD=>by show Value.int _ _=_;rw[yV,aZK (by simpa using G)])
 ·have U:aV b=0:=by simpa using G
  have hbo:=aWY U;refine aA<|Za rfl<|Zal rfl<|Zg rfl<|aF<|aP rfl (fun hc2=>?_) (fun hc2=>?_)
  ·refine aA<|Zg rfl<|aG<|Zau<|Zap ?_;exact aE rfl (fun D hD=>by show Value.int _ _=_;rw[yV,aZB Yd,aZK Yap])
  ·refine aA<|Zq rfl fG rfl O eK<|Zc rfl (fun D2 V=>Y3 _ b _ (M.up (V _ Ye)) hbo)<|Zal rfl<|Zg rfl<|aF<|aP rfl (fun I=>?_) (fun I=>?_)
   ·refine aA<|Zg rfl<|aG<|Zau<|Zap ?_;exact aE rfl (fun D hD=>by show Value.int _ _=_;rw[yV,aZB Yd,aZB Yap,aZK (by simpa using I)])
   ·refine bM<|Zat<|Zaq<|aA<|Zg rfl<|aG ?_;exact aE rfl (fun D hD=>by show Value.int _ _=_;rw[yV,aZB Yd,aZB Yap,aZB (by simpa using I)])
end L3
namespace L3
open L1
open C3
end L3
namespace L3
open L1
open C3
end L3
namespace L3
open L1
open C3
def aNL(l:List Cn):List Value:=l.flatMap fun x=>[qI x.after,qI x.lo,qI x.hi]
theorem aRG(l:List Cn):(aNL l).length=l.length*3:=by
 induction l with
 |nil=>rfl
 |cons c l ih=>unfold aNL at ih ⊢;rw[bAC,aYS,ih];simp only[aYW,bAP];omega
theorem aNC{l:List Cn}{i:Nat}{c:Cn}(hi:l[i]?= some c):((aNL l).drop (i*3)).take 3=[qI c.after,qI c.lo,qI c.hi]:=by
  induction l generalizing i with
  |nil=>simp at hi
  |cons d l ih=>
    unfold aNL at ih ⊢
    rw[bAC];cases i with
    | zero => obtain rfl : d = c := by simpa using hi
              rfl
    |succ i=>
      rw[bDA,aZZ Yaj,aZU];have:(i+1)*3- [Value.int .i64 d.after,Value.int .i64 d.lo,Value.int .i64 d.hi].length=i*3:=by simp;omega
      rw[this];exact ih Yal
theorem _root_.Go.Fs.mK.cns{D:aC}{v:Value}{n:Nat}{l:List Cn}(hF:mK D v n (aNL l))(hn:l.length=n)(hb:n≤9223372036854775807):Sl D wC 3 v l:=
 hF.sl hn hb fun _i _t hi=>⟨_,rfl,rfl,aNC hi⟩
theorem o7{a c:Value}{x y z:Int}(ha:∀u∈[a],cell1 u=true)(hb:∀u∈[c],cell1 u=true):∀u∈[qI x,qI y,qI z,a,c],cell1 u=true:=by
 intro u hu;simp only[n4,n3,bBB]at hu;rcases hu with rfl|rfl|rfl|rfl|rfl
 ·rfl
 ·rfl
 ·rfl
 ·exact ha _ LT
 ·exact hb _ LT
end L3
open Go.ChangeShapes Go.WideShapes Go.RowKit
def C9(W:World):aC:=fun b=>match W.heap[b]? with
 |some (.cells cs _ _)=>cs.toList
 |_=>[]
theorem MX(W:World){cs:Array Value}{e:TypeId}{fz:Nat×Nat}(h0:W.heap[0]?= some (.cells cs e fz))(hne:cs.toList≠[]):eX (C9 W) W:=by
 have hf:C9 W 0=cs.toList:=by unfold C9;rw[h0]
 refine⟨?_,by rw[hf];exact hne,e,fz,by rw[hf];exact h0⟩;intro b hb;unfold C9 at hb ⊢
 split at hb
 ·rename_i cs e fz h;exact⟨cs,e,fz,h,List.prefix_refl _⟩
 ·exact absurd rfl hb
theorem B3{W:World}{b i:Nat}{v:Value}(h:W.cell? ⟨b,i,none⟩=some v):(C9 W b)[i]?= some v:=by
 unfold World.cell? at h;unfold C9;split at h
 ·rename_i cs e fz hb;simp only at hb;rw[hb];simpa using h
 ·cases h
structure KW(W W':World):Prop where
 env:JE W'=JE W
 size:W.heap.size≤W'.heap.size
 old:∀b,b<W.heap.size→W'.heap[b]?= W.heap[b]?
theorem KW.but{W W':World}(h:KW W W')(may:MemPlace→Prop):W.keptBut W' may:=by
 refine⟨aYY Prod.fst h.env,aYY Prod.snd h.env,fun i hi=>?_⟩;rw[h.old i hi];cases W.heap[i]? with
 |none=>rfl
 |some o=>cases o<;>first|exact⟨rfl,rfl,rfl,fun _ _=>rfl⟩|exact Or.inr ⟨rfl,rfl⟩|rfl
theorem KW.frozen{W W':World}(h:KW W W'){a:Addr}(hl:a.block<W.heap.size):W'.frozen? a=W.frozen? a:=by
 unfold World.frozen?;rw[h.old _ hl]
theorem KW.same{W W':World}(h:KW W W'){p:MemPlace}(hp:p.block<W.heap.size):W.sameAt W' p:=by
 cases p with
 |cell b off=>
  simp only[World.sameAt,World.cell?];rw[h.old b hp]
 |map b=>exact h.old b hp
theorem Fn.calls{P:Program}{f:FuncId}{args:Array Value}{D:aC}{post:aC→Value→Prop}(h:Fn P f args D post){W:World}(hD:eX D W):
  Calls P f args W fun e W'=>∃v D',e=.returned v∧post D' v∧KW W W':=
 (h.2 W hD).mono (by
  rintro e W' ⟨v,D',he,hs,hp⟩;exact⟨v,D',he,hp,hs.env _ rfl,hs.size,fun b hb=>hs.old b hb Ye⟩)
section
variable{H:Type}{enc:TypeId×Value→H}{P:Program}
theorem G2(hl:laidOutB P=true){W W':World}{sp:Nat→Bool}:∀(ts:List TypeId) (vs:List Value) (ds:List (DataW H)) (ps:List MemPlace),(∀t∈ts,P.readableRec t=true∧t<P.types.size)→
  DataW.TrodAll enc P W 0 (fun _=>true) true ts vs ds ps→(∀p∈ps,W.sameAt W' p)→(∀p∈ps,sp p.block=true)→DataW.TrodAll enc P W' 0 sp true ts vs ds ps
 | [],vs,ds,ps,_,h,_,_=>by
  obtain⟨rfl,rfl,rfl⟩:=trodAll_nil h;exact trodAll_mk0
 |t::ts,vs,ds,ps,hr,h,hsame,hs=>by
  obtain⟨v,vs',d,ds',p,q,rfl,rfl,rfl,h1,h2⟩:=trodAll_cons h;exact trodAll_cons_mk (WideElems.Trod_stays hl (hr t LT).1 (hr t LT).2 h1 (fun x hx=>hsame x (aYX _ hx)) (fun x hx=>hs x (aYX _ hx)))
   (G2 hl ts vs' ds' q (fun u hu=>hr u (n5 _ hu)) h2 (fun x hx=>hsame x (GE _ hx)) (fun x hx=>hs x (GE _ hx)))
theorem XK{f:Func}{s:ChangeSpec}{apart fresh handsOn again:Bool}{W W':World}{args:Array Value}{v:Value}{ds gs:List (DataW H)}{before pa pv:List MemPlace}(hW:DataW.Whole enc P f.params.toList s.vars apart W args.toList ds gs before)
  (hres:∀(b:Nat) (sp:Nat→Bool) (hd:Bool),DataW.TrodAll enc P W' b sp hd f.resultTypes.toList (v.resultList f.resultTypes.size) (s.fn H (ds++gs)).results [])
  (hargs:∀sp:Nat→Bool,(∀p∈before,sp p.block=true)→DataW.TrodAll enc P W' 0 sp true f.params.toList args.toList (s.fn H (ds++gs)).args pa)
  (hvars:∀sp:Nat→Bool,(∀p∈before,sp p.block=true)→DataW.TrodVars enc P W' sp s.vars (s.fn H (ds++gs)).vars pv)
  (hps:before=pa++pv) (hk:W.keptBut W' (· ∈before)) (hfz:∀a:Addr,a.block<W.heap.size→W'.frozen? a=W.frozen? a)
  (hok:∀(j:Nat) (t:TypeId) (r:Value),f.resultTypes[j]?= some t→(v.resultList f.resultTypes.size)[j]?= some r→Value.okWide P W' .any 0 t r):s.post enc P f apart fresh handsOn again W args v W':=by
 have hold:∀p∈before,(fun b=>decide (b<W.heap.size)) p.block=true:=fun p hp=>by simpa using hW.lt p hp
 have hlt:=hW.lt;refine⟨ds,gs,before,[],pa,pv,hW,hres _ _ _,hargs _ hold,hvars _ hold,World.keptBut_mono (fun p hp=>⟨hp,aYZ (by rwa [hps,aZF]at hp)⟩) hk,fun _=>?_⟩;obtain⟨_,_,_,_,_,hz,hn⟩:=hW;refine⟨hok,_,_,([]++pa)++pv,⟨[]++pa,pv,trodAll_append (hargs _ (fun _ _=>rfl)) (hres _ _ _),hvars _ (fun _ _=>rfl),rfl,fun b off hp=>?_,fun ha=>?_⟩,fun p hp _=>?_⟩
 ·have hb:MemPlace.cell b off∈before:=by rw[hps];simpa using hp
  rw[hfz _ (by simpa [MemPlace.block]using hlt _ hb)];exact hz b off hb
 ·have:=hn ha;rw[hps]at this;simpa using this
 ·rw[hps];simpa using hp
theorem aEX{f:Func}{s:ChangeSpec}{tb:TypeId}{W W':World}{args:Array Value}{ds gs:List (DataW H)}{before:List MemPlace}(hl:laidOutB P=true)(hp:(f.params.toList.all fun t=>P.readableRec t&&decide (t<P.types.size))=true)(hvars:s.vars=[])
  (hres:f.resultTypes=#[tb]) (htb:P.underlying tb=some .bool) (hW:DataW.Whole enc P f.params.toList s.vars false W args.toList ds gs before) (hs:s.fn H (ds++gs)={results:=[.lit (.bool true)],args:=ds}) (hk:KW W W'):
  s.post enc P f false true false false W args (.bool true) W':=by
 have hlt:=hW.lt;have hW':=hW;obtain⟨p,q,hA,hV,rfl,hfz,hnd⟩:=hW';rw[hvars]at hV;obtain⟨_,rfl⟩:=trodVars_none hV;refine XK (pa:=p) (pv:=[]) hW (fun b sp hd=>?_) (fun sp hsp=>?_) (fun sp _=>?_) rfl (hk.but _) (fun _=>hk.frozen) (ok_one hres rfl (okWide_bool_mk htb true))
 ·rw[hs,hres];exact trodAll_mk1 (shut_bool htb true)
 ·rw[hs];refine G2 hl _ _ _ _ (fun t ht=>?_) hA (fun x hx=>hk.same (hlt x (aYX _ hx))) (fun x hx=>hsp x (aYX _ hx));have:=aZN.1 hp t ht;simpa using this
 ·rw[hs,hvars];rfl

def N2(P:Program)(t:TypeId){α:Type}(R:Rd α):Prop:=∀{H:Type} (enc:TypeId×Value→H) (W:World) (n:Nat) (cs:List Value) (x:DataW H×List MemPlace),DataW.trod enc P W 0 (fun _=>true) true n t cs=some x→∃a,R (C9 W) a cs
theorem DA{k:IntKind}{n:Int}(h:(Lit.int k n).wf=true):uN k n:=by
 cases k<;>simpa [Lit.wf,IntKind.min,IntKind.max,IntKind.signed,IntKind.bits,uN]using h
def aYH{α:Type}(R:Rd α)(sz:Nat):Rd (List α):=fun D xs cs=>∃v,cs=[v]∧Sl D R sz v xs
theorem N2.slice{t e:TypeId}{sz:Nat}{α:Type}{R:Rd α}(ht:P.underlying t=some (.slice e))(hc:P.cellsOf e=sz)(hpos:0<sz)(hel:N2 P e R):N2 P t (aYH R sz):=fun {H} enc W fuel cs x hx=>by
 rcases DataW.trod_slice ht hx with⟨rfl,_⟩|⟨a,len,cap,elems,rest,n,_,rfl,_,_,hl,hm,hlen,hel',_,_⟩
 ·exact⟨[],_,rfl,Sl.nil⟩
 have hm':cap≤9223372036854775807:=by simpa [maxLen]using hm
 have key:∀i,i<len→∃cs,(∃y,R (C9 W) y cs)∧cs.length=sz∧∀j,j<sz→W.cell? ((a.add (i*sz)).add j)=cs[j]? :=by
  intro i hi;have h1:=hel' i hi;rw[aYU Yd,hc]at h1;simp only[Option.bind_eq_some_iff]at h1;obtain⟨cs,h2,h3⟩:=h1;obtain⟨_,h4,h5⟩:=World.cells?_some h2;exact⟨cs,hel enc W n cs _ h3,h4,h5⟩
 by_cases h0:len=0
 ·subst h0;exact⟨[],_,rfl,some a,cap,rfl,Nat.zero_le _,by simp,aZE rfl⟩
 have hspot:a=⟨a.block,a.off,none⟩:=by
  obtain⟨cs,_,h2,h3⟩:=key 0 Yd;have h4:=h3 0 hpos;rw[bCS]at h4;simp only[Addr.add,bAX]at h4;rw[aYU (show 0<cs.length by omega)]at h4;unfold World.cell? at h4;split at h4
  ·split at h4
   ·cases h4
   ·rename_i hs;obtain⟨b,o,s⟩:=a;cases s with
    |none=>rfl
    |some=>simp at hs
  ·cases h4
 have pick:∃ys:List α,ys.length=len∧∀i y,ys[i]?= some y→∃cs,R (C9 W) y cs∧cs.length=sz∧∀j,j<sz→W.cell? ((a.add (i*sz)).add j)=cs[j]? :=by
  refine⟨List.ofFn fun i:Fin len=>(key i.1 i.2).choose_spec.1.choose,by simp,fun i y hy=>?_⟩;rw[List.getElem?_ofFn]at hy;split at hy
  ·rename_i hi;cases hy;exact⟨_,(key i hi).choose_spec.1.choose_spec,(key i hi).choose_spec.2.1,(key i hi).choose_spec.2.2⟩
  ·cases hy
 obtain⟨ys,hys,hy⟩:=pick;refine⟨ys,_,rfl,some a,cap,by rw[hys],by omega,by omega,aYZ ⟨a.block,a.off,by rw[←hspot],fun i y hi=>?_⟩⟩;obtain⟨cs,h1,h2,h3⟩:=hy i y hi;refine⟨cs,h1,h2,fun j v hj=>?_⟩;have hjl:=(aYV.1 hj).1;have h4:=h3 j Yd;rw[hj,hspot,gF,gF]at h4;exact B3 h4
theorem N2.trod{t:TypeId}{α:Type}{R:Rd α}(h:N2 P t R){W:World}{v:Value}{d:DataW H}{ps:List MemPlace}(hd:DataW.Trod enc P W 0 (fun _=>true) true t v d ps):∃a,R (C9 W) a v.cells.toList:=by
 obtain⟨fuel,hf⟩:=hd;exact h enc W fuel _ _ hf
theorem OE{t e:TypeId}{α:Type}{R:Rd α}{sz:Nat}(ht:P.underlying t=some (.slice e))(h:N2 P t (aYH R sz)){W:World}{r:Reach}{G:Nat}{v:Value}{d:DataW H}{ps:List MemPlace}(hval:Value.okWide P W r G t v)(hd:DataW.Trod enc P W 0 (fun _=>true) true t v d ps):
  ∃xs,Sl (C9 W) R sz v xs:=by
 obtain⟨a,len,cap,rfl⟩:=okWide_slice ht hval;obtain⟨xs,u,hc,hs⟩:=h.trod hd;simp only[Value.cells,bAT,and_true]at hc;exact⟨xs,by rw[hc];exact hs⟩
end
namespace L3
open L1
open C3
end L3
namespace L3
open L1
open C3
end L3
namespace L3
open L1
open C3
end L3
namespace L3
open L1
open C3
end L3
namespace L3
open L1
open C3
end L3
namespace L3
open L1
open C3
end L3
namespace L3
open L1
open C3
end L3
namespace L3
open L1
open C3
section
variable{P:Program}{X:Cx}{Q:Exit→Act→World→Prop}{σ:bO}{μ:aD}{Ds:List aC}
theorem aOJ{c:Code}{μ':aD}(n:Nat)(he:μ.drop n=μ')(h:WC P X Q c σ μ' Ds):WC P X Q c σ μ Ds:=fun a w hh=>by
 subst he;exact h a w (hh.dropBoxes n)
end
def pF(bh bs bl bo blo bY br n:Nat)(c:List Sc)(cl:List Int):aD:=[(bh,qC [.func (.func 302) #[] #[qP br,qP bs,qP bl,qP bY,qP bh]] 182),(bs,qC [qS bo (n+1) (n+1)] 349),(bl,qC [qS blo n n] 33),(bo,qC (fS c) 242),(blo,qC (ints cl) 206)]
theorem K0{bh bs bl bo blo bY br n:Nat}{c:List Sc}{cl:List Int}:(bo,Obj.cells (fS c).toArray 242 (0,0))∈pF bh bs bl bo blo bY br n c cl:=aZJ _ Mm2
def TN(n bo:Nat)(vs:List Value):Prop:=∃blo,vs=[qS blo n n,qS bo (n+1) (n+1)]
def aPE{α:Type}(P:Program)(Dr:aC)(lo l:Nat)(J Jx:List α→tL)(xs:List α)(enc:Nat→List Value→Prop)(cells:α→List Value):Prop:=∀pre x β D w bo vs,(∃r,xs=pre++x::r)→zF lo D w→J pre β D w→(∀b∈β,b<w.heap.size)→Le Dr D→enc bo vs→DM β D w bo (cells x)→
   iM P l vs w fun b D' w'=>zF lo D' w'∧zK β D w D' w'∧(if b then J (pre++[x]) β D' w' else Jx (pre++[x]) β D' w')
def F0(c:List Sc):Prop:=∀s∈c,(pA s).length=10
theorem F0.set{c:List Sc}{s:Sc}(h:F0 c)(hs:(pA s).length=10)(i:Nat):F0 (c.set i s):=fun u hu=>by
 rcases bDB hu with hu|rfl
 ·exact h u hu
 ·exact hs
theorem aEA{c:List Sc}(h:F0 c):(fS c).length=c.length*10:=by
 induction c with
 |nil=>rfl
 |cons u c ih=>
  have:=ih fun s hs=>h s (n5 _ hs)
  rw[show fS (u::c)=ints (pA u)++fS c from rfl,aYS,aO,h u LT,this,aYW];omega
theorem aFK{c:List Sc}(h:F0 c){i:Nat}{s:Sc}(hs:(pA s).length=10)(hi:i<c.length):(fS c).take (i*10)++ints (pA s)++(fS c).drop (i*10+(ints (pA s)).length)=fS (c.set i s):=by
 rw[aO,hs];induction c generalizing i with
 |nil=>simp at hi
 |cons u c ih=>
  have hu:(ints (pA u)).length=10:=by rw[aO,h u LT]
  have e:fS (u::c)=ints (pA u)++fS c:=rfl;rw[e];cases i with
  |zero=>
   rw[List.set_cons_zero,show fS (s::c)=ints (pA s)++fS c from rfl,bCS,List.take_zero,aZU,bCB,bDA,aZZ Yd,aZU,hu];simp
  |succ i=>
   rw[List.set_cons_succ,show fS (u::c.set i s)=ints (pA u)++fS (c.set i s)from rfl,←ih (fun t ht=>h t (n5 _ ht)) Yal];rw[List.take_append,aZP Yd,hu,bDA,aZZ Yd,aZU,hu,show(i+1)*10-10=i*10 by omega,show(i+1)*10+10-10=i*10+10 by omega];simp
def aLB:Sc:=⟨[0,0,0,0],[0,0,0,0],0,0⟩
theorem aQZ(n:Nat):ints (List.replicate (n*10) 0)=fS (List.replicate n aLB):=by
 induction n with
 |zero=>rfl
 |succ n ih=>rw[List.replicate_succ,show fS (aLB::List.replicate n aLB)=ints (pA aLB)++fS (List.replicate n aLB)from rfl,←ih,show(n+1)*10=10+n*10 by omega,←List.replicate_append_replicate,fV];rfl
def wr(l:List Int)(k:Nat)(us:List Int):List Int:=l.take k++us++l.drop (k+us.length)
theorem aVD{l us:List Int}{k:Nat}(h:k+us.length≤l.length):(wr l k us).length=l.length:=by unfold wr;simp;omega
theorem aOG{l us:List Int}{k:Nat}:(ints l).take k++ints us++(ints l).drop (k+(ints us).length)=ints (wr l k us):=by
 unfold wr ints;simp
def mD(b:bA)(i:Nat)(s:Sc):List (List Sc):=(yX b (b.lines.drop i) i s).map (·.2)
def UB(b:bA)(i:Nat)(s:Sc)(z:gI)(pre:List Sc)(k:Nat):List (List Sc):=((dH b.chairs z).take k).flatMap fun r=>if kO s r=true then(mD b (i+1) (eV b s i r)).map (fun t=>(pre++[s])++t)else []
theorem aPW{b:bA}{i:Nat}{s:Sc}(h:gD b s i=false):mD b i s=[]:=by
 unfold mD;cases e:b.lines.drop i with
 |nil=>unfold yX;rw[aZB (by rw[h];simp)];rfl
 |cons l ls=>unfold yX;rw[aZB (by rw[h];simp)];rfl
theorem aEU{b:bA}{i:Nat}{s:Sc}(h:gD b s i=true)(hi:b.lines.length≤i):mD b i s=[[s]]:=by
 unfold mD;rw[aZZ hi];unfold yX;rw[aZK h];rfl
theorem XU{b:bA}{i:Nat}{s:Sc}{z:gI}{pre:List Sc}(h:gD b s i=true)(hd:b.lines.drop i=z::b.lines.drop (i+1)):(mD b i s).map (fun t=>pre++t)=UB b i s z pre (dH b.chairs z).length:=by
 unfold mD UB;rw[hd,bAA];unfold yX;rw[aZK h,List.map_flatMap,List.map_flatMap];congr 1;funext r;by_cases hc:kO s r=true
 ·rw[aZK hc,aZK hc,bDQ,bDQ];unfold mD;rw[bDQ];congr 1;funext x;simp
 ·rw[aZB hc,aZB hc];rfl
theorem aEL{b:bA}{i:Nat}{s:Sc}{z:gI}{pre:List Sc}:UB b i s z pre 0=[]:=rfl
theorem aTK{b:bA}{i:Nat}{s:Sc}{z x:gI}{pre:List Sc}{k:Nat}(hx:(dH b.chairs z)[k]?= some x)(h:kO s x=false):UB b i s z pre (k+1)=UB b i s z pre k:=by
 unfold UB;rw[aZG,hx,bAR,aZS,bAJ,aZB (by rw[h];simp),aZA]
theorem TW{b:bA}{i:Nat}{s:Sc}{z x:gI}{pre:List Sc}{k:Nat}(hx:(dH b.chairs z)[k]?= some x)(h:kO s x=true):UB b i s z pre (k+1)=UB b i s z pre k++(mD b (i+1) (eV b s i x)).map (fun t=>(pre++[s])++t):=by
 unfold UB;rw[aZG,hx,bAR,aZS,bAJ,aZK h]
theorem aKV{b:bA}{i:Nat}{s:Sc}{z:gI}{pre:List Sc}{k:Nat}:∃r,UB b i s z pre (dH b.chairs z).length=UB b i s z pre k++r:=by
 unfold UB;rw[bAA]
 conv=>enter [1,r,1];rw[←bBV k (dH b.chairs z),aZS]
 exact⟨_,rfl⟩
theorem CP{c pre:List Sc}{i:Nat}{s s':Sc}(h:c.take (i+1+1)=(pre++[s])++[s'])(hl:pre.length=i):c.take (i+1)=pre++[s]:=by
 have:=aYY (List.take (i+1)) h;rw[List.take_take,bCW (Nat.le_succ _)]at this;rw[this,bAB Yaj,aZP Yaj]
theorem aCC{c pre:List Sc}{i:Nat}{s':Sc}(hi:i<c.length)(h:c.take i=pre):(c.set i s').take (i+1)=pre++[s']:=by
 rw[aZG,List.getElem?_set_self hi,bAR,List.take_set_of_le (aZL _),h]
theorem aFV{c pre:List Sc}{i:Nat}{s:Sc}(h:c.take (i+1)=pre++[s])(hl:pre.length=i):c[i]?= some s:=by
 have:(c.take (i+1))[i]?= (pre++[s])[i]? :=by rw[h]
 rw[bBL (Nat.lt_succ_self i),bCZ Yd]at this;rw[this];simp[hl]
theorem ap8{bh bs bl bo blo bY br n q1 q2:Nat}{c:List Sc}{cl:List Int}{o1 o2:Obj}(hap:br∉aD.ks ((q2,o2)::(q1,o1)::pF bh bs bl bo blo bY br n c cl))(hnd:(((q2,o2)::(q1,o1)::pF bh bs bl bo blo bY br n c cl).map fun p=>p.1).Nodup):q2∉[br,bs,bo,q1]:=by
 intro h;simp only[n4,n3,bBB]at h;rcases h with rfl|rfl|rfl|rfl
 ·exact hap (by simp[aD.ks])
 ·simp[pF]at hnd
 ·simp[pF]at hnd
 ·simp at hnd
theorem aWV{bh bs bl bo blo bY br n q1 q2:Nat}{c:List Sc}{cl:List Int}{o1 o2:Obj}(hnd:(((q2,o2)::(q1,o1)::pF bh bs bl bo blo bY br n c cl).map fun p=>p.1).Nodup):blo∉[bl,bs,q1,q2]∧bo∉[bl,bs,q1,q2]:=by
 constructor
 ·intro h;simp only[n4,n3,bBB]at h;rcases h with rfl|rfl|rfl|rfl<;>simp[pF]at hnd
 ·intro h;simp only[n4,n3,bBB]at h;rcases h with rfl|rfl|rfl|rfl<;>simp[pF]at hnd
def aXE(b:bA)(J Jx:List (List Sc)→tL)(bh bs bl bo blo bY br:Nat)(pre:List Sc)(s:Sc)(i:Nat)(done:List (List Sc))(v:Value)(J':tL)(μ':aD):Prop:=
 ∃bb c' cl',v=.bool bb∧c'.length=b.lines.length+1∧F0 c'∧cl'.length=b.lines.length*3∧c'.take (i+1)=pre++[s]∧μ'=pF bh bs bl bo blo bY br b.lines.length c' cl'∧(if bb=true then J'=J (done++(mD b i s).map fun t=>pre++t)else ∃p,J'=Jx p)
set_option maxHeartbeats 1000000 in
theorem aLY{lo l:Nat}{b:bA}{bv:Value}{xs:List (List Sc)}{Dr Dy:aC}{bh bs bl bo blo bY br:Nat}{lv cv:Value}(hbo:aCV b)(hbv:bv=.agg #[qI b.chairs,qI b.coin,qI b.box,lv,cv])(hb0:gL Dr bv b)
  (hA:At Dr br 0 [qI b.chairs,qI b.coin,qI b.box,lv,cv]) (hB:At Dy bY 0 [.func (.yield l) #[] #[]]):
  ∀(j i:Nat) (pre:List Sc) (s:Sc) (c:List Sc) (cl:List Int) (done rest:List (List Sc)) (iv:Int) (Ds:List aC),Dr∈Ds→Dy∈Ds→iv=i→i+j=b.lines.length→pre.length=i→c.length=b.lines.length+1→F0 c→cl.length=b.lines.length*3→c.take (i+1)=pre++[s]→aXB b s i→
   xs=done++(mD b i s).map (fun t=>pre++t)++rest→∀(J Jx:List (List Sc)→tL),(∀pre,I8 lo (J pre))→(∀pre,I8 lo (Jx pre))→aPE prog Dr lo l J Jx xs (TN b.lines.length) fS→
   aWF prog 302 [qI iv,qP br,qP bs,qP bl,qP bY,qP bh] lo (J done) (pF bh bs bl bo blo bY br b.lines.length c cl) Ds (aXE b J Jx bh bs bl bo blo bY br pre s i done):=by
 subst hbv;intro j;induction j using Nat.strongRecOn with
 |_ j ih=>
 intro i pre s c cl done rest iv Ds hDr hDy hiv hij hl h9 h10 h11 hp hsb hxs J Jx hs hsx hY;replace ih:=fun j hj i pre s c cl done rest iv Ds h1 h2 h3 h4 h5 h6 h7 h8 h9 h10 h11=>ih j hj i pre s c cl done rest iv Ds h1 h2 h3 h4 h5 h6 h7 h8 h9 h10 h11 J Jx hs hsx hY
 subst hiv;obtain⟨lv',cv',he,hl',hc'⟩:=id hb0;obtain⟨rfl,rfl⟩:=HI he;have hl8:=hbo.l8;have hch:=hbo.ch;have hco:=hbo.co;have hbx:=hbo.bx;have hmo:=hsb.mo;have hmi:=hsb.mi;have hs10:=zW hsb.lc hsb.lt;refine H7 (μ:=pF bh bs bl bo blo bY br b.lines.length c cl) 68 func302 rfl rfl rfl rfl<|aA<|Zg rfl<|bT<|aS<|bW [] 4 8 62<|Zq rfl fG rfl hA eK<|Zm rfl Q6 rfl Mm1 rfl<|Za rfl<|gO rfl U349 dT rfl rfl Yd (by push_cast;omega) rfl bDY<|dM (n:=10) (us:=ints (pA s)) rfl jL dT rfl Mm3 (by rw[show 0+((i:Int)).toNat*10=i*10 by omega];exact H3 h10 (aFV hp hl)) (by simp[hs10]) n3 rfl bDY<|Za rfl ?_;refine Zc rfl (fun D1 hD1=>u7 _ b s i _ (hb0.up (hD1 _ Yam)) hsb.lc hsb.lt)<|Zal rfl<|aF<|aP rfl (fun hc1=>?_) (fun hc1=>?_)
 ·refine aA<|Zg rfl<|aG<|Zap ?_;exact lO (P:=prog) (fn:=f302) (N:=68) (vs:=[_]) rfl rfl ⟨rfl,bDY⟩ (fun D h=>⟨D,h,Le.refl D⟩) ⟨true,c,cl,rfl,h9,h10,h11,hp,rfl,by simp only[bAX];rw[aPW (by simpa using hc1)];simp⟩
 ·have hcd:gD b s i=true:=by simpa using hc1
  refine aT<|eH<|Za rfl<|Zm rfl fA rfl Mm2 rfl<|kW rfl U33 rfl rfl rfl bDY<|Zam rfl<|aF<|Zz rfl (fun hc2=>?_) (fun hc2=>?_)
  ·have hrun:=aEU hcd (show b.lines.length≤i by omega);have hleaf:pre++[s]=c:=by rw[←hp,aZP Yd]
   rw[hrun,bCP,hleaf,aZD,bCK]at hxs;refine aA<|Zj 0 rfl aMX rfl hB rfl<|Zm rfl fA rfl Mm2 rfl<|Zm rfl Q6 rfl Mm1 rfl<|ED (l:=l) (J1:=J (done++[c])) (J0:=Jx (done++[c])) rfl rfl rfl rfl (hs _) (hsx _) (fun D w hd hJ hb hl=>hY done c _ D w bo _ ⟨rest,hxs⟩ hd hJ (fun b hbm=>by obtain⟨p,hp,rfl⟩:=GT.1 hbm;exact bH (hb p hp).1) (hl _ hDr) ⟨blo,rfl⟩ ⟨GT.2 ⟨_,K0,rfl⟩,(hb _ K0).2,_,_,(hb _ K0).1⟩) rfl bDY (fun b1 J1 hJ1=>Zg rfl<|aG<|Zap ?_)
   exact lO (P:=prog) (fn:=f302) (N:=68) (vs:=[_]) rfl rfl ⟨rfl,bDY⟩ (fun D h=>⟨D,h,Le.refl D⟩) ⟨b1,c,cl,rfl,h9,h10,h11,hp,rfl,by cases b1<;>simp only[hJ1,bAX,bAE,bBH];exact⟨_,rfl⟩;rw[hrun,bCP,hleaf]⟩
  ·have hil:i<b.lines.length:=by omega
   obtain⟨z,hz⟩:=dV b.lines i;have hdr:b.lines.drop i=z::b.lines.drop (i+1):=by rw[bAM hil];congr 1;exact aZO ((aYU hil).symm.trans hz)
   have hrun:=XU (pre:=pre) hcd hdr;rw[hrun]at hxs;refine aT<|aS<|aS<|lI [] 1 [0,1,2,3,4,5,8,6,7] [false,true,true,true,true,true,true,true,true] [(false,0),(true,1),(true,2),(true,3),(true,4),(true,5),(true,8),(true,6),(true,7)] bI (fun _ _ _ h=>L8 (P:=prog) (fn:=f302) _ _ _ h) Yg rfl<|Zq rfl fG rfl hA eK<|Zh rfl cE rfl<|Zj 3 rfl fA rfl hA rfl<|Za rfl<|Zw rfl U33 bU rfl hl' rfl hz (fun b1 o1 cs1 hr1 hcl1 hA1=>?_);obtain rfl:cs1=[qI _,qI _,qI _]:=hr1;refine Zq rfl kJ rfl hA1 bU<|Za rfl<|Zv rfl (fun D2 hD2=>yT _ b z _ (hb0.up (hD2 _ Yam)) Yd) (fun v2 D2 hD2 hp2=>?_);have hr_:=hp2;have hrl:=hr_.len;refine cZ rfl U33 rfl Yl rfl rfl bDY<|aF<|Zar<|a7 (γ:=Nat×List Sc×List Int) (fun g=>(dH b.chairs z).length-g.1) (fun g=>g.1≤(dH b.chairs z).length∧g.2.1.length=b.lines.length+1∧F0 g.2.1∧g.2.2.length=b.lines.length*3∧g.2.1.take (i+1)=pre++[s]) (fun g=>J (done++UB b i s z pre g.1)) (fun g=>[(36,qI (g.1:Int))]) [(35,_),(34,_),(7,_),(0,_),(1,_),(2,_),(3,_),(5,_)] (fun g=>pF bh bs bl bo blo bY br b.lines.length g.2.1 g.2.2) (fun g=>D2::Ds) (0,c,cl) ⟨by simp,h9,h10,h11,hp⟩ (by simp[aEL]) ⟨Yb,bDY⟩ cQ Mm5 (aH) ?_;rintro⟨k,c1,cl1⟩ ⟨h12,h91,h92,h93,hp1⟩;simp only at h12 h91 h92 h93 hp1;refine aA<|Zai rfl<|bT<|Zz rfl (fun hc3=>?_) (fun hc3=>?_)
   ·simp only at hc3;obtain⟨x,hx⟩:=dV (dH b.chairs z) k;have hin:=((K3 (hbo.ln z (LE hz))).1 (LE hx)).1;have hn10:(pA (eV b s i x)).length=10:=QS hsb.lc hsb.lt;have hif:(pA (if kO s x=true then eV b s i x else s)).length=10:=by split;exact hn10;exact hs10
    refine aT<|aS<|Zar<|aA<|Zw rfl U33 bU rfl hr_ rfl hx (fun b2 o2 cs2 hr2 hcl2 hA2=>?_);obtain rfl:cs2=[qI _,qI _,qI _]:=hr2;refine Zq rfl kJ rfl hA2 bU<|Zx rfl jJ rfl (fun q1=>Zt rfl bU (bR.head)<|bT<|pY (gN.mk [br,bs,bo,q1]) 5 [false,true,true,true,true,true,true,true,false,false,true,true,true,false] [.fork [0,1,2,3,4,5,6] 7 (.fin [8,9,10,11]) 11 (.fin [7,8,9,10]),.fin [12,13]] bI (fun _ _ _ h=>L8 (P:=prog) (fn:=f302) _ _ _ h) Yg ?_);apply y9 (γ:=Nat) (fun _=>True) _ _ _ [.fork [0,1,2,3,4,5,6] 7 (.fin [8,9,10,11]) 11 (.fin [7,8,9,10])] [.fin [12,13]] rfl
    ·refine uP<|bL [(false,0),(true,1),(true,2),(true,3),(true,4),(true,5),(true,6)] rfl<|dQ rfl fG rfl hA (n5 _ hDr) eK (gN.out Ye) rfl bDY<|bZ rfl Q6 rfl Mm2 rfl (gN.out Ye) rfl bDY<|Za rfl<|gO rfl U349 dT rfl rfl Yd (by push_cast;omega) rfl bDY<|dM (n:=10) (us:=ints (pA s)) rfl jL dT rfl (aZJ _ Mm3) (by rw[show 0+((i:Int)).toNat*10=i*10 by omega];exact H3 h92 (aFV hp1 hl)) (by simp[hs10]) (gN.out Ye) rfl bDY<|Za rfl<|bK (e:=206) (fz:=(0,0)) rfl kJ rfl Mm0 bU (gN.out Ye) rfl bDY<|Zah (eE true true rfl rfl ?_ ?_)
     ·refine Zc rfl (fun D3 hD3=>a8 _ b s i x _ (hb0.up (hD3 _ Yam)) hsb.lc hsb.lt Yat Yat Yd Yd Yd Yd)<|Zah<|aZ [(false,8),(false,9),(true,10),(true,11)] rfl<|Za rfl<|Zaf rfl<|Zaf rfl<|Zx rfl tP rfl (fun q2=>Zah ?_);exact fun a w hh=>⟨q2,bDY,hh⟩
     ·refine Zx rfl tP rfl (fun q2=>Zah<|aZ [(true,7),(false,8),(false,9),(true,10)] rfl<|Zc rfl (fun D3 hD3=>a8 _ b s i x _ (hb0.up (hD3 _ Yam)) hsb.lc hsb.lt Yat Yat Yd Yd Yd Yd)<|Za rfl<|Zaf rfl<|Zaf rfl<|Zah ?_);exact fun a w hh=>⟨q2,bDY,hh.weak cQ Mm5 aH⟩
    rintro q2 -;refine oM [(true,12),(false,13)] rfl<|lC hA Yam (fun hap=>aSX (fun hnd=>sW (off:=0) (us:=ints (pA (if kO s x=true then eV b s i x else s))) (ws:=ints (pA (if kO s x=true then eV b s i x else s))) rfl rfl rfl rfl (by rw[show(ints _).length=10 by simp[hif]];exact dT) (bR.head) (by simp[hif]) (by simp[hif]) (dR _) (aYZ (gN.in_ (ap8 hap hnd))) bDY<|Zg rfl<|Zah<|qF<|Zaq<|eH<|Za rfl<|Zal rfl<|aF ?_));refine aP rfl (fun hc4=>?_) (fun hc4=>?_)
    ·have hcan:kO s x=false:=by simpa using hc4
     refine aW<|Zas<|Zav<|Zaq<|aU<|Zaa rfl<|Za rfl<|Zah ?_;exact tG 22 (k+1,c1,cl1) ⟨by simp only;omega,h91,h92,h93,hp1⟩ Ym (by rw[aTK hx hcan]) ⟨Yb,bDY⟩ rfl rfl (List.Sublist.cons _ (List.Sublist.cons _ Mm5)) (aH)
    ·have hcan:kO s x=true:=by simpa using hc4
     rw[aZK hcan];obtain⟨rr,hr⟩:=aKV (b:=b) (i:=i) (s:=s) (z:=z) (pre:=pre) (k:=k+1);refine aT<|aS<|bW (gN.mk [bl,bs,q1,q2]) 1 11 510<|bZ rfl fA rfl (List.Mem.tail _ Mm3) rfl (gN.out Ye) rfl bDY<|Za rfl<|bZ rfl Q6 rfl Mm3 rfl (gN.out Ye) rfl bDY<|Za rfl<|Zaa rfl<|bK (e:=206) (fz:=(0,0)) rfl kJ rfl Mm1 bU (gN.out Ye) rfl bDY<|bK (e:=242) (fz:=(0,0)) rfl jL rfl Mm0 (by rw[show(ints _).length=10 by simp[hn10]];exact dT) (gN.out Ye) rfl bDY<|gO rfl U33 bU rfl rfl Yd Yd rfl bDY<|aSX (fun hnd=>?_);refine sW (off:=i*3) (us:=ints [x.kind,x.chair,x.token]) (ws:=ints (wr cl1 (i*3) [x.kind,x.chair,x.token])) rfl (uV Yd) rfl rfl bU (.tail (.tail (.tail (.tail (.tail (.tail .head)))))) Yaj aOG (dR _) (aYZ (gN.in_ (aWV hnd).1)) bDY<|gO rfl U349 dT rfl rfl Yd (by push_cast;omega) rfl bDY<|sW (off:=(i+1)*10) (us:=ints (pA (eV b s i x))) (ws:=fS (c1.set (i+1) (eV b s i x))) rfl (uV Yd) rfl rfl (by rw[show(ints _).length=10 by simp[hn10]];exact dT) (.tail (.tail (.tail (.tail (.tail .head))))) (by rw[aEA h92,aO,hn10];omega) (aFK h92 hn10 Yd) (dR _) (aYZ (gN.in_ (aWV hnd).2)) bDY<|bT<|aOJ (μ':=pF bh bs bl bo blo bY br b.lines.length (c1.set (i+1) (eV b s i x)) (wr cl1 (i*3) [x.kind,x.chair,x.token])) 2 rfl<|aU<|Zm rfl oV rfl Mm0 rfl<|Za rfl<|Zaa rfl<|tY rfl rfl rfl rfl (ih (j-1) Yd (i+1) (pre++[s]) (eV b s i x) (c1.set (i+1) (eV b s i x)) (wr cl1 (i*3) [x.kind,x.chair,x.token]) (done++UB b i s z pre k) (rr++rest) (i+1:Int) _ (n5 _ hDr) (n5 _ hDy) Yd Yd Yaj (by simpa using h91) (h92.set hn10 _) (by rw[aVD Yaj];exact h93) (aCC Yd hp1) (aHV hbo hsb x i) (by rw[hxs,hr,TW hx hcan];simp)) rfl bDY ?_
     rintro _ J2 _ ⟨b2,c2,cl2,rfl,h9',h10',h11',hp',rfl,hJ2⟩;refine Zal rfl<|aF<|aP rfl (fun hc5=>?_) (fun hc5=>?_)
     ·obtain rfl:b2=false:=by simpa using hc5
      refine aA<|Zg rfl<|aG<|Zau<|Zap<|Zap<|Zau<|Zap ?_;exact lO (P:=prog) (fn:=f302) (N:=68) (vs:=[_]) rfl rfl ⟨rfl,bDY⟩ (fun D h=>⟨D,n5 _ h,Le.refl D⟩) ⟨false,c2,cl2,rfl,h9',h10',h11',CP hp' hl,rfl,by simpa using hJ2⟩
     ·obtain rfl:b2=true:=by simpa using hc5
      refine bM<|Zat<|Zaq<|aU<|Zaa rfl<|Za rfl<|Zah ?_;exact tG 36 (k+1,c2,cl2) ⟨by simp only;omega,h9',h10',h11',CP hp' hl⟩ Ym (by simpa only[bAX,TW hx hcan,aZD]using hJ2) ⟨Yb,bDY⟩ rfl rfl Mm5 (aH)
   ·have hk:k=(dH b.chairs z).length:=by simp only at hc3;omega
    refine aW<|Zas<|Zas<|Zav<|Zaq<|aA<|Zg rfl<|aG ?_;exact lO (P:=prog) (fn:=f302) (N:=68) (vs:=[_]) rfl rfl ⟨rfl,bDY⟩ (fun D h=>⟨D,n5 _ h,Le.refl D⟩) ⟨true,c1,cl1,rfl,h91,h92,h93,hp1,rfl,by simp only[bAX];rw[hrun,hk]⟩
section
variable{X:Cx}{γb:Type}[Membership Nat γb]{bad:γb}{all:Array Oper}{K:Act→World→Prop}{Q:Exit→Act→World→Prop}{σ:bO}{μ:aD}{Ds:List aC}{os:List (Bool×Nat)}{fl:Bool}{ix d n:Nat}{x y:Operand}{v:Value}{ty:TypeId}{pos:String}{aft:Array Edge}{g:Option (Nat×Bool)}{k k':IntKind}
def aOY(b:bA)(l q1 br:Nat)(g:Nat×Nat×Nat×Nat):bO:=[(3,.pointer (some ⟨g.1,0,none⟩)),(4,.pointer (some ⟨g.2.1,0,none⟩)),(14,.slice (some ⟨g.2.2.1,0,none⟩) (b.lines.length+1) (b.lines.length+1)),(2,qP q1),(1,qP br),(0,.func (.yield l) #[] #[])]
def OD(b:bA)(g:Nat×Nat×Nat×Nat):aD:=[(g.2.1,qC [qN] 349),(g.1,qC [.slice (some ⟨g.2.2.2,0,none⟩) b.lines.length b.lines.length] 33),(g.2.2.1,qC (fS (List.replicate (b.lines.length+1) aLB)) 242),(g.2.2.2,qC (ints (List.replicate (b.lines.length*3) 0)) 206)]
theorem eF{b:bA}{l q1 br:Nat}{σ':bO}{μ':aD}{a:Act}{w:World}(bl bs bo blo:Nat)(hh:Hl X σ' μ' Ds a w)(hs:AM σ' (aOY b l q1 br (bl,bs,bo,blo)):=by exact cQ)(hm:∀r∈OD b (bl,bs,bo,blo),r∈μ':=by simp[OD])(hn:(μ'.map (·.1)).Nodup→((OD b (bl,bs,bo,blo)).map (·.1)).Nodup:=by simp[OD]<;>omega):
  ∃g:Nat×Nat×Nat×Nat,True∧Hl X (aOY b l q1 br g) (OD b g) Ds a w:=⟨(bl,bs,bo,blo),bDY,(hh.perm hm hn).weak hs Mm5 aH⟩
theorem rE(G:n≤8)(ho:all[ix]?= some ⟨some d,.makeSlice 33 x y,ty,pos,aft,none⟩)(hx:ev σ x=some (.int k (n:Int)))(hy:ev σ y=some (.int k' (n:Int)))
  (kk:∀b,WL prog X bad all K Q os ((d,qS b n n)::σ) ((b,qC (ints (List.replicate (n*3) 0)) 206)::μ) Ds) (hN:Nat.blt d X.N=true:=by exact rfl):WL prog X bad all K Q ((fl,ix)::os) σ μ Ds:=
 rI ho U33 bU jJ rfl Q7 hx hy Yd (G9 Ye rfl) hN bDY kk
theorem mG(G:n≤8)(ho:all[ix]?= some ⟨some d,.makeSlice 349 x y,ty,pos,aft,none⟩)(hx:ev σ x=some (.int k ((n:Int)+1)))(hy:ev σ y=some (.int k' ((n:Int)+1)))
  (kk:∀b,WL prog X bad all K Q os ((d,qS b (n+1) (n+1))::σ) ((b,qC (fS (List.replicate (n+1) aLB)) 242)::μ) Ds) (hN:Nat.blt d X.N=true:=by exact rfl):WL prog X bad all K Q ((fl,ix)::os) σ μ Ds:=
 rI (n:=n+1) ho U349 dT tP rfl aRP (hx.trans (aYY (fun z=>some (Value.int k z)) Yd)) (hy.trans (aYY (fun z=>some (Value.int k' z)) Yd)) Yd ((G9 Ye rfl).trans (aQZ _)) hN bDY kk
theorem fL{D₁:aC}{br q:Nat}{c:Value}{cs:List Value}{μ':aD}(hA:At D₁ br 0 (c::cs))(ho:all[ix]?= some ⟨none,.store 33 x y,ty,pos,aft,none⟩)(hx:ev σ x=some (qP q))(hy:ev σ y=some v)(hv:v.cells=[v].toArray)(hm:bR μ q (qC [qN] 33) (qC [v] 33) μ')(hs:TS prog 33 1)(hc:cell1 v=true)
  (kk:WL prog X (gN.mk [br]) all K Q os σ μ' Ds) (hD:D₁∈Ds:=by simp):WL prog X (gN.mk [br]) all K Q ((fl,ix)::os) σ μ Ds:=
 lC hA hD fun hap=>sW (off:=0) (us:=[v]) (vs:=[qN]) (ws:=[v]) ho hx hy hv hs hm Ye rfl (fun u hu=>by rw[aZM]at hu;rw[hu];exact hc) (aYZ (gN.in_ (by rw[aZM];rintro rfl;exact hap (GT.2 ⟨_,hm.mem,rfl⟩)))) bDY kk
end
theorem R7{n:Nat}:F0 (List.replicate n aLB):=fun s hs=>by rw[List.eq_of_mem_replicate hs];rfl
set_option maxHeartbeats 1000000 in
theorem H4{b:bA}{bv lv cv:Value}{Dr:aC}{br:Nat}(hbo:aCV b)(hbv:bv=.agg #[qI b.chairs,qI b.coin,qI b.box,lv,cv])(hb0:gL Dr bv b)(hA:At Dr br 0 [qI b.chairs,qI b.coin,qI b.box,lv,cv]):
  BZ prog 301 [qP br] Dr (mD b 0 (fT b)) (TN b.lines.length) fS:=by
 subst hbv;obtain⟨lv',cv',he,hl',hc'⟩:=id hb0;obtain⟨rfl,rfl⟩:=HI he;have hl8:=hbo.l8;refine s9 22 func301 rfl rfl rfl rfl (fun lo l J Jx hs hsx hY=>aA<|Zu rfl (fun q1 E1 hE1 hB1=>bT<|pY (gN.mk [br]) 4 [false,false,false,true,true,true,true,true,true,true,true,true,false] [.forkN [0,1,2,4,5,6,7] 3 [8,9,10] (z6 [(3,.forkN [] 8 [9,10] (z6 [(8,.fork [] 9 (.fin [10,11]) 10 (.fin [9,11])),(9,.fork [] 8 (.fin [10,11]) 10 (.fork [] 8 (.fin [11]) 11 (.fin [8]))),(10,.fork [] 8 (.fin [9,11]) 9 (.fork [] 8 (.fin [11]) 11 (.fin [8])))])),(8,.forkN [] 3 [9,10] (z6 [(3,.fork [] 9 (.fin [10,11]) 10 (.fin [9,11])),(9,.fork [] 3 (.fin [10,11]) 10 (.fin [3,11])),(10,.fork [] 3 (.fin [9,11]) 9 (.fin [3,11]))])),(9,.forkN [] 3 [8,10] (z6 [(3,.fork [] 8 (.fin [10,11]) 10 (.fork [] 8 (.fin [11]) 11 (.fin [8]))),(8,.fork [] 3 (.fin [10,11]) 10 (.fin [3,11])),(10,.fork [] 3 (.fork [] 8 (.fin [11]) 11 (.fin [8])) 8 (.fin [3,11]))])),(10,.forkN [] 3 [8,9] (z6 [(3,.fork [] 8 (.fin [9,11]) 9 (.fork [] 8 (.fin [11]) 11 (.fin [8]))),(8,.fork [] 3 (.fin [9,11]) 9 (.fin [3,11])),(9,.fork [] 3 (.fork [] 8 (.fin [11]) 11 (.fin [8])) 8 (.fin [3,11]))]))]),.fin [12]] bI (fun _ _ _ h=>L8 (P:=prog) (fn:=f301) _ _ _ h) Yg<|y9 (γ:=Nat×Nat×Nat×Nat) (fun g=>True) (fun g=>aOY b l q1 br g) (fun g=>OD b g) (fun g=>[E1,Dr]) [.forkN [0,1,2,4,5,6,7] 3 [8,9,10] (z6 [(3,.forkN [] 8 [9,10] (z6 [(8,.fork [] 9 (.fin [10,11]) 10 (.fin [9,11])),(9,.fork [] 8 (.fin [10,11]) 10 (.fork [] 8 (.fin [11]) 11 (.fin [8]))),(10,.fork [] 8 (.fin [9,11]) 9 (.fork [] 8 (.fin [11]) 11 (.fin [8])))])),(8,.forkN [] 3 [9,10] (z6 [(3,.fork [] 9 (.fin [10,11]) 10 (.fin [9,11])),(9,.fork [] 3 (.fin [10,11]) 10 (.fin [3,11])),(10,.fork [] 3 (.fin [9,11]) 9 (.fin [3,11]))])),(9,.forkN [] 3 [8,10] (z6 [(3,.fork [] 8 (.fin [10,11]) 10 (.fork [] 8 (.fin [11]) 11 (.fin [8]))),(8,.fork [] 3 (.fin [10,11]) 10 (.fin [3,11])),(10,.fork [] 3 (.fork [] 8 (.fin [11]) 11 (.fin [8])) 8 (.fin [3,11]))])),(10,.forkN [] 3 [8,9] (z6 [(3,.fork [] 8 (.fin [9,11]) 9 (.fork [] 8 (.fin [11]) 11 (.fin [8]))),(8,.fork [] 3 (.fin [9,11]) 9 (.fin [3,11])),(9,.fork [] 3 (.fork [] 8 (.fin [11]) 11 (.fin [8])) 8 (.fin [3,11]))]))])] [.fin [12]] rfl ?_ ?_))
 ·refine uP<|qG [(false,0),(false,1),(false,2),(true,4),(true,5),(true,6),(true,7)] rfl<|Zh rfl cE rfl<|dU rfl (k:=3) fA rfl hA Ye rfl (gN.out Ye) rfl bDY<|Zab rfl U33 rfl hl' rfl<|Zh rfl cE rfl<|dU rfl (k:=3) fA rfl hA Ye rfl (gN.out Ye) rfl bDY<|Zab rfl U33 rfl hl' rfl<|Zaa rfl ?_;refine Zah (fU true rfl rfl ?_ (fU true rfl rfl ?_ (fU true rfl rfl ?_ (fU true rfl rfl ?_ (zM)))))
  ·refine rE hl8 rfl rfl rfl (fun blo=>Zah<|qG [] rfl ?_);refine Zah (fU true rfl rfl ?_ (fU true rfl rfl ?_ (fU true rfl rfl ?_ (zM))))
   ·refine mG hl8 rfl rfl rfl (fun bo=>Zah<|bL [] rfl<|Zah (eE true true rfl rfl ?_ ?_))
    ·refine Zx rfl mP rfl (fun q2=>Zah<|aZ [(true,10),(true,11)] rfl<|Zx rfl jN rfl (fun q3=>fL hA rfl rfl rfl rfl (.tail (bR.head)) eI rfl<|Zah ?_));exact fun a w hh=>eF q2 q3 bo blo hh
    ·refine Zx rfl jN rfl (fun q2=>Zah<|aZ [(true,9),(true,11)] rfl<|Zx rfl mP rfl (fun q3=>fL hA rfl rfl rfl rfl (bR.head) eI rfl<|Zah ?_));exact fun a w hh=>eF q3 q2 bo blo hh
   ·refine Zx rfl mP rfl (fun q2=>Zah<|bL [] rfl<|Zah (eE true true rfl rfl ?_ ?_))
    ·refine mG hl8 rfl rfl rfl (fun bo=>Zah<|aZ [(true,10),(true,11)] rfl<|Zx rfl jN rfl (fun q3=>fL hA rfl rfl rfl rfl (.tail (.tail (bR.head))) eI rfl<|Zah ?_));exact fun a w hh=>eF q2 q3 bo blo hh
    ·refine Zx rfl jN rfl (fun q3=>Zah<|bL [] rfl<|Zah (eE true true rfl rfl ?_ ?_))
     ·refine mG hl8 rfl rfl rfl (fun bo=>Zah<|aZ [(true,11)] rfl<|fL hA rfl rfl rfl rfl (.tail (.tail (bR.head))) eI rfl<|Zah ?_);exact fun a w hh=>eF q2 q3 bo blo hh
     ·refine fL hA rfl rfl rfl rfl (.tail (bR.head)) eI rfl<|Zah<|aZ [(true,8)] rfl<|mG hl8 rfl rfl rfl (fun bo=>Zah ?_);exact fun a w hh=>eF q2 q3 bo blo hh
   ·refine Zx rfl jN rfl (fun q2=>Zah<|bL [] rfl<|Zah (eE true true rfl rfl ?_ ?_))
    ·refine mG hl8 rfl rfl rfl (fun bo=>Zah<|aZ [(true,9),(true,11)] rfl<|Zx rfl mP rfl (fun q3=>fL hA rfl rfl rfl rfl (bR.head) eI rfl<|Zah ?_));exact fun a w hh=>eF q3 q2 bo blo hh
    ·refine Zx rfl mP rfl (fun q3=>Zah<|bL [] rfl<|Zah (eE true true rfl rfl ?_ ?_))
     ·refine mG hl8 rfl rfl rfl (fun bo=>Zah<|aZ [(true,11)] rfl<|fL hA rfl rfl rfl rfl (.tail (bR.head)) eI rfl<|Zah ?_);exact fun a w hh=>eF q3 q2 bo blo hh
     ·refine fL hA rfl rfl rfl rfl (bR.head) eI rfl<|Zah<|aZ [(true,8)] rfl<|mG hl8 rfl rfl rfl (fun bo=>Zah ?_);exact fun a w hh=>eF q3 q2 bo blo hh
  ·refine mG hl8 rfl rfl rfl (fun bo=>Zah<|qG [] rfl ?_);refine Zah (fU true rfl rfl ?_ (fU true rfl rfl ?_ (fU true rfl rfl ?_ (zM))))
   ·refine rE hl8 rfl rfl rfl (fun blo=>Zah<|bL [] rfl<|Zah (eE true true rfl rfl ?_ ?_))
    ·refine Zx rfl mP rfl (fun q2=>Zah<|aZ [(true,10),(true,11)] rfl<|Zx rfl jN rfl (fun q3=>fL hA rfl rfl rfl rfl (.tail (bR.head)) eI rfl<|Zah ?_));exact fun a w hh=>eF q2 q3 bo blo hh
    ·refine Zx rfl jN rfl (fun q2=>Zah<|aZ [(true,9),(true,11)] rfl<|Zx rfl mP rfl (fun q3=>fL hA rfl rfl rfl rfl (bR.head) eI rfl<|Zah ?_));exact fun a w hh=>eF q3 q2 bo blo hh
   ·refine Zx rfl mP rfl (fun q2=>Zah<|bL [] rfl<|Zah (eE true true rfl rfl ?_ ?_))
    ·refine rE hl8 rfl rfl rfl (fun blo=>Zah<|aZ [(true,10),(true,11)] rfl<|Zx rfl jN rfl (fun q3=>fL hA rfl rfl rfl rfl (.tail (.tail (bR.head))) eI rfl<|Zah ?_));exact fun a w hh=>eF q2 q3 bo blo hh
    ·refine Zx rfl jN rfl (fun q3=>Zah<|aZ [(true,3),(true,11)] rfl<|rE hl8 rfl rfl rfl (fun blo=>fL hA rfl rfl rfl rfl (.tail (.tail (bR.head))) eI rfl<|Zah ?_));exact fun a w hh=>eF q2 q3 bo blo hh
   ·refine Zx rfl jN rfl (fun q2=>Zah<|bL [] rfl<|Zah (eE true true rfl rfl ?_ ?_))
    ·refine rE hl8 rfl rfl rfl (fun blo=>Zah<|aZ [(true,9),(true,11)] rfl<|Zx rfl mP rfl (fun q3=>fL hA rfl rfl rfl rfl (bR.head) eI rfl<|Zah ?_));exact fun a w hh=>eF q3 q2 bo blo hh
    ·refine Zx rfl mP rfl (fun q3=>Zah<|aZ [(true,3),(true,11)] rfl<|rE hl8 rfl rfl rfl (fun blo=>fL hA rfl rfl rfl rfl (.tail (bR.head)) eI rfl<|Zah ?_));exact fun a w hh=>eF q3 q2 bo blo hh
  ·refine Zx rfl mP rfl (fun q2=>Zah<|qG [] rfl ?_);refine Zah (fU true rfl rfl ?_ (fU true rfl rfl ?_ (fU true rfl rfl ?_ (zM))))
   ·refine rE hl8 rfl rfl rfl (fun blo=>Zah<|bL [] rfl<|Zah (eE true true rfl rfl ?_ ?_))
    ·refine mG hl8 rfl rfl rfl (fun bo=>Zah<|aZ [(true,10),(true,11)] rfl<|Zx rfl jN rfl (fun q3=>fL hA rfl rfl rfl rfl (.tail (.tail (.tail (bR.head)))) eI rfl<|Zah ?_));exact fun a w hh=>eF q2 q3 bo blo hh
    ·refine Zx rfl jN rfl (fun q3=>Zah<|bL [] rfl<|Zah (eE true true rfl rfl ?_ ?_))
     ·refine mG hl8 rfl rfl rfl (fun bo=>Zah<|aZ [(true,11)] rfl<|fL hA rfl rfl rfl rfl (.tail (.tail (.tail (bR.head)))) eI rfl<|Zah ?_);exact fun a w hh=>eF q2 q3 bo blo hh
     ·refine fL hA rfl rfl rfl rfl (.tail (.tail (bR.head))) eI rfl<|Zah<|aZ [(true,8)] rfl<|mG hl8 rfl rfl rfl (fun bo=>Zah ?_);exact fun a w hh=>eF q2 q3 bo blo hh
   ·refine mG hl8 rfl rfl rfl (fun bo=>Zah<|bL [] rfl<|Zah (eE true true rfl rfl ?_ ?_))
    ·refine rE hl8 rfl rfl rfl (fun blo=>Zah<|aZ [(true,10),(true,11)] rfl<|Zx rfl jN rfl (fun q3=>fL hA rfl rfl rfl rfl (.tail (.tail (.tail (bR.head)))) eI rfl<|Zah ?_));exact fun a w hh=>eF q2 q3 bo blo hh
    ·refine Zx rfl jN rfl (fun q3=>Zah<|aZ [(true,3),(true,11)] rfl<|rE hl8 rfl rfl rfl (fun blo=>fL hA rfl rfl rfl rfl (.tail (.tail (.tail (bR.head)))) eI rfl<|Zah ?_));exact fun a w hh=>eF q2 q3 bo blo hh
   ·refine Zx rfl jN rfl (fun q3=>Zah<|bL [] rfl<|Zah (eE true true rfl rfl ?_ ?_))
    ·refine rE hl8 rfl rfl rfl (fun blo=>Zah<|bL [] rfl<|Zah (eE true true rfl rfl ?_ ?_))
     ·refine mG hl8 rfl rfl rfl (fun bo=>Zah<|aZ [(true,11)] rfl<|fL hA rfl rfl rfl rfl (.tail (.tail (.tail (bR.head)))) eI rfl<|Zah ?_);exact fun a w hh=>eF q2 q3 bo blo hh
     ·refine fL hA rfl rfl rfl rfl (.tail (.tail (bR.head))) eI rfl<|Zah<|aZ [(true,8)] rfl<|mG hl8 rfl rfl rfl (fun bo=>Zah ?_);exact fun a w hh=>eF q2 q3 bo blo hh
    ·refine mG hl8 rfl rfl rfl (fun bo=>Zah<|aZ [(true,3),(true,11)] rfl<|rE hl8 rfl rfl rfl (fun blo=>fL hA rfl rfl rfl rfl (.tail (.tail (.tail (bR.head)))) eI rfl<|Zah ?_));exact fun a w hh=>eF q2 q3 bo blo hh
  ·refine Zx rfl jN rfl (fun q2=>Zah<|qG [] rfl ?_);refine Zah (fU true rfl rfl ?_ (fU true rfl rfl ?_ (fU true rfl rfl ?_ (zM))))
   ·refine rE hl8 rfl rfl rfl (fun blo=>Zah<|bL [] rfl<|Zah (eE true true rfl rfl ?_ ?_))
    ·refine mG hl8 rfl rfl rfl (fun bo=>Zah<|aZ [(true,9),(true,11)] rfl<|Zx rfl mP rfl (fun q3=>fL hA rfl rfl rfl rfl (bR.head) eI rfl<|Zah ?_));exact fun a w hh=>eF q3 q2 bo blo hh
    ·refine Zx rfl mP rfl (fun q3=>Zah<|bL [] rfl<|Zah (eE true true rfl rfl ?_ ?_))
     ·refine mG hl8 rfl rfl rfl (fun bo=>Zah<|aZ [(true,11)] rfl<|fL hA rfl rfl rfl rfl (.tail (bR.head)) eI rfl<|Zah ?_);exact fun a w hh=>eF q3 q2 bo blo hh
     ·refine fL hA rfl rfl rfl rfl (bR.head) eI rfl<|Zah<|aZ [(true,8)] rfl<|mG hl8 rfl rfl rfl (fun bo=>Zah ?_);exact fun a w hh=>eF q3 q2 bo blo hh
   ·refine mG hl8 rfl rfl rfl (fun bo=>Zah<|bL [] rfl<|Zah (eE true true rfl rfl ?_ ?_))
    ·refine rE hl8 rfl rfl rfl (fun blo=>Zah<|aZ [(true,9),(true,11)] rfl<|Zx rfl mP rfl (fun q3=>fL hA rfl rfl rfl rfl (bR.head) eI rfl<|Zah ?_));exact fun a w hh=>eF q3 q2 bo blo hh
    ·refine Zx rfl mP rfl (fun q3=>Zah<|aZ [(true,3),(true,11)] rfl<|rE hl8 rfl rfl rfl (fun blo=>fL hA rfl rfl rfl rfl (.tail (bR.head)) eI rfl<|Zah ?_));exact fun a w hh=>eF q3 q2 bo blo hh
   ·refine Zx rfl mP rfl (fun q3=>Zah<|bL [] rfl<|Zah (eE true true rfl rfl ?_ ?_))
    ·refine rE hl8 rfl rfl rfl (fun blo=>Zah<|bL [] rfl<|Zah (eE true true rfl rfl ?_ ?_))
     ·refine mG hl8 rfl rfl rfl (fun bo=>Zah<|aZ [(true,11)] rfl<|fL hA rfl rfl rfl rfl (.tail (.tail (bR.head))) eI rfl<|Zah ?_);exact fun a w hh=>eF q3 q2 bo blo hh
     ·refine fL hA rfl rfl rfl rfl (.tail (bR.head)) eI rfl<|Zah<|aZ [(true,8)] rfl<|mG hl8 rfl rfl rfl (fun bo=>Zah ?_);exact fun a w hh=>eF q3 q2 bo blo hh
    ·refine mG hl8 rfl rfl rfl (fun bo=>Zah<|aZ [(true,3),(true,11)] rfl<|rE hl8 rfl rfl rfl (fun blo=>fL hA rfl rfl rfl rfl (.tail (.tail (bR.head))) eI rfl<|Zah ?_));exact fun a w hh=>eF q3 q2 bo blo hh
 rintro⟨bl,bs,bo,blo⟩ -;dsimp only[aOY,OD];refine oM [(false,12)] rfl<|Zo rfl aRR (bR.head) rfl<|Zah<|qF<|Zaq<|aA<|Zx rfl d4 rfl (fun q4=>aL<|Zao rfl<|Zo rfl g7 (bR.head) rfl<|bT<|bW [] 1 5 6 ?_);refine Zm rfl Q6 rfl Mm1 rfl<|Zq rfl fG rfl hA eK<|Zc rfl (fun D1 hD1=>vO _ b _ (hb0.up (hD1 _ Ye)))<|gO rfl U349 dT rfl rfl Yd (by push_cast;omega) rfl bDY<|bG (off:=0*10) (us:=ints (pA (fT b))) (ws:=fS ((List.replicate (b.lines.length+1) aLB).set 0 (fT b))) rfl (uV Yd) rfl rfl dT (.tail (.tail (.tail (bR.head)))) (by rw[aEA R7,aO,show(pA (fT b)).length=10 from rfl,List.length_replicate];omega) (aFK R7 rfl Ye) (dR _) bDY<|aF<|aU<|Zm rfl oV rfl Mm0 rfl<|tY rfl rfl rfl rfl (aLY (l:=l) hbo rfl hb0 hA hB1 b.lines.length 0 [] (fT b) ((List.replicate (b.lines.length+1) aLB).set 0 (fT b)) (List.replicate (b.lines.length*3) 0) [] [] 0 _ Ye Ye rfl Yd rfl Ye (R7.set rfl _) Ye (by simp[List.replicate_succ]) (Z8 b) Ye J Jx hs hsx hY) rfl bDY ?_
 rintro _ J2 _ ⟨b2,c2,cl2,rfl,h9',h10',h11',hp',rfl,hJ2⟩;refine Zah ?_;exact lO (P:=prog) (fn:=f301) (N:=22) (vs:=[]) rfl rfl bDY (fun D h=>⟨D,by simp only[aZM]at h;subst h;simp,Le.refl D⟩) Ya0
theorem QY(bv:Value)(b:bA)(D:aC)(hb:gL D bv b)(hbo:aCV b):
  Fn prog 200 #[bv] D (fun D' v=>∃br,v=.func (.func 301) #[] #[qP br]∧BZ prog 301 [qP br] D' (mD b 0 (fT b)) (TN b.lines.length) fS):=by
 have G:=hb;obtain⟨lv,cv,rfl,hl,hc⟩:=hb;refine Zs 4 func200 rfl (fun h0=>aA<|Zu rfl (fun q1 O M I=>Zg rfl<|aL<|Zao rfl<|Zg rfl<|aG ?_));exact aE rfl (fun D hD=>⟨_,rfl,H4 hbo rfl (G.up (hD _ Ye)) (I.up (hD _ Ye))⟩)
end L3
namespace L3
open L1
open C3
theorem VW(b:bA):∀(ls:List gI) (i:Nat) (s:Sc),s.ch.length=4→s.tk.length=4→∀x∈yX b ls i s,x.2.length=ls.length+1∧∀u∈x.2,u.ch.length=4∧u.tk.length=4
  | [],i,s,h4,h5,x,hx=>by
    unfold yX at hx;split at hx
    · obtain rfl:x=([],[s]):=by simpa using hx
      exact ⟨rfl, fun u hu => by obtain rfl : u = s := by simpa using hu
                                 exact⟨h4,h5⟩⟩
    · cases hx
  |l::ls,i,s,h4,h5,x,hx=>by
    unfold yX at hx;split at hx
    · obtain⟨r,_,hr⟩:=bDK.1 hx;split at hr
      · obtain⟨y,hy,rfl⟩:=GT.1 hr;obtain⟨g1,g2⟩:=VW b ls (i+1) (eV b s i r) (by unfold eV;split<;>simp[h4]) (by unfold eV;split<;>simp[h5]) y hy
        refine⟨by simp[g1],fun u hu=>?_⟩;rcases n4.1 hu with rfl|hu
        · exact⟨h4,h5⟩
        · exact g2 u hu
      · cases hr
    · cases hx
theorem KL{b:bA}(hn:b.chairs≤4):∀(ls:List gI) (i:Nat) (s:Sc),(yX b ls i s).length≤32^ls.length
 | [],i,s=>by unfold yX;split<;>simp
 |l::ls,i,s=>by
  unfold yX;split
  ·rw[List.length_flatMap];have h1:∀(rs:List gI),(rs.map fun r=>(if kO s r=true then(yX b ls (i+1) (eV b s i r)).map fun x=>(r::x.1,s::x.2)else []).length).sum≤rs.length*32^ls.length:=by
    intro rs;induction rs with
    |nil=>simp
    |cons r rs ih=>
     rw[aZR,List.sum_cons,aYW,bBU,Nat.one_mul,Nat.add_comm];refine Nat.add_le_add ih ?_;split
     ·rw[bAY];exact KL hn ls _ _
     ·simp
   have h2:=h1 (dH b.chairs l);have h3:=QJ (l:=l) hn;have h4:(dH b.chairs l).length*32^ls.length≤32*32^ls.length:=bDT _ h3;rw[aYW,Nat.pow_succ,Nat.mul_comm];omega
  ·simp
theorem aKC{b:bA}(hbo:aCV b):(mD b 0 (fT b)).length≤1099511627776:=by
 unfold mD;rw[bAY];have h1:=KL hbo.ch.2 (b.lines.drop 0) 0 (fT b);have h2:32^(b.lines.drop 0).length≤32^8:=bCE Yd (by rw[bCN];exact hbo.l8)
 omega
theorem aBM{b:bA}(hbo:aCV b){x:List Sc}{pre r:List (List Sc)}(h:mD b 0 (fT b)=pre++x::r):x.length=b.lines.length+1∧(∀u∈x,u.ch.length=4∧u.tk.length=4)∧pre.length<1099511627776:=by
 have hm:x∈mD b 0 (fT b):=by rw[h];simp
 obtain⟨y,hy,rfl⟩:=GT.1 hm;obtain⟨g1,g2⟩:=VW b _ _ _ rfl rfl y hy;refine⟨by simpa using g1,g2,?_⟩;have:=aKC hbo;rw[h]at this;simp at this;omega
theorem aTZ{x:List Sc}{k:Nat}{u:Sc}(h:x[k]?= some u):aUQ x k=u:=by unfold aUQ;rw[bAQ,h];rfl
theorem aUR{D:aC}{bo n:Nat}{x:List Sc}(h:At D bo 0 (fS x))(hx:x.length=n)(h4:∀u∈x,u.ch.length=4∧u.tk.length=4)(hn:n≤1000):Sl D NU 10 (qS bo n n) x:=by
 have G:F0 x:=fun u hu=>zW (h4 u hu).1 (h4 u hu).2
 refine⟨_,n,by rw[hx],by omega,by omega,aYZ ⟨bo,0,rfl,fun i u hi=>⟨_,rfl,by rw[aO,G u (LE hi)],fun j v hj=>?_⟩⟩⟩;have:=H3 G hi;rw[←this,List.getElem?_take]at hj;split at hj
 ·rw[bBJ]at hj;have:=h _ v hj;rw[show 0+i*10+j=0+(i*10+j) by omega];exact this
 ·cases hj


end L3
namespace L3
open L1
open C3
theorem OU(s:Sc)(D:aC)(h4:s.ch.length=4)(h5:s.tk.length=4):Fn prog 119 #[QL s] D (fun _ v=>v=qI s.money):=by
 refine Zs 5 func119 rfl (fun h0=>aA<|Zu rfl (fun q1 M I G=>Zg rfl<|aL<|Zh rfl nT rfl<|dU (v:=qI s.money) rfl (k:=8) aJ rfl G Yc (cD (zH h4 h5)) n3 rfl bDY<|Zg rfl<|aG ?_));exact aE rfl (fun D hD=>rfl)
end L3
namespace L3
open L1
open C3
def LC(F:Sc→Int)(b:bA)(k:Nat):Int×Int:=(C1.qO (((mD b 0 (fT b)).map fun x=>aUQ x k).map F),C1.pB (((mD b 0 (fT b)).map fun x=>aUQ x k).map F))
def BF(F:Sc→Int)(ss:List Sc)(g:(Int×Int)×Bool):Prop:=(g.2=true∧ss=[]∧g.1=(0,0))∨(g.2=false∧ss≠[]∧g.1=(C1.qO (ss.map F),C1.pB (ss.map F)))
theorem aDA{l:List Int}{x:Int}(h:l≠[]):C1.qO (l++[x])=min (C1.qO l) x:=by
 cases l with
 |nil=>exact absurd rfl h
 |cons a l=>show(l++[x]).foldl min a=_;rw[bAN];rfl
theorem aCK{l:List Int}{x:Int}(h:l≠[]):C1.pB (l++[x])=max (C1.pB l) x:=by
 cases l with
 |nil=>exact absurd rfl h
 |cons a l=>show(l++[x]).foldl max a=_;rw[bAN];rfl
theorem BF.add{F:Sc→Int}{ss:List Sc}{r r':Int×Int}{fb:Bool}{s u:Sc}(h:BF F ss (r,fb))(e:s=u)(hc:(fb=true∧r'=(F u,F u))∨(fb=false∧r'=r)):BF F (ss++[s]) ((min r'.1 (F u),max r'.2 (F u)),false):=by
 subst e;refine aYZ ⟨rfl,by simp,?_⟩;rcases hc with⟨h1,rfl⟩|⟨h1,rfl⟩
 ·rcases h with⟨_,rfl,_⟩|⟨h2,_⟩
  ·simp[C1.qO,C1.pB]
  ·simp only at h2;rw[h1]at h2;cases h2
 ·rcases h with⟨h2,_⟩|⟨_,h3,h4⟩
  ·simp only at h2;rw[h1]at h2;cases h2
  ·simp only at h4;subst h4;have hne:ss.map F≠[]:=by simpa using h3
   rw[aZH,bCP,aDA hne,aCK hne]
theorem BF.all{F:Sc→Int}{b:bA}{k:Nat}{r:Int×Int}{fb:Bool}(h:BF F ((mD b 0 (fT b)).map fun x=>aUQ x k) (r,fb)):kX r=kX (LC F b k):=by
 unfold LC;rcases h with⟨_,h1,h2⟩|⟨_,_,h2⟩
 ·rw[h1];simp only at h2;rw[h2];rfl
 ·simp only at h2;rw[h2]
theorem CI{b:bA}{fine:Bool}(h:yV b fine=0):aV b=0∧fine=true:=by
 unfold yV at h;split at h
 ·rename_i hf;exact absurd h hf
 ·rename_i hf;split at h
  ·omega
  ·rename_i h2;exact⟨by simpa using hf,by simpa using h2⟩
theorem XF(F:Sc→Int)(bv:Value)(b:bA)(k:Nat)(fo:FuncId)(D:aC)(hb:gL D bv b)(hbo:aCV b)(hk:k≤b.lines.length)
  (hq:∀s D,s.ch.length=4→s.tk.length=4→Fn prog fo #[QL s] D (fun _ v=>v=qI (F s))):
  Fn prog 118 #[bv,qI (k:Int),.func (.func fo) #[] #[]] D (fun _ v=>v=kX (LC F b k)):=by
 have V:=hb;obtain⟨lv,cv,rfl,hl,hc⟩:=hb;have hch:=hbo.ch;have hK:=hbo.l8;refine GA 29 func118 rfl rfl rfl rfl (fun h0=>aA<|Zu rfl (fun q1 E1 hM Y=>Zu rfl (fun q2 E2 hN Z=>Zu rfl (fun q3 E3 hO hB=>Zx rfl nN rfl (fun q4=>aL<|Zx rfl nS rfl (fun q5=>Zo rfl lT (bR.head) rfl<|bJ<|Zq rfl fG rfl Y eK<|Zv rfl (fun D1 I=>QY _ b _ (V.up (I _ Ye)) hbo) (fun v1 D1 I hE=>?_)))))));refine aF<|Zar ?_;obtain⟨br,rfl,hit⟩:=hE;refine N0 (γ:=(Int×Int)×Bool) (xs:=mD b 0 (fT b)) (enc:=TN b.lines.length) (cells:=fS) (Dr:=D1) (fun pre g=>BF F (pre.map fun x=>aUQ x k) g) (fun _ _ _=>False) (fun g=>[(q5,qC [.bool g.2] 4),(q4,qC [qI g.1.1,qI g.1.2] 72)]) ((0,0),true) rfl rfl (fun _ k hk=>by cases hk) rfl hit Ye (fun _ vs h=>by obtain⟨_,rfl⟩:=h;rfl) rfl (aZE ⟨rfl,rfl,rfl⟩) rfl ?_ ?_ (fun _ _ _ _ h=>h.elim)
 ·rintro pre x ⟨r,fb⟩ ⟨us,hx⟩ hV l bd bo vs rec hh D7 hR ⟨blo,rfl⟩ hbo_ hst hpend;obtain⟨hxl,M,hpl⟩:=aBM hbo hx;have hsl:=aUR hbo_ hxl M Yd;obtain⟨u,hu⟩:=dV x k;have hau:aUQ x k=u:=aTZ hu;obtain⟨O,R⟩:=M u (LE hu);have U:=zW O R;refine aU<|Zg rfl<|Zah ?_;refine fun a w hhh=>B2 (A:=[(_,_),(_,_)]) (B:=[(bd,.deferred (some []))]) (r:=rec) (l:=l) Yax hst ?_ a w hhh
  simp only[bAW,aZU];refine Zar<|aS<|rK [] 3 7 30 (fun _ _ _ h=>h)<|Zj 0 rfl aPZ rfl hB rfl<|Za rfl<|Zj 0 rfl aJ rfl Z rfl<|Zw rfl U349 dT rfl hsl rfl hu (fun b1 o1 hF hH hJ hI=>?_);obtain rfl:hF=ints (pA _):=hH;refine dQ rfl jL rfl hI Yn (by rw[show(ints _).length=10 by simp[U]];exact dT) n3 rfl bDY<|Zc rfl (fun D2 hS=>hq u _ O R)<|Zg rfl<|bJ<|Zm rfl BW rfl Mm0 rfl<|aF<|aP rfl (fun G=>?_) (fun G=>?_)
  ·refine aU<|Za rfl<|Za rfl<|Zr [qI (F u),qI (F u)] rfl R8 nN rfl<|Zt rfl eG (.tail (bR.head))<|Zo rfl lT (bR.head) rfl<|aF<|aU<|Zy rfl mM rfl Mm1 eG<|Za rfl<|Zc rfl (fun D3 hX=>CE (_,_) _ _)<|Zt rfl eG (.tail (bR.head)) ?_;refine Zah<|Zat ?_;exact fun a w hh=>iN (A:=[(_,_),(_,_)]) (B:=[(bd,.deferred (some []))]) ((min (F u,F u).1 (F u),max (F u,F u).2 (F u)),false) (by simpa using hV.add hau (aZE ⟨G,rfl⟩)) rfl rfl a w hh
  ·obtain rfl:fb=false:=G;refine aT<|aU<|Zy rfl mM rfl Mm1 eG<|Za rfl<|Zc rfl (fun D4 hY=>CE (_,_) _ _)<|Zt rfl eG (.tail (bR.head))<|Zah<|Zat ?_;exact fun a w hh=>iN (A:=[(_,_),(_,_)]) (B:=[(bd,.deferred (some []))]) ((min r.1 (F u),max r.2 (F u)),false) (by simpa using hV.add hau (aYZ ⟨rfl,rfl⟩)) rfl rfl a w hh
 ·rintro⟨r,fb⟩ bd hV;refine Zat<|Zaq<|aA<|Zy rfl mM rfl Mm1 eG<|Zt rfl eG (.tail (bR.head))<|aG ?_;exact xG (vs:=[_]) (A:=[(_,_),(_,_)]) rfl rfl rfl ⟨⟨_,_,_,rfl,Mm1,aYZ ⟨mM,eG,rfl⟩⟩,bDY⟩ (fun D hD=>hV.all)
theorem PP(s:Sc)(D:aC)(h4:s.ch.length=4)(h5:s.tk.length=4):Fn prog 143 #[QL s] D (fun _ v=>v=qI s.mixed):=by
 refine Zs 5 func143 rfl (fun h0=>aA<|Zu rfl (fun q1 M I G=>Zg rfl<|aL<|Zh rfl T0 rfl<|dU (v:=qI s.mixed) rfl (k:=9) aJ rfl G Yc (cD (IU h4 h5)) n3 rfl bDY<|Zg rfl<|aG ?_));exact aE rfl (fun D hD=>rfl)
theorem R5(bv:Value)(b:bA)(k:Int)(D:aC)(hb:gL D bv b):Fn prog 49 #[bv,qI k] D (fun _ v=>v=.tuple #[kX (if yV b (C1.gW k 0 (b.lines.length:Int))=0 then LC (fun s=>s.money) b k.toNat else(0,0)),qI (yV b (C1.gW k 0 (b.lines.length:Int)))]):=by
 have M:=hb;obtain⟨lv,cv,rfl,hl,hc⟩:=hb;have hll:=hl.len;refine Zs 21 func49 rfl (fun h0=>aA<|Zu rfl (fun q1 E1 Y G=>Zx rfl nN rfl (fun q2=>Zg rfl<|bT<|aS<|bW [] 4 8 62<|Zq rfl fG rfl G eK<|Za rfl<|Zh rfl cE rfl<|Zj 3 rfl fA rfl G rfl ?_)));refine Zab rfl U33 rfl hl rfl<|Zc rfl (fun D1 Z=>kH _ _ _ _)<|Zc rfl (fun D2 R=>CV _ b (C1.gW k 0 (b.lines.length:Int)) _ (M.up (R _ Ye)))<|Zg rfl<|aL<|Za rfl<|Zak rfl<|aF<|Zz rfl (fun O=>?_) (fun O=>?_)
 ·refine aA<|Zr [qI 0,qI 0] rfl R8 nN rfl<|Za rfl<|Zt rfl eG (bR.head)<|Zg rfl<|aG<|Zap ?_;exact cS (vs:=[_,_]) rfl rfl rfl ⟨⟨_,_,_,rfl,Mm0,aYZ ⟨mM,(by first|exact eG|(simp only[aZV,aO, *];exact eG)),rfl⟩⟩,rfl,bDY⟩ (fun D hD=>by show Value.tuple _=_;rw[aZB O];rfl)
 ·have I:yV b (C1.gW k 0 (b.lines.length:Int))=0:=by omega
  obtain⟨U,hfi⟩:=CI I;have hbo:=aWY U;rw[C1.bX]at hfi;obtain⟨n,rfl⟩:∃n:Nat,k=(n:Int):=⟨k.toNat,by omega⟩
  refine aT<|aA<|Zq rfl fG rfl G eK<|Za rfl<|Zc rfl (fun D3 V=>XF (fun s=>s.money) _ b n 119 _ (M.up (V _ Ye)) hbo Yd (fun s D h4 h5=>OU s D h4 h5))<|Zt rfl eG (bR.head)<|Zg rfl<|aG ?_;exact cS (vs:=[_,_]) rfl rfl rfl ⟨⟨_,_,_,rfl,Mm0,aYZ ⟨mM,(by first|exact eG|(simp only[aZV,aO, *];exact eG)),rfl⟩⟩,rfl,bDY⟩ (fun D hD=>by show Value.tuple _=_;rw[aZK I,I];rfl)
theorem aEG(bv:Value)(b:bA)(D:aC)(hb:gL D bv b):Fn prog 70 #[bv] D (fun _ v=>v=.tuple #[kX (if yV b (true)=0 then LC (fun s=>s.mixed) b b.lines.length else(0,0)),qI (yV b (true))]):=by
 have M:=hb;obtain⟨lv,cv,rfl,hl,hc⟩:=hb;have hll:=hl.len;refine Zs 16 func70 rfl (fun h0=>aA<|Zu rfl (fun q1 Z Y G=>Zx rfl nN rfl (fun q2=>Zg rfl<|bJ<|Zq rfl fG rfl G eK<|Zc rfl (fun D1 R=>CV _ b (true) _ (M.up (R _ Ye)))<|Zg rfl<|aL<|Za rfl<|Zak rfl ?_)));refine aF<|Zz rfl (fun O=>?_) (fun O=>?_)
 ·refine aA<|Zr [qI 0,qI 0] rfl R8 nN rfl<|Za rfl<|Zt rfl eG (bR.head)<|Zg rfl<|aG<|Zap ?_;exact cS (vs:=[_,_]) rfl rfl rfl ⟨⟨_,_,_,rfl,Mm0,aYZ ⟨mM,(by first|exact eG|(simp only[aZV,aO, *];exact eG)),rfl⟩⟩,rfl,bDY⟩ (fun D hD=>by show Value.tuple _=_;rw[aZB O];rfl)
 ·have I:yV b (true)=0:=by omega
  obtain⟨U,hfi⟩:=CI I;have hbo:=aWY U;refine aT<|aA<|Zq rfl fG rfl G eK<|Zh rfl cE rfl<|Zj 3 rfl fA rfl G rfl<|Zab rfl U33 rfl hl rfl<|Zc rfl (fun D2 V=>XF (fun s=>s.mixed) _ b b.lines.length 143 _ (M.up (V _ Ye)) hbo Yd (fun s D h4 h5=>PP s D h4 h5))<|Zt rfl eG (bR.head)<|Zg rfl<|aG ?_;exact cS (vs:=[_,_]) rfl rfl rfl ⟨⟨_,_,_,rfl,Mm0,aYZ ⟨mM,(by first|exact eG|(simp only[aZV,aO, *];exact eG)),rfl⟩⟩,rfl,bDY⟩ (fun D hD=>by show Value.tuple _=_;rw[aZK I,I];rfl)
end L3
namespace L7
open C7
def iC(bh bc bo bY br n:Nat)(c:List Int):aD:=[(bh,qC [.func (.func 245) #[] #[qP bc,qP bY,qP br,qP bh]] 182),(bc,qC [qS bo n n] 303),(bo,qC (ints c) 210)]
theorem sP{c pre:List Int}{i:Nat}{k:Int}(h:c.take (i+1)=pre++[k])(hl:pre.length=i):c.take i=pre:=by
 have:=aYY (List.take i) h;rw[List.take_take,bCW (Nat.le_succ i)]at this;rw[this,bAB Yd,aZP Yd]
def aTW(n bo:Nat):List Value:=[qS bo n n]
def aHP(n bo:Nat)(vs:List Value):Prop:=vs=aTW n bo
def aMC(P:Program)(Dr:aC)(lo l n:Nat)(J Jx:List (List Int)→tL)(xs:List (List Int)):Prop:=∀pre x β D w bo,(∃r,xs=pre++x::r)→zF lo D w→J pre β D w→(∀b∈β,b<w.heap.size)→Le Dr D→DM β D w bo (ints x)→
    iM P l (aTW n bo) w fun b D' w'=>zF lo D' w'∧zK β D w D' w'∧(if b then J (pre++[x]) β D' w' else Jx (pre++[x]) β D' w')
def Q5(J Jx:List (List Int)→tL)(bh bc bo bY br n:Nat)(places:List Int)(pre:List Int)(i:Nat)(done:List (List Int))(v:Value)(J':tL)(μ':aD):Prop:=
 ∃b c',v=.bool b∧c'.length=3*n∧c'.take i=pre∧μ'=iC bh bc bo bY br n c'∧(if b=true then J'=J (done++(C1.cT (places.drop i)).map fun t=>pre++t)else ∃p,J'=Jx p)
def TL(p:Int)(ps pre:List Int)(k:Nat):List (List Int):=(List.range k).flatMap fun(m:Nat)=>if p=2∨p=(m:Int)then(C1.cT ps).map (fun t=>pre++(m:Int)::t)else []
theorem aGK{p:Int}{ps pre:List Int}:TL p ps pre 0=[]:=rfl
theorem aUE{p:Int}{ps pre:List Int}{k:Nat}(h:¬(p=2∨p=(k:Int))):TL p ps pre (k+1)=TL p ps pre k:=by
 unfold TL;rw[bAS,aZS,bAJ,aZB h,aZA]
theorem XC{p:Int}{ps pre:List Int}{k:Nat}(h:p=2∨p=(k:Int)):TL p ps pre (k+1)=TL p ps pre k++(C1.cT ps).map (fun t=>(pre++[(k:Int)])++t):=by
 unfold TL;rw[bAS,aZS,bAJ,aZK h];simp
theorem WB{p:Int}{ps pre:List Int}:TL p ps pre 2=(C1.cT (p::ps)).map (fun t=>pre++t):=by
 rw[show C1.cT (p::ps)=(if p=2∨p=0 then(C1.cT ps).map (0:: ·)else [])++(if p=2∨p=1 then(C1.cT ps).map (1:: ·)else [])from rfl];unfold TL;rw[show List.range 2=[0,1]from rfl,bAC,bAC,List.flatMap_nil,aZA,aZH];congr 1
 ·by_cases h:p=2∨p=0
  ·rw[aZK h,aZK Yao];simp
  ·rw[aZB h,aZB Yao];rfl
 ·by_cases h:p=2∨p=1
  ·rw[aZK h,aZK Yao];simp
  ·rw[aZB h,aZB Yao];rfl
theorem aJX{p:Int}{ps pre:List Int}{k:Nat}(hk:k<2):∃r,TL p ps pre 2=TL p ps pre (k+1)++r:=by
 have e:k=0∨k=1:=by omega
 rcases e with rfl|rfl
 ·refine⟨[1].flatMap fun(m:Nat)=>if p=2∨p=(m:Int)then(C1.cT ps).map (fun t=>pre++(m:Int)::t)else [],?_⟩;unfold TL;rw[show List.range 2=[0]++[1]from rfl,aZS];rfl
 ·exact⟨[],by simp⟩
theorem aII{c pre:List Int}{i:Nat}{k:Int}(hi:i<c.length)(h:c.take i=pre):(c.set i k).take (i+1)=pre++[k]:=by
 rw[aZG,List.getElem?_set_self hi,bAR,List.take_set_of_le (aZL _),h]
theorem YU{l:List Ch}{i:Nat}{p:Int}(h:(jG l)[i]?= some p):∃x,l[i / 3]?= some x∧x.parts.l[i%3]?= some p:=by
 induction l generalizing i with
 |nil=>simp[jG]at h
 |cons c l ih=>
  rw[show jG (c::l)=c.parts.a::c.parts.b::c.parts.c::jG l from rfl]at h;match i with
  |0=>exact⟨c,rfl,by simpa [Pt.l]using h⟩
  |1=>exact⟨c,rfl,by simpa [Pt.l]using h⟩
  |2=>exact⟨c,rfl,by simpa [Pt.l]using h⟩
  |j+3=>
   obtain⟨x,h1,h2⟩:=ih (i:=j) Yao;exact⟨x,by rw[show(j+3) / 3=j / 3+1 by omega];simpa using h1,by rw[show(j+3)%3=j%3 by omega];exact h2⟩
theorem K0{bh bc bo bY br n:Nat}{c:List Int}:(bo,Obj.cells (ints c).toArray 210 (0,0))∈iC bh bc bo bY br n c:=aZJ _ Mm1
theorem aXI(i:Nat):0+((i:Int) / 3).toNat*3+((i:Int)%3).toNat*1=i:=by omega
theorem wE{lo l:Nat}{J Jx:List (List Int)→tL}{y:bC}{xs:List (List Int)}{Dr Dy:aC}{Ds:List aC}{bh bc bo bY br:Nat}{cv qv:Value}(hK:y.chairs.length≤7)
  (hs:∀pre,I8 lo (J pre)) (hsx:∀pre,I8 lo (Jx pre)) (hY:aMC prog Dr lo l y.chairs.length J Jx xs) (hDr:Dr∈Ds) (hDy:Dy∈Ds) (hA:At Dr br 0 [cv,qI y.fit,qv]) (hc:Sl Dr wZ 4 cv y.chairs) (hB:At Dy bY 0 [.func (.yield l) #[] #[]]):
  ∀(j i:Nat) (pre c:List Int) (done rest:List (List Int)) (iv:Int),iv=i→i+j=3*y.chairs.length→pre.length=i→c.length=3*y.chairs.length→c.take i=pre→
   xs=done++(C1.cT ((jG y.chairs).drop i)).map (fun t=>pre++t)++rest→
   aWF prog 245 [qI iv,qP bc,qP bY,qP br,qP bh] lo (J done) (iC bh bc bo bY br y.chairs.length c) Ds (Q5 J Jx bh bc bo bY br y.chairs.length (jG y.chairs) pre i done):=by
 intro j;induction j using Nat.strongRecOn with
 |_ j ih=>
 intro i pre c done rest iv hiv hij hl h9 hp hxs;subst hiv;have hmx:=hc.len;have hfl:=oY y.chairs;refine H7 (μ:=iC bh bc bo bY br y.chairs.length c) 52 func245 rfl rfl rfl rfl<|aA<|Zg rfl<|aL<|Za rfl<|KO rfl rfl rfl Yd Yd Yf rfl bDY<|Za rfl<|G1 rfl rfl rfl Yd Yd Yf rfl bDY<|Zg rfl<|Zg rfl<|bJ<|Za rfl ?_;refine Zm rfl FT rfl Mm1 rfl<|kW rfl U303 rfl rfl rfl bDY<|Zam rfl<|aF<|Zz rfl (fun R=>?_) (fun R=>?_)
 ·have hin:i=3*y.chairs.length:=by omega
  subst hin;have hleaf:c=pre:=by rw[←hp,aZP Yd]
  rw[←hfl,List.drop_length]at hxs;simp only[C1.cT,aZR,bCT,aZA]at hxs;rw[←hleaf,aZD,bCK]at hxs;refine aA<|Zj 0 rfl aPN rfl hB rfl<|Zm rfl FT rfl Mm1 rfl<|ED (l:=l) (J1:=J (done++[c])) (J0:=Jx (done++[c])) rfl rfl rfl rfl (hs _) (hsx _) (fun D w hd hJ hb hl=>hY done c _ D w bo ⟨rest,hxs⟩ hd hJ (fun b hbm=>by obtain⟨p,hp,rfl⟩:=GT.1 hbm;exact bH (hb p hp).1) (hl _ hDr) ⟨GT.2 ⟨_,K0,rfl⟩,(hb _ K0).2,_,_,(hb _ K0).1⟩) rfl bDY (fun U J1 V=>Zg rfl<|aG<|Zap ?_)
  exact lO (P:=prog) (fn:=f245) (N:=52) (vs:=[_]) rfl rfl ⟨rfl,bDY⟩ (fun D h=>⟨D,h,Le.refl D⟩) ⟨U,c,rfl,h9,hp,rfl,by cases U<;>simp only[V,bAX,bAE,bBH];exact⟨_,rfl⟩;rw[←hfl,List.drop_length];simp[C1.cT,hleaf]⟩
 ·have hin:i<(jG y.chairs).length:=by omega
  obtain⟨p,hpi⟩:=dV (jG y.chairs) i;obtain⟨x,Y,hm⟩:=YU hpi;have hx:y.chairs[((i:Int) / 3).toNat]?= some x:=by rw[show((i:Int) / 3).toNat=i / 3 by omega];exact Y
  have hd:(jG y.chairs).drop i=p::(jG y.chairs).drop (i+1):=by rw[bAM hin];congr 1;exact aZO ((aYU hin).symm.trans hpi)
  rw[hd,←WB]at hxs;refine aT<|eH<|Za rfl<|aF<|Zar<|a7 (γ:=Nat×List Int) (fun g=>2-g.1) (fun g=>g.1≤2∧g.2.length=3*y.chairs.length∧g.2.take i=pre) (fun g=>J (done++TL p ((jG y.chairs).drop (i+1)) pre g.1)) (fun g=>[(22,qI (g.1:Int))]) [(8,_),(7,_),(6,_),(0,_),(1,_),(3,_),(4,_)] (fun g=>iC bh bc bo bY br y.chairs.length g.2) (fun g=>Ds) (0,c) ⟨by simp,h9,hp⟩ (by simp[aGK]) ⟨Yb,bDY⟩ cQ Mm5 (aH) ?_;rintro⟨k,c1⟩ ⟨Z,G,I⟩;simp only at Z G I;refine aA<|Zai rfl<|bT<|Zz rfl (fun hc2=>?_) (fun hc2=>?_)
  ·refine aT<|aS<|Zar<|aA<|Za rfl<|Zg rfl<|aL<|Zh rfl eO rfl<|Zj 0 rfl jE rfl hA rfl<|Za rfl<|Za rfl<|Zw rfl U37 iQ rfl hc rfl hx (fun U o1 hD hE hI hF=>?_);obtain rfl:hD=[qI _,qI _,qI _,qI _]:=hE;refine Zh rfl A0 rfl<|fC rfl U210 aM rfl rfl Yd Yd rfl bDY<|dU (o:=_+1) (k:=((i:Int)%3).toNat*1) rfl aJ rfl hF.tail Yn (by rw[show((i:Int)%3).toNat=i%3 by omega];exact aUV hm) n3 rfl bDY<|Zg rfl<|aL<|Za rfl<|Zam rfl<|Za rfl ?_
   refine' cR 4 (s:=35) (p:=39) rfl (fun hH=>?_) (fun hH=>?_) ?_;rotate_left
   ·refine Zb rfl<|Zb rfl<|sJ rfl rfl rfl rfl ⟨_,rfl,rfl⟩<|Zae rfl ?_;exact aQ 3
   ·refine Zf rfl<|Zf rfl<|Zf rfl<|Zad rfl ?_;exact aQ 3
   refine aF<|aP rfl (fun M=>?_) (fun M=>?_)
   ·have hpk:p=2∨p=(k:Int):=by simpa using M
    obtain⟨rr,hr⟩:=aJX (p:=p) (ps:=(jG y.chairs).drop (i+1)) (pre:=pre) (k:=k) Yd;refine aA<|Zm rfl FT rfl Mm1 rfl<|Za rfl<|Za rfl<|Za rfl<|gO rfl U303 mA rfl rfl Yd Yd rfl bDY<|fC rfl U210 aM rfl rfl Yd Yd rfl bDY<|vI (k:=i) rfl aM (by show some (Value.pointer (some ⟨bo,0+((i:Int) / 3).toNat*3+((i:Int)%3).toNat*1,none⟩))=_;rw[aXI]) rfl (.tail (.tail bR.head)) Ym bDY<|aL<|Zm rfl oV rfl Mm0 rfl<|Za rfl<|Zaa rfl ?_;refine tY rfl rfl rfl rfl (ih (j-1) Yd (i+1) (pre++[(k:Int)]) (c1.set i k) (done++TL p ((jG y.chairs).drop (i+1)) pre k) (rr++rest) (i+1:Int) Yd Yd Yaj (by simpa using G) (aII Yd I) (by rw[hxs,hr,XC hpk];simp)) rfl bDY ?_
    rintro _ J2 _ ⟨b2,c2,rfl,h9',hp',rfl,hJ2⟩;refine Zal rfl<|aF<|aP rfl (fun O=>?_) (fun O=>?_)
    ·obtain rfl:b2=false:=by simpa using O
     refine aA<|Zg rfl<|aG<|Zau<|Zap<|Zap<|Zau<|Zap ?_;exact lO (P:=prog) (fn:=f245) (N:=52) (vs:=[_]) rfl rfl ⟨rfl,bDY⟩ (fun D h=>⟨D,h,Le.refl D⟩) ⟨false,c2,rfl,h9',sP hp' hl,rfl,by simpa using hJ2⟩
    ·obtain rfl:b2=true:=by simpa using O
     refine bM<|Zat<|Zaq<|aU<|Zaa rfl<|Za rfl<|Zah ?_;exact tG 30 (k+1,c2) ⟨by simp only;omega,h9',sP hp' hl⟩ Ym (by simpa only[bAX,XC hpk,aZD]using hJ2) ⟨Yb,bDY⟩ rfl rfl Mm5 (aH)
   ·have hpk:¬(p=2∨p=(k:Int)):=by simpa using M
    refine bM<|Zat<|Zaq<|aU<|Zaa rfl<|Za rfl<|Zah ?_;exact tG 19 (k+1,c1) ⟨by simp only;omega,G,I⟩ Ym (by rw[aUE hpk]) ⟨Yb,bDY⟩ rfl rfl Mm5 (aH)
  ·refine aW<|Zas<|Zas<|Zav<|Zaq<|aA<|Zg rfl<|aG ?_;exact lO (P:=prog) (fn:=f245) (N:=52) (vs:=[_]) rfl rfl ⟨rfl,bDY⟩ (fun D h=>⟨D,h,Le.refl D⟩) ⟨true,c1,rfl,G,I,rfl,by simp only[bAX];rw[hd,←WB,show k=2 by omega]⟩
theorem H4(y:bC)(Dr:aC)(br:Nat)(cv qv:Value)(G:y.chairs.length≤7)(hA:At Dr br 0 [cv,qI y.fit,qv])(hc:Sl Dr wZ 4 cv y.chairs):
  BZ prog 244 [qP br] Dr (C1.cT (jG y.chairs)) (aHP y.chairs.length) ints:=by
 refine s9 12 func244 rfl rfl rfl rfl (fun lo l J Jx hs hsx hY=>aA<|Zu rfl (fun q1 R M I=>aL<|Zh rfl eO rfl<|Zj 0 rfl jE rfl hA rfl<|Zab rfl U37 rfl hc rfl<|rI rfl U303 mA Q4 rfl aPP rfl rfl Yd (G9 Ye rfl) rfl bDY (fun bo=>Zx rfl aQN rfl (fun q2=>Zo rfl aRF (bR.head) rfl<|aL<|Zx rfl d4 rfl (fun U=>?_)))));refine aL<|Zao rfl<|Zo rfl g7 (bR.head) rfl<|aF<|aU<|Zm rfl oV rfl Mm0 rfl<|tY rfl rfl rfl rfl (wE (l:=l) G hs hsx (fun pre x β D w bo h1 h2 h3 h4 h5 O=>hY pre x β D w bo _ h1 h2 h3 h4 h5 rfl O) Ye Ye hA hc I (3*y.chairs.length) 0 [] (List.replicate (y.chairs.length*3) 0) [] [] 0 rfl Yd rfl Yaj rfl Ye) rfl bDY ?_;rintro _ V _ ⟨b2,c2,rfl,h9',hp',rfl,hJ2⟩;refine Zah ?_;exact lO (P:=prog) (fn:=f244) (N:=12) (vs:=[]) rfl rfl bDY (fun D h=>⟨D,by simp only[aZM]at h;subst h;simp,Le.refl D⟩) Ya0
theorem B0(yv:Value)(y:bC)(D:aC)(hy:nM D yv y)(G:y.chairs.length≤7):
  Fn prog 173 #[yv] D (fun D' v=>∃br,v=.func (.func 244) #[] #[qP br]∧BZ prog 244 [qP br] D' (C1.cT (jG y.chairs)) (aHP y.chairs.length) ints):=by
 obtain⟨cv,qv,rfl,hc,hq⟩:=hy;refine Zs 4 func173 rfl (fun h0=>aA<|Zu rfl (fun q1 O M I=>Zg rfl<|aL<|Zao rfl<|Zg rfl<|aG ?_));exact aE rfl (fun D hD=>⟨_,rfl,H4 y _ q1 cv qv G (I.up (hD _ Ye)) (hc.up wZ.up (hD _ Ye))⟩)
end L7
end Go.Fs
