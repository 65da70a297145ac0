/- Of the proof of BookWider: BW25, Eq8, BW26, BW28, Lit, BW29, BW30, BW31, Eq9, BW32, BW33, BW34, BW35, BW36, BW38, Need, Laws, BW39, BW40, BW37. -/
import Derived.Test.YtdjdcpieiedfgaaGreatDoorZBookWiderAM
import Derived.Test.YtdjdcpieiedfgaaGreatDoorZBookWiderAE
import Derived.Test.YtdjdcpieiedfgaaGreatDoorZBookWiderAC
namespace Go.Fs
open Go.Proofs Tryz
namespace L12
open C12 Go.Lib
theorem j0(s:ByteArray):s.data.toList.length=s.size:=rfl
def gG(ls:List ByteArray):List (List UInt8):=ls.map fun x=>x.data.toList
theorem PL{ls:List ByteArray}{k:Nat}{x:ByteArray}(h:ls[k]?= some x):(gG ls)[k]?= some x.data.toList:=by unfold gG;rw[aZT,h];rfl
theorem BH{ls:List ByteArray}(k:Nat)(hn:ls.length≤1000)(hsz:∀l∈ls,l.size≤1000):(xS ((gG ls).take k)).length≤1009000:=by
 have h:=O1 ((gG ls).take k) 0 1000 (fun l hl=>by
  obtain⟨x,hx,rfl⟩:=GT.1 (bDU hl);exact hsz x hx)
 have h2:((gG ls).take k).length≤1000:=by rw[bBI];unfold gG;rw[bAY];omega
 have h3:(9+1000)*((gG ls).take k).length≤1009*1000:=Nat.mul_le_mul_left _ h2;unfold xS;omega
section
variable{P:Program}{X:Cx}{γb:Type}[Membership Nat γb]{bad:γb}{all:Array Oper}{K:Act→World→Prop}{Q:Exit→Act→World→Prop}{σ:bO}{μ:aD}{Ds:List aC}{os:List (Bool×Nat)}
theorem I2{b:Nat}{e:TypeId}{fz:Nat×Nat}{cs cs':List Value}(h:cs=cs')(k:WL P X bad all K Q os σ ((b,.cells cs'.toArray e fz)::μ) Ds):WL P X bad all K Q os σ ((b,.cells cs.toArray e fz)::μ) Ds:=h▸k
end
theorem aCQ(i:Nat)(s:ByteArray)(hi:i≤100000)(hs:s.size≤1000)(D:aC):Fn prog 194 #[qI (i:Int),.string s] D (fun D' v=>Sl D' RU 1 v (uH i s.data.toList)):=by
 refine Zs 53 func194 rfl (fun h0=>aA<|Zg rfl<|aL<|Za rfl<|Za rfl<|Zc rfl (fun R I=>aAU i s hi hs _)<|Za rfl<|iZ rfl U9 rfl rfl rfl bDY<|Zc rfl (fun U M=>XE s.size Yd _)<|Zx rfl HW rfl (fun q1=>Zx rfl WX rfl (fun q2=>?_)));refine bD rfl rfl rfl rfl d8 Ya Ya (.tail (bR.head)) (kT (aDR i s.data.toList)) bDY<|bD rfl rfl rfl rfl wN Ya Ya (bR.head) (kT (xP s.size)) bDY<|aL<|Za rfl<|iZ rfl U9 rfl rfl rfl bDY<|Zaa rfl<|Zaa rfl<|rI (n:=s.size+9) rfl U99 kM JA rfl aJQ Yb Yb Yd (aGZ _) rfl bDY (fun bo=>I2 (cs':=[]++rz 2++rz (s.size+7)) (by first|(rw[aZU,←m3];done)|(rw[aZU,←m3];congr 1;omega))<|Zg rfl<|aL<|Za rfl ?_);refine aCM (l:=2) rfl U414 kM rfl rfl rfl Yd rfl bDY<|DG (us:=bc [wG s.size 1,wG s.size 0]) rfl U99 rfl kM rfl rfl Yd Mm1 rfl rfl .head (by simp[H6]<;>omega) (aAL rfl rfl) (kT _) (aZE rfl) rfl bDY<|I2 (cs':=bc [wG s.size 1,wG s.size 0]++rz 1++rz (s.size+6)) (by first|(rw[aZU,aZD,←m3];done)|(rw[aZU,aZD,←m3];congr 2;omega))<|aL<|Za rfl<|Zh rfl U6 rfl<|eM rfl U412 kM rfl rfl Yd Yd rfl bDY<|Zm rfl aGG rfl Mm2 rfl<|gO rfl U99 kM rfl rfl Yd Yd rfl bDY<|bG (ws:=bc [wG s.size 1,wG s.size 0]++bc [59]++rz (s.size+6)) rfl rfl rfl rfl kM .head (by simp[lQ,H6]<;>omega) (aAL (by simp[lQ]<;>omega) rfl) (kT [59]) bDY<|I2 (cs':=bc [wG s.size 1,wG s.size 0,59]++rz s.size++rz 6) (by rw[m3,←aZD];rfl)<|aL ?_;refine Za rfl<|aJD (j:=3) rfl U99 kM rfl rfl Yd Yd rfl bDY<|Za rfl<|aCY (ws:=bc [wG s.size 1,wG s.size 0,59]++bc s.data.toList++rz 6) rfl U99 rfl kM rfl rfl Yd .head (by simp[lQ,H6]<;>omega) (aAL rfl (by rw[lQ,H6];rfl)) (aZE rfl) rfl bDY<|I2 (cs':=(bc [wG s.size 1,wG s.size 0,59]++bc s.data.toList)++rz 1++rz 5) (by rw[aZD _ (rz 1)];rfl)<|aL<|Za rfl<|Za rfl<|iZ rfl U9 rfl rfl rfl bDY<|Zaa rfl<|aJD (j:=3+s.size) rfl U99 kM rfl Yb Yd Yd rfl bDY<|Zg rfl ?_;refine aL<|Za rfl<|Zh rfl U6 rfl<|eM rfl U412 kM rfl rfl Yd Yd rfl bDY<|Zm rfl aGG rfl Mm2 rfl<|gO rfl U99 kM rfl rfl Yd Yd rfl bDY<|bG (ws:=(bc [wG s.size 1,wG s.size 0,59]++bc s.data.toList)++bc [59]++rz 5) rfl rfl rfl rfl kM .head (by simp[lQ,H6]<;>omega) (aAL (by simp[lQ]<;>omega) rfl) (kT [59]) bDY<|I2 (cs':=(bc [wG s.size 1,wG s.size 0,59]++bc s.data.toList++bc [59])++rz 4++rz 1) (by rw[aZD _ (rz 4)];rfl)<|bT<|bW [] 2 5 12<|Za rfl<|aJD (j:=1) rfl U99 kM rfl rfl Yd Yd rfl bDY ?_;refine Zh rfl aAQ rfl<|ZF rfl U414 kM rfl rfl rfl bDY<|DG (us:=bc (xP (pW i s.data.toList))) (ws:=(bc [wG s.size 1,wG s.size 0,59]++bc s.data.toList++bc [59])++bc (xP (pW i s.data.toList))++rz 1) rfl U99 rfl kM rfl rfl Yd Mm2 rfl rfl .head (by simp[lQ,H6]<;>omega) (aAL (by simp[lQ]<;>omega) rfl) (kT _) (aZE rfl) rfl bDY<|I2 (cs':=(bc [wG s.size 1,wG s.size 0,59]++bc s.data.toList++bc [59]++bc (xP (pW i s.data.toList)))++rz 1++[]) (by rw[aZA])<|aL<|Za rfl<|Zh rfl U6 rfl<|eM rfl U412 kM rfl rfl Yd Yd rfl bDY<|Zm rfl aGG rfl Mm2 rfl<|gO rfl U99 kM rfl rfl Yd Yd rfl bDY<|bG (ws:=(bc [wG s.size 1,wG s.size 0,59]++bc s.data.toList++bc [59]++bc (xP (pW i s.data.toList)))++bc [10]++[]) rfl rfl rfl rfl kM .head (by simp[lQ,H6,xP]<;>omega) (aAL (by simp[lQ,xP]<;>omega) rfl) (kT [10]) bDY<|I2 (cs':=bc (uH i s.data.toList)) (by rw[aZA,←sE,←sE,←sE,←sE];rfl) ?_;refine aL<|Za rfl<|Zg rfl<|aG ?_;have ha:bS 5 1 (qS bo (s.size+9) (s.size+9)) (s.size+9) (bc (uH i s.data.toList)) [(bo,qC (bc (uH i s.data.toList)) 5)]:=aYZ ⟨bo,s.size+9,[],rfl,aZL _,by rw[aZA],by rw[lQ,qM,j0];omega,by rw[aZA,lQ,qM,j0];omega⟩
 refine gC (A:=[]) (B:=[(_,_),(_,_)]) ha rfl (fun V O G=>?_);exact aE rfl (fun D hD=>(G.bytes (by rw[qM,j0];omega) Yd).up RU.up (hD _ Ye))
theorem aLF(lv:Value)(ls:List ByteArray)(D:aC)(hS:Sl D RS 1 lv ls)(hn:ls.length≤1000)(hsz:∀l∈ls,l.size≤1000):Fn prog 97 #[lv] D (fun D' v=>Sl D' RU 1 v (xS (gG ls))):=by
 have hfl:=fun k=>BH (ls:=ls) k hn hsz
 refine Zs 19 func97 rfl (fun h0=>aA<|Zg rfl<|bJ<|Za rfl<|cZ rfl U22 rfl Yl rfl rfl bDY<|Za rfl<|aF<|Zar<|dD (γ:=Nat×Value×aD) (fun g=>ls.length-g.1) (fun g=>g.1≤ls.length∧bS 5 1 g.2.1 (xS ((gG ls).take g.1)).length (bc (xS ((gG ls).take g.1))) g.2.2) (fun g=>[(7,qI (g.1:Int)),(2,g.2.1)]) [(6,_),(5,_)] (fun g=>g.2.2++[]) (fun g=>[D]) (0,qN,[]) ⟨by simp,by simpa [xS,jP,bc]using bS.nil⟩ ⟨Yb,Yb,bDY⟩ cQ Mm5 (aH) ?_);rintro⟨k,v,ν⟩ ⟨h1,ha⟩;simp only at h1 ha;have hflk:=hfl k;refine aA<|Zai rfl<|bT<|Zz rfl (fun G=>?_) (fun G=>?_)
 ·simp only at G;have hlt:k<ls.length:=by omega
  obtain⟨x,hx⟩:=dV ls k;have hxs:=hsz x (LE hx);refine aT<|aS<|Zar<|aA<|Za rfl<|Zw rfl U22 iY rfl hS rfl hx (fun b1 o1 I M hB O=>?_);obtain rfl:I=[.string _]:=M;refine Zj 0 rfl xR rfl O rfl<|Zg rfl<|Zg rfl<|aF<|aU<|Za rfl<|Za rfl<|Za rfl<|Zv rfl (fun D1 R=>aCQ k x Yd (hsz x (LE hx)) _) (fun v1 D1 R U=>bB (A:=[]) (B:=[]) rfl U99 rfl rfl kM JA rfl aJQ rfl rfl rfl ha (mI.bytes U) Ye (by rw[lQ,bBQ]) (by rw[lQ,bBQ]) (kT _) (by rw[qM,j0];omega) (aZE rfl) rfl bDY (fun v1 ν1 V=>?_))
  have Y:bS 5 1 v1 (xS ((gG ls).take (k+1))).length (bc (xS ((gG ls).take (k+1)))) ν1:=by rw[SE (PL hx),aYS,sE];exact V
  refine aI (ν1++[]) rfl<|Zg rfl<|Zah<|Zat<|Zaq<|aU<|Zaa rfl<|Za rfl<|Zah ?_;exact aK 16 (k+1,v1,ν1) ⟨by simp only;omega,Y⟩ Ym ⟨Yb,Yb,bDY⟩ rfl rfl Mm5 (fun D h=>⟨D,aZJ _ (h),Le.refl D⟩)
 ·obtain rfl:k=ls.length:=by simp only at G;omega
  rw[show(gG ls).take ls.length=(gG ls)from aZP (by simp[gG])]at ha hflk;refine aW<|Zas<|Zas<|Zav<|Zaq<|aA<|Za rfl<|Zg rfl<|aG<|gC (A:=[]) (B:=[]) ha rfl (fun D9 hE Z=>?_);exact aE rfl (fun D hD=>(Z.bytes rfl Yd).up RU.up (hD _ Ye))
theorem aIV(lv:Value)(ls:List ByteArray)(D:aC)(hS:Sl D RS 1 lv ls):Fn prog 36 #[lv] D (fun D' v=>∃v1,v=.tuple #[v1,qI (eR ls)]∧Sl D' RU 1 v1 (if eR ls=0 then xS (gG ls)else [])):=by
 refine Zs 12 func36 rfl (fun h0=>aA<|Zg rfl<|Zg rfl<|bJ<|Za rfl<|Zc rfl (fun U M=>vL _ ls _ (hS.up RS.up (M _ Ye)))<|Zg rfl<|aL<|Za rfl<|Zak rfl<|aF ?_);refine Zz rfl (fun G=>?_) (fun G=>?_)
 ·have hf:eR ls≠0:=by simpa using G
  refine aA<|Za rfl<|Zg rfl<|Zg rfl<|aG<|Zap ?_;exact cS (vs:=[_,_]) rfl rfl rfl cQ (fun D hD=>⟨_,rfl,by rw[aZB hf];exact Sl.nil⟩)
 ·have hf:eR ls=0:=by simpa using G
  refine aT<|aA<|Za rfl<|Zv rfl (fun R I=>aLF _ ls _ (hS.up RS.up (I _ Ye)) (by have:=S0 hf;omega) (fun l hl=>by have:=l3 hf l hl;omega)) (fun v2 R I O=>Zg rfl<|Zg rfl<|aG ?_);exact cS (vs:=[_,_]) rfl rfl rfl cQ (fun D hD=>⟨_,by rw[hf];rfl,by rw[aZK hf];exact O.up RU.up (hD _ Ye)⟩)
end L12
variable{P:Program}{X:Cx}{γb:Type}[Membership Nat γb]{bad:γb}{all:Array Oper}{K:Act→World→Prop}{Q:Exit→Act→World→Prop}
variable{σ:bO}{μ:aD}{Ds:List aC}{os:List (Bool×Nat)}{fl:Bool}{ix:Nat}
variable{d:Nat}{x y z:Operand}{u v:Value}{ty:TypeId}{pos:String}{aft:Array Edge}{g:Option (Nat×Bool)}
open Go.Proofs
namespace L12
open C12 Go.Lib
theorem getD_some{l:List UInt8}{k:Nat}(h:k<l.length):l[k]?= some (l.getD k 0):=by simp[List.getD,aYU h]
section
variable{i n:Nat}{bs:List UInt8}{f0 f1 f2 f3:UInt8}
end
end L12
namespace L12
open C12 Go.Lib
theorem tf_z9:TZ prog 9 (.string ⟨#[]⟩):=TZ.of Yg
section
variable{P:Program}{X:Cx}{Q:Exit→Act→World→Prop}{σ:bO}{μ:aD}{Ds:List aC}
theorem iX{c:Operand}{x y:Code}{b:Bool}(hc:ev σ c=some (.bool b))(hb:b=true)(h:WC P X Q x σ μ Ds):WC P X Q (.cond c x y) σ μ Ds:=aP hc (fun _=>h) (fun e=>by rw[hb]at e;cases e)
end
theorem aSI{b:UInt8}{n:Nat}(h:((b.toNat:Nat):Int)=(n:Int))(_hn:n<256:=by decide):b=UInt8.ofNat n:=by
 have h1:b.toNat=n:=by omega
 rw[←h1];simp
theorem _root_.Go.Fs.mK.strs{D:aC}{v:Value}{n:Nat}{l:List ByteArray}(h:mK D v n (l.map Value.string))(hn:l.length=n)(hb:n≤9223372036854775807):Sl D RS 1 v l:=
 h.sl hn hb fun i x hx=>⟨_,rfl,rfl,by rw[bBQ,List.take_one,List.head?_drop,aZT,hx];rfl⟩
theorem aKG(s:ByteArray)(a b:Nat):(s.extract a b).data.toList=(s.data.toList.drop a).take (b-a):=by simp[List.extract_eq_take_drop]
def sT(line:ByteArray)(i f:Nat)(ws:List ByteArray):Prop:=f≤i∧ws.length≤i∧lN line.data.toList=gG ws++lN (line.data.toList.drop f)∧(32:UInt8)∉(line.data.toList.drop f).take (i-f)
theorem sT.zero{line:ByteArray}:sT line 0 0 []:=⟨aZL _,aZL _,by simp[gG],by simp⟩
theorem YF{l:List UInt8}{f i:Nat}{b:UInt8}(hf:f≤i)(hb:l[i]?= some b):(l.drop f).take (i+1-f)=(l.drop f).take (i-f)++[b]:=by
 have h:(l.drop f)[i-f]?= some b:=by rw[bBJ,show f+(i-f)=i by omega];exact hb
 rw[show i+1-f=i-f+1 by omega,aZG,h];rfl
theorem sT.miss{line:ByteArray}{i f:Nat}{ws:List ByteArray}{b:UInt8}(h:sT line i f ws)(hb:line.data.toList[i]?= some b)(hn:b≠32):sT line (i+1) f ws:=by
 obtain⟨h1,h2,h3,h4⟩:=h;refine⟨by omega,by omega,h3,?_⟩;rw[YF h1 hb,aZF,aZM];rintro(h|h)
 ·exact h4 h
 ·exact hn h.symm
theorem sT.hit{line:ByteArray}{i f:Nat}{ws:List ByteArray}{b:UInt8}(h:sT line i f ws)(hb:line.data.toList[i]?= some b)(hn:b=32):sT line (i+1) (i+1) (ws++[line.extract f i]):=by
 subst hn;obtain⟨h1,h2,h3,h4⟩:=h;refine⟨aZL _,by simp;omega,?_,by simp⟩
 have hg:(line.data.toList.drop f)[i-f]?= some 32:=by rw[bBJ,show f+(i-f)=i by omega];exact hb
 rw[h3,O3 hg h4,List.drop_drop,show f+(i-f+1)=i+1 by omega];simp[gG]
theorem SL{line:ByteArray}{f:Nat}{ws:List ByteArray}(h:sT line line.size f ws):eA line=ws++[line.extract f line.size]:=by
 obtain⟨h1,h2,h3,h4⟩:=h;have hl:line.data.toList.length=line.size:=rfl;have ht:(line.data.toList.drop f).take (line.size-f)=line.data.toList.drop f:=aZP (by rw[bBT,hl];exact aZL _)
 rw[ht]at h4;unfold eA;rw[h3,uZ h4,aZH,bCP];have G:(gG ws).map zZ=ws:=by
  unfold gG;rw[bDQ]
  conv=>rhs;rw[←List.map_id ws]
  exact bDX fun x _=>yE x
 rw[G];congr 2;rw[←yE (line.extract f line.size),aKG,ht]
def X8(w:List UInt8):Int:=match jF.find? (fun x=>x.1==w)with
 |some (_,k,_)=>(k:Int)
 |none=> -1
def iP(l:List UInt8):Option (List Int):=match lN l with
 | []=>none
 |p::ps=>if X8 p=(ps.length:Int)then ps.mapM nY else none
theorem aYF{s:ByteArray}(h:0<s.size):s[(0:Int).toNat]?= some (s.data.toList.getD 0 0):=TK (getD_some (k:=0) h)
theorem aVI{s:ByteArray}(h:((decide ((s.size:Int)<1)||decide (3<(s.size:Int)))||(decide (((s.data.toList.getD 0 0).toNat:Int)=48)&&decide (1<(s.size:Int))))=false):1≤s.size∧s.size≤3∧(s.data.toList.head?≠some 48∨s.size=1):=by
 simp only[bAU,Bool.and_eq_false_iff,bAH]at h;obtain⟨⟨h1,h2⟩,h3⟩:=h;refine⟨by omega,by omega,?_⟩;rcases h3 with h3|h3
 ·left;intro e;apply h3;have:s.data.toList.getD 0 0=48:=by rw[List.getD,←List.head?_eq_getElem?,e];rfl
  rw[this];rfl
 ·right;omega
theorem aRS{s:ByteArray}(h:((decide ((s.size:Int)<1)||decide (3<(s.size:Int)))||(decide (((s.data.toList.getD 0 0).toNat:Int)=48)&&decide (1<(s.size:Int))))=true):nY s.data.toList=none:=by
 have hl:s.data.toList.length=s.size:=rfl;simp only[bAD,aYT,aZI]at h;unfold nY;rcases h with(h|h)|⟨h,h2⟩
 ·have h0:s.data.toList=[]:=bDL Yd;rw[h0];rfl
 ·exact aZB Yd
 ·apply aZB;rintro⟨_,h3|h3⟩
  ·apply h3;have h4:s.data.toList.getD 0 0=48:=aSI (n:=48) h;rw[List.head?_eq_getElem?,getD_some (k:=0) Yd,h4]
  ·omega
theorem aCU{n k:Nat}(h:n<10^k)(hk:k≤3):n<1000:=bBC h (bCE Yy hk)
theorem aIY{n k:Nat}{b:UInt8}(h:n<10^k)(hb:48≤b.toNat∧b.toNat≤57):n*10+(b.toNat-48)<10^(k+1):=by rw[Nat.pow_succ];omega
theorem aJP{l:List UInt8}{k n:Nat}{b:UInt8}(hb:l[k]?= some b)(hd:48≤b.toNat∧b.toNat≤57):decFrom n (l.drop k)=decFrom (n*10+(b.toNat-48)) (l.drop (k+1)):=by
 have hk:=(aYV.1 hb).1;rw[bAM hk,aZO ((aYU hk).symm.trans hb)];simp only[decFrom,digitVal,hd,bDO,bAX]
theorem aHQ{s:ByteArray}(h:1≤s.size∧s.size≤3∧(s.data.toList.head?≠some 48∨s.size=1)):nY s.data.toList=(decFrom 0 s.data.toList).map fun n:Nat=>(n:Int):=by
 have hl:s.data.toList.length=s.size:=rfl;unfold nY;rw[aZK ⟨by omega,by rw[hl];exact h.2.2⟩]
 unfold decNat;rw[aZB];rw[List.isEmpty_iff];intro e;rw[e]at hl;simp at hl;omega
theorem aAM{s:ByteArray}{k n:Nat}{b:UInt8}(hok:1≤s.size∧s.size≤3∧(s.data.toList.head?≠some 48∨s.size=1))(hd:decFrom 0 s.data.toList=decFrom n (s.data.toList.drop k))(hb:s.data.toList[k]?= some b)(hn:¬(48≤b.toNat∧b.toNat≤57)):nY s.data.toList=none:=by
 have hk:=(aYV.1 hb).1;rw[aHQ hok,hd,bAM hk,aZO ((aYU hk).symm.trans hb)];simp only[decFrom,digitVal,hn,bBH,bBA]
theorem aES{s:ByteArray}{n:Nat}(hok:1≤s.size∧s.size≤3∧(s.data.toList.head?≠some 48∨s.size=1))(hd:decFrom 0 s.data.toList=decFrom n (s.data.toList.drop s.size)):nY s.data.toList=some (n:Int):=by
 have e:s.data.toList.drop s.size=[]:=aZZ (aZL _);rw[aHQ hok,hd,e];rfl
theorem aDN{line p0:ByteArray}{ps:List ByteArray}(h:eA line=p0::ps):lN line.data.toList=p0.data.toList::gG ps:=by
 unfold eA at h;cases hc:lN line.data.toList with
 |nil=>rw[hc]at h;cases h
 |cons p qs=>
  rw[hc]at h;simp only[aZR,bAT]at h;obtain⟨rfl,rfl⟩:=h;unfold gG;rw[bDQ];congr 1
  conv=>lhs;rw[←List.map_id qs]
  exact bDX fun x _=>rfl
theorem AD:∀ps:List ByteArray,(gG ps).mapM nY=ps.mapM tM
 | []=>rfl
 |p::ps=>by
  have h:gG (p::ps)=p.data.toList::gG ps:=rfl;rw[h,bCA,bCA,AD ps];rfl
theorem FP{line p0:ByteArray}{ps:List ByteArray}(h:eA line=p0::ps):iP line.data.toList=if X8 p0.data.toList=(ps.length:Int)then ps.mapM tM else none:=by
 unfold iP;rw[aDN h];simp only[AD];unfold gG;rw[bAY]
theorem aBW{line p0:ByteArray}{ps:List ByteArray}(h:eA line=p0::ps)(h1:X8 p0.data.toList≠((eA line).length:Int)-1):iP line.data.toList=none:=by
 rw[FP h,aZB];intro e;apply h1;rw[e,h,aYW];omega
theorem aLT{p0 x:ByteArray}{ps:List ByteArray}{k:Nat}(h:ps[k]?= some x):(p0::ps)[(((k+1:Nat):Int)).toNat]?= some x:=by rw[bAK];simpa using h
theorem aFC{line p0 x:ByteArray}{ps:List ByteArray}{k:Nat}(h:eA line=p0::ps)(_:¬X8 p0.data.toList≠((eA line).length:Int)-1)(hx:ps[k]?= some x)(hn:nY x.data.toList=none):iP line.data.toList=none:=by
 rw[FP h,T4 hx hn,ite_self]
theorem YB{line p0:ByteArray}{ps:List ByteArray}{ns:List Int}(h:eA line=p0::ps)(h1:¬X8 p0.data.toList≠((eA line).length:Int)-1)(hn:ps.mapM tM=some ns):iP line.data.toList=some ns:=by
 rw[FP h,aZK,hn];have:=bDF.1 h1;rw[this,h,aYW];omega
theorem aBJ{w:ByteArray}(h0:¬w=⟨#[112,108,97,99,101]⟩)(h1:¬w=⟨#[117,110,99,111,117,110,116]⟩)(h2:¬w=⟨#[119,114,111,110,103]⟩)(h3:¬w=⟨#[111,102,102]⟩)(h4:¬w=⟨#[115,116,101,112]⟩)(h5:¬w=⟨#[108,101,118,101,108]⟩)(h6:¬w=⟨#[117,110,109,97,114,107]⟩)(h7:¬w=⟨#[115,109,117,100,103,101]⟩)(h8:¬w=⟨#[115,116,114,105,107,101]⟩)(h9:¬w=⟨#[102,105,116]⟩)(G:¬w=⟨#[117,110,99,108,97,105,109]⟩)(I:¬w=⟨#[115,101,101,110]⟩)(M:¬w=⟨#[99,111,117,110,116]⟩)(O:¬w=⟨#[98,97,99,107]⟩)(R:¬w=⟨#[114,97,105,115,101]⟩)(U:¬w=⟨#[104,105,114,101]⟩)(V:¬w=⟨#[98,114,105,110,103]⟩)(Y:¬w=⟨#[99,108,97,105,109]⟩)(Z:¬w=⟨#[116,105,100,101]⟩)(hB:¬w=⟨#[112,97,114,116]⟩)(hD:¬w=⟨#[109,97,114,107]⟩)(hE:¬w=⟨#[98,114,111,107,101,110]⟩):X8 w.data.toList= -1:=by
 have key:∀l:List UInt8,w≠⟨l.toArray⟩→(l==w.data.toList)=false:=fun l h=>by
  rw[beq_eq_false_iff_ne];rintro rfl;exact h (yE w).symm
 unfold X8 jF;simp only[List.find?_cons,List.find?_nil,key [112,108,97,99,101] h0,key [117,110,99,111,117,110,116] h1,key [119,114,111,110,103] h2,key [111,102,102] h3,key [115,116,101,112] h4,key [108,101,118,101,108] h5,key [117,110,109,97,114,107] h6,key [115,109,117,100,103,101] h7,key [115,116,114,105,107,101] h8,key [102,105,116] h9,key [117,110,99,108,97,105,109] G,key [115,101,101,110] I,key [99,111,117,110,116] M,key [98,97,99,107] O,key [114,97,105,115,101] R,key [104,105,114,101] U,key [98,114,105,110,103] V,key [99,108,97,105,109] Y,key [116,105,100,101] Z,key [112,97,114,116] hB,key [109,97,114,107] hD,key [98,114,111,107,101,110] hE]
theorem DV(line:ByteArray)(hl:line.size≤1000)(D:aC):Fn prog 34 #[.string line] D (fun D' v=>Sl D' RS 1 v (eA line)):=by
 refine Zs 31 func34 rfl (fun h0=>aA<|Zg rfl<|aL<|Zg rfl<|aL<|Zg rfl<|bJ<|Zg rfl<|aF<|Zar<|dD (γ:=Nat×Nat×List ByteArray×Value×aD) (fun g=>line.size-g.1) (fun g=>g.1≤line.size∧sT line g.1 g.2.1 g.2.2.1∧bS 9 1 g.2.2.2.1 g.2.2.1.length (g.2.2.1.map Value.string) g.2.2.2.2) (fun g=>[(5,qI (g.1:Int)),(4,qI (g.2.1:Int)),(3,g.2.2.2.1)]) [(2,_),(0,_)] (fun g=>g.2.2.2.2++[]) (fun g=>[D]) (0,0,[],qN,[]) ⟨by simp,sT.zero,by simpa using bS.nil⟩ ⟨Yb,Yb,Yb,bDY⟩ cQ Mm5 (aH) ?_);rintro⟨i,f,ws,v,ν⟩ ⟨h1,hw,ha⟩;simp only at h1 hw ha;have hfi:=hw.1;have hwl:=hw.2.1;refine eH<|Za rfl<|Za rfl<|iZ rfl U9 rfl rfl rfl bDY<|Zai rfl<|aF<|Zz rfl (fun M=>?_) (fun M=>?_)
 ·simp only at M;have hi:i<line.size:=by omega
  obtain⟨b,hb⟩:∃b,line.data.toList[i]?= some b:=⟨_,aYU Yal⟩
  refine aT<|aS<|Zar<|aA<|Za rfl<|Za rfl<|pU rfl U9 rfl rfl Yd Yas rfl bDY<|Zam rfl<|aF<|Zz rfl (fun hc2=>?_) (fun hc2=>?_)
  ·have G:b=32:=aSI hc2;refine aA<|Za rfl<|Za rfl<|Za rfl<|Za rfl<|QV rfl U9 rfl rfl rfl Yak Yak Yak rfl bDY<|Zp rfl U22 iY tf_z9 rfl (.cons rfl rfl .nil) (fun hB hE U O=>bB (A:=[]) (B:=[]) rfl U22 rfl rfl iY tf_z9 rfl DY rfl rfl rfl ha (mI.lit O) Ye rfl Yaq Yk Yd (aZE rfl) rfl bDY (fun v1 ν1 V=>?_));have I:bS 9 1 v1 (ws++[line.extract f i]).length ((ws++[line.extract f i]).map Value.string) ν1:=by rw[aYS,aZH];exact V
   refine aI (ν1++[]) rfl<|Zg rfl<|aF<|aU<|Za rfl<|Zaa rfl<|Zg rfl<|Zah<|Zat<|Zaq<|aU<|Za rfl ?_;refine Zaa rfl<|Zg rfl<|Zah ?_;exact aK 25 (i+1,i+1,ws++[line.extract f i],v1,ν1) ⟨by simp only;omega,hw.hit hb G,I⟩ Ym ⟨Yb,Yb,Yb,bDY⟩ rfl rfl Mm5 (fun D h=>⟨D,aZJ _ (h),Le.refl D⟩)
  ·have G:b≠32:=fun e=>hc2 (by rw[e];rfl)
   refine bM<|Zat<|Zaq<|aU<|Za rfl<|Zaa rfl<|Zg rfl<|Zah ?_;exact aK 14 (i+1,f,ws,v,ν) ⟨by simp only;omega,hw.miss hb G,ha⟩ Ym ⟨Yb,Yb,Yb,bDY⟩ rfl rfl Mm5 (aH)
 ·obtain rfl:i=line.size:=by simp only at M;omega
  refine aW<|Zas<|Zas<|Zav<|Zaq<|aA<|Za rfl<|Za rfl<|Za rfl<|NT rfl U9 rfl rfl Yak Yak rfl bDY<|Zp rfl U22 iY tf_z9 rfl (.cons rfl rfl .nil) (fun hF hH Y R=>bB (A:=[]) (B:=[]) rfl U22 rfl rfl iY tf_z9 rfl DY rfl rfl rfl ha (mI.lit R) Ye rfl Yaq Yk Yd (aZE rfl) rfl bDY (fun v2 ν2 I=>?_));have I:bS 9 1 v2 (ws++[line.extract f line.size]).length ((ws++[line.extract f line.size]).map Value.string) ν2:=by rw[aYS,aZH];exact I
  refine aI (ν2++[]) rfl<|Zg rfl<|aG<|gC (A:=[]) (B:=[]) I rfl (fun D9 hI Z=>?_);exact aE rfl (fun D hD=>(by rw[SL hw];exact(Z.strs rfl (by rw[aYS,bCD];omega)).up RS.up (hD _ Ye)))
theorem SP(s:ByteArray)(D:aC):Fn prog 99 #[.string s] D (fun _ v=>∃m b,v=.tuple #[qI m,.bool b]∧(b=true→nY s.data.toList=some m)∧(b=false→nY s.data.toList=none)):=by
 refine Zs 49 func99 rfl (fun h0=>aA<|Zg rfl<|Zg rfl<|bJ<|Za rfl<|iZ rfl U9 rfl rfl rfl bDY<|Zai rfl<|Za rfl ?_);refine' cR 4 (s:=9) (p:=13) rfl (fun O=>?_) (fun O=>?_) ?_;rotate_left
 ·refine Zb rfl<|iZ rfl U9 rfl rfl rfl ⟨_,rfl,rfl⟩<|fI rfl rfl rfl rfl ⟨_,rfl,rfl⟩<|Zae rfl ?_;exact aQ 3
 ·refine Zf rfl<|Zf rfl<|Zf rfl<|Zad rfl ?_;exact aQ 3
 refine Za rfl ?_;refine' cR 9 (s:=14) (p:=23) rfl (fun M=>?_) (fun M=>?_) ?_;rotate_left
 ·have hz:0<s.size:=by have:=M;simp at this;omega
  refine Zb rfl<|pU rfl U9 rfl rfl Yd (aYF hz) rfl ⟨_,rfl,rfl⟩<|sJ rfl rfl rfl rfl ⟨_,rfl,rfl⟩<|Zb rfl ?_;refine' dJ 4 (s:=18) (p:=22) rfl (fun R=>?_) (fun R=>?_) ?_;rotate_left
  ·refine Zb rfl<|iZ rfl U9 rfl rfl rfl ⟨_,rfl,rfl⟩<|fI rfl rfl rfl rfl ⟨_,rfl,rfl⟩<|rQ rfl rfl rfl rfl ⟨_,rfl,rfl⟩ ?_;exact aQ 3
  ·refine Zf rfl<|Zf rfl<|Zf rfl<|rP rfl rfl rfl rfl ⟨_,rfl,rfl⟩ ?_;exact aQ 3
  refine Zae rfl ?_;exact aQ 5
 ·refine Zf rfl<|Zf rfl<|Zf rfl<|Zf rfl<|Zf rfl<|Zf rfl<|Zf rfl<|Zf rfl<|Zad rfl ?_;exact aQ 8
 refine aF<|aP rfl (fun G=>?_) (fun G=>?_)
 ·refine aA<|Zg rfl<|Zg rfl<|aG<|Zap ?_;exact cS (vs:=[_,_]) rfl rfl rfl cQ (fun D hD=>⟨0,false,rfl,(fun h=>by cases h),fun _=>aRS G⟩)
 ·have hok:=aVI G;refine aT<|aA<|Zg rfl<|bJ<|Zg rfl<|aF<|Zar<|gX (γ:=Nat×Nat) (fun g=>s.size-g.1) (fun g=>g.1≤s.size∧g.2<10^g.1∧decFrom 0 s.data.toList=decFrom g.2 (s.data.toList.drop g.1)) (fun g=>[(5,qI (g.1:Int)),(4,qI (g.2:Int))]) [(3,_),(2,_),(0,_)] (fun g=>[D]) (0,0) ⟨by simp,by simp,by simp⟩ ⟨Yb,Yb,bDY⟩ cQ (aH) ?_;rintro⟨k,n⟩ ⟨h1,hn,hd⟩;simp only at h1 hn hd;have V:=aCU hn (bBE h1 hok.2.1);refine eH<|Za rfl<|Za rfl<|iZ rfl U9 rfl rfl rfl bDY<|Zai rfl<|aF<|Zz rfl (fun hc2=>?_) (fun hc2=>?_)
  ·simp only at hc2;have hk:k<s.size:=by omega
   obtain⟨b,hb⟩:∃b,s.data.toList[k]?= some b:=⟨_,aYU (by simpa using hk)⟩
   have Y:=b.toNat_lt;refine aT<|aS<|Zar<|eH<|Za rfl<|Za rfl<|pU rfl U9 rfl rfl Yd Yas rfl bDY<|Zai rfl<|Za rfl ?_;refine' cR 5 (s:=34) (p:=39) rfl (fun U=>?_) (fun U=>?_) ?_;rotate_left
   ·refine Zb rfl<|Zb rfl<|pU rfl U9 rfl rfl Yd Yas rfl ⟨_,rfl,rfl⟩<|fI rfl rfl rfl rfl ⟨_,rfl,rfl⟩<|Zae rfl ?_;exact aQ 4
   ·refine Zf rfl<|Zf rfl<|Zf rfl<|Zf rfl<|Zad rfl ?_;exact aQ 4
   refine aF<|aP rfl (fun I=>?_) (fun I=>?_)
   ·refine aA<|Zg rfl<|Zg rfl<|aG<|Zap<|Zau<|Zap<|Zap<|Zau<|Zap ?_;exact cS (vs:=[_,_]) rfl rfl rfl cQ (fun D hD=>⟨0,false,rfl,(fun h=>by cases h),fun _=>aAM hok hd hb (by simp at I;omega)⟩)
   ·have hbd:48≤b.toNat∧b.toNat≤57:=by simp at I;omega
    refine aT<|aU<|Za rfl<|k9 rfl rfl rfl Yf rfl bDY<|Za rfl<|Za rfl<|pU rfl U9 rfl rfl Yd Yas rfl bDY<|Zan rfl<|tO rfl U5 U3 rfl Yf rfl bDY<|Zaa rfl<|Zg rfl<|Zah ?_;refine Zat<|Zaq<|aU<|Za rfl<|Zaa rfl<|Zg rfl<|Zah ?_;exact aK 24 (k+1,n*10+(b.toNat-48)) ⟨by simp only;omega,aIY hn hbd,by simp only;rw[hd,aJP hb hbd]⟩ Ym ⟨Yb,(by show some (Value.int _ _)=some (Value.int _ _);congr 2;simp only;omega),bDY⟩ rfl rfl Mm5 (aH)
  ·obtain rfl:k=s.size:=by simp only at hc2;omega
   refine aW<|Zas<|Zas<|Zav<|Zaq<|aA<|Za rfl<|Zg rfl<|Zg rfl<|aG ?_;exact cS (vs:=[_,_]) rfl rfl rfl cQ (fun D hD=>⟨_,true,rfl,fun _=>aES hok hd,fun h=>by cases h⟩)
theorem aFF(w:ByteArray)(D:aC):Fn prog 98 #[.string w] D (fun _ v=>v=qI (X8 w.data.toList)):=by
 refine Zs 31 func98 rfl (fun h0=>aA<|Zg rfl<|bJ<|Za rfl<|aF<|Zar<|aA<|cN rfl rfl rfl rfl bDY<|Zg rfl<|aF<|aP rfl (fun hS=>?_) (fun hS=>?_))
 ·refine aA<|Zg rfl<|aG<|Zau<|Zap ?_;exact aE rfl (fun D hD=>by obtain rfl:=aZW hS;rfl)
 ·refine eH<|cN rfl rfl rfl rfl bDY<|Zg rfl<|aF<|aP rfl (fun hc2=>?_) (fun hc2=>?_)
  ·refine aT<|iX rfl hc2<|aA<|Zg rfl<|aG<|Zau<|Zap ?_;exact aE rfl (fun D hD=>by obtain rfl:=aZW hc2;rfl)
  ·refine aA<|cN rfl rfl rfl rfl bDY<|Zg rfl<|aF<|aP rfl (fun hI=>?_) (fun hI=>?_)
   ·refine aT<|iX rfl hI<|aA<|Zg rfl<|aG<|Zau<|Zap ?_;exact aE rfl (fun D hD=>by obtain rfl:=aZW hI;rfl)
   ·refine aA<|cN rfl rfl rfl rfl bDY<|Zg rfl<|aF<|aP rfl (fun hJ=>?_) (fun hJ=>?_)
    ·refine aT<|iX rfl hJ<|aA<|Zg rfl<|aG<|Zau<|Zap ?_;exact aE rfl (fun D hD=>by obtain rfl:=aZW hJ;rfl)
    ·refine aA<|cN rfl rfl rfl rfl bDY<|Zg rfl<|aF<|aP rfl (fun hK=>?_) (fun hK=>?_)
     ·refine aT<|iX rfl hK<|aA<|Zg rfl<|aG<|Zau<|Zap ?_;exact aE rfl (fun D hD=>by obtain rfl:=aZW hK;rfl)
     ·refine aA<|cN rfl rfl rfl rfl bDY<|Zg rfl<|aF<|aP rfl (fun hM=>?_) (fun hM=>?_)
      ·refine aT<|iX rfl hM<|aA<|Zg rfl<|aG<|Zau<|Zap ?_;exact aE rfl (fun D hD=>by obtain rfl:=aZW hM;rfl)
      ·refine aA<|cN rfl rfl rfl rfl bDY<|Zg rfl<|aF<|aP rfl (fun hN=>?_) (fun hN=>?_)
       ·refine aT<|iX rfl hN<|aA<|Zg rfl<|aG<|Zau<|Zap ?_;exact aE rfl (fun D hD=>by obtain rfl:=aZW hN;rfl)
       ·refine aA<|cN rfl rfl rfl rfl bDY<|Zg rfl<|aF<|aP rfl (fun hO=>?_) (fun hO=>?_)
        ·refine aT<|iX rfl hO<|aA<|Zg rfl<|aG<|Zau<|Zap ?_;exact aE rfl (fun D hD=>by obtain rfl:=aZW hO;rfl)
        ·refine aA<|cN rfl rfl rfl rfl bDY<|Zg rfl<|aF<|aP rfl (fun hR=>?_) (fun hR=>?_)
         ·refine aT<|iX rfl hR<|aA<|Zg rfl<|aG<|Zau<|Zap ?_;exact aE rfl (fun D hD=>by obtain rfl:=aZW hR;rfl)
         ·refine aA<|cN rfl rfl rfl rfl bDY<|Zg rfl<|aF<|aP rfl (fun G=>?_) (fun G=>?_)
          ·refine aT<|iX rfl G<|aA<|Zg rfl<|aG<|Zau<|Zap ?_;exact aE rfl (fun D hD=>by obtain rfl:=aZW G;rfl)
          ·refine aU<|cN rfl rfl rfl rfl bDY<|Zg rfl<|aF<|aP rfl (fun hB=>?_) (fun hB=>?_)
           ·refine aA<|Zg rfl<|aG<|Zau<|Zap ?_;exact aE rfl (fun D hD=>by obtain rfl:=aZW hB;rfl)
           ·refine eH<|cN rfl rfl rfl rfl bDY<|Zg rfl<|aF<|aP rfl (fun I=>?_) (fun I=>?_)
            ·refine aT<|iX rfl I<|aA<|Zg rfl<|aG<|Zau<|Zap ?_;exact aE rfl (fun D hD=>by obtain rfl:=aZW I;rfl)
            ·refine aA<|cN rfl rfl rfl rfl bDY<|Zg rfl<|aF<|aP rfl (fun M=>?_) (fun M=>?_)
             ·refine aT<|iX rfl M<|aA<|Zg rfl<|aG<|Zau<|Zap ?_;exact aE rfl (fun D hD=>by obtain rfl:=aZW M;rfl)
             ·refine aA<|cN rfl rfl rfl rfl bDY<|Zg rfl<|aF<|aP rfl (fun O=>?_) (fun O=>?_)
              ·refine aT<|iX rfl O<|aA<|Zg rfl<|aG<|Zau<|Zap ?_;exact aE rfl (fun D hD=>by obtain rfl:=aZW O;rfl)
              ·refine aA<|cN rfl rfl rfl rfl bDY<|Zg rfl<|aF<|aP rfl (fun R=>?_) (fun R=>?_)
               ·refine aT<|iX rfl R<|aA<|Zg rfl<|aG<|Zau<|Zap ?_;exact aE rfl (fun D hD=>by obtain rfl:=aZW R;rfl)
               ·refine aA<|cN rfl rfl rfl rfl bDY<|Zg rfl<|aF<|aP rfl (fun U=>?_) (fun U=>?_)
                ·refine aT<|iX rfl U<|aA<|Zg rfl<|aG<|Zau<|Zap ?_;exact aE rfl (fun D hD=>by obtain rfl:=aZW U;rfl)
                ·refine aA<|cN rfl rfl rfl rfl bDY<|Zg rfl<|aF<|aP rfl (fun V=>?_) (fun V=>?_)
                 ·refine aT<|iX rfl V<|aA<|Zg rfl<|aG<|Zau<|Zap ?_;exact aE rfl (fun D hD=>by obtain rfl:=aZW V;rfl)
                 ·refine aU<|cN rfl rfl rfl rfl bDY<|Zg rfl<|aF<|aP rfl (fun hE=>?_) (fun hE=>?_)
                  ·refine aA<|Zg rfl<|aG<|Zau<|Zap ?_;exact aE rfl (fun D hD=>by obtain rfl:=aZW hE;rfl)
                  ·refine eH<|cN rfl rfl rfl rfl bDY<|Zg rfl<|aF<|aP rfl (fun Y=>?_) (fun Y=>?_)
                   ·refine aT<|iX rfl Y<|aA<|Zg rfl<|aG<|Zau<|Zap ?_;exact aE rfl (fun D hD=>by obtain rfl:=aZW Y;rfl)
                   ·refine aU<|cN rfl rfl rfl rfl bDY<|Zg rfl<|aF<|aP rfl (fun hF=>?_) (fun hF=>?_)
                    ·refine aA<|Zg rfl<|aG<|Zau<|Zap ?_;exact aE rfl (fun D hD=>by obtain rfl:=aZW hF;rfl)
                    ·refine eH<|cN rfl rfl rfl rfl bDY<|Zg rfl<|aF<|aP rfl (fun Z=>?_) (fun Z=>?_)
                     ·refine aT<|iX rfl Z<|aA<|Zg rfl<|aG<|Zau<|Zap ?_;exact aE rfl (fun D hD=>by obtain rfl:=aZW Z;rfl)
                     ·refine aU<|cN rfl rfl rfl rfl bDY<|Zg rfl<|aF<|aP rfl (fun hH=>?_) (fun hH=>?_)
                      ·refine aA<|Zg rfl<|aG<|Zau<|Zap ?_;exact aE rfl (fun D hD=>by obtain rfl:=aZW hH;rfl)
                      ·refine bM<|Zat<|Zaq<|aA<|Zg rfl<|aG ?_;exact aE rfl (fun D hD=>by show Value.int _ _=_;rw[aBJ (w:=w) (aZY hS) (aZY hc2) (aZY hI) (aZY hJ) (aZY hK) (aZY hM) (aZY hN) (aZY hO) (aZY hR) (aZY G) (aZY hB) (aZY I) (aZY M) (aZY O) (aZY R) (aZY U) (aZY V) (aZY hE) (aZY Y) (aZY hF) (aZY Z) (aZY hH)])
theorem LW(line:ByteArray)(hl:line.size≤1000)(D:aC):Fn prog 33 #[.string line] D (fun D' v=>∃nv b,v=.tuple #[nv,.bool b]∧(match iP line.data.toList with|some ns=>b=true∧Sl D' RI 1 nv ns|none=>b=false)):=by
 obtain⟨p0,ps,hcut⟩:=wT line;have hcl:=W2 line;have R:(eA line)[0]?= some p0:=by rw[hcut];rfl
 have hpl:(eA line).length=ps.length+1:=by rw[hcut];rfl
 refine Zs 40 func33 rfl (fun h0=>aA<|Zg rfl<|Zg rfl<|aL<|Za rfl<|Zv rfl (fun D1 U=>DV line hl _) (fun v1 D1 U I=>Zg rfl<|bJ<|Za rfl<|Zw rfl U22 iY rfl I rfl R (fun b1 o1 V Y hX Z=>?_)));obtain rfl:V=[.string _]:=Y;refine Zj 0 rfl xR rfl Z rfl<|Zc rfl (fun D2 hD2=>aFF p0 _)<|Za rfl<|Zab rfl U22 rfl I rfl<|Zan rfl<|Zak rfl<|aF<|Zz rfl (fun M=>?_) (fun M=>?_)
 ·refine aA<|Zg rfl<|Zg rfl<|aG<|Zap ?_;exact cS (vs:=[_,_]) rfl rfl rfl cQ (fun D hD=>⟨_,false,rfl,by rw[aBW hcut M]⟩)
 ·refine aT<|aA<|Zg rfl<|bJ<|Zg rfl<|aF<|Zar<|dD (γ:=Nat×List Int×Value×aD) (fun g=>ps.length-g.1) (fun g=>g.1≤ps.length∧(ps.take g.1).mapM tM=some g.2.1∧g.2.1.length=g.1∧bS 3 1 g.2.2.1 g.1 (ints g.2.1) g.2.2.2) (fun g=>[(6,qI ((g.1+1:Nat):Int)),(5,g.2.2.1)]) [(4,_),(3,_),(2,_)] (fun g=>g.2.2.2++[]) (fun g=>[D1,D]) (0,[],qN,[]) ⟨by simp,rfl,rfl,by simpa [ints]using bS.nil⟩ ⟨Yb,Yb,bDY⟩ cQ Mm5 (aH) ?_;rintro⟨k,ns,v,ν⟩ ⟨h1,h2,h3,ha⟩;simp only at h1 h2 h3 ha;refine eH<|Za rfl<|Za rfl<|Zab rfl U22 rfl I rfl<|Zai rfl<|aF<|Zz rfl (fun hc2=>?_) (fun hc2=>?_)
  ·simp only at hc2;have hk:k<ps.length:=by omega
   obtain⟨x,hx⟩:=dV ps k;refine aT<|aS<|Zar<|aA<|Za rfl<|Za rfl<|Zw rfl U22 iY rfl I rfl (by rw[hcut];exact aLT hx) (fun b2 o2 hB hE hY hF=>?_)
   obtain rfl:hB=[.string _]:=hE;refine Zj 0 rfl xR rfl hF rfl<|Zv rfl (fun D3 hH=>SP x _) (fun v3 D3 hH hI=>?_);obtain⟨m,nb,rfl,hJ,hK⟩:=hI;refine Za rfl<|Zaf rfl<|Zaf rfl<|Zg rfl<|Zg rfl<|bJ<|Za rfl<|Zal rfl<|aF<|aP rfl (fun O=>?_) (fun O=>?_)
   ·refine aA<|Zg rfl<|Zg rfl<|aG<|Zap<|Zau<|Zap<|Zap<|Zau<|Zap ?_;exact cS (vs:=[_,_]) rfl rfl rfl cQ (fun D hD=>⟨_,false,rfl,by rw[aFC hcut M hx (hK (by simpa using O))]⟩)
   ·have hnb:nb=true:=by simpa using O
    refine aT<|aU<|Za rfl<|Za rfl<|Zp rfl U25 aM dS rfl (.cons rfl rfl .nil) (fun rA rB hM G=>?_);have hN:=Sl.ofInts (l:=[_]) (n:=1) (cap:=1) G rfl Yd Yd;refine bB (A:=[]) (B:=[]) rfl U25 rfl rfl aM dS rfl oD rfl rfl rfl ha (mI.lit G) Ye rfl (by simp[ints,h3]) Yk Yd (aZE rfl) rfl bDY (fun v1 ν1 hO=>?_);have hR:bS 3 1 v1 (k+1) (ints (ns++[m])) ν1:=by rw[←fV];exact hO
    refine aI (ν1++[]) rfl<|Zg rfl<|Zah<|Zat<|Zaq<|aU<|Za rfl<|Zaa rfl<|Zg rfl<|Zah ?_;exact aK 26 (k+1,ns++[m],v1,ν1) ⟨by simp only;omega,MI hx h2 (hJ hnb),by simp[h3],hR⟩ Ym ⟨Yb,Yb,bDY⟩ rfl rfl Mm5 (fun D h=>⟨D,aZJ _ (aZJ _ (h)),Le.refl D⟩)
  ·obtain rfl:k=ps.length:=by simp only at hc2;omega
   rw[bAA]at h2;refine aW<|Zas<|Zas<|Zav<|Zaq<|aA<|Za rfl<|Zg rfl<|Zg rfl<|aG<|gC (A:=[]) (B:=[]) ha rfl (fun D9 hD9 hS=>?_);have hns:=hS.ints (l:=ns) h3 Yd;exact cS (vs:=[_,_]) rfl rfl rfl cQ (fun D hD=>⟨_,true,rfl,by rw[YB hcut M h2];exact⟨rfl,hns.up RI.up (hD _ Ye)⟩⟩)
end L12
theorem QZ{t e tr:TypeId}{sz n cap:Nat}{ad ad':Option Addr}{c':Nat}{ats:Array TypeId}
  (ho:all[ix]?= some ⟨some d,.call {callee:=.builtin .append,args:=#[x,y],argTypes:=ats},tr,pos,aft,g⟩) (ht:P.underlying t=some (.slice e)) (hat:ats[0]?= some t) (G:ats[1]?= some t) (hs:TS P e sz)
  (hx:ev σ x=some (.slice ad n cap)) (hy:ev σ y=some (.slice ad' 0 c')) (hcap:n≤cap) (hN:Nat.blt d X.N=true) (hg:dE all σ g)
  (kk:WL P X bad all K Q os ((d,.slice ad n cap)::σ) μ Ds):WL P X bad all K Q ((fl,ix)::os) σ μ Ds:=by
 refine eZ ho rfl rfl hg fun a w hh=>?_
 have hex:(execOp a.eval ⟨some d,.call {callee:=.builtin .append,args:=#[x,y],argTypes:=ats},tr,pos,aft,g⟩).run P w=
   ((Builtin.append_ ats tr #[.slice ad n cap,.slice ad' 0 c']).run P w).andThen fun r w'=>.ok (.value r) w':=by
  simp only[execOp,resolve,pure_bind,invoke,builtin];have I:(#[x,y].map a.eval)=#[.slice ad n cap,.slice ad' 0 c']:=by simp[hh.eval hx,hh.eval hy]
  rw[I,Sem.run_bind];simp only[Sem.run_pure]
 rw[hex];have hfc:(Builtin.firstCells sz 0 (.slice ad' 0 c')).run P w=.ok ([]:List Value).toArray w:=by
  cases ad' with
  |none=>rfl
  |some a=>simp[Builtin.firstCells,loadCells,loadCellsFrom,Sem.run_pure]
 rw[xM (tr:=tr) (w':=w) ht hat G hs (m:=0) (xs:=[]) rfl hfc hcap (by cases ad<;>rfl)];exact⟨fun _=>nZ.refl _ _,kk _ _ (hh.put hN _)⟩
theorem XT{t e tr:TypeId}{sz n m b:Nat}{D₁ D₂:aC}{cells xs:List Value}{xv:Value}{z0:Value}{ats:Array TypeId}
  (ho:all[ix]?= some ⟨some d,.call {callee:=.builtin .append,args:=#[x,y],argTypes:=ats},tr,pos,aft,g⟩) (ht:P.underlying t=some (.slice e)) (hat:ats[0]?= some t) (G:ats[1]?= some t)
  (hs:TS P e sz) (hz:TZ P e z0) (I:Nat.beq z0.cells.size sz=true) (hi:(P.info? e).map (fun i=>Nat.ble 1 i.bytes&&Nat.ble i.bytes 4096)=some true)
  (hx:ev σ x=some (qS b n n)) (hy:ev σ y=some xv) (hA:At D₁ b 0 cells) (hD:D₁∈Ds) (hcl:cells.length=n*sz) (hsrc:mI D₂ xv m xs) (M:D₂∈Ds) (hxl:xs.length=m*sz) (U:0<m) (hlen:n+m≤10000000) (hN:Nat.blt d X.N=true) (hg:dE all σ g)
  (kk:∀v' ν',bS e sz v' (n+m) (cells++xs) ν'→WL P X bad all K Q os ((d,v')::σ) (ν'++μ) Ds):WL P X bad all K Q ((fl,ix)::os) σ μ Ds:=by
 refine eZ ho rfl rfl hg fun a w hh=>?_
 obtain⟨h1,h2,h3,D,h4,h5,V⟩:=id hh;obtain⟨i0,hi,O,R⟩:∃i0,P.info? e=some i0∧1≤i0.bytes∧i0.bytes≤4096:=by
  cases h:P.info? e with
  |none=>simp[h]at hi
  |some i=>simp[h]at hi;exact⟨i,rfl,hi⟩
 have hz1':=bAF I;have hex:(execOp a.eval ⟨some d,.call {callee:=.builtin .append,args:=#[x,y],argTypes:=ats},tr,pos,aft,g⟩).run P w=
   ((Builtin.append_ ats tr #[qS b n n,xv]).run P w).andThen fun r w'=>.ok (.value r) w':=by
  simp only[execOp,resolve,pure_bind,invoke,builtin];have Y:(#[x,y].map a.eval)=#[qS b n n,xv]:=by simp[hh.eval hx,hh.eval hy]
  rw[Y,Sem.run_bind];simp only[Sem.run_pure]
 rw[hex];have lies:∀{D₀:aC} (_:D₀∈Ds) (w':World),w'.heap=w.heap→∀b o ys,At D₀ b o ys→aEH w' b o ys:=fun hD₀ w' hw' b o ys hA j u hj=>by
  have:=h4.agr.cell ((h5 _ hD₀).get (hA j u hj));unfold World.cell? at this ⊢
  rw[hw'];exact this
 obtain⟨c,hc,hrun⟩:=V6 (tr:=tr) (w:=w) (a:=some ⟨b,0,none⟩) (n:=n) (cap:=n) (old:=cells) ht hat G hs hz hi (EA hsrc) (fun w' hw'=>zC hsrc hxl (fun b o=>lies M w' hw' b o xs)) (fun w' hw'=>by
  simp only[Builtin.firstCells];exact mZ hcl (lies hD w' hw' b 0 cells hA)) Yd hlen ⟨O,R⟩
 rw[hrun];obtain⟨junk,hjunk⟩:∃junk:List Value,cells.toArray++xs.toArray++Builtin.zeroCells z0.cells (c-(n+m))=(cells++xs++junk).toArray∧(cells++xs++junk).length=c*sz:=by
  refine⟨(Builtin.zeroCells z0.cells (c-(n+m))).toList,by simp,?_⟩;have:=yS z0.cells (c-(n+m));simp only[aYS,Array.length_toList,this,hz1',hcl,hxl];rw[←bBU,←bBU];congr 1;omega
 have hpush:=h4.push (.cells (cells++xs++junk).toArray e (0,0)) rfl;simp only[Result.andThen_ok];rw[hjunk.1];refine⟨fun _=>⟨by simp,fun b hb _=>dI hb⟩,?_⟩;have hst:iD X.h0 X.lo X.D0 X.mods ([(w.heap.size,.cells (cells++xs++junk).toArray e (0,0))]++μ) D {w with drawn:=w.drawn+1,heap:=w.heap.push (.cells (cells++xs++junk).toArray e (0,0))}:=
  ⟨hpush.hlo,hpush.size,hpush.old,hpush.dold,hpush.agr,hpush.box,hpush.nd,hpush.fz,hpush.env⟩
 exact kk _ _ (aYZ ⟨_,c,junk,rfl,hc,rfl,by simp[hcl,hxl,bBU],hjunk.2⟩) _ _ (Hl.put ⟨h1,h2,h3,D,hst,h5,V.step (fun _ p hp=>by
  rcases aZF.1 hp with hp|hp
  ·exact aYZ (by rw[aZM.1 hp];exact aZL _)
  ·exact aZE (GT.2 ⟨p,hp,rfl⟩)) (fun _=>⟨by simp,fun b hb _=>⟨dI hb,rfl⟩,rfl⟩) hst.dom⟩ hN _)
namespace L12
open C12 Go.Lib
theorem CW(l:List ByteArray):∀u∈l.map Value.string,cell1 u=true:=by
 intro u hu;obtain⟨x,_,rfl⟩:=GT.1 hu;rfl
theorem aHB{α:Type}(f:α→Value)(l:List α):l.flatMap (fun x=>[f x])=l.map f:=by
 induction l with
 |nil=>rfl
 |cons a l ih=>rw[bAC,ih];rfl
theorem _root_.Go.Fs.mI.strs{D:aC}{v:Value}{l:List ByteArray}(h:Sl D RS 1 v l):mI D v l.length (l.map Value.string):=by
 rw[←aHB];exact mI.of (R:=RS) (fun _ _ _ h=>h) (fun _=>rfl) h
section
variable{α:Type}[DecidableEq α]{xs ys:List α}{a b:α}{k:Nat}
omit [DecidableEq α]in
theorem oR(ha:xs[k]?= some a)(hb:ys[k]?= some b)(h:xs.take k=ys.take k)(e:a=b):xs.take (k+1)=ys.take (k+1):=by
 rw[aZG,aZG,ha,hb,h,e]
theorem WV(h:xs.length≠ys.length):decide (xs=ys)=false:=bCC fun e=>h (by rw[e])
theorem aHS(ha:xs[k]?= some a)(hb:ys[k]?= some b)(h:a≠b):decide (xs=ys)=false:=bCC fun e=>h (by rw[e,hb]at ha;exact(aZO ha).symm)
theorem VB(hl:xs.length=ys.length)(hk:xs.length≤k)(h:xs.take k=ys.take k):decide (xs=ys)=true:=decide_eq_true (by rwa [aZP hk,aZP Yd]at h)
end
theorem UG{xs:List ByteArray}{x:ByteArray}{k n:Nat}(hx:xs[k]?= some x)(h:∀y∈xs.take k,y.size≤n)(hs:x.size≤n):∀y∈xs.take (k+1),y.size≤n:=by
 intro y hy;rw[aZG,hx,aZF]at hy;rcases hy with hy|hy
 ·exact h y hy
 ·simp at hy;subst hy;exact hs
theorem KF{xs:List ByteArray}(h:40<xs.length):eR xs=3:=by
 unfold eR;rw[aZK];simp;left;omega
theorem IK{xs:List ByteArray}{x:ByteArray}{k:Nat}(hx:xs[k]?= some x)(h:50<x.size):eR xs=3:=by
 unfold eR;rw[aZK];simp only[bAD,aZI,bDG,List.all_eq_false];exact aYZ ⟨x,LE hx,by simp;omega⟩
theorem aCI{xs:List ByteArray}(h:xs.length≤40)(h2:∀x∈xs,x.size≤50):eR xs=0:=by
 unfold eR;rw[aZB];simp only[bAD,aZI,bDG,List.all_eq_false,not_or,not_exists,not_and];refine⟨by omega,fun x hx=>?_⟩;have:=h2 x hx;simp;omega
def CF(xs:List ByteArray):Bool:=decide (xs.length≤45)&&xs.all fun x=>decide (x.size≤70)
theorem DE{xs:List ByteArray}:CF xs=true ↔ xs.length≤45∧∀x∈xs,x.size≤70:=by unfold CF;simp
theorem RG{xs:List ByteArray}{x:ByteArray}{k:Nat}(hx:xs[k]?= some x)(h:70<x.size):CF xs=false:=by
 rw[←Bool.not_eq_true,DE];rintro⟨_,h2⟩;have:=h2 x (LE hx);omega
theorem YK{xs:List ByteArray}{k:Nat}(hk:xs.length≤k∨46≤k)(h:∀x∈xs.take k,x.size≤70):CF xs=decide ((xs.length:Int)≤45):=by
 rw[bCG,DE,aZI];constructor
 ·rintro⟨h1,_⟩;omega
 ·intro h1;have h2:xs.take k=xs:=aZP Yd;rw[h2]at h;exact⟨by omega,h⟩
theorem JP:∀{ps:List (List UInt8)} {ns:List Int},ps.mapM nY=some ns→ns.length=ps.length
 | [],ns,h=>by
  obtain rfl:([]:List Int)=ns:=by simpa using h
  rfl
 |p::ps,ns,h=>by
  rw[bCA]at h;cases hp:nY p with
  |none=>rw[hp]at h;cases h
  |some q=>
   cases hq:ps.mapM nY with
   |none=>rw[hp,hq]at h;cases h
   |some qs=>
    rw[hp,hq]at h;obtain rfl:q::qs=ns:=aZO h;rw[aYW,aYW,JP hq]
theorem aIJ{x:ByteArray}{ns:List Int}(h:iP x.data.toList=some ns)(hs:x.size≤1000):ns.length≤1001:=by
 have hc:=GD x.data.toList;have hl:x.data.toList.length=x.size:=rfl;unfold iP at h;split at h
 ·cases h
 ·rename_i p ps hps;split at h
  ·have:=JP h;rw[hps,aYW]at hc;omega
  ·cases h
theorem ZX{D:aC}{nv:Value}{nb:Bool}{o:Option (List Int)}(hb:nb=false)(h:match o with|some ns=>nb=true∧Sl D RI 1 nv ns|none=>nb=false):o=none:=by
 cases o with
 |none=>rfl
 |some ns=>rw[hb]at h;cases h.1
def C0(br:Bool)(ns:List Int)(j:Nat):Nat:=((List.range j).filter fun i=>(decide (1≤i)&&decide (ns[i]?= some 2))&&(br||decide (i=2))).length
theorem IZ(br:Bool)(ns:List Int):C0 br ns 1=0:=rfl
theorem VE(br:Bool)(ns:List Int)(j:Nat):C0 br ns j≤j:=by
 unfold C0;exact bBE (bBO _ _) Ye
theorem CT(br:Bool)(ns:List Int)(j:Nat):C0 br ns (j+1)=C0 br ns j+if((decide (1≤j)&&decide (ns[j]?= some 2))&&(br||decide (j=2)))=true then 1 else 0:=by
 unfold C0;rw[bAS,bBK,aYS];congr 1;rw[bCI];split<;>rfl
theorem KB{br:Bool}{ns:List Int}{j:Nat}{m:Int}(hm:ns[j]?= some m)(hj:1≤j)(h:(decide (m=2)&&(br||decide ((j:Int)=2)))=true):C0 br ns (j+1)=C0 br ns j+1:=by
 rw[CT,aZK];simp only[aYT,bAD,aZI]at h ⊢
 refine⟨⟨hj,by rw[hm,h.1]⟩,h.2.imp id (fun e=>by omega)⟩
theorem UL{br:Bool}{ns:List Int}{j:Nat}{m:Int}(hm:ns[j]?= some m)(h:(decide (m=2)&&(br||decide ((j:Int)=2)))=false):C0 br ns (j+1)=C0 br ns j:=by
 rw[CT,aZB]
 ·rfl
 ·intro hh;simp only[aYT,bAD,aZI]at hh;have:(decide (m=2)&&(br||decide ((j:Int)=2)))=true:=by
   simp only[aYT,bAD,aZI];refine⟨?_,hh.2.imp id (fun e=>by omega)⟩;have h2:=hh.1.2;rw[hm]at h2;exact aZO h2
  rw[this]at h;cases h
theorem aCP(br:Bool)(ns:List Int){j:Nat}(h:j≤max 1 ns.length)(h2:ns.length≤j):C0 br ns j=C0 br ns ns.length:=by
 by_cases hl:ns.length=0
 ·rw[hl];obtain rfl|rfl:j=0∨j=1:=by omega
  ·rfl
  ·rfl
 ·obtain rfl:j=ns.length:=by omega
  rfl
def DQ(x:ByteArray):ByteArray:=(eA x).headD ⟨#[]⟩
def aRZ(x:ByteArray):Nat:=match iP x.data.toList with
 |none=>0
 |some _=>if DQ x=⟨#[115,109,117,100,103,101]⟩then 1 else 0
def aTT(x:ByteArray):Nat:=match iP x.data.toList with
 |none=>0
 |some ns=>if(decide (DQ x=⟨#[98,114,111,107,101,110]⟩)||decide (DQ x=⟨#[112,97,114,116]⟩))=true then C0 (decide (DQ x=⟨#[98,114,111,107,101,110]⟩)) ns ns.length else 0
def RR(xs:List ByteArray):Bool:=decide (((xs.map aRZ).sum:Int)≤3)&&decide (((xs.map aTT).sum:Int)≤4)
def w0(xs:List ByteArray):Bool:=(CF xs&&decide (eR xs=0))&&RR xs
theorem W4{xs:List ByteArray}(h:w0 xs=true):eR xs=0:=by
 unfold w0 at h;simp only[aYT,aZI]at h;exact h.1.2
theorem aAS{xs:List ByteArray}{sm un:Nat}(h2:sm=(xs.map aRZ).sum)(h3:un=(xs.map aTT).sum):(decide ((sm:Int)≤3)&&decide ((un:Int)≤4))=RR xs:=by rw[h2,h3];rfl
theorem vR{xs:List ByteArray}{x:ByteArray}{k:Nat}{f:ByteArray→Nat}(hx:xs[k]?= some x):((xs.take (k+1)).map f).sum=((xs.take k).map f).sum+f x:=by
 rw[aZG,hx];simp
section
variable{x p0:ByteArray}{ps:List ByteArray}{ns:List Int}{j:Nat}
theorem aFI(h:iP x.data.toList=none):aRZ x=0:=by unfold aRZ;rw[h]
theorem aIW(h:iP x.data.toList=none):aTT x=0:=by unfold aTT;rw[h]
theorem j4(hc:eA x=p0::ps):DQ x=p0:=by unfold DQ;rw[hc];rfl
theorem aQT(hc:eA x=p0::ps)(h:iP x.data.toList=some ns)(hp:decide (p0=⟨#[115,109,117,100,103,101]⟩)=true):aRZ x=1:=by unfold aRZ;rw[h,j4 hc];exact aZK (aZW hp)
theorem aVF(hc:eA x=p0::ps)(h:iP x.data.toList=some ns)(hp:decide (p0=⟨#[115,109,117,100,103,101]⟩)=false):aRZ x=0:=by unfold aRZ;rw[h,j4 hc];exact aZB (aZY hp)
theorem aGU(hc:eA x=p0::ps)(h:iP x.data.toList=some ns)(he:(decide ((j:Int)<(ns.length:Int))&&(decide (p0=⟨#[98,114,111,107,101,110]⟩)||decide (p0=⟨#[112,97,114,116]⟩)))=false)(G:j≤max 1 ns.length)(I:j=1∨(decide (p0=⟨#[98,114,111,107,101,110]⟩)||decide (p0=⟨#[112,97,114,116]⟩))=true):aTT x=C0 (decide (p0=⟨#[98,114,111,107,101,110]⟩)) ns j:=by
 unfold aTT;rw[h,j4 hc];simp only;rw[Bool.and_eq_false_iff]at he;by_cases hb:(decide (p0=⟨#[98,114,111,107,101,110]⟩)||decide (p0=⟨#[112,97,114,116]⟩))=true
 ·rw[aZK hb];have hj:=he.resolve_right (by rw[hb];simp)
  exact(aCP _ ns G (by have:=aZY hj;omega)).symm
 ·rw[aZB hb];obtain rfl:=I.resolve_right hb;rfl
end
theorem ZS{D:aC}{nv:Value}{nb:Bool}{o:Option (List Int)}(hb:nb=true)(h:match o with|some ns=>nb=true∧Sl D RI 1 nv ns|none=>nb=false):∃ns,o=some ns∧Sl D RI 1 nv ns:=by
 cases o with
 |none=>simp only at h;rw[hb]at h;cases h
 |some ns=>exact⟨ns,rfl,h.2⟩
theorem zO(sv:Value)(xs:List ByteArray)(D:aC)(hS:Sl D RS 1 sv xs)(hl:xs.length≤10000000):Fn prog 12 #[sv] D (fun D' v=>Sl D' RS 1 v xs):=by
 refine Zs 6 func12 rfl (fun h0=>aA<|Zg rfl<|aL<|Zp rfl U22 iY tf_z9 rfl .nil (fun R U G I=>Za rfl<|bB (A:=[]) (ν:=[]) (B:=[]) rfl U22 rfl rfl iY tf_z9 rfl DY rfl rfl rfl bS.nil (mI.strs hS) Ye Yaq rfl (CW _) Yd (aZE rfl) rfl bDY (fun v1 ν1 M=>Zg rfl<|aG ?_)));have O:bS 9 1 v1 xs.length (xs.map Value.string) ν1:=by simpa using M
 refine gC (A:=[]) (B:=[]) O rfl (fun Y V hF=>?_);exact aE rfl (fun D' hD=>(hF.strs rfl Yd).up RS.up (hD _ Ye))
theorem RW(av bv:Value)(xs ys:List Int)(D:aC)(hx:Sl D RI 1 av xs)(hy:Sl D RI 1 bv ys):Fn prog 16 #[av,bv] D (fun _ v=>v=.bool (decide (xs=ys))):=by
 have hl:=hx.len;refine Zs 26 func16 rfl (fun h0=>aA<|Zg rfl<|bJ<|Za rfl<|Zab rfl U43 rfl hx rfl<|Za rfl<|Zab rfl U25 rfl hy rfl<|Zak rfl<|aF<|Zz rfl (fun I=>?_) (fun I=>?_))
 ·refine aA<|Zg rfl<|aG<|Zap ?_;exact aE rfl (fun D hD=>aYY Value.bool (WV Yd).symm)
 ·have hlen:xs.length=ys.length:=by omega
  refine aT<|eH<|Zg rfl<|aF<|Zar<|Zl Nat (fun k=>xs.length-k) (fun k=>k≤xs.length∧xs.take k=ys.take k) (fun k=>[(5,qI (k:Int))]) [(4,_),(0,_),(1,_)] (fun k=>[D]) 0 ⟨Yb,bDY⟩ ?_;rintro k ⟨h1,h2⟩;refine eH<|Za rfl<|Za rfl<|Zab rfl U43 rfl hx rfl<|Zai rfl<|aF<|Zz rfl (fun hc2=>?_) (fun hc2=>?_)
  ·have hk:k<xs.length:=by omega
   obtain⟨a,ha⟩:=dV xs k;obtain⟨b,hb⟩:=dV ys k;refine aT<|aS<|Zar<|aS<|bW [] 3 9 242<|Za rfl<|Za rfl<|Zw rfl U43 pG rfl hx rfl ha (fun V o1 M O U R=>?_);obtain rfl:M=[qI _]:=O;refine Zj 0 rfl pD rfl R rfl<|Za rfl<|Za rfl<|jZ rfl hy rfl hb (fun b2 o2=>Zak rfl<|aF<|Zz rfl (fun G=>?_) (fun G=>?_))
   ·refine aA<|Zg rfl<|aG<|Zau<|Zap<|Zap<|Zau<|Zap ?_;exact aE rfl (fun D hD=>aYY Value.bool (aHS ha hb (G)).symm)
   ·refine bM<|Zat<|Zaq<|aU<|Za rfl<|Zaa rfl<|Zg rfl<|Zah ?_;exact aK 17 (k+1) ⟨by omega,oR ha hb h2 Yd⟩ Yd ⟨Yb,bDY⟩ rfl rfl Mm5 (aH)
  ·refine aW<|Zas<|Zas<|Zav<|Zaq<|aA<|Zg rfl<|aG ?_;exact aE rfl (fun D hD=>aYY Value.bool (VB hlen Yd h2).symm)
theorem CX(av bv:Value)(xs ys:List Int)(D:aC)(hx:Sl D RI 1 av xs)(hy:Sl D RI 1 bv ys):Fn prog 103 #[av,bv] D (fun _ v=>v=.bool (decide (xs=ys))):=by
 have hl:=hx.len;refine Zs 26 func103 rfl (fun h0=>aA<|Zg rfl<|bJ<|Za rfl<|Zab rfl U25 rfl hx rfl<|Za rfl<|Zab rfl U25 rfl hy rfl<|Zak rfl<|aF<|Zz rfl (fun I=>?_) (fun I=>?_))
 ·refine aA<|Zg rfl<|aG<|Zap ?_;exact aE rfl (fun D hD=>aYY Value.bool (WV Yd).symm)
 ·have hlen:xs.length=ys.length:=by omega
  refine aT<|eH<|Zg rfl<|aF<|Zar<|Zl Nat (fun k=>xs.length-k) (fun k=>k≤xs.length∧xs.take k=ys.take k) (fun k=>[(5,qI (k:Int))]) [(4,_),(0,_),(1,_)] (fun k=>[D]) 0 ⟨Yb,bDY⟩ ?_;rintro k ⟨h1,h2⟩;refine eH<|Za rfl<|Za rfl<|Zab rfl U25 rfl hx rfl<|Zai rfl<|aF<|Zz rfl (fun hc2=>?_) (fun hc2=>?_)
  ·have hk:k<xs.length:=by omega
   obtain⟨a,ha⟩:=dV xs k;obtain⟨b,hb⟩:=dV ys k;refine aT<|aS<|Zar<|aS<|bW [] 3 9 242<|Za rfl<|Za rfl<|jZ rfl hx rfl ha (fun M o1=>Za rfl<|Za rfl<|jZ rfl hy rfl hb (fun b2 o2=>Zak rfl ?_));refine aF<|Zz rfl (fun G=>?_) (fun G=>?_)
   ·refine aA<|Zg rfl<|aG<|Zau<|Zap<|Zap<|Zau<|Zap ?_;exact aE rfl (fun D hD=>aYY Value.bool (aHS ha hb (G)).symm)
   ·refine bM<|Zat<|Zaq<|aU<|Za rfl<|Zaa rfl<|Zg rfl<|Zah ?_;exact aK 17 (k+1) ⟨by omega,oR ha hb h2 Yd⟩ Yd ⟨Yb,bDY⟩ rfl rfl Mm5 (aH)
  ·refine aW<|Zas<|Zas<|Zav<|Zaq<|aA<|Zg rfl<|aG ?_;exact aE rfl (fun D hD=>aYY Value.bool (VB hlen Yd h2).symm)
theorem SO(sv:Value)(xs:List ByteArray)(D:aC)(hS:Sl D RS 1 sv xs):Fn prog 13 #[sv] D (fun _ v=>v=qI (eR xs)):=by
 have hl:=hS.len;refine Zs 19 func13 rfl (fun h0=>aA<|Zg rfl<|bJ<|Za rfl<|Zab rfl U22 rfl hS rfl<|fI rfl rfl rfl rfl bDY<|aF<|Zz rfl (fun G=>?_) (fun G=>?_))
 ·refine aA<|Zg rfl<|aG<|Zap ?_;exact aE rfl (fun D hD=>by show Value.int _ _=_;rw[KF Yd])
 ·have I:xs.length≤40:=by omega
  refine aT<|eH<|Zg rfl<|aF<|Zar<|gX (γ:=Nat) (fun k=>xs.length+1-k) (fun k=>k≤xs.length∧∀x∈xs.take k,x.size≤50) (fun k=>[(3,qI (k:Int))]) [(2,_),(0,_)] (fun k=>[D]) 0 ⟨by omega,by simp⟩ ⟨Yb,bDY⟩ cQ (aH) ?_;rintro k ⟨h1,h2⟩;refine eH<|Za rfl<|Za rfl<|Zab rfl U22 rfl hS rfl<|Zai rfl<|aF<|Zz rfl (fun hc2=>?_) (fun hc2=>?_)
  ·have hk:k<xs.length:=by omega
   obtain⟨x,hx⟩:=dV xs k;refine aT<|aS<|Zar<|aA<|Za rfl<|Za rfl<|Zw rfl U22 iY rfl hS rfl hx (fun Y o1 M O V R=>?_);obtain rfl:M=[.string _]:=O;refine Zj 0 rfl xR rfl R rfl<|iZ rfl U9 rfl rfl rfl bDY<|fI rfl rfl rfl rfl bDY<|aF<|Zz rfl (fun U=>?_) (fun U=>?_)
   ·refine aA<|Zg rfl<|aG<|Zau<|Zap<|Zap<|Zau<|Zap ?_;exact aE rfl (fun D hD=>by show Value.int _ _=_;rw[IK hx Yd])
   ·refine bM<|Zat<|Zaq<|aU<|Za rfl<|Zaa rfl<|Zg rfl<|Zah ?_;exact aK 14 (k+1) ⟨by omega,UG hx h2 Yd⟩ Yd ⟨Yb,bDY⟩ rfl rfl Mm5 (aH)
  ·obtain rfl:k=xs.length:=by omega
   rw[bAA]at h2;refine aW<|Zas<|Zas<|Zav<|Zaq<|aA<|Zg rfl<|aG ?_;exact aE rfl (fun D hD=>by show Value.int _ _=_;rw[aCI I h2])
theorem aDB(sv:Value)(xs:List ByteArray)(D:aC)(hS:Sl D RS 1 sv xs):Fn prog 8 #[sv] D (fun _ v=>v=.bool (CF xs)):=by
 have hl:=hS.len;refine Zs 23 func8 rfl (fun h0=>aA<|Zg rfl<|bJ<|Zg rfl<|aF<|Zar<|gX (γ:=Nat) (fun k=>xs.length+1-k) (fun k=>k≤xs.length∧∀x∈xs.take k,x.size≤70) (fun k=>[(3,qI (k:Int))]) [(2,_),(0,_)] (fun k=>[D]) 0 ⟨by omega,by simp⟩ ⟨Yb,bDY⟩ cQ (aH) ?_);rintro k ⟨h1,h2⟩;refine eH<|Za rfl<|Za rfl<|Zab rfl U22 rfl hS rfl<|Zai rfl<|Za rfl ?_;refine' dJ 3 (s:=8) (p:=11) rfl (fun M=>?_) (fun M=>?_) ?_;rotate_left
 ·refine Zb rfl<|DL rfl rfl rfl rfl ⟨_,rfl,rfl⟩<|Zad rfl ?_;exact aQ 2
 ·refine Zf rfl<|Zf rfl<|Zae rfl ?_;exact aQ 2
 refine aF<|aP rfl (fun G=>?_) (fun G=>?_)
 ·have hk:k<xs.length:=by simp at G;omega
  obtain⟨x,hx⟩:=dV xs k;refine aT<|aS<|Zar<|aA<|Za rfl<|Za rfl<|Zw rfl U22 iY rfl hS rfl hx (fun Y o1 O R V U=>?_);obtain rfl:O=[.string _]:=R;refine Zj 0 rfl xR rfl U rfl<|iZ rfl U9 rfl rfl rfl bDY<|fI rfl rfl rfl rfl bDY<|aF<|Zz rfl (fun hc2=>?_) (fun hc2=>?_)
  ·refine aA<|Zg rfl<|aG<|Zau<|Zap<|Zap<|Zau<|Zap ?_;exact aE rfl (fun D hD=>by show Value.bool _=_;rw[RG hx Yd])
  ·refine bM<|Zat<|Zaq<|aU<|Za rfl<|Zaa rfl<|Zg rfl<|Zah ?_;exact aK 16 (k+1) ⟨by omega,UG hx h2 Yd⟩ Yd ⟨Yb,bDY⟩ rfl rfl Mm5 (aH)
 ·have I:xs.length≤k∨46≤k:=by simp at G;omega
  refine aW<|Zas<|Zas<|Zav<|Zaq<|aA<|Za rfl<|Zab rfl U22 rfl hS rfl<|lE rfl rfl rfl rfl bDY<|Zg rfl<|aG ?_;exact aE rfl (fun D hD=>by show Value.bool (decide _)=_;rw[YK I h2])
theorem PQ(sv:Value)(xs:List ByteArray)(D:aC)(hS:Sl D RS 1 sv xs)(hn:xs.length≤1000)(hsz:∀x∈xs,x.size≤1000):Fn prog 9 #[sv] D (fun _ v=>v=.bool (RR xs)):=by
 have hl:=hS.len;refine Zs 72 func9 rfl (fun h0=>aA<|Zg rfl<|aL<|Zg rfl<|Zg rfl<|bJ<|Zg rfl<|aF<|Zar<|gX (γ:=Nat×Nat×Nat) (fun g=>xs.length-g.1) (fun g=>g.1≤xs.length∧g.2.1=((xs.take g.1).map aRZ).sum∧g.2.2=((xs.take g.1).map aTT).sum∧g.2.1≤g.1∧g.2.2≤1002*g.1) (fun g=>[(5,qI (g.1:Int)),(3,qI (g.2.1:Int)),(4,qI (g.2.2:Int))]) [(2,_),(0,_)] (fun g=>[D]) (0,0,0) ⟨by simp,by simp,by simp,by simp,by simp⟩ ⟨Yb,Yb,Yb,bDY⟩ cQ (aH) ?_);rintro⟨k,sm,un⟩ ⟨h1,h2,h3,hB,hE⟩;simp only at h1 h2 h3 hB hE;refine eH<|Za rfl<|Za rfl<|Zab rfl U22 rfl hS rfl<|Zai rfl<|aF<|Zz rfl (fun O=>?_) (fun O=>?_)
 ·simp only at O;have hk:k<xs.length:=by omega
  obtain⟨x,hx⟩:=dV xs k;have hxs:=hsz x (LE hx);refine aT<|aS<|Zar<|aA<|Za rfl<|Za rfl<|Zw rfl U22 iY rfl hS rfl hx (fun b1 o1 hF hH hcl1 hI=>?_);obtain rfl:hF=[.string _]:=hH;refine Zj 0 rfl xR rfl hI rfl<|Zv rfl (fun D1 hJ=>LW x hxs _) (fun v1 D1 hJ hK=>?_);obtain⟨nv,nb,rfl,M⟩:=hK;refine Za rfl<|Zaf rfl<|Zaf rfl<|Zg rfl<|Zg rfl<|bJ<|Za rfl<|Zal rfl<|aF<|aP rfl (fun hc2=>?_) (fun hc2=>?_)
  ·have hns:=ZX Yap M;refine aW<|Zas<|Zav<|Zaq<|aU<|Za rfl<|Zaa rfl<|Zg rfl<|Zah ?_;exact aK 22 (k+1,sm,un) ⟨by simp only;omega,by simp only;rw[vR hx,aFI hns];omega,by simp only;rw[vR hx,aIW hns];omega,by simp only;omega,by simp only;omega⟩ Ym ⟨Yb,Yb,Yb,bDY⟩ rfl rfl Mm5 (fun D h=>⟨D,aZJ _ (h),Le.refl D⟩)
  ·have hnbt:nb=true:=by simpa using hc2
   obtain⟨ns,hns,hnv⟩:=ZS hnbt M;have hkl:ns.length≤1001:=aIJ hns hxs;obtain⟨p0,ps,hcut⟩:=wT x;have hM:(eA x)[0]?= some p0:=by rw[hcut];rfl
   refine aT<|aA<|Za rfl<|Za rfl<|Zw rfl U22 iY rfl hS rfl hx (fun b2 o2 hN hO hcl2 hR=>?_);obtain rfl:hN=[.string _]:=hO;refine Zj 0 rfl xR rfl hR rfl<|Zv rfl (fun D2 hX=>DV x hxs _) (fun v2 D2 hX hY=>Zw rfl U22 iY rfl hY rfl hM (fun b3 o3 rA rB hcl3 hA3=>?_));obtain rfl:rA=[.string _]:=rB;refine Zj 0 rfl xR rfl hA3 rfl<|Zg rfl<|bJ<|Za rfl<|cN rfl rfl rfl rfl bDY<|aF<|aP rfl (fun R=>?_) (fun R=>?_)
   ·refine aU<|Za rfl<|Zaa rfl<|Zg rfl<|aL<|Zg rfl<|aF<|Zar<|gX (γ:=Nat×Nat) (fun g=>1001+1-g.1) (fun g=>1≤g.1∧g.1≤1002∧g.1≤max 1 ns.length∧g.2=un+C0 (decide (p0=⟨#[98,114,111,107,101,110]⟩)) ns g.1∧(g.1=1∨(decide (p0=⟨#[98,114,111,107,101,110]⟩)||decide (p0=⟨#[112,97,114,116]⟩))=true)) (fun g=>[(9,qI (g.1:Int)),(4,qI (g.2:Int))]) [(3,_),(36,_),(35,_),(34,_),(33,_),(8,_),(32,_),(31,_),(30,_),(29,_),(28,_),(27,_),(26,_),(25,_),(24,_),(7,_),(6,_),(23,_),(22,_),(16,_),(21,_),(20,_),(19,_),(18,_),(17,_),(13,_),(12,_),(11,_),(10,_),(5,_),(2,_),(0,_)] (fun g=>[D2,D1,D]) (1,un) ⟨by simp,by simp,by simp only;omega,by simp only;rw[IZ];rfl,aZE rfl⟩ ⟨Yb,Yb,bDY⟩ cQ (aH) ?_;rintro⟨j,u2⟩ ⟨h4,h5,Y,h7,Z⟩;simp only at h4 h5 Y h7 Z;have hcj:=VE (decide (p0=⟨#[98,114,111,107,101,110]⟩)) ns j;refine eH<|Za rfl<|Za rfl<|Zab rfl U25 rfl hnv rfl<|Zai rfl<|Za rfl ?_;refine' dJ 7 (s:=41) (p:=48) rfl (fun hg1=>?_) (fun hg1=>?_) ?_;rotate_left
    ·refine Zb rfl<|cN rfl rfl rfl rfl ⟨_,rfl,rfl⟩<|Zb rfl ?_;refine' cR 3 (s:=44) (p:=47) rfl (fun hg2=>?_) (fun hg2=>?_) ?_;rotate_left
     ·refine Zb rfl<|cN rfl rfl rfl rfl ⟨_,rfl,rfl⟩<|rP rfl rfl rfl rfl ⟨_,rfl,rfl⟩ ?_;exact aQ 2
     ·refine Zf rfl<|Zf rfl<|rQ rfl rfl rfl rfl ⟨_,rfl,rfl⟩ ?_;exact aQ 2
     refine Zad rfl ?_;exact aQ 4
    ·refine Zf rfl<|Zf rfl<|Zf rfl<|Zf rfl<|Zf rfl<|Zf rfl<|Zae rfl ?_;exact aQ 6
    refine aF<|aP rfl (fun G=>?_) (fun G=>?_)
    ·have hjl:j<ns.length:=by have hz:=(aYT _ _).mp G;have:=aZW hz.1;omega
     have hbp:=((aYT _ _).mp G).2;obtain⟨m,hm⟩:=dV ns j;refine aT<|aS<|Zar<|aA<|Za rfl<|Za rfl<|jZ rfl hnv rfl hm (fun b4 o4=>Zam rfl<|Za rfl ?_);refine' dJ 7 (s:=56) (p:=63) rfl (fun hg3=>?_) (fun hg3=>?_) ?_;rotate_left
     ·refine Zb rfl<|cN rfl rfl rfl rfl ⟨_,rfl,rfl⟩<|Zb rfl ?_;refine' cR 3 (s:=59) (p:=62) rfl (fun hg4=>?_) (fun hg4=>?_) ?_;rotate_left
      ·refine Zb rfl<|sJ rfl rfl rfl rfl ⟨_,rfl,rfl⟩<|rP rfl rfl rfl rfl ⟨_,rfl,rfl⟩ ?_;exact aQ 2
      ·refine Zf rfl<|Zf rfl<|rQ rfl rfl rfl rfl ⟨_,rfl,rfl⟩ ?_;exact aQ 2
      refine Zad rfl ?_;exact aQ 4
     ·refine Zf rfl<|Zf rfl<|Zf rfl<|Zf rfl<|Zf rfl<|Zf rfl<|Zae rfl ?_;exact aQ 6
     refine aF<|aP rfl (fun U=>?_) (fun U=>?_)
     ·refine aU<|Za rfl<|Zaa rfl<|Zg rfl<|Zah<|Zat<|Zaq<|aU<|Za rfl<|Zaa rfl<|Zg rfl<|Zah ?_;exact aK 21 (j+1,u2+1) ⟨by simp only;omega,by simp only;omega,by simp only;omega,by simp only;rw[KB hm h4 U];omega,Or.inr hbp⟩ Ym ⟨Yb,Yb,bDY⟩ rfl rfl Mm5 (aH)
     ·refine bM<|Zat<|Zaq<|aU<|Za rfl<|Zaa rfl<|Zg rfl<|Zah ?_;exact aK 18 (j+1,u2) ⟨by simp only;omega,by simp only;omega,by simp only;omega,by simp only;rw[UL hm U];omega,Or.inr hbp⟩ Ym ⟨Yb,Yb,bDY⟩ rfl rfl Mm5 (aH)
    ·refine aW<|Zas<|Zas<|Zav<|Zat<|Zaq<|aU<|Za rfl<|Zaa rfl<|Zg rfl<|Zah ?_;exact aK 41 (k+1,sm+1,u2) ⟨by simp only;omega,by simp only;rw[vR hx,aQT hcut hns R];omega,by simp only;rw[vR hx,aGU (j:=j) hcut hns G Y Z];omega,by simp only;omega,by simp only;omega⟩ Ym ⟨Yb,Yb,Yb,bDY⟩ rfl rfl Mm5 (fun D h=>⟨D,aZJ _ (aZJ _ (h)),Le.refl D⟩)
   ·refine aT<|aA<|Zg rfl<|aF<|Zar<|gX (γ:=Nat×Nat) (fun g=>1001+1-g.1) (fun g=>1≤g.1∧g.1≤1002∧g.1≤max 1 ns.length∧g.2=un+C0 (decide (p0=⟨#[98,114,111,107,101,110]⟩)) ns g.1∧(g.1=1∨(decide (p0=⟨#[98,114,111,107,101,110]⟩)||decide (p0=⟨#[112,97,114,116]⟩))=true)) (fun g=>[(9,qI (g.1:Int)),(4,qI (g.2:Int))]) [(34,_),(33,_),(8,_),(32,_),(31,_),(30,_),(29,_),(28,_),(27,_),(26,_),(25,_),(24,_),(7,_),(6,_),(23,_),(22,_),(16,_),(21,_),(20,_),(19,_),(18,_),(17,_),(13,_),(12,_),(11,_),(10,_),(5,_),(3,_),(2,_),(0,_)] (fun g=>[D2,D1,D]) (1,un) ⟨by simp,by simp,by simp only;omega,by simp only;rw[IZ];rfl,aZE rfl⟩ ⟨Yb,Yb,bDY⟩ cQ (aH) ?_;rintro⟨j,u2⟩ ⟨h4,h5,Y,h7,Z⟩;simp only at h4 h5 Y h7 Z;have hcj:=VE (decide (p0=⟨#[98,114,111,107,101,110]⟩)) ns j;refine eH<|Za rfl<|Za rfl<|Zab rfl U25 rfl hnv rfl<|Zai rfl<|Za rfl ?_;refine' dJ 7 (s:=41) (p:=48) rfl (fun hg5=>?_) (fun hg5=>?_) ?_;rotate_left
    ·refine Zb rfl<|cN rfl rfl rfl rfl ⟨_,rfl,rfl⟩<|Zb rfl ?_;refine' cR 3 (s:=44) (p:=47) rfl (fun hg6=>?_) (fun hg6=>?_) ?_;rotate_left
     ·refine Zb rfl<|cN rfl rfl rfl rfl ⟨_,rfl,rfl⟩<|rP rfl rfl rfl rfl ⟨_,rfl,rfl⟩ ?_;exact aQ 2
     ·refine Zf rfl<|Zf rfl<|rQ rfl rfl rfl rfl ⟨_,rfl,rfl⟩ ?_;exact aQ 2
     refine Zad rfl ?_;exact aQ 4
    ·refine Zf rfl<|Zf rfl<|Zf rfl<|Zf rfl<|Zf rfl<|Zf rfl<|Zae rfl ?_;exact aQ 6
    refine aF<|aP rfl (fun I=>?_) (fun I=>?_)
    ·have hjl:j<ns.length:=by have hz:=(aYT _ _).mp I;have:=aZW hz.1;omega
     have hbp:=((aYT _ _).mp I).2;obtain⟨m,hm⟩:=dV ns j;refine aT<|aS<|Zar<|aA<|Za rfl<|Za rfl<|jZ rfl hnv rfl hm (fun b5 o5=>Zam rfl<|Za rfl ?_);refine' dJ 7 (s:=56) (p:=63) rfl (fun hg7=>?_) (fun hg7=>?_) ?_;rotate_left
     ·refine Zb rfl<|cN rfl rfl rfl rfl ⟨_,rfl,rfl⟩<|Zb rfl ?_;refine' cR 3 (s:=59) (p:=62) rfl (fun hg8=>?_) (fun hg8=>?_) ?_;rotate_left
      ·refine Zb rfl<|sJ rfl rfl rfl rfl ⟨_,rfl,rfl⟩<|rP rfl rfl rfl rfl ⟨_,rfl,rfl⟩ ?_;exact aQ 2
      ·refine Zf rfl<|Zf rfl<|rQ rfl rfl rfl rfl ⟨_,rfl,rfl⟩ ?_;exact aQ 2
      refine Zad rfl ?_;exact aQ 4
     ·refine Zf rfl<|Zf rfl<|Zf rfl<|Zf rfl<|Zf rfl<|Zf rfl<|Zae rfl ?_;exact aQ 6
     refine aF<|aP rfl (fun V=>?_) (fun V=>?_)
     ·refine aU<|Za rfl<|Zaa rfl<|Zg rfl<|Zah<|Zat<|Zaq<|aU<|Za rfl<|Zaa rfl<|Zg rfl<|Zah ?_;exact aK 21 (j+1,u2+1) ⟨by simp only;omega,by simp only;omega,by simp only;omega,by simp only;rw[KB hm h4 V];omega,Or.inr hbp⟩ Ym ⟨Yb,Yb,bDY⟩ rfl rfl Mm5 (aH)
     ·refine bM<|Zat<|Zaq<|aU<|Za rfl<|Zaa rfl<|Zg rfl<|Zah ?_;exact aK 18 (j+1,u2) ⟨by simp only;omega,by simp only;omega,by simp only;omega,by simp only;rw[UL hm V];omega,Or.inr hbp⟩ Ym ⟨Yb,Yb,bDY⟩ rfl rfl Mm5 (aH)
    ·refine aW<|Zas<|Zas<|Zav<|Zat<|Zaq<|aU<|Za rfl<|Zaa rfl<|Zg rfl<|Zah ?_;exact aK 39 (k+1,sm,u2) ⟨by simp only;omega,by simp only;rw[vR hx,aVF hcut hns R];omega,by simp only;rw[vR hx,aGU (j:=j) hcut hns I Y Z];omega,by simp only;omega,by simp only;omega⟩ Ym ⟨Yb,Yb,Yb,bDY⟩ rfl rfl Mm5 (fun D h=>⟨D,aZJ _ (aZJ _ (h)),Le.refl D⟩)
 ·obtain rfl:k=xs.length:=by simp only at O;omega
  rw[bAA]at h2 h3;refine aW<|Zas<|Zas<|Zav<|Zaq<|aA<|Za rfl<|lE rfl rfl rfl rfl bDY<|Za rfl ?_;refine' dJ 3 (s:=68) (p:=71) rfl (fun hg9=>?_) (fun hg9=>?_) ?_;rotate_left
  ·refine Zb rfl<|lE rfl rfl rfl rfl ⟨_,rfl,rfl⟩<|Zad rfl ?_;exact aQ 2
  ·refine Zf rfl<|Zf rfl<|Zae rfl ?_;exact aQ 2
  refine Zg rfl<|aG ?_;exact aE rfl (fun D hD=>by show Value.bool _=_;rw[aAS h2 h3])
theorem l9(sv:Value)(xs:List ByteArray)(D:aC)(hS:Sl D RS 1 sv xs):Fn prog 26 #[sv] D (fun _ v=>v=.bool (w0 xs)):=by
 refine Zs 14 func26 rfl (fun h0=>aA<|Zg rfl<|aL<|Za rfl<|Zc rfl (fun U I=>aDB _ xs _ (hS.up RS.up (I _ Ye)))<|Za rfl ?_);refine' dJ 4 (s:=5) (p:=9) rfl (fun M=>?_) (fun M=>?_) ?_;rotate_left
 ·refine Zb rfl<|Zd rfl (fun V O=>SO _ xs _ (hS.up RS.up (O _ Ye)))<|sJ rfl rfl rfl rfl ⟨_,rfl,rfl⟩<|Zad rfl ?_;exact aQ 3
 ·refine Zf rfl<|Zf rfl<|Zf rfl<|Zae rfl ?_;exact aQ 3
 refine Za rfl ?_;refine' dJ 3 (s:=10) (p:=13) rfl (fun G=>?_) (fun G=>?_) ?_;rotate_left
 ·have hfz:eR xs=0:=by have:=G;simp at this;exact this.2
  refine Zb rfl<|Zd rfl (fun Y R=>PQ _ xs _ (hS.up RS.up (R _ Ye)) (by have:=S0 hfz;omega) (fun x hx=>by have:=l3 hfz x hx;omega))<|Zad rfl ?_;exact aQ 2
 ·refine Zf rfl<|Zf rfl<|Zae rfl ?_;exact aQ 2
 refine Zg rfl<|aG ?_;exact aE rfl (fun D hD=>rfl)
end L12
namespace L12
open C12 Go.Lib
instance(x:Int):Decidable (NB x):=inferInstanceAs (Decidable (_∧_))
def T2:List ByteArray:=[(⟨#[112,108,97,99,101]⟩:ByteArray),⟨#[115,101,101,110,32,50,32,49]⟩,⟨#[99,111,117,110,116,32,51,32,50]⟩,⟨#[98,97,99,107,32,51,32,51]⟩,⟨#[116,105,100,101,32,50,32,56,32,57]⟩,⟨#[115,116,101,112,32,52]⟩,⟨#[108,101,118,101,108,32,54]⟩,⟨#[109,97,114,107,32,49,32,51,32,57,32,57]⟩,⟨#[104,105,114,101,32,48,32,49]⟩,⟨#[104,105,114,101,32,49,32,50]⟩,⟨#[98,114,105,110,103,32,48,32,49]⟩,⟨#[115,109,117,100,103,101,32,49]⟩,⟨#[98,114,111,107,101,110,32,52,32,49,32,48,32,48]⟩,⟨#[98,114,111,107,101,110,32,53,32,48,32,49,32,50]⟩,⟨#[99,108,97,105,109,32,48,32,50]⟩]
def MM:List ByteArray:=[(⟨#[115,116,101,112,32,48]⟩:ByteArray),⟨#[115,109,117,100,103,101,32,49]⟩,⟨#[108,101,118,101,108,32,48,53]⟩]
def aB:List ByteArray:=[(⟨#[97]⟩:ByteArray)]
theorem HN{D:aC}{b:Nat}{l:List ByteArray}(hA:At D b 0 (l.map Value.string))(hl:l.length≤1000):Sl D RS 1 (qS b l.length l.length) l:=by
 refine⟨_,_,rfl,aZL _,by omega,aYZ ⟨b,0,rfl,fun i x hi=>⟨_,rfl,rfl,fun j v hj=>?_⟩⟩⟩;cases j with
 |zero=>
  obtain rfl:Value.string x=v:=by simpa using hj
  have h:=hA i (.string x) (by rw[aZT,hi];rfl);simpa using h
 |succ j=>simp at hj
theorem aNR:aHJ (aR T2).1:=⟨by decide+kernel,by decide+kernel,by decide+kernel,by decide+kernel,by decide+kernel,by decide+kernel,by decide+kernel,by decide+kernel,by decide+kernel,by decide+kernel,by decide+kernel⟩
theorem aXP:K2 prog 72:=⟨by kernel_rfl,by kernel_rfl,by kernel_rfl⟩
theorem aWS:K2 prog 75:=⟨by kernel_rfl,by kernel_rfl,by kernel_rfl⟩
theorem GN(D:aC):Fn prog 35 #[qN] D (fun D' v=>Sl D' RS 1 v T2):=by
 refine Zs 6 func35 rfl (fun h0=>aA<|Zg rfl<|aL<|Zp rfl U22 iY tf_z9 rfl (.cons rfl rfl (.cons rfl rfl (.cons rfl rfl (.cons rfl rfl (.cons rfl rfl (.cons rfl rfl (.cons rfl rfl (.cons rfl rfl (.cons rfl rfl (.cons rfl rfl (.cons rfl rfl (.cons rfl rfl (.cons rfl rfl (.cons rfl rfl (.cons rfl rfl .nil))))))))))))))) (fun M O I G=>Za rfl<|QZ rfl U22 rfl rfl iY rfl rfl (aZL _) rfl bDY<|Zg rfl<|aG ?_));exact aE rfl (fun D hD=>(HN (l:=T2) G Yy).up RS.up (hD _ Ye))
theorem aNG(mv:Value)(ms:List ByteArray)(D:aC)(hS:Sl D RS 1 mv ms)(I:0<ms.length)(hm:ms.length≤1000):Fn prog 35 #[mv] D (fun D' v=>Sl D' RS 1 v (T2++ms)):=by
 refine Zs 6 func35 rfl (fun h0=>aA<|Zg rfl<|aL<|Zp rfl U22 iY tf_z9 rfl (.cons rfl rfl (.cons rfl rfl (.cons rfl rfl (.cons rfl rfl (.cons rfl rfl (.cons rfl rfl (.cons rfl rfl (.cons rfl rfl (.cons rfl rfl (.cons rfl rfl (.cons rfl rfl (.cons rfl rfl (.cons rfl rfl (.cons rfl rfl (.cons rfl rfl .nil))))))))))))))) (fun U V M G=>Za rfl<|XT (cells:=[.string ⟨#[112,108,97,99,101]⟩,.string ⟨#[115,101,101,110,32,50,32,49]⟩,.string ⟨#[99,111,117,110,116,32,51,32,50]⟩,.string ⟨#[98,97,99,107,32,51,32,51]⟩,.string ⟨#[116,105,100,101,32,50,32,56,32,57]⟩,.string ⟨#[115,116,101,112,32,52]⟩,.string ⟨#[108,101,118,101,108,32,54]⟩,.string ⟨#[109,97,114,107,32,49,32,51,32,57,32,57]⟩,.string ⟨#[104,105,114,101,32,48,32,49]⟩,.string ⟨#[104,105,114,101,32,49,32,50]⟩,.string ⟨#[98,114,105,110,103,32,48,32,49]⟩,.string ⟨#[115,109,117,100,103,101,32,49]⟩,.string ⟨#[98,114,111,107,101,110,32,52,32,49,32,48,32,48]⟩,.string ⟨#[98,114,111,107,101,110,32,53,32,48,32,49,32,50]⟩,.string ⟨#[99,108,97,105,109,32,48,32,50]⟩]) rfl U22 rfl rfl iY tf_z9 rfl DY rfl rfl G Ye rfl (mI.strs hS) Ye Yaq I Yd rfl bDY (fun v1 ν1 O=>Zg rfl<|aG ?_)));have R:bS 9 1 v1 (15+ms.length) ((T2++ms).map Value.string) (ν1++[]):=by rw[aZH,aZA];exact O
 refine gC (A:=[]) (ν:=ν1) (B:=[]) (by simpa using R) rfl (fun Z Y hF=>?_);exact aE rfl (fun D' hD=>(hF.strs (by rw[aYS];rfl) Yd).up RS.up (hD _ Ye))
theorem K5(D:aC)(hV:mF D):Fn prog 10 #[] D (fun _ v=>v=.bool true):=by
 refine Zs 87 func10 rfl (fun h0=>aA<|Zg rfl<|aL<|Zv rfl (fun D1 hH=>GN _) (fun v1 D1 hH hI=>?_));have hJ:=hI;refine Zc rfl (fun D2 V=>R5 _ T2 _ (hJ.up RS.up (V _ Ye)) (hV.up (V _ Ye)))<|Za rfl<|Zaf rfl<|Zaf rfl<|Zx rfl nN rfl (fun q1=>bD rfl rfl rfl rfl eG Ya Ya (bR.head) Yk bDY<|Zg rfl<|aL<|Zv rfl (fun D3 hK=>GN _) (fun v3 D3 hK hM=>?_));have hN:=hM;refine Zc rfl (fun D4 Y=>zN _ T2 _ (hN.up RS.up (Y _ Ye)) (hV.up (Y _ Ye)))<|Za rfl<|Zaf rfl<|Zaf rfl<|Zx rfl oA rfl (fun q2=>bD rfl rfl rfl rfl gY Ya Ya (bR.head) Yk bDY<|Zg rfl<|aL<|Zv rfl (fun D5 hO=>GN _) (fun v5 D5 hO hR=>?_));have hS:=hR;refine Zc rfl (fun D6 Z=>aBS _ T2 _ (hS.up RS.up (Z _ Ye)) (hV.up (Z _ Ye)) (fun _=>aNR))<|Za rfl<|Zaf rfl<|Zaf rfl<|Zg rfl<|Zg rfl<|aL<|Zp rfl U22 iY tf_z9 rfl (.cons rfl rfl .nil) (fun b901 D901 hX I=>Zv rfl (fun D7 hB=>aIV _ aB _ ((HN (l:=aB) I Yy).up RS.up (hB _ Ye))) (fun v7 D7 hB hY=>?_));obtain⟨wv,rfl,hwr⟩:=hY;refine Za rfl<|Zaf rfl<|Zaf rfl<|Zg rfl<|Zg rfl<|aL<|Zp rfl U22 iY tf_z9 rfl (.cons rfl rfl (.cons rfl rfl (.cons rfl rfl .nil))) (fun b902 D902 rA M=>Zv rfl (fun D8 hE=>aNG _ MM _ ((HN (l:=MM) M Yy).up RS.up (hE _ Ye)) Yy Yy) (fun v8 D8 hE rB=>?_));have hd5:=rB;refine Zv rfl (fun D9 O=>Q1 _ (T2++MM) _ (hd5.up RS.up (O _ Ye)) (hV.up (O _ Ye))) (fun v9 D9 O hp9=>?_);obtain⟨w1,w2,rfl,⟨pv,cv,hv,lv,mv,bl,bc,yc,yq,rfl,hL⟩,hes⟩:=hp9;unfold dO;obtain⟨ea,ec,rfl⟩:=hes.shape;have p3len:(aR (T2++MM)).2.1.length=18:=by decide+kernel
 refine Za rfl<|Zaf rfl<|Zaf rfl<|Zaf rfl<|Zx rfl oL rfl (fun q3=>bD rfl rfl rfl rfl dX Ya Ya (bR.head) (iU hL) bDY<|Zg rfl<|Zg rfl<|aL<|Za rfl<|Zam rfl<|Za rfl ?_);refine' dJ 4 (s:=41) (p:=45) rfl (fun hg1=>?_) (fun hg1=>?_) ?_;rotate_left
 ·refine bK rfl mM rfl Mm2 eG n3 rfl ⟨_,rfl,rfl⟩<|kE (cs:=[qI 25,qI 25]) rfl R8 nN rfl rfl rfl ⟨_,rfl,rfl⟩<|aEB (a:=(w9 T2).1) (b:=(25,25)) rfl Yg aXP rfl rfl rfl ⟨_,rfl,rfl⟩<|Zad rfl ?_;exact aQ 3
 ·refine Zf rfl<|Zf rfl<|Zf rfl<|Zae rfl ?_;exact aQ 3
 refine Za rfl ?_;refine' dJ 3 (s:=46) (p:=49) rfl (fun hg2=>?_) (fun hg2=>?_) ?_;rotate_left
 ·refine Zb rfl<|sJ rfl rfl rfl rfl ⟨_,rfl,rfl⟩<|Zad rfl ?_;exact aQ 2
 ·refine Zf rfl<|Zf rfl<|Zae rfl ?_;exact aQ 2
 refine Za rfl ?_;refine' dJ 4 (s:=50) (p:=54) rfl (fun hg3=>?_) (fun hg3=>?_) ?_;rotate_left
 ·refine bK rfl wL rfl Mm1 gY n3 rfl ⟨_,rfl,rfl⟩<|kE (cs:=[qI 4,qI 4]) rfl x9 oA rfl rfl rfl ⟨_,rfl,rfl⟩<|aEB (a:=(zR T2).1) (b:=(4,4)) rfl Yg aWS rfl rfl rfl ⟨_,rfl,rfl⟩<|Zad rfl ?_;exact aQ 3
 ·refine Zf rfl<|Zf rfl<|Zf rfl<|Zae rfl ?_;exact aQ 3
 refine Za rfl ?_;refine' dJ 3 (s:=55) (p:=58) rfl (fun hg4=>?_) (fun hg4=>?_) ?_;rotate_left
 ·refine Zb rfl<|sJ rfl rfl rfl rfl ⟨_,rfl,rfl⟩<|Zad rfl ?_;exact aQ 2
 ·refine Zf rfl<|Zf rfl<|Zae rfl ?_;exact aQ 2
 refine Za rfl ?_;refine' dJ 3 (s:=59) (p:=62) rfl (fun hg5=>?_) (fun hg5=>?_) ?_;rotate_left
 ·refine Zb rfl<|cN rfl rfl rfl rfl ⟨_,rfl,rfl⟩<|Zad rfl ?_;exact aQ 2
 ·refine Zf rfl<|Zf rfl<|Zae rfl ?_;exact aQ 2
 refine Za rfl ?_;refine' dJ 3 (s:=63) (p:=66) rfl (fun hg6=>?_) (fun hg6=>?_) ?_;rotate_left
 ·refine Zb rfl<|sJ rfl rfl rfl rfl ⟨_,rfl,rfl⟩<|Zad rfl ?_;exact aQ 2
 ·refine Zf rfl<|Zf rfl<|Zae rfl ?_;exact aQ 2
 refine Za rfl ?_;refine' dJ 4 (s:=67) (p:=71) rfl (fun hg7=>?_) (fun hg7=>?_) ?_;rotate_left
 ·refine Zb rfl<|xF rfl U99 U5 U9 rfl hwr Ye (fun _ _ _ _ _=>n3) rfl ⟨_,rfl,rfl⟩<|cN rfl rfl rfl rfl ⟨_,rfl,rfl⟩<|Zad rfl ?_;exact aQ 3
 ·refine Zf rfl<|Zf rfl<|Zf rfl<|Zae rfl ?_;exact aQ 3
 refine Za rfl ?_;refine' dJ 3 (s:=72) (p:=75) rfl (fun hg8=>?_) (fun hg8=>?_) ?_;rotate_left
 ·refine Zb rfl<|sJ rfl rfl rfl rfl ⟨_,rfl,rfl⟩<|Zad rfl ?_;exact aQ 2
 ·refine Zf rfl<|Zf rfl<|Zae rfl ?_;exact aQ 2
 refine Za rfl ?_;refine' dJ 4 (s:=76) (p:=80) rfl (fun hg9=>?_) (fun hg9=>?_) ?_;rotate_left
 ·refine Zb rfl<|cZ rfl U43 rfl hes rfl rfl ⟨_,rfl,rfl⟩<|sJ rfl rfl rfl rfl ⟨_,rfl,rfl⟩<|Zad rfl ?_;exact aQ 3
 ·refine Zf rfl<|Zf rfl<|Zf rfl<|Zae rfl ?_;exact aQ 3
 refine Za rfl ?_;refine' dJ 5 (s:=81) (p:=86) rfl (fun hF=>?_) (fun hF=>?_) ?_;rotate_left
 ·refine Zb rfl<|CN (j:=15) rfl U43 pG rfl hes rfl (by rw[p3len];omega) rfl ⟨_,rfl,rfl⟩ (fun ta hT=>L0 rfl U25 aM dS rfl rfl rfl rfl (.cons rfl rfl (.cons rfl rfl (.cons rfl rfl .nil))) rfl ⟨_,rfl,rfl⟩ (fun b903 D903 hD903 R=>?_));have U:=Sl.ofInts (l:=[_,_,_]) (n:=3) (cap:=3) R rfl Yd Yd;refine Zd rfl (fun D10 G=>RW _ _ ((aR (T2++MM)).2.1.drop 15) [9,6,4] _ (hT.up RI.up (G _ Ye)) (U.up RI.up (G _ Ye)))<|Zad rfl ?_;exact X0 fun a w hh=>(hh.cutK 4 rfl).ds (fun _ h=>aZJ _ (h))
 ·refine Zf rfl<|Zf rfl<|Zf rfl<|Zf rfl<|Zae rfl ?_;exact aQ 4
 refine Zg rfl<|aG ?_;exact aE rfl (fun D hD=>aYY Value.bool Yad)
end L12
namespace L12
open C12 Go.Lib
theorem ZY{s:aN}(h:dK s=0)(line:ByteArray):dK (nB s line).1=0:=by
 unfold nB;split
 ·exact h
 ·split
  ·exact h
  ·split
   ·rename_i h2;exact h2
   ·exact h
theorem NG:dK qZ=0:=by decide+kernel
theorem j9{I:aN→Prop}(hI:∀s l,I s→I (nB s l).1):∀(ls:List ByteArray) (p:aN×List Int),I p.1→I (ls.foldl (fun p l=>((nB p.1 l).1,p.2++[(nB p.1 l).2])) p).1
 | [],_,h=>h
 |l::ls,_p,h=>j9 hI ls _ (hI _ l h)
theorem p7{I:aN→Prop}(hI:∀s l,I s→I (nB s l).1)(h0:I qZ)(ls:List ByteArray):I (cA ls).1:=j9 hI ls _ h0
theorem tU(ls:List ByteArray):dK (cA ls).1=0:=p7 (I:=fun s=>dK s=0) (fun _ l h=>ZY h l) NG ls
theorem nX{s:aN}(h:dK s=0):C1.cK s.row true=0∧C2.aV s.table=0∧C2.jV s.table true=0∧C3.aV s.book=0∧C7.aV s.yard=0∧(L7.cF s.yard).2=0:=by
 unfold dK at h;split at h
 ·cases h
 ·split at h
  ·cases h
  ·split at h
   ·cases h
   ·split at h
    ·cases h
    ·split at h
     ·cases h
     ·split at h
      ·cases h
      ·rename_i h1 h2 h3 h4 h5 G;exact⟨bDF.1 h1,bDF.1 h2,bDF.1 h3,bDF.1 h4,bDF.1 h5,bDF.1 G⟩
end L12
theorem qA{dd:Nat}{f:Field}{fs:List Field}{xs ys:Array Value}{a b:Value}{r r':Bool}{w:World}(hn:f.name≠ "_")
  (h1:(part f.type xs f.offset).run P w=.ok a w) (h2:(part f.type ys f.offset).run P w=.ok b w) (h3:(Op.equalIn dd f.type a b).run P w=.ok r w) (h4:(Op.eqFields dd xs ys fs).run P w=.ok r' w):
  (Op.eqFields dd xs ys (f::fs)).run P w=.ok (r&&r') w:=by
 rw[Op.eqFields,aZK hn];simp only[Sem.run_bind,h1,h2,Result.andThen_ok];rw[h3];simp only[Result.andThen_ok];cases r with
 |true=>simpa using h4
 |false=>simp
theorem GF{dd:Nat}{xs ys:Array Value}{w:World}:(Op.eqFields dd xs ys []).run P w=.ok true w:=rfl
inductive H1(P:Program):Nat→Nat→List Field→Prop
 |nil {o}:H1 P o o []
 |cons {o e f fs} (hn:f.name≠ "_") (ho:f.offset=o) (ht:P.underlying f.type=some (.int .i64)) (r:H1 P (o+1) e fs):H1 P o e (f::fs)
theorem H1.le{o e:Nat}{fs:List Field}(h:H1 P o e fs):o≤e:=by
 induction h with
 |nil=>exact aZL _
 |cons _ _ _ _ ih=>omega
theorem BK(dd:Nat)(l m:List Int)(w:World){o e:Nat}{fs:List Field}(h:H1 P o e fs)(hl:l.length=e)(hm:m.length=e):(Op.eqFields (dd+1) (ints l).toArray (ints m).toArray fs).run P w=.ok (l.drop o==m.drop o) w:=by
 induction h with
 |nil=>
  rw[aZZ Yd,aZZ Yd];rfl
 | @cons o e f fs hn ho ht r ih=>
  have hle:=r.le;have h1:l[o]?= some (l[o]'Yd):=aYU _;have h2:m[o]?= some (m[o]'Yd):=aYU _;rw[qA hn (dA ht (by rw[ho];simpa using cD h1) w) (dA ht (by rw[ho];simpa using cD h2) w) (run_equalIn_int w dd f.type .i64 .i64 _ _ ht) (ih hl hm)]
  congr 1;rw[show l.drop o=l[o]::l.drop (o+1)from bAM _,show m.drop o=m[o]::m.drop (o+1)from bAM _];rfl
theorem jY.str{f:Field}{o n:Nat}(hn:f.name≠ "_")(ho:f.offset=o)(hu:P.underlying f.type=some (.struct (P.fieldsOf f.type)))(hst:P.stoodInHeld f.type=false)(ha:TA P f.type true)(hs:TS P f.type n)(hc:H1 P 0 n (P.fieldsOf f.type).toList):jY P f o n:=by
 refine⟨hn,fun l m w hl hm=>⟨_,_,by rw[ho];exact sH ha hs hl w,by rw[ho];exact sH ha hs hm w,?_⟩⟩;have he:=run_equalIn_struct (P:=P) w 9998 f.type (ints ((l.drop o).take n)).toArray (ints ((m.drop o).take n)).toArray hu hst;show(Op.equalIn (9998+1) _ _ _).run P w=_;rw[he,BK 9997 _ _ w hc Yau Yau];simp
structure KC(P:Program)(t:TypeId)(f0 f1 f2:Field):Prop where
 und:P.underlying t=some (.struct (P.fieldsOf t))
 held:P.stoodInHeld t=false
 guard:P.eqGuardType P.depth t=false
 fs:(P.fieldsOf t).toList=[f0,f1,f2]
 n0:f0.name≠ "_"
 n1:f1.name≠ "_"
 n2:f2.name≠ "_"
 o0:f0.offset=0
 o1:f1.offset=1
 o2:f2.offset=2
 t0:P.underlying f0.type=some .bool
 t1:P.underlying f1.type=some (.int .i64)
 t2:P.underlying f2.type=some (.int .i64)
theorem BP{t:TypeId}{f0 f1 f2:Field}(h:KC P t f0 f1 f2)(a b:C1.xI)(w:World):(Op.equal t (cV a) (cV b)).run P w=.ok (decide (a=b)) w:=by
 have he:=run_equalIn_struct (P:=P) w 9999 t #[.bool a.back,qI a.many,qI a.num] #[.bool b.back,qI b.many,qI b.num] h.und h.held;show(Op.equalIn (9999+1) t (cV a) (cV b)).run P w=_;refine he.trans ?_;rw[h.fs,qA h.n0 (run_part_plain w (by simp[Program.plainKey,h.t0]) (by rw[h.o0];rfl)) (run_part_plain w (by simp[Program.plainKey,h.t0]) (by rw[h.o0];rfl)) (run_equalIn_bool w 9998 f0.type _ _ h.t0)
  (qA h.n1 (dA h.t1 (by rw[h.o1];rfl) w) (dA h.t1 (by rw[h.o1];rfl) w) (run_equalIn_int w 9998 f1.type .i64 .i64 _ _ h.t1)
   (qA h.n2 (dA h.t2 (by rw[h.o2];rfl) w) (dA h.t2 (by rw[h.o2];rfl) w) (run_equalIn_int w 9998 f2.type .i64 .i64 _ _ h.t2) GF))]
 congr 1;obtain⟨G,a2,a3⟩:=a;obtain⟨I,b2,M⟩:=b;rw[bCG];simp[C1.xI.mk.injEq]
theorem aDX{t t':TypeId}{f0 f1 f2:Field}{a b:C1.xI}(ho:all[ix]?= some ⟨some d,.binOp .neq t x y t',ty,pos,aft,g⟩)(ht:KC P t f0 f1 f2)(hx:ev σ x=some (cV a))(hy:ev σ y=some (cV b))(hN:Nat.blt d X.N=true)(hg:dE all σ g)
  (kk:WL P X bad all K Q os ((d,.bool (!(decide (a=b))))::σ) μ Ds):WL P X bad all K Q ((fl,ix)::os) σ μ Ds:=
 HX ho (fun w=>by
  have hgd:(eqGuard .neq t x y (cV a) (cV b)).run P w=.ok () w:=by
   simp only[eqGuard,program,cV];simp[Sem.run,ht.guard,go_sem]
  rw[Sem.run_bind,hgd];show((do Pure.pure (Value.bool (!(←Op.equal t (cV a) (cV b))))):Sem Value).run P w=_;rw[Sem.run_bind,BP ht];rfl) hx hy hN hg kk
namespace L12
open C12
section
variable{α:Type}{xs ys:List α}{k:Nat}{a b:α}
theorem aXM{α:Type}[DecidableEq α]{a b:α}(h:(!decide (a=b))=false):a=b:=by simpa using h
theorem aXN{α:Type}[DecidableEq α]{a b:α}(h:(!decide (a=b))=true):a≠b:=by simpa using h
theorem wP(hl:xs.length=ys.length)(hk:xs.length≤k)(h:xs.take k=ys.take k):xs=ys:=by
 rwa [aZP hk,aZP Yd]at h
theorem sO(ha:xs[k]?= some a)(hb:ys[k]?= some b)(e:xs=ys):a=b:=by
 rw[e,hb]at ha;exact(aZO ha).symm
end
theorem BU{l m:List Int}(h:(!(l==m))=false):l=m:=by simpa using h
theorem EC{α:Type}{f:α→List Int}{a b:α}(h:(!(f a==f b))=true):a≠b:=fun e=>by rw[e]at h;simp at h
def aWK(p:Int×Int):List Int:=[p.1,p.2]
def aXT(m:C2.Mk):List Int:=[m.frm,m.to,m.lo,m.hi]
def aYA(c:C3.Cn):List Int:=[c.after,c.lo,c.hi]
def aYB(l:C3.gI):List Int:=[l.kind,l.chair,l.token]
def aWD(c:C7.Ch):List Int:=[c.size,c.parts.a,c.parts.b,c.parts.c]
theorem TH{a b:Int×Int}(h:aWK a=aWK b):a=b:=by
 obtain⟨G,a2⟩:=a;obtain⟨I,b2⟩:=b
 simp only[aWK,bAT,and_true]at h;rw[h.1,h.2]
theorem aQA{a b:C2.Mk}(h:aXT a=aXT b):a=b:=by
 obtain⟨G,a2,a3,a4⟩:=a;obtain⟨I,b2,M,O⟩:=b
 simp only[aXT,bAT,and_true]at h;rw[h.1,h.2.1,h.2.2.1,h.2.2.2]
theorem aLP{a b:C3.Cn}(h:aYA a=aYA b):a=b:=by
 obtain⟨G,a2,a3⟩:=a;obtain⟨I,b2,M⟩:=b
 simp only[aYA,bAT,and_true]at h;rw[h.1,h.2.1,h.2.2]
theorem aRU{a b:C3.gI}(h:aYB a=aYB b):a=b:=by
 obtain⟨G,a2,a3⟩:=a;obtain⟨I,b2,M⟩:=b
 simp only[aYB,bAT,and_true]at h;rw[h.1,h.2.1,h.2.2]
theorem US{a b:C7.Ch}(h:aWD a=aWD b):a=b:=by
 obtain⟨G,a2,a3,a4⟩:=a;obtain⟨I,b2,M,O⟩:=b
 simp only[aWD,bAT,and_true]at h;rw[h.1,h.2.1,h.2.2.1,h.2.2.2]
instance:DecidableEq C7.Ch:=fun a b=>decidable_of_iff (aWD a=aWD b) ⟨US,fun e=>by rw[e]⟩
def N3(a b:C1.dG):Bool:=decide (a.wrong=b.wrong∧a.off=b.off∧a.places=b.places∧a.counts=b.counts)
theorem ZC{a b:C1.dG}(h:(decide (a.wrong≠b.wrong)||decide (a.off≠b.off)|| !decide (a.places=b.places)||decide ((a.counts.length:Int)≠(b.counts.length:Int)))=false):a.wrong=b.wrong∧a.off=b.off∧a.places=b.places∧a.counts.length=b.counts.length:=by
 simp only[bAU,Bool.not_eq_false',bAH,Decidable.not_not,aZI]at h;exact⟨h.1.1.1,h.1.1.2,h.1.2,by omega⟩
theorem RJ{a b:C1.dG}(h:(decide (a.wrong≠b.wrong)||decide (a.off≠b.off)|| !decide (a.places=b.places)||decide ((a.counts.length:Int)≠(b.counts.length:Int)))=true):N3 a b=false:=
 bCC fun⟨G,I,M,O⟩=>by rw[G,I,M,O]at h;simp at h
def vB(a b:C2.aY):Bool:=decide (a.last=b.last∧a.step=b.step∧a.levels=b.levels∧a.heights=b.heights∧a.marks=b.marks)
theorem IN{a b:C2.aY}(h:(decide (a.last≠b.last)||decide (a.step≠b.step)|| !decide (a.levels=b.levels)||decide ((a.heights.length:Int)≠(b.heights.length:Int))||decide ((a.marks.length:Int)≠(b.marks.length:Int)))=false):a.last=b.last∧a.step=b.step∧a.levels=b.levels∧a.heights.length=b.heights.length∧a.marks.length=b.marks.length:=by
 simp only[bAU,Bool.not_eq_false',bAH,Decidable.not_not,aZI]at h;exact⟨h.1.1.1.1,h.1.1.1.2,h.1.1.2,by omega,by omega⟩
theorem HJ{a b:C2.aY}(h:(decide (a.last≠b.last)||decide (a.step≠b.step)|| !decide (a.levels=b.levels)||decide ((a.heights.length:Int)≠(b.heights.length:Int))||decide ((a.marks.length:Int)≠(b.marks.length:Int)))=true):vB a b=false:=
 bCC fun⟨G,I,M,O,R⟩=>by rw[G,I,M,O,R]at h;simp at h
def zL(a b:C3.bA):Bool:=decide (a.chairs=b.chairs∧a.coin=b.coin∧a.box=b.box∧a.lines=b.lines∧a.counts=b.counts)
theorem SK{a b:C3.bA}(h:(decide (a.chairs≠b.chairs)||decide (a.coin≠b.coin)||decide (a.box≠b.box)||decide ((a.lines.length:Int)≠(b.lines.length:Int))||decide ((a.counts.length:Int)≠(b.counts.length:Int)))=false):a.chairs=b.chairs∧a.coin=b.coin∧a.box=b.box∧a.lines.length=b.lines.length∧a.counts.length=b.counts.length:=by
 simp only[bAU,bAH,Decidable.not_not]at h;exact⟨h.1.1.1.1,h.1.1.1.2,h.1.1.2,by omega,by omega⟩
theorem MN{a b:C3.bA}(h:(decide (a.chairs≠b.chairs)||decide (a.coin≠b.coin)||decide (a.box≠b.box)||decide ((a.lines.length:Int)≠(b.lines.length:Int))||decide ((a.counts.length:Int)≠(b.counts.length:Int)))=true):zL a b=false:=
 bCC fun⟨G,I,M,O,R⟩=>by rw[G,I,M,O,R]at h;simp at h
def zD(a b:C7.bC):Bool:=decide (a.fit=b.fit∧a.chairs=b.chairs∧a.claims=b.claims)
theorem OI{a b:C7.bC}(h:(decide (a.fit≠b.fit)||decide ((a.chairs.length:Int)≠(b.chairs.length:Int))||decide ((a.claims.length:Int)≠(b.claims.length:Int)))=false):a.fit=b.fit∧a.chairs.length=b.chairs.length∧a.claims.length=b.claims.length:=by
 simp only[bAU,bAH,Decidable.not_not]at h;exact⟨h.1.1,by omega,by omega⟩
theorem JK{a b:C7.bC}(h:(decide (a.fit≠b.fit)||decide ((a.chairs.length:Int)≠(b.chairs.length:Int))||decide ((a.claims.length:Int)≠(b.claims.length:Int)))=true):zD a b=false:=
 bCC fun⟨G,I,M⟩=>by rw[G,I,M]at h;simp at h
def GY(a b:aN):Bool:=N3 a.row b.row&&vB a.table b.table&&zL a.book b.book&&zD a.yard b.yard
theorem NH(a:C1.dG):N3 a a=true:=by simp[N3]
theorem BG(a:C2.aY):vB a a=true:=by simp[vB]
theorem FX(a:C3.bA):zL a a=true:=by simp[zL]
theorem GL(a:C7.bC):zD a a=true:=by simp[zD]
theorem IX(a:aN):GY a a=true:=by simp[GY,NH,BG,FX,GL]
theorem aVM:KS prog 206 3:=by
 have hf:(prog.fieldsOf 206).toList=[(prog.fieldsOf 206)[0]!,(prog.fieldsOf 206)[1]!,(prog.fieldsOf 206)[2]!]:=by kernel_rfl
 refine⟨by kernel_rfl,by kernel_rfl,by kernel_rfl,?_⟩;rw[hf];exact .cons (jY.int Yad Yg Yg) (.cons (jY.int Yad Yg Yg) (.cons (jY.int Yad Yg Yg) .nil))
theorem aXC:KS prog 93 2:=by
 have hf:(prog.fieldsOf 93).toList=[(prog.fieldsOf 93)[0]!,(prog.fieldsOf 93)[1]!]:=by kernel_rfl
 refine⟨by kernel_rfl,by kernel_rfl,by kernel_rfl,?_⟩;rw[hf];exact .cons (jY.int Yad Yg Yg) (.cons (jY.int Yad Yg Yg) .nil)
theorem aSY:KS prog 204 4:=by
 have hf:(prog.fieldsOf 204).toList=[(prog.fieldsOf 204)[0]!,(prog.fieldsOf 204)[1]!,(prog.fieldsOf 204)[2]!]:=by kernel_rfl
 refine⟨by kernel_rfl,by kernel_rfl,by kernel_rfl,?_⟩;rw[hf];refine .cons (jY.int Yad Yg Yg) (.cons (jY.int Yad Yg Yg) (.cons (n:=2) (jY.str Yad Yg Yg Yg ?_ ?_ ?_) .nil))
 ·rw[show(((prog.fieldsOf 204)[2]!)).type=93 by kernel_rfl];exact jQ
 ·rw[show(((prog.fieldsOf 204)[2]!)).type=93 by kernel_rfl];exact cB
 ·rw[show(((prog.fieldsOf 204)[2]!)).type=93 by kernel_rfl,show(prog.fieldsOf 93).toList=[(prog.fieldsOf 93)[0]!,(prog.fieldsOf 93)[1]!] by kernel_rfl];exact .cons Yad Yg Yg (.cons Yad Yg Yg .nil)
theorem aVV:KS prog 208 3:=by
 have hf:(prog.fieldsOf 208).toList=[(prog.fieldsOf 208)[0]!,(prog.fieldsOf 208)[1]!]:=by kernel_rfl
 refine⟨by kernel_rfl,by kernel_rfl,by kernel_rfl,?_⟩;rw[hf];refine .cons (jY.int Yad Yg Yg) (.cons (n:=2) (jY.str Yad Yg Yg Yg ?_ ?_ ?_) .nil)
 ·rw[show(((prog.fieldsOf 208)[1]!)).type=72 by kernel_rfl];exact mM
 ·rw[show(((prog.fieldsOf 208)[1]!)).type=72 by kernel_rfl];exact eG
 ·rw[show(((prog.fieldsOf 208)[1]!)).type=72 by kernel_rfl,show(prog.fieldsOf 72).toList=[(prog.fieldsOf 72)[0]!,(prog.fieldsOf 72)[1]!] by kernel_rfl];exact .cons Yad Yg Yg (.cons Yad Yg Yg .nil)
theorem aTY:KS prog 212 4:=by
 have hf:(prog.fieldsOf 212).toList=[(prog.fieldsOf 212)[0]!,(prog.fieldsOf 212)[1]!]:=by kernel_rfl
 refine⟨by kernel_rfl,by kernel_rfl,by kernel_rfl,?_⟩;rw[hf];refine .cons (jY.int Yad Yg Yg) (.cons (n:=3) (jY.arr (e:=3) Yad Yg Yg Yg Yg ?_ ?_) .nil)
 ·rw[show(((prog.fieldsOf 212)[1]!)).type=210 by kernel_rfl];exact nH
 ·rw[show(((prog.fieldsOf 212)[1]!)).type=210 by kernel_rfl];exact mA
theorem aWR:KS prog 90 2:=by
 have hf:(prog.fieldsOf 90).toList=[(prog.fieldsOf 90)[0]!,(prog.fieldsOf 90)[1]!]:=by kernel_rfl
 refine⟨by kernel_rfl,by kernel_rfl,by kernel_rfl,?_⟩;rw[hf];exact .cons (jY.int Yad Yg Yg) (.cons (jY.int Yad Yg Yg) .nil)
theorem aTI:KC prog 202 (prog.fieldsOf 202)[0]! (prog.fieldsOf 202)[1]! (prog.fieldsOf 202)[2]! :=⟨by kernel_rfl,by kernel_rfl,by kernel_rfl,by kernel_rfl,by decide+kernel,by decide+kernel,by decide+kernel,by kernel_rfl,by kernel_rfl,by kernel_rfl,by kernel_rfl,by kernel_rfl,by kernel_rfl⟩
theorem aDD(av bv:Value)(a0 U:C1.dG)(D:aC)(hx:pC D av a0)(hy:pC D bv U):Fn prog 39 #[av,bv] D (fun _ v=>v=.bool (N3 a0 U)):=by
 obtain⟨pv,cv,rfl,Y,M⟩:=hx;obtain⟨qv,dv,rfl,Z,hd0⟩:=hy;have hB:=M.len;refine Zs 53 func39 rfl (fun h0=>aA<|Zu rfl (fun q1 E1 hY G=>Zu rfl (fun q2 E2 rA I=>Zg rfl<|bJ<|Zh rfl yP rfl<|Zj 2 rfl aJ rfl G rfl<|Zh rfl yP rfl<|Zj 2 rfl aJ rfl I rfl<|Zak rfl<|Za rfl ?_)));refine' cR 6 (s:=11) (p:=17) rfl (fun hE=>?_) (fun hE=>?_) ?_;rotate_left
 ·refine Zi rfl vS rfl<|Zk 3 rfl aJ rfl G rfl<|Zi rfl vS rfl<|Zk 3 rfl aJ rfl I rfl<|mS rfl rfl rfl rfl ⟨_,rfl,rfl⟩<|Zae rfl ?_;exact aQ 5
 ·refine Zf rfl<|Zf rfl<|Zf rfl<|Zf rfl<|Zf rfl<|Zad rfl ?_;exact aQ 5
 refine Za rfl ?_;refine' cR 7 (s:=18) (p:=25) rfl (fun hF=>?_) (fun hF=>?_) ?_;rotate_left
 ·refine Zi rfl eB rfl<|Zk 0 rfl dN rfl G rfl<|Zi rfl eB rfl<|Zk 0 rfl dN rfl I rfl<|Zd rfl (fun D1 V=>CX _ _ a0.places U.places _ (Y.up RI.up (V _ Ye)) (Z.up RI.up (V _ Ye)))<|lJ rfl rfl rfl ⟨_,rfl,rfl⟩<|Zae rfl ?_;exact aQ 6
 ·refine Zf rfl<|Zf rfl<|Zf rfl<|Zf rfl<|Zf rfl<|Zf rfl<|Zad rfl ?_;exact aQ 6
 refine Za rfl ?_;refine' cR 8 (s:=26) (p:=34) rfl (fun hH=>?_) (fun hH=>?_) ?_;rotate_left
 ·refine Zi rfl hP rfl<|Zk 1 rfl pT rfl G rfl<|cZ rfl U26 rfl M rfl rfl ⟨_,rfl,rfl⟩<|Zi rfl hP rfl<|Zk 1 rfl pT rfl I rfl<|cZ rfl U26 rfl hd0 rfl rfl ⟨_,rfl,rfl⟩<|mS rfl rfl rfl rfl ⟨_,rfl,rfl⟩<|Zae rfl ?_;exact aQ 7
 ·refine Zf rfl<|Zf rfl<|Zf rfl<|Zf rfl<|Zf rfl<|Zf rfl<|Zf rfl<|Zad rfl ?_;exact aQ 7
 refine aF<|aP rfl (fun O=>?_) (fun O=>?_)
 ·refine aA<|Zg rfl<|aG<|Zap ?_;exact aE rfl (fun D hD=>aYY Value.bool (RJ O).symm)
 ·obtain⟨hw,ho,hp,hI⟩:=ZC O;refine aT<|eH<|Zg rfl<|aF<|Zar<|Zl Nat (fun k=>(a0.counts).length-k) (fun k=>k≤(a0.counts).length∧(a0.counts).take k=(U.counts).take k) (fun k=>[(5,qI (k:Int))]) [(4,_),(3,_),(2,_)] (fun k=>[E2,E1,D]) 0 ⟨Yb,bDY⟩ ?_;rintro k ⟨h1,h2⟩;refine eH<|Za rfl<|Zh rfl hP rfl<|Zj 1 rfl pT rfl G rfl<|Zab rfl U26 rfl M rfl<|Zai rfl<|aF<|Zz rfl (fun hc2=>?_) (fun hc2=>?_)
  ·have hk:k<(a0.counts).length:=by omega
   obtain⟨a,ha⟩:=dV (a0.counts) k;obtain⟨b,hb⟩:=dV (U.counts) k;refine aT<|aS<|Zar<|aS<|bW [] 4 11 996<|Zh rfl hP rfl<|Zj 1 rfl pT rfl G rfl<|Za rfl<|Zw rfl U26 gV rfl M rfl ha (fun b1 o1 hJ hK hS hM=>?_);have e1:hJ=_:=hK;subst e1;refine Zq rfl A7 rfl hM gV<|Zh rfl hP rfl<|Zj 1 rfl pT rfl I rfl<|Za rfl<|Zw rfl U26 gV rfl hd0 rfl hb (fun b2 o2 hN hO hX hR=>?_);have e2:hN=_:=hO;subst e2;refine Zq rfl A7 rfl hR gV<|aDX rfl aTI rfl rfl rfl bDY<|aF<|aP rfl (fun R=>?_) (fun R=>?_)
   ·refine aA<|Zg rfl<|aG<|Zau<|Zap<|Zap<|Zau<|Zap ?_;exact aE rfl (fun D hD=>aYY Value.bool (bCC (fun e=>absurd (sO ha hb (e.2.2.2)) (aXN R))).symm)
   ·refine bM<|Zat<|Zaq<|aU<|Za rfl<|Zaa rfl<|Zg rfl<|Zah ?_;exact aK 20 (k+1) ⟨by omega,oR ha hb h2 (aXM R)⟩ Yd ⟨Yb,bDY⟩ rfl rfl Mm5 (aH)
  ·have h5:a0.counts=U.counts:=wP hI Yd h2;refine aW<|Zas<|Zas<|Zav<|Zaq<|aA<|Zg rfl<|aG ?_;exact aE rfl (fun D hD=>aYY Value.bool (decide_eq_true (⟨hw,ho,hp,h5⟩)).symm)
theorem ND(av bv:Value)(a0 M:C2.aY)(D:aC)(hx:iJ D av a0)(hy:iJ D bv M):Fn prog 40 #[av,bv] D (fun _ v=>v=.bool (vB a0 M)):=by
 obtain⟨hv,lv,mv,rfl,O,hv0,R⟩:=hx;obtain⟨gv,kv,nv,rfl,Z,hF,hB⟩:=hy;have hH:=O.len;have hI:=R.len;refine Zs 81 func40 rfl (fun h0=>aA<|Zu rfl (fun q1 E1 hE1 G=>Zu rfl (fun q2 E2 hE2 I=>Zg rfl<|bJ<|Zh rfl jU rfl<|Zj 0 rfl aJ rfl G rfl<|Zh rfl jU rfl<|Zj 0 rfl aJ rfl I rfl<|Zak rfl<|Za rfl ?_)));refine' cR 6 (s:=12) (p:=18) rfl (fun hJ=>?_) (fun hJ=>?_) ?_;rotate_left
 ·refine Zi rfl tH rfl<|Zk 2 rfl aJ rfl G rfl<|Zi rfl tH rfl<|Zk 2 rfl aJ rfl I rfl<|mS rfl rfl rfl rfl ⟨_,rfl,rfl⟩<|Zae rfl ?_;exact aQ 5
 ·refine Zf rfl<|Zf rfl<|Zf rfl<|Zf rfl<|Zf rfl<|Zad rfl ?_;exact aQ 5
 refine Za rfl ?_;refine' cR 7 (s:=19) (p:=26) rfl (fun hK=>?_) (fun hK=>?_) ?_;rotate_left
 ·refine Zi rfl gR rfl<|Zk 3 rfl dN rfl G rfl<|Zi rfl gR rfl<|Zk 3 rfl dN rfl I rfl<|Zd rfl (fun D1 hE=>CX _ _ a0.levels M.levels _ (hv0.up RI.up (hE _ Ye)) (hF.up RI.up (hE _ Ye)))<|lJ rfl rfl rfl ⟨_,rfl,rfl⟩<|Zae rfl ?_;exact aQ 6
 ·refine Zf rfl<|Zf rfl<|Zf rfl<|Zf rfl<|Zf rfl<|Zf rfl<|Zad rfl ?_;exact aQ 6
 refine Za rfl ?_;refine' cR 8 (s:=27) (p:=35) rfl (fun hM=>?_) (fun hM=>?_) ?_;rotate_left
 ·refine Zi rfl fP rfl<|Zk 1 rfl lM rfl G rfl<|cZ rfl U29 rfl O rfl rfl ⟨_,rfl,rfl⟩<|Zi rfl fP rfl<|Zk 1 rfl lM rfl I rfl<|cZ rfl U29 rfl Z rfl rfl ⟨_,rfl,rfl⟩<|mS rfl rfl rfl rfl ⟨_,rfl,rfl⟩<|Zae rfl ?_;exact aQ 7
 ·refine Zf rfl<|Zf rfl<|Zf rfl<|Zf rfl<|Zf rfl<|Zf rfl<|Zf rfl<|Zad rfl ?_;exact aQ 7
 refine Za rfl ?_;refine' cR 8 (s:=36) (p:=44) rfl (fun hN=>?_) (fun hN=>?_) ?_;rotate_left
 ·refine Zi rfl iA rfl<|Zk 4 rfl pH rfl G rfl<|cZ rfl U30 rfl R rfl rfl ⟨_,rfl,rfl⟩<|Zi rfl iA rfl<|Zk 4 rfl pH rfl I rfl<|cZ rfl U30 rfl hB rfl rfl ⟨_,rfl,rfl⟩<|mS rfl rfl rfl rfl ⟨_,rfl,rfl⟩<|Zae rfl ?_;exact aQ 7
 ·refine Zf rfl<|Zf rfl<|Zf rfl<|Zf rfl<|Zf rfl<|Zf rfl<|Zf rfl<|Zad rfl ?_;exact aQ 7
 refine aF<|aP rfl (fun U=>?_) (fun U=>?_)
 ·refine aA<|Zg rfl<|aG<|Zap ?_;exact aE rfl (fun D hD=>aYY Value.bool (HJ U).symm)
 ·obtain⟨hw,ho,hp,hO,hR⟩:=IN U;refine aT<|eH<|Zg rfl<|aF<|Zar<|Zl Nat (fun k=>(a0.heights).length-k) (fun k=>k≤(a0.heights).length∧(a0.heights).take k=(M.heights).take k) (fun k=>[(5,qI (k:Int))]) [(4,_),(3,_),(2,_)] (fun k=>[E2,E1,D]) 0 ⟨Yb,bDY⟩ ?_;rintro k ⟨h1,h2⟩;refine eH<|Za rfl<|Zh rfl fP rfl<|Zj 1 rfl lM rfl G rfl<|Zab rfl U29 rfl O rfl<|Zai rfl<|aF<|Zz rfl (fun hc2=>?_) (fun hc2=>?_)
  ·have hk:k<(a0.heights).length:=by omega
   obtain⟨a,ha⟩:=dV (a0.heights) k;obtain⟨b,hb⟩:=dV (M.heights) k;refine aT<|aS<|Zar<|aS<|bW [] 4 11 996<|Zh rfl fP rfl<|Zj 1 rfl lM rfl G rfl<|Za rfl<|Zw rfl U29 cB rfl O rfl ha (fun b1 o1 hS hX hcl1 hY=>?_);have e1:hS=_:=hX;subst e1;refine Zq rfl jQ rfl hY cB<|Zh rfl fP rfl<|Zj 1 rfl lM rfl I rfl<|Za rfl<|Zw rfl U29 cB rfl Z rfl hb (fun b2 o2 rA rB hcl2 hA2=>?_);have e2:rA=_:=rB;subst e2;refine Zq rfl jQ rfl hA2 cB<|J4 (l:=[a.1,a.2]) (m:=[b.1,b.2]) rfl aXC rfl rfl rfl rfl rfl bDY<|aF<|aP rfl (fun V=>?_) (fun V=>?_)
   ·refine aA<|Zg rfl<|aG<|Zau<|Zap<|Zap<|Zau<|Zap ?_;exact aE rfl (fun D hD=>aYY Value.bool (bCC (fun e=>absurd (sO ha hb (e.2.2.2.1)) (EC (f:=aWK) V))).symm)
   ·refine bM<|Zat<|Zaq<|aU<|Za rfl<|Zaa rfl<|Zg rfl<|Zah ?_;exact aK 20 (k+1) ⟨by omega,oR ha hb h2 (TH (BU V))⟩ Yd ⟨Yb,bDY⟩ rfl rfl Mm5 (aH)
  ·have h5:a0.heights=M.heights:=wP hO Yd h2;refine aW<|Zas<|Zas<|Zav<|Zaq<|eH<|Zg rfl<|aF<|Zar<|Zl Nat (fun k=>(a0.marks).length-k) (fun k=>k≤(a0.marks).length∧(a0.marks).take k=(M.marks).take k) (fun k=>[(6,qI (k:Int))]) [(4,_),(3,_),(2,_)] (fun k=>[E2,E1,D]) 0 ⟨Yb,bDY⟩ ?_;rintro k ⟨h1,h2⟩;refine eH<|Za rfl<|Zh rfl iA rfl<|Zj 4 rfl pH rfl G rfl<|Zab rfl U30 rfl R rfl<|Zai rfl<|aF<|Zz rfl (fun hc4=>?_) (fun hc4=>?_)
   ·have hk:k<(a0.marks).length:=by omega
    obtain⟨a,ha⟩:=dV (a0.marks) k;obtain⟨b,hb⟩:=dV (M.marks) k;refine aT<|aS<|Zar<|aS<|bW [] 4 11 996<|Zh rfl iA rfl<|Zj 4 rfl pH rfl G rfl<|Za rfl<|Zw rfl U30 iG rfl R rfl ha (fun b3 o3 cs3 hr3 hcl3 hA3=>?_);have e3:cs3=_:=hr3;subst e3;refine Zq rfl P5 rfl hA3 iG<|Zh rfl iA rfl<|Zj 4 rfl pH rfl I rfl<|Za rfl<|Zw rfl U30 iG rfl hB rfl hb (fun b4 o4 cs4 hr4 hcl4 hA4=>?_);have e4:cs4=_:=hr4;subst e4;refine Zq rfl P5 rfl hA4 iG<|J4 (l:=[a.frm,a.to,a.lo,a.hi]) (m:=[b.frm,b.to,b.lo,b.hi]) rfl aSY rfl rfl rfl rfl rfl bDY<|aF<|aP rfl (fun Y=>?_) (fun Y=>?_)
    ·refine aA<|Zg rfl<|aG<|Zau<|Zap<|Zap<|Zau<|Zap ?_;exact aE rfl (fun D hD=>aYY Value.bool (bCC (fun e=>absurd (sO ha hb (e.2.2.2.2)) (EC (f:=aXT) Y))).symm)
    ·refine bM<|Zat<|Zaq<|aU<|Za rfl<|Zaa rfl<|Zg rfl<|Zah ?_;exact aK 20 (k+1) ⟨by omega,oR ha hb h2 (aQA (BU Y))⟩ Yd ⟨Yb,bDY⟩ rfl rfl Mm5 (aH)
   ·have h6:a0.marks=M.marks:=wP hR Yd h2;refine aW<|Zas<|Zas<|Zav<|Zaq<|aA<|Zg rfl<|aG ?_;exact aE rfl (fun D hD=>aYY Value.bool (decide_eq_true (⟨hw,ho,hp,h5,h6⟩)).symm)
theorem OO(av bv:Value)(a0 R:C3.bA)(D:aC)(hx:gL D av a0)(hy:gL D bv R):Fn prog 41 #[av,bv] D (fun _ v=>v=.bool (zL a0 R)):=by
 obtain⟨hv,mv,rfl,M,O⟩:=hx;obtain⟨gv,nv,rfl,Z,hB⟩:=hy;have hE:=M.len;have hF:=O.len;refine Zs 80 func41 rfl (fun h0=>aA<|Zu rfl (fun q1 E1 hE1 G=>Zu rfl (fun q2 E2 hE2 I=>Zg rfl<|bJ<|Zh rfl oI rfl<|Zj 0 rfl aJ rfl G rfl<|Zh rfl oI rfl<|Zj 0 rfl aJ rfl I rfl<|Zak rfl<|Za rfl ?_)));refine' cR 6 (s:=12) (p:=18) rfl (fun hH=>?_) (fun hH=>?_) ?_;rotate_left
 ·refine Zi rfl tD rfl<|Zk 1 rfl aJ rfl G rfl<|Zi rfl tD rfl<|Zk 1 rfl aJ rfl I rfl<|mS rfl rfl rfl rfl ⟨_,rfl,rfl⟩<|Zae rfl ?_;exact aQ 5
 ·refine Zf rfl<|Zf rfl<|Zf rfl<|Zf rfl<|Zf rfl<|Zad rfl ?_;exact aQ 5
 refine Za rfl ?_;refine' cR 6 (s:=19) (p:=25) rfl (fun hI=>?_) (fun hI=>?_) ?_;rotate_left
 ·refine Zi rfl zJ rfl<|Zk 2 rfl aJ rfl G rfl<|Zi rfl zJ rfl<|Zk 2 rfl aJ rfl I rfl<|mS rfl rfl rfl rfl ⟨_,rfl,rfl⟩<|Zae rfl ?_;exact aQ 5
 ·refine Zf rfl<|Zf rfl<|Zf rfl<|Zf rfl<|Zf rfl<|Zad rfl ?_;exact aQ 5
 refine Za rfl ?_;refine' cR 8 (s:=26) (p:=34) rfl (fun hJ=>?_) (fun hJ=>?_) ?_;rotate_left
 ·refine Zi rfl cE rfl<|Zk 3 rfl fA rfl G rfl<|cZ rfl U33 rfl M rfl rfl ⟨_,rfl,rfl⟩<|Zi rfl cE rfl<|Zk 3 rfl fA rfl I rfl<|cZ rfl U33 rfl Z rfl rfl ⟨_,rfl,rfl⟩<|mS rfl rfl rfl rfl ⟨_,rfl,rfl⟩<|Zae rfl ?_;exact aQ 7
 ·refine Zf rfl<|Zf rfl<|Zf rfl<|Zf rfl<|Zf rfl<|Zf rfl<|Zf rfl<|Zad rfl ?_;exact aQ 7
 refine Za rfl ?_;refine' cR 8 (s:=35) (p:=43) rfl (fun hK=>?_) (fun hK=>?_) ?_;rotate_left
 ·refine Zi rfl kR rfl<|Zk 4 rfl uM rfl G rfl<|cZ rfl U34 rfl O rfl rfl ⟨_,rfl,rfl⟩<|Zi rfl kR rfl<|Zk 4 rfl uM rfl I rfl<|cZ rfl U34 rfl hB rfl rfl ⟨_,rfl,rfl⟩<|mS rfl rfl rfl rfl ⟨_,rfl,rfl⟩<|Zae rfl ?_;exact aQ 7
 ·refine Zf rfl<|Zf rfl<|Zf rfl<|Zf rfl<|Zf rfl<|Zf rfl<|Zf rfl<|Zad rfl ?_;exact aQ 7
 refine aF<|aP rfl (fun U=>?_) (fun U=>?_)
 ·refine aA<|Zg rfl<|aG<|Zap ?_;exact aE rfl (fun D hD=>aYY Value.bool (MN U).symm)
 ·obtain⟨hw,ho,hp,hM,hN⟩:=SK U;refine aT<|eH<|Zg rfl<|aF<|Zar<|Zl Nat (fun k=>(a0.lines).length-k) (fun k=>k≤(a0.lines).length∧(a0.lines).take k=(R.lines).take k) (fun k=>[(5,qI (k:Int))]) [(4,_),(3,_),(2,_)] (fun k=>[E2,E1,D]) 0 ⟨Yb,bDY⟩ ?_;rintro k ⟨h1,h2⟩;refine eH<|Za rfl<|Zh rfl cE rfl<|Zj 3 rfl fA rfl G rfl<|Zab rfl U33 rfl M rfl<|Zai rfl<|aF<|Zz rfl (fun hc2=>?_) (fun hc2=>?_)
  ·have hk:k<(a0.lines).length:=by omega
   obtain⟨a,ha⟩:=dV (a0.lines) k;obtain⟨b,hb⟩:=dV (R.lines) k;refine aT<|aS<|Zar<|aS<|bW [] 4 11 996<|Zh rfl cE rfl<|Zj 3 rfl fA rfl G rfl<|Za rfl<|Zw rfl U33 bU rfl M rfl ha (fun b1 o1 hO hR hcl1 hS=>?_);have e1:hO=_:=hR;subst e1;refine Zq rfl kJ rfl hS bU<|Zh rfl cE rfl<|Zj 3 rfl fA rfl I rfl<|Za rfl<|Zw rfl U33 bU rfl Z rfl hb (fun b2 o2 hX hY hcl2 rA=>?_);have e2:hX=_:=hY;subst e2;refine Zq rfl kJ rfl rA bU<|J4 (l:=[a.kind,a.chair,a.token]) (m:=[b.kind,b.chair,b.token]) rfl aVM rfl rfl rfl rfl rfl bDY<|aF<|aP rfl (fun V=>?_) (fun V=>?_)
   ·refine aA<|Zg rfl<|aG<|Zau<|Zap<|Zap<|Zau<|Zap ?_;exact aE rfl (fun D hD=>aYY Value.bool (bCC (fun e=>absurd (sO ha hb (e.2.2.2.1)) (EC (f:=aYB) V))).symm)
   ·refine bM<|Zat<|Zaq<|aU<|Za rfl<|Zaa rfl<|Zg rfl<|Zah ?_;exact aK 20 (k+1) ⟨by omega,oR ha hb h2 (aRU (BU V))⟩ Yd ⟨Yb,bDY⟩ rfl rfl Mm5 (aH)
  ·have h5:a0.lines=R.lines:=wP hM Yd h2;refine aW<|Zas<|Zas<|Zav<|Zaq<|eH<|Zg rfl<|aF<|Zar<|Zl Nat (fun k=>(a0.counts).length-k) (fun k=>k≤(a0.counts).length∧(a0.counts).take k=(R.counts).take k) (fun k=>[(6,qI (k:Int))]) [(4,_),(3,_),(2,_)] (fun k=>[E2,E1,D]) 0 ⟨Yb,bDY⟩ ?_;rintro k ⟨h1,h2⟩;refine eH<|Za rfl<|Zh rfl kR rfl<|Zj 4 rfl uM rfl G rfl<|Zab rfl U34 rfl O rfl<|Zai rfl<|aF<|Zz rfl (fun rB=>?_) (fun rB=>?_)
   ·have hk:k<(a0.counts).length:=by omega
    obtain⟨a,ha⟩:=dV (a0.counts) k;obtain⟨b,hb⟩:=dV (R.counts) k;refine aT<|aS<|Zar<|aS<|bW [] 4 11 996<|Zh rfl kR rfl<|Zj 4 rfl uM rfl G rfl<|Za rfl<|Zw rfl U34 nC rfl O rfl ha (fun b3 o3 cs3 hr3 hcl3 hA3=>?_);have e3:cs3=_:=hr3;subst e3;refine Zq rfl K8 rfl hA3 nC<|Zh rfl kR rfl<|Zj 4 rfl uM rfl I rfl<|Za rfl<|Zw rfl U34 nC rfl hB rfl hb (fun b4 o4 cs4 hr4 hcl4 hA4=>?_);have e4:cs4=_:=hr4;subst e4;refine Zq rfl K8 rfl hA4 nC<|J4 (l:=[a.after,a.lo,a.hi]) (m:=[b.after,b.lo,b.hi]) rfl aVV rfl rfl rfl rfl rfl bDY<|aF<|aP rfl (fun Y=>?_) (fun Y=>?_)
    ·refine aA<|Zg rfl<|aG<|Zau<|Zap<|Zap<|Zau<|Zap ?_;exact aE rfl (fun D hD=>aYY Value.bool (bCC (fun e=>absurd (sO ha hb (e.2.2.2.2)) (EC (f:=aYA) Y))).symm)
    ·refine bM<|Zat<|Zaq<|aU<|Za rfl<|Zaa rfl<|Zg rfl<|Zah ?_;exact aK 20 (k+1) ⟨by omega,oR ha hb h2 (aLP (BU Y))⟩ Yd ⟨Yb,bDY⟩ rfl rfl Mm5 (aH)
   ·have h6:a0.counts=R.counts:=wP hN Yd h2;refine aW<|Zas<|Zas<|Zav<|Zaq<|aA<|Zg rfl<|aG ?_;exact aE rfl (fun D hD=>aYY Value.bool (decide_eq_true (⟨hw,ho,hp,h5,h6⟩)).symm)
theorem OZ(av bv:Value)(a0 R:C7.bC)(D:aC)(hx:nM D av a0)(hy:nM D bv R):Fn prog 42 #[av,bv] D (fun _ v=>v=.bool (zD a0 R)):=by
 obtain⟨hv,mv,rfl,M,O⟩:=hx;obtain⟨gv,nv,rfl,Z,hB⟩:=hy;have hE:=M.len;have hF:=O.len;refine Zs 66 func42 rfl (fun h0=>aA<|Zu rfl (fun q1 E1 hE1 G=>Zu rfl (fun q2 E2 hE2 I=>Zg rfl<|bJ<|Zh rfl tI rfl<|Zj 1 rfl aJ rfl G rfl<|Zh rfl tI rfl<|Zj 1 rfl aJ rfl I rfl<|Zak rfl<|Za rfl ?_)));refine' cR 8 (s:=12) (p:=20) rfl (fun hH=>?_) (fun hH=>?_) ?_;rotate_left
 ·refine Zi rfl eO rfl<|Zk 0 rfl jE rfl G rfl<|cZ rfl U37 rfl M rfl rfl ⟨_,rfl,rfl⟩<|Zi rfl eO rfl<|Zk 0 rfl jE rfl I rfl<|cZ rfl U37 rfl Z rfl rfl ⟨_,rfl,rfl⟩<|mS rfl rfl rfl rfl ⟨_,rfl,rfl⟩<|Zae rfl ?_;exact aQ 7
 ·refine Zf rfl<|Zf rfl<|Zf rfl<|Zf rfl<|Zf rfl<|Zf rfl<|Zf rfl<|Zad rfl ?_;exact aQ 7
 refine Za rfl ?_;refine' cR 8 (s:=21) (p:=29) rfl (fun hI=>?_) (fun hI=>?_) ?_;rotate_left
 ·refine Zi rfl iB rfl<|Zk 2 rfl pV rfl G rfl<|cZ rfl U38 rfl O rfl rfl ⟨_,rfl,rfl⟩<|Zi rfl iB rfl<|Zk 2 rfl pV rfl I rfl<|cZ rfl U38 rfl hB rfl rfl ⟨_,rfl,rfl⟩<|mS rfl rfl rfl rfl ⟨_,rfl,rfl⟩<|Zae rfl ?_;exact aQ 7
 ·refine Zf rfl<|Zf rfl<|Zf rfl<|Zf rfl<|Zf rfl<|Zf rfl<|Zf rfl<|Zad rfl ?_;exact aQ 7
 refine aF<|aP rfl (fun U=>?_) (fun U=>?_)
 ·refine aA<|Zg rfl<|aG<|Zap ?_;exact aE rfl (fun D hD=>aYY Value.bool (JK U).symm)
 ·obtain⟨hw,hJ,hK⟩:=OI U;refine aT<|eH<|Zg rfl<|aF<|Zar<|Zl Nat (fun k=>(a0.chairs).length-k) (fun k=>k≤(a0.chairs).length∧(a0.chairs).take k=(R.chairs).take k) (fun k=>[(5,qI (k:Int))]) [(4,_),(3,_),(2,_)] (fun k=>[E2,E1,D]) 0 ⟨Yb,bDY⟩ ?_;rintro k ⟨h1,h2⟩;refine eH<|Za rfl<|Zh rfl eO rfl<|Zj 0 rfl jE rfl G rfl<|Zab rfl U37 rfl M rfl<|Zai rfl<|aF<|Zz rfl (fun hc2=>?_) (fun hc2=>?_)
  ·have hk:k<(a0.chairs).length:=by omega
   obtain⟨a,ha⟩:=dV (a0.chairs) k;obtain⟨b,hb⟩:=dV (R.chairs) k;refine aT<|aS<|Zar<|aS<|bW [] 4 11 996<|Zh rfl eO rfl<|Zj 0 rfl jE rfl G rfl<|Za rfl<|Zw rfl U37 iQ rfl M rfl ha (fun b1 o1 hM hN hcl1 hO=>?_);have e1:hM=_:=hN;subst e1;refine Zq rfl N5 rfl hO iQ<|Zh rfl eO rfl<|Zj 0 rfl jE rfl I rfl<|Za rfl<|Zw rfl U37 iQ rfl Z rfl hb (fun b2 o2 hR hS hcl2 hX=>?_);have e2:hR=_:=hS;subst e2;refine Zq rfl N5 rfl hX iQ<|J4 (l:=[a.size,a.parts.a,a.parts.b,a.parts.c]) (m:=[b.size,b.parts.a,b.parts.b,b.parts.c]) rfl aTY rfl rfl rfl rfl rfl bDY<|aF<|aP rfl (fun V=>?_) (fun V=>?_)
   ·refine aA<|Zg rfl<|aG<|Zau<|Zap<|Zap<|Zau<|Zap ?_;exact aE rfl (fun D hD=>aYY Value.bool (bCC (fun e=>absurd (sO ha hb (e.2.1)) (EC (f:=aWD) V))).symm)
   ·refine bM<|Zat<|Zaq<|aU<|Za rfl<|Zaa rfl<|Zg rfl<|Zah ?_;exact aK 20 (k+1) ⟨by omega,oR ha hb h2 (US (BU V))⟩ Yd ⟨Yb,bDY⟩ rfl rfl Mm5 (aH)
  ·have h5:a0.chairs=R.chairs:=wP hJ Yd h2;refine aW<|Zas<|Zas<|Zav<|Zaq<|eH<|Zg rfl<|aF<|Zar<|Zl Nat (fun k=>(a0.claims).length-k) (fun k=>k≤(a0.claims).length∧(a0.claims).take k=(R.claims).take k) (fun k=>[(6,qI (k:Int))]) [(4,_),(3,_),(2,_)] (fun k=>[E2,E1,D]) 0 ⟨Yb,bDY⟩ ?_;rintro k ⟨h1,h2⟩;refine eH<|Za rfl<|Zh rfl iB rfl<|Zj 2 rfl pV rfl G rfl<|Zab rfl U38 rfl O rfl<|Zai rfl<|aF<|Zz rfl (fun hY=>?_) (fun hY=>?_)
   ·have hk:k<(a0.claims).length:=by omega
    obtain⟨a,ha⟩:=dV (a0.claims) k;obtain⟨b,hb⟩:=dV (R.claims) k;refine aT<|aS<|Zar<|aS<|bW [] 4 11 996<|Zh rfl iB rfl<|Zj 2 rfl pV rfl G rfl<|Za rfl<|Zw rfl U38 cU rfl O rfl ha (fun b3 o3 rA rB hcl3 hA3=>?_);have e3:rA=_:=rB;subst e3;refine Zq rfl nQ rfl hA3 cU<|Zh rfl iB rfl<|Zj 2 rfl pV rfl I rfl<|Za rfl<|Zw rfl U38 cU rfl hB rfl hb (fun b4 o4 cs4 hr4 hcl4 hA4=>?_);have e4:cs4=_:=hr4;subst e4;refine Zq rfl nQ rfl hA4 cU<|J4 (l:=[a.1,a.2]) (m:=[b.1,b.2]) rfl aWR rfl rfl rfl rfl rfl bDY<|aF<|aP rfl (fun Y=>?_) (fun Y=>?_)
    ·refine aA<|Zg rfl<|aG<|Zau<|Zap<|Zap<|Zau<|Zap ?_;exact aE rfl (fun D hD=>aYY Value.bool (bCC (fun e=>absurd (sO ha hb (e.2.2)) (EC (f:=aWK) Y))).symm)
    ·refine bM<|Zat<|Zaq<|aU<|Za rfl<|Zaa rfl<|Zg rfl<|Zah ?_;exact aK 20 (k+1) ⟨by omega,oR ha hb h2 (TH (BU Y))⟩ Yd ⟨Yb,bDY⟩ rfl rfl Mm5 (aH)
   ·have h6:a0.claims=R.claims:=wP hK Yd h2;refine aW<|Zas<|Zas<|Zav<|Zaq<|aA<|Zg rfl<|aG ?_;exact aE rfl (fun D hD=>aYY Value.bool (decide_eq_true (⟨hw,h5,h6⟩)).symm)
theorem aAE(av bv:Value)(a0 M:aN)(D:aC)(hx:iF D av a0)(hy:iF D bv M):Fn prog 14 #[av,bv] D (fun _ v=>v=.bool (GY a0 M)):=by
 obtain⟨pv,cv,hv,lv,mv,bl,bc,yc,yq,rfl,hL⟩:=hx;obtain⟨hE,hF,hH,hI,hJ,hK,hN,hO,hR,rfl,hM⟩:=hy;unfold dO;refine Zs 31 func14 rfl (fun h0=>aA<|Zu rfl (fun q1 E1 hS G=>Zu rfl (fun q2 E2 hX I=>Zg rfl<|aL<|Zh rfl dC rfl<|dW rfl (k:=0) kD jX rfl G Yc rfl rfl n3 rfl bDY<|Zh rfl dC rfl<|dW rfl (k:=0) kD jX rfl I Yc rfl rfl n3 rfl bDY<|Zc rfl (fun D1 O=>aDD _ _ a0.row M.row _ (hL.row.up (O _ Ye)) (hM.row.up (O _ Ye)))<|Za rfl ?_)));refine' dJ 6 (s:=10) (p:=16) rfl (fun Y=>?_) (fun Y=>?_) ?_;rotate_left
 ·refine Zi rfl bN rfl<|dW rfl (k:=4) iI gT rfl G Yc rfl rfl n3 rfl ⟨_,rfl,rfl⟩<|Zi rfl bN rfl<|dW rfl (k:=4) iI gT rfl I Yc rfl rfl n3 rfl ⟨_,rfl,rfl⟩<|Zd rfl (fun D2 R=>ND _ _ a0.table M.table _ (hL.table.up (R _ Ye)) (hM.table.up (R _ Ye)))<|Zad rfl ?_;exact aQ 5
 ·refine Zf rfl<|Zf rfl<|Zf rfl<|Zf rfl<|Zf rfl<|Zae rfl ?_;exact aQ 5
 refine Za rfl ?_;refine' dJ 6 (s:=17) (p:=23) rfl (fun Z=>?_) (fun Z=>?_) ?_;rotate_left
 ·refine Zi rfl eL rfl<|dW rfl (k:=9) fG eK rfl G Yc rfl rfl n3 rfl ⟨_,rfl,rfl⟩<|Zi rfl eL rfl<|dW rfl (k:=9) fG eK rfl I Yc rfl rfl n3 rfl ⟨_,rfl,rfl⟩<|Zd rfl (fun D3 U=>OO _ _ a0.book M.book _ (hL.book.up (U _ Ye)) (hM.book.up (U _ Ye)))<|Zad rfl ?_;exact aQ 5
 ·refine Zf rfl<|Zf rfl<|Zf rfl<|Zf rfl<|Zf rfl<|Zae rfl ?_;exact aQ 5
 refine Za rfl ?_;refine' dJ 6 (s:=24) (p:=30) rfl (fun hB=>?_) (fun hB=>?_) ?_;rotate_left
 ·refine Zi rfl dL rfl<|dW rfl (k:=14) jC iO rfl G Yc rfl rfl n3 rfl ⟨_,rfl,rfl⟩<|Zi rfl dL rfl<|dW rfl (k:=14) jC iO rfl I Yc rfl rfl n3 rfl ⟨_,rfl,rfl⟩<|Zd rfl (fun D4 V=>OZ _ _ a0.yard M.yard _ (hL.yard.up (V _ Ye)) (hM.yard.up (V _ Ye)))<|Zad rfl ?_;exact aQ 5
 ·refine Zf rfl<|Zf rfl<|Zf rfl<|Zf rfl<|Zf rfl<|Zae rfl ?_;exact aQ 5
 refine Zg rfl<|aG ?_;exact aE rfl (fun D hD=>rfl)
end L12
namespace L12
open C12
theorem T9(ls:List ByteArray):(cA ls).2.length=ls.length:=by
 have key:∀(ls:List ByteArray) (p:aN×List Int),(ls.foldl (fun p l=>((nB p.1 l).1,p.2++[(nB p.1 l).2])) p).2.length=p.2.length+ls.length:=by
  intro ls;induction ls with
  |nil=>intro p;simp
  |cons l ls ih=>intro p;rw[bAG,ih];simp;omega
 have:=key ls (qZ,[]);simpa [cA]using this
def mD(s:aN)(ls:List ByteArray):aN:=ls.foldl (fun s l=>(nB s l).1) s
def Z6(s:aN):List ByteArray→List Int
 | []=>[]
 |l::ls=>(nB s l).2::Z6 (nB s l).1 ls
theorem aAZ(s:aN)(l:ByteArray)(ls:List ByteArray):mD s (l::ls)=mD (nB s l).1 ls:=rfl
theorem aDL(s:aN)(ls ms:List ByteArray):mD s (ls++ms)=mD (mD s ls) ms:=by simp[mD,bAN]
theorem KJ(ms:List ByteArray):∀(ls:List ByteArray) (s:aN),Z6 s (ls++ms)=Z6 s ls++Z6 (mD s ls) ms
 | [],_=>rfl
 |l::ls,s=>by
  show(nB s l).2::Z6 (nB s l).1 (ls++ms)=(nB s l).2::(Z6 (nB s l).1 ls++Z6 (mD (nB s l).1 ls) ms);rw[KJ ms ls]
theorem DI(ls:List ByteArray):cA ls=(mD qZ ls,Z6 qZ ls):=by
 have key:∀(ls:List ByteArray) (s:aN) (es:List Int),ls.foldl (fun p l=>((nB p.1 l).1,p.2++[(nB p.1 l).2])) (s,es)=(mD s ls,es++Z6 s ls):=by
  intro ls;induction ls with
  |nil=>intro s es;simp[mD,Z6]
  |cons l ls ih=>intro s es;rw[bAG,ih];simp[aAZ,Z6]
 have:=key ls qZ [];simpa [cA]using this
theorem aTQ{s:aN}{l:ByteArray}(h:(nB s l).2≠0):(nB s l).1=s:=by
 unfold nB at h ⊢
 split
 ·rfl
 ·rename_i act n hp;rw[hp]at h;simp only at h;split
  ·rfl
  ·rename_i G ha;rw[ha]at h;simp only at h;split at h
   ·exact absurd rfl h
   ·rename_i hs;rw[aZB hs]
end L12
namespace L12
open C12
theorem BS(ls ms:List ByteArray):cA (ls++ms)=(mD (cA ls).1 ms,(cA ls).2++Z6 (cA ls).1 ms):=by
 rw[DI,DI,aDL,KJ]
theorem m1{ls:List ByteArray}{x:ByteArray}:(cA (ls++[x])).1=(nB (cA ls).1 x).1:=by rw[BS];rfl
def sS(k:Int)(f:fZ):Prop:=∀s n s',f s n=.ok s'→(k=1∨s'.row=s.row)∧(k=2∨s'.table=s.table)∧(k=3∨s'.book=s.book)∧(k=4∨s'.yard=s.yard)
theorem KN:sS 1 (yU):=by
 intro s n s' e;unfold yU at e;repeat' split at e
 all_goals cases e
 all_goals exact⟨.inl rfl,.inr rfl,.inr rfl,.inr rfl⟩
theorem SI:sS 1 (yQ):=by
 intro s n s' e;unfold yQ at e;repeat' split at e
 all_goals cases e
 all_goals exact⟨.inl rfl,.inr rfl,.inr rfl,.inr rfl⟩
theorem Y6(b:Bool):sS 1 (oS b):=by
 intro s n s' e;unfold oS at e;repeat' split at e
 all_goals cases e
 all_goals exact⟨.inl rfl,.inr rfl,.inr rfl,.inr rfl⟩
theorem BE:sS 1 (qU):=by
 intro s n s' e;unfold qU at e;repeat' split at e
 all_goals cases e
 all_goals exact⟨.inl rfl,.inr rfl,.inr rfl,.inr rfl⟩
theorem MH:sS 1 (xW):=by
 intro s n s' e;unfold xW at e;repeat' split at e
 all_goals cases e
 all_goals exact⟨.inl rfl,.inr rfl,.inr rfl,.inr rfl⟩
theorem aCD:sS 1 (JG):=by
 intro s n s' e;unfold JG at e;repeat' split at e
 all_goals cases e
 all_goals exact⟨.inl rfl,.inr rfl,.inr rfl,.inr rfl⟩
theorem W9(b:Int):sS 3 (oU b):=by
 intro s n s' e;unfold oU at e;repeat' split at e
 all_goals cases e
 all_goals exact⟨.inr rfl,.inr rfl,.inl rfl,.inr rfl⟩
theorem FI:sS 3 (rV):=by
 intro s n s' e;unfold rV at e;repeat' split at e
 all_goals cases e
 all_goals exact⟨.inr rfl,.inr rfl,.inl rfl,.inr rfl⟩
theorem GO:sS 3 (uD):=by
 intro s n s' e;unfold uD at e;repeat' split at e
 all_goals cases e
 all_goals exact⟨.inr rfl,.inr rfl,.inl rfl,.inr rfl⟩
theorem GS:sS 4 (rS):=by
 intro s n s' e;unfold rS at e;repeat' split at e
 all_goals cases e
 all_goals exact⟨.inr rfl,.inr rfl,.inr rfl,.inl rfl⟩
theorem SF:sS 4 (vM):=by
 intro s n s' e;unfold vM at e;repeat' split at e
 all_goals cases e
 all_goals exact⟨.inr rfl,.inr rfl,.inr rfl,.inl rfl⟩
theorem XY:sS 4 (LO):=by
 intro s n s' e;unfold LO at e;repeat' split at e
 all_goals cases e
 all_goals exact⟨.inr rfl,.inr rfl,.inr rfl,.inl rfl⟩
theorem KP:sS 4 (xK):=by
 intro s n s' e;unfold xK at e;repeat' split at e
 all_goals cases e
 all_goals exact⟨.inr rfl,.inr rfl,.inr rfl,.inl rfl⟩
theorem BR:sS 4 (qQ):=by
 intro s n s' e;unfold qQ at e;repeat' split at e
 all_goals cases e
 all_goals exact⟨.inr rfl,.inr rfl,.inr rfl,.inl rfl⟩
theorem RO(sv:Value)(xs:List ByteArray)(D:aC)(hS:Sl D RS 1 sv xs)(hl:xs.length≤10000000):KZ prog 12 #[sv] D (fun _ v ν=>bS 9 1 v xs.length (xs.map Value.string) ν):=by
 refine pM 6 func12 rfl rfl rfl rfl fun h0=>aA<|Zg rfl<|aL<|Zp rfl U22 iY tf_z9 rfl .nil (fun R U G I=>Za rfl<|bB (A:=[]) (ν:=[]) (B:=[]) rfl U22 rfl rfl iY tf_z9 rfl DY rfl rfl rfl bS.nil (mI.strs hS) Ye Yaq rfl (CW _) Yd (aZE rfl) rfl bDY (fun v1 ν1 M=>Zg rfl<|aG ?_))
 have O:bS 9 1 v1 xs.length (xs.map Value.string) ν1:=by simpa using M
 exact aE rfl (fun D' hD=>by simpa [qE]using O)
end L12
namespace L12
open C12 Go.Lib
theorem aSL{D:aC}{b:Nat}{x:UInt8}{v:Value}(hA:At D b 0 ([v]++[]))(hv:v=.int .u8 (x.toNat:Int)):Sl D RU 1 (qS b 1 1) [x]:=by
 refine⟨_,_,rfl,aZL _,by simp,aYZ ⟨b,0,rfl,fun i y hi=>⟨_,rfl,rfl,fun j u hj=>?_⟩⟩⟩;obtain rfl:i=0:=by have:=(aYV.1 hi).1;simpa using this
 obtain rfl:x=y:=by simpa using hi
 cases j with
 |zero=>
  obtain rfl:Value.int .u8 x.toNat=u:=by simpa using hj
  have:=hA 0 v rfl;rw[hv]at this;simpa using this
 |succ j=>simp at hj
theorem UI{n:Int}(h0:0≤n)(h1:n≤9):Value.int .u8 (48+n)=.int .u8 ((UInt8.ofNat (48+n.toNat)).toNat:Int):=by
 rw[UInt8.toNat_ofNat'];congr 1;omega
theorem PG{n:Int}(h0:0≤n)(h1:n≤9):zZ (itoa n)=⟨#[UInt8.ofNat (48+n.toNat)]⟩:=by
 obtain⟨m,rfl⟩:=Int.eq_ofNat_of_zero_le h0;have key:((List.range 10).all fun m=>itoa (m:Int)== [UInt8.ofNat (48+m)])=true:=by decide+kernel
 have:=aZN.1 key m (bBF.2 Yd);rw[eq_of_beq this];rfl
theorem wD{n:Int}(h0:0≤n)(h1:n≤9):(zZ (itoa n)).size=1:=by rw[PG h0 h1];rfl
theorem aFS{n:Int}(h0:10≤n)(h1:n≤99):zZ (itoa n)=zZ (itoa (n / 10))++zZ (itoa (n%10)):=by
 obtain⟨m,rfl⟩:=Int.eq_ofNat_of_zero_le (show 0≤n by omega);have key:((List.range 100).all fun m=>decide (m<10)||itoa (m:Int)==itoa ((m:Int) / 10)++itoa ((m:Int)%10))=true:=by decide+kernel
 have:=aZN.1 key m (bBF.2 Yd);rw[bAD]at this;rcases this with h|h
 ·have:=aZW h;omega
 ·rw[eq_of_beq h];apply Go.WideShapes.bytes_inj;simp[zZ]
theorem KK(n:Int)(I:0≤n)(M:n≤9)(D:aC):Fn prog 74 #[qI n] D (fun _ v=>v=.string (zZ (itoa n))):=by
 refine Zs 19 func74 rfl (fun h0=>aA<|Zg rfl<|bJ<|Za rfl<|Zai rfl<|aF<|Zz rfl (fun O=>?_) (fun O=>?_))
 ·omega
 ·refine aT<|eH<|Za rfl<|Zai rfl<|aF<|Zz rfl (fun hc2=>?_) (fun hc2=>?_)
  ·refine aA<|Za rfl<|Zaa rfl<|tO rfl U3 U5 rfl Yf rfl bDY<|Zp rfl U99 kM JA rfl (.cons rfl rfl .nil) (fun U V R G=>?_)
   skip
   refine xF (l:=[UInt8.ofNat (48+n.toNat)]) rfl U99 U5 U9 rfl (aSL G (UI I M)) Ye (fun _ _ _ _ _=>n3) rfl bDY<|Zg rfl<|aG<|Zap ?_;exact aE rfl (fun D hD=>by show Value.string _=_;rw[PG I M])
  ·omega
theorem aID(n:Int)(M:0≤n)(G:n≤99)(D:aC):Fn prog 74 #[qI n] D (fun _ v=>v=.string (zZ (itoa n))):=by
 refine Zs 19 func74 rfl (fun h0=>aA<|Zg rfl<|bJ<|Za rfl<|Zai rfl<|aF<|Zz rfl (fun O=>?_) (fun O=>?_))
 ·omega
 ·refine aT<|eH<|Za rfl<|Zai rfl<|aF<|Zz rfl (fun hc2=>?_) (fun hc2=>?_)
  ·replace G:n≤9:=by omega
   refine aA<|Za rfl<|Zaa rfl<|tO rfl U3 U5 rfl Yf rfl bDY<|Zp rfl U99 kM JA rfl (.cons rfl rfl .nil) (fun U V R I=>?_)
   skip
   refine xF (l:=[UInt8.ofNat (48+n.toNat)]) rfl U99 U5 U9 rfl (aSL I (UI M G)) Ye (fun _ _ _ _ _=>n3) rfl bDY<|Zg rfl<|aG<|Zap ?_;exact aE rfl (fun D hD=>by show Value.string _=_;rw[PG M G])
  ·have z1:=wD (n:=n / 10) Yd Yd;have z2:=wD (n:=n%10) Yd Yd;refine aT<|aA<|Za rfl<|KO rfl rfl rfl Yd Yd Yf rfl bDY<|Zc rfl (fun D1 Y=>KK (n / 10) Yd Yd _)<|Za rfl<|G1 rfl rfl rfl Yd Yd Yf rfl bDY<|Zc rfl (fun D2 Z=>KK (n%10) Yd Yd _)<|kS rfl rfl rfl Yd rfl bDY<|Zg rfl<|aG ?_;exact aE rfl (fun D hD=>by show Value.string _=_;rw[aFS Yd G])
end L12
namespace L12
open C12 Go.Lib
def yY(w:ByteArray)(ns:List Int):ByteArray:=ns.foldl (fun s n=>s++(⟨#[32]⟩++zZ (itoa n))) w
theorem aCG{w:ByteArray}{ns:List Int}{k:Nat}{x:Int}(h:ns[k]?= some x):yY w (ns.take k)++(⟨#[32]⟩++zZ (itoa x))=yY w (ns.take (k+1)):=by
 unfold yY;rw[aZG,h,bAN];rfl
theorem DC{n:Int}(h0:0≤n)(h1:n≤99):(zZ (itoa n)).size≤2:=by
 by_cases h:n≤9
 ·rw[wD h0 h];omega
 ·rw[aFS Yd h1,bCL,wD Yd Yd,wD Yd Yd];omega
end L12
namespace L12
open C12 Go.Lib
theorem EG:∀{p:List UInt8} (l:List UInt8),(32:UInt8)∉p→lN (p++32::l)=p::lN l
 | [],l,_=>by simp[lN]
 |b::p,l,h=>by
  simp only[n4,not_or]at h;rw[bAW,lN,aZB (fun e=>h.1 e.symm),EG l h.2]
theorem SN(w:ByteArray):∀ns:List Int,(yY w ns).data.toList=w.data.toList++ns.flatMap fun n=>32::itoa n:=by
 intro ns;induction ns generalizing w with
 |nil=>simp[yY]
 |cons n ns ih=>
  show(yY (w++(⟨#[32]⟩++zZ (itoa n))) ns).data.toList=_;rw[ih];simp[zZ]
theorem DB:∀(ns:List Int) (p:List UInt8),(32:UInt8)∉p→(∀n∈ns,(32:UInt8)∉itoa n)→lN (p++ns.flatMap fun n=>32::itoa n)=p::ns.map itoa
 | [],p,hp,_=>by simp[uZ hp]
 |n::ns,p,hp,h=>by
  rw[bAC,bAW,EG _ hp,DB ns (itoa n) (h n Ye) fun m hm=>h m (by simp[hm])];rfl
theorem PB:((List.range 100).all fun m=>nY (itoa (m:Int))==some (m:Int)&& !(itoa (m:Int)).contains 32)=true:=by decide+kernel
theorem IP{n:Int}(h0:0≤n)(h1:n≤99):nY (itoa n)=some n∧(32:UInt8)∉itoa n:=by
 obtain⟨m,rfl⟩:=Int.eq_ofNat_of_zero_le h0;have:=aZN.1 PB m (bBF.2 Yd);rw[aYT]at this;exact⟨eq_of_beq this.1,fun hm=>by simp[hm]at this⟩
theorem BY:∀{ns:List Int},(∀n∈ns,0≤n∧n≤99)→(ns.map itoa).mapM nY=some ns
 | [],_=>rfl
 |n::ns,h=>by
  obtain⟨h0,h1⟩:=h n Ye;rw[aZR,bCA,(IP h0 h1).1,BY (ns:=ns) fun m hm=>h m (by simp[hm])];rfl
theorem OF{w:ByteArray}{ns:List Int}{act:fZ}(hw:(32:UInt8)∉w.data.toList)(hr:∀n∈ns,0≤n∧n≤99)(hf:jF.find? (fun x=>x.1==w.data.toList)=some (w.data.toList,ns.length,act)):jK (yY w ns)=some (act,ns):=by
 unfold jK;rw[SN,DB ns _ hw fun n hn=>(IP (hr n hn).1 (hr n hn).2).2];simp only[hf,bAY,bAX];rw[BY hr];rfl
end L12
end Go.Fs
namespace Go.Fs.C1

theorem WQ{l:List Int}{x:Int}(h:x∈l):qO l≤x:=by
 have key:∀(l:List Int) (a:Int),l.foldl min a≤a∧∀x∈l,l.foldl min a≤x:=by
  intro l;induction l with
  |nil=>intro a;simp
  |cons y l ih=>
   intro a;rw[bAG];obtain⟨h1,h2⟩:=ih (min a y);refine⟨by omega,fun x hx=>?_⟩;rcases n4.1 hx with rfl|hx
   ·omega
   ·exact h2 x hx
 cases l with
 |nil=>cases h
 |cons y l=>
  rcases n4.1 h with rfl|h
  ·exact(key l x).1
  ·exact(key l y).2 x h
theorem UY{l:List Int}{x:Int}(h:x∈l):x≤pB l:=by
 have key:∀(l:List Int) (a:Int),a≤l.foldl max a∧∀x∈l,x≤l.foldl max a:=by
  intro l;induction l with
  |nil=>intro a;simp
  |cons y l ih=>
   intro a;rw[bAG];obtain⟨h1,h2⟩:=ih (max a y);refine⟨by omega,fun x hx=>?_⟩;rcases n4.1 hx with rfl|hx
   ·omega
   ·exact h2 x hx
 cases l with
 |nil=>cases h
 |cons y l=>
  rcases n4.1 h with rfl|h
  ·exact(key l x).1
  ·exact(key l y).2 x h
theorem KT{l:List Int}(h:l≠[]):qO l∈l:=by
 have key:∀(l:List Int) (a:Int),l.foldl min a=a∨l.foldl min a∈l:=by
  intro l;induction l with
  |nil=>intro a;exact aZE rfl
  |cons y l ih=>
   intro a;rw[bAG];rcases ih (min a y)with h|h
   ·rw[h];rcases Int.le_total a y with h'|h'
    ·exact aZE Yd
    ·exact aYZ (by rw[Int.min_eq_right h'];exact LT)
   ·exact aYZ (n5 _ h)
 cases l with
 |nil=>exact absurd rfl h
 |cons y l=>
  rcases key l y with h|h
  ·show l.foldl min y∈_;rw[h];exact LT
  ·exact n5 _ h
theorem JL{l:List Int}(h:l≠[]):pB l∈l:=by
 have key:∀(l:List Int) (a:Int),l.foldl max a=a∨l.foldl max a∈l:=by
  intro l;induction l with
  |nil=>intro a;exact aZE rfl
  |cons y l ih=>
   intro a;rw[bAG];rcases ih (max a y)with h|h
   ·rw[h];rcases Int.le_total a y with h'|h'
    ·exact aYZ (by rw[Int.max_eq_right h'];exact LT)
    ·exact aZE Yd
   ·exact aYZ (n5 _ h)
 cases l with
 |nil=>exact absurd rfl h
 |cons y l=>
  rcases key l y with h|h
  ·show l.foldl max y∈_;rw[h];exact LT
  ·exact n5 _ h


theorem sM:∀{l t:List Int},t∈cT l ↔ t.length=l.length∧∀(k:Nat) (x p:Int),t[k]?= some x→l[k]?= some p→(x=0∨x=1)∧(p=2∨p=x)
 | [],t=>by
  simp only[cT,aZM,bAP];constructor
  ·rintro rfl;simp
  ·rintro⟨h,_⟩;exact bBP.1 h
 |p::ps,t=>by
  have key:∀c:Int,(c=0∨c=1)→(t∈(if p=2∨p=c then(cT ps).map (c:: ·)else []) ↔∃u,t=c::u∧u∈cT ps∧(p=2∨p=c)):=by
   intro c _;split
   ·rename_i h;simp only[GT];constructor
    ·rintro⟨u,hu,rfl⟩;exact⟨u,rfl,hu,h⟩
    ·rintro⟨u,rfl,hu,_⟩;exact⟨u,hu,rfl⟩
   ·rename_i h;constructor
    ·intro h';cases h'
    ·rintro⟨_,_,_,h'⟩;exact absurd h' h
  simp only[cT,aZF];rw[key 0 (aZE rfl),key 1 (aYZ rfl)];constructor
  ·have mk:∀(c:Int) (u:List Int),(c=0∨c=1)→t=c::u→u∈cT ps→(p=2∨p=c)→t.length=(p::ps).length∧∀(k:Nat) (x p':Int),t[k]?= some x→(p::ps)[k]?= some p'→(x=0∨x=1)∧(p'=2∨p'=x):=by
    rintro c u hc rfl hu hp;obtain⟨h1,h2⟩:=sM.1 hu;refine⟨by simp[h1],fun k x p' hx hp'=>?_⟩;cases k with
    |zero=>
     simp only[List.getElem?_cons_zero,bCU]at hx hp';subst hx hp';exact⟨hc,hp⟩
    |succ k=>simp only[List.getElem?_cons_succ]at hx hp';exact h2 k x p' hx hp'
   rintro(⟨u,h1,h2,h3⟩|⟨u,h1,h2,h3⟩)
   ·exact mk 0 u (aZE rfl) h1 h2 h3
   ·exact mk 1 u (aYZ rfl) h1 h2 h3
  ·rintro⟨h1,h2⟩;cases t with
   |nil=>simp at h1
   |cons c u=>
    have h0:=h2 0 c p rfl rfl;have hu:u∈cT ps:=sM.2 ⟨by simpa using h1,fun k x p' hx hp'=>h2 (k+1) x p' (by simpa using hx) (by simpa using hp')⟩;rcases h0.1 with rfl|rfl
    ·exact aZE ⟨u,rfl,hu,h0.2⟩
    ·exact aYZ ⟨u,rfl,hu,h0.2⟩
theorem OA{r:dG}{t:List Int}:t∈truths r ↔ t∈cT r.places∧fits r t=true:=List.mem_filter
theorem aHT{r:dG}{t:List Int}:fits r t=true ↔ eN r t=true∧(nR r t:Int)≤r.wrong:=by simp[fits]
theorem HP{r:dG}{t:List Int}:eN r t=true ↔∀c∈r.counts,jH t c≤r.off:=by simp[eN]



structure OQ(r x:dG):Prop where
 len:x.places.length=r.places.length
 counts:x.counts=r.counts
 wrong:r.wrong≤x.wrong
 off:r.off≤x.off
 place:∀(k:Nat) (p:Int),r.places[k]?= some p→x.places[k]?= some p∨x.places[k]?= some 2
theorem ZG{r x:dG}(h:OQ r x){t:List Int}(ht:t∈cT r.places):t∈cT x.places:=by
 rw[sM]at ht ⊢
 obtain⟨h1,h2⟩:=ht;refine⟨by rw[h1,h.len],fun k y p hy hp=>?_⟩;have hk:k<r.places.length:=by rw[←h1];exact(aYV.1 hy).1
 have hr:=aYU hk;obtain⟨a,b⟩:=h2 k y _ hy hr;refine⟨a,?_⟩;rcases h.place k _ hr with h'|h'<;>rw[hp]at h'<;>cases h'
 ·exact b
 ·exact aZE rfl
theorem HM{r x:dG}(h:OQ r x){t:List Int}(ht:t∈truths r):t∈truths x:=by
 rw[OA,aHT]at ht ⊢
 obtain⟨h1,h2,h3⟩:=ht;refine⟨ZG h h1,?_,?_⟩
 ·rw[HP]at h2 ⊢
  rw[h.counts];intro c hc;have:=h2 c hc;have:=h.off;omega
 ·have:nR x t=nR r t:=by unfold nR;rw[h.counts]
  rw[this];have:=h.wrong;omega
end Go.Fs.C1
namespace Go.Fs
open Go.Proofs
namespace L12
open C1
end L12
namespace L12
open C1 (qO pB WQ KT JL UY gW bX)
open C2
theorem XQ{t:aY}{acc:List (List Int)}{s u:List Int}(h:u∈acc):u∈uR t acc s:=by
 unfold uR;split
 ·exact h
 ·exact aYX _ h
theorem x6{t:aY}:∀(l acc:List (List Int)) {u:List Int},u∈acc→u∈l.foldl (uR t) acc
 | [],_,_,h=>h
 |_::l,_,_,h=>x6 l _ (XQ h)
theorem RV{t:aY}{acc:List (List Int)}{s:List Int}(h:jD t s=true):s∈uR t acc s:=by
 unfold uR;split
 ·rename_i hc;rcases hc with hc|hc
  ·rw[h]at hc;cases hc
  ·exact List.mem_of_getLast? hc
 ·exact GE _ Ye
theorem Y9{t:aY}:∀(l acc:List (List Int)) {s:List Int},s∈l→jD t s=true→s∈l.foldl (uR t) acc
 |x::l,acc,s,hs,h=>by
  rcases n4.1 hs with rfl|hs
  ·exact x6 l _ (RV h)
  ·exact Y9 l _ hs h
theorem LG{t:aY}{s:List Int}(h:s∈fO t)(hr:jD t s=true):s∈bE t:=Y9 _ _ h hr
theorem AP{t:aY}{s:List Int}(h:s∈bE t):s∈fO t:=by
 rcases V5 _ _ s h with h|h
 ·cases h
 ·exact h
theorem aPO{t:aY}(h:jV t true=0):aV t=0∧bE t≠[]:=by
 unfold jV at h;have hf:aV t=0:=by
  split at h
  ·exact h
  ·rename_i hf;simpa using hf
 refine⟨hf,fun e=>?_⟩;rw[aZB Yd,aZB Ye,aZK e]at h;cases h
end L12
namespace L12
open C12 Go.Lib
section
variable{s:aN}{x p:ByteArray}{ps:List ByteArray}(h:eA x=p::ps)
include h
end
end L12
end Go.Fs
