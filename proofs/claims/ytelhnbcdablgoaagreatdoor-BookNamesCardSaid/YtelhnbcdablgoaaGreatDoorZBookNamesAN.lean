/- Of the proof of BookNames: Copy, BW25, Eq8, BW26, BW28, Stops, BW27, Lit, BW29, BW30, BW31, Eq9, BW32, BW33, BW49, BW46, BW50. -/
import Derived.Test.YtelhnbcdablgoaaGreatDoorZBookNamesAM
import Derived.Test.YtelhnbcdablgoaaGreatDoorZBookNamesAI
import Derived.Test.YtelhnbcdablgoaaGreatDoorZBookNamesAE
import Derived.Laws.IdiomStrings
import Derived.Test.YtelhnbcdablgoaaGreatDoorZBookNamesAC
import Derived.Test.YtelhnbcdablgoaaGreatDoorZBookNamesAD
namespace Go.Fs
variable{P:Program}{X:Cx}{γb:Type}[Membership Nat γb]{bad:γb}{all:Array Oper}{K:Act→World→Prop}{Q:Exit→Act→World→Prop}
variable{σ:cG}{μ:aD}{Ds:List aC}{os:List (Bool×Nat)}{fl:Bool}{ix:Nat}
variable{d:Nat}{x y z:Operand}{u v:Value}{ty:TypeId}{pos:String}{aft:Array Edge}{g:Option (Nat×Bool)}
def RU:Rd UInt8:=fun _ b cs=>cs=[.int .u8 b.toNat]
theorem RU.up:RU.Up:=fun _ _ _ h=>h
theorem aLK(l:List UInt8):l.flatMap (fun b:UInt8=>[Value.int .u8 b.toNat])=bc l:=by
 induction l with
 |nil=>rfl
 |cons b l ih=>rw[aZD,ih];rfl
theorem mK.bytes{D:aC}{l:List UInt8}(h:Sl D RU 1 v l):mK D v l.length (bc l):=by
 rw[←aLK];exact mK.of (R:=RU) (fun _ _ _ h=>h) (fun _=>rfl) h
theorem aCO{l:List UInt8}{i:Nat}{b:UInt8}(h:l[i]?= some b):(bc l)[i]?= some (.int .u8 b.toNat):=by simp[bc,h]
theorem mH.bytes{D:aC}{n:Nat}{l:List UInt8}(h:mH D v n (bc l))(hn:l.length=n)(hb:n≤9223372036854775807):Sl D RU 1 v l:=
 h.sl hn hb fun i x hx=>⟨_,rfl,rfl,by
  have h1:=aCO hx;rw[bAF,List.take_one,List.head?_drop,h1];rfl⟩
def rz(n:Nat):List Value:=List.replicate n (.int .u8 0)
theorem m9(a b:Nat):rz (a+b)=rz a++rz b:=by unfold rz;rw[List.replicate_append_replicate]
theorem G1(n:Nat):(rz n).length=n:=by simp[rz]
theorem aFP(n:Nat):((Array.range (n*1)).map (#[Value.int .u8 0][· %(#[Value.int .u8 0]:Array Value).size]!)).toList=rz n:=by
 apply bCN;intro i;simp only[bCH,Array.toList_range,aYQ,rz,List.getElem?_replicate,bAF];by_cases hi:i<n
 ·rw[bCG hi,aYJ hi];simp only[aYX];congr 1;have:i%(#[Value.int .u8 0]:Array Value).size=0:=by simp[Nat.mod_one]
  rw[this];rfl
 ·rw[bAT Yap,aYC hi];rfl
theorem WR{A B C us:List Value}{off:Nat}(h:off=A.length)(h2:us.length=B.length):(A++B++C).take off++us++(A++B++C).drop (off+us.length)=A++us++C:=by
 subst h;have G:(A++B++C).take A.length=A:=by rw[aYA,bBW]
 have I:(A++B++C).drop (A.length+us.length)=C:=by rw[h2,←GT,List.drop_left]
 rw[G,I]
theorem VE{t e e' tr:TypeId}{bd od n cd m k:Nat}{xv:Value}{vs us ws:List Value}{μ':aD}{ats:Array TypeId}
  (ho:all[ix]?= some ⟨some d,.call {callee:=.builtin .copy,args:=#[x,y],argTypes:=ats},tr,pos,aft,g⟩) (ht:P.underlying t=some (.slice e)) (hat:ats[0]?= some t) (hs:TS P e 1) (hx:ev σ x=some (.slice (some ⟨bd,od,none⟩) n cd)) (hy:ev σ y=some xv)
  (hsrc:∀a w,Hl X σ μ Ds a w→(Builtin.lenOf xv).run P w=.ok m w∧(Builtin.firstCells 1 k xv).run P w=.ok us.toArray w) (hk:k=Nat.min m n)
  (hm:bO μ bd (.cells vs.toArray e' (0,0)) (.cells ws.toArray e' (0,0)) μ') (hl:od+us.length≤vs.length) (hw:vs.take od++us++vs.drop (od+us.length)=ws) (G:∀u∈us,cell1 u=true) (hfl:fl=false∨bd∈bad) (hN:Nat.blt d X.N=true) (hg:dE all σ g)
  (kk:WL P X bad all K Q os ((d,qI k)::σ) μ' Ds):WL P X bad all K Q ((fl,ix)::os) σ μ Ds:=by
 refine eI ho rfl rfl hg fun a w hh=>?_
 obtain⟨h1,h2,h3,D,h4,h5,M⟩:=id hh;obtain⟨hlen,hfc⟩:=hsrc a w hh;obtain⟨w',hr,hw'⟩:=iX (P:=P) us 0 w bd od vs e' (h4.box _ hm.mem).1 Yd G;rw[Nat.add_zero,hw]at hw';have hcp:(Builtin.copy_ ats tr #[.slice (some ⟨bd,od,none⟩) n cd,xv]).run P w=.ok (qI k) w':=by
  have I:(#[Value.slice (some ⟨bd,od,none⟩) n cd,xv]:Array Value)[0]?= some (.slice (some ⟨bd,od,none⟩) n cd):=rfl;have O:(#[Value.slice (some ⟨bd,od,none⟩) n cd,xv]:Array Value)[1]?= some xv:=rfl;unfold Builtin.copy_;simp only[hat,I,O,Sem.run_bind,TU.of ht w,Result.andThen_ok,hlen,hs w,←hk,hfc,hr,Sem.run_pure,goInt]
 have hex:(execOp a.eval ⟨some d,.call {callee:=.builtin .copy,args:=#[x,y],argTypes:=ats},tr,pos,aft,g⟩).run P w=.ok (.value (qI k)) w':=by
  simp only[execOp,resolve,pure_bind,invoke,builtin];have I:(#[x,y].map a.eval)=#[.slice (some ⟨bd,od,none⟩) n cd,xv]:=by simp[hh.eval hx,hh.eval hy]
  rw[I,Sem.run_bind,hcp];rfl
 rw[hex];have hst:=h4.set hm hw' rfl;refine⟨fun hf=>⟨by rw[hw'.1];simp,fun c hc hcb=>?_⟩,kk _ _ (Hl.put ⟨h1,h2,h3,D,hst,h5,M.step (fun _ p hp=>aYF Yat) (fun _=>jI hw' (n4.2 ⟨_,hm.mem,rfl⟩)) hst.dom⟩ hN _)⟩
 have hb:bd∈bad:=by
  rcases hfl with h|h
  ·rw[hf]at h;cases h
  ·exact h
 rw[hw'.1,aZZ (by rintro rfl;exact hcb hb)]
theorem aBD{t e e' tr:TypeId}{bd od n cd:Nat}{s:ByteArray}{vs ws:List Value}{μ':aD}{ats:Array TypeId}
  (ho:all[ix]?= some ⟨some d,.call {callee:=.builtin .copy,args:=#[x,y],argTypes:=ats},tr,pos,aft,g⟩) (ht:P.underlying t=some (.slice e)) (hat:ats[0]?= some t) (hs:TS P e 1) (hx:ev σ x=some (.slice (some ⟨bd,od,none⟩) n cd)) (hy:ev σ y=some (.string s)) (hn:s.size≤n)
  (hm:bO μ bd (.cells vs.toArray e' (0,0)) (.cells ws.toArray e' (0,0)) μ') (hl:od+s.size≤vs.length) (hw:vs.take od++bc s.data.toList++vs.drop (od+(bc s.data.toList).length)=ws) (hfl:fl=false∨bd∈bad) (hN:Nat.blt d X.N=true) (hg:dE all σ g)
  (kk:WL P X bad all K Q os ((d,qI s.size)::σ) μ' Ds):WL P X bad all K Q ((fl,ix)::os) σ μ Ds:=
 VE (m:=s.size) (k:=s.size) (us:=bc s.data.toList) ho ht hat hs hx hy (fun a w _=>⟨rfl,Go.Lib.run_firstCells_string (P:=P) w 1 s⟩) (bBH hn).symm hm (by rw[lA];exact hl) hw (kT _) hfl hN hg kk
theorem DP{t e e' I tr:TypeId}{bd od n cd bs os' m cs:Nat}{vs us ws xs:List Value}{μ':aD}{ats:Array TypeId}
  (ho:all[ix]?= some ⟨some d,.call {callee:=.builtin .copy,args:=#[x,y],argTypes:=ats},tr,pos,aft,g⟩) (ht:P.underlying t=some (.slice e)) (hat:ats[0]?= some t) (hs:TS P e 1) (hx:ev σ x=some (.slice (some ⟨bd,od,none⟩) n cd)) (hy:ev σ y=some (.slice (some ⟨bs,os',none⟩) m cs)) (hn:m≤n)
  (hsm:(bs,.cells xs.toArray I (0,0))∈μ) (hus:(xs.drop os').take m=us) (hul:us.length=m)
  (hm:bO μ bd (.cells vs.toArray e' (0,0)) (.cells ws.toArray e' (0,0)) μ') (hl:od+m≤vs.length) (hw:vs.take od++us++vs.drop (od+us.length)=ws) (G:∀u∈us,cell1 u=true) (hfl:fl=false∨bd∈bad) (hN:Nat.blt d X.N=true) (hg:dE all σ g)
  (kk:WL P X bad all K Q os ((d,qI m)::σ) μ' Ds):WL P X bad all K Q ((fl,ix)::os) σ μ Ds:=
 VE (m:=m) (k:=m) (us:=us) ho ht hat hs hx hy (fun a w hh=>⟨rfl,by
  simp only[Builtin.firstCells];have hbx:w.heap[bs]?= some (.cells xs.toArray I (0,0)):=by
   obtain⟨_,_,_,D,h4,_⟩:=hh;exact(h4.box _ hsm).1
  refine kW (by rw[bAF];exact hul) fun j u hj=>oK (cs:=xs.toArray) hbx ?_
  have hjl:=(aXZ.1 hj).1;rw[←hus,bAN Yd,bAD]at hj;simpa using hj⟩) (bBH hn).symm hm Yd hw G hfl hN hg kk

theorem aBB{t e:TypeId}{n b o l:Nat}{G:IntKind}{i:Int}(ho:all[ix]?= some ⟨some d,.slice t x (some y) none none,ty,pos,aft,g⟩)(ht:P.underlying t=some (.array n e))(hs:TS P e 1)(hx:ev σ x=some (.pointer (some ⟨b,o,none⟩)))
  (hy:ev σ y=some (.int G i)) (hi:i=(l:Int)) (h3:l<n)
  (hN:Nat.blt d X.N=true) (hg:dE all σ g) (kk:WL P X bad all K Q os ((d,.slice (some ⟨b,o+l,none⟩) (n-l) (n-l))::σ) μ Ds):WL P X bad all K Q ((fl,ix)::os) σ μ Ds:=by
 subst hi;refine bX ho rfl rfl hN hg (fun ρ hρ w'=>?_) kk;simp only[execOp,hρ x _ hx,hρ y _ hy,aZX,aYX];unfold Instr.sliceAt Instr.sureAddr Instr.sliceBounds Instr.sliceBound asIntOf;have I:(0:Int)≤(l:Int)∧(l:Int)≤(n:Nat):=by omega
 simp only[Sem.run_bind,TU.of ht w',Result.andThen_ok,hs w',Sem.run_pure,pure_bind,I,bCL,aZU,aZN,bAF];rw[aYC Yd];simp[Addr.add]
theorem XJ{t e:TypeId}{n b o:Nat}(ho:all[ix]?= some ⟨some d,.slice t x none none none,ty,pos,aft,g⟩)(ht:P.underlying t=some (.array n e))(hs:TS P e 1)(hx:ev σ x=some (.pointer (some ⟨b,o,none⟩)))(h3:Nat.beq n 0=false)
  (hN:Nat.blt d X.N=true) (hg:dE all σ g) (kk:WL P X bad all K Q os ((d,.slice (some ⟨b,o,none⟩) n n)::σ) μ Ds):WL P X bad all K Q ((fl,ix)::os) σ μ Ds:=by
 have h3':¬n=0:=fun h=>by subst h;cases h3
 refine bX ho rfl rfl hN hg (fun ρ hρ w'=>?_) kk;simp only[execOp,hρ x _ hx,aZX];unfold Instr.sliceAt Instr.sureAddr Instr.sliceBounds;simp only[Sem.run_bind,TU.of ht w',Result.andThen_ok,hs w',Sem.run_pure,pure_bind,bAF];simp[h3',Addr.add]
theorem aCH{t e:TypeId}{b o j n cap:Nat}{k:IntKind}(ho:all[ix]?= some ⟨some d,.slice t x (some y) none none,ty,pos,aft,g⟩)(ht:P.underlying t=some (.slice e))(hs:TS P e 1)(hx:ev σ x=some (.slice (some ⟨b,o,none⟩) n cap))(hy:ev σ y=some (.int k (j:Int)))(hj:j≤n)(hc:j<cap)
  (hN:Nat.blt d X.N=true) (hg:dE all σ g) (kk:WL P X bad all K Q os ((d,.slice (some ⟨b,o+j,none⟩) (n-j) (cap-j))::σ) μ Ds):WL P X bad all K Q ((fl,ix)::os) σ μ Ds:=by
 have ha:(if cap=j then some (⟨b,o,none⟩:Addr)else(some (⟨b,o,none⟩:Addr)).map (·.add (j*1)))=some ⟨b,o+j,none⟩:=by
  rw[aYC Yd];simp[gI]
 refine bX ho rfl rfl hN hg (fun ρ hρ w'=>?_) kk;simp only[execOp,aZX,aYX,hρ x _ hx,hρ y _ hy];unfold Instr.sliceAt Instr.slice Instr.sliceBounds Instr.sliceBound asIntOf;have hle:(0:Int)≤(j:Int)∧(j:Int)≤(n:Nat):=by omega
 simp only[Sem.run_bind,TU.of ht w',Result.andThen_ok,Sem.run_pure,pure_bind,hs w',hle,bCL,aZU,aZN,ha]
theorem Sl.part{α:Type}{R:Rd α}{D:aC}{ad:Option Addr}{n cap i j:Nat}{xs:List α}(h:Sl D R 1 (.slice ad n cap) xs)(h1:i≤j)(h2:j≤n):Sl D R 1 (.slice (if cap=i then ad else ad.map (·.add (i*1))) (j-i) (cap-i)) ((xs.drop i).take (j-i)):=by
 obtain⟨a,c,hv,I,M,G⟩:=h;cases hv;have hlen:((xs.drop i).take (j-i)).length=j-i:=by simp;omega
 refine⟨_,_,by rw[hlen],by omega,by omega,?_⟩;by_cases he:j=i
 ·exact aYF (bAP.1 Yd)
 ·rcases G with G|⟨b,o,rfl,G⟩
  ·subst G;simp at h2;omega
  ·refine aXR ⟨b,o+i,by rw[aYC Yd];simp[gI],fun q z hq=>?_⟩;rw[List.getElem?_take]at hq;split at hq
   ·rw[bAD]at hq;obtain⟨cs,hr,hc,hA⟩:=G _ _ hq;exact⟨cs,hr,hc,by rw[show o+i+q*1=o+(i+q)*1 by omega];exact hA⟩
   ·cases hq
theorem KK{α:Type}{R:Rd α}{t e:TypeId}{D₁:aC}{ad:Option Addr}{n cap i j:Nat}{G I:IntKind}{xs:List α}(ho:all[ix]?= some ⟨some d,.slice t x (some y) (some z) none,ty,pos,aft,g⟩)(ht:P.underlying t=some (.slice e))(hs:TS P e 1)(hx:ev σ x=some (.slice ad n cap))(hS:Sl D₁ R 1 (.slice ad n cap) xs)
  (hy:ev σ y=some (.int G (i:Int))) (hz:ev σ z=some (.int I (j:Int))) (h1:i≤j) (h2:j≤n)
  (hN:Nat.blt d X.N=true) (hg:dE all σ g) (kk:∀a',Sl D₁ R 1 (.slice a' (j-i) (cap-i)) ((xs.drop i).take (j-i))→WL P X bad all K Q os ((d,.slice a' (j-i) (cap-i))::σ) μ Ds):WL P X bad all K Q ((fl,ix)::os) σ μ Ds:=by
 have hnc:n≤cap:=by obtain⟨a,c,hv,G,I,O⟩:=hS;cases hv;exact G
 refine bX (v:=.slice (if cap=i then ad else ad.map (·.add (i*1))) (j-i) (cap-i)) ho rfl rfl hN hg (fun ρ hρ w'=>?_) (kk _ (hS.part h1 h2));simp only[execOp,aZX,aYX,hρ x _ hx,hρ y _ hy,hρ z _ hz];unfold Instr.sliceAt Instr.slice Instr.sliceBounds Instr.sliceBound asIntOf;have M:(0:Int)≤(i:Int)∧(i:Int)≤(j:Nat):=by omega
 have a2:(0:Int)≤(j:Int)∧(j:Int)≤(cap:Nat):=by omega
 simp only[Sem.run_bind,TU.of ht w',Result.andThen_ok,Sem.run_pure,pure_bind,hs w',M,a2,bCL,aZU,aZN]
theorem aFY{α:Type}{R:Rd α}{t e:TypeId}{D₁:aC}{ad:Option Addr}{n cap j:Nat}{G:IntKind}{xs:List α}(ho:all[ix]?= some ⟨some d,.slice t x none (some z) none,ty,pos,aft,g⟩)(ht:P.underlying t=some (.slice e))(hs:TS P e 1)(hx:ev σ x=some (.slice ad n cap))(hS:Sl D₁ R 1 (.slice ad n cap) xs)
  (hz:ev σ z=some (.int G (j:Int))) (h2:j≤n)
  (hN:Nat.blt d X.N=true) (hg:dE all σ g) (kk:∀a',Sl D₁ R 1 (.slice a' j cap) (xs.take j)→WL P X bad all K Q os ((d,.slice a' j cap)::σ) μ Ds):WL P X bad all K Q ((fl,ix)::os) σ μ Ds:=by
 have hnc:n≤cap:=by obtain⟨a,c,hv,I,G,M⟩:=hS;cases hv;exact I
 have hp:=hS.part (bCE j) h2;rw[bBF,bAX,bAX]at hp;refine bX (v:=.slice (if cap=0 then ad else ad.map (·.add (0*1))) j cap) ho rfl rfl hN hg (fun ρ hρ w'=>?_) (kk _ hp);simp only[execOp,aZX,aYX,hρ x _ hx,hρ z _ hz];unfold Instr.sliceAt Instr.slice Instr.sliceBounds Instr.sliceBound asIntOf;have a2:(0:Int)≤(j:Int)∧(j:Int)≤(cap:Nat):=by omega
 simp only[Sem.run_bind,TU.of ht w',Result.andThen_ok,Sem.run_pure,pure_bind,hs w',a2,bCL,aZU,aZN,bAX]

theorem qZ{t1 t2 e:TypeId}{D₁:aC}{l:List UInt8}(ho:all[ix]?= some ⟨some d,.convert t1 t2 x,ty,pos,aft,g⟩)(h1:P.underlying t1=some (.slice e))(he:P.underlying e=some (.int .u8))(h2:P.underlying t2=some .string)(hx:ev σ x=some v)(hS:Sl D₁ RU 1 v l)(hD:D₁∈Ds)
  (hbad:∀b o c,v=.slice (some ⟨b,o,none⟩) l.length c→l≠[]→b∉bad) (hN:Nat.blt d X.N=true) (hg:dE all σ g) (kk:WL P X bad all K Q os ((d,.string ⟨l.toArray⟩)::σ) μ Ds):WL P X bad all K Q ((fl,ix)::os) σ μ Ds:=
 mA ho rfl rfl hN hg (fun a w hh w' hk=>by
  have key:(Go.convert t1 t2 v).run P w'=.ok (.string ⟨l.toArray⟩) w':=by
   obtain⟨ad,cap,rfl,I,M,G⟩:=hS;rcases G with G|⟨b,o,rfl,G⟩
   ·subst G;cases ad with
    |none=>exact Go.run_convert_bytes_nil w' t1 e h1 he _ cap t2 h2
    |some ad=>exact Go.run_convert_bytes_back w' t1 t2 e ad cap [] h1 he h2 (fun j hj=>by cases hj)
   ·refine Go.run_convert_bytes_back w' t1 t2 e ⟨b,o,none⟩ cap l h1 he h2 (fun j hj=>?_);obtain⟨cs,hr,hc,hA⟩:=G j l[j] (aXT hj);obtain rfl:cs=[.int .u8 l[j].toNat]:=hr;have hb:b∉bad:=hbad b o cap rfl (fun h=>by subst h;cases hj)
    rw[gI];have:=hh.dataAt hD (hA 0 _ rfl) hb hk;simpa using this
  simp only[execOp,hh.eval hx];rw[Sem.run_bind,key];rfl) kk
open Go.Proofs Tryz
namespace L12
open C12 Go.Lib
theorem Z3(s:ByteArray):s.data.toList.length=s.size:=rfl
def iP(ls:List ByteArray):List (List UInt8):=ls.map fun x=>x.data.toList
theorem y1{ls:List ByteArray}{k:Nat}{x:ByteArray}(h:ls[k]?= some x):(iP ls)[k]?= some x.data.toList:=by unfold iP;rw[aYQ,h];rfl
theorem BT{ls:List ByteArray}(k:Nat)(hn:ls.length≤1000)(hsz:∀l∈ls,l.size≤1000):(oU ((iP ls).take k)).length≤1009000:=by
 have h:=xG ((iP ls).take k) 0 1000 (fun l hl=>by
  obtain⟨x,hx,rfl⟩:=n4.1 (bBZ hl);exact hsz x hx)
 have h2:((iP ls).take k).length≤1000:=by rw[aZJ];unfold iP;rw[aZL];omega
 have h3:(9+1000)*((iP ls).take k).length≤1009*1000:=Nat.mul_le_mul_left _ h2;unfold oU;omega
section
variable{P:Program}{X:Cx}{γb:Type}[Membership Nat γb]{bad:γb}{all:Array Oper}{K:Act→World→Prop}{Q:Exit→Act→World→Prop}{σ:cG}{μ:aD}{Ds:List aC}{os:List (Bool×Nat)}
theorem G2{b:Nat}{e:TypeId}{fz:Nat×Nat}{cs cs':List Value}(h:cs=cs')(k:WL P X bad all K Q os σ ((b,.cells cs'.toArray e fz)::μ) Ds):WL P X bad all K Q os σ ((b,.cells cs.toArray e fz)::μ) Ds:=h▸k
end
theorem WE(i:Nat)(s:ByteArray)(hi:i≤100000)(hs:s.size≤1000)(D:aC):Fn prog 66 #[qI (i:Int),.string s] D (fun D' v=>Sl D' RU 1 v (mF i s.data.toList)):=by
 refine enter 53 func66 rfl rfl rfl rfl fun h0=>aA<|Zj rfl<|aK<|Za rfl<|Za rfl<|Zc rfl (fun R I=>U1 i s hi hs _)<|Za rfl<|lN rfl U9 rfl rfl rfl bCV<|Zc rfl (fun T M=>UH s.size Yd _)<|Zw rfl wN rfl (fun U=>Zw rfl SX rfl (fun V=>?_));refine aV rfl rfl rfl rfl tU Ya Ya (.tail (bO.head)) (kT (Y6 i s.data.toList)) bCV<|aV rfl rfl rfl rfl pK Ya Ya (bO.head) (kT (vW s.size)) bCV<|aK<|Za rfl<|lN rfl U9 rfl rfl rfl bCV<|Zaa rfl<|Zaa rfl<|aU (n:=s.size+9) rfl U51 gN CB rfl aGU Yb Yb Yd (aFP _) rfl bCV (fun bo=>G2 (cs':=[]++rz 2++rz (s.size+7)) (by first|(rw[aYT,←m9];done)|(rw[aYT,←m9];congr 1;omega))<|Zj rfl<|aK<|Za rfl ?_);refine aBB (l:=2) rfl U257 gN rfl rfl rfl Yd rfl bCV<|DP (us:=bc [wC s.size 1,wC s.size 0]) rfl U51 rfl gN rfl rfl Yd Mm1 rfl rfl .head (by simp[G1]<;>omega) (WR rfl rfl) (kT _) (aYF rfl) rfl bCV<|G2 (cs':=bc [wC s.size 1,wC s.size 0]++rz 1++rz (s.size+6)) (by first|(rw[aYT,aYA,←m9];done)|(rw[aYT,aYA,←m9];congr 2;omega))<|aK<|Za rfl<|Zh rfl S8 rfl<|eJ rfl U255 gN rfl rfl Yd Yd rfl bCV<|Zp rfl p6 rfl Mm2 rfl<|gT rfl U51 gN rfl rfl Yd Yd rfl bCV<|bJ (ws:=bc [wC s.size 1,wC s.size 0]++bc [59]++rz (s.size+6)) rfl rfl rfl rfl gN .head (by simp[lA,G1]<;>omega) (WR (by simp[lA]<;>omega) rfl) (kT [59]) bCV<|G2 (cs':=bc [wC s.size 1,wC s.size 0,59]++rz s.size++rz 6) (by rw[m9,←aYA];rfl)<|aK ?_;refine Za rfl<|aCH (j:=3) rfl U51 gN rfl rfl Yd Yd rfl bCV<|Za rfl<|aBD (ws:=bc [wC s.size 1,wC s.size 0,59]++bc s.data.toList++rz 6) rfl U51 rfl gN rfl rfl Yd .head (by simp[lA,G1]<;>omega) (WR rfl (by rw[lA,G1];rfl)) (aYF rfl) rfl bCV<|G2 (cs':=(bc [wC s.size 1,wC s.size 0,59]++bc s.data.toList)++rz 1++rz 5) (by rw[aYA _ (rz 1)];rfl)<|aK<|Za rfl<|Za rfl<|lN rfl U9 rfl rfl rfl bCV<|Zaa rfl<|aCH (j:=3+s.size) rfl U51 gN rfl Yb Yd Yd rfl bCV<|Zj rfl ?_;refine aK<|Za rfl<|Zh rfl S8 rfl<|eJ rfl U255 gN rfl rfl Yd Yd rfl bCV<|Zp rfl p6 rfl Mm2 rfl<|gT rfl U51 gN rfl rfl Yd Yd rfl bCV<|bJ (ws:=(bc [wC s.size 1,wC s.size 0,59]++bc s.data.toList)++bc [59]++rz 5) rfl rfl rfl rfl gN .head (by simp[lA,G1]<;>omega) (WR (by simp[lA]<;>omega) rfl) (kT [59]) bCV<|G2 (cs':=(bc [wC s.size 1,wC s.size 0,59]++bc s.data.toList++bc [59])++rz 4++rz 1) (by rw[aYA _ (rz 4)];rfl)<|bR<|bM [] 2 5 12<|Za rfl<|aCH (j:=1) rfl U51 gN rfl rfl Yd Yd rfl bCV ?_;refine Zh rfl aBF rfl<|XJ rfl U257 gN rfl rfl rfl bCV<|DP (us:=bc (vW (lV i s.data.toList))) (ws:=(bc [wC s.size 1,wC s.size 0,59]++bc s.data.toList++bc [59])++bc (vW (lV i s.data.toList))++rz 1) rfl U51 rfl gN rfl rfl Yd Mm2 rfl rfl .head (by simp[lA,G1]<;>omega) (WR (by simp[lA]<;>omega) rfl) (kT _) (aYF rfl) rfl bCV<|G2 (cs':=(bc [wC s.size 1,wC s.size 0,59]++bc s.data.toList++bc [59]++bc (vW (lV i s.data.toList)))++rz 1++[]) (by rw[aXS])<|aK<|Za rfl<|Zh rfl S8 rfl<|eJ rfl U255 gN rfl rfl Yd Yd rfl bCV<|Zp rfl p6 rfl Mm2 rfl<|gT rfl U51 gN rfl rfl Yd Yd rfl bCV<|bJ (ws:=(bc [wC s.size 1,wC s.size 0,59]++bc s.data.toList++bc [59]++bc (vW (lV i s.data.toList)))++bc [10]++[]) rfl rfl rfl rfl gN .head (by simp[lA,G1,vW]<;>omega) (WR (by simp[lA,vW]<;>omega) rfl) (kT [10]) bCV<|G2 (cs':=bc (mF i s.data.toList)) (by rw[aXS,←rV,←rV,←rV,←rV];rfl) ?_;refine aK<|Za rfl<|Zj rfl<|aH ?_
 have ha:bZ 5 1 (qS bo (s.size+9) (s.size+9)) (s.size+9) (bc (mF i s.data.toList)) [(bo,qC (bc (mF i s.data.toList)) 5)]:=aXR ⟨bo,s.size+9,[],rfl,aYI _,by rw[aXS],by rw[lA,nW,Z3];omega,by rw[aXS,lA,nW,Z3];omega⟩;refine gR (A:=[]) (B:=[(_,_),(_,_)]) ha rfl (fun Y O G=>?_);exact aF rfl (fun D hD=>(G.bytes (by rw[nW,Z3];omega) Yd).up RU.up (hD _ Ye))
theorem VK(lv:Value)(ls:List ByteArray)(D:aC)(hS:Sl D RS 1 lv ls)(hn:ls.length≤1000)(hsz:∀l∈ls,l.size≤1000):Fn prog 37 #[lv] D (fun D' v=>Sl D' RU 1 v (oU (iP ls))):=by
 have hfl:=fun k=>BT (ls:=ls) k hn hsz
 refine enter 19 func37 rfl rfl rfl rfl fun h0=>aA<|Zj rfl<|bW<|Za rfl<|dH rfl U22 rfl Ym rfl rfl bCV<|Za rfl<|aG<|Zar<|dB (γ:=Nat×Value×aD) (fun g=>ls.length-g.1) (fun g=>g.1≤ls.length∧bZ 5 1 g.2.1 (oU ((iP ls).take g.1)).length (bc (oU ((iP ls).take g.1))) g.2.2) (fun g=>[(7,qI (g.1:Int)),(2,g.2.1)]) [(6,_),(5,_)] (fun g=>g.2.2++[]) (fun g=>[D]) (0,qN,[]) ⟨by simp,by simpa [oU,kE,bc]using bZ.nil⟩ ⟨Yb,Yb,bCV⟩ bA Mm5 (aE) ?_
 rintro⟨k,v,ν⟩ ⟨h1,ha⟩;simp only at h1 ha;have hflk:=hfl k;refine aA<|Zai rfl<|bR<|Zz rfl (fun G=>?_) (fun G=>?_)
 ·simp only at G;have hlt:k<ls.length:=by omega
  obtain⟨x,hx⟩:=dX ls k;have hxs:=hsz x (LT hx);refine aZ<|aO<|Zar<|aA<|Za rfl<|Zx rfl U22 jC rfl hS rfl hx (fun b1 o1 I M hB O=>?_);obtain rfl:I=[.string _]:=M;refine Zf 0 rfl I9 rfl O rfl<|Zj rfl<|Zj rfl<|aG<|aX<|Za rfl<|Za rfl<|Za rfl<|Zt rfl (fun D1 R=>WE k x Yd (hsz x (LT hx)) _) (fun T D1 R U=>bE (A:=[]) (B:=[]) rfl U51 rfl rfl gN CB rfl aGU rfl rfl rfl ha (mK.bytes U) Ye (by rw[lA,bAF]) (by rw[lA,bAF]) (kT _) (by rw[nW,Z3];omega) (aYF rfl) rfl bCV (fun T ν1 V=>?_))
  have Y:bZ 5 1 T (oU ((iP ls).take (k+1))).length (bc (oU ((iP ls).take (k+1)))) ν1:=by rw[y9 (y1 hx),GT,rV];exact V
  refine aJ (ν1++[]) rfl<|Zj rfl<|Zae<|Zat<|Zap<|aX<|Zaa rfl<|Za rfl<|Zae ?_;exact aM 16 (k+1,T,ν1) ⟨by simp only;omega,Y⟩ Yo ⟨Yb,Yb,bCV⟩ rfl rfl Mm5 (fun D h=>⟨D,aYK _ (h),Le.refl D⟩)
 ·obtain rfl:k=ls.length:=by simp only at G;omega
  rw[show(iP ls).take ls.length=(iP ls)from aYO (by simp[iP])]at ha hflk;refine aT<|Zaq<|Zaq<|Zau<|Zap<|aA<|Za rfl<|Zj rfl<|aH<|gR (A:=[]) (B:=[]) ha rfl (fun D9 hE Z=>?_);exact aF rfl (fun D hD=>(Z.bytes rfl Yd).up RU.up (hD _ Ye))
theorem LB(lv:Value)(ls:List ByteArray)(D:aC)(hS:Sl D RS 1 lv ls):Fn prog 14 #[lv] D (fun D' v=>∃R,v=.tuple #[R,qI (fP ls)]∧Sl D' RU 1 R (if fP ls=0 then oU (iP ls)else [])):=by
 refine enter 12 func14 rfl rfl rfl rfl fun h0=>aA<|Zj rfl<|Zj rfl<|bW<|Za rfl<|Zc rfl (fun U M=>sT _ ls _ (hS.up RS.up (M _ Ye)))<|Zj rfl<|aK<|Za rfl<|Zam rfl<|aG ?_;refine Zz rfl (fun G=>?_) (fun G=>?_)
 ·have hf:fP ls≠0:=by simpa using G
  refine aA<|Za rfl<|Zj rfl<|Zj rfl<|aH<|Zas ?_;exact jK (vs:=[_,_]) rfl rfl rfl bA (fun D hD=>⟨_,rfl,by rw[aYC hf];exact Sl.nil⟩)
 ·have hf:fP ls=0:=by simpa using G
  refine aZ<|aA<|Za rfl<|Zt rfl (fun T I=>VK _ ls _ (hS.up RS.up (I _ Ye)) (by have:=S2 hf;omega) (fun l hl=>by have:=P0 hf l hl;omega)) (fun v2 T I O=>Zj rfl<|Zj rfl<|aH ?_);exact jK (vs:=[_,_]) rfl rfl rfl bA (fun D hD=>⟨_,by rw[hf];rfl,by rw[aYJ hf];exact O.up RU.up (hD _ Ye)⟩)
end L12
def jV(l:List Int):List Value:=l.map (.int .u8)
theorem CW{l:List Int}{k:Nat}{n:Int}(h:l[k]?= some n):(jV l)[k]?= some (.int .u8 n):=by simp[jV,h]
theorem tK(dp:Nat){e:TypeId}(hu:P.underlying e=some (.int .u8))(l m:List Int)(w:World):∀(is:List Nat),(∀i∈is,i<l.length∧i<m.length)→
  (Op.eqItems (dp+1) e 1 (jV l).toArray (jV m).toArray is).run P w=.ok (is.all fun i=>l[i]? ==m[i]?) w
 | [],_=>by simp[Op.eqItems,Sem.run_pure]
 |i::is,h=>by
  obtain⟨h1,h2⟩:=h i aXW;have g1:(jV l).toArray[i*1]?= some (.int .u8 l[i]):=by rw[bAF];simpa using CW (aXT h1)
  have g2:(jV m).toArray[i*1]?= some (.int .u8 m[i]):=by rw[bAF];simpa using CW (aXT h2)
  simp only[Op.eqItems,Sem.run_bind,cO hu g1,cO hu g2,run_equalIn_int w dp e .u8 .u8 _ _ hu,Result.andThen_ok,List.all_cons,aXT h1,aXT h2];by_cases he:l[i]=m[i]
  ·simp[he,tK dp hu l m w is (fun j hj=>h j (LE _ hj))]
  ·simp[he,Sem.run_pure]
structure n8(P:Program)(f:Field)(o n:Nat):Prop where
 name:f.name≠ "_"
 eqp:∀(l m:List Int) w,o+n≤l.length→o+n≤m.length→∃u v,(part f.type (jV l).toArray f.offset).run P w=.ok u w∧(part f.type (jV m).toArray f.offset).run P w=.ok v w∧(Op.equalIn 9999 f.type u v).run P w=.ok ((l.drop o).take n==(m.drop o).take n) w
inductive H2(P:Program):Nat→Nat→List Field→Prop
 |nil {o}:H2 P o o []
 |cons {o n e f fs} (h:n8 P f o n) (r:H2 P (o+n) e fs):H2 P o e (f::fs)
theorem H2.le{o e:Nat}{fs:List Field}(h:H2 P o e fs):o≤e:=by
 induction h with
 |nil=>exact aYI _
 |cons _ _ ih=>omega
theorem z7(l m:List Int)(o n:Nat):(l.drop o==m.drop o)=(((l.drop o).take n==(m.drop o).take n)&&(l.drop (o+n)==m.drop (o+n))):=by
 rw[bAY];simp only[bCC,aYB];constructor
 ·intro h;exact⟨by rw[h],by rw[←bBX,←bBX,h]⟩
 ·rintro⟨h1,h2⟩;rw[←bAJ n (l.drop o),←bAJ n (m.drop o),h1,bBX,bBX,h2]
theorem BO(l m:List Int)(w:World){o e:Nat}{fs:List Field}(h:H2 P o e fs)(hl:l.length=e)(hm:m.length=e):(Op.eqFields 9999 (jV l).toArray (jV m).toArray fs).run P w=.ok (l.drop o==m.drop o) w:=by
 induction h with
 |nil=>
  rw[aYV Yd,aYV Yd];rfl
 | @cons o n e f fs h r ih=>
  have hle:=r.le;obtain⟨u,v,h1,h2,h3⟩:=h.eqp l m w Yd Yd;rw[Op.eqFields,aYJ h.name];simp only[Sem.run_bind,h1,h2,Result.andThen_ok];rw[h3,z7 l m o n];simp only[Result.andThen_ok];cases hx:(l.drop o).take n==(m.drop o).take n with
  |true=>
   simp only[bCO,aYY,aZW,bBL];exact ih hl hm
  |false=>simp only[bCI,aZU,Sem.run_pure,Bool.false_and]
theorem X4{t:TypeId}{n o:Nat}(ha:TA P t true)(hs:TS P t n){l:List Int}(_hl:o+n≤l.length)(w:World):(part t (jV l).toArray o).run P w=.ok (.agg (jV ((l.drop o).take n)).toArray) w:=by
 unfold part;simp only[Sem.run_bind,ha w,Result.andThen_ok,aZU,hs w,Sem.run_pure];congr 2;apply Array.ext';simp only[Array.toList_extract,List.extract_eq_take_drop,jV,List.map_drop,List.map_take];congr 1;omega
theorem n8.arr{f:Field}{o n:Nat}{e:TypeId}(hn:f.name≠ "_")(ho:f.offset=o)(ht:P.underlying f.type=some (.array n e))(he:P.underlying e=some (.int .u8))(hc:P.cellsOf e=1)(ha:TA P f.type true)(hs:TS P f.type n):n8 P f o n:=by
 refine⟨hn,fun l m w hl hm=>⟨_,_,by rw[ho];exact X4 ha hs hl w,by rw[ho];exact X4 ha hs hm w,?_⟩⟩;obtain⟨i,hi⟩:=info_of_underlying he;have h:=run_equalIn_array (P:=P) w 9998 (jV ((l.drop o).take n)).toArray (jV ((m.drop o).take n)).toArray ht hi;have G:((l.drop o).take n).length=n:=by rw[aZJ,bAA];omega
 have I:((m.drop o).take n).length=n:=by rw[aZJ,bAA];omega
 rw[hc,tK 9997 he _ _ w (List.range n) (fun j hj=>by have:=bAR.1 hj;omega),rL G I]at h;exact h
def aXG(P:Program)(t:TypeId)(n:Nat):Prop:=P.underlying t=some (.struct (P.fieldsOf t))∧P.stoodInHeld t=false∧P.eqGuardType P.depth t=false∧H2 P 0 n (P.fieldsOf t).toList
theorem GW{t:TypeId}{n:Nat}(h:aXG P t n){l m:List Int}(hl:l.length=n)(hm:m.length=n)(w:World):(Op.equal t (.agg (jV l).toArray) (.agg (jV m).toArray)).run P w=.ok (l==m) w:=by
 have he:=run_equalIn_struct (P:=P) w 9999 t (jV l).toArray (jV m).toArray h.1 h.2.1;show(Op.equalIn (9999+1) t (.agg (jV l).toArray) (.agg (jV m).toArray)).run P w=_;rw[he,BO l m w h.2.2.2 hl hm];simp
theorem UO{t t':TypeId}{n:Nat}{l m:List Int}(ho:all[ix]?= some ⟨some d,.binOp .eql t x y t',ty,pos,aft,g⟩)(ht:aXG P t n)(hl:l.length=n)(hm:m.length=n)(hx:ev σ x=some (.agg (jV l).toArray))(hy:ev σ y=some (.agg (jV m).toArray))(hN:Nat.blt d X.N=true)(hg:dE all σ g)
  (kk:WL P X bad all K Q os ((d,.bool (l==m))::σ) μ Ds):WL P X bad all K Q ((fl,ix)::os) σ μ Ds:=
 yK ho (fun w=>by
  have hgd:(eqGuard .eql t x y (.agg (jV l).toArray) (.agg (jV m).toArray)).run P w=.ok () w:=by
   simp only[eqGuard,program];simp[Sem.run,ht.2.2.1,go_sem]
  rw[Sem.run_bind,hgd];show((do Pure.pure (Value.bool (←Op.equal t (.agg (jV l).toArray) (.agg (jV m).toArray)))):Sem Value).run P w=_;rw[Sem.run_bind,GW ht hl hm];rfl) hx hy hN hg kk
def J8(l:List UInt8):List Int:=l.map fun b=>(b.toNat:Int)
theorem zL{l m:List UInt8}:(J8 l==J8 m)=decide (l=m):=by
 rw[bAY];simp only[bCC,aYM];constructor
 ·intro h;have:(J8 l).map (fun n:Int=>UInt8.ofNat n.toNat)=(J8 m).map (fun n:Int=>UInt8.ofNat n.toNat):=by rw[h]
  simpa [J8,Function.comp_def]using this
 ·rintro rfl;rfl
namespace L12
open C12 Go.Lib
def aJK(c d:UInt8):Nat→Nat
 |0=>0
 |1=>c.toNat-48
 |_=>(c.toNat-48)*10+(d.toNat-48)
theorem T0{x:UInt8}:tB x=true ↔ 48≤x.toNat∧x.toNat≤57:=by unfold tB;simp
theorem aSN{c d:UInt8}{k:Nat}(hk:k<2)(h:∀j,j<k→∀x,[c,d][j]?= some x→tB x=true):aJK c d k≤9:=by
 obtain rfl|rfl:k=0∨k=1:=by omega
 ·exact bCE _
 ·have:=T0.1 (h 0 Yd c rfl);show c.toNat-48≤9;omega
theorem aFA{c d x:UInt8}{k:Nat}(hk:k<2)(hx:[c,d][k]?= some x)(h1:48≤x.toNat∧x.toNat≤57):((aJK c d k:Nat):Int)*10+((x.toNat:Int)-48)=((aJK c d (k+1):Nat):Int):=by
 obtain rfl|rfl:k=0∨k=1:=by omega
 ·obtain rfl:c=x:=by simpa using hx
  show(0:Int)*10+_=((c.toNat-48:Nat):Int);omega
 ·obtain rfl:d=x:=by simpa using hx
  show((c.toNat-48:Nat):Int)*10+_=(((c.toNat-48)*10+(d.toNat-48):Nat):Int);omega
theorem aMQ{c d:UInt8}(h:∀j,j<2→∀x,[c,d][j]?= some x→tB x=true):aJK c d 2≤99∧True:=by
 have h1:=T0.1 (h 0 Yd c rfl);have h2:=T0.1 (h 1 Yd d rfl)
 refine⟨?_,bCV⟩;show(c.toNat-48)*10+(d.toNat-48)≤99;omega
theorem IC(c d:UInt8)(t:List UInt8):L8 (c::d::t)=(if tB c=true∧tB d=true∧(c.toNat-48)*10+(d.toNat-48)≤50 then some ((c.toNat-48)*10+(d.toNat-48))else none):=rfl
theorem aNI{c d x:UInt8}{t:List UInt8}{k:Nat}(hk:k<2)(hx:[c,d][k]?= some x)(h:tB x=false):L8 (c::d::t)=none:=by
 rw[IC,aYC];rintro⟨h1,h2, -⟩;obtain rfl|rfl:k=0∨k=1:=by omega
 ·obtain rfl:c=x:=by simpa using hx
  rw[h]at h1;cases h1
 ·obtain rfl:d=x:=by simpa using hx
  rw[h]at h2;cases h2
theorem aDN{c d:UInt8}{t:List UInt8}(h1:tB c=true)(h2:tB d=true)(h:((aJK c d 2:Nat):Int)≤50):L8 (c::d::t)=some (aJK c d 2):=by
 have h':(c.toNat-48)*10+(d.toNat-48)≤50:=by have:aJK c d 2=(c.toNat-48)*10+(d.toNat-48):=rfl;omega
 rw[IC,aYJ ⟨h1,h2,h'⟩];rfl
theorem aFR{c d:UInt8}{t:List UInt8}(h:(50:Int)<((aJK c d 2:Nat):Int)):L8 (c::d::t)=none:=by
 have h':50<(c.toNat-48)*10+(d.toNat-48):=by have:aJK c d 2=(c.toNat-48)*10+(d.toNat-48):=rfl;omega
 rw[IC,aYC];rintro⟨-, -,h3⟩;omega
theorem aPT{b:List UInt8}{n:Nat}(h:L8 b=some n):n≤50:=by
 unfold L8 at h;split at h
 ·split at h
  ·rename_i hh;cases h;exact hh.2.2
  ·cases h
 ·cases h
theorem aWO{α:Type}{l:List α}(h:2≤l.length):∃a b t,l=a::b::t:=by
 match l,h with
 |a::b::t,_=>exact⟨a,b,t,rfl⟩
theorem aVM{α:Type}{l:List α}(h:l.length=4):∃a b c d,l=[a,b,c,d]:=by
 match l,h with
 | [a,b,c,d],_=>exact⟨a,b,c,d,rfl⟩
theorem getD_some{l:List UInt8}{k:Nat}(h:k<l.length):l[k]?= some (l.getD k 0):=by simp[List.getD,aXT h]
theorem aHW{D:aC}{a:Option Addr}{n c:Nat}{x:UInt8}{l:List UInt8}(h:Sl D RU 1 (.slice a n c) (x::l)):∃b o,a=some ⟨b,o,none⟩:=by
 obtain⟨a',c',hv,h1,h2,h3⟩:=h;cases hv;rcases h3 with h3|⟨b,o,rfl,_⟩
 ·cases h3
 ·exact⟨b,o,rfl⟩
theorem aIV{D:aC}{b o n c:Nat}{l:List UInt8}(h:Sl D RU 1 (.slice (some ⟨b,o,none⟩) n c) l):At D b o (bc l):=by
 rcases mK.bytes h with⟨a,c',hv,h0,h1⟩|⟨b',o',c',hv,hA⟩
 ·rw[h1];intro j v hj;simp at hj
 ·cases hv;exact hA
theorem DF{n:Nat}{bs:List UInt8}{f0 f1 f2 f3:UInt8}(h:((bs.drop (3+n)).drop 1).take (5-1)=[f0,f1,f2,f3]):FZ n bs=[bs.getD 2 0,bs.getD (3+n) 0,bs.getD (8+n) 0,f0,f1,f2,f3]:=by
 unfold FZ;rw[bBX,show 3+n+1=4+n by omega]at h;rw[h];rfl
section
variable{i n:Nat}{bs:List UInt8}{f0 f1 f2 f3:UInt8}
theorem FD(h:bs.length<9):nQ i bs=none:=aYJ h
theorem XQ{lb:Bool}(h9:¬bs.length<9)(h1:lb=true→L8 bs=some n)(h2:lb=false→L8 bs=none)(h:(!lb||decide ((bs.length:Int)<3+(n:Int)+6))=true):nQ i bs=none:=by
 unfold nQ;rw[aYC h9];cases lb with
 |false=>rw[h2 rfl]
 |true=>
  rw[h1 rfl];simp only[bCO,Bool.false_or,aYM]at h;exact aYJ Yd
theorem AC(h9:¬bs.length<9)(hn:L8 bs=some n)(hl:9+n≤bs.length)(hF:((bs.drop (3+n)).drop 1).take (5-1)=[f0,f1,f2,f3])(h:[bs.getD 2 0,bs.getD (3+n) 0,bs.getD (8+n) 0,f0,f1,f2,f3]=Y6 i ((bs.drop 3).take (3+n-3))):nQ i bs=some ((bs.drop 3).take (3+n-3)):=by
 rw[show 3+n-3=n by omega]at h ⊢
 unfold nQ;rw[aYC h9,hn];simp only[];rw[aYC Yd,DF hF,aYJ h]
theorem j9(h9:¬bs.length<9)(hn:L8 bs=some n)(hl:9+n≤bs.length)(hF:((bs.drop (3+n)).drop 1).take (5-1)=[f0,f1,f2,f3])(h:¬ [bs.getD 2 0,bs.getD (3+n) 0,bs.getD (8+n) 0,f0,f1,f2,f3]=Y6 i ((bs.drop 3).take (3+n-3))):nQ i bs=none:=by
 rw[show 3+n-3=n by omega]at h;unfold nQ;rw[aYC h9,hn];simp only[];rw[aYC Yd,DF hF,aYC h]
end
theorem YU(bv:Value)(c d:UInt8)(t:List UInt8)(D:aC)(hS:Sl D RU 1 bv (c::d::t)):Fn prog 123 #[bv] D (fun _ v=>∃(n:Nat) (b:Bool),v=.tuple #[qI (n:Int),.bool b]∧n≤99∧(b=true→L8 (c::d::t)=some n)∧(b=false→L8 (c::d::t)=none)):=by
 obtain⟨ba,bcap,rfl⟩:=hS.shape;have V:=c.toNat_lt;have hd0:=d.toNat_lt;refine enter 30 func123 rfl rfl rfl rfl fun h0=>aA<|Zj rfl<|Zj rfl<|aK<|Zj rfl<|bW<|Za rfl<|aFY (j:=2) rfl U51 gN rfl hS rfl Ye rfl bCV (fun ta hT=>kK rfl U51 rfl rfl rfl bCV<|Za rfl<|aG ?_);refine Zar<|bP (γ:=Nat) (fun k=>2-k) (fun k=>k≤2∧∀j,j<k→∀x,[c,d][j]?= some x→tB x=true) (fun k=>[(10,qI (k:Int)),(4,qI ((aJK c d k:Nat):Int))]) [(9,_),(8,_),(3,_),(2,_)] (fun k=>[D]) 0 ⟨by omega,fun j hj=>by omega⟩ ⟨Yb,Yb,bCV⟩ bA (aE) ?_
 rintro k ⟨h1,h2⟩;refine aA<|Zai rfl<|bR<|Zz rfl (fun I=>?_) (fun I=>?_)
 ·have hlt:k<2:=by omega
  obtain⟨x,hx⟩:∃x,[c,d][k]?= some x:=⟨_,aXT (by simpa using hlt)⟩
  have Y:=x.toNat_lt;have hnk:=aSN hlt h2;refine aZ<|aO<|Zar<|aA<|Zx rfl U51 gN rfl hT rfl hx (fun Z o1 M O U R=>?_);obtain rfl:M=[.int .u8 _]:=O;refine Zf 0 rfl p6 rfl R rfl<|Zj rfl<|bW<|Za rfl<|Zai rfl<|Za rfl ?_;refine' dY 3 (s:=16) (p:=19) rfl (fun T=>?_) (fun T=>?_) ?_;rotate_left
  ·refine Zb rfl<|iH rfl rfl rfl rfl ⟨_,rfl,rfl⟩<|Zah rfl ?_;exact aR 2
  ·refine Zk rfl<|Zk rfl<|Zag rfl ?_;exact aR 2
  refine aG<|aW rfl (fun hc2=>?_) (fun hc2=>?_)
  ·refine aA<|Zj rfl<|Zj rfl<|aH<|Zas<|Zav<|Zas<|Zas<|Zav<|Zas ?_;exact jK (vs:=[_,_]) rfl rfl rfl bA (fun D hD=>⟨0,false,rfl,by omega,(fun h=>by cases h),fun _=>aNI hlt hx (by unfold tB;simp at hc2 ⊢;omega)⟩)
  ·have G:48≤x.toNat∧x.toNat≤57:=by simp at hc2;omega
   have hdg:tB x=true:=by unfold tB;simp[G]
   refine aZ<|aX<|Za rfl<|N7 rfl rfl rfl Yg rfl bCV<|Za rfl<|hU rfl rfl rfl Yg rfl bCV<|O0 rfl U5 U3 rfl Yg rfl bCV<|Zaa rfl<|Zj rfl<|Zae<|Zat<|Zap ?_;refine aX<|Zaa rfl<|Za rfl<|Zae ?_;exact aM 19 (k+1) ⟨by omega,fun j hj y hy=>by rcases Nat.lt_succ_iff_lt_or_eq.1 hj with h|rfl;exact h2 j h y hy;rw[hx]at hy;cases hy;exact hdg⟩ Yd ⟨Yb,(by show some (Value.int _ _)=some (Value.int _ _);congr 2;have:=aFA (c:=c) (d:=d) hlt hx G;omega),bCV⟩ rfl rfl Mm5 (aE)
 ·obtain rfl:k=2:=by omega
  refine aT<|Zaq<|Zaq<|Zau<|Zap<|aA<|Za rfl<|Za rfl<|mL rfl rfl rfl rfl bCV<|Zj rfl<|Zj rfl<|aH ?_;exact jK (vs:=[_,_]) rfl rfl rfl bA (fun D hD=>⟨aJK c d 2,_,rfl,(aMQ h2).1,fun hb=>aDN (h2 0 Yd c rfl) (h2 1 Yd d rfl) (by simpa using hb),fun hb=>aFR (by simpa using hb)⟩)
theorem UB:aXG prog 259 7:=by
 refine⟨by kernel_rfl,by kernel_rfl,by kernel_rfl,?_⟩;have e:(prog.fieldsOf 259).toList=[(prog.fieldsOf 259)[0]!,(prog.fieldsOf 259)[1]!]:=by kernel_rfl
 rw[e];refine .cons (n:=3) (n8.arr (e:=5) Yaf Yf Yf Yf Yf ?_ ?_) (.cons (n:=4) (n8.arr (e:=5) Yaf Yf Yf Yf Yf ?_ ?_) .nil)
 ·rw[show((prog.fieldsOf 259)[0]!).type=255 by kernel_rfl];exact aQF
 ·rw[show((prog.fieldsOf 259)[0]!).type=255 by kernel_rfl];exact VH
 ·rw[show((prog.fieldsOf 259)[1]!).type=257 by kernel_rfl];exact J6
 ·rw[show((prog.fieldsOf 259)[1]!).type=257 by kernel_rfl];exact pK
theorem vJ(i:Nat)(bv:Value)(bs:List UInt8)(D:aC)(hi:i≤1000)(hS:Sl D RU 1 bv bs)(hbl:bs.length≤1000000000):Fn prog 68 #[qI (i:Int),bv] D (fun _ v=>∃(s:ByteArray) (b:Bool),v=.tuple #[.string s,.bool b]∧(b=true→nQ i bs=some s.data.toList)∧(b=false→nQ i bs=none)):=by
 obtain⟨ba,bcap,rfl⟩:=hS.shape;refine enter 59 func68 rfl rfl rfl rfl fun h0=>aA<|Zj rfl<|Zj rfl<|bW<|Za rfl<|Zab rfl U51 rfl hS rfl<|Zai rfl<|aG<|Zz rfl (fun R=>?_) (fun R=>?_)
 ·refine aA<|Zj rfl<|Zj rfl<|aH<|Zas ?_;exact jK (vs:=[_,_]) rfl rfl rfl bA (fun D hD=>⟨_,_,rfl,(fun h=>by cases h),fun _=>FD Yd⟩)
 ·obtain⟨c2,d2,t2,hcd⟩:=aWO (l:=bs) Yd;have G:¬bs.length<9:=by omega
  refine aZ<|aA<|Za rfl<|Zt rfl (fun D1 M=>YU _ c2 d2 t2 _ (hcd▸hS.up RU.up (M _ Ye))) (fun v1 D1 M T=>?_);obtain⟨n,lb,rfl,hO,hl1,O⟩:=T;rw[←hcd]at hl1 O;refine Za rfl<|Zad rfl<|Zad rfl<|Zj rfl<|Zj rfl<|bW<|Za rfl<|Zak rfl<|Za rfl ?_;refine' dY 7 (s:=21) (p:=28) rfl (fun U=>?_) (fun U=>?_) ?_;rotate_left
  ·refine Zb rfl<|dH rfl U51 rfl hS rfl rfl ⟨_,rfl,rfl⟩<|Zb rfl<|B4 rfl rfl rfl Yg rfl ⟨_,rfl,rfl⟩<|B4 rfl rfl rfl Yg rfl ⟨_,rfl,rfl⟩<|aEY rfl rfl rfl rfl ⟨_,rfl,rfl⟩<|Zah rfl ?_;exact aR 6
  ·refine Zk rfl<|Zk rfl<|Zk rfl<|Zk rfl<|Zk rfl<|Zk rfl<|Zag rfl ?_;exact aR 6
  refine aG<|aW rfl (fun hc2=>?_) (fun hc2=>?_)
  ·refine aA<|Zj rfl<|Zj rfl<|aH<|Zas ?_;exact jK (vs:=[_,_]) rfl rfl rfl bA (fun D hD=>⟨_,_,rfl,(fun h=>by cases h),fun _=>XQ G hl1 O hc2⟩)
  ·obtain⟨hlb,hlen⟩:lb=true∧9+n≤bs.length:=by simp at hc2;refine⟨hc2.1,?_⟩;have:=hc2.2;omega
   have hln:=hl1 hlb;have hR:=aPT hln;refine aZ<|aO<|bM [] 3 11 998<|Za rfl<|Za rfl<|Zaa rfl<|KK (i:=3) (j:=3+n) rfl U51 gN rfl hS rfl Yb Yd Yd rfl bCV (fun la hLn=>qZ rfl U51 U5 U9 rfl hLn Ye (fun _ _ _ _ _=>n3) rfl bCV<|Za rfl<|Za rfl<|Zaa rfl<|vK (j:=3+n) rfl U51 gN rfl hS Yb Yd rfl bCV (fun ea hE=>?_));refine Zj rfl<|Zj rfl<|bR<|lC [] 4 [false,false,false,true,true,true,true,true,true,false,true,true,true,true,false,true,false] [.fork [0,1,2,3,4,5,6,7,8,9,10,11] 12 (.fin [13,14,15]) 15 (.fin [12,13,14]),.fin [16]] bI (fun _ _ _ h=>iO (P:=prog) (fn:=f68) _ _ _ h) Yf<|oJ<|bL [(false,0),(false,1),(false,2),(true,3),(true,4),(true,5),(true,6),(true,7),(true,8),(false,9),(true,10),(true,11)] rfl<|Za rfl<|Zx rfl U51 gN rfl hS rfl (getD_some Yd) (fun b1 o1 V Y hX Z=>?_);obtain rfl:V=[.int .u8 _]:=Y;refine Zf 0 rfl p6 rfl Z rfl<|Za rfl<|Zx rfl U51 gN rfl hE rfl (by rw[bAD];exact getD_some (k:=3+n) Yd) (fun b2 o2 hB hH hY hI=>?_)
   obtain rfl:hB=[.int .u8 _]:=hH;refine Zf 0 rfl p6 rfl hI rfl<|Za rfl<|Zx rfl U51 gN rfl hE rfl (by rw[bAD,show 3+n+Int.toNat 5=8+n from(by show 3+n+5=8+n;omega)];exact getD_some Yd) (fun b3 o3 hJ hK rA hM=>?_)
   obtain rfl:hJ=[.int .u8 _]:=hK;refine Zf 0 rfl p6 rfl hM rfl<|P2 (cs:=[.int .u8 ((bs.getD 2 0).toNat:Int),.int .u8 ((bs.getD (3+n) 0).toNat:Int),.int .u8 ((bs.getD (8+n) 0).toNat:Int)]) rfl U255 gN VS rfl rfl rfl bCV<|Za rfl<|KK (i:=1) (j:=5) rfl U51 gN rfl hE rfl rfl Yd Yd rfl bCV (fun fa hF=>?_);obtain⟨f0,f1,f2,f3,I⟩:=aVM (l:=((bs.drop (3+n)).drop 1).take (5-1)) Yam;rw[I]at hF;obtain⟨fb,fo,rfl⟩:=aHW hF;refine Zae (dP true true rfl rfl ?_ ?_)
   ·refine GM rfl U257 rfl Yd rfl bCV<|Zae<|aS [(true,13),(false,14),(true,15)] rfl<|dL (cs:=[.int .u8 (f0.toNat:Int),.int .u8 (f1.toNat:Int),.int .u8 (f2.toNat:Int),.int .u8 (f3.toNat:Int)]) rfl J6 rfl (aIV hF) Ye pK n3 rfl bCV<|jB (cs:=[.int .u8 ((bs.getD 2 0).toNat:Int),.int .u8 ((bs.getD (3+n) 0).toNat:Int),.int .u8 ((bs.getD (8+n) 0).toNat:Int),.int .u8 (f0.toNat:Int),.int .u8 (f1.toNat:Int),.int .u8 (f2.toNat:Int),.int .u8 (f3.toNat:Int)]) rfl EZ wN rfl Yf rfl bCV<|Zw rfl wN rfl (fun q1=>Zae<|kQ [(false,16)] rfl<|aV rfl rfl rfl rfl tU Ya Ya (bO.head) Yj bCV<|Zae<|kU<|Zap ?_);refine aO<|bM [] 1 8 126<|Za rfl<|Zy rfl HJ rfl Mm0 tU<|Za rfl<|Za rfl<|Zc rfl (fun D2 hN=>U1 i ⟨((bs.drop 3).take (3+n-3)).toArray⟩ Yd (by show(((bs.drop 3).take (3+n-3))).length≤1000;simp;omega) _)<|UO (l:=J8 [bs.getD 2 0,bs.getD (3+n) 0,bs.getD (8+n) 0,f0,f1,f2,f3]) (m:=J8 (Y6 i ((bs.drop 3).take (3+n-3)))) rfl UB rfl rfl rfl rfl rfl bCV<|Zj rfl<|Zj rfl<|aH ?_
    exact jK (vs:=[_,_]) rfl rfl rfl bA (fun D hD=>⟨_,_,rfl,fun hb=>by rw[zL]at hb;exact AC G hln hlen I (by simpa using hb),fun hb=>by rw[zL]at hb;exact j9 G hln hlen I (by simpa using hb)⟩)
   ·refine Zw rfl wN rfl (fun q1=>Zae<|aS [(true,12),(true,13),(false,14)] rfl<|GM rfl U257 rfl Yd rfl bCV<|dL (cs:=[.int .u8 (f0.toNat:Int),.int .u8 (f1.toNat:Int),.int .u8 (f2.toNat:Int),.int .u8 (f3.toNat:Int)]) rfl J6 rfl (aIV hF) Ye pK n3 rfl bCV<|jB (cs:=[.int .u8 ((bs.getD 2 0).toNat:Int),.int .u8 ((bs.getD (3+n) 0).toNat:Int),.int .u8 ((bs.getD (8+n) 0).toNat:Int),.int .u8 (f0.toNat:Int),.int .u8 (f1.toNat:Int),.int .u8 (f2.toNat:Int),.int .u8 (f3.toNat:Int)]) rfl EZ wN rfl Yf rfl bCV<|Zae<|kQ [(false,16)] rfl<|aV rfl rfl rfl rfl tU Ya Ya (bO.head) Yj bCV<|Zae<|kU<|Zap ?_);refine aO<|bM [] 1 8 126<|Za rfl<|Zy rfl HJ rfl Mm0 tU<|Za rfl<|Za rfl<|Zc rfl (fun D2 hN=>U1 i ⟨((bs.drop 3).take (3+n-3)).toArray⟩ Yd (by show(((bs.drop 3).take (3+n-3))).length≤1000;simp;omega) _)<|UO (l:=J8 [bs.getD 2 0,bs.getD (3+n) 0,bs.getD (8+n) 0,f0,f1,f2,f3]) (m:=J8 (Y6 i ((bs.drop 3).take (3+n-3)))) rfl UB rfl rfl rfl rfl rfl bCV<|Zj rfl<|Zj rfl<|aH ?_
    exact jK (vs:=[_,_]) rfl rfl rfl bA (fun D hD=>⟨_,_,rfl,fun hb=>by rw[zL]at hb;exact AC G hln hlen I (by simpa using hb),fun hb=>by rw[zL]at hb;exact j9 G hln hlen I (by simpa using hb)⟩)
end L12
namespace L12
open C12 Go.Lib
theorem tf_z9:TZ prog 9 (.string ⟨#[]⟩):=TZ.of Yf
section
variable{P:Program}{X:Cx}{Q:Exit→Act→World→Prop}{σ:cG}{μ:aD}{Ds:List aC}
end
theorem _root_.Go.Fs.mH.strs{D:aC}{v:Value}{n:Nat}{l:List ByteArray}(h:mH D v n (l.map Value.string))(hn:l.length=n)(hb:n≤9223372036854775807):Sl D RS 1 v l:=
 h.sl hn hb fun i x hx=>⟨_,rfl,rfl,by rw[bAF,List.take_one,List.head?_drop,aYQ,hx];rfl⟩
end L12
namespace C12
end C12
namespace L12
open C12 Go.Lib
def tE:Nat→Nat→Nat→List UInt8→List (ByteArray×Nat)
 |0,_,_,_=>[]
 |f+1,i,p,b=>match nQ i (b.drop p)with
  |none=>[]
  |some l=>(⟨l.toArray⟩,p+9+l.length)::tE f (i+1) (p+9+l.length) b
def aUH(x:ByteArray×Nat):List Value:=[.string x.1,qI (x.2:Int)]
def aMZ(l:List (ByteArray×Nat)):Nat:=match l.getLast? with|none=>0|some x=>x.2
theorem WT(l:List (ByteArray×Nat))(x:ByteArray×Nat):aMZ (l++[x])=x.2:=by unfold aMZ;rw[List.getLast?_append,List.getLast?_singleton];rfl
theorem P4:∀(f i p:Nat) (b:List UInt8),(tE f i p b).length≤f
 |0,_,_,_=>aYI _
 |f+1,i,p,b=>by
  unfold tE;split
  ·exact bCE _
  ·rw[aXY];exact Nat.succ_le_succ (P4 f _ _ b)
theorem aDO{i p:Nat}{bs:List UInt8}{xs dn:List (ByteArray×Nat)}(h:xs=dn++tE (40-i) i p bs)(hw:nQ i (bs.drop p)=none):xs=dn:=by
 rw[h];cases hf:40-i with
 |zero=>exact aXS _
 |succ f=>rw[tE,hw];exact aXS _
theorem aCF{i p:Nat}{bs:List UInt8}{xs dn:List (ByteArray×Nat)}{s:ByteArray}(hi:i<40)(h:xs=dn++tE (40-i) i p bs)(hw:nQ i (bs.drop p)=some s.data.toList):xs=dn++(s,p+9+s.size)::tE (40-(i+1)) (i+1) (p+9+s.size) bs:=by
 rw[h,show 40-i=(40-(i+1))+1 by omega,tE,hw];rfl
theorem LG(bs:List UInt8)(bv:Value)(Dr:aC)(br:Nat)(hA:At Dr br 0 [bv])(hS:Sl Dr RU 1 bv bs)(hb:bs.length≤1000000000):yZ prog 67 [qP br] Dr (tE 40 0 0 bs) aUH:=by
 obtain⟨ba,bcap,rfl⟩:=hS.shape;refine T8 32 func67 rfl rfl rfl rfl (fun lo l J Jx hs hsx hY=>HP<|aA<|Zj rfl<|bR<|b8<|Zap<|aA<|Za rfl<|aG<|Zar<|K9 (γ:=Nat×Nat×List (ByteArray×Nat)) (fun g=>40-g.1) (fun g=>g.1≤40∧g.2.1≤bs.length∧tE 40 0 0 bs=g.2.2++tE (40-g.1) g.1 g.2.1 bs) (fun g=>J g.2.2) (fun g=>[(7,qI (g.1:Int)),(3,qI (g.2.1:Int))]) [(0,_),(1,_)] (fun g=>[]) (fun g=>[Dr]) (0,0,[]) ⟨bCE _,bCE _,rfl⟩ rfl ⟨Yb,Yb,bCV⟩ bA Mm5 (aE) ?_);rintro⟨i,p,dn⟩ ⟨h1,h2,hxs⟩;simp only at h1 h2 hxs;refine aA<|Zai rfl<|bR<|Zz rfl (fun G=>?_) (fun G=>?_)
 ·simp only at G;have hi:i<40:=by omega
  refine aZ<|aO<|Zar<|aA<|Za rfl<|Zj rfl<|aK<|Za rfl<|Zf 0 rfl aDU rfl hA rfl<|Za rfl<|vK (j:=p) rfl U51 gN rfl hS rfl Yd rfl bCV (fun ea hE=>Zt rfl (fun D1 M=>vJ i _ (bs.drop p) _ Yd (hE.up RU.up (M _ Ye)) (by rw[bAA];omega)) (fun v1 D1 M U=>?_));obtain⟨s,wb,rfl,V,Y⟩:=U;refine Za rfl<|Zad rfl<|Zad rfl<|Zj rfl<|Zj rfl<|bW<|Za rfl<|Zak rfl<|aG<|aW rfl (fun hc2=>?_) (fun hc2=>?_)
  ·have hwn:nQ i (bs.drop p)=none:=Y Yaq;refine aT<|Zaq<|pS rfl<|Zaq<|Zaq<|Zau<|oW ?_;exact jZ (P:=prog) (fn:=f67) (N:=32) (vs:=[]) rfl rfl bCV (fun D h=>⟨D,by simp only[aYH]at h;subst h;simp,Le.refl D⟩) (aYF (by rw[←aDO hxs hwn]))
  ·have hw:=V Yaq;obtain⟨O,R⟩:=AV hw;rw[bAA]at R;have hsz:s.data.toList.length=s.size:=rfl;rw[hsz]at R O;have hnx:=aCF hi hxs hw;refine aZ<|aA<|Za rfl<|Za rfl<|lN rfl U9 rfl rfl rfl bCV<|Zaa rfl<|Zaa rfl<|Zaa rfl<|Zj rfl<|bR ?_;rw[show((p:Int)+(3+(s.size:Int)+6))=((p+9+s.size:Nat):Int) by omega];refine aX<|Za rfl<|Za rfl<|Za rfl<|y0 (l:=l) (J1:=J (dn++[(s,p+9+s.size)])) (J0:=Jx (dn++[(s,p+9+s.size)])) rfl rfl rfl rfl (hs _) (hsx _) (fun D w hd hJ hb hl=>hY dn (s,p+9+s.size) _ D w ⟨_,hnx⟩ hd hJ (fun b hbm=>by obtain⟨q,hq,rfl⟩:=n4.1 hbm;exact hb q hq) (hl _ Ye)) rfl bCV (fun Z J1 T=>Zak rfl<|aG<|aW rfl (fun I=>?_) (fun I=>?_))
   ·obtain rfl:Z=false:=by simpa using I
    refine z6<|Zav<|Zas<|Zas<|Zav<|wV ?_;exact jZ (P:=prog) (fn:=f67) (N:=32) (vs:=[]) rfl rfl bCV (fun D h=>⟨D,by simp only[aYH]at h;subst h;simp,Le.refl D⟩) (aXR ⟨_,by rw[T];rfl⟩)
   ·obtain rfl:Z=true:=by simpa using I
    refine cB<|Zat<|Zap<|aX<|Zaa rfl<|Za rfl<|Zae ?_;exact pX 31 (i+1,p+9+s.size,dn++[(s,p+9+s.size)]) ⟨by simp only;omega,by simp only;omega,by simp only;rw[aYA];exact hnx⟩ Yo (by rw[T];rfl) ⟨Yb,Yb,bCV⟩ rfl rfl Mm5 (fun D h=>⟨D,aYK _ (h),Le.refl D⟩)
 ·obtain rfl:i=40:=by simp only at G;omega
  refine aT<|Zaq<|Zaq<|Zau<|oW ?_;exact jZ (P:=prog) (fn:=f67) (N:=32) (vs:=[]) rfl rfl bCV (fun D h=>⟨D,by simp only[aYH]at h;subst h;simp,Le.refl D⟩) (aYF (by rw[hxs,show tE (40-40) 40 p bs=[]from rfl,aXS]))
theorem OC(bv:Value)(bs:List UInt8)(D:aC)(hS:Sl D RU 1 bv bs)(hb:bs.length≤1000000000):Fn prog 38 #[bv] D (fun D' v=>∃br,v=.func (.func 67) #[] #[qP br]∧yZ prog 67 [qP br] D' (tE 40 0 0 bs) aUH):=by
 obtain⟨ba,bcap,rfl⟩:=hS.shape;refine enter 4 func38 rfl rfl rfl rfl fun h0=>aA<|Zv rfl (fun I O M G=>Zj rfl<|aK<|Zao rfl<|Zj rfl<|aH ?_)
 exact aF rfl (fun D hD=>⟨_,rfl,LG bs _ _ I (G.up (hD _ Ye)) (hS.up RU.up (hD _ Ye)) hb⟩)
end L12
theorem PO{t e tr:TypeId}{sz n cap:Nat}{ad ad':Option Addr}{c':Nat}{ats:Array TypeId}
  (ho:all[ix]?= some ⟨some d,.call {callee:=.builtin .append,args:=#[x,y],argTypes:=ats},tr,pos,aft,g⟩) (ht:P.underlying t=some (.slice e)) (hat:ats[0]?= some t) (G:ats[1]?= some t) (hs:TS P e sz)
  (hx:ev σ x=some (.slice ad n cap)) (hy:ev σ y=some (.slice ad' 0 c')) (hcap:n≤cap) (hN:Nat.blt d X.N=true) (hg:dE all σ g)
  (kk:WL P X bad all K Q os ((d,.slice ad n cap)::σ) μ Ds):WL P X bad all K Q ((fl,ix)::os) σ μ Ds:=by
 refine eI ho rfl rfl hg fun a w hh=>?_
 have hex:(execOp a.eval ⟨some d,.call {callee:=.builtin .append,args:=#[x,y],argTypes:=ats},tr,pos,aft,g⟩).run P w=
   ((Builtin.append_ ats tr #[.slice ad n cap,.slice ad' 0 c']).run P w).andThen fun r w'=>.ok (.value r) w':=by
  simp only[execOp,resolve,pure_bind,invoke,builtin];have I:(#[x,y].map a.eval)=#[.slice ad n cap,.slice ad' 0 c']:=by simp[hh.eval hx,hh.eval hy]
  rw[I,Sem.run_bind];simp only[Sem.run_pure]
 rw[hex];have hfc:(Builtin.firstCells sz 0 (.slice ad' 0 c')).run P w=.ok ([]:List Value).toArray w:=by
  cases ad' with
  |none=>rfl
  |some a=>simp[Builtin.firstCells,loadCells,loadCellsFrom,Sem.run_pure]
 rw[nJ (tr:=tr) (w':=w) ht hat G hs (m:=0) (xs:=[]) rfl hfc hcap (by cases ad<;>rfl)];exact⟨fun _=>nC.refl _ _,kk _ _ (hh.put hN _)⟩
theorem ZP{t e tr:TypeId}{sz n m b:Nat}{D₁ D₂:aC}{cells xs:List Value}{xv:Value}{z0:Value}{ats:Array TypeId}
  (ho:all[ix]?= some ⟨some d,.call {callee:=.builtin .append,args:=#[x,y],argTypes:=ats},tr,pos,aft,g⟩) (ht:P.underlying t=some (.slice e)) (hat:ats[0]?= some t) (G:ats[1]?= some t)
  (hs:TS P e sz) (hz:TZ P e z0) (I:Nat.beq z0.cells.size sz=true) (hi:(P.info? e).map (fun i=>Nat.ble 1 i.bytes&&Nat.ble i.bytes 4096)=some true)
  (hx:ev σ x=some (qS b n n)) (hy:ev σ y=some xv) (hA:At D₁ b 0 cells) (hD:D₁∈Ds) (hcl:cells.length=n*sz) (hsrc:mK D₂ xv m xs) (M:D₂∈Ds) (hxl:xs.length=m*sz) (T:0<m) (hlen:n+m≤10000000) (hN:Nat.blt d X.N=true) (hg:dE all σ g)
  (kk:∀v' ν',bZ e sz v' (n+m) (cells++xs) ν'→WL P X bad all K Q os ((d,v')::σ) (ν'++μ) Ds):WL P X bad all K Q ((fl,ix)::os) σ μ Ds:=by
 refine eI ho rfl rfl hg fun a w hh=>?_
 obtain⟨h1,h2,h3,D,h4,h5,U⟩:=id hh;obtain⟨i0,hi,O,R⟩:∃i0,P.info? e=some i0∧1≤i0.bytes∧i0.bytes≤4096:=by
  cases h:P.info? e with
  |none=>simp[h]at hi
  |some i=>simp[h]at hi;exact⟨i,rfl,hi⟩
 have hz1':=aYZ I;have hex:(execOp a.eval ⟨some d,.call {callee:=.builtin .append,args:=#[x,y],argTypes:=ats},tr,pos,aft,g⟩).run P w=
   ((Builtin.append_ ats tr #[qS b n n,xv]).run P w).andThen fun r w'=>.ok (.value r) w':=by
  simp only[execOp,resolve,pure_bind,invoke,builtin];have V:(#[x,y].map a.eval)=#[qS b n n,xv]:=by simp[hh.eval hx,hh.eval hy]
  rw[V,Sem.run_bind];simp only[Sem.run_pure]
 rw[hex];have lies:∀{D₀:aC} (_:D₀∈Ds) (w':World),w'.heap=w.heap→∀b o ys,At D₀ b o ys→aJB w' b o ys:=fun hD₀ w' hw' b o ys hA j u hj=>by
  have:=h4.agr.cell ((h5 _ hD₀).get (hA j u hj));unfold World.cell? at this ⊢
  rw[hw'];exact this
 obtain⟨c,hc,hrun⟩:=vP (tr:=tr) (w:=w) (a:=some ⟨b,0,none⟩) (n:=n) (cap:=n) (old:=cells) ht hat G hs hz hi (CG hsrc) (fun w' hw'=>yS hsrc hxl (fun b o=>lies M w' hw' b o xs)) (fun w' hw'=>by
  simp only[Builtin.firstCells];exact kW hcl (lies hD w' hw' b 0 cells hA)) Yd hlen ⟨O,R⟩
 rw[hrun];obtain⟨junk,hjunk⟩:∃junk:List Value,cells.toArray++xs.toArray++Builtin.zeroCells z0.cells (c-(n+m))=(cells++xs++junk).toArray∧(cells++xs++junk).length=c*sz:=by
  refine⟨(Builtin.zeroCells z0.cells (c-(n+m))).toList,by simp,?_⟩;have:=sI z0.cells (c-(n+m));simp only[GT,Array.length_toList,this,hz1',hcl,hxl];rw[←bAG,←bAG];congr 1;omega
 have hpush:=h4.push (.cells (cells++xs++junk).toArray e (0,0)) rfl;simp only[Result.andThen_ok];rw[hjunk.1];refine⟨fun _=>⟨by simp,fun b hb _=>cN hb⟩,?_⟩;have hst:hP X.h0 X.lo X.D0 X.mods ([(w.heap.size,.cells (cells++xs++junk).toArray e (0,0))]++μ) D {w with drawn:=w.drawn+1,heap:=w.heap.push (.cells (cells++xs++junk).toArray e (0,0))}:=
  ⟨hpush.hlo,hpush.size,hpush.old,hpush.dold,hpush.agr,hpush.box,hpush.nd,hpush.fz,hpush.env⟩
 exact kk _ _ (aXR ⟨_,c,junk,rfl,hc,rfl,by simp[hcl,hxl,bAG],hjunk.2⟩) _ _ (Hl.put ⟨h1,h2,h3,D,hst,h5,U.step (fun _ p hp=>by
  rcases aYD.1 hp with hp|hp
  ·exact aXR (by rw[aYH.1 hp];exact aYI _)
  ·exact aYF (n4.2 ⟨p,hp,rfl⟩)) (fun _=>⟨by simp,fun b hb _=>⟨cN hb,rfl⟩,rfl⟩) hst.dom⟩ hN _)
namespace L12
open C12 Go.Lib
theorem aBT{α:Type}(f:α→Value)(l:List α):l.flatMap (fun x=>[f x])=l.map f:=by
 induction l with
 |nil=>rfl
 |cons a l ih=>rw[aZD,ih];rfl
theorem _root_.Go.Fs.mK.strs{D:aC}{v:Value}{l:List ByteArray}(h:Sl D RS 1 v l):mK D v l.length (l.map Value.string):=by
 rw[←aBT];exact mK.of (R:=RS) (fun _ _ _ h=>h) (fun _=>rfl) h
section
variable{α:Type}[DecidableEq α]{xs ys:List α}{a b:α}{k:Nat}
omit [DecidableEq α]in
theorem mU(ha:xs[k]?= some a)(hb:ys[k]?= some b)(h:xs.take k=ys.take k)(e:a=b):xs.take (k+1)=ys.take (k+1):=by
 rw[aYG,aYG,ha,hb,h,e]
theorem IB(h:xs.length≠ys.length):decide (xs=ys)=false:=bAW fun e=>h (by rw[e])
theorem NW(ha:xs[k]?= some a)(hb:ys[k]?= some b)(h:a≠b):decide (xs=ys)=false:=bAW fun e=>h (by rw[e,hb]at ha;exact(aYS ha).symm)
theorem FX(hl:xs.length=ys.length)(hk:xs.length≤k)(h:xs.take k=ys.take k):decide (xs=ys)=true:=decide_eq_true (by rwa [aYO hk,aYO Yd]at h)
end
theorem aGD{a b:ByteArray}(h:(!decide (a=b))=false):a=b:=by simpa using h
theorem aHF{a b:ByteArray}(h:(!decide (a=b))=true):a≠b:=by simpa using h
theorem MX{xs:List ByteArray}{x:ByteArray}{k:Nat}(hx:xs[k]?= some x)(h:50<x.size):fP xs=3:=by
 unfold fP;rw[aYJ];simp only[aZT,aYM,bCP,List.all_eq_false];exact aXR ⟨x,LT hx,by simp;omega⟩
section
variable{x p0:ByteArray}{ps:List ByteArray}{ns:List Int}{j:Nat}
end
theorem j6(av bv:Value)(xs ys:List Int)(D:aC)(hx:Sl D RI 1 av xs)(hy:Sl D RI 1 bv ys):Fn prog 23 #[av,bv] D (fun _ v=>v=.bool (decide (xs=ys))):=by
 have hl:=hx.len;refine enter 26 func23 rfl rfl rfl rfl fun h0=>aA<|Zj rfl<|bW<|Za rfl<|Zab rfl U43 rfl hx rfl<|Za rfl<|Zab rfl U25 rfl hy rfl<|Zam rfl<|aG<|Zz rfl (fun I=>?_) (fun I=>?_)
 ·refine aA<|Zj rfl<|aH<|Zas ?_;exact aF rfl (fun D hD=>aXV Value.bool (IB Yd).symm)
 ·have hlen:xs.length=ys.length:=by omega
  refine aZ<|dV<|Zj rfl<|aG<|Zar<|bP (γ:=Nat) (fun k=>xs.length-k) (fun k=>k≤xs.length∧xs.take k=ys.take k) (fun k=>[(5,qI (k:Int))]) [(4,_),(0,_),(1,_)] (fun k=>[D]) 0 Ye ⟨Yb,bCV⟩ bA (aE) ?_;rintro k ⟨h1,h2⟩;refine dV<|Za rfl<|Za rfl<|Zab rfl U43 rfl hx rfl<|Zai rfl<|aG<|Zz rfl (fun hc2=>?_) (fun hc2=>?_)
  ·have hk:k<xs.length:=by omega
   obtain⟨a,ha⟩:=dX xs k;obtain⟨b,hb⟩:=dX ys k;refine aZ<|aO<|Zar<|aO<|bM [] 3 9 242<|Za rfl<|Za rfl<|Zx rfl U43 pG rfl hx rfl ha (fun U o1 M O T R=>?_);obtain rfl:M=[qI _]:=O;refine Zf 0 rfl qK rfl R rfl<|Za rfl<|Za rfl<|lH rfl hy rfl hb (fun b2 o2=>Zam rfl<|aG<|Zz rfl (fun G=>?_) (fun G=>?_))
   ·refine aA<|Zj rfl<|aH<|Zav<|Zas<|Zas<|Zav<|Zas ?_;exact aF rfl (fun D hD=>aXV Value.bool (NW ha hb (G)).symm)
   ·refine cB<|Zat<|Zap<|aX<|Za rfl<|Zaa rfl<|Zj rfl<|Zae ?_;exact aM 17 (k+1) ⟨by omega,mU ha hb h2 Yd⟩ Yd ⟨Yb,bCV⟩ rfl rfl Mm5 (aE)
  ·refine aT<|Zaq<|Zaq<|Zau<|Zap<|aA<|Zj rfl<|aH ?_;exact aF rfl (fun D hD=>aXV Value.bool (FX hlen Yd h2).symm)
theorem EL(av bv:Value)(xs ys:List Int)(D:aC)(hx:Sl D RI 1 av xs)(hy:Sl D RI 1 bv ys):Fn prog 65 #[av,bv] D (fun _ v=>v=.bool (decide (xs=ys))):=by
 have hl:=hx.len;refine enter 26 func65 rfl rfl rfl rfl fun h0=>aA<|Zj rfl<|bW<|Za rfl<|Zab rfl U25 rfl hx rfl<|Za rfl<|Zab rfl U25 rfl hy rfl<|Zam rfl<|aG<|Zz rfl (fun I=>?_) (fun I=>?_)
 ·refine aA<|Zj rfl<|aH<|Zas ?_;exact aF rfl (fun D hD=>aXV Value.bool (IB Yd).symm)
 ·have hlen:xs.length=ys.length:=by omega
  refine aZ<|dV<|Zj rfl<|aG<|Zar<|bP (γ:=Nat) (fun k=>xs.length-k) (fun k=>k≤xs.length∧xs.take k=ys.take k) (fun k=>[(5,qI (k:Int))]) [(4,_),(0,_),(1,_)] (fun k=>[D]) 0 Ye ⟨Yb,bCV⟩ bA (aE) ?_;rintro k ⟨h1,h2⟩;refine dV<|Za rfl<|Za rfl<|Zab rfl U25 rfl hx rfl<|Zai rfl<|aG<|Zz rfl (fun hc2=>?_) (fun hc2=>?_)
  ·have hk:k<xs.length:=by omega
   obtain⟨a,ha⟩:=dX xs k;obtain⟨b,hb⟩:=dX ys k;refine aZ<|aO<|Zar<|aO<|bM [] 3 9 242<|Za rfl<|Za rfl<|lH rfl hx rfl ha (fun M o1=>Za rfl<|Za rfl<|lH rfl hy rfl hb (fun b2 o2=>Zam rfl ?_));refine aG<|Zz rfl (fun G=>?_) (fun G=>?_)
   ·refine aA<|Zj rfl<|aH<|Zav<|Zas<|Zas<|Zav<|Zas ?_;exact aF rfl (fun D hD=>aXV Value.bool (NW ha hb (G)).symm)
   ·refine cB<|Zat<|Zap<|aX<|Za rfl<|Zaa rfl<|Zj rfl<|Zae ?_;exact aM 17 (k+1) ⟨by omega,mU ha hb h2 Yd⟩ Yd ⟨Yb,bCV⟩ rfl rfl Mm5 (aE)
  ·refine aT<|Zaq<|Zaq<|Zau<|Zap<|aA<|Zj rfl<|aH ?_;exact aF rfl (fun D hD=>aXV Value.bool (FX hlen Yd h2).symm)
theorem PA(av bv:Value)(xs ys:List ByteArray)(D:aC)(hx:Sl D RS 1 av xs)(hy:Sl D RS 1 bv ys):Fn prog 17 #[av,bv] D (fun _ v=>v=.bool (decide (xs=ys))):=by
 have hl:=hx.len;refine enter 26 func17 rfl rfl rfl rfl fun h0=>aA<|Zj rfl<|bW<|Za rfl<|Zab rfl U22 rfl hx rfl<|Za rfl<|Zab rfl U22 rfl hy rfl<|Zam rfl<|aG<|Zz rfl (fun I=>?_) (fun I=>?_)
 ·refine aA<|Zj rfl<|aH<|Zas ?_;exact aF rfl (fun D hD=>aXV Value.bool (IB Yd).symm)
 ·have hlen:xs.length=ys.length:=by omega
  refine aZ<|dV<|Zj rfl<|aG<|Zar<|bP (γ:=Nat) (fun k=>xs.length-k) (fun k=>k≤xs.length∧xs.take k=ys.take k) (fun k=>[(5,qI (k:Int))]) [(4,_),(0,_),(1,_)] (fun k=>[D]) 0 Ye ⟨Yb,bCV⟩ bA (aE) ?_;rintro k ⟨h1,h2⟩;refine dV<|Za rfl<|Za rfl<|Zab rfl U22 rfl hx rfl<|Zai rfl<|aG<|Zz rfl (fun hc2=>?_) (fun hc2=>?_)
  ·have hk:k<xs.length:=by omega
   obtain⟨a,ha⟩:=dX xs k;obtain⟨b,hb⟩:=dX ys k;refine aZ<|aO<|Zar<|aO<|bM [] 3 9 242<|Za rfl<|Za rfl<|Zx rfl U22 jC rfl hx rfl ha (fun b1 o1 M O Y R=>?_);obtain rfl:M=[.string _]:=O;refine Zf 0 rfl I9 rfl R rfl<|Za rfl<|Za rfl<|Zx rfl U22 jC rfl hy rfl hb (fun b2 o2 T U Z V=>?_);obtain rfl:T=[.string _]:=U;refine Zf 0 rfl I9 rfl V rfl<|MR rfl rfl rfl rfl bCV<|aG<|aW rfl (fun G=>?_) (fun G=>?_)
   ·refine aA<|Zj rfl<|aH<|Zav<|Zas<|Zas<|Zav<|Zas ?_;exact aF rfl (fun D hD=>aXV Value.bool (NW ha hb (aHF G)).symm)
   ·refine cB<|Zat<|Zap<|aX<|Za rfl<|Zaa rfl<|Zj rfl<|Zae ?_;exact aM 17 (k+1) ⟨by omega,mU ha hb h2 (aGD G)⟩ Yd ⟨Yb,bCV⟩ rfl rfl Mm5 (aE)
  ·refine aT<|Zaq<|Zaq<|Zau<|Zap<|aA<|Zj rfl<|aH ?_;exact aF rfl (fun D hD=>aXV Value.bool (FX hlen Yd h2).symm)
end L12
namespace L12
open C12 Go.Lib
instance(x:Int):Decidable (NB x):=inferInstanceAs (Decidable (_∧_))
def wG:List ByteArray:=[(⟨#[112,108,97,99,101]⟩:ByteArray),⟨#[115,101,101,110,32,50,32,49]⟩,⟨#[99,111,117,110,116,32,51,32,50]⟩,⟨#[98,97,99,107,32,51,32,51]⟩,⟨#[116,105,100,101,32,50,32,56,32,57]⟩,⟨#[115,116,101,112,32,52]⟩,⟨#[108,101,118,101,108,32,54]⟩,⟨#[109,97,114,107,32,49,32,51,32,57,32,57]⟩,⟨#[104,105,114,101,32,48,32,49]⟩,⟨#[104,105,114,101,32,49,32,50]⟩,⟨#[98,114,105,110,103,32,48,32,49]⟩,⟨#[115,109,117,100,103,101,32,49]⟩,⟨#[98,114,111,107,101,110,32,52,32,49,32,48,32,48]⟩,⟨#[98,114,111,107,101,110,32,53,32,48,32,49,32,50]⟩,⟨#[99,108,97,105,109,32,48,32,50]⟩]
def IY:List ByteArray:=[(⟨#[115,116,101,112,32,48]⟩:ByteArray),⟨#[115,109,117,100,103,101,32,49]⟩,⟨#[108,101,118,101,108,32,48,53]⟩]
def aB:List ByteArray:=[(⟨#[97]⟩:ByteArray)]
theorem mE{D:aC}{b:Nat}{l:List ByteArray}(hA:At D b 0 (l.map Value.string))(hl:l.length≤1000):Sl D RS 1 (qS b l.length l.length) l:=by
 refine⟨_,_,rfl,aYI _,by omega,aXR ⟨b,0,rfl,fun i x hi=>⟨_,rfl,rfl,fun j v hj=>?_⟩⟩⟩;cases j with
 |zero=>
  obtain rfl:Value.string x=v:=by simpa using hj
  have h:=hA i (.string x) (by rw[aYQ,hi];rfl);simpa using h
 |succ j=>simp at hj
theorem aOH:LC (aP wG).1:=⟨by decide+kernel,by decide+kernel,by decide+kernel,by decide+kernel,by decide+kernel,by decide+kernel,by decide+kernel,by decide+kernel,by decide+kernel,by decide+kernel,by decide+kernel⟩
theorem aWN:K2 prog 65:=⟨by kernel_rfl,by kernel_rfl,by kernel_rfl⟩
theorem aVZ:K2 prog 88:=⟨by kernel_rfl,by kernel_rfl,by kernel_rfl⟩
theorem GO(D:aC):Fn prog 20 #[qN] D (fun D' v=>Sl D' RS 1 v wG):=by
 refine enter 6 func20 rfl rfl rfl rfl fun h0=>aA<|Zj rfl<|aK<|Zn rfl U22 jC tf_z9 rfl (.cons rfl rfl (.cons rfl rfl (.cons rfl rfl (.cons rfl rfl (.cons rfl rfl (.cons rfl rfl (.cons rfl rfl (.cons rfl rfl (.cons rfl rfl (.cons rfl rfl (.cons rfl rfl (.cons rfl rfl (.cons rfl rfl (.cons rfl rfl (.cons rfl rfl .nil))))))))))))))) (fun M O I G=>Za rfl<|PO rfl U22 rfl rfl jC rfl rfl (aYI _) rfl bCV<|Zj rfl<|aH ?_)
 exact aF rfl (fun D hD=>(mE (l:=wG) G Yad).up RS.up (hD _ Ye))
theorem d8(mv:Value)(ms:List ByteArray)(D:aC)(hS:Sl D RS 1 mv ms)(I:0<ms.length)(hm:ms.length≤1000):Fn prog 20 #[mv] D (fun D' v=>Sl D' RS 1 v (wG++ms)):=by
 refine enter 6 func20 rfl rfl rfl rfl fun h0=>aA<|Zj rfl<|aK<|Zn rfl U22 jC tf_z9 rfl (.cons rfl rfl (.cons rfl rfl (.cons rfl rfl (.cons rfl rfl (.cons rfl rfl (.cons rfl rfl (.cons rfl rfl (.cons rfl rfl (.cons rfl rfl (.cons rfl rfl (.cons rfl rfl (.cons rfl rfl (.cons rfl rfl (.cons rfl rfl (.cons rfl rfl .nil))))))))))))))) (fun T U M G=>Za rfl<|ZP (cells:=[.string ⟨#[112,108,97,99,101]⟩,.string ⟨#[115,101,101,110,32,50,32,49]⟩,.string ⟨#[99,111,117,110,116,32,51,32,50]⟩,.string ⟨#[98,97,99,107,32,51,32,51]⟩,.string ⟨#[116,105,100,101,32,50,32,56,32,57]⟩,.string ⟨#[115,116,101,112,32,52]⟩,.string ⟨#[108,101,118,101,108,32,54]⟩,.string ⟨#[109,97,114,107,32,49,32,51,32,57,32,57]⟩,.string ⟨#[104,105,114,101,32,48,32,49]⟩,.string ⟨#[104,105,114,101,32,49,32,50]⟩,.string ⟨#[98,114,105,110,103,32,48,32,49]⟩,.string ⟨#[115,109,117,100,103,101,32,49]⟩,.string ⟨#[98,114,111,107,101,110,32,52,32,49,32,48,32,48]⟩,.string ⟨#[98,114,111,107,101,110,32,53,32,48,32,49,32,50]⟩,.string ⟨#[99,108,97,105,109,32,48,32,50]⟩]) rfl U22 rfl rfl jC tf_z9 rfl KJ rfl rfl G Ye rfl (mK.strs hS) Ye (by rw[aZL,bAF]) I Yd rfl bCV (fun V ν1 O=>Zj rfl<|aH ?_))
 have R:bZ 9 1 V (15+ms.length) ((wG++ms).map Value.string) (ν1++[]):=by rw[aYE,aXS];exact O
 refine gR (A:=[]) (ν:=ν1) (B:=[]) (by simpa using R) rfl (fun Z Y hF=>?_);exact aF rfl (fun D' hD=>(hF.strs (by rw[GT];rfl) Yd).up RS.up (hD _ Ye))
theorem aJV(D:aC)(hV:mY D):Fn prog 8 #[] D (fun _ v=>v=.bool true):=by
 refine enter 87 func8 rfl rfl rfl rfl fun h0=>aA<|Zj rfl<|aK<|Zt rfl (fun D1 hF=>GO _) (fun v1 D1 hF hH=>?_)
 have hI:=hH;refine Zc rfl (fun D2 U=>vR _ wG _ (hI.up RS.up (U _ Ye)) (hV.up (U _ Ye)))<|Za rfl<|Zad rfl<|Zad rfl<|Zw rfl mO rfl (fun q1=>aV rfl rfl rfl rfl eA Ya Ya (bO.head) Yj bCV<|Zj rfl<|aK<|Zt rfl (fun D3 hJ=>GO _) (fun v3 D3 hJ hK=>?_));have hM:=hK;refine Zc rfl (fun D4 V=>zS _ wG _ (hM.up RS.up (V _ Ye)) (hV.up (V _ Ye)))<|Za rfl<|Zad rfl<|Zad rfl<|Zw rfl qE rfl (fun q2=>aV rfl rfl rfl rfl iT Ya Ya (bO.head) Yj bCV<|Zj rfl<|aK<|Zt rfl (fun D5 hN=>GO _) (fun v5 D5 hN hO=>?_));have hR:=hO;refine Zc rfl (fun D6 Y=>V4 _ wG _ (hR.up RS.up (Y _ Ye)) (hV.up (Y _ Ye)) (fun _=>aOH))<|Za rfl<|Zad rfl<|Zad rfl<|Zj rfl<|Zj rfl<|aK<|Zn rfl U22 jC tf_z9 rfl (.cons rfl rfl .nil) (fun b901 D901 hS I=>Zt rfl (fun D7 Z=>LB _ aB _ ((mE (l:=aB) I Yad).up RS.up (Z _ Ye))) (fun v7 D7 Z hX=>?_));obtain⟨wv,rfl,hwr⟩:=hX;refine Za rfl<|Zad rfl<|Zad rfl<|Zj rfl<|Zj rfl<|aK<|Zn rfl U22 jC tf_z9 rfl (.cons rfl rfl (.cons rfl rfl (.cons rfl rfl .nil))) (fun b902 D902 hY M=>Zt rfl (fun D8 hB=>d8 _ IY _ ((mE (l:=IY) M Yad).up RS.up (hB _ Ye)) Yad Yad) (fun v8 D8 hB rA=>?_));have rB:=rA;refine Zt rfl (fun D9 O=>wH _ (wG++IY) _ (rB.up RS.up (O _ Ye)) (hV.up (O _ Ye))) (fun v9 D9 O hp9=>?_);obtain⟨w1,w2,rfl,⟨pv,cv,hv,lv,mv,bl,bc,yc,yq,rfl,hL⟩,hes⟩:=hp9;unfold cR;obtain⟨ea,ec,rfl⟩:=hes.shape;have p3len:(aP (wG++IY)).2.1.length=18:=by decide+kernel
 refine Za rfl<|Zad rfl<|Zad rfl<|Zad rfl<|Zw rfl lB rfl (fun q3=>aV rfl rfl rfl rfl dK Ya Ya (bO.head) (gU hL) bCV<|Zj rfl<|Zj rfl<|aK<|Za rfl<|Zan rfl<|Za rfl ?_);refine' dM 4 (s:=41) (p:=45) rfl (fun hg1=>?_) (fun hg1=>?_) ?_;rotate_left
 ·refine bT rfl mP rfl Mm2 eA n3 rfl ⟨_,rfl,rfl⟩<|jB (cs:=[qI 25,qI 25]) rfl T5 mO rfl rfl rfl ⟨_,rfl,rfl⟩<|aHT (a:=(p9 wG).1) (b:=(25,25)) rfl Yf aWN rfl rfl rfl ⟨_,rfl,rfl⟩<|Zag rfl ?_;exact aR 3
 ·refine Zk rfl<|Zk rfl<|Zk rfl<|Zah rfl ?_;exact aR 3
 refine Za rfl ?_;refine' dM 3 (s:=46) (p:=49) rfl (fun hg2=>?_) (fun hg2=>?_) ?_;rotate_left
 ·refine Zb rfl<|qU rfl rfl rfl rfl ⟨_,rfl,rfl⟩<|Zag rfl ?_;exact aR 2
 ·refine Zk rfl<|Zk rfl<|Zah rfl ?_;exact aR 2
 refine Za rfl ?_;refine' dM 4 (s:=50) (p:=54) rfl (fun hg3=>?_) (fun hg3=>?_) ?_;rotate_left
 ·refine bT rfl wQ rfl Mm1 iT n3 rfl ⟨_,rfl,rfl⟩<|jB (cs:=[qI 4,qI 4]) rfl r0 qE rfl rfl rfl ⟨_,rfl,rfl⟩<|aHT (a:=(wP wG).1) (b:=(4,4)) rfl Yf aVZ rfl rfl rfl ⟨_,rfl,rfl⟩<|Zag rfl ?_;exact aR 3
 ·refine Zk rfl<|Zk rfl<|Zk rfl<|Zah rfl ?_;exact aR 3
 refine Za rfl ?_;refine' dM 3 (s:=55) (p:=58) rfl (fun hg4=>?_) (fun hg4=>?_) ?_;rotate_left
 ·refine Zb rfl<|qU rfl rfl rfl rfl ⟨_,rfl,rfl⟩<|Zag rfl ?_;exact aR 2
 ·refine Zk rfl<|Zk rfl<|Zah rfl ?_;exact aR 2
 refine Za rfl ?_;refine' dM 3 (s:=59) (p:=62) rfl (fun hg5=>?_) (fun hg5=>?_) ?_;rotate_left
 ·refine Zb rfl<|yA rfl rfl rfl rfl ⟨_,rfl,rfl⟩<|Zag rfl ?_;exact aR 2
 ·refine Zk rfl<|Zk rfl<|Zah rfl ?_;exact aR 2
 refine Za rfl ?_;refine' dM 3 (s:=63) (p:=66) rfl (fun hg6=>?_) (fun hg6=>?_) ?_;rotate_left
 ·refine Zb rfl<|qU rfl rfl rfl rfl ⟨_,rfl,rfl⟩<|Zag rfl ?_;exact aR 2
 ·refine Zk rfl<|Zk rfl<|Zah rfl ?_;exact aR 2
 refine Za rfl ?_;refine' dM 4 (s:=67) (p:=71) rfl (fun hg7=>?_) (fun hg7=>?_) ?_;rotate_left
 ·refine Zb rfl<|qZ rfl U51 U5 U9 rfl hwr Ye (fun _ _ _ _ _=>n3) rfl ⟨_,rfl,rfl⟩<|yA rfl rfl rfl rfl ⟨_,rfl,rfl⟩<|Zag rfl ?_;exact aR 3
 ·refine Zk rfl<|Zk rfl<|Zk rfl<|Zah rfl ?_;exact aR 3
 refine Za rfl ?_;refine' dM 3 (s:=72) (p:=75) rfl (fun hg8=>?_) (fun hg8=>?_) ?_;rotate_left
 ·refine Zb rfl<|qU rfl rfl rfl rfl ⟨_,rfl,rfl⟩<|Zag rfl ?_;exact aR 2
 ·refine Zk rfl<|Zk rfl<|Zah rfl ?_;exact aR 2
 refine Za rfl ?_;refine' dM 4 (s:=76) (p:=80) rfl (fun hg9=>?_) (fun hg9=>?_) ?_;rotate_left
 ·refine Zb rfl<|dH rfl U43 rfl hes rfl rfl ⟨_,rfl,rfl⟩<|qU rfl rfl rfl rfl ⟨_,rfl,rfl⟩<|Zag rfl ?_;exact aR 3
 ·refine Zk rfl<|Zk rfl<|Zk rfl<|Zah rfl ?_;exact aR 3
 refine Za rfl ?_;refine' dM 5 (s:=81) (p:=86) rfl (fun hE=>?_) (fun hE=>?_) ?_;rotate_left
 ·refine Zb rfl<|vK (j:=15) rfl U43 pG rfl hes rfl (by rw[p3len];omega) rfl ⟨_,rfl,rfl⟩ (fun ta hT=>oG rfl U25 aL dR rfl rfl rfl rfl (.cons rfl rfl (.cons rfl rfl (.cons rfl rfl .nil))) rfl ⟨_,rfl,rfl⟩ (fun b903 D903 hD903 R=>?_));have T:=Sl.ofInts (l:=[_,_,_]) (n:=3) (cap:=3) R rfl Yd Yd;refine Zd rfl (fun D10 G=>j6 _ _ ((aP (wG++IY)).2.1.drop 15) [9,6,4] _ (hT.up RI.up (G _ Ye)) (T.up RI.up (G _ Ye)))<|Zag rfl ?_;exact xN fun a w hh=>(hh.cutK 4 rfl).ds (fun _ h=>aYK _ (h))
 ·refine Zk rfl<|Zk rfl<|Zk rfl<|Zk rfl<|Zah rfl ?_;exact aR 4
 refine Zj rfl<|aH ?_;exact aF rfl (fun D hD=>aXV Value.bool Yaf)
end L12
open Go.Proofs
namespace L12
open C12 Go.Lib
end L12
theorem pO{dd:Nat}{f:Field}{fs:List Field}{xs ys:Array Value}{a b:Value}{r r':Bool}{w:World}(hn:f.name≠ "_")
  (h1:(part f.type xs f.offset).run P w=.ok a w) (h2:(part f.type ys f.offset).run P w=.ok b w) (h3:(Op.equalIn dd f.type a b).run P w=.ok r w) (h4:(Op.eqFields dd xs ys fs).run P w=.ok r' w):
  (Op.eqFields dd xs ys (f::fs)).run P w=.ok (r&&r') w:=by
 rw[Op.eqFields,aYJ hn];simp only[Sem.run_bind,h1,h2,Result.andThen_ok];rw[h3];simp only[Result.andThen_ok];cases r with
 |true=>simpa using h4
 |false=>simp
theorem FF{dd:Nat}{xs ys:Array Value}{w:World}:(Op.eqFields dd xs ys []).run P w=.ok true w:=rfl
inductive I5(P:Program):Nat→Nat→List Field→Prop
 |nil {o}:I5 P o o []
 |cons {o e f fs} (hn:f.name≠ "_") (ho:f.offset=o) (ht:P.underlying f.type=some (.int .i64)) (r:I5 P (o+1) e fs):I5 P o e (f::fs)
theorem I5.le{o e:Nat}{fs:List Field}(h:I5 P o e fs):o≤e:=by
 induction h with
 |nil=>exact aYI _
 |cons _ _ _ _ ih=>omega
theorem BX(dd:Nat)(l m:List Int)(w:World){o e:Nat}{fs:List Field}(h:I5 P o e fs)(hl:l.length=e)(hm:m.length=e):(Op.eqFields (dd+1) (ints l).toArray (ints m).toArray fs).run P w=.ok (l.drop o==m.drop o) w:=by
 induction h with
 |nil=>
  rw[aYV Yd,aYV Yd];rfl
 | @cons o e f fs hn ho ht r ih=>
  have hle:=r.le;have h1:l[o]?= some (l[o]'Yd):=aXT _;have h2:m[o]?= some (m[o]'Yd):=aXT _;rw[pO hn (cO ht (by rw[ho];simpa using cK h1) w) (cO ht (by rw[ho];simpa using cK h2) w) (run_equalIn_int w dd f.type .i64 .i64 _ _ ht) (ih hl hm)]
  congr 1;rw[show l.drop o=l[o]::l.drop (o+1)from aZO _,show m.drop o=m[o]::m.drop (o+1)from aZO _];rfl
theorem kG.str{f:Field}{o n:Nat}(hn:f.name≠ "_")(ho:f.offset=o)(hu:P.underlying f.type=some (.struct (P.fieldsOf f.type)))(hst:P.stoodInHeld f.type=false)(ha:TA P f.type true)(hs:TS P f.type n)(hc:I5 P 0 n (P.fieldsOf f.type).toList):kG P f o n:=by
 refine⟨hn,fun l m w hl hm=>⟨_,_,by rw[ho];exact rS ha hs hl w,by rw[ho];exact rS ha hs hm w,?_⟩⟩;have he:=run_equalIn_struct (P:=P) w 9998 f.type (ints ((l.drop o).take n)).toArray (ints ((m.drop o).take n)).toArray hu hst;show(Op.equalIn (9998+1) _ _ _).run P w=_;rw[he,BX 9997 _ _ w hc Yaw Yaw];simp
structure KC(P:Program)(t:TypeId)(f0 f1 f2:Field):Prop where
 und:P.underlying t=some (.struct (P.fieldsOf t))
 held:P.stoodInHeld t=false
 guard:P.eqGuardType P.depth t=false
 fs:(P.fieldsOf t).toList=[f0,f1,f2]
 n0:f0.name≠ "_"
 n1:f1.name≠ "_"
 n2:f2.name≠ "_"
 o0:f0.offset=0
 o1:f1.offset=1
 o2:f2.offset=2
 t0:P.underlying f0.type=some .bool
 t1:P.underlying f1.type=some (.int .i64)
 t2:P.underlying f2.type=some (.int .i64)
theorem BR{t:TypeId}{f0 f1 f2:Field}(h:KC P t f0 f1 f2)(a b:C1.wI)(w:World):(Op.equal t (cV a) (cV b)).run P w=.ok (decide (a=b)) w:=by
 have he:=run_equalIn_struct (P:=P) w 9999 t #[.bool a.back,qI a.many,qI a.num] #[.bool b.back,qI b.many,qI b.num] h.und h.held;show(Op.equalIn (9999+1) t (cV a) (cV b)).run P w=_;refine he.trans ?_;rw[h.fs,pO h.n0 (run_part_plain w (by simp[Program.plainKey,h.t0]) (by rw[h.o0];rfl)) (run_part_plain w (by simp[Program.plainKey,h.t0]) (by rw[h.o0];rfl)) (run_equalIn_bool w 9998 f0.type _ _ h.t0)
  (pO h.n1 (cO h.t1 (by rw[h.o1];rfl) w) (cO h.t1 (by rw[h.o1];rfl) w) (run_equalIn_int w 9998 f1.type .i64 .i64 _ _ h.t1)
   (pO h.n2 (cO h.t2 (by rw[h.o2];rfl) w) (cO h.t2 (by rw[h.o2];rfl) w) (run_equalIn_int w 9998 f2.type .i64 .i64 _ _ h.t2) FF))]
 congr 1;obtain⟨G,a2,a3⟩:=a;obtain⟨I,b2,M⟩:=b;rw[bAY];simp[C1.wI.mk.injEq]
theorem aHV{t t':TypeId}{f0 f1 f2:Field}{a b:C1.wI}(ho:all[ix]?= some ⟨some d,.binOp .neq t x y t',ty,pos,aft,g⟩)(ht:KC P t f0 f1 f2)(hx:ev σ x=some (cV a))(hy:ev σ y=some (cV b))(hN:Nat.blt d X.N=true)(hg:dE all σ g)
  (kk:WL P X bad all K Q os ((d,.bool (!(decide (a=b))))::σ) μ Ds):WL P X bad all K Q ((fl,ix)::os) σ μ Ds:=
 t6 ho (fun w=>by
  have hgd:(eqGuard .neq t x y (cV a) (cV b)).run P w=.ok () w:=by
   simp only[eqGuard,program,cV];simp[Sem.run,ht.guard,go_sem]
  rw[Sem.run_bind,hgd];show((do Pure.pure (Value.bool (!(←Op.equal t (cV a) (cV b))))):Sem Value).run P w=_;rw[Sem.run_bind,BR ht];rfl) hx hy hN hg kk
namespace L12
open C12
section
variable{α:Type}{xs ys:List α}{k:Nat}{a b:α}
theorem aWQ{α:Type}[DecidableEq α]{a b:α}(h:(!decide (a=b))=false):a=b:=by simpa using h
theorem aVN{α:Type}[DecidableEq α]{a b:α}(h:(!decide (a=b))=true):a≠b:=by simpa using h
theorem wS(hl:xs.length=ys.length)(hk:xs.length≤k)(h:xs.take k=ys.take k):xs=ys:=by
 rwa [aYO hk,aYO Yd]at h
theorem sV(ha:xs[k]?= some a)(hb:ys[k]?= some b)(e:xs=ys):a=b:=by
 rw[e,hb]at ha;exact(aYS ha).symm
end
theorem CR{l m:List Int}(h:(!(l==m))=false):l=m:=by simpa using h
theorem DY{α:Type}{f:α→List Int}{a b:α}(h:(!(f a==f b))=true):a≠b:=fun e=>by rw[e]at h;simp at h
def aVJ(p:Int×Int):List Int:=[p.1,p.2]
def aWZ(m:C2.Mk):List Int:=[m.frm,m.to,m.lo,m.hi]
def aWX(c:C3.Cn):List Int:=[c.after,c.lo,c.hi]
def aWY(l:C3.gM):List Int:=[l.kind,l.chair,l.token]
def aVD(c:C7.Ch):List Int:=[c.size,c.parts.a,c.parts.b,c.parts.c]
theorem UM{a b:Int×Int}(h:aVJ a=aVJ b):a=b:=by
 obtain⟨G,a2⟩:=a;obtain⟨I,b2⟩:=b
 simp only[aVJ,aZS,and_true]at h;rw[h.1,h.2]
theorem aNB{a b:C2.Mk}(h:aWZ a=aWZ b):a=b:=by
 obtain⟨G,a2,a3,a4⟩:=a;obtain⟨I,b2,M,O⟩:=b
 simp only[aWZ,aZS,and_true]at h;rw[h.1,h.2.1,h.2.2.1,h.2.2.2]
theorem aKY{a b:C3.Cn}(h:aWX a=aWX b):a=b:=by
 obtain⟨G,a2,a3⟩:=a;obtain⟨I,b2,M⟩:=b
 simp only[aWX,aZS,and_true]at h;rw[h.1,h.2.1,h.2.2]
theorem aKP{a b:C3.gM}(h:aWY a=aWY b):a=b:=by
 obtain⟨G,a2,a3⟩:=a;obtain⟨I,b2,M⟩:=b
 simp only[aWY,aZS,and_true]at h;rw[h.1,h.2.1,h.2.2]
theorem SQ{a b:C7.Ch}(h:aVD a=aVD b):a=b:=by
 obtain⟨G,a2,a3,a4⟩:=a;obtain⟨I,b2,M,O⟩:=b
 simp only[aVD,aZS,and_true]at h;rw[h.1,h.2.1,h.2.2.1,h.2.2.2]
instance:DecidableEq C7.Ch:=fun a b=>decidable_of_iff (aVD a=aVD b) ⟨SQ,fun e=>by rw[e]⟩
def ID(a b:C1.eC):Bool:=decide (a.wrong=b.wrong∧a.off=b.off∧a.places=b.places∧a.counts=b.counts)
theorem aAX{a b:C1.eC}(h:(decide (a.wrong≠b.wrong)||decide (a.off≠b.off)|| !decide (a.places=b.places)||decide ((a.counts.length:Int)≠(b.counts.length:Int)))=false):a.wrong=b.wrong∧a.off=b.off∧a.places=b.places∧a.counts.length=b.counts.length:=by
 simp only[bAB,Bool.not_eq_false',aZK,Decidable.not_not,aYM]at h;exact⟨h.1.1.1,h.1.1.2,h.1.2,by omega⟩
theorem PK{a b:C1.eC}(h:(decide (a.wrong≠b.wrong)||decide (a.off≠b.off)|| !decide (a.places=b.places)||decide ((a.counts.length:Int)≠(b.counts.length:Int)))=true):ID a b=false:=
 bAW fun⟨G,I,M,O⟩=>by rw[G,I,M,O]at h;simp at h
def U2(a b:C2.bD):Bool:=decide (a.last=b.last∧a.step=b.step∧a.levels=b.levels∧a.heights=b.heights∧a.marks=b.marks)
theorem IU{a b:C2.bD}(h:(decide (a.last≠b.last)||decide (a.step≠b.step)|| !decide (a.levels=b.levels)||decide ((a.heights.length:Int)≠(b.heights.length:Int))||decide ((a.marks.length:Int)≠(b.marks.length:Int)))=false):a.last=b.last∧a.step=b.step∧a.levels=b.levels∧a.heights.length=b.heights.length∧a.marks.length=b.marks.length:=by
 simp only[bAB,Bool.not_eq_false',aZK,Decidable.not_not,aYM]at h;exact⟨h.1.1.1.1,h.1.1.1.2,h.1.1.2,by omega,by omega⟩
theorem GS{a b:C2.bD}(h:(decide (a.last≠b.last)||decide (a.step≠b.step)|| !decide (a.levels=b.levels)||decide ((a.heights.length:Int)≠(b.heights.length:Int))||decide ((a.marks.length:Int)≠(b.marks.length:Int)))=true):U2 a b=false:=
 bAW fun⟨G,I,M,O,R⟩=>by rw[G,I,M,O,R]at h;simp at h
def AL(a b:C3.bG):Bool:=decide (a.chairs=b.chairs∧a.coin=b.coin∧a.box=b.box∧a.lines=b.lines∧a.counts=b.counts)
theorem QL{a b:C3.bG}(h:(decide (a.chairs≠b.chairs)||decide (a.coin≠b.coin)||decide (a.box≠b.box)||decide ((a.lines.length:Int)≠(b.lines.length:Int))||decide ((a.counts.length:Int)≠(b.counts.length:Int)))=false):a.chairs=b.chairs∧a.coin=b.coin∧a.box=b.box∧a.lines.length=b.lines.length∧a.counts.length=b.counts.length:=by
 simp only[bAB,aZK,Decidable.not_not]at h;exact⟨h.1.1.1.1,h.1.1.1.2,h.1.1.2,by omega,by omega⟩
theorem JC{a b:C3.bG}(h:(decide (a.chairs≠b.chairs)||decide (a.coin≠b.coin)||decide (a.box≠b.box)||decide ((a.lines.length:Int)≠(b.lines.length:Int))||decide ((a.counts.length:Int)≠(b.counts.length:Int)))=true):AL a b=false:=
 bAW fun⟨G,I,M,O,R⟩=>by rw[G,I,M,O,R]at h;simp at h
def s3(a b:C7.bQ):Bool:=decide (a.fit=b.fit∧a.chairs=b.chairs∧a.claims=b.claims)
theorem OM{a b:C7.bQ}(h:(decide (a.fit≠b.fit)||decide ((a.chairs.length:Int)≠(b.chairs.length:Int))||decide ((a.claims.length:Int)≠(b.claims.length:Int)))=false):a.fit=b.fit∧a.chairs.length=b.chairs.length∧a.claims.length=b.claims.length:=by
 simp only[bAB,aZK,Decidable.not_not]at h;exact⟨h.1.1,by omega,by omega⟩
theorem JP{a b:C7.bQ}(h:(decide (a.fit≠b.fit)||decide ((a.chairs.length:Int)≠(b.chairs.length:Int))||decide ((a.claims.length:Int)≠(b.claims.length:Int)))=true):s3 a b=false:=
 bAW fun⟨G,I,M⟩=>by rw[G,I,M]at h;simp at h
def aKE(a b:aQ):Bool:=ID a.row b.row&&U2 a.table b.table&&AL a.book b.book&&s3 a.yard b.yard
theorem aUT:KS prog 160 3:=by
 have hf:(prog.fieldsOf 160).toList=[(prog.fieldsOf 160)[0]!,(prog.fieldsOf 160)[1]!,(prog.fieldsOf 160)[2]!]:=by kernel_rfl
 refine⟨by kernel_rfl,by kernel_rfl,by kernel_rfl,?_⟩;rw[hf];exact .cons (kG.int Yaf Yf Yf) (.cons (kG.int Yaf Yf Yf) (.cons (kG.int Yaf Yf Yf) .nil))
theorem aVK:KS prog 99 2:=by
 have hf:(prog.fieldsOf 99).toList=[(prog.fieldsOf 99)[0]!,(prog.fieldsOf 99)[1]!]:=by kernel_rfl
 refine⟨by kernel_rfl,by kernel_rfl,by kernel_rfl,?_⟩;rw[hf];exact .cons (kG.int Yaf Yf Yf) (.cons (kG.int Yaf Yf Yf) .nil)
theorem aRR:KS prog 158 4:=by
 have hf:(prog.fieldsOf 158).toList=[(prog.fieldsOf 158)[0]!,(prog.fieldsOf 158)[1]!,(prog.fieldsOf 158)[2]!]:=by kernel_rfl
 refine⟨by kernel_rfl,by kernel_rfl,by kernel_rfl,?_⟩;rw[hf];refine .cons (kG.int Yaf Yf Yf) (.cons (kG.int Yaf Yf Yf) (.cons (n:=2) (kG.str Yaf Yf Yf Yf ?_ ?_ ?_) .nil))
 ·rw[show(((prog.fieldsOf 158)[2]!)).type=99 by kernel_rfl];exact kB
 ·rw[show(((prog.fieldsOf 158)[2]!)).type=99 by kernel_rfl];exact cE
 ·rw[show(((prog.fieldsOf 158)[2]!)).type=99 by kernel_rfl,show(prog.fieldsOf 99).toList=[(prog.fieldsOf 99)[0]!,(prog.fieldsOf 99)[1]!] by kernel_rfl];exact .cons Yaf Yf Yf (.cons Yaf Yf Yf .nil)
theorem aTR:KS prog 162 3:=by
 have hf:(prog.fieldsOf 162).toList=[(prog.fieldsOf 162)[0]!,(prog.fieldsOf 162)[1]!]:=by kernel_rfl
 refine⟨by kernel_rfl,by kernel_rfl,by kernel_rfl,?_⟩;rw[hf];refine .cons (kG.int Yaf Yf Yf) (.cons (n:=2) (kG.str Yaf Yf Yf Yf ?_ ?_ ?_) .nil)
 ·rw[show(((prog.fieldsOf 162)[1]!)).type=65 by kernel_rfl];exact mP
 ·rw[show(((prog.fieldsOf 162)[1]!)).type=65 by kernel_rfl];exact eA
 ·rw[show(((prog.fieldsOf 162)[1]!)).type=65 by kernel_rfl,show(prog.fieldsOf 65).toList=[(prog.fieldsOf 65)[0]!,(prog.fieldsOf 65)[1]!] by kernel_rfl];exact .cons Yaf Yf Yf (.cons Yaf Yf Yf .nil)
theorem aUP:KS prog 103 4:=by
 have hf:(prog.fieldsOf 103).toList=[(prog.fieldsOf 103)[0]!,(prog.fieldsOf 103)[1]!]:=by kernel_rfl
 refine⟨by kernel_rfl,by kernel_rfl,by kernel_rfl,?_⟩;rw[hf];refine .cons (kG.int Yaf Yf Yf) (.cons (n:=3) (kG.arr (e:=3) Yaf Yf Yf Yf Yf ?_ ?_) .nil)
 ·rw[show(((prog.fieldsOf 103)[1]!)).type=101 by kernel_rfl];exact nD
 ·rw[show(((prog.fieldsOf 103)[1]!)).type=101 by kernel_rfl];exact mJ
theorem aUB:KS prog 133 2:=by
 have hf:(prog.fieldsOf 133).toList=[(prog.fieldsOf 133)[0]!,(prog.fieldsOf 133)[1]!]:=by kernel_rfl
 refine⟨by kernel_rfl,by kernel_rfl,by kernel_rfl,?_⟩;rw[hf];exact .cons (kG.int Yaf Yf Yf) (.cons (kG.int Yaf Yf Yf) .nil)
theorem aRD:KC prog 156 (prog.fieldsOf 156)[0]! (prog.fieldsOf 156)[1]! (prog.fieldsOf 156)[2]! :=⟨by kernel_rfl,by kernel_rfl,by kernel_rfl,by kernel_rfl,by decide+kernel,by decide+kernel,by decide+kernel,by kernel_rfl,by kernel_rfl,by kernel_rfl,by kernel_rfl,by kernel_rfl,by kernel_rfl⟩
theorem aBL(av bv:Value)(a0 T:C1.eC)(D:aC)(hx:nX D av a0)(hy:nX D bv T):Fn prog 33 #[av,bv] D (fun _ v=>v=.bool (ID a0 T)):=by
 obtain⟨pv,cv,rfl,V,M⟩:=hx;obtain⟨qv,dv,rfl,Y,hd0⟩:=hy;have Z:=M.len;refine enter 53 func33 rfl rfl rfl rfl fun h0=>aA<|Zv rfl (fun q1 E1 hX G=>Zv rfl (fun q2 E2 hY I=>Zj rfl<|bW<|Zh rfl zC rfl<|Zf 2 rfl aI rfl G rfl<|Zh rfl zC rfl<|Zf 2 rfl aI rfl I rfl<|Zam rfl<|Za rfl ?_))
 refine' dY 6 (s:=11) (p:=17) rfl (fun hB=>?_) (fun hB=>?_) ?_;rotate_left
 ·refine Zi rfl vU rfl<|Zg 3 rfl aI rfl G rfl<|Zi rfl vU rfl<|Zg 3 rfl aI rfl I rfl<|oC rfl rfl rfl rfl ⟨_,rfl,rfl⟩<|Zah rfl ?_;exact aR 5
 ·refine Zk rfl<|Zk rfl<|Zk rfl<|Zk rfl<|Zk rfl<|Zag rfl ?_;exact aR 5
 refine Za rfl ?_;refine' dY 7 (s:=18) (p:=25) rfl (fun hE=>?_) (fun hE=>?_) ?_;rotate_left
 ·refine Zi rfl eF rfl<|Zg 0 rfl dS rfl G rfl<|Zi rfl eF rfl<|Zg 0 rfl dS rfl I rfl<|Zd rfl (fun D1 U=>EL _ _ a0.places T.places _ (V.up RI.up (U _ Ye)) (Y.up RI.up (U _ Ye)))<|Zal rfl<|Zah rfl ?_;exact aR 6
 ·refine Zk rfl<|Zk rfl<|Zk rfl<|Zk rfl<|Zk rfl<|Zk rfl<|Zag rfl ?_;exact aR 6
 refine Za rfl ?_;refine' dY 8 (s:=26) (p:=34) rfl (fun hF=>?_) (fun hF=>?_) ?_;rotate_left
 ·refine Zi rfl iE rfl<|Zg 1 rfl pH rfl G rfl<|dH rfl U26 rfl M rfl rfl ⟨_,rfl,rfl⟩<|Zi rfl iE rfl<|Zg 1 rfl pH rfl I rfl<|dH rfl U26 rfl hd0 rfl rfl ⟨_,rfl,rfl⟩<|oC rfl rfl rfl rfl ⟨_,rfl,rfl⟩<|Zah rfl ?_;exact aR 7
 ·refine Zk rfl<|Zk rfl<|Zk rfl<|Zk rfl<|Zk rfl<|Zk rfl<|Zk rfl<|Zag rfl ?_;exact aR 7
 refine aG<|aW rfl (fun O=>?_) (fun O=>?_)
 ·refine aA<|Zj rfl<|aH<|Zas ?_;exact aF rfl (fun D hD=>aXV Value.bool (PK O).symm)
 ·obtain⟨hw,ho,hp,hH⟩:=aAX O;refine aZ<|dV<|Zj rfl<|aG<|Zar<|bP (γ:=Nat) (fun k=>(a0.counts).length-k) (fun k=>k≤(a0.counts).length∧(a0.counts).take k=(T.counts).take k) (fun k=>[(5,qI (k:Int))]) [(4,_),(3,_),(2,_)] (fun k=>[E2,E1,D]) 0 Ye ⟨Yb,bCV⟩ bA (aE) ?_;rintro k ⟨h1,h2⟩;refine dV<|Za rfl<|Zh rfl iE rfl<|Zf 1 rfl pH rfl G rfl<|Zab rfl U26 rfl M rfl<|Zai rfl<|aG<|Zz rfl (fun hc2=>?_) (fun hc2=>?_)
  ·have hk:k<(a0.counts).length:=by omega
   obtain⟨a,ha⟩:=dX (a0.counts) k;obtain⟨b,hb⟩:=dX (T.counts) k;refine aZ<|aO<|Zar<|aO<|bM [] 4 11 996<|Zh rfl iE rfl<|Zf 1 rfl pH rfl G rfl<|Za rfl<|Zx rfl U26 hZ rfl M rfl ha (fun b1 o1 hI hJ hR hK=>?_);have e1:hI=_:=hJ;subst e1;refine Zs rfl A4 rfl hK hZ<|Zh rfl iE rfl<|Zf 1 rfl pH rfl I rfl<|Za rfl<|Zx rfl U26 hZ rfl hd0 rfl hb (fun b2 o2 hM hN hS hO=>?_);have e2:hM=_:=hN;subst e2;refine Zs rfl A4 rfl hO hZ<|aHV rfl aRD rfl rfl rfl bCV<|aG<|aW rfl (fun R=>?_) (fun R=>?_)
   ·refine aA<|Zj rfl<|aH<|Zav<|Zas<|Zas<|Zav<|Zas ?_;exact aF rfl (fun D hD=>aXV Value.bool (bAW (fun e=>absurd (sV ha hb (e.2.2.2)) (aVN R))).symm)
   ·refine cB<|Zat<|Zap<|aX<|Za rfl<|Zaa rfl<|Zj rfl<|Zae ?_;exact aM 20 (k+1) ⟨by omega,mU ha hb h2 (aWQ R)⟩ Yd ⟨Yb,bCV⟩ rfl rfl Mm5 (aE)
  ·have h5:a0.counts=T.counts:=wS hH Yd h2;refine aT<|Zaq<|Zaq<|Zau<|Zap<|aA<|Zj rfl<|aH ?_;exact aF rfl (fun D hD=>aXV Value.bool (decide_eq_true (⟨hw,ho,hp,h5⟩)).symm)
theorem NF(av bv:Value)(a0 M:C2.bD)(D:aC)(hx:hG D av a0)(hy:hG D bv M):Fn prog 34 #[av,bv] D (fun _ v=>v=.bool (U2 a0 M)):=by
 obtain⟨hv,lv,mv,rfl,O,hv0,R⟩:=hx;obtain⟨gv,kv,nv,rfl,Y,hE,Z⟩:=hy;have hF:=O.len;have hH:=R.len;refine enter 81 func34 rfl rfl rfl rfl fun h0=>aA<|Zv rfl (fun q1 E1 hE1 G=>Zv rfl (fun q2 E2 hE2 I=>Zj rfl<|bW<|Zh rfl jU rfl<|Zf 0 rfl aI rfl G rfl<|Zh rfl jU rfl<|Zf 0 rfl aI rfl I rfl<|Zam rfl<|Za rfl ?_))
 refine' dY 6 (s:=12) (p:=18) rfl (fun hI=>?_) (fun hI=>?_) ?_;rotate_left
 ·refine Zi rfl sY rfl<|Zg 2 rfl aI rfl G rfl<|Zi rfl sY rfl<|Zg 2 rfl aI rfl I rfl<|oC rfl rfl rfl rfl ⟨_,rfl,rfl⟩<|Zah rfl ?_;exact aR 5
 ·refine Zk rfl<|Zk rfl<|Zk rfl<|Zk rfl<|Zk rfl<|Zag rfl ?_;exact aR 5
 refine Za rfl ?_;refine' dY 7 (s:=19) (p:=26) rfl (fun hJ=>?_) (fun hJ=>?_) ?_;rotate_left
 ·refine Zi rfl jJ rfl<|Zg 3 rfl dS rfl G rfl<|Zi rfl jJ rfl<|Zg 3 rfl dS rfl I rfl<|Zd rfl (fun D1 hB=>EL _ _ a0.levels M.levels _ (hv0.up RI.up (hB _ Ye)) (hE.up RI.up (hB _ Ye)))<|Zal rfl<|Zah rfl ?_;exact aR 6
 ·refine Zk rfl<|Zk rfl<|Zk rfl<|Zk rfl<|Zk rfl<|Zk rfl<|Zag rfl ?_;exact aR 6
 refine Za rfl ?_;refine' dY 8 (s:=27) (p:=35) rfl (fun hK=>?_) (fun hK=>?_) ?_;rotate_left
 ·refine Zi rfl fA rfl<|Zg 1 rfl lX rfl G rfl<|dH rfl U29 rfl O rfl rfl ⟨_,rfl,rfl⟩<|Zi rfl fA rfl<|Zg 1 rfl lX rfl I rfl<|dH rfl U29 rfl Y rfl rfl ⟨_,rfl,rfl⟩<|oC rfl rfl rfl rfl ⟨_,rfl,rfl⟩<|Zah rfl ?_;exact aR 7
 ·refine Zk rfl<|Zk rfl<|Zk rfl<|Zk rfl<|Zk rfl<|Zk rfl<|Zk rfl<|Zag rfl ?_;exact aR 7
 refine Za rfl ?_;refine' dY 8 (s:=36) (p:=44) rfl (fun hM=>?_) (fun hM=>?_) ?_;rotate_left
 ·refine Zi rfl iF rfl<|Zg 4 rfl oY rfl G rfl<|dH rfl U30 rfl R rfl rfl ⟨_,rfl,rfl⟩<|Zi rfl iF rfl<|Zg 4 rfl oY rfl I rfl<|dH rfl U30 rfl Z rfl rfl ⟨_,rfl,rfl⟩<|oC rfl rfl rfl rfl ⟨_,rfl,rfl⟩<|Zah rfl ?_;exact aR 7
 ·refine Zk rfl<|Zk rfl<|Zk rfl<|Zk rfl<|Zk rfl<|Zk rfl<|Zk rfl<|Zag rfl ?_;exact aR 7
 refine aG<|aW rfl (fun T=>?_) (fun T=>?_)
 ·refine aA<|Zj rfl<|aH<|Zas ?_;exact aF rfl (fun D hD=>aXV Value.bool (GS T).symm)
 ·obtain⟨hw,ho,hp,hN,hO⟩:=IU T;refine aZ<|dV<|Zj rfl<|aG<|Zar<|bP (γ:=Nat) (fun k=>(a0.heights).length-k) (fun k=>k≤(a0.heights).length∧(a0.heights).take k=(M.heights).take k) (fun k=>[(5,qI (k:Int))]) [(4,_),(3,_),(2,_)] (fun k=>[E2,E1,D]) 0 Ye ⟨Yb,bCV⟩ bA (aE) ?_;rintro k ⟨h1,h2⟩;refine dV<|Za rfl<|Zh rfl fA rfl<|Zf 1 rfl lX rfl G rfl<|Zab rfl U29 rfl O rfl<|Zai rfl<|aG<|Zz rfl (fun hc2=>?_) (fun hc2=>?_)
  ·have hk:k<(a0.heights).length:=by omega
   obtain⟨a,ha⟩:=dX (a0.heights) k;obtain⟨b,hb⟩:=dX (M.heights) k;refine aZ<|aO<|Zar<|aO<|bM [] 4 11 996<|Zh rfl fA rfl<|Zf 1 rfl lX rfl G rfl<|Za rfl<|Zx rfl U29 cE rfl O rfl ha (fun b1 o1 hR hS hcl1 hX=>?_);have e1:hR=_:=hS;subst e1;refine Zs rfl kB rfl hX cE<|Zh rfl fA rfl<|Zf 1 rfl lX rfl I rfl<|Za rfl<|Zx rfl U29 cE rfl Y rfl hb (fun b2 o2 hY rA hcl2 rB=>?_);have e2:hY=_:=rA;subst e2;refine Zs rfl kB rfl rB cE<|C9 (l:=[a.1,a.2]) (m:=[b.1,b.2]) rfl aVK rfl rfl rfl rfl rfl bCV<|aG<|aW rfl (fun U=>?_) (fun U=>?_)
   ·refine aA<|Zj rfl<|aH<|Zav<|Zas<|Zas<|Zav<|Zas ?_;exact aF rfl (fun D hD=>aXV Value.bool (bAW (fun e=>absurd (sV ha hb (e.2.2.2.1)) (DY (f:=aVJ) U))).symm)
   ·refine cB<|Zat<|Zap<|aX<|Za rfl<|Zaa rfl<|Zj rfl<|Zae ?_;exact aM 20 (k+1) ⟨by omega,mU ha hb h2 (UM (CR U))⟩ Yd ⟨Yb,bCV⟩ rfl rfl Mm5 (aE)
  ·have h5:a0.heights=M.heights:=wS hN Yd h2;refine aT<|Zaq<|Zaq<|Zau<|Zap<|dV<|Zj rfl<|aG<|Zar<|bP (γ:=Nat) (fun k=>(a0.marks).length-k) (fun k=>k≤(a0.marks).length∧(a0.marks).take k=(M.marks).take k) (fun k=>[(6,qI (k:Int))]) [(4,_),(3,_),(2,_)] (fun k=>[E2,E1,D]) 0 Ye ⟨Yb,bCV⟩ bA (aE) ?_;rintro k ⟨h1,h2⟩;refine dV<|Za rfl<|Zh rfl iF rfl<|Zf 4 rfl oY rfl G rfl<|Zab rfl U30 rfl R rfl<|Zai rfl<|aG<|Zz rfl (fun hc4=>?_) (fun hc4=>?_)
   ·have hk:k<(a0.marks).length:=by omega
    obtain⟨a,ha⟩:=dX (a0.marks) k;obtain⟨b,hb⟩:=dX (M.marks) k;refine aZ<|aO<|Zar<|aO<|bM [] 4 11 996<|Zh rfl iF rfl<|Zf 4 rfl oY rfl G rfl<|Za rfl<|Zx rfl U30 iN rfl R rfl ha (fun b3 o3 cs3 hr3 hcl3 hA3=>?_);have e3:cs3=_:=hr3;subst e3;refine Zs rfl J5 rfl hA3 iN<|Zh rfl iF rfl<|Zf 4 rfl oY rfl I rfl<|Za rfl<|Zx rfl U30 iN rfl Z rfl hb (fun b4 o4 cs4 hr4 hcl4 hA4=>?_);have e4:cs4=_:=hr4;subst e4;refine Zs rfl J5 rfl hA4 iN<|C9 (l:=[a.frm,a.to,a.lo,a.hi]) (m:=[b.frm,b.to,b.lo,b.hi]) rfl aRR rfl rfl rfl rfl rfl bCV<|aG<|aW rfl (fun V=>?_) (fun V=>?_)
    ·refine aA<|Zj rfl<|aH<|Zav<|Zas<|Zas<|Zav<|Zas ?_;exact aF rfl (fun D hD=>aXV Value.bool (bAW (fun e=>absurd (sV ha hb (e.2.2.2.2)) (DY (f:=aWZ) V))).symm)
    ·refine cB<|Zat<|Zap<|aX<|Za rfl<|Zaa rfl<|Zj rfl<|Zae ?_;exact aM 20 (k+1) ⟨by omega,mU ha hb h2 (aNB (CR V))⟩ Yd ⟨Yb,bCV⟩ rfl rfl Mm5 (aE)
   ·have h6:a0.marks=M.marks:=wS hO Yd h2;refine aT<|Zaq<|Zaq<|Zau<|Zap<|aA<|Zj rfl<|aH ?_;exact aF rfl (fun D hD=>aXV Value.bool (decide_eq_true (⟨hw,ho,hp,h5,h6⟩)).symm)
theorem OP(av bv:Value)(a0 R:C3.bG)(D:aC)(hx:fY D av a0)(hy:fY D bv R):Fn prog 35 #[av,bv] D (fun _ v=>v=.bool (AL a0 R)):=by
 obtain⟨hv,mv,rfl,M,O⟩:=hx;obtain⟨gv,nv,rfl,Y,Z⟩:=hy;have hB:=M.len;have hE:=O.len;refine enter 80 func35 rfl rfl rfl rfl fun h0=>aA<|Zv rfl (fun q1 E1 hE1 G=>Zv rfl (fun q2 E2 hE2 I=>Zj rfl<|bW<|Zh rfl oF rfl<|Zf 0 rfl aI rfl G rfl<|Zh rfl oF rfl<|Zf 0 rfl aI rfl I rfl<|Zam rfl<|Za rfl ?_))
 refine' dY 6 (s:=12) (p:=18) rfl (fun hF=>?_) (fun hF=>?_) ?_;rotate_left
 ·refine Zi rfl tC rfl<|Zg 1 rfl aI rfl G rfl<|Zi rfl tC rfl<|Zg 1 rfl aI rfl I rfl<|oC rfl rfl rfl rfl ⟨_,rfl,rfl⟩<|Zah rfl ?_;exact aR 5
 ·refine Zk rfl<|Zk rfl<|Zk rfl<|Zk rfl<|Zk rfl<|Zag rfl ?_;exact aR 5
 refine Za rfl ?_;refine' dY 6 (s:=19) (p:=25) rfl (fun hH=>?_) (fun hH=>?_) ?_;rotate_left
 ·refine Zi rfl yE rfl<|Zg 2 rfl aI rfl G rfl<|Zi rfl yE rfl<|Zg 2 rfl aI rfl I rfl<|oC rfl rfl rfl rfl ⟨_,rfl,rfl⟩<|Zah rfl ?_;exact aR 5
 ·refine Zk rfl<|Zk rfl<|Zk rfl<|Zk rfl<|Zk rfl<|Zag rfl ?_;exact aR 5
 refine Za rfl ?_;refine' dY 8 (s:=26) (p:=34) rfl (fun hI=>?_) (fun hI=>?_) ?_;rotate_left
 ·refine Zi rfl cQ rfl<|Zg 3 rfl eX rfl G rfl<|dH rfl U33 rfl M rfl rfl ⟨_,rfl,rfl⟩<|Zi rfl cQ rfl<|Zg 3 rfl eX rfl I rfl<|dH rfl U33 rfl Y rfl rfl ⟨_,rfl,rfl⟩<|oC rfl rfl rfl rfl ⟨_,rfl,rfl⟩<|Zah rfl ?_;exact aR 7
 ·refine Zk rfl<|Zk rfl<|Zk rfl<|Zk rfl<|Zk rfl<|Zk rfl<|Zk rfl<|Zag rfl ?_;exact aR 7
 refine Za rfl ?_;refine' dY 8 (s:=35) (p:=43) rfl (fun hJ=>?_) (fun hJ=>?_) ?_;rotate_left
 ·refine Zi rfl kV rfl<|Zg 4 rfl uL rfl G rfl<|dH rfl U34 rfl O rfl rfl ⟨_,rfl,rfl⟩<|Zi rfl kV rfl<|Zg 4 rfl uL rfl I rfl<|dH rfl U34 rfl Z rfl rfl ⟨_,rfl,rfl⟩<|oC rfl rfl rfl rfl ⟨_,rfl,rfl⟩<|Zah rfl ?_;exact aR 7
 ·refine Zk rfl<|Zk rfl<|Zk rfl<|Zk rfl<|Zk rfl<|Zk rfl<|Zk rfl<|Zag rfl ?_;exact aR 7
 refine aG<|aW rfl (fun T=>?_) (fun T=>?_)
 ·refine aA<|Zj rfl<|aH<|Zas ?_;exact aF rfl (fun D hD=>aXV Value.bool (JC T).symm)
 ·obtain⟨hw,ho,hp,hK,hM⟩:=QL T;refine aZ<|dV<|Zj rfl<|aG<|Zar<|bP (γ:=Nat) (fun k=>(a0.lines).length-k) (fun k=>k≤(a0.lines).length∧(a0.lines).take k=(R.lines).take k) (fun k=>[(5,qI (k:Int))]) [(4,_),(3,_),(2,_)] (fun k=>[E2,E1,D]) 0 Ye ⟨Yb,bCV⟩ bA (aE) ?_;rintro k ⟨h1,h2⟩;refine dV<|Za rfl<|Zh rfl cQ rfl<|Zf 3 rfl eX rfl G rfl<|Zab rfl U33 rfl M rfl<|Zai rfl<|aG<|Zz rfl (fun hc2=>?_) (fun hc2=>?_)
  ·have hk:k<(a0.lines).length:=by omega
   obtain⟨a,ha⟩:=dX (a0.lines) k;obtain⟨b,hb⟩:=dX (R.lines) k;refine aZ<|aO<|Zar<|aO<|bM [] 4 11 996<|Zh rfl cQ rfl<|Zf 3 rfl eX rfl G rfl<|Za rfl<|Zx rfl U33 bH rfl M rfl ha (fun b1 o1 hN hO hcl1 hR=>?_);have e1:hN=_:=hO;subst e1;refine Zs rfl kN rfl hR bH<|Zh rfl cQ rfl<|Zf 3 rfl eX rfl I rfl<|Za rfl<|Zx rfl U33 bH rfl Y rfl hb (fun b2 o2 hS hX hcl2 hY=>?_);have e2:hS=_:=hX;subst e2;refine Zs rfl kN rfl hY bH<|C9 (l:=[a.kind,a.chair,a.token]) (m:=[b.kind,b.chair,b.token]) rfl aUT rfl rfl rfl rfl rfl bCV<|aG<|aW rfl (fun U=>?_) (fun U=>?_)
   ·refine aA<|Zj rfl<|aH<|Zav<|Zas<|Zas<|Zav<|Zas ?_;exact aF rfl (fun D hD=>aXV Value.bool (bAW (fun e=>absurd (sV ha hb (e.2.2.2.1)) (DY (f:=aWY) U))).symm)
   ·refine cB<|Zat<|Zap<|aX<|Za rfl<|Zaa rfl<|Zj rfl<|Zae ?_;exact aM 20 (k+1) ⟨by omega,mU ha hb h2 (aKP (CR U))⟩ Yd ⟨Yb,bCV⟩ rfl rfl Mm5 (aE)
  ·have h5:a0.lines=R.lines:=wS hK Yd h2;refine aT<|Zaq<|Zaq<|Zau<|Zap<|dV<|Zj rfl<|aG<|Zar<|bP (γ:=Nat) (fun k=>(a0.counts).length-k) (fun k=>k≤(a0.counts).length∧(a0.counts).take k=(R.counts).take k) (fun k=>[(6,qI (k:Int))]) [(4,_),(3,_),(2,_)] (fun k=>[E2,E1,D]) 0 Ye ⟨Yb,bCV⟩ bA (aE) ?_;rintro k ⟨h1,h2⟩;refine dV<|Za rfl<|Zh rfl kV rfl<|Zf 4 rfl uL rfl G rfl<|Zab rfl U34 rfl O rfl<|Zai rfl<|aG<|Zz rfl (fun rA=>?_) (fun rA=>?_)
   ·have hk:k<(a0.counts).length:=by omega
    obtain⟨a,ha⟩:=dX (a0.counts) k;obtain⟨b,hb⟩:=dX (R.counts) k;refine aZ<|aO<|Zar<|aO<|bM [] 4 11 996<|Zh rfl kV rfl<|Zf 4 rfl uL rfl G rfl<|Za rfl<|Zx rfl U34 nF rfl O rfl ha (fun b3 o3 rB hr3 hcl3 hA3=>?_);have e3:rB=_:=hr3;subst e3;refine Zs rfl O8 rfl hA3 nF<|Zh rfl kV rfl<|Zf 4 rfl uL rfl I rfl<|Za rfl<|Zx rfl U34 nF rfl Z rfl hb (fun b4 o4 cs4 hr4 hcl4 hA4=>?_);have e4:cs4=_:=hr4;subst e4;refine Zs rfl O8 rfl hA4 nF<|C9 (l:=[a.after,a.lo,a.hi]) (m:=[b.after,b.lo,b.hi]) rfl aTR rfl rfl rfl rfl rfl bCV<|aG<|aW rfl (fun V=>?_) (fun V=>?_)
    ·refine aA<|Zj rfl<|aH<|Zav<|Zas<|Zas<|Zav<|Zas ?_;exact aF rfl (fun D hD=>aXV Value.bool (bAW (fun e=>absurd (sV ha hb (e.2.2.2.2)) (DY (f:=aWX) V))).symm)
    ·refine cB<|Zat<|Zap<|aX<|Za rfl<|Zaa rfl<|Zj rfl<|Zae ?_;exact aM 20 (k+1) ⟨by omega,mU ha hb h2 (aKY (CR V))⟩ Yd ⟨Yb,bCV⟩ rfl rfl Mm5 (aE)
   ·have h6:a0.counts=R.counts:=wS hM Yd h2;refine aT<|Zaq<|Zaq<|Zau<|Zap<|aA<|Zj rfl<|aH ?_;exact aF rfl (fun D hD=>aXV Value.bool (decide_eq_true (⟨hw,ho,hp,h5,h6⟩)).symm)
theorem NO(av bv:Value)(a0 R:C7.bQ)(D:aC)(hx:lM D av a0)(hy:lM D bv R):Fn prog 36 #[av,bv] D (fun _ v=>v=.bool (s3 a0 R)):=by
 obtain⟨hv,mv,rfl,M,O⟩:=hx;obtain⟨gv,nv,rfl,Y,Z⟩:=hy;have hB:=M.len;have hE:=O.len;refine enter 66 func36 rfl rfl rfl rfl fun h0=>aA<|Zv rfl (fun q1 E1 hE1 G=>Zv rfl (fun q2 E2 hE2 I=>Zj rfl<|bW<|Zh rfl sL rfl<|Zf 1 rfl aI rfl G rfl<|Zh rfl sL rfl<|Zf 1 rfl aI rfl I rfl<|Zam rfl<|Za rfl ?_))
 refine' dY 8 (s:=12) (p:=20) rfl (fun hF=>?_) (fun hF=>?_) ?_;rotate_left
 ·refine Zi rfl eR rfl<|Zg 0 rfl kC rfl G rfl<|dH rfl U37 rfl M rfl rfl ⟨_,rfl,rfl⟩<|Zi rfl eR rfl<|Zg 0 rfl kC rfl I rfl<|dH rfl U37 rfl Y rfl rfl ⟨_,rfl,rfl⟩<|oC rfl rfl rfl rfl ⟨_,rfl,rfl⟩<|Zah rfl ?_;exact aR 7
 ·refine Zk rfl<|Zk rfl<|Zk rfl<|Zk rfl<|Zk rfl<|Zk rfl<|Zk rfl<|Zag rfl ?_;exact aR 7
 refine Za rfl ?_;refine' dY 8 (s:=21) (p:=29) rfl (fun hH=>?_) (fun hH=>?_) ?_;rotate_left
 ·refine Zi rfl iL rfl<|Zg 2 rfl oZ rfl G rfl<|dH rfl U38 rfl O rfl rfl ⟨_,rfl,rfl⟩<|Zi rfl iL rfl<|Zg 2 rfl oZ rfl I rfl<|dH rfl U38 rfl Z rfl rfl ⟨_,rfl,rfl⟩<|oC rfl rfl rfl rfl ⟨_,rfl,rfl⟩<|Zah rfl ?_;exact aR 7
 ·refine Zk rfl<|Zk rfl<|Zk rfl<|Zk rfl<|Zk rfl<|Zk rfl<|Zk rfl<|Zag rfl ?_;exact aR 7
 refine aG<|aW rfl (fun T=>?_) (fun T=>?_)
 ·refine aA<|Zj rfl<|aH<|Zas ?_;exact aF rfl (fun D hD=>aXV Value.bool (JP T).symm)
 ·obtain⟨hw,hI,hJ⟩:=OM T;refine aZ<|dV<|Zj rfl<|aG<|Zar<|bP (γ:=Nat) (fun k=>(a0.chairs).length-k) (fun k=>k≤(a0.chairs).length∧(a0.chairs).take k=(R.chairs).take k) (fun k=>[(5,qI (k:Int))]) [(4,_),(3,_),(2,_)] (fun k=>[E2,E1,D]) 0 Ye ⟨Yb,bCV⟩ bA (aE) ?_;rintro k ⟨h1,h2⟩;refine dV<|Za rfl<|Zh rfl eR rfl<|Zf 0 rfl kC rfl G rfl<|Zab rfl U37 rfl M rfl<|Zai rfl<|aG<|Zz rfl (fun hc2=>?_) (fun hc2=>?_)
  ·have hk:k<(a0.chairs).length:=by omega
   obtain⟨a,ha⟩:=dX (a0.chairs) k;obtain⟨b,hb⟩:=dX (R.chairs) k;refine aZ<|aO<|Zar<|aO<|bM [] 4 11 996<|Zh rfl eR rfl<|Zf 0 rfl kC rfl G rfl<|Za rfl<|Zx rfl U37 jA rfl M rfl ha (fun b1 o1 hK hM hcl1 hN=>?_);have e1:hK=_:=hM;subst e1;refine Zs rfl I7 rfl hN jA<|Zh rfl eR rfl<|Zf 0 rfl kC rfl I rfl<|Za rfl<|Zx rfl U37 jA rfl Y rfl hb (fun b2 o2 hO hR hcl2 hS=>?_);have e2:hO=_:=hR;subst e2;refine Zs rfl I7 rfl hS jA<|C9 (l:=[a.size,a.parts.a,a.parts.b,a.parts.c]) (m:=[b.size,b.parts.a,b.parts.b,b.parts.c]) rfl aUP rfl rfl rfl rfl rfl bCV<|aG<|aW rfl (fun U=>?_) (fun U=>?_)
   ·refine aA<|Zj rfl<|aH<|Zav<|Zas<|Zas<|Zav<|Zas ?_;exact aF rfl (fun D hD=>aXV Value.bool (bAW (fun e=>absurd (sV ha hb (e.2.1)) (DY (f:=aVD) U))).symm)
   ·refine cB<|Zat<|Zap<|aX<|Za rfl<|Zaa rfl<|Zj rfl<|Zae ?_;exact aM 20 (k+1) ⟨by omega,mU ha hb h2 (SQ (CR U))⟩ Yd ⟨Yb,bCV⟩ rfl rfl Mm5 (aE)
  ·have h5:a0.chairs=R.chairs:=wS hI Yd h2;refine aT<|Zaq<|Zaq<|Zau<|Zap<|dV<|Zj rfl<|aG<|Zar<|bP (γ:=Nat) (fun k=>(a0.claims).length-k) (fun k=>k≤(a0.claims).length∧(a0.claims).take k=(R.claims).take k) (fun k=>[(6,qI (k:Int))]) [(4,_),(3,_),(2,_)] (fun k=>[E2,E1,D]) 0 Ye ⟨Yb,bCV⟩ bA (aE) ?_;rintro k ⟨h1,h2⟩;refine dV<|Za rfl<|Zh rfl iL rfl<|Zf 2 rfl oZ rfl G rfl<|Zab rfl U38 rfl O rfl<|Zai rfl<|aG<|Zz rfl (fun hX=>?_) (fun hX=>?_)
   ·have hk:k<(a0.claims).length:=by omega
    obtain⟨a,ha⟩:=dX (a0.claims) k;obtain⟨b,hb⟩:=dX (R.claims) k;refine aZ<|aO<|Zar<|aO<|bM [] 4 11 996<|Zh rfl iL rfl<|Zf 2 rfl oZ rfl G rfl<|Za rfl<|Zx rfl U38 cD rfl O rfl ha (fun b3 o3 hY rA hcl3 rB=>?_);have e3:hY=_:=rA;subst e3;refine Zs rfl kL rfl rB cD<|Zh rfl iL rfl<|Zf 2 rfl oZ rfl I rfl<|Za rfl<|Zx rfl U38 cD rfl Z rfl hb (fun b4 o4 cs4 hr4 hcl4 hA4=>?_);have e4:cs4=_:=hr4;subst e4;refine Zs rfl kL rfl hA4 cD<|C9 (l:=[a.1,a.2]) (m:=[b.1,b.2]) rfl aUB rfl rfl rfl rfl rfl bCV<|aG<|aW rfl (fun V=>?_) (fun V=>?_)
    ·refine aA<|Zj rfl<|aH<|Zav<|Zas<|Zas<|Zav<|Zas ?_;exact aF rfl (fun D hD=>aXV Value.bool (bAW (fun e=>absurd (sV ha hb (e.2.2)) (DY (f:=aVJ) V))).symm)
    ·refine cB<|Zat<|Zap<|aX<|Za rfl<|Zaa rfl<|Zj rfl<|Zae ?_;exact aM 20 (k+1) ⟨by omega,mU ha hb h2 (UM (CR V))⟩ Yd ⟨Yb,bCV⟩ rfl rfl Mm5 (aE)
   ·have h6:a0.claims=R.claims:=wS hJ Yd h2;refine aT<|Zaq<|Zaq<|Zau<|Zap<|aA<|Zj rfl<|aH ?_;exact aF rfl (fun D hD=>aXV Value.bool (decide_eq_true (⟨hw,h5,h6⟩)).symm)
theorem YO(av bv:Value)(a0 M:aQ)(D:aC)(hx:fN D av a0)(hy:fN D bv M):Fn prog 12 #[av,bv] D (fun _ v=>v=.bool (aKE a0 M)):=by
 obtain⟨pv,cv,hv,lv,mv,bl,bc,yc,yq,rfl,hL⟩:=hx;obtain⟨hB,hE,hF,hH,hI,hJ,hK,hN,hO,rfl,hM⟩:=hy;unfold cR;refine enter 31 func12 rfl rfl rfl rfl fun h0=>aA<|Zv rfl (fun q1 E1 hR G=>Zv rfl (fun q2 E2 hS I=>Zj rfl<|aK<|Zh rfl dJ rfl<|dC rfl (k:=0) iW fX rfl G Yc rfl rfl n3 rfl bCV<|Zh rfl dJ rfl<|dC rfl (k:=0) iW fX rfl I Yc rfl rfl n3 rfl bCV<|Zc rfl (fun D1 O=>aBL _ _ a0.row M.row _ (hL.row.up (O _ Ye)) (hM.row.up (O _ Ye)))<|Za rfl ?_))
 refine' dM 6 (s:=10) (p:=16) rfl (fun V=>?_) (fun V=>?_) ?_;rotate_left
 ·refine Zi rfl cT rfl<|dC rfl (k:=4) gY eW rfl G Yc rfl rfl n3 rfl ⟨_,rfl,rfl⟩<|Zi rfl cT rfl<|dC rfl (k:=4) gY eW rfl I Yc rfl rfl n3 rfl ⟨_,rfl,rfl⟩<|Zd rfl (fun D2 R=>NF _ _ a0.table M.table _ (hL.table.up (R _ Ye)) (hM.table.up (R _ Ye)))<|Zag rfl ?_;exact aR 5
 ·refine Zk rfl<|Zk rfl<|Zk rfl<|Zk rfl<|Zk rfl<|Zah rfl ?_;exact aR 5
 refine Za rfl ?_;refine' dM 6 (s:=17) (p:=23) rfl (fun Y=>?_) (fun Y=>?_) ?_;rotate_left
 ·refine Zi rfl eK rfl<|dC rfl (k:=9) eL dO rfl G Yc rfl rfl n3 rfl ⟨_,rfl,rfl⟩<|Zi rfl eK rfl<|dC rfl (k:=9) eL dO rfl I Yc rfl rfl n3 rfl ⟨_,rfl,rfl⟩<|Zd rfl (fun D3 T=>OP _ _ a0.book M.book _ (hL.book.up (T _ Ye)) (hM.book.up (T _ Ye)))<|Zag rfl ?_;exact aR 5
 ·refine Zk rfl<|Zk rfl<|Zk rfl<|Zk rfl<|Zk rfl<|Zah rfl ?_;exact aR 5
 refine Za rfl ?_;refine' dM 6 (s:=24) (p:=30) rfl (fun Z=>?_) (fun Z=>?_) ?_;rotate_left
 ·refine Zi rfl dZ rfl<|dC rfl (k:=14) jP iD rfl G Yc rfl rfl n3 rfl ⟨_,rfl,rfl⟩<|Zi rfl dZ rfl<|dC rfl (k:=14) jP iD rfl I Yc rfl rfl n3 rfl ⟨_,rfl,rfl⟩<|Zd rfl (fun D4 U=>NO _ _ a0.yard M.yard _ (hL.yard.up (U _ Ye)) (hM.yard.up (U _ Ye)))<|Zag rfl ?_;exact aR 5
 ·refine Zk rfl<|Zk rfl<|Zk rfl<|Zk rfl<|Zk rfl<|Zah rfl ?_;exact aR 5
 refine Zj rfl<|aH ?_;exact aF rfl (fun D hD=>rfl)
end L12
namespace L12
open C12
def mR(s:aQ)(ls:List ByteArray):aQ:=ls.foldl (fun s l=>(uF s l).1) s
def aXJ(s:aQ):List ByteArray→List Int
 | []=>[]
 |l::ls=>(uF s l).2::aXJ (uF s l).1 ls
def A9(s:aQ):List ByteArray→List ByteArray
 | []=>[]
 |l::ls=>if(uF s l).2=0 then l::A9 (uF s l).1 ls else A9 (uF s l).1 ls
theorem ZZ(s:aQ)(l:ByteArray)(ls:List ByteArray):mR s (l::ls)=mR (uF s l).1 ls:=rfl
theorem aDA(s:aQ)(ls ms:List ByteArray):mR s (ls++ms)=mR (mR s ls) ms:=by simp[mR,aZM]
theorem aRE{s:aQ}{l:ByteArray}(h:(uF s l).2≠0):(uF s l).1=s:=by
 unfold uF at h ⊢
 split
 ·rfl
 ·rename_i act n hp;rw[hp]at h;simp only at h;split
  ·rfl
  ·rename_i G ha;rw[ha]at h;simp only at h;split at h
   ·exact absurd rfl h
   ·rename_i hs;rw[aYC hs]
end L12
namespace L12
open C12 Go.Lib
section
variable{P:Program}{X:Cx}{γb:Type}[Membership Nat γb]{bad:γb}{all:Array Oper}{K:Act→World→Prop}{Q:Exit→Act→World→Prop}
variable{σ:cG}{μ:aD}{Ds:List aC}{os:List (Bool×Nat)}{fl:Bool}{ix d:Nat}{ty:TypeId}{pos:String}{aft:Array Edge}{g:Option (Nat×Bool)}{v:Value}
def aXD(D' D:aC)(cells:List Value):Prop:=D'=D∨∃b,D=fK D' b []∧D' b=cells
theorem OJ{D:aC}{w:World}{bo:Nat}{cs js:List Value}{e:TypeId}{fz:Nat×Nat}(h:eO D w)(hb:w.heap[bo]?= some (.cells (cs++js).toArray e fz))(hD:D bo=[]):eO (fK D bo cs) w:=h.of (fun c hc=>by
 unfold fK at hc ⊢
 split
 ·rename_i ec;subst ec;exact⟨_,_,_,hb,List.prefix_append _ _⟩
 ·rename_i ec;rw[aYC ec]at hc;exact h.1 c hc) (by unfold fK;rw[aYC (Ne.symm (h.ne0 hD))]) rfl
theorem QC{A B ν:aD}{e:TypeId}{sz n:Nat}{cells:List Value}{c:Operand}{xs:Array Operand}{ats:Array TypeId}{f:FuncId}{c1 c2:List Value}{vs:List Value}{post:aC→Value→Prop}(ho:all[ix]?= some ⟨some d,.call {callee:=.value c,args:=xs,argTypes:=ats},ty,pos,aft,g⟩)(hc:ev σ c=some (.func (.func f) c1.toArray c2.toArray))(hxs:Q8 σ xs.toList=some vs)
  (hacc:bZ e sz v n cells ν) (hf:∀D,(∀D₁∈Ds,Le D₁ D)→mH D v n cells→Fn P f (c1++vs++c2).toArray D post) (hN:Nat.blt d X.N=true) (hg:dE all σ g)
  (kk:∀r D' D,(∀D₁∈Ds,Le D₁ D)→post D' r→aXD D' D cells→WL P X bad all K Q os ((d,r)::σ) (A++ν++B) (D::Ds)):WL P X bad all K Q ((fl,ix)::os) σ (A++ν++B) Ds:=by
 rcases hacc with⟨a',hv,h0,O,rfl⟩|⟨b,cap,junk,hv,hcap,rfl,U,h9⟩
 ·exact k9 ho hc hxs (fun D hD=>hf D hD (aYF ⟨a',hv,h0,O⟩)) hN hg (fun r D hD hp=>kk r D D hD hp (aYF rfl))
 ·refine eI ho rfl rfl hg fun a w hh=>?_
  obtain⟨h1,h2,h3,D,h4,h5,R⟩:=id hh;obtain⟨I,G,T⟩:=h4.box (b,qC (cells++junk) e) Ye;have hA:=l9 D b cells;have hF:=hf (fK D b cells) (fun D₁ hD₁=>(h5 D₁ hD₁).trans (xV G (h4.agr.ne0 G))) (aXR ⟨b,cap,hv,hcap,hA⟩);rw[sC hF.1 (hh.eval hc) (kA (fun _ _ hx=>hh.eval hx) hxs)];refine⟨fun h=>by simp[FW]at h,dN.2 ((hF.2 w (OJ h4.agr I G)).mono ?_)⟩;rintro e' w' ⟨v',D',rfl,M,hpost⟩;have hs:=M.hide G (h4.agr.ne0 G);have hle:=fU h4.agr hs;have hDb:D' b=cells:=(M.dold b (bK I)).trans (aYJ rfl);refine⟨fun _=>hs.keep bad,kk _ D' _ (fun D₁ hD₁=>(h5 D₁ hD₁).trans hle) hpost (aXR ⟨b,rfl,hDb⟩) _ _ (Hl.put ⟨h1,h2,h3,fK D' b [],h4.after hs,fun D₁ hD₁=>?_,R.step (fun _ p hp=>aYF (n4.2 ⟨p,hp,rfl⟩)) (fun _=>hs.low _) (h4.after hs).dom⟩ hN _)⟩;rcases GE.1 hD₁ with rfl|hD₁
  ·exact Le.refl _
  ·exact(h5 D₁ hD₁).trans hle
end
def NoS{α:Type}(R:Rd α):Prop:=(∀D D' x cs,R D x cs→R D' x cs)∧∀D x cs,R D x cs→∃c t,cs=c::t∧∀s,c≠.string s
theorem _root_.Go.Fs.Sl.hid{α:Type}{R:Rd α}(hR:NoS R){D' D:aC}{ls:List ByteArray}(h:aXD D' D (ls.map Value.string)){sz:Nat}{v:Value}{xs:List α}(hS:Sl D' R sz v xs):Sl D R sz v xs:=by
 rcases h with rfl|⟨b,rfl,hb⟩
 ·exact hS
 ·obtain⟨a,cap,hv,h1,h2,h3⟩:=hS;refine⟨a,cap,hv,h1,h2,?_⟩;cases xs with
  |nil=>exact aYF rfl
  |cons x xs=>
   refine aXR ?_;rcases h3 with h3|⟨G,o,ha,he⟩
   ·cases h3
   ·have hne:G≠b:=by
     rintro rfl;obtain⟨cs,hr,_,hA⟩:=he 0 x rfl;obtain⟨c,t,rfl,hn⟩:=hR.2 _ _ _ hr;have h5:=hA 0 c rfl;rw[hb]at h5;obtain⟨s,_,hs⟩:=n4.1 (LT h5);exact hn s hs.symm
    refine⟨G,o,ha,fun i y hy=>?_⟩;obtain⟨cs,hr,hl,hA⟩:=he i y hy;exact⟨cs,hR.1 _ _ _ _ hr,hl,fun j u hj=>by unfold fK;rw[aYC hne];exact hA j u hj⟩
theorem _root_.Go.Fs.fN.hid{D' D:aC}{ls:List ByteArray}(h:aXD D' D (ls.map Value.string)){v:Value}{s:aQ}(hS:fN D' v s):fN D v s:=by
 obtain⟨pv,cv,hv,lv,mv,bl,bc,yc,yq,e,h1,h2,h3,h4,h5,G,I,M,h9⟩:=hS;exact⟨pv,cv,hv,lv,mv,bl,bc,yc,yq,e,h1.hid ⟨fun _ _ _ _ h=>h,fun _ _ _ h=>⟨_,_,h,fun _ e=>by cases e⟩⟩ h,h2.hid ⟨fun _ _ _ _ h=>h,fun _ _ _ h=>⟨_,_,h,fun _ e=>by cases e⟩⟩ h,h3.hid ⟨fun _ _ _ _ h=>h,fun _ _ _ h=>⟨_,_,h,fun _ e=>by cases e⟩⟩ h,h4.hid ⟨fun _ _ _ _ h=>h,fun _ _ _ h=>⟨_,_,h,fun _ e=>by cases e⟩⟩ h,h5.hid ⟨fun _ _ _ _ h=>h,fun _ _ _ h=>⟨_,_,h,fun _ e=>by cases e⟩⟩ h,G.hid ⟨fun _ _ _ _ h=>h,fun _ _ _ h=>⟨_,_,h,fun _ e=>by cases e⟩⟩ h,I.hid ⟨fun _ _ _ _ h=>h,fun _ _ _ h=>⟨_,_,h,fun _ e=>by cases e⟩⟩ h,M.hid ⟨fun _ _ _ _ h=>h,fun _ _ _ h=>⟨_,_,h,fun _ e=>by cases e⟩⟩ h,h9.hid ⟨fun _ _ _ _ h=>h,fun _ _ _ h=>⟨_,_,h,fun _ e=>by cases e⟩⟩ h⟩
def lW(bs:List UInt8):List ByteArray:=(tE 40 0 0 bs).map (·.1)
def Y3(bs:List UInt8)(more:List ByteArray):List ByteArray:=lW bs++A9 (nS (lW bs)).1 more
def tH(bs:List UInt8)(more:List ByteArray):List UInt8×Int:=if fP more≠0 then([],fP more)else if 40<(Y3 bs more).length then([],3)else(oU (iP (Y3 bs more)),0)
theorem G3(bs:List UInt8):(lW bs).length≤40:=by unfold lW;rw[aZL];exact P4 40 0 0 bs
theorem TC:∀(f i p:Nat) (b:List UInt8),∀x∈tE f i p b,x.1.size≤50
 |0,_,_,_,_,h=>by cases h
 |f+1,i,p,b,x,h=>by
  unfold tE at h;split at h
  ·cases h
  ·rename_i l hl;rcases GE.1 h with rfl|h
   ·exact(AV hl).1
   ·exact TC f _ _ b x h
theorem EO(bs:List UInt8):∀l∈lW bs,l.size≤50:=fun l hl=>by
 obtain⟨x,hx,rfl⟩:=n4.1 hl;exact TC 40 0 0 bs x hx
theorem p4:∀(ls:List ByteArray) (s:aQ),(A9 s ls).length≤ls.length
 | [],_=>aYI _
 |l::ls,s=>by
  have h1:=p4 ls (uF s l).1;rw[A9];split
  ·rw[aXY,aXY];omega
  ·rw[aXY];omega
theorem AJ:∀(ls:List ByteArray) (s:aQ),∀x∈A9 s ls,x∈ls
 | [],_,_,h=>h
 |l::ls,s,x,h=>by
  rw[A9]at h;split at h
  ·rcases GE.1 h with rfl|h
   ·exact aXW
   ·exact LE _ (AJ ls _ x h)
  ·exact LE _ (AJ ls _ x h)
theorem LX(ms:List ByteArray):∀(ls:List ByteArray) (s:aQ),A9 s (ls++ms)=A9 s ls++A9 (mR s ls) ms
 | [],_=>rfl
 |l::ls,s=>by
  rw[aZV,A9,A9,ZZ,LX ms ls];split
  ·rfl
  ·rfl
theorem DA{ls:List ByteArray}{k:Nat}{x:ByteArray}(h:ls[k]?= some x)(s:aQ):A9 s (ls.take (k+1))=A9 s (ls.take k)++(if(uF (mR s (ls.take k)) x).2=0 then [x]else []):=by
 rw[aYG,h,LX];rfl
theorem CF{ls:List ByteArray}{k:Nat}{x:ByteArray}(h:ls[k]?= some x){s:aQ}:mR s (ls.take (k+1))=(uF (mR s (ls.take k)) x).1:=by
 rw[aYG,h,aDA];rfl
theorem XU(bs:List UInt8)(more:List ByteArray):(Y3 bs more).length≤40+more.length:=by
 have h1:=G3 bs;have h2:=p4 more (nS (lW bs)).1;unfold Y3;rw[GT];omega
theorem aFX{bs:List UInt8}{more:List ByteArray}(hf:fP more=0):∀l∈Y3 bs more,l.size≤50:=fun l hl=>by
 rcases aYD.1 hl with h|h
 ·exact EO bs l h
 ·exact P0 hf l (AJ _ _ l h)
theorem aII{q:Nat}{o:Obj}{G:Nat×Obj}{ν:aD}(h:(aD.ks ((q,o)::([G]++ν++[]))).Nodup):∀p∈ν,p.1∉[q]:=by
 intro p hp hm;obtain rfl:p.1=q:=by simpa using hm
 exact(aZI.1 h).1 (n4.2 ⟨p,by simp[hp],rfl⟩)
structure aVY where
 (k:Nat) (s:aQ) (es:List ByteArray) (pv cv hv lv mv bl bc yc yq v:Value) (ν:aD) (Dn:aC)
theorem X0(bv:Value)(bs:List UInt8)(D:aC)(hS:Sl D RU 1 bv bs)(hb:bs.length≤1000000000):MZ prog 15 #[bv] D (fun _D' v ν=>∃lv,v=.tuple #[lv,qI (aMZ (tE 40 0 0 bs):Int)]∧bZ 9 1 lv ((tE 40 0 0 bs).map (·.1)).length (((tE 40 0 0 bs).map (·.1)).map Value.string) ν):=by
 refine VA 17 func15 rfl rfl rfl rfl fun h0=>aA<|Zw rfl aRZ rfl (fun q1=>Zw rfl dR rfl (fun q2=>bW<|Za rfl<|Zt rfl (fun V I=>OC _ bs _ (hS.up RU.up (I _ Ye)) hb) (fun M V I O=>aG<|Zar ?_)))
 obtain⟨br,rfl,hit⟩:=O;refine pY (γ:=Value×aD×Nat) (xs:=tE 40 0 0 bs) (enc:=aUH) (Dr:=V) (fun pre g=>bZ 9 1 g.1 (pre.map (·.1)).length ((pre.map (·.1)).map Value.string) g.2.1∧g.2.2=aMZ pre) (fun _ _ _=>False) (fun g=>[(q2,qC [qI (g.2.2:Int)] 3),(q1,qC [g.1] 22)]++g.2.1) (qN,[],0) rfl rfl rfl rfl hit Ye (fun _=>rfl) rfl ⟨bZ.nil,rfl⟩ rfl ?_ ?_ (fun _ _ _ _ h=>h.elim)
 ·rintro pre x ⟨v,ν,e⟩ ⟨us,hx⟩ ⟨hac,he⟩ l bd rec hh D7 hB hst hpend;obtain⟨sx,px⟩:=x;simp only at hac he;have hpl:pre.length<40:=by have h9:=P4 40 0 0 bs;rw[hx,GT,aXY]at h9;omega
  refine aA<|Zj rfl<|aG<|aX<|Zj rfl<|Zae ?_;refine fun a w hhh=>wT (A:=[(_,_),(_,_)]++ν) (B:=[(bd,.deferred (some []))]) (r:=rec) (l:=l) Yav hst ?_ a w hhh
  refine Zar<|aX<|Zp rfl QH rfl Mm1 rfl<|Za rfl<|Zn rfl U22 jC tf_z9 rfl (.cons rfl rfl .nil) (fun Y Z R T=>bE (A:=[(_,_),(_,_)]) (ν:=ν) (B:=[(l,_),(bd,_)]) rfl U22 rfl rfl jC tf_z9 rfl KJ rfl rfl rfl hac (mK.lit Ym) Ye rfl (by rw[aZL,bAF]) Yj (by rw[aZL];omega) (aYF rfl) rfl bCV (fun M ν1 G=>?_));have U:bZ 9 1 M ((pre++[(sx,px)]).map (·.1)).length (((pre++[(sx,px)]).map (·.1)).map Value.string) ν1:=by rw[aYE,GT,aYE];exact G
  refine Za rfl<|bJ rfl rfl rfl G.cells1 aEH (.tail .head) Ye rfl G.cell1 bCV<|Zm rfl aL (bO.head) rfl<|Zae<|Zat ?_;exact fun a w hh=>iA (A:=[(_,_),(_,_)]++ν1) (B:=[(bd,.deferred (some []))]) (M,ν1,px) ⟨U,(WT pre (sx,px)).symm⟩ rfl rfl a w hh
 ·rintro⟨v,ν,e⟩ bd ⟨hac,he⟩;dsimp only at hac he ⊢
  subst he;obtain⟨va,vn,vcap,rfl⟩:∃a n c,v=.slice a n c:=by rcases hac with⟨a1,h,_⟩|⟨b1,c1,j1,h,_⟩<;>exact⟨_,_,_,h⟩
  refine Zat<|Zap<|aO<|pR [] 1 4 6 (fun _ _ _ h=>h)<|Zp rfl QH rfl Mm1 rfl<|Zp rfl aI rfl Mm0 rfl<|o6 rfl rfl rfl rfl aEH (.tail bO.head) Ye rfl Yj bCV<|Zm rfl aL (bO.head) rfl<|aH<|zN ([(_,_),(_,_)]++ν++[]++[(bd,.deferred (some []))]) (by rw[aXS];rfl) ?_;exact j4 (vs:=[_,_]) (A:=[(_,_),(_,_)]) (ν':=ν) (B:=[]) rfl rfl rfl ⟨⟨_,_,_,rfl,Mm1,aYF ⟨QH,rfl⟩⟩,⟨_,_,_,rfl,bBU _,aYF ⟨aI,rfl⟩⟩,bCV⟩ (fun D hD=>⟨_,rfl,hac⟩)
theorem aAN(bv mv:Value)(bs:List UInt8)(more:List ByteArray)(D:aC)(hS:Sl D RU 1 bv bs)(hb:bs.length≤1000000000)(hM:Sl D RS 1 mv more)(hV:mY D):Fn prog 27 #[bv,mv] D (fun D' v=>∃T,v=.tuple #[T,qI (tH bs more).2]∧Sl D' RU 1 T (tH bs more).1):=by
 refine enter 55 func27 rfl rfl rfl rfl fun h0=>aA<|Zj rfl<|Zj rfl<|bW<|Za rfl<|Zc rfl (fun D1 hF=>sT _ more _ (hM.up RS.up (hF _ Ye)))<|Zj rfl<|aK<|Za rfl<|Zam rfl<|aG ?_;refine Zz rfl (fun G=>?_) (fun G=>?_)
 ·have hf:fP more≠0:=by simpa using G
  refine aA<|Za rfl<|Zj rfl<|Zj rfl<|aH<|Zas ?_;exact jK (vs:=[_,_]) rfl rfl rfl bA (fun D hD=>⟨qN,by rw[tH,aYJ hf];rfl,by rw[tH,aYJ hf];exact Sl.nil⟩)
 ·have hf:fP more=0:=by simpa using G
  have hm40:=S2 hf;refine aZ<|aA<|Za rfl<|fM rfl rfl rfl (fun D20 U=>X0 _ bs _ (hS.up RU.up (U _ Ye)) hb) rfl bCV (fun v20 D21 ν hD21 V=>?_);obtain⟨lw,rfl,hac⟩:=V;have hll:(lW bs).length≤40:=G3 bs;have hls:=EO bs;change bZ 9 1 lw (lW bs).length ((lW bs).map Value.string) ν at hac;refine Za rfl<|Zad rfl<|Zad rfl<|Zj rfl<|Zj rfl<|aK<|Za rfl<|QC (A:=[]) (B:=[]) rfl rfl rfl (by simpa using hac) (fun D30 Y Z=>UD _ (lW bs) _ (Z.strs rfl Yd) Yd (fun l hl=>by have:=hls l hl;omega) (hV.up (Y _ Ye))) rfl bCV (fun v30 D31 hH hD32 hB hid=>?_)
  obtain⟨w1,w2,rfl,hst, -⟩:=hB;obtain⟨pv,cv,hv,lv,mv,bl,bc,yc,yq,rfl,hL⟩:=hst.hid hid;have hI:=O6 (lW bs);unfold cR;rw[aYT];refine Za rfl<|Zad rfl<|Zad rfl<|Zw rfl lB rfl (fun q1=>aV rfl rfl rfl rfl dK Ya Ya (bO.head) (gU hL) bCV<|Zj rfl<|bW<|Za rfl<|Zab rfl U22 rfl hM rfl<|Za rfl<|aG<|Zar ?_);refine dB (γ:=aVY) (fun g=>more.length-g.k) (fun g=>g.k≤more.length∧g.s=mR (nS (lW bs)).1 (more.take g.k)∧g.es=lW bs++A9 (nS (lW bs)).1 (more.take g.k)∧bZ 9 1 g.v g.es.length (g.es.map Value.string) g.ν∧jM g.Dn g.s g.pv g.cv g.hv g.lv g.mv g.bl g.bc g.yc g.yq∧mW g.s) (fun g=>[(32,qI (g.k:Int)),(7,g.v)]) [(31,_),(30,_),(9,_),(5,_),(4,_)] (fun g=>[(q1,qC (cR g.s g.pv g.cv g.hv g.lv g.mv g.bl g.bc g.yc g.yq) 42)]++g.ν++[]) (fun g=>[g.Dn,D]) ⟨0,(nS (lW bs)).1,lW bs,pv,cv,hv,lv,mv,bl,bc,yc,yq,lw,ν,hH⟩ ⟨by simp,rfl,by simp[A9],hac,hL,hI⟩ ⟨Yb,Yb,bCV⟩ bA Mm5 (Yw) ?_;rintro⟨k,s,es,pv,cv,hv,lv,mv,bl,bc,yc,yq,v,ν,Dn⟩ ⟨h1,hs,hp,ha,hL,hk⟩;simp only at h1 hs hp ha hL hk;have hel:es.length≤80:=by rw[hp,GT];have h9:=p4 (more.take k) (nS (lW bs)).1;rw[aZJ]at h9;have:=G3 bs;omega
  refine aA<|Zai rfl<|bR<|Zz rfl (fun hc2=>?_) (fun hc2=>?_)
  ·simp only at hc2;have hlt:k<more.length:=by omega
   obtain⟨x,hx⟩:=dX more k;refine aZ<|aO<|Zar<|aA<|Zx rfl U22 jC rfl hM rfl hx (fun b1 o1 hJ hK hcl1 hN=>?_);obtain rfl:hJ=[.string _]:=hK;refine Zf 0 rfl I9 rfl hN rfl<|Zj rfl<|aK<|Zy rfl iU rfl Mm0 dK<|Za rfl<|Zt rfl (fun D2 I=>aQW _ s x _ ⟨pv,cv,hv,lv,mv,bl,bc,yc,yq,rfl,hL.up (I _ Ye)⟩ hk (by have:=P0 hf x (LT hx);omega) (hV.up (I _ Ye))) (fun v2 D2 I hO=>?_)
   obtain⟨w1,rfl,hR,hX,hY,rA,rB,bl2,bc2,yc2,yq2,rfl,M⟩:=hO;have hk2:=RF hk x;unfold cR;refine Za rfl<|Zad rfl<|Zad rfl<|Zw rfl lB rfl (fun q2=>aV rfl rfl rfl rfl dK Ya Ya (bO.head) (gU M) bCV<|Zj rfl<|aK<|Za rfl<|Zan rfl<|aG<|Zz rfl (fun O=>?_) (fun O=>?_))
   ·have hz:(uF s x).2=0:=by simpa using O
    refine xP (fun hnd=>?_);have hnu:∀p∈ν,p.1∉[q2]:=aII hnd;have hq2:q2∉eQ.mk [q2]:=eQ.out Ye;refine bM (eQ.mk [q2]) 3 7 30<|bT rfl iU rfl Mm0 dK Yn rfl bCV<|Za rfl<|Za rfl<|Zn rfl U22 jC tf_z9 rfl (.cons rfl rfl .nil) (fun b901 D901 hD901 R=>bE (A:=[(_,_),(_,_)]) (B:=[]) rfl U22 rfl rfl jC tf_z9 rfl KJ rfl rfl rfl ha (mK.lit R) Ye rfl Ye Yj Yd (aXR (fun p hp=>eQ.in_ (hnu p hp))) rfl bCV (fun T ν1 ha1=>?_));have ha2:bZ 9 1 T (es++[x]).length ((es++[x]).map Value.string) ν1:=by rw[GT,aYE];exact ha1
    refine aJ ((q2,_)::(q1,_)::(ν1++[])) rfl<|aV rfl rfl rfl rfl dK Ya Ya (.tail (bO.head)) (gU M) bCV<|Zj rfl<|Zae<|Zat<|Zap<|aX<|Zaa rfl<|Za rfl<|Zae ?_;exact aM 24 ⟨k+1,(uF s x).1,es++[x],hR,hX,hY,rA,rB,bl2,bc2,yc2,yq2,T,ν1,D2⟩ ⟨by simp only;omega,by simp only;rw[CF hx,hs],by simp only;rw[hp,DA hx,←hs,aYJ hz,aYA],ha2,M,hk2⟩ Yo ⟨Yb,Yb,bCV⟩ rfl rfl (List.Sublist.cons _ Mm5) (Yw)
   ·have hz:(uF s x).2≠0:=by simpa using O
    refine cB<|Zat<|Zap<|aX<|Zaa rfl<|Za rfl<|Zae ?_;exact aM 18 ⟨k+1,s,es,pv,cv,hv,lv,mv,bl,bc,yc,yq,v,ν,Dn⟩ ⟨by simp only;omega,by simp only;rw[CF hx,←hs];exact(aRE hz).symm,by simp only;rw[hp,DA hx,←hs,aYC hz,aXS],ha,hL,hk⟩ Yo ⟨Yb,Yb,bCV⟩ rfl rfl (List.Sublist.cons _ Mm5) (Yw)
  ·obtain rfl:k=more.length:=by simp only at hc2;omega
   rw[aZB]at hp hs;have hek:es=Y3 bs more:=hp;subst hek;have hkl:=XU bs more;refine aT<|Zaq<|Zaq<|Zau<|Zap<|dV<|Za rfl<|fC rfl U22 rfl ha rfl rfl bCV<|iH rfl rfl rfl rfl bCV<|aG<|Zz rfl (fun hc4=>?_) (fun hc4=>?_)
   ·refine aA<|Zj rfl<|Zj rfl<|aH<|Zas ?_;exact jK (vs:=[_,_]) rfl rfl rfl bA (fun D hD=>⟨qN,by rw[tH,aYC Yd,aYJ Yd];rfl,by rw[tH,aYC Yd,aYJ Yd];exact Sl.nil⟩)
   ·refine aZ<|aO<|sH (A:=[(_,_)]) (B:=[]) ha rfl (fun D8 hD8 hF8=>?_);have hks:=hF8.strs (l:=Y3 bs more) rfl Yd;refine aX<|Za rfl<|Zt rfl (fun D3 hE=>VK _ (Y3 bs more) _ (hks.up RS.up (hE _ Ye)) Yd (fun l hl=>by have:=aFX hf l hl;omega)) (fun v3 D3 hE hp3=>Zj rfl<|Zj rfl<|aH ?_)
    exact jK (vs:=[_,_]) rfl rfl rfl bA (fun D hD=>⟨v3,by rw[tH,aYC Yd,aYC Yd];rfl,by rw[tH,aYC Yd,aYC Yd];exact hp3.up RU.up (hD _ Ye)⟩)
end L12
namespace L12
open C12 Go.Lib
theorem q9(ls:List ByteArray):(iP ls).length=ls.length:=aZL _
end L12
namespace L12
open C12 Go.Lib
end L12
end Go.Fs
