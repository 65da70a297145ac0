/- Of the proof of BookStops: BW46. -/
import Derived.Test.YtbaniakdgogjeaaGreatDoorZBookStopsAO
namespace Go.Fs
open Go.Proofs
namespace L12
open C12 Go.Lib
theorem S9:∀(f i p:Nat) (b:List UInt8),(tY f i p b).map (fun x=>x.1.data.toList)=J9 f i (b.drop p)
 |0,_,_,_=>rfl
 |f+1,i,p,b=>by
  unfold tY J9;cases fX i (b.drop p)with
  |none=>rfl
  |some l=>
   simp only[aLB];rw[S9 f (i+1) (p+9+l.length) b,aEU,show p+(9+l.length)=p+9+l.length by omega]
def aEH(p:Nat)(l:List (ByteArray×Nat)):Nat:=match l.getLast? with|none=>p|some x=>x.2
theorem KZ(p:Nat)(x:ByteArray×Nat)(l:List (ByteArray×Nat)):aEH p (x::l)=aEH x.2 l:=by
 unfold aEH;rw[List.getLast?_cons];cases l.getLast? <;>rfl
theorem y0:∀(f i p:Nat) (b:List UInt8),aEH p (tY f i p b)=p+nQ ((tY f i p b).map (fun x=>x.1.data.toList))
 |0,_,_,_=>rfl
 |f+1,i,p,b=>by
  unfold tY;cases fX i (b.drop p)with
  |none=>rfl
  |some l=>
   simp only[aLB];rw[KZ,y0 f (i+1) (p+9+l.length) b,nQ];omega
theorem S0:∀{a b:List ByteArray},eU a=eU b→a=b
 | [],[],_=>rfl
 | [],_::_,h=>by cases h
 |_::_,[],h=>by cases h
 |x::a,y::b,h=>by
  simp only[eU,aLB,aLS]at h;rw[Go.WideShapes.bytes_inj h.1,S0 (a:=a) (b:=b) h.2]
theorem EG(l:List (ByteArray×Nat)):l.map (fun x=>x.1.data.toList)=eU (l.map (·.1)):=by unfold eU;rw[aJJ];rfl
theorem l0{ls:List ByteArray}(hf:dW ls=0):∀l∈eU ls,l.length≤50:=fun l hl=>by
 obtain⟨x,hx,rfl⟩:=aJY.1 hl;exact F0 hf x hx
theorem zP(ls:List ByteArray):(eU ls).length=ls.length:=aMI _
theorem AU{ls:List ByteArray}(hf:dW ls=0):(tY 40 0 0 (rH (eU ls))).map (·.1)=ls∧PU (tY 40 0 0 (rH (eU ls)))=(rH (eU ls)).length:=by
 have h1:=S9 40 0 0 (rH (eU ls));rw[aOA,WD (by rw[zP];exact tH hf) (l0 hf)]at h1
 have h2:=y0 40 0 0 (rH (eU ls));rw[h1,aNB]at h2;refine⟨S0 (by rw[←EG];exact h1),h2.trans (f5 (eU ls) 0).symm⟩
theorem FG(ls:List ByteArray)(k:Nat):(eU ls).take k=eU (ls.take k):=by unfold eU;rw[List.map_take]
theorem LX{ls:List ByteArray}(hf:dW ls=0)(n:Nat):∃k,k≤ls.length∧(tY 40 0 0 (List.take n (rH (eU ls)))).map (·.1)=ls.take k∧PU (tY 40 0 0 (List.take n (rH (eU ls))))=nQ ((eU ls).take k)∧nQ ((eU ls).take k)≤n∧∀x,ls[k]?= some x→n<nQ ((eU ls).take k)+9+x.size:=by
 obtain⟨k,hk,h2,h3,h4⟩:=FC (eU ls) 40 0 n (l0 hf) (by rw[zP];exact tH hf);rw[zP]at hk;have h1:=S9 40 0 0 (List.take n (rH (eU ls)));rw[aOA]at h1;have h5:=h1.trans h2;have h6:=y0 40 0 0 (List.take n (rH (eU ls)));rw[h5,aNB]at h6;exact⟨k,hk,S0 (by rw[←EG,←FG];exact h5),h6,h3,fun x hx=>h4 _ (EL hx)⟩
theorem RR{ls:List ByteArray}(hf:dW ls=0):(rH (eU ls)).length≤2360:=by
 have h:=wX (eU ls) 0 50 (l0 hf);rw[zP]at h;have:=tH hf;exact aMU h Yd
theorem g9{ls:List ByteArray}{k:Nat}(h:k<ls.length):ls[k]?= some (ls.getD k ⟨#[]⟩):=by
 rw[aMD,aJT h];rfl
theorem TB{ls:List ByteArray}(hf:dW ls=0)(k:Nat):(ls.getD k ⟨#[]⟩).size≤50:=by
 by_cases h:k<ls.length
 ·exact F0 hf _ (aJV (g9 h))
 ·rw[aMD,aNE Yd];exact aET _
theorem o5:∀(a:List (List UInt8)) (l:List UInt8),nQ (a++[l])=nQ a+9+l.length
 | [],l=>by simp[nQ]
 |x::a,l=>by rw[aML,nQ,o5 a l,nQ];omega
theorem NV{ls:List ByteArray}{i:Nat}{x:ByteArray}(h:ls[i]?= some x):nQ ((eU ls).take (i+1))=nQ ((eU ls).take i)+9+x.size:=by
 rw[aKL,EL h,aLZ,o5];rfl
theorem BX{ls:List ByteArray}(hf:dW ls=0)(i:Nat):nQ ((eU ls).take i)≤2360:=by
 have h1:=wX ((eU ls).take i) 0 50 (fun l hl=>l0 hf l (aJP hl));rw[f5,aMJ,zP]at h1;have:=tH hf;exact aMU h1 Yd
theorem MG{ls:List ByteArray}{n k:Nat}(hkt:(ls.take k).length=k)(hk:k≤ls.length)(_h3:nQ ((eU ls).take k)≤n)(h4:∀x,ls[k]?= some x→n<nQ ((eU ls).take k)+9+x.size):(Value.bool (((decide (ls.take k=ls.take (ls.take k).length)&&decide ((nQ ((eU ls).take k):Int)=(nQ ((eU ls).take k):Int)))&&(decide (((ls.take k).length:Int)=(ls.length:Int))||decide ((nQ ((eU ls).take k):Int)+9+((ls.getD (ls.take k).length ⟨#[]⟩).size:Int)>(n:Int))))&&true))=.bool true:=by
 rw[hkt];congr 1;simp only[decide_true,aNI,Bool.and_true,aLP,aKU];by_cases h:k=ls.length
 ·exact aKP Yd
 ·have:=h4 _ (g9 Yd);exact aKB Yd
theorem CS(lv:Value)(ls:List ByteArray)(c:Int)(hc:0≤c∧c≤65535)(D:aA)(hS:Sl D RS 1 lv ls)(hV:kG D):Fn Tryz.prog 4 #[lv,.int .u16 c] D (fun _ v=>v=.bool true):=by
 obtain⟨la,lcap,rfl⟩:=hS.shape;have hsl:=hS.len;refine enter 121 Tryz.func4 rfl rfl rfl rfl fun h0=>C.s1<|Zi rfl<|L.n4<|Za rfl<|Ze rfl (fun D1 hD1=>JR _ ls _ (hS.up RS.up (hD1 _ Ye)))<|Zaf rfl<|Za rfl ?_
 refine' iE [(false,4),(false,5),(false,6),(false,7)] [] (s:=17) (p:=21) rfl rfl (fun hg1=>?_) (fun hg1=>?_) ?_;rotate_left
 ·refine Zb rfl<|Zf rfl (fun D2 hD2=>EJ _ ls _ (hS.up RS.up (hD2 _ Ye)))<|eQ rfl rfl rfl rfl ⟨_,rfl,rfl⟩<|Zac rfl ?_;exact L.cu 3
 ·refine Zl rfl<|Zl rfl<|Zl rfl<|Zab rfl ?_;exact L.cu 3
 refine L.n1<|aJ rfl (fun hc1=>?_) (fun hc1=>?_)
 ·refine C.s1<|Ze rfl (fun D3 hD3=>PY _ (hV.up (hD3 _ Ye)))<|Zi rfl<|L.n5<|Zaj ?_;exact Zc [_] rfl ⟨rfl,aEZ⟩ (fun D hD=>rfl)
 ·have hf0:dW ls=0:=by have h9:=hc1;simp only[aMM,aLW]at h9;omega
  have h40:=tH hf0;have hBl:=RR hf0;refine C.kn<|C.s1<|Za rfl<|bU rfl rfl rfl (fun D4 hD4=>IT _ ls _ (hS.up RS.up (hD4 _ Ye)) Yd) rfl aEZ (fun v4 D4 hD4 hp4=>?_);have hq:=hp4;refine bU rfl rfl rfl (fun D5 hD5=>RA _ ls _ (hq.up RS.up (hD5 _ Ye))) rfl aEZ (fun v5 D5 hD5 hp5=>?_);obtain⟨wv,rfl,hwb⟩:=hp5;rw[aKS hf0]at hwb;obtain⟨wa,wcap,rfl⟩:=hwb.shape;refine Za rfl<|Zaa rfl<|Zaa rfl<|Zi rfl<|Zi rfl<|L.n4<|Za rfl<|eQ rfl rfl rfl rfl trivial<|L.n1<|aF rfl (fun hc2=>?_) (fun hc2=>?_)
  ·exact absurd hf0 hc2
  ·refine C.kn<|C.s1<|Za rfl<|Z3 rfl U51 U3 rfl Yf rfl trivial<|Za rfl<|aW rfl U53 rfl hwb rfl rfl trivial<|Zy rfl ?_;obtain⟨n,hn⟩:=Int.eq_ofNat_of_zero_le (Int.emod_nonneg c (show(((rH (eU ls)).length:Int)+1)≠0 by omega));have hnl:n≤(rH (eU ls)).length:=by have:=Int.emod_lt_of_pos c (show(0:Int)<((rH (eU ls)).length:Int)+1 by omega);omega
   refine zR rfl rfl rfl Yd Yd (by rw[hn];simp only[rP];omega) rfl aEZ ?_;rw[hn];obtain⟨k,hkl,hq1,hq2,hq3,hq4⟩:=LX hf0 n;have hkt:(ls.take k).length=k:=by rw[aMJ];omega
   refine Zi rfl<|L.n3<|Za rfl<|aX (A:=[]) (ν:=[]) (B:=[]) rfl U53 rfl rfl Tf.s5 Tf.z5 rfl Tf.i5 rfl rfl rfl bR.nil (jN.bytes hwb) Ye (by rw[iY,aND]) rfl (hP _) Yd (aKP rfl) rfl aEZ (fun va7 νa7 haa7=>?_);have hab7:bR 5 1 va7 (rH (eU ls)).length (bc (rH (eU ls))) νa7:=by simpa using haa7
   refine aBA (A:=[]) (B:=[]) hab7 rfl (fun Da7 hDa7 hFa7=>?_);have hba7:Sl Da7 RU 1 va7 (rH (eU ls)):=hFa7.bytes rfl Yd;refine bU rfl rfl rfl (fun D6 hD6=>o4 _ (rH (eU ls)) _ (hba7.up RU.up (hD6 _ Ye)) Yd) rfl aEZ (fun v6 D6 hD6 hp6=>?_);obtain⟨lv1,rfl,hl1⟩:=hp6;rw[(AU hf0).1]at hl1;rw[(AU hf0).2];refine Za rfl<|Zaa rfl<|Zaa rfl<|Zi rfl<|Zi rfl<|L.n3<|Za rfl<|Za rfl<|y1 (j:=n) rfl U53 Tf.s5 rfl hwb rfl hnl rfl aEZ (fun wt hWT=>aX (A:=[]) (ν:=[]) (B:=[]) rfl U53 rfl rfl Tf.s5 Tf.z5 rfl Tf.i5 rfl rfl rfl bR.nil (jN.bytes hWT) Ye (by rw[iY,aND]) rfl (hP _) (by rw[aMJ];omega) (aKP rfl) rfl aEZ (fun va8 νa8 haa8=>?_))
   have hab8:bR 5 1 va8 (List.take n (rH (eU ls))).length (bc (List.take n (rH (eU ls)))) νa8:=by simpa using haa8
   refine aBA (A:=[]) (B:=[]) hab8 rfl (fun Da8 hDa8 hFa8=>?_);have hba8:Sl Da8 RU 1 va8 (List.take n (rH (eU ls))):=hFa8.bytes rfl (by rw[aMJ];omega)
   refine bU rfl rfl rfl (fun D7 hD7=>o4 _ (List.take n (rH (eU ls))) _ (hba8.up RU.up (hD7 _ Ye)) (by rw[aMJ];omega)) rfl aEZ (fun v7 D7 hD7 hp7=>?_);obtain⟨lv2,rfl,hl2⟩:=hp7;rw[hq1]at hl2;rw[hq2];refine Za rfl<|Zaa rfl<|Zaa rfl<|Zi rfl<|Zi rfl<|L.n4<|Za rfl<|Za rfl<|aW rfl U53 rfl hwb rfl rfl trivial<|eQ rfl rfl rfl rfl trivial<|Za rfl ?_;refine' iE [(false,5),(false,6),(false,7),(false,8),(false,9)] [(false,10),(false,11),(false,12),(false,13),(false,14),(false,15),(false,16),(false,17),(false,18),(false,19),(false,20),(false,21)] (s:=55) (p:=60) rfl rfl (fun hg2=>?_) (fun hg2=>?_) ?_;rotate_left
   ·refine Zb rfl<|Zb rfl<|Zf rfl (fun D8 hD8=>n7 _ _ ls ls _ (hl1.up RS.up (hD8 _ Ye)) (hS.up RS.up (hD8 _ Ye)))<|jT rfl rfl rfl ⟨_,rfl,rfl⟩<|Zac rfl ?_;exact L.cu 4
   ·refine Zl rfl<|Zl rfl<|Zl rfl<|Zl rfl<|Zab rfl ?_;exact L.cu 4
   refine Za rfl ?_;refine' iE [(false,11),(false,12),(false,13),(false,14),(false,15),(false,16)] [(false,17),(false,18),(false,19),(false,20),(false,21)] (s:=61) (p:=67) rfl rfl (fun hg3=>?_) (fun hg3=>?_) ?_;rotate_left
   ·refine Zb rfl<|aW rfl U22 rfl hl2 rfl rfl ⟨_,rfl,rfl⟩<|Zb rfl<|aW rfl U22 rfl hS rfl rfl ⟨_,rfl,rfl⟩<|eR rfl rfl rfl rfl ⟨_,rfl,rfl⟩<|Zac rfl ?_;exact L.cu 5
   ·refine Zl rfl<|Zl rfl<|Zl rfl<|Zl rfl<|Zl rfl<|Zab rfl ?_;exact L.cu 5
   refine Za rfl ?_;refine' iE [(false,18),(false,19),(false,20),(false,21)] [] (s:=68) (p:=72) rfl rfl (fun hg4=>?_) (fun hg4=>?_) ?_;rotate_left
   ·refine Zb rfl<|Zb rfl<|eR rfl rfl rfl rfl ⟨_,rfl,rfl⟩<|Zac rfl ?_;exact L.cu 3
   ·refine Zl rfl<|Zl rfl<|Zl rfl<|Zab rfl ?_;exact L.cu 3
   refine L.n1<|aJ rfl (fun hc3=>?_) (fun hc3=>?_)
   ·exact absurd hc3 Yac
   ·refine C.kn<|C.s1<|Zi rfl<|L.n4<|Zi rfl<|L.n1<|Zai<|cN (γ:=Nat) (fun i=>k-i) (fun i=>i≤k) (fun i=>[(13,.int .i64 (i:Int)),(12,.int .i64 (nQ ((eU ls).take i):Int))]) [(11,_),(10,_),(7,_),(4,_),(0,_)] (fun i=>[D7,Da8,D6,Da7,D5,D4,D]) 0 Ye ⟨Yb,Yb,aEZ⟩ C.rs (aD) ?_;rintro i h1;refine C.s2<|Za rfl<|Za rfl<|aW rfl U22 rfl hl2 rfl rfl trivial<|Zae rfl<|L.n1<|aF rfl (fun hc4=>?_) (fun hc4=>?_)
    ·have hi:i<k:=by omega
     obtain⟨x,hx⟩:∃x,ls[i]?= some x:=⟨_,aJT Yd⟩
     have hx50:x.size≤50:=F0 hf0 x (aJV hx);have hz:=BX hf0 i;refine C.kn<|aCX<|Zai<|C.rg<|Za rfl<|Za rfl<|Za rfl<|Zt rfl U22 Tf.s9 rfl hS rfl hx (fun b1 o1 cs1 hr1 hcl1 hA1=>?_);obtain rfl:cs1=[.string _]:=hr1;refine Zg 0 rfl Tf.a9 rfl hA1 rfl<|gH rfl U9 rfl rfl rfl trivial<|Zy rfl<|Zy rfl<|Zi rfl<|Zz<|Zak<|Zag<|C.rg<|Za rfl<|Zy rfl<|Zi rfl ?_;refine Zz ?_;exact aH 18 (i+1) Yd Yd ⟨rfl,(by show some (Value.int _ _)=some (Value.int _ _);congr 2;rw[NV hx];omega),aEZ⟩ rfl rfl (aJU _) (aD)
    ·obtain rfl:k=i:=by omega
     have hgd:=TB hf0 (ls.take k).length;refine aR<|Zah<|Zah<|Zal<|Zag<|C.s1<|Za rfl<|Za rfl<|Za rfl<|aW rfl U22 rfl hl2 rfl rfl trivial<|y1 (j:=(ls.take k).length) rfl U22 Tf.s9 rfl hS rfl Yd rfl aEZ (fun ta hTA=>Ze rfl (fun D9 hD9=>n7 _ _ (ls.take k) (ls.take (ls.take k).length) _ (hl2.up RS.up (hD9 _ Ye)) (hTA.up RS.up (hD9 _ Ye))) ?_);refine Za rfl ?_;refine' cQ [(false,7),(false,8),(false,9),(false,10)] [(false,11),(false,12),(false,13),(false,14),(false,15),(false,16),(false,17),(false,18),(false,19),(false,20),(false,21),(false,22),(false,23),(false,24),(false,25),(false,26),(false,27),(false,28),(false,29),(false,30),(false,31),(false,32),(false,33),(false,34)] (s:=93) (p:=97) rfl rfl (fun hg5=>?_) (fun hg5=>?_) ?_;rotate_left
     ·refine Zb rfl<|Zb rfl<|dH rfl rfl rfl rfl ⟨_,rfl,rfl⟩<|Zab rfl ?_;exact L.cu 3
     ·refine Zl rfl<|Zl rfl<|Zl rfl<|Zac rfl ?_;exact L.cu 3
     refine Za rfl ?_;refine' cQ [(false,12),(false,13),(false,14),(false,15),(false,16),(false,17),(false,18),(false,19),(false,20),(false,21),(false,22),(false,23),(false,24),(false,25),(false,26),(false,27),(false,28),(false,29),(false,30)] [(false,31),(false,32),(false,33),(false,34)] (s:=98) (p:=117) rfl rfl (fun hg6=>?_) (fun hg6=>?_) ?_;rotate_left
     ·refine Zb rfl<|aW rfl U22 rfl hl2 rfl rfl ⟨_,rfl,rfl⟩<|Zb rfl<|aW rfl U22 rfl hS rfl rfl ⟨_,rfl,rfl⟩<|dH rfl rfl rfl rfl ⟨_,rfl,rfl⟩<|Zb rfl ?_;refine' iE [(false,18),(false,19),(false,20),(false,21),(false,22),(false,23),(false,24),(false,25),(false,26),(false,27),(false,28),(false,29)] [(false,30)] (s:=104) (p:=116) rfl rfl (fun hg7=>?_) (fun hg7=>?_) ?_;rotate_left
      ·refine Zb rfl<|rI rfl rfl rfl Yf rfl ⟨_,rfl,rfl⟩<|Zb rfl<|Zb rfl<|aW rfl U22 rfl hl2 rfl rfl ⟨_,rfl,rfl⟩<|cR rfl U22 Tf.s9 rfl hS rfl Yd (g9 (k:=(ls.take k).length) (by first|omega|(simp at *;omega))) rfl ⟨_,rfl,rfl⟩ (fun b2 o2 cs2 hr2 hcl2 hA2=>?_);obtain rfl:cs2=[.string _]:=hr2;refine Zh 0 rfl Tf.a9 rfl hA2 rfl<|gH rfl U9 rfl rfl rfl ⟨_,rfl,rfl⟩<|rI rfl rfl rfl Yf rfl ⟨_,rfl,rfl⟩<|Zb rfl<|eR rfl rfl rfl rfl ⟨_,rfl,rfl⟩<|mS rfl rfl rfl rfl ⟨_,rfl,rfl⟩ ?_;exact L.cu 11
      ·refine Zl rfl<|Zl rfl<|Zl rfl<|Zl rfl<|Zl rfl<|Zl rfl<|Zl rfl<|Zl rfl<|Zl rfl<|Zl rfl<|Zl rfl<|mZ rfl rfl rfl rfl ⟨_,rfl,rfl⟩ ?_;exact L.cu 11
      refine Zab rfl ?_;exact L.cu 7
     ·refine Zl rfl<|Zl rfl<|Zl rfl<|Zl rfl<|Zl rfl<|Zl rfl<|Zl rfl<|Zl rfl<|Zl rfl<|Zl rfl<|Zl rfl<|Zl rfl ?_;refine Zl rfl<|Zl rfl<|Zl rfl<|Zl rfl<|Zl rfl<|Zl rfl<|Zac rfl ?_;exact L.cu 18
     refine Za rfl ?_;refine' cQ [(false,32),(false,33)] [(false,34)] (s:=118) (p:=120) rfl rfl (fun hg8=>?_) (fun hg8=>?_) ?_;rotate_left
     ·refine Zf rfl (fun D10 hD10=>PY _ (hV.up (hD10 _ Ye)))<|Zab rfl ?_;exact L.cu 1
     ·refine Zl rfl<|Zac rfl ?_;exact L.cu 1
     refine Zi rfl<|L.n5 ?_;exact Zc [_] rfl ⟨rfl,aEZ⟩ (fun D hD=>MG hkt hkl hq3 hq4)
end L12
end Go.Fs
