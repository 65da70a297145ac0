/- Of the proof of BookStands: BW31. -/
import Derived.Test.YthchgbimdmiemaaGreatDoorZBookStandsAO
namespace Go.Fs
open Go.Proofs
namespace L12
open C12 Go.Lib
theorem IM{s:aN}(h:dG s=0)(line:ByteArray):dG (uA s line).1=0:=by
 unfold uA;split
 ·exact h
 ·split
  ·exact h
  ·split
   ·rename_i h2;exact h2
   ·exact h
theorem j9:dG yA=0:=by decide+kernel
theorem K6{I:aN→Prop}(hI:∀s l,I s→I (uA s l).1):∀(ls:List ByteArray) (p:aN×List Int),I p.1→I (ls.foldl (fun p l=>((uA p.1 l).1,p.2++[(uA p.1 l).2])) p).1
 | [],_,h=>h
 |l::ls,_p,h=>K6 hI ls _ (hI _ l h)
theorem FC{I:aN→Prop}(hI:∀s l,I s→I (uA s l).1)(h0:I yA)(ls:List ByteArray):I (mM ls).1:=K6 hI ls _ h0
theorem AU(ls:List ByteArray):dG (mM ls).1=0:=FC (I:=fun s=>dG s=0) (fun _ l h=>IM h l) j9 ls
theorem y7{s:aN}(h:dG s=0):C1.dA s.row true=0∧C2.aT s.table=0∧C2.jH s.table true=0∧C3.aT s.book=0∧C7.aT s.yard=0∧(L7.eA s.yard).2=0:=by
 unfold dG at h;split at h
 ·cases h
 ·split at h
  ·cases h
  ·split at h
   ·cases h
   ·split at h
    ·cases h
    ·split at h
     ·cases h
     ·split at h
      ·cases h
      ·rename_i h1 h2 h3 h4 h5 h6;exact⟨aJN.1 h1,aJN.1 h2,aJN.1 h3,aJN.1 h4,aJN.1 h5,aJN.1 h6⟩
theorem DB{s:aN}(h:dG s=0):((((decide (C1.dA s.row true=0)&&decide (C2.jH s.table true=0))&&decide (C3.aT s.book=0))&&decide ((L7.eA s.yard).2=0))&&true)=true:=by
 obtain⟨h1,h2,h3,h4,h5,h6⟩:=y7 h;simp[h1,h3,h4,h6]
theorem P8(lv:Value)(ls:List ByteArray)(D:aA)(hS:Sl D RS 1 lv ls)(hV:kG D):Fn Tryz.prog 5 #[lv] D (fun _ v=>v=.bool true):=by
 refine enter 62 Tryz.func5 rfl rfl rfl rfl fun h0=>C.s1<|Zi rfl<|L.n4<|Za rfl<|Ze rfl (fun D1 hD1=>EV _ ls _ (hS.up RS.up (hD1 _ Ye)))<|Zae rfl<|L.n1<|aJ rfl (fun hc1=>?_) (fun hc1=>?_)
 ·refine C.s1<|Ze rfl (fun D2 hD2=>y2 _ (hV.up (hD2 _ Ye)))<|Zi rfl<|L.n5<|Zag ?_;exact Zc [_] rfl ⟨rfl,aJB⟩ (fun D hD=>rfl)
 ·have hsh:g9 ls=true:=by simpa using hc1
  have hf0:=p7 hsh;refine C.kn<|C.s1<|Za rfl<|bU rfl rfl rfl (fun D3 hD3=>IT _ ls _ (hS.up RS.up (hD3 _ Ye)) (by have:=tH hf0;omega)) rfl aJB (fun v3 D3 hD3 hp3=>?_)
  have hq:=hp3;refine bU rfl rfl rfl (fun D4 hD4=>xD _ ls _ (hq.up RS.up (hD4 _ Ye)) (hV.up (hD4 _ Ye))) rfl aJB (fun v4 D4 hD4 hp4=>?_);obtain⟨w1,w2,rfl,⟨pv,cv,hv,lv,mv,bl,bc,yc,yq,rfl,hL⟩,hes⟩:=hp4;unfold bS;refine Za rfl<|Zz rfl<|Zz rfl<|Zz rfl<|Zv rfl Tf.z42 rfl (fun q1=>bH rfl rfl rfl rfl Tf.s42 Ya Ya (bO.head) (gU hL) trivial<|Zi rfl<|Zi rfl<|L.n4<|Za rfl<|eQ rfl rfl rfl rfl trivial<|L.n1 ?_);refine aF rfl (fun hc2=>?_) (fun hc2=>?_)
  ·exact absurd hc2 (by rw[kF hf0];simp)
  ·refine C.kn<|C.s1<|Zj rfl Tf.f42_0 rfl<|cS rfl Tf.a28 Tf.s28 rfl (List.Mem.head _) rfl rfl aEG rfl trivial<|bU rfl rfl rfl (fun D5 hD5=>L1.Q6 _ (aL ls).1.row _ (hL.row.up (hD5 _ Ye))) rfl aJB (fun v5 D5 hD5 hp5=>?_);obtain⟨pl1,rfl,_⟩:=hp5;refine Za rfl<|Zz rfl<|Zz rfl<|Zi rfl<|Zi rfl<|L.n3<|Zj rfl Tf.f42_1 rfl<|cS rfl Tf.a32 Tf.s32 rfl (List.Mem.head _) rfl rfl aEG rfl trivial<|bU rfl rfl rfl (fun D6 hD6=>L2.lJ _ (aL ls).1.table _ (hL.table.up (hD6 _ Ye))) rfl aJB (fun v6 D6 hD6 hp6=>?_);obtain⟨bl3,rfl,_⟩:=hp6;refine Za rfl<|Zz rfl<|Zz rfl<|Zi rfl<|Zi rfl<|L.n3<|Zj rfl Tf.f42_3 rfl<|cS rfl Tf.a40 Tf.s40 rfl (List.Mem.head _) rfl rfl aEG rfl trivial<|Ze rfl (fun D7 hD7=>L7.lJ _ (aL ls).1.yard _ (hL.yard.up (hD7 _ Ye)))<|Za rfl<|Zz rfl<|Zz rfl ?_;refine Zv rfl Tf.z69 rfl (fun q2=>bH rfl rfl rfl rfl Tf.s69 Ya Ya (bO.head) Yi trivial<|Zi rfl<|L.n3<|Za rfl<|dH rfl rfl rfl rfl trivial<|Za rfl ?_);refine' cQ [(false,3),(false,4),(false,5)] [(false,6),(false,7),(false,8),(false,9),(false,10),(false,11),(false,12),(false,13),(false,14),(false,15),(false,16),(false,17),(false,18),(false,19)] (s:=45) (p:=48) rfl rfl (fun hg1=>?_) (fun hg1=>?_) ?_;rotate_left
   ·refine Zb rfl<|dH rfl rfl rfl rfl ⟨_,rfl,rfl⟩<|Zaa rfl ?_;exact L.cu 2
   ·refine Zl rfl<|Zl rfl<|Zab rfl ?_;exact L.cu 2
   refine Za rfl ?_;refine' cQ [(false,7),(false,8),(false,9),(false,10),(false,11)] [(false,12),(false,13),(false,14),(false,15),(false,16),(false,17),(false,18),(false,19)] (s:=49) (p:=54) rfl rfl (fun hg2=>?_) (fun hg2=>?_) ?_;rotate_left
   ·refine Zk rfl Tf.f42_2 rfl<|cS rfl Tf.a36 Tf.s36 rfl (List.Mem.tail _ (List.Mem.head _)) rfl rfl aEG rfl ⟨_,rfl,rfl⟩<|Zf rfl (fun D8 hD8=>L3.mT _ (aL ls).1.book _ (hL.book.up (hD8 _ Ye)))<|dH rfl rfl rfl rfl ⟨_,rfl,rfl⟩<|Zaa rfl ?_;exact L.cu 4
   ·refine Zl rfl<|Zl rfl<|Zl rfl<|Zl rfl<|Zab rfl ?_;exact L.cu 4
   refine Za rfl ?_;refine' cQ [(false,13),(false,14),(false,15)] [(false,16),(false,17),(false,18),(false,19)] (s:=55) (p:=58) rfl rfl (fun hg3=>?_) (fun hg3=>?_) ?_;rotate_left
   ·refine Zb rfl<|dH rfl rfl rfl rfl ⟨_,rfl,rfl⟩<|Zaa rfl ?_;exact L.cu 2
   ·refine Zl rfl<|Zl rfl<|Zab rfl ?_;exact L.cu 2
   refine Za rfl ?_;refine' cQ [(false,17),(false,18)] [(false,19)] (s:=59) (p:=61) rfl rfl (fun hg4=>?_) (fun hg4=>?_) ?_;rotate_left
   ·refine Zf rfl (fun D9 hD9=>y2 _ (hV.up (hD9 _ Ye)))<|Zaa rfl ?_;exact L.cu 1
   ·refine Zl rfl<|Zab rfl ?_;exact L.cu 1
   refine Zi rfl<|L.n5 ?_;exact Zc [_] rfl ⟨rfl,aJB⟩ (fun D hD=>aFE Value.bool (DB (by rw[kF hf0];exact AU ls)))
end L12
end Go.Fs
