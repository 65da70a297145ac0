/- The card of BookWider: for every input the law returns true, and each argument reads as it did (the package variables that the library reads start as its text lays them). -/
import Derived.Test.YtdjdcpieiedfgaaGreatDoorCards
import Derived.Test.YtdjdcpieiedfgaaGreatDoorZBookWiderAK
import Derived.Test.YtdjdcpieiedfgaaGreatDoorZBookWiderAL
import Derived.Test.YtdjdcpieiedfgaaGreatDoorZBookWiderAO
namespace Go.Proofs.YtdjdcpieiedfgaaGreatDoor.bookWider
open Go.ChangeShapes Go.WideShapes Go.ChangeAt Go.RowKit Go.Fs Go.Fs.L12
set_option maxRecDepth 100000 in
theorem lifted(os:Os)(started:os.Started)(H:Type)(enc:TypeId×Value→H)(F:Stop.Interp):
  ReturnsInHanded {} Tryz.checked os 6 .any ((OpenSpec.ofChange Rows.bookWiderSpec).preRow enc Tryz.prog Tryz.f6 Rows.bookWiderRow.domain false Rows.bookWiderRow.laid) (((OpenSpec.ofChange Rows.bookWiderSpec).at F).post enc Tryz.prog Tryz.f6 false true false false):=by
 have hx:∃places,DataW.whole enc Tryz.prog ((laidW os).forCall (fun _ _=>0) ⟨#[],#[.slice none 0 0,.int .u8 0,.int .u8 0],[]⟩).memory Tryz.f6.params.toList Rows.bookWiderSpec.vars false (#[.slice none 0 0,.int .u8 0,.int .u8 0]:Array Value).toList 8=some ([.nil,.lit (.int .u8 0),.lit (.int .u8 0)],[],places):=⟨[],by kernel_rfl⟩
 obtain⟨places,hx⟩:=hx;refine returnsInHanded_of_row (C:=Tryz.checked) (s:=OpenSpec.ofChange Rows.bookWiderSpec) card_own started Yg Tryz.func6
  (row_witness #[.slice none 0 0,.int .u8 0,.int .u8 0] Yg (OpenSpec.preRow_of_cond 8 hx Yg (fun k hk=>by cases hk) Yg (laidW_met os _))) ?_
 intro W base args ds gs before hval0 hW _ hk _ hL hsh _;have hval:∀(j:Nat) t v,Tryz.f6.params[j]?= some t→args[j]?= some v→Value.okWide Tryz.prog W .any base t v:=hval0;have hW':=hW;obtain⟨p,q,hA0,hQ,rfl,hfz,hnd⟩:=hW';have hA:DataW.TrodAll enc Tryz.prog W 0 (fun _=>true) true Tryz.f6.params.toList args.toList ds p:=hA0;rw[Tryz.params6]at hA hval;obtain⟨v0,vs0,d0,ds0,p0,q0,hargs,rfl,rfl,h0,r0⟩:=trodAll_cons hA;obtain⟨v1,vs1,d1,ds1,p1,q1,rfl,rfl,rfl,h1,r1⟩:=trodAll_cons r0;obtain⟨v2,vs2,d2,ds2,p2,q2,rfl,rfl,rfl,h2,r2⟩:=trodAll_cons r1;obtain⟨rfl,rfl,rfl⟩:=trodAll_nil r2;obtain rfl:args=#[v0,v1,v2]:=by cases args;simp_all
 obtain⟨rfl,rfl⟩:=trodVars_none hQ;obtain⟨x0,hx0⟩:=OE Tryz.underlying22 reads_strs (hval 0 22 v0 rfl rfl) h0;obtain⟨x1,rfl,rfl,rfl,w1⟩:=open_int Tryz.underlying5 (hval 1 5 v1 rfl rfl) h1;have hx1:=DA w1;obtain⟨x2,rfl,rfl,rfl,w2⟩:=open_int Tryz.underlying5 (hval 2 5 v2 rfl rfl) h2;have hx2:=DA w2;obtain⟨hV,hag⟩:=vars_of hL hsh;refine((FG v0 x0 x1 x2 (by simpa [uN]using hx1) (by simpa [uN]using hx2) _ hx0 hV).calls hag).mono ?_;rintro e W' ⟨v,D',rfl,rfl,hkp⟩;exact⟨_,rfl,aEX Yg Yg rfl Yg Tryz.underlying4 hW rfl hkp⟩
theorem c_inPlace:(Rows.bookWiderRow.inPlace==Tryz.prog.inPlace 6)=true:=by kernel_rfl
theorem c_unf:(Rows.bookWiderRow.unfollowed==Tryz.prog.unfollowed 6)=true:=by kernel_rfl
theorem c_rec:(Rows.bookWiderRow.recurses==Tryz.prog.recurses 6)=true:=by kernel_rfl
theorem c_named:(Rows.bookWiderRow.named==Tryz.prog.varsNamed 6)=true:=by kernel_rfl
theorem c_goes:false=Rows.bookWiderRow.goesBy Tryz.pinned.checked.prog:=by kernel_rfl
theorem c_name:Tryz.prog.funcNamed "foreshore/foreshorelaw12.BookWider" =some 6:=by kernel_rfl
theorem closed:joinedFacts Tryz.prog 6 Tryz.f6 (OpenSpec.ofChange Rows.bookWiderSpec).bare Rows.bookWiderRow=true:=by
 unfold joinedFacts;exact(andI (andI (andI (andI (andI (andI (andI (andI (andI (andI (andI (andI (andI (andI (andI (andI (andI (andI (andI (andI (andI (andI (andI (andI (andI (andI (andI (andI (andI (andI (andI Yg f_laidOut) f_mapsRowed) Yg) Yg) Yg) Yg) Yg) Yg) c_inPlace) c_unf) c_rec) c_named) Yg) Yg) Yg) Yg) Yg) Yg) Yg) Yg) Yg) f_plain) Yg) f_heard) f_enter) f_lifts) f_make) Yg) Yg) Yg) Yg)
theorem said:Rows.BookWiderSaid:=
 OpenClaim.holds_of_cond 6 Tryz.f6 rfl rfl rfl rfl rfl rfl rfl ⟨rfl,rfl,rfl,rfl,rfl⟩ rfl rfl rfl rfl rfl c_name Tryz.func6 closed
  (aZW Yg) (by unfold Func.isWrapper;first|(rw[aZK Yad];kernel_rfl)|(rw[aZB Yad];exact⟨rfl,rfl⟩))
  (fun os started H enc _ F=>by rw[OpenClaim.pre_eq_preRow];exact lifted os started H enc F)
theorem plain(f:FuncId)(fn:Func)(hf:Tryz.pinned.checked.prog.funcNamed "foreshore/foreshorelaw12.BookWider" =some f)(hfn:Tryz.pinned.checked.prog.funcs[f]?= some fn):
  true=Tryz.pinned.checked.prog.looks []∧∀(j:Nat) t,fn.params[j]?= some t→Tryz.pinned.checked.prog.wantsStandIn t=false:=by
 obtain rfl:f=6:=aZO (c_name.symm.trans hf) |>.symm;obtain rfl:fn=Tryz.f6:=(aZO (Tryz.func6.symm.trans hfn)).symm;refine⟨f_looks,fun j t ht=>?_⟩;rw[Tryz.params6]at ht;have hm:t∈([22,5,5]:List Nat):=by simpa using Array.mem_of_getElem? ht
 have hall:(([22,5,5]:List Nat).all fun u=> !Tryz.prog.wantsStandIn u)=true:=by kernel_rfl
 exact(show Tryz.prog.wantsStandIn t=false by simpa using aZN.1 hall t hm)
theorem proved:Rows.BookWiderCardSaid:=
 Claim7.holds_tied_plain_at .later [] _ _ _ _ said (fun _ h=>by cases h) Yg (fun _ h=>by cases h) bookWider_row_tie rfl ⟨rfl,rfl⟩ f_main rfl plain c_goes
#print axioms proved
end Go.Proofs.YtdjdcpieiedfgaaGreatDoor.bookWider
