/- The card of BookNames: for every input the law returns true, and each argument reads as it did (the package variables that the library reads start as its text lays them). -/
import Derived.Test.YtelhnbcdablgoaaGreatDoorCards
import Derived.Test.YtelhnbcdablgoaaGreatDoorZBookNamesAK
import Derived.Test.YtelhnbcdablgoaaGreatDoorZBookNamesAL
import Derived.Test.YtelhnbcdablgoaaGreatDoorZBookNamesAO
namespace Go.Proofs.YtelhnbcdablgoaaGreatDoor.bookNames
open Go.ChangeShapes Go.WideShapes Go.ChangeAt Go.RowKit Go.Fs Go.Fs.L12
set_option maxRecDepth 100000 in
theorem lifted(os:Os)(started:os.Started)(H:Type)(enc:TypeId×Value→H)(F:Stop.Interp):
  ReturnsInHanded {} Tryz.checked os 5 .any ((OpenSpec.ofChange Rows.bookNamesSpec).preRow enc Tryz.prog Tryz.f5 Rows.bookNamesRow.domain false Rows.bookNamesRow.laid) (((OpenSpec.ofChange Rows.bookNamesSpec).at F).post enc Tryz.prog Tryz.f5 false true false false):=by
 have hx:∃places,DataW.whole enc Tryz.prog ((laidW os).forCall (fun _ _=>0) ⟨#[],#[],[]⟩).memory Tryz.f5.params.toList Rows.bookNamesSpec.vars false (#[]:Array Value).toList 8=some ([],[],places):=⟨[],by kernel_rfl⟩
 obtain⟨places,hx⟩:=hx;refine returnsInHanded_of_row (C:=Tryz.checked) (s:=OpenSpec.ofChange Rows.bookNamesSpec) card_own started Yf Tryz.func5
  (row_witness #[] Yf (OpenSpec.preRow_of_cond 8 hx Yf (fun k hk=>by cases hk) Yf (laidW_met os _))) ?_
 intro W base args ds gs before hval0 hW _ hk _ hL hsh _;have hval:∀(j:Nat) t v,Tryz.f5.params[j]?= some t→args[j]?= some v→Value.okWide Tryz.prog W .any base t v:=hval0;have hW':=hW;obtain⟨p,q,hA0,hQ,rfl,hfz,hnd⟩:=hW';have hA:DataW.TrodAll enc Tryz.prog W 0 (fun _=>true) true Tryz.f5.params.toList args.toList ds p:=hA0;rw[Tryz.params5]at hA hval;obtain⟨rfl,rfl,rfl⟩:=trodAll_none hA;obtain⟨rfl,rfl⟩:=trodVars_none hQ;obtain⟨hV,hag⟩:=vars_of hL hsh;refine((GC _ hV).calls hag).mono ?_;rintro e W' ⟨v,D',rfl,rfl,hkp⟩;exact⟨_,rfl,aHL Yf Yf rfl Yf Tryz.underlying4 hW rfl hkp⟩
theorem c_inPlace:(Rows.bookNamesRow.inPlace==Tryz.prog.inPlace 5)=true:=by kernel_rfl
theorem c_unf:(Rows.bookNamesRow.unfollowed==Tryz.prog.unfollowed 5)=true:=by kernel_rfl
theorem c_rec:(Rows.bookNamesRow.recurses==Tryz.prog.recurses 5)=true:=by kernel_rfl
theorem c_named:(Rows.bookNamesRow.named==Tryz.prog.varsNamed 5)=true:=by kernel_rfl
theorem c_goes:false=Rows.bookNamesRow.goesBy Tryz.pinned.checked.prog:=by kernel_rfl
theorem c_name:Tryz.prog.funcNamed "foreshore/foreshorelaw12.BookNames" =some 5:=by kernel_rfl
theorem closed:joinedFacts Tryz.prog 5 Tryz.f5 (OpenSpec.ofChange Rows.bookNamesSpec).bare Rows.bookNamesRow=true:=by
 unfold joinedFacts;exact(andI (andI (andI (andI (andI (andI (andI (andI (andI (andI (andI (andI (andI (andI (andI (andI (andI (andI (andI (andI (andI (andI (andI (andI (andI (andI (andI (andI (andI (andI (andI Yf f_laidOut) f_mapsRowed) Yf) Yf) Yf) Yf) Yf) Yf) c_inPlace) c_unf) c_rec) c_named) Yf) Yf) Yf) Yf) Yf) Yf) Yf) Yf) Yf) f_plain) Yf) f_heard) f_enter) f_lifts) f_make) Yf) Yf) Yf) Yf)
theorem said:Rows.BookNamesSaid:=
 OpenClaim.holds_of_cond 5 Tryz.f5 rfl rfl rfl rfl rfl rfl rfl ⟨rfl,rfl,rfl,rfl,rfl⟩ rfl rfl rfl rfl rfl c_name Tryz.func5 closed
  (of_decide_eq_true Yf) (by unfold Func.isWrapper;first|(rw[aYJ Yaf];kernel_rfl)|(rw[aYC Yaf];exact⟨rfl,rfl⟩))
  (fun os started H enc _ F=>by rw[OpenClaim.pre_eq_preRow];exact lifted os started H enc F)
theorem plain(f:FuncId)(fn:Func)(hf:Tryz.pinned.checked.prog.funcNamed "foreshore/foreshorelaw12.BookNames" =some f)(hfn:Tryz.pinned.checked.prog.funcs[f]?= some fn):
  true=Tryz.pinned.checked.prog.looks []∧∀(j:Nat) t,fn.params[j]?= some t→Tryz.pinned.checked.prog.wantsStandIn t=false:=by
 obtain rfl:f=5:=aYS (c_name.symm.trans hf) |>.symm;obtain rfl:fn=Tryz.f5:=(aYS (Tryz.func5.symm.trans hfn)).symm;refine⟨f_looks,fun j t ht=>?_⟩;rw[Tryz.params5]at ht;have hm:t∈([]:List Nat):=by simpa using Array.mem_of_getElem? ht
 have hall:(([]:List Nat).all fun u=> !Tryz.prog.wantsStandIn u)=true:=by kernel_rfl
 exact(show Tryz.prog.wantsStandIn t=false by simpa using aYL.1 hall t hm)
theorem proved:Rows.BookNamesCardSaid:=
 Claim7.holds_tied_plain_at .later [] _ _ _ _ said (fun _ h=>by cases h) Yf (fun _ h=>by cases h) bookNames_row_tie rfl ⟨rfl,rfl⟩ f_main rfl plain c_goes
#print axioms proved
end Go.Proofs.YtelhnbcdablgoaaGreatDoor.bookNames
