/- The card of BookReports: for every input the law returns true, and each argument reads as it did (the package variables that the library reads start as its text lays them). -/
import Derived.Test.YtmmdpkkcedmgoaaGreatDoorZBookReportsAK
import Derived.Test.YtmmdpkkcedmgoaaGreatDoorZBookReportsAG
import Derived.Test.YtmmdpkkcedmgoaaGreatDoorZBookReportsAH
import Derived.Test.YtmmdpkkcedmgoaaGreatDoorCards
namespace Go.Proofs.YtmmdpkkcedmgoaaGreatDoor.bookReports
open Go.ChangeShapes Go.WideShapes Go.ChangeAt Go.RowKit Go.Fs Go.Fs.L12
set_option maxRecDepth 100000 in
theorem lifted(os:Os)(started:os.Started)(H:Type)(enc:TypeId×Value→H)(F:Stop.Interp):
  ReturnsInHanded {} Tryz.checked os 4 .any ((OpenSpec.ofChange Rows.bookReportsSpec).preRow enc Tryz.prog Tryz.f4 Rows.bookReportsRow.domain false Rows.bookReportsRow.laid) (((OpenSpec.ofChange Rows.bookReportsSpec).at F).post enc Tryz.prog Tryz.f4 false true false false):=by
 have hx:∃places,DataW.whole enc Tryz.prog ((laidW os).forCall (fun _ _=>0) ⟨#[],#[.slice none 0 0],[]⟩).memory Tryz.f4.params.toList Rows.bookReportsSpec.vars false (#[.slice none 0 0]:Array Value).toList 8=some ([.nil],[],places):=⟨[],by kernel_rfl⟩
 obtain⟨places,hx⟩:=hx;refine returnsInHanded_of_row (C:=Tryz.checked) (s:=OpenSpec.ofChange Rows.bookReportsSpec) card_own started Yg Tryz.func4
  (row_witness #[.slice none 0 0] Yg (OpenSpec.preRow_of_cond 8 hx Yg (fun k hk=>by cases hk) Yg (laidW_met os _))) ?_
 intro W base args ds gs before hval0 hW _ hk _ hL hsh _;have hval:∀(j:Nat) t v,Tryz.f4.params[j]?= some t→args[j]?= some v→Value.okWide Tryz.prog W .any base t v:=hval0;have hW':=hW;obtain⟨p,q,hA0,hQ,rfl,hfz,hnd⟩:=hW';have hA:DataW.TrodAll enc Tryz.prog W 0 (fun _=>true) true Tryz.f4.params.toList args.toList ds p:=hA0;rw[Tryz.params4]at hA hval;obtain⟨v0,vs0,d0,ds0,p0,q0,hargs,rfl,rfl,h0,r0⟩:=trodAll_cons hA;obtain⟨rfl,rfl,rfl⟩:=trodAll_nil r0;obtain rfl:args=#[v0]:=by cases args;simp_all
 obtain⟨rfl,rfl⟩:=trodVars_none hQ;obtain⟨x0,hx0⟩:=Li Tryz.underlying22 reads_strs (hval 0 22 v0 rfl rfl) h0;obtain⟨hV,hag⟩:=vars_of hL hsh;refine((KX v0 x0 _ hx0 hV).calls hag).mono ?_;rintro e W' ⟨v,D',rfl,rfl,hkp⟩;exact⟨_,rfl,Aj Yg Yg rfl Yg Tryz.underlying4 hW rfl hkp⟩
theorem c_inPlace:(Rows.bookReportsRow.inPlace==Tryz.prog.inPlace 4)=true:=by kernel_rfl
theorem c_unf:(Rows.bookReportsRow.unfollowed==Tryz.prog.unfollowed 4)=true:=by kernel_rfl
theorem c_rec:(Rows.bookReportsRow.recurses==Tryz.prog.recurses 4)=true:=by kernel_rfl
theorem c_named:(Rows.bookReportsRow.named==Tryz.prog.varsNamed 4)=true:=by kernel_rfl
theorem c_goes:false=Rows.bookReportsRow.goesBy Tryz.pinned.checked.prog:=by kernel_rfl
theorem c_name:Tryz.prog.funcNamed "foreshore/foreshorelaw12.BookReports" =some 4:=by kernel_rfl
theorem closed:joinedFacts Tryz.prog 4 Tryz.f4 (OpenSpec.ofChange Rows.bookReportsSpec).bare Rows.bookReportsRow=true:=by
 unfold joinedFacts;exact(andI (andI (andI (andI (andI (andI (andI (andI (andI (andI (andI (andI (andI (andI (andI (andI (andI (andI (andI (andI (andI (andI (andI (andI (andI (andI (andI (andI (andI (andI (andI Yg f_laidOut) f_mapsRowed) Yg) Yg) Yg) Yg) Yg) Yg) c_inPlace) c_unf) c_rec) c_named) Yg) Yg) Yg) Yg) Yg) Yg) Yg) Yg) Yg) f_plain) Yg) f_heard) f_enter) f_lifts) f_make) Yg) Yg) Yg) Yg)
theorem said:Rows.BookReportsSaid:=
 OpenClaim.holds_of_cond 4 Tryz.f4 rfl rfl rfl rfl rfl rfl rfl ⟨rfl,rfl,rfl,rfl,rfl⟩ rfl rfl rfl rfl rfl c_name Tryz.func4 closed
  (yn Yg) (by unfold Func.isWrapper;first|(rw[zo (by decide+kernel)];kernel_rfl)|(rw[zv (by decide+kernel)];exact⟨rfl,rfl⟩))
  (fun os started H enc _ F=>by rw[OpenClaim.pre_eq_preRow];exact lifted os started H enc F)
theorem plain(f:FuncId)(fn:Func)(hf:Tryz.pinned.checked.prog.funcNamed "foreshore/foreshorelaw12.BookReports" =some f)(hfn:Tryz.pinned.checked.prog.funcs[f]?= some fn):
  true=Tryz.pinned.checked.prog.looks []∧∀(j:Nat) t,fn.params[j]?= some t→Tryz.pinned.checked.prog.wantsStandIn t=false:=by
 obtain rfl:f=4:=yi (c_name.symm.trans hf) |>.symm;obtain rfl:fn=Tryz.f4:=(yi (Tryz.func4.symm.trans hfn)).symm;refine⟨f_looks,fun j t ht=>?_⟩;rw[Tryz.params4]at ht;have hm:t∈([22]:List Nat):=by simpa using Array.mem_of_getElem? ht
 have hall:(([22]:List Nat).all fun u=> !Tryz.prog.wantsStandIn u)=true:=by kernel_rfl
 exact(show Tryz.prog.wantsStandIn t=false by simpa using yu.1 hall t hm)
theorem proved:Rows.BookReportsCardSaid:=
 Claim7.holds_tied_plain_at .later [] _ _ _ _ said (fun _ h=>by cases h) Yg (fun _ h=>by cases h) bookReports_row_tie rfl ⟨rfl,rfl⟩ f_main rfl plain c_goes
#print axioms proved
end Go.Proofs.YtmmdpkkcedmgoaaGreatDoor.bookReports
