/- The card of BookResumes: for every input the law returns true, and each argument reads as it did (the package variables that the library reads start as its text lays them). -/
import Derived.Test.YtdjdcpieiedfgaaGreatDoorZBookResumesAK
import Derived.Test.YtdjdcpieiedfgaaGreatDoorZBookResumesAG
import Derived.Test.YtdjdcpieiedfgaaGreatDoorZBookResumesAH
import Derived.Test.YtdjdcpieiedfgaaGreatDoorCards
namespace Go.Proofs.YtdjdcpieiedfgaaGreatDoor.bookResumes
open Go.ChangeShapes Go.WideShapes Go.ChangeAt Go.RowKit Go.Fs Go.Fs.L12
set_option maxRecDepth 100000 in
theorem lifted(os:Os)(started:os.Started)(H:Type)(enc:TypeId×Value→H)(F:Stop.Interp):
  ReturnsInHanded {} Tryz.checked os 7 .any ((OpenSpec.ofChange Rows.bookResumesSpec).preRow enc Tryz.prog Tryz.f7 Rows.bookResumesRow.domain false Rows.bookResumesRow.laid) (((OpenSpec.ofChange Rows.bookResumesSpec).at F).post enc Tryz.prog Tryz.f7 false true false false):=by
 have hx:∃places,DataW.whole enc Tryz.prog ((laidW os).forCall (fun _ _=>0) ⟨#[],#[.string ⟨#[]⟩,.slice none 0 0],[]⟩).memory Tryz.f7.params.toList Rows.bookResumesSpec.vars false (#[.string ⟨#[]⟩,.slice none 0 0]:Array Value).toList 8=some ([.lit (.string []),.nil],[],places):=⟨[],by kernel_rfl⟩
 obtain⟨places,hx⟩:=hx;refine returnsInHanded_of_row (C:=Tryz.checked) (s:=OpenSpec.ofChange Rows.bookResumesSpec) card_own started Yg Tryz.func7
  (row_witness #[.string ⟨#[]⟩,.slice none 0 0] Yg (OpenSpec.preRow_of_cond 8 hx Yg (fun k hk=>by cases hk) Yg (laidW_met os _))) ?_
 intro W base args ds gs before hval0 hW _ hk _ hL hsh _;have hval:∀(j:Nat) t v,Tryz.f7.params[j]?= some t→args[j]?= some v→Value.okWide Tryz.prog W .any base t v:=hval0;have hW':=hW;obtain⟨p,q,hA0,hQ,rfl,hfz,hnd⟩:=hW';have hA:DataW.TrodAll enc Tryz.prog W 0 (fun _=>true) true Tryz.f7.params.toList args.toList ds p:=hA0;rw[Tryz.params7]at hA hval;obtain⟨v0,vs0,d0,ds0,p0,q0,hargs,rfl,rfl,h0,r0⟩:=trodAll_cons hA;obtain⟨v1,vs1,d1,ds1,p1,q1,rfl,rfl,rfl,h1,r1⟩:=trodAll_cons r0;obtain⟨rfl,rfl,rfl⟩:=trodAll_nil r1;obtain rfl:args=#[v0,v1]:=by cases args;simp_all
 obtain⟨rfl,rfl⟩:=trodVars_none hQ;obtain⟨x0,rfl,rfl,rfl,hx0⟩:=Go.ChangeMaps.open_string Tryz.underlying9 (hval 0 9 v0 rfl rfl) h0;obtain⟨x1,hx1⟩:=WX Tryz.underlying22 reads_strs (hval 1 22 v1 rfl rfl) h1;obtain⟨hV,hag⟩:=vars_of hL hsh;refine((GO x0 v1 x1 _ hx1 hV).calls hag).mono ?_;rintro e W' ⟨v,D',rfl,rfl,hkp⟩;exact⟨_,rfl,aVN Yg Yg rfl Yg Tryz.underlying4 hW rfl hkp⟩
theorem c_inPlace:(Rows.bookResumesRow.inPlace==Tryz.prog.inPlace 7)=true:=by kernel_rfl
theorem c_unf:(Rows.bookResumesRow.unfollowed==Tryz.prog.unfollowed 7)=true:=by kernel_rfl
theorem c_rec:(Rows.bookResumesRow.recurses==Tryz.prog.recurses 7)=true:=by kernel_rfl
theorem c_named:(Rows.bookResumesRow.named==Tryz.prog.varsNamed 7)=true:=by kernel_rfl
theorem c_goes:false=Rows.bookResumesRow.goesBy Tryz.pinned.checked.prog:=by kernel_rfl
theorem c_name:Tryz.prog.funcNamed "foreshore/foreshorelaw12.BookResumes" =some 7:=by kernel_rfl
theorem closed:joinedFacts Tryz.prog 7 Tryz.f7 (OpenSpec.ofChange Rows.bookResumesSpec).bare Rows.bookResumesRow=true:=by
 unfold joinedFacts;exact(andI (andI (andI (andI (andI (andI (andI (andI (andI (andI (andI (andI (andI (andI (andI (andI (andI (andI (andI (andI (andI (andI (andI (andI (andI (andI (andI (andI (andI (andI (andI Yg f_laidOut) f_mapsRowed) Yg) Yg) Yg) Yg) Yg) Yg) c_inPlace) c_unf) c_rec) c_named) Yg) Yg) Yg) Yg) Yg) Yg) Yg) Yg) Yg) f_plain) Yg) f_heard) f_enter) f_lifts) f_make) Yg) Yg) Yg) Yg)
theorem said:Rows.BookResumesSaid:=
 OpenClaim.holds_of_cond 7 Tryz.f7 rfl rfl rfl rfl rfl rfl rfl ⟨rfl,rfl,rfl,rfl,rfl⟩ rfl rfl rfl rfl rfl c_name Tryz.func7 closed
  (bNP Yg) (by unfold Func.isWrapper;first|(rw[bNK Ybf];kernel_rfl)|(rw[bNA Ybf];exact⟨rfl,rfl⟩))
  (fun os started H enc _ F=>by rw[OpenClaim.pre_eq_preRow];exact lifted os started H enc F)
theorem plain(f:FuncId)(fn:Func)(hf:Tryz.pinned.checked.prog.funcNamed "foreshore/foreshorelaw12.BookResumes" =some f)(hfn:Tryz.pinned.checked.prog.funcs[f]?= some fn):
  true=Tryz.pinned.checked.prog.looks []∧∀(j:Nat) t,fn.params[j]?= some t→Tryz.pinned.checked.prog.wantsStandIn t=false:=by
 obtain rfl:f=7:=bNS (c_name.symm.trans hf) |>.symm;obtain rfl:fn=Tryz.f7:=(bNS (Tryz.func7.symm.trans hfn)).symm;refine⟨f_looks,fun j t ht=>?_⟩;rw[Tryz.params7]at ht;have hm:t∈([9,22]:List Nat):=by simpa using Array.mem_of_getElem? ht
 have hall:(([9,22]:List Nat).all fun u=> !Tryz.prog.wantsStandIn u)=true:=by kernel_rfl
 exact(show Tryz.prog.wantsStandIn t=false by simpa using bNQ.1 hall t hm)
theorem proved:Rows.BookResumesCardSaid:=
 Claim7.holds_tied_plain_at .later [] _ _ _ _ said (fun _ h=>by cases h) Yg (fun _ h=>by cases h) bookResumes_row_tie rfl ⟨rfl,rfl⟩ f_main rfl plain c_goes
#print axioms proved
end Go.Proofs.YtdjdcpieiedfgaaGreatDoor.bookResumes
