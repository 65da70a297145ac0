/- Of the proof of BookUndone: BFacts. -/
import Derived.Test.YtecfofnchcbojaaGreatDoorZBookUndoneAA
import Derived.Test.YtecfofnchcbojaaGreatDoorCards
namespace Go.Fs
open Go.Proofs
namespace L12
open Go.Proofs.YtecfofnchcbojaaGreatDoor
theorem andI{a b:Bool}(h:a=true)(k:b=true):(a&&b)=true:=by rw[h,k];rfl
theorem f_laidOut:laidOutB Tryz.prog=true:=by kernel_rfl
theorem f_mapsRowed:mapsRowed Tryz.prog=true:=by kernel_rfl
theorem f_heard:Tryz.prog.stopsHeard=true:=by kernel_rfl
theorem f_enter:Tryz.prog.mayEnter=true:=by kernel_rfl
theorem f_lifts:(Rows.bookUndoneRow.lifted==Tryz.prog.liftsFinal)=true:=by kernel_rfl
theorem f_make:(Tryz.prog.make==some Rows.bookUndoneRow.make)=true:=by kernel_rfl
theorem f_plain:(Rows.bookUndoneRow.plainKeys==Tryz.prog.plainKeys)=true:=by kernel_rfl
theorem f_looks:true=Tryz.prog.looks []:=by kernel_rfl
theorem f_main:Tryz.pinned.checked.prog.mainIs=some (true, "301489d14f5ad913449d231139cdaa53fcea27fe634b78eddaab55d50e447add".toList):=by kernel_rfl
end L12
end Go.Fs
