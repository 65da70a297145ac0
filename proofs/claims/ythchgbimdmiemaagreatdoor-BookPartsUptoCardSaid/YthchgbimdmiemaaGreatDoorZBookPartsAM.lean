/- Of the proof of BookParts: BFacts. -/
import Derived.Test.YthchgbimdmiemaaGreatDoorZBookPartsAA
import Derived.Test.YthchgbimdmiemaaGreatDoorCards
namespace Go.Fs
open Go.Proofs
namespace L12
open Go.Proofs.YthchgbimdmiemaaGreatDoor
theorem andI{a b:Bool}(h:a=true)(k:b=true):(a&&b)=true:=by rw[h,k];rfl
theorem f_laidOut:laidOutB Tryz.prog=true:=by kernel_rfl
theorem f_mapsRowed:mapsRowed Tryz.prog=true:=by kernel_rfl
theorem f_heard:Tryz.prog.stopsHeard=true:=by kernel_rfl
theorem f_enter:Tryz.prog.mayEnter=true:=by kernel_rfl
theorem f_lifts:(Rows.topEnteredRow.lifted==Tryz.prog.liftsFinal)=true:=by kernel_rfl
theorem f_make:(Tryz.prog.make==some Rows.topEnteredRow.make)=true:=by kernel_rfl
theorem f_plain:(Rows.topEnteredRow.plainKeys==Tryz.prog.plainKeys)=true:=by kernel_rfl
theorem f_looks:true=Tryz.prog.looks []:=by kernel_rfl
theorem f_main:Tryz.pinned.checked.prog.mainIs=some (true, "91e0b7d058f7e552828478a2f2ee9d40241f5203e1fbb465a797f4679aa83d56".toList):=by kernel_rfl
end L12
end Go.Fs
