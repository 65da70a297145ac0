/- Of the proof of BookNames: BFacts. -/
import Derived.Test.YtelhnbcdablgoaaGreatDoorZBookNamesAA
import Derived.Test.YtelhnbcdablgoaaGreatDoorCards
namespace Go.Fs
open Go.Proofs
namespace L12
open Go.Proofs.YtelhnbcdablgoaaGreatDoor
theorem andI{a b:Bool}(h:a=true)(k:b=true):(a&&b)=true:=by rw[h,k];rfl
theorem f_laidOut:laidOutB Tryz.prog=true:=by kernel_rfl
theorem f_mapsRowed:mapsRowed Tryz.prog=true:=by kernel_rfl
theorem f_heard:Tryz.prog.stopsHeard=true:=by kernel_rfl
theorem f_enter:Tryz.prog.mayEnter=true:=by kernel_rfl
theorem f_lifts:(Rows.bookAgainRow.lifted==Tryz.prog.liftsFinal)=true:=by kernel_rfl
theorem f_make:(Tryz.prog.make==some Rows.bookAgainRow.make)=true:=by kernel_rfl
theorem f_plain:(Rows.bookAgainRow.plainKeys==Tryz.prog.plainKeys)=true:=by kernel_rfl
theorem f_looks:true=Tryz.prog.looks []:=by kernel_rfl
theorem f_main:Tryz.pinned.checked.prog.mainIs=some (true, "8bb552e5b2dcdfa5cdc9559dbcca3218c200c6867e0f458ba0eb6d7f3d260527".toList):=by kernel_rfl
end L12
end Go.Fs
