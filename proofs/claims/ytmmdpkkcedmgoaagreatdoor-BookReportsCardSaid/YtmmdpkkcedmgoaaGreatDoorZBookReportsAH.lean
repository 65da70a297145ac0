/- Of BookReports. -/
import Derived.Test.YtmmdpkkcedmgoaaGreatDoorZBookReportsAA
import Derived.Test.YtmmdpkkcedmgoaaGreatDoorCards
namespace Go.Fs
open Go.Proofs
namespace L12
open Go.Proofs.YtmmdpkkcedmgoaaGreatDoor
theorem andI{a b:Bool}(h:a=true)(k:b=true):(a&&b)=true:=by rw[h,k];rfl
theorem f_laidOut:laidOutB Tryz.prog=true:=by kernel_rfl
theorem f_mapsRowed:mapsRowed Tryz.prog=true:=by kernel_rfl
theorem f_heard:Tryz.prog.stopsHeard=true:=by kernel_rfl
theorem f_enter:Tryz.prog.mayEnter=true:=by kernel_rfl
theorem f_lifts:(Rows.bookAsksRow.lifted==Tryz.prog.liftsFinal)=true:=by kernel_rfl
theorem f_make:(Tryz.prog.make==some Rows.bookAsksRow.make)=true:=by kernel_rfl
theorem f_plain:(Rows.bookAsksRow.plainKeys==Tryz.prog.plainKeys)=true:=by kernel_rfl
theorem f_looks:true=Tryz.prog.looks []:=by kernel_rfl
theorem f_main:Tryz.pinned.checked.prog.mainIs=some (true, "6d4ed3b5d8a7de06b899e11d2d86959f5351f01135e0d2ecc9107bcc815a17c6".toList):=by kernel_rfl
end L12
end Go.Fs
