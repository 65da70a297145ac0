/- Of BookResumes. -/
import Derived.Test.YtdjdcpieiedfgaaGreatDoorZBookResumesAA
import Derived.Test.YtdjdcpieiedfgaaGreatDoorCards
namespace Go.Fs
open Go.Proofs
namespace L12
open Go.Proofs.YtdjdcpieiedfgaaGreatDoor
theorem andI{a b:Bool}(h:a=true)(k:b=true):(a&&b)=true:=by rw[h,k];rfl
theorem f_laidOut:laidOutB Tryz.prog=true:=by kernel_rfl
theorem f_mapsRowed:mapsRowed Tryz.prog=true:=by kernel_rfl
theorem f_heard:Tryz.prog.stopsHeard=true:=by kernel_rfl
theorem f_enter:Tryz.prog.mayEnter=true:=by kernel_rfl
theorem f_lifts:(Rows.bookPlaysRow.lifted==Tryz.prog.liftsFinal)=true:=by kernel_rfl
theorem f_make:(Tryz.prog.make==some Rows.bookPlaysRow.make)=true:=by kernel_rfl
theorem f_plain:(Rows.bookPlaysRow.plainKeys==Tryz.prog.plainKeys)=true:=by kernel_rfl
theorem f_looks:true=Tryz.prog.looks []:=by kernel_rfl
theorem f_main:Tryz.pinned.checked.prog.mainIs=some (true, "96e53098985a4ad25cfe8b8d01fe1c946cdd68bd4de7372044d5e479f38b8633".toList):=by kernel_rfl
end L12
end Go.Fs
