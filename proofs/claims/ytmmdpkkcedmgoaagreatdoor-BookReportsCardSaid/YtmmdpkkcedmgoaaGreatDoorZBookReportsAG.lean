/- Of BookReports. -/
import Derived.Test.YtmmdpkkcedmgoaaGreatDoorZBookReportsAF
import Derived.Test.YtmmdpkkcedmgoaaGreatDoorZBookReportsAD
import Derived.Test.YtmmdpkkcedmgoaaGreatDoorTie
import Derived.Lay
import Derived.LaidMore
import Derived.SevenTiedAt
import Derived.Stop.Joined
import Derived.Stop.LaidErr
import Derived.Deep.DeepHandedRow
import Derived.Lib.LaidTab
import Derived.Shelf.Vars
import Derived.MakeChecks
namespace Go.Fs
open Go.Proofs
namespace L12
open C12 Go.Lib Go.ChangeShapes Go.WideShapes Go.ChangeAt Go.RowKit
theorem card_own:ownKnob Tryz.prog.godebug=none:=by kernel_rfl
abbrev laidL:List (String×DataW Unit):=Go.Proofs.YtmmdpkkcedmgoaaGreatDoor.Rows.bookAsksRow.laid
theorem laid_iface{Q:Program}{n nm:String}{d:DataW Unit}{r:List (String×DataW Unit)}{W:World}{g ti:Nat}{ms:Array (String×TypeId)}
  (h:laidMet Q ((n,.iface nm d)::r) W) (hg:Q.globalNamed n=some g) (ht:(Q.globals[g]?).map (·.type)=some ti) (hi:Q.underlying ti=some (.interface ms)):∃u v,W.cell? ⟨g,0,none⟩=some (.iface u v):=by
 obtain⟨ps,⟨g0,t0,cs0,f0,p0,q0,hg0,ht0,hv0,hd0,_,e0⟩,_⟩:=h;obtain rfl:=yi (hg.symm.trans hg0);obtain rfl:=yi (ht.symm.trans ht0);obtain⟨f1,u,v,hcs,_⟩:=iface_of_trod hi hd0;refine⟨u,v,?_⟩;have:=World.var?_cell hg0 hv0 0;rw[Array.eq_one_of_toList hcs]at this;simpa using this
theorem vars_of{W:World}(hL0:laidMetH Tryz.prog laidL W)(hsh:W.ShapedOpen Tryz.prog):rK (I2 W)∧gI (I2 W) W:=by
 have hL:laidMet Tryz.prog laidL W:=by rw[MakeChecks.laidMetH_plain _ _ _ Yg]at hL0;exact hL0
 have h2:=hL.tail.tail;have hg0:Tryz.prog.globalNamed "internal/strconv.uint64pow10" =some 0:=by kernel_rfl
 have hT:TabIs Tryz.prog W "internal/strconv.uint64pow10" .u64 pow10Tab:=Lib.tabIs_of_head (t:=410) (e:=364) (n:=20) hg0 Yg Yg Yg Yg Yg h2;obtain⟨u3,v3,h3⟩:=laid_iface (g:=5) (ti:=114) h2.tail.tail Yg Yg U114;obtain⟨u4,v4,h4⟩:=laid_iface (g:=4) (ti:=114) h2.tail.tail.tail Yg Yg U114;obtain⟨m,hm⟩:∃m,W.cell? ⟨3,0,none⟩=some (.int .i64 m):=cell_of_shapedOpen_int (t:=3) (zero:=#[.int .i64 0]) hsh (vf Yg) Yg Yg Yg Yg Yg;obtain⟨cs,hb,hcs⟩:∃cs:Array Value,(∃e fz,W.heap[0]?= some (.cells cs e fz))∧cs=(pow10Tab.map fun z=>Value.int .u64 z).toArray:=by
  unfold TabIs World.var? at hT;rw[hg0,Option.bind_some]at hT;split at hT
  ·rename_i c e fz hh;exact⟨c,⟨e,fz,hh⟩,yi hT⟩
  ·cases hT
 obtain⟨e,fz,hb⟩:=hb;have hf:I2 W 0=pow10Tab.map (Value.int .u64):=by unfold I2;rw[hb,hcs]
 have hfa:gI (I2 W) W:=Ok W hb (by rw[hcs];simp[pow10Tab]);exact⟨⟨hf,⟨m,X8 hm⟩,⟨_,X8 h4,zt ⟨_,_,rfl⟩⟩,⟨_,X8 h3,zt ⟨_,_,rfl⟩⟩⟩,hfa⟩
noncomputable def laidW(os:Os):World:=World.laidAll Tryz.prog os laidL
theorem laidW_shaped(os:Os)(args:Array Value):((laidW os).forCall (fun _ _=>0) ⟨#[],args,[]⟩).Shaped Tryz.prog:=World.shaped_of_ZipB Yg Yg
theorem laidW_met(os:Os)(args:Array Value):laidMetH Tryz.prog laidL ((laidW os).forCall (fun _ _=>0) ⟨#[],args,[]⟩).memory:=by
 rw[MakeChecks.laidMetH_plain _ _ _ Yg];exact laidMet_laidAll _ Yg Yg
theorem row_witness{H:Type}{enc:TypeId×Value→H}{os:Os}{f:FuncId}{fn:Func}{s:OpenSpec}{conds:List PathCond}{apart:Bool}(args:Array Value)
  (hok:Input.okWideB Tryz.prog ((laidW os).forCall (fun _ _=>0) ⟨#[],args,[]⟩) f ⟨#[],args,[]⟩=true)
  (hrow:s.preRow enc Tryz.prog fn conds apart laidL ((laidW os).forCall (fun _ _=>0) ⟨#[],args,[]⟩).memory args):
  ∃(w:World) (tape:Tape) (i:Input),w.os=os∧(w.forCall tape i).Shaped Tryz.prog∧i.vars=[]∧Input.okWide Tryz.prog (w.forCall tape i) .any w.heap.size f i∧
   s.preRow enc Tryz.prog fn conds apart laidL (w.forCall tape i).memory i.args∧({}:Assume).holds Tryz.prog (lone (Frame.enter Tryz.prog f i.args .normal) [] (w.forCall tape i)):=
 ⟨laidW os,fun _ _=>0,⟨#[],args,[]⟩,World.laidAll_os _ _ _,laidW_shaped os args,(Input.okWide_of_okWideB (base:=0) hok).1,(Input.okWide_of_okWideB hok).2,hrow,by
  simp only[Assume.holds];simp⟩
theorem reads_str:AM Tryz.prog 9 RS:=fun enc W n cs x hx=>by
 obtain⟨s,hc,_⟩:=DataW.trod_string U9 hx;exact⟨s,hc⟩
theorem cells_str:Tryz.prog.cellsOf 9=1:=by kernel_rfl
theorem reads_strs:AM Tryz.prog 22 (cc RS 1):=AM.slice U22 cells_str Yu reads_str
end L12
end Go.Fs
