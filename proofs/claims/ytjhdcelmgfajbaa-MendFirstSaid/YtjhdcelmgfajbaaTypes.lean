/- Closed facts on the types of this translation: kind, size, zero value, fields. -/
import Derived.Test.YtjhdcelmgfajbaaRest
import Derived.Test.YtjhdcelmgfajbaaProg
namespace Go.Fs
open Go.Proofs
namespace Tf
theorem follows : Try.prog.follows .mixedOrders = true := by kernel_rfl
theorem a0 : TA Try.prog 0 false := TA.of Try.underlying0 _ rfl
theorem s0 : TS Try.prog 0 1 := TS.of (by kernel_rfl)
theorem a1 : TA Try.prog 1 false := TA.of Try.underlying1 _ rfl
theorem s1 : TS Try.prog 1 1 := TS.of (by kernel_rfl)
theorem a2 : TA Try.prog 2 false := TA.of Try.underlying2 _ rfl
theorem s2 : TS Try.prog 2 1 := TS.of (by kernel_rfl)
theorem z2 : TZ Try.prog 2 (.int .i64 0) := TZ.of (by kernel_rfl)
theorem a3 : TA Try.prog 3 false := TA.of Try.underlying3 _ rfl
theorem s3 : TS Try.prog 3 1 := TS.of (by kernel_rfl)
theorem z3 : TZ Try.prog 3 (.int .i64 0) := TZ.of (by kernel_rfl)
theorem i3 : (Try.prog.info? 3).map (fun i => Nat.ble 1 i.bytes && Nat.ble i.bytes 4096) = some true := by kernel_rfl
theorem a4 : TA Try.prog 4 false := TA.of Try.underlying4 _ rfl
theorem s4 : TS Try.prog 4 1 := TS.of (by kernel_rfl)
theorem z4 : TZ Try.prog 4 (.bool false) := TZ.of (by kernel_rfl)
theorem a5 : TA Try.prog 5 false := TA.of Try.underlying5 _ rfl
theorem s5 : TS Try.prog 5 1 := TS.of (by kernel_rfl)
theorem z5 : TZ Try.prog 5 (.int .u8 0) := TZ.of (by kernel_rfl)
theorem a9 : TA Try.prog 9 false := TA.of Try.underlying9 _ rfl
theorem s9 : TS Try.prog 9 1 := TS.of (by kernel_rfl)
theorem a22 : TA Try.prog 22 false := TA.of Try.underlying22 _ rfl
theorem s22 : TS Try.prog 22 1 := TS.of (by kernel_rfl)
theorem z22 : TZ Try.prog 22 (.slice none 0 0) := TZ.of (by kernel_rfl)
theorem a23 : TA Try.prog 23 false := TA.of Try.underlying23 _ rfl
theorem s23 : TS Try.prog 23 1 := TS.of (by kernel_rfl)
theorem z23 : TZ Try.prog 23 (.slice none 0 0) := TZ.of (by kernel_rfl)
theorem a25 : TA Try.prog 25 true := TA.of Try.underlying25 _ rfl
theorem s25 : TS Try.prog 25 3 := TS.of (by kernel_rfl)
theorem z25 : TZ Try.prog 25 (.agg #[.slice none 0 0, .int .i64 0, .slice none 0 0]) := TZ.of (by kernel_rfl)
theorem p25 : TP Try.prog 25 [(0, 1), (1, 1), (2, 1)] := TP.of Try.underlying25 (by kernel_rfl) (by kernel_rfl)
theorem f25_0 : TF Try.prog 25 0 0 := TF.of Try.underlying25 rfl s22 rfl
theorem f25_1 : TF Try.prog 25 1 1 := TF.of Try.underlying25 rfl s3 rfl
theorem f25_2 : TF Try.prog 25 2 2 := TF.of Try.underlying25 rfl s23 rfl
theorem a26 : TA Try.prog 26 false := TA.of Try.underlying26 _ rfl
theorem s26 : TS Try.prog 26 1 := TS.of (by kernel_rfl)
theorem z26 : TZ Try.prog 26 (.slice none 0 0) := TZ.of (by kernel_rfl)
theorem a27 : TA Try.prog 27 false := TA.of Try.underlying27 _ rfl
theorem s27 : TS Try.prog 27 1 := TS.of (by kernel_rfl)
theorem z27 : TZ Try.prog 27 (.slice none 0 0) := TZ.of (by kernel_rfl)
theorem i27 : (Try.prog.info? 27).map (fun i => Nat.ble 1 i.bytes && Nat.ble i.bytes 4096) = some true := by kernel_rfl
theorem a30 : TA Try.prog 30 false := TA.of Try.underlying30 _ rfl
theorem s30 : TS Try.prog 30 1 := TS.of (by kernel_rfl)
theorem z30 : TZ Try.prog 30 (.slice none 0 0) := TZ.of (by kernel_rfl)
theorem a31 : TA Try.prog 31 false := TA.of Try.underlying31 _ rfl
theorem s31 : TS Try.prog 31 1 := TS.of (by kernel_rfl)
theorem z31 : TZ Try.prog 31 (.int .i64 0) := TZ.of (by kernel_rfl)
theorem a34 : TA Try.prog 34 false := TA.of Try.underlying34 _ rfl
theorem s34 : TS Try.prog 34 1 := TS.of (by kernel_rfl)
theorem z34 : TZ Try.prog 34 (.slice none 0 0) := TZ.of (by kernel_rfl)
theorem a35 : TA Try.prog 35 false := TA.of Try.underlying35 _ rfl
theorem s35 : TS Try.prog 35 1 := TS.of (by kernel_rfl)
theorem z35 : TZ Try.prog 35 (.slice none 0 0) := TZ.of (by kernel_rfl)
theorem a37 : TA Try.prog 37 true := TA.of Try.underlying37 _ rfl
theorem s37 : TS Try.prog 37 3 := TS.of (by kernel_rfl)
theorem z37 : TZ Try.prog 37 (.agg #[.slice none 0 0, .int .i64 0, .slice none 0 0]) := TZ.of (by kernel_rfl)
theorem p37 : TP Try.prog 37 [(0, 1), (1, 1), (2, 1)] := TP.of Try.underlying37 (by kernel_rfl) (by kernel_rfl)
theorem f37_0 : TF Try.prog 37 0 0 := TF.of Try.underlying37 rfl s34 rfl
theorem f37_1 : TF Try.prog 37 1 1 := TF.of Try.underlying37 rfl s3 rfl
theorem f37_2 : TF Try.prog 37 2 2 := TF.of Try.underlying37 rfl s35 rfl
theorem a39 : TA Try.prog 39 false := TA.of Try.underlying39 _ rfl
theorem s39 : TS Try.prog 39 1 := TS.of (by kernel_rfl)
theorem z39 : TZ Try.prog 39 (.slice none 0 0) := TZ.of (by kernel_rfl)
theorem a49 : TA Try.prog 49 false := TA.of Try.underlying49 _ rfl
theorem s49 : TS Try.prog 49 1 := TS.of (by kernel_rfl)
theorem z49 : TZ Try.prog 49 (.slice none 0 0) := TZ.of (by kernel_rfl)
theorem a52 : TA Try.prog 52 false := TA.of Try.underlying52 _ rfl
theorem s52 : TS Try.prog 52 1 := TS.of (by kernel_rfl)
theorem z52 : TZ Try.prog 52 (.slice none 0 0) := TZ.of (by kernel_rfl)
theorem a61 : TA Try.prog 61 true := TA.of Try.underlying61 _ rfl
theorem s61 : TS Try.prog 61 2 := TS.of (by kernel_rfl)
theorem z61 : TZ Try.prog 61 (.agg #[.int .i64 0, .int .i64 0]) := TZ.of (by kernel_rfl)
theorem i61 : (Try.prog.info? 61).map (fun i => Nat.ble 1 i.bytes && Nat.ble i.bytes 4096) = some true := by kernel_rfl
theorem p61 : TP Try.prog 61 [(0, 1), (1, 1)] := TP.of Try.underlying61 (by kernel_rfl) (by kernel_rfl)
theorem f61_0 : TF Try.prog 61 0 0 := TF.of Try.underlying61 rfl s3 rfl
theorem f61_1 : TF Try.prog 61 1 1 := TF.of Try.underlying61 rfl s3 rfl
theorem a67 : TA Try.prog 67 true := TA.of Try.underlying67 _ rfl
theorem s67 : TS Try.prog 67 2 := TS.of (by kernel_rfl)
theorem z67 : TZ Try.prog 67 (.agg #[.int .i64 0, .int .i64 0]) := TZ.of (by kernel_rfl)
theorem i67 : (Try.prog.info? 67).map (fun i => Nat.ble 1 i.bytes && Nat.ble i.bytes 4096) = some true := by kernel_rfl
theorem p67 : TP Try.prog 67 [(0, 1), (1, 1)] := TP.of Try.underlying67 (by kernel_rfl) (by kernel_rfl)
theorem f67_0 : TF Try.prog 67 0 0 := TF.of Try.underlying67 rfl s3 rfl
theorem f67_1 : TF Try.prog 67 1 1 := TF.of Try.underlying67 rfl s3 rfl
theorem a82 : TA Try.prog 82 false := TA.of Try.underlying82 _ rfl
theorem s82 : TS Try.prog 82 1 := TS.of (by kernel_rfl)
theorem z82 : TZ Try.prog 82 (.int .u16 0) := TZ.of (by kernel_rfl)
theorem i82 : (Try.prog.info? 82).map (fun i => Nat.ble 1 i.bytes && Nat.ble i.bytes 4096) = some true := by kernel_rfl
theorem a83 : TA Try.prog 83 false := TA.of Try.underlying83 _ rfl
theorem s83 : TS Try.prog 83 1 := TS.of (by kernel_rfl)
theorem a88 : TA Try.prog 88 false := TA.of Try.underlying88 _ rfl
theorem s88 : TS Try.prog 88 1 := TS.of (by kernel_rfl)
theorem z88 : TZ Try.prog 88 (.int .u64 0) := TZ.of (by kernel_rfl)
theorem a91 : TA Try.prog 91 true := TA.of Try.underlying91 _ rfl
theorem s91 : TS Try.prog 91 3 := TS.of (by kernel_rfl)
theorem z91 : TZ Try.prog 91 (.agg #[.int .i64 0, .int .i64 0, .int .i64 0]) := TZ.of (by kernel_rfl)
theorem i91 : (Try.prog.info? 91).map (fun i => Nat.ble 1 i.bytes && Nat.ble i.bytes 4096) = some true := by kernel_rfl
theorem a94 : TA Try.prog 94 true := TA.of Try.underlying94 _ rfl
theorem s94 : TS Try.prog 94 4 := TS.of (by kernel_rfl)
theorem z94 : TZ Try.prog 94 (.agg #[.int .i64 0, .int .i64 0, .int .i64 0, .int .i64 0]) := TZ.of (by kernel_rfl)
theorem i94 : (Try.prog.info? 94).map (fun i => Nat.ble 1 i.bytes && Nat.ble i.bytes 4096) = some true := by kernel_rfl
theorem p94 : TP Try.prog 94 [(0, 1), (1, 3)] := TP.of Try.underlying94 (by kernel_rfl) (by kernel_rfl)
theorem f94_0 : TF Try.prog 94 0 0 := TF.of Try.underlying94 rfl s3 rfl
theorem f94_1 : TF Try.prog 94 1 1 := TF.of Try.underlying94 rfl s91 rfl
theorem a111 : TA Try.prog 111 true := TA.of Try.underlying111 _ rfl
theorem s111 : TS Try.prog 111 2 := TS.of (by kernel_rfl)
theorem z111 : TZ Try.prog 111 (.agg #[.int .i64 0, .int .i64 0]) := TZ.of (by kernel_rfl)
theorem i111 : (Try.prog.info? 111).map (fun i => Nat.ble 1 i.bytes && Nat.ble i.bytes 4096) = some true := by kernel_rfl
theorem p111 : TP Try.prog 111 [(0, 1), (1, 1)] := TP.of Try.underlying111 (by kernel_rfl) (by kernel_rfl)
theorem f111_0 : TF Try.prog 111 0 0 := TF.of Try.underlying111 rfl s3 rfl
theorem f111_1 : TF Try.prog 111 1 1 := TF.of Try.underlying111 rfl s3 rfl
theorem a113 : TA Try.prog 113 true := TA.of Try.underlying113 _ rfl
theorem s113 : TS Try.prog 113 3 := TS.of (by kernel_rfl)
theorem z113 : TZ Try.prog 113 (.agg #[.int .i64 0, .int .i64 0, .int .i64 0]) := TZ.of (by kernel_rfl)
theorem i113 : (Try.prog.info? 113).map (fun i => Nat.ble 1 i.bytes && Nat.ble i.bytes 4096) = some true := by kernel_rfl
theorem a115 : TA Try.prog 115 true := TA.of Try.underlying115 _ rfl
theorem s115 : TS Try.prog 115 4 := TS.of (by kernel_rfl)
theorem z115 : TZ Try.prog 115 (.agg #[.int .i64 0, .int .i64 0, .int .i64 0, .int .i64 0]) := TZ.of (by kernel_rfl)
theorem i115 : (Try.prog.info? 115).map (fun i => Nat.ble 1 i.bytes && Nat.ble i.bytes 4096) = some true := by kernel_rfl
theorem p115 : TP Try.prog 115 [(0, 1), (1, 3)] := TP.of Try.underlying115 (by kernel_rfl) (by kernel_rfl)
theorem f115_0 : TF Try.prog 115 0 0 := TF.of Try.underlying115 rfl s3 rfl
theorem f115_1 : TF Try.prog 115 1 1 := TF.of Try.underlying115 rfl s113 rfl
theorem a120 : TA Try.prog 120 false := TA.of Try.underlying120 _ rfl
theorem s120 : TS Try.prog 120 1 := TS.of (by kernel_rfl)
theorem z120 : TZ Try.prog 120 (.pointer none) := TZ.of (by kernel_rfl)
theorem a124 : TA Try.prog 124 true := TA.of Try.underlying124 _ rfl
theorem s124 : TS Try.prog 124 7 := TS.of (by kernel_rfl)
theorem z124 : TZ Try.prog 124 (.agg #[.int .i64 0, .int .i64 0, .int .i64 0, .int .i64 0, .int .i64 0, .int .i64 0, .int .i64 0]) := TZ.of (by kernel_rfl)
theorem a126 : TA Try.prog 126 true := TA.of Try.underlying126 _ rfl
theorem s126 : TS Try.prog 126 9 := TS.of (by kernel_rfl)
theorem z126 : TZ Try.prog 126 (.agg #[.int .i64 0, .int .i64 0, .int .i64 0, .int .i64 0, .int .i64 0, .int .i64 0, .int .i64 0, .int .i64 0, .int .i64 0]) := TZ.of (by kernel_rfl)
theorem i126 : (Try.prog.info? 126).map (fun i => Nat.ble 1 i.bytes && Nat.ble i.bytes 4096) = some true := by kernel_rfl
theorem p126 : TP Try.prog 126 [(0, 1), (1, 1), (2, 7)] := TP.of Try.underlying126 (by kernel_rfl) (by kernel_rfl)
theorem f126_0 : TF Try.prog 126 0 0 := TF.of Try.underlying126 rfl s3 rfl
theorem f126_1 : TF Try.prog 126 1 1 := TF.of Try.underlying126 rfl s3 rfl
theorem f126_2 : TF Try.prog 126 2 2 := TF.of Try.underlying126 rfl s124 rfl
theorem a130 : TA Try.prog 130 true := TA.of Try.underlying130 _ rfl
theorem s130 : TS Try.prog 130 2 := TS.of (by kernel_rfl)
theorem z130 : TZ Try.prog 130 (.agg #[.int .i64 0, .int .i64 0]) := TZ.of (by kernel_rfl)
theorem i130 : (Try.prog.info? 130).map (fun i => Nat.ble 1 i.bytes && Nat.ble i.bytes 4096) = some true := by kernel_rfl
theorem p130 : TP Try.prog 130 [(0, 1), (1, 1)] := TP.of Try.underlying130 (by kernel_rfl) (by kernel_rfl)
theorem f130_0 : TF Try.prog 130 0 0 := TF.of Try.underlying130 rfl s3 rfl
theorem f130_1 : TF Try.prog 130 1 1 := TF.of Try.underlying130 rfl s3 rfl
theorem a135 : TA Try.prog 135 false := TA.of Try.underlying135 _ rfl
theorem s135 : TS Try.prog 135 1 := TS.of (by kernel_rfl)
theorem z135 : TZ Try.prog 135 (.slice none 0 0) := TZ.of (by kernel_rfl)
theorem a138 : TA Try.prog 138 false := TA.of Try.underlying138 _ rfl
theorem s138 : TS Try.prog 138 1 := TS.of (by kernel_rfl)
theorem a141 : TA Try.prog 141 true := TA.of Try.underlying141 _ rfl
theorem s141 : TS Try.prog 141 1 := TS.of (by kernel_rfl)
theorem z141 : TZ Try.prog 141 (.agg #[.nilFunc]) := TZ.of (by kernel_rfl)
theorem p141 : TP Try.prog 141 [(0, 1)] := TP.of Try.underlying141 (by kernel_rfl) (by kernel_rfl)
theorem f141_0 : TF Try.prog 141 0 0 := TF.of Try.underlying141 rfl s138 rfl
theorem a142 : TA Try.prog 142 false := TA.of Try.underlying142 _ rfl
theorem s142 : TS Try.prog 142 1 := TS.of (by kernel_rfl)
theorem z142 : TZ Try.prog 142 (.nilFunc) := TZ.of (by kernel_rfl)
theorem a146 : TA Try.prog 146 false := TA.of Try.underlying146 _ rfl
theorem s146 : TS Try.prog 146 1 := TS.of (by kernel_rfl)
theorem a148 : TA Try.prog 148 true := TA.of Try.underlying148 _ rfl
theorem s148 : TS Try.prog 148 4 := TS.of (by kernel_rfl)
theorem z148 : TZ Try.prog 148 (.agg #[.slice none 0 0, .int .i64 0, .slice none 0 0, .map none]) := TZ.of (by kernel_rfl)
theorem p148 : TP Try.prog 148 [(0, 3), (3, 1)] := TP.of Try.underlying148 (by kernel_rfl) (by kernel_rfl)
theorem f148_0 : TF Try.prog 148 0 0 := TF.of Try.underlying148 rfl s37 rfl
theorem f148_1 : TF Try.prog 148 1 3 := TF.of Try.underlying148 rfl s146 rfl
theorem a150 : TA Try.prog 150 false := TA.of Try.underlying150 _ rfl
theorem s150 : TS Try.prog 150 1 := TS.of (by kernel_rfl)
theorem z150 : TZ Try.prog 150 (.nilFunc) := TZ.of (by kernel_rfl)
theorem a153 : TA Try.prog 153 false := TA.of Try.underlying153 _ rfl
theorem s153 : TS Try.prog 153 1 := TS.of (by kernel_rfl)
theorem a156 : TA Try.prog 156 false := TA.of Try.underlying156 _ rfl
theorem s156 : TS Try.prog 156 1 := TS.of (by kernel_rfl)
theorem a158 : TA Try.prog 158 false := TA.of Try.underlying158 _ rfl
theorem s158 : TS Try.prog 158 1 := TS.of (by kernel_rfl)
theorem a162 : TA Try.prog 162 true := TA.of Try.underlying162 _ rfl
theorem s162 : TS Try.prog 162 8 := TS.of (by kernel_rfl)
theorem z162 : TZ Try.prog 162 (.agg #[.int .i64 0, .int .i64 0, .int .i64 0, .int .i64 0, .int .i64 0, .int .i64 0, .int .i64 0, .int .i64 0]) := TZ.of (by kernel_rfl)
theorem p162 : TP Try.prog 162 [(0, 1), (1, 7)] := TP.of Try.underlying162 (by kernel_rfl) (by kernel_rfl)
theorem f162_0 : TF Try.prog 162 0 0 := TF.of Try.underlying162 rfl s3 rfl
theorem f162_1 : TF Try.prog 162 1 1 := TF.of Try.underlying162 rfl s124 rfl
theorem a170 : TA Try.prog 170 false := TA.of Try.underlying170 _ rfl
theorem s170 : TS Try.prog 170 1 := TS.of (by kernel_rfl)
theorem z170 : TZ Try.prog 170 (.nilFunc) := TZ.of (by kernel_rfl)
end Tf
end Go.Fs
