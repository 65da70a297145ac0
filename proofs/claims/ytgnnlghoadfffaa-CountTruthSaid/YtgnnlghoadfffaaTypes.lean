/- Closed facts on the types of this translation: kind, size, zero value, fields. -/
import Derived.Test.YtgnnlghoadfffaaRest
import Derived.Test.YtgnnlghoadfffaaProg
namespace Go.Fs
open Go.Proofs
namespace Tf
theorem follows : Try.prog.follows .mixedOrders = true := by kernel_rfl
theorem a0 : TA Try.prog 0 false := TA.of Try.underlying0 _ rfl
theorem s0 : TS Try.prog 0 1 := TS.of (by kernel_rfl)
theorem a1 : TA Try.prog 1 false := TA.of Try.underlying1 _ rfl
theorem s1 : TS Try.prog 1 1 := TS.of (by kernel_rfl)
theorem a2 : TA Try.prog 2 false := TA.of Try.underlying2 _ rfl
theorem s2 : TS Try.prog 2 1 := TS.of (by kernel_rfl)
theorem z2 : TZ Try.prog 2 (.int .i64 0) := TZ.of (by kernel_rfl)
theorem a3 : TA Try.prog 3 false := TA.of Try.underlying3 _ rfl
theorem s3 : TS Try.prog 3 1 := TS.of (by kernel_rfl)
theorem z3 : TZ Try.prog 3 (.int .i64 0) := TZ.of (by kernel_rfl)
theorem i3 : (Try.prog.info? 3).map (fun i => Nat.ble 1 i.bytes && Nat.ble i.bytes 4096) = some true := by kernel_rfl
theorem a4 : TA Try.prog 4 false := TA.of Try.underlying4 _ rfl
theorem s4 : TS Try.prog 4 1 := TS.of (by kernel_rfl)
theorem z4 : TZ Try.prog 4 (.bool false) := TZ.of (by kernel_rfl)
theorem a5 : TA Try.prog 5 false := TA.of Try.underlying5 _ rfl
theorem s5 : TS Try.prog 5 1 := TS.of (by kernel_rfl)
theorem z5 : TZ Try.prog 5 (.int .u8 0) := TZ.of (by kernel_rfl)
theorem a9 : TA Try.prog 9 false := TA.of Try.underlying9 _ rfl
theorem s9 : TS Try.prog 9 1 := TS.of (by kernel_rfl)
theorem a22 : TA Try.prog 22 false := TA.of Try.underlying22 _ rfl
theorem s22 : TS Try.prog 22 1 := TS.of (by kernel_rfl)
theorem z22 : TZ Try.prog 22 (.slice none 0 0) := TZ.of (by kernel_rfl)
theorem i22 : (Try.prog.info? 22).map (fun i => Nat.ble 1 i.bytes && Nat.ble i.bytes 4096) = some true := by kernel_rfl
theorem a23 : TA Try.prog 23 false := TA.of Try.underlying23 _ rfl
theorem s23 : TS Try.prog 23 1 := TS.of (by kernel_rfl)
theorem z23 : TZ Try.prog 23 (.slice none 0 0) := TZ.of (by kernel_rfl)
theorem a25 : TA Try.prog 25 true := TA.of Try.underlying25 _ rfl
theorem s25 : TS Try.prog 25 4 := TS.of (by kernel_rfl)
theorem z25 : TZ Try.prog 25 (.agg #[.slice none 0 0, .slice none 0 0, .int .i64 0, .int .i64 0]) := TZ.of (by kernel_rfl)
theorem p25 : TP Try.prog 25 [(0, 1), (1, 1), (2, 1), (3, 1)] := TP.of Try.underlying25 (by kernel_rfl) (by kernel_rfl)
theorem f25_0 : TF Try.prog 25 0 0 := TF.of Try.underlying25 rfl s22 rfl
theorem f25_1 : TF Try.prog 25 1 1 := TF.of Try.underlying25 rfl s23 rfl
theorem f25_2 : TF Try.prog 25 2 2 := TF.of Try.underlying25 rfl s3 rfl
theorem f25_3 : TF Try.prog 25 3 3 := TF.of Try.underlying25 rfl s3 rfl
theorem a29 : TA Try.prog 29 true := TA.of Try.underlying29 _ rfl
theorem s29 : TS Try.prog 29 2 := TS.of (by kernel_rfl)
theorem z29 : TZ Try.prog 29 (.agg #[.int .i64 0, .int .i64 0]) := TZ.of (by kernel_rfl)
theorem p29 : TP Try.prog 29 [(0, 1), (1, 1)] := TP.of Try.underlying29 (by kernel_rfl) (by kernel_rfl)
theorem f29_0 : TF Try.prog 29 0 0 := TF.of Try.underlying29 rfl s3 rfl
theorem f29_1 : TF Try.prog 29 1 1 := TF.of Try.underlying29 rfl s3 rfl
theorem a30 : TA Try.prog 30 false := TA.of Try.underlying30 _ rfl
theorem s30 : TS Try.prog 30 1 := TS.of (by kernel_rfl)
theorem z30 : TZ Try.prog 30 (.int .i64 0) := TZ.of (by kernel_rfl)
theorem a33 : TA Try.prog 33 false := TA.of Try.underlying33 _ rfl
theorem s33 : TS Try.prog 33 1 := TS.of (by kernel_rfl)
theorem z33 : TZ Try.prog 33 (.slice none 0 0) := TZ.of (by kernel_rfl)
theorem a35 : TA Try.prog 35 true := TA.of Try.underlying35 _ rfl
theorem s35 : TS Try.prog 35 4 := TS.of (by kernel_rfl)
theorem z35 : TZ Try.prog 35 (.agg #[.slice none 0 0, .slice none 0 0, .int .i64 0, .int .i64 0]) := TZ.of (by kernel_rfl)
theorem p35 : TP Try.prog 35 [(0, 1), (1, 1), (2, 1), (3, 1)] := TP.of Try.underlying35 (by kernel_rfl) (by kernel_rfl)
theorem f35_0 : TF Try.prog 35 0 0 := TF.of Try.underlying35 rfl s22 rfl
theorem f35_1 : TF Try.prog 35 1 1 := TF.of Try.underlying35 rfl s33 rfl
theorem f35_2 : TF Try.prog 35 2 2 := TF.of Try.underlying35 rfl s3 rfl
theorem f35_3 : TF Try.prog 35 3 3 := TF.of Try.underlying35 rfl s3 rfl
theorem a37 : TA Try.prog 37 false := TA.of Try.underlying37 _ rfl
theorem s37 : TS Try.prog 37 1 := TS.of (by kernel_rfl)
theorem z37 : TZ Try.prog 37 (.slice none 0 0) := TZ.of (by kernel_rfl)
theorem a43 : TA Try.prog 43 true := TA.of Try.underlying43 _ rfl
theorem s43 : TS Try.prog 43 2 := TS.of (by kernel_rfl)
theorem z43 : TZ Try.prog 43 (.agg #[.int .i64 0, .int .i64 0]) := TZ.of (by kernel_rfl)
theorem p43 : TP Try.prog 43 [(0, 1), (1, 1)] := TP.of Try.underlying43 (by kernel_rfl) (by kernel_rfl)
theorem f43_0 : TF Try.prog 43 0 0 := TF.of Try.underlying43 rfl s3 rfl
theorem f43_1 : TF Try.prog 43 1 1 := TF.of Try.underlying43 rfl s3 rfl
theorem a50 : TA Try.prog 50 true := TA.of Try.underlying50 _ rfl
theorem s50 : TS Try.prog 50 3 := TS.of (by kernel_rfl)
theorem z50 : TZ Try.prog 50 (.agg #[.bool false, .int .i64 0, .int .i64 0]) := TZ.of (by kernel_rfl)
theorem i50 : (Try.prog.info? 50).map (fun i => Nat.ble 1 i.bytes && Nat.ble i.bytes 4096) = some true := by kernel_rfl
theorem p50 : TP Try.prog 50 [(0, 1), (1, 1), (2, 1)] := TP.of Try.underlying50 (by kernel_rfl) (by kernel_rfl)
theorem f50_0 : TF Try.prog 50 0 0 := TF.of Try.underlying50 rfl s4 rfl
theorem f50_1 : TF Try.prog 50 1 1 := TF.of Try.underlying50 rfl s3 rfl
theorem f50_2 : TF Try.prog 50 2 2 := TF.of Try.underlying50 rfl s3 rfl
theorem a69 : TA Try.prog 69 false := TA.of Try.underlying69 _ rfl
theorem s69 : TS Try.prog 69 1 := TS.of (by kernel_rfl)
theorem z69 : TZ Try.prog 69 (.int .u16 0) := TZ.of (by kernel_rfl)
theorem i69 : (Try.prog.info? 69).map (fun i => Nat.ble 1 i.bytes && Nat.ble i.bytes 4096) = some true := by kernel_rfl
theorem a87 : TA Try.prog 87 true := TA.of Try.underlying87 _ rfl
theorem s87 : TS Try.prog 87 3 := TS.of (by kernel_rfl)
theorem z87 : TZ Try.prog 87 (.agg #[.bool false, .int .i64 0, .int .i64 0]) := TZ.of (by kernel_rfl)
theorem i87 : (Try.prog.info? 87).map (fun i => Nat.ble 1 i.bytes && Nat.ble i.bytes 4096) = some true := by kernel_rfl
theorem p87 : TP Try.prog 87 [(0, 1), (1, 1), (2, 1)] := TP.of Try.underlying87 (by kernel_rfl) (by kernel_rfl)
theorem f87_0 : TF Try.prog 87 0 0 := TF.of Try.underlying87 rfl s4 rfl
theorem f87_1 : TF Try.prog 87 1 1 := TF.of Try.underlying87 rfl s3 rfl
theorem f87_2 : TF Try.prog 87 2 2 := TF.of Try.underlying87 rfl s3 rfl
theorem a89 : TA Try.prog 89 false := TA.of Try.underlying89 _ rfl
theorem s89 : TS Try.prog 89 1 := TS.of (by kernel_rfl)
theorem a95 : TA Try.prog 95 false := TA.of Try.underlying95 _ rfl
theorem s95 : TS Try.prog 95 1 := TS.of (by kernel_rfl)
theorem z95 : TZ Try.prog 95 (.pointer none) := TZ.of (by kernel_rfl)
theorem a100 : TA Try.prog 100 false := TA.of Try.underlying100 _ rfl
theorem s100 : TS Try.prog 100 1 := TS.of (by kernel_rfl)
theorem z100 : TZ Try.prog 100 (.slice none 0 0) := TZ.of (by kernel_rfl)
theorem a102 : TA Try.prog 102 true := TA.of Try.underlying102 _ rfl
theorem s102 : TS Try.prog 102 5 := TS.of (by kernel_rfl)
theorem z102 : TZ Try.prog 102 (.agg #[.slice none 0 0, .slice none 0 0, .int .i64 0, .int .i64 0, .slice none 0 0]) := TZ.of (by kernel_rfl)
theorem p102 : TP Try.prog 102 [(0, 4), (4, 1)] := TP.of Try.underlying102 (by kernel_rfl) (by kernel_rfl)
theorem f102_0 : TF Try.prog 102 0 0 := TF.of Try.underlying102 rfl s35 rfl
theorem f102_1 : TF Try.prog 102 1 4 := TF.of Try.underlying102 rfl s100 rfl
theorem a105 : TA Try.prog 105 false := TA.of Try.underlying105 _ rfl
theorem s105 : TS Try.prog 105 1 := TS.of (by kernel_rfl)
theorem a108 : TA Try.prog 108 true := TA.of Try.underlying108 _ rfl
theorem s108 : TS Try.prog 108 1 := TS.of (by kernel_rfl)
theorem z108 : TZ Try.prog 108 (.agg #[.nilFunc]) := TZ.of (by kernel_rfl)
theorem p108 : TP Try.prog 108 [(0, 1)] := TP.of Try.underlying108 (by kernel_rfl) (by kernel_rfl)
theorem f108_0 : TF Try.prog 108 0 0 := TF.of Try.underlying108 rfl s105 rfl
theorem a111 : TA Try.prog 111 true := TA.of Try.underlying111 _ rfl
theorem s111 : TS Try.prog 111 2 := TS.of (by kernel_rfl)
theorem z111 : TZ Try.prog 111 (.agg #[.slice none 0 0, .slice none 0 0]) := TZ.of (by kernel_rfl)
theorem a113 : TA Try.prog 113 false := TA.of Try.underlying113 _ rfl
theorem s113 : TS Try.prog 113 1 := TS.of (by kernel_rfl)
theorem a114 : TA Try.prog 114 false := TA.of Try.underlying114 _ rfl
theorem s114 : TS Try.prog 114 1 := TS.of (by kernel_rfl)
theorem a116 : TA Try.prog 116 true := TA.of Try.underlying116 _ rfl
theorem s116 : TS Try.prog 116 4 := TS.of (by kernel_rfl)
theorem z116 : TZ Try.prog 116 (.agg #[.pointer none, .int .i64 0, .int .i64 0, .map none]) := TZ.of (by kernel_rfl)
theorem p116 : TP Try.prog 116 [(0, 1), (1, 1), (2, 1), (3, 1)] := TP.of Try.underlying116 (by kernel_rfl) (by kernel_rfl)
theorem f116_0 : TF Try.prog 116 0 0 := TF.of Try.underlying116 rfl s95 rfl
theorem f116_1 : TF Try.prog 116 1 1 := TF.of Try.underlying116 rfl s3 rfl
theorem f116_2 : TF Try.prog 116 2 2 := TF.of Try.underlying116 rfl s3 rfl
theorem f116_3 : TF Try.prog 116 3 3 := TF.of Try.underlying116 rfl s114 rfl
theorem a119 : TA Try.prog 119 true := TA.of Try.underlying119 _ rfl
theorem s119 : TS Try.prog 119 2 := TS.of (by kernel_rfl)
theorem z119 : TZ Try.prog 119 (.agg #[.int .i64 0, .int .i64 0]) := TZ.of (by kernel_rfl)
theorem p119 : TP Try.prog 119 [(0, 1), (1, 1)] := TP.of Try.underlying119 (by kernel_rfl) (by kernel_rfl)
theorem f119_0 : TF Try.prog 119 0 0 := TF.of Try.underlying119 rfl s3 rfl
theorem f119_1 : TF Try.prog 119 1 1 := TF.of Try.underlying119 rfl s3 rfl
theorem a121 : TA Try.prog 121 true := TA.of Try.underlying121 _ rfl
theorem s121 : TS Try.prog 121 9 := TS.of (by kernel_rfl)
theorem z121 : TZ Try.prog 121 (.agg #[.int .i64 0, .int .i64 0, .int .i64 0, .int .i64 0, .int .i64 0, .int .i64 0, .int .i64 0, .int .i64 0, .int .i64 0]) := TZ.of (by kernel_rfl)
theorem i121 : (Try.prog.info? 121).map (fun i => Nat.ble 1 i.bytes && Nat.ble i.bytes 4096) = some true := by kernel_rfl
theorem a128 : TA Try.prog 128 true := TA.of Try.underlying128 _ rfl
theorem s128 : TS Try.prog 128 10 := TS.of (by kernel_rfl)
theorem z128 : TZ Try.prog 128 (.agg #[.int .i64 0, .int .i64 0, .int .i64 0, .int .i64 0, .int .i64 0, .int .i64 0, .int .i64 0, .int .i64 0, .int .i64 0, .int .i64 0]) := TZ.of (by kernel_rfl)
theorem a133 : TA Try.prog 133 false := TA.of Try.underlying133 _ rfl
theorem s133 : TS Try.prog 133 1 := TS.of (by kernel_rfl)
theorem a135 : TA Try.prog 135 false := TA.of Try.underlying135 _ rfl
theorem s135 : TS Try.prog 135 1 := TS.of (by kernel_rfl)
theorem z135 : TZ Try.prog 135 (.nilFunc) := TZ.of (by kernel_rfl)
theorem a141 : TA Try.prog 141 false := TA.of Try.underlying141 _ rfl
theorem s141 : TS Try.prog 141 1 := TS.of (by kernel_rfl)
end Tf
end Go.Fs
