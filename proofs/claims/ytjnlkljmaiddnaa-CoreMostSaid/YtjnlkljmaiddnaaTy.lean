/- Written by gen_ty.py: facts on this seat's types and functions, each closed. -/
import Derived.Test.YtjnlkljmaiddnaaSl15
import Derived.Test.YtjnlkljmaiddnaaChecked
namespace SL
open Go Go.Proofs

instance : TSc Go.Proofs.Try.prog 2 := ⟨fun _ => ⟨by kernel_rfl, by kernel_rfl⟩⟩
instance : TIn Go.Proofs.Try.prog 2 .i64 := ⟨by kernel_rfl⟩
instance : TZe Go.Proofs.Try.prog 2 (.int .i64 0) := ⟨fun _ => by kernel_rfl⟩
instance : TKy Go.Proofs.Try.prog 2 Int (Value.int .i64) := TKy.int (by kernel_rfl)
instance : TSc Go.Proofs.Try.prog 3 := ⟨fun _ => ⟨by kernel_rfl, by kernel_rfl⟩⟩
instance : TIn Go.Proofs.Try.prog 3 .i64 := ⟨by kernel_rfl⟩
instance : TZe Go.Proofs.Try.prog 3 (.int .i64 0) := ⟨fun _ => by kernel_rfl⟩
instance : TKy Go.Proofs.Try.prog 3 Int (Value.int .i64) := TKy.int (by kernel_rfl)
instance : TSc Go.Proofs.Try.prog 4 := ⟨fun _ => ⟨by kernel_rfl, by kernel_rfl⟩⟩
instance : TBo Go.Proofs.Try.prog 4 := ⟨by kernel_rfl⟩
instance : TZe Go.Proofs.Try.prog 4 (.bool false) := ⟨fun _ => by kernel_rfl⟩
instance : TSc Go.Proofs.Try.prog 5 := ⟨fun _ => ⟨by kernel_rfl, by kernel_rfl⟩⟩
instance : TIn Go.Proofs.Try.prog 5 .u8 := ⟨by kernel_rfl⟩
instance : TZe Go.Proofs.Try.prog 5 (.int .u8 0) := ⟨fun _ => by kernel_rfl⟩
instance : TKy Go.Proofs.Try.prog 5 Int (Value.int .u8) := TKy.int (by kernel_rfl)
instance : TAg Go.Proofs.Try.prog 7 4 := ⟨fun _ => ⟨by kernel_rfl, by kernel_rfl⟩⟩
instance : TZe Go.Proofs.Try.prog 7 (.agg #[.int .i64 0, .int .i64 0, .bool false, .int .u8 0]) := ⟨fun _ => by kernel_rfl⟩
instance : TFa Go.Proofs.Try.prog 7 0 0 := ⟨fun _ _ _ => by kernel_rfl⟩
instance : TFv Go.Proofs.Try.prog 7 0 0 1 false := ⟨by kernel_rfl⟩
instance : TFa Go.Proofs.Try.prog 7 1 1 := ⟨fun _ _ _ => by kernel_rfl⟩
instance : TFv Go.Proofs.Try.prog 7 1 1 1 false := ⟨by kernel_rfl⟩
instance : TFa Go.Proofs.Try.prog 7 2 2 := ⟨fun _ _ _ => by kernel_rfl⟩
instance : TFv Go.Proofs.Try.prog 7 2 2 1 false := ⟨by kernel_rfl⟩
instance : TFa Go.Proofs.Try.prog 7 3 3 := ⟨fun _ _ _ => by kernel_rfl⟩
instance : TFv Go.Proofs.Try.prog 7 3 3 1 false := ⟨by kernel_rfl⟩
instance : TSt Go.Proofs.Try.prog 7 [.int .i64 0, .int .i64 0, .bool false, .int .u8 0] [(0, 1), (1, 1), (2, 1), (3, 1)] := ⟨fun _ => by kernel_rfl, by kernel_rfl⟩
instance : TSc Go.Proofs.Try.prog 9 := ⟨fun _ => ⟨by kernel_rfl, by kernel_rfl⟩⟩
instance : TZe Go.Proofs.Try.prog 9 (.string ByteArray.empty) := ⟨fun _ => by kernel_rfl⟩
instance : TNI Go.Proofs.Try.prog 9 := TNI.mk' (by kernel_rfl)
instance : TSc Go.Proofs.Try.prog 12 := ⟨fun _ => ⟨by kernel_rfl, by kernel_rfl⟩⟩
instance : TIn Go.Proofs.Try.prog 12 .u64 := ⟨by kernel_rfl⟩
instance : TZe Go.Proofs.Try.prog 12 (.int .u64 0) := ⟨fun _ => by kernel_rfl⟩
instance : TKy Go.Proofs.Try.prog 12 Int (Value.int .u64) := TKy.int (by kernel_rfl)
instance : TAg Go.Proofs.Try.prog 13 2 := ⟨fun _ => ⟨by kernel_rfl, by kernel_rfl⟩⟩
instance : TZe Go.Proofs.Try.prog 13 (.agg #[.string ByteArray.empty, .int .u64 0]) := ⟨fun _ => by kernel_rfl⟩
instance : TFa Go.Proofs.Try.prog 13 0 0 := ⟨fun _ _ _ => by kernel_rfl⟩
instance : TFv Go.Proofs.Try.prog 13 0 0 1 false := ⟨by kernel_rfl⟩
instance : TFa Go.Proofs.Try.prog 13 1 1 := ⟨fun _ _ _ => by kernel_rfl⟩
instance : TFv Go.Proofs.Try.prog 13 1 1 1 false := ⟨by kernel_rfl⟩
instance : TSt Go.Proofs.Try.prog 13 [.string ByteArray.empty, .int .u64 0] [(0, 1), (1, 1)] := ⟨fun _ => by kernel_rfl, by kernel_rfl⟩
instance : TAg Go.Proofs.Try.prog 18 1 := ⟨fun _ => ⟨by kernel_rfl, by kernel_rfl⟩⟩
instance : TZe Go.Proofs.Try.prog 18 (.agg #[.pointer none]) := ⟨fun _ => by kernel_rfl⟩
instance : TFa Go.Proofs.Try.prog 18 0 0 := ⟨fun _ _ _ => by kernel_rfl⟩
instance : TFv Go.Proofs.Try.prog 18 0 0 1 false := ⟨by kernel_rfl⟩
instance : TSt Go.Proofs.Try.prog 18 [.pointer none] [(0, 1)] := ⟨fun _ => by kernel_rfl, by kernel_rfl⟩
instance : TSc Go.Proofs.Try.prog 21 := ⟨fun _ => ⟨by kernel_rfl, by kernel_rfl⟩⟩
instance : TIn Go.Proofs.Try.prog 21 .i32 := ⟨by kernel_rfl⟩
instance : TZe Go.Proofs.Try.prog 21 (.int .i32 0) := ⟨fun _ => by kernel_rfl⟩
instance : TKy Go.Proofs.Try.prog 21 Int (Value.int .i32) := TKy.int (by kernel_rfl)
instance : TSc Go.Proofs.Try.prog 22 := ⟨fun _ => ⟨by kernel_rfl, by kernel_rfl⟩⟩
instance : TZe Go.Proofs.Try.prog 22 (.slice none 0 0) := ⟨fun _ => by kernel_rfl⟩
instance : TSl Go.Proofs.Try.prog 22 23 1 8 := ⟨by kernel_rfl, fun _ => by kernel_rfl, fun _ => by kernel_rfl, by kernel_rfl⟩
instance : TNI Go.Proofs.Try.prog 22 := TNI.mk' (by kernel_rfl)
instance : TSc Go.Proofs.Try.prog 23 := ⟨fun _ => ⟨by kernel_rfl, by kernel_rfl⟩⟩
instance : TIn Go.Proofs.Try.prog 23 .u64 := ⟨by kernel_rfl⟩
instance : TZe Go.Proofs.Try.prog 23 (.int .u64 0) := ⟨fun _ => by kernel_rfl⟩
instance : TKy Go.Proofs.Try.prog 23 Int (Value.int .u64) := TKy.int (by kernel_rfl)
instance : TSc Go.Proofs.Try.prog 30 := ⟨fun _ => ⟨by kernel_rfl, by kernel_rfl⟩⟩
instance : TZe Go.Proofs.Try.prog 30 (.pointer none) := ⟨fun _ => by kernel_rfl⟩
instance : TPt Go.Proofs.Try.prog 30 := ⟨⟨66, by kernel_rfl⟩⟩
instance : TSc Go.Proofs.Try.prog 31 := ⟨fun _ => ⟨by kernel_rfl, by kernel_rfl⟩⟩
instance : TIn Go.Proofs.Try.prog 31 .i64 := ⟨by kernel_rfl⟩
instance : TZe Go.Proofs.Try.prog 31 (.int .i64 0) := ⟨fun _ => by kernel_rfl⟩
instance : TKy Go.Proofs.Try.prog 31 Int (Value.int .i64) := TKy.int (by kernel_rfl)
instance : TAg Go.Proofs.Try.prog 34 3 := ⟨fun _ => ⟨by kernel_rfl, by kernel_rfl⟩⟩
instance : TFl Go.Proofs.Try.prog 34 [0, 0, 0] := ⟨by kernel_rfl, by kernel_rfl, by kernel_rfl, by kernel_rfl⟩
instance : TZe Go.Proofs.Try.prog 34 (.agg #[.int .i64 0, .int .u64 0, .int .u64 0]) := ⟨fun _ => by kernel_rfl⟩
instance : TFa Go.Proofs.Try.prog 34 0 0 := ⟨fun _ _ _ => by kernel_rfl⟩
instance : TFv Go.Proofs.Try.prog 34 0 0 1 false := ⟨by kernel_rfl⟩
instance : TFa Go.Proofs.Try.prog 34 1 1 := ⟨fun _ _ _ => by kernel_rfl⟩
instance : TFv Go.Proofs.Try.prog 34 1 1 1 false := ⟨by kernel_rfl⟩
instance : TFa Go.Proofs.Try.prog 34 2 2 := ⟨fun _ _ _ => by kernel_rfl⟩
instance : TFv Go.Proofs.Try.prog 34 2 2 1 false := ⟨by kernel_rfl⟩
instance : TSt Go.Proofs.Try.prog 34 [.int .i64 0, .int .u64 0, .int .u64 0] [(0, 1), (1, 1), (2, 1)] := ⟨fun _ => by kernel_rfl, by kernel_rfl⟩
instance : TAg Go.Proofs.Try.prog 35 3 := ⟨fun _ => ⟨by kernel_rfl, by kernel_rfl⟩⟩
instance : TFl Go.Proofs.Try.prog 35 [0, 0, 0] := ⟨by kernel_rfl, by kernel_rfl, by kernel_rfl, by kernel_rfl⟩
instance : TZe Go.Proofs.Try.prog 35 (.agg #[.int .i64 0, .int .u64 0, .int .u64 0]) := ⟨fun _ => by kernel_rfl⟩
instance : TFa Go.Proofs.Try.prog 35 0 0 := ⟨fun _ _ _ => by kernel_rfl⟩
instance : TFv Go.Proofs.Try.prog 35 0 0 1 false := ⟨by kernel_rfl⟩
instance : TFa Go.Proofs.Try.prog 35 1 1 := ⟨fun _ _ _ => by kernel_rfl⟩
instance : TFv Go.Proofs.Try.prog 35 1 1 1 false := ⟨by kernel_rfl⟩
instance : TFa Go.Proofs.Try.prog 35 2 2 := ⟨fun _ _ _ => by kernel_rfl⟩
instance : TFv Go.Proofs.Try.prog 35 2 2 1 false := ⟨by kernel_rfl⟩
instance : TSt Go.Proofs.Try.prog 35 [.int .i64 0, .int .u64 0, .int .u64 0] [(0, 1), (1, 1), (2, 1)] := ⟨fun _ => by kernel_rfl, by kernel_rfl⟩
instance : TSc Go.Proofs.Try.prog 41 := ⟨fun _ => ⟨by kernel_rfl, by kernel_rfl⟩⟩
instance : TZe Go.Proofs.Try.prog 41 (.slice none 0 0) := ⟨fun _ => by kernel_rfl⟩
instance : TSl Go.Proofs.Try.prog 41 5 1 1 := ⟨by kernel_rfl, fun _ => by kernel_rfl, fun _ => by kernel_rfl, by kernel_rfl⟩
instance : TNI Go.Proofs.Try.prog 41 := TNI.mk' (by kernel_rfl)
instance : TSc Go.Proofs.Try.prog 44 := ⟨fun _ => ⟨by kernel_rfl, by kernel_rfl⟩⟩
instance : TZe Go.Proofs.Try.prog 44 (.slice none 0 0) := ⟨fun _ => by kernel_rfl⟩
instance : TSl Go.Proofs.Try.prog 44 3 1 8 := ⟨by kernel_rfl, fun _ => by kernel_rfl, fun _ => by kernel_rfl, by kernel_rfl⟩
instance : TNI Go.Proofs.Try.prog 44 := TNI.mk' (by kernel_rfl)
instance : TSc Go.Proofs.Try.prog 49 := ⟨fun _ => ⟨by kernel_rfl, by kernel_rfl⟩⟩
instance : TZe Go.Proofs.Try.prog 49 (.slice none 0 0) := ⟨fun _ => by kernel_rfl⟩
instance : TSl Go.Proofs.Try.prog 49 55 5 40 := ⟨by kernel_rfl, fun _ => by kernel_rfl, fun _ => by kernel_rfl, by kernel_rfl⟩
instance : TNI Go.Proofs.Try.prog 49 := TNI.mk' (by kernel_rfl)
instance : TAg Go.Proofs.Try.prog 50 3 := ⟨fun _ => ⟨by kernel_rfl, by kernel_rfl⟩⟩
instance : TFl Go.Proofs.Try.prog 50 [0, 0, 0] := ⟨by kernel_rfl, by kernel_rfl, by kernel_rfl, by kernel_rfl⟩
instance : TZe Go.Proofs.Try.prog 50 (.agg #[.int .i64 0, .int .u64 0, .int .u64 0]) := ⟨fun _ => by kernel_rfl⟩
instance : TFa Go.Proofs.Try.prog 50 0 0 := ⟨fun _ _ _ => by kernel_rfl⟩
instance : TFv Go.Proofs.Try.prog 50 0 0 1 false := ⟨by kernel_rfl⟩
instance : TFa Go.Proofs.Try.prog 50 1 1 := ⟨fun _ _ _ => by kernel_rfl⟩
instance : TFv Go.Proofs.Try.prog 50 1 1 1 false := ⟨by kernel_rfl⟩
instance : TFa Go.Proofs.Try.prog 50 2 2 := ⟨fun _ _ _ => by kernel_rfl⟩
instance : TFv Go.Proofs.Try.prog 50 2 2 1 false := ⟨by kernel_rfl⟩
instance : TSt Go.Proofs.Try.prog 50 [.int .i64 0, .int .u64 0, .int .u64 0] [(0, 1), (1, 1), (2, 1)] := ⟨fun _ => by kernel_rfl, by kernel_rfl⟩
instance : TSc Go.Proofs.Try.prog 51 := ⟨fun _ => ⟨by kernel_rfl, by kernel_rfl⟩⟩
instance : TZe Go.Proofs.Try.prog 51 (.pointer none) := ⟨fun _ => by kernel_rfl⟩
instance : TPt Go.Proofs.Try.prog 51 := ⟨⟨120, by kernel_rfl⟩⟩
instance : TAg Go.Proofs.Try.prog 54 5 := ⟨fun _ => ⟨by kernel_rfl, by kernel_rfl⟩⟩
instance : TZe Go.Proofs.Try.prog 54 (.agg #[.int .i64 0, .int .i64 0, .int .u64 0, .int .u64 0, .int .i64 0]) := ⟨fun _ => by kernel_rfl⟩
instance : TFa Go.Proofs.Try.prog 54 0 0 := ⟨fun _ _ _ => by kernel_rfl⟩
instance : TFv Go.Proofs.Try.prog 54 0 0 1 false := ⟨by kernel_rfl⟩
instance : TFa Go.Proofs.Try.prog 54 1 1 := ⟨fun _ _ _ => by kernel_rfl⟩
instance : TFv Go.Proofs.Try.prog 54 1 1 3 true := ⟨by kernel_rfl⟩
instance : TFa Go.Proofs.Try.prog 54 2 4 := ⟨fun _ _ _ => by kernel_rfl⟩
instance : TFv Go.Proofs.Try.prog 54 2 4 1 false := ⟨by kernel_rfl⟩
instance : TSt Go.Proofs.Try.prog 54 [.int .i64 0, .int .i64 0, .int .u64 0, .int .u64 0, .int .i64 0] [(0, 1), (1, 3), (4, 1)] := ⟨fun _ => by kernel_rfl, by kernel_rfl⟩
instance : TAg Go.Proofs.Try.prog 55 5 := ⟨fun _ => ⟨by kernel_rfl, by kernel_rfl⟩⟩
instance : TZe Go.Proofs.Try.prog 55 (.agg #[.int .i64 0, .int .i64 0, .int .u64 0, .int .u64 0, .int .i64 0]) := ⟨fun _ => by kernel_rfl⟩
instance : TFa Go.Proofs.Try.prog 55 0 0 := ⟨fun _ _ _ => by kernel_rfl⟩
instance : TFv Go.Proofs.Try.prog 55 0 0 1 false := ⟨by kernel_rfl⟩
instance : TFa Go.Proofs.Try.prog 55 1 1 := ⟨fun _ _ _ => by kernel_rfl⟩
instance : TFv Go.Proofs.Try.prog 55 1 1 3 true := ⟨by kernel_rfl⟩
instance : TFa Go.Proofs.Try.prog 55 2 4 := ⟨fun _ _ _ => by kernel_rfl⟩
instance : TFv Go.Proofs.Try.prog 55 2 4 1 false := ⟨by kernel_rfl⟩
instance : TSt Go.Proofs.Try.prog 55 [.int .i64 0, .int .i64 0, .int .u64 0, .int .u64 0, .int .i64 0] [(0, 1), (1, 3), (4, 1)] := ⟨fun _ => by kernel_rfl, by kernel_rfl⟩
instance : TAg Go.Proofs.Try.prog 60 6 := ⟨fun _ => ⟨by kernel_rfl, by kernel_rfl⟩⟩
instance : TZe Go.Proofs.Try.prog 60 (.agg #[.int .i64 0, .int .u64 0, .int .u64 0, .int .i64 0, .int .u64 0, .int .u64 0]) := ⟨fun _ => by kernel_rfl⟩
instance : TSt Go.Proofs.Try.prog 60 [.int .i64 0, .int .u64 0, .int .u64 0, .int .i64 0, .int .u64 0, .int .u64 0] [(0, 3), (3, 3)] := ⟨fun _ => by kernel_rfl, by kernel_rfl⟩
instance : TSc Go.Proofs.Try.prog 64 := ⟨fun _ => ⟨by kernel_rfl, by kernel_rfl⟩⟩
instance : TZe Go.Proofs.Try.prog 64 (.map none) := ⟨fun _ => by kernel_rfl⟩
instance : TMp Go.Proofs.Try.prog 64 35 114 := ⟨by kernel_rfl⟩
instance : TAg Go.Proofs.Try.prog 65 2 := ⟨fun _ => ⟨by kernel_rfl, by kernel_rfl⟩⟩
instance : TZe Go.Proofs.Try.prog 65 (.agg #[.int .i64 0, .map none]) := ⟨fun _ => by kernel_rfl⟩
instance : TFa Go.Proofs.Try.prog 65 0 0 := ⟨fun _ _ _ => by kernel_rfl⟩
instance : TFv Go.Proofs.Try.prog 65 0 0 1 false := ⟨by kernel_rfl⟩
instance : TFa Go.Proofs.Try.prog 65 1 1 := ⟨fun _ _ _ => by kernel_rfl⟩
instance : TFv Go.Proofs.Try.prog 65 1 1 1 false := ⟨by kernel_rfl⟩
instance : TSt Go.Proofs.Try.prog 65 [.int .i64 0, .map none] [(0, 1), (1, 1)] := ⟨fun _ => by kernel_rfl, by kernel_rfl⟩
instance : TAg Go.Proofs.Try.prog 66 2 := ⟨fun _ => ⟨by kernel_rfl, by kernel_rfl⟩⟩
instance : TZe Go.Proofs.Try.prog 66 (.agg #[.int .i64 0, .map none]) := ⟨fun _ => by kernel_rfl⟩
instance : TFa Go.Proofs.Try.prog 66 0 0 := ⟨fun _ _ _ => by kernel_rfl⟩
instance : TFv Go.Proofs.Try.prog 66 0 0 1 false := ⟨by kernel_rfl⟩
instance : TFa Go.Proofs.Try.prog 66 1 1 := ⟨fun _ _ _ => by kernel_rfl⟩
instance : TFv Go.Proofs.Try.prog 66 1 1 1 false := ⟨by kernel_rfl⟩
instance : TSt Go.Proofs.Try.prog 66 [.int .i64 0, .map none] [(0, 1), (1, 1)] := ⟨fun _ => by kernel_rfl, by kernel_rfl⟩
instance : TSc Go.Proofs.Try.prog 67 := ⟨fun _ => ⟨by kernel_rfl, by kernel_rfl⟩⟩
instance : TZe Go.Proofs.Try.prog 67 (.pointer none) := ⟨fun _ => by kernel_rfl⟩
instance : TPt Go.Proofs.Try.prog 67 := ⟨⟨77, by kernel_rfl⟩⟩
instance : TSc Go.Proofs.Try.prog 71 := ⟨fun _ => ⟨by kernel_rfl, by kernel_rfl⟩⟩
instance : TIn Go.Proofs.Try.prog 71 .u16 := ⟨by kernel_rfl⟩
instance : TZe Go.Proofs.Try.prog 71 (.int .u16 0) := ⟨fun _ => by kernel_rfl⟩
instance : TKy Go.Proofs.Try.prog 71 Int (Value.int .u16) := TKy.int (by kernel_rfl)
instance : TAg Go.Proofs.Try.prog 72 2 := ⟨fun _ => ⟨by kernel_rfl, by kernel_rfl⟩⟩
instance : TFl Go.Proofs.Try.prog 72 [0, 0] := ⟨by kernel_rfl, by kernel_rfl, by kernel_rfl, by kernel_rfl⟩
instance : TZe Go.Proofs.Try.prog 72 (.agg #[.int .i64 0, .int .u16 0]) := ⟨fun _ => by kernel_rfl⟩
instance : TFa Go.Proofs.Try.prog 72 0 0 := ⟨fun _ _ _ => by kernel_rfl⟩
instance : TFv Go.Proofs.Try.prog 72 0 0 1 false := ⟨by kernel_rfl⟩
instance : TFa Go.Proofs.Try.prog 72 1 1 := ⟨fun _ _ _ => by kernel_rfl⟩
instance : TFv Go.Proofs.Try.prog 72 1 1 1 false := ⟨by kernel_rfl⟩
instance : TSt Go.Proofs.Try.prog 72 [.int .i64 0, .int .u16 0] [(0, 1), (1, 1)] := ⟨fun _ => by kernel_rfl, by kernel_rfl⟩
instance : TAg Go.Proofs.Try.prog 73 2 := ⟨fun _ => ⟨by kernel_rfl, by kernel_rfl⟩⟩
instance : TFl Go.Proofs.Try.prog 73 [0, 0] := ⟨by kernel_rfl, by kernel_rfl, by kernel_rfl, by kernel_rfl⟩
instance : TZe Go.Proofs.Try.prog 73 (.agg #[.int .i64 0, .int .u16 0]) := ⟨fun _ => by kernel_rfl⟩
instance : TFa Go.Proofs.Try.prog 73 0 0 := ⟨fun _ _ _ => by kernel_rfl⟩
instance : TFv Go.Proofs.Try.prog 73 0 0 1 false := ⟨by kernel_rfl⟩
instance : TFa Go.Proofs.Try.prog 73 1 1 := ⟨fun _ _ _ => by kernel_rfl⟩
instance : TFv Go.Proofs.Try.prog 73 1 1 1 false := ⟨by kernel_rfl⟩
instance : TSt Go.Proofs.Try.prog 73 [.int .i64 0, .int .u16 0] [(0, 1), (1, 1)] := ⟨fun _ => by kernel_rfl, by kernel_rfl⟩
instance : TSc Go.Proofs.Try.prog 74 := ⟨fun _ => ⟨by kernel_rfl, by kernel_rfl⟩⟩
instance : TZe Go.Proofs.Try.prog 74 (.slice none 0 0) := ⟨fun _ => by kernel_rfl⟩
instance : TSl Go.Proofs.Try.prog 74 87 1 8 := ⟨by kernel_rfl, fun _ => by kernel_rfl, fun _ => by kernel_rfl, by kernel_rfl⟩
instance : TNI Go.Proofs.Try.prog 74 := TNI.mk' (by kernel_rfl)
instance : TSc Go.Proofs.Try.prog 75 := ⟨fun _ => ⟨by kernel_rfl, by kernel_rfl⟩⟩
instance : TZe Go.Proofs.Try.prog 75 (.slice none 0 0) := ⟨fun _ => by kernel_rfl⟩
instance : TSl Go.Proofs.Try.prog 75 85 21 216 := ⟨by kernel_rfl, fun _ => by kernel_rfl, fun _ => by kernel_rfl, by kernel_rfl⟩
instance : TNI Go.Proofs.Try.prog 75 := TNI.mk' (by kernel_rfl)
instance : TAg Go.Proofs.Try.prog 76 2 := ⟨fun _ => ⟨by kernel_rfl, by kernel_rfl⟩⟩
instance : TZe Go.Proofs.Try.prog 76 (.agg #[.slice none 0 0, .slice none 0 0]) := ⟨fun _ => by kernel_rfl⟩
instance : TFa Go.Proofs.Try.prog 76 0 0 := ⟨fun _ _ _ => by kernel_rfl⟩
instance : TFv Go.Proofs.Try.prog 76 0 0 1 false := ⟨by kernel_rfl⟩
instance : TFa Go.Proofs.Try.prog 76 1 1 := ⟨fun _ _ _ => by kernel_rfl⟩
instance : TFv Go.Proofs.Try.prog 76 1 1 1 false := ⟨by kernel_rfl⟩
instance : TSt Go.Proofs.Try.prog 76 [.slice none 0 0, .slice none 0 0] [(0, 1), (1, 1)] := ⟨fun _ => by kernel_rfl, by kernel_rfl⟩
instance : TAg Go.Proofs.Try.prog 77 2 := ⟨fun _ => ⟨by kernel_rfl, by kernel_rfl⟩⟩
instance : TZe Go.Proofs.Try.prog 77 (.agg #[.slice none 0 0, .slice none 0 0]) := ⟨fun _ => by kernel_rfl⟩
instance : TFa Go.Proofs.Try.prog 77 0 0 := ⟨fun _ _ _ => by kernel_rfl⟩
instance : TFv Go.Proofs.Try.prog 77 0 0 1 false := ⟨by kernel_rfl⟩
instance : TFa Go.Proofs.Try.prog 77 1 1 := ⟨fun _ _ _ => by kernel_rfl⟩
instance : TFv Go.Proofs.Try.prog 77 1 1 1 false := ⟨by kernel_rfl⟩
instance : TSt Go.Proofs.Try.prog 77 [.slice none 0 0, .slice none 0 0] [(0, 1), (1, 1)] := ⟨fun _ => by kernel_rfl, by kernel_rfl⟩
instance : TSc Go.Proofs.Try.prog 78 := ⟨fun _ => ⟨by kernel_rfl, by kernel_rfl⟩⟩
instance : TIn Go.Proofs.Try.prog 78 .u32 := ⟨by kernel_rfl⟩
instance : TZe Go.Proofs.Try.prog 78 (.int .u32 0) := ⟨fun _ => by kernel_rfl⟩
instance : TKy Go.Proofs.Try.prog 78 Int (Value.int .u32) := TKy.int (by kernel_rfl)
instance : TAg Go.Proofs.Try.prog 79 4 := ⟨fun _ => ⟨by kernel_rfl, by kernel_rfl⟩⟩
instance : TZe Go.Proofs.Try.prog 79 (.agg #[.int .u64 0, .int .u32 0, .int .u64 0, .slice none 0 0]) := ⟨fun _ => by kernel_rfl⟩
instance : TFa Go.Proofs.Try.prog 79 0 0 := ⟨fun _ _ _ => by kernel_rfl⟩
instance : TFv Go.Proofs.Try.prog 79 0 0 1 false := ⟨by kernel_rfl⟩
instance : TFa Go.Proofs.Try.prog 79 1 1 := ⟨fun _ _ _ => by kernel_rfl⟩
instance : TFv Go.Proofs.Try.prog 79 1 1 1 false := ⟨by kernel_rfl⟩
instance : TFa Go.Proofs.Try.prog 79 2 2 := ⟨fun _ _ _ => by kernel_rfl⟩
instance : TFv Go.Proofs.Try.prog 79 2 2 1 false := ⟨by kernel_rfl⟩
instance : TFa Go.Proofs.Try.prog 79 3 3 := ⟨fun _ _ _ => by kernel_rfl⟩
instance : TFv Go.Proofs.Try.prog 79 3 3 1 false := ⟨by kernel_rfl⟩
instance : TSt Go.Proofs.Try.prog 79 [.int .u64 0, .int .u32 0, .int .u64 0, .slice none 0 0] [(0, 1), (1, 1), (2, 1), (3, 1)] := ⟨fun _ => by kernel_rfl, by kernel_rfl⟩
instance : TAg Go.Proofs.Try.prog 80 4 := ⟨fun _ => ⟨by kernel_rfl, by kernel_rfl⟩⟩
instance : TZe Go.Proofs.Try.prog 80 (.agg #[.int .u64 0, .int .u32 0, .int .u64 0, .slice none 0 0]) := ⟨fun _ => by kernel_rfl⟩
instance : TFa Go.Proofs.Try.prog 80 0 0 := ⟨fun _ _ _ => by kernel_rfl⟩
instance : TFv Go.Proofs.Try.prog 80 0 0 1 false := ⟨by kernel_rfl⟩
instance : TFa Go.Proofs.Try.prog 80 1 1 := ⟨fun _ _ _ => by kernel_rfl⟩
instance : TFv Go.Proofs.Try.prog 80 1 1 1 false := ⟨by kernel_rfl⟩
instance : TFa Go.Proofs.Try.prog 80 2 2 := ⟨fun _ _ _ => by kernel_rfl⟩
instance : TFv Go.Proofs.Try.prog 80 2 2 1 false := ⟨by kernel_rfl⟩
instance : TFa Go.Proofs.Try.prog 80 3 3 := ⟨fun _ _ _ => by kernel_rfl⟩
instance : TFv Go.Proofs.Try.prog 80 3 3 1 false := ⟨by kernel_rfl⟩
instance : TSt Go.Proofs.Try.prog 80 [.int .u64 0, .int .u32 0, .int .u64 0, .slice none 0 0] [(0, 1), (1, 1), (2, 1), (3, 1)] := ⟨fun _ => by kernel_rfl, by kernel_rfl⟩
instance : TSc Go.Proofs.Try.prog 81 := ⟨fun _ => ⟨by kernel_rfl, by kernel_rfl⟩⟩
instance : TZe Go.Proofs.Try.prog 81 (.slice none 0 0) := ⟨fun _ => by kernel_rfl⟩
instance : TSl Go.Proofs.Try.prog 81 187 3 24 := ⟨by kernel_rfl, fun _ => by kernel_rfl, fun _ => by kernel_rfl, by kernel_rfl⟩
instance : TNI Go.Proofs.Try.prog 81 := TNI.mk' (by kernel_rfl)
instance : TAg Go.Proofs.Try.prog 82 20 := ⟨fun _ => ⟨by kernel_rfl, by kernel_rfl⟩⟩
instance : TZe Go.Proofs.Try.prog 82 (.agg #[.int .i64 0, .int .u64 0, .int .i64 0, .int .u32 0, .int .u64 0, .int .u64 0, .int .u64 0, .int .u64 0, .int .u64 0, .int .u64 0, .int .u64 0, .int .u32 0, .int .u64 0, .slice none 0 0, .int .u32 0, .int .i64 0, .int .i64 0, .bool false, .slice none 0 0, .slice none 0 0]) := ⟨fun _ => by kernel_rfl⟩
instance : TFa Go.Proofs.Try.prog 82 0 0 := ⟨fun _ _ _ => by kernel_rfl⟩
instance : TFv Go.Proofs.Try.prog 82 0 0 1 false := ⟨by kernel_rfl⟩
instance : TFa Go.Proofs.Try.prog 82 1 1 := ⟨fun _ _ _ => by kernel_rfl⟩
instance : TFv Go.Proofs.Try.prog 82 1 1 1 false := ⟨by kernel_rfl⟩
instance : TFa Go.Proofs.Try.prog 82 2 2 := ⟨fun _ _ _ => by kernel_rfl⟩
instance : TFv Go.Proofs.Try.prog 82 2 2 1 false := ⟨by kernel_rfl⟩
instance : TFa Go.Proofs.Try.prog 82 3 3 := ⟨fun _ _ _ => by kernel_rfl⟩
instance : TFv Go.Proofs.Try.prog 82 3 3 1 false := ⟨by kernel_rfl⟩
instance : TFa Go.Proofs.Try.prog 82 4 4 := ⟨fun _ _ _ => by kernel_rfl⟩
instance : TFv Go.Proofs.Try.prog 82 4 4 1 false := ⟨by kernel_rfl⟩
instance : TFa Go.Proofs.Try.prog 82 5 5 := ⟨fun _ _ _ => by kernel_rfl⟩
instance : TFv Go.Proofs.Try.prog 82 5 5 1 false := ⟨by kernel_rfl⟩
instance : TFa Go.Proofs.Try.prog 82 6 6 := ⟨fun _ _ _ => by kernel_rfl⟩
instance : TFv Go.Proofs.Try.prog 82 6 6 1 false := ⟨by kernel_rfl⟩
instance : TFa Go.Proofs.Try.prog 82 7 7 := ⟨fun _ _ _ => by kernel_rfl⟩
instance : TFv Go.Proofs.Try.prog 82 7 7 1 false := ⟨by kernel_rfl⟩
instance : TFa Go.Proofs.Try.prog 82 8 8 := ⟨fun _ _ _ => by kernel_rfl⟩
instance : TFv Go.Proofs.Try.prog 82 8 8 1 false := ⟨by kernel_rfl⟩
instance : TFa Go.Proofs.Try.prog 82 9 9 := ⟨fun _ _ _ => by kernel_rfl⟩
instance : TFv Go.Proofs.Try.prog 82 9 9 1 false := ⟨by kernel_rfl⟩
instance : TFa Go.Proofs.Try.prog 82 10 10 := ⟨fun _ _ _ => by kernel_rfl⟩
instance : TFv Go.Proofs.Try.prog 82 10 10 4 true := ⟨by kernel_rfl⟩
instance : TFa Go.Proofs.Try.prog 82 11 14 := ⟨fun _ _ _ => by kernel_rfl⟩
instance : TFv Go.Proofs.Try.prog 82 11 14 1 false := ⟨by kernel_rfl⟩
instance : TFa Go.Proofs.Try.prog 82 12 15 := ⟨fun _ _ _ => by kernel_rfl⟩
instance : TFv Go.Proofs.Try.prog 82 12 15 1 false := ⟨by kernel_rfl⟩
instance : TFa Go.Proofs.Try.prog 82 13 16 := ⟨fun _ _ _ => by kernel_rfl⟩
instance : TFv Go.Proofs.Try.prog 82 13 16 1 false := ⟨by kernel_rfl⟩
instance : TFa Go.Proofs.Try.prog 82 14 17 := ⟨fun _ _ _ => by kernel_rfl⟩
instance : TFv Go.Proofs.Try.prog 82 14 17 1 false := ⟨by kernel_rfl⟩
instance : TFa Go.Proofs.Try.prog 82 15 18 := ⟨fun _ _ _ => by kernel_rfl⟩
instance : TFv Go.Proofs.Try.prog 82 15 18 1 false := ⟨by kernel_rfl⟩
instance : TFa Go.Proofs.Try.prog 82 16 19 := ⟨fun _ _ _ => by kernel_rfl⟩
instance : TFv Go.Proofs.Try.prog 82 16 19 1 false := ⟨by kernel_rfl⟩
instance : TSt Go.Proofs.Try.prog 82 [.int .i64 0, .int .u64 0, .int .i64 0, .int .u32 0, .int .u64 0, .int .u64 0, .int .u64 0, .int .u64 0, .int .u64 0, .int .u64 0, .int .u64 0, .int .u32 0, .int .u64 0, .slice none 0 0, .int .u32 0, .int .i64 0, .int .i64 0, .bool false, .slice none 0 0, .slice none 0 0] [(0, 1), (1, 1), (2, 1), (3, 1), (4, 1), (5, 1), (6, 1), (7, 1), (8, 1), (9, 1), (10, 4), (14, 1), (15, 1), (16, 1), (17, 1), (18, 1), (19, 1)] := ⟨fun _ => by kernel_rfl, by kernel_rfl⟩
instance : TAg Go.Proofs.Try.prog 83 20 := ⟨fun _ => ⟨by kernel_rfl, by kernel_rfl⟩⟩
instance : TZe Go.Proofs.Try.prog 83 (.agg #[.int .i64 0, .int .u64 0, .int .i64 0, .int .u32 0, .int .u64 0, .int .u64 0, .int .u64 0, .int .u64 0, .int .u64 0, .int .u64 0, .int .u64 0, .int .u32 0, .int .u64 0, .slice none 0 0, .int .u32 0, .int .i64 0, .int .i64 0, .bool false, .slice none 0 0, .slice none 0 0]) := ⟨fun _ => by kernel_rfl⟩
instance : TFa Go.Proofs.Try.prog 83 0 0 := ⟨fun _ _ _ => by kernel_rfl⟩
instance : TFv Go.Proofs.Try.prog 83 0 0 1 false := ⟨by kernel_rfl⟩
instance : TFa Go.Proofs.Try.prog 83 1 1 := ⟨fun _ _ _ => by kernel_rfl⟩
instance : TFv Go.Proofs.Try.prog 83 1 1 1 false := ⟨by kernel_rfl⟩
instance : TFa Go.Proofs.Try.prog 83 2 2 := ⟨fun _ _ _ => by kernel_rfl⟩
instance : TFv Go.Proofs.Try.prog 83 2 2 1 false := ⟨by kernel_rfl⟩
instance : TFa Go.Proofs.Try.prog 83 3 3 := ⟨fun _ _ _ => by kernel_rfl⟩
instance : TFv Go.Proofs.Try.prog 83 3 3 1 false := ⟨by kernel_rfl⟩
instance : TFa Go.Proofs.Try.prog 83 4 4 := ⟨fun _ _ _ => by kernel_rfl⟩
instance : TFv Go.Proofs.Try.prog 83 4 4 1 false := ⟨by kernel_rfl⟩
instance : TFa Go.Proofs.Try.prog 83 5 5 := ⟨fun _ _ _ => by kernel_rfl⟩
instance : TFv Go.Proofs.Try.prog 83 5 5 1 false := ⟨by kernel_rfl⟩
instance : TFa Go.Proofs.Try.prog 83 6 6 := ⟨fun _ _ _ => by kernel_rfl⟩
instance : TFv Go.Proofs.Try.prog 83 6 6 1 false := ⟨by kernel_rfl⟩
instance : TFa Go.Proofs.Try.prog 83 7 7 := ⟨fun _ _ _ => by kernel_rfl⟩
instance : TFv Go.Proofs.Try.prog 83 7 7 1 false := ⟨by kernel_rfl⟩
instance : TFa Go.Proofs.Try.prog 83 8 8 := ⟨fun _ _ _ => by kernel_rfl⟩
instance : TFv Go.Proofs.Try.prog 83 8 8 1 false := ⟨by kernel_rfl⟩
instance : TFa Go.Proofs.Try.prog 83 9 9 := ⟨fun _ _ _ => by kernel_rfl⟩
instance : TFv Go.Proofs.Try.prog 83 9 9 1 false := ⟨by kernel_rfl⟩
instance : TFa Go.Proofs.Try.prog 83 10 10 := ⟨fun _ _ _ => by kernel_rfl⟩
instance : TFv Go.Proofs.Try.prog 83 10 10 4 true := ⟨by kernel_rfl⟩
instance : TFa Go.Proofs.Try.prog 83 11 14 := ⟨fun _ _ _ => by kernel_rfl⟩
instance : TFv Go.Proofs.Try.prog 83 11 14 1 false := ⟨by kernel_rfl⟩
instance : TFa Go.Proofs.Try.prog 83 12 15 := ⟨fun _ _ _ => by kernel_rfl⟩
instance : TFv Go.Proofs.Try.prog 83 12 15 1 false := ⟨by kernel_rfl⟩
instance : TFa Go.Proofs.Try.prog 83 13 16 := ⟨fun _ _ _ => by kernel_rfl⟩
instance : TFv Go.Proofs.Try.prog 83 13 16 1 false := ⟨by kernel_rfl⟩
instance : TFa Go.Proofs.Try.prog 83 14 17 := ⟨fun _ _ _ => by kernel_rfl⟩
instance : TFv Go.Proofs.Try.prog 83 14 17 1 false := ⟨by kernel_rfl⟩
instance : TFa Go.Proofs.Try.prog 83 15 18 := ⟨fun _ _ _ => by kernel_rfl⟩
instance : TFv Go.Proofs.Try.prog 83 15 18 1 false := ⟨by kernel_rfl⟩
instance : TFa Go.Proofs.Try.prog 83 16 19 := ⟨fun _ _ _ => by kernel_rfl⟩
instance : TFv Go.Proofs.Try.prog 83 16 19 1 false := ⟨by kernel_rfl⟩
instance : TSt Go.Proofs.Try.prog 83 [.int .i64 0, .int .u64 0, .int .i64 0, .int .u32 0, .int .u64 0, .int .u64 0, .int .u64 0, .int .u64 0, .int .u64 0, .int .u64 0, .int .u64 0, .int .u32 0, .int .u64 0, .slice none 0 0, .int .u32 0, .int .i64 0, .int .i64 0, .bool false, .slice none 0 0, .slice none 0 0] [(0, 1), (1, 1), (2, 1), (3, 1), (4, 1), (5, 1), (6, 1), (7, 1), (8, 1), (9, 1), (10, 4), (14, 1), (15, 1), (16, 1), (17, 1), (18, 1), (19, 1)] := ⟨fun _ => by kernel_rfl, by kernel_rfl⟩
instance : TAg Go.Proofs.Try.prog 84 21 := ⟨fun _ => ⟨by kernel_rfl, by kernel_rfl⟩⟩
instance : TZe Go.Proofs.Try.prog 84 (.agg #[.int .i64 0, .int .i64 0, .int .u64 0, .int .i64 0, .int .u32 0, .int .u64 0, .int .u64 0, .int .u64 0, .int .u64 0, .int .u64 0, .int .u64 0, .int .u64 0, .int .u32 0, .int .u64 0, .slice none 0 0, .int .u32 0, .int .i64 0, .int .i64 0, .bool false, .slice none 0 0, .slice none 0 0]) := ⟨fun _ => by kernel_rfl⟩
instance : TFa Go.Proofs.Try.prog 84 0 0 := ⟨fun _ _ _ => by kernel_rfl⟩
instance : TFv Go.Proofs.Try.prog 84 0 0 1 false := ⟨by kernel_rfl⟩
instance : TFa Go.Proofs.Try.prog 84 1 1 := ⟨fun _ _ _ => by kernel_rfl⟩
instance : TFv Go.Proofs.Try.prog 84 1 1 20 true := ⟨by kernel_rfl⟩
instance : TSt Go.Proofs.Try.prog 84 [.int .i64 0, .int .i64 0, .int .u64 0, .int .i64 0, .int .u32 0, .int .u64 0, .int .u64 0, .int .u64 0, .int .u64 0, .int .u64 0, .int .u64 0, .int .u64 0, .int .u32 0, .int .u64 0, .slice none 0 0, .int .u32 0, .int .i64 0, .int .i64 0, .bool false, .slice none 0 0, .slice none 0 0] [(0, 1), (1, 20)] := ⟨fun _ => by kernel_rfl, by kernel_rfl⟩
instance : TAg Go.Proofs.Try.prog 85 21 := ⟨fun _ => ⟨by kernel_rfl, by kernel_rfl⟩⟩
instance : TZe Go.Proofs.Try.prog 85 (.agg #[.int .i64 0, .int .i64 0, .int .u64 0, .int .i64 0, .int .u32 0, .int .u64 0, .int .u64 0, .int .u64 0, .int .u64 0, .int .u64 0, .int .u64 0, .int .u64 0, .int .u32 0, .int .u64 0, .slice none 0 0, .int .u32 0, .int .i64 0, .int .i64 0, .bool false, .slice none 0 0, .slice none 0 0]) := ⟨fun _ => by kernel_rfl⟩
instance : TFa Go.Proofs.Try.prog 85 0 0 := ⟨fun _ _ _ => by kernel_rfl⟩
instance : TFv Go.Proofs.Try.prog 85 0 0 1 false := ⟨by kernel_rfl⟩
instance : TFa Go.Proofs.Try.prog 85 1 1 := ⟨fun _ _ _ => by kernel_rfl⟩
instance : TFv Go.Proofs.Try.prog 85 1 1 20 true := ⟨by kernel_rfl⟩
instance : TSt Go.Proofs.Try.prog 85 [.int .i64 0, .int .i64 0, .int .u64 0, .int .i64 0, .int .u32 0, .int .u64 0, .int .u64 0, .int .u64 0, .int .u64 0, .int .u64 0, .int .u64 0, .int .u64 0, .int .u32 0, .int .u64 0, .slice none 0 0, .int .u32 0, .int .i64 0, .int .i64 0, .bool false, .slice none 0 0, .slice none 0 0] [(0, 1), (1, 20)] := ⟨fun _ => by kernel_rfl, by kernel_rfl⟩
instance : TSc Go.Proofs.Try.prog 87 := ⟨fun _ => ⟨by kernel_rfl, by kernel_rfl⟩⟩
instance : TZe Go.Proofs.Try.prog 87 (.pointer none) := ⟨fun _ => by kernel_rfl⟩
instance : TPt Go.Proofs.Try.prog 87 := ⟨⟨127, by kernel_rfl⟩⟩
instance : TSc Go.Proofs.Try.prog 96 := ⟨fun _ => ⟨by kernel_rfl, by kernel_rfl⟩⟩
instance : TZe Go.Proofs.Try.prog 96 (.pointer none) := ⟨fun _ => by kernel_rfl⟩
instance : TPt Go.Proofs.Try.prog 96 := ⟨⟨134, by kernel_rfl⟩⟩
instance : TSc Go.Proofs.Try.prog 101 := ⟨fun _ => ⟨by kernel_rfl, by kernel_rfl⟩⟩
instance : TZe Go.Proofs.Try.prog 101 (.slice none 0 0) := ⟨fun _ => by kernel_rfl⟩
instance : TSl Go.Proofs.Try.prog 101 73 2 16 := ⟨by kernel_rfl, fun _ => by kernel_rfl, fun _ => by kernel_rfl, by kernel_rfl⟩
instance : TNI Go.Proofs.Try.prog 101 := TNI.mk' (by kernel_rfl)
instance : TZe Go.Proofs.Try.prog 112 (.nilFunc) := ⟨fun _ => by kernel_rfl⟩
instance : TAg Go.Proofs.Try.prog 114 7 := ⟨fun _ => ⟨by kernel_rfl, by kernel_rfl⟩⟩
instance : TZe Go.Proofs.Try.prog 114 (.agg #[.bool false, .bool false, .bool false, .bool false, .bool false, .bool false, .bool false]) := ⟨fun _ => by kernel_rfl⟩
instance : TSt Go.Proofs.Try.prog 114 [.bool false, .bool false, .bool false, .bool false, .bool false, .bool false, .bool false] [(0, 1), (1, 1), (2, 1), (3, 1), (4, 1), (5, 1), (6, 1)] := ⟨fun _ => by kernel_rfl, by kernel_rfl⟩
instance : TSc Go.Proofs.Try.prog 118 := ⟨fun _ => ⟨by kernel_rfl, by kernel_rfl⟩⟩
instance : TZe Go.Proofs.Try.prog 118 (.slice none 0 0) := ⟨fun _ => by kernel_rfl⟩
instance : TSl Go.Proofs.Try.prog 118 122 4 32 := ⟨by kernel_rfl, fun _ => by kernel_rfl, fun _ => by kernel_rfl, by kernel_rfl⟩
instance : TNI Go.Proofs.Try.prog 118 := TNI.mk' (by kernel_rfl)
instance : TAg Go.Proofs.Try.prog 119 2 := ⟨fun _ => ⟨by kernel_rfl, by kernel_rfl⟩⟩
instance : TZe Go.Proofs.Try.prog 119 (.agg #[.int .i64 0, .slice none 0 0]) := ⟨fun _ => by kernel_rfl⟩
instance : TFa Go.Proofs.Try.prog 119 0 0 := ⟨fun _ _ _ => by kernel_rfl⟩
instance : TFv Go.Proofs.Try.prog 119 0 0 1 false := ⟨by kernel_rfl⟩
instance : TFa Go.Proofs.Try.prog 119 1 1 := ⟨fun _ _ _ => by kernel_rfl⟩
instance : TFv Go.Proofs.Try.prog 119 1 1 1 false := ⟨by kernel_rfl⟩
instance : TSt Go.Proofs.Try.prog 119 [.int .i64 0, .slice none 0 0] [(0, 1), (1, 1)] := ⟨fun _ => by kernel_rfl, by kernel_rfl⟩
instance : TAg Go.Proofs.Try.prog 120 2 := ⟨fun _ => ⟨by kernel_rfl, by kernel_rfl⟩⟩
instance : TZe Go.Proofs.Try.prog 120 (.agg #[.int .i64 0, .slice none 0 0]) := ⟨fun _ => by kernel_rfl⟩
instance : TFa Go.Proofs.Try.prog 120 0 0 := ⟨fun _ _ _ => by kernel_rfl⟩
instance : TFv Go.Proofs.Try.prog 120 0 0 1 false := ⟨by kernel_rfl⟩
instance : TFa Go.Proofs.Try.prog 120 1 1 := ⟨fun _ _ _ => by kernel_rfl⟩
instance : TFv Go.Proofs.Try.prog 120 1 1 1 false := ⟨by kernel_rfl⟩
instance : TSt Go.Proofs.Try.prog 120 [.int .i64 0, .slice none 0 0] [(0, 1), (1, 1)] := ⟨fun _ => by kernel_rfl, by kernel_rfl⟩
instance : TAg Go.Proofs.Try.prog 121 4 := ⟨fun _ => ⟨by kernel_rfl, by kernel_rfl⟩⟩
instance : TZe Go.Proofs.Try.prog 121 (.agg #[.int .i64 0, .int .u64 0, .int .u64 0, .int .i64 0]) := ⟨fun _ => by kernel_rfl⟩
instance : TFa Go.Proofs.Try.prog 121 0 0 := ⟨fun _ _ _ => by kernel_rfl⟩
instance : TFv Go.Proofs.Try.prog 121 0 0 3 true := ⟨by kernel_rfl⟩
instance : TFa Go.Proofs.Try.prog 121 1 3 := ⟨fun _ _ _ => by kernel_rfl⟩
instance : TFv Go.Proofs.Try.prog 121 1 3 1 false := ⟨by kernel_rfl⟩
instance : TSt Go.Proofs.Try.prog 121 [.int .i64 0, .int .u64 0, .int .u64 0, .int .i64 0] [(0, 3), (3, 1)] := ⟨fun _ => by kernel_rfl, by kernel_rfl⟩
instance : TAg Go.Proofs.Try.prog 122 4 := ⟨fun _ => ⟨by kernel_rfl, by kernel_rfl⟩⟩
instance : TZe Go.Proofs.Try.prog 122 (.agg #[.int .i64 0, .int .u64 0, .int .u64 0, .int .i64 0]) := ⟨fun _ => by kernel_rfl⟩
instance : TFa Go.Proofs.Try.prog 122 0 0 := ⟨fun _ _ _ => by kernel_rfl⟩
instance : TFv Go.Proofs.Try.prog 122 0 0 3 true := ⟨by kernel_rfl⟩
instance : TFa Go.Proofs.Try.prog 122 1 3 := ⟨fun _ _ _ => by kernel_rfl⟩
instance : TFv Go.Proofs.Try.prog 122 1 3 1 false := ⟨by kernel_rfl⟩
instance : TSt Go.Proofs.Try.prog 122 [.int .i64 0, .int .u64 0, .int .u64 0, .int .i64 0] [(0, 3), (3, 1)] := ⟨fun _ => by kernel_rfl, by kernel_rfl⟩
instance : TAg Go.Proofs.Try.prog 125 7 := ⟨fun _ => ⟨by kernel_rfl, by kernel_rfl⟩⟩
instance : TZe Go.Proofs.Try.prog 125 (.agg #[.int .u64 0, .int .u64 0, .int .u64 0, .int .u64 0, .int .u64 0, .int .u64 0, .int .u64 0]) := ⟨fun _ => by kernel_rfl⟩
instance : TSt Go.Proofs.Try.prog 125 [.int .u64 0, .int .u64 0, .int .u64 0, .int .u64 0, .int .u64 0, .int .u64 0, .int .u64 0] [(0, 1), (1, 1), (2, 1), (3, 1), (4, 1), (5, 1), (6, 1)] := ⟨fun _ => by kernel_rfl, by kernel_rfl⟩
instance : TAg Go.Proofs.Try.prog 126 20 := ⟨fun _ => ⟨by kernel_rfl, by kernel_rfl⟩⟩
instance : TZe Go.Proofs.Try.prog 126 (.agg #[.int .i64 0, .int .i64 0, .int .u64 0, .pointer none, .int .u64 0, .int .u64 0, .int .u64 0, .int .u64 0, .int .u64 0, .int .u64 0, .int .u64 0, .int .u64 0, .int .u64 0, .int .u64 0, .int .u64 0, .int .u64 0, .int .u64 0, .int .u64 0, .int .u64 0, .int .u64 0]) := ⟨fun _ => by kernel_rfl⟩
instance : TFa Go.Proofs.Try.prog 126 0 0 := ⟨fun _ _ _ => by kernel_rfl⟩
instance : TFv Go.Proofs.Try.prog 126 0 0 1 false := ⟨by kernel_rfl⟩
instance : TFa Go.Proofs.Try.prog 126 1 1 := ⟨fun _ _ _ => by kernel_rfl⟩
instance : TFv Go.Proofs.Try.prog 126 1 1 1 false := ⟨by kernel_rfl⟩
instance : TFa Go.Proofs.Try.prog 126 2 2 := ⟨fun _ _ _ => by kernel_rfl⟩
instance : TFv Go.Proofs.Try.prog 126 2 2 1 false := ⟨by kernel_rfl⟩
instance : TFa Go.Proofs.Try.prog 126 3 3 := ⟨fun _ _ _ => by kernel_rfl⟩
instance : TFv Go.Proofs.Try.prog 126 3 3 1 false := ⟨by kernel_rfl⟩
instance : TFa Go.Proofs.Try.prog 126 4 4 := ⟨fun _ _ _ => by kernel_rfl⟩
instance : TFv Go.Proofs.Try.prog 126 4 4 1 false := ⟨by kernel_rfl⟩
instance : TFa Go.Proofs.Try.prog 126 5 5 := ⟨fun _ _ _ => by kernel_rfl⟩
instance : TFv Go.Proofs.Try.prog 126 5 5 1 false := ⟨by kernel_rfl⟩
instance : TFa Go.Proofs.Try.prog 126 6 6 := ⟨fun _ _ _ => by kernel_rfl⟩
instance : TFv Go.Proofs.Try.prog 126 6 6 7 true := ⟨by kernel_rfl⟩
instance : TFa Go.Proofs.Try.prog 126 7 13 := ⟨fun _ _ _ => by kernel_rfl⟩
instance : TFv Go.Proofs.Try.prog 126 7 13 7 true := ⟨by kernel_rfl⟩
instance : TSt Go.Proofs.Try.prog 126 [.int .i64 0, .int .i64 0, .int .u64 0, .pointer none, .int .u64 0, .int .u64 0, .int .u64 0, .int .u64 0, .int .u64 0, .int .u64 0, .int .u64 0, .int .u64 0, .int .u64 0, .int .u64 0, .int .u64 0, .int .u64 0, .int .u64 0, .int .u64 0, .int .u64 0, .int .u64 0] [(0, 1), (1, 1), (2, 1), (3, 1), (4, 1), (5, 1), (6, 7), (13, 7)] := ⟨fun _ => by kernel_rfl, by kernel_rfl⟩
instance : TAg Go.Proofs.Try.prog 127 20 := ⟨fun _ => ⟨by kernel_rfl, by kernel_rfl⟩⟩
instance : TZe Go.Proofs.Try.prog 127 (.agg #[.int .i64 0, .int .i64 0, .int .u64 0, .pointer none, .int .u64 0, .int .u64 0, .int .u64 0, .int .u64 0, .int .u64 0, .int .u64 0, .int .u64 0, .int .u64 0, .int .u64 0, .int .u64 0, .int .u64 0, .int .u64 0, .int .u64 0, .int .u64 0, .int .u64 0, .int .u64 0]) := ⟨fun _ => by kernel_rfl⟩
instance : TFa Go.Proofs.Try.prog 127 0 0 := ⟨fun _ _ _ => by kernel_rfl⟩
instance : TFv Go.Proofs.Try.prog 127 0 0 1 false := ⟨by kernel_rfl⟩
instance : TFa Go.Proofs.Try.prog 127 1 1 := ⟨fun _ _ _ => by kernel_rfl⟩
instance : TFv Go.Proofs.Try.prog 127 1 1 1 false := ⟨by kernel_rfl⟩
instance : TFa Go.Proofs.Try.prog 127 2 2 := ⟨fun _ _ _ => by kernel_rfl⟩
instance : TFv Go.Proofs.Try.prog 127 2 2 1 false := ⟨by kernel_rfl⟩
instance : TFa Go.Proofs.Try.prog 127 3 3 := ⟨fun _ _ _ => by kernel_rfl⟩
instance : TFv Go.Proofs.Try.prog 127 3 3 1 false := ⟨by kernel_rfl⟩
instance : TFa Go.Proofs.Try.prog 127 4 4 := ⟨fun _ _ _ => by kernel_rfl⟩
instance : TFv Go.Proofs.Try.prog 127 4 4 1 false := ⟨by kernel_rfl⟩
instance : TFa Go.Proofs.Try.prog 127 5 5 := ⟨fun _ _ _ => by kernel_rfl⟩
instance : TFv Go.Proofs.Try.prog 127 5 5 1 false := ⟨by kernel_rfl⟩
instance : TFa Go.Proofs.Try.prog 127 6 6 := ⟨fun _ _ _ => by kernel_rfl⟩
instance : TFv Go.Proofs.Try.prog 127 6 6 7 true := ⟨by kernel_rfl⟩
instance : TFa Go.Proofs.Try.prog 127 7 13 := ⟨fun _ _ _ => by kernel_rfl⟩
instance : TFv Go.Proofs.Try.prog 127 7 13 7 true := ⟨by kernel_rfl⟩
instance : TSt Go.Proofs.Try.prog 127 [.int .i64 0, .int .i64 0, .int .u64 0, .pointer none, .int .u64 0, .int .u64 0, .int .u64 0, .int .u64 0, .int .u64 0, .int .u64 0, .int .u64 0, .int .u64 0, .int .u64 0, .int .u64 0, .int .u64 0, .int .u64 0, .int .u64 0, .int .u64 0, .int .u64 0, .int .u64 0] [(0, 1), (1, 1), (2, 1), (3, 1), (4, 1), (5, 1), (6, 7), (13, 7)] := ⟨fun _ => by kernel_rfl, by kernel_rfl⟩
instance : TSc Go.Proofs.Try.prog 132 := ⟨fun _ => ⟨by kernel_rfl, by kernel_rfl⟩⟩
instance : TZe Go.Proofs.Try.prog 132 (.slice none 0 0) := ⟨fun _ => by kernel_rfl⟩
instance : TSl Go.Proofs.Try.prog 132 80 4 48 := ⟨by kernel_rfl, fun _ => by kernel_rfl, fun _ => by kernel_rfl, by kernel_rfl⟩
instance : TNI Go.Proofs.Try.prog 132 := TNI.mk' (by kernel_rfl)
instance : TAg Go.Proofs.Try.prog 133 3 := ⟨fun _ => ⟨by kernel_rfl, by kernel_rfl⟩⟩
instance : TZe Go.Proofs.Try.prog 133 (.agg #[.int .u64 0, .slice none 0 0, .bool false]) := ⟨fun _ => by kernel_rfl⟩
instance : TFa Go.Proofs.Try.prog 133 0 0 := ⟨fun _ _ _ => by kernel_rfl⟩
instance : TFv Go.Proofs.Try.prog 133 0 0 1 false := ⟨by kernel_rfl⟩
instance : TFa Go.Proofs.Try.prog 133 1 1 := ⟨fun _ _ _ => by kernel_rfl⟩
instance : TFv Go.Proofs.Try.prog 133 1 1 1 false := ⟨by kernel_rfl⟩
instance : TFa Go.Proofs.Try.prog 133 2 2 := ⟨fun _ _ _ => by kernel_rfl⟩
instance : TFv Go.Proofs.Try.prog 133 2 2 1 false := ⟨by kernel_rfl⟩
instance : TSt Go.Proofs.Try.prog 133 [.int .u64 0, .slice none 0 0, .bool false] [(0, 1), (1, 1), (2, 1)] := ⟨fun _ => by kernel_rfl, by kernel_rfl⟩
instance : TAg Go.Proofs.Try.prog 134 3 := ⟨fun _ => ⟨by kernel_rfl, by kernel_rfl⟩⟩
instance : TZe Go.Proofs.Try.prog 134 (.agg #[.int .u64 0, .slice none 0 0, .bool false]) := ⟨fun _ => by kernel_rfl⟩
instance : TFa Go.Proofs.Try.prog 134 0 0 := ⟨fun _ _ _ => by kernel_rfl⟩
instance : TFv Go.Proofs.Try.prog 134 0 0 1 false := ⟨by kernel_rfl⟩
instance : TFa Go.Proofs.Try.prog 134 1 1 := ⟨fun _ _ _ => by kernel_rfl⟩
instance : TFv Go.Proofs.Try.prog 134 1 1 1 false := ⟨by kernel_rfl⟩
instance : TFa Go.Proofs.Try.prog 134 2 2 := ⟨fun _ _ _ => by kernel_rfl⟩
instance : TFv Go.Proofs.Try.prog 134 2 2 1 false := ⟨by kernel_rfl⟩
instance : TSt Go.Proofs.Try.prog 134 [.int .u64 0, .slice none 0 0, .bool false] [(0, 1), (1, 1), (2, 1)] := ⟨fun _ => by kernel_rfl, by kernel_rfl⟩
instance : TSc Go.Proofs.Try.prog 153 := ⟨fun _ => ⟨by kernel_rfl, by kernel_rfl⟩⟩
instance : TIn Go.Proofs.Try.prog 153 .u64 := ⟨by kernel_rfl⟩
instance : TZe Go.Proofs.Try.prog 153 (.int .u64 0) := ⟨fun _ => by kernel_rfl⟩
instance : TKy Go.Proofs.Try.prog 153 Int (Value.int .u64) := TKy.int (by kernel_rfl)
instance : TSc Go.Proofs.Try.prog 156 := ⟨fun _ => ⟨by kernel_rfl, by kernel_rfl⟩⟩
instance : TIn Go.Proofs.Try.prog 156 .i64 := ⟨by kernel_rfl⟩
instance : TZe Go.Proofs.Try.prog 156 (.int .i64 0) := ⟨fun _ => by kernel_rfl⟩
instance : TKy Go.Proofs.Try.prog 156 Int (Value.int .i64) := TKy.int (by kernel_rfl)
instance : TSc Go.Proofs.Try.prog 165 := ⟨fun _ => ⟨by kernel_rfl, by kernel_rfl⟩⟩
instance : TIn Go.Proofs.Try.prog 165 .u64 := ⟨by kernel_rfl⟩
instance : TZe Go.Proofs.Try.prog 165 (.int .u64 0) := ⟨fun _ => by kernel_rfl⟩
instance : TKy Go.Proofs.Try.prog 165 Int (Value.int .u64) := TKy.int (by kernel_rfl)
instance : TSc Go.Proofs.Try.prog 168 := ⟨fun _ => ⟨by kernel_rfl, by kernel_rfl⟩⟩
instance : TZe Go.Proofs.Try.prog 168 (.pointer none) := ⟨fun _ => by kernel_rfl⟩
instance : TPt Go.Proofs.Try.prog 168 := ⟨⟨3, by kernel_rfl⟩⟩
instance : TSc Go.Proofs.Try.prog 170 := ⟨fun _ => ⟨by kernel_rfl, by kernel_rfl⟩⟩
instance : TZe Go.Proofs.Try.prog 170 (.pointer none) := ⟨fun _ => by kernel_rfl⟩
instance : TPt Go.Proofs.Try.prog 170 := ⟨⟨165, by kernel_rfl⟩⟩
instance : TAg Go.Proofs.Try.prog 173 4 := ⟨fun _ => ⟨by kernel_rfl, by kernel_rfl⟩⟩
instance : TZe Go.Proofs.Try.prog 173 (.agg #[.pointer none, .pointer none, .pointer none, .string ByteArray.empty]) := ⟨fun _ => by kernel_rfl⟩
instance : TFa Go.Proofs.Try.prog 173 0 0 := ⟨fun _ _ _ => by kernel_rfl⟩
instance : TFv Go.Proofs.Try.prog 173 0 0 1 false := ⟨by kernel_rfl⟩
instance : TFa Go.Proofs.Try.prog 173 1 1 := ⟨fun _ _ _ => by kernel_rfl⟩
instance : TFv Go.Proofs.Try.prog 173 1 1 1 false := ⟨by kernel_rfl⟩
instance : TFa Go.Proofs.Try.prog 173 2 2 := ⟨fun _ _ _ => by kernel_rfl⟩
instance : TFv Go.Proofs.Try.prog 173 2 2 1 false := ⟨by kernel_rfl⟩
instance : TFa Go.Proofs.Try.prog 173 3 3 := ⟨fun _ _ _ => by kernel_rfl⟩
instance : TFv Go.Proofs.Try.prog 173 3 3 1 false := ⟨by kernel_rfl⟩
instance : TSt Go.Proofs.Try.prog 173 [.pointer none, .pointer none, .pointer none, .string ByteArray.empty] [(0, 1), (1, 1), (2, 1), (3, 1)] := ⟨fun _ => by kernel_rfl, by kernel_rfl⟩
instance : TAg Go.Proofs.Try.prog 175 0 := ⟨fun _ => ⟨by kernel_rfl, by kernel_rfl⟩⟩
instance : TZe Go.Proofs.Try.prog 175 (.agg #[]) := ⟨fun _ => by kernel_rfl⟩
instance : TSt Go.Proofs.Try.prog 175 [] [] := ⟨fun _ => by kernel_rfl, by kernel_rfl⟩
instance : TAg Go.Proofs.Try.prog 176 0 := ⟨fun _ => ⟨by kernel_rfl, by kernel_rfl⟩⟩
instance : TZe Go.Proofs.Try.prog 176 (.agg #[]) := ⟨fun _ => by kernel_rfl⟩
instance : TSt Go.Proofs.Try.prog 176 [] [(0, 0)] := ⟨fun _ => by kernel_rfl, by kernel_rfl⟩
instance : TSc Go.Proofs.Try.prog 181 := ⟨fun _ => ⟨by kernel_rfl, by kernel_rfl⟩⟩
instance : TZe Go.Proofs.Try.prog 181 (.pointer none) := ⟨fun _ => by kernel_rfl⟩
instance : TPt Go.Proofs.Try.prog 181 := ⟨⟨5, by kernel_rfl⟩⟩
instance : TAg Go.Proofs.Try.prog 184 11 := ⟨fun _ => ⟨by kernel_rfl, by kernel_rfl⟩⟩
instance : TZe Go.Proofs.Try.prog 184 (.agg #[.int .u64 0, .int .u64 0, .int .u32 0, .int .u8 0, .int .u8 0, .int .u8 0, .int .u8 0, .nilFunc, .pointer none, .int .i32 0, .int .i32 0]) := ⟨fun _ => by kernel_rfl⟩
instance : TFa Go.Proofs.Try.prog 184 0 0 := ⟨fun _ _ _ => by kernel_rfl⟩
instance : TFv Go.Proofs.Try.prog 184 0 0 1 false := ⟨by kernel_rfl⟩
instance : TFa Go.Proofs.Try.prog 184 1 1 := ⟨fun _ _ _ => by kernel_rfl⟩
instance : TFv Go.Proofs.Try.prog 184 1 1 1 false := ⟨by kernel_rfl⟩
instance : TFa Go.Proofs.Try.prog 184 2 2 := ⟨fun _ _ _ => by kernel_rfl⟩
instance : TFv Go.Proofs.Try.prog 184 2 2 1 false := ⟨by kernel_rfl⟩
instance : TFa Go.Proofs.Try.prog 184 3 3 := ⟨fun _ _ _ => by kernel_rfl⟩
instance : TFv Go.Proofs.Try.prog 184 3 3 1 false := ⟨by kernel_rfl⟩
instance : TFa Go.Proofs.Try.prog 184 4 4 := ⟨fun _ _ _ => by kernel_rfl⟩
instance : TFv Go.Proofs.Try.prog 184 4 4 1 false := ⟨by kernel_rfl⟩
instance : TFa Go.Proofs.Try.prog 184 5 5 := ⟨fun _ _ _ => by kernel_rfl⟩
instance : TFv Go.Proofs.Try.prog 184 5 5 1 false := ⟨by kernel_rfl⟩
instance : TFa Go.Proofs.Try.prog 184 6 6 := ⟨fun _ _ _ => by kernel_rfl⟩
instance : TFv Go.Proofs.Try.prog 184 6 6 1 false := ⟨by kernel_rfl⟩
instance : TFa Go.Proofs.Try.prog 184 7 7 := ⟨fun _ _ _ => by kernel_rfl⟩
instance : TFv Go.Proofs.Try.prog 184 7 7 1 false := ⟨by kernel_rfl⟩
instance : TFa Go.Proofs.Try.prog 184 8 8 := ⟨fun _ _ _ => by kernel_rfl⟩
instance : TFv Go.Proofs.Try.prog 184 8 8 1 false := ⟨by kernel_rfl⟩
instance : TFa Go.Proofs.Try.prog 184 9 9 := ⟨fun _ _ _ => by kernel_rfl⟩
instance : TFv Go.Proofs.Try.prog 184 9 9 1 false := ⟨by kernel_rfl⟩
instance : TFa Go.Proofs.Try.prog 184 10 10 := ⟨fun _ _ _ => by kernel_rfl⟩
instance : TFv Go.Proofs.Try.prog 184 10 10 1 false := ⟨by kernel_rfl⟩
instance : TSt Go.Proofs.Try.prog 184 [.int .u64 0, .int .u64 0, .int .u32 0, .int .u8 0, .int .u8 0, .int .u8 0, .int .u8 0, .nilFunc, .pointer none, .int .i32 0, .int .i32 0] [(0, 1), (1, 1), (2, 1), (3, 1), (4, 1), (5, 1), (6, 1), (7, 1), (8, 1), (9, 1), (10, 1)] := ⟨fun _ => by kernel_rfl, by kernel_rfl⟩
instance : TAg Go.Proofs.Try.prog 186 3 := ⟨fun _ => ⟨by kernel_rfl, by kernel_rfl⟩⟩
instance : TFl Go.Proofs.Try.prog 186 [0, 0, 0] := ⟨by kernel_rfl, by kernel_rfl, by kernel_rfl, by kernel_rfl⟩
instance : TZe Go.Proofs.Try.prog 186 (.agg #[.int .u32 0, .int .u64 0, .int .u64 0]) := ⟨fun _ => by kernel_rfl⟩
instance : TFa Go.Proofs.Try.prog 186 0 0 := ⟨fun _ _ _ => by kernel_rfl⟩
instance : TFv Go.Proofs.Try.prog 186 0 0 1 false := ⟨by kernel_rfl⟩
instance : TFa Go.Proofs.Try.prog 186 1 1 := ⟨fun _ _ _ => by kernel_rfl⟩
instance : TFv Go.Proofs.Try.prog 186 1 1 1 false := ⟨by kernel_rfl⟩
instance : TFa Go.Proofs.Try.prog 186 2 2 := ⟨fun _ _ _ => by kernel_rfl⟩
instance : TFv Go.Proofs.Try.prog 186 2 2 1 false := ⟨by kernel_rfl⟩
instance : TSt Go.Proofs.Try.prog 186 [.int .u32 0, .int .u64 0, .int .u64 0] [(0, 1), (1, 1), (2, 1)] := ⟨fun _ => by kernel_rfl, by kernel_rfl⟩
instance : TAg Go.Proofs.Try.prog 187 3 := ⟨fun _ => ⟨by kernel_rfl, by kernel_rfl⟩⟩
instance : TFl Go.Proofs.Try.prog 187 [0, 0, 0] := ⟨by kernel_rfl, by kernel_rfl, by kernel_rfl, by kernel_rfl⟩
instance : TZe Go.Proofs.Try.prog 187 (.agg #[.int .u32 0, .int .u64 0, .int .u64 0]) := ⟨fun _ => by kernel_rfl⟩
instance : TFa Go.Proofs.Try.prog 187 0 0 := ⟨fun _ _ _ => by kernel_rfl⟩
instance : TFv Go.Proofs.Try.prog 187 0 0 1 false := ⟨by kernel_rfl⟩
instance : TFa Go.Proofs.Try.prog 187 1 1 := ⟨fun _ _ _ => by kernel_rfl⟩
instance : TFv Go.Proofs.Try.prog 187 1 1 1 false := ⟨by kernel_rfl⟩
instance : TFa Go.Proofs.Try.prog 187 2 2 := ⟨fun _ _ _ => by kernel_rfl⟩
instance : TFv Go.Proofs.Try.prog 187 2 2 1 false := ⟨by kernel_rfl⟩
instance : TSt Go.Proofs.Try.prog 187 [.int .u32 0, .int .u64 0, .int .u64 0] [(0, 1), (1, 1), (2, 1)] := ⟨fun _ => by kernel_rfl, by kernel_rfl⟩
-- function 0: main.main
-- function 1: gosem.cut
-- function 2: gosem.cut.init
-- function 3: copybook/copybooklaw20.VotesNth
-- function 4: copybook/copybooklaw20.VotesPlace
-- function 5: copybook/copybooklaw20.VotesCommon
-- function 6: copybook/copybooklaw20.VotesOrder
-- function 7: copybook/copybooklaw20.VotesPlays
-- function 8: copybook/copybooklaw20.VotesKnown
-- function 9: copybook/copybooklaw21.CoreMost
-- function 10: copybook/copybooklaw21.CoreComes
-- function 11: copybook/copybooklaw21.CoreCuts
-- function 12: copybook/copybooklaw21.CoreAgrees
-- function 13: copybook/copybooklaw21.CoreKnown
-- function 14: copybook/votes.Nth
-- function 15: copybook/copybookref20.Nth
-- function 16: copybook/votes.Most
-- function 17: copybook/copybookref20.Most
-- function 18: copybook/copybooklaw20.wakes
-- function 19: copybook/votes.New
-- function 20: (*copybook/votes.Votes).Add
-- function 21: (*copybook/votes.Votes).Has
-- function 22: (*copybook/votes.Votes).Count
-- function 23: copybook/copybooklaw20.VotesOrder$1
-- function 24: copybook/copybookref20.Same
-- function 25: (*copybook/votes.Votes).Who
-- function 26: (*copybook/votes.Votes).Drop
-- function 27: (*copybook/votes.Votes).Below
-- function 28: copybook/copybookref20.New
-- function 29: (*copybook/copybookref20.Votes).Add
-- function 30: (*copybook/copybookref20.Votes).Drop
-- function 31: (*copybook/copybookref20.Votes).Below
-- function 32: (*copybook/votes.Votes).Copy
-- function 33: (*copybook/copybookref20.Votes).Who
-- function 34: (*copybook/copybookref20.Votes).Has
-- function 35: copybook/copybooklaw21.begun
-- function 36: copybook/copybooklaw21.awake
-- function 37: copybook/copybooklaw21.CoreMost$1
-- function 38: (*copybook/copybooklaw21.group).does
-- function 39: (*copybook/copybooklaw21.group).come
-- function 40: (*copybook/core.Core).Commit
-- function 41: copybook/copybooklaw21.CoreComes$1
-- function 42: (*copybook/core.Core).Op
-- function 43: (*copybook/core.Core).Floor
-- function 44: (*copybook/copybooklaw21.group).primary
-- function 45: (*copybook/core.Core).Propose
-- function 46: copybook/copybooklaw21.entry
-- function 47: (*copybook/core.Core).Beat
-- function 48: (*copybook/core.Core).Cut
-- function 49: (*copybook/core.Core).Log
-- function 50: (*copybook/logs.Log).Base
-- function 51: copybook/copybooklaw21.made
-- function 52: (*copybook/core.Core).Prepare
-- function 53: (*copybook/copybooklaw21.group).agrees
-- function 54: copybook/logs.New
-- function 55: copybook/core.New
-- function 56: (*copybook/core.Core).Primary
-- function 57: (*copybook/core.Core).Ok
-- function 58: (*copybook/core.Core).View
-- function 59: (*copybook/core.Core).Copy
-- function 60: slices.Sorted[uint64]
-- function 61: slices.Values[[]uint64,uint64]
-- function 62: (*copybook/votes.Votes).none
-- function 63: slices.Contains[[]int,int]
-- function 64: maps.DeleteFunc[map[copybook/votes.Matter][7]bool,copybook/votes.Matter,[7]bool]
-- function 65: (*copybook/votes.Votes).Below$1
-- function 66: maps.Clone[map[copybook/votes.Matter][7]bool,copybook/votes.Matter,[7]bool]
-- function 67: (*copybook/core.Core).Heard
-- function 68: (*copybook/copybooklaw21.group).all
-- function 69: (*copybook/logs.Log).Len
-- function 70: (*copybook/core.Core).none
-- function 71: (*copybook/logs.Log).Op
-- function 72: (*copybook/logs.Log).Append
-- function 73: (*copybook/core.Core).goes
-- function 74: (*copybook/logs.Log).Get
-- function 75: (*copybook/logs.Log).Cut
-- function 76: (*copybook/logs.Log).Copy
-- function 77: (*copybook/logs.Log).none
-- function 78: (*copybook/core.Core).right
-- function 79: (*copybook/core.Core).learns
-- function 80: (*copybook/logs.Log).From
-- function 81: copybook/logs.Same
-- function 82: copybook/logs.owns
-- function 83: copybook/change.Primary
-- function 84: slices.Collect[uint64]
-- function 85: slices.Sort[[]uint64,uint64]
-- function 86: slices.Values[[]uint64,uint64]$1
-- function 87: slices.Index[[]int,int]
-- function 88: maps.clone
-- function 89: slices.Clone[[]copybook/api.Entry,copybook/api.Entry]
-- function 90: copybook/logs.own
-- function 91: (*copybook/core.Core).goes$1
-- function 92: (*copybook/logs.Log).at
-- function 93: (*copybook/logs.Log).Get$1
-- function 94: (*copybook/logs.Log).Cut$1
-- function 95: (*copybook/logs.Log).From$1
-- function 96: bytes.Equal
-- function 97: slices.AppendSeq[[]uint64,uint64]
-- function 98: slices.pdqsortOrdered[uint64]
-- function 99: math/bits.Len
-- function 100: bytes.Clone
-- function 101: slices.insertionSortOrdered[uint64]
-- function 102: slices.heapSortOrdered[uint64]
-- function 103: slices.breakPatternsOrdered[uint64]
-- function 104: slices.choosePivotOrdered[uint64]
-- function 105: slices.reverseRangeOrdered[uint64]
-- function 106: slices.partialInsertionSortOrdered[uint64]
-- function 107: cmp.Less[uint64]
-- function 108: slices.partitionEqualOrdered[uint64]
-- function 109: slices.partitionOrdered[uint64]
-- function 110: math/bits.Len32
-- function 111: math/bits.Len64
-- function 112: slices.siftDownOrdered[uint64]
-- function 113: slices.nextPowerOfTwo
-- function 114: (*slices.xorshift).Next
-- function 115: slices.medianAdjacentOrdered[uint64]
-- function 116: slices.medianOrdered[uint64]
-- function 117: cmp.isNaN[uint64]
-- function 118: slices.order2Ordered[uint64]
-- function 119: (runtime.boundsError).Error
-- function 120: (runtime.boundsError).RuntimeError
-- function 121: (runtime.errorString).Error
-- function 122: (runtime.errorString).RuntimeError
-- function 123: (runtime.plainError).Error
-- function 124: (runtime.plainError).RuntimeError
-- function 125: (runtime.errorAddressString).Error
-- function 126: (runtime.errorAddressString).RuntimeError
-- function 127: (*runtime.TypeAssertionError).Error
-- function 128: (*runtime.TypeAssertionError).RuntimeError
-- function 129: (*runtime.PanicNilError).Error
-- function 130: (*runtime.PanicNilError).RuntimeError
-- function 131: (*internal/abi.Type).Align
-- function 132: (internal/runtime/maps.unhashableTypeError).Error
-- function 133: (internal/runtime/maps.unhashableTypeError).RuntimeError
-- function 134: (internal/abi.Kind).String
theorem call2 : ∀ (xs : Array Value) (w : World), (callFunc 2 xs).run Try.prog w = .ok (.enter 2 xs) w := fun _ _ => by kernel_rfl
theorem call3 : ∀ (xs : Array Value) (w : World), (callFunc 3 xs).run Try.prog w = .ok (.enter 3 xs) w := fun _ _ => by kernel_rfl
theorem call4 : ∀ (xs : Array Value) (w : World), (callFunc 4 xs).run Try.prog w = .ok (.enter 4 xs) w := fun _ _ => by kernel_rfl
theorem call5 : ∀ (xs : Array Value) (w : World), (callFunc 5 xs).run Try.prog w = .ok (.enter 5 xs) w := fun _ _ => by kernel_rfl
theorem call6 : ∀ (xs : Array Value) (w : World), (callFunc 6 xs).run Try.prog w = .ok (.enter 6 xs) w := fun _ _ => by kernel_rfl
theorem call7 : ∀ (xs : Array Value) (w : World), (callFunc 7 xs).run Try.prog w = .ok (.enter 7 xs) w := fun _ _ => by kernel_rfl
theorem call8 : ∀ (xs : Array Value) (w : World), (callFunc 8 xs).run Try.prog w = .ok (.enter 8 xs) w := fun _ _ => by kernel_rfl
theorem call9 : ∀ (xs : Array Value) (w : World), (callFunc 9 xs).run Try.prog w = .ok (.enter 9 xs) w := fun _ _ => by kernel_rfl
theorem call10 : ∀ (xs : Array Value) (w : World), (callFunc 10 xs).run Try.prog w = .ok (.enter 10 xs) w := fun _ _ => by kernel_rfl
theorem call11 : ∀ (xs : Array Value) (w : World), (callFunc 11 xs).run Try.prog w = .ok (.enter 11 xs) w := fun _ _ => by kernel_rfl
theorem call12 : ∀ (xs : Array Value) (w : World), (callFunc 12 xs).run Try.prog w = .ok (.enter 12 xs) w := fun _ _ => by kernel_rfl
theorem call13 : ∀ (xs : Array Value) (w : World), (callFunc 13 xs).run Try.prog w = .ok (.enter 13 xs) w := fun _ _ => by kernel_rfl
theorem call14 : ∀ (xs : Array Value) (w : World), (callFunc 14 xs).run Try.prog w = .ok (.enter 14 xs) w := fun _ _ => by kernel_rfl
theorem call15 : ∀ (xs : Array Value) (w : World), (callFunc 15 xs).run Try.prog w = .ok (.enter 15 xs) w := fun _ _ => by kernel_rfl
theorem call16 : ∀ (xs : Array Value) (w : World), (callFunc 16 xs).run Try.prog w = .ok (.enter 16 xs) w := fun _ _ => by kernel_rfl
theorem call17 : ∀ (xs : Array Value) (w : World), (callFunc 17 xs).run Try.prog w = .ok (.enter 17 xs) w := fun _ _ => by kernel_rfl
theorem call18 : ∀ (xs : Array Value) (w : World), (callFunc 18 xs).run Try.prog w = .ok (.enter 18 xs) w := fun _ _ => by kernel_rfl
theorem call19 : ∀ (xs : Array Value) (w : World), (callFunc 19 xs).run Try.prog w = .ok (.enter 19 xs) w := fun _ _ => by kernel_rfl
theorem call20 : ∀ (xs : Array Value) (w : World), (callFunc 20 xs).run Try.prog w = .ok (.enter 20 xs) w := fun _ _ => by kernel_rfl
theorem call21 : ∀ (xs : Array Value) (w : World), (callFunc 21 xs).run Try.prog w = .ok (.enter 21 xs) w := fun _ _ => by kernel_rfl
theorem call22 : ∀ (xs : Array Value) (w : World), (callFunc 22 xs).run Try.prog w = .ok (.enter 22 xs) w := fun _ _ => by kernel_rfl
theorem call23 : ∀ (xs : Array Value) (w : World), (callFunc 23 xs).run Try.prog w = .ok (.enter 23 xs) w := fun _ _ => by kernel_rfl
theorem call24 : ∀ (xs : Array Value) (w : World), (callFunc 24 xs).run Try.prog w = .ok (.enter 24 xs) w := fun _ _ => by kernel_rfl
theorem call25 : ∀ (xs : Array Value) (w : World), (callFunc 25 xs).run Try.prog w = .ok (.enter 25 xs) w := fun _ _ => by kernel_rfl
theorem call26 : ∀ (xs : Array Value) (w : World), (callFunc 26 xs).run Try.prog w = .ok (.enter 26 xs) w := fun _ _ => by kernel_rfl
theorem call27 : ∀ (xs : Array Value) (w : World), (callFunc 27 xs).run Try.prog w = .ok (.enter 27 xs) w := fun _ _ => by kernel_rfl
theorem call28 : ∀ (xs : Array Value) (w : World), (callFunc 28 xs).run Try.prog w = .ok (.enter 28 xs) w := fun _ _ => by kernel_rfl
theorem call29 : ∀ (xs : Array Value) (w : World), (callFunc 29 xs).run Try.prog w = .ok (.enter 29 xs) w := fun _ _ => by kernel_rfl
theorem call30 : ∀ (xs : Array Value) (w : World), (callFunc 30 xs).run Try.prog w = .ok (.enter 30 xs) w := fun _ _ => by kernel_rfl
theorem call31 : ∀ (xs : Array Value) (w : World), (callFunc 31 xs).run Try.prog w = .ok (.enter 31 xs) w := fun _ _ => by kernel_rfl
theorem call32 : ∀ (xs : Array Value) (w : World), (callFunc 32 xs).run Try.prog w = .ok (.enter 32 xs) w := fun _ _ => by kernel_rfl
theorem call33 : ∀ (xs : Array Value) (w : World), (callFunc 33 xs).run Try.prog w = .ok (.enter 33 xs) w := fun _ _ => by kernel_rfl
theorem call34 : ∀ (xs : Array Value) (w : World), (callFunc 34 xs).run Try.prog w = .ok (.enter 34 xs) w := fun _ _ => by kernel_rfl
theorem call35 : ∀ (xs : Array Value) (w : World), (callFunc 35 xs).run Try.prog w = .ok (.enter 35 xs) w := fun _ _ => by kernel_rfl
theorem call36 : ∀ (xs : Array Value) (w : World), (callFunc 36 xs).run Try.prog w = .ok (.enter 36 xs) w := fun _ _ => by kernel_rfl
theorem call37 : ∀ (xs : Array Value) (w : World), (callFunc 37 xs).run Try.prog w = .ok (.enter 37 xs) w := fun _ _ => by kernel_rfl
theorem call38 : ∀ (xs : Array Value) (w : World), (callFunc 38 xs).run Try.prog w = .ok (.enter 38 xs) w := fun _ _ => by kernel_rfl
theorem call39 : ∀ (xs : Array Value) (w : World), (callFunc 39 xs).run Try.prog w = .ok (.enter 39 xs) w := fun _ _ => by kernel_rfl
theorem call40 : ∀ (xs : Array Value) (w : World), (callFunc 40 xs).run Try.prog w = .ok (.enter 40 xs) w := fun _ _ => by kernel_rfl
theorem call41 : ∀ (xs : Array Value) (w : World), (callFunc 41 xs).run Try.prog w = .ok (.enter 41 xs) w := fun _ _ => by kernel_rfl
theorem call42 : ∀ (xs : Array Value) (w : World), (callFunc 42 xs).run Try.prog w = .ok (.enter 42 xs) w := fun _ _ => by kernel_rfl
theorem call43 : ∀ (xs : Array Value) (w : World), (callFunc 43 xs).run Try.prog w = .ok (.enter 43 xs) w := fun _ _ => by kernel_rfl
theorem call44 : ∀ (xs : Array Value) (w : World), (callFunc 44 xs).run Try.prog w = .ok (.enter 44 xs) w := fun _ _ => by kernel_rfl
theorem call45 : ∀ (xs : Array Value) (w : World), (callFunc 45 xs).run Try.prog w = .ok (.enter 45 xs) w := fun _ _ => by kernel_rfl
theorem call46 : ∀ (xs : Array Value) (w : World), (callFunc 46 xs).run Try.prog w = .ok (.enter 46 xs) w := fun _ _ => by kernel_rfl
theorem call47 : ∀ (xs : Array Value) (w : World), (callFunc 47 xs).run Try.prog w = .ok (.enter 47 xs) w := fun _ _ => by kernel_rfl
theorem call48 : ∀ (xs : Array Value) (w : World), (callFunc 48 xs).run Try.prog w = .ok (.enter 48 xs) w := fun _ _ => by kernel_rfl
theorem call49 : ∀ (xs : Array Value) (w : World), (callFunc 49 xs).run Try.prog w = .ok (.enter 49 xs) w := fun _ _ => by kernel_rfl
theorem call50 : ∀ (xs : Array Value) (w : World), (callFunc 50 xs).run Try.prog w = .ok (.enter 50 xs) w := fun _ _ => by kernel_rfl
theorem call51 : ∀ (xs : Array Value) (w : World), (callFunc 51 xs).run Try.prog w = .ok (.enter 51 xs) w := fun _ _ => by kernel_rfl
theorem call52 : ∀ (xs : Array Value) (w : World), (callFunc 52 xs).run Try.prog w = .ok (.enter 52 xs) w := fun _ _ => by kernel_rfl
theorem call53 : ∀ (xs : Array Value) (w : World), (callFunc 53 xs).run Try.prog w = .ok (.enter 53 xs) w := fun _ _ => by kernel_rfl
theorem call54 : ∀ (xs : Array Value) (w : World), (callFunc 54 xs).run Try.prog w = .ok (.enter 54 xs) w := fun _ _ => by kernel_rfl
theorem call55 : ∀ (xs : Array Value) (w : World), (callFunc 55 xs).run Try.prog w = .ok (.enter 55 xs) w := fun _ _ => by kernel_rfl
theorem call56 : ∀ (xs : Array Value) (w : World), (callFunc 56 xs).run Try.prog w = .ok (.enter 56 xs) w := fun _ _ => by kernel_rfl
theorem call57 : ∀ (xs : Array Value) (w : World), (callFunc 57 xs).run Try.prog w = .ok (.enter 57 xs) w := fun _ _ => by kernel_rfl
theorem call58 : ∀ (xs : Array Value) (w : World), (callFunc 58 xs).run Try.prog w = .ok (.enter 58 xs) w := fun _ _ => by kernel_rfl
theorem call59 : ∀ (xs : Array Value) (w : World), (callFunc 59 xs).run Try.prog w = .ok (.enter 59 xs) w := fun _ _ => by kernel_rfl
theorem call60 : ∀ (xs : Array Value) (w : World), (callFunc 60 xs).run Try.prog w = .ok (.enter 60 xs) w := fun _ _ => by kernel_rfl
theorem call61 : ∀ (xs : Array Value) (w : World), (callFunc 61 xs).run Try.prog w = .ok (.enter 61 xs) w := fun _ _ => by kernel_rfl
theorem call62 : ∀ (xs : Array Value) (w : World), (callFunc 62 xs).run Try.prog w = .ok (.enter 62 xs) w := fun _ _ => by kernel_rfl
theorem call63 : ∀ (xs : Array Value) (w : World), (callFunc 63 xs).run Try.prog w = .ok (.enter 63 xs) w := fun _ _ => by kernel_rfl
theorem call64 : ∀ (xs : Array Value) (w : World), (callFunc 64 xs).run Try.prog w = .ok (.enter 64 xs) w := fun _ _ => by kernel_rfl
theorem call65 : ∀ (xs : Array Value) (w : World), (callFunc 65 xs).run Try.prog w = .ok (.enter 65 xs) w := fun _ _ => by kernel_rfl
theorem call66 : ∀ (xs : Array Value) (w : World), (callFunc 66 xs).run Try.prog w = .ok (.enter 66 xs) w := fun _ _ => by kernel_rfl
theorem call67 : ∀ (xs : Array Value) (w : World), (callFunc 67 xs).run Try.prog w = .ok (.enter 67 xs) w := fun _ _ => by kernel_rfl
theorem call68 : ∀ (xs : Array Value) (w : World), (callFunc 68 xs).run Try.prog w = .ok (.enter 68 xs) w := fun _ _ => by kernel_rfl
theorem call69 : ∀ (xs : Array Value) (w : World), (callFunc 69 xs).run Try.prog w = .ok (.enter 69 xs) w := fun _ _ => by kernel_rfl
theorem call70 : ∀ (xs : Array Value) (w : World), (callFunc 70 xs).run Try.prog w = .ok (.enter 70 xs) w := fun _ _ => by kernel_rfl
theorem call71 : ∀ (xs : Array Value) (w : World), (callFunc 71 xs).run Try.prog w = .ok (.enter 71 xs) w := fun _ _ => by kernel_rfl
theorem call72 : ∀ (xs : Array Value) (w : World), (callFunc 72 xs).run Try.prog w = .ok (.enter 72 xs) w := fun _ _ => by kernel_rfl
theorem call73 : ∀ (xs : Array Value) (w : World), (callFunc 73 xs).run Try.prog w = .ok (.enter 73 xs) w := fun _ _ => by kernel_rfl
theorem call74 : ∀ (xs : Array Value) (w : World), (callFunc 74 xs).run Try.prog w = .ok (.enter 74 xs) w := fun _ _ => by kernel_rfl
theorem call75 : ∀ (xs : Array Value) (w : World), (callFunc 75 xs).run Try.prog w = .ok (.enter 75 xs) w := fun _ _ => by kernel_rfl
theorem call76 : ∀ (xs : Array Value) (w : World), (callFunc 76 xs).run Try.prog w = .ok (.enter 76 xs) w := fun _ _ => by kernel_rfl
theorem call77 : ∀ (xs : Array Value) (w : World), (callFunc 77 xs).run Try.prog w = .ok (.enter 77 xs) w := fun _ _ => by kernel_rfl
theorem call78 : ∀ (xs : Array Value) (w : World), (callFunc 78 xs).run Try.prog w = .ok (.enter 78 xs) w := fun _ _ => by kernel_rfl
theorem call79 : ∀ (xs : Array Value) (w : World), (callFunc 79 xs).run Try.prog w = .ok (.enter 79 xs) w := fun _ _ => by kernel_rfl
theorem call80 : ∀ (xs : Array Value) (w : World), (callFunc 80 xs).run Try.prog w = .ok (.enter 80 xs) w := fun _ _ => by kernel_rfl
theorem call81 : ∀ (xs : Array Value) (w : World), (callFunc 81 xs).run Try.prog w = .ok (.enter 81 xs) w := fun _ _ => by kernel_rfl
theorem call82 : ∀ (xs : Array Value) (w : World), (callFunc 82 xs).run Try.prog w = .ok (.enter 82 xs) w := fun _ _ => by kernel_rfl
theorem call83 : ∀ (xs : Array Value) (w : World), (callFunc 83 xs).run Try.prog w = .ok (.enter 83 xs) w := fun _ _ => by kernel_rfl
theorem call84 : ∀ (xs : Array Value) (w : World), (callFunc 84 xs).run Try.prog w = .ok (.enter 84 xs) w := fun _ _ => by kernel_rfl
theorem call85 : ∀ (xs : Array Value) (w : World), (callFunc 85 xs).run Try.prog w = .ok (.enter 85 xs) w := fun _ _ => by kernel_rfl
theorem call86 : ∀ (xs : Array Value) (w : World), (callFunc 86 xs).run Try.prog w = .ok (.enter 86 xs) w := fun _ _ => by kernel_rfl
theorem call87 : ∀ (xs : Array Value) (w : World), (callFunc 87 xs).run Try.prog w = .ok (.enter 87 xs) w := fun _ _ => by kernel_rfl
theorem call89 : ∀ (xs : Array Value) (w : World), (callFunc 89 xs).run Try.prog w = .ok (.enter 89 xs) w := fun _ _ => by kernel_rfl
theorem call90 : ∀ (xs : Array Value) (w : World), (callFunc 90 xs).run Try.prog w = .ok (.enter 90 xs) w := fun _ _ => by kernel_rfl
theorem call91 : ∀ (xs : Array Value) (w : World), (callFunc 91 xs).run Try.prog w = .ok (.enter 91 xs) w := fun _ _ => by kernel_rfl
theorem call92 : ∀ (xs : Array Value) (w : World), (callFunc 92 xs).run Try.prog w = .ok (.enter 92 xs) w := fun _ _ => by kernel_rfl
theorem call93 : ∀ (xs : Array Value) (w : World), (callFunc 93 xs).run Try.prog w = .ok (.enter 93 xs) w := fun _ _ => by kernel_rfl
theorem call94 : ∀ (xs : Array Value) (w : World), (callFunc 94 xs).run Try.prog w = .ok (.enter 94 xs) w := fun _ _ => by kernel_rfl
theorem call95 : ∀ (xs : Array Value) (w : World), (callFunc 95 xs).run Try.prog w = .ok (.enter 95 xs) w := fun _ _ => by kernel_rfl
theorem call96 : ∀ (xs : Array Value) (w : World), (callFunc 96 xs).run Try.prog w = .ok (.enter 96 xs) w := fun _ _ => by kernel_rfl
theorem call97 : ∀ (xs : Array Value) (w : World), (callFunc 97 xs).run Try.prog w = .ok (.enter 97 xs) w := fun _ _ => by kernel_rfl
theorem call98 : ∀ (xs : Array Value) (w : World), (callFunc 98 xs).run Try.prog w = .ok (.enter 98 xs) w := fun _ _ => by kernel_rfl
theorem call99 : ∀ (xs : Array Value) (w : World), (callFunc 99 xs).run Try.prog w = .ok (.enter 99 xs) w := fun _ _ => by kernel_rfl
theorem call100 : ∀ (xs : Array Value) (w : World), (callFunc 100 xs).run Try.prog w = .ok (.enter 100 xs) w := fun _ _ => by kernel_rfl
theorem call101 : ∀ (xs : Array Value) (w : World), (callFunc 101 xs).run Try.prog w = .ok (.enter 101 xs) w := fun _ _ => by kernel_rfl
theorem call102 : ∀ (xs : Array Value) (w : World), (callFunc 102 xs).run Try.prog w = .ok (.enter 102 xs) w := fun _ _ => by kernel_rfl
theorem call103 : ∀ (xs : Array Value) (w : World), (callFunc 103 xs).run Try.prog w = .ok (.enter 103 xs) w := fun _ _ => by kernel_rfl
theorem call104 : ∀ (xs : Array Value) (w : World), (callFunc 104 xs).run Try.prog w = .ok (.enter 104 xs) w := fun _ _ => by kernel_rfl
theorem call105 : ∀ (xs : Array Value) (w : World), (callFunc 105 xs).run Try.prog w = .ok (.enter 105 xs) w := fun _ _ => by kernel_rfl
theorem call106 : ∀ (xs : Array Value) (w : World), (callFunc 106 xs).run Try.prog w = .ok (.enter 106 xs) w := fun _ _ => by kernel_rfl
theorem call107 : ∀ (xs : Array Value) (w : World), (callFunc 107 xs).run Try.prog w = .ok (.enter 107 xs) w := fun _ _ => by kernel_rfl
theorem call108 : ∀ (xs : Array Value) (w : World), (callFunc 108 xs).run Try.prog w = .ok (.enter 108 xs) w := fun _ _ => by kernel_rfl
theorem call109 : ∀ (xs : Array Value) (w : World), (callFunc 109 xs).run Try.prog w = .ok (.enter 109 xs) w := fun _ _ => by kernel_rfl
theorem call110 : ∀ (xs : Array Value) (w : World), (callFunc 110 xs).run Try.prog w = .ok (.enter 110 xs) w := fun _ _ => by kernel_rfl
theorem call111 : ∀ (xs : Array Value) (w : World), (callFunc 111 xs).run Try.prog w = .ok (.enter 111 xs) w := fun _ _ => by kernel_rfl
theorem call112 : ∀ (xs : Array Value) (w : World), (callFunc 112 xs).run Try.prog w = .ok (.enter 112 xs) w := fun _ _ => by kernel_rfl
theorem call113 : ∀ (xs : Array Value) (w : World), (callFunc 113 xs).run Try.prog w = .ok (.enter 113 xs) w := fun _ _ => by kernel_rfl
theorem call114 : ∀ (xs : Array Value) (w : World), (callFunc 114 xs).run Try.prog w = .ok (.enter 114 xs) w := fun _ _ => by kernel_rfl
theorem call115 : ∀ (xs : Array Value) (w : World), (callFunc 115 xs).run Try.prog w = .ok (.enter 115 xs) w := fun _ _ => by kernel_rfl
theorem call116 : ∀ (xs : Array Value) (w : World), (callFunc 116 xs).run Try.prog w = .ok (.enter 116 xs) w := fun _ _ => by kernel_rfl
theorem call117 : ∀ (xs : Array Value) (w : World), (callFunc 117 xs).run Try.prog w = .ok (.enter 117 xs) w := fun _ _ => by kernel_rfl
theorem call118 : ∀ (xs : Array Value) (w : World), (callFunc 118 xs).run Try.prog w = .ok (.enter 118 xs) w := fun _ _ => by kernel_rfl
theorem mixed : Try.prog.follows .mixedOrders = true := by kernel_rfl
end SL
