/- Written by gen_ty.py: facts on this seat's types and functions, each closed. -/
import Derived.Test.YtidogcbcknpdiaaSl13
import Derived.Test.YtidogcbcknpdiaaChecked
namespace SL
open Go Go.Proofs

instance : TSc Go.Proofs.Try.prog 2 := ⟨fun _ => ⟨by kernel_rfl, by kernel_rfl⟩⟩
instance : TIn Go.Proofs.Try.prog 2 .i64 := ⟨by kernel_rfl⟩
instance : TZe Go.Proofs.Try.prog 2 (.int .i64 0) := ⟨fun _ => by kernel_rfl⟩
instance : TKy Go.Proofs.Try.prog 2 Int (Value.int .i64) := TKy.int (by kernel_rfl)
instance : TSc Go.Proofs.Try.prog 3 := ⟨fun _ => ⟨by kernel_rfl, by kernel_rfl⟩⟩
instance : TIn Go.Proofs.Try.prog 3 .i64 := ⟨by kernel_rfl⟩
instance : TZe Go.Proofs.Try.prog 3 (.int .i64 0) := ⟨fun _ => by kernel_rfl⟩
instance : TKy Go.Proofs.Try.prog 3 Int (Value.int .i64) := TKy.int (by kernel_rfl)
instance : TSc Go.Proofs.Try.prog 4 := ⟨fun _ => ⟨by kernel_rfl, by kernel_rfl⟩⟩
instance : TBo Go.Proofs.Try.prog 4 := ⟨by kernel_rfl⟩
instance : TZe Go.Proofs.Try.prog 4 (.bool false) := ⟨fun _ => by kernel_rfl⟩
instance : TSc Go.Proofs.Try.prog 5 := ⟨fun _ => ⟨by kernel_rfl, by kernel_rfl⟩⟩
instance : TIn Go.Proofs.Try.prog 5 .u8 := ⟨by kernel_rfl⟩
instance : TZe Go.Proofs.Try.prog 5 (.int .u8 0) := ⟨fun _ => by kernel_rfl⟩
instance : TKy Go.Proofs.Try.prog 5 Int (Value.int .u8) := TKy.int (by kernel_rfl)
instance : TAg Go.Proofs.Try.prog 7 4 := ⟨fun _ => ⟨by kernel_rfl, by kernel_rfl⟩⟩
instance : TZe Go.Proofs.Try.prog 7 (.agg #[.int .i64 0, .int .i64 0, .bool false, .int .u8 0]) := ⟨fun _ => by kernel_rfl⟩
instance : TFa Go.Proofs.Try.prog 7 0 0 := ⟨fun _ _ _ => by kernel_rfl⟩
instance : TFv Go.Proofs.Try.prog 7 0 0 1 false := ⟨by kernel_rfl⟩
instance : TFa Go.Proofs.Try.prog 7 1 1 := ⟨fun _ _ _ => by kernel_rfl⟩
instance : TFv Go.Proofs.Try.prog 7 1 1 1 false := ⟨by kernel_rfl⟩
instance : TFa Go.Proofs.Try.prog 7 2 2 := ⟨fun _ _ _ => by kernel_rfl⟩
instance : TFv Go.Proofs.Try.prog 7 2 2 1 false := ⟨by kernel_rfl⟩
instance : TFa Go.Proofs.Try.prog 7 3 3 := ⟨fun _ _ _ => by kernel_rfl⟩
instance : TFv Go.Proofs.Try.prog 7 3 3 1 false := ⟨by kernel_rfl⟩
instance : TSt Go.Proofs.Try.prog 7 [.int .i64 0, .int .i64 0, .bool false, .int .u8 0] [(0, 1), (1, 1), (2, 1), (3, 1)] := ⟨fun _ => by kernel_rfl, by kernel_rfl⟩
instance : TSc Go.Proofs.Try.prog 9 := ⟨fun _ => ⟨by kernel_rfl, by kernel_rfl⟩⟩
instance : TZe Go.Proofs.Try.prog 9 (.string ByteArray.empty) := ⟨fun _ => by kernel_rfl⟩
instance : TNI Go.Proofs.Try.prog 9 := TNI.mk' (by kernel_rfl)
instance : TSc Go.Proofs.Try.prog 12 := ⟨fun _ => ⟨by kernel_rfl, by kernel_rfl⟩⟩
instance : TIn Go.Proofs.Try.prog 12 .u64 := ⟨by kernel_rfl⟩
instance : TZe Go.Proofs.Try.prog 12 (.int .u64 0) := ⟨fun _ => by kernel_rfl⟩
instance : TKy Go.Proofs.Try.prog 12 Int (Value.int .u64) := TKy.int (by kernel_rfl)
instance : TAg Go.Proofs.Try.prog 13 2 := ⟨fun _ => ⟨by kernel_rfl, by kernel_rfl⟩⟩
instance : TZe Go.Proofs.Try.prog 13 (.agg #[.string ByteArray.empty, .int .u64 0]) := ⟨fun _ => by kernel_rfl⟩
instance : TFa Go.Proofs.Try.prog 13 0 0 := ⟨fun _ _ _ => by kernel_rfl⟩
instance : TFv Go.Proofs.Try.prog 13 0 0 1 false := ⟨by kernel_rfl⟩
instance : TFa Go.Proofs.Try.prog 13 1 1 := ⟨fun _ _ _ => by kernel_rfl⟩
instance : TFv Go.Proofs.Try.prog 13 1 1 1 false := ⟨by kernel_rfl⟩
instance : TSt Go.Proofs.Try.prog 13 [.string ByteArray.empty, .int .u64 0] [(0, 1), (1, 1)] := ⟨fun _ => by kernel_rfl, by kernel_rfl⟩
instance : TAg Go.Proofs.Try.prog 18 1 := ⟨fun _ => ⟨by kernel_rfl, by kernel_rfl⟩⟩
instance : TZe Go.Proofs.Try.prog 18 (.agg #[.pointer none]) := ⟨fun _ => by kernel_rfl⟩
instance : TFa Go.Proofs.Try.prog 18 0 0 := ⟨fun _ _ _ => by kernel_rfl⟩
instance : TFv Go.Proofs.Try.prog 18 0 0 1 false := ⟨by kernel_rfl⟩
instance : TSt Go.Proofs.Try.prog 18 [.pointer none] [(0, 1)] := ⟨fun _ => by kernel_rfl, by kernel_rfl⟩
instance : TSc Go.Proofs.Try.prog 21 := ⟨fun _ => ⟨by kernel_rfl, by kernel_rfl⟩⟩
instance : TIn Go.Proofs.Try.prog 21 .i32 := ⟨by kernel_rfl⟩
instance : TZe Go.Proofs.Try.prog 21 (.int .i32 0) := ⟨fun _ => by kernel_rfl⟩
instance : TKy Go.Proofs.Try.prog 21 Int (Value.int .i32) := TKy.int (by kernel_rfl)
instance : TSc Go.Proofs.Try.prog 22 := ⟨fun _ => ⟨by kernel_rfl, by kernel_rfl⟩⟩
instance : TZe Go.Proofs.Try.prog 22 (.slice none 0 0) := ⟨fun _ => by kernel_rfl⟩
instance : TSl Go.Proofs.Try.prog 22 33 8 64 := ⟨by kernel_rfl, fun _ => by kernel_rfl, fun _ => by kernel_rfl, by kernel_rfl⟩
instance : TNI Go.Proofs.Try.prog 22 := TNI.mk' (by kernel_rfl)
instance : TSc Go.Proofs.Try.prog 23 := ⟨fun _ => ⟨by kernel_rfl, by kernel_rfl⟩⟩
instance : TZe Go.Proofs.Try.prog 23 (.pointer none) := ⟨fun _ => by kernel_rfl⟩
instance : TPt Go.Proofs.Try.prog 23 := ⟨⟨65, by kernel_rfl⟩⟩
instance : TSc Go.Proofs.Try.prog 25 := ⟨fun _ => ⟨by kernel_rfl, by kernel_rfl⟩⟩
instance : TZe Go.Proofs.Try.prog 25 (.map none) := ⟨fun _ => by kernel_rfl⟩
instance : TMp Go.Proofs.Try.prog 25 5 3 := ⟨by kernel_rfl⟩
instance : TSc Go.Proofs.Try.prog 26 := ⟨fun _ => ⟨by kernel_rfl, by kernel_rfl⟩⟩
instance : TIn Go.Proofs.Try.prog 26 .u32 := ⟨by kernel_rfl⟩
instance : TZe Go.Proofs.Try.prog 26 (.int .u32 0) := ⟨fun _ => by kernel_rfl⟩
instance : TKy Go.Proofs.Try.prog 26 Int (Value.int .u32) := TKy.int (by kernel_rfl)
instance : TAg Go.Proofs.Try.prog 27 2 := ⟨fun _ => ⟨by kernel_rfl, by kernel_rfl⟩⟩
instance : TFl Go.Proofs.Try.prog 27 [1, 0] := ⟨by kernel_rfl, by kernel_rfl, by kernel_rfl, by kernel_rfl⟩
instance : TZe Go.Proofs.Try.prog 27 (.agg #[.bool false, .int .u32 0]) := ⟨fun _ => by kernel_rfl⟩
instance : TFa Go.Proofs.Try.prog 27 0 0 := ⟨fun _ _ _ => by kernel_rfl⟩
instance : TFv Go.Proofs.Try.prog 27 0 0 1 false := ⟨by kernel_rfl⟩
instance : TFa Go.Proofs.Try.prog 27 1 1 := ⟨fun _ _ _ => by kernel_rfl⟩
instance : TFv Go.Proofs.Try.prog 27 1 1 1 false := ⟨by kernel_rfl⟩
instance : TSt Go.Proofs.Try.prog 27 [.bool false, .int .u32 0] [(0, 1), (1, 1)] := ⟨fun _ => by kernel_rfl, by kernel_rfl⟩
instance : TAg Go.Proofs.Try.prog 28 2 := ⟨fun _ => ⟨by kernel_rfl, by kernel_rfl⟩⟩
instance : TFl Go.Proofs.Try.prog 28 [1, 0] := ⟨by kernel_rfl, by kernel_rfl, by kernel_rfl, by kernel_rfl⟩
instance : TZe Go.Proofs.Try.prog 28 (.agg #[.bool false, .int .u32 0]) := ⟨fun _ => by kernel_rfl⟩
instance : TFa Go.Proofs.Try.prog 28 0 0 := ⟨fun _ _ _ => by kernel_rfl⟩
instance : TFv Go.Proofs.Try.prog 28 0 0 1 false := ⟨by kernel_rfl⟩
instance : TFa Go.Proofs.Try.prog 28 1 1 := ⟨fun _ _ _ => by kernel_rfl⟩
instance : TFv Go.Proofs.Try.prog 28 1 1 1 false := ⟨by kernel_rfl⟩
instance : TSt Go.Proofs.Try.prog 28 [.bool false, .int .u32 0] [(0, 1), (1, 1)] := ⟨fun _ => by kernel_rfl, by kernel_rfl⟩
instance : TSc Go.Proofs.Try.prog 29 := ⟨fun _ => ⟨by kernel_rfl, by kernel_rfl⟩⟩
instance : TZe Go.Proofs.Try.prog 29 (.slice none 0 0) := ⟨fun _ => by kernel_rfl⟩
instance : TSl Go.Proofs.Try.prog 29 5 1 1 := ⟨by kernel_rfl, fun _ => by kernel_rfl, fun _ => by kernel_rfl, by kernel_rfl⟩
instance : TNI Go.Proofs.Try.prog 29 := TNI.mk' (by kernel_rfl)
instance : TAg Go.Proofs.Try.prog 30 5 := ⟨fun _ => ⟨by kernel_rfl, by kernel_rfl⟩⟩
instance : TZe Go.Proofs.Try.prog 30 (.agg #[.bool false, .int .u32 0, .bool false, .int .u32 0, .slice none 0 0]) := ⟨fun _ => by kernel_rfl⟩
instance : TFa Go.Proofs.Try.prog 30 0 0 := ⟨fun _ _ _ => by kernel_rfl⟩
instance : TFv Go.Proofs.Try.prog 30 0 0 2 true := ⟨by kernel_rfl⟩
instance : TFa Go.Proofs.Try.prog 30 1 2 := ⟨fun _ _ _ => by kernel_rfl⟩
instance : TFv Go.Proofs.Try.prog 30 1 2 2 true := ⟨by kernel_rfl⟩
instance : TFa Go.Proofs.Try.prog 30 2 4 := ⟨fun _ _ _ => by kernel_rfl⟩
instance : TFv Go.Proofs.Try.prog 30 2 4 1 false := ⟨by kernel_rfl⟩
instance : TSt Go.Proofs.Try.prog 30 [.bool false, .int .u32 0, .bool false, .int .u32 0, .slice none 0 0] [(0, 2), (2, 2), (4, 1)] := ⟨fun _ => by kernel_rfl, by kernel_rfl⟩
instance : TAg Go.Proofs.Try.prog 31 5 := ⟨fun _ => ⟨by kernel_rfl, by kernel_rfl⟩⟩
instance : TZe Go.Proofs.Try.prog 31 (.agg #[.bool false, .int .u32 0, .bool false, .int .u32 0, .slice none 0 0]) := ⟨fun _ => by kernel_rfl⟩
instance : TFa Go.Proofs.Try.prog 31 0 0 := ⟨fun _ _ _ => by kernel_rfl⟩
instance : TFv Go.Proofs.Try.prog 31 0 0 2 true := ⟨by kernel_rfl⟩
instance : TFa Go.Proofs.Try.prog 31 1 2 := ⟨fun _ _ _ => by kernel_rfl⟩
instance : TFv Go.Proofs.Try.prog 31 1 2 2 true := ⟨by kernel_rfl⟩
instance : TFa Go.Proofs.Try.prog 31 2 4 := ⟨fun _ _ _ => by kernel_rfl⟩
instance : TFv Go.Proofs.Try.prog 31 2 4 1 false := ⟨by kernel_rfl⟩
instance : TSt Go.Proofs.Try.prog 31 [.bool false, .int .u32 0, .bool false, .int .u32 0, .slice none 0 0] [(0, 2), (2, 2), (4, 1)] := ⟨fun _ => by kernel_rfl, by kernel_rfl⟩
instance : TAg Go.Proofs.Try.prog 32 8 := ⟨fun _ => ⟨by kernel_rfl, by kernel_rfl⟩⟩
instance : TZe Go.Proofs.Try.prog 32 (.agg #[.int .i64 0, .int .i64 0, .int .i64 0, .bool false, .int .u32 0, .bool false, .int .u32 0, .slice none 0 0]) := ⟨fun _ => by kernel_rfl⟩
instance : TFa Go.Proofs.Try.prog 32 0 0 := ⟨fun _ _ _ => by kernel_rfl⟩
instance : TFv Go.Proofs.Try.prog 32 0 0 1 false := ⟨by kernel_rfl⟩
instance : TFa Go.Proofs.Try.prog 32 1 1 := ⟨fun _ _ _ => by kernel_rfl⟩
instance : TFv Go.Proofs.Try.prog 32 1 1 1 false := ⟨by kernel_rfl⟩
instance : TFa Go.Proofs.Try.prog 32 2 2 := ⟨fun _ _ _ => by kernel_rfl⟩
instance : TFv Go.Proofs.Try.prog 32 2 2 1 false := ⟨by kernel_rfl⟩
instance : TFa Go.Proofs.Try.prog 32 3 3 := ⟨fun _ _ _ => by kernel_rfl⟩
instance : TFv Go.Proofs.Try.prog 32 3 3 5 true := ⟨by kernel_rfl⟩
instance : TSt Go.Proofs.Try.prog 32 [.int .i64 0, .int .i64 0, .int .i64 0, .bool false, .int .u32 0, .bool false, .int .u32 0, .slice none 0 0] [(0, 1), (1, 1), (2, 1), (3, 5)] := ⟨fun _ => by kernel_rfl, by kernel_rfl⟩
instance : TAg Go.Proofs.Try.prog 33 8 := ⟨fun _ => ⟨by kernel_rfl, by kernel_rfl⟩⟩
instance : TZe Go.Proofs.Try.prog 33 (.agg #[.int .i64 0, .int .i64 0, .int .i64 0, .bool false, .int .u32 0, .bool false, .int .u32 0, .slice none 0 0]) := ⟨fun _ => by kernel_rfl⟩
instance : TFa Go.Proofs.Try.prog 33 0 0 := ⟨fun _ _ _ => by kernel_rfl⟩
instance : TFv Go.Proofs.Try.prog 33 0 0 1 false := ⟨by kernel_rfl⟩
instance : TFa Go.Proofs.Try.prog 33 1 1 := ⟨fun _ _ _ => by kernel_rfl⟩
instance : TFv Go.Proofs.Try.prog 33 1 1 1 false := ⟨by kernel_rfl⟩
instance : TFa Go.Proofs.Try.prog 33 2 2 := ⟨fun _ _ _ => by kernel_rfl⟩
instance : TFv Go.Proofs.Try.prog 33 2 2 1 false := ⟨by kernel_rfl⟩
instance : TFa Go.Proofs.Try.prog 33 3 3 := ⟨fun _ _ _ => by kernel_rfl⟩
instance : TFv Go.Proofs.Try.prog 33 3 3 5 true := ⟨by kernel_rfl⟩
instance : TSt Go.Proofs.Try.prog 33 [.int .i64 0, .int .i64 0, .int .i64 0, .bool false, .int .u32 0, .bool false, .int .u32 0, .slice none 0 0] [(0, 1), (1, 1), (2, 1), (3, 5)] := ⟨fun _ => by kernel_rfl, by kernel_rfl⟩
instance : TSc Go.Proofs.Try.prog 34 := ⟨fun _ => ⟨by kernel_rfl, by kernel_rfl⟩⟩
instance : TZe Go.Proofs.Try.prog 34 (.slice none 0 0) := ⟨fun _ => by kernel_rfl⟩
instance : TSl Go.Proofs.Try.prog 34 31 5 40 := ⟨by kernel_rfl, fun _ => by kernel_rfl, fun _ => by kernel_rfl, by kernel_rfl⟩
instance : TNI Go.Proofs.Try.prog 34 := TNI.mk' (by kernel_rfl)
instance : TSc Go.Proofs.Try.prog 36 := ⟨fun _ => ⟨by kernel_rfl, by kernel_rfl⟩⟩
instance : TIn Go.Proofs.Try.prog 36 .i64 := ⟨by kernel_rfl⟩
instance : TZe Go.Proofs.Try.prog 36 (.int .i64 0) := ⟨fun _ => by kernel_rfl⟩
instance : TKy Go.Proofs.Try.prog 36 Int (Value.int .i64) := TKy.int (by kernel_rfl)
instance : TSc Go.Proofs.Try.prog 47 := ⟨fun _ => ⟨by kernel_rfl, by kernel_rfl⟩⟩
instance : TZe Go.Proofs.Try.prog 47 (.pointer none) := ⟨fun _ => by kernel_rfl⟩
instance : TPt Go.Proofs.Try.prog 47 := ⟨⟨50, by kernel_rfl⟩⟩
instance : TSc Go.Proofs.Try.prog 48 := ⟨fun _ => ⟨by kernel_rfl, by kernel_rfl⟩⟩
instance : TZe Go.Proofs.Try.prog 48 (.slice none 0 0) := ⟨fun _ => by kernel_rfl⟩
instance : TSl Go.Proofs.Try.prog 48 53 5 40 := ⟨by kernel_rfl, fun _ => by kernel_rfl, fun _ => by kernel_rfl, by kernel_rfl⟩
instance : TNI Go.Proofs.Try.prog 48 := TNI.mk' (by kernel_rfl)
instance : TAg Go.Proofs.Try.prog 49 1 := ⟨fun _ => ⟨by kernel_rfl, by kernel_rfl⟩⟩
instance : TZe Go.Proofs.Try.prog 49 (.agg #[.slice none 0 0]) := ⟨fun _ => by kernel_rfl⟩
instance : TFa Go.Proofs.Try.prog 49 0 0 := ⟨fun _ _ _ => by kernel_rfl⟩
instance : TFv Go.Proofs.Try.prog 49 0 0 1 false := ⟨by kernel_rfl⟩
instance : TSt Go.Proofs.Try.prog 49 [.slice none 0 0] [(0, 1)] := ⟨fun _ => by kernel_rfl, by kernel_rfl⟩
instance : TAg Go.Proofs.Try.prog 50 1 := ⟨fun _ => ⟨by kernel_rfl, by kernel_rfl⟩⟩
instance : TZe Go.Proofs.Try.prog 50 (.agg #[.slice none 0 0]) := ⟨fun _ => by kernel_rfl⟩
instance : TFa Go.Proofs.Try.prog 50 0 0 := ⟨fun _ _ _ => by kernel_rfl⟩
instance : TFv Go.Proofs.Try.prog 50 0 0 1 false := ⟨by kernel_rfl⟩
instance : TSt Go.Proofs.Try.prog 50 [.slice none 0 0] [(0, 1)] := ⟨fun _ => by kernel_rfl, by kernel_rfl⟩
instance : TAg Go.Proofs.Try.prog 51 2 := ⟨fun _ => ⟨by kernel_rfl, by kernel_rfl⟩⟩
instance : TFl Go.Proofs.Try.prog 51 [1, 0] := ⟨by kernel_rfl, by kernel_rfl, by kernel_rfl, by kernel_rfl⟩
instance : TZe Go.Proofs.Try.prog 51 (.agg #[.bool false, .int .u32 0]) := ⟨fun _ => by kernel_rfl⟩
instance : TFa Go.Proofs.Try.prog 51 0 0 := ⟨fun _ _ _ => by kernel_rfl⟩
instance : TFv Go.Proofs.Try.prog 51 0 0 1 false := ⟨by kernel_rfl⟩
instance : TFa Go.Proofs.Try.prog 51 1 1 := ⟨fun _ _ _ => by kernel_rfl⟩
instance : TFv Go.Proofs.Try.prog 51 1 1 1 false := ⟨by kernel_rfl⟩
instance : TSt Go.Proofs.Try.prog 51 [.bool false, .int .u32 0] [(0, 1), (1, 1)] := ⟨fun _ => by kernel_rfl, by kernel_rfl⟩
instance : TAg Go.Proofs.Try.prog 52 5 := ⟨fun _ => ⟨by kernel_rfl, by kernel_rfl⟩⟩
instance : TZe Go.Proofs.Try.prog 52 (.agg #[.bool false, .int .u32 0, .bool false, .int .u32 0, .slice none 0 0]) := ⟨fun _ => by kernel_rfl⟩
instance : TFa Go.Proofs.Try.prog 52 0 0 := ⟨fun _ _ _ => by kernel_rfl⟩
instance : TFv Go.Proofs.Try.prog 52 0 0 2 true := ⟨by kernel_rfl⟩
instance : TFa Go.Proofs.Try.prog 52 1 2 := ⟨fun _ _ _ => by kernel_rfl⟩
instance : TFv Go.Proofs.Try.prog 52 1 2 2 true := ⟨by kernel_rfl⟩
instance : TFa Go.Proofs.Try.prog 52 2 4 := ⟨fun _ _ _ => by kernel_rfl⟩
instance : TFv Go.Proofs.Try.prog 52 2 4 1 false := ⟨by kernel_rfl⟩
instance : TSt Go.Proofs.Try.prog 52 [.bool false, .int .u32 0, .bool false, .int .u32 0, .slice none 0 0] [(0, 2), (2, 2), (4, 1)] := ⟨fun _ => by kernel_rfl, by kernel_rfl⟩
instance : TAg Go.Proofs.Try.prog 53 5 := ⟨fun _ => ⟨by kernel_rfl, by kernel_rfl⟩⟩
instance : TZe Go.Proofs.Try.prog 53 (.agg #[.bool false, .int .u32 0, .bool false, .int .u32 0, .slice none 0 0]) := ⟨fun _ => by kernel_rfl⟩
instance : TFa Go.Proofs.Try.prog 53 0 0 := ⟨fun _ _ _ => by kernel_rfl⟩
instance : TFv Go.Proofs.Try.prog 53 0 0 2 true := ⟨by kernel_rfl⟩
instance : TFa Go.Proofs.Try.prog 53 1 2 := ⟨fun _ _ _ => by kernel_rfl⟩
instance : TFv Go.Proofs.Try.prog 53 1 2 2 true := ⟨by kernel_rfl⟩
instance : TFa Go.Proofs.Try.prog 53 2 4 := ⟨fun _ _ _ => by kernel_rfl⟩
instance : TFv Go.Proofs.Try.prog 53 2 4 1 false := ⟨by kernel_rfl⟩
instance : TSt Go.Proofs.Try.prog 53 [.bool false, .int .u32 0, .bool false, .int .u32 0, .slice none 0 0] [(0, 2), (2, 2), (4, 1)] := ⟨fun _ => by kernel_rfl, by kernel_rfl⟩
instance : TSc Go.Proofs.Try.prog 62 := ⟨fun _ => ⟨by kernel_rfl, by kernel_rfl⟩⟩
instance : TZe Go.Proofs.Try.prog 62 (.slice none 0 0) := ⟨fun _ => by kernel_rfl⟩
instance : TSl Go.Proofs.Try.prog 62 3 1 8 := ⟨by kernel_rfl, fun _ => by kernel_rfl, fun _ => by kernel_rfl, by kernel_rfl⟩
instance : TNI Go.Proofs.Try.prog 62 := TNI.mk' (by kernel_rfl)
instance : TAg Go.Proofs.Try.prog 64 2 := ⟨fun _ => ⟨by kernel_rfl, by kernel_rfl⟩⟩
instance : TZe Go.Proofs.Try.prog 64 (.agg #[.slice none 0 0, .bool false]) := ⟨fun _ => by kernel_rfl⟩
instance : TFa Go.Proofs.Try.prog 64 0 0 := ⟨fun _ _ _ => by kernel_rfl⟩
instance : TFv Go.Proofs.Try.prog 64 0 0 1 false := ⟨by kernel_rfl⟩
instance : TFa Go.Proofs.Try.prog 64 1 1 := ⟨fun _ _ _ => by kernel_rfl⟩
instance : TFv Go.Proofs.Try.prog 64 1 1 1 false := ⟨by kernel_rfl⟩
instance : TSt Go.Proofs.Try.prog 64 [.slice none 0 0, .bool false] [(0, 1), (1, 1)] := ⟨fun _ => by kernel_rfl, by kernel_rfl⟩
instance : TAg Go.Proofs.Try.prog 65 2 := ⟨fun _ => ⟨by kernel_rfl, by kernel_rfl⟩⟩
instance : TZe Go.Proofs.Try.prog 65 (.agg #[.slice none 0 0, .bool false]) := ⟨fun _ => by kernel_rfl⟩
instance : TFa Go.Proofs.Try.prog 65 0 0 := ⟨fun _ _ _ => by kernel_rfl⟩
instance : TFv Go.Proofs.Try.prog 65 0 0 1 false := ⟨by kernel_rfl⟩
instance : TFa Go.Proofs.Try.prog 65 1 1 := ⟨fun _ _ _ => by kernel_rfl⟩
instance : TFv Go.Proofs.Try.prog 65 1 1 1 false := ⟨by kernel_rfl⟩
instance : TSt Go.Proofs.Try.prog 65 [.slice none 0 0, .bool false] [(0, 1), (1, 1)] := ⟨fun _ => by kernel_rfl, by kernel_rfl⟩
instance : TSc Go.Proofs.Try.prog 68 := ⟨fun _ => ⟨by kernel_rfl, by kernel_rfl⟩⟩
instance : TZe Go.Proofs.Try.prog 68 (.pointer none) := ⟨fun _ => by kernel_rfl⟩
instance : TPt Go.Proofs.Try.prog 68 := ⟨⟨31, by kernel_rfl⟩⟩
instance : TAg Go.Proofs.Try.prog 74 4 := ⟨fun _ => ⟨by kernel_rfl, by kernel_rfl⟩⟩
instance : TZe Go.Proofs.Try.prog 74 (.agg #[.pointer none, .pointer none, .pointer none, .string ByteArray.empty]) := ⟨fun _ => by kernel_rfl⟩
instance : TFa Go.Proofs.Try.prog 74 0 0 := ⟨fun _ _ _ => by kernel_rfl⟩
instance : TFv Go.Proofs.Try.prog 74 0 0 1 false := ⟨by kernel_rfl⟩
instance : TFa Go.Proofs.Try.prog 74 1 1 := ⟨fun _ _ _ => by kernel_rfl⟩
instance : TFv Go.Proofs.Try.prog 74 1 1 1 false := ⟨by kernel_rfl⟩
instance : TFa Go.Proofs.Try.prog 74 2 2 := ⟨fun _ _ _ => by kernel_rfl⟩
instance : TFv Go.Proofs.Try.prog 74 2 2 1 false := ⟨by kernel_rfl⟩
instance : TFa Go.Proofs.Try.prog 74 3 3 := ⟨fun _ _ _ => by kernel_rfl⟩
instance : TFv Go.Proofs.Try.prog 74 3 3 1 false := ⟨by kernel_rfl⟩
instance : TSt Go.Proofs.Try.prog 74 [.pointer none, .pointer none, .pointer none, .string ByteArray.empty] [(0, 1), (1, 1), (2, 1), (3, 1)] := ⟨fun _ => by kernel_rfl, by kernel_rfl⟩
instance : TAg Go.Proofs.Try.prog 76 0 := ⟨fun _ => ⟨by kernel_rfl, by kernel_rfl⟩⟩
instance : TZe Go.Proofs.Try.prog 76 (.agg #[]) := ⟨fun _ => by kernel_rfl⟩
instance : TSt Go.Proofs.Try.prog 76 [] [] := ⟨fun _ => by kernel_rfl, by kernel_rfl⟩
instance : TAg Go.Proofs.Try.prog 77 0 := ⟨fun _ => ⟨by kernel_rfl, by kernel_rfl⟩⟩
instance : TZe Go.Proofs.Try.prog 77 (.agg #[]) := ⟨fun _ => by kernel_rfl⟩
instance : TSt Go.Proofs.Try.prog 77 [] [(0, 0)] := ⟨fun _ => by kernel_rfl, by kernel_rfl⟩
instance : TSc Go.Proofs.Try.prog 82 := ⟨fun _ => ⟨by kernel_rfl, by kernel_rfl⟩⟩
instance : TZe Go.Proofs.Try.prog 82 (.pointer none) := ⟨fun _ => by kernel_rfl⟩
instance : TPt Go.Proofs.Try.prog 82 := ⟨⟨5, by kernel_rfl⟩⟩
instance : TAg Go.Proofs.Try.prog 85 11 := ⟨fun _ => ⟨by kernel_rfl, by kernel_rfl⟩⟩
instance : TZe Go.Proofs.Try.prog 85 (.agg #[.int .u64 0, .int .u64 0, .int .u32 0, .int .u8 0, .int .u8 0, .int .u8 0, .int .u8 0, .nilFunc, .pointer none, .int .i32 0, .int .i32 0]) := ⟨fun _ => by kernel_rfl⟩
instance : TFa Go.Proofs.Try.prog 85 0 0 := ⟨fun _ _ _ => by kernel_rfl⟩
instance : TFv Go.Proofs.Try.prog 85 0 0 1 false := ⟨by kernel_rfl⟩
instance : TFa Go.Proofs.Try.prog 85 1 1 := ⟨fun _ _ _ => by kernel_rfl⟩
instance : TFv Go.Proofs.Try.prog 85 1 1 1 false := ⟨by kernel_rfl⟩
instance : TFa Go.Proofs.Try.prog 85 2 2 := ⟨fun _ _ _ => by kernel_rfl⟩
instance : TFv Go.Proofs.Try.prog 85 2 2 1 false := ⟨by kernel_rfl⟩
instance : TFa Go.Proofs.Try.prog 85 3 3 := ⟨fun _ _ _ => by kernel_rfl⟩
instance : TFv Go.Proofs.Try.prog 85 3 3 1 false := ⟨by kernel_rfl⟩
instance : TFa Go.Proofs.Try.prog 85 4 4 := ⟨fun _ _ _ => by kernel_rfl⟩
instance : TFv Go.Proofs.Try.prog 85 4 4 1 false := ⟨by kernel_rfl⟩
instance : TFa Go.Proofs.Try.prog 85 5 5 := ⟨fun _ _ _ => by kernel_rfl⟩
instance : TFv Go.Proofs.Try.prog 85 5 5 1 false := ⟨by kernel_rfl⟩
instance : TFa Go.Proofs.Try.prog 85 6 6 := ⟨fun _ _ _ => by kernel_rfl⟩
instance : TFv Go.Proofs.Try.prog 85 6 6 1 false := ⟨by kernel_rfl⟩
instance : TFa Go.Proofs.Try.prog 85 7 7 := ⟨fun _ _ _ => by kernel_rfl⟩
instance : TFv Go.Proofs.Try.prog 85 7 7 1 false := ⟨by kernel_rfl⟩
instance : TFa Go.Proofs.Try.prog 85 8 8 := ⟨fun _ _ _ => by kernel_rfl⟩
instance : TFv Go.Proofs.Try.prog 85 8 8 1 false := ⟨by kernel_rfl⟩
instance : TFa Go.Proofs.Try.prog 85 9 9 := ⟨fun _ _ _ => by kernel_rfl⟩
instance : TFv Go.Proofs.Try.prog 85 9 9 1 false := ⟨by kernel_rfl⟩
instance : TFa Go.Proofs.Try.prog 85 10 10 := ⟨fun _ _ _ => by kernel_rfl⟩
instance : TFv Go.Proofs.Try.prog 85 10 10 1 false := ⟨by kernel_rfl⟩
instance : TSt Go.Proofs.Try.prog 85 [.int .u64 0, .int .u64 0, .int .u32 0, .int .u8 0, .int .u8 0, .int .u8 0, .int .u8 0, .nilFunc, .pointer none, .int .i32 0, .int .i32 0] [(0, 1), (1, 1), (2, 1), (3, 1), (4, 1), (5, 1), (6, 1), (7, 1), (8, 1), (9, 1), (10, 1)] := ⟨fun _ => by kernel_rfl, by kernel_rfl⟩
-- function 0: main.main
-- function 1: gosem.cut
-- function 2: gosem.cut.init
-- function 3: copybook/copybooklaw29.NetKeeps
-- function 4: copybook/copybooklaw29.NetFlips
-- function 5: copybook/copybooklaw29.NetPlays
-- function 6: copybook/copybooklaw29.NetKnown
-- function 7: copybook/net.New
-- function 8: (*copybook/net.Net).All
-- function 9: (*copybook/net.Net).Put
-- function 10: copybook/copybooklaw29.frame
-- function 11: (*copybook/net.Net).Take
-- function 12: bytes.Equal
-- function 13: (*copybook/net.Net).Drop
-- function 14: (*copybook/net.Net).Double
-- function 15: copybook/copybooklaw29.awake
-- function 16: (*copybook/net.Net).Flip
-- function 17: copybook/copybooklaw29.Of
-- function 18: (*copybook/copybookref29.Net).Put
-- function 19: (*copybook/copybookref29.Net).Take
-- function 20: copybook/copybookref29.Same
-- function 21: (*copybook/copybookref29.Net).Double
-- function 22: (*copybook/copybookref29.Net).Flip
-- function 23: (*copybook/net.Net).Copy
-- function 24: (*copybook/net.Net).Len
-- function 25: (*copybook/net.Net).To
-- function 26: (*copybook/net.Net).none
-- function 27: (copybook/net.Frame).own
-- function 28: (copybook/net.Addr).may
-- function 29: (*copybook/net.Net).at
-- function 30: (*copybook/net.Net).Take$1
-- function 31: slices.Delete[[]copybook/net.Frame,copybook/net.Frame]
-- function 32: (*copybook/net.Net).Double$1
-- function 33: (*copybook/net.Net).Flip$1
-- function 34: copybook/copybookref29.may
-- function 35: copybook/copybookref01.Own
-- function 36: bytes.Clone
-- function 37: (runtime.boundsError).Error
-- function 38: (runtime.boundsError).RuntimeError
-- function 39: (runtime.errorString).Error
-- function 40: (runtime.errorString).RuntimeError
-- function 41: (runtime.plainError).Error
-- function 42: (runtime.plainError).RuntimeError
-- function 43: (runtime.errorAddressString).Error
-- function 44: (runtime.errorAddressString).RuntimeError
-- function 45: (*runtime.TypeAssertionError).Error
-- function 46: (*runtime.TypeAssertionError).RuntimeError
-- function 47: (*runtime.PanicNilError).Error
-- function 48: (*runtime.PanicNilError).RuntimeError
-- function 49: (*internal/abi.Type).Align
-- function 50: (internal/runtime/maps.unhashableTypeError).Error
-- function 51: (internal/runtime/maps.unhashableTypeError).RuntimeError
-- function 52: (internal/abi.Kind).String
theorem call2 : ∀ (xs : Array Value) (w : World), (callFunc 2 xs).run Try.prog w = .ok (.enter 2 xs) w := fun _ _ => by kernel_rfl
theorem call3 : ∀ (xs : Array Value) (w : World), (callFunc 3 xs).run Try.prog w = .ok (.enter 3 xs) w := fun _ _ => by kernel_rfl
theorem call4 : ∀ (xs : Array Value) (w : World), (callFunc 4 xs).run Try.prog w = .ok (.enter 4 xs) w := fun _ _ => by kernel_rfl
theorem call5 : ∀ (xs : Array Value) (w : World), (callFunc 5 xs).run Try.prog w = .ok (.enter 5 xs) w := fun _ _ => by kernel_rfl
theorem call6 : ∀ (xs : Array Value) (w : World), (callFunc 6 xs).run Try.prog w = .ok (.enter 6 xs) w := fun _ _ => by kernel_rfl
theorem call7 : ∀ (xs : Array Value) (w : World), (callFunc 7 xs).run Try.prog w = .ok (.enter 7 xs) w := fun _ _ => by kernel_rfl
theorem call8 : ∀ (xs : Array Value) (w : World), (callFunc 8 xs).run Try.prog w = .ok (.enter 8 xs) w := fun _ _ => by kernel_rfl
theorem call9 : ∀ (xs : Array Value) (w : World), (callFunc 9 xs).run Try.prog w = .ok (.enter 9 xs) w := fun _ _ => by kernel_rfl
theorem call10 : ∀ (xs : Array Value) (w : World), (callFunc 10 xs).run Try.prog w = .ok (.enter 10 xs) w := fun _ _ => by kernel_rfl
theorem call11 : ∀ (xs : Array Value) (w : World), (callFunc 11 xs).run Try.prog w = .ok (.enter 11 xs) w := fun _ _ => by kernel_rfl
theorem call12 : ∀ (xs : Array Value) (w : World), (callFunc 12 xs).run Try.prog w = .ok (.enter 12 xs) w := fun _ _ => by kernel_rfl
theorem call13 : ∀ (xs : Array Value) (w : World), (callFunc 13 xs).run Try.prog w = .ok (.enter 13 xs) w := fun _ _ => by kernel_rfl
theorem call14 : ∀ (xs : Array Value) (w : World), (callFunc 14 xs).run Try.prog w = .ok (.enter 14 xs) w := fun _ _ => by kernel_rfl
theorem call15 : ∀ (xs : Array Value) (w : World), (callFunc 15 xs).run Try.prog w = .ok (.enter 15 xs) w := fun _ _ => by kernel_rfl
theorem call16 : ∀ (xs : Array Value) (w : World), (callFunc 16 xs).run Try.prog w = .ok (.enter 16 xs) w := fun _ _ => by kernel_rfl
theorem call17 : ∀ (xs : Array Value) (w : World), (callFunc 17 xs).run Try.prog w = .ok (.enter 17 xs) w := fun _ _ => by kernel_rfl
theorem call18 : ∀ (xs : Array Value) (w : World), (callFunc 18 xs).run Try.prog w = .ok (.enter 18 xs) w := fun _ _ => by kernel_rfl
theorem call19 : ∀ (xs : Array Value) (w : World), (callFunc 19 xs).run Try.prog w = .ok (.enter 19 xs) w := fun _ _ => by kernel_rfl
theorem call20 : ∀ (xs : Array Value) (w : World), (callFunc 20 xs).run Try.prog w = .ok (.enter 20 xs) w := fun _ _ => by kernel_rfl
theorem call21 : ∀ (xs : Array Value) (w : World), (callFunc 21 xs).run Try.prog w = .ok (.enter 21 xs) w := fun _ _ => by kernel_rfl
theorem call22 : ∀ (xs : Array Value) (w : World), (callFunc 22 xs).run Try.prog w = .ok (.enter 22 xs) w := fun _ _ => by kernel_rfl
theorem call23 : ∀ (xs : Array Value) (w : World), (callFunc 23 xs).run Try.prog w = .ok (.enter 23 xs) w := fun _ _ => by kernel_rfl
theorem call24 : ∀ (xs : Array Value) (w : World), (callFunc 24 xs).run Try.prog w = .ok (.enter 24 xs) w := fun _ _ => by kernel_rfl
theorem call25 : ∀ (xs : Array Value) (w : World), (callFunc 25 xs).run Try.prog w = .ok (.enter 25 xs) w := fun _ _ => by kernel_rfl
theorem call26 : ∀ (xs : Array Value) (w : World), (callFunc 26 xs).run Try.prog w = .ok (.enter 26 xs) w := fun _ _ => by kernel_rfl
theorem call27 : ∀ (xs : Array Value) (w : World), (callFunc 27 xs).run Try.prog w = .ok (.enter 27 xs) w := fun _ _ => by kernel_rfl
theorem call28 : ∀ (xs : Array Value) (w : World), (callFunc 28 xs).run Try.prog w = .ok (.enter 28 xs) w := fun _ _ => by kernel_rfl
theorem call29 : ∀ (xs : Array Value) (w : World), (callFunc 29 xs).run Try.prog w = .ok (.enter 29 xs) w := fun _ _ => by kernel_rfl
theorem call30 : ∀ (xs : Array Value) (w : World), (callFunc 30 xs).run Try.prog w = .ok (.enter 30 xs) w := fun _ _ => by kernel_rfl
theorem call31 : ∀ (xs : Array Value) (w : World), (callFunc 31 xs).run Try.prog w = .ok (.enter 31 xs) w := fun _ _ => by kernel_rfl
theorem call32 : ∀ (xs : Array Value) (w : World), (callFunc 32 xs).run Try.prog w = .ok (.enter 32 xs) w := fun _ _ => by kernel_rfl
theorem call33 : ∀ (xs : Array Value) (w : World), (callFunc 33 xs).run Try.prog w = .ok (.enter 33 xs) w := fun _ _ => by kernel_rfl
theorem call34 : ∀ (xs : Array Value) (w : World), (callFunc 34 xs).run Try.prog w = .ok (.enter 34 xs) w := fun _ _ => by kernel_rfl
theorem call35 : ∀ (xs : Array Value) (w : World), (callFunc 35 xs).run Try.prog w = .ok (.enter 35 xs) w := fun _ _ => by kernel_rfl
theorem call36 : ∀ (xs : Array Value) (w : World), (callFunc 36 xs).run Try.prog w = .ok (.enter 36 xs) w := fun _ _ => by kernel_rfl
theorem mixed : Try.prog.follows .mixedOrders = true := by kernel_rfl
end SL
