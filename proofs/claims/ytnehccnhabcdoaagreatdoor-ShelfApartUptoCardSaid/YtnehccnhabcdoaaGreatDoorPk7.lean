/-
  Contracts and rules for what the last text proves.
-/
import Derived.Test.YtnehccnhabcdoaaGreatDoorPk6
import Derived.Test.YtnehccnhabcdoaaGreatDoorChecked
section
namespace SL
open Go Go.Proofs
instance : TSc Go.Proofs.Tryz.prog 2 := ⟨fun _ => ⟨by kernel_rfl, by kernel_rfl⟩⟩
instance : TIn Go.Proofs.Tryz.prog 2 .i64 := ⟨by kernel_rfl⟩
instance : TZe Go.Proofs.Tryz.prog 2 (.int .i64 0) := ⟨fun _ => by kernel_rfl⟩
instance : TKy Go.Proofs.Tryz.prog 2 Int (Value.int .i64) := TKy.int (by kernel_rfl)
instance : TSc Go.Proofs.Tryz.prog 3 := ⟨fun _ => ⟨by kernel_rfl, by kernel_rfl⟩⟩
instance : TIn Go.Proofs.Tryz.prog 3 .i64 := ⟨by kernel_rfl⟩
instance : TZe Go.Proofs.Tryz.prog 3 (.int .i64 0) := ⟨fun _ => by kernel_rfl⟩
instance : TKy Go.Proofs.Tryz.prog 3 Int (Value.int .i64) := TKy.int (by kernel_rfl)
instance : TSc Go.Proofs.Tryz.prog 4 := ⟨fun _ => ⟨by kernel_rfl, by kernel_rfl⟩⟩
instance : TBo Go.Proofs.Tryz.prog 4 := ⟨by kernel_rfl⟩
instance : TZe Go.Proofs.Tryz.prog 4 (.bool false) := ⟨fun _ => by kernel_rfl⟩
instance : TSc Go.Proofs.Tryz.prog 5 := ⟨fun _ => ⟨by kernel_rfl, by kernel_rfl⟩⟩
instance : TIn Go.Proofs.Tryz.prog 5 .u8 := ⟨by kernel_rfl⟩
instance : TZe Go.Proofs.Tryz.prog 5 (.int .u8 0) := ⟨fun _ => by kernel_rfl⟩
instance : TKy Go.Proofs.Tryz.prog 5 Int (Value.int .u8) := TKy.int (by kernel_rfl)
instance : TAg Go.Proofs.Tryz.prog 7 4 := ⟨fun _ => ⟨by kernel_rfl, by kernel_rfl⟩⟩
instance : TZe Go.Proofs.Tryz.prog 7 (.agg #[.int .i64 0, .int .i64 0, .bool false, .int .u8 0]) := ⟨fun _ => by kernel_rfl⟩
instance : TFa Go.Proofs.Tryz.prog 7 0 0 := ⟨fun _ _ _ => by kernel_rfl⟩
instance : TFv Go.Proofs.Tryz.prog 7 0 0 1 false := ⟨by kernel_rfl⟩
instance : TFa Go.Proofs.Tryz.prog 7 1 1 := ⟨fun _ _ _ => by kernel_rfl⟩
instance : TFv Go.Proofs.Tryz.prog 7 1 1 1 false := ⟨by kernel_rfl⟩
instance : TFa Go.Proofs.Tryz.prog 7 2 2 := ⟨fun _ _ _ => by kernel_rfl⟩
instance : TFv Go.Proofs.Tryz.prog 7 2 2 1 false := ⟨by kernel_rfl⟩
instance : TFa Go.Proofs.Tryz.prog 7 3 3 := ⟨fun _ _ _ => by kernel_rfl⟩
instance : TFv Go.Proofs.Tryz.prog 7 3 3 1 false := ⟨by kernel_rfl⟩
instance : TSt Go.Proofs.Tryz.prog 7 [.int .i64 0, .int .i64 0, .bool false, .int .u8 0] [(0, 1), (1, 1), (2, 1), (3, 1)] := ⟨fun _ => by kernel_rfl, by kernel_rfl⟩
instance : TSc Go.Proofs.Tryz.prog 9 := ⟨fun _ => ⟨by kernel_rfl, by kernel_rfl⟩⟩
instance : TZe Go.Proofs.Tryz.prog 9 (.string ByteArray.empty) := ⟨fun _ => by kernel_rfl⟩
instance : TNI Go.Proofs.Tryz.prog 9 := TNI.mk' (by kernel_rfl)
instance : TSc Go.Proofs.Tryz.prog 12 := ⟨fun _ => ⟨by kernel_rfl, by kernel_rfl⟩⟩
instance : TIn Go.Proofs.Tryz.prog 12 .u64 := ⟨by kernel_rfl⟩
instance : TZe Go.Proofs.Tryz.prog 12 (.int .u64 0) := ⟨fun _ => by kernel_rfl⟩
instance : TKy Go.Proofs.Tryz.prog 12 Int (Value.int .u64) := TKy.int (by kernel_rfl)
instance : TAg Go.Proofs.Tryz.prog 13 2 := ⟨fun _ => ⟨by kernel_rfl, by kernel_rfl⟩⟩
instance : TZe Go.Proofs.Tryz.prog 13 (.agg #[.string ByteArray.empty, .int .u64 0]) := ⟨fun _ => by kernel_rfl⟩
instance : TFa Go.Proofs.Tryz.prog 13 0 0 := ⟨fun _ _ _ => by kernel_rfl⟩
instance : TFv Go.Proofs.Tryz.prog 13 0 0 1 false := ⟨by kernel_rfl⟩
instance : TFa Go.Proofs.Tryz.prog 13 1 1 := ⟨fun _ _ _ => by kernel_rfl⟩
instance : TFv Go.Proofs.Tryz.prog 13 1 1 1 false := ⟨by kernel_rfl⟩
instance : TSt Go.Proofs.Tryz.prog 13 [.string ByteArray.empty, .int .u64 0] [(0, 1), (1, 1)] := ⟨fun _ => by kernel_rfl, by kernel_rfl⟩
instance : TAg Go.Proofs.Tryz.prog 18 1 := ⟨fun _ => ⟨by kernel_rfl, by kernel_rfl⟩⟩
instance : TZe Go.Proofs.Tryz.prog 18 (.agg #[.pointer none]) := ⟨fun _ => by kernel_rfl⟩
instance : TFa Go.Proofs.Tryz.prog 18 0 0 := ⟨fun _ _ _ => by kernel_rfl⟩
instance : TFv Go.Proofs.Tryz.prog 18 0 0 1 false := ⟨by kernel_rfl⟩
instance : TSt Go.Proofs.Tryz.prog 18 [.pointer none] [(0, 1)] := ⟨fun _ => by kernel_rfl, by kernel_rfl⟩
instance : TSc Go.Proofs.Tryz.prog 21 := ⟨fun _ => ⟨by kernel_rfl, by kernel_rfl⟩⟩
instance : TIn Go.Proofs.Tryz.prog 21 .i32 := ⟨by kernel_rfl⟩
instance : TZe Go.Proofs.Tryz.prog 21 (.int .i32 0) := ⟨fun _ => by kernel_rfl⟩
instance : TKy Go.Proofs.Tryz.prog 21 Int (Value.int .i32) := TKy.int (by kernel_rfl)
instance : TSc Go.Proofs.Tryz.prog 22 := ⟨fun _ => ⟨by kernel_rfl, by kernel_rfl⟩⟩
instance : TZe Go.Proofs.Tryz.prog 22 (.slice none 0 0) := ⟨fun _ => by kernel_rfl⟩
instance : TSl Go.Proofs.Tryz.prog 22 9 1 16 := ⟨by kernel_rfl, fun _ => by kernel_rfl, fun _ => by kernel_rfl, by kernel_rfl⟩
instance : TNI Go.Proofs.Tryz.prog 22 := TNI.mk' (by kernel_rfl)
instance : TSc Go.Proofs.Tryz.prog 23 := ⟨fun _ => ⟨by kernel_rfl, by kernel_rfl⟩⟩
instance : TZe Go.Proofs.Tryz.prog 23 (.pointer none) := ⟨fun _ => by kernel_rfl⟩
instance : TPt Go.Proofs.Tryz.prog 23 := ⟨⟨55, by kernel_rfl⟩⟩
instance : TSc Go.Proofs.Tryz.prog 25 := ⟨fun _ => ⟨by kernel_rfl, by kernel_rfl⟩⟩
instance : TIn Go.Proofs.Tryz.prog 25 .u32 := ⟨by kernel_rfl⟩
instance : TZe Go.Proofs.Tryz.prog 25 (.int .u32 0) := ⟨fun _ => by kernel_rfl⟩
instance : TKy Go.Proofs.Tryz.prog 25 Int (Value.int .u32) := TKy.int (by kernel_rfl)
instance : TSc Go.Proofs.Tryz.prog 26 := ⟨fun _ => ⟨by kernel_rfl, by kernel_rfl⟩⟩
instance : TIn Go.Proofs.Tryz.prog 26 .i64 := ⟨by kernel_rfl⟩
instance : TZe Go.Proofs.Tryz.prog 26 (.int .i64 0) := ⟨fun _ => by kernel_rfl⟩
instance : TKy Go.Proofs.Tryz.prog 26 Int (Value.int .i64) := TKy.int (by kernel_rfl)
instance : TSc Go.Proofs.Tryz.prog 29 := ⟨fun _ => ⟨by kernel_rfl, by kernel_rfl⟩⟩
instance : TZe Go.Proofs.Tryz.prog 29 (.slice none 0 0) := ⟨fun _ => by kernel_rfl⟩
instance : TSl Go.Proofs.Tryz.prog 29 5 1 1 := ⟨by kernel_rfl, fun _ => by kernel_rfl, fun _ => by kernel_rfl, by kernel_rfl⟩
instance : TNI Go.Proofs.Tryz.prog 29 := TNI.mk' (by kernel_rfl)
instance : TSc Go.Proofs.Tryz.prog 31 := ⟨fun _ => ⟨by kernel_rfl, by kernel_rfl⟩⟩
instance : TZe Go.Proofs.Tryz.prog 31 (.pointer none) := ⟨fun _ => by kernel_rfl⟩
instance : TPt Go.Proofs.Tryz.prog 31 := ⟨⟨73, by kernel_rfl⟩⟩
instance : TSc Go.Proofs.Tryz.prog 33 := ⟨fun _ => ⟨by kernel_rfl, by kernel_rfl⟩⟩
instance : TIn Go.Proofs.Tryz.prog 33 .u64 := ⟨by kernel_rfl⟩
instance : TZe Go.Proofs.Tryz.prog 33 (.int .u64 0) := ⟨fun _ => by kernel_rfl⟩
instance : TKy Go.Proofs.Tryz.prog 33 Int (Value.int .u64) := TKy.int (by kernel_rfl)
instance : TSc Go.Proofs.Tryz.prog 34 := ⟨fun _ => ⟨by kernel_rfl, by kernel_rfl⟩⟩
instance : TZe Go.Proofs.Tryz.prog 34 (.slice none 0 0) := ⟨fun _ => by kernel_rfl⟩
instance : TSl Go.Proofs.Tryz.prog 34 81 1 4 := ⟨by kernel_rfl, fun _ => by kernel_rfl, fun _ => by kernel_rfl, by kernel_rfl⟩
instance : TNI Go.Proofs.Tryz.prog 34 := TNI.mk' (by kernel_rfl)
instance : TSc Go.Proofs.Tryz.prog 35 := ⟨fun _ => ⟨by kernel_rfl, by kernel_rfl⟩⟩
instance : TZe Go.Proofs.Tryz.prog 35 (.slice none 0 0) := ⟨fun _ => by kernel_rfl⟩
instance : TSl Go.Proofs.Tryz.prog 35 91 4 48 := ⟨by kernel_rfl, fun _ => by kernel_rfl, fun _ => by kernel_rfl, by kernel_rfl⟩
instance : TNI Go.Proofs.Tryz.prog 35 := TNI.mk' (by kernel_rfl)
instance : TSc Go.Proofs.Tryz.prog 36 := ⟨fun _ => ⟨by kernel_rfl, by kernel_rfl⟩⟩
instance : TZe Go.Proofs.Tryz.prog 36 (.slice none 0 0) := ⟨fun _ => by kernel_rfl⟩
instance : TSl Go.Proofs.Tryz.prog 36 241 3 24 := ⟨by kernel_rfl, fun _ => by kernel_rfl, fun _ => by kernel_rfl, by kernel_rfl⟩
instance : TNI Go.Proofs.Tryz.prog 36 := TNI.mk' (by kernel_rfl)
instance : TAg Go.Proofs.Tryz.prog 37 7 := ⟨fun _ => ⟨by kernel_rfl, by kernel_rfl⟩⟩
instance : TZe Go.Proofs.Tryz.prog 37 (.agg #[.int .i64 0, .int .u32 0, .int .u64 0, .bool false, .slice none 0 0, .slice none 0 0, .slice none 0 0]) := ⟨fun _ => by kernel_rfl⟩
instance : TFa Go.Proofs.Tryz.prog 37 0 0 := ⟨fun _ _ _ => by kernel_rfl⟩
instance : TFv Go.Proofs.Tryz.prog 37 0 0 1 false := ⟨by kernel_rfl⟩
instance : TFa Go.Proofs.Tryz.prog 37 1 1 := ⟨fun _ _ _ => by kernel_rfl⟩
instance : TFv Go.Proofs.Tryz.prog 37 1 1 1 false := ⟨by kernel_rfl⟩
instance : TFa Go.Proofs.Tryz.prog 37 2 2 := ⟨fun _ _ _ => by kernel_rfl⟩
instance : TFv Go.Proofs.Tryz.prog 37 2 2 1 false := ⟨by kernel_rfl⟩
instance : TFa Go.Proofs.Tryz.prog 37 3 3 := ⟨fun _ _ _ => by kernel_rfl⟩
instance : TFv Go.Proofs.Tryz.prog 37 3 3 1 false := ⟨by kernel_rfl⟩
instance : TFa Go.Proofs.Tryz.prog 37 4 4 := ⟨fun _ _ _ => by kernel_rfl⟩
instance : TFv Go.Proofs.Tryz.prog 37 4 4 1 false := ⟨by kernel_rfl⟩
instance : TFa Go.Proofs.Tryz.prog 37 5 5 := ⟨fun _ _ _ => by kernel_rfl⟩
instance : TFv Go.Proofs.Tryz.prog 37 5 5 1 false := ⟨by kernel_rfl⟩
instance : TFa Go.Proofs.Tryz.prog 37 6 6 := ⟨fun _ _ _ => by kernel_rfl⟩
instance : TFv Go.Proofs.Tryz.prog 37 6 6 1 false := ⟨by kernel_rfl⟩
instance : TSt Go.Proofs.Tryz.prog 37 [.int .i64 0, .int .u32 0, .int .u64 0, .bool false, .slice none 0 0, .slice none 0 0, .slice none 0 0] [(0, 1), (1, 1), (2, 1), (3, 1), (4, 1), (5, 1), (6, 1)] := ⟨fun _ => by kernel_rfl, by kernel_rfl⟩
instance : TAg Go.Proofs.Tryz.prog 38 7 := ⟨fun _ => ⟨by kernel_rfl, by kernel_rfl⟩⟩
instance : TZe Go.Proofs.Tryz.prog 38 (.agg #[.int .i64 0, .int .u32 0, .int .u64 0, .bool false, .slice none 0 0, .slice none 0 0, .slice none 0 0]) := ⟨fun _ => by kernel_rfl⟩
instance : TFa Go.Proofs.Tryz.prog 38 0 0 := ⟨fun _ _ _ => by kernel_rfl⟩
instance : TFv Go.Proofs.Tryz.prog 38 0 0 1 false := ⟨by kernel_rfl⟩
instance : TFa Go.Proofs.Tryz.prog 38 1 1 := ⟨fun _ _ _ => by kernel_rfl⟩
instance : TFv Go.Proofs.Tryz.prog 38 1 1 1 false := ⟨by kernel_rfl⟩
instance : TFa Go.Proofs.Tryz.prog 38 2 2 := ⟨fun _ _ _ => by kernel_rfl⟩
instance : TFv Go.Proofs.Tryz.prog 38 2 2 1 false := ⟨by kernel_rfl⟩
instance : TFa Go.Proofs.Tryz.prog 38 3 3 := ⟨fun _ _ _ => by kernel_rfl⟩
instance : TFv Go.Proofs.Tryz.prog 38 3 3 1 false := ⟨by kernel_rfl⟩
instance : TFa Go.Proofs.Tryz.prog 38 4 4 := ⟨fun _ _ _ => by kernel_rfl⟩
instance : TFv Go.Proofs.Tryz.prog 38 4 4 1 false := ⟨by kernel_rfl⟩
instance : TFa Go.Proofs.Tryz.prog 38 5 5 := ⟨fun _ _ _ => by kernel_rfl⟩
instance : TFv Go.Proofs.Tryz.prog 38 5 5 1 false := ⟨by kernel_rfl⟩
instance : TFa Go.Proofs.Tryz.prog 38 6 6 := ⟨fun _ _ _ => by kernel_rfl⟩
instance : TFv Go.Proofs.Tryz.prog 38 6 6 1 false := ⟨by kernel_rfl⟩
instance : TSt Go.Proofs.Tryz.prog 38 [.int .i64 0, .int .u32 0, .int .u64 0, .bool false, .slice none 0 0, .slice none 0 0, .slice none 0 0] [(0, 1), (1, 1), (2, 1), (3, 1), (4, 1), (5, 1), (6, 1)] := ⟨fun _ => by kernel_rfl, by kernel_rfl⟩
instance : TAg Go.Proofs.Tryz.prog 41 2 := ⟨fun _ => ⟨by kernel_rfl, by kernel_rfl⟩⟩
instance : TFl Go.Proofs.Tryz.prog 41 [0, 0] := ⟨by kernel_rfl, by kernel_rfl, by kernel_rfl, by kernel_rfl⟩
instance : TZe Go.Proofs.Tryz.prog 41 (.agg #[.int .u32 0, .int .u64 0]) := ⟨fun _ => by kernel_rfl⟩
instance : TFa Go.Proofs.Tryz.prog 41 0 0 := ⟨fun _ _ _ => by kernel_rfl⟩
instance : TFv Go.Proofs.Tryz.prog 41 0 0 1 false := ⟨by kernel_rfl⟩
instance : TFa Go.Proofs.Tryz.prog 41 1 1 := ⟨fun _ _ _ => by kernel_rfl⟩
instance : TFv Go.Proofs.Tryz.prog 41 1 1 1 false := ⟨by kernel_rfl⟩
instance : TSt Go.Proofs.Tryz.prog 41 [.int .u32 0, .int .u64 0] [(0, 1), (1, 1)] := ⟨fun _ => by kernel_rfl, by kernel_rfl⟩
instance : TAg Go.Proofs.Tryz.prog 42 2 := ⟨fun _ => ⟨by kernel_rfl, by kernel_rfl⟩⟩
instance : TFl Go.Proofs.Tryz.prog 42 [0, 0] := ⟨by kernel_rfl, by kernel_rfl, by kernel_rfl, by kernel_rfl⟩
instance : TZe Go.Proofs.Tryz.prog 42 (.agg #[.int .u32 0, .int .u64 0]) := ⟨fun _ => by kernel_rfl⟩
instance : TFa Go.Proofs.Tryz.prog 42 0 0 := ⟨fun _ _ _ => by kernel_rfl⟩
instance : TFv Go.Proofs.Tryz.prog 42 0 0 1 false := ⟨by kernel_rfl⟩
instance : TFa Go.Proofs.Tryz.prog 42 1 1 := ⟨fun _ _ _ => by kernel_rfl⟩
instance : TFv Go.Proofs.Tryz.prog 42 1 1 1 false := ⟨by kernel_rfl⟩
instance : TSt Go.Proofs.Tryz.prog 42 [.int .u32 0, .int .u64 0] [(0, 1), (1, 1)] := ⟨fun _ => by kernel_rfl, by kernel_rfl⟩
instance : TSc Go.Proofs.Tryz.prog 43 := ⟨fun _ => ⟨by kernel_rfl, by kernel_rfl⟩⟩
instance : TZe Go.Proofs.Tryz.prog 43 (.slice none 0 0) := ⟨fun _ => by kernel_rfl⟩
instance : TSl Go.Proofs.Tryz.prog 43 83 5 40 := ⟨by kernel_rfl, fun _ => by kernel_rfl, fun _ => by kernel_rfl, by kernel_rfl⟩
instance : TNI Go.Proofs.Tryz.prog 43 := TNI.mk' (by kernel_rfl)
instance : TAg Go.Proofs.Tryz.prog 45 5 := ⟨fun _ => ⟨by kernel_rfl, by kernel_rfl⟩⟩
instance : TFl Go.Proofs.Tryz.prog 45 [0, 2, 0, 0, 0] := ⟨by kernel_rfl, by kernel_rfl, by kernel_rfl, by kernel_rfl⟩
instance : TZe Go.Proofs.Tryz.prog 45 (.agg #[.int .i64 0, .string ByteArray.empty, .int .u32 0, .int .u32 0, .int .u64 0]) := ⟨fun _ => by kernel_rfl⟩
instance : TFa Go.Proofs.Tryz.prog 45 0 0 := ⟨fun _ _ _ => by kernel_rfl⟩
instance : TFv Go.Proofs.Tryz.prog 45 0 0 1 false := ⟨by kernel_rfl⟩
instance : TFa Go.Proofs.Tryz.prog 45 1 1 := ⟨fun _ _ _ => by kernel_rfl⟩
instance : TFv Go.Proofs.Tryz.prog 45 1 1 1 false := ⟨by kernel_rfl⟩
instance : TFa Go.Proofs.Tryz.prog 45 2 2 := ⟨fun _ _ _ => by kernel_rfl⟩
instance : TFv Go.Proofs.Tryz.prog 45 2 2 1 false := ⟨by kernel_rfl⟩
instance : TFa Go.Proofs.Tryz.prog 45 3 3 := ⟨fun _ _ _ => by kernel_rfl⟩
instance : TFv Go.Proofs.Tryz.prog 45 3 3 1 false := ⟨by kernel_rfl⟩
instance : TFa Go.Proofs.Tryz.prog 45 4 4 := ⟨fun _ _ _ => by kernel_rfl⟩
instance : TFv Go.Proofs.Tryz.prog 45 4 4 1 false := ⟨by kernel_rfl⟩
instance : TSt Go.Proofs.Tryz.prog 45 [.int .i64 0, .string ByteArray.empty, .int .u32 0, .int .u32 0, .int .u64 0] [(0, 1), (1, 1), (2, 1), (3, 1), (4, 1)] := ⟨fun _ => by kernel_rfl, by kernel_rfl⟩
instance : TAg Go.Proofs.Tryz.prog 46 5 := ⟨fun _ => ⟨by kernel_rfl, by kernel_rfl⟩⟩
instance : TFl Go.Proofs.Tryz.prog 46 [0, 2, 0, 0, 0] := ⟨by kernel_rfl, by kernel_rfl, by kernel_rfl, by kernel_rfl⟩
instance : TZe Go.Proofs.Tryz.prog 46 (.agg #[.int .i64 0, .string ByteArray.empty, .int .u32 0, .int .u32 0, .int .u64 0]) := ⟨fun _ => by kernel_rfl⟩
instance : TFa Go.Proofs.Tryz.prog 46 0 0 := ⟨fun _ _ _ => by kernel_rfl⟩
instance : TFv Go.Proofs.Tryz.prog 46 0 0 1 false := ⟨by kernel_rfl⟩
instance : TFa Go.Proofs.Tryz.prog 46 1 1 := ⟨fun _ _ _ => by kernel_rfl⟩
instance : TFv Go.Proofs.Tryz.prog 46 1 1 1 false := ⟨by kernel_rfl⟩
instance : TFa Go.Proofs.Tryz.prog 46 2 2 := ⟨fun _ _ _ => by kernel_rfl⟩
instance : TFv Go.Proofs.Tryz.prog 46 2 2 1 false := ⟨by kernel_rfl⟩
instance : TFa Go.Proofs.Tryz.prog 46 3 3 := ⟨fun _ _ _ => by kernel_rfl⟩
instance : TFv Go.Proofs.Tryz.prog 46 3 3 1 false := ⟨by kernel_rfl⟩
instance : TFa Go.Proofs.Tryz.prog 46 4 4 := ⟨fun _ _ _ => by kernel_rfl⟩
instance : TFv Go.Proofs.Tryz.prog 46 4 4 1 false := ⟨by kernel_rfl⟩
instance : TSt Go.Proofs.Tryz.prog 46 [.int .i64 0, .string ByteArray.empty, .int .u32 0, .int .u32 0, .int .u64 0] [(0, 1), (1, 1), (2, 1), (3, 1), (4, 1)] := ⟨fun _ => by kernel_rfl, by kernel_rfl⟩
instance : TSc Go.Proofs.Tryz.prog 52 := ⟨fun _ => ⟨by kernel_rfl, by kernel_rfl⟩⟩
instance : TZe Go.Proofs.Tryz.prog 52 (.map none) := ⟨fun _ => by kernel_rfl⟩
instance : TMp Go.Proofs.Tryz.prog 52 9 25 := ⟨by kernel_rfl⟩
instance : TSc Go.Proofs.Tryz.prog 53 := ⟨fun _ => ⟨by kernel_rfl, by kernel_rfl⟩⟩
instance : TZe Go.Proofs.Tryz.prog 53 (.slice none 0 0) := ⟨fun _ => by kernel_rfl⟩
instance : TSl Go.Proofs.Tryz.prog 53 31 1 8 := ⟨by kernel_rfl, fun _ => by kernel_rfl, fun _ => by kernel_rfl, by kernel_rfl⟩
instance : TNI Go.Proofs.Tryz.prog 53 := TNI.mk' (by kernel_rfl)
instance : TAg Go.Proofs.Tryz.prog 54 3 := ⟨fun _ => ⟨by kernel_rfl, by kernel_rfl⟩⟩
instance : TZe Go.Proofs.Tryz.prog 54 (.agg #[.slice none 0 0, .slice none 0 0, .map none]) := ⟨fun _ => by kernel_rfl⟩
instance : TFa Go.Proofs.Tryz.prog 54 0 0 := ⟨fun _ _ _ => by kernel_rfl⟩
instance : TFv Go.Proofs.Tryz.prog 54 0 0 1 false := ⟨by kernel_rfl⟩
instance : TFa Go.Proofs.Tryz.prog 54 1 1 := ⟨fun _ _ _ => by kernel_rfl⟩
instance : TFv Go.Proofs.Tryz.prog 54 1 1 1 false := ⟨by kernel_rfl⟩
instance : TFa Go.Proofs.Tryz.prog 54 2 2 := ⟨fun _ _ _ => by kernel_rfl⟩
instance : TFv Go.Proofs.Tryz.prog 54 2 2 1 false := ⟨by kernel_rfl⟩
instance : TSt Go.Proofs.Tryz.prog 54 [.slice none 0 0, .slice none 0 0, .map none] [(0, 1), (1, 1), (2, 1)] := ⟨fun _ => by kernel_rfl, by kernel_rfl⟩
instance : TAg Go.Proofs.Tryz.prog 55 3 := ⟨fun _ => ⟨by kernel_rfl, by kernel_rfl⟩⟩
instance : TZe Go.Proofs.Tryz.prog 55 (.agg #[.slice none 0 0, .slice none 0 0, .map none]) := ⟨fun _ => by kernel_rfl⟩
instance : TFa Go.Proofs.Tryz.prog 55 0 0 := ⟨fun _ _ _ => by kernel_rfl⟩
instance : TFv Go.Proofs.Tryz.prog 55 0 0 1 false := ⟨by kernel_rfl⟩
instance : TFa Go.Proofs.Tryz.prog 55 1 1 := ⟨fun _ _ _ => by kernel_rfl⟩
instance : TFv Go.Proofs.Tryz.prog 55 1 1 1 false := ⟨by kernel_rfl⟩
instance : TFa Go.Proofs.Tryz.prog 55 2 2 := ⟨fun _ _ _ => by kernel_rfl⟩
instance : TFv Go.Proofs.Tryz.prog 55 2 2 1 false := ⟨by kernel_rfl⟩
instance : TSt Go.Proofs.Tryz.prog 55 [.slice none 0 0, .slice none 0 0, .map none] [(0, 1), (1, 1), (2, 1)] := ⟨fun _ => by kernel_rfl, by kernel_rfl⟩
instance : TAg Go.Proofs.Tryz.prog 60 1 := ⟨fun _ => ⟨by kernel_rfl, by kernel_rfl⟩⟩
instance : TZe Go.Proofs.Tryz.prog 60 (.agg #[.slice none 0 0]) := ⟨fun _ => by kernel_rfl⟩
instance : TFa Go.Proofs.Tryz.prog 60 0 0 := ⟨fun _ _ _ => by kernel_rfl⟩
instance : TFv Go.Proofs.Tryz.prog 60 0 0 1 false := ⟨by kernel_rfl⟩
instance : TSt Go.Proofs.Tryz.prog 60 [.slice none 0 0] [(0, 1)] := ⟨fun _ => by kernel_rfl, by kernel_rfl⟩
instance : TAg Go.Proofs.Tryz.prog 61 1 := ⟨fun _ => ⟨by kernel_rfl, by kernel_rfl⟩⟩
instance : TZe Go.Proofs.Tryz.prog 61 (.agg #[.slice none 0 0]) := ⟨fun _ => by kernel_rfl⟩
instance : TFa Go.Proofs.Tryz.prog 61 0 0 := ⟨fun _ _ _ => by kernel_rfl⟩
instance : TFv Go.Proofs.Tryz.prog 61 0 0 1 false := ⟨by kernel_rfl⟩
instance : TSt Go.Proofs.Tryz.prog 61 [.slice none 0 0] [(0, 1)] := ⟨fun _ => by kernel_rfl, by kernel_rfl⟩
instance : TSc Go.Proofs.Tryz.prog 66 := ⟨fun _ => ⟨by kernel_rfl, by kernel_rfl⟩⟩
instance : TZe Go.Proofs.Tryz.prog 66 (.pointer none) := ⟨fun _ => by kernel_rfl⟩
instance : TPt Go.Proofs.Tryz.prog 66 := ⟨⟨38, by kernel_rfl⟩⟩
instance : TSc Go.Proofs.Tryz.prog 68 := ⟨fun _ => ⟨by kernel_rfl, by kernel_rfl⟩⟩
instance : TZe Go.Proofs.Tryz.prog 68 (.pointer none) := ⟨fun _ => by kernel_rfl⟩
instance : TPt Go.Proofs.Tryz.prog 68 := ⟨⟨157, by kernel_rfl⟩⟩
instance : TSc Go.Proofs.Tryz.prog 69 := ⟨fun _ => ⟨by kernel_rfl, by kernel_rfl⟩⟩
instance : TZe Go.Proofs.Tryz.prog 69 (.pointer none) := ⟨fun _ => by kernel_rfl⟩
instance : TPt Go.Proofs.Tryz.prog 69 := ⟨⟨138, by kernel_rfl⟩⟩
instance : TSc Go.Proofs.Tryz.prog 70 := ⟨fun _ => ⟨by kernel_rfl, by kernel_rfl⟩⟩
instance : TZe Go.Proofs.Tryz.prog 70 (.pointer none) := ⟨fun _ => by kernel_rfl⟩
instance : TPt Go.Proofs.Tryz.prog 70 := ⟨⟨127, by kernel_rfl⟩⟩
instance : TSc Go.Proofs.Tryz.prog 71 := ⟨fun _ => ⟨by kernel_rfl, by kernel_rfl⟩⟩
instance : TZe Go.Proofs.Tryz.prog 71 (.pointer none) := ⟨fun _ => by kernel_rfl⟩
instance : TPt Go.Proofs.Tryz.prog 71 := ⟨⟨130, by kernel_rfl⟩⟩
instance : TAg Go.Proofs.Tryz.prog 72 5 := ⟨fun _ => ⟨by kernel_rfl, by kernel_rfl⟩⟩
instance : TZe Go.Proofs.Tryz.prog 72 (.agg #[.pointer none, .pointer none, .pointer none, .pointer none, .int .u64 0]) := ⟨fun _ => by kernel_rfl⟩
instance : TFa Go.Proofs.Tryz.prog 72 0 0 := ⟨fun _ _ _ => by kernel_rfl⟩
instance : TFv Go.Proofs.Tryz.prog 72 0 0 1 false := ⟨by kernel_rfl⟩
instance : TFa Go.Proofs.Tryz.prog 72 1 1 := ⟨fun _ _ _ => by kernel_rfl⟩
instance : TFv Go.Proofs.Tryz.prog 72 1 1 1 false := ⟨by kernel_rfl⟩
instance : TFa Go.Proofs.Tryz.prog 72 2 2 := ⟨fun _ _ _ => by kernel_rfl⟩
instance : TFv Go.Proofs.Tryz.prog 72 2 2 1 false := ⟨by kernel_rfl⟩
instance : TFa Go.Proofs.Tryz.prog 72 3 3 := ⟨fun _ _ _ => by kernel_rfl⟩
instance : TFv Go.Proofs.Tryz.prog 72 3 3 1 false := ⟨by kernel_rfl⟩
instance : TFa Go.Proofs.Tryz.prog 72 4 4 := ⟨fun _ _ _ => by kernel_rfl⟩
instance : TFv Go.Proofs.Tryz.prog 72 4 4 1 false := ⟨by kernel_rfl⟩
instance : TSt Go.Proofs.Tryz.prog 72 [.pointer none, .pointer none, .pointer none, .pointer none, .int .u64 0] [(0, 1), (1, 1), (2, 1), (3, 1), (4, 1)] := ⟨fun _ => by kernel_rfl, by kernel_rfl⟩
instance : TAg Go.Proofs.Tryz.prog 73 5 := ⟨fun _ => ⟨by kernel_rfl, by kernel_rfl⟩⟩
instance : TZe Go.Proofs.Tryz.prog 73 (.agg #[.pointer none, .pointer none, .pointer none, .pointer none, .int .u64 0]) := ⟨fun _ => by kernel_rfl⟩
instance : TFa Go.Proofs.Tryz.prog 73 0 0 := ⟨fun _ _ _ => by kernel_rfl⟩
instance : TFv Go.Proofs.Tryz.prog 73 0 0 1 false := ⟨by kernel_rfl⟩
instance : TFa Go.Proofs.Tryz.prog 73 1 1 := ⟨fun _ _ _ => by kernel_rfl⟩
instance : TFv Go.Proofs.Tryz.prog 73 1 1 1 false := ⟨by kernel_rfl⟩
instance : TFa Go.Proofs.Tryz.prog 73 2 2 := ⟨fun _ _ _ => by kernel_rfl⟩
instance : TFv Go.Proofs.Tryz.prog 73 2 2 1 false := ⟨by kernel_rfl⟩
instance : TFa Go.Proofs.Tryz.prog 73 3 3 := ⟨fun _ _ _ => by kernel_rfl⟩
instance : TFv Go.Proofs.Tryz.prog 73 3 3 1 false := ⟨by kernel_rfl⟩
instance : TFa Go.Proofs.Tryz.prog 73 4 4 := ⟨fun _ _ _ => by kernel_rfl⟩
instance : TFv Go.Proofs.Tryz.prog 73 4 4 1 false := ⟨by kernel_rfl⟩
instance : TSt Go.Proofs.Tryz.prog 73 [.pointer none, .pointer none, .pointer none, .pointer none, .int .u64 0] [(0, 1), (1, 1), (2, 1), (3, 1), (4, 1)] := ⟨fun _ => by kernel_rfl, by kernel_rfl⟩
instance : TSc Go.Proofs.Tryz.prog 81 := ⟨fun _ => ⟨by kernel_rfl, by kernel_rfl⟩⟩
instance : TIn Go.Proofs.Tryz.prog 81 .i32 := ⟨by kernel_rfl⟩
instance : TZe Go.Proofs.Tryz.prog 81 (.int .i32 0) := ⟨fun _ => by kernel_rfl⟩
instance : TKy Go.Proofs.Tryz.prog 81 Int (Value.int .i32) := TKy.int (by kernel_rfl)
instance : TAg Go.Proofs.Tryz.prog 82 5 := ⟨fun _ => ⟨by kernel_rfl, by kernel_rfl⟩⟩
instance : TZe Go.Proofs.Tryz.prog 82 (.agg #[.int .i64 0, .int .i64 0, .int .i32 0, .int .u32 0, .int .u64 0]) := ⟨fun _ => by kernel_rfl⟩
instance : TFa Go.Proofs.Tryz.prog 82 0 0 := ⟨fun _ _ _ => by kernel_rfl⟩
instance : TFv Go.Proofs.Tryz.prog 82 0 0 1 false := ⟨by kernel_rfl⟩
instance : TFa Go.Proofs.Tryz.prog 82 1 1 := ⟨fun _ _ _ => by kernel_rfl⟩
instance : TFv Go.Proofs.Tryz.prog 82 1 1 1 false := ⟨by kernel_rfl⟩
instance : TFa Go.Proofs.Tryz.prog 82 2 2 := ⟨fun _ _ _ => by kernel_rfl⟩
instance : TFv Go.Proofs.Tryz.prog 82 2 2 1 false := ⟨by kernel_rfl⟩
instance : TFa Go.Proofs.Tryz.prog 82 3 3 := ⟨fun _ _ _ => by kernel_rfl⟩
instance : TFv Go.Proofs.Tryz.prog 82 3 3 2 true := ⟨by kernel_rfl⟩
instance : TSt Go.Proofs.Tryz.prog 82 [.int .i64 0, .int .i64 0, .int .i32 0, .int .u32 0, .int .u64 0] [(0, 1), (1, 1), (2, 1), (3, 2)] := ⟨fun _ => by kernel_rfl, by kernel_rfl⟩
instance : TAg Go.Proofs.Tryz.prog 83 5 := ⟨fun _ => ⟨by kernel_rfl, by kernel_rfl⟩⟩
instance : TZe Go.Proofs.Tryz.prog 83 (.agg #[.int .i64 0, .int .i64 0, .int .i32 0, .int .u32 0, .int .u64 0]) := ⟨fun _ => by kernel_rfl⟩
instance : TFa Go.Proofs.Tryz.prog 83 0 0 := ⟨fun _ _ _ => by kernel_rfl⟩
instance : TFv Go.Proofs.Tryz.prog 83 0 0 1 false := ⟨by kernel_rfl⟩
instance : TFa Go.Proofs.Tryz.prog 83 1 1 := ⟨fun _ _ _ => by kernel_rfl⟩
instance : TFv Go.Proofs.Tryz.prog 83 1 1 1 false := ⟨by kernel_rfl⟩
instance : TFa Go.Proofs.Tryz.prog 83 2 2 := ⟨fun _ _ _ => by kernel_rfl⟩
instance : TFv Go.Proofs.Tryz.prog 83 2 2 1 false := ⟨by kernel_rfl⟩
instance : TFa Go.Proofs.Tryz.prog 83 3 3 := ⟨fun _ _ _ => by kernel_rfl⟩
instance : TFv Go.Proofs.Tryz.prog 83 3 3 2 true := ⟨by kernel_rfl⟩
instance : TSt Go.Proofs.Tryz.prog 83 [.int .i64 0, .int .i64 0, .int .i32 0, .int .u32 0, .int .u64 0] [(0, 1), (1, 1), (2, 1), (3, 2)] := ⟨fun _ => by kernel_rfl, by kernel_rfl⟩
instance : TAg Go.Proofs.Tryz.prog 90 4 := ⟨fun _ => ⟨by kernel_rfl, by kernel_rfl⟩⟩
instance : TZe Go.Proofs.Tryz.prog 90 (.agg #[.int .u32 0, .int .u64 0, .slice none 0 0, .bool false]) := ⟨fun _ => by kernel_rfl⟩
instance : TFa Go.Proofs.Tryz.prog 90 0 0 := ⟨fun _ _ _ => by kernel_rfl⟩
instance : TFv Go.Proofs.Tryz.prog 90 0 0 2 true := ⟨by kernel_rfl⟩
instance : TFa Go.Proofs.Tryz.prog 90 1 2 := ⟨fun _ _ _ => by kernel_rfl⟩
instance : TFv Go.Proofs.Tryz.prog 90 1 2 1 false := ⟨by kernel_rfl⟩
instance : TFa Go.Proofs.Tryz.prog 90 2 3 := ⟨fun _ _ _ => by kernel_rfl⟩
instance : TFv Go.Proofs.Tryz.prog 90 2 3 1 false := ⟨by kernel_rfl⟩
instance : TSt Go.Proofs.Tryz.prog 90 [.int .u32 0, .int .u64 0, .slice none 0 0, .bool false] [(0, 2), (2, 1), (3, 1)] := ⟨fun _ => by kernel_rfl, by kernel_rfl⟩
instance : TAg Go.Proofs.Tryz.prog 91 4 := ⟨fun _ => ⟨by kernel_rfl, by kernel_rfl⟩⟩
instance : TZe Go.Proofs.Tryz.prog 91 (.agg #[.int .u32 0, .int .u64 0, .slice none 0 0, .bool false]) := ⟨fun _ => by kernel_rfl⟩
instance : TFa Go.Proofs.Tryz.prog 91 0 0 := ⟨fun _ _ _ => by kernel_rfl⟩
instance : TFv Go.Proofs.Tryz.prog 91 0 0 2 true := ⟨by kernel_rfl⟩
instance : TFa Go.Proofs.Tryz.prog 91 1 2 := ⟨fun _ _ _ => by kernel_rfl⟩
instance : TFv Go.Proofs.Tryz.prog 91 1 2 1 false := ⟨by kernel_rfl⟩
instance : TFa Go.Proofs.Tryz.prog 91 2 3 := ⟨fun _ _ _ => by kernel_rfl⟩
instance : TFv Go.Proofs.Tryz.prog 91 2 3 1 false := ⟨by kernel_rfl⟩
instance : TSt Go.Proofs.Tryz.prog 91 [.int .u32 0, .int .u64 0, .slice none 0 0, .bool false] [(0, 2), (2, 1), (3, 1)] := ⟨fun _ => by kernel_rfl, by kernel_rfl⟩
instance : TSc Go.Proofs.Tryz.prog 95 := ⟨fun _ => ⟨by kernel_rfl, by kernel_rfl⟩⟩
instance : TZe Go.Proofs.Tryz.prog 95 (.slice none 0 0) := ⟨fun _ => by kernel_rfl⟩
instance : TSl Go.Proofs.Tryz.prog 95 43 1 24 := ⟨by kernel_rfl, fun _ => by kernel_rfl, fun _ => by kernel_rfl, by kernel_rfl⟩
instance : TNI Go.Proofs.Tryz.prog 95 := TNI.mk' (by kernel_rfl)
instance : TSc Go.Proofs.Tryz.prog 110 := ⟨fun _ => ⟨by kernel_rfl, by kernel_rfl⟩⟩
instance : TZe Go.Proofs.Tryz.prog 110 (.pointer none) := ⟨fun _ => by kernel_rfl⟩
instance : TPt Go.Proofs.Tryz.prog 110 := ⟨⟨61, by kernel_rfl⟩⟩
instance : TSc Go.Proofs.Tryz.prog 115 := ⟨fun _ => ⟨by kernel_rfl, by kernel_rfl⟩⟩
instance : TZe Go.Proofs.Tryz.prog 115 (.slice none 0 0) := ⟨fun _ => by kernel_rfl⟩
instance : TSl Go.Proofs.Tryz.prog 115 118 2 16 := ⟨by kernel_rfl, fun _ => by kernel_rfl, fun _ => by kernel_rfl, by kernel_rfl⟩
instance : TNI Go.Proofs.Tryz.prog 115 := TNI.mk' (by kernel_rfl)
instance : TAg Go.Proofs.Tryz.prog 117 2 := ⟨fun _ => ⟨by kernel_rfl, by kernel_rfl⟩⟩
instance : TFl Go.Proofs.Tryz.prog 117 [0, 0] := ⟨by kernel_rfl, by kernel_rfl, by kernel_rfl, by kernel_rfl⟩
instance : TZe Go.Proofs.Tryz.prog 117 (.agg #[.int .u32 0, .int .u64 0]) := ⟨fun _ => by kernel_rfl⟩
instance : TFa Go.Proofs.Tryz.prog 117 0 0 := ⟨fun _ _ _ => by kernel_rfl⟩
instance : TFv Go.Proofs.Tryz.prog 117 0 0 1 false := ⟨by kernel_rfl⟩
instance : TFa Go.Proofs.Tryz.prog 117 1 1 := ⟨fun _ _ _ => by kernel_rfl⟩
instance : TFv Go.Proofs.Tryz.prog 117 1 1 1 false := ⟨by kernel_rfl⟩
instance : TSt Go.Proofs.Tryz.prog 117 [.int .u32 0, .int .u64 0] [(0, 1), (1, 1)] := ⟨fun _ => by kernel_rfl, by kernel_rfl⟩
instance : TAg Go.Proofs.Tryz.prog 118 2 := ⟨fun _ => ⟨by kernel_rfl, by kernel_rfl⟩⟩
instance : TFl Go.Proofs.Tryz.prog 118 [0, 0] := ⟨by kernel_rfl, by kernel_rfl, by kernel_rfl, by kernel_rfl⟩
instance : TZe Go.Proofs.Tryz.prog 118 (.agg #[.int .u32 0, .int .u64 0]) := ⟨fun _ => by kernel_rfl⟩
instance : TFa Go.Proofs.Tryz.prog 118 0 0 := ⟨fun _ _ _ => by kernel_rfl⟩
instance : TFv Go.Proofs.Tryz.prog 118 0 0 1 false := ⟨by kernel_rfl⟩
instance : TFa Go.Proofs.Tryz.prog 118 1 1 := ⟨fun _ _ _ => by kernel_rfl⟩
instance : TFv Go.Proofs.Tryz.prog 118 1 1 1 false := ⟨by kernel_rfl⟩
instance : TSt Go.Proofs.Tryz.prog 118 [.int .u32 0, .int .u64 0] [(0, 1), (1, 1)] := ⟨fun _ => by kernel_rfl, by kernel_rfl⟩
instance : TSc Go.Proofs.Tryz.prog 121 := ⟨fun _ => ⟨by kernel_rfl, by kernel_rfl⟩⟩
instance : TZe Go.Proofs.Tryz.prog 121 (.slice none 0 0) := ⟨fun _ => by kernel_rfl⟩
instance : TSl Go.Proofs.Tryz.prog 121 25 1 4 := ⟨by kernel_rfl, fun _ => by kernel_rfl, fun _ => by kernel_rfl, by kernel_rfl⟩
instance : TNI Go.Proofs.Tryz.prog 121 := TNI.mk' (by kernel_rfl)
instance : TSc Go.Proofs.Tryz.prog 125 := ⟨fun _ => ⟨by kernel_rfl, by kernel_rfl⟩⟩
instance : TZe Go.Proofs.Tryz.prog 125 (.map none) := ⟨fun _ => by kernel_rfl⟩
instance : TMp Go.Proofs.Tryz.prog 125 25 33 := ⟨by kernel_rfl⟩
instance : TAg Go.Proofs.Tryz.prog 126 1 := ⟨fun _ => ⟨by kernel_rfl, by kernel_rfl⟩⟩
instance : TZe Go.Proofs.Tryz.prog 126 (.agg #[.map none]) := ⟨fun _ => by kernel_rfl⟩
instance : TFa Go.Proofs.Tryz.prog 126 0 0 := ⟨fun _ _ _ => by kernel_rfl⟩
instance : TFv Go.Proofs.Tryz.prog 126 0 0 1 false := ⟨by kernel_rfl⟩
instance : TSt Go.Proofs.Tryz.prog 126 [.map none] [(0, 1)] := ⟨fun _ => by kernel_rfl, by kernel_rfl⟩
instance : TAg Go.Proofs.Tryz.prog 127 1 := ⟨fun _ => ⟨by kernel_rfl, by kernel_rfl⟩⟩
instance : TZe Go.Proofs.Tryz.prog 127 (.agg #[.map none]) := ⟨fun _ => by kernel_rfl⟩
instance : TFa Go.Proofs.Tryz.prog 127 0 0 := ⟨fun _ _ _ => by kernel_rfl⟩
instance : TFv Go.Proofs.Tryz.prog 127 0 0 1 false := ⟨by kernel_rfl⟩
instance : TSt Go.Proofs.Tryz.prog 127 [.map none] [(0, 1)] := ⟨fun _ => by kernel_rfl, by kernel_rfl⟩
instance : TSc Go.Proofs.Tryz.prog 128 := ⟨fun _ => ⟨by kernel_rfl, by kernel_rfl⟩⟩
instance : TZe Go.Proofs.Tryz.prog 128 (.map none) := ⟨fun _ => by kernel_rfl⟩
instance : TMp Go.Proofs.Tryz.prog 128 25 3 := ⟨by kernel_rfl⟩
instance : TAg Go.Proofs.Tryz.prog 129 2 := ⟨fun _ => ⟨by kernel_rfl, by kernel_rfl⟩⟩
instance : TZe Go.Proofs.Tryz.prog 129 (.agg #[.int .i64 0, .map none]) := ⟨fun _ => by kernel_rfl⟩
instance : TFa Go.Proofs.Tryz.prog 129 0 0 := ⟨fun _ _ _ => by kernel_rfl⟩
instance : TFv Go.Proofs.Tryz.prog 129 0 0 1 false := ⟨by kernel_rfl⟩
instance : TFa Go.Proofs.Tryz.prog 129 1 1 := ⟨fun _ _ _ => by kernel_rfl⟩
instance : TFv Go.Proofs.Tryz.prog 129 1 1 1 false := ⟨by kernel_rfl⟩
instance : TSt Go.Proofs.Tryz.prog 129 [.int .i64 0, .map none] [(0, 1), (1, 1)] := ⟨fun _ => by kernel_rfl, by kernel_rfl⟩
instance : TAg Go.Proofs.Tryz.prog 130 2 := ⟨fun _ => ⟨by kernel_rfl, by kernel_rfl⟩⟩
instance : TZe Go.Proofs.Tryz.prog 130 (.agg #[.int .i64 0, .map none]) := ⟨fun _ => by kernel_rfl⟩
instance : TFa Go.Proofs.Tryz.prog 130 0 0 := ⟨fun _ _ _ => by kernel_rfl⟩
instance : TFv Go.Proofs.Tryz.prog 130 0 0 1 false := ⟨by kernel_rfl⟩
instance : TFa Go.Proofs.Tryz.prog 130 1 1 := ⟨fun _ _ _ => by kernel_rfl⟩
instance : TFv Go.Proofs.Tryz.prog 130 1 1 1 false := ⟨by kernel_rfl⟩
instance : TSt Go.Proofs.Tryz.prog 130 [.int .i64 0, .map none] [(0, 1), (1, 1)] := ⟨fun _ => by kernel_rfl, by kernel_rfl⟩
instance : TSc Go.Proofs.Tryz.prog 136 := ⟨fun _ => ⟨by kernel_rfl, by kernel_rfl⟩⟩
instance : TZe Go.Proofs.Tryz.prog 136 (.slice none 0 0) := ⟨fun _ => by kernel_rfl⟩
instance : TSl Go.Proofs.Tryz.prog 136 3 1 8 := ⟨by kernel_rfl, fun _ => by kernel_rfl, fun _ => by kernel_rfl, by kernel_rfl⟩
instance : TNI Go.Proofs.Tryz.prog 136 := TNI.mk' (by kernel_rfl)
instance : TAg Go.Proofs.Tryz.prog 137 4 := ⟨fun _ => ⟨by kernel_rfl, by kernel_rfl⟩⟩
instance : TZe Go.Proofs.Tryz.prog 137 (.agg #[.int .u64 0, .slice none 0 0, .slice none 0 0, .bool false]) := ⟨fun _ => by kernel_rfl⟩
instance : TFa Go.Proofs.Tryz.prog 137 0 0 := ⟨fun _ _ _ => by kernel_rfl⟩
instance : TFv Go.Proofs.Tryz.prog 137 0 0 1 false := ⟨by kernel_rfl⟩
instance : TFa Go.Proofs.Tryz.prog 137 1 1 := ⟨fun _ _ _ => by kernel_rfl⟩
instance : TFv Go.Proofs.Tryz.prog 137 1 1 1 false := ⟨by kernel_rfl⟩
instance : TFa Go.Proofs.Tryz.prog 137 2 2 := ⟨fun _ _ _ => by kernel_rfl⟩
instance : TFv Go.Proofs.Tryz.prog 137 2 2 1 false := ⟨by kernel_rfl⟩
instance : TFa Go.Proofs.Tryz.prog 137 3 3 := ⟨fun _ _ _ => by kernel_rfl⟩
instance : TFv Go.Proofs.Tryz.prog 137 3 3 1 false := ⟨by kernel_rfl⟩
instance : TSt Go.Proofs.Tryz.prog 137 [.int .u64 0, .slice none 0 0, .slice none 0 0, .bool false] [(0, 1), (1, 1), (2, 1), (3, 1)] := ⟨fun _ => by kernel_rfl, by kernel_rfl⟩
instance : TAg Go.Proofs.Tryz.prog 138 4 := ⟨fun _ => ⟨by kernel_rfl, by kernel_rfl⟩⟩
instance : TZe Go.Proofs.Tryz.prog 138 (.agg #[.int .u64 0, .slice none 0 0, .slice none 0 0, .bool false]) := ⟨fun _ => by kernel_rfl⟩
instance : TFa Go.Proofs.Tryz.prog 138 0 0 := ⟨fun _ _ _ => by kernel_rfl⟩
instance : TFv Go.Proofs.Tryz.prog 138 0 0 1 false := ⟨by kernel_rfl⟩
instance : TFa Go.Proofs.Tryz.prog 138 1 1 := ⟨fun _ _ _ => by kernel_rfl⟩
instance : TFv Go.Proofs.Tryz.prog 138 1 1 1 false := ⟨by kernel_rfl⟩
instance : TFa Go.Proofs.Tryz.prog 138 2 2 := ⟨fun _ _ _ => by kernel_rfl⟩
instance : TFv Go.Proofs.Tryz.prog 138 2 2 1 false := ⟨by kernel_rfl⟩
instance : TFa Go.Proofs.Tryz.prog 138 3 3 := ⟨fun _ _ _ => by kernel_rfl⟩
instance : TFv Go.Proofs.Tryz.prog 138 3 3 1 false := ⟨by kernel_rfl⟩
instance : TSt Go.Proofs.Tryz.prog 138 [.int .u64 0, .slice none 0 0, .slice none 0 0, .bool false] [(0, 1), (1, 1), (2, 1), (3, 1)] := ⟨fun _ => by kernel_rfl, by kernel_rfl⟩
instance : TSc Go.Proofs.Tryz.prog 155 := ⟨fun _ => ⟨by kernel_rfl, by kernel_rfl⟩⟩
instance : TZe Go.Proofs.Tryz.prog 155 (.slice none 0 0) := ⟨fun _ => by kernel_rfl⟩
instance : TSl Go.Proofs.Tryz.prog 155 159 3 24 := ⟨by kernel_rfl, fun _ => by kernel_rfl, fun _ => by kernel_rfl, by kernel_rfl⟩
instance : TNI Go.Proofs.Tryz.prog 155 := TNI.mk' (by kernel_rfl)
instance : TAg Go.Proofs.Tryz.prog 156 5 := ⟨fun _ => ⟨by kernel_rfl, by kernel_rfl⟩⟩
instance : TZe Go.Proofs.Tryz.prog 156 (.agg #[.slice none 0 0, .slice none 0 0, .slice none 0 0, .int .i64 0, .bool false]) := ⟨fun _ => by kernel_rfl⟩
instance : TFa Go.Proofs.Tryz.prog 156 0 0 := ⟨fun _ _ _ => by kernel_rfl⟩
instance : TFv Go.Proofs.Tryz.prog 156 0 0 1 false := ⟨by kernel_rfl⟩
instance : TFa Go.Proofs.Tryz.prog 156 1 1 := ⟨fun _ _ _ => by kernel_rfl⟩
instance : TFv Go.Proofs.Tryz.prog 156 1 1 1 false := ⟨by kernel_rfl⟩
instance : TFa Go.Proofs.Tryz.prog 156 2 2 := ⟨fun _ _ _ => by kernel_rfl⟩
instance : TFv Go.Proofs.Tryz.prog 156 2 2 1 false := ⟨by kernel_rfl⟩
instance : TFa Go.Proofs.Tryz.prog 156 3 3 := ⟨fun _ _ _ => by kernel_rfl⟩
instance : TFv Go.Proofs.Tryz.prog 156 3 3 1 false := ⟨by kernel_rfl⟩
instance : TFa Go.Proofs.Tryz.prog 156 4 4 := ⟨fun _ _ _ => by kernel_rfl⟩
instance : TFv Go.Proofs.Tryz.prog 156 4 4 1 false := ⟨by kernel_rfl⟩
instance : TSt Go.Proofs.Tryz.prog 156 [.slice none 0 0, .slice none 0 0, .slice none 0 0, .int .i64 0, .bool false] [(0, 1), (1, 1), (2, 1), (3, 1), (4, 1)] := ⟨fun _ => by kernel_rfl, by kernel_rfl⟩
instance : TAg Go.Proofs.Tryz.prog 157 5 := ⟨fun _ => ⟨by kernel_rfl, by kernel_rfl⟩⟩
instance : TZe Go.Proofs.Tryz.prog 157 (.agg #[.slice none 0 0, .slice none 0 0, .slice none 0 0, .int .i64 0, .bool false]) := ⟨fun _ => by kernel_rfl⟩
instance : TFa Go.Proofs.Tryz.prog 157 0 0 := ⟨fun _ _ _ => by kernel_rfl⟩
instance : TFv Go.Proofs.Tryz.prog 157 0 0 1 false := ⟨by kernel_rfl⟩
instance : TFa Go.Proofs.Tryz.prog 157 1 1 := ⟨fun _ _ _ => by kernel_rfl⟩
instance : TFv Go.Proofs.Tryz.prog 157 1 1 1 false := ⟨by kernel_rfl⟩
instance : TFa Go.Proofs.Tryz.prog 157 2 2 := ⟨fun _ _ _ => by kernel_rfl⟩
instance : TFv Go.Proofs.Tryz.prog 157 2 2 1 false := ⟨by kernel_rfl⟩
instance : TFa Go.Proofs.Tryz.prog 157 3 3 := ⟨fun _ _ _ => by kernel_rfl⟩
instance : TFv Go.Proofs.Tryz.prog 157 3 3 1 false := ⟨by kernel_rfl⟩
instance : TFa Go.Proofs.Tryz.prog 157 4 4 := ⟨fun _ _ _ => by kernel_rfl⟩
instance : TFv Go.Proofs.Tryz.prog 157 4 4 1 false := ⟨by kernel_rfl⟩
instance : TSt Go.Proofs.Tryz.prog 157 [.slice none 0 0, .slice none 0 0, .slice none 0 0, .int .i64 0, .bool false] [(0, 1), (1, 1), (2, 1), (3, 1), (4, 1)] := ⟨fun _ => by kernel_rfl, by kernel_rfl⟩
instance : TAg Go.Proofs.Tryz.prog 158 3 := ⟨fun _ => ⟨by kernel_rfl, by kernel_rfl⟩⟩
instance : TFl Go.Proofs.Tryz.prog 158 [1, 0, 0] := ⟨by kernel_rfl, by kernel_rfl, by kernel_rfl, by kernel_rfl⟩
instance : TZe Go.Proofs.Tryz.prog 158 (.agg #[.bool false, .int .i64 0, .int .i64 0]) := ⟨fun _ => by kernel_rfl⟩
instance : TFa Go.Proofs.Tryz.prog 158 0 0 := ⟨fun _ _ _ => by kernel_rfl⟩
instance : TFv Go.Proofs.Tryz.prog 158 0 0 1 false := ⟨by kernel_rfl⟩
instance : TFa Go.Proofs.Tryz.prog 158 1 1 := ⟨fun _ _ _ => by kernel_rfl⟩
instance : TFv Go.Proofs.Tryz.prog 158 1 1 1 false := ⟨by kernel_rfl⟩
instance : TFa Go.Proofs.Tryz.prog 158 2 2 := ⟨fun _ _ _ => by kernel_rfl⟩
instance : TFv Go.Proofs.Tryz.prog 158 2 2 1 false := ⟨by kernel_rfl⟩
instance : TSt Go.Proofs.Tryz.prog 158 [.bool false, .int .i64 0, .int .i64 0] [(0, 1), (1, 1), (2, 1)] := ⟨fun _ => by kernel_rfl, by kernel_rfl⟩
instance : TAg Go.Proofs.Tryz.prog 159 3 := ⟨fun _ => ⟨by kernel_rfl, by kernel_rfl⟩⟩
instance : TFl Go.Proofs.Tryz.prog 159 [1, 0, 0] := ⟨by kernel_rfl, by kernel_rfl, by kernel_rfl, by kernel_rfl⟩
instance : TZe Go.Proofs.Tryz.prog 159 (.agg #[.bool false, .int .i64 0, .int .i64 0]) := ⟨fun _ => by kernel_rfl⟩
instance : TFa Go.Proofs.Tryz.prog 159 0 0 := ⟨fun _ _ _ => by kernel_rfl⟩
instance : TFv Go.Proofs.Tryz.prog 159 0 0 1 false := ⟨by kernel_rfl⟩
instance : TFa Go.Proofs.Tryz.prog 159 1 1 := ⟨fun _ _ _ => by kernel_rfl⟩
instance : TFv Go.Proofs.Tryz.prog 159 1 1 1 false := ⟨by kernel_rfl⟩
instance : TFa Go.Proofs.Tryz.prog 159 2 2 := ⟨fun _ _ _ => by kernel_rfl⟩
instance : TFv Go.Proofs.Tryz.prog 159 2 2 1 false := ⟨by kernel_rfl⟩
instance : TSt Go.Proofs.Tryz.prog 159 [.bool false, .int .i64 0, .int .i64 0] [(0, 1), (1, 1), (2, 1)] := ⟨fun _ => by kernel_rfl, by kernel_rfl⟩
instance : TSc Go.Proofs.Tryz.prog 165 := ⟨fun _ => ⟨by kernel_rfl, by kernel_rfl⟩⟩
instance : TIn Go.Proofs.Tryz.prog 165 .u64 := ⟨by kernel_rfl⟩
instance : TZe Go.Proofs.Tryz.prog 165 (.int .u64 0) := ⟨fun _ => by kernel_rfl⟩
instance : TKy Go.Proofs.Tryz.prog 165 Int (Value.int .u64) := TKy.int (by kernel_rfl)
instance : TAg Go.Proofs.Tryz.prog 166 5 := ⟨fun _ => ⟨by kernel_rfl, by kernel_rfl⟩⟩
instance : TZe Go.Proofs.Tryz.prog 166 (.agg #[.int .u64 0, .int .u64 0, .int .u64 0, .int .u64 0, .int .u64 0]) := ⟨fun _ => by kernel_rfl⟩
instance : TSt Go.Proofs.Tryz.prog 166 [.int .u64 0, .int .u64 0, .int .u64 0, .int .u64 0, .int .u64 0] [(0, 1), (1, 1), (2, 1), (3, 1), (4, 1)] := ⟨fun _ => by kernel_rfl, by kernel_rfl⟩
instance : TZe Go.Proofs.Tryz.prog 185 (.nilFunc) := ⟨fun _ => by kernel_rfl⟩
instance : TSc Go.Proofs.Tryz.prog 189 := ⟨fun _ => ⟨by kernel_rfl, by kernel_rfl⟩⟩
instance : TZe Go.Proofs.Tryz.prog 189 (.slice none 0 0) := ⟨fun _ => by kernel_rfl⟩
instance : TSl Go.Proofs.Tryz.prog 189 155 1 24 := ⟨by kernel_rfl, fun _ => by kernel_rfl, fun _ => by kernel_rfl, by kernel_rfl⟩
instance : TNI Go.Proofs.Tryz.prog 189 := TNI.mk' (by kernel_rfl)
instance : TSc Go.Proofs.Tryz.prog 193 := ⟨fun _ => ⟨by kernel_rfl, by kernel_rfl⟩⟩
instance : TZe Go.Proofs.Tryz.prog 193 (.map none) := ⟨fun _ => by kernel_rfl⟩
instance : TMp Go.Proofs.Tryz.prog 193 195 191 := ⟨by kernel_rfl⟩
instance : TAg Go.Proofs.Tryz.prog 194 2 := ⟨fun _ => ⟨by kernel_rfl, by kernel_rfl⟩⟩
instance : TFl Go.Proofs.Tryz.prog 194 [0, 0] := ⟨by kernel_rfl, by kernel_rfl, by kernel_rfl, by kernel_rfl⟩
instance : TZe Go.Proofs.Tryz.prog 194 (.agg #[.int .i64 0, .int .i64 0]) := ⟨fun _ => by kernel_rfl⟩
instance : TFa Go.Proofs.Tryz.prog 194 0 0 := ⟨fun _ _ _ => by kernel_rfl⟩
instance : TFv Go.Proofs.Tryz.prog 194 0 0 1 false := ⟨by kernel_rfl⟩
instance : TFa Go.Proofs.Tryz.prog 194 1 1 := ⟨fun _ _ _ => by kernel_rfl⟩
instance : TFv Go.Proofs.Tryz.prog 194 1 1 1 false := ⟨by kernel_rfl⟩
instance : TSt Go.Proofs.Tryz.prog 194 [.int .i64 0, .int .i64 0] [(0, 1), (1, 1)] := ⟨fun _ => by kernel_rfl, by kernel_rfl⟩
instance : TAg Go.Proofs.Tryz.prog 195 2 := ⟨fun _ => ⟨by kernel_rfl, by kernel_rfl⟩⟩
instance : TFl Go.Proofs.Tryz.prog 195 [0, 0] := ⟨by kernel_rfl, by kernel_rfl, by kernel_rfl, by kernel_rfl⟩
instance : TZe Go.Proofs.Tryz.prog 195 (.agg #[.int .i64 0, .int .i64 0]) := ⟨fun _ => by kernel_rfl⟩
instance : TFa Go.Proofs.Tryz.prog 195 0 0 := ⟨fun _ _ _ => by kernel_rfl⟩
instance : TFv Go.Proofs.Tryz.prog 195 0 0 1 false := ⟨by kernel_rfl⟩
instance : TFa Go.Proofs.Tryz.prog 195 1 1 := ⟨fun _ _ _ => by kernel_rfl⟩
instance : TFv Go.Proofs.Tryz.prog 195 1 1 1 false := ⟨by kernel_rfl⟩
instance : TSt Go.Proofs.Tryz.prog 195 [.int .i64 0, .int .i64 0] [(0, 1), (1, 1)] := ⟨fun _ => by kernel_rfl, by kernel_rfl⟩
instance : TAg Go.Proofs.Tryz.prog 199 3 := ⟨fun _ => ⟨by kernel_rfl, by kernel_rfl⟩⟩
instance : TFl Go.Proofs.Tryz.prog 199 [0, 0, 0] := ⟨by kernel_rfl, by kernel_rfl, by kernel_rfl, by kernel_rfl⟩
instance : TZe Go.Proofs.Tryz.prog 199 (.agg #[.int .i32 0, .int .u8 0, .int .u64 0]) := ⟨fun _ => by kernel_rfl⟩
instance : TFa Go.Proofs.Tryz.prog 199 0 0 := ⟨fun _ _ _ => by kernel_rfl⟩
instance : TFv Go.Proofs.Tryz.prog 199 0 0 1 false := ⟨by kernel_rfl⟩
instance : TFa Go.Proofs.Tryz.prog 199 1 1 := ⟨fun _ _ _ => by kernel_rfl⟩
instance : TFv Go.Proofs.Tryz.prog 199 1 1 1 false := ⟨by kernel_rfl⟩
instance : TFa Go.Proofs.Tryz.prog 199 2 2 := ⟨fun _ _ _ => by kernel_rfl⟩
instance : TFv Go.Proofs.Tryz.prog 199 2 2 1 false := ⟨by kernel_rfl⟩
instance : TSt Go.Proofs.Tryz.prog 199 [.int .i32 0, .int .u8 0, .int .u64 0] [(0, 1), (1, 1), (2, 1)] := ⟨fun _ => by kernel_rfl, by kernel_rfl⟩
instance : TAg Go.Proofs.Tryz.prog 200 3 := ⟨fun _ => ⟨by kernel_rfl, by kernel_rfl⟩⟩
instance : TFl Go.Proofs.Tryz.prog 200 [0, 0, 0] := ⟨by kernel_rfl, by kernel_rfl, by kernel_rfl, by kernel_rfl⟩
instance : TZe Go.Proofs.Tryz.prog 200 (.agg #[.int .i32 0, .int .u8 0, .int .u64 0]) := ⟨fun _ => by kernel_rfl⟩
instance : TFa Go.Proofs.Tryz.prog 200 0 0 := ⟨fun _ _ _ => by kernel_rfl⟩
instance : TFv Go.Proofs.Tryz.prog 200 0 0 1 false := ⟨by kernel_rfl⟩
instance : TFa Go.Proofs.Tryz.prog 200 1 1 := ⟨fun _ _ _ => by kernel_rfl⟩
instance : TFv Go.Proofs.Tryz.prog 200 1 1 1 false := ⟨by kernel_rfl⟩
instance : TFa Go.Proofs.Tryz.prog 200 2 2 := ⟨fun _ _ _ => by kernel_rfl⟩
instance : TFv Go.Proofs.Tryz.prog 200 2 2 1 false := ⟨by kernel_rfl⟩
instance : TSt Go.Proofs.Tryz.prog 200 [.int .i32 0, .int .u8 0, .int .u64 0] [(0, 1), (1, 1), (2, 1)] := ⟨fun _ => by kernel_rfl, by kernel_rfl⟩
instance : TAg Go.Proofs.Tryz.prog 201 12 := ⟨fun _ => ⟨by kernel_rfl, by kernel_rfl⟩⟩
instance : TZe Go.Proofs.Tryz.prog 201 (.agg #[.int .i32 0, .int .u8 0, .int .u64 0, .int .i32 0, .int .u8 0, .int .u64 0, .int .i32 0, .int .u8 0, .int .u64 0, .int .i32 0, .int .u8 0, .int .u64 0]) := ⟨fun _ => by kernel_rfl⟩
instance : TSt Go.Proofs.Tryz.prog 201 [.int .i32 0, .int .u8 0, .int .u64 0, .int .i32 0, .int .u8 0, .int .u64 0, .int .i32 0, .int .u8 0, .int .u64 0, .int .i32 0, .int .u8 0, .int .u64 0] [(0, 3), (3, 3), (6, 3), (9, 3)] := ⟨fun _ => by kernel_rfl, by kernel_rfl⟩
instance : TSc Go.Proofs.Tryz.prog 209 := ⟨fun _ => ⟨by kernel_rfl, by kernel_rfl⟩⟩
instance : TIn Go.Proofs.Tryz.prog 209 .i64 := ⟨by kernel_rfl⟩
instance : TZe Go.Proofs.Tryz.prog 209 (.int .i64 0) := ⟨fun _ => by kernel_rfl⟩
instance : TKy Go.Proofs.Tryz.prog 209 Int (Value.int .i64) := TKy.int (by kernel_rfl)
instance : TSc Go.Proofs.Tryz.prog 218 := ⟨fun _ => ⟨by kernel_rfl, by kernel_rfl⟩⟩
instance : TIn Go.Proofs.Tryz.prog 218 .u64 := ⟨by kernel_rfl⟩
instance : TZe Go.Proofs.Tryz.prog 218 (.int .u64 0) := ⟨fun _ => by kernel_rfl⟩
instance : TKy Go.Proofs.Tryz.prog 218 Int (Value.int .u64) := TKy.int (by kernel_rfl)
instance : TSc Go.Proofs.Tryz.prog 221 := ⟨fun _ => ⟨by kernel_rfl, by kernel_rfl⟩⟩
instance : TZe Go.Proofs.Tryz.prog 221 (.pointer none) := ⟨fun _ => by kernel_rfl⟩
instance : TPt Go.Proofs.Tryz.prog 221 := ⟨⟨3, by kernel_rfl⟩⟩
instance : TSc Go.Proofs.Tryz.prog 223 := ⟨fun _ => ⟨by kernel_rfl, by kernel_rfl⟩⟩
instance : TZe Go.Proofs.Tryz.prog 223 (.pointer none) := ⟨fun _ => by kernel_rfl⟩
instance : TPt Go.Proofs.Tryz.prog 223 := ⟨⟨218, by kernel_rfl⟩⟩
instance : TAg Go.Proofs.Tryz.prog 227 4 := ⟨fun _ => ⟨by kernel_rfl, by kernel_rfl⟩⟩
instance : TZe Go.Proofs.Tryz.prog 227 (.agg #[.pointer none, .pointer none, .pointer none, .string ByteArray.empty]) := ⟨fun _ => by kernel_rfl⟩
instance : TFa Go.Proofs.Tryz.prog 227 0 0 := ⟨fun _ _ _ => by kernel_rfl⟩
instance : TFv Go.Proofs.Tryz.prog 227 0 0 1 false := ⟨by kernel_rfl⟩
instance : TFa Go.Proofs.Tryz.prog 227 1 1 := ⟨fun _ _ _ => by kernel_rfl⟩
instance : TFv Go.Proofs.Tryz.prog 227 1 1 1 false := ⟨by kernel_rfl⟩
instance : TFa Go.Proofs.Tryz.prog 227 2 2 := ⟨fun _ _ _ => by kernel_rfl⟩
instance : TFv Go.Proofs.Tryz.prog 227 2 2 1 false := ⟨by kernel_rfl⟩
instance : TFa Go.Proofs.Tryz.prog 227 3 3 := ⟨fun _ _ _ => by kernel_rfl⟩
instance : TFv Go.Proofs.Tryz.prog 227 3 3 1 false := ⟨by kernel_rfl⟩
instance : TSt Go.Proofs.Tryz.prog 227 [.pointer none, .pointer none, .pointer none, .string ByteArray.empty] [(0, 1), (1, 1), (2, 1), (3, 1)] := ⟨fun _ => by kernel_rfl, by kernel_rfl⟩
instance : TAg Go.Proofs.Tryz.prog 229 0 := ⟨fun _ => ⟨by kernel_rfl, by kernel_rfl⟩⟩
instance : TZe Go.Proofs.Tryz.prog 229 (.agg #[]) := ⟨fun _ => by kernel_rfl⟩
instance : TSt Go.Proofs.Tryz.prog 229 [] [] := ⟨fun _ => by kernel_rfl, by kernel_rfl⟩
instance : TAg Go.Proofs.Tryz.prog 230 0 := ⟨fun _ => ⟨by kernel_rfl, by kernel_rfl⟩⟩
instance : TZe Go.Proofs.Tryz.prog 230 (.agg #[]) := ⟨fun _ => by kernel_rfl⟩
instance : TSt Go.Proofs.Tryz.prog 230 [] [(0, 0)] := ⟨fun _ => by kernel_rfl, by kernel_rfl⟩
instance : TSc Go.Proofs.Tryz.prog 235 := ⟨fun _ => ⟨by kernel_rfl, by kernel_rfl⟩⟩
instance : TZe Go.Proofs.Tryz.prog 235 (.pointer none) := ⟨fun _ => by kernel_rfl⟩
instance : TPt Go.Proofs.Tryz.prog 235 := ⟨⟨5, by kernel_rfl⟩⟩
instance : TAg Go.Proofs.Tryz.prog 238 11 := ⟨fun _ => ⟨by kernel_rfl, by kernel_rfl⟩⟩
instance : TZe Go.Proofs.Tryz.prog 238 (.agg #[.int .u64 0, .int .u64 0, .int .u32 0, .int .u8 0, .int .u8 0, .int .u8 0, .int .u8 0, .nilFunc, .pointer none, .int .i32 0, .int .i32 0]) := ⟨fun _ => by kernel_rfl⟩
instance : TFa Go.Proofs.Tryz.prog 238 0 0 := ⟨fun _ _ _ => by kernel_rfl⟩
instance : TFv Go.Proofs.Tryz.prog 238 0 0 1 false := ⟨by kernel_rfl⟩
instance : TFa Go.Proofs.Tryz.prog 238 1 1 := ⟨fun _ _ _ => by kernel_rfl⟩
instance : TFv Go.Proofs.Tryz.prog 238 1 1 1 false := ⟨by kernel_rfl⟩
instance : TFa Go.Proofs.Tryz.prog 238 2 2 := ⟨fun _ _ _ => by kernel_rfl⟩
instance : TFv Go.Proofs.Tryz.prog 238 2 2 1 false := ⟨by kernel_rfl⟩
instance : TFa Go.Proofs.Tryz.prog 238 3 3 := ⟨fun _ _ _ => by kernel_rfl⟩
instance : TFv Go.Proofs.Tryz.prog 238 3 3 1 false := ⟨by kernel_rfl⟩
instance : TFa Go.Proofs.Tryz.prog 238 4 4 := ⟨fun _ _ _ => by kernel_rfl⟩
instance : TFv Go.Proofs.Tryz.prog 238 4 4 1 false := ⟨by kernel_rfl⟩
instance : TFa Go.Proofs.Tryz.prog 238 5 5 := ⟨fun _ _ _ => by kernel_rfl⟩
instance : TFv Go.Proofs.Tryz.prog 238 5 5 1 false := ⟨by kernel_rfl⟩
instance : TFa Go.Proofs.Tryz.prog 238 6 6 := ⟨fun _ _ _ => by kernel_rfl⟩
instance : TFv Go.Proofs.Tryz.prog 238 6 6 1 false := ⟨by kernel_rfl⟩
instance : TFa Go.Proofs.Tryz.prog 238 7 7 := ⟨fun _ _ _ => by kernel_rfl⟩
instance : TFv Go.Proofs.Tryz.prog 238 7 7 1 false := ⟨by kernel_rfl⟩
instance : TFa Go.Proofs.Tryz.prog 238 8 8 := ⟨fun _ _ _ => by kernel_rfl⟩
instance : TFv Go.Proofs.Tryz.prog 238 8 8 1 false := ⟨by kernel_rfl⟩
instance : TFa Go.Proofs.Tryz.prog 238 9 9 := ⟨fun _ _ _ => by kernel_rfl⟩
instance : TFv Go.Proofs.Tryz.prog 238 9 9 1 false := ⟨by kernel_rfl⟩
instance : TFa Go.Proofs.Tryz.prog 238 10 10 := ⟨fun _ _ _ => by kernel_rfl⟩
instance : TFv Go.Proofs.Tryz.prog 238 10 10 1 false := ⟨by kernel_rfl⟩
instance : TSt Go.Proofs.Tryz.prog 238 [.int .u64 0, .int .u64 0, .int .u32 0, .int .u8 0, .int .u8 0, .int .u8 0, .int .u8 0, .nilFunc, .pointer none, .int .i32 0, .int .i32 0] [(0, 1), (1, 1), (2, 1), (3, 1), (4, 1), (5, 1), (6, 1), (7, 1), (8, 1), (9, 1), (10, 1)] := ⟨fun _ => by kernel_rfl, by kernel_rfl⟩
instance : TAg Go.Proofs.Tryz.prog 240 3 := ⟨fun _ => ⟨by kernel_rfl, by kernel_rfl⟩⟩
instance : TFl Go.Proofs.Tryz.prog 240 [0, 0, 0] := ⟨by kernel_rfl, by kernel_rfl, by kernel_rfl, by kernel_rfl⟩
instance : TZe Go.Proofs.Tryz.prog 240 (.agg #[.int .u32 0, .int .i64 0, .int .u64 0]) := ⟨fun _ => by kernel_rfl⟩
instance : TFa Go.Proofs.Tryz.prog 240 0 0 := ⟨fun _ _ _ => by kernel_rfl⟩
instance : TFv Go.Proofs.Tryz.prog 240 0 0 1 false := ⟨by kernel_rfl⟩
instance : TFa Go.Proofs.Tryz.prog 240 1 1 := ⟨fun _ _ _ => by kernel_rfl⟩
instance : TFv Go.Proofs.Tryz.prog 240 1 1 1 false := ⟨by kernel_rfl⟩
instance : TFa Go.Proofs.Tryz.prog 240 2 2 := ⟨fun _ _ _ => by kernel_rfl⟩
instance : TFv Go.Proofs.Tryz.prog 240 2 2 1 false := ⟨by kernel_rfl⟩
instance : TSt Go.Proofs.Tryz.prog 240 [.int .u32 0, .int .i64 0, .int .u64 0] [(0, 1), (1, 1), (2, 1)] := ⟨fun _ => by kernel_rfl, by kernel_rfl⟩
instance : TAg Go.Proofs.Tryz.prog 241 3 := ⟨fun _ => ⟨by kernel_rfl, by kernel_rfl⟩⟩
instance : TFl Go.Proofs.Tryz.prog 241 [0, 0, 0] := ⟨by kernel_rfl, by kernel_rfl, by kernel_rfl, by kernel_rfl⟩
instance : TZe Go.Proofs.Tryz.prog 241 (.agg #[.int .u32 0, .int .i64 0, .int .u64 0]) := ⟨fun _ => by kernel_rfl⟩
instance : TFa Go.Proofs.Tryz.prog 241 0 0 := ⟨fun _ _ _ => by kernel_rfl⟩
instance : TFv Go.Proofs.Tryz.prog 241 0 0 1 false := ⟨by kernel_rfl⟩
instance : TFa Go.Proofs.Tryz.prog 241 1 1 := ⟨fun _ _ _ => by kernel_rfl⟩
instance : TFv Go.Proofs.Tryz.prog 241 1 1 1 false := ⟨by kernel_rfl⟩
instance : TFa Go.Proofs.Tryz.prog 241 2 2 := ⟨fun _ _ _ => by kernel_rfl⟩
instance : TFv Go.Proofs.Tryz.prog 241 2 2 1 false := ⟨by kernel_rfl⟩
instance : TSt Go.Proofs.Tryz.prog 241 [.int .u32 0, .int .i64 0, .int .u64 0] [(0, 1), (1, 1), (2, 1)] := ⟨fun _ => by kernel_rfl, by kernel_rfl⟩
theorem call3 : ∀ (xs : Array Value) (w : World), (callFunc 3 xs).run Tryz.prog w = .ok (.enter 3 xs) w := fun _ _ => by kernel_rfl
theorem call4 : ∀ (xs : Array Value) (w : World), (callFunc 4 xs).run Tryz.prog w = .ok (.enter 4 xs) w := fun _ _ => by kernel_rfl
theorem call5 : ∀ (xs : Array Value) (w : World), (callFunc 5 xs).run Tryz.prog w = .ok (.enter 5 xs) w := fun _ _ => by kernel_rfl
theorem call6 : ∀ (xs : Array Value) (w : World), (callFunc 6 xs).run Tryz.prog w = .ok (.enter 6 xs) w := fun _ _ => by kernel_rfl
theorem call7 : ∀ (xs : Array Value) (w : World), (callFunc 7 xs).run Tryz.prog w = .ok (.enter 7 xs) w := fun _ _ => by kernel_rfl
theorem call8 : ∀ (xs : Array Value) (w : World), (callFunc 8 xs).run Tryz.prog w = .ok (.enter 8 xs) w := fun _ _ => by kernel_rfl
theorem call9 : ∀ (xs : Array Value) (w : World), (callFunc 9 xs).run Tryz.prog w = .ok (.enter 9 xs) w := fun _ _ => by kernel_rfl
theorem call10 : ∀ (xs : Array Value) (w : World), (callFunc 10 xs).run Tryz.prog w = .ok (.enter 10 xs) w := fun _ _ => by kernel_rfl
theorem call11 : ∀ (xs : Array Value) (w : World), (callFunc 11 xs).run Tryz.prog w = .ok (.enter 11 xs) w := fun _ _ => by kernel_rfl
theorem call12 : ∀ (xs : Array Value) (w : World), (callFunc 12 xs).run Tryz.prog w = .ok (.enter 12 xs) w := fun _ _ => by kernel_rfl
theorem call13 : ∀ (xs : Array Value) (w : World), (callFunc 13 xs).run Tryz.prog w = .ok (.enter 13 xs) w := fun _ _ => by kernel_rfl
theorem call14 : ∀ (xs : Array Value) (w : World), (callFunc 14 xs).run Tryz.prog w = .ok (.enter 14 xs) w := fun _ _ => by kernel_rfl
theorem call15 : ∀ (xs : Array Value) (w : World), (callFunc 15 xs).run Tryz.prog w = .ok (.enter 15 xs) w := fun _ _ => by kernel_rfl
theorem call16 : ∀ (xs : Array Value) (w : World), (callFunc 16 xs).run Tryz.prog w = .ok (.enter 16 xs) w := fun _ _ => by kernel_rfl
theorem call17 : ∀ (xs : Array Value) (w : World), (callFunc 17 xs).run Tryz.prog w = .ok (.enter 17 xs) w := fun _ _ => by kernel_rfl
theorem call18 : ∀ (xs : Array Value) (w : World), (callFunc 18 xs).run Tryz.prog w = .ok (.enter 18 xs) w := fun _ _ => by kernel_rfl
theorem call19 : ∀ (xs : Array Value) (w : World), (callFunc 19 xs).run Tryz.prog w = .ok (.enter 19 xs) w := fun _ _ => by kernel_rfl
theorem call20 : ∀ (xs : Array Value) (w : World), (callFunc 20 xs).run Tryz.prog w = .ok (.enter 20 xs) w := fun _ _ => by kernel_rfl
theorem call21 : ∀ (xs : Array Value) (w : World), (callFunc 21 xs).run Tryz.prog w = .ok (.enter 21 xs) w := fun _ _ => by kernel_rfl
theorem call22 : ∀ (xs : Array Value) (w : World), (callFunc 22 xs).run Tryz.prog w = .ok (.enter 22 xs) w := fun _ _ => by kernel_rfl
theorem call23 : ∀ (xs : Array Value) (w : World), (callFunc 23 xs).run Tryz.prog w = .ok (.enter 23 xs) w := fun _ _ => by kernel_rfl
theorem call24 : ∀ (xs : Array Value) (w : World), (callFunc 24 xs).run Tryz.prog w = .ok (.enter 24 xs) w := fun _ _ => by kernel_rfl
theorem call25 : ∀ (xs : Array Value) (w : World), (callFunc 25 xs).run Tryz.prog w = .ok (.enter 25 xs) w := fun _ _ => by kernel_rfl
theorem call26 : ∀ (xs : Array Value) (w : World), (callFunc 26 xs).run Tryz.prog w = .ok (.enter 26 xs) w := fun _ _ => by kernel_rfl
theorem call27 : ∀ (xs : Array Value) (w : World), (callFunc 27 xs).run Tryz.prog w = .ok (.enter 27 xs) w := fun _ _ => by kernel_rfl
theorem call28 : ∀ (xs : Array Value) (w : World), (callFunc 28 xs).run Tryz.prog w = .ok (.enter 28 xs) w := fun _ _ => by kernel_rfl
theorem call29 : ∀ (xs : Array Value) (w : World), (callFunc 29 xs).run Tryz.prog w = .ok (.enter 29 xs) w := fun _ _ => by kernel_rfl
theorem call30 : ∀ (xs : Array Value) (w : World), (callFunc 30 xs).run Tryz.prog w = .ok (.enter 30 xs) w := fun _ _ => by kernel_rfl
theorem call31 : ∀ (xs : Array Value) (w : World), (callFunc 31 xs).run Tryz.prog w = .ok (.enter 31 xs) w := fun _ _ => by kernel_rfl
theorem call32 : ∀ (xs : Array Value) (w : World), (callFunc 32 xs).run Tryz.prog w = .ok (.enter 32 xs) w := fun _ _ => by kernel_rfl
theorem call33 : ∀ (xs : Array Value) (w : World), (callFunc 33 xs).run Tryz.prog w = .ok (.enter 33 xs) w := fun _ _ => by kernel_rfl
theorem call34 : ∀ (xs : Array Value) (w : World), (callFunc 34 xs).run Tryz.prog w = .ok (.enter 34 xs) w := fun _ _ => by kernel_rfl
theorem call35 : ∀ (xs : Array Value) (w : World), (callFunc 35 xs).run Tryz.prog w = .ok (.enter 35 xs) w := fun _ _ => by kernel_rfl
theorem call36 : ∀ (xs : Array Value) (w : World), (callFunc 36 xs).run Tryz.prog w = .ok (.enter 36 xs) w := fun _ _ => by kernel_rfl
theorem call37 : ∀ (xs : Array Value) (w : World), (callFunc 37 xs).run Tryz.prog w = .ok (.enter 37 xs) w := fun _ _ => by kernel_rfl
theorem call38 : ∀ (xs : Array Value) (w : World), (callFunc 38 xs).run Tryz.prog w = .ok (.enter 38 xs) w := fun _ _ => by kernel_rfl
theorem call39 : ∀ (xs : Array Value) (w : World), (callFunc 39 xs).run Tryz.prog w = .ok (.enter 39 xs) w := fun _ _ => by kernel_rfl
theorem call40 : ∀ (xs : Array Value) (w : World), (callFunc 40 xs).run Tryz.prog w = .ok (.enter 40 xs) w := fun _ _ => by kernel_rfl
theorem call41 : ∀ (xs : Array Value) (w : World), (callFunc 41 xs).run Tryz.prog w = .ok (.enter 41 xs) w := fun _ _ => by kernel_rfl
theorem call42 : ∀ (xs : Array Value) (w : World), (callFunc 42 xs).run Tryz.prog w = .ok (.enter 42 xs) w := fun _ _ => by kernel_rfl
theorem call43 : ∀ (xs : Array Value) (w : World), (callFunc 43 xs).run Tryz.prog w = .ok (.enter 43 xs) w := fun _ _ => by kernel_rfl
theorem call44 : ∀ (xs : Array Value) (w : World), (callFunc 44 xs).run Tryz.prog w = .ok (.enter 44 xs) w := fun _ _ => by kernel_rfl
theorem call45 : ∀ (xs : Array Value) (w : World), (callFunc 45 xs).run Tryz.prog w = .ok (.enter 45 xs) w := fun _ _ => by kernel_rfl
theorem call46 : ∀ (xs : Array Value) (w : World), (callFunc 46 xs).run Tryz.prog w = .ok (.enter 46 xs) w := fun _ _ => by kernel_rfl
theorem call47 : ∀ (xs : Array Value) (w : World), (callFunc 47 xs).run Tryz.prog w = .ok (.enter 47 xs) w := fun _ _ => by kernel_rfl
theorem call48 : ∀ (xs : Array Value) (w : World), (callFunc 48 xs).run Tryz.prog w = .ok (.enter 48 xs) w := fun _ _ => by kernel_rfl
theorem call49 : ∀ (xs : Array Value) (w : World), (callFunc 49 xs).run Tryz.prog w = .ok (.enter 49 xs) w := fun _ _ => by kernel_rfl
theorem call51 : ∀ (xs : Array Value) (w : World), (callFunc 51 xs).run Tryz.prog w = .ok (.enter 51 xs) w := fun _ _ => by kernel_rfl
theorem call52 : ∀ (xs : Array Value) (w : World), (callFunc 52 xs).run Tryz.prog w = .ok (.enter 52 xs) w := fun _ _ => by kernel_rfl
theorem call53 : ∀ (xs : Array Value) (w : World), (callFunc 53 xs).run Tryz.prog w = .ok (.enter 53 xs) w := fun _ _ => by kernel_rfl
theorem call54 : ∀ (xs : Array Value) (w : World), (callFunc 54 xs).run Tryz.prog w = .ok (.enter 54 xs) w := fun _ _ => by kernel_rfl
theorem call55 : ∀ (xs : Array Value) (w : World), (callFunc 55 xs).run Tryz.prog w = .ok (.enter 55 xs) w := fun _ _ => by kernel_rfl
theorem call56 : ∀ (xs : Array Value) (w : World), (callFunc 56 xs).run Tryz.prog w = .ok (.enter 56 xs) w := fun _ _ => by kernel_rfl
theorem call59 : ∀ (xs : Array Value) (w : World), (callFunc 59 xs).run Tryz.prog w = .ok (.enter 59 xs) w := fun _ _ => by kernel_rfl
theorem call60 : ∀ (xs : Array Value) (w : World), (callFunc 60 xs).run Tryz.prog w = .ok (.enter 60 xs) w := fun _ _ => by kernel_rfl
theorem call61 : ∀ (xs : Array Value) (w : World), (callFunc 61 xs).run Tryz.prog w = .ok (.enter 61 xs) w := fun _ _ => by kernel_rfl
theorem call63 : ∀ (xs : Array Value) (w : World), (callFunc 63 xs).run Tryz.prog w = .ok (.enter 63 xs) w := fun _ _ => by kernel_rfl
theorem call65 : ∀ (xs : Array Value) (w : World), (callFunc 65 xs).run Tryz.prog w = .ok (.enter 65 xs) w := fun _ _ => by kernel_rfl
theorem call66 : ∀ (xs : Array Value) (w : World), (callFunc 66 xs).run Tryz.prog w = .ok (.enter 66 xs) w := fun _ _ => by kernel_rfl
theorem call67 : ∀ (xs : Array Value) (w : World), (callFunc 67 xs).run Tryz.prog w = .ok (.enter 67 xs) w := fun _ _ => by kernel_rfl
theorem call68 : ∀ (xs : Array Value) (w : World), (callFunc 68 xs).run Tryz.prog w = .ok (.enter 68 xs) w := fun _ _ => by kernel_rfl
theorem call69 : ∀ (xs : Array Value) (w : World), (callFunc 69 xs).run Tryz.prog w = .ok (.enter 69 xs) w := fun _ _ => by kernel_rfl
theorem call70 : ∀ (xs : Array Value) (w : World), (callFunc 70 xs).run Tryz.prog w = .ok (.enter 70 xs) w := fun _ _ => by kernel_rfl
theorem call71 : ∀ (xs : Array Value) (w : World), (callFunc 71 xs).run Tryz.prog w = .ok (.enter 71 xs) w := fun _ _ => by kernel_rfl
theorem call72 : ∀ (xs : Array Value) (w : World), (callFunc 72 xs).run Tryz.prog w = .ok (.enter 72 xs) w := fun _ _ => by kernel_rfl
theorem call73 : ∀ (xs : Array Value) (w : World), (callFunc 73 xs).run Tryz.prog w = .ok (.enter 73 xs) w := fun _ _ => by kernel_rfl
theorem call74 : ∀ (xs : Array Value) (w : World), (callFunc 74 xs).run Tryz.prog w = .ok (.enter 74 xs) w := fun _ _ => by kernel_rfl
theorem call75 : ∀ (xs : Array Value) (w : World), (callFunc 75 xs).run Tryz.prog w = .ok (.enter 75 xs) w := fun _ _ => by kernel_rfl
theorem call76 : ∀ (xs : Array Value) (w : World), (callFunc 76 xs).run Tryz.prog w = .ok (.enter 76 xs) w := fun _ _ => by kernel_rfl
theorem call77 : ∀ (xs : Array Value) (w : World), (callFunc 77 xs).run Tryz.prog w = .ok (.enter 77 xs) w := fun _ _ => by kernel_rfl
theorem call78 : ∀ (xs : Array Value) (w : World), (callFunc 78 xs).run Tryz.prog w = .ok (.enter 78 xs) w := fun _ _ => by kernel_rfl
theorem call79 : ∀ (xs : Array Value) (w : World), (callFunc 79 xs).run Tryz.prog w = .ok (.enter 79 xs) w := fun _ _ => by kernel_rfl
theorem call80 : ∀ (xs : Array Value) (w : World), (callFunc 80 xs).run Tryz.prog w = .ok (.enter 80 xs) w := fun _ _ => by kernel_rfl
theorem call81 : ∀ (xs : Array Value) (w : World), (callFunc 81 xs).run Tryz.prog w = .ok (.enter 81 xs) w := fun _ _ => by kernel_rfl
theorem call82 : ∀ (xs : Array Value) (w : World), (callFunc 82 xs).run Tryz.prog w = .ok (.enter 82 xs) w := fun _ _ => by kernel_rfl
theorem call84 : ∀ (xs : Array Value) (w : World), (callFunc 84 xs).run Tryz.prog w = .ok (.enter 84 xs) w := fun _ _ => by kernel_rfl
theorem call85 : ∀ (xs : Array Value) (w : World), (callFunc 85 xs).run Tryz.prog w = .ok (.enter 85 xs) w := fun _ _ => by kernel_rfl
theorem call87 : ∀ (xs : Array Value) (w : World), (callFunc 87 xs).run Tryz.prog w = .ok (.enter 87 xs) w := fun _ _ => by kernel_rfl
theorem call88 : ∀ (xs : Array Value) (w : World), (callFunc 88 xs).run Tryz.prog w = .ok (.enter 88 xs) w := fun _ _ => by kernel_rfl
theorem call89 : ∀ (xs : Array Value) (w : World), (callFunc 89 xs).run Tryz.prog w = .ok (.enter 89 xs) w := fun _ _ => by kernel_rfl
theorem call90 : ∀ (xs : Array Value) (w : World), (callFunc 90 xs).run Tryz.prog w = .ok (.enter 90 xs) w := fun _ _ => by kernel_rfl
theorem call91 : ∀ (xs : Array Value) (w : World), (callFunc 91 xs).run Tryz.prog w = .ok (.enter 91 xs) w := fun _ _ => by kernel_rfl
theorem call92 : ∀ (xs : Array Value) (w : World), (callFunc 92 xs).run Tryz.prog w = .ok (.enter 92 xs) w := fun _ _ => by kernel_rfl
theorem call93 : ∀ (xs : Array Value) (w : World), (callFunc 93 xs).run Tryz.prog w = .ok (.enter 93 xs) w := fun _ _ => by kernel_rfl
theorem call94 : ∀ (xs : Array Value) (w : World), (callFunc 94 xs).run Tryz.prog w = .ok (.enter 94 xs) w := fun _ _ => by kernel_rfl
theorem call95 : ∀ (xs : Array Value) (w : World), (callFunc 95 xs).run Tryz.prog w = .ok (.enter 95 xs) w := fun _ _ => by kernel_rfl
theorem call96 : ∀ (xs : Array Value) (w : World), (callFunc 96 xs).run Tryz.prog w = .ok (.enter 96 xs) w := fun _ _ => by kernel_rfl
theorem call97 : ∀ (xs : Array Value) (w : World), (callFunc 97 xs).run Tryz.prog w = .ok (.enter 97 xs) w := fun _ _ => by kernel_rfl
theorem call98 : ∀ (xs : Array Value) (w : World), (callFunc 98 xs).run Tryz.prog w = .ok (.enter 98 xs) w := fun _ _ => by kernel_rfl
theorem call99 : ∀ (xs : Array Value) (w : World), (callFunc 99 xs).run Tryz.prog w = .ok (.enter 99 xs) w := fun _ _ => by kernel_rfl
theorem call100 : ∀ (xs : Array Value) (w : World), (callFunc 100 xs).run Tryz.prog w = .ok (.enter 100 xs) w := fun _ _ => by kernel_rfl
theorem call102 : ∀ (xs : Array Value) (w : World), (callFunc 102 xs).run Tryz.prog w = .ok (.enter 102 xs) w := fun _ _ => by kernel_rfl
theorem call103 : ∀ (xs : Array Value) (w : World), (callFunc 103 xs).run Tryz.prog w = .ok (.enter 103 xs) w := fun _ _ => by kernel_rfl
theorem call104 : ∀ (xs : Array Value) (w : World), (callFunc 104 xs).run Tryz.prog w = .ok (.enter 104 xs) w := fun _ _ => by kernel_rfl
theorem call105 : ∀ (xs : Array Value) (w : World), (callFunc 105 xs).run Tryz.prog w = .ok (.enter 105 xs) w := fun _ _ => by kernel_rfl
theorem call106 : ∀ (xs : Array Value) (w : World), (callFunc 106 xs).run Tryz.prog w = .ok (.enter 106 xs) w := fun _ _ => by kernel_rfl
theorem call107 : ∀ (xs : Array Value) (w : World), (callFunc 107 xs).run Tryz.prog w = .ok (.enter 107 xs) w := fun _ _ => by kernel_rfl
theorem call110 : ∀ (xs : Array Value) (w : World), (callFunc 110 xs).run Tryz.prog w = .ok (.enter 110 xs) w := fun _ _ => by kernel_rfl
theorem call111 : ∀ (xs : Array Value) (w : World), (callFunc 111 xs).run Tryz.prog w = .ok (.enter 111 xs) w := fun _ _ => by kernel_rfl
theorem call113 : ∀ (xs : Array Value) (w : World), (callFunc 113 xs).run Tryz.prog w = .ok (.enter 113 xs) w := fun _ _ => by kernel_rfl
theorem call114 : ∀ (xs : Array Value) (w : World), (callFunc 114 xs).run Tryz.prog w = .ok (.enter 114 xs) w := fun _ _ => by kernel_rfl
theorem call115 : ∀ (xs : Array Value) (w : World), (callFunc 115 xs).run Tryz.prog w = .ok (.enter 115 xs) w := fun _ _ => by kernel_rfl
theorem call118 : ∀ (xs : Array Value) (w : World), (callFunc 118 xs).run Tryz.prog w = .ok (.enter 118 xs) w := fun _ _ => by kernel_rfl
theorem call119 : ∀ (xs : Array Value) (w : World), (callFunc 119 xs).run Tryz.prog w = .ok (.enter 119 xs) w := fun _ _ => by kernel_rfl
theorem call120 : ∀ (xs : Array Value) (w : World), (callFunc 120 xs).run Tryz.prog w = .ok (.enter 120 xs) w := fun _ _ => by kernel_rfl
theorem call121 : ∀ (xs : Array Value) (w : World), (callFunc 121 xs).run Tryz.prog w = .ok (.enter 121 xs) w := fun _ _ => by kernel_rfl
theorem call122 : ∀ (xs : Array Value) (w : World), (callFunc 122 xs).run Tryz.prog w = .ok (.enter 122 xs) w := fun _ _ => by kernel_rfl
theorem call124 : ∀ (xs : Array Value) (w : World), (callFunc 124 xs).run Tryz.prog w = .ok (.enter 124 xs) w := fun _ _ => by kernel_rfl
theorem call125 : ∀ (xs : Array Value) (w : World), (callFunc 125 xs).run Tryz.prog w = .ok (.enter 125 xs) w := fun _ _ => by kernel_rfl
theorem call126 : ∀ (xs : Array Value) (w : World), (callFunc 126 xs).run Tryz.prog w = .ok (.enter 126 xs) w := fun _ _ => by kernel_rfl
theorem call127 : ∀ (xs : Array Value) (w : World), (callFunc 127 xs).run Tryz.prog w = .ok (.enter 127 xs) w := fun _ _ => by kernel_rfl
theorem call128 : ∀ (xs : Array Value) (w : World), (callFunc 128 xs).run Tryz.prog w = .ok (.enter 128 xs) w := fun _ _ => by kernel_rfl
theorem call130 : ∀ (xs : Array Value) (w : World), (callFunc 130 xs).run Tryz.prog w = .ok (.enter 130 xs) w := fun _ _ => by kernel_rfl
theorem call136 : ∀ (xs : Array Value) (w : World), (callFunc 136 xs).run Tryz.prog w = .ok (.enter 136 xs) w := fun _ _ => by kernel_rfl
theorem call140 : ∀ (xs : Array Value) (w : World), (callFunc 140 xs).run Tryz.prog w = .ok (.enter 140 xs) w := fun _ _ => by kernel_rfl
theorem call146 : ∀ (xs : Array Value) (w : World), (callFunc 146 xs).run Tryz.prog w = .ok (.enter 146 xs) w := fun _ _ => by kernel_rfl
theorem mixed : Tryz.prog.follows .mixedOrders = true := by kernel_rfl
end SL
end
section
set_option linter.unusedVariables false
set_option linter.unusedSimpArgs false
namespace SL
open Go
def nat_ (xs : List Int) (i : Nat) : Int := xs.getD i 0
def swp (xs : List Int) (i j : Nat) : List Int := (xs.set i (nat_ xs j)).set j (nat_ xs i)
theorem swp_length (xs : List Int) (i j : Nat) : (swp xs i j).length = xs.length := by simp [swp]
theorem nat_set (xs : List Int) (i k : Nat) (v : Int) (h : i < xs.length) : nat_ (xs.set i v) k = if k = i then v else nat_ xs k := by
  unfold nat_
  simp only [List.getD_eq_getElem?_getD]
  by_cases e : k = i
  · subst e; simp [h]
  · rw [List.getElem?_set_ne (fun c => e c.symm), if_neg e]
theorem nat_swp (xs : List Int) {i j k : Nat} (hi : i < xs.length) (hj : j < xs.length) : nat_ (swp xs i j) k = if k = j then nat_ xs i else if k = i then nat_ xs j else nat_ xs k := by
  unfold swp
  rw [nat_set _ _ _ _ (by simpa using hj), nat_set _ _ _ _ hi]
theorem nat_eq {xs : List Int} {i : Nat} (h : i < xs.length) : xs[i] = nat_ xs i := by simp [nat_, List.getD_eq_getElem?_getD, List.getElem?_eq_getElem h]
inductive Sw (a b : Nat) : List Int → List Int → Prop
  | refl (xs : List Int) : Sw a b xs xs
  | step {xs ys : List Int} (i j : Nat) (h : Sw a b xs ys) (hi : a ≤ i ∧ i < b) (hj : a ≤ j ∧ j < b) (hb : b ≤ ys.length) : Sw a b xs (swp ys i j)
theorem Sw.length {a b : Nat} {xs ys : List Int} (h : Sw a b xs ys) : ys.length = xs.length := by
  induction h with
  | refl => rfl
  | step i j h hi hj hb ih => rw [swp_length, ih]
theorem Sw.trans {a b : Nat} {xs ys zs : List Int} (h : Sw a b xs ys) (k : Sw a b ys zs) : Sw a b xs zs := by
  induction k with
  | refl => exact h
  | step i j k hi hj hb ih => exact .step i j ih hi hj hb
theorem Sw.mono {a b a' b' : Nat} {xs ys : List Int} (h : Sw a b xs ys) (ha : a' ≤ a) (hb : b ≤ b') (hl : b' ≤ xs.length) : Sw a' b' xs ys := by
  induction h with
  | refl => exact .refl _
  | step i j h hi hj hb ih => exact .step i j ih (by omega) (by omega) (by rw [h.length]; omega)
theorem Sw.out {a b : Nat} {xs ys : List Int} (h : Sw a b xs ys) {k : Nat} (hk : k < a ∨ b ≤ k) : nat_ ys k = nat_ xs k := by
  induction h with
  | refl => rfl
  | step i j h hi hj hb ih =>
    rw [nat_swp _ (by omega) (by omega), if_neg (by omega), if_neg (by omega), ih]
theorem Sw.all {a b : Nat} {xs ys : List Int} (h : Sw a b xs ys) {p : Int → Prop} (hp : ∀ k, a ≤ k → k < b → p (nat_ xs k)) : ∀ k, a ≤ k → k < b → p (nat_ ys k) := by
  induction h with
  | refl => exact hp
  | step i j h hi hj hb ih =>
    intro k h1 h2
    rw [nat_swp _ (by omega) (by omega)]
    split
    · exact ih i hi.1 hi.2
    · split
      · exact ih j hj.1 hj.2
      · exact ih k h1 h2
theorem perm_swp (xs : List Int) {i j : Nat} (hi : i < xs.length) (hj : j < xs.length) : (swp xs i j).Perm xs := by
  rw [List.perm_iff_count]
  intro c
  have key : ∀ (ys : List Int) (k : Nat) (v : Int) (hk : k < ys.length), (ys.set k v).count c + (if nat_ ys k = c then 1 else 0) = ys.count c + (if v = c then 1 else 0) := by
    intro ys
    induction ys with
    | nil => intro k v hk; simp at hk
    | cons y ys ih =>
      intro k v hk
      cases k with
      | zero => simp [nat_, List.count_cons]; split <;> split <;> omega
      | succ k =>
        have := ih k v (by simpa using hk)
        simp only [List.set_cons_succ, List.count_cons]
        have e : nat_ (y :: ys) (k + 1) = nat_ ys k := by simp [nat_]
        rw [e]
        omega
  have h1 := key xs i (nat_ xs j) hi
  have h2 := key (xs.set i (nat_ xs j)) j (nat_ xs i) (by simpa using hj)
  rw [nat_set _ _ _ _ hi] at h2
  unfold swp
  by_cases e : j = i
  · subst e; simp at h1 h2 ⊢; omega
  · rw [if_neg e] at h2; omega
theorem Sw.perm {a b : Nat} {xs ys : List Int} (h : Sw a b xs ys) : ys.Perm xs := by
  induction h with
  | refl => exact .refl _
  | step i j h hi hj hb ih => exact (perm_swp _ (by omega) (by omega)).trans ih
def Srt (xs : List Int) (a b : Nat) : Prop := ∀ i j, a ≤ i → i < j → j < b → nat_ xs i ≤ nat_ xs j
theorem Srt.small {xs : List Int} {a b : Nat} (h : b ≤ a + 1) : Srt xs a b := fun i j h1 h2 h3 => by omega
def SrtBut (xs : List Int) (a b j : Nat) : Prop := ∀ i k, a ≤ i → i < k → k < b → k ≠ j → nat_ xs i ≤ nat_ xs k
theorem SrtBut.of {xs : List Int} {a b : Nat} (h : Srt xs a b) : SrtBut xs a (b + 1) b := fun i k h1 h2 h3 h4 => h i k h1 h2 (by omega)
theorem SrtBut.down {xs : List Int} {a b j : Nat} (h : SrtBut xs a b j) (hj : a < j) (hb : j < b) (hl : b ≤ xs.length) (hlt : nat_ xs j < nat_ xs (j - 1)) : SrtBut (swp xs j (j - 1)) a b (j - 1) := by
  intro i k h1 h2 h3 h4
  rw [nat_swp _ (by omega) (by omega), nat_swp _ (by omega) (by omega)]
  rw [if_neg h4]
  by_cases e1 : k = j
  · subst e1
    rw [if_pos rfl]
    by_cases e2 : i = k - 1
    · rw [if_pos e2]; omega
    · rw [if_neg e2, if_neg (by omega)]; exact h i (k - 1) h1 (by omega) (by omega) (by omega)
  · rw [if_neg e1]
    by_cases e2 : i = j - 1
    · rw [if_pos e2]; exact h j k (by omega) (by omega) h3 e1
    · rw [if_neg e2]
      by_cases e3 : i = j
      · rw [if_pos e3]
        exact h (j - 1) k (by omega) (by omega) h3 e1
      · rw [if_neg e3]; exact h i k h1 h2 h3 e1
theorem SrtBut.done {xs : List Int} {a b j : Nat} (h : SrtBut xs a b j) (hd : j ≤ a ∨ nat_ xs (j - 1) ≤ nat_ xs j) (hb : j < b) : Srt xs a b := by
  intro i k h1 h2 h3
  by_cases e : k = j
  · subst e
    rcases hd with hd | hd
    · omega
    · by_cases e2 : i = k - 1
      · subst e2; exact hd
      · have := h i (k - 1) h1 (by omega) (by omega) (by omega)
        omega
  · exact h i k h1 h2 h3 e
def srt (xs : List Int) : List Int := xs.mergeSort (fun a b => decide (a ≤ b))
theorem srt_perm (xs : List Int) : (srt xs).Perm xs := List.mergeSort_perm xs _
theorem srt_length (xs : List Int) : (srt xs).length = xs.length := (srt_perm xs).length_eq
theorem srt_sorted (xs : List Int) : (srt xs).Pairwise (· ≤ ·) := by
  have := List.pairwise_mergeSort (le := fun a b : Int => decide (a ≤ b)) (by intro a b c; simp; omega) (by intro a b; simp; omega) xs
  exact this.imp (by simp)
theorem sorted_unique {xs ys : List Int} (hx : xs.Pairwise (· ≤ ·)) (hy : ys.Pairwise (· ≤ ·)) (hp : xs.Perm ys) : xs = ys :=
  List.Perm.eq_of_pairwise (le := fun a b : Int => a ≤ b) (fun a b _ _ h1 h2 => Int.le_antisymm h1 h2) hx hy hp
theorem Srt.pairwise {xs : List Int} (h : Srt xs 0 xs.length) : xs.Pairwise (· ≤ ·) := by
  rw [List.pairwise_iff_getElem]
  intro i j hi hj hij
  have := h i j (by omega) hij hj
  rwa [← nat_eq hi, ← nat_eq hj] at this
theorem srt_of {xs ys : List Int} (h : Sw 0 xs.length xs ys) (hs : Srt ys 0 xs.length) : ys = srt xs := by
  refine sorted_unique (Srt.pairwise ?_) (srt_sorted xs) (h.perm.trans (srt_perm xs).symm)
  rw [h.length]; exact hs
theorem srt_congr {xs ys : List Int} (h : xs.Perm ys) : srt xs = srt ys := sorted_unique (srt_sorted xs) (srt_sorted ys) ((srt_perm xs).trans (h.trans (srt_perm ys).symm))
def iv (i : Int) : Value := .int .u32 i
theorem nth_ints {xs : List Int} {ex : List Value} {i : Nat} (h : i < xs.length) : nth (xs.map iv ++ ex) i = some (iv (nat_ xs i)) := by
  rw [nth_eq, List.getElem?_append_left (by simpa using h), List.getElem?_map, List.getElem?_eq_getElem h, nat_eq h]
  rfl
theorem put_int {xs : List Int} {ex : List Value} {i : Nat} (h : i < xs.length) (v : Int) : PutAt (xs.map iv ++ ex) i [iv v] ((xs.set i v).map iv ++ ex) := by
  refine PutAt.intro ?_ ?_
  · simp; omega
  · have e : xs.set i v = xs.take i ++ v :: xs.drop (i + 1) := List.set_eq_take_append_cons_drop.trans (by rw [if_pos h])
    rw [e]
    simp only [List.map_append, List.map_cons, List.length_singleton, List.append_assoc, List.cons_append]
    rw [List.take_append_of_le_length (by simp; omega), List.drop_append_of_le_length (by simp; omega), List.map_take, List.map_drop]
    rfl
end SL
end
section
set_option linter.unusedVariables false
set_option linter.unusedSimpArgs false
set_option maxRecDepth 10000
namespace SL
open Go Go.Proofs Go.RowKit
attribute [local irreducible] SL.TK SL.TO SL.TD SL.PV SL.Pick SL.Frm SL.Ent SL.Sub SL.EvAll SL.seps SL.sep SL.Cut SL.PutAt SL.blk SL.EvP SL.Fill SL.Src SL.EntD SL.own SL.ex SL.fact SL.orig
theorem isnan_spec (i : Int) : Spec Tryz.prog 146 [iv i] [] (fun r L => r = .bool false ∧ L = []) := by
  unfold iv
  refine SL.Spec.of_TK Go.Proofs.Tryz.func146 rfl rfl SL.call146 rfl ?_
  repeat' (first | (refine SL.TO.is ?_; first | (refine SL.W.quick ?_; first | refine SL.W.pass ?_ | refine SL.W.pv ?_ | refine SL.W.pv0 ?_) | (refine SL.TO.door (o := ⟨_, .call _, _, _, _, _⟩) ?_; first | (refine SL.TO.door (o := ⟨_, .call ⟨.value (.func 99), _, _⟩, _, _, _, _⟩) ?_; first | skip)) | refine SL.TO.nil ?_ | (refine SL.TO.nilD ?_; simp only [SL.setB]) | refine SL.W.pass ?_ | refine SL.W.pass0 ?_ | (refine SL.W.pure ?_; first | refine SL.W.pv ?_ | refine SL.W.pv0 ?_) | (refine SL.W.loud ?_; first | refine SL.W.load ?_ | refine SL.W.loadA ?_ | refine SL.W.store ?_ | refine SL.W.storeA ?_ | (refine SL.W.box ?_; intro b) | (refine SL.W.alloc ?_; intro b) | (refine SL.W.buildSlice ?_; intro b) | (refine SL.W.append ?_; intro a cap) | refine SL.W.bytesToStr ?_ | refine SL.W.pvn (SL.PV.toIntC (by rfl) (by first | exact SL.wrap_i64 (by omega) | exact SL.wrap_u8 (by omega) | exact SL.wrap_u32 (by omega) | exact SL.wrap_u64 (by omega) | rfl)) ?_ | (refine SL.W.makeSlice ?_; intro b)) | (refine SL.W.guardP (fun h => ?_) (fun h => ?_) <;> (fail_if_success (have : h = trivial := rfl)) <;> (fail_if_success (have : h = not_false := rfl)) <;> first | contradiction | (exfalso; omega) | (exfalso; revert h; simp; done) | skip) | (refine SL.W.guardB (fun h => ?_) (fun h => ?_) <;> (fail_if_success (have : h = (rfl : true = true) := rfl)) <;> (fail_if_success (have : h = (rfl : false = false) := rfl)))) | (refine SL.TK.is ?_; first | refine SL.TK.seq ?_ | refine SL.TK.region ?_ | refine SL.TK.regionD SL.mixed (by simp only [SL.falses] <;> rfl) ?_ | refine SL.TK.block ?_ | refine SL.TK.inBlock ?_ | refine SL.TK.skip ?_ | refine SL.TK.scope ?_ | refine SL.TK.inScope ?_ | refine SL.TK.label ?_ | (refine SL.TK.isExit ?_; refine SL.W.exit ?_) | refine SL.W.condT ?_ | refine SL.W.condF ?_ | (refine SL.W.condP (fun h => ?_) (fun h => ?_) <;> (fail_if_success (have : h = trivial := rfl)) <;> (fail_if_success (have : h = not_false := rfl)) <;> first | contradiction | (exfalso; omega) | (exfalso; revert h; simp; done) | skip) | refine SL.W.condB (fun h => ?_) (fun h => ?_)) | (refine SL.TD.is ?_; first | (refine SL.W.dfin ?_; simp only [List.append_nil, List.cons_append, List.nil_append]) | refine SL.W.dpass ?_ | refine SL.W.dpure ?_ | refine SL.W.dload ?_ | refine SL.W.dloadA ?_ | refine SL.W.dfrz ?_ | (refine SL.W.dthaw ?_; simp only [List.append_nil, List.cons_append, List.nil_append]) | (refine SL.W.dguardP (fun h => ?_) (fun h => ?_) <;> (fail_if_success (have : h = trivial := rfl)) <;> (fail_if_success (have : h = not_false := rfl)) <;> first | contradiction | (exfalso; omega) | (exfalso; revert h; simp; done) | skip) | (refine SL.W.dguardB (fun h => ?_) (fun h => ?_) <;> (fail_if_success (have : h = (rfl : true = true) := rfl)) <;> (fail_if_success (have : h = (rfl : false = false) := rfl))) | refine SL.W.done ?_ | refine SL.W.dtwo ?_ ?_ | refine SL.W.dthree ?_ ?_ ?_))
  exact SL.TK.retD Tryz.func146 (SL.Res.one rfl (by rfl)) ⟨by simp, rfl⟩ EntD.nil
theorem less_spec (i j : Int) : Spec Tryz.prog 136 [iv i, iv j] [] (fun r L => r = .bool (decide (i < j)) ∧ L = []) := by
  have h1 := isnan_spec i
  have h2 := isnan_spec j
  unfold iv at *
  refine SL.Spec.of_TK Go.Proofs.Tryz.func136 rfl rfl SL.call136 rfl ?_
  repeat' (first | (refine SL.TO.is ?_; first | (refine SL.W.quick ?_; first | refine SL.W.pass ?_ | refine SL.W.pv ?_ | refine SL.W.pv0 ?_) | (refine SL.TO.door (o := ⟨_, .call _, _, _, _, _⟩) ?_; first | (refine SL.TO.door (o := ⟨_, .call ⟨.value (.func 146), _, _⟩, _, _, _, _⟩) ?_; first | (refine SL.W.call (h1) ?_; rintro _ _ ⟨rfl, rfl⟩; try simp only [List.cons_append, List.nil_append]) | (refine SL.W.call (h2) ?_; rintro _ _ ⟨rfl, rfl⟩; try simp only [List.cons_append, List.nil_append]))) | refine SL.TO.nil ?_ | (refine SL.TO.nilD ?_; simp only [SL.setB]) | refine SL.W.pass ?_ | refine SL.W.pass0 ?_ | (refine SL.W.pure ?_; first | refine SL.W.pv ?_ | refine SL.W.pv0 ?_) | (refine SL.W.loud ?_; first | refine SL.W.load ?_ | refine SL.W.loadA ?_ | refine SL.W.store ?_ | refine SL.W.storeA ?_ | (refine SL.W.box ?_; intro b) | (refine SL.W.alloc ?_; intro b) | (refine SL.W.buildSlice ?_; intro b) | (refine SL.W.append ?_; intro a cap) | refine SL.W.bytesToStr ?_ | refine SL.W.pvn (SL.PV.toIntC (by rfl) (by first | exact SL.wrap_i64 (by omega) | exact SL.wrap_u8 (by omega) | exact SL.wrap_u32 (by omega) | exact SL.wrap_u64 (by omega) | rfl)) ?_ | (refine SL.W.makeSlice ?_; intro b)) | (refine SL.W.guardP (fun h => ?_) (fun h => ?_) <;> (fail_if_success (have : h = trivial := rfl)) <;> (fail_if_success (have : h = not_false := rfl)) <;> first | contradiction | (exfalso; omega) | (exfalso; revert h; simp; done) | skip) | (refine SL.W.guardB (fun h => ?_) (fun h => ?_) <;> (fail_if_success (have : h = (rfl : true = true) := rfl)) <;> (fail_if_success (have : h = (rfl : false = false) := rfl)))) | (refine SL.TK.is ?_; first | refine SL.TK.seq ?_ | refine SL.TK.region ?_ | refine SL.TK.regionD SL.mixed (by simp only [SL.falses] <;> rfl) ?_ | refine SL.TK.block ?_ | refine SL.TK.inBlock ?_ | refine SL.TK.skip ?_ | refine SL.TK.scope ?_ | refine SL.TK.inScope ?_ | refine SL.TK.label ?_ | (refine SL.TK.isExit ?_; refine SL.W.exit ?_) | refine SL.W.condT ?_ | refine SL.W.condF ?_ | (refine SL.W.condP (fun h => ?_) (fun h => ?_) <;> (fail_if_success (have : h = trivial := rfl)) <;> (fail_if_success (have : h = not_false := rfl)) <;> first | contradiction | (exfalso; omega) | (exfalso; revert h; simp; done) | skip) | refine SL.W.condB (fun h => ?_) (fun h => ?_)) | (refine SL.TD.is ?_; first | (refine SL.W.dfin ?_; simp only [List.append_nil, List.cons_append, List.nil_append]) | refine SL.W.dpass ?_ | refine SL.W.dpure ?_ | refine SL.W.dload ?_ | refine SL.W.dloadA ?_ | refine SL.W.dfrz ?_ | (refine SL.W.dthaw ?_; simp only [List.append_nil, List.cons_append, List.nil_append]) | (refine SL.W.dguardP (fun h => ?_) (fun h => ?_) <;> (fail_if_success (have : h = trivial := rfl)) <;> (fail_if_success (have : h = not_false := rfl)) <;> first | contradiction | (exfalso; omega) | (exfalso; revert h; simp; done) | skip) | (refine SL.W.dguardB (fun h => ?_) (fun h => ?_) <;> (fail_if_success (have : h = (rfl : true = true) := rfl)) <;> (fail_if_success (have : h = (rfl : false = false) := rfl))) | refine SL.W.done ?_ | refine SL.W.dtwo ?_ ?_ | refine SL.W.dthree ?_ ?_ ?_))
  all_goals exact SL.TK.retD Tryz.func136 (SL.Res.one rfl (by rfl)) ⟨rfl, rfl⟩ EntD.nil
abbrev row (b : Nat) (xs : List Int) (ex : List Value) : HProp := SL.blk b 25 (xs.map iv ++ ex)
def insIn (bk n cap a b i : Nat) (ex : List Value) (xs : List Int) (ρ : Env) (L : List HProp) (m : Nat) : Prop := ∃ (j : Nat) (ys : List Int), a ≤ j ∧ j ≤ i ∧ Sw a b xs ys ∧ SrtBut ys a (i + 1) j ∧
  ρ = [(7, .int .i64 j), (0, .slice (some ⟨bk, 0, none⟩) n cap), (1, .int .i64 a), (2, .int .i64 b), (6, .int .i64 i)] ∧ L = [row bk ys ex] ∧ m = j + 1
theorem ins_inner {post : Post} {k : List Item} (bk n cap a b i : Nat) (ex : List Value) (xs ys0 : List Int) (hn : xs.length = n) (hc : n ≤ cap) (hcl : n ≤ 4611686018427387904) (hai : a ≤ i) (hib : i < b) (hb : b ≤ n) (h0 : Sw a b xs ys0) (hs : Srt ys0 a i)
    (hk : ∀ ys, Sw a b xs ys → Srt ys a (i + 1) → TK Tryz.prog 130 Tryz.f130.ntmps post k [(0, .slice (some ⟨bk, 0, none⟩) n cap), (1, .int .i64 a), (2, .int .i64 b), (6, .int .i64 i)] [row bk ys ex]) :
    TK Tryz.prog 130 Tryz.f130.ntmps post (.code (loopAt Tryz.f130 1) :: k) [(7, .int .i64 i), (0, .slice (some ⟨bk, 0, none⟩) n cap), (1, .int .i64 a), (2, .int .i64 b), (6, .int .i64 i)] [row bk ys0 ex] := by
  refine SL.TK.block ?_
  refine SL.TK.loopD (insIn bk n cap a b i ex xs) ?_ ⟨i, ys0, hai, Nat.le_refl _, h0, .of hs, rfl, rfl, rfl⟩ (by first | ((repeat (first | exact SL.Sub.nil | refine SL.Sub.cons (by rfl) (by first | rfl | exact SL.int_eq (by omega)) ?_)); done) | fail) EntD.refl
  clear hs h0
  rintro ρ L m ⟨j, ys, haj, hji, hsw, hst, rfl, rfl, rfl⟩ ih
  have hyl : ys.length = n := by rw [hsw.length, hn]
  have hj : j < ys.length := by omega
  have hS := Lib.hid (And.intro hsw hst)
  have hnH := Lib.hid hn
  clear hn hsw hst
  by_cases hgt : a < j
  · have h1 := nth_ints (ex := ex) hj
    have h2 := nth_ints (xs := ys) (ex := ex) (i := j - 1) (by omega)
    have p1 := put_int (ex := ex) hj (nat_ ys (j - 1))
    have p2 := put_int (xs := ys.set j (nat_ ys (j - 1))) (ex := ex) (i := j - 1) (by simp; omega) (nat_ ys j)
    have p3 := put_int (xs := ys) (ex := ex) (i := j - 1) (by omega) (nat_ ys j)
    have p4 := put_int (xs := ys.set (j - 1) (nat_ ys j)) (ex := ex) (i := j) (by simp; omega) (nat_ ys (j - 1))
    have hless := less_spec (nat_ ys j) (nat_ ys (j - 1))
    have hKa : Hid (nat_ ys (j - 1) ≤ nat_ ys j → TK Tryz.prog 130 Tryz.f130.ntmps post k [(0, .slice (some ⟨bk, 0, none⟩) n cap), (1, .int .i64 a), (2, .int .i64 b), (6, .int .i64 i)] [row bk ys ex]) := Lib.hid fun h => hk ys hS.out.1 (hS.out.2.done (.inr h) (by omega))
    clear hk
    obtain ⟨q, hq⟩ : ∃ q : Nat, q = j - 1 := ⟨_, rfl⟩
    have hq2 : (j : Int) - 1 = (q : Int) := by omega
    rw [← hq] at h2 p1 p2 p3 p4 hless hKa
    have hlt1 : Hid (nat_ ys j < nat_ ys q → Sw a b xs (swp ys j q) ∧ SrtBut (swp ys j q) a (i + 1) q) := by
      refine Lib.hid fun h => ⟨.step j q hS.out.1 (by omega) (by omega) (by omega), ?_⟩
      subst hq
      exact hS.out.2.down hgt (by omega) (by omega) h
    obtain ⟨vj, hvj⟩ : ∃ v, v = nat_ ys j := ⟨_, rfl⟩
    obtain ⟨vq, hvq⟩ : ∃ v, v = nat_ ys q := ⟨_, rfl⟩
    have hswp : swp ys j q = (ys.set j vq).set q vj := by rw [hvj, hvq]; rfl
    rw [hswp] at hlt1
    rw [← hvj, ← hvq] at hlt1 hKa hless
    rw [← hvj] at h1 p2 p3
    rw [← hvq] at h2 p1 p2
    clear hswp p3 p4 hS
    clear hvj hvq
    repeat' (first | (refine SL.TO.is ?_; first | (refine SL.W.quick ?_; first | refine SL.W.pass ?_ | refine SL.W.pv ?_ | refine SL.W.pv0 ?_) | (refine SL.TO.door (o := ⟨_, .call _, _, _, _, _⟩) ?_; first | (refine SL.TO.door (o := ⟨_, .call ⟨.value (.func 136), _, _⟩, _, _, _, _⟩) ?_; first | (refine SL.W.call (hless) ?_; rintro _ _ ⟨rfl, rfl⟩; try simp only [List.cons_append, List.nil_append]))) | (refine SL.TO.door (o := ⟨_, .load _ _, _, _, _, _⟩) ?_; first | refine SL.W.loadN h1 ?_ | refine SL.W.loadN h2 ?_) | (refine SL.TO.door (o := ⟨_, .store _ _ _, _, _, _, _⟩) ?_; first | refine SL.W.storeN p1 ?_ | refine SL.W.storeN p2 ?_) | refine SL.TO.nil ?_ | (refine SL.TO.nilD ?_; simp only [SL.setB]) | refine SL.W.pass ?_ | refine SL.W.pass0 ?_ | (refine SL.W.pure ?_; first | refine SL.W.pv ?_ | refine SL.W.pv0 ?_) | (refine SL.W.loud ?_; first | refine SL.W.load ?_ | refine SL.W.loadA ?_ | refine SL.W.store ?_ | refine SL.W.storeA ?_ | (refine SL.W.box ?_; intro b) | (refine SL.W.alloc ?_; intro b) | (refine SL.W.buildSlice ?_; intro b) | (refine SL.W.append ?_; intro a cap) | refine SL.W.bytesToStr ?_ | refine SL.W.pvn (SL.PV.toIntC (by rfl) (by first | exact SL.wrap_i64 (by omega) | exact SL.wrap_u8 (by omega) | exact SL.wrap_u32 (by omega) | exact SL.wrap_u64 (by omega) | rfl)) ?_ | (refine SL.W.makeSlice ?_; intro b)) | (refine SL.W.guardP (fun h => ?_) (fun h => ?_) <;> (fail_if_success (have : h = trivial := rfl)) <;> (fail_if_success (have : h = not_false := rfl)) <;> first | contradiction | (exfalso; omega) | (exfalso; revert h; simp; done) | skip) | (refine SL.W.guardB (fun h => ?_) (fun h => ?_) <;> (fail_if_success (have : h = (rfl : true = true) := rfl)) <;> (fail_if_success (have : h = (rfl : false = false) := rfl)))) | (refine SL.TK.is ?_; first | (refine SL.TK.weakD (by first | ((repeat (first | exact SL.Sub.nil | refine SL.Sub.cons (by rfl) (by first | rfl | exact SL.int_eq (by omega)) ?_)); done) | fail) EntD.refl (hKa.out (by omega))) | refine SL.TK.seq ?_ | refine SL.TK.region ?_ | refine SL.TK.regionD SL.mixed (by simp only [SL.falses] <;> rfl) ?_ | refine SL.TK.block ?_ | refine SL.TK.inBlock ?_ | refine SL.TK.skip ?_ | refine SL.TK.scope ?_ | refine SL.TK.inScope ?_ | refine SL.TK.label ?_ | (refine SL.TK.isExit ?_; refine SL.W.exit ?_) | refine SL.W.condT ?_ | refine SL.W.condF ?_ | (refine SL.W.condP (fun h => ?_) (fun h => ?_) <;> (fail_if_success (have : h = trivial := rfl)) <;> (fail_if_success (have : h = not_false := rfl)) <;> first | contradiction | (exfalso; omega) | (exfalso; revert h; simp; done) | skip) | refine SL.W.condB (fun h => ?_) (fun h => ?_)) | (refine SL.TD.is ?_; first | (refine SL.W.dfin ?_; simp only [List.append_nil, List.cons_append, List.nil_append]) | refine SL.W.dpass ?_ | refine SL.W.dpure ?_ | (refine SL.W.dguardP (fun h => ?_) (fun h => ?_) <;> (fail_if_success (have : h = trivial := rfl)) <;> (fail_if_success (have : h = not_false := rfl)) <;> first | contradiction | (exfalso; omega) | (exfalso; revert h; simp; done) | skip) | (refine SL.W.dguardB (fun h => ?_) (fun h => ?_) <;> (fail_if_success (have : h = (rfl : true = true) := rfl)) <;> (fail_if_success (have : h = (rfl : false = false) := rfl))) | refine SL.W.done ?_ | refine SL.W.dtwo ?_ ?_ | refine SL.W.dthree ?_ ?_ ?_))
    all_goals
      have hX := hlt1.out (by assumption)
      refine SL.TK.againD ih ⟨q, (ys.set j vq).set q vj, by omega, by omega, hX.1, hX.2, rfl, rfl, rfl⟩ (by first | ((repeat (first | exact SL.Sub.nil | refine SL.Sub.cons (by rfl) (by first | rfl | exact SL.int_eq (by omega)) ?_)); done) | fail) ?_ (by omega)
      exact EntD.refl
  · have hK := Lib.hid (hk ys hS.out.1 (hS.out.2.done (.inl (by omega)) (by omega)))
    clear hk ih
    repeat' (first | (refine SL.TO.is ?_; first | (refine SL.W.quick ?_; first | refine SL.W.pass ?_ | refine SL.W.pv ?_ | refine SL.W.pv0 ?_) | refine SL.TO.nil ?_ | (refine SL.TO.nilD ?_; simp only [SL.setB]) | refine SL.W.pass ?_ | refine SL.W.pass0 ?_ | (refine SL.W.pure ?_; first | refine SL.W.pv ?_ | refine SL.W.pv0 ?_) | (refine SL.W.loud ?_; first | refine SL.W.load ?_ | refine SL.W.loadA ?_ | refine SL.W.store ?_ | refine SL.W.storeA ?_ | (refine SL.W.box ?_; intro b) | (refine SL.W.alloc ?_; intro b) | (refine SL.W.buildSlice ?_; intro b) | (refine SL.W.append ?_; intro a cap) | refine SL.W.bytesToStr ?_ | refine SL.W.pvn (SL.PV.toIntC (by rfl) (by first | exact SL.wrap_i64 (by omega) | exact SL.wrap_u8 (by omega) | exact SL.wrap_u32 (by omega) | exact SL.wrap_u64 (by omega) | rfl)) ?_ | (refine SL.W.makeSlice ?_; intro b)) | (refine SL.W.guardP (fun h => ?_) (fun h => ?_) <;> (fail_if_success (have : h = trivial := rfl)) <;> (fail_if_success (have : h = not_false := rfl)) <;> first | contradiction | (exfalso; omega) | (exfalso; revert h; simp; done) | skip) | (refine SL.W.guardB (fun h => ?_) (fun h => ?_) <;> (fail_if_success (have : h = (rfl : true = true) := rfl)) <;> (fail_if_success (have : h = (rfl : false = false) := rfl)))) | (refine SL.TK.is ?_; first | (refine SL.TK.weakD (by first | ((repeat (first | exact SL.Sub.nil | refine SL.Sub.cons (by rfl) (by first | rfl | exact SL.int_eq (by omega)) ?_)); done) | fail) EntD.refl hK.out) | refine SL.TK.seq ?_ | refine SL.TK.region ?_ | refine SL.TK.regionD SL.mixed (by simp only [SL.falses] <;> rfl) ?_ | refine SL.TK.block ?_ | refine SL.TK.inBlock ?_ | refine SL.TK.skip ?_ | refine SL.TK.scope ?_ | refine SL.TK.inScope ?_ | refine SL.TK.label ?_ | (refine SL.TK.isExit ?_; refine SL.W.exit ?_) | refine SL.W.condT ?_ | refine SL.W.condF ?_ | (refine SL.W.condP (fun h => ?_) (fun h => ?_) <;> (fail_if_success (have : h = trivial := rfl)) <;> (fail_if_success (have : h = not_false := rfl)) <;> first | contradiction | (exfalso; omega) | (exfalso; revert h; simp; done) | skip) | refine SL.W.condB (fun h => ?_) (fun h => ?_)) | (refine SL.TD.is ?_; first | (refine SL.W.dfin ?_; simp only [List.append_nil, List.cons_append, List.nil_append]) | refine SL.W.dpass ?_ | refine SL.W.dpure ?_ | (refine SL.W.dguardP (fun h => ?_) (fun h => ?_) <;> (fail_if_success (have : h = trivial := rfl)) <;> (fail_if_success (have : h = not_false := rfl)) <;> first | contradiction | (exfalso; omega) | (exfalso; revert h; simp; done) | skip) | (refine SL.W.dguardB (fun h => ?_) (fun h => ?_) <;> (fail_if_success (have : h = (rfl : true = true) := rfl)) <;> (fail_if_success (have : h = (rfl : false = false) := rfl))) | refine SL.W.done ?_ | refine SL.W.dtwo ?_ ?_ | refine SL.W.dthree ?_ ?_ ?_))
def insOut (bk n cap a b : Nat) (ex : List Value) (xs : List Int) (ρ : Env) (L : List HProp) (m : Nat) : Prop := ∃ (i : Nat) (ys : List Int), a < i ∧ (i ≤ b ∨ i = a + 1) ∧ Sw a b xs ys ∧ Srt ys a i ∧
  ρ = [(0, .slice (some ⟨bk, 0, none⟩) n cap), (1, .int .i64 a), (2, .int .i64 b), (6, .int .i64 i)] ∧ L = [row bk ys ex] ∧ m = b + 1 - i
theorem ins_spec (bk n cap a b : Nat) (ex : List Value) (xs : List Int) (hn : xs.length = n) (hc : n ≤ cap) (hcl : n ≤ 4611686018427387904) (hab : a ≤ b) (hb : b ≤ n) :
    Spec Tryz.prog 130 [.slice (some ⟨bk, 0, none⟩) n cap, .int .i64 a, .int .i64 b] [row bk xs ex] (fun r L => r = .tuple #[] ∧ ∃ ys, Sw a b xs ys ∧ Srt ys a b ∧ L = [row bk ys ex]) := by
  refine SL.Spec.of_TK Go.Proofs.Tryz.func130 rfl rfl SL.call130 rfl ?_
  have hnH := Lib.hid hn
  repeat' (first | (refine SL.TO.is ?_; first | (refine SL.W.quick ?_; first | refine SL.W.pass ?_ | refine SL.W.pv ?_ | refine SL.W.pv0 ?_) | refine SL.TO.nil ?_ | (refine SL.TO.nilD ?_; simp only [SL.setB]) | refine SL.W.pass ?_ | refine SL.W.pass0 ?_ | (refine SL.W.pure ?_; first | refine SL.W.pv ?_ | refine SL.W.pv0 ?_) | (refine SL.W.loud ?_; first | refine SL.W.load ?_ | refine SL.W.loadA ?_ | refine SL.W.store ?_ | refine SL.W.storeA ?_ | (refine SL.W.box ?_; intro b) | (refine SL.W.alloc ?_; intro b) | (refine SL.W.buildSlice ?_; intro b) | (refine SL.W.append ?_; intro a cap) | refine SL.W.bytesToStr ?_ | refine SL.W.pvn (SL.PV.toIntC (by rfl) (by first | exact SL.wrap_i64 (by omega) | exact SL.wrap_u8 (by omega) | exact SL.wrap_u32 (by omega) | exact SL.wrap_u64 (by omega) | rfl)) ?_ | (refine SL.W.makeSlice ?_; intro b)) | (refine SL.W.guardP (fun h => ?_) (fun h => ?_) <;> (fail_if_success (have : h = trivial := rfl)) <;> (fail_if_success (have : h = not_false := rfl)) <;> first | contradiction | (exfalso; omega) | (exfalso; revert h; simp; done) | skip) | (refine SL.W.guardB (fun h => ?_) (fun h => ?_) <;> (fail_if_success (have : h = (rfl : true = true) := rfl)) <;> (fail_if_success (have : h = (rfl : false = false) := rfl)))) | (refine SL.TK.lp ?_; first | (refine SL.TK.block ?_; refine SL.TK.loopD (insOut bk n cap a b ex xs) ?_ ⟨a + 1, xs, by omega, .inr rfl, .refl _, .small (by omega), rfl, rfl, rfl⟩ (by first | ((repeat (first | exact SL.Sub.nil | refine SL.Sub.cons (by rfl) (by first | rfl | exact SL.int_eq (by omega)) ?_)); done) | fail) EntD.refl)) | (refine SL.TK.is ?_; first | refine SL.TK.seq ?_ | refine SL.TK.region ?_ | refine SL.TK.regionD SL.mixed (by simp only [SL.falses] <;> rfl) ?_ | refine SL.TK.block ?_ | refine SL.TK.inBlock ?_ | refine SL.TK.skip ?_ | refine SL.TK.scope ?_ | refine SL.TK.inScope ?_ | refine SL.TK.label ?_ | (refine SL.TK.isExit ?_; refine SL.W.exit ?_) | refine SL.W.condT ?_ | refine SL.W.condF ?_ | (refine SL.W.condP (fun h => ?_) (fun h => ?_) <;> (fail_if_success (have : h = trivial := rfl)) <;> (fail_if_success (have : h = not_false := rfl)) <;> first | contradiction | (exfalso; omega) | (exfalso; revert h; simp; done) | skip) | refine SL.W.condB (fun h => ?_) (fun h => ?_)) | (refine SL.TD.is ?_; first | (refine SL.W.dfin ?_; simp only [List.append_nil, List.cons_append, List.nil_append]) | refine SL.W.dpass ?_ | refine SL.W.dpure ?_ | refine SL.W.dload ?_ | refine SL.W.dloadA ?_ | refine SL.W.dfrz ?_ | (refine SL.W.dthaw ?_; simp only [List.append_nil, List.cons_append, List.nil_append]) | (refine SL.W.dguardP (fun h => ?_) (fun h => ?_) <;> (fail_if_success (have : h = trivial := rfl)) <;> (fail_if_success (have : h = not_false := rfl)) <;> first | contradiction | (exfalso; omega) | (exfalso; revert h; simp; done) | skip) | (refine SL.W.dguardB (fun h => ?_) (fun h => ?_) <;> (fail_if_success (have : h = (rfl : true = true) := rfl)) <;> (fail_if_success (have : h = (rfl : false = false) := rfl))) | refine SL.W.done ?_ | refine SL.W.dtwo ?_ ?_ | refine SL.W.dthree ?_ ?_ ?_))
  rintro ρ L m ⟨i, ys, hai, hib, hsw, hst, rfl, rfl, rfl⟩ ih
  have hS := Lib.hid (And.intro hsw hst)
  clear hsw hst hn
  by_cases hlt : i < b
  · repeat' (first | (refine SL.TO.is ?_; first | (refine SL.W.quick ?_; first | refine SL.W.pass ?_ | refine SL.W.pv ?_ | refine SL.W.pv0 ?_) | refine SL.TO.nil ?_ | (refine SL.TO.nilD ?_; simp only [SL.setB]) | refine SL.W.pass ?_ | refine SL.W.pass0 ?_ | (refine SL.W.pure ?_; first | refine SL.W.pv ?_ | refine SL.W.pv0 ?_) | (refine SL.W.loud ?_; first | refine SL.W.load ?_ | refine SL.W.loadA ?_ | refine SL.W.store ?_ | refine SL.W.storeA ?_ | (refine SL.W.box ?_; intro b) | (refine SL.W.alloc ?_; intro b) | (refine SL.W.buildSlice ?_; intro b) | (refine SL.W.append ?_; intro a cap) | refine SL.W.bytesToStr ?_ | refine SL.W.pvn (SL.PV.toIntC (by rfl) (by first | exact SL.wrap_i64 (by omega) | exact SL.wrap_u8 (by omega) | exact SL.wrap_u32 (by omega) | exact SL.wrap_u64 (by omega) | rfl)) ?_ | (refine SL.W.makeSlice ?_; intro b)) | (refine SL.W.guardP (fun h => ?_) (fun h => ?_) <;> (fail_if_success (have : h = trivial := rfl)) <;> (fail_if_success (have : h = not_false := rfl)) <;> first | contradiction | (exfalso; omega) | (exfalso; revert h; simp; done) | skip) | (refine SL.W.guardB (fun h => ?_) (fun h => ?_) <;> (fail_if_success (have : h = (rfl : true = true) := rfl)) <;> (fail_if_success (have : h = (rfl : false = false) := rfl)))) | (refine SL.TK.lp ?_; first | refine SL.W.loop (ins_inner bk n cap a b i ex xs ys hnH.out hc hcl (by omega) hlt hb hS.out.1 hS.out.2 (fun zs h1 h2 => ?_))) | (refine SL.TK.is ?_; first | refine SL.TK.seq ?_ | refine SL.TK.region ?_ | refine SL.TK.regionD SL.mixed (by simp only [SL.falses] <;> rfl) ?_ | refine SL.TK.block ?_ | refine SL.TK.inBlock ?_ | refine SL.TK.skip ?_ | refine SL.TK.scope ?_ | refine SL.TK.inScope ?_ | refine SL.TK.label ?_ | (refine SL.TK.isExit ?_; refine SL.W.exit ?_) | refine SL.W.condT ?_ | refine SL.W.condF ?_ | (refine SL.W.condP (fun h => ?_) (fun h => ?_) <;> (fail_if_success (have : h = trivial := rfl)) <;> (fail_if_success (have : h = not_false := rfl)) <;> first | contradiction | (exfalso; omega) | (exfalso; revert h; simp; done) | skip) | refine SL.W.condB (fun h => ?_) (fun h => ?_)) | (refine SL.TD.is ?_; first | (refine SL.W.dfin ?_; simp only [List.append_nil, List.cons_append, List.nil_append]) | refine SL.W.dpass ?_ | refine SL.W.dpure ?_ | refine SL.W.dload ?_ | refine SL.W.dloadA ?_ | refine SL.W.dfrz ?_ | (refine SL.W.dthaw ?_; simp only [List.append_nil, List.cons_append, List.nil_append]) | (refine SL.W.dguardP (fun h => ?_) (fun h => ?_) <;> (fail_if_success (have : h = trivial := rfl)) <;> (fail_if_success (have : h = not_false := rfl)) <;> first | contradiction | (exfalso; omega) | (exfalso; revert h; simp; done) | skip) | (refine SL.W.dguardB (fun h => ?_) (fun h => ?_) <;> (fail_if_success (have : h = (rfl : true = true) := rfl)) <;> (fail_if_success (have : h = (rfl : false = false) := rfl))) | refine SL.W.done ?_ | refine SL.W.dtwo ?_ ?_ | refine SL.W.dthree ?_ ?_ ?_))
    refine SL.TK.againD ih ⟨i + 1, zs, by omega, by omega, h1, h2, rfl, rfl, rfl⟩ (by first | ((repeat (first | exact SL.Sub.nil | refine SL.Sub.cons (by rfl) (by first | rfl | exact SL.int_eq (by omega)) ?_)); done) | fail) ?_ (by omega)
    exact EntD.refl
  · clear ih
    repeat' (first | (refine SL.TO.is ?_; first | (refine SL.W.quick ?_; first | refine SL.W.pass ?_ | refine SL.W.pv ?_ | refine SL.W.pv0 ?_) | refine SL.TO.nil ?_ | (refine SL.TO.nilD ?_; simp only [SL.setB]) | refine SL.W.pass ?_ | refine SL.W.pass0 ?_ | (refine SL.W.pure ?_; first | refine SL.W.pv ?_ | refine SL.W.pv0 ?_) | (refine SL.W.loud ?_; first | refine SL.W.load ?_ | refine SL.W.loadA ?_ | refine SL.W.store ?_ | refine SL.W.storeA ?_ | (refine SL.W.box ?_; intro b) | (refine SL.W.alloc ?_; intro b) | (refine SL.W.buildSlice ?_; intro b) | (refine SL.W.append ?_; intro a cap) | refine SL.W.bytesToStr ?_ | refine SL.W.pvn (SL.PV.toIntC (by rfl) (by first | exact SL.wrap_i64 (by omega) | exact SL.wrap_u8 (by omega) | exact SL.wrap_u32 (by omega) | exact SL.wrap_u64 (by omega) | rfl)) ?_ | (refine SL.W.makeSlice ?_; intro b)) | (refine SL.W.guardP (fun h => ?_) (fun h => ?_) <;> (fail_if_success (have : h = trivial := rfl)) <;> (fail_if_success (have : h = not_false := rfl)) <;> first | contradiction | (exfalso; omega) | (exfalso; revert h; simp; done) | skip) | (refine SL.W.guardB (fun h => ?_) (fun h => ?_) <;> (fail_if_success (have : h = (rfl : true = true) := rfl)) <;> (fail_if_success (have : h = (rfl : false = false) := rfl)))) | (refine SL.TK.is ?_; first | refine SL.TK.seq ?_ | refine SL.TK.region ?_ | refine SL.TK.regionD SL.mixed (by simp only [SL.falses] <;> rfl) ?_ | refine SL.TK.block ?_ | refine SL.TK.inBlock ?_ | refine SL.TK.skip ?_ | refine SL.TK.scope ?_ | refine SL.TK.inScope ?_ | refine SL.TK.label ?_ | (refine SL.TK.isExit ?_; refine SL.W.exit ?_) | refine SL.W.condT ?_ | refine SL.W.condF ?_ | (refine SL.W.condP (fun h => ?_) (fun h => ?_) <;> (fail_if_success (have : h = trivial := rfl)) <;> (fail_if_success (have : h = not_false := rfl)) <;> first | contradiction | (exfalso; omega) | (exfalso; revert h; simp; done) | skip) | refine SL.W.condB (fun h => ?_) (fun h => ?_)) | (refine SL.TD.is ?_; first | (refine SL.W.dfin ?_; simp only [List.append_nil, List.cons_append, List.nil_append]) | refine SL.W.dpass ?_ | refine SL.W.dpure ?_ | refine SL.W.dload ?_ | refine SL.W.dloadA ?_ | refine SL.W.dfrz ?_ | (refine SL.W.dthaw ?_; simp only [List.append_nil, List.cons_append, List.nil_append]) | (refine SL.W.dguardP (fun h => ?_) (fun h => ?_) <;> (fail_if_success (have : h = trivial := rfl)) <;> (fail_if_success (have : h = not_false := rfl)) <;> first | contradiction | (exfalso; omega) | (exfalso; revert h; simp; done) | skip) | (refine SL.W.dguardB (fun h => ?_) (fun h => ?_) <;> (fail_if_success (have : h = (rfl : true = true) := rfl)) <;> (fail_if_success (have : h = (rfl : false = false) := rfl))) | refine SL.W.done ?_ | refine SL.W.dtwo ?_ ?_ | refine SL.W.dthree ?_ ?_ ?_))
    exact SL.TK.finD Tryz.func130 (SL.Res.none rfl) ⟨rfl, ys, hS.out.1, fun p q h1 h2 h3 => hS.out.2 p q h1 h2 (by omega), rfl⟩ EntD.refl
end SL
end
section
set_option linter.unusedVariables false
set_option linter.unusedSimpArgs false
set_option maxRecDepth 10000
namespace SL
open Go Go.Proofs Go.RowKit
theorem PV.indexStr {P : Program} {n : Nat} {ρ : Env} {ty : TypeId} {pos : String} {af : Array Edge} {g : Option (Nat × Bool)} {dst : Option Nat} {x y : Operand} {t : Nat} {s s' : ByteArray} {kd : IntKind} {i : Int} {j : Nat} {v : Int} (hu : P.underlying t = some .string)
    (hx : ev ρ x = some (.string s)) (hy : ev ρ y = some (.int kd i)) (hT : some s = some s') (hi : i = j) (hb : (s'[j]?).map (fun b => (b.toNat : Int)) = some v) : PV P n ρ ⟨dst, .index t x y, ty, pos, af, g⟩ (.int .u8 v) := fun a w gr => by
  subst hi
  cases hT
  cases hs : s[j]? with
  | none => simp [hs] at hb
  | some b =>
    simp [hs] at hb
    subst hb
    simp [execOp, gr.eval hx, gr.eval hy, Instr.index, asIntOf, Sem.run_bind, run_und hu, hs]
def strOps : List Oper → Option ByteArray
  | [] => none
  | ⟨_, .index _ (.const (.string s)) _, _, _, _, _⟩ :: _ => some s
  | _ :: l => strOps l
def strIn : Code → Option ByteArray
  | .seq a b => match strIn a with
    | some s => some s
    | none => strIn b
  | .region _ ops _ => strOps ops.toList
  | _ => none
def lenTab (f : Func) : Option ByteArray := match f.body with
  | some c => strIn c
  | none => none
attribute [local irreducible] SL.TK SL.TO SL.TD SL.PV SL.Pick SL.Frm SL.Ent SL.Sub SL.EvAll SL.seps SL.sep SL.Cut SL.PutAt SL.blk SL.EvP SL.Fill SL.Src SL.EntD SL.own SL.ex SL.fact SL.orig
theorem lentab_size : (lenTab Tryz.f140).map (·.size) = some 256 := by kernel_rfl
theorem len64_spec (x : Nat) (hx : x < 256) : Spec Tryz.prog 140 [.int .u64 x] [] (fun r L => ∃ v : Int, 0 ≤ v ∧ v ≤ 255 ∧ r = .int .i64 v ∧ L = []) := by
  obtain ⟨s, hs⟩ : ∃ s, lenTab Tryz.f140 = some s := by
    cases h : lenTab Tryz.f140 with
    | none => have := lentab_size; rw [h] at this; cases this
    | some s => exact ⟨s, rfl⟩
  have hsz : s.size = 256 := by have := lentab_size; rw [hs] at this; simpa using this
  obtain ⟨b, hb⟩ : ∃ b : UInt8, s[x]? = some b := ⟨s[x]'(by omega), by rw [getElem?_pos]⟩
  have hb2 : (s[x]?).map (fun b => (b.toNat : Int)) = some (b.toNat : Int) := by rw [hb]; rfl
  have hlt := b.toNat_lt
  obtain ⟨v, hv⟩ : ∃ v : Nat, v = b.toNat := ⟨_, rfl⟩
  rw [← hv] at hb2 hlt
  clear hv hb hsz
  have hs2 : lenTab Tryz.f140 = some s := hs
  clear hs
  refine SL.Spec.of_TK Go.Proofs.Tryz.func140 rfl rfl SL.call140 rfl ?_
  repeat' (first | (refine SL.TO.is ?_; first | (refine SL.W.quick ?_; first | refine SL.W.pass ?_ | refine SL.W.pv ?_ | refine SL.W.pv0 ?_) | refine SL.TO.nil ?_ | (refine SL.TO.nilD ?_; simp only [SL.setB]) | refine SL.W.pass ?_ | refine SL.W.pass0 ?_ | (refine SL.W.pure ?_; first | (refine SL.TO.door (o := ⟨_, .index _ _ _, _, _, _, _⟩) ?_; refine SL.W.pvn (SL.PV.indexStr (by rfl) (by rfl) (by rfl) hs2 rfl hb2) ?_) | refine SL.W.pv ?_ | refine SL.W.pv0 ?_) | (refine SL.W.loud ?_; first | refine SL.W.load ?_ | refine SL.W.loadA ?_ | refine SL.W.store ?_ | refine SL.W.storeA ?_ | (refine SL.W.box ?_; intro b) | (refine SL.W.alloc ?_; intro b) | (refine SL.W.buildSlice ?_; intro b) | (refine SL.W.append ?_; intro a cap) | refine SL.W.bytesToStr ?_ | refine SL.W.pvn (SL.PV.toIntC (by rfl) (by first | exact SL.wrap_i64 (by omega) | exact SL.wrap_u8 (by omega) | exact SL.wrap_u32 (by omega) | exact SL.wrap_u64 (by omega) | rfl)) ?_ | (refine SL.W.makeSlice ?_; intro b)) | (refine SL.W.guardP (fun h => ?_) (fun h => ?_) <;> (fail_if_success (have : h = trivial := rfl)) <;> (fail_if_success (have : h = not_false := rfl)) <;> first | contradiction | (exfalso; omega) | (exfalso; revert h; simp; done) | skip) | (refine SL.W.guardB (fun h => ?_) (fun h => ?_) <;> (fail_if_success (have : h = (rfl : true = true) := rfl)) <;> (fail_if_success (have : h = (rfl : false = false) := rfl)))) | (refine SL.TK.is ?_; first | refine SL.TK.seq ?_ | refine SL.TK.region ?_ | refine SL.TK.regionD SL.mixed (by simp only [SL.falses] <;> rfl) ?_ | refine SL.TK.block ?_ | refine SL.TK.inBlock ?_ | refine SL.TK.skip ?_ | refine SL.TK.scope ?_ | refine SL.TK.inScope ?_ | refine SL.TK.label ?_ | (refine SL.TK.isExit ?_; refine SL.W.exit ?_) | refine SL.W.condT ?_ | refine SL.W.condF ?_ | (refine SL.W.condP (fun h => ?_) (fun h => ?_) <;> (fail_if_success (have : h = trivial := rfl)) <;> (fail_if_success (have : h = not_false := rfl)) <;> first | contradiction | (exfalso; omega) | (exfalso; revert h; simp; done) | skip) | refine SL.W.condB (fun h => ?_) (fun h => ?_)) | (refine SL.TD.is ?_; first | (refine SL.W.dfin ?_; simp only [List.append_nil, List.cons_append, List.nil_append]) | refine SL.W.dpass ?_ | refine SL.W.dpure ?_ | refine SL.W.dload ?_ | refine SL.W.dloadA ?_ | refine SL.W.dfrz ?_ | (refine SL.W.dthaw ?_; simp only [List.append_nil, List.cons_append, List.nil_append]) | (refine SL.W.dguardP (fun h => ?_) (fun h => ?_) <;> (fail_if_success (have : h = trivial := rfl)) <;> (fail_if_success (have : h = not_false := rfl)) <;> first | contradiction | (exfalso; omega) | (exfalso; revert h; simp; done) | skip) | (refine SL.W.dguardB (fun h => ?_) (fun h => ?_) <;> (fail_if_success (have : h = (rfl : true = true) := rfl)) <;> (fail_if_success (have : h = (rfl : false = false) := rfl))) | refine SL.W.done ?_ | refine SL.W.dtwo ?_ ?_ | refine SL.W.dthree ?_ ?_ ?_))
  exact SL.TK.retD Tryz.func140 (SL.Res.one rfl (by rfl)) ⟨v, by omega, by omega, by simp, rfl⟩ EntD.nil
theorem bitlen_spec (x : Nat) (hx : x < 256) : Spec Tryz.prog 128 [.int .u64 x] [] (fun r L => ∃ v : Int, 0 ≤ v ∧ v ≤ 255 ∧ r = .int .i64 v ∧ L = []) := by
  have h := len64_spec x hx
  refine SL.Spec.of_TK Go.Proofs.Tryz.func128 rfl rfl SL.call128 rfl ?_
  repeat' (first | (refine SL.TO.is ?_; first | (refine SL.W.quick ?_; first | refine SL.W.pass ?_ | refine SL.W.pv ?_ | refine SL.W.pv0 ?_) | (refine SL.TO.door (o := ⟨_, .call _, _, _, _, _⟩) ?_; first | (refine SL.TO.door (o := ⟨_, .call ⟨.value (.func 140), _, _⟩, _, _, _, _⟩) ?_; first | (refine SL.W.call (h) ?_; rintro _ _ ⟨v, h0, h1, rfl, rfl⟩; try simp only [List.cons_append, List.nil_append]))) | refine SL.TO.nil ?_ | (refine SL.TO.nilD ?_; simp only [SL.setB]) | refine SL.W.pass ?_ | refine SL.W.pass0 ?_ | (refine SL.W.pure ?_; first | refine SL.W.pv ?_ | refine SL.W.pv0 ?_) | (refine SL.W.loud ?_; first | refine SL.W.load ?_ | refine SL.W.loadA ?_ | refine SL.W.store ?_ | refine SL.W.storeA ?_ | (refine SL.W.box ?_; intro b) | (refine SL.W.alloc ?_; intro b) | (refine SL.W.buildSlice ?_; intro b) | (refine SL.W.append ?_; intro a cap) | refine SL.W.bytesToStr ?_ | refine SL.W.pvn (SL.PV.toIntC (by rfl) (by first | exact SL.wrap_i64 (by omega) | exact SL.wrap_u8 (by omega) | exact SL.wrap_u32 (by omega) | exact SL.wrap_u64 (by omega) | rfl)) ?_ | (refine SL.W.makeSlice ?_; intro b)) | (refine SL.W.guardP (fun h => ?_) (fun h => ?_) <;> (fail_if_success (have : h = trivial := rfl)) <;> (fail_if_success (have : h = not_false := rfl)) <;> first | contradiction | (exfalso; omega) | (exfalso; revert h; simp; done) | skip) | (refine SL.W.guardB (fun h => ?_) (fun h => ?_) <;> (fail_if_success (have : h = (rfl : true = true) := rfl)) <;> (fail_if_success (have : h = (rfl : false = false) := rfl)))) | (refine SL.TK.is ?_; first | refine SL.TK.seq ?_ | refine SL.TK.region ?_ | refine SL.TK.regionD SL.mixed (by simp only [SL.falses] <;> rfl) ?_ | refine SL.TK.block ?_ | refine SL.TK.inBlock ?_ | refine SL.TK.skip ?_ | refine SL.TK.scope ?_ | refine SL.TK.inScope ?_ | refine SL.TK.label ?_ | (refine SL.TK.isExit ?_; refine SL.W.exit ?_) | refine SL.W.condT ?_ | refine SL.W.condF ?_ | (refine SL.W.condP (fun h => ?_) (fun h => ?_) <;> (fail_if_success (have : h = trivial := rfl)) <;> (fail_if_success (have : h = not_false := rfl)) <;> first | contradiction | (exfalso; omega) | (exfalso; revert h; simp; done) | skip) | refine SL.W.condB (fun h => ?_) (fun h => ?_)) | (refine SL.TD.is ?_; first | (refine SL.W.dfin ?_; simp only [List.append_nil, List.cons_append, List.nil_append]) | refine SL.W.dpass ?_ | refine SL.W.dpure ?_ | refine SL.W.dload ?_ | refine SL.W.dloadA ?_ | refine SL.W.dfrz ?_ | (refine SL.W.dthaw ?_; simp only [List.append_nil, List.cons_append, List.nil_append]) | (refine SL.W.dguardP (fun h => ?_) (fun h => ?_) <;> (fail_if_success (have : h = trivial := rfl)) <;> (fail_if_success (have : h = not_false := rfl)) <;> first | contradiction | (exfalso; omega) | (exfalso; revert h; simp; done) | skip) | (refine SL.W.dguardB (fun h => ?_) (fun h => ?_) <;> (fail_if_success (have : h = (rfl : true = true) := rfl)) <;> (fail_if_success (have : h = (rfl : false = false) := rfl))) | refine SL.W.done ?_ | refine SL.W.dtwo ?_ ?_ | refine SL.W.dthree ?_ ?_ ?_))
  exact SL.TK.retD Tryz.func128 (SL.Res.one rfl (by rfl)) ⟨v, h0, h1, rfl, rfl⟩ EntD.nil
theorem ins_none (v : Value) : Spec Tryz.prog 130 [v, .int .i64 0, .int .i64 0] [] (fun r L => r = .tuple #[] ∧ L = []) := by
  refine SL.Spec.of_TK Go.Proofs.Tryz.func130 rfl rfl SL.call130 rfl ?_
  repeat' (first | (refine SL.TO.is ?_; first | (refine SL.W.quick ?_; first | refine SL.W.pass ?_ | refine SL.W.pv ?_ | refine SL.W.pv0 ?_) | refine SL.TO.nil ?_ | (refine SL.TO.nilD ?_; simp only [SL.setB]) | refine SL.W.pass ?_ | refine SL.W.pass0 ?_ | (refine SL.W.pure ?_; first | refine SL.W.pv ?_ | refine SL.W.pv0 ?_) | (refine SL.W.loud ?_; first | refine SL.W.load ?_ | refine SL.W.loadA ?_ | refine SL.W.store ?_ | refine SL.W.storeA ?_ | (refine SL.W.box ?_; intro b) | (refine SL.W.alloc ?_; intro b) | (refine SL.W.buildSlice ?_; intro b) | (refine SL.W.append ?_; intro a cap) | refine SL.W.bytesToStr ?_ | refine SL.W.pvn (SL.PV.toIntC (by rfl) (by first | exact SL.wrap_i64 (by omega) | exact SL.wrap_u8 (by omega) | exact SL.wrap_u32 (by omega) | exact SL.wrap_u64 (by omega) | rfl)) ?_ | (refine SL.W.makeSlice ?_; intro b)) | (refine SL.W.guardP (fun h => ?_) (fun h => ?_) <;> (fail_if_success (have : h = trivial := rfl)) <;> (fail_if_success (have : h = not_false := rfl)) <;> first | contradiction | (exfalso; omega) | (exfalso; revert h; simp; done) | skip) | (refine SL.W.guardB (fun h => ?_) (fun h => ?_) <;> (fail_if_success (have : h = (rfl : true = true) := rfl)) <;> (fail_if_success (have : h = (rfl : false = false) := rfl)))) | (refine SL.TK.lp ?_; first | (refine SL.TK.block ?_; refine SL.TK.loopD (fun ρ L m => ρ = [(2, .int .i64 0), (6, .int .i64 1)] ∧ L = [] ∧ m = 0) ?_ (m0 := 0) ⟨rfl, rfl, rfl⟩ (by first | ((repeat (first | exact SL.Sub.nil | refine SL.Sub.cons (by rfl) (by first | rfl | exact SL.int_eq (by omega)) ?_)); done) | fail) EntD.refl)) | (refine SL.TK.is ?_; first | refine SL.TK.seq ?_ | refine SL.TK.region ?_ | refine SL.TK.regionD SL.mixed (by simp only [SL.falses] <;> rfl) ?_ | refine SL.TK.block ?_ | refine SL.TK.inBlock ?_ | refine SL.TK.skip ?_ | refine SL.TK.scope ?_ | refine SL.TK.inScope ?_ | refine SL.TK.label ?_ | (refine SL.TK.isExit ?_; refine SL.W.exit ?_) | refine SL.W.condT ?_ | refine SL.W.condF ?_ | (refine SL.W.condP (fun h => ?_) (fun h => ?_) <;> (fail_if_success (have : h = trivial := rfl)) <;> (fail_if_success (have : h = not_false := rfl)) <;> first | contradiction | (exfalso; omega) | (exfalso; revert h; simp; done) | skip) | refine SL.W.condB (fun h => ?_) (fun h => ?_)) | (refine SL.TD.is ?_; first | (refine SL.W.dfin ?_; simp only [List.append_nil, List.cons_append, List.nil_append]) | refine SL.W.dpass ?_ | refine SL.W.dpure ?_ | refine SL.W.dload ?_ | refine SL.W.dloadA ?_ | refine SL.W.dfrz ?_ | (refine SL.W.dthaw ?_; simp only [List.append_nil, List.cons_append, List.nil_append]) | (refine SL.W.dguardP (fun h => ?_) (fun h => ?_) <;> (fail_if_success (have : h = trivial := rfl)) <;> (fail_if_success (have : h = not_false := rfl)) <;> first | contradiction | (exfalso; omega) | (exfalso; revert h; simp; done) | skip) | (refine SL.W.dguardB (fun h => ?_) (fun h => ?_) <;> (fail_if_success (have : h = (rfl : true = true) := rfl)) <;> (fail_if_success (have : h = (rfl : false = false) := rfl))) | refine SL.W.done ?_ | refine SL.W.dtwo ?_ ?_ | refine SL.W.dthree ?_ ?_ ?_))
  rintro ρ L m ⟨rfl, rfl, rfl⟩ ih
  clear ih
  repeat' (first | (refine SL.TO.is ?_; first | (refine SL.W.quick ?_; first | refine SL.W.pass ?_ | refine SL.W.pv ?_ | refine SL.W.pv0 ?_) | refine SL.TO.nil ?_ | (refine SL.TO.nilD ?_; simp only [SL.setB]) | refine SL.W.pass ?_ | refine SL.W.pass0 ?_ | (refine SL.W.pure ?_; first | refine SL.W.pv ?_ | refine SL.W.pv0 ?_) | (refine SL.W.loud ?_; first | refine SL.W.load ?_ | refine SL.W.loadA ?_ | refine SL.W.store ?_ | refine SL.W.storeA ?_ | (refine SL.W.box ?_; intro b) | (refine SL.W.alloc ?_; intro b) | (refine SL.W.buildSlice ?_; intro b) | (refine SL.W.append ?_; intro a cap) | refine SL.W.bytesToStr ?_ | refine SL.W.pvn (SL.PV.toIntC (by rfl) (by first | exact SL.wrap_i64 (by omega) | exact SL.wrap_u8 (by omega) | exact SL.wrap_u32 (by omega) | exact SL.wrap_u64 (by omega) | rfl)) ?_ | (refine SL.W.makeSlice ?_; intro b)) | (refine SL.W.guardP (fun h => ?_) (fun h => ?_) <;> (fail_if_success (have : h = trivial := rfl)) <;> (fail_if_success (have : h = not_false := rfl)) <;> first | contradiction | (exfalso; omega) | (exfalso; revert h; simp; done) | skip) | (refine SL.W.guardB (fun h => ?_) (fun h => ?_) <;> (fail_if_success (have : h = (rfl : true = true) := rfl)) <;> (fail_if_success (have : h = (rfl : false = false) := rfl)))) | (refine SL.TK.is ?_; first | refine SL.TK.seq ?_ | refine SL.TK.region ?_ | refine SL.TK.regionD SL.mixed (by simp only [SL.falses] <;> rfl) ?_ | refine SL.TK.block ?_ | refine SL.TK.inBlock ?_ | refine SL.TK.skip ?_ | refine SL.TK.scope ?_ | refine SL.TK.inScope ?_ | refine SL.TK.label ?_ | (refine SL.TK.isExit ?_; refine SL.W.exit ?_) | refine SL.W.condT ?_ | refine SL.W.condF ?_ | (refine SL.W.condP (fun h => ?_) (fun h => ?_) <;> (fail_if_success (have : h = trivial := rfl)) <;> (fail_if_success (have : h = not_false := rfl)) <;> first | contradiction | (exfalso; omega) | (exfalso; revert h; simp; done) | skip) | refine SL.W.condB (fun h => ?_) (fun h => ?_)) | (refine SL.TD.is ?_; first | (refine SL.W.dfin ?_; simp only [List.append_nil, List.cons_append, List.nil_append]) | refine SL.W.dpass ?_ | refine SL.W.dpure ?_ | refine SL.W.dload ?_ | refine SL.W.dloadA ?_ | refine SL.W.dfrz ?_ | (refine SL.W.dthaw ?_; simp only [List.append_nil, List.cons_append, List.nil_append]) | (refine SL.W.dguardP (fun h => ?_) (fun h => ?_) <;> (fail_if_success (have : h = trivial := rfl)) <;> (fail_if_success (have : h = not_false := rfl)) <;> first | contradiction | (exfalso; omega) | (exfalso; revert h; simp; done) | skip) | (refine SL.W.dguardB (fun h => ?_) (fun h => ?_) <;> (fail_if_success (have : h = (rfl : true = true) := rfl)) <;> (fail_if_success (have : h = (rfl : false = false) := rfl))) | refine SL.W.done ?_ | refine SL.W.dtwo ?_ ?_ | refine SL.W.dthree ?_ ?_ ?_))
  exact SL.TK.finD Tryz.func130 (SL.Res.none rfl) ⟨rfl, rfl⟩ EntD.refl
theorem pdq_none (v : Value) (lim : Int) : Spec Tryz.prog 127 [v, .int .i64 0, .int .i64 0, .int .i64 lim] [] (fun r L => r = .tuple #[] ∧ L = []) := by
  refine SL.Spec.of_TK Go.Proofs.Tryz.func127 rfl rfl SL.call127 rfl ?_
  repeat' (first | (refine SL.TO.is ?_; first | (refine SL.W.quick ?_; first | refine SL.W.pass ?_ | refine SL.W.pv ?_ | refine SL.W.pv0 ?_) | (refine SL.TO.door (o := ⟨_, .call _, _, _, _, _⟩) ?_; first | (refine SL.TO.door (o := ⟨_, .call ⟨.value (.func 130), _, _⟩, _, _, _, _⟩) ?_; first | (refine SL.W.call (ins_none _) ?_; rintro _ _ ⟨rfl, rfl⟩; try simp only [List.cons_append, List.nil_append]))) | refine SL.TO.nil ?_ | (refine SL.TO.nilD ?_; simp only [SL.setB]) | refine SL.W.pass ?_ | refine SL.W.pass0 ?_ | (refine SL.W.pure ?_; first | refine SL.W.pv ?_ | refine SL.W.pv0 ?_) | (refine SL.W.loud ?_; first | refine SL.W.load ?_ | refine SL.W.loadA ?_ | refine SL.W.store ?_ | refine SL.W.storeA ?_ | (refine SL.W.box ?_; intro b) | (refine SL.W.alloc ?_; intro b) | (refine SL.W.buildSlice ?_; intro b) | (refine SL.W.append ?_; intro a cap) | refine SL.W.bytesToStr ?_ | refine SL.W.pvn (SL.PV.toIntC (by rfl) (by first | exact SL.wrap_i64 (by omega) | exact SL.wrap_u8 (by omega) | exact SL.wrap_u32 (by omega) | exact SL.wrap_u64 (by omega) | rfl)) ?_ | (refine SL.W.makeSlice ?_; intro b)) | (refine SL.W.guardP (fun h => ?_) (fun h => ?_) <;> (fail_if_success (have : h = trivial := rfl)) <;> (fail_if_success (have : h = not_false := rfl)) <;> first | contradiction | (exfalso; omega) | (exfalso; revert h; simp; done) | skip) | (refine SL.W.guardB (fun h => ?_) (fun h => ?_) <;> (fail_if_success (have : h = (rfl : true = true) := rfl)) <;> (fail_if_success (have : h = (rfl : false = false) := rfl)))) | (refine SL.TK.lp ?_; first | (refine SL.TK.block ?_; refine SL.TK.loopD (fun ρ L m => ρ = [(0, v), (1, .int .i64 0), (2, .int .i64 0)] ∧ L = [] ∧ m = 0) ?_ (m0 := 0) ⟨rfl, rfl, rfl⟩ (by first | ((repeat (first | exact SL.Sub.nil | refine SL.Sub.cons (by rfl) (by first | rfl | exact SL.int_eq (by omega)) ?_)); done) | fail) EntD.refl)) | (refine SL.TK.is ?_; first | refine SL.TK.seq ?_ | refine SL.TK.region ?_ | refine SL.TK.regionD SL.mixed (by simp only [SL.falses] <;> rfl) ?_ | refine SL.TK.block ?_ | refine SL.TK.inBlock ?_ | refine SL.TK.skip ?_ | refine SL.TK.scope ?_ | refine SL.TK.inScope ?_ | refine SL.TK.label ?_ | (refine SL.TK.isExit ?_; refine SL.W.exit ?_) | refine SL.W.condT ?_ | refine SL.W.condF ?_ | (refine SL.W.condP (fun h => ?_) (fun h => ?_) <;> (fail_if_success (have : h = trivial := rfl)) <;> (fail_if_success (have : h = not_false := rfl)) <;> first | contradiction | (exfalso; omega) | (exfalso; revert h; simp; done) | skip) | refine SL.W.condB (fun h => ?_) (fun h => ?_)) | (refine SL.TD.is ?_; first | (refine SL.W.dfin ?_; simp only [List.append_nil, List.cons_append, List.nil_append]) | refine SL.W.dpass ?_ | refine SL.W.dpure ?_ | refine SL.W.dload ?_ | refine SL.W.dloadA ?_ | refine SL.W.dfrz ?_ | (refine SL.W.dthaw ?_; simp only [List.append_nil, List.cons_append, List.nil_append]) | (refine SL.W.dguardP (fun h => ?_) (fun h => ?_) <;> (fail_if_success (have : h = trivial := rfl)) <;> (fail_if_success (have : h = not_false := rfl)) <;> first | contradiction | (exfalso; omega) | (exfalso; revert h; simp; done) | skip) | (refine SL.W.dguardB (fun h => ?_) (fun h => ?_) <;> (fail_if_success (have : h = (rfl : true = true) := rfl)) <;> (fail_if_success (have : h = (rfl : false = false) := rfl))) | refine SL.W.done ?_ | refine SL.W.dtwo ?_ ?_ | refine SL.W.dthree ?_ ?_ ?_))
  rintro ρ L m ⟨rfl, rfl, rfl⟩ ih
  clear ih
  repeat' (first | (refine SL.TO.is ?_; first | (refine SL.W.quick ?_; first | refine SL.W.pass ?_ | refine SL.W.pv ?_ | refine SL.W.pv0 ?_) | (refine SL.TO.door (o := ⟨_, .call _, _, _, _, _⟩) ?_; first | (refine SL.TO.door (o := ⟨_, .call ⟨.value (.func 130), _, _⟩, _, _, _, _⟩) ?_; first | (refine SL.W.call (ins_none _) ?_; rintro _ _ ⟨rfl, rfl⟩; try simp only [List.cons_append, List.nil_append]))) | refine SL.TO.nil ?_ | (refine SL.TO.nilD ?_; simp only [SL.setB]) | refine SL.W.pass ?_ | refine SL.W.pass0 ?_ | (refine SL.W.pure ?_; first | refine SL.W.pv ?_ | refine SL.W.pv0 ?_) | (refine SL.W.loud ?_; first | refine SL.W.load ?_ | refine SL.W.loadA ?_ | refine SL.W.store ?_ | refine SL.W.storeA ?_ | (refine SL.W.box ?_; intro b) | (refine SL.W.alloc ?_; intro b) | (refine SL.W.buildSlice ?_; intro b) | (refine SL.W.append ?_; intro a cap) | refine SL.W.bytesToStr ?_ | refine SL.W.pvn (SL.PV.toIntC (by rfl) (by first | exact SL.wrap_i64 (by omega) | exact SL.wrap_u8 (by omega) | exact SL.wrap_u32 (by omega) | exact SL.wrap_u64 (by omega) | rfl)) ?_ | (refine SL.W.makeSlice ?_; intro b)) | (refine SL.W.guardP (fun h => ?_) (fun h => ?_) <;> (fail_if_success (have : h = trivial := rfl)) <;> (fail_if_success (have : h = not_false := rfl)) <;> first | contradiction | (exfalso; omega) | (exfalso; revert h; simp; done) | skip) | (refine SL.W.guardB (fun h => ?_) (fun h => ?_) <;> (fail_if_success (have : h = (rfl : true = true) := rfl)) <;> (fail_if_success (have : h = (rfl : false = false) := rfl)))) | (refine SL.TK.is ?_; first | refine SL.TK.seq ?_ | refine SL.TK.region ?_ | refine SL.TK.regionD SL.mixed (by simp only [SL.falses] <;> rfl) ?_ | refine SL.TK.block ?_ | refine SL.TK.inBlock ?_ | refine SL.TK.skip ?_ | refine SL.TK.scope ?_ | refine SL.TK.inScope ?_ | refine SL.TK.label ?_ | (refine SL.TK.isExit ?_; refine SL.W.exit ?_) | refine SL.W.condT ?_ | refine SL.W.condF ?_ | (refine SL.W.condP (fun h => ?_) (fun h => ?_) <;> (fail_if_success (have : h = trivial := rfl)) <;> (fail_if_success (have : h = not_false := rfl)) <;> first | contradiction | (exfalso; omega) | (exfalso; revert h; simp; done) | skip) | refine SL.W.condB (fun h => ?_) (fun h => ?_)) | (refine SL.TD.is ?_; first | (refine SL.W.dfin ?_; simp only [List.append_nil, List.cons_append, List.nil_append]) | refine SL.W.dpass ?_ | refine SL.W.dpure ?_ | refine SL.W.dload ?_ | refine SL.W.dloadA ?_ | refine SL.W.dfrz ?_ | (refine SL.W.dthaw ?_; simp only [List.append_nil, List.cons_append, List.nil_append]) | (refine SL.W.dguardP (fun h => ?_) (fun h => ?_) <;> (fail_if_success (have : h = trivial := rfl)) <;> (fail_if_success (have : h = not_false := rfl)) <;> first | contradiction | (exfalso; omega) | (exfalso; revert h; simp; done) | skip) | (refine SL.W.dguardB (fun h => ?_) (fun h => ?_) <;> (fail_if_success (have : h = (rfl : true = true) := rfl)) <;> (fail_if_success (have : h = (rfl : false = false) := rfl))) | refine SL.W.done ?_ | refine SL.W.dtwo ?_ ?_ | refine SL.W.dthree ?_ ?_ ?_))
  exact SL.TK.retD Tryz.func127 (SL.Res.none rfl) ⟨rfl, rfl⟩ EntD.refl
theorem pdq_small (bk n cap a b : Nat) (lim : Int) (ex : List Value) (xs : List Int) (hn : xs.length = n) (hc : n ≤ cap) (hcl : n ≤ 4611686018427387904) (hab : a ≤ b) (hb : b ≤ n) (h12 : b - a ≤ 12) :
    Spec Tryz.prog 127 [.slice (some ⟨bk, 0, none⟩) n cap, .int .i64 a, .int .i64 b, .int .i64 lim] [row bk xs ex] (fun r L => r = .tuple #[] ∧ ∃ ys, Sw a b xs ys ∧ Srt ys a b ∧ L = [row bk ys ex]) := by
  have hIns := Lib.hid (ins_spec bk n cap a b ex xs hn hc hcl hab hb)
  clear hn
  refine SL.Spec.of_TK Go.Proofs.Tryz.func127 rfl rfl SL.call127 rfl ?_
  repeat' (first | (refine SL.TO.is ?_; first | (refine SL.W.quick ?_; first | refine SL.W.pass ?_ | refine SL.W.pv ?_ | refine SL.W.pv0 ?_) | refine SL.TO.nil ?_ | (refine SL.TO.nilD ?_; simp only [SL.setB]) | refine SL.W.pass ?_ | refine SL.W.pass0 ?_ | (refine SL.W.pure ?_; first | refine SL.W.pv ?_ | refine SL.W.pv0 ?_) | (refine SL.W.loud ?_; first | refine SL.W.load ?_ | refine SL.W.loadA ?_ | refine SL.W.store ?_ | refine SL.W.storeA ?_ | (refine SL.W.box ?_; intro b) | (refine SL.W.alloc ?_; intro b) | (refine SL.W.buildSlice ?_; intro b) | (refine SL.W.append ?_; intro a cap) | refine SL.W.bytesToStr ?_ | refine SL.W.pvn (SL.PV.toIntC (by rfl) (by first | exact SL.wrap_i64 (by omega) | exact SL.wrap_u8 (by omega) | exact SL.wrap_u32 (by omega) | exact SL.wrap_u64 (by omega) | rfl)) ?_ | (refine SL.W.makeSlice ?_; intro b)) | (refine SL.W.guardP (fun h => ?_) (fun h => ?_) <;> (fail_if_success (have : h = trivial := rfl)) <;> (fail_if_success (have : h = not_false := rfl)) <;> first | contradiction | (exfalso; omega) | (exfalso; revert h; simp; done) | skip) | (refine SL.W.guardB (fun h => ?_) (fun h => ?_) <;> (fail_if_success (have : h = (rfl : true = true) := rfl)) <;> (fail_if_success (have : h = (rfl : false = false) := rfl)))) | (refine SL.TK.lp ?_; first | (refine SL.TK.block ?_; refine SL.TK.loopD (fun ρ L m => ρ = [(0, .slice (some ⟨bk, 0, none⟩) n cap), (1, .int .i64 a), (2, .int .i64 b)] ∧ L = [row bk xs ex] ∧ m = 0) ?_ (m0 := 0) ⟨rfl, rfl, rfl⟩ (by first | ((repeat (first | exact SL.Sub.nil | refine SL.Sub.cons (by rfl) (by first | rfl | exact SL.int_eq (by omega)) ?_)); done) | fail) EntD.refl)) | (refine SL.TK.is ?_; first | refine SL.TK.seq ?_ | refine SL.TK.region ?_ | refine SL.TK.regionD SL.mixed (by simp only [SL.falses] <;> rfl) ?_ | refine SL.TK.block ?_ | refine SL.TK.inBlock ?_ | refine SL.TK.skip ?_ | refine SL.TK.scope ?_ | refine SL.TK.inScope ?_ | refine SL.TK.label ?_ | (refine SL.TK.isExit ?_; refine SL.W.exit ?_) | refine SL.W.condT ?_ | refine SL.W.condF ?_ | (refine SL.W.condP (fun h => ?_) (fun h => ?_) <;> (fail_if_success (have : h = trivial := rfl)) <;> (fail_if_success (have : h = not_false := rfl)) <;> first | contradiction | (exfalso; omega) | (exfalso; revert h; simp; done) | skip) | refine SL.W.condB (fun h => ?_) (fun h => ?_)) | (refine SL.TD.is ?_; first | (refine SL.W.dfin ?_; simp only [List.append_nil, List.cons_append, List.nil_append]) | refine SL.W.dpass ?_ | refine SL.W.dpure ?_ | refine SL.W.dload ?_ | refine SL.W.dloadA ?_ | refine SL.W.dfrz ?_ | (refine SL.W.dthaw ?_; simp only [List.append_nil, List.cons_append, List.nil_append]) | (refine SL.W.dguardP (fun h => ?_) (fun h => ?_) <;> (fail_if_success (have : h = trivial := rfl)) <;> (fail_if_success (have : h = not_false := rfl)) <;> first | contradiction | (exfalso; omega) | (exfalso; revert h; simp; done) | skip) | (refine SL.W.dguardB (fun h => ?_) (fun h => ?_) <;> (fail_if_success (have : h = (rfl : true = true) := rfl)) <;> (fail_if_success (have : h = (rfl : false = false) := rfl))) | refine SL.W.done ?_ | refine SL.W.dtwo ?_ ?_ | refine SL.W.dthree ?_ ?_ ?_))
  rintro ρ L m ⟨rfl, rfl, rfl⟩ ih
  clear ih
  repeat' (first | (refine SL.TO.is ?_; first | (refine SL.W.quick ?_; first | refine SL.W.pass ?_ | refine SL.W.pv ?_ | refine SL.W.pv0 ?_) | (refine SL.TO.door (o := ⟨_, .call _, _, _, _, _⟩) ?_; first | (refine SL.TO.door (o := ⟨_, .call ⟨.value (.func 130), _, _⟩, _, _, _, _⟩) ?_; first | (refine SL.W.call (hIns.out) ?_; rintro _ _ ⟨rfl, ys, h1, h2, rfl⟩; try simp only [List.cons_append, List.nil_append]))) | refine SL.TO.nil ?_ | (refine SL.TO.nilD ?_; simp only [SL.setB]) | refine SL.W.pass ?_ | refine SL.W.pass0 ?_ | (refine SL.W.pure ?_; first | refine SL.W.pv ?_ | refine SL.W.pv0 ?_) | (refine SL.W.loud ?_; first | refine SL.W.load ?_ | refine SL.W.loadA ?_ | refine SL.W.store ?_ | refine SL.W.storeA ?_ | (refine SL.W.box ?_; intro b) | (refine SL.W.alloc ?_; intro b) | (refine SL.W.buildSlice ?_; intro b) | (refine SL.W.append ?_; intro a cap) | refine SL.W.bytesToStr ?_ | refine SL.W.pvn (SL.PV.toIntC (by rfl) (by first | exact SL.wrap_i64 (by omega) | exact SL.wrap_u8 (by omega) | exact SL.wrap_u32 (by omega) | exact SL.wrap_u64 (by omega) | rfl)) ?_ | (refine SL.W.makeSlice ?_; intro b)) | (refine SL.W.guardP (fun h => ?_) (fun h => ?_) <;> (fail_if_success (have : h = trivial := rfl)) <;> (fail_if_success (have : h = not_false := rfl)) <;> first | contradiction | (exfalso; omega) | (exfalso; revert h; simp; done) | skip) | (refine SL.W.guardB (fun h => ?_) (fun h => ?_) <;> (fail_if_success (have : h = (rfl : true = true) := rfl)) <;> (fail_if_success (have : h = (rfl : false = false) := rfl)))) | (refine SL.TK.is ?_; first | refine SL.TK.seq ?_ | refine SL.TK.region ?_ | refine SL.TK.regionD SL.mixed (by simp only [SL.falses] <;> rfl) ?_ | refine SL.TK.block ?_ | refine SL.TK.inBlock ?_ | refine SL.TK.skip ?_ | refine SL.TK.scope ?_ | refine SL.TK.inScope ?_ | refine SL.TK.label ?_ | (refine SL.TK.isExit ?_; refine SL.W.exit ?_) | refine SL.W.condT ?_ | refine SL.W.condF ?_ | (refine SL.W.condP (fun h => ?_) (fun h => ?_) <;> (fail_if_success (have : h = trivial := rfl)) <;> (fail_if_success (have : h = not_false := rfl)) <;> first | contradiction | (exfalso; omega) | (exfalso; revert h; simp; done) | skip) | refine SL.W.condB (fun h => ?_) (fun h => ?_)) | (refine SL.TD.is ?_; first | (refine SL.W.dfin ?_; simp only [List.append_nil, List.cons_append, List.nil_append]) | refine SL.W.dpass ?_ | refine SL.W.dpure ?_ | refine SL.W.dload ?_ | refine SL.W.dloadA ?_ | refine SL.W.dfrz ?_ | (refine SL.W.dthaw ?_; simp only [List.append_nil, List.cons_append, List.nil_append]) | (refine SL.W.dguardP (fun h => ?_) (fun h => ?_) <;> (fail_if_success (have : h = trivial := rfl)) <;> (fail_if_success (have : h = not_false := rfl)) <;> first | contradiction | (exfalso; omega) | (exfalso; revert h; simp; done) | skip) | (refine SL.W.dguardB (fun h => ?_) (fun h => ?_) <;> (fail_if_success (have : h = (rfl : true = true) := rfl)) <;> (fail_if_success (have : h = (rfl : false = false) := rfl))) | refine SL.W.done ?_ | refine SL.W.dtwo ?_ ?_ | refine SL.W.dthree ?_ ?_ ?_))
  exact SL.TK.retD Tryz.func127 (SL.Res.none rfl) ⟨rfl, ys, h1, h2, rfl⟩ EntD.refl
theorem sort_of (N : Nat) (hN : N < 256) (hpdq : ∀ (bk cap : Nat) (lim : Int) (ex : List Value) (xs : List Int), xs.length ≤ N → xs.length ≤ cap → 0 ≤ lim → lim ≤ 255 →
      Spec Tryz.prog 127 [.slice (some ⟨bk, 0, none⟩) xs.length cap, .int .i64 0, .int .i64 xs.length, .int .i64 lim] [row bk xs ex] (fun r L => r = .tuple #[] ∧ ∃ ys, Sw 0 xs.length xs ys ∧ Srt ys 0 xs.length ∧ L = [row bk ys ex]))
    (a : Option Addr) (cap : Nat) (xs : List Int) (hx : xs.length ≤ N) :
    Spec Tryz.prog 121 [.slice a xs.length cap] [own 25 1 a xs.length cap (xs.map iv)] (fun r L => r = .tuple #[] ∧ L = [own 25 1 a xs.length cap ((srt xs).map iv)]) := by
  have hlen := bitlen_spec xs.length (by omega)
  refine SL.Spec.of_TK Go.Proofs.Tryz.func121 rfl rfl SL.call121 rfl ?_
  by_cases h0 : xs.length = 0
  · have he : xs = [] := List.eq_nil_of_length_eq_zero h0
    subst he
    repeat' (first | (refine SL.TO.is ?_; first | (refine SL.W.quick ?_; first | refine SL.W.pass ?_ | refine SL.W.pv ?_ | refine SL.W.pv0 ?_) | (refine SL.TO.door (o := ⟨_, .call _, _, _, _, _⟩) ?_; first | (refine SL.TO.door (o := ⟨_, .call ⟨.value (.func 128), _, _⟩, _, _, _, _⟩) ?_; first | (refine SL.W.call (hlen) ?_; rintro _ _ ⟨v, h1, h2, rfl, rfl⟩; try simp only [List.cons_append, List.nil_append])) | (refine SL.TO.door (o := ⟨_, .call ⟨.value (.func 127), _, _⟩, _, _, _, _⟩) ?_; first | (refine SL.W.call (pdq_none _ _) ?_; rintro _ _ ⟨rfl, rfl⟩; try simp only [List.cons_append, List.nil_append]))) | refine SL.TO.nil ?_ | (refine SL.TO.nilD ?_; simp only [SL.setB]) | refine SL.W.pass ?_ | refine SL.W.pass0 ?_ | (refine SL.W.pure ?_; first | refine SL.W.pv ?_ | refine SL.W.pv0 ?_) | (refine SL.W.loud ?_; first | refine SL.W.load ?_ | refine SL.W.loadA ?_ | refine SL.W.store ?_ | refine SL.W.storeA ?_ | (refine SL.W.box ?_; intro b) | (refine SL.W.alloc ?_; intro b) | (refine SL.W.buildSlice ?_; intro b) | (refine SL.W.append ?_; intro a cap) | refine SL.W.bytesToStr ?_ | refine SL.W.pvn (SL.PV.toIntC (by rfl) (by first | exact SL.wrap_i64 (by omega) | exact SL.wrap_u8 (by omega) | exact SL.wrap_u32 (by omega) | exact SL.wrap_u64 (by omega) | rfl)) ?_ | (refine SL.W.makeSlice ?_; intro b)) | (refine SL.W.guardP (fun h => ?_) (fun h => ?_) <;> (fail_if_success (have : h = trivial := rfl)) <;> (fail_if_success (have : h = not_false := rfl)) <;> first | contradiction | (exfalso; omega) | (exfalso; revert h; simp; done) | skip) | (refine SL.W.guardB (fun h => ?_) (fun h => ?_) <;> (fail_if_success (have : h = (rfl : true = true) := rfl)) <;> (fail_if_success (have : h = (rfl : false = false) := rfl)))) | (refine SL.TK.is ?_; first | refine SL.TK.seq ?_ | refine SL.TK.region ?_ | refine SL.TK.regionD SL.mixed (by simp only [SL.falses] <;> rfl) ?_ | refine SL.TK.block ?_ | refine SL.TK.inBlock ?_ | refine SL.TK.skip ?_ | refine SL.TK.scope ?_ | refine SL.TK.inScope ?_ | refine SL.TK.label ?_ | (refine SL.TK.isExit ?_; refine SL.W.exit ?_) | refine SL.W.condT ?_ | refine SL.W.condF ?_ | (refine SL.W.condP (fun h => ?_) (fun h => ?_) <;> (fail_if_success (have : h = trivial := rfl)) <;> (fail_if_success (have : h = not_false := rfl)) <;> first | contradiction | (exfalso; omega) | (exfalso; revert h; simp; done) | skip) | refine SL.W.condB (fun h => ?_) (fun h => ?_)) | (refine SL.TD.is ?_; first | (refine SL.W.dfin ?_; simp only [List.append_nil, List.cons_append, List.nil_append]) | refine SL.W.dpass ?_ | refine SL.W.dpure ?_ | refine SL.W.dload ?_ | refine SL.W.dloadA ?_ | refine SL.W.dfrz ?_ | (refine SL.W.dthaw ?_; simp only [List.append_nil, List.cons_append, List.nil_append]) | (refine SL.W.dguardP (fun h => ?_) (fun h => ?_) <;> (fail_if_success (have : h = trivial := rfl)) <;> (fail_if_success (have : h = not_false := rfl)) <;> first | contradiction | (exfalso; omega) | (exfalso; revert h; simp; done) | skip) | (refine SL.W.dguardB (fun h => ?_) (fun h => ?_) <;> (fail_if_success (have : h = (rfl : true = true) := rfl)) <;> (fail_if_success (have : h = (rfl : false = false) := rfl))) | refine SL.W.done ?_ | refine SL.W.dtwo ?_ ?_ | refine SL.W.dthree ?_ ?_ ?_))
    exact SL.TK.finD Tryz.func121 (SL.Res.none rfl) ⟨rfl, rfl⟩ (by rw [show srt [] = [] from by simp [srt]]; exact EntD.refl)
  · refine SL.TK.ownPos (e := 25) (sz := 1) (a := a) (by first | ((repeat (first | exact SL.Pick.head | apply SL.Pick.tail)); done) | fail) (by omega) (fun bk ex ea e1 e2 e3 => ?_)
    subst ea
    have hp := Lib.hid fun (lim : Int) h1 h2 => hpdq bk cap lim ex xs hx e3 h1 h2
    have hE := Lib.hid (And.intro e1 e2)
    clear hpdq e1 e2
    repeat' (first | (refine SL.TO.is ?_; first | (refine SL.W.quick ?_; first | refine SL.W.pass ?_ | refine SL.W.pv ?_ | refine SL.W.pv0 ?_) | (refine SL.TO.door (o := ⟨_, .call _, _, _, _, _⟩) ?_; first | (refine SL.TO.door (o := ⟨_, .call ⟨.value (.func 128), _, _⟩, _, _, _, _⟩) ?_; first | (refine SL.W.call (hlen) ?_; rintro _ _ ⟨v, h1, h2, rfl, rfl⟩; try simp only [List.cons_append, List.nil_append])) | (refine SL.TO.door (o := ⟨_, .call ⟨.value (.func 127), _, _⟩, _, _, _, _⟩) ?_; first | (refine SL.W.call (hp.out _ h1 h2) ?_; rintro _ _ ⟨rfl, ys, h3, h4, rfl⟩; try simp only [List.cons_append, List.nil_append]))) | refine SL.TO.nil ?_ | (refine SL.TO.nilD ?_; simp only [SL.setB]) | refine SL.W.pass ?_ | refine SL.W.pass0 ?_ | (refine SL.W.pure ?_; first | refine SL.W.pv ?_ | refine SL.W.pv0 ?_) | (refine SL.W.loud ?_; first | refine SL.W.load ?_ | refine SL.W.loadA ?_ | refine SL.W.store ?_ | refine SL.W.storeA ?_ | (refine SL.W.box ?_; intro b) | (refine SL.W.alloc ?_; intro b) | (refine SL.W.buildSlice ?_; intro b) | (refine SL.W.append ?_; intro a cap) | refine SL.W.bytesToStr ?_ | refine SL.W.pvn (SL.PV.toIntC (by rfl) (by first | exact SL.wrap_i64 (by omega) | exact SL.wrap_u8 (by omega) | exact SL.wrap_u32 (by omega) | exact SL.wrap_u64 (by omega) | rfl)) ?_ | (refine SL.W.makeSlice ?_; intro b)) | (refine SL.W.guardP (fun h => ?_) (fun h => ?_) <;> (fail_if_success (have : h = trivial := rfl)) <;> (fail_if_success (have : h = not_false := rfl)) <;> first | contradiction | (exfalso; omega) | (exfalso; revert h; simp; done) | skip) | (refine SL.W.guardB (fun h => ?_) (fun h => ?_) <;> (fail_if_success (have : h = (rfl : true = true) := rfl)) <;> (fail_if_success (have : h = (rfl : false = false) := rfl)))) | (refine SL.TK.is ?_; first | refine SL.TK.seq ?_ | refine SL.TK.region ?_ | refine SL.TK.regionD SL.mixed (by simp only [SL.falses] <;> rfl) ?_ | refine SL.TK.block ?_ | refine SL.TK.inBlock ?_ | refine SL.TK.skip ?_ | refine SL.TK.scope ?_ | refine SL.TK.inScope ?_ | refine SL.TK.label ?_ | (refine SL.TK.isExit ?_; refine SL.W.exit ?_) | refine SL.W.condT ?_ | refine SL.W.condF ?_ | (refine SL.W.condP (fun h => ?_) (fun h => ?_) <;> (fail_if_success (have : h = trivial := rfl)) <;> (fail_if_success (have : h = not_false := rfl)) <;> first | contradiction | (exfalso; omega) | (exfalso; revert h; simp; done) | skip) | refine SL.W.condB (fun h => ?_) (fun h => ?_)) | (refine SL.TD.is ?_; first | (refine SL.W.dfin ?_; simp only [List.append_nil, List.cons_append, List.nil_append]) | refine SL.W.dpass ?_ | refine SL.W.dpure ?_ | refine SL.W.dload ?_ | refine SL.W.dloadA ?_ | refine SL.W.dfrz ?_ | (refine SL.W.dthaw ?_; simp only [List.append_nil, List.cons_append, List.nil_append]) | (refine SL.W.dguardP (fun h => ?_) (fun h => ?_) <;> (fail_if_success (have : h = trivial := rfl)) <;> (fail_if_success (have : h = not_false := rfl)) <;> first | contradiction | (exfalso; omega) | (exfalso; revert h; simp; done) | skip) | (refine SL.W.dguardB (fun h => ?_) (fun h => ?_) <;> (fail_if_success (have : h = (rfl : true = true) := rfl)) <;> (fail_if_success (have : h = (rfl : false = false) := rfl))) | refine SL.W.done ?_ | refine SL.W.dtwo ?_ ?_ | refine SL.W.dthree ?_ ?_ ?_))
    have e : ys = srt xs := srt_of h3 h4
    subst e
    refine SL.TK.finD Tryz.func121 (SL.Res.none rfl) (L' := [own 25 1 (some ⟨bk, 0, none⟩) xs.length cap ((srt xs).map iv)]) ⟨rfl, rfl⟩ (EntD.frm (by first | ((repeat (first | exact SL.Frm.nil | exact SL.Frm.refl | (apply SL.Frm.cons; repeat (first | exact SL.Pick.head | apply SL.Pick.tail)))); done) | fail) (own_of_blk ?_ ?_ e3) EntD.nil)
    · simp [srt_length]
    · have := hE.out.2
      simp only [List.length_append, List.length_map, srt_length] at this ⊢
      exact this
end SL
end
section
set_option linter.unusedVariables false
set_option linter.unusedSimpArgs false
set_option maxRecDepth 10000
namespace SL
open Go Go.Proofs Go.RowKit
noncomputable abbrev seqAs : Code := asOf (loopAt Tryz.f126 0)
noncomputable abbrev seqBd : Code := bdOf (loopAt Tryz.f126 0)
def seqJ (l m sb : Nat) (tmps : Array Value) (done : List Int) : HProp := SL.ex fun s : Option Addr × Nat =>
  seps [lpr l .ready none 126 tmps #[7] seqAs seqBd m, mk m, SL.blk sb 121 [.slice s.1 done.length s.2], own 25 1 s.1 done.length s.2 (done.map iv)]
theorem seqJ_intro {l m sb k c : Nat} {a : Option Addr} {tmps : Array Value} {done : List Int} (hk : k = done.length) :
    ∀ h, seps [lpr l .ready none 126 tmps #[7] seqAs seqBd m, mk m, SL.blk sb 121 [.slice a k c], own 25 1 a k c (done.map iv)] h → seqJ l m sb tmps done h := fun h x => by
  subst hk
  exact ⟨(a, c), x⟩
attribute [local irreducible] SL.TK SL.TO SL.TD SL.PV SL.Pick SL.Frm SL.Ent SL.Sub SL.EvAll SL.seps SL.sep SL.Cut SL.PutAt SL.blk SL.EvP SL.Fill SL.Src SL.EntD SL.own SL.ex SL.fact SL.orig
theorem seq_round (l m sb : Nat) (tmps : Array Value) (hg : Agree Tryz.f126.ntmps [(2, .pointer (some ⟨sb, 0, none⟩))] ⟨tmps, []⟩) (done : List Int) (x : Int) (hd : done.length < 1000000) :
    Yld Tryz.prog l [iv x] [seqJ l m sb tmps done] (fun r L => r = .bool true ∧ L = [seqJ l m sb tmps (done ++ [x])]) := by
  refine Yld.openEx ex_open (fun s => ?_)
  obtain ⟨s1, s2⟩ := s
  refine Yld.of_TK (ps := [7]) (by first | ((repeat (first | exact SL.Pick.head | apply SL.Pick.tail)); done) | fail) rfl hg (by rfl) rfl ?_
  simp only [List.zip_cons_cons, List.zip_nil_right, parE]
  obtain ⟨N, hN⟩ : ∃ N, N = done.length := ⟨_, rfl⟩
  rw [← hN] at hd ⊢
  unfold iv
  repeat' (first | (refine SL.TO.is ?_; first | refine SL.TO.nil ?_ | (refine SL.TO.nilD ?_; simp only [SL.setB]) | refine SL.W.pass ?_ | refine SL.W.pass0 ?_ | (refine SL.W.pure ?_; first | refine SL.W.pv ?_ | refine SL.W.pv0 ?_) | (refine SL.W.loud ?_; first | refine SL.W.load ?_ | refine SL.W.loadA ?_ | refine SL.W.store ?_ | refine SL.W.storeA ?_ | (refine SL.W.box ?_; intro b) | (refine SL.W.alloc ?_; intro b) | (refine SL.W.buildSlice ?_; intro b) | (refine SL.W.append ?_; intro a cap) | refine SL.W.bytesToStr ?_ | refine SL.W.pvn (SL.PV.toIntC (by rfl) (by first | exact SL.wrap_i64 (by omega) | exact SL.wrap_u8 (by omega) | exact SL.wrap_u32 (by omega) | exact SL.wrap_u64 (by omega) | rfl)) ?_ | (refine SL.W.makeSlice ?_; intro b)) | (refine SL.W.guardP (fun h => ?_) (fun h => ?_) <;> (fail_if_success (have : h = trivial := rfl)) <;> (fail_if_success (have : h = not_false := rfl)) <;> first | contradiction | (exfalso; omega) | (exfalso; revert h; simp; done) | skip) | (refine SL.W.guardB (fun h => ?_) (fun h => ?_) <;> (fail_if_success (have : h = (rfl : true = true) := rfl)) <;> (fail_if_success (have : h = (rfl : false = false) := rfl)))) | (refine SL.TK.is ?_; first | refine SL.TK.beginRound (by first | ((repeat (first | exact SL.Pick.head | apply SL.Pick.tail)); done) | fail) ?_ | refine SL.TK.seq ?_ | refine SL.TK.region ?_ | refine SL.TK.regionD SL.mixed (by simp only [SL.falses] <;> rfl) ?_ | refine SL.TK.block ?_ | refine SL.TK.inBlock ?_ | refine SL.TK.skip ?_ | refine SL.TK.scope ?_ | refine SL.TK.inScope ?_ | refine SL.TK.label ?_ | refine SL.W.exit ?_ | refine SL.W.condT ?_ | refine SL.W.condF ?_ | (refine SL.W.condP (fun h => ?_) (fun h => ?_) <;> (fail_if_success (have : h = trivial := rfl)) <;> (fail_if_success (have : h = not_false := rfl)) <;> first | contradiction | (exfalso; omega) | (exfalso; revert h; simp; done) | skip) | refine SL.W.condB (fun h => ?_) (fun h => ?_)) | (refine SL.TD.is ?_; first | (refine SL.W.dfin ?_; simp only [List.append_nil, List.cons_append, List.nil_append]) | refine SL.W.dpass ?_ | refine SL.W.dpure ?_ | refine SL.W.dload ?_ | refine SL.W.dloadA ?_ | refine SL.W.dfrz ?_ | (refine SL.W.dthaw ?_; simp only [List.append_nil, List.cons_append, List.nil_append]) | (refine SL.W.dguardP (fun h => ?_) (fun h => ?_) <;> (fail_if_success (have : h = trivial := rfl)) <;> (fail_if_success (have : h = not_false := rfl)) <;> first | contradiction | (exfalso; omega) | (exfalso; revert h; simp; done) | skip) | (refine SL.W.dguardB (fun h => ?_) (fun h => ?_) <;> (fail_if_success (have : h = (rfl : true = true) := rfl)) <;> (fail_if_success (have : h = (rfl : false = false) := rfl))) | refine SL.W.done ?_ | refine SL.W.dtwo ?_ ?_ | refine SL.W.dthree ?_ ?_ ?_))
  have e : (done ++ [x]).map iv = List.map (fun i => Value.int .u32 i) done ++ [.int .u32 x] := by simp [iv]
  have hI := seqJ_intro (l := l) (m := m) (sb := sb) (tmps := tmps) (a := a) (c := cap) (k := N + 1) (done := done ++ [x]) (by simp [hN])
  rw [e] at hI
  exact SL.TK.endRound (by first | ((repeat (first | exact SL.Pick.head | apply SL.Pick.tail)); done) | fail) ⟨rfl, rfl⟩ (EntD.frm (by first | ((repeat (first | exact SL.Frm.nil | exact SL.Frm.refl | (apply SL.Frm.cons; repeat (first | exact SL.Pick.head | apply SL.Pick.tail)))); done) | fail) hI EntD.nil)
theorem appendSeq_spec {fx : Nat} {first cap : List Value} {args : Value → List Value} {ow ow' : HProp} {Ok : List Int → Int → Prop} {Φ : List Int → Prop} (hargs : args = fun y => first ++ [y] ++ cap)
    (hit : Iter Tryz.prog fx args (fun x => [iv x]) ow ow' Ok Φ) (hok : ∀ done x, Ok done x → done.length < 1000000) :
    Spec Tryz.prog 126 [.slice none 0 0, .func (.func fx) first.toArray cap.toArray] [ow]
      (fun r L => ∃ a c ks, Φ ks ∧ r = .slice a ks.length c ∧ L = [ow', own 25 1 a ks.length c (ks.map iv)]) := by
  refine SL.Spec.of_TK Go.Proofs.Tryz.func126 rfl rfl SL.call126 rfl ?_
  refine SL.TK.entD (L' := [ow, own 25 1 none 0 0 []]) (EntD.of_ent (Ent.cons (by first | ((repeat (first | exact SL.Pick.head | apply SL.Pick.tail)); done) | fail) (Ent.own_nil Ent.refl))) ?_
  repeat' (first | (refine SL.TO.is ?_; first | refine SL.TO.nil ?_ | (refine SL.TO.nilD ?_; simp only [SL.setB]) | refine SL.W.pass ?_ | refine SL.W.pass0 ?_ | (refine SL.W.pure ?_; first | refine SL.W.pv ?_ | refine SL.W.pv0 ?_) | (refine SL.W.loud ?_; first | refine SL.W.load ?_ | refine SL.W.loadA ?_ | refine SL.W.store ?_ | refine SL.W.storeA ?_ | (refine SL.W.box ?_; intro b) | (refine SL.W.alloc ?_; intro b) | (refine SL.W.buildSlice ?_; intro b) | (refine SL.W.append ?_; intro a cap) | refine SL.W.bytesToStr ?_ | refine SL.W.pvn (SL.PV.toIntC (by rfl) (by first | exact SL.wrap_i64 (by omega) | exact SL.wrap_u8 (by omega) | exact SL.wrap_u32 (by omega) | exact SL.wrap_u64 (by omega) | rfl)) ?_ | (refine SL.W.makeSlice ?_; intro b)) | (refine SL.W.guardP (fun h => ?_) (fun h => ?_) <;> (fail_if_success (have : h = trivial := rfl)) <;> (fail_if_success (have : h = not_false := rfl)) <;> first | contradiction | (exfalso; omega) | (exfalso; revert h; simp; done) | skip) | (refine SL.W.guardB (fun h => ?_) (fun h => ?_) <;> (fail_if_success (have : h = (rfl : true = true) := rfl)) <;> (fail_if_success (have : h = (rfl : false = false) := rfl)))) | (refine SL.TK.rf ?_; first | refine SL.TK.rangeFunc (args := args) (by rfl) hargs (fun l m tmps hg => ⟨[ow, seqJ l m _ tmps []], [], _, EntD.cons (by first | ((repeat (first | exact SL.Pick.head | apply SL.Pick.tail)); done) | fail) (EntD.frm (by first | ((repeat (first | exact SL.Frm.nil | exact SL.Frm.refl | (apply SL.Frm.cons; repeat (first | exact SL.Pick.head | apply SL.Pick.tail)))); done) | fail) (seqJ_intro rfl) EntD.nil), hit l _ (fun done x h1 => seq_round l m _ tmps (hg.sub (by first | ((repeat (first | exact SL.Sub.nil | refine SL.Sub.cons (by rfl) (by first | rfl | exact SL.int_eq (by omega)) ?_)); done) | fail)) done x (hok done x h1)), ?_⟩)) | (refine SL.TK.is ?_; first | refine SL.TK.seq ?_ | refine SL.TK.region ?_ | refine SL.TK.regionD SL.mixed (by simp only [SL.falses] <;> rfl) ?_ | refine SL.TK.block ?_ | refine SL.TK.inBlock ?_ | refine SL.TK.skip ?_ | refine SL.TK.scope ?_ | refine SL.TK.inScope ?_ | refine SL.TK.label ?_ | refine SL.W.exit ?_ | refine SL.W.condT ?_ | refine SL.W.condF ?_ | (refine SL.W.condP (fun h => ?_) (fun h => ?_) <;> (fail_if_success (have : h = trivial := rfl)) <;> (fail_if_success (have : h = not_false := rfl)) <;> first | contradiction | (exfalso; omega) | (exfalso; revert h; simp; done) | skip) | refine SL.W.condB (fun h => ?_) (fun h => ?_)) | (refine SL.TD.is ?_; first | (refine SL.W.dfin ?_; simp only [List.append_nil, List.cons_append, List.nil_append]) | refine SL.W.dpass ?_ | refine SL.W.dpure ?_ | refine SL.W.dload ?_ | refine SL.W.dloadA ?_ | refine SL.W.dfrz ?_ | (refine SL.W.dthaw ?_; simp only [List.append_nil, List.cons_append, List.nil_append]) | (refine SL.W.dguardP (fun h => ?_) (fun h => ?_) <;> (fail_if_success (have : h = trivial := rfl)) <;> (fail_if_success (have : h = not_false := rfl)) <;> first | contradiction | (exfalso; omega) | (exfalso; revert h; simp; done) | skip) | (refine SL.W.dguardB (fun h => ?_) (fun h => ?_) <;> (fail_if_success (have : h = (rfl : true = true) := rfl)) <;> (fail_if_success (have : h = (rfl : false = false) := rfl))) | refine SL.W.done ?_ | refine SL.W.dtwo ?_ ?_ | refine SL.W.dthree ?_ ?_ ?_))
  rintro v L' ⟨ks, hks, rfl⟩
  unfold seqJ
  refine SL.TK.exC (by first | ((repeat (first | exact SL.Pick.head | apply SL.Pick.tail)); done) | fail) (fun s => SL.TK.sepsC (by first | ((repeat (first | exact SL.Pick.head | apply SL.Pick.tail)); done) | fail) ?_)
  obtain ⟨s1, s2⟩ := s
  simp only [List.cons_append, List.nil_append, List.append_nil]
  refine SL.TK.endRange (by first | ((repeat (first | exact SL.Pick.head | apply SL.Pick.tail)); done) | fail) (by decide) ?_
  repeat' (first | (refine SL.TO.is ?_; first | refine SL.TO.nil ?_ | (refine SL.TO.nilD ?_; simp only [SL.setB]) | refine SL.W.pass ?_ | refine SL.W.pass0 ?_ | (refine SL.W.pure ?_; first | refine SL.W.pv ?_ | refine SL.W.pv0 ?_) | (refine SL.W.loud ?_; first | refine SL.W.load ?_ | refine SL.W.loadA ?_ | refine SL.W.store ?_ | refine SL.W.storeA ?_ | (refine SL.W.box ?_; intro b) | (refine SL.W.alloc ?_; intro b) | (refine SL.W.buildSlice ?_; intro b) | (refine SL.W.append ?_; intro a cap) | refine SL.W.bytesToStr ?_ | refine SL.W.pvn (SL.PV.toIntC (by rfl) (by first | exact SL.wrap_i64 (by omega) | exact SL.wrap_u8 (by omega) | exact SL.wrap_u32 (by omega) | exact SL.wrap_u64 (by omega) | rfl)) ?_ | (refine SL.W.makeSlice ?_; intro b)) | (refine SL.W.guardP (fun h => ?_) (fun h => ?_) <;> (fail_if_success (have : h = trivial := rfl)) <;> (fail_if_success (have : h = not_false := rfl)) <;> first | contradiction | (exfalso; omega) | (exfalso; revert h; simp; done) | skip) | (refine SL.W.guardB (fun h => ?_) (fun h => ?_) <;> (fail_if_success (have : h = (rfl : true = true) := rfl)) <;> (fail_if_success (have : h = (rfl : false = false) := rfl)))) | (refine SL.TK.is ?_; first | refine SL.TK.seq ?_ | refine SL.TK.region ?_ | refine SL.TK.regionD SL.mixed (by simp only [SL.falses] <;> rfl) ?_ | refine SL.TK.block ?_ | refine SL.TK.inBlock ?_ | refine SL.TK.skip ?_ | refine SL.TK.scope ?_ | refine SL.TK.inScope ?_ | refine SL.TK.label ?_ | refine SL.W.exit ?_ | refine SL.W.condT ?_ | refine SL.W.condF ?_ | (refine SL.W.condP (fun h => ?_) (fun h => ?_) <;> (fail_if_success (have : h = trivial := rfl)) <;> (fail_if_success (have : h = not_false := rfl)) <;> first | contradiction | (exfalso; omega) | (exfalso; revert h; simp; done) | skip) | refine SL.W.condB (fun h => ?_) (fun h => ?_)) | (refine SL.TD.is ?_; first | (refine SL.W.dfin ?_; simp only [List.append_nil, List.cons_append, List.nil_append]) | refine SL.W.dpass ?_ | refine SL.W.dpure ?_ | refine SL.W.dload ?_ | refine SL.W.dloadA ?_ | refine SL.W.dfrz ?_ | (refine SL.W.dthaw ?_; simp only [List.append_nil, List.cons_append, List.nil_append]) | (refine SL.W.dguardP (fun h => ?_) (fun h => ?_) <;> (fail_if_success (have : h = trivial := rfl)) <;> (fail_if_success (have : h = not_false := rfl)) <;> first | contradiction | (exfalso; omega) | (exfalso; revert h; simp; done) | skip) | (refine SL.W.dguardB (fun h => ?_) (fun h => ?_) <;> (fail_if_success (have : h = (rfl : true = true) := rfl)) <;> (fail_if_success (have : h = (rfl : false = false) := rfl))) | refine SL.W.done ?_ | refine SL.W.dtwo ?_ ?_ | refine SL.W.dthree ?_ ?_ ?_))
  exact SL.TK.retR (SL.RK.mark (by first | ((repeat (first | exact SL.Pick.head | apply SL.Pick.tail)); done) | fail) (SL.RK.done Tryz.func126 (SL.Res.one rfl (by rfl)) ⟨_, _, ks, hks, rfl, rfl⟩ (EntD.cons (by first | ((repeat (first | exact SL.Pick.head | apply SL.Pick.tail)); done) | fail) (EntD.cons (by first | ((repeat (first | exact SL.Pick.head | apply SL.Pick.tail)); done) | fail) EntD.nil))))
theorem collect_spec {fx : Nat} {first cap : List Value} {args : Value → List Value} {ow ow' : HProp} {Ok : List Int → Int → Prop} {Φ : List Int → Prop} (hargs : args = fun y => first ++ [y] ++ cap)
    (hit : Iter Tryz.prog fx args (fun x => [iv x]) ow ow' Ok Φ) (hok : ∀ done x, Ok done x → done.length < 1000000) :
    Spec Tryz.prog 120 [.func (.func fx) first.toArray cap.toArray] [ow]
      (fun r L => ∃ a c ks, Φ ks ∧ r = .slice a ks.length c ∧ L = [ow', own 25 1 a ks.length c (ks.map iv)]) := by
  have hA := appendSeq_spec hargs hit hok
  refine SL.Spec.of_TK Go.Proofs.Tryz.func120 rfl rfl SL.call120 rfl ?_
  repeat' (first | (refine SL.TO.is ?_; first | (refine SL.TO.door (o := ⟨_, .call ⟨.value (.func 126), _, _⟩, _, _, _, _⟩) ?_; first | (refine SL.W.call (hA) ?_; rintro _ _ ⟨a, c, ks, hks, rfl, rfl⟩; try simp only [List.cons_append, List.nil_append])) | refine SL.TO.nil ?_ | (refine SL.TO.nilD ?_; simp only [SL.setB]) | refine SL.W.pass ?_ | refine SL.W.pass0 ?_ | (refine SL.W.pure ?_; first | refine SL.W.pv ?_ | refine SL.W.pv0 ?_) | (refine SL.W.loud ?_; first | refine SL.W.load ?_ | refine SL.W.loadA ?_ | refine SL.W.store ?_ | refine SL.W.storeA ?_ | (refine SL.W.box ?_; intro b) | (refine SL.W.alloc ?_; intro b) | (refine SL.W.buildSlice ?_; intro b) | (refine SL.W.append ?_; intro a cap) | refine SL.W.bytesToStr ?_ | refine SL.W.pvn (SL.PV.toIntC (by rfl) (by first | exact SL.wrap_i64 (by omega) | exact SL.wrap_u8 (by omega) | exact SL.wrap_u32 (by omega) | exact SL.wrap_u64 (by omega) | rfl)) ?_ | (refine SL.W.makeSlice ?_; intro b)) | (refine SL.W.guardP (fun h => ?_) (fun h => ?_) <;> (fail_if_success (have : h = trivial := rfl)) <;> (fail_if_success (have : h = not_false := rfl)) <;> first | contradiction | (exfalso; omega) | (exfalso; revert h; simp; done) | skip) | (refine SL.W.guardB (fun h => ?_) (fun h => ?_) <;> (fail_if_success (have : h = (rfl : true = true) := rfl)) <;> (fail_if_success (have : h = (rfl : false = false) := rfl)))) | (refine SL.TK.is ?_; first | refine SL.TK.seq ?_ | refine SL.TK.region ?_ | refine SL.TK.regionD SL.mixed (by simp only [SL.falses] <;> rfl) ?_ | refine SL.TK.block ?_ | refine SL.TK.inBlock ?_ | refine SL.TK.skip ?_ | refine SL.TK.scope ?_ | refine SL.TK.inScope ?_ | refine SL.TK.label ?_ | refine SL.W.exit ?_ | refine SL.W.condT ?_ | refine SL.W.condF ?_ | (refine SL.W.condP (fun h => ?_) (fun h => ?_) <;> (fail_if_success (have : h = trivial := rfl)) <;> (fail_if_success (have : h = not_false := rfl)) <;> first | contradiction | (exfalso; omega) | (exfalso; revert h; simp; done) | skip) | refine SL.W.condB (fun h => ?_) (fun h => ?_)) | (refine SL.TD.is ?_; first | (refine SL.W.dfin ?_; simp only [List.append_nil, List.cons_append, List.nil_append]) | refine SL.W.dpass ?_ | refine SL.W.dpure ?_ | refine SL.W.dload ?_ | refine SL.W.dloadA ?_ | refine SL.W.dfrz ?_ | (refine SL.W.dthaw ?_; simp only [List.append_nil, List.cons_append, List.nil_append]) | (refine SL.W.dguardP (fun h => ?_) (fun h => ?_) <;> (fail_if_success (have : h = trivial := rfl)) <;> (fail_if_success (have : h = not_false := rfl)) <;> first | contradiction | (exfalso; omega) | (exfalso; revert h; simp; done) | skip) | (refine SL.W.dguardB (fun h => ?_) (fun h => ?_) <;> (fail_if_success (have : h = (rfl : true = true) := rfl)) <;> (fail_if_success (have : h = (rfl : false = false) := rfl))) | refine SL.W.done ?_ | refine SL.W.dtwo ?_ ?_ | refine SL.W.dthree ?_ ?_ ?_))
  exact SL.TK.retD Tryz.func120 (SL.Res.one rfl (by rfl)) ⟨_, _, ks, hks, rfl, rfl⟩ (EntD.cons (by first | ((repeat (first | exact SL.Pick.head | apply SL.Pick.tail)); done) | fail) (EntD.cons (by first | ((repeat (first | exact SL.Pick.head | apply SL.Pick.tail)); done) | fail) EntD.nil))
theorem sorted_spec {fx : Nat} {first cap : List Value} {args : Value → List Value} {ow ow' : HProp} {Ok : List Int → Int → Prop} {Φ : List Int → Prop} (hargs : args = fun y => first ++ [y] ++ cap) (N : Nat)
    (hsort : ∀ (a : Option Addr) (cap : Nat) (xs : List Int), xs.length ≤ N → Spec Tryz.prog 121 [.slice a xs.length cap] [own 25 1 a xs.length cap (xs.map iv)] (fun r L => r = .tuple #[] ∧ L = [own 25 1 a xs.length cap ((srt xs).map iv)]))
    (hit : Iter Tryz.prog fx args (fun x => [iv x]) ow ow' Ok Φ) (hok : ∀ done x, Ok done x → done.length < 1000000) (hN : ∀ ks, Φ ks → ks.length ≤ N) :
    Spec Tryz.prog 113 [.func (.func fx) first.toArray cap.toArray] [ow]
      (fun r L => ∃ a c ks, Φ ks ∧ r = .slice a ks.length c ∧ L = [ow', own 25 1 a ks.length c ((srt ks).map iv)]) := by
  have hA := collect_spec hargs hit hok
  refine SL.Spec.of_TK Go.Proofs.Tryz.func113 rfl rfl SL.call113 rfl ?_
  repeat' (first | (refine SL.TO.is ?_; first | (refine SL.TO.door (o := ⟨_, .call ⟨.value (.func 120), _, _⟩, _, _, _, _⟩) ?_; first | (refine SL.W.call (hA) ?_; rintro _ _ ⟨a, c, ks, hks, rfl, rfl⟩; try simp only [List.cons_append, List.nil_append])) | (refine SL.TO.door (o := ⟨_, .call ⟨.value (.func 121), _, _⟩, _, _, _, _⟩) ?_; first | (refine SL.W.call (hsort _ _ ks (hN ks hks)) ?_; rintro _ _ ⟨rfl, rfl⟩; try simp only [List.cons_append, List.nil_append])) | refine SL.TO.nil ?_ | (refine SL.TO.nilD ?_; simp only [SL.setB]) | refine SL.W.pass ?_ | refine SL.W.pass0 ?_ | (refine SL.W.pure ?_; first | refine SL.W.pv ?_ | refine SL.W.pv0 ?_) | (refine SL.W.loud ?_; first | refine SL.W.load ?_ | refine SL.W.loadA ?_ | refine SL.W.store ?_ | refine SL.W.storeA ?_ | (refine SL.W.box ?_; intro b) | (refine SL.W.alloc ?_; intro b) | (refine SL.W.buildSlice ?_; intro b) | (refine SL.W.append ?_; intro a cap) | refine SL.W.bytesToStr ?_ | refine SL.W.pvn (SL.PV.toIntC (by rfl) (by first | exact SL.wrap_i64 (by omega) | exact SL.wrap_u8 (by omega) | exact SL.wrap_u32 (by omega) | exact SL.wrap_u64 (by omega) | rfl)) ?_ | (refine SL.W.makeSlice ?_; intro b)) | (refine SL.W.guardP (fun h => ?_) (fun h => ?_) <;> (fail_if_success (have : h = trivial := rfl)) <;> (fail_if_success (have : h = not_false := rfl)) <;> first | contradiction | (exfalso; omega) | (exfalso; revert h; simp; done) | skip) | (refine SL.W.guardB (fun h => ?_) (fun h => ?_) <;> (fail_if_success (have : h = (rfl : true = true) := rfl)) <;> (fail_if_success (have : h = (rfl : false = false) := rfl)))) | (refine SL.TK.is ?_; first | refine SL.TK.seq ?_ | refine SL.TK.region ?_ | refine SL.TK.regionD SL.mixed (by simp only [SL.falses] <;> rfl) ?_ | refine SL.TK.block ?_ | refine SL.TK.inBlock ?_ | refine SL.TK.skip ?_ | refine SL.TK.scope ?_ | refine SL.TK.inScope ?_ | refine SL.TK.label ?_ | refine SL.W.exit ?_ | refine SL.W.condT ?_ | refine SL.W.condF ?_ | (refine SL.W.condP (fun h => ?_) (fun h => ?_) <;> (fail_if_success (have : h = trivial := rfl)) <;> (fail_if_success (have : h = not_false := rfl)) <;> first | contradiction | (exfalso; omega) | (exfalso; revert h; simp; done) | skip) | refine SL.W.condB (fun h => ?_) (fun h => ?_)) | (refine SL.TD.is ?_; first | (refine SL.W.dfin ?_; simp only [List.append_nil, List.cons_append, List.nil_append]) | refine SL.W.dpass ?_ | refine SL.W.dpure ?_ | refine SL.W.dload ?_ | refine SL.W.dloadA ?_ | refine SL.W.dfrz ?_ | (refine SL.W.dthaw ?_; simp only [List.append_nil, List.cons_append, List.nil_append]) | (refine SL.W.dguardP (fun h => ?_) (fun h => ?_) <;> (fail_if_success (have : h = trivial := rfl)) <;> (fail_if_success (have : h = not_false := rfl)) <;> first | contradiction | (exfalso; omega) | (exfalso; revert h; simp; done) | skip) | (refine SL.W.dguardB (fun h => ?_) (fun h => ?_) <;> (fail_if_success (have : h = (rfl : true = true) := rfl)) <;> (fail_if_success (have : h = (rfl : false = false) := rfl))) | refine SL.W.done ?_ | refine SL.W.dtwo ?_ ?_ | refine SL.W.dthree ?_ ?_ ?_))
  exact SL.TK.retD Tryz.func113 (SL.Res.one rfl (by rfl)) ⟨_, _, ks, hks, rfl, rfl⟩ (EntD.cons (by first | ((repeat (first | exact SL.Pick.head | apply SL.Pick.tail)); done) | fail) (EntD.cons (by first | ((repeat (first | exact SL.Pick.head | apply SL.Pick.tail)); done) | fail) EntD.nil))
end SL
end
section
set_option linter.unusedVariables false
set_option linter.unusedSimpArgs false
set_option maxRecDepth 10000
namespace SL
open Go Go.Proofs Go.RowKit
def keyOwn2 (cb mb : Nat) (S : List (Int × Value)) : HProp := seps [SL.blk cb 125 [.map (some mb)], mp (Value.int .u32) mb S]
theorem keyOwn2_intro {cb mb : Nat} {S : List (Int × Value)} : ∀ h, seps [SL.blk cb 125 [.map (some mb)], mp (Value.int .u32) mb S] h → keyOwn2 cb mb S h := fun h x => x
theorem keyOwn2_elim {cb mb : Nat} {S : List (Int × Value)} {L : List HProp} : EntD (keyOwn2 cb mb S :: L) (SL.blk cb 125 [.map (some mb)] :: mp (Value.int .u32) mb S :: L) := EntD.of_ent (Ent.ofSeps (m := [SL.blk cb 125 [.map (some mb)], mp (Value.int .u32) mb S]) Pick.head Ent.refl)
attribute [local irreducible] SL.TK SL.TO SL.TD SL.PV SL.Pick SL.Frm SL.Ent SL.Sub SL.EvAll SL.seps SL.sep SL.Cut SL.PutAt SL.blk SL.EvP SL.Fill SL.Src SL.EntD SL.own SL.ex SL.fact SL.orig
def keyInv2 (l cb mb it : Nat) (S : List (Int × Value)) (J : List Int → HProp) (ρ : Env) (L : List HProp) (m : Nat) : Prop := ∃ done : List Int, done.Nodup ∧ (∀ x ∈ done, x ∈ S.map (·.1)) ∧ m = S.countP (fun p => !done.reverse.contains p.1) ∧
  ρ = [(0, .func (.yield l) #[] #[]), (5, .pointer (some ⟨it, 0, none⟩))] ∧ L = [SL.blk cb 125 [.map (some mb)], mpI (Value.int .u32) mb S (some (it, done.reverse)), J done]
theorem keys_iter2 (cb mb : Nat) (S : List (Int × Value)) (hS : S.length < 1000000) :
    Iter Tryz.prog 122 (fun y => [] ++ [y] ++ [.pointer (some ⟨cb, 0, none⟩)]) (fun x => [iv x]) (keyOwn2 cb mb S) (keyOwn2 cb mb S) (fun done x => done.length < 1000000) (fun ks => ks.Perm (S.map (·.1))) := by
  intro l J hy
  simp only [List.nil_append, List.cons_append]
  refine SL.Spec.of_TK Go.Proofs.Tryz.func122 rfl rfl SL.call122 rfl ?_
  unfold keyOwn2
  refine SL.TK.sepsC (by first | ((repeat (first | exact SL.Pick.head | apply SL.Pick.tail)); done) | fail) ?_
  simp only [List.nil_append, List.cons_append]
  refine SL.TK.mpNodup (by first | ((repeat (first | exact SL.Pick.head | apply SL.Pick.tail)); done) | fail) (fun hnd => ?_)
  have hndH := Lib.hid hnd
  clear hnd
  repeat' (first | (refine SL.TO.is ?_; first | refine SL.TO.nil ?_ | (refine SL.TO.nilD ?_; simp only [SL.setB]) | refine SL.W.pass ?_ | refine SL.W.pass0 ?_ | (refine SL.W.pure ?_; first | refine SL.W.pv ?_ | refine SL.W.pv0 ?_ | refine SL.W.lenMp ?_) | (refine SL.W.loud ?_; first | refine SL.W.load ?_ | refine SL.W.loadA ?_ | refine SL.W.store ?_ | refine SL.W.storeA ?_ | (refine SL.W.box ?_; intro b) | (refine SL.W.alloc ?_; intro b) | (refine SL.W.buildSlice ?_; intro b) | (refine SL.W.append ?_; intro a cap) | refine SL.W.bytesToStr ?_ | refine SL.W.pvn (SL.PV.toIntC (by rfl) (by first | exact SL.wrap_i64 (by omega) | exact SL.wrap_u8 (by omega) | exact SL.wrap_u32 (by omega) | exact SL.wrap_u64 (by omega) | rfl)) ?_ | (refine SL.W.makeSlice ?_; intro b) | refine SL.W.lookupOk ?_ | refine SL.W.lookup ?_ | (refine SL.W.makeMap ?_; intro b) | refine SL.W.mapUpdate ?_ | (refine SL.W.mapEntry ?_; intro stamp) | refine SL.W.entryStore ?_ | (refine SL.W.range ?_; intro it) | refine SL.W.delete ?_) | (refine SL.W.guardP (fun h => ?_) (fun h => ?_) <;> (fail_if_success (have : h = trivial := rfl)) <;> (fail_if_success (have : h = not_false := rfl)) <;> first | contradiction | (exfalso; omega) | (exfalso; revert h; simp; done) | skip) | (refine SL.W.guardB (fun h => ?_) (fun h => ?_) <;> (fail_if_success (have : h = (rfl : true = true) := rfl)) <;> (fail_if_success (have : h = (rfl : false = false) := rfl)))) | (refine SL.TK.lp ?_; first | (refine SL.TK.block ?_; refine SL.TK.loopD (keyInv2 l cb mb it S J) ?_ ⟨[], by simp, by simp, rfl, rfl, rfl⟩ (by first | ((repeat (first | exact SL.Sub.nil | refine SL.Sub.cons (by rfl) (by first | rfl | exact SL.int_eq (by omega)) ?_)); done) | fail) (EntD.cons (by first | ((repeat (first | exact SL.Pick.head | apply SL.Pick.tail)); done) | fail) (EntD.cons (by first | ((repeat (first | exact SL.Pick.head | apply SL.Pick.tail)); done) | fail) (EntD.cons (by first | ((repeat (first | exact SL.Pick.head | apply SL.Pick.tail)); done) | fail) EntD.nil))))) | (refine SL.TK.is ?_; first | refine SL.TK.seq ?_ | refine SL.TK.region ?_ | refine SL.TK.regionD SL.mixed (by simp only [SL.falses] <;> rfl) ?_ | refine SL.TK.block ?_ | refine SL.TK.inBlock ?_ | refine SL.TK.skip ?_ | refine SL.TK.scope ?_ | refine SL.TK.inScope ?_ | refine SL.TK.label ?_ | refine SL.W.exit ?_ | refine SL.W.condT ?_ | refine SL.W.condF ?_ | (refine SL.W.condP (fun h => ?_) (fun h => ?_) <;> (fail_if_success (have : h = trivial := rfl)) <;> (fail_if_success (have : h = not_false := rfl)) <;> first | contradiction | (exfalso; omega) | (exfalso; revert h; simp; done) | skip) | refine SL.W.condB (fun h => ?_) (fun h => ?_)) | (refine SL.TD.is ?_; first | (refine SL.W.dfin ?_; simp only [List.append_nil, List.cons_append, List.nil_append]) | refine SL.W.dpass ?_ | refine SL.W.dpure ?_ | refine SL.W.dload ?_ | refine SL.W.dloadA ?_ | refine SL.W.dfrz ?_ | (refine SL.W.dthaw ?_; simp only [List.append_nil, List.cons_append, List.nil_append]) | (refine SL.W.dguardP (fun h => ?_) (fun h => ?_) <;> (fail_if_success (have : h = trivial := rfl)) <;> (fail_if_success (have : h = not_false := rfl)) <;> first | contradiction | (exfalso; omega) | (exfalso; revert h; simp; done) | skip) | (refine SL.W.dguardB (fun h => ?_) (fun h => ?_) <;> (fail_if_success (have : h = (rfl : true = true) := rfl)) <;> (fail_if_success (have : h = (rfl : false = false) := rfl))) | refine SL.W.done ?_ | refine SL.W.dtwo ?_ ?_ | refine SL.W.dthree ?_ ?_ ?_))
  rintro ρ L m ⟨done, hdn, hdk, rfl, rfl, rfl⟩ ih
  have hdl : done.length < 1000000 := by have := len_le_of hdn hdk; simp at this; omega
  have hD := Lib.hid (And.intro hdn hdk)
  clear hdn hdk
  have hyH := Lib.hid fun (q : Int) => hy done q hdl
  clear hy
  repeat' (first | (refine SL.TO.is ?_; first | refine SL.W.next (fun hend => ?_) (fun q v hqv hqd => ?_) | refine SL.W.entry ?_ | (refine SL.TO.door (o := ⟨_, .call ⟨.value (.tmp _), _, _⟩, _, _, _, _⟩) ?_; first | (refine SL.W.callY (hyH.out _) ?_; rintro _ _ ⟨rfl, rfl⟩; try simp only [List.cons_append, List.nil_append])) | refine SL.TO.nil ?_ | (refine SL.TO.nilD ?_; simp only [SL.setB]) | refine SL.W.pass ?_ | refine SL.W.pass0 ?_ | (refine SL.W.pure ?_; first | refine SL.W.pv ?_ | refine SL.W.pv0 ?_ | refine SL.W.lenMp ?_) | (refine SL.W.loud ?_; first | refine SL.W.load ?_ | refine SL.W.loadA ?_ | refine SL.W.store ?_ | refine SL.W.storeA ?_ | (refine SL.W.box ?_; intro b) | (refine SL.W.alloc ?_; intro b) | (refine SL.W.buildSlice ?_; intro b) | (refine SL.W.append ?_; intro a cap) | refine SL.W.bytesToStr ?_ | refine SL.W.pvn (SL.PV.toIntC (by rfl) (by first | exact SL.wrap_i64 (by omega) | exact SL.wrap_u8 (by omega) | exact SL.wrap_u32 (by omega) | exact SL.wrap_u64 (by omega) | rfl)) ?_ | (refine SL.W.makeSlice ?_; intro b) | refine SL.W.lookupOk ?_ | refine SL.W.lookup ?_ | (refine SL.W.makeMap ?_; intro b) | refine SL.W.mapUpdate ?_ | (refine SL.W.mapEntry ?_; intro stamp) | refine SL.W.entryStore ?_ | (refine SL.W.range ?_; intro it) | refine SL.W.delete ?_) | (refine SL.W.guardP (fun h => ?_) (fun h => ?_) <;> (fail_if_success (have : h = trivial := rfl)) <;> (fail_if_success (have : h = not_false := rfl)) <;> first | contradiction | (exfalso; omega) | (exfalso; revert h; simp; done) | skip) | (refine SL.W.guardB (fun h => ?_) (fun h => ?_) <;> (fail_if_success (have : h = (rfl : true = true) := rfl)) <;> (fail_if_success (have : h = (rfl : false = false) := rfl)))) | (refine SL.TK.is ?_; first | refine SL.TK.seq ?_ | refine SL.TK.region ?_ | refine SL.TK.regionD SL.mixed (by simp only [SL.falses] <;> rfl) ?_ | refine SL.TK.block ?_ | refine SL.TK.inBlock ?_ | refine SL.TK.skip ?_ | refine SL.TK.scope ?_ | refine SL.TK.inScope ?_ | refine SL.TK.label ?_ | refine SL.W.exit ?_ | refine SL.W.condT ?_ | refine SL.W.condF ?_ | (refine SL.W.condP (fun h => ?_) (fun h => ?_) <;> (fail_if_success (have : h = trivial := rfl)) <;> (fail_if_success (have : h = not_false := rfl)) <;> first | contradiction | (exfalso; omega) | (exfalso; revert h; simp; done) | skip) | refine SL.W.condB (fun h => ?_) (fun h => ?_)) | (refine SL.TD.is ?_; first | (refine SL.W.dfin ?_; simp only [List.append_nil, List.cons_append, List.nil_append]) | refine SL.W.dpass ?_ | refine SL.W.dpure ?_ | refine SL.W.dload ?_ | refine SL.W.dloadA ?_ | refine SL.W.dfrz ?_ | (refine SL.W.dthaw ?_; simp only [List.append_nil, List.cons_append, List.nil_append]) | (refine SL.W.dguardP (fun h => ?_) (fun h => ?_) <;> (fail_if_success (have : h = trivial := rfl)) <;> (fail_if_success (have : h = not_false := rfl)) <;> first | contradiction | (exfalso; omega) | (exfalso; revert h; simp; done) | skip) | (refine SL.W.dguardB (fun h => ?_) (fun h => ?_) <;> (fail_if_success (have : h = (rfl : true = true) := rfl)) <;> (fail_if_success (have : h = (rfl : false = false) := rfl))) | refine SL.W.done ?_ | refine SL.W.dtwo ?_ ?_ | refine SL.W.dthree ?_ ?_ ?_))
  · have hperm : done.Perm (S.map (·.1)) := perm_nodup hD.out.1 hndH.out fun x => ⟨hD.out.2 x, fun hx => by
      obtain ⟨p, hp, rfl⟩ := List.mem_map.1 hx
      simpa using hend p hp⟩
    refine SL.TK.finD Tryz.func122 (SL.Res.none rfl) ⟨done, hperm, rfl⟩ (EntD.trans mpI_done ?_)
    exact EntD.frm (by first | ((repeat (first | exact SL.Frm.nil | exact SL.Frm.refl | (apply SL.Frm.cons; repeat (first | exact SL.Pick.head | apply SL.Pick.tail)))); done) | fail) (keyOwn2_intro (cb := cb) (mb := mb) (S := S)) (EntD.cons (by first | ((repeat (first | exact SL.Pick.head | apply SL.Pick.tail)); done) | fail) EntD.nil)
  · have hq : q ∉ done := by simpa using hqd
    refine SL.TK.againD ih ⟨done ++ [q], ?_, ?_, rfl, rfl, rfl⟩ (by first | ((repeat (first | exact SL.Sub.nil | refine SL.Sub.cons (by rfl) (by first | rfl | exact SL.int_eq (by omega)) ?_)); done) | fail) ?_ ?_
    · exact List.nodup_append.2 ⟨hD.out.1, by simp, fun a ha b hb => by simp at hb; subst hb; exact fun e => hq (e ▸ ha)⟩
    · intro x hx
      rcases List.mem_append.1 hx with hx | hx
      · exact hD.out.2 x hx
      · simp at hx; subst hx; exact List.mem_map.2 ⟨_, hqv, rfl⟩
    · have e : (done ++ [q]).reverse = q :: done.reverse := by simp
      rw [e]
      exact EntD.cons (by first | ((repeat (first | exact SL.Pick.head | apply SL.Pick.tail)); done) | fail) (EntD.cons (by first | ((repeat (first | exact SL.Pick.head | apply SL.Pick.tail)); done) | fail) (EntD.cons (by first | ((repeat (first | exact SL.Pick.head | apply SL.Pick.tail)); done) | fail) EntD.nil))
    · have e : (done ++ [q]).reverse = q :: done.reverse := by simp
      rw [e]
      exact flt_lt hqv hqd
theorem keys_spec2 (mb : Nat) : Spec Tryz.prog 114 [.map (some mb)] [] (fun r L => ∃ cb, r = .func (.func 122) #[] #[.pointer (some ⟨cb, 0, none⟩)] ∧ L = [SL.blk cb 125 [.map (some mb)]]) := by
  refine SL.Spec.of_TK Go.Proofs.Tryz.func114 rfl rfl SL.call114 rfl ?_
  repeat' (first | (refine SL.TO.is ?_; first | refine SL.TO.nil ?_ | (refine SL.TO.nilD ?_; simp only [SL.setB]) | refine SL.W.pass ?_ | refine SL.W.pass0 ?_ | (refine SL.W.pure ?_; first | refine SL.W.pv ?_ | refine SL.W.pv0 ?_ | refine SL.W.lenMp ?_) | (refine SL.W.loud ?_; first | refine SL.W.load ?_ | refine SL.W.loadA ?_ | refine SL.W.store ?_ | refine SL.W.storeA ?_ | (refine SL.W.box ?_; intro b) | (refine SL.W.alloc ?_; intro b) | (refine SL.W.buildSlice ?_; intro b) | (refine SL.W.append ?_; intro a cap) | refine SL.W.bytesToStr ?_ | refine SL.W.pvn (SL.PV.toIntC (by rfl) (by first | exact SL.wrap_i64 (by omega) | exact SL.wrap_u8 (by omega) | exact SL.wrap_u32 (by omega) | exact SL.wrap_u64 (by omega) | rfl)) ?_ | (refine SL.W.makeSlice ?_; intro b) | refine SL.W.lookupOk ?_ | refine SL.W.lookup ?_ | (refine SL.W.makeMap ?_; intro b) | refine SL.W.mapUpdate ?_ | (refine SL.W.mapEntry ?_; intro stamp) | refine SL.W.entryStore ?_ | (refine SL.W.range ?_; intro it) | refine SL.W.delete ?_) | (refine SL.W.guardP (fun h => ?_) (fun h => ?_) <;> (fail_if_success (have : h = trivial := rfl)) <;> (fail_if_success (have : h = not_false := rfl)) <;> first | contradiction | (exfalso; omega) | (exfalso; revert h; simp; done) | skip) | (refine SL.W.guardB (fun h => ?_) (fun h => ?_) <;> (fail_if_success (have : h = (rfl : true = true) := rfl)) <;> (fail_if_success (have : h = (rfl : false = false) := rfl)))) | (refine SL.TK.is ?_; first | refine SL.TK.seq ?_ | refine SL.TK.region ?_ | refine SL.TK.regionD SL.mixed (by simp only [SL.falses] <;> rfl) ?_ | refine SL.TK.block ?_ | refine SL.TK.inBlock ?_ | refine SL.TK.skip ?_ | refine SL.TK.scope ?_ | refine SL.TK.inScope ?_ | refine SL.TK.label ?_ | refine SL.W.exit ?_ | refine SL.W.condT ?_ | refine SL.W.condF ?_ | (refine SL.W.condP (fun h => ?_) (fun h => ?_) <;> (fail_if_success (have : h = trivial := rfl)) <;> (fail_if_success (have : h = not_false := rfl)) <;> first | contradiction | (exfalso; omega) | (exfalso; revert h; simp; done) | skip) | refine SL.W.condB (fun h => ?_) (fun h => ?_)) | (refine SL.TD.is ?_; first | (refine SL.W.dfin ?_; simp only [List.append_nil, List.cons_append, List.nil_append]) | refine SL.W.dpass ?_ | refine SL.W.dpure ?_ | refine SL.W.dload ?_ | refine SL.W.dloadA ?_ | refine SL.W.dfrz ?_ | (refine SL.W.dthaw ?_; simp only [List.append_nil, List.cons_append, List.nil_append]) | (refine SL.W.dguardP (fun h => ?_) (fun h => ?_) <;> (fail_if_success (have : h = trivial := rfl)) <;> (fail_if_success (have : h = not_false := rfl)) <;> first | contradiction | (exfalso; omega) | (exfalso; revert h; simp; done) | skip) | (refine SL.W.dguardB (fun h => ?_) (fun h => ?_) <;> (fail_if_success (have : h = (rfl : true = true) := rfl)) <;> (fail_if_success (have : h = (rfl : false = false) := rfl))) | refine SL.W.done ?_ | refine SL.W.dtwo ?_ ?_ | refine SL.W.dthree ?_ ?_ ?_))
  exact SL.TK.retD Tryz.func114 (SL.Res.one rfl (by rfl)) ⟨_, rfl, rfl⟩ (EntD.cons (by first | ((repeat (first | exact SL.Pick.head | apply SL.Pick.tail)); done) | fail) EntD.nil)
theorem sortedKeys2 (N : Nat) (hN : N < 1000000)
    (hsort : ∀ (a : Option Addr) (cap : Nat) (xs : List Int), xs.length ≤ N → Spec Tryz.prog 121 [.slice a xs.length cap] [own 25 1 a xs.length cap (xs.map iv)] (fun r L => r = .tuple #[] ∧ L = [own 25 1 a xs.length cap ((srt xs).map iv)]))
    (cb mb : Nat) (S : List (Int × Value)) (hS : S.length ≤ N) :
    Spec Tryz.prog 113 [.func (.func 122) #[] #[.pointer (some ⟨cb, 0, none⟩)]] [SL.blk cb 125 [.map (some mb)], mp (Value.int .u32) mb S]
      (fun r L => ∃ a c, r = .slice a S.length c ∧ L = [mp (Value.int .u32) mb S, own 25 1 a S.length c ((srt (S.map (·.1))).map iv)]) := by
  have h := sorted_spec (first := []) (cap := [.pointer (some ⟨cb, 0, none⟩)]) rfl N hsort (keys_iter2 cb mb S (by omega)) (fun done x h => h) (fun ks h => by rw [h.length_eq]; simpa using hS)
  refine SL.Spec.postD (SL.Spec.preD h (EntD.frm (by first | ((repeat (first | exact SL.Frm.nil | exact SL.Frm.refl | (apply SL.Frm.cons; repeat (first | exact SL.Pick.head | apply SL.Pick.tail)))); done) | fail) (keyOwn2_intro (cb := cb) (mb := mb) (S := S)) EntD.nil)) ?_
  rintro v L ⟨a, c, ks, hks, rfl, rfl⟩
  have hl : ks.length = S.length := by rw [hks.length_eq]; simp
  rw [srt_congr hks, hl]
  exact ⟨_, ⟨a, c, rfl, rfl⟩, EntD.trans keyOwn2_elim (EntD.cons (by first | ((repeat (first | exact SL.Pick.head | apply SL.Pick.tail)); done) | fail) (EntD.cons (by first | ((repeat (first | exact SL.Pick.head | apply SL.Pick.tail)); done) | fail) EntD.nil))⟩
end SL
end
section
set_option linter.unusedVariables false
set_option linter.unusedSimpArgs false
set_option maxRecDepth 10000
namespace SL.Lz
open Go Go.Proofs Go.RowKit
abbrev As2 := List (Int × Int)
def lkp (q : Int) : As2 → Option Int
  | [] => none
  | p :: l => if p.1 = q then some p.2 else lkp q l
def iup (q v : Int) : As2 → As2
  | [] => [(q, v)]
  | p :: l => if p.1 = q then (q, v) :: l else p :: iup q v l
def idl (q : Int) : As2 → As2
  | [] => []
  | p :: l => if p.1 = q then l else p :: idl q l
def pv (T : As2) : List (Int × Value) := T.map fun p => (p.1, .int .u64 p.2)
theorem get_pv (q : Int) (T : As2) : get q (pv T) = (lkp q T).map (Value.int .u64) := by
  induction T with
  | nil => rfl
  | cons p T ih =>
    simp only [pv, List.map_cons, get, lkp] at ih ⊢
    split
    · rfl
    · exact ih
theorem upd_pv (q v : Int) (T : As2) : upd q (.int .u64 v) (pv T) = pv (iup q v T) := by
  induction T with
  | nil => rfl
  | cons p T ih =>
    simp only [pv, List.map_cons, upd, iup] at ih ⊢
    split
    · rfl
    · rw [ih]; rfl
theorem del_pv (q : Int) (T : As2) : del q (pv T) = pv (idl q T) := by
  induction T with
  | nil => rfl
  | cons p T ih =>
    simp only [pv, List.map_cons, del, idl] at ih ⊢
    split
    · rfl
    · rw [ih]; rfl
theorem pv_keys (T : As2) : (pv T).map (·.1) = T.map (·.1) := by simp [pv]
theorem pv_length (T : As2) : (pv T).length = T.length := by simp [pv]
theorem lkp_iup (q v x : Int) (T : As2) : lkp x (iup q v T) = if q = x then some v else lkp x T := by
  induction T with
  | nil => simp only [iup, lkp]
  | cons p T ih =>
    simp only [iup]
    by_cases h : p.1 = q
    · rw [if_pos h]
      by_cases e : q = x
      · simp [lkp, e]
      · simp only [lkp, if_neg e]
        rw [if_neg (fun c => e (h.symm.trans c))]
    · rw [if_neg h]
      simp only [lkp, ih]
      by_cases e : p.1 = x
      · rw [if_pos e, if_neg (fun c => h (e.trans c.symm)), if_pos e]
      · simp only [if_neg e]
def LeasesAt (nb : Nat) (T : As2) : HProp := SL.ex fun mb : Nat => seps [SL.blk nb 127 [.map (some mb)], mp (Value.int .u32) mb (pv T)]
section
variable {P : Program} {fid : Fm} {n : Nat} {post : Post} {k : List Item} {ρ : Env} {L L' r : List HProp}
theorem TK.openLs {nb : Nat} {T : As2} (hp : Pick L (LeasesAt nb T) r) (h : ∀ mb, TK P fid n post k ρ (SL.blk nb 127 [.map (some mb)] :: mp (Value.int .u32) mb (pv T) :: r)) : TK P fid n post k ρ L :=
  TK.exC hp fun mb => TK.sepsC Pick.head (h mb)
end
theorem ls_shut {nb mb : Nat} {T : As2} : ∀ h, seps [SL.blk nb 127 [.map (some mb)], mp (Value.int .u32) mb (pv T)] h → LeasesAt nb T h := fun h x => ⟨mb, x⟩
def til (q : Int) (T : As2) : Int := (lkp q T).getD 0
theorem til_get (q : Int) (T : As2) : (get q (pv T)).getD (.int .u64 0) = .int .u64 (til q T) := by rw [get_pv, til]; cases lkp q T <;> rfl
theorem some_get (q : Int) (T : As2) : (get q (pv T)).isSome = (lkp q T).isSome := by rw [get_pv]; cases lkp q T <;> rfl
attribute [local irreducible] SL.TK SL.TO SL.TD SL.PV SL.Pick SL.Frm SL.Ent SL.Sub SL.EvAll SL.seps SL.sep SL.Cut SL.PutAt SL.blk SL.EvP SL.Fill SL.Src SL.EntD SL.own SL.ex SL.fact SL.orig
theorem lsNone_spec (nb mb : Nat) : Spec Tryz.prog 65 [.pointer (some ⟨nb, 0, none⟩)] [SL.blk nb 127 [.map (some mb)]] (fun r L => r = .bool false ∧ L = [SL.blk nb 127 [.map (some mb)]]) := by
  refine SL.Spec.of_TK Go.Proofs.Tryz.func65 rfl rfl SL.call65 rfl ?_
  repeat' (first | (refine SL.TO.is ?_; first | refine SL.TO.nil ?_ | (refine SL.TO.nilD ?_; simp only [SL.setB]) | refine SL.W.pass ?_ | refine SL.W.pass0 ?_ | (refine SL.W.pure ?_; first | refine SL.W.pv ?_ | refine SL.W.pv0 ?_ | refine SL.W.lenMp ?_) | (refine SL.W.loud ?_; first | refine SL.W.load ?_ | refine SL.W.loadA ?_ | refine SL.W.store ?_ | refine SL.W.storeA ?_ | (refine SL.W.box ?_; intro b) | (refine SL.W.alloc ?_; intro b) | (refine SL.W.buildSlice ?_; intro b) | (refine SL.W.append ?_; intro a cap) | refine SL.W.bytesToStr ?_ | refine SL.W.pvn (SL.PV.toIntC (by rfl) (by first | exact SL.wrap_i64 (by omega) | exact SL.wrap_u8 (by omega) | exact SL.wrap_u32 (by omega) | exact SL.wrap_u64 (by omega) | rfl)) ?_ | (refine SL.W.makeSlice ?_; intro b) | refine SL.W.lookupOk ?_ | refine SL.W.lookup ?_ | (refine SL.W.makeMap ?_; intro b) | refine SL.W.mapUpdate ?_ | (refine SL.W.mapEntry ?_; intro stamp) | refine SL.W.entryStore ?_ | (refine SL.W.range ?_; intro it) | refine SL.W.delete ?_) | (refine SL.W.guardP (fun h => ?_) (fun h => ?_) <;> (fail_if_success (have : h = trivial := rfl)) <;> (fail_if_success (have : h = not_false := rfl)) <;> first | contradiction | (exfalso; omega) | (exfalso; revert h; simp; done) | skip) | (refine SL.W.guardB (fun h => ?_) (fun h => ?_) <;> (fail_if_success (have : h = (rfl : true = true) := rfl)) <;> (fail_if_success (have : h = (rfl : false = false) := rfl)))) | (refine SL.TK.is ?_; first | refine SL.TK.seq ?_ | refine SL.TK.region ?_ | refine SL.TK.regionD SL.mixed (by simp only [SL.falses] <;> rfl) ?_ | refine SL.TK.block ?_ | refine SL.TK.inBlock ?_ | refine SL.TK.skip ?_ | refine SL.TK.scope ?_ | refine SL.TK.inScope ?_ | refine SL.TK.label ?_ | refine SL.W.exit ?_ | refine SL.W.condT ?_ | refine SL.W.condF ?_ | (refine SL.W.condP (fun h => ?_) (fun h => ?_) <;> (fail_if_success (have : h = trivial := rfl)) <;> (fail_if_success (have : h = not_false := rfl)) <;> first | contradiction | (exfalso; omega) | (exfalso; revert h; simp; done) | skip) | refine SL.W.condB (fun h => ?_) (fun h => ?_)) | (refine SL.TD.is ?_; first | (refine SL.W.dfin ?_; simp only [List.append_nil, List.cons_append, List.nil_append]) | refine SL.W.dpass ?_ | refine SL.W.dpure ?_ | refine SL.W.dload ?_ | refine SL.W.dloadA ?_ | refine SL.W.dfrz ?_ | (refine SL.W.dthaw ?_; simp only [List.append_nil, List.cons_append, List.nil_append]) | (refine SL.W.dguardP (fun h => ?_) (fun h => ?_) <;> (fail_if_success (have : h = trivial := rfl)) <;> (fail_if_success (have : h = not_false := rfl)) <;> first | contradiction | (exfalso; omega) | (exfalso; revert h; simp; done) | skip) | (refine SL.W.dguardB (fun h => ?_) (fun h => ?_) <;> (fail_if_success (have : h = (rfl : true = true) := rfl)) <;> (fail_if_success (have : h = (rfl : false = false) := rfl))) | refine SL.W.done ?_ | refine SL.W.dtwo ?_ ?_ | refine SL.W.dthree ?_ ?_ ?_))
  all_goals exact SL.TK.retD Tryz.func65 (SL.Res.one rfl (by rfl)) ⟨rfl, rfl⟩ EntD.refl
theorem lsNew0_spec : Spec Tryz.prog 48 [.slice none 0 0] [] (fun r L => ∃ nb, r = .tuple #[.pointer (some ⟨nb, 0, none⟩), .int .i64 0] ∧ L = [LeasesAt nb []]) := by
  refine SL.Spec.of_TK Go.Proofs.Tryz.func48 rfl rfl SL.call48 rfl ?_
  repeat' (first | (refine SL.TO.is ?_; first | refine SL.TO.nil ?_ | (refine SL.TO.nilD ?_; simp only [SL.setB]) | refine SL.W.pass ?_ | refine SL.W.pass0 ?_ | (refine SL.W.pure ?_; first | refine SL.W.pv ?_ | refine SL.W.pv0 ?_ | refine SL.W.lenMp ?_) | (refine SL.W.loud ?_; first | refine SL.W.load ?_ | refine SL.W.loadA ?_ | refine SL.W.store ?_ | refine SL.W.storeA ?_ | (refine SL.W.box ?_; intro b) | (refine SL.W.alloc ?_; intro b) | (refine SL.W.buildSlice ?_; intro b) | (refine SL.W.append ?_; intro a cap) | refine SL.W.bytesToStr ?_ | refine SL.W.pvn (SL.PV.toIntC (by rfl) (by first | exact SL.wrap_i64 (by omega) | exact SL.wrap_u8 (by omega) | exact SL.wrap_u32 (by omega) | exact SL.wrap_u64 (by omega) | rfl)) ?_ | (refine SL.W.makeSlice ?_; intro b) | refine SL.W.lookupOk ?_ | refine SL.W.lookup ?_ | (refine SL.W.makeMap ?_; intro b) | refine SL.W.mapUpdate ?_ | (refine SL.W.mapEntry ?_; intro stamp) | refine SL.W.entryStore ?_ | (refine SL.W.range ?_; intro it) | refine SL.W.delete ?_) | (refine SL.W.guardP (fun h => ?_) (fun h => ?_) <;> (fail_if_success (have : h = trivial := rfl)) <;> (fail_if_success (have : h = not_false := rfl)) <;> first | contradiction | (exfalso; omega) | (exfalso; revert h; simp; done) | skip) | (refine SL.W.guardB (fun h => ?_) (fun h => ?_) <;> (fail_if_success (have : h = (rfl : true = true) := rfl)) <;> (fail_if_success (have : h = (rfl : false = false) := rfl)))) | (refine SL.TK.lp ?_; first | (refine SL.TK.block ?_; refine SL.TK.loopD (fun ρ L m => ∃ nb mb, ρ = [(0, .slice none 0 0), (4, .pointer (some ⟨nb, 0, none⟩)), (13, .int .i64 0), (14, .int .i64 0)] ∧ L = [SL.blk nb 127 [.map (some mb)], mp (Value.int .u32) mb []] ∧ m = 0) ?_ (m0 := 0) ⟨_, _, rfl, rfl, rfl⟩ (by first | ((repeat (first | exact SL.Sub.nil | refine SL.Sub.cons (by rfl) (by first | rfl | exact SL.int_eq (by omega)) ?_)); done) | fail) (EntD.cons (by first | ((repeat (first | exact SL.Pick.head | apply SL.Pick.tail)); done) | fail) (EntD.cons (by first | ((repeat (first | exact SL.Pick.head | apply SL.Pick.tail)); done) | fail) EntD.nil)))) | (refine SL.TK.is ?_; first | refine SL.TK.seq ?_ | refine SL.TK.region ?_ | refine SL.TK.regionD SL.mixed (by simp only [SL.falses] <;> rfl) ?_ | refine SL.TK.block ?_ | refine SL.TK.inBlock ?_ | refine SL.TK.skip ?_ | refine SL.TK.scope ?_ | refine SL.TK.inScope ?_ | refine SL.TK.label ?_ | refine SL.W.exit ?_ | refine SL.W.condT ?_ | refine SL.W.condF ?_ | (refine SL.W.condP (fun h => ?_) (fun h => ?_) <;> (fail_if_success (have : h = trivial := rfl)) <;> (fail_if_success (have : h = not_false := rfl)) <;> first | contradiction | (exfalso; omega) | (exfalso; revert h; simp; done) | skip) | refine SL.W.condB (fun h => ?_) (fun h => ?_)) | (refine SL.TD.is ?_; first | (refine SL.W.dfin ?_; simp only [List.append_nil, List.cons_append, List.nil_append]) | refine SL.W.dpass ?_ | refine SL.W.dpure ?_ | refine SL.W.dload ?_ | refine SL.W.dloadA ?_ | refine SL.W.dfrz ?_ | (refine SL.W.dthaw ?_; simp only [List.append_nil, List.cons_append, List.nil_append]) | (refine SL.W.dguardP (fun h => ?_) (fun h => ?_) <;> (fail_if_success (have : h = trivial := rfl)) <;> (fail_if_success (have : h = not_false := rfl)) <;> first | contradiction | (exfalso; omega) | (exfalso; revert h; simp; done) | skip) | (refine SL.W.dguardB (fun h => ?_) (fun h => ?_) <;> (fail_if_success (have : h = (rfl : true = true) := rfl)) <;> (fail_if_success (have : h = (rfl : false = false) := rfl))) | refine SL.W.done ?_ | refine SL.W.dtwo ?_ ?_ | refine SL.W.dthree ?_ ?_ ?_))
  rintro ρ L m ⟨nb, mb, rfl, rfl, rfl⟩ ih
  clear ih
  repeat' (first | (refine SL.TO.is ?_; first | refine SL.TO.nil ?_ | (refine SL.TO.nilD ?_; simp only [SL.setB]) | refine SL.W.pass ?_ | refine SL.W.pass0 ?_ | (refine SL.W.pure ?_; first | refine SL.W.pv ?_ | refine SL.W.pv0 ?_ | refine SL.W.lenMp ?_) | (refine SL.W.loud ?_; first | refine SL.W.load ?_ | refine SL.W.loadA ?_ | refine SL.W.store ?_ | refine SL.W.storeA ?_ | (refine SL.W.box ?_; intro b) | (refine SL.W.alloc ?_; intro b) | (refine SL.W.buildSlice ?_; intro b) | (refine SL.W.append ?_; intro a cap) | refine SL.W.bytesToStr ?_ | refine SL.W.pvn (SL.PV.toIntC (by rfl) (by first | exact SL.wrap_i64 (by omega) | exact SL.wrap_u8 (by omega) | exact SL.wrap_u32 (by omega) | exact SL.wrap_u64 (by omega) | rfl)) ?_ | (refine SL.W.makeSlice ?_; intro b) | refine SL.W.lookupOk ?_ | refine SL.W.lookup ?_ | (refine SL.W.makeMap ?_; intro b) | refine SL.W.mapUpdate ?_ | (refine SL.W.mapEntry ?_; intro stamp) | refine SL.W.entryStore ?_ | (refine SL.W.range ?_; intro it) | refine SL.W.delete ?_) | (refine SL.W.guardP (fun h => ?_) (fun h => ?_) <;> (fail_if_success (have : h = trivial := rfl)) <;> (fail_if_success (have : h = not_false := rfl)) <;> first | contradiction | (exfalso; omega) | (exfalso; revert h; simp; done) | skip) | (refine SL.W.guardB (fun h => ?_) (fun h => ?_) <;> (fail_if_success (have : h = (rfl : true = true) := rfl)) <;> (fail_if_success (have : h = (rfl : false = false) := rfl)))) | (refine SL.TK.is ?_; first | refine SL.TK.seq ?_ | refine SL.TK.region ?_ | refine SL.TK.regionD SL.mixed (by simp only [SL.falses] <;> rfl) ?_ | refine SL.TK.block ?_ | refine SL.TK.inBlock ?_ | refine SL.TK.skip ?_ | refine SL.TK.scope ?_ | refine SL.TK.inScope ?_ | refine SL.TK.label ?_ | refine SL.W.exit ?_ | refine SL.W.condT ?_ | refine SL.W.condF ?_ | (refine SL.W.condP (fun h => ?_) (fun h => ?_) <;> (fail_if_success (have : h = trivial := rfl)) <;> (fail_if_success (have : h = not_false := rfl)) <;> first | contradiction | (exfalso; omega) | (exfalso; revert h; simp; done) | skip) | refine SL.W.condB (fun h => ?_) (fun h => ?_)) | (refine SL.TD.is ?_; first | (refine SL.W.dfin ?_; simp only [List.append_nil, List.cons_append, List.nil_append]) | refine SL.W.dpass ?_ | refine SL.W.dpure ?_ | refine SL.W.dload ?_ | refine SL.W.dloadA ?_ | refine SL.W.dfrz ?_ | (refine SL.W.dthaw ?_; simp only [List.append_nil, List.cons_append, List.nil_append]) | (refine SL.W.dguardP (fun h => ?_) (fun h => ?_) <;> (fail_if_success (have : h = trivial := rfl)) <;> (fail_if_success (have : h = not_false := rfl)) <;> first | contradiction | (exfalso; omega) | (exfalso; revert h; simp; done) | skip) | (refine SL.W.dguardB (fun h => ?_) (fun h => ?_) <;> (fail_if_success (have : h = (rfl : true = true) := rfl)) <;> (fail_if_success (have : h = (rfl : false = false) := rfl))) | refine SL.W.done ?_ | refine SL.W.dtwo ?_ ?_ | refine SL.W.dthree ?_ ?_ ?_))
  exact SL.TK.retD Tryz.func48 (SL.Res.two rfl (by rfl) (by rfl)) ⟨nb, rfl, rfl⟩ (EntD.frm (by first | ((repeat (first | exact SL.Frm.nil | exact SL.Frm.refl | (apply SL.Frm.cons; repeat (first | exact SL.Pick.head | apply SL.Pick.tail)))); done) | fail) (ls_shut (T := [])) EntD.nil)
theorem lsLive_spec (nb : Nat) (q now : Int) (T : As2) : Spec Tryz.prog 68 [.pointer (some ⟨nb, 0, none⟩), .int .u32 q, .int .u64 now] [LeasesAt nb T] (fun r L => r = .bool (decide (now < til q T)) ∧ L = [LeasesAt nb T]) := by
  have hG := Lib.hid (til_get q T)
  refine SL.Spec.of_TK Go.Proofs.Tryz.func68 rfl rfl SL.call68 rfl ?_
  refine SL.Lz.TK.openLs (by first | ((repeat (first | exact SL.Pick.head | apply SL.Pick.tail)); done) | fail) (fun mb => ?_)
  repeat' (first | (refine SL.TO.is ?_; first | (refine SL.TO.door (o := ⟨_, .call ⟨.value (.func 65), _, _⟩, _, _, _, _⟩) ?_; first | (refine SL.W.call (lsNone_spec _ _) ?_; rintro _ _ ⟨rfl, rfl⟩; try simp only [List.cons_append, List.nil_append])) | (refine SL.TO.door (o := ⟨_, .lookup _ _ _ _, _, _, _, _⟩) ?_; first | (refine SL.W.lookup ?_; refine SL.TO.slot (d := 17) (by rfl) hG.out ?_)) | refine SL.TO.nil ?_ | (refine SL.TO.nilD ?_; simp only [SL.setB]) | refine SL.W.pass ?_ | refine SL.W.pass0 ?_ | (refine SL.W.pure ?_; first | refine SL.W.pv ?_ | refine SL.W.pv0 ?_ | refine SL.W.lenMp ?_) | (refine SL.W.loud ?_; first | refine SL.W.load ?_ | refine SL.W.loadA ?_ | refine SL.W.store ?_ | refine SL.W.storeA ?_ | (refine SL.W.box ?_; intro b) | (refine SL.W.alloc ?_; intro b) | (refine SL.W.buildSlice ?_; intro b) | (refine SL.W.append ?_; intro a cap) | refine SL.W.bytesToStr ?_ | refine SL.W.pvn (SL.PV.toIntC (by rfl) (by first | exact SL.wrap_i64 (by omega) | exact SL.wrap_u8 (by omega) | exact SL.wrap_u32 (by omega) | exact SL.wrap_u64 (by omega) | rfl)) ?_ | (refine SL.W.makeSlice ?_; intro b) | refine SL.W.lookupOk ?_ | refine SL.W.lookup ?_ | (refine SL.W.makeMap ?_; intro b) | refine SL.W.mapUpdate ?_ | (refine SL.W.mapEntry ?_; intro stamp) | refine SL.W.entryStore ?_ | (refine SL.W.range ?_; intro it) | refine SL.W.delete ?_) | (refine SL.W.guardP (fun h => ?_) (fun h => ?_) <;> (fail_if_success (have : h = trivial := rfl)) <;> (fail_if_success (have : h = not_false := rfl)) <;> first | contradiction | (exfalso; omega) | (exfalso; revert h; simp; done) | skip) | (refine SL.W.guardB (fun h => ?_) (fun h => ?_) <;> (fail_if_success (have : h = (rfl : true = true) := rfl)) <;> (fail_if_success (have : h = (rfl : false = false) := rfl)))) | (refine SL.TK.is ?_; first | refine SL.TK.seq ?_ | refine SL.TK.region ?_ | refine SL.TK.regionD SL.mixed (by simp only [SL.falses] <;> rfl) ?_ | refine SL.TK.block ?_ | refine SL.TK.inBlock ?_ | refine SL.TK.skip ?_ | refine SL.TK.scope ?_ | refine SL.TK.inScope ?_ | refine SL.TK.label ?_ | refine SL.W.exit ?_ | refine SL.W.condT ?_ | refine SL.W.condF ?_ | (refine SL.W.condP (fun h => ?_) (fun h => ?_) <;> (fail_if_success (have : h = trivial := rfl)) <;> (fail_if_success (have : h = not_false := rfl)) <;> first | contradiction | (exfalso; omega) | (exfalso; revert h; simp; done) | skip) | refine SL.W.condB (fun h => ?_) (fun h => ?_)) | (refine SL.TD.is ?_; first | (refine SL.W.dfin ?_; simp only [List.append_nil, List.cons_append, List.nil_append]) | refine SL.W.dpass ?_ | refine SL.W.dpure ?_ | refine SL.W.dload ?_ | refine SL.W.dloadA ?_ | refine SL.W.dfrz ?_ | (refine SL.W.dthaw ?_; simp only [List.append_nil, List.cons_append, List.nil_append]) | (refine SL.W.dguardP (fun h => ?_) (fun h => ?_) <;> (fail_if_success (have : h = trivial := rfl)) <;> (fail_if_success (have : h = not_false := rfl)) <;> first | contradiction | (exfalso; omega) | (exfalso; revert h; simp; done) | skip) | (refine SL.W.dguardB (fun h => ?_) (fun h => ?_) <;> (fail_if_success (have : h = (rfl : true = true) := rfl)) <;> (fail_if_success (have : h = (rfl : false = false) := rfl))) | refine SL.W.done ?_ | refine SL.W.dtwo ?_ ?_ | refine SL.W.dthree ?_ ?_ ?_))
  all_goals exact SL.TK.retD Tryz.func68 (SL.Res.one rfl (by rfl)) ⟨rfl, rfl⟩ (EntD.frm (by first | ((repeat (first | exact SL.Frm.nil | exact SL.Frm.refl | (apply SL.Frm.cons; repeat (first | exact SL.Pick.head | apply SL.Pick.tail)))); done) | fail) ls_shut EntD.nil)
def setE (q now : Int) (T : As2) : Int := if 1099511627776 < now then 1 else if (lkp q T).isSome = false ∧ 16 ≤ T.length then 7 else 0
def setT (q now : Int) (T : As2) : As2 := if setE q now T = 0 then iup q (max (til q T) (now + 64)) T else T
theorem lsSet_spec (nb : Nat) (q now : Int) (T : As2) (hnow : 0 ≤ now ∧ now ≤ 18446744073709551615) : Spec Tryz.prog 29 [.pointer (some ⟨nb, 0, none⟩), .int .u32 q, .int .u64 now] [LeasesAt nb T]
    (fun r L => r = .int .i64 (setE q now T) ∧ L = [LeasesAt nb (setT q now T)]) := by
  have hG := Lib.hid (And.intro (til_get q T) (some_get q T))
  obtain ⟨is, his⟩ : ∃ is, is = (lkp q T).isSome := ⟨_, rfl⟩
  have hI := Lib.hid his
  obtain ⟨tl, htl⟩ : ∃ tl, tl = til q T := ⟨_, rfl⟩
  have hTl := Lib.hid htl
  rw [← his, ← htl] at hG
  obtain ⟨n, hn⟩ : ∃ n, n = T.length := ⟨_, rfl⟩
  have hlen : (pv T).length = n := by rw [pv_length, hn]
  have hL := Lib.hid hlen
  have hE : setE q now T = if 1099511627776 < now then 1 else if is = false ∧ 16 ≤ n then 7 else 0 := by rw [setE, ← his, ← hn]
  have hEE := Lib.hid hE
  clear his htl hn hlen hE
  refine SL.Spec.of_TK Go.Proofs.Tryz.func29 rfl rfl SL.call29 rfl ?_
  refine SL.Lz.TK.openLs (by first | ((repeat (first | exact SL.Pick.head | apply SL.Pick.tail)); done) | fail) (fun mb => ?_)
  repeat' (first | (refine SL.W.lenMp ?_; refine SL.TO.slot (d := 31) (by rfl) (v' := .int .i64 n) (by rw [hL.out]) ?_) | (refine SL.TO.is ?_; first | (refine SL.TO.door (o := ⟨_, .call ⟨.value (.func 65), _, _⟩, _, _, _, _⟩) ?_; first | (refine SL.W.call (lsNone_spec _ _) ?_; rintro _ _ ⟨rfl, rfl⟩; try simp only [List.cons_append, List.nil_append])) | (refine SL.TO.door (o := ⟨_, .lookup _ _ _ _, _, _, _, _⟩) ?_; first | (refine SL.W.lookupOk ?_; refine SL.TO.slot (d := 17) (by rfl) (v' := .tuple #[.int .u64 tl, .bool is]) (by rw [hG.out.1, hG.out.2]) ?_)) | refine SL.TO.nil ?_ | (refine SL.TO.nilD ?_; simp only [SL.setB]) | refine SL.W.pass ?_ | refine SL.W.pass0 ?_ | (refine SL.W.pure ?_; first | refine SL.W.pv ?_ | refine SL.W.pv0 ?_ | refine SL.W.lenMp ?_) | (refine SL.W.loud ?_; first | refine SL.W.load ?_ | refine SL.W.loadA ?_ | refine SL.W.store ?_ | refine SL.W.storeA ?_ | (refine SL.W.box ?_; intro b) | (refine SL.W.alloc ?_; intro b) | (refine SL.W.buildSlice ?_; intro b) | (refine SL.W.append ?_; intro a cap) | refine SL.W.bytesToStr ?_ | refine SL.W.pvn (SL.PV.toIntC (by rfl) (by first | exact SL.wrap_i64 (by omega) | exact SL.wrap_u8 (by omega) | exact SL.wrap_u32 (by omega) | exact SL.wrap_u64 (by omega) | rfl)) ?_ | (refine SL.W.makeSlice ?_; intro b) | refine SL.W.lookupOk ?_ | refine SL.W.lookup ?_ | (refine SL.W.makeMap ?_; intro b) | refine SL.W.mapUpdate ?_ | (refine SL.W.mapEntry ?_; intro stamp) | refine SL.W.entryStore ?_ | (refine SL.W.range ?_; intro it) | refine SL.W.delete ?_) | (refine SL.W.guardP (fun h => ?_) (fun h => ?_) <;> (fail_if_success (have : h = trivial := rfl)) <;> (fail_if_success (have : h = not_false := rfl)) <;> first | contradiction | (exfalso; omega) | (exfalso; revert h; simp; done) | skip) | (refine SL.W.guardB (fun h => ?_) (fun h => ?_) <;> (fail_if_success (have : h = (rfl : true = true) := rfl)) <;> (fail_if_success (have : h = (rfl : false = false) := rfl)))) | (refine SL.TK.is ?_; first | refine SL.TK.seq ?_ | refine SL.TK.region ?_ | refine SL.TK.regionD SL.mixed (by simp only [SL.falses] <;> rfl) ?_ | refine SL.TK.block ?_ | refine SL.TK.inBlock ?_ | refine SL.TK.skip ?_ | refine SL.TK.scope ?_ | refine SL.TK.inScope ?_ | refine SL.TK.label ?_ | refine SL.W.exit ?_ | refine SL.W.condT ?_ | refine SL.W.condF ?_ | (refine SL.W.condP (fun h => ?_) (fun h => ?_) <;> (fail_if_success (have : h = trivial := rfl)) <;> (fail_if_success (have : h = not_false := rfl)) <;> first | contradiction | (exfalso; omega) | (exfalso; revert h; simp; done) | skip) | refine SL.W.condB (fun h => ?_) (fun h => ?_)) | (refine SL.TD.is ?_; first | (refine SL.W.dfin ?_; simp only [List.append_nil, List.cons_append, List.nil_append]) | refine SL.W.dpass ?_ | refine SL.W.dpure ?_ | refine SL.W.dload ?_ | refine SL.W.dloadA ?_ | refine SL.W.dfrz ?_ | (refine SL.W.dthaw ?_; simp only [List.append_nil, List.cons_append, List.nil_append]) | (refine SL.W.dguardP (fun h => ?_) (fun h => ?_) <;> (fail_if_success (have : h = trivial := rfl)) <;> (fail_if_success (have : h = not_false := rfl)) <;> first | contradiction | (exfalso; omega) | (exfalso; revert h; simp; done) | skip) | (refine SL.W.dguardB (fun h => ?_) (fun h => ?_) <;> (fail_if_success (have : h = (rfl : true = true) := rfl)) <;> (fail_if_success (have : h = (rfl : false = false) := rfl))) | refine SL.W.done ?_ | refine SL.W.dtwo ?_ ?_ | refine SL.W.dthree ?_ ?_ ?_))
  · have e : setE q now T = 1 := by rw [hEE.out, if_pos (by omega)]
    rw [setT, e, if_neg (by decide)]
    exact SL.TK.retD Tryz.func29 (SL.Res.one rfl (by rfl)) ⟨rfl, rfl⟩ (EntD.frm (by first | ((repeat (first | exact SL.Frm.nil | exact SL.Frm.refl | (apply SL.Frm.cons; repeat (first | exact SL.Pick.head | apply SL.Pick.tail)))); done) | fail) ls_shut EntD.nil)
  · have e : setE q now T = 7 := by rw [hEE.out, if_neg (by omega), if_pos ⟨by simp_all, by omega⟩]
    rw [setT, e, if_neg (by decide)]
    exact SL.TK.retD Tryz.func29 (SL.Res.one rfl (by rfl)) ⟨rfl, rfl⟩ (EntD.frm (by first | ((repeat (first | exact SL.Frm.nil | exact SL.Frm.refl | (apply SL.Frm.cons; repeat (first | exact SL.Pick.head | apply SL.Pick.tail)))); done) | fail) ls_shut EntD.nil)
  · have e : setE q now T = 0 := by rw [hEE.out, if_neg (by omega), if_neg (by rintro ⟨_, hx⟩; omega)]
    rw [setT, e, if_pos rfl, ← hTl.out, upd_pv]
    exact SL.TK.retD Tryz.func29 (SL.Res.one rfl (by rfl)) ⟨rfl, rfl⟩ (EntD.frm (by first | ((repeat (first | exact SL.Frm.nil | exact SL.Frm.refl | (apply SL.Frm.cons; repeat (first | exact SL.Pick.head | apply SL.Pick.tail)))); done) | fail) ls_shut EntD.nil)
  · have e : setE q now T = 0 := by rw [hEE.out, if_neg (by omega), if_neg (by rintro ⟨hx, _⟩; simp_all)]
    rw [setT, e, if_pos rfl, ← hTl.out, upd_pv]
    exact SL.TK.retD Tryz.func29 (SL.Res.one rfl (by rfl)) ⟨rfl, rfl⟩ (EntD.frm (by first | ((repeat (first | exact SL.Frm.nil | exact SL.Frm.refl | (apply SL.Frm.cons; repeat (first | exact SL.Pick.head | apply SL.Pick.tail)))); done) | fail) ls_shut EntD.nil)
end SL.Lz
end
section
set_option linter.unusedVariables false
set_option linter.unusedSimpArgs false
set_option maxRecDepth 10000
namespace SL.Lz
open Go Go.Proofs Go.RowKit
def SortN (N : Nat) : Prop := ∀ (a : Option Addr) (cap : Nat) (xs : List Int), xs.length ≤ N → Spec Tryz.prog 121 [.slice a xs.length cap] [own 25 1 a xs.length cap (xs.map iv)] (fun r L => r = .tuple #[] ∧ L = [own 25 1 a xs.length cap ((srt xs).map iv)])
theorem sort12 : SortN 12 := fun a cap xs hx => sort_of 12 (by omega) (fun bk cap lim ex xs h1 h2 _ _ => pdq_small bk xs.length cap 0 xs.length lim ex xs rfl h2 (by omega) (by omega) (by omega) (by omega)) a cap xs hx
def IterL (P : Program) (f : Nat) (args : Value → List Value) {α : Type} (enc : α → List Value) (lent : HProp) (Ok : List α → α → Prop) (Φ : List α → Prop) : Prop :=
  ∀ (l : Nat) (J : List α → HProp), (∀ done x, Ok done x → Yld P l (enc x) [lent, J done] (fun r L => r = .bool true ∧ L = [lent, J (done ++ [x])])) →
    Spec P f (args (.func (.yield l) #[] #[])) [lent, J []] (fun r L => ∃ ks, Φ ks ∧ L = [lent, J ks])
theorem ex_open1 {α : Type} {A : HProp} {f : α → List HProp} : ∀ h, seps [A, SL.ex fun x => seps (f x)] h → ∃ x, seps (A :: f x) h := by
  rintro h ⟨h1, h2, d, rfl, hA, hB⟩
  obtain ⟨x, hx⟩ := ex_open h2 hB
  exact ⟨x, h1, h2, d, rfl, hA, hx⟩
noncomputable abbrev whAs : Code := asOf (loopAt Tryz.f98 0)
noncomputable abbrev whBd : Code := bdOf (loopAt Tryz.f98 0)
def selC (T : As2) (live : Bool) (now : Int) (ks : List Int) : List Int := ks.filter fun q => decide (now < til q T) == live
def whJ (l m b3 b4 b5 b7 nb : Nat) (tmps : Array Value) (T : As2) (live : Bool) (now : Int) (done : List Int) : HProp := SL.ex fun s : Option Addr × Nat =>
  seps [lpr l .ready none 98 tmps #[11] whAs whBd m, mk m, SL.blk b3 70 [.pointer (some ⟨nb, 0, none⟩)], SL.blk b4 4 [.bool live], SL.blk b5 33 [.int .u64 now],
    SL.blk b7 121 [.slice s.1 (selC T live now done).length s.2], own 25 1 s.1 (selC T live now done).length s.2 ((selC T live now done).map iv)]
theorem whJ_intro {l m b3 b4 b5 b7 nb k c : Nat} {a : Option Addr} {tmps : Array Value} {T : As2} {live : Bool} {now : Int} {done : List Int} (hk : k = (selC T live now done).length) :
    ∀ h, seps [lpr l .ready none 98 tmps #[11] whAs whBd m, mk m, SL.blk b3 70 [.pointer (some ⟨nb, 0, none⟩)], SL.blk b4 4 [.bool live], SL.blk b5 33 [.int .u64 now],
      SL.blk b7 121 [.slice a k c], own 25 1 a k c ((selC T live now done).map iv)] h → whJ l m b3 b4 b5 b7 nb tmps T live now done h := fun h x => by
  subst hk
  exact ⟨(a, c), x⟩
theorem TK.openWh {P : Program} {fid : Fm} {n : Nat} {post : Post} {k : List Item} {ρ : Env} {L r : List HProp} {l m b3 b4 b5 b7 nb : Nat} {tmps : Array Value} {T : As2} {live : Bool} {now : Int} {done : List Int} (hp : Pick L (whJ l m b3 b4 b5 b7 nb tmps T live now done) r)
    (h : ∀ (a : Option Addr) (c : Nat), TK P fid n post k ρ (lpr l .ready none 98 tmps #[11] whAs whBd m :: mk m :: SL.blk b3 70 [.pointer (some ⟨nb, 0, none⟩)] :: SL.blk b4 4 [.bool live] :: SL.blk b5 33 [.int .u64 now] ::
      SL.blk b7 121 [.slice a (selC T live now done).length c] :: own 25 1 a (selC T live now done).length c ((selC T live now done).map iv) :: r)) : TK P fid n post k ρ L :=
  TK.exC hp fun s => TK.sepsC Pick.head (h s.1 s.2)
attribute [local irreducible] SL.TK SL.TO SL.TD SL.PV SL.Pick SL.Frm SL.Ent SL.Sub SL.EvAll SL.seps SL.sep SL.Cut SL.PutAt SL.blk SL.EvP SL.Fill SL.Src SL.EntD SL.own SL.ex SL.fact SL.orig
def cliInv (l nb b0 cap : Nat) (T : As2) (ks : List Int) (ex : List Value) (J : List Int → HProp) (ρ : Env) (L : List HProp) (m : Nat) : Prop := ∃ i : Nat, i ≤ ks.length ∧
  ρ = [(1, .func (.yield l) #[] #[]), (13, .slice (some ⟨b0, 0, none⟩) ks.length cap), (14, .int .i64 ks.length), (15, .int .i64 i)] ∧
  L = [LeasesAt nb T, J (ks.take i), SL.blk b0 25 (ks.map iv ++ ex)] ∧ m = ks.length - i
theorem clients_iter (N : Nat) (hN : N < 1000000) (hsort : SortN N) (nb : Nat) (T : As2) (hT : T.length ≤ N) :
    IterL Tryz.prog 97 (fun y => [.pointer (some ⟨nb, 0, none⟩)] ++ [y] ++ []) (fun x => [iv x]) (LeasesAt nb T) (fun done x => done ++ [x] <+: srt (T.map (·.1))) (fun ks => ks = srt (T.map (·.1))) := by
  intro l J hy
  have hsk (cb mb : Nat) := sortedKeys2 N hN hsort cb mb (pv T) (by rw [pv_length]; exact hT)
  rw [pv_keys, pv_length] at hsk
  obtain ⟨ks, hks⟩ : ∃ ks, ks = srt (T.map (·.1)) := ⟨_, rfl⟩
  have hkl : ks.length = T.length := by rw [hks, srt_length, List.length_map]
  rw [← hks] at hsk hy ⊢
  rw [← hkl] at hsk hT
  have hSK := Lib.hid hsk
  have hY := Lib.hid hy
  clear hsk hsort hkl hks hy
  simp only [List.nil_append, List.cons_append]
  refine SL.Spec.of_TK Go.Proofs.Tryz.func97 rfl rfl SL.call97 rfl ?_
  refine SL.Lz.TK.openLs (by first | ((repeat (first | exact SL.Pick.head | apply SL.Pick.tail)); done) | fail) (fun mb => ?_)
  by_cases h0 : ks.length = 0
  · have he : ks = [] := List.eq_nil_of_length_eq_zero h0
    subst he
    clear hT h0
    repeat' (first | (refine SL.TO.is ?_; first | (refine SL.TO.door (o := ⟨_, .call ⟨.value (.func 65), _, _⟩, _, _, _, _⟩) ?_; first | (refine SL.W.call (lsNone_spec _ _) ?_; rintro _ _ ⟨rfl, rfl⟩; try simp only [List.cons_append, List.nil_append])) | (refine SL.TO.door (o := ⟨_, .call ⟨.value (.func 114), _, _⟩, _, _, _, _⟩) ?_; first | (refine SL.W.call (keys_spec2 _) ?_; rintro _ _ ⟨cb, rfl, rfl⟩; try simp only [List.cons_append, List.nil_append])) | (refine SL.TO.door (o := ⟨_, .call ⟨.value (.func 113), _, _⟩, _, _, _, _⟩) ?_; first | (refine SL.W.call (hSK.out _ _) ?_; rintro _ _ ⟨a, c, rfl, rfl⟩; try simp only [List.cons_append, List.nil_append])) | refine SL.TO.nil ?_ | (refine SL.TO.nilD ?_; simp only [SL.setB]) | refine SL.W.pass ?_ | refine SL.W.pass0 ?_ | (refine SL.W.pure ?_; first | refine SL.W.pv ?_ | refine SL.W.pv0 ?_ | refine SL.W.lenMp ?_) | (refine SL.W.loud ?_; first | refine SL.W.load ?_ | refine SL.W.loadA ?_ | refine SL.W.store ?_ | refine SL.W.storeA ?_ | (refine SL.W.box ?_; intro b) | (refine SL.W.alloc ?_; intro b) | (refine SL.W.buildSlice ?_; intro b) | (refine SL.W.append ?_; intro a cap) | refine SL.W.bytesToStr ?_ | refine SL.W.pvn (SL.PV.toIntC (by rfl) (by first | exact SL.wrap_i64 (by omega) | exact SL.wrap_u8 (by omega) | exact SL.wrap_u32 (by omega) | exact SL.wrap_u64 (by omega) | rfl)) ?_ | (refine SL.W.makeSlice ?_; intro b) | refine SL.W.lookupOk ?_ | refine SL.W.lookup ?_ | (refine SL.W.makeMap ?_; intro b) | refine SL.W.mapUpdate ?_ | (refine SL.W.mapEntry ?_; intro stamp) | refine SL.W.entryStore ?_ | (refine SL.W.range ?_; intro it) | refine SL.W.delete ?_) | (refine SL.W.guardP (fun h => ?_) (fun h => ?_) <;> (fail_if_success (have : h = trivial := rfl)) <;> (fail_if_success (have : h = not_false := rfl)) <;> first | contradiction | (exfalso; omega) | (exfalso; revert h; simp; done) | skip) | (refine SL.W.guardB (fun h => ?_) (fun h => ?_) <;> (fail_if_success (have : h = (rfl : true = true) := rfl)) <;> (fail_if_success (have : h = (rfl : false = false) := rfl)))) | (refine SL.TK.lp ?_; first | (refine SL.TK.block ?_; refine SL.TK.loopD (fun ρ L m => ρ = [(14, .int .i64 0), (15, .int .i64 0)] ∧ L = [SL.blk nb 127 [.map (some mb)], mp (Value.int .u32) mb (pv T), J []] ∧ m = 0) ?_ (m0 := 0) ⟨rfl, rfl, rfl⟩ (by first | ((repeat (first | exact SL.Sub.nil | refine SL.Sub.cons (by rfl) (by first | rfl | exact SL.int_eq (by omega)) ?_)); done) | fail) (EntD.cons (by first | ((repeat (first | exact SL.Pick.head | apply SL.Pick.tail)); done) | fail) (EntD.cons (by first | ((repeat (first | exact SL.Pick.head | apply SL.Pick.tail)); done) | fail) (EntD.cons (by first | ((repeat (first | exact SL.Pick.head | apply SL.Pick.tail)); done) | fail) EntD.nil))))) | (refine SL.TK.is ?_; first | refine SL.TK.seq ?_ | refine SL.TK.region ?_ | refine SL.TK.regionD SL.mixed (by simp only [SL.falses] <;> rfl) ?_ | refine SL.TK.block ?_ | refine SL.TK.inBlock ?_ | refine SL.TK.skip ?_ | refine SL.TK.scope ?_ | refine SL.TK.inScope ?_ | refine SL.TK.label ?_ | refine SL.W.exit ?_ | refine SL.W.condT ?_ | refine SL.W.condF ?_ | (refine SL.W.condP (fun h => ?_) (fun h => ?_) <;> (fail_if_success (have : h = trivial := rfl)) <;> (fail_if_success (have : h = not_false := rfl)) <;> first | contradiction | (exfalso; omega) | (exfalso; revert h; simp; done) | skip) | refine SL.W.condB (fun h => ?_) (fun h => ?_)) | (refine SL.TD.is ?_; first | (refine SL.W.dfin ?_; simp only [List.append_nil, List.cons_append, List.nil_append]) | refine SL.W.dpass ?_ | refine SL.W.dpure ?_ | refine SL.W.dload ?_ | refine SL.W.dloadA ?_ | refine SL.W.dfrz ?_ | (refine SL.W.dthaw ?_; simp only [List.append_nil, List.cons_append, List.nil_append]) | (refine SL.W.dguardP (fun h => ?_) (fun h => ?_) <;> (fail_if_success (have : h = trivial := rfl)) <;> (fail_if_success (have : h = not_false := rfl)) <;> first | contradiction | (exfalso; omega) | (exfalso; revert h; simp; done) | skip) | (refine SL.W.dguardB (fun h => ?_) (fun h => ?_) <;> (fail_if_success (have : h = (rfl : true = true) := rfl)) <;> (fail_if_success (have : h = (rfl : false = false) := rfl))) | refine SL.W.done ?_ | refine SL.W.dtwo ?_ ?_ | refine SL.W.dthree ?_ ?_ ?_))
    rintro ρ L m ⟨rfl, rfl, rfl⟩ ih
    clear ih
    repeat' (first | (refine SL.TO.is ?_; first | refine SL.TO.nil ?_ | (refine SL.TO.nilD ?_; simp only [SL.setB]) | refine SL.W.pass ?_ | refine SL.W.pass0 ?_ | (refine SL.W.pure ?_; first | refine SL.W.pv ?_ | refine SL.W.pv0 ?_ | refine SL.W.lenMp ?_) | (refine SL.W.loud ?_; first | refine SL.W.load ?_ | refine SL.W.loadA ?_ | refine SL.W.store ?_ | refine SL.W.storeA ?_ | (refine SL.W.box ?_; intro b) | (refine SL.W.alloc ?_; intro b) | (refine SL.W.buildSlice ?_; intro b) | (refine SL.W.append ?_; intro a cap) | refine SL.W.bytesToStr ?_ | refine SL.W.pvn (SL.PV.toIntC (by rfl) (by first | exact SL.wrap_i64 (by omega) | exact SL.wrap_u8 (by omega) | exact SL.wrap_u32 (by omega) | exact SL.wrap_u64 (by omega) | rfl)) ?_ | (refine SL.W.makeSlice ?_; intro b) | refine SL.W.lookupOk ?_ | refine SL.W.lookup ?_ | (refine SL.W.makeMap ?_; intro b) | refine SL.W.mapUpdate ?_ | (refine SL.W.mapEntry ?_; intro stamp) | refine SL.W.entryStore ?_ | (refine SL.W.range ?_; intro it) | refine SL.W.delete ?_) | (refine SL.W.guardP (fun h => ?_) (fun h => ?_) <;> (fail_if_success (have : h = trivial := rfl)) <;> (fail_if_success (have : h = not_false := rfl)) <;> first | contradiction | (exfalso; omega) | (exfalso; revert h; simp; done) | skip) | (refine SL.W.guardB (fun h => ?_) (fun h => ?_) <;> (fail_if_success (have : h = (rfl : true = true) := rfl)) <;> (fail_if_success (have : h = (rfl : false = false) := rfl)))) | (refine SL.TK.is ?_; first | refine SL.TK.seq ?_ | refine SL.TK.region ?_ | refine SL.TK.regionD SL.mixed (by simp only [SL.falses] <;> rfl) ?_ | refine SL.TK.block ?_ | refine SL.TK.inBlock ?_ | refine SL.TK.skip ?_ | refine SL.TK.scope ?_ | refine SL.TK.inScope ?_ | refine SL.TK.label ?_ | refine SL.W.exit ?_ | refine SL.W.condT ?_ | refine SL.W.condF ?_ | (refine SL.W.condP (fun h => ?_) (fun h => ?_) <;> (fail_if_success (have : h = trivial := rfl)) <;> (fail_if_success (have : h = not_false := rfl)) <;> first | contradiction | (exfalso; omega) | (exfalso; revert h; simp; done) | skip) | refine SL.W.condB (fun h => ?_) (fun h => ?_)) | (refine SL.TD.is ?_; first | (refine SL.W.dfin ?_; simp only [List.append_nil, List.cons_append, List.nil_append]) | refine SL.W.dpass ?_ | refine SL.W.dpure ?_ | refine SL.W.dload ?_ | refine SL.W.dloadA ?_ | refine SL.W.dfrz ?_ | (refine SL.W.dthaw ?_; simp only [List.append_nil, List.cons_append, List.nil_append]) | (refine SL.W.dguardP (fun h => ?_) (fun h => ?_) <;> (fail_if_success (have : h = trivial := rfl)) <;> (fail_if_success (have : h = not_false := rfl)) <;> first | contradiction | (exfalso; omega) | (exfalso; revert h; simp; done) | skip) | (refine SL.W.dguardB (fun h => ?_) (fun h => ?_) <;> (fail_if_success (have : h = (rfl : true = true) := rfl)) <;> (fail_if_success (have : h = (rfl : false = false) := rfl))) | refine SL.W.done ?_ | refine SL.W.dtwo ?_ ?_ | refine SL.W.dthree ?_ ?_ ?_))
    exact SL.TK.finD Tryz.func97 (SL.Res.none rfl) ⟨[], rfl, rfl⟩ (EntD.frm (by first | ((repeat (first | exact SL.Frm.nil | exact SL.Frm.refl | (apply SL.Frm.cons; repeat (first | exact SL.Pick.head | apply SL.Pick.tail)))); done) | fail) ls_shut (EntD.cons (by first | ((repeat (first | exact SL.Pick.head | apply SL.Pick.tail)); done) | fail) EntD.nil))
  · repeat' (first | (refine SL.TO.is ?_; first | (refine SL.TO.door (o := ⟨_, .call ⟨.value (.func 65), _, _⟩, _, _, _, _⟩) ?_; first | (refine SL.W.call (lsNone_spec _ _) ?_; rintro _ _ ⟨rfl, rfl⟩; try simp only [List.cons_append, List.nil_append])) | (refine SL.TO.door (o := ⟨_, .call ⟨.value (.func 114), _, _⟩, _, _, _, _⟩) ?_; first | (refine SL.W.call (keys_spec2 _) ?_; rintro _ _ ⟨cb, rfl, rfl⟩; try simp only [List.cons_append, List.nil_append])) | (refine SL.TO.door (o := ⟨_, .call ⟨.value (.func 113), _, _⟩, _, _, _, _⟩) ?_; first | (refine SL.W.call (hSK.out _ _) ?_; rintro _ _ ⟨a, c, rfl, rfl⟩; try simp only [List.cons_append, List.nil_append])) | refine SL.TO.nil ?_ | (refine SL.TO.nilD ?_; simp only [SL.setB]) | refine SL.W.pass ?_ | refine SL.W.pass0 ?_ | (refine SL.W.pure ?_; first | refine SL.W.pv ?_ | refine SL.W.pv0 ?_ | refine SL.W.lenMp ?_) | (refine SL.W.loud ?_; first | refine SL.W.load ?_ | refine SL.W.loadA ?_ | refine SL.W.store ?_ | refine SL.W.storeA ?_ | (refine SL.W.box ?_; intro b) | (refine SL.W.alloc ?_; intro b) | (refine SL.W.buildSlice ?_; intro b) | (refine SL.W.append ?_; intro a cap) | refine SL.W.bytesToStr ?_ | refine SL.W.pvn (SL.PV.toIntC (by rfl) (by first | exact SL.wrap_i64 (by omega) | exact SL.wrap_u8 (by omega) | exact SL.wrap_u32 (by omega) | exact SL.wrap_u64 (by omega) | rfl)) ?_ | (refine SL.W.makeSlice ?_; intro b) | refine SL.W.lookupOk ?_ | refine SL.W.lookup ?_ | (refine SL.W.makeMap ?_; intro b) | refine SL.W.mapUpdate ?_ | (refine SL.W.mapEntry ?_; intro stamp) | refine SL.W.entryStore ?_ | (refine SL.W.range ?_; intro it) | refine SL.W.delete ?_) | (refine SL.W.guardP (fun h => ?_) (fun h => ?_) <;> (fail_if_success (have : h = trivial := rfl)) <;> (fail_if_success (have : h = not_false := rfl)) <;> first | contradiction | (exfalso; omega) | (exfalso; revert h; simp; done) | skip) | (refine SL.W.guardB (fun h => ?_) (fun h => ?_) <;> (fail_if_success (have : h = (rfl : true = true) := rfl)) <;> (fail_if_success (have : h = (rfl : false = false) := rfl)))) | (refine SL.TK.lp ?_; first | (refine SL.TK.block ?_; refine SL.TK.ownPos (e := 25) (sz := 1) (a := a) (by first | ((repeat (first | exact SL.Pick.head | apply SL.Pick.tail)); done) | fail) (by omega) (fun b0 ex ea e1 e2 e3 => ?_); subst ea; refine SL.TK.loopD (cliInv l nb b0 c T ks ex J) ?_ ⟨0, Nat.zero_le _, rfl, rfl, rfl⟩ (by first | ((repeat (first | exact SL.Sub.nil | refine SL.Sub.cons (by rfl) (by first | rfl | exact SL.int_eq (by omega)) ?_)); done) | fail) (EntD.frm (by first | ((repeat (first | exact SL.Frm.nil | exact SL.Frm.refl | (apply SL.Frm.cons; repeat (first | exact SL.Pick.head | apply SL.Pick.tail)))); done) | fail) ls_shut (EntD.cons (by first | ((repeat (first | exact SL.Pick.head | apply SL.Pick.tail)); done) | fail) (EntD.cons (by first | ((repeat (first | exact SL.Pick.head | apply SL.Pick.tail)); done) | fail) EntD.nil))))) | (refine SL.TK.is ?_; first | refine SL.TK.seq ?_ | refine SL.TK.region ?_ | refine SL.TK.regionD SL.mixed (by simp only [SL.falses] <;> rfl) ?_ | refine SL.TK.block ?_ | refine SL.TK.inBlock ?_ | refine SL.TK.skip ?_ | refine SL.TK.scope ?_ | refine SL.TK.inScope ?_ | refine SL.TK.label ?_ | refine SL.W.exit ?_ | refine SL.W.condT ?_ | refine SL.W.condF ?_ | (refine SL.W.condP (fun h => ?_) (fun h => ?_) <;> (fail_if_success (have : h = trivial := rfl)) <;> (fail_if_success (have : h = not_false := rfl)) <;> first | contradiction | (exfalso; omega) | (exfalso; revert h; simp; done) | skip) | refine SL.W.condB (fun h => ?_) (fun h => ?_)) | (refine SL.TD.is ?_; first | (refine SL.W.dfin ?_; simp only [List.append_nil, List.cons_append, List.nil_append]) | refine SL.W.dpass ?_ | refine SL.W.dpure ?_ | refine SL.W.dload ?_ | refine SL.W.dloadA ?_ | refine SL.W.dfrz ?_ | (refine SL.W.dthaw ?_; simp only [List.append_nil, List.cons_append, List.nil_append]) | (refine SL.W.dguardP (fun h => ?_) (fun h => ?_) <;> (fail_if_success (have : h = trivial := rfl)) <;> (fail_if_success (have : h = not_false := rfl)) <;> first | contradiction | (exfalso; omega) | (exfalso; revert h; simp; done) | skip) | (refine SL.W.dguardB (fun h => ?_) (fun h => ?_) <;> (fail_if_success (have : h = (rfl : true = true) := rfl)) <;> (fail_if_success (have : h = (rfl : false = false) := rfl))) | refine SL.W.done ?_ | refine SL.W.dtwo ?_ ?_ | refine SL.W.dthree ?_ ?_ ?_))
    clear e1 e2 h0
    rintro ρ L m ⟨i, hi, rfl, rfl, rfl⟩ ih
    by_cases hlt : i < ks.length
    · obtain ⟨q, hq⟩ : ∃ q, nat_ ks i = q := ⟨_, rfl⟩
      have hn := nth_ints (ex := ex) hlt
      rw [hq] at hn
      have htk : ks.take (i + 1) = ks.take i ++ [q] := by rw [List.take_add_one, List.getElem?_eq_getElem hlt, nat_eq hlt, hq]; rfl
      have hTK := Lib.hid htk
      have hyy := hY.out (ks.take i) q (by show ks.take i ++ [q] <+: ks; rw [← htk]; exact List.take_prefix _ _)
      rw [← htk] at hyy
      clear htk hq
      repeat' (first | (refine SL.TO.is ?_; first | (refine SL.TO.door (o := ⟨_, .load _ _, _, _, _, _⟩) ?_; first | refine SL.W.loadN hn ?_) | (refine SL.TO.door (o := ⟨_, .call ⟨.value (.tmp _), _, _⟩, _, _, _, _⟩) ?_; first | (refine SL.W.callY hyy ?_; rintro _ _ ⟨rfl, rfl⟩; try simp only [List.cons_append, List.nil_append])) | refine SL.TO.nil ?_ | (refine SL.TO.nilD ?_; simp only [SL.setB]) | refine SL.W.pass ?_ | refine SL.W.pass0 ?_ | (refine SL.W.pure ?_; first | refine SL.W.pv ?_ | refine SL.W.pv0 ?_ | refine SL.W.lenMp ?_) | (refine SL.W.loud ?_; first | refine SL.W.load ?_ | refine SL.W.loadA ?_ | refine SL.W.store ?_ | refine SL.W.storeA ?_ | (refine SL.W.box ?_; intro b) | (refine SL.W.alloc ?_; intro b) | (refine SL.W.buildSlice ?_; intro b) | (refine SL.W.append ?_; intro a cap) | refine SL.W.bytesToStr ?_ | refine SL.W.pvn (SL.PV.toIntC (by rfl) (by first | exact SL.wrap_i64 (by omega) | exact SL.wrap_u8 (by omega) | exact SL.wrap_u32 (by omega) | exact SL.wrap_u64 (by omega) | rfl)) ?_ | (refine SL.W.makeSlice ?_; intro b) | refine SL.W.lookupOk ?_ | refine SL.W.lookup ?_ | (refine SL.W.makeMap ?_; intro b) | refine SL.W.mapUpdate ?_ | (refine SL.W.mapEntry ?_; intro stamp) | refine SL.W.entryStore ?_ | (refine SL.W.range ?_; intro it) | refine SL.W.delete ?_) | (refine SL.W.guardP (fun h => ?_) (fun h => ?_) <;> (fail_if_success (have : h = trivial := rfl)) <;> (fail_if_success (have : h = not_false := rfl)) <;> first | contradiction | (exfalso; omega) | (exfalso; revert h; simp; done) | skip) | (refine SL.W.guardB (fun h => ?_) (fun h => ?_) <;> (fail_if_success (have : h = (rfl : true = true) := rfl)) <;> (fail_if_success (have : h = (rfl : false = false) := rfl)))) | (refine SL.TK.is ?_; first | refine SL.TK.seq ?_ | refine SL.TK.region ?_ | refine SL.TK.regionD SL.mixed (by simp only [SL.falses] <;> rfl) ?_ | refine SL.TK.block ?_ | refine SL.TK.inBlock ?_ | refine SL.TK.skip ?_ | refine SL.TK.scope ?_ | refine SL.TK.inScope ?_ | refine SL.TK.label ?_ | refine SL.W.exit ?_ | refine SL.W.condT ?_ | refine SL.W.condF ?_ | (refine SL.W.condP (fun h => ?_) (fun h => ?_) <;> (fail_if_success (have : h = trivial := rfl)) <;> (fail_if_success (have : h = not_false := rfl)) <;> first | contradiction | (exfalso; omega) | (exfalso; revert h; simp; done) | skip) | refine SL.W.condB (fun h => ?_) (fun h => ?_)) | (refine SL.TD.is ?_; first | (refine SL.W.dfin ?_; simp only [List.append_nil, List.cons_append, List.nil_append]) | refine SL.W.dpass ?_ | refine SL.W.dpure ?_ | refine SL.W.dload ?_ | refine SL.W.dloadA ?_ | refine SL.W.dfrz ?_ | (refine SL.W.dthaw ?_; simp only [List.append_nil, List.cons_append, List.nil_append]) | (refine SL.W.dguardP (fun h => ?_) (fun h => ?_) <;> (fail_if_success (have : h = trivial := rfl)) <;> (fail_if_success (have : h = not_false := rfl)) <;> first | contradiction | (exfalso; omega) | (exfalso; revert h; simp; done) | skip) | (refine SL.W.dguardB (fun h => ?_) (fun h => ?_) <;> (fail_if_success (have : h = (rfl : true = true) := rfl)) <;> (fail_if_success (have : h = (rfl : false = false) := rfl))) | refine SL.W.done ?_ | refine SL.W.dtwo ?_ ?_ | refine SL.W.dthree ?_ ?_ ?_))
      refine SL.TK.againD ih ⟨i + 1, by omega, rfl, rfl, rfl⟩ (by first | ((repeat (first | exact SL.Sub.nil | refine SL.Sub.cons (by rfl) (by first | rfl | exact SL.int_eq (by omega)) ?_)); done) | fail) ?_ (by omega)
      exact EntD.cons (by first | ((repeat (first | exact SL.Pick.head | apply SL.Pick.tail)); done) | fail) (EntD.cons (by first | ((repeat (first | exact SL.Pick.head | apply SL.Pick.tail)); done) | fail) (EntD.cons (by first | ((repeat (first | exact SL.Pick.head | apply SL.Pick.tail)); done) | fail) EntD.nil))
    · have hil : i = ks.length := by omega
      subst hil
      rw [List.take_length]
      clear ih
      repeat' (first | (refine SL.TO.is ?_; first | refine SL.TO.nil ?_ | (refine SL.TO.nilD ?_; simp only [SL.setB]) | refine SL.W.pass ?_ | refine SL.W.pass0 ?_ | (refine SL.W.pure ?_; first | refine SL.W.pv ?_ | refine SL.W.pv0 ?_ | refine SL.W.lenMp ?_) | (refine SL.W.loud ?_; first | refine SL.W.load ?_ | refine SL.W.loadA ?_ | refine SL.W.store ?_ | refine SL.W.storeA ?_ | (refine SL.W.box ?_; intro b) | (refine SL.W.alloc ?_; intro b) | (refine SL.W.buildSlice ?_; intro b) | (refine SL.W.append ?_; intro a cap) | refine SL.W.bytesToStr ?_ | refine SL.W.pvn (SL.PV.toIntC (by rfl) (by first | exact SL.wrap_i64 (by omega) | exact SL.wrap_u8 (by omega) | exact SL.wrap_u32 (by omega) | exact SL.wrap_u64 (by omega) | rfl)) ?_ | (refine SL.W.makeSlice ?_; intro b) | refine SL.W.lookupOk ?_ | refine SL.W.lookup ?_ | (refine SL.W.makeMap ?_; intro b) | refine SL.W.mapUpdate ?_ | (refine SL.W.mapEntry ?_; intro stamp) | refine SL.W.entryStore ?_ | (refine SL.W.range ?_; intro it) | refine SL.W.delete ?_) | (refine SL.W.guardP (fun h => ?_) (fun h => ?_) <;> (fail_if_success (have : h = trivial := rfl)) <;> (fail_if_success (have : h = not_false := rfl)) <;> first | contradiction | (exfalso; omega) | (exfalso; revert h; simp; done) | skip) | (refine SL.W.guardB (fun h => ?_) (fun h => ?_) <;> (fail_if_success (have : h = (rfl : true = true) := rfl)) <;> (fail_if_success (have : h = (rfl : false = false) := rfl)))) | (refine SL.TK.is ?_; first | refine SL.TK.seq ?_ | refine SL.TK.region ?_ | refine SL.TK.regionD SL.mixed (by simp only [SL.falses] <;> rfl) ?_ | refine SL.TK.block ?_ | refine SL.TK.inBlock ?_ | refine SL.TK.skip ?_ | refine SL.TK.scope ?_ | refine SL.TK.inScope ?_ | refine SL.TK.label ?_ | refine SL.W.exit ?_ | refine SL.W.condT ?_ | refine SL.W.condF ?_ | (refine SL.W.condP (fun h => ?_) (fun h => ?_) <;> (fail_if_success (have : h = trivial := rfl)) <;> (fail_if_success (have : h = not_false := rfl)) <;> first | contradiction | (exfalso; omega) | (exfalso; revert h; simp; done) | skip) | refine SL.W.condB (fun h => ?_) (fun h => ?_)) | (refine SL.TD.is ?_; first | (refine SL.W.dfin ?_; simp only [List.append_nil, List.cons_append, List.nil_append]) | refine SL.W.dpass ?_ | refine SL.W.dpure ?_ | refine SL.W.dload ?_ | refine SL.W.dloadA ?_ | refine SL.W.dfrz ?_ | (refine SL.W.dthaw ?_; simp only [List.append_nil, List.cons_append, List.nil_append]) | (refine SL.W.dguardP (fun h => ?_) (fun h => ?_) <;> (fail_if_success (have : h = trivial := rfl)) <;> (fail_if_success (have : h = not_false := rfl)) <;> first | contradiction | (exfalso; omega) | (exfalso; revert h; simp; done) | skip) | (refine SL.W.dguardB (fun h => ?_) (fun h => ?_) <;> (fail_if_success (have : h = (rfl : true = true) := rfl)) <;> (fail_if_success (have : h = (rfl : false = false) := rfl))) | refine SL.W.done ?_ | refine SL.W.dtwo ?_ ?_ | refine SL.W.dthree ?_ ?_ ?_))
      exact SL.TK.finD Tryz.func97 (SL.Res.none rfl) ⟨ks, rfl, rfl⟩ (EntD.cons (by first | ((repeat (first | exact SL.Pick.head | apply SL.Pick.tail)); done) | fail) (EntD.cons (by first | ((repeat (first | exact SL.Pick.head | apply SL.Pick.tail)); done) | fail) EntD.nil))
theorem wh_round (l m b3 b4 b5 b7 nb : Nat) (tmps : Array Value) (T : As2) (live : Bool) (now : Int) (hg : Agree Tryz.f98.ntmps [(3, .pointer (some ⟨b3, 0, none⟩)), (4, .pointer (some ⟨b4, 0, none⟩)), (5, .pointer (some ⟨b5, 0, none⟩)), (7, .pointer (some ⟨b7, 0, none⟩))] ⟨tmps, []⟩)
    (done : List Int) (x : Int) (hd : done.length < 1000000) :
    Yld Tryz.prog l [iv x] [LeasesAt nb T, whJ l m b3 b4 b5 b7 nb tmps T live now done] (fun r L => r = .bool true ∧ L = [LeasesAt nb T, whJ l m b3 b4 b5 b7 nb tmps T live now (done ++ [x])]) := by
  refine Yld.openEx ex_open1 (fun s => ?_)
  obtain ⟨s1, s2⟩ := s
  refine Yld.of_TK (ps := [11]) (by first | ((repeat (first | exact SL.Pick.head | apply SL.Pick.tail)); done) | fail) rfl hg (by rfl) rfl ?_
  simp only [List.zip_cons_cons, List.zip_nil_right, parE]
  obtain ⟨cs, hcs⟩ : ∃ cs, cs = selC T live now done := ⟨_, rfl⟩
  have hcl : cs.length < 1000000 := by have : cs.length ≤ done.length := by rw [hcs]; exact List.length_filter_le _ _
                                       omega
  have hsel : selC T live now (done ++ [x]) = cs ++ (if decide (now < til x T) = live then [x] else []) := by
    rw [hcs]; simp only [selC, List.filter_append, List.filter_cons, List.filter_nil]
    by_cases h : decide (now < til x T) = live <;> simp [h]
  have hI (a : Option Addr) (c k : Nat) (hk : k = (selC T live now (done ++ [x])).length) := whJ_intro (l := l) (m := m) (b3 := b3) (b4 := b4) (b5 := b5) (b7 := b7) (nb := nb) (tmps := tmps) (a := a) (c := c) hk
  rw [hsel] at hI
  rw [← hcs]
  have hIH := Lib.hid hI
  clear hI hsel hcs
  obtain ⟨N, hN⟩ : ∃ N, N = cs.length := ⟨_, rfl⟩
  have hNH := Lib.hid hN
  rw [← hN] at hcl ⊢
  clear hN
  unfold iv
  repeat' (first | (refine SL.TO.is ?_; first | (refine SL.TO.door (o := ⟨_, .call ⟨.value (.func 68), _, _⟩, _, _, _, _⟩) ?_; first | (refine SL.W.call (lsLive_spec _ _ _ _) ?_; rintro _ _ ⟨rfl, rfl⟩; try simp only [List.cons_append, List.nil_append])) | refine SL.TO.nil ?_ | (refine SL.TO.nilD ?_; simp only [SL.setB]) | refine SL.W.pass ?_ | refine SL.W.pass0 ?_ | (refine SL.W.pure ?_; first | refine SL.W.pv ?_ | refine SL.W.pv0 ?_ | refine SL.W.lenMp ?_) | (refine SL.W.loud ?_; first | refine SL.W.load ?_ | refine SL.W.loadA ?_ | refine SL.W.store ?_ | refine SL.W.storeA ?_ | (refine SL.W.box ?_; intro b) | (refine SL.W.alloc ?_; intro b) | (refine SL.W.buildSlice ?_; intro b) | (refine SL.W.append ?_; intro a cap) | refine SL.W.bytesToStr ?_ | refine SL.W.pvn (SL.PV.toIntC (by rfl) (by first | exact SL.wrap_i64 (by omega) | exact SL.wrap_u8 (by omega) | exact SL.wrap_u32 (by omega) | exact SL.wrap_u64 (by omega) | rfl)) ?_ | (refine SL.W.makeSlice ?_; intro b) | refine SL.W.lookupOk ?_ | refine SL.W.lookup ?_ | (refine SL.W.makeMap ?_; intro b) | refine SL.W.mapUpdate ?_ | (refine SL.W.mapEntry ?_; intro stamp) | refine SL.W.entryStore ?_ | (refine SL.W.range ?_; intro it) | refine SL.W.delete ?_) | (refine SL.W.guardP (fun h => ?_) (fun h => ?_) <;> (fail_if_success (have : h = trivial := rfl)) <;> (fail_if_success (have : h = not_false := rfl)) <;> first | contradiction | (exfalso; omega) | (exfalso; revert h; simp; done) | skip) | (refine SL.W.guardB (fun h => ?_) (fun h => ?_) <;> (fail_if_success (have : h = (rfl : true = true) := rfl)) <;> (fail_if_success (have : h = (rfl : false = false) := rfl)))) | (refine SL.TK.is ?_; first | refine SL.TK.beginRound (by first | ((repeat (first | exact SL.Pick.head | apply SL.Pick.tail)); done) | fail) ?_ | refine SL.TK.seq ?_ | refine SL.TK.region ?_ | refine SL.TK.regionD SL.mixed (by simp only [SL.falses] <;> rfl) ?_ | refine SL.TK.block ?_ | refine SL.TK.inBlock ?_ | refine SL.TK.skip ?_ | refine SL.TK.scope ?_ | refine SL.TK.inScope ?_ | refine SL.TK.label ?_ | refine SL.W.exit ?_ | refine SL.W.condT ?_ | refine SL.W.condF ?_ | (refine SL.W.condP (fun h => ?_) (fun h => ?_) <;> (fail_if_success (have : h = trivial := rfl)) <;> (fail_if_success (have : h = not_false := rfl)) <;> first | contradiction | (exfalso; omega) | (exfalso; revert h; simp; done) | skip) | refine SL.W.condB (fun h => ?_) (fun h => ?_)) | (refine SL.TD.is ?_; first | (refine SL.W.dfin ?_; simp only [List.append_nil, List.cons_append, List.nil_append]) | refine SL.W.dpass ?_ | refine SL.W.dpure ?_ | refine SL.W.dload ?_ | refine SL.W.dloadA ?_ | refine SL.W.dfrz ?_ | (refine SL.W.dthaw ?_; simp only [List.append_nil, List.cons_append, List.nil_append]) | (refine SL.W.dguardP (fun h => ?_) (fun h => ?_) <;> (fail_if_success (have : h = trivial := rfl)) <;> (fail_if_success (have : h = not_false := rfl)) <;> first | contradiction | (exfalso; omega) | (exfalso; revert h; simp; done) | skip) | (refine SL.W.dguardB (fun h => ?_) (fun h => ?_) <;> (fail_if_success (have : h = (rfl : true = true) := rfl)) <;> (fail_if_success (have : h = (rfl : false = false) := rfl))) | refine SL.W.done ?_ | refine SL.W.dtwo ?_ ?_ | refine SL.W.dthree ?_ ?_ ?_))
  · have hd1 : decide (now < til x T) = live := by assumption
    have hx := hIH.out a cap (N + 1) (by rw [if_pos hd1]; simp [hNH.out])
    rw [if_pos hd1, List.map_append] at hx
    exact SL.TK.endRound (by first | ((repeat (first | exact SL.Pick.head | apply SL.Pick.tail)); done) | fail) ⟨rfl, rfl⟩ (EntD.cons (by first | ((repeat (first | exact SL.Pick.head | apply SL.Pick.tail)); done) | fail) (EntD.frm (by first | ((repeat (first | exact SL.Frm.nil | exact SL.Frm.refl | (apply SL.Frm.cons; repeat (first | exact SL.Pick.head | apply SL.Pick.tail)))); done) | fail) hx EntD.nil))
  · have hd1 : ¬ decide (now < til x T) = live := by assumption
    have hx := hIH.out s1 s2 N (by rw [if_neg hd1]; simp [hNH.out])
    rw [if_neg hd1, List.append_nil] at hx
    exact SL.TK.endRound (by first | ((repeat (first | exact SL.Pick.head | apply SL.Pick.tail)); done) | fail) ⟨rfl, rfl⟩ (EntD.cons (by first | ((repeat (first | exact SL.Pick.head | apply SL.Pick.tail)); done) | fail) (EntD.frm (by first | ((repeat (first | exact SL.Frm.nil | exact SL.Frm.refl | (apply SL.Frm.cons; repeat (first | exact SL.Pick.head | apply SL.Pick.tail)))); done) | fail) hx EntD.nil))
theorem which_spec (N : Nat) (hN : N < 1000000) (hsort : SortN N) (nb : Nat) (T : As2) (hT : T.length ≤ N) (live : Bool) (now : Int) :
    Spec Tryz.prog 98 [.pointer (some ⟨nb, 0, none⟩), .bool live, .int .u64 now] [LeasesAt nb T]
      (fun r L => ∃ a c, r = .slice a (selC T live now (srt (T.map (·.1)))).length c ∧ L = [LeasesAt nb T, own 25 1 a (selC T live now (srt (T.map (·.1)))).length c ((selC T live now (srt (T.map (·.1)))).map iv)]) := by
  have hit := clients_iter N hN hsort nb T hT
  have hok : ∀ (done : List Int) (x : Int), done ++ [x] <+: srt (T.map (·.1)) → done.length < 1000000 := fun done x h => by
    have := h.length_le
    simp [srt_length] at this
    omega
  refine SL.Spec.of_TK Go.Proofs.Tryz.func98 rfl rfl SL.call98 rfl ?_
  refine SL.TK.entD (L' := [LeasesAt nb T, own 25 1 none 0 0 []]) (EntD.of_ent (Ent.cons (by first | ((repeat (first | exact SL.Pick.head | apply SL.Pick.tail)); done) | fail) (Ent.own_nil Ent.refl))) ?_
  repeat' (first | (refine SL.TO.is ?_; first | refine SL.TO.nil ?_ | (refine SL.TO.nilD ?_; simp only [SL.setB]) | refine SL.W.pass ?_ | refine SL.W.pass0 ?_ | (refine SL.W.pure ?_; first | refine SL.W.pv ?_ | refine SL.W.pv0 ?_ | refine SL.W.lenMp ?_) | (refine SL.W.loud ?_; first | refine SL.W.load ?_ | refine SL.W.loadA ?_ | refine SL.W.store ?_ | refine SL.W.storeA ?_ | (refine SL.W.box ?_; intro b) | (refine SL.W.alloc ?_; intro b) | (refine SL.W.buildSlice ?_; intro b) | (refine SL.W.append ?_; intro a cap) | refine SL.W.bytesToStr ?_ | refine SL.W.pvn (SL.PV.toIntC (by rfl) (by first | exact SL.wrap_i64 (by omega) | exact SL.wrap_u8 (by omega) | exact SL.wrap_u32 (by omega) | exact SL.wrap_u64 (by omega) | rfl)) ?_ | (refine SL.W.makeSlice ?_; intro b) | refine SL.W.lookupOk ?_ | refine SL.W.lookup ?_ | (refine SL.W.makeMap ?_; intro b) | refine SL.W.mapUpdate ?_ | (refine SL.W.mapEntry ?_; intro stamp) | refine SL.W.entryStore ?_ | (refine SL.W.range ?_; intro it) | refine SL.W.delete ?_) | (refine SL.W.guardP (fun h => ?_) (fun h => ?_) <;> (fail_if_success (have : h = trivial := rfl)) <;> (fail_if_success (have : h = not_false := rfl)) <;> first | contradiction | (exfalso; omega) | (exfalso; revert h; simp; done) | skip) | (refine SL.W.guardB (fun h => ?_) (fun h => ?_) <;> (fail_if_success (have : h = (rfl : true = true) := rfl)) <;> (fail_if_success (have : h = (rfl : false = false) := rfl)))) | (refine SL.TK.rf ?_; first | refine SL.TK.rangeFunc (args := fun y => [.pointer (some ⟨nb, 0, none⟩)] ++ [y] ++ []) (by rfl) rfl (fun l m tmps hg => ⟨[LeasesAt nb T, whJ l m _ _ _ _ nb tmps T live now []], [], _, EntD.cons (by first | ((repeat (first | exact SL.Pick.head | apply SL.Pick.tail)); done) | fail) (EntD.frm (by first | ((repeat (first | exact SL.Frm.nil | exact SL.Frm.refl | (apply SL.Frm.cons; repeat (first | exact SL.Pick.head | apply SL.Pick.tail)))); done) | fail) (whJ_intro rfl) EntD.nil), hit l _ (fun done x h1 => wh_round l m _ _ _ _ nb tmps T live now (hg.sub (by first | ((repeat (first | exact SL.Sub.nil | refine SL.Sub.cons (by rfl) (by first | rfl | exact SL.int_eq (by omega)) ?_)); done) | fail)) done x (hok done x h1)), ?_⟩)) | (refine SL.TK.is ?_; first | refine SL.TK.seq ?_ | refine SL.TK.region ?_ | refine SL.TK.regionD SL.mixed (by simp only [SL.falses] <;> rfl) ?_ | refine SL.TK.block ?_ | refine SL.TK.inBlock ?_ | refine SL.TK.skip ?_ | refine SL.TK.scope ?_ | refine SL.TK.inScope ?_ | refine SL.TK.label ?_ | refine SL.W.exit ?_ | refine SL.W.condT ?_ | refine SL.W.condF ?_ | (refine SL.W.condP (fun h => ?_) (fun h => ?_) <;> (fail_if_success (have : h = trivial := rfl)) <;> (fail_if_success (have : h = not_false := rfl)) <;> first | contradiction | (exfalso; omega) | (exfalso; revert h; simp; done) | skip) | refine SL.W.condB (fun h => ?_) (fun h => ?_)) | (refine SL.TD.is ?_; first | (refine SL.W.dfin ?_; simp only [List.append_nil, List.cons_append, List.nil_append]) | refine SL.W.dpass ?_ | refine SL.W.dpure ?_ | refine SL.W.dload ?_ | refine SL.W.dloadA ?_ | refine SL.W.dfrz ?_ | (refine SL.W.dthaw ?_; simp only [List.append_nil, List.cons_append, List.nil_append]) | (refine SL.W.dguardP (fun h => ?_) (fun h => ?_) <;> (fail_if_success (have : h = trivial := rfl)) <;> (fail_if_success (have : h = not_false := rfl)) <;> first | contradiction | (exfalso; omega) | (exfalso; revert h; simp; done) | skip) | (refine SL.W.dguardB (fun h => ?_) (fun h => ?_) <;> (fail_if_success (have : h = (rfl : true = true) := rfl)) <;> (fail_if_success (have : h = (rfl : false = false) := rfl))) | refine SL.W.done ?_ | refine SL.W.dtwo ?_ ?_ | refine SL.W.dthree ?_ ?_ ?_))
  rintro v L' ⟨ks, rfl, rfl⟩
  simp only [List.cons_append, List.nil_append, List.append_nil]
  refine SL.Lz.TK.openWh (by first | ((repeat (first | exact SL.Pick.head | apply SL.Pick.tail)); done) | fail) (fun s1 s2 => ?_)
  refine SL.TK.endRange (by first | ((repeat (first | exact SL.Pick.head | apply SL.Pick.tail)); done) | fail) (by decide) ?_
  repeat' (first | (refine SL.TO.is ?_; first | refine SL.TO.nil ?_ | (refine SL.TO.nilD ?_; simp only [SL.setB]) | refine SL.W.pass ?_ | refine SL.W.pass0 ?_ | (refine SL.W.pure ?_; first | refine SL.W.pv ?_ | refine SL.W.pv0 ?_ | refine SL.W.lenMp ?_) | (refine SL.W.loud ?_; first | refine SL.W.load ?_ | refine SL.W.loadA ?_ | refine SL.W.store ?_ | refine SL.W.storeA ?_ | (refine SL.W.box ?_; intro b) | (refine SL.W.alloc ?_; intro b) | (refine SL.W.buildSlice ?_; intro b) | (refine SL.W.append ?_; intro a cap) | refine SL.W.bytesToStr ?_ | refine SL.W.pvn (SL.PV.toIntC (by rfl) (by first | exact SL.wrap_i64 (by omega) | exact SL.wrap_u8 (by omega) | exact SL.wrap_u32 (by omega) | exact SL.wrap_u64 (by omega) | rfl)) ?_ | (refine SL.W.makeSlice ?_; intro b) | refine SL.W.lookupOk ?_ | refine SL.W.lookup ?_ | (refine SL.W.makeMap ?_; intro b) | refine SL.W.mapUpdate ?_ | (refine SL.W.mapEntry ?_; intro stamp) | refine SL.W.entryStore ?_ | (refine SL.W.range ?_; intro it) | refine SL.W.delete ?_) | (refine SL.W.guardP (fun h => ?_) (fun h => ?_) <;> (fail_if_success (have : h = trivial := rfl)) <;> (fail_if_success (have : h = not_false := rfl)) <;> first | contradiction | (exfalso; omega) | (exfalso; revert h; simp; done) | skip) | (refine SL.W.guardB (fun h => ?_) (fun h => ?_) <;> (fail_if_success (have : h = (rfl : true = true) := rfl)) <;> (fail_if_success (have : h = (rfl : false = false) := rfl)))) | (refine SL.TK.is ?_; first | refine SL.TK.seq ?_ | refine SL.TK.region ?_ | refine SL.TK.regionD SL.mixed (by simp only [SL.falses] <;> rfl) ?_ | refine SL.TK.block ?_ | refine SL.TK.inBlock ?_ | refine SL.TK.skip ?_ | refine SL.TK.scope ?_ | refine SL.TK.inScope ?_ | refine SL.TK.label ?_ | refine SL.W.exit ?_ | refine SL.W.condT ?_ | refine SL.W.condF ?_ | (refine SL.W.condP (fun h => ?_) (fun h => ?_) <;> (fail_if_success (have : h = trivial := rfl)) <;> (fail_if_success (have : h = not_false := rfl)) <;> first | contradiction | (exfalso; omega) | (exfalso; revert h; simp; done) | skip) | refine SL.W.condB (fun h => ?_) (fun h => ?_)) | (refine SL.TD.is ?_; first | (refine SL.W.dfin ?_; simp only [List.append_nil, List.cons_append, List.nil_append]) | refine SL.W.dpass ?_ | refine SL.W.dpure ?_ | refine SL.W.dload ?_ | refine SL.W.dloadA ?_ | refine SL.W.dfrz ?_ | (refine SL.W.dthaw ?_; simp only [List.append_nil, List.cons_append, List.nil_append]) | (refine SL.W.dguardP (fun h => ?_) (fun h => ?_) <;> (fail_if_success (have : h = trivial := rfl)) <;> (fail_if_success (have : h = not_false := rfl)) <;> first | contradiction | (exfalso; omega) | (exfalso; revert h; simp; done) | skip) | (refine SL.W.dguardB (fun h => ?_) (fun h => ?_) <;> (fail_if_success (have : h = (rfl : true = true) := rfl)) <;> (fail_if_success (have : h = (rfl : false = false) := rfl))) | refine SL.W.done ?_ | refine SL.W.dtwo ?_ ?_ | refine SL.W.dthree ?_ ?_ ?_))
  exact SL.TK.retR (SL.RK.mark (by first | ((repeat (first | exact SL.Pick.head | apply SL.Pick.tail)); done) | fail) (SL.RK.done Tryz.func98 (SL.Res.one rfl (by rfl)) ⟨_, _, rfl, rfl⟩ (EntD.cons (by first | ((repeat (first | exact SL.Pick.head | apply SL.Pick.tail)); done) | fail) (EntD.cons (by first | ((repeat (first | exact SL.Pick.head | apply SL.Pick.tail)); done) | fail) EntD.nil))))
end SL.Lz
end
section
set_option linter.unusedVariables false
set_option linter.unusedSimpArgs false
set_option maxRecDepth 10000
namespace SL.Lz
open Go Go.Proofs Go.RowKit
def lsCells (T : As2) (ks : List Int) : List Value := ks.flatMap fun q => [.int .u32 q, .int .u64 (til q T)]
theorem lsCells_snoc (T : As2) (ks : List Int) (q : Int) : lsCells T (ks ++ [q]) = lsCells T ks ++ [.int .u32 q, .int .u64 (til q T)] := by simp [lsCells]
noncomputable abbrev laAs : Code := asOf (loopAt Tryz.f60 0)
noncomputable abbrev laBd : Code := bdOf (loopAt Tryz.f60 0)
def laJ (l m b1 b3 nb : Nat) (tmps : Array Value) (T : As2) (done : List Int) : HProp := SL.ex fun s : Option Addr × Nat =>
  seps [lpr l .ready none 60 tmps #[7] laAs laBd m, mk m, SL.blk b1 70 [.pointer (some ⟨nb, 0, none⟩)], SL.blk b3 115 [.slice s.1 done.length s.2], own 118 2 s.1 done.length s.2 (lsCells T done)]
theorem laJ_intro {l m b1 b3 nb k c : Nat} {a : Option Addr} {tmps : Array Value} {T : As2} {done : List Int} (hk : k = done.length) :
    ∀ h, seps [lpr l .ready none 60 tmps #[7] laAs laBd m, mk m, SL.blk b1 70 [.pointer (some ⟨nb, 0, none⟩)], SL.blk b3 115 [.slice a k c], own 118 2 a k c (lsCells T done)] h → laJ l m b1 b3 nb tmps T done h := fun h x => by
  subst hk
  exact ⟨(a, c), x⟩
theorem TK.openLa {P : Program} {fid : Fm} {n : Nat} {post : Post} {k : List Item} {ρ : Env} {L r : List HProp} {l m b1 b3 nb : Nat} {tmps : Array Value} {T : As2} {done : List Int} (hp : Pick L (laJ l m b1 b3 nb tmps T done) r)
    (h : ∀ (a : Option Addr) (c : Nat), TK P fid n post k ρ (lpr l .ready none 60 tmps #[7] laAs laBd m :: mk m :: SL.blk b1 70 [.pointer (some ⟨nb, 0, none⟩)] :: SL.blk b3 115 [.slice a done.length c] :: own 118 2 a done.length c (lsCells T done) :: r)) : TK P fid n post k ρ L :=
  TK.exC hp fun s => TK.sepsC Pick.head (h s.1 s.2)
attribute [local irreducible] SL.TK SL.TO SL.TD SL.PV SL.Pick SL.Frm SL.Ent SL.Sub SL.EvAll SL.seps SL.sep SL.Cut SL.PutAt SL.blk SL.EvP SL.Fill SL.Src SL.EntD SL.own SL.ex SL.fact SL.orig
theorem la_round (l m b1 b3 nb : Nat) (tmps : Array Value) (T : As2) (hg : Agree Tryz.f60.ntmps [(1, .pointer (some ⟨b1, 0, none⟩)), (3, .pointer (some ⟨b3, 0, none⟩))] ⟨tmps, []⟩)
    (done : List Int) (x : Int) (hd : done.length < 1000000) :
    Yld Tryz.prog l [iv x] [LeasesAt nb T, laJ l m b1 b3 nb tmps T done] (fun r L => r = .bool true ∧ L = [LeasesAt nb T, laJ l m b1 b3 nb tmps T (done ++ [x])]) := by
  refine Yld.openEx ex_open1 (fun s => ?_)
  obtain ⟨s1, s2⟩ := s
  refine Yld.of_TK (ps := [7]) (by first | ((repeat (first | exact SL.Pick.head | apply SL.Pick.tail)); done) | fail) rfl hg (by rfl) rfl ?_
  simp only [List.zip_cons_cons, List.zip_nil_right, parE]
  have hI (a : Option Addr) (c k : Nat) (hk : k = (done ++ [x]).length) := laJ_intro (l := l) (m := m) (b1 := b1) (b3 := b3) (nb := nb) (tmps := tmps) (T := T) (a := a) (c := c) hk
  rw [lsCells_snoc] at hI
  have hIH := Lib.hid hI
  obtain ⟨cs, hcs⟩ : ∃ cs, cs = lsCells T done := ⟨_, rfl⟩
  rw [← hcs] at hIH ⊢
  clear hI hcs
  obtain ⟨N, hN⟩ : ∃ N, N = done.length := ⟨_, rfl⟩
  have hNH := Lib.hid hN
  rw [← hN] at hd ⊢
  clear hN
  have hG := Lib.hid (til_get x T)
  have h1c : ∀ v ∈ [Value.int .u32 x, .int .u64 (til x T)], v.oneCell' = true := by simp [Value.oneCell']
  unfold iv
  refine SL.Lz.TK.openLs (by first | ((repeat (first | exact SL.Pick.head | apply SL.Pick.tail)); done) | fail) (fun mb => ?_)
  repeat' (first | (refine SL.TO.is ?_; first | (refine SL.TO.door (o := ⟨_, .lookup _ _ _ _, _, _, _, _⟩) ?_; first | (refine SL.W.lookup ?_; refine SL.TO.slot (d := 15) (by rfl) hG.out ?_)) | refine SL.TO.nil ?_ | (refine SL.TO.nilD ?_; simp only [SL.setB]) | refine SL.W.pass ?_ | refine SL.W.pass0 ?_ | (refine SL.W.pure ?_; first | refine SL.W.pv ?_ | refine SL.W.pv0 ?_ | refine SL.W.lenMp ?_) | (refine SL.W.loud ?_; first | refine SL.W.load ?_ | refine SL.W.loadA ?_ | refine SL.W.store ?_ | refine SL.W.storeA ?_ | (refine SL.W.box ?_; intro b) | (refine SL.W.alloc ?_; intro b) | (refine SL.W.buildSlice ?_; intro b) | (refine SL.W.append ?_; intro a cap) | refine SL.W.bytesToStr ?_ | refine SL.W.pvn (SL.PV.toIntC (by rfl) (by first | exact SL.wrap_i64 (by omega) | exact SL.wrap_u8 (by omega) | exact SL.wrap_u32 (by omega) | exact SL.wrap_u64 (by omega) | rfl)) ?_ | (refine SL.W.makeSlice ?_; intro b) | refine SL.W.lookupOk ?_ | refine SL.W.lookup ?_ | (refine SL.W.makeMap ?_; intro b) | refine SL.W.mapUpdate ?_ | (refine SL.W.mapEntry ?_; intro stamp) | refine SL.W.entryStore ?_ | (refine SL.W.range ?_; intro it) | refine SL.W.delete ?_) | (refine SL.W.guardP (fun h => ?_) (fun h => ?_) <;> (fail_if_success (have : h = trivial := rfl)) <;> (fail_if_success (have : h = not_false := rfl)) <;> first | contradiction | (exfalso; omega) | (exfalso; revert h; simp; done) | skip) | (refine SL.W.guardB (fun h => ?_) (fun h => ?_) <;> (fail_if_success (have : h = (rfl : true = true) := rfl)) <;> (fail_if_success (have : h = (rfl : false = false) := rfl)))) | (refine SL.TK.is ?_; first | refine SL.TK.beginRound (by first | ((repeat (first | exact SL.Pick.head | apply SL.Pick.tail)); done) | fail) ?_ | refine SL.TK.seq ?_ | refine SL.TK.region ?_ | refine SL.TK.regionD SL.mixed (by simp only [SL.falses] <;> rfl) ?_ | refine SL.TK.block ?_ | refine SL.TK.inBlock ?_ | refine SL.TK.skip ?_ | refine SL.TK.scope ?_ | refine SL.TK.inScope ?_ | refine SL.TK.label ?_ | refine SL.W.exit ?_ | refine SL.W.condT ?_ | refine SL.W.condF ?_ | (refine SL.W.condP (fun h => ?_) (fun h => ?_) <;> (fail_if_success (have : h = trivial := rfl)) <;> (fail_if_success (have : h = not_false := rfl)) <;> first | contradiction | (exfalso; omega) | (exfalso; revert h; simp; done) | skip) | refine SL.W.condB (fun h => ?_) (fun h => ?_)) | (refine SL.TD.is ?_; first | (refine SL.W.dfin ?_; simp only [List.append_nil, List.cons_append, List.nil_append]) | refine SL.W.dpass ?_ | refine SL.W.dpure ?_ | refine SL.W.dload ?_ | refine SL.W.dloadA ?_ | refine SL.W.dfrz ?_ | (refine SL.W.dthaw ?_; simp only [List.append_nil, List.cons_append, List.nil_append]) | (refine SL.W.dguardP (fun h => ?_) (fun h => ?_) <;> (fail_if_success (have : h = trivial := rfl)) <;> (fail_if_success (have : h = not_false := rfl)) <;> first | contradiction | (exfalso; omega) | (exfalso; revert h; simp; done) | skip) | (refine SL.W.dguardB (fun h => ?_) (fun h => ?_) <;> (fail_if_success (have : h = (rfl : true = true) := rfl)) <;> (fail_if_success (have : h = (rfl : false = false) := rfl))) | refine SL.W.done ?_ | refine SL.W.dtwo ?_ ?_ | refine SL.W.dthree ?_ ?_ ?_))
  all_goals
    have hx := hIH.out a cap (N + 1) (by simp [hNH.out])
    exact SL.TK.endRound (by first | ((repeat (first | exact SL.Pick.head | apply SL.Pick.tail)); done) | fail) ⟨rfl, rfl⟩ (EntD.frm (by first | ((repeat (first | exact SL.Frm.nil | exact SL.Frm.refl | (apply SL.Frm.cons; repeat (first | exact SL.Pick.head | apply SL.Pick.tail)))); done) | fail) ls_shut (EntD.frm (by first | ((repeat (first | exact SL.Frm.nil | exact SL.Frm.refl | (apply SL.Frm.cons; repeat (first | exact SL.Pick.head | apply SL.Pick.tail)))); done) | fail) hx EntD.nil))
theorem lsAll_spec (N : Nat) (hN : N < 1000000) (hsort : SortN N) (nb : Nat) (T : As2) (hT : T.length ≤ N) :
    Spec Tryz.prog 60 [.pointer (some ⟨nb, 0, none⟩)] [LeasesAt nb T]
      (fun r L => ∃ a c, r = .slice a (srt (T.map (·.1))).length c ∧ L = [LeasesAt nb T, own 118 2 a (srt (T.map (·.1))).length c (lsCells T (srt (T.map (·.1))))]) := by
  have hit := clients_iter N hN hsort nb T hT
  have hok : ∀ (done : List Int) (x : Int), done ++ [x] <+: srt (T.map (·.1)) → done.length < 1000000 := fun done x h => by
    have := h.length_le
    simp [srt_length] at this
    omega
  refine SL.Spec.of_TK Go.Proofs.Tryz.func60 rfl rfl SL.call60 rfl ?_
  refine SL.TK.entD (L' := [LeasesAt nb T, own 118 2 none 0 0 []]) (EntD.of_ent (Ent.cons (by first | ((repeat (first | exact SL.Pick.head | apply SL.Pick.tail)); done) | fail) (Ent.own_nil Ent.refl))) ?_
  repeat' (first | (refine SL.TO.is ?_; first | refine SL.TO.nil ?_ | (refine SL.TO.nilD ?_; simp only [SL.setB]) | refine SL.W.pass ?_ | refine SL.W.pass0 ?_ | (refine SL.W.pure ?_; first | refine SL.W.pv ?_ | refine SL.W.pv0 ?_ | refine SL.W.lenMp ?_) | (refine SL.W.loud ?_; first | refine SL.W.load ?_ | refine SL.W.loadA ?_ | refine SL.W.store ?_ | refine SL.W.storeA ?_ | (refine SL.W.box ?_; intro b) | (refine SL.W.alloc ?_; intro b) | (refine SL.W.buildSlice ?_; intro b) | (refine SL.W.append ?_; intro a cap) | refine SL.W.bytesToStr ?_ | refine SL.W.pvn (SL.PV.toIntC (by rfl) (by first | exact SL.wrap_i64 (by omega) | exact SL.wrap_u8 (by omega) | exact SL.wrap_u32 (by omega) | exact SL.wrap_u64 (by omega) | rfl)) ?_ | (refine SL.W.makeSlice ?_; intro b) | refine SL.W.lookupOk ?_ | refine SL.W.lookup ?_ | (refine SL.W.makeMap ?_; intro b) | refine SL.W.mapUpdate ?_ | (refine SL.W.mapEntry ?_; intro stamp) | refine SL.W.entryStore ?_ | (refine SL.W.range ?_; intro it) | refine SL.W.delete ?_) | (refine SL.W.guardP (fun h => ?_) (fun h => ?_) <;> (fail_if_success (have : h = trivial := rfl)) <;> (fail_if_success (have : h = not_false := rfl)) <;> first | contradiction | (exfalso; omega) | (exfalso; revert h; simp; done) | skip) | (refine SL.W.guardB (fun h => ?_) (fun h => ?_) <;> (fail_if_success (have : h = (rfl : true = true) := rfl)) <;> (fail_if_success (have : h = (rfl : false = false) := rfl)))) | (refine SL.TK.rf ?_; first | refine SL.TK.rangeFunc (args := fun y => [.pointer (some ⟨nb, 0, none⟩)] ++ [y] ++ []) (by rfl) rfl (fun l m tmps hg => ⟨[LeasesAt nb T, laJ l m _ _ nb tmps T []], [], _, EntD.cons (by first | ((repeat (first | exact SL.Pick.head | apply SL.Pick.tail)); done) | fail) (EntD.frm (by first | ((repeat (first | exact SL.Frm.nil | exact SL.Frm.refl | (apply SL.Frm.cons; repeat (first | exact SL.Pick.head | apply SL.Pick.tail)))); done) | fail) (laJ_intro rfl) EntD.nil), hit l _ (fun done x h1 => la_round l m _ _ nb tmps T (hg.sub (by first | ((repeat (first | exact SL.Sub.nil | refine SL.Sub.cons (by rfl) (by first | rfl | exact SL.int_eq (by omega)) ?_)); done) | fail)) done x (hok done x h1)), ?_⟩)) | (refine SL.TK.is ?_; first | refine SL.TK.seq ?_ | refine SL.TK.region ?_ | refine SL.TK.regionD SL.mixed (by simp only [SL.falses] <;> rfl) ?_ | refine SL.TK.block ?_ | refine SL.TK.inBlock ?_ | refine SL.TK.skip ?_ | refine SL.TK.scope ?_ | refine SL.TK.inScope ?_ | refine SL.TK.label ?_ | refine SL.W.exit ?_ | refine SL.W.condT ?_ | refine SL.W.condF ?_ | (refine SL.W.condP (fun h => ?_) (fun h => ?_) <;> (fail_if_success (have : h = trivial := rfl)) <;> (fail_if_success (have : h = not_false := rfl)) <;> first | contradiction | (exfalso; omega) | (exfalso; revert h; simp; done) | skip) | refine SL.W.condB (fun h => ?_) (fun h => ?_)) | (refine SL.TD.is ?_; first | (refine SL.W.dfin ?_; simp only [List.append_nil, List.cons_append, List.nil_append]) | refine SL.W.dpass ?_ | refine SL.W.dpure ?_ | refine SL.W.dload ?_ | refine SL.W.dloadA ?_ | refine SL.W.dfrz ?_ | (refine SL.W.dthaw ?_; simp only [List.append_nil, List.cons_append, List.nil_append]) | (refine SL.W.dguardP (fun h => ?_) (fun h => ?_) <;> (fail_if_success (have : h = trivial := rfl)) <;> (fail_if_success (have : h = not_false := rfl)) <;> first | contradiction | (exfalso; omega) | (exfalso; revert h; simp; done) | skip) | (refine SL.W.dguardB (fun h => ?_) (fun h => ?_) <;> (fail_if_success (have : h = (rfl : true = true) := rfl)) <;> (fail_if_success (have : h = (rfl : false = false) := rfl))) | refine SL.W.done ?_ | refine SL.W.dtwo ?_ ?_ | refine SL.W.dthree ?_ ?_ ?_))
  rintro v L' ⟨ks, rfl, rfl⟩
  simp only [List.cons_append, List.nil_append, List.append_nil]
  refine SL.Lz.TK.openLa (by first | ((repeat (first | exact SL.Pick.head | apply SL.Pick.tail)); done) | fail) (fun s1 s2 => ?_)
  refine SL.TK.endRange (by first | ((repeat (first | exact SL.Pick.head | apply SL.Pick.tail)); done) | fail) (by decide) ?_
  repeat' (first | (refine SL.TO.is ?_; first | refine SL.TO.nil ?_ | (refine SL.TO.nilD ?_; simp only [SL.setB]) | refine SL.W.pass ?_ | refine SL.W.pass0 ?_ | (refine SL.W.pure ?_; first | refine SL.W.pv ?_ | refine SL.W.pv0 ?_ | refine SL.W.lenMp ?_) | (refine SL.W.loud ?_; first | refine SL.W.load ?_ | refine SL.W.loadA ?_ | refine SL.W.store ?_ | refine SL.W.storeA ?_ | (refine SL.W.box ?_; intro b) | (refine SL.W.alloc ?_; intro b) | (refine SL.W.buildSlice ?_; intro b) | (refine SL.W.append ?_; intro a cap) | refine SL.W.bytesToStr ?_ | refine SL.W.pvn (SL.PV.toIntC (by rfl) (by first | exact SL.wrap_i64 (by omega) | exact SL.wrap_u8 (by omega) | exact SL.wrap_u32 (by omega) | exact SL.wrap_u64 (by omega) | rfl)) ?_ | (refine SL.W.makeSlice ?_; intro b) | refine SL.W.lookupOk ?_ | refine SL.W.lookup ?_ | (refine SL.W.makeMap ?_; intro b) | refine SL.W.mapUpdate ?_ | (refine SL.W.mapEntry ?_; intro stamp) | refine SL.W.entryStore ?_ | (refine SL.W.range ?_; intro it) | refine SL.W.delete ?_) | (refine SL.W.guardP (fun h => ?_) (fun h => ?_) <;> (fail_if_success (have : h = trivial := rfl)) <;> (fail_if_success (have : h = not_false := rfl)) <;> first | contradiction | (exfalso; omega) | (exfalso; revert h; simp; done) | skip) | (refine SL.W.guardB (fun h => ?_) (fun h => ?_) <;> (fail_if_success (have : h = (rfl : true = true) := rfl)) <;> (fail_if_success (have : h = (rfl : false = false) := rfl)))) | (refine SL.TK.is ?_; first | refine SL.TK.seq ?_ | refine SL.TK.region ?_ | refine SL.TK.regionD SL.mixed (by simp only [SL.falses] <;> rfl) ?_ | refine SL.TK.block ?_ | refine SL.TK.inBlock ?_ | refine SL.TK.skip ?_ | refine SL.TK.scope ?_ | refine SL.TK.inScope ?_ | refine SL.TK.label ?_ | refine SL.W.exit ?_ | refine SL.W.condT ?_ | refine SL.W.condF ?_ | (refine SL.W.condP (fun h => ?_) (fun h => ?_) <;> (fail_if_success (have : h = trivial := rfl)) <;> (fail_if_success (have : h = not_false := rfl)) <;> first | contradiction | (exfalso; omega) | (exfalso; revert h; simp; done) | skip) | refine SL.W.condB (fun h => ?_) (fun h => ?_)) | (refine SL.TD.is ?_; first | (refine SL.W.dfin ?_; simp only [List.append_nil, List.cons_append, List.nil_append]) | refine SL.W.dpass ?_ | refine SL.W.dpure ?_ | refine SL.W.dload ?_ | refine SL.W.dloadA ?_ | refine SL.W.dfrz ?_ | (refine SL.W.dthaw ?_; simp only [List.append_nil, List.cons_append, List.nil_append]) | (refine SL.W.dguardP (fun h => ?_) (fun h => ?_) <;> (fail_if_success (have : h = trivial := rfl)) <;> (fail_if_success (have : h = not_false := rfl)) <;> first | contradiction | (exfalso; omega) | (exfalso; revert h; simp; done) | skip) | (refine SL.W.dguardB (fun h => ?_) (fun h => ?_) <;> (fail_if_success (have : h = (rfl : true = true) := rfl)) <;> (fail_if_success (have : h = (rfl : false = false) := rfl))) | refine SL.W.done ?_ | refine SL.W.dtwo ?_ ?_ | refine SL.W.dthree ?_ ?_ ?_))
  exact SL.TK.retR (SL.RK.mark (by first | ((repeat (first | exact SL.Pick.head | apply SL.Pick.tail)); done) | fail) (SL.RK.done Tryz.func60 (SL.Res.one rfl (by rfl)) ⟨_, _, rfl, rfl⟩ (EntD.cons (by first | ((repeat (first | exact SL.Pick.head | apply SL.Pick.tail)); done) | fail) (EntD.cons (by first | ((repeat (first | exact SL.Pick.head | apply SL.Pick.tail)); done) | fail) EntD.nil))))
end SL.Lz
end
section
set_option linter.unusedVariables false
set_option linter.unusedSimpArgs false
set_option maxRecDepth 10000
namespace SL.Lz
open Go Go.Proofs Go.RowKit
def idls (ks : List Int) (T : As2) : As2 := ks.foldl (fun T q => idl q T) T
theorem idls_snoc (ks : List Int) (q : Int) (T : As2) : idls (ks ++ [q]) T = idl q (idls ks T) := by simp [idls]
attribute [local irreducible] SL.TK SL.TO SL.TD SL.PV SL.Pick SL.Frm SL.Ent SL.Sub SL.EvAll SL.seps SL.sep SL.Cut SL.PutAt SL.blk SL.EvP SL.Fill SL.Src SL.EntD SL.own SL.ex SL.fact SL.orig
def exInv (nb b0 cap : Nat) (T : As2) (ks : List Int) (ex : List Value) (ρ : Env) (L : List HProp) (m : Nat) : Prop := ∃ i : Nat, i ≤ ks.length ∧
  ρ = [(0, .pointer (some ⟨nb, 0, none⟩)), (5, .slice (some ⟨b0, 0, none⟩) ks.length cap), (11, .slice (some ⟨b0, 0, none⟩) ks.length cap), (12, .int .i64 ks.length), (13, .int .i64 i)] ∧
  L = [LeasesAt nb (idls (ks.take i) T), SL.blk b0 25 (ks.map iv ++ ex)] ∧ m = ks.length - i
theorem expire_spec (N : Nat) (hN : N < 1000000) (hsort : SortN N) (nb : Nat) (T : As2) (hT : T.length ≤ N) (now : Int) :
    Spec Tryz.prog 63 [.pointer (some ⟨nb, 0, none⟩), .int .u64 now] [LeasesAt nb T]
      (fun r L => ∃ a c, r = .slice a (selC T false now (srt (T.map (·.1)))).length c ∧ L = [LeasesAt nb (idls (selC T false now (srt (T.map (·.1)))) T), own 25 1 a (selC T false now (srt (T.map (·.1)))).length c ((selC T false now (srt (T.map (·.1)))).map iv)]) := by
  have hw := which_spec N hN hsort nb T hT false now
  have hkb : (selC T false now (srt (T.map (·.1)))).length ≤ N := Nat.le_trans (List.length_filter_le _ _) (by rw [srt_length, List.length_map]; exact hT)
  obtain ⟨ks, hks⟩ : ∃ ks, ks = selC T false now (srt (T.map (·.1))) := ⟨_, rfl⟩
  rw [← hks] at hw hkb ⊢
  clear hks hsort
  refine SL.Spec.of_TK Go.Proofs.Tryz.func63 rfl rfl SL.call63 rfl ?_
  by_cases h0 : ks.length = 0
  · have he : ks = [] := List.eq_nil_of_length_eq_zero h0
    subst he
    repeat' (first | (refine SL.TO.is ?_; first | (refine SL.TO.door (o := ⟨_, .call ⟨.value (.func 98), _, _⟩, _, _, _, _⟩) ?_; first | (refine SL.W.call (hw) ?_; rintro _ _ ⟨a, c, rfl, rfl⟩; try simp only [List.cons_append, List.nil_append])) | refine SL.TO.nil ?_ | (refine SL.TO.nilD ?_; simp only [SL.setB]) | refine SL.W.pass ?_ | refine SL.W.pass0 ?_ | (refine SL.W.pure ?_; first | refine SL.W.pv ?_ | refine SL.W.pv0 ?_ | refine SL.W.lenMp ?_) | (refine SL.W.loud ?_; first | refine SL.W.load ?_ | refine SL.W.loadA ?_ | refine SL.W.store ?_ | refine SL.W.storeA ?_ | (refine SL.W.box ?_; intro b) | (refine SL.W.alloc ?_; intro b) | (refine SL.W.buildSlice ?_; intro b) | (refine SL.W.append ?_; intro a cap) | refine SL.W.bytesToStr ?_ | refine SL.W.pvn (SL.PV.toIntC (by rfl) (by first | exact SL.wrap_i64 (by omega) | exact SL.wrap_u8 (by omega) | exact SL.wrap_u32 (by omega) | exact SL.wrap_u64 (by omega) | rfl)) ?_ | (refine SL.W.makeSlice ?_; intro b) | refine SL.W.lookupOk ?_ | refine SL.W.lookup ?_ | (refine SL.W.makeMap ?_; intro b) | refine SL.W.mapUpdate ?_ | (refine SL.W.mapEntry ?_; intro stamp) | refine SL.W.entryStore ?_ | (refine SL.W.range ?_; intro it) | refine SL.W.delete ?_) | (refine SL.W.guardP (fun h => ?_) (fun h => ?_) <;> (fail_if_success (have : h = trivial := rfl)) <;> (fail_if_success (have : h = not_false := rfl)) <;> first | contradiction | (exfalso; omega) | (exfalso; revert h; simp; done) | skip) | (refine SL.W.guardB (fun h => ?_) (fun h => ?_) <;> (fail_if_success (have : h = (rfl : true = true) := rfl)) <;> (fail_if_success (have : h = (rfl : false = false) := rfl)))) | (refine SL.TK.lp ?_; first | (refine SL.TK.block ?_; refine SL.TK.loopD (fun ρ L m => ρ = [(5, .slice a 0 c), (12, .int .i64 0), (13, .int .i64 0)] ∧ L = [LeasesAt nb T, own 25 1 a 0 c []] ∧ m = 0) ?_ (m0 := 0) ⟨rfl, rfl, rfl⟩ (by first | ((repeat (first | exact SL.Sub.nil | refine SL.Sub.cons (by rfl) (by first | rfl | exact SL.int_eq (by omega)) ?_)); done) | fail) (EntD.cons (by first | ((repeat (first | exact SL.Pick.head | apply SL.Pick.tail)); done) | fail) (EntD.cons (by first | ((repeat (first | exact SL.Pick.head | apply SL.Pick.tail)); done) | fail) EntD.nil)))) | (refine SL.TK.is ?_; first | refine SL.TK.seq ?_ | refine SL.TK.region ?_ | refine SL.TK.regionD SL.mixed (by simp only [SL.falses] <;> rfl) ?_ | refine SL.TK.block ?_ | refine SL.TK.inBlock ?_ | refine SL.TK.skip ?_ | refine SL.TK.scope ?_ | refine SL.TK.inScope ?_ | refine SL.TK.label ?_ | refine SL.W.exit ?_ | refine SL.W.condT ?_ | refine SL.W.condF ?_ | (refine SL.W.condP (fun h => ?_) (fun h => ?_) <;> (fail_if_success (have : h = trivial := rfl)) <;> (fail_if_success (have : h = not_false := rfl)) <;> first | contradiction | (exfalso; omega) | (exfalso; revert h; simp; done) | skip) | refine SL.W.condB (fun h => ?_) (fun h => ?_)) | (refine SL.TD.is ?_; first | (refine SL.W.dfin ?_; simp only [List.append_nil, List.cons_append, List.nil_append]) | refine SL.W.dpass ?_ | refine SL.W.dpure ?_ | refine SL.W.dload ?_ | refine SL.W.dloadA ?_ | refine SL.W.dfrz ?_ | (refine SL.W.dthaw ?_; simp only [List.append_nil, List.cons_append, List.nil_append]) | (refine SL.W.dguardP (fun h => ?_) (fun h => ?_) <;> (fail_if_success (have : h = trivial := rfl)) <;> (fail_if_success (have : h = not_false := rfl)) <;> first | contradiction | (exfalso; omega) | (exfalso; revert h; simp; done) | skip) | (refine SL.W.dguardB (fun h => ?_) (fun h => ?_) <;> (fail_if_success (have : h = (rfl : true = true) := rfl)) <;> (fail_if_success (have : h = (rfl : false = false) := rfl))) | refine SL.W.done ?_ | refine SL.W.dtwo ?_ ?_ | refine SL.W.dthree ?_ ?_ ?_))
    rintro ρ L m ⟨rfl, rfl, rfl⟩ ih
    clear ih
    repeat' (first | (refine SL.TO.is ?_; first | refine SL.TO.nil ?_ | (refine SL.TO.nilD ?_; simp only [SL.setB]) | refine SL.W.pass ?_ | refine SL.W.pass0 ?_ | (refine SL.W.pure ?_; first | refine SL.W.pv ?_ | refine SL.W.pv0 ?_ | refine SL.W.lenMp ?_) | (refine SL.W.loud ?_; first | refine SL.W.load ?_ | refine SL.W.loadA ?_ | refine SL.W.store ?_ | refine SL.W.storeA ?_ | (refine SL.W.box ?_; intro b) | (refine SL.W.alloc ?_; intro b) | (refine SL.W.buildSlice ?_; intro b) | (refine SL.W.append ?_; intro a cap) | refine SL.W.bytesToStr ?_ | refine SL.W.pvn (SL.PV.toIntC (by rfl) (by first | exact SL.wrap_i64 (by omega) | exact SL.wrap_u8 (by omega) | exact SL.wrap_u32 (by omega) | exact SL.wrap_u64 (by omega) | rfl)) ?_ | (refine SL.W.makeSlice ?_; intro b) | refine SL.W.lookupOk ?_ | refine SL.W.lookup ?_ | (refine SL.W.makeMap ?_; intro b) | refine SL.W.mapUpdate ?_ | (refine SL.W.mapEntry ?_; intro stamp) | refine SL.W.entryStore ?_ | (refine SL.W.range ?_; intro it) | refine SL.W.delete ?_) | (refine SL.W.guardP (fun h => ?_) (fun h => ?_) <;> (fail_if_success (have : h = trivial := rfl)) <;> (fail_if_success (have : h = not_false := rfl)) <;> first | contradiction | (exfalso; omega) | (exfalso; revert h; simp; done) | skip) | (refine SL.W.guardB (fun h => ?_) (fun h => ?_) <;> (fail_if_success (have : h = (rfl : true = true) := rfl)) <;> (fail_if_success (have : h = (rfl : false = false) := rfl)))) | (refine SL.TK.is ?_; first | refine SL.TK.seq ?_ | refine SL.TK.region ?_ | refine SL.TK.regionD SL.mixed (by simp only [SL.falses] <;> rfl) ?_ | refine SL.TK.block ?_ | refine SL.TK.inBlock ?_ | refine SL.TK.skip ?_ | refine SL.TK.scope ?_ | refine SL.TK.inScope ?_ | refine SL.TK.label ?_ | refine SL.W.exit ?_ | refine SL.W.condT ?_ | refine SL.W.condF ?_ | (refine SL.W.condP (fun h => ?_) (fun h => ?_) <;> (fail_if_success (have : h = trivial := rfl)) <;> (fail_if_success (have : h = not_false := rfl)) <;> first | contradiction | (exfalso; omega) | (exfalso; revert h; simp; done) | skip) | refine SL.W.condB (fun h => ?_) (fun h => ?_)) | (refine SL.TD.is ?_; first | (refine SL.W.dfin ?_; simp only [List.append_nil, List.cons_append, List.nil_append]) | refine SL.W.dpass ?_ | refine SL.W.dpure ?_ | refine SL.W.dload ?_ | refine SL.W.dloadA ?_ | refine SL.W.dfrz ?_ | (refine SL.W.dthaw ?_; simp only [List.append_nil, List.cons_append, List.nil_append]) | (refine SL.W.dguardP (fun h => ?_) (fun h => ?_) <;> (fail_if_success (have : h = trivial := rfl)) <;> (fail_if_success (have : h = not_false := rfl)) <;> first | contradiction | (exfalso; omega) | (exfalso; revert h; simp; done) | skip) | (refine SL.W.dguardB (fun h => ?_) (fun h => ?_) <;> (fail_if_success (have : h = (rfl : true = true) := rfl)) <;> (fail_if_success (have : h = (rfl : false = false) := rfl))) | refine SL.W.done ?_ | refine SL.W.dtwo ?_ ?_ | refine SL.W.dthree ?_ ?_ ?_))
    exact SL.TK.retD Tryz.func63 (SL.Res.one rfl (by rfl)) ⟨_, _, rfl, rfl⟩ (EntD.cons (by first | ((repeat (first | exact SL.Pick.head | apply SL.Pick.tail)); done) | fail) (EntD.cons (by first | ((repeat (first | exact SL.Pick.head | apply SL.Pick.tail)); done) | fail) EntD.nil))
  · repeat' (first | (refine SL.TO.is ?_; first | (refine SL.TO.door (o := ⟨_, .call ⟨.value (.func 98), _, _⟩, _, _, _, _⟩) ?_; first | (refine SL.W.call (hw) ?_; rintro _ _ ⟨a, c, rfl, rfl⟩; try simp only [List.cons_append, List.nil_append])) | refine SL.TO.nil ?_ | (refine SL.TO.nilD ?_; simp only [SL.setB]) | refine SL.W.pass ?_ | refine SL.W.pass0 ?_ | (refine SL.W.pure ?_; first | refine SL.W.pv ?_ | refine SL.W.pv0 ?_ | refine SL.W.lenMp ?_) | (refine SL.W.loud ?_; first | refine SL.W.load ?_ | refine SL.W.loadA ?_ | refine SL.W.store ?_ | refine SL.W.storeA ?_ | (refine SL.W.box ?_; intro b) | (refine SL.W.alloc ?_; intro b) | (refine SL.W.buildSlice ?_; intro b) | (refine SL.W.append ?_; intro a cap) | refine SL.W.bytesToStr ?_ | refine SL.W.pvn (SL.PV.toIntC (by rfl) (by first | exact SL.wrap_i64 (by omega) | exact SL.wrap_u8 (by omega) | exact SL.wrap_u32 (by omega) | exact SL.wrap_u64 (by omega) | rfl)) ?_ | (refine SL.W.makeSlice ?_; intro b) | refine SL.W.lookupOk ?_ | refine SL.W.lookup ?_ | (refine SL.W.makeMap ?_; intro b) | refine SL.W.mapUpdate ?_ | (refine SL.W.mapEntry ?_; intro stamp) | refine SL.W.entryStore ?_ | (refine SL.W.range ?_; intro it) | refine SL.W.delete ?_) | (refine SL.W.guardP (fun h => ?_) (fun h => ?_) <;> (fail_if_success (have : h = trivial := rfl)) <;> (fail_if_success (have : h = not_false := rfl)) <;> first | contradiction | (exfalso; omega) | (exfalso; revert h; simp; done) | skip) | (refine SL.W.guardB (fun h => ?_) (fun h => ?_) <;> (fail_if_success (have : h = (rfl : true = true) := rfl)) <;> (fail_if_success (have : h = (rfl : false = false) := rfl)))) | (refine SL.TK.lp ?_; first | (refine SL.TK.block ?_; refine SL.TK.ownPos (e := 25) (sz := 1) (a := a) (by first | ((repeat (first | exact SL.Pick.head | apply SL.Pick.tail)); done) | fail) (by omega) (fun b0 ex ea e1 e2 e3 => ?_); subst ea; refine SL.TK.loopD (exInv nb b0 c T ks ex) ?_ ⟨0, Nat.zero_le _, rfl, rfl, rfl⟩ (by first | ((repeat (first | exact SL.Sub.nil | refine SL.Sub.cons (by rfl) (by first | rfl | exact SL.int_eq (by omega)) ?_)); done) | fail) (EntD.cons (by first | ((repeat (first | exact SL.Pick.head | apply SL.Pick.tail)); done) | fail) (EntD.cons (by first | ((repeat (first | exact SL.Pick.head | apply SL.Pick.tail)); done) | fail) EntD.nil)))) | (refine SL.TK.is ?_; first | refine SL.TK.seq ?_ | refine SL.TK.region ?_ | refine SL.TK.regionD SL.mixed (by simp only [SL.falses] <;> rfl) ?_ | refine SL.TK.block ?_ | refine SL.TK.inBlock ?_ | refine SL.TK.skip ?_ | refine SL.TK.scope ?_ | refine SL.TK.inScope ?_ | refine SL.TK.label ?_ | refine SL.W.exit ?_ | refine SL.W.condT ?_ | refine SL.W.condF ?_ | (refine SL.W.condP (fun h => ?_) (fun h => ?_) <;> (fail_if_success (have : h = trivial := rfl)) <;> (fail_if_success (have : h = not_false := rfl)) <;> first | contradiction | (exfalso; omega) | (exfalso; revert h; simp; done) | skip) | refine SL.W.condB (fun h => ?_) (fun h => ?_)) | (refine SL.TD.is ?_; first | (refine SL.W.dfin ?_; simp only [List.append_nil, List.cons_append, List.nil_append]) | refine SL.W.dpass ?_ | refine SL.W.dpure ?_ | refine SL.W.dload ?_ | refine SL.W.dloadA ?_ | refine SL.W.dfrz ?_ | (refine SL.W.dthaw ?_; simp only [List.append_nil, List.cons_append, List.nil_append]) | (refine SL.W.dguardP (fun h => ?_) (fun h => ?_) <;> (fail_if_success (have : h = trivial := rfl)) <;> (fail_if_success (have : h = not_false := rfl)) <;> first | contradiction | (exfalso; omega) | (exfalso; revert h; simp; done) | skip) | (refine SL.W.dguardB (fun h => ?_) (fun h => ?_) <;> (fail_if_success (have : h = (rfl : true = true) := rfl)) <;> (fail_if_success (have : h = (rfl : false = false) := rfl))) | refine SL.W.done ?_ | refine SL.W.dtwo ?_ ?_ | refine SL.W.dthree ?_ ?_ ?_))
    have hE := Lib.hid (And.intro e1 e2)
    clear e1 e2 h0 hw
    rintro ρ L m ⟨i, hi, rfl, rfl, rfl⟩ ih
    by_cases hlt : i < ks.length
    · obtain ⟨q, hq⟩ : ∃ q, nat_ ks i = q := ⟨_, rfl⟩
      have hn := nth_ints (ex := ex) hlt
      rw [hq] at hn
      unfold iv at hn
      have htk : ks.take (i + 1) = ks.take i ++ [q] := by rw [List.take_add_one, List.getElem?_eq_getElem hlt, nat_eq hlt, hq]; rfl
      have hTK := Lib.hid htk
      clear htk hq
      refine SL.Lz.TK.openLs (by first | ((repeat (first | exact SL.Pick.head | apply SL.Pick.tail)); done) | fail) (fun mb => ?_)
      repeat' (first | (refine SL.TO.is ?_; first | (refine SL.TO.door (o := ⟨_, .load _ _, _, _, _, _⟩) ?_; first | refine SL.W.loadN hn ?_) | refine SL.TO.nil ?_ | (refine SL.TO.nilD ?_; simp only [SL.setB]) | refine SL.W.pass ?_ | refine SL.W.pass0 ?_ | (refine SL.W.pure ?_; first | refine SL.W.pv ?_ | refine SL.W.pv0 ?_ | refine SL.W.lenMp ?_) | (refine SL.W.loud ?_; first | refine SL.W.load ?_ | refine SL.W.loadA ?_ | refine SL.W.store ?_ | refine SL.W.storeA ?_ | (refine SL.W.box ?_; intro b) | (refine SL.W.alloc ?_; intro b) | (refine SL.W.buildSlice ?_; intro b) | (refine SL.W.append ?_; intro a cap) | refine SL.W.bytesToStr ?_ | refine SL.W.pvn (SL.PV.toIntC (by rfl) (by first | exact SL.wrap_i64 (by omega) | exact SL.wrap_u8 (by omega) | exact SL.wrap_u32 (by omega) | exact SL.wrap_u64 (by omega) | rfl)) ?_ | (refine SL.W.makeSlice ?_; intro b) | refine SL.W.lookupOk ?_ | refine SL.W.lookup ?_ | (refine SL.W.makeMap ?_; intro b) | refine SL.W.mapUpdate ?_ | (refine SL.W.mapEntry ?_; intro stamp) | refine SL.W.entryStore ?_ | (refine SL.W.range ?_; intro it) | refine SL.W.delete ?_) | (refine SL.W.guardP (fun h => ?_) (fun h => ?_) <;> (fail_if_success (have : h = trivial := rfl)) <;> (fail_if_success (have : h = not_false := rfl)) <;> first | contradiction | (exfalso; omega) | (exfalso; revert h; simp; done) | skip) | (refine SL.W.guardB (fun h => ?_) (fun h => ?_) <;> (fail_if_success (have : h = (rfl : true = true) := rfl)) <;> (fail_if_success (have : h = (rfl : false = false) := rfl)))) | (refine SL.TK.is ?_; first | refine SL.TK.seq ?_ | refine SL.TK.region ?_ | refine SL.TK.regionD SL.mixed (by simp only [SL.falses] <;> rfl) ?_ | refine SL.TK.block ?_ | refine SL.TK.inBlock ?_ | refine SL.TK.skip ?_ | refine SL.TK.scope ?_ | refine SL.TK.inScope ?_ | refine SL.TK.label ?_ | refine SL.W.exit ?_ | refine SL.W.condT ?_ | refine SL.W.condF ?_ | (refine SL.W.condP (fun h => ?_) (fun h => ?_) <;> (fail_if_success (have : h = trivial := rfl)) <;> (fail_if_success (have : h = not_false := rfl)) <;> first | contradiction | (exfalso; omega) | (exfalso; revert h; simp; done) | skip) | refine SL.W.condB (fun h => ?_) (fun h => ?_)) | (refine SL.TD.is ?_; first | (refine SL.W.dfin ?_; simp only [List.append_nil, List.cons_append, List.nil_append]) | refine SL.W.dpass ?_ | refine SL.W.dpure ?_ | refine SL.W.dload ?_ | refine SL.W.dloadA ?_ | refine SL.W.dfrz ?_ | (refine SL.W.dthaw ?_; simp only [List.append_nil, List.cons_append, List.nil_append]) | (refine SL.W.dguardP (fun h => ?_) (fun h => ?_) <;> (fail_if_success (have : h = trivial := rfl)) <;> (fail_if_success (have : h = not_false := rfl)) <;> first | contradiction | (exfalso; omega) | (exfalso; revert h; simp; done) | skip) | (refine SL.W.dguardB (fun h => ?_) (fun h => ?_) <;> (fail_if_success (have : h = (rfl : true = true) := rfl)) <;> (fail_if_success (have : h = (rfl : false = false) := rfl))) | refine SL.W.done ?_ | refine SL.W.dtwo ?_ ?_ | refine SL.W.dthree ?_ ?_ ?_))
      refine SL.TK.againD ih ⟨i + 1, by omega, rfl, rfl, rfl⟩ (by first | ((repeat (first | exact SL.Sub.nil | refine SL.Sub.cons (by rfl) (by first | rfl | exact SL.int_eq (by omega)) ?_)); done) | fail) ?_ (by omega)
      rw [hTK.out, idls_snoc, del_pv]
      exact EntD.frm (by first | ((repeat (first | exact SL.Frm.nil | exact SL.Frm.refl | (apply SL.Frm.cons; repeat (first | exact SL.Pick.head | apply SL.Pick.tail)))); done) | fail) ls_shut (EntD.cons (by first | ((repeat (first | exact SL.Pick.head | apply SL.Pick.tail)); done) | fail) EntD.nil)
    · have hil : i = ks.length := by omega
      subst hil
      rw [List.take_length]
      clear ih
      repeat' (first | (refine SL.TO.is ?_; first | refine SL.TO.nil ?_ | (refine SL.TO.nilD ?_; simp only [SL.setB]) | refine SL.W.pass ?_ | refine SL.W.pass0 ?_ | (refine SL.W.pure ?_; first | refine SL.W.pv ?_ | refine SL.W.pv0 ?_ | refine SL.W.lenMp ?_) | (refine SL.W.loud ?_; first | refine SL.W.load ?_ | refine SL.W.loadA ?_ | refine SL.W.store ?_ | refine SL.W.storeA ?_ | (refine SL.W.box ?_; intro b) | (refine SL.W.alloc ?_; intro b) | (refine SL.W.buildSlice ?_; intro b) | (refine SL.W.append ?_; intro a cap) | refine SL.W.bytesToStr ?_ | refine SL.W.pvn (SL.PV.toIntC (by rfl) (by first | exact SL.wrap_i64 (by omega) | exact SL.wrap_u8 (by omega) | exact SL.wrap_u32 (by omega) | exact SL.wrap_u64 (by omega) | rfl)) ?_ | (refine SL.W.makeSlice ?_; intro b) | refine SL.W.lookupOk ?_ | refine SL.W.lookup ?_ | (refine SL.W.makeMap ?_; intro b) | refine SL.W.mapUpdate ?_ | (refine SL.W.mapEntry ?_; intro stamp) | refine SL.W.entryStore ?_ | (refine SL.W.range ?_; intro it) | refine SL.W.delete ?_) | (refine SL.W.guardP (fun h => ?_) (fun h => ?_) <;> (fail_if_success (have : h = trivial := rfl)) <;> (fail_if_success (have : h = not_false := rfl)) <;> first | contradiction | (exfalso; omega) | (exfalso; revert h; simp; done) | skip) | (refine SL.W.guardB (fun h => ?_) (fun h => ?_) <;> (fail_if_success (have : h = (rfl : true = true) := rfl)) <;> (fail_if_success (have : h = (rfl : false = false) := rfl)))) | (refine SL.TK.is ?_; first | refine SL.TK.seq ?_ | refine SL.TK.region ?_ | refine SL.TK.regionD SL.mixed (by simp only [SL.falses] <;> rfl) ?_ | refine SL.TK.block ?_ | refine SL.TK.inBlock ?_ | refine SL.TK.skip ?_ | refine SL.TK.scope ?_ | refine SL.TK.inScope ?_ | refine SL.TK.label ?_ | refine SL.W.exit ?_ | refine SL.W.condT ?_ | refine SL.W.condF ?_ | (refine SL.W.condP (fun h => ?_) (fun h => ?_) <;> (fail_if_success (have : h = trivial := rfl)) <;> (fail_if_success (have : h = not_false := rfl)) <;> first | contradiction | (exfalso; omega) | (exfalso; revert h; simp; done) | skip) | refine SL.W.condB (fun h => ?_) (fun h => ?_)) | (refine SL.TD.is ?_; first | (refine SL.W.dfin ?_; simp only [List.append_nil, List.cons_append, List.nil_append]) | refine SL.W.dpass ?_ | refine SL.W.dpure ?_ | refine SL.W.dload ?_ | refine SL.W.dloadA ?_ | refine SL.W.dfrz ?_ | (refine SL.W.dthaw ?_; simp only [List.append_nil, List.cons_append, List.nil_append]) | (refine SL.W.dguardP (fun h => ?_) (fun h => ?_) <;> (fail_if_success (have : h = trivial := rfl)) <;> (fail_if_success (have : h = not_false := rfl)) <;> first | contradiction | (exfalso; omega) | (exfalso; revert h; simp; done) | skip) | (refine SL.W.dguardB (fun h => ?_) (fun h => ?_) <;> (fail_if_success (have : h = (rfl : true = true) := rfl)) <;> (fail_if_success (have : h = (rfl : false = false) := rfl))) | refine SL.W.done ?_ | refine SL.W.dtwo ?_ ?_ | refine SL.W.dthree ?_ ?_ ?_))
      exact SL.TK.retD Tryz.func63 (SL.Res.one rfl (by rfl)) ⟨some ⟨b0, 0, none⟩, c, rfl, rfl⟩ (EntD.cons (by first | ((repeat (first | exact SL.Pick.head | apply SL.Pick.tail)); done) | fail) (EntD.frm (by first | ((repeat (first | exact SL.Frm.nil | exact SL.Frm.refl | (apply SL.Frm.cons; repeat (first | exact SL.Pick.head | apply SL.Pick.tail)))); done) | fail) (own_of_blk hE.out.1 hE.out.2 e3) EntD.nil))
end SL.Lz
end
