/- Written by gen_ty.py: facts on this seat's types and functions, each closed. -/
import Derived.Test.YtmnolaklpihmnaaSl15
import Derived.Test.YtmnolaklpihmnaaChecked
namespace SL
open Go Go.Proofs

instance : TSc Go.Proofs.Try.prog 2 := ⟨fun _ => ⟨by kernel_rfl, by kernel_rfl⟩⟩
instance : TIn Go.Proofs.Try.prog 2 .i64 := ⟨by kernel_rfl⟩
instance : TZe Go.Proofs.Try.prog 2 (.int .i64 0) := ⟨fun _ => by kernel_rfl⟩
instance : TKy Go.Proofs.Try.prog 2 Int (Value.int .i64) := TKy.int (by kernel_rfl)
instance : TSc Go.Proofs.Try.prog 3 := ⟨fun _ => ⟨by kernel_rfl, by kernel_rfl⟩⟩
instance : TIn Go.Proofs.Try.prog 3 .i64 := ⟨by kernel_rfl⟩
instance : TZe Go.Proofs.Try.prog 3 (.int .i64 0) := ⟨fun _ => by kernel_rfl⟩
instance : TKy Go.Proofs.Try.prog 3 Int (Value.int .i64) := TKy.int (by kernel_rfl)
instance : TSc Go.Proofs.Try.prog 4 := ⟨fun _ => ⟨by kernel_rfl, by kernel_rfl⟩⟩
instance : TBo Go.Proofs.Try.prog 4 := ⟨by kernel_rfl⟩
instance : TZe Go.Proofs.Try.prog 4 (.bool false) := ⟨fun _ => by kernel_rfl⟩
instance : TSc Go.Proofs.Try.prog 5 := ⟨fun _ => ⟨by kernel_rfl, by kernel_rfl⟩⟩
instance : TIn Go.Proofs.Try.prog 5 .u8 := ⟨by kernel_rfl⟩
instance : TZe Go.Proofs.Try.prog 5 (.int .u8 0) := ⟨fun _ => by kernel_rfl⟩
instance : TKy Go.Proofs.Try.prog 5 Int (Value.int .u8) := TKy.int (by kernel_rfl)
instance : TAg Go.Proofs.Try.prog 7 4 := ⟨fun _ => ⟨by kernel_rfl, by kernel_rfl⟩⟩
instance : TZe Go.Proofs.Try.prog 7 (.agg #[.int .i64 0, .int .i64 0, .bool false, .int .u8 0]) := ⟨fun _ => by kernel_rfl⟩
instance : TFa Go.Proofs.Try.prog 7 0 0 := ⟨fun _ _ _ => by kernel_rfl⟩
instance : TFv Go.Proofs.Try.prog 7 0 0 1 false := ⟨by kernel_rfl⟩
instance : TFa Go.Proofs.Try.prog 7 1 1 := ⟨fun _ _ _ => by kernel_rfl⟩
instance : TFv Go.Proofs.Try.prog 7 1 1 1 false := ⟨by kernel_rfl⟩
instance : TFa Go.Proofs.Try.prog 7 2 2 := ⟨fun _ _ _ => by kernel_rfl⟩
instance : TFv Go.Proofs.Try.prog 7 2 2 1 false := ⟨by kernel_rfl⟩
instance : TFa Go.Proofs.Try.prog 7 3 3 := ⟨fun _ _ _ => by kernel_rfl⟩
instance : TFv Go.Proofs.Try.prog 7 3 3 1 false := ⟨by kernel_rfl⟩
instance : TSt Go.Proofs.Try.prog 7 [.int .i64 0, .int .i64 0, .bool false, .int .u8 0] [(0, 1), (1, 1), (2, 1), (3, 1)] := ⟨fun _ => by kernel_rfl, by kernel_rfl⟩
instance : TSc Go.Proofs.Try.prog 9 := ⟨fun _ => ⟨by kernel_rfl, by kernel_rfl⟩⟩
instance : TZe Go.Proofs.Try.prog 9 (.string ByteArray.empty) := ⟨fun _ => by kernel_rfl⟩
instance : TNI Go.Proofs.Try.prog 9 := TNI.mk' (by kernel_rfl)
instance : TSc Go.Proofs.Try.prog 12 := ⟨fun _ => ⟨by kernel_rfl, by kernel_rfl⟩⟩
instance : TIn Go.Proofs.Try.prog 12 .u64 := ⟨by kernel_rfl⟩
instance : TZe Go.Proofs.Try.prog 12 (.int .u64 0) := ⟨fun _ => by kernel_rfl⟩
instance : TKy Go.Proofs.Try.prog 12 Int (Value.int .u64) := TKy.int (by kernel_rfl)
instance : TAg Go.Proofs.Try.prog 13 2 := ⟨fun _ => ⟨by kernel_rfl, by kernel_rfl⟩⟩
instance : TZe Go.Proofs.Try.prog 13 (.agg #[.string ByteArray.empty, .int .u64 0]) := ⟨fun _ => by kernel_rfl⟩
instance : TFa Go.Proofs.Try.prog 13 0 0 := ⟨fun _ _ _ => by kernel_rfl⟩
instance : TFv Go.Proofs.Try.prog 13 0 0 1 false := ⟨by kernel_rfl⟩
instance : TFa Go.Proofs.Try.prog 13 1 1 := ⟨fun _ _ _ => by kernel_rfl⟩
instance : TFv Go.Proofs.Try.prog 13 1 1 1 false := ⟨by kernel_rfl⟩
instance : TSt Go.Proofs.Try.prog 13 [.string ByteArray.empty, .int .u64 0] [(0, 1), (1, 1)] := ⟨fun _ => by kernel_rfl, by kernel_rfl⟩
instance : TAg Go.Proofs.Try.prog 18 1 := ⟨fun _ => ⟨by kernel_rfl, by kernel_rfl⟩⟩
instance : TZe Go.Proofs.Try.prog 18 (.agg #[.pointer none]) := ⟨fun _ => by kernel_rfl⟩
instance : TFa Go.Proofs.Try.prog 18 0 0 := ⟨fun _ _ _ => by kernel_rfl⟩
instance : TFv Go.Proofs.Try.prog 18 0 0 1 false := ⟨by kernel_rfl⟩
instance : TSt Go.Proofs.Try.prog 18 [.pointer none] [(0, 1)] := ⟨fun _ => by kernel_rfl, by kernel_rfl⟩
instance : TSc Go.Proofs.Try.prog 21 := ⟨fun _ => ⟨by kernel_rfl, by kernel_rfl⟩⟩
instance : TIn Go.Proofs.Try.prog 21 .i32 := ⟨by kernel_rfl⟩
instance : TZe Go.Proofs.Try.prog 21 (.int .i32 0) := ⟨fun _ => by kernel_rfl⟩
instance : TKy Go.Proofs.Try.prog 21 Int (Value.int .i32) := TKy.int (by kernel_rfl)
instance : TSc Go.Proofs.Try.prog 22 := ⟨fun _ => ⟨by kernel_rfl, by kernel_rfl⟩⟩
instance : TZe Go.Proofs.Try.prog 22 (.slice none 0 0) := ⟨fun _ => by kernel_rfl⟩
instance : TSl Go.Proofs.Try.prog 22 31 4 48 := ⟨by kernel_rfl, fun _ => by kernel_rfl, fun _ => by kernel_rfl, by kernel_rfl⟩
instance : TNI Go.Proofs.Try.prog 22 := TNI.mk' (by kernel_rfl)
instance : TSc Go.Proofs.Try.prog 23 := ⟨fun _ => ⟨by kernel_rfl, by kernel_rfl⟩⟩
instance : TZe Go.Proofs.Try.prog 23 (.pointer none) := ⟨fun _ => by kernel_rfl⟩
instance : TPt Go.Proofs.Try.prog 23 := ⟨⟨56, by kernel_rfl⟩⟩
instance : TSc Go.Proofs.Try.prog 25 := ⟨fun _ => ⟨by kernel_rfl, by kernel_rfl⟩⟩
instance : TZe Go.Proofs.Try.prog 25 (.map none) := ⟨fun _ => by kernel_rfl⟩
instance : TMp Go.Proofs.Try.prog 25 39 29 := ⟨by kernel_rfl⟩
instance : TSc Go.Proofs.Try.prog 26 := ⟨fun _ => ⟨by kernel_rfl, by kernel_rfl⟩⟩
instance : TZe Go.Proofs.Try.prog 26 (.map none) := ⟨fun _ => by kernel_rfl⟩
instance : TMp Go.Proofs.Try.prog 26 27 28 := ⟨by kernel_rfl⟩
instance : TSc Go.Proofs.Try.prog 27 := ⟨fun _ => ⟨by kernel_rfl, by kernel_rfl⟩⟩
instance : TIn Go.Proofs.Try.prog 27 .u32 := ⟨by kernel_rfl⟩
instance : TZe Go.Proofs.Try.prog 27 (.int .u32 0) := ⟨fun _ => by kernel_rfl⟩
instance : TKy Go.Proofs.Try.prog 27 Int (Value.int .u32) := TKy.int (by kernel_rfl)
instance : TSc Go.Proofs.Try.prog 28 := ⟨fun _ => ⟨by kernel_rfl, by kernel_rfl⟩⟩
instance : TIn Go.Proofs.Try.prog 28 .u64 := ⟨by kernel_rfl⟩
instance : TZe Go.Proofs.Try.prog 28 (.int .u64 0) := ⟨fun _ => by kernel_rfl⟩
instance : TKy Go.Proofs.Try.prog 28 Int (Value.int .u64) := TKy.int (by kernel_rfl)
instance : TSc Go.Proofs.Try.prog 29 := ⟨fun _ => ⟨by kernel_rfl, by kernel_rfl⟩⟩
instance : TZe Go.Proofs.Try.prog 29 (.slice none 0 0) := ⟨fun _ => by kernel_rfl⟩
instance : TSl Go.Proofs.Try.prog 29 5 1 1 := ⟨by kernel_rfl, fun _ => by kernel_rfl, fun _ => by kernel_rfl, by kernel_rfl⟩
instance : TNI Go.Proofs.Try.prog 29 := TNI.mk' (by kernel_rfl)
instance : TAg Go.Proofs.Try.prog 30 4 := ⟨fun _ => ⟨by kernel_rfl, by kernel_rfl⟩⟩
instance : TZe Go.Proofs.Try.prog 30 (.agg #[.int .i64 0, .int .u32 0, .int .u64 0, .slice none 0 0]) := ⟨fun _ => by kernel_rfl⟩
instance : TFa Go.Proofs.Try.prog 30 0 0 := ⟨fun _ _ _ => by kernel_rfl⟩
instance : TFv Go.Proofs.Try.prog 30 0 0 1 false := ⟨by kernel_rfl⟩
instance : TFa Go.Proofs.Try.prog 30 1 1 := ⟨fun _ _ _ => by kernel_rfl⟩
instance : TFv Go.Proofs.Try.prog 30 1 1 1 false := ⟨by kernel_rfl⟩
instance : TFa Go.Proofs.Try.prog 30 2 2 := ⟨fun _ _ _ => by kernel_rfl⟩
instance : TFv Go.Proofs.Try.prog 30 2 2 1 false := ⟨by kernel_rfl⟩
instance : TFa Go.Proofs.Try.prog 30 3 3 := ⟨fun _ _ _ => by kernel_rfl⟩
instance : TFv Go.Proofs.Try.prog 30 3 3 1 false := ⟨by kernel_rfl⟩
instance : TSt Go.Proofs.Try.prog 30 [.int .i64 0, .int .u32 0, .int .u64 0, .slice none 0 0] [(0, 1), (1, 1), (2, 1), (3, 1)] := ⟨fun _ => by kernel_rfl, by kernel_rfl⟩
instance : TAg Go.Proofs.Try.prog 31 4 := ⟨fun _ => ⟨by kernel_rfl, by kernel_rfl⟩⟩
instance : TZe Go.Proofs.Try.prog 31 (.agg #[.int .i64 0, .int .u32 0, .int .u64 0, .slice none 0 0]) := ⟨fun _ => by kernel_rfl⟩
instance : TFa Go.Proofs.Try.prog 31 0 0 := ⟨fun _ _ _ => by kernel_rfl⟩
instance : TFv Go.Proofs.Try.prog 31 0 0 1 false := ⟨by kernel_rfl⟩
instance : TFa Go.Proofs.Try.prog 31 1 1 := ⟨fun _ _ _ => by kernel_rfl⟩
instance : TFv Go.Proofs.Try.prog 31 1 1 1 false := ⟨by kernel_rfl⟩
instance : TFa Go.Proofs.Try.prog 31 2 2 := ⟨fun _ _ _ => by kernel_rfl⟩
instance : TFv Go.Proofs.Try.prog 31 2 2 1 false := ⟨by kernel_rfl⟩
instance : TFa Go.Proofs.Try.prog 31 3 3 := ⟨fun _ _ _ => by kernel_rfl⟩
instance : TFv Go.Proofs.Try.prog 31 3 3 1 false := ⟨by kernel_rfl⟩
instance : TSt Go.Proofs.Try.prog 31 [.int .i64 0, .int .u32 0, .int .u64 0, .slice none 0 0] [(0, 1), (1, 1), (2, 1), (3, 1)] := ⟨fun _ => by kernel_rfl, by kernel_rfl⟩
instance : TSc Go.Proofs.Try.prog 33 := ⟨fun _ => ⟨by kernel_rfl, by kernel_rfl⟩⟩
instance : TIn Go.Proofs.Try.prog 33 .i64 := ⟨by kernel_rfl⟩
instance : TZe Go.Proofs.Try.prog 33 (.int .i64 0) := ⟨fun _ => by kernel_rfl⟩
instance : TKy Go.Proofs.Try.prog 33 Int (Value.int .i64) := TKy.int (by kernel_rfl)
instance : TAg Go.Proofs.Try.prog 38 2 := ⟨fun _ => ⟨by kernel_rfl, by kernel_rfl⟩⟩
instance : TFl Go.Proofs.Try.prog 38 [0, 0] := ⟨by kernel_rfl, by kernel_rfl, by kernel_rfl, by kernel_rfl⟩
instance : TZe Go.Proofs.Try.prog 38 (.agg #[.int .u32 0, .int .u64 0]) := ⟨fun _ => by kernel_rfl⟩
instance : TFa Go.Proofs.Try.prog 38 0 0 := ⟨fun _ _ _ => by kernel_rfl⟩
instance : TFv Go.Proofs.Try.prog 38 0 0 1 false := ⟨by kernel_rfl⟩
instance : TFa Go.Proofs.Try.prog 38 1 1 := ⟨fun _ _ _ => by kernel_rfl⟩
instance : TFv Go.Proofs.Try.prog 38 1 1 1 false := ⟨by kernel_rfl⟩
instance : TSt Go.Proofs.Try.prog 38 [.int .u32 0, .int .u64 0] [(0, 1), (1, 1)] := ⟨fun _ => by kernel_rfl, by kernel_rfl⟩
instance : TAg Go.Proofs.Try.prog 39 2 := ⟨fun _ => ⟨by kernel_rfl, by kernel_rfl⟩⟩
instance : TFl Go.Proofs.Try.prog 39 [0, 0] := ⟨by kernel_rfl, by kernel_rfl, by kernel_rfl, by kernel_rfl⟩
instance : TZe Go.Proofs.Try.prog 39 (.agg #[.int .u32 0, .int .u64 0]) := ⟨fun _ => by kernel_rfl⟩
instance : TFa Go.Proofs.Try.prog 39 0 0 := ⟨fun _ _ _ => by kernel_rfl⟩
instance : TFv Go.Proofs.Try.prog 39 0 0 1 false := ⟨by kernel_rfl⟩
instance : TFa Go.Proofs.Try.prog 39 1 1 := ⟨fun _ _ _ => by kernel_rfl⟩
instance : TFv Go.Proofs.Try.prog 39 1 1 1 false := ⟨by kernel_rfl⟩
instance : TSt Go.Proofs.Try.prog 39 [.int .u32 0, .int .u64 0] [(0, 1), (1, 1)] := ⟨fun _ => by kernel_rfl, by kernel_rfl⟩
instance : TSc Go.Proofs.Try.prog 45 := ⟨fun _ => ⟨by kernel_rfl, by kernel_rfl⟩⟩
instance : TZe Go.Proofs.Try.prog 45 (.slice none 0 0) := ⟨fun _ => by kernel_rfl⟩
instance : TSl Go.Proofs.Try.prog 45 27 1 4 := ⟨by kernel_rfl, fun _ => by kernel_rfl, fun _ => by kernel_rfl, by kernel_rfl⟩
instance : TNI Go.Proofs.Try.prog 45 := TNI.mk' (by kernel_rfl)
instance : TSc Go.Proofs.Try.prog 51 := ⟨fun _ => ⟨by kernel_rfl, by kernel_rfl⟩⟩
instance : TIn Go.Proofs.Try.prog 51 .u16 := ⟨by kernel_rfl⟩
instance : TZe Go.Proofs.Try.prog 51 (.int .u16 0) := ⟨fun _ => by kernel_rfl⟩
instance : TKy Go.Proofs.Try.prog 51 Int (Value.int .u16) := TKy.int (by kernel_rfl)
instance : TSc Go.Proofs.Try.prog 54 := ⟨fun _ => ⟨by kernel_rfl, by kernel_rfl⟩⟩
instance : TZe Go.Proofs.Try.prog 54 (.map none) := ⟨fun _ => by kernel_rfl⟩
instance : TMp Go.Proofs.Try.prog 54 27 70 := ⟨by kernel_rfl⟩
instance : TAg Go.Proofs.Try.prog 55 1 := ⟨fun _ => ⟨by kernel_rfl, by kernel_rfl⟩⟩
instance : TZe Go.Proofs.Try.prog 55 (.agg #[.map none]) := ⟨fun _ => by kernel_rfl⟩
instance : TFa Go.Proofs.Try.prog 55 0 0 := ⟨fun _ _ _ => by kernel_rfl⟩
instance : TFv Go.Proofs.Try.prog 55 0 0 1 false := ⟨by kernel_rfl⟩
instance : TSt Go.Proofs.Try.prog 55 [.map none] [(0, 1)] := ⟨fun _ => by kernel_rfl, by kernel_rfl⟩
instance : TAg Go.Proofs.Try.prog 56 1 := ⟨fun _ => ⟨by kernel_rfl, by kernel_rfl⟩⟩
instance : TZe Go.Proofs.Try.prog 56 (.agg #[.map none]) := ⟨fun _ => by kernel_rfl⟩
instance : TFa Go.Proofs.Try.prog 56 0 0 := ⟨fun _ _ _ => by kernel_rfl⟩
instance : TFv Go.Proofs.Try.prog 56 0 0 1 false := ⟨by kernel_rfl⟩
instance : TSt Go.Proofs.Try.prog 56 [.map none] [(0, 1)] := ⟨fun _ => by kernel_rfl, by kernel_rfl⟩
instance : TSc Go.Proofs.Try.prog 57 := ⟨fun _ => ⟨by kernel_rfl, by kernel_rfl⟩⟩
instance : TZe Go.Proofs.Try.prog 57 (.pointer none) := ⟨fun _ => by kernel_rfl⟩
instance : TPt Go.Proofs.Try.prog 57 := ⟨⟨60, by kernel_rfl⟩⟩
instance : TSc Go.Proofs.Try.prog 58 := ⟨fun _ => ⟨by kernel_rfl, by kernel_rfl⟩⟩
instance : TZe Go.Proofs.Try.prog 58 (.slice none 0 0) := ⟨fun _ => by kernel_rfl⟩
instance : TSl Go.Proofs.Try.prog 58 65 3 40 := ⟨by kernel_rfl, fun _ => by kernel_rfl, fun _ => by kernel_rfl, by kernel_rfl⟩
instance : TNI Go.Proofs.Try.prog 58 := TNI.mk' (by kernel_rfl)
instance : TAg Go.Proofs.Try.prog 59 1 := ⟨fun _ => ⟨by kernel_rfl, by kernel_rfl⟩⟩
instance : TZe Go.Proofs.Try.prog 59 (.agg #[.slice none 0 0]) := ⟨fun _ => by kernel_rfl⟩
instance : TFa Go.Proofs.Try.prog 59 0 0 := ⟨fun _ _ _ => by kernel_rfl⟩
instance : TFv Go.Proofs.Try.prog 59 0 0 1 false := ⟨by kernel_rfl⟩
instance : TSt Go.Proofs.Try.prog 59 [.slice none 0 0] [(0, 1)] := ⟨fun _ => by kernel_rfl, by kernel_rfl⟩
instance : TAg Go.Proofs.Try.prog 60 1 := ⟨fun _ => ⟨by kernel_rfl, by kernel_rfl⟩⟩
instance : TZe Go.Proofs.Try.prog 60 (.agg #[.slice none 0 0]) := ⟨fun _ => by kernel_rfl⟩
instance : TFa Go.Proofs.Try.prog 60 0 0 := ⟨fun _ _ _ => by kernel_rfl⟩
instance : TFv Go.Proofs.Try.prog 60 0 0 1 false := ⟨by kernel_rfl⟩
instance : TSt Go.Proofs.Try.prog 60 [.slice none 0 0] [(0, 1)] := ⟨fun _ => by kernel_rfl, by kernel_rfl⟩
instance : TAg Go.Proofs.Try.prog 64 3 := ⟨fun _ => ⟨by kernel_rfl, by kernel_rfl⟩⟩
instance : TZe Go.Proofs.Try.prog 64 (.agg #[.int .u32 0, .int .u64 0, .slice none 0 0]) := ⟨fun _ => by kernel_rfl⟩
instance : TFa Go.Proofs.Try.prog 64 0 0 := ⟨fun _ _ _ => by kernel_rfl⟩
instance : TFv Go.Proofs.Try.prog 64 0 0 1 false := ⟨by kernel_rfl⟩
instance : TFa Go.Proofs.Try.prog 64 1 1 := ⟨fun _ _ _ => by kernel_rfl⟩
instance : TFv Go.Proofs.Try.prog 64 1 1 1 false := ⟨by kernel_rfl⟩
instance : TFa Go.Proofs.Try.prog 64 2 2 := ⟨fun _ _ _ => by kernel_rfl⟩
instance : TFv Go.Proofs.Try.prog 64 2 2 1 false := ⟨by kernel_rfl⟩
instance : TSt Go.Proofs.Try.prog 64 [.int .u32 0, .int .u64 0, .slice none 0 0] [(0, 1), (1, 1), (2, 1)] := ⟨fun _ => by kernel_rfl, by kernel_rfl⟩
instance : TAg Go.Proofs.Try.prog 65 3 := ⟨fun _ => ⟨by kernel_rfl, by kernel_rfl⟩⟩
instance : TZe Go.Proofs.Try.prog 65 (.agg #[.int .u32 0, .int .u64 0, .slice none 0 0]) := ⟨fun _ => by kernel_rfl⟩
instance : TFa Go.Proofs.Try.prog 65 0 0 := ⟨fun _ _ _ => by kernel_rfl⟩
instance : TFv Go.Proofs.Try.prog 65 0 0 1 false := ⟨by kernel_rfl⟩
instance : TFa Go.Proofs.Try.prog 65 1 1 := ⟨fun _ _ _ => by kernel_rfl⟩
instance : TFv Go.Proofs.Try.prog 65 1 1 1 false := ⟨by kernel_rfl⟩
instance : TFa Go.Proofs.Try.prog 65 2 2 := ⟨fun _ _ _ => by kernel_rfl⟩
instance : TFv Go.Proofs.Try.prog 65 2 2 1 false := ⟨by kernel_rfl⟩
instance : TSt Go.Proofs.Try.prog 65 [.int .u32 0, .int .u64 0, .slice none 0 0] [(0, 1), (1, 1), (2, 1)] := ⟨fun _ => by kernel_rfl, by kernel_rfl⟩
instance : TAg Go.Proofs.Try.prog 66 1 := ⟨fun _ => ⟨by kernel_rfl, by kernel_rfl⟩⟩
instance : TZe Go.Proofs.Try.prog 66 (.agg #[.slice none 0 0]) := ⟨fun _ => by kernel_rfl⟩
instance : TFa Go.Proofs.Try.prog 66 0 0 := ⟨fun _ _ _ => by kernel_rfl⟩
instance : TFv Go.Proofs.Try.prog 66 0 0 1 false := ⟨by kernel_rfl⟩
instance : TSt Go.Proofs.Try.prog 66 [.slice none 0 0] [(0, 1)] := ⟨fun _ => by kernel_rfl, by kernel_rfl⟩
instance : TAg Go.Proofs.Try.prog 67 1 := ⟨fun _ => ⟨by kernel_rfl, by kernel_rfl⟩⟩
instance : TZe Go.Proofs.Try.prog 67 (.agg #[.slice none 0 0]) := ⟨fun _ => by kernel_rfl⟩
instance : TFa Go.Proofs.Try.prog 67 0 0 := ⟨fun _ _ _ => by kernel_rfl⟩
instance : TFv Go.Proofs.Try.prog 67 0 0 1 false := ⟨by kernel_rfl⟩
instance : TSt Go.Proofs.Try.prog 67 [.slice none 0 0] [(0, 1)] := ⟨fun _ => by kernel_rfl, by kernel_rfl⟩
instance : TAg Go.Proofs.Try.prog 69 2 := ⟨fun _ => ⟨by kernel_rfl, by kernel_rfl⟩⟩
instance : TZe Go.Proofs.Try.prog 69 (.agg #[.int .u64 0, .slice none 0 0]) := ⟨fun _ => by kernel_rfl⟩
instance : TFa Go.Proofs.Try.prog 69 0 0 := ⟨fun _ _ _ => by kernel_rfl⟩
instance : TFv Go.Proofs.Try.prog 69 0 0 1 false := ⟨by kernel_rfl⟩
instance : TFa Go.Proofs.Try.prog 69 1 1 := ⟨fun _ _ _ => by kernel_rfl⟩
instance : TFv Go.Proofs.Try.prog 69 1 1 1 false := ⟨by kernel_rfl⟩
instance : TSt Go.Proofs.Try.prog 69 [.int .u64 0, .slice none 0 0] [(0, 1), (1, 1)] := ⟨fun _ => by kernel_rfl, by kernel_rfl⟩
instance : TAg Go.Proofs.Try.prog 70 2 := ⟨fun _ => ⟨by kernel_rfl, by kernel_rfl⟩⟩
instance : TZe Go.Proofs.Try.prog 70 (.agg #[.int .u64 0, .slice none 0 0]) := ⟨fun _ => by kernel_rfl⟩
instance : TFa Go.Proofs.Try.prog 70 0 0 := ⟨fun _ _ _ => by kernel_rfl⟩
instance : TFv Go.Proofs.Try.prog 70 0 0 1 false := ⟨by kernel_rfl⟩
instance : TFa Go.Proofs.Try.prog 70 1 1 := ⟨fun _ _ _ => by kernel_rfl⟩
instance : TFv Go.Proofs.Try.prog 70 1 1 1 false := ⟨by kernel_rfl⟩
instance : TSt Go.Proofs.Try.prog 70 [.int .u64 0, .slice none 0 0] [(0, 1), (1, 1)] := ⟨fun _ => by kernel_rfl, by kernel_rfl⟩
instance : TSc Go.Proofs.Try.prog 74 := ⟨fun _ => ⟨by kernel_rfl, by kernel_rfl⟩⟩
instance : TZe Go.Proofs.Try.prog 74 (.pointer none) := ⟨fun _ => by kernel_rfl⟩
instance : TPt Go.Proofs.Try.prog 74 := ⟨⟨90, by kernel_rfl⟩⟩
instance : TSc Go.Proofs.Try.prog 85 := ⟨fun _ => ⟨by kernel_rfl, by kernel_rfl⟩⟩
instance : TZe Go.Proofs.Try.prog 85 (.pointer none) := ⟨fun _ => by kernel_rfl⟩
instance : TPt Go.Proofs.Try.prog 85 := ⟨⟨67, by kernel_rfl⟩⟩
instance : TSc Go.Proofs.Try.prog 88 := ⟨fun _ => ⟨by kernel_rfl, by kernel_rfl⟩⟩
instance : TIn Go.Proofs.Try.prog 88 .u64 := ⟨by kernel_rfl⟩
instance : TZe Go.Proofs.Try.prog 88 (.int .u64 0) := ⟨fun _ => by kernel_rfl⟩
instance : TKy Go.Proofs.Try.prog 88 Int (Value.int .u64) := TKy.int (by kernel_rfl)
instance : TAg Go.Proofs.Try.prog 89 3 := ⟨fun _ => ⟨by kernel_rfl, by kernel_rfl⟩⟩
instance : TZe Go.Proofs.Try.prog 89 (.agg #[.slice none 0 0, .int .i64 0, .bool false]) := ⟨fun _ => by kernel_rfl⟩
instance : TFa Go.Proofs.Try.prog 89 0 0 := ⟨fun _ _ _ => by kernel_rfl⟩
instance : TFv Go.Proofs.Try.prog 89 0 0 1 false := ⟨by kernel_rfl⟩
instance : TFa Go.Proofs.Try.prog 89 1 1 := ⟨fun _ _ _ => by kernel_rfl⟩
instance : TFv Go.Proofs.Try.prog 89 1 1 1 false := ⟨by kernel_rfl⟩
instance : TFa Go.Proofs.Try.prog 89 2 2 := ⟨fun _ _ _ => by kernel_rfl⟩
instance : TFv Go.Proofs.Try.prog 89 2 2 1 false := ⟨by kernel_rfl⟩
instance : TSt Go.Proofs.Try.prog 89 [.slice none 0 0, .int .i64 0, .bool false] [(0, 1), (1, 1), (2, 1)] := ⟨fun _ => by kernel_rfl, by kernel_rfl⟩
instance : TAg Go.Proofs.Try.prog 90 3 := ⟨fun _ => ⟨by kernel_rfl, by kernel_rfl⟩⟩
instance : TZe Go.Proofs.Try.prog 90 (.agg #[.slice none 0 0, .int .i64 0, .bool false]) := ⟨fun _ => by kernel_rfl⟩
instance : TFa Go.Proofs.Try.prog 90 0 0 := ⟨fun _ _ _ => by kernel_rfl⟩
instance : TFv Go.Proofs.Try.prog 90 0 0 1 false := ⟨by kernel_rfl⟩
instance : TFa Go.Proofs.Try.prog 90 1 1 := ⟨fun _ _ _ => by kernel_rfl⟩
instance : TFv Go.Proofs.Try.prog 90 1 1 1 false := ⟨by kernel_rfl⟩
instance : TFa Go.Proofs.Try.prog 90 2 2 := ⟨fun _ _ _ => by kernel_rfl⟩
instance : TFv Go.Proofs.Try.prog 90 2 2 1 false := ⟨by kernel_rfl⟩
instance : TSt Go.Proofs.Try.prog 90 [.slice none 0 0, .int .i64 0, .bool false] [(0, 1), (1, 1), (2, 1)] := ⟨fun _ => by kernel_rfl, by kernel_rfl⟩
instance : TSc Go.Proofs.Try.prog 98 := ⟨fun _ => ⟨by kernel_rfl, by kernel_rfl⟩⟩
instance : TIn Go.Proofs.Try.prog 98 .i64 := ⟨by kernel_rfl⟩
instance : TZe Go.Proofs.Try.prog 98 (.int .i64 0) := ⟨fun _ => by kernel_rfl⟩
instance : TKy Go.Proofs.Try.prog 98 Int (Value.int .i64) := TKy.int (by kernel_rfl)
instance : TSc Go.Proofs.Try.prog 108 := ⟨fun _ => ⟨by kernel_rfl, by kernel_rfl⟩⟩
instance : TIn Go.Proofs.Try.prog 108 .u64 := ⟨by kernel_rfl⟩
instance : TZe Go.Proofs.Try.prog 108 (.int .u64 0) := ⟨fun _ => by kernel_rfl⟩
instance : TKy Go.Proofs.Try.prog 108 Int (Value.int .u64) := TKy.int (by kernel_rfl)
instance : TSc Go.Proofs.Try.prog 111 := ⟨fun _ => ⟨by kernel_rfl, by kernel_rfl⟩⟩
instance : TZe Go.Proofs.Try.prog 111 (.pointer none) := ⟨fun _ => by kernel_rfl⟩
instance : TPt Go.Proofs.Try.prog 111 := ⟨⟨3, by kernel_rfl⟩⟩
instance : TSc Go.Proofs.Try.prog 114 := ⟨fun _ => ⟨by kernel_rfl, by kernel_rfl⟩⟩
instance : TZe Go.Proofs.Try.prog 114 (.pointer none) := ⟨fun _ => by kernel_rfl⟩
instance : TPt Go.Proofs.Try.prog 114 := ⟨⟨108, by kernel_rfl⟩⟩
instance : TAg Go.Proofs.Try.prog 118 4 := ⟨fun _ => ⟨by kernel_rfl, by kernel_rfl⟩⟩
instance : TZe Go.Proofs.Try.prog 118 (.agg #[.pointer none, .pointer none, .pointer none, .string ByteArray.empty]) := ⟨fun _ => by kernel_rfl⟩
instance : TFa Go.Proofs.Try.prog 118 0 0 := ⟨fun _ _ _ => by kernel_rfl⟩
instance : TFv Go.Proofs.Try.prog 118 0 0 1 false := ⟨by kernel_rfl⟩
instance : TFa Go.Proofs.Try.prog 118 1 1 := ⟨fun _ _ _ => by kernel_rfl⟩
instance : TFv Go.Proofs.Try.prog 118 1 1 1 false := ⟨by kernel_rfl⟩
instance : TFa Go.Proofs.Try.prog 118 2 2 := ⟨fun _ _ _ => by kernel_rfl⟩
instance : TFv Go.Proofs.Try.prog 118 2 2 1 false := ⟨by kernel_rfl⟩
instance : TFa Go.Proofs.Try.prog 118 3 3 := ⟨fun _ _ _ => by kernel_rfl⟩
instance : TFv Go.Proofs.Try.prog 118 3 3 1 false := ⟨by kernel_rfl⟩
instance : TSt Go.Proofs.Try.prog 118 [.pointer none, .pointer none, .pointer none, .string ByteArray.empty] [(0, 1), (1, 1), (2, 1), (3, 1)] := ⟨fun _ => by kernel_rfl, by kernel_rfl⟩
instance : TAg Go.Proofs.Try.prog 120 0 := ⟨fun _ => ⟨by kernel_rfl, by kernel_rfl⟩⟩
instance : TZe Go.Proofs.Try.prog 120 (.agg #[]) := ⟨fun _ => by kernel_rfl⟩
instance : TSt Go.Proofs.Try.prog 120 [] [] := ⟨fun _ => by kernel_rfl, by kernel_rfl⟩
instance : TAg Go.Proofs.Try.prog 121 0 := ⟨fun _ => ⟨by kernel_rfl, by kernel_rfl⟩⟩
instance : TZe Go.Proofs.Try.prog 121 (.agg #[]) := ⟨fun _ => by kernel_rfl⟩
instance : TSt Go.Proofs.Try.prog 121 [] [(0, 0)] := ⟨fun _ => by kernel_rfl, by kernel_rfl⟩
instance : TSc Go.Proofs.Try.prog 126 := ⟨fun _ => ⟨by kernel_rfl, by kernel_rfl⟩⟩
instance : TZe Go.Proofs.Try.prog 126 (.pointer none) := ⟨fun _ => by kernel_rfl⟩
instance : TPt Go.Proofs.Try.prog 126 := ⟨⟨5, by kernel_rfl⟩⟩
instance : TAg Go.Proofs.Try.prog 129 11 := ⟨fun _ => ⟨by kernel_rfl, by kernel_rfl⟩⟩
instance : TZe Go.Proofs.Try.prog 129 (.agg #[.int .u64 0, .int .u64 0, .int .u32 0, .int .u8 0, .int .u8 0, .int .u8 0, .int .u8 0, .nilFunc, .pointer none, .int .i32 0, .int .i32 0]) := ⟨fun _ => by kernel_rfl⟩
instance : TFa Go.Proofs.Try.prog 129 0 0 := ⟨fun _ _ _ => by kernel_rfl⟩
instance : TFv Go.Proofs.Try.prog 129 0 0 1 false := ⟨by kernel_rfl⟩
instance : TFa Go.Proofs.Try.prog 129 1 1 := ⟨fun _ _ _ => by kernel_rfl⟩
instance : TFv Go.Proofs.Try.prog 129 1 1 1 false := ⟨by kernel_rfl⟩
instance : TFa Go.Proofs.Try.prog 129 2 2 := ⟨fun _ _ _ => by kernel_rfl⟩
instance : TFv Go.Proofs.Try.prog 129 2 2 1 false := ⟨by kernel_rfl⟩
instance : TFa Go.Proofs.Try.prog 129 3 3 := ⟨fun _ _ _ => by kernel_rfl⟩
instance : TFv Go.Proofs.Try.prog 129 3 3 1 false := ⟨by kernel_rfl⟩
instance : TFa Go.Proofs.Try.prog 129 4 4 := ⟨fun _ _ _ => by kernel_rfl⟩
instance : TFv Go.Proofs.Try.prog 129 4 4 1 false := ⟨by kernel_rfl⟩
instance : TFa Go.Proofs.Try.prog 129 5 5 := ⟨fun _ _ _ => by kernel_rfl⟩
instance : TFv Go.Proofs.Try.prog 129 5 5 1 false := ⟨by kernel_rfl⟩
instance : TFa Go.Proofs.Try.prog 129 6 6 := ⟨fun _ _ _ => by kernel_rfl⟩
instance : TFv Go.Proofs.Try.prog 129 6 6 1 false := ⟨by kernel_rfl⟩
instance : TFa Go.Proofs.Try.prog 129 7 7 := ⟨fun _ _ _ => by kernel_rfl⟩
instance : TFv Go.Proofs.Try.prog 129 7 7 1 false := ⟨by kernel_rfl⟩
instance : TFa Go.Proofs.Try.prog 129 8 8 := ⟨fun _ _ _ => by kernel_rfl⟩
instance : TFv Go.Proofs.Try.prog 129 8 8 1 false := ⟨by kernel_rfl⟩
instance : TFa Go.Proofs.Try.prog 129 9 9 := ⟨fun _ _ _ => by kernel_rfl⟩
instance : TFv Go.Proofs.Try.prog 129 9 9 1 false := ⟨by kernel_rfl⟩
instance : TFa Go.Proofs.Try.prog 129 10 10 := ⟨fun _ _ _ => by kernel_rfl⟩
instance : TFv Go.Proofs.Try.prog 129 10 10 1 false := ⟨by kernel_rfl⟩
instance : TSt Go.Proofs.Try.prog 129 [.int .u64 0, .int .u64 0, .int .u32 0, .int .u8 0, .int .u8 0, .int .u8 0, .int .u8 0, .nilFunc, .pointer none, .int .i32 0, .int .i32 0] [(0, 1), (1, 1), (2, 1), (3, 1), (4, 1), (5, 1), (6, 1), (7, 1), (8, 1), (9, 1), (10, 1)] := ⟨fun _ => by kernel_rfl, by kernel_rfl⟩
-- function 0: main.main
-- function 1: gosem.cut
-- function 2: gosem.cut.init
-- function 3: copybook/copybooklaw17.OnceOnly
-- function 4: copybook/copybooklaw17.OnceApart
-- function 5: copybook/copybooklaw17.OnceBack
-- function 6: copybook/copybooklaw17.OnceKnown
-- function 7: copybook/copybooklaw17.OncePlays
-- function 8: copybook/once.New
-- function 9: (*copybook/once.Table).Bytes
-- function 10: (*copybook/once.Table).Ask
-- function 11: bytes.Equal
-- function 12: (*copybook/once.Table).Set
-- function 13: slices.Clone[[]byte,byte]
-- function 14: (*copybook/once.Table).Last
-- function 15: copybook/copybooklaw17.awake
-- function 16: (*copybook/once.Table).Clients
-- function 17: (*copybook/once.Table).Copy
-- function 18: copybook/once.Parse
-- function 19: slices.Equal[[]uint32,uint32]
-- function 20: (*copybook/copybookref17.Table).Set
-- function 21: (*copybook/copybookref17.Table).Ask
-- function 22: (*copybook/copybookref17.Table).Bytes
-- function 23: (*copybook/once.Table).none
-- function 24: (*copybook/wire.Writer).Num
-- function 25: (*copybook/wire.Writer).Bytes
-- function 26: (*copybook/wire.Writer).Out
-- function 27: bytes.Clone
-- function 28: slices.Sort[[]uint32,uint32]
-- function 29: copybook/wire.New
-- function 30: (*copybook/wire.Reader).Count
-- function 31: (*copybook/wire.Reader).Upto
-- function 32: (*copybook/wire.Reader).Err
-- function 33: (*copybook/wire.Reader).Fail
-- function 34: (*copybook/wire.Reader).Num
-- function 35: (*copybook/wire.Reader).Bytes
-- function 36: (*copybook/wire.Reader).End
-- function 37: copybook/copybookref01.Own
-- function 38: (*copybook/copybookref17.Table).at
-- function 39: copybook/copybookref01.Put
-- function 40: copybook/copybookref03.Bytes
-- function 41: copybook/num.Put
-- function 42: slices.pdqsortOrdered[uint32]
-- function 43: math/bits.Len
-- function 44: (*copybook/wire.Reader).reads
-- function 45: (*copybook/wire.Reader).Num$1
-- function 46: copybook/num.Get
-- function 47: (*copybook/wire.Reader).Bytes$1
-- function 48: (*copybook/wire.Reader).Left
-- function 49: copybook/num.joined
-- function 50: slices.insertionSortOrdered[uint32]
-- function 51: slices.heapSortOrdered[uint32]
-- function 52: slices.breakPatternsOrdered[uint32]
-- function 53: slices.choosePivotOrdered[uint32]
-- function 54: slices.reverseRangeOrdered[uint32]
-- function 55: slices.partialInsertionSortOrdered[uint32]
-- function 56: cmp.Less[uint32]
-- function 57: slices.partitionEqualOrdered[uint32]
-- function 58: slices.partitionOrdered[uint32]
-- function 59: math/bits.Len32
-- function 60: math/bits.Len64
-- function 61: slices.siftDownOrdered[uint32]
-- function 62: slices.nextPowerOfTwo
-- function 63: (*slices.xorshift).Next
-- function 64: slices.medianAdjacentOrdered[uint32]
-- function 65: slices.medianOrdered[uint32]
-- function 66: cmp.isNaN[uint32]
-- function 67: slices.order2Ordered[uint32]
-- function 68: (runtime.boundsError).Error
-- function 69: (runtime.boundsError).RuntimeError
-- function 70: (runtime.errorString).Error
-- function 71: (runtime.errorString).RuntimeError
-- function 72: (runtime.plainError).Error
-- function 73: (runtime.plainError).RuntimeError
-- function 74: (runtime.errorAddressString).Error
-- function 75: (runtime.errorAddressString).RuntimeError
-- function 76: (*runtime.TypeAssertionError).Error
-- function 77: (*runtime.TypeAssertionError).RuntimeError
-- function 78: (*runtime.PanicNilError).Error
-- function 79: (*runtime.PanicNilError).RuntimeError
-- function 80: (*internal/abi.Type).Align
-- function 81: (internal/runtime/maps.unhashableTypeError).Error
-- function 82: (internal/runtime/maps.unhashableTypeError).RuntimeError
-- function 83: (*copybook/wire.Reader).Bool
-- function 84: (*copybook/wire.Writer).Bool
-- function 85: (internal/abi.Kind).String
theorem call2 : ∀ (xs : Array Value) (w : World), (callFunc 2 xs).run Try.prog w = .ok (.enter 2 xs) w := fun _ _ => by kernel_rfl
theorem call3 : ∀ (xs : Array Value) (w : World), (callFunc 3 xs).run Try.prog w = .ok (.enter 3 xs) w := fun _ _ => by kernel_rfl
theorem call4 : ∀ (xs : Array Value) (w : World), (callFunc 4 xs).run Try.prog w = .ok (.enter 4 xs) w := fun _ _ => by kernel_rfl
theorem call5 : ∀ (xs : Array Value) (w : World), (callFunc 5 xs).run Try.prog w = .ok (.enter 5 xs) w := fun _ _ => by kernel_rfl
theorem call6 : ∀ (xs : Array Value) (w : World), (callFunc 6 xs).run Try.prog w = .ok (.enter 6 xs) w := fun _ _ => by kernel_rfl
theorem call7 : ∀ (xs : Array Value) (w : World), (callFunc 7 xs).run Try.prog w = .ok (.enter 7 xs) w := fun _ _ => by kernel_rfl
theorem call8 : ∀ (xs : Array Value) (w : World), (callFunc 8 xs).run Try.prog w = .ok (.enter 8 xs) w := fun _ _ => by kernel_rfl
theorem call9 : ∀ (xs : Array Value) (w : World), (callFunc 9 xs).run Try.prog w = .ok (.enter 9 xs) w := fun _ _ => by kernel_rfl
theorem call10 : ∀ (xs : Array Value) (w : World), (callFunc 10 xs).run Try.prog w = .ok (.enter 10 xs) w := fun _ _ => by kernel_rfl
theorem call11 : ∀ (xs : Array Value) (w : World), (callFunc 11 xs).run Try.prog w = .ok (.enter 11 xs) w := fun _ _ => by kernel_rfl
theorem call12 : ∀ (xs : Array Value) (w : World), (callFunc 12 xs).run Try.prog w = .ok (.enter 12 xs) w := fun _ _ => by kernel_rfl
theorem call13 : ∀ (xs : Array Value) (w : World), (callFunc 13 xs).run Try.prog w = .ok (.enter 13 xs) w := fun _ _ => by kernel_rfl
theorem call14 : ∀ (xs : Array Value) (w : World), (callFunc 14 xs).run Try.prog w = .ok (.enter 14 xs) w := fun _ _ => by kernel_rfl
theorem call15 : ∀ (xs : Array Value) (w : World), (callFunc 15 xs).run Try.prog w = .ok (.enter 15 xs) w := fun _ _ => by kernel_rfl
theorem call16 : ∀ (xs : Array Value) (w : World), (callFunc 16 xs).run Try.prog w = .ok (.enter 16 xs) w := fun _ _ => by kernel_rfl
theorem call17 : ∀ (xs : Array Value) (w : World), (callFunc 17 xs).run Try.prog w = .ok (.enter 17 xs) w := fun _ _ => by kernel_rfl
theorem call18 : ∀ (xs : Array Value) (w : World), (callFunc 18 xs).run Try.prog w = .ok (.enter 18 xs) w := fun _ _ => by kernel_rfl
theorem call19 : ∀ (xs : Array Value) (w : World), (callFunc 19 xs).run Try.prog w = .ok (.enter 19 xs) w := fun _ _ => by kernel_rfl
theorem call20 : ∀ (xs : Array Value) (w : World), (callFunc 20 xs).run Try.prog w = .ok (.enter 20 xs) w := fun _ _ => by kernel_rfl
theorem call21 : ∀ (xs : Array Value) (w : World), (callFunc 21 xs).run Try.prog w = .ok (.enter 21 xs) w := fun _ _ => by kernel_rfl
theorem call22 : ∀ (xs : Array Value) (w : World), (callFunc 22 xs).run Try.prog w = .ok (.enter 22 xs) w := fun _ _ => by kernel_rfl
theorem call23 : ∀ (xs : Array Value) (w : World), (callFunc 23 xs).run Try.prog w = .ok (.enter 23 xs) w := fun _ _ => by kernel_rfl
theorem call24 : ∀ (xs : Array Value) (w : World), (callFunc 24 xs).run Try.prog w = .ok (.enter 24 xs) w := fun _ _ => by kernel_rfl
theorem call25 : ∀ (xs : Array Value) (w : World), (callFunc 25 xs).run Try.prog w = .ok (.enter 25 xs) w := fun _ _ => by kernel_rfl
theorem call26 : ∀ (xs : Array Value) (w : World), (callFunc 26 xs).run Try.prog w = .ok (.enter 26 xs) w := fun _ _ => by kernel_rfl
theorem call27 : ∀ (xs : Array Value) (w : World), (callFunc 27 xs).run Try.prog w = .ok (.enter 27 xs) w := fun _ _ => by kernel_rfl
theorem call28 : ∀ (xs : Array Value) (w : World), (callFunc 28 xs).run Try.prog w = .ok (.enter 28 xs) w := fun _ _ => by kernel_rfl
theorem call29 : ∀ (xs : Array Value) (w : World), (callFunc 29 xs).run Try.prog w = .ok (.enter 29 xs) w := fun _ _ => by kernel_rfl
theorem call30 : ∀ (xs : Array Value) (w : World), (callFunc 30 xs).run Try.prog w = .ok (.enter 30 xs) w := fun _ _ => by kernel_rfl
theorem call31 : ∀ (xs : Array Value) (w : World), (callFunc 31 xs).run Try.prog w = .ok (.enter 31 xs) w := fun _ _ => by kernel_rfl
theorem call32 : ∀ (xs : Array Value) (w : World), (callFunc 32 xs).run Try.prog w = .ok (.enter 32 xs) w := fun _ _ => by kernel_rfl
theorem call33 : ∀ (xs : Array Value) (w : World), (callFunc 33 xs).run Try.prog w = .ok (.enter 33 xs) w := fun _ _ => by kernel_rfl
theorem call34 : ∀ (xs : Array Value) (w : World), (callFunc 34 xs).run Try.prog w = .ok (.enter 34 xs) w := fun _ _ => by kernel_rfl
theorem call35 : ∀ (xs : Array Value) (w : World), (callFunc 35 xs).run Try.prog w = .ok (.enter 35 xs) w := fun _ _ => by kernel_rfl
theorem call36 : ∀ (xs : Array Value) (w : World), (callFunc 36 xs).run Try.prog w = .ok (.enter 36 xs) w := fun _ _ => by kernel_rfl
theorem call37 : ∀ (xs : Array Value) (w : World), (callFunc 37 xs).run Try.prog w = .ok (.enter 37 xs) w := fun _ _ => by kernel_rfl
theorem call38 : ∀ (xs : Array Value) (w : World), (callFunc 38 xs).run Try.prog w = .ok (.enter 38 xs) w := fun _ _ => by kernel_rfl
theorem call39 : ∀ (xs : Array Value) (w : World), (callFunc 39 xs).run Try.prog w = .ok (.enter 39 xs) w := fun _ _ => by kernel_rfl
theorem call40 : ∀ (xs : Array Value) (w : World), (callFunc 40 xs).run Try.prog w = .ok (.enter 40 xs) w := fun _ _ => by kernel_rfl
theorem call41 : ∀ (xs : Array Value) (w : World), (callFunc 41 xs).run Try.prog w = .ok (.enter 41 xs) w := fun _ _ => by kernel_rfl
theorem call42 : ∀ (xs : Array Value) (w : World), (callFunc 42 xs).run Try.prog w = .ok (.enter 42 xs) w := fun _ _ => by kernel_rfl
theorem call43 : ∀ (xs : Array Value) (w : World), (callFunc 43 xs).run Try.prog w = .ok (.enter 43 xs) w := fun _ _ => by kernel_rfl
theorem call44 : ∀ (xs : Array Value) (w : World), (callFunc 44 xs).run Try.prog w = .ok (.enter 44 xs) w := fun _ _ => by kernel_rfl
theorem call45 : ∀ (xs : Array Value) (w : World), (callFunc 45 xs).run Try.prog w = .ok (.enter 45 xs) w := fun _ _ => by kernel_rfl
theorem call46 : ∀ (xs : Array Value) (w : World), (callFunc 46 xs).run Try.prog w = .ok (.enter 46 xs) w := fun _ _ => by kernel_rfl
theorem call47 : ∀ (xs : Array Value) (w : World), (callFunc 47 xs).run Try.prog w = .ok (.enter 47 xs) w := fun _ _ => by kernel_rfl
theorem call48 : ∀ (xs : Array Value) (w : World), (callFunc 48 xs).run Try.prog w = .ok (.enter 48 xs) w := fun _ _ => by kernel_rfl
theorem call49 : ∀ (xs : Array Value) (w : World), (callFunc 49 xs).run Try.prog w = .ok (.enter 49 xs) w := fun _ _ => by kernel_rfl
theorem call50 : ∀ (xs : Array Value) (w : World), (callFunc 50 xs).run Try.prog w = .ok (.enter 50 xs) w := fun _ _ => by kernel_rfl
theorem call51 : ∀ (xs : Array Value) (w : World), (callFunc 51 xs).run Try.prog w = .ok (.enter 51 xs) w := fun _ _ => by kernel_rfl
theorem call52 : ∀ (xs : Array Value) (w : World), (callFunc 52 xs).run Try.prog w = .ok (.enter 52 xs) w := fun _ _ => by kernel_rfl
theorem call53 : ∀ (xs : Array Value) (w : World), (callFunc 53 xs).run Try.prog w = .ok (.enter 53 xs) w := fun _ _ => by kernel_rfl
theorem call54 : ∀ (xs : Array Value) (w : World), (callFunc 54 xs).run Try.prog w = .ok (.enter 54 xs) w := fun _ _ => by kernel_rfl
theorem call55 : ∀ (xs : Array Value) (w : World), (callFunc 55 xs).run Try.prog w = .ok (.enter 55 xs) w := fun _ _ => by kernel_rfl
theorem call56 : ∀ (xs : Array Value) (w : World), (callFunc 56 xs).run Try.prog w = .ok (.enter 56 xs) w := fun _ _ => by kernel_rfl
theorem call57 : ∀ (xs : Array Value) (w : World), (callFunc 57 xs).run Try.prog w = .ok (.enter 57 xs) w := fun _ _ => by kernel_rfl
theorem call58 : ∀ (xs : Array Value) (w : World), (callFunc 58 xs).run Try.prog w = .ok (.enter 58 xs) w := fun _ _ => by kernel_rfl
theorem call59 : ∀ (xs : Array Value) (w : World), (callFunc 59 xs).run Try.prog w = .ok (.enter 59 xs) w := fun _ _ => by kernel_rfl
theorem call60 : ∀ (xs : Array Value) (w : World), (callFunc 60 xs).run Try.prog w = .ok (.enter 60 xs) w := fun _ _ => by kernel_rfl
theorem call61 : ∀ (xs : Array Value) (w : World), (callFunc 61 xs).run Try.prog w = .ok (.enter 61 xs) w := fun _ _ => by kernel_rfl
theorem call62 : ∀ (xs : Array Value) (w : World), (callFunc 62 xs).run Try.prog w = .ok (.enter 62 xs) w := fun _ _ => by kernel_rfl
theorem call63 : ∀ (xs : Array Value) (w : World), (callFunc 63 xs).run Try.prog w = .ok (.enter 63 xs) w := fun _ _ => by kernel_rfl
theorem call64 : ∀ (xs : Array Value) (w : World), (callFunc 64 xs).run Try.prog w = .ok (.enter 64 xs) w := fun _ _ => by kernel_rfl
theorem call65 : ∀ (xs : Array Value) (w : World), (callFunc 65 xs).run Try.prog w = .ok (.enter 65 xs) w := fun _ _ => by kernel_rfl
theorem call66 : ∀ (xs : Array Value) (w : World), (callFunc 66 xs).run Try.prog w = .ok (.enter 66 xs) w := fun _ _ => by kernel_rfl
theorem call67 : ∀ (xs : Array Value) (w : World), (callFunc 67 xs).run Try.prog w = .ok (.enter 67 xs) w := fun _ _ => by kernel_rfl
theorem mixed : Try.prog.follows .mixedOrders = true := by kernel_rfl
end SL
