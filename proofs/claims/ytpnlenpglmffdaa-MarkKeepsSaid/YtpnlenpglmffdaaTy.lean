/- Written by gen_ty.py: facts on this seat's types and functions, each closed. -/
import Derived.Test.YtpnlenpglmffdaaSl15
import Derived.Test.YtpnlenpglmffdaaChecked
namespace SL
open Go Go.Proofs

instance : TSc Go.Proofs.Try.prog 2 := ⟨fun _ => ⟨by kernel_rfl, by kernel_rfl⟩⟩
instance : TIn Go.Proofs.Try.prog 2 .i64 := ⟨by kernel_rfl⟩
instance : TZe Go.Proofs.Try.prog 2 (.int .i64 0) := ⟨fun _ => by kernel_rfl⟩
instance : TKy Go.Proofs.Try.prog 2 Int (Value.int .i64) := TKy.int (by kernel_rfl)
instance : TSc Go.Proofs.Try.prog 3 := ⟨fun _ => ⟨by kernel_rfl, by kernel_rfl⟩⟩
instance : TIn Go.Proofs.Try.prog 3 .i64 := ⟨by kernel_rfl⟩
instance : TZe Go.Proofs.Try.prog 3 (.int .i64 0) := ⟨fun _ => by kernel_rfl⟩
instance : TKy Go.Proofs.Try.prog 3 Int (Value.int .i64) := TKy.int (by kernel_rfl)
instance : TSc Go.Proofs.Try.prog 4 := ⟨fun _ => ⟨by kernel_rfl, by kernel_rfl⟩⟩
instance : TBo Go.Proofs.Try.prog 4 := ⟨by kernel_rfl⟩
instance : TZe Go.Proofs.Try.prog 4 (.bool false) := ⟨fun _ => by kernel_rfl⟩
instance : TSc Go.Proofs.Try.prog 5 := ⟨fun _ => ⟨by kernel_rfl, by kernel_rfl⟩⟩
instance : TIn Go.Proofs.Try.prog 5 .u8 := ⟨by kernel_rfl⟩
instance : TZe Go.Proofs.Try.prog 5 (.int .u8 0) := ⟨fun _ => by kernel_rfl⟩
instance : TKy Go.Proofs.Try.prog 5 Int (Value.int .u8) := TKy.int (by kernel_rfl)
instance : TAg Go.Proofs.Try.prog 7 4 := ⟨fun _ => ⟨by kernel_rfl, by kernel_rfl⟩⟩
instance : TZe Go.Proofs.Try.prog 7 (.agg #[.int .i64 0, .int .i64 0, .bool false, .int .u8 0]) := ⟨fun _ => by kernel_rfl⟩
instance : TFa Go.Proofs.Try.prog 7 0 0 := ⟨fun _ _ _ => by kernel_rfl⟩
instance : TFv Go.Proofs.Try.prog 7 0 0 1 false := ⟨by kernel_rfl⟩
instance : TFa Go.Proofs.Try.prog 7 1 1 := ⟨fun _ _ _ => by kernel_rfl⟩
instance : TFv Go.Proofs.Try.prog 7 1 1 1 false := ⟨by kernel_rfl⟩
instance : TFa Go.Proofs.Try.prog 7 2 2 := ⟨fun _ _ _ => by kernel_rfl⟩
instance : TFv Go.Proofs.Try.prog 7 2 2 1 false := ⟨by kernel_rfl⟩
instance : TFa Go.Proofs.Try.prog 7 3 3 := ⟨fun _ _ _ => by kernel_rfl⟩
instance : TFv Go.Proofs.Try.prog 7 3 3 1 false := ⟨by kernel_rfl⟩
instance : TSt Go.Proofs.Try.prog 7 [.int .i64 0, .int .i64 0, .bool false, .int .u8 0] [(0, 1), (1, 1), (2, 1), (3, 1)] := ⟨fun _ => by kernel_rfl, by kernel_rfl⟩
instance : TSc Go.Proofs.Try.prog 9 := ⟨fun _ => ⟨by kernel_rfl, by kernel_rfl⟩⟩
instance : TZe Go.Proofs.Try.prog 9 (.string ByteArray.empty) := ⟨fun _ => by kernel_rfl⟩
instance : TNI Go.Proofs.Try.prog 9 := TNI.mk' (by kernel_rfl)
instance : TSc Go.Proofs.Try.prog 12 := ⟨fun _ => ⟨by kernel_rfl, by kernel_rfl⟩⟩
instance : TIn Go.Proofs.Try.prog 12 .u64 := ⟨by kernel_rfl⟩
instance : TZe Go.Proofs.Try.prog 12 (.int .u64 0) := ⟨fun _ => by kernel_rfl⟩
instance : TKy Go.Proofs.Try.prog 12 Int (Value.int .u64) := TKy.int (by kernel_rfl)
instance : TAg Go.Proofs.Try.prog 13 2 := ⟨fun _ => ⟨by kernel_rfl, by kernel_rfl⟩⟩
instance : TZe Go.Proofs.Try.prog 13 (.agg #[.string ByteArray.empty, .int .u64 0]) := ⟨fun _ => by kernel_rfl⟩
instance : TFa Go.Proofs.Try.prog 13 0 0 := ⟨fun _ _ _ => by kernel_rfl⟩
instance : TFv Go.Proofs.Try.prog 13 0 0 1 false := ⟨by kernel_rfl⟩
instance : TFa Go.Proofs.Try.prog 13 1 1 := ⟨fun _ _ _ => by kernel_rfl⟩
instance : TFv Go.Proofs.Try.prog 13 1 1 1 false := ⟨by kernel_rfl⟩
instance : TSt Go.Proofs.Try.prog 13 [.string ByteArray.empty, .int .u64 0] [(0, 1), (1, 1)] := ⟨fun _ => by kernel_rfl, by kernel_rfl⟩
instance : TAg Go.Proofs.Try.prog 18 1 := ⟨fun _ => ⟨by kernel_rfl, by kernel_rfl⟩⟩
instance : TZe Go.Proofs.Try.prog 18 (.agg #[.pointer none]) := ⟨fun _ => by kernel_rfl⟩
instance : TFa Go.Proofs.Try.prog 18 0 0 := ⟨fun _ _ _ => by kernel_rfl⟩
instance : TFv Go.Proofs.Try.prog 18 0 0 1 false := ⟨by kernel_rfl⟩
instance : TSt Go.Proofs.Try.prog 18 [.pointer none] [(0, 1)] := ⟨fun _ => by kernel_rfl, by kernel_rfl⟩
instance : TSc Go.Proofs.Try.prog 21 := ⟨fun _ => ⟨by kernel_rfl, by kernel_rfl⟩⟩
instance : TIn Go.Proofs.Try.prog 21 .i32 := ⟨by kernel_rfl⟩
instance : TZe Go.Proofs.Try.prog 21 (.int .i32 0) := ⟨fun _ => by kernel_rfl⟩
instance : TKy Go.Proofs.Try.prog 21 Int (Value.int .i32) := TKy.int (by kernel_rfl)
instance : TAg Go.Proofs.Try.prog 22 3 := ⟨fun _ => ⟨by kernel_rfl, by kernel_rfl⟩⟩
instance : TFl Go.Proofs.Try.prog 22 [0, 0, 0] := ⟨by kernel_rfl, by kernel_rfl, by kernel_rfl, by kernel_rfl⟩
instance : TZe Go.Proofs.Try.prog 22 (.agg #[.int .u8 0, .int .u8 0, .int .u8 0]) := ⟨fun _ => by kernel_rfl⟩
instance : TFa Go.Proofs.Try.prog 22 0 0 := ⟨fun _ _ _ => by kernel_rfl⟩
instance : TFv Go.Proofs.Try.prog 22 0 0 1 false := ⟨by kernel_rfl⟩
instance : TFa Go.Proofs.Try.prog 22 1 1 := ⟨fun _ _ _ => by kernel_rfl⟩
instance : TFv Go.Proofs.Try.prog 22 1 1 1 false := ⟨by kernel_rfl⟩
instance : TFa Go.Proofs.Try.prog 22 2 2 := ⟨fun _ _ _ => by kernel_rfl⟩
instance : TFv Go.Proofs.Try.prog 22 2 2 1 false := ⟨by kernel_rfl⟩
instance : TSt Go.Proofs.Try.prog 22 [.int .u8 0, .int .u8 0, .int .u8 0] [(0, 1), (1, 1), (2, 1)] := ⟨fun _ => by kernel_rfl, by kernel_rfl⟩
instance : TAg Go.Proofs.Try.prog 23 3 := ⟨fun _ => ⟨by kernel_rfl, by kernel_rfl⟩⟩
instance : TFl Go.Proofs.Try.prog 23 [0, 0, 0] := ⟨by kernel_rfl, by kernel_rfl, by kernel_rfl, by kernel_rfl⟩
instance : TZe Go.Proofs.Try.prog 23 (.agg #[.int .u8 0, .int .u8 0, .int .u8 0]) := ⟨fun _ => by kernel_rfl⟩
instance : TFa Go.Proofs.Try.prog 23 0 0 := ⟨fun _ _ _ => by kernel_rfl⟩
instance : TFv Go.Proofs.Try.prog 23 0 0 1 false := ⟨by kernel_rfl⟩
instance : TFa Go.Proofs.Try.prog 23 1 1 := ⟨fun _ _ _ => by kernel_rfl⟩
instance : TFv Go.Proofs.Try.prog 23 1 1 1 false := ⟨by kernel_rfl⟩
instance : TFa Go.Proofs.Try.prog 23 2 2 := ⟨fun _ _ _ => by kernel_rfl⟩
instance : TFv Go.Proofs.Try.prog 23 2 2 1 false := ⟨by kernel_rfl⟩
instance : TSt Go.Proofs.Try.prog 23 [.int .u8 0, .int .u8 0, .int .u8 0] [(0, 1), (1, 1), (2, 1)] := ⟨fun _ => by kernel_rfl, by kernel_rfl⟩
instance : TSc Go.Proofs.Try.prog 24 := ⟨fun _ => ⟨by kernel_rfl, by kernel_rfl⟩⟩
instance : TZe Go.Proofs.Try.prog 24 (.slice none 0 0) := ⟨fun _ => by kernel_rfl⟩
instance : TSl Go.Proofs.Try.prog 24 57 5 40 := ⟨by kernel_rfl, fun _ => by kernel_rfl, fun _ => by kernel_rfl, by kernel_rfl⟩
instance : TNI Go.Proofs.Try.prog 24 := TNI.mk' (by kernel_rfl)
instance : TSc Go.Proofs.Try.prog 25 := ⟨fun _ => ⟨by kernel_rfl, by kernel_rfl⟩⟩
instance : TZe Go.Proofs.Try.prog 25 (.pointer none) := ⟨fun _ => by kernel_rfl⟩
instance : TPt Go.Proofs.Try.prog 25 := ⟨⟨65, by kernel_rfl⟩⟩
instance : TSc Go.Proofs.Try.prog 26 := ⟨fun _ => ⟨by kernel_rfl, by kernel_rfl⟩⟩
instance : TIn Go.Proofs.Try.prog 26 .i64 := ⟨by kernel_rfl⟩
instance : TZe Go.Proofs.Try.prog 26 (.int .i64 0) := ⟨fun _ => by kernel_rfl⟩
instance : TKy Go.Proofs.Try.prog 26 Int (Value.int .i64) := TKy.int (by kernel_rfl)
instance : TSc Go.Proofs.Try.prog 31 := ⟨fun _ => ⟨by kernel_rfl, by kernel_rfl⟩⟩
instance : TIn Go.Proofs.Try.prog 31 .u32 := ⟨by kernel_rfl⟩
instance : TZe Go.Proofs.Try.prog 31 (.int .u32 0) := ⟨fun _ => by kernel_rfl⟩
instance : TKy Go.Proofs.Try.prog 31 Int (Value.int .u32) := TKy.int (by kernel_rfl)
instance : TAg Go.Proofs.Try.prog 40 2 := ⟨fun _ => ⟨by kernel_rfl, by kernel_rfl⟩⟩
instance : TZe Go.Proofs.Try.prog 40 (.agg #[.int .u8 0, .int .u8 0]) := ⟨fun _ => by kernel_rfl⟩
instance : TSt Go.Proofs.Try.prog 40 [.int .u8 0, .int .u8 0] [(0, 1), (1, 1)] := ⟨fun _ => by kernel_rfl, by kernel_rfl⟩
instance : TSc Go.Proofs.Try.prog 41 := ⟨fun _ => ⟨by kernel_rfl, by kernel_rfl⟩⟩
instance : TZe Go.Proofs.Try.prog 41 (.slice none 0 0) := ⟨fun _ => by kernel_rfl⟩
instance : TSl Go.Proofs.Try.prog 41 24 1 24 := ⟨by kernel_rfl, fun _ => by kernel_rfl, fun _ => by kernel_rfl, by kernel_rfl⟩
instance : TNI Go.Proofs.Try.prog 41 := TNI.mk' (by kernel_rfl)
instance : TSc Go.Proofs.Try.prog 42 := ⟨fun _ => ⟨by kernel_rfl, by kernel_rfl⟩⟩
instance : TZe Go.Proofs.Try.prog 42 (.slice none 0 0) := ⟨fun _ => by kernel_rfl⟩
instance : TSl Go.Proofs.Try.prog 42 43 1 4 := ⟨by kernel_rfl, fun _ => by kernel_rfl, fun _ => by kernel_rfl, by kernel_rfl⟩
instance : TNI Go.Proofs.Try.prog 42 := TNI.mk' (by kernel_rfl)
instance : TSc Go.Proofs.Try.prog 43 := ⟨fun _ => ⟨by kernel_rfl, by kernel_rfl⟩⟩
instance : TIn Go.Proofs.Try.prog 43 .i32 := ⟨by kernel_rfl⟩
instance : TZe Go.Proofs.Try.prog 43 (.int .i32 0) := ⟨fun _ => by kernel_rfl⟩
instance : TKy Go.Proofs.Try.prog 43 Int (Value.int .i32) := TKy.int (by kernel_rfl)
instance : TSc Go.Proofs.Try.prog 47 := ⟨fun _ => ⟨by kernel_rfl, by kernel_rfl⟩⟩
instance : TZe Go.Proofs.Try.prog 47 (.slice none 0 0) := ⟨fun _ => by kernel_rfl⟩
instance : TSl Go.Proofs.Try.prog 47 49 4 48 := ⟨by kernel_rfl, fun _ => by kernel_rfl, fun _ => by kernel_rfl, by kernel_rfl⟩
instance : TNI Go.Proofs.Try.prog 47 := TNI.mk' (by kernel_rfl)
instance : TAg Go.Proofs.Try.prog 48 4 := ⟨fun _ => ⟨by kernel_rfl, by kernel_rfl⟩⟩
instance : TZe Go.Proofs.Try.prog 48 (.agg #[.int .i64 0, .int .u32 0, .int .i64 0, .slice none 0 0]) := ⟨fun _ => by kernel_rfl⟩
instance : TFa Go.Proofs.Try.prog 48 0 0 := ⟨fun _ _ _ => by kernel_rfl⟩
instance : TFv Go.Proofs.Try.prog 48 0 0 1 false := ⟨by kernel_rfl⟩
instance : TFa Go.Proofs.Try.prog 48 1 1 := ⟨fun _ _ _ => by kernel_rfl⟩
instance : TFv Go.Proofs.Try.prog 48 1 1 1 false := ⟨by kernel_rfl⟩
instance : TFa Go.Proofs.Try.prog 48 2 2 := ⟨fun _ _ _ => by kernel_rfl⟩
instance : TFv Go.Proofs.Try.prog 48 2 2 1 false := ⟨by kernel_rfl⟩
instance : TFa Go.Proofs.Try.prog 48 3 3 := ⟨fun _ _ _ => by kernel_rfl⟩
instance : TFv Go.Proofs.Try.prog 48 3 3 1 false := ⟨by kernel_rfl⟩
instance : TSt Go.Proofs.Try.prog 48 [.int .i64 0, .int .u32 0, .int .i64 0, .slice none 0 0] [(0, 1), (1, 1), (2, 1), (3, 1)] := ⟨fun _ => by kernel_rfl, by kernel_rfl⟩
instance : TAg Go.Proofs.Try.prog 49 4 := ⟨fun _ => ⟨by kernel_rfl, by kernel_rfl⟩⟩
instance : TZe Go.Proofs.Try.prog 49 (.agg #[.int .i64 0, .int .u32 0, .int .i64 0, .slice none 0 0]) := ⟨fun _ => by kernel_rfl⟩
instance : TFa Go.Proofs.Try.prog 49 0 0 := ⟨fun _ _ _ => by kernel_rfl⟩
instance : TFv Go.Proofs.Try.prog 49 0 0 1 false := ⟨by kernel_rfl⟩
instance : TFa Go.Proofs.Try.prog 49 1 1 := ⟨fun _ _ _ => by kernel_rfl⟩
instance : TFv Go.Proofs.Try.prog 49 1 1 1 false := ⟨by kernel_rfl⟩
instance : TFa Go.Proofs.Try.prog 49 2 2 := ⟨fun _ _ _ => by kernel_rfl⟩
instance : TFv Go.Proofs.Try.prog 49 2 2 1 false := ⟨by kernel_rfl⟩
instance : TFa Go.Proofs.Try.prog 49 3 3 := ⟨fun _ _ _ => by kernel_rfl⟩
instance : TFv Go.Proofs.Try.prog 49 3 3 1 false := ⟨by kernel_rfl⟩
instance : TSt Go.Proofs.Try.prog 49 [.int .i64 0, .int .u32 0, .int .i64 0, .slice none 0 0] [(0, 1), (1, 1), (2, 1), (3, 1)] := ⟨fun _ => by kernel_rfl, by kernel_rfl⟩
instance : TSc Go.Proofs.Try.prog 53 := ⟨fun _ => ⟨by kernel_rfl, by kernel_rfl⟩⟩
instance : TIn Go.Proofs.Try.prog 53 .u64 := ⟨by kernel_rfl⟩
instance : TZe Go.Proofs.Try.prog 53 (.int .u64 0) := ⟨fun _ => by kernel_rfl⟩
instance : TKy Go.Proofs.Try.prog 53 Int (Value.int .u64) := TKy.int (by kernel_rfl)
instance : TAg Go.Proofs.Try.prog 54 2 := ⟨fun _ => ⟨by kernel_rfl, by kernel_rfl⟩⟩
instance : TFl Go.Proofs.Try.prog 54 [0, 0] := ⟨by kernel_rfl, by kernel_rfl, by kernel_rfl, by kernel_rfl⟩
instance : TZe Go.Proofs.Try.prog 54 (.agg #[.int .u32 0, .int .u64 0]) := ⟨fun _ => by kernel_rfl⟩
instance : TFa Go.Proofs.Try.prog 54 0 0 := ⟨fun _ _ _ => by kernel_rfl⟩
instance : TFv Go.Proofs.Try.prog 54 0 0 1 false := ⟨by kernel_rfl⟩
instance : TFa Go.Proofs.Try.prog 54 1 1 := ⟨fun _ _ _ => by kernel_rfl⟩
instance : TFv Go.Proofs.Try.prog 54 1 1 1 false := ⟨by kernel_rfl⟩
instance : TSt Go.Proofs.Try.prog 54 [.int .u32 0, .int .u64 0] [(0, 1), (1, 1)] := ⟨fun _ => by kernel_rfl, by kernel_rfl⟩
instance : TAg Go.Proofs.Try.prog 55 2 := ⟨fun _ => ⟨by kernel_rfl, by kernel_rfl⟩⟩
instance : TFl Go.Proofs.Try.prog 55 [0, 0] := ⟨by kernel_rfl, by kernel_rfl, by kernel_rfl, by kernel_rfl⟩
instance : TZe Go.Proofs.Try.prog 55 (.agg #[.int .u32 0, .int .u64 0]) := ⟨fun _ => by kernel_rfl⟩
instance : TFa Go.Proofs.Try.prog 55 0 0 := ⟨fun _ _ _ => by kernel_rfl⟩
instance : TFv Go.Proofs.Try.prog 55 0 0 1 false := ⟨by kernel_rfl⟩
instance : TFa Go.Proofs.Try.prog 55 1 1 := ⟨fun _ _ _ => by kernel_rfl⟩
instance : TFv Go.Proofs.Try.prog 55 1 1 1 false := ⟨by kernel_rfl⟩
instance : TSt Go.Proofs.Try.prog 55 [.int .u32 0, .int .u64 0] [(0, 1), (1, 1)] := ⟨fun _ => by kernel_rfl, by kernel_rfl⟩
instance : TAg Go.Proofs.Try.prog 56 5 := ⟨fun _ => ⟨by kernel_rfl, by kernel_rfl⟩⟩
instance : TZe Go.Proofs.Try.prog 56 (.agg #[.int .i64 0, .int .i64 0, .int .i32 0, .int .u32 0, .int .u64 0]) := ⟨fun _ => by kernel_rfl⟩
instance : TFa Go.Proofs.Try.prog 56 0 0 := ⟨fun _ _ _ => by kernel_rfl⟩
instance : TFv Go.Proofs.Try.prog 56 0 0 1 false := ⟨by kernel_rfl⟩
instance : TFa Go.Proofs.Try.prog 56 1 1 := ⟨fun _ _ _ => by kernel_rfl⟩
instance : TFv Go.Proofs.Try.prog 56 1 1 1 false := ⟨by kernel_rfl⟩
instance : TFa Go.Proofs.Try.prog 56 2 2 := ⟨fun _ _ _ => by kernel_rfl⟩
instance : TFv Go.Proofs.Try.prog 56 2 2 1 false := ⟨by kernel_rfl⟩
instance : TFa Go.Proofs.Try.prog 56 3 3 := ⟨fun _ _ _ => by kernel_rfl⟩
instance : TFv Go.Proofs.Try.prog 56 3 3 2 true := ⟨by kernel_rfl⟩
instance : TSt Go.Proofs.Try.prog 56 [.int .i64 0, .int .i64 0, .int .i32 0, .int .u32 0, .int .u64 0] [(0, 1), (1, 1), (2, 1), (3, 2)] := ⟨fun _ => by kernel_rfl, by kernel_rfl⟩
instance : TAg Go.Proofs.Try.prog 57 5 := ⟨fun _ => ⟨by kernel_rfl, by kernel_rfl⟩⟩
instance : TZe Go.Proofs.Try.prog 57 (.agg #[.int .i64 0, .int .i64 0, .int .i32 0, .int .u32 0, .int .u64 0]) := ⟨fun _ => by kernel_rfl⟩
instance : TFa Go.Proofs.Try.prog 57 0 0 := ⟨fun _ _ _ => by kernel_rfl⟩
instance : TFv Go.Proofs.Try.prog 57 0 0 1 false := ⟨by kernel_rfl⟩
instance : TFa Go.Proofs.Try.prog 57 1 1 := ⟨fun _ _ _ => by kernel_rfl⟩
instance : TFv Go.Proofs.Try.prog 57 1 1 1 false := ⟨by kernel_rfl⟩
instance : TFa Go.Proofs.Try.prog 57 2 2 := ⟨fun _ _ _ => by kernel_rfl⟩
instance : TFv Go.Proofs.Try.prog 57 2 2 1 false := ⟨by kernel_rfl⟩
instance : TFa Go.Proofs.Try.prog 57 3 3 := ⟨fun _ _ _ => by kernel_rfl⟩
instance : TFv Go.Proofs.Try.prog 57 3 3 2 true := ⟨by kernel_rfl⟩
instance : TSt Go.Proofs.Try.prog 57 [.int .i64 0, .int .i64 0, .int .i32 0, .int .u32 0, .int .u64 0] [(0, 1), (1, 1), (2, 1), (3, 2)] := ⟨fun _ => by kernel_rfl, by kernel_rfl⟩
instance : TSc Go.Proofs.Try.prog 58 := ⟨fun _ => ⟨by kernel_rfl, by kernel_rfl⟩⟩
instance : TZe Go.Proofs.Try.prog 58 (.slice none 0 0) := ⟨fun _ => by kernel_rfl⟩
instance : TSl Go.Proofs.Try.prog 58 61 2 16 := ⟨by kernel_rfl, fun _ => by kernel_rfl, fun _ => by kernel_rfl, by kernel_rfl⟩
instance : TNI Go.Proofs.Try.prog 58 := TNI.mk' (by kernel_rfl)
instance : TAg Go.Proofs.Try.prog 60 2 := ⟨fun _ => ⟨by kernel_rfl, by kernel_rfl⟩⟩
instance : TFl Go.Proofs.Try.prog 60 [0, 0] := ⟨by kernel_rfl, by kernel_rfl, by kernel_rfl, by kernel_rfl⟩
instance : TZe Go.Proofs.Try.prog 60 (.agg #[.int .u32 0, .int .i64 0]) := ⟨fun _ => by kernel_rfl⟩
instance : TFa Go.Proofs.Try.prog 60 0 0 := ⟨fun _ _ _ => by kernel_rfl⟩
instance : TFv Go.Proofs.Try.prog 60 0 0 1 false := ⟨by kernel_rfl⟩
instance : TFa Go.Proofs.Try.prog 60 1 1 := ⟨fun _ _ _ => by kernel_rfl⟩
instance : TFv Go.Proofs.Try.prog 60 1 1 1 false := ⟨by kernel_rfl⟩
instance : TSt Go.Proofs.Try.prog 60 [.int .u32 0, .int .i64 0] [(0, 1), (1, 1)] := ⟨fun _ => by kernel_rfl, by kernel_rfl⟩
instance : TAg Go.Proofs.Try.prog 61 2 := ⟨fun _ => ⟨by kernel_rfl, by kernel_rfl⟩⟩
instance : TFl Go.Proofs.Try.prog 61 [0, 0] := ⟨by kernel_rfl, by kernel_rfl, by kernel_rfl, by kernel_rfl⟩
instance : TZe Go.Proofs.Try.prog 61 (.agg #[.int .u32 0, .int .i64 0]) := ⟨fun _ => by kernel_rfl⟩
instance : TFa Go.Proofs.Try.prog 61 0 0 := ⟨fun _ _ _ => by kernel_rfl⟩
instance : TFv Go.Proofs.Try.prog 61 0 0 1 false := ⟨by kernel_rfl⟩
instance : TFa Go.Proofs.Try.prog 61 1 1 := ⟨fun _ _ _ => by kernel_rfl⟩
instance : TFv Go.Proofs.Try.prog 61 1 1 1 false := ⟨by kernel_rfl⟩
instance : TSt Go.Proofs.Try.prog 61 [.int .u32 0, .int .i64 0] [(0, 1), (1, 1)] := ⟨fun _ => by kernel_rfl, by kernel_rfl⟩
instance : TSc Go.Proofs.Try.prog 63 := ⟨fun _ => ⟨by kernel_rfl, by kernel_rfl⟩⟩
instance : TZe Go.Proofs.Try.prog 63 (.map none) := ⟨fun _ => by kernel_rfl⟩
instance : TMp Go.Proofs.Try.prog 63 31 3 := ⟨by kernel_rfl⟩
instance : TAg Go.Proofs.Try.prog 64 2 := ⟨fun _ => ⟨by kernel_rfl, by kernel_rfl⟩⟩
instance : TZe Go.Proofs.Try.prog 64 (.agg #[.int .i64 0, .map none]) := ⟨fun _ => by kernel_rfl⟩
instance : TFa Go.Proofs.Try.prog 64 0 0 := ⟨fun _ _ _ => by kernel_rfl⟩
instance : TFv Go.Proofs.Try.prog 64 0 0 1 false := ⟨by kernel_rfl⟩
instance : TFa Go.Proofs.Try.prog 64 1 1 := ⟨fun _ _ _ => by kernel_rfl⟩
instance : TFv Go.Proofs.Try.prog 64 1 1 1 false := ⟨by kernel_rfl⟩
instance : TSt Go.Proofs.Try.prog 64 [.int .i64 0, .map none] [(0, 1), (1, 1)] := ⟨fun _ => by kernel_rfl, by kernel_rfl⟩
instance : TAg Go.Proofs.Try.prog 65 2 := ⟨fun _ => ⟨by kernel_rfl, by kernel_rfl⟩⟩
instance : TZe Go.Proofs.Try.prog 65 (.agg #[.int .i64 0, .map none]) := ⟨fun _ => by kernel_rfl⟩
instance : TFa Go.Proofs.Try.prog 65 0 0 := ⟨fun _ _ _ => by kernel_rfl⟩
instance : TFv Go.Proofs.Try.prog 65 0 0 1 false := ⟨by kernel_rfl⟩
instance : TFa Go.Proofs.Try.prog 65 1 1 := ⟨fun _ _ _ => by kernel_rfl⟩
instance : TFv Go.Proofs.Try.prog 65 1 1 1 false := ⟨by kernel_rfl⟩
instance : TSt Go.Proofs.Try.prog 65 [.int .i64 0, .map none] [(0, 1), (1, 1)] := ⟨fun _ => by kernel_rfl, by kernel_rfl⟩
instance : TSc Go.Proofs.Try.prog 66 := ⟨fun _ => ⟨by kernel_rfl, by kernel_rfl⟩⟩
instance : TZe Go.Proofs.Try.prog 66 (.slice none 0 0) := ⟨fun _ => by kernel_rfl⟩
instance : TSl Go.Proofs.Try.prog 66 5 1 1 := ⟨by kernel_rfl, fun _ => by kernel_rfl, fun _ => by kernel_rfl, by kernel_rfl⟩
instance : TNI Go.Proofs.Try.prog 66 := TNI.mk' (by kernel_rfl)
instance : TSc Go.Proofs.Try.prog 67 := ⟨fun _ => ⟨by kernel_rfl, by kernel_rfl⟩⟩
instance : TZe Go.Proofs.Try.prog 67 (.pointer none) := ⟨fun _ => by kernel_rfl⟩
instance : TPt Go.Proofs.Try.prog 67 := ⟨⟨102, by kernel_rfl⟩⟩
instance : TSc Go.Proofs.Try.prog 73 := ⟨fun _ => ⟨by kernel_rfl, by kernel_rfl⟩⟩
instance : TZe Go.Proofs.Try.prog 73 (.slice none 0 0) := ⟨fun _ => by kernel_rfl⟩
instance : TSl Go.Proofs.Try.prog 73 74 1 2 := ⟨by kernel_rfl, fun _ => by kernel_rfl, fun _ => by kernel_rfl, by kernel_rfl⟩
instance : TNI Go.Proofs.Try.prog 73 := TNI.mk' (by kernel_rfl)
instance : TSc Go.Proofs.Try.prog 74 := ⟨fun _ => ⟨by kernel_rfl, by kernel_rfl⟩⟩
instance : TIn Go.Proofs.Try.prog 74 .u16 := ⟨by kernel_rfl⟩
instance : TZe Go.Proofs.Try.prog 74 (.int .u16 0) := ⟨fun _ => by kernel_rfl⟩
instance : TKy Go.Proofs.Try.prog 74 Int (Value.int .u16) := TKy.int (by kernel_rfl)
instance : TSc Go.Proofs.Try.prog 75 := ⟨fun _ => ⟨by kernel_rfl, by kernel_rfl⟩⟩
instance : TZe Go.Proofs.Try.prog 75 (.slice none 0 0) := ⟨fun _ => by kernel_rfl⟩
instance : TSl Go.Proofs.Try.prog 75 78 2 16 := ⟨by kernel_rfl, fun _ => by kernel_rfl, fun _ => by kernel_rfl, by kernel_rfl⟩
instance : TNI Go.Proofs.Try.prog 75 := TNI.mk' (by kernel_rfl)
instance : TAg Go.Proofs.Try.prog 77 2 := ⟨fun _ => ⟨by kernel_rfl, by kernel_rfl⟩⟩
instance : TFl Go.Proofs.Try.prog 77 [0, 0] := ⟨by kernel_rfl, by kernel_rfl, by kernel_rfl, by kernel_rfl⟩
instance : TZe Go.Proofs.Try.prog 77 (.agg #[.int .u32 0, .int .u64 0]) := ⟨fun _ => by kernel_rfl⟩
instance : TFa Go.Proofs.Try.prog 77 0 0 := ⟨fun _ _ _ => by kernel_rfl⟩
instance : TFv Go.Proofs.Try.prog 77 0 0 1 false := ⟨by kernel_rfl⟩
instance : TFa Go.Proofs.Try.prog 77 1 1 := ⟨fun _ _ _ => by kernel_rfl⟩
instance : TFv Go.Proofs.Try.prog 77 1 1 1 false := ⟨by kernel_rfl⟩
instance : TSt Go.Proofs.Try.prog 77 [.int .u32 0, .int .u64 0] [(0, 1), (1, 1)] := ⟨fun _ => by kernel_rfl, by kernel_rfl⟩
instance : TAg Go.Proofs.Try.prog 78 2 := ⟨fun _ => ⟨by kernel_rfl, by kernel_rfl⟩⟩
instance : TFl Go.Proofs.Try.prog 78 [0, 0] := ⟨by kernel_rfl, by kernel_rfl, by kernel_rfl, by kernel_rfl⟩
instance : TZe Go.Proofs.Try.prog 78 (.agg #[.int .u32 0, .int .u64 0]) := ⟨fun _ => by kernel_rfl⟩
instance : TFa Go.Proofs.Try.prog 78 0 0 := ⟨fun _ _ _ => by kernel_rfl⟩
instance : TFv Go.Proofs.Try.prog 78 0 0 1 false := ⟨by kernel_rfl⟩
instance : TFa Go.Proofs.Try.prog 78 1 1 := ⟨fun _ _ _ => by kernel_rfl⟩
instance : TFv Go.Proofs.Try.prog 78 1 1 1 false := ⟨by kernel_rfl⟩
instance : TSt Go.Proofs.Try.prog 78 [.int .u32 0, .int .u64 0] [(0, 1), (1, 1)] := ⟨fun _ => by kernel_rfl, by kernel_rfl⟩
instance : TSc Go.Proofs.Try.prog 80 := ⟨fun _ => ⟨by kernel_rfl, by kernel_rfl⟩⟩
instance : TZe Go.Proofs.Try.prog 80 (.slice none 0 0) := ⟨fun _ => by kernel_rfl⟩
instance : TSl Go.Proofs.Try.prog 80 82 2 16 := ⟨by kernel_rfl, fun _ => by kernel_rfl, fun _ => by kernel_rfl, by kernel_rfl⟩
instance : TNI Go.Proofs.Try.prog 80 := TNI.mk' (by kernel_rfl)
instance : TSc Go.Proofs.Try.prog 81 := ⟨fun _ => ⟨by kernel_rfl, by kernel_rfl⟩⟩
instance : TZe Go.Proofs.Try.prog 81 (.slice none 0 0) := ⟨fun _ => by kernel_rfl⟩
instance : TSl Go.Proofs.Try.prog 81 87 3 24 := ⟨by kernel_rfl, fun _ => by kernel_rfl, fun _ => by kernel_rfl, by kernel_rfl⟩
instance : TNI Go.Proofs.Try.prog 81 := TNI.mk' (by kernel_rfl)
instance : TAg Go.Proofs.Try.prog 82 2 := ⟨fun _ => ⟨by kernel_rfl, by kernel_rfl⟩⟩
instance : TFl Go.Proofs.Try.prog 82 [0, 0] := ⟨by kernel_rfl, by kernel_rfl, by kernel_rfl, by kernel_rfl⟩
instance : TZe Go.Proofs.Try.prog 82 (.agg #[.int .u32 0, .int .u64 0]) := ⟨fun _ => by kernel_rfl⟩
instance : TFa Go.Proofs.Try.prog 82 0 0 := ⟨fun _ _ _ => by kernel_rfl⟩
instance : TFv Go.Proofs.Try.prog 82 0 0 1 false := ⟨by kernel_rfl⟩
instance : TFa Go.Proofs.Try.prog 82 1 1 := ⟨fun _ _ _ => by kernel_rfl⟩
instance : TFv Go.Proofs.Try.prog 82 1 1 1 false := ⟨by kernel_rfl⟩
instance : TSt Go.Proofs.Try.prog 82 [.int .u32 0, .int .u64 0] [(0, 1), (1, 1)] := ⟨fun _ => by kernel_rfl, by kernel_rfl⟩
instance : TSc Go.Proofs.Try.prog 83 := ⟨fun _ => ⟨by kernel_rfl, by kernel_rfl⟩⟩
instance : TZe Go.Proofs.Try.prog 83 (.pointer none) := ⟨fun _ => by kernel_rfl⟩
instance : TPt Go.Proofs.Try.prog 83 := ⟨⟨96, by kernel_rfl⟩⟩
instance : TAg Go.Proofs.Try.prog 86 3 := ⟨fun _ => ⟨by kernel_rfl, by kernel_rfl⟩⟩
instance : TFl Go.Proofs.Try.prog 86 [0, 0, 0] := ⟨by kernel_rfl, by kernel_rfl, by kernel_rfl, by kernel_rfl⟩
instance : TZe Go.Proofs.Try.prog 86 (.agg #[.int .i64 0, .int .u32 0, .int .u64 0]) := ⟨fun _ => by kernel_rfl⟩
instance : TFa Go.Proofs.Try.prog 86 0 0 := ⟨fun _ _ _ => by kernel_rfl⟩
instance : TFv Go.Proofs.Try.prog 86 0 0 1 false := ⟨by kernel_rfl⟩
instance : TFa Go.Proofs.Try.prog 86 1 1 := ⟨fun _ _ _ => by kernel_rfl⟩
instance : TFv Go.Proofs.Try.prog 86 1 1 1 false := ⟨by kernel_rfl⟩
instance : TFa Go.Proofs.Try.prog 86 2 2 := ⟨fun _ _ _ => by kernel_rfl⟩
instance : TFv Go.Proofs.Try.prog 86 2 2 1 false := ⟨by kernel_rfl⟩
instance : TSt Go.Proofs.Try.prog 86 [.int .i64 0, .int .u32 0, .int .u64 0] [(0, 1), (1, 1), (2, 1)] := ⟨fun _ => by kernel_rfl, by kernel_rfl⟩
instance : TAg Go.Proofs.Try.prog 87 3 := ⟨fun _ => ⟨by kernel_rfl, by kernel_rfl⟩⟩
instance : TFl Go.Proofs.Try.prog 87 [0, 0, 0] := ⟨by kernel_rfl, by kernel_rfl, by kernel_rfl, by kernel_rfl⟩
instance : TZe Go.Proofs.Try.prog 87 (.agg #[.int .i64 0, .int .u32 0, .int .u64 0]) := ⟨fun _ => by kernel_rfl⟩
instance : TFa Go.Proofs.Try.prog 87 0 0 := ⟨fun _ _ _ => by kernel_rfl⟩
instance : TFv Go.Proofs.Try.prog 87 0 0 1 false := ⟨by kernel_rfl⟩
instance : TFa Go.Proofs.Try.prog 87 1 1 := ⟨fun _ _ _ => by kernel_rfl⟩
instance : TFv Go.Proofs.Try.prog 87 1 1 1 false := ⟨by kernel_rfl⟩
instance : TFa Go.Proofs.Try.prog 87 2 2 := ⟨fun _ _ _ => by kernel_rfl⟩
instance : TFv Go.Proofs.Try.prog 87 2 2 1 false := ⟨by kernel_rfl⟩
instance : TSt Go.Proofs.Try.prog 87 [.int .i64 0, .int .u32 0, .int .u64 0] [(0, 1), (1, 1), (2, 1)] := ⟨fun _ => by kernel_rfl, by kernel_rfl⟩
instance : TSc Go.Proofs.Try.prog 90 := ⟨fun _ => ⟨by kernel_rfl, by kernel_rfl⟩⟩
instance : TZe Go.Proofs.Try.prog 90 (.slice none 0 0) := ⟨fun _ => by kernel_rfl⟩
instance : TSl Go.Proofs.Try.prog 90 31 1 4 := ⟨by kernel_rfl, fun _ => by kernel_rfl, fun _ => by kernel_rfl, by kernel_rfl⟩
instance : TNI Go.Proofs.Try.prog 90 := TNI.mk' (by kernel_rfl)
instance : TAg Go.Proofs.Try.prog 95 1 := ⟨fun _ => ⟨by kernel_rfl, by kernel_rfl⟩⟩
instance : TZe Go.Proofs.Try.prog 95 (.agg #[.slice none 0 0]) := ⟨fun _ => by kernel_rfl⟩
instance : TFa Go.Proofs.Try.prog 95 0 0 := ⟨fun _ _ _ => by kernel_rfl⟩
instance : TFv Go.Proofs.Try.prog 95 0 0 1 false := ⟨by kernel_rfl⟩
instance : TSt Go.Proofs.Try.prog 95 [.slice none 0 0] [(0, 1)] := ⟨fun _ => by kernel_rfl, by kernel_rfl⟩
instance : TAg Go.Proofs.Try.prog 96 1 := ⟨fun _ => ⟨by kernel_rfl, by kernel_rfl⟩⟩
instance : TZe Go.Proofs.Try.prog 96 (.agg #[.slice none 0 0]) := ⟨fun _ => by kernel_rfl⟩
instance : TFa Go.Proofs.Try.prog 96 0 0 := ⟨fun _ _ _ => by kernel_rfl⟩
instance : TFv Go.Proofs.Try.prog 96 0 0 1 false := ⟨by kernel_rfl⟩
instance : TSt Go.Proofs.Try.prog 96 [.slice none 0 0] [(0, 1)] := ⟨fun _ => by kernel_rfl, by kernel_rfl⟩
instance : TSc Go.Proofs.Try.prog 100 := ⟨fun _ => ⟨by kernel_rfl, by kernel_rfl⟩⟩
instance : TZe Go.Proofs.Try.prog 100 (.map none) := ⟨fun _ => by kernel_rfl⟩
instance : TMp Go.Proofs.Try.prog 100 31 53 := ⟨by kernel_rfl⟩
instance : TAg Go.Proofs.Try.prog 101 1 := ⟨fun _ => ⟨by kernel_rfl, by kernel_rfl⟩⟩
instance : TZe Go.Proofs.Try.prog 101 (.agg #[.map none]) := ⟨fun _ => by kernel_rfl⟩
instance : TFa Go.Proofs.Try.prog 101 0 0 := ⟨fun _ _ _ => by kernel_rfl⟩
instance : TFv Go.Proofs.Try.prog 101 0 0 1 false := ⟨by kernel_rfl⟩
instance : TSt Go.Proofs.Try.prog 101 [.map none] [(0, 1)] := ⟨fun _ => by kernel_rfl, by kernel_rfl⟩
instance : TAg Go.Proofs.Try.prog 102 1 := ⟨fun _ => ⟨by kernel_rfl, by kernel_rfl⟩⟩
instance : TZe Go.Proofs.Try.prog 102 (.agg #[.map none]) := ⟨fun _ => by kernel_rfl⟩
instance : TFa Go.Proofs.Try.prog 102 0 0 := ⟨fun _ _ _ => by kernel_rfl⟩
instance : TFv Go.Proofs.Try.prog 102 0 0 1 false := ⟨by kernel_rfl⟩
instance : TSt Go.Proofs.Try.prog 102 [.map none] [(0, 1)] := ⟨fun _ => by kernel_rfl, by kernel_rfl⟩
instance : TZe Go.Proofs.Try.prog 112 (.nilFunc) := ⟨fun _ => by kernel_rfl⟩
instance : TSc Go.Proofs.Try.prog 128 := ⟨fun _ => ⟨by kernel_rfl, by kernel_rfl⟩⟩
instance : TIn Go.Proofs.Try.prog 128 .u64 := ⟨by kernel_rfl⟩
instance : TZe Go.Proofs.Try.prog 128 (.int .u64 0) := ⟨fun _ => by kernel_rfl⟩
instance : TKy Go.Proofs.Try.prog 128 Int (Value.int .u64) := TKy.int (by kernel_rfl)
instance : TSc Go.Proofs.Try.prog 131 := ⟨fun _ => ⟨by kernel_rfl, by kernel_rfl⟩⟩
instance : TIn Go.Proofs.Try.prog 131 .i64 := ⟨by kernel_rfl⟩
instance : TZe Go.Proofs.Try.prog 131 (.int .i64 0) := ⟨fun _ => by kernel_rfl⟩
instance : TKy Go.Proofs.Try.prog 131 Int (Value.int .i64) := TKy.int (by kernel_rfl)
instance : TSc Go.Proofs.Try.prog 139 := ⟨fun _ => ⟨by kernel_rfl, by kernel_rfl⟩⟩
instance : TIn Go.Proofs.Try.prog 139 .u64 := ⟨by kernel_rfl⟩
instance : TZe Go.Proofs.Try.prog 139 (.int .u64 0) := ⟨fun _ => by kernel_rfl⟩
instance : TKy Go.Proofs.Try.prog 139 Int (Value.int .u64) := TKy.int (by kernel_rfl)
instance : TSc Go.Proofs.Try.prog 143 := ⟨fun _ => ⟨by kernel_rfl, by kernel_rfl⟩⟩
instance : TZe Go.Proofs.Try.prog 143 (.pointer none) := ⟨fun _ => by kernel_rfl⟩
instance : TPt Go.Proofs.Try.prog 143 := ⟨⟨3, by kernel_rfl⟩⟩
instance : TSc Go.Proofs.Try.prog 145 := ⟨fun _ => ⟨by kernel_rfl, by kernel_rfl⟩⟩
instance : TZe Go.Proofs.Try.prog 145 (.pointer none) := ⟨fun _ => by kernel_rfl⟩
instance : TPt Go.Proofs.Try.prog 145 := ⟨⟨139, by kernel_rfl⟩⟩
instance : TAg Go.Proofs.Try.prog 149 4 := ⟨fun _ => ⟨by kernel_rfl, by kernel_rfl⟩⟩
instance : TZe Go.Proofs.Try.prog 149 (.agg #[.pointer none, .pointer none, .pointer none, .string ByteArray.empty]) := ⟨fun _ => by kernel_rfl⟩
instance : TFa Go.Proofs.Try.prog 149 0 0 := ⟨fun _ _ _ => by kernel_rfl⟩
instance : TFv Go.Proofs.Try.prog 149 0 0 1 false := ⟨by kernel_rfl⟩
instance : TFa Go.Proofs.Try.prog 149 1 1 := ⟨fun _ _ _ => by kernel_rfl⟩
instance : TFv Go.Proofs.Try.prog 149 1 1 1 false := ⟨by kernel_rfl⟩
instance : TFa Go.Proofs.Try.prog 149 2 2 := ⟨fun _ _ _ => by kernel_rfl⟩
instance : TFv Go.Proofs.Try.prog 149 2 2 1 false := ⟨by kernel_rfl⟩
instance : TFa Go.Proofs.Try.prog 149 3 3 := ⟨fun _ _ _ => by kernel_rfl⟩
instance : TFv Go.Proofs.Try.prog 149 3 3 1 false := ⟨by kernel_rfl⟩
instance : TSt Go.Proofs.Try.prog 149 [.pointer none, .pointer none, .pointer none, .string ByteArray.empty] [(0, 1), (1, 1), (2, 1), (3, 1)] := ⟨fun _ => by kernel_rfl, by kernel_rfl⟩
instance : TAg Go.Proofs.Try.prog 151 0 := ⟨fun _ => ⟨by kernel_rfl, by kernel_rfl⟩⟩
instance : TZe Go.Proofs.Try.prog 151 (.agg #[]) := ⟨fun _ => by kernel_rfl⟩
instance : TSt Go.Proofs.Try.prog 151 [] [] := ⟨fun _ => by kernel_rfl, by kernel_rfl⟩
instance : TAg Go.Proofs.Try.prog 152 0 := ⟨fun _ => ⟨by kernel_rfl, by kernel_rfl⟩⟩
instance : TZe Go.Proofs.Try.prog 152 (.agg #[]) := ⟨fun _ => by kernel_rfl⟩
instance : TSt Go.Proofs.Try.prog 152 [] [(0, 0)] := ⟨fun _ => by kernel_rfl, by kernel_rfl⟩
instance : TSc Go.Proofs.Try.prog 157 := ⟨fun _ => ⟨by kernel_rfl, by kernel_rfl⟩⟩
instance : TZe Go.Proofs.Try.prog 157 (.pointer none) := ⟨fun _ => by kernel_rfl⟩
instance : TPt Go.Proofs.Try.prog 157 := ⟨⟨5, by kernel_rfl⟩⟩
instance : TAg Go.Proofs.Try.prog 160 11 := ⟨fun _ => ⟨by kernel_rfl, by kernel_rfl⟩⟩
instance : TZe Go.Proofs.Try.prog 160 (.agg #[.int .u64 0, .int .u64 0, .int .u32 0, .int .u8 0, .int .u8 0, .int .u8 0, .int .u8 0, .nilFunc, .pointer none, .int .i32 0, .int .i32 0]) := ⟨fun _ => by kernel_rfl⟩
instance : TFa Go.Proofs.Try.prog 160 0 0 := ⟨fun _ _ _ => by kernel_rfl⟩
instance : TFv Go.Proofs.Try.prog 160 0 0 1 false := ⟨by kernel_rfl⟩
instance : TFa Go.Proofs.Try.prog 160 1 1 := ⟨fun _ _ _ => by kernel_rfl⟩
instance : TFv Go.Proofs.Try.prog 160 1 1 1 false := ⟨by kernel_rfl⟩
instance : TFa Go.Proofs.Try.prog 160 2 2 := ⟨fun _ _ _ => by kernel_rfl⟩
instance : TFv Go.Proofs.Try.prog 160 2 2 1 false := ⟨by kernel_rfl⟩
instance : TFa Go.Proofs.Try.prog 160 3 3 := ⟨fun _ _ _ => by kernel_rfl⟩
instance : TFv Go.Proofs.Try.prog 160 3 3 1 false := ⟨by kernel_rfl⟩
instance : TFa Go.Proofs.Try.prog 160 4 4 := ⟨fun _ _ _ => by kernel_rfl⟩
instance : TFv Go.Proofs.Try.prog 160 4 4 1 false := ⟨by kernel_rfl⟩
instance : TFa Go.Proofs.Try.prog 160 5 5 := ⟨fun _ _ _ => by kernel_rfl⟩
instance : TFv Go.Proofs.Try.prog 160 5 5 1 false := ⟨by kernel_rfl⟩
instance : TFa Go.Proofs.Try.prog 160 6 6 := ⟨fun _ _ _ => by kernel_rfl⟩
instance : TFv Go.Proofs.Try.prog 160 6 6 1 false := ⟨by kernel_rfl⟩
instance : TFa Go.Proofs.Try.prog 160 7 7 := ⟨fun _ _ _ => by kernel_rfl⟩
instance : TFv Go.Proofs.Try.prog 160 7 7 1 false := ⟨by kernel_rfl⟩
instance : TFa Go.Proofs.Try.prog 160 8 8 := ⟨fun _ _ _ => by kernel_rfl⟩
instance : TFv Go.Proofs.Try.prog 160 8 8 1 false := ⟨by kernel_rfl⟩
instance : TFa Go.Proofs.Try.prog 160 9 9 := ⟨fun _ _ _ => by kernel_rfl⟩
instance : TFv Go.Proofs.Try.prog 160 9 9 1 false := ⟨by kernel_rfl⟩
instance : TFa Go.Proofs.Try.prog 160 10 10 := ⟨fun _ _ _ => by kernel_rfl⟩
instance : TFv Go.Proofs.Try.prog 160 10 10 1 false := ⟨by kernel_rfl⟩
instance : TSt Go.Proofs.Try.prog 160 [.int .u64 0, .int .u64 0, .int .u32 0, .int .u8 0, .int .u8 0, .int .u8 0, .int .u8 0, .nilFunc, .pointer none, .int .i32 0, .int .i32 0] [(0, 1), (1, 1), (2, 1), (3, 1), (4, 1), (5, 1), (6, 1), (7, 1), (8, 1), (9, 1), (10, 1)] := ⟨fun _ => by kernel_rfl, by kernel_rfl⟩
-- function 0: main.main
-- function 1: gosem.cut
-- function 2: gosem.cut.init
-- function 3: copybook/copybooklaw11.MarkParts
-- function 4: copybook/copybooklaw11.MarkKeeps
-- function 5: copybook/copybooklaw11.MarkApart
-- function 6: copybook/copybooklaw11.MarkKnown
-- function 7: copybook/copybooklaw12.LeaseHolds
-- function 8: copybook/copybooklaw12.LeaseBack
-- function 9: copybook/copybooklaw12.LeasePlays
-- function 10: copybook/copybooklaw12.LeaseExpires
-- function 11: copybook/copybooklaw12.LeaseKnown
-- function 12: copybook/mark.New
-- function 13: copybook/copybooklaw11.awake
-- function 14: (*copybook/mark.Marks).Set
-- function 15: copybook/weave.Long
-- function 16: (*copybook/mark.Marks).Go
-- function 17: (*copybook/mark.Marks).Get
-- function 18: copybook/weave.Place
-- function 19: (*copybook/mark.Marks).Long
-- function 20: copybook/weave.Apply
-- function 21: (*copybook/mark.Marks).Copy
-- function 22: copybook/copybooklaw11.MarkApart$1
-- function 23: (*copybook/mark.Marks).Drop
-- function 24: (*copybook/mark.Marks).All
-- function 25: copybook/lease.New
-- function 26: (*copybook/lease.Leases).Live
-- function 27: (*copybook/lease.Leases).Set
-- function 28: (*copybook/lease.Leases).Drop
-- function 29: copybook/copybooklaw12.wakes
-- function 30: (*copybook/lease.Leases).All
-- function 31: copybook/copybookref12.New
-- function 32: (*copybook/copybookref12.Leases).Set
-- function 33: (*copybook/copybookref12.Leases).Drop
-- function 34: (*copybook/lease.Leases).Expire
-- function 35: copybook/copybookref12.Same
-- function 36: (*copybook/copybookref12.Leases).Expire
-- function 37: (*copybook/lease.Leases).Copy
-- function 38: copybook/copybooklaw12.same
-- function 39: (*copybook/copybookref12.Leases).Live
-- function 40: (*copybook/lease.Leases).There
-- function 41: (*copybook/copybookref12.Leases).Which
-- function 42: (*copybook/mark.Marks).none
-- function 43: slices.ContainsFunc[[]copybook/api.Unit,copybook/api.Unit]
-- function 44: copybook/weave.Long$1
-- function 45: copybook/unit.May
-- function 46: copybook/unit.Fits
-- function 47: slices.Clone[[]copybook/api.Char,copybook/api.Char]
-- function 48: slices.Insert[[]copybook/api.Char,copybook/api.Char]
-- function 49: slices.Delete[[]copybook/api.Char,copybook/api.Char]
-- function 50: maps.Clone[map[uint32]int,uint32,int]
-- function 51: slices.Sorted[uint32]
-- function 52: maps.Keys[map[uint32]int,uint32,int]
-- function 53: (*copybook/lease.Leases).none
-- function 54: (*copybook/lease.Leases).clients
-- function 55: (*copybook/copybookref12.Leases).at
-- function 56: (*copybook/copybookref12.Leases).lay
-- function 57: (*copybook/lease.Leases).which
-- function 58: maps.Clone[map[uint32]uint64,uint32,uint64]
-- function 59: slices.IndexFunc[[]copybook/api.Unit,copybook/api.Unit]
-- function 60: copybook/utf.May
-- function 61: slices.overlaps[copybook/api.Char]
-- function 62: slices.rotateRight[copybook/api.Char]
-- function 63: maps.clone
-- function 64: slices.Collect[uint32]
-- function 65: slices.Sort[[]uint32,uint32]
-- function 66: maps.Keys[map[uint32]int,uint32,int]$1
-- function 67: maps.Keys[map[uint32]uint64,uint32,uint64]
-- function 68: slices.rotateLeft[copybook/api.Char]
-- function 69: slices.AppendSeq[[]uint32,uint32]
-- function 70: slices.pdqsortOrdered[uint32]
-- function 71: math/bits.Len
-- function 72: maps.Keys[map[uint32]uint64,uint32,uint64]$1
-- function 73: slices.Reverse[[]copybook/api.Char,copybook/api.Char]
-- function 74: slices.insertionSortOrdered[uint32]
-- function 75: slices.heapSortOrdered[uint32]
-- function 76: slices.breakPatternsOrdered[uint32]
-- function 77: slices.choosePivotOrdered[uint32]
-- function 78: slices.reverseRangeOrdered[uint32]
-- function 79: slices.partialInsertionSortOrdered[uint32]
-- function 80: cmp.Less[uint32]
-- function 81: slices.partitionEqualOrdered[uint32]
-- function 82: slices.partitionOrdered[uint32]
-- function 83: math/bits.Len32
-- function 84: math/bits.Len64
-- function 85: slices.siftDownOrdered[uint32]
-- function 86: slices.nextPowerOfTwo
-- function 87: (*slices.xorshift).Next
-- function 88: slices.medianAdjacentOrdered[uint32]
-- function 89: slices.medianOrdered[uint32]
-- function 90: cmp.isNaN[uint32]
-- function 91: slices.order2Ordered[uint32]
-- function 92: (runtime.boundsError).Error
-- function 93: (runtime.boundsError).RuntimeError
-- function 94: (runtime.errorString).Error
-- function 95: (runtime.errorString).RuntimeError
-- function 96: (runtime.plainError).Error
-- function 97: (runtime.plainError).RuntimeError
-- function 98: (runtime.errorAddressString).Error
-- function 99: (runtime.errorAddressString).RuntimeError
-- function 100: (*runtime.TypeAssertionError).Error
-- function 101: (*runtime.TypeAssertionError).RuntimeError
-- function 102: (*runtime.PanicNilError).Error
-- function 103: (*runtime.PanicNilError).RuntimeError
-- function 104: (*internal/abi.Type).Align
-- function 105: (internal/runtime/maps.unhashableTypeError).Error
-- function 106: (internal/runtime/maps.unhashableTypeError).RuntimeError
-- function 107: (internal/abi.Kind).String
theorem call2 : ∀ (xs : Array Value) (w : World), (callFunc 2 xs).run Try.prog w = .ok (.enter 2 xs) w := fun _ _ => by kernel_rfl
theorem call3 : ∀ (xs : Array Value) (w : World), (callFunc 3 xs).run Try.prog w = .ok (.enter 3 xs) w := fun _ _ => by kernel_rfl
theorem call4 : ∀ (xs : Array Value) (w : World), (callFunc 4 xs).run Try.prog w = .ok (.enter 4 xs) w := fun _ _ => by kernel_rfl
theorem call5 : ∀ (xs : Array Value) (w : World), (callFunc 5 xs).run Try.prog w = .ok (.enter 5 xs) w := fun _ _ => by kernel_rfl
theorem call6 : ∀ (xs : Array Value) (w : World), (callFunc 6 xs).run Try.prog w = .ok (.enter 6 xs) w := fun _ _ => by kernel_rfl
theorem call7 : ∀ (xs : Array Value) (w : World), (callFunc 7 xs).run Try.prog w = .ok (.enter 7 xs) w := fun _ _ => by kernel_rfl
theorem call8 : ∀ (xs : Array Value) (w : World), (callFunc 8 xs).run Try.prog w = .ok (.enter 8 xs) w := fun _ _ => by kernel_rfl
theorem call9 : ∀ (xs : Array Value) (w : World), (callFunc 9 xs).run Try.prog w = .ok (.enter 9 xs) w := fun _ _ => by kernel_rfl
theorem call10 : ∀ (xs : Array Value) (w : World), (callFunc 10 xs).run Try.prog w = .ok (.enter 10 xs) w := fun _ _ => by kernel_rfl
theorem call11 : ∀ (xs : Array Value) (w : World), (callFunc 11 xs).run Try.prog w = .ok (.enter 11 xs) w := fun _ _ => by kernel_rfl
theorem call12 : ∀ (xs : Array Value) (w : World), (callFunc 12 xs).run Try.prog w = .ok (.enter 12 xs) w := fun _ _ => by kernel_rfl
theorem call13 : ∀ (xs : Array Value) (w : World), (callFunc 13 xs).run Try.prog w = .ok (.enter 13 xs) w := fun _ _ => by kernel_rfl
theorem call14 : ∀ (xs : Array Value) (w : World), (callFunc 14 xs).run Try.prog w = .ok (.enter 14 xs) w := fun _ _ => by kernel_rfl
theorem call15 : ∀ (xs : Array Value) (w : World), (callFunc 15 xs).run Try.prog w = .ok (.enter 15 xs) w := fun _ _ => by kernel_rfl
theorem call16 : ∀ (xs : Array Value) (w : World), (callFunc 16 xs).run Try.prog w = .ok (.enter 16 xs) w := fun _ _ => by kernel_rfl
theorem call17 : ∀ (xs : Array Value) (w : World), (callFunc 17 xs).run Try.prog w = .ok (.enter 17 xs) w := fun _ _ => by kernel_rfl
theorem call18 : ∀ (xs : Array Value) (w : World), (callFunc 18 xs).run Try.prog w = .ok (.enter 18 xs) w := fun _ _ => by kernel_rfl
theorem call19 : ∀ (xs : Array Value) (w : World), (callFunc 19 xs).run Try.prog w = .ok (.enter 19 xs) w := fun _ _ => by kernel_rfl
theorem call20 : ∀ (xs : Array Value) (w : World), (callFunc 20 xs).run Try.prog w = .ok (.enter 20 xs) w := fun _ _ => by kernel_rfl
theorem call21 : ∀ (xs : Array Value) (w : World), (callFunc 21 xs).run Try.prog w = .ok (.enter 21 xs) w := fun _ _ => by kernel_rfl
theorem call22 : ∀ (xs : Array Value) (w : World), (callFunc 22 xs).run Try.prog w = .ok (.enter 22 xs) w := fun _ _ => by kernel_rfl
theorem call23 : ∀ (xs : Array Value) (w : World), (callFunc 23 xs).run Try.prog w = .ok (.enter 23 xs) w := fun _ _ => by kernel_rfl
theorem call24 : ∀ (xs : Array Value) (w : World), (callFunc 24 xs).run Try.prog w = .ok (.enter 24 xs) w := fun _ _ => by kernel_rfl
theorem call25 : ∀ (xs : Array Value) (w : World), (callFunc 25 xs).run Try.prog w = .ok (.enter 25 xs) w := fun _ _ => by kernel_rfl
theorem call26 : ∀ (xs : Array Value) (w : World), (callFunc 26 xs).run Try.prog w = .ok (.enter 26 xs) w := fun _ _ => by kernel_rfl
theorem call27 : ∀ (xs : Array Value) (w : World), (callFunc 27 xs).run Try.prog w = .ok (.enter 27 xs) w := fun _ _ => by kernel_rfl
theorem call28 : ∀ (xs : Array Value) (w : World), (callFunc 28 xs).run Try.prog w = .ok (.enter 28 xs) w := fun _ _ => by kernel_rfl
theorem call29 : ∀ (xs : Array Value) (w : World), (callFunc 29 xs).run Try.prog w = .ok (.enter 29 xs) w := fun _ _ => by kernel_rfl
theorem call30 : ∀ (xs : Array Value) (w : World), (callFunc 30 xs).run Try.prog w = .ok (.enter 30 xs) w := fun _ _ => by kernel_rfl
theorem call31 : ∀ (xs : Array Value) (w : World), (callFunc 31 xs).run Try.prog w = .ok (.enter 31 xs) w := fun _ _ => by kernel_rfl
theorem call32 : ∀ (xs : Array Value) (w : World), (callFunc 32 xs).run Try.prog w = .ok (.enter 32 xs) w := fun _ _ => by kernel_rfl
theorem call33 : ∀ (xs : Array Value) (w : World), (callFunc 33 xs).run Try.prog w = .ok (.enter 33 xs) w := fun _ _ => by kernel_rfl
theorem call34 : ∀ (xs : Array Value) (w : World), (callFunc 34 xs).run Try.prog w = .ok (.enter 34 xs) w := fun _ _ => by kernel_rfl
theorem call35 : ∀ (xs : Array Value) (w : World), (callFunc 35 xs).run Try.prog w = .ok (.enter 35 xs) w := fun _ _ => by kernel_rfl
theorem call36 : ∀ (xs : Array Value) (w : World), (callFunc 36 xs).run Try.prog w = .ok (.enter 36 xs) w := fun _ _ => by kernel_rfl
theorem call37 : ∀ (xs : Array Value) (w : World), (callFunc 37 xs).run Try.prog w = .ok (.enter 37 xs) w := fun _ _ => by kernel_rfl
theorem call38 : ∀ (xs : Array Value) (w : World), (callFunc 38 xs).run Try.prog w = .ok (.enter 38 xs) w := fun _ _ => by kernel_rfl
theorem call39 : ∀ (xs : Array Value) (w : World), (callFunc 39 xs).run Try.prog w = .ok (.enter 39 xs) w := fun _ _ => by kernel_rfl
theorem call40 : ∀ (xs : Array Value) (w : World), (callFunc 40 xs).run Try.prog w = .ok (.enter 40 xs) w := fun _ _ => by kernel_rfl
theorem call41 : ∀ (xs : Array Value) (w : World), (callFunc 41 xs).run Try.prog w = .ok (.enter 41 xs) w := fun _ _ => by kernel_rfl
theorem call42 : ∀ (xs : Array Value) (w : World), (callFunc 42 xs).run Try.prog w = .ok (.enter 42 xs) w := fun _ _ => by kernel_rfl
theorem call43 : ∀ (xs : Array Value) (w : World), (callFunc 43 xs).run Try.prog w = .ok (.enter 43 xs) w := fun _ _ => by kernel_rfl
theorem call44 : ∀ (xs : Array Value) (w : World), (callFunc 44 xs).run Try.prog w = .ok (.enter 44 xs) w := fun _ _ => by kernel_rfl
theorem call45 : ∀ (xs : Array Value) (w : World), (callFunc 45 xs).run Try.prog w = .ok (.enter 45 xs) w := fun _ _ => by kernel_rfl
theorem call46 : ∀ (xs : Array Value) (w : World), (callFunc 46 xs).run Try.prog w = .ok (.enter 46 xs) w := fun _ _ => by kernel_rfl
theorem call47 : ∀ (xs : Array Value) (w : World), (callFunc 47 xs).run Try.prog w = .ok (.enter 47 xs) w := fun _ _ => by kernel_rfl
theorem call48 : ∀ (xs : Array Value) (w : World), (callFunc 48 xs).run Try.prog w = .ok (.enter 48 xs) w := fun _ _ => by kernel_rfl
theorem call49 : ∀ (xs : Array Value) (w : World), (callFunc 49 xs).run Try.prog w = .ok (.enter 49 xs) w := fun _ _ => by kernel_rfl
theorem call50 : ∀ (xs : Array Value) (w : World), (callFunc 50 xs).run Try.prog w = .ok (.enter 50 xs) w := fun _ _ => by kernel_rfl
theorem call51 : ∀ (xs : Array Value) (w : World), (callFunc 51 xs).run Try.prog w = .ok (.enter 51 xs) w := fun _ _ => by kernel_rfl
theorem call52 : ∀ (xs : Array Value) (w : World), (callFunc 52 xs).run Try.prog w = .ok (.enter 52 xs) w := fun _ _ => by kernel_rfl
theorem call53 : ∀ (xs : Array Value) (w : World), (callFunc 53 xs).run Try.prog w = .ok (.enter 53 xs) w := fun _ _ => by kernel_rfl
theorem call54 : ∀ (xs : Array Value) (w : World), (callFunc 54 xs).run Try.prog w = .ok (.enter 54 xs) w := fun _ _ => by kernel_rfl
theorem call55 : ∀ (xs : Array Value) (w : World), (callFunc 55 xs).run Try.prog w = .ok (.enter 55 xs) w := fun _ _ => by kernel_rfl
theorem call56 : ∀ (xs : Array Value) (w : World), (callFunc 56 xs).run Try.prog w = .ok (.enter 56 xs) w := fun _ _ => by kernel_rfl
theorem call57 : ∀ (xs : Array Value) (w : World), (callFunc 57 xs).run Try.prog w = .ok (.enter 57 xs) w := fun _ _ => by kernel_rfl
theorem call58 : ∀ (xs : Array Value) (w : World), (callFunc 58 xs).run Try.prog w = .ok (.enter 58 xs) w := fun _ _ => by kernel_rfl
theorem call59 : ∀ (xs : Array Value) (w : World), (callFunc 59 xs).run Try.prog w = .ok (.enter 59 xs) w := fun _ _ => by kernel_rfl
theorem call60 : ∀ (xs : Array Value) (w : World), (callFunc 60 xs).run Try.prog w = .ok (.enter 60 xs) w := fun _ _ => by kernel_rfl
theorem call62 : ∀ (xs : Array Value) (w : World), (callFunc 62 xs).run Try.prog w = .ok (.enter 62 xs) w := fun _ _ => by kernel_rfl
theorem call64 : ∀ (xs : Array Value) (w : World), (callFunc 64 xs).run Try.prog w = .ok (.enter 64 xs) w := fun _ _ => by kernel_rfl
theorem call65 : ∀ (xs : Array Value) (w : World), (callFunc 65 xs).run Try.prog w = .ok (.enter 65 xs) w := fun _ _ => by kernel_rfl
theorem call66 : ∀ (xs : Array Value) (w : World), (callFunc 66 xs).run Try.prog w = .ok (.enter 66 xs) w := fun _ _ => by kernel_rfl
theorem call67 : ∀ (xs : Array Value) (w : World), (callFunc 67 xs).run Try.prog w = .ok (.enter 67 xs) w := fun _ _ => by kernel_rfl
theorem call68 : ∀ (xs : Array Value) (w : World), (callFunc 68 xs).run Try.prog w = .ok (.enter 68 xs) w := fun _ _ => by kernel_rfl
theorem call69 : ∀ (xs : Array Value) (w : World), (callFunc 69 xs).run Try.prog w = .ok (.enter 69 xs) w := fun _ _ => by kernel_rfl
theorem call70 : ∀ (xs : Array Value) (w : World), (callFunc 70 xs).run Try.prog w = .ok (.enter 70 xs) w := fun _ _ => by kernel_rfl
theorem call71 : ∀ (xs : Array Value) (w : World), (callFunc 71 xs).run Try.prog w = .ok (.enter 71 xs) w := fun _ _ => by kernel_rfl
theorem call72 : ∀ (xs : Array Value) (w : World), (callFunc 72 xs).run Try.prog w = .ok (.enter 72 xs) w := fun _ _ => by kernel_rfl
theorem call73 : ∀ (xs : Array Value) (w : World), (callFunc 73 xs).run Try.prog w = .ok (.enter 73 xs) w := fun _ _ => by kernel_rfl
theorem call74 : ∀ (xs : Array Value) (w : World), (callFunc 74 xs).run Try.prog w = .ok (.enter 74 xs) w := fun _ _ => by kernel_rfl
theorem call75 : ∀ (xs : Array Value) (w : World), (callFunc 75 xs).run Try.prog w = .ok (.enter 75 xs) w := fun _ _ => by kernel_rfl
theorem call76 : ∀ (xs : Array Value) (w : World), (callFunc 76 xs).run Try.prog w = .ok (.enter 76 xs) w := fun _ _ => by kernel_rfl
theorem call77 : ∀ (xs : Array Value) (w : World), (callFunc 77 xs).run Try.prog w = .ok (.enter 77 xs) w := fun _ _ => by kernel_rfl
theorem call78 : ∀ (xs : Array Value) (w : World), (callFunc 78 xs).run Try.prog w = .ok (.enter 78 xs) w := fun _ _ => by kernel_rfl
theorem call79 : ∀ (xs : Array Value) (w : World), (callFunc 79 xs).run Try.prog w = .ok (.enter 79 xs) w := fun _ _ => by kernel_rfl
theorem call80 : ∀ (xs : Array Value) (w : World), (callFunc 80 xs).run Try.prog w = .ok (.enter 80 xs) w := fun _ _ => by kernel_rfl
theorem call81 : ∀ (xs : Array Value) (w : World), (callFunc 81 xs).run Try.prog w = .ok (.enter 81 xs) w := fun _ _ => by kernel_rfl
theorem call82 : ∀ (xs : Array Value) (w : World), (callFunc 82 xs).run Try.prog w = .ok (.enter 82 xs) w := fun _ _ => by kernel_rfl
theorem call83 : ∀ (xs : Array Value) (w : World), (callFunc 83 xs).run Try.prog w = .ok (.enter 83 xs) w := fun _ _ => by kernel_rfl
theorem call84 : ∀ (xs : Array Value) (w : World), (callFunc 84 xs).run Try.prog w = .ok (.enter 84 xs) w := fun _ _ => by kernel_rfl
theorem call85 : ∀ (xs : Array Value) (w : World), (callFunc 85 xs).run Try.prog w = .ok (.enter 85 xs) w := fun _ _ => by kernel_rfl
theorem call86 : ∀ (xs : Array Value) (w : World), (callFunc 86 xs).run Try.prog w = .ok (.enter 86 xs) w := fun _ _ => by kernel_rfl
theorem call87 : ∀ (xs : Array Value) (w : World), (callFunc 87 xs).run Try.prog w = .ok (.enter 87 xs) w := fun _ _ => by kernel_rfl
theorem call88 : ∀ (xs : Array Value) (w : World), (callFunc 88 xs).run Try.prog w = .ok (.enter 88 xs) w := fun _ _ => by kernel_rfl
theorem call89 : ∀ (xs : Array Value) (w : World), (callFunc 89 xs).run Try.prog w = .ok (.enter 89 xs) w := fun _ _ => by kernel_rfl
theorem call90 : ∀ (xs : Array Value) (w : World), (callFunc 90 xs).run Try.prog w = .ok (.enter 90 xs) w := fun _ _ => by kernel_rfl
theorem call91 : ∀ (xs : Array Value) (w : World), (callFunc 91 xs).run Try.prog w = .ok (.enter 91 xs) w := fun _ _ => by kernel_rfl
theorem mixed : Try.prog.follows .mixedOrders = true := by kernel_rfl
end SL
