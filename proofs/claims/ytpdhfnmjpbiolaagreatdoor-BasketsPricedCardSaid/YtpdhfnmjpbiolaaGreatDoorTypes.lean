/- A part of the proof of a law of this seat: it adds no condition. By an AI agent. -/
import Derived.Test.YtpdhfnmjpbiolaaGreatDoorProg
import Derived.Test.YtpdhfnmjpbiolaaGreatDoorCore
set_option linter.all false
set_option maxRecDepth 100000
namespace Lg
open Go Go.Proofs
instance : TyOne Tryz.prog 1 := ⟨fun _ => rfl, _, rfl, rfl⟩
instance : TyZero Tryz.prog 1 [.nilFunc] := ⟨⟨_, _, rfl, rfl, rfl⟩, by simp [Value.oneCell']⟩
instance : TyOne Tryz.prog 2 := ⟨fun _ => rfl, _, rfl, rfl⟩
instance : TyZero Tryz.prog 2 [.int .i64 0] := ⟨⟨_, _, rfl, rfl, rfl⟩, by simp [Value.oneCell']⟩
instance : TyOne Tryz.prog 3 := ⟨fun _ => rfl, _, rfl, rfl⟩
instance : TyZero Tryz.prog 3 [.int .i64 0] := ⟨⟨_, _, rfl, rfl, rfl⟩, by simp [Value.oneCell']⟩
instance : TyOne Tryz.prog 4 := ⟨fun _ => rfl, _, rfl, rfl⟩
instance : TyZero Tryz.prog 4 [.bool false] := ⟨⟨_, _, rfl, rfl, rfl⟩, by simp [Value.oneCell']⟩
instance : TyOne Tryz.prog 5 := ⟨fun _ => rfl, _, rfl, rfl⟩
instance : TyZero Tryz.prog 5 [.int .u8 0] := ⟨⟨_, _, rfl, rfl, rfl⟩, by simp [Value.oneCell']⟩
instance : TyOne Tryz.prog 6 := ⟨fun _ => rfl, _, rfl, rfl⟩
instance : TyZero Tryz.prog 6 [.int .u8 0] := ⟨⟨_, _, rfl, rfl, rfl⟩, by simp [Value.oneCell']⟩
instance : TyAgg Tryz.prog 7 4 := ⟨fun _ => rfl, _, rfl, rfl⟩
instance : TyFld Tryz.prog 7 0 0 2 := ⟨_, _, rfl, rfl, rfl, rfl, _, rfl, by decide⟩
instance : TyFld Tryz.prog 7 1 1 3 := ⟨_, _, rfl, rfl, rfl, rfl, _, rfl, by decide⟩
instance : TyFld Tryz.prog 7 2 2 4 := ⟨_, _, rfl, rfl, rfl, rfl, _, rfl, by decide⟩
instance : TyFld Tryz.prog 7 3 3 6 := ⟨_, _, rfl, rfl, rfl, rfl, _, rfl, by decide⟩
instance : TyStr Tryz.prog 7 [(0, 1), (1, 1), (2, 1), (3, 1)] [.int .i64 0, .int .i64 0, .bool false, .int .u8 0] := ⟨⟨_, _, rfl, rfl, rfl, _, rfl, rfl⟩, by simp [Value.oneCell']⟩
instance : TyZero Tryz.prog 7 [.int .i64 0, .int .i64 0, .bool false, .int .u8 0] := ⟨⟨_, _, rfl, rfl, rfl⟩, by simp [Value.oneCell']⟩
instance : TyAgg Tryz.prog 8 4 := ⟨fun _ => rfl, _, rfl, rfl⟩
instance : TyFld Tryz.prog 8 0 0 2 := ⟨_, _, rfl, rfl, rfl, rfl, _, rfl, by decide⟩
instance : TyFld Tryz.prog 8 1 1 3 := ⟨_, _, rfl, rfl, rfl, rfl, _, rfl, by decide⟩
instance : TyFld Tryz.prog 8 2 2 4 := ⟨_, _, rfl, rfl, rfl, rfl, _, rfl, by decide⟩
instance : TyFld Tryz.prog 8 3 3 6 := ⟨_, _, rfl, rfl, rfl, rfl, _, rfl, by decide⟩
instance : TyStr Tryz.prog 8 [(0, 1), (1, 1), (2, 1), (3, 1)] [.int .i64 0, .int .i64 0, .bool false, .int .u8 0] := ⟨⟨_, _, rfl, rfl, rfl, _, rfl, rfl⟩, by simp [Value.oneCell']⟩
instance : TyZero Tryz.prog 8 [.int .i64 0, .int .i64 0, .bool false, .int .u8 0] := ⟨⟨_, _, rfl, rfl, rfl⟩, by simp [Value.oneCell']⟩
instance : TyOne Tryz.prog 9 := ⟨fun _ => rfl, _, rfl, rfl⟩
instance : TyZero Tryz.prog 9 [.string ByteArray.empty] := ⟨⟨_, _, rfl, rfl, rfl⟩, by simp [Value.oneCell']⟩
instance : TyOne Tryz.prog 10 := ⟨fun _ => rfl, _, rfl, rfl⟩
instance : TyZero Tryz.prog 10 [.string ByteArray.empty] := ⟨⟨_, _, rfl, rfl, rfl⟩, by simp [Value.oneCell']⟩
instance : TyOne Tryz.prog 11 := ⟨fun _ => rfl, _, rfl, rfl⟩
instance : TyZero Tryz.prog 11 [.string ByteArray.empty] := ⟨⟨_, _, rfl, rfl, rfl⟩, by simp [Value.oneCell']⟩
instance : TyOne Tryz.prog 12 := ⟨fun _ => rfl, _, rfl, rfl⟩
instance : TyZero Tryz.prog 12 [.int .u64 0] := ⟨⟨_, _, rfl, rfl, rfl⟩, by simp [Value.oneCell']⟩
instance : TyAgg Tryz.prog 13 2 := ⟨fun _ => rfl, _, rfl, rfl⟩
instance : TyFld Tryz.prog 13 0 0 9 := ⟨_, _, rfl, rfl, rfl, rfl, _, rfl, by decide⟩
instance : TyFld Tryz.prog 13 1 1 12 := ⟨_, _, rfl, rfl, rfl, rfl, _, rfl, by decide⟩
instance : TyStr Tryz.prog 13 [(0, 1), (1, 1)] [.string ByteArray.empty, .int .u64 0] := ⟨⟨_, _, rfl, rfl, rfl, _, rfl, rfl⟩, by simp [Value.oneCell']⟩
instance : TyZero Tryz.prog 13 [.string ByteArray.empty, .int .u64 0] := ⟨⟨_, _, rfl, rfl, rfl⟩, by simp [Value.oneCell']⟩
instance : TyAgg Tryz.prog 14 2 := ⟨fun _ => rfl, _, rfl, rfl⟩
instance : TyFld Tryz.prog 14 0 0 9 := ⟨_, _, rfl, rfl, rfl, rfl, _, rfl, by decide⟩
instance : TyFld Tryz.prog 14 1 1 12 := ⟨_, _, rfl, rfl, rfl, rfl, _, rfl, by decide⟩
instance : TyStr Tryz.prog 14 [(0, 1), (1, 1)] [.string ByteArray.empty, .int .u64 0] := ⟨⟨_, _, rfl, rfl, rfl, _, rfl, rfl⟩, by simp [Value.oneCell']⟩
instance : TyZero Tryz.prog 14 [.string ByteArray.empty, .int .u64 0] := ⟨⟨_, _, rfl, rfl, rfl⟩, by simp [Value.oneCell']⟩
instance : TyOne Tryz.prog 15 := ⟨fun _ => rfl, _, rfl, rfl⟩
instance : TyZero Tryz.prog 15 [.pointer none] := ⟨⟨_, _, rfl, rfl, rfl⟩, by simp [Value.oneCell']⟩
instance : TyOne Tryz.prog 16 := ⟨fun _ => rfl, _, rfl, rfl⟩
instance : TyZero Tryz.prog 16 [.pointer none] := ⟨⟨_, _, rfl, rfl, rfl⟩, by simp [Value.oneCell']⟩
instance : TyOne Tryz.prog 17 := ⟨fun _ => rfl, _, rfl, rfl⟩
instance : TyZero Tryz.prog 17 [.pointer none] := ⟨⟨_, _, rfl, rfl, rfl⟩, by simp [Value.oneCell']⟩
instance : TyAgg Tryz.prog 18 1 := ⟨fun _ => rfl, _, rfl, rfl⟩
instance : TyFld Tryz.prog 18 0 0 17 := ⟨_, _, rfl, rfl, rfl, rfl, _, rfl, by decide⟩
instance : TyStr Tryz.prog 18 [(0, 1)] [.pointer none] := ⟨⟨_, _, rfl, rfl, rfl, _, rfl, rfl⟩, by simp [Value.oneCell']⟩
instance : TyZero Tryz.prog 18 [.pointer none] := ⟨⟨_, _, rfl, rfl, rfl⟩, by simp [Value.oneCell']⟩
instance : TyAgg Tryz.prog 19 1 := ⟨fun _ => rfl, _, rfl, rfl⟩
instance : TyFld Tryz.prog 19 0 0 17 := ⟨_, _, rfl, rfl, rfl, rfl, _, rfl, by decide⟩
instance : TyStr Tryz.prog 19 [(0, 1)] [.pointer none] := ⟨⟨_, _, rfl, rfl, rfl, _, rfl, rfl⟩, by simp [Value.oneCell']⟩
instance : TyZero Tryz.prog 19 [.pointer none] := ⟨⟨_, _, rfl, rfl, rfl⟩, by simp [Value.oneCell']⟩
instance : TyOne Tryz.prog 20 := ⟨fun _ => rfl, _, rfl, rfl⟩
instance : TyZero Tryz.prog 20 [.nilIface] := ⟨⟨_, _, rfl, rfl, rfl⟩, by simp [Value.oneCell']⟩
instance : TyOne Tryz.prog 21 := ⟨fun _ => rfl, _, rfl, rfl⟩
instance : TyZero Tryz.prog 21 [.int .i32 0] := ⟨⟨_, _, rfl, rfl, rfl⟩, by simp [Value.oneCell']⟩
instance : TyOne Tryz.prog 22 := ⟨fun _ => rfl, _, rfl, rfl⟩
instance : TyZero Tryz.prog 22 [.slice none 0 0] := ⟨⟨_, _, rfl, rfl, rfl⟩, by simp [Value.oneCell']⟩
instance : TySl Tryz.prog 22 3 1 8 [.int .i64 0] := ⟨rfl, ⟨_, _, rfl, rfl, rfl, rfl, rfl, by decide⟩, rfl, by simp [Value.oneCell']⟩
instance : TyOne Tryz.prog 23 := ⟨fun _ => rfl, _, rfl, rfl⟩
instance : TyZero Tryz.prog 23 [.pointer none] := ⟨⟨_, _, rfl, rfl, rfl⟩, by simp [Value.oneCell']⟩
instance : TyAgg Tryz.prog 24 2 := ⟨fun _ => rfl, _, rfl, rfl⟩
instance : TyFld Tryz.prog 24 0 0 22 := ⟨_, _, rfl, rfl, rfl, rfl, _, rfl, by decide⟩
instance : TyFld Tryz.prog 24 1 1 3 := ⟨_, _, rfl, rfl, rfl, rfl, _, rfl, by decide⟩
instance : TyStr Tryz.prog 24 [(0, 1), (1, 1)] [.slice none 0 0, .int .i64 0] := ⟨⟨_, _, rfl, rfl, rfl, _, rfl, rfl⟩, by simp [Value.oneCell']⟩
instance : TyZero Tryz.prog 24 [.slice none 0 0, .int .i64 0] := ⟨⟨_, _, rfl, rfl, rfl⟩, by simp [Value.oneCell']⟩
instance : TyAgg Tryz.prog 25 2 := ⟨fun _ => rfl, _, rfl, rfl⟩
instance : TyFld Tryz.prog 25 0 0 22 := ⟨_, _, rfl, rfl, rfl, rfl, _, rfl, by decide⟩
instance : TyFld Tryz.prog 25 1 1 3 := ⟨_, _, rfl, rfl, rfl, rfl, _, rfl, by decide⟩
instance : TyStr Tryz.prog 25 [(0, 1), (1, 1)] [.slice none 0 0, .int .i64 0] := ⟨⟨_, _, rfl, rfl, rfl, _, rfl, rfl⟩, by simp [Value.oneCell']⟩
instance : TyZero Tryz.prog 25 [.slice none 0 0, .int .i64 0] := ⟨⟨_, _, rfl, rfl, rfl⟩, by simp [Value.oneCell']⟩
instance : TyOne Tryz.prog 26 := ⟨fun _ => rfl, _, rfl, rfl⟩
instance : TyZero Tryz.prog 26 [.slice none 0 0] := ⟨⟨_, _, rfl, rfl, rfl⟩, by simp [Value.oneCell']⟩
instance : TySl Tryz.prog 26 48 3 40 [.string ByteArray.empty, .int .i64 0, .string ByteArray.empty] := ⟨rfl, ⟨_, _, rfl, rfl, rfl, rfl, rfl, by decide⟩, rfl, by simp [Value.oneCell']⟩
instance : TyOne Tryz.prog 27 := ⟨fun _ => rfl, _, rfl, rfl⟩
instance : TyZero Tryz.prog 27 [.nilFunc] := ⟨⟨_, _, rfl, rfl, rfl⟩, by simp [Value.oneCell']⟩
instance : TyOne Tryz.prog 28 := ⟨fun _ => rfl, _, rfl, rfl⟩
instance : TyZero Tryz.prog 28 [.slice none 0 0] := ⟨⟨_, _, rfl, rfl, rfl⟩, by simp [Value.oneCell']⟩
instance : TySl Tryz.prog 28 50 2 24 [.string ByteArray.empty, .int .i64 0] := ⟨rfl, ⟨_, _, rfl, rfl, rfl, rfl, rfl, by decide⟩, rfl, by simp [Value.oneCell']⟩
instance : TyOne Tryz.prog 29 := ⟨fun _ => rfl, _, rfl, rfl⟩
instance : TyZero Tryz.prog 29 [.nilFunc] := ⟨⟨_, _, rfl, rfl, rfl⟩, by simp [Value.oneCell']⟩
instance : TyOne Tryz.prog 30 := ⟨fun _ => rfl, _, rfl, rfl⟩
instance : TyZero Tryz.prog 30 [.slice none 0 0] := ⟨⟨_, _, rfl, rfl, rfl⟩, by simp [Value.oneCell']⟩
instance : TySl Tryz.prog 30 53 4 48 [.string ByteArray.empty, .string ByteArray.empty, .int .i64 0, .int .i64 0] := ⟨rfl, ⟨_, _, rfl, rfl, rfl, rfl, rfl, by decide⟩, rfl, by simp [Value.oneCell']⟩
instance : TyOne Tryz.prog 31 := ⟨fun _ => rfl, _, rfl, rfl⟩
instance : TyZero Tryz.prog 31 [.nilFunc] := ⟨⟨_, _, rfl, rfl, rfl⟩, by simp [Value.oneCell']⟩
instance : TyOne Tryz.prog 32 := ⟨fun _ => rfl, _, rfl, rfl⟩
instance : TyZero Tryz.prog 32 [.int .i64 0] := ⟨⟨_, _, rfl, rfl, rfl⟩, by simp [Value.oneCell']⟩
instance : TyOne Tryz.prog 33 := ⟨fun _ => rfl, _, rfl, rfl⟩
instance : TyZero Tryz.prog 33 [.nilFunc] := ⟨⟨_, _, rfl, rfl, rfl⟩, by simp [Value.oneCell']⟩
instance : TyOne Tryz.prog 34 := ⟨fun _ => rfl, _, rfl, rfl⟩
instance : TyZero Tryz.prog 34 [.nilFunc] := ⟨⟨_, _, rfl, rfl, rfl⟩, by simp [Value.oneCell']⟩
instance : TyOne Tryz.prog 35 := ⟨fun _ => rfl, _, rfl, rfl⟩
instance : TyZero Tryz.prog 35 [.slice none 0 0] := ⟨⟨_, _, rfl, rfl, rfl⟩, by simp [Value.oneCell']⟩
instance : TySl Tryz.prog 35 9 1 16 [.string ByteArray.empty] := ⟨rfl, ⟨_, _, rfl, rfl, rfl, rfl, rfl, by decide⟩, rfl, by simp [Value.oneCell']⟩
instance : TyOne Tryz.prog 37 := ⟨fun _ => rfl, _, rfl, rfl⟩
instance : TyZero Tryz.prog 37 [.nilFunc] := ⟨⟨_, _, rfl, rfl, rfl⟩, by simp [Value.oneCell']⟩
instance : TyOne Tryz.prog 38 := ⟨fun _ => rfl, _, rfl, rfl⟩
instance : TyZero Tryz.prog 38 [.nilFunc] := ⟨⟨_, _, rfl, rfl, rfl⟩, by simp [Value.oneCell']⟩
instance : TyOne Tryz.prog 39 := ⟨fun _ => rfl, _, rfl, rfl⟩
instance : TyZero Tryz.prog 39 [.nilFunc] := ⟨⟨_, _, rfl, rfl, rfl⟩, by simp [Value.oneCell']⟩
instance : TyOne Tryz.prog 41 := ⟨fun _ => rfl, _, rfl, rfl⟩
instance : TyZero Tryz.prog 41 [.nilFunc] := ⟨⟨_, _, rfl, rfl, rfl⟩, by simp [Value.oneCell']⟩
instance : TyOne Tryz.prog 42 := ⟨fun _ => rfl, _, rfl, rfl⟩
instance : TyZero Tryz.prog 42 [.nilFunc] := ⟨⟨_, _, rfl, rfl, rfl⟩, by simp [Value.oneCell']⟩
instance : TyOne Tryz.prog 43 := ⟨fun _ => rfl, _, rfl, rfl⟩
instance : TyZero Tryz.prog 43 [.nilFunc] := ⟨⟨_, _, rfl, rfl, rfl⟩, by simp [Value.oneCell']⟩
instance : TyOne Tryz.prog 44 := ⟨fun _ => rfl, _, rfl, rfl⟩
instance : TyZero Tryz.prog 44 [.nilFunc] := ⟨⟨_, _, rfl, rfl, rfl⟩, by simp [Value.oneCell']⟩
instance : TyOne Tryz.prog 45 := ⟨fun _ => rfl, _, rfl, rfl⟩
instance : TyZero Tryz.prog 45 [.nilFunc] := ⟨⟨_, _, rfl, rfl, rfl⟩, by simp [Value.oneCell']⟩
instance : TyOne Tryz.prog 46 := ⟨fun _ => rfl, _, rfl, rfl⟩
instance : TyZero Tryz.prog 46 [.nilFunc] := ⟨⟨_, _, rfl, rfl, rfl⟩, by simp [Value.oneCell']⟩
instance : TyAgg Tryz.prog 47 3 := ⟨fun _ => rfl, _, rfl, rfl⟩
instance : TyFld Tryz.prog 47 0 0 9 := ⟨_, _, rfl, rfl, rfl, rfl, _, rfl, by decide⟩
instance : TyFld Tryz.prog 47 1 1 3 := ⟨_, _, rfl, rfl, rfl, rfl, _, rfl, by decide⟩
instance : TyFld Tryz.prog 47 2 2 9 := ⟨_, _, rfl, rfl, rfl, rfl, _, rfl, by decide⟩
instance : TyStr Tryz.prog 47 [(0, 1), (1, 1), (2, 1)] [.string ByteArray.empty, .int .i64 0, .string ByteArray.empty] := ⟨⟨_, _, rfl, rfl, rfl, _, rfl, rfl⟩, by simp [Value.oneCell']⟩
instance : TyZero Tryz.prog 47 [.string ByteArray.empty, .int .i64 0, .string ByteArray.empty] := ⟨⟨_, _, rfl, rfl, rfl⟩, by simp [Value.oneCell']⟩
instance : TyAgg Tryz.prog 48 3 := ⟨fun _ => rfl, _, rfl, rfl⟩
instance : TyFld Tryz.prog 48 0 0 9 := ⟨_, _, rfl, rfl, rfl, rfl, _, rfl, by decide⟩
instance : TyFld Tryz.prog 48 1 1 3 := ⟨_, _, rfl, rfl, rfl, rfl, _, rfl, by decide⟩
instance : TyFld Tryz.prog 48 2 2 9 := ⟨_, _, rfl, rfl, rfl, rfl, _, rfl, by decide⟩
instance : TyStr Tryz.prog 48 [(0, 1), (1, 1), (2, 1)] [.string ByteArray.empty, .int .i64 0, .string ByteArray.empty] := ⟨⟨_, _, rfl, rfl, rfl, _, rfl, rfl⟩, by simp [Value.oneCell']⟩
instance : TyZero Tryz.prog 48 [.string ByteArray.empty, .int .i64 0, .string ByteArray.empty] := ⟨⟨_, _, rfl, rfl, rfl⟩, by simp [Value.oneCell']⟩
instance : TyAgg Tryz.prog 49 2 := ⟨fun _ => rfl, _, rfl, rfl⟩
instance : TyFld Tryz.prog 49 0 0 9 := ⟨_, _, rfl, rfl, rfl, rfl, _, rfl, by decide⟩
instance : TyFld Tryz.prog 49 1 1 3 := ⟨_, _, rfl, rfl, rfl, rfl, _, rfl, by decide⟩
instance : TyStr Tryz.prog 49 [(0, 1), (1, 1)] [.string ByteArray.empty, .int .i64 0] := ⟨⟨_, _, rfl, rfl, rfl, _, rfl, rfl⟩, by simp [Value.oneCell']⟩
instance : TyZero Tryz.prog 49 [.string ByteArray.empty, .int .i64 0] := ⟨⟨_, _, rfl, rfl, rfl⟩, by simp [Value.oneCell']⟩
instance : TyAgg Tryz.prog 50 2 := ⟨fun _ => rfl, _, rfl, rfl⟩
instance : TyFld Tryz.prog 50 0 0 9 := ⟨_, _, rfl, rfl, rfl, rfl, _, rfl, by decide⟩
instance : TyFld Tryz.prog 50 1 1 3 := ⟨_, _, rfl, rfl, rfl, rfl, _, rfl, by decide⟩
instance : TyStr Tryz.prog 50 [(0, 1), (1, 1)] [.string ByteArray.empty, .int .i64 0] := ⟨⟨_, _, rfl, rfl, rfl, _, rfl, rfl⟩, by simp [Value.oneCell']⟩
instance : TyZero Tryz.prog 50 [.string ByteArray.empty, .int .i64 0] := ⟨⟨_, _, rfl, rfl, rfl⟩, by simp [Value.oneCell']⟩
instance : TyOne Tryz.prog 51 := ⟨fun _ => rfl, _, rfl, rfl⟩
instance : TyZero Tryz.prog 51 [.nilFunc] := ⟨⟨_, _, rfl, rfl, rfl⟩, by simp [Value.oneCell']⟩
instance : TyAgg Tryz.prog 52 4 := ⟨fun _ => rfl, _, rfl, rfl⟩
instance : TyFld Tryz.prog 52 0 0 9 := ⟨_, _, rfl, rfl, rfl, rfl, _, rfl, by decide⟩
instance : TyFld Tryz.prog 52 1 1 9 := ⟨_, _, rfl, rfl, rfl, rfl, _, rfl, by decide⟩
instance : TyFld Tryz.prog 52 2 2 3 := ⟨_, _, rfl, rfl, rfl, rfl, _, rfl, by decide⟩
instance : TyFld Tryz.prog 52 3 3 3 := ⟨_, _, rfl, rfl, rfl, rfl, _, rfl, by decide⟩
instance : TyStr Tryz.prog 52 [(0, 1), (1, 1), (2, 1), (3, 1)] [.string ByteArray.empty, .string ByteArray.empty, .int .i64 0, .int .i64 0] := ⟨⟨_, _, rfl, rfl, rfl, _, rfl, rfl⟩, by simp [Value.oneCell']⟩
instance : TyZero Tryz.prog 52 [.string ByteArray.empty, .string ByteArray.empty, .int .i64 0, .int .i64 0] := ⟨⟨_, _, rfl, rfl, rfl⟩, by simp [Value.oneCell']⟩
instance : TyAgg Tryz.prog 53 4 := ⟨fun _ => rfl, _, rfl, rfl⟩
instance : TyFld Tryz.prog 53 0 0 9 := ⟨_, _, rfl, rfl, rfl, rfl, _, rfl, by decide⟩
instance : TyFld Tryz.prog 53 1 1 9 := ⟨_, _, rfl, rfl, rfl, rfl, _, rfl, by decide⟩
instance : TyFld Tryz.prog 53 2 2 3 := ⟨_, _, rfl, rfl, rfl, rfl, _, rfl, by decide⟩
instance : TyFld Tryz.prog 53 3 3 3 := ⟨_, _, rfl, rfl, rfl, rfl, _, rfl, by decide⟩
instance : TyStr Tryz.prog 53 [(0, 1), (1, 1), (2, 1), (3, 1)] [.string ByteArray.empty, .string ByteArray.empty, .int .i64 0, .int .i64 0] := ⟨⟨_, _, rfl, rfl, rfl, _, rfl, rfl⟩, by simp [Value.oneCell']⟩
instance : TyZero Tryz.prog 53 [.string ByteArray.empty, .string ByteArray.empty, .int .i64 0, .int .i64 0] := ⟨⟨_, _, rfl, rfl, rfl⟩, by simp [Value.oneCell']⟩
instance : TyOne Tryz.prog 54 := ⟨fun _ => rfl, _, rfl, rfl⟩
instance : TyZero Tryz.prog 54 [.nilFunc] := ⟨⟨_, _, rfl, rfl, rfl⟩, by simp [Value.oneCell']⟩
instance : TyOne Tryz.prog 55 := ⟨fun _ => rfl, _, rfl, rfl⟩
instance : TyZero Tryz.prog 55 [.nilFunc] := ⟨⟨_, _, rfl, rfl, rfl⟩, by simp [Value.oneCell']⟩
instance : TyOne Tryz.prog 56 := ⟨fun _ => rfl, _, rfl, rfl⟩
instance : TyZero Tryz.prog 56 [.nilFunc] := ⟨⟨_, _, rfl, rfl, rfl⟩, by simp [Value.oneCell']⟩
instance : TyOne Tryz.prog 57 := ⟨fun _ => rfl, _, rfl, rfl⟩
instance : TyZero Tryz.prog 57 [.nilFunc] := ⟨⟨_, _, rfl, rfl, rfl⟩, by simp [Value.oneCell']⟩
instance : TyOne Tryz.prog 59 := ⟨fun _ => rfl, _, rfl, rfl⟩
instance : TyZero Tryz.prog 59 [.nilFunc] := ⟨⟨_, _, rfl, rfl, rfl⟩, by simp [Value.oneCell']⟩
instance : TyOne Tryz.prog 60 := ⟨fun _ => rfl, _, rfl, rfl⟩
instance : TyZero Tryz.prog 60 [.nilFunc] := ⟨⟨_, _, rfl, rfl, rfl⟩, by simp [Value.oneCell']⟩
instance : TyOne Tryz.prog 61 := ⟨fun _ => rfl, _, rfl, rfl⟩
instance : TyZero Tryz.prog 61 [.nilFunc] := ⟨⟨_, _, rfl, rfl, rfl⟩, by simp [Value.oneCell']⟩
instance : TyOne Tryz.prog 62 := ⟨fun _ => rfl, _, rfl, rfl⟩
instance : TyZero Tryz.prog 62 [.nilFunc] := ⟨⟨_, _, rfl, rfl, rfl⟩, by simp [Value.oneCell']⟩
instance : TyOne Tryz.prog 63 := ⟨fun _ => rfl, _, rfl, rfl⟩
instance : TyZero Tryz.prog 63 [.nilFunc] := ⟨⟨_, _, rfl, rfl, rfl⟩, by simp [Value.oneCell']⟩
instance : TyOne Tryz.prog 64 := ⟨fun _ => rfl, _, rfl, rfl⟩
instance : TyZero Tryz.prog 64 [.nilFunc] := ⟨⟨_, _, rfl, rfl, rfl⟩, by simp [Value.oneCell']⟩
instance : TyOne Tryz.prog 65 := ⟨fun _ => rfl, _, rfl, rfl⟩
instance : TyZero Tryz.prog 65 [.slice none 0 0] := ⟨⟨_, _, rfl, rfl, rfl⟩, by simp [Value.oneCell']⟩
instance : TySl Tryz.prog 65 22 1 24 [.slice none 0 0] := ⟨rfl, ⟨_, _, rfl, rfl, rfl, rfl, rfl, by decide⟩, rfl, by simp [Value.oneCell']⟩
instance : TyAgg Tryz.prog 66 3 := ⟨fun _ => rfl, _, rfl, rfl⟩
instance : TyFld Tryz.prog 66 0 0 35 := ⟨_, _, rfl, rfl, rfl, rfl, _, rfl, by decide⟩
instance : TyFld Tryz.prog 66 1 1 65 := ⟨_, _, rfl, rfl, rfl, rfl, _, rfl, by decide⟩
instance : TyFld Tryz.prog 66 2 2 22 := ⟨_, _, rfl, rfl, rfl, rfl, _, rfl, by decide⟩
instance : TyStr Tryz.prog 66 [(0, 1), (1, 1), (2, 1)] [.slice none 0 0, .slice none 0 0, .slice none 0 0] := ⟨⟨_, _, rfl, rfl, rfl, _, rfl, rfl⟩, by simp [Value.oneCell']⟩
instance : TyZero Tryz.prog 66 [.slice none 0 0, .slice none 0 0, .slice none 0 0] := ⟨⟨_, _, rfl, rfl, rfl⟩, by simp [Value.oneCell']⟩
instance : TyAgg Tryz.prog 67 3 := ⟨fun _ => rfl, _, rfl, rfl⟩
instance : TyFld Tryz.prog 67 0 0 35 := ⟨_, _, rfl, rfl, rfl, rfl, _, rfl, by decide⟩
instance : TyFld Tryz.prog 67 1 1 65 := ⟨_, _, rfl, rfl, rfl, rfl, _, rfl, by decide⟩
instance : TyFld Tryz.prog 67 2 2 22 := ⟨_, _, rfl, rfl, rfl, rfl, _, rfl, by decide⟩
instance : TyStr Tryz.prog 67 [(0, 1), (1, 1), (2, 1)] [.slice none 0 0, .slice none 0 0, .slice none 0 0] := ⟨⟨_, _, rfl, rfl, rfl, _, rfl, rfl⟩, by simp [Value.oneCell']⟩
instance : TyZero Tryz.prog 67 [.slice none 0 0, .slice none 0 0, .slice none 0 0] := ⟨⟨_, _, rfl, rfl, rfl⟩, by simp [Value.oneCell']⟩
instance : TyOne Tryz.prog 69 := ⟨fun _ => rfl, _, rfl, rfl⟩
instance : TyZero Tryz.prog 69 [.nilFunc] := ⟨⟨_, _, rfl, rfl, rfl⟩, by simp [Value.oneCell']⟩
instance : TyOne Tryz.prog 70 := ⟨fun _ => rfl, _, rfl, rfl⟩
instance : TyZero Tryz.prog 70 [.map none] := ⟨⟨_, _, rfl, rfl, rfl⟩, by simp [Value.oneCell']⟩
instance : TyOne Tryz.prog 71 := ⟨fun _ => rfl, _, rfl, rfl⟩
instance : TyZero Tryz.prog 71 [.nilFunc] := ⟨⟨_, _, rfl, rfl, rfl⟩, by simp [Value.oneCell']⟩
instance : TyOne Tryz.prog 72 := ⟨fun _ => rfl, _, rfl, rfl⟩
instance : TyZero Tryz.prog 72 [.nilFunc] := ⟨⟨_, _, rfl, rfl, rfl⟩, by simp [Value.oneCell']⟩
instance : TyOne Tryz.prog 73 := ⟨fun _ => rfl, _, rfl, rfl⟩
instance : TyZero Tryz.prog 73 [.nilFunc] := ⟨⟨_, _, rfl, rfl, rfl⟩, by simp [Value.oneCell']⟩
instance : TyOne Tryz.prog 74 := ⟨fun _ => rfl, _, rfl, rfl⟩
instance : TyZero Tryz.prog 74 [.nilFunc] := ⟨⟨_, _, rfl, rfl, rfl⟩, by simp [Value.oneCell']⟩
instance : TyOne Tryz.prog 75 := ⟨fun _ => rfl, _, rfl, rfl⟩
instance : TyZero Tryz.prog 75 [.nilFunc] := ⟨⟨_, _, rfl, rfl, rfl⟩, by simp [Value.oneCell']⟩
instance : TyOne Tryz.prog 76 := ⟨fun _ => rfl, _, rfl, rfl⟩
instance : TyZero Tryz.prog 76 [.nilFunc] := ⟨⟨_, _, rfl, rfl, rfl⟩, by simp [Value.oneCell']⟩
instance : TyOne Tryz.prog 77 := ⟨fun _ => rfl, _, rfl, rfl⟩
instance : TyZero Tryz.prog 77 [.nilFunc] := ⟨⟨_, _, rfl, rfl, rfl⟩, by simp [Value.oneCell']⟩
instance : TyOne Tryz.prog 78 := ⟨fun _ => rfl, _, rfl, rfl⟩
instance : TyZero Tryz.prog 78 [.slice none 0 0] := ⟨⟨_, _, rfl, rfl, rfl⟩, by simp [Value.oneCell']⟩
instance : TySl Tryz.prog 78 32 1 8 [.int .i64 0] := ⟨rfl, ⟨_, _, rfl, rfl, rfl, rfl, rfl, by decide⟩, rfl, by simp [Value.oneCell']⟩
instance : TyOne Tryz.prog 79 := ⟨fun _ => rfl, _, rfl, rfl⟩
instance : TyZero Tryz.prog 79 [.int .u64 0] := ⟨⟨_, _, rfl, rfl, rfl⟩, by simp [Value.oneCell']⟩
instance : TyOne Tryz.prog 81 := ⟨fun _ => rfl, _, rfl, rfl⟩
instance : TyZero Tryz.prog 81 [.nilFunc] := ⟨⟨_, _, rfl, rfl, rfl⟩, by simp [Value.oneCell']⟩
instance : TyOne Tryz.prog 82 := ⟨fun _ => rfl, _, rfl, rfl⟩
instance : TyZero Tryz.prog 82 [.nilFunc] := ⟨⟨_, _, rfl, rfl, rfl⟩, by simp [Value.oneCell']⟩
instance : TyOne Tryz.prog 83 := ⟨fun _ => rfl, _, rfl, rfl⟩
instance : TyZero Tryz.prog 83 [.nilFunc] := ⟨⟨_, _, rfl, rfl, rfl⟩, by simp [Value.oneCell']⟩
instance : TyOne Tryz.prog 84 := ⟨fun _ => rfl, _, rfl, rfl⟩
instance : TyZero Tryz.prog 84 [.nilFunc] := ⟨⟨_, _, rfl, rfl, rfl⟩, by simp [Value.oneCell']⟩
instance : TyOne Tryz.prog 85 := ⟨fun _ => rfl, _, rfl, rfl⟩
instance : TyZero Tryz.prog 85 [.nilFunc] := ⟨⟨_, _, rfl, rfl, rfl⟩, by simp [Value.oneCell']⟩
instance : TyOne Tryz.prog 86 := ⟨fun _ => rfl, _, rfl, rfl⟩
instance : TyZero Tryz.prog 86 [.nilFunc] := ⟨⟨_, _, rfl, rfl, rfl⟩, by simp [Value.oneCell']⟩
instance : TyOne Tryz.prog 87 := ⟨fun _ => rfl, _, rfl, rfl⟩
instance : TyZero Tryz.prog 87 [.nilFunc] := ⟨⟨_, _, rfl, rfl, rfl⟩, by simp [Value.oneCell']⟩
instance : TyOne Tryz.prog 88 := ⟨fun _ => rfl, _, rfl, rfl⟩
instance : TyZero Tryz.prog 88 [.int .u32 0] := ⟨⟨_, _, rfl, rfl, rfl⟩, by simp [Value.oneCell']⟩
instance : TyOne Tryz.prog 90 := ⟨fun _ => rfl, _, rfl, rfl⟩
instance : TyZero Tryz.prog 90 [.nilFunc] := ⟨⟨_, _, rfl, rfl, rfl⟩, by simp [Value.oneCell']⟩
instance : TyOne Tryz.prog 91 := ⟨fun _ => rfl, _, rfl, rfl⟩
instance : TyZero Tryz.prog 91 [.int .u64 0] := ⟨⟨_, _, rfl, rfl, rfl⟩, by simp [Value.oneCell']⟩
instance : TyOne Tryz.prog 93 := ⟨fun _ => rfl, _, rfl, rfl⟩
instance : TyZero Tryz.prog 93 [.nilFunc] := ⟨⟨_, _, rfl, rfl, rfl⟩, by simp [Value.oneCell']⟩
instance : TyOne Tryz.prog 94 := ⟨fun _ => rfl, _, rfl, rfl⟩
instance : TyZero Tryz.prog 94 [.nilFunc] := ⟨⟨_, _, rfl, rfl, rfl⟩, by simp [Value.oneCell']⟩
instance : TyOne Tryz.prog 95 := ⟨fun _ => rfl, _, rfl, rfl⟩
instance : TyZero Tryz.prog 95 [.int .i64 0] := ⟨⟨_, _, rfl, rfl, rfl⟩, by simp [Value.oneCell']⟩
instance : TyOne Tryz.prog 97 := ⟨fun _ => rfl, _, rfl, rfl⟩
instance : TyZero Tryz.prog 97 [.nilFunc] := ⟨⟨_, _, rfl, rfl, rfl⟩, by simp [Value.oneCell']⟩
instance : TyOne Tryz.prog 98 := ⟨fun _ => rfl, _, rfl, rfl⟩
instance : TyZero Tryz.prog 98 [.nilFunc] := ⟨⟨_, _, rfl, rfl, rfl⟩, by simp [Value.oneCell']⟩
instance : TyOne Tryz.prog 99 := ⟨fun _ => rfl, _, rfl, rfl⟩
instance : TyZero Tryz.prog 99 [.nilFunc] := ⟨⟨_, _, rfl, rfl, rfl⟩, by simp [Value.oneCell']⟩
instance : TyOne Tryz.prog 101 := ⟨fun _ => rfl, _, rfl, rfl⟩
instance : TyZero Tryz.prog 101 [.nilFunc] := ⟨⟨_, _, rfl, rfl, rfl⟩, by simp [Value.oneCell']⟩
instance : TyOne Tryz.prog 102 := ⟨fun _ => rfl, _, rfl, rfl⟩
instance : TyZero Tryz.prog 102 [.nilFunc] := ⟨⟨_, _, rfl, rfl, rfl⟩, by simp [Value.oneCell']⟩
instance : TyOne Tryz.prog 103 := ⟨fun _ => rfl, _, rfl, rfl⟩
instance : TyZero Tryz.prog 103 [.nilFunc] := ⟨⟨_, _, rfl, rfl, rfl⟩, by simp [Value.oneCell']⟩
instance : TyOne Tryz.prog 104 := ⟨fun _ => rfl, _, rfl, rfl⟩
instance : TyZero Tryz.prog 104 [.nilFunc] := ⟨⟨_, _, rfl, rfl, rfl⟩, by simp [Value.oneCell']⟩
instance : TyOne Tryz.prog 105 := ⟨fun _ => rfl, _, rfl, rfl⟩
instance : TyZero Tryz.prog 105 [.nilFunc] := ⟨⟨_, _, rfl, rfl, rfl⟩, by simp [Value.oneCell']⟩
instance : TyOne Tryz.prog 106 := ⟨fun _ => rfl, _, rfl, rfl⟩
instance : TyZero Tryz.prog 106 [.nilFunc] := ⟨⟨_, _, rfl, rfl, rfl⟩, by simp [Value.oneCell']⟩
instance : TyOne Tryz.prog 107 := ⟨fun _ => rfl, _, rfl, rfl⟩
instance : TyZero Tryz.prog 107 [.nilFunc] := ⟨⟨_, _, rfl, rfl, rfl⟩, by simp [Value.oneCell']⟩
instance : TyOne Tryz.prog 108 := ⟨fun _ => rfl, _, rfl, rfl⟩
instance : TyZero Tryz.prog 108 [.nilFunc] := ⟨⟨_, _, rfl, rfl, rfl⟩, by simp [Value.oneCell']⟩
instance : TyOne Tryz.prog 109 := ⟨fun _ => rfl, _, rfl, rfl⟩
instance : TyZero Tryz.prog 109 [.nilFunc] := ⟨⟨_, _, rfl, rfl, rfl⟩, by simp [Value.oneCell']⟩
instance : TyOne Tryz.prog 110 := ⟨fun _ => rfl, _, rfl, rfl⟩
instance : TyZero Tryz.prog 110 [.nilFunc] := ⟨⟨_, _, rfl, rfl, rfl⟩, by simp [Value.oneCell']⟩
instance : TyOne Tryz.prog 114 := ⟨fun _ => rfl, _, rfl, rfl⟩
instance : TyZero Tryz.prog 114 [.nilFunc] := ⟨⟨_, _, rfl, rfl, rfl⟩, by simp [Value.oneCell']⟩
instance : TyOne Tryz.prog 115 := ⟨fun _ => rfl, _, rfl, rfl⟩
instance : TyZero Tryz.prog 115 [.nilFunc] := ⟨⟨_, _, rfl, rfl, rfl⟩, by simp [Value.oneCell']⟩
instance : TyOne Tryz.prog 116 := ⟨fun _ => rfl, _, rfl, rfl⟩
instance : TyZero Tryz.prog 116 [.pointer none] := ⟨⟨_, _, rfl, rfl, rfl⟩, by simp [Value.oneCell']⟩
instance : TyOne Tryz.prog 117 := ⟨fun _ => rfl, _, rfl, rfl⟩
instance : TyZero Tryz.prog 117 [.int .u64 0] := ⟨⟨_, _, rfl, rfl, rfl⟩, by simp [Value.oneCell']⟩
instance : TyOne Tryz.prog 118 := ⟨fun _ => rfl, _, rfl, rfl⟩
instance : TyZero Tryz.prog 118 [.nilFunc] := ⟨⟨_, _, rfl, rfl, rfl⟩, by simp [Value.oneCell']⟩
instance : TyOne Tryz.prog 119 := ⟨fun _ => rfl, _, rfl, rfl⟩
instance : TyZero Tryz.prog 119 [.nilFunc] := ⟨⟨_, _, rfl, rfl, rfl⟩, by simp [Value.oneCell']⟩
instance : TyOne Tryz.prog 120 := ⟨fun _ => rfl, _, rfl, rfl⟩
instance : TyZero Tryz.prog 120 [.nilFunc] := ⟨⟨_, _, rfl, rfl, rfl⟩, by simp [Value.oneCell']⟩
instance : TyOne Tryz.prog 121 := ⟨fun _ => rfl, _, rfl, rfl⟩
instance : TyZero Tryz.prog 121 [.pointer none] := ⟨⟨_, _, rfl, rfl, rfl⟩, by simp [Value.oneCell']⟩
instance : TyOne Tryz.prog 122 := ⟨fun _ => rfl, _, rfl, rfl⟩
instance : TyZero Tryz.prog 122 [.nilFunc] := ⟨⟨_, _, rfl, rfl, rfl⟩, by simp [Value.oneCell']⟩
instance : TyOne Tryz.prog 123 := ⟨fun _ => rfl, _, rfl, rfl⟩
instance : TyZero Tryz.prog 123 [.nilFunc] := ⟨⟨_, _, rfl, rfl, rfl⟩, by simp [Value.oneCell']⟩
instance : TyOne Tryz.prog 124 := ⟨fun _ => rfl, _, rfl, rfl⟩
instance : TyZero Tryz.prog 124 [.nilFunc] := ⟨⟨_, _, rfl, rfl, rfl⟩, by simp [Value.oneCell']⟩
instance : TyOne Tryz.prog 125 := ⟨fun _ => rfl, _, rfl, rfl⟩
instance : TyZero Tryz.prog 125 [.nilFunc] := ⟨⟨_, _, rfl, rfl, rfl⟩, by simp [Value.oneCell']⟩
instance : TyOne Tryz.prog 127 := ⟨fun _ => rfl, _, rfl, rfl⟩
instance : TyZero Tryz.prog 127 [.nilFunc] := ⟨⟨_, _, rfl, rfl, rfl⟩, by simp [Value.oneCell']⟩
instance : TyOne Tryz.prog 128 := ⟨fun _ => rfl, _, rfl, rfl⟩
instance : TyZero Tryz.prog 128 [.nilFunc] := ⟨⟨_, _, rfl, rfl, rfl⟩, by simp [Value.oneCell']⟩
instance : TyOne Tryz.prog 129 := ⟨fun _ => rfl, _, rfl, rfl⟩
instance : TyZero Tryz.prog 129 [.pointer none] := ⟨⟨_, _, rfl, rfl, rfl⟩, by simp [Value.oneCell']⟩
instance : TyOne Tryz.prog 131 := ⟨fun _ => rfl, _, rfl, rfl⟩
instance : TyZero Tryz.prog 131 [.nilFunc] := ⟨⟨_, _, rfl, rfl, rfl⟩, by simp [Value.oneCell']⟩
instance : TyOne Tryz.prog 132 := ⟨fun _ => rfl, _, rfl, rfl⟩
instance : TyZero Tryz.prog 132 [.nilFunc] := ⟨⟨_, _, rfl, rfl, rfl⟩, by simp [Value.oneCell']⟩
instance : TyOne Tryz.prog 133 := ⟨fun _ => rfl, _, rfl, rfl⟩
instance : TyZero Tryz.prog 133 [.nilFunc] := ⟨⟨_, _, rfl, rfl, rfl⟩, by simp [Value.oneCell']⟩
instance : TyAgg Tryz.prog 135 2 := ⟨fun _ => rfl, _, rfl, rfl⟩
instance : TyFld Tryz.prog 135 0 0 5 := ⟨_, _, rfl, rfl, rfl, rfl, _, rfl, by decide⟩
instance : TyFld Tryz.prog 135 1 1 5 := ⟨_, _, rfl, rfl, rfl, rfl, _, rfl, by decide⟩
instance : TyStr Tryz.prog 135 [(0, 1), (1, 1)] [.int .u8 0, .int .u8 0] := ⟨⟨_, _, rfl, rfl, rfl, _, rfl, rfl⟩, by simp [Value.oneCell']⟩
instance : TyZero Tryz.prog 135 [.int .u8 0, .int .u8 0] := ⟨⟨_, _, rfl, rfl, rfl⟩, by simp [Value.oneCell']⟩
instance : TyAgg Tryz.prog 136 2 := ⟨fun _ => rfl, _, rfl, rfl⟩
instance : TyFld Tryz.prog 136 0 0 5 := ⟨_, _, rfl, rfl, rfl, rfl, _, rfl, by decide⟩
instance : TyFld Tryz.prog 136 1 1 5 := ⟨_, _, rfl, rfl, rfl, rfl, _, rfl, by decide⟩
instance : TyStr Tryz.prog 136 [(0, 1), (1, 1)] [.int .u8 0, .int .u8 0] := ⟨⟨_, _, rfl, rfl, rfl, _, rfl, rfl⟩, by simp [Value.oneCell']⟩
instance : TyZero Tryz.prog 136 [.int .u8 0, .int .u8 0] := ⟨⟨_, _, rfl, rfl, rfl⟩, by simp [Value.oneCell']⟩
instance : TyOne Tryz.prog 138 := ⟨fun _ => rfl, _, rfl, rfl⟩
instance : TyZero Tryz.prog 138 [.nilFunc] := ⟨⟨_, _, rfl, rfl, rfl⟩, by simp [Value.oneCell']⟩
instance : TyOne Tryz.prog 139 := ⟨fun _ => rfl, _, rfl, rfl⟩
instance : TyZero Tryz.prog 139 [.nilFunc] := ⟨⟨_, _, rfl, rfl, rfl⟩, by simp [Value.oneCell']⟩
instance : TyOne Tryz.prog 140 := ⟨fun _ => rfl, _, rfl, rfl⟩
instance : TyZero Tryz.prog 140 [.nilFunc] := ⟨⟨_, _, rfl, rfl, rfl⟩, by simp [Value.oneCell']⟩
instance : TyOne Tryz.prog 141 := ⟨fun _ => rfl, _, rfl, rfl⟩
instance : TyZero Tryz.prog 141 [.nilFunc] := ⟨⟨_, _, rfl, rfl, rfl⟩, by simp [Value.oneCell']⟩
instance : TyAgg Tryz.prog 142 4 := ⟨fun _ => rfl, _, rfl, rfl⟩
instance : TyFld Tryz.prog 142 0 0 17 := ⟨_, _, rfl, rfl, rfl, rfl, _, rfl, by decide⟩
instance : TyFld Tryz.prog 142 1 1 17 := ⟨_, _, rfl, rfl, rfl, rfl, _, rfl, by decide⟩
instance : TyFld Tryz.prog 142 2 2 17 := ⟨_, _, rfl, rfl, rfl, rfl, _, rfl, by decide⟩
instance : TyFld Tryz.prog 142 3 3 9 := ⟨_, _, rfl, rfl, rfl, rfl, _, rfl, by decide⟩
instance : TyStr Tryz.prog 142 [(0, 1), (1, 1), (2, 1), (3, 1)] [.pointer none, .pointer none, .pointer none, .string ByteArray.empty] := ⟨⟨_, _, rfl, rfl, rfl, _, rfl, rfl⟩, by simp [Value.oneCell']⟩
instance : TyZero Tryz.prog 142 [.pointer none, .pointer none, .pointer none, .string ByteArray.empty] := ⟨⟨_, _, rfl, rfl, rfl⟩, by simp [Value.oneCell']⟩
instance : TyAgg Tryz.prog 143 4 := ⟨fun _ => rfl, _, rfl, rfl⟩
instance : TyFld Tryz.prog 143 0 0 17 := ⟨_, _, rfl, rfl, rfl, rfl, _, rfl, by decide⟩
instance : TyFld Tryz.prog 143 1 1 17 := ⟨_, _, rfl, rfl, rfl, rfl, _, rfl, by decide⟩
instance : TyFld Tryz.prog 143 2 2 17 := ⟨_, _, rfl, rfl, rfl, rfl, _, rfl, by decide⟩
instance : TyFld Tryz.prog 143 3 3 9 := ⟨_, _, rfl, rfl, rfl, rfl, _, rfl, by decide⟩
instance : TyStr Tryz.prog 143 [(0, 1), (1, 1), (2, 1), (3, 1)] [.pointer none, .pointer none, .pointer none, .string ByteArray.empty] := ⟨⟨_, _, rfl, rfl, rfl, _, rfl, rfl⟩, by simp [Value.oneCell']⟩
instance : TyZero Tryz.prog 143 [.pointer none, .pointer none, .pointer none, .string ByteArray.empty] := ⟨⟨_, _, rfl, rfl, rfl⟩, by simp [Value.oneCell']⟩
instance : TyOne Tryz.prog 147 := ⟨fun _ => rfl, _, rfl, rfl⟩
instance : TyZero Tryz.prog 147 [.nilFunc] := ⟨⟨_, _, rfl, rfl, rfl⟩, by simp [Value.oneCell']⟩
instance : TyOne Tryz.prog 148 := ⟨fun _ => rfl, _, rfl, rfl⟩
instance : TyZero Tryz.prog 148 [.int .u8 0] := ⟨⟨_, _, rfl, rfl, rfl⟩, by simp [Value.oneCell']⟩
instance : TyOne Tryz.prog 149 := ⟨fun _ => rfl, _, rfl, rfl⟩
instance : TyZero Tryz.prog 149 [.int .u8 0] := ⟨⟨_, _, rfl, rfl, rfl⟩, by simp [Value.oneCell']⟩
instance : TyOne Tryz.prog 150 := ⟨fun _ => rfl, _, rfl, rfl⟩
instance : TyZero Tryz.prog 150 [.nilFunc] := ⟨⟨_, _, rfl, rfl, rfl⟩, by simp [Value.oneCell']⟩
instance : TyOne Tryz.prog 151 := ⟨fun _ => rfl, _, rfl, rfl⟩
instance : TyZero Tryz.prog 151 [.pointer none] := ⟨⟨_, _, rfl, rfl, rfl⟩, by simp [Value.oneCell']⟩
instance : TyOne Tryz.prog 152 := ⟨fun _ => rfl, _, rfl, rfl⟩
instance : TyZero Tryz.prog 152 [.int .i32 0] := ⟨⟨_, _, rfl, rfl, rfl⟩, by simp [Value.oneCell']⟩
instance : TyOne Tryz.prog 153 := ⟨fun _ => rfl, _, rfl, rfl⟩
instance : TyZero Tryz.prog 153 [.int .i32 0] := ⟨⟨_, _, rfl, rfl, rfl⟩, by simp [Value.oneCell']⟩
instance : TyAgg Tryz.prog 154 11 := ⟨fun _ => rfl, _, rfl, rfl⟩
instance : TyFld Tryz.prog 154 0 0 12 := ⟨_, _, rfl, rfl, rfl, rfl, _, rfl, by decide⟩
instance : TyFld Tryz.prog 154 1 1 12 := ⟨_, _, rfl, rfl, rfl, rfl, _, rfl, by decide⟩
instance : TyFld Tryz.prog 154 2 2 88 := ⟨_, _, rfl, rfl, rfl, rfl, _, rfl, by decide⟩
instance : TyFld Tryz.prog 154 3 3 148 := ⟨_, _, rfl, rfl, rfl, rfl, _, rfl, by decide⟩
instance : TyFld Tryz.prog 154 4 4 5 := ⟨_, _, rfl, rfl, rfl, rfl, _, rfl, by decide⟩
instance : TyFld Tryz.prog 154 5 5 5 := ⟨_, _, rfl, rfl, rfl, rfl, _, rfl, by decide⟩
instance : TyFld Tryz.prog 154 6 6 149 := ⟨_, _, rfl, rfl, rfl, rfl, _, rfl, by decide⟩
instance : TyFld Tryz.prog 154 7 7 150 := ⟨_, _, rfl, rfl, rfl, rfl, _, rfl, by decide⟩
instance : TyFld Tryz.prog 154 8 8 151 := ⟨_, _, rfl, rfl, rfl, rfl, _, rfl, by decide⟩
instance : TyFld Tryz.prog 154 9 9 152 := ⟨_, _, rfl, rfl, rfl, rfl, _, rfl, by decide⟩
instance : TyFld Tryz.prog 154 10 10 153 := ⟨_, _, rfl, rfl, rfl, rfl, _, rfl, by decide⟩
instance : TyStr Tryz.prog 154 [(0, 1), (1, 1), (2, 1), (3, 1), (4, 1), (5, 1), (6, 1), (7, 1), (8, 1), (9, 1), (10, 1)] [.int .u64 0, .int .u64 0, .int .u32 0, .int .u8 0, .int .u8 0, .int .u8 0, .int .u8 0, .nilFunc, .pointer none, .int .i32 0, .int .i32 0] := ⟨⟨_, _, rfl, rfl, rfl, _, rfl, rfl⟩, by simp [Value.oneCell']⟩
instance : TyZero Tryz.prog 154 [.int .u64 0, .int .u64 0, .int .u32 0, .int .u8 0, .int .u8 0, .int .u8 0, .int .u8 0, .nilFunc, .pointer none, .int .i32 0, .int .i32 0] := ⟨⟨_, _, rfl, rfl, rfl⟩, by simp [Value.oneCell']⟩
instance : TyAgg Tryz.prog 155 11 := ⟨fun _ => rfl, _, rfl, rfl⟩
instance : TyFld Tryz.prog 155 0 0 12 := ⟨_, _, rfl, rfl, rfl, rfl, _, rfl, by decide⟩
instance : TyFld Tryz.prog 155 1 1 12 := ⟨_, _, rfl, rfl, rfl, rfl, _, rfl, by decide⟩
instance : TyFld Tryz.prog 155 2 2 88 := ⟨_, _, rfl, rfl, rfl, rfl, _, rfl, by decide⟩
instance : TyFld Tryz.prog 155 3 3 148 := ⟨_, _, rfl, rfl, rfl, rfl, _, rfl, by decide⟩
instance : TyFld Tryz.prog 155 4 4 5 := ⟨_, _, rfl, rfl, rfl, rfl, _, rfl, by decide⟩
instance : TyFld Tryz.prog 155 5 5 5 := ⟨_, _, rfl, rfl, rfl, rfl, _, rfl, by decide⟩
instance : TyFld Tryz.prog 155 6 6 149 := ⟨_, _, rfl, rfl, rfl, rfl, _, rfl, by decide⟩
instance : TyFld Tryz.prog 155 7 7 150 := ⟨_, _, rfl, rfl, rfl, rfl, _, rfl, by decide⟩
instance : TyFld Tryz.prog 155 8 8 151 := ⟨_, _, rfl, rfl, rfl, rfl, _, rfl, by decide⟩
instance : TyFld Tryz.prog 155 9 9 152 := ⟨_, _, rfl, rfl, rfl, rfl, _, rfl, by decide⟩
instance : TyFld Tryz.prog 155 10 10 153 := ⟨_, _, rfl, rfl, rfl, rfl, _, rfl, by decide⟩
instance : TyStr Tryz.prog 155 [(0, 1), (1, 1), (2, 1), (3, 1), (4, 1), (5, 1), (6, 1), (7, 1), (8, 1), (9, 1), (10, 1)] [.int .u64 0, .int .u64 0, .int .u32 0, .int .u8 0, .int .u8 0, .int .u8 0, .int .u8 0, .nilFunc, .pointer none, .int .i32 0, .int .i32 0] := ⟨⟨_, _, rfl, rfl, rfl, _, rfl, rfl⟩, by simp [Value.oneCell']⟩
instance : TyZero Tryz.prog 155 [.int .u64 0, .int .u64 0, .int .u32 0, .int .u8 0, .int .u8 0, .int .u8 0, .int .u8 0, .nilFunc, .pointer none, .int .i32 0, .int .i32 0] := ⟨⟨_, _, rfl, rfl, rfl⟩, by simp [Value.oneCell']⟩
end Lg
