/- A part of the proof of a law of this seat: it adds no condition. By an AI agent. -/
import Derived.Test.YtjonpkaojmpmiaaDoorProg
import Derived.Test.YtjonpkaojmpmiaaDoorCore
set_option linter.all false
set_option maxRecDepth 100000
namespace Lg
open Go Go.Proofs
instance : TyOne Tryd.prog 1 := ⟨fun _ => rfl, _, rfl, rfl⟩
instance : TyZero Tryd.prog 1 [.nilFunc] := ⟨⟨_, _, rfl, rfl, rfl⟩, by simp [Value.oneCell']⟩
instance : TyOne Tryd.prog 2 := ⟨fun _ => rfl, _, rfl, rfl⟩
instance : TyZero Tryd.prog 2 [.int .i64 0] := ⟨⟨_, _, rfl, rfl, rfl⟩, by simp [Value.oneCell']⟩
instance : TyOne Tryd.prog 3 := ⟨fun _ => rfl, _, rfl, rfl⟩
instance : TyZero Tryd.prog 3 [.int .i64 0] := ⟨⟨_, _, rfl, rfl, rfl⟩, by simp [Value.oneCell']⟩
instance : TyOne Tryd.prog 4 := ⟨fun _ => rfl, _, rfl, rfl⟩
instance : TyZero Tryd.prog 4 [.bool false] := ⟨⟨_, _, rfl, rfl, rfl⟩, by simp [Value.oneCell']⟩
instance : TyOne Tryd.prog 5 := ⟨fun _ => rfl, _, rfl, rfl⟩
instance : TyZero Tryd.prog 5 [.int .u8 0] := ⟨⟨_, _, rfl, rfl, rfl⟩, by simp [Value.oneCell']⟩
instance : TyOne Tryd.prog 6 := ⟨fun _ => rfl, _, rfl, rfl⟩
instance : TyZero Tryd.prog 6 [.int .u8 0] := ⟨⟨_, _, rfl, rfl, rfl⟩, by simp [Value.oneCell']⟩
instance : TyAgg Tryd.prog 7 4 := ⟨fun _ => rfl, _, rfl, rfl⟩
instance : TyFld Tryd.prog 7 0 0 2 := ⟨_, _, rfl, rfl, rfl, rfl, _, rfl, by decide⟩
instance : TyFld Tryd.prog 7 1 1 3 := ⟨_, _, rfl, rfl, rfl, rfl, _, rfl, by decide⟩
instance : TyFld Tryd.prog 7 2 2 4 := ⟨_, _, rfl, rfl, rfl, rfl, _, rfl, by decide⟩
instance : TyFld Tryd.prog 7 3 3 6 := ⟨_, _, rfl, rfl, rfl, rfl, _, rfl, by decide⟩
instance : TyStr Tryd.prog 7 [(0, 1), (1, 1), (2, 1), (3, 1)] [.int .i64 0, .int .i64 0, .bool false, .int .u8 0] := ⟨⟨_, _, rfl, rfl, rfl, _, rfl, rfl⟩, by simp [Value.oneCell']⟩
instance : TyZero Tryd.prog 7 [.int .i64 0, .int .i64 0, .bool false, .int .u8 0] := ⟨⟨_, _, rfl, rfl, rfl⟩, by simp [Value.oneCell']⟩
instance : TyAgg Tryd.prog 8 4 := ⟨fun _ => rfl, _, rfl, rfl⟩
instance : TyFld Tryd.prog 8 0 0 2 := ⟨_, _, rfl, rfl, rfl, rfl, _, rfl, by decide⟩
instance : TyFld Tryd.prog 8 1 1 3 := ⟨_, _, rfl, rfl, rfl, rfl, _, rfl, by decide⟩
instance : TyFld Tryd.prog 8 2 2 4 := ⟨_, _, rfl, rfl, rfl, rfl, _, rfl, by decide⟩
instance : TyFld Tryd.prog 8 3 3 6 := ⟨_, _, rfl, rfl, rfl, rfl, _, rfl, by decide⟩
instance : TyStr Tryd.prog 8 [(0, 1), (1, 1), (2, 1), (3, 1)] [.int .i64 0, .int .i64 0, .bool false, .int .u8 0] := ⟨⟨_, _, rfl, rfl, rfl, _, rfl, rfl⟩, by simp [Value.oneCell']⟩
instance : TyZero Tryd.prog 8 [.int .i64 0, .int .i64 0, .bool false, .int .u8 0] := ⟨⟨_, _, rfl, rfl, rfl⟩, by simp [Value.oneCell']⟩
instance : TyOne Tryd.prog 9 := ⟨fun _ => rfl, _, rfl, rfl⟩
instance : TyZero Tryd.prog 9 [.string ByteArray.empty] := ⟨⟨_, _, rfl, rfl, rfl⟩, by simp [Value.oneCell']⟩
instance : TyOne Tryd.prog 10 := ⟨fun _ => rfl, _, rfl, rfl⟩
instance : TyZero Tryd.prog 10 [.string ByteArray.empty] := ⟨⟨_, _, rfl, rfl, rfl⟩, by simp [Value.oneCell']⟩
instance : TyOne Tryd.prog 11 := ⟨fun _ => rfl, _, rfl, rfl⟩
instance : TyZero Tryd.prog 11 [.string ByteArray.empty] := ⟨⟨_, _, rfl, rfl, rfl⟩, by simp [Value.oneCell']⟩
instance : TyOne Tryd.prog 12 := ⟨fun _ => rfl, _, rfl, rfl⟩
instance : TyZero Tryd.prog 12 [.int .u64 0] := ⟨⟨_, _, rfl, rfl, rfl⟩, by simp [Value.oneCell']⟩
instance : TyAgg Tryd.prog 13 2 := ⟨fun _ => rfl, _, rfl, rfl⟩
instance : TyFld Tryd.prog 13 0 0 9 := ⟨_, _, rfl, rfl, rfl, rfl, _, rfl, by decide⟩
instance : TyFld Tryd.prog 13 1 1 12 := ⟨_, _, rfl, rfl, rfl, rfl, _, rfl, by decide⟩
instance : TyStr Tryd.prog 13 [(0, 1), (1, 1)] [.string ByteArray.empty, .int .u64 0] := ⟨⟨_, _, rfl, rfl, rfl, _, rfl, rfl⟩, by simp [Value.oneCell']⟩
instance : TyZero Tryd.prog 13 [.string ByteArray.empty, .int .u64 0] := ⟨⟨_, _, rfl, rfl, rfl⟩, by simp [Value.oneCell']⟩
instance : TyAgg Tryd.prog 14 2 := ⟨fun _ => rfl, _, rfl, rfl⟩
instance : TyFld Tryd.prog 14 0 0 9 := ⟨_, _, rfl, rfl, rfl, rfl, _, rfl, by decide⟩
instance : TyFld Tryd.prog 14 1 1 12 := ⟨_, _, rfl, rfl, rfl, rfl, _, rfl, by decide⟩
instance : TyStr Tryd.prog 14 [(0, 1), (1, 1)] [.string ByteArray.empty, .int .u64 0] := ⟨⟨_, _, rfl, rfl, rfl, _, rfl, rfl⟩, by simp [Value.oneCell']⟩
instance : TyZero Tryd.prog 14 [.string ByteArray.empty, .int .u64 0] := ⟨⟨_, _, rfl, rfl, rfl⟩, by simp [Value.oneCell']⟩
instance : TyOne Tryd.prog 15 := ⟨fun _ => rfl, _, rfl, rfl⟩
instance : TyZero Tryd.prog 15 [.pointer none] := ⟨⟨_, _, rfl, rfl, rfl⟩, by simp [Value.oneCell']⟩
instance : TyOne Tryd.prog 16 := ⟨fun _ => rfl, _, rfl, rfl⟩
instance : TyZero Tryd.prog 16 [.pointer none] := ⟨⟨_, _, rfl, rfl, rfl⟩, by simp [Value.oneCell']⟩
instance : TyOne Tryd.prog 17 := ⟨fun _ => rfl, _, rfl, rfl⟩
instance : TyZero Tryd.prog 17 [.pointer none] := ⟨⟨_, _, rfl, rfl, rfl⟩, by simp [Value.oneCell']⟩
instance : TyAgg Tryd.prog 18 1 := ⟨fun _ => rfl, _, rfl, rfl⟩
instance : TyFld Tryd.prog 18 0 0 17 := ⟨_, _, rfl, rfl, rfl, rfl, _, rfl, by decide⟩
instance : TyStr Tryd.prog 18 [(0, 1)] [.pointer none] := ⟨⟨_, _, rfl, rfl, rfl, _, rfl, rfl⟩, by simp [Value.oneCell']⟩
instance : TyZero Tryd.prog 18 [.pointer none] := ⟨⟨_, _, rfl, rfl, rfl⟩, by simp [Value.oneCell']⟩
instance : TyAgg Tryd.prog 19 1 := ⟨fun _ => rfl, _, rfl, rfl⟩
instance : TyFld Tryd.prog 19 0 0 17 := ⟨_, _, rfl, rfl, rfl, rfl, _, rfl, by decide⟩
instance : TyStr Tryd.prog 19 [(0, 1)] [.pointer none] := ⟨⟨_, _, rfl, rfl, rfl, _, rfl, rfl⟩, by simp [Value.oneCell']⟩
instance : TyZero Tryd.prog 19 [.pointer none] := ⟨⟨_, _, rfl, rfl, rfl⟩, by simp [Value.oneCell']⟩
instance : TyOne Tryd.prog 20 := ⟨fun _ => rfl, _, rfl, rfl⟩
instance : TyZero Tryd.prog 20 [.nilIface] := ⟨⟨_, _, rfl, rfl, rfl⟩, by simp [Value.oneCell']⟩
instance : TyOne Tryd.prog 21 := ⟨fun _ => rfl, _, rfl, rfl⟩
instance : TyZero Tryd.prog 21 [.int .i32 0] := ⟨⟨_, _, rfl, rfl, rfl⟩, by simp [Value.oneCell']⟩
instance : TyOne Tryd.prog 22 := ⟨fun _ => rfl, _, rfl, rfl⟩
instance : TyZero Tryd.prog 22 [.slice none 0 0] := ⟨⟨_, _, rfl, rfl, rfl⟩, by simp [Value.oneCell']⟩
instance : TySl Tryd.prog 22 3 1 8 [.int .i64 0] := ⟨rfl, ⟨_, _, rfl, rfl, rfl, rfl, rfl, by decide⟩, rfl, by simp [Value.oneCell']⟩
instance : TyOne Tryd.prog 23 := ⟨fun _ => rfl, _, rfl, rfl⟩
instance : TyZero Tryd.prog 23 [.pointer none] := ⟨⟨_, _, rfl, rfl, rfl⟩, by simp [Value.oneCell']⟩
instance : TyAgg Tryd.prog 24 2 := ⟨fun _ => rfl, _, rfl, rfl⟩
instance : TyFld Tryd.prog 24 0 0 22 := ⟨_, _, rfl, rfl, rfl, rfl, _, rfl, by decide⟩
instance : TyFld Tryd.prog 24 1 1 3 := ⟨_, _, rfl, rfl, rfl, rfl, _, rfl, by decide⟩
instance : TyStr Tryd.prog 24 [(0, 1), (1, 1)] [.slice none 0 0, .int .i64 0] := ⟨⟨_, _, rfl, rfl, rfl, _, rfl, rfl⟩, by simp [Value.oneCell']⟩
instance : TyZero Tryd.prog 24 [.slice none 0 0, .int .i64 0] := ⟨⟨_, _, rfl, rfl, rfl⟩, by simp [Value.oneCell']⟩
instance : TyAgg Tryd.prog 25 2 := ⟨fun _ => rfl, _, rfl, rfl⟩
instance : TyFld Tryd.prog 25 0 0 22 := ⟨_, _, rfl, rfl, rfl, rfl, _, rfl, by decide⟩
instance : TyFld Tryd.prog 25 1 1 3 := ⟨_, _, rfl, rfl, rfl, rfl, _, rfl, by decide⟩
instance : TyStr Tryd.prog 25 [(0, 1), (1, 1)] [.slice none 0 0, .int .i64 0] := ⟨⟨_, _, rfl, rfl, rfl, _, rfl, rfl⟩, by simp [Value.oneCell']⟩
instance : TyZero Tryd.prog 25 [.slice none 0 0, .int .i64 0] := ⟨⟨_, _, rfl, rfl, rfl⟩, by simp [Value.oneCell']⟩
instance : TyAgg Tryd.prog 26 2 := ⟨fun _ => rfl, _, rfl, rfl⟩
instance : TyFld Tryd.prog 26 0 0 3 := ⟨_, _, rfl, rfl, rfl, rfl, _, rfl, by decide⟩
instance : TyFld Tryd.prog 26 1 1 3 := ⟨_, _, rfl, rfl, rfl, rfl, _, rfl, by decide⟩
instance : TyStr Tryd.prog 26 [(0, 1), (1, 1)] [.int .i64 0, .int .i64 0] := ⟨⟨_, _, rfl, rfl, rfl, _, rfl, rfl⟩, by simp [Value.oneCell']⟩
instance : TyZero Tryd.prog 26 [.int .i64 0, .int .i64 0] := ⟨⟨_, _, rfl, rfl, rfl⟩, by simp [Value.oneCell']⟩
instance : TyAgg Tryd.prog 27 2 := ⟨fun _ => rfl, _, rfl, rfl⟩
instance : TyFld Tryd.prog 27 0 0 3 := ⟨_, _, rfl, rfl, rfl, rfl, _, rfl, by decide⟩
instance : TyFld Tryd.prog 27 1 1 3 := ⟨_, _, rfl, rfl, rfl, rfl, _, rfl, by decide⟩
instance : TyStr Tryd.prog 27 [(0, 1), (1, 1)] [.int .i64 0, .int .i64 0] := ⟨⟨_, _, rfl, rfl, rfl, _, rfl, rfl⟩, by simp [Value.oneCell']⟩
instance : TyZero Tryd.prog 27 [.int .i64 0, .int .i64 0] := ⟨⟨_, _, rfl, rfl, rfl⟩, by simp [Value.oneCell']⟩
instance : TyOne Tryd.prog 28 := ⟨fun _ => rfl, _, rfl, rfl⟩
instance : TyZero Tryd.prog 28 [.nilFunc] := ⟨⟨_, _, rfl, rfl, rfl⟩, by simp [Value.oneCell']⟩
instance : TyOne Tryd.prog 29 := ⟨fun _ => rfl, _, rfl, rfl⟩
instance : TyZero Tryd.prog 29 [.slice none 0 0] := ⟨⟨_, _, rfl, rfl, rfl⟩, by simp [Value.oneCell']⟩
instance : TySl Tryd.prog 29 60 5 104 [.string ByteArray.empty, .string ByteArray.empty, .slice none 0 0, .slice none 0 0, .slice none 0 0] := ⟨rfl, ⟨_, _, rfl, rfl, rfl, rfl, rfl, by decide⟩, rfl, by simp [Value.oneCell']⟩
instance : TyOne Tryd.prog 30 := ⟨fun _ => rfl, _, rfl, rfl⟩
instance : TyZero Tryd.prog 30 [.nilFunc] := ⟨⟨_, _, rfl, rfl, rfl⟩, by simp [Value.oneCell']⟩
instance : TyOne Tryd.prog 31 := ⟨fun _ => rfl, _, rfl, rfl⟩
instance : TyZero Tryd.prog 31 [.slice none 0 0] := ⟨⟨_, _, rfl, rfl, rfl⟩, by simp [Value.oneCell']⟩
instance : TySl Tryd.prog 31 9 1 16 [.string ByteArray.empty] := ⟨rfl, ⟨_, _, rfl, rfl, rfl, rfl, rfl, by decide⟩, rfl, by simp [Value.oneCell']⟩
instance : TyOne Tryd.prog 32 := ⟨fun _ => rfl, _, rfl, rfl⟩
instance : TyZero Tryd.prog 32 [.nilFunc] := ⟨⟨_, _, rfl, rfl, rfl⟩, by simp [Value.oneCell']⟩
instance : TyOne Tryd.prog 33 := ⟨fun _ => rfl, _, rfl, rfl⟩
instance : TyZero Tryd.prog 33 [.slice none 0 0] := ⟨⟨_, _, rfl, rfl, rfl⟩, by simp [Value.oneCell']⟩
instance : TySl Tryd.prog 33 40 3 40 [.int .i64 0, .string ByteArray.empty, .string ByteArray.empty] := ⟨rfl, ⟨_, _, rfl, rfl, rfl, rfl, rfl, by decide⟩, rfl, by simp [Value.oneCell']⟩
instance : TyOne Tryd.prog 34 := ⟨fun _ => rfl, _, rfl, rfl⟩
instance : TyZero Tryd.prog 34 [.int .i64 0] := ⟨⟨_, _, rfl, rfl, rfl⟩, by simp [Value.oneCell']⟩
instance : TyOne Tryd.prog 36 := ⟨fun _ => rfl, _, rfl, rfl⟩
instance : TyZero Tryd.prog 36 [.nilFunc] := ⟨⟨_, _, rfl, rfl, rfl⟩, by simp [Value.oneCell']⟩
instance : TyOne Tryd.prog 37 := ⟨fun _ => rfl, _, rfl, rfl⟩
instance : TyZero Tryd.prog 37 [.nilFunc] := ⟨⟨_, _, rfl, rfl, rfl⟩, by simp [Value.oneCell']⟩
instance : TyOne Tryd.prog 38 := ⟨fun _ => rfl, _, rfl, rfl⟩
instance : TyZero Tryd.prog 38 [.nilFunc] := ⟨⟨_, _, rfl, rfl, rfl⟩, by simp [Value.oneCell']⟩
instance : TyAgg Tryd.prog 39 3 := ⟨fun _ => rfl, _, rfl, rfl⟩
instance : TyFld Tryd.prog 39 0 0 3 := ⟨_, _, rfl, rfl, rfl, rfl, _, rfl, by decide⟩
instance : TyFld Tryd.prog 39 1 1 9 := ⟨_, _, rfl, rfl, rfl, rfl, _, rfl, by decide⟩
instance : TyFld Tryd.prog 39 2 2 9 := ⟨_, _, rfl, rfl, rfl, rfl, _, rfl, by decide⟩
instance : TyStr Tryd.prog 39 [(0, 1), (1, 1), (2, 1)] [.int .i64 0, .string ByteArray.empty, .string ByteArray.empty] := ⟨⟨_, _, rfl, rfl, rfl, _, rfl, rfl⟩, by simp [Value.oneCell']⟩
instance : TyZero Tryd.prog 39 [.int .i64 0, .string ByteArray.empty, .string ByteArray.empty] := ⟨⟨_, _, rfl, rfl, rfl⟩, by simp [Value.oneCell']⟩
instance : TyAgg Tryd.prog 40 3 := ⟨fun _ => rfl, _, rfl, rfl⟩
instance : TyFld Tryd.prog 40 0 0 3 := ⟨_, _, rfl, rfl, rfl, rfl, _, rfl, by decide⟩
instance : TyFld Tryd.prog 40 1 1 9 := ⟨_, _, rfl, rfl, rfl, rfl, _, rfl, by decide⟩
instance : TyFld Tryd.prog 40 2 2 9 := ⟨_, _, rfl, rfl, rfl, rfl, _, rfl, by decide⟩
instance : TyStr Tryd.prog 40 [(0, 1), (1, 1), (2, 1)] [.int .i64 0, .string ByteArray.empty, .string ByteArray.empty] := ⟨⟨_, _, rfl, rfl, rfl, _, rfl, rfl⟩, by simp [Value.oneCell']⟩
instance : TyZero Tryd.prog 40 [.int .i64 0, .string ByteArray.empty, .string ByteArray.empty] := ⟨⟨_, _, rfl, rfl, rfl⟩, by simp [Value.oneCell']⟩
instance : TyOne Tryd.prog 41 := ⟨fun _ => rfl, _, rfl, rfl⟩
instance : TyZero Tryd.prog 41 [.nilFunc] := ⟨⟨_, _, rfl, rfl, rfl⟩, by simp [Value.oneCell']⟩
instance : TyOne Tryd.prog 43 := ⟨fun _ => rfl, _, rfl, rfl⟩
instance : TyZero Tryd.prog 43 [.nilFunc] := ⟨⟨_, _, rfl, rfl, rfl⟩, by simp [Value.oneCell']⟩
instance : TyOne Tryd.prog 44 := ⟨fun _ => rfl, _, rfl, rfl⟩
instance : TyZero Tryd.prog 44 [.nilFunc] := ⟨⟨_, _, rfl, rfl, rfl⟩, by simp [Value.oneCell']⟩
instance : TyOne Tryd.prog 46 := ⟨fun _ => rfl, _, rfl, rfl⟩
instance : TyZero Tryd.prog 46 [.nilFunc] := ⟨⟨_, _, rfl, rfl, rfl⟩, by simp [Value.oneCell']⟩
instance : TyOne Tryd.prog 47 := ⟨fun _ => rfl, _, rfl, rfl⟩
instance : TyZero Tryd.prog 47 [.nilFunc] := ⟨⟨_, _, rfl, rfl, rfl⟩, by simp [Value.oneCell']⟩
instance : TyOne Tryd.prog 48 := ⟨fun _ => rfl, _, rfl, rfl⟩
instance : TyZero Tryd.prog 48 [.nilFunc] := ⟨⟨_, _, rfl, rfl, rfl⟩, by simp [Value.oneCell']⟩
instance : TyOne Tryd.prog 49 := ⟨fun _ => rfl, _, rfl, rfl⟩
instance : TyZero Tryd.prog 49 [.nilFunc] := ⟨⟨_, _, rfl, rfl, rfl⟩, by simp [Value.oneCell']⟩
instance : TyOne Tryd.prog 51 := ⟨fun _ => rfl, _, rfl, rfl⟩
instance : TyZero Tryd.prog 51 [.nilFunc] := ⟨⟨_, _, rfl, rfl, rfl⟩, by simp [Value.oneCell']⟩
instance : TyOne Tryd.prog 52 := ⟨fun _ => rfl, _, rfl, rfl⟩
instance : TyZero Tryd.prog 52 [.nilFunc] := ⟨⟨_, _, rfl, rfl, rfl⟩, by simp [Value.oneCell']⟩
instance : TyOne Tryd.prog 53 := ⟨fun _ => rfl, _, rfl, rfl⟩
instance : TyZero Tryd.prog 53 [.nilFunc] := ⟨⟨_, _, rfl, rfl, rfl⟩, by simp [Value.oneCell']⟩
instance : TyOne Tryd.prog 54 := ⟨fun _ => rfl, _, rfl, rfl⟩
instance : TyZero Tryd.prog 54 [.nilFunc] := ⟨⟨_, _, rfl, rfl, rfl⟩, by simp [Value.oneCell']⟩
instance : TyOne Tryd.prog 55 := ⟨fun _ => rfl, _, rfl, rfl⟩
instance : TyZero Tryd.prog 55 [.nilFunc] := ⟨⟨_, _, rfl, rfl, rfl⟩, by simp [Value.oneCell']⟩
instance : TyOne Tryd.prog 56 := ⟨fun _ => rfl, _, rfl, rfl⟩
instance : TyZero Tryd.prog 56 [.nilFunc] := ⟨⟨_, _, rfl, rfl, rfl⟩, by simp [Value.oneCell']⟩
instance : TyOne Tryd.prog 57 := ⟨fun _ => rfl, _, rfl, rfl⟩
instance : TyZero Tryd.prog 57 [.nilFunc] := ⟨⟨_, _, rfl, rfl, rfl⟩, by simp [Value.oneCell']⟩
instance : TyOne Tryd.prog 58 := ⟨fun _ => rfl, _, rfl, rfl⟩
instance : TyZero Tryd.prog 58 [.nilFunc] := ⟨⟨_, _, rfl, rfl, rfl⟩, by simp [Value.oneCell']⟩
instance : TyAgg Tryd.prog 59 5 := ⟨fun _ => rfl, _, rfl, rfl⟩
instance : TyFld Tryd.prog 59 0 0 9 := ⟨_, _, rfl, rfl, rfl, rfl, _, rfl, by decide⟩
instance : TyFld Tryd.prog 59 1 1 9 := ⟨_, _, rfl, rfl, rfl, rfl, _, rfl, by decide⟩
instance : TyFld Tryd.prog 59 2 2 22 := ⟨_, _, rfl, rfl, rfl, rfl, _, rfl, by decide⟩
instance : TyFld Tryd.prog 59 3 3 31 := ⟨_, _, rfl, rfl, rfl, rfl, _, rfl, by decide⟩
instance : TyFld Tryd.prog 59 4 4 31 := ⟨_, _, rfl, rfl, rfl, rfl, _, rfl, by decide⟩
instance : TyStr Tryd.prog 59 [(0, 1), (1, 1), (2, 1), (3, 1), (4, 1)] [.string ByteArray.empty, .string ByteArray.empty, .slice none 0 0, .slice none 0 0, .slice none 0 0] := ⟨⟨_, _, rfl, rfl, rfl, _, rfl, rfl⟩, by simp [Value.oneCell']⟩
instance : TyZero Tryd.prog 59 [.string ByteArray.empty, .string ByteArray.empty, .slice none 0 0, .slice none 0 0, .slice none 0 0] := ⟨⟨_, _, rfl, rfl, rfl⟩, by simp [Value.oneCell']⟩
instance : TyAgg Tryd.prog 60 5 := ⟨fun _ => rfl, _, rfl, rfl⟩
instance : TyFld Tryd.prog 60 0 0 9 := ⟨_, _, rfl, rfl, rfl, rfl, _, rfl, by decide⟩
instance : TyFld Tryd.prog 60 1 1 9 := ⟨_, _, rfl, rfl, rfl, rfl, _, rfl, by decide⟩
instance : TyFld Tryd.prog 60 2 2 22 := ⟨_, _, rfl, rfl, rfl, rfl, _, rfl, by decide⟩
instance : TyFld Tryd.prog 60 3 3 31 := ⟨_, _, rfl, rfl, rfl, rfl, _, rfl, by decide⟩
instance : TyFld Tryd.prog 60 4 4 31 := ⟨_, _, rfl, rfl, rfl, rfl, _, rfl, by decide⟩
instance : TyStr Tryd.prog 60 [(0, 1), (1, 1), (2, 1), (3, 1), (4, 1)] [.string ByteArray.empty, .string ByteArray.empty, .slice none 0 0, .slice none 0 0, .slice none 0 0] := ⟨⟨_, _, rfl, rfl, rfl, _, rfl, rfl⟩, by simp [Value.oneCell']⟩
instance : TyZero Tryd.prog 60 [.string ByteArray.empty, .string ByteArray.empty, .slice none 0 0, .slice none 0 0, .slice none 0 0] := ⟨⟨_, _, rfl, rfl, rfl⟩, by simp [Value.oneCell']⟩
instance : TyOne Tryd.prog 61 := ⟨fun _ => rfl, _, rfl, rfl⟩
instance : TyZero Tryd.prog 61 [.nilFunc] := ⟨⟨_, _, rfl, rfl, rfl⟩, by simp [Value.oneCell']⟩
instance : TyOne Tryd.prog 63 := ⟨fun _ => rfl, _, rfl, rfl⟩
instance : TyZero Tryd.prog 63 [.nilFunc] := ⟨⟨_, _, rfl, rfl, rfl⟩, by simp [Value.oneCell']⟩
instance : TyOne Tryd.prog 64 := ⟨fun _ => rfl, _, rfl, rfl⟩
instance : TyZero Tryd.prog 64 [.nilFunc] := ⟨⟨_, _, rfl, rfl, rfl⟩, by simp [Value.oneCell']⟩
instance : TyOne Tryd.prog 65 := ⟨fun _ => rfl, _, rfl, rfl⟩
instance : TyZero Tryd.prog 65 [.nilFunc] := ⟨⟨_, _, rfl, rfl, rfl⟩, by simp [Value.oneCell']⟩
instance : TyOne Tryd.prog 66 := ⟨fun _ => rfl, _, rfl, rfl⟩
instance : TyZero Tryd.prog 66 [.nilFunc] := ⟨⟨_, _, rfl, rfl, rfl⟩, by simp [Value.oneCell']⟩
instance : TyOne Tryd.prog 67 := ⟨fun _ => rfl, _, rfl, rfl⟩
instance : TyZero Tryd.prog 67 [.nilFunc] := ⟨⟨_, _, rfl, rfl, rfl⟩, by simp [Value.oneCell']⟩
instance : TyOne Tryd.prog 68 := ⟨fun _ => rfl, _, rfl, rfl⟩
instance : TyZero Tryd.prog 68 [.nilFunc] := ⟨⟨_, _, rfl, rfl, rfl⟩, by simp [Value.oneCell']⟩
instance : TyOne Tryd.prog 69 := ⟨fun _ => rfl, _, rfl, rfl⟩
instance : TyZero Tryd.prog 69 [.nilFunc] := ⟨⟨_, _, rfl, rfl, rfl⟩, by simp [Value.oneCell']⟩
instance : TyOne Tryd.prog 70 := ⟨fun _ => rfl, _, rfl, rfl⟩
instance : TyZero Tryd.prog 70 [.nilFunc] := ⟨⟨_, _, rfl, rfl, rfl⟩, by simp [Value.oneCell']⟩
instance : TyOne Tryd.prog 71 := ⟨fun _ => rfl, _, rfl, rfl⟩
instance : TyZero Tryd.prog 71 [.nilFunc] := ⟨⟨_, _, rfl, rfl, rfl⟩, by simp [Value.oneCell']⟩
instance : TyOne Tryd.prog 72 := ⟨fun _ => rfl, _, rfl, rfl⟩
instance : TyZero Tryd.prog 72 [.pointer none] := ⟨⟨_, _, rfl, rfl, rfl⟩, by simp [Value.oneCell']⟩
instance : TyOne Tryd.prog 73 := ⟨fun _ => rfl, _, rfl, rfl⟩
instance : TyZero Tryd.prog 73 [.slice none 0 0] := ⟨⟨_, _, rfl, rfl, rfl⟩, by simp [Value.oneCell']⟩
instance : TySl Tryd.prog 73 5 1 1 [.int .u8 0] := ⟨rfl, ⟨_, _, rfl, rfl, rfl, rfl, rfl, by decide⟩, rfl, by simp [Value.oneCell']⟩
instance : TyAgg Tryd.prog 74 2 := ⟨fun _ => rfl, _, rfl, rfl⟩
instance : TyFld Tryd.prog 74 0 0 72 := ⟨_, _, rfl, rfl, rfl, rfl, _, rfl, by decide⟩
instance : TyFld Tryd.prog 74 1 1 73 := ⟨_, _, rfl, rfl, rfl, rfl, _, rfl, by decide⟩
instance : TyStr Tryd.prog 74 [(0, 1), (1, 1)] [.pointer none, .slice none 0 0] := ⟨⟨_, _, rfl, rfl, rfl, _, rfl, rfl⟩, by simp [Value.oneCell']⟩
instance : TyZero Tryd.prog 74 [.pointer none, .slice none 0 0] := ⟨⟨_, _, rfl, rfl, rfl⟩, by simp [Value.oneCell']⟩
instance : TyAgg Tryd.prog 75 2 := ⟨fun _ => rfl, _, rfl, rfl⟩
instance : TyFld Tryd.prog 75 0 0 72 := ⟨_, _, rfl, rfl, rfl, rfl, _, rfl, by decide⟩
instance : TyFld Tryd.prog 75 1 1 73 := ⟨_, _, rfl, rfl, rfl, rfl, _, rfl, by decide⟩
instance : TyStr Tryd.prog 75 [(0, 1), (1, 1)] [.pointer none, .slice none 0 0] := ⟨⟨_, _, rfl, rfl, rfl, _, rfl, rfl⟩, by simp [Value.oneCell']⟩
instance : TyZero Tryd.prog 75 [.pointer none, .slice none 0 0] := ⟨⟨_, _, rfl, rfl, rfl⟩, by simp [Value.oneCell']⟩
instance : TyOne Tryd.prog 76 := ⟨fun _ => rfl, _, rfl, rfl⟩
instance : TyZero Tryd.prog 76 [.nilFunc] := ⟨⟨_, _, rfl, rfl, rfl⟩, by simp [Value.oneCell']⟩
instance : TyOne Tryd.prog 77 := ⟨fun _ => rfl, _, rfl, rfl⟩
instance : TyZero Tryd.prog 77 [.nilFunc] := ⟨⟨_, _, rfl, rfl, rfl⟩, by simp [Value.oneCell']⟩
instance : TyOne Tryd.prog 78 := ⟨fun _ => rfl, _, rfl, rfl⟩
instance : TyZero Tryd.prog 78 [.nilFunc] := ⟨⟨_, _, rfl, rfl, rfl⟩, by simp [Value.oneCell']⟩
instance : TyOne Tryd.prog 79 := ⟨fun _ => rfl, _, rfl, rfl⟩
instance : TyZero Tryd.prog 79 [.nilIface] := ⟨⟨_, _, rfl, rfl, rfl⟩, by simp [Value.oneCell']⟩
instance : TyOne Tryd.prog 80 := ⟨fun _ => rfl, _, rfl, rfl⟩
instance : TyZero Tryd.prog 80 [.nilIface] := ⟨⟨_, _, rfl, rfl, rfl⟩, by simp [Value.oneCell']⟩
instance : TyOne Tryd.prog 82 := ⟨fun _ => rfl, _, rfl, rfl⟩
instance : TyZero Tryd.prog 82 [.nilFunc] := ⟨⟨_, _, rfl, rfl, rfl⟩, by simp [Value.oneCell']⟩
instance : TyOne Tryd.prog 83 := ⟨fun _ => rfl, _, rfl, rfl⟩
instance : TyZero Tryd.prog 83 [.nilFunc] := ⟨⟨_, _, rfl, rfl, rfl⟩, by simp [Value.oneCell']⟩
instance : TyOne Tryd.prog 84 := ⟨fun _ => rfl, _, rfl, rfl⟩
instance : TyZero Tryd.prog 84 [.nilFunc] := ⟨⟨_, _, rfl, rfl, rfl⟩, by simp [Value.oneCell']⟩
instance : TyOne Tryd.prog 86 := ⟨fun _ => rfl, _, rfl, rfl⟩
instance : TyZero Tryd.prog 86 [.nilFunc] := ⟨⟨_, _, rfl, rfl, rfl⟩, by simp [Value.oneCell']⟩
instance : TyOne Tryd.prog 87 := ⟨fun _ => rfl, _, rfl, rfl⟩
instance : TyZero Tryd.prog 87 [.nilFunc] := ⟨⟨_, _, rfl, rfl, rfl⟩, by simp [Value.oneCell']⟩
instance : TyOne Tryd.prog 89 := ⟨fun _ => rfl, _, rfl, rfl⟩
instance : TyZero Tryd.prog 89 [.nilFunc] := ⟨⟨_, _, rfl, rfl, rfl⟩, by simp [Value.oneCell']⟩
instance : TyOne Tryd.prog 90 := ⟨fun _ => rfl, _, rfl, rfl⟩
instance : TyZero Tryd.prog 90 [.nilFunc] := ⟨⟨_, _, rfl, rfl, rfl⟩, by simp [Value.oneCell']⟩
instance : TyOne Tryd.prog 91 := ⟨fun _ => rfl, _, rfl, rfl⟩
instance : TyZero Tryd.prog 91 [.slice none 0 0] := ⟨⟨_, _, rfl, rfl, rfl⟩, by simp [Value.oneCell']⟩
instance : TySl Tryd.prog 91 31 1 24 [.slice none 0 0] := ⟨rfl, ⟨_, _, rfl, rfl, rfl, rfl, rfl, by decide⟩, rfl, by simp [Value.oneCell']⟩
instance : TyOne Tryd.prog 92 := ⟨fun _ => rfl, _, rfl, rfl⟩
instance : TyZero Tryd.prog 92 [.nilFunc] := ⟨⟨_, _, rfl, rfl, rfl⟩, by simp [Value.oneCell']⟩
instance : TyOne Tryd.prog 93 := ⟨fun _ => rfl, _, rfl, rfl⟩
instance : TyZero Tryd.prog 93 [.nilFunc] := ⟨⟨_, _, rfl, rfl, rfl⟩, by simp [Value.oneCell']⟩
instance : TyOne Tryd.prog 94 := ⟨fun _ => rfl, _, rfl, rfl⟩
instance : TyZero Tryd.prog 94 [.pointer none] := ⟨⟨_, _, rfl, rfl, rfl⟩, by simp [Value.oneCell']⟩
instance : TyOne Tryd.prog 95 := ⟨fun _ => rfl, _, rfl, rfl⟩
instance : TyZero Tryd.prog 95 [.nilFunc] := ⟨⟨_, _, rfl, rfl, rfl⟩, by simp [Value.oneCell']⟩
instance : TyOne Tryd.prog 96 := ⟨fun _ => rfl, _, rfl, rfl⟩
instance : TyZero Tryd.prog 96 [.nilFunc] := ⟨⟨_, _, rfl, rfl, rfl⟩, by simp [Value.oneCell']⟩
instance : TyOne Tryd.prog 97 := ⟨fun _ => rfl, _, rfl, rfl⟩
instance : TyZero Tryd.prog 97 [.nilFunc] := ⟨⟨_, _, rfl, rfl, rfl⟩, by simp [Value.oneCell']⟩
instance : TyOne Tryd.prog 98 := ⟨fun _ => rfl, _, rfl, rfl⟩
instance : TyZero Tryd.prog 98 [.nilFunc] := ⟨⟨_, _, rfl, rfl, rfl⟩, by simp [Value.oneCell']⟩
instance : TyOne Tryd.prog 99 := ⟨fun _ => rfl, _, rfl, rfl⟩
instance : TyZero Tryd.prog 99 [.nilFunc] := ⟨⟨_, _, rfl, rfl, rfl⟩, by simp [Value.oneCell']⟩
instance : TyOne Tryd.prog 100 := ⟨fun _ => rfl, _, rfl, rfl⟩
instance : TyZero Tryd.prog 100 [.nilFunc] := ⟨⟨_, _, rfl, rfl, rfl⟩, by simp [Value.oneCell']⟩
instance : TyOne Tryd.prog 102 := ⟨fun _ => rfl, _, rfl, rfl⟩
instance : TyZero Tryd.prog 102 [.nilFunc] := ⟨⟨_, _, rfl, rfl, rfl⟩, by simp [Value.oneCell']⟩
instance : TyOne Tryd.prog 103 := ⟨fun _ => rfl, _, rfl, rfl⟩
instance : TyZero Tryd.prog 103 [.nilFunc] := ⟨⟨_, _, rfl, rfl, rfl⟩, by simp [Value.oneCell']⟩
instance : TyOne Tryd.prog 104 := ⟨fun _ => rfl, _, rfl, rfl⟩
instance : TyZero Tryd.prog 104 [.nilFunc] := ⟨⟨_, _, rfl, rfl, rfl⟩, by simp [Value.oneCell']⟩
instance : TyOne Tryd.prog 105 := ⟨fun _ => rfl, _, rfl, rfl⟩
instance : TyZero Tryd.prog 105 [.slice none 0 0] := ⟨⟨_, _, rfl, rfl, rfl⟩, by simp [Value.oneCell']⟩
instance : TySl Tryd.prog 105 34 1 8 [.int .i64 0] := ⟨rfl, ⟨_, _, rfl, rfl, rfl, rfl, rfl, by decide⟩, rfl, by simp [Value.oneCell']⟩
instance : TyOne Tryd.prog 106 := ⟨fun _ => rfl, _, rfl, rfl⟩
instance : TyZero Tryd.prog 106 [.nilFunc] := ⟨⟨_, _, rfl, rfl, rfl⟩, by simp [Value.oneCell']⟩
instance : TyOne Tryd.prog 107 := ⟨fun _ => rfl, _, rfl, rfl⟩
instance : TyZero Tryd.prog 107 [.nilFunc] := ⟨⟨_, _, rfl, rfl, rfl⟩, by simp [Value.oneCell']⟩
instance : TyOne Tryd.prog 108 := ⟨fun _ => rfl, _, rfl, rfl⟩
instance : TyZero Tryd.prog 108 [.nilFunc] := ⟨⟨_, _, rfl, rfl, rfl⟩, by simp [Value.oneCell']⟩
instance : TyOne Tryd.prog 109 := ⟨fun _ => rfl, _, rfl, rfl⟩
instance : TyZero Tryd.prog 109 [.int .u64 0] := ⟨⟨_, _, rfl, rfl, rfl⟩, by simp [Value.oneCell']⟩
instance : TyOne Tryd.prog 110 := ⟨fun _ => rfl, _, rfl, rfl⟩
instance : TyZero Tryd.prog 110 [.nilFunc] := ⟨⟨_, _, rfl, rfl, rfl⟩, by simp [Value.oneCell']⟩
instance : TyOne Tryd.prog 112 := ⟨fun _ => rfl, _, rfl, rfl⟩
instance : TyZero Tryd.prog 112 [.nilFunc] := ⟨⟨_, _, rfl, rfl, rfl⟩, by simp [Value.oneCell']⟩
instance : TyOne Tryd.prog 113 := ⟨fun _ => rfl, _, rfl, rfl⟩
instance : TyZero Tryd.prog 113 [.nilFunc] := ⟨⟨_, _, rfl, rfl, rfl⟩, by simp [Value.oneCell']⟩
instance : TyOne Tryd.prog 117 := ⟨fun _ => rfl, _, rfl, rfl⟩
instance : TyZero Tryd.prog 117 [.nilFunc] := ⟨⟨_, _, rfl, rfl, rfl⟩, by simp [Value.oneCell']⟩
instance : TyOne Tryd.prog 118 := ⟨fun _ => rfl, _, rfl, rfl⟩
instance : TyZero Tryd.prog 118 [.nilFunc] := ⟨⟨_, _, rfl, rfl, rfl⟩, by simp [Value.oneCell']⟩
instance : TyOne Tryd.prog 119 := ⟨fun _ => rfl, _, rfl, rfl⟩
instance : TyZero Tryd.prog 119 [.pointer none] := ⟨⟨_, _, rfl, rfl, rfl⟩, by simp [Value.oneCell']⟩
instance : TyOne Tryd.prog 120 := ⟨fun _ => rfl, _, rfl, rfl⟩
instance : TyZero Tryd.prog 120 [.nilFunc] := ⟨⟨_, _, rfl, rfl, rfl⟩, by simp [Value.oneCell']⟩
instance : TyOne Tryd.prog 121 := ⟨fun _ => rfl, _, rfl, rfl⟩
instance : TyZero Tryd.prog 121 [.int .u32 0] := ⟨⟨_, _, rfl, rfl, rfl⟩, by simp [Value.oneCell']⟩
instance : TyOne Tryd.prog 123 := ⟨fun _ => rfl, _, rfl, rfl⟩
instance : TyZero Tryd.prog 123 [.nilFunc] := ⟨⟨_, _, rfl, rfl, rfl⟩, by simp [Value.oneCell']⟩
instance : TyOne Tryd.prog 124 := ⟨fun _ => rfl, _, rfl, rfl⟩
instance : TyZero Tryd.prog 124 [.nilFunc] := ⟨⟨_, _, rfl, rfl, rfl⟩, by simp [Value.oneCell']⟩
instance : TyOne Tryd.prog 125 := ⟨fun _ => rfl, _, rfl, rfl⟩
instance : TyZero Tryd.prog 125 [.nilFunc] := ⟨⟨_, _, rfl, rfl, rfl⟩, by simp [Value.oneCell']⟩
instance : TyAgg Tryd.prog 127 2 := ⟨fun _ => rfl, _, rfl, rfl⟩
instance : TyFld Tryd.prog 127 0 0 5 := ⟨_, _, rfl, rfl, rfl, rfl, _, rfl, by decide⟩
instance : TyFld Tryd.prog 127 1 1 5 := ⟨_, _, rfl, rfl, rfl, rfl, _, rfl, by decide⟩
instance : TyStr Tryd.prog 127 [(0, 1), (1, 1)] [.int .u8 0, .int .u8 0] := ⟨⟨_, _, rfl, rfl, rfl, _, rfl, rfl⟩, by simp [Value.oneCell']⟩
instance : TyZero Tryd.prog 127 [.int .u8 0, .int .u8 0] := ⟨⟨_, _, rfl, rfl, rfl⟩, by simp [Value.oneCell']⟩
instance : TyAgg Tryd.prog 128 2 := ⟨fun _ => rfl, _, rfl, rfl⟩
instance : TyFld Tryd.prog 128 0 0 5 := ⟨_, _, rfl, rfl, rfl, rfl, _, rfl, by decide⟩
instance : TyFld Tryd.prog 128 1 1 5 := ⟨_, _, rfl, rfl, rfl, rfl, _, rfl, by decide⟩
instance : TyStr Tryd.prog 128 [(0, 1), (1, 1)] [.int .u8 0, .int .u8 0] := ⟨⟨_, _, rfl, rfl, rfl, _, rfl, rfl⟩, by simp [Value.oneCell']⟩
instance : TyZero Tryd.prog 128 [.int .u8 0, .int .u8 0] := ⟨⟨_, _, rfl, rfl, rfl⟩, by simp [Value.oneCell']⟩
instance : TyOne Tryd.prog 130 := ⟨fun _ => rfl, _, rfl, rfl⟩
instance : TyZero Tryd.prog 130 [.nilFunc] := ⟨⟨_, _, rfl, rfl, rfl⟩, by simp [Value.oneCell']⟩
instance : TyOne Tryd.prog 131 := ⟨fun _ => rfl, _, rfl, rfl⟩
instance : TyZero Tryd.prog 131 [.nilFunc] := ⟨⟨_, _, rfl, rfl, rfl⟩, by simp [Value.oneCell']⟩
instance : TyAgg Tryd.prog 132 4 := ⟨fun _ => rfl, _, rfl, rfl⟩
instance : TyFld Tryd.prog 132 0 0 17 := ⟨_, _, rfl, rfl, rfl, rfl, _, rfl, by decide⟩
instance : TyFld Tryd.prog 132 1 1 17 := ⟨_, _, rfl, rfl, rfl, rfl, _, rfl, by decide⟩
instance : TyFld Tryd.prog 132 2 2 17 := ⟨_, _, rfl, rfl, rfl, rfl, _, rfl, by decide⟩
instance : TyFld Tryd.prog 132 3 3 9 := ⟨_, _, rfl, rfl, rfl, rfl, _, rfl, by decide⟩
instance : TyStr Tryd.prog 132 [(0, 1), (1, 1), (2, 1), (3, 1)] [.pointer none, .pointer none, .pointer none, .string ByteArray.empty] := ⟨⟨_, _, rfl, rfl, rfl, _, rfl, rfl⟩, by simp [Value.oneCell']⟩
instance : TyZero Tryd.prog 132 [.pointer none, .pointer none, .pointer none, .string ByteArray.empty] := ⟨⟨_, _, rfl, rfl, rfl⟩, by simp [Value.oneCell']⟩
instance : TyAgg Tryd.prog 133 4 := ⟨fun _ => rfl, _, rfl, rfl⟩
instance : TyFld Tryd.prog 133 0 0 17 := ⟨_, _, rfl, rfl, rfl, rfl, _, rfl, by decide⟩
instance : TyFld Tryd.prog 133 1 1 17 := ⟨_, _, rfl, rfl, rfl, rfl, _, rfl, by decide⟩
instance : TyFld Tryd.prog 133 2 2 17 := ⟨_, _, rfl, rfl, rfl, rfl, _, rfl, by decide⟩
instance : TyFld Tryd.prog 133 3 3 9 := ⟨_, _, rfl, rfl, rfl, rfl, _, rfl, by decide⟩
instance : TyStr Tryd.prog 133 [(0, 1), (1, 1), (2, 1), (3, 1)] [.pointer none, .pointer none, .pointer none, .string ByteArray.empty] := ⟨⟨_, _, rfl, rfl, rfl, _, rfl, rfl⟩, by simp [Value.oneCell']⟩
instance : TyZero Tryd.prog 133 [.pointer none, .pointer none, .pointer none, .string ByteArray.empty] := ⟨⟨_, _, rfl, rfl, rfl⟩, by simp [Value.oneCell']⟩
instance : TyOne Tryd.prog 137 := ⟨fun _ => rfl, _, rfl, rfl⟩
instance : TyZero Tryd.prog 137 [.nilFunc] := ⟨⟨_, _, rfl, rfl, rfl⟩, by simp [Value.oneCell']⟩
instance : TyOne Tryd.prog 138 := ⟨fun _ => rfl, _, rfl, rfl⟩
instance : TyZero Tryd.prog 138 [.int .u8 0] := ⟨⟨_, _, rfl, rfl, rfl⟩, by simp [Value.oneCell']⟩
instance : TyOne Tryd.prog 139 := ⟨fun _ => rfl, _, rfl, rfl⟩
instance : TyZero Tryd.prog 139 [.int .u8 0] := ⟨⟨_, _, rfl, rfl, rfl⟩, by simp [Value.oneCell']⟩
instance : TyOne Tryd.prog 140 := ⟨fun _ => rfl, _, rfl, rfl⟩
instance : TyZero Tryd.prog 140 [.nilFunc] := ⟨⟨_, _, rfl, rfl, rfl⟩, by simp [Value.oneCell']⟩
instance : TyOne Tryd.prog 141 := ⟨fun _ => rfl, _, rfl, rfl⟩
instance : TyZero Tryd.prog 141 [.int .i32 0] := ⟨⟨_, _, rfl, rfl, rfl⟩, by simp [Value.oneCell']⟩
instance : TyOne Tryd.prog 142 := ⟨fun _ => rfl, _, rfl, rfl⟩
instance : TyZero Tryd.prog 142 [.int .i32 0] := ⟨⟨_, _, rfl, rfl, rfl⟩, by simp [Value.oneCell']⟩
instance : TyAgg Tryd.prog 143 11 := ⟨fun _ => rfl, _, rfl, rfl⟩
instance : TyFld Tryd.prog 143 0 0 12 := ⟨_, _, rfl, rfl, rfl, rfl, _, rfl, by decide⟩
instance : TyFld Tryd.prog 143 1 1 12 := ⟨_, _, rfl, rfl, rfl, rfl, _, rfl, by decide⟩
instance : TyFld Tryd.prog 143 2 2 121 := ⟨_, _, rfl, rfl, rfl, rfl, _, rfl, by decide⟩
instance : TyFld Tryd.prog 143 3 3 138 := ⟨_, _, rfl, rfl, rfl, rfl, _, rfl, by decide⟩
instance : TyFld Tryd.prog 143 4 4 5 := ⟨_, _, rfl, rfl, rfl, rfl, _, rfl, by decide⟩
instance : TyFld Tryd.prog 143 5 5 5 := ⟨_, _, rfl, rfl, rfl, rfl, _, rfl, by decide⟩
instance : TyFld Tryd.prog 143 6 6 139 := ⟨_, _, rfl, rfl, rfl, rfl, _, rfl, by decide⟩
instance : TyFld Tryd.prog 143 7 7 140 := ⟨_, _, rfl, rfl, rfl, rfl, _, rfl, by decide⟩
instance : TyFld Tryd.prog 143 8 8 94 := ⟨_, _, rfl, rfl, rfl, rfl, _, rfl, by decide⟩
instance : TyFld Tryd.prog 143 9 9 141 := ⟨_, _, rfl, rfl, rfl, rfl, _, rfl, by decide⟩
instance : TyFld Tryd.prog 143 10 10 142 := ⟨_, _, rfl, rfl, rfl, rfl, _, rfl, by decide⟩
instance : TyStr Tryd.prog 143 [(0, 1), (1, 1), (2, 1), (3, 1), (4, 1), (5, 1), (6, 1), (7, 1), (8, 1), (9, 1), (10, 1)] [.int .u64 0, .int .u64 0, .int .u32 0, .int .u8 0, .int .u8 0, .int .u8 0, .int .u8 0, .nilFunc, .pointer none, .int .i32 0, .int .i32 0] := ⟨⟨_, _, rfl, rfl, rfl, _, rfl, rfl⟩, by simp [Value.oneCell']⟩
instance : TyZero Tryd.prog 143 [.int .u64 0, .int .u64 0, .int .u32 0, .int .u8 0, .int .u8 0, .int .u8 0, .int .u8 0, .nilFunc, .pointer none, .int .i32 0, .int .i32 0] := ⟨⟨_, _, rfl, rfl, rfl⟩, by simp [Value.oneCell']⟩
instance : TyAgg Tryd.prog 144 11 := ⟨fun _ => rfl, _, rfl, rfl⟩
instance : TyFld Tryd.prog 144 0 0 12 := ⟨_, _, rfl, rfl, rfl, rfl, _, rfl, by decide⟩
instance : TyFld Tryd.prog 144 1 1 12 := ⟨_, _, rfl, rfl, rfl, rfl, _, rfl, by decide⟩
instance : TyFld Tryd.prog 144 2 2 121 := ⟨_, _, rfl, rfl, rfl, rfl, _, rfl, by decide⟩
instance : TyFld Tryd.prog 144 3 3 138 := ⟨_, _, rfl, rfl, rfl, rfl, _, rfl, by decide⟩
instance : TyFld Tryd.prog 144 4 4 5 := ⟨_, _, rfl, rfl, rfl, rfl, _, rfl, by decide⟩
instance : TyFld Tryd.prog 144 5 5 5 := ⟨_, _, rfl, rfl, rfl, rfl, _, rfl, by decide⟩
instance : TyFld Tryd.prog 144 6 6 139 := ⟨_, _, rfl, rfl, rfl, rfl, _, rfl, by decide⟩
instance : TyFld Tryd.prog 144 7 7 140 := ⟨_, _, rfl, rfl, rfl, rfl, _, rfl, by decide⟩
instance : TyFld Tryd.prog 144 8 8 94 := ⟨_, _, rfl, rfl, rfl, rfl, _, rfl, by decide⟩
instance : TyFld Tryd.prog 144 9 9 141 := ⟨_, _, rfl, rfl, rfl, rfl, _, rfl, by decide⟩
instance : TyFld Tryd.prog 144 10 10 142 := ⟨_, _, rfl, rfl, rfl, rfl, _, rfl, by decide⟩
instance : TyStr Tryd.prog 144 [(0, 1), (1, 1), (2, 1), (3, 1), (4, 1), (5, 1), (6, 1), (7, 1), (8, 1), (9, 1), (10, 1)] [.int .u64 0, .int .u64 0, .int .u32 0, .int .u8 0, .int .u8 0, .int .u8 0, .int .u8 0, .nilFunc, .pointer none, .int .i32 0, .int .i32 0] := ⟨⟨_, _, rfl, rfl, rfl, _, rfl, rfl⟩, by simp [Value.oneCell']⟩
instance : TyZero Tryd.prog 144 [.int .u64 0, .int .u64 0, .int .u32 0, .int .u8 0, .int .u8 0, .int .u8 0, .int .u8 0, .nilFunc, .pointer none, .int .i32 0, .int .i32 0] := ⟨⟨_, _, rfl, rfl, rfl⟩, by simp [Value.oneCell']⟩
end Lg
