/- A part of the proof of a law of this seat: it adds no condition. By an AI agent. -/
import Derived.Test.YtaoclkglimibeaaGreatDoorProg
import Derived.Test.YtaoclkglimibeaaGreatDoorCore
set_option linter.all false
set_option maxRecDepth 100000
namespace Lg
open Go Go.Proofs
instance : TyOne Tryz.prog 1 := ⟨fun _ => rfl, _, rfl, rfl⟩
instance : TyZero Tryz.prog 1 [.nilFunc] := ⟨⟨_, _, rfl, rfl, rfl⟩, by simp [Value.oneCell']⟩
instance : TyOne Tryz.prog 2 := ⟨fun _ => rfl, _, rfl, rfl⟩
instance : TyZero Tryz.prog 2 [.int .i64 0] := ⟨⟨_, _, rfl, rfl, rfl⟩, by simp [Value.oneCell']⟩
instance : TyOne Tryz.prog 3 := ⟨fun _ => rfl, _, rfl, rfl⟩
instance : TyZero Tryz.prog 3 [.int .i64 0] := ⟨⟨_, _, rfl, rfl, rfl⟩, by simp [Value.oneCell']⟩
instance : TyOne Tryz.prog 4 := ⟨fun _ => rfl, _, rfl, rfl⟩
instance : TyZero Tryz.prog 4 [.bool false] := ⟨⟨_, _, rfl, rfl, rfl⟩, by simp [Value.oneCell']⟩
instance : TyOne Tryz.prog 5 := ⟨fun _ => rfl, _, rfl, rfl⟩
instance : TyZero Tryz.prog 5 [.int .u8 0] := ⟨⟨_, _, rfl, rfl, rfl⟩, by simp [Value.oneCell']⟩
instance : TyOne Tryz.prog 6 := ⟨fun _ => rfl, _, rfl, rfl⟩
instance : TyZero Tryz.prog 6 [.int .u8 0] := ⟨⟨_, _, rfl, rfl, rfl⟩, by simp [Value.oneCell']⟩
instance : TyAgg Tryz.prog 7 4 := ⟨fun _ => rfl, _, rfl, rfl⟩
instance : TyFld Tryz.prog 7 0 0 2 := ⟨_, _, rfl, rfl, rfl, rfl, _, rfl, by decide⟩
instance : TyFld Tryz.prog 7 1 1 3 := ⟨_, _, rfl, rfl, rfl, rfl, _, rfl, by decide⟩
instance : TyFld Tryz.prog 7 2 2 4 := ⟨_, _, rfl, rfl, rfl, rfl, _, rfl, by decide⟩
instance : TyFld Tryz.prog 7 3 3 6 := ⟨_, _, rfl, rfl, rfl, rfl, _, rfl, by decide⟩
instance : TyStr Tryz.prog 7 [(0, 1), (1, 1), (2, 1), (3, 1)] [.int .i64 0, .int .i64 0, .bool false, .int .u8 0] := ⟨⟨_, _, rfl, rfl, rfl, _, rfl, rfl⟩, by simp [Value.oneCell']⟩
instance : TyZero Tryz.prog 7 [.int .i64 0, .int .i64 0, .bool false, .int .u8 0] := ⟨⟨_, _, rfl, rfl, rfl⟩, by simp [Value.oneCell']⟩
instance : TyAgg Tryz.prog 8 4 := ⟨fun _ => rfl, _, rfl, rfl⟩
instance : TyFld Tryz.prog 8 0 0 2 := ⟨_, _, rfl, rfl, rfl, rfl, _, rfl, by decide⟩
instance : TyFld Tryz.prog 8 1 1 3 := ⟨_, _, rfl, rfl, rfl, rfl, _, rfl, by decide⟩
instance : TyFld Tryz.prog 8 2 2 4 := ⟨_, _, rfl, rfl, rfl, rfl, _, rfl, by decide⟩
instance : TyFld Tryz.prog 8 3 3 6 := ⟨_, _, rfl, rfl, rfl, rfl, _, rfl, by decide⟩
instance : TyStr Tryz.prog 8 [(0, 1), (1, 1), (2, 1), (3, 1)] [.int .i64 0, .int .i64 0, .bool false, .int .u8 0] := ⟨⟨_, _, rfl, rfl, rfl, _, rfl, rfl⟩, by simp [Value.oneCell']⟩
instance : TyZero Tryz.prog 8 [.int .i64 0, .int .i64 0, .bool false, .int .u8 0] := ⟨⟨_, _, rfl, rfl, rfl⟩, by simp [Value.oneCell']⟩
instance : TyOne Tryz.prog 9 := ⟨fun _ => rfl, _, rfl, rfl⟩
instance : TyZero Tryz.prog 9 [.string ByteArray.empty] := ⟨⟨_, _, rfl, rfl, rfl⟩, by simp [Value.oneCell']⟩
instance : TyOne Tryz.prog 10 := ⟨fun _ => rfl, _, rfl, rfl⟩
instance : TyZero Tryz.prog 10 [.string ByteArray.empty] := ⟨⟨_, _, rfl, rfl, rfl⟩, by simp [Value.oneCell']⟩
instance : TyOne Tryz.prog 11 := ⟨fun _ => rfl, _, rfl, rfl⟩
instance : TyZero Tryz.prog 11 [.string ByteArray.empty] := ⟨⟨_, _, rfl, rfl, rfl⟩, by simp [Value.oneCell']⟩
instance : TyOne Tryz.prog 12 := ⟨fun _ => rfl, _, rfl, rfl⟩
instance : TyZero Tryz.prog 12 [.int .u64 0] := ⟨⟨_, _, rfl, rfl, rfl⟩, by simp [Value.oneCell']⟩
instance : TyAgg Tryz.prog 13 2 := ⟨fun _ => rfl, _, rfl, rfl⟩
instance : TyFld Tryz.prog 13 0 0 9 := ⟨_, _, rfl, rfl, rfl, rfl, _, rfl, by decide⟩
instance : TyFld Tryz.prog 13 1 1 12 := ⟨_, _, rfl, rfl, rfl, rfl, _, rfl, by decide⟩
instance : TyStr Tryz.prog 13 [(0, 1), (1, 1)] [.string ByteArray.empty, .int .u64 0] := ⟨⟨_, _, rfl, rfl, rfl, _, rfl, rfl⟩, by simp [Value.oneCell']⟩
instance : TyZero Tryz.prog 13 [.string ByteArray.empty, .int .u64 0] := ⟨⟨_, _, rfl, rfl, rfl⟩, by simp [Value.oneCell']⟩
instance : TyAgg Tryz.prog 14 2 := ⟨fun _ => rfl, _, rfl, rfl⟩
instance : TyFld Tryz.prog 14 0 0 9 := ⟨_, _, rfl, rfl, rfl, rfl, _, rfl, by decide⟩
instance : TyFld Tryz.prog 14 1 1 12 := ⟨_, _, rfl, rfl, rfl, rfl, _, rfl, by decide⟩
instance : TyStr Tryz.prog 14 [(0, 1), (1, 1)] [.string ByteArray.empty, .int .u64 0] := ⟨⟨_, _, rfl, rfl, rfl, _, rfl, rfl⟩, by simp [Value.oneCell']⟩
instance : TyZero Tryz.prog 14 [.string ByteArray.empty, .int .u64 0] := ⟨⟨_, _, rfl, rfl, rfl⟩, by simp [Value.oneCell']⟩
instance : TyOne Tryz.prog 15 := ⟨fun _ => rfl, _, rfl, rfl⟩
instance : TyZero Tryz.prog 15 [.pointer none] := ⟨⟨_, _, rfl, rfl, rfl⟩, by simp [Value.oneCell']⟩
instance : TyOne Tryz.prog 16 := ⟨fun _ => rfl, _, rfl, rfl⟩
instance : TyZero Tryz.prog 16 [.pointer none] := ⟨⟨_, _, rfl, rfl, rfl⟩, by simp [Value.oneCell']⟩
instance : TyOne Tryz.prog 17 := ⟨fun _ => rfl, _, rfl, rfl⟩
instance : TyZero Tryz.prog 17 [.pointer none] := ⟨⟨_, _, rfl, rfl, rfl⟩, by simp [Value.oneCell']⟩
instance : TyAgg Tryz.prog 18 1 := ⟨fun _ => rfl, _, rfl, rfl⟩
instance : TyFld Tryz.prog 18 0 0 17 := ⟨_, _, rfl, rfl, rfl, rfl, _, rfl, by decide⟩
instance : TyStr Tryz.prog 18 [(0, 1)] [.pointer none] := ⟨⟨_, _, rfl, rfl, rfl, _, rfl, rfl⟩, by simp [Value.oneCell']⟩
instance : TyZero Tryz.prog 18 [.pointer none] := ⟨⟨_, _, rfl, rfl, rfl⟩, by simp [Value.oneCell']⟩
instance : TyAgg Tryz.prog 19 1 := ⟨fun _ => rfl, _, rfl, rfl⟩
instance : TyFld Tryz.prog 19 0 0 17 := ⟨_, _, rfl, rfl, rfl, rfl, _, rfl, by decide⟩
instance : TyStr Tryz.prog 19 [(0, 1)] [.pointer none] := ⟨⟨_, _, rfl, rfl, rfl, _, rfl, rfl⟩, by simp [Value.oneCell']⟩
instance : TyZero Tryz.prog 19 [.pointer none] := ⟨⟨_, _, rfl, rfl, rfl⟩, by simp [Value.oneCell']⟩
instance : TyOne Tryz.prog 20 := ⟨fun _ => rfl, _, rfl, rfl⟩
instance : TyZero Tryz.prog 20 [.nilIface] := ⟨⟨_, _, rfl, rfl, rfl⟩, by simp [Value.oneCell']⟩
instance : TyOne Tryz.prog 21 := ⟨fun _ => rfl, _, rfl, rfl⟩
instance : TyZero Tryz.prog 21 [.int .i32 0] := ⟨⟨_, _, rfl, rfl, rfl⟩, by simp [Value.oneCell']⟩
instance : TyOne Tryz.prog 22 := ⟨fun _ => rfl, _, rfl, rfl⟩
instance : TyZero Tryz.prog 22 [.slice none 0 0] := ⟨⟨_, _, rfl, rfl, rfl⟩, by simp [Value.oneCell']⟩
instance : TySl Tryz.prog 22 3 1 8 [.int .i64 0] := ⟨rfl, ⟨_, _, rfl, rfl, rfl, rfl, rfl, by decide⟩, rfl, by simp [Value.oneCell']⟩
instance : TyOne Tryz.prog 23 := ⟨fun _ => rfl, _, rfl, rfl⟩
instance : TyZero Tryz.prog 23 [.pointer none] := ⟨⟨_, _, rfl, rfl, rfl⟩, by simp [Value.oneCell']⟩
instance : TyAgg Tryz.prog 24 2 := ⟨fun _ => rfl, _, rfl, rfl⟩
instance : TyFld Tryz.prog 24 0 0 22 := ⟨_, _, rfl, rfl, rfl, rfl, _, rfl, by decide⟩
instance : TyFld Tryz.prog 24 1 1 3 := ⟨_, _, rfl, rfl, rfl, rfl, _, rfl, by decide⟩
instance : TyStr Tryz.prog 24 [(0, 1), (1, 1)] [.slice none 0 0, .int .i64 0] := ⟨⟨_, _, rfl, rfl, rfl, _, rfl, rfl⟩, by simp [Value.oneCell']⟩
instance : TyZero Tryz.prog 24 [.slice none 0 0, .int .i64 0] := ⟨⟨_, _, rfl, rfl, rfl⟩, by simp [Value.oneCell']⟩
instance : TyAgg Tryz.prog 25 2 := ⟨fun _ => rfl, _, rfl, rfl⟩
instance : TyFld Tryz.prog 25 0 0 22 := ⟨_, _, rfl, rfl, rfl, rfl, _, rfl, by decide⟩
instance : TyFld Tryz.prog 25 1 1 3 := ⟨_, _, rfl, rfl, rfl, rfl, _, rfl, by decide⟩
instance : TyStr Tryz.prog 25 [(0, 1), (1, 1)] [.slice none 0 0, .int .i64 0] := ⟨⟨_, _, rfl, rfl, rfl, _, rfl, rfl⟩, by simp [Value.oneCell']⟩
instance : TyZero Tryz.prog 25 [.slice none 0 0, .int .i64 0] := ⟨⟨_, _, rfl, rfl, rfl⟩, by simp [Value.oneCell']⟩
instance : TyOne Tryz.prog 26 := ⟨fun _ => rfl, _, rfl, rfl⟩
instance : TyZero Tryz.prog 26 [.nilFunc] := ⟨⟨_, _, rfl, rfl, rfl⟩, by simp [Value.oneCell']⟩
instance : TyOne Tryz.prog 27 := ⟨fun _ => rfl, _, rfl, rfl⟩
instance : TyZero Tryz.prog 27 [.pointer none] := ⟨⟨_, _, rfl, rfl, rfl⟩, by simp [Value.oneCell']⟩
instance : TyOne Tryz.prog 28 := ⟨fun _ => rfl, _, rfl, rfl⟩
instance : TyZero Tryz.prog 28 [.int .i64 0] := ⟨⟨_, _, rfl, rfl, rfl⟩, by simp [Value.oneCell']⟩
instance : TyOne Tryz.prog 30 := ⟨fun _ => rfl, _, rfl, rfl⟩
instance : TyZero Tryz.prog 30 [.nilFunc] := ⟨⟨_, _, rfl, rfl, rfl⟩, by simp [Value.oneCell']⟩
instance : TyOne Tryz.prog 31 := ⟨fun _ => rfl, _, rfl, rfl⟩
instance : TyZero Tryz.prog 31 [.pointer none] := ⟨⟨_, _, rfl, rfl, rfl⟩, by simp [Value.oneCell']⟩
instance : TyOne Tryz.prog 33 := ⟨fun _ => rfl, _, rfl, rfl⟩
instance : TyZero Tryz.prog 33 [.nilFunc] := ⟨⟨_, _, rfl, rfl, rfl⟩, by simp [Value.oneCell']⟩
instance : TyOne Tryz.prog 34 := ⟨fun _ => rfl, _, rfl, rfl⟩
instance : TyZero Tryz.prog 34 [.nilFunc] := ⟨⟨_, _, rfl, rfl, rfl⟩, by simp [Value.oneCell']⟩
instance : TyOne Tryz.prog 36 := ⟨fun _ => rfl, _, rfl, rfl⟩
instance : TyZero Tryz.prog 36 [.nilFunc] := ⟨⟨_, _, rfl, rfl, rfl⟩, by simp [Value.oneCell']⟩
instance : TyOne Tryz.prog 37 := ⟨fun _ => rfl, _, rfl, rfl⟩
instance : TyZero Tryz.prog 37 [.nilFunc] := ⟨⟨_, _, rfl, rfl, rfl⟩, by simp [Value.oneCell']⟩
instance : TyOne Tryz.prog 38 := ⟨fun _ => rfl, _, rfl, rfl⟩
instance : TyZero Tryz.prog 38 [.slice none 0 0] := ⟨⟨_, _, rfl, rfl, rfl⟩, by simp [Value.oneCell']⟩
instance : TySl Tryz.prog 38 40 2 24 [.string ByteArray.empty, .int .i64 0] := ⟨rfl, ⟨_, _, rfl, rfl, rfl, rfl, rfl, by decide⟩, rfl, by simp [Value.oneCell']⟩
instance : TyAgg Tryz.prog 39 2 := ⟨fun _ => rfl, _, rfl, rfl⟩
instance : TyFld Tryz.prog 39 0 0 9 := ⟨_, _, rfl, rfl, rfl, rfl, _, rfl, by decide⟩
instance : TyFld Tryz.prog 39 1 1 3 := ⟨_, _, rfl, rfl, rfl, rfl, _, rfl, by decide⟩
instance : TyStr Tryz.prog 39 [(0, 1), (1, 1)] [.string ByteArray.empty, .int .i64 0] := ⟨⟨_, _, rfl, rfl, rfl, _, rfl, rfl⟩, by simp [Value.oneCell']⟩
instance : TyZero Tryz.prog 39 [.string ByteArray.empty, .int .i64 0] := ⟨⟨_, _, rfl, rfl, rfl⟩, by simp [Value.oneCell']⟩
instance : TyAgg Tryz.prog 40 2 := ⟨fun _ => rfl, _, rfl, rfl⟩
instance : TyFld Tryz.prog 40 0 0 9 := ⟨_, _, rfl, rfl, rfl, rfl, _, rfl, by decide⟩
instance : TyFld Tryz.prog 40 1 1 3 := ⟨_, _, rfl, rfl, rfl, rfl, _, rfl, by decide⟩
instance : TyStr Tryz.prog 40 [(0, 1), (1, 1)] [.string ByteArray.empty, .int .i64 0] := ⟨⟨_, _, rfl, rfl, rfl, _, rfl, rfl⟩, by simp [Value.oneCell']⟩
instance : TyZero Tryz.prog 40 [.string ByteArray.empty, .int .i64 0] := ⟨⟨_, _, rfl, rfl, rfl⟩, by simp [Value.oneCell']⟩
instance : TyOne Tryz.prog 41 := ⟨fun _ => rfl, _, rfl, rfl⟩
instance : TyZero Tryz.prog 41 [.nilFunc] := ⟨⟨_, _, rfl, rfl, rfl⟩, by simp [Value.oneCell']⟩
instance : TyOne Tryz.prog 42 := ⟨fun _ => rfl, _, rfl, rfl⟩
instance : TyZero Tryz.prog 42 [.nilFunc] := ⟨⟨_, _, rfl, rfl, rfl⟩, by simp [Value.oneCell']⟩
instance : TyOne Tryz.prog 43 := ⟨fun _ => rfl, _, rfl, rfl⟩
instance : TyZero Tryz.prog 43 [.nilFunc] := ⟨⟨_, _, rfl, rfl, rfl⟩, by simp [Value.oneCell']⟩
instance : TyOne Tryz.prog 44 := ⟨fun _ => rfl, _, rfl, rfl⟩
instance : TyZero Tryz.prog 44 [.nilFunc] := ⟨⟨_, _, rfl, rfl, rfl⟩, by simp [Value.oneCell']⟩
instance : TyOne Tryz.prog 45 := ⟨fun _ => rfl, _, rfl, rfl⟩
instance : TyZero Tryz.prog 45 [.nilFunc] := ⟨⟨_, _, rfl, rfl, rfl⟩, by simp [Value.oneCell']⟩
instance : TyOne Tryz.prog 46 := ⟨fun _ => rfl, _, rfl, rfl⟩
instance : TyZero Tryz.prog 46 [.nilFunc] := ⟨⟨_, _, rfl, rfl, rfl⟩, by simp [Value.oneCell']⟩
instance : TyOne Tryz.prog 47 := ⟨fun _ => rfl, _, rfl, rfl⟩
instance : TyZero Tryz.prog 47 [.slice none 0 0] := ⟨⟨_, _, rfl, rfl, rfl⟩, by simp [Value.oneCell']⟩
instance : TySl Tryz.prog 47 9 1 16 [.string ByteArray.empty] := ⟨rfl, ⟨_, _, rfl, rfl, rfl, rfl, rfl, by decide⟩, rfl, by simp [Value.oneCell']⟩
instance : TyOne Tryz.prog 48 := ⟨fun _ => rfl, _, rfl, rfl⟩
instance : TyZero Tryz.prog 48 [.nilFunc] := ⟨⟨_, _, rfl, rfl, rfl⟩, by simp [Value.oneCell']⟩
instance : TyOne Tryz.prog 49 := ⟨fun _ => rfl, _, rfl, rfl⟩
instance : TyZero Tryz.prog 49 [.nilFunc] := ⟨⟨_, _, rfl, rfl, rfl⟩, by simp [Value.oneCell']⟩
instance : TyOne Tryz.prog 50 := ⟨fun _ => rfl, _, rfl, rfl⟩
instance : TyZero Tryz.prog 50 [.slice none 0 0] := ⟨⟨_, _, rfl, rfl, rfl⟩, by simp [Value.oneCell']⟩
instance : TySl Tryz.prog 50 57 2 24 [.string ByteArray.empty, .int .i64 0] := ⟨rfl, ⟨_, _, rfl, rfl, rfl, rfl, rfl, by decide⟩, rfl, by simp [Value.oneCell']⟩
instance : TyAgg Tryz.prog 51 3 := ⟨fun _ => rfl, _, rfl, rfl⟩
instance : TyFld Tryz.prog 51 0 0 3 := ⟨_, _, rfl, rfl, rfl, rfl, _, rfl, by decide⟩
instance : TyFld Tryz.prog 51 1 1 9 := ⟨_, _, rfl, rfl, rfl, rfl, _, rfl, by decide⟩
instance : TyFld Tryz.prog 51 2 2 50 := ⟨_, _, rfl, rfl, rfl, rfl, _, rfl, by decide⟩
instance : TyStr Tryz.prog 51 [(0, 1), (1, 1), (2, 1)] [.int .i64 0, .string ByteArray.empty, .slice none 0 0] := ⟨⟨_, _, rfl, rfl, rfl, _, rfl, rfl⟩, by simp [Value.oneCell']⟩
instance : TyZero Tryz.prog 51 [.int .i64 0, .string ByteArray.empty, .slice none 0 0] := ⟨⟨_, _, rfl, rfl, rfl⟩, by simp [Value.oneCell']⟩
instance : TyAgg Tryz.prog 52 3 := ⟨fun _ => rfl, _, rfl, rfl⟩
instance : TyFld Tryz.prog 52 0 0 3 := ⟨_, _, rfl, rfl, rfl, rfl, _, rfl, by decide⟩
instance : TyFld Tryz.prog 52 1 1 9 := ⟨_, _, rfl, rfl, rfl, rfl, _, rfl, by decide⟩
instance : TyFld Tryz.prog 52 2 2 50 := ⟨_, _, rfl, rfl, rfl, rfl, _, rfl, by decide⟩
instance : TyStr Tryz.prog 52 [(0, 1), (1, 1), (2, 1)] [.int .i64 0, .string ByteArray.empty, .slice none 0 0] := ⟨⟨_, _, rfl, rfl, rfl, _, rfl, rfl⟩, by simp [Value.oneCell']⟩
instance : TyZero Tryz.prog 52 [.int .i64 0, .string ByteArray.empty, .slice none 0 0] := ⟨⟨_, _, rfl, rfl, rfl⟩, by simp [Value.oneCell']⟩
instance : TyOne Tryz.prog 54 := ⟨fun _ => rfl, _, rfl, rfl⟩
instance : TyZero Tryz.prog 54 [.nilFunc] := ⟨⟨_, _, rfl, rfl, rfl⟩, by simp [Value.oneCell']⟩
instance : TyOne Tryz.prog 55 := ⟨fun _ => rfl, _, rfl, rfl⟩
instance : TyZero Tryz.prog 55 [.nilFunc] := ⟨⟨_, _, rfl, rfl, rfl⟩, by simp [Value.oneCell']⟩
instance : TyAgg Tryz.prog 56 2 := ⟨fun _ => rfl, _, rfl, rfl⟩
instance : TyFld Tryz.prog 56 0 0 9 := ⟨_, _, rfl, rfl, rfl, rfl, _, rfl, by decide⟩
instance : TyFld Tryz.prog 56 1 1 3 := ⟨_, _, rfl, rfl, rfl, rfl, _, rfl, by decide⟩
instance : TyStr Tryz.prog 56 [(0, 1), (1, 1)] [.string ByteArray.empty, .int .i64 0] := ⟨⟨_, _, rfl, rfl, rfl, _, rfl, rfl⟩, by simp [Value.oneCell']⟩
instance : TyZero Tryz.prog 56 [.string ByteArray.empty, .int .i64 0] := ⟨⟨_, _, rfl, rfl, rfl⟩, by simp [Value.oneCell']⟩
instance : TyAgg Tryz.prog 57 2 := ⟨fun _ => rfl, _, rfl, rfl⟩
instance : TyFld Tryz.prog 57 0 0 9 := ⟨_, _, rfl, rfl, rfl, rfl, _, rfl, by decide⟩
instance : TyFld Tryz.prog 57 1 1 3 := ⟨_, _, rfl, rfl, rfl, rfl, _, rfl, by decide⟩
instance : TyStr Tryz.prog 57 [(0, 1), (1, 1)] [.string ByteArray.empty, .int .i64 0] := ⟨⟨_, _, rfl, rfl, rfl, _, rfl, rfl⟩, by simp [Value.oneCell']⟩
instance : TyZero Tryz.prog 57 [.string ByteArray.empty, .int .i64 0] := ⟨⟨_, _, rfl, rfl, rfl⟩, by simp [Value.oneCell']⟩
instance : TyOne Tryz.prog 59 := ⟨fun _ => rfl, _, rfl, rfl⟩
instance : TyZero Tryz.prog 59 [.nilFunc] := ⟨⟨_, _, rfl, rfl, rfl⟩, by simp [Value.oneCell']⟩
instance : TyOne Tryz.prog 61 := ⟨fun _ => rfl, _, rfl, rfl⟩
instance : TyZero Tryz.prog 61 [.nilFunc] := ⟨⟨_, _, rfl, rfl, rfl⟩, by simp [Value.oneCell']⟩
instance : TyOne Tryz.prog 62 := ⟨fun _ => rfl, _, rfl, rfl⟩
instance : TyZero Tryz.prog 62 [.nilFunc] := ⟨⟨_, _, rfl, rfl, rfl⟩, by simp [Value.oneCell']⟩
instance : TyOne Tryz.prog 63 := ⟨fun _ => rfl, _, rfl, rfl⟩
instance : TyZero Tryz.prog 63 [.nilFunc] := ⟨⟨_, _, rfl, rfl, rfl⟩, by simp [Value.oneCell']⟩
instance : TyOne Tryz.prog 65 := ⟨fun _ => rfl, _, rfl, rfl⟩
instance : TyZero Tryz.prog 65 [.nilFunc] := ⟨⟨_, _, rfl, rfl, rfl⟩, by simp [Value.oneCell']⟩
instance : TyOne Tryz.prog 67 := ⟨fun _ => rfl, _, rfl, rfl⟩
instance : TyZero Tryz.prog 67 [.nilFunc] := ⟨⟨_, _, rfl, rfl, rfl⟩, by simp [Value.oneCell']⟩
instance : TyOne Tryz.prog 68 := ⟨fun _ => rfl, _, rfl, rfl⟩
instance : TyZero Tryz.prog 68 [.nilFunc] := ⟨⟨_, _, rfl, rfl, rfl⟩, by simp [Value.oneCell']⟩
instance : TyOne Tryz.prog 69 := ⟨fun _ => rfl, _, rfl, rfl⟩
instance : TyZero Tryz.prog 69 [.pointer none] := ⟨⟨_, _, rfl, rfl, rfl⟩, by simp [Value.oneCell']⟩
instance : TyOne Tryz.prog 70 := ⟨fun _ => rfl, _, rfl, rfl⟩
instance : TyZero Tryz.prog 70 [.slice none 0 0] := ⟨⟨_, _, rfl, rfl, rfl⟩, by simp [Value.oneCell']⟩
instance : TySl Tryz.prog 70 5 1 1 [.int .u8 0] := ⟨rfl, ⟨_, _, rfl, rfl, rfl, rfl, rfl, by decide⟩, rfl, by simp [Value.oneCell']⟩
instance : TyAgg Tryz.prog 71 2 := ⟨fun _ => rfl, _, rfl, rfl⟩
instance : TyFld Tryz.prog 71 0 0 69 := ⟨_, _, rfl, rfl, rfl, rfl, _, rfl, by decide⟩
instance : TyFld Tryz.prog 71 1 1 70 := ⟨_, _, rfl, rfl, rfl, rfl, _, rfl, by decide⟩
instance : TyStr Tryz.prog 71 [(0, 1), (1, 1)] [.pointer none, .slice none 0 0] := ⟨⟨_, _, rfl, rfl, rfl, _, rfl, rfl⟩, by simp [Value.oneCell']⟩
instance : TyZero Tryz.prog 71 [.pointer none, .slice none 0 0] := ⟨⟨_, _, rfl, rfl, rfl⟩, by simp [Value.oneCell']⟩
instance : TyAgg Tryz.prog 72 2 := ⟨fun _ => rfl, _, rfl, rfl⟩
instance : TyFld Tryz.prog 72 0 0 69 := ⟨_, _, rfl, rfl, rfl, rfl, _, rfl, by decide⟩
instance : TyFld Tryz.prog 72 1 1 70 := ⟨_, _, rfl, rfl, rfl, rfl, _, rfl, by decide⟩
instance : TyStr Tryz.prog 72 [(0, 1), (1, 1)] [.pointer none, .slice none 0 0] := ⟨⟨_, _, rfl, rfl, rfl, _, rfl, rfl⟩, by simp [Value.oneCell']⟩
instance : TyZero Tryz.prog 72 [.pointer none, .slice none 0 0] := ⟨⟨_, _, rfl, rfl, rfl⟩, by simp [Value.oneCell']⟩
instance : TyOne Tryz.prog 73 := ⟨fun _ => rfl, _, rfl, rfl⟩
instance : TyZero Tryz.prog 73 [.slice none 0 0] := ⟨⟨_, _, rfl, rfl, rfl⟩, by simp [Value.oneCell']⟩
instance : TySl Tryz.prog 73 78 5 64 [.int .i64 0, .string ByteArray.empty, .slice none 0 0, .int .i64 0, .bool false] := ⟨rfl, ⟨_, _, rfl, rfl, rfl, rfl, rfl, by decide⟩, rfl, by simp [Value.oneCell']⟩
instance : TyOne Tryz.prog 74 := ⟨fun _ => rfl, _, rfl, rfl⟩
instance : TyZero Tryz.prog 74 [.map none] := ⟨⟨_, _, rfl, rfl, rfl⟩, by simp [Value.oneCell']⟩
instance : TyAgg Tryz.prog 75 2 := ⟨fun _ => rfl, _, rfl, rfl⟩
instance : TyFld Tryz.prog 75 0 0 73 := ⟨_, _, rfl, rfl, rfl, rfl, _, rfl, by decide⟩
instance : TyFld Tryz.prog 75 1 1 74 := ⟨_, _, rfl, rfl, rfl, rfl, _, rfl, by decide⟩
instance : TyStr Tryz.prog 75 [(0, 1), (1, 1)] [.slice none 0 0, .map none] := ⟨⟨_, _, rfl, rfl, rfl, _, rfl, rfl⟩, by simp [Value.oneCell']⟩
instance : TyZero Tryz.prog 75 [.slice none 0 0, .map none] := ⟨⟨_, _, rfl, rfl, rfl⟩, by simp [Value.oneCell']⟩
instance : TyAgg Tryz.prog 76 2 := ⟨fun _ => rfl, _, rfl, rfl⟩
instance : TyFld Tryz.prog 76 0 0 73 := ⟨_, _, rfl, rfl, rfl, rfl, _, rfl, by decide⟩
instance : TyFld Tryz.prog 76 1 1 74 := ⟨_, _, rfl, rfl, rfl, rfl, _, rfl, by decide⟩
instance : TyStr Tryz.prog 76 [(0, 1), (1, 1)] [.slice none 0 0, .map none] := ⟨⟨_, _, rfl, rfl, rfl, _, rfl, rfl⟩, by simp [Value.oneCell']⟩
instance : TyZero Tryz.prog 76 [.slice none 0 0, .map none] := ⟨⟨_, _, rfl, rfl, rfl⟩, by simp [Value.oneCell']⟩
instance : TyAgg Tryz.prog 77 5 := ⟨fun _ => rfl, _, rfl, rfl⟩
instance : TyFld Tryz.prog 77 0 0 52 := ⟨_, _, rfl, rfl, rfl, rfl, _, rfl, by decide⟩
instance : TyFld Tryz.prog 77 1 3 3 := ⟨_, _, rfl, rfl, rfl, rfl, _, rfl, by decide⟩
instance : TyFld Tryz.prog 77 2 4 4 := ⟨_, _, rfl, rfl, rfl, rfl, _, rfl, by decide⟩
instance : TyStr Tryz.prog 77 [(0, 3), (3, 1), (4, 1)] [.int .i64 0, .string ByteArray.empty, .slice none 0 0, .int .i64 0, .bool false] := ⟨⟨_, _, rfl, rfl, rfl, _, rfl, rfl⟩, by simp [Value.oneCell']⟩
instance : TyZero Tryz.prog 77 [.int .i64 0, .string ByteArray.empty, .slice none 0 0, .int .i64 0, .bool false] := ⟨⟨_, _, rfl, rfl, rfl⟩, by simp [Value.oneCell']⟩
instance : TyAgg Tryz.prog 78 5 := ⟨fun _ => rfl, _, rfl, rfl⟩
instance : TyFld Tryz.prog 78 0 0 52 := ⟨_, _, rfl, rfl, rfl, rfl, _, rfl, by decide⟩
instance : TyFld Tryz.prog 78 1 3 3 := ⟨_, _, rfl, rfl, rfl, rfl, _, rfl, by decide⟩
instance : TyFld Tryz.prog 78 2 4 4 := ⟨_, _, rfl, rfl, rfl, rfl, _, rfl, by decide⟩
instance : TyStr Tryz.prog 78 [(0, 3), (3, 1), (4, 1)] [.int .i64 0, .string ByteArray.empty, .slice none 0 0, .int .i64 0, .bool false] := ⟨⟨_, _, rfl, rfl, rfl, _, rfl, rfl⟩, by simp [Value.oneCell']⟩
instance : TyZero Tryz.prog 78 [.int .i64 0, .string ByteArray.empty, .slice none 0 0, .int .i64 0, .bool false] := ⟨⟨_, _, rfl, rfl, rfl⟩, by simp [Value.oneCell']⟩
instance : TyOne Tryz.prog 79 := ⟨fun _ => rfl, _, rfl, rfl⟩
instance : TyZero Tryz.prog 79 [.nilIface] := ⟨⟨_, _, rfl, rfl, rfl⟩, by simp [Value.oneCell']⟩
instance : TyOne Tryz.prog 80 := ⟨fun _ => rfl, _, rfl, rfl⟩
instance : TyZero Tryz.prog 80 [.nilIface] := ⟨⟨_, _, rfl, rfl, rfl⟩, by simp [Value.oneCell']⟩
instance : TyOne Tryz.prog 82 := ⟨fun _ => rfl, _, rfl, rfl⟩
instance : TyZero Tryz.prog 82 [.nilFunc] := ⟨⟨_, _, rfl, rfl, rfl⟩, by simp [Value.oneCell']⟩
instance : TyOne Tryz.prog 83 := ⟨fun _ => rfl, _, rfl, rfl⟩
instance : TyZero Tryz.prog 83 [.nilFunc] := ⟨⟨_, _, rfl, rfl, rfl⟩, by simp [Value.oneCell']⟩
instance : TyOne Tryz.prog 84 := ⟨fun _ => rfl, _, rfl, rfl⟩
instance : TyZero Tryz.prog 84 [.nilFunc] := ⟨⟨_, _, rfl, rfl, rfl⟩, by simp [Value.oneCell']⟩
instance : TyOne Tryz.prog 85 := ⟨fun _ => rfl, _, rfl, rfl⟩
instance : TyZero Tryz.prog 85 [.slice none 0 0] := ⟨⟨_, _, rfl, rfl, rfl⟩, by simp [Value.oneCell']⟩
instance : TySl Tryz.prog 85 52 3 48 [.int .i64 0, .string ByteArray.empty, .slice none 0 0] := ⟨rfl, ⟨_, _, rfl, rfl, rfl, rfl, rfl, by decide⟩, rfl, by simp [Value.oneCell']⟩
instance : TyAgg Tryz.prog 86 2 := ⟨fun _ => rfl, _, rfl, rfl⟩
instance : TyFld Tryz.prog 86 0 0 85 := ⟨_, _, rfl, rfl, rfl, rfl, _, rfl, by decide⟩
instance : TyFld Tryz.prog 86 1 1 22 := ⟨_, _, rfl, rfl, rfl, rfl, _, rfl, by decide⟩
instance : TyStr Tryz.prog 86 [(0, 1), (1, 1)] [.slice none 0 0, .slice none 0 0] := ⟨⟨_, _, rfl, rfl, rfl, _, rfl, rfl⟩, by simp [Value.oneCell']⟩
instance : TyZero Tryz.prog 86 [.slice none 0 0, .slice none 0 0] := ⟨⟨_, _, rfl, rfl, rfl⟩, by simp [Value.oneCell']⟩
instance : TyAgg Tryz.prog 87 2 := ⟨fun _ => rfl, _, rfl, rfl⟩
instance : TyFld Tryz.prog 87 0 0 85 := ⟨_, _, rfl, rfl, rfl, rfl, _, rfl, by decide⟩
instance : TyFld Tryz.prog 87 1 1 22 := ⟨_, _, rfl, rfl, rfl, rfl, _, rfl, by decide⟩
instance : TyStr Tryz.prog 87 [(0, 1), (1, 1)] [.slice none 0 0, .slice none 0 0] := ⟨⟨_, _, rfl, rfl, rfl, _, rfl, rfl⟩, by simp [Value.oneCell']⟩
instance : TyZero Tryz.prog 87 [.slice none 0 0, .slice none 0 0] := ⟨⟨_, _, rfl, rfl, rfl⟩, by simp [Value.oneCell']⟩
instance : TyOne Tryz.prog 88 := ⟨fun _ => rfl, _, rfl, rfl⟩
instance : TyZero Tryz.prog 88 [.nilFunc] := ⟨⟨_, _, rfl, rfl, rfl⟩, by simp [Value.oneCell']⟩
instance : TyOne Tryz.prog 89 := ⟨fun _ => rfl, _, rfl, rfl⟩
instance : TyZero Tryz.prog 89 [.nilFunc] := ⟨⟨_, _, rfl, rfl, rfl⟩, by simp [Value.oneCell']⟩
instance : TyOne Tryz.prog 90 := ⟨fun _ => rfl, _, rfl, rfl⟩
instance : TyZero Tryz.prog 90 [.nilFunc] := ⟨⟨_, _, rfl, rfl, rfl⟩, by simp [Value.oneCell']⟩
instance : TyOne Tryz.prog 91 := ⟨fun _ => rfl, _, rfl, rfl⟩
instance : TyZero Tryz.prog 91 [.nilFunc] := ⟨⟨_, _, rfl, rfl, rfl⟩, by simp [Value.oneCell']⟩
instance : TyOne Tryz.prog 92 := ⟨fun _ => rfl, _, rfl, rfl⟩
instance : TyZero Tryz.prog 92 [.nilFunc] := ⟨⟨_, _, rfl, rfl, rfl⟩, by simp [Value.oneCell']⟩
instance : TyOne Tryz.prog 93 := ⟨fun _ => rfl, _, rfl, rfl⟩
instance : TyZero Tryz.prog 93 [.nilFunc] := ⟨⟨_, _, rfl, rfl, rfl⟩, by simp [Value.oneCell']⟩
instance : TyOne Tryz.prog 94 := ⟨fun _ => rfl, _, rfl, rfl⟩
instance : TyZero Tryz.prog 94 [.nilFunc] := ⟨⟨_, _, rfl, rfl, rfl⟩, by simp [Value.oneCell']⟩
instance : TyOne Tryz.prog 95 := ⟨fun _ => rfl, _, rfl, rfl⟩
instance : TyZero Tryz.prog 95 [.nilFunc] := ⟨⟨_, _, rfl, rfl, rfl⟩, by simp [Value.oneCell']⟩
instance : TyOne Tryz.prog 96 := ⟨fun _ => rfl, _, rfl, rfl⟩
instance : TyZero Tryz.prog 96 [.nilFunc] := ⟨⟨_, _, rfl, rfl, rfl⟩, by simp [Value.oneCell']⟩
instance : TyOne Tryz.prog 97 := ⟨fun _ => rfl, _, rfl, rfl⟩
instance : TyZero Tryz.prog 97 [.nilFunc] := ⟨⟨_, _, rfl, rfl, rfl⟩, by simp [Value.oneCell']⟩
instance : TyOne Tryz.prog 99 := ⟨fun _ => rfl, _, rfl, rfl⟩
instance : TyZero Tryz.prog 99 [.nilFunc] := ⟨⟨_, _, rfl, rfl, rfl⟩, by simp [Value.oneCell']⟩
instance : TyOne Tryz.prog 100 := ⟨fun _ => rfl, _, rfl, rfl⟩
instance : TyZero Tryz.prog 100 [.nilFunc] := ⟨⟨_, _, rfl, rfl, rfl⟩, by simp [Value.oneCell']⟩
instance : TyOne Tryz.prog 101 := ⟨fun _ => rfl, _, rfl, rfl⟩
instance : TyZero Tryz.prog 101 [.pointer none] := ⟨⟨_, _, rfl, rfl, rfl⟩, by simp [Value.oneCell']⟩
instance : TyOne Tryz.prog 102 := ⟨fun _ => rfl, _, rfl, rfl⟩
instance : TyZero Tryz.prog 102 [.nilFunc] := ⟨⟨_, _, rfl, rfl, rfl⟩, by simp [Value.oneCell']⟩
instance : TyOne Tryz.prog 103 := ⟨fun _ => rfl, _, rfl, rfl⟩
instance : TyZero Tryz.prog 103 [.nilFunc] := ⟨⟨_, _, rfl, rfl, rfl⟩, by simp [Value.oneCell']⟩
instance : TyOne Tryz.prog 104 := ⟨fun _ => rfl, _, rfl, rfl⟩
instance : TyZero Tryz.prog 104 [.nilFunc] := ⟨⟨_, _, rfl, rfl, rfl⟩, by simp [Value.oneCell']⟩
instance : TyOne Tryz.prog 105 := ⟨fun _ => rfl, _, rfl, rfl⟩
instance : TyZero Tryz.prog 105 [.nilFunc] := ⟨⟨_, _, rfl, rfl, rfl⟩, by simp [Value.oneCell']⟩
instance : TyOne Tryz.prog 106 := ⟨fun _ => rfl, _, rfl, rfl⟩
instance : TyZero Tryz.prog 106 [.nilFunc] := ⟨⟨_, _, rfl, rfl, rfl⟩, by simp [Value.oneCell']⟩
instance : TyOne Tryz.prog 107 := ⟨fun _ => rfl, _, rfl, rfl⟩
instance : TyZero Tryz.prog 107 [.pointer none] := ⟨⟨_, _, rfl, rfl, rfl⟩, by simp [Value.oneCell']⟩
instance : TyOne Tryz.prog 108 := ⟨fun _ => rfl, _, rfl, rfl⟩
instance : TyZero Tryz.prog 108 [.nilFunc] := ⟨⟨_, _, rfl, rfl, rfl⟩, by simp [Value.oneCell']⟩
instance : TyOne Tryz.prog 109 := ⟨fun _ => rfl, _, rfl, rfl⟩
instance : TyZero Tryz.prog 109 [.nilFunc] := ⟨⟨_, _, rfl, rfl, rfl⟩, by simp [Value.oneCell']⟩
instance : TyOne Tryz.prog 110 := ⟨fun _ => rfl, _, rfl, rfl⟩
instance : TyZero Tryz.prog 110 [.int .u64 0] := ⟨⟨_, _, rfl, rfl, rfl⟩, by simp [Value.oneCell']⟩
instance : TyOne Tryz.prog 111 := ⟨fun _ => rfl, _, rfl, rfl⟩
instance : TyZero Tryz.prog 111 [.nilFunc] := ⟨⟨_, _, rfl, rfl, rfl⟩, by simp [Value.oneCell']⟩
instance : TyOne Tryz.prog 112 := ⟨fun _ => rfl, _, rfl, rfl⟩
instance : TyZero Tryz.prog 112 [.nilFunc] := ⟨⟨_, _, rfl, rfl, rfl⟩, by simp [Value.oneCell']⟩
instance : TyOne Tryz.prog 113 := ⟨fun _ => rfl, _, rfl, rfl⟩
instance : TyZero Tryz.prog 113 [.slice none 0 0] := ⟨⟨_, _, rfl, rfl, rfl⟩, by simp [Value.oneCell']⟩
instance : TySl Tryz.prog 113 117 5 48 [.int .i64 0, .int .i64 0, .string ByteArray.empty, .int .i64 0, .int .i64 0] := ⟨rfl, ⟨_, _, rfl, rfl, rfl, rfl, rfl, by decide⟩, rfl, by simp [Value.oneCell']⟩
instance : TyOne Tryz.prog 115 := ⟨fun _ => rfl, _, rfl, rfl⟩
instance : TyZero Tryz.prog 115 [.nilFunc] := ⟨⟨_, _, rfl, rfl, rfl⟩, by simp [Value.oneCell']⟩
instance : TyAgg Tryz.prog 116 5 := ⟨fun _ => rfl, _, rfl, rfl⟩
instance : TyFld Tryz.prog 116 0 0 3 := ⟨_, _, rfl, rfl, rfl, rfl, _, rfl, by decide⟩
instance : TyFld Tryz.prog 116 1 1 3 := ⟨_, _, rfl, rfl, rfl, rfl, _, rfl, by decide⟩
instance : TyFld Tryz.prog 116 2 2 9 := ⟨_, _, rfl, rfl, rfl, rfl, _, rfl, by decide⟩
instance : TyFld Tryz.prog 116 3 3 3 := ⟨_, _, rfl, rfl, rfl, rfl, _, rfl, by decide⟩
instance : TyFld Tryz.prog 116 4 4 3 := ⟨_, _, rfl, rfl, rfl, rfl, _, rfl, by decide⟩
instance : TyStr Tryz.prog 116 [(0, 1), (1, 1), (2, 1), (3, 1), (4, 1)] [.int .i64 0, .int .i64 0, .string ByteArray.empty, .int .i64 0, .int .i64 0] := ⟨⟨_, _, rfl, rfl, rfl, _, rfl, rfl⟩, by simp [Value.oneCell']⟩
instance : TyZero Tryz.prog 116 [.int .i64 0, .int .i64 0, .string ByteArray.empty, .int .i64 0, .int .i64 0] := ⟨⟨_, _, rfl, rfl, rfl⟩, by simp [Value.oneCell']⟩
instance : TyAgg Tryz.prog 117 5 := ⟨fun _ => rfl, _, rfl, rfl⟩
instance : TyFld Tryz.prog 117 0 0 3 := ⟨_, _, rfl, rfl, rfl, rfl, _, rfl, by decide⟩
instance : TyFld Tryz.prog 117 1 1 3 := ⟨_, _, rfl, rfl, rfl, rfl, _, rfl, by decide⟩
instance : TyFld Tryz.prog 117 2 2 9 := ⟨_, _, rfl, rfl, rfl, rfl, _, rfl, by decide⟩
instance : TyFld Tryz.prog 117 3 3 3 := ⟨_, _, rfl, rfl, rfl, rfl, _, rfl, by decide⟩
instance : TyFld Tryz.prog 117 4 4 3 := ⟨_, _, rfl, rfl, rfl, rfl, _, rfl, by decide⟩
instance : TyStr Tryz.prog 117 [(0, 1), (1, 1), (2, 1), (3, 1), (4, 1)] [.int .i64 0, .int .i64 0, .string ByteArray.empty, .int .i64 0, .int .i64 0] := ⟨⟨_, _, rfl, rfl, rfl, _, rfl, rfl⟩, by simp [Value.oneCell']⟩
instance : TyZero Tryz.prog 117 [.int .i64 0, .int .i64 0, .string ByteArray.empty, .int .i64 0, .int .i64 0] := ⟨⟨_, _, rfl, rfl, rfl⟩, by simp [Value.oneCell']⟩
instance : TyOne Tryz.prog 118 := ⟨fun _ => rfl, _, rfl, rfl⟩
instance : TyZero Tryz.prog 118 [.nilFunc] := ⟨⟨_, _, rfl, rfl, rfl⟩, by simp [Value.oneCell']⟩
instance : TyOne Tryz.prog 119 := ⟨fun _ => rfl, _, rfl, rfl⟩
instance : TyZero Tryz.prog 119 [.nilFunc] := ⟨⟨_, _, rfl, rfl, rfl⟩, by simp [Value.oneCell']⟩
instance : TyOne Tryz.prog 120 := ⟨fun _ => rfl, _, rfl, rfl⟩
instance : TyZero Tryz.prog 120 [.nilFunc] := ⟨⟨_, _, rfl, rfl, rfl⟩, by simp [Value.oneCell']⟩
instance : TyOne Tryz.prog 121 := ⟨fun _ => rfl, _, rfl, rfl⟩
instance : TyZero Tryz.prog 121 [.nilFunc] := ⟨⟨_, _, rfl, rfl, rfl⟩, by simp [Value.oneCell']⟩
instance : TyOne Tryz.prog 122 := ⟨fun _ => rfl, _, rfl, rfl⟩
instance : TyZero Tryz.prog 122 [.nilFunc] := ⟨⟨_, _, rfl, rfl, rfl⟩, by simp [Value.oneCell']⟩
instance : TyOne Tryz.prog 123 := ⟨fun _ => rfl, _, rfl, rfl⟩
instance : TyZero Tryz.prog 123 [.nilFunc] := ⟨⟨_, _, rfl, rfl, rfl⟩, by simp [Value.oneCell']⟩
instance : TyOne Tryz.prog 125 := ⟨fun _ => rfl, _, rfl, rfl⟩
instance : TyZero Tryz.prog 125 [.nilFunc] := ⟨⟨_, _, rfl, rfl, rfl⟩, by simp [Value.oneCell']⟩
instance : TyOne Tryz.prog 126 := ⟨fun _ => rfl, _, rfl, rfl⟩
instance : TyZero Tryz.prog 126 [.nilFunc] := ⟨⟨_, _, rfl, rfl, rfl⟩, by simp [Value.oneCell']⟩
instance : TyOne Tryz.prog 127 := ⟨fun _ => rfl, _, rfl, rfl⟩
instance : TyZero Tryz.prog 127 [.nilFunc] := ⟨⟨_, _, rfl, rfl, rfl⟩, by simp [Value.oneCell']⟩
instance : TyOne Tryz.prog 128 := ⟨fun _ => rfl, _, rfl, rfl⟩
instance : TyZero Tryz.prog 128 [.int .i64 0] := ⟨⟨_, _, rfl, rfl, rfl⟩, by simp [Value.oneCell']⟩
instance : TyOne Tryz.prog 130 := ⟨fun _ => rfl, _, rfl, rfl⟩
instance : TyZero Tryz.prog 130 [.nilFunc] := ⟨⟨_, _, rfl, rfl, rfl⟩, by simp [Value.oneCell']⟩
instance : TyOne Tryz.prog 131 := ⟨fun _ => rfl, _, rfl, rfl⟩
instance : TyZero Tryz.prog 131 [.nilFunc] := ⟨⟨_, _, rfl, rfl, rfl⟩, by simp [Value.oneCell']⟩
instance : TyOne Tryz.prog 132 := ⟨fun _ => rfl, _, rfl, rfl⟩
instance : TyZero Tryz.prog 132 [.nilFunc] := ⟨⟨_, _, rfl, rfl, rfl⟩, by simp [Value.oneCell']⟩
instance : TyOne Tryz.prog 133 := ⟨fun _ => rfl, _, rfl, rfl⟩
instance : TyZero Tryz.prog 133 [.nilFunc] := ⟨⟨_, _, rfl, rfl, rfl⟩, by simp [Value.oneCell']⟩
instance : TyOne Tryz.prog 134 := ⟨fun _ => rfl, _, rfl, rfl⟩
instance : TyZero Tryz.prog 134 [.nilFunc] := ⟨⟨_, _, rfl, rfl, rfl⟩, by simp [Value.oneCell']⟩
instance : TyOne Tryz.prog 135 := ⟨fun _ => rfl, _, rfl, rfl⟩
instance : TyZero Tryz.prog 135 [.int .u32 0] := ⟨⟨_, _, rfl, rfl, rfl⟩, by simp [Value.oneCell']⟩
instance : TyOne Tryz.prog 136 := ⟨fun _ => rfl, _, rfl, rfl⟩
instance : TyZero Tryz.prog 136 [.nilFunc] := ⟨⟨_, _, rfl, rfl, rfl⟩, by simp [Value.oneCell']⟩
instance : TyOne Tryz.prog 137 := ⟨fun _ => rfl, _, rfl, rfl⟩
instance : TyZero Tryz.prog 137 [.int .u64 0] := ⟨⟨_, _, rfl, rfl, rfl⟩, by simp [Value.oneCell']⟩
instance : TyOne Tryz.prog 138 := ⟨fun _ => rfl, _, rfl, rfl⟩
instance : TyZero Tryz.prog 138 [.nilFunc] := ⟨⟨_, _, rfl, rfl, rfl⟩, by simp [Value.oneCell']⟩
instance : TyOne Tryz.prog 139 := ⟨fun _ => rfl, _, rfl, rfl⟩
instance : TyZero Tryz.prog 139 [.nilFunc] := ⟨⟨_, _, rfl, rfl, rfl⟩, by simp [Value.oneCell']⟩
instance : TyOne Tryz.prog 141 := ⟨fun _ => rfl, _, rfl, rfl⟩
instance : TyZero Tryz.prog 141 [.nilFunc] := ⟨⟨_, _, rfl, rfl, rfl⟩, by simp [Value.oneCell']⟩
instance : TyOne Tryz.prog 142 := ⟨fun _ => rfl, _, rfl, rfl⟩
instance : TyZero Tryz.prog 142 [.nilFunc] := ⟨⟨_, _, rfl, rfl, rfl⟩, by simp [Value.oneCell']⟩
instance : TyOne Tryz.prog 143 := ⟨fun _ => rfl, _, rfl, rfl⟩
instance : TyZero Tryz.prog 143 [.nilFunc] := ⟨⟨_, _, rfl, rfl, rfl⟩, by simp [Value.oneCell']⟩
instance : TyOne Tryz.prog 144 := ⟨fun _ => rfl, _, rfl, rfl⟩
instance : TyZero Tryz.prog 144 [.int .i64 0] := ⟨⟨_, _, rfl, rfl, rfl⟩, by simp [Value.oneCell']⟩
instance : TyOne Tryz.prog 146 := ⟨fun _ => rfl, _, rfl, rfl⟩
instance : TyZero Tryz.prog 146 [.nilFunc] := ⟨⟨_, _, rfl, rfl, rfl⟩, by simp [Value.oneCell']⟩
instance : TyOne Tryz.prog 147 := ⟨fun _ => rfl, _, rfl, rfl⟩
instance : TyZero Tryz.prog 147 [.pointer none] := ⟨⟨_, _, rfl, rfl, rfl⟩, by simp [Value.oneCell']⟩
instance : TyOne Tryz.prog 148 := ⟨fun _ => rfl, _, rfl, rfl⟩
instance : TyZero Tryz.prog 148 [.nilFunc] := ⟨⟨_, _, rfl, rfl, rfl⟩, by simp [Value.oneCell']⟩
instance : TyOne Tryz.prog 149 := ⟨fun _ => rfl, _, rfl, rfl⟩
instance : TyZero Tryz.prog 149 [.nilFunc] := ⟨⟨_, _, rfl, rfl, rfl⟩, by simp [Value.oneCell']⟩
instance : TyOne Tryz.prog 150 := ⟨fun _ => rfl, _, rfl, rfl⟩
instance : TyZero Tryz.prog 150 [.nilFunc] := ⟨⟨_, _, rfl, rfl, rfl⟩, by simp [Value.oneCell']⟩
instance : TyOne Tryz.prog 152 := ⟨fun _ => rfl, _, rfl, rfl⟩
instance : TyZero Tryz.prog 152 [.nilFunc] := ⟨⟨_, _, rfl, rfl, rfl⟩, by simp [Value.oneCell']⟩
instance : TyOne Tryz.prog 154 := ⟨fun _ => rfl, _, rfl, rfl⟩
instance : TyZero Tryz.prog 154 [.nilFunc] := ⟨⟨_, _, rfl, rfl, rfl⟩, by simp [Value.oneCell']⟩
instance : TyOne Tryz.prog 155 := ⟨fun _ => rfl, _, rfl, rfl⟩
instance : TyZero Tryz.prog 155 [.int .u64 0] := ⟨⟨_, _, rfl, rfl, rfl⟩, by simp [Value.oneCell']⟩
instance : TyOne Tryz.prog 156 := ⟨fun _ => rfl, _, rfl, rfl⟩
instance : TyZero Tryz.prog 156 [.nilFunc] := ⟨⟨_, _, rfl, rfl, rfl⟩, by simp [Value.oneCell']⟩
instance : TyOne Tryz.prog 157 := ⟨fun _ => rfl, _, rfl, rfl⟩
instance : TyZero Tryz.prog 157 [.nilFunc] := ⟨⟨_, _, rfl, rfl, rfl⟩, by simp [Value.oneCell']⟩
instance : TyOne Tryz.prog 158 := ⟨fun _ => rfl, _, rfl, rfl⟩
instance : TyZero Tryz.prog 158 [.nilFunc] := ⟨⟨_, _, rfl, rfl, rfl⟩, by simp [Value.oneCell']⟩
instance : TyOne Tryz.prog 159 := ⟨fun _ => rfl, _, rfl, rfl⟩
instance : TyZero Tryz.prog 159 [.pointer none] := ⟨⟨_, _, rfl, rfl, rfl⟩, by simp [Value.oneCell']⟩
instance : TyOne Tryz.prog 160 := ⟨fun _ => rfl, _, rfl, rfl⟩
instance : TyZero Tryz.prog 160 [.nilFunc] := ⟨⟨_, _, rfl, rfl, rfl⟩, by simp [Value.oneCell']⟩
instance : TyOne Tryz.prog 161 := ⟨fun _ => rfl, _, rfl, rfl⟩
instance : TyZero Tryz.prog 161 [.nilFunc] := ⟨⟨_, _, rfl, rfl, rfl⟩, by simp [Value.oneCell']⟩
instance : TyOne Tryz.prog 162 := ⟨fun _ => rfl, _, rfl, rfl⟩
instance : TyZero Tryz.prog 162 [.nilFunc] := ⟨⟨_, _, rfl, rfl, rfl⟩, by simp [Value.oneCell']⟩
instance : TyOne Tryz.prog 163 := ⟨fun _ => rfl, _, rfl, rfl⟩
instance : TyZero Tryz.prog 163 [.nilFunc] := ⟨⟨_, _, rfl, rfl, rfl⟩, by simp [Value.oneCell']⟩
instance : TyOne Tryz.prog 164 := ⟨fun _ => rfl, _, rfl, rfl⟩
instance : TyZero Tryz.prog 164 [.nilFunc] := ⟨⟨_, _, rfl, rfl, rfl⟩, by simp [Value.oneCell']⟩
instance : TyOne Tryz.prog 165 := ⟨fun _ => rfl, _, rfl, rfl⟩
instance : TyZero Tryz.prog 165 [.nilFunc] := ⟨⟨_, _, rfl, rfl, rfl⟩, by simp [Value.oneCell']⟩
instance : TyOne Tryz.prog 166 := ⟨fun _ => rfl, _, rfl, rfl⟩
instance : TyZero Tryz.prog 166 [.nilFunc] := ⟨⟨_, _, rfl, rfl, rfl⟩, by simp [Value.oneCell']⟩
instance : TyAgg Tryz.prog 168 2 := ⟨fun _ => rfl, _, rfl, rfl⟩
instance : TyFld Tryz.prog 168 0 0 5 := ⟨_, _, rfl, rfl, rfl, rfl, _, rfl, by decide⟩
instance : TyFld Tryz.prog 168 1 1 5 := ⟨_, _, rfl, rfl, rfl, rfl, _, rfl, by decide⟩
instance : TyStr Tryz.prog 168 [(0, 1), (1, 1)] [.int .u8 0, .int .u8 0] := ⟨⟨_, _, rfl, rfl, rfl, _, rfl, rfl⟩, by simp [Value.oneCell']⟩
instance : TyZero Tryz.prog 168 [.int .u8 0, .int .u8 0] := ⟨⟨_, _, rfl, rfl, rfl⟩, by simp [Value.oneCell']⟩
instance : TyAgg Tryz.prog 169 2 := ⟨fun _ => rfl, _, rfl, rfl⟩
instance : TyFld Tryz.prog 169 0 0 5 := ⟨_, _, rfl, rfl, rfl, rfl, _, rfl, by decide⟩
instance : TyFld Tryz.prog 169 1 1 5 := ⟨_, _, rfl, rfl, rfl, rfl, _, rfl, by decide⟩
instance : TyStr Tryz.prog 169 [(0, 1), (1, 1)] [.int .u8 0, .int .u8 0] := ⟨⟨_, _, rfl, rfl, rfl, _, rfl, rfl⟩, by simp [Value.oneCell']⟩
instance : TyZero Tryz.prog 169 [.int .u8 0, .int .u8 0] := ⟨⟨_, _, rfl, rfl, rfl⟩, by simp [Value.oneCell']⟩
instance : TyOne Tryz.prog 172 := ⟨fun _ => rfl, _, rfl, rfl⟩
instance : TyZero Tryz.prog 172 [.nilFunc] := ⟨⟨_, _, rfl, rfl, rfl⟩, by simp [Value.oneCell']⟩
instance : TyOne Tryz.prog 173 := ⟨fun _ => rfl, _, rfl, rfl⟩
instance : TyZero Tryz.prog 173 [.nilFunc] := ⟨⟨_, _, rfl, rfl, rfl⟩, by simp [Value.oneCell']⟩
instance : TyAgg Tryz.prog 174 3 := ⟨fun _ => rfl, _, rfl, rfl⟩
instance : TyFld Tryz.prog 174 0 0 9 := ⟨_, _, rfl, rfl, rfl, rfl, _, rfl, by decide⟩
instance : TyFld Tryz.prog 174 1 1 9 := ⟨_, _, rfl, rfl, rfl, rfl, _, rfl, by decide⟩
instance : TyFld Tryz.prog 174 2 2 80 := ⟨_, _, rfl, rfl, rfl, rfl, _, rfl, by decide⟩
instance : TyStr Tryz.prog 174 [(0, 1), (1, 1), (2, 1)] [.string ByteArray.empty, .string ByteArray.empty, .nilIface] := ⟨⟨_, _, rfl, rfl, rfl, _, rfl, rfl⟩, by simp [Value.oneCell']⟩
instance : TyZero Tryz.prog 174 [.string ByteArray.empty, .string ByteArray.empty, .nilIface] := ⟨⟨_, _, rfl, rfl, rfl⟩, by simp [Value.oneCell']⟩
instance : TyAgg Tryz.prog 175 3 := ⟨fun _ => rfl, _, rfl, rfl⟩
instance : TyFld Tryz.prog 175 0 0 9 := ⟨_, _, rfl, rfl, rfl, rfl, _, rfl, by decide⟩
instance : TyFld Tryz.prog 175 1 1 9 := ⟨_, _, rfl, rfl, rfl, rfl, _, rfl, by decide⟩
instance : TyFld Tryz.prog 175 2 2 80 := ⟨_, _, rfl, rfl, rfl, rfl, _, rfl, by decide⟩
instance : TyStr Tryz.prog 175 [(0, 1), (1, 1), (2, 1)] [.string ByteArray.empty, .string ByteArray.empty, .nilIface] := ⟨⟨_, _, rfl, rfl, rfl, _, rfl, rfl⟩, by simp [Value.oneCell']⟩
instance : TyZero Tryz.prog 175 [.string ByteArray.empty, .string ByteArray.empty, .nilIface] := ⟨⟨_, _, rfl, rfl, rfl⟩, by simp [Value.oneCell']⟩
instance : TyOne Tryz.prog 176 := ⟨fun _ => rfl, _, rfl, rfl⟩
instance : TyZero Tryz.prog 176 [.nilFunc] := ⟨⟨_, _, rfl, rfl, rfl⟩, by simp [Value.oneCell']⟩
instance : TyOne Tryz.prog 178 := ⟨fun _ => rfl, _, rfl, rfl⟩
instance : TyZero Tryz.prog 178 [.nilFunc] := ⟨⟨_, _, rfl, rfl, rfl⟩, by simp [Value.oneCell']⟩
instance : TyOne Tryz.prog 179 := ⟨fun _ => rfl, _, rfl, rfl⟩
instance : TyZero Tryz.prog 179 [.nilFunc] := ⟨⟨_, _, rfl, rfl, rfl⟩, by simp [Value.oneCell']⟩
instance : TyOne Tryz.prog 183 := ⟨fun _ => rfl, _, rfl, rfl⟩
instance : TyZero Tryz.prog 183 [.nilFunc] := ⟨⟨_, _, rfl, rfl, rfl⟩, by simp [Value.oneCell']⟩
instance : TyOne Tryz.prog 184 := ⟨fun _ => rfl, _, rfl, rfl⟩
instance : TyZero Tryz.prog 184 [.nilFunc] := ⟨⟨_, _, rfl, rfl, rfl⟩, by simp [Value.oneCell']⟩
instance : TyOne Tryz.prog 185 := ⟨fun _ => rfl, _, rfl, rfl⟩
instance : TyZero Tryz.prog 185 [.pointer none] := ⟨⟨_, _, rfl, rfl, rfl⟩, by simp [Value.oneCell']⟩
instance : TyOne Tryz.prog 186 := ⟨fun _ => rfl, _, rfl, rfl⟩
instance : TyZero Tryz.prog 186 [.nilFunc] := ⟨⟨_, _, rfl, rfl, rfl⟩, by simp [Value.oneCell']⟩
instance : TyOne Tryz.prog 189 := ⟨fun _ => rfl, _, rfl, rfl⟩
instance : TyZero Tryz.prog 189 [.pointer none] := ⟨⟨_, _, rfl, rfl, rfl⟩, by simp [Value.oneCell']⟩
instance : TyOne Tryz.prog 191 := ⟨fun _ => rfl, _, rfl, rfl⟩
instance : TyZero Tryz.prog 191 [.nilFunc] := ⟨⟨_, _, rfl, rfl, rfl⟩, by simp [Value.oneCell']⟩
instance : TyOne Tryz.prog 192 := ⟨fun _ => rfl, _, rfl, rfl⟩
instance : TyZero Tryz.prog 192 [.nilFunc] := ⟨⟨_, _, rfl, rfl, rfl⟩, by simp [Value.oneCell']⟩
instance : TyOne Tryz.prog 193 := ⟨fun _ => rfl, _, rfl, rfl⟩
instance : TyZero Tryz.prog 193 [.nilFunc] := ⟨⟨_, _, rfl, rfl, rfl⟩, by simp [Value.oneCell']⟩
instance : TyOne Tryz.prog 194 := ⟨fun _ => rfl, _, rfl, rfl⟩
instance : TyZero Tryz.prog 194 [.nilFunc] := ⟨⟨_, _, rfl, rfl, rfl⟩, by simp [Value.oneCell']⟩
instance : TyOne Tryz.prog 195 := ⟨fun _ => rfl, _, rfl, rfl⟩
instance : TyZero Tryz.prog 195 [.pointer none] := ⟨⟨_, _, rfl, rfl, rfl⟩, by simp [Value.oneCell']⟩
instance : TyAgg Tryz.prog 196 1 := ⟨fun _ => rfl, _, rfl, rfl⟩
instance : TyFld Tryz.prog 196 0 0 9 := ⟨_, _, rfl, rfl, rfl, rfl, _, rfl, by decide⟩
instance : TyStr Tryz.prog 196 [(0, 1)] [.string ByteArray.empty] := ⟨⟨_, _, rfl, rfl, rfl, _, rfl, rfl⟩, by simp [Value.oneCell']⟩
instance : TyZero Tryz.prog 196 [.string ByteArray.empty] := ⟨⟨_, _, rfl, rfl, rfl⟩, by simp [Value.oneCell']⟩
instance : TyAgg Tryz.prog 197 1 := ⟨fun _ => rfl, _, rfl, rfl⟩
instance : TyFld Tryz.prog 197 0 0 9 := ⟨_, _, rfl, rfl, rfl, rfl, _, rfl, by decide⟩
instance : TyStr Tryz.prog 197 [(0, 1)] [.string ByteArray.empty] := ⟨⟨_, _, rfl, rfl, rfl, _, rfl, rfl⟩, by simp [Value.oneCell']⟩
instance : TyZero Tryz.prog 197 [.string ByteArray.empty] := ⟨⟨_, _, rfl, rfl, rfl⟩, by simp [Value.oneCell']⟩
instance : TyOne Tryz.prog 198 := ⟨fun _ => rfl, _, rfl, rfl⟩
instance : TyZero Tryz.prog 198 [.nilFunc] := ⟨⟨_, _, rfl, rfl, rfl⟩, by simp [Value.oneCell']⟩
instance : TyOne Tryz.prog 199 := ⟨fun _ => rfl, _, rfl, rfl⟩
instance : TyZero Tryz.prog 199 [.nilFunc] := ⟨⟨_, _, rfl, rfl, rfl⟩, by simp [Value.oneCell']⟩
instance : TyOne Tryz.prog 200 := ⟨fun _ => rfl, _, rfl, rfl⟩
instance : TyZero Tryz.prog 200 [.nilFunc] := ⟨⟨_, _, rfl, rfl, rfl⟩, by simp [Value.oneCell']⟩
instance : TyOne Tryz.prog 201 := ⟨fun _ => rfl, _, rfl, rfl⟩
instance : TyZero Tryz.prog 201 [.nilFunc] := ⟨⟨_, _, rfl, rfl, rfl⟩, by simp [Value.oneCell']⟩
instance : TyOne Tryz.prog 204 := ⟨fun _ => rfl, _, rfl, rfl⟩
instance : TyZero Tryz.prog 204 [.nilFunc] := ⟨⟨_, _, rfl, rfl, rfl⟩, by simp [Value.oneCell']⟩
instance : TyAgg Tryz.prog 205 4 := ⟨fun _ => rfl, _, rfl, rfl⟩
instance : TyFld Tryz.prog 205 0 0 17 := ⟨_, _, rfl, rfl, rfl, rfl, _, rfl, by decide⟩
instance : TyFld Tryz.prog 205 1 1 17 := ⟨_, _, rfl, rfl, rfl, rfl, _, rfl, by decide⟩
instance : TyFld Tryz.prog 205 2 2 17 := ⟨_, _, rfl, rfl, rfl, rfl, _, rfl, by decide⟩
instance : TyFld Tryz.prog 205 3 3 9 := ⟨_, _, rfl, rfl, rfl, rfl, _, rfl, by decide⟩
instance : TyStr Tryz.prog 205 [(0, 1), (1, 1), (2, 1), (3, 1)] [.pointer none, .pointer none, .pointer none, .string ByteArray.empty] := ⟨⟨_, _, rfl, rfl, rfl, _, rfl, rfl⟩, by simp [Value.oneCell']⟩
instance : TyZero Tryz.prog 205 [.pointer none, .pointer none, .pointer none, .string ByteArray.empty] := ⟨⟨_, _, rfl, rfl, rfl⟩, by simp [Value.oneCell']⟩
instance : TyAgg Tryz.prog 206 4 := ⟨fun _ => rfl, _, rfl, rfl⟩
instance : TyFld Tryz.prog 206 0 0 17 := ⟨_, _, rfl, rfl, rfl, rfl, _, rfl, by decide⟩
instance : TyFld Tryz.prog 206 1 1 17 := ⟨_, _, rfl, rfl, rfl, rfl, _, rfl, by decide⟩
instance : TyFld Tryz.prog 206 2 2 17 := ⟨_, _, rfl, rfl, rfl, rfl, _, rfl, by decide⟩
instance : TyFld Tryz.prog 206 3 3 9 := ⟨_, _, rfl, rfl, rfl, rfl, _, rfl, by decide⟩
instance : TyStr Tryz.prog 206 [(0, 1), (1, 1), (2, 1), (3, 1)] [.pointer none, .pointer none, .pointer none, .string ByteArray.empty] := ⟨⟨_, _, rfl, rfl, rfl, _, rfl, rfl⟩, by simp [Value.oneCell']⟩
instance : TyZero Tryz.prog 206 [.pointer none, .pointer none, .pointer none, .string ByteArray.empty] := ⟨⟨_, _, rfl, rfl, rfl⟩, by simp [Value.oneCell']⟩
instance : TyOne Tryz.prog 210 := ⟨fun _ => rfl, _, rfl, rfl⟩
instance : TyZero Tryz.prog 210 [.int .u8 0] := ⟨⟨_, _, rfl, rfl, rfl⟩, by simp [Value.oneCell']⟩
instance : TyOne Tryz.prog 211 := ⟨fun _ => rfl, _, rfl, rfl⟩
instance : TyZero Tryz.prog 211 [.int .u8 0] := ⟨⟨_, _, rfl, rfl, rfl⟩, by simp [Value.oneCell']⟩
instance : TyOne Tryz.prog 212 := ⟨fun _ => rfl, _, rfl, rfl⟩
instance : TyZero Tryz.prog 212 [.nilFunc] := ⟨⟨_, _, rfl, rfl, rfl⟩, by simp [Value.oneCell']⟩
instance : TyOne Tryz.prog 213 := ⟨fun _ => rfl, _, rfl, rfl⟩
instance : TyZero Tryz.prog 213 [.int .i32 0] := ⟨⟨_, _, rfl, rfl, rfl⟩, by simp [Value.oneCell']⟩
instance : TyOne Tryz.prog 214 := ⟨fun _ => rfl, _, rfl, rfl⟩
instance : TyZero Tryz.prog 214 [.int .i32 0] := ⟨⟨_, _, rfl, rfl, rfl⟩, by simp [Value.oneCell']⟩
instance : TyAgg Tryz.prog 215 11 := ⟨fun _ => rfl, _, rfl, rfl⟩
instance : TyFld Tryz.prog 215 0 0 12 := ⟨_, _, rfl, rfl, rfl, rfl, _, rfl, by decide⟩
instance : TyFld Tryz.prog 215 1 1 12 := ⟨_, _, rfl, rfl, rfl, rfl, _, rfl, by decide⟩
instance : TyFld Tryz.prog 215 2 2 135 := ⟨_, _, rfl, rfl, rfl, rfl, _, rfl, by decide⟩
instance : TyFld Tryz.prog 215 3 3 210 := ⟨_, _, rfl, rfl, rfl, rfl, _, rfl, by decide⟩
instance : TyFld Tryz.prog 215 4 4 5 := ⟨_, _, rfl, rfl, rfl, rfl, _, rfl, by decide⟩
instance : TyFld Tryz.prog 215 5 5 5 := ⟨_, _, rfl, rfl, rfl, rfl, _, rfl, by decide⟩
instance : TyFld Tryz.prog 215 6 6 211 := ⟨_, _, rfl, rfl, rfl, rfl, _, rfl, by decide⟩
instance : TyFld Tryz.prog 215 7 7 212 := ⟨_, _, rfl, rfl, rfl, rfl, _, rfl, by decide⟩
instance : TyFld Tryz.prog 215 8 8 107 := ⟨_, _, rfl, rfl, rfl, rfl, _, rfl, by decide⟩
instance : TyFld Tryz.prog 215 9 9 213 := ⟨_, _, rfl, rfl, rfl, rfl, _, rfl, by decide⟩
instance : TyFld Tryz.prog 215 10 10 214 := ⟨_, _, rfl, rfl, rfl, rfl, _, rfl, by decide⟩
instance : TyStr Tryz.prog 215 [(0, 1), (1, 1), (2, 1), (3, 1), (4, 1), (5, 1), (6, 1), (7, 1), (8, 1), (9, 1), (10, 1)] [.int .u64 0, .int .u64 0, .int .u32 0, .int .u8 0, .int .u8 0, .int .u8 0, .int .u8 0, .nilFunc, .pointer none, .int .i32 0, .int .i32 0] := ⟨⟨_, _, rfl, rfl, rfl, _, rfl, rfl⟩, by simp [Value.oneCell']⟩
instance : TyZero Tryz.prog 215 [.int .u64 0, .int .u64 0, .int .u32 0, .int .u8 0, .int .u8 0, .int .u8 0, .int .u8 0, .nilFunc, .pointer none, .int .i32 0, .int .i32 0] := ⟨⟨_, _, rfl, rfl, rfl⟩, by simp [Value.oneCell']⟩
instance : TyAgg Tryz.prog 216 11 := ⟨fun _ => rfl, _, rfl, rfl⟩
instance : TyFld Tryz.prog 216 0 0 12 := ⟨_, _, rfl, rfl, rfl, rfl, _, rfl, by decide⟩
instance : TyFld Tryz.prog 216 1 1 12 := ⟨_, _, rfl, rfl, rfl, rfl, _, rfl, by decide⟩
instance : TyFld Tryz.prog 216 2 2 135 := ⟨_, _, rfl, rfl, rfl, rfl, _, rfl, by decide⟩
instance : TyFld Tryz.prog 216 3 3 210 := ⟨_, _, rfl, rfl, rfl, rfl, _, rfl, by decide⟩
instance : TyFld Tryz.prog 216 4 4 5 := ⟨_, _, rfl, rfl, rfl, rfl, _, rfl, by decide⟩
instance : TyFld Tryz.prog 216 5 5 5 := ⟨_, _, rfl, rfl, rfl, rfl, _, rfl, by decide⟩
instance : TyFld Tryz.prog 216 6 6 211 := ⟨_, _, rfl, rfl, rfl, rfl, _, rfl, by decide⟩
instance : TyFld Tryz.prog 216 7 7 212 := ⟨_, _, rfl, rfl, rfl, rfl, _, rfl, by decide⟩
instance : TyFld Tryz.prog 216 8 8 107 := ⟨_, _, rfl, rfl, rfl, rfl, _, rfl, by decide⟩
instance : TyFld Tryz.prog 216 9 9 213 := ⟨_, _, rfl, rfl, rfl, rfl, _, rfl, by decide⟩
instance : TyFld Tryz.prog 216 10 10 214 := ⟨_, _, rfl, rfl, rfl, rfl, _, rfl, by decide⟩
instance : TyStr Tryz.prog 216 [(0, 1), (1, 1), (2, 1), (3, 1), (4, 1), (5, 1), (6, 1), (7, 1), (8, 1), (9, 1), (10, 1)] [.int .u64 0, .int .u64 0, .int .u32 0, .int .u8 0, .int .u8 0, .int .u8 0, .int .u8 0, .nilFunc, .pointer none, .int .i32 0, .int .i32 0] := ⟨⟨_, _, rfl, rfl, rfl, _, rfl, rfl⟩, by simp [Value.oneCell']⟩
instance : TyZero Tryz.prog 216 [.int .u64 0, .int .u64 0, .int .u32 0, .int .u8 0, .int .u8 0, .int .u8 0, .int .u8 0, .nilFunc, .pointer none, .int .i32 0, .int .i32 0] := ⟨⟨_, _, rfl, rfl, rfl⟩, by simp [Value.oneCell']⟩
end Lg
