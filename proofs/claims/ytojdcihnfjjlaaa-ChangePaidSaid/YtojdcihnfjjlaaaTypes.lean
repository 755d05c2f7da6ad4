/- A part of the proof of a law of this seat: it adds no condition. By an AI agent. -/
import Derived.Test.YtojdcihnfjjlaaaProg
import Derived.Test.YtojdcihnfjjlaaaCore
set_option linter.all false
set_option maxRecDepth 100000
namespace Lg
open Go Go.Proofs
instance : TyOne Try.prog 1 := ⟨fun _ => rfl, _, rfl, rfl⟩
instance : TyZero Try.prog 1 [.nilFunc] := ⟨⟨_, _, rfl, rfl, rfl⟩, by simp [Value.oneCell']⟩
instance : TyOne Try.prog 2 := ⟨fun _ => rfl, _, rfl, rfl⟩
instance : TyZero Try.prog 2 [.int .i64 0] := ⟨⟨_, _, rfl, rfl, rfl⟩, by simp [Value.oneCell']⟩
instance : TyOne Try.prog 3 := ⟨fun _ => rfl, _, rfl, rfl⟩
instance : TyZero Try.prog 3 [.int .i64 0] := ⟨⟨_, _, rfl, rfl, rfl⟩, by simp [Value.oneCell']⟩
instance : TyOne Try.prog 4 := ⟨fun _ => rfl, _, rfl, rfl⟩
instance : TyZero Try.prog 4 [.bool false] := ⟨⟨_, _, rfl, rfl, rfl⟩, by simp [Value.oneCell']⟩
instance : TyOne Try.prog 5 := ⟨fun _ => rfl, _, rfl, rfl⟩
instance : TyZero Try.prog 5 [.int .u8 0] := ⟨⟨_, _, rfl, rfl, rfl⟩, by simp [Value.oneCell']⟩
instance : TyOne Try.prog 6 := ⟨fun _ => rfl, _, rfl, rfl⟩
instance : TyZero Try.prog 6 [.int .u8 0] := ⟨⟨_, _, rfl, rfl, rfl⟩, by simp [Value.oneCell']⟩
instance : TyAgg Try.prog 7 4 := ⟨fun _ => rfl, _, rfl, rfl⟩
instance : TyFld Try.prog 7 0 0 2 := ⟨_, _, rfl, rfl, rfl, rfl, _, rfl, by decide⟩
instance : TyFld Try.prog 7 1 1 3 := ⟨_, _, rfl, rfl, rfl, rfl, _, rfl, by decide⟩
instance : TyFld Try.prog 7 2 2 4 := ⟨_, _, rfl, rfl, rfl, rfl, _, rfl, by decide⟩
instance : TyFld Try.prog 7 3 3 6 := ⟨_, _, rfl, rfl, rfl, rfl, _, rfl, by decide⟩
instance : TyStr Try.prog 7 [(0, 1), (1, 1), (2, 1), (3, 1)] [.int .i64 0, .int .i64 0, .bool false, .int .u8 0] := ⟨⟨_, _, rfl, rfl, rfl, _, rfl, rfl⟩, by simp [Value.oneCell']⟩
instance : TyZero Try.prog 7 [.int .i64 0, .int .i64 0, .bool false, .int .u8 0] := ⟨⟨_, _, rfl, rfl, rfl⟩, by simp [Value.oneCell']⟩
instance : TyAgg Try.prog 8 4 := ⟨fun _ => rfl, _, rfl, rfl⟩
instance : TyFld Try.prog 8 0 0 2 := ⟨_, _, rfl, rfl, rfl, rfl, _, rfl, by decide⟩
instance : TyFld Try.prog 8 1 1 3 := ⟨_, _, rfl, rfl, rfl, rfl, _, rfl, by decide⟩
instance : TyFld Try.prog 8 2 2 4 := ⟨_, _, rfl, rfl, rfl, rfl, _, rfl, by decide⟩
instance : TyFld Try.prog 8 3 3 6 := ⟨_, _, rfl, rfl, rfl, rfl, _, rfl, by decide⟩
instance : TyStr Try.prog 8 [(0, 1), (1, 1), (2, 1), (3, 1)] [.int .i64 0, .int .i64 0, .bool false, .int .u8 0] := ⟨⟨_, _, rfl, rfl, rfl, _, rfl, rfl⟩, by simp [Value.oneCell']⟩
instance : TyZero Try.prog 8 [.int .i64 0, .int .i64 0, .bool false, .int .u8 0] := ⟨⟨_, _, rfl, rfl, rfl⟩, by simp [Value.oneCell']⟩
instance : TyOne Try.prog 9 := ⟨fun _ => rfl, _, rfl, rfl⟩
instance : TyZero Try.prog 9 [.string ByteArray.empty] := ⟨⟨_, _, rfl, rfl, rfl⟩, by simp [Value.oneCell']⟩
theorem tstr9 : Try.prog.underlying 9 = some .string := rfl
instance : TyOne Try.prog 10 := ⟨fun _ => rfl, _, rfl, rfl⟩
instance : TyZero Try.prog 10 [.string ByteArray.empty] := ⟨⟨_, _, rfl, rfl, rfl⟩, by simp [Value.oneCell']⟩
theorem tstr10 : Try.prog.underlying 10 = some .string := rfl
instance : TyOne Try.prog 11 := ⟨fun _ => rfl, _, rfl, rfl⟩
instance : TyZero Try.prog 11 [.string ByteArray.empty] := ⟨⟨_, _, rfl, rfl, rfl⟩, by simp [Value.oneCell']⟩
theorem tstr11 : Try.prog.underlying 11 = some .string := rfl
instance : TyOne Try.prog 12 := ⟨fun _ => rfl, _, rfl, rfl⟩
instance : TyZero Try.prog 12 [.int .u64 0] := ⟨⟨_, _, rfl, rfl, rfl⟩, by simp [Value.oneCell']⟩
instance : TyAgg Try.prog 13 2 := ⟨fun _ => rfl, _, rfl, rfl⟩
instance : TyFld Try.prog 13 0 0 9 := ⟨_, _, rfl, rfl, rfl, rfl, _, rfl, by decide⟩
instance : TyFld Try.prog 13 1 1 12 := ⟨_, _, rfl, rfl, rfl, rfl, _, rfl, by decide⟩
instance : TyStr Try.prog 13 [(0, 1), (1, 1)] [.string ByteArray.empty, .int .u64 0] := ⟨⟨_, _, rfl, rfl, rfl, _, rfl, rfl⟩, by simp [Value.oneCell']⟩
instance : TyZero Try.prog 13 [.string ByteArray.empty, .int .u64 0] := ⟨⟨_, _, rfl, rfl, rfl⟩, by simp [Value.oneCell']⟩
instance : TyAgg Try.prog 14 2 := ⟨fun _ => rfl, _, rfl, rfl⟩
instance : TyFld Try.prog 14 0 0 9 := ⟨_, _, rfl, rfl, rfl, rfl, _, rfl, by decide⟩
instance : TyFld Try.prog 14 1 1 12 := ⟨_, _, rfl, rfl, rfl, rfl, _, rfl, by decide⟩
instance : TyStr Try.prog 14 [(0, 1), (1, 1)] [.string ByteArray.empty, .int .u64 0] := ⟨⟨_, _, rfl, rfl, rfl, _, rfl, rfl⟩, by simp [Value.oneCell']⟩
instance : TyZero Try.prog 14 [.string ByteArray.empty, .int .u64 0] := ⟨⟨_, _, rfl, rfl, rfl⟩, by simp [Value.oneCell']⟩
instance : TyOne Try.prog 15 := ⟨fun _ => rfl, _, rfl, rfl⟩
instance : TyZero Try.prog 15 [.pointer none] := ⟨⟨_, _, rfl, rfl, rfl⟩, by simp [Value.oneCell']⟩
instance : TyOne Try.prog 16 := ⟨fun _ => rfl, _, rfl, rfl⟩
instance : TyZero Try.prog 16 [.pointer none] := ⟨⟨_, _, rfl, rfl, rfl⟩, by simp [Value.oneCell']⟩
instance : TyOne Try.prog 17 := ⟨fun _ => rfl, _, rfl, rfl⟩
instance : TyZero Try.prog 17 [.pointer none] := ⟨⟨_, _, rfl, rfl, rfl⟩, by simp [Value.oneCell']⟩
instance : TyAgg Try.prog 18 1 := ⟨fun _ => rfl, _, rfl, rfl⟩
instance : TyFld Try.prog 18 0 0 17 := ⟨_, _, rfl, rfl, rfl, rfl, _, rfl, by decide⟩
instance : TyStr Try.prog 18 [(0, 1)] [.pointer none] := ⟨⟨_, _, rfl, rfl, rfl, _, rfl, rfl⟩, by simp [Value.oneCell']⟩
instance : TyZero Try.prog 18 [.pointer none] := ⟨⟨_, _, rfl, rfl, rfl⟩, by simp [Value.oneCell']⟩
instance : TyAgg Try.prog 19 1 := ⟨fun _ => rfl, _, rfl, rfl⟩
instance : TyFld Try.prog 19 0 0 17 := ⟨_, _, rfl, rfl, rfl, rfl, _, rfl, by decide⟩
instance : TyStr Try.prog 19 [(0, 1)] [.pointer none] := ⟨⟨_, _, rfl, rfl, rfl, _, rfl, rfl⟩, by simp [Value.oneCell']⟩
instance : TyZero Try.prog 19 [.pointer none] := ⟨⟨_, _, rfl, rfl, rfl⟩, by simp [Value.oneCell']⟩
instance : TyOne Try.prog 20 := ⟨fun _ => rfl, _, rfl, rfl⟩
instance : TyZero Try.prog 20 [.nilIface] := ⟨⟨_, _, rfl, rfl, rfl⟩, by simp [Value.oneCell']⟩
instance : TyOne Try.prog 21 := ⟨fun _ => rfl, _, rfl, rfl⟩
instance : TyZero Try.prog 21 [.int .i32 0] := ⟨⟨_, _, rfl, rfl, rfl⟩, by simp [Value.oneCell']⟩
instance : TyOne Try.prog 22 := ⟨fun _ => rfl, _, rfl, rfl⟩
instance : TyZero Try.prog 22 [.slice none 0 0] := ⟨⟨_, _, rfl, rfl, rfl⟩, by simp [Value.oneCell']⟩
instance : TySl Try.prog 22 3 1 8 [.int .i64 0] := ⟨rfl, ⟨_, _, rfl, rfl, rfl, rfl, rfl, by decide⟩, rfl, by simp [Value.oneCell']⟩
instance : TyOne Try.prog 23 := ⟨fun _ => rfl, _, rfl, rfl⟩
instance : TyZero Try.prog 23 [.pointer none] := ⟨⟨_, _, rfl, rfl, rfl⟩, by simp [Value.oneCell']⟩
instance : TyAgg Try.prog 24 2 := ⟨fun _ => rfl, _, rfl, rfl⟩
instance : TyFld Try.prog 24 0 0 22 := ⟨_, _, rfl, rfl, rfl, rfl, _, rfl, by decide⟩
instance : TyFld Try.prog 24 1 1 3 := ⟨_, _, rfl, rfl, rfl, rfl, _, rfl, by decide⟩
instance : TyStr Try.prog 24 [(0, 1), (1, 1)] [.slice none 0 0, .int .i64 0] := ⟨⟨_, _, rfl, rfl, rfl, _, rfl, rfl⟩, by simp [Value.oneCell']⟩
instance : TyZero Try.prog 24 [.slice none 0 0, .int .i64 0] := ⟨⟨_, _, rfl, rfl, rfl⟩, by simp [Value.oneCell']⟩
instance : TyAgg Try.prog 25 2 := ⟨fun _ => rfl, _, rfl, rfl⟩
instance : TyFld Try.prog 25 0 0 22 := ⟨_, _, rfl, rfl, rfl, rfl, _, rfl, by decide⟩
instance : TyFld Try.prog 25 1 1 3 := ⟨_, _, rfl, rfl, rfl, rfl, _, rfl, by decide⟩
instance : TyStr Try.prog 25 [(0, 1), (1, 1)] [.slice none 0 0, .int .i64 0] := ⟨⟨_, _, rfl, rfl, rfl, _, rfl, rfl⟩, by simp [Value.oneCell']⟩
instance : TyZero Try.prog 25 [.slice none 0 0, .int .i64 0] := ⟨⟨_, _, rfl, rfl, rfl⟩, by simp [Value.oneCell']⟩
instance : TyOne Try.prog 26 := ⟨fun _ => rfl, _, rfl, rfl⟩
instance : TyZero Try.prog 26 [.slice none 0 0] := ⟨⟨_, _, rfl, rfl, rfl⟩, by simp [Value.oneCell']⟩
instance : TySl Try.prog 26 70 3 24 [.int .i64 0, .int .i64 0, .int .i64 0] := ⟨rfl, ⟨_, _, rfl, rfl, rfl, rfl, rfl, by decide⟩, rfl, by simp [Value.oneCell']⟩
instance : TyOne Try.prog 27 := ⟨fun _ => rfl, _, rfl, rfl⟩
instance : TyZero Try.prog 27 [.nilFunc] := ⟨⟨_, _, rfl, rfl, rfl⟩, by simp [Value.oneCell']⟩
instance : TyOne Try.prog 28 := ⟨fun _ => rfl, _, rfl, rfl⟩
instance : TyZero Try.prog 28 [.nilFunc] := ⟨⟨_, _, rfl, rfl, rfl⟩, by simp [Value.oneCell']⟩
instance : TyOne Try.prog 29 := ⟨fun _ => rfl, _, rfl, rfl⟩
instance : TyZero Try.prog 29 [.int .i64 0] := ⟨⟨_, _, rfl, rfl, rfl⟩, by simp [Value.oneCell']⟩
instance : TyOne Try.prog 30 := ⟨fun _ => rfl, _, rfl, rfl⟩
instance : TyZero Try.prog 30 [.nilFunc] := ⟨⟨_, _, rfl, rfl, rfl⟩, by simp [Value.oneCell']⟩
instance : TyOne Try.prog 32 := ⟨fun _ => rfl, _, rfl, rfl⟩
instance : TyZero Try.prog 32 [.nilFunc] := ⟨⟨_, _, rfl, rfl, rfl⟩, by simp [Value.oneCell']⟩
instance : TyOne Try.prog 34 := ⟨fun _ => rfl, _, rfl, rfl⟩
instance : TyZero Try.prog 34 [.nilFunc] := ⟨⟨_, _, rfl, rfl, rfl⟩, by simp [Value.oneCell']⟩
instance : TyOne Try.prog 36 := ⟨fun _ => rfl, _, rfl, rfl⟩
instance : TyZero Try.prog 36 [.nilFunc] := ⟨⟨_, _, rfl, rfl, rfl⟩, by simp [Value.oneCell']⟩
instance : TyOne Try.prog 37 := ⟨fun _ => rfl, _, rfl, rfl⟩
instance : TyZero Try.prog 37 [.nilFunc] := ⟨⟨_, _, rfl, rfl, rfl⟩, by simp [Value.oneCell']⟩
instance : TyOne Try.prog 38 := ⟨fun _ => rfl, _, rfl, rfl⟩
instance : TyZero Try.prog 38 [.nilFunc] := ⟨⟨_, _, rfl, rfl, rfl⟩, by simp [Value.oneCell']⟩
instance : TyOne Try.prog 39 := ⟨fun _ => rfl, _, rfl, rfl⟩
instance : TyZero Try.prog 39 [.nilFunc] := ⟨⟨_, _, rfl, rfl, rfl⟩, by simp [Value.oneCell']⟩
instance : TyOne Try.prog 41 := ⟨fun _ => rfl, _, rfl, rfl⟩
instance : TyZero Try.prog 41 [.nilFunc] := ⟨⟨_, _, rfl, rfl, rfl⟩, by simp [Value.oneCell']⟩
instance : TyOne Try.prog 42 := ⟨fun _ => rfl, _, rfl, rfl⟩
instance : TyZero Try.prog 42 [.nilFunc] := ⟨⟨_, _, rfl, rfl, rfl⟩, by simp [Value.oneCell']⟩
instance : TyOne Try.prog 43 := ⟨fun _ => rfl, _, rfl, rfl⟩
instance : TyZero Try.prog 43 [.nilFunc] := ⟨⟨_, _, rfl, rfl, rfl⟩, by simp [Value.oneCell']⟩
instance : TyOne Try.prog 44 := ⟨fun _ => rfl, _, rfl, rfl⟩
instance : TyZero Try.prog 44 [.nilFunc] := ⟨⟨_, _, rfl, rfl, rfl⟩, by simp [Value.oneCell']⟩
instance : TyOne Try.prog 45 := ⟨fun _ => rfl, _, rfl, rfl⟩
instance : TyZero Try.prog 45 [.slice none 0 0] := ⟨⟨_, _, rfl, rfl, rfl⟩, by simp [Value.oneCell']⟩
instance : TySl Try.prog 45 53 2 16 [.int .i64 0, .int .i64 0] := ⟨rfl, ⟨_, _, rfl, rfl, rfl, rfl, rfl, by decide⟩, rfl, by simp [Value.oneCell']⟩
instance : TyOne Try.prog 47 := ⟨fun _ => rfl, _, rfl, rfl⟩
instance : TyZero Try.prog 47 [.nilFunc] := ⟨⟨_, _, rfl, rfl, rfl⟩, by simp [Value.oneCell']⟩
instance : TyOne Try.prog 49 := ⟨fun _ => rfl, _, rfl, rfl⟩
instance : TyZero Try.prog 49 [.nilFunc] := ⟨⟨_, _, rfl, rfl, rfl⟩, by simp [Value.oneCell']⟩
instance : TyOne Try.prog 50 := ⟨fun _ => rfl, _, rfl, rfl⟩
instance : TyZero Try.prog 50 [.nilFunc] := ⟨⟨_, _, rfl, rfl, rfl⟩, by simp [Value.oneCell']⟩
instance : TyOne Try.prog 51 := ⟨fun _ => rfl, _, rfl, rfl⟩
instance : TyZero Try.prog 51 [.nilFunc] := ⟨⟨_, _, rfl, rfl, rfl⟩, by simp [Value.oneCell']⟩
instance : TyAgg Try.prog 52 2 := ⟨fun _ => rfl, _, rfl, rfl⟩
instance : TyFld Try.prog 52 0 0 3 := ⟨_, _, rfl, rfl, rfl, rfl, _, rfl, by decide⟩
instance : TyFld Try.prog 52 1 1 3 := ⟨_, _, rfl, rfl, rfl, rfl, _, rfl, by decide⟩
instance : TyStr Try.prog 52 [(0, 1), (1, 1)] [.int .i64 0, .int .i64 0] := ⟨⟨_, _, rfl, rfl, rfl, _, rfl, rfl⟩, by simp [Value.oneCell']⟩
instance : TyZero Try.prog 52 [.int .i64 0, .int .i64 0] := ⟨⟨_, _, rfl, rfl, rfl⟩, by simp [Value.oneCell']⟩
instance : TyAgg Try.prog 53 2 := ⟨fun _ => rfl, _, rfl, rfl⟩
instance : TyFld Try.prog 53 0 0 3 := ⟨_, _, rfl, rfl, rfl, rfl, _, rfl, by decide⟩
instance : TyFld Try.prog 53 1 1 3 := ⟨_, _, rfl, rfl, rfl, rfl, _, rfl, by decide⟩
instance : TyStr Try.prog 53 [(0, 1), (1, 1)] [.int .i64 0, .int .i64 0] := ⟨⟨_, _, rfl, rfl, rfl, _, rfl, rfl⟩, by simp [Value.oneCell']⟩
instance : TyZero Try.prog 53 [.int .i64 0, .int .i64 0] := ⟨⟨_, _, rfl, rfl, rfl⟩, by simp [Value.oneCell']⟩
instance : TyOne Try.prog 54 := ⟨fun _ => rfl, _, rfl, rfl⟩
instance : TyZero Try.prog 54 [.nilFunc] := ⟨⟨_, _, rfl, rfl, rfl⟩, by simp [Value.oneCell']⟩
instance : TyOne Try.prog 56 := ⟨fun _ => rfl, _, rfl, rfl⟩
instance : TyZero Try.prog 56 [.nilFunc] := ⟨⟨_, _, rfl, rfl, rfl⟩, by simp [Value.oneCell']⟩
instance : TyOne Try.prog 57 := ⟨fun _ => rfl, _, rfl, rfl⟩
instance : TyZero Try.prog 57 [.nilFunc] := ⟨⟨_, _, rfl, rfl, rfl⟩, by simp [Value.oneCell']⟩
instance : TyOne Try.prog 58 := ⟨fun _ => rfl, _, rfl, rfl⟩
instance : TyZero Try.prog 58 [.nilFunc] := ⟨⟨_, _, rfl, rfl, rfl⟩, by simp [Value.oneCell']⟩
instance : TyOne Try.prog 60 := ⟨fun _ => rfl, _, rfl, rfl⟩
instance : TyZero Try.prog 60 [.nilFunc] := ⟨⟨_, _, rfl, rfl, rfl⟩, by simp [Value.oneCell']⟩
instance : TyOne Try.prog 61 := ⟨fun _ => rfl, _, rfl, rfl⟩
instance : TyZero Try.prog 61 [.slice none 0 0] := ⟨⟨_, _, rfl, rfl, rfl⟩, by simp [Value.oneCell']⟩
instance : TySl Try.prog 61 73 2 16 [.int .i64 0, .int .i64 0] := ⟨rfl, ⟨_, _, rfl, rfl, rfl, rfl, rfl, by decide⟩, rfl, by simp [Value.oneCell']⟩
instance : TyOne Try.prog 63 := ⟨fun _ => rfl, _, rfl, rfl⟩
instance : TyZero Try.prog 63 [.nilFunc] := ⟨⟨_, _, rfl, rfl, rfl⟩, by simp [Value.oneCell']⟩
instance : TyOne Try.prog 64 := ⟨fun _ => rfl, _, rfl, rfl⟩
instance : TyZero Try.prog 64 [.nilFunc] := ⟨⟨_, _, rfl, rfl, rfl⟩, by simp [Value.oneCell']⟩
instance : TyOne Try.prog 65 := ⟨fun _ => rfl, _, rfl, rfl⟩
instance : TyZero Try.prog 65 [.nilFunc] := ⟨⟨_, _, rfl, rfl, rfl⟩, by simp [Value.oneCell']⟩
instance : TyOne Try.prog 67 := ⟨fun _ => rfl, _, rfl, rfl⟩
instance : TyZero Try.prog 67 [.nilFunc] := ⟨⟨_, _, rfl, rfl, rfl⟩, by simp [Value.oneCell']⟩
instance : TyOne Try.prog 68 := ⟨fun _ => rfl, _, rfl, rfl⟩
instance : TyZero Try.prog 68 [.nilFunc] := ⟨⟨_, _, rfl, rfl, rfl⟩, by simp [Value.oneCell']⟩
instance : TyAgg Try.prog 69 3 := ⟨fun _ => rfl, _, rfl, rfl⟩
instance : TyFld Try.prog 69 0 0 3 := ⟨_, _, rfl, rfl, rfl, rfl, _, rfl, by decide⟩
instance : TyFld Try.prog 69 1 1 3 := ⟨_, _, rfl, rfl, rfl, rfl, _, rfl, by decide⟩
instance : TyFld Try.prog 69 2 2 3 := ⟨_, _, rfl, rfl, rfl, rfl, _, rfl, by decide⟩
instance : TyStr Try.prog 69 [(0, 1), (1, 1), (2, 1)] [.int .i64 0, .int .i64 0, .int .i64 0] := ⟨⟨_, _, rfl, rfl, rfl, _, rfl, rfl⟩, by simp [Value.oneCell']⟩
instance : TyZero Try.prog 69 [.int .i64 0, .int .i64 0, .int .i64 0] := ⟨⟨_, _, rfl, rfl, rfl⟩, by simp [Value.oneCell']⟩
instance : TyAgg Try.prog 70 3 := ⟨fun _ => rfl, _, rfl, rfl⟩
instance : TyFld Try.prog 70 0 0 3 := ⟨_, _, rfl, rfl, rfl, rfl, _, rfl, by decide⟩
instance : TyFld Try.prog 70 1 1 3 := ⟨_, _, rfl, rfl, rfl, rfl, _, rfl, by decide⟩
instance : TyFld Try.prog 70 2 2 3 := ⟨_, _, rfl, rfl, rfl, rfl, _, rfl, by decide⟩
instance : TyStr Try.prog 70 [(0, 1), (1, 1), (2, 1)] [.int .i64 0, .int .i64 0, .int .i64 0] := ⟨⟨_, _, rfl, rfl, rfl, _, rfl, rfl⟩, by simp [Value.oneCell']⟩
instance : TyZero Try.prog 70 [.int .i64 0, .int .i64 0, .int .i64 0] := ⟨⟨_, _, rfl, rfl, rfl⟩, by simp [Value.oneCell']⟩
instance : TyOne Try.prog 71 := ⟨fun _ => rfl, _, rfl, rfl⟩
instance : TyZero Try.prog 71 [.nilFunc] := ⟨⟨_, _, rfl, rfl, rfl⟩, by simp [Value.oneCell']⟩
instance : TyAgg Try.prog 72 2 := ⟨fun _ => rfl, _, rfl, rfl⟩
instance : TyFld Try.prog 72 0 0 3 := ⟨_, _, rfl, rfl, rfl, rfl, _, rfl, by decide⟩
instance : TyFld Try.prog 72 1 1 3 := ⟨_, _, rfl, rfl, rfl, rfl, _, rfl, by decide⟩
instance : TyStr Try.prog 72 [(0, 1), (1, 1)] [.int .i64 0, .int .i64 0] := ⟨⟨_, _, rfl, rfl, rfl, _, rfl, rfl⟩, by simp [Value.oneCell']⟩
instance : TyZero Try.prog 72 [.int .i64 0, .int .i64 0] := ⟨⟨_, _, rfl, rfl, rfl⟩, by simp [Value.oneCell']⟩
instance : TyAgg Try.prog 73 2 := ⟨fun _ => rfl, _, rfl, rfl⟩
instance : TyFld Try.prog 73 0 0 3 := ⟨_, _, rfl, rfl, rfl, rfl, _, rfl, by decide⟩
instance : TyFld Try.prog 73 1 1 3 := ⟨_, _, rfl, rfl, rfl, rfl, _, rfl, by decide⟩
instance : TyStr Try.prog 73 [(0, 1), (1, 1)] [.int .i64 0, .int .i64 0] := ⟨⟨_, _, rfl, rfl, rfl, _, rfl, rfl⟩, by simp [Value.oneCell']⟩
instance : TyZero Try.prog 73 [.int .i64 0, .int .i64 0] := ⟨⟨_, _, rfl, rfl, rfl⟩, by simp [Value.oneCell']⟩
instance : TyOne Try.prog 74 := ⟨fun _ => rfl, _, rfl, rfl⟩
instance : TyZero Try.prog 74 [.nilFunc] := ⟨⟨_, _, rfl, rfl, rfl⟩, by simp [Value.oneCell']⟩
instance : TyOne Try.prog 75 := ⟨fun _ => rfl, _, rfl, rfl⟩
instance : TyZero Try.prog 75 [.nilFunc] := ⟨⟨_, _, rfl, rfl, rfl⟩, by simp [Value.oneCell']⟩
instance : TyOne Try.prog 76 := ⟨fun _ => rfl, _, rfl, rfl⟩
instance : TyZero Try.prog 76 [.nilFunc] := ⟨⟨_, _, rfl, rfl, rfl⟩, by simp [Value.oneCell']⟩
instance : TyOne Try.prog 77 := ⟨fun _ => rfl, _, rfl, rfl⟩
instance : TyZero Try.prog 77 [.nilFunc] := ⟨⟨_, _, rfl, rfl, rfl⟩, by simp [Value.oneCell']⟩
instance : TyOne Try.prog 78 := ⟨fun _ => rfl, _, rfl, rfl⟩
instance : TyZero Try.prog 78 [.nilFunc] := ⟨⟨_, _, rfl, rfl, rfl⟩, by simp [Value.oneCell']⟩
instance : TyOne Try.prog 80 := ⟨fun _ => rfl, _, rfl, rfl⟩
instance : TyZero Try.prog 80 [.nilFunc] := ⟨⟨_, _, rfl, rfl, rfl⟩, by simp [Value.oneCell']⟩
instance : TyOne Try.prog 81 := ⟨fun _ => rfl, _, rfl, rfl⟩
instance : TyZero Try.prog 81 [.slice none 0 0] := ⟨⟨_, _, rfl, rfl, rfl⟩, by simp [Value.oneCell']⟩
instance : TySl Try.prog 81 22 1 24 [.slice none 0 0] := ⟨rfl, ⟨_, _, rfl, rfl, rfl, rfl, rfl, by decide⟩, rfl, by simp [Value.oneCell']⟩
instance : TyOne Try.prog 82 := ⟨fun _ => rfl, _, rfl, rfl⟩
instance : TyZero Try.prog 82 [.slice none 0 0] := ⟨⟨_, _, rfl, rfl, rfl⟩, by simp [Value.oneCell']⟩
instance : TySl Try.prog 82 4 1 1 [.bool false] := ⟨rfl, ⟨_, _, rfl, rfl, rfl, rfl, rfl, by decide⟩, rfl, by simp [Value.oneCell']⟩
instance : TyOne Try.prog 83 := ⟨fun _ => rfl, _, rfl, rfl⟩
instance : TyZero Try.prog 83 [.nilFunc] := ⟨⟨_, _, rfl, rfl, rfl⟩, by simp [Value.oneCell']⟩
instance : TyOne Try.prog 84 := ⟨fun _ => rfl, _, rfl, rfl⟩
instance : TyZero Try.prog 84 [.slice none 0 0] := ⟨⟨_, _, rfl, rfl, rfl⟩, by simp [Value.oneCell']⟩
instance : TySl Try.prog 84 29 1 8 [.int .i64 0] := ⟨rfl, ⟨_, _, rfl, rfl, rfl, rfl, rfl, by decide⟩, rfl, by simp [Value.oneCell']⟩
instance : TyOne Try.prog 85 := ⟨fun _ => rfl, _, rfl, rfl⟩
instance : TyZero Try.prog 85 [.nilFunc] := ⟨⟨_, _, rfl, rfl, rfl⟩, by simp [Value.oneCell']⟩
instance : TyOne Try.prog 86 := ⟨fun _ => rfl, _, rfl, rfl⟩
instance : TyZero Try.prog 86 [.nilFunc] := ⟨⟨_, _, rfl, rfl, rfl⟩, by simp [Value.oneCell']⟩
instance : TyOne Try.prog 87 := ⟨fun _ => rfl, _, rfl, rfl⟩
instance : TyZero Try.prog 87 [.nilFunc] := ⟨⟨_, _, rfl, rfl, rfl⟩, by simp [Value.oneCell']⟩
instance : TyOne Try.prog 88 := ⟨fun _ => rfl, _, rfl, rfl⟩
instance : TyZero Try.prog 88 [.nilFunc] := ⟨⟨_, _, rfl, rfl, rfl⟩, by simp [Value.oneCell']⟩
instance : TyOne Try.prog 89 := ⟨fun _ => rfl, _, rfl, rfl⟩
instance : TyZero Try.prog 89 [.nilFunc] := ⟨⟨_, _, rfl, rfl, rfl⟩, by simp [Value.oneCell']⟩
instance : TyOne Try.prog 90 := ⟨fun _ => rfl, _, rfl, rfl⟩
instance : TyZero Try.prog 90 [.nilFunc] := ⟨⟨_, _, rfl, rfl, rfl⟩, by simp [Value.oneCell']⟩
instance : TyOne Try.prog 91 := ⟨fun _ => rfl, _, rfl, rfl⟩
instance : TyZero Try.prog 91 [.nilFunc] := ⟨⟨_, _, rfl, rfl, rfl⟩, by simp [Value.oneCell']⟩
instance : TyOne Try.prog 92 := ⟨fun _ => rfl, _, rfl, rfl⟩
instance : TyZero Try.prog 92 [.nilFunc] := ⟨⟨_, _, rfl, rfl, rfl⟩, by simp [Value.oneCell']⟩
instance : TyOne Try.prog 93 := ⟨fun _ => rfl, _, rfl, rfl⟩
instance : TyZero Try.prog 93 [.nilFunc] := ⟨⟨_, _, rfl, rfl, rfl⟩, by simp [Value.oneCell']⟩
instance : TyOne Try.prog 94 := ⟨fun _ => rfl, _, rfl, rfl⟩
instance : TyZero Try.prog 94 [.nilFunc] := ⟨⟨_, _, rfl, rfl, rfl⟩, by simp [Value.oneCell']⟩
instance : TyOne Try.prog 95 := ⟨fun _ => rfl, _, rfl, rfl⟩
instance : TyZero Try.prog 95 [.nilFunc] := ⟨⟨_, _, rfl, rfl, rfl⟩, by simp [Value.oneCell']⟩
instance : TyOne Try.prog 96 := ⟨fun _ => rfl, _, rfl, rfl⟩
instance : TyZero Try.prog 96 [.nilFunc] := ⟨⟨_, _, rfl, rfl, rfl⟩, by simp [Value.oneCell']⟩
instance : TyOne Try.prog 97 := ⟨fun _ => rfl, _, rfl, rfl⟩
instance : TyZero Try.prog 97 [.nilFunc] := ⟨⟨_, _, rfl, rfl, rfl⟩, by simp [Value.oneCell']⟩
instance : TyOne Try.prog 98 := ⟨fun _ => rfl, _, rfl, rfl⟩
instance : TyZero Try.prog 98 [.nilFunc] := ⟨⟨_, _, rfl, rfl, rfl⟩, by simp [Value.oneCell']⟩
instance : TyOne Try.prog 99 := ⟨fun _ => rfl, _, rfl, rfl⟩
instance : TyZero Try.prog 99 [.nilFunc] := ⟨⟨_, _, rfl, rfl, rfl⟩, by simp [Value.oneCell']⟩
instance : TyOne Try.prog 100 := ⟨fun _ => rfl, _, rfl, rfl⟩
instance : TyZero Try.prog 100 [.nilFunc] := ⟨⟨_, _, rfl, rfl, rfl⟩, by simp [Value.oneCell']⟩
instance : TyOne Try.prog 101 := ⟨fun _ => rfl, _, rfl, rfl⟩
instance : TyZero Try.prog 101 [.nilFunc] := ⟨⟨_, _, rfl, rfl, rfl⟩, by simp [Value.oneCell']⟩
instance : TyOne Try.prog 102 := ⟨fun _ => rfl, _, rfl, rfl⟩
instance : TyZero Try.prog 102 [.nilFunc] := ⟨⟨_, _, rfl, rfl, rfl⟩, by simp [Value.oneCell']⟩
instance : TyOne Try.prog 103 := ⟨fun _ => rfl, _, rfl, rfl⟩
instance : TyZero Try.prog 103 [.nilFunc] := ⟨⟨_, _, rfl, rfl, rfl⟩, by simp [Value.oneCell']⟩
instance : TyOne Try.prog 104 := ⟨fun _ => rfl, _, rfl, rfl⟩
instance : TyZero Try.prog 104 [.int .u64 0] := ⟨⟨_, _, rfl, rfl, rfl⟩, by simp [Value.oneCell']⟩
instance : TyOne Try.prog 105 := ⟨fun _ => rfl, _, rfl, rfl⟩
instance : TyZero Try.prog 105 [.nilFunc] := ⟨⟨_, _, rfl, rfl, rfl⟩, by simp [Value.oneCell']⟩
instance : TyOne Try.prog 106 := ⟨fun _ => rfl, _, rfl, rfl⟩
instance : TyZero Try.prog 106 [.nilFunc] := ⟨⟨_, _, rfl, rfl, rfl⟩, by simp [Value.oneCell']⟩
instance : TyOne Try.prog 107 := ⟨fun _ => rfl, _, rfl, rfl⟩
instance : TyZero Try.prog 107 [.nilFunc] := ⟨⟨_, _, rfl, rfl, rfl⟩, by simp [Value.oneCell']⟩
instance : TyOne Try.prog 108 := ⟨fun _ => rfl, _, rfl, rfl⟩
instance : TyZero Try.prog 108 [.nilFunc] := ⟨⟨_, _, rfl, rfl, rfl⟩, by simp [Value.oneCell']⟩
instance : TyOne Try.prog 109 := ⟨fun _ => rfl, _, rfl, rfl⟩
instance : TyZero Try.prog 109 [.int .i64 0] := ⟨⟨_, _, rfl, rfl, rfl⟩, by simp [Value.oneCell']⟩
instance : TyOne Try.prog 111 := ⟨fun _ => rfl, _, rfl, rfl⟩
instance : TyZero Try.prog 111 [.nilFunc] := ⟨⟨_, _, rfl, rfl, rfl⟩, by simp [Value.oneCell']⟩
instance : TyOne Try.prog 112 := ⟨fun _ => rfl, _, rfl, rfl⟩
instance : TyZero Try.prog 112 [.nilFunc] := ⟨⟨_, _, rfl, rfl, rfl⟩, by simp [Value.oneCell']⟩
instance : TyOne Try.prog 113 := ⟨fun _ => rfl, _, rfl, rfl⟩
instance : TyZero Try.prog 113 [.nilFunc] := ⟨⟨_, _, rfl, rfl, rfl⟩, by simp [Value.oneCell']⟩
instance : TyOne Try.prog 114 := ⟨fun _ => rfl, _, rfl, rfl⟩
instance : TyZero Try.prog 114 [.nilFunc] := ⟨⟨_, _, rfl, rfl, rfl⟩, by simp [Value.oneCell']⟩
instance : TyOne Try.prog 115 := ⟨fun _ => rfl, _, rfl, rfl⟩
instance : TyZero Try.prog 115 [.nilFunc] := ⟨⟨_, _, rfl, rfl, rfl⟩, by simp [Value.oneCell']⟩
instance : TyOne Try.prog 116 := ⟨fun _ => rfl, _, rfl, rfl⟩
instance : TyZero Try.prog 116 [.int .u32 0] := ⟨⟨_, _, rfl, rfl, rfl⟩, by simp [Value.oneCell']⟩
instance : TyOne Try.prog 117 := ⟨fun _ => rfl, _, rfl, rfl⟩
instance : TyZero Try.prog 117 [.nilFunc] := ⟨⟨_, _, rfl, rfl, rfl⟩, by simp [Value.oneCell']⟩
instance : TyOne Try.prog 118 := ⟨fun _ => rfl, _, rfl, rfl⟩
instance : TyZero Try.prog 118 [.int .u64 0] := ⟨⟨_, _, rfl, rfl, rfl⟩, by simp [Value.oneCell']⟩
instance : TyOne Try.prog 119 := ⟨fun _ => rfl, _, rfl, rfl⟩
instance : TyZero Try.prog 119 [.slice none 0 0] := ⟨⟨_, _, rfl, rfl, rfl⟩, by simp [Value.oneCell']⟩
instance : TySl Try.prog 119 121 2 16 [.int .i64 0, .int .i64 0] := ⟨rfl, ⟨_, _, rfl, rfl, rfl, rfl, rfl, by decide⟩, rfl, by simp [Value.oneCell']⟩
instance : TyAgg Try.prog 120 2 := ⟨fun _ => rfl, _, rfl, rfl⟩
instance : TyFld Try.prog 120 0 0 3 := ⟨_, _, rfl, rfl, rfl, rfl, _, rfl, by decide⟩
instance : TyFld Try.prog 120 1 1 3 := ⟨_, _, rfl, rfl, rfl, rfl, _, rfl, by decide⟩
instance : TyStr Try.prog 120 [(0, 1), (1, 1)] [.int .i64 0, .int .i64 0] := ⟨⟨_, _, rfl, rfl, rfl, _, rfl, rfl⟩, by simp [Value.oneCell']⟩
instance : TyZero Try.prog 120 [.int .i64 0, .int .i64 0] := ⟨⟨_, _, rfl, rfl, rfl⟩, by simp [Value.oneCell']⟩
instance : TyAgg Try.prog 121 2 := ⟨fun _ => rfl, _, rfl, rfl⟩
instance : TyFld Try.prog 121 0 0 3 := ⟨_, _, rfl, rfl, rfl, rfl, _, rfl, by decide⟩
instance : TyFld Try.prog 121 1 1 3 := ⟨_, _, rfl, rfl, rfl, rfl, _, rfl, by decide⟩
instance : TyStr Try.prog 121 [(0, 1), (1, 1)] [.int .i64 0, .int .i64 0] := ⟨⟨_, _, rfl, rfl, rfl, _, rfl, rfl⟩, by simp [Value.oneCell']⟩
instance : TyZero Try.prog 121 [.int .i64 0, .int .i64 0] := ⟨⟨_, _, rfl, rfl, rfl⟩, by simp [Value.oneCell']⟩
instance : TyOne Try.prog 122 := ⟨fun _ => rfl, _, rfl, rfl⟩
instance : TyZero Try.prog 122 [.nilFunc] := ⟨⟨_, _, rfl, rfl, rfl⟩, by simp [Value.oneCell']⟩
instance : TyOne Try.prog 123 := ⟨fun _ => rfl, _, rfl, rfl⟩
instance : TyZero Try.prog 123 [.nilFunc] := ⟨⟨_, _, rfl, rfl, rfl⟩, by simp [Value.oneCell']⟩
instance : TyOne Try.prog 124 := ⟨fun _ => rfl, _, rfl, rfl⟩
instance : TyZero Try.prog 124 [.nilFunc] := ⟨⟨_, _, rfl, rfl, rfl⟩, by simp [Value.oneCell']⟩
instance : TyOne Try.prog 125 := ⟨fun _ => rfl, _, rfl, rfl⟩
instance : TyZero Try.prog 125 [.nilFunc] := ⟨⟨_, _, rfl, rfl, rfl⟩, by simp [Value.oneCell']⟩
instance : TyOne Try.prog 126 := ⟨fun _ => rfl, _, rfl, rfl⟩
instance : TyZero Try.prog 126 [.nilFunc] := ⟨⟨_, _, rfl, rfl, rfl⟩, by simp [Value.oneCell']⟩
instance : TyOne Try.prog 127 := ⟨fun _ => rfl, _, rfl, rfl⟩
instance : TyZero Try.prog 127 [.nilFunc] := ⟨⟨_, _, rfl, rfl, rfl⟩, by simp [Value.oneCell']⟩
instance : TyOne Try.prog 128 := ⟨fun _ => rfl, _, rfl, rfl⟩
instance : TyZero Try.prog 128 [.int .u64 0] := ⟨⟨_, _, rfl, rfl, rfl⟩, by simp [Value.oneCell']⟩
instance : TyOne Try.prog 129 := ⟨fun _ => rfl, _, rfl, rfl⟩
instance : TyZero Try.prog 129 [.nilFunc] := ⟨⟨_, _, rfl, rfl, rfl⟩, by simp [Value.oneCell']⟩
instance : TyOne Try.prog 130 := ⟨fun _ => rfl, _, rfl, rfl⟩
instance : TyZero Try.prog 130 [.nilFunc] := ⟨⟨_, _, rfl, rfl, rfl⟩, by simp [Value.oneCell']⟩
instance : TyOne Try.prog 131 := ⟨fun _ => rfl, _, rfl, rfl⟩
instance : TyZero Try.prog 131 [.nilFunc] := ⟨⟨_, _, rfl, rfl, rfl⟩, by simp [Value.oneCell']⟩
instance : TyOne Try.prog 132 := ⟨fun _ => rfl, _, rfl, rfl⟩
instance : TyZero Try.prog 132 [.pointer none] := ⟨⟨_, _, rfl, rfl, rfl⟩, by simp [Value.oneCell']⟩
instance : TyOne Try.prog 133 := ⟨fun _ => rfl, _, rfl, rfl⟩
instance : TyZero Try.prog 133 [.nilFunc] := ⟨⟨_, _, rfl, rfl, rfl⟩, by simp [Value.oneCell']⟩
instance : TyOne Try.prog 134 := ⟨fun _ => rfl, _, rfl, rfl⟩
instance : TyZero Try.prog 134 [.nilFunc] := ⟨⟨_, _, rfl, rfl, rfl⟩, by simp [Value.oneCell']⟩
instance : TyOne Try.prog 135 := ⟨fun _ => rfl, _, rfl, rfl⟩
instance : TyZero Try.prog 135 [.nilFunc] := ⟨⟨_, _, rfl, rfl, rfl⟩, by simp [Value.oneCell']⟩
instance : TyOne Try.prog 136 := ⟨fun _ => rfl, _, rfl, rfl⟩
instance : TyZero Try.prog 136 [.pointer none] := ⟨⟨_, _, rfl, rfl, rfl⟩, by simp [Value.oneCell']⟩
instance : TyOne Try.prog 138 := ⟨fun _ => rfl, _, rfl, rfl⟩
instance : TyZero Try.prog 138 [.nilFunc] := ⟨⟨_, _, rfl, rfl, rfl⟩, by simp [Value.oneCell']⟩
instance : TyOne Try.prog 139 := ⟨fun _ => rfl, _, rfl, rfl⟩
instance : TyZero Try.prog 139 [.nilFunc] := ⟨⟨_, _, rfl, rfl, rfl⟩, by simp [Value.oneCell']⟩
instance : TyOne Try.prog 140 := ⟨fun _ => rfl, _, rfl, rfl⟩
instance : TyZero Try.prog 140 [.nilFunc] := ⟨⟨_, _, rfl, rfl, rfl⟩, by simp [Value.oneCell']⟩
instance : TyAgg Try.prog 141 4 := ⟨fun _ => rfl, _, rfl, rfl⟩
instance : TyFld Try.prog 141 0 0 17 := ⟨_, _, rfl, rfl, rfl, rfl, _, rfl, by decide⟩
instance : TyFld Try.prog 141 1 1 17 := ⟨_, _, rfl, rfl, rfl, rfl, _, rfl, by decide⟩
instance : TyFld Try.prog 141 2 2 17 := ⟨_, _, rfl, rfl, rfl, rfl, _, rfl, by decide⟩
instance : TyFld Try.prog 141 3 3 9 := ⟨_, _, rfl, rfl, rfl, rfl, _, rfl, by decide⟩
instance : TyStr Try.prog 141 [(0, 1), (1, 1), (2, 1), (3, 1)] [.pointer none, .pointer none, .pointer none, .string ByteArray.empty] := ⟨⟨_, _, rfl, rfl, rfl, _, rfl, rfl⟩, by simp [Value.oneCell']⟩
instance : TyZero Try.prog 141 [.pointer none, .pointer none, .pointer none, .string ByteArray.empty] := ⟨⟨_, _, rfl, rfl, rfl⟩, by simp [Value.oneCell']⟩
instance : TyAgg Try.prog 142 4 := ⟨fun _ => rfl, _, rfl, rfl⟩
instance : TyFld Try.prog 142 0 0 17 := ⟨_, _, rfl, rfl, rfl, rfl, _, rfl, by decide⟩
instance : TyFld Try.prog 142 1 1 17 := ⟨_, _, rfl, rfl, rfl, rfl, _, rfl, by decide⟩
instance : TyFld Try.prog 142 2 2 17 := ⟨_, _, rfl, rfl, rfl, rfl, _, rfl, by decide⟩
instance : TyFld Try.prog 142 3 3 9 := ⟨_, _, rfl, rfl, rfl, rfl, _, rfl, by decide⟩
instance : TyStr Try.prog 142 [(0, 1), (1, 1), (2, 1), (3, 1)] [.pointer none, .pointer none, .pointer none, .string ByteArray.empty] := ⟨⟨_, _, rfl, rfl, rfl, _, rfl, rfl⟩, by simp [Value.oneCell']⟩
instance : TyZero Try.prog 142 [.pointer none, .pointer none, .pointer none, .string ByteArray.empty] := ⟨⟨_, _, rfl, rfl, rfl⟩, by simp [Value.oneCell']⟩
instance : TyOne Try.prog 146 := ⟨fun _ => rfl, _, rfl, rfl⟩
instance : TyZero Try.prog 146 [.int .u8 0] := ⟨⟨_, _, rfl, rfl, rfl⟩, by simp [Value.oneCell']⟩
instance : TyOne Try.prog 147 := ⟨fun _ => rfl, _, rfl, rfl⟩
instance : TyZero Try.prog 147 [.int .u8 0] := ⟨⟨_, _, rfl, rfl, rfl⟩, by simp [Value.oneCell']⟩
instance : TyOne Try.prog 148 := ⟨fun _ => rfl, _, rfl, rfl⟩
instance : TyZero Try.prog 148 [.nilFunc] := ⟨⟨_, _, rfl, rfl, rfl⟩, by simp [Value.oneCell']⟩
instance : TyOne Try.prog 149 := ⟨fun _ => rfl, _, rfl, rfl⟩
instance : TyZero Try.prog 149 [.pointer none] := ⟨⟨_, _, rfl, rfl, rfl⟩, by simp [Value.oneCell']⟩
instance : TyOne Try.prog 150 := ⟨fun _ => rfl, _, rfl, rfl⟩
instance : TyZero Try.prog 150 [.int .i32 0] := ⟨⟨_, _, rfl, rfl, rfl⟩, by simp [Value.oneCell']⟩
instance : TyOne Try.prog 151 := ⟨fun _ => rfl, _, rfl, rfl⟩
instance : TyZero Try.prog 151 [.int .i32 0] := ⟨⟨_, _, rfl, rfl, rfl⟩, by simp [Value.oneCell']⟩
instance : TyAgg Try.prog 152 11 := ⟨fun _ => rfl, _, rfl, rfl⟩
instance : TyFld Try.prog 152 0 0 12 := ⟨_, _, rfl, rfl, rfl, rfl, _, rfl, by decide⟩
instance : TyFld Try.prog 152 1 1 12 := ⟨_, _, rfl, rfl, rfl, rfl, _, rfl, by decide⟩
instance : TyFld Try.prog 152 2 2 116 := ⟨_, _, rfl, rfl, rfl, rfl, _, rfl, by decide⟩
instance : TyFld Try.prog 152 3 3 146 := ⟨_, _, rfl, rfl, rfl, rfl, _, rfl, by decide⟩
instance : TyFld Try.prog 152 4 4 5 := ⟨_, _, rfl, rfl, rfl, rfl, _, rfl, by decide⟩
instance : TyFld Try.prog 152 5 5 5 := ⟨_, _, rfl, rfl, rfl, rfl, _, rfl, by decide⟩
instance : TyFld Try.prog 152 6 6 147 := ⟨_, _, rfl, rfl, rfl, rfl, _, rfl, by decide⟩
instance : TyFld Try.prog 152 7 7 148 := ⟨_, _, rfl, rfl, rfl, rfl, _, rfl, by decide⟩
instance : TyFld Try.prog 152 8 8 149 := ⟨_, _, rfl, rfl, rfl, rfl, _, rfl, by decide⟩
instance : TyFld Try.prog 152 9 9 150 := ⟨_, _, rfl, rfl, rfl, rfl, _, rfl, by decide⟩
instance : TyFld Try.prog 152 10 10 151 := ⟨_, _, rfl, rfl, rfl, rfl, _, rfl, by decide⟩
instance : TyStr Try.prog 152 [(0, 1), (1, 1), (2, 1), (3, 1), (4, 1), (5, 1), (6, 1), (7, 1), (8, 1), (9, 1), (10, 1)] [.int .u64 0, .int .u64 0, .int .u32 0, .int .u8 0, .int .u8 0, .int .u8 0, .int .u8 0, .nilFunc, .pointer none, .int .i32 0, .int .i32 0] := ⟨⟨_, _, rfl, rfl, rfl, _, rfl, rfl⟩, by simp [Value.oneCell']⟩
instance : TyZero Try.prog 152 [.int .u64 0, .int .u64 0, .int .u32 0, .int .u8 0, .int .u8 0, .int .u8 0, .int .u8 0, .nilFunc, .pointer none, .int .i32 0, .int .i32 0] := ⟨⟨_, _, rfl, rfl, rfl⟩, by simp [Value.oneCell']⟩
instance : TyAgg Try.prog 153 11 := ⟨fun _ => rfl, _, rfl, rfl⟩
instance : TyFld Try.prog 153 0 0 12 := ⟨_, _, rfl, rfl, rfl, rfl, _, rfl, by decide⟩
instance : TyFld Try.prog 153 1 1 12 := ⟨_, _, rfl, rfl, rfl, rfl, _, rfl, by decide⟩
instance : TyFld Try.prog 153 2 2 116 := ⟨_, _, rfl, rfl, rfl, rfl, _, rfl, by decide⟩
instance : TyFld Try.prog 153 3 3 146 := ⟨_, _, rfl, rfl, rfl, rfl, _, rfl, by decide⟩
instance : TyFld Try.prog 153 4 4 5 := ⟨_, _, rfl, rfl, rfl, rfl, _, rfl, by decide⟩
instance : TyFld Try.prog 153 5 5 5 := ⟨_, _, rfl, rfl, rfl, rfl, _, rfl, by decide⟩
instance : TyFld Try.prog 153 6 6 147 := ⟨_, _, rfl, rfl, rfl, rfl, _, rfl, by decide⟩
instance : TyFld Try.prog 153 7 7 148 := ⟨_, _, rfl, rfl, rfl, rfl, _, rfl, by decide⟩
instance : TyFld Try.prog 153 8 8 149 := ⟨_, _, rfl, rfl, rfl, rfl, _, rfl, by decide⟩
instance : TyFld Try.prog 153 9 9 150 := ⟨_, _, rfl, rfl, rfl, rfl, _, rfl, by decide⟩
instance : TyFld Try.prog 153 10 10 151 := ⟨_, _, rfl, rfl, rfl, rfl, _, rfl, by decide⟩
instance : TyStr Try.prog 153 [(0, 1), (1, 1), (2, 1), (3, 1), (4, 1), (5, 1), (6, 1), (7, 1), (8, 1), (9, 1), (10, 1)] [.int .u64 0, .int .u64 0, .int .u32 0, .int .u8 0, .int .u8 0, .int .u8 0, .int .u8 0, .nilFunc, .pointer none, .int .i32 0, .int .i32 0] := ⟨⟨_, _, rfl, rfl, rfl, _, rfl, rfl⟩, by simp [Value.oneCell']⟩
instance : TyZero Try.prog 153 [.int .u64 0, .int .u64 0, .int .u32 0, .int .u8 0, .int .u8 0, .int .u8 0, .int .u8 0, .nilFunc, .pointer none, .int .i32 0, .int .i32 0] := ⟨⟨_, _, rfl, rfl, rfl⟩, by simp [Value.oneCell']⟩
end Lg
