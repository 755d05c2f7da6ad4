/- A part of the proof of a law of this seat: it adds no condition. By an AI agent. -/
import Derived.Test.YteooghfcfmmkkaaProg
import Derived.Test.YteooghfcfmmkkaaCore
set_option linter.all false
set_option maxRecDepth 100000
namespace Lg
open Go Go.Proofs
instance : TyOne Try.prog 1 := ⟨fun _ => rfl, _, rfl, rfl⟩
instance : TyZero Try.prog 1 [.nilFunc] := ⟨⟨_, _, rfl, rfl, rfl⟩, by simp [Value.oneCell']⟩
instance : TyOne Try.prog 2 := ⟨fun _ => rfl, _, rfl, rfl⟩
instance : TyZero Try.prog 2 [.int .i64 0] := ⟨⟨_, _, rfl, rfl, rfl⟩, by simp [Value.oneCell']⟩
instance : TyOne Try.prog 3 := ⟨fun _ => rfl, _, rfl, rfl⟩
instance : TyZero Try.prog 3 [.int .i64 0] := ⟨⟨_, _, rfl, rfl, rfl⟩, by simp [Value.oneCell']⟩
instance : TyOne Try.prog 4 := ⟨fun _ => rfl, _, rfl, rfl⟩
instance : TyZero Try.prog 4 [.bool false] := ⟨⟨_, _, rfl, rfl, rfl⟩, by simp [Value.oneCell']⟩
instance : TyOne Try.prog 5 := ⟨fun _ => rfl, _, rfl, rfl⟩
instance : TyZero Try.prog 5 [.int .u8 0] := ⟨⟨_, _, rfl, rfl, rfl⟩, by simp [Value.oneCell']⟩
instance : TyOne Try.prog 6 := ⟨fun _ => rfl, _, rfl, rfl⟩
instance : TyZero Try.prog 6 [.int .u8 0] := ⟨⟨_, _, rfl, rfl, rfl⟩, by simp [Value.oneCell']⟩
instance : TyAgg Try.prog 7 4 := ⟨fun _ => rfl, _, rfl, rfl⟩
instance : TyFld Try.prog 7 0 0 2 := ⟨_, _, rfl, rfl, rfl, rfl, _, rfl, by decide⟩
instance : TyFld Try.prog 7 1 1 3 := ⟨_, _, rfl, rfl, rfl, rfl, _, rfl, by decide⟩
instance : TyFld Try.prog 7 2 2 4 := ⟨_, _, rfl, rfl, rfl, rfl, _, rfl, by decide⟩
instance : TyFld Try.prog 7 3 3 6 := ⟨_, _, rfl, rfl, rfl, rfl, _, rfl, by decide⟩
instance : TyStr Try.prog 7 [(0, 1), (1, 1), (2, 1), (3, 1)] [.int .i64 0, .int .i64 0, .bool false, .int .u8 0] := ⟨⟨_, _, rfl, rfl, rfl, _, rfl, rfl⟩, by simp [Value.oneCell']⟩
instance : TyZero Try.prog 7 [.int .i64 0, .int .i64 0, .bool false, .int .u8 0] := ⟨⟨_, _, rfl, rfl, rfl⟩, by simp [Value.oneCell']⟩
instance : TyAgg Try.prog 8 4 := ⟨fun _ => rfl, _, rfl, rfl⟩
instance : TyFld Try.prog 8 0 0 2 := ⟨_, _, rfl, rfl, rfl, rfl, _, rfl, by decide⟩
instance : TyFld Try.prog 8 1 1 3 := ⟨_, _, rfl, rfl, rfl, rfl, _, rfl, by decide⟩
instance : TyFld Try.prog 8 2 2 4 := ⟨_, _, rfl, rfl, rfl, rfl, _, rfl, by decide⟩
instance : TyFld Try.prog 8 3 3 6 := ⟨_, _, rfl, rfl, rfl, rfl, _, rfl, by decide⟩
instance : TyStr Try.prog 8 [(0, 1), (1, 1), (2, 1), (3, 1)] [.int .i64 0, .int .i64 0, .bool false, .int .u8 0] := ⟨⟨_, _, rfl, rfl, rfl, _, rfl, rfl⟩, by simp [Value.oneCell']⟩
instance : TyZero Try.prog 8 [.int .i64 0, .int .i64 0, .bool false, .int .u8 0] := ⟨⟨_, _, rfl, rfl, rfl⟩, by simp [Value.oneCell']⟩
instance : TyOne Try.prog 9 := ⟨fun _ => rfl, _, rfl, rfl⟩
instance : TyZero Try.prog 9 [.string ByteArray.empty] := ⟨⟨_, _, rfl, rfl, rfl⟩, by simp [Value.oneCell']⟩
theorem tstr9 : Try.prog.underlying 9 = some .string := rfl
instance : TyOne Try.prog 10 := ⟨fun _ => rfl, _, rfl, rfl⟩
instance : TyZero Try.prog 10 [.string ByteArray.empty] := ⟨⟨_, _, rfl, rfl, rfl⟩, by simp [Value.oneCell']⟩
theorem tstr10 : Try.prog.underlying 10 = some .string := rfl
instance : TyOne Try.prog 11 := ⟨fun _ => rfl, _, rfl, rfl⟩
instance : TyZero Try.prog 11 [.string ByteArray.empty] := ⟨⟨_, _, rfl, rfl, rfl⟩, by simp [Value.oneCell']⟩
theorem tstr11 : Try.prog.underlying 11 = some .string := rfl
instance : TyOne Try.prog 12 := ⟨fun _ => rfl, _, rfl, rfl⟩
instance : TyZero Try.prog 12 [.int .u64 0] := ⟨⟨_, _, rfl, rfl, rfl⟩, by simp [Value.oneCell']⟩
instance : TyAgg Try.prog 13 2 := ⟨fun _ => rfl, _, rfl, rfl⟩
instance : TyFld Try.prog 13 0 0 9 := ⟨_, _, rfl, rfl, rfl, rfl, _, rfl, by decide⟩
instance : TyFld Try.prog 13 1 1 12 := ⟨_, _, rfl, rfl, rfl, rfl, _, rfl, by decide⟩
instance : TyStr Try.prog 13 [(0, 1), (1, 1)] [.string ByteArray.empty, .int .u64 0] := ⟨⟨_, _, rfl, rfl, rfl, _, rfl, rfl⟩, by simp [Value.oneCell']⟩
instance : TyZero Try.prog 13 [.string ByteArray.empty, .int .u64 0] := ⟨⟨_, _, rfl, rfl, rfl⟩, by simp [Value.oneCell']⟩
instance : TyAgg Try.prog 14 2 := ⟨fun _ => rfl, _, rfl, rfl⟩
instance : TyFld Try.prog 14 0 0 9 := ⟨_, _, rfl, rfl, rfl, rfl, _, rfl, by decide⟩
instance : TyFld Try.prog 14 1 1 12 := ⟨_, _, rfl, rfl, rfl, rfl, _, rfl, by decide⟩
instance : TyStr Try.prog 14 [(0, 1), (1, 1)] [.string ByteArray.empty, .int .u64 0] := ⟨⟨_, _, rfl, rfl, rfl, _, rfl, rfl⟩, by simp [Value.oneCell']⟩
instance : TyZero Try.prog 14 [.string ByteArray.empty, .int .u64 0] := ⟨⟨_, _, rfl, rfl, rfl⟩, by simp [Value.oneCell']⟩
instance : TyOne Try.prog 15 := ⟨fun _ => rfl, _, rfl, rfl⟩
instance : TyZero Try.prog 15 [.pointer none] := ⟨⟨_, _, rfl, rfl, rfl⟩, by simp [Value.oneCell']⟩
instance : TyOne Try.prog 16 := ⟨fun _ => rfl, _, rfl, rfl⟩
instance : TyZero Try.prog 16 [.pointer none] := ⟨⟨_, _, rfl, rfl, rfl⟩, by simp [Value.oneCell']⟩
instance : TyOne Try.prog 17 := ⟨fun _ => rfl, _, rfl, rfl⟩
instance : TyZero Try.prog 17 [.pointer none] := ⟨⟨_, _, rfl, rfl, rfl⟩, by simp [Value.oneCell']⟩
instance : TyAgg Try.prog 18 1 := ⟨fun _ => rfl, _, rfl, rfl⟩
instance : TyFld Try.prog 18 0 0 17 := ⟨_, _, rfl, rfl, rfl, rfl, _, rfl, by decide⟩
instance : TyStr Try.prog 18 [(0, 1)] [.pointer none] := ⟨⟨_, _, rfl, rfl, rfl, _, rfl, rfl⟩, by simp [Value.oneCell']⟩
instance : TyZero Try.prog 18 [.pointer none] := ⟨⟨_, _, rfl, rfl, rfl⟩, by simp [Value.oneCell']⟩
instance : TyAgg Try.prog 19 1 := ⟨fun _ => rfl, _, rfl, rfl⟩
instance : TyFld Try.prog 19 0 0 17 := ⟨_, _, rfl, rfl, rfl, rfl, _, rfl, by decide⟩
instance : TyStr Try.prog 19 [(0, 1)] [.pointer none] := ⟨⟨_, _, rfl, rfl, rfl, _, rfl, rfl⟩, by simp [Value.oneCell']⟩
instance : TyZero Try.prog 19 [.pointer none] := ⟨⟨_, _, rfl, rfl, rfl⟩, by simp [Value.oneCell']⟩
instance : TyOne Try.prog 20 := ⟨fun _ => rfl, _, rfl, rfl⟩
instance : TyZero Try.prog 20 [.nilIface] := ⟨⟨_, _, rfl, rfl, rfl⟩, by simp [Value.oneCell']⟩
instance : TyOne Try.prog 21 := ⟨fun _ => rfl, _, rfl, rfl⟩
instance : TyZero Try.prog 21 [.int .i32 0] := ⟨⟨_, _, rfl, rfl, rfl⟩, by simp [Value.oneCell']⟩
instance : TyOne Try.prog 22 := ⟨fun _ => rfl, _, rfl, rfl⟩
instance : TyZero Try.prog 22 [.slice none 0 0] := ⟨⟨_, _, rfl, rfl, rfl⟩, by simp [Value.oneCell']⟩
instance : TySl Try.prog 22 3 1 8 [.int .i64 0] := ⟨rfl, ⟨_, _, rfl, rfl, rfl, rfl, rfl, by decide⟩, rfl, by simp [Value.oneCell']⟩
instance : TyOne Try.prog 23 := ⟨fun _ => rfl, _, rfl, rfl⟩
instance : TyZero Try.prog 23 [.pointer none] := ⟨⟨_, _, rfl, rfl, rfl⟩, by simp [Value.oneCell']⟩
instance : TyAgg Try.prog 24 2 := ⟨fun _ => rfl, _, rfl, rfl⟩
instance : TyFld Try.prog 24 0 0 22 := ⟨_, _, rfl, rfl, rfl, rfl, _, rfl, by decide⟩
instance : TyFld Try.prog 24 1 1 3 := ⟨_, _, rfl, rfl, rfl, rfl, _, rfl, by decide⟩
instance : TyStr Try.prog 24 [(0, 1), (1, 1)] [.slice none 0 0, .int .i64 0] := ⟨⟨_, _, rfl, rfl, rfl, _, rfl, rfl⟩, by simp [Value.oneCell']⟩
instance : TyZero Try.prog 24 [.slice none 0 0, .int .i64 0] := ⟨⟨_, _, rfl, rfl, rfl⟩, by simp [Value.oneCell']⟩
instance : TyAgg Try.prog 25 2 := ⟨fun _ => rfl, _, rfl, rfl⟩
instance : TyFld Try.prog 25 0 0 22 := ⟨_, _, rfl, rfl, rfl, rfl, _, rfl, by decide⟩
instance : TyFld Try.prog 25 1 1 3 := ⟨_, _, rfl, rfl, rfl, rfl, _, rfl, by decide⟩
instance : TyStr Try.prog 25 [(0, 1), (1, 1)] [.slice none 0 0, .int .i64 0] := ⟨⟨_, _, rfl, rfl, rfl, _, rfl, rfl⟩, by simp [Value.oneCell']⟩
instance : TyZero Try.prog 25 [.slice none 0 0, .int .i64 0] := ⟨⟨_, _, rfl, rfl, rfl⟩, by simp [Value.oneCell']⟩
instance : TyOne Try.prog 26 := ⟨fun _ => rfl, _, rfl, rfl⟩
instance : TyZero Try.prog 26 [.slice none 0 0] := ⟨⟨_, _, rfl, rfl, rfl⟩, by simp [Value.oneCell']⟩
instance : TySl Try.prog 26 46 3 24 [.int .i64 0, .int .i64 0, .int .i64 0] := ⟨rfl, ⟨_, _, rfl, rfl, rfl, rfl, rfl, by decide⟩, rfl, by simp [Value.oneCell']⟩
instance : TyOne Try.prog 27 := ⟨fun _ => rfl, _, rfl, rfl⟩
instance : TyZero Try.prog 27 [.nilFunc] := ⟨⟨_, _, rfl, rfl, rfl⟩, by simp [Value.oneCell']⟩
instance : TyOne Try.prog 28 := ⟨fun _ => rfl, _, rfl, rfl⟩
instance : TyZero Try.prog 28 [.nilFunc] := ⟨⟨_, _, rfl, rfl, rfl⟩, by simp [Value.oneCell']⟩
instance : TyOne Try.prog 29 := ⟨fun _ => rfl, _, rfl, rfl⟩
instance : TyZero Try.prog 29 [.nilFunc] := ⟨⟨_, _, rfl, rfl, rfl⟩, by simp [Value.oneCell']⟩
instance : TyOne Try.prog 30 := ⟨fun _ => rfl, _, rfl, rfl⟩
instance : TyZero Try.prog 30 [.nilFunc] := ⟨⟨_, _, rfl, rfl, rfl⟩, by simp [Value.oneCell']⟩
instance : TyOne Try.prog 31 := ⟨fun _ => rfl, _, rfl, rfl⟩
instance : TyZero Try.prog 31 [.int .i64 0] := ⟨⟨_, _, rfl, rfl, rfl⟩, by simp [Value.oneCell']⟩
instance : TyOne Try.prog 33 := ⟨fun _ => rfl, _, rfl, rfl⟩
instance : TyZero Try.prog 33 [.nilFunc] := ⟨⟨_, _, rfl, rfl, rfl⟩, by simp [Value.oneCell']⟩
instance : TyOne Try.prog 34 := ⟨fun _ => rfl, _, rfl, rfl⟩
instance : TyZero Try.prog 34 [.slice none 0 0] := ⟨⟨_, _, rfl, rfl, rfl⟩, by simp [Value.oneCell']⟩
instance : TySl Try.prog 34 50 2 16 [.int .i64 0, .int .i64 0] := ⟨rfl, ⟨_, _, rfl, rfl, rfl, rfl, rfl, by decide⟩, rfl, by simp [Value.oneCell']⟩
instance : TyOne Try.prog 36 := ⟨fun _ => rfl, _, rfl, rfl⟩
instance : TyZero Try.prog 36 [.nilFunc] := ⟨⟨_, _, rfl, rfl, rfl⟩, by simp [Value.oneCell']⟩
instance : TyOne Try.prog 38 := ⟨fun _ => rfl, _, rfl, rfl⟩
instance : TyZero Try.prog 38 [.nilFunc] := ⟨⟨_, _, rfl, rfl, rfl⟩, by simp [Value.oneCell']⟩
instance : TyOne Try.prog 39 := ⟨fun _ => rfl, _, rfl, rfl⟩
instance : TyZero Try.prog 39 [.nilFunc] := ⟨⟨_, _, rfl, rfl, rfl⟩, by simp [Value.oneCell']⟩
instance : TyOne Try.prog 40 := ⟨fun _ => rfl, _, rfl, rfl⟩
instance : TyZero Try.prog 40 [.nilFunc] := ⟨⟨_, _, rfl, rfl, rfl⟩, by simp [Value.oneCell']⟩
instance : TyOne Try.prog 41 := ⟨fun _ => rfl, _, rfl, rfl⟩
instance : TyZero Try.prog 41 [.nilFunc] := ⟨⟨_, _, rfl, rfl, rfl⟩, by simp [Value.oneCell']⟩
instance : TyOne Try.prog 43 := ⟨fun _ => rfl, _, rfl, rfl⟩
instance : TyZero Try.prog 43 [.nilFunc] := ⟨⟨_, _, rfl, rfl, rfl⟩, by simp [Value.oneCell']⟩
instance : TyOne Try.prog 44 := ⟨fun _ => rfl, _, rfl, rfl⟩
instance : TyZero Try.prog 44 [.nilFunc] := ⟨⟨_, _, rfl, rfl, rfl⟩, by simp [Value.oneCell']⟩
instance : TyAgg Try.prog 45 3 := ⟨fun _ => rfl, _, rfl, rfl⟩
instance : TyFld Try.prog 45 0 0 3 := ⟨_, _, rfl, rfl, rfl, rfl, _, rfl, by decide⟩
instance : TyFld Try.prog 45 1 1 3 := ⟨_, _, rfl, rfl, rfl, rfl, _, rfl, by decide⟩
instance : TyFld Try.prog 45 2 2 3 := ⟨_, _, rfl, rfl, rfl, rfl, _, rfl, by decide⟩
instance : TyStr Try.prog 45 [(0, 1), (1, 1), (2, 1)] [.int .i64 0, .int .i64 0, .int .i64 0] := ⟨⟨_, _, rfl, rfl, rfl, _, rfl, rfl⟩, by simp [Value.oneCell']⟩
instance : TyZero Try.prog 45 [.int .i64 0, .int .i64 0, .int .i64 0] := ⟨⟨_, _, rfl, rfl, rfl⟩, by simp [Value.oneCell']⟩
instance : TyAgg Try.prog 46 3 := ⟨fun _ => rfl, _, rfl, rfl⟩
instance : TyFld Try.prog 46 0 0 3 := ⟨_, _, rfl, rfl, rfl, rfl, _, rfl, by decide⟩
instance : TyFld Try.prog 46 1 1 3 := ⟨_, _, rfl, rfl, rfl, rfl, _, rfl, by decide⟩
instance : TyFld Try.prog 46 2 2 3 := ⟨_, _, rfl, rfl, rfl, rfl, _, rfl, by decide⟩
instance : TyStr Try.prog 46 [(0, 1), (1, 1), (2, 1)] [.int .i64 0, .int .i64 0, .int .i64 0] := ⟨⟨_, _, rfl, rfl, rfl, _, rfl, rfl⟩, by simp [Value.oneCell']⟩
instance : TyZero Try.prog 46 [.int .i64 0, .int .i64 0, .int .i64 0] := ⟨⟨_, _, rfl, rfl, rfl⟩, by simp [Value.oneCell']⟩
instance : TyOne Try.prog 47 := ⟨fun _ => rfl, _, rfl, rfl⟩
instance : TyZero Try.prog 47 [.nilFunc] := ⟨⟨_, _, rfl, rfl, rfl⟩, by simp [Value.oneCell']⟩
instance : TyOne Try.prog 48 := ⟨fun _ => rfl, _, rfl, rfl⟩
instance : TyZero Try.prog 48 [.nilFunc] := ⟨⟨_, _, rfl, rfl, rfl⟩, by simp [Value.oneCell']⟩
instance : TyAgg Try.prog 49 2 := ⟨fun _ => rfl, _, rfl, rfl⟩
instance : TyFld Try.prog 49 0 0 3 := ⟨_, _, rfl, rfl, rfl, rfl, _, rfl, by decide⟩
instance : TyFld Try.prog 49 1 1 3 := ⟨_, _, rfl, rfl, rfl, rfl, _, rfl, by decide⟩
instance : TyStr Try.prog 49 [(0, 1), (1, 1)] [.int .i64 0, .int .i64 0] := ⟨⟨_, _, rfl, rfl, rfl, _, rfl, rfl⟩, by simp [Value.oneCell']⟩
instance : TyZero Try.prog 49 [.int .i64 0, .int .i64 0] := ⟨⟨_, _, rfl, rfl, rfl⟩, by simp [Value.oneCell']⟩
instance : TyAgg Try.prog 50 2 := ⟨fun _ => rfl, _, rfl, rfl⟩
instance : TyFld Try.prog 50 0 0 3 := ⟨_, _, rfl, rfl, rfl, rfl, _, rfl, by decide⟩
instance : TyFld Try.prog 50 1 1 3 := ⟨_, _, rfl, rfl, rfl, rfl, _, rfl, by decide⟩
instance : TyStr Try.prog 50 [(0, 1), (1, 1)] [.int .i64 0, .int .i64 0] := ⟨⟨_, _, rfl, rfl, rfl, _, rfl, rfl⟩, by simp [Value.oneCell']⟩
instance : TyZero Try.prog 50 [.int .i64 0, .int .i64 0] := ⟨⟨_, _, rfl, rfl, rfl⟩, by simp [Value.oneCell']⟩
instance : TyOne Try.prog 51 := ⟨fun _ => rfl, _, rfl, rfl⟩
instance : TyZero Try.prog 51 [.nilFunc] := ⟨⟨_, _, rfl, rfl, rfl⟩, by simp [Value.oneCell']⟩
instance : TyOne Try.prog 52 := ⟨fun _ => rfl, _, rfl, rfl⟩
instance : TyZero Try.prog 52 [.nilFunc] := ⟨⟨_, _, rfl, rfl, rfl⟩, by simp [Value.oneCell']⟩
instance : TyOne Try.prog 53 := ⟨fun _ => rfl, _, rfl, rfl⟩
instance : TyZero Try.prog 53 [.nilFunc] := ⟨⟨_, _, rfl, rfl, rfl⟩, by simp [Value.oneCell']⟩
instance : TyOne Try.prog 54 := ⟨fun _ => rfl, _, rfl, rfl⟩
instance : TyZero Try.prog 54 [.nilFunc] := ⟨⟨_, _, rfl, rfl, rfl⟩, by simp [Value.oneCell']⟩
instance : TyOne Try.prog 55 := ⟨fun _ => rfl, _, rfl, rfl⟩
instance : TyZero Try.prog 55 [.nilFunc] := ⟨⟨_, _, rfl, rfl, rfl⟩, by simp [Value.oneCell']⟩
instance : TyOne Try.prog 56 := ⟨fun _ => rfl, _, rfl, rfl⟩
instance : TyZero Try.prog 56 [.nilFunc] := ⟨⟨_, _, rfl, rfl, rfl⟩, by simp [Value.oneCell']⟩
instance : TyOne Try.prog 57 := ⟨fun _ => rfl, _, rfl, rfl⟩
instance : TyZero Try.prog 57 [.nilFunc] := ⟨⟨_, _, rfl, rfl, rfl⟩, by simp [Value.oneCell']⟩
instance : TyOne Try.prog 58 := ⟨fun _ => rfl, _, rfl, rfl⟩
instance : TyZero Try.prog 58 [.nilFunc] := ⟨⟨_, _, rfl, rfl, rfl⟩, by simp [Value.oneCell']⟩
instance : TyOne Try.prog 59 := ⟨fun _ => rfl, _, rfl, rfl⟩
instance : TyZero Try.prog 59 [.slice none 0 0] := ⟨⟨_, _, rfl, rfl, rfl⟩, by simp [Value.oneCell']⟩
instance : TySl Try.prog 59 4 1 1 [.bool false] := ⟨rfl, ⟨_, _, rfl, rfl, rfl, rfl, rfl, by decide⟩, rfl, by simp [Value.oneCell']⟩
instance : TyOne Try.prog 60 := ⟨fun _ => rfl, _, rfl, rfl⟩
instance : TyZero Try.prog 60 [.nilFunc] := ⟨⟨_, _, rfl, rfl, rfl⟩, by simp [Value.oneCell']⟩
instance : TyOne Try.prog 61 := ⟨fun _ => rfl, _, rfl, rfl⟩
instance : TyZero Try.prog 61 [.nilFunc] := ⟨⟨_, _, rfl, rfl, rfl⟩, by simp [Value.oneCell']⟩
instance : TyOne Try.prog 62 := ⟨fun _ => rfl, _, rfl, rfl⟩
instance : TyZero Try.prog 62 [.nilFunc] := ⟨⟨_, _, rfl, rfl, rfl⟩, by simp [Value.oneCell']⟩
instance : TyOne Try.prog 63 := ⟨fun _ => rfl, _, rfl, rfl⟩
instance : TyZero Try.prog 63 [.nilFunc] := ⟨⟨_, _, rfl, rfl, rfl⟩, by simp [Value.oneCell']⟩
instance : TyOne Try.prog 64 := ⟨fun _ => rfl, _, rfl, rfl⟩
instance : TyZero Try.prog 64 [.nilFunc] := ⟨⟨_, _, rfl, rfl, rfl⟩, by simp [Value.oneCell']⟩
instance : TyOne Try.prog 65 := ⟨fun _ => rfl, _, rfl, rfl⟩
instance : TyZero Try.prog 65 [.nilFunc] := ⟨⟨_, _, rfl, rfl, rfl⟩, by simp [Value.oneCell']⟩
instance : TyOne Try.prog 66 := ⟨fun _ => rfl, _, rfl, rfl⟩
instance : TyZero Try.prog 66 [.nilFunc] := ⟨⟨_, _, rfl, rfl, rfl⟩, by simp [Value.oneCell']⟩
instance : TyOne Try.prog 67 := ⟨fun _ => rfl, _, rfl, rfl⟩
instance : TyZero Try.prog 67 [.nilFunc] := ⟨⟨_, _, rfl, rfl, rfl⟩, by simp [Value.oneCell']⟩
instance : TyOne Try.prog 69 := ⟨fun _ => rfl, _, rfl, rfl⟩
instance : TyZero Try.prog 69 [.nilFunc] := ⟨⟨_, _, rfl, rfl, rfl⟩, by simp [Value.oneCell']⟩
instance : TyOne Try.prog 70 := ⟨fun _ => rfl, _, rfl, rfl⟩
instance : TyZero Try.prog 70 [.nilFunc] := ⟨⟨_, _, rfl, rfl, rfl⟩, by simp [Value.oneCell']⟩
instance : TyOne Try.prog 71 := ⟨fun _ => rfl, _, rfl, rfl⟩
instance : TyZero Try.prog 71 [.nilFunc] := ⟨⟨_, _, rfl, rfl, rfl⟩, by simp [Value.oneCell']⟩
instance : TyOne Try.prog 72 := ⟨fun _ => rfl, _, rfl, rfl⟩
instance : TyZero Try.prog 72 [.nilFunc] := ⟨⟨_, _, rfl, rfl, rfl⟩, by simp [Value.oneCell']⟩
instance : TyOne Try.prog 73 := ⟨fun _ => rfl, _, rfl, rfl⟩
instance : TyZero Try.prog 73 [.nilFunc] := ⟨⟨_, _, rfl, rfl, rfl⟩, by simp [Value.oneCell']⟩
instance : TyOne Try.prog 74 := ⟨fun _ => rfl, _, rfl, rfl⟩
instance : TyZero Try.prog 74 [.nilFunc] := ⟨⟨_, _, rfl, rfl, rfl⟩, by simp [Value.oneCell']⟩
instance : TyOne Try.prog 75 := ⟨fun _ => rfl, _, rfl, rfl⟩
instance : TyZero Try.prog 75 [.slice none 0 0] := ⟨⟨_, _, rfl, rfl, rfl⟩, by simp [Value.oneCell']⟩
instance : TySl Try.prog 75 22 1 24 [.slice none 0 0] := ⟨rfl, ⟨_, _, rfl, rfl, rfl, rfl, rfl, by decide⟩, rfl, by simp [Value.oneCell']⟩
instance : TyOne Try.prog 76 := ⟨fun _ => rfl, _, rfl, rfl⟩
instance : TyZero Try.prog 76 [.nilFunc] := ⟨⟨_, _, rfl, rfl, rfl⟩, by simp [Value.oneCell']⟩
instance : TyOne Try.prog 77 := ⟨fun _ => rfl, _, rfl, rfl⟩
instance : TyZero Try.prog 77 [.nilFunc] := ⟨⟨_, _, rfl, rfl, rfl⟩, by simp [Value.oneCell']⟩
instance : TyOne Try.prog 78 := ⟨fun _ => rfl, _, rfl, rfl⟩
instance : TyZero Try.prog 78 [.nilFunc] := ⟨⟨_, _, rfl, rfl, rfl⟩, by simp [Value.oneCell']⟩
instance : TyOne Try.prog 79 := ⟨fun _ => rfl, _, rfl, rfl⟩
instance : TyZero Try.prog 79 [.nilFunc] := ⟨⟨_, _, rfl, rfl, rfl⟩, by simp [Value.oneCell']⟩
instance : TyOne Try.prog 80 := ⟨fun _ => rfl, _, rfl, rfl⟩
instance : TyZero Try.prog 80 [.nilFunc] := ⟨⟨_, _, rfl, rfl, rfl⟩, by simp [Value.oneCell']⟩
instance : TyOne Try.prog 81 := ⟨fun _ => rfl, _, rfl, rfl⟩
instance : TyZero Try.prog 81 [.nilFunc] := ⟨⟨_, _, rfl, rfl, rfl⟩, by simp [Value.oneCell']⟩
instance : TyOne Try.prog 82 := ⟨fun _ => rfl, _, rfl, rfl⟩
instance : TyZero Try.prog 82 [.int .u64 0] := ⟨⟨_, _, rfl, rfl, rfl⟩, by simp [Value.oneCell']⟩
instance : TyOne Try.prog 83 := ⟨fun _ => rfl, _, rfl, rfl⟩
instance : TyZero Try.prog 83 [.nilFunc] := ⟨⟨_, _, rfl, rfl, rfl⟩, by simp [Value.oneCell']⟩
instance : TyOne Try.prog 84 := ⟨fun _ => rfl, _, rfl, rfl⟩
instance : TyZero Try.prog 84 [.nilFunc] := ⟨⟨_, _, rfl, rfl, rfl⟩, by simp [Value.oneCell']⟩
instance : TyOne Try.prog 85 := ⟨fun _ => rfl, _, rfl, rfl⟩
instance : TyZero Try.prog 85 [.nilFunc] := ⟨⟨_, _, rfl, rfl, rfl⟩, by simp [Value.oneCell']⟩
instance : TyOne Try.prog 86 := ⟨fun _ => rfl, _, rfl, rfl⟩
instance : TyZero Try.prog 86 [.nilFunc] := ⟨⟨_, _, rfl, rfl, rfl⟩, by simp [Value.oneCell']⟩
instance : TyOne Try.prog 87 := ⟨fun _ => rfl, _, rfl, rfl⟩
instance : TyZero Try.prog 87 [.int .i64 0] := ⟨⟨_, _, rfl, rfl, rfl⟩, by simp [Value.oneCell']⟩
instance : TyOne Try.prog 89 := ⟨fun _ => rfl, _, rfl, rfl⟩
instance : TyZero Try.prog 89 [.nilFunc] := ⟨⟨_, _, rfl, rfl, rfl⟩, by simp [Value.oneCell']⟩
instance : TyOne Try.prog 90 := ⟨fun _ => rfl, _, rfl, rfl⟩
instance : TyZero Try.prog 90 [.nilFunc] := ⟨⟨_, _, rfl, rfl, rfl⟩, by simp [Value.oneCell']⟩
instance : TyOne Try.prog 91 := ⟨fun _ => rfl, _, rfl, rfl⟩
instance : TyZero Try.prog 91 [.nilFunc] := ⟨⟨_, _, rfl, rfl, rfl⟩, by simp [Value.oneCell']⟩
instance : TyOne Try.prog 93 := ⟨fun _ => rfl, _, rfl, rfl⟩
instance : TyZero Try.prog 93 [.nilFunc] := ⟨⟨_, _, rfl, rfl, rfl⟩, by simp [Value.oneCell']⟩
instance : TyOne Try.prog 94 := ⟨fun _ => rfl, _, rfl, rfl⟩
instance : TyZero Try.prog 94 [.nilFunc] := ⟨⟨_, _, rfl, rfl, rfl⟩, by simp [Value.oneCell']⟩
instance : TyOne Try.prog 95 := ⟨fun _ => rfl, _, rfl, rfl⟩
instance : TyZero Try.prog 95 [.int .u32 0] := ⟨⟨_, _, rfl, rfl, rfl⟩, by simp [Value.oneCell']⟩
instance : TyOne Try.prog 96 := ⟨fun _ => rfl, _, rfl, rfl⟩
instance : TyZero Try.prog 96 [.nilFunc] := ⟨⟨_, _, rfl, rfl, rfl⟩, by simp [Value.oneCell']⟩
instance : TyOne Try.prog 97 := ⟨fun _ => rfl, _, rfl, rfl⟩
instance : TyZero Try.prog 97 [.int .u64 0] := ⟨⟨_, _, rfl, rfl, rfl⟩, by simp [Value.oneCell']⟩
instance : TyOne Try.prog 98 := ⟨fun _ => rfl, _, rfl, rfl⟩
instance : TyZero Try.prog 98 [.slice none 0 0] := ⟨⟨_, _, rfl, rfl, rfl⟩, by simp [Value.oneCell']⟩
instance : TySl Try.prog 98 100 2 16 [.int .i64 0, .int .i64 0] := ⟨rfl, ⟨_, _, rfl, rfl, rfl, rfl, rfl, by decide⟩, rfl, by simp [Value.oneCell']⟩
instance : TyAgg Try.prog 99 2 := ⟨fun _ => rfl, _, rfl, rfl⟩
instance : TyFld Try.prog 99 0 0 3 := ⟨_, _, rfl, rfl, rfl, rfl, _, rfl, by decide⟩
instance : TyFld Try.prog 99 1 1 3 := ⟨_, _, rfl, rfl, rfl, rfl, _, rfl, by decide⟩
instance : TyStr Try.prog 99 [(0, 1), (1, 1)] [.int .i64 0, .int .i64 0] := ⟨⟨_, _, rfl, rfl, rfl, _, rfl, rfl⟩, by simp [Value.oneCell']⟩
instance : TyZero Try.prog 99 [.int .i64 0, .int .i64 0] := ⟨⟨_, _, rfl, rfl, rfl⟩, by simp [Value.oneCell']⟩
instance : TyAgg Try.prog 100 2 := ⟨fun _ => rfl, _, rfl, rfl⟩
instance : TyFld Try.prog 100 0 0 3 := ⟨_, _, rfl, rfl, rfl, rfl, _, rfl, by decide⟩
instance : TyFld Try.prog 100 1 1 3 := ⟨_, _, rfl, rfl, rfl, rfl, _, rfl, by decide⟩
instance : TyStr Try.prog 100 [(0, 1), (1, 1)] [.int .i64 0, .int .i64 0] := ⟨⟨_, _, rfl, rfl, rfl, _, rfl, rfl⟩, by simp [Value.oneCell']⟩
instance : TyZero Try.prog 100 [.int .i64 0, .int .i64 0] := ⟨⟨_, _, rfl, rfl, rfl⟩, by simp [Value.oneCell']⟩
instance : TyOne Try.prog 101 := ⟨fun _ => rfl, _, rfl, rfl⟩
instance : TyZero Try.prog 101 [.nilFunc] := ⟨⟨_, _, rfl, rfl, rfl⟩, by simp [Value.oneCell']⟩
instance : TyOne Try.prog 102 := ⟨fun _ => rfl, _, rfl, rfl⟩
instance : TyZero Try.prog 102 [.nilFunc] := ⟨⟨_, _, rfl, rfl, rfl⟩, by simp [Value.oneCell']⟩
instance : TyOne Try.prog 103 := ⟨fun _ => rfl, _, rfl, rfl⟩
instance : TyZero Try.prog 103 [.nilFunc] := ⟨⟨_, _, rfl, rfl, rfl⟩, by simp [Value.oneCell']⟩
instance : TyOne Try.prog 104 := ⟨fun _ => rfl, _, rfl, rfl⟩
instance : TyZero Try.prog 104 [.nilFunc] := ⟨⟨_, _, rfl, rfl, rfl⟩, by simp [Value.oneCell']⟩
instance : TyOne Try.prog 105 := ⟨fun _ => rfl, _, rfl, rfl⟩
instance : TyZero Try.prog 105 [.nilFunc] := ⟨⟨_, _, rfl, rfl, rfl⟩, by simp [Value.oneCell']⟩
instance : TyOne Try.prog 106 := ⟨fun _ => rfl, _, rfl, rfl⟩
instance : TyZero Try.prog 106 [.nilFunc] := ⟨⟨_, _, rfl, rfl, rfl⟩, by simp [Value.oneCell']⟩
instance : TyOne Try.prog 107 := ⟨fun _ => rfl, _, rfl, rfl⟩
instance : TyZero Try.prog 107 [.int .u64 0] := ⟨⟨_, _, rfl, rfl, rfl⟩, by simp [Value.oneCell']⟩
instance : TyOne Try.prog 108 := ⟨fun _ => rfl, _, rfl, rfl⟩
instance : TyZero Try.prog 108 [.nilFunc] := ⟨⟨_, _, rfl, rfl, rfl⟩, by simp [Value.oneCell']⟩
instance : TyOne Try.prog 109 := ⟨fun _ => rfl, _, rfl, rfl⟩
instance : TyZero Try.prog 109 [.nilFunc] := ⟨⟨_, _, rfl, rfl, rfl⟩, by simp [Value.oneCell']⟩
instance : TyOne Try.prog 110 := ⟨fun _ => rfl, _, rfl, rfl⟩
instance : TyZero Try.prog 110 [.nilFunc] := ⟨⟨_, _, rfl, rfl, rfl⟩, by simp [Value.oneCell']⟩
instance : TyOne Try.prog 111 := ⟨fun _ => rfl, _, rfl, rfl⟩
instance : TyZero Try.prog 111 [.pointer none] := ⟨⟨_, _, rfl, rfl, rfl⟩, by simp [Value.oneCell']⟩
instance : TyOne Try.prog 112 := ⟨fun _ => rfl, _, rfl, rfl⟩
instance : TyZero Try.prog 112 [.nilFunc] := ⟨⟨_, _, rfl, rfl, rfl⟩, by simp [Value.oneCell']⟩
instance : TyOne Try.prog 113 := ⟨fun _ => rfl, _, rfl, rfl⟩
instance : TyZero Try.prog 113 [.nilFunc] := ⟨⟨_, _, rfl, rfl, rfl⟩, by simp [Value.oneCell']⟩
instance : TyOne Try.prog 114 := ⟨fun _ => rfl, _, rfl, rfl⟩
instance : TyZero Try.prog 114 [.nilFunc] := ⟨⟨_, _, rfl, rfl, rfl⟩, by simp [Value.oneCell']⟩
instance : TyOne Try.prog 115 := ⟨fun _ => rfl, _, rfl, rfl⟩
instance : TyZero Try.prog 115 [.pointer none] := ⟨⟨_, _, rfl, rfl, rfl⟩, by simp [Value.oneCell']⟩
instance : TyOne Try.prog 117 := ⟨fun _ => rfl, _, rfl, rfl⟩
instance : TyZero Try.prog 117 [.nilFunc] := ⟨⟨_, _, rfl, rfl, rfl⟩, by simp [Value.oneCell']⟩
instance : TyOne Try.prog 118 := ⟨fun _ => rfl, _, rfl, rfl⟩
instance : TyZero Try.prog 118 [.nilFunc] := ⟨⟨_, _, rfl, rfl, rfl⟩, by simp [Value.oneCell']⟩
instance : TyOne Try.prog 119 := ⟨fun _ => rfl, _, rfl, rfl⟩
instance : TyZero Try.prog 119 [.nilFunc] := ⟨⟨_, _, rfl, rfl, rfl⟩, by simp [Value.oneCell']⟩
instance : TyAgg Try.prog 120 4 := ⟨fun _ => rfl, _, rfl, rfl⟩
instance : TyFld Try.prog 120 0 0 17 := ⟨_, _, rfl, rfl, rfl, rfl, _, rfl, by decide⟩
instance : TyFld Try.prog 120 1 1 17 := ⟨_, _, rfl, rfl, rfl, rfl, _, rfl, by decide⟩
instance : TyFld Try.prog 120 2 2 17 := ⟨_, _, rfl, rfl, rfl, rfl, _, rfl, by decide⟩
instance : TyFld Try.prog 120 3 3 9 := ⟨_, _, rfl, rfl, rfl, rfl, _, rfl, by decide⟩
instance : TyStr Try.prog 120 [(0, 1), (1, 1), (2, 1), (3, 1)] [.pointer none, .pointer none, .pointer none, .string ByteArray.empty] := ⟨⟨_, _, rfl, rfl, rfl, _, rfl, rfl⟩, by simp [Value.oneCell']⟩
instance : TyZero Try.prog 120 [.pointer none, .pointer none, .pointer none, .string ByteArray.empty] := ⟨⟨_, _, rfl, rfl, rfl⟩, by simp [Value.oneCell']⟩
instance : TyAgg Try.prog 121 4 := ⟨fun _ => rfl, _, rfl, rfl⟩
instance : TyFld Try.prog 121 0 0 17 := ⟨_, _, rfl, rfl, rfl, rfl, _, rfl, by decide⟩
instance : TyFld Try.prog 121 1 1 17 := ⟨_, _, rfl, rfl, rfl, rfl, _, rfl, by decide⟩
instance : TyFld Try.prog 121 2 2 17 := ⟨_, _, rfl, rfl, rfl, rfl, _, rfl, by decide⟩
instance : TyFld Try.prog 121 3 3 9 := ⟨_, _, rfl, rfl, rfl, rfl, _, rfl, by decide⟩
instance : TyStr Try.prog 121 [(0, 1), (1, 1), (2, 1), (3, 1)] [.pointer none, .pointer none, .pointer none, .string ByteArray.empty] := ⟨⟨_, _, rfl, rfl, rfl, _, rfl, rfl⟩, by simp [Value.oneCell']⟩
instance : TyZero Try.prog 121 [.pointer none, .pointer none, .pointer none, .string ByteArray.empty] := ⟨⟨_, _, rfl, rfl, rfl⟩, by simp [Value.oneCell']⟩
instance : TyOne Try.prog 125 := ⟨fun _ => rfl, _, rfl, rfl⟩
instance : TyZero Try.prog 125 [.nilFunc] := ⟨⟨_, _, rfl, rfl, rfl⟩, by simp [Value.oneCell']⟩
instance : TyOne Try.prog 126 := ⟨fun _ => rfl, _, rfl, rfl⟩
instance : TyZero Try.prog 126 [.int .u8 0] := ⟨⟨_, _, rfl, rfl, rfl⟩, by simp [Value.oneCell']⟩
instance : TyOne Try.prog 127 := ⟨fun _ => rfl, _, rfl, rfl⟩
instance : TyZero Try.prog 127 [.int .u8 0] := ⟨⟨_, _, rfl, rfl, rfl⟩, by simp [Value.oneCell']⟩
instance : TyOne Try.prog 128 := ⟨fun _ => rfl, _, rfl, rfl⟩
instance : TyZero Try.prog 128 [.nilFunc] := ⟨⟨_, _, rfl, rfl, rfl⟩, by simp [Value.oneCell']⟩
instance : TyOne Try.prog 129 := ⟨fun _ => rfl, _, rfl, rfl⟩
instance : TyZero Try.prog 129 [.pointer none] := ⟨⟨_, _, rfl, rfl, rfl⟩, by simp [Value.oneCell']⟩
instance : TyOne Try.prog 130 := ⟨fun _ => rfl, _, rfl, rfl⟩
instance : TyZero Try.prog 130 [.int .i32 0] := ⟨⟨_, _, rfl, rfl, rfl⟩, by simp [Value.oneCell']⟩
instance : TyOne Try.prog 131 := ⟨fun _ => rfl, _, rfl, rfl⟩
instance : TyZero Try.prog 131 [.int .i32 0] := ⟨⟨_, _, rfl, rfl, rfl⟩, by simp [Value.oneCell']⟩
instance : TyAgg Try.prog 132 11 := ⟨fun _ => rfl, _, rfl, rfl⟩
instance : TyFld Try.prog 132 0 0 12 := ⟨_, _, rfl, rfl, rfl, rfl, _, rfl, by decide⟩
instance : TyFld Try.prog 132 1 1 12 := ⟨_, _, rfl, rfl, rfl, rfl, _, rfl, by decide⟩
instance : TyFld Try.prog 132 2 2 95 := ⟨_, _, rfl, rfl, rfl, rfl, _, rfl, by decide⟩
instance : TyFld Try.prog 132 3 3 126 := ⟨_, _, rfl, rfl, rfl, rfl, _, rfl, by decide⟩
instance : TyFld Try.prog 132 4 4 5 := ⟨_, _, rfl, rfl, rfl, rfl, _, rfl, by decide⟩
instance : TyFld Try.prog 132 5 5 5 := ⟨_, _, rfl, rfl, rfl, rfl, _, rfl, by decide⟩
instance : TyFld Try.prog 132 6 6 127 := ⟨_, _, rfl, rfl, rfl, rfl, _, rfl, by decide⟩
instance : TyFld Try.prog 132 7 7 128 := ⟨_, _, rfl, rfl, rfl, rfl, _, rfl, by decide⟩
instance : TyFld Try.prog 132 8 8 129 := ⟨_, _, rfl, rfl, rfl, rfl, _, rfl, by decide⟩
instance : TyFld Try.prog 132 9 9 130 := ⟨_, _, rfl, rfl, rfl, rfl, _, rfl, by decide⟩
instance : TyFld Try.prog 132 10 10 131 := ⟨_, _, rfl, rfl, rfl, rfl, _, rfl, by decide⟩
instance : TyStr Try.prog 132 [(0, 1), (1, 1), (2, 1), (3, 1), (4, 1), (5, 1), (6, 1), (7, 1), (8, 1), (9, 1), (10, 1)] [.int .u64 0, .int .u64 0, .int .u32 0, .int .u8 0, .int .u8 0, .int .u8 0, .int .u8 0, .nilFunc, .pointer none, .int .i32 0, .int .i32 0] := ⟨⟨_, _, rfl, rfl, rfl, _, rfl, rfl⟩, by simp [Value.oneCell']⟩
instance : TyZero Try.prog 132 [.int .u64 0, .int .u64 0, .int .u32 0, .int .u8 0, .int .u8 0, .int .u8 0, .int .u8 0, .nilFunc, .pointer none, .int .i32 0, .int .i32 0] := ⟨⟨_, _, rfl, rfl, rfl⟩, by simp [Value.oneCell']⟩
instance : TyAgg Try.prog 133 11 := ⟨fun _ => rfl, _, rfl, rfl⟩
instance : TyFld Try.prog 133 0 0 12 := ⟨_, _, rfl, rfl, rfl, rfl, _, rfl, by decide⟩
instance : TyFld Try.prog 133 1 1 12 := ⟨_, _, rfl, rfl, rfl, rfl, _, rfl, by decide⟩
instance : TyFld Try.prog 133 2 2 95 := ⟨_, _, rfl, rfl, rfl, rfl, _, rfl, by decide⟩
instance : TyFld Try.prog 133 3 3 126 := ⟨_, _, rfl, rfl, rfl, rfl, _, rfl, by decide⟩
instance : TyFld Try.prog 133 4 4 5 := ⟨_, _, rfl, rfl, rfl, rfl, _, rfl, by decide⟩
instance : TyFld Try.prog 133 5 5 5 := ⟨_, _, rfl, rfl, rfl, rfl, _, rfl, by decide⟩
instance : TyFld Try.prog 133 6 6 127 := ⟨_, _, rfl, rfl, rfl, rfl, _, rfl, by decide⟩
instance : TyFld Try.prog 133 7 7 128 := ⟨_, _, rfl, rfl, rfl, rfl, _, rfl, by decide⟩
instance : TyFld Try.prog 133 8 8 129 := ⟨_, _, rfl, rfl, rfl, rfl, _, rfl, by decide⟩
instance : TyFld Try.prog 133 9 9 130 := ⟨_, _, rfl, rfl, rfl, rfl, _, rfl, by decide⟩
instance : TyFld Try.prog 133 10 10 131 := ⟨_, _, rfl, rfl, rfl, rfl, _, rfl, by decide⟩
instance : TyStr Try.prog 133 [(0, 1), (1, 1), (2, 1), (3, 1), (4, 1), (5, 1), (6, 1), (7, 1), (8, 1), (9, 1), (10, 1)] [.int .u64 0, .int .u64 0, .int .u32 0, .int .u8 0, .int .u8 0, .int .u8 0, .int .u8 0, .nilFunc, .pointer none, .int .i32 0, .int .i32 0] := ⟨⟨_, _, rfl, rfl, rfl, _, rfl, rfl⟩, by simp [Value.oneCell']⟩
instance : TyZero Try.prog 133 [.int .u64 0, .int .u64 0, .int .u32 0, .int .u8 0, .int .u8 0, .int .u8 0, .int .u8 0, .nilFunc, .pointer none, .int .i32 0, .int .i32 0] := ⟨⟨_, _, rfl, rfl, rfl⟩, by simp [Value.oneCell']⟩
end Lg
