/- A part of the proof of a law of this seat: it adds no condition. By an AI agent. -/
import Derived.Test.YtoedknjnkeeohaaProg
import Derived.Test.YtoedknjnkeeohaaCore
set_option linter.all false
set_option maxRecDepth 100000
namespace Lg
open Go Go.Proofs
instance : TyOne Try.prog 1 := ⟨fun _ => rfl, _, rfl, rfl⟩
instance : TyZero Try.prog 1 [.nilFunc] := ⟨⟨_, _, rfl, rfl, rfl⟩, by simp [Value.oneCell']⟩
instance : TyOne Try.prog 2 := ⟨fun _ => rfl, _, rfl, rfl⟩
instance : TyZero Try.prog 2 [.int .i64 0] := ⟨⟨_, _, rfl, rfl, rfl⟩, by simp [Value.oneCell']⟩
instance : TyOne Try.prog 3 := ⟨fun _ => rfl, _, rfl, rfl⟩
instance : TyZero Try.prog 3 [.int .i64 0] := ⟨⟨_, _, rfl, rfl, rfl⟩, by simp [Value.oneCell']⟩
instance : TyOne Try.prog 4 := ⟨fun _ => rfl, _, rfl, rfl⟩
instance : TyZero Try.prog 4 [.bool false] := ⟨⟨_, _, rfl, rfl, rfl⟩, by simp [Value.oneCell']⟩
instance : TyOne Try.prog 5 := ⟨fun _ => rfl, _, rfl, rfl⟩
instance : TyZero Try.prog 5 [.int .u8 0] := ⟨⟨_, _, rfl, rfl, rfl⟩, by simp [Value.oneCell']⟩
instance : TyOne Try.prog 6 := ⟨fun _ => rfl, _, rfl, rfl⟩
instance : TyZero Try.prog 6 [.int .u8 0] := ⟨⟨_, _, rfl, rfl, rfl⟩, by simp [Value.oneCell']⟩
instance : TyAgg Try.prog 7 4 := ⟨fun _ => rfl, _, rfl, rfl⟩
instance : TyFld Try.prog 7 0 0 2 := ⟨_, _, rfl, rfl, rfl, rfl, _, rfl, by decide⟩
instance : TyFld Try.prog 7 1 1 3 := ⟨_, _, rfl, rfl, rfl, rfl, _, rfl, by decide⟩
instance : TyFld Try.prog 7 2 2 4 := ⟨_, _, rfl, rfl, rfl, rfl, _, rfl, by decide⟩
instance : TyFld Try.prog 7 3 3 6 := ⟨_, _, rfl, rfl, rfl, rfl, _, rfl, by decide⟩
instance : TyStr Try.prog 7 [(0, 1), (1, 1), (2, 1), (3, 1)] [.int .i64 0, .int .i64 0, .bool false, .int .u8 0] := ⟨⟨_, _, rfl, rfl, rfl, _, rfl, rfl⟩, by simp [Value.oneCell']⟩
instance : TyZero Try.prog 7 [.int .i64 0, .int .i64 0, .bool false, .int .u8 0] := ⟨⟨_, _, rfl, rfl, rfl⟩, by simp [Value.oneCell']⟩
instance : TyAgg Try.prog 8 4 := ⟨fun _ => rfl, _, rfl, rfl⟩
instance : TyFld Try.prog 8 0 0 2 := ⟨_, _, rfl, rfl, rfl, rfl, _, rfl, by decide⟩
instance : TyFld Try.prog 8 1 1 3 := ⟨_, _, rfl, rfl, rfl, rfl, _, rfl, by decide⟩
instance : TyFld Try.prog 8 2 2 4 := ⟨_, _, rfl, rfl, rfl, rfl, _, rfl, by decide⟩
instance : TyFld Try.prog 8 3 3 6 := ⟨_, _, rfl, rfl, rfl, rfl, _, rfl, by decide⟩
instance : TyStr Try.prog 8 [(0, 1), (1, 1), (2, 1), (3, 1)] [.int .i64 0, .int .i64 0, .bool false, .int .u8 0] := ⟨⟨_, _, rfl, rfl, rfl, _, rfl, rfl⟩, by simp [Value.oneCell']⟩
instance : TyZero Try.prog 8 [.int .i64 0, .int .i64 0, .bool false, .int .u8 0] := ⟨⟨_, _, rfl, rfl, rfl⟩, by simp [Value.oneCell']⟩
instance : TyOne Try.prog 9 := ⟨fun _ => rfl, _, rfl, rfl⟩
instance : TyZero Try.prog 9 [.string ByteArray.empty] := ⟨⟨_, _, rfl, rfl, rfl⟩, by simp [Value.oneCell']⟩
theorem tstr9 : Try.prog.underlying 9 = some .string := rfl
instance : TyOne Try.prog 10 := ⟨fun _ => rfl, _, rfl, rfl⟩
instance : TyZero Try.prog 10 [.string ByteArray.empty] := ⟨⟨_, _, rfl, rfl, rfl⟩, by simp [Value.oneCell']⟩
theorem tstr10 : Try.prog.underlying 10 = some .string := rfl
instance : TyOne Try.prog 11 := ⟨fun _ => rfl, _, rfl, rfl⟩
instance : TyZero Try.prog 11 [.string ByteArray.empty] := ⟨⟨_, _, rfl, rfl, rfl⟩, by simp [Value.oneCell']⟩
theorem tstr11 : Try.prog.underlying 11 = some .string := rfl
instance : TyOne Try.prog 12 := ⟨fun _ => rfl, _, rfl, rfl⟩
instance : TyZero Try.prog 12 [.int .u64 0] := ⟨⟨_, _, rfl, rfl, rfl⟩, by simp [Value.oneCell']⟩
instance : TyAgg Try.prog 13 2 := ⟨fun _ => rfl, _, rfl, rfl⟩
instance : TyFld Try.prog 13 0 0 9 := ⟨_, _, rfl, rfl, rfl, rfl, _, rfl, by decide⟩
instance : TyFld Try.prog 13 1 1 12 := ⟨_, _, rfl, rfl, rfl, rfl, _, rfl, by decide⟩
instance : TyStr Try.prog 13 [(0, 1), (1, 1)] [.string ByteArray.empty, .int .u64 0] := ⟨⟨_, _, rfl, rfl, rfl, _, rfl, rfl⟩, by simp [Value.oneCell']⟩
instance : TyZero Try.prog 13 [.string ByteArray.empty, .int .u64 0] := ⟨⟨_, _, rfl, rfl, rfl⟩, by simp [Value.oneCell']⟩
instance : TyAgg Try.prog 14 2 := ⟨fun _ => rfl, _, rfl, rfl⟩
instance : TyFld Try.prog 14 0 0 9 := ⟨_, _, rfl, rfl, rfl, rfl, _, rfl, by decide⟩
instance : TyFld Try.prog 14 1 1 12 := ⟨_, _, rfl, rfl, rfl, rfl, _, rfl, by decide⟩
instance : TyStr Try.prog 14 [(0, 1), (1, 1)] [.string ByteArray.empty, .int .u64 0] := ⟨⟨_, _, rfl, rfl, rfl, _, rfl, rfl⟩, by simp [Value.oneCell']⟩
instance : TyZero Try.prog 14 [.string ByteArray.empty, .int .u64 0] := ⟨⟨_, _, rfl, rfl, rfl⟩, by simp [Value.oneCell']⟩
instance : TyOne Try.prog 15 := ⟨fun _ => rfl, _, rfl, rfl⟩
instance : TyZero Try.prog 15 [.pointer none] := ⟨⟨_, _, rfl, rfl, rfl⟩, by simp [Value.oneCell']⟩
instance : TyOne Try.prog 16 := ⟨fun _ => rfl, _, rfl, rfl⟩
instance : TyZero Try.prog 16 [.pointer none] := ⟨⟨_, _, rfl, rfl, rfl⟩, by simp [Value.oneCell']⟩
instance : TyOne Try.prog 17 := ⟨fun _ => rfl, _, rfl, rfl⟩
instance : TyZero Try.prog 17 [.pointer none] := ⟨⟨_, _, rfl, rfl, rfl⟩, by simp [Value.oneCell']⟩
instance : TyAgg Try.prog 18 1 := ⟨fun _ => rfl, _, rfl, rfl⟩
instance : TyFld Try.prog 18 0 0 17 := ⟨_, _, rfl, rfl, rfl, rfl, _, rfl, by decide⟩
instance : TyStr Try.prog 18 [(0, 1)] [.pointer none] := ⟨⟨_, _, rfl, rfl, rfl, _, rfl, rfl⟩, by simp [Value.oneCell']⟩
instance : TyZero Try.prog 18 [.pointer none] := ⟨⟨_, _, rfl, rfl, rfl⟩, by simp [Value.oneCell']⟩
instance : TyAgg Try.prog 19 1 := ⟨fun _ => rfl, _, rfl, rfl⟩
instance : TyFld Try.prog 19 0 0 17 := ⟨_, _, rfl, rfl, rfl, rfl, _, rfl, by decide⟩
instance : TyStr Try.prog 19 [(0, 1)] [.pointer none] := ⟨⟨_, _, rfl, rfl, rfl, _, rfl, rfl⟩, by simp [Value.oneCell']⟩
instance : TyZero Try.prog 19 [.pointer none] := ⟨⟨_, _, rfl, rfl, rfl⟩, by simp [Value.oneCell']⟩
instance : TyOne Try.prog 20 := ⟨fun _ => rfl, _, rfl, rfl⟩
instance : TyZero Try.prog 20 [.nilIface] := ⟨⟨_, _, rfl, rfl, rfl⟩, by simp [Value.oneCell']⟩
instance : TyOne Try.prog 21 := ⟨fun _ => rfl, _, rfl, rfl⟩
instance : TyZero Try.prog 21 [.int .i32 0] := ⟨⟨_, _, rfl, rfl, rfl⟩, by simp [Value.oneCell']⟩
instance : TyOne Try.prog 22 := ⟨fun _ => rfl, _, rfl, rfl⟩
instance : TyZero Try.prog 22 [.slice none 0 0] := ⟨⟨_, _, rfl, rfl, rfl⟩, by simp [Value.oneCell']⟩
instance : TySl Try.prog 22 3 1 8 [.int .i64 0] := ⟨rfl, ⟨_, _, rfl, rfl, rfl, rfl, rfl, by decide⟩, rfl, by simp [Value.oneCell']⟩
instance : TyOne Try.prog 23 := ⟨fun _ => rfl, _, rfl, rfl⟩
instance : TyZero Try.prog 23 [.pointer none] := ⟨⟨_, _, rfl, rfl, rfl⟩, by simp [Value.oneCell']⟩
instance : TyAgg Try.prog 24 2 := ⟨fun _ => rfl, _, rfl, rfl⟩
instance : TyFld Try.prog 24 0 0 22 := ⟨_, _, rfl, rfl, rfl, rfl, _, rfl, by decide⟩
instance : TyFld Try.prog 24 1 1 3 := ⟨_, _, rfl, rfl, rfl, rfl, _, rfl, by decide⟩
instance : TyStr Try.prog 24 [(0, 1), (1, 1)] [.slice none 0 0, .int .i64 0] := ⟨⟨_, _, rfl, rfl, rfl, _, rfl, rfl⟩, by simp [Value.oneCell']⟩
instance : TyZero Try.prog 24 [.slice none 0 0, .int .i64 0] := ⟨⟨_, _, rfl, rfl, rfl⟩, by simp [Value.oneCell']⟩
instance : TyAgg Try.prog 25 2 := ⟨fun _ => rfl, _, rfl, rfl⟩
instance : TyFld Try.prog 25 0 0 22 := ⟨_, _, rfl, rfl, rfl, rfl, _, rfl, by decide⟩
instance : TyFld Try.prog 25 1 1 3 := ⟨_, _, rfl, rfl, rfl, rfl, _, rfl, by decide⟩
instance : TyStr Try.prog 25 [(0, 1), (1, 1)] [.slice none 0 0, .int .i64 0] := ⟨⟨_, _, rfl, rfl, rfl, _, rfl, rfl⟩, by simp [Value.oneCell']⟩
instance : TyZero Try.prog 25 [.slice none 0 0, .int .i64 0] := ⟨⟨_, _, rfl, rfl, rfl⟩, by simp [Value.oneCell']⟩
instance : TyAgg Try.prog 26 3 := ⟨fun _ => rfl, _, rfl, rfl⟩
instance : TyFld Try.prog 26 0 0 3 := ⟨_, _, rfl, rfl, rfl, rfl, _, rfl, by decide⟩
instance : TyFld Try.prog 26 1 1 3 := ⟨_, _, rfl, rfl, rfl, rfl, _, rfl, by decide⟩
instance : TyFld Try.prog 26 2 2 3 := ⟨_, _, rfl, rfl, rfl, rfl, _, rfl, by decide⟩
instance : TyStr Try.prog 26 [(0, 1), (1, 1), (2, 1)] [.int .i64 0, .int .i64 0, .int .i64 0] := ⟨⟨_, _, rfl, rfl, rfl, _, rfl, rfl⟩, by simp [Value.oneCell']⟩
instance : TyZero Try.prog 26 [.int .i64 0, .int .i64 0, .int .i64 0] := ⟨⟨_, _, rfl, rfl, rfl⟩, by simp [Value.oneCell']⟩
instance : TyAgg Try.prog 27 3 := ⟨fun _ => rfl, _, rfl, rfl⟩
instance : TyFld Try.prog 27 0 0 3 := ⟨_, _, rfl, rfl, rfl, rfl, _, rfl, by decide⟩
instance : TyFld Try.prog 27 1 1 3 := ⟨_, _, rfl, rfl, rfl, rfl, _, rfl, by decide⟩
instance : TyFld Try.prog 27 2 2 3 := ⟨_, _, rfl, rfl, rfl, rfl, _, rfl, by decide⟩
instance : TyStr Try.prog 27 [(0, 1), (1, 1), (2, 1)] [.int .i64 0, .int .i64 0, .int .i64 0] := ⟨⟨_, _, rfl, rfl, rfl, _, rfl, rfl⟩, by simp [Value.oneCell']⟩
instance : TyZero Try.prog 27 [.int .i64 0, .int .i64 0, .int .i64 0] := ⟨⟨_, _, rfl, rfl, rfl⟩, by simp [Value.oneCell']⟩
instance : TyOne Try.prog 28 := ⟨fun _ => rfl, _, rfl, rfl⟩
instance : TyZero Try.prog 28 [.nilFunc] := ⟨⟨_, _, rfl, rfl, rfl⟩, by simp [Value.oneCell']⟩
instance : TyAgg Try.prog 29 2 := ⟨fun _ => rfl, _, rfl, rfl⟩
instance : TyFld Try.prog 29 0 0 3 := ⟨_, _, rfl, rfl, rfl, rfl, _, rfl, by decide⟩
instance : TyFld Try.prog 29 1 1 22 := ⟨_, _, rfl, rfl, rfl, rfl, _, rfl, by decide⟩
instance : TyStr Try.prog 29 [(0, 1), (1, 1)] [.int .i64 0, .slice none 0 0] := ⟨⟨_, _, rfl, rfl, rfl, _, rfl, rfl⟩, by simp [Value.oneCell']⟩
instance : TyZero Try.prog 29 [.int .i64 0, .slice none 0 0] := ⟨⟨_, _, rfl, rfl, rfl⟩, by simp [Value.oneCell']⟩
instance : TyAgg Try.prog 30 2 := ⟨fun _ => rfl, _, rfl, rfl⟩
instance : TyFld Try.prog 30 0 0 3 := ⟨_, _, rfl, rfl, rfl, rfl, _, rfl, by decide⟩
instance : TyFld Try.prog 30 1 1 22 := ⟨_, _, rfl, rfl, rfl, rfl, _, rfl, by decide⟩
instance : TyStr Try.prog 30 [(0, 1), (1, 1)] [.int .i64 0, .slice none 0 0] := ⟨⟨_, _, rfl, rfl, rfl, _, rfl, rfl⟩, by simp [Value.oneCell']⟩
instance : TyZero Try.prog 30 [.int .i64 0, .slice none 0 0] := ⟨⟨_, _, rfl, rfl, rfl⟩, by simp [Value.oneCell']⟩
instance : TyOne Try.prog 31 := ⟨fun _ => rfl, _, rfl, rfl⟩
instance : TyZero Try.prog 31 [.nilFunc] := ⟨⟨_, _, rfl, rfl, rfl⟩, by simp [Value.oneCell']⟩
instance : TyOne Try.prog 32 := ⟨fun _ => rfl, _, rfl, rfl⟩
instance : TyZero Try.prog 32 [.slice none 0 0] := ⟨⟨_, _, rfl, rfl, rfl⟩, by simp [Value.oneCell']⟩
instance : TySl Try.prog 32 30 2 32 [.int .i64 0, .slice none 0 0] := ⟨rfl, ⟨_, _, rfl, rfl, rfl, rfl, rfl, by decide⟩, rfl, by simp [Value.oneCell']⟩
instance : TyOne Try.prog 33 := ⟨fun _ => rfl, _, rfl, rfl⟩
instance : TyZero Try.prog 33 [.nilFunc] := ⟨⟨_, _, rfl, rfl, rfl⟩, by simp [Value.oneCell']⟩
instance : TyOne Try.prog 34 := ⟨fun _ => rfl, _, rfl, rfl⟩
instance : TyZero Try.prog 34 [.int .i64 0] := ⟨⟨_, _, rfl, rfl, rfl⟩, by simp [Value.oneCell']⟩
instance : TyOne Try.prog 35 := ⟨fun _ => rfl, _, rfl, rfl⟩
instance : TyZero Try.prog 35 [.nilFunc] := ⟨⟨_, _, rfl, rfl, rfl⟩, by simp [Value.oneCell']⟩
instance : TyOne Try.prog 36 := ⟨fun _ => rfl, _, rfl, rfl⟩
instance : TyZero Try.prog 36 [.nilFunc] := ⟨⟨_, _, rfl, rfl, rfl⟩, by simp [Value.oneCell']⟩
instance : TyOne Try.prog 38 := ⟨fun _ => rfl, _, rfl, rfl⟩
instance : TyZero Try.prog 38 [.nilFunc] := ⟨⟨_, _, rfl, rfl, rfl⟩, by simp [Value.oneCell']⟩
instance : TyOne Try.prog 39 := ⟨fun _ => rfl, _, rfl, rfl⟩
instance : TyZero Try.prog 39 [.slice none 0 0] := ⟨⟨_, _, rfl, rfl, rfl⟩, by simp [Value.oneCell']⟩
instance : TySl Try.prog 39 76 4 48 [.int .i64 0, .int .i64 0, .bool false, .slice none 0 0] := ⟨rfl, ⟨_, _, rfl, rfl, rfl, rfl, rfl, by decide⟩, rfl, by simp [Value.oneCell']⟩
instance : TyOne Try.prog 41 := ⟨fun _ => rfl, _, rfl, rfl⟩
instance : TyZero Try.prog 41 [.nilFunc] := ⟨⟨_, _, rfl, rfl, rfl⟩, by simp [Value.oneCell']⟩
instance : TyOne Try.prog 43 := ⟨fun _ => rfl, _, rfl, rfl⟩
instance : TyZero Try.prog 43 [.nilFunc] := ⟨⟨_, _, rfl, rfl, rfl⟩, by simp [Value.oneCell']⟩
instance : TyOne Try.prog 44 := ⟨fun _ => rfl, _, rfl, rfl⟩
instance : TyZero Try.prog 44 [.nilFunc] := ⟨⟨_, _, rfl, rfl, rfl⟩, by simp [Value.oneCell']⟩
instance : TyOne Try.prog 45 := ⟨fun _ => rfl, _, rfl, rfl⟩
instance : TyZero Try.prog 45 [.nilFunc] := ⟨⟨_, _, rfl, rfl, rfl⟩, by simp [Value.oneCell']⟩
instance : TyOne Try.prog 46 := ⟨fun _ => rfl, _, rfl, rfl⟩
instance : TyZero Try.prog 46 [.nilFunc] := ⟨⟨_, _, rfl, rfl, rfl⟩, by simp [Value.oneCell']⟩
instance : TyOne Try.prog 47 := ⟨fun _ => rfl, _, rfl, rfl⟩
instance : TyZero Try.prog 47 [.nilFunc] := ⟨⟨_, _, rfl, rfl, rfl⟩, by simp [Value.oneCell']⟩
instance : TyOne Try.prog 48 := ⟨fun _ => rfl, _, rfl, rfl⟩
instance : TyZero Try.prog 48 [.nilFunc] := ⟨⟨_, _, rfl, rfl, rfl⟩, by simp [Value.oneCell']⟩
instance : TyOne Try.prog 49 := ⟨fun _ => rfl, _, rfl, rfl⟩
instance : TyZero Try.prog 49 [.nilFunc] := ⟨⟨_, _, rfl, rfl, rfl⟩, by simp [Value.oneCell']⟩
instance : TyOne Try.prog 50 := ⟨fun _ => rfl, _, rfl, rfl⟩
instance : TyZero Try.prog 50 [.nilFunc] := ⟨⟨_, _, rfl, rfl, rfl⟩, by simp [Value.oneCell']⟩
instance : TyOne Try.prog 51 := ⟨fun _ => rfl, _, rfl, rfl⟩
instance : TyZero Try.prog 51 [.pointer none] := ⟨⟨_, _, rfl, rfl, rfl⟩, by simp [Value.oneCell']⟩
instance : TyOne Try.prog 53 := ⟨fun _ => rfl, _, rfl, rfl⟩
instance : TyZero Try.prog 53 [.nilFunc] := ⟨⟨_, _, rfl, rfl, rfl⟩, by simp [Value.oneCell']⟩
instance : TyOne Try.prog 54 := ⟨fun _ => rfl, _, rfl, rfl⟩
instance : TyZero Try.prog 54 [.nilFunc] := ⟨⟨_, _, rfl, rfl, rfl⟩, by simp [Value.oneCell']⟩
instance : TyOne Try.prog 55 := ⟨fun _ => rfl, _, rfl, rfl⟩
instance : TyZero Try.prog 55 [.pointer none] := ⟨⟨_, _, rfl, rfl, rfl⟩, by simp [Value.oneCell']⟩
instance : TyOne Try.prog 56 := ⟨fun _ => rfl, _, rfl, rfl⟩
instance : TyZero Try.prog 56 [.nilFunc] := ⟨⟨_, _, rfl, rfl, rfl⟩, by simp [Value.oneCell']⟩
instance : TyOne Try.prog 57 := ⟨fun _ => rfl, _, rfl, rfl⟩
instance : TyZero Try.prog 57 [.nilFunc] := ⟨⟨_, _, rfl, rfl, rfl⟩, by simp [Value.oneCell']⟩
instance : TyOne Try.prog 59 := ⟨fun _ => rfl, _, rfl, rfl⟩
instance : TyZero Try.prog 59 [.nilFunc] := ⟨⟨_, _, rfl, rfl, rfl⟩, by simp [Value.oneCell']⟩
instance : TyOne Try.prog 60 := ⟨fun _ => rfl, _, rfl, rfl⟩
instance : TyZero Try.prog 60 [.nilFunc] := ⟨⟨_, _, rfl, rfl, rfl⟩, by simp [Value.oneCell']⟩
instance : TyOne Try.prog 62 := ⟨fun _ => rfl, _, rfl, rfl⟩
instance : TyZero Try.prog 62 [.nilFunc] := ⟨⟨_, _, rfl, rfl, rfl⟩, by simp [Value.oneCell']⟩
instance : TyOne Try.prog 63 := ⟨fun _ => rfl, _, rfl, rfl⟩
instance : TyZero Try.prog 63 [.nilFunc] := ⟨⟨_, _, rfl, rfl, rfl⟩, by simp [Value.oneCell']⟩
instance : TyOne Try.prog 64 := ⟨fun _ => rfl, _, rfl, rfl⟩
instance : TyZero Try.prog 64 [.nilFunc] := ⟨⟨_, _, rfl, rfl, rfl⟩, by simp [Value.oneCell']⟩
instance : TyOne Try.prog 65 := ⟨fun _ => rfl, _, rfl, rfl⟩
instance : TyZero Try.prog 65 [.nilFunc] := ⟨⟨_, _, rfl, rfl, rfl⟩, by simp [Value.oneCell']⟩
instance : TyOne Try.prog 66 := ⟨fun _ => rfl, _, rfl, rfl⟩
instance : TyZero Try.prog 66 [.nilFunc] := ⟨⟨_, _, rfl, rfl, rfl⟩, by simp [Value.oneCell']⟩
instance : TyOne Try.prog 67 := ⟨fun _ => rfl, _, rfl, rfl⟩
instance : TyZero Try.prog 67 [.nilFunc] := ⟨⟨_, _, rfl, rfl, rfl⟩, by simp [Value.oneCell']⟩
instance : TyOne Try.prog 68 := ⟨fun _ => rfl, _, rfl, rfl⟩
instance : TyZero Try.prog 68 [.nilFunc] := ⟨⟨_, _, rfl, rfl, rfl⟩, by simp [Value.oneCell']⟩
instance : TyOne Try.prog 69 := ⟨fun _ => rfl, _, rfl, rfl⟩
instance : TyZero Try.prog 69 [.nilFunc] := ⟨⟨_, _, rfl, rfl, rfl⟩, by simp [Value.oneCell']⟩
instance : TyOne Try.prog 70 := ⟨fun _ => rfl, _, rfl, rfl⟩
instance : TyZero Try.prog 70 [.nilFunc] := ⟨⟨_, _, rfl, rfl, rfl⟩, by simp [Value.oneCell']⟩
instance : TyOne Try.prog 71 := ⟨fun _ => rfl, _, rfl, rfl⟩
instance : TyZero Try.prog 71 [.nilFunc] := ⟨⟨_, _, rfl, rfl, rfl⟩, by simp [Value.oneCell']⟩
instance : TyOne Try.prog 72 := ⟨fun _ => rfl, _, rfl, rfl⟩
instance : TyZero Try.prog 72 [.nilFunc] := ⟨⟨_, _, rfl, rfl, rfl⟩, by simp [Value.oneCell']⟩
instance : TyOne Try.prog 73 := ⟨fun _ => rfl, _, rfl, rfl⟩
instance : TyZero Try.prog 73 [.nilFunc] := ⟨⟨_, _, rfl, rfl, rfl⟩, by simp [Value.oneCell']⟩
instance : TyOne Try.prog 74 := ⟨fun _ => rfl, _, rfl, rfl⟩
instance : TyZero Try.prog 74 [.nilFunc] := ⟨⟨_, _, rfl, rfl, rfl⟩, by simp [Value.oneCell']⟩
instance : TyAgg Try.prog 75 4 := ⟨fun _ => rfl, _, rfl, rfl⟩
instance : TyFld Try.prog 75 0 0 3 := ⟨_, _, rfl, rfl, rfl, rfl, _, rfl, by decide⟩
instance : TyFld Try.prog 75 1 1 3 := ⟨_, _, rfl, rfl, rfl, rfl, _, rfl, by decide⟩
instance : TyFld Try.prog 75 2 2 4 := ⟨_, _, rfl, rfl, rfl, rfl, _, rfl, by decide⟩
instance : TyFld Try.prog 75 3 3 22 := ⟨_, _, rfl, rfl, rfl, rfl, _, rfl, by decide⟩
instance : TyStr Try.prog 75 [(0, 1), (1, 1), (2, 1), (3, 1)] [.int .i64 0, .int .i64 0, .bool false, .slice none 0 0] := ⟨⟨_, _, rfl, rfl, rfl, _, rfl, rfl⟩, by simp [Value.oneCell']⟩
instance : TyZero Try.prog 75 [.int .i64 0, .int .i64 0, .bool false, .slice none 0 0] := ⟨⟨_, _, rfl, rfl, rfl⟩, by simp [Value.oneCell']⟩
instance : TyAgg Try.prog 76 4 := ⟨fun _ => rfl, _, rfl, rfl⟩
instance : TyFld Try.prog 76 0 0 3 := ⟨_, _, rfl, rfl, rfl, rfl, _, rfl, by decide⟩
instance : TyFld Try.prog 76 1 1 3 := ⟨_, _, rfl, rfl, rfl, rfl, _, rfl, by decide⟩
instance : TyFld Try.prog 76 2 2 4 := ⟨_, _, rfl, rfl, rfl, rfl, _, rfl, by decide⟩
instance : TyFld Try.prog 76 3 3 22 := ⟨_, _, rfl, rfl, rfl, rfl, _, rfl, by decide⟩
instance : TyStr Try.prog 76 [(0, 1), (1, 1), (2, 1), (3, 1)] [.int .i64 0, .int .i64 0, .bool false, .slice none 0 0] := ⟨⟨_, _, rfl, rfl, rfl, _, rfl, rfl⟩, by simp [Value.oneCell']⟩
instance : TyZero Try.prog 76 [.int .i64 0, .int .i64 0, .bool false, .slice none 0 0] := ⟨⟨_, _, rfl, rfl, rfl⟩, by simp [Value.oneCell']⟩
instance : TyOne Try.prog 77 := ⟨fun _ => rfl, _, rfl, rfl⟩
instance : TyZero Try.prog 77 [.nilFunc] := ⟨⟨_, _, rfl, rfl, rfl⟩, by simp [Value.oneCell']⟩
instance : TyOne Try.prog 78 := ⟨fun _ => rfl, _, rfl, rfl⟩
instance : TyZero Try.prog 78 [.nilFunc] := ⟨⟨_, _, rfl, rfl, rfl⟩, by simp [Value.oneCell']⟩
instance : TyOne Try.prog 79 := ⟨fun _ => rfl, _, rfl, rfl⟩
instance : TyZero Try.prog 79 [.nilFunc] := ⟨⟨_, _, rfl, rfl, rfl⟩, by simp [Value.oneCell']⟩
instance : TyOne Try.prog 80 := ⟨fun _ => rfl, _, rfl, rfl⟩
instance : TyZero Try.prog 80 [.nilFunc] := ⟨⟨_, _, rfl, rfl, rfl⟩, by simp [Value.oneCell']⟩
instance : TyOne Try.prog 81 := ⟨fun _ => rfl, _, rfl, rfl⟩
instance : TyZero Try.prog 81 [.nilFunc] := ⟨⟨_, _, rfl, rfl, rfl⟩, by simp [Value.oneCell']⟩
instance : TyOne Try.prog 82 := ⟨fun _ => rfl, _, rfl, rfl⟩
instance : TyZero Try.prog 82 [.nilFunc] := ⟨⟨_, _, rfl, rfl, rfl⟩, by simp [Value.oneCell']⟩
instance : TyAgg Try.prog 83 4 := ⟨fun _ => rfl, _, rfl, rfl⟩
instance : TyFld Try.prog 83 0 0 27 := ⟨_, _, rfl, rfl, rfl, rfl, _, rfl, by decide⟩
instance : TyFld Try.prog 83 1 3 32 := ⟨_, _, rfl, rfl, rfl, rfl, _, rfl, by decide⟩
instance : TyStr Try.prog 83 [(0, 3), (3, 1)] [.int .i64 0, .int .i64 0, .int .i64 0, .slice none 0 0] := ⟨⟨_, _, rfl, rfl, rfl, _, rfl, rfl⟩, by simp [Value.oneCell']⟩
instance : TyZero Try.prog 83 [.int .i64 0, .int .i64 0, .int .i64 0, .slice none 0 0] := ⟨⟨_, _, rfl, rfl, rfl⟩, by simp [Value.oneCell']⟩
instance : TyAgg Try.prog 84 4 := ⟨fun _ => rfl, _, rfl, rfl⟩
instance : TyFld Try.prog 84 0 0 27 := ⟨_, _, rfl, rfl, rfl, rfl, _, rfl, by decide⟩
instance : TyFld Try.prog 84 1 3 32 := ⟨_, _, rfl, rfl, rfl, rfl, _, rfl, by decide⟩
instance : TyStr Try.prog 84 [(0, 3), (3, 1)] [.int .i64 0, .int .i64 0, .int .i64 0, .slice none 0 0] := ⟨⟨_, _, rfl, rfl, rfl, _, rfl, rfl⟩, by simp [Value.oneCell']⟩
instance : TyZero Try.prog 84 [.int .i64 0, .int .i64 0, .int .i64 0, .slice none 0 0] := ⟨⟨_, _, rfl, rfl, rfl⟩, by simp [Value.oneCell']⟩
instance : TyAgg Try.prog 85 4 := ⟨fun _ => rfl, _, rfl, rfl⟩
instance : TyFld Try.prog 85 0 0 27 := ⟨_, _, rfl, rfl, rfl, rfl, _, rfl, by decide⟩
instance : TyFld Try.prog 85 1 3 32 := ⟨_, _, rfl, rfl, rfl, rfl, _, rfl, by decide⟩
instance : TyStr Try.prog 85 [(0, 3), (3, 1)] [.int .i64 0, .int .i64 0, .int .i64 0, .slice none 0 0] := ⟨⟨_, _, rfl, rfl, rfl, _, rfl, rfl⟩, by simp [Value.oneCell']⟩
instance : TyZero Try.prog 85 [.int .i64 0, .int .i64 0, .int .i64 0, .slice none 0 0] := ⟨⟨_, _, rfl, rfl, rfl⟩, by simp [Value.oneCell']⟩
instance : TyAgg Try.prog 86 4 := ⟨fun _ => rfl, _, rfl, rfl⟩
instance : TyFld Try.prog 86 0 0 27 := ⟨_, _, rfl, rfl, rfl, rfl, _, rfl, by decide⟩
instance : TyFld Try.prog 86 1 3 32 := ⟨_, _, rfl, rfl, rfl, rfl, _, rfl, by decide⟩
instance : TyStr Try.prog 86 [(0, 3), (3, 1)] [.int .i64 0, .int .i64 0, .int .i64 0, .slice none 0 0] := ⟨⟨_, _, rfl, rfl, rfl, _, rfl, rfl⟩, by simp [Value.oneCell']⟩
instance : TyZero Try.prog 86 [.int .i64 0, .int .i64 0, .int .i64 0, .slice none 0 0] := ⟨⟨_, _, rfl, rfl, rfl⟩, by simp [Value.oneCell']⟩
instance : TyOne Try.prog 88 := ⟨fun _ => rfl, _, rfl, rfl⟩
instance : TyZero Try.prog 88 [.nilFunc] := ⟨⟨_, _, rfl, rfl, rfl⟩, by simp [Value.oneCell']⟩
instance : TyOne Try.prog 89 := ⟨fun _ => rfl, _, rfl, rfl⟩
instance : TyZero Try.prog 89 [.nilFunc] := ⟨⟨_, _, rfl, rfl, rfl⟩, by simp [Value.oneCell']⟩
instance : TyOne Try.prog 90 := ⟨fun _ => rfl, _, rfl, rfl⟩
instance : TyZero Try.prog 90 [.nilFunc] := ⟨⟨_, _, rfl, rfl, rfl⟩, by simp [Value.oneCell']⟩
instance : TyOne Try.prog 91 := ⟨fun _ => rfl, _, rfl, rfl⟩
instance : TyZero Try.prog 91 [.nilFunc] := ⟨⟨_, _, rfl, rfl, rfl⟩, by simp [Value.oneCell']⟩
instance : TyOne Try.prog 92 := ⟨fun _ => rfl, _, rfl, rfl⟩
instance : TyZero Try.prog 92 [.nilFunc] := ⟨⟨_, _, rfl, rfl, rfl⟩, by simp [Value.oneCell']⟩
instance : TyOne Try.prog 93 := ⟨fun _ => rfl, _, rfl, rfl⟩
instance : TyZero Try.prog 93 [.int .u64 0] := ⟨⟨_, _, rfl, rfl, rfl⟩, by simp [Value.oneCell']⟩
instance : TyOne Try.prog 94 := ⟨fun _ => rfl, _, rfl, rfl⟩
instance : TyZero Try.prog 94 [.nilFunc] := ⟨⟨_, _, rfl, rfl, rfl⟩, by simp [Value.oneCell']⟩
instance : TyOne Try.prog 95 := ⟨fun _ => rfl, _, rfl, rfl⟩
instance : TyZero Try.prog 95 [.nilFunc] := ⟨⟨_, _, rfl, rfl, rfl⟩, by simp [Value.oneCell']⟩
instance : TyOne Try.prog 96 := ⟨fun _ => rfl, _, rfl, rfl⟩
instance : TyZero Try.prog 96 [.nilFunc] := ⟨⟨_, _, rfl, rfl, rfl⟩, by simp [Value.oneCell']⟩
instance : TyOne Try.prog 97 := ⟨fun _ => rfl, _, rfl, rfl⟩
instance : TyZero Try.prog 97 [.nilFunc] := ⟨⟨_, _, rfl, rfl, rfl⟩, by simp [Value.oneCell']⟩
instance : TyOne Try.prog 98 := ⟨fun _ => rfl, _, rfl, rfl⟩
instance : TyZero Try.prog 98 [.nilFunc] := ⟨⟨_, _, rfl, rfl, rfl⟩, by simp [Value.oneCell']⟩
instance : TyOne Try.prog 99 := ⟨fun _ => rfl, _, rfl, rfl⟩
instance : TyZero Try.prog 99 [.nilFunc] := ⟨⟨_, _, rfl, rfl, rfl⟩, by simp [Value.oneCell']⟩
instance : TyOne Try.prog 100 := ⟨fun _ => rfl, _, rfl, rfl⟩
instance : TyZero Try.prog 100 [.int .i64 0] := ⟨⟨_, _, rfl, rfl, rfl⟩, by simp [Value.oneCell']⟩
instance : TyOne Try.prog 102 := ⟨fun _ => rfl, _, rfl, rfl⟩
instance : TyZero Try.prog 102 [.nilFunc] := ⟨⟨_, _, rfl, rfl, rfl⟩, by simp [Value.oneCell']⟩
instance : TyOne Try.prog 103 := ⟨fun _ => rfl, _, rfl, rfl⟩
instance : TyZero Try.prog 103 [.nilFunc] := ⟨⟨_, _, rfl, rfl, rfl⟩, by simp [Value.oneCell']⟩
instance : TyOne Try.prog 104 := ⟨fun _ => rfl, _, rfl, rfl⟩
instance : TyZero Try.prog 104 [.nilFunc] := ⟨⟨_, _, rfl, rfl, rfl⟩, by simp [Value.oneCell']⟩
instance : TyOne Try.prog 105 := ⟨fun _ => rfl, _, rfl, rfl⟩
instance : TyZero Try.prog 105 [.nilFunc] := ⟨⟨_, _, rfl, rfl, rfl⟩, by simp [Value.oneCell']⟩
instance : TyOne Try.prog 106 := ⟨fun _ => rfl, _, rfl, rfl⟩
instance : TyZero Try.prog 106 [.nilFunc] := ⟨⟨_, _, rfl, rfl, rfl⟩, by simp [Value.oneCell']⟩
instance : TyOne Try.prog 107 := ⟨fun _ => rfl, _, rfl, rfl⟩
instance : TyZero Try.prog 107 [.int .u32 0] := ⟨⟨_, _, rfl, rfl, rfl⟩, by simp [Value.oneCell']⟩
instance : TyOne Try.prog 108 := ⟨fun _ => rfl, _, rfl, rfl⟩
instance : TyZero Try.prog 108 [.nilFunc] := ⟨⟨_, _, rfl, rfl, rfl⟩, by simp [Value.oneCell']⟩
instance : TyOne Try.prog 109 := ⟨fun _ => rfl, _, rfl, rfl⟩
instance : TyZero Try.prog 109 [.int .u64 0] := ⟨⟨_, _, rfl, rfl, rfl⟩, by simp [Value.oneCell']⟩
instance : TyOne Try.prog 110 := ⟨fun _ => rfl, _, rfl, rfl⟩
instance : TyZero Try.prog 110 [.nilFunc] := ⟨⟨_, _, rfl, rfl, rfl⟩, by simp [Value.oneCell']⟩
instance : TyOne Try.prog 111 := ⟨fun _ => rfl, _, rfl, rfl⟩
instance : TyZero Try.prog 111 [.int .u64 0] := ⟨⟨_, _, rfl, rfl, rfl⟩, by simp [Value.oneCell']⟩
instance : TyOne Try.prog 112 := ⟨fun _ => rfl, _, rfl, rfl⟩
instance : TyZero Try.prog 112 [.nilFunc] := ⟨⟨_, _, rfl, rfl, rfl⟩, by simp [Value.oneCell']⟩
instance : TyOne Try.prog 113 := ⟨fun _ => rfl, _, rfl, rfl⟩
instance : TyZero Try.prog 113 [.nilFunc] := ⟨⟨_, _, rfl, rfl, rfl⟩, by simp [Value.oneCell']⟩
instance : TyOne Try.prog 114 := ⟨fun _ => rfl, _, rfl, rfl⟩
instance : TyZero Try.prog 114 [.nilFunc] := ⟨⟨_, _, rfl, rfl, rfl⟩, by simp [Value.oneCell']⟩
instance : TyOne Try.prog 115 := ⟨fun _ => rfl, _, rfl, rfl⟩
instance : TyZero Try.prog 115 [.pointer none] := ⟨⟨_, _, rfl, rfl, rfl⟩, by simp [Value.oneCell']⟩
instance : TyOne Try.prog 116 := ⟨fun _ => rfl, _, rfl, rfl⟩
instance : TyZero Try.prog 116 [.nilFunc] := ⟨⟨_, _, rfl, rfl, rfl⟩, by simp [Value.oneCell']⟩
instance : TyOne Try.prog 117 := ⟨fun _ => rfl, _, rfl, rfl⟩
instance : TyZero Try.prog 117 [.nilFunc] := ⟨⟨_, _, rfl, rfl, rfl⟩, by simp [Value.oneCell']⟩
instance : TyOne Try.prog 118 := ⟨fun _ => rfl, _, rfl, rfl⟩
instance : TyZero Try.prog 118 [.nilFunc] := ⟨⟨_, _, rfl, rfl, rfl⟩, by simp [Value.oneCell']⟩
instance : TyOne Try.prog 119 := ⟨fun _ => rfl, _, rfl, rfl⟩
instance : TyZero Try.prog 119 [.pointer none] := ⟨⟨_, _, rfl, rfl, rfl⟩, by simp [Value.oneCell']⟩
instance : TyOne Try.prog 121 := ⟨fun _ => rfl, _, rfl, rfl⟩
instance : TyZero Try.prog 121 [.nilFunc] := ⟨⟨_, _, rfl, rfl, rfl⟩, by simp [Value.oneCell']⟩
instance : TyOne Try.prog 122 := ⟨fun _ => rfl, _, rfl, rfl⟩
instance : TyZero Try.prog 122 [.nilFunc] := ⟨⟨_, _, rfl, rfl, rfl⟩, by simp [Value.oneCell']⟩
instance : TyOne Try.prog 123 := ⟨fun _ => rfl, _, rfl, rfl⟩
instance : TyZero Try.prog 123 [.nilFunc] := ⟨⟨_, _, rfl, rfl, rfl⟩, by simp [Value.oneCell']⟩
instance : TyOne Try.prog 124 := ⟨fun _ => rfl, _, rfl, rfl⟩
instance : TyZero Try.prog 124 [.nilFunc] := ⟨⟨_, _, rfl, rfl, rfl⟩, by simp [Value.oneCell']⟩
instance : TyAgg Try.prog 125 4 := ⟨fun _ => rfl, _, rfl, rfl⟩
instance : TyFld Try.prog 125 0 0 17 := ⟨_, _, rfl, rfl, rfl, rfl, _, rfl, by decide⟩
instance : TyFld Try.prog 125 1 1 17 := ⟨_, _, rfl, rfl, rfl, rfl, _, rfl, by decide⟩
instance : TyFld Try.prog 125 2 2 17 := ⟨_, _, rfl, rfl, rfl, rfl, _, rfl, by decide⟩
instance : TyFld Try.prog 125 3 3 9 := ⟨_, _, rfl, rfl, rfl, rfl, _, rfl, by decide⟩
instance : TyStr Try.prog 125 [(0, 1), (1, 1), (2, 1), (3, 1)] [.pointer none, .pointer none, .pointer none, .string ByteArray.empty] := ⟨⟨_, _, rfl, rfl, rfl, _, rfl, rfl⟩, by simp [Value.oneCell']⟩
instance : TyZero Try.prog 125 [.pointer none, .pointer none, .pointer none, .string ByteArray.empty] := ⟨⟨_, _, rfl, rfl, rfl⟩, by simp [Value.oneCell']⟩
instance : TyAgg Try.prog 126 4 := ⟨fun _ => rfl, _, rfl, rfl⟩
instance : TyFld Try.prog 126 0 0 17 := ⟨_, _, rfl, rfl, rfl, rfl, _, rfl, by decide⟩
instance : TyFld Try.prog 126 1 1 17 := ⟨_, _, rfl, rfl, rfl, rfl, _, rfl, by decide⟩
instance : TyFld Try.prog 126 2 2 17 := ⟨_, _, rfl, rfl, rfl, rfl, _, rfl, by decide⟩
instance : TyFld Try.prog 126 3 3 9 := ⟨_, _, rfl, rfl, rfl, rfl, _, rfl, by decide⟩
instance : TyStr Try.prog 126 [(0, 1), (1, 1), (2, 1), (3, 1)] [.pointer none, .pointer none, .pointer none, .string ByteArray.empty] := ⟨⟨_, _, rfl, rfl, rfl, _, rfl, rfl⟩, by simp [Value.oneCell']⟩
instance : TyZero Try.prog 126 [.pointer none, .pointer none, .pointer none, .string ByteArray.empty] := ⟨⟨_, _, rfl, rfl, rfl⟩, by simp [Value.oneCell']⟩
instance : TyOne Try.prog 130 := ⟨fun _ => rfl, _, rfl, rfl⟩
instance : TyZero Try.prog 130 [.nilFunc] := ⟨⟨_, _, rfl, rfl, rfl⟩, by simp [Value.oneCell']⟩
instance : TyOne Try.prog 131 := ⟨fun _ => rfl, _, rfl, rfl⟩
instance : TyZero Try.prog 131 [.int .u8 0] := ⟨⟨_, _, rfl, rfl, rfl⟩, by simp [Value.oneCell']⟩
instance : TyOne Try.prog 132 := ⟨fun _ => rfl, _, rfl, rfl⟩
instance : TyZero Try.prog 132 [.int .u8 0] := ⟨⟨_, _, rfl, rfl, rfl⟩, by simp [Value.oneCell']⟩
instance : TyOne Try.prog 133 := ⟨fun _ => rfl, _, rfl, rfl⟩
instance : TyZero Try.prog 133 [.nilFunc] := ⟨⟨_, _, rfl, rfl, rfl⟩, by simp [Value.oneCell']⟩
instance : TyOne Try.prog 134 := ⟨fun _ => rfl, _, rfl, rfl⟩
instance : TyZero Try.prog 134 [.pointer none] := ⟨⟨_, _, rfl, rfl, rfl⟩, by simp [Value.oneCell']⟩
instance : TyOne Try.prog 135 := ⟨fun _ => rfl, _, rfl, rfl⟩
instance : TyZero Try.prog 135 [.int .i32 0] := ⟨⟨_, _, rfl, rfl, rfl⟩, by simp [Value.oneCell']⟩
instance : TyOne Try.prog 136 := ⟨fun _ => rfl, _, rfl, rfl⟩
instance : TyZero Try.prog 136 [.int .i32 0] := ⟨⟨_, _, rfl, rfl, rfl⟩, by simp [Value.oneCell']⟩
instance : TyAgg Try.prog 137 11 := ⟨fun _ => rfl, _, rfl, rfl⟩
instance : TyFld Try.prog 137 0 0 12 := ⟨_, _, rfl, rfl, rfl, rfl, _, rfl, by decide⟩
instance : TyFld Try.prog 137 1 1 12 := ⟨_, _, rfl, rfl, rfl, rfl, _, rfl, by decide⟩
instance : TyFld Try.prog 137 2 2 107 := ⟨_, _, rfl, rfl, rfl, rfl, _, rfl, by decide⟩
instance : TyFld Try.prog 137 3 3 131 := ⟨_, _, rfl, rfl, rfl, rfl, _, rfl, by decide⟩
instance : TyFld Try.prog 137 4 4 5 := ⟨_, _, rfl, rfl, rfl, rfl, _, rfl, by decide⟩
instance : TyFld Try.prog 137 5 5 5 := ⟨_, _, rfl, rfl, rfl, rfl, _, rfl, by decide⟩
instance : TyFld Try.prog 137 6 6 132 := ⟨_, _, rfl, rfl, rfl, rfl, _, rfl, by decide⟩
instance : TyFld Try.prog 137 7 7 133 := ⟨_, _, rfl, rfl, rfl, rfl, _, rfl, by decide⟩
instance : TyFld Try.prog 137 8 8 134 := ⟨_, _, rfl, rfl, rfl, rfl, _, rfl, by decide⟩
instance : TyFld Try.prog 137 9 9 135 := ⟨_, _, rfl, rfl, rfl, rfl, _, rfl, by decide⟩
instance : TyFld Try.prog 137 10 10 136 := ⟨_, _, rfl, rfl, rfl, rfl, _, rfl, by decide⟩
instance : TyStr Try.prog 137 [(0, 1), (1, 1), (2, 1), (3, 1), (4, 1), (5, 1), (6, 1), (7, 1), (8, 1), (9, 1), (10, 1)] [.int .u64 0, .int .u64 0, .int .u32 0, .int .u8 0, .int .u8 0, .int .u8 0, .int .u8 0, .nilFunc, .pointer none, .int .i32 0, .int .i32 0] := ⟨⟨_, _, rfl, rfl, rfl, _, rfl, rfl⟩, by simp [Value.oneCell']⟩
instance : TyZero Try.prog 137 [.int .u64 0, .int .u64 0, .int .u32 0, .int .u8 0, .int .u8 0, .int .u8 0, .int .u8 0, .nilFunc, .pointer none, .int .i32 0, .int .i32 0] := ⟨⟨_, _, rfl, rfl, rfl⟩, by simp [Value.oneCell']⟩
instance : TyAgg Try.prog 138 11 := ⟨fun _ => rfl, _, rfl, rfl⟩
instance : TyFld Try.prog 138 0 0 12 := ⟨_, _, rfl, rfl, rfl, rfl, _, rfl, by decide⟩
instance : TyFld Try.prog 138 1 1 12 := ⟨_, _, rfl, rfl, rfl, rfl, _, rfl, by decide⟩
instance : TyFld Try.prog 138 2 2 107 := ⟨_, _, rfl, rfl, rfl, rfl, _, rfl, by decide⟩
instance : TyFld Try.prog 138 3 3 131 := ⟨_, _, rfl, rfl, rfl, rfl, _, rfl, by decide⟩
instance : TyFld Try.prog 138 4 4 5 := ⟨_, _, rfl, rfl, rfl, rfl, _, rfl, by decide⟩
instance : TyFld Try.prog 138 5 5 5 := ⟨_, _, rfl, rfl, rfl, rfl, _, rfl, by decide⟩
instance : TyFld Try.prog 138 6 6 132 := ⟨_, _, rfl, rfl, rfl, rfl, _, rfl, by decide⟩
instance : TyFld Try.prog 138 7 7 133 := ⟨_, _, rfl, rfl, rfl, rfl, _, rfl, by decide⟩
instance : TyFld Try.prog 138 8 8 134 := ⟨_, _, rfl, rfl, rfl, rfl, _, rfl, by decide⟩
instance : TyFld Try.prog 138 9 9 135 := ⟨_, _, rfl, rfl, rfl, rfl, _, rfl, by decide⟩
instance : TyFld Try.prog 138 10 10 136 := ⟨_, _, rfl, rfl, rfl, rfl, _, rfl, by decide⟩
instance : TyStr Try.prog 138 [(0, 1), (1, 1), (2, 1), (3, 1), (4, 1), (5, 1), (6, 1), (7, 1), (8, 1), (9, 1), (10, 1)] [.int .u64 0, .int .u64 0, .int .u32 0, .int .u8 0, .int .u8 0, .int .u8 0, .int .u8 0, .nilFunc, .pointer none, .int .i32 0, .int .i32 0] := ⟨⟨_, _, rfl, rfl, rfl, _, rfl, rfl⟩, by simp [Value.oneCell']⟩
instance : TyZero Try.prog 138 [.int .u64 0, .int .u64 0, .int .u32 0, .int .u8 0, .int .u8 0, .int .u8 0, .int .u8 0, .nilFunc, .pointer none, .int .i32 0, .int .i32 0] := ⟨⟨_, _, rfl, rfl, rfl⟩, by simp [Value.oneCell']⟩
end Lg
