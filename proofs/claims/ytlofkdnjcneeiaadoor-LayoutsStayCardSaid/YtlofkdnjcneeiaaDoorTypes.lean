/- A part of the proof of a law of this seat: it adds no condition. By an AI agent. -/
import Derived.Test.YtlofkdnjcneeiaaDoorProg
import Derived.Test.YtlofkdnjcneeiaaDoorCore
set_option linter.all false
set_option maxRecDepth 100000
namespace Lg
open Go Go.Proofs
instance : TyOne Tryd.prog 1 := ⟨fun _ => rfl, _, rfl, rfl⟩
instance : TyZero Tryd.prog 1 [.nilFunc] := ⟨⟨_, _, rfl, rfl, rfl⟩, by simp [Value.oneCell']⟩
instance : TyOne Tryd.prog 2 := ⟨fun _ => rfl, _, rfl, rfl⟩
instance : TyZero Tryd.prog 2 [.int .i64 0] := ⟨⟨_, _, rfl, rfl, rfl⟩, by simp [Value.oneCell']⟩
instance : TyOne Tryd.prog 3 := ⟨fun _ => rfl, _, rfl, rfl⟩
instance : TyZero Tryd.prog 3 [.int .i64 0] := ⟨⟨_, _, rfl, rfl, rfl⟩, by simp [Value.oneCell']⟩
instance : TyOne Tryd.prog 4 := ⟨fun _ => rfl, _, rfl, rfl⟩
instance : TyZero Tryd.prog 4 [.bool false] := ⟨⟨_, _, rfl, rfl, rfl⟩, by simp [Value.oneCell']⟩
instance : TyOne Tryd.prog 5 := ⟨fun _ => rfl, _, rfl, rfl⟩
instance : TyZero Tryd.prog 5 [.int .u8 0] := ⟨⟨_, _, rfl, rfl, rfl⟩, by simp [Value.oneCell']⟩
instance : TyOne Tryd.prog 6 := ⟨fun _ => rfl, _, rfl, rfl⟩
instance : TyZero Tryd.prog 6 [.int .u8 0] := ⟨⟨_, _, rfl, rfl, rfl⟩, by simp [Value.oneCell']⟩
instance : TyAgg Tryd.prog 7 4 := ⟨fun _ => rfl, _, rfl, rfl⟩
instance : TyFld Tryd.prog 7 0 0 2 := ⟨_, _, rfl, rfl, rfl, rfl, _, rfl, by decide⟩
instance : TyFld Tryd.prog 7 1 1 3 := ⟨_, _, rfl, rfl, rfl, rfl, _, rfl, by decide⟩
instance : TyFld Tryd.prog 7 2 2 4 := ⟨_, _, rfl, rfl, rfl, rfl, _, rfl, by decide⟩
instance : TyFld Tryd.prog 7 3 3 6 := ⟨_, _, rfl, rfl, rfl, rfl, _, rfl, by decide⟩
instance : TyStr Tryd.prog 7 [(0, 1), (1, 1), (2, 1), (3, 1)] [.int .i64 0, .int .i64 0, .bool false, .int .u8 0] := ⟨⟨_, _, rfl, rfl, rfl, _, rfl, rfl⟩, by simp [Value.oneCell']⟩
instance : TyZero Tryd.prog 7 [.int .i64 0, .int .i64 0, .bool false, .int .u8 0] := ⟨⟨_, _, rfl, rfl, rfl⟩, by simp [Value.oneCell']⟩
instance : TyAgg Tryd.prog 8 4 := ⟨fun _ => rfl, _, rfl, rfl⟩
instance : TyFld Tryd.prog 8 0 0 2 := ⟨_, _, rfl, rfl, rfl, rfl, _, rfl, by decide⟩
instance : TyFld Tryd.prog 8 1 1 3 := ⟨_, _, rfl, rfl, rfl, rfl, _, rfl, by decide⟩
instance : TyFld Tryd.prog 8 2 2 4 := ⟨_, _, rfl, rfl, rfl, rfl, _, rfl, by decide⟩
instance : TyFld Tryd.prog 8 3 3 6 := ⟨_, _, rfl, rfl, rfl, rfl, _, rfl, by decide⟩
instance : TyStr Tryd.prog 8 [(0, 1), (1, 1), (2, 1), (3, 1)] [.int .i64 0, .int .i64 0, .bool false, .int .u8 0] := ⟨⟨_, _, rfl, rfl, rfl, _, rfl, rfl⟩, by simp [Value.oneCell']⟩
instance : TyZero Tryd.prog 8 [.int .i64 0, .int .i64 0, .bool false, .int .u8 0] := ⟨⟨_, _, rfl, rfl, rfl⟩, by simp [Value.oneCell']⟩
instance : TyOne Tryd.prog 9 := ⟨fun _ => rfl, _, rfl, rfl⟩
instance : TyZero Tryd.prog 9 [.string ByteArray.empty] := ⟨⟨_, _, rfl, rfl, rfl⟩, by simp [Value.oneCell']⟩
theorem tstr9 : Tryd.prog.underlying 9 = some .string := rfl
instance : TyOne Tryd.prog 10 := ⟨fun _ => rfl, _, rfl, rfl⟩
instance : TyZero Tryd.prog 10 [.string ByteArray.empty] := ⟨⟨_, _, rfl, rfl, rfl⟩, by simp [Value.oneCell']⟩
theorem tstr10 : Tryd.prog.underlying 10 = some .string := rfl
instance : TyOne Tryd.prog 11 := ⟨fun _ => rfl, _, rfl, rfl⟩
instance : TyZero Tryd.prog 11 [.string ByteArray.empty] := ⟨⟨_, _, rfl, rfl, rfl⟩, by simp [Value.oneCell']⟩
theorem tstr11 : Tryd.prog.underlying 11 = some .string := rfl
instance : TyOne Tryd.prog 12 := ⟨fun _ => rfl, _, rfl, rfl⟩
instance : TyZero Tryd.prog 12 [.int .u64 0] := ⟨⟨_, _, rfl, rfl, rfl⟩, by simp [Value.oneCell']⟩
instance : TyAgg Tryd.prog 13 2 := ⟨fun _ => rfl, _, rfl, rfl⟩
instance : TyFld Tryd.prog 13 0 0 9 := ⟨_, _, rfl, rfl, rfl, rfl, _, rfl, by decide⟩
instance : TyFld Tryd.prog 13 1 1 12 := ⟨_, _, rfl, rfl, rfl, rfl, _, rfl, by decide⟩
instance : TyStr Tryd.prog 13 [(0, 1), (1, 1)] [.string ByteArray.empty, .int .u64 0] := ⟨⟨_, _, rfl, rfl, rfl, _, rfl, rfl⟩, by simp [Value.oneCell']⟩
instance : TyZero Tryd.prog 13 [.string ByteArray.empty, .int .u64 0] := ⟨⟨_, _, rfl, rfl, rfl⟩, by simp [Value.oneCell']⟩
instance : TyAgg Tryd.prog 14 2 := ⟨fun _ => rfl, _, rfl, rfl⟩
instance : TyFld Tryd.prog 14 0 0 9 := ⟨_, _, rfl, rfl, rfl, rfl, _, rfl, by decide⟩
instance : TyFld Tryd.prog 14 1 1 12 := ⟨_, _, rfl, rfl, rfl, rfl, _, rfl, by decide⟩
instance : TyStr Tryd.prog 14 [(0, 1), (1, 1)] [.string ByteArray.empty, .int .u64 0] := ⟨⟨_, _, rfl, rfl, rfl, _, rfl, rfl⟩, by simp [Value.oneCell']⟩
instance : TyZero Tryd.prog 14 [.string ByteArray.empty, .int .u64 0] := ⟨⟨_, _, rfl, rfl, rfl⟩, by simp [Value.oneCell']⟩
instance : TyOne Tryd.prog 15 := ⟨fun _ => rfl, _, rfl, rfl⟩
instance : TyZero Tryd.prog 15 [.pointer none] := ⟨⟨_, _, rfl, rfl, rfl⟩, by simp [Value.oneCell']⟩
instance : TyOne Tryd.prog 16 := ⟨fun _ => rfl, _, rfl, rfl⟩
instance : TyZero Tryd.prog 16 [.pointer none] := ⟨⟨_, _, rfl, rfl, rfl⟩, by simp [Value.oneCell']⟩
instance : TyOne Tryd.prog 17 := ⟨fun _ => rfl, _, rfl, rfl⟩
instance : TyZero Tryd.prog 17 [.pointer none] := ⟨⟨_, _, rfl, rfl, rfl⟩, by simp [Value.oneCell']⟩
instance : TyAgg Tryd.prog 18 1 := ⟨fun _ => rfl, _, rfl, rfl⟩
instance : TyFld Tryd.prog 18 0 0 17 := ⟨_, _, rfl, rfl, rfl, rfl, _, rfl, by decide⟩
instance : TyStr Tryd.prog 18 [(0, 1)] [.pointer none] := ⟨⟨_, _, rfl, rfl, rfl, _, rfl, rfl⟩, by simp [Value.oneCell']⟩
instance : TyZero Tryd.prog 18 [.pointer none] := ⟨⟨_, _, rfl, rfl, rfl⟩, by simp [Value.oneCell']⟩
instance : TyAgg Tryd.prog 19 1 := ⟨fun _ => rfl, _, rfl, rfl⟩
instance : TyFld Tryd.prog 19 0 0 17 := ⟨_, _, rfl, rfl, rfl, rfl, _, rfl, by decide⟩
instance : TyStr Tryd.prog 19 [(0, 1)] [.pointer none] := ⟨⟨_, _, rfl, rfl, rfl, _, rfl, rfl⟩, by simp [Value.oneCell']⟩
instance : TyZero Tryd.prog 19 [.pointer none] := ⟨⟨_, _, rfl, rfl, rfl⟩, by simp [Value.oneCell']⟩
instance : TyOne Tryd.prog 20 := ⟨fun _ => rfl, _, rfl, rfl⟩
instance : TyZero Tryd.prog 20 [.nilIface] := ⟨⟨_, _, rfl, rfl, rfl⟩, by simp [Value.oneCell']⟩
instance : TyOne Tryd.prog 21 := ⟨fun _ => rfl, _, rfl, rfl⟩
instance : TyZero Tryd.prog 21 [.int .i32 0] := ⟨⟨_, _, rfl, rfl, rfl⟩, by simp [Value.oneCell']⟩
instance : TyOne Tryd.prog 22 := ⟨fun _ => rfl, _, rfl, rfl⟩
instance : TyZero Tryd.prog 22 [.slice none 0 0] := ⟨⟨_, _, rfl, rfl, rfl⟩, by simp [Value.oneCell']⟩
instance : TySl Tryd.prog 22 3 1 8 [.int .i64 0] := ⟨rfl, ⟨_, _, rfl, rfl, rfl, rfl, rfl, by decide⟩, rfl, by simp [Value.oneCell']⟩
instance : TyOne Tryd.prog 23 := ⟨fun _ => rfl, _, rfl, rfl⟩
instance : TyZero Tryd.prog 23 [.pointer none] := ⟨⟨_, _, rfl, rfl, rfl⟩, by simp [Value.oneCell']⟩
instance : TyAgg Tryd.prog 24 2 := ⟨fun _ => rfl, _, rfl, rfl⟩
instance : TyFld Tryd.prog 24 0 0 22 := ⟨_, _, rfl, rfl, rfl, rfl, _, rfl, by decide⟩
instance : TyFld Tryd.prog 24 1 1 3 := ⟨_, _, rfl, rfl, rfl, rfl, _, rfl, by decide⟩
instance : TyStr Tryd.prog 24 [(0, 1), (1, 1)] [.slice none 0 0, .int .i64 0] := ⟨⟨_, _, rfl, rfl, rfl, _, rfl, rfl⟩, by simp [Value.oneCell']⟩
instance : TyZero Tryd.prog 24 [.slice none 0 0, .int .i64 0] := ⟨⟨_, _, rfl, rfl, rfl⟩, by simp [Value.oneCell']⟩
instance : TyAgg Tryd.prog 25 2 := ⟨fun _ => rfl, _, rfl, rfl⟩
instance : TyFld Tryd.prog 25 0 0 22 := ⟨_, _, rfl, rfl, rfl, rfl, _, rfl, by decide⟩
instance : TyFld Tryd.prog 25 1 1 3 := ⟨_, _, rfl, rfl, rfl, rfl, _, rfl, by decide⟩
instance : TyStr Tryd.prog 25 [(0, 1), (1, 1)] [.slice none 0 0, .int .i64 0] := ⟨⟨_, _, rfl, rfl, rfl, _, rfl, rfl⟩, by simp [Value.oneCell']⟩
instance : TyZero Tryd.prog 25 [.slice none 0 0, .int .i64 0] := ⟨⟨_, _, rfl, rfl, rfl⟩, by simp [Value.oneCell']⟩
instance : TyOne Tryd.prog 26 := ⟨fun _ => rfl, _, rfl, rfl⟩
instance : TyZero Tryd.prog 26 [.slice none 0 0] := ⟨⟨_, _, rfl, rfl, rfl⟩, by simp [Value.oneCell']⟩
instance : TySl Tryd.prog 26 48 2 32 [.int .i64 0, .slice none 0 0] := ⟨rfl, ⟨_, _, rfl, rfl, rfl, rfl, rfl, by decide⟩, rfl, by simp [Value.oneCell']⟩
instance : TyOne Tryd.prog 27 := ⟨fun _ => rfl, _, rfl, rfl⟩
instance : TyZero Tryd.prog 27 [.nilFunc] := ⟨⟨_, _, rfl, rfl, rfl⟩, by simp [Value.oneCell']⟩
instance : TyOne Tryd.prog 28 := ⟨fun _ => rfl, _, rfl, rfl⟩
instance : TyZero Tryd.prog 28 [.nilFunc] := ⟨⟨_, _, rfl, rfl, rfl⟩, by simp [Value.oneCell']⟩
instance : TyOne Tryd.prog 29 := ⟨fun _ => rfl, _, rfl, rfl⟩
instance : TyZero Tryd.prog 29 [.nilFunc] := ⟨⟨_, _, rfl, rfl, rfl⟩, by simp [Value.oneCell']⟩
instance : TyOne Tryd.prog 30 := ⟨fun _ => rfl, _, rfl, rfl⟩
instance : TyZero Tryd.prog 30 [.int .i64 0] := ⟨⟨_, _, rfl, rfl, rfl⟩, by simp [Value.oneCell']⟩
instance : TyOne Tryd.prog 31 := ⟨fun _ => rfl, _, rfl, rfl⟩
instance : TyZero Tryd.prog 31 [.nilFunc] := ⟨⟨_, _, rfl, rfl, rfl⟩, by simp [Value.oneCell']⟩
instance : TyOne Tryd.prog 32 := ⟨fun _ => rfl, _, rfl, rfl⟩
instance : TyZero Tryd.prog 32 [.slice none 0 0] := ⟨⟨_, _, rfl, rfl, rfl⟩, by simp [Value.oneCell']⟩
instance : TySl Tryd.prog 32 9 1 16 [.string ByteArray.empty] := ⟨rfl, ⟨_, _, rfl, rfl, rfl, rfl, rfl, by decide⟩, rfl, by simp [Value.oneCell']⟩
instance : TyOne Tryd.prog 34 := ⟨fun _ => rfl, _, rfl, rfl⟩
instance : TyZero Tryd.prog 34 [.nilFunc] := ⟨⟨_, _, rfl, rfl, rfl⟩, by simp [Value.oneCell']⟩
instance : TyOne Tryd.prog 35 := ⟨fun _ => rfl, _, rfl, rfl⟩
instance : TyZero Tryd.prog 35 [.slice none 0 0] := ⟨⟨_, _, rfl, rfl, rfl⟩, by simp [Value.oneCell']⟩
instance : TySl Tryd.prog 35 43 4 40 [.int .i64 0, .string ByteArray.empty, .int .i64 0, .int .i64 0] := ⟨rfl, ⟨_, _, rfl, rfl, rfl, rfl, rfl, by decide⟩, rfl, by simp [Value.oneCell']⟩
instance : TyOne Tryd.prog 37 := ⟨fun _ => rfl, _, rfl, rfl⟩
instance : TyZero Tryd.prog 37 [.nilFunc] := ⟨⟨_, _, rfl, rfl, rfl⟩, by simp [Value.oneCell']⟩
instance : TyOne Tryd.prog 38 := ⟨fun _ => rfl, _, rfl, rfl⟩
instance : TyZero Tryd.prog 38 [.nilFunc] := ⟨⟨_, _, rfl, rfl, rfl⟩, by simp [Value.oneCell']⟩
instance : TyOne Tryd.prog 39 := ⟨fun _ => rfl, _, rfl, rfl⟩
instance : TyZero Tryd.prog 39 [.nilFunc] := ⟨⟨_, _, rfl, rfl, rfl⟩, by simp [Value.oneCell']⟩
instance : TyOne Tryd.prog 40 := ⟨fun _ => rfl, _, rfl, rfl⟩
instance : TyZero Tryd.prog 40 [.nilFunc] := ⟨⟨_, _, rfl, rfl, rfl⟩, by simp [Value.oneCell']⟩
instance : TyOne Tryd.prog 41 := ⟨fun _ => rfl, _, rfl, rfl⟩
instance : TyZero Tryd.prog 41 [.nilFunc] := ⟨⟨_, _, rfl, rfl, rfl⟩, by simp [Value.oneCell']⟩
instance : TyAgg Tryd.prog 42 4 := ⟨fun _ => rfl, _, rfl, rfl⟩
instance : TyFld Tryd.prog 42 0 0 3 := ⟨_, _, rfl, rfl, rfl, rfl, _, rfl, by decide⟩
instance : TyFld Tryd.prog 42 1 1 9 := ⟨_, _, rfl, rfl, rfl, rfl, _, rfl, by decide⟩
instance : TyFld Tryd.prog 42 2 2 3 := ⟨_, _, rfl, rfl, rfl, rfl, _, rfl, by decide⟩
instance : TyFld Tryd.prog 42 3 3 3 := ⟨_, _, rfl, rfl, rfl, rfl, _, rfl, by decide⟩
instance : TyStr Tryd.prog 42 [(0, 1), (1, 1), (2, 1), (3, 1)] [.int .i64 0, .string ByteArray.empty, .int .i64 0, .int .i64 0] := ⟨⟨_, _, rfl, rfl, rfl, _, rfl, rfl⟩, by simp [Value.oneCell']⟩
instance : TyZero Tryd.prog 42 [.int .i64 0, .string ByteArray.empty, .int .i64 0, .int .i64 0] := ⟨⟨_, _, rfl, rfl, rfl⟩, by simp [Value.oneCell']⟩
instance : TyAgg Tryd.prog 43 4 := ⟨fun _ => rfl, _, rfl, rfl⟩
instance : TyFld Tryd.prog 43 0 0 3 := ⟨_, _, rfl, rfl, rfl, rfl, _, rfl, by decide⟩
instance : TyFld Tryd.prog 43 1 1 9 := ⟨_, _, rfl, rfl, rfl, rfl, _, rfl, by decide⟩
instance : TyFld Tryd.prog 43 2 2 3 := ⟨_, _, rfl, rfl, rfl, rfl, _, rfl, by decide⟩
instance : TyFld Tryd.prog 43 3 3 3 := ⟨_, _, rfl, rfl, rfl, rfl, _, rfl, by decide⟩
instance : TyStr Tryd.prog 43 [(0, 1), (1, 1), (2, 1), (3, 1)] [.int .i64 0, .string ByteArray.empty, .int .i64 0, .int .i64 0] := ⟨⟨_, _, rfl, rfl, rfl, _, rfl, rfl⟩, by simp [Value.oneCell']⟩
instance : TyZero Tryd.prog 43 [.int .i64 0, .string ByteArray.empty, .int .i64 0, .int .i64 0] := ⟨⟨_, _, rfl, rfl, rfl⟩, by simp [Value.oneCell']⟩
instance : TyOne Tryd.prog 44 := ⟨fun _ => rfl, _, rfl, rfl⟩
instance : TyZero Tryd.prog 44 [.nilFunc] := ⟨⟨_, _, rfl, rfl, rfl⟩, by simp [Value.oneCell']⟩
instance : TyOne Tryd.prog 45 := ⟨fun _ => rfl, _, rfl, rfl⟩
instance : TyZero Tryd.prog 45 [.nilFunc] := ⟨⟨_, _, rfl, rfl, rfl⟩, by simp [Value.oneCell']⟩
instance : TyOne Tryd.prog 46 := ⟨fun _ => rfl, _, rfl, rfl⟩
instance : TyZero Tryd.prog 46 [.nilFunc] := ⟨⟨_, _, rfl, rfl, rfl⟩, by simp [Value.oneCell']⟩
instance : TyAgg Tryd.prog 47 2 := ⟨fun _ => rfl, _, rfl, rfl⟩
instance : TyFld Tryd.prog 47 0 0 3 := ⟨_, _, rfl, rfl, rfl, rfl, _, rfl, by decide⟩
instance : TyFld Tryd.prog 47 1 1 32 := ⟨_, _, rfl, rfl, rfl, rfl, _, rfl, by decide⟩
instance : TyStr Tryd.prog 47 [(0, 1), (1, 1)] [.int .i64 0, .slice none 0 0] := ⟨⟨_, _, rfl, rfl, rfl, _, rfl, rfl⟩, by simp [Value.oneCell']⟩
instance : TyZero Tryd.prog 47 [.int .i64 0, .slice none 0 0] := ⟨⟨_, _, rfl, rfl, rfl⟩, by simp [Value.oneCell']⟩
instance : TyAgg Tryd.prog 48 2 := ⟨fun _ => rfl, _, rfl, rfl⟩
instance : TyFld Tryd.prog 48 0 0 3 := ⟨_, _, rfl, rfl, rfl, rfl, _, rfl, by decide⟩
instance : TyFld Tryd.prog 48 1 1 32 := ⟨_, _, rfl, rfl, rfl, rfl, _, rfl, by decide⟩
instance : TyStr Tryd.prog 48 [(0, 1), (1, 1)] [.int .i64 0, .slice none 0 0] := ⟨⟨_, _, rfl, rfl, rfl, _, rfl, rfl⟩, by simp [Value.oneCell']⟩
instance : TyZero Tryd.prog 48 [.int .i64 0, .slice none 0 0] := ⟨⟨_, _, rfl, rfl, rfl⟩, by simp [Value.oneCell']⟩
instance : TyOne Tryd.prog 49 := ⟨fun _ => rfl, _, rfl, rfl⟩
instance : TyZero Tryd.prog 49 [.nilFunc] := ⟨⟨_, _, rfl, rfl, rfl⟩, by simp [Value.oneCell']⟩
instance : TyOne Tryd.prog 50 := ⟨fun _ => rfl, _, rfl, rfl⟩
instance : TyZero Tryd.prog 50 [.nilFunc] := ⟨⟨_, _, rfl, rfl, rfl⟩, by simp [Value.oneCell']⟩
instance : TyOne Tryd.prog 51 := ⟨fun _ => rfl, _, rfl, rfl⟩
instance : TyZero Tryd.prog 51 [.pointer none] := ⟨⟨_, _, rfl, rfl, rfl⟩, by simp [Value.oneCell']⟩
instance : TyOne Tryd.prog 52 := ⟨fun _ => rfl, _, rfl, rfl⟩
instance : TyZero Tryd.prog 52 [.nilFunc] := ⟨⟨_, _, rfl, rfl, rfl⟩, by simp [Value.oneCell']⟩
instance : TyOne Tryd.prog 53 := ⟨fun _ => rfl, _, rfl, rfl⟩
instance : TyZero Tryd.prog 53 [.nilFunc] := ⟨⟨_, _, rfl, rfl, rfl⟩, by simp [Value.oneCell']⟩
instance : TyOne Tryd.prog 54 := ⟨fun _ => rfl, _, rfl, rfl⟩
instance : TyZero Tryd.prog 54 [.nilFunc] := ⟨⟨_, _, rfl, rfl, rfl⟩, by simp [Value.oneCell']⟩
instance : TyOne Tryd.prog 55 := ⟨fun _ => rfl, _, rfl, rfl⟩
instance : TyZero Tryd.prog 55 [.nilFunc] := ⟨⟨_, _, rfl, rfl, rfl⟩, by simp [Value.oneCell']⟩
instance : TyOne Tryd.prog 56 := ⟨fun _ => rfl, _, rfl, rfl⟩
instance : TyZero Tryd.prog 56 [.nilFunc] := ⟨⟨_, _, rfl, rfl, rfl⟩, by simp [Value.oneCell']⟩
instance : TyOne Tryd.prog 57 := ⟨fun _ => rfl, _, rfl, rfl⟩
instance : TyZero Tryd.prog 57 [.nilFunc] := ⟨⟨_, _, rfl, rfl, rfl⟩, by simp [Value.oneCell']⟩
instance : TyOne Tryd.prog 58 := ⟨fun _ => rfl, _, rfl, rfl⟩
instance : TyZero Tryd.prog 58 [.nilFunc] := ⟨⟨_, _, rfl, rfl, rfl⟩, by simp [Value.oneCell']⟩
instance : TyOne Tryd.prog 59 := ⟨fun _ => rfl, _, rfl, rfl⟩
instance : TyZero Tryd.prog 59 [.nilFunc] := ⟨⟨_, _, rfl, rfl, rfl⟩, by simp [Value.oneCell']⟩
instance : TyOne Tryd.prog 60 := ⟨fun _ => rfl, _, rfl, rfl⟩
instance : TyZero Tryd.prog 60 [.nilFunc] := ⟨⟨_, _, rfl, rfl, rfl⟩, by simp [Value.oneCell']⟩
instance : TyOne Tryd.prog 62 := ⟨fun _ => rfl, _, rfl, rfl⟩
instance : TyZero Tryd.prog 62 [.nilFunc] := ⟨⟨_, _, rfl, rfl, rfl⟩, by simp [Value.oneCell']⟩
instance : TyAgg Tryd.prog 63 5 := ⟨fun _ => rfl, _, rfl, rfl⟩
instance : TyFld Tryd.prog 63 0 0 9 := ⟨_, _, rfl, rfl, rfl, rfl, _, rfl, by decide⟩
instance : TyFld Tryd.prog 63 1 1 9 := ⟨_, _, rfl, rfl, rfl, rfl, _, rfl, by decide⟩
instance : TyFld Tryd.prog 63 2 2 22 := ⟨_, _, rfl, rfl, rfl, rfl, _, rfl, by decide⟩
instance : TyFld Tryd.prog 63 3 3 32 := ⟨_, _, rfl, rfl, rfl, rfl, _, rfl, by decide⟩
instance : TyFld Tryd.prog 63 4 4 32 := ⟨_, _, rfl, rfl, rfl, rfl, _, rfl, by decide⟩
instance : TyStr Tryd.prog 63 [(0, 1), (1, 1), (2, 1), (3, 1), (4, 1)] [.string ByteArray.empty, .string ByteArray.empty, .slice none 0 0, .slice none 0 0, .slice none 0 0] := ⟨⟨_, _, rfl, rfl, rfl, _, rfl, rfl⟩, by simp [Value.oneCell']⟩
instance : TyZero Tryd.prog 63 [.string ByteArray.empty, .string ByteArray.empty, .slice none 0 0, .slice none 0 0, .slice none 0 0] := ⟨⟨_, _, rfl, rfl, rfl⟩, by simp [Value.oneCell']⟩
instance : TyAgg Tryd.prog 64 5 := ⟨fun _ => rfl, _, rfl, rfl⟩
instance : TyFld Tryd.prog 64 0 0 9 := ⟨_, _, rfl, rfl, rfl, rfl, _, rfl, by decide⟩
instance : TyFld Tryd.prog 64 1 1 9 := ⟨_, _, rfl, rfl, rfl, rfl, _, rfl, by decide⟩
instance : TyFld Tryd.prog 64 2 2 22 := ⟨_, _, rfl, rfl, rfl, rfl, _, rfl, by decide⟩
instance : TyFld Tryd.prog 64 3 3 32 := ⟨_, _, rfl, rfl, rfl, rfl, _, rfl, by decide⟩
instance : TyFld Tryd.prog 64 4 4 32 := ⟨_, _, rfl, rfl, rfl, rfl, _, rfl, by decide⟩
instance : TyStr Tryd.prog 64 [(0, 1), (1, 1), (2, 1), (3, 1), (4, 1)] [.string ByteArray.empty, .string ByteArray.empty, .slice none 0 0, .slice none 0 0, .slice none 0 0] := ⟨⟨_, _, rfl, rfl, rfl, _, rfl, rfl⟩, by simp [Value.oneCell']⟩
instance : TyZero Tryd.prog 64 [.string ByteArray.empty, .string ByteArray.empty, .slice none 0 0, .slice none 0 0, .slice none 0 0] := ⟨⟨_, _, rfl, rfl, rfl⟩, by simp [Value.oneCell']⟩
instance : TyOne Tryd.prog 65 := ⟨fun _ => rfl, _, rfl, rfl⟩
instance : TyZero Tryd.prog 65 [.slice none 0 0] := ⟨⟨_, _, rfl, rfl, rfl⟩, by simp [Value.oneCell']⟩
instance : TySl Tryd.prog 65 64 5 104 [.string ByteArray.empty, .string ByteArray.empty, .slice none 0 0, .slice none 0 0, .slice none 0 0] := ⟨rfl, ⟨_, _, rfl, rfl, rfl, rfl, rfl, by decide⟩, rfl, by simp [Value.oneCell']⟩
instance : TyOne Tryd.prog 66 := ⟨fun _ => rfl, _, rfl, rfl⟩
instance : TyZero Tryd.prog 66 [.nilFunc] := ⟨⟨_, _, rfl, rfl, rfl⟩, by simp [Value.oneCell']⟩
instance : TyOne Tryd.prog 67 := ⟨fun _ => rfl, _, rfl, rfl⟩
instance : TyZero Tryd.prog 67 [.nilFunc] := ⟨⟨_, _, rfl, rfl, rfl⟩, by simp [Value.oneCell']⟩
instance : TyOne Tryd.prog 68 := ⟨fun _ => rfl, _, rfl, rfl⟩
instance : TyZero Tryd.prog 68 [.nilFunc] := ⟨⟨_, _, rfl, rfl, rfl⟩, by simp [Value.oneCell']⟩
instance : TyOne Tryd.prog 69 := ⟨fun _ => rfl, _, rfl, rfl⟩
instance : TyZero Tryd.prog 69 [.nilFunc] := ⟨⟨_, _, rfl, rfl, rfl⟩, by simp [Value.oneCell']⟩
instance : TyOne Tryd.prog 70 := ⟨fun _ => rfl, _, rfl, rfl⟩
instance : TyZero Tryd.prog 70 [.nilFunc] := ⟨⟨_, _, rfl, rfl, rfl⟩, by simp [Value.oneCell']⟩
instance : TyOne Tryd.prog 71 := ⟨fun _ => rfl, _, rfl, rfl⟩
instance : TyZero Tryd.prog 71 [.nilFunc] := ⟨⟨_, _, rfl, rfl, rfl⟩, by simp [Value.oneCell']⟩
instance : TyOne Tryd.prog 72 := ⟨fun _ => rfl, _, rfl, rfl⟩
instance : TyZero Tryd.prog 72 [.nilFunc] := ⟨⟨_, _, rfl, rfl, rfl⟩, by simp [Value.oneCell']⟩
instance : TyOne Tryd.prog 73 := ⟨fun _ => rfl, _, rfl, rfl⟩
instance : TyZero Tryd.prog 73 [.nilFunc] := ⟨⟨_, _, rfl, rfl, rfl⟩, by simp [Value.oneCell']⟩
instance : TyOne Tryd.prog 74 := ⟨fun _ => rfl, _, rfl, rfl⟩
instance : TyZero Tryd.prog 74 [.nilFunc] := ⟨⟨_, _, rfl, rfl, rfl⟩, by simp [Value.oneCell']⟩
instance : TyOne Tryd.prog 75 := ⟨fun _ => rfl, _, rfl, rfl⟩
instance : TyZero Tryd.prog 75 [.nilFunc] := ⟨⟨_, _, rfl, rfl, rfl⟩, by simp [Value.oneCell']⟩
instance : TyOne Tryd.prog 76 := ⟨fun _ => rfl, _, rfl, rfl⟩
instance : TyZero Tryd.prog 76 [.slice none 0 0] := ⟨⟨_, _, rfl, rfl, rfl⟩, by simp [Value.oneCell']⟩
instance : TySl Tryd.prog 76 30 1 8 [.int .i64 0] := ⟨rfl, ⟨_, _, rfl, rfl, rfl, rfl, rfl, by decide⟩, rfl, by simp [Value.oneCell']⟩
instance : TyOne Tryd.prog 77 := ⟨fun _ => rfl, _, rfl, rfl⟩
instance : TyZero Tryd.prog 77 [.nilFunc] := ⟨⟨_, _, rfl, rfl, rfl⟩, by simp [Value.oneCell']⟩
instance : TyOne Tryd.prog 78 := ⟨fun _ => rfl, _, rfl, rfl⟩
instance : TyZero Tryd.prog 78 [.nilFunc] := ⟨⟨_, _, rfl, rfl, rfl⟩, by simp [Value.oneCell']⟩
instance : TyOne Tryd.prog 79 := ⟨fun _ => rfl, _, rfl, rfl⟩
instance : TyZero Tryd.prog 79 [.nilFunc] := ⟨⟨_, _, rfl, rfl, rfl⟩, by simp [Value.oneCell']⟩
instance : TyOne Tryd.prog 83 := ⟨fun _ => rfl, _, rfl, rfl⟩
instance : TyZero Tryd.prog 83 [.nilFunc] := ⟨⟨_, _, rfl, rfl, rfl⟩, by simp [Value.oneCell']⟩
instance : TyOne Tryd.prog 84 := ⟨fun _ => rfl, _, rfl, rfl⟩
instance : TyZero Tryd.prog 84 [.nilFunc] := ⟨⟨_, _, rfl, rfl, rfl⟩, by simp [Value.oneCell']⟩
instance : TyOne Tryd.prog 85 := ⟨fun _ => rfl, _, rfl, rfl⟩
instance : TyZero Tryd.prog 85 [.pointer none] := ⟨⟨_, _, rfl, rfl, rfl⟩, by simp [Value.oneCell']⟩
instance : TyOne Tryd.prog 86 := ⟨fun _ => rfl, _, rfl, rfl⟩
instance : TyZero Tryd.prog 86 [.nilFunc] := ⟨⟨_, _, rfl, rfl, rfl⟩, by simp [Value.oneCell']⟩
instance : TyOne Tryd.prog 88 := ⟨fun _ => rfl, _, rfl, rfl⟩
instance : TyZero Tryd.prog 88 [.nilFunc] := ⟨⟨_, _, rfl, rfl, rfl⟩, by simp [Value.oneCell']⟩
instance : TyOne Tryd.prog 89 := ⟨fun _ => rfl, _, rfl, rfl⟩
instance : TyZero Tryd.prog 89 [.nilFunc] := ⟨⟨_, _, rfl, rfl, rfl⟩, by simp [Value.oneCell']⟩
instance : TyOne Tryd.prog 90 := ⟨fun _ => rfl, _, rfl, rfl⟩
instance : TyZero Tryd.prog 90 [.nilFunc] := ⟨⟨_, _, rfl, rfl, rfl⟩, by simp [Value.oneCell']⟩
instance : TyOne Tryd.prog 92 := ⟨fun _ => rfl, _, rfl, rfl⟩
instance : TyZero Tryd.prog 92 [.int .u64 0] := ⟨⟨_, _, rfl, rfl, rfl⟩, by simp [Value.oneCell']⟩
instance : TyAgg Tryd.prog 93 2 := ⟨fun _ => rfl, _, rfl, rfl⟩
instance : TyFld Tryd.prog 93 0 0 5 := ⟨_, _, rfl, rfl, rfl, rfl, _, rfl, by decide⟩
instance : TyFld Tryd.prog 93 1 1 5 := ⟨_, _, rfl, rfl, rfl, rfl, _, rfl, by decide⟩
instance : TyStr Tryd.prog 93 [(0, 1), (1, 1)] [.int .u8 0, .int .u8 0] := ⟨⟨_, _, rfl, rfl, rfl, _, rfl, rfl⟩, by simp [Value.oneCell']⟩
instance : TyZero Tryd.prog 93 [.int .u8 0, .int .u8 0] := ⟨⟨_, _, rfl, rfl, rfl⟩, by simp [Value.oneCell']⟩
instance : TyAgg Tryd.prog 94 2 := ⟨fun _ => rfl, _, rfl, rfl⟩
instance : TyFld Tryd.prog 94 0 0 5 := ⟨_, _, rfl, rfl, rfl, rfl, _, rfl, by decide⟩
instance : TyFld Tryd.prog 94 1 1 5 := ⟨_, _, rfl, rfl, rfl, rfl, _, rfl, by decide⟩
instance : TyStr Tryd.prog 94 [(0, 1), (1, 1)] [.int .u8 0, .int .u8 0] := ⟨⟨_, _, rfl, rfl, rfl, _, rfl, rfl⟩, by simp [Value.oneCell']⟩
instance : TyZero Tryd.prog 94 [.int .u8 0, .int .u8 0] := ⟨⟨_, _, rfl, rfl, rfl⟩, by simp [Value.oneCell']⟩
instance : TyOne Tryd.prog 96 := ⟨fun _ => rfl, _, rfl, rfl⟩
instance : TyZero Tryd.prog 96 [.nilFunc] := ⟨⟨_, _, rfl, rfl, rfl⟩, by simp [Value.oneCell']⟩
instance : TyOne Tryd.prog 97 := ⟨fun _ => rfl, _, rfl, rfl⟩
instance : TyZero Tryd.prog 97 [.nilFunc] := ⟨⟨_, _, rfl, rfl, rfl⟩, by simp [Value.oneCell']⟩
instance : TyOne Tryd.prog 98 := ⟨fun _ => rfl, _, rfl, rfl⟩
instance : TyZero Tryd.prog 98 [.nilFunc] := ⟨⟨_, _, rfl, rfl, rfl⟩, by simp [Value.oneCell']⟩
instance : TyOne Tryd.prog 99 := ⟨fun _ => rfl, _, rfl, rfl⟩
instance : TyZero Tryd.prog 99 [.nilFunc] := ⟨⟨_, _, rfl, rfl, rfl⟩, by simp [Value.oneCell']⟩
instance : TyAgg Tryd.prog 100 4 := ⟨fun _ => rfl, _, rfl, rfl⟩
instance : TyFld Tryd.prog 100 0 0 17 := ⟨_, _, rfl, rfl, rfl, rfl, _, rfl, by decide⟩
instance : TyFld Tryd.prog 100 1 1 17 := ⟨_, _, rfl, rfl, rfl, rfl, _, rfl, by decide⟩
instance : TyFld Tryd.prog 100 2 2 17 := ⟨_, _, rfl, rfl, rfl, rfl, _, rfl, by decide⟩
instance : TyFld Tryd.prog 100 3 3 9 := ⟨_, _, rfl, rfl, rfl, rfl, _, rfl, by decide⟩
instance : TyStr Tryd.prog 100 [(0, 1), (1, 1), (2, 1), (3, 1)] [.pointer none, .pointer none, .pointer none, .string ByteArray.empty] := ⟨⟨_, _, rfl, rfl, rfl, _, rfl, rfl⟩, by simp [Value.oneCell']⟩
instance : TyZero Tryd.prog 100 [.pointer none, .pointer none, .pointer none, .string ByteArray.empty] := ⟨⟨_, _, rfl, rfl, rfl⟩, by simp [Value.oneCell']⟩
instance : TyAgg Tryd.prog 101 4 := ⟨fun _ => rfl, _, rfl, rfl⟩
instance : TyFld Tryd.prog 101 0 0 17 := ⟨_, _, rfl, rfl, rfl, rfl, _, rfl, by decide⟩
instance : TyFld Tryd.prog 101 1 1 17 := ⟨_, _, rfl, rfl, rfl, rfl, _, rfl, by decide⟩
instance : TyFld Tryd.prog 101 2 2 17 := ⟨_, _, rfl, rfl, rfl, rfl, _, rfl, by decide⟩
instance : TyFld Tryd.prog 101 3 3 9 := ⟨_, _, rfl, rfl, rfl, rfl, _, rfl, by decide⟩
instance : TyStr Tryd.prog 101 [(0, 1), (1, 1), (2, 1), (3, 1)] [.pointer none, .pointer none, .pointer none, .string ByteArray.empty] := ⟨⟨_, _, rfl, rfl, rfl, _, rfl, rfl⟩, by simp [Value.oneCell']⟩
instance : TyZero Tryd.prog 101 [.pointer none, .pointer none, .pointer none, .string ByteArray.empty] := ⟨⟨_, _, rfl, rfl, rfl⟩, by simp [Value.oneCell']⟩
instance : TyOne Tryd.prog 105 := ⟨fun _ => rfl, _, rfl, rfl⟩
instance : TyZero Tryd.prog 105 [.int .u32 0] := ⟨⟨_, _, rfl, rfl, rfl⟩, by simp [Value.oneCell']⟩
instance : TyOne Tryd.prog 106 := ⟨fun _ => rfl, _, rfl, rfl⟩
instance : TyZero Tryd.prog 106 [.int .u8 0] := ⟨⟨_, _, rfl, rfl, rfl⟩, by simp [Value.oneCell']⟩
instance : TyOne Tryd.prog 107 := ⟨fun _ => rfl, _, rfl, rfl⟩
instance : TyZero Tryd.prog 107 [.int .u8 0] := ⟨⟨_, _, rfl, rfl, rfl⟩, by simp [Value.oneCell']⟩
instance : TyOne Tryd.prog 108 := ⟨fun _ => rfl, _, rfl, rfl⟩
instance : TyZero Tryd.prog 108 [.nilFunc] := ⟨⟨_, _, rfl, rfl, rfl⟩, by simp [Value.oneCell']⟩
instance : TyOne Tryd.prog 109 := ⟨fun _ => rfl, _, rfl, rfl⟩
instance : TyZero Tryd.prog 109 [.pointer none] := ⟨⟨_, _, rfl, rfl, rfl⟩, by simp [Value.oneCell']⟩
instance : TyOne Tryd.prog 110 := ⟨fun _ => rfl, _, rfl, rfl⟩
instance : TyZero Tryd.prog 110 [.int .i32 0] := ⟨⟨_, _, rfl, rfl, rfl⟩, by simp [Value.oneCell']⟩
instance : TyOne Tryd.prog 111 := ⟨fun _ => rfl, _, rfl, rfl⟩
instance : TyZero Tryd.prog 111 [.int .i32 0] := ⟨⟨_, _, rfl, rfl, rfl⟩, by simp [Value.oneCell']⟩
instance : TyAgg Tryd.prog 112 11 := ⟨fun _ => rfl, _, rfl, rfl⟩
instance : TyFld Tryd.prog 112 0 0 12 := ⟨_, _, rfl, rfl, rfl, rfl, _, rfl, by decide⟩
instance : TyFld Tryd.prog 112 1 1 12 := ⟨_, _, rfl, rfl, rfl, rfl, _, rfl, by decide⟩
instance : TyFld Tryd.prog 112 2 2 105 := ⟨_, _, rfl, rfl, rfl, rfl, _, rfl, by decide⟩
instance : TyFld Tryd.prog 112 3 3 106 := ⟨_, _, rfl, rfl, rfl, rfl, _, rfl, by decide⟩
instance : TyFld Tryd.prog 112 4 4 5 := ⟨_, _, rfl, rfl, rfl, rfl, _, rfl, by decide⟩
instance : TyFld Tryd.prog 112 5 5 5 := ⟨_, _, rfl, rfl, rfl, rfl, _, rfl, by decide⟩
instance : TyFld Tryd.prog 112 6 6 107 := ⟨_, _, rfl, rfl, rfl, rfl, _, rfl, by decide⟩
instance : TyFld Tryd.prog 112 7 7 108 := ⟨_, _, rfl, rfl, rfl, rfl, _, rfl, by decide⟩
instance : TyFld Tryd.prog 112 8 8 109 := ⟨_, _, rfl, rfl, rfl, rfl, _, rfl, by decide⟩
instance : TyFld Tryd.prog 112 9 9 110 := ⟨_, _, rfl, rfl, rfl, rfl, _, rfl, by decide⟩
instance : TyFld Tryd.prog 112 10 10 111 := ⟨_, _, rfl, rfl, rfl, rfl, _, rfl, by decide⟩
instance : TyStr Tryd.prog 112 [(0, 1), (1, 1), (2, 1), (3, 1), (4, 1), (5, 1), (6, 1), (7, 1), (8, 1), (9, 1), (10, 1)] [.int .u64 0, .int .u64 0, .int .u32 0, .int .u8 0, .int .u8 0, .int .u8 0, .int .u8 0, .nilFunc, .pointer none, .int .i32 0, .int .i32 0] := ⟨⟨_, _, rfl, rfl, rfl, _, rfl, rfl⟩, by simp [Value.oneCell']⟩
instance : TyZero Tryd.prog 112 [.int .u64 0, .int .u64 0, .int .u32 0, .int .u8 0, .int .u8 0, .int .u8 0, .int .u8 0, .nilFunc, .pointer none, .int .i32 0, .int .i32 0] := ⟨⟨_, _, rfl, rfl, rfl⟩, by simp [Value.oneCell']⟩
instance : TyAgg Tryd.prog 113 11 := ⟨fun _ => rfl, _, rfl, rfl⟩
instance : TyFld Tryd.prog 113 0 0 12 := ⟨_, _, rfl, rfl, rfl, rfl, _, rfl, by decide⟩
instance : TyFld Tryd.prog 113 1 1 12 := ⟨_, _, rfl, rfl, rfl, rfl, _, rfl, by decide⟩
instance : TyFld Tryd.prog 113 2 2 105 := ⟨_, _, rfl, rfl, rfl, rfl, _, rfl, by decide⟩
instance : TyFld Tryd.prog 113 3 3 106 := ⟨_, _, rfl, rfl, rfl, rfl, _, rfl, by decide⟩
instance : TyFld Tryd.prog 113 4 4 5 := ⟨_, _, rfl, rfl, rfl, rfl, _, rfl, by decide⟩
instance : TyFld Tryd.prog 113 5 5 5 := ⟨_, _, rfl, rfl, rfl, rfl, _, rfl, by decide⟩
instance : TyFld Tryd.prog 113 6 6 107 := ⟨_, _, rfl, rfl, rfl, rfl, _, rfl, by decide⟩
instance : TyFld Tryd.prog 113 7 7 108 := ⟨_, _, rfl, rfl, rfl, rfl, _, rfl, by decide⟩
instance : TyFld Tryd.prog 113 8 8 109 := ⟨_, _, rfl, rfl, rfl, rfl, _, rfl, by decide⟩
instance : TyFld Tryd.prog 113 9 9 110 := ⟨_, _, rfl, rfl, rfl, rfl, _, rfl, by decide⟩
instance : TyFld Tryd.prog 113 10 10 111 := ⟨_, _, rfl, rfl, rfl, rfl, _, rfl, by decide⟩
instance : TyStr Tryd.prog 113 [(0, 1), (1, 1), (2, 1), (3, 1), (4, 1), (5, 1), (6, 1), (7, 1), (8, 1), (9, 1), (10, 1)] [.int .u64 0, .int .u64 0, .int .u32 0, .int .u8 0, .int .u8 0, .int .u8 0, .int .u8 0, .nilFunc, .pointer none, .int .i32 0, .int .i32 0] := ⟨⟨_, _, rfl, rfl, rfl, _, rfl, rfl⟩, by simp [Value.oneCell']⟩
instance : TyZero Tryd.prog 113 [.int .u64 0, .int .u64 0, .int .u32 0, .int .u8 0, .int .u8 0, .int .u8 0, .int .u8 0, .nilFunc, .pointer none, .int .i32 0, .int .i32 0] := ⟨⟨_, _, rfl, rfl, rfl⟩, by simp [Value.oneCell']⟩
end Lg
