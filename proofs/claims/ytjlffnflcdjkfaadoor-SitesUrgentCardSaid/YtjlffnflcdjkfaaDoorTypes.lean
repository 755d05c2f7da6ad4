/- A part of the proof of a law of this seat: it adds no condition. By an AI agent. -/
import Derived.Test.YtjlffnflcdjkfaaDoorProg
import Derived.Test.YtjlffnflcdjkfaaDoorCore
set_option linter.all false
set_option maxRecDepth 100000
namespace Lg
open Go Go.Proofs
instance : TyOne Tryd.prog 1 := ⟨fun _ => rfl, _, rfl, rfl⟩
instance : TyZero Tryd.prog 1 [.nilFunc] := ⟨⟨_, _, rfl, rfl, rfl⟩, by simp [Value.oneCell']⟩
instance : TyOne Tryd.prog 2 := ⟨fun _ => rfl, _, rfl, rfl⟩
instance : TyZero Tryd.prog 2 [.int .i64 0] := ⟨⟨_, _, rfl, rfl, rfl⟩, by simp [Value.oneCell']⟩
instance : TyOne Tryd.prog 3 := ⟨fun _ => rfl, _, rfl, rfl⟩
instance : TyZero Tryd.prog 3 [.int .i64 0] := ⟨⟨_, _, rfl, rfl, rfl⟩, by simp [Value.oneCell']⟩
instance : TyOne Tryd.prog 4 := ⟨fun _ => rfl, _, rfl, rfl⟩
instance : TyZero Tryd.prog 4 [.bool false] := ⟨⟨_, _, rfl, rfl, rfl⟩, by simp [Value.oneCell']⟩
instance : TyOne Tryd.prog 5 := ⟨fun _ => rfl, _, rfl, rfl⟩
instance : TyZero Tryd.prog 5 [.int .u8 0] := ⟨⟨_, _, rfl, rfl, rfl⟩, by simp [Value.oneCell']⟩
instance : TyOne Tryd.prog 6 := ⟨fun _ => rfl, _, rfl, rfl⟩
instance : TyZero Tryd.prog 6 [.int .u8 0] := ⟨⟨_, _, rfl, rfl, rfl⟩, by simp [Value.oneCell']⟩
instance : TyAgg Tryd.prog 7 4 := ⟨fun _ => rfl, _, rfl, rfl⟩
instance : TyFld Tryd.prog 7 0 0 2 := ⟨_, _, rfl, rfl, rfl, rfl, _, rfl, by decide⟩
instance : TyFld Tryd.prog 7 1 1 3 := ⟨_, _, rfl, rfl, rfl, rfl, _, rfl, by decide⟩
instance : TyFld Tryd.prog 7 2 2 4 := ⟨_, _, rfl, rfl, rfl, rfl, _, rfl, by decide⟩
instance : TyFld Tryd.prog 7 3 3 6 := ⟨_, _, rfl, rfl, rfl, rfl, _, rfl, by decide⟩
instance : TyStr Tryd.prog 7 [(0, 1), (1, 1), (2, 1), (3, 1)] [.int .i64 0, .int .i64 0, .bool false, .int .u8 0] := ⟨⟨_, _, rfl, rfl, rfl, _, rfl, rfl⟩, by simp [Value.oneCell']⟩
instance : TyZero Tryd.prog 7 [.int .i64 0, .int .i64 0, .bool false, .int .u8 0] := ⟨⟨_, _, rfl, rfl, rfl⟩, by simp [Value.oneCell']⟩
instance : TyAgg Tryd.prog 8 4 := ⟨fun _ => rfl, _, rfl, rfl⟩
instance : TyFld Tryd.prog 8 0 0 2 := ⟨_, _, rfl, rfl, rfl, rfl, _, rfl, by decide⟩
instance : TyFld Tryd.prog 8 1 1 3 := ⟨_, _, rfl, rfl, rfl, rfl, _, rfl, by decide⟩
instance : TyFld Tryd.prog 8 2 2 4 := ⟨_, _, rfl, rfl, rfl, rfl, _, rfl, by decide⟩
instance : TyFld Tryd.prog 8 3 3 6 := ⟨_, _, rfl, rfl, rfl, rfl, _, rfl, by decide⟩
instance : TyStr Tryd.prog 8 [(0, 1), (1, 1), (2, 1), (3, 1)] [.int .i64 0, .int .i64 0, .bool false, .int .u8 0] := ⟨⟨_, _, rfl, rfl, rfl, _, rfl, rfl⟩, by simp [Value.oneCell']⟩
instance : TyZero Tryd.prog 8 [.int .i64 0, .int .i64 0, .bool false, .int .u8 0] := ⟨⟨_, _, rfl, rfl, rfl⟩, by simp [Value.oneCell']⟩
instance : TyOne Tryd.prog 9 := ⟨fun _ => rfl, _, rfl, rfl⟩
instance : TyZero Tryd.prog 9 [.string ByteArray.empty] := ⟨⟨_, _, rfl, rfl, rfl⟩, by simp [Value.oneCell']⟩
theorem tstr9 : Tryd.prog.underlying 9 = some .string := rfl
instance : TyOne Tryd.prog 10 := ⟨fun _ => rfl, _, rfl, rfl⟩
instance : TyZero Tryd.prog 10 [.string ByteArray.empty] := ⟨⟨_, _, rfl, rfl, rfl⟩, by simp [Value.oneCell']⟩
theorem tstr10 : Tryd.prog.underlying 10 = some .string := rfl
instance : TyOne Tryd.prog 11 := ⟨fun _ => rfl, _, rfl, rfl⟩
instance : TyZero Tryd.prog 11 [.string ByteArray.empty] := ⟨⟨_, _, rfl, rfl, rfl⟩, by simp [Value.oneCell']⟩
theorem tstr11 : Tryd.prog.underlying 11 = some .string := rfl
instance : TyOne Tryd.prog 12 := ⟨fun _ => rfl, _, rfl, rfl⟩
instance : TyZero Tryd.prog 12 [.int .u64 0] := ⟨⟨_, _, rfl, rfl, rfl⟩, by simp [Value.oneCell']⟩
instance : TyAgg Tryd.prog 13 2 := ⟨fun _ => rfl, _, rfl, rfl⟩
instance : TyFld Tryd.prog 13 0 0 9 := ⟨_, _, rfl, rfl, rfl, rfl, _, rfl, by decide⟩
instance : TyFld Tryd.prog 13 1 1 12 := ⟨_, _, rfl, rfl, rfl, rfl, _, rfl, by decide⟩
instance : TyStr Tryd.prog 13 [(0, 1), (1, 1)] [.string ByteArray.empty, .int .u64 0] := ⟨⟨_, _, rfl, rfl, rfl, _, rfl, rfl⟩, by simp [Value.oneCell']⟩
instance : TyZero Tryd.prog 13 [.string ByteArray.empty, .int .u64 0] := ⟨⟨_, _, rfl, rfl, rfl⟩, by simp [Value.oneCell']⟩
instance : TyAgg Tryd.prog 14 2 := ⟨fun _ => rfl, _, rfl, rfl⟩
instance : TyFld Tryd.prog 14 0 0 9 := ⟨_, _, rfl, rfl, rfl, rfl, _, rfl, by decide⟩
instance : TyFld Tryd.prog 14 1 1 12 := ⟨_, _, rfl, rfl, rfl, rfl, _, rfl, by decide⟩
instance : TyStr Tryd.prog 14 [(0, 1), (1, 1)] [.string ByteArray.empty, .int .u64 0] := ⟨⟨_, _, rfl, rfl, rfl, _, rfl, rfl⟩, by simp [Value.oneCell']⟩
instance : TyZero Tryd.prog 14 [.string ByteArray.empty, .int .u64 0] := ⟨⟨_, _, rfl, rfl, rfl⟩, by simp [Value.oneCell']⟩
instance : TyOne Tryd.prog 15 := ⟨fun _ => rfl, _, rfl, rfl⟩
instance : TyZero Tryd.prog 15 [.pointer none] := ⟨⟨_, _, rfl, rfl, rfl⟩, by simp [Value.oneCell']⟩
instance : TyOne Tryd.prog 16 := ⟨fun _ => rfl, _, rfl, rfl⟩
instance : TyZero Tryd.prog 16 [.pointer none] := ⟨⟨_, _, rfl, rfl, rfl⟩, by simp [Value.oneCell']⟩
instance : TyOne Tryd.prog 17 := ⟨fun _ => rfl, _, rfl, rfl⟩
instance : TyZero Tryd.prog 17 [.pointer none] := ⟨⟨_, _, rfl, rfl, rfl⟩, by simp [Value.oneCell']⟩
instance : TyAgg Tryd.prog 18 1 := ⟨fun _ => rfl, _, rfl, rfl⟩
instance : TyFld Tryd.prog 18 0 0 17 := ⟨_, _, rfl, rfl, rfl, rfl, _, rfl, by decide⟩
instance : TyStr Tryd.prog 18 [(0, 1)] [.pointer none] := ⟨⟨_, _, rfl, rfl, rfl, _, rfl, rfl⟩, by simp [Value.oneCell']⟩
instance : TyZero Tryd.prog 18 [.pointer none] := ⟨⟨_, _, rfl, rfl, rfl⟩, by simp [Value.oneCell']⟩
instance : TyAgg Tryd.prog 19 1 := ⟨fun _ => rfl, _, rfl, rfl⟩
instance : TyFld Tryd.prog 19 0 0 17 := ⟨_, _, rfl, rfl, rfl, rfl, _, rfl, by decide⟩
instance : TyStr Tryd.prog 19 [(0, 1)] [.pointer none] := ⟨⟨_, _, rfl, rfl, rfl, _, rfl, rfl⟩, by simp [Value.oneCell']⟩
instance : TyZero Tryd.prog 19 [.pointer none] := ⟨⟨_, _, rfl, rfl, rfl⟩, by simp [Value.oneCell']⟩
instance : TyOne Tryd.prog 20 := ⟨fun _ => rfl, _, rfl, rfl⟩
instance : TyZero Tryd.prog 20 [.nilIface] := ⟨⟨_, _, rfl, rfl, rfl⟩, by simp [Value.oneCell']⟩
instance : TyOne Tryd.prog 21 := ⟨fun _ => rfl, _, rfl, rfl⟩
instance : TyZero Tryd.prog 21 [.int .i32 0] := ⟨⟨_, _, rfl, rfl, rfl⟩, by simp [Value.oneCell']⟩
instance : TyOne Tryd.prog 22 := ⟨fun _ => rfl, _, rfl, rfl⟩
instance : TyZero Tryd.prog 22 [.slice none 0 0] := ⟨⟨_, _, rfl, rfl, rfl⟩, by simp [Value.oneCell']⟩
instance : TySl Tryd.prog 22 3 1 8 [.int .i64 0] := ⟨rfl, ⟨_, _, rfl, rfl, rfl, rfl, rfl, by decide⟩, rfl, by simp [Value.oneCell']⟩
instance : TyOne Tryd.prog 23 := ⟨fun _ => rfl, _, rfl, rfl⟩
instance : TyZero Tryd.prog 23 [.pointer none] := ⟨⟨_, _, rfl, rfl, rfl⟩, by simp [Value.oneCell']⟩
instance : TyAgg Tryd.prog 24 2 := ⟨fun _ => rfl, _, rfl, rfl⟩
instance : TyFld Tryd.prog 24 0 0 22 := ⟨_, _, rfl, rfl, rfl, rfl, _, rfl, by decide⟩
instance : TyFld Tryd.prog 24 1 1 3 := ⟨_, _, rfl, rfl, rfl, rfl, _, rfl, by decide⟩
instance : TyStr Tryd.prog 24 [(0, 1), (1, 1)] [.slice none 0 0, .int .i64 0] := ⟨⟨_, _, rfl, rfl, rfl, _, rfl, rfl⟩, by simp [Value.oneCell']⟩
instance : TyZero Tryd.prog 24 [.slice none 0 0, .int .i64 0] := ⟨⟨_, _, rfl, rfl, rfl⟩, by simp [Value.oneCell']⟩
instance : TyAgg Tryd.prog 25 2 := ⟨fun _ => rfl, _, rfl, rfl⟩
instance : TyFld Tryd.prog 25 0 0 22 := ⟨_, _, rfl, rfl, rfl, rfl, _, rfl, by decide⟩
instance : TyFld Tryd.prog 25 1 1 3 := ⟨_, _, rfl, rfl, rfl, rfl, _, rfl, by decide⟩
instance : TyStr Tryd.prog 25 [(0, 1), (1, 1)] [.slice none 0 0, .int .i64 0] := ⟨⟨_, _, rfl, rfl, rfl, _, rfl, rfl⟩, by simp [Value.oneCell']⟩
instance : TyZero Tryd.prog 25 [.slice none 0 0, .int .i64 0] := ⟨⟨_, _, rfl, rfl, rfl⟩, by simp [Value.oneCell']⟩
instance : TyOne Tryd.prog 26 := ⟨fun _ => rfl, _, rfl, rfl⟩
instance : TyZero Tryd.prog 26 [.slice none 0 0] := ⟨⟨_, _, rfl, rfl, rfl⟩, by simp [Value.oneCell']⟩
instance : TySl Tryd.prog 26 73 6 56 [.string ByteArray.empty, .int .i64 0, .int .i64 0, .int .i64 0, .int .i64 0, .int .i64 0] := ⟨rfl, ⟨_, _, rfl, rfl, rfl, rfl, rfl, by decide⟩, rfl, by simp [Value.oneCell']⟩
instance : TyOne Tryd.prog 27 := ⟨fun _ => rfl, _, rfl, rfl⟩
instance : TyZero Tryd.prog 27 [.nilFunc] := ⟨⟨_, _, rfl, rfl, rfl⟩, by simp [Value.oneCell']⟩
instance : TyOne Tryd.prog 28 := ⟨fun _ => rfl, _, rfl, rfl⟩
instance : TyZero Tryd.prog 28 [.nilFunc] := ⟨⟨_, _, rfl, rfl, rfl⟩, by simp [Value.oneCell']⟩
instance : TyAgg Tryd.prog 29 2 := ⟨fun _ => rfl, _, rfl, rfl⟩
instance : TyFld Tryd.prog 29 0 0 3 := ⟨_, _, rfl, rfl, rfl, rfl, _, rfl, by decide⟩
instance : TyFld Tryd.prog 29 1 1 3 := ⟨_, _, rfl, rfl, rfl, rfl, _, rfl, by decide⟩
instance : TyStr Tryd.prog 29 [(0, 1), (1, 1)] [.int .i64 0, .int .i64 0] := ⟨⟨_, _, rfl, rfl, rfl, _, rfl, rfl⟩, by simp [Value.oneCell']⟩
instance : TyZero Tryd.prog 29 [.int .i64 0, .int .i64 0] := ⟨⟨_, _, rfl, rfl, rfl⟩, by simp [Value.oneCell']⟩
instance : TyAgg Tryd.prog 30 2 := ⟨fun _ => rfl, _, rfl, rfl⟩
instance : TyFld Tryd.prog 30 0 0 3 := ⟨_, _, rfl, rfl, rfl, rfl, _, rfl, by decide⟩
instance : TyFld Tryd.prog 30 1 1 3 := ⟨_, _, rfl, rfl, rfl, rfl, _, rfl, by decide⟩
instance : TyStr Tryd.prog 30 [(0, 1), (1, 1)] [.int .i64 0, .int .i64 0] := ⟨⟨_, _, rfl, rfl, rfl, _, rfl, rfl⟩, by simp [Value.oneCell']⟩
instance : TyZero Tryd.prog 30 [.int .i64 0, .int .i64 0] := ⟨⟨_, _, rfl, rfl, rfl⟩, by simp [Value.oneCell']⟩
instance : TyOne Tryd.prog 31 := ⟨fun _ => rfl, _, rfl, rfl⟩
instance : TyZero Tryd.prog 31 [.nilFunc] := ⟨⟨_, _, rfl, rfl, rfl⟩, by simp [Value.oneCell']⟩
instance : TyOne Tryd.prog 32 := ⟨fun _ => rfl, _, rfl, rfl⟩
instance : TyZero Tryd.prog 32 [.int .i64 0] := ⟨⟨_, _, rfl, rfl, rfl⟩, by simp [Value.oneCell']⟩
instance : TyOne Tryd.prog 34 := ⟨fun _ => rfl, _, rfl, rfl⟩
instance : TyZero Tryd.prog 34 [.nilFunc] := ⟨⟨_, _, rfl, rfl, rfl⟩, by simp [Value.oneCell']⟩
instance : TyOne Tryd.prog 36 := ⟨fun _ => rfl, _, rfl, rfl⟩
instance : TyZero Tryd.prog 36 [.nilFunc] := ⟨⟨_, _, rfl, rfl, rfl⟩, by simp [Value.oneCell']⟩
instance : TyOne Tryd.prog 37 := ⟨fun _ => rfl, _, rfl, rfl⟩
instance : TyZero Tryd.prog 37 [.nilFunc] := ⟨⟨_, _, rfl, rfl, rfl⟩, by simp [Value.oneCell']⟩
instance : TyOne Tryd.prog 38 := ⟨fun _ => rfl, _, rfl, rfl⟩
instance : TyZero Tryd.prog 38 [.nilFunc] := ⟨⟨_, _, rfl, rfl, rfl⟩, by simp [Value.oneCell']⟩
instance : TyOne Tryd.prog 39 := ⟨fun _ => rfl, _, rfl, rfl⟩
instance : TyZero Tryd.prog 39 [.nilFunc] := ⟨⟨_, _, rfl, rfl, rfl⟩, by simp [Value.oneCell']⟩
instance : TyOne Tryd.prog 40 := ⟨fun _ => rfl, _, rfl, rfl⟩
instance : TyZero Tryd.prog 40 [.nilFunc] := ⟨⟨_, _, rfl, rfl, rfl⟩, by simp [Value.oneCell']⟩
instance : TyOne Tryd.prog 41 := ⟨fun _ => rfl, _, rfl, rfl⟩
instance : TyZero Tryd.prog 41 [.nilFunc] := ⟨⟨_, _, rfl, rfl, rfl⟩, by simp [Value.oneCell']⟩
instance : TyOne Tryd.prog 42 := ⟨fun _ => rfl, _, rfl, rfl⟩
instance : TyZero Tryd.prog 42 [.slice none 0 0] := ⟨⟨_, _, rfl, rfl, rfl⟩, by simp [Value.oneCell']⟩
instance : TySl Tryd.prog 42 89 3 64 [.string ByteArray.empty, .slice none 0 0, .slice none 0 0] := ⟨rfl, ⟨_, _, rfl, rfl, rfl, rfl, rfl, by decide⟩, rfl, by simp [Value.oneCell']⟩
instance : TyOne Tryd.prog 43 := ⟨fun _ => rfl, _, rfl, rfl⟩
instance : TyZero Tryd.prog 43 [.nilFunc] := ⟨⟨_, _, rfl, rfl, rfl⟩, by simp [Value.oneCell']⟩
instance : TyOne Tryd.prog 44 := ⟨fun _ => rfl, _, rfl, rfl⟩
instance : TyZero Tryd.prog 44 [.nilFunc] := ⟨⟨_, _, rfl, rfl, rfl⟩, by simp [Value.oneCell']⟩
instance : TyOne Tryd.prog 45 := ⟨fun _ => rfl, _, rfl, rfl⟩
instance : TyZero Tryd.prog 45 [.nilFunc] := ⟨⟨_, _, rfl, rfl, rfl⟩, by simp [Value.oneCell']⟩
instance : TyOne Tryd.prog 46 := ⟨fun _ => rfl, _, rfl, rfl⟩
instance : TyZero Tryd.prog 46 [.slice none 0 0] := ⟨⟨_, _, rfl, rfl, rfl⟩, by simp [Value.oneCell']⟩
instance : TySl Tryd.prog 46 9 1 16 [.string ByteArray.empty] := ⟨rfl, ⟨_, _, rfl, rfl, rfl, rfl, rfl, by decide⟩, rfl, by simp [Value.oneCell']⟩
instance : TyOne Tryd.prog 48 := ⟨fun _ => rfl, _, rfl, rfl⟩
instance : TyZero Tryd.prog 48 [.nilFunc] := ⟨⟨_, _, rfl, rfl, rfl⟩, by simp [Value.oneCell']⟩
instance : TyOne Tryd.prog 49 := ⟨fun _ => rfl, _, rfl, rfl⟩
instance : TyZero Tryd.prog 49 [.nilFunc] := ⟨⟨_, _, rfl, rfl, rfl⟩, by simp [Value.oneCell']⟩
instance : TyOne Tryd.prog 50 := ⟨fun _ => rfl, _, rfl, rfl⟩
instance : TyZero Tryd.prog 50 [.nilFunc] := ⟨⟨_, _, rfl, rfl, rfl⟩, by simp [Value.oneCell']⟩
instance : TyOne Tryd.prog 51 := ⟨fun _ => rfl, _, rfl, rfl⟩
instance : TyZero Tryd.prog 51 [.nilFunc] := ⟨⟨_, _, rfl, rfl, rfl⟩, by simp [Value.oneCell']⟩
instance : TyOne Tryd.prog 52 := ⟨fun _ => rfl, _, rfl, rfl⟩
instance : TyZero Tryd.prog 52 [.nilFunc] := ⟨⟨_, _, rfl, rfl, rfl⟩, by simp [Value.oneCell']⟩
instance : TyOne Tryd.prog 53 := ⟨fun _ => rfl, _, rfl, rfl⟩
instance : TyZero Tryd.prog 53 [.nilFunc] := ⟨⟨_, _, rfl, rfl, rfl⟩, by simp [Value.oneCell']⟩
instance : TyOne Tryd.prog 54 := ⟨fun _ => rfl, _, rfl, rfl⟩
instance : TyZero Tryd.prog 54 [.nilFunc] := ⟨⟨_, _, rfl, rfl, rfl⟩, by simp [Value.oneCell']⟩
instance : TyOne Tryd.prog 55 := ⟨fun _ => rfl, _, rfl, rfl⟩
instance : TyZero Tryd.prog 55 [.slice none 0 0] := ⟨⟨_, _, rfl, rfl, rfl⟩, by simp [Value.oneCell']⟩
instance : TySl Tryd.prog 55 22 1 24 [.slice none 0 0] := ⟨rfl, ⟨_, _, rfl, rfl, rfl, rfl, rfl, by decide⟩, rfl, by simp [Value.oneCell']⟩
instance : TyOne Tryd.prog 57 := ⟨fun _ => rfl, _, rfl, rfl⟩
instance : TyZero Tryd.prog 57 [.nilFunc] := ⟨⟨_, _, rfl, rfl, rfl⟩, by simp [Value.oneCell']⟩
instance : TyOne Tryd.prog 58 := ⟨fun _ => rfl, _, rfl, rfl⟩
instance : TyZero Tryd.prog 58 [.nilFunc] := ⟨⟨_, _, rfl, rfl, rfl⟩, by simp [Value.oneCell']⟩
instance : TyOne Tryd.prog 60 := ⟨fun _ => rfl, _, rfl, rfl⟩
instance : TyZero Tryd.prog 60 [.nilFunc] := ⟨⟨_, _, rfl, rfl, rfl⟩, by simp [Value.oneCell']⟩
instance : TyOne Tryd.prog 61 := ⟨fun _ => rfl, _, rfl, rfl⟩
instance : TyZero Tryd.prog 61 [.nilFunc] := ⟨⟨_, _, rfl, rfl, rfl⟩, by simp [Value.oneCell']⟩
instance : TyAgg Tryd.prog 62 4 := ⟨fun _ => rfl, _, rfl, rfl⟩
instance : TyFld Tryd.prog 62 0 0 22 := ⟨_, _, rfl, rfl, rfl, rfl, _, rfl, by decide⟩
instance : TyFld Tryd.prog 62 1 1 3 := ⟨_, _, rfl, rfl, rfl, rfl, _, rfl, by decide⟩
instance : TyFld Tryd.prog 62 2 2 3 := ⟨_, _, rfl, rfl, rfl, rfl, _, rfl, by decide⟩
instance : TyFld Tryd.prog 62 3 3 3 := ⟨_, _, rfl, rfl, rfl, rfl, _, rfl, by decide⟩
instance : TyStr Tryd.prog 62 [(0, 1), (1, 1), (2, 1), (3, 1)] [.slice none 0 0, .int .i64 0, .int .i64 0, .int .i64 0] := ⟨⟨_, _, rfl, rfl, rfl, _, rfl, rfl⟩, by simp [Value.oneCell']⟩
instance : TyZero Tryd.prog 62 [.slice none 0 0, .int .i64 0, .int .i64 0, .int .i64 0] := ⟨⟨_, _, rfl, rfl, rfl⟩, by simp [Value.oneCell']⟩
instance : TyAgg Tryd.prog 63 4 := ⟨fun _ => rfl, _, rfl, rfl⟩
instance : TyFld Tryd.prog 63 0 0 22 := ⟨_, _, rfl, rfl, rfl, rfl, _, rfl, by decide⟩
instance : TyFld Tryd.prog 63 1 1 3 := ⟨_, _, rfl, rfl, rfl, rfl, _, rfl, by decide⟩
instance : TyFld Tryd.prog 63 2 2 3 := ⟨_, _, rfl, rfl, rfl, rfl, _, rfl, by decide⟩
instance : TyFld Tryd.prog 63 3 3 3 := ⟨_, _, rfl, rfl, rfl, rfl, _, rfl, by decide⟩
instance : TyStr Tryd.prog 63 [(0, 1), (1, 1), (2, 1), (3, 1)] [.slice none 0 0, .int .i64 0, .int .i64 0, .int .i64 0] := ⟨⟨_, _, rfl, rfl, rfl, _, rfl, rfl⟩, by simp [Value.oneCell']⟩
instance : TyZero Tryd.prog 63 [.slice none 0 0, .int .i64 0, .int .i64 0, .int .i64 0] := ⟨⟨_, _, rfl, rfl, rfl⟩, by simp [Value.oneCell']⟩
instance : TyOne Tryd.prog 65 := ⟨fun _ => rfl, _, rfl, rfl⟩
instance : TyZero Tryd.prog 65 [.nilFunc] := ⟨⟨_, _, rfl, rfl, rfl⟩, by simp [Value.oneCell']⟩
instance : TyOne Tryd.prog 66 := ⟨fun _ => rfl, _, rfl, rfl⟩
instance : TyZero Tryd.prog 66 [.nilFunc] := ⟨⟨_, _, rfl, rfl, rfl⟩, by simp [Value.oneCell']⟩
instance : TyOne Tryd.prog 68 := ⟨fun _ => rfl, _, rfl, rfl⟩
instance : TyZero Tryd.prog 68 [.nilFunc] := ⟨⟨_, _, rfl, rfl, rfl⟩, by simp [Value.oneCell']⟩
instance : TyOne Tryd.prog 69 := ⟨fun _ => rfl, _, rfl, rfl⟩
instance : TyZero Tryd.prog 69 [.nilFunc] := ⟨⟨_, _, rfl, rfl, rfl⟩, by simp [Value.oneCell']⟩
instance : TyOne Tryd.prog 70 := ⟨fun _ => rfl, _, rfl, rfl⟩
instance : TyZero Tryd.prog 70 [.nilFunc] := ⟨⟨_, _, rfl, rfl, rfl⟩, by simp [Value.oneCell']⟩
instance : TyOne Tryd.prog 71 := ⟨fun _ => rfl, _, rfl, rfl⟩
instance : TyZero Tryd.prog 71 [.nilFunc] := ⟨⟨_, _, rfl, rfl, rfl⟩, by simp [Value.oneCell']⟩
instance : TyAgg Tryd.prog 72 6 := ⟨fun _ => rfl, _, rfl, rfl⟩
instance : TyFld Tryd.prog 72 0 0 9 := ⟨_, _, rfl, rfl, rfl, rfl, _, rfl, by decide⟩
instance : TyFld Tryd.prog 72 1 1 30 := ⟨_, _, rfl, rfl, rfl, rfl, _, rfl, by decide⟩
instance : TyFld Tryd.prog 72 2 3 3 := ⟨_, _, rfl, rfl, rfl, rfl, _, rfl, by decide⟩
instance : TyFld Tryd.prog 72 3 4 3 := ⟨_, _, rfl, rfl, rfl, rfl, _, rfl, by decide⟩
instance : TyFld Tryd.prog 72 4 5 3 := ⟨_, _, rfl, rfl, rfl, rfl, _, rfl, by decide⟩
instance : TyStr Tryd.prog 72 [(0, 1), (1, 2), (3, 1), (4, 1), (5, 1)] [.string ByteArray.empty, .int .i64 0, .int .i64 0, .int .i64 0, .int .i64 0, .int .i64 0] := ⟨⟨_, _, rfl, rfl, rfl, _, rfl, rfl⟩, by simp [Value.oneCell']⟩
instance : TyZero Tryd.prog 72 [.string ByteArray.empty, .int .i64 0, .int .i64 0, .int .i64 0, .int .i64 0, .int .i64 0] := ⟨⟨_, _, rfl, rfl, rfl⟩, by simp [Value.oneCell']⟩
instance : TyAgg Tryd.prog 73 6 := ⟨fun _ => rfl, _, rfl, rfl⟩
instance : TyFld Tryd.prog 73 0 0 9 := ⟨_, _, rfl, rfl, rfl, rfl, _, rfl, by decide⟩
instance : TyFld Tryd.prog 73 1 1 30 := ⟨_, _, rfl, rfl, rfl, rfl, _, rfl, by decide⟩
instance : TyFld Tryd.prog 73 2 3 3 := ⟨_, _, rfl, rfl, rfl, rfl, _, rfl, by decide⟩
instance : TyFld Tryd.prog 73 3 4 3 := ⟨_, _, rfl, rfl, rfl, rfl, _, rfl, by decide⟩
instance : TyFld Tryd.prog 73 4 5 3 := ⟨_, _, rfl, rfl, rfl, rfl, _, rfl, by decide⟩
instance : TyStr Tryd.prog 73 [(0, 1), (1, 2), (3, 1), (4, 1), (5, 1)] [.string ByteArray.empty, .int .i64 0, .int .i64 0, .int .i64 0, .int .i64 0, .int .i64 0] := ⟨⟨_, _, rfl, rfl, rfl, _, rfl, rfl⟩, by simp [Value.oneCell']⟩
instance : TyZero Tryd.prog 73 [.string ByteArray.empty, .int .i64 0, .int .i64 0, .int .i64 0, .int .i64 0, .int .i64 0] := ⟨⟨_, _, rfl, rfl, rfl⟩, by simp [Value.oneCell']⟩
instance : TyOne Tryd.prog 74 := ⟨fun _ => rfl, _, rfl, rfl⟩
instance : TyZero Tryd.prog 74 [.nilFunc] := ⟨⟨_, _, rfl, rfl, rfl⟩, by simp [Value.oneCell']⟩
instance : TyOne Tryd.prog 75 := ⟨fun _ => rfl, _, rfl, rfl⟩
instance : TyZero Tryd.prog 75 [.nilFunc] := ⟨⟨_, _, rfl, rfl, rfl⟩, by simp [Value.oneCell']⟩
instance : TyAgg Tryd.prog 76 4 := ⟨fun _ => rfl, _, rfl, rfl⟩
instance : TyFld Tryd.prog 76 0 0 30 := ⟨_, _, rfl, rfl, rfl, rfl, _, rfl, by decide⟩
instance : TyFld Tryd.prog 76 1 2 26 := ⟨_, _, rfl, rfl, rfl, rfl, _, rfl, by decide⟩
instance : TyFld Tryd.prog 76 2 3 3 := ⟨_, _, rfl, rfl, rfl, rfl, _, rfl, by decide⟩
instance : TyStr Tryd.prog 76 [(0, 2), (2, 1), (3, 1)] [.int .i64 0, .int .i64 0, .slice none 0 0, .int .i64 0] := ⟨⟨_, _, rfl, rfl, rfl, _, rfl, rfl⟩, by simp [Value.oneCell']⟩
instance : TyZero Tryd.prog 76 [.int .i64 0, .int .i64 0, .slice none 0 0, .int .i64 0] := ⟨⟨_, _, rfl, rfl, rfl⟩, by simp [Value.oneCell']⟩
instance : TyAgg Tryd.prog 77 4 := ⟨fun _ => rfl, _, rfl, rfl⟩
instance : TyFld Tryd.prog 77 0 0 30 := ⟨_, _, rfl, rfl, rfl, rfl, _, rfl, by decide⟩
instance : TyFld Tryd.prog 77 1 2 26 := ⟨_, _, rfl, rfl, rfl, rfl, _, rfl, by decide⟩
instance : TyFld Tryd.prog 77 2 3 3 := ⟨_, _, rfl, rfl, rfl, rfl, _, rfl, by decide⟩
instance : TyStr Tryd.prog 77 [(0, 2), (2, 1), (3, 1)] [.int .i64 0, .int .i64 0, .slice none 0 0, .int .i64 0] := ⟨⟨_, _, rfl, rfl, rfl, _, rfl, rfl⟩, by simp [Value.oneCell']⟩
instance : TyZero Tryd.prog 77 [.int .i64 0, .int .i64 0, .slice none 0 0, .int .i64 0] := ⟨⟨_, _, rfl, rfl, rfl⟩, by simp [Value.oneCell']⟩
instance : TyOne Tryd.prog 78 := ⟨fun _ => rfl, _, rfl, rfl⟩
instance : TyZero Tryd.prog 78 [.nilFunc] := ⟨⟨_, _, rfl, rfl, rfl⟩, by simp [Value.oneCell']⟩
instance : TyOne Tryd.prog 79 := ⟨fun _ => rfl, _, rfl, rfl⟩
instance : TyZero Tryd.prog 79 [.pointer none] := ⟨⟨_, _, rfl, rfl, rfl⟩, by simp [Value.oneCell']⟩
instance : TyOne Tryd.prog 80 := ⟨fun _ => rfl, _, rfl, rfl⟩
instance : TyZero Tryd.prog 80 [.slice none 0 0] := ⟨⟨_, _, rfl, rfl, rfl⟩, by simp [Value.oneCell']⟩
instance : TySl Tryd.prog 80 4 1 1 [.bool false] := ⟨rfl, ⟨_, _, rfl, rfl, rfl, rfl, rfl, by decide⟩, rfl, by simp [Value.oneCell']⟩
instance : TyAgg Tryd.prog 81 8 := ⟨fun _ => rfl, _, rfl, rfl⟩
instance : TyFld Tryd.prog 81 0 0 77 := ⟨_, _, rfl, rfl, rfl, rfl, _, rfl, by decide⟩
instance : TyFld Tryd.prog 81 1 4 22 := ⟨_, _, rfl, rfl, rfl, rfl, _, rfl, by decide⟩
instance : TyFld Tryd.prog 81 2 5 80 := ⟨_, _, rfl, rfl, rfl, rfl, _, rfl, by decide⟩
instance : TyFld Tryd.prog 81 3 6 22 := ⟨_, _, rfl, rfl, rfl, rfl, _, rfl, by decide⟩
instance : TyFld Tryd.prog 81 4 7 3 := ⟨_, _, rfl, rfl, rfl, rfl, _, rfl, by decide⟩
instance : TyStr Tryd.prog 81 [(0, 4), (4, 1), (5, 1), (6, 1), (7, 1)] [.int .i64 0, .int .i64 0, .slice none 0 0, .int .i64 0, .slice none 0 0, .slice none 0 0, .slice none 0 0, .int .i64 0] := ⟨⟨_, _, rfl, rfl, rfl, _, rfl, rfl⟩, by simp [Value.oneCell']⟩
instance : TyZero Tryd.prog 81 [.int .i64 0, .int .i64 0, .slice none 0 0, .int .i64 0, .slice none 0 0, .slice none 0 0, .slice none 0 0, .int .i64 0] := ⟨⟨_, _, rfl, rfl, rfl⟩, by simp [Value.oneCell']⟩
instance : TyAgg Tryd.prog 82 8 := ⟨fun _ => rfl, _, rfl, rfl⟩
instance : TyFld Tryd.prog 82 0 0 77 := ⟨_, _, rfl, rfl, rfl, rfl, _, rfl, by decide⟩
instance : TyFld Tryd.prog 82 1 4 22 := ⟨_, _, rfl, rfl, rfl, rfl, _, rfl, by decide⟩
instance : TyFld Tryd.prog 82 2 5 80 := ⟨_, _, rfl, rfl, rfl, rfl, _, rfl, by decide⟩
instance : TyFld Tryd.prog 82 3 6 22 := ⟨_, _, rfl, rfl, rfl, rfl, _, rfl, by decide⟩
instance : TyFld Tryd.prog 82 4 7 3 := ⟨_, _, rfl, rfl, rfl, rfl, _, rfl, by decide⟩
instance : TyStr Tryd.prog 82 [(0, 4), (4, 1), (5, 1), (6, 1), (7, 1)] [.int .i64 0, .int .i64 0, .slice none 0 0, .int .i64 0, .slice none 0 0, .slice none 0 0, .slice none 0 0, .int .i64 0] := ⟨⟨_, _, rfl, rfl, rfl, _, rfl, rfl⟩, by simp [Value.oneCell']⟩
instance : TyZero Tryd.prog 82 [.int .i64 0, .int .i64 0, .slice none 0 0, .int .i64 0, .slice none 0 0, .slice none 0 0, .slice none 0 0, .int .i64 0] := ⟨⟨_, _, rfl, rfl, rfl⟩, by simp [Value.oneCell']⟩
instance : TyOne Tryd.prog 83 := ⟨fun _ => rfl, _, rfl, rfl⟩
instance : TyZero Tryd.prog 83 [.nilFunc] := ⟨⟨_, _, rfl, rfl, rfl⟩, by simp [Value.oneCell']⟩
instance : TyOne Tryd.prog 84 := ⟨fun _ => rfl, _, rfl, rfl⟩
instance : TyZero Tryd.prog 84 [.nilFunc] := ⟨⟨_, _, rfl, rfl, rfl⟩, by simp [Value.oneCell']⟩
instance : TyOne Tryd.prog 85 := ⟨fun _ => rfl, _, rfl, rfl⟩
instance : TyZero Tryd.prog 85 [.nilFunc] := ⟨⟨_, _, rfl, rfl, rfl⟩, by simp [Value.oneCell']⟩
instance : TyOne Tryd.prog 86 := ⟨fun _ => rfl, _, rfl, rfl⟩
instance : TyZero Tryd.prog 86 [.nilFunc] := ⟨⟨_, _, rfl, rfl, rfl⟩, by simp [Value.oneCell']⟩
instance : TyOne Tryd.prog 87 := ⟨fun _ => rfl, _, rfl, rfl⟩
instance : TyZero Tryd.prog 87 [.nilFunc] := ⟨⟨_, _, rfl, rfl, rfl⟩, by simp [Value.oneCell']⟩
instance : TyAgg Tryd.prog 88 3 := ⟨fun _ => rfl, _, rfl, rfl⟩
instance : TyFld Tryd.prog 88 0 0 9 := ⟨_, _, rfl, rfl, rfl, rfl, _, rfl, by decide⟩
instance : TyFld Tryd.prog 88 1 1 22 := ⟨_, _, rfl, rfl, rfl, rfl, _, rfl, by decide⟩
instance : TyFld Tryd.prog 88 2 2 22 := ⟨_, _, rfl, rfl, rfl, rfl, _, rfl, by decide⟩
instance : TyStr Tryd.prog 88 [(0, 1), (1, 1), (2, 1)] [.string ByteArray.empty, .slice none 0 0, .slice none 0 0] := ⟨⟨_, _, rfl, rfl, rfl, _, rfl, rfl⟩, by simp [Value.oneCell']⟩
instance : TyZero Tryd.prog 88 [.string ByteArray.empty, .slice none 0 0, .slice none 0 0] := ⟨⟨_, _, rfl, rfl, rfl⟩, by simp [Value.oneCell']⟩
instance : TyAgg Tryd.prog 89 3 := ⟨fun _ => rfl, _, rfl, rfl⟩
instance : TyFld Tryd.prog 89 0 0 9 := ⟨_, _, rfl, rfl, rfl, rfl, _, rfl, by decide⟩
instance : TyFld Tryd.prog 89 1 1 22 := ⟨_, _, rfl, rfl, rfl, rfl, _, rfl, by decide⟩
instance : TyFld Tryd.prog 89 2 2 22 := ⟨_, _, rfl, rfl, rfl, rfl, _, rfl, by decide⟩
instance : TyStr Tryd.prog 89 [(0, 1), (1, 1), (2, 1)] [.string ByteArray.empty, .slice none 0 0, .slice none 0 0] := ⟨⟨_, _, rfl, rfl, rfl, _, rfl, rfl⟩, by simp [Value.oneCell']⟩
instance : TyZero Tryd.prog 89 [.string ByteArray.empty, .slice none 0 0, .slice none 0 0] := ⟨⟨_, _, rfl, rfl, rfl⟩, by simp [Value.oneCell']⟩
instance : TyOne Tryd.prog 90 := ⟨fun _ => rfl, _, rfl, rfl⟩
instance : TyZero Tryd.prog 90 [.nilFunc] := ⟨⟨_, _, rfl, rfl, rfl⟩, by simp [Value.oneCell']⟩
instance : TyOne Tryd.prog 91 := ⟨fun _ => rfl, _, rfl, rfl⟩
instance : TyZero Tryd.prog 91 [.nilFunc] := ⟨⟨_, _, rfl, rfl, rfl⟩, by simp [Value.oneCell']⟩
instance : TyOne Tryd.prog 92 := ⟨fun _ => rfl, _, rfl, rfl⟩
instance : TyZero Tryd.prog 92 [.nilFunc] := ⟨⟨_, _, rfl, rfl, rfl⟩, by simp [Value.oneCell']⟩
instance : TyOne Tryd.prog 93 := ⟨fun _ => rfl, _, rfl, rfl⟩
instance : TyZero Tryd.prog 93 [.nilFunc] := ⟨⟨_, _, rfl, rfl, rfl⟩, by simp [Value.oneCell']⟩
instance : TyOne Tryd.prog 95 := ⟨fun _ => rfl, _, rfl, rfl⟩
instance : TyZero Tryd.prog 95 [.nilFunc] := ⟨⟨_, _, rfl, rfl, rfl⟩, by simp [Value.oneCell']⟩
instance : TyOne Tryd.prog 96 := ⟨fun _ => rfl, _, rfl, rfl⟩
instance : TyZero Tryd.prog 96 [.nilFunc] := ⟨⟨_, _, rfl, rfl, rfl⟩, by simp [Value.oneCell']⟩
instance : TyOne Tryd.prog 98 := ⟨fun _ => rfl, _, rfl, rfl⟩
instance : TyZero Tryd.prog 98 [.nilFunc] := ⟨⟨_, _, rfl, rfl, rfl⟩, by simp [Value.oneCell']⟩
instance : TyOne Tryd.prog 99 := ⟨fun _ => rfl, _, rfl, rfl⟩
instance : TyZero Tryd.prog 99 [.nilFunc] := ⟨⟨_, _, rfl, rfl, rfl⟩, by simp [Value.oneCell']⟩
instance : TyOne Tryd.prog 100 := ⟨fun _ => rfl, _, rfl, rfl⟩
instance : TyZero Tryd.prog 100 [.nilFunc] := ⟨⟨_, _, rfl, rfl, rfl⟩, by simp [Value.oneCell']⟩
instance : TyOne Tryd.prog 101 := ⟨fun _ => rfl, _, rfl, rfl⟩
instance : TyZero Tryd.prog 101 [.nilFunc] := ⟨⟨_, _, rfl, rfl, rfl⟩, by simp [Value.oneCell']⟩
instance : TyOne Tryd.prog 102 := ⟨fun _ => rfl, _, rfl, rfl⟩
instance : TyZero Tryd.prog 102 [.nilFunc] := ⟨⟨_, _, rfl, rfl, rfl⟩, by simp [Value.oneCell']⟩
instance : TyOne Tryd.prog 103 := ⟨fun _ => rfl, _, rfl, rfl⟩
instance : TyZero Tryd.prog 103 [.nilFunc] := ⟨⟨_, _, rfl, rfl, rfl⟩, by simp [Value.oneCell']⟩
instance : TyOne Tryd.prog 104 := ⟨fun _ => rfl, _, rfl, rfl⟩
instance : TyZero Tryd.prog 104 [.nilFunc] := ⟨⟨_, _, rfl, rfl, rfl⟩, by simp [Value.oneCell']⟩
instance : TyOne Tryd.prog 105 := ⟨fun _ => rfl, _, rfl, rfl⟩
instance : TyZero Tryd.prog 105 [.pointer none] := ⟨⟨_, _, rfl, rfl, rfl⟩, by simp [Value.oneCell']⟩
instance : TyOne Tryd.prog 106 := ⟨fun _ => rfl, _, rfl, rfl⟩
instance : TyZero Tryd.prog 106 [.slice none 0 0] := ⟨⟨_, _, rfl, rfl, rfl⟩, by simp [Value.oneCell']⟩
instance : TySl Tryd.prog 106 5 1 1 [.int .u8 0] := ⟨rfl, ⟨_, _, rfl, rfl, rfl, rfl, rfl, by decide⟩, rfl, by simp [Value.oneCell']⟩
instance : TyAgg Tryd.prog 107 2 := ⟨fun _ => rfl, _, rfl, rfl⟩
instance : TyFld Tryd.prog 107 0 0 105 := ⟨_, _, rfl, rfl, rfl, rfl, _, rfl, by decide⟩
instance : TyFld Tryd.prog 107 1 1 106 := ⟨_, _, rfl, rfl, rfl, rfl, _, rfl, by decide⟩
instance : TyStr Tryd.prog 107 [(0, 1), (1, 1)] [.pointer none, .slice none 0 0] := ⟨⟨_, _, rfl, rfl, rfl, _, rfl, rfl⟩, by simp [Value.oneCell']⟩
instance : TyZero Tryd.prog 107 [.pointer none, .slice none 0 0] := ⟨⟨_, _, rfl, rfl, rfl⟩, by simp [Value.oneCell']⟩
instance : TyAgg Tryd.prog 108 2 := ⟨fun _ => rfl, _, rfl, rfl⟩
instance : TyFld Tryd.prog 108 0 0 105 := ⟨_, _, rfl, rfl, rfl, rfl, _, rfl, by decide⟩
instance : TyFld Tryd.prog 108 1 1 106 := ⟨_, _, rfl, rfl, rfl, rfl, _, rfl, by decide⟩
instance : TyStr Tryd.prog 108 [(0, 1), (1, 1)] [.pointer none, .slice none 0 0] := ⟨⟨_, _, rfl, rfl, rfl, _, rfl, rfl⟩, by simp [Value.oneCell']⟩
instance : TyZero Tryd.prog 108 [.pointer none, .slice none 0 0] := ⟨⟨_, _, rfl, rfl, rfl⟩, by simp [Value.oneCell']⟩
instance : TyOne Tryd.prog 109 := ⟨fun _ => rfl, _, rfl, rfl⟩
instance : TyZero Tryd.prog 109 [.nilIface] := ⟨⟨_, _, rfl, rfl, rfl⟩, by simp [Value.oneCell']⟩
instance : TyOne Tryd.prog 110 := ⟨fun _ => rfl, _, rfl, rfl⟩
instance : TyZero Tryd.prog 110 [.nilIface] := ⟨⟨_, _, rfl, rfl, rfl⟩, by simp [Value.oneCell']⟩
instance : TyOne Tryd.prog 112 := ⟨fun _ => rfl, _, rfl, rfl⟩
instance : TyZero Tryd.prog 112 [.nilFunc] := ⟨⟨_, _, rfl, rfl, rfl⟩, by simp [Value.oneCell']⟩
instance : TyOne Tryd.prog 113 := ⟨fun _ => rfl, _, rfl, rfl⟩
instance : TyZero Tryd.prog 113 [.nilFunc] := ⟨⟨_, _, rfl, rfl, rfl⟩, by simp [Value.oneCell']⟩
instance : TyOne Tryd.prog 114 := ⟨fun _ => rfl, _, rfl, rfl⟩
instance : TyZero Tryd.prog 114 [.nilFunc] := ⟨⟨_, _, rfl, rfl, rfl⟩, by simp [Value.oneCell']⟩
instance : TyOne Tryd.prog 115 := ⟨fun _ => rfl, _, rfl, rfl⟩
instance : TyZero Tryd.prog 115 [.nilFunc] := ⟨⟨_, _, rfl, rfl, rfl⟩, by simp [Value.oneCell']⟩
instance : TyOne Tryd.prog 116 := ⟨fun _ => rfl, _, rfl, rfl⟩
instance : TyZero Tryd.prog 116 [.nilFunc] := ⟨⟨_, _, rfl, rfl, rfl⟩, by simp [Value.oneCell']⟩
instance : TyOne Tryd.prog 117 := ⟨fun _ => rfl, _, rfl, rfl⟩
instance : TyZero Tryd.prog 117 [.nilFunc] := ⟨⟨_, _, rfl, rfl, rfl⟩, by simp [Value.oneCell']⟩
instance : TyOne Tryd.prog 118 := ⟨fun _ => rfl, _, rfl, rfl⟩
instance : TyZero Tryd.prog 118 [.nilFunc] := ⟨⟨_, _, rfl, rfl, rfl⟩, by simp [Value.oneCell']⟩
instance : TyOne Tryd.prog 119 := ⟨fun _ => rfl, _, rfl, rfl⟩
instance : TyZero Tryd.prog 119 [.nilFunc] := ⟨⟨_, _, rfl, rfl, rfl⟩, by simp [Value.oneCell']⟩
instance : TyOne Tryd.prog 120 := ⟨fun _ => rfl, _, rfl, rfl⟩
instance : TyZero Tryd.prog 120 [.pointer none] := ⟨⟨_, _, rfl, rfl, rfl⟩, by simp [Value.oneCell']⟩
instance : TyOne Tryd.prog 121 := ⟨fun _ => rfl, _, rfl, rfl⟩
instance : TyZero Tryd.prog 121 [.nilFunc] := ⟨⟨_, _, rfl, rfl, rfl⟩, by simp [Value.oneCell']⟩
instance : TyOne Tryd.prog 122 := ⟨fun _ => rfl, _, rfl, rfl⟩
instance : TyZero Tryd.prog 122 [.nilFunc] := ⟨⟨_, _, rfl, rfl, rfl⟩, by simp [Value.oneCell']⟩
instance : TyOne Tryd.prog 123 := ⟨fun _ => rfl, _, rfl, rfl⟩
instance : TyZero Tryd.prog 123 [.nilFunc] := ⟨⟨_, _, rfl, rfl, rfl⟩, by simp [Value.oneCell']⟩
instance : TyOne Tryd.prog 124 := ⟨fun _ => rfl, _, rfl, rfl⟩
instance : TyZero Tryd.prog 124 [.nilFunc] := ⟨⟨_, _, rfl, rfl, rfl⟩, by simp [Value.oneCell']⟩
instance : TyOne Tryd.prog 126 := ⟨fun _ => rfl, _, rfl, rfl⟩
instance : TyZero Tryd.prog 126 [.nilFunc] := ⟨⟨_, _, rfl, rfl, rfl⟩, by simp [Value.oneCell']⟩
instance : TyOne Tryd.prog 127 := ⟨fun _ => rfl, _, rfl, rfl⟩
instance : TyZero Tryd.prog 127 [.nilFunc] := ⟨⟨_, _, rfl, rfl, rfl⟩, by simp [Value.oneCell']⟩
instance : TyOne Tryd.prog 131 := ⟨fun _ => rfl, _, rfl, rfl⟩
instance : TyZero Tryd.prog 131 [.nilFunc] := ⟨⟨_, _, rfl, rfl, rfl⟩, by simp [Value.oneCell']⟩
instance : TyOne Tryd.prog 132 := ⟨fun _ => rfl, _, rfl, rfl⟩
instance : TyZero Tryd.prog 132 [.nilFunc] := ⟨⟨_, _, rfl, rfl, rfl⟩, by simp [Value.oneCell']⟩
instance : TyOne Tryd.prog 133 := ⟨fun _ => rfl, _, rfl, rfl⟩
instance : TyZero Tryd.prog 133 [.pointer none] := ⟨⟨_, _, rfl, rfl, rfl⟩, by simp [Value.oneCell']⟩
instance : TyOne Tryd.prog 134 := ⟨fun _ => rfl, _, rfl, rfl⟩
instance : TyZero Tryd.prog 134 [.int .u64 0] := ⟨⟨_, _, rfl, rfl, rfl⟩, by simp [Value.oneCell']⟩
instance : TyOne Tryd.prog 136 := ⟨fun _ => rfl, _, rfl, rfl⟩
instance : TyZero Tryd.prog 136 [.int .u64 0] := ⟨⟨_, _, rfl, rfl, rfl⟩, by simp [Value.oneCell']⟩
instance : TyOne Tryd.prog 137 := ⟨fun _ => rfl, _, rfl, rfl⟩
instance : TyZero Tryd.prog 137 [.nilFunc] := ⟨⟨_, _, rfl, rfl, rfl⟩, by simp [Value.oneCell']⟩
instance : TyOne Tryd.prog 138 := ⟨fun _ => rfl, _, rfl, rfl⟩
instance : TyZero Tryd.prog 138 [.nilFunc] := ⟨⟨_, _, rfl, rfl, rfl⟩, by simp [Value.oneCell']⟩
instance : TyOne Tryd.prog 140 := ⟨fun _ => rfl, _, rfl, rfl⟩
instance : TyZero Tryd.prog 140 [.nilFunc] := ⟨⟨_, _, rfl, rfl, rfl⟩, by simp [Value.oneCell']⟩
instance : TyOne Tryd.prog 141 := ⟨fun _ => rfl, _, rfl, rfl⟩
instance : TyZero Tryd.prog 141 [.nilFunc] := ⟨⟨_, _, rfl, rfl, rfl⟩, by simp [Value.oneCell']⟩
instance : TyOne Tryd.prog 143 := ⟨fun _ => rfl, _, rfl, rfl⟩
instance : TyZero Tryd.prog 143 [.nilFunc] := ⟨⟨_, _, rfl, rfl, rfl⟩, by simp [Value.oneCell']⟩
instance : TyOne Tryd.prog 144 := ⟨fun _ => rfl, _, rfl, rfl⟩
instance : TyZero Tryd.prog 144 [.nilFunc] := ⟨⟨_, _, rfl, rfl, rfl⟩, by simp [Value.oneCell']⟩
instance : TyOne Tryd.prog 145 := ⟨fun _ => rfl, _, rfl, rfl⟩
instance : TyZero Tryd.prog 145 [.nilFunc] := ⟨⟨_, _, rfl, rfl, rfl⟩, by simp [Value.oneCell']⟩
instance : TyOne Tryd.prog 147 := ⟨fun _ => rfl, _, rfl, rfl⟩
instance : TyZero Tryd.prog 147 [.int .u32 0] := ⟨⟨_, _, rfl, rfl, rfl⟩, by simp [Value.oneCell']⟩
instance : TyOne Tryd.prog 149 := ⟨fun _ => rfl, _, rfl, rfl⟩
instance : TyZero Tryd.prog 149 [.nilFunc] := ⟨⟨_, _, rfl, rfl, rfl⟩, by simp [Value.oneCell']⟩
instance : TyOne Tryd.prog 150 := ⟨fun _ => rfl, _, rfl, rfl⟩
instance : TyZero Tryd.prog 150 [.nilFunc] := ⟨⟨_, _, rfl, rfl, rfl⟩, by simp [Value.oneCell']⟩
instance : TyOne Tryd.prog 151 := ⟨fun _ => rfl, _, rfl, rfl⟩
instance : TyZero Tryd.prog 151 [.nilFunc] := ⟨⟨_, _, rfl, rfl, rfl⟩, by simp [Value.oneCell']⟩
instance : TyAgg Tryd.prog 153 2 := ⟨fun _ => rfl, _, rfl, rfl⟩
instance : TyFld Tryd.prog 153 0 0 5 := ⟨_, _, rfl, rfl, rfl, rfl, _, rfl, by decide⟩
instance : TyFld Tryd.prog 153 1 1 5 := ⟨_, _, rfl, rfl, rfl, rfl, _, rfl, by decide⟩
instance : TyStr Tryd.prog 153 [(0, 1), (1, 1)] [.int .u8 0, .int .u8 0] := ⟨⟨_, _, rfl, rfl, rfl, _, rfl, rfl⟩, by simp [Value.oneCell']⟩
instance : TyZero Tryd.prog 153 [.int .u8 0, .int .u8 0] := ⟨⟨_, _, rfl, rfl, rfl⟩, by simp [Value.oneCell']⟩
instance : TyAgg Tryd.prog 154 2 := ⟨fun _ => rfl, _, rfl, rfl⟩
instance : TyFld Tryd.prog 154 0 0 5 := ⟨_, _, rfl, rfl, rfl, rfl, _, rfl, by decide⟩
instance : TyFld Tryd.prog 154 1 1 5 := ⟨_, _, rfl, rfl, rfl, rfl, _, rfl, by decide⟩
instance : TyStr Tryd.prog 154 [(0, 1), (1, 1)] [.int .u8 0, .int .u8 0] := ⟨⟨_, _, rfl, rfl, rfl, _, rfl, rfl⟩, by simp [Value.oneCell']⟩
instance : TyZero Tryd.prog 154 [.int .u8 0, .int .u8 0] := ⟨⟨_, _, rfl, rfl, rfl⟩, by simp [Value.oneCell']⟩
instance : TyOne Tryd.prog 156 := ⟨fun _ => rfl, _, rfl, rfl⟩
instance : TyZero Tryd.prog 156 [.nilFunc] := ⟨⟨_, _, rfl, rfl, rfl⟩, by simp [Value.oneCell']⟩
instance : TyOne Tryd.prog 157 := ⟨fun _ => rfl, _, rfl, rfl⟩
instance : TyZero Tryd.prog 157 [.nilFunc] := ⟨⟨_, _, rfl, rfl, rfl⟩, by simp [Value.oneCell']⟩
instance : TyOne Tryd.prog 158 := ⟨fun _ => rfl, _, rfl, rfl⟩
instance : TyZero Tryd.prog 158 [.nilFunc] := ⟨⟨_, _, rfl, rfl, rfl⟩, by simp [Value.oneCell']⟩
instance : TyAgg Tryd.prog 161 4 := ⟨fun _ => rfl, _, rfl, rfl⟩
instance : TyFld Tryd.prog 161 0 0 17 := ⟨_, _, rfl, rfl, rfl, rfl, _, rfl, by decide⟩
instance : TyFld Tryd.prog 161 1 1 17 := ⟨_, _, rfl, rfl, rfl, rfl, _, rfl, by decide⟩
instance : TyFld Tryd.prog 161 2 2 17 := ⟨_, _, rfl, rfl, rfl, rfl, _, rfl, by decide⟩
instance : TyFld Tryd.prog 161 3 3 9 := ⟨_, _, rfl, rfl, rfl, rfl, _, rfl, by decide⟩
instance : TyStr Tryd.prog 161 [(0, 1), (1, 1), (2, 1), (3, 1)] [.pointer none, .pointer none, .pointer none, .string ByteArray.empty] := ⟨⟨_, _, rfl, rfl, rfl, _, rfl, rfl⟩, by simp [Value.oneCell']⟩
instance : TyZero Tryd.prog 161 [.pointer none, .pointer none, .pointer none, .string ByteArray.empty] := ⟨⟨_, _, rfl, rfl, rfl⟩, by simp [Value.oneCell']⟩
instance : TyAgg Tryd.prog 162 4 := ⟨fun _ => rfl, _, rfl, rfl⟩
instance : TyFld Tryd.prog 162 0 0 17 := ⟨_, _, rfl, rfl, rfl, rfl, _, rfl, by decide⟩
instance : TyFld Tryd.prog 162 1 1 17 := ⟨_, _, rfl, rfl, rfl, rfl, _, rfl, by decide⟩
instance : TyFld Tryd.prog 162 2 2 17 := ⟨_, _, rfl, rfl, rfl, rfl, _, rfl, by decide⟩
instance : TyFld Tryd.prog 162 3 3 9 := ⟨_, _, rfl, rfl, rfl, rfl, _, rfl, by decide⟩
instance : TyStr Tryd.prog 162 [(0, 1), (1, 1), (2, 1), (3, 1)] [.pointer none, .pointer none, .pointer none, .string ByteArray.empty] := ⟨⟨_, _, rfl, rfl, rfl, _, rfl, rfl⟩, by simp [Value.oneCell']⟩
instance : TyZero Tryd.prog 162 [.pointer none, .pointer none, .pointer none, .string ByteArray.empty] := ⟨⟨_, _, rfl, rfl, rfl⟩, by simp [Value.oneCell']⟩
instance : TyOne Tryd.prog 166 := ⟨fun _ => rfl, _, rfl, rfl⟩
instance : TyZero Tryd.prog 166 [.nilFunc] := ⟨⟨_, _, rfl, rfl, rfl⟩, by simp [Value.oneCell']⟩
instance : TyOne Tryd.prog 167 := ⟨fun _ => rfl, _, rfl, rfl⟩
instance : TyZero Tryd.prog 167 [.int .u8 0] := ⟨⟨_, _, rfl, rfl, rfl⟩, by simp [Value.oneCell']⟩
instance : TyOne Tryd.prog 168 := ⟨fun _ => rfl, _, rfl, rfl⟩
instance : TyZero Tryd.prog 168 [.int .u8 0] := ⟨⟨_, _, rfl, rfl, rfl⟩, by simp [Value.oneCell']⟩
instance : TyOne Tryd.prog 169 := ⟨fun _ => rfl, _, rfl, rfl⟩
instance : TyZero Tryd.prog 169 [.nilFunc] := ⟨⟨_, _, rfl, rfl, rfl⟩, by simp [Value.oneCell']⟩
instance : TyOne Tryd.prog 170 := ⟨fun _ => rfl, _, rfl, rfl⟩
instance : TyZero Tryd.prog 170 [.int .i32 0] := ⟨⟨_, _, rfl, rfl, rfl⟩, by simp [Value.oneCell']⟩
instance : TyOne Tryd.prog 171 := ⟨fun _ => rfl, _, rfl, rfl⟩
instance : TyZero Tryd.prog 171 [.int .i32 0] := ⟨⟨_, _, rfl, rfl, rfl⟩, by simp [Value.oneCell']⟩
instance : TyAgg Tryd.prog 172 11 := ⟨fun _ => rfl, _, rfl, rfl⟩
instance : TyFld Tryd.prog 172 0 0 12 := ⟨_, _, rfl, rfl, rfl, rfl, _, rfl, by decide⟩
instance : TyFld Tryd.prog 172 1 1 12 := ⟨_, _, rfl, rfl, rfl, rfl, _, rfl, by decide⟩
instance : TyFld Tryd.prog 172 2 2 147 := ⟨_, _, rfl, rfl, rfl, rfl, _, rfl, by decide⟩
instance : TyFld Tryd.prog 172 3 3 167 := ⟨_, _, rfl, rfl, rfl, rfl, _, rfl, by decide⟩
instance : TyFld Tryd.prog 172 4 4 5 := ⟨_, _, rfl, rfl, rfl, rfl, _, rfl, by decide⟩
instance : TyFld Tryd.prog 172 5 5 5 := ⟨_, _, rfl, rfl, rfl, rfl, _, rfl, by decide⟩
instance : TyFld Tryd.prog 172 6 6 168 := ⟨_, _, rfl, rfl, rfl, rfl, _, rfl, by decide⟩
instance : TyFld Tryd.prog 172 7 7 169 := ⟨_, _, rfl, rfl, rfl, rfl, _, rfl, by decide⟩
instance : TyFld Tryd.prog 172 8 8 120 := ⟨_, _, rfl, rfl, rfl, rfl, _, rfl, by decide⟩
instance : TyFld Tryd.prog 172 9 9 170 := ⟨_, _, rfl, rfl, rfl, rfl, _, rfl, by decide⟩
instance : TyFld Tryd.prog 172 10 10 171 := ⟨_, _, rfl, rfl, rfl, rfl, _, rfl, by decide⟩
instance : TyStr Tryd.prog 172 [(0, 1), (1, 1), (2, 1), (3, 1), (4, 1), (5, 1), (6, 1), (7, 1), (8, 1), (9, 1), (10, 1)] [.int .u64 0, .int .u64 0, .int .u32 0, .int .u8 0, .int .u8 0, .int .u8 0, .int .u8 0, .nilFunc, .pointer none, .int .i32 0, .int .i32 0] := ⟨⟨_, _, rfl, rfl, rfl, _, rfl, rfl⟩, by simp [Value.oneCell']⟩
instance : TyZero Tryd.prog 172 [.int .u64 0, .int .u64 0, .int .u32 0, .int .u8 0, .int .u8 0, .int .u8 0, .int .u8 0, .nilFunc, .pointer none, .int .i32 0, .int .i32 0] := ⟨⟨_, _, rfl, rfl, rfl⟩, by simp [Value.oneCell']⟩
instance : TyAgg Tryd.prog 173 11 := ⟨fun _ => rfl, _, rfl, rfl⟩
instance : TyFld Tryd.prog 173 0 0 12 := ⟨_, _, rfl, rfl, rfl, rfl, _, rfl, by decide⟩
instance : TyFld Tryd.prog 173 1 1 12 := ⟨_, _, rfl, rfl, rfl, rfl, _, rfl, by decide⟩
instance : TyFld Tryd.prog 173 2 2 147 := ⟨_, _, rfl, rfl, rfl, rfl, _, rfl, by decide⟩
instance : TyFld Tryd.prog 173 3 3 167 := ⟨_, _, rfl, rfl, rfl, rfl, _, rfl, by decide⟩
instance : TyFld Tryd.prog 173 4 4 5 := ⟨_, _, rfl, rfl, rfl, rfl, _, rfl, by decide⟩
instance : TyFld Tryd.prog 173 5 5 5 := ⟨_, _, rfl, rfl, rfl, rfl, _, rfl, by decide⟩
instance : TyFld Tryd.prog 173 6 6 168 := ⟨_, _, rfl, rfl, rfl, rfl, _, rfl, by decide⟩
instance : TyFld Tryd.prog 173 7 7 169 := ⟨_, _, rfl, rfl, rfl, rfl, _, rfl, by decide⟩
instance : TyFld Tryd.prog 173 8 8 120 := ⟨_, _, rfl, rfl, rfl, rfl, _, rfl, by decide⟩
instance : TyFld Tryd.prog 173 9 9 170 := ⟨_, _, rfl, rfl, rfl, rfl, _, rfl, by decide⟩
instance : TyFld Tryd.prog 173 10 10 171 := ⟨_, _, rfl, rfl, rfl, rfl, _, rfl, by decide⟩
instance : TyStr Tryd.prog 173 [(0, 1), (1, 1), (2, 1), (3, 1), (4, 1), (5, 1), (6, 1), (7, 1), (8, 1), (9, 1), (10, 1)] [.int .u64 0, .int .u64 0, .int .u32 0, .int .u8 0, .int .u8 0, .int .u8 0, .int .u8 0, .nilFunc, .pointer none, .int .i32 0, .int .i32 0] := ⟨⟨_, _, rfl, rfl, rfl, _, rfl, rfl⟩, by simp [Value.oneCell']⟩
instance : TyZero Tryd.prog 173 [.int .u64 0, .int .u64 0, .int .u32 0, .int .u8 0, .int .u8 0, .int .u8 0, .int .u8 0, .nilFunc, .pointer none, .int .i32 0, .int .i32 0] := ⟨⟨_, _, rfl, rfl, rfl⟩, by simp [Value.oneCell']⟩
end Lg
