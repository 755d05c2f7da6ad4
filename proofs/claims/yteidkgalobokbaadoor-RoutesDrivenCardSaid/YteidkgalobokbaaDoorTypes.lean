/- A part of the proof of a law of this seat: it adds no condition. By an AI agent. -/
import Derived.Test.YteidkgalobokbaaDoorProg
import Derived.Test.YteidkgalobokbaaDoorCore
set_option linter.all false
set_option maxRecDepth 100000
namespace Lg
open Go Go.Proofs
instance : TyOne Tryd.prog 1 := ⟨fun _ => rfl, _, rfl, rfl⟩
instance : TyZero Tryd.prog 1 [.nilFunc] := ⟨⟨_, _, rfl, rfl, rfl⟩, by simp [Value.oneCell']⟩
instance : TyOne Tryd.prog 2 := ⟨fun _ => rfl, _, rfl, rfl⟩
instance : TyZero Tryd.prog 2 [.int .i64 0] := ⟨⟨_, _, rfl, rfl, rfl⟩, by simp [Value.oneCell']⟩
instance : TyOne Tryd.prog 3 := ⟨fun _ => rfl, _, rfl, rfl⟩
instance : TyZero Tryd.prog 3 [.int .i64 0] := ⟨⟨_, _, rfl, rfl, rfl⟩, by simp [Value.oneCell']⟩
instance : TyOne Tryd.prog 4 := ⟨fun _ => rfl, _, rfl, rfl⟩
instance : TyZero Tryd.prog 4 [.bool false] := ⟨⟨_, _, rfl, rfl, rfl⟩, by simp [Value.oneCell']⟩
instance : TyOne Tryd.prog 5 := ⟨fun _ => rfl, _, rfl, rfl⟩
instance : TyZero Tryd.prog 5 [.int .u8 0] := ⟨⟨_, _, rfl, rfl, rfl⟩, by simp [Value.oneCell']⟩
instance : TyOne Tryd.prog 6 := ⟨fun _ => rfl, _, rfl, rfl⟩
instance : TyZero Tryd.prog 6 [.int .u8 0] := ⟨⟨_, _, rfl, rfl, rfl⟩, by simp [Value.oneCell']⟩
instance : TyAgg Tryd.prog 7 4 := ⟨fun _ => rfl, _, rfl, rfl⟩
instance : TyFld Tryd.prog 7 0 0 2 := ⟨_, _, rfl, rfl, rfl, rfl, _, rfl, by decide⟩
instance : TyFld Tryd.prog 7 1 1 3 := ⟨_, _, rfl, rfl, rfl, rfl, _, rfl, by decide⟩
instance : TyFld Tryd.prog 7 2 2 4 := ⟨_, _, rfl, rfl, rfl, rfl, _, rfl, by decide⟩
instance : TyFld Tryd.prog 7 3 3 6 := ⟨_, _, rfl, rfl, rfl, rfl, _, rfl, by decide⟩
instance : TyStr Tryd.prog 7 [(0, 1), (1, 1), (2, 1), (3, 1)] [.int .i64 0, .int .i64 0, .bool false, .int .u8 0] := ⟨⟨_, _, rfl, rfl, rfl, _, rfl, rfl⟩, by simp [Value.oneCell']⟩
instance : TyZero Tryd.prog 7 [.int .i64 0, .int .i64 0, .bool false, .int .u8 0] := ⟨⟨_, _, rfl, rfl, rfl⟩, by simp [Value.oneCell']⟩
instance : TyAgg Tryd.prog 8 4 := ⟨fun _ => rfl, _, rfl, rfl⟩
instance : TyFld Tryd.prog 8 0 0 2 := ⟨_, _, rfl, rfl, rfl, rfl, _, rfl, by decide⟩
instance : TyFld Tryd.prog 8 1 1 3 := ⟨_, _, rfl, rfl, rfl, rfl, _, rfl, by decide⟩
instance : TyFld Tryd.prog 8 2 2 4 := ⟨_, _, rfl, rfl, rfl, rfl, _, rfl, by decide⟩
instance : TyFld Tryd.prog 8 3 3 6 := ⟨_, _, rfl, rfl, rfl, rfl, _, rfl, by decide⟩
instance : TyStr Tryd.prog 8 [(0, 1), (1, 1), (2, 1), (3, 1)] [.int .i64 0, .int .i64 0, .bool false, .int .u8 0] := ⟨⟨_, _, rfl, rfl, rfl, _, rfl, rfl⟩, by simp [Value.oneCell']⟩
instance : TyZero Tryd.prog 8 [.int .i64 0, .int .i64 0, .bool false, .int .u8 0] := ⟨⟨_, _, rfl, rfl, rfl⟩, by simp [Value.oneCell']⟩
instance : TyOne Tryd.prog 9 := ⟨fun _ => rfl, _, rfl, rfl⟩
instance : TyZero Tryd.prog 9 [.string ByteArray.empty] := ⟨⟨_, _, rfl, rfl, rfl⟩, by simp [Value.oneCell']⟩
instance : TyOne Tryd.prog 10 := ⟨fun _ => rfl, _, rfl, rfl⟩
instance : TyZero Tryd.prog 10 [.string ByteArray.empty] := ⟨⟨_, _, rfl, rfl, rfl⟩, by simp [Value.oneCell']⟩
instance : TyOne Tryd.prog 11 := ⟨fun _ => rfl, _, rfl, rfl⟩
instance : TyZero Tryd.prog 11 [.string ByteArray.empty] := ⟨⟨_, _, rfl, rfl, rfl⟩, by simp [Value.oneCell']⟩
instance : TyOne Tryd.prog 12 := ⟨fun _ => rfl, _, rfl, rfl⟩
instance : TyZero Tryd.prog 12 [.int .u64 0] := ⟨⟨_, _, rfl, rfl, rfl⟩, by simp [Value.oneCell']⟩
instance : TyAgg Tryd.prog 13 2 := ⟨fun _ => rfl, _, rfl, rfl⟩
instance : TyFld Tryd.prog 13 0 0 9 := ⟨_, _, rfl, rfl, rfl, rfl, _, rfl, by decide⟩
instance : TyFld Tryd.prog 13 1 1 12 := ⟨_, _, rfl, rfl, rfl, rfl, _, rfl, by decide⟩
instance : TyStr Tryd.prog 13 [(0, 1), (1, 1)] [.string ByteArray.empty, .int .u64 0] := ⟨⟨_, _, rfl, rfl, rfl, _, rfl, rfl⟩, by simp [Value.oneCell']⟩
instance : TyZero Tryd.prog 13 [.string ByteArray.empty, .int .u64 0] := ⟨⟨_, _, rfl, rfl, rfl⟩, by simp [Value.oneCell']⟩
instance : TyAgg Tryd.prog 14 2 := ⟨fun _ => rfl, _, rfl, rfl⟩
instance : TyFld Tryd.prog 14 0 0 9 := ⟨_, _, rfl, rfl, rfl, rfl, _, rfl, by decide⟩
instance : TyFld Tryd.prog 14 1 1 12 := ⟨_, _, rfl, rfl, rfl, rfl, _, rfl, by decide⟩
instance : TyStr Tryd.prog 14 [(0, 1), (1, 1)] [.string ByteArray.empty, .int .u64 0] := ⟨⟨_, _, rfl, rfl, rfl, _, rfl, rfl⟩, by simp [Value.oneCell']⟩
instance : TyZero Tryd.prog 14 [.string ByteArray.empty, .int .u64 0] := ⟨⟨_, _, rfl, rfl, rfl⟩, by simp [Value.oneCell']⟩
instance : TyOne Tryd.prog 15 := ⟨fun _ => rfl, _, rfl, rfl⟩
instance : TyZero Tryd.prog 15 [.pointer none] := ⟨⟨_, _, rfl, rfl, rfl⟩, by simp [Value.oneCell']⟩
instance : TyOne Tryd.prog 16 := ⟨fun _ => rfl, _, rfl, rfl⟩
instance : TyZero Tryd.prog 16 [.pointer none] := ⟨⟨_, _, rfl, rfl, rfl⟩, by simp [Value.oneCell']⟩
instance : TyOne Tryd.prog 17 := ⟨fun _ => rfl, _, rfl, rfl⟩
instance : TyZero Tryd.prog 17 [.pointer none] := ⟨⟨_, _, rfl, rfl, rfl⟩, by simp [Value.oneCell']⟩
instance : TyAgg Tryd.prog 18 1 := ⟨fun _ => rfl, _, rfl, rfl⟩
instance : TyFld Tryd.prog 18 0 0 17 := ⟨_, _, rfl, rfl, rfl, rfl, _, rfl, by decide⟩
instance : TyStr Tryd.prog 18 [(0, 1)] [.pointer none] := ⟨⟨_, _, rfl, rfl, rfl, _, rfl, rfl⟩, by simp [Value.oneCell']⟩
instance : TyZero Tryd.prog 18 [.pointer none] := ⟨⟨_, _, rfl, rfl, rfl⟩, by simp [Value.oneCell']⟩
instance : TyAgg Tryd.prog 19 1 := ⟨fun _ => rfl, _, rfl, rfl⟩
instance : TyFld Tryd.prog 19 0 0 17 := ⟨_, _, rfl, rfl, rfl, rfl, _, rfl, by decide⟩
instance : TyStr Tryd.prog 19 [(0, 1)] [.pointer none] := ⟨⟨_, _, rfl, rfl, rfl, _, rfl, rfl⟩, by simp [Value.oneCell']⟩
instance : TyZero Tryd.prog 19 [.pointer none] := ⟨⟨_, _, rfl, rfl, rfl⟩, by simp [Value.oneCell']⟩
instance : TyOne Tryd.prog 20 := ⟨fun _ => rfl, _, rfl, rfl⟩
instance : TyZero Tryd.prog 20 [.nilIface] := ⟨⟨_, _, rfl, rfl, rfl⟩, by simp [Value.oneCell']⟩
instance : TyOne Tryd.prog 21 := ⟨fun _ => rfl, _, rfl, rfl⟩
instance : TyZero Tryd.prog 21 [.int .i32 0] := ⟨⟨_, _, rfl, rfl, rfl⟩, by simp [Value.oneCell']⟩
instance : TyOne Tryd.prog 22 := ⟨fun _ => rfl, _, rfl, rfl⟩
instance : TyZero Tryd.prog 22 [.slice none 0 0] := ⟨⟨_, _, rfl, rfl, rfl⟩, by simp [Value.oneCell']⟩
instance : TySl Tryd.prog 22 3 1 8 [.int .i64 0] := ⟨rfl, ⟨_, _, rfl, rfl, rfl, rfl, rfl, by decide⟩, rfl, by simp [Value.oneCell']⟩
instance : TyOne Tryd.prog 23 := ⟨fun _ => rfl, _, rfl, rfl⟩
instance : TyZero Tryd.prog 23 [.pointer none] := ⟨⟨_, _, rfl, rfl, rfl⟩, by simp [Value.oneCell']⟩
instance : TyAgg Tryd.prog 24 2 := ⟨fun _ => rfl, _, rfl, rfl⟩
instance : TyFld Tryd.prog 24 0 0 22 := ⟨_, _, rfl, rfl, rfl, rfl, _, rfl, by decide⟩
instance : TyFld Tryd.prog 24 1 1 3 := ⟨_, _, rfl, rfl, rfl, rfl, _, rfl, by decide⟩
instance : TyStr Tryd.prog 24 [(0, 1), (1, 1)] [.slice none 0 0, .int .i64 0] := ⟨⟨_, _, rfl, rfl, rfl, _, rfl, rfl⟩, by simp [Value.oneCell']⟩
instance : TyZero Tryd.prog 24 [.slice none 0 0, .int .i64 0] := ⟨⟨_, _, rfl, rfl, rfl⟩, by simp [Value.oneCell']⟩
instance : TyAgg Tryd.prog 25 2 := ⟨fun _ => rfl, _, rfl, rfl⟩
instance : TyFld Tryd.prog 25 0 0 22 := ⟨_, _, rfl, rfl, rfl, rfl, _, rfl, by decide⟩
instance : TyFld Tryd.prog 25 1 1 3 := ⟨_, _, rfl, rfl, rfl, rfl, _, rfl, by decide⟩
instance : TyStr Tryd.prog 25 [(0, 1), (1, 1)] [.slice none 0 0, .int .i64 0] := ⟨⟨_, _, rfl, rfl, rfl, _, rfl, rfl⟩, by simp [Value.oneCell']⟩
instance : TyZero Tryd.prog 25 [.slice none 0 0, .int .i64 0] := ⟨⟨_, _, rfl, rfl, rfl⟩, by simp [Value.oneCell']⟩
instance : TyOne Tryd.prog 26 := ⟨fun _ => rfl, _, rfl, rfl⟩
instance : TyZero Tryd.prog 26 [.slice none 0 0] := ⟨⟨_, _, rfl, rfl, rfl⟩, by simp [Value.oneCell']⟩
instance : TySl Tryd.prog 26 51 6 56 [.string ByteArray.empty, .int .i64 0, .int .i64 0, .int .i64 0, .int .i64 0, .int .i64 0] := ⟨rfl, ⟨_, _, rfl, rfl, rfl, rfl, rfl, by decide⟩, rfl, by simp [Value.oneCell']⟩
instance : TyOne Tryd.prog 27 := ⟨fun _ => rfl, _, rfl, rfl⟩
instance : TyZero Tryd.prog 27 [.nilFunc] := ⟨⟨_, _, rfl, rfl, rfl⟩, by simp [Value.oneCell']⟩
instance : TyAgg Tryd.prog 28 2 := ⟨fun _ => rfl, _, rfl, rfl⟩
instance : TyFld Tryd.prog 28 0 0 3 := ⟨_, _, rfl, rfl, rfl, rfl, _, rfl, by decide⟩
instance : TyFld Tryd.prog 28 1 1 3 := ⟨_, _, rfl, rfl, rfl, rfl, _, rfl, by decide⟩
instance : TyStr Tryd.prog 28 [(0, 1), (1, 1)] [.int .i64 0, .int .i64 0] := ⟨⟨_, _, rfl, rfl, rfl, _, rfl, rfl⟩, by simp [Value.oneCell']⟩
instance : TyZero Tryd.prog 28 [.int .i64 0, .int .i64 0] := ⟨⟨_, _, rfl, rfl, rfl⟩, by simp [Value.oneCell']⟩
instance : TyAgg Tryd.prog 29 2 := ⟨fun _ => rfl, _, rfl, rfl⟩
instance : TyFld Tryd.prog 29 0 0 3 := ⟨_, _, rfl, rfl, rfl, rfl, _, rfl, by decide⟩
instance : TyFld Tryd.prog 29 1 1 3 := ⟨_, _, rfl, rfl, rfl, rfl, _, rfl, by decide⟩
instance : TyStr Tryd.prog 29 [(0, 1), (1, 1)] [.int .i64 0, .int .i64 0] := ⟨⟨_, _, rfl, rfl, rfl, _, rfl, rfl⟩, by simp [Value.oneCell']⟩
instance : TyZero Tryd.prog 29 [.int .i64 0, .int .i64 0] := ⟨⟨_, _, rfl, rfl, rfl⟩, by simp [Value.oneCell']⟩
instance : TyOne Tryd.prog 30 := ⟨fun _ => rfl, _, rfl, rfl⟩
instance : TyZero Tryd.prog 30 [.nilFunc] := ⟨⟨_, _, rfl, rfl, rfl⟩, by simp [Value.oneCell']⟩
instance : TyOne Tryd.prog 31 := ⟨fun _ => rfl, _, rfl, rfl⟩
instance : TyZero Tryd.prog 31 [.nilFunc] := ⟨⟨_, _, rfl, rfl, rfl⟩, by simp [Value.oneCell']⟩
instance : TyOne Tryd.prog 32 := ⟨fun _ => rfl, _, rfl, rfl⟩
instance : TyZero Tryd.prog 32 [.int .i64 0] := ⟨⟨_, _, rfl, rfl, rfl⟩, by simp [Value.oneCell']⟩
instance : TyOne Tryd.prog 34 := ⟨fun _ => rfl, _, rfl, rfl⟩
instance : TyZero Tryd.prog 34 [.nilFunc] := ⟨⟨_, _, rfl, rfl, rfl⟩, by simp [Value.oneCell']⟩
instance : TyOne Tryd.prog 35 := ⟨fun _ => rfl, _, rfl, rfl⟩
instance : TyZero Tryd.prog 35 [.nilFunc] := ⟨⟨_, _, rfl, rfl, rfl⟩, by simp [Value.oneCell']⟩
instance : TyOne Tryd.prog 36 := ⟨fun _ => rfl, _, rfl, rfl⟩
instance : TyZero Tryd.prog 36 [.nilFunc] := ⟨⟨_, _, rfl, rfl, rfl⟩, by simp [Value.oneCell']⟩
instance : TyAgg Tryd.prog 37 4 := ⟨fun _ => rfl, _, rfl, rfl⟩
instance : TyFld Tryd.prog 37 0 0 22 := ⟨_, _, rfl, rfl, rfl, rfl, _, rfl, by decide⟩
instance : TyFld Tryd.prog 37 1 1 3 := ⟨_, _, rfl, rfl, rfl, rfl, _, rfl, by decide⟩
instance : TyFld Tryd.prog 37 2 2 3 := ⟨_, _, rfl, rfl, rfl, rfl, _, rfl, by decide⟩
instance : TyFld Tryd.prog 37 3 3 3 := ⟨_, _, rfl, rfl, rfl, rfl, _, rfl, by decide⟩
instance : TyStr Tryd.prog 37 [(0, 1), (1, 1), (2, 1), (3, 1)] [.slice none 0 0, .int .i64 0, .int .i64 0, .int .i64 0] := ⟨⟨_, _, rfl, rfl, rfl, _, rfl, rfl⟩, by simp [Value.oneCell']⟩
instance : TyZero Tryd.prog 37 [.slice none 0 0, .int .i64 0, .int .i64 0, .int .i64 0] := ⟨⟨_, _, rfl, rfl, rfl⟩, by simp [Value.oneCell']⟩
instance : TyAgg Tryd.prog 38 4 := ⟨fun _ => rfl, _, rfl, rfl⟩
instance : TyFld Tryd.prog 38 0 0 22 := ⟨_, _, rfl, rfl, rfl, rfl, _, rfl, by decide⟩
instance : TyFld Tryd.prog 38 1 1 3 := ⟨_, _, rfl, rfl, rfl, rfl, _, rfl, by decide⟩
instance : TyFld Tryd.prog 38 2 2 3 := ⟨_, _, rfl, rfl, rfl, rfl, _, rfl, by decide⟩
instance : TyFld Tryd.prog 38 3 3 3 := ⟨_, _, rfl, rfl, rfl, rfl, _, rfl, by decide⟩
instance : TyStr Tryd.prog 38 [(0, 1), (1, 1), (2, 1), (3, 1)] [.slice none 0 0, .int .i64 0, .int .i64 0, .int .i64 0] := ⟨⟨_, _, rfl, rfl, rfl, _, rfl, rfl⟩, by simp [Value.oneCell']⟩
instance : TyZero Tryd.prog 38 [.slice none 0 0, .int .i64 0, .int .i64 0, .int .i64 0] := ⟨⟨_, _, rfl, rfl, rfl⟩, by simp [Value.oneCell']⟩
instance : TyOne Tryd.prog 40 := ⟨fun _ => rfl, _, rfl, rfl⟩
instance : TyZero Tryd.prog 40 [.nilFunc] := ⟨⟨_, _, rfl, rfl, rfl⟩, by simp [Value.oneCell']⟩
instance : TyOne Tryd.prog 41 := ⟨fun _ => rfl, _, rfl, rfl⟩
instance : TyZero Tryd.prog 41 [.nilFunc] := ⟨⟨_, _, rfl, rfl, rfl⟩, by simp [Value.oneCell']⟩
instance : TyOne Tryd.prog 42 := ⟨fun _ => rfl, _, rfl, rfl⟩
instance : TyZero Tryd.prog 42 [.nilFunc] := ⟨⟨_, _, rfl, rfl, rfl⟩, by simp [Value.oneCell']⟩
instance : TyOne Tryd.prog 44 := ⟨fun _ => rfl, _, rfl, rfl⟩
instance : TyZero Tryd.prog 44 [.nilFunc] := ⟨⟨_, _, rfl, rfl, rfl⟩, by simp [Value.oneCell']⟩
instance : TyOne Tryd.prog 45 := ⟨fun _ => rfl, _, rfl, rfl⟩
instance : TyZero Tryd.prog 45 [.nilFunc] := ⟨⟨_, _, rfl, rfl, rfl⟩, by simp [Value.oneCell']⟩
instance : TyOne Tryd.prog 46 := ⟨fun _ => rfl, _, rfl, rfl⟩
instance : TyZero Tryd.prog 46 [.nilFunc] := ⟨⟨_, _, rfl, rfl, rfl⟩, by simp [Value.oneCell']⟩
instance : TyOne Tryd.prog 47 := ⟨fun _ => rfl, _, rfl, rfl⟩
instance : TyZero Tryd.prog 47 [.nilFunc] := ⟨⟨_, _, rfl, rfl, rfl⟩, by simp [Value.oneCell']⟩
instance : TyOne Tryd.prog 48 := ⟨fun _ => rfl, _, rfl, rfl⟩
instance : TyZero Tryd.prog 48 [.nilFunc] := ⟨⟨_, _, rfl, rfl, rfl⟩, by simp [Value.oneCell']⟩
instance : TyOne Tryd.prog 49 := ⟨fun _ => rfl, _, rfl, rfl⟩
instance : TyZero Tryd.prog 49 [.nilFunc] := ⟨⟨_, _, rfl, rfl, rfl⟩, by simp [Value.oneCell']⟩
instance : TyAgg Tryd.prog 50 6 := ⟨fun _ => rfl, _, rfl, rfl⟩
instance : TyFld Tryd.prog 50 0 0 9 := ⟨_, _, rfl, rfl, rfl, rfl, _, rfl, by decide⟩
instance : TyFld Tryd.prog 50 1 1 29 := ⟨_, _, rfl, rfl, rfl, rfl, _, rfl, by decide⟩
instance : TyFld Tryd.prog 50 2 3 3 := ⟨_, _, rfl, rfl, rfl, rfl, _, rfl, by decide⟩
instance : TyFld Tryd.prog 50 3 4 3 := ⟨_, _, rfl, rfl, rfl, rfl, _, rfl, by decide⟩
instance : TyFld Tryd.prog 50 4 5 3 := ⟨_, _, rfl, rfl, rfl, rfl, _, rfl, by decide⟩
instance : TyStr Tryd.prog 50 [(0, 1), (1, 2), (3, 1), (4, 1), (5, 1)] [.string ByteArray.empty, .int .i64 0, .int .i64 0, .int .i64 0, .int .i64 0, .int .i64 0] := ⟨⟨_, _, rfl, rfl, rfl, _, rfl, rfl⟩, by simp [Value.oneCell']⟩
instance : TyZero Tryd.prog 50 [.string ByteArray.empty, .int .i64 0, .int .i64 0, .int .i64 0, .int .i64 0, .int .i64 0] := ⟨⟨_, _, rfl, rfl, rfl⟩, by simp [Value.oneCell']⟩
instance : TyAgg Tryd.prog 51 6 := ⟨fun _ => rfl, _, rfl, rfl⟩
instance : TyFld Tryd.prog 51 0 0 9 := ⟨_, _, rfl, rfl, rfl, rfl, _, rfl, by decide⟩
instance : TyFld Tryd.prog 51 1 1 29 := ⟨_, _, rfl, rfl, rfl, rfl, _, rfl, by decide⟩
instance : TyFld Tryd.prog 51 2 3 3 := ⟨_, _, rfl, rfl, rfl, rfl, _, rfl, by decide⟩
instance : TyFld Tryd.prog 51 3 4 3 := ⟨_, _, rfl, rfl, rfl, rfl, _, rfl, by decide⟩
instance : TyFld Tryd.prog 51 4 5 3 := ⟨_, _, rfl, rfl, rfl, rfl, _, rfl, by decide⟩
instance : TyStr Tryd.prog 51 [(0, 1), (1, 2), (3, 1), (4, 1), (5, 1)] [.string ByteArray.empty, .int .i64 0, .int .i64 0, .int .i64 0, .int .i64 0, .int .i64 0] := ⟨⟨_, _, rfl, rfl, rfl, _, rfl, rfl⟩, by simp [Value.oneCell']⟩
instance : TyZero Tryd.prog 51 [.string ByteArray.empty, .int .i64 0, .int .i64 0, .int .i64 0, .int .i64 0, .int .i64 0] := ⟨⟨_, _, rfl, rfl, rfl⟩, by simp [Value.oneCell']⟩
instance : TyOne Tryd.prog 52 := ⟨fun _ => rfl, _, rfl, rfl⟩
instance : TyZero Tryd.prog 52 [.nilFunc] := ⟨⟨_, _, rfl, rfl, rfl⟩, by simp [Value.oneCell']⟩
instance : TyOne Tryd.prog 53 := ⟨fun _ => rfl, _, rfl, rfl⟩
instance : TyZero Tryd.prog 53 [.nilFunc] := ⟨⟨_, _, rfl, rfl, rfl⟩, by simp [Value.oneCell']⟩
instance : TyOne Tryd.prog 54 := ⟨fun _ => rfl, _, rfl, rfl⟩
instance : TyZero Tryd.prog 54 [.nilFunc] := ⟨⟨_, _, rfl, rfl, rfl⟩, by simp [Value.oneCell']⟩
instance : TyOne Tryd.prog 55 := ⟨fun _ => rfl, _, rfl, rfl⟩
instance : TyZero Tryd.prog 55 [.nilFunc] := ⟨⟨_, _, rfl, rfl, rfl⟩, by simp [Value.oneCell']⟩
instance : TyOne Tryd.prog 56 := ⟨fun _ => rfl, _, rfl, rfl⟩
instance : TyZero Tryd.prog 56 [.nilFunc] := ⟨⟨_, _, rfl, rfl, rfl⟩, by simp [Value.oneCell']⟩
instance : TyOne Tryd.prog 57 := ⟨fun _ => rfl, _, rfl, rfl⟩
instance : TyZero Tryd.prog 57 [.nilFunc] := ⟨⟨_, _, rfl, rfl, rfl⟩, by simp [Value.oneCell']⟩
instance : TyOne Tryd.prog 58 := ⟨fun _ => rfl, _, rfl, rfl⟩
instance : TyZero Tryd.prog 58 [.nilFunc] := ⟨⟨_, _, rfl, rfl, rfl⟩, by simp [Value.oneCell']⟩
instance : TyOne Tryd.prog 59 := ⟨fun _ => rfl, _, rfl, rfl⟩
instance : TyZero Tryd.prog 59 [.nilFunc] := ⟨⟨_, _, rfl, rfl, rfl⟩, by simp [Value.oneCell']⟩
instance : TyOne Tryd.prog 60 := ⟨fun _ => rfl, _, rfl, rfl⟩
instance : TyZero Tryd.prog 60 [.nilFunc] := ⟨⟨_, _, rfl, rfl, rfl⟩, by simp [Value.oneCell']⟩
instance : TyAgg Tryd.prog 61 4 := ⟨fun _ => rfl, _, rfl, rfl⟩
instance : TyFld Tryd.prog 61 0 0 29 := ⟨_, _, rfl, rfl, rfl, rfl, _, rfl, by decide⟩
instance : TyFld Tryd.prog 61 1 2 26 := ⟨_, _, rfl, rfl, rfl, rfl, _, rfl, by decide⟩
instance : TyFld Tryd.prog 61 2 3 3 := ⟨_, _, rfl, rfl, rfl, rfl, _, rfl, by decide⟩
instance : TyStr Tryd.prog 61 [(0, 2), (2, 1), (3, 1)] [.int .i64 0, .int .i64 0, .slice none 0 0, .int .i64 0] := ⟨⟨_, _, rfl, rfl, rfl, _, rfl, rfl⟩, by simp [Value.oneCell']⟩
instance : TyZero Tryd.prog 61 [.int .i64 0, .int .i64 0, .slice none 0 0, .int .i64 0] := ⟨⟨_, _, rfl, rfl, rfl⟩, by simp [Value.oneCell']⟩
instance : TyAgg Tryd.prog 62 4 := ⟨fun _ => rfl, _, rfl, rfl⟩
instance : TyFld Tryd.prog 62 0 0 29 := ⟨_, _, rfl, rfl, rfl, rfl, _, rfl, by decide⟩
instance : TyFld Tryd.prog 62 1 2 26 := ⟨_, _, rfl, rfl, rfl, rfl, _, rfl, by decide⟩
instance : TyFld Tryd.prog 62 2 3 3 := ⟨_, _, rfl, rfl, rfl, rfl, _, rfl, by decide⟩
instance : TyStr Tryd.prog 62 [(0, 2), (2, 1), (3, 1)] [.int .i64 0, .int .i64 0, .slice none 0 0, .int .i64 0] := ⟨⟨_, _, rfl, rfl, rfl, _, rfl, rfl⟩, by simp [Value.oneCell']⟩
instance : TyZero Tryd.prog 62 [.int .i64 0, .int .i64 0, .slice none 0 0, .int .i64 0] := ⟨⟨_, _, rfl, rfl, rfl⟩, by simp [Value.oneCell']⟩
instance : TyOne Tryd.prog 63 := ⟨fun _ => rfl, _, rfl, rfl⟩
instance : TyZero Tryd.prog 63 [.nilFunc] := ⟨⟨_, _, rfl, rfl, rfl⟩, by simp [Value.oneCell']⟩
instance : TyOne Tryd.prog 64 := ⟨fun _ => rfl, _, rfl, rfl⟩
instance : TyZero Tryd.prog 64 [.nilFunc] := ⟨⟨_, _, rfl, rfl, rfl⟩, by simp [Value.oneCell']⟩
instance : TyOne Tryd.prog 66 := ⟨fun _ => rfl, _, rfl, rfl⟩
instance : TyZero Tryd.prog 66 [.nilFunc] := ⟨⟨_, _, rfl, rfl, rfl⟩, by simp [Value.oneCell']⟩
instance : TyOne Tryd.prog 67 := ⟨fun _ => rfl, _, rfl, rfl⟩
instance : TyZero Tryd.prog 67 [.nilFunc] := ⟨⟨_, _, rfl, rfl, rfl⟩, by simp [Value.oneCell']⟩
instance : TyOne Tryd.prog 68 := ⟨fun _ => rfl, _, rfl, rfl⟩
instance : TyZero Tryd.prog 68 [.nilFunc] := ⟨⟨_, _, rfl, rfl, rfl⟩, by simp [Value.oneCell']⟩
instance : TyOne Tryd.prog 69 := ⟨fun _ => rfl, _, rfl, rfl⟩
instance : TyZero Tryd.prog 69 [.nilFunc] := ⟨⟨_, _, rfl, rfl, rfl⟩, by simp [Value.oneCell']⟩
instance : TyOne Tryd.prog 70 := ⟨fun _ => rfl, _, rfl, rfl⟩
instance : TyZero Tryd.prog 70 [.nilFunc] := ⟨⟨_, _, rfl, rfl, rfl⟩, by simp [Value.oneCell']⟩
instance : TyOne Tryd.prog 71 := ⟨fun _ => rfl, _, rfl, rfl⟩
instance : TyZero Tryd.prog 71 [.pointer none] := ⟨⟨_, _, rfl, rfl, rfl⟩, by simp [Value.oneCell']⟩
instance : TyOne Tryd.prog 72 := ⟨fun _ => rfl, _, rfl, rfl⟩
instance : TyZero Tryd.prog 72 [.slice none 0 0] := ⟨⟨_, _, rfl, rfl, rfl⟩, by simp [Value.oneCell']⟩
instance : TySl Tryd.prog 72 5 1 1 [.int .u8 0] := ⟨rfl, ⟨_, _, rfl, rfl, rfl, rfl, rfl, by decide⟩, rfl, by simp [Value.oneCell']⟩
instance : TyAgg Tryd.prog 73 2 := ⟨fun _ => rfl, _, rfl, rfl⟩
instance : TyFld Tryd.prog 73 0 0 71 := ⟨_, _, rfl, rfl, rfl, rfl, _, rfl, by decide⟩
instance : TyFld Tryd.prog 73 1 1 72 := ⟨_, _, rfl, rfl, rfl, rfl, _, rfl, by decide⟩
instance : TyStr Tryd.prog 73 [(0, 1), (1, 1)] [.pointer none, .slice none 0 0] := ⟨⟨_, _, rfl, rfl, rfl, _, rfl, rfl⟩, by simp [Value.oneCell']⟩
instance : TyZero Tryd.prog 73 [.pointer none, .slice none 0 0] := ⟨⟨_, _, rfl, rfl, rfl⟩, by simp [Value.oneCell']⟩
instance : TyAgg Tryd.prog 74 2 := ⟨fun _ => rfl, _, rfl, rfl⟩
instance : TyFld Tryd.prog 74 0 0 71 := ⟨_, _, rfl, rfl, rfl, rfl, _, rfl, by decide⟩
instance : TyFld Tryd.prog 74 1 1 72 := ⟨_, _, rfl, rfl, rfl, rfl, _, rfl, by decide⟩
instance : TyStr Tryd.prog 74 [(0, 1), (1, 1)] [.pointer none, .slice none 0 0] := ⟨⟨_, _, rfl, rfl, rfl, _, rfl, rfl⟩, by simp [Value.oneCell']⟩
instance : TyZero Tryd.prog 74 [.pointer none, .slice none 0 0] := ⟨⟨_, _, rfl, rfl, rfl⟩, by simp [Value.oneCell']⟩
instance : TyOne Tryd.prog 75 := ⟨fun _ => rfl, _, rfl, rfl⟩
instance : TyZero Tryd.prog 75 [.nilIface] := ⟨⟨_, _, rfl, rfl, rfl⟩, by simp [Value.oneCell']⟩
instance : TyOne Tryd.prog 76 := ⟨fun _ => rfl, _, rfl, rfl⟩
instance : TyZero Tryd.prog 76 [.nilIface] := ⟨⟨_, _, rfl, rfl, rfl⟩, by simp [Value.oneCell']⟩
instance : TyOne Tryd.prog 78 := ⟨fun _ => rfl, _, rfl, rfl⟩
instance : TyZero Tryd.prog 78 [.nilFunc] := ⟨⟨_, _, rfl, rfl, rfl⟩, by simp [Value.oneCell']⟩
instance : TyOne Tryd.prog 79 := ⟨fun _ => rfl, _, rfl, rfl⟩
instance : TyZero Tryd.prog 79 [.nilFunc] := ⟨⟨_, _, rfl, rfl, rfl⟩, by simp [Value.oneCell']⟩
instance : TyOne Tryd.prog 80 := ⟨fun _ => rfl, _, rfl, rfl⟩
instance : TyZero Tryd.prog 80 [.nilFunc] := ⟨⟨_, _, rfl, rfl, rfl⟩, by simp [Value.oneCell']⟩
instance : TyOne Tryd.prog 81 := ⟨fun _ => rfl, _, rfl, rfl⟩
instance : TyZero Tryd.prog 81 [.slice none 0 0] := ⟨⟨_, _, rfl, rfl, rfl⟩, by simp [Value.oneCell']⟩
instance : TySl Tryd.prog 81 9 1 16 [.string ByteArray.empty] := ⟨rfl, ⟨_, _, rfl, rfl, rfl, rfl, rfl, by decide⟩, rfl, by simp [Value.oneCell']⟩
instance : TyOne Tryd.prog 82 := ⟨fun _ => rfl, _, rfl, rfl⟩
instance : TyZero Tryd.prog 82 [.nilFunc] := ⟨⟨_, _, rfl, rfl, rfl⟩, by simp [Value.oneCell']⟩
instance : TyOne Tryd.prog 83 := ⟨fun _ => rfl, _, rfl, rfl⟩
instance : TyZero Tryd.prog 83 [.nilFunc] := ⟨⟨_, _, rfl, rfl, rfl⟩, by simp [Value.oneCell']⟩
instance : TyOne Tryd.prog 84 := ⟨fun _ => rfl, _, rfl, rfl⟩
instance : TyZero Tryd.prog 84 [.slice none 0 0] := ⟨⟨_, _, rfl, rfl, rfl⟩, by simp [Value.oneCell']⟩
instance : TySl Tryd.prog 84 4 1 1 [.bool false] := ⟨rfl, ⟨_, _, rfl, rfl, rfl, rfl, rfl, by decide⟩, rfl, by simp [Value.oneCell']⟩
instance : TyOne Tryd.prog 85 := ⟨fun _ => rfl, _, rfl, rfl⟩
instance : TyZero Tryd.prog 85 [.nilFunc] := ⟨⟨_, _, rfl, rfl, rfl⟩, by simp [Value.oneCell']⟩
instance : TyOne Tryd.prog 86 := ⟨fun _ => rfl, _, rfl, rfl⟩
instance : TyZero Tryd.prog 86 [.nilFunc] := ⟨⟨_, _, rfl, rfl, rfl⟩, by simp [Value.oneCell']⟩
instance : TyOne Tryd.prog 87 := ⟨fun _ => rfl, _, rfl, rfl⟩
instance : TyZero Tryd.prog 87 [.pointer none] := ⟨⟨_, _, rfl, rfl, rfl⟩, by simp [Value.oneCell']⟩
instance : TyOne Tryd.prog 88 := ⟨fun _ => rfl, _, rfl, rfl⟩
instance : TyZero Tryd.prog 88 [.nilFunc] := ⟨⟨_, _, rfl, rfl, rfl⟩, by simp [Value.oneCell']⟩
instance : TyOne Tryd.prog 89 := ⟨fun _ => rfl, _, rfl, rfl⟩
instance : TyZero Tryd.prog 89 [.nilFunc] := ⟨⟨_, _, rfl, rfl, rfl⟩, by simp [Value.oneCell']⟩
instance : TyOne Tryd.prog 91 := ⟨fun _ => rfl, _, rfl, rfl⟩
instance : TyZero Tryd.prog 91 [.nilFunc] := ⟨⟨_, _, rfl, rfl, rfl⟩, by simp [Value.oneCell']⟩
instance : TyOne Tryd.prog 92 := ⟨fun _ => rfl, _, rfl, rfl⟩
instance : TyZero Tryd.prog 92 [.nilFunc] := ⟨⟨_, _, rfl, rfl, rfl⟩, by simp [Value.oneCell']⟩
instance : TyOne Tryd.prog 96 := ⟨fun _ => rfl, _, rfl, rfl⟩
instance : TyZero Tryd.prog 96 [.nilFunc] := ⟨⟨_, _, rfl, rfl, rfl⟩, by simp [Value.oneCell']⟩
instance : TyOne Tryd.prog 97 := ⟨fun _ => rfl, _, rfl, rfl⟩
instance : TyZero Tryd.prog 97 [.nilFunc] := ⟨⟨_, _, rfl, rfl, rfl⟩, by simp [Value.oneCell']⟩
instance : TyOne Tryd.prog 98 := ⟨fun _ => rfl, _, rfl, rfl⟩
instance : TyZero Tryd.prog 98 [.pointer none] := ⟨⟨_, _, rfl, rfl, rfl⟩, by simp [Value.oneCell']⟩
instance : TyOne Tryd.prog 100 := ⟨fun _ => rfl, _, rfl, rfl⟩
instance : TyZero Tryd.prog 100 [.int .u64 0] := ⟨⟨_, _, rfl, rfl, rfl⟩, by simp [Value.oneCell']⟩
instance : TyOne Tryd.prog 101 := ⟨fun _ => rfl, _, rfl, rfl⟩
instance : TyZero Tryd.prog 101 [.nilFunc] := ⟨⟨_, _, rfl, rfl, rfl⟩, by simp [Value.oneCell']⟩
instance : TyOne Tryd.prog 102 := ⟨fun _ => rfl, _, rfl, rfl⟩
instance : TyZero Tryd.prog 102 [.nilFunc] := ⟨⟨_, _, rfl, rfl, rfl⟩, by simp [Value.oneCell']⟩
instance : TyOne Tryd.prog 104 := ⟨fun _ => rfl, _, rfl, rfl⟩
instance : TyZero Tryd.prog 104 [.nilFunc] := ⟨⟨_, _, rfl, rfl, rfl⟩, by simp [Value.oneCell']⟩
instance : TyOne Tryd.prog 105 := ⟨fun _ => rfl, _, rfl, rfl⟩
instance : TyZero Tryd.prog 105 [.nilFunc] := ⟨⟨_, _, rfl, rfl, rfl⟩, by simp [Value.oneCell']⟩
instance : TyOne Tryd.prog 107 := ⟨fun _ => rfl, _, rfl, rfl⟩
instance : TyZero Tryd.prog 107 [.nilFunc] := ⟨⟨_, _, rfl, rfl, rfl⟩, by simp [Value.oneCell']⟩
instance : TyOne Tryd.prog 108 := ⟨fun _ => rfl, _, rfl, rfl⟩
instance : TyZero Tryd.prog 108 [.nilFunc] := ⟨⟨_, _, rfl, rfl, rfl⟩, by simp [Value.oneCell']⟩
instance : TyOne Tryd.prog 109 := ⟨fun _ => rfl, _, rfl, rfl⟩
instance : TyZero Tryd.prog 109 [.nilFunc] := ⟨⟨_, _, rfl, rfl, rfl⟩, by simp [Value.oneCell']⟩
instance : TyOne Tryd.prog 111 := ⟨fun _ => rfl, _, rfl, rfl⟩
instance : TyZero Tryd.prog 111 [.int .u32 0] := ⟨⟨_, _, rfl, rfl, rfl⟩, by simp [Value.oneCell']⟩
instance : TyOne Tryd.prog 113 := ⟨fun _ => rfl, _, rfl, rfl⟩
instance : TyZero Tryd.prog 113 [.int .u64 0] := ⟨⟨_, _, rfl, rfl, rfl⟩, by simp [Value.oneCell']⟩
instance : TyOne Tryd.prog 114 := ⟨fun _ => rfl, _, rfl, rfl⟩
instance : TyZero Tryd.prog 114 [.nilFunc] := ⟨⟨_, _, rfl, rfl, rfl⟩, by simp [Value.oneCell']⟩
instance : TyOne Tryd.prog 115 := ⟨fun _ => rfl, _, rfl, rfl⟩
instance : TyZero Tryd.prog 115 [.nilFunc] := ⟨⟨_, _, rfl, rfl, rfl⟩, by simp [Value.oneCell']⟩
instance : TyOne Tryd.prog 116 := ⟨fun _ => rfl, _, rfl, rfl⟩
instance : TyZero Tryd.prog 116 [.nilFunc] := ⟨⟨_, _, rfl, rfl, rfl⟩, by simp [Value.oneCell']⟩
instance : TyAgg Tryd.prog 118 2 := ⟨fun _ => rfl, _, rfl, rfl⟩
instance : TyFld Tryd.prog 118 0 0 5 := ⟨_, _, rfl, rfl, rfl, rfl, _, rfl, by decide⟩
instance : TyFld Tryd.prog 118 1 1 5 := ⟨_, _, rfl, rfl, rfl, rfl, _, rfl, by decide⟩
instance : TyStr Tryd.prog 118 [(0, 1), (1, 1)] [.int .u8 0, .int .u8 0] := ⟨⟨_, _, rfl, rfl, rfl, _, rfl, rfl⟩, by simp [Value.oneCell']⟩
instance : TyZero Tryd.prog 118 [.int .u8 0, .int .u8 0] := ⟨⟨_, _, rfl, rfl, rfl⟩, by simp [Value.oneCell']⟩
instance : TyAgg Tryd.prog 119 2 := ⟨fun _ => rfl, _, rfl, rfl⟩
instance : TyFld Tryd.prog 119 0 0 5 := ⟨_, _, rfl, rfl, rfl, rfl, _, rfl, by decide⟩
instance : TyFld Tryd.prog 119 1 1 5 := ⟨_, _, rfl, rfl, rfl, rfl, _, rfl, by decide⟩
instance : TyStr Tryd.prog 119 [(0, 1), (1, 1)] [.int .u8 0, .int .u8 0] := ⟨⟨_, _, rfl, rfl, rfl, _, rfl, rfl⟩, by simp [Value.oneCell']⟩
instance : TyZero Tryd.prog 119 [.int .u8 0, .int .u8 0] := ⟨⟨_, _, rfl, rfl, rfl⟩, by simp [Value.oneCell']⟩
instance : TyOne Tryd.prog 121 := ⟨fun _ => rfl, _, rfl, rfl⟩
instance : TyZero Tryd.prog 121 [.nilFunc] := ⟨⟨_, _, rfl, rfl, rfl⟩, by simp [Value.oneCell']⟩
instance : TyOne Tryd.prog 122 := ⟨fun _ => rfl, _, rfl, rfl⟩
instance : TyZero Tryd.prog 122 [.nilFunc] := ⟨⟨_, _, rfl, rfl, rfl⟩, by simp [Value.oneCell']⟩
instance : TyOne Tryd.prog 123 := ⟨fun _ => rfl, _, rfl, rfl⟩
instance : TyZero Tryd.prog 123 [.nilFunc] := ⟨⟨_, _, rfl, rfl, rfl⟩, by simp [Value.oneCell']⟩
instance : TyAgg Tryd.prog 126 4 := ⟨fun _ => rfl, _, rfl, rfl⟩
instance : TyFld Tryd.prog 126 0 0 17 := ⟨_, _, rfl, rfl, rfl, rfl, _, rfl, by decide⟩
instance : TyFld Tryd.prog 126 1 1 17 := ⟨_, _, rfl, rfl, rfl, rfl, _, rfl, by decide⟩
instance : TyFld Tryd.prog 126 2 2 17 := ⟨_, _, rfl, rfl, rfl, rfl, _, rfl, by decide⟩
instance : TyFld Tryd.prog 126 3 3 9 := ⟨_, _, rfl, rfl, rfl, rfl, _, rfl, by decide⟩
instance : TyStr Tryd.prog 126 [(0, 1), (1, 1), (2, 1), (3, 1)] [.pointer none, .pointer none, .pointer none, .string ByteArray.empty] := ⟨⟨_, _, rfl, rfl, rfl, _, rfl, rfl⟩, by simp [Value.oneCell']⟩
instance : TyZero Tryd.prog 126 [.pointer none, .pointer none, .pointer none, .string ByteArray.empty] := ⟨⟨_, _, rfl, rfl, rfl⟩, by simp [Value.oneCell']⟩
instance : TyAgg Tryd.prog 127 4 := ⟨fun _ => rfl, _, rfl, rfl⟩
instance : TyFld Tryd.prog 127 0 0 17 := ⟨_, _, rfl, rfl, rfl, rfl, _, rfl, by decide⟩
instance : TyFld Tryd.prog 127 1 1 17 := ⟨_, _, rfl, rfl, rfl, rfl, _, rfl, by decide⟩
instance : TyFld Tryd.prog 127 2 2 17 := ⟨_, _, rfl, rfl, rfl, rfl, _, rfl, by decide⟩
instance : TyFld Tryd.prog 127 3 3 9 := ⟨_, _, rfl, rfl, rfl, rfl, _, rfl, by decide⟩
instance : TyStr Tryd.prog 127 [(0, 1), (1, 1), (2, 1), (3, 1)] [.pointer none, .pointer none, .pointer none, .string ByteArray.empty] := ⟨⟨_, _, rfl, rfl, rfl, _, rfl, rfl⟩, by simp [Value.oneCell']⟩
instance : TyZero Tryd.prog 127 [.pointer none, .pointer none, .pointer none, .string ByteArray.empty] := ⟨⟨_, _, rfl, rfl, rfl⟩, by simp [Value.oneCell']⟩
instance : TyOne Tryd.prog 131 := ⟨fun _ => rfl, _, rfl, rfl⟩
instance : TyZero Tryd.prog 131 [.nilFunc] := ⟨⟨_, _, rfl, rfl, rfl⟩, by simp [Value.oneCell']⟩
instance : TyOne Tryd.prog 132 := ⟨fun _ => rfl, _, rfl, rfl⟩
instance : TyZero Tryd.prog 132 [.int .u8 0] := ⟨⟨_, _, rfl, rfl, rfl⟩, by simp [Value.oneCell']⟩
instance : TyOne Tryd.prog 133 := ⟨fun _ => rfl, _, rfl, rfl⟩
instance : TyZero Tryd.prog 133 [.int .u8 0] := ⟨⟨_, _, rfl, rfl, rfl⟩, by simp [Value.oneCell']⟩
instance : TyOne Tryd.prog 134 := ⟨fun _ => rfl, _, rfl, rfl⟩
instance : TyZero Tryd.prog 134 [.nilFunc] := ⟨⟨_, _, rfl, rfl, rfl⟩, by simp [Value.oneCell']⟩
instance : TyOne Tryd.prog 135 := ⟨fun _ => rfl, _, rfl, rfl⟩
instance : TyZero Tryd.prog 135 [.int .i32 0] := ⟨⟨_, _, rfl, rfl, rfl⟩, by simp [Value.oneCell']⟩
instance : TyOne Tryd.prog 136 := ⟨fun _ => rfl, _, rfl, rfl⟩
instance : TyZero Tryd.prog 136 [.int .i32 0] := ⟨⟨_, _, rfl, rfl, rfl⟩, by simp [Value.oneCell']⟩
instance : TyAgg Tryd.prog 137 11 := ⟨fun _ => rfl, _, rfl, rfl⟩
instance : TyFld Tryd.prog 137 0 0 12 := ⟨_, _, rfl, rfl, rfl, rfl, _, rfl, by decide⟩
instance : TyFld Tryd.prog 137 1 1 12 := ⟨_, _, rfl, rfl, rfl, rfl, _, rfl, by decide⟩
instance : TyFld Tryd.prog 137 2 2 111 := ⟨_, _, rfl, rfl, rfl, rfl, _, rfl, by decide⟩
instance : TyFld Tryd.prog 137 3 3 132 := ⟨_, _, rfl, rfl, rfl, rfl, _, rfl, by decide⟩
instance : TyFld Tryd.prog 137 4 4 5 := ⟨_, _, rfl, rfl, rfl, rfl, _, rfl, by decide⟩
instance : TyFld Tryd.prog 137 5 5 5 := ⟨_, _, rfl, rfl, rfl, rfl, _, rfl, by decide⟩
instance : TyFld Tryd.prog 137 6 6 133 := ⟨_, _, rfl, rfl, rfl, rfl, _, rfl, by decide⟩
instance : TyFld Tryd.prog 137 7 7 134 := ⟨_, _, rfl, rfl, rfl, rfl, _, rfl, by decide⟩
instance : TyFld Tryd.prog 137 8 8 87 := ⟨_, _, rfl, rfl, rfl, rfl, _, rfl, by decide⟩
instance : TyFld Tryd.prog 137 9 9 135 := ⟨_, _, rfl, rfl, rfl, rfl, _, rfl, by decide⟩
instance : TyFld Tryd.prog 137 10 10 136 := ⟨_, _, rfl, rfl, rfl, rfl, _, rfl, by decide⟩
instance : TyStr Tryd.prog 137 [(0, 1), (1, 1), (2, 1), (3, 1), (4, 1), (5, 1), (6, 1), (7, 1), (8, 1), (9, 1), (10, 1)] [.int .u64 0, .int .u64 0, .int .u32 0, .int .u8 0, .int .u8 0, .int .u8 0, .int .u8 0, .nilFunc, .pointer none, .int .i32 0, .int .i32 0] := ⟨⟨_, _, rfl, rfl, rfl, _, rfl, rfl⟩, by simp [Value.oneCell']⟩
instance : TyZero Tryd.prog 137 [.int .u64 0, .int .u64 0, .int .u32 0, .int .u8 0, .int .u8 0, .int .u8 0, .int .u8 0, .nilFunc, .pointer none, .int .i32 0, .int .i32 0] := ⟨⟨_, _, rfl, rfl, rfl⟩, by simp [Value.oneCell']⟩
instance : TyAgg Tryd.prog 138 11 := ⟨fun _ => rfl, _, rfl, rfl⟩
instance : TyFld Tryd.prog 138 0 0 12 := ⟨_, _, rfl, rfl, rfl, rfl, _, rfl, by decide⟩
instance : TyFld Tryd.prog 138 1 1 12 := ⟨_, _, rfl, rfl, rfl, rfl, _, rfl, by decide⟩
instance : TyFld Tryd.prog 138 2 2 111 := ⟨_, _, rfl, rfl, rfl, rfl, _, rfl, by decide⟩
instance : TyFld Tryd.prog 138 3 3 132 := ⟨_, _, rfl, rfl, rfl, rfl, _, rfl, by decide⟩
instance : TyFld Tryd.prog 138 4 4 5 := ⟨_, _, rfl, rfl, rfl, rfl, _, rfl, by decide⟩
instance : TyFld Tryd.prog 138 5 5 5 := ⟨_, _, rfl, rfl, rfl, rfl, _, rfl, by decide⟩
instance : TyFld Tryd.prog 138 6 6 133 := ⟨_, _, rfl, rfl, rfl, rfl, _, rfl, by decide⟩
instance : TyFld Tryd.prog 138 7 7 134 := ⟨_, _, rfl, rfl, rfl, rfl, _, rfl, by decide⟩
instance : TyFld Tryd.prog 138 8 8 87 := ⟨_, _, rfl, rfl, rfl, rfl, _, rfl, by decide⟩
instance : TyFld Tryd.prog 138 9 9 135 := ⟨_, _, rfl, rfl, rfl, rfl, _, rfl, by decide⟩
instance : TyFld Tryd.prog 138 10 10 136 := ⟨_, _, rfl, rfl, rfl, rfl, _, rfl, by decide⟩
instance : TyStr Tryd.prog 138 [(0, 1), (1, 1), (2, 1), (3, 1), (4, 1), (5, 1), (6, 1), (7, 1), (8, 1), (9, 1), (10, 1)] [.int .u64 0, .int .u64 0, .int .u32 0, .int .u8 0, .int .u8 0, .int .u8 0, .int .u8 0, .nilFunc, .pointer none, .int .i32 0, .int .i32 0] := ⟨⟨_, _, rfl, rfl, rfl, _, rfl, rfl⟩, by simp [Value.oneCell']⟩
instance : TyZero Tryd.prog 138 [.int .u64 0, .int .u64 0, .int .u32 0, .int .u8 0, .int .u8 0, .int .u8 0, .int .u8 0, .nilFunc, .pointer none, .int .i32 0, .int .i32 0] := ⟨⟨_, _, rfl, rfl, rfl⟩, by simp [Value.oneCell']⟩
end Lg
