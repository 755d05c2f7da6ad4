/- A part of the proof of a law of this seat: it adds no condition. By an AI agent. -/
import Derived.Shelf.Strings.SlTrimAscii
import Derived.Test.YtagccjlmpljahaaDoorProg
import Derived.Test.YtagccjlmpljahaaDoorLgStr
/-
  DERIVED: THE SHELF's CONTRACTS AT THIS DUMP, IN PLAIN WORDS (tools/lay-plain.mjs out of 'YtagccjlmpljahaaDoorShelfRaw.lean', which tools/lay-shelf.mjs wrote): THE SAME DECLARATIONS UNDER THE SAME NAMES: 'import', 'namespace', 'open', 'def', 'theorem' AND NOTHING ELSE: no command of the shelf's: FOR A HAND-IN. Each laying: the table of numbers ('.._ren') and one theorem, a field a fact of the dump's own or the kernel's comparison; each contract: ONE APPLICATION.
-/
namespace Go.Proofs
open Go.Shelf
def Tryd.lays160_ren : Go.Shelf.Ren := ⟨fun | 160 => 129 | 232 => 136 | 231 => 135 | 227 => 137 | 234 => 139 | 233 => 138 | 236 => 141 | 235 => 140 | 228 => 149 | 271 => 151 | 151 => 150 | 197 => 147 | 120 => 156 | 152 => 155 | 260 => 154 | 137 => 157 | 119 => 158 | 224 => 144 | 225 => 143 | 217 => 142 | 266 => 152 | n => n, fun | 9 => 9 | 4 => 4 | 3 => 3 | 5 => 5 | 117 => 168 | 116 => 167 | 0 => 0 | 124 => 171 | 21 => 21 | 105 => 175 | 46 => 173 | 119 => 183 | 139 => 186 | 138 => 185 | n => n, fun | 3 => 1 | 4 => 2 | n => n⟩
theorem Tryd.lays160 : Go.Proofs.Lays.n160 Tryd.prog Tryd.lays160_ren := {
  mixed := by kernel_rfl
  f119 := Tryd.func158.trans (congrArg some (by kernel_rfl))
  f120 := Tryd.func156.trans (congrArg some (by kernel_rfl))
  f137 := Tryd.func157.trans (congrArg some (by kernel_rfl))
  f151 := Tryd.func150.trans (congrArg some (by kernel_rfl))
  f152 := Tryd.func155.trans (congrArg some (by kernel_rfl))
  f160 := Tryd.func129.trans (congrArg some (by kernel_rfl))
  f197 := Tryd.func147.trans (congrArg some (by kernel_rfl))
  f217 := Tryd.func142.trans (congrArg some (by kernel_rfl))
  f224 := Tryd.func144.trans (congrArg some (by kernel_rfl))
  f225 := Tryd.func143.trans (congrArg some (by kernel_rfl))
  f227 := Tryd.func137.trans (congrArg some (by kernel_rfl))
  f228 := Tryd.func149.trans (congrArg some (by kernel_rfl))
  f231 := Tryd.func135.trans (congrArg some (by kernel_rfl))
  f232 := Tryd.func136.trans (congrArg some (by kernel_rfl))
  f233 := Tryd.func138.trans (congrArg some (by kernel_rfl))
  f234 := Tryd.func139.trans (congrArg some (by kernel_rfl))
  f235 := Tryd.func140.trans (congrArg some (by kernel_rfl))
  f236 := Tryd.func141.trans (congrArg some (by kernel_rfl))
  f260 := Tryd.func154.trans (congrArg some (by kernel_rfl))
  f266 := Tryd.func152.trans (congrArg some (by kernel_rfl))
  f271 := Tryd.func151.trans (congrArg some (by kernel_rfl))
  t0 := Tryd.underlying0
  a0 := Tryd.isAgg0
  z0 := Tryd.sizeOf0
  v0 := Tryd.zeroValue0
  t3 := Tryd.underlying3
  a3 := Tryd.isAgg3
  z3 := Tryd.sizeOf3
  v3 := Tryd.zeroValue3
  t4 := Tryd.underlying4
  a4 := Tryd.isAgg4
  z4 := Tryd.sizeOf4
  v4 := Tryd.zeroValue4
  t5 := Tryd.underlying5
  a5 := Tryd.isAgg5
  z5 := Tryd.sizeOf5
  v5 := Tryd.zeroValue5
  t9 := Tryd.underlying9
  a9 := Tryd.isAgg9
  z9 := Tryd.sizeOf9
  v9 := Tryd.zeroValue9
  t21 := Tryd.underlying21
  a21 := Tryd.isAgg21
  z21 := Tryd.sizeOf21
  v21 := Tryd.zeroValue21
  t46 := Tryd.underlying173
  a46 := Tryd.isAgg173
  z46 := Tryd.sizeOf173
  v46 := Tryd.zeroValue173
  t105 := Tryd.underlying175
  a105 := Tryd.isAgg175
  z105 := Tryd.sizeOf175
  v105 := Tryd.zeroValue175
  t116 := Tryd.underlying167
  a116 := Tryd.isAgg167
  z116 := Tryd.sizeOf167
  t117 := Tryd.underlying168
  a117 := Tryd.isAgg168
  z117 := Tryd.sizeOf168
  v117 := Tryd.zeroValue168
  t119 := Tryd.underlying183
  a119 := Tryd.isAgg183
  z119 := Tryd.sizeOf183
  t124 := Tryd.underlying171
  a124 := Tryd.isAgg171
  z124 := Tryd.sizeOf171
  v124 := Tryd.zeroValue171
  t138 := Tryd.underlying185
  a138 := Tryd.isAgg185
  z138 := Tryd.sizeOf185
  v138 := Tryd.zeroValue185
  t139 := Tryd.underlying186
  a139 := Tryd.isAgg186
  z139 := Tryd.sizeOf186
  v139 := Tryd.zeroValue186
  g3 := by kernel_rfl
  g4 := by kernel_rfl }
end Go.Proofs
