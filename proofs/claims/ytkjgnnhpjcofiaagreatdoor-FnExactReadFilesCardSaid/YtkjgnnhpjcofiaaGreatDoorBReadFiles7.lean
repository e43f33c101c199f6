/- Texts of this claim set one behind another by wip/bundle.py: XShelf, XBuilder. -/
import Derived.Shelf.Strings.Builder1
import Derived.Shelf.Small.Strs
import Derived.Shelf.LaysM
import Derived.Shelf.Strconv.Itoa4
import Derived.Shelf.Strings.Split
import Derived.Shelf.Strings.SlTrimAscii
import Derived.Shelf.Slices.CompactS
import Derived.Shelf.Slices.Cells
import Derived.Test.YtkjgnnhpjcofiaaGreatDoorProg
namespace Go.Proofs
open Go.Shelf
def Tryz.lays106_ren : Go.Shelf.Ren := ⟨fun | 106 => 80 | 213 => 129 | 265 => 189 | n => n, fun | 9 => 9 | 3 => 3 | n => n, fun | n => n⟩
theorem Tryz.lays106 : Go.Proofs.Lays.n106 Tryz.prog Tryz.lays106_ren := {
 mixed := by kernel_rfl
 f106 := Tryz.func80.trans (congrArg some (by kernel_rfl))
 f213 := Tryz.func129.trans (congrArg some (by kernel_rfl))
 f265 := Tryz.func189.trans (congrArg some (by kernel_rfl))
 t3 := Tryz.underlying3
 a3 := Tryz.isAgg3
 z3 := Tryz.sizeOf3
 v3 := Tryz.zeroValue3
 t9 := Tryz.underlying9
 a9 := Tryz.isAgg9
 z9 := Tryz.sizeOf9
 v9 := Tryz.zeroValue9 }
def Tryz.lays137_ren : Go.Shelf.Ren := ⟨fun | 137 => 193 | 217 => 244 | 266 => 277 | n => n, fun | 9 => 9 | 5 => 5 | 3 => 3 | n => n, fun | n => n⟩
theorem Tryz.lays137 : Go.Proofs.Lays.n137 Tryz.prog Tryz.lays137_ren := {
 mixed := by kernel_rfl
 f137 := Tryz.func193.trans (congrArg some (by kernel_rfl))
 f217 := Tryz.func244.trans (congrArg some (by kernel_rfl))
 f266 := Tryz.func277.trans (congrArg some (by kernel_rfl))
 t3 := Tryz.underlying3
 a3 := Tryz.isAgg3
 z3 := Tryz.sizeOf3
 v3 := Tryz.zeroValue3
 t5 := Tryz.underlying5
 a5 := Tryz.isAgg5
 z5 := Tryz.sizeOf5
 v5 := Tryz.zeroValue5
 t9 := Tryz.underlying9
 a9 := Tryz.isAgg9
 z9 := Tryz.sizeOf9
 v9 := Tryz.zeroValue9 }
def Tryz.lays160_ren : Go.Shelf.Ren := ⟨fun | 160 => 194 | 232 => 246 | 231 => 245 | 227 => 247 | 234 => 249 | 233 => 248 | 236 => 251 | 235 => 250 | 228 => 278 | 271 => 280 | 151 => 279 | 197 => 275 | 120 => 295 | 152 => 294 | 260 => 293 | 137 => 193 | 119 => 301 | 224 => 253 | 225 => 252 | 217 => 244 | 266 => 277 | n => n, fun | 9 => 9 | 4 => 4 | 3 => 3 | 5 => 5 | 117 => 248 | 116 => 247 | 0 => 0 | 124 => 251 | 21 => 21 | 105 => 269 | 46 => 156 | 119 => 290 | 139 => 293 | 138 => 292 | n => n, fun | 3 => 6 | 4 => 7 | n => n⟩
theorem Tryz.lays160 : Go.Proofs.Lays.n160 Tryz.prog Tryz.lays160_ren := {
 mixed := by kernel_rfl
 f119 := Tryz.func301.trans (congrArg some (by kernel_rfl))
 f120 := Tryz.func295.trans (congrArg some (by kernel_rfl))
 f137 := Tryz.func193.trans (congrArg some (by kernel_rfl))
 f151 := Tryz.func279.trans (congrArg some (by kernel_rfl))
 f152 := Tryz.func294.trans (congrArg some (by kernel_rfl))
 f160 := Tryz.func194.trans (congrArg some (by kernel_rfl))
 f197 := Tryz.func275.trans (congrArg some (by kernel_rfl))
 f217 := Tryz.func244.trans (congrArg some (by kernel_rfl))
 f224 := Tryz.func253.trans (congrArg some (by kernel_rfl))
 f225 := Tryz.func252.trans (congrArg some (by kernel_rfl))
 f227 := Tryz.func247.trans (congrArg some (by kernel_rfl))
 f228 := Tryz.func278.trans (congrArg some (by kernel_rfl))
 f231 := Tryz.func245.trans (congrArg some (by kernel_rfl))
 f232 := Tryz.func246.trans (congrArg some (by kernel_rfl))
 f233 := Tryz.func248.trans (congrArg some (by kernel_rfl))
 f234 := Tryz.func249.trans (congrArg some (by kernel_rfl))
 f235 := Tryz.func250.trans (congrArg some (by kernel_rfl))
 f236 := Tryz.func251.trans (congrArg some (by kernel_rfl))
 f260 := Tryz.func293.trans (congrArg some (by kernel_rfl))
 f266 := Tryz.func277.trans (congrArg some (by kernel_rfl))
 f271 := Tryz.func280.trans (congrArg some (by kernel_rfl))
 t0 := Tryz.underlying0
 a0 := Tryz.isAgg0
 z0 := Tryz.sizeOf0
 v0 := Tryz.zeroValue0
 t3 := Tryz.underlying3
 a3 := Tryz.isAgg3
 z3 := Tryz.sizeOf3
 v3 := Tryz.zeroValue3
 t4 := Tryz.underlying4
 a4 := Tryz.isAgg4
 z4 := Tryz.sizeOf4
 v4 := Tryz.zeroValue4
 t5 := Tryz.underlying5
 a5 := Tryz.isAgg5
 z5 := Tryz.sizeOf5
 v5 := Tryz.zeroValue5
 t9 := Tryz.underlying9
 a9 := Tryz.isAgg9
 z9 := Tryz.sizeOf9
 v9 := Tryz.zeroValue9
 t21 := Tryz.underlying21
 a21 := Tryz.isAgg21
 z21 := Tryz.sizeOf21
 v21 := Tryz.zeroValue21
 t46 := Tryz.underlying156
 a46 := Tryz.isAgg156
 z46 := Tryz.sizeOf156
 v46 := Tryz.zeroValue156
 t105 := Tryz.underlying269
 a105 := Tryz.isAgg269
 z105 := Tryz.sizeOf269
 v105 := Tryz.zeroValue269
 t116 := Tryz.underlying247
 a116 := Tryz.isAgg247
 z116 := Tryz.sizeOf247
 t117 := Tryz.underlying248
 a117 := Tryz.isAgg248
 z117 := Tryz.sizeOf248
 v117 := Tryz.zeroValue248
 t119 := Tryz.underlying290
 a119 := Tryz.isAgg290
 z119 := Tryz.sizeOf290
 t124 := Tryz.underlying251
 a124 := Tryz.isAgg251
 z124 := Tryz.sizeOf251
 v124 := Tryz.zeroValue251
 t138 := Tryz.underlying292
 a138 := Tryz.isAgg292
 z138 := Tryz.sizeOf292
 v138 := Tryz.zeroValue292
 t139 := Tryz.underlying293
 a139 := Tryz.isAgg293
 z139 := Tryz.sizeOf293
 v139 := Tryz.zeroValue293
 g3 := by kernel_rfl
 g4 := by kernel_rfl }
def Tryz.lays221_ren : Go.Shelf.Ren := ⟨fun | 221 => 191 | 268 => 241 | 138 => 242 | 143 => 243 | 195 => 274 | 197 => 275 | 218 => 276 | 219 => 196 | 260 => 293 | 217 => 244 | 225 => 252 | 224 => 253 | 267 => 254 | 266 => 277 | 314 => 281 | n => n, fun | 9 => 9 | 3 => 3 | 31 => 46 | 4 => 4 | 0 => 0 | 105 => 269 | 21 => 21 | 5 => 5 | 46 => 156 | 119 => 290 | 139 => 293 | 138 => 292 | 146 => 233 | 51 => 200 | n => n, fun | 1 => 0 | 3 => 6 | 4 => 7 | n => n⟩
theorem Tryz.lays221 : Go.Proofs.Lays.n221 Tryz.prog Tryz.lays221_ren := {
 mixed := by kernel_rfl
 f138 := Tryz.func242.trans (congrArg some (by kernel_rfl))
 f143 := Tryz.func243.trans (congrArg some (by kernel_rfl))
 f195 := Tryz.func274.trans (congrArg some (by kernel_rfl))
 f197 := Tryz.func275.trans (congrArg some (by kernel_rfl))
 f217 := Tryz.func244.trans (congrArg some (by kernel_rfl))
 f218 := Tryz.func276.trans (congrArg some (by kernel_rfl))
 f219 := Tryz.func196.trans (congrArg some (by kernel_rfl))
 f221 := Tryz.func191.trans (congrArg some (by kernel_rfl))
 f224 := Tryz.func253.trans (congrArg some (by kernel_rfl))
 f225 := Tryz.func252.trans (congrArg some (by kernel_rfl))
 f260 := Tryz.func293.trans (congrArg some (by kernel_rfl))
 f266 := Tryz.func277.trans (congrArg some (by kernel_rfl))
 f267 := Tryz.func254.trans (congrArg some (by kernel_rfl))
 f268 := Tryz.func241.trans (congrArg some (by kernel_rfl))
 f314 := Tryz.func281.trans (congrArg some (by kernel_rfl))
 t0 := Tryz.underlying0
 a0 := Tryz.isAgg0
 z0 := Tryz.sizeOf0
 v0 := Tryz.zeroValue0
 t3 := Tryz.underlying3
 a3 := Tryz.isAgg3
 z3 := Tryz.sizeOf3
 v3 := Tryz.zeroValue3
 t4 := Tryz.underlying4
 a4 := Tryz.isAgg4
 z4 := Tryz.sizeOf4
 v4 := Tryz.zeroValue4
 t5 := Tryz.underlying5
 a5 := Tryz.isAgg5
 z5 := Tryz.sizeOf5
 v5 := Tryz.zeroValue5
 t9 := Tryz.underlying9
 a9 := Tryz.isAgg9
 z9 := Tryz.sizeOf9
 v9 := Tryz.zeroValue9
 t21 := Tryz.underlying21
 a21 := Tryz.isAgg21
 z21 := Tryz.sizeOf21
 v21 := Tryz.zeroValue21
 t31 := Tryz.underlying46
 a31 := Tryz.isAgg46
 z31 := Tryz.sizeOf46
 v31 := Tryz.zeroValue46
 t46 := Tryz.underlying156
 a46 := Tryz.isAgg156
 z46 := Tryz.sizeOf156
 v46 := Tryz.zeroValue156
 t51 := Tryz.underlying200
 a51 := Tryz.isAgg200
 z51 := Tryz.sizeOf200
 v51 := Tryz.zeroValue200
 t105 := Tryz.underlying269
 a105 := Tryz.isAgg269
 z105 := Tryz.sizeOf269
 v105 := Tryz.zeroValue269
 t119 := Tryz.underlying290
 a119 := Tryz.isAgg290
 z119 := Tryz.sizeOf290
 t138 := Tryz.underlying292
 a138 := Tryz.isAgg292
 z138 := Tryz.sizeOf292
 v138 := Tryz.zeroValue292
 t139 := Tryz.underlying293
 a139 := Tryz.isAgg293
 z139 := Tryz.sizeOf293
 v139 := Tryz.zeroValue293
 t146 := Tryz.underlying233
 a146 := Tryz.isAgg233
 z146 := Tryz.sizeOf233
 v146 := Tryz.zeroValue233
 g1 := by kernel_rfl
 g3 := by kernel_rfl
 g4 := by kernel_rfl }
def Tryz.lays169_ren : Go.Shelf.Ren := ⟨fun | 169 => 151 | n => n, fun | 70 => 169 | 9 => 9 | 0 => 0 | 72 => 171 | 37 => 109 | 127 => 216 | 3 => 3 | 5 => 5 | n => n, fun | n => n⟩
theorem Tryz.lays169 : Go.Proofs.Lays.n169 Tryz.prog Tryz.lays169_ren := {
 mixed := by kernel_rfl
 f169 := Tryz.func151.trans (congrArg some (by kernel_rfl))
 t0 := Tryz.underlying0
 a0 := Tryz.isAgg0
 z0 := Tryz.sizeOf0
 v0 := Tryz.zeroValue0
 t3 := Tryz.underlying3
 a3 := Tryz.isAgg3
 z3 := Tryz.sizeOf3
 v3 := Tryz.zeroValue3
 t9 := Tryz.underlying9
 a9 := Tryz.isAgg9
 z9 := Tryz.sizeOf9
 v9 := Tryz.zeroValue9
 t37 := Tryz.underlying109
 a37 := Tryz.isAgg109
 z37 := Tryz.sizeOf109
 v37 := Tryz.zeroValue109
 t70 := Tryz.underlying169
 a70 := Tryz.isAgg169
 z70 := Tryz.sizeOf169
 v70 := Tryz.zeroValue169
 t72 := Tryz.underlying171
 a72 := Tryz.isAgg171
 z72 := Tryz.sizeOf171
 v72 := Tryz.zeroValue171
 t127 := Tryz.underlying216
 a127 := Tryz.isAgg216
 z127 := Tryz.sizeOf216
 v127 := Tryz.zeroValue216 }
theorem Tryz.Builder_Extra_169 : Builder.Extra Tryz.prog Tryz.lays169_ren := {
 sizeBuilder := by kernel_rfl
 liesBuilder := by kernel_rfl
 t5 := Tryz.underlying5
 a5 := Tryz.isAgg5
 z5 := Tryz.sizeOf5
 v5 := Tryz.zeroValue5
 infoByte := by kernel_rfl
 cellsByte := by kernel_rfl
 sizeByte := by kernel_rfl
 neB5 := by decide }
def Tryz.lays166_ren : Go.Shelf.Ren := ⟨fun | 166 => 149 | 240 => 210 | 276 => 260 | n => n, fun | 0 => 0 | 3 => 3 | 4 => 4 | 5 => 5 | 9 => 9 | 20 => 20 | 37 => 109 | 70 => 169 | 72 => 171 | 75 => 173 | 80 => 176 | 164 => 255 | n => n, fun | n => n⟩
theorem Tryz.lays166 : Go.Proofs.Lays.n166 Tryz.prog Tryz.lays166_ren := {
 mixed := by kernel_rfl
 f166 := Tryz.func149.trans (congrArg some (by kernel_rfl))
 f240 := Tryz.func210.trans (congrArg some (by kernel_rfl))
 f276 := Tryz.func260.trans (congrArg some (by kernel_rfl))
 t0 := by kernel_rfl
 a0 := fun w => by kernel_rfl
 z0 := fun w => by kernel_rfl
 v0 := fun w => by kernel_rfl
 t3 := Tryz.underlying3
 a3 := Tryz.isAgg3
 z3 := Tryz.sizeOf3
 v3 := Tryz.zeroValue3
 t4 := Tryz.underlying4
 a4 := Tryz.isAgg4
 z4 := Tryz.sizeOf4
 v4 := Tryz.zeroValue4
 t9 := Tryz.underlying9
 a9 := Tryz.isAgg9
 z9 := Tryz.sizeOf9
 v9 := Tryz.zeroValue9
 t20 := by kernel_rfl
 a20 := fun w => by kernel_rfl
 z20 := fun w => by kernel_rfl
 v20 := fun w => by kernel_rfl
 t37 := by kernel_rfl
 a37 := fun w => by kernel_rfl
 z37 := fun w => by kernel_rfl
 v37 := fun w => by kernel_rfl
 t70 := by kernel_rfl
 a70 := fun w => by kernel_rfl
 z70 := fun w => by kernel_rfl
 v70 := fun w => by kernel_rfl
 t72 := by kernel_rfl
 a72 := fun w => by kernel_rfl
 z72 := fun w => by kernel_rfl
 v72 := fun w => by kernel_rfl
 t75 := by kernel_rfl
 a75 := fun w => by kernel_rfl
 z75 := fun w => by kernel_rfl
 v75 := fun w => by kernel_rfl
 t164 := by kernel_rfl
 a164 := fun w => by kernel_rfl
 z164 := fun w => by kernel_rfl
 v164 := fun w => by kernel_rfl }
theorem Tryz.Builder_Extra_166 : Builder.Extra Tryz.prog Tryz.lays166_ren where
 sizeBuilder := by kernel_rfl
 liesBuilder := by kernel_rfl
 t5 := Tryz.underlying5
 a5 := Tryz.isAgg5
 z5 := Tryz.sizeOf5
 v5 := Tryz.zeroValue5
 infoByte := by kernel_rfl
 cellsByte := by kernel_rfl
 sizeByte := by kernel_rfl
 neB5 := by decide
open Go.RowKit in
theorem Tryz.writeString (B b : Nat) (bs : List Value) (s : ByteArray) (w : World) (h : Lib.IsBuilder 171 5 B b bs w) (hlen : bs.length + s.size ≤ 140737488355328) (hBw : B ≤ w.heap.size) :
 Calls Tryz.prog 149 #[.pointer (some ⟨b, 0, none⟩), .string s] w fun e w' => e = .returned (.tuple #[.int .i64 s.size, .nilIface]) ∧ (Lib.BuilderAt 171 5 B b (.pointer (some ⟨b, 0, none⟩)) (bs ++ Lib.strCells s) w' ∧ Below B w w') :=
 Any.Builder_WriteString Tryz.lays166 Tryz.Builder_Extra_166 B b bs s w h hlen hBw
open Go.RowKit in
theorem Tryz.stringOf (B b : Nat) (l : List UInt8) (w : World) (h : Lib.IsBuilder 171 5 B b (Lib.byteCells l) w) (hBw : B ≤ w.heap.size) :
 Calls Tryz.prog 151 #[.pointer (some ⟨b, 0, none⟩)] w fun e w' => e = .returned (.string ⟨l.toArray⟩) ∧ Below B w w' :=
 Any.Builder_String_any Tryz.lays169 Tryz.Builder_Extra_169 B b l w h hBw
end Go.Proofs
