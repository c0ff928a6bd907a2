/- What functions of the program, of its library and of the document compute: their contracts, and laws about what they compute (X06). No condition. -/
import Derived.Shelf.Strings.Builder1
import Derived.Shelf.Strings.Builder2
import Derived.Shelf.Strings.OnBuilder
import Derived.Shelf.Strconv.Itoa0
import Derived.Shelf.Strconv.Itoa1
import Derived.Shelf.LaysM
import Derived.Shelf.Strconv.Itoa2
import Derived.Shelf.Strconv.Itoa3
import Derived.Shelf.Strconv.Clone
import Derived.Shelf.Strconv.SyntaxError
import Derived.Shelf.LaysC
import Derived.Shelf.Strconv.ToError
import Derived.Shelf.Strconv.Lower
import Derived.Shelf.Strconv.ParseUint10
import Derived.Shelf.Strconv.ParseUint10Empty
import Derived.Shelf.Strconv.RangeError
import Derived.Shelf.Strconv.ToErrorRange
import Derived.Shelf.Strings.Search1
import Derived.Shelf.Strings.Search2
import Derived.Shelf.Strings.Search3
import Derived.Test.YtpajpkbipagjpaaGreatDoorProg
import Derived.Lib.Walk
import Derived.Lib.ItoaNum
import Derived.WalkKit
import Derived.Lib.Strings
import Derived.Lib.ItoaWalk
import Derived.Lib.LaidTab
import Derived.Lib.Hide
import Derived.BigCall
import Derived.Test.YtpajpkbipagjpaaGreatDoorX04
import Derived.Lib.ConvBytes
import Derived.Lib.ParseIntBMem
import Derived.Laws.Strings3
import Derived.Laws.Closers25
import Derived.Laws.Closers25b
import Derived.BigGuard
import Derived.Lib.ItoaMem
import Derived.Lib.AppendIntMem
import Derived.Test.YtpajpkbipagjpaaGreatDoorX05
import Derived.Test.YtpajpkbipagjpaaGreatDoorX03
set_option linter.unusedVariables false
set_option linter.unusedSimpArgs false
namespace Go.Proofs
open Go.Shelf
def Tryz.lays156_ren : Go.Shelf.Ren := ⟨fun | 156 => 157 | 165 => 207 | 166 => 208 | 169 => 144 | 240 => 194 | 241 => 249 | 276 => 234 | 277 => 290 | n => n, fun | 31 => 111 | 9 => 9 | 3 => 3 | 4 => 4 | 0 => 0 | 20 => 20 | 72 => 196 | 76 => 259 | 70 => 194 | 37 => 22 | 75 => 198 | 127 => 246 | 164 => 285 | 5 => 5 | 80 => 200 | n => n, fun | n => n⟩
theorem Tryz.lays156 : Go.Proofs.Lays.n156 Tryz.prog Tryz.lays156_ren := {
 mixed := by kernel_rfl
 f156 := Tryz.func157.trans (congrArg some (by kernel_rfl))
 f165 := Tryz.func207.trans (congrArg some (by kernel_rfl))
 f166 := Tryz.func208.trans (congrArg some (by kernel_rfl))
 f169 := Tryz.func144.trans (congrArg some (by kernel_rfl))
 f240 := Tryz.func194.trans (congrArg some (by kernel_rfl))
 f241 := Tryz.func249.trans (congrArg some (by kernel_rfl))
 f276 := Tryz.func234.trans (congrArg some (by kernel_rfl))
 f277 := Tryz.func290.trans (congrArg some (by kernel_rfl))
 t0 := Tryz.underlying0
 a0 := Tryz.isAgg0
 z0 := Tryz.sizeOf0
 v0 := Tryz.zeroValue0
 t3 := Tryz.underlying3
 a3 := Tryz.isAgg3
 z3 := Tryz.sizeOf3
 v3 := Tryz.zeroValue3
 t4 := Tryz.underlying4
 a4 := Tryz.isAgg4
 z4 := Tryz.sizeOf4
 v4 := Tryz.zeroValue4
 t9 := Tryz.underlying9
 a9 := Tryz.isAgg9
 z9 := Tryz.sizeOf9
 v9 := Tryz.zeroValue9
 t20 := Tryz.underlying20
 a20 := Tryz.isAgg20
 z20 := Tryz.sizeOf20
 v20 := Tryz.zeroValue20
 t31 := Tryz.underlying111
 a31 := Tryz.isAgg111
 z31 := Tryz.sizeOf111
 v31 := Tryz.zeroValue111
 t37 := Tryz.underlying22
 a37 := Tryz.isAgg22
 z37 := Tryz.sizeOf22
 v37 := Tryz.zeroValue22
 t70 := Tryz.underlying194
 a70 := Tryz.isAgg194
 z70 := Tryz.sizeOf194
 v70 := Tryz.zeroValue194
 t72 := Tryz.underlying196
 a72 := Tryz.isAgg196
 z72 := Tryz.sizeOf196
 v72 := Tryz.zeroValue196
 t75 := Tryz.underlying198
 a75 := Tryz.isAgg198
 z75 := Tryz.sizeOf198
 v75 := Tryz.zeroValue198
 t76 := Tryz.underlying259
 a76 := Tryz.isAgg259
 z76 := Tryz.sizeOf259
 v76 := Tryz.zeroValue259
 t127 := Tryz.underlying246
 a127 := Tryz.isAgg246
 z127 := Tryz.sizeOf246
 v127 := Tryz.zeroValue246
 t164 := Tryz.underlying285
 a164 := Tryz.isAgg285
 z164 := Tryz.sizeOf285
 v164 := Tryz.zeroValue285 }
theorem Tryz.Builder_Extra_156 : Builder.Extra Tryz.prog Tryz.lays156_ren := {
 sizeBuilder := by kernel_rfl
 liesBuilder := by kernel_rfl
 t5 := Tryz.underlying5
 a5 := Tryz.isAgg5
 z5 := Tryz.sizeOf5
 v5 := Tryz.zeroValue5
 infoByte := by kernel_rfl
 cellsByte := by kernel_rfl
 sizeByte := by kernel_rfl
 neB5 := by decide }
open Go.RowKit in
theorem Tryz.strings_Join_none (a : Option Addr) (c : Nat) (sep : ByteArray) (w : World) :
 Calls Tryz.prog 157 #[.slice a 0 c, .string sep] w fun e w' => e = .returned (.string ⟨#[]⟩) ∧ w' = w := Any.strings_Join_none Tryz.lays156 Tryz.Builder_Extra_156 a c sep w
open Go.RowKit in
theorem Tryz.strings_Join (bk o c : Nat) (xs : List ByteArray) (sep : ByteArray) (w : World) (hcells : ∀ (j : Nat) x, xs[j]? = some x → w.cell? ⟨bk, o + j, none⟩ = some (.string x)) (hbk : bk < w.heap.size) (hN : xs.length ≤ 140737488355328) (hcap : xs.length ≤ c) (hlen : (Lib.join (xs.map (·.data.toList)) sep.data.toList).length ≤ 140737488355328) :
 Calls Tryz.prog 157 #[.slice (some ⟨bk, o, none⟩) xs.length c, .string sep] w fun e w' => e = .returned (.string ⟨(Lib.join (xs.map (·.data.toList)) sep.data.toList).toArray⟩) ∧ Below w.heap.size w w' := Any.strings_Join Tryz.lays156 Tryz.Builder_Extra_156 bk o c xs sep w hcells hbk hN hcap hlen
def Tryz.lays283_ren : Go.Shelf.Ren := ⟨fun | 283 => 244 | n => n, fun | 3 => 3 | 9 => 9 | 4 => 4 | n => n, fun | n => n⟩
theorem Tryz.lays283 : Go.Proofs.Lays.n283 Tryz.prog Tryz.lays283_ren := {
 mixed := by kernel_rfl
 f283 := Tryz.func244.trans (congrArg some (by kernel_rfl))
 t3 := Tryz.underlying3
 a3 := Tryz.isAgg3
 z3 := Tryz.sizeOf3
 v3 := Tryz.zeroValue3
 t4 := Tryz.underlying4
 a4 := Tryz.isAgg4
 z4 := Tryz.sizeOf4
 v4 := Tryz.zeroValue4
 t9 := Tryz.underlying9
 a9 := Tryz.isAgg9
 z9 := Tryz.sizeOf9
 v9 := Tryz.zeroValue9 }
open Go.Lib in
theorem Tryz.internal_strconv_small (i : Nat) (h : i < 100) (w : World) :
 Calls Tryz.prog 244 #[.int .i64 i] w fun e w' => e = .returned (.string ⟨(Lib.decDigits i).toArray⟩) ∧ w' = w := Any.internal_strconv_small Tryz.lays283 i h w
def Tryz.laysM284_ren : Go.Shelf.Ren := ⟨fun | 284 => 245 | 129 => 285 | 317 => 284 | 318 => 286 | n => n, fun | 53 => 158 | 3 => 3 | 212 => 323 | 0 => 0 | 4 => 4 | 46 => 157 | 5 => 5 | 9 => 9 | n => n, fun | 17 => 5 | n => n⟩
theorem Tryz.laysM284 : Go.Proofs.LaysM.n284 Tryz.prog Tryz.laysM284_ren := {
 mixed := by kernel_rfl
 f129 := Tryz.func285.trans (congrArg some (by kernel_rfl))
 f284 := Tryz.func245.trans (congrArg some (by kernel_rfl))
 f317 := Tryz.func284.trans (congrArg some (by kernel_rfl))
 f318 := Tryz.func286.trans (congrArg some (by kernel_rfl))
 t0 := Tryz.underlying0
 a0 := Tryz.isAgg0
 z0 := Tryz.sizeOf0
 v0 := Tryz.zeroValue0
 t3 := Tryz.underlying3
 a3 := Tryz.isAgg3
 z3 := Tryz.sizeOf3
 v3 := Tryz.zeroValue3
 t4 := Tryz.underlying4
 a4 := Tryz.isAgg4
 z4 := Tryz.sizeOf4
 v4 := Tryz.zeroValue4
 t5 := Tryz.underlying5
 a5 := Tryz.isAgg5
 z5 := Tryz.sizeOf5
 v5 := Tryz.zeroValue5
 t9 := Tryz.underlying9
 a9 := Tryz.isAgg9
 z9 := Tryz.sizeOf9
 v9 := Tryz.zeroValue9
 t46 := Tryz.underlying157
 a46 := Tryz.isAgg157
 z46 := Tryz.sizeOf157
 v46 := Tryz.zeroValue157
 t53 := Tryz.underlying158
 a53 := Tryz.isAgg158
 z53 := Tryz.sizeOf158
 v53 := Tryz.zeroValue158
 t212 := Tryz.underlying323
 a212 := Tryz.isAgg323
 z212 := Tryz.sizeOf323
 v212 := Tryz.zeroValue323
 g17 := by kernel_rfl
 i0 := by kernel_rfl
 i3 := by kernel_rfl
 i4 := by kernel_rfl
 i5 := by kernel_rfl
 i9 := by kernel_rfl
 i46 := by kernel_rfl
 i53 := by kernel_rfl
 i212 := by kernel_rfl
 m17 := by kernel_rfl }
def Tryz.lays285_ren : Go.Shelf.Ren := ⟨fun | 285 => 246 | n => n, fun | 37 => 22 | 53 => 158 | 3 => 3 | 4 => 4 | 51 => 324 | 9 => 9 | 5 => 5 | 0 => 0 | n => n, fun | n => n⟩
theorem Tryz.lays285 : Go.Proofs.Lays.n285 Tryz.prog Tryz.lays285_ren := {
 mixed := by kernel_rfl
 f285 := Tryz.func246.trans (congrArg some (by kernel_rfl))
 t0 := Tryz.underlying0
 a0 := Tryz.isAgg0
 z0 := Tryz.sizeOf0
 v0 := Tryz.zeroValue0
 t3 := Tryz.underlying3
 a3 := Tryz.isAgg3
 z3 := Tryz.sizeOf3
 v3 := Tryz.zeroValue3
 t4 := Tryz.underlying4
 a4 := Tryz.isAgg4
 z4 := Tryz.sizeOf4
 v4 := Tryz.zeroValue4
 t5 := Tryz.underlying5
 a5 := Tryz.isAgg5
 z5 := Tryz.sizeOf5
 v5 := Tryz.zeroValue5
 t9 := Tryz.underlying9
 a9 := Tryz.isAgg9
 z9 := Tryz.sizeOf9
 v9 := Tryz.zeroValue9
 t37 := Tryz.underlying22
 a37 := Tryz.isAgg22
 z37 := Tryz.sizeOf22
 v37 := Tryz.zeroValue22
 t51 := Tryz.underlying324
 a51 := Tryz.isAgg324
 z51 := Tryz.sizeOf324
 v51 := Tryz.zeroValue324
 t53 := Tryz.underlying158
 a53 := Tryz.isAgg158
 z53 := Tryz.sizeOf158
 v53 := Tryz.zeroValue158 }
open Go.RowKit Go.Sort Go.Lib in
theorem Tryz.internal_strconv_formatBase10 (blk off cap : Nat) (u : Nat) (d : Array UInt8) (w : World) (hH : Holds (fun (b : UInt8) => Value.int .u8 (b.toNat : Int)) w blk off d) (hu : u < 10 ^ d.size) (hu64 : u < 18446744073709551616) (hsz : d.size < 4611686018427387904) :
 Calls Tryz.prog 246 #[.slice (some ⟨blk, off, none⟩) d.size cap, .int .u64 u] w fun e w' =>
  e = .returned (.tuple #[]) ∧ ∃ (n v' : Nat) (dk : Array UInt8), w' = (putRow (fun (b : UInt8) => Value.int .u8 (b.toNat : Int)) w blk off dk).drewN n ∧ FmtInv d.size u 0 v' dk := Any.internal_strconv_formatBase10 Tryz.lays285 blk off cap u d w hH hu hu64 hsz
def Tryz.laysM171_ren : Go.Shelf.Ren := ⟨fun | 171 => 108 | 243 => 151 | 246 => 200 | 283 => 244 | 284 => 245 | 285 => 246 | 286 => 247 | 129 => 285 | 317 => 284 | 318 => 286 | 319 => 287 | 320 => 288 | 337 => 329 | 338 => 330 | n => n, fun | 3 => 3 | 9 => 9 | 2 => 2 | 4 => 4 | 171 => 296 | 0 => 0 | 53 => 158 | 37 => 22 | 5 => 5 | 173 => 299 | 212 => 323 | 51 => 324 | 20 => 20 | 213 => 325 | 46 => 157 | 232 => 361 | 233 => 362 | n => n, fun | 17 => 5 | 18 => 9 | 19 => 10 | n => n⟩
theorem Tryz.laysM171 : Go.Proofs.LaysM.n171 Tryz.prog Tryz.laysM171_ren := {
 mixed := by kernel_rfl
 f129 := Tryz.func285.trans (congrArg some (by kernel_rfl))
 f171 := Tryz.func108.trans (congrArg some (by kernel_rfl))
 f243 := Tryz.func151.trans (congrArg some (by kernel_rfl))
 f246 := Tryz.func200.trans (congrArg some (by kernel_rfl))
 f283 := Tryz.func244.trans (congrArg some (by kernel_rfl))
 f284 := Tryz.func245.trans (congrArg some (by kernel_rfl))
 f285 := Tryz.func246.trans (congrArg some (by kernel_rfl))
 f286 := Tryz.func247.trans (congrArg some (by kernel_rfl))
 f317 := Tryz.func284.trans (congrArg some (by kernel_rfl))
 f318 := Tryz.func286.trans (congrArg some (by kernel_rfl))
 f319 := Tryz.func287.trans (congrArg some (by kernel_rfl))
 f320 := Tryz.func288.trans (congrArg some (by kernel_rfl))
 f337 := Tryz.func329.trans (congrArg some (by kernel_rfl))
 f338 := Tryz.func330.trans (congrArg some (by kernel_rfl))
 t0 := Tryz.underlying0
 a0 := Tryz.isAgg0
 z0 := Tryz.sizeOf0
 v0 := Tryz.zeroValue0
 t2 := Tryz.underlying2
 a2 := Tryz.isAgg2
 z2 := Tryz.sizeOf2
 v2 := Tryz.zeroValue2
 t3 := Tryz.underlying3
 a3 := Tryz.isAgg3
 z3 := Tryz.sizeOf3
 v3 := Tryz.zeroValue3
 t4 := Tryz.underlying4
 a4 := Tryz.isAgg4
 z4 := Tryz.sizeOf4
 v4 := Tryz.zeroValue4
 t5 := Tryz.underlying5
 a5 := Tryz.isAgg5
 z5 := Tryz.sizeOf5
 v5 := Tryz.zeroValue5
 t9 := Tryz.underlying9
 a9 := Tryz.isAgg9
 z9 := Tryz.sizeOf9
 v9 := Tryz.zeroValue9
 t20 := Tryz.underlying20
 a20 := Tryz.isAgg20
 z20 := Tryz.sizeOf20
 v20 := Tryz.zeroValue20
 t37 := Tryz.underlying22
 a37 := Tryz.isAgg22
 z37 := Tryz.sizeOf22
 v37 := Tryz.zeroValue22
 t46 := Tryz.underlying157
 a46 := Tryz.isAgg157
 z46 := Tryz.sizeOf157
 v46 := Tryz.zeroValue157
 t51 := Tryz.underlying324
 a51 := Tryz.isAgg324
 z51 := Tryz.sizeOf324
 v51 := Tryz.zeroValue324
 t53 := Tryz.underlying158
 a53 := Tryz.isAgg158
 z53 := Tryz.sizeOf158
 v53 := Tryz.zeroValue158
 t171 := Tryz.underlying296
 a171 := Tryz.isAgg296
 z171 := Tryz.sizeOf296
 v171 := Tryz.zeroValue296
 t173 := Tryz.underlying299
 a173 := Tryz.isAgg299
 z173 := Tryz.sizeOf299
 v173 := Tryz.zeroValue299
 t212 := Tryz.underlying323
 a212 := Tryz.isAgg323
 z212 := Tryz.sizeOf323
 v212 := Tryz.zeroValue323
 t213 := Tryz.underlying325
 a213 := Tryz.isAgg325
 z213 := Tryz.sizeOf325
 t232 := Tryz.underlying361
 a232 := Tryz.isAgg361
 z232 := Tryz.sizeOf361
 v232 := Tryz.zeroValue361
 t233 := Tryz.underlying362
 a233 := Tryz.isAgg362
 z233 := Tryz.sizeOf362
 v233 := Tryz.zeroValue362
 g17 := by kernel_rfl
 g18 := by kernel_rfl
 g19 := by kernel_rfl
 i0 := by kernel_rfl
 i2 := by kernel_rfl
 i3 := by kernel_rfl
 i4 := by kernel_rfl
 i5 := by kernel_rfl
 i9 := by kernel_rfl
 i20 := by kernel_rfl
 i37 := by kernel_rfl
 i46 := by kernel_rfl
 i51 := by kernel_rfl
 i53 := by kernel_rfl
 i171 := by kernel_rfl
 i173 := by kernel_rfl
 i212 := by kernel_rfl
 i232 := by kernel_rfl
 i233 := by kernel_rfl
 m17 := by kernel_rfl
 m18 := by kernel_rfl
 m19 := by kernel_rfl }
def Tryz.laysC245_ren : Go.Shelf.Ren := ⟨fun | 245 => 197 | 279 => 240 | 280 => 241 | 281 => 242 | 282 => 243 | 316 => 282 | 171 => 108 | 205 => 283 | 243 => 151 | 246 => 200 | 283 => 244 | 284 => 245 | 285 => 246 | 286 => 247 | 129 => 285 | 317 => 284 | 318 => 286 | 319 => 287 | 320 => 288 | 337 => 329 | 338 => 330 | n => n, fun | 9 => 9 | 3 => 3 | 75 => 198 | 167 => 291 | 4 => 4 | 168 => 293 | 210 => 320 | 37 => 22 | 0 => 0 | 127 => 246 | 145 => 353 | 143 => 351 | 2 => 2 | 171 => 296 | 53 => 158 | 5 => 5 | 173 => 299 | 212 => 323 | 51 => 324 | 20 => 20 | 213 => 325 | 46 => 157 | 232 => 361 | 233 => 362 | 80 => 200 | n => n, fun | 15 => 3 | 16 => 4 | 17 => 5 | 18 => 9 | 19 => 10 | n => n⟩
theorem Tryz.laysC245 : Go.Proofs.LaysC.n245 Tryz.prog Tryz.laysC245_ren := {
 mixed := by kernel_rfl
 f129 := Tryz.func285.trans (congrArg some (by kernel_rfl))
 f171 := Tryz.func108.trans (congrArg some (by kernel_rfl))
 f205 := Tryz.func283.trans (congrArg some (by kernel_rfl))
 f243 := Tryz.func151.trans (congrArg some (by kernel_rfl))
 f245 := Tryz.func197.trans (congrArg some (by kernel_rfl))
 f246 := Tryz.func200.trans (congrArg some (by kernel_rfl))
 f279 := Tryz.func240.trans (congrArg some (by kernel_rfl))
 f280 := Tryz.func241.trans (congrArg some (by kernel_rfl))
 f281 := Tryz.func242.trans (congrArg some (by kernel_rfl))
 f282 := Tryz.func243.trans (congrArg some (by kernel_rfl))
 f283 := Tryz.func244.trans (congrArg some (by kernel_rfl))
 f284 := Tryz.func245.trans (congrArg some (by kernel_rfl))
 f285 := Tryz.func246.trans (congrArg some (by kernel_rfl))
 f286 := Tryz.func247.trans (congrArg some (by kernel_rfl))
 f316 := Tryz.func282.trans (congrArg some (by kernel_rfl))
 f317 := Tryz.func284.trans (congrArg some (by kernel_rfl))
 f318 := Tryz.func286.trans (congrArg some (by kernel_rfl))
 f319 := Tryz.func287.trans (congrArg some (by kernel_rfl))
 f320 := Tryz.func288.trans (congrArg some (by kernel_rfl))
 f337 := Tryz.func329.trans (congrArg some (by kernel_rfl))
 f338 := Tryz.func330.trans (congrArg some (by kernel_rfl))
 t0 := Tryz.underlying0
 a0 := Tryz.isAgg0
 z0 := Tryz.sizeOf0
 v0 := Tryz.zeroValue0
 t2 := Tryz.underlying2
 a2 := Tryz.isAgg2
 z2 := Tryz.sizeOf2
 v2 := Tryz.zeroValue2
 t3 := Tryz.underlying3
 a3 := Tryz.isAgg3
 z3 := Tryz.sizeOf3
 v3 := Tryz.zeroValue3
 t4 := Tryz.underlying4
 a4 := Tryz.isAgg4
 z4 := Tryz.sizeOf4
 v4 := Tryz.zeroValue4
 t5 := Tryz.underlying5
 a5 := Tryz.isAgg5
 z5 := Tryz.sizeOf5
 v5 := Tryz.zeroValue5
 t9 := Tryz.underlying9
 a9 := Tryz.isAgg9
 z9 := Tryz.sizeOf9
 v9 := Tryz.zeroValue9
 t20 := Tryz.underlying20
 a20 := Tryz.isAgg20
 z20 := Tryz.sizeOf20
 v20 := Tryz.zeroValue20
 t37 := Tryz.underlying22
 a37 := Tryz.isAgg22
 z37 := Tryz.sizeOf22
 v37 := Tryz.zeroValue22
 t46 := Tryz.underlying157
 a46 := Tryz.isAgg157
 z46 := Tryz.sizeOf157
 v46 := Tryz.zeroValue157
 t51 := Tryz.underlying324
 a51 := Tryz.isAgg324
 z51 := Tryz.sizeOf324
 v51 := Tryz.zeroValue324
 t53 := Tryz.underlying158
 a53 := Tryz.isAgg158
 z53 := Tryz.sizeOf158
 v53 := Tryz.zeroValue158
 t75 := Tryz.underlying198
 a75 := Tryz.isAgg198
 z75 := Tryz.sizeOf198
 v75 := Tryz.zeroValue198
 t127 := Tryz.underlying246
 a127 := Tryz.isAgg246
 z127 := Tryz.sizeOf246
 v127 := Tryz.zeroValue246
 t143 := Tryz.underlying351
 a143 := Tryz.isAgg351
 z143 := Tryz.sizeOf351
 v143 := Tryz.zeroValue351
 t145 := Tryz.underlying353
 a145 := Tryz.isAgg353
 z145 := Tryz.sizeOf353
 v145 := Tryz.zeroValue353
 t167 := Tryz.underlying291
 a167 := Tryz.isAgg291
 z167 := Tryz.sizeOf291
 v167 := Tryz.zeroValue291
 t168 := Tryz.underlying293
 a168 := Tryz.isAgg293
 z168 := Tryz.sizeOf293
 v168 := Tryz.zeroValue293
 t171 := Tryz.underlying296
 a171 := Tryz.isAgg296
 z171 := Tryz.sizeOf296
 v171 := Tryz.zeroValue296
 t173 := Tryz.underlying299
 a173 := Tryz.isAgg299
 z173 := Tryz.sizeOf299
 v173 := Tryz.zeroValue299
 t210 := Tryz.underlying320
 a210 := Tryz.isAgg320
 z210 := Tryz.sizeOf320
 v210 := Tryz.zeroValue320
 t212 := Tryz.underlying323
 a212 := Tryz.isAgg323
 z212 := Tryz.sizeOf323
 v212 := Tryz.zeroValue323
 t213 := Tryz.underlying325
 a213 := Tryz.isAgg325
 z213 := Tryz.sizeOf325
 t232 := Tryz.underlying361
 a232 := Tryz.isAgg361
 z232 := Tryz.sizeOf361
 v232 := Tryz.zeroValue361
 t233 := Tryz.underlying362
 a233 := Tryz.isAgg362
 z233 := Tryz.sizeOf362
 v233 := Tryz.zeroValue362
 g15 := by kernel_rfl
 g16 := by kernel_rfl
 g17 := by kernel_rfl
 g18 := by kernel_rfl
 g19 := by kernel_rfl
 t80 := Tryz.underlying200
 a80 := Tryz.isAgg200
 z80 := Tryz.sizeOf200
 v80 := Tryz.zeroValue200
 i0 := by kernel_rfl
 i2 := by kernel_rfl
 i3 := by kernel_rfl
 i4 := by kernel_rfl
 i5 := by kernel_rfl
 i9 := by kernel_rfl
 i20 := by kernel_rfl
 i37 := by kernel_rfl
 i46 := by kernel_rfl
 i51 := by kernel_rfl
 i53 := by kernel_rfl
 i75 := by kernel_rfl
 i80 := by kernel_rfl
 i127 := by kernel_rfl
 i143 := by kernel_rfl
 i145 := by kernel_rfl
 i167 := by kernel_rfl
 i168 := by kernel_rfl
 i171 := by kernel_rfl
 i173 := by kernel_rfl
 i210 := by kernel_rfl
 i212 := by kernel_rfl
 i232 := by kernel_rfl
 i233 := by kernel_rfl
 m15 := by kernel_rfl
 m16 := by kernel_rfl
 m17 := by kernel_rfl
 m18 := by kernel_rfl
 m19 := by kernel_rfl
 c0 := by kernel_rfl
 c2 := by kernel_rfl
 c3 := by kernel_rfl
 c4 := by kernel_rfl
 c5 := by kernel_rfl
 c9 := by kernel_rfl
 c20 := by kernel_rfl
 c37 := by kernel_rfl
 c46 := by kernel_rfl
 c51 := by kernel_rfl
 c53 := by kernel_rfl
 c75 := by kernel_rfl
 c80 := by kernel_rfl
 c127 := by kernel_rfl
 c143 := by kernel_rfl
 c145 := by kernel_rfl
 c167 := by kernel_rfl
 c168 := by kernel_rfl
 c171 := by kernel_rfl
 c173 := by kernel_rfl
 c210 := by kernel_rfl
 c212 := by kernel_rfl
 c213 := by kernel_rfl
 c232 := by kernel_rfl
 c233 := by kernel_rfl }
open Go.RowKit in
theorem Tryz.strconv_toError_syntax (fn s : ByteArray) (base bits : Int) (ev : Value) (w : World) (hlim : s.size ≤ 281474976710656) (hv : w.cell? ⟨3, 0, none⟩ = some ev) (hev : ev = .nilIface ∨ ∃ te pe, ev = .iface te pe) :
 Calls Tryz.prog 197 #[.string fn, .string s, .int .i64 base, .int .i64 bits, .iface 291 (.int .i64 2)] w fun e w' => ∃ N, e = .returned (.iface 293 (.pointer (some ⟨N, 0, none⟩))) ∧ w.heap.size ≤ N ∧ w'.heap[N]? = some (.cells #[.string fn, .string s, ev] 320 (0, 0)) ∧ Below w.heap.size w w' := Any.strconv_toError_syntax Tryz.laysC245 fn s base bits ev w hlim hv hev
def Tryz.lays287_ren : Go.Shelf.Ren := ⟨fun | 287 => 196 | 321 => 238 | 322 => 239 | n => n, fun | 9 => 9 | 3 => 3 | 53 => 158 | 75 => 198 | 4 => 4 | 167 => 291 | 5 => 5 | 46 => 157 | 37 => 22 | 0 => 0 | 21 => 21 | 80 => 200 | n => n, fun | n => n⟩
theorem Tryz.lays287 : Go.Proofs.Lays.n287 Tryz.prog Tryz.lays287_ren := {
 mixed := by kernel_rfl
 f287 := Tryz.func196.trans (congrArg some (by kernel_rfl))
 f321 := Tryz.func238.trans (congrArg some (by kernel_rfl))
 f322 := Tryz.func239.trans (congrArg some (by kernel_rfl))
 t0 := Tryz.underlying0
 a0 := Tryz.isAgg0
 z0 := Tryz.sizeOf0
 v0 := Tryz.zeroValue0
 t3 := Tryz.underlying3
 a3 := Tryz.isAgg3
 z3 := Tryz.sizeOf3
 v3 := Tryz.zeroValue3
 t4 := Tryz.underlying4
 a4 := Tryz.isAgg4
 z4 := Tryz.sizeOf4
 v4 := Tryz.zeroValue4
 t5 := Tryz.underlying5
 a5 := Tryz.isAgg5
 z5 := Tryz.sizeOf5
 v5 := Tryz.zeroValue5
 t9 := Tryz.underlying9
 a9 := Tryz.isAgg9
 z9 := Tryz.sizeOf9
 v9 := Tryz.zeroValue9
 t21 := Tryz.underlying21
 a21 := Tryz.isAgg21
 z21 := Tryz.sizeOf21
 v21 := Tryz.zeroValue21
 t37 := Tryz.underlying22
 a37 := Tryz.isAgg22
 z37 := Tryz.sizeOf22
 v37 := Tryz.zeroValue22
 t46 := Tryz.underlying157
 a46 := Tryz.isAgg157
 z46 := Tryz.sizeOf157
 v46 := Tryz.zeroValue157
 t53 := Tryz.underlying158
 a53 := Tryz.isAgg158
 z53 := Tryz.sizeOf158
 v53 := Tryz.zeroValue158
 t75 := Tryz.underlying198
 a75 := Tryz.isAgg198
 z75 := Tryz.sizeOf198
 v75 := Tryz.zeroValue198
 t167 := Tryz.underlying291
 a167 := Tryz.isAgg291
 z167 := Tryz.sizeOf291
 v167 := Tryz.zeroValue291 }
open Go.RowKit in
theorem Tryz.strconv_toError_range (fn s : ByteArray) (base bits : Int) (ev : Value) (w : World) (hlim : s.size ≤ 281474976710656) (hv : w.cell? ⟨4, 0, none⟩ = some ev) (hev : ev = .nilIface ∨ ∃ te pe, ev = .iface te pe) :
 Calls Tryz.prog 197 #[.string fn, .string s, .int .i64 base, .int .i64 bits, .iface 291 (.int .i64 1)] w fun e w' => ∃ N, e = .returned (.iface 293 (.pointer (some ⟨N, 0, none⟩))) ∧ w.heap.size ≤ N ∧ w'.heap[N]? = some (.cells #[.string fn, .string s, ev] 320 (0, 0)) ∧ Below w.heap.size w w' := Any.strconv_toError_range Tryz.laysC245 fn s base bits ev w hlim hv hev
def Tryz.lays143_ren : Go.Shelf.Ren := ⟨fun | 143 => 237 | 219 => 281 | 217 => 325 | 225 => 326 | 224 => 327 | 267 => 328 | 266 => 345 | 314 => 346 | n => n, fun | 9 => 9 | 3 => 3 | 4 => 4 | 5 => 5 | 46 => 157 | 146 => 335 | 51 => 324 | n => n, fun | 1 => 8 | n => n⟩
theorem Tryz.lays143 : Go.Proofs.Lays.n143 Tryz.prog Tryz.lays143_ren := {
 mixed := by kernel_rfl
 f143 := Tryz.func237.trans (congrArg some (by kernel_rfl))
 f217 := Tryz.func325.trans (congrArg some (by kernel_rfl))
 f219 := Tryz.func281.trans (congrArg some (by kernel_rfl))
 f224 := Tryz.func327.trans (congrArg some (by kernel_rfl))
 f225 := Tryz.func326.trans (congrArg some (by kernel_rfl))
 f266 := Tryz.func345.trans (congrArg some (by kernel_rfl))
 f267 := Tryz.func328.trans (congrArg some (by kernel_rfl))
 f314 := Tryz.func346.trans (congrArg some (by kernel_rfl))
 t3 := Tryz.underlying3
 a3 := Tryz.isAgg3
 z3 := Tryz.sizeOf3
 v3 := Tryz.zeroValue3
 t4 := Tryz.underlying4
 a4 := Tryz.isAgg4
 z4 := Tryz.sizeOf4
 v4 := Tryz.zeroValue4
 t5 := Tryz.underlying5
 a5 := Tryz.isAgg5
 z5 := Tryz.sizeOf5
 v5 := Tryz.zeroValue5
 t9 := Tryz.underlying9
 a9 := Tryz.isAgg9
 z9 := Tryz.sizeOf9
 v9 := Tryz.zeroValue9
 t46 := Tryz.underlying157
 a46 := Tryz.isAgg157
 z46 := Tryz.sizeOf157
 v46 := Tryz.zeroValue157
 t51 := Tryz.underlying324
 a51 := Tryz.isAgg324
 z51 := Tryz.sizeOf324
 v51 := Tryz.zeroValue324
 t146 := Tryz.underlying335
 a146 := Tryz.isAgg335
 z146 := Tryz.sizeOf335
 v146 := Tryz.zeroValue335
 g1 := by kernel_rfl }
open Go.RowKit Go.Lib in
theorem Tryz.strings_Index_one (s : ByteArray) (c : UInt8) (w : World) :
 Calls Tryz.prog 237 #[.string s, .string ⟨#[c]⟩] w fun e w' => e = .returned (.int .i64 (Lib.indexByte s.data.toList c)) ∧ w' = w := Any.strings_Index_one Tryz.lays143 s c w
end Go.Proofs
namespace Go.Proofs
open Go.Shelf Go.RowKit
variable {P : Program} {ρ : Ren}
set_option maxHeartbeats 2000000 in
set_option maxRecDepth 100000 in
theorem Any.internal_strconv_numDigits_cells (L : LaysM.n284 P ρ) (u : Nat) (h1 : 1 ≤ u) (h2 : u < 18446744073709551616) (w : World)
 (htab : ∀ j, j < 20 → w.cell? ⟨(ρ.g 17), j, none⟩ = some (.int .u64 ((10 ^ j : Nat) : Int))) :
 Calls P (ρ.f 284) #[.int .u64 u] w fun e w' => e = .returned (.int .i64 (Lib.nDigits u)) ∧ w' = w := by
 have mixed := L.mixed
 have t53 := L.t53; have a53 := L.a53; have z53 := L.z53; have v53 := L.v53
 have t3 := L.t3; have a3 := L.a3; have z3 := L.z3; have v3 := L.v3
 have t212 := L.t212; have a212 := L.a212; have z212 := L.z212; have v212 := L.v212
 have t0 := L.t0; have a0 := L.a0; have z0 := L.z0; have v0 := L.v0
 have t4 := L.t4; have a4 := L.a4; have z4 := L.z4; have v4 := L.v4
 have e129 : ∀ args w, (callFunc (ρ.f 129) args).run P w = .ok (.enter (ρ.f 129) args) w := enters_of L.f129 (by kernel_rfl) rfl
 have e317 : ∀ args w, (callFunc (ρ.f 317) args).run P w = .ok (.enter (ρ.f 317) args) w := enters_of L.f317 (by kernel_rfl) rfl
 have e318 : ∀ args w, (callFunc (ρ.f 318) args).run P w = .ok (.enter (ρ.f 318) args) w := enters_of L.f318 (by kernel_rfl) rfl
 obtain ⟨hnd, h19⟩ := Lib.numDigits_eq u h1 h2
 have hL : Lib.bitLen u ≤ 64 := Lib.bitLen_le u 64 (Nat.le_refl _) h2
 have hcell : w.cell? ⟨(ρ.g 17), Lib.l10 (Lib.bitLen u), none⟩ = some (.int .u64 ((10 ^ Lib.l10 (Lib.bitLen u) : Nat) : Int)) := by
  rw [htab _ (by omega)]
 have hto : ((u : Int)).toNat = u := by omega
 generalize hq : Lib.l10 (Lib.bitLen u) = q at hnd h19 hcell
 generalize hT : 10 ^ q = T at hnd hcell
 have h20 : q < 20 := by omega
 have Hnd := Lib.hid hnd
 clear hnd htab
 go_enter L.f284, Body.n284_ntmps ρ
 go_wp2_with (first
  | (go_at_fn (ρ.f 129); refine (Any.bits_Len64 { L with } _ _ (by omega) (by omega)).mono ?_; rintro e w' ⟨rfl, rfl⟩)
  | (go_at_fn (ρ.f 317); refine (Any.internal_strconv_log10Pow2 { L with } _ (by first | exact hL | (rw [hto]; exact hL)) _).mono ?_; rintro e w' ⟨rfl, rfl⟩)
  | (go_at_fn (ρ.f 318); refine (Any.internal_strconv_bool2_int { L with } _ _).mono ?_; rintro e w' ⟨rfl, rfl⟩))
 all_goals go_ret
 all_goals (
  refine ⟨?_, rfl⟩
  have hnd := Hnd.out
  congr 2
  split at hnd <;> simp_all <;> omega)
end Go.Proofs
namespace Go.Proofs.YtpajpkbipagjpaaGreatDoor.Oc
open Go Go.Shelf Go.RowKit Go.Sort Go.Lib Go.Proofs
theorem LL.t0 : Tryz.prog.underlying 0 = some (TypeDesc.tuple #[]) := by kernel_rfl
theorem LL.a0 : ∀ w, (isAgg 0).run Tryz.prog w = .ok false w := fun w => by kernel_rfl
theorem LL.z0 : ∀ w, (Go.sizeOf 0).run Tryz.prog w = .ok 1 w := fun w => by kernel_rfl
theorem LL.v0 : ∀ w, (zeroValue 0).run Tryz.prog w = .ok (Value.tuple #[]) w := fun w => by kernel_rfl
theorem LL.t3 : Tryz.prog.underlying 3 = some (TypeDesc.int IntKind.i64) := by kernel_rfl
theorem LL.a3 : ∀ w, (isAgg 3).run Tryz.prog w = .ok false w := fun w => by kernel_rfl
theorem LL.z3 : ∀ w, (Go.sizeOf 3).run Tryz.prog w = .ok 1 w := fun w => by kernel_rfl
theorem LL.v3 : ∀ w, (zeroValue 3).run Tryz.prog w = .ok (Value.int IntKind.i64 0) w := fun w => by kernel_rfl
theorem LL.t4 : Tryz.prog.underlying 4 = some (TypeDesc.bool) := by kernel_rfl
theorem LL.a4 : ∀ w, (isAgg 4).run Tryz.prog w = .ok false w := fun w => by kernel_rfl
theorem LL.z4 : ∀ w, (Go.sizeOf 4).run Tryz.prog w = .ok 1 w := fun w => by kernel_rfl
theorem LL.v4 : ∀ w, (zeroValue 4).run Tryz.prog w = .ok (Value.bool false) w := fun w => by kernel_rfl
theorem LL.t9 : Tryz.prog.underlying 9 = some (TypeDesc.string) := by kernel_rfl
theorem LL.a9 : ∀ w, (isAgg 9).run Tryz.prog w = .ok false w := fun w => by kernel_rfl
theorem LL.z9 : ∀ w, (Go.sizeOf 9).run Tryz.prog w = .ok 1 w := fun w => by kernel_rfl
theorem LL.v9 : ∀ w, (zeroValue 9).run Tryz.prog w = .ok (Value.string ⟨#[]⟩) w := fun w => by kernel_rfl
theorem LL.t158 : Tryz.prog.underlying 158 = some (TypeDesc.int IntKind.u64) := by kernel_rfl
theorem LL.a158 : ∀ w, (isAgg 158).run Tryz.prog w = .ok false w := fun w => by kernel_rfl
theorem LL.z158 : ∀ w, (Go.sizeOf 158).run Tryz.prog w = .ok 1 w := fun w => by kernel_rfl
theorem LL.v158 : ∀ w, (zeroValue 158).run Tryz.prog w = .ok (Value.int IntKind.u64 0) w := fun w => by kernel_rfl
theorem LL.t22 : Tryz.prog.underlying 22 = some (TypeDesc.slice 5) := by kernel_rfl
theorem LL.a22 : ∀ w, (isAgg 22).run Tryz.prog w = .ok false w := fun w => by kernel_rfl
theorem LL.z22 : ∀ w, (Go.sizeOf 22).run Tryz.prog w = .ok 1 w := fun w => by kernel_rfl
theorem LL.v22 : ∀ w, (zeroValue 22).run Tryz.prog w = .ok (Value.slice none 0 0) w := fun w => by kernel_rfl
theorem LL.t5 : Tryz.prog.underlying 5 = some (TypeDesc.int IntKind.u8) := by kernel_rfl
theorem LL.a5 : ∀ w, (isAgg 5).run Tryz.prog w = .ok false w := fun w => by kernel_rfl
theorem LL.z5 : ∀ w, (Go.sizeOf 5).run Tryz.prog w = .ok 1 w := fun w => by kernel_rfl
theorem LL.v5 : ∀ w, (zeroValue 5).run Tryz.prog w = .ok (Value.int IntKind.u8 0) w := fun w => by kernel_rfl
theorem LL.t296 : Tryz.prog.underlying 296 = some (TypeDesc.array 24 5) := by kernel_rfl
theorem LL.a296 : ∀ w, (isAgg 296).run Tryz.prog w = .ok true w := fun w => by kernel_rfl
theorem LL.z296 : ∀ w, (Go.sizeOf 296).run Tryz.prog w = .ok 24 w := fun w => by kernel_rfl
theorem LL.v296 : ∀ w, (zeroValue 296).run Tryz.prog w = .ok (Value.agg Lib.zeros24) w := fun w => by kernel_rfl
theorem LL.mixed : Tryz.prog.follows .mixedOrders = true := by kernel_rfl
theorem numDigits_here (u : Nat) (h1 : 1 ≤ u) (h2 : u < 18446744073709551616) (w : World) (htab : ∀ j, j < 20 → w.cell? ⟨5, j, none⟩ = some (.int .u64 ((10 ^ j : Nat) : Int))) :
 Calls Tryz.prog 245 #[.int .u64 u] w fun e w' => e = .returned (.int .i64 (Lib.nDigits u)) ∧ w' = w := Any.internal_strconv_numDigits_cells Tryz.laysM284 u h1 h2 w htab
theorem holds_zero0 (w : World) (T : TypeId) (nd : Nat) (hs : nd ≤ 24) : Holds (fun (b : UInt8) => Value.int .u8 (b.toNat : Int)) (w.alloc (.cells Lib.zeros24 T)) w.heap.size 0 (Array.replicate nd (0 : UInt8)) := fun j hj => by
 have hj' : j < nd := by simpa using hj
 refine ⟨?_, World.frozen?_alloc_new _ _ _ _⟩
 rw [World.cell?_alloc_new, Lib.zeros24_at _ (by omega), getElem!_pos _ j hj]
 simp
theorem fin_pos0 (w : World) (o : Obj) (dk : Array UInt8) (k : Nat) : ∃ os, (putRow (fun (b : UInt8) => Value.int .u8 (b.toNat : Int)) (w.alloc o) w.heap.size 0 dk).drewN k = grow (w.drewN k) os := by
 rw [alloc_eq_grow]
 obtain ⟨os', _, e⟩ := putRow_grow_new (fun (b : UInt8) => Value.int .u8 (b.toNat : Int)) w #[o] w.heap.size 0 dk (Nat.le_refl _)
 exact ⟨os', by rw [e]; rfl⟩
set_option maxHeartbeats 6400000 in
set_option maxRecDepth 100000 in
theorem fmtUint (u : Nat) (hu64 : u < 18446744073709551616) (w : World) (htab : ∀ j, j < 20 → w.cell? ⟨5, j, none⟩ = some (.int .u64 ((10 ^ j : Nat) : Int))) (hg : 5 < w.heap.size) :
 Calls Tryz.prog 206 #[.int .u64 u, .int .i64 10] w fun e w' => e = .returned (.string ⟨(Lib.decDigits u).toArray⟩) ∧ ∃ k os, w' = grow (w.drewN k) os := by
 have mixed := LL.mixed
 have t0 := LL.t0; have a0 := LL.a0; have z0 := LL.z0; have v0 := LL.v0
 have t3 := LL.t3; have a3 := LL.a3; have z3 := LL.z3; have v3 := LL.v3
 have t4 := LL.t4; have a4 := LL.a4; have z4 := LL.z4; have v4 := LL.v4
 have t9 := LL.t9; have a9 := LL.a9; have z9 := LL.z9; have v9 := LL.v9
 have t158 := LL.t158; have a158 := LL.a158; have z158 := LL.z158; have v158 := LL.v158
 have t22 := LL.t22; have a22 := LL.a22; have z22 := LL.z22; have v22 := LL.v22
 have t5 := LL.t5; have a5 := LL.a5; have z5 := LL.z5; have v5 := LL.v5
 have t296 := LL.t296; have a296 := LL.a296; have z296 := LL.z296; have v296 := LL.v296
 have e244 : ∀ args w, (callFunc 244 args).run Tryz.prog w = .ok (.enter 244 args) w := enters_of Tryz.func244 (by kernel_rfl) rfl
 have e245 : ∀ args w, (callFunc 245 args).run Tryz.prog w = .ok (.enter 245 args) w := enters_of Tryz.func245 (by kernel_rfl) rfl
 have e246 : ∀ args w, (callFunc 246 args).run Tryz.prog w = .ok (.enter 246 args) w := enters_of Tryz.func246 (by kernel_rfl) rfl
 by_cases hs : u < 100
 ·go_enter Tryz.func206, Tryz.ntmps206
  go_wp2_with (go_at_fn 244; refine (Tryz.internal_strconv_small u hs _).mono ?_; rintro e w' ⟨rfl, rfl⟩)
  go_ret
  exact ⟨rfl, 0, #[], by simp [World.drewN_zero]⟩
 ·have hu1 : 1 ≤ u := by omega
  have hnd20 : Lib.nDigits u ≤ 20 := by have := Lib.numDigits_eq u hu1 hu64; split at this <;> omega
  have hb3 : Lib.nDigits u ≤ 24 := by omega
  have hal : Tryz.prog.arrayLen 296 = 24 := by simp [Program.arrayLen, LL.t296]
  have hsl1 : ∀ W, (Instr.sliceAt 296 (.pointer (some ⟨w.heap.size, 0, none⟩)) none (some (.int .i64 (Lib.nDigits u : Int))) none).run Tryz.prog W = .ok (.slice (some ⟨w.heap.size, 0, none⟩) (Lib.nDigits u) 24) W := fun W => by
   rw [run_sliceAt_array_h W 296 ⟨w.heap.size, 0, none⟩ (by simp [Program.arrayLen, Program.elem, LL.t296]) .i64 (Lib.nDigits u : Int) (by omega) (by rw [hal]; omega)]
   go_simp
  have hH0 := holds_zero0 w 296 (Lib.nDigits u) hb3
  have hfmt := Tryz.internal_strconv_formatBase10 w.heap.size 0 24 u (Array.replicate (Lib.nDigits u) 0) (w.alloc (.cells Lib.zeros24 296)) hH0 (by rw [Array.size_replicate]; exact Lib.lt_pow_nDigits u) hu64 (by rw [Array.size_replicate]; omega)
  rw [Array.size_replicate] at hfmt
  have HH0 := Lib.hid hH0
  clear hH0 hal
  have hnd := numDigits_here u hu1 hu64 (w.alloc (.cells Lib.zeros24 296)) (fun j hj => by rw [World.cell?_alloc_old _ _ _ (Nat.ne_of_lt hg)]; exact htab j hj)
  go_enter Tryz.func206, Tryz.ntmps206
  go_wp2_with (first
   | (go_at_fn 245; refine hnd.mono ?_; rintro e w' ⟨rfl, rfl⟩))
  go_at_fn 246
  refine hfmt.mono ?_
  rintro e w' ⟨rfl, k, v', dk, rfl, hF⟩
  have hcv : (convert 22 9 (.slice (some ⟨w.heap.size, 0, none⟩) (Lib.nDigits u) 24)).run Tryz.prog ((putRow (fun (b : UInt8) => Value.int .u8 (b.toNat : Int)) (w.alloc (.cells Lib.zeros24 296)) w.heap.size 0 dk).drewN k) = .ok (.string ⟨(Lib.decDigits u).toArray⟩) ((putRow (fun (b : UInt8) => Value.int .u8 (b.toNat : Int)) (w.alloc (.cells Lib.zeros24 296)) w.heap.size 0 dk).drewN k) := by
   have h := run_convert_bytes_back (P := Tryz.prog) ((putRow (fun (b : UInt8) => Value.int .u8 (b.toNat : Int)) (w.alloc (.cells Lib.zeros24 296)) w.heap.size 0 dk).drewN k) 22 9 5 ⟨w.heap.size, 0, none⟩ 24 (Lib.decDigits u) LL.t22 LL.t5 LL.t9 (fun j hj => by
    rw [Lib.row_is_numeral hF j hj, Lib.add_plain, World.cell?_drewN]
    exact cell?_putRow (fun (b : UInt8) => Value.int .u8 (b.toNat : Int)) _ w.heap.size 0 _ dk HH0.out (by rw [hF.size, Array.size_replicate]) j (by rw [hF.size]; rw [Lib.decDigits_length] at hj; exact hj))
   rw [Lib.decDigits_length] at h
   exact h
  go_wp2
  go_ret
  obtain ⟨os, eo⟩ := fin_pos0 w (.cells Lib.zeros24 296) dk k
  exact ⟨rfl, k, os, eo⟩
end Go.Proofs.YtpajpkbipagjpaaGreatDoor.Oc
namespace Go.Proofs
open Go.Shelf Go.RowKit
variable {P : Program} {ρ : Ren}
set_option maxHeartbeats 32000000 in
set_option maxRecDepth 100000 in
theorem Any.internal_strconv_ParseUint_10_b63 (L : Lays.n287 P ρ) (t : ByteArray) (hne : t.size ≠ 0) (hmax : t.size ≤ 9223372036854775806) (w : World) :
 Calls P (ρ.f 287) #[.string t, .int .i64 10, .int .i64 63] w fun e w' => e = .returned (Lib.uintTupleM (ρ.t 167) 9223372036854775807 (Lib.parseUintM 9223372036854775807 0 t.data.toList)) ∧ w' = Lib.bytesWorld w (ρ.t 5) t := by
 have mixed := L.mixed
 have t9 := L.t9; have a9 := L.a9; have z9 := L.z9; have v9 := L.v9
 have t3 := L.t3; have a3 := L.a3; have z3 := L.z3; have v3 := L.v3
 have t53 := L.t53; have a53 := L.a53; have z53 := L.z53; have v53 := L.v53
 have t75 := L.t75; have a75 := L.a75; have z75 := L.z75; have v75 := L.v75
 have t4 := L.t4; have a4 := L.a4; have z4 := L.z4; have v4 := L.v4
 have t167 := L.t167; have a167 := L.a167; have z167 := L.z167; have v167 := L.v167
 have t5 := L.t5; have a5 := L.a5; have z5 := L.z5; have v5 := L.v5
 have t46 := L.t46; have a46 := L.a46; have z46 := L.z46; have v46 := L.v46
 have t37 := L.t37; have a37 := L.a37; have z37 := L.z37; have v37 := L.v37
 have t0 := L.t0; have a0 := L.a0; have z0 := L.z0; have v0 := L.v0
 have e321 : ∀ args w, (callFunc (ρ.f 321) args).run P w = .ok (.enter (ρ.f 321) args) w := enters_of L.f321 (by kernel_rfl) rfl
 have hemp : t.toList.isEmpty = false := by
  rw [← decide_eq_emptyBytes]
  exact decide_eq_false (fun h => hne (by rw [h]; rfl))
 have hcv := Lib.run_convert_string_bytes (P := P) w (ρ.t 9) (ρ.t 37) (ρ.t 5) t (u := .string) L.t9 L.t37 L.t5
 have hB : ∀ j, j < t.size → (Lib.bytesWorld w (ρ.t 5) t).cell? ⟨w.heap.size, j, none⟩ = some (.int .u8 (t.data.toList.getD j 0).toNat) := fun j hj => Lib.bytesWorld_cell w (ρ.t 5) t j hj
 obtain ⟨W1, hW1⟩ : ∃ W1, W1 = Lib.bytesWorld w (ρ.t 5) t := ⟨_, rfl⟩
 rw [← hW1] at hcv hB ⊢
 clear hW1
 obtain ⟨bs, hL⟩ : ∃ bs, bs = t.data.toList := ⟨_, rfl⟩
 have hLn : bs.length = t.size := by rw [hL, Lib.size_eq]
 rw [← hL] at hB ⊢
 clear hL
 have hmv : IntKind.u64.wrap (IntKind.u64.wrap 9223372036854775808 - 1) = 9223372036854775807 := by
  rw [IntKind.wrap_u64, IntKind.wrap_u64]
  decide
 go_enter L.f287, Body.n287_ntmps ρ
 go_wp2
 go_loop [12, 13, 101] (fun vu vn vi => ∃ (k acc : Nat) (a : Int), vu = .bool false ∧ vn = .int .u64 a ∧ vi = .int .i64 k ∧ k ≤ t.size ∧ Hid (a = (acc : Int) ∧ acc ≤ 9223372036854775807 ∧ Lib.parseUintM 9223372036854775807 0 bs = Lib.parseUintM 9223372036854775807 acc (bs.drop k)))
  (fun _ _ vi => t.size - (intOf vi).toNat)
 case atStart => exact ⟨0, 0, 0, rfl, rfl, rfl, by omega, rfl, by omega, rfl⟩
 case round =>
  obtain ⟨k, acc, a, rfl, rfl, rfl, hk, hh⟩ := hrel
  obtain ⟨ha, hacc, hdec⟩ := hh.out
  clear hh
  have a0 : 0 ≤ a := by omega
  have a1 : a ≤ 9223372036854775807 := by omega
  by_cases hkn : k < t.size
  ·have hc := hB k hkn
   have hdrop : bs.drop k = bs[k]'(by omega) :: bs.drop (k + 1) := List.drop_eq_getElem_cons (by omega)
   have hget : bs.getD k 0 = bs[k]'(by omega) := by simp [List.getD, List.getElem?_eq_getElem (show k < bs.length by omega)]
   rw [hdrop] at hdec
   rw [hget] at hc
   generalize bs[k]'(by omega) = c at hc hdec
   have hc256 : c.toNat < 256 := c.toNat_lt
   clear hB hdrop hget
   by_cases hdig : 48 ≤ c.toNat ∧ c.toNat ≤ 57
   ·obtain ⟨hd0, hd1⟩ := hdig
    by_cases hcut : 1844674407370955162 ≤ acc
    ·have hF : Lib.parseUintM 9223372036854775807 acc (c :: bs.drop (k + 1)) = .range := by simp [Lib.parseUintM, hd0, hd1, hcut]
     rw [hF] at hdec
     have icut : 1844674407370955162 ≤ a := by omega
     clear hcut hacc hF ha
     go_wp2
     go_ret2
     exact ⟨rfl, rfl⟩
    by_cases hov : 9223372036854775807 < acc * 10 + (c.toNat - 48)
    ·have hF : Lib.parseUintM 9223372036854775807 acc (c :: bs.drop (k + 1)) = .range := by simp [Lib.parseUintM, hd0, hd1, hcut, hov]
     rw [hF] at hdec
     have icut : a < 1844674407370955162 := by omega
     by_cases hw : 18446744073709551616 ≤ acc * 10 + (c.toNat - 48)
     ·have iov : 18446744073709551616 ≤ a * 10 + ((c.toNat : Int) - 48) := by omega
      have hwr : IntKind.u64.wrap (a * 10 + ((c.toNat : Int) - 48)) = a * 10 + ((c.toNat : Int) - 48) - 18446744073709551616 := by
       rw [IntKind.wrap_u64]
       omega
      clear hcut hacc hF hov hw ha
      go_wp2
      go_ret2
      exact ⟨rfl, rfl⟩
     ·have iov : a * 10 + ((c.toNat : Int) - 48) < 18446744073709551616 := by omega
      have iov2 : 9223372036854775807 < a * 10 + ((c.toNat : Int) - 48) := by omega
      clear hcut hacc hF hov hw ha
      go_wp2
      go_ret2
      exact ⟨rfl, rfl⟩
    ·have hF : Lib.parseUintM 9223372036854775807 acc (c :: bs.drop (k + 1)) = Lib.parseUintM 9223372036854775807 (acc * 10 + (c.toNat - 48)) (bs.drop (k + 1)) := by simp [Lib.parseUintM, hd0, hd1, hcut, hov]
     have HN : Hid (a * 10 + ((c.toNat : Int) - 48) = ((acc * 10 + (c.toNat - 48) : Nat) : Int) ∧ acc * 10 + (c.toNat - 48) ≤ 9223372036854775807 ∧ Lib.parseUintM 9223372036854775807 0 bs = Lib.parseUintM 9223372036854775807 (acc * 10 + (c.toNat - 48)) (bs.drop (k + 1))) := Lib.hid ⟨by omega, by omega, hdec.trans hF⟩
     have icut : a < 1844674407370955162 := by omega
     have iov : a * 10 + ((c.toNat : Int) - 48) ≤ 9223372036854775807 := by omega
     clear hcut hacc hF hov hdec ha
     go_wp2
     refine ⟨⟨k + 1, acc * 10 + (c.toNat - 48), a * 10 + ((c.toNat : Int) - 48), rfl, (by first | rfl | (congr 1; omega)), (by first | rfl | (congr 1; omega)), by omega, HN⟩, by simp [intOf]; omega⟩
   ·-- NO DIGIT: whatever way the text goes: (0, ErrSyntax)
    have hF : Lib.parseUintM 9223372036854775807 acc (c :: bs.drop (k + 1)) = Lib.NumEnd.syntax := by simp [Lib.parseUintM, hdig]
    rw [hF] at hdec
    clear hacc hF ha
    have hv0 := bits_lo_u8 .or (c.toNat : Int) 32
    have hv1 := bits_hi_u8 .or (c.toNat : Int) 32
    have hu0 := bits_lo_u8 .or 95 32
    have hu1 := bits_hi_u8 .or 95 32
    go_wp2_with (go_at_fn (ρ.f 321); refine (Any.internal_strconv_lower { L with } _ _).mono ?_; rintro e w' ⟨rfl, rfl⟩)
    all_goals go_ret2
    all_goals first | exact ⟨rfl, rfl⟩ | exact ⟨by rw [hdec]; rfl, rfl⟩
  ·-- THE BYTES ARE AT AN END
   have hkk : k = t.size := by omega
   subst hkk
   have hF : Lib.parseUintM 9223372036854775807 acc (bs.drop t.size) = .ok acc := by rw [List.drop_eq_nil_of_le (by omega)]; rfl
   rw [hF] at hdec
   subst ha
   clear hacc hF a0 a1
   go_wp2
   go_ret2
   exact ⟨rfl, rfl⟩
set_option maxRecDepth 100000 in
theorem Any.internal_strconv_ParseUint_10_empty63 (L : Lays.n287 P ρ) (w : World) :
 Calls P (ρ.f 287) #[.string ⟨#[]⟩, .int .i64 10, .int .i64 63] w fun e w' => e = .returned (Lib.uintTupleM (ρ.t 167) 0 Lib.NumEnd.syntax) ∧ w' = w := by
 have mixed := L.mixed
 have t9 := L.t9; have a9 := L.a9; have z9 := L.z9; have v9 := L.v9
 have t3 := L.t3; have a3 := L.a3; have z3 := L.z3; have v3 := L.v3
 have t53 := L.t53; have a53 := L.a53; have z53 := L.z53; have v53 := L.v53
 have t75 := L.t75; have a75 := L.a75; have z75 := L.z75; have v75 := L.v75
 have t4 := L.t4; have a4 := L.a4; have z4 := L.z4; have v4 := L.v4
 have t167 := L.t167; have a167 := L.a167; have z167 := L.z167; have v167 := L.v167
 have t5 := L.t5; have a5 := L.a5; have z5 := L.z5; have v5 := L.v5
 have t46 := L.t46; have a46 := L.a46; have z46 := L.z46; have v46 := L.v46
 have t37 := L.t37; have a37 := L.a37; have z37 := L.z37; have v37 := L.v37
 have t0 := L.t0; have a0 := L.a0; have z0 := L.z0; have v0 := L.v0
 go_enter L.f287, Body.n287_ntmps ρ
 go_wp2
 go_ret2
 exact ⟨rfl, rfl⟩
end Go.Proofs
namespace Go.Proofs
open Go.Shelf Go.RowKit Go.Sort Go.Lib
variable {P : Program} {ρ : Ren}
set_option maxHeartbeats 6400000 in
set_option maxRecDepth 100000 in
theorem Any.internal_strconv_FormatInt_10_cells (L : LaysM.n246 P ρ) (n : Int) (h0 : -9223372036854775808 ≤ n) (h1 : n ≤ 9223372036854775807) (w : World)
 (htab : ∀ j, j < 20 → w.cell? ⟨(ρ.g 17), j, none⟩ = some (.int .u64 ((10 ^ j : Nat) : Int))) (hg : (ρ.g 17) < w.heap.size) :
 Calls P (ρ.f 246) #[.int .i64 n, .int .i64 10] w fun e w' => e = .returned (.string ⟨(Lib.itoa n).toArray⟩) ∧ ∃ k os, w' = grow (w.drewN k) os := by
 have mixed := L.mixed
 have t2 := L.t2; have a2 := L.a2; have z2 := L.z2; have v2 := L.v2
 have t3 := L.t3; have a3 := L.a3; have z3 := L.z3; have v3 := L.v3
 have t9 := L.t9; have a9 := L.a9; have z9 := L.z9; have v9 := L.v9
 have t4 := L.t4; have a4 := L.a4; have z4 := L.z4; have v4 := L.v4
 have t171 := L.t171; have a171 := L.a171; have z171 := L.z171; have v171 := L.v171
 have t0 := L.t0; have a0 := L.a0; have z0 := L.z0; have v0 := L.v0
 have t53 := L.t53; have a53 := L.a53; have z53 := L.z53; have v53 := L.v53
 have t37 := L.t37; have a37 := L.a37; have z37 := L.z37; have v37 := L.v37
 have t5 := L.t5; have a5 := L.a5; have z5 := L.z5; have v5 := L.v5
 have t173 := L.t173; have a173 := L.a173; have z173 := L.z173; have v173 := L.v173
 have e283 : ∀ args w, (callFunc (ρ.f 283) args).run P w = .ok (.enter (ρ.f 283) args) w := enters_of L.f283 (by kernel_rfl) rfl
 have e284 : ∀ args w, (callFunc (ρ.f 284) args).run P w = .ok (.enter (ρ.f 284) args) w := enters_of L.f284 (by kernel_rfl) rfl
 have e285 : ∀ args w, (callFunc (ρ.f 285) args).run P w = .ok (.enter (ρ.f 285) args) w := enters_of L.f285 (by kernel_rfl) rfl
 by_cases hs : 0 ≤ n ∧ n < 100
 ·-- 0 .. 99: two constants
  obtain ⟨i, rfl⟩ : ∃ i : Nat, n = i := ⟨n.toNat, by omega⟩
  have hi : i < 100 := by omega
  go_enter L.f246, Body.n246_ntmps ρ
  go_wp2_with (go_at_fn (ρ.f 283); refine (Any.internal_strconv_small { L with } i hi _).mono ?_; rintro e w' ⟨rfl, rfl⟩)
  go_ret
  refine ⟨?_, 0, #[], by simp [World.drewN_zero]⟩
  rw [Lib.itoa_nonneg]
  rfl
 ·by_cases hneg : n < 0
  ·obtain ⟨u, rfl⟩ : ∃ u : Nat, n = -(u : Int) := ⟨n.natAbs, by omega⟩
   have hu1 : 1 ≤ u := by omega
   have hu64 : u < 18446744073709551616 := by omega
   have hnd20 : Lib.nDigits u ≤ 20 := by have := Lib.numDigits_eq u hu1 hu64; split at this <;> omega
   have hwr : IntKind.u64.wrap (-IntKind.u64.wrap (-(u : Int))) = (u : Int) := by rw [IntKind.wrap_u64, IntKind.wrap_u64]; omega
   have hb3 : Lib.nDigits u ≤ 23 := by omega
   have hal : P.arrayLen (ρ.t 171) = 24 := by simp [Program.arrayLen, L.t171]
   have hsl1 : ∀ W, (Instr.sliceAt (ρ.t 171) (.pointer (some ⟨w.heap.size, 0, none⟩)) (some (.int .i64 1)) (some (.int .i64 (1 + (Lib.nDigits u : Int)))) none).run P W = .ok (.slice (some ⟨w.heap.size, 1, none⟩) (Lib.nDigits u) 23) W := fun W => by
    rw [run_sliceAt_array_lh W (ρ.t 171) ⟨w.heap.size, 0, none⟩ (by simp [Program.arrayLen, Program.elem, L.t171]) .i64 .i64 1 (1 + (Lib.nDigits u : Int)) (by omega) (by omega) (by rw [hal]; omega)]
    go_simp
    omega
   have hH0 := Lib.holds_zero w (ρ.t 171) (Lib.nDigits u) (by omega)
   have hfmt := Any.internal_strconv_formatBase10 { L with } w.heap.size 1 23 u (Array.replicate (Lib.nDigits u) 0) (w.alloc (.cells Lib.zeros24 (ρ.t 171))) hH0 (by rw [Array.size_replicate]; exact Lib.lt_pow_nDigits u) hu64 (by rw [Array.size_replicate]; omega)
   rw [Array.size_replicate] at hfmt
   have HH0 := Lib.hid hH0
   clear hH0 hal
   go_enter L.f246, Body.n246_ntmps ρ
   go_wp2_with (first
    | (go_at_fn (ρ.f 284); refine (Any.internal_strconv_numDigits_cells { L with } u hu1 hu64 _ (fun j hj => by rw [World.cell?_alloc_old _ _ _ (Nat.ne_of_lt hg)]; exact htab j hj)).mono ?_; rintro e w' ⟨rfl, rfl⟩))
   go_at_fn (ρ.f 285)
   refine hfmt.mono ?_
   rintro e w' ⟨rfl, k, v', dk, rfl, hF⟩
   have hc0 : ((putRow (fun (b : UInt8) => Value.int .u8 (b.toNat : Int)) (w.alloc (.cells Lib.zeros24 (ρ.t 171))) w.heap.size 1 dk).drewN k).cell? ⟨w.heap.size, 0, none⟩ = some (.int .u8 0) := by
    rw [World.cell?_drewN, cell?_putRow_other _ _ _ _ _ _ (Or.inr (Or.inl (Nat.zero_lt_one))), World.cell?_alloc_new]
    exact Lib.zeros24_at 0 (by omega)
   have hf0 : ((putRow (fun (b : UInt8) => Value.int .u8 (b.toNat : Int)) (w.alloc (.cells Lib.zeros24 (ρ.t 171))) w.heap.size 1 dk).drewN k).frozen? ⟨w.heap.size, 0, none⟩ = false := by
    rw [World.frozen?_drewN, frozen?_putRow]
    exact World.frozen?_alloc_new _ _ _ _
   have hal : P.arrayLen (ρ.t 171) = 24 := by simp [Program.arrayLen, L.t171]
   have hsl2 : ∀ W, (Instr.sliceAt (ρ.t 171) (.pointer (some ⟨w.heap.size, 0, none⟩)) none (some (.int .i64 (1 + (Lib.nDigits u : Int)))) none).run P W = .ok (.slice (some ⟨w.heap.size, 0, none⟩) (1 + Lib.nDigits u) 24) W := fun W => by
    rw [run_sliceAt_array_h W (ρ.t 171) ⟨w.heap.size, 0, none⟩ (by simp [Program.arrayLen, Program.elem, L.t171]) .i64 (1 + (Lib.nDigits u : Int)) (by omega) (by rw [hal]; omega)]
    go_simp
    omega
   clear hal
   have hcv : (convert (ρ.t 37) (ρ.t 9) (.slice (some ⟨w.heap.size, 0, none⟩) (1 + Lib.nDigits u) 24)).run P (((putRow (fun (b : UInt8) => Value.int .u8 (b.toNat : Int)) (w.alloc (.cells Lib.zeros24 (ρ.t 171))) w.heap.size 1 dk).drewN k).setCell ⟨w.heap.size, 0, none⟩ (.int .u8 45)) = .ok (.string ⟨(45 :: Lib.decDigits u).toArray⟩) (((putRow (fun (b : UInt8) => Value.int .u8 (b.toNat : Int)) (w.alloc (.cells Lib.zeros24 (ρ.t 171))) w.heap.size 1 dk).drewN k).setCell ⟨w.heap.size, 0, none⟩ (.int .u8 45)) := by
    have h := run_convert_bytes_back (P := P) (((putRow (fun (b : UInt8) => Value.int .u8 (b.toNat : Int)) (w.alloc (.cells Lib.zeros24 (ρ.t 171))) w.heap.size 1 dk).drewN k).setCell ⟨w.heap.size, 0, none⟩ (.int .u8 45)) (ρ.t 37) (ρ.t 9) (ρ.t 5) ⟨w.heap.size, 0, none⟩ 24 (45 :: Lib.decDigits u) L.t37 L.t5 L.t9 (fun j hj => by
     rw [Lib.add_plain]
     cases j with
     | zero => exact World.cell?_setCell_same _ _ _ hc0
     | succ i =>
       have hi : i < (Lib.decDigits u).length := by simpa using hj
       rw [World.cell?_setCell_other _ _ _ _ (by simp), List.getElem_cons_succ, Lib.row_is_numeral hF i hi, World.cell?_drewN, show 0 + (i + 1) = 1 + i by omega]
       exact cell?_putRow (fun (b : UInt8) => Value.int .u8 (b.toNat : Int)) _ w.heap.size 1 _ dk HH0.out (by rw [hF.size, Array.size_replicate]) i (by rw [hF.size]; rw [Lib.decDigits_length] at hi; exact hi))
    rw [List.length_cons, Lib.decDigits_length, Nat.add_comm] at h
    exact h
   go_wp2
   go_ret
   obtain ⟨os, eo⟩ := Lib.fin_neg w (.cells Lib.zeros24 (ρ.t 171)) dk k (.int .u8 45)
   refine ⟨?_, k, os, eo⟩
   rw [Lib.itoa_neg u hu1]
   rfl
  ·obtain ⟨u, rfl⟩ : ∃ u : Nat, n = u := ⟨n.toNat, by omega⟩
   have hu1 : 1 ≤ u := by omega
   have hu64 : u < 18446744073709551616 := by omega
   have hnd20 : Lib.nDigits u ≤ 20 := by have := Lib.numDigits_eq u hu1 hu64; split at this <;> omega
   have hb3 : Lib.nDigits u ≤ 23 := by omega
   have hal : P.arrayLen (ρ.t 171) = 24 := by simp [Program.arrayLen, L.t171]
   have hsl1 : ∀ W, (Instr.sliceAt (ρ.t 171) (.pointer (some ⟨w.heap.size, 0, none⟩)) (some (.int .i64 1)) (some (.int .i64 (1 + (Lib.nDigits u : Int)))) none).run P W = .ok (.slice (some ⟨w.heap.size, 1, none⟩) (Lib.nDigits u) 23) W := fun W => by
    rw [run_sliceAt_array_lh W (ρ.t 171) ⟨w.heap.size, 0, none⟩ (by simp [Program.arrayLen, Program.elem, L.t171]) .i64 .i64 1 (1 + (Lib.nDigits u : Int)) (by omega) (by omega) (by rw [hal]; omega)]
    go_simp
    omega
   have hH0 := Lib.holds_zero w (ρ.t 171) (Lib.nDigits u) (by omega)
   have hfmt := Any.internal_strconv_formatBase10 { L with } w.heap.size 1 23 u (Array.replicate (Lib.nDigits u) 0) (w.alloc (.cells Lib.zeros24 (ρ.t 171))) hH0 (by rw [Array.size_replicate]; exact Lib.lt_pow_nDigits u) hu64 (by rw [Array.size_replicate]; omega)
   rw [Array.size_replicate] at hfmt
   have HH0 := Lib.hid hH0
   clear hH0 hal
   go_enter L.f246, Body.n246_ntmps ρ
   go_wp2_with (first
    | (go_at_fn (ρ.f 284); refine (Any.internal_strconv_numDigits_cells { L with } u hu1 hu64 _ (fun j hj => by rw [World.cell?_alloc_old _ _ _ (Nat.ne_of_lt hg)]; exact htab j hj)).mono ?_; rintro e w' ⟨rfl, rfl⟩))
   go_at_fn (ρ.f 285)
   refine hfmt.mono ?_
   rintro e w' ⟨rfl, k, v', dk, rfl, hF⟩
   have hcv : (convert (ρ.t 37) (ρ.t 9) (.slice (some ⟨w.heap.size, 1, none⟩) (Lib.nDigits u) 23)).run P ((putRow (fun (b : UInt8) => Value.int .u8 (b.toNat : Int)) (w.alloc (.cells Lib.zeros24 (ρ.t 171))) w.heap.size 1 dk).drewN k) = .ok (.string ⟨(Lib.decDigits u).toArray⟩) ((putRow (fun (b : UInt8) => Value.int .u8 (b.toNat : Int)) (w.alloc (.cells Lib.zeros24 (ρ.t 171))) w.heap.size 1 dk).drewN k) := by
    have h := run_convert_bytes_back (P := P) ((putRow (fun (b : UInt8) => Value.int .u8 (b.toNat : Int)) (w.alloc (.cells Lib.zeros24 (ρ.t 171))) w.heap.size 1 dk).drewN k) (ρ.t 37) (ρ.t 9) (ρ.t 5) ⟨w.heap.size, 1, none⟩ 23 (Lib.decDigits u) L.t37 L.t5 L.t9 (fun j hj => by
     rw [Lib.row_is_numeral hF j hj, Lib.add_plain, World.cell?_drewN]
     exact cell?_putRow (fun (b : UInt8) => Value.int .u8 (b.toNat : Int)) _ w.heap.size 1 _ dk HH0.out (by rw [hF.size, Array.size_replicate]) j (by rw [hF.size]; rw [Lib.decDigits_length] at hj; exact hj))
    rw [Lib.decDigits_length] at h
    exact h
   go_wp2
   go_ret
   obtain ⟨os, eo⟩ := Lib.fin_pos w (.cells Lib.zeros24 (ρ.t 171)) dk k
   refine ⟨?_, k, os, eo⟩
   rw [Lib.itoa_nonneg]
   rfl
set_option maxRecDepth 100000 in
theorem Any.internal_strconv_Itoa_cells (L : LaysM.n243 P ρ) (n : Int) (h0 : -9223372036854775808 ≤ n) (h1 : n ≤ 9223372036854775807) (w : World)
 (htab : ∀ j, j < 20 → w.cell? ⟨(ρ.g 17), j, none⟩ = some (.int .u64 ((10 ^ j : Nat) : Int))) (hg : (ρ.g 17) < w.heap.size) :
 Calls P (ρ.f 243) #[.int .i64 n] w fun e w' => e = .returned (.string ⟨(Lib.itoa n).toArray⟩) ∧ ∃ k os, w' = grow (w.drewN k) os := by
 have mixed := L.mixed
 have t3 := L.t3; have a3 := L.a3; have z3 := L.z3; have v3 := L.v3
 have t9 := L.t9; have a9 := L.a9; have z9 := L.z9; have v9 := L.v9
 have t2 := L.t2; have a2 := L.a2; have z2 := L.z2; have v2 := L.v2
 have e246 : ∀ args w, (callFunc (ρ.f 246) args).run P w = .ok (.enter (ρ.f 246) args) w := enters_of L.f246 (by kernel_rfl) rfl
 go_enter L.f243, Body.n243_ntmps ρ
 go_wp2_with (go_at_fn (ρ.f 246); refine (Any.internal_strconv_FormatInt_10_cells { L with } n h0 h1 _ htab hg).mono ?_; rintro e w' ⟨rfl, k, os, rfl⟩)
 go_ret
 exact ⟨rfl, k, os, rfl⟩
set_option maxRecDepth 100000 in
theorem Any.strconv_Itoa_cells (L : LaysM.n171 P ρ) (n : Int) (h0 : -9223372036854775808 ≤ n) (h1 : n ≤ 9223372036854775807) (w : World)
 (htab : ∀ j, j < 20 → w.cell? ⟨(ρ.g 17), j, none⟩ = some (.int .u64 ((10 ^ j : Nat) : Int))) (hg : (ρ.g 17) < w.heap.size) :
 Calls P (ρ.f 171) #[.int .i64 n] w fun e w' => e = .returned (.string ⟨(Lib.itoa n).toArray⟩) ∧ ∃ k os, w' = grow (w.drewN k) os := by
 have mixed := L.mixed
 have t3 := L.t3; have a3 := L.a3; have z3 := L.z3; have v3 := L.v3
 have t9 := L.t9; have a9 := L.a9; have z9 := L.z9; have v9 := L.v9
 have e243 : ∀ args w, (callFunc (ρ.f 243) args).run P w = .ok (.enter (ρ.f 243) args) w := enters_of L.f243 (by kernel_rfl) rfl
 go_enter L.f171, Body.n171_ntmps ρ
 go_wp2_with (go_at_fn (ρ.f 243); refine (Any.internal_strconv_Itoa_cells { L with } n h0 h1 _ htab hg).mono ?_; rintro e w' ⟨rfl, k, os, rfl⟩)
 go_ret
 exact ⟨rfl, k, os, rfl⟩
end Go.Proofs
namespace Go.Proofs.YtpajpkbipagjpaaGreatDoor.Oc
open Go Go.RowKit Go.Proofs.YtpajpkbipagjpaaGreatDoor.Vm Go.Proofs.YtpajpkbipagjpaaGreatDoor.Tr Go.IntWalk Go.Sort
set_option maxRecDepth 100000
set_option maxHeartbeats 4000000
theorem pow_cells {w : World} {J : Cset} (hG : Glob E w J) : ∀ j, j < 20 → w.cell? ⟨5, j, none⟩ = some (.int .u64 ((10 ^ j : Nat) : Int)) ∧ J 5 j := by
 have h : RC w J powD 5 0 := hG 5 powD rfl
 have key : ∀ (l : List Nat) (o : Nat), RC w J (l.map fun j => Vm.Data.int .u64 ((10 ^ j : Nat) : Int)) 5 o → ∀ i j, l[i]? = some j → w.cell? ⟨5, o + i, none⟩ = some (.int .u64 ((10 ^ j : Nat) : Int)) ∧ J 5 (o + i) := by
  intro l
  induction l with
  | nil => intro o _ i j hj; simp at hj
  | cons x l ih =>
    intro o hr i j hj
    simp only [List.map_cons, RC, RV] at hr
    obtain ⟨⟨v, h1, h2, _, h3⟩, hr⟩ := hr
    cases i with
    | zero =>
      simp only [List.getElem?_cons_zero, Option.some.injEq] at hj; subst hj
      exact ⟨by rw [Nat.add_zero, h1, h3], h2⟩
    | succ i =>
      rw [show o + (i + 1) = o + 1 + i by omega]
      exact ih (o + 1) hr i j (by simpa using hj)
 intro j hj
 have := key (List.range 20) 0 h j j (by simp [hj])
 simpa using this
theorem err_cells {w : World} {J : Cset} (hG : Glob E w J) (g : Nat) (hg : g = 3 ∨ g = 4) : ∃ ev, w.cell? ⟨g, 0, none⟩ = some ev ∧ ∃ te pe, ev = .iface te pe := by
 have h : RC w J [errD] g 0 := by rcases hg with rfl | rfl <;> exact hG _ [errD] rfl
 simp only [RC, errD, RV] at h
 obtain ⟨⟨v, h1, _, _, u, h3, _⟩, _⟩ := h
 exact ⟨v, h1, _, u, h3⟩
def fmtUA (u : Nat) : List Vm.Data := [.int .u64 u, .int .i64 10]
theorem fmtU_inj (x y : Nat) (h : fmtUA x = fmtUA y) : x = y := by simpa [fmtUA, Int.natCast_inj] using h
noncomputable def fmtUF : PFn := PFn.of fmtUA (fun u => u < 18446744073709551616) (fun u => [.str (Lib.decDigits u)])
@[go_sem] theorem fmtU_pre (u : Nat) : fmtUF.pre [.int .u64 (u : Int), .int .i64 10] = (u < 18446744073709551616) := PFn.of_pre fmtU_inj u
@[go_sem] theorem fmtU_res (u : Nat) : fmtUF.res [.int .u64 (u : Int), .int .i64 10] = [.str (Lib.decDigits u)] := PFn.of_res fmtU_inj u
theorem fmtU_ok : Pure E 206 fmtUF := by
 refine Pure.of_calls fmtU_inj ?_
 intro w J args u hJ hG hargs hu
 obtain ⟨v, v2, rfl, h1, h2⟩ := args2 hargs
 simp only [RV] at h1 h2
 subst h1 h2
 have hp := pow_cells hG
 refine (fmtUint u hu w (fun j hj => (hp j hj).1) (hJ _ _ (hp 0 (by decide)).2)).mono ?_
 rintro e w' ⟨rfl, k, os, rfl⟩
 exact ⟨_, rfl, Lib.below_grow _ _ (Nat.le_refl _) _ _, by simp only [retD, RVD, RV]⟩
def puN (s : List UInt8) : Lib.NumEnd Nat := if s = [] then Lib.NumEnd.syntax else Lib.parseUintM 9223372036854775807 0 s
def puD : Lib.NumEnd Nat → List Vm.Data
 | .ok n => [.int .u64 n, .nili]
 | Lib.NumEnd.syntax => [.int .u64 0, .iface 291 (.int .i64 2)]
 | .range => [.int .u64 9223372036854775807, .iface 291 (.int .i64 1)]
def puNum : Lib.NumEnd Nat → Nat
 | .ok n => n
 | Lib.NumEnd.syntax => 0
 | .range => 9223372036854775807
def puErr : Lib.NumEnd Nat → Vm.Data
 | .ok n => .nili
 | Lib.NumEnd.syntax => .iface 291 (.int .i64 2)
 | .range => .iface 291 (.int .i64 1)
def parseIA (s : List UInt8) : List Vm.Data := [.str s, .int .i64 10, .int .i64 63]
theorem parseI_inj (x y : List UInt8) (h : parseIA x = parseIA y) : x = y := by simpa [parseIA] using h
noncomputable def parseIF : PFn := PFn.of parseIA (fun s => s.length ≤ 1000000) (fun s => [.int .u64 (puNum (puN s)), puErr (puN s)])
@[go_sem] theorem parseI_pre (s : List UInt8) : parseIF.pre [.str s, .int .i64 10, .int .i64 63] = (s.length ≤ 1000000) := PFn.of_pre parseI_inj s
@[go_sem] theorem parseI_res (s : List UInt8) : parseIF.res [.str s, .int .i64 10, .int .i64 63] = [.int .u64 (puNum (puN s)), puErr (puN s)] := PFn.of_res parseI_inj s
theorem parseI_ok : Pure E 196 parseIF := by
 refine Pure.of_calls parseI_inj ?_
 intro w J args s hJ hG hargs hs
 obtain ⟨v, v2, v3, rfl, h1, h2, h3⟩ := args3 hargs
 simp only [RV] at h1 h2 h3
 subst h1 h2 h3
 have fin : ∀ (r : Lib.NumEnd Nat) (w' : World), r = puN s → RVD w' (Fresh J w w') (fun _ => .nil) (retD [.int .u64 (puNum (puN s)), puErr (puN s)]) (Lib.uintTupleM 291 9223372036854775807 r) := by
  rintro r w' rfl
  cases puN s <;> simp [retD, RVD, RVDs, RV, puNum, puErr, Lib.uintTupleM]
 by_cases he : s = []
 ·subst he
  refine (Any.internal_strconv_ParseUint_10_empty63 Tryz.lays287 w).mono ?_
  rintro e w' ⟨rfl, rfl⟩
  exact ⟨_, rfl, Below.refl _ _, fin Lib.NumEnd.syntax _ (by simp [puN])⟩
 ·refine (Any.internal_strconv_ParseUint_10_b63 Tryz.lays287 ⟨s.toArray⟩ (by simpa [ByteArray.size] using he) (by simp [ByteArray.size]; omega) w).mono ?_
  rintro e w' ⟨rfl, rfl⟩
  exact ⟨_, rfl, Lib.bytesWorld_below _ _ _, fin _ _ (by simp [puN, he])⟩
def pub : List UInt8 := [80, 97, 114, 115, 101, 85, 105, 110, 116]
def toErrA (x : List UInt8 × Bool) : List Vm.Data := [.str pub, .str x.1, .int .i64 10, .int .i64 63, .iface 291 (.int .i64 (if x.2 = true then 2 else 1))]
theorem toErr_inj (x y : List UInt8 × Bool) (h : toErrA x = toErrA y) : x = y := by
 obtain ⟨x1, x2⟩ := x; obtain ⟨y1, y2⟩ := y
 cases x2 <;> cases y2 <;> simp_all [toErrA]
noncomputable def toErrF : PFn := PFn.of toErrA (fun x => x.1.length ≤ 1000000) (fun x => [.iface 293 (.ptr [])])
@[go_sem] theorem toErr_pre2 (s : List UInt8) : toErrF.pre [.str pub, .str s, .int .i64 10, .int .i64 63, .iface 291 (.int .i64 2)] = (s.length ≤ 1000000) := PFn.of_pre toErr_inj (s, true)
@[go_sem] theorem toErr_res2 (s : List UInt8) : toErrF.res [.str pub, .str s, .int .i64 10, .int .i64 63, .iface 291 (.int .i64 2)] = [.iface 293 (.ptr [])] := PFn.of_res toErr_inj (s, true)
@[go_sem] theorem toErr_pre1 (s : List UInt8) : toErrF.pre [.str pub, .str s, .int .i64 10, .int .i64 63, .iface 291 (.int .i64 1)] = (s.length ≤ 1000000) := PFn.of_pre toErr_inj (s, false)
@[go_sem] theorem toErr_res1 (s : List UInt8) : toErrF.res [.str pub, .str s, .int .i64 10, .int .i64 63, .iface 291 (.int .i64 1)] = [.iface 293 (.ptr [])] := PFn.of_res toErr_inj (s, false)
theorem toErr_ok : Pure E 197 toErrF := by
 refine Pure.of_calls toErr_inj ?_
 rintro w J args ⟨s, c⟩ hJ hG hargs hs
 obtain ⟨v, v2, v3, v4, v5, rfl, h1, h2, h3, h4, h5⟩ := args5 hargs
 simp only [RV] at h1 h2 h3 h4 h5
 obtain ⟨u, h5, h6⟩ := h5
 subst h1 h2 h3 h4 h6 h5
 have hl : (⟨s.toArray⟩ : ByteArray).size ≤ 281474976710656 := by
  have : s.length ≤ 1000000 := hs
  simp [ByteArray.size]; omega
 have fin : ∀ (w' : World) (N : Nat), RVD w' (Fresh J w w') (fun _ => .nil) (retD [.iface 293 (.ptr [])]) (.iface 293 (.pointer (some ⟨N, 0, none⟩))) := fun w' N => by
  simp only [retD, RVD, RV]
  exact ⟨_, rfl, N, 0, rfl, trivial⟩
 cases c with
 | true =>
   obtain ⟨ev, hv, hev⟩ := err_cells hG 3 (.inl rfl)
   refine (Tryz.strconv_toError_syntax ⟨pub.toArray⟩ ⟨s.toArray⟩ 10 63 ev w hl hv (.inr hev)).mono ?_
   rintro e w' ⟨N, rfl, _, _, hb⟩
   exact ⟨_, rfl, hb, fin _ _⟩
 | false =>
   obtain ⟨ev, hv, hev⟩ := err_cells hG 4 (.inr rfl)
   refine (Tryz.strconv_toError_range ⟨pub.toArray⟩ ⟨s.toArray⟩ 10 63 ev w hl hv (.inr hev)).mono ?_
   rintro e w' ⟨N, rfl, _, _, hb⟩
   exact ⟨_, rfl, hb, fin _ _⟩
def idxA (x : List UInt8 × UInt8) : List Vm.Data := [.str x.1, .str [x.2]]
theorem idx_inj (x y : List UInt8 × UInt8) (h : idxA x = idxA y) : x = y := by simpa [idxA, Prod.ext_iff] using h
noncomputable def idxF : PFn := PFn.of idxA (fun x => True) (fun x => [.int .i64 (Lib.indexByte x.1 x.2)])
@[go_sem] theorem idx_pre (s : List UInt8) (c : UInt8) : idxF.pre [.str s, .str [c]] = True := PFn.of_pre idx_inj (s, c)
@[go_sem] theorem idx_res (s : List UInt8) (c : UInt8) : idxF.res [.str s, .str [c]] = [.int .i64 (Lib.indexByte s c)] := PFn.of_res idx_inj (s, c)
theorem idx_ok : Pure E 237 idxF := by
 refine Pure.of_calls idx_inj ?_
 rintro w J args ⟨s, c⟩ hJ hG hargs _
 obtain ⟨v, v2, rfl, h1, h2⟩ := args2 hargs
 simp only [RV] at h1 h2
 subst h1 h2
 refine (Tryz.strings_Index_one ⟨s.toArray⟩ c w).mono ?_
 rintro e w' ⟨rfl, rfl⟩
 exact ⟨_, rfl, Below.refl _ _, by simp only [retD, RVD, RV]⟩
def joinA (x : List (List UInt8) × List UInt8) : List Vm.Data := [.lst (strsD x.1), .str x.2]
theorem join_inj (x y : List (List UInt8) × List UInt8) (h : joinA x = joinA y) : x = y := by simpa [joinA, Prod.ext_iff, strsD_inj, Vm.Data.lst.injEq] using h
noncomputable def joinF : PFn := PFn.of joinA (fun x => x.1.length ≤ 1000000 ∧ (Lib.join x.1 x.2).length ≤ 140737488355328) (fun x => [.str (Lib.join x.1 x.2)])
@[go_sem] theorem join_pre (l : List (List UInt8)) (s : List UInt8) : joinF.pre [.lst (strsD l), .str s] = (l.length ≤ 1000000 ∧ (Lib.join l s).length ≤ 140737488355328) := PFn.of_pre join_inj (l, s)
@[go_sem] theorem join_res (l : List (List UInt8)) (s : List UInt8) : joinF.res [.lst (strsD l), .str s] = [.str (Lib.join l s)] := PFn.of_res join_inj (l, s)
theorem join_ok : Pure E 157 joinF := by
 refine Pure.of_calls join_inj ?_
 rintro w J args ⟨l, s⟩ hJ hG hargs ⟨hl, hlen⟩
 obtain ⟨v, v2, rfl, h1, h2⟩ := args2 hargs
 simp only [RV] at h1 h2
 obtain ⟨a, n, c, rfl, hn, hc, hr⟩ := h1
 subst h2
 rw [strsD_len] at hn
 by_cases he : l = []
 ·subst he
  simp only [List.length_nil] at hn; subst hn
  refine (Tryz.strings_Join_none a c ⟨s.toArray⟩ w).mono ?_
  rintro e w' ⟨rfl, rfl⟩
  exact ⟨_, rfl, Below.refl _ _, by simp only [retD, RVD, RV, Lib.join_nil]⟩
 ·rcases hr with hr | ⟨b, o, sz, rfl, hsz, hE⟩
  ·exact absurd (by simpa [strsD] using hr) he
  ·have hsz1 : sz = 1 := by
    cases l with
    | nil => exact absurd rfl he
    | cons x l => simp only [strsD, List.map_cons, RE] at hE; simpa using hE.1.symm
   subst hsz1
   have hc' := RE.strs l b o hE
   have hmap : (l.map fun s : List UInt8 => (⟨s.toArray⟩ : ByteArray)).map (·.data.toList) = l := by
    rw [List.map_map]; exact (List.map_congr_left (fun x _ => by simp)).trans (List.map_id _)
   have hb : b < w.heap.size := by
    cases l with
    | nil => exact absurd rfl he
    | cons x l => exact hJ _ _ (hc' 0 x (by simp)).2
   have := Tryz.strings_Join b o c (l.map fun s => ⟨s.toArray⟩) ⟨s.toArray⟩ w (fun j x hx => by
    rw [List.getElem?_map] at hx
    cases hj : l[j]? with
    | none => rw [hj] at hx; cases hx
    | some y => rw [hj] at hx; cases hx; exact (hc' j y hj).1) hb (by rw [List.length_map]; have := hl; simp only at this; omega) (by rw [List.length_map]; omega) (by rw [hmap]; exact hlen)
   rw [List.length_map, ← hn, hmap] at this
   refine this.mono ?_
   rintro e w' ⟨rfl, hB⟩
   exact ⟨_, rfl, hB, by simp only [retD, RVD, RV]⟩
def itoaA (x : Nat) : List Vm.Data := [.int .i64 (x : Int)]
theorem itoa_inj (x y : Nat) (h : itoaA x = itoaA y) : x = y := by simpa [itoaA, Prod.ext_iff, Int.natCast_inj] using h
noncomputable def itoaF : PFn := PFn.of itoaA (fun x => x ≤ 9223372036854775807) (fun x => [.str (Lib.decDigits x)])
@[go_sem] theorem itoa_pre (n : Nat) : itoaF.pre [.int .i64 (n : Int)] = (n ≤ 9223372036854775807) := PFn.of_pre itoa_inj n
@[go_sem] theorem itoa_res (n : Nat) : itoaF.res [.int .i64 (n : Int)] = [.str (Lib.decDigits n)] := PFn.of_res itoa_inj n
theorem itoa_ok : Pure E 108 itoaF := by
 refine Pure.of_calls itoa_inj ?_
 intro w J args n hJ hG hargs hn
 obtain ⟨v, rfl, h1⟩ := args1 hargs
 simp only [RV] at h1
 subst h1
 have hp := pow_cells hG
 refine (Any.strconv_Itoa_cells Tryz.laysM171 (n : Int) (by omega) (by omega) w (fun j hj => (hp j hj).1) (hJ _ _ (hp 0 (by decide)).2)).mono ?_
 rintro e w' ⟨rfl, k, os, rfl⟩
 refine ⟨_, rfl, Lib.below_grow _ _ (Nat.le_refl _) _ _, ?_⟩
 simp only [retD, RVD, RV]
 rw [Lib.itoa_nonneg]
end Go.Proofs.YtpajpkbipagjpaaGreatDoor.Oc
namespace Go.Proofs.YtpajpkbipagjpaaGreatDoor.Oc
open Go Go.RowKit Go.Proofs.YtpajpkbipagjpaaGreatDoor.Vm Go.Proofs.YtpajpkbipagjpaaGreatDoor.Tr Go.IntWalk
set_option maxRecDepth 100000
set_option maxHeartbeats 4000000
theorem sizes_take {h : Int} (h0 : 0 ≤ h) (h1 : h < 5) : List.take 1 (List.drop (h.toNat * 1) sizesD) = [.int .i64 (bitsH h)] := by
 have : h = 0 ∨ h = 1 ∨ h = 2 ∨ h = 3 ∨ h = 4 := by omega
 rcases this with rfl | rfl | rfl | rfl | rfl <;> rfl
theorem bits_out {q : Int} (h : q < 0 ∨ 5 ≤ q) : bitsH q = 0 := by unfold bitsH; (repeat' split) <;> omega
theorem sizeW (h : Int) : IntKind.i64.wrap ((bitsH h).tdiv 8) = sizeH h := by rw [bits_size]; unfold sizeH; (repeat' split) <;> rfl
@[go_sem] noncomputable def bitsF : PFn := PF [SI .i64] (fun (q : Int) => True) (fun (q : Int) => [.int .i64 (bitsH q)])
theorem bits_ok : Pure E 107 bitsF := Pure.of_sig (rs := [.tmp 2]) (n := 12) Tryz.func107 rfl rfl rfl (Nat.le_of_ble_eq_true rfl) (by
 intro (q : Int) hds
 refine st0 ?_
 refine rg sound_nil [0] (And.intro sizesD_len (fun (h : Int) (h0 : 0 ≤ h) (h1 : h < 5) => sizes_take h0 h1)) ?_
 refine rB sound_nil [0, 8] (And.intro sizesD_len (fun (h : Int) (h0 : 0 ≤ h) (h1 : h < 5) => sizes_take h0 h1)) fun K' hK => ?_
 repeat' first | (refine lf hK (And.intro sizesD_len (fun (h : Int) (h0 : 0 ≤ h) (h1 : h < 5) => sizes_take h0 h1)) ?_; clear hK K') | with_reducible apply And.intro | refine sA (And.intro sizesD_len (fun (h : Int) (h0 : 0 ≤ h) (h1 : h < 5) => sizes_take h0 h1)) (fun _ => ?_) fun _ => ?_ | refine sAb (And.intro sizesD_len (fun (h : Int) (h0 : 0 ≤ h) (h1 : h < 5) => sizes_take h0 h1)) (fun _ => ?_) fun _ => ?_ | refine sAl (And.intro sizesD_len (fun (h : Int) (h0 : 0 ≤ h) (h1 : h < 5) => sizes_take h0 h1)) (fun g => ?_) fun g => ?_ | exact sd | exact sde (And.intro sizesD_len (fun (h : Int) (h0 : 0 ≤ h) (h1 : h < 5) => sizes_take h0 h1)) | exact sdp (And.intro sizesD_len (fun (h : Int) (h0 : 0 ≤ h) (h1 : h < 5) => sizes_take h0 h1)) | refine stk (And.intro sizesD_len (fun (h : Int) (h0 : 0 ≤ h) (h1 : h < 5) => sizes_take h0 h1)) ?_ | fail
 all_goals
  refine cn ?_ ?_
  ·intro h; try exact absurd h (by decide)
   all_goals
    have hb0 := bits_out (q := q) (by omega)
    refine rg sound_nil [2] (And.intro sizesD_len (fun (h : Int) (h0 : 0 ≤ h) (h1 : h < 5) => sizes_take h0 h1)) ?_
    exact fz hb0
  ·intro h; try exact absurd h (by decide)
   all_goals
    have hb0 := True.intro
    refine rg sound_nil [2] (And.intro sizesD_len (fun (h : Int) (h0 : 0 ≤ h) (h1 : h < 5) => sizes_take h0 h1)) ?_
    exact fz hb0)
noncomputable def ΦSI : Fns := tab [(107, bitsF)]
theorem ΦSI_ok : Sound E ΦSI := sound_cons (by kernel_rfl) bits_ok (sound_nil)
@[go_sem] theorem ΦSI_r : ΦSI 107 = some bitsF := rfl
@[go_sem] noncomputable def sizeF : PFn := PF [SI .i64] (fun (q : Int) => True) (fun (q : Int) => [.int .i64 (sizeH q)])
theorem size_ok : Pure E 58 sizeF := Pure.of_sig (rs := [.tmp 2]) (n := 6) Tryz.func58 rfl rfl rfl (Nat.le_of_ble_eq_true rfl) (by
 intro (q : Int) hds
 refine st0 ?_
 refine rg ΦSI_ok [0] sizeW ?_
 refine rg ΦSI_ok [2] sizeW ?_
 exact fz sizeW)
def nameH (h : Int) : List UInt8 := if h = 1 then [115, 104, 97, 50, 50, 52] else if h = 2 then [115, 104, 97, 50, 53, 54] else if h = 3 then [115, 104, 97, 51, 56, 52] else if h = 4 then [115, 104, 97, 53, 49, 50] else []
theorem nameH_of (h : Int) (h1 : ¬ sizeH h = 0) : 115 :: 104 :: 97 :: Lib.decDigits (bitsH h).toNat = nameH h ∧ (0 ≤ bitsH h ∧ bitsH h ≤ 1000) ∧ (Lib.decDigits (bitsH h).toNat).length = 3 := by
 have hh : h = 1 ∨ h = 2 ∨ h = 3 ∨ h = 4 := by unfold sizeH at h1; (repeat' split at h1) <;> omega
 rcases hh with rfl | rfl | rfl | rfl <;> decide +kernel
theorem nameH_no (h : Int) (h1 : sizeH h = 0) : nameH h = [] := by
 unfold sizeH at h1; unfold nameH; (repeat' split) <;> simp_all
@[go_sem] noncomputable def itozF : PFn := PF [SI .i64] (fun (x : Int) => 0 ≤ x ∧ x ≤ 9223372036854775807) (fun (x : Int) => [.str (Lib.decDigits x.toNat)])
theorem itoz_ok : Pure E 108 itozF := Pure.of_pure itoa_ok (by
 intro (x : Int) hx
 obtain ⟨n, rfl⟩ := Int.eq_ofNat_of_zero_le hx.1
 exact ⟨(itoa_pre n).mpr (by omega), itoa_res n⟩)
noncomputable def ΦNM : Fns := tab [(107, bitsF), (58, sizeF), (108, itozF)]
theorem ΦNM_ok : Sound E ΦNM := sound_cons (by kernel_rfl) bits_ok (sound_cons (by kernel_rfl) size_ok (sound_cons (by kernel_rfl) itoz_ok (sound_nil)))
@[go_sem] theorem ΦNM_r : ΦNM 107 = some bitsF ∧ ΦNM 58 = some sizeF ∧ ΦNM 108 = some itozF := ⟨rfl, rfl, rfl⟩
@[go_sem] noncomputable def mnameF : PFn := PF [SI .i64] (fun (q : Int) => True) (fun (q : Int) => [.str (nameH q)])
theorem mname_ok : Pure E 60 mnameF := Pure.of_sig (rs := [.tmp 2]) (n := 10) Tryz.func60 rfl rfl rfl (Nat.le_of_ble_eq_true rfl) (by
 intro (q : Int) hds
 refine st0 ?_
 refine rg ΦNM_ok [0] trivial ?_
 refine rg ΦNM_ok [0, 5] trivial ?_
 refine cn ?_ ?_
 ·intro h; try exact absurd h (by decide)
  all_goals
   have hn := nameH_no q (by assumption)
   refine rg ΦNM_ok [2] trivial ?_
   exact fz hn
 ·intro h; try exact absurd h (by decide)
  all_goals
   obtain ⟨hn, hc, hl⟩ := nameH_of q (by assumption)
   refine rg ΦNM_ok [2] trivial ?_
   exact fz hn)
end Go.Proofs.YtpajpkbipagjpaaGreatDoor.Oc
namespace Go.Proofs.YtpajpkbipagjpaaGreatDoor.Oc
open Go Go.RowKit Go.Proofs.YtpajpkbipagjpaaGreatDoor.Vm Go.Proofs.YtpajpkbipagjpaaGreatDoor.Tr Go.IntWalk
set_option maxRecDepth 100000
set_option maxHeartbeats 4000000
def namedH (s : List UInt8) : Int := if nameH 1 = s then 1 else if nameH 2 = s then 2 else if nameH 3 = s then 3 else if nameH 4 = s then 4 else 0
theorem namedH_no (s : List UInt8) (h : ∀ j : Nat, 1 ≤ j → j < 5 → nameH (j : Int) ≠ s) : namedH s = 0 := by
 have h1 := h 1 (by omega) (by omega); have h2 := h 2 (by omega) (by omega); have h3 := h 3 (by omega) (by omega); have h4 := h 4 (by omega) (by omega)
 simp only [Int.natCast_one, show ((2 : Nat) : Int) = 2 from rfl, show ((3 : Nat) : Int) = 3 from rfl, show ((4 : Nat) : Int) = 4 from rfl] at h1 h2 h3 h4
 unfold namedH; rw [if_neg h1, if_neg h2, if_neg h3, if_neg h4]
theorem namedH_yes (s : List UInt8) (i : Nat) (h1 : 1 ≤ i) (h5 : i < 5) (he : nameH (i : Int) = s) : namedH s = (i : Int) := by
 subst he
 have : i = 1 ∨ i = 2 ∨ i = 3 ∨ i = 4 := by omega
 rcases this with rfl | rfl | rfl | rfl <;> decide +kernel
theorem named_step {s : List UInt8} {i : Nat} (hp : (1 ≤ i ∧ i ≤ 5) ∧ ∀ j : Nat, 1 ≤ j → j < i → nameH (j : Int) ≠ s) (h4 : i < 5) (hn : ¬ nameH (i : Int) = s) : (1 ≤ i + 1 ∧ i + 1 ≤ 5) ∧ ∀ j : Nat, 1 ≤ j → j < i + 1 → nameH (j : Int) ≠ s := by
 refine ⟨by omega, fun j h1 h2 => ?_⟩
 rcases Nat.lt_or_ge j i with h3 | h3
 ·exact hp.2 j h1 h3
 ·obtain rfl : j = i := by omega
  exact hn
noncomputable def ΦMN : Fns := tab [(60, mnameF)]
theorem ΦMN_ok : Sound E ΦMN := sound_cons (by kernel_rfl) mname_ok (sound_nil)
@[go_sem] theorem ΦMN_r : ΦMN 60 = some mnameF := rfl
@[go_sem] noncomputable def mnamedF : PFn := PF [SS] (fun (s : List UInt8) => True) (fun (s : List UInt8) => [.int .i64 (namedH s)])
theorem mnamed_ok : Pure E 74 mnamedF := Pure.of_sig (rs := [.tmp 2]) (n := 13) Tryz.func74 rfl rfl rfl (Nat.le_of_ble_eq_true rfl) (by
 intro (s : List UInt8) hds
 refine st0 ?_
 refine rg ΦMN_ok [0] trivial ?_
 refine rg ΦMN_ok [0, 3] trivial ?_
 refine nx ?_
 refine VC.loopP (ι := Nat) [0] (fun i => [(3, .dat (.int .i64 (i : Int)))]) (fun _ => []) (fun i => (1 ≤ i ∧ i ≤ 5) ∧ ∀ j : Nat, 1 ≤ j → j < i → nameH (j : Int) ≠ s) (fun i => 5 - i) 1 (⟨by omega, fun j h1 h2 => by omega⟩) (et) ?_
 rintro i hp; try dsimp only at hp
 refine st0 ?_
 refine rg ΦMN_ok [0, 3, 5] trivial ?_
 refine cn ?_ ?_
 ·intro h; try exact absurd h (by decide)
  all_goals
   refine rg ΦMN_ok [0, 3, 11] trivial ?_
   refine cn ?_ ?_
   ·intro h; try exact absurd h (by decide)
    all_goals
     have hy := namedH_yes s i (by omega) (by omega) (by assumption)
     refine rg ΦMN_ok [2] trivial ?_
     exact fz hy
   ·intro h; try exact absurd h (by decide)
    all_goals
     refine rgL ΦMN_ok trivial ?_
     refine nx ?_
     exact ⟨i + 1, named_step hp (by omega) (by assumption), et, by omega⟩
 ·intro h; try exact absurd h (by decide)
  all_goals
   have hy := namedH_no s (fun j h1 h2 => hp.2 j h1 (by omega))
   refine rg ΦMN_ok [2] trivial ?_
   exact fz hy)
theorem names_at (q : Int) (h0 : 1 ≤ q) (h1 : q ≤ 4) : ([[.str []], [.str [115, 104, 97, 50, 50, 52]], [.str [115, 104, 97, 50, 53, 54]], [.str [115, 104, 97, 51, 56, 52]], [.str [115, 104, 97, 53, 49, 50]]] : List (List Vm.Data)).getD q.toNat [] = [.str (nameH q)] := by
 have : q = 1 ∨ q = 2 ∨ q = 3 ∨ q = 4 := by omega
 rcases this with rfl | rfl | rfl | rfl <;> rfl
theorem nameH_out {q : Int} (h : q < 1 ∨ 4 < q) : nameH q = [] := by unfold nameH; (repeat' split) <;> first | rfl | omega
@[go_sem] noncomputable def rnameF : PFn := PF [SI .i64] (fun (q : Int) => True) (fun (q : Int) => [.str (nameH q)])
theorem rname_ok : Pure E 63 rnameF := Pure.of_sig (rs := [.tmp 2]) (n := 13) Tryz.func63 rfl rfl rfl (Nat.le_of_ble_eq_true rfl) (by
 intro (q : Int) hds
 refine st0 ?_
 refine rg sound_nil [0] names_at ?_
 refine rB sound_nil [0, 8] names_at fun K' hK => ?_
 repeat' first | (refine lf hK names_at ?_; clear hK K') | with_reducible apply And.intro | refine sA names_at (fun _ => ?_) fun _ => ?_ | refine sAb names_at (fun _ => ?_) fun _ => ?_ | refine sAl names_at (fun g => ?_) fun g => ?_ | exact sd | exact sde names_at | exact sdp names_at | refine stk names_at ?_ | fail
 all_goals
  refine cn ?_ ?_
  ·intro h; try exact absurd h (by decide)
   all_goals
    have hb0 := nameH_out (q := q) (by omega)
    refine rg sound_nil [2] names_at ?_
    exact fz hb0
  ·intro h; try exact absurd h (by decide)
   all_goals
    have hb0 := True.intro
    refine rg sound_nil [2] names_at ?_
    exact fz hb0)
end Go.Proofs.YtpajpkbipagjpaaGreatDoor.Oc
