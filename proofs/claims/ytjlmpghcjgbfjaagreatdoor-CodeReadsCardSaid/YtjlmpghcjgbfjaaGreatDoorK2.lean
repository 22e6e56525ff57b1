/-
  A part of the proofs of this seat: the executor (one law an operation), the plain laws of code and its text, and the walks of the functions that are reached: Shelf Cw2 Cw3 Cw4 Cw5 Cw6 Ex8 Ex9 Cw7 Cw8 ExS Srt1 Srt2 Srt3.
-/
import Derived.Shelf.Strings.Builder1
import Derived.Shelf.Strings.Builder2
import Derived.Shelf.Strings.OnBuilder
import Derived.Shelf.Small.Bits
import Derived.Shelf.Small.Strs
import Derived.Shelf.Small.Wraps
import Derived.Shelf.Strconv.Itoa0
import Derived.Shelf.Strconv.Itoa1
import Derived.Shelf.LaysM
import Derived.Shelf.Strconv.Itoa2
import Derived.Shelf.Strconv.Itoa3
import Derived.Shelf.Strings.Search1
import Derived.Shelf.Strings.Search2
import Derived.Shelf.Strings.Search3
import Derived.Shelf.Strings.Count
import Derived.Shelf.Strings.Prefix
import Derived.Shelf.Strings.AsciiSet
import Derived.RangeFuncLeaves
import Derived.RangeFuncRecord
import Derived.RangeFuncSeq
import Derived.Scope
import Derived.Test.YtjlmpghcjgbfjaaGreatDoorProg
import Derived.Test.YtjlmpghcjgbfjaaGreatDoorK1
namespace Go.Proofs
open Go.Shelf
def Tryz.lays169_ren : Go.Shelf.Ren := ⟨fun | 169 => 50 | n => n, fun | 70 => 91 | 9 => 9 | 0 => 0 | 72 => 93 | 37 => 22 | 127 => 112 | 3 => 3 | 5 => 5 | n => n, fun | n => n⟩
theorem Tryz.lays169 : Go.Proofs.Lays.n169 Tryz.prog Tryz.lays169_ren := {
 mixed := by kernel_rfl
 f169 := Tryz.func50.trans (congrArg some (by kernel_rfl))
 t0 := Tryz.underlying0
 a0 := Tryz.isAgg0
 z0 := Tryz.sizeOf0
 v0 := Tryz.zeroValue0
 t3 := Tryz.underlying3
 a3 := Tryz.isAgg3
 z3 := Tryz.sizeOf3
 v3 := Tryz.zeroValue3
 t9 := Tryz.underlying9
 a9 := Tryz.isAgg9
 z9 := Tryz.sizeOf9
 v9 := Tryz.zeroValue9
 t37 := Tryz.underlying22
 a37 := Tryz.isAgg22
 z37 := Tryz.sizeOf22
 v37 := Tryz.zeroValue22
 t70 := Tryz.underlying91
 a70 := Tryz.isAgg91
 z70 := Tryz.sizeOf91
 v70 := Tryz.zeroValue91
 t72 := Tryz.underlying93
 a72 := Tryz.isAgg93
 z72 := Tryz.sizeOf93
 v72 := Tryz.zeroValue93
 t127 := Tryz.underlying112
 a127 := Tryz.isAgg112
 z127 := Tryz.sizeOf112
 v127 := Tryz.zeroValue112 }
theorem Tryz.Builder_Extra_169 : Builder.Extra Tryz.prog Tryz.lays169_ren := {
 sizeBuilder := by kernel_rfl
 liesBuilder := by kernel_rfl
 t5 := Tryz.underlying5
 a5 := Tryz.isAgg5
 z5 := Tryz.sizeOf5
 v5 := Tryz.zeroValue5
 infoByte := by kernel_rfl
 cellsByte := by kernel_rfl
 sizeByte := by kernel_rfl
 neB5 := by decide }
open Go.RowKit in
theorem Tryz.Builder_String_any (B b : Nat) (l : List UInt8) (w : World) (h : Lib.IsBuilder 93 5 B b (Lib.byteCells l) w) (hBw : B ≤ w.heap.size) :
 Calls Tryz.prog 50 #[.pointer (some ⟨b, 0, none⟩)] w fun e w' => e = .returned (.string ⟨l.toArray⟩) ∧ Below B w w' := Any.Builder_String_any Tryz.lays169 Tryz.Builder_Extra_169 B b l w h hBw
def Tryz.lays156_ren : Go.Shelf.Ren := ⟨fun | 156 => 26 | 165 => 51 | 166 => 48 | 169 => 50 | 240 => 64 | 241 => 65 | 276 => 82 | 277 => 83 | n => n, fun | 31 => 55 | 9 => 9 | 3 => 3 | 4 => 4 | 0 => 0 | 20 => 20 | 72 => 93 | 76 => 96 | 70 => 91 | 37 => 22 | 75 => 95 | 127 => 112 | 164 => 124 | 5 => 5 | 80 => 72 | n => n, fun | n => n⟩
theorem Tryz.lays156 : Go.Proofs.Lays.n156 Tryz.prog Tryz.lays156_ren := {
 mixed := by kernel_rfl
 f156 := Tryz.func26.trans (congrArg some (by kernel_rfl))
 f165 := Tryz.func51.trans (congrArg some (by kernel_rfl))
 f166 := Tryz.func48.trans (congrArg some (by kernel_rfl))
 f169 := Tryz.func50.trans (congrArg some (by kernel_rfl))
 f240 := Tryz.func64.trans (congrArg some (by kernel_rfl))
 f241 := Tryz.func65.trans (congrArg some (by kernel_rfl))
 f276 := Tryz.func82.trans (congrArg some (by kernel_rfl))
 f277 := Tryz.func83.trans (congrArg some (by kernel_rfl))
 t0 := Tryz.underlying0
 a0 := Tryz.isAgg0
 z0 := Tryz.sizeOf0
 v0 := Tryz.zeroValue0
 t3 := Tryz.underlying3
 a3 := Tryz.isAgg3
 z3 := Tryz.sizeOf3
 v3 := Tryz.zeroValue3
 t4 := Tryz.underlying4
 a4 := Tryz.isAgg4
 z4 := Tryz.sizeOf4
 v4 := Tryz.zeroValue4
 t9 := Tryz.underlying9
 a9 := Tryz.isAgg9
 z9 := Tryz.sizeOf9
 v9 := Tryz.zeroValue9
 t20 := Tryz.underlying20
 a20 := Tryz.isAgg20
 z20 := Tryz.sizeOf20
 v20 := Tryz.zeroValue20
 t31 := Tryz.underlying55
 a31 := Tryz.isAgg55
 z31 := Tryz.sizeOf55
 v31 := Tryz.zeroValue55
 t37 := Tryz.underlying22
 a37 := Tryz.isAgg22
 z37 := Tryz.sizeOf22
 v37 := Tryz.zeroValue22
 t70 := Tryz.underlying91
 a70 := Tryz.isAgg91
 z70 := Tryz.sizeOf91
 v70 := Tryz.zeroValue91
 t72 := Tryz.underlying93
 a72 := Tryz.isAgg93
 z72 := Tryz.sizeOf93
 v72 := Tryz.zeroValue93
 t75 := Tryz.underlying95
 a75 := Tryz.isAgg95
 z75 := Tryz.sizeOf95
 v75 := Tryz.zeroValue95
 t76 := Tryz.underlying96
 a76 := Tryz.isAgg96
 z76 := Tryz.sizeOf96
 v76 := Tryz.zeroValue96
 t127 := Tryz.underlying112
 a127 := Tryz.isAgg112
 z127 := Tryz.sizeOf112
 v127 := Tryz.zeroValue112
 t164 := Tryz.underlying124
 a164 := Tryz.isAgg124
 z164 := Tryz.sizeOf124
 v164 := Tryz.zeroValue124 }
theorem Tryz.Builder_Extra_156 : Builder.Extra Tryz.prog Tryz.lays156_ren := {
 sizeBuilder := by kernel_rfl
 liesBuilder := by kernel_rfl
 t5 := Tryz.underlying5
 a5 := Tryz.isAgg5
 z5 := Tryz.sizeOf5
 v5 := Tryz.zeroValue5
 infoByte := by kernel_rfl
 cellsByte := by kernel_rfl
 sizeByte := by kernel_rfl
 neB5 := by decide }
open Go.RowKit in
theorem Tryz.strings_Join_none (a : Option Addr) (c : Nat) (sep : ByteArray) (w : World) :
 Calls Tryz.prog 26 #[.slice a 0 c, .string sep] w fun e w' => e = .returned (.string ⟨#[]⟩) ∧ w' = w := Any.strings_Join_none Tryz.lays156 Tryz.Builder_Extra_156 a c sep w
open Go.RowKit in
theorem Tryz.strings_Join (bk o c : Nat) (xs : List ByteArray) (sep : ByteArray) (w : World) (hcells : ∀ (j : Nat) x, xs[j]? = some x → w.cell? ⟨bk, o + j, none⟩ = some (.string x)) (hbk : bk < w.heap.size) (hN : xs.length ≤ 140737488355328) (hcap : xs.length ≤ c) (hlen : (Lib.join (xs.map (·.data.toList)) sep.data.toList).length ≤ 140737488355328) :
 Calls Tryz.prog 26 #[.slice (some ⟨bk, o, none⟩) xs.length c, .string sep] w fun e w' => e = .returned (.string ⟨(Lib.join (xs.map (·.data.toList)) sep.data.toList).toArray⟩) ∧ Below w.heap.size w w' := Any.strings_Join Tryz.lays156 Tryz.Builder_Extra_156 bk o c xs sep w hcells hbk hN hcap hlen
def Tryz.lays125_ren : Go.Shelf.Ren := ⟨fun | 125 => 96 | 128 => 116 | 129 => 117 | n => n, fun | 46 => 99 | 3 => 3 | 51 => 152 | 53 => 40 | 4 => 4 | 5 => 5 | 9 => 9 | n => n, fun | n => n⟩
theorem Tryz.lays125 : Go.Proofs.Lays.n125 Tryz.prog Tryz.lays125_ren := {
 mixed := by kernel_rfl
 f125 := Tryz.func96.trans (congrArg some (by kernel_rfl))
 f128 := Tryz.func116.trans (congrArg some (by kernel_rfl))
 f129 := Tryz.func117.trans (congrArg some (by kernel_rfl))
 t3 := Tryz.underlying3
 a3 := Tryz.isAgg3
 z3 := Tryz.sizeOf3
 v3 := Tryz.zeroValue3
 t4 := Tryz.underlying4
 a4 := Tryz.isAgg4
 z4 := Tryz.sizeOf4
 v4 := Tryz.zeroValue4
 t5 := Tryz.underlying5
 a5 := Tryz.isAgg5
 z5 := Tryz.sizeOf5
 v5 := Tryz.zeroValue5
 t9 := Tryz.underlying9
 a9 := Tryz.isAgg9
 z9 := Tryz.sizeOf9
 v9 := Tryz.zeroValue9
 t46 := Tryz.underlying99
 a46 := Tryz.isAgg99
 z46 := Tryz.sizeOf99
 v46 := Tryz.zeroValue99
 t51 := Tryz.underlying152
 a51 := Tryz.isAgg152
 z51 := Tryz.sizeOf152
 v51 := Tryz.zeroValue152
 t53 := Tryz.underlying40
 a53 := Tryz.isAgg40
 z53 := Tryz.sizeOf40
 v53 := Tryz.zeroValue40 }
theorem Tryz.bits_Len (x : Int) (w : World) (h0 : 0 ≤ x) (h1 : x ≤ 18446744073709551615) :
 Calls Tryz.prog 96 #[.int .u64 x] w fun e w' => e = .returned (.int .i64 (Lib.bitLen x.toNat)) ∧ w' = w := Any.bits_Len Tryz.lays125 x w h0 h1
def Tryz.lays137_ren : Go.Shelf.Ren := ⟨fun | 137 => 55 | 217 => 77 | 266 => 92 | n => n, fun | 9 => 9 | 5 => 5 | 3 => 3 | n => n, fun | n => n⟩
theorem Tryz.lays137 : Go.Proofs.Lays.n137 Tryz.prog Tryz.lays137_ren := {
 mixed := by kernel_rfl
 f137 := Tryz.func55.trans (congrArg some (by kernel_rfl))
 f217 := Tryz.func77.trans (congrArg some (by kernel_rfl))
 f266 := Tryz.func92.trans (congrArg some (by kernel_rfl))
 t3 := Tryz.underlying3
 a3 := Tryz.isAgg3
 z3 := Tryz.sizeOf3
 v3 := Tryz.zeroValue3
 t5 := Tryz.underlying5
 a5 := Tryz.isAgg5
 z5 := Tryz.sizeOf5
 v5 := Tryz.zeroValue5
 t9 := Tryz.underlying9
 a9 := Tryz.isAgg9
 z9 := Tryz.sizeOf9
 v9 := Tryz.zeroValue9 }
open Go.RowKit in
theorem Tryz.strings_IndexByte (s : ByteArray) (c : Int) (w : World) :
 Calls Tryz.prog 55 #[.string s, .int .u8 c] w fun e w' => e = .returned (.int .i64 (Lib.indexByte s.data.toList c.toNat.toUInt8)) ∧ w' = w := Any.strings_IndexByte Tryz.lays137 s c w
def Tryz.lays103_ren : Go.Shelf.Ren := ⟨fun | 103 => 53 | 210 => 69 | 206 => 88 | n => n, fun | 9 => 9 | 4 => 4 | 24 => 102 | 3 => 3 | n => n, fun | n => n⟩
theorem Tryz.lays103 : Go.Proofs.Lays.n103 Tryz.prog Tryz.lays103_ren := {
 mixed := by kernel_rfl
 f103 := Tryz.func53.trans (congrArg some (by kernel_rfl))
 f206 := Tryz.func88.trans (congrArg some (by kernel_rfl))
 f210 := Tryz.func69.trans (congrArg some (by kernel_rfl))
 t3 := Tryz.underlying3
 a3 := Tryz.isAgg3
 z3 := Tryz.sizeOf3
 v3 := Tryz.zeroValue3
 t4 := Tryz.underlying4
 a4 := Tryz.isAgg4
 z4 := Tryz.sizeOf4
 v4 := Tryz.zeroValue4
 t9 := Tryz.underlying9
 a9 := Tryz.isAgg9
 z9 := Tryz.sizeOf9
 v9 := Tryz.zeroValue9
 t24 := Tryz.underlying102
 a24 := Tryz.isAgg102
 z24 := Tryz.sizeOf102
 v24 := Tryz.zeroValue102 }
open Go.RowKit in
theorem Tryz.strings_CutPrefix (s p : ByteArray) (w : World) :
 Calls Tryz.prog 53 #[.string s, .string p] w fun e w' => e = .returned (.tuple #[.string ⟨(Lib.trimPrefix s.data.toList p.data.toList).toArray⟩, .bool (Lib.hasPrefix s.data.toList p.data.toList)]) ∧ w' = w := Any.strings_CutPrefix Tryz.lays103 s p w
def Tryz.lays171_ren : Go.Shelf.Ren := ⟨fun | 171 => 61 | 243 => 78 | 246 => 93 | 283 => 103 | 284 => 104 | 285 => 105 | 286 => 106 | 129 => 117 | 317 => 120 | 318 => 121 | 319 => 122 | 320 => 123 | 337 => 130 | 338 => 131 | n => n, fun | 3 => 3 | 9 => 9 | 2 => 2 | 4 => 4 | 171 => 137 | 0 => 0 | 53 => 40 | 37 => 22 | 5 => 5 | 173 => 140 | 212 => 161 | 51 => 152 | 20 => 20 | 213 => 162 | 46 => 99 | 232 => 173 | 233 => 174 | n => n, fun | 17 => 3 | 18 => 4 | 19 => 5 | n => n⟩
theorem Tryz.lays171 : Go.Proofs.Lays.n171 Tryz.prog Tryz.lays171_ren := {
 mixed := by kernel_rfl
 f129 := Tryz.func117.trans (congrArg some (by kernel_rfl))
 f171 := Tryz.func61.trans (congrArg some (by kernel_rfl))
 f243 := Tryz.func78.trans (congrArg some (by kernel_rfl))
 f246 := Tryz.func93.trans (congrArg some (by kernel_rfl))
 f283 := Tryz.func103.trans (congrArg some (by kernel_rfl))
 f284 := Tryz.func104.trans (congrArg some (by kernel_rfl))
 f285 := Tryz.func105.trans (congrArg some (by kernel_rfl))
 f286 := Tryz.func106.trans (congrArg some (by kernel_rfl))
 f317 := Tryz.func120.trans (congrArg some (by kernel_rfl))
 f318 := Tryz.func121.trans (congrArg some (by kernel_rfl))
 f319 := Tryz.func122.trans (congrArg some (by kernel_rfl))
 f320 := Tryz.func123.trans (congrArg some (by kernel_rfl))
 f337 := Tryz.func130.trans (congrArg some (by kernel_rfl))
 f338 := Tryz.func131.trans (congrArg some (by kernel_rfl))
 t0 := Tryz.underlying0
 a0 := Tryz.isAgg0
 z0 := Tryz.sizeOf0
 v0 := Tryz.zeroValue0
 t2 := Tryz.underlying2
 a2 := Tryz.isAgg2
 z2 := Tryz.sizeOf2
 v2 := Tryz.zeroValue2
 t3 := Tryz.underlying3
 a3 := Tryz.isAgg3
 z3 := Tryz.sizeOf3
 v3 := Tryz.zeroValue3
 t4 := Tryz.underlying4
 a4 := Tryz.isAgg4
 z4 := Tryz.sizeOf4
 v4 := Tryz.zeroValue4
 t5 := Tryz.underlying5
 a5 := Tryz.isAgg5
 z5 := Tryz.sizeOf5
 v5 := Tryz.zeroValue5
 t9 := Tryz.underlying9
 a9 := Tryz.isAgg9
 z9 := Tryz.sizeOf9
 v9 := Tryz.zeroValue9
 t20 := Tryz.underlying20
 a20 := Tryz.isAgg20
 z20 := Tryz.sizeOf20
 v20 := Tryz.zeroValue20
 t37 := Tryz.underlying22
 a37 := Tryz.isAgg22
 z37 := Tryz.sizeOf22
 v37 := Tryz.zeroValue22
 t46 := Tryz.underlying99
 a46 := Tryz.isAgg99
 z46 := Tryz.sizeOf99
 v46 := Tryz.zeroValue99
 t51 := Tryz.underlying152
 a51 := Tryz.isAgg152
 z51 := Tryz.sizeOf152
 v51 := Tryz.zeroValue152
 t53 := Tryz.underlying40
 a53 := Tryz.isAgg40
 z53 := Tryz.sizeOf40
 v53 := Tryz.zeroValue40
 t171 := Tryz.underlying137
 a171 := Tryz.isAgg137
 z171 := Tryz.sizeOf137
 v171 := Tryz.zeroValue137
 t173 := Tryz.underlying140
 a173 := Tryz.isAgg140
 z173 := Tryz.sizeOf140
 v173 := Tryz.zeroValue140
 t212 := Tryz.underlying161
 a212 := Tryz.isAgg161
 z212 := Tryz.sizeOf161
 v212 := Tryz.zeroValue161
 t213 := Tryz.underlying162
 a213 := Tryz.isAgg162
 z213 := Tryz.sizeOf162
 t232 := Tryz.underlying173
 a232 := Tryz.isAgg173
 z232 := Tryz.sizeOf173
 v232 := Tryz.zeroValue173
 t233 := Tryz.underlying174
 a233 := Tryz.isAgg174
 z233 := Tryz.sizeOf174
 v233 := Tryz.zeroValue174
 g17 := by kernel_rfl
 g18 := by kernel_rfl
 g19 := by kernel_rfl }
open Go.RowKit Go.Sort Go.Lib in
theorem Tryz.strconv_Itoa_small (i : Nat) (hi : i < 100) (w : World) :
 Calls Tryz.prog 61 #[.int .i64 i] w fun e w' => e = .returned (.string ⟨(Lib.decDigits i).toArray⟩) ∧ w' = w := Any.strconv_Itoa_small Tryz.lays171 i hi w
def Tryz.lays143_ren : Go.Shelf.Ren := ⟨fun | 143 => 68 | 219 => 87 | 217 => 77 | 225 => 98 | 224 => 99 | 267 => 100 | 266 => 92 | 314 => 118 | n => n, fun | 9 => 9 | 3 => 3 | 4 => 4 | 5 => 5 | 46 => 99 | 146 => 157 | 51 => 152 | n => n, fun | 1 => 0 | n => n⟩
theorem Tryz.lays143 : Go.Proofs.Lays.n143 Tryz.prog Tryz.lays143_ren := {
 mixed := by kernel_rfl
 f143 := Tryz.func68.trans (congrArg some (by kernel_rfl))
 f217 := Tryz.func77.trans (congrArg some (by kernel_rfl))
 f219 := Tryz.func87.trans (congrArg some (by kernel_rfl))
 f224 := Tryz.func99.trans (congrArg some (by kernel_rfl))
 f225 := Tryz.func98.trans (congrArg some (by kernel_rfl))
 f266 := Tryz.func92.trans (congrArg some (by kernel_rfl))
 f267 := Tryz.func100.trans (congrArg some (by kernel_rfl))
 f314 := Tryz.func118.trans (congrArg some (by kernel_rfl))
 t3 := Tryz.underlying3
 a3 := Tryz.isAgg3
 z3 := Tryz.sizeOf3
 v3 := Tryz.zeroValue3
 t4 := Tryz.underlying4
 a4 := Tryz.isAgg4
 z4 := Tryz.sizeOf4
 v4 := Tryz.zeroValue4
 t5 := Tryz.underlying5
 a5 := Tryz.isAgg5
 z5 := Tryz.sizeOf5
 v5 := Tryz.zeroValue5
 t9 := Tryz.underlying9
 a9 := Tryz.isAgg9
 z9 := Tryz.sizeOf9
 v9 := Tryz.zeroValue9
 t46 := Tryz.underlying99
 a46 := Tryz.isAgg99
 z46 := Tryz.sizeOf99
 v46 := Tryz.zeroValue99
 t51 := Tryz.underlying152
 a51 := Tryz.isAgg152
 z51 := Tryz.sizeOf152
 v51 := Tryz.zeroValue152
 t146 := Tryz.underlying157
 a146 := Tryz.isAgg157
 z146 := Tryz.sizeOf157
 v146 := Tryz.zeroValue157
 g1 := by kernel_rfl }
open Go.RowKit Go.Lib in
theorem Tryz.strings_Index_one (s : ByteArray) (c : UInt8) (w : World) :
 Calls Tryz.prog 68 #[.string s, .string ⟨#[c]⟩] w fun e w' => e = .returned (.int .i64 (Lib.indexByte s.data.toList c)) ∧ w' = w := Any.strings_Index_one Tryz.lays143 s c w
def Tryz.lays138_ren : Go.Shelf.Ren := ⟨fun | 138 => 67 | 195 => 84 | 218 => 86 | 143 => 68 | 219 => 87 | 217 => 77 | 225 => 98 | 224 => 99 | 267 => 100 | 266 => 92 | 314 => 118 | n => n, fun | 9 => 9 | 3 => 3 | 4 => 4 | 5 => 5 | 0 => 0 | 46 => 99 | 146 => 157 | 51 => 152 | n => n, fun | 1 => 0 | n => n⟩
theorem Tryz.lays138 : Go.Proofs.Lays.n138 Tryz.prog Tryz.lays138_ren := {
 mixed := by kernel_rfl
 f138 := Tryz.func67.trans (congrArg some (by kernel_rfl))
 f143 := Tryz.func68.trans (congrArg some (by kernel_rfl))
 f195 := Tryz.func84.trans (congrArg some (by kernel_rfl))
 f217 := Tryz.func77.trans (congrArg some (by kernel_rfl))
 f218 := Tryz.func86.trans (congrArg some (by kernel_rfl))
 f219 := Tryz.func87.trans (congrArg some (by kernel_rfl))
 f224 := Tryz.func99.trans (congrArg some (by kernel_rfl))
 f225 := Tryz.func98.trans (congrArg some (by kernel_rfl))
 f266 := Tryz.func92.trans (congrArg some (by kernel_rfl))
 f267 := Tryz.func100.trans (congrArg some (by kernel_rfl))
 f314 := Tryz.func118.trans (congrArg some (by kernel_rfl))
 t0 := Tryz.underlying0
 a0 := Tryz.isAgg0
 z0 := Tryz.sizeOf0
 v0 := Tryz.zeroValue0
 t3 := Tryz.underlying3
 a3 := Tryz.isAgg3
 z3 := Tryz.sizeOf3
 v3 := Tryz.zeroValue3
 t4 := Tryz.underlying4
 a4 := Tryz.isAgg4
 z4 := Tryz.sizeOf4
 v4 := Tryz.zeroValue4
 t5 := Tryz.underlying5
 a5 := Tryz.isAgg5
 z5 := Tryz.sizeOf5
 v5 := Tryz.zeroValue5
 t9 := Tryz.underlying9
 a9 := Tryz.isAgg9
 z9 := Tryz.sizeOf9
 v9 := Tryz.zeroValue9
 t46 := Tryz.underlying99
 a46 := Tryz.isAgg99
 z46 := Tryz.sizeOf99
 v46 := Tryz.zeroValue99
 t51 := Tryz.underlying152
 a51 := Tryz.isAgg152
 z51 := Tryz.sizeOf152
 v51 := Tryz.zeroValue152
 t146 := Tryz.underlying157
 a146 := Tryz.isAgg157
 z146 := Tryz.sizeOf157
 v146 := Tryz.zeroValue157
 g1 := by kernel_rfl }
open Go.RowKit Go.Lib in
theorem Tryz.strings_Count_one (s : ByteArray) (c : UInt8) (w : World) :
 Calls Tryz.prog 67 #[.string s, .string ⟨#[c]⟩] w fun e w' => e = .returned (.int .i64 (Lib.countByte s.data.toList c)) ∧ w' = w := Any.strings_Count_one Tryz.lays138 s c w
def Tryz.lays227_ren : Go.Shelf.Ren := ⟨fun | 227 => 72 | n => n, fun | 9 => 9 | 116 => 117 | 4 => 4 | 0 => 0 | 3 => 3 | 5 => 5 | n => n, fun | n => n⟩
theorem Tryz.lays227 : Go.Proofs.Lays.n227 Tryz.prog Tryz.lays227_ren := {
 mixed := by kernel_rfl
 f227 := Tryz.func72.trans (congrArg some (by kernel_rfl))
 t0 := Tryz.underlying0
 a0 := Tryz.isAgg0
 z0 := Tryz.sizeOf0
 v0 := Tryz.zeroValue0
 t3 := Tryz.underlying3
 a3 := Tryz.isAgg3
 z3 := Tryz.sizeOf3
 v3 := Tryz.zeroValue3
 t4 := Tryz.underlying4
 a4 := Tryz.isAgg4
 z4 := Tryz.sizeOf4
 v4 := Tryz.zeroValue4
 t5 := Tryz.underlying5
 a5 := Tryz.isAgg5
 z5 := Tryz.sizeOf5
 v5 := Tryz.zeroValue5
 t9 := Tryz.underlying9
 a9 := Tryz.isAgg9
 z9 := Tryz.sizeOf9
 v9 := Tryz.zeroValue9
 t116 := Tryz.underlying117
 a116 := Tryz.isAgg117
 z116 := Tryz.sizeOf117 }
open Go.RowKit Go.Lib in
theorem Tryz.strings_makeASCIISet (hv116 : ∀ w, (zeroValue 117).run Tryz.prog w = .ok (.agg (Array.replicate 256 (.bool false))) w) (chars : ByteArray) (w : World) (hs : chars.size < 4294967281) (hascii : ∀ (j : Nat) b, chars.data.toList[j]? = some b → b.toNat < 128) :
 Calls Tryz.prog 72 #[.string chars] w fun e w' => e = .returned (.tuple #[.agg (Lib.setCells chars.data.toList), .bool true]) ∧ w' = w.alloc (.cells (Lib.setCells chars.data.toList) 117) := Any.strings_makeASCIISet Tryz.lays227 hv116 (by kernel_rfl) chars w hs hascii
def Tryz.lays228_ren : Go.Shelf.Ren := ⟨fun | 228 => 89 | n => n, fun | 124 => 121 | 5 => 5 | 4 => 4 | 0 => 0 | 116 => 117 | n => n, fun | n => n⟩
theorem Tryz.lays228 : Go.Proofs.Lays.n228 Tryz.prog Tryz.lays228_ren := {
 mixed := by kernel_rfl
 f228 := Tryz.func89.trans (congrArg some (by kernel_rfl))
 t0 := Tryz.underlying0
 a0 := Tryz.isAgg0
 z0 := Tryz.sizeOf0
 v0 := Tryz.zeroValue0
 t4 := Tryz.underlying4
 a4 := Tryz.isAgg4
 z4 := Tryz.sizeOf4
 v4 := Tryz.zeroValue4
 t5 := Tryz.underlying5
 a5 := Tryz.isAgg5
 z5 := Tryz.sizeOf5
 v5 := Tryz.zeroValue5
 t116 := Tryz.underlying117
 a116 := Tryz.isAgg117
 z116 := Tryz.sizeOf117
 t124 := Tryz.underlying121
 a124 := Tryz.isAgg121
 z124 := Tryz.sizeOf121
 v124 := Tryz.zeroValue121 }
open Go.RowKit Go.Lib in
theorem Tryz.asciiSet_contains (b : Nat) (x : UInt8) (v : Bool) (w : World) (hc : w.cell? ⟨b, x.toNat, none⟩ = some (.bool v)) :
 Calls Tryz.prog 89 #[.pointer (some ⟨b, 0, none⟩), .int .u8 x.toNat] w fun e w' => e = .returned (.bool v) ∧ w' = w := Any.asciiSet_contains Tryz.lays228 b x v w hc
end Go.Proofs
namespace Go.Proofs.YtjlmpghcjgbfjaaGreatDoor.Cw
open Go Go.RowKit Go.Proofs Ex Cd
set_option maxRecDepth 100000
/-- what an op has, as it lies in memory -/
def cellsI (x : Info) : List Value := [str x.1, int x.2.1, int x.2.2.1, .int .u64 x.2.2.2.1, .bool x.2.2.2.2.1, int x.2.2.2.2.2]
def noneI : Info := ([], 0, 0, 0, false, 0)
theorem fam1_ret (n : Int) (w : World) : Rets Tryz.prog 57 [int n] w fun v w' => v = .agg [str [], int 0, int 1, .int .u64 3, .bool true, int n].toArray ∧ Below w.heap.size w w' := by
 refine enter Tryz.func57 rfl (Nat.le_of_ble_eq_true rfl) ?_
 intro a h; rw [Tryz.ntmps57] at h
 have hF := Fd.wide; have H := St.begin w
 repeat refine cS0 ?_
 refine cR0 ?_
 refine i_alloc hF h H rfl (by decide) ?_
 clear h H; intro a w b2 _ h H
 first | refine cEt0 ?_ | refine cE0 ?_
 repeat refine cS0 ?_
 refine cR0 ?_
 refine sM0 hF h rfl rfl (by decide) ?_
 clear h; intro a h
 refine i_build hF h rfl rfl rfl (by decide) ?_
 clear h; intro a h
 refine j_storeA hF h H rfl rfl rfl rfl rfl (by repeat (first | exact Upd.here | apply Upd.there | apply Upd.app)) (by repeat (first | exact PutAt.nil | apply PutAt.put | apply PutAt.skip)) ?_
 clear H; intro w H
 first | refine cEt0 ?_ | refine cE0 ?_
 refine c_ret ?_
 with_reducible repeat (first | refine xa0 ?_ | refine xb0 ?_ | refine xc0 ?_ | refine xd0 ?_ | refine xe0 (by decide) ?_ | refine xf0 ?_ | refine xg0 ?_ | refine xh0 ?_ | refine xi0 ?_)
 refine leave (fn := Tryz.f57) h Tryz.results57 (.ownA rfl H (by repeat (first | exact mh1 | apply mt1 | apply ma1)) (by repeat (first | exact Seg.nil | apply Seg.take | apply Seg.skip)) (.nil)) ?_
 exact ⟨_, rfl, rfl, H.done⟩
theorem fam2_ret (n : Int) (hn : 0 ≤ n ∧ n ≤ 100) (w : World) : Rets Tryz.prog 58 [int n] w fun v w' => v = .agg [str [], int n, int (n + 1), .int .u64 3, .bool true, int 0].toArray ∧ Below w.heap.size w w' := by
 refine enter Tryz.func58 rfl (Nat.le_of_ble_eq_true rfl) ?_
 intro a h; rw [Tryz.ntmps58] at h
 have hF := Fd.wide; have H := St.begin w
 repeat refine cS0 ?_
 refine cR0 ?_
 refine i_alloc hF h H rfl (by decide) ?_
 clear h H; intro a w b2 _ h H
 first | refine cEt0 ?_ | refine cE0 ?_
 repeat refine cS0 ?_
 refine cR0 ?_
 refine sM0 hF h rfl rfl (by decide) ?_
 clear h; intro a h
 refine sM0 hF h rfl rfl (by decide) ?_
 clear h; intro a h
 refine i_ar64 hF h rfl rfl rfl rfl (by omega) (by omega) (by decide) ?_
 clear h; intro a h
 refine i_build hF h rfl rfl rfl (by decide) ?_
 clear h; intro a h
 refine j_storeA hF h H rfl rfl rfl rfl rfl (by repeat (first | exact Upd.here | apply Upd.there | apply Upd.app)) (by repeat (first | exact PutAt.nil | apply PutAt.put | apply PutAt.skip)) ?_
 clear H; intro w H
 first | refine cEt0 ?_ | refine cE0 ?_
 refine c_ret ?_
 with_reducible repeat (first | refine xa0 ?_ | refine xb0 ?_ | refine xc0 ?_ | refine xd0 ?_ | refine xe0 (by decide) ?_ | refine xf0 ?_ | refine xg0 ?_ | refine xh0 ?_ | refine xi0 ?_)
 refine leave (fn := Tryz.f58) h Tryz.results58 (.ownA rfl H (by repeat (first | exact mh1 | apply mt1 | apply ma1)) (by repeat (first | exact Seg.nil | apply Seg.take | apply Seg.skip)) (.nil)) ?_
 exact ⟨_, rfl, rfl, H.done⟩
theorem fam3_ret (n : Int) (hn : 0 ≤ n ∧ n ≤ 100) (w : World) : Rets Tryz.prog 59 [int n] w fun v w' => v = .agg [str [], int (n + 1), int (n + 1), .int .u64 3, .bool true, int 0].toArray ∧ Below w.heap.size w w' := by
 refine enter Tryz.func59 rfl (Nat.le_of_ble_eq_true rfl) ?_
 intro a h; rw [Tryz.ntmps59] at h
 have hF := Fd.wide; have H := St.begin w
 repeat refine cS0 ?_
 refine cR0 ?_
 refine i_alloc hF h H rfl (by decide) ?_
 clear h H; intro a w b2 _ h H
 first | refine cEt0 ?_ | refine cE0 ?_
 repeat refine cS0 ?_
 refine cR0 ?_
 refine sM0 hF h rfl rfl (by decide) ?_
 clear h; intro a h
 refine i_ar64 hF h rfl rfl rfl rfl (by omega) (by omega) (by decide) ?_
 clear h; intro a h
 refine sM0 hF h rfl rfl (by decide) ?_
 clear h; intro a h
 refine i_ar64 hF h rfl rfl rfl rfl (by omega) (by omega) (by decide) ?_
 clear h; intro a h
 refine i_build hF h rfl rfl rfl (by decide) ?_
 clear h; intro a h
 refine j_storeA hF h H rfl rfl rfl rfl rfl (by repeat (first | exact Upd.here | apply Upd.there | apply Upd.app)) (by repeat (first | exact PutAt.nil | apply PutAt.put | apply PutAt.skip)) ?_
 clear H; intro w H
 first | refine cEt0 ?_ | refine cE0 ?_
 refine c_ret ?_
 with_reducible repeat (first | refine xa0 ?_ | refine xb0 ?_ | refine xc0 ?_ | refine xd0 ?_ | refine xe0 (by decide) ?_ | refine xf0 ?_ | refine xg0 ?_ | refine xh0 ?_ | refine xi0 ?_)
 refine leave (fn := Tryz.f59) h Tryz.results59 (.ownA rfl H (by repeat (first | exact mh1 | apply mt1 | apply ma1)) (by repeat (first | exact Seg.nil | apply Seg.take | apply Seg.skip)) (.nil)) ?_
 exact ⟨_, rfl, rfl, H.done⟩
theorem fam4_ret (n : Int) (hn : 0 ≤ n ∧ n ≤ 100) (w : World) : Rets Tryz.prog 60 [int n] w fun v w' => v = .agg [str [], int (n + 1), int 0, .int .u64 (375 * n), .bool false, int 0].toArray ∧ Below w.heap.size w w' := by
 refine enter Tryz.func60 rfl (Nat.le_of_ble_eq_true rfl) ?_
 intro a h; rw [Tryz.ntmps60] at h
 have hF := Fd.wide; have H := St.begin w
 repeat refine cS0 ?_
 refine cR0 ?_
 refine i_alloc hF h H rfl (by decide) ?_
 clear h H; intro a w b2 _ h H
 first | refine cEt0 ?_ | refine cE0 ?_
 repeat refine cS0 ?_
 refine cR0 ?_
 refine sM0 hF h rfl rfl (by decide) ?_
 clear h; intro a h
 refine i_ar64 hF h rfl rfl rfl rfl (by omega) (by omega) (by decide) ?_
 clear h; intro a h
 refine sM0 hF h rfl rfl (by decide) ?_
 clear h; intro a h
 refine i_ar64 hF h rfl rfl rfl rfl (by omega) (by omega) (by decide) ?_
 clear h; intro a h
 refine i_conv hF h rfl rfl (wrapTo _ _ (by simp only [IntKind.min, IntKind.signed, IntKind.bits, Bool.false_eq_true, if_false]; omega) (by simp only [IntKind.max, IntKind.signed, IntKind.bits, Bool.false_eq_true, if_false]; omega)) (by decide) ?_
 clear h; intro a h
 refine i_build hF h rfl rfl rfl (by decide) ?_
 clear h; intro a h
 refine j_storeA hF h H rfl rfl rfl rfl rfl (by repeat (first | exact Upd.here | apply Upd.there | apply Upd.app)) (by repeat (first | exact PutAt.nil | apply PutAt.put | apply PutAt.skip)) ?_
 clear H; intro w H
 first | refine cEt0 ?_ | refine cE0 ?_
 refine c_ret ?_
 with_reducible repeat (first | refine xa0 ?_ | refine xb0 ?_ | refine xc0 ?_ | refine xd0 ?_ | refine xe0 (by decide) ?_ | refine xf0 ?_ | refine xg0 ?_ | refine xh0 ?_ | refine xi0 ?_)
 refine leave (fn := Tryz.f60) h Tryz.results60 (.ownA rfl H (by repeat (first | exact mh1 | apply mt1 | apply ma1)) (by repeat (first | exact Seg.nil | apply Seg.take | apply Seg.skip)) (.nil)) ?_
 exact ⟨_, rfl, rfl, H.done⟩
theorem dec_eq (n : Nat) (h : n < 100) : Lib.decDigits n = dec n := by
 have := upto (fun n => Lib.decDigits n == dec n) 100 (by decide +kernel) n h
 exact eq_of_beq this
theorem itoa_ret (z : Int) (hz : 0 ≤ z ∧ z < 100) (w : World) : Rets Tryz.prog 61 [int z] w fun v w' => v = str (dec z.toNat) ∧ Below w.heap.size w w' := by
 have := Tryz.strconv_Itoa_small z.toNat (by omega) w
 rw [show ((z.toNat : Nat) : Int) = z by omega] at this
 refine Calls.mono this ?_
 rintro e w' ⟨rfl, rfl⟩
 exact ⟨_, rfl, by rw [dec_eq _ (by omega)], Below.refl _ _⟩
theorem dec_len (n : Nat) : (dec n).length ≤ 2 := by unfold dec; split <;> simp
def famName (nm : List UInt8) (n : Nat) : List UInt8 := nm ++ (if nm = [76, 79, 71] then dec n else dec (n + 1))
theorem family_ret (g : Nat) [Ent Tryz.prog g] (i o ga s : Int) (q : Bool) (nm : List UInt8) (n : Nat) (hn : n < 32) (hnl : nm.length ≤ 100) (fr ma : Value) (_ : fr.oneCell' = true) (_ : ma.oneCell' = true)
 (hC : ∀ w, Rets Tryz.prog g [int ((n : Int) + 1)] w fun v w' => v = .agg [str [], int i, int o, .int .u64 ga, .bool q, int s].toArray ∧ Below w.heap.size w w') (w : World) :
 Rets Tryz.prog 40 [.agg [fr, ma, .func (.func g) #[] #[]].toArray, str nm, int n] w fun v w' => v = .agg [str (famName nm n), int i, int o, .int .u64 ga, .bool q, int s].toArray ∧ Below w.heap.size w w' := by
 have hd1 := dec_len ((n : Int) + 1).toNat
 have hd2 := dec_len (n : Int).toNat
 by_cases hl : nm = [76, 79, 71]
 · subst hl
   refine enter Tryz.func40 rfl (Nat.le_of_ble_eq_true rfl) ?_
   intro a h; rw [Tryz.ntmps40] at h
   have hF := Fd.wide; have H := St.begin w
   repeat refine cS0 ?_
   refine cR0 ?_
   refine i_boxA hF h H rfl rfl (by decide) ?_
   clear h H; intro a w b3 _ h H
   refine i_alloc hF h H rfl (by decide) ?_
   clear h H; intro a w b6 _ h H
   first | refine cEt0 ?_ | refine cE0 ?_
   repeat refine cS0 ?_
   refine cR0 ?_
   refine iFa0 hF h rfl rfl rfl (by decide) ?_
   clear h; intro a h; try simp only [Nat.reduceAdd] at h
   refine iL0 hF h H rfl rfl (by repeat (first | exact mh1 | apply mt1 | apply ma1)) (by exact rfl) (by decide) ?_
   clear h; intro a h
   refine sM0 hF h rfl rfl (by decide) ?_
   clear h; intro a h
   refine i_ar64 hF h rfl rfl rfl rfl (by omega) (by omega) (by decide) ?_
   clear h; intro a h
   refine j_callV hF h rfl rfl (hC _) rfl rfl (by decide) ?_
   clear h; rintro _ w ⟨rfl, hb⟩ a h; replace H := H.call hb; clear hb
   refine i_alloc hF h H rfl (by decide) ?_
   clear h H; intro a w b7 _ h H
   refine j_storeA hF h H rfl rfl rfl rfl rfl (by repeat (first | exact Upd.here | apply Upd.there | apply Upd.app)) (by repeat (first | exact PutAt.nil | apply PutAt.put | apply PutAt.skip)) ?_
   clear H; intro w H
   first | refine cEt0 ?_ | refine cE0 ?_
   repeat refine cS0 ?_
   refine cR0 ?_
   refine sM0 hF h rfl rfl (by decide) ?_
   clear h; intro a h
   refine sM0 hF h rfl rfl (by decide) ?_
   clear h; intro a h
   refine i_ar64 hF h rfl rfl rfl rfl (by omega) (by omega) (by decide) ?_
   clear h; intro a h
   refine i_call hF h rfl (itoa_ret _ (by omega) _) rfl (by decide) ?_
   clear h; rintro _ w ⟨rfl, hb⟩ a h; replace H := H.call hb; clear hb
   refine i_addS hF h rfl rfl rfl (by first | omega | (simp only [List.length_cons, List.length_nil, List.length_append]; omega)) (by decide) ?_
   clear h; intro a h
   refine iFa0 hF h rfl rfl rfl (by decide) ?_
   clear h; intro a h; try simp only [Nat.reduceAdd] at h
   refine jS0 hF h H rfl rfl rfl rfl (by repeat (first | exact Upd.here | apply Upd.there | apply Upd.app)) (by repeat (first | exact SetAt.zero | apply SetAt.succ)) ?_
   clear H; intro w H
   first | refine cEt0 ?_ | refine cE0 ?_
   repeat refine cS0 ?_
   refine cR0 ?_
   refine sM0 hF h rfl rfl (by decide) ?_
   clear h; intro a h
   refine i_eqS hF h rfl rfl rfl rfl (by decide) ?_
   clear h; intro a h
   first | refine cEt0 ?_ | refine cE0 ?_
   repeat refine cS0 ?_
   refine c_condT h rfl ?_
   repeat refine cS0 ?_
   refine cR0 ?_
   refine sM0 hF h rfl rfl (by decide) ?_
   clear h; intro a h
   refine sM0 hF h rfl rfl (by decide) ?_
   clear h; intro a h
   refine i_call hF h rfl (itoa_ret _ (by omega) _) rfl (by decide) ?_
   clear h; rintro _ w ⟨rfl, hb⟩ a h; replace H := H.call hb; clear hb
   refine i_addS hF h rfl rfl rfl (by first | omega | (simp only [List.length_cons, List.length_nil, List.length_append]; omega)) (by decide) ?_
   clear h; intro a h
   refine iFa0 hF h rfl rfl rfl (by decide) ?_
   clear h; intro a h; try simp only [Nat.reduceAdd] at h
   refine jS0 hF h H rfl rfl rfl rfl (by repeat (first | exact Upd.here | apply Upd.there | apply Upd.app)) (by repeat (first | exact SetAt.zero | apply SetAt.succ)) ?_
   clear H; intro w H
   first | refine cEt0 ?_ | refine cE0 ?_
   repeat refine cS0 ?_
   refine cR0 ?_
   refine j_loadA hF h H rfl rfl (by repeat (first | exact mh1 | apply mt1 | apply ma1)) (by repeat (first | exact Seg.nil | apply Seg.take | apply Seg.skip)) (by decide) ?_
   clear h; intro a h
   refine j_storeA hF h H rfl rfl rfl rfl rfl (by repeat (first | exact Upd.here | apply Upd.there | apply Upd.app)) (by repeat (first | exact PutAt.nil | apply PutAt.put | apply PutAt.skip)) ?_
   clear H; intro w H
   first | refine cEt0 ?_ | refine cE0 ?_
   refine c_ret ?_
   with_reducible repeat (first | refine xa0 ?_ | refine xb0 ?_ | refine xc0 ?_ | refine xd0 ?_ | refine xe0 (by decide) ?_ | refine xf0 ?_ | refine xg0 ?_ | refine xh0 ?_ | refine xi0 ?_)
   refine leave (fn := Tryz.f40) h Tryz.results40 (.ownA rfl H (by repeat (first | exact mh1 | apply mt1 | apply ma1)) (by repeat (first | exact Seg.nil | apply Seg.take | apply Seg.skip)) (.nil)) ?_
   exact ⟨_, rfl, (by rw [show famName [76, 79, 71] n = [76, 79, 71] ++ dec ((n : Int)).toNat from rfl]; try rfl), H.done⟩
 · refine enter Tryz.func40 rfl (Nat.le_of_ble_eq_true rfl) ?_
   intro a h; rw [Tryz.ntmps40] at h
   have hF := Fd.wide; have H := St.begin w
   repeat refine cS0 ?_
   refine cR0 ?_
   refine i_boxA hF h H rfl rfl (by decide) ?_
   clear h H; intro a w b3 _ h H
   refine i_alloc hF h H rfl (by decide) ?_
   clear h H; intro a w b6 _ h H
   first | refine cEt0 ?_ | refine cE0 ?_
   repeat refine cS0 ?_
   refine cR0 ?_
   refine iFa0 hF h rfl rfl rfl (by decide) ?_
   clear h; intro a h; try simp only [Nat.reduceAdd] at h
   refine iL0 hF h H rfl rfl (by repeat (first | exact mh1 | apply mt1 | apply ma1)) (by exact rfl) (by decide) ?_
   clear h; intro a h
   refine sM0 hF h rfl rfl (by decide) ?_
   clear h; intro a h
   refine i_ar64 hF h rfl rfl rfl rfl (by omega) (by omega) (by decide) ?_
   clear h; intro a h
   refine j_callV hF h rfl rfl (hC _) rfl rfl (by decide) ?_
   clear h; rintro _ w ⟨rfl, hb⟩ a h; replace H := H.call hb; clear hb
   refine i_alloc hF h H rfl (by decide) ?_
   clear h H; intro a w b7 _ h H
   refine j_storeA hF h H rfl rfl rfl rfl rfl (by repeat (first | exact Upd.here | apply Upd.there | apply Upd.app)) (by repeat (first | exact PutAt.nil | apply PutAt.put | apply PutAt.skip)) ?_
   clear H; intro w H
   first | refine cEt0 ?_ | refine cE0 ?_
   repeat refine cS0 ?_
   refine cR0 ?_
   refine sM0 hF h rfl rfl (by decide) ?_
   clear h; intro a h
   refine sM0 hF h rfl rfl (by decide) ?_
   clear h; intro a h
   refine i_ar64 hF h rfl rfl rfl rfl (by omega) (by omega) (by decide) ?_
   clear h; intro a h
   refine i_call hF h rfl (itoa_ret _ (by omega) _) rfl (by decide) ?_
   clear h; rintro _ w ⟨rfl, hb⟩ a h; replace H := H.call hb; clear hb
   refine i_addS hF h rfl rfl rfl (by first | omega | (simp only [List.length_cons, List.length_nil, List.length_append]; omega)) (by decide) ?_
   clear h; intro a h
   refine iFa0 hF h rfl rfl rfl (by decide) ?_
   clear h; intro a h; try simp only [Nat.reduceAdd] at h
   refine jS0 hF h H rfl rfl rfl rfl (by repeat (first | exact Upd.here | apply Upd.there | apply Upd.app)) (by repeat (first | exact SetAt.zero | apply SetAt.succ)) ?_
   clear H; intro w H
   first | refine cEt0 ?_ | refine cE0 ?_
   repeat refine cS0 ?_
   refine cR0 ?_
   refine sM0 hF h rfl rfl (by decide) ?_
   clear h; intro a h
   refine i_eqS hF h rfl rfl rfl (beq_eq_false_iff_ne.2 hl) (by decide) ?_
   clear h; intro a h
   refine cEt0 ?_
   repeat refine cS0 ?_
   refine c_condF h rfl ?_
   first | refine cKt0 ?_ | refine cK0 ?_
   repeat refine cS0 ?_
   refine cR0 ?_
   refine j_loadA hF h H rfl rfl (by repeat (first | exact mh1 | apply mt1 | apply ma1)) (by repeat (first | exact Seg.nil | apply Seg.take | apply Seg.skip)) (by decide) ?_
   clear h; intro a h
   refine j_storeA hF h H rfl rfl rfl rfl rfl (by repeat (first | exact Upd.here | apply Upd.there | apply Upd.app)) (by repeat (first | exact PutAt.nil | apply PutAt.put | apply PutAt.skip)) ?_
   clear H; intro w H
   first | refine cEt0 ?_ | refine cE0 ?_
   refine c_ret ?_
   with_reducible repeat (first | refine xa0 ?_ | refine xb0 ?_ | refine xc0 ?_ | refine xd0 ?_ | refine xe0 (by decide) ?_ | refine xf0 ?_ | refine xg0 ?_ | refine xh0 ?_ | refine xi0 ?_)
   refine leave (fn := Tryz.f40) h Tryz.results40 (.ownA rfl H (by repeat (first | exact mh1 | apply mt1 | apply ma1)) (by repeat (first | exact Seg.nil | apply Seg.take | apply Seg.skip)) (.nil)) ?_
   have e2 : famName nm n = nm ++ dec ((n : Int) + 1).toNat := by rw [famName, if_neg hl, show ((n : Int) + 1).toNat = n + 1 by omega]
   exact ⟨_, rfl, (by rw [e2]; try rfl), H.done⟩
end Go.Proofs.YtjlmpghcjgbfjaaGreatDoor.Cw
namespace Go.Proofs.YtjlmpghcjgbfjaaGreatDoor.Cw
open Go Go.RowKit Go.Proofs Ex Cd
set_option maxRecDepth 100000
def famV (fr ma g : Nat) : Value := .agg [int fr, int ma, .func (.func g) #[] #[]].toArray
def famM : List (List UInt8 × Value × Nat) := [([80, 85, 83, 72], famV 96 32 57, 0), ([68, 85, 80], famV 128 16 58, 1), ([83, 87, 65, 80], famV 144 16 59, 2), ([76, 79, 71], famV 160 5 60, 3)]
theorem famM_ok : MapOk famM 4 := ⟨by decide, by decide, by decide⟩
theorem families_ret (w : World) : Rets Tryz.prog 39 [] w fun v w' => ∃ b, v = .map (some b) ∧ w.heap.size ≤ b ∧ w'.heap[b]? = some (mapObj str famM 4) ∧ Below w.heap.size w w' := by
 refine enter Tryz.func39 rfl (Nat.le_of_ble_eq_true rfl) ?_
 intro a h; rw [Tryz.ntmps39] at h
 have hF := Fd.wide; have H := St.begin w
 repeat refine cS0 ?_
 refine cR0 ?_
 refine sA0 hF h rfl rfl (by decide) ?_
 clear h; intro a h
 first | refine cEt0 ?_ | refine cE0 ?_
 repeat refine cS0 ?_
 refine cR0 ?_
 refine i_makeMap (enc := str) hF h H rfl (by decide) ?_
 clear h H; intro a w b1 _ h H
 refine i_build hF h rfl rfl rfl (by decide) ?_
 clear h; intro a h
 refine j_mapNew (enc := str) hF h H rfl rfl rfl rfl (by repeat (first | exact Upd.here | apply Upd.there | apply Upd.app)) (by first | rfl | assumption) (Or.inr rfl) ?_
 clear H; intro w H
 refine i_build hF h rfl rfl rfl (by decide) ?_
 clear h; intro a h
 refine j_mapNew (enc := str) hF h H rfl rfl rfl rfl (by repeat (first | exact Upd.here | apply Upd.there | apply Upd.app)) (by first | rfl | assumption) (Or.inr rfl) ?_
 clear H; intro w H
 refine i_build hF h rfl rfl rfl (by decide) ?_
 clear h; intro a h
 refine j_mapNew (enc := str) hF h H rfl rfl rfl rfl (by repeat (first | exact Upd.here | apply Upd.there | apply Upd.app)) (by first | rfl | assumption) (Or.inr rfl) ?_
 clear H; intro w H
 refine i_build hF h rfl rfl rfl (by decide) ?_
 clear h; intro a h
 refine j_mapNew (enc := str) hF h H rfl rfl rfl rfl (by repeat (first | exact Upd.here | apply Upd.there | apply Upd.app)) (by first | rfl | assumption) (Or.inr rfl) ?_
 clear H; intro w H
 refine sM0 hF h rfl rfl (by decide) ?_
 clear h; intro a h
 refine sA0 hF h rfl rfl (by decide) ?_
 clear h; intro a h
 first | refine cEt0 ?_ | refine cE0 ?_
 refine c_ret ?_
 with_reducible repeat (first | refine xa0 ?_ | refine xb0 ?_ | refine xc0 ?_ | refine xd0 ?_ | refine xe0 (by decide) ?_ | refine xf0 ?_ | refine xg0 ?_ | refine xh0 ?_ | refine xi0 ?_)
 refine leave (fn := Tryz.f39) h Tryz.results39 (.tmp rfl (.nil)) ?_
 exact ⟨_, rfl, _, rfl, by omega, H.mem (by repeat (first | exact mh1 | apply mt1 | apply ma1)), H.done⟩
end Go.Proofs.YtjlmpghcjgbfjaaGreatDoor.Cw
namespace Go.Proofs.YtjlmpghcjgbfjaaGreatDoor.Cw
open Go Go.RowKit Go.Proofs Ex Cd
set_option maxRecDepth 100000
def rowCells (x : Nat × Info) : List Value := .int .u8 x.1 :: cellsI x.2
def aloneCells : List Value := alone.flatMap rowCells
theorem seg_all : ∀ l : List Value, Seg l 0 l.length l
 | [] => .nil
 | _ :: l => .take (seg_all l)
def zero78 : List Value := (List.replicate 75 [.int .u8 0, str [], .int .i64 0, .int .i64 0, .int .u64 0, .bool false, .int .i64 0]).flatten
instance : ZeroOf Tryz.prog 78 zero78 := ⟨.agg zero78.toArray, by kernel_rfl, by kernel_rfl⟩
set_option maxHeartbeats 4000000 in
theorem alone_ret (w : World) : Rets Tryz.prog 38 [] w fun v w' => v = .agg aloneCells.toArray ∧ Below w.heap.size w w' := by
 refine enter Tryz.func38 rfl (Nat.le_of_ble_eq_true rfl) ?_
 intro a h; rw [Tryz.ntmps38] at h
 have hF := Fd.wide; have H := St.begin w
 repeat refine cS0 ?_
 refine cR0 ?_
 refine i_alloc hF h H rfl (by decide) ?_
 clear h H; intro a w b0 _ h H
 first | refine cEt0 ?_ | refine cE0 ?_
 repeat refine cS0 ?_
 refine cR0 ?_
 refine i_build hF h rfl rfl rfl (by decide) ?_
 clear h; intro a h
 refine i_build hF h rfl rfl rfl (by decide) ?_
 clear h; intro a h
 refine i_build hF h rfl rfl rfl (by decide) ?_
 clear h; intro a h
 refine i_build hF h rfl rfl rfl (by decide) ?_
 clear h; intro a h
 refine i_build hF h rfl rfl rfl (by decide) ?_
 clear h; intro a h
 refine i_build hF h rfl rfl rfl (by decide) ?_
 clear h; intro a h
 refine i_build hF h rfl rfl rfl (by decide) ?_
 clear h; intro a h
 refine i_build hF h rfl rfl rfl (by decide) ?_
 clear h; intro a h
 refine i_build hF h rfl rfl rfl (by decide) ?_
 clear h; intro a h
 refine i_build hF h rfl rfl rfl (by decide) ?_
 clear h; intro a h
 refine i_build hF h rfl rfl rfl (by decide) ?_
 clear h; intro a h
 refine i_build hF h rfl rfl rfl (by decide) ?_
 clear h; intro a h
 refine i_build hF h rfl rfl rfl (by decide) ?_
 clear h; intro a h
 refine i_build hF h rfl rfl rfl (by decide) ?_
 clear h; intro a h
 refine i_build hF h rfl rfl rfl (by decide) ?_
 clear h; intro a h
 refine i_build hF h rfl rfl rfl (by decide) ?_
 clear h; intro a h
 refine i_build hF h rfl rfl rfl (by decide) ?_
 clear h; intro a h
 refine i_build hF h rfl rfl rfl (by decide) ?_
 clear h; intro a h
 refine i_build hF h rfl rfl rfl (by decide) ?_
 clear h; intro a h
 refine i_build hF h rfl rfl rfl (by decide) ?_
 clear h; intro a h
 refine i_build hF h rfl rfl rfl (by decide) ?_
 clear h; intro a h
 refine i_build hF h rfl rfl rfl (by decide) ?_
 clear h; intro a h
 refine i_build hF h rfl rfl rfl (by decide) ?_
 clear h; intro a h
 refine i_build hF h rfl rfl rfl (by decide) ?_
 clear h; intro a h
 refine i_build hF h rfl rfl rfl (by decide) ?_
 clear h; intro a h
 refine i_build hF h rfl rfl rfl (by decide) ?_
 clear h; intro a h
 refine i_build hF h rfl rfl rfl (by decide) ?_
 clear h; intro a h
 refine i_build hF h rfl rfl rfl (by decide) ?_
 clear h; intro a h
 refine i_build hF h rfl rfl rfl (by decide) ?_
 clear h; intro a h
 refine i_build hF h rfl rfl rfl (by decide) ?_
 clear h; intro a h
 refine i_build hF h rfl rfl rfl (by decide) ?_
 clear h; intro a h
 refine i_build hF h rfl rfl rfl (by decide) ?_
 clear h; intro a h
 refine i_build hF h rfl rfl rfl (by decide) ?_
 clear h; intro a h
 refine i_build hF h rfl rfl rfl (by decide) ?_
 clear h; intro a h
 refine i_build hF h rfl rfl rfl (by decide) ?_
 clear h; intro a h
 refine i_build hF h rfl rfl rfl (by decide) ?_
 clear h; intro a h
 refine i_build hF h rfl rfl rfl (by decide) ?_
 clear h; intro a h
 refine i_build hF h rfl rfl rfl (by decide) ?_
 clear h; intro a h
 refine i_build hF h rfl rfl rfl (by decide) ?_
 clear h; intro a h
 refine i_build hF h rfl rfl rfl (by decide) ?_
 clear h; intro a h
 refine i_build hF h rfl rfl rfl (by decide) ?_
 clear h; intro a h
 refine i_build hF h rfl rfl rfl (by decide) ?_
 clear h; intro a h
 refine i_build hF h rfl rfl rfl (by decide) ?_
 clear h; intro a h
 refine i_build hF h rfl rfl rfl (by decide) ?_
 clear h; intro a h
 refine i_build hF h rfl rfl rfl (by decide) ?_
 clear h; intro a h
 refine i_build hF h rfl rfl rfl (by decide) ?_
 clear h; intro a h
 refine i_build hF h rfl rfl rfl (by decide) ?_
 clear h; intro a h
 refine i_build hF h rfl rfl rfl (by decide) ?_
 clear h; intro a h
 refine i_build hF h rfl rfl rfl (by decide) ?_
 clear h; intro a h
 refine i_build hF h rfl rfl rfl (by decide) ?_
 clear h; intro a h
 refine i_build hF h rfl rfl rfl (by decide) ?_
 clear h; intro a h
 refine i_build hF h rfl rfl rfl (by decide) ?_
 clear h; intro a h
 refine i_build hF h rfl rfl rfl (by decide) ?_
 clear h; intro a h
 refine i_build hF h rfl rfl rfl (by decide) ?_
 clear h; intro a h
 refine i_build hF h rfl rfl rfl (by decide) ?_
 clear h; intro a h
 refine i_build hF h rfl rfl rfl (by decide) ?_
 clear h; intro a h
 refine i_build hF h rfl rfl rfl (by decide) ?_
 clear h; intro a h
 refine i_build hF h rfl rfl rfl (by decide) ?_
 clear h; intro a h
 refine i_build hF h rfl rfl rfl (by decide) ?_
 clear h; intro a h
 refine i_build hF h rfl rfl rfl (by decide) ?_
 clear h; intro a h
 refine i_build hF h rfl rfl rfl (by decide) ?_
 clear h; intro a h
 refine i_build hF h rfl rfl rfl (by decide) ?_
 clear h; intro a h
 refine i_build hF h rfl rfl rfl (by decide) ?_
 clear h; intro a h
 refine i_build hF h rfl rfl rfl (by decide) ?_
 clear h; intro a h
 refine i_build hF h rfl rfl rfl (by decide) ?_
 clear h; intro a h
 refine i_build hF h rfl rfl rfl (by decide) ?_
 clear h; intro a h
 refine i_build hF h rfl rfl rfl (by decide) ?_
 clear h; intro a h
 refine i_build hF h rfl rfl rfl (by decide) ?_
 clear h; intro a h
 refine i_build hF h rfl rfl rfl (by decide) ?_
 clear h; intro a h
 refine i_build hF h rfl rfl rfl (by decide) ?_
 clear h; intro a h
 refine i_build hF h rfl rfl rfl (by decide) ?_
 clear h; intro a h
 refine i_build hF h rfl rfl rfl (by decide) ?_
 clear h; intro a h
 refine i_build hF h rfl rfl rfl (by decide) ?_
 clear h; intro a h
 refine i_build hF h rfl rfl rfl (by decide) ?_
 clear h; intro a h
 refine i_build hF h rfl rfl rfl (by decide) ?_
 clear h; intro a h
 refine i_build hF h rfl rfl rfl (by decide) ?_
 clear h; intro a h
 refine i_build hF h rfl rfl rfl (by decide) ?_
 clear h; intro a h
 refine i_build hF h rfl rfl rfl (by decide) ?_
 clear h; intro a h
 refine i_build hF h rfl rfl rfl (by decide) ?_
 clear h; intro a h
 refine i_build hF h rfl rfl rfl (by decide) ?_
 clear h; intro a h
 refine i_build hF h rfl rfl rfl (by decide) ?_
 clear h; intro a h
 refine i_build hF h rfl rfl rfl (by decide) ?_
 clear h; intro a h
 refine i_build hF h rfl rfl rfl (by decide) ?_
 clear h; intro a h
 refine i_build hF h rfl rfl rfl (by decide) ?_
 clear h; intro a h
 refine i_build hF h rfl rfl rfl (by decide) ?_
 clear h; intro a h
 refine i_build hF h rfl rfl rfl (by decide) ?_
 clear h; intro a h
 refine i_build hF h rfl rfl rfl (by decide) ?_
 clear h; intro a h
 refine i_build hF h rfl rfl rfl (by decide) ?_
 clear h; intro a h
 refine i_build hF h rfl rfl rfl (by decide) ?_
 clear h; intro a h
 refine i_build hF h rfl rfl rfl (by decide) ?_
 clear h; intro a h
 refine i_build hF h rfl rfl rfl (by decide) ?_
 clear h; intro a h
 refine i_build hF h rfl rfl rfl (by decide) ?_
 clear h; intro a h
 refine i_build hF h rfl rfl rfl (by decide) ?_
 clear h; intro a h
 refine i_build hF h rfl rfl rfl (by decide) ?_
 clear h; intro a h
 refine i_build hF h rfl rfl rfl (by decide) ?_
 clear h; intro a h
 refine i_build hF h rfl rfl rfl (by decide) ?_
 clear h; intro a h
 refine i_build hF h rfl rfl rfl (by decide) ?_
 clear h; intro a h
 refine i_build hF h rfl rfl rfl (by decide) ?_
 clear h; intro a h
 refine i_build hF h rfl rfl rfl (by decide) ?_
 clear h; intro a h
 refine i_build hF h rfl rfl rfl (by decide) ?_
 clear h; intro a h
 refine i_build hF h rfl rfl rfl (by decide) ?_
 clear h; intro a h
 refine i_build hF h rfl rfl rfl (by decide) ?_
 clear h; intro a h
 refine i_build hF h rfl rfl rfl (by decide) ?_
 clear h; intro a h
 refine i_build hF h rfl rfl rfl (by decide) ?_
 clear h; intro a h
 refine i_build hF h rfl rfl rfl (by decide) ?_
 clear h; intro a h
 refine i_build hF h rfl rfl rfl (by decide) ?_
 clear h; intro a h
 refine i_build hF h rfl rfl rfl (by decide) ?_
 clear h; intro a h
 refine i_build hF h rfl rfl rfl (by decide) ?_
 clear h; intro a h
 refine i_build hF h rfl rfl rfl (by decide) ?_
 clear h; intro a h
 refine i_build hF h rfl rfl rfl (by decide) ?_
 clear h; intro a h
 refine i_build hF h rfl rfl rfl (by decide) ?_
 clear h; intro a h
 refine i_build hF h rfl rfl rfl (by decide) ?_
 clear h; intro a h
 refine i_build hF h rfl rfl rfl (by decide) ?_
 clear h; intro a h
 refine i_build hF h rfl rfl rfl (by decide) ?_
 clear h; intro a h
 refine i_build hF h rfl rfl rfl (by decide) ?_
 clear h; intro a h
 refine i_build hF h rfl rfl rfl (by decide) ?_
 clear h; intro a h
 refine i_build hF h rfl rfl rfl (by decide) ?_
 clear h; intro a h
 refine i_build hF h rfl rfl rfl (by decide) ?_
 clear h; intro a h
 refine i_build hF h rfl rfl rfl (by decide) ?_
 clear h; intro a h
 refine i_build hF h rfl rfl rfl (by decide) ?_
 clear h; intro a h
 refine i_build hF h rfl rfl rfl (by decide) ?_
 clear h; intro a h
 refine i_build hF h rfl rfl rfl (by decide) ?_
 clear h; intro a h
 refine i_build hF h rfl rfl rfl (by decide) ?_
 clear h; intro a h
 refine i_build hF h rfl rfl rfl (by decide) ?_
 clear h; intro a h
 refine i_build hF h rfl rfl rfl (by decide) ?_
 clear h; intro a h
 refine i_build hF h rfl rfl rfl (by decide) ?_
 clear h; intro a h
 refine i_build hF h rfl rfl rfl (by decide) ?_
 clear h; intro a h
 refine i_build hF h rfl rfl rfl (by decide) ?_
 clear h; intro a h
 refine i_build hF h rfl rfl rfl (by decide) ?_
 clear h; intro a h
 refine i_build hF h rfl rfl rfl (by decide) ?_
 clear h; intro a h
 refine i_build hF h rfl rfl rfl (by decide) ?_
 clear h; intro a h
 refine i_build hF h rfl rfl rfl (by decide) ?_
 clear h; intro a h
 refine i_build hF h rfl rfl rfl (by decide) ?_
 clear h; intro a h
 refine i_build hF h rfl rfl rfl (by decide) ?_
 clear h; intro a h
 refine i_build hF h rfl rfl rfl (by decide) ?_
 clear h; intro a h
 refine i_build hF h rfl rfl rfl (by decide) ?_
 clear h; intro a h
 refine i_build hF h rfl rfl rfl (by decide) ?_
 clear h; intro a h
 refine i_build hF h rfl rfl rfl (by decide) ?_
 clear h; intro a h
 refine i_build hF h rfl rfl rfl (by decide) ?_
 clear h; intro a h
 refine i_build hF h rfl rfl rfl (by decide) ?_
 clear h; intro a h
 refine i_build hF h rfl rfl rfl (by decide) ?_
 clear h; intro a h
 refine i_build hF h rfl rfl rfl (by decide) ?_
 clear h; intro a h
 refine i_build hF h rfl rfl rfl (by decide) ?_
 clear h; intro a h
 refine i_build hF h rfl rfl rfl (by decide) ?_
 clear h; intro a h
 refine i_build hF h rfl rfl rfl (by decide) ?_
 clear h; intro a h
 refine i_build hF h rfl rfl rfl (by decide) ?_
 clear h; intro a h
 refine i_build hF h rfl rfl rfl (by decide) ?_
 clear h; intro a h
 refine i_build hF h rfl rfl rfl (by decide) ?_
 clear h; intro a h
 refine i_build hF h rfl rfl rfl (by decide) ?_
 clear h; intro a h
 refine i_build hF h rfl rfl rfl (by decide) ?_
 clear h; intro a h
 refine j_build aloneCells hF h rfl rfl (by kernel_rfl) (by decide) ?_
 clear h; intro a h
 have hal : aloneCells.length = 525 := by kernel_rfl
 refine i_storeA hF h H rfl rfl rfl hal (by kernel_rfl) (by repeat (first | exact Upd.here | apply Upd.there | apply Upd.app)) (cs' := aloneCells) (by kernel_rfl) (by rw [show zero78.length = 525 from by kernel_rfl]; decide) ?_
 clear H; intro w H
 refine cEt0 ?_
 refine c_ret ?_
 with_reducible repeat (first | refine xa0 ?_ | refine xb0 ?_ | refine xc0 ?_ | refine xd0 ?_ | refine xe0 (by decide) ?_ | refine xf0 ?_ | refine xg0 ?_ | refine xh0 ?_ | refine xi0 ?_)
 refine leave (fn := Tryz.f38) h Tryz.results38 (.ownA rfl H (by repeat (first | exact mh1 | apply mt1 | apply ma1)) (hal ▸ seg_all aloneCells) .nil) ?_
 exact ⟨_, rfl, rfl, H.done⟩
end Go.Proofs.YtjlmpghcjgbfjaaGreatDoor.Cw
namespace Go.Proofs.YtjlmpghcjgbfjaaGreatDoor.Cw
open Go Go.RowKit Go.Proofs Ex Cd
set_option maxRecDepth 100000
theorem rows_drop : ∀ (l : List (Nat × Info)) (j : Nat) (x : Nat × Info), l[j]? = some x → ((l.flatMap rowCells).drop (j * 7)).take 7 = rowCells x
 | [], j, x, h => by simp at h
 | y :: l, 0, x, h => by
  simp at h; subst h
  rw [List.flatMap_cons]
  exact List.take_append_of_le_length (by simp [rowCells, cellsI]) |>.trans (List.take_of_length_le (by simp [rowCells, cellsI]))
 | y :: l, j + 1, x, h => by
  have hl : (rowCells y).length = 7 := rfl
  rw [List.flatMap_cons, show (j + 1) * 7 = 7 + j * 7 by omega, ← List.drop_drop, List.drop_append_of_le_length (by omega), show (rowCells y).drop 7 = [] from rfl, List.nil_append]
  exact rows_drop l j x (by simpa using h)
/-- how many of a map's entries are still to come -/
def toCome {α : Type} (M : Ents α) (seen : List Nat) : Nat := M.countP fun x => !(seen.any (Nat.beq x.2.2))
theorem any_nbeq {l : List Nat} {i : Nat} : l.any (Nat.beq i) = true ↔ i ∈ l := by
 rw [List.any_eq_true]
 constructor
 · rintro ⟨j, hj, hb⟩; rw [Nat.eq_of_beq_eq_true hb]; exact hj
 · intro h; exact ⟨i, h, Nat.beq_refl i⟩
theorem toCome_lt {α : Type} {M : Ents α} {seen : List Nat} {x : α × Value × Nat} (hx : x ∈ M) (hs : x.2.2 ∉ seen) : toCome M (seen ++ [x.2.2]) < toCome M seen := by
 have mono : ∀ M : Ents α, toCome M (seen ++ [x.2.2]) ≤ toCome M seen := fun M => by
  unfold toCome
  refine List.countP_mono_left fun y _ hy => ?_
  rw [List.any_append] at hy
  cases hb : seen.any (Nat.beq y.2.2)
  · rfl
  · rw [hb] at hy; cases hy
 induction M with
 | nil => cases hx
 | cons y M ih =>
  have h1 : (seen ++ [x.2.2]).any (Nat.beq x.2.2) = true := any_nbeq.2 (by simp)
  have h2 : seen.any (Nat.beq x.2.2) = false := by
   cases hb : seen.any (Nat.beq x.2.2)
   · rfl
   · exact absurd (any_nbeq.1 hb) hs
  have hm := mono M
  unfold toCome at *
  rw [List.countP_cons, List.countP_cons]
  rcases List.mem_cons.1 hx with rfl | hx
  · rw [h1, h2]; simp only [Bool.not_true, Bool.not_false, Bool.false_eq_true, if_false, if_true]; omega
  · have := ih hx
    cases hb : seen.any (Nat.beq y.2.2)
    · simp only [Bool.not_false, if_true]; split <;> omega
    · have : (seen ++ [x.2.2]).any (Nat.beq y.2.2) = true := any_nbeq.2 (by simp [any_nbeq.1 hb])
      rw [this]; simp only [Bool.not_true, Bool.false_eq_true, if_false]; omega
theorem alone_small (x : Nat × Info) (hx : x ∈ alone) : x.1 < 256 := of_decide_eq_true (List.all_eq_true.1 (show alone.all (fun x => decide (x.1 < 256)) = true by decide +kernel) x hx)
theorem find_at : ∀ (l : List (Nat × Info)) (j : Nat) (x : Nat × Info) (op : Nat), l[j]? = some x → x.1 = op → (∀ i y, i < j → l[i]? = some y → y.1 ≠ op) → l.find? (fun x => x.1 == op) = some x
 | [], j, x, op, h, _, _ => by simp at h
 | y :: l, 0, x, op, h, he, _ => by
  simp at h; subst h
  rw [List.find?_cons_of_pos (by simp [he])]
 | y :: l, j + 1, x, op, h, he, hno => by
  rw [List.find?_cons_of_neg (by have := hno 0 y (by omega) rfl; simpa using this)]
  exact find_at l j x op (by simpa using h) he fun i z hi hz => hno (i + 1) z (by omega) (by simpa using hz)
theorem info_alone (j : Nat) (x : Nat × Info) (op : Nat) (h : alone[j]? = some x) (he : x.1 = op) (hno : ∀ i y, i < j → alone[i]? = some y → y.1 ≠ op) : info op = some x.2 := by
 unfold info
 rw [find_at alone j x op h he hno]
theorem info_fam (op : Nat) (hno : ∀ i y, i < 75 → alone[i]? = some y → y.1 ≠ op) : info op = fam op := by
 have : alone.find? (fun x => x.1 == op) = none := by
  rw [List.find?_eq_none]
  intro y hy
  obtain ⟨i, hi, e⟩ := List.getElem_of_mem hy
  have := hno i y (by rw [show alone.length = 75 from rfl] at hi; exact hi) (by rw [List.getElem?_eq_getElem hi, e])
  simpa using this
 unfold info
 rw [this]
/-- an op that is not of this family -/
def famMiss (op : Nat) (v : Value) : Prop := ∀ fr ma g : Nat, v = famV fr ma g → ¬ (fr ≤ op ∧ op < fr + ma)
theorem fam_none (op : Nat) (ho : op < 256) (h : ∀ x ∈ famM, famMiss op x.2.1) : fam op = none := by
 have h1 := h _ (List.Mem.head _) 96 32 57 rfl
 have h2 := h _ (List.Mem.tail _ (List.Mem.head _)) 128 16 58 rfl
 have h3 := h _ (List.Mem.tail _ (List.Mem.tail _ (List.Mem.head _))) 144 16 59 rfl
 have h4 := h _ (List.Mem.tail _ (List.Mem.tail _ (List.Mem.tail _ (List.Mem.head _)))) 160 5 60 rfl
 unfold fam
 rw [if_neg (by omega), if_neg (by omega), if_neg (by omega), if_neg (by omega)]
theorem famM_born (y : List UInt8 × Value × Nat) (hy : y ∈ famM) (x : List UInt8 × Value × Nat) (hx : x ∈ famM) (e : y.2.2 = x.2.2) : y = x := by
 simp only [famM, List.mem_cons, List.not_mem_nil, or_false] at hy hx
 rcases hy with rfl | rfl | rfl | rfl <;> rcases hx with rfl | rfl | rfl | rfl <;> first | rfl | (simp at e)
theorem famV_inj {a b c a' b' c' : Nat} (h : famV a b c = famV a' b' c') : a = a' ∧ b = b' ∧ c = c' := by
 simp [famV] at h
 exact ⟨by omega, by omega, h.2.2⟩
theorem famM_each (x : List UInt8 × Value × Nat) (hx : x ∈ famM) : ∃ fr ma g : Nat, x.2.1 = famV fr ma g ∧ fr ≤ 200 ∧ ma ≤ 32 ∧ ∀ n : Nat, n < ma → ∃ y, fam (fr + n) = some y ∧
 ∀ w, Rets Tryz.prog 40 [famV fr ma g, str x.1, int n] w fun v w' => v = .agg (cellsI y).toArray ∧ Below w.heap.size w w' := by
 simp only [famM, List.mem_cons, List.not_mem_nil, or_false] at hx
 rcases hx with rfl | rfl | rfl | rfl
 · refine ⟨96, 32, 57, rfl, by omega, by omega, fun n hn => ⟨_, by unfold fam; rw [if_pos (by omega)], fun w => ?_⟩⟩
   refine (family_ret 57 0 1 3 (n + 1) true [80, 85, 83, 72] n (by omega) (by decide) (int 96) (int 32) rfl rfl (fun w => fam1_ret _ w) w).mono ?_
   rintro v w' ⟨rfl, hb⟩
   refine ⟨?_, hb⟩
   rw [show 96 + n - 95 = n + 1 by omega]
   rfl
 · refine ⟨128, 16, 58, rfl, by omega, by omega, fun n hn => ⟨_, by unfold fam; rw [if_neg (by omega), if_pos (by omega)], fun w => ?_⟩⟩
   refine (family_ret 58 (n + 1) (n + 1 + 1) 3 0 true [68, 85, 80] n (by omega) (by decide) (int 128) (int 16) rfl rfl (fun w => fam2_ret _ (by omega) w) w).mono ?_
   rintro v w' ⟨rfl, hb⟩
   refine ⟨?_, hb⟩
   rw [show 128 + n - 127 = n + 1 by omega, show 128 + n - 126 = n + 2 by omega]
   rfl
 · refine ⟨144, 16, 59, rfl, by omega, by omega, fun n hn => ⟨_, by unfold fam; rw [if_neg (by omega), if_neg (by omega), if_pos (by omega)], fun w => ?_⟩⟩
   refine (family_ret 59 (n + 1 + 1) (n + 1 + 1) 3 0 true [83, 87, 65, 80] n (by omega) (by decide) (int 144) (int 16) rfl rfl (fun w => fam3_ret _ (by omega) w) w).mono ?_
   rintro v w' ⟨rfl, hb⟩
   refine ⟨?_, hb⟩
   rw [show 144 + n - 143 = n + 1 by omega, show 144 + n - 142 = n + 2 by omega]
   rfl
 · refine ⟨160, 5, 60, rfl, by omega, by omega, fun n hn => ⟨_, by unfold fam; rw [if_neg (by omega), if_neg (by omega), if_neg (by omega), if_pos (by omega)], fun w => ?_⟩⟩
   refine (family_ret 60 (n + 1 + 1) 0 (375 * (n + 1)) 0 false [76, 79, 71] n (by omega) (by decide) (int 160) (int 5) rfl rfl (fun w => fam4_ret _ (by omega) w) w).mono ?_
   rintro v w' ⟨rfl, hb⟩
   refine ⟨?_, hb⟩
   rw [show 160 + n - 160 = n by omega, show 160 + n - 159 = n + 1 by omega, show 160 + n - 158 = n + 2 by omega]
   rfl
theorem info_ret (op : UInt8) (w : World) : Rets Tryz.prog 16 [byt op] w fun v w' => v = .tuple #[.agg (cellsI ((info op.toNat).getD noneI)).toArray, .bool (info op.toNat).isSome] ∧ Below w.heap.size w w' := by
 have hop := op.toNat_lt
 refine enter Tryz.func16 rfl (Nat.le_of_ble_eq_true rfl) ?_
 intro a h; rw [Tryz.ntmps16] at h
 have hF := Fd.wide; have H := St.begin w
 repeat refine cS0 ?_
 refine cR0 ?_
 refine i_alloc hF h H rfl (by decide) ?_
 clear h H; intro a w b2 _ h H
 refine sA0 hF h rfl rfl (by decide) ?_
 clear h; intro a h
 first | refine cEt0 ?_ | refine cE0 ?_
 repeat refine cS0 ?_
 refine cR0 ?_
 refine i_call hF h rfl (alone_ret _) rfl (by decide) ?_
 clear h; rintro _ w ⟨rfl, hb⟩ a h; replace H := H.call hb; clear hb
 refine sM0 hF h rfl rfl (by decide) ?_
 clear h; intro a h
 first | refine cEt0 ?_ | refine cE0 ?_
 repeat refine cS0 ?_
 refine c_block ?_
 refine c_loopN (fun k a' w' => ∃ j, k = 75 - j ∧ j ≤ 75 ∧ (∀ i x, i < j → alone[i]? = some x → x.1 ≠ op.toNat) ∧ Fr 45 [] [(10, int (j : Nat)), (9, .agg aloneCells.toArray), (3, .bool false), (2, ptr b2 0), (0, byt op)] a' ∧ St _ _ [(b2, .cells (cellsI noneI).toArray 42 (0, 0))] w') 75 ⟨0, rfl, by omega, by omega, (h.sub (by repeat (first | exact trivial | refine ⟨rfl, ?_⟩))), H⟩ ?_
 clear h H
 rintro k a w ⟨j, rfl, hj, hno, h, H⟩
 by_cases hj : j < 75
 · repeat refine cS0 ?_
   refine cR0 ?_
   (first | (refine iC0 hF h rfl rfl rfl (i_lss_t (by omega)) (by decide) ?_) | (refine iC0 hF h rfl rfl rfl (i_lss_f (by omega)) (by decide) ?_))
   clear h; intro a h
   first | refine cEt0 ?_ | refine cE0 ?_
   repeat refine cS0 ?_
   refine c_condT h rfl ?_
   first | refine cKt0 ?_ | refine cK0 ?_
   obtain ⟨x, hx⟩ : ∃ x, alone[j]? = some x := ⟨_, List.getElem?_eq_getElem (by rw [show alone.length = 75 from rfl]; exact hj)⟩
   repeat refine cS0 ?_
   refine c_block ?_
   repeat refine cS0 ?_
   refine cR0 ?_
   refine i_indexArr (vs := rowCells x) hF h rfl rfl rfl hj (rows_drop alone j x hx) (by decide) ?_
   clear h; intro a h
   refine i_alloc hF h H rfl (by decide) ?_
   clear h H; intro a w b5 _ h H
   refine j_storeA hF h H rfl rfl rfl rfl rfl (by repeat (first | exact Upd.here | apply Upd.there | apply Upd.app)) (by repeat (first | exact PutAt.nil | apply PutAt.put | apply PutAt.skip)) ?_
   clear H; intro w H
   refine cEt0 ?_
   have hxo := alone_small x (List.mem_of_getElem? hx)
   repeat refine cS0 ?_
   refine cR0 ?_
   refine iFa0 hF h rfl rfl rfl (by decide) ?_
   clear h; intro a h; try simp only [Nat.reduceAdd] at h
   refine iL0 hF h H rfl rfl (by repeat (first | exact mh1 | apply mt1 | apply ma1)) (by exact rfl) (by decide) ?_
   clear h; intro a h
   refine sM0 hF h rfl rfl (by decide) ?_
   clear h; intro a h
   by_cases he : x.1 = op.toNat
   · refine iC0 hF h rfl rfl rfl (i_eql_t (by omega)) (by decide) ?_
     clear h; intro a h
     refine cEt0 ?_
     repeat refine cS0 ?_
     refine c_condT h rfl ?_
     repeat refine cS0 ?_
     refine cR0 ?_
     refine iFa0 hF h rfl rfl rfl (by decide) ?_
     clear h; intro a h; try simp only [Nat.reduceAdd] at h
     refine j_loadA hF h H rfl rfl (by repeat (first | exact mh1 | apply mt1 | apply ma1)) (by repeat (first | exact Seg.nil | apply Seg.take | apply Seg.skip)) (by decide) ?_
     clear h; intro a h
     refine j_storeA hF h H rfl rfl rfl rfl rfl (by repeat (first | exact Upd.here | apply Upd.there | apply Upd.app)) (by repeat (first | exact PutAt.nil | apply PutAt.put | apply PutAt.skip)) ?_
     clear H; intro w H
     refine sA0 hF h rfl rfl (by decide) ?_
     clear h; intro a h
     first | refine cEt0 ?_ | refine cE0 ?_
     refine c_ret ?_
     with_reducible repeat (first | refine xa0 ?_ | refine xb0 ?_ | refine xc0 ?_ | refine xd0 ?_ | refine xe0 (by decide) ?_ | refine xf0 ?_ | refine xg0 ?_ | refine xh0 ?_ | refine xi0 ?_)
     refine leave (fn := Tryz.f16) h Tryz.results16 (.ownA rfl H (by repeat (first | exact mh1 | apply mt1 | apply ma1)) (by repeat (first | exact Seg.nil | apply Seg.take | apply Seg.skip)) (.tmp rfl (.nil))) ?_
     have hf : info op.toNat = some x.2 := info_alone j x op.toNat hx he hno
     exact ⟨_, rfl, by rw [hf]; rfl, H.done⟩
   · refine iC0 hF h rfl rfl rfl (i_eql_f (by omega)) (by decide) ?_
     clear h; intro a h
     refine cEt0 ?_
     repeat refine cS0 ?_
     refine c_condF h rfl ?_
     first | refine cKt0 ?_ | refine cK0 ?_
     with_reducible repeat (first | refine xa0 ?_ | refine xb0 ?_ | refine xc0 ?_ | refine xd0 ?_ | refine xe0 (by decide) ?_ | refine xf0 ?_ | refine xg0 ?_ | refine xh0 ?_ | refine xi0 ?_)
     repeat refine cS0 ?_
     refine cR0 ?_
     refine i_ar64 hF h rfl rfl rfl rfl (by omega) (by omega) (by decide) ?_
     clear h; intro a h
     refine sM0 hF h rfl rfl (by decide) ?_
     clear h; intro a h
     refine cE0 ?_
     refine ⟨75 - (j + 1), by omega, j + 1, rfl, by omega, ?_, (h.sub (by repeat (first | exact trivial | refine ⟨rfl, ?_⟩))), (H.sub (by repeat (first | exact ln1 | exact ls1 | exact lr1 | apply lk1 | apply List.Sublist.cons | apply la1)))⟩
     intro i y hi hy
     by_cases hij : i = j
     · subst hij; rw [hx] at hy; cases hy; exact he
     · exact hno i y (by omega) hy
 · have hj75 : j = 75 := by omega
   subst hj75
   repeat refine cS0 ?_
   refine cR0 ?_
   (first | (refine iC0 hF h rfl rfl rfl (i_lss_t (by omega)) (by decide) ?_) | (refine iC0 hF h rfl rfl rfl (i_lss_f (by omega)) (by decide) ?_))
   clear h; intro a h
   first | refine cEt0 ?_ | refine cE0 ?_
   repeat refine cS0 ?_
   refine c_condF h rfl ?_
   refine c_exit ?_
   with_reducible repeat (first | refine xa0 ?_ | refine xb0 ?_ | refine xc0 ?_ | refine xd0 ?_ | refine xe0 (by decide) ?_ | refine xf0 ?_ | refine xg0 ?_ | refine xh0 ?_ | refine xi0 ?_)
   have hinfo : info op.toNat = fam op.toNat := info_fam op.toNat hno
   repeat refine cS0 ?_
   refine cR0 ?_
   refine i_call hF h rfl (families_ret _) rfl (by decide) ?_
   clear h; rintro _ w ⟨b20, rfl, hb20, hm20, hb⟩ a h; replace H := H.callNew hb hb20 hm20; clear hb hb20 hm20
   have hm := H.mem (List.Mem.head _)
   refine i_range (enc := str) hF h H rfl rfl (H.mem (by repeat (first | exact mh1 | apply mt1 | apply ma1))) (by decide) ?_
   clear h H; intro a w b21 hr21 h H hm21
   first | refine cEt0 ?_ | refine cE0 ?_
   have hne : b20 ≠ b21 := by
    have := lt_of_heap hm
    omega
   repeat refine cS0 ?_
   refine c_block ?_
   refine c_loopN (fun k a' w' => ∃ seen, k = toCome famM seen ∧ (∀ x ∈ famM, x.2.2 ∈ seen → famMiss op.toNat x.2.1) ∧ Fr 45 [] [(21, ptr b21 0), (3, .bool false), (2, ptr b2 0), (0, byt op)] a' ∧ St _ _ [(b21, .mapIter (some b20) 4 seen.toArray 4), (b20, mapObj str famM 4), (b2, .cells (cellsI noneI).toArray 42 (0, 0))] w') (toCome famM []) ⟨[], rfl, by simp, (h.sub (by repeat (first | exact trivial | refine ⟨rfl, ?_⟩))), (H.sub (by repeat (first | exact ln1 | exact ls1 | exact lr1 | apply lk1 | apply List.Sublist.cons | apply la1)))⟩ ?_
   clear h H hm hm21 hr21
   rintro k a w ⟨seen, rfl, hmiss, h, H⟩
   repeat refine cS0 ?_
   refine cR0 ?_
   refine j_next _ hF h H rfl rfl (H.mem (by repeat (first | exact mh1 | apply mt1 | apply ma1))) famM_ok (fun i => by repeat (first | exact Upd.here | apply Upd.there | apply Upd.app)) hne (by decide) ?_ ?_
   · clear h H
     intro hall a w h H
     refine iX0 hF h rfl rfl rfl (by decide) ?_
     clear h; intro a h
     refine cEt0 ?_
     repeat refine cS0 ?_
     refine c_condF h rfl ?_
     refine c_exit ?_
     with_reducible repeat (first | refine xa0 ?_ | refine xb0 ?_ | refine xc0 ?_ | refine xd0 ?_ | refine xe0 (by decide) ?_ | refine xf0 ?_ | refine xg0 ?_ | refine xh0 ?_ | refine xi0 ?_)
     repeat refine cS0 ?_
     refine cR0 ?_
     refine i_build hF h rfl rfl rfl (by decide) ?_
     clear h; intro a h
     refine j_storeA hF h H rfl rfl rfl rfl rfl (by repeat (first | exact Upd.here | apply Upd.there | apply Upd.app)) (by repeat (first | exact PutAt.nil | apply PutAt.put | apply PutAt.skip)) ?_
     clear H; intro w H
     refine sA0 hF h rfl rfl (by decide) ?_
     clear h; intro a h
     first | refine cEt0 ?_ | refine cE0 ?_
     refine c_ret ?_
     with_reducible repeat (first | refine xa0 ?_ | refine xb0 ?_ | refine xc0 ?_ | refine xd0 ?_ | refine xe0 (by decide) ?_ | refine xf0 ?_ | refine xg0 ?_ | refine xh0 ?_ | refine xi0 ?_)
     refine leave (fn := Tryz.f16) h Tryz.results16 (.ownA rfl H (by repeat (first | exact mh1 | apply mt1 | apply ma1)) (by repeat (first | exact Seg.nil | apply Seg.take | apply Seg.skip)) (.tmp rfl (.nil))) ?_
     have hf : fam op.toNat = none := fam_none op.toNat hop (fun x hx => hmiss x hx (hall x hx))
     exact ⟨_, rfl, by rw [hinfo, hf]; rfl, H.done⟩
   · clear h H
     intro x hx hns a w h H
     have hdec := toCome_lt hx hns
     obtain ⟨fr, ma, g, hxv, hfr, hma, hcall⟩ := famM_each x hx
     have hmiss' : ∀ fr ma g : Nat, x.2.1 = famV fr ma g → ¬ (fr ≤ op.toNat ∧ op.toNat < fr + ma) → ∀ y ∈ famM, y.2.2 ∈ seen ++ [x.2.2] → famMiss op.toNat y.2.1 := by
      intro fr ma g hv hno2 y hy hys
      rcases List.mem_append.1 hys with hys | hys
      · exact hmiss y hy hys
      · have e : y.2.2 = x.2.2 := by simpa using hys
        have : y = x := famM_born y hy x hx e
        subst this
        intro fr' ma' g' hv'
        rw [hv] at hv'
        obtain ⟨rfl, rfl, rfl⟩ := famV_inj hv'
        exact hno2
     rw [hxv] at h
     refine iX0 hF h rfl rfl rfl (by decide) ?_
     clear h; intro a h
     refine cEt0 ?_
     repeat refine cS0 ?_
     refine c_condT h rfl ?_
     first | refine cKt0 ?_ | refine cK0 ?_
     repeat refine cS0 ?_
     refine c_block ?_
     repeat refine cS0 ?_
     refine cR0 ?_
     refine i_entry hF h H rfl rfl (H.mem (by repeat (first | exact mh1 | apply mt1 | apply ma1))) famM_ok hx (by repeat (first | exact mh1 | apply mt1 | apply ma1)) (by decide) ?_
     clear h; intro a h
     rw [hxv] at h
     refine iX0 hF h rfl rfl rfl (by decide) ?_
     clear h; intro a h
     refine iX0 hF h rfl rfl rfl (by decide) ?_
     clear h; intro a h
     refine i_alloc hF h H rfl (by decide) ?_
     clear h H; intro a w b7 _ h H
     refine sA0 hF h rfl rfl (by decide) ?_
     clear h; intro a h
     refine j_storeA hF h H rfl rfl rfl rfl rfl (by repeat (first | exact Upd.here | apply Upd.there | apply Upd.app)) (by repeat (first | exact PutAt.nil | apply PutAt.put | apply PutAt.skip)) ?_
     clear H; intro w H
     refine cEt0 ?_
     by_cases h1 : fr ≤ op.toNat
     · by_cases h2 : op.toNat < fr + ma
       · obtain ⟨y, hy, hc⟩ := hcall (op.toNat - fr) (by omega)
         rw [show fr + (op.toNat - fr) = op.toNat by omega] at hy
         repeat refine cS0 ?_
         refine cR0 ?_
         refine sM0 hF h rfl rfl (by decide) ?_
         clear h; intro a h
         refine i_convByte hF h rfl rfl (by decide) ?_ (by decide)
         clear h; intro a h
         refine iFa0 hF h rfl rfl rfl (by decide) ?_
         clear h; intro a h; try simp only [Nat.reduceAdd] at h
         refine iL0 hF h H rfl rfl (by repeat (first | exact mh1 | apply mt1 | apply ma1)) (by exact rfl) (by decide) ?_
         clear h; intro a h
         refine i_ar64 hF h rfl rfl rfl rfl (by omega) (by omega) (by decide) ?_
         clear h; intro a h
         refine sA0 hF h rfl rfl (by decide) ?_
         clear h; intro a h
         first | refine cEt0 ?_ | refine cE0 ?_
         rw [show ((op.toNat : Int) - (fr : Int)) = ((op.toNat - fr : Nat) : Int) by omega] at h
         repeat refine cS0 ?_
         refine cR0 ?_
         refine sM0 hF h rfl rfl (by decide) ?_
         clear h; intro a h
         (first | (refine iC0 hF h rfl rfl rfl (i_geq_t (by omega)) (by decide) ?_) | (refine iC0 hF h rfl rfl rfl (i_geq_f (by omega)) (by decide) ?_))
         clear h; intro a h
         refine sM0 hF h rfl rfl (by decide) ?_
         clear h; intro a h
         first | (refine sK0 hF h rfl (by decide) ?_; clear h; intro a h) | (refine sM0 hF h rfl rfl (by decide) ?_; clear h; intro a h)
         first | (refine sK0 hF h rfl (by decide) ?_; clear h; intro a h) | (refine iFa0 hF h rfl rfl rfl (by decide) ?_; clear h; intro a h; try simp only [Nat.reduceAdd] at h)
         first | (refine sK0 hF h rfl (by decide) ?_; clear h; intro a h) | (refine iL0 hF h H rfl rfl (by repeat (first | exact mh1 | apply mt1 | apply ma1)) (by exact rfl) (by decide) ?_; clear h; intro a h)
         first | (refine sK0 hF h rfl (by decide) ?_; clear h; intro a h) | ((first | (refine iC0 hF h rfl rfl rfl (i_lss_t (by omega)) (by decide) ?_) | (refine iC0 hF h rfl rfl rfl (i_lss_f (by omega)) (by decide) ?_)); clear h; intro a h)
         refine s_pick hF h rfl rfl rfl (by decide) ?_
         clear h; intro a h
         first | refine cEt0 ?_ | refine cE0 ?_
         repeat refine cS0 ?_
         refine c_condT h rfl ?_
         repeat refine cS0 ?_
         refine cR0 ?_
         refine j_loadA hF h H rfl rfl (by repeat (first | exact mh1 | apply mt1 | apply ma1)) (by repeat (first | exact Seg.nil | apply Seg.take | apply Seg.skip)) (by decide) ?_
         clear h; intro a h
         refine sM0 hF h rfl rfl (by decide) ?_
         clear h; intro a h
         refine sM0 hF h rfl rfl (by decide) ?_
         clear h; intro a h
         refine i_call hF h rfl (hc _) rfl (by decide) ?_
         clear h; rintro _ w ⟨rfl, hb⟩ a h; replace H := H.call hb; clear hb
         refine j_storeA hF h H rfl rfl rfl rfl rfl (by repeat (first | exact Upd.here | apply Upd.there | apply Upd.app)) (by repeat (first | exact PutAt.nil | apply PutAt.put | apply PutAt.skip)) ?_
         clear H; intro w H
         refine sA0 hF h rfl rfl (by decide) ?_
         clear h; intro a h
         first | refine cEt0 ?_ | refine cE0 ?_
         refine c_ret ?_
         with_reducible repeat (first | refine xa0 ?_ | refine xb0 ?_ | refine xc0 ?_ | refine xd0 ?_ | refine xe0 (by decide) ?_ | refine xf0 ?_ | refine xg0 ?_ | refine xh0 ?_ | refine xi0 ?_)
         refine leave (fn := Tryz.f16) h Tryz.results16 (.ownA rfl H (by repeat (first | exact mh1 | apply mt1 | apply ma1)) (by repeat (first | exact Seg.nil | apply Seg.take | apply Seg.skip)) (.tmp rfl (.nil))) ?_
         exact ⟨_, rfl, by rw [hinfo, hy]; rfl, H.done⟩
       · repeat refine cS0 ?_
         refine cR0 ?_
         refine sM0 hF h rfl rfl (by decide) ?_
         clear h; intro a h
         refine i_convByte hF h rfl rfl (by decide) ?_ (by decide)
         clear h; intro a h
         refine iFa0 hF h rfl rfl rfl (by decide) ?_
         clear h; intro a h; try simp only [Nat.reduceAdd] at h
         refine iL0 hF h H rfl rfl (by repeat (first | exact mh1 | apply mt1 | apply ma1)) (by exact rfl) (by decide) ?_
         clear h; intro a h
         refine i_ar64 hF h rfl rfl rfl rfl (by omega) (by omega) (by decide) ?_
         clear h; intro a h
         refine sA0 hF h rfl rfl (by decide) ?_
         clear h; intro a h
         first | refine cEt0 ?_ | refine cE0 ?_
         repeat refine cS0 ?_
         refine cR0 ?_
         refine sM0 hF h rfl rfl (by decide) ?_
         clear h; intro a h
         (first | (refine iC0 hF h rfl rfl rfl (i_geq_t (by omega)) (by decide) ?_) | (refine iC0 hF h rfl rfl rfl (i_geq_f (by omega)) (by decide) ?_))
         clear h; intro a h
         refine sM0 hF h rfl rfl (by decide) ?_
         clear h; intro a h
         first | (refine sK0 hF h rfl (by decide) ?_; clear h; intro a h) | (refine sM0 hF h rfl rfl (by decide) ?_; clear h; intro a h)
         first | (refine sK0 hF h rfl (by decide) ?_; clear h; intro a h) | (refine iFa0 hF h rfl rfl rfl (by decide) ?_; clear h; intro a h; try simp only [Nat.reduceAdd] at h)
         first | (refine sK0 hF h rfl (by decide) ?_; clear h; intro a h) | (refine iL0 hF h H rfl rfl (by repeat (first | exact mh1 | apply mt1 | apply ma1)) (by exact rfl) (by decide) ?_; clear h; intro a h)
         first | (refine sK0 hF h rfl (by decide) ?_; clear h; intro a h) | ((first | (refine iC0 hF h rfl rfl rfl (i_lss_t (by omega)) (by decide) ?_) | (refine iC0 hF h rfl rfl rfl (i_lss_f (by omega)) (by decide) ?_)); clear h; intro a h)
         refine s_pick hF h rfl rfl rfl (by decide) ?_
         clear h; intro a h
         first | refine cEt0 ?_ | refine cE0 ?_
         repeat refine cS0 ?_
         refine c_condF h rfl ?_
         first | refine cKt0 ?_ | refine cK0 ?_
         with_reducible repeat (first | refine xa0 ?_ | refine xb0 ?_ | refine xc0 ?_ | refine xd0 ?_ | refine xe0 (by decide) ?_ | refine xf0 ?_ | refine xg0 ?_ | refine xh0 ?_ | refine xi0 ?_)
         refine ⟨_, hdec, seen ++ [x.2.2], rfl, hmiss' fr ma g hxv (by omega), (h.sub (by repeat (first | exact trivial | refine ⟨rfl, ?_⟩))), (H.sub (by repeat (first | exact ln1 | exact ls1 | exact lr1 | apply lk1 | apply List.Sublist.cons | apply la1)))⟩
     · repeat refine cS0 ?_
       refine cR0 ?_
       refine sM0 hF h rfl rfl (by decide) ?_
       clear h; intro a h
       refine i_convByte hF h rfl rfl (by decide) ?_ (by decide)
       clear h; intro a h
       refine iFa0 hF h rfl rfl rfl (by decide) ?_
       clear h; intro a h; try simp only [Nat.reduceAdd] at h
       refine iL0 hF h H rfl rfl (by repeat (first | exact mh1 | apply mt1 | apply ma1)) (by exact rfl) (by decide) ?_
       clear h; intro a h
       refine i_ar64 hF h rfl rfl rfl rfl (by omega) (by omega) (by decide) ?_
       clear h; intro a h
       refine sA0 hF h rfl rfl (by decide) ?_
       clear h; intro a h
       first | refine cEt0 ?_ | refine cE0 ?_
       repeat refine cS0 ?_
       refine cR0 ?_
       refine sM0 hF h rfl rfl (by decide) ?_
       clear h; intro a h
       (first | (refine iC0 hF h rfl rfl rfl (i_geq_t (by omega)) (by decide) ?_) | (refine iC0 hF h rfl rfl rfl (i_geq_f (by omega)) (by decide) ?_))
       clear h; intro a h
       refine sM0 hF h rfl rfl (by decide) ?_
       clear h; intro a h
       first | (refine sK0 hF h rfl (by decide) ?_; clear h; intro a h) | (refine sM0 hF h rfl rfl (by decide) ?_; clear h; intro a h)
       first | (refine sK0 hF h rfl (by decide) ?_; clear h; intro a h) | (refine iFa0 hF h rfl rfl rfl (by decide) ?_; clear h; intro a h; try simp only [Nat.reduceAdd] at h)
       first | (refine sK0 hF h rfl (by decide) ?_; clear h; intro a h) | (refine iL0 hF h H rfl rfl (by repeat (first | exact mh1 | apply mt1 | apply ma1)) (by exact rfl) (by decide) ?_; clear h; intro a h)
       first | (refine sK0 hF h rfl (by decide) ?_; clear h; intro a h) | ((first | (refine iC0 hF h rfl rfl rfl (i_lss_t (by omega)) (by decide) ?_) | (refine iC0 hF h rfl rfl rfl (i_lss_f (by omega)) (by decide) ?_)); clear h; intro a h)
       refine s_pick hF h rfl rfl rfl (by decide) ?_
       clear h; intro a h
       first | refine cEt0 ?_ | refine cE0 ?_
       repeat refine cS0 ?_
       refine c_condF h rfl ?_
       first | refine cKt0 ?_ | refine cK0 ?_
       with_reducible repeat (first | refine xa0 ?_ | refine xb0 ?_ | refine xc0 ?_ | refine xd0 ?_ | refine xe0 (by decide) ?_ | refine xf0 ?_ | refine xg0 ?_ | refine xh0 ?_ | refine xi0 ?_)
       refine ⟨_, hdec, seen ++ [x.2.2], rfl, hmiss' fr ma g hxv (by omega), (h.sub (by repeat (first | exact trivial | refine ⟨rfl, ?_⟩))), (H.sub (by repeat (first | exact ln1 | exact ls1 | exact lr1 | apply lk1 | apply List.Sublist.cons | apply la1)))⟩
end Go.Proofs.YtjlmpghcjgbfjaaGreatDoor.Cw
namespace Go.Proofs.YtjlmpghcjgbfjaaGreatDoor.Cw
open Go Go.RowKit Go.Proofs Ex Cd
set_option maxRecDepth 100000
def valI (y : Info) : Value := .agg (cellsI y).toArray
def Tab (A : Nat → Prop) (M : Ents UInt8) (c : Nat) : Prop := MapOk M c ∧ ∀ k : UInt8, (A k.toNat → mget M k = (info k.toNat).map valI) ∧ (¬ A k.toNat → mget M k = none)
theorem Tab.congr {A B : Nat → Prop} {M : Ents UInt8} {c : Nat} (h : Tab A M c) (hab : ∀ o, o < 256 → (A o ↔ B o)) : Tab B M c :=
 ⟨h.1, fun k => ⟨fun hb => (h.2 k).1 ((hab _ k.toNat_lt).2 hb), fun hb => (h.2 k).2 fun ha => hb ((hab _ k.toNat_lt).1 ha)⟩⟩
theorem mget_new {M : Ents UInt8} {k k' : UInt8} {v : Value} {c : Nat} (h : mget M k = none) : mget (M ++ [(k, v, c)]) k' = if k' = k then some v else mget M k' := by
 unfold mget at *
 rw [List.find?_append]
 by_cases e : k' = k
 · subst e
   rw [if_pos rfl]
   have : List.find? (fun x => decide (x.1 = k')) M = none := by simpa using h
   rw [this]; simp
 · rw [if_neg e]
   cases hf : List.find? (fun x => decide (x.1 = k')) M with
   | none => simp [Ne.symm e]
   | some y => simp
theorem ok_new {M : Ents UInt8} {k : UInt8} {v : Value} {c : Nat} (hM : MapOk M c) (h : mget M k = none) : MapOk (M ++ [(k, v, c)]) (c + 1) := by
 refine ⟨?_, ?_, ?_⟩
 · intro x hx
   rcases List.mem_append.1 hx with hx | hx
   · have := hM.old x hx; omega
   · have : x = (k, v, c) := by simpa using hx
     subst this; show c < c + 1; omega
 · rw [List.map_append, List.nodup_append]
   refine ⟨hM.born, by simp, ?_⟩
   intro a ha b hb e
   obtain ⟨x, hx, rfl⟩ := List.mem_map.1 ha
   have : b = c := by simpa using hb
   have := hM.old x hx
   omega
 · rw [List.map_append, List.nodup_append]
   refine ⟨hM.key, by simp, ?_⟩
   intro a ha b hb e
   obtain ⟨x, hx, rfl⟩ := List.mem_map.1 ha
   have hb : b = k := by simpa using hb
   unfold mget at h
   have h2 : List.find? (fun x => decide (x.1 = k)) M = none := by simpa using h
   have := (List.find?_eq_none.1 h2) x hx
   simp [e, hb] at this
theorem Tab.new {A : Nat → Prop} {M : Ents UInt8} {c op : Nat} {y : Info} (h : Tab A M c) (ho : op < 256) (hn : ¬ A op) (hy : info op = some y) :
 mget M (UInt8.ofNat op) = none ∧ Tab (fun o => A o ∨ o = op) (M ++ [(UInt8.ofNat op, valI y, c)]) (c + 1) := by
 have e : (UInt8.ofNat op).toNat = op := by simp; omega
 have h0 : mget M (UInt8.ofNat op) = none := (h.2 _).2 (by rw [e]; exact hn)
 refine ⟨h0, ok_new h.1 h0, fun k => ?_⟩
 rw [mget_new h0]
 by_cases hk : k = UInt8.ofNat op
 · subst hk
   rw [if_pos rfl, e, hy]
   exact ⟨fun _ => rfl, fun hno => absurd (.inr rfl) hno⟩
 · rw [if_neg hk]
   have hne : k.toNat ≠ op := fun e2 => hk (by rw [← e2]; simp)
   exact ⟨fun ha => (h.2 k).1 (ha.resolve_right hne), fun ha => (h.2 k).2 fun h' => ha (.inl h')⟩
def inAlone (j op : Nat) : Prop := ∃ i x, i < j ∧ alone[i]? = some x ∧ x.1 = op
def inFam (v : Value) (op : Nat) : Prop := ∃ fr ma g : Nat, v = famV fr ma g ∧ fr ≤ op ∧ op < fr + ma
theorem alone_nodup : (alone.map (·.1)).Nodup := by decide +kernel
theorem alone_inj {i j : Nat} {x y : Nat × Info} (hi : alone[i]? = some x) (hj : alone[j]? = some y) (e : x.1 = y.1) : i = j := by
 have h := alone_nodup
 have hi' : (alone.map (·.1))[i]? = some x.1 := by rw [List.getElem?_map, hi]; rfl
 have hj' : (alone.map (·.1))[j]? = some y.1 := by rw [List.getElem?_map, hj]; rfl
 obtain ⟨h1, e1⟩ := List.getElem?_eq_some_iff.1 hi'
 exact (List.getElem?_inj h1 h).1 (by rw [hi', hj', e])
theorem fam_not_alone (op : Nat) (ho : op < 256) (y : Info) (hf : fam op = some y) (j : Nat) : ¬ inAlone j op := by
 rintro ⟨i, x, _, hx, rfl⟩
 have := List.all_eq_true.1 (show alone.all (fun x => (fam x.1).isNone) = true by decide +kernel) x (List.mem_of_getElem? hx)
 rw [hf] at this
 cases this
theorem inFam_inj (x y : List UInt8 × Value × Nat) (hx : x ∈ famM) (hy : y ∈ famM) (op : Nat) (h1 : inFam x.2.1 op) (h2 : inFam y.2.1 op) : x = y := by
 obtain ⟨f1, m1, g1, e1, a1, b1⟩ := h1
 obtain ⟨f2, m2, g2, e2, a2, b2⟩ := h2
 simp only [famM, List.mem_cons, List.not_mem_nil, or_false] at hx hy
 rcases hx with rfl | rfl | rfl | rfl <;> rcases hy with rfl | rfl | rfl | rfl <;> first
  | rfl
  | (obtain ⟨rfl, rfl, rfl⟩ := famV_inj e1
     obtain ⟨rfl, rfl, rfl⟩ := famV_inj e2
     exfalso; omega)
theorem info_of_fam (op : Nat) (y : Info) (ho : op < 256) (hf : fam op = some y) : info op = some y := by
 rw [info_fam op, hf]
 intro i x hi hx e
 exact fam_not_alone op ho y hf 75 ⟨i, x, hi, hx, e⟩
theorem table_ret (w : World) : Rets Tryz.prog 23 [] w fun v w' => ∃ b M c, v = .map (some b) ∧ w.heap.size ≤ b ∧ w'.heap[b]? = some (mapObj byt M c) ∧ Tab (fun op => (info op).isSome = true) M c ∧ Below w.heap.size w w' := by
 refine enter Tryz.func23 rfl (Nat.le_of_ble_eq_true rfl) ?_
 intro a h; rw [Tryz.ntmps23] at h
 have hF := Fd.wide; have H := St.begin w
 repeat refine cS0 ?_
 refine cR0 ?_
 refine sA0 hF h rfl rfl (by decide) ?_
 clear h; intro a h
 first | refine cEt0 ?_ | refine cE0 ?_
 repeat refine cS0 ?_
 refine cR0 ?_
 refine i_makeMap (enc := byt) hF h H rfl (by decide) ?_
 clear h H; intro a w b7 _ h H
 refine sA0 hF h rfl rfl (by decide) ?_
 clear h; intro a h
 first | refine cEt0 ?_ | refine cE0 ?_
 repeat refine cS0 ?_
 refine cR0 ?_
 refine i_call hF h rfl (alone_ret _) rfl (by decide) ?_
 clear h; rintro _ w ⟨rfl, hb⟩ a h; replace H := H.call hb; clear hb
 refine sM0 hF h rfl rfl (by decide) ?_
 clear h; intro a h
 first | refine cEt0 ?_ | refine cE0 ?_
 repeat refine cS0 ?_
 refine c_block ?_
 refine c_loopN (fun k a' w' => ∃ j M c, k = 75 - j ∧ j ≤ 75 ∧ Tab (inAlone j) M c ∧ Fr 42 [] [(9, int (j : Nat)), (8, .agg aloneCells.toArray), (1, .map (some b7))] a' ∧ St _ _ [(b7, mapObj byt M c)] w') 75 ⟨0, [], 0, rfl, by omega, ?_, (h.sub (by repeat (first | exact trivial | refine ⟨rfl, ?_⟩))), H⟩ ?_
 · exact ⟨MapOk.nil, fun k => ⟨fun ⟨i, x, hi, _⟩ => absurd hi (by omega), fun _ => rfl⟩⟩
 clear h H
 rintro k a w ⟨j, M, c, rfl, hj, hT, h, H⟩
 by_cases hj : j < 75
 · repeat refine cS0 ?_
   refine cR0 ?_
   (first | (refine iC0 hF h rfl rfl rfl (i_lss_t (by omega)) (by decide) ?_) | (refine iC0 hF h rfl rfl rfl (i_lss_f (by omega)) (by decide) ?_))
   clear h; intro a h
   first | refine cEt0 ?_ | refine cE0 ?_
   repeat refine cS0 ?_
   refine c_condT h rfl ?_
   first | refine cKt0 ?_ | refine cK0 ?_
   obtain ⟨x, hx⟩ : ∃ x, alone[j]? = some x := ⟨_, List.getElem?_eq_getElem (by rw [show alone.length = 75 from rfl]; exact hj)⟩
   have hxo := alone_small x (List.mem_of_getElem? hx)
   have hbyte : Value.int .u8 (x.1 : Int) = byt (UInt8.ofNat x.1) := by
    have : (UInt8.ofNat x.1).toNat = x.1 := by simp; omega
    rw [byt, this]
   have hinf : info x.1 = some x.2 := info_alone j x x.1 hx rfl (fun i y hi hy e => absurd (alone_inj hy hx e) (by omega))
   repeat refine cS0 ?_
   refine c_block ?_
   repeat refine cS0 ?_
   refine cR0 ?_
   refine i_indexArr (vs := rowCells x) hF h rfl rfl rfl hj (rows_drop alone j x hx) (by decide) ?_
   clear h; intro a h
   refine i_alloc hF h H rfl (by decide) ?_
   clear h H; intro a w b3 _ h H
   refine j_storeA hF h H rfl rfl rfl rfl rfl (by repeat (first | exact Upd.here | apply Upd.there | apply Upd.app)) (by repeat (first | exact PutAt.nil | apply PutAt.put | apply PutAt.skip)) ?_
   clear H; intro w H
   refine cEt0 ?_
   repeat refine cS0 ?_
   refine cR0 ?_
   refine sM0 hF h rfl rfl (by decide) ?_
   clear h; intro a h
   refine iFa0 hF h rfl rfl rfl (by decide) ?_
   clear h; intro a h; try simp only [Nat.reduceAdd] at h
   refine iL0 hF h H rfl rfl (by repeat (first | exact mh1 | apply mt1 | apply ma1)) (by exact rfl) (by decide) ?_
   clear h; intro a h
   refine iFa0 hF h rfl rfl rfl (by decide) ?_
   clear h; intro a h; try simp only [Nat.reduceAdd] at h
   refine j_loadA hF h H rfl rfl (by repeat (first | exact mh1 | apply mt1 | apply ma1)) (by repeat (first | exact Seg.nil | apply Seg.take | apply Seg.skip)) (by decide) ?_
   clear h; intro a h
   obtain ⟨h0, hT'⟩ := hT.new hxo (fun ha => ha.elim fun i hi => hi.elim fun y hy => absurd (alone_inj hy.2.1 hx hy.2.2) (by omega)) hinf
   rw [hbyte] at h
   refine j_mapNew (enc := byt) hF h H rfl rfl rfl rfl (by repeat (first | exact Upd.here | apply Upd.there | apply Upd.app)) (by first | rfl | assumption) (Or.inl rfl) ?_
   clear H; intro w H
   first | refine cEt0 ?_ | refine cE0 ?_
   with_reducible repeat (first | refine xa0 ?_ | refine xb0 ?_ | refine xc0 ?_ | refine xd0 ?_ | refine xe0 (by decide) ?_ | refine xf0 ?_ | refine xg0 ?_ | refine xh0 ?_ | refine xi0 ?_)
   repeat refine cS0 ?_
   refine cR0 ?_
   refine i_ar64 hF h rfl rfl rfl rfl (by omega) (by omega) (by decide) ?_
   clear h; intro a h
   refine sM0 hF h rfl rfl (by decide) ?_
   clear h; intro a h
   refine cE0 ?_
   refine ⟨75 - (j + 1), by omega, j + 1, _, _, rfl, by omega, hT'.congr ?_, (h.sub (by repeat (first | exact trivial | refine ⟨rfl, ?_⟩))), (H.sub (by repeat (first | exact ln1 | exact ls1 | exact lr1 | apply lk1 | apply List.Sublist.cons | apply la1)))⟩
   intro o _
   constructor
   · rintro (⟨i, y, hi, hy, e⟩ | rfl)
     · exact ⟨i, y, by omega, hy, e⟩
     · exact ⟨j, x, by omega, hx, rfl⟩
   · rintro ⟨i, y, hi, hy, e⟩
     by_cases hij : i = j
     · subst hij; rw [hx] at hy; cases hy; exact .inr e.symm
     · exact .inl ⟨i, y, by omega, hy, e⟩
 · have hj75 : j = 75 := by omega
   subst hj75
   repeat refine cS0 ?_
   refine cR0 ?_
   (first | (refine iC0 hF h rfl rfl rfl (i_lss_t (by omega)) (by decide) ?_) | (refine iC0 hF h rfl rfl rfl (i_lss_f (by omega)) (by decide) ?_))
   clear h; intro a h
   first | refine cEt0 ?_ | refine cE0 ?_
   repeat refine cS0 ?_
   refine c_condF h rfl ?_
   refine c_exit ?_
   with_reducible repeat (first | refine xa0 ?_ | refine xb0 ?_ | refine xc0 ?_ | refine xd0 ?_ | refine xe0 (by decide) ?_ | refine xf0 ?_ | refine xg0 ?_ | refine xh0 ?_ | refine xi0 ?_)
   repeat refine cS0 ?_
   refine cR0 ?_
   refine i_call hF h rfl (families_ret _) rfl (by decide) ?_
   clear h; rintro _ w ⟨b18, rfl, hb18, hm18, hb⟩ a h; replace H := H.callNew hb hb18 hm18; clear hb hb18 hm18
   refine i_range (enc := str) hF h H rfl rfl (H.mem (by repeat (first | exact mh1 | apply mt1 | apply ma1))) (by decide) ?_
   clear h H; intro a w b19 hr19 h H hm19
   first | refine cEt0 ?_ | refine cE0 ?_
   have hne : b18 ≠ b19 := fun e => by
    have := H.nodup
    subst e
    simp at this
   repeat refine cS0 ?_
   refine c_block ?_
   refine c_loopN (fun k a' w' => ∃ seen M c, k = toCome famM seen ∧ Tab (fun o => inAlone 75 o ∨ ∃ x ∈ famM, x.2.2 ∈ seen ∧ inFam x.2.1 o) M c ∧ Fr 42 [] [(19, ptr b19 0), (1, .map (some b7))] a' ∧ St _ _ [(b19, .mapIter (some b18) 4 seen.toArray 4), (b18, mapObj str famM 4), (b7, mapObj byt M c)] w') (toCome famM []) ⟨[], M, c, rfl, hT.congr ?_, (h.sub (by repeat (first | exact trivial | refine ⟨rfl, ?_⟩))), (H.sub (by repeat (first | exact ln1 | exact ls1 | exact lr1 | apply lk1 | apply List.Sublist.cons | apply la1)))⟩ ?_
   · intro o _
     exact ⟨.inl, fun h => h.elim id fun ⟨x, _, hs, _⟩ => by cases hs⟩
   clear h H hT
   rintro k a w ⟨seen, M, c, rfl, hT, h, H⟩
   repeat refine cS0 ?_
   refine cR0 ?_
   refine j_next (enc := str) _ hF h H rfl rfl (H.mem (by repeat (first | exact mh1 | apply mt1 | apply ma1))) famM_ok (fun i => by repeat (first | exact Upd.here | apply Upd.there | apply Upd.app)) hne (by decide) ?_ ?_
   · clear h H
     intro hall a w h H
     refine iX0 hF h rfl rfl rfl (by decide) ?_
     clear h; intro a h
     refine cEt0 ?_
     repeat refine cS0 ?_
     refine c_condF h rfl ?_
     refine c_exit ?_
     with_reducible repeat (first | refine xa0 ?_ | refine xb0 ?_ | refine xc0 ?_ | refine xd0 ?_ | refine xe0 (by decide) ?_ | refine xf0 ?_ | refine xg0 ?_ | refine xh0 ?_ | refine xi0 ?_)
     repeat refine cS0 ?_
     refine cR0 ?_
     refine sM0 hF h rfl rfl (by decide) ?_
     clear h; intro a h
     refine sA0 hF h rfl rfl (by decide) ?_
     clear h; intro a h
     first | refine cEt0 ?_ | refine cE0 ?_
     refine c_ret ?_
     with_reducible repeat (first | refine xa0 ?_ | refine xb0 ?_ | refine xc0 ?_ | refine xd0 ?_ | refine xe0 (by decide) ?_ | refine xf0 ?_ | refine xg0 ?_ | refine xh0 ?_ | refine xi0 ?_)
     refine leave (fn := Tryz.f23) h Tryz.results23 (.tmp rfl (.nil)) ?_
     refine ⟨_, rfl, _, M, c, rfl, H.own (b7, mapObj byt M c) (by repeat (first | exact mh1 | apply mt1 | apply ma1)), H.mem (by repeat (first | exact mh1 | apply mt1 | apply ma1)), hT.congr ?_, H.done⟩
     intro o ho
     constructor
     · rintro (⟨i, x, hi, hx, rfl⟩ | ⟨x, hx, _, fr, ma, g, hv, h1, h2⟩)
       · rw [info_alone i x x.1 hx rfl (fun j y hj hy e => absurd (alone_inj hy hx e) (by omega))]; rfl
       · obtain ⟨fr', ma', g', hv', _, _, hc⟩ := famM_each x hx
         rw [hv] at hv'
         obtain ⟨rfl, rfl, rfl⟩ := famV_inj hv'
         obtain ⟨y, hy, _⟩ := hc (o - fr) (by omega)
         rw [show fr + (o - fr) = o by omega] at hy
         rw [info_of_fam o y ho hy]; rfl
     · intro hi
       by_cases ha : inAlone 75 o
       · exact .inl ha
       · refine .inr ?_
         have hf := info_fam o (fun i x hi hx e => ha ⟨i, x, hi, hx, e⟩)
         by_cases hx : ∃ x ∈ famM, inFam x.2.1 o
         · obtain ⟨x, hx, hin⟩ := hx
           exact ⟨x, hx, hall x hx, hin⟩
         · have := fam_none o ho (fun x hxm fr ma g hv hin => hx ⟨x, hxm, fr, ma, g, hv, hin⟩)
           rw [hf, this] at hi
           cases hi
   · clear h H
     intro x hx hns a w h H
     have hdec := toCome_lt hx hns
     obtain ⟨fr, ma, g, hxv, hfr, hma, hcall⟩ := famM_each x hx
     rw [hxv] at h
     refine iX0 hF h rfl rfl rfl (by decide) ?_
     clear h; intro a h
     refine cEt0 ?_
     repeat refine cS0 ?_
     refine c_condT h rfl ?_
     first | refine cKt0 ?_ | refine cK0 ?_
     repeat refine cS0 ?_
     refine c_block ?_
     repeat refine cS0 ?_
     refine cR0 ?_
     refine i_entry hF h H rfl rfl (H.mem (by repeat (first | exact mh1 | apply mt1 | apply ma1))) famM_ok hx (by repeat (first | exact mh1 | apply mt1 | apply ma1)) (by decide) ?_
     clear h; intro a h
     rw [hxv] at h
     refine iX0 hF h rfl rfl rfl (by decide) ?_
     clear h; intro a h
     refine iX0 hF h rfl rfl rfl (by decide) ?_
     clear h; intro a h
     refine i_alloc hF h H rfl (by decide) ?_
     clear h H; intro a w b5 _ h H
     refine sA0 hF h rfl rfl (by decide) ?_
     clear h; intro a h
     refine j_storeA hF h H rfl rfl rfl rfl rfl (by repeat (first | exact Upd.here | apply Upd.there | apply Upd.app)) (by repeat (first | exact PutAt.nil | apply PutAt.put | apply PutAt.skip)) ?_
     clear H; intro w H
     refine cEt0 ?_
     repeat refine cS0 ?_
     refine cR0 ?_
     refine iFa0 hF h rfl rfl rfl (by decide) ?_
     clear h; intro a h; try simp only [Nat.reduceAdd] at h
     refine iL0 hF h H rfl rfl (by repeat (first | exact mh1 | apply mt1 | apply ma1)) (by exact rfl) (by decide) ?_
     clear h; intro a h
     refine sM0 hF h rfl rfl (by decide) ?_
     clear h; intro a h
     first | refine cEt0 ?_ | refine cE0 ?_
     repeat refine cS0 ?_
     refine c_block ?_
     refine c_loopN (fun k a' w' => ∃ i M c, k = ma - i ∧ i ≤ ma ∧ Tab (fun o => (inAlone 75 o ∨ ∃ x ∈ famM, x.2.2 ∈ seen ∧ inFam x.2.1 o) ∨ (fr ≤ o ∧ o < fr + i)) M c ∧ Fr 42 [] [(27, int (i : Nat)), (26, int (ma : Nat)), (4, str x.1), (5, ptr b5 0), (19, ptr b19 0), (1, .map (some b7))] a' ∧
      St _ _ [(b5, .cells [int fr, int ma, .func (.func g) #[] #[]].toArray 84 (0, 0)), (b19, .mapIter (some b18) 4 (seen ++ [x.2.2]).toArray 4), (b18, mapObj str famM 4), (b7, mapObj byt M c)] w') ma ⟨0, M, c, rfl, by omega, hT.congr ?_, (h.sub (by repeat (first | exact trivial | refine ⟨rfl, ?_⟩))), (H.sub (by repeat (first | exact ln1 | exact ls1 | exact lr1 | apply lk1 | apply List.Sublist.cons | apply la1)))⟩ ?_
     · intro o _
       exact ⟨.inl, fun h => h.elim id fun h => absurd h.2 (by omega)⟩
     clear h H hT
     rintro k a w ⟨i, M, c, rfl, hi, hT, h, H⟩
     by_cases hj : i < ma
     · repeat refine cS0 ?_
       refine cR0 ?_
       (first | (refine iC0 hF h rfl rfl rfl (i_lss_t (by omega)) (by decide) ?_) | (refine iC0 hF h rfl rfl rfl (i_lss_f (by omega)) (by decide) ?_))
       clear h; intro a h
       first | refine cEt0 ?_ | refine cE0 ?_
       repeat refine cS0 ?_
       refine c_condT h rfl ?_
       first | refine cKt0 ?_ | refine cK0 ?_
       obtain ⟨y, hy, hc⟩ := hcall i hj
       have ho : fr + i < 256 := by
        have : inFam x.2.1 (fr + i) := ⟨fr, ma, g, hxv, by omega, by omega⟩
        omega
       have hiy := info_of_fam (fr + i) y ho hy
       have hin : inFam x.2.1 (fr + i) := ⟨fr, ma, g, hxv, by omega, by omega⟩
       obtain ⟨h0, hT'⟩ := hT.new ho (by
        rintro ((ha | ⟨z, hz, hzs, hzi⟩) | ⟨_, h2⟩)
        · exact fam_not_alone _ ho y hy 75 ha
        · have := inFam_inj z x hz hx _ hzi hin
          subst this
          exact hns hzs
        · omega) hiy
       have hbyte : Value.int .u8 ((fr : Int) + (i : Int)) = byt (UInt8.ofNat (fr + i)) := by
        have : (UInt8.ofNat (fr + i)).toNat = fr + i := by simp; omega
        rw [byt, this]; rfl
       repeat refine cS0 ?_
       refine c_block ?_
       repeat refine cS0 ?_
       refine cR0 ?_
       refine sM0 hF h rfl rfl (by decide) ?_
       clear h; intro a h
       refine sA0 hF h rfl rfl (by decide) ?_
       clear h; intro a h
       first | refine cEt0 ?_ | refine cE0 ?_
       repeat refine cS0 ?_
       refine d_regionL [10] (by kernel_rfl) H ?_
       clear H; intro w H
       apply dQ0 hF h 0 rfl rfl (by kernel_rfl) (by decide) NoP.np (fun _ => H.sub (by repeat (first | exact ln1 | exact ls1 | exact lr1 | apply lk1 | apply List.Sublist.cons | apply la1)))
       · intro w
         refine sM0 hF h rfl rfl (by decide) ?_
         intro a h
         exact ⟨rfl, h⟩
       clear h; intro a h
       apply dQ0 hF h 1 rfl rfl (by kernel_rfl) (by decide) NoP.np (fun _ => H.sub (by repeat (first | exact ln1 | exact ls1 | exact lr1 | apply lk1 | apply List.Sublist.cons | apply la1)))
       · intro w
         refine iFa0 hF h rfl rfl rfl (by decide) ?_
         intro a h; try simp only [Nat.reduceAdd] at h
         exact ⟨rfl, h⟩
       clear h; intro a h
       apply dP0 hF h 2 rfl rfl (by kernel_rfl) (by decide) NoP.np (by kernel_rfl) (H.sub (by repeat (first | exact ln1 | exact ls1 | exact lr1 | apply lk1 | apply List.Sublist.cons | apply la1)))
       · intro w H
         refine iL0 hF h H rfl rfl (by repeat (first | exact mh1 | apply mt1 | apply ma1)) (by exact rfl) (by decide) ?_
         intro a h
         exact ⟨rfl, h⟩
       clear h; intro a h
       apply dQ0 hF h 3 rfl rfl (by kernel_rfl) (by decide) NoP.np (fun _ => H.sub (by repeat (first | exact ln1 | exact ls1 | exact lr1 | apply lk1 | apply List.Sublist.cons | apply la1)))
       · intro w
         refine sM0 hF h rfl rfl (by decide) ?_
         intro a h
         exact ⟨rfl, h⟩
       clear h; intro a h
       apply dQ0 hF h 4 rfl rfl (by kernel_rfl) (by decide) NoP.np (fun _ => H.sub (by repeat (first | exact ln1 | exact ls1 | exact lr1 | apply lk1 | apply List.Sublist.cons | apply la1)))
       · intro w
         refine i_ar64 hF h rfl rfl rfl rfl (by omega) (by omega) (by decide) ?_
         intro a h
         exact ⟨rfl, h⟩
       clear h; intro a h
       apply dQ0 hF h 5 rfl rfl (by kernel_rfl) (by decide) NoP.np (fun _ => H.sub (by repeat (first | exact ln1 | exact ls1 | exact lr1 | apply lk1 | apply List.Sublist.cons | apply la1)))
       · intro w
         refine i_conv hF h rfl rfl (wrapTo _ _ (by simp only [IntKind.min, IntKind.signed, IntKind.bits, Bool.false_eq_true, if_false]; omega) (by simp only [IntKind.max, IntKind.signed, IntKind.bits, Bool.false_eq_true, if_false]; omega)) (by decide) ?_
         intro a h
         exact ⟨rfl, h⟩
       clear h; intro a h
       apply dP0 hF h 6 rfl rfl (by kernel_rfl) (by decide) NoP.np (by kernel_rfl) (H.sub (by repeat (first | exact ln1 | exact ls1 | exact lr1 | apply lk1 | apply List.Sublist.cons | apply la1)))
       · intro w H
         refine j_loadA hF h H rfl rfl (by repeat (first | exact mh1 | apply mt1 | apply ma1)) (by repeat (first | exact Seg.nil | apply Seg.take | apply Seg.skip)) (by decide) ?_
         intro a h
         exact ⟨rfl, h⟩
       clear h; intro a h
       apply dQ0 hF h 7 rfl rfl (by kernel_rfl) (by decide) NoP.np (fun _ => H.sub (by repeat (first | exact ln1 | exact ls1 | exact lr1 | apply lk1 | apply List.Sublist.cons | apply la1)))
       · intro w
         refine sM0 hF h rfl rfl (by decide) ?_
         intro a h
         exact ⟨rfl, h⟩
       clear h; intro a h
       apply dQ0 hF h 8 rfl rfl (by kernel_rfl) (by decide) NoP.np (fun _ => H.sub (by repeat (first | exact ln1 | exact ls1 | exact lr1 | apply lk1 | apply List.Sublist.cons | apply la1)))
       · intro w
         refine sM0 hF h rfl rfl (by decide) ?_
         intro a h
         exact ⟨rfl, h⟩
       clear h; intro a h
       refine dE0 9 rfl (by kernel_rfl) ?_
       refine i_call hF h rfl (hc _) rfl (by decide) ?_
       clear h; rintro _ w ⟨rfl, hb⟩ a h; replace H := H.call hb; clear hb
       refine dN0 (H.sub (by repeat (first | exact ln1 | exact ls1 | exact lr1 | apply lk1 | apply List.Sublist.cons | apply la1))) ?_
       rw [hbyte] at h
       refine dE0 10 rfl (by kernel_rfl) ?_
       refine j_mapNew (enc := byt) hF h H rfl rfl rfl rfl (by repeat (first | exact Upd.here | apply Upd.there | apply Upd.app)) (by first | rfl | assumption) (Or.inl rfl) ?_
       clear H; intro w H
       refine dNm0 (by kernel_rfl) ?_
       first | refine d_endThen (by kernel_rfl) ?_ | refine d_endQ (by kernel_rfl) ?_
       with_reducible repeat (first | refine xa0 ?_ | refine xb0 ?_ | refine xc0 ?_ | refine xd0 ?_ | refine xe0 (by decide) ?_ | refine xf0 ?_ | refine xg0 ?_ | refine xh0 ?_ | refine xi0 ?_)
       repeat refine cS0 ?_
       refine cR0 ?_
       refine i_ar64 hF h rfl rfl rfl rfl (by omega) (by omega) (by decide) ?_
       clear h; intro a h
       refine sM0 hF h rfl rfl (by decide) ?_
       clear h; intro a h
       refine cE0 ?_
       refine ⟨ma - (i + 1), by omega, i + 1, _, _, rfl, by omega, hT'.congr ?_, (h.sub (by repeat (first | exact trivial | refine ⟨rfl, ?_⟩))), (H.sub (by repeat (first | exact ln1 | exact ls1 | exact lr1 | apply lk1 | apply List.Sublist.cons | apply la1)))⟩
       intro o _
       constructor
       · rintro ((h | h) | rfl)
         · exact .inl h
         · exact .inr ⟨h.1, by omega⟩
         · exact .inr ⟨by omega, by omega⟩
       · rintro (h | ⟨h1, h2⟩)
         · exact .inl (.inl h)
         · by_cases e : o = fr + i
           · exact .inr e
           · exact .inl (.inr ⟨h1, by omega⟩)
     · repeat refine cS0 ?_
       refine cR0 ?_
       (first | (refine iC0 hF h rfl rfl rfl (i_lss_t (by omega)) (by decide) ?_) | (refine iC0 hF h rfl rfl rfl (i_lss_f (by omega)) (by decide) ?_))
       clear h; intro a h
       first | refine cEt0 ?_ | refine cE0 ?_
       repeat refine cS0 ?_
       refine c_condF h rfl ?_
       refine c_exit ?_
       with_reducible repeat (first | refine xa0 ?_ | refine xb0 ?_ | refine xc0 ?_ | refine xd0 ?_ | refine xe0 (by decide) ?_ | refine xf0 ?_ | refine xg0 ?_ | refine xh0 ?_ | refine xi0 ?_)
       have him : i = ma := by omega
       subst him
       refine ⟨_, hdec, seen ++ [x.2.2], M, c, rfl, hT.congr ?_, (h.sub (by repeat (first | exact trivial | refine ⟨rfl, ?_⟩))), (H.sub (by repeat (first | exact ln1 | exact ls1 | exact lr1 | apply lk1 | apply List.Sublist.cons | apply la1)))⟩
       intro o _
       constructor
       · rintro ((h | ⟨z, hz, hzs, hzi⟩) | ⟨h1, h2⟩)
         · exact .inl h
         · exact .inr ⟨z, hz, by simp [hzs], hzi⟩
         · exact .inr ⟨x, hx, by simp, fr, i, g, hxv, h1, h2⟩
       · rintro (h | ⟨z, hz, hzs, hzi⟩)
         · exact .inl (.inl h)
         · rcases List.mem_append.1 hzs with hzs | hzs
           · exact .inl (.inr ⟨z, hz, hzs, hzi⟩)
           · have := famM_born z hz x hx (by simpa using hzs)
             subst this
             obtain ⟨f', m', g', hv', a1, a2⟩ := hzi
             rw [hxv] at hv'
             obtain ⟨rfl, rfl, rfl⟩ := famV_inj hv'
             exact .inr ⟨a1, a2⟩
end Go.Proofs.YtjlmpghcjgbfjaaGreatDoor.Cw
namespace Go.Proofs.YtjlmpghcjgbfjaaGreatDoor.Ex
open Go Go.RowKit
variable {P : Program}
def dfr : Obj := .deferred (some [])
def dblocks (Ds : List Nat) : List (Nat × Obj) := Ds.map fun D => (D, dfr)
def marksOf (Ds : List Nat) : List Deferred := Ds.map fun D => { target := .collected D, args := #[] }
/-- an iterator: it hands over the parts of one list, a round each, whatever a round does with the blocks that it knows -/
def Iter {α : Type} (P : Program) (gf : Nat) (lb : List Value) (encs : α → List Value) (S Sp : List α → Prop) (Rd : World → Prop) : Prop :=
 ∀ (l n0 : Nat) (w0 : World) (J Jx : List α → List (Nat × Obj) → Prop) (W : World) (L : List (Nat × Obj)),
  (∀ pre L' W', J pre L' → St n0 w0 L' W' → Rd W') → J [] L → St n0 w0 L W →
  (∀ E pre x L1 W1, J pre L1 → Sp (pre ++ [x]) → St n0 w0 (E ++ L1) W1 → YieldAt Fence.wide 0 P l (encs x).toArray W1 fun e W' =>
   (e = .returned (.bool true) ∧ ∃ L', J (pre ++ [x]) L' ∧ St n0 w0 (E ++ L') W') ∨ (e = .returned (.bool false) ∧ ∃ L', Jx (pre ++ [x]) L' ∧ St n0 w0 (E ++ L') W')) →
  CallsIn Fence.wide 0 P gf (.func (.yield l) #[] #[] :: lb).toArray W fun e W' => (∃ v, e = .returned v) ∧
   ((∃ xs L', S xs ∧ J xs L' ∧ St n0 w0 L' W') ∨ (∃ pre L', Sp pre ∧ Jx pre L' ∧ St n0 w0 L' W'))
def puts : List Nat → List Value → List (Nat × Value) → List (Nat × Value)
 | p :: ps, v :: vs, T => puts ps vs ((p, v) :: T)
 | _, _, T => T
theorem Fr.puts {N : Nat} : ∀ {ps : List Nat} {vs : List Value} {T : List (Nat × Value)} {tmps : Array Value}, Fr N [] T { tmps, defers := [] } → (∀ p ∈ ps, p < N) →
 Fr N [] (puts ps vs T) { tmps := (ps.zip vs).foldl (fun t (x : Nat × Value) => t.setIfInBounds x.1 x.2) tmps, defers := [] }
 | [], _, _, _, h, _ => h
 | _ :: _, [], _, _, h, _ => h
 | p :: ps, v :: vs, T, tmps, h, hp => by
  have := h.put (hp p (by simp)) v
  exact Fr.puts (ps := ps) (vs := vs) (T := (p, v) :: T) (tmps := tmps.setIfInBounds p v) this (fun q hq => hp q (by simp [hq]))
def roundEnd {α : Type} (n0 : Nat) (w0 : World) (J : List α → List (Nat × Obj) → Prop) (Jx : Code → List α → List (Nat × Obj) → Prop) (xs : List α) (E : List (Nat × Obj)) : Exit → Act → World → Prop
 | .normal, _, W => ∃ L', J xs L' ∧ St n0 w0 (E ++ L') W
 | .ret, _, W => ∃ L', Jx .ret xs L' ∧ St n0 w0 (E ++ L') W
 | .exit id, _, W => ∃ L', Jx (.exit id) xs L' ∧ St n0 w0 (E ++ L') W
 | .goto t, _, W => ∃ L', Jx (.goto t) xs L' ∧ St n0 w0 (E ++ L') W
 | .panic _, _, _ => False
 | .outgrown, _, _ => False
theorem Upd.pre {b : Nat} {o o' : Obj} : ∀ (E : List (Nat × Obj)) {L L' : List (Nat × Obj)}, Upd b o o' L L' → Upd b o o' (E ++ L) (E ++ L')
 | [], _, _, h => h
 | _ :: E, _, _, h => .there (Upd.pre E h)
theorem c_rangeFunc {α : Type} {N : Nat} {ds : List Deferred} {T : List (Nat × Value)} {n0 : Nat} {w0 : World} {L : List (Nat × Obj)} {g : Operand} {ps : List Tmp} {assign body : Code} {Q : Exit → Act → World → Prop} {a : Act} {w : World}
 (h : Fr N ds T a) (H : St n0 w0 L w) {gf : Nat} {lb : List Value} (hg : ev T g = some (.func (.func gf) #[] lb.toArray)) [he : Ent P gf]
 {encs : α → List Value} {S Sp : List α → Prop} {Rd : World → Prop} (hit : Iter P gf lb encs S Sp Rd)
 (J : List α → List (Nat × Obj) → Prop) (Jx : Code → List α → List (Nat × Obj) → Prop) (T1 : α → List (Nat × Value))
 (hps : ∀ x, (encs x).length = ps.length) (hpN : ∀ p ∈ ps, p < N) (h0 : J [] L) (hRd : ∀ pre L' W', J pre L' → St n0 w0 L' W' → Rd W')
 (hassign : ∀ l x W a', Fr N [] (puts ps (encs x) T) a' → assign.wpIn (Fence.wide.inRound l) 0 P (Exit.then (fun a'' W' => W' = W ∧ Fr N [] (T1 x) a'') (fun _ _ _ => False)) a' W)
 (hbody : ∀ l E pre x L1 W a', J pre L1 → Sp (pre ++ [x]) → St n0 w0 (E ++ L1) W → Fr N [] (T1 x) a' → body.wpIn (Fence.wide.inRound l) 0 P (roundEnd n0 w0 J Jx (pre ++ [x]) E) a' W)
 (hdone : ∀ D xs L1 W a', S xs → J xs L1 → St n0 w0 ((D, dfr) :: L1) W → Fr N ({ target := .collected D, args := #[] } :: ds) T a' → Q .normal a' W)
 (hstop : ∀ D c pre L1 W a', Sp pre → Jx c pre L1 → St n0 w0 ((D, dfr) :: L1) W → Fr N ({ target := .collected D, args := #[] } :: ds) T a' → c.wpIn Fence.wide 0 P Q a' W) :
 (Code.rangeFunc g ps.toArray assign body).wpIn Fence.wide 0 P Q a w := by
 refine wpIn_rangeFunc ?_
 intro fn hfn
 obtain ⟨rec, hrec⟩ : ∃ rec : LoopState → Option Code → Loop, rec = fun st pe => { state := st, pending := pe, fn, tmps := a.tmps, params := ps.toArray, assign, body, defers := w.heap.size } := ⟨_, rfl⟩
 obtain ⟨l, hl⟩ : ∃ l, l = w.heap.size + 1 := ⟨_, rfl⟩
 obtain ⟨D, hD⟩ : ∃ D, D = w.heap.size := ⟨_, rfl⟩
 obtain ⟨W1, hW1⟩ : ∃ W1, (w.alloc (.deferred (some []))).alloc (.loop (rec .ready none)) = W1 := ⟨_, rfl⟩
 have H1 : St n0 w0 ((l, .loop (rec .ready none)) :: (D, dfr) :: L) W1 := by
  have := (H.alloc dfr).alloc (.loop (rec .ready none))
  rw [World.size_alloc] at this
  rw [hl, hD, ← hW1]; exact this
 have hfr : Fr N ({ target := .collected D, args := #[] } :: ds) T { a with defers := [({ target := .collected D, args := #[] } : Deferred)] ++ a.defers } := ⟨h.size, by simp [h.defers], h.here⟩
 refine ⟨l, [{ target := .collected D, args := #[] }], W1, { target := .fn (.func gf) lb.toArray, args := #[.func (.yield l) #[] #[]] }, W1, gf, (.func (.yield l) #[] #[] :: lb).toArray, W1, ?_, ?_, ?_, ?_, fun hs => (by cases hs), ?_⟩
 · rw [hl, hD, ← hW1, hrec]; exact run_enterLoop_outer _ _ _ _ _
 · simp only [resolve, h.eval hg]
   simp [Deferred.ofValue, Act.eval]
 · intro f' _; trivial
 · have := he.out (.func (.yield l) #[] #[] :: lb).toArray W1
   simpa [invoke] using this
 · refine (hit l n0 w0 (fun pre L' => ∃ L1, L' = (l, .loop (rec .ready none)) :: (D, dfr) :: L1 ∧ J pre L1) (fun pre L' => ∃ c L1, L' = (l, .loop (rec .done (some c))) :: (D, dfr) :: L1 ∧ Jx c pre L1) W1 _ ?_ ⟨L, rfl, h0⟩ H1 ?_).mono ?_
   · rintro pre _ W' ⟨L1, rfl, hj⟩ hs
     exact hRd pre L1 W' hj (hs.sub (.cons _ (.cons _ (.refl _))))
   · rintro E pre x _ W2 ⟨L1, rfl, hj⟩ hsp H2
     have hl2 : W2.heap[l]? = some (.loop (rec .ready none)) := H2.mem (by simp)
     have hy := run_yield (P := P) (args := (encs x).toArray) hl2 (by rw [hrec]; simpa using hps x)
     rw [hrec] at hy
     refine ⟨fn, _, assign, body, hy, roundIn_of_wpIn hfn ?_⟩
     have hfr1 : Fr N [] (puts ps (encs x) T) { tmps := ((ps.toArray.zip (encs x).toArray)).foldl (fun t (x : Tmp × Value) => t.setIfInBounds x.1 x.2) a.tmps, defers := [] } := by
      have := Fr.puts (N := N) (ps := ps) (vs := encs x) (T := T) (tmps := a.tmps) ⟨h.size, rfl, h.here⟩ hpN
      simpa [List.zip_toArray] using this
     refine wpIn_mono (hassign l x W2 _ hfr1) ?_
     rintro e a2 W3 hq
     cases e with
     | normal =>
      obtain ⟨rfl, hf2⟩ := hq
      refine ⟨_, run_beginRound hl2 (by rw [hrec]), ?_⟩
      have H3 : St n0 w0 (E ++ (l, .loop { rec .ready none with state := .busy }) :: (D, dfr) :: L1) (W3.putObj l (.loop { rec .ready none with state := .busy })) := putObj_turn H2 (Upd.pre E .here)
      have H4 : St n0 w0 ((E ++ [(l, .loop { rec .ready none with state := .busy }), (D, dfr)]) ++ L1) (W3.putObj l (.loop { rec .ready none with state := .busy })) := by
       rw [List.append_assoc]; exact H3
      refine wpIn_mono (hbody l _ pre x L1 _ a2 hj hsp H4 hf2) ?_
      have fin : ∀ (jump : Option Code) (L3 : List (Nat × Obj)) (W4 : World), St n0 w0 ((E ++ [(l, .loop { rec .ready none with state := .busy }), (D, dfr)]) ++ L3) W4 →
       (Instr.endRound l jump).run P W4 = .ok (.bool jump.isNone) (W4.putObj l (.loop (rec (if jump.isNone then .ready else .done) jump))) ∧
       St n0 w0 (E ++ (l, .loop (rec (if jump.isNone then .ready else .done) jump)) :: (D, dfr) :: L3) (W4.putObj l (.loop (rec (if jump.isNone then .ready else .done) jump))) := by
       intro jump L3 W4 H5
       rw [List.append_assoc] at H5
       have hl3 : W4.heap[l]? = some (.loop { rec .ready none with state := .busy }) := H5.mem (by simp)
       have := run_endRound (P := P) jump hl3
       refine ⟨?_, putObj_turn H5 (Upd.pre E .here)⟩
       rw [hrec] at this ⊢
       exact this
      rintro e a3 W4 hp
      cases e with
      | normal =>
       obtain ⟨L3, hj3, H5⟩ := hp
       obtain ⟨hr, H6⟩ := fin none L3 W4 H5
       exact ⟨_, _, hr, .inl ⟨rfl, _, ⟨L3, rfl, hj3⟩, H6⟩⟩
      | ret =>
       obtain ⟨L3, hj3, H5⟩ := hp
       obtain ⟨hr, H6⟩ := fin (some .ret) L3 W4 H5
       exact ⟨_, _, hr, .inr ⟨rfl, _, ⟨.ret, L3, rfl, hj3⟩, H6⟩⟩
      | exit id =>
       obtain ⟨L3, hj3, H5⟩ := hp
       obtain ⟨hr, H6⟩ := fin (some (.exit id)) L3 W4 H5
       exact ⟨_, _, hr, .inr ⟨rfl, _, ⟨.exit id, L3, rfl, hj3⟩, H6⟩⟩
      | goto t =>
       obtain ⟨L3, hj3, H5⟩ := hp
       obtain ⟨hr, H6⟩ := fin (some (.goto t)) L3 W4 H5
       exact ⟨_, _, hr, .inr ⟨rfl, _, ⟨.goto t, L3, rfl, hj3⟩, H6⟩⟩
      | panic c => exact hp.elim
      | outgrown => exact hp.elim
     | _ => exact hq.elim
   · rintro e W2 ⟨⟨v, rfl⟩, (⟨xs, _, hs, ⟨L1, rfl, hj⟩, H2⟩ | ⟨pre, _, hs, ⟨c, L1, rfl, hj⟩, H2⟩)⟩
     · have hl2 : W2.heap[l]? = some (.loop (rec .ready none)) := H2.mem (by simp)
       have := run_endLoop (P := P) hl2 (by rw [hrec]; simp)
       have H3 : St n0 w0 ((D, dfr) :: L1) (W2.putObj l (.loop { rec .ready none with state := .exhausted })) := (putObj_turn H2 .here).sub (.cons _ (.refl _))
       rw [hrec] at this H3
       exact ⟨none, _, this, hdone D xs L1 _ _ hs hj H3 hfr⟩
     · have hl2 : W2.heap[l]? = some (.loop (rec .done (some c))) := H2.mem (by simp)
       have := run_endLoop (P := P) hl2 (by rw [hrec]; simp)
       have H3 : St n0 w0 ((D, dfr) :: L1) (W2.putObj l (.loop { rec .done (some c) with state := .exhausted })) := (putObj_turn H2 .here).sub (.cons _ (.refl _))
       rw [hrec] at this H3
       exact ⟨some c, _, this, hstop D c pre L1 _ _ hs hj H3 hfr⟩
/-- a function that holds such a statement -/
theorem enterM {f : FuncId} {fn : Func} {c : Code} (hf : P.funcs[f]? = some fn) (hb : fn.body = some c) {args : List Value} {w : World} (hN : args.length ≤ fn.ntmps) {R : Ending → World → Prop}
 (K : ∀ a, Fr fn.ntmps [] (start 0 args) a → c.wpIn Fence.wide 0 P (bodyPostM Fence.wide 0 P fn R) a w) : Calls P f args.toArray w R :=
 callsIn_wide.1 (callsIn_of_wp_marks (F := Fence.wide) (n := 0) hf hb trivial (K _ (Fr.begin args fn.ntmps hN)))
theorem leaveM {N : Nat} {T : List (Nat × Value)} {n0 : Nat} {w0 : World} {L : List (Nat × Obj)} {a : Act} {fn : Func} {rs : List ResultVar} {vs : List Value} {R : Ending → World → Prop} (hf : fn.results = rs.toArray) :
 ∀ {Ds : List Nat} {w : World}, Fr N (marksOf Ds) T a → St n0 w0 (dblocks Ds ++ L) w → (∀ w', St n0 w0 L w' → Res P T w' rs vs) → (∀ w', St n0 w0 L w' → R (.returned (tupleOf vs)) w') →
 bodyPostM Fence.wide 0 P fn R .ret a w := by
 intro Ds w h H hr hR
 show LeavesInM Fence.wide 0 P fn a.tmps R a.defers .returning w
 rw [h.defers]
 have h0 : Fr N [] T { tmps := a.tmps, defers := [] } := ⟨h.size, rfl, h.here⟩
 clear h
 induction Ds generalizing w with
 | nil => exact ⟨_, run_results h0 hf (hr w H), hR w H⟩
 | cons D Ds ih =>
  have hm : w.heap[D]? = some (.deferred (some [])) := H.mem (List.Mem.head _)
  refine ⟨by simp, .inl ⟨D, _, rfl, run_takeDeferred hm, ih ?_⟩⟩
  exact (putObj_turn H .here).sub (.cons _ (.refl _))
end Go.Proofs.YtjlmpghcjgbfjaaGreatDoor.Ex
namespace Go.Proofs.YtjlmpghcjgbfjaaGreatDoor.Ex
open Go Go.RowKit
/-- a slice whose elements are these -/
def ES {α : Type} (enc : α → Value) (w : World) (v : Value) (l : List α) : Prop :=
 ∃ p cap, v = .slice p l.length cap ∧ l.length ≤ cap ∧ ((p = none ∧ l = []) ∨ ∃ b off, p = some ⟨b, off, none⟩ ∧ b < w.heap.size ∧ ∀ j x, l[j]? = some x → w.cell? ⟨b, off + j, none⟩ = some (enc x))
abbrev BS := ES byt
theorem ES.keep {α : Type} {enc : α → Value} {w w' : World} {v : Value} {l : List α} {n : Nat} (h : ES enc w v l) (hb : Below n w w') (hn : w.heap.size ≤ n) : ES enc w' v l := by
 obtain ⟨p, cap, hv, hc, (h | ⟨b, off, hp, hlt, hcell⟩)⟩ := h
 · exact ⟨p, cap, hv, hc, .inl h⟩
 · exact ⟨p, cap, hv, hc, .inr ⟨b, off, hp, Nat.lt_of_lt_of_le hlt hb.size, fun j x hj => (hb.cell (p := ⟨b, off + j, none⟩) (Nat.lt_of_lt_of_le hlt hn)).trans (hcell j x hj)⟩⟩
theorem ES.nil {α : Type} (enc : α → Value) (w : World) : ES enc w (.slice none 0 0) [] := ⟨none, 0, rfl, Nat.le_refl _, .inl ⟨rfl, rfl⟩⟩
theorem ES.at {α : Type} {enc : α → Value} {n0 : Nat} {w0 w : World} {v : Value} {l : List α} {L : List (Nat × Obj)} (h : ES enc w0 v l) (H : St n0 w0 L w) (hn : w0.heap.size ≤ n0) : ES enc w v l := h.keep H.below hn
/-- a row of one's own -/
theorem ES.row {α : Type} {enc : α → Value} {n0 : Nat} {w0 w : World} {v : Value} {l : List α} {R L : List (Nat × Obj)} {e n : Nat} (hr : RowIs e 1 v n (l.map enc) R) (H : St n0 w0 (R ++ L) w) : ES enc w v l ∧ n = l.length := by
 obtain ⟨hl, hr⟩ := hr
 have hn : n = l.length := by simpa using hl.symm
 subst hn
 refine ⟨?_, rfl⟩
 rcases hr with ⟨rfl, h0, rfl⟩ | ⟨b, cap, junk, rfl, hle, _, hlen, rfl⟩
 · have : l = [] := List.length_eq_zero_iff.1 h0
   subst this
   exact ES.nil enc w
 · have hm : w.heap[b]? = some (Obj.cells ((l.map enc) ++ junk).toArray e (0, 0)) := H.mem (List.mem_append_left _ (List.Mem.head _))
   refine ⟨_, _, rfl, hle, .inr ⟨b, 0, rfl, lt_of_heap hm, fun j x hj => ?_⟩⟩
   rw [cell_of (off := 0 + j) hm]
   have hlt : j < l.length := (List.getElem?_eq_some_iff.1 hj).1
   simp only [Nat.zero_add]
   rw [List.getElem?_toArray, List.getElem?_append_left (by simpa using hlt), List.getElem?_map, hj]
   rfl
theorem RowIs.one {e : TypeId} {sz : Nat} {v : Value} {n : Nat} {xs : List Value} {R : List (Nat × Obj)} (h : RowIs e sz v n xs R) : v.oneCell' = true := by
 rcases h.2 with ⟨rfl, _⟩ | ⟨b, cap, junk, rfl, _⟩ <;> rfl
theorem perm_swap (E R X : List (Nat × Obj)) : (R ++ (E ++ X)).Perm (E ++ (R ++ X)) := by
 rw [← List.append_assoc, ← List.append_assoc]; exact List.perm_append_comm.append_right _
theorem St.swap {n0 : Nat} {w0 w : World} {E R X : List (Nat × Obj)} (H : St n0 w0 (E ++ (R ++ X)) w) : St n0 w0 (R ++ (E ++ X)) w := H.perm (perm_swap E R X)
theorem St.newIn {n0 : Nat} {w0 w : World} {x : Nat × Obj} {R X : List (Nat × Obj)} (H : St n0 w0 (x :: (R ++ X)) w) : St n0 w0 (R ++ (x :: X)) w := H.perm List.perm_middle
theorem St.dropIn {n0 : Nat} {w0 w : World} {x : Nat × Obj} {R X : List (Nat × Obj)} (H : St n0 w0 (R ++ (x :: X)) w) : St n0 w0 (R ++ X) w := H.sub (.append (.refl _) (.cons _ (.refl _)))
/-- what a call that hands back a row has done -/
def GivesRow {α : Type} (e : TypeId) (enc : α → Value) (l : List α) (w : World) (v : Value) (w' : World) : Prop :=
 ∃ R, RowIs e 1 v l.length (l.map enc) R ∧ (∀ x ∈ R, w.heap.size ≤ x.1 ∧ w'.heap[x.1]? = some x.2) ∧ Below w.heap.size w w'
theorem GivesRow.of {α : Type} {e : TypeId} {enc : α → Value} {l : List α} {w w' : World} {v : Value} {n : Nat} {xs : List Value} {R L : List (Nat × Obj)} (hr : RowIs e 1 v n xs R) (hx : xs = l.map enc) (H : St w.heap.size w (R ++ L) w') : GivesRow e enc l w v w' := by
 subst hx
 have hn : n = l.length := by simpa using hr.1.symm
 subst hn
 exact ⟨R, hr, fun x hx => ⟨H.own x (List.mem_append_left _ hx), H.mem (List.mem_append_left _ hx)⟩, H.below⟩
theorem St.row {α : Type} {e : TypeId} {enc : α → Value} {l : List α} {n0 : Nat} {w0 w w' : World} {v : Value} {L : List (Nat × Obj)} (H : St n0 w0 L w) (hg : GivesRow e enc l w v w') : ∃ R, RowIs e 1 v l.length (l.map enc) R ∧ St n0 w0 (R ++ L) w' := by
 obtain ⟨R, hr, hR, hb⟩ := hg
 refine ⟨R, hr, ?_⟩
 have hr' := hr.2
 rcases hr' with ⟨_, _, rfl⟩ | ⟨b, cap, junk, _, _, _, _, rfl⟩
 · exact H.call hb
 · have := hR _ (List.Mem.head _)
   exact H.callNew hb this.1 this.2
section
variable {F : Fence} {n : Nat} {P : Program} {ops : Array Oper} {Q : Exit → Act → World → Prop} {a : Act} {w : World} {rest : List Oper}
variable {N : Nat} {ds : List Deferred} {T : List (Nat × Value)} {n0 : Nat} {w0 : World} {L L' : List (Nat × Obj)}
variable {ty : TypeId} {ps : String} {af : Array Edge} {g : Option (Nat × Bool)} {d : Nat}
theorem i_lenB (hF : Fd F) (h : Fr N ds T a) (hg : guardOf T ops g = some true) {t e : TypeId} [hs : SliceTy P t e] {x : Operand} {v : Value} {α : Type} {enc : α → Value} {l : List α} (hx : ev T x = some v) (hB : ES enc w v l) (hd : d < N)
 (K : ∀ a', Fr N ds ((d, int l.length) :: T) a' → wpListIn F n P ops Q rest a' w) : wpListIn F n P ops Q (⟨some d, .call { callee := .builtin .len, args := #[x], argTypes := #[t] }, ty, ps, af, g⟩ :: rest) a w := by
 obtain ⟨p, cap, rfl, _⟩ := hB
 exact i_len hF h hg hx hd K
theorem i_idxB (hF : Fd F) (h : Fr N ds T a) (hg : guardOf T ops g = some true) {t e : Nat} [hs : SliceTy P t e] [hz : SizeIs P e 1] {x y : Operand} {j : Nat} {k : IntKind} {v : Value} {α : Type} {enc : α → Value} {l : List α} {c : α}
 (hx : ev T x = some v) (hB : ES enc w v l) (hy : ev T y = some (.int k (j : Int))) (hj : l[j]? = some c) (hd : d < N)
 (K : ∀ b off a', w.cell? ⟨b, off, none⟩ = some (enc c) → Fr N ds ((d, ptr b off) :: T) a' → wpListIn F n P ops Q rest a' w) : wpListIn F n P ops Q (⟨some d, .indexAddr t x y, ty, ps, af, g⟩ :: rest) a w := by
 have hlt : j < l.length := (List.getElem?_eq_some_iff.1 hj).1
 obtain ⟨p, cap, rfl, _, (⟨_, rfl⟩ | ⟨b, off, rfl, _, hc⟩)⟩ := hB
 · simp at hlt
 · exact i_indexAddr hF h hg hx hy hlt (by rw [Nat.mul_one]) hd fun a' ha => K b (off + j) a' (hc j c hj) ha
theorem i_strB (hF : Fd F) (h : Fr N ds T a) (hg : guardOf T ops g = some true) {s t e : TypeId} [hs : SliceTy P s e] [he : IntTy P e .u8] [ht : StrTy P t] {x : Operand} {v : Value} {l : List UInt8} (hx : ev T x = some v) (hB : BS w v l)
 (hd : d < N) (K : ∀ a', Fr N ds ((d, str l) :: T) a' → wpListIn F n P ops Q rest a' w) : wpListIn F n P ops Q (⟨some d, .convert s t x, ty, ps, af, g⟩ :: rest) a w := by
 obtain ⟨p, cap, rfl, _, (⟨rfl, rfl⟩ | ⟨b, off, rfl, _, hc⟩)⟩ := hB
 · exact i_bytesStr_nil hF h hg hx hd K
 · exact i_bytesStr hF h hg hx (fun j u hj => by rw [add_mk]; exact hc j u hj) hd K
theorem i_yield (h : Fr N ds T a) (hg : guardOf T ops g = some true) {x : Operand} {l : Nat} (hx : ev T x = some (.func (.yield l) #[] #[])) {xs : List Operand} {vs : List Value} (hv : evs T xs = some vs) {A B : World → Prop}
 (hy : YieldAt Fence.wide 0 P l vs.toArray w fun e W' => (e = .returned (.bool true) ∧ A W') ∨ (e = .returned (.bool false) ∧ B W')) {ats : Array TypeId} (hd : d < N)
 (KT : ∀ W', A W' → ∀ a', Fr N ds ((d, .bool true) :: T) a' → wpListIn Fence.wide 0 P ops Q rest a' W') (KF : ∀ W', B W' → ∀ a', Fr N ds ((d, .bool false) :: T) a' → wpListIn Fence.wide 0 P ops Q rest a' W') :
 wpListIn Fence.wide 0 P ops Q (⟨some d, .call { callee := .value x, args := xs.toArray, argTypes := ats }, ty, ps, af, g⟩ :: rest) a w := by
 obtain ⟨fn, tmps, assign, body, hrun, hR⟩ := hy
 have e := evs_eval h hv
 rw [wpListIn, if_pos (wanted_of h hg)]
 refine ⟨fun f _ => trivial, ?_⟩
 rw [Oper.semAt_plain Fence.wide _ _ (by simp)]
 have hr : (execOp a.eval ⟨some d, .call { callee := .value x, args := xs.toArray, argTypes := ats }, ty, ps, af, g⟩).run P w = .ok (.round l fn tmps assign body) w := by
  simp only [execOp, resolve, h.eval hx, List.map_toArray, e, Deferred.ofValue]
  simpa [invoke] using hrun
 rw [hr, Oper.uponIn_round]
 refine ⟨fun hs => (by cases hs), RoundIn.mono hR ?_⟩
 rintro e W' (⟨rfl, ha⟩ | ⟨rfl, hb⟩)
 · exact KT W' ha _ (h.put hd _)
 · exact KF W' hb _ (h.put hd _)
end
section
variable {F : Fence} {n : Nat} {P : Program} {Q : Exit → Act → World → Prop} {a : Act} {w : World}
theorem c_label {l : Nat} (h : Q .normal a w) : (Code.label l).wpIn F n P Q a w := wpIn_label h
theorem c_labelThen {l : Nat} {c : Code} (h : c.wpIn F n P Q a w) : (Code.label l).wpIn F n P (Exit.then (c.wpIn F n P Q) Q) a w := wpIn_label h
theorem x_noGoto (h : Q .normal a w) : Exit.noGoto Q .normal a w := h
theorem c_scope {c : Code} (h : c.wpIn F n P (Exit.noGoto Q) a w) : (Code.scope c).wpIn F n P Q a w := by
 intro b k cs hro hb hr
 have s1 : Go.step P (lone (b.atR a (.code (.scope c) :: k)) cs w) = .next (lone (b.atR a (.code c :: .inScope c :: k)) cs w) := step_lone_go (by simp [stepG, stepG.exec, Frame.atR])
 have s2 : ∀ a w, Go.step P (lone (b.atR a (.inScope c :: k)) cs w) = .next (lone (b.atR a k) cs w) := fun a w => step_lone_go (by simp [stepG, stepG.exec, Frame.atR])
 have h0 : (lone (b.atR a (.code (.scope c) :: k)) cs w).fenced P F := fenced_calm hb hr rfl
 obtain ⟨e, a₁, w₁, hq, harr⟩ := h b (.inScope c :: k) cs hro hb hr
 cases e with
 | normal => exact ⟨.normal, a₁, w₁, hq, .head h0 s1 (StepsIn.trans harr (.one (fenced_calm hb hr rfl) (s2 _ _)))⟩
 | exit id => exact ⟨.exit id, a₁, w₁, hq, .of_steps (.one h0 s1) (show ArrivesIn _ _ _ b k cs (.exit id) a₁ w₁ from ⟨fun k' hk => harr.1 k' (by simp [exitTo, hk]), fun hr hk => harr.2 hr (by simp [exitTo, hk])⟩)⟩
 | goto l => exact hq.elim
 | ret => exact ⟨_, a₁, w₁, hq, .of_steps (.one h0 s1) harr⟩
 | panic ch => exact ⟨_, a₁, w₁, hq, .of_steps (.one h0 s1) harr⟩
 | outgrown => exact ⟨_, a₁, w₁, hq, .of_steps (.one h0 s1) harr⟩
end
end Go.Proofs.YtjlmpghcjgbfjaaGreatDoor.Ex
namespace Go.Proofs.YtjlmpghcjgbfjaaGreatDoor.Cw
open Go Go.RowKit Go.Proofs Ex Cd
set_option maxRecDepth 100000
/-- what a round over the ops of code is handed -/
def encO (c : List UInt8) (k : Nat) : List Value := [int k, byt (c.getD k 0)]
theorem opsN_stop : ∀ (m k : Nat) (c : List UInt8), c.length ≤ k → opsN m c k = []
 | 0, _, _, _ => rfl
 | m + 1, k, c, h => by rw [opsN, if_neg (by omega)]
theorem opsN_more : ∀ (m m' k : Nat) (c : List UInt8), c.length ≤ k + m → m ≤ m' → opsN m' c k = opsN m c k
 | 0, m', k, c, h, _ => by rw [opsN_stop m' k c (by omega)]; rfl
 | m + 1, 0, k, c, _, h => by omega
 | m + 1, m' + 1, k, c, h, hm => by
  rw [opsN, opsN]
  split
  · rw [opsN_more m m' _ c (by omega) (by omega)]
  · rfl
theorem opsN_step (m k : Nat) (c : List UInt8) (h : c.length ≤ k + m) (hk : k < c.length) : opsN m c k = k :: opsN m c (k + 1 + sz (c.getD k 0).toNat) := by
 cases m with
 | zero => omega
 | succ m =>
  rw [opsN, if_pos hk, opsN_more m (m + 1) _ c (by omega) (by omega)]
theorem ops_iter (bx : Nat) (v : Value) (c : List UInt8) (hc : c.length ≤ 1000000) :
 Iter Tryz.prog 21 [ptr bx 0] (encO c) (fun xs => xs = ops c) (fun pre => pre <+: ops c) (fun W => W.cell? ⟨bx, 0, none⟩ = some v ∧ BS W v c) := by
 intro l n0 w0 J Jx w L hRd h0 H hY
 refine callsIn_wide.2 ?_
 refine enter Tryz.func21 rfl (Nat.le_of_ble_eq_true rfl) ?_
 intro a h; rw [Tryz.ntmps21] at h
 have hF := Fd.wide
 refine c_scope ?_
 repeat refine cS0 ?_
 refine c_labelThen ?_
 repeat refine cS0 ?_
 refine cR0 ?_
 refine sA0 hF h rfl rfl (by decide) ?_
 clear h; intro a h
 first | refine cEt0 ?_ | refine cE0 ?_
 repeat refine cS0 ?_
 refine c_block ?_
 refine c_loopN (fun q a' w' => ∃ pre k L1, q = c.length - k ∧ ops c = pre ++ opsN c.length c k ∧ J pre L1 ∧ Fr 24 [] [(3, int (k : Nat)), (1, ptr bx 0), (0, .func (.yield l) #[] #[])] a' ∧ St n0 w0 L1 w') c.length ⟨[], 0, L, rfl, rfl, h0, (h.sub (by repeat (first | exact trivial | refine ⟨rfl, ?_⟩))), H⟩ ?_
 clear h H h0
 rintro q a w ⟨pre, k, L1, rfl, hops, hJ, h, H⟩
 have hR := hRd pre L1 w hJ H
 by_cases hk : k < c.length
 · repeat refine cS0 ?_
   refine cR0 ?_
   refine sM0 hF h rfl rfl (by decide) ?_
   clear h; intro a h
   refine i_loadW hF h rfl rfl hR.1 (by decide) ?_
   clear h; intro a h
   refine i_lenB hF h rfl rfl hR.2 (by decide) ?_
   clear h; intro a h
   (first | (refine iC0 hF h rfl rfl rfl (i_lss_t (by omega)) (by decide) ?_) | (refine iC0 hF h rfl rfl rfl (i_lss_f (by omega)) (by decide) ?_))
   clear h; intro a h
   first | refine cEt0 ?_ | refine cE0 ?_
   repeat refine cS0 ?_
   refine c_condT h rfl ?_
   first | refine cKt0 ?_ | refine cK0 ?_
   obtain ⟨x, hx⟩ : ∃ x, c[k]? = some x := ⟨_, List.getElem?_eq_getElem hk⟩
   have hxd : c.getD k 0 = x := by rw [List.getD_eq_getElem?_getD, hx]; rfl
   have hst := opsN_step c.length k c (by omega) hk
   rw [hxd] at hst
   have hpre : pre ++ [k] <+: ops c := ⟨opsN c.length c (k + 1 + sz x.toNat), by rw [hops, hst]; simp⟩
   have hy := hY [] pre k L1 w hJ hpre H
   have hen : encO c k = [int k, byt x] := by rw [encO, hxd]
   rw [hen] at hy
   repeat refine cS0 ?_
   refine c_block ?_
   repeat refine cS0 ?_
   refine cR0 ?_
   refine sM0 hF h rfl rfl (by decide) ?_
   clear h; intro a h
   refine sM0 hF h rfl rfl (by decide) ?_
   clear h; intro a h
   refine i_loadW hF h rfl rfl hR.1 (by decide) ?_
   clear h; intro a h
   refine sM0 hF h rfl rfl (by decide) ?_
   clear h; intro a h
   refine i_idxB hF h rfl rfl hR.2 rfl hx (by decide) ?_
   clear h; intro be bo a hbe h
   refine i_loadW hF h rfl rfl hbe (by decide) ?_
   clear h; intro a h
   refine i_yield h rfl rfl rfl hy (by decide) ?_ ?_
   · clear h H
     rintro w ⟨L2, hJ2, H⟩ a h
     have hR := hRd _ L2 w hJ2 H
     have hs32 := sz_le x.toNat
     refine i_not hF h rfl rfl (by decide) ?_
     clear h; intro a h; try simp only [Bool.not_true] at h
     refine cEt0 ?_
     repeat refine cS0 ?_
     refine c_condF h rfl ?_
     first | refine cKt0 ?_ | refine cK0 ?_
     with_reducible repeat (first | refine xa0 ?_ | refine xb0 ?_ | refine xc0 ?_ | refine xd0 ?_ | refine xe0 (by decide) ?_ | refine xf0 ?_ | refine xg0 ?_ | refine xh0 ?_ | refine xi0 ?_)
     repeat refine cS0 ?_
     refine cR0 ?_
     refine sM0 hF h rfl rfl (by decide) ?_
     clear h; intro a h
     refine i_loadW hF h rfl rfl hR.1 (by decide) ?_
     clear h; intro a h
     refine sM0 hF h rfl rfl (by decide) ?_
     clear h; intro a h
     refine i_idxB hF h rfl rfl hR.2 rfl hx (by decide) ?_
     clear h; intro be bo a hbe h
     refine i_loadW hF h rfl rfl hbe (by decide) ?_
     clear h; intro a h
     refine i_call hF h rfl (size_ret _ _) rfl (by decide) ?_
     clear h; rintro _ w ⟨rfl, hb⟩ a h; replace H := H.call hb; clear hb
     refine i_ar64 hF h rfl rfl rfl rfl (by omega) (by omega) (by decide) ?_
     clear h; intro a h
     refine i_ar64 hF h rfl rfl rfl rfl (by omega) (by omega) (by decide) ?_
     clear h; intro a h
     refine sA0 hF h rfl rfl (by decide) ?_
     clear h; intro a h
     refine cE0 ?_
     refine ⟨c.length - (k + 1 + sz x.toNat), by omega, pre ++ [k], k + 1 + sz x.toNat, L2, rfl, by rw [hops, hst]; simp, hJ2, ?_, H⟩
     rw [show ((k + 1 + sz x.toNat : Nat) : Int) = (k : Int) + (1 + (sz x.toNat : Int)) by omega]
     exact (h.sub (by repeat (first | exact trivial | refine ⟨rfl, ?_⟩)))
   · clear h H
     rintro w ⟨L2, hJ2, H⟩ a h
     refine i_not hF h rfl rfl (by decide) ?_
     clear h; intro a h; try simp only [Bool.not_false] at h
     refine cEt0 ?_
     repeat refine cS0 ?_
     refine c_condT h rfl ?_
     refine c_exit ?_
     with_reducible repeat (first | refine xa0 ?_ | refine xb0 ?_ | refine xc0 ?_ | refine xd0 ?_ | refine xe0 (by decide) ?_ | refine xf0 ?_ | refine xg0 ?_ | refine xh0 ?_ | refine xi0 ?_)
     refine x_noGoto (leaveN (fn := Tryz.f21) h Tryz.results21 .nil ?_)
     exact ⟨⟨_, rfl⟩, .inr ⟨pre ++ [k], L2, hpre, hJ2, H⟩⟩
 · repeat refine cS0 ?_
   refine cR0 ?_
   refine sM0 hF h rfl rfl (by decide) ?_
   clear h; intro a h
   refine i_loadW hF h rfl rfl hR.1 (by decide) ?_
   clear h; intro a h
   refine i_lenB hF h rfl rfl hR.2 (by decide) ?_
   clear h; intro a h
   (first | (refine iC0 hF h rfl rfl rfl (i_lss_t (by omega)) (by decide) ?_) | (refine iC0 hF h rfl rfl rfl (i_lss_f (by omega)) (by decide) ?_))
   clear h; intro a h
   first | refine cEt0 ?_ | refine cE0 ?_
   repeat refine cS0 ?_
   refine c_condF h rfl ?_
   refine c_exit ?_
   with_reducible repeat (first | refine xa0 ?_ | refine xb0 ?_ | refine xc0 ?_ | refine xd0 ?_ | refine xe0 (by decide) ?_ | refine xf0 ?_ | refine xg0 ?_ | refine xh0 ?_ | refine xi0 ?_)
   refine x_noGoto (leaveN (fn := Tryz.f21) h Tryz.results21 .nil ?_)
   rw [opsN_stop _ _ _ (by omega), List.append_nil] at hops
   exact ⟨⟨_, rfl⟩, .inl ⟨pre, L1, hops.symm, hJ, H⟩⟩
end Go.Proofs.YtjlmpghcjgbfjaaGreatDoor.Cw
namespace Go.Proofs.YtjlmpghcjgbfjaaGreatDoor.Cw
open Go Go.RowKit Go.Proofs Ex Cd
set_option maxRecDepth 100000
theorem opsF_ret (v : Value) (h1 : v.oneCell' = true) (w : World) : Rets Tryz.prog 9 [v] w fun u w' => ∃ bx, u = .func (.func 21) #[] #[ptr bx 0] ∧ w.heap.size ≤ bx ∧ w'.heap[bx]? = some (.cells [v].toArray 22 (0, 0)) ∧ Below w.heap.size w w' := by
 refine enter Tryz.func9 rfl (Nat.le_of_ble_eq_true rfl) ?_
 intro a h; rw [Tryz.ntmps9] at h
 have hF := Fd.wide; have H := St.begin w
 repeat refine cS0 ?_
 refine cR0 ?_
 refine i_box1 hF h H rfl rfl h1 (by decide) ?_
 clear h H; intro a w b1 _ h H
 refine sA0 hF h rfl rfl (by decide) ?_
 clear h; intro a h
 refine cEt0 ?_
 repeat refine cS0 ?_
 refine cR0 ?_
 refine i_makeFunc hF h rfl rfl (by decide) ?_
 clear h; intro a h
 refine sA0 hF h rfl rfl (by decide) ?_
 clear h; intro a h
 first | refine cEt0 ?_ | refine cE0 ?_
 refine c_ret ?_
 with_reducible repeat (first | refine xa0 ?_ | refine xb0 ?_ | refine xc0 ?_ | refine xd0 ?_ | refine xe0 (by decide) ?_ | refine xf0 ?_ | refine xg0 ?_ | refine xh0 ?_ | refine xi0 ?_)
 refine leave (fn := Tryz.f9) h Tryz.results9 (.tmp rfl (.nil)) ?_
 exact ⟨_, rfl, b1, rfl, H.own _ (List.Mem.head _), H.mem (List.Mem.head _), H.done⟩
theorem ops_length : ∀ (m k : Nat) (c : List UInt8), (opsN m c k).length ≤ m
 | 0, _, _ => Nat.le_refl _
 | m + 1, k, c => by
  rw [opsN]
  split
  · have := ops_length m (k + 1 + sz (c.getD k 0).toNat) c
    simpa using this
  · simp
theorem ops_lt : ∀ (m k : Nat) (c : List UInt8) (x : Nat), x ∈ opsN m c k → x < c.length
 | 0, _, _, _, h => by cases h
 | m + 1, k, c, x, h => by
  rw [opsN] at h
  split at h
  · rcases List.mem_cons.1 h with rfl | h
    · assumption
    · exact ops_lt m _ c x h
  · cases h
def isMark (c : List UInt8) (k : Nat) : Bool := c.getD k 0 == 91
theorem ES_one {α : Type} {enc : α → Value} {w : World} {v : Value} {l : List α} (h : ES enc w v l) : v.oneCell' = true := by
 obtain ⟨p, cap, rfl, _⟩ := h
 rfl
theorem marks_ret (v : Value) (c : List UInt8) (hc : c.length ≤ 1000000) (w : World) (hB : BS w v c) :
 Rets Tryz.prog 15 [v] w fun u w' => GivesRow 3 (fun k : Nat => int k) (marks c) w u w' := by
 have hw0 : w.heap.size ≤ w.heap.size := Nat.le_refl _
 refine enterM Tryz.func15 rfl (Nat.le_of_ble_eq_true rfl) ?_
 intro a h; rw [Tryz.ntmps15] at h
 have hF := Fd.wide; have H := St.begin w
 repeat refine cS0 ?_
 refine cR0 ?_
 refine i_alloc hF h H rfl (by decide) ?_
 clear h H; intro a w b2 _ h H
 first | refine cEt0 ?_ | refine cE0 ?_
 repeat refine cS0 ?_
 refine cR0 ?_
 refine sM0 hF h rfl rfl (by decide) ?_
 clear h; intro a h
 refine i_call hF h rfl (opsF_ret _ (ES_one hB) _) rfl (by decide) ?_
 clear h; rintro _ w ⟨bx, rfl, hbx, hmx, hb⟩ a h; replace H := H.callNew hb hbx hmx; clear hb hbx hmx
 first | refine cEt0 ?_ | refine cE0 ?_
 repeat refine cS0 ?_
 refine c_block ?_
 refine c_rangeFunc (ps := [7, 8]) (Rd := fun W => W.cell? ⟨bx, 0, none⟩ = some v ∧ BS W v c) h H rfl (ops_iter bx v c hc)
  (fun pre L1 => ∃ u R, RowIs 3 1 u (pre.filter (isMark c)).length ((pre.filter (isMark c)).map fun k : Nat => int k) R ∧ L1 = R ++ [(bx, .cells [v].toArray 22 (0, 0)), (b2, .cells [u].toArray 24 (0, 0))]) (fun _ _ _ => False)
  (fun k => [(4, byt (c.getD k 0)), (3, int (k : Nat)), (2, ptr b2 0), (0, v)]) (fun _ => rfl) (by decide) ⟨.slice none 0 0, [], RowIs.nil 3 1, rfl⟩ ?_ ?_ ?_ ?_ ?_
 · rintro pre _ W ⟨u, R, hr, rfl⟩ H
   exact ⟨by rw [cell_of (H.mem (by repeat (first | exact mh1 | apply mt1 | apply ma1)))]; rfl, hB.at H (Nat.le_refl _)⟩
 · intro l k w a h
   have hF := Fd.inRound l
   repeat refine cS0 ?_
   refine cR0 ?_
   refine sA0 hF h rfl rfl (by decide) ?_
   clear h; intro a h
   first | refine cEt0 ?_ | refine cE0 ?_
   repeat refine cS0 ?_
   refine cR0 ?_
   refine sA0 hF h rfl rfl (by decide) ?_
   clear h; intro a h
   refine cE0 ?_
   exact ⟨rfl, (h.sub (by repeat (first | exact trivial | refine ⟨rfl, ?_⟩)))⟩
 · clear h H
   rintro l E pre k _ w a ⟨u, R, hr, rfl⟩ hsp H h
   have hF := Fd.inRound l
   have hlen : pre.length + 1 ≤ 1000000 := by
    have h1 := hsp.length_le
    have h2 := ops_length c.length 0 c
    simp only [List.length_append, List.length_cons, List.length_nil] at h1
    unfold ops at h1
    omega
   have hfl := List.length_filter_le (isMark c) pre
   refine c_block ?_
   by_cases hm : (c.getD k 0).toNat = 91
   · repeat refine cS0 ?_
     refine cR0 ?_
     refine sM0 hF h rfl rfl (by decide) ?_
     clear h; intro a h
     (first | (refine iC0 hF h rfl rfl rfl (i_eql_t (by omega)) (by decide) ?_) | (refine iC0 hF h rfl rfl rfl (i_eql_f (by omega)) (by decide) ?_))
     clear h; intro a h
     first | refine cEt0 ?_ | refine cE0 ?_
     repeat refine cS0 ?_
     refine c_condT h rfl ?_
     replace H := H.swap
     repeat refine cS0 ?_
     refine cR0 ?_
     refine iL0 hF h H rfl rfl (by repeat (first | exact mh1 | apply mt1 | apply ma1)) (by exact rfl) (by decide) ?_
     clear h; intro a h
     refine sM0 hF h rfl rfl (by decide) ?_
     clear h; intro a h
     refine i_buildSlice hF h H rfl rfl (by decide) (by decide) rfl (by decide) ?_
     clear h H; intro a w b13 _ h H
     replace H := H.newIn
     refine i_append hF h hr H rfl rfl rfl (m := 1) (news := [int (k : Nat)]) rfl (cells_own H (by repeat (first | exact mh1 | apply mt1 | apply ma1))) (by simp [Value.oneCell']) (by omega) (by omega) (by decide) ?_
     clear h H
     intro a w u' R' hr' H h
     refine jS0 hF h H rfl rfl rfl hr'.one (by repeat (first | exact Upd.here | apply Upd.there | apply Upd.app)) (by repeat (first | exact SetAt.zero | apply SetAt.succ)) ?_
     clear H; intro w H
     refine cE0 ?_
     with_reducible repeat (first | refine xa0 ?_ | refine xb0 ?_ | refine xc0 ?_ | refine xd0 ?_ | refine xe0 (by decide) ?_ | refine xf0 ?_ | refine xg0 ?_ | refine xh0 ?_ | refine xi0 ?_)
     refine ⟨_, ⟨u', R', ?_, rfl⟩, H.dropIn.swap⟩
     have hmk : isMark c k = true := by
      unfold isMark
      rw [show c.getD k 0 = 91 from UInt8.toNat_inj.1 hm]; rfl
     rw [List.filter_append, List.filter_cons_of_pos hmk]
     simpa using hr'
   · repeat refine cS0 ?_
     refine cR0 ?_
     refine sM0 hF h rfl rfl (by decide) ?_
     clear h; intro a h
     (first | (refine iC0 hF h rfl rfl rfl (i_eql_t (by omega)) (by decide) ?_) | (refine iC0 hF h rfl rfl rfl (i_eql_f (by omega)) (by decide) ?_))
     clear h; intro a h
     first | refine cEt0 ?_ | refine cE0 ?_
     repeat refine cS0 ?_
     refine c_condF h rfl ?_
     first | refine cKt0 ?_ | refine cK0 ?_
     with_reducible repeat (first | refine xa0 ?_ | refine xb0 ?_ | refine xc0 ?_ | refine xd0 ?_ | refine xe0 (by decide) ?_ | refine xf0 ?_ | refine xg0 ?_ | refine xh0 ?_ | refine xi0 ?_)
     refine ⟨_, ⟨u, R, ?_, rfl⟩, H⟩
     have hmk : ¬ isMark c k = true := by
      unfold isMark
      intro e
      have := eq_of_beq e
      rw [this] at hm
      exact hm rfl
     rw [List.filter_append, List.filter_cons_of_neg hmk]
     simpa using hr
 · clear h H
   rintro D xs _ w a rfl ⟨u, R, hr, rfl⟩ H h
   with_reducible repeat (first | refine xa0 ?_ | refine xb0 ?_ | refine xc0 ?_ | refine xd0 ?_ | refine xe0 (by decide) ?_ | refine xf0 ?_ | refine xg0 ?_ | refine xh0 ?_ | refine xi0 ?_)
   repeat refine cS0 ?_
   refine cR0 ?_
   refine iL0 hF h H rfl rfl (by repeat (first | exact mh1 | apply mt1 | apply ma1)) (by exact rfl) (by decide) ?_
   clear h; intro a h
   refine jS0 hF h H rfl rfl rfl hr.one (by repeat (first | exact Upd.here | apply Upd.there | apply Upd.app)) (by repeat (first | exact SetAt.zero | apply SetAt.succ)) ?_
   clear H; intro w H
   first | refine cEt0 ?_ | refine cE0 ?_
   refine c_ret ?_
   with_reducible repeat (first | refine xa0 ?_ | refine xb0 ?_ | refine xc0 ?_ | refine xd0 ?_ | refine xe0 (by decide) ?_ | refine xf0 ?_ | refine xg0 ?_ | refine xh0 ?_ | refine xi0 ?_)
   refine leaveM (Ds := [D]) (fn := Tryz.f15) Tryz.results15 h H (fun w' H' => .own rfl H' (by repeat (first | exact mh1 | apply mt1 | apply ma1)) rfl .nil) (fun w' H' => ?_)
   exact ⟨_, rfl, GivesRow.of (L := [(bx, .cells [v].toArray 22 (0, 0)), (b2, .cells [u].toArray 24 (0, 0))]) hr rfl H'⟩
 · rintro _ _ _ _ _ _ _ h _ _
   exact h.elim
end Go.Proofs.YtjlmpghcjgbfjaaGreatDoor.Cw
namespace Go.Proofs.YtjlmpghcjgbfjaaGreatDoor.Ex
open Go Go.RowKit
def rowB (l : List UInt8) (junk : List Value) : Obj := .cells (l.map byt ++ junk).toArray 5 (0, 0)
abbrev sl (b n cap : Nat) : Value := .slice (some ⟨b, 0, none⟩) n cap
/-- the row's bytes are the same, in some order -/
def Mixed (n0 : Nat) (w0 : World) (b : Nat) (junk : List Value) (X : List (Nat × Obj)) (l : List UInt8) (w : World) : Prop := ∃ l', l'.Perm l ∧ St n0 w0 ((b, rowB l' junk) :: X) w
theorem swapP {l : List UInt8} {i j : Nat} (hi : i < l.length) (hj : j < l.length) : ((l.set i (l.getD j 0)).set j (l.getD i 0)).Perm l := by
 have := List.set_set_perm hi hj
 rwa [show l[j] = l.getD j 0 by rw [List.getD_eq_getElem?_getD, List.getElem?_eq_getElem hj]; rfl, show l[i] = l.getD i 0 by rw [List.getD_eq_getElem?_getD, List.getElem?_eq_getElem hi]; rfl] at this
theorem c_join {F : Fence} {n : Nat} {P : Program} {Q : Exit → Act → World → Prop} {a : Act} {w : World} {x : Code} {K : Act → World → Prop} (I : Act → World → Prop) (h1 : x.wpIn F n P (Exit.then I Q) a w) (h2 : ∀ a w, I a w → K a w) : x.wpIn F n P (Exit.then K Q) a w :=
 wpIn_mono h1 fun e a w h => by cases e <;> first | exact h2 a w h | exact h
theorem c_joinQ {F : Fence} {n : Nat} {P : Program} {Q : Exit → Act → World → Prop} {a : Act} {w : World} {x : Code} (I : Act → World → Prop) (h1 : x.wpIn F n P (Exit.then I Q) a w) (h2 : ∀ a w, I a w → Q .normal a w) : x.wpIn F n P Q a w :=
 wpIn_mono h1 fun e a w h => by cases e <;> first | exact h2 a w h | exact h
section
variable {F : Fence} {n : Nat} {P : Program} {ops : Array Oper} {Q : Exit → Act → World → Prop} {a : Act} {w : World} {rest : List Oper}
variable {N : Nat} {ds : List Deferred} {T : List (Nat × Value)} {n0 : Nat} {w0 : World} {L L' : List (Nat × Obj)}
variable {ty : TypeId} {ps : String} {af : Array Edge} {g : Option (Nat × Bool)} {d : Nat}
theorem i_idxRow (hF : Fd F) (h : Fr N ds T a) (hg : guardOf T ops g = some true) {t e : Nat} [hs : SliceTy P t e] [hz : SizeIs P e 1] {x y : Operand} {b m cap : Nat} {z : Int} {k : IntKind}
 (hx : ev T x = some (sl b m cap)) (hy : ev T y = some (.int k z)) (h0 : 0 ≤ z) (hm : z < m) (hd : d < N)
 (K : ∀ a', Fr N ds ((d, ptr b z.toNat) :: T) a' → wpListIn F n P ops Q rest a' w) : wpListIn F n P ops Q (⟨some d, .indexAddr t x y, ty, ps, af, g⟩ :: rest) a w :=
 i_indexAddr hF h hg (j := z.toNat) hx (by rw [hy, Int.toNat_of_nonneg h0]) (by omega) (by omega) hd K
theorem i_loadRow (hF : Fd F) (h : Fr N ds T a) (H : St n0 w0 L w) (hg : guardOf T ops g = some true) {t : TypeId} [hp : PlainTy P t] {x : Operand} {b o : Nat} {l : List UInt8} {junk : List Value}
 (hx : ev T x = some (ptr b o)) (hm : (b, rowB l junk) ∈ L) (ho : o < l.length) (hd : d < N)
 (K : ∀ a', Fr N ds ((d, byt (l.getD o 0)) :: T) a' → wpListIn F n P ops Q rest a' w) : wpListIn F n P ops Q (⟨some d, .load t x, ty, ps, af, g⟩ :: rest) a w :=
 i_loadW hF h hg hx (by
  rw [cell_of (H.mem hm), List.getElem?_toArray, List.getElem?_append_left (by simpa using ho), List.getElem?_map, List.getD_eq_getElem?_getD, List.getElem?_eq_getElem ho]
  rfl) hd K
theorem i_storeRow (hF : Fd F) (h : Fr N ds T a) (H : St n0 w0 L w) (hg : guardOf T ops g = some true) {t : TypeId} [hs : SizeIs P t 1] {x y : Operand} {b o : Nat} {l : List UInt8} {junk : List Value} {c : UInt8}
 (hx : ev T x = some (ptr b o)) (hy : ev T y = some (byt c)) (hu : Upd b (rowB l junk) (rowB (l.set o c) junk) L L') (ho : o < l.length)
 (K : ∀ w', St n0 w0 L' w' → wpListIn F n P ops Q rest a w') : wpListIn F n P ops Q (⟨none, .store t x y, ty, ps, af, g⟩ :: rest) a w :=
 i_store hF h H hg hx hy rfl hu (by rw [List.set_append_left _ _ (by simpa using ho), ← List.map_set]) (by simp; omega) K
theorem i_quo (hF : Fd F) (h : Fr N ds T a) (hg : guardOf T ops g = some true) {t t' : TypeId} {x y : Operand} {k : IntKind} {p q : Int} (hx : ev T x = some (.int k p)) (hy : ev T y = some (.int k q))
 (h0 : 0 ≤ p) (h1 : 0 < q) (hm : p ≤ k.max) (hd : d < N) (K : ∀ a', Fr N ds ((d, .int k (p / q)) :: T) a' → wpListIn F n P ops Q rest a' w) : wpListIn F n P ops Q (⟨some d, .binOp .quo t x y t', ty, ps, af, g⟩ :: rest) a w :=
 step hF h hg (by simp) (v := .int k (p / q)) (w' := w) (by
  have hz : ¬ q = 0 := by omega
  have hb : 0 ≤ p / q := Int.ediv_nonneg h0 (by omega)
  have hc : p / q ≤ p := Int.ediv_le_self q h0
  have hmin : k.min ≤ 0 := by cases k <;> decide
  have hw := wrap_id k (p / q) (by omega) (by omega)
  have ht : p.tdiv q = p / q := Int.tdiv_eq_ediv_of_nonneg h0
  simp [execOp, h.eval hx, h.eval hy, eqGuard_at_int, binOp, Op.intDiv, hz, ht, hw]) (K _ (h.put hd _))
theorem i_rem (hF : Fd F) (h : Fr N ds T a) (hg : guardOf T ops g = some true) {t t' : TypeId} {x y : Operand} {k : IntKind} {p q : Int} (hx : ev T x = some (.int k p)) (hy : ev T y = some (.int k q))
 (h0 : 0 ≤ p) (h1 : 0 < q) (hd : d < N) (K : ∀ a', Fr N ds ((d, .int k (p % q)) :: T) a' → wpListIn F n P ops Q rest a' w) : wpListIn F n P ops Q (⟨some d, .binOp .rem t x y t', ty, ps, af, g⟩ :: rest) a w :=
 step hF h hg (by simp) (v := .int k (p % q)) (w' := w) (by
  have hz : ¬ q = 0 := by omega
  have ht : p.tmod q = p % q := Int.tmod_eq_emod_of_nonneg h0
  simp [execOp, h.eval hx, h.eval hy, eqGuard_at_int, binOp, Op.intDiv, hz, ht]) (K _ (h.put hd _))
def bitI (k : IntKind) : BinOp → Int → Int → Option Int
 | .and, p, q => some (k.wrap (BitVec.ofInt k.bits p &&& BitVec.ofInt k.bits q).toNat)
 | .or, p, q => some (k.wrap (BitVec.ofInt k.bits p ||| BitVec.ofInt k.bits q).toNat)
 | .xor, p, q => some (k.wrap (BitVec.ofInt k.bits p ^^^ BitVec.ofInt k.bits q).toNat)
 | _, _, _ => none
theorem i_bit (hF : Fd F) (h : Fr N ds T a) (hg : guardOf T ops g = some true) {t t' : TypeId} {o : BinOp} {x y : Operand} {k : IntKind} {p q z : Int} (hx : ev T x = some (.int k p)) (hy : ev T y = some (.int k q))
 (hr : bitI k o p q = some z) (hd : d < N) (K : ∀ a', Fr N ds ((d, .int k z) :: T) a' → wpListIn F n P ops Q rest a' w) : wpListIn F n P ops Q (⟨some d, .binOp o t x y t', ty, ps, af, g⟩ :: rest) a w :=
 step hF h hg (by simp) (v := .int k z) (w' := w) (by
  cases o <;> simp only [bitI, Option.some.injEq] at hr <;> first
   | (cases hr; done)
   | (subst hr; simp [execOp, h.eval hx, h.eval hy, eqGuard_at_int, binOp, Op.intBits])) (K _ (h.put hd _))
def shI (k : IntKind) : BinOp → Int → Int → Option Int
 | .shl, p, q => some (k.wrap (p * 2 ^ min q.toNat k.bits))
 | .shr, p, q => some (p.fdiv (2 ^ min q.toNat k.bits))
 | _, _, _ => none
theorem i_sh (hF : Fd F) (h : Fr N ds T a) (hg : guardOf T ops g = some true) {t t' : TypeId} {o : BinOp} {x y : Operand} {k k' : IntKind} {p q z : Int} (hx : ev T x = some (.int k p)) (hy : ev T y = some (.int k' q)) (h0 : 0 ≤ q)
 (hr : shI k o p q = some z) (hd : d < N) (K : ∀ a', Fr N ds ((d, .int k z) :: T) a' → wpListIn F n P ops Q rest a' w) : wpListIn F n P ops Q (⟨some d, .binOp o t x y t', ty, ps, af, g⟩ :: rest) a w :=
 step hF h hg (by simp) (v := .int k z) (w' := w) (by
  have hn : ¬ q < 0 := by omega
  cases o <;> simp only [shI, Option.some.injEq] at hr <;> first
   | (cases hr; done)
   | (subst hr; simp [execOp, h.eval hx, h.eval hy, eqGuard_at_int, binOp, Op.shift, hn])) (K _ (h.put hd _))
theorem i_andU (hF : Fd F) (h : Fr N ds T a) (hg : guardOf T ops g = some true) {t t' : TypeId} {x y : Operand} {p q : Int} (hx : ev T x = some (.int .u64 p)) (hy : ev T y = some (.int .u64 q))
 (h0 : 0 ≤ q) (h1 : q ≤ 18446744073709551615) (hd : d < N) (K : ∀ z a', 0 ≤ z → z ≤ q → Fr N ds ((d, .int .u64 z) :: T) a' → wpListIn F n P ops Q rest a' w) : wpListIn F n P ops Q (⟨some d, .binOp .and t x y t', ty, ps, af, g⟩ :: rest) a w := by
 obtain ⟨v, hv⟩ : ∃ v, v = (BitVec.ofInt IntKind.u64.bits p &&& BitVec.ofInt IntKind.u64.bits q).toNat := ⟨_, rfl⟩
 have hq : q % ((2 ^ IntKind.u64.bits : Nat) : Int) = q := Int.emod_eq_of_lt h0 (by show q < 18446744073709551616; omega)
 have hle : v ≤ q.toNat := by
  rw [hv, BitVec.toNat_and]
  refine Nat.le_trans Nat.and_le_right ?_
  rw [BitVec.toNat_ofInt, hq]
  exact Nat.le_refl _
 have hw : IntKind.u64.wrap (v : Int) = v := wrap_id .u64 _ (by simp only [IntKind.min, IntKind.signed, IntKind.bits, Bool.false_eq_true, if_false]; omega) (by simp only [IntKind.max, IntKind.signed, IntKind.bits, Bool.false_eq_true, if_false]; omega)
 exact i_bit hF h hg hx hy (by rw [bitI, ← hv, hw]) hd fun a' h' => K _ a' (by omega) (by omega) h'
end
end Go.Proofs.YtjlmpghcjgbfjaaGreatDoor.Ex
namespace Go.Proofs.YtjlmpghcjgbfjaaGreatDoor.Cw
open Go Go.RowKit Go.Proofs Ex Cd
set_option maxRecDepth 100000
theorem isNaN_ret (x : UInt8) (w : World) : Rets Tryz.prog 129 [byt x] w fun v w' => v = .bool false ∧ Below w.heap.size w w' := by
 refine enter Tryz.func129 rfl (Nat.le_of_ble_eq_true rfl) ?_
 intro a h; rw [Tryz.ntmps129] at h
 have hF := Fd.wide; have H := St.begin w
 repeat refine cS0 ?_
 refine cR0 ?_
 refine sA0 hF h rfl rfl (by decide) ?_
 clear h; intro a h
 first | refine cEt0 ?_ | refine cE0 ?_
 repeat refine cS0 ?_
 refine cR0 ?_
 refine sM0 hF h rfl rfl (by decide) ?_
 clear h; intro a h
 refine sM0 hF h rfl rfl (by decide) ?_
 clear h; intro a h
 (first | (refine iC0 hF h rfl rfl rfl (i_neq_t (by omega)) (by decide) ?_) | (refine iC0 hF h rfl rfl rfl (i_neq_f (by omega)) (by decide) ?_))
 clear h; intro a h
 refine sA0 hF h rfl rfl (by decide) ?_
 clear h; intro a h
 first | refine cEt0 ?_ | refine cE0 ?_
 refine c_ret ?_
 with_reducible repeat (first | refine xa0 ?_ | refine xb0 ?_ | refine xc0 ?_ | refine xd0 ?_ | refine xe0 (by decide) ?_ | refine xf0 ?_ | refine xg0 ?_ | refine xh0 ?_ | refine xi0 ?_)
 refine leave (fn := Tryz.f129) h Tryz.results129 (.tmp rfl (.nil)) ?_
 exact ⟨_, rfl, rfl, H.done⟩
theorem less_ret (x y : UInt8) (w : World) : Rets Tryz.prog 113 [byt x, byt y] w fun v w' => ∃ q : Bool, v = .bool q ∧ Below w.heap.size w w' := by
 by_cases hlt : x.toNat < y.toNat
 · refine enter Tryz.func113 rfl (Nat.le_of_ble_eq_true rfl) ?_
   intro a h; rw [Tryz.ntmps113] at h
   have hF := Fd.wide; have H := St.begin w
   repeat refine cS0 ?_
   refine cR0 ?_
   refine sA0 hF h rfl rfl (by decide) ?_
   clear h; intro a h
   first | refine cEt0 ?_ | refine cE0 ?_
   repeat refine cS0 ?_
   refine cR0 ?_
   refine sM0 hF h rfl rfl (by decide) ?_
   clear h; intro a h
   refine i_call hF h rfl (isNaN_ret _ _) rfl (by decide) ?_
   clear h; rintro _ w ⟨rfl, hb⟩ a h; replace H := H.call hb; clear hb
   refine sM0 hF h rfl rfl (by decide) ?_
   clear h; intro a h
   first | (refine sK0 hF h rfl (by decide) ?_; clear h; intro a h) | (refine sM0 hF h rfl rfl (by decide) ?_; clear h; intro a h)
   first | (refine sK0 hF h rfl (by decide) ?_; clear h; intro a h) | (refine i_call hF h rfl (isNaN_ret _ _) rfl (by decide) ?_; clear h; rintro _ w ⟨rfl, hb⟩ a h; replace H := H.call hb; clear hb)
   first | (refine sK0 hF h rfl (by decide) ?_; clear h; intro a h) | (refine i_not hF h rfl rfl (by decide) ?_; clear h; intro a h; try simp only [Bool.not_true, Bool.not_false] at h)
   refine s_pick hF h rfl rfl rfl (by decide) ?_
   clear h; intro a h
   refine sM0 hF h rfl rfl (by decide) ?_
   clear h; intro a h
   first | (refine sK0 hF h rfl (by decide) ?_; clear h; intro a h) | (refine sM0 hF h rfl rfl (by decide) ?_; clear h; intro a h)
   first | (refine sK0 hF h rfl (by decide) ?_; clear h; intro a h) | (refine sM0 hF h rfl rfl (by decide) ?_; clear h; intro a h)
   first | (refine sK0 hF h rfl (by decide) ?_; clear h; intro a h) | ((first | (refine iC0 hF h rfl rfl rfl (i_lss_t (by omega)) (by decide) ?_) | (refine iC0 hF h rfl rfl rfl (i_lss_f (by omega)) (by decide) ?_)); clear h; intro a h)
   refine s_pick hF h rfl rfl rfl (by decide) ?_
   clear h; intro a h
   refine sA0 hF h rfl rfl (by decide) ?_
   clear h; intro a h
   first | refine cEt0 ?_ | refine cE0 ?_
   refine c_ret ?_
   with_reducible repeat (first | refine xa0 ?_ | refine xb0 ?_ | refine xc0 ?_ | refine xd0 ?_ | refine xe0 (by decide) ?_ | refine xf0 ?_ | refine xg0 ?_ | refine xh0 ?_ | refine xi0 ?_)
   refine leave (fn := Tryz.f113) h Tryz.results113 (.tmp rfl (.nil)) ?_
   exact ⟨_, rfl, _, rfl, H.done⟩
 · refine enter Tryz.func113 rfl (Nat.le_of_ble_eq_true rfl) ?_
   intro a h; rw [Tryz.ntmps113] at h
   have hF := Fd.wide; have H := St.begin w
   repeat refine cS0 ?_
   refine cR0 ?_
   refine sA0 hF h rfl rfl (by decide) ?_
   clear h; intro a h
   first | refine cEt0 ?_ | refine cE0 ?_
   repeat refine cS0 ?_
   refine cR0 ?_
   refine sM0 hF h rfl rfl (by decide) ?_
   clear h; intro a h
   refine i_call hF h rfl (isNaN_ret _ _) rfl (by decide) ?_
   clear h; rintro _ w ⟨rfl, hb⟩ a h; replace H := H.call hb; clear hb
   refine sM0 hF h rfl rfl (by decide) ?_
   clear h; intro a h
   first | (refine sK0 hF h rfl (by decide) ?_; clear h; intro a h) | (refine sM0 hF h rfl rfl (by decide) ?_; clear h; intro a h)
   first | (refine sK0 hF h rfl (by decide) ?_; clear h; intro a h) | (refine i_call hF h rfl (isNaN_ret _ _) rfl (by decide) ?_; clear h; rintro _ w ⟨rfl, hb⟩ a h; replace H := H.call hb; clear hb)
   first | (refine sK0 hF h rfl (by decide) ?_; clear h; intro a h) | (refine i_not hF h rfl rfl (by decide) ?_; clear h; intro a h; try simp only [Bool.not_true, Bool.not_false] at h)
   refine s_pick hF h rfl rfl rfl (by decide) ?_
   clear h; intro a h
   refine sM0 hF h rfl rfl (by decide) ?_
   clear h; intro a h
   first | (refine sK0 hF h rfl (by decide) ?_; clear h; intro a h) | (refine sM0 hF h rfl rfl (by decide) ?_; clear h; intro a h)
   first | (refine sK0 hF h rfl (by decide) ?_; clear h; intro a h) | (refine sM0 hF h rfl rfl (by decide) ?_; clear h; intro a h)
   first | (refine sK0 hF h rfl (by decide) ?_; clear h; intro a h) | ((first | (refine iC0 hF h rfl rfl rfl (i_lss_t (by omega)) (by decide) ?_) | (refine iC0 hF h rfl rfl rfl (i_lss_f (by omega)) (by decide) ?_)); clear h; intro a h)
   refine s_pick hF h rfl rfl rfl (by decide) ?_
   clear h; intro a h
   refine sA0 hF h rfl rfl (by decide) ?_
   clear h; intro a h
   first | refine cEt0 ?_ | refine cE0 ?_
   refine c_ret ?_
   with_reducible repeat (first | refine xa0 ?_ | refine xb0 ?_ | refine xc0 ?_ | refine xd0 ?_ | refine xe0 (by decide) ?_ | refine xf0 ?_ | refine xg0 ?_ | refine xh0 ?_ | refine xi0 ?_)
   refine leave (fn := Tryz.f113) h Tryz.results113 (.tmp rfl (.nil)) ?_
   exact ⟨_, rfl, _, rfl, H.done⟩
theorem insertion_ret {n0 : Nat} {w0 : World} {b n cap : Nat} {junk : List Value} {X : List (Nat × Obj)} {l : List UInt8} {w : World} (H : St n0 w0 ((b, rowB l junk) :: X) w) (hn : l.length = n) (hn2 : n ≤ 1000000) (p r : Nat) (h1 : p ≤ r) (h2 : r ≤ n) :
 Rets Tryz.prog 107 [sl b n cap, int p, int r] w fun _ w' => Mixed n0 w0 b junk X l w' := by
 refine enter Tryz.func107 rfl (Nat.le_of_ble_eq_true rfl) ?_
 intro a h; rw [Tryz.ntmps107] at h
 have hF := Fd.wide
 repeat refine cS0 ?_
 refine cR0 ?_
 refine sM0 hF h rfl rfl (by decide) ?_
 clear h; intro a h
 refine i_ar64 hF h rfl rfl rfl rfl (by omega) (by omega) (by decide) ?_
 clear h; intro a h
 refine sA0 hF h rfl rfl (by decide) ?_
 clear h; intro a h
 first | refine cEt0 ?_ | refine cE0 ?_
 repeat refine cS0 ?_
 refine c_block ?_
 refine c_loopN (fun k a' w' => ∃ i l', k = n + 1 - i ∧ p < i ∧ i ≤ n + 1 ∧ l'.Perm l ∧ Fr 49 [] [(6, int (i : Nat)), (0, sl b n cap), (1, int p), (2, int r)] a' ∧ St n0 w0 ((b, rowB l' junk) :: X) w') (n - p) ⟨p + 1, l, by omega, by omega, by omega, .refl _, (h.sub (by repeat (first | exact trivial | refine ⟨rfl, ?_⟩))), H⟩ ?_
 clear h H
 rintro k a w ⟨i, l', rfl, hi1, hi2, hp, h, H⟩
 have hlen := hp.length_eq
 rw [hn] at hlen
 by_cases hi : i < r
 · repeat refine cS0 ?_
   refine cR0 ?_
   refine sM0 hF h rfl rfl (by decide) ?_
   clear h; intro a h
   refine sM0 hF h rfl rfl (by decide) ?_
   clear h; intro a h
   (first | (refine iC0 hF h rfl rfl rfl (i_lss_t (by omega)) (by decide) ?_) | (refine iC0 hF h rfl rfl rfl (i_lss_f (by omega)) (by decide) ?_))
   clear h; intro a h
   first | refine cEt0 ?_ | refine cE0 ?_
   repeat refine cS0 ?_
   refine c_condT h rfl ?_
   first | refine cKt0 ?_ | refine cK0 ?_
   repeat refine cS0 ?_
   refine c_block ?_
   repeat refine cS0 ?_
   refine cR0 ?_
   refine sM0 hF h rfl rfl (by decide) ?_
   clear h; intro a h
   refine sA0 hF h rfl rfl (by decide) ?_
   clear h; intro a h
   first | refine cEt0 ?_ | refine cE0 ?_
   repeat refine cS0 ?_
   refine c_block ?_
   refine c_loopN (fun k a' w' => ∃ j l', j = k ∧ p ≤ j ∧ j ≤ i ∧ l'.Perm l ∧ Fr 49 [] [(7, int (j : Nat)), (6, int (i : Nat)), (0, sl b n cap), (1, int p), (2, int r)] a' ∧ St n0 w0 ((b, rowB l' junk) :: X) w') i ⟨i, l', rfl, by omega, by omega, hp, (h.sub (by repeat (first | exact trivial | refine ⟨rfl, ?_⟩))), H⟩ ?_
   clear h H hp hlen
   rintro k a w ⟨j, l', rfl, hj1, hj2, hp, h, H⟩
   have hlen := hp.length_eq
   rw [hn] at hlen
   by_cases hj : p < j
   · repeat refine cS0 ?_
     refine d_regionL [] (by kernel_rfl) H ?_
     clear H; intro w H
     apply dQ0 hF h 0 rfl rfl (by kernel_rfl) (by decide) NoP.np (fun _ => H.sub (by repeat (first | exact ln1 | exact ls1 | exact lr1 | apply lk1 | apply List.Sublist.cons | apply la1)))
     · intro w
       refine sM0 hF h rfl rfl (by decide) ?_
       intro a h
       exact ⟨rfl, h⟩
     clear h; intro a h
     apply dQ0 hF h 1 rfl rfl (by kernel_rfl) (by decide) NoP.np (fun _ => H.sub (by repeat (first | exact ln1 | exact ls1 | exact lr1 | apply lk1 | apply List.Sublist.cons | apply la1)))
     · intro w
       refine sM0 hF h rfl rfl (by decide) ?_
       intro a h
       exact ⟨rfl, h⟩
     clear h; intro a h
     apply dQ0 hF h 2 rfl rfl (by kernel_rfl) (by decide) NoP.np (fun _ => H.sub (by repeat (first | exact ln1 | exact ls1 | exact lr1 | apply lk1 | apply List.Sublist.cons | apply la1)))
     · intro w
       (first | (refine iC0 hF h rfl rfl rfl (i_gtr_t (by omega)) (by decide) ?_) | (refine iC0 hF h rfl rfl rfl (i_gtr_f (by omega)) (by decide) ?_))
       intro a h
       exact ⟨rfl, h⟩
     clear h; intro a h
     apply dQ0 hF h 3 rfl rfl (by kernel_rfl) (by decide) NoP.np (fun _ => H.sub (by repeat (first | exact ln1 | exact ls1 | exact lr1 | apply lk1 | apply List.Sublist.cons | apply la1)))
     · intro w
       refine sM0 hF h rfl rfl (by decide) ?_
       intro a h
       exact ⟨rfl, h⟩
     clear h; intro a h
     apply dQ0 hF h 4 rfl rfl (by kernel_rfl) (by decide) NoP.np (fun _ => H.sub (by repeat (first | exact ln1 | exact ls1 | exact lr1 | apply lk1 | apply List.Sublist.cons | apply la1)))
     · intro w
       first | (refine sK0 hF h rfl (by decide) ?_; intro a h) | (refine sM0 hF h rfl rfl (by decide) ?_; intro a h)
       exact ⟨rfl, h⟩
     clear h; intro a h
     apply dQ0 hF h 5 rfl rfl (by kernel_rfl) (by decide) NoP.np (fun _ => H.sub (by repeat (first | exact ln1 | exact ls1 | exact lr1 | apply lk1 | apply List.Sublist.cons | apply la1)))
     · intro w
       first | (refine sK0 hF h rfl (by decide) ?_; intro a h) | (refine sM0 hF h rfl rfl (by decide) ?_; intro a h)
       exact ⟨rfl, h⟩
     clear h; intro a h
     apply dQ0 hF h 6 rfl rfl (by kernel_rfl) (by decide) NoP.np (fun _ => H.sub (by repeat (first | exact ln1 | exact ls1 | exact lr1 | apply lk1 | apply List.Sublist.cons | apply la1)))
     · intro w
       first | (refine sK0 hF h rfl (by decide) ?_; intro a h) | (refine i_idxRow hF h rfl rfl rfl (by omega) (by omega) (by decide) ?_; intro a h)
       exact ⟨rfl, h⟩
     clear h; intro a h
     apply dP0 hF h 7 rfl rfl (by kernel_rfl) (by decide) NoP.np (by kernel_rfl) (H.sub (by repeat (first | exact ln1 | exact ls1 | exact lr1 | apply lk1 | apply List.Sublist.cons | apply la1)))
     · intro w H
       first | (refine sK0 hF h rfl (by decide) ?_; intro a h) | (refine i_loadRow hF h H rfl rfl (by repeat (first | exact mh1 | apply mt1 | apply ma1)) (by omega) (by decide) ?_; intro a h)
       exact ⟨rfl, h⟩
     clear h; intro a h
     apply dQ0 hF h 8 rfl rfl (by kernel_rfl) (by decide) NoP.np (fun _ => H.sub (by repeat (first | exact ln1 | exact ls1 | exact lr1 | apply lk1 | apply List.Sublist.cons | apply la1)))
     · intro w
       first | (refine sK0 hF h rfl (by decide) ?_; intro a h) | (refine sM0 hF h rfl rfl (by decide) ?_; intro a h)
       exact ⟨rfl, h⟩
     clear h; intro a h
     apply dQ0 hF h 9 rfl rfl (by kernel_rfl) (by decide) NoP.np (fun _ => H.sub (by repeat (first | exact ln1 | exact ls1 | exact lr1 | apply lk1 | apply List.Sublist.cons | apply la1)))
     · intro w
       first | (refine sK0 hF h rfl (by decide) ?_; intro a h) | (refine sM0 hF h rfl rfl (by decide) ?_; intro a h)
       exact ⟨rfl, h⟩
     clear h; intro a h
     apply dQ0 hF h 10 rfl rfl (by kernel_rfl) (by decide) NoP.np (fun _ => H.sub (by repeat (first | exact ln1 | exact ls1 | exact lr1 | apply lk1 | apply List.Sublist.cons | apply la1)))
     · intro w
       first | (refine sK0 hF h rfl (by decide) ?_; intro a h) | (refine i_ar64 hF h rfl rfl rfl rfl (by omega) (by omega) (by decide) ?_; intro a h)
       exact ⟨rfl, h⟩
     clear h; intro a h
     apply dQ0 hF h 11 rfl rfl (by kernel_rfl) (by decide) NoP.np (fun _ => H.sub (by repeat (first | exact ln1 | exact ls1 | exact lr1 | apply lk1 | apply List.Sublist.cons | apply la1)))
     · intro w
       first | (refine sK0 hF h rfl (by decide) ?_; intro a h) | (refine i_idxRow hF h rfl rfl rfl (by omega) (by omega) (by decide) ?_; intro a h)
       exact ⟨rfl, h⟩
     clear h; intro a h
     apply dP0 hF h 12 rfl rfl (by kernel_rfl) (by decide) NoP.np (by kernel_rfl) (H.sub (by repeat (first | exact ln1 | exact ls1 | exact lr1 | apply lk1 | apply List.Sublist.cons | apply la1)))
     · intro w H
       first | (refine sK0 hF h rfl (by decide) ?_; intro a h) | (refine i_loadRow hF h H rfl rfl (by repeat (first | exact mh1 | apply mt1 | apply ma1)) (by omega) (by decide) ?_; intro a h)
       exact ⟨rfl, h⟩
     clear h; intro a h
     refine dE0 13 rfl (by kernel_rfl) ?_
     first | (refine sK0 hF h rfl (by decide) ?_; clear h; intro a h) | (refine i_call hF h rfl (less_ret _ _ _) rfl (by decide) ?_; clear h; rintro _ w ⟨q, rfl, hb⟩ a h; replace H := H.call hb; clear hb)
     refine dN0 (H.sub (by repeat (first | exact ln1 | exact ls1 | exact lr1 | apply lk1 | apply List.Sublist.cons | apply la1))) ?_
     apply dQ0 hF h 14 rfl rfl (by kernel_rfl) (by decide) NoP.np (fun _ => H.sub (by repeat (first | exact ln1 | exact ls1 | exact lr1 | apply lk1 | apply List.Sublist.cons | apply la1)))
     · intro w
       refine s_pick hF h rfl rfl rfl (by decide) ?_
       intro a h
       exact ⟨rfl, h⟩
     clear h; intro a h
     first | refine d_endThen (by kernel_rfl) ?_ | refine d_endQ (by kernel_rfl) ?_
     cases q
     · repeat refine cS0 ?_
       refine c_condF h rfl ?_
       refine c_exit ?_
       with_reducible repeat (first | refine xa0 ?_ | refine xb0 ?_ | refine xc0 ?_ | refine xd0 ?_ | refine xe0 (by decide) ?_ | refine xf0 ?_ | refine xg0 ?_ | refine xh0 ?_ | refine xi0 ?_)
       repeat refine cS0 ?_
       refine cR0 ?_
       refine sM0 hF h rfl rfl (by decide) ?_
       clear h; intro a h
       refine i_ar64 hF h rfl rfl rfl rfl (by omega) (by omega) (by decide) ?_
       clear h; intro a h
       refine sA0 hF h rfl rfl (by decide) ?_
       clear h; intro a h
       refine cE0 ?_
       exact ⟨n + 1 - (i + 1), by omega, i + 1, l', rfl, by omega, by omega, hp, (h.sub (by repeat (first | exact trivial | refine ⟨rfl, ?_⟩))), H⟩
     · repeat refine cS0 ?_
       refine c_condT h rfl ?_
       first | refine cKt0 ?_ | refine cK0 ?_
       repeat refine cS0 ?_
       refine c_block ?_
       repeat refine cS0 ?_
       refine d_regionL [15, 17] (by kernel_rfl) H ?_
       clear H; intro w H
       apply dQ0 hF h 0 rfl rfl (by kernel_rfl) (by decide) NoP.np (fun _ => H.sub (by repeat (first | exact ln1 | exact ls1 | exact lr1 | apply lk1 | apply List.Sublist.cons | apply la1)))
       · intro w
         refine sM0 hF h rfl rfl (by decide) ?_
         intro a h
         exact ⟨rfl, h⟩
       clear h; intro a h
       apply dQ0 hF h 1 rfl rfl (by kernel_rfl) (by decide) NoP.np (fun _ => H.sub (by repeat (first | exact ln1 | exact ls1 | exact lr1 | apply lk1 | apply List.Sublist.cons | apply la1)))
       · intro w
         refine sM0 hF h rfl rfl (by decide) ?_
         intro a h
         exact ⟨rfl, h⟩
       clear h; intro a h
       apply dQ0 hF h 2 rfl rfl (by kernel_rfl) (by decide) NoP.np (fun _ => H.sub (by repeat (first | exact ln1 | exact ls1 | exact lr1 | apply lk1 | apply List.Sublist.cons | apply la1)))
       · intro w
         refine sM0 hF h rfl rfl (by decide) ?_
         intro a h
         exact ⟨rfl, h⟩
       clear h; intro a h
       apply dQ0 hF h 3 rfl rfl (by kernel_rfl) (by decide) NoP.np (fun _ => H.sub (by repeat (first | exact ln1 | exact ls1 | exact lr1 | apply lk1 | apply List.Sublist.cons | apply la1)))
       · intro w
         refine sM0 hF h rfl rfl (by decide) ?_
         intro a h
         exact ⟨rfl, h⟩
       clear h; intro a h
       apply dQ0 hF h 4 rfl rfl (by kernel_rfl) (by decide) NoP.np (fun _ => H.sub (by repeat (first | exact ln1 | exact ls1 | exact lr1 | apply lk1 | apply List.Sublist.cons | apply la1)))
       · intro w
         refine i_ar64 hF h rfl rfl rfl rfl (by omega) (by omega) (by decide) ?_
         intro a h
         exact ⟨rfl, h⟩
       clear h; intro a h
       apply dQ0 hF h 5 rfl rfl (by kernel_rfl) (by decide) NoP.np (fun _ => H.sub (by repeat (first | exact ln1 | exact ls1 | exact lr1 | apply lk1 | apply List.Sublist.cons | apply la1)))
       · intro w
         refine sM0 hF h rfl rfl (by decide) ?_
         intro a h
         exact ⟨rfl, h⟩
       clear h; intro a h
       apply dQ0 hF h 6 rfl rfl (by kernel_rfl) (by decide) NoP.np (fun _ => H.sub (by repeat (first | exact ln1 | exact ls1 | exact lr1 | apply lk1 | apply List.Sublist.cons | apply la1)))
       · intro w
         refine sM0 hF h rfl rfl (by decide) ?_
         intro a h
         exact ⟨rfl, h⟩
       clear h; intro a h
       apply dQ0 hF h 7 rfl rfl (by kernel_rfl) (by decide) NoP.np (fun _ => H.sub (by repeat (first | exact ln1 | exact ls1 | exact lr1 | apply lk1 | apply List.Sublist.cons | apply la1)))
       · intro w
         refine i_ar64 hF h rfl rfl rfl rfl (by omega) (by omega) (by decide) ?_
         intro a h
         exact ⟨rfl, h⟩
       clear h; intro a h
       apply dQ0 hF h 8 rfl rfl (by kernel_rfl) (by decide) NoP.np (fun _ => H.sub (by repeat (first | exact ln1 | exact ls1 | exact lr1 | apply lk1 | apply List.Sublist.cons | apply la1)))
       · intro w
         refine i_idxRow hF h rfl rfl rfl (by omega) (by omega) (by decide) ?_
         intro a h
         exact ⟨rfl, h⟩
       clear h; intro a h
       apply dP0 hF h 9 rfl rfl (by kernel_rfl) (by decide) NoP.np (by kernel_rfl) (H.sub (by repeat (first | exact ln1 | exact ls1 | exact lr1 | apply lk1 | apply List.Sublist.cons | apply la1)))
       · intro w H
         refine i_loadRow hF h H rfl rfl (by repeat (first | exact mh1 | apply mt1 | apply ma1)) (by omega) (by decide) ?_
         intro a h
         exact ⟨rfl, h⟩
       clear h; intro a h
       apply dQ0 hF h 10 rfl rfl (by kernel_rfl) (by decide) NoP.np (fun _ => H.sub (by repeat (first | exact ln1 | exact ls1 | exact lr1 | apply lk1 | apply List.Sublist.cons | apply la1)))
       · intro w
         refine sM0 hF h rfl rfl (by decide) ?_
         intro a h
         exact ⟨rfl, h⟩
       clear h; intro a h
       apply dQ0 hF h 11 rfl rfl (by kernel_rfl) (by decide) NoP.np (fun _ => H.sub (by repeat (first | exact ln1 | exact ls1 | exact lr1 | apply lk1 | apply List.Sublist.cons | apply la1)))
       · intro w
         refine sM0 hF h rfl rfl (by decide) ?_
         intro a h
         exact ⟨rfl, h⟩
       clear h; intro a h
       apply dQ0 hF h 12 rfl rfl (by kernel_rfl) (by decide) NoP.np (fun _ => H.sub (by repeat (first | exact ln1 | exact ls1 | exact lr1 | apply lk1 | apply List.Sublist.cons | apply la1)))
       · intro w
         refine i_idxRow hF h rfl rfl rfl (by omega) (by omega) (by decide) ?_
         intro a h
         exact ⟨rfl, h⟩
       clear h; intro a h
       apply dP0 hF h 13 rfl rfl (by kernel_rfl) (by decide) NoP.np (by kernel_rfl) (H.sub (by repeat (first | exact ln1 | exact ls1 | exact lr1 | apply lk1 | apply List.Sublist.cons | apply la1)))
       · intro w H
         refine i_loadRow hF h H rfl rfl (by repeat (first | exact mh1 | apply mt1 | apply ma1)) (by omega) (by decide) ?_
         intro a h
         exact ⟨rfl, h⟩
       clear h; intro a h
       apply dQ0 hF h 14 rfl rfl (by kernel_rfl) (by decide) NoP.np (fun _ => H.sub (by repeat (first | exact ln1 | exact ls1 | exact lr1 | apply lk1 | apply List.Sublist.cons | apply la1)))
       · intro w
         refine i_idxRow hF h rfl rfl rfl (by omega) (by omega) (by decide) ?_
         intro a h
         exact ⟨rfl, h⟩
       clear h; intro a h
       refine dE0 15 rfl (by kernel_rfl) ?_
       refine i_storeRow hF h H rfl rfl rfl (by repeat (first | exact Upd.here | apply Upd.there | apply Upd.app)) (by (try simp only [List.length_set]); omega) ?_
       clear H; intro w H
       refine dNm0 (by kernel_rfl) ?_
       apply dQ0 hF h 16 rfl rfl (by kernel_rfl) (by decide) NoP.np (fun hh => absurd hh (by rw [show ph _ _ = true from by kernel_rfl]; decide))
       · intro w
         refine i_idxRow hF h rfl rfl rfl (by omega) (by omega) (by decide) ?_
         intro a h
         exact ⟨rfl, h⟩
       clear h; intro a h
       refine dE0 17 rfl (by kernel_rfl) ?_
       refine i_storeRow hF h H rfl rfl rfl (by repeat (first | exact Upd.here | apply Upd.there | apply Upd.app)) (by (try simp only [List.length_set]); omega) ?_
       clear H; intro w H
       refine dNm0 (by kernel_rfl) ?_
       first | refine d_endThen (by kernel_rfl) ?_ | refine d_endQ (by kernel_rfl) ?_
       with_reducible repeat (first | refine xa0 ?_ | refine xb0 ?_ | refine xc0 ?_ | refine xd0 ?_ | refine xe0 (by decide) ?_ | refine xf0 ?_ | refine xg0 ?_ | refine xh0 ?_ | refine xi0 ?_)
       repeat refine cS0 ?_
       refine cR0 ?_
       refine sM0 hF h rfl rfl (by decide) ?_
       clear h; intro a h
       refine i_ar64 hF h rfl rfl rfl rfl (by omega) (by omega) (by decide) ?_
       clear h; intro a h
       refine sA0 hF h rfl rfl (by decide) ?_
       clear h; intro a h
       refine cE0 ?_
       refine ⟨j - 1, by omega, j - 1, _, rfl, by omega, by omega, ?_, ?_, H⟩
       · have := swapP (l := l') (i := j) (j := j - 1) (by omega) (by omega)
         rw [show ((j : Int) - 1).toNat = j - 1 by omega, show ((j : Int)).toNat = j by omega]
         exact this.trans hp
       · rw [show ((j - 1 : Nat) : Int) = (j : Int) - 1 by omega]
         exact (h.sub (by repeat (first | exact trivial | refine ⟨rfl, ?_⟩)))
   · repeat refine cS0 ?_
     refine d_regionL [] (by kernel_rfl) H ?_
     clear H; intro w H
     apply dQ0 hF h 0 rfl rfl (by kernel_rfl) (by decide) NoP.np (fun _ => H.sub (by repeat (first | exact ln1 | exact ls1 | exact lr1 | apply lk1 | apply List.Sublist.cons | apply la1)))
     · intro w
       refine sM0 hF h rfl rfl (by decide) ?_
       intro a h
       exact ⟨rfl, h⟩
     clear h; intro a h
     apply dQ0 hF h 1 rfl rfl (by kernel_rfl) (by decide) NoP.np (fun _ => H.sub (by repeat (first | exact ln1 | exact ls1 | exact lr1 | apply lk1 | apply List.Sublist.cons | apply la1)))
     · intro w
       refine sM0 hF h rfl rfl (by decide) ?_
       intro a h
       exact ⟨rfl, h⟩
     clear h; intro a h
     apply dQ0 hF h 2 rfl rfl (by kernel_rfl) (by decide) NoP.np (fun _ => H.sub (by repeat (first | exact ln1 | exact ls1 | exact lr1 | apply lk1 | apply List.Sublist.cons | apply la1)))
     · intro w
       (first | (refine iC0 hF h rfl rfl rfl (i_gtr_t (by omega)) (by decide) ?_) | (refine iC0 hF h rfl rfl rfl (i_gtr_f (by omega)) (by decide) ?_))
       intro a h
       exact ⟨rfl, h⟩
     clear h; intro a h
     apply dQ0 hF h 3 rfl rfl (by kernel_rfl) (by decide) NoP.np (fun _ => H.sub (by repeat (first | exact ln1 | exact ls1 | exact lr1 | apply lk1 | apply List.Sublist.cons | apply la1)))
     · intro w
       refine sM0 hF h rfl rfl (by decide) ?_
       intro a h
       exact ⟨rfl, h⟩
     clear h; intro a h
     apply dQ0 hF h 4 rfl rfl (by kernel_rfl) (by decide) NoP.np (fun _ => H.sub (by repeat (first | exact ln1 | exact ls1 | exact lr1 | apply lk1 | apply List.Sublist.cons | apply la1)))
     · intro w
       first | (refine sK0 hF h rfl (by decide) ?_; intro a h) | (refine sM0 hF h rfl rfl (by decide) ?_; intro a h)
       exact ⟨rfl, h⟩
     clear h; intro a h
     apply dQ0 hF h 5 rfl rfl (by kernel_rfl) (by decide) NoP.np (fun _ => H.sub (by repeat (first | exact ln1 | exact ls1 | exact lr1 | apply lk1 | apply List.Sublist.cons | apply la1)))
     · intro w
       first | (refine sK0 hF h rfl (by decide) ?_; intro a h) | (refine sM0 hF h rfl rfl (by decide) ?_; intro a h)
       exact ⟨rfl, h⟩
     clear h; intro a h
     apply dQ0 hF h 6 rfl rfl (by kernel_rfl) (by decide) NoP.np (fun _ => H.sub (by repeat (first | exact ln1 | exact ls1 | exact lr1 | apply lk1 | apply List.Sublist.cons | apply la1)))
     · intro w
       first | (refine sK0 hF h rfl (by decide) ?_; intro a h) | (refine i_idxRow hF h rfl rfl rfl (by omega) (by omega) (by decide) ?_; intro a h)
       exact ⟨rfl, h⟩
     clear h; intro a h
     apply dP0 hF h 7 rfl rfl (by kernel_rfl) (by decide) NoP.np (by kernel_rfl) (H.sub (by repeat (first | exact ln1 | exact ls1 | exact lr1 | apply lk1 | apply List.Sublist.cons | apply la1)))
     · intro w H
       first | (refine sK0 hF h rfl (by decide) ?_; intro a h) | (refine i_loadRow hF h H rfl rfl (by repeat (first | exact mh1 | apply mt1 | apply ma1)) (by omega) (by decide) ?_; intro a h)
       exact ⟨rfl, h⟩
     clear h; intro a h
     apply dQ0 hF h 8 rfl rfl (by kernel_rfl) (by decide) NoP.np (fun _ => H.sub (by repeat (first | exact ln1 | exact ls1 | exact lr1 | apply lk1 | apply List.Sublist.cons | apply la1)))
     · intro w
       first | (refine sK0 hF h rfl (by decide) ?_; intro a h) | (refine sM0 hF h rfl rfl (by decide) ?_; intro a h)
       exact ⟨rfl, h⟩
     clear h; intro a h
     apply dQ0 hF h 9 rfl rfl (by kernel_rfl) (by decide) NoP.np (fun _ => H.sub (by repeat (first | exact ln1 | exact ls1 | exact lr1 | apply lk1 | apply List.Sublist.cons | apply la1)))
     · intro w
       first | (refine sK0 hF h rfl (by decide) ?_; intro a h) | (refine sM0 hF h rfl rfl (by decide) ?_; intro a h)
       exact ⟨rfl, h⟩
     clear h; intro a h
     apply dQ0 hF h 10 rfl rfl (by kernel_rfl) (by decide) NoP.np (fun _ => H.sub (by repeat (first | exact ln1 | exact ls1 | exact lr1 | apply lk1 | apply List.Sublist.cons | apply la1)))
     · intro w
       first | (refine sK0 hF h rfl (by decide) ?_; intro a h) | (refine i_ar64 hF h rfl rfl rfl rfl (by omega) (by omega) (by decide) ?_; intro a h)
       exact ⟨rfl, h⟩
     clear h; intro a h
     apply dQ0 hF h 11 rfl rfl (by kernel_rfl) (by decide) NoP.np (fun _ => H.sub (by repeat (first | exact ln1 | exact ls1 | exact lr1 | apply lk1 | apply List.Sublist.cons | apply la1)))
     · intro w
       first | (refine sK0 hF h rfl (by decide) ?_; intro a h) | (refine i_idxRow hF h rfl rfl rfl (by omega) (by omega) (by decide) ?_; intro a h)
       exact ⟨rfl, h⟩
     clear h; intro a h
     apply dP0 hF h 12 rfl rfl (by kernel_rfl) (by decide) NoP.np (by kernel_rfl) (H.sub (by repeat (first | exact ln1 | exact ls1 | exact lr1 | apply lk1 | apply List.Sublist.cons | apply la1)))
     · intro w H
       first | (refine sK0 hF h rfl (by decide) ?_; intro a h) | (refine i_loadRow hF h H rfl rfl (by repeat (first | exact mh1 | apply mt1 | apply ma1)) (by omega) (by decide) ?_; intro a h)
       exact ⟨rfl, h⟩
     clear h; intro a h
     refine dE0 13 rfl (by kernel_rfl) ?_
     first | (refine sK0 hF h rfl (by decide) ?_; clear h; intro a h) | (refine i_call hF h rfl (less_ret _ _ _) rfl (by decide) ?_; clear h; rintro _ w ⟨q, rfl, hb⟩ a h; replace H := H.call hb; clear hb)
     refine dN0 (H.sub (by repeat (first | exact ln1 | exact ls1 | exact lr1 | apply lk1 | apply List.Sublist.cons | apply la1))) ?_
     apply dQ0 hF h 14 rfl rfl (by kernel_rfl) (by decide) NoP.np (fun _ => H.sub (by repeat (first | exact ln1 | exact ls1 | exact lr1 | apply lk1 | apply List.Sublist.cons | apply la1)))
     · intro w
       refine s_pick hF h rfl rfl rfl (by decide) ?_
       intro a h
       exact ⟨rfl, h⟩
     clear h; intro a h
     first | refine d_endThen (by kernel_rfl) ?_ | refine d_endQ (by kernel_rfl) ?_
     repeat refine cS0 ?_
     refine c_condF h rfl ?_
     refine c_exit ?_
     with_reducible repeat (first | refine xa0 ?_ | refine xb0 ?_ | refine xc0 ?_ | refine xd0 ?_ | refine xe0 (by decide) ?_ | refine xf0 ?_ | refine xg0 ?_ | refine xh0 ?_ | refine xi0 ?_)
     repeat refine cS0 ?_
     refine cR0 ?_
     refine sM0 hF h rfl rfl (by decide) ?_
     clear h; intro a h
     refine i_ar64 hF h rfl rfl rfl rfl (by omega) (by omega) (by decide) ?_
     clear h; intro a h
     refine sA0 hF h rfl rfl (by decide) ?_
     clear h; intro a h
     refine cE0 ?_
     exact ⟨n + 1 - (i + 1), by omega, i + 1, l', rfl, by omega, by omega, hp, (h.sub (by repeat (first | exact trivial | refine ⟨rfl, ?_⟩))), H⟩
 · repeat refine cS0 ?_
   refine cR0 ?_
   refine sM0 hF h rfl rfl (by decide) ?_
   clear h; intro a h
   refine sM0 hF h rfl rfl (by decide) ?_
   clear h; intro a h
   (first | (refine iC0 hF h rfl rfl rfl (i_lss_t (by omega)) (by decide) ?_) | (refine iC0 hF h rfl rfl rfl (i_lss_f (by omega)) (by decide) ?_))
   clear h; intro a h
   first | refine cEt0 ?_ | refine cE0 ?_
   repeat refine cS0 ?_
   refine c_condF h rfl ?_
   refine c_exit ?_
   with_reducible repeat (first | refine xa0 ?_ | refine xb0 ?_ | refine xc0 ?_ | refine xd0 ?_ | refine xe0 (by decide) ?_ | refine xf0 ?_ | refine xg0 ?_ | refine xh0 ?_ | refine xi0 ?_)
   refine leaveN (fn := Tryz.f107) h Tryz.results107 .nil ?_
   exact ⟨_, rfl, l', hp, H⟩
end Go.Proofs.YtjlmpghcjgbfjaaGreatDoor.Cw
namespace Go.Proofs.YtjlmpghcjgbfjaaGreatDoor.Cw
open Go Go.RowKit Go.Proofs Ex Cd
set_option maxRecDepth 100000
theorem sift_ret {n0 : Nat} {w0 : World} {b n cap : Nat} {junk : List Value} {X : List (Nat × Obj)} {l : List UInt8} {w : World} (H : St n0 w0 ((b, rowB l junk) :: X) w) (hn : l.length = n) (hn2 : n ≤ 1000000) (p r f : Nat) (h2 : f + r ≤ n) (hp9 : p ≤ 1000000) :
 Rets Tryz.prog 124 [sl b n cap, int p, int r, int f] w fun _ w' => Mixed n0 w0 b junk X l w' := by
 refine enter Tryz.func124 rfl (Nat.le_of_ble_eq_true rfl) ?_
 intro a h; rw [Tryz.ntmps124] at h
 have hF := Fd.wide
 repeat refine cS0 ?_
 refine cR0 ?_
 refine sM0 hF h rfl rfl (by decide) ?_
 clear h; intro a h
 refine sA0 hF h rfl rfl (by decide) ?_
 clear h; intro a h
 first | refine cEt0 ?_ | refine cE0 ?_
 repeat refine cS0 ?_
 refine c_block ?_
 refine c_loopN (fun k a' w' => ∃ i l', k = r - i ∧ i ≤ 2000001 ∧ l'.Perm l ∧ Fr 76 [] [(8, int (i : Nat)), (0, sl b n cap), (2, int r), (3, int f)] a' ∧ St n0 w0 ((b, rowB l' junk) :: X) w') (r - p) ⟨p, l, by omega, by omega, .refl _, (h.sub (by repeat (first | exact trivial | refine ⟨rfl, ?_⟩))), H⟩ ?_
 clear h H
 rintro k a w ⟨i, l', rfl, hi9, hp, h, H⟩
 have hlen := hp.length_eq
 rw [hn] at hlen
 repeat refine cS0 ?_
 refine c_block ?_
 by_cases hc : 2 * i + 1 < r
 · repeat refine cS0 ?_
   refine cR0 ?_
   refine sM0 hF h rfl rfl (by decide) ?_
   clear h; intro a h
   refine i_ar64 hF h rfl rfl rfl rfl (by omega) (by omega) (by decide) ?_
   clear h; intro a h
   refine i_ar64 hF h rfl rfl rfl rfl (by omega) (by omega) (by decide) ?_
   clear h; intro a h
   refine sA0 hF h rfl rfl (by decide) ?_
   clear h; intro a h
   first | refine cEt0 ?_ | refine cE0 ?_
   repeat refine cS0 ?_
   refine cR0 ?_
   refine sM0 hF h rfl rfl (by decide) ?_
   clear h; intro a h
   refine sM0 hF h rfl rfl (by decide) ?_
   clear h; intro a h
   (first | (refine iC0 hF h rfl rfl rfl (i_geq_t (by omega)) (by decide) ?_) | (refine iC0 hF h rfl rfl rfl (i_geq_f (by omega)) (by decide) ?_))
   clear h; intro a h
   first | refine cEt0 ?_ | refine cE0 ?_
   repeat refine cS0 ?_
   refine c_condF h rfl ?_
   first | refine cKt0 ?_ | refine cK0 ?_
   repeat refine cS0 ?_
   refine c_join (fun a' w' => ∃ q, (q = true → 2 * i + 2 < r) ∧ Fr 76 [] [(36, .bool q), (9, int (2 * i + 1 : Nat)), (8, int (i : Nat)), (0, sl b n cap), (2, int r), (3, int f)] a' ∧ St n0 w0 ((b, rowB l' junk) :: X) w') ?_ ?_
   · by_cases hc2 : 2 * i + 2 < r
     · repeat refine cS0 ?_
       refine d_regionL [] (by kernel_rfl) H ?_
       clear H; intro w H
       apply dQ0 hF h 0 rfl rfl (by kernel_rfl) (by decide) NoP.np (fun _ => H.sub (by repeat (first | exact ln1 | exact ls1 | exact lr1 | apply lk1 | apply List.Sublist.cons | apply la1)))
       · intro w
         refine sM0 hF h rfl rfl (by decide) ?_
         intro a h
         exact ⟨rfl, h⟩
       clear h; intro a h
       apply dQ0 hF h 1 rfl rfl (by kernel_rfl) (by decide) NoP.np (fun _ => H.sub (by repeat (first | exact ln1 | exact ls1 | exact lr1 | apply lk1 | apply List.Sublist.cons | apply la1)))
       · intro w
         refine i_ar64 hF h rfl rfl rfl rfl (by omega) (by omega) (by decide) ?_
         intro a h
         exact ⟨rfl, h⟩
       clear h; intro a h
       apply dQ0 hF h 2 rfl rfl (by kernel_rfl) (by decide) NoP.np (fun _ => H.sub (by repeat (first | exact ln1 | exact ls1 | exact lr1 | apply lk1 | apply List.Sublist.cons | apply la1)))
       · intro w
         refine sM0 hF h rfl rfl (by decide) ?_
         intro a h
         exact ⟨rfl, h⟩
       clear h; intro a h
       apply dQ0 hF h 3 rfl rfl (by kernel_rfl) (by decide) NoP.np (fun _ => H.sub (by repeat (first | exact ln1 | exact ls1 | exact lr1 | apply lk1 | apply List.Sublist.cons | apply la1)))
       · intro w
         (first | (refine iC0 hF h rfl rfl rfl (i_lss_t (by omega)) (by decide) ?_) | (refine iC0 hF h rfl rfl rfl (i_lss_f (by omega)) (by decide) ?_))
         intro a h
         exact ⟨rfl, h⟩
       clear h; intro a h
       apply dQ0 hF h 4 rfl rfl (by kernel_rfl) (by decide) NoP.np (fun _ => H.sub (by repeat (first | exact ln1 | exact ls1 | exact lr1 | apply lk1 | apply List.Sublist.cons | apply la1)))
       · intro w
         refine sM0 hF h rfl rfl (by decide) ?_
         intro a h
         exact ⟨rfl, h⟩
       clear h; intro a h
       apply dQ0 hF h 5 rfl rfl (by kernel_rfl) (by decide) NoP.np (fun _ => H.sub (by repeat (first | exact ln1 | exact ls1 | exact lr1 | apply lk1 | apply List.Sublist.cons | apply la1)))
       · intro w
         first | (refine sK0 hF h rfl (by decide) ?_; intro a h) | (refine sM0 hF h rfl rfl (by decide) ?_; intro a h)
         exact ⟨rfl, h⟩
       clear h; intro a h
       apply dQ0 hF h 6 rfl rfl (by kernel_rfl) (by decide) NoP.np (fun _ => H.sub (by repeat (first | exact ln1 | exact ls1 | exact lr1 | apply lk1 | apply List.Sublist.cons | apply la1)))
       · intro w
         first | (refine sK0 hF h rfl (by decide) ?_; intro a h) | (refine sM0 hF h rfl rfl (by decide) ?_; intro a h)
         exact ⟨rfl, h⟩
       clear h; intro a h
       apply dQ0 hF h 7 rfl rfl (by kernel_rfl) (by decide) NoP.np (fun _ => H.sub (by repeat (first | exact ln1 | exact ls1 | exact lr1 | apply lk1 | apply List.Sublist.cons | apply la1)))
       · intro w
         first | (refine sK0 hF h rfl (by decide) ?_; intro a h) | (refine sM0 hF h rfl rfl (by decide) ?_; intro a h)
         exact ⟨rfl, h⟩
       clear h; intro a h
       apply dQ0 hF h 8 rfl rfl (by kernel_rfl) (by decide) NoP.np (fun _ => H.sub (by repeat (first | exact ln1 | exact ls1 | exact lr1 | apply lk1 | apply List.Sublist.cons | apply la1)))
       · intro w
         first | (refine sK0 hF h rfl (by decide) ?_; intro a h) | (refine i_ar64 hF h rfl rfl rfl rfl (by omega) (by omega) (by decide) ?_; intro a h)
         exact ⟨rfl, h⟩
       clear h; intro a h
       apply dQ0 hF h 9 rfl rfl (by kernel_rfl) (by decide) NoP.np (fun _ => H.sub (by repeat (first | exact ln1 | exact ls1 | exact lr1 | apply lk1 | apply List.Sublist.cons | apply la1)))
       · intro w
         first | (refine sK0 hF h rfl (by decide) ?_; intro a h) | (refine i_idxRow hF h rfl rfl rfl (by omega) (by omega) (by decide) ?_; intro a h)
         exact ⟨rfl, h⟩
       clear h; intro a h
       apply dP0 hF h 10 rfl rfl (by kernel_rfl) (by decide) NoP.np (by kernel_rfl) (H.sub (by repeat (first | exact ln1 | exact ls1 | exact lr1 | apply lk1 | apply List.Sublist.cons | apply la1)))
       · intro w H
         first | (refine sK0 hF h rfl (by decide) ?_; intro a h) | (refine i_loadRow hF h H rfl rfl (by repeat (first | exact mh1 | apply mt1 | apply ma1)) (by omega) (by decide) ?_; intro a h)
         exact ⟨rfl, h⟩
       clear h; intro a h
       apply dQ0 hF h 11 rfl rfl (by kernel_rfl) (by decide) NoP.np (fun _ => H.sub (by repeat (first | exact ln1 | exact ls1 | exact lr1 | apply lk1 | apply List.Sublist.cons | apply la1)))
       · intro w
         first | (refine sK0 hF h rfl (by decide) ?_; intro a h) | (refine sM0 hF h rfl rfl (by decide) ?_; intro a h)
         exact ⟨rfl, h⟩
       clear h; intro a h
       apply dQ0 hF h 12 rfl rfl (by kernel_rfl) (by decide) NoP.np (fun _ => H.sub (by repeat (first | exact ln1 | exact ls1 | exact lr1 | apply lk1 | apply List.Sublist.cons | apply la1)))
       · intro w
         first | (refine sK0 hF h rfl (by decide) ?_; intro a h) | (refine sM0 hF h rfl rfl (by decide) ?_; intro a h)
         exact ⟨rfl, h⟩
       clear h; intro a h
       apply dQ0 hF h 13 rfl rfl (by kernel_rfl) (by decide) NoP.np (fun _ => H.sub (by repeat (first | exact ln1 | exact ls1 | exact lr1 | apply lk1 | apply List.Sublist.cons | apply la1)))
       · intro w
         first | (refine sK0 hF h rfl (by decide) ?_; intro a h) | (refine sM0 hF h rfl rfl (by decide) ?_; intro a h)
         exact ⟨rfl, h⟩
       clear h; intro a h
       apply dQ0 hF h 14 rfl rfl (by kernel_rfl) (by decide) NoP.np (fun _ => H.sub (by repeat (first | exact ln1 | exact ls1 | exact lr1 | apply lk1 | apply List.Sublist.cons | apply la1)))
       · intro w
         first | (refine sK0 hF h rfl (by decide) ?_; intro a h) | (refine i_ar64 hF h rfl rfl rfl rfl (by omega) (by omega) (by decide) ?_; intro a h)
         exact ⟨rfl, h⟩
       clear h; intro a h
       apply dQ0 hF h 15 rfl rfl (by kernel_rfl) (by decide) NoP.np (fun _ => H.sub (by repeat (first | exact ln1 | exact ls1 | exact lr1 | apply lk1 | apply List.Sublist.cons | apply la1)))
       · intro w
         first | (refine sK0 hF h rfl (by decide) ?_; intro a h) | (refine i_ar64 hF h rfl rfl rfl rfl (by omega) (by omega) (by decide) ?_; intro a h)
         exact ⟨rfl, h⟩
       clear h; intro a h
       apply dQ0 hF h 16 rfl rfl (by kernel_rfl) (by decide) NoP.np (fun _ => H.sub (by repeat (first | exact ln1 | exact ls1 | exact lr1 | apply lk1 | apply List.Sublist.cons | apply la1)))
       · intro w
         first | (refine sK0 hF h rfl (by decide) ?_; intro a h) | (refine i_idxRow hF h rfl rfl rfl (by omega) (by omega) (by decide) ?_; intro a h)
         exact ⟨rfl, h⟩
       clear h; intro a h
       apply dP0 hF h 17 rfl rfl (by kernel_rfl) (by decide) NoP.np (by kernel_rfl) (H.sub (by repeat (first | exact ln1 | exact ls1 | exact lr1 | apply lk1 | apply List.Sublist.cons | apply la1)))
       · intro w H
         first | (refine sK0 hF h rfl (by decide) ?_; intro a h) | (refine i_loadRow hF h H rfl rfl (by repeat (first | exact mh1 | apply mt1 | apply ma1)) (by omega) (by decide) ?_; intro a h)
         exact ⟨rfl, h⟩
       clear h; intro a h
       refine dE0 18 rfl (by kernel_rfl) ?_
       first | (refine sK0 hF h rfl (by decide) ?_; clear h; intro a h) | (refine i_call hF h rfl (less_ret _ _ _) rfl (by decide) ?_; clear h; rintro _ w ⟨q, rfl, hb⟩ a h; replace H := H.call hb; clear hb)
       refine dN0 (H.sub (by repeat (first | exact ln1 | exact ls1 | exact lr1 | apply lk1 | apply List.Sublist.cons | apply la1))) ?_
       apply dQ0 hF h 19 rfl rfl (by kernel_rfl) (by decide) NoP.np (fun _ => H.sub (by repeat (first | exact ln1 | exact ls1 | exact lr1 | apply lk1 | apply List.Sublist.cons | apply la1)))
       · intro w
         refine s_pick hF h rfl rfl rfl (by decide) ?_
         intro a h
         exact ⟨rfl, h⟩
       clear h; intro a h
       first | refine d_endThen (by kernel_rfl) ?_ | refine d_endQ (by kernel_rfl) ?_
       exact ⟨q, fun _ => hc2, (h.sub (by repeat (first | exact trivial | refine ⟨rfl, ?_⟩))), H⟩
     · repeat refine cS0 ?_
       refine d_regionL [] (by kernel_rfl) H ?_
       clear H; intro w H
       apply dQ0 hF h 0 rfl rfl (by kernel_rfl) (by decide) NoP.np (fun _ => H.sub (by repeat (first | exact ln1 | exact ls1 | exact lr1 | apply lk1 | apply List.Sublist.cons | apply la1)))
       · intro w
         refine sM0 hF h rfl rfl (by decide) ?_
         intro a h
         exact ⟨rfl, h⟩
       clear h; intro a h
       apply dQ0 hF h 1 rfl rfl (by kernel_rfl) (by decide) NoP.np (fun _ => H.sub (by repeat (first | exact ln1 | exact ls1 | exact lr1 | apply lk1 | apply List.Sublist.cons | apply la1)))
       · intro w
         refine i_ar64 hF h rfl rfl rfl rfl (by omega) (by omega) (by decide) ?_
         intro a h
         exact ⟨rfl, h⟩
       clear h; intro a h
       apply dQ0 hF h 2 rfl rfl (by kernel_rfl) (by decide) NoP.np (fun _ => H.sub (by repeat (first | exact ln1 | exact ls1 | exact lr1 | apply lk1 | apply List.Sublist.cons | apply la1)))
       · intro w
         refine sM0 hF h rfl rfl (by decide) ?_
         intro a h
         exact ⟨rfl, h⟩
       clear h; intro a h
       apply dQ0 hF h 3 rfl rfl (by kernel_rfl) (by decide) NoP.np (fun _ => H.sub (by repeat (first | exact ln1 | exact ls1 | exact lr1 | apply lk1 | apply List.Sublist.cons | apply la1)))
       · intro w
         (first | (refine iC0 hF h rfl rfl rfl (i_lss_t (by omega)) (by decide) ?_) | (refine iC0 hF h rfl rfl rfl (i_lss_f (by omega)) (by decide) ?_))
         intro a h
         exact ⟨rfl, h⟩
       clear h; intro a h
       apply dQ0 hF h 4 rfl rfl (by kernel_rfl) (by decide) NoP.np (fun _ => H.sub (by repeat (first | exact ln1 | exact ls1 | exact lr1 | apply lk1 | apply List.Sublist.cons | apply la1)))
       · intro w
         refine sM0 hF h rfl rfl (by decide) ?_
         intro a h
         exact ⟨rfl, h⟩
       clear h; intro a h
       apply dQ0 hF h 5 rfl rfl (by kernel_rfl) (by decide) NoP.np (fun _ => H.sub (by repeat (first | exact ln1 | exact ls1 | exact lr1 | apply lk1 | apply List.Sublist.cons | apply la1)))
       · intro w
         first | (refine sK0 hF h rfl (by decide) ?_; intro a h) | (refine sM0 hF h rfl rfl (by decide) ?_; intro a h)
         exact ⟨rfl, h⟩
       clear h; intro a h
       apply dQ0 hF h 6 rfl rfl (by kernel_rfl) (by decide) NoP.np (fun _ => H.sub (by repeat (first | exact ln1 | exact ls1 | exact lr1 | apply lk1 | apply List.Sublist.cons | apply la1)))
       · intro w
         first | (refine sK0 hF h rfl (by decide) ?_; intro a h) | (refine sM0 hF h rfl rfl (by decide) ?_; intro a h)
         exact ⟨rfl, h⟩
       clear h; intro a h
       apply dQ0 hF h 7 rfl rfl (by kernel_rfl) (by decide) NoP.np (fun _ => H.sub (by repeat (first | exact ln1 | exact ls1 | exact lr1 | apply lk1 | apply List.Sublist.cons | apply la1)))
       · intro w
         first | (refine sK0 hF h rfl (by decide) ?_; intro a h) | (refine sM0 hF h rfl rfl (by decide) ?_; intro a h)
         exact ⟨rfl, h⟩
       clear h; intro a h
       apply dQ0 hF h 8 rfl rfl (by kernel_rfl) (by decide) NoP.np (fun _ => H.sub (by repeat (first | exact ln1 | exact ls1 | exact lr1 | apply lk1 | apply List.Sublist.cons | apply la1)))
       · intro w
         first | (refine sK0 hF h rfl (by decide) ?_; intro a h) | (refine i_ar64 hF h rfl rfl rfl rfl (by omega) (by omega) (by decide) ?_; intro a h)
         exact ⟨rfl, h⟩
       clear h; intro a h
       apply dQ0 hF h 9 rfl rfl (by kernel_rfl) (by decide) NoP.np (fun _ => H.sub (by repeat (first | exact ln1 | exact ls1 | exact lr1 | apply lk1 | apply List.Sublist.cons | apply la1)))
       · intro w
         first | (refine sK0 hF h rfl (by decide) ?_; intro a h) | (refine i_idxRow hF h rfl rfl rfl (by omega) (by omega) (by decide) ?_; intro a h)
         exact ⟨rfl, h⟩
       clear h; intro a h
       apply dP0 hF h 10 rfl rfl (by kernel_rfl) (by decide) NoP.np (by kernel_rfl) (H.sub (by repeat (first | exact ln1 | exact ls1 | exact lr1 | apply lk1 | apply List.Sublist.cons | apply la1)))
       · intro w H
         first | (refine sK0 hF h rfl (by decide) ?_; intro a h) | (refine i_loadRow hF h H rfl rfl (by repeat (first | exact mh1 | apply mt1 | apply ma1)) (by omega) (by decide) ?_; intro a h)
         exact ⟨rfl, h⟩
       clear h; intro a h
       apply dQ0 hF h 11 rfl rfl (by kernel_rfl) (by decide) NoP.np (fun _ => H.sub (by repeat (first | exact ln1 | exact ls1 | exact lr1 | apply lk1 | apply List.Sublist.cons | apply la1)))
       · intro w
         first | (refine sK0 hF h rfl (by decide) ?_; intro a h) | (refine sM0 hF h rfl rfl (by decide) ?_; intro a h)
         exact ⟨rfl, h⟩
       clear h; intro a h
       apply dQ0 hF h 12 rfl rfl (by kernel_rfl) (by decide) NoP.np (fun _ => H.sub (by repeat (first | exact ln1 | exact ls1 | exact lr1 | apply lk1 | apply List.Sublist.cons | apply la1)))
       · intro w
         first | (refine sK0 hF h rfl (by decide) ?_; intro a h) | (refine sM0 hF h rfl rfl (by decide) ?_; intro a h)
         exact ⟨rfl, h⟩
       clear h; intro a h
       apply dQ0 hF h 13 rfl rfl (by kernel_rfl) (by decide) NoP.np (fun _ => H.sub (by repeat (first | exact ln1 | exact ls1 | exact lr1 | apply lk1 | apply List.Sublist.cons | apply la1)))
       · intro w
         first | (refine sK0 hF h rfl (by decide) ?_; intro a h) | (refine sM0 hF h rfl rfl (by decide) ?_; intro a h)
         exact ⟨rfl, h⟩
       clear h; intro a h
       apply dQ0 hF h 14 rfl rfl (by kernel_rfl) (by decide) NoP.np (fun _ => H.sub (by repeat (first | exact ln1 | exact ls1 | exact lr1 | apply lk1 | apply List.Sublist.cons | apply la1)))
       · intro w
         first | (refine sK0 hF h rfl (by decide) ?_; intro a h) | (refine i_ar64 hF h rfl rfl rfl rfl (by omega) (by omega) (by decide) ?_; intro a h)
         exact ⟨rfl, h⟩
       clear h; intro a h
       apply dQ0 hF h 15 rfl rfl (by kernel_rfl) (by decide) NoP.np (fun _ => H.sub (by repeat (first | exact ln1 | exact ls1 | exact lr1 | apply lk1 | apply List.Sublist.cons | apply la1)))
       · intro w
         first | (refine sK0 hF h rfl (by decide) ?_; intro a h) | (refine i_ar64 hF h rfl rfl rfl rfl (by omega) (by omega) (by decide) ?_; intro a h)
         exact ⟨rfl, h⟩
       clear h; intro a h
       apply dQ0 hF h 16 rfl rfl (by kernel_rfl) (by decide) NoP.np (fun _ => H.sub (by repeat (first | exact ln1 | exact ls1 | exact lr1 | apply lk1 | apply List.Sublist.cons | apply la1)))
       · intro w
         first | (refine sK0 hF h rfl (by decide) ?_; intro a h) | (refine i_idxRow hF h rfl rfl rfl (by omega) (by omega) (by decide) ?_; intro a h)
         exact ⟨rfl, h⟩
       clear h; intro a h
       apply dP0 hF h 17 rfl rfl (by kernel_rfl) (by decide) NoP.np (by kernel_rfl) (H.sub (by repeat (first | exact ln1 | exact ls1 | exact lr1 | apply lk1 | apply List.Sublist.cons | apply la1)))
       · intro w H
         first | (refine sK0 hF h rfl (by decide) ?_; intro a h) | (refine i_loadRow hF h H rfl rfl (by repeat (first | exact mh1 | apply mt1 | apply ma1)) (by omega) (by decide) ?_; intro a h)
         exact ⟨rfl, h⟩
       clear h; intro a h
       refine dE0 18 rfl (by kernel_rfl) ?_
       first | (refine sK0 hF h rfl (by decide) ?_; clear h; intro a h) | (refine i_call hF h rfl (less_ret _ _ _) rfl (by decide) ?_; clear h; rintro _ w ⟨q, rfl, hb⟩ a h; replace H := H.call hb; clear hb)
       refine dN0 (H.sub (by repeat (first | exact ln1 | exact ls1 | exact lr1 | apply lk1 | apply List.Sublist.cons | apply la1))) ?_
       apply dQ0 hF h 19 rfl rfl (by kernel_rfl) (by decide) NoP.np (fun _ => H.sub (by repeat (first | exact ln1 | exact ls1 | exact lr1 | apply lk1 | apply List.Sublist.cons | apply la1)))
       · intro w
         refine s_pick hF h rfl rfl rfl (by decide) ?_
         intro a h
         exact ⟨rfl, h⟩
       clear h; intro a h
       first | refine d_endThen (by kernel_rfl) ?_ | refine d_endQ (by kernel_rfl) ?_
       exact ⟨false, fun h => (by cases h), (h.sub (by repeat (first | exact trivial | refine ⟨rfl, ?_⟩))), H⟩
   clear h H
   rintro a w ⟨q, hq, h, H⟩
   repeat refine cS0 ?_
   refine c_join (fun a' w' => ∃ c, i < c ∧ c < r ∧ c ≤ 2 * i + 2 ∧ Fr 76 [] [(9, int (c : Nat)), (8, int (i : Nat)), (0, sl b n cap), (2, int r), (3, int f)] a' ∧ St n0 w0 ((b, rowB l' junk) :: X) w') ?_ ?_
   · cases q
     · repeat refine cS0 ?_
       refine c_condF h rfl ?_
       refine cK0 ?_
       exact ⟨2 * i + 1, by omega, by omega, by omega, (h.sub (by repeat (first | exact trivial | refine ⟨rfl, ?_⟩))), H⟩
     · have := hq rfl
       repeat refine cS0 ?_
       refine c_condT h rfl ?_
       repeat refine cS0 ?_
       refine cR0 ?_
       refine sM0 hF h rfl rfl (by decide) ?_
       clear h; intro a h
       refine i_ar64 hF h rfl rfl rfl rfl (by omega) (by omega) (by decide) ?_
       clear h; intro a h
       refine sA0 hF h rfl rfl (by decide) ?_
       clear h; intro a h
       refine cE0 ?_
       exact ⟨2 * i + 2, by omega, by omega, by omega, (h.sub (by repeat (first | exact trivial | refine ⟨rfl, ?_⟩))), H⟩
   clear h H hq
   rintro a w ⟨c, hc1, hc2, hc3, h, H⟩
   repeat refine cS0 ?_
   refine d_regionL [] (by kernel_rfl) H ?_
   clear H; intro w H
   apply dQ0 hF h 0 rfl rfl (by kernel_rfl) (by decide) NoP.np (fun _ => H.sub (by repeat (first | exact ln1 | exact ls1 | exact lr1 | apply lk1 | apply List.Sublist.cons | apply la1)))
   · intro w
     refine sM0 hF h rfl rfl (by decide) ?_
     intro a h
     exact ⟨rfl, h⟩
   clear h; intro a h
   apply dQ0 hF h 1 rfl rfl (by kernel_rfl) (by decide) NoP.np (fun _ => H.sub (by repeat (first | exact ln1 | exact ls1 | exact lr1 | apply lk1 | apply List.Sublist.cons | apply la1)))
   · intro w
     refine sM0 hF h rfl rfl (by decide) ?_
     intro a h
     exact ⟨rfl, h⟩
   clear h; intro a h
   apply dQ0 hF h 2 rfl rfl (by kernel_rfl) (by decide) NoP.np (fun _ => H.sub (by repeat (first | exact ln1 | exact ls1 | exact lr1 | apply lk1 | apply List.Sublist.cons | apply la1)))
   · intro w
     refine sM0 hF h rfl rfl (by decide) ?_
     intro a h
     exact ⟨rfl, h⟩
   clear h; intro a h
   apply dQ0 hF h 3 rfl rfl (by kernel_rfl) (by decide) NoP.np (fun _ => H.sub (by repeat (first | exact ln1 | exact ls1 | exact lr1 | apply lk1 | apply List.Sublist.cons | apply la1)))
   · intro w
     refine i_ar64 hF h rfl rfl rfl rfl (by omega) (by omega) (by decide) ?_
     intro a h
     exact ⟨rfl, h⟩
   clear h; intro a h
   apply dQ0 hF h 4 rfl rfl (by kernel_rfl) (by decide) NoP.np (fun _ => H.sub (by repeat (first | exact ln1 | exact ls1 | exact lr1 | apply lk1 | apply List.Sublist.cons | apply la1)))
   · intro w
     refine i_idxRow hF h rfl rfl rfl (by omega) (by omega) (by decide) ?_
     intro a h
     exact ⟨rfl, h⟩
   clear h; intro a h
   apply dP0 hF h 5 rfl rfl (by kernel_rfl) (by decide) NoP.np (by kernel_rfl) (H.sub (by repeat (first | exact ln1 | exact ls1 | exact lr1 | apply lk1 | apply List.Sublist.cons | apply la1)))
   · intro w H
     refine i_loadRow hF h H rfl rfl (by repeat (first | exact mh1 | apply mt1 | apply ma1)) (by omega) (by decide) ?_
     intro a h
     exact ⟨rfl, h⟩
   clear h; intro a h
   apply dQ0 hF h 6 rfl rfl (by kernel_rfl) (by decide) NoP.np (fun _ => H.sub (by repeat (first | exact ln1 | exact ls1 | exact lr1 | apply lk1 | apply List.Sublist.cons | apply la1)))
   · intro w
     refine sM0 hF h rfl rfl (by decide) ?_
     intro a h
     exact ⟨rfl, h⟩
   clear h; intro a h
   apply dQ0 hF h 7 rfl rfl (by kernel_rfl) (by decide) NoP.np (fun _ => H.sub (by repeat (first | exact ln1 | exact ls1 | exact lr1 | apply lk1 | apply List.Sublist.cons | apply la1)))
   · intro w
     refine sM0 hF h rfl rfl (by decide) ?_
     intro a h
     exact ⟨rfl, h⟩
   clear h; intro a h
   apply dQ0 hF h 8 rfl rfl (by kernel_rfl) (by decide) NoP.np (fun _ => H.sub (by repeat (first | exact ln1 | exact ls1 | exact lr1 | apply lk1 | apply List.Sublist.cons | apply la1)))
   · intro w
     refine sM0 hF h rfl rfl (by decide) ?_
     intro a h
     exact ⟨rfl, h⟩
   clear h; intro a h
   apply dQ0 hF h 9 rfl rfl (by kernel_rfl) (by decide) NoP.np (fun _ => H.sub (by repeat (first | exact ln1 | exact ls1 | exact lr1 | apply lk1 | apply List.Sublist.cons | apply la1)))
   · intro w
     refine i_ar64 hF h rfl rfl rfl rfl (by omega) (by omega) (by decide) ?_
     intro a h
     exact ⟨rfl, h⟩
   clear h; intro a h
   apply dQ0 hF h 10 rfl rfl (by kernel_rfl) (by decide) NoP.np (fun _ => H.sub (by repeat (first | exact ln1 | exact ls1 | exact lr1 | apply lk1 | apply List.Sublist.cons | apply la1)))
   · intro w
     refine i_idxRow hF h rfl rfl rfl (by omega) (by omega) (by decide) ?_
     intro a h
     exact ⟨rfl, h⟩
   clear h; intro a h
   apply dP0 hF h 11 rfl rfl (by kernel_rfl) (by decide) NoP.np (by kernel_rfl) (H.sub (by repeat (first | exact ln1 | exact ls1 | exact lr1 | apply lk1 | apply List.Sublist.cons | apply la1)))
   · intro w H
     refine i_loadRow hF h H rfl rfl (by repeat (first | exact mh1 | apply mt1 | apply ma1)) (by omega) (by decide) ?_
     intro a h
     exact ⟨rfl, h⟩
   clear h; intro a h
   refine dE0 12 rfl (by kernel_rfl) ?_
   refine i_call hF h rfl (less_ret _ _ _) rfl (by decide) ?_
   clear h; rintro _ w ⟨q, rfl, hb⟩ a h; replace H := H.call hb; clear hb
   refine dN0 (H.sub (by repeat (first | exact ln1 | exact ls1 | exact lr1 | apply lk1 | apply List.Sublist.cons | apply la1))) ?_
   apply dQ0 hF h 13 rfl rfl (by kernel_rfl) (by decide) NoP.np (fun _ => H.sub (by repeat (first | exact ln1 | exact ls1 | exact lr1 | apply lk1 | apply List.Sublist.cons | apply la1)))
   · intro w
     refine i_not hF h rfl rfl (by decide) ?_
     intro a h; try simp only [Bool.not_true, Bool.not_false] at h
     exact ⟨rfl, h⟩
   clear h; intro a h
   first | refine d_endThen (by kernel_rfl) ?_ | refine d_endQ (by kernel_rfl) ?_
   cases q
   · repeat refine cS0 ?_
     refine c_condT h rfl ?_
     refine c_ret ?_
     with_reducible repeat (first | refine xa0 ?_ | refine xb0 ?_ | refine xc0 ?_ | refine xd0 ?_ | refine xe0 (by decide) ?_ | refine xf0 ?_ | refine xg0 ?_ | refine xh0 ?_ | refine xi0 ?_)
     refine leave (fn := Tryz.f124) h Tryz.results124 .nil ?_
     exact ⟨_, rfl, l', hp, H⟩
   · repeat refine cS0 ?_
     refine c_condF h rfl ?_
     first | refine cKt0 ?_ | refine cK0 ?_
     repeat refine cS0 ?_
     refine d_regionL [21, 23] (by kernel_rfl) H ?_
     clear H; intro w H
     apply dQ0 hF h 0 rfl rfl (by kernel_rfl) (by decide) NoP.np (fun _ => H.sub (by repeat (first | exact ln1 | exact ls1 | exact lr1 | apply lk1 | apply List.Sublist.cons | apply la1)))
     · intro w
       refine sM0 hF h rfl rfl (by decide) ?_
       intro a h
       exact ⟨rfl, h⟩
     clear h; intro a h
     apply dQ0 hF h 1 rfl rfl (by kernel_rfl) (by decide) NoP.np (fun _ => H.sub (by repeat (first | exact ln1 | exact ls1 | exact lr1 | apply lk1 | apply List.Sublist.cons | apply la1)))
     · intro w
       refine sM0 hF h rfl rfl (by decide) ?_
       intro a h
       exact ⟨rfl, h⟩
     clear h; intro a h
     apply dQ0 hF h 2 rfl rfl (by kernel_rfl) (by decide) NoP.np (fun _ => H.sub (by repeat (first | exact ln1 | exact ls1 | exact lr1 | apply lk1 | apply List.Sublist.cons | apply la1)))
     · intro w
       refine sM0 hF h rfl rfl (by decide) ?_
       intro a h
       exact ⟨rfl, h⟩
     clear h; intro a h
     apply dQ0 hF h 3 rfl rfl (by kernel_rfl) (by decide) NoP.np (fun _ => H.sub (by repeat (first | exact ln1 | exact ls1 | exact lr1 | apply lk1 | apply List.Sublist.cons | apply la1)))
     · intro w
       refine i_ar64 hF h rfl rfl rfl rfl (by omega) (by omega) (by decide) ?_
       intro a h
       exact ⟨rfl, h⟩
     clear h; intro a h
     apply dQ0 hF h 4 rfl rfl (by kernel_rfl) (by decide) NoP.np (fun _ => H.sub (by repeat (first | exact ln1 | exact ls1 | exact lr1 | apply lk1 | apply List.Sublist.cons | apply la1)))
     · intro w
       refine sM0 hF h rfl rfl (by decide) ?_
       intro a h
       exact ⟨rfl, h⟩
     clear h; intro a h
     apply dQ0 hF h 5 rfl rfl (by kernel_rfl) (by decide) NoP.np (fun _ => H.sub (by repeat (first | exact ln1 | exact ls1 | exact lr1 | apply lk1 | apply List.Sublist.cons | apply la1)))
     · intro w
       refine sM0 hF h rfl rfl (by decide) ?_
       intro a h
       exact ⟨rfl, h⟩
     clear h; intro a h
     apply dQ0 hF h 6 rfl rfl (by kernel_rfl) (by decide) NoP.np (fun _ => H.sub (by repeat (first | exact ln1 | exact ls1 | exact lr1 | apply lk1 | apply List.Sublist.cons | apply la1)))
     · intro w
       refine sM0 hF h rfl rfl (by decide) ?_
       intro a h
       exact ⟨rfl, h⟩
     clear h; intro a h
     apply dQ0 hF h 7 rfl rfl (by kernel_rfl) (by decide) NoP.np (fun _ => H.sub (by repeat (first | exact ln1 | exact ls1 | exact lr1 | apply lk1 | apply List.Sublist.cons | apply la1)))
     · intro w
       refine i_ar64 hF h rfl rfl rfl rfl (by omega) (by omega) (by decide) ?_
       intro a h
       exact ⟨rfl, h⟩
     clear h; intro a h
     apply dQ0 hF h 8 rfl rfl (by kernel_rfl) (by decide) NoP.np (fun _ => H.sub (by repeat (first | exact ln1 | exact ls1 | exact lr1 | apply lk1 | apply List.Sublist.cons | apply la1)))
     · intro w
       refine sM0 hF h rfl rfl (by decide) ?_
       intro a h
       exact ⟨rfl, h⟩
     clear h; intro a h
     apply dQ0 hF h 9 rfl rfl (by kernel_rfl) (by decide) NoP.np (fun _ => H.sub (by repeat (first | exact ln1 | exact ls1 | exact lr1 | apply lk1 | apply List.Sublist.cons | apply la1)))
     · intro w
       refine sM0 hF h rfl rfl (by decide) ?_
       intro a h
       exact ⟨rfl, h⟩
     clear h; intro a h
     apply dQ0 hF h 10 rfl rfl (by kernel_rfl) (by decide) NoP.np (fun _ => H.sub (by repeat (first | exact ln1 | exact ls1 | exact lr1 | apply lk1 | apply List.Sublist.cons | apply la1)))
     · intro w
       refine sM0 hF h rfl rfl (by decide) ?_
       intro a h
       exact ⟨rfl, h⟩
     clear h; intro a h
     apply dQ0 hF h 11 rfl rfl (by kernel_rfl) (by decide) NoP.np (fun _ => H.sub (by repeat (first | exact ln1 | exact ls1 | exact lr1 | apply lk1 | apply List.Sublist.cons | apply la1)))
     · intro w
       refine i_ar64 hF h rfl rfl rfl rfl (by omega) (by omega) (by decide) ?_
       intro a h
       exact ⟨rfl, h⟩
     clear h; intro a h
     apply dQ0 hF h 12 rfl rfl (by kernel_rfl) (by decide) NoP.np (fun _ => H.sub (by repeat (first | exact ln1 | exact ls1 | exact lr1 | apply lk1 | apply List.Sublist.cons | apply la1)))
     · intro w
       refine i_idxRow hF h rfl rfl rfl (by omega) (by omega) (by decide) ?_
       intro a h
       exact ⟨rfl, h⟩
     clear h; intro a h
     apply dP0 hF h 13 rfl rfl (by kernel_rfl) (by decide) NoP.np (by kernel_rfl) (H.sub (by repeat (first | exact ln1 | exact ls1 | exact lr1 | apply lk1 | apply List.Sublist.cons | apply la1)))
     · intro w H
       refine i_loadRow hF h H rfl rfl (by repeat (first | exact mh1 | apply mt1 | apply ma1)) (by omega) (by decide) ?_
       intro a h
       exact ⟨rfl, h⟩
     clear h; intro a h
     apply dQ0 hF h 14 rfl rfl (by kernel_rfl) (by decide) NoP.np (fun _ => H.sub (by repeat (first | exact ln1 | exact ls1 | exact lr1 | apply lk1 | apply List.Sublist.cons | apply la1)))
     · intro w
       refine sM0 hF h rfl rfl (by decide) ?_
       intro a h
       exact ⟨rfl, h⟩
     clear h; intro a h
     apply dQ0 hF h 15 rfl rfl (by kernel_rfl) (by decide) NoP.np (fun _ => H.sub (by repeat (first | exact ln1 | exact ls1 | exact lr1 | apply lk1 | apply List.Sublist.cons | apply la1)))
     · intro w
       refine sM0 hF h rfl rfl (by decide) ?_
       intro a h
       exact ⟨rfl, h⟩
     clear h; intro a h
     apply dQ0 hF h 16 rfl rfl (by kernel_rfl) (by decide) NoP.np (fun _ => H.sub (by repeat (first | exact ln1 | exact ls1 | exact lr1 | apply lk1 | apply List.Sublist.cons | apply la1)))
     · intro w
       refine sM0 hF h rfl rfl (by decide) ?_
       intro a h
       exact ⟨rfl, h⟩
     clear h; intro a h
     apply dQ0 hF h 17 rfl rfl (by kernel_rfl) (by decide) NoP.np (fun _ => H.sub (by repeat (first | exact ln1 | exact ls1 | exact lr1 | apply lk1 | apply List.Sublist.cons | apply la1)))
     · intro w
       refine i_ar64 hF h rfl rfl rfl rfl (by omega) (by omega) (by decide) ?_
       intro a h
       exact ⟨rfl, h⟩
     clear h; intro a h
     apply dQ0 hF h 18 rfl rfl (by kernel_rfl) (by decide) NoP.np (fun _ => H.sub (by repeat (first | exact ln1 | exact ls1 | exact lr1 | apply lk1 | apply List.Sublist.cons | apply la1)))
     · intro w
       refine i_idxRow hF h rfl rfl rfl (by omega) (by omega) (by decide) ?_
       intro a h
       exact ⟨rfl, h⟩
     clear h; intro a h
     apply dP0 hF h 19 rfl rfl (by kernel_rfl) (by decide) NoP.np (by kernel_rfl) (H.sub (by repeat (first | exact ln1 | exact ls1 | exact lr1 | apply lk1 | apply List.Sublist.cons | apply la1)))
     · intro w H
       refine i_loadRow hF h H rfl rfl (by repeat (first | exact mh1 | apply mt1 | apply ma1)) (by omega) (by decide) ?_
       intro a h
       exact ⟨rfl, h⟩
     clear h; intro a h
     apply dQ0 hF h 20 rfl rfl (by kernel_rfl) (by decide) NoP.np (fun _ => H.sub (by repeat (first | exact ln1 | exact ls1 | exact lr1 | apply lk1 | apply List.Sublist.cons | apply la1)))
     · intro w
       refine i_idxRow hF h rfl rfl rfl (by omega) (by omega) (by decide) ?_
       intro a h
       exact ⟨rfl, h⟩
     clear h; intro a h
     refine dE0 21 rfl (by kernel_rfl) ?_
     refine i_storeRow hF h H rfl rfl rfl (by repeat (first | exact Upd.here | apply Upd.there | apply Upd.app)) (by (try simp only [List.length_set]); omega) ?_
     clear H; intro w H
     refine dNm0 (by kernel_rfl) ?_
     apply dQ0 hF h 22 rfl rfl (by kernel_rfl) (by decide) NoP.np (fun hh => absurd hh (by rw [show ph _ _ = true from by kernel_rfl]; decide))
     · intro w
       refine i_idxRow hF h rfl rfl rfl (by omega) (by omega) (by decide) ?_
       intro a h
       exact ⟨rfl, h⟩
     clear h; intro a h
     refine dE0 23 rfl (by kernel_rfl) ?_
     refine i_storeRow hF h H rfl rfl rfl (by repeat (first | exact Upd.here | apply Upd.there | apply Upd.app)) (by (try simp only [List.length_set]); omega) ?_
     clear H; intro w H
     refine dNm0 (by kernel_rfl) ?_
     first | refine d_endThen (by kernel_rfl) ?_ | refine d_endQ (by kernel_rfl) ?_
     repeat refine cS0 ?_
     refine cR0 ?_
     refine sM0 hF h rfl rfl (by decide) ?_
     clear h; intro a h
     refine sA0 hF h rfl rfl (by decide) ?_
     clear h; intro a h
     refine cE0 ?_
     with_reducible repeat (first | refine xa0 ?_ | refine xb0 ?_ | refine xc0 ?_ | refine xd0 ?_ | refine xe0 (by decide) ?_ | refine xf0 ?_ | refine xg0 ?_ | refine xh0 ?_ | refine xi0 ?_)
     refine ⟨r - c, by omega, c, _, rfl, by omega, ?_, (h.sub (by repeat (first | exact trivial | refine ⟨rfl, ?_⟩))), H⟩
     have := swapP (l := l') (i := f + i) (j := f + c) (by omega) (by omega)
     rw [show ((f : Int) + (i : Int)).toNat = f + i by omega, show ((f : Int) + (c : Int)).toNat = f + c by omega]
     exact this.trans hp
 · repeat refine cS0 ?_
   refine cR0 ?_
   refine sM0 hF h rfl rfl (by decide) ?_
   clear h; intro a h
   refine i_ar64 hF h rfl rfl rfl rfl (by omega) (by omega) (by decide) ?_
   clear h; intro a h
   refine i_ar64 hF h rfl rfl rfl rfl (by omega) (by omega) (by decide) ?_
   clear h; intro a h
   refine sA0 hF h rfl rfl (by decide) ?_
   clear h; intro a h
   first | refine cEt0 ?_ | refine cE0 ?_
   repeat refine cS0 ?_
   refine cR0 ?_
   refine sM0 hF h rfl rfl (by decide) ?_
   clear h; intro a h
   refine sM0 hF h rfl rfl (by decide) ?_
   clear h; intro a h
   (first | (refine iC0 hF h rfl rfl rfl (i_geq_t (by omega)) (by decide) ?_) | (refine iC0 hF h rfl rfl rfl (i_geq_f (by omega)) (by decide) ?_))
   clear h; intro a h
   first | refine cEt0 ?_ | refine cE0 ?_
   repeat refine cS0 ?_
   refine c_condT h rfl ?_
   refine c_exit ?_
   with_reducible repeat (first | refine xa0 ?_ | refine xb0 ?_ | refine xc0 ?_ | refine xd0 ?_ | refine xe0 (by decide) ?_ | refine xf0 ?_ | refine xg0 ?_ | refine xh0 ?_ | refine xi0 ?_)
   refine leaveN (fn := Tryz.f124) h Tryz.results124 .nil ?_
   exact ⟨_, rfl, l', hp, H⟩
end Go.Proofs.YtjlmpghcjgbfjaaGreatDoor.Cw
namespace Go.Proofs.YtjlmpghcjgbfjaaGreatDoor.Cw
open Go Go.RowKit Go.Proofs Ex Cd
set_option maxRecDepth 100000
theorem reverse_ret {n0 : Nat} {w0 : World} {b n cap : Nat} {junk : List Value} {X : List (Nat × Obj)} {l : List UInt8} {w : World} (H : St n0 w0 ((b, rowB l junk) :: X) w) (hn : l.length = n) (hn2 : n ≤ 1000000) (p r : Nat) (h1 : p ≤ r) (h2 : r ≤ n) :
 Rets Tryz.prog 111 [sl b n cap, int p, int r] w fun _ w' => Mixed n0 w0 b junk X l w' := by
 refine enter Tryz.func111 rfl (Nat.le_of_ble_eq_true rfl) ?_
 intro a h; rw [Tryz.ntmps111] at h
 have hF := Fd.wide
 repeat refine cS0 ?_
 refine cR0 ?_
 refine sM0 hF h rfl rfl (by decide) ?_
 clear h; intro a h
 refine sA0 hF h rfl rfl (by decide) ?_
 clear h; intro a h
 first | refine cEt0 ?_ | refine cE0 ?_
 repeat refine cS0 ?_
 refine cR0 ?_
 refine sM0 hF h rfl rfl (by decide) ?_
 clear h; intro a h
 refine i_ar64 hF h rfl rfl rfl rfl (by omega) (by omega) (by decide) ?_
 clear h; intro a h
 refine sA0 hF h rfl rfl (by decide) ?_
 clear h; intro a h
 first | refine cEt0 ?_ | refine cE0 ?_
 repeat refine cS0 ?_
 refine c_block ?_
 refine c_loopN (fun k a' w' => ∃ i j l', j = k ∧ j ≤ r ∧ i ≤ n + 1 ∧ l'.Perm l ∧ Fr 32 [] [(6, int (i : Nat)), (7, int ((j : Nat) - 1)), (0, sl b n cap)] a' ∧ St n0 w0 ((b, rowB l' junk) :: X) w') r ⟨p, r, l, rfl, by omega, by omega, .refl _, (h.sub (by repeat (first | exact trivial | refine ⟨rfl, ?_⟩))), H⟩ ?_
 clear h H
 rintro k a w ⟨i, j, l', rfl, hj1, hi1, hp, h, H⟩
 have hlen := hp.length_eq
 rw [hn] at hlen
 by_cases hi : i + 1 < j
 · repeat refine cS0 ?_
   refine cR0 ?_
   refine sM0 hF h rfl rfl (by decide) ?_
   clear h; intro a h
   refine sM0 hF h rfl rfl (by decide) ?_
   clear h; intro a h
   (first | (refine iC0 hF h rfl rfl rfl (i_lss_t (by omega)) (by decide) ?_) | (refine iC0 hF h rfl rfl rfl (i_lss_f (by omega)) (by decide) ?_))
   clear h; intro a h
   first | refine cEt0 ?_ | refine cE0 ?_
   repeat refine cS0 ?_
   refine c_condT h rfl ?_
   first | refine cKt0 ?_ | refine cK0 ?_
   repeat refine cS0 ?_
   refine c_block ?_
   repeat refine cS0 ?_
   refine d_regionL [13, 15] (by kernel_rfl) H ?_
   clear H; intro w H
   apply dQ0 hF h 0 rfl rfl (by kernel_rfl) (by decide) NoP.np (fun _ => H.sub (by repeat (first | exact ln1 | exact ls1 | exact lr1 | apply lk1 | apply List.Sublist.cons | apply la1)))
   · intro w
     refine sM0 hF h rfl rfl (by decide) ?_
     intro a h
     exact ⟨rfl, h⟩
   clear h; intro a h
   apply dQ0 hF h 1 rfl rfl (by kernel_rfl) (by decide) NoP.np (fun _ => H.sub (by repeat (first | exact ln1 | exact ls1 | exact lr1 | apply lk1 | apply List.Sublist.cons | apply la1)))
   · intro w
     refine sM0 hF h rfl rfl (by decide) ?_
     intro a h
     exact ⟨rfl, h⟩
   clear h; intro a h
   apply dQ0 hF h 2 rfl rfl (by kernel_rfl) (by decide) NoP.np (fun _ => H.sub (by repeat (first | exact ln1 | exact ls1 | exact lr1 | apply lk1 | apply List.Sublist.cons | apply la1)))
   · intro w
     refine sM0 hF h rfl rfl (by decide) ?_
     intro a h
     exact ⟨rfl, h⟩
   clear h; intro a h
   apply dQ0 hF h 3 rfl rfl (by kernel_rfl) (by decide) NoP.np (fun _ => H.sub (by repeat (first | exact ln1 | exact ls1 | exact lr1 | apply lk1 | apply List.Sublist.cons | apply la1)))
   · intro w
     refine sM0 hF h rfl rfl (by decide) ?_
     intro a h
     exact ⟨rfl, h⟩
   clear h; intro a h
   apply dQ0 hF h 4 rfl rfl (by kernel_rfl) (by decide) NoP.np (fun _ => H.sub (by repeat (first | exact ln1 | exact ls1 | exact lr1 | apply lk1 | apply List.Sublist.cons | apply la1)))
   · intro w
     refine sM0 hF h rfl rfl (by decide) ?_
     intro a h
     exact ⟨rfl, h⟩
   clear h; intro a h
   apply dQ0 hF h 5 rfl rfl (by kernel_rfl) (by decide) NoP.np (fun _ => H.sub (by repeat (first | exact ln1 | exact ls1 | exact lr1 | apply lk1 | apply List.Sublist.cons | apply la1)))
   · intro w
     refine sM0 hF h rfl rfl (by decide) ?_
     intro a h
     exact ⟨rfl, h⟩
   clear h; intro a h
   apply dQ0 hF h 6 rfl rfl (by kernel_rfl) (by decide) NoP.np (fun _ => H.sub (by repeat (first | exact ln1 | exact ls1 | exact lr1 | apply lk1 | apply List.Sublist.cons | apply la1)))
   · intro w
     refine i_idxRow hF h rfl rfl rfl (by omega) (by omega) (by decide) ?_
     intro a h
     exact ⟨rfl, h⟩
   clear h; intro a h
   apply dP0 hF h 7 rfl rfl (by kernel_rfl) (by decide) NoP.np (by kernel_rfl) (H.sub (by repeat (first | exact ln1 | exact ls1 | exact lr1 | apply lk1 | apply List.Sublist.cons | apply la1)))
   · intro w H
     refine i_loadRow hF h H rfl rfl (by repeat (first | exact mh1 | apply mt1 | apply ma1)) (by omega) (by decide) ?_
     intro a h
     exact ⟨rfl, h⟩
   clear h; intro a h
   apply dQ0 hF h 8 rfl rfl (by kernel_rfl) (by decide) NoP.np (fun _ => H.sub (by repeat (first | exact ln1 | exact ls1 | exact lr1 | apply lk1 | apply List.Sublist.cons | apply la1)))
   · intro w
     refine sM0 hF h rfl rfl (by decide) ?_
     intro a h
     exact ⟨rfl, h⟩
   clear h; intro a h
   apply dQ0 hF h 9 rfl rfl (by kernel_rfl) (by decide) NoP.np (fun _ => H.sub (by repeat (first | exact ln1 | exact ls1 | exact lr1 | apply lk1 | apply List.Sublist.cons | apply la1)))
   · intro w
     refine sM0 hF h rfl rfl (by decide) ?_
     intro a h
     exact ⟨rfl, h⟩
   clear h; intro a h
   apply dQ0 hF h 10 rfl rfl (by kernel_rfl) (by decide) NoP.np (fun _ => H.sub (by repeat (first | exact ln1 | exact ls1 | exact lr1 | apply lk1 | apply List.Sublist.cons | apply la1)))
   · intro w
     refine i_idxRow hF h rfl rfl rfl (by omega) (by omega) (by decide) ?_
     intro a h
     exact ⟨rfl, h⟩
   clear h; intro a h
   apply dP0 hF h 11 rfl rfl (by kernel_rfl) (by decide) NoP.np (by kernel_rfl) (H.sub (by repeat (first | exact ln1 | exact ls1 | exact lr1 | apply lk1 | apply List.Sublist.cons | apply la1)))
   · intro w H
     refine i_loadRow hF h H rfl rfl (by repeat (first | exact mh1 | apply mt1 | apply ma1)) (by omega) (by decide) ?_
     intro a h
     exact ⟨rfl, h⟩
   clear h; intro a h
   apply dQ0 hF h 12 rfl rfl (by kernel_rfl) (by decide) NoP.np (fun _ => H.sub (by repeat (first | exact ln1 | exact ls1 | exact lr1 | apply lk1 | apply List.Sublist.cons | apply la1)))
   · intro w
     refine i_idxRow hF h rfl rfl rfl (by omega) (by omega) (by decide) ?_
     intro a h
     exact ⟨rfl, h⟩
   clear h; intro a h
   refine dE0 13 rfl (by kernel_rfl) ?_
   refine i_storeRow hF h H rfl rfl rfl (by repeat (first | exact Upd.here | apply Upd.there | apply Upd.app)) (by (try simp only [List.length_set]); omega) ?_
   clear H; intro w H
   refine dNm0 (by kernel_rfl) ?_
   apply dQ0 hF h 14 rfl rfl (by kernel_rfl) (by decide) NoP.np (fun hh => absurd hh (by rw [show ph _ _ = true from by kernel_rfl]; decide))
   · intro w
     refine i_idxRow hF h rfl rfl rfl (by omega) (by omega) (by decide) ?_
     intro a h
     exact ⟨rfl, h⟩
   clear h; intro a h
   refine dE0 15 rfl (by kernel_rfl) ?_
   refine i_storeRow hF h H rfl rfl rfl (by repeat (first | exact Upd.here | apply Upd.there | apply Upd.app)) (by (try simp only [List.length_set]); omega) ?_
   clear H; intro w H
   refine dNm0 (by kernel_rfl) ?_
   first | refine d_endThen (by kernel_rfl) ?_ | refine d_endQ (by kernel_rfl) ?_
   with_reducible repeat (first | refine xa0 ?_ | refine xb0 ?_ | refine xc0 ?_ | refine xd0 ?_ | refine xe0 (by decide) ?_ | refine xf0 ?_ | refine xg0 ?_ | refine xh0 ?_ | refine xi0 ?_)
   repeat refine cS0 ?_
   refine cR0 ?_
   refine sM0 hF h rfl rfl (by decide) ?_
   clear h; intro a h
   refine i_ar64 hF h rfl rfl rfl rfl (by omega) (by omega) (by decide) ?_
   clear h; intro a h
   refine sA0 hF h rfl rfl (by decide) ?_
   clear h; intro a h
   first | refine cEt0 ?_ | refine cE0 ?_
   repeat refine cS0 ?_
   refine cR0 ?_
   refine sM0 hF h rfl rfl (by decide) ?_
   clear h; intro a h
   refine i_ar64 hF h rfl rfl rfl rfl (by omega) (by omega) (by decide) ?_
   clear h; intro a h
   refine sA0 hF h rfl rfl (by decide) ?_
   clear h; intro a h
   refine cE0 ?_
   refine ⟨j - 1, by omega, i + 1, j - 1, _, rfl, by omega, by omega, ?_, ?_, H⟩
   · have := swapP (l := l') (i := i) (j := j - 1) (by omega) (by omega)
     rw [show ((j : Int) - 1).toNat = j - 1 by omega, show ((i : Int)).toNat = i by omega]
     exact this.trans hp
   · rw [show ((j - 1 : Nat) : Int) = (j : Int) - 1 by omega]
     exact (h.sub (by repeat (first | exact trivial | refine ⟨rfl, ?_⟩)))
 · repeat refine cS0 ?_
   refine cR0 ?_
   refine sM0 hF h rfl rfl (by decide) ?_
   clear h; intro a h
   refine sM0 hF h rfl rfl (by decide) ?_
   clear h; intro a h
   (first | (refine iC0 hF h rfl rfl rfl (i_lss_t (by omega)) (by decide) ?_) | (refine iC0 hF h rfl rfl rfl (i_lss_f (by omega)) (by decide) ?_))
   clear h; intro a h
   first | refine cEt0 ?_ | refine cE0 ?_
   repeat refine cS0 ?_
   refine c_condF h rfl ?_
   refine c_exit ?_
   with_reducible repeat (first | refine xa0 ?_ | refine xb0 ?_ | refine xc0 ?_ | refine xd0 ?_ | refine xe0 (by decide) ?_ | refine xf0 ?_ | refine xg0 ?_ | refine xh0 ?_ | refine xi0 ?_)
   refine leaveN (fn := Tryz.f111) h Tryz.results111 .nil ?_
   exact ⟨_, rfl, l', hp, H⟩
theorem heap_ret {n0 : Nat} {w0 : World} {b n cap : Nat} {junk : List Value} {X : List (Nat × Obj)} {l : List UInt8} {w : World} (H : St n0 w0 ((b, rowB l junk) :: X) w) (hn : l.length = n) (hn2 : n ≤ 1000000) (p r : Nat) (h1 : p < r) (h2 : r ≤ n) :
 Rets Tryz.prog 108 [sl b n cap, int p, int r] w fun _ w' => Mixed n0 w0 b junk X l w' := by
 refine enter Tryz.func108 rfl (Nat.le_of_ble_eq_true rfl) ?_
 intro a h; rw [Tryz.ntmps108] at h
 have hF := Fd.wide
 repeat refine cS0 ?_
 refine cR0 ?_
 refine sM0 hF h rfl rfl (by decide) ?_
 clear h; intro a h
 refine sA0 hF h rfl rfl (by decide) ?_
 clear h; intro a h
 first | refine cEt0 ?_ | refine cE0 ?_
 repeat refine cS0 ?_
 refine cR0 ?_
 refine sA0 hF h rfl rfl (by decide) ?_
 clear h; intro a h
 first | refine cEt0 ?_ | refine cE0 ?_
 repeat refine cS0 ?_
 refine cR0 ?_
 refine sM0 hF h rfl rfl (by decide) ?_
 clear h; intro a h
 refine sM0 hF h rfl rfl (by decide) ?_
 clear h; intro a h
 refine i_ar64 hF h rfl rfl rfl rfl (by omega) (by omega) (by decide) ?_
 clear h; intro a h
 refine sA0 hF h rfl rfl (by decide) ?_
 clear h; intro a h
 first | refine cEt0 ?_ | refine cE0 ?_
 rw [show ((r : Int) - (p : Int)) = ((r - p : Nat) : Int) by omega] at h
 repeat refine cS0 ?_
 refine cR0 ?_
 refine sM0 hF h rfl rfl (by decide) ?_
 clear h; intro a h
 refine i_ar64 hF h rfl rfl rfl rfl (by omega) (by omega) (by decide) ?_
 clear h; intro a h
 refine i_quo hF h rfl rfl rfl (by omega) (by omega) (by simp only [IntKind.max, IntKind.signed, IntKind.bits, if_true]; omega) (by decide) ?_
 clear h; intro a h
 refine sA0 hF h rfl rfl (by decide) ?_
 clear h; intro a h
 first | refine cEt0 ?_ | refine cE0 ?_
 have e1 : (((r - p : Nat) : Int) - 1) / 2 = (((r - p - 1) / 2 + 1 : Nat) : Int) - 1 := by omega
 rw [e1] at h
 repeat refine cS0 ?_
 refine c_join (fun a' w' => ∃ l', l'.Perm l ∧ Fr 56 [] [(6, int (p : Nat)), (7, int 0), (8, int (r - p : Nat)), (0, sl b n cap)] a' ∧ St n0 w0 ((b, rowB l' junk) :: X) w') ?_ ?_
 · refine c_block ?_
   refine c_loopN (fun k a' w' => ∃ m l', m = k ∧ m ≤ r - p ∧ l'.Perm l ∧ Fr 56 [] [(9, int ((m : Nat) - 1)), (6, int (p : Nat)), (7, int 0), (8, int (r - p : Nat)), (0, sl b n cap)] a' ∧ St n0 w0 ((b, rowB l' junk) :: X) w') ((r - p - 1) / 2 + 1) ⟨(r - p - 1) / 2 + 1, l, rfl, by omega, .refl _, (h.sub (by repeat (first | exact trivial | refine ⟨rfl, ?_⟩))), H⟩ ?_
   clear h H
   rintro k a w ⟨m, l', rfl, hm, hp, h, H⟩
   have hlen := hp.length_eq
   rw [hn] at hlen
   by_cases hi : 1 ≤ m
   · rw [show ((m : Int) - 1) = ((m - 1 : Nat) : Int) by omega] at h
     repeat refine cS0 ?_
     refine cR0 ?_
     refine sM0 hF h rfl rfl (by decide) ?_
     clear h; intro a h
     (first | (refine iC0 hF h rfl rfl rfl (i_geq_t (by omega)) (by decide) ?_) | (refine iC0 hF h rfl rfl rfl (i_geq_f (by omega)) (by decide) ?_))
     clear h; intro a h
     first | refine cEt0 ?_ | refine cE0 ?_
     repeat refine cS0 ?_
     refine c_condT h rfl ?_
     first | refine cKt0 ?_ | refine cK0 ?_
     repeat refine cS0 ?_
     refine c_block ?_
     repeat refine cS0 ?_
     refine cR0 ?_
     refine sM0 hF h rfl rfl (by decide) ?_
     clear h; intro a h
     refine sM0 hF h rfl rfl (by decide) ?_
     clear h; intro a h
     refine sM0 hF h rfl rfl (by decide) ?_
     clear h; intro a h
     refine sM0 hF h rfl rfl (by decide) ?_
     clear h; intro a h
     refine i_call hF h rfl (sift_ret H hlen hn2 _ _ _ (by omega) (by omega)) rfl (by decide) ?_
     clear h H; rintro _ w ⟨l2, hp2, H⟩ a h
     first | refine cEt0 ?_ | refine cE0 ?_
     with_reducible repeat (first | refine xa0 ?_ | refine xb0 ?_ | refine xc0 ?_ | refine xd0 ?_ | refine xe0 (by decide) ?_ | refine xf0 ?_ | refine xg0 ?_ | refine xh0 ?_ | refine xi0 ?_)
     repeat refine cS0 ?_
     refine cR0 ?_
     refine sM0 hF h rfl rfl (by decide) ?_
     clear h; intro a h
     refine i_ar64 hF h rfl rfl rfl rfl (by omega) (by omega) (by decide) ?_
     clear h; intro a h
     refine sA0 hF h rfl rfl (by decide) ?_
     clear h; intro a h
     refine cE0 ?_
     exact ⟨m - 1, by omega, m - 1, l2, rfl, by omega, hp2.trans hp, (h.sub (by repeat (first | exact trivial | refine ⟨rfl, ?_⟩))), H⟩
   · repeat refine cS0 ?_
     refine cR0 ?_
     refine sM0 hF h rfl rfl (by decide) ?_
     clear h; intro a h
     (first | (refine iC0 hF h rfl rfl rfl (i_geq_t (by omega)) (by decide) ?_) | (refine iC0 hF h rfl rfl rfl (i_geq_f (by omega)) (by decide) ?_))
     clear h; intro a h
     first | refine cEt0 ?_ | refine cE0 ?_
     repeat refine cS0 ?_
     refine c_condF h rfl ?_
     refine c_exit ?_
     with_reducible repeat (first | refine xa0 ?_ | refine xb0 ?_ | refine xc0 ?_ | refine xd0 ?_ | refine xe0 (by decide) ?_ | refine xf0 ?_ | refine xg0 ?_ | refine xh0 ?_ | refine xi0 ?_)
     exact ⟨l', hp, (h.sub (by repeat (first | exact trivial | refine ⟨rfl, ?_⟩))), H⟩
 clear h H
 rintro a w ⟨l1, hp1, h, H⟩
 repeat refine cS0 ?_
 refine cR0 ?_
 refine sM0 hF h rfl rfl (by decide) ?_
 clear h; intro a h
 refine i_ar64 hF h rfl rfl rfl rfl (by omega) (by omega) (by decide) ?_
 clear h; intro a h
 refine sA0 hF h rfl rfl (by decide) ?_
 clear h; intro a h
 first | refine cEt0 ?_ | refine cE0 ?_
 repeat refine cS0 ?_
 refine c_block ?_
 refine c_loopN (fun k a' w' => ∃ m l', m = k ∧ m ≤ r - p ∧ l'.Perm l ∧ Fr 56 [] [(10, int ((m : Nat) - 1)), (6, int (p : Nat)), (7, int 0), (0, sl b n cap)] a' ∧ St n0 w0 ((b, rowB l' junk) :: X) w') (r - p) ⟨r - p, l1, rfl, by omega, hp1, (h.sub (by repeat (first | exact trivial | refine ⟨rfl, ?_⟩))), H⟩ ?_
 clear h H
 rintro k a w ⟨m, l', rfl, hm, hp, h, H⟩
 have hlen := hp.length_eq
 rw [hn] at hlen
 by_cases hi : 1 ≤ m
 · rw [show ((m : Int) - 1) = ((m - 1 : Nat) : Int) by omega] at h
   repeat refine cS0 ?_
   refine cR0 ?_
   refine sM0 hF h rfl rfl (by decide) ?_
   clear h; intro a h
   (first | (refine iC0 hF h rfl rfl rfl (i_geq_t (by omega)) (by decide) ?_) | (refine iC0 hF h rfl rfl rfl (i_geq_f (by omega)) (by decide) ?_))
   clear h; intro a h
   first | refine cEt0 ?_ | refine cE0 ?_
   repeat refine cS0 ?_
   refine c_condT h rfl ?_
   first | refine cKt0 ?_ | refine cK0 ?_
   repeat refine cS0 ?_
   refine c_block ?_
   repeat refine cS0 ?_
   refine d_regionL [17, 19] (by kernel_rfl) H ?_
   clear H; intro w H
   apply dQ0 hF h 0 rfl rfl (by kernel_rfl) (by decide) NoP.np (fun _ => H.sub (by repeat (first | exact ln1 | exact ls1 | exact lr1 | apply lk1 | apply List.Sublist.cons | apply la1)))
   · intro w
     refine sM0 hF h rfl rfl (by decide) ?_
     intro a h
     exact ⟨rfl, h⟩
   clear h; intro a h
   apply dQ0 hF h 1 rfl rfl (by kernel_rfl) (by decide) NoP.np (fun _ => H.sub (by repeat (first | exact ln1 | exact ls1 | exact lr1 | apply lk1 | apply List.Sublist.cons | apply la1)))
   · intro w
     refine sM0 hF h rfl rfl (by decide) ?_
     intro a h
     exact ⟨rfl, h⟩
   clear h; intro a h
   apply dQ0 hF h 2 rfl rfl (by kernel_rfl) (by decide) NoP.np (fun _ => H.sub (by repeat (first | exact ln1 | exact ls1 | exact lr1 | apply lk1 | apply List.Sublist.cons | apply la1)))
   · intro w
     refine sM0 hF h rfl rfl (by decide) ?_
     intro a h
     exact ⟨rfl, h⟩
   clear h; intro a h
   apply dQ0 hF h 3 rfl rfl (by kernel_rfl) (by decide) NoP.np (fun _ => H.sub (by repeat (first | exact ln1 | exact ls1 | exact lr1 | apply lk1 | apply List.Sublist.cons | apply la1)))
   · intro w
     refine sM0 hF h rfl rfl (by decide) ?_
     intro a h
     exact ⟨rfl, h⟩
   clear h; intro a h
   apply dQ0 hF h 4 rfl rfl (by kernel_rfl) (by decide) NoP.np (fun _ => H.sub (by repeat (first | exact ln1 | exact ls1 | exact lr1 | apply lk1 | apply List.Sublist.cons | apply la1)))
   · intro w
     refine sM0 hF h rfl rfl (by decide) ?_
     intro a h
     exact ⟨rfl, h⟩
   clear h; intro a h
   apply dQ0 hF h 5 rfl rfl (by kernel_rfl) (by decide) NoP.np (fun _ => H.sub (by repeat (first | exact ln1 | exact ls1 | exact lr1 | apply lk1 | apply List.Sublist.cons | apply la1)))
   · intro w
     refine i_ar64 hF h rfl rfl rfl rfl (by omega) (by omega) (by decide) ?_
     intro a h
     exact ⟨rfl, h⟩
   clear h; intro a h
   apply dQ0 hF h 6 rfl rfl (by kernel_rfl) (by decide) NoP.np (fun _ => H.sub (by repeat (first | exact ln1 | exact ls1 | exact lr1 | apply lk1 | apply List.Sublist.cons | apply la1)))
   · intro w
     refine sM0 hF h rfl rfl (by decide) ?_
     intro a h
     exact ⟨rfl, h⟩
   clear h; intro a h
   apply dQ0 hF h 7 rfl rfl (by kernel_rfl) (by decide) NoP.np (fun _ => H.sub (by repeat (first | exact ln1 | exact ls1 | exact lr1 | apply lk1 | apply List.Sublist.cons | apply la1)))
   · intro w
     refine sM0 hF h rfl rfl (by decide) ?_
     intro a h
     exact ⟨rfl, h⟩
   clear h; intro a h
   apply dQ0 hF h 8 rfl rfl (by kernel_rfl) (by decide) NoP.np (fun _ => H.sub (by repeat (first | exact ln1 | exact ls1 | exact lr1 | apply lk1 | apply List.Sublist.cons | apply la1)))
   · intro w
     refine sM0 hF h rfl rfl (by decide) ?_
     intro a h
     exact ⟨rfl, h⟩
   clear h; intro a h
   apply dQ0 hF h 9 rfl rfl (by kernel_rfl) (by decide) NoP.np (fun _ => H.sub (by repeat (first | exact ln1 | exact ls1 | exact lr1 | apply lk1 | apply List.Sublist.cons | apply la1)))
   · intro w
     refine i_ar64 hF h rfl rfl rfl rfl (by omega) (by omega) (by decide) ?_
     intro a h
     exact ⟨rfl, h⟩
   clear h; intro a h
   apply dQ0 hF h 10 rfl rfl (by kernel_rfl) (by decide) NoP.np (fun _ => H.sub (by repeat (first | exact ln1 | exact ls1 | exact lr1 | apply lk1 | apply List.Sublist.cons | apply la1)))
   · intro w
     refine i_idxRow hF h rfl rfl rfl (by omega) (by omega) (by decide) ?_
     intro a h
     exact ⟨rfl, h⟩
   clear h; intro a h
   apply dP0 hF h 11 rfl rfl (by kernel_rfl) (by decide) NoP.np (by kernel_rfl) (H.sub (by repeat (first | exact ln1 | exact ls1 | exact lr1 | apply lk1 | apply List.Sublist.cons | apply la1)))
   · intro w H
     refine i_loadRow hF h H rfl rfl (by repeat (first | exact mh1 | apply mt1 | apply ma1)) (by omega) (by decide) ?_
     intro a h
     exact ⟨rfl, h⟩
   clear h; intro a h
   apply dQ0 hF h 12 rfl rfl (by kernel_rfl) (by decide) NoP.np (fun _ => H.sub (by repeat (first | exact ln1 | exact ls1 | exact lr1 | apply lk1 | apply List.Sublist.cons | apply la1)))
   · intro w
     refine sM0 hF h rfl rfl (by decide) ?_
     intro a h
     exact ⟨rfl, h⟩
   clear h; intro a h
   apply dQ0 hF h 13 rfl rfl (by kernel_rfl) (by decide) NoP.np (fun _ => H.sub (by repeat (first | exact ln1 | exact ls1 | exact lr1 | apply lk1 | apply List.Sublist.cons | apply la1)))
   · intro w
     refine sM0 hF h rfl rfl (by decide) ?_
     intro a h
     exact ⟨rfl, h⟩
   clear h; intro a h
   apply dQ0 hF h 14 rfl rfl (by kernel_rfl) (by decide) NoP.np (fun _ => H.sub (by repeat (first | exact ln1 | exact ls1 | exact lr1 | apply lk1 | apply List.Sublist.cons | apply la1)))
   · intro w
     refine i_idxRow hF h rfl rfl rfl (by omega) (by omega) (by decide) ?_
     intro a h
     exact ⟨rfl, h⟩
   clear h; intro a h
   apply dP0 hF h 15 rfl rfl (by kernel_rfl) (by decide) NoP.np (by kernel_rfl) (H.sub (by repeat (first | exact ln1 | exact ls1 | exact lr1 | apply lk1 | apply List.Sublist.cons | apply la1)))
   · intro w H
     refine i_loadRow hF h H rfl rfl (by repeat (first | exact mh1 | apply mt1 | apply ma1)) (by omega) (by decide) ?_
     intro a h
     exact ⟨rfl, h⟩
   clear h; intro a h
   apply dQ0 hF h 16 rfl rfl (by kernel_rfl) (by decide) NoP.np (fun _ => H.sub (by repeat (first | exact ln1 | exact ls1 | exact lr1 | apply lk1 | apply List.Sublist.cons | apply la1)))
   · intro w
     refine i_idxRow hF h rfl rfl rfl (by omega) (by omega) (by decide) ?_
     intro a h
     exact ⟨rfl, h⟩
   clear h; intro a h
   refine dE0 17 rfl (by kernel_rfl) ?_
   refine i_storeRow hF h H rfl rfl rfl (by repeat (first | exact Upd.here | apply Upd.there | apply Upd.app)) (by (try simp only [List.length_set]); omega) ?_
   clear H; intro w H
   refine dNm0 (by kernel_rfl) ?_
   apply dQ0 hF h 18 rfl rfl (by kernel_rfl) (by decide) NoP.np (fun hh => absurd hh (by rw [show ph _ _ = true from by kernel_rfl]; decide))
   · intro w
     refine i_idxRow hF h rfl rfl rfl (by omega) (by omega) (by decide) ?_
     intro a h
     exact ⟨rfl, h⟩
   clear h; intro a h
   refine dE0 19 rfl (by kernel_rfl) ?_
   refine i_storeRow hF h H rfl rfl rfl (by repeat (first | exact Upd.here | apply Upd.there | apply Upd.app)) (by (try simp only [List.length_set]); omega) ?_
   clear H; intro w H
   refine dNm0 (by kernel_rfl) ?_
   first | refine d_endThen (by kernel_rfl) ?_ | refine d_endQ (by kernel_rfl) ?_
   have hsw := swapP (l := l') (i := (p : Int).toNat) (j := ((p : Int) + ((m - 1 : Nat) : Int)).toNat) (by omega) (by omega)
   have hlen := hsw.length_eq.trans hlen
   repeat refine cS0 ?_
   refine cR0 ?_
   refine sM0 hF h rfl rfl (by decide) ?_
   clear h; intro a h
   refine sM0 hF h rfl rfl (by decide) ?_
   clear h; intro a h
   refine sM0 hF h rfl rfl (by decide) ?_
   clear h; intro a h
   refine sM0 hF h rfl rfl (by decide) ?_
   clear h; intro a h
   refine i_call hF h rfl (sift_ret H hlen hn2 0 _ _ (by omega) (by omega)) rfl (by decide) ?_
   clear h H; rintro _ w ⟨l2, hp2, H⟩ a h
   first | refine cEt0 ?_ | refine cE0 ?_
   with_reducible repeat (first | refine xa0 ?_ | refine xb0 ?_ | refine xc0 ?_ | refine xd0 ?_ | refine xe0 (by decide) ?_ | refine xf0 ?_ | refine xg0 ?_ | refine xh0 ?_ | refine xi0 ?_)
   repeat refine cS0 ?_
   refine cR0 ?_
   refine sM0 hF h rfl rfl (by decide) ?_
   clear h; intro a h
   refine i_ar64 hF h rfl rfl rfl rfl (by omega) (by omega) (by decide) ?_
   clear h; intro a h
   refine sA0 hF h rfl rfl (by decide) ?_
   clear h; intro a h
   refine cE0 ?_
   exact ⟨m - 1, by omega, m - 1, l2, rfl, by omega, hp2.trans (hsw.trans hp), (h.sub (by repeat (first | exact trivial | refine ⟨rfl, ?_⟩))), H⟩
 · repeat refine cS0 ?_
   refine cR0 ?_
   refine sM0 hF h rfl rfl (by decide) ?_
   clear h; intro a h
   (first | (refine iC0 hF h rfl rfl rfl (i_geq_t (by omega)) (by decide) ?_) | (refine iC0 hF h rfl rfl rfl (i_geq_f (by omega)) (by decide) ?_))
   clear h; intro a h
   first | refine cEt0 ?_ | refine cE0 ?_
   repeat refine cS0 ?_
   refine c_condF h rfl ?_
   refine c_exit ?_
   with_reducible repeat (first | refine xa0 ?_ | refine xb0 ?_ | refine xc0 ?_ | refine xd0 ?_ | refine xe0 (by decide) ?_ | refine xf0 ?_ | refine xg0 ?_ | refine xh0 ?_ | refine xi0 ?_)
   refine leaveN (fn := Tryz.f108) h Tryz.results108 .nil ?_
   exact ⟨_, rfl, l', hp, H⟩
end Go.Proofs.YtjlmpghcjgbfjaaGreatDoor.Cw
