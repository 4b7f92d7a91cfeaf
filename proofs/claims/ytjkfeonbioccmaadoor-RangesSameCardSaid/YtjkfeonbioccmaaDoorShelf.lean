/- The library's contract of strings.Repeat at this program, in plain words: written by the shelf's tools. -/
import Derived.Shelf.Strings.Repeat
import Derived.Test.YtjkfeonbioccmaaDoorProg
namespace Go.Proofs
open Go.Shelf
def Tryd.lays105_ren : Go.Shelf.Ren := ⟨fun | 105 => 194 | 212 => 213 | 99 => 214 | 165 => 215 | 166 => 199 | 170 => 216 | 169 => 200 | 263 => 223 | 264 => 224 | 206 => 225 | 240 => 219 | 241 => 226 | 276 => 227 | 277 => 228 | n => n, fun | 9 => 9 | 3 => 3 | 4 => 4 | 20 => 20 | 0 => 0 | 46 => 207 | 109 => 265 | 5 => 5 | 72 => 247 | 76 => 251 | 51 => 202 | 146 => 272 | 53 => 212 | 148 => 274 | 70 => 245 | 37 => 205 | 75 => 249 | 127 => 270 | 164 => 276 | 80 => 253 | n => n, fun | n => n⟩
theorem Tryd.lays105 : Go.Proofs.Lays.n105 Tryd.prog Tryd.lays105_ren := {
  mixed := by kernel_rfl
  f99 := Tryd.func214.trans (congrArg some (by kernel_rfl))
  f105 := Tryd.func194.trans (congrArg some (by kernel_rfl))
  f165 := Tryd.func215.trans (congrArg some (by kernel_rfl))
  f166 := Tryd.func199.trans (congrArg some (by kernel_rfl))
  f169 := Tryd.func200.trans (congrArg some (by kernel_rfl))
  f170 := Tryd.func216.trans (congrArg some (by kernel_rfl))
  f206 := Tryd.func225.trans (congrArg some (by kernel_rfl))
  f212 := Tryd.func213.trans (congrArg some (by kernel_rfl))
  f240 := Tryd.func219.trans (congrArg some (by kernel_rfl))
  f241 := Tryd.func226.trans (congrArg some (by kernel_rfl))
  f263 := Tryd.func223.trans (congrArg some (by kernel_rfl))
  f264 := Tryd.func224.trans (congrArg some (by kernel_rfl))
  f276 := Tryd.func227.trans (congrArg some (by kernel_rfl))
  f277 := Tryd.func228.trans (congrArg some (by kernel_rfl))
  t0 := Tryd.underlying0
  a0 := Tryd.isAgg0
  z0 := Tryd.sizeOf0
  v0 := Tryd.zeroValue0
  t3 := Tryd.underlying3
  a3 := Tryd.isAgg3
  z3 := Tryd.sizeOf3
  v3 := Tryd.zeroValue3
  t4 := Tryd.underlying4
  a4 := Tryd.isAgg4
  z4 := Tryd.sizeOf4
  v4 := Tryd.zeroValue4
  t5 := Tryd.underlying5
  a5 := Tryd.isAgg5
  z5 := Tryd.sizeOf5
  v5 := Tryd.zeroValue5
  t9 := Tryd.underlying9
  a9 := Tryd.isAgg9
  z9 := Tryd.sizeOf9
  v9 := Tryd.zeroValue9
  t20 := Tryd.underlying20
  a20 := Tryd.isAgg20
  z20 := Tryd.sizeOf20
  v20 := Tryd.zeroValue20
  t37 := Tryd.underlying205
  a37 := Tryd.isAgg205
  z37 := Tryd.sizeOf205
  v37 := Tryd.zeroValue205
  t46 := Tryd.underlying207
  a46 := Tryd.isAgg207
  z46 := Tryd.sizeOf207
  v46 := Tryd.zeroValue207
  t51 := Tryd.underlying202
  a51 := Tryd.isAgg202
  z51 := Tryd.sizeOf202
  v51 := Tryd.zeroValue202
  t53 := Tryd.underlying212
  a53 := Tryd.isAgg212
  z53 := Tryd.sizeOf212
  v53 := Tryd.zeroValue212
  t70 := Tryd.underlying245
  a70 := Tryd.isAgg245
  z70 := Tryd.sizeOf245
  v70 := Tryd.zeroValue245
  t72 := Tryd.underlying247
  a72 := Tryd.isAgg247
  z72 := Tryd.sizeOf247
  v72 := Tryd.zeroValue247
  t75 := Tryd.underlying249
  a75 := Tryd.isAgg249
  z75 := Tryd.sizeOf249
  v75 := Tryd.zeroValue249
  t76 := Tryd.underlying251
  a76 := Tryd.isAgg251
  z76 := Tryd.sizeOf251
  v76 := Tryd.zeroValue251
  t109 := Tryd.underlying265
  a109 := Tryd.isAgg265
  z109 := Tryd.sizeOf265
  v109 := Tryd.zeroValue265
  t127 := Tryd.underlying270
  a127 := Tryd.isAgg270
  z127 := Tryd.sizeOf270
  v127 := Tryd.zeroValue270
  t146 := Tryd.underlying272
  a146 := Tryd.isAgg272
  z146 := Tryd.sizeOf272
  v146 := Tryd.zeroValue272
  t148 := Tryd.underlying274
  a148 := Tryd.isAgg274
  z148 := Tryd.sizeOf274
  v148 := Tryd.zeroValue274
  t164 := Tryd.underlying276
  a164 := Tryd.isAgg276
  z164 := Tryd.sizeOf276
  v164 := Tryd.zeroValue276 }
theorem Tryd.Builder_Extra_105 : Builder.Extra Tryd.prog Tryd.lays105_ren := {
  sizeBuilder := by kernel_rfl
  liesBuilder := by kernel_rfl
  t5 := Tryd.underlying5
  a5 := Tryd.isAgg5
  z5 := Tryd.sizeOf5
  v5 := Tryd.zeroValue5
  infoByte := by kernel_rfl
  cellsByte := by kernel_rfl
  sizeByte := by kernel_rfl
  neB5 := by decide }
open Go.RowKit Go.Lib in
/-- **strings.Repeat: count ≥ 0, the result within one allocation: count copies of s.** (LAID: no walk: one application.) -/
theorem Tryd.strings_Repeat (s : ByteArray) (c : Nat) (w : World) (hc : c ≤ 9223372036854775807) (hlen : s.size * c ≤ 140737488355328) :
    Calls Tryd.prog 194 #[.string s, .int .i64 c] w fun e w' => e = .returned (.string ⟨(Lib.repeatL s.data.toList c).toArray⟩) ∧ Below w.heap.size w w' := Any.strings_Repeat Tryd.lays105 Tryd.Builder_Extra_105 s c w hc hlen
end Go.Proofs
