/- What the library's functions answer, at this program: the shelf's contracts, laid in plain words. -/
import Derived.Shelf.Strings.Builder1
import Derived.Shelf.Strings.Builder2
import Derived.Shelf.Strings.OnBuilder
import Derived.Shelf.Small.Strs
import Derived.Shelf.Strconv.Itoa0
import Derived.Shelf.Strconv.Itoa1
import Derived.Shelf.LaysM
import Derived.Shelf.Strconv.Itoa2
import Derived.Shelf.Strconv.Itoa3
import Derived.Shelf.Strconv.Itoa4
import Derived.Shelf.Strconv.ParseIntEmpty
import Derived.Shelf.Strconv.Clone
import Derived.Shelf.Strconv.SyntaxError
import Derived.Shelf.LaysC
import Derived.Shelf.Strconv.ToError
import Derived.Shelf.Strconv.Lower
import Derived.Shelf.Strconv.ParseUint10
import Derived.Shelf.Strconv.ParseUint10Empty
import Derived.Shelf.Strconv.ParseUint10Any
import Derived.Shelf.Strconv.ParseInt10
import Derived.Shelf.Strconv.RangeError
import Derived.Shelf.Strconv.ToErrorRange
import Derived.Shelf.Strconv.ParseUintEmpty
import Derived.Shelf.Strconv.ParseUint10b64
import Derived.Shelf.Strconv.ParseUint10b32
import Derived.Shelf.Strconv.ParseUint10b16
import Derived.Shelf.Strconv.ParseUint10b8
import Derived.Shelf.Strconv.ParseUint10At
import Derived.Shelf.Strconv.ParseInt10At64
import Derived.Shelf.Strconv.ParseInt10At32
import Derived.Shelf.Strconv.ParseInt10At16
import Derived.Shelf.Strconv.ParseInt10At8
import Derived.Shelf.Strconv.ParseInt10All
import Derived.Shelf.Strconv.ParseIntPublic10
import Derived.Shelf.Strconv.ErrVarParseInt
import Derived.Shelf.Strings.Search1
import Derived.Shelf.Strings.Search2
import Derived.Shelf.Strings.Search3
import Derived.Shelf.Strings.Cut
import Derived.Shelf.Strings.Count
import Derived.Shelf.Strings.Shaped
import Derived.Shelf.Strings.Split
import Derived.Shelf.Strings.SplitShaped
import Derived.Shelf.Unicode.DecodeSlow
import Derived.Shelf.Unicode.DecodeAny
import Derived.Test.YtklhdbkaejbajaaDoorProg
namespace Go.Proofs
open Go.Shelf
def Tryd.lays156_ren : Go.Shelf.Ren := ⟨fun | 156 => 141 | 165 => 177 | 166 => 178 | 169 => 179 | 240 => 216 | 241 => 217 | 276 => 240 | 277 => 241 | n => n, fun | 31 => 36 | 9 => 9 | 3 => 3 | 4 => 4 | 0 => 0 | 20 => 20 | 72 => 195 | 76 => 197 | 70 => 193 | 37 => 44 | 75 => 113 | 127 => 231 | 164 => 256 | 5 => 5 | 80 => 199 | n => n, fun | n => n⟩
theorem Tryd.lays156 : Go.Proofs.Lays.n156 Tryd.prog Tryd.lays156_ren := {
  mixed := by kernel_rfl
  f156 := Tryd.func141.trans (congrArg some (by kernel_rfl))
  f165 := Tryd.func177.trans (congrArg some (by kernel_rfl))
  f166 := Tryd.func178.trans (congrArg some (by kernel_rfl))
  f169 := Tryd.func179.trans (congrArg some (by kernel_rfl))
  f240 := Tryd.func216.trans (congrArg some (by kernel_rfl))
  f241 := Tryd.func217.trans (congrArg some (by kernel_rfl))
  f276 := Tryd.func240.trans (congrArg some (by kernel_rfl))
  f277 := Tryd.func241.trans (congrArg some (by kernel_rfl))
  t0 := Tryd.underlying0
  a0 := Tryd.isAgg0
  z0 := Tryd.sizeOf0
  v0 := Tryd.zeroValue0
  t3 := Tryd.underlying3
  a3 := Tryd.isAgg3
  z3 := Tryd.sizeOf3
  v3 := Tryd.zeroValue3
  t4 := Tryd.underlying4
  a4 := Tryd.isAgg4
  z4 := Tryd.sizeOf4
  v4 := Tryd.zeroValue4
  t9 := Tryd.underlying9
  a9 := Tryd.isAgg9
  z9 := Tryd.sizeOf9
  v9 := Tryd.zeroValue9
  t20 := Tryd.underlying20
  a20 := Tryd.isAgg20
  z20 := Tryd.sizeOf20
  v20 := Tryd.zeroValue20
  t31 := Tryd.underlying36
  a31 := Tryd.isAgg36
  z31 := Tryd.sizeOf36
  v31 := Tryd.zeroValue36
  t37 := Tryd.underlying44
  a37 := Tryd.isAgg44
  z37 := Tryd.sizeOf44
  v37 := Tryd.zeroValue44
  t70 := Tryd.underlying193
  a70 := Tryd.isAgg193
  z70 := Tryd.sizeOf193
  v70 := Tryd.zeroValue193
  t72 := Tryd.underlying195
  a72 := Tryd.isAgg195
  z72 := Tryd.sizeOf195
  v72 := Tryd.zeroValue195
  t75 := Tryd.underlying113
  a75 := Tryd.isAgg113
  z75 := Tryd.sizeOf113
  v75 := Tryd.zeroValue113
  t76 := Tryd.underlying197
  a76 := Tryd.isAgg197
  z76 := Tryd.sizeOf197
  v76 := Tryd.zeroValue197
  t127 := Tryd.underlying231
  a127 := Tryd.isAgg231
  z127 := Tryd.sizeOf231
  v127 := Tryd.zeroValue231
  t164 := Tryd.underlying256
  a164 := Tryd.isAgg256
  z164 := Tryd.sizeOf256
  v164 := Tryd.zeroValue256 }
theorem Tryd.Builder_Extra_156 : Builder.Extra Tryd.prog Tryd.lays156_ren := {
  sizeBuilder := by kernel_rfl
  liesBuilder := by kernel_rfl
  t5 := Tryd.underlying5
  a5 := Tryd.isAgg5
  z5 := Tryd.sizeOf5
  v5 := Tryd.zeroValue5
  infoByte := by kernel_rfl
  cellsByte := by kernel_rfl
  sizeByte := by kernel_rfl
  neB5 := by decide }
open Go.RowKit in
theorem Tryd.strings_Join_none (a : Option Addr) (c : Nat) (sep : ByteArray) (w : World) :
    Calls Tryd.prog 141 #[.slice a 0 c, .string sep] w fun e w' => e = .returned (.string ⟨#[]⟩) ∧ w' = w := Any.strings_Join_none Tryd.lays156 Tryd.Builder_Extra_156 a c sep w
open Go.RowKit in
theorem Tryd.strings_Join (bk o c : Nat) (xs : List ByteArray) (sep : ByteArray) (w : World) (hcells : ∀ (j : Nat) x, xs[j]? = some x → w.cell? ⟨bk, o + j, none⟩ = some (.string x)) (hbk : bk < w.heap.size) (hN : xs.length ≤ 140737488355328) (hcap : xs.length ≤ c) (hlen : (Lib.join (xs.map (·.data.toList)) sep.data.toList).length ≤ 140737488355328) :
    Calls Tryd.prog 141 #[.slice (some ⟨bk, o, none⟩) xs.length c, .string sep] w fun e w' => e = .returned (.string ⟨(Lib.join (xs.map (·.data.toList)) sep.data.toList).toArray⟩) ∧ Below w.heap.size w w' := Any.strings_Join Tryd.lays156 Tryd.Builder_Extra_156 bk o c xs sep w hcells hbk hN hcap hlen
def Tryd.lays137_ren : Go.Shelf.Ren := ⟨fun | 137 => 148 | 217 => 190 | 266 => 229 | n => n, fun | 9 => 9 | 5 => 5 | 3 => 3 | n => n, fun | n => n⟩
theorem Tryd.lays137 : Go.Proofs.Lays.n137 Tryd.prog Tryd.lays137_ren := {
  mixed := by kernel_rfl
  f137 := Tryd.func148.trans (congrArg some (by kernel_rfl))
  f217 := Tryd.func190.trans (congrArg some (by kernel_rfl))
  f266 := Tryd.func229.trans (congrArg some (by kernel_rfl))
  t3 := Tryd.underlying3
  a3 := Tryd.isAgg3
  z3 := Tryd.sizeOf3
  v3 := Tryd.zeroValue3
  t5 := Tryd.underlying5
  a5 := Tryd.isAgg5
  z5 := Tryd.sizeOf5
  v5 := Tryd.zeroValue5
  t9 := Tryd.underlying9
  a9 := Tryd.isAgg9
  z9 := Tryd.sizeOf9
  v9 := Tryd.zeroValue9 }
open Go.RowKit in
theorem Tryd.strings_IndexByte (s : ByteArray) (c : Int) (w : World) :
    Calls Tryd.prog 148 #[.string s, .int .u8 c] w fun e w' => e = .returned (.int .i64 (Lib.indexByte s.data.toList c.toNat.toUInt8)) ∧ w' = w := Any.strings_IndexByte Tryd.lays137 s c w
def Tryd.laysM173_ren : Go.Shelf.Ren := ⟨fun | 173 => 139 | 246 => 176 | 283 => 212 | 284 => 213 | 285 => 214 | 286 => 215 | 129 => 236 | 317 => 235 | 318 => 237 | 319 => 238 | 320 => 239 | 337 => 245 | 338 => 246 | n => n, fun | 2 => 2 | 3 => 3 | 9 => 9 | 4 => 4 | 171 => 226 | 0 => 0 | 53 => 202 | 37 => 44 | 5 => 5 | 173 => 229 | 212 => 251 | 51 => 252 | 20 => 20 | 213 => 253 | 46 => 205 | 232 => 265 | 233 => 266 | n => n, fun | 17 => 5 | 18 => 6 | 19 => 7 | n => n⟩
theorem Tryd.laysM173 : Go.Proofs.LaysM.n173 Tryd.prog Tryd.laysM173_ren := {
  mixed := by kernel_rfl
  f129 := Tryd.func236.trans (congrArg some (by kernel_rfl))
  f173 := Tryd.func139.trans (congrArg some (by kernel_rfl))
  f246 := Tryd.func176.trans (congrArg some (by kernel_rfl))
  f283 := Tryd.func212.trans (congrArg some (by kernel_rfl))
  f284 := Tryd.func213.trans (congrArg some (by kernel_rfl))
  f285 := Tryd.func214.trans (congrArg some (by kernel_rfl))
  f286 := Tryd.func215.trans (congrArg some (by kernel_rfl))
  f317 := Tryd.func235.trans (congrArg some (by kernel_rfl))
  f318 := Tryd.func237.trans (congrArg some (by kernel_rfl))
  f319 := Tryd.func238.trans (congrArg some (by kernel_rfl))
  f320 := Tryd.func239.trans (congrArg some (by kernel_rfl))
  f337 := Tryd.func245.trans (congrArg some (by kernel_rfl))
  f338 := Tryd.func246.trans (congrArg some (by kernel_rfl))
  t0 := Tryd.underlying0
  a0 := Tryd.isAgg0
  z0 := Tryd.sizeOf0
  v0 := Tryd.zeroValue0
  t2 := Tryd.underlying2
  a2 := Tryd.isAgg2
  z2 := Tryd.sizeOf2
  v2 := Tryd.zeroValue2
  t3 := Tryd.underlying3
  a3 := Tryd.isAgg3
  z3 := Tryd.sizeOf3
  v3 := Tryd.zeroValue3
  t4 := Tryd.underlying4
  a4 := Tryd.isAgg4
  z4 := Tryd.sizeOf4
  v4 := Tryd.zeroValue4
  t5 := Tryd.underlying5
  a5 := Tryd.isAgg5
  z5 := Tryd.sizeOf5
  v5 := Tryd.zeroValue5
  t9 := Tryd.underlying9
  a9 := Tryd.isAgg9
  z9 := Tryd.sizeOf9
  v9 := Tryd.zeroValue9
  t20 := Tryd.underlying20
  a20 := Tryd.isAgg20
  z20 := Tryd.sizeOf20
  v20 := Tryd.zeroValue20
  t37 := Tryd.underlying44
  a37 := Tryd.isAgg44
  z37 := Tryd.sizeOf44
  v37 := Tryd.zeroValue44
  t46 := Tryd.underlying205
  a46 := Tryd.isAgg205
  z46 := Tryd.sizeOf205
  v46 := Tryd.zeroValue205
  t51 := Tryd.underlying252
  a51 := Tryd.isAgg252
  z51 := Tryd.sizeOf252
  v51 := Tryd.zeroValue252
  t53 := Tryd.underlying202
  a53 := Tryd.isAgg202
  z53 := Tryd.sizeOf202
  v53 := Tryd.zeroValue202
  t171 := Tryd.underlying226
  a171 := Tryd.isAgg226
  z171 := Tryd.sizeOf226
  v171 := Tryd.zeroValue226
  t173 := Tryd.underlying229
  a173 := Tryd.isAgg229
  z173 := Tryd.sizeOf229
  v173 := Tryd.zeroValue229
  t212 := Tryd.underlying251
  a212 := Tryd.isAgg251
  z212 := Tryd.sizeOf251
  v212 := Tryd.zeroValue251
  t213 := Tryd.underlying253
  a213 := Tryd.isAgg253
  z213 := Tryd.sizeOf253
  t232 := Tryd.underlying265
  a232 := Tryd.isAgg265
  z232 := Tryd.sizeOf265
  v232 := Tryd.zeroValue265
  t233 := Tryd.underlying266
  a233 := Tryd.isAgg266
  z233 := Tryd.sizeOf266
  v233 := Tryd.zeroValue266
  g17 := by kernel_rfl
  g18 := by kernel_rfl
  g19 := by kernel_rfl
  i0 := by kernel_rfl
  i2 := by kernel_rfl
  i3 := by kernel_rfl
  i4 := by kernel_rfl
  i5 := by kernel_rfl
  i9 := by kernel_rfl
  i20 := by kernel_rfl
  i37 := by kernel_rfl
  i46 := by kernel_rfl
  i51 := by kernel_rfl
  i53 := by kernel_rfl
  i171 := by kernel_rfl
  i173 := by kernel_rfl
  i212 := by kernel_rfl
  i232 := by kernel_rfl
  i233 := by kernel_rfl
  m17 := by kernel_rfl
  m18 := by kernel_rfl
  m19 := by kernel_rfl }
open Go.RowKit Go.Sort Go.Lib in
theorem Tryd.strconv_FormatInt_10 (n : Int) (h0 : -9223372036854775808 ≤ n) (h1 : n ≤ 9223372036854775807) (w : World) (htab : Lib.TabIs Tryd.prog w "internal/strconv.uint64pow10" .u64 Lib.pow10Tab) :
    Calls Tryd.prog 139 #[.int .i64 n, .int .i64 10] w fun e w' => e = .returned (.string ⟨(Lib.itoa n).toArray⟩) ∧ ∃ k os, w' = grow (w.drewN k) os := Any.strconv_FormatInt_10 Tryd.laysM173 n h0 h1 w htab
def Tryd.laysC174_ren : Go.Shelf.Ren := ⟨fun | 174 => 78 | 247 => 143 | 245 => 144 | 287 => 181 | 279 => 182 | 280 => 183 | 281 => 184 | 282 => 185 | 321 => 221 | 322 => 222 | 316 => 223 | 171 => 225 | 205 => 224 | 243 => 243 | 246 => 176 | 283 => 212 | 284 => 213 | 285 => 214 | 286 => 215 | 129 => 236 | 317 => 235 | 318 => 237 | 319 => 238 | 320 => 239 | 337 => 245 | 338 => 246 | n => n, fun | 9 => 9 | 3 => 3 | 2 => 2 | 75 => 113 | 85 => 114 | 4 => 4 | 167 => 201 | 5 => 5 | 53 => 202 | 175 => 203 | 46 => 205 | 168 => 206 | 37 => 44 | 0 => 0 | 210 => 235 | 21 => 21 | 127 => 231 | 145 => 263 | 143 => 261 | 171 => 226 | 173 => 229 | 212 => 251 | 51 => 252 | 20 => 20 | 213 => 253 | 232 => 265 | 233 => 266 | 80 => 199 | n => n, fun | 15 => 1 | 16 => 2 | 17 => 5 | 18 => 6 | 19 => 7 | n => n⟩
theorem Tryd.laysC174 : Go.Proofs.LaysC.n174 Tryd.prog Tryd.laysC174_ren := {
  mixed := by kernel_rfl
  f129 := Tryd.func236.trans (congrArg some (by kernel_rfl))
  f171 := Tryd.func225.trans (congrArg some (by kernel_rfl))
  f174 := Tryd.func78.trans (congrArg some (by kernel_rfl))
  f205 := Tryd.func224.trans (congrArg some (by kernel_rfl))
  f243 := Tryd.func243.trans (congrArg some (by kernel_rfl))
  f245 := Tryd.func144.trans (congrArg some (by kernel_rfl))
  f246 := Tryd.func176.trans (congrArg some (by kernel_rfl))
  f247 := Tryd.func143.trans (congrArg some (by kernel_rfl))
  f279 := Tryd.func182.trans (congrArg some (by kernel_rfl))
  f280 := Tryd.func183.trans (congrArg some (by kernel_rfl))
  f281 := Tryd.func184.trans (congrArg some (by kernel_rfl))
  f282 := Tryd.func185.trans (congrArg some (by kernel_rfl))
  f283 := Tryd.func212.trans (congrArg some (by kernel_rfl))
  f284 := Tryd.func213.trans (congrArg some (by kernel_rfl))
  f285 := Tryd.func214.trans (congrArg some (by kernel_rfl))
  f286 := Tryd.func215.trans (congrArg some (by kernel_rfl))
  f287 := Tryd.func181.trans (congrArg some (by kernel_rfl))
  f316 := Tryd.func223.trans (congrArg some (by kernel_rfl))
  f317 := Tryd.func235.trans (congrArg some (by kernel_rfl))
  f318 := Tryd.func237.trans (congrArg some (by kernel_rfl))
  f319 := Tryd.func238.trans (congrArg some (by kernel_rfl))
  f320 := Tryd.func239.trans (congrArg some (by kernel_rfl))
  f321 := Tryd.func221.trans (congrArg some (by kernel_rfl))
  f322 := Tryd.func222.trans (congrArg some (by kernel_rfl))
  f337 := Tryd.func245.trans (congrArg some (by kernel_rfl))
  f338 := Tryd.func246.trans (congrArg some (by kernel_rfl))
  t0 := Tryd.underlying0
  a0 := Tryd.isAgg0
  z0 := Tryd.sizeOf0
  v0 := Tryd.zeroValue0
  t2 := Tryd.underlying2
  a2 := Tryd.isAgg2
  z2 := Tryd.sizeOf2
  v2 := Tryd.zeroValue2
  t3 := Tryd.underlying3
  a3 := Tryd.isAgg3
  z3 := Tryd.sizeOf3
  v3 := Tryd.zeroValue3
  t4 := Tryd.underlying4
  a4 := Tryd.isAgg4
  z4 := Tryd.sizeOf4
  v4 := Tryd.zeroValue4
  t5 := Tryd.underlying5
  a5 := Tryd.isAgg5
  z5 := Tryd.sizeOf5
  v5 := Tryd.zeroValue5
  t9 := Tryd.underlying9
  a9 := Tryd.isAgg9
  z9 := Tryd.sizeOf9
  v9 := Tryd.zeroValue9
  t20 := Tryd.underlying20
  a20 := Tryd.isAgg20
  z20 := Tryd.sizeOf20
  v20 := Tryd.zeroValue20
  t21 := Tryd.underlying21
  a21 := Tryd.isAgg21
  z21 := Tryd.sizeOf21
  v21 := Tryd.zeroValue21
  t37 := Tryd.underlying44
  a37 := Tryd.isAgg44
  z37 := Tryd.sizeOf44
  v37 := Tryd.zeroValue44
  t46 := Tryd.underlying205
  a46 := Tryd.isAgg205
  z46 := Tryd.sizeOf205
  v46 := Tryd.zeroValue205
  t51 := Tryd.underlying252
  a51 := Tryd.isAgg252
  z51 := Tryd.sizeOf252
  v51 := Tryd.zeroValue252
  t53 := Tryd.underlying202
  a53 := Tryd.isAgg202
  z53 := Tryd.sizeOf202
  v53 := Tryd.zeroValue202
  t75 := Tryd.underlying113
  a75 := Tryd.isAgg113
  z75 := Tryd.sizeOf113
  v75 := Tryd.zeroValue113
  t85 := Tryd.underlying114
  a85 := Tryd.isAgg114
  z85 := Tryd.sizeOf114
  v85 := Tryd.zeroValue114
  t127 := Tryd.underlying231
  a127 := Tryd.isAgg231
  z127 := Tryd.sizeOf231
  v127 := Tryd.zeroValue231
  t143 := Tryd.underlying261
  a143 := Tryd.isAgg261
  z143 := Tryd.sizeOf261
  v143 := Tryd.zeroValue261
  t145 := Tryd.underlying263
  a145 := Tryd.isAgg263
  z145 := Tryd.sizeOf263
  v145 := Tryd.zeroValue263
  t167 := Tryd.underlying201
  a167 := Tryd.isAgg201
  z167 := Tryd.sizeOf201
  v167 := Tryd.zeroValue201
  t168 := Tryd.underlying206
  a168 := Tryd.isAgg206
  z168 := Tryd.sizeOf206
  v168 := Tryd.zeroValue206
  t171 := Tryd.underlying226
  a171 := Tryd.isAgg226
  z171 := Tryd.sizeOf226
  v171 := Tryd.zeroValue226
  t173 := Tryd.underlying229
  a173 := Tryd.isAgg229
  z173 := Tryd.sizeOf229
  v173 := Tryd.zeroValue229
  t175 := Tryd.underlying203
  a175 := Tryd.isAgg203
  z175 := Tryd.sizeOf203
  v175 := Tryd.zeroValue203
  t210 := Tryd.underlying235
  a210 := Tryd.isAgg235
  z210 := Tryd.sizeOf235
  v210 := Tryd.zeroValue235
  t212 := Tryd.underlying251
  a212 := Tryd.isAgg251
  z212 := Tryd.sizeOf251
  v212 := Tryd.zeroValue251
  t213 := Tryd.underlying253
  a213 := Tryd.isAgg253
  z213 := Tryd.sizeOf253
  t232 := Tryd.underlying265
  a232 := Tryd.isAgg265
  z232 := Tryd.sizeOf265
  v232 := Tryd.zeroValue265
  t233 := Tryd.underlying266
  a233 := Tryd.isAgg266
  z233 := Tryd.sizeOf266
  v233 := Tryd.zeroValue266
  g15 := by kernel_rfl
  g16 := by kernel_rfl
  g17 := by kernel_rfl
  g18 := by kernel_rfl
  g19 := by kernel_rfl
  t80 := Tryd.underlying199
  a80 := Tryd.isAgg199
  z80 := Tryd.sizeOf199
  v80 := Tryd.zeroValue199
  i0 := by kernel_rfl
  i2 := by kernel_rfl
  i3 := by kernel_rfl
  i4 := by kernel_rfl
  i5 := by kernel_rfl
  i9 := by kernel_rfl
  i20 := by kernel_rfl
  i21 := by kernel_rfl
  i37 := by kernel_rfl
  i46 := by kernel_rfl
  i51 := by kernel_rfl
  i53 := by kernel_rfl
  i75 := by kernel_rfl
  i80 := by kernel_rfl
  i85 := by kernel_rfl
  i127 := by kernel_rfl
  i143 := by kernel_rfl
  i145 := by kernel_rfl
  i167 := by kernel_rfl
  i168 := by kernel_rfl
  i171 := by kernel_rfl
  i173 := by kernel_rfl
  i175 := by kernel_rfl
  i210 := by kernel_rfl
  i212 := by kernel_rfl
  i232 := by kernel_rfl
  i233 := by kernel_rfl
  m15 := by kernel_rfl
  m16 := by kernel_rfl
  m17 := by kernel_rfl
  m18 := by kernel_rfl
  m19 := by kernel_rfl
  c0 := by kernel_rfl
  c2 := by kernel_rfl
  c3 := by kernel_rfl
  c4 := by kernel_rfl
  c5 := by kernel_rfl
  c9 := by kernel_rfl
  c20 := by kernel_rfl
  c21 := by kernel_rfl
  c37 := by kernel_rfl
  c46 := by kernel_rfl
  c51 := by kernel_rfl
  c53 := by kernel_rfl
  c75 := by kernel_rfl
  c80 := by kernel_rfl
  c85 := by kernel_rfl
  c127 := by kernel_rfl
  c143 := by kernel_rfl
  c145 := by kernel_rfl
  c167 := by kernel_rfl
  c168 := by kernel_rfl
  c171 := by kernel_rfl
  c173 := by kernel_rfl
  c175 := by kernel_rfl
  c210 := by kernel_rfl
  c212 := by kernel_rfl
  c213 := by kernel_rfl
  c232 := by kernel_rfl
  c233 := by kernel_rfl }
def Tryd.lays143_ren : Go.Shelf.Ren := ⟨fun | 143 => 189 | 219 => 180 | 217 => 190 | 225 => 218 | 224 => 219 | 267 => 220 | 266 => 229 | 314 => 242 | n => n, fun | 9 => 9 | 3 => 3 | 4 => 4 | 5 => 5 | 46 => 205 | 146 => 259 | 51 => 252 | n => n, fun | 1 => 0 | n => n⟩
theorem Tryd.lays143 : Go.Proofs.Lays.n143 Tryd.prog Tryd.lays143_ren := {
  mixed := by kernel_rfl
  f143 := Tryd.func189.trans (congrArg some (by kernel_rfl))
  f217 := Tryd.func190.trans (congrArg some (by kernel_rfl))
  f219 := Tryd.func180.trans (congrArg some (by kernel_rfl))
  f224 := Tryd.func219.trans (congrArg some (by kernel_rfl))
  f225 := Tryd.func218.trans (congrArg some (by kernel_rfl))
  f266 := Tryd.func229.trans (congrArg some (by kernel_rfl))
  f267 := Tryd.func220.trans (congrArg some (by kernel_rfl))
  f314 := Tryd.func242.trans (congrArg some (by kernel_rfl))
  t3 := Tryd.underlying3
  a3 := Tryd.isAgg3
  z3 := Tryd.sizeOf3
  v3 := Tryd.zeroValue3
  t4 := Tryd.underlying4
  a4 := Tryd.isAgg4
  z4 := Tryd.sizeOf4
  v4 := Tryd.zeroValue4
  t5 := Tryd.underlying5
  a5 := Tryd.isAgg5
  z5 := Tryd.sizeOf5
  v5 := Tryd.zeroValue5
  t9 := Tryd.underlying9
  a9 := Tryd.isAgg9
  z9 := Tryd.sizeOf9
  v9 := Tryd.zeroValue9
  t46 := Tryd.underlying205
  a46 := Tryd.isAgg205
  z46 := Tryd.sizeOf205
  v46 := Tryd.zeroValue205
  t51 := Tryd.underlying252
  a51 := Tryd.isAgg252
  z51 := Tryd.sizeOf252
  v51 := Tryd.zeroValue252
  t146 := Tryd.underlying259
  a146 := Tryd.isAgg259
  z146 := Tryd.sizeOf259
  v146 := Tryd.zeroValue259
  g1 := by kernel_rfl }
open Go.RowKit Go.Lib in
theorem Tryd.strings_Index (s sub : ByteArray) (m : Int) (w : World) (hs : s.size < 4294967281) (hm : w.cell? ⟨0, 0, none⟩ = some (.int .i64 m)) :
    Calls Tryd.prog 189 #[.string s, .string sub] w fun e w' => e = .returned (.int .i64 (Lib.index s.data.toList sub.data.toList)) ∧ w' = w := Any.strings_Index Tryd.lays143 s sub m w hs hm
def Tryd.lays145_ren : Go.Shelf.Ren := ⟨fun | 145 => 77 | 220 => 142 | 219 => 180 | 217 => 190 | 225 => 218 | 224 => 219 | 267 => 220 | 266 => 229 | 314 => 242 | n => n, fun | 9 => 9 | 4 => 4 | 59 => 110 | 3 => 3 | 5 => 5 | 46 => 205 | 146 => 259 | 51 => 252 | n => n, fun | 1 => 0 | n => n⟩
theorem Tryd.lays145 : Go.Proofs.Lays.n145 Tryd.prog Tryd.lays145_ren := {
  mixed := by kernel_rfl
  f145 := Tryd.func77.trans (congrArg some (by kernel_rfl))
  f217 := Tryd.func190.trans (congrArg some (by kernel_rfl))
  f219 := Tryd.func180.trans (congrArg some (by kernel_rfl))
  f220 := Tryd.func142.trans (congrArg some (by kernel_rfl))
  f224 := Tryd.func219.trans (congrArg some (by kernel_rfl))
  f225 := Tryd.func218.trans (congrArg some (by kernel_rfl))
  f266 := Tryd.func229.trans (congrArg some (by kernel_rfl))
  f267 := Tryd.func220.trans (congrArg some (by kernel_rfl))
  f314 := Tryd.func242.trans (congrArg some (by kernel_rfl))
  t3 := Tryd.underlying3
  a3 := Tryd.isAgg3
  z3 := Tryd.sizeOf3
  v3 := Tryd.zeroValue3
  t4 := Tryd.underlying4
  a4 := Tryd.isAgg4
  z4 := Tryd.sizeOf4
  v4 := Tryd.zeroValue4
  t5 := Tryd.underlying5
  a5 := Tryd.isAgg5
  z5 := Tryd.sizeOf5
  v5 := Tryd.zeroValue5
  t9 := Tryd.underlying9
  a9 := Tryd.isAgg9
  z9 := Tryd.sizeOf9
  v9 := Tryd.zeroValue9
  t46 := Tryd.underlying205
  a46 := Tryd.isAgg205
  z46 := Tryd.sizeOf205
  v46 := Tryd.zeroValue205
  t51 := Tryd.underlying252
  a51 := Tryd.isAgg252
  z51 := Tryd.sizeOf252
  v51 := Tryd.zeroValue252
  t59 := Tryd.underlying110
  a59 := Tryd.isAgg110
  z59 := Tryd.sizeOf110
  v59 := Tryd.zeroValue110
  t146 := Tryd.underlying259
  a146 := Tryd.isAgg259
  z146 := Tryd.sizeOf259
  v146 := Tryd.zeroValue259
  g1 := by kernel_rfl }
open Go.RowKit Go.Lib in
theorem Tryd.strings_Cut (s sep : ByteArray) (m : Int) (w : World) (hs : s.size < 4294967281) (hm : w.cell? ⟨0, 0, none⟩ = some (.int .i64 m)) :
    Calls Tryd.prog 77 #[.string s, .string sep] w fun e w' => e = .returned (.tuple #[.string ⟨(Lib.cut s.data.toList sep.data.toList).1.toArray⟩, .string ⟨(Lib.cut s.data.toList sep.data.toList).2.1.toArray⟩, .bool (Lib.cut s.data.toList sep.data.toList).2.2]) ∧ ∃ n, w' = w.drewN n := Any.strings_Cut Tryd.lays145 s sep m w hs hm
def Tryd.lays138_ren : Go.Shelf.Ren := ⟨fun | 138 => 188 | 195 => 226 | 218 => 228 | 143 => 189 | 219 => 180 | 217 => 190 | 225 => 218 | 224 => 219 | 267 => 220 | 266 => 229 | 314 => 242 | n => n, fun | 9 => 9 | 3 => 3 | 4 => 4 | 5 => 5 | 0 => 0 | 46 => 205 | 146 => 259 | 51 => 252 | n => n, fun | 1 => 0 | n => n⟩
theorem Tryd.lays138 : Go.Proofs.Lays.n138 Tryd.prog Tryd.lays138_ren := {
  mixed := by kernel_rfl
  f138 := Tryd.func188.trans (congrArg some (by kernel_rfl))
  f143 := Tryd.func189.trans (congrArg some (by kernel_rfl))
  f195 := Tryd.func226.trans (congrArg some (by kernel_rfl))
  f217 := Tryd.func190.trans (congrArg some (by kernel_rfl))
  f218 := Tryd.func228.trans (congrArg some (by kernel_rfl))
  f219 := Tryd.func180.trans (congrArg some (by kernel_rfl))
  f224 := Tryd.func219.trans (congrArg some (by kernel_rfl))
  f225 := Tryd.func218.trans (congrArg some (by kernel_rfl))
  f266 := Tryd.func229.trans (congrArg some (by kernel_rfl))
  f267 := Tryd.func220.trans (congrArg some (by kernel_rfl))
  f314 := Tryd.func242.trans (congrArg some (by kernel_rfl))
  t0 := Tryd.underlying0
  a0 := Tryd.isAgg0
  z0 := Tryd.sizeOf0
  v0 := Tryd.zeroValue0
  t3 := Tryd.underlying3
  a3 := Tryd.isAgg3
  z3 := Tryd.sizeOf3
  v3 := Tryd.zeroValue3
  t4 := Tryd.underlying4
  a4 := Tryd.isAgg4
  z4 := Tryd.sizeOf4
  v4 := Tryd.zeroValue4
  t5 := Tryd.underlying5
  a5 := Tryd.isAgg5
  z5 := Tryd.sizeOf5
  v5 := Tryd.zeroValue5
  t9 := Tryd.underlying9
  a9 := Tryd.isAgg9
  z9 := Tryd.sizeOf9
  v9 := Tryd.zeroValue9
  t46 := Tryd.underlying205
  a46 := Tryd.isAgg205
  z46 := Tryd.sizeOf205
  v46 := Tryd.zeroValue205
  t51 := Tryd.underlying252
  a51 := Tryd.isAgg252
  z51 := Tryd.sizeOf252
  v51 := Tryd.zeroValue252
  t146 := Tryd.underlying259
  a146 := Tryd.isAgg259
  z146 := Tryd.sizeOf259
  v146 := Tryd.zeroValue259
  g1 := by kernel_rfl }
def Tryd.laysM145_ren : Go.Shelf.Ren := ⟨fun | 145 => 77 | 220 => 142 | 219 => 180 | 217 => 190 | 225 => 218 | 224 => 219 | 267 => 220 | 266 => 229 | 314 => 242 | n => n, fun | 9 => 9 | 4 => 4 | 59 => 110 | 3 => 3 | 5 => 5 | 46 => 205 | 146 => 259 | 51 => 252 | n => n, fun | 1 => 0 | n => n⟩
theorem Tryd.laysM145 : Go.Proofs.LaysM.n145 Tryd.prog Tryd.laysM145_ren := {
  mixed := by kernel_rfl
  f145 := Tryd.func77.trans (congrArg some (by kernel_rfl))
  f217 := Tryd.func190.trans (congrArg some (by kernel_rfl))
  f219 := Tryd.func180.trans (congrArg some (by kernel_rfl))
  f220 := Tryd.func142.trans (congrArg some (by kernel_rfl))
  f224 := Tryd.func219.trans (congrArg some (by kernel_rfl))
  f225 := Tryd.func218.trans (congrArg some (by kernel_rfl))
  f266 := Tryd.func229.trans (congrArg some (by kernel_rfl))
  f267 := Tryd.func220.trans (congrArg some (by kernel_rfl))
  f314 := Tryd.func242.trans (congrArg some (by kernel_rfl))
  t3 := Tryd.underlying3
  a3 := Tryd.isAgg3
  z3 := Tryd.sizeOf3
  v3 := Tryd.zeroValue3
  t4 := Tryd.underlying4
  a4 := Tryd.isAgg4
  z4 := Tryd.sizeOf4
  v4 := Tryd.zeroValue4
  t5 := Tryd.underlying5
  a5 := Tryd.isAgg5
  z5 := Tryd.sizeOf5
  v5 := Tryd.zeroValue5
  t9 := Tryd.underlying9
  a9 := Tryd.isAgg9
  z9 := Tryd.sizeOf9
  v9 := Tryd.zeroValue9
  t46 := Tryd.underlying205
  a46 := Tryd.isAgg205
  z46 := Tryd.sizeOf205
  v46 := Tryd.zeroValue205
  t51 := Tryd.underlying252
  a51 := Tryd.isAgg252
  z51 := Tryd.sizeOf252
  v51 := Tryd.zeroValue252
  t59 := Tryd.underlying110
  a59 := Tryd.isAgg110
  z59 := Tryd.sizeOf110
  v59 := Tryd.zeroValue110
  t146 := Tryd.underlying259
  a146 := Tryd.isAgg259
  z146 := Tryd.sizeOf259
  v146 := Tryd.zeroValue259
  g1 := by kernel_rfl
  i3 := by kernel_rfl
  i4 := by kernel_rfl
  i5 := by kernel_rfl
  i9 := by kernel_rfl
  i46 := by kernel_rfl
  i51 := by kernel_rfl
  i59 := by kernel_rfl
  i146 := by kernel_rfl
  m1 := by kernel_rfl
  s1_3 := fun w h => Go.Proofs.cell_of_shapedOpen_int (zero := #[.int .i64 0]) (t := 3) h (of_decide_eq_true (by kernel_rfl)) (by kernel_rfl) rfl (by kernel_rfl) (by kernel_rfl) Tryd.underlying3 }
open Go.RowKit Go.Lib in
theorem Tryd.strings_Count_any (s sep : ByteArray) (m : Int) (w : World) (hs : s.size < 4294967281) (hm : w.cell? ⟨0, 0, none⟩ = some (.int .i64 m)) (h1 : 1 ≤ sep.size) :
    Calls Tryd.prog 188 #[.string s, .string sep] w fun e w' => e = .returned (.int .i64 (Lib.countB s sep)) ∧ w' = w := Any.strings_Count_any Tryd.lays138 s sep m w hs hm h1
end Go.Proofs
