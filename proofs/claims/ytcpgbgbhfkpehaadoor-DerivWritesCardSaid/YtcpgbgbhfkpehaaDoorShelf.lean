/-
  The library's contracts at this dump, as the kit's own tool lays them.
-/
import Derived.Shelf.Strings.Builder1
import Derived.Shelf.Strings.Builder2
import Derived.Shelf.Strings.OnBuilder
import Derived.Shelf.Small.Strs
import Derived.Shelf.Small.Wraps
import Derived.Shelf.Strconv.Atoi
import Derived.Shelf.Strconv.Itoa0
import Derived.Shelf.Strconv.Itoa1
import Derived.Shelf.LaysM
import Derived.Shelf.Strconv.Itoa2
import Derived.Shelf.Strconv.Itoa3
import Derived.Shelf.Strings.Search1
import Derived.Shelf.Strings.Search2
import Derived.Shelf.Strings.Search3
import Derived.Shelf.Strings.Count
import Derived.Shelf.Strings.Shaped
import Derived.Shelf.Strings.Prefix
import Derived.Shelf.Strings.Split
import Derived.Shelf.Bits.Mul64
import Derived.Shelf.Unicode.DecodeSlow
import Derived.Ground.Names2Prog
import Derived.Shelf.Slices.Clone
import Derived.Test.YtcpgbgbhfkpehaaDoorProg
namespace Go.Proofs
open Go.Shelf
def Tryd.lays156_ren : Go.Shelf.Ren := ⟨fun | 156 => 90 | 165 => 145 | 166 => 95 | 169 => 97 | 240 => 149 | 241 => 179 | 276 => 181 | 277 => 206 | n => n, fun | 31 => 152 | 9 => 9 | 3 => 3 | 4 => 4 | 0 => 0 | 20 => 20 | 72 => 161 | 76 => 121 | 70 => 159 | 37 => 81 | 75 => 120 | 127 => 224 | 164 => 247 | 5 => 5 | 80 => 164 | n => n, fun | n => n⟩
theorem Tryd.lays156 : Go.Proofs.Lays.n156 Tryd.prog Tryd.lays156_ren := {
  mixed := by kernel_rfl
  f156 := Tryd.func90.trans (congrArg some (by kernel_rfl))
  f165 := Tryd.func145.trans (congrArg some (by kernel_rfl))
  f166 := Tryd.func95.trans (congrArg some (by kernel_rfl))
  f169 := Tryd.func97.trans (congrArg some (by kernel_rfl))
  f240 := Tryd.func149.trans (congrArg some (by kernel_rfl))
  f241 := Tryd.func179.trans (congrArg some (by kernel_rfl))
  f276 := Tryd.func181.trans (congrArg some (by kernel_rfl))
  f277 := Tryd.func206.trans (congrArg some (by kernel_rfl))
  t0 := Tryd.underlying0
  a0 := Tryd.isAgg0
  z0 := Tryd.sizeOf0
  v0 := Tryd.zeroValue0
  t3 := Tryd.underlying3
  a3 := Tryd.isAgg3
  z3 := Tryd.sizeOf3
  v3 := Tryd.zeroValue3
  t4 := Tryd.underlying4
  a4 := Tryd.isAgg4
  z4 := Tryd.sizeOf4
  v4 := Tryd.zeroValue4
  t9 := Tryd.underlying9
  a9 := Tryd.isAgg9
  z9 := Tryd.sizeOf9
  v9 := Tryd.zeroValue9
  t20 := Tryd.underlying20
  a20 := Tryd.isAgg20
  z20 := Tryd.sizeOf20
  v20 := Tryd.zeroValue20
  t31 := Tryd.underlying152
  a31 := Tryd.isAgg152
  z31 := Tryd.sizeOf152
  v31 := Tryd.zeroValue152
  t37 := Tryd.underlying81
  a37 := Tryd.isAgg81
  z37 := Tryd.sizeOf81
  v37 := Tryd.zeroValue81
  t70 := Tryd.underlying159
  a70 := Tryd.isAgg159
  z70 := Tryd.sizeOf159
  v70 := Tryd.zeroValue159
  t72 := Tryd.underlying161
  a72 := Tryd.isAgg161
  z72 := Tryd.sizeOf161
  v72 := Tryd.zeroValue161
  t75 := Tryd.underlying120
  a75 := Tryd.isAgg120
  z75 := Tryd.sizeOf120
  v75 := Tryd.zeroValue120
  t76 := Tryd.underlying121
  a76 := Tryd.isAgg121
  z76 := Tryd.sizeOf121
  v76 := Tryd.zeroValue121
  t127 := Tryd.underlying224
  a127 := Tryd.isAgg224
  z127 := Tryd.sizeOf224
  v127 := Tryd.zeroValue224
  t164 := Tryd.underlying247
  a164 := Tryd.isAgg247
  z164 := Tryd.sizeOf247
  v164 := Tryd.zeroValue247 }
theorem Tryd.Builder_Extra_156 : Builder.Extra Tryd.prog Tryd.lays156_ren := {
  sizeBuilder := by kernel_rfl
  liesBuilder := by kernel_rfl
  t5 := Tryd.underlying5
  a5 := Tryd.isAgg5
  z5 := Tryd.sizeOf5
  v5 := Tryd.zeroValue5
  infoByte := by kernel_rfl
  cellsByte := by kernel_rfl
  sizeByte := by kernel_rfl
  neB5 := by decide }
open Go.RowKit in
theorem Tryd.strings_Join (bk o c : Nat) (xs : List ByteArray) (sep : ByteArray) (w : World) (hcells : ∀ (j : Nat) x, xs[j]? = some x → w.cell? ⟨bk, o + j, none⟩ = some (.string x)) (hbk : bk < w.heap.size) (hN : xs.length ≤ 140737488355328) (hcap : xs.length ≤ c) (hlen : (Lib.join (xs.map (·.data.toList)) sep.data.toList).length ≤ 140737488355328) :
    Calls Tryd.prog 90 #[.slice (some ⟨bk, o, none⟩) xs.length c, .string sep] w fun e w' => e = .returned (.string ⟨(Lib.join (xs.map (·.data.toList)) sep.data.toList).toArray⟩) ∧ Below w.heap.size w w' := Any.strings_Join Tryd.lays156 Tryd.Builder_Extra_156 bk o c xs sep w hcells hbk hN hcap hlen
def Tryd.lays137_ren : Go.Shelf.Ren := ⟨fun | 137 => 142 | 217 => 174 | 266 => 204 | n => n, fun | 9 => 9 | 5 => 5 | 3 => 3 | n => n, fun | n => n⟩
theorem Tryd.lays137 : Go.Proofs.Lays.n137 Tryd.prog Tryd.lays137_ren := {
  mixed := by kernel_rfl
  f137 := Tryd.func142.trans (congrArg some (by kernel_rfl))
  f217 := Tryd.func174.trans (congrArg some (by kernel_rfl))
  f266 := Tryd.func204.trans (congrArg some (by kernel_rfl))
  t3 := Tryd.underlying3
  a3 := Tryd.isAgg3
  z3 := Tryd.sizeOf3
  v3 := Tryd.zeroValue3
  t5 := Tryd.underlying5
  a5 := Tryd.isAgg5
  z5 := Tryd.sizeOf5
  v5 := Tryd.zeroValue5
  t9 := Tryd.underlying9
  a9 := Tryd.isAgg9
  z9 := Tryd.sizeOf9
  v9 := Tryd.zeroValue9 }
open Go.RowKit in
theorem Tryd.strings_IndexByte (s : ByteArray) (c : Int) (w : World) :
    Calls Tryd.prog 142 #[.string s, .int .u8 c] w fun e w' => e = .returned (.int .i64 (Lib.indexByte s.data.toList c.toNat.toUInt8)) ∧ w' = w := Any.strings_IndexByte Tryd.lays137 s c w
def Tryd.lays103_ren : Go.Shelf.Ren := ⟨fun | 103 => 137 | 210 => 178 | 206 => 140 | n => n, fun | 9 => 9 | 4 => 4 | 24 => 65 | 3 => 3 | n => n, fun | n => n⟩
theorem Tryd.lays103 : Go.Proofs.Lays.n103 Tryd.prog Tryd.lays103_ren := {
  mixed := by kernel_rfl
  f103 := Tryd.func137.trans (congrArg some (by kernel_rfl))
  f206 := Tryd.func140.trans (congrArg some (by kernel_rfl))
  f210 := Tryd.func178.trans (congrArg some (by kernel_rfl))
  t3 := Tryd.underlying3
  a3 := Tryd.isAgg3
  z3 := Tryd.sizeOf3
  v3 := Tryd.zeroValue3
  t4 := Tryd.underlying4
  a4 := Tryd.isAgg4
  z4 := Tryd.sizeOf4
  v4 := Tryd.zeroValue4
  t9 := Tryd.underlying9
  a9 := Tryd.isAgg9
  z9 := Tryd.sizeOf9
  v9 := Tryd.zeroValue9
  t24 := Tryd.underlying65
  a24 := Tryd.isAgg65
  z24 := Tryd.sizeOf65
  v24 := Tryd.zeroValue65 }
open Go.RowKit in
theorem Tryd.strings_CutPrefix (s p : ByteArray) (w : World) :
    Calls Tryd.prog 137 #[.string s, .string p] w fun e w' => e = .returned (.tuple #[.string ⟨(Lib.trimPrefix s.data.toList p.data.toList).toArray⟩, .bool (Lib.hasPrefix s.data.toList p.data.toList)]) ∧ w' = w := Any.strings_CutPrefix Tryd.lays103 s p w
def Tryd.lays172_ren : Go.Shelf.Ren := ⟨fun | 172 => 72 | 244 => 132 | 245 => 133 | 247 => 168 | 279 => 169 | 280 => 170 | 281 => 171 | 282 => 172 | 287 => 161 | 316 => 201 | 171 => 134 | 205 => 202 | 321 => 192 | 322 => 193 | 243 => 173 | 246 => 203 | 283 => 195 | 284 => 196 | 285 => 197 | 286 => 198 | 129 => 218 | 317 => 217 | 318 => 219 | 319 => 220 | 320 => 221 | 337 => 226 | 338 => 227 | n => n, fun | 9 => 9 | 3 => 3 | 75 => 120 | 76 => 121 | 4 => 4 | 5 => 5 | 167 => 240 | 37 => 81 | 0 => 0 | 85 => 241 | 2 => 2 | 168 => 243 | 53 => 90 | 175 => 190 | 46 => 209 | 210 => 271 | 127 => 224 | 145 => 288 | 143 => 286 | 21 => 21 | 171 => 260 | 173 => 263 | 212 => 283 | 51 => 22 | 20 => 20 | 213 => 284 | 232 => 294 | 233 => 295 | 80 => 164 | n => n, fun | 15 => 3 | 16 => 4 | 17 => 5 | 18 => 6 | 19 => 7 | n => n⟩
theorem Tryd.lays172 : Go.Proofs.Lays.n172 Tryd.prog Tryd.lays172_ren := {
  mixed := by kernel_rfl
  f129 := Tryd.func218.trans (congrArg some (by kernel_rfl))
  f171 := Tryd.func134.trans (congrArg some (by kernel_rfl))
  f172 := Tryd.func72.trans (congrArg some (by kernel_rfl))
  f205 := Tryd.func202.trans (congrArg some (by kernel_rfl))
  f243 := Tryd.func173.trans (congrArg some (by kernel_rfl))
  f244 := Tryd.func132.trans (congrArg some (by kernel_rfl))
  f245 := Tryd.func133.trans (congrArg some (by kernel_rfl))
  f246 := Tryd.func203.trans (congrArg some (by kernel_rfl))
  f247 := Tryd.func168.trans (congrArg some (by kernel_rfl))
  f279 := Tryd.func169.trans (congrArg some (by kernel_rfl))
  f280 := Tryd.func170.trans (congrArg some (by kernel_rfl))
  f281 := Tryd.func171.trans (congrArg some (by kernel_rfl))
  f282 := Tryd.func172.trans (congrArg some (by kernel_rfl))
  f283 := Tryd.func195.trans (congrArg some (by kernel_rfl))
  f284 := Tryd.func196.trans (congrArg some (by kernel_rfl))
  f285 := Tryd.func197.trans (congrArg some (by kernel_rfl))
  f286 := Tryd.func198.trans (congrArg some (by kernel_rfl))
  f287 := Tryd.func161.trans (congrArg some (by kernel_rfl))
  f316 := Tryd.func201.trans (congrArg some (by kernel_rfl))
  f317 := Tryd.func217.trans (congrArg some (by kernel_rfl))
  f318 := Tryd.func219.trans (congrArg some (by kernel_rfl))
  f319 := Tryd.func220.trans (congrArg some (by kernel_rfl))
  f320 := Tryd.func221.trans (congrArg some (by kernel_rfl))
  f321 := Tryd.func192.trans (congrArg some (by kernel_rfl))
  f322 := Tryd.func193.trans (congrArg some (by kernel_rfl))
  f337 := Tryd.func226.trans (congrArg some (by kernel_rfl))
  f338 := Tryd.func227.trans (congrArg some (by kernel_rfl))
  t0 := Tryd.underlying0
  a0 := Tryd.isAgg0
  z0 := Tryd.sizeOf0
  v0 := Tryd.zeroValue0
  t2 := Tryd.underlying2
  a2 := Tryd.isAgg2
  z2 := Tryd.sizeOf2
  v2 := Tryd.zeroValue2
  t3 := Tryd.underlying3
  a3 := Tryd.isAgg3
  z3 := Tryd.sizeOf3
  v3 := Tryd.zeroValue3
  t4 := Tryd.underlying4
  a4 := Tryd.isAgg4
  z4 := Tryd.sizeOf4
  v4 := Tryd.zeroValue4
  t5 := Tryd.underlying5
  a5 := Tryd.isAgg5
  z5 := Tryd.sizeOf5
  v5 := Tryd.zeroValue5
  t9 := Tryd.underlying9
  a9 := Tryd.isAgg9
  z9 := Tryd.sizeOf9
  v9 := Tryd.zeroValue9
  t20 := Tryd.underlying20
  a20 := Tryd.isAgg20
  z20 := Tryd.sizeOf20
  v20 := Tryd.zeroValue20
  t21 := Tryd.underlying21
  a21 := Tryd.isAgg21
  z21 := Tryd.sizeOf21
  v21 := Tryd.zeroValue21
  t37 := Tryd.underlying81
  a37 := Tryd.isAgg81
  z37 := Tryd.sizeOf81
  v37 := Tryd.zeroValue81
  t46 := Tryd.underlying209
  a46 := Tryd.isAgg209
  z46 := Tryd.sizeOf209
  v46 := Tryd.zeroValue209
  t51 := Tryd.underlying22
  a51 := Tryd.isAgg22
  z51 := Tryd.sizeOf22
  v51 := Tryd.zeroValue22
  t53 := Tryd.underlying90
  a53 := Tryd.isAgg90
  z53 := Tryd.sizeOf90
  v53 := Tryd.zeroValue90
  t75 := Tryd.underlying120
  a75 := Tryd.isAgg120
  z75 := Tryd.sizeOf120
  v75 := Tryd.zeroValue120
  t76 := Tryd.underlying121
  a76 := Tryd.isAgg121
  z76 := Tryd.sizeOf121
  v76 := Tryd.zeroValue121
  t85 := Tryd.underlying241
  a85 := Tryd.isAgg241
  z85 := Tryd.sizeOf241
  v85 := Tryd.zeroValue241
  t127 := Tryd.underlying224
  a127 := Tryd.isAgg224
  z127 := Tryd.sizeOf224
  v127 := Tryd.zeroValue224
  t143 := Tryd.underlying286
  a143 := Tryd.isAgg286
  z143 := Tryd.sizeOf286
  v143 := Tryd.zeroValue286
  t145 := Tryd.underlying288
  a145 := Tryd.isAgg288
  z145 := Tryd.sizeOf288
  v145 := Tryd.zeroValue288
  t167 := Tryd.underlying240
  a167 := Tryd.isAgg240
  z167 := Tryd.sizeOf240
  v167 := Tryd.zeroValue240
  t168 := Tryd.underlying243
  a168 := Tryd.isAgg243
  z168 := Tryd.sizeOf243
  v168 := Tryd.zeroValue243
  t171 := Tryd.underlying260
  a171 := Tryd.isAgg260
  z171 := Tryd.sizeOf260
  v171 := Tryd.zeroValue260
  t173 := Tryd.underlying263
  a173 := Tryd.isAgg263
  z173 := Tryd.sizeOf263
  v173 := Tryd.zeroValue263
  t175 := Tryd.underlying190
  a175 := Tryd.isAgg190
  z175 := Tryd.sizeOf190
  v175 := Tryd.zeroValue190
  t210 := Tryd.underlying271
  a210 := Tryd.isAgg271
  z210 := Tryd.sizeOf271
  v210 := Tryd.zeroValue271
  t212 := Tryd.underlying283
  a212 := Tryd.isAgg283
  z212 := Tryd.sizeOf283
  v212 := Tryd.zeroValue283
  t213 := Tryd.underlying284
  a213 := Tryd.isAgg284
  z213 := Tryd.sizeOf284
  t232 := Tryd.underlying294
  a232 := Tryd.isAgg294
  z232 := Tryd.sizeOf294
  v232 := Tryd.zeroValue294
  t233 := Tryd.underlying295
  a233 := Tryd.isAgg295
  z233 := Tryd.sizeOf295
  v233 := Tryd.zeroValue295
  g15 := by kernel_rfl
  g16 := by kernel_rfl
  g17 := by kernel_rfl
  g18 := by kernel_rfl
  g19 := by kernel_rfl }
open Go.RowKit in
theorem Tryd.strconv_Atoi (s : ByteArray) (n : Int) (hl : s.size ≤ 18) (h : Lib.atoi s.data.toList = some n) (w : World) :
    Calls Tryd.prog 72 #[.string s] w fun e w' => e = .returned (.tuple #[.int .i64 n, .nilIface]) ∧ ∃ t, w' = Lib.bytesWorld w 5 t := Any.strconv_Atoi Tryd.lays172 s n hl h w
def Tryd.laysM171_ren : Go.Shelf.Ren := ⟨fun | 171 => 134 | 243 => 173 | 246 => 203 | 283 => 195 | 284 => 196 | 285 => 197 | 286 => 198 | 129 => 218 | 317 => 217 | 318 => 219 | 319 => 220 | 320 => 221 | 337 => 226 | 338 => 227 | n => n, fun | 3 => 3 | 9 => 9 | 2 => 2 | 4 => 4 | 171 => 260 | 0 => 0 | 53 => 90 | 37 => 81 | 5 => 5 | 173 => 263 | 212 => 283 | 51 => 22 | 20 => 20 | 213 => 284 | 46 => 209 | 232 => 294 | 233 => 295 | n => n, fun | 17 => 5 | 18 => 6 | 19 => 7 | n => n⟩
theorem Tryd.laysM171 : Go.Proofs.LaysM.n171 Tryd.prog Tryd.laysM171_ren := {
  mixed := by kernel_rfl
  f129 := Tryd.func218.trans (congrArg some (by kernel_rfl))
  f171 := Tryd.func134.trans (congrArg some (by kernel_rfl))
  f243 := Tryd.func173.trans (congrArg some (by kernel_rfl))
  f246 := Tryd.func203.trans (congrArg some (by kernel_rfl))
  f283 := Tryd.func195.trans (congrArg some (by kernel_rfl))
  f284 := Tryd.func196.trans (congrArg some (by kernel_rfl))
  f285 := Tryd.func197.trans (congrArg some (by kernel_rfl))
  f286 := Tryd.func198.trans (congrArg some (by kernel_rfl))
  f317 := Tryd.func217.trans (congrArg some (by kernel_rfl))
  f318 := Tryd.func219.trans (congrArg some (by kernel_rfl))
  f319 := Tryd.func220.trans (congrArg some (by kernel_rfl))
  f320 := Tryd.func221.trans (congrArg some (by kernel_rfl))
  f337 := Tryd.func226.trans (congrArg some (by kernel_rfl))
  f338 := Tryd.func227.trans (congrArg some (by kernel_rfl))
  t0 := Tryd.underlying0
  a0 := Tryd.isAgg0
  z0 := Tryd.sizeOf0
  v0 := Tryd.zeroValue0
  t2 := Tryd.underlying2
  a2 := Tryd.isAgg2
  z2 := Tryd.sizeOf2
  v2 := Tryd.zeroValue2
  t3 := Tryd.underlying3
  a3 := Tryd.isAgg3
  z3 := Tryd.sizeOf3
  v3 := Tryd.zeroValue3
  t4 := Tryd.underlying4
  a4 := Tryd.isAgg4
  z4 := Tryd.sizeOf4
  v4 := Tryd.zeroValue4
  t5 := Tryd.underlying5
  a5 := Tryd.isAgg5
  z5 := Tryd.sizeOf5
  v5 := Tryd.zeroValue5
  t9 := Tryd.underlying9
  a9 := Tryd.isAgg9
  z9 := Tryd.sizeOf9
  v9 := Tryd.zeroValue9
  t20 := Tryd.underlying20
  a20 := Tryd.isAgg20
  z20 := Tryd.sizeOf20
  v20 := Tryd.zeroValue20
  t37 := Tryd.underlying81
  a37 := Tryd.isAgg81
  z37 := Tryd.sizeOf81
  v37 := Tryd.zeroValue81
  t46 := Tryd.underlying209
  a46 := Tryd.isAgg209
  z46 := Tryd.sizeOf209
  v46 := Tryd.zeroValue209
  t51 := Tryd.underlying22
  a51 := Tryd.isAgg22
  z51 := Tryd.sizeOf22
  v51 := Tryd.zeroValue22
  t53 := Tryd.underlying90
  a53 := Tryd.isAgg90
  z53 := Tryd.sizeOf90
  v53 := Tryd.zeroValue90
  t171 := Tryd.underlying260
  a171 := Tryd.isAgg260
  z171 := Tryd.sizeOf260
  v171 := Tryd.zeroValue260
  t173 := Tryd.underlying263
  a173 := Tryd.isAgg263
  z173 := Tryd.sizeOf263
  v173 := Tryd.zeroValue263
  t212 := Tryd.underlying283
  a212 := Tryd.isAgg283
  z212 := Tryd.sizeOf283
  v212 := Tryd.zeroValue283
  t213 := Tryd.underlying284
  a213 := Tryd.isAgg284
  z213 := Tryd.sizeOf284
  t232 := Tryd.underlying294
  a232 := Tryd.isAgg294
  z232 := Tryd.sizeOf294
  v232 := Tryd.zeroValue294
  t233 := Tryd.underlying295
  a233 := Tryd.isAgg295
  z233 := Tryd.sizeOf295
  v233 := Tryd.zeroValue295
  g17 := by kernel_rfl
  g18 := by kernel_rfl
  g19 := by kernel_rfl
  i0 := by kernel_rfl
  i2 := by kernel_rfl
  i3 := by kernel_rfl
  i4 := by kernel_rfl
  i5 := by kernel_rfl
  i9 := by kernel_rfl
  i20 := by kernel_rfl
  i37 := by kernel_rfl
  i46 := by kernel_rfl
  i51 := by kernel_rfl
  i53 := by kernel_rfl
  i171 := by kernel_rfl
  i173 := by kernel_rfl
  i212 := by kernel_rfl
  i232 := by kernel_rfl
  i233 := by kernel_rfl
  m17 := by kernel_rfl
  m18 := by kernel_rfl
  m19 := by kernel_rfl }
open Go.RowKit Go.Sort Go.Lib in
theorem Tryd.strconv_Itoa (n : Int) (h0 : -9223372036854775808 ≤ n) (h1 : n ≤ 9223372036854775807) (w : World) (htab : Lib.TabIs Tryd.prog w "internal/strconv.uint64pow10" .u64 Lib.pow10Tab) :
    Calls Tryd.prog 134 #[.int .i64 n] w fun e w' => e = .returned (.string ⟨(Lib.itoa n).toArray⟩) ∧ ∃ k os, w' = grow (w.drewN k) os := Any.strconv_Itoa Tryd.laysM171 n h0 h1 w htab
def Tryd.lays171_ren : Go.Shelf.Ren := ⟨fun | 171 => 134 | 243 => 173 | 246 => 203 | 283 => 195 | 284 => 196 | 285 => 197 | 286 => 198 | 129 => 218 | 317 => 217 | 318 => 219 | 319 => 220 | 320 => 221 | 337 => 226 | 338 => 227 | n => n, fun | 3 => 3 | 9 => 9 | 2 => 2 | 4 => 4 | 171 => 260 | 0 => 0 | 53 => 90 | 37 => 81 | 5 => 5 | 173 => 263 | 212 => 283 | 51 => 22 | 20 => 20 | 213 => 284 | 46 => 209 | 232 => 294 | 233 => 295 | n => n, fun | 17 => 5 | 18 => 6 | 19 => 7 | n => n⟩
theorem Tryd.lays171 : Go.Proofs.Lays.n171 Tryd.prog Tryd.lays171_ren := {
  mixed := by kernel_rfl
  f129 := Tryd.func218.trans (congrArg some (by kernel_rfl))
  f171 := Tryd.func134.trans (congrArg some (by kernel_rfl))
  f243 := Tryd.func173.trans (congrArg some (by kernel_rfl))
  f246 := Tryd.func203.trans (congrArg some (by kernel_rfl))
  f283 := Tryd.func195.trans (congrArg some (by kernel_rfl))
  f284 := Tryd.func196.trans (congrArg some (by kernel_rfl))
  f285 := Tryd.func197.trans (congrArg some (by kernel_rfl))
  f286 := Tryd.func198.trans (congrArg some (by kernel_rfl))
  f317 := Tryd.func217.trans (congrArg some (by kernel_rfl))
  f318 := Tryd.func219.trans (congrArg some (by kernel_rfl))
  f319 := Tryd.func220.trans (congrArg some (by kernel_rfl))
  f320 := Tryd.func221.trans (congrArg some (by kernel_rfl))
  f337 := Tryd.func226.trans (congrArg some (by kernel_rfl))
  f338 := Tryd.func227.trans (congrArg some (by kernel_rfl))
  t0 := Tryd.underlying0
  a0 := Tryd.isAgg0
  z0 := Tryd.sizeOf0
  v0 := Tryd.zeroValue0
  t2 := Tryd.underlying2
  a2 := Tryd.isAgg2
  z2 := Tryd.sizeOf2
  v2 := Tryd.zeroValue2
  t3 := Tryd.underlying3
  a3 := Tryd.isAgg3
  z3 := Tryd.sizeOf3
  v3 := Tryd.zeroValue3
  t4 := Tryd.underlying4
  a4 := Tryd.isAgg4
  z4 := Tryd.sizeOf4
  v4 := Tryd.zeroValue4
  t5 := Tryd.underlying5
  a5 := Tryd.isAgg5
  z5 := Tryd.sizeOf5
  v5 := Tryd.zeroValue5
  t9 := Tryd.underlying9
  a9 := Tryd.isAgg9
  z9 := Tryd.sizeOf9
  v9 := Tryd.zeroValue9
  t20 := Tryd.underlying20
  a20 := Tryd.isAgg20
  z20 := Tryd.sizeOf20
  v20 := Tryd.zeroValue20
  t37 := Tryd.underlying81
  a37 := Tryd.isAgg81
  z37 := Tryd.sizeOf81
  v37 := Tryd.zeroValue81
  t46 := Tryd.underlying209
  a46 := Tryd.isAgg209
  z46 := Tryd.sizeOf209
  v46 := Tryd.zeroValue209
  t51 := Tryd.underlying22
  a51 := Tryd.isAgg22
  z51 := Tryd.sizeOf22
  v51 := Tryd.zeroValue22
  t53 := Tryd.underlying90
  a53 := Tryd.isAgg90
  z53 := Tryd.sizeOf90
  v53 := Tryd.zeroValue90
  t171 := Tryd.underlying260
  a171 := Tryd.isAgg260
  z171 := Tryd.sizeOf260
  v171 := Tryd.zeroValue260
  t173 := Tryd.underlying263
  a173 := Tryd.isAgg263
  z173 := Tryd.sizeOf263
  v173 := Tryd.zeroValue263
  t212 := Tryd.underlying283
  a212 := Tryd.isAgg283
  z212 := Tryd.sizeOf283
  v212 := Tryd.zeroValue283
  t213 := Tryd.underlying284
  a213 := Tryd.isAgg284
  z213 := Tryd.sizeOf284
  t232 := Tryd.underlying294
  a232 := Tryd.isAgg294
  z232 := Tryd.sizeOf294
  v232 := Tryd.zeroValue294
  t233 := Tryd.underlying295
  a233 := Tryd.isAgg295
  z233 := Tryd.sizeOf295
  v233 := Tryd.zeroValue295
  g17 := by kernel_rfl
  g18 := by kernel_rfl
  g19 := by kernel_rfl }
open Go.RowKit Go.Sort Go.Lib in
theorem Tryd.strconv_Itoa_small (i : Nat) (hi : i < 100) (w : World) :
    Calls Tryd.prog 134 #[.int .i64 i] w fun e w' => e = .returned (.string ⟨(Lib.decDigits i).toArray⟩) ∧ w' = w := Any.strconv_Itoa_small Tryd.lays171 i hi w
def Tryd.lays143_ren : Go.Shelf.Ren := ⟨fun | 143 => 76 | 219 => 136 | 217 => 174 | 225 => 175 | 224 => 176 | 267 => 177 | 266 => 204 | 314 => 205 | n => n, fun | 9 => 9 | 3 => 3 | 4 => 4 | 5 => 5 | 46 => 209 | 146 => 265 | 51 => 22 | n => n, fun | 1 => 2 | n => n⟩
theorem Tryd.lays143 : Go.Proofs.Lays.n143 Tryd.prog Tryd.lays143_ren := {
  mixed := by kernel_rfl
  f143 := Tryd.func76.trans (congrArg some (by kernel_rfl))
  f217 := Tryd.func174.trans (congrArg some (by kernel_rfl))
  f219 := Tryd.func136.trans (congrArg some (by kernel_rfl))
  f224 := Tryd.func176.trans (congrArg some (by kernel_rfl))
  f225 := Tryd.func175.trans (congrArg some (by kernel_rfl))
  f266 := Tryd.func204.trans (congrArg some (by kernel_rfl))
  f267 := Tryd.func177.trans (congrArg some (by kernel_rfl))
  f314 := Tryd.func205.trans (congrArg some (by kernel_rfl))
  t3 := Tryd.underlying3
  a3 := Tryd.isAgg3
  z3 := Tryd.sizeOf3
  v3 := Tryd.zeroValue3
  t4 := Tryd.underlying4
  a4 := Tryd.isAgg4
  z4 := Tryd.sizeOf4
  v4 := Tryd.zeroValue4
  t5 := Tryd.underlying5
  a5 := Tryd.isAgg5
  z5 := Tryd.sizeOf5
  v5 := Tryd.zeroValue5
  t9 := Tryd.underlying9
  a9 := Tryd.isAgg9
  z9 := Tryd.sizeOf9
  v9 := Tryd.zeroValue9
  t46 := Tryd.underlying209
  a46 := Tryd.isAgg209
  z46 := Tryd.sizeOf209
  v46 := Tryd.zeroValue209
  t51 := Tryd.underlying22
  a51 := Tryd.isAgg22
  z51 := Tryd.sizeOf22
  v51 := Tryd.zeroValue22
  t146 := Tryd.underlying265
  a146 := Tryd.isAgg265
  z146 := Tryd.sizeOf265
  v146 := Tryd.zeroValue265
  g1 := by kernel_rfl }
open Go.RowKit Go.Lib in
theorem Tryd.strings_Index_one (s : ByteArray) (c : UInt8) (w : World) :
    Calls Tryd.prog 76 #[.string s, .string ⟨#[c]⟩] w fun e w' => e = .returned (.int .i64 (Lib.indexByte s.data.toList c)) ∧ w' = w := Any.strings_Index_one Tryd.lays143 s c w
open Go.RowKit Go.Lib in
theorem Tryd.strings_Index (s sub : ByteArray) (m : Int) (w : World) (hs : s.size < 4294967281) (hm : w.cell? ⟨2, 0, none⟩ = some (.int .i64 m)) :
    Calls Tryd.prog 76 #[.string s, .string sub] w fun e w' => e = .returned (.int .i64 (Lib.index s.data.toList sub.data.toList)) ∧ w' = w := Any.strings_Index Tryd.lays143 s sub m w hs hm
def Tryd.lays99_ren : Go.Shelf.Ren := ⟨fun | 99 => 82 | 206 => 140 | n => n, fun | 9 => 9 | 4 => 4 | 3 => 3 | n => n, fun | n => n⟩
theorem Tryd.lays99 : Go.Proofs.Lays.n99 Tryd.prog Tryd.lays99_ren := {
  mixed := by kernel_rfl
  f99 := Tryd.func82.trans (congrArg some (by kernel_rfl))
  f206 := Tryd.func140.trans (congrArg some (by kernel_rfl))
  t3 := Tryd.underlying3
  a3 := Tryd.isAgg3
  z3 := Tryd.sizeOf3
  v3 := Tryd.zeroValue3
  t4 := Tryd.underlying4
  a4 := Tryd.isAgg4
  z4 := Tryd.sizeOf4
  v4 := Tryd.zeroValue4
  t9 := Tryd.underlying9
  a9 := Tryd.isAgg9
  z9 := Tryd.sizeOf9
  v9 := Tryd.zeroValue9 }
open Go.RowKit Go.Lib in
theorem Tryd.strings_HasPrefix (s p : ByteArray) (w : World) :
    Calls Tryd.prog 82 #[.string s, .string p] w fun e w' => e = .returned (.bool (Lib.hasPrefix s.data.toList p.data.toList)) ∧ w' = w := Any.strings_HasPrefix Tryd.lays99 s p w
def Tryd.lays146_ren : Go.Shelf.Ren := ⟨fun | 146 => 160 | 221 => 191 | 268 => 215 | 138 => 216 | 143 => 76 | 195 => 223 | 197 => 224 | 218 => 225 | 219 => 136 | 260 => 229 | 217 => 174 | 225 => 175 | 224 => 176 | 267 => 177 | 266 => 204 | 314 => 205 | n => n, fun | 9 => 9 | 31 => 152 | 3 => 3 | 4 => 4 | 0 => 0 | 105 => 290 | 21 => 21 | 5 => 5 | 46 => 209 | 119 => 296 | 139 => 299 | 138 => 298 | 146 => 265 | 51 => 22 | n => n, fun | 1 => 2 | 3 => 8 | 4 => 9 | n => n⟩
theorem Tryd.lays146 : Go.Proofs.Lays.n146 Tryd.prog Tryd.lays146_ren := {
  mixed := by kernel_rfl
  f138 := Tryd.func216.trans (congrArg some (by kernel_rfl))
  f143 := Tryd.func76.trans (congrArg some (by kernel_rfl))
  f146 := Tryd.func160.trans (congrArg some (by kernel_rfl))
  f195 := Tryd.func223.trans (congrArg some (by kernel_rfl))
  f197 := Tryd.func224.trans (congrArg some (by kernel_rfl))
  f217 := Tryd.func174.trans (congrArg some (by kernel_rfl))
  f218 := Tryd.func225.trans (congrArg some (by kernel_rfl))
  f219 := Tryd.func136.trans (congrArg some (by kernel_rfl))
  f221 := Tryd.func191.trans (congrArg some (by kernel_rfl))
  f224 := Tryd.func176.trans (congrArg some (by kernel_rfl))
  f225 := Tryd.func175.trans (congrArg some (by kernel_rfl))
  f260 := Tryd.func229.trans (congrArg some (by kernel_rfl))
  f266 := Tryd.func204.trans (congrArg some (by kernel_rfl))
  f267 := Tryd.func177.trans (congrArg some (by kernel_rfl))
  f268 := Tryd.func215.trans (congrArg some (by kernel_rfl))
  f314 := Tryd.func205.trans (congrArg some (by kernel_rfl))
  t0 := Tryd.underlying0
  a0 := Tryd.isAgg0
  z0 := Tryd.sizeOf0
  v0 := Tryd.zeroValue0
  t3 := Tryd.underlying3
  a3 := Tryd.isAgg3
  z3 := Tryd.sizeOf3
  v3 := Tryd.zeroValue3
  t4 := Tryd.underlying4
  a4 := Tryd.isAgg4
  z4 := Tryd.sizeOf4
  v4 := Tryd.zeroValue4
  t5 := Tryd.underlying5
  a5 := Tryd.isAgg5
  z5 := Tryd.sizeOf5
  v5 := Tryd.zeroValue5
  t9 := Tryd.underlying9
  a9 := Tryd.isAgg9
  z9 := Tryd.sizeOf9
  v9 := Tryd.zeroValue9
  t21 := Tryd.underlying21
  a21 := Tryd.isAgg21
  z21 := Tryd.sizeOf21
  v21 := Tryd.zeroValue21
  t31 := Tryd.underlying152
  a31 := Tryd.isAgg152
  z31 := Tryd.sizeOf152
  v31 := Tryd.zeroValue152
  t46 := Tryd.underlying209
  a46 := Tryd.isAgg209
  z46 := Tryd.sizeOf209
  v46 := Tryd.zeroValue209
  t51 := Tryd.underlying22
  a51 := Tryd.isAgg22
  z51 := Tryd.sizeOf22
  v51 := Tryd.zeroValue22
  t105 := Tryd.underlying290
  a105 := Tryd.isAgg290
  z105 := Tryd.sizeOf290
  v105 := Tryd.zeroValue290
  t119 := Tryd.underlying296
  a119 := Tryd.isAgg296
  z119 := Tryd.sizeOf296
  t138 := Tryd.underlying298
  a138 := Tryd.isAgg298
  z138 := Tryd.sizeOf298
  v138 := Tryd.zeroValue298
  t139 := Tryd.underlying299
  a139 := Tryd.isAgg299
  z139 := Tryd.sizeOf299
  v139 := Tryd.zeroValue299
  t146 := Tryd.underlying265
  a146 := Tryd.isAgg265
  z146 := Tryd.sizeOf265
  v146 := Tryd.zeroValue265
  g1 := by kernel_rfl
  g3 := by kernel_rfl
  g4 := by kernel_rfl }
open Go.RowKit Go.Lib in
theorem Tryd.strings_Split (s sep : ByteArray) (m : Int) (w : World) (hs : s.size < 4294967281) (hm : w.cell? ⟨2, 0, none⟩ = some (.int .i64 m)) (h1 : 1 ≤ sep.size) :
    Calls Tryd.prog 160 #[.string s, .string sep] w fun e w' =>
      e = .returned (.slice (some ⟨w.heap.size, 0, none⟩) (Lib.countB s sep + 1) (Lib.countB s sep + 1)) ∧ w' = w.alloc (.cells ((Lib.splitB sep 0 (Lib.countB s sep) s).map Value.string).toArray 9) := Any.strings_Split Tryd.lays146 (by kernel_rfl) s sep m w hs hm h1
end Go.Proofs
