/-
  Layer 1 in plain words: the number whose digits stand at a place.
-/
import Derived.Test.YthconjhldjaldaaGreatDoorM1
import Derived.Lib.Atoi
import Derived.Lib.Strings
import Derived.Lib.SplitLaws
import Derived.Lib.IndexBytes
import Derived.Lib.IndexLaws
import Derived.Test.YthconjhldjaldaaGreatDoorRows
import Derived.Shelf.Strings.Builder1
import Derived.Shelf.Strings.Builder2
import Derived.Shelf.Strings.OnBuilder
import Derived.Shelf.Small.Bits
import Derived.Shelf.Small.Wraps
import Derived.Shelf.Strconv.Itoa0
import Derived.Shelf.Strconv.Itoa1
import Derived.Shelf.LaysM
import Derived.Shelf.Strconv.Itoa2
import Derived.Shelf.Strconv.Itoa3
import Derived.Shelf.Sort.Plain
import Derived.Shelf.Slices.Turned
import Derived.Shelf.Slices.Equal
import Derived.Ground.Names2Prog
import Derived.Shelf.Slices.Clone
import Derived.Shelf.Slices.CompactI
import Derived.Shelf.Slices.SearchI
import Derived.Shelf.Slices.Cells
import Derived.Shelf.Slices.In.SortNone
import Derived.Shelf.Slices.Empties2
import Derived.Ground.SlgnProg
import Derived.Shelf.SlicesE.Delete
import Derived.Shelf.SlicesE.Clone
import Derived.Ground.SlgfProg
import Derived.Shelf.SlicesE.IndexFunc
import Derived.Test.YthconjhldjaldaaGreatDoorProg
import Derived.Deep.QuietTactic
import Derived.BigQuiet
import Derived.Lib.ConvBytes
import Derived.WalkSmall
import Derived.Deep.RegionWith
import Derived.Laws.Bits64b
import Derived.Laws.BitsLemmas
import Derived.Laws.EntriesVeiled
set_option linter.unusedVariables false
set_option linter.unusedSimpArgs false
namespace Go.Proofs.YthconjhldjaldaaGreatDoor
open Go.RowKit

/-- whether the byte at a place is a digit -/
def isDig (s : ByteArray) (i : Nat) : Prop := 48 ≤ bt s i ∧ bt s i ≤ 57

/-- how many digits stand from a place on -/
def runL (s : ByteArray) : Nat → Nat → Nat
  | 0, _ => 0
  | f + 1, i => if 48 ≤ bt s i ∧ bt s i ≤ 57 then runL s f (i + 1) + 1 else 0

def endOf (s : ByteArray) (i : Nat) : Nat := i + runL s (s.size - i) i

theorem runL_le (s : ByteArray) (f : Nat) : ∀ i, runL s f i ≤ f := by
  induction f with
  | zero => intro i; simp [runL]
  | succ f ih => intro i; simp only [runL]; split; (have := ih (i + 1); omega); omega

theorem runL_dig (s : ByteArray) (f : Nat) : ∀ i j, j < runL s f i → isDig s (i + j) := by
  induction f with
  | zero => intro i j h; simp [runL] at h
  | succ f ih =>
    intro i j h
    simp only [runL] at h
    split at h
    · rename_i hd
      cases j with
      | zero => exact hd
      | succ j => have := ih (i + 1) j (by omega); rw [show i + (j + 1) = i + 1 + j from by omega]; exact this
    · omega

theorem runL_stop (s : ByteArray) (f : Nat) : ∀ i, runL s f i < f → ¬ isDig s (i + runL s f i) := by
  induction f with
  | zero => intro i h; omega
  | succ f ih =>
    intro i h
    simp only [runL] at h ⊢
    split
    · rename_i hd
      rw [if_pos hd] at h
      have := ih (i + 1) (by omega)
      rw [show i + (runL s f (i + 1) + 1) = i + 1 + runL s f (i + 1) from by omega]
      exact this
    · rename_i hd; rw [Nat.add_zero]; exact hd

/-- where digits stand up to j and none at j, j is the end -/
theorem endOf_is {s : ByteArray} {i j : Nat} (hij : i ≤ j) (hj : j ≤ s.size) (h : ∀ k, i ≤ k → k < j → isDig s k) (hs : j = s.size ∨ ¬ isDig s j) : endOf s i = j := by
  have h1 := runL_le s (s.size - i) i
  unfold endOf
  rcases Nat.lt_trichotomy (i + runL s (s.size - i) i) j with h2 | h2 | h2
  · exact absurd (h _ (by omega) h2) (runL_stop s (s.size - i) i (by omega))
  · exact h2
  · have := runL_dig s (s.size - i) i (j - i) (by omega)
    rw [show i + (j - i) = j from by omega] at this
    rcases hs with e | e
    · omega
    · exact absurd this e

/-- the number of k digits -/
def numb (s : ByteArray) (i : Nat) : Nat → Nat
  | 0 => 0
  | k + 1 => 10 * numb s i k + (bt s (i + k) - 48)

def natN (s : ByteArray) (i : Nat) : Nat × Nat × Nat :=
  if i = s.size then (0, 0, 3)
  else if endOf s i = i ∨ bt s i = 48 ∧ i + 1 < endOf s i then (0, 0, 2)
  else if 9 < endOf s i - i then (0, 0, 5)
  else (numb s i (endOf s i - i), endOf s i, 0)

theorem byte_at {s : ByteArray} {i : Nat} (h : i < s.size) : ∃ b : UInt8, s.data.toList[i]? = some b ∧ b.toNat = bt s i := by
  refine ⟨s[i]'h, ?_, bt_eq h⟩
  have h2 : i < s.data.size := h
  rw [Array.getElem?_toList, Array.getElem?_eq_getElem h2]
  rfl

theorem word_dec {s : ByteArray} {i : Nat} (k : Nat) (hk : i + k ≤ s.size) (h : ∀ j, j < k → isDig s (i + j)) : Lib.decFrom 0 ((s.data.toList.drop i).take k) = some (numb s i k) := by
  induction k with
  | zero => simp [Lib.decFrom, numb]
  | succ k ih =>
    have h1 := ih (by omega) (fun j hj => h j (by omega))
    obtain ⟨b, hb, hb2⟩ := byte_at (s := s) (i := i + k) (by omega)
    have hd := h k (by omega)
    unfold isDig at hd
    have hv : Lib.digitVal b = some (bt s (i + k) - 48) := by
      unfold Lib.digitVal
      rw [if_pos ⟨by omega, by omega⟩, hb2]
    have := Lib.decFrom_take (s.data.toList.drop i) k 0 (numb s i k) b _ h1 (by rw [List.getElem?_drop]; exact hb) hv
    rw [this]
    simp only [numb]
    congr 1
    omega

end Go.Proofs.YthconjhldjaldaaGreatDoor

/-
  Lines and words in plain words.
-/
namespace Go.Proofs.YthconjhldjaldaaGreatDoor
open Go.RowKit

/-- what stands between blanks -/
def wordsF : List UInt8 → List (List UInt8)
  | [] => [[]]
  | b :: l => if b = 32 then [] :: wordsF l else match wordsF l with
    | [] => [[b]]
    | x :: r => (b :: x) :: r

theorem words_app : ∀ {a : List UInt8} (r : List UInt8), (∀ b ∈ a, b ≠ 32) → wordsF (a ++ 32 :: r) = a :: wordsF r
  | [], r, _ => by simp [wordsF]
  | b :: a, r, h => by
    have hb : b ≠ 32 := h b (by simp)
    rw [List.cons_append, wordsF, if_neg hb, words_app r (fun x hx => h x (by simp [hx]))]

theorem words_none : ∀ {a : List UInt8}, (∀ b ∈ a, b ≠ 32) → wordsF a = [a]
  | [], _ => rfl
  | b :: a, h => by
    rw [wordsF, if_neg (h b (by simp)), words_none (fun x hx => h x (by simp [hx]))]

/-- words with blanks between -/
def jn : List (List UInt8) → List UInt8
  | [] => []
  | [a] => a
  | a :: b :: r => a ++ 32 :: jn (b :: r)

theorem jn_cons {a : List UInt8} {r : List (List UInt8)} (h : r ≠ []) : jn (a :: r) = a ++ 32 :: jn r := by
  cases r with
  | nil => exact absurd rfl h
  | cons b r => rfl

end Go.Proofs.YthconjhldjaldaaGreatDoor

/-
  octet.Get and its reference: what they compute.
-/
namespace Go.Proofs.YthconjhldjaldaaGreatDoor
open Go.RowKit

end Go.Proofs.YthconjhldjaldaaGreatDoor

/-
  The library's contracts at this dump, as the kit's own tool lays them.
-/
namespace Go.Proofs
open Go.Shelf
def Tryz.lays156_ren : Go.Shelf.Ren := ⟨fun | 156 => 75 | 165 => 87 | 166 => 88 | 169 => 89 | 240 => 106 | 241 => 107 | 276 => 115 | 277 => 116 | n => n, fun | 31 => 96 | 9 => 9 | 3 => 3 | 4 => 4 | 0 => 0 | 20 => 20 | 72 => 110 | 76 => 114 | 70 => 107 | 37 => 108 | 75 => 113 | 127 => 129 | 164 => 136 | 5 => 5 | 80 => 116 | n => n, fun | n => n⟩
theorem Tryz.lays156 : Go.Proofs.Lays.n156 Tryz.prog Tryz.lays156_ren := {
  mixed := by kernel_rfl
  f156 := Tryz.func75.trans (congrArg some (by kernel_rfl))
  f165 := Tryz.func87.trans (congrArg some (by kernel_rfl))
  f166 := Tryz.func88.trans (congrArg some (by kernel_rfl))
  f169 := Tryz.func89.trans (congrArg some (by kernel_rfl))
  f240 := Tryz.func106.trans (congrArg some (by kernel_rfl))
  f241 := Tryz.func107.trans (congrArg some (by kernel_rfl))
  f276 := Tryz.func115.trans (congrArg some (by kernel_rfl))
  f277 := Tryz.func116.trans (congrArg some (by kernel_rfl))
  t0 := Tryz.underlying0
  a0 := Tryz.isAgg0
  z0 := Tryz.sizeOf0
  v0 := Tryz.zeroValue0
  t3 := Tryz.underlying3
  a3 := Tryz.isAgg3
  z3 := Tryz.sizeOf3
  v3 := Tryz.zeroValue3
  t4 := Tryz.underlying4
  a4 := Tryz.isAgg4
  z4 := Tryz.sizeOf4
  v4 := Tryz.zeroValue4
  t9 := Tryz.underlying9
  a9 := Tryz.isAgg9
  z9 := Tryz.sizeOf9
  v9 := Tryz.zeroValue9
  t20 := Tryz.underlying20
  a20 := Tryz.isAgg20
  z20 := Tryz.sizeOf20
  v20 := Tryz.zeroValue20
  t31 := Tryz.underlying96
  a31 := Tryz.isAgg96
  z31 := Tryz.sizeOf96
  v31 := Tryz.zeroValue96
  t37 := Tryz.underlying108
  a37 := Tryz.isAgg108
  z37 := Tryz.sizeOf108
  v37 := Tryz.zeroValue108
  t70 := Tryz.underlying107
  a70 := Tryz.isAgg107
  z70 := Tryz.sizeOf107
  v70 := Tryz.zeroValue107
  t72 := Tryz.underlying110
  a72 := Tryz.isAgg110
  z72 := Tryz.sizeOf110
  v72 := Tryz.zeroValue110
  t75 := Tryz.underlying113
  a75 := Tryz.isAgg113
  z75 := Tryz.sizeOf113
  v75 := Tryz.zeroValue113
  t76 := Tryz.underlying114
  a76 := Tryz.isAgg114
  z76 := Tryz.sizeOf114
  v76 := Tryz.zeroValue114
  t127 := Tryz.underlying129
  a127 := Tryz.isAgg129
  z127 := Tryz.sizeOf129
  v127 := Tryz.zeroValue129
  t164 := Tryz.underlying136
  a164 := Tryz.isAgg136
  z164 := Tryz.sizeOf136
  v164 := Tryz.zeroValue136 }
theorem Tryz.Builder_Extra_156 : Builder.Extra Tryz.prog Tryz.lays156_ren := {
  sizeBuilder := by kernel_rfl
  liesBuilder := by kernel_rfl
  t5 := Tryz.underlying5
  a5 := Tryz.isAgg5
  z5 := Tryz.sizeOf5
  v5 := Tryz.zeroValue5
  infoByte := by kernel_rfl
  cellsByte := by kernel_rfl
  sizeByte := by kernel_rfl
  neB5 := by decide }
open Go.RowKit in
theorem Tryz.strings_Join (bk o c : Nat) (xs : List ByteArray) (sep : ByteArray) (w : World) (hcells : ∀ (j : Nat) x, xs[j]? = some x → w.cell? ⟨bk, o + j, none⟩ = some (.string x)) (hbk : bk < w.heap.size) (hN : xs.length ≤ 140737488355328) (hcap : xs.length ≤ c) (hlen : (Lib.join (xs.map (·.data.toList)) sep.data.toList).length ≤ 140737488355328) :
    Calls Tryz.prog 75 #[.slice (some ⟨bk, o, none⟩) xs.length c, .string sep] w fun e w' => e = .returned (.string ⟨(Lib.join (xs.map (·.data.toList)) sep.data.toList).toArray⟩) ∧ Below w.heap.size w w' := Any.strings_Join Tryz.lays156 Tryz.Builder_Extra_156 bk o c xs sep w hcells hbk hN hcap hlen
def Tryz.laysM171_ren : Go.Shelf.Ren := ⟨fun | 171 => 105 | 243 => 114 | 246 => 118 | 283 => 119 | 284 => 120 | 285 => 121 | 286 => 122 | 129 => 104 | 317 => 123 | 318 => 124 | 319 => 125 | 320 => 126 | 337 => 127 | 338 => 128 | n => n, fun | 3 => 3 | 9 => 9 | 2 => 2 | 4 => 4 | 171 => 142 | 0 => 0 | 53 => 128 | 37 => 108 | 5 => 5 | 173 => 144 | 212 => 147 | 51 => 126 | 20 => 20 | 213 => 148 | 46 => 106 | 232 => 149 | 233 => 150 | n => n, fun | 17 => 1 | 18 => 2 | 19 => 3 | n => n⟩
theorem Tryz.laysM171 : Go.Proofs.LaysM.n171 Tryz.prog Tryz.laysM171_ren := {
  mixed := by kernel_rfl
  f129 := Tryz.func104.trans (congrArg some (by kernel_rfl))
  f171 := Tryz.func105.trans (congrArg some (by kernel_rfl))
  f243 := Tryz.func114.trans (congrArg some (by kernel_rfl))
  f246 := Tryz.func118.trans (congrArg some (by kernel_rfl))
  f283 := Tryz.func119.trans (congrArg some (by kernel_rfl))
  f284 := Tryz.func120.trans (congrArg some (by kernel_rfl))
  f285 := Tryz.func121.trans (congrArg some (by kernel_rfl))
  f286 := Tryz.func122.trans (congrArg some (by kernel_rfl))
  f317 := Tryz.func123.trans (congrArg some (by kernel_rfl))
  f318 := Tryz.func124.trans (congrArg some (by kernel_rfl))
  f319 := Tryz.func125.trans (congrArg some (by kernel_rfl))
  f320 := Tryz.func126.trans (congrArg some (by kernel_rfl))
  f337 := Tryz.func127.trans (congrArg some (by kernel_rfl))
  f338 := Tryz.func128.trans (congrArg some (by kernel_rfl))
  t0 := Tryz.underlying0
  a0 := Tryz.isAgg0
  z0 := Tryz.sizeOf0
  v0 := Tryz.zeroValue0
  t2 := Tryz.underlying2
  a2 := Tryz.isAgg2
  z2 := Tryz.sizeOf2
  v2 := Tryz.zeroValue2
  t3 := Tryz.underlying3
  a3 := Tryz.isAgg3
  z3 := Tryz.sizeOf3
  v3 := Tryz.zeroValue3
  t4 := Tryz.underlying4
  a4 := Tryz.isAgg4
  z4 := Tryz.sizeOf4
  v4 := Tryz.zeroValue4
  t5 := Tryz.underlying5
  a5 := Tryz.isAgg5
  z5 := Tryz.sizeOf5
  v5 := Tryz.zeroValue5
  t9 := Tryz.underlying9
  a9 := Tryz.isAgg9
  z9 := Tryz.sizeOf9
  v9 := Tryz.zeroValue9
  t20 := Tryz.underlying20
  a20 := Tryz.isAgg20
  z20 := Tryz.sizeOf20
  v20 := Tryz.zeroValue20
  t37 := Tryz.underlying108
  a37 := Tryz.isAgg108
  z37 := Tryz.sizeOf108
  v37 := Tryz.zeroValue108
  t46 := Tryz.underlying106
  a46 := Tryz.isAgg106
  z46 := Tryz.sizeOf106
  v46 := Tryz.zeroValue106
  t51 := Tryz.underlying126
  a51 := Tryz.isAgg126
  z51 := Tryz.sizeOf126
  v51 := Tryz.zeroValue126
  t53 := Tryz.underlying128
  a53 := Tryz.isAgg128
  z53 := Tryz.sizeOf128
  v53 := Tryz.zeroValue128
  t171 := Tryz.underlying142
  a171 := Tryz.isAgg142
  z171 := Tryz.sizeOf142
  v171 := Tryz.zeroValue142
  t173 := Tryz.underlying144
  a173 := Tryz.isAgg144
  z173 := Tryz.sizeOf144
  v173 := Tryz.zeroValue144
  t212 := Tryz.underlying147
  a212 := Tryz.isAgg147
  z212 := Tryz.sizeOf147
  v212 := Tryz.zeroValue147
  t213 := Tryz.underlying148
  a213 := Tryz.isAgg148
  z213 := Tryz.sizeOf148
  t232 := Tryz.underlying149
  a232 := Tryz.isAgg149
  z232 := Tryz.sizeOf149
  v232 := Tryz.zeroValue149
  t233 := Tryz.underlying150
  a233 := Tryz.isAgg150
  z233 := Tryz.sizeOf150
  v233 := Tryz.zeroValue150
  g17 := by kernel_rfl
  g18 := by kernel_rfl
  g19 := by kernel_rfl
  i0 := by kernel_rfl
  i2 := by kernel_rfl
  i3 := by kernel_rfl
  i4 := by kernel_rfl
  i5 := by kernel_rfl
  i9 := by kernel_rfl
  i20 := by kernel_rfl
  i37 := by kernel_rfl
  i46 := by kernel_rfl
  i51 := by kernel_rfl
  i53 := by kernel_rfl
  i171 := by kernel_rfl
  i173 := by kernel_rfl
  i212 := by kernel_rfl
  i232 := by kernel_rfl
  i233 := by kernel_rfl
  m17 := by kernel_rfl
  m18 := by kernel_rfl
  m19 := by kernel_rfl }
open Go.RowKit Go.Sort Go.Lib in
theorem Tryz.strconv_Itoa (n : Int) (h0 : -9223372036854775808 ≤ n) (h1 : n ≤ 9223372036854775807) (w : World) (htab : Lib.TabIs Tryz.prog w "internal/strconv.uint64pow10" .u64 Lib.pow10Tab) :
    Calls Tryz.prog 105 #[.int .i64 n] w fun e w' => e = .returned (.string ⟨(Lib.itoa n).toArray⟩) ∧ ∃ k os, w' = grow (w.drewN k) os := Any.strconv_Itoa Tryz.laysM171 n h0 h1 w htab
def Tryz.lays189_ren : Go.Shelf.Ren := ⟨fun | 189 => 69 | 125 => 84 | 257 => 83 | 128 => 103 | 129 => 104 | 294 => 94 | 295 => 95 | 296 => 96 | 297 => 97 | 298 => 98 | 299 => 99 | 216 => 100 | 300 => 101 | 301 => 102 | 328 => 108 | 329 => 109 | 330 => 110 | 331 => 111 | 332 => 112 | 215 => 113 | 343 => 117 | n => n, fun | 28 => 23 | 3 => 3 | 46 => 106 | 0 => 0 | 51 => 126 | 53 => 128 | 4 => 4 | 183 => 119 | 182 => 118 | 131 => 70 | 5 => 5 | 9 => 9 | 218 => 130 | 222 => 134 | 228 => 139 | 229 => 67 | n => n, fun | n => n⟩
theorem Tryz.lays189 : Go.Proofs.Lays.n189 Tryz.prog Tryz.lays189_ren := {
  mixed := by kernel_rfl
  f125 := Tryz.func84.trans (congrArg some (by kernel_rfl))
  f128 := Tryz.func103.trans (congrArg some (by kernel_rfl))
  f129 := Tryz.func104.trans (congrArg some (by kernel_rfl))
  f189 := Tryz.func69.trans (congrArg some (by kernel_rfl))
  f215 := Tryz.func113.trans (congrArg some (by kernel_rfl))
  f216 := Tryz.func100.trans (congrArg some (by kernel_rfl))
  f257 := Tryz.func83.trans (congrArg some (by kernel_rfl))
  f294 := Tryz.func94.trans (congrArg some (by kernel_rfl))
  f295 := Tryz.func95.trans (congrArg some (by kernel_rfl))
  f296 := Tryz.func96.trans (congrArg some (by kernel_rfl))
  f297 := Tryz.func97.trans (congrArg some (by kernel_rfl))
  f298 := Tryz.func98.trans (congrArg some (by kernel_rfl))
  f299 := Tryz.func99.trans (congrArg some (by kernel_rfl))
  f300 := Tryz.func101.trans (congrArg some (by kernel_rfl))
  f301 := Tryz.func102.trans (congrArg some (by kernel_rfl))
  f328 := Tryz.func108.trans (congrArg some (by kernel_rfl))
  f329 := Tryz.func109.trans (congrArg some (by kernel_rfl))
  f330 := Tryz.func110.trans (congrArg some (by kernel_rfl))
  f331 := Tryz.func111.trans (congrArg some (by kernel_rfl))
  f332 := Tryz.func112.trans (congrArg some (by kernel_rfl))
  f343 := Tryz.func117.trans (congrArg some (by kernel_rfl))
  t0 := Tryz.underlying0
  a0 := Tryz.isAgg0
  z0 := Tryz.sizeOf0
  v0 := Tryz.zeroValue0
  t3 := Tryz.underlying3
  a3 := Tryz.isAgg3
  z3 := Tryz.sizeOf3
  v3 := Tryz.zeroValue3
  t4 := Tryz.underlying4
  a4 := Tryz.isAgg4
  z4 := Tryz.sizeOf4
  v4 := Tryz.zeroValue4
  t5 := Tryz.underlying5
  a5 := Tryz.isAgg5
  z5 := Tryz.sizeOf5
  v5 := Tryz.zeroValue5
  t9 := Tryz.underlying9
  a9 := Tryz.isAgg9
  z9 := Tryz.sizeOf9
  v9 := Tryz.zeroValue9
  t28 := Tryz.underlying23
  a28 := Tryz.isAgg23
  z28 := Tryz.sizeOf23
  v28 := Tryz.zeroValue23
  t46 := Tryz.underlying106
  a46 := Tryz.isAgg106
  z46 := Tryz.sizeOf106
  v46 := Tryz.zeroValue106
  t51 := Tryz.underlying126
  a51 := Tryz.isAgg126
  z51 := Tryz.sizeOf126
  v51 := Tryz.zeroValue126
  t53 := Tryz.underlying128
  a53 := Tryz.isAgg128
  z53 := Tryz.sizeOf128
  v53 := Tryz.zeroValue128
  t131 := Tryz.underlying70
  a131 := Tryz.isAgg70
  z131 := Tryz.sizeOf70
  v131 := Tryz.zeroValue70
  t182 := Tryz.underlying118
  a182 := Tryz.isAgg118
  z182 := Tryz.sizeOf118
  v182 := Tryz.zeroValue118
  t183 := Tryz.underlying119
  a183 := Tryz.isAgg119
  z183 := Tryz.sizeOf119
  v183 := Tryz.zeroValue119
  t218 := Tryz.underlying130
  a218 := Tryz.isAgg130
  z218 := Tryz.sizeOf130
  v218 := Tryz.zeroValue130
  t222 := Tryz.underlying134
  a222 := Tryz.isAgg134
  z222 := Tryz.sizeOf134
  v222 := Tryz.zeroValue134
  t228 := Tryz.underlying139
  a228 := Tryz.isAgg139
  z228 := Tryz.sizeOf139
  v228 := Tryz.zeroValue139
  t229 := Tryz.underlying67
  a229 := Tryz.isAgg67
  z229 := Tryz.sizeOf67
  v229 := Tryz.zeroValue67 }
open Go.Sort Go.RowKit in
theorem Tryz.slices_Sort_int (blk off cap : Nat) (zs : List Int) (w : World) (hH : Holds (Value.int .i64) w blk off zs.toArray) (hblk : blk < w.heap.size) (hsz : zs.length < 4611686018427387904) :
    Calls Tryz.prog 69 #[.slice (some ⟨blk, off, none⟩) zs.length cap] w fun e w' =>
      e = .returned (.tuple #[]) ∧ ∃ n os, w' = grow (putRow (Value.int .i64) (Sort.ahead w n) blk off (zs.mergeSort fun x y => decide (x ≤ y)).toArray) os := Any.slices_Sort_int Tryz.lays189 blk off cap zs w hH hblk hsz
def Tryz.lays107_ren : Go.Shelf.Ren := ⟨fun | 107 => 71 | 108 => 85 | n => n, fun | 28 => 23 | 3 => 3 | 4 => 4 | 0 => 0 | n => n, fun | n => n⟩
theorem Tryz.lays107 : Go.Proofs.Lays.n107 Tryz.prog Tryz.lays107_ren := {
  mixed := by kernel_rfl
  f107 := Tryz.func71.trans (congrArg some (by kernel_rfl))
  f108 := Tryz.func85.trans (congrArg some (by kernel_rfl))
  t0 := Tryz.underlying0
  a0 := Tryz.isAgg0
  z0 := Tryz.sizeOf0
  v0 := Tryz.zeroValue0
  t3 := Tryz.underlying3
  a3 := Tryz.isAgg3
  z3 := Tryz.sizeOf3
  v3 := Tryz.zeroValue3
  t4 := Tryz.underlying4
  a4 := Tryz.isAgg4
  z4 := Tryz.sizeOf4
  v4 := Tryz.zeroValue4
  t28 := Tryz.underlying23
  a28 := Tryz.isAgg23
  z28 := Tryz.sizeOf23
  v28 := Tryz.zeroValue23 }
open Go.Lib in
theorem Tryz.slices_Contains_int (b off n c : Nat) (zs : List Int) (x : Int) (w : World) (hz : n ≤ zs.length) (hbig : n ≤ 9223372036854775807) (hc : ∀ j, j < zs.length → w.cell? ⟨b, off + j, none⟩ = some (.int .i64 (zs.getD j 0))) :
    Calls Tryz.prog 71 #[.slice (some ⟨b, off, none⟩) n c, .int .i64 x] w fun e w' => e = .returned (.bool ((zs.take n).contains x)) ∧ w' = w := Any.slices_Contains_int Tryz.lays107 b off n c zs x w hz hbig hc
open Go.Lib in
theorem Tryz.slices_Contains_int_empty (a : Option Addr) (c : Nat) (x : Int) (w : World) :
    Calls Tryz.prog 71 #[.slice a 0 c, .int .i64 x] w fun e w' => e = .returned (.bool false) ∧ w' = w := Any.slices_Contains_int_empty Tryz.lays107 a c x w
def Tryz.lays111_ren : Go.Shelf.Ren := ⟨fun | 111 => 54 | n => n, fun | 28 => 23 | 3 => 3 | 4 => 4 | 0 => 0 | n => n, fun | n => n⟩
theorem Tryz.lays111 : Go.Proofs.Lays.n111 Tryz.prog Tryz.lays111_ren := {
  mixed := by kernel_rfl
  f111 := Tryz.func54.trans (congrArg some (by kernel_rfl))
  t0 := Tryz.underlying0
  a0 := Tryz.isAgg0
  z0 := Tryz.sizeOf0
  v0 := Tryz.zeroValue0
  t3 := Tryz.underlying3
  a3 := Tryz.isAgg3
  z3 := Tryz.sizeOf3
  v3 := Tryz.zeroValue3
  t4 := Tryz.underlying4
  a4 := Tryz.isAgg4
  z4 := Tryz.sizeOf4
  v4 := Tryz.zeroValue4
  t28 := Tryz.underlying23
  a28 := Tryz.isAgg23
  z28 := Tryz.sizeOf23
  v28 := Tryz.zeroValue23 }
open Go.RowKit Go.Lib in
theorem Tryz.slices_Equal_int (b1 o1 n c b2 o2 m d : Nat) (xs ys : List Int) (w : World) (hx : n ≤ xs.length) (hy : m ≤ ys.length) (hbig : n ≤ 9223372036854775807) (hbig2 : m ≤ 9223372036854775807) (hc1 : ∀ j, j < xs.length → w.cell? ⟨b1, o1 + j, none⟩ = some (.int .i64 (xs.getD j 0))) (hc2 : ∀ j, j < ys.length → w.cell? ⟨b2, o2 + j, none⟩ = some (.int .i64 (ys.getD j 0))) :
    Calls Tryz.prog 54 #[.slice (some ⟨b1, o1, none⟩) n c, .slice (some ⟨b2, o2, none⟩) m d] w fun e w' => e = .returned (.bool (xs.take n == ys.take m)) ∧ ∃ q, w' = w.drewN q := Any.slices_Equal_int Tryz.lays111 b1 o1 n c b2 o2 m d xs ys w hx hy hbig hbig2 hc1 hc2
open Go.RowKit Go.Lib in
theorem Tryz.slices_Equal_int_empty (a1 a2 : Option Addr) (c m d : Nat) (w : World) (hbig2 : m ≤ 9223372036854775807) :
    Calls Tryz.prog 54 #[.slice a1 0 c, .slice a2 m d] w fun e w' => e = .returned (.bool (decide (m = 0))) ∧ w' = w := Any.slices_Equal_int_empty Tryz.lays111 a1 a2 c m d w hbig2
def Tryz.laysNm220_ren : Go.Shelf.Ren := ⟨fun | 20 => 70 | n => n, fun | 22 => 23 | 3 => 3 | 4 => 4 | 0 => 0 | n => n, fun | n => n⟩
theorem Tryz.laysNm220 : Go.Proofs.Lays2.n20 Tryz.prog Tryz.laysNm220_ren := {
  mixed := by kernel_rfl
  f20 := Tryz.func70.trans (congrArg some (by kernel_rfl))
  t0 := Tryz.underlying0
  a0 := Tryz.isAgg0
  z0 := Tryz.sizeOf0
  v0 := Tryz.zeroValue0
  t3 := Tryz.underlying3
  a3 := Tryz.isAgg3
  z3 := Tryz.sizeOf3
  v3 := Tryz.zeroValue3
  t4 := Tryz.underlying4
  a4 := Tryz.isAgg4
  z4 := Tryz.sizeOf4
  v4 := Tryz.zeroValue4
  t22 := Tryz.underlying23
  a22 := Tryz.isAgg23
  z22 := Tryz.sizeOf23
  v22 := Tryz.zeroValue23
  i3 := by kernel_rfl }
open Go.RowKit Go.Lib Go.Sort in
theorem Tryz.slices_Compact_int (blk off cap : Nat) (zs : List Int) (w : World) (hH : Holds (Value.int .i64) w blk off zs.toArray) (hsz : zs.length ≤ 9223372036854775807) (hcap : zs.length ≤ cap) :
    Calls Tryz.prog 70 #[.slice (some ⟨blk, off, none⟩) zs.length cap] w fun e w' => e = .returned (.slice (some ⟨blk, off, none⟩) (Lib.compact zs).length cap) ∧ ∃ q, w' = putRow (Value.int .i64) (Sort.ahead w q) blk off (Lib.compact zs ++ List.replicate (zs.length - (Lib.compact zs).length) 0).toArray := Any.slices_Compact_int Tryz.laysNm220 blk off cap zs w hH hsz hcap
open Go.RowKit Go.Lib Go.Sort in
theorem Tryz.slices_Compact_int_empty (a : Option Addr) (cap : Nat) (w : World) :
    Calls Tryz.prog 70 #[.slice a 0 cap] w fun e w' => e = .returned (.slice a 0 cap) ∧ w' = w := Any.slices_Compact_int_empty Tryz.laysNm220 a cap w
open Go.RowKit Go.Sort in
theorem Tryz.slices_Sort_int_none (p : Option Addr) (cap : Nat) (w : World) :
    Calls Tryz.prog 69 #[.slice p 0 cap] w fun e w' => e = .returned (.tuple #[]) ∧ w' = w := Any.slices_Sort_int_none Tryz.lays189 p cap w
open Go.RowKit Go.Lib in
theorem Tryz.slices_Equal_int_lens (a1 a2 : Option Addr) (n c m d : Nat) (w : World) (hnm : n ≠ m) :
    Calls Tryz.prog 54 #[.slice a1 n c, .slice a2 m d] w fun e w' => e = .returned (.bool false) ∧ w' = w := Any.slices_Equal_int_lens Tryz.lays111 a1 a2 n c m d w hnm
def Tryz.laysSlE45_f55_ren : Go.Shelf.Ren := ⟨fun | 45 => 55 | n => n, fun | 22 => 24 | 23 => 23 | 3 => 3 | 4 => 4 | 0 => 0 | n => n, fun | n => n⟩
theorem Tryz.laysSlE45_f55 : Go.Proofs.SlLaysE.n45 Tryz.prog Tryz.laysSlE45_f55_ren := {
  mixed := by kernel_rfl
  f45 := ⟨Tryz.f55.name, by decide, Tryz.func55.trans (congrArg some (by kernel_rfl))⟩
  t0 := Tryz.underlying0
  a0 := Tryz.isAgg0
  z0 := Tryz.sizeOf0
  v0 := Tryz.zeroValue0
  t3 := Tryz.underlying3
  a3 := Tryz.isAgg3
  z3 := Tryz.sizeOf3
  v3 := Tryz.zeroValue3
  t4 := Tryz.underlying4
  a4 := Tryz.isAgg4
  z4 := Tryz.sizeOf4
  v4 := Tryz.zeroValue4
  t22 := Tryz.underlying24
  a22 := Tryz.isAgg24
  z22 := Tryz.sizeOf24
  v22 := Tryz.zeroValue24
  a23 := Tryz.isAgg23
  z23 := Tryz.sizeOf23 }
open Go.RowKit Go.Lib Go.Sort in
theorem Tryz.slices_Delete {α : Type} [Inhabited α] (enc : α → Value) (h1 : OneCell enc) (zr : α) (v23 : ∀ w, (zeroValue 23).run Tryz.prog w = .ok (enc zr) w) (i0 : TypeInfo) (hi0 : Tryz.prog.info? 23 = some i0) (hz1 : i0.size = 1) (blk off cap i j : Nat) (d : Array α) (w : World) (hH : Holds enc w blk off d) (hcap : d.size ≤ cap) (hm : cap ≤ 9223372036854775807) (hij : i ≤ j) (hj : j ≤ d.size) :
    Calls Tryz.prog 55 #[.slice (some ⟨blk, off, none⟩) d.size cap, .int .i64 i, .int .i64 j] w fun e w' => e = .returned (.slice (some ⟨blk, off, none⟩) (d.size - (j - i)) cap) ∧ ∃ q, w' = putRow enc (Sort.ahead w q) blk off (d.toList.take i ++ d.toList.drop j ++ List.replicate (j - i) zr).toArray := AnyE.slices_Delete Tryz.laysSlE45_f55 enc h1 zr v23 i0 hi0 hz1 blk off cap i j d w hH hcap hm hij hj
def Tryz.laysSlE041_f56_ren : Go.Shelf.Ren := ⟨fun | 41 => 56 | n => n, fun | 22 => 24 | 23 => 23 | 4 => 4 | n => n, fun | n => n⟩
theorem Tryz.laysSlE041_f56 : Go.Proofs.SlLaysE0.n41 Tryz.prog Tryz.laysSlE041_f56_ren := {
  mixed := by kernel_rfl
  f41 := ⟨Tryz.f56.name, by decide, Tryz.func56.trans (congrArg some (by kernel_rfl))⟩
  t4 := Tryz.underlying4
  a4 := Tryz.isAgg4
  z4 := Tryz.sizeOf4
  v4 := Tryz.zeroValue4
  t22 := Tryz.underlying24
  a22 := Tryz.isAgg24
  z22 := Tryz.sizeOf24
  v22 := Tryz.zeroValue24 }
open Go.RowKit Go.Lib in
theorem Tryz.slices_Clone_f56 (i0 : TypeInfo) (z : Value) (size bytes : Nat) (hi : Tryz.prog.info? 23 = some i0) (hz0 : i0.zero = some z) (hz1 : i0.size = size) (hz2 : i0.bytes = bytes) (hzs : z.cells.size = size) (hsz : 0 < size) (z23 : ∀ w, (Go.sizeOf 23).run Tryz.prog w = .ok size w) (b off n c : Nat) (news : List Value) (w : World) (hl : news.length = n * size) (hn : n ≤ maxLen) (hbig : n * bytes ≤ 140737488355328) (hc : ∀ j u, news[j]? = some u → w.cell? ⟨b, off + j, none⟩ = some u) (h1 : ∀ u ∈ news, u.oneCell' = true) :
    Calls Tryz.prog 56 #[.slice (some ⟨b, off, none⟩) n c] w fun e w' => ∃ v', e = .returned v' ∧ w'.ownsRow w.heap.size 23 size v' n news ∧ v' ≠ .slice none 0 0 ∧ Below w.heap.size w w' := AnyE.slices_Clone Tryz.laysSlE041_f56 i0 z size bytes hi hz0 hz1 hz2 hzs hsz z23 b off n c news w hl hn hbig hc h1
def Tryz.laysSlH6_f52_ren : Go.Shelf.Ren := ⟨fun | 6 => 52 | n => n, fun | 22 => 24 | 23 => 23 | 25 => 58 | 3 => 3 | 0 => 0 | 4 => 4 | n => n, fun | n => n⟩
theorem Tryz.laysSlH6_f52 : Go.Proofs.SlLaysH.n6 Tryz.prog Tryz.laysSlH6_f52_ren := {
  mixed := by kernel_rfl
  f6 := ⟨Tryz.f52.name, by decide, Tryz.func52.trans (congrArg some (by kernel_rfl))⟩
  t0 := Tryz.underlying0
  a0 := Tryz.isAgg0
  z0 := Tryz.sizeOf0
  v0 := Tryz.zeroValue0
  t3 := Tryz.underlying3
  a3 := Tryz.isAgg3
  z3 := Tryz.sizeOf3
  v3 := Tryz.zeroValue3
  t4 := Tryz.underlying4
  a4 := Tryz.isAgg4
  z4 := Tryz.sizeOf4
  v4 := Tryz.zeroValue4
  t22 := Tryz.underlying24
  a22 := Tryz.isAgg24
  z22 := Tryz.sizeOf24
  v22 := Tryz.zeroValue24
  a23 := Tryz.isAgg23
  z23 := Tryz.sizeOf23
  t25 := Tryz.underlying58
  a25 := Tryz.isAgg58
  z25 := Tryz.sizeOf58
  v25 := Tryz.zeroValue58 }
open Go.RowKit Go.Lib in
theorem Tryz.slices_IndexFunc_f52 {α : Type} [Inhabited α] (enc : α → Value) (p : α → Bool) (g : Nat) (lb : Array Value) (eg : ∀ args w, (callFunc g args).run Tryz.prog w = .ok (.enter g args) w) (b off n c : Nat) (zs : List α) (w : World) (hp : PredAt Tryz.prog g lb enc p w) (hz : n ≤ zs.length) (hbig : n ≤ 9223372036854775807) (hc : ∀ j, j < zs.length → w.cell? ⟨b, off + j, none⟩ = some (enc zs[j]!)) :
    Calls Tryz.prog 52 #[.slice (some ⟨b, off, none⟩) n c, .func (.func g) #[] lb] w fun e w' => e = .returned (.int .i64 (Lib.idxBy (fun _ y => p y) (zs.take n) default)) ∧ ∃ q, w' = w.drewN q := AnyE.slices_IndexFunc Tryz.laysSlH6_f52 enc p g lb eg b off n c zs w hp hz hbig hc
end Go.Proofs

/-
  octet.Line and the reference's Line.
-/
namespace Go.Proofs.YthconjhldjaldaaGreatDoor
open Go.RowKit

end Go.Proofs.YthconjhldjaldaaGreatDoor

/-
  octet.Words, the reference's Words and Strings.
-/
namespace Go.Proofs.YthconjhldjaldaaGreatDoor
open Go.RowKit

theorem bt_is {s : ByteArray} {i : Nat} {c : UInt8} : s.data.toList[i]? = some c ↔ i < s.size ∧ bt s i = c.toNat := by
  constructor
  · intro h
    have hi : i < s.data.toList.length := (List.getElem?_eq_some_iff.1 h).1
    have hi' : i < s.size := by simpa using hi
    refine ⟨hi', ?_⟩
    rw [← bt_eq hi']
    have h2 := (List.getElem?_eq_some_iff.1 h).2
    have : s[i] = c := h2
    rw [this]
  · rintro ⟨hi, hb⟩
    rw [List.getElem?_eq_getElem (by simpa using hi)]
    rw [← bt_eq hi] at hb
    have : s[i] = c := UInt8.toNat_inj.1 hb
    exact congrArg some this

/-- the strings as cells -/
def strs (L : List ByteArray) : List Value := L.map Value.string

theorem strInfo : (Tryz.prog.info? 9).map (fun i => (i.zero, i.size, i.bytes)) = some (some (.string .empty), 1, 16) := by kernel_rfl

end Go.Proofs.YthconjhldjaldaaGreatDoor

/-
  Literals, and a derivation's lines, as text: what is read. No program in sight.
-/
namespace Go.Proofs.YthconjhldjaldaaGreatDoor
open Go.RowKit

/-- a literal's word begins with the sign of an inverse -/
def negW (w : ByteArray) : Bool := decide (0 < w.size ∧ bt w 0 = 33)
def digW (w : ByteArray) : ByteArray := if negW w then w.extract 1 w.size else w

/-- the literal of a word -/
def litR (w : ByteArray) : Option Nat :=
  if (natN (digW w) 0).2.2 = 0 ∧ (natN (digW w) 0).2.1 = (digW w).size ∧ (natN (digW w) 0).1 ≤ 16777216 then some (2 * (natN (digW w) 0).1 + (if negW w then 1 else 0)) else none

end Go.Proofs.YthconjhldjaldaaGreatDoor

/-
  octet.Nat and its reference: what they compute.
-/
namespace Go.Proofs.YthconjhldjaldaaGreatDoor
open Go.RowKit

end Go.Proofs.YthconjhldjaldaaGreatDoor

/-
  octet.Num and its reference; octet.Dec: what they compute.
-/
namespace Go.Proofs.YthconjhldjaldaaGreatDoor
open Go.RowKit

end Go.Proofs.YthconjhldjaldaaGreatDoor

/-
  latchetlaw01: lives; the table that strconv.Itoa reads.
-/
namespace Go.Proofs.YthconjhldjaldaaGreatDoor
open Go.RowKit

/-- the table of powers of ten lies as its text lays it -/
def Tab (w : World) : Prop := Lib.TabIs Tryz.prog w "internal/strconv.uint64pow10" .u64 Lib.pow10Tab

theorem gPow : Tryz.prog.globalNamed "internal/strconv.uint64pow10" = some 1 := by kernel_rfl

theorem Tab.lt {w : World} (h : Tab w) : 1 < w.heap.size :=
  World.block_lt_of_cell? w _ (Lib.TabIs.cell h gPow 0 (by decide))

theorem Tab.kp {w w' : World} (h : Tab w) (k : Kp (fun _ => False) w w') : Tab w' :=
  var?_below (k.below (Nat.le_refl _) (fun _ _ h => h)) gPow h.lt h

theorem kp_grow (w : World) (k : Nat) (os : Array Obj) : Kp (fun _ => False) w (Sort.grow (w.drewN k) os) := by
  refine ⟨rfl, rfl, rfl, ?_, fun i hi _ => ?_⟩
  · show w.heap.size ≤ (w.heap ++ os).size
    simp
  · show (w.heap ++ os)[i]? = _
    rw [Array.getElem?_append_left hi]

theorem octet_Dec (n : Int) (w : World) (h0 : -9223372036854775808 ≤ n) (h1 : n ≤ 9223372036854775807) (ht : Tab w) :
    Calls Tryz.prog 86 #[.int .i64 n] w fun e w' => e = .returned (.string ⟨(Lib.itoa n).toArray⟩) ∧ Kp (fun _ => False) w w' := by
  have HT := Lib.hid ht; clear ht
  go_enter Tryz.func86, Tryz.ntmps86
  go_wp2_with fail
  refine (Tryz.strconv_Itoa n h0 h1 _ HT.out).mono ?_
  rintro e w' ⟨rfl, k, os, rfl⟩
  go_wp2_with fail
  go_ret
  exact ⟨rfl, kp_grow _ _ _⟩

end Go.Proofs.YthconjhldjaldaaGreatDoor

/-
  A number by digits of seven bits is got again.
-/
namespace Go.Proofs.YthconjhldjaldaaGreatDoor
open Go.RowKit

end Go.Proofs.YthconjhldjaldaaGreatDoor

/-
  latchetref01.Num and Dec: what they compute.
-/
namespace Go.Proofs.YthconjhldjaldaaGreatDoor
open Go.RowKit

theorem cat_bytes (a b : List UInt8) : (⟨a.toArray⟩ : ByteArray) ++ ⟨b.toArray⟩ = ⟨(a ++ b).toArray⟩ := by
  apply ByteArray.ext; simp

end Go.Proofs.YthconjhldjaldaaGreatDoor

/-
  latchetref01.Dec: what it computes: strconv.Itoa's numeral.
-/
namespace Go.Proofs.YthconjhldjaldaaGreatDoor
open Go.RowKit

theorem decLen : ∀ (k u : Nat), u < 10 ^ (k + 1) → (Lib.decDigits u).length ≤ k + 1
  | 0, u, h => by rw [Lib.decDigits, dif_pos (by simpa using h)]; simp
  | k + 1, u, h => by
    by_cases hu : u < 10
    · rw [Lib.decDigits, dif_pos hu]; simp
    · rw [Lib.decDigits, dif_neg hu]
      have := decLen k (u / 10) (by rw [Nat.pow_succ] at h; omega)
      simp; omega

theorem itoaLen {n : Int} (h1 : -9223372036854775808 ≤ n) (h2 : n ≤ 9223372036854775807) : (Lib.itoa n).length ≤ 21 := by
  have h := decLen 19 n.natAbs (by omega)
  unfold Lib.itoa
  split
  · simp; omega
  · have e : n.toNat = n.natAbs := by omega
    rw [e]; omega

theorem itoa_one {n : Int} (h0 : ¬ n < 0) (h : n < 10) : Lib.itoa n = [UInt8.ofNat (48 + n.toNat)] := by
  unfold Lib.itoa; rw [if_neg h0, Lib.decDigits, dif_pos (by omega)]

theorem itoa_more {n : Int} (h : ¬ n < 10) : Lib.itoa n = Lib.itoa (n / 10) ++ [UInt8.ofNat (48 + (n % 10).toNat)] := by
  unfold Lib.itoa
  rw [if_neg (by omega), if_neg (by omega)]
  conv => lhs; rw [Lib.decDigits, dif_neg (by omega)]
  rw [show (n / 10).toNat = n.toNat / 10 from by omega, show (n % 10).toNat = n.toNat % 10 from by omega]

end Go.Proofs.YthconjhldjaldaaGreatDoor

/-
  lit and latchetref02: a literal's text, and the literal of a text.
-/
namespace Go.Proofs.YthconjhldjaldaaGreatDoor
open Go.RowKit

def gl (l : Int) : Bool := decide (0 ≤ l ∧ l ≤ 33554433)

/-- a literal's text -/
def litText (l : Int) : List UInt8 := if gl l then (if l % 2 = 1 then 33 :: Lib.itoa (l / 2) else Lib.itoa (l / 2)) else [63]

theorem lit_Good (l : Int) (w : World) : Calls Tryz.prog 50 #[.int .i64 l] w fun e w' => e = .returned (.bool (gl l)) ∧ w = w' := by
  by_cases h0 : 0 ≤ l
  · by_cases h1 : l ≤ 33554433
    · have HG := Lib.hid (show gl l = true by simp [gl, h0, h1])
      go_enter Tryz.func50, Tryz.ntmps50
      go_wp2
      go_ret
      rw [HG.out]
      exact ⟨rfl, rfl⟩
    · have HG := Lib.hid (show gl l = false by simp [gl, h1])
      have d1 : decide (l ≤ 33554433) = false := by simp; omega
      go_enter Tryz.func50, Tryz.ntmps50
      go_wp2
      go_ret
      rw [HG.out]
      exact ⟨rfl, rfl⟩
  · have HG := Lib.hid (show gl l = false by simp [gl, h0])
    have d1 : decide (0 ≤ l) = false := by simp; omega
    go_enter Tryz.func50, Tryz.ntmps50
    go_wp2
    go_ret
    rw [HG.out]
    exact ⟨rfl, rfl⟩

theorem ref02_Good (l : Int) (w : World) : Calls Tryz.prog 42 #[.int .i64 l] w fun e w' => e = .returned (.bool (gl l)) ∧ w = w' := by
  by_cases h0 : 0 ≤ l
  · by_cases h1 : l < 33554434
    · have HG := Lib.hid (show gl l = true by simp [gl, h0]; omega)
      go_enter Tryz.func42, Tryz.ntmps42
      go_wp2
      go_ret
      rw [HG.out]
      exact ⟨rfl, rfl⟩
    · have HG := Lib.hid (show gl l = false by simp [gl]; omega)
      have d1 : decide (l < 33554434) = false := by simp; omega
      go_enter Tryz.func42, Tryz.ntmps42
      go_wp2
      go_ret
      rw [HG.out]
      exact ⟨rfl, rfl⟩
  · have HG := Lib.hid (show gl l = false by simp [gl, h0])
    have d1 : decide (0 ≤ l) = false := by simp; omega
    go_enter Tryz.func42, Tryz.ntmps42
    go_wp2
    go_ret
    rw [HG.out]
    exact ⟨rfl, rfl⟩

theorem and_one (n : Int) : bits .and .i64 n 1 = n % 2 := by
  have h1 : (BitVec.ofInt 64 1).toNat = 2 ^ 1 - 1 := by decide
  have key : (BitVec.ofInt 64 n &&& BitVec.ofInt 64 1).toNat = (n % ((2 ^ 64 : Nat) : Int)).toNat % 2 ^ 1 := by
    rw [BitVec.toNat_and, BitVec.toNat_ofInt, h1, Nat.and_two_pow_sub_one_eq_mod]
  show IntKind.i64.wrap ((BitVec.ofInt 64 n &&& BitVec.ofInt 64 1).toNat : Nat) = n % 2
  rw [key, IntKind.wrap_i64]
  omega

theorem lit_Neg (l : Int) (hg : gl l = true) (w : World) : Calls Tryz.prog 72 #[.int .i64 l] w fun e w' => e = .returned (.bool (l % 2 == 1)) ∧ w = w' := by
  have h : 0 ≤ l ∧ l ≤ 33554433 := by simpa [gl] using hg
  have hb := and_one l
  have HG := Lib.hid hg; clear hg h
  go_enter Tryz.func72, Tryz.ntmps72
  go_wp2_with fail
  refine (lit_Good _ _).mono ?_
  rintro e w' ⟨rfl, rfl⟩
  rw [HG.out]
  go_wp2_with fail
  go_ret
  exact ⟨rfl, rfl⟩

theorem lit_Var (l : Int) (hg : gl l = true) (w : World) : Calls Tryz.prog 77 #[.int .i64 l] w fun e w' => e = .returned (.int .i64 (l / 2)) ∧ w = w' := by
  have h : 0 ≤ l ∧ l ≤ 33554433 := by simpa [gl] using hg
  obtain ⟨h0, h1⟩ := h
  have HG := Lib.hid hg; clear hg
  go_enter Tryz.func77, Tryz.ntmps77
  go_wp2_with (first | (go_at_call 50; refine (lit_Good _ _).mono ?_; rintro e w' ⟨rfl, rfl⟩; rw [HG.out]) | go_in)
  go_ret
  exact ⟨rfl, rfl⟩

theorem litSize (l : Int) : (litText l).length ≤ 23 := by
  unfold litText
  split
  · have := itoaLen (n := l / 2)
    rename_i hg
    have h : 0 ≤ l ∧ l ≤ 33554433 := by simpa [gl] using hg
    have := this (by omega) (by omega)
    split
    · simp; omega
    · omega
  · simp

set_option maxHeartbeats 1000000 in
theorem lit_Text (l : Int) (w : World) (ht : Tab w) : Calls Tryz.prog 74 #[.int .i64 l] w fun e w' => e = .returned (.string ⟨(litText l).toArray⟩) ∧ Kp (fun _ => False) w w' := by
  have HT := Lib.hid ht; clear ht
  by_cases hg : gl l = true
  · have h : 0 ≤ l ∧ l ≤ 33554433 := by simpa [gl] using hg
    obtain ⟨h0, h1⟩ := h
    have hlen := itoaLen (n := l / 2) (by omega) (by omega)
    have HD := Lib.hid (fun u hu => octet_Dec (l / 2) u (by omega) (by omega) hu)
    have HG := Lib.hid (fun u => lit_Good l u)
    rw [hg] at HG
    have HN := Lib.hid (fun u => lit_Neg l hg u)
    have HV := Lib.hid (fun u => lit_Var l hg u)
    by_cases hn : l % 2 = 1
    · have HX := Lib.hid (show litText l = 33 :: Lib.itoa (l / 2) by unfold litText; rw [if_pos hg, if_pos hn])
      rw [show (l % 2 == 1) = true by simp [hn]] at HN
      have hl2 : ¬ 9223372036854775807 < 1 + (Lib.itoa (l / 2)).length := by omega
      have hl3 : ¬ 9223372036854775807 < (Lib.itoa (l / 2)).length + 1 := by omega
      clear hg hn h0 h1
      obtain ⟨t, ht⟩ : ∃ t, Lib.itoa (l / 2) = t := ⟨_, rfl⟩
      obtain ⟨v, hv⟩ : ∃ v, l / 2 = v := ⟨_, rfl⟩
      rw [ht] at HX HD hl2 hl3 hlen
      rw [hv] at HD HV
      clear ht hv
      go_enter Tryz.func74, Tryz.ntmps74
      go_wp2_with fail
      refine (HG.out _).mono ?_
      rintro e w' ⟨rfl, rfl⟩
      go_wp2_with fail
      refine (HN.out _).mono ?_
      rintro e w' ⟨rfl, rfl⟩
      go_wp2_with fail
      refine (HV.out _).mono ?_
      rintro e w' ⟨rfl, rfl⟩
      go_wp2_with fail
      refine (HD.out _ HT.out).mono ?_
      rintro e w1 ⟨rfl, hK⟩
      go_wp2_with fail
      go_ret
      rw [HX.out]
      exact ⟨congrArg (fun x => Ending.returned (Value.string x)) (cat_bytes [33] t), hK⟩
    · have HX := Lib.hid (show litText l = Lib.itoa (l / 2) by unfold litText; rw [if_pos hg, if_neg hn])
      rw [show (l % 2 == 1) = false by simp [hn]] at HN
      clear hg hn h0 h1
      obtain ⟨t, ht⟩ : ∃ t, Lib.itoa (l / 2) = t := ⟨_, rfl⟩
      obtain ⟨v, hv⟩ : ∃ v, l / 2 = v := ⟨_, rfl⟩
      rw [ht] at HX HD hlen
      rw [hv] at HD HV
      clear ht hv
      go_enter Tryz.func74, Tryz.ntmps74
      go_wp2_with fail
      refine (HG.out _).mono ?_
      rintro e w' ⟨rfl, rfl⟩
      go_wp2_with fail
      refine (HN.out _).mono ?_
      rintro e w' ⟨rfl, rfl⟩
      go_wp2_with fail
      refine (HV.out _).mono ?_
      rintro e w' ⟨rfl, rfl⟩
      go_wp2_with fail
      refine (HD.out _ HT.out).mono ?_
      rintro e w1 ⟨rfl, hK⟩
      go_wp2_with fail
      go_ret
      rw [HX.out]
      exact ⟨rfl, hK⟩
  · have HX := Lib.hid (show litText l = [63] by unfold litText; rw [if_neg hg])
    have HG := Lib.hid (fun u => lit_Good l u)
    rw [show gl l = false by simpa using hg] at HG
    clear hg
    go_enter Tryz.func74, Tryz.ntmps74
    go_wp2_with fail
    refine (HG.out _).mono ?_
    rintro e w' ⟨rfl, rfl⟩
    go_wp2_with fail
    go_ret
    rw [HX.out]
    exact ⟨rfl, Kp.refl _ _⟩

end Go.Proofs.YthconjhldjaldaaGreatDoor

/-
  tri.Lit: a literal's value by those of variables.
-/
namespace Go.Proofs.YthconjhldjaldaaGreatDoor
open Go.RowKit

theorem KnL.gl {n : Nat} {x : Int} (h : KnL n x) (hn : n ≤ 16777216) : gl x = true := by
  unfold KnL at h
  unfold Go.Proofs.YthconjhldjaldaaGreatDoor.gl
  rw [decide_eq_true_eq]
  omega

/-- told -/
def tld (a : Int) : Bool := a == 0 || a == 1

theorem tri_told (a : Int) (w : World) : Calls Tryz.prog 78 #[.int .i64 a] w fun e w' => e = .returned (.bool (tld a)) ∧ w = w' := by
  unfold tld
  by_cases h0 : a = 0
  · subst h0
    go_enter Tryz.func78, Tryz.ntmps78
    go_wp2_with fail
    go_ret
    exact ⟨rfl, rfl⟩
  · have b0 : (a == 0) = false := by simp [h0]
    by_cases h1 : a = 1
    · subst h1
      go_enter Tryz.func78, Tryz.ntmps78
      go_wp2_with fail
      go_ret
      exact ⟨rfl, rfl⟩
    · have b1 : (a == 1) = false := by simp [h1]
      have HB := Lib.hid (show (a == 0 || a == 1) = false by rw [b0, b1]; rfl)
      clear h0 h1
      go_enter Tryz.func78, Tryz.ntmps78
      go_wp2_with fail
      go_ret
      rw [HB.out]
      exact ⟨rfl, rfl⟩

theorem tri_Not (a : Int) (w : World) : Calls Tryz.prog 79 #[.int .i64 a] w fun e w' => e = .returned (.int .i64 (flp a)) ∧ w = w' := by
  have HT := Lib.hid (tri_told a w)
  by_cases h0 : a = 0
  · subst h0
    rw [show flp 0 = 1 by rfl]
    go_enter Tryz.func79, Tryz.ntmps79
    go_wp2_with (go_at_call 78; refine HT.out.mono ?_; rintro e w' ⟨rfl, rfl⟩)
    go_ret
    exact ⟨rfl, rfl⟩
  · by_cases h1 : a = 1
    · subst h1
      rw [show flp 1 = 0 by rfl]
      go_enter Tryz.func79, Tryz.ntmps79
      go_wp2_with (go_at_call 78; refine HT.out.mono ?_; rintro e w' ⟨rfl, rfl⟩)
      go_ret
      exact ⟨rfl, rfl⟩
    · have b1 : tld a = false := by unfold tld; simp [h0, h1]
      rw [show flp a = 2 by unfold flp; rw [if_neg h0, if_neg h1]]
      rw [b1] at HT
      clear h0 h1
      go_enter Tryz.func79, Tryz.ntmps79
      go_wp2_with (go_at_call 78; refine HT.out.mono ?_; rintro e w' ⟨rfl, rfl⟩)
      go_ret
      exact ⟨rfl, rfl⟩

set_option maxRecDepth 100000 in
set_option maxHeartbeats 2000000 in
theorem tri_Lit (a : Option Addr) (m c : Nat) (V : List Int) (n : Nat) (x : Int) (w : World) (hr : RowAt w a (iv V)) (hV : TV n V) (hm : n + 1 = m) (hn : n ≤ 16777216) (hx : KnL n x) :
    Calls Tryz.prog 66 #[.slice a m c, .int .i64 x] w fun e w' => e = .returned (.int .i64 (vlit V x)) ∧ w = w' := by
  have hg := hx.gl hn
  have HVar := Lib.hid (fun u => lit_Var x hg u)
  have HNeg := Lib.hid (fun u => lit_Neg x hg u)
  have HNot := Lib.hid (fun b u => tri_Not b u)
  have HTld := Lib.hid (fun b u => tri_told b u)
  have hk := hx
  unfold KnL at hk
  obtain ⟨q, hq⟩ : ∃ q : Nat, x / 2 = (q : Int) := ⟨(x / 2).toNat, by omega⟩
  have hq2 : (x / 2).toNat = q := by omega
  have hqm : q < m := by omega
  have hql : q < V.length := by rw [hV.len]; omega
  obtain ⟨b, off, rfl, hc⟩ := hr q _ (iv_at hql)
  have hz := hV.zero
  have hall := hV.all q (by omega)
  obtain ⟨y, hy⟩ : ∃ y, gi V q = y := ⟨_, rfl⟩
  have HR := Lib.hid (show vlit V x = if x % 2 = 1 then flp y else y by unfold vlit; rw [hq2, hy])
  rw [hy] at hc hall
  have HQ0 : q = 0 → y = 0 := fun e => by rw [← hy, e, hz]
  have HQ := Lib.hid HQ0
  rw [HR.out]
  simp only [hq] at HVar
  clear hr hV hx hg hk hq hq2 hql hz hy HR HQ0
  by_cases e : x % 2 = 1
  · have e1 : (x % 2 == 1) = true := by simp [e]
    simp only [e1] at HNeg
    rw [if_pos e]
    clear e e1
    by_cases h0 : q = 0
    · subst h0
      have := HQ.out rfl
      subst this
      go_enter Tryz.func66, Tryz.ntmps66
      go_wp2_with (first
        | (go_at_call 77; refine (HVar.out _).mono ?_; rintro e w' ⟨rfl, rfl⟩)
        | (go_at_call 72; refine (HNeg.out _).mono ?_; rintro e w' ⟨rfl, rfl⟩)
        | (go_at_call 79; refine (HNot.out _ _).mono ?_; rintro e w' ⟨rfl, rfl⟩))
      go_ret
      exact ⟨rfl, rfl⟩
    · have q0 : ((q : Int) == 0) = false := by simp; omega
      have q1 : (0 : Int) < (q : Int) := by omega
      have q2 : (q : Int) < (m : Int) := by omega
      have q3 : (0 : Int) ≤ (q : Int) := by omega
      clear h0
      rcases hall with rfl | rfl | rfl
      all_goals
        go_enter Tryz.func66, Tryz.ntmps66
        go_wp2_with (first
          | (go_at_call 77; refine (HVar.out _).mono ?_; rintro e w' ⟨rfl, rfl⟩)
          | (go_at_call 72; refine (HNeg.out _).mono ?_; rintro e w' ⟨rfl, rfl⟩)
          | (go_at_call 78; refine (HTld.out _ _).mono ?_; rintro e w' ⟨rfl, rfl⟩)
          | (go_at_call 79; refine (HNot.out _ _).mono ?_; rintro e w' ⟨rfl, rfl⟩))
        go_ret
        exact ⟨rfl, rfl⟩
  · have e1 : (x % 2 == 1) = false := by simp [e]
    simp only [e1] at HNeg
    rw [if_neg e]
    clear e e1
    by_cases h0 : q = 0
    · subst h0
      have := HQ.out rfl
      subst this
      go_enter Tryz.func66, Tryz.ntmps66
      go_wp2_with (first
        | (go_at_call 77; refine (HVar.out _).mono ?_; rintro e w' ⟨rfl, rfl⟩)
        | (go_at_call 72; refine (HNeg.out _).mono ?_; rintro e w' ⟨rfl, rfl⟩))
      go_ret
      exact ⟨rfl, rfl⟩
    · have q0 : ((q : Int) == 0) = false := by simp; omega
      have q1 : (0 : Int) < (q : Int) := by omega
      have q2 : (q : Int) < (m : Int) := by omega
      have q3 : (0 : Int) ≤ (q : Int) := by omega
      clear h0
      rcases hall with rfl | rfl | rfl
      all_goals
        go_enter Tryz.func66, Tryz.ntmps66
        go_wp2_with (first
          | (go_at_call 77; refine (HVar.out _).mono ?_; rintro e w' ⟨rfl, rfl⟩)
          | (go_at_call 72; refine (HNeg.out _).mono ?_; rintro e w' ⟨rfl, rfl⟩)
          | (go_at_call 78; refine (HTld.out _ _).mono ?_; rintro e w' ⟨rfl, rfl⟩))
        go_ret
        exact ⟨rfl, rfl⟩

end Go.Proofs.YthconjhldjaldaaGreatDoor

/-
  latchetref02.Ints: whether two lists of ints are one.
-/
namespace Go.Proofs.YthconjhldjaldaaGreatDoor
open Go.RowKit

end Go.Proofs.YthconjhldjaldaaGreatDoor

/-
  A trail in memory: its blocks are D's; what is asked of it without change.
-/
namespace Go.Proofs.YthconjhldjaldaaGreatDoor
open Go.RowKit

/-- cells of rows of three ints -/
def tris (M : List (Int × Int × Int)) : Array Value := (M.map tri).flatten.toArray

/-- a trail at p: D is where its blocks lie -/
structure TrAt (w : World) (D : Nat → Prop) (p g0 g1 n : Nat) (v2 v3 : Value) (V : List Int) (M : List (Int × Int × Int)) (L E : List Int) : Prop where
  blk : Blk w p #[.slice (some ⟨g0, 0, none⟩) (n + 1) (n + 1), .slice (some ⟨g1, 0, none⟩) (n + 1) (n + 1), v2, v3] 82
  vals : Blk w g0 (ints V) 3
  marks : Blk w g1 (tris M) 84
  list : Own w 0 3 v2 (iv L)
  ends : Own w 0 3 v3 (iv E)
  vl : V.length = n + 1
  ml : M.length = n + 1
  dp : D p ∧ D g0 ∧ D g1
  dd : p ≠ g0 ∧ p ≠ g1 ∧ g0 ≠ g1
  d2 : ∀ j, v2.ownBlock = some j → D j ∧ j ≠ p ∧ j ≠ g0 ∧ j ≠ g1
  d3 : ∀ j, v3.ownBlock = some j → D j ∧ j ≠ p ∧ j ≠ g0 ∧ j ≠ g1
  d23 : ∀ j, v2.ownBlock = some j → v3.ownBlock ≠ some j

section
variable {w w' : World} {D : Nat → Prop} {p g0 g1 n : Nat} {v2 v3 : Value} {V : List Int} {M : List (Int × Int × Int)} {L E : List Int}

theorem TrAt.kpS {S : Nat → Prop} (h : TrAt w D p g0 g1 n v2 v3 V M L E) (k : Kp S w w') (hS : ∀ j, D j → ¬ S j) : TrAt w' D p g0 g1 n v2 v3 V M L E :=
  ⟨h.blk.kp k (hS _ h.dp.1), h.vals.kp k (hS _ h.dp.2.1), h.marks.kp k (hS _ h.dp.2.2), h.list.kp k (fun j hj => hS _ (h.d2 j hj).1), h.ends.kp k (fun j hj => hS _ (h.d3 j hj).1), h.vl, h.ml, h.dp, h.dd, h.d2, h.d3, h.d23⟩
theorem TrAt.kp (h : TrAt w D p g0 g1 n v2 v3 V M L E) (k : Kp (fun _ => False) w w') : TrAt w' D p g0 g1 n v2 v3 V M L E := h.kpS k (fun _ _ h => h)

theorem TrAt.row (h : TrAt w D p g0 g1 n v2 v3 V M L E) : RowAt w (some ⟨g0, 0, none⟩) (iv V) := h.vals.intsAt

theorem trail_Value (h : TrAt w D p g0 g1 n v2 v3 V M L E) (hV : TV n V) (hn : n ≤ 1048576) {x : Int} (hx : KnL n x) :
    Calls Tryz.prog 60 #[.pointer (some ⟨p, 0, none⟩), .int .i64 x] w fun e w' => e = .returned (.int .i64 (vlit V x)) ∧ w = w' := by
  have c0 : w.cell? ⟨p, 0, none⟩ = some (.slice (some ⟨g0, 0, none⟩) (n + 1) (n + 1)) := h.blk.cell (i := 0) rfl
  have HL := Lib.hid (tri_Lit (some ⟨g0, 0, none⟩) (n + 1) (n + 1) V n x w h.row hV rfl (by omega) hx)
  clear h
  go_enter Tryz.func60, Tryz.ntmps60
  go_wp2_with (go_at_call 66; refine HL.out.mono ?_; rintro e w' ⟨rfl, rfl⟩)
  go_ret
  exact ⟨rfl, rfl⟩

theorem trail_Len (h : TrAt w D p g0 g1 n v2 v3 V M L E) :
    Calls Tryz.prog 65 #[.pointer (some ⟨p, 0, none⟩)] w fun e w' => e = .returned (.int .i64 (L.length : Int)) ∧ w = w' := by
  obtain ⟨a, c, rfl, -⟩ := h.list.form
  have c2 := h.blk.cell (i := 2) (v := .slice a (iv L).length c) rfl
  rw [iv_length] at c2
  clear h
  go_enter Tryz.func65, Tryz.ntmps65
  go_wp2_with fail
  go_ret
  exact ⟨rfl, rfl⟩

end

end Go.Proofs.YthconjhldjaldaaGreatDoor

/-
  trail: List, Values, Set.
-/
namespace Go.Proofs.YthconjhldjaldaaGreatDoor
open Go.RowKit

theorem own_nilc {w : World} {base : Nat} {e : TypeId} {a : Option Addr} {n c : Nat} {cs : List Value} (h : Own w base e (.slice a n c) cs) : a = none → c = 0 := by
  rintro rfl
  rcases h.2 with ⟨h1, hn⟩ | ⟨g, cap, cur, h1, hb, hgg, rest⟩
  · cases h1; rfl
  · cases h1

section
variable {w w' : World} {D : Nat → Prop} {p g0 g1 n : Nat} {v2 v3 : Value} {V : List Int} {M : List (Int × Int × Int)} {L E : List Int}

theorem trail_Values (h : TrAt w D p g0 g1 n v2 v3 V M L E) (hn : n ≤ 900000) :
    Calls Tryz.prog 37 #[.pointer (some ⟨p, 0, none⟩)] w fun e w' => ∃ v, e = .returned v ∧ Own w' w.heap.size 3 v (iv V) ∧ Kp (fun _ => False) w w' := by
  have c0 : w.cell? ⟨p, 0, none⟩ = some (.slice (some ⟨g0, 0, none⟩) (n + 1) (n + 1)) := h.blk.cell (i := 0) rfl
  have HL := Lib.hid (clone_ints (some ⟨g0, 0, none⟩) (n + 1) (n + 1) V w h.row h.vl ⟨Nat.le_refl _, by unfold maxLen; omega, fun h => by cases h⟩ (by omega))
  clear h
  go_enter Tryz.func37, Tryz.ntmps37
  go_wp2_with (go_at_call 19; refine HL.out.mono ?_; rintro e w' ⟨v, rfl, hO, hK⟩)
  go_ret
  exact ⟨_, rfl, hO, hK⟩

theorem trail_List (h : TrAt w D p g0 g1 n v2 v3 V M L E) (hn : L.length ≤ 900000) :
    Calls Tryz.prog 64 #[.pointer (some ⟨p, 0, none⟩)] w fun e w' => ∃ v, e = .returned v ∧ Own w' w.heap.size 3 v (iv L) ∧ Kp (fun _ => False) w w' := by
  obtain ⟨a, c, rfl, hc1, hc2, -, hr⟩ := h.list.form
  have hnil := own_nilc h.list
  have c2 := h.blk.cell (i := 2) (v := .slice a (iv L).length c) rfl
  rw [iv_length] at c2 hc1
  have HL := Lib.hid (clone_ints a L.length c L w hr rfl ⟨hc1, hc2, hnil⟩ (by omega))
  clear h hr
  go_enter Tryz.func64, Tryz.ntmps64
  go_wp2_with (go_at_call 19; refine HL.out.mono ?_; rintro e w' ⟨v, rfl, hO, hK⟩)
  go_ret
  exact ⟨_, rfl, hO, hK⟩

/-- .. of a literal that is so -/
theorem trail_Set_one (h : TrAt w D p g0 g1 n v2 v3 V M L E) (hV : TV n V) (hn : n ≤ 900000) {x : Int} (hx : KnL n x) (why : Int) (hv : vlit V x = 1) :
    Calls Tryz.prog 34 #[.pointer (some ⟨p, 0, none⟩), .int .i64 x, .int .i64 why] w fun e w' => e = .returned (.int .i64 7) ∧ w = w' := by
  have c0 : w.cell? ⟨p, 0, none⟩ = some (.slice (some ⟨g0, 0, none⟩) (n + 1) (n + 1)) := h.blk.cell (i := 0) rfl
  have HL := Lib.hid (trail_Value h hV (by omega) hx)
  rw [hv] at HL
  have h0 := hx.1
  have q1 : x.tdiv 2 < (n : Int) + 1 := by have := hx.2; rw [Int.tdiv_eq_ediv_of_nonneg h0]; omega
  have q2 : x / 2 < (n : Int) + 1 := by have := hx.2; omega
  clear h hV hv hx
  go_enter Tryz.func34, Tryz.ntmps34
  go_wp2_with (go_at_call 60; refine HL.out.mono ?_; rintro e w' ⟨rfl, rfl⟩)
  go_ret
  exact ⟨rfl, rfl⟩

/-- .. of a literal that is not -/
theorem trail_Set_zero (h : TrAt w D p g0 g1 n v2 v3 V M L E) (hV : TV n V) (hn : n ≤ 900000) {x : Int} (hx : KnL n x) (why : Int) (hv : vlit V x = 0) :
    Calls Tryz.prog 34 #[.pointer (some ⟨p, 0, none⟩), .int .i64 x, .int .i64 why] w fun e w' => e = .returned (.int .i64 11) ∧ w = w' := by
  have c0 : w.cell? ⟨p, 0, none⟩ = some (.slice (some ⟨g0, 0, none⟩) (n + 1) (n + 1)) := h.blk.cell (i := 0) rfl
  have HL := Lib.hid (trail_Value h hV (by omega) hx)
  rw [hv] at HL
  have h0 := hx.1
  have q1 : x.tdiv 2 < (n : Int) + 1 := by have := hx.2; rw [Int.tdiv_eq_ediv_of_nonneg h0]; omega
  have q2 : x / 2 < (n : Int) + 1 := by have := hx.2; omega
  clear h hV hv hx
  go_enter Tryz.func34, Tryz.ntmps34
  go_wp2_with (go_at_call 60; refine HL.out.mono ?_; rintro e w' ⟨rfl, rfl⟩)
  go_ret
  exact ⟨rfl, rfl⟩

theorem level_cell {u : World} {p : Nat} {a : Option Addr} {m c : Nat} (h : u.cell? ⟨p, 3, none⟩ = some (.slice a m c)) :
    Calls Tryz.prog 61 #[.pointer (some ⟨p, 0, none⟩)] u fun e w' => e = .returned (.int .i64 (m : Int)) ∧ u = w' := by
  go_enter Tryz.func61, Tryz.ntmps61
  go_wp2_with fail
  go_ret
  exact ⟨rfl, rfl⟩

theorem tris_size (M : List (Int × Int × Int)) : (tris M).size = M.length * 3 := by
  unfold tris
  rw [List.size_toArray, flat_length (k := 3) (fun r hr => by obtain ⟨x, _, rfl⟩ := List.mem_map.1 hr; rfl)]
  simp

theorem tris_put_list : ∀ (M : List (Int × Int × Int)) (q : Nat) (x y z : Int), q < M.length → ((((M.map tri).flatten.set (q * 3) (.int .i64 x)).set (q * 3 + 1) (.int .i64 y)).set (q * 3 + 2) (.int .i64 z)) = ((M.set q (x, y, z)).map tri).flatten
  | [], q, _, _, _, h => by simp at h
  | m :: r, 0, x, y, z, _ => by simp [tri]
  | m :: r, q + 1, x, y, z, h => by
    have ih := tris_put_list r q x y z (by simpa using h)
    rw [show (q + 1) * 3 = q * 3 + 1 + 1 + 1 by omega]
    simp only [List.map_cons, List.flatten_cons, tri, List.cons_append, List.nil_append, List.set_cons_succ, show q * 3 + 1 + 1 + 1 + 1 = (q * 3 + 1) + 1 + 1 + 1 by omega, show q * 3 + 1 + 1 + 1 + 2 = (q * 3 + 2) + 1 + 1 + 1 by omega]
    rw [ih]
theorem tris_put (M : List (Int × Int × Int)) (q : Nat) (x y z : Int) (h : q < M.length) : ((((tris M).setIfInBounds (q * 3) (.int .i64 x)).setIfInBounds (q * 3 + 1) (.int .i64 y)).setIfInBounds (q * 3 + 2) (.int .i64 z)) = tris (M.set q (x, y, z)) := by
  unfold tris
  rw [← tris_put_list M q x y z h]
  simp

set_option maxRecDepth 100000 in
set_option maxHeartbeats 4000000 in
/-- .. of an open one -/
theorem trail_Set_free (h : TrAt w D p g0 g1 n v2 v3 V M L E) (hD : ∀ j, w.heap.size ≤ j → D j) (hV : TV n V) (hn : n ≤ 900000) {x : Int} (hx : KnL n x) (why : Int) (hv : vlit V x = 2) (hL : L.length ≤ n) :
    Calls Tryz.prog 34 #[.pointer (some ⟨p, 0, none⟩), .int .i64 x, .int .i64 why] w fun e w' => ∃ v2', e = .returned (.int .i64 0) ∧ TrAt w' D p g0 g1 n v2' v3 (vset V x) (M.set (x / 2).toNat ((E.length : Int), why, (L.length : Int))) (L ++ [x]) E ∧ Kp D w w' := by
  have HI := Lib.hid (show (Tryz.prog.info? 3).map (fun i => (i.zero, i.size, i.bytes)) = some (some (.int .i64 0), 1, 8) by kernel_rfl)
  obtain ⟨a2, c2, e2, l2, m2, -, -⟩ := h.list.form
  obtain ⟨a3, c3, e3, -⟩ := h.ends.form
  rw [iv_length] at e2 e3 l2
  obtain ⟨hq, hb0, hb1⟩ : ∃ q : Nat, x / 2 = (q : Int) ∧ q ≤ n := ⟨(x / 2).toNat, by have := hx.1; omega, hx.var⟩
  subst e2 e3
  have k0 : w.cell? ⟨p, 0, none⟩ = some (.slice (some ⟨g0, 0, none⟩) (n + 1) (n + 1)) := h.blk.cell (i := 0) rfl
  have HL := Lib.hid (trail_Value h hV (by omega) hx)
  rw [hv] at HL
  have h0 := hx.1
  have q1 : x.tdiv 2 = (hq : Int) := by rw [Int.tdiv_eq_ediv_of_nonneg h0]; exact hb0
  obtain ⟨m, hm⟩ : ∃ m : Nat, n + 1 = m := ⟨_, rfl⟩
  have q3 : (hq : Int) < (m : Int) := by omega
  have q4 : (0 : Int) ≤ (hq : Int) := by omega
  have hqn : (x / 2).toNat = hq := by omega
  have HC := Lib.hid (show ∀ u, Kp (fun j => j = g0 ∨ j = g1) w u → u.cell? ⟨p, 0, none⟩ = some (.slice (some ⟨g0, 0, none⟩) m m) ∧ u.cell? ⟨p, 1, none⟩ = some (.slice (some ⟨g1, 0, none⟩) m m) ∧ u.cell? ⟨p, 2, none⟩ = some (.slice a2 L.length c2) ∧ u.cell? ⟨p, 3, none⟩ = some (.slice a3 E.length c3) from fun u k => by
    have hB := h.blk.kp k (fun q => by have := h.dd; rcases q with q | q <;> omega)
    rw [hm] at hB
    exact ⟨hB.cell rfl, hB.cell rfl, hB.cell rfl, hB.cell rfl⟩)
  have HF0 := Lib.hid (fun i => h.vals.free i)
  have HF1 := Lib.hid (fun i => h.marks.free i)
  have HH := Lib.hid h
  have HV := Lib.hid hV
  have HX := Lib.hid hx
  have HDD := Lib.hid hD
  have hb := and_one x
  rw [hqn]
  have HM := Lib.hid hm
  obtain ⟨b, hbb⟩ : ∃ b : Int, x % 2 = b := ⟨_, rfl⟩
  have hb2 : b = 0 ∨ b = 1 := by omega
  rw [hbb] at hb
  have hw : IntKind.i64.wrap (hq : Int) = (hq : Int) := by rw [IntKind.wrap_i64]; omega
  obtain ⟨nb, hnb⟩ : ∃ nb : Int, 1 - b = nb := ⟨_, rfl⟩
  have hw1 : IntKind.i64.wrap (1 - b) = nb := by rw [IntKind.wrap_i64]; omega
  have dx : decide (x < 0) = false := by simp; omega
  have HVs := Lib.hid (show vset V x = V.set hq nb by unfold vset; rw [hqn]; congr 1; split <;> omega)
  have e0 : w.cell? ⟨g0, hq, none⟩ = some (.int .i64 (gi V hq)) := h.vals.cell (ints_at (by rw [h.vl]; omega))
  have f0 : w.frozen? ⟨g0, hq, none⟩ = false := h.vals.free hq
  obtain ⟨y1, y2, y3, e1, e2, e3⟩ : ∃ y1 y2 y3 : Value, w.cell? ⟨g1, hq * 3, none⟩ = some y1 ∧ w.cell? ⟨g1, hq * 3 + 1, none⟩ = some y2 ∧ w.cell? ⟨g1, hq * 3 + 2, none⟩ = some y3 := by
    have hs := tris_size M
    rw [h.ml] at hs
    exact ⟨_, _, _, h.marks.cell (Array.getElem?_eq_getElem (by omega)), h.marks.cell (Array.getElem?_eq_getElem (by omega)), h.marks.cell (Array.getElem?_eq_getElem (by omega))⟩
  have f1 : w.frozen? ⟨g1, hq * 3, none⟩ = false := h.marks.free _
  have f2 : w.frozen? ⟨g1, hq * 3 + 1, none⟩ = false := h.marks.free _
  have f3 : w.frozen? ⟨g1, hq * 3 + 2, none⟩ = false := h.marks.free _
  have hne : g0 ≠ g1 := h.dd.2.2
  have HI2 := HI
  clear h hV hx hv hD HI HF0 HF1 hqn hbb l2 m2 hm k0 hb2 hnb
  obtain ⟨k0, k1, k2, k3⟩ := HC.out w (Kp.refl _ _)
  go_enter Tryz.func34, Tryz.ntmps34
  go_upto_region 8 with (go_at_call 60; refine HL.out.mono ?_; rintro e w' ⟨rfl, rfl⟩)
  clear HL
  go_region_held3 (fun u => u.cell? ⟨p, 0, none⟩ = some (.slice (some ⟨g0, 0, none⟩) m m) ∧ u.cell? ⟨p, 1, none⟩ = some (.slice (some ⟨g1, 0, none⟩) m m) ∧ u.cell? ⟨p, 2, none⟩ = some (.slice a2 L.length c2) ∧ u.cell? ⟨p, 3, none⟩ = some (.slice a3 E.length c3)) (exact HC.out _ (by repeat (with_reducible first | exact Kp.refl _ _ | apply Kp.drew | (refine Kp.setCell ?_ (p := ⟨_, _, _⟩) (fun _ => by simp) _))))
    ((go_at_call 61
      (with_reducible refine Calls.mono (level_cell (HC.out _ (by repeat (with_reducible first | exact Kp.refl _ _ | apply Kp.drew | (refine Kp.setCell ?_ (p := ⟨_, _, _⟩) (fun _ => by simp) _)))).2.2.2) ?_)
      rintro e w' ⟨rfl, rfl⟩))
  obtain ⟨wA, hwA⟩ : ∃ wA : World, wA = ((((w.setCell ⟨g0, hq, none⟩ (.int .i64 nb)).setCell ⟨g1, hq * 3, none⟩ (.int .i64 (E.length : Int))).setCell ⟨g1, hq * 3 + 1, none⟩ (.int .i64 why)).setCell ⟨g1, hq * 3 + 2, none⟩ (.int .i64 (L.length : Int))).drew := ⟨_, rfl⟩
  have HK := Lib.hid (show Kp (fun j => j = g0 ∨ j = g1) w wA by rw [hwA]; exact (((((Kp.refl _ w).setCell (p := ⟨g0, hq, none⟩) (fun _ => .inl rfl) _).setCell (p := ⟨g1, hq * 3, none⟩) (fun _ => .inr rfl) _).setCell (p := ⟨g1, hq * 3 + 1, none⟩) (fun _ => .inr rfl) _).setCell (p := ⟨g1, hq * 3 + 2, none⟩) (fun _ => .inr rfl) _).drew)
  have HA := Lib.hid (show TrAt wA D p g0 g1 n (.slice a2 L.length c2) (.slice a3 E.length c3) (vset V x) (M.set hq ((E.length : Int), why, (L.length : Int))) L E by
    have h := HH.out
    have hpn : ¬ (p = g0 ∨ p = g1) := fun q => by have := h.dd; rcases q with q | q <;> omega
    refine ⟨h.blk.kp HK.out hpn, ?_, ?_, h.list.kp HK.out (fun j hj q => by have := h.d2 j hj; rcases q with q | q <;> omega), h.ends.kp HK.out (fun j hj q => by have := h.d3 j hj; rcases q with q | q <;> omega), by rw [vset_len]; exact h.vl, by rw [List.length_set]; exact h.ml, h.dp, h.dd, h.d2, h.d3, h.d23⟩
    · have hB := ((((h.vals.set_same hq (.int .i64 nb)).set_other (p := ⟨g1, hq * 3, none⟩) hne (.int .i64 (E.length : Int))).set_other (p := ⟨g1, hq * 3 + 1, none⟩) hne (.int .i64 why)).set_other (p := ⟨g1, hq * 3 + 2, none⟩) hne (.int .i64 (L.length : Int))).drew
      rw [ints_set] at hB
      rw [hwA, HVs.out]
      exact hB
    · have hB := ((((h.marks.set_other (p := ⟨g0, hq, none⟩) (fun e => hne e.symm) (.int .i64 nb)).set_same (hq * 3) (.int .i64 (E.length : Int))).set_same (hq * 3 + 1) (.int .i64 why)).set_same (hq * 3 + 2) (.int .i64 (L.length : Int))).drew
      rw [tris_put _ _ _ _ _ (by rw [h.ml]; omega)] at hB
      rw [hwA]
      exact hB)
  rw [← hwA]
  clear hwA k0 k1 k2 k3 e0 e1 e2 e3 f0 f1 f2 f3 HC
  have k2 := HA.out.blk.cell (i := 2) (v := .slice a2 L.length c2) rfl
  have HNew := Lib.hid (Blk.new wA #[.int .i64 x] 3)
  have HOw := Lib.hid (show Own (wA.alloc (.cells #[.int .i64 x] 3)) 0 3 (.slice a2 L.length c2) (iv L) from HA.out.list.alloc _)
  go_wp2_with (at_builtin; refine wpList_append1_at rfl _ _ 23 3 rfl Tryz.underlying23 HI2.out rfl HOw.out rfl ⟨wA.heap.size, 0, none⟩ (.int .i64 x) rfl (HNew.out.cell rfl) rfl ?d1 ?d2 ?d3 ?_)
  case d1 => rw [iv_length]; omega
  case d2 => rw [iv_length]; unfold maxLen; omega
  case d3 => exact Nat.zero_le _
  intro v' w2 hO3 hg2 hat
  obtain ⟨a', c', e', -⟩ := hO3.form
  rw [List.length_append, List.length_singleton] at e'
  subst e'
  have HAt := Lib.hid hat
  clear hat
  have hp2 := HA.out.d2
  have HK2 := Lib.hid (show Kp (fun j => (Value.slice a2 L.length c2).ownBlock = some j) wA w2 from ((Kp.refl _ wA).alloc _).grown hg2 (fun j hj _ => hj))
  have HG2 := Lib.hid hg2
  have HO3 := Lib.hid hO3
  have hB2 : Blk w2 p _ _ := HA.out.blk.kp HK2.out (fun q => (hp2 _ q).2.1 rfl)
  have z2 := hB2.cell (i := 2) (v := .slice a2 L.length c2) rfl
  have zf := hB2.free 2
  have HB2 := Lib.hid hB2
  clear hO3 hg2 hp2 hB2 HOw HNew
  go_wp2_with fail
  go_ret
  have h := HA.out
  have hAs : w.heap.size ≤ wA.heap.size := HK.out.size
  have hpl := h.blk.lt
  have hgl0 := h.vals.lt
  have hgl1 := h.marks.lt
  have hnew : ∀ j, (Value.slice a' ((iv L).length + 1) c').ownBlock = some j → D j ∧ j ≠ p ∧ j ≠ g0 ∧ j ≠ g1 ∧ (Value.slice a3 E.length c3).ownBlock ≠ some j := by
    intro j hj
    rcases HAt.out with e | e
    · rw [e] at hj
      obtain ⟨q1, q2, q3, q4⟩ := h.d2 j hj
      exact ⟨q1, q2, q3, q4, h.d23 j hj⟩
    · rw [e] at hj
      simp only [Option.some.injEq] at hj
      refine ⟨HDD.out j (by omega), by omega, by omega, by omega, fun q => ?_⟩
      have := (h.ends.lt j q).2
      omega
  have hfar : ∀ j, (Value.slice a2 L.length c2).ownBlock = some j → j ≠ p ∧ j ≠ g0 ∧ j ≠ g1 := fun j hj => (h.d2 j hj).2
  refine ⟨_, rfl, ⟨HB2.out.set_same 2 _, ?_, ?_, ?_, ?_, h.vl, h.ml, h.dp, h.dd, fun j hj => ?_, h.d3, fun j hj => ?_⟩, ?_⟩
  · exact (h.vals.kp HK2.out (fun q => (hfar _ q).2.1 rfl)).set_other (p := ⟨p, 2, none⟩) (fun e => h.dd.1 e.symm) _
  · exact (h.marks.kp HK2.out (fun q => (hfar _ q).2.2 rfl)).set_other (p := ⟨p, 2, none⟩) (fun e => h.dd.2.1 e.symm) _
  · have := HO3.out.set_other (p := ⟨p, 2, none⟩) (fun j hj => (hnew j hj).2.1) (Value.slice a' ((iv L).length + 1) c')
    rw [show iv (L ++ [x]) = iv L ++ [.int .i64 x] by simp [iv]]
    exact this
  · exact (h.ends.kp HK2.out (fun j hj q => h.d23 j q hj)).set_other (p := ⟨p, 2, none⟩) (fun j hj => (h.d3 j hj).2.1) _
  · obtain ⟨q1, q2, q3, q4, -⟩ := hnew j hj
    exact ⟨q1, q2, q3, q4⟩
  · exact (hnew j hj).2.2.2.2
  · have hd := h.dp
    refine ((HK.out.mono (T := D) (fun i _ q => by rcases q with rfl | rfl; exact hd.2.1; exact hd.2.2)).trans HK2.out (fun i hi q => (h.d2 i q).1)).setCell (p := ⟨p, 2, none⟩) (fun _ => hd.1) _

end

end Go.Proofs.YthconjhldjaldaaGreatDoor

/-
  The closures of circ.Net.
-/
namespace Go.Proofs.YthconjhldjaldaaGreatDoor
open Go.RowKit

section
variable {V : CV} {C : Circ} {w wr wr' w2 : World} {bn ba g m c : Nat} {s : NS} {v4 v' : Value}

end

end Go.Proofs.YthconjhldjaldaaGreatDoor

/-
  imply: a net's rules in memory; the clause of a gate; lit.Not.
-/
namespace Go.Proofs.YthconjhldjaldaaGreatDoor
open Go.RowKit

theorem nat_xor1 (n : Nat) : n ^^^ 1 = if n % 2 = 1 then n - 1 else n + 1 := by
  have x1 := Nat.xor_div_two (a := n) (b := 1)
  have x2 := Nat.xor_mod_two_pow (a := n) (b := 1) (n := 1)
  rw [show 1 / 2 = 0 from rfl, Nat.xor_zero] at x1
  have h : n % 2 = 0 ∨ n % 2 = 1 := by omega
  rcases h with h | h
  · rw [show 2 ^ 1 = 2 from rfl, h, show 0 ^^^ 1 % 2 = 1 from rfl] at x2
    rw [if_neg (by omega)]; omega
  · rw [show 2 ^ 1 = 2 from rfl, h, show 1 ^^^ 1 % 2 = 0 from rfl] at x2
    rw [if_pos h]; omega

theorem xor_one {x : Int} (h0 : 0 ≤ x) (h1 : x ≤ 1000000000) : bits .xor .i64 x 1 = ng x := by
  have e1 : (BitVec.ofInt 64 x).toNat = x.toNat := by rw [BitVec.toNat_ofInt]; omega
  have e2 : (BitVec.ofInt 64 1).toNat = 1 := by decide
  show IntKind.i64.wrap ((BitVec.ofInt 64 x ^^^ BitVec.ofInt 64 1).toNat : Nat) = _
  rw [BitVec.toNat_xor, e1, e2, nat_xor1, IntKind.wrap_i64]
  unfold ng
  split <;> split <;> omega

theorem lit_Not {x : Int} (hg : gl x = true) (w : World) : Calls Tryz.prog 20 #[.int .i64 x] w fun e w' => e = .returned (.int .i64 (ng x)) ∧ w = w' := by
  have h : 0 ≤ x ∧ x ≤ 33554433 := by simpa [gl] using hg
  have hx := xor_one h.1 (by omega)
  have HG := Lib.hid hg; clear hg h
  go_enter Tryz.func20, Tryz.ntmps20
  go_wp2_with (first | (go_at_call 50; refine (lit_Good _ _).mono ?_; rintro e w' ⟨rfl, rfl⟩; rw [HG.out]) | go_in)
  go_ret
  exact ⟨rfl, rfl⟩

/-- a net's rules at p: all they lie in is from lo on and below hi -/
structure RuAt (w : World) (lo hi p n : Nat) (na : Option Addr) (nc g : Nat) (R : Nat → Value) (N : List (Int × Int)) : Prop where
  blk : Blk w p #[.slice na n nc, .slice (some ⟨g, 0, none⟩) (n + 1) (n + 1)] 88
  net : RowAt w na (N.map pr2).flatten
  rows : RowsM w lo g (n + 1) R (fun v => fanK N v n)
  len : N.length = n
  lp : lo ≤ p ∧ p < hi
  ln : ∀ a, na = some a → lo ≤ a.block ∧ a.block < hi
  lg : g < hi
  lr : ∀ k, k < n + 1 → ∀ j, (R k).ownBlock = some j → j < hi

section
variable {w w' : World} {lo hi p n : Nat} {na : Option Addr} {nc g : Nat} {R : Nat → Value} {N : List (Int × Int)}

theorem RuAt.kpS {S : Nat → Prop} (h : RuAt w lo hi p n na nc g R N) (k : Kp S w w') (hS : ∀ j, S j → j < lo ∨ hi ≤ j) : RuAt w' lo hi p n na nc g R N := by
  refine ⟨h.blk.kp k (fun q => by have := h.lp; rcases hS _ q with e | e <;> omega), h.net.kp k (fun a ha q => by have := h.ln a ha; rcases hS _ q with e | e <;> omega), ⟨h.rows.blk.kp k (fun q => by have := h.lg; have := h.rows.lo; rcases hS _ q with e | e <;> omega), fun i hi => (h.rows.ow i hi).kp k (fun j hj q => by have := (h.rows.ow i hi).lt j hj; have := h.lr i hi j hj; rcases hS _ q with e | e <;> omega), h.rows.lo, h.rows.ne, h.rows.dis⟩, h.len, h.lp, h.ln, h.lg, h.lr⟩
theorem RuAt.kp (h : RuAt w lo hi p n na nc g R N) (k : Kp (fun _ => False) w w') : RuAt w' lo hi p n na nc g R N := h.kpS k (fun _ h => h.elim)

set_option maxHeartbeats 2000000 in
theorem clone_nodes (a : Option Addr) (n c : Nat) (rows : List (List Value)) (w : World) (hr : RowAt w a rows.flatten) (hn : rows.length = n) (hl : ∀ r ∈ rows, r.length = 2) (h1 : ∀ r ∈ rows, ∀ u ∈ r, u.oneCell' = true) (ho : SlOK a n c) (hm : n ≤ 1000000) :
    Calls Tryz.prog 57 #[.slice a n c] w fun e w' => ∃ v', e = .returned v' ∧ OwnK w' w.heap.size 43 2 v' rows ∧ Kp (fun _ => False) w w' := by
  cases a with
  | none =>
    have hL : rows = [] := by
      have h1 := ho.le
      have h2 := ho.nil rfl
      exact List.eq_nil_of_length_eq_zero (by omega)
    subst hL
    have q22 := fun (w : World) (a : Option Addr) (n c n' c' : Nat) => Lib.run_eql_slice_nil (P := Tryz.prog) w 22 43 a n c n' c' Tryz.underlying22
    clear hr ho hn hm hl h1
    go_enter Tryz.func57, Tryz.ntmps57
    go_wp2
    go_ret
    exact ⟨_, rfl, OwnK.nil _ _ _ _, Kp.refl _ _⟩
  | some ad =>
    have HR := Lib.hid hr
    have HN := Lib.hid (And.intro hn (And.intro hl h1))
    have hI : (Tryz.prog.info? 43).map (fun i => (i.zero, i.size, i.bytes)) = some (some (.agg #[.int .i64 0, .int .i64 0]), 2, 16) := by kernel_rfl
    have HI := Lib.hid hI
    have q22 := fun (w : World) (a : Option Addr) (n c n' c' : Nat) => Lib.run_eql_slice_nil (P := Tryz.prog) w 22 43 a n c n' c' Tryz.underlying22
    have HO := Lib.hid (show OwnK (w.alloc (.cells #[] 43)) w.heap.size 43 2 (.slice (some ⟨w.heap.size, 0, none⟩) 0 0) [] from OwnK.lit (rows := []) (Blk.new w #[] 43) (Nat.le_refl _) (fun r h => by cases h) (Nat.zero_le _))
    have HM := Lib.hid hm
    clear hr hn ho hI hm hl h1
    go_enter Tryz.func57, Tryz.ntmps57
    go_wp2_with (at_builtin; refine wpList_appendNewsK rfl _ _ 22 43 rfl Tryz.underlying22 HI.out rfl (by decide) HO.out rfl (some ad) n c rows rfl HN.out.1 (HR.out.kp ((Kp.refl (fun _ => False) w).alloc _) (fun _ _ h => h)) (fun h => by cases h) HN.out.2.1 HN.out.2.2 (by have := HM.out; simp; omega) (by have := HM.out; unfold maxLen; simp; omega) (by simp) ?_)
    intro v' w1 hown hgrow
    go_wp2
    go_ret
    exact ⟨v', rfl, by simpa using hown, ((Kp.refl (fun _ => False) w).alloc _).grown hgrow (fun j hj hlt => by simp [Value.ownBlock] at hj; omega)⟩

set_option maxRecDepth 100000 in
set_option maxHeartbeats 2000000 in
theorem imply_New (a : Option Addr) (n c : Nat) (N : List (Int × Int)) (w : World) (hr : RowAt w a (N.map pr2).flatten) (hn : N.length = n) (ho : SlOK a n c) (hm : n ≤ 900000) (hN : GoodN N) :
    Calls Tryz.prog 32 #[.slice a n c] w fun e w' => ∃ p na nc g R, e = .returned (.pointer (some ⟨p, 0, none⟩)) ∧ RuAt w' w.heap.size w'.heap.size p n na nc g R N ∧ Kp (fun _ => False) w w' := by
  have HC := Lib.hid (clone_nodes a n c (N.map pr2) w hr (by rw [List.length_map]; exact hn) (pr2_len N) (fun r h => by obtain ⟨x, _, rfl⟩ := List.mem_map.1 h; exact pr2_one x) ho (by omega))
  have HF := Lib.hid (fun u (hu : Kp (fun _ => False) w u) => cone_Fanouts a n c N u (hr.kp hu (fun _ _ h => h)) hn hm hN)
  have HL := Lib.hid hn
  clear hr hn ho hN
  go_enter Tryz.func32, Tryz.ntmps32
  go_wp2_with (first
    | (go_at_call 57; refine HC.out.mono ?_; rintro e w1 ⟨v1, rfl, hO, hK⟩; obtain ⟨na, nc, ev, -, -, -, hlt, hrow⟩ := hO.form; rw [List.length_map, HL.out] at ev; subst ev; have HF1 := Lib.hid (HF.out w1 hK); have HO := Lib.hid (And.intro hlt hrow); have HK1 := Lib.hid hK; clear hO hK hlt hrow)
    | (go_at_call 58; refine HF1.out.mono ?_; rintro e w2 ⟨g, R, rfl, hM, hK⟩))
  go_ret
  have hOl := HO.out.1
  have hk1 := HK1.out.size
  have hk2 := hK.size
  refine ⟨_, na, nc, g, R, rfl, ⟨Blk.new w2 _ _, ?_, ?_, HL.out, ⟨by omega, by simp⟩, fun ad hd => ?_, ?_, fun k hk j hj => ?_⟩, (HK1.out.trans hK (fun _ _ h => h)).alloc _⟩
  · exact (HO.out.2.kp hK (fun _ _ h => h)).kp ((Kp.refl (fun _ => False) w2).alloc _) (fun _ _ h => h)
  · have h := hM.kp ((Kp.refl (fun _ => False) w2).alloc (.cells #[.slice na n nc, .slice (some ⟨g, 0, none⟩) (n + 1) (n + 1)] 88))
    exact ⟨h.blk, fun k hk => (h.ow k hk).mono hk1, Nat.le_trans hk1 h.lo, h.ne, h.dis⟩
  · obtain ⟨q, rfl, q1, q2⟩ := hOl ad hd
    rw [World.size_alloc]
    exact ⟨q1, by show q < _; omega⟩
  · have := hM.blk.lt
    rw [World.size_alloc]
    omega
  · have := ((hM.ow k hk).lt j hj).2
    rw [World.size_alloc]
    omega

end

end Go.Proofs.YthconjhldjaldaaGreatDoor

/-
  imply: the clause of a gate; the literal of a clause that is left.
-/
namespace Go.Proofs.YthconjhldjaldaaGreatDoor
open Go.RowKit

section
variable {w w' : World} {lo hi p n : Nat} {na : Option Addr} {nc g : Nat} {R : Nat → Value} {N : List (Int × Int)}

/-- ints in memory of the call's own, just made -/
theorem own_new (w : World) (L : List Int) (hL : L.length ≤ 1000000) : Own (w.alloc (.cells (ints L) 3)) w.heap.size 3 (.slice (some ⟨w.heap.size, 0, none⟩) L.length L.length) (iv L) := by
  have := Own.lit (w := w.alloc (.cells (ints L) 3)) (base := w.heap.size) (g := w.heap.size) (e := 3) (cs := iv L) (Blk.new w (ints L) _) (Nat.le_refl _) (by rw [iv_length]; unfold maxLen; omega)
  rw [iv_length] at this
  exact this

theorem imply_clauses (u : World) : Calls Tryz.prog 76 #[] u fun e w' => e = .returned (.agg #[.func (.func 90) #[] #[], .func (.func 91) #[] #[], .func (.func 92) #[] #[]]) ∧ Kp (fun _ => False) u w' := by
  go_enter Tryz.func76, Tryz.ntmps76
  go_wp2_with fail
  exact bodyPost_ret (v := .agg #[.func (.func 90) #[] #[], .func (.func 91) #[] #[], .func (.func 92) #[] #[]]) (by simp [results, Tryz.results76, go_sem]) rfl ⟨rfl, (Kp.refl _ u).alloc _⟩

/-- one of three functions -/
def fn3 (k : Nat) : Value := if k = 0 then .func (.func 90) #[] #[] else if k = 1 then .func (.func 91) #[] #[] else .func (.func 92) #[] #[]
set_option maxRecDepth 100000 in
theorem fn3_at (u : World) (k : Nat) (hk : k < 3) : (Instr.index 100 (.agg #[.func (.func 90) #[] #[], .func (.func 91) #[] #[], .func (.func 92) #[] #[]]) (.int .i64 (k : Int))).run Tryz.prog u = .ok (fn3 k) u := by
  have h : k = 0 ∨ k = 1 ∨ k = 2 := by omega
  rcases h with rfl | rfl | rfl <;> rfl

theorem clauses_1 (u : World) (o a b : Int) (o1 : Int) (h : bits .xor .i64 o 1 = o1) : Calls Tryz.prog 90 #[.int .i64 o, .int .i64 a, .int .i64 b] u fun e w' => ∃ v, e = .returned v ∧ Own w' u.heap.size 3 v (iv [o1, a]) ∧ Kp (fun _ => False) u w' := by
  have HO := Lib.hid (own_new u [o1, a] (by simp))
  go_enter Tryz.func90, Tryz.ntmps90
  go_wp2_with fail
  go_ret
  exact ⟨_, rfl, HO.out, (Kp.refl _ u).alloc _⟩
theorem clauses_2 (u : World) (o a b : Int) (o1 : Int) (h : bits .xor .i64 o 1 = o1) : Calls Tryz.prog 91 #[.int .i64 o, .int .i64 a, .int .i64 b] u fun e w' => ∃ v, e = .returned v ∧ Own w' u.heap.size 3 v (iv [o1, b]) ∧ Kp (fun _ => False) u w' := by
  have HO := Lib.hid (own_new u [o1, b] (by simp))
  go_enter Tryz.func91, Tryz.ntmps91
  go_wp2_with fail
  go_ret
  exact ⟨_, rfl, HO.out, (Kp.refl _ u).alloc _⟩
theorem clauses_3 (u : World) (o a b : Int) (a1 b1 : Int) (h1 : bits .xor .i64 a 1 = a1) (h2 : bits .xor .i64 b 1 = b1) : Calls Tryz.prog 92 #[.int .i64 o, .int .i64 a, .int .i64 b] u fun e w' => ∃ v, e = .returned v ∧ Own w' u.heap.size 3 v (iv [o, a1, b1]) ∧ Kp (fun _ => False) u w' := by
  have HO := Lib.hid (own_new u [o, a1, b1] (by simp))
  go_enter Tryz.func92, Tryz.ntmps92
  go_wp2_with fail
  go_ret
  exact ⟨_, rfl, HO.out, (Kp.refl _ u).alloc _⟩

set_option maxRecDepth 100000 in
set_option maxHeartbeats 4000000 in
theorem rules_Clause (h : RuAt w lo hi p n na nc g R N) (hN : GoodN N) (hn : n ≤ 900000) {j k : Nat} (hj : j < n) (h0 : 0 ≤ (g2 N j).1) (hk : k < 3) :
    Calls Tryz.prog 63 #[.pointer (some ⟨p, 0, none⟩), .int .i64 (3 * ((j : Int) + 1) + k)] w fun e w' => ∃ v, e = .returned v ∧ Own w' w.heap.size 3 v (iv (gcl (2 * (j : Int) + 2) (g2 N j).1 (g2 N j).2 k)) ∧ Kp (fun _ => False) w w' := by
  have hg := (hN j (by rw [h.len]; exact hj)).resolve_left (by omega)
  obtain ⟨b, off, ea, e0, e1⟩ := pr2_cells h.net (by rw [h.len]; exact hj)
  obtain ⟨x1, hx1⟩ : ∃ x, (g2 N j).1 = x := ⟨_, rfl⟩
  obtain ⟨x2, hx2⟩ : ∃ x, (g2 N j).2 = x := ⟨_, rfl⟩
  rw [hx1] at e0 hg h0 ⊢
  rw [hx2] at e1 hg ⊢
  subst ea
  have c0 : w.cell? ⟨p, 0, none⟩ = some (.slice (some ⟨b, off, none⟩) n nc) := h.blk.cell (i := 0) rfl
  obtain ⟨y, hy⟩ : ∃ y : Int, 3 * ((j : Int) + 1) + k = y := ⟨_, rfl⟩
  rw [hy]
  have y3 : decide (y < 3) = false := by simp; omega
  have yd : y.tdiv 3 = (j : Int) + 1 := by rw [Int.tdiv_eq_ediv_of_nonneg (by omega)]; omega
  have yd2 : y / 3 = (j : Int) + 1 := by omega
  have ym : y.tmod 3 = (k : Int) := by rw [Int.tmod_eq_emod_of_nonneg (by omega)]; omega
  have ym2 : y % 3 = (k : Int) := by omega
  have yn : decide ((n : Int) < (j : Int) + 1) = false := by simp; omega
  have yw : IntKind.i64.wrap ((j : Int) + 1) = (j : Int) + 1 := by rw [IntKind.wrap_i64]; omega
  have ym3 : IntKind.i64.wrap (k : Int) = (k : Int) := by rw [IntKind.wrap_i64]; omega
  have ys : IntKind.i64.wrap ((j : Int) + 1 - 1) = (j : Int) := by rw [IntKind.wrap_i64]; omega
  have yo : IntKind.i64.wrap (((j : Int) + 1) * 2) = 2 * (j : Int) + 2 := by rw [IntKind.wrap_i64]; omega
  have j0 : (0 : Int) ≤ (j : Int) := by omega
  have j1 : (j : Int) < (n : Int) := by omega
  have yx : decide (x1 < 0) = false := by simp; omega
  have xo : bits .xor .i64 (2 * (j : Int) + 2) 1 = 2 * (j : Int) + 2 + 1 := by rw [xor_one (by omega) (by omega)]; unfold ng; rw [if_neg (by omega)]
  have xa : bits .xor .i64 x1 1 = ng x1 := xor_one (by omega) (by omega)
  have xb : bits .xor .i64 x2 1 = ng x2 := xor_one (by omega) (by omega)
  obtain ⟨o, ho⟩ : ∃ o : Int, 2 * (j : Int) + 2 = o := ⟨_, rfl⟩
  rw [ho] at yo xo ⊢
  have HOwn := Lib.hid (fun (u : World) (L : List Int) (hL : L.length ≤ 1000000) (hu : Kp (fun _ => False) w u) => And.intro ((own_new u L hL).mono hu.size) (hu.alloc (.cells (ints L) 3)))
  have HBx := Lib.hid (show Blk (w.alloc (.cells #[.int .i64 x1, .int .i64 x2] 43)) w.heap.size #[.int .i64 x1, .int .i64 x2] 43 from Blk.new _ _ _)
  clear h hN hx1 hx2 hy hg ho
  go_enter Tryz.func63, Tryz.ntmps63
  go_upto_region 4 with fail
  obtain ⟨wq, hwq⟩ : ∃ wq : World, wq = w.alloc (.cells #[.int .i64 x1, .int .i64 x2] 43) := ⟨_, rfl⟩
  rw [← hwq] at HBx ⊢
  have HKq := Lib.hid (show Kp (fun _ => False) w wq by rw [hwq]; exact (Kp.refl _ w).alloc _)
  have HCl := Lib.hid (fun u => imply_clauses u)
  have H1 := Lib.hid (fun u => clauses_1 u o x1 x2 (o + 1) xo)
  have H2 := Lib.hid (fun u => clauses_2 u o x1 x2 (o + 1) xo)
  have H3 := Lib.hid (fun u => clauses_3 u o x1 x2 (ng x1) (ng x2) xa xb)
  have HBk := Lib.hid (fun u (hu : Kp (fun _ => False) wq u) => show u.cell? ⟨w.heap.size, 0, none⟩ = some (.int .i64 x1) ∧ u.cell? ⟨w.heap.size, 1, none⟩ = some (.int .i64 x2) from ⟨(HBx.out.kp hu (fun h => h)).cell rfl, (HBx.out.kp hu (fun h => h)).cell rfl⟩)
  obtain ⟨z0, z1⟩ := HBk.out wq (Kp.refl _ _)
  clear hwq HOwn xo xa xb
  have hk3 : k = 0 ∨ k = 1 ∨ k = 2 := by omega
  go_cut [4] from 44 to 55 (fun s4 wx => Own wx w.heap.size 3 s4 (iv (gcl o x1 x2 k)) ∧ Kp (fun _ => False) w wx)
  case first =>
    rcases hk3 with rfl | rfl | rfl
    · have hix : ∀ u : World, (Instr.index 100 (.agg #[.func (.func 90) #[] #[], .func (.func 91) #[] #[], .func (.func 92) #[] #[]]) (.int .i64 0)).run Tryz.prog u = .ok (.func (.func 90) #[] #[]) u := fun u => fn3_at u 0 (by decide)
      go_region_held3 (fun u => u.cell? ⟨w.heap.size, 0, none⟩ = some (.int .i64 x1) ∧ u.cell? ⟨w.heap.size, 1, none⟩ = some (.int .i64 x2)) (exact HBk.out _ (by repeat (with_reducible first | exact Kp.refl _ _ | exact HKc.out | exact HKd.out | apply Kp.drew)))
        ((first
          | ((with_reducible refine Calls.mono (HCl.out _) ?_)
             rintro e wc ⟨rfl, hkc⟩
             have HKc := Lib.hid (show Kp (fun _ => False) wq wc from Kp.trans (by repeat (with_reducible first | exact Kp.refl _ _ | apply Kp.drew)) hkc (fun _ _ h => h))
             clear hkc)
          | ((with_reducible refine Calls.mono (H1.out _) ?_)
             rintro e wd ⟨v, rfl, hO, hkd⟩
             have HO := Lib.hid hO
             have HKd := Lib.hid (show Kp (fun _ => False) wq wd from Kp.trans (by repeat (with_reducible first | exact Kp.refl _ _ | exact HKc.out | apply Kp.drew)) hkd (fun _ _ h => h))
             clear hO hkd)))
      all_goals go_wp2_with fail
      all_goals go_meet
      all_goals exact ⟨HO.out.mono (Nat.le_trans HKq.out.size HKc.out.size), HKq.out.trans (by repeat (with_reducible first | exact HKd.out | apply Kp.drew)) (fun _ _ h => h)⟩
    · have hix : ∀ u : World, (Instr.index 100 (.agg #[.func (.func 90) #[] #[], .func (.func 91) #[] #[], .func (.func 92) #[] #[]]) (.int .i64 1)).run Tryz.prog u = .ok (.func (.func 91) #[] #[]) u := fun u => fn3_at u 1 (by decide)
      go_region_held3 (fun u => u.cell? ⟨w.heap.size, 0, none⟩ = some (.int .i64 x1) ∧ u.cell? ⟨w.heap.size, 1, none⟩ = some (.int .i64 x2)) (exact HBk.out _ (by repeat (with_reducible first | exact Kp.refl _ _ | exact HKc.out | exact HKd.out | apply Kp.drew)))
        ((first
          | ((with_reducible refine Calls.mono (HCl.out _) ?_)
             rintro e wc ⟨rfl, hkc⟩
             have HKc := Lib.hid (show Kp (fun _ => False) wq wc from Kp.trans (by repeat (with_reducible first | exact Kp.refl _ _ | apply Kp.drew)) hkc (fun _ _ h => h))
             clear hkc)
          | ((with_reducible refine Calls.mono (H2.out _) ?_)
             rintro e wd ⟨v, rfl, hO, hkd⟩
             have HO := Lib.hid hO
             have HKd := Lib.hid (show Kp (fun _ => False) wq wd from Kp.trans (by repeat (with_reducible first | exact Kp.refl _ _ | exact HKc.out | apply Kp.drew)) hkd (fun _ _ h => h))
             clear hO hkd)))
      all_goals go_wp2_with fail
      all_goals go_meet
      all_goals exact ⟨HO.out.mono (Nat.le_trans HKq.out.size HKc.out.size), HKq.out.trans (by repeat (with_reducible first | exact HKd.out | apply Kp.drew)) (fun _ _ h => h)⟩
    · have hix : ∀ u : World, (Instr.index 100 (.agg #[.func (.func 90) #[] #[], .func (.func 91) #[] #[], .func (.func 92) #[] #[]]) (.int .i64 2)).run Tryz.prog u = .ok (.func (.func 92) #[] #[]) u := fun u => fn3_at u 2 (by decide)
      go_region_held3 (fun u => u.cell? ⟨w.heap.size, 0, none⟩ = some (.int .i64 x1) ∧ u.cell? ⟨w.heap.size, 1, none⟩ = some (.int .i64 x2)) (exact HBk.out _ (by repeat (with_reducible first | exact Kp.refl _ _ | exact HKc.out | exact HKd.out | apply Kp.drew)))
        ((first
          | ((with_reducible refine Calls.mono (HCl.out _) ?_)
             rintro e wc ⟨rfl, hkc⟩
             have HKc := Lib.hid (show Kp (fun _ => False) wq wc from Kp.trans (by repeat (with_reducible first | exact Kp.refl _ _ | apply Kp.drew)) hkc (fun _ _ h => h))
             clear hkc)
          | ((with_reducible refine Calls.mono (H3.out _) ?_)
             rintro e wd ⟨v, rfl, hO, hkd⟩
             have HO := Lib.hid hO
             have HKd := Lib.hid (show Kp (fun _ => False) wq wd from Kp.trans (by repeat (with_reducible first | exact Kp.refl _ _ | exact HKc.out | apply Kp.drew)) hkd (fun _ _ h => h))
             clear hO hkd)))
      all_goals go_wp2_with fail
      all_goals go_meet
      all_goals exact ⟨HO.out.mono (Nat.le_trans HKq.out.size HKc.out.size), HKq.out.trans (by repeat (with_reducible first | exact HKd.out | apply Kp.drew)) (fun _ _ h => h)⟩
  case rest =>
    obtain ⟨hO, hK⟩ := hcut
    go_wp2_with fail
    go_ret
    exact ⟨_, rfl, hO, hK⟩

end

end Go.Proofs.YthconjhldjaldaaGreatDoor

/-
  imply.left: the literal of a clause that is left.
-/
namespace Go.Proofs.YthconjhldjaldaaGreatDoor
open Go.RowKit

/-- what is told of a clause -/
def LeftP (V c : List Int) (e : Ending) : Prop :=
  (AllNo V c ∧ e = .returned (.tuple #[.int .i64 0, .bool false, .bool true])) ∨ (∃ l, OneL V c l ∧ e = .returned (.tuple #[.int .i64 l, .bool true, .bool false])) ∨ (Done V c ∧ e = .returned (.tuple #[.int .i64 0, .bool false, .bool false]))

/-- what the first k literals of a clause have left -/
def LeftS (V c : List Int) (k : Nat) (l : Int) (u : Bool) : Prop :=
  (u = false ∧ l = 0 ∧ ∀ i, i < k → vlit V (gi c i) = 0) ∨ (u = true ∧ (∃ i, i < k ∧ gi c i = l) ∧ vlit V l = 2 ∧ ∀ i, i < k → gi c i ≠ l → vlit V (gi c i) = 0)

theorem gi_mem {c : List Int} {i : Nat} (h : i < c.length) : gi c i ∈ c := by
  unfold gi; rw [List.getElem?_eq_getElem h]; exact List.getElem_mem h
theorem mem_gi {c : List Int} {x : Int} (h : x ∈ c) : ∃ i, i < c.length ∧ gi c i = x := by
  obtain ⟨i, hi, e⟩ := List.mem_iff_getElem.1 h
  exact ⟨i, hi, by unfold gi; rw [List.getElem?_eq_getElem hi, ← e]; rfl⟩

theorem LeftS.fin {V c : List Int} {l : Int} {u : Bool} (h : LeftS V c c.length l u) : LeftP V c (.returned (.tuple #[.int .i64 l, .bool u, .bool !u])) := by
  rcases h with ⟨rfl, rfl, h⟩ | ⟨rfl, ⟨i, hi, rfl⟩, h2, h⟩
  · exact .inl ⟨fun x hx => by obtain ⟨i, hi, rfl⟩ := mem_gi hx; exact h i hi, rfl⟩
  · exact .inr (.inl ⟨_, ⟨gi_mem hi, h2, fun x hx hn => by obtain ⟨j, hj, rfl⟩ := mem_gi hx; exact h j hj hn⟩, rfl⟩)
theorem LeftS.zero {V c : List Int} {k : Nat} {l : Int} {u : Bool} (h : LeftS V c k l u) (hz : vlit V (gi c k) = 0) : LeftS V c (k + 1) l u := by
  rcases h with ⟨h1, h2, h⟩ | ⟨h1, ⟨i, hi, e⟩, h2, h⟩
  · exact .inl ⟨h1, h2, fun i hi => by by_cases q : i = k; rw [q]; exact hz; exact h i (by omega)⟩
  · exact .inr ⟨h1, ⟨i, by omega, e⟩, h2, fun i hi hn => by by_cases q : i = k; rw [q]; exact hz; exact h i (by omega) hn⟩
theorem LeftS.free {V c : List Int} {k : Nat} {l : Int} {u : Bool} (h : LeftS V c k l u) (hf : vlit V (gi c k) = 2) (hn : u = true → gi c k = l) : LeftS V c (k + 1) (gi c k) true := by
  rcases h with ⟨h1, h2, h⟩ | ⟨h1, ⟨i, hi, e⟩, h2, h⟩
  · exact .inr ⟨rfl, ⟨k, by omega, rfl⟩, hf, fun i hi hx => by by_cases q : i = k; rw [q] at hx; exact absurd rfl hx; exact h i (by omega)⟩
  · have e2 := hn h1
    exact .inr ⟨rfl, ⟨k, by omega, rfl⟩, hf, fun i hi hx => by by_cases q : i = k; rw [q] at hx; exact absurd rfl hx; exact h i (by omega) (by rw [← e2]; exact hx)⟩

set_option maxRecDepth 100000 in
set_option maxHeartbeats 4000000 in
theorem imply_left {w : World} {D : Nat → Prop} {p g0 g1 n : Nat} {v2 v3 : Value} {V : List Int} {M : List (Int × Int × Int)} {L E : List Int} (h : TrAt w D p g0 g1 n v2 v3 V M L E) (hV : TV n V) (hn : n ≤ 900000)
    (a : Option Addr) (m cc : Nat) (c : List Int) (hr : RowAt w a (iv c)) (hm : c.length = m) (hm2 : m ≤ 1000000) (hc : KnC n c) :
    Calls Tryz.prog 62 #[.pointer (some ⟨p, 0, none⟩), .slice a m cc] w fun e w' => LeftP V c e ∧ w = w' := by
  have HVal := Lib.hid (fun x hx => trail_Value h hV (by omega) (x := x) hx)
  have HR := Lib.hid hr
  have HC := Lib.hid hc
  have HL := Lib.hid hm
  have HV := Lib.hid hV
  clear h hV hr hm hc
  go_enter Tryz.func62, Tryz.ntmps62
  go_wp2_with fail
  go_loop [4, 5, 12] (fun v4 v5 v12 => ∃ (k : Nat) (l : Int) (u : Bool), k ≤ m ∧ v12 = .int .i64 k ∧ v4 = .int .i64 l ∧ v5 = .bool u ∧ LeftS V c k l u) (fun _ _ v12 => m - (intOf v12).toNat)
  case atStart => exact ⟨0, 0, false, Nat.zero_le _, rfl, rfl, rfl, .inl ⟨rfl, rfl, fun i hi => absurd hi (Nat.not_lt_zero i)⟩⟩
  case round =>
    obtain ⟨k, l, u, hk, rfl, rfl, rfl, hS⟩ := hrel
    have HS := Lib.hid hS
    clear hS
    by_cases hlt : k < m
    · have hkl : k < c.length := by rw [HL.out]; exact hlt
      obtain ⟨b, off, rfl, hcell⟩ := HR.out k _ (iv_at hkl)
      have hx := HC.out _ (gi_mem hkl)
      have HVx := Lib.hid (HVal.out _ hx)
      have hy := HV.out.vlit hx
      have HZ := Lib.hid (fun e => HS.out.zero e)
      have HF := Lib.hid (fun e q => HS.out.free e q)
      have HD1 := Lib.hid (fun (e : vlit V (gi c k) = 1) => show Done V c from .inl ⟨_, gi_mem hkl, e⟩)
      have HD2 := Lib.hid (fun (e : vlit V (gi c k) = 2) (hu : u = true) (hn : gi c k ≠ l) => show Done V c from by
        rcases HS.out with ⟨q, _⟩ | ⟨_, ⟨i, hi, e2⟩, h2, _⟩
        · rw [q] at hu; cases hu
        · exact .inr ⟨gi c k, gi_mem hkl, l, by rw [← e2]; exact gi_mem (by omega), hn, e, h2⟩)
      obtain ⟨x, hxx⟩ : ∃ x, gi c k = x := ⟨_, rfl⟩
      simp only [hxx] at hcell HVx hy HZ HF HD1 HD2 hx
      obtain ⟨y, hyy⟩ : ∃ y, vlit V x = y := ⟨_, rfl⟩
      simp only [hyy] at HVx hy HZ HF HD1 HD2
      have i0 : (0 : Int) ≤ (k : Int) := by omega
      have i1 : (k : Int) < (m : Int) := by omega
      clear hx hxx hyy hkl HS
      rcases hy with rfl | rfl | rfl
      · have HZ1 := Lib.hid (HZ.out rfl)
        clear HZ HF HD1 HD2
        go_wp2_with (go_at_call 60; refine HVx.out.mono ?_; rintro e w' ⟨rfl, rfl⟩)
        go_round
        case rel => exact ⟨k + 1, l, u, hlt, by go_num, rfl, rfl, HZ1.out⟩
        case measure => simp [intOf]; omega
      · have HD := Lib.hid (HD1.out rfl)
        clear HZ HF HD1 HD2
        go_wp2_with (go_at_call 60; refine HVx.out.mono ?_; rintro e w' ⟨rfl, rfl⟩)
        exact bodyPost_ret (v := .tuple #[.int .i64 0, .bool false, .bool false]) (by simp [results, Tryz.results62, go_sem]) rfl ⟨.inr (.inr ⟨HD.out, rfl⟩), rfl⟩
      · cases u with
        | false =>
          have HF1 := Lib.hid (HF.out rfl (fun q => by cases q))
          clear HZ HF HD1 HD2
          go_wp2_with (go_at_call 60; refine HVx.out.mono ?_; rintro e w' ⟨rfl, rfl⟩)
          go_round
          case rel => exact ⟨k + 1, x, true, hlt, by go_num, rfl, rfl, HF1.out⟩
          case measure => simp [intOf]; omega
        | true =>
          by_cases hne : x = l
          · have HF1 := Lib.hid (HF.out rfl (fun _ => hne))
            have b1 : (x == l) = true := by simp [hne]
            have b2 : (x != l) = false := by simp [hne]
            clear HZ HF HD1 HD2 hne
            go_wp2_with (go_at_call 60; refine HVx.out.mono ?_; rintro e w' ⟨rfl, rfl⟩)
            go_round
            case rel => exact ⟨k + 1, x, true, hlt, by go_num, rfl, rfl, HF1.out⟩
            case measure => simp [intOf]; omega
          · have HD := Lib.hid (HD2.out rfl rfl hne)
            have b1 : (x == l) = false := by simp [hne]
            have b2 : (x != l) = true := by simp [hne]
            clear HZ HF HD1 HD2 hne
            go_wp2_with (go_at_call 60; refine HVx.out.mono ?_; rintro e w' ⟨rfl, rfl⟩)
            exact bodyPost_ret (v := .tuple #[.int .i64 0, .bool false, .bool false]) (by simp [results, Tryz.results62, go_sem]) rfl ⟨.inr (.inr ⟨HD.out, rfl⟩), rfl⟩
    · have hk' : k = m := by omega
      subst hk'
      have HE := Lib.hid (show LeftS V c c.length l u by rw [HL.out]; exact HS.out)
      clear HS
      have hno : decide ((k : Int) < (k : Int)) = false := by simp
      go_wp2_with fail
      exact bodyPost_ret (v := .tuple #[.int .i64 l, .bool u, .bool !u]) (by simp [results, Tryz.results62, go_sem]) rfl ⟨HE.out.fin, rfl⟩

end Go.Proofs.YthconjhldjaldaaGreatDoor

/-
  imply: a gate's clauses are looked at.
-/
namespace Go.Proofs.YthconjhldjaldaaGreatDoor
open Go.RowKit

theorem LeftP.zero {V c : List Int} {e : Ending} (h : LeftP V c e) (hz : AllNo V c) : e = .returned (.tuple #[.int .i64 0, .bool false, .bool true]) := by
  rcases h with ⟨_, h⟩ | ⟨l, ⟨h1, h2, _⟩, _⟩ | ⟨hd, _⟩
  · exact h
  · have := hz l h1; rw [h2] at this; exact absurd this (by decide)
  · rcases hd with ⟨x, hx, e⟩ | ⟨x, hx, _, _, _, e, _⟩
    · have := hz x hx; rw [e] at this; exact absurd this (by decide)
    · have := hz x hx; rw [e] at this; exact absurd this (by decide)
theorem OneL.not_done {V c : List Int} {l : Int} (h : OneL V c l) (hd : Done V c) : False := by
  obtain ⟨h1, h2, h3⟩ := h
  rcases hd with ⟨x, hx, e⟩ | ⟨x, hx, y, hy, hn, e1, e2⟩
  · by_cases q : x = l
    · rw [q, h2] at e; exact absurd e (by decide)
    · rw [h3 x hx q] at e; exact absurd e (by decide)
  · by_cases q : x = l
    · have : y ≠ l := fun q2 => hn (q.trans q2.symm)
      rw [h3 y hy this] at e2; exact absurd e2 (by decide)
    · rw [h3 x hx q] at e1; exact absurd e1 (by decide)
theorem LeftP.one {V c : List Int} {e : Ending} {l : Int} (h : LeftP V c e) (ho : OneL V c l) : e = .returned (.tuple #[.int .i64 l, .bool true, .bool false]) := by
  rcases h with ⟨hz, _⟩ | ⟨m, hm, h⟩ | ⟨hd, _⟩
  · have := hz l ho.1; rw [ho.2.1] at this; exact absurd this (by decide)
  · rw [ho.uniq hm]; exact h
  · exact (ho.not_done hd).elim
theorem LeftP.done {V c : List Int} {e : Ending} (h : LeftP V c e) (hd : Done V c) : e = .returned (.tuple #[.int .i64 0, .bool false, .bool false]) := by
  rcases h with ⟨hz, _⟩ | ⟨m, hm, _⟩ | ⟨_, h⟩
  · rcases hd with ⟨x, hx, e⟩ | ⟨x, hx, _, _, _, e, _⟩
    · have := hz x hx; rw [e] at this; exact absurd this (by decide)
    · have := hz x hx; rw [e] at this; exact absurd this (by decide)
  · exact (hm.not_done hd).elim
  · exact h

/-- the clauses of gate j -/
def gclN (N : List (Int × Int)) (j k : Nat) : List Int := gcl (2 * (j : Int) + 2) (g2 N j).1 (g2 N j).2 k

/-- a trail in memory that goes on: what is so of it, as far as it hangs on what was set -/
structure TrS (w : World) (D : Nat → Prop) (p g0 g1 n : Nat) (v3 : Value) (E : List Int) (I : List Int → List (Int × Int × Int) → List Int → Prop) (V : List Int) (M : List (Int × Int × Int)) (L : List Int) : Prop where
  tr : ∃ v2, TrAt w D p g0 g1 n v2 v3 V M L E
  ok : TrOK n V L
  inv : I V M L

/-- an invariant that goes on where a gate's clause says a literal -/
def InvG (n : Nat) (N : List (Int × Int)) (E : List Int) (I : List Int → List (Int × Int × Int) → List Int → Prop) : Prop :=
  ∀ (V : List Int) (M : List (Int × Int × Int)) (L : List Int) (j k : Nat) (l : Int), j < n → 0 ≤ (g2 N j).1 → k < 3 → TrOK n V L → I V M L → OneL V (gclN N j k) l → I (vset V l) (M.set (l / 2).toNat ((E.length : Int), 3 * ((j : Int) + 1) + k, (L.length : Int))) (L ++ [l])

/-- what looking at a gate leaves -/
def GateP (w : World) (D : Nat → Prop) (p g0 g1 n : Nat) (v3 : Value) (E : List Int) (I : List Int → List (Int × Int × Int) → List Int → Prop) (N : List (Int × Int)) (V : List Int) (L : List Int) (j : Nat) (e : Ending) (w' : World) : Prop :=
  ∃ V' M' L', TrS w' D p g0 g1 n v3 E I V' M' L' ∧ Ext n V L V' L' ∧ Kp D w w' ∧
    ((e = .returned (.int .i64 (-1)) ∧ ∀ k, k < 3 → Look V' L' L.length (gclN N j k)) ∨ ∃ k : Nat, k < 3 ∧ e = .returned (.int .i64 (3 * ((j : Int) + 1) + k)) ∧ AllNo V' (gclN N j k))

set_option maxRecDepth 100000 in
set_option maxHeartbeats 8000000 in
theorem rules_gate {w : World} {D : Nat → Prop} {lo hi pr p g0 g1 n : Nat} {na : Option Addr} {nc g : Nat} {R : Nat → Value} {N : List (Int × Int)} {v3 : Value} {E : List Int} {I : List Int → List (Int × Int × Int) → List Int → Prop} {V : List Int} {M : List (Int × Int × Int)} {L : List Int}
    (hRu : RuAt w lo hi pr n na nc g R N) (hTr : TrS w D p g0 g1 n v3 E I V M L) (hN : GoodN N) (hn : n ≤ 900000) (hI : InvG n N E I) (hD : ∀ j, w.heap.size ≤ j → D j) (hDl : ∀ j, D j → j < lo ∨ hi ≤ j) {j : Nat} (hj : j < n) (h0 : 0 ≤ (g2 N j).1) :
    Calls Tryz.prog 35 #[.pointer (some ⟨pr, 0, none⟩), .pointer (some ⟨p, 0, none⟩), .int .i64 ((j : Int) + 1)] w (GateP w D p g0 g1 n v3 E I N V L j) := by
  have hNl := hRu.len
  have HKn := Lib.hid (fun k => show KnC n (gclN N j k) from hNl ▸ gcl_kn hN (by rw [hNl]; exact hj) h0 k)
  have HTr := Lib.hid hTr
  have HDD := Lib.hid hD
  have HII := Lib.hid (fun V M L k l => hI V M L j k l hj h0)
  have HCl := Lib.hid (fun (u : World) (hu : Kp D w u) (k : Nat) (hk : k < 3) => rules_Clause (hRu.kpS hu hDl) hN hn hj h0 hk)
  clear hRu hTr hN hI hD hDl hNl
  obtain ⟨v, hv⟩ : ∃ v : Int, (j : Int) + 1 = v := ⟨_, rfl⟩
  obtain ⟨v1, hv1⟩ : ∃ v1 : Int, 3 * ((j : Int) + 1) = v1 := ⟨_, rfl⟩
  have HV1 := Lib.hid hv1
  have hv9 : 0 ≤ v1 ∧ v1 ≤ 10000000 := by omega
  simp only [hv1] at HCl HII
  have vw : IntKind.i64.wrap (3 * v) = v1 := by rw [IntKind.wrap_i64]; omega
  rw [hv]
  clear hv hv1 h0
  go_enter Tryz.func35, Tryz.ntmps35
  go_wp2_with fail
  go_loopw [11] (fun v11 wr => ∃ (k : Nat) (V' : List Int) (M' : List (Int × Int × Int)) (L' : List Int), k ≤ 3 ∧ v11 = .int .i64 k ∧ TrS wr D p g0 g1 n v3 E I V' M' L' ∧ Ext n V L V' L' ∧ Kp D w wr ∧ ∀ k', k' < k → Look V' L' L.length (gclN N j k')) (fun v11 _ => 3 - (intOf v11).toNat)
  case atStart => exact ⟨0, V, M, L, by omega, rfl, HTr.out, Ext.refl _ _ _, Kp.refl _ _, fun k hk => absurd hk (Nat.not_lt_zero k)⟩
  case round =>
    clear HTr
    obtain ⟨k, V', M', L', hk, rfl, hS, hE, hK, hLk⟩ := hrel
    have HS := Lib.hid hS
    have HE := Lib.hid hE
    have HK := Lib.hid hK
    have HLk := Lib.hid hLk
    clear hS hE hK hLk
    obtain ⟨wp, rfl⟩ : ∃ wp : World, wp = wr := ⟨_, rfl⟩
    by_cases hlt : k < 3
    · have d3 : decide ((k : Int) < 3) = true := by simp; omega
      have vk : IntKind.i64.wrap (v1 + (k : Int)) = v1 + (k : Int) := by rw [IntKind.wrap_i64]; omega
      have HC1 := Lib.hid (HCl.out wp HK.out k hlt)
      obtain ⟨v2, hT⟩ := HS.out.tr
      have HT := Lib.hid hT
      have hkn := HKn.out k
      have hlen : (gclN N j k).length ≤ 1000000 := by unfold gclN gcl; split <;> (try split) <;> simp
      have HLf := Lib.hid (fun (u : World) (hu : Kp (fun _ => False) wp u) (a : Option Addr) (cc : Nat) (hr : RowAt u a (iv (gclN N j k))) => imply_left (hT.kp hu) HS.out.ok.tv hn a _ cc (gclN N j k) hr rfl hlen hkn)
      clear hT
      rcases clause_ways HS.out.ok.tv hkn with hz | ⟨l, hl⟩ | hd
      · have HLz := Lib.hid (fun u hu a cc hr => (HLf.out u hu a cc hr).mono (R' := fun e w' => e = .returned (.tuple #[.int .i64 0, .bool false, .bool true]) ∧ u = w') fun e w' h => ⟨h.1.zero hz, h.2⟩)
        have HAN := Lib.hid hz
        clear HLf hz hlen hkn
        go_wp2_with (first
          | (go_at_call 63; refine HC1.out.mono ?_; rintro e w1 ⟨cv, rfl, hO, hK1⟩; obtain ⟨ca, cc, ec, -, -, -, hrow⟩ := hO.form; rw [iv_length] at ec; subst ec; have HLz1 := Lib.hid (HLz.out w1 hK1 ca cc hrow); have HK1 := Lib.hid hK1; clear hO hK1 hrow)
          | (go_at_call 62; refine HLz1.out.mono ?_; rintro e w2 ⟨rfl, rfl⟩))
        go_ret
        exact ⟨V', M', L', ⟨⟨_, HT.out.kp HK1.out⟩, HS.out.ok, HS.out.inv⟩, HE.out, HK.out.trans HK1.out (fun _ _ h => h.elim), .inr ⟨k, hlt, by rw [HV1.out]; rfl, HAN.out⟩⟩
      · have HLz := Lib.hid (fun u hu a cc hr => (HLf.out u hu a cc hr).mono (R' := fun e w' => e = .returned (.tuple #[.int .i64 l, .bool true, .bool false]) ∧ u = w') fun e w' h => ⟨h.1.one hl, h.2⟩)
        have HOn := Lib.hid hl
        have hlk := hkn l hl.1
        have HStt := Lib.hid (fun (u : World) (hu : Kp (fun _ => False) wp u) => trail_Set_free (HT.out.kp hu) (fun j hj => HDD.out j (Nat.le_trans HK.out.size (Nat.le_trans hu.size hj))) HS.out.ok.tv hn hlk (v1 + (k : Int)) hl.2.1 HS.out.ok.len)
        have HEx := Lib.hid (show Ext n V' L' (vset V' l) (L' ++ [l]) from Ext.set HS.out.ok.tv hlk hl.2.1)
        have HOk := Lib.hid (HS.out.ok.set hlk hl.2.1)
        have HIn := Lib.hid (HII.out V' M' L' k l hlt HS.out.ok HS.out.inv hl)
        have HOne := Lib.hid (show vlit (vset V' l) l = 1 by rw [vlit_set HS.out.ok.tv hlk hlk, if_pos rfl])
        clear HLf hl hlen hkn hlk
        go_wp2_with (first
          | (go_at_call 63; refine HC1.out.mono ?_; rintro e w1 ⟨cv, rfl, hO, hK1⟩; obtain ⟨ca, cc, ec, -, -, -, hrow⟩ := hO.form; rw [iv_length] at ec; subst ec; have HLz1 := Lib.hid (HLz.out w1 hK1 ca cc hrow); have HStt1 := Lib.hid (HStt.out w1 hK1); have HK1 := Lib.hid hK1; clear hO hK1 hrow)
          | (go_at_call 62; refine HLz1.out.mono ?_; rintro e w2 ⟨rfl, rfl⟩)
          | (go_at_call 34; refine HStt1.out.mono ?_; rintro e w3 ⟨v2', rfl, hT3, hK3⟩; have HT3 := Lib.hid hT3; have HK3 := Lib.hid hK3; clear hT3 hK3))
        go_roundw
        case rel =>
          refine ⟨k + 1, _, _, _, hlt, by go_num, ⟨⟨_, HT3.out⟩, HOk.out, HIn.out⟩, HE.out.trans HEx.out, (HK.out.trans HK1.out (fun _ _ h => h.elim)).trans HK3.out (fun _ _ h => h), fun k' hk' => ?_⟩
          by_cases q : k' = k
          · rw [q]; exact .inl (.inl ⟨l, HOn.out.1, HOne.out⟩)
          · exact (HLk.out k' (by omega)).ext (HKn.out k') HEx.out HE.out.len
        case measure => simp [intOf]; omega
      · have HLz := Lib.hid (fun u hu a cc hr => (HLf.out u hu a cc hr).mono (R' := fun e w' => e = .returned (.tuple #[.int .i64 0, .bool false, .bool false]) ∧ u = w') fun e w' h => ⟨h.1.done hd, h.2⟩)
        have HDn := Lib.hid hd
        clear HLf hd hlen hkn
        go_wp2_with (first
          | (go_at_call 63; refine HC1.out.mono ?_; rintro e w1 ⟨cv, rfl, hO, hK1⟩; obtain ⟨ca, cc, ec, -, -, -, hrow⟩ := hO.form; rw [iv_length] at ec; subst ec; have HLz1 := Lib.hid (HLz.out w1 hK1 ca cc hrow); have HK1 := Lib.hid hK1; clear hO hK1 hrow)
          | (go_at_call 62; refine HLz1.out.mono ?_; rintro e w2 ⟨rfl, rfl⟩))
        go_roundw
        case rel =>
          refine ⟨k + 1, V', M', L', hlt, by go_num, ⟨⟨_, HT.out.kp HK1.out⟩, HS.out.ok, HS.out.inv⟩, HE.out, HK.out.trans HK1.out (fun _ _ h => h.elim), fun k' hk' => ?_⟩
          by_cases q : k' = k
          · rw [q]; exact .inl HDn.out
          · exact HLk.out k' (by omega)
        case measure => simp [intOf]; omega
    · have hk' : k = 3 := by omega
      have d3 : decide ((k : Int) < 3) = false := by simp; omega
      have HLk3 := Lib.hid (show ∀ k', k' < 3 → Look V' L' L.length (gclN N j k') from fun k' h => HLk.out k' (by omega))
      clear hk'
      go_wp2_with fail
      go_ret
      exact ⟨V', M', L', HS.out, HE.out, HK.out, .inl ⟨rfl, HLk3.out⟩⟩

end Go.Proofs.YthconjhldjaldaaGreatDoor

/-
  imply: what gates say goes on until nothing more is said.
-/
namespace Go.Proofs.YthconjhldjaldaaGreatDoor
open Go.RowKit

section
variable {w w' : World} {D D' : Nat → Prop} {p g0 g1 n : Nat} {v2 v3 : Value} {E : List Int} {I : List Int → List (Int × Int × Int) → List Int → Prop} {V : List Int} {M : List (Int × Int × Int)} {L : List Int}

theorem TrAt.mono (h : TrAt w D p g0 g1 n v2 v3 V M L E) (hd : ∀ j, j < w.heap.size → D j → D' j) : TrAt w D' p g0 g1 n v2 v3 V M L E :=
  ⟨h.blk, h.vals, h.marks, h.list, h.ends, h.vl, h.ml, ⟨hd _ h.blk.lt h.dp.1, hd _ h.vals.lt h.dp.2.1, hd _ h.marks.lt h.dp.2.2⟩, h.dd, fun j hj => ⟨hd _ (h.list.lt j hj).2 (h.d2 j hj).1, (h.d2 j hj).2⟩, fun j hj => ⟨hd _ (h.ends.lt j hj).2 (h.d3 j hj).1, (h.d3 j hj).2⟩, h.d23⟩
theorem TrS.mono (h : TrS w D p g0 g1 n v3 E I V M L) (hd : ∀ j, j < w.heap.size → D j → D' j) : TrS w D' p g0 g1 n v3 E I V M L := by
  obtain ⟨⟨v2, h1⟩, h2, h3⟩ := h
  exact ⟨⟨v2, h1.mono hd⟩, h2, h3⟩
theorem TrS.kp (h : TrS w D p g0 g1 n v3 E I V M L) (k : Kp (fun _ => False) w w') : TrS w' D p g0 g1 n v3 E I V M L := by
  obtain ⟨⟨v2, h1⟩, h2, h3⟩ := h
  exact ⟨⟨v2, h1.kp k⟩, h2, h3⟩

/-- without the blocks that were made between two worlds -/
def cutD (D : Nat → Prop) (w w' : World) : Nat → Prop := fun j => D j ∧ (j < w.heap.size ∨ w'.heap.size ≤ j)
theorem TrS.shrink (h : TrS w D p g0 g1 n v3 E I V M L) (k : Kp (fun _ => False) w w') : TrS w' (cutD D w w') p g0 g1 n v3 E I V M L :=
  (h.mono (D' := cutD D w w') fun j hj hd => ⟨hd, .inl hj⟩).kp k
end

/-- the rounds of Run: f is the place, l0 the list as it was taken last -/
structure RunS (w : World) (D : Nat → Prop) (p g0 g1 n : Nat) (v3 : Value) (E : List Int) (I : List Int → List (Int × Int × Int) → List Int → Prop) (N : List (Int × Int)) (V L : List Int) (f : Nat) (D1 : Nat → Prop) (v8 : Value) (l0 : List Int) (V' : List Int) (M' : List (Int × Int × Int)) (L' : List Int) (wr : World) : Prop where
  fl : f ≤ L'.length
  sub : ∀ j, D1 j → D j
  new : ∀ j, wr.heap.size ≤ j → D1 j
  own : Own wr w.heap.size 3 v8 (iv l0)
  far : ∀ j, v8.ownBlock = some j → ¬ D1 j
  pre : l0 = L'.take l0.length
  tr : TrS wr D1 p g0 g1 n v3 E I V' M' L'
  ext : Ext n V L V' L'
  kp : Kp D w wr
  look : ∀ j, j < n → LookG N V' L' f j

/-- what Run leaves -/
def RunP (w : World) (D : Nat → Prop) (p g0 g1 n : Nat) (v3 : Value) (E : List Int) (I : List Int → List (Int × Int × Int) → List Int → Prop) (N : List (Int × Int)) (V : List Int) (L : List Int) (e : Ending) (w' : World) : Prop :=
  ∃ V' M' L', TrS w' D p g0 g1 n v3 E I V' M' L' ∧ Ext n V L V' L' ∧ Kp D w w' ∧
    ((e = .returned (.tuple #[.int .i64 (L'.length : Int), .int .i64 (-1)]) ∧ ∀ j, j < n → LookG N V' L' L'.length j) ∨ ∃ f j k : Nat, j < n ∧ k < 3 ∧ 0 ≤ (g2 N j).1 ∧ e = .returned (.tuple #[.int .i64 (f : Int), .int .i64 (3 * ((j : Int) + 1) + k)]) ∧ AllNo V' (gclN N j k))

/-- the gates to look at for a variable -/
def allG (N : List (Int × Int)) (v n : Nat) : List Int := if 0 ≤ (g2 N (v - 1)).1 then (v : Int) :: fanK N v n else fanK N v n
theorem allG_mem {N : List (Int × Int)} {v n : Nat} (hv : 1 ≤ v) (hvn : v ≤ n) {x : Int} (h : x ∈ allG N v n) : ∃ j, j < n ∧ x = (j : Int) + 1 ∧ 0 ≤ (g2 N j).1 := by
  have fan : ∀ {x : Int}, x ∈ fanK N v n → ∃ j, j < n ∧ x = (j : Int) + 1 ∧ 0 ≤ (g2 N j).1 := fun h => by
    obtain ⟨j, h1, h2, h3, _⟩ := (fanK_mem _).1 h
    exact ⟨j, h1, h2, h3⟩
  unfold allG at h
  split at h
  · rename_i h0
    rcases List.mem_cons.1 h with rfl | h
    · exact ⟨v - 1, by omega, by omega, h0⟩
    · exact fan h
  · exact fan h
theorem allG_len (N : List (Int × Int)) (v n : Nat) : (allG N v n).length ≤ n + 1 := by
  have := fanK_len N v n
  unfold allG
  split
  · rw [List.length_cons]; omega
  · omega
theorem allG_look {N : List (Int × Int)} (hN : GoodN N) {v n : Nat} (hn : N.length = n) (hv : 1 ≤ v) {V L : List Int} {f : Nat} {l : Int} (hl : L[f]? = some l) (hlv : l / 2 = (v : Int)) (h : ∀ j, j < n → LookG N V L f j)
    (hd : ∀ i, i < (allG N v n).length → ∀ j : Nat, gi (allG N v n) i = (j : Int) + 1 → LookG N V L (f + 1) j) : ∀ j, j < n → LookG N V L (f + 1) j := by
  subst hn
  intro j hj
  by_cases e : ((j : Int) + 1) ∈ allG N v N.length
  · obtain ⟨i, hi, q⟩ := mem_gi e
    exact hd i hi j q
  · intro h0 k hk
    have hfan : ((j : Int) + 1) ∉ fanK N v N.length := fun q => e (by unfold allG; split; exact List.mem_cons_of_mem _ q; exact q)
    have hne : (j : Int) + 1 ≠ (v : Int) := fun q => e (by
      have : j = v - 1 := by omega
      subst this
      unfold allG
      rw [if_pos h0, ← q]
      exact List.mem_cons_self ..)
    refine (h j hj h0 k hk).next fun l' hl' x hx => ?_
    rw [hl] at hl'
    cases hl'
    rw [hlv]
    exact gcl_far hN hj h0 hne hfan k x hx

set_option maxRecDepth 100000 in
set_option maxHeartbeats 16000000 in
theorem rules_Run {w : World} {D : Nat → Prop} {lo hi pr p g0 g1 n : Nat} {na : Option Addr} {nc g : Nat} {R : Nat → Value} {N : List (Int × Int)} {v3 : Value} {E : List Int} {I : List Int → List (Int × Int × Int) → List Int → Prop} {V : List Int} {M : List (Int × Int × Int)} {L : List Int}
    (hRu : RuAt w lo hi pr n na nc g R N) (hTr : TrS w D p g0 g1 n v3 E I V M L) (hN : GoodN N) (hn : n ≤ 900000) (hI : InvG n N E I) (hD : ∀ j, w.heap.size ≤ j → D j) (hDl : ∀ j, D j → j < lo ∨ hi ≤ j) {f : Nat} (hf : f ≤ L.length) (hLk : ∀ j, j < n → LookG N V L f j) :
    Calls Tryz.prog 36 #[.pointer (some ⟨pr, 0, none⟩), .pointer (some ⟨p, 0, none⟩), .int .i64 (f : Int)] w (RunP w D p g0 g1 n v3 E I N V L) := by
  obtain ⟨v2, hT⟩ := hTr.tr
  have HList := Lib.hid (trail_List hT (Nat.le_trans hTr.ok.len hn))
  have HRu := Lib.hid hRu
  have HTr := Lib.hid hTr
  have HN := Lib.hid hN
  have HI := Lib.hid hI
  have HD := Lib.hid hD
  have HDl := Lib.hid hDl
  have HLk := Lib.hid hLk
  have hmx : max (f : Int) 0 = (f : Int) := by omega
  have dl0 : (0 : Int) ≤ (f : Int) := by omega
  clear hT hRu hTr hN hI hD hDl hLk
  go_enter Tryz.func36, Tryz.ntmps36
  go_wp2_with (go_at_call 64; refine HList.out.mono ?_; rintro e w1 ⟨v8, rfl, hO, hK⟩; have HO := Lib.hid hO; have HK := Lib.hid hK; clear hO hK)
  have HR0 := Lib.hid (show RunS w D p g0 g1 n v3 E I N V L f (cutD D w w1) v8 L V M L w1 from
    ⟨hf, fun j h => h.1, fun j hj => ⟨HD.out j (Nat.le_trans HK.out.size hj), .inr hj⟩, HO.out, fun j hj q => by have h1 := HO.out.lt j hj; rcases q.2 with e | e <;> omega, by simp, HTr.out.shrink HK.out, Ext.refl _ _ _, HK.out.mono (fun _ _ h => h.elim), HLk.out⟩)
  clear HO HK HList hf HLk
  go_loopw [2, 8] (fun v2 v8 wr => ∃ (f' : Nat) (D1 : Nat → Prop) (l0 V' : List Int) (M' : List (Int × Int × Int)) (L' : List Int), v2 = .int .i64 f' ∧ RunS w D p g0 g1 n v3 E I N V L f' D1 v8 l0 V' M' L' wr) (fun v2 _ _ => n + 1 - (intOf v2).toNat)
  case atStart => exact ⟨f, _, _, _, _, _, rfl, HR0.out⟩
  case round =>
    clear HR0 hmx dl0
    obtain ⟨f', D1, l0, V', M', L', rfl, hS⟩ := hrel
    have HS := Lib.hid hS
    clear hS
    obtain ⟨wp, rfl⟩ : ∃ wp : World, wp = wr := ⟨_, rfl⟩
    obtain ⟨v2', hT⟩ := HS.out.tr.tr
    have HLen := Lib.hid (trail_Len hT)
    have HLst := Lib.hid (trail_List hT (Nat.le_trans HS.out.tr.ok.len hn))
    have hLn := HS.out.tr.ok.len
    clear hT
    obtain ⟨ll, hll⟩ : ∃ ll, L'.length = ll := ⟨_, rfl⟩
    have HLL := Lib.hid hll
    rw [hll] at HLen hLn
    clear hll
    by_cases hlt : f' < ll
    · obtain ⟨a8, c8, e8, hc8, hm8, -, hrow8⟩ := HS.out.own.form
      subst e8
      obtain ⟨m0, hm0⟩ : ∃ m0, (iv l0).length = m0 := ⟨_, rfl⟩
      have HM0 := Lib.hid hm0
      have HS2 := Lib.hid (show RunS w D p g0 g1 n v3 E I N V L f' D1 (.slice a8 m0 c8) l0 V' M' L' wp by have := HS.out; rw [hm0] at this; exact this)
      clear HS
      have HS := HS2
      clear HS2
      rw [hm0]
      clear hc8 hm8 hrow8 hm0
      go_upto_if 33 with (go_at_call 65; refine HLen.out.mono ?_; rintro e w2 ⟨rfl, rfl⟩)
      go_cut [8] from 24 to 76 (fun s8 wx => ∃ (D2 : Nat → Prop) (l1 : List Int), f' < l1.length ∧ RunS w D p g0 g1 n v3 E I N V L f' D2 s8 l1 V' M' L' wx ∧ Kp (fun _ => False) wp wx)
      case first =>
        by_cases hge : m0 ≤ f'
        · go_wp2_with (go_at_call 64; refine HLst.out.mono ?_; rintro e w2 ⟨v8, rfl, hO, hK⟩; have HO := Lib.hid hO; have HK := Lib.hid hK; clear hO hK)
          go_meet
          have h := HS.out
          have hk1 := h.kp.size
          refine ⟨cutD D1 wp w2, L', by rw [HLL.out]; exact hlt, ⟨h.fl, fun j q => h.sub j q.1, fun j hj => ⟨h.new j (Nat.le_trans HK.out.size hj), .inr hj⟩, HO.out.mono hk1, fun j hj q => by have h1 := HO.out.lt j hj; rcases q.2 with e | e <;> omega, by simp, h.tr.shrink HK.out, h.ext, h.kp.trans HK.out (fun _ _ h => h.elim), h.look⟩, HK.out⟩
        · go_wp2_with fail
          go_meet
          exact ⟨D1, l0, by have := HM0.out; rw [iv_length] at this; omega, HS.out, Kp.refl _ _⟩
      case rest =>
      obtain ⟨D2, l1, hfl1, hS2, hKq⟩ := hcut
      have HS2 := Lib.hid hS2
      clear hS2 hKq HS HLst HLen HM0
      have hpre := HS2.out.pre
      have hfL : f' < L'.length := by rw [HLL.out]; exact hlt
      have hgl : gi l1 f' = gi L' f' := by
        rw [hpre]
        unfold gi
        rw [List.getElem?_take_of_lt hfl1]
      obtain ⟨x, hx⟩ : ∃ x, gi L' f' = x := ⟨_, rfl⟩
      obtain ⟨hxk, hx2, -⟩ := HS2.out.tr.ok.ok x (by rw [← hx]; exact gi_mem hfL)
      have HX := Lib.hid (show L'[f']? = some x by rw [← hx]; unfold gi; rw [List.getElem?_eq_getElem hfL]; rfl)
      obtain ⟨q, hq⟩ : ∃ q : Nat, x / 2 = (q : Int) := ⟨(x / 2).toNat, by omega⟩
      have HQ := Lib.hid hq
      have hxk2 := hxk.2
      have hq1 : 1 ≤ q := by omega
      have hqn : q ≤ n := by omega
      have tq : x.tdiv 2 = (q : Int) := by rw [Int.tdiv_eq_ediv_of_nonneg (by omega)]; exact hq
      have wqq : IntKind.i64.wrap (q : Int) = (q : Int) := by rw [IntKind.wrap_i64]; omega
      have wq1 : IntKind.i64.wrap ((q : Int) - 1) = ((q - 1 : Nat) : Int) := by rw [IntKind.wrap_i64]; omega
      obtain ⟨q1, hq1e⟩ : ∃ q1 : Nat, q - 1 = q1 := ⟨_, rfl⟩
      have HQ1 := Lib.hid hq1e
      rw [hq1e] at wq1
      obtain ⟨a8', c8', e8', -, -, -, hrow8⟩ := HS2.out.own.form
      subst e8'
      have c8x : Elem wc a8' f' (.int .i64 x) := hrow8 f' _ (by rw [iv_at hfl1, hgl, hx])
      obtain ⟨b8, o8, rfl, c8x⟩ := c8x
      obtain ⟨m1, hm1⟩ : ∃ m1, (iv l1).length = m1 := ⟨_, rfl⟩
      have hm1f : f' < m1 := by rw [← hm1, iv_length]; exact hfl1
      have HS3 := Lib.hid (show RunS w D p g0 g1 n v3 E I N V L f' D2 (.slice (some ⟨b8, o8, none⟩) m1 c8') l1 V' M' L' wc by have := HS2.out; rw [hm1] at this; exact this)
      rw [hm1]
      have HRc := Lib.hid (HRu.out.kpS HS2.out.kp HDl.out)
      have r0 : wc.cell? ⟨pr, 0, none⟩ = some (.slice na n nc) := HRc.out.blk.cell (i := 0) rfl
      have r1 : wc.cell? ⟨pr, 1, none⟩ = some (.slice (some ⟨g, 0, none⟩) (n + 1) (n + 1)) := HRc.out.blk.cell (i := 1) rfl
      obtain ⟨mn, hmn⟩ : ∃ mn : Nat, n + 1 = mn := ⟨_, rfl⟩
      rw [hmn] at r1
      have q5 : (q : Int) < (mn : Int) := by omega
      have q6 : (0 : Int) ≤ (q : Int) := by omega
      have rq := HRc.out.rows.cell (k := q) (by omega)
      have HOq := Lib.hid (HRc.out.rows.ow q (by omega))
      have HLr := Lib.hid (HRc.out.lr q (by omega))
      obtain ⟨aq, cq, eq, -, -, -, hrowq⟩ := HOq.out.form
      have HNilq := Lib.hid (own_nilc (eq ▸ HOq.out))
      rw [eq] at rq
      have HEQ := Lib.hid eq
      obtain ⟨mq, hmq⟩ : ∃ mq, (iv (fanK N q n)).length = mq := ⟨_, rfl⟩
      have HMQ := Lib.hid hmq
      rw [hmq] at rq
      have HRowq := Lib.hid hrowq
      have hql : q1 < N.length := by rw [HRu.out.len]; omega
      obtain ⟨bn, on, rfl, n0, n1⟩ := pr2_cells HRc.out.net hql
      obtain ⟨y, hy⟩ : ∃ y, (g2 N q1).1 = y := ⟨_, rfl⟩
      have HY := Lib.hid hy
      rw [hy] at n0
      have i1 : (q1 : Int) < (n : Int) := by omega
      have i2 : (0 : Int) ≤ (q1 : Int) := by omega
      have i3 : (f' : Int) < (m1 : Int) := by omega
      have i4 : (0 : Int) ≤ (f' : Int) := by omega
      clear hm1 hmq hrowq hrow8 hpre hgl hx hxk hq hxk2 hfl1 eq hmn hql hy n1 HS2 hq1e
      go_upto_if 57 with fail
      have HIi := Lib.hid (show (Tryz.prog.info? 3).map (fun i => (i.zero, i.size, i.bytes)) = some (some (.int .i64 0), 1, 8) by kernel_rfl)
      obtain ⟨G, hG⟩ : ∃ G, allG N q n = G := ⟨_, rfl⟩
      have HG := Lib.hid hG
      have HQ2 := Lib.hid (And.intro hq1 hqn)
      clear hG hq1 hqn q5 q6 i1 i2 i3 i4 tq wqq wq1 c8x r0 r1 rq n0 hLn hx2
      go_cut [10] from 24 to 76 (fun s10 wx => ∃ (D3 : Nat → Prop) (a10 : Option Addr) (m10 c10 : Nat), s10 = .slice a10 m10 c10 ∧ G.length = m10 ∧ RowAt wx a10 (iv G) ∧ (∀ ad, a10 = some ad → ¬ D3 ad.block) ∧ (∀ j, D3 j → D2 j) ∧ (∀ j, wx.heap.size ≤ j → D3 j) ∧ TrS wx D3 p g0 g1 n v3 E I V' M' L' ∧ Kp (fun _ => False) wc wx)
      case first =>
        by_cases hy0 : 0 ≤ y
        · have hGe : G = (q : Int) :: fanK N q n := by rw [← HG.out]; unfold allG; rw [show q - 1 = q1 from HQ1.out, HY.out, if_pos hy0]
          have HGe := Lib.hid hGe
          have HO1 := Lib.hid (own_new wc [(q : Int)] (by simp))
          have hmn : mq ≤ n := by have := HMQ.out; rw [iv_length] at this; have := fanK_len N q n; omega
          clear hGe
          go_wp2_with (at_builtin; refine wpList_appendAll rfl _ _ 23 3 rfl Tryz.underlying23 HIi.out rfl HO1.out rfl aq mq cq (iv (fanK N q n)) rfl HMQ.out (HRowq.out.kp ((Kp.refl (fun _ => False) wc).alloc _) (fun _ _ h => h)) HNilq.out (fun u hu => by obtain ⟨x, _, rfl⟩ := List.mem_map.1 hu; rfl) ?d1 ?d2 ?d3 ?_)
          case d1 => rw [iv_length, List.length_singleton]; omega
          case d2 => rw [iv_length, List.length_singleton]; unfold maxLen; omega
          case d3 => simp
          intro v' w2 hO hg
          have HO2 := Lib.hid hO
          have HK2 := Lib.hid (show Kp (fun _ => False) wc w2 from ((Kp.refl (fun _ => False) wc).alloc _).grown hg (fun j hj hlt => by simp [Value.ownBlock] at hj; omega))
          clear hO hg
          go_wp2_with fail
          go_meet
          obtain ⟨a10, c10, e10, -, -, hb10, hr10⟩ := HO2.out.form
          rw [show iv [(q : Int)] ++ iv (fanK N q n) = iv G by rw [HGe.out]; rfl, iv_length] at e10
          rw [show iv [(q : Int)] ++ iv (fanK N q n) = iv G by rw [HGe.out]; rfl] at hr10
          have hs := HS3.out
          refine ⟨cutD D2 wc w2, a10, _, c10, e10, rfl, hr10, fun ad had h => ?_, fun j h => h.1, fun j hj => ⟨hs.new j (Nat.le_trans HK2.out.size hj), .inr hj⟩, hs.tr.shrink HK2.out, HK2.out⟩
          obtain ⟨gg, rfl, h1, h2⟩ := hb10 ad had
          rcases h.2 with e | e
          · simp only at e; omega
          · simp only at e; omega
        · have hGe : G = fanK N q n := by rw [← HG.out]; unfold allG; rw [show q - 1 = q1 from HQ1.out, HY.out, if_neg hy0]
          have HGe := Lib.hid hGe
          clear hGe
          go_wp2_with fail
          go_meet
          have hs := HS3.out
          refine ⟨D2, aq, mq, cq, rfl, by rw [HGe.out, ← HMQ.out, iv_length], by rw [HGe.out]; exact HRowq.out, fun ad had h => ?_, fun j h => h, hs.new, hs.tr, Kp.refl _ _⟩
          subst had
          obtain ⟨_, _, e2, -, -, hb, -⟩ := HOq.out.form
          rw [HEQ.out] at e2
          simp only [Value.slice.injEq] at e2
          obtain ⟨gg, hgg, h1, h2⟩ := hb ad e2.1.symm
          subst hgg
          have := HLr.out gg (by rw [HEQ.out]; rfl)
          rcases HDl.out _ (hs.sub _ h) with e | e <;> simp only at e <;> omega
      case rest =>
      obtain ⟨D3, a10, m10, c10, rfl, hm10, hrow, hfar, hsub, hnew, htr, hK3⟩ := hcut
      have HRow := Lib.hid hrow
      have HFar := Lib.hid hfar
      have HSub := Lib.hid hsub
      have HNew := Lib.hid hnew
      have HTR := Lib.hid htr
      have HK3 := Lib.hid hK3
      have HM10 := Lib.hid hm10
      obtain ⟨wx, hwx⟩ : ∃ wx : World, wx = wc := ⟨_, rfl⟩
      have HKx := Lib.hid (show Kp D w wx by rw [hwx]; exact HS3.out.kp.trans HK3.out (fun _ _ h => h.elim))
      have HOw := Lib.hid (show Own wx w.heap.size 3 (.slice (some ⟨b8, o8, none⟩) m1 c8') (iv l1) by rw [hwx]; exact HS3.out.own.kp HK3.out (fun _ _ h => h))
      have HOf := Lib.hid (show ∀ j, (Value.slice (some ⟨b8, o8, none⟩) m1 c8').ownBlock = some j → ¬ D3 j from fun j hj h => HS3.out.far j hj (HSub.out j h))
      have HSb := Lib.hid (show ∀ j, D3 j → D j from fun j h => HS3.out.sub j (HSub.out j h))
      have HExt := Lib.hid HS3.out.ext
      have HLook := Lib.hid HS3.out.look
      have HPre := Lib.hid HS3.out.pre
      rw [← hwx] at HRow HNew HTR HK3 ⊢
      clear hrow hfar hsub hnew htr hm10 hwx HOq HLr HRowq HRc HEQ HMQ HNilq HY
      clear hK3 HS3
      go_wp2_with fail
      go_loopw [64] (fun v64 wr => ∃ (i : Nat) (V3 : List Int) (M3 : List (Int × Int × Int)) (L3 : List Int), v64 = .int .i64 i ∧ i ≤ m10 ∧ TrS wr D3 p g0 g1 n v3 E I V3 M3 L3 ∧ Ext n V' L' V3 L3 ∧ Kp D3 wx wr ∧ (∀ j, j < n → LookG N V3 L3 f' j) ∧ ∀ i', i' < i → ∀ j : Nat, gi G i' = (j : Int) + 1 → LookG N V3 L3 (f' + 1) j) (fun v64 _ => m10 - (intOf v64).toNat)
      case atStart => exact ⟨0, V', M', L', rfl, Nat.zero_le _, HTR.out, Ext.refl _ _ _, Kp.refl _ _, HLook.out, fun i hi => absurd hi (Nat.not_lt_zero i)⟩
      case round =>
        obtain ⟨i, V3, M3, L3, rfl, hi, hT3, hE3, hK3, hL3, hG3⟩ := hrel
        obtain ⟨wy, rfl⟩ : ∃ wy : World, wy = wr := ⟨_, rfl⟩
        have HT3 := Lib.hid hT3
        have HE3 := Lib.hid hE3
        have HK3 := Lib.hid hK3
        have HL3 := Lib.hid hL3
        have HG3 := Lib.hid hG3
        clear hT3 hE3 hK3 hL3 hG3 HTR
        by_cases hlt2 : i < m10
        · have hiG : i < G.length := by rw [HM10.out]; exact hlt2
          obtain ⟨b10, o10, e10, hcell⟩ := (HRow.out.kp HK3.out HFar.out) i _ (iv_at hiG)
          obtain ⟨j, hjn, hjx, hj0⟩ := allG_mem HQ2.out.1 HQ2.out.2 (show gi G i ∈ allG N q n by rw [HG.out]; exact gi_mem hiG)
          have HJ := Lib.hid hjx
          rw [hjx] at hcell
          have HGt := Lib.hid (rules_gate (HRu.out.kpS (HKx.out.trans HK3.out (fun j _ h => HSb.out j h)) HDl.out) HT3.out HN.out hn HI.out (fun j hj => HNew.out j (Nat.le_trans HK3.out.size hj)) (fun j h => HDl.out j (HSb.out j h)) hjn hj0)
          obtain ⟨xv, hxv⟩ : ∃ xv : Int, (j : Int) + 1 = xv := ⟨_, rfl⟩
          rw [hxv] at hcell HGt
          have HXV := Lib.hid hxv
          have i1 : (i : Int) < (m10 : Int) := by omega
          have i2 : (0 : Int) ≤ (i : Int) := by omega
          have HJn := Lib.hid hjn
          have hib : (i : Int) ≤ 900001 := by have h1 := allG_len N q n; rw [HG.out, HM10.out] at h1; omega
          have HJ0 := Lib.hid hj0
          subst e10
          clear hiG hjx hjn hj0 hxv
          go_upto_region 17 with (go_at_call 35
                                  refine HGt.out.mono ?_
                                  rintro e w4 ⟨V4, M4, L4, hT4, hE4, hK4, hA⟩
                                  have HT4 := Lib.hid hT4
                                  have HE4 := Lib.hid hE4
                                  have HK4 := Lib.hid hK4
                                  obtain ⟨rr, rfl, hrr⟩ : ∃ rr : Int, e = .returned (.int .i64 rr) ∧ ((rr = -1 ∧ ∀ k, k < 3 → Look V4 L4 L3.length (gclN N j k)) ∨ ∃ k : Nat, k < 3 ∧ rr = 3 * ((j : Int) + 1) + k ∧ AllNo V4 (gclN N j k)) := by
                                    rcases hA with ⟨rfl, h⟩ | ⟨k, hk, rfl, h⟩
                                    · exact ⟨_, rfl, .inl ⟨rfl, h⟩⟩
                                    · exact ⟨_, rfl, .inr ⟨k, hk, rfl, h⟩⟩
                                  have HRR := Lib.hid hrr
                                  clear hT4 hE4 hK4 hA hrr)
          rcases HRR.out with ⟨rfl, hL4⟩ | ⟨k, hk, hrr, hz⟩
          · have HL4 := Lib.hid hL4
            clear hL4 HRR
            go_wp2_with fail
            go_roundw
            case rel =>
              have hl3 : f' + 1 ≤ L3.length := by have := HE3.out.len; omega
              refine ⟨i + 1, V4, M4, L4, by go_num, hlt2, HT4.out, HE3.out.trans HE4.out, HK3.out.trans HK4.out (fun _ _ h => h), fun j' hj' => (HL3.out j' hj').ext HN.out (by rw [HRu.out.len]; exact hj') (by rw [HRu.out.len]; exact HE4.out) (by omega), fun i' hi' j' hj' => ?_⟩
              have hjj : j' < n := by
                obtain ⟨j2, h1, h2, -⟩ := allG_mem HQ2.out.1 HQ2.out.2 (show gi G i' ∈ allG N q n by rw [HG.out]; exact gi_mem (by rw [HM10.out]; omega))
                rw [hj'] at h2
                omega
              by_cases e : i' = i
              · rw [e, HJ.out] at hj'
                have : j' = j := by omega
                subst this
                exact fun _ k hk => (HL4.out k hk).mono hl3
              · exact (HG3.out i' (by omega) j' hj').ext HN.out (by rw [HRu.out.len]; exact hjj) (by rw [HRu.out.len]; exact HE4.out) hl3
            case measure => simp [intOf]; omega
          · have r0 : decide (0 ≤ rr) = true := by simp; omega
            have HZ := Lib.hid (And.intro hk (And.intro hrr hz))
            clear hk hrr hz HRR
            go_wp2_with fail
            exact bodyPost_ret (v := .tuple #[.int .i64 (f' : Int), .int .i64 rr]) (by simp [results, Tryz.results36, go_sem]) rfl ⟨V4, M4, L4, HT4.out.mono (fun j _ q => HSb.out j q), HExt.out.trans (HE3.out.trans HE4.out), (HKx.out.trans HK3.out (fun j _ h => HSb.out j h)).trans HK4.out (fun j _ h => HSb.out j h), .inr ⟨f', j, k, HJn.out, HZ.out.1, HJ0.out, by rw [HZ.out.2.1], HZ.out.2.2⟩⟩
        · have him : i = m10 := by omega
          subst him
          have hno : decide ((i : Int) < (i : Int)) = false := by simp
          have HFin := Lib.hid (show ∀ j, j < n → LookG N V3 L3 (f' + 1) j from by
            obtain ⟨Mx, hMx, -⟩ := HE3.out
            refine allG_look HN.out HRu.out.len HQ2.out.1 (l := x) ?_ HQ.out HL3.out (fun i' hi' j' hj' => ?_)
            · rw [hMx, List.getElem?_append_left hfL]; exact HX.out
            · rw [HG.out] at hi' hj'
              exact HG3.out i' (by rw [← HM10.out]; exact hi') j' hj')
          have HFl := Lib.hid (show f' + 1 ≤ L3.length by have := HE3.out.len; omega)
          have HPre3 := Lib.hid (show l1 = L3.take l1.length by
            obtain ⟨Mx, hMx, -⟩ := HE3.out
            rw [hMx, List.take_append_of_le_length (by have := congrArg List.length HPre.out; rw [List.length_take] at this; omega)]
            exact HPre.out)
          have hn3 := HT3.out.ok.len
          have hfb : (f' : Int) ≤ 900000 := by have := HFl.out; omega
          go_wp2_with fail
          go_roundw
          case rel => exact ⟨f' + 1, D3, l1, V3, M3, L3, by go_num, ⟨HFl.out, HSb.out, fun j hj => HNew.out j (Nat.le_trans HK3.out.size hj), HOw.out.kp HK3.out (fun j hj h => HOf.out j hj h), HOf.out, HPre3.out, HT3.out, HExt.out.trans HE3.out, HKx.out.trans HK3.out (fun j _ h => HSb.out j h), HFin.out⟩⟩
          case measure => have := HFl.out; simp [intOf]; omega
    · have hfl : f' = ll := by have := HS.out.fl; have := HLL.out; omega
      subst hfl
      go_wp2_with (go_at_call 65; refine HLen.out.mono ?_; rintro e w2 ⟨rfl, rfl⟩)
      have h := HS.out
      exact bodyPost_ret (v := .tuple #[.int .i64 (f' : Int), .int .i64 (-1)]) (by simp [results, Tryz.results36, go_sem]) rfl ⟨V', M', L', h.tr.mono (fun j _ q => h.sub j q), h.ext, h.kp, .inl ⟨by rw [HLL.out], by rw [HLL.out]; exact h.look⟩⟩

end Go.Proofs.YthconjhldjaldaaGreatDoor

/-
  slices.IndexFunc, slices.ContainsFunc of ints, with any function that only tells; imply.known.
-/
namespace Go.Proofs.YthconjhldjaldaaGreatDoor
open Go.RowKit

/-- a function value that only tells -/
def TellsP (g : Nat) (lb : Array Value) (p : Int → Bool) (l : List Int) (w : World) : Prop :=
  ∀ x ∈ l, ∀ u, Kp (fun _ => False) w u → Calls Tryz.prog g (#[.int .i64 x] ++ lb) u fun e w' => e = .returned (.bool (p x)) ∧ Kp (fun _ => False) u w'

set_option maxRecDepth 100000 in
set_option maxHeartbeats 2000000 in
theorem ints_IndexFunc (g : Nat) (lb : Array Value) (p : Int → Bool) (eg : ∀ args w, (callFunc g args).run Tryz.prog w = .ok (.enter g args) w) (a : Option Addr) (n c : Nat) (l : List Int) (w : World) (hr : RowAt w a (iv l)) (hl : l.length = n) (hn : n ≤ 1000000) (hp : TellsP g lb p l w) :
    Calls Tryz.prog 73 #[.slice a n c, .func (.func g) #[] lb] w fun e w' => (∃ i : Int, e = .returned (.int .i64 i) ∧ ((0 ≤ i ∧ l.any p = true) ∨ (i = -1 ∧ l.any p = false))) ∧ Kp (fun _ => False) w w' := by
  have HR := Lib.hid hr
  have HL := Lib.hid hl
  have HP := Lib.hid hp
  clear hr hl hp
  go_enter Tryz.func73, Tryz.ntmps73
  go_wp2_with fail
  go_loopw [8] (fun v8 wr => ∃ k : Nat, k ≤ n ∧ v8 = .int .i64 k ∧ (∀ i, i < k → p (gi l i) = false) ∧ Kp (fun _ => False) w wr) (fun v8 _ => n - (intOf v8).toNat)
  case atStart => exact ⟨0, Nat.zero_le _, rfl, fun i hi => absurd hi (Nat.not_lt_zero i), Kp.refl _ _⟩
  case round =>
    obtain ⟨k, hk, rfl, hno, hK⟩ := hrel
    have HNo := Lib.hid hno
    have HK := Lib.hid hK
    clear hno hK
    obtain ⟨wp, rfl⟩ : ∃ wp : World, wp = wr := ⟨_, rfl⟩
    by_cases hlt : k < n
    · have hkl : k < l.length := by rw [HL.out]; exact hlt
      obtain ⟨b, off, rfl, hcell⟩ := (HR.out.kp HK.out (fun _ _ h => h)) k _ (iv_at hkl)
      have HC := Lib.hid (HP.out _ (gi_mem hkl) wp HK.out)
      have HM := Lib.hid (gi_mem hkl)
      obtain ⟨x, hx⟩ : ∃ x, gi l k = x := ⟨_, rfl⟩
      rw [hx] at hcell HC HM
      have HX := Lib.hid hx
      obtain ⟨y, hy⟩ : ∃ y, p x = y := ⟨_, rfl⟩
      rw [hy] at HC
      have HY := Lib.hid hy
      have i1 : (k : Int) < (n : Int) := by omega
      have i2 : (0 : Int) ≤ (k : Int) := by omega
      clear hkl hx hy
      cases y with
      | true =>
        go_wp2_with (go_at_fn g; refine HC.out.mono ?_; rintro e w1 ⟨rfl, hK1⟩; have HK1 := Lib.hid hK1; clear hK1)
        go_ret
        exact ⟨⟨_, rfl, .inl ⟨by omega, List.any_eq_true.2 ⟨x, HM.out, HY.out⟩⟩⟩, HK.out.trans HK1.out (fun _ _ h => h)⟩
      | false =>
        go_wp2_with (go_at_fn g; refine HC.out.mono ?_; rintro e w1 ⟨rfl, hK1⟩; have HK1 := Lib.hid hK1; clear hK1)
        go_roundw
        case rel => exact ⟨k + 1, hlt, by go_num, fun i hi => by by_cases e : i = k; rw [e, HX.out]; exact HY.out; exact HNo.out i (by omega), HK.out.trans HK1.out (fun _ _ h => h)⟩
        case measure => simp [intOf]; omega
    · have hk' : k = n := by omega
      subst hk'
      have hno : decide ((k : Int) < (k : Int)) = false := by simp
      go_wp2_with fail
      go_ret
      exact ⟨⟨-1, rfl, .inr ⟨rfl, List.any_eq_false.2 fun x hx => by obtain ⟨i, hi, rfl⟩ := mem_gi hx; rw [HNo.out i (by rw [← HL.out]; exact hi)]; decide⟩⟩, HK.out⟩

theorem ints_ContainsFunc (g : Nat) (lb : Array Value) (p : Int → Bool) (eg : ∀ args w, (callFunc g args).run Tryz.prog w = .ok (.enter g args) w) (a : Option Addr) (n c : Nat) (l : List Int) (w : World) (hr : RowAt w a (iv l)) (hl : l.length = n) (hn : n ≤ 1000000) (hp : TellsP g lb p l w) :
    Calls Tryz.prog 48 #[.slice a n c, .func (.func g) #[] lb] w fun e w' => e = .returned (.bool (l.any p)) ∧ Kp (fun _ => False) w w' := by
  have HI := Lib.hid (ints_IndexFunc g lb p eg a n c l w hr hl hn hp)
  clear hr hl hp eg
  go_enter Tryz.func48, Tryz.ntmps48
  go_upto_region 1 with fail
  have HI2 := Lib.hid (HI.out.mono (R' := fun e w' => ∃ i : Int, e = .returned (.int .i64 i) ∧ decide (0 ≤ i) = l.any p ∧ Kp (fun _ => False) w w') (by
    rintro e w' ⟨⟨i, rfl, h | h⟩, hK⟩
    · exact ⟨i, rfl, by rw [h.2]; exact decide_eq_true h.1, hK⟩
    · exact ⟨i, rfl, by rw [h.2]; exact decide_eq_false (by omega), hK⟩))
  clear HI
  go_wp2_with (go_at_call 73; refine HI2.out.mono ?_; rintro e w1 ⟨i, rfl, hd, hK1⟩; have HK1 := Lib.hid hK1; clear hK1)
  go_ret
  exact ⟨by first | rfl | rw [hd], HK1.out⟩

/-- no literal of no variable -/
def knB (n : Nat) (l : List Int) : Bool := !l.any fun x => decide (x < 0) || decide ((n : Int) < x / 2)
theorem knB_iff {n : Nat} {l : List Int} : knB n l = true ↔ KnC n l := by
  unfold knB KnC KnL
  rw [Bool.not_eq_true', List.any_eq_false]
  constructor
  · intro h x hx
    have := h x hx
    simp at this
    omega
  · intro h x hx
    have := h x hx
    simp
    omega

set_option maxRecDepth 100000 in
set_option maxHeartbeats 2000000 in
theorem imply_known (an : Option Addr) (n cn : Nat) (a : Option Addr) (m c : Nat) (l : List Int) (w : World) (hr : RowAt w a (iv l)) (hl : l.length = m) (hm : m ≤ 1000000) (hb : ∀ x ∈ l, x ≤ 9223372036854775807) :
    Calls Tryz.prog 33 #[.slice an n cn, .slice a m c] w fun e w' => e = .returned (.bool (knB n l)) ∧ Kp (fun _ => False) w w' := by
  have hB := Blk.new w #[.slice an n cn] 22
  have q := (Kp.refl (fun _ => False) w).alloc (.cells #[.slice an n cn] 22)
  obtain ⟨W1, hW1⟩ : ∃ W1, w.alloc (.cells #[.slice an n cn] 22) = W1 := ⟨_, rfl⟩
  rw [hW1] at hB q
  have HQ := Lib.hid q
  have HT : Hid (TellsP 59 #[.pointer (some ⟨w.heap.size, 0, none⟩)] (fun x => decide (x < 0) || decide ((n : Int) < x / 2)) l W1) := Lib.hid fun x hxl u hu => by
    have hxb := hb x hxl
    have c0 : u.cell? ⟨w.heap.size, 0, none⟩ = some (.slice an n cn) := (hB.kp hu (fun h => h)).cell rfl
    clear hB q HQ hr
    show Calls Tryz.prog 59 #[.int .i64 x, .pointer (some ⟨w.heap.size, 0, none⟩)] u fun e w' => e = .returned (.bool (decide (x < 0) || decide ((n : Int) < x / 2))) ∧ Kp (fun _ => False) u w'
    by_cases h0 : x < 0
    · have d0 : decide (x < 0) = true := by simp [h0]
      have e : (decide (x < 0) || decide ((n : Int) < x / 2)) = true := by rw [d0]; rfl
      rw [e]
      clear e h0 hxb hxl hb
      go_enter Tryz.func59, Tryz.ntmps59
      go_wp2_with fail
      go_ret
      exact ⟨rfl, Kp.refl _ _⟩
    · have d0 : decide (x < 0) = false := by simp; omega
      have t0 : x.tdiv 2 = x / 2 := Int.tdiv_eq_ediv_of_nonneg (by omega)
      obtain ⟨y, hy⟩ : ∃ y, x / 2 = y := ⟨_, rfl⟩
      have wy : IntKind.i64.wrap y = y := by rw [IntKind.wrap_i64]; omega
      rw [hy] at t0
      have e : (decide (x < 0) || decide ((n : Int) < x / 2)) = decide ((n : Int) < y) := by rw [d0, hy]; rfl
      rw [e]
      clear e h0 hxb hxl hb
      go_enter Tryz.func59, Tryz.ntmps59
      go_wp2_with fail
      go_ret
      exact ⟨rfl, Kp.refl _ _⟩
  have HC := Lib.hid (ints_ContainsFunc 59 #[.pointer (some ⟨w.heap.size, 0, none⟩)] _ (enters_of Tryz.func59 (by kernel_rfl) rfl) a m c l W1 (hr.kp q (fun _ _ h => h)) hl hm HT.out)
  have HKn := Lib.hid (show knB n l = !l.any fun x => decide (x < 0) || decide ((n : Int) < x / 2) from rfl)
  obtain ⟨z, hz⟩ : ∃ z, (l.any fun x => decide (x < 0) || decide ((n : Int) < x / 2)) = z := ⟨_, rfl⟩
  rw [hz] at HC HKn
  rw [HKn.out]
  have HW1 := Lib.hid hW1
  clear HT hB q hr hl hz hW1 hb
  go_enter Tryz.func33, Tryz.ntmps33
  go_upto_region 1 with fail
  rw [HW1.out]
  clear HW1
  go_wp2_with (go_at_call 48; refine HC.out.mono ?_; rintro e w1 ⟨rfl, hK1⟩; have HK1 := Lib.hid hK1; clear hK1)
  go_ret
  exact ⟨rfl, HQ.out.trans HK1.out (fun _ _ h => h)⟩

end Go.Proofs.YthconjhldjaldaaGreatDoor

/-
  clause.Value, clause.Unit, by known values.
-/
namespace Go.Proofs.YthconjhldjaldaaGreatDoor
open Go.RowKit

/-- a clause's value -/
def clv (V c : List Int) : Int := if c.any (fun x => vlit V x == 1) then 1 else if c.any (fun x => vlit V x == 2) then 2 else 0
theorem clv_one {V c : List Int} {x : Int} (hx : x ∈ c) (h : vlit V x = 1) : clv V c = 1 := by
  unfold clv
  rw [if_pos (List.any_eq_true.2 ⟨x, hx, by simp [h]⟩)]
theorem clv_free {V c : List Int} {x : Int} (hx : x ∈ c) (h : vlit V x = 2) (hn : ∀ x ∈ c, vlit V x ≠ 1) : clv V c = 2 := by
  unfold clv
  rw [if_neg (by simpa using hn), if_pos (List.any_eq_true.2 ⟨x, hx, by simp [h]⟩)]
theorem clv_zero {V c : List Int} (h : AllNo V c) : clv V c = 0 := by
  unfold clv
  rw [if_neg, if_neg]
  · simp; intro x hx; rw [h x hx]; decide
  · simp; intro x hx; rw [h x hx]; decide
theorem clv_zero_iff {n : Nat} {V c : List Int} (hV : TV n V) (hc : KnC n c) : clv V c = 0 ↔ AllNo V c := by
  refine ⟨fun h => ?_, clv_zero⟩
  intro x hx
  rcases hV.vlit (hc x hx) with e | e | e
  · exact e
  · rw [clv_one hx e] at h; exact absurd h (by decide)
  · by_cases q : ∃ y ∈ c, vlit V y = 1
    · obtain ⟨y, hy, e2⟩ := q
      rw [clv_one hy e2] at h; exact absurd h (by decide)
    · rw [clv_free hx e (fun y hy e2 => q ⟨y, hy, e2⟩)] at h; exact absurd h (by decide)
theorem clv_one_iff {V c : List Int} : clv V c = 1 ↔ ∃ x ∈ c, vlit V x = 1 := by
  constructor
  · intro h
    unfold clv at h
    split at h
    · rename_i q
      obtain ⟨x, hx, e⟩ := List.any_eq_true.1 q
      exact ⟨x, hx, by simpa using e⟩
    · split at h
      · exact absurd h (by decide)
      · exact absurd h (by decide)
  · rintro ⟨x, hx, e⟩; exact clv_one hx e

/-- what the first k literals give -/
def ClvS (V c : List Int) (k : Nat) (s : Int) : Prop := (s = 0 ∧ ∀ i, i < k → vlit V (gi c i) = 0) ∨ (s = 2 ∧ (∃ i, i < k ∧ vlit V (gi c i) = 2) ∧ ∀ i, i < k → vlit V (gi c i) ≠ 1)
theorem ClvS.fin {V c : List Int} {s : Int} (h : ClvS V c c.length s) : s = clv V c := by
  rcases h with ⟨rfl, h⟩ | ⟨rfl, ⟨i, hi, h2⟩, h⟩
  · rw [clv_zero]
    intro x hx
    obtain ⟨i, hi, rfl⟩ := mem_gi hx
    exact h i hi
  · rw [clv_free (gi_mem hi) h2]
    intro x hx
    obtain ⟨j, hj, rfl⟩ := mem_gi hx
    exact h j hj
theorem ClvS.zero {V c : List Int} {k : Nat} {s : Int} (h : ClvS V c k s) (hz : vlit V (gi c k) = 0) : ClvS V c (k + 1) s := by
  rcases h with ⟨h1, h⟩ | ⟨h1, ⟨i, hi, h2⟩, h⟩
  · exact .inl ⟨h1, fun i hi => by by_cases q : i = k; rw [q]; exact hz; exact h i (by omega)⟩
  · exact .inr ⟨h1, ⟨i, by omega, h2⟩, fun i hi => by by_cases q : i = k; rw [q, hz]; decide; exact h i (by omega)⟩
theorem ClvS.free {V c : List Int} {k : Nat} {s : Int} (h : ClvS V c k s) (hz : vlit V (gi c k) = 2) : ClvS V c (k + 1) 2 := by
  refine .inr ⟨rfl, ⟨k, by omega, hz⟩, fun i hi => ?_⟩
  by_cases q : i = k
  · rw [q, hz]; decide
  · rcases h with ⟨_, h⟩ | ⟨_, _, h⟩
    · rw [h i (by omega)]; decide
    · exact h i (by omega)

set_option maxRecDepth 100000 in
set_option maxHeartbeats 4000000 in
theorem clause_Value (av : Option Addr) (mv cv : Nat) (V : List Int) (n : Nat) (a : Option Addr) (m cc : Nat) (c : List Int) (w : World) (hrv : RowAt w av (iv V)) (hV : TV n V) (hmv : n + 1 = mv) (hn : n ≤ 900000) (hr : RowAt w a (iv c)) (hm : c.length = m) (hm2 : m ≤ 1000000) (hc : KnC n c) :
    Calls Tryz.prog 38 #[.slice av mv cv, .slice a m cc] w fun e w' => e = .returned (.int .i64 (clv V c)) ∧ w = w' := by
  have HVal := Lib.hid (fun x hx => tri_Lit av mv cv V n x w hrv hV hmv (by omega) hx)
  have HR := Lib.hid hr
  have HC := Lib.hid hc
  have HL := Lib.hid hm
  have HV := Lib.hid hV
  clear hV hr hm hc hrv
  go_enter Tryz.func38, Tryz.ntmps38
  go_wp2_with fail
  go_loop [5, 10] (fun v5 v10 => ∃ (k : Nat) (s : Int), k ≤ m ∧ v10 = .int .i64 k ∧ v5 = .int .i64 s ∧ ClvS V c k s) (fun _ v10 => m - (intOf v10).toNat)
  case atStart => exact ⟨0, 0, Nat.zero_le _, rfl, rfl, .inl ⟨rfl, fun i hi => absurd hi (Nat.not_lt_zero i)⟩⟩
  case round =>
    obtain ⟨k, s, hk, rfl, rfl, hS⟩ := hrel
    have HS := Lib.hid hS
    clear hS
    by_cases hlt : k < m
    · have hkl : k < c.length := by rw [HL.out]; exact hlt
      obtain ⟨b, off, rfl, hcell⟩ := HR.out k _ (iv_at hkl)
      have hx := HC.out _ (gi_mem hkl)
      have HVx := Lib.hid (HVal.out _ hx)
      have hy := HV.out.vlit hx
      have HZ := Lib.hid (fun e => HS.out.zero e)
      have HF := Lib.hid (fun e => HS.out.free e)
      have HD1 := Lib.hid (fun (e : vlit V (gi c k) = 1) => clv_one (gi_mem hkl) e)
      obtain ⟨x, hxx⟩ : ∃ x, gi c k = x := ⟨_, rfl⟩
      simp only [hxx] at hcell HVx hy HZ HF HD1 hx
      obtain ⟨y, hyy⟩ : ∃ y, vlit V x = y := ⟨_, rfl⟩
      simp only [hyy] at HVx hy HZ HF HD1
      have i0 : (0 : Int) ≤ (k : Int) := by omega
      have i1 : (k : Int) < (m : Int) := by omega
      clear hx hxx hyy hkl HS
      rcases hy with rfl | rfl | rfl
      · have HZ1 := Lib.hid (HZ.out rfl)
        clear HZ HF HD1
        go_wp2_with (go_at_call 66; refine HVx.out.mono ?_; rintro e w' ⟨rfl, rfl⟩)
        go_round
        case rel => exact ⟨k + 1, s, hlt, by go_num, rfl, HZ1.out⟩
        case measure => simp [intOf]; omega
      · have HD := Lib.hid (HD1.out rfl)
        clear HZ HF HD1
        go_wp2_with (go_at_call 66; refine HVx.out.mono ?_; rintro e w' ⟨rfl, rfl⟩)
        go_ret
        rw [HD.out]
        exact ⟨rfl, rfl⟩
      · have HF1 := Lib.hid (HF.out rfl)
        clear HZ HF HD1
        go_wp2_with (go_at_call 66; refine HVx.out.mono ?_; rintro e w' ⟨rfl, rfl⟩)
        go_round
        case rel => exact ⟨k + 1, 2, hlt, by go_num, rfl, HF1.out⟩
        case measure => simp [intOf]; omega
    · have hk' : k = m := by omega
      subst hk'
      have HE := Lib.hid (show ClvS V c c.length s by rw [HL.out]; exact HS.out)
      clear HS
      have hno : decide ((k : Int) < (k : Int)) = false := by simp
      go_wp2_with fail
      go_ret
      rw [← HE.out.fin]
      exact ⟨rfl, rfl⟩

/-- the literal that is left, or none -/
def UnitP (V c : List Int) (e : Ending) : Prop :=
  (∃ l, OneL V c l ∧ e = .returned (.tuple #[.int .i64 l, .bool true])) ∨ ((∀ l, ¬ OneL V c l) ∧ e = .returned (.tuple #[.int .i64 0, .bool false]))

theorem LeftS.unit {V c : List Int} {l : Int} {u : Bool} (h : LeftS V c c.length l u) : UnitP V c (.returned (.tuple #[.int .i64 l, .bool u])) := by
  rcases h with ⟨rfl, rfl, h⟩ | ⟨rfl, ⟨i, hi, rfl⟩, h2, h⟩
  · refine .inr ⟨fun l hl => ?_, rfl⟩
    obtain ⟨i, hi, e⟩ := mem_gi hl.1
    have := h i hi
    rw [e, hl.2.1] at this
    exact absurd this (by decide)
  · exact .inl ⟨_, ⟨gi_mem hi, h2, fun x hx hn => by obtain ⟨j, hj, rfl⟩ := mem_gi hx; exact h j hj hn⟩, rfl⟩

set_option maxRecDepth 100000 in
set_option maxHeartbeats 4000000 in
theorem clause_Unit (av : Option Addr) (mv cv : Nat) (V : List Int) (n : Nat) (a : Option Addr) (m cc : Nat) (c : List Int) (w : World) (hrv : RowAt w av (iv V)) (hV : TV n V) (hmv : n + 1 = mv) (hn : n ≤ 900000) (hr : RowAt w a (iv c)) (hm : c.length = m) (hm2 : m ≤ 1000000) (hc : KnC n c) :
    Calls Tryz.prog 39 #[.slice av mv cv, .slice a m cc] w fun e w' => UnitP V c e ∧ w = w' := by
  have HVal := Lib.hid (fun x hx => tri_Lit av mv cv V n x w hrv hV hmv (by omega) hx)
  have HGood := Lib.hid (fun x (hx : KnL n x) => (lit_Good x w).mono (R' := fun e w' => e = .returned (.bool true) ∧ w = w') (by rintro e w' ⟨rfl, h⟩; rw [hx.gl (by omega)]; exact ⟨rfl, h⟩))
  have HR := Lib.hid hr
  have HC := Lib.hid hc
  have HL := Lib.hid hm
  have HV := Lib.hid hV
  clear hV hr hm hc hrv
  go_enter Tryz.func39, Tryz.ntmps39
  go_wp2_with fail
  go_loop [6, 12] (fun v6 v12 => ∃ (k : Nat) (l : Int) (u : Bool) (s : Int), k ≤ m ∧ v12 = .int .i64 k ∧ v6 = .int .i64 s ∧ ((u = true ∧ s = l ∧ 0 ≤ l) ∨ (u = false ∧ s = -1)) ∧ LeftS V c k l u) (fun _ v12 => m - (intOf v12).toNat)
  case atStart => exact ⟨0, 0, false, -1, Nat.zero_le _, rfl, rfl, .inr ⟨rfl, rfl⟩, .inl ⟨rfl, rfl, fun i hi => absurd hi (Nat.not_lt_zero i)⟩⟩
  case round =>
    obtain ⟨k, l, u, s, hk, rfl, rfl, hs, hS⟩ := hrel
    have HS := Lib.hid hS
    clear hS
    by_cases hlt : k < m
    · have hkl : k < c.length := by rw [HL.out]; exact hlt
      obtain ⟨b, off, rfl, hcell⟩ := HR.out k _ (iv_at hkl)
      have hx := HC.out _ (gi_mem hkl)
      have HVx := Lib.hid (HVal.out _ hx)
      have HGx := Lib.hid (HGood.out _ hx)
      have hy := HV.out.vlit hx
      have hx0 := hx.1
      have HZ := Lib.hid (fun e => HS.out.zero e)
      have HF := Lib.hid (fun e q => HS.out.free e q)
      have HD1 := Lib.hid (fun (e : vlit V (gi c k) = 1) => show ∀ l, ¬ OneL V c l from fun l hl => hl.not_done (.inl ⟨_, gi_mem hkl, e⟩))
      have HD2 := Lib.hid (fun (e : vlit V (gi c k) = 2) (hu : u = true) (hn : gi c k ≠ l) => show ∀ l, ¬ OneL V c l from by
        rcases HS.out with ⟨q, _⟩ | ⟨_, ⟨i, hi, e2⟩, h2, _⟩
        · rw [q] at hu; cases hu
        · exact fun l' hl => hl.not_done (.inr ⟨gi c k, gi_mem hkl, l, by rw [← e2]; exact gi_mem (by omega), hn, e, h2⟩))
      obtain ⟨x, hxx⟩ : ∃ x, gi c k = x := ⟨_, rfl⟩
      simp only [hxx] at hcell HVx hy HZ HF HD1 HD2 hx HGx hx0
      obtain ⟨y, hyy⟩ : ∃ y, vlit V x = y := ⟨_, rfl⟩
      simp only [hyy] at HVx hy HZ HF HD1 HD2
      have i0 : (0 : Int) ≤ (k : Int) := by omega
      have i1 : (k : Int) < (m : Int) := by omega
      clear hx hxx hyy hkl HS
      rcases hy with rfl | rfl | rfl
      · have HZ1 := Lib.hid (HZ.out rfl)
        have HSs := Lib.hid hs
        clear HZ HF HD1 HD2 hs
        go_wp2_with (go_at_call 66; refine HVx.out.mono ?_; rintro e w' ⟨rfl, rfl⟩)
        go_round
        case rel => exact ⟨k + 1, l, u, s, hlt, by go_num, rfl, HSs.out, HZ1.out⟩
        case measure => simp [intOf]; omega
      · have HD := Lib.hid (HD1.out rfl)
        clear HZ HF HD1 HD2 hs
        go_wp2_with (go_at_call 66; refine HVx.out.mono ?_; rintro e w' ⟨rfl, rfl⟩)
        exact bodyPost_ret (v := .tuple #[.int .i64 0, .bool false]) (by simp [results, Tryz.results39, go_sem]) rfl ⟨.inr ⟨HD.out, rfl⟩, rfl⟩
      · rcases hs with ⟨rfl, rfl, hl0⟩ | ⟨rfl, rfl⟩
        · by_cases hne : x = s
          · have HF1 := Lib.hid (HF.out rfl (fun _ => hne))
            have b0 : decide (0 ≤ s) = true := by simp [hl0]
            have b1 : (s == x) = true := by simp [hne]
            have b2 : (s != x) = false := by simp [hne]
            clear HZ HF HD1 HD2 hne
            go_wp2_with (first
              | (go_at_call 66; refine HVx.out.mono ?_; rintro e w' ⟨rfl, rfl⟩)
              | (go_at_call 50; refine HGx.out.mono ?_; rintro e w' ⟨rfl, rfl⟩))
            go_round
            case rel => exact ⟨k + 1, x, true, x, hlt, by go_num, rfl, .inl ⟨rfl, rfl, hx0⟩, HF1.out⟩
            case measure => simp [intOf]; omega
          · have HD := Lib.hid (HD2.out rfl rfl hne)
            have b0 : decide (0 ≤ s) = true := by simp [hl0]
            have b1 : (s == x) = false := by simp; exact fun e => hne e.symm
            have b2 : (s != x) = true := by simp; exact fun e => hne e.symm
            clear HZ HF HD1 HD2 hne
            go_wp2_with (first
              | (go_at_call 66; refine HVx.out.mono ?_; rintro e w' ⟨rfl, rfl⟩)
              | (go_at_call 50; refine HGx.out.mono ?_; rintro e w' ⟨rfl, rfl⟩))
            exact bodyPost_ret (v := .tuple #[.int .i64 0, .bool false]) (by simp [results, Tryz.results39, go_sem]) rfl ⟨.inr ⟨HD.out, rfl⟩, rfl⟩
        · have HF1 := Lib.hid (HF.out rfl (fun q => by cases q))
          clear HZ HF HD1 HD2
          go_wp2_with (first
            | (go_at_call 66; refine HVx.out.mono ?_; rintro e w' ⟨rfl, rfl⟩)
            | (go_at_call 50; refine HGx.out.mono ?_; rintro e w' ⟨rfl, rfl⟩))
          go_round
          case rel => exact ⟨k + 1, x, true, x, hlt, by go_num, rfl, .inl ⟨rfl, rfl, hx0⟩, HF1.out⟩
          case measure => simp [intOf]; omega
    · have hk' : k = m := by omega
      subst hk'
      have HE := Lib.hid (show LeftS V c c.length l u by rw [HL.out]; exact HS.out)
      clear HS
      have hno : decide ((k : Int) < (k : Int)) = false := by simp
      rcases hs with ⟨rfl, rfl, hl0⟩ | ⟨rfl, rfl⟩
      · have b0 : decide (0 ≤ s) = true := by simp [hl0]
        have b3 : max s 0 = s := by omega
        go_wp2_with fail
        exact bodyPost_ret (v := .tuple #[.int .i64 s, .bool true]) (by simp [results, Tryz.results39, go_sem]) rfl ⟨HE.out.unit, rfl⟩
      · have hl : l = 0 := by
          rcases HE.out with ⟨_, h, _⟩ | ⟨h, _⟩
          · exact h
          · cases h
        subst hl
        go_wp2_with fail
        exact bodyPost_ret (v := .tuple #[.int .i64 0, .bool false]) (by simp [results, Tryz.results39, go_sem]; decide) rfl ⟨HE.out.unit, rfl⟩

end Go.Proofs.YthconjhldjaldaaGreatDoor
