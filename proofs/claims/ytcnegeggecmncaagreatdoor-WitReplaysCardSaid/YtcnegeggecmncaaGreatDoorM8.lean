/-
  octet.Get and its reference: what they compute.
-/
import Derived.Test.YtcnegeggecmncaaGreatDoorRows
import Derived.Test.YtcnegeggecmncaaGreatDoorM7
import Derived.Shelf.Small.Strs
import Derived.Shelf.Small.Wraps
import Derived.Shelf.Strconv.Atoi
import Derived.Shelf.Strconv.Itoa0
import Derived.Shelf.Strconv.Itoa1
import Derived.Shelf.LaysM
import Derived.Shelf.Strconv.Itoa2
import Derived.Shelf.Strconv.Itoa3
import Derived.Shelf.Strings.Search1
import Derived.Shelf.Strings.Search2
import Derived.Shelf.Strings.Search3
import Derived.Shelf.Strings.Shaped
import Derived.Shelf.Strings.Prefix
import Derived.Ground.Names2Prog
import Derived.Shelf.Slices.Clone
import Derived.Test.YtcnegeggecmncaaGreatDoorProg
import Derived.Test.YtcnegeggecmncaaGreatDoorM1
import Derived.Lib.Builder
import Derived.Lib.AppendStr
import Derived.WalkKit
import Derived.Deep.QuietTactic
import Derived.BigQuiet
import Derived.WalkSmall
import Derived.Deep.RegionWith
import Derived.RegionTactic
import Derived.ChangeAlike
import Derived.Defers
import Derived.Tactics2
import Derived.Lib.Join
import Derived.RangeFuncNested
import Derived.RangeFuncBound
import Derived.RangeFuncCalls
import Derived.RangeFuncLeaves
import Derived.Shelf.Abstract
import Derived.Shelf.RegionOpen
import Derived.OwnWalkIn
import Derived.TacticsInMore
import Derived.LoopNIn
import Derived.LoopIn
import Derived.Deep.RegionHeld3
set_option linter.unusedVariables false
set_option linter.unusedSimpArgs false
namespace Go.Proofs.YtcnegeggecmncaaGreatDoor
open Go.RowKit

theorem octet_out (s : ByteArray) (x : Int) (w : World) :
    Calls Tryz.prog 68 #[.string s, .int .i64 x] w fun e w' => e = .returned (.bool (decide (x < 0) || decide ((s.size : Int) < x))) ∧ w = w' := by
  by_cases h : x < 0
  · go_enter Tryz.func68, Tryz.ntmps68
    go_wp2
    go_ret
    exact ⟨by simp [h], rfl⟩
  · go_enter Tryz.func68, Tryz.ntmps68
    go_wp2
    go_ret
    exact ⟨by simp; omega, rfl⟩

def tripV (r : Nat × Nat × Nat) : Value := .tuple #[.int .u32 r.1, .int .i64 r.2.1, .int .i64 r.2.2]

/-- what one round of getR comes to -/
theorem getR_step (s : ByteArray) (at_ r k n : Nat) :
    getR s at_ (r + 1) k n = if at_ + k = s.size then (0, 0, 3)
    else if k = 4 ∧ 15 < bt s (at_ + k) then (0, 0, 5)
    else if 0 < k ∧ bt s (at_ + k) = 0 then (0, 0, 2)
    else if bt s (at_ + k) < 128 then (n + bt s (at_ + k) % 128 * 128 ^ k, at_ + k + 1, 0)
    else getR s at_ r (k + 1) (n + bt s (at_ + k) % 128 * 128 ^ k) := rfl

theorem pow_le {k : Nat} (h : k ≤ 4) : 128 ^ k ≤ 268435456 := Nat.pow_le_pow_right (show 0 < 128 by decide) h

end Go.Proofs.YtcnegeggecmncaaGreatDoor

/-
  The library's contracts at this dump, as the kit's own tool lays them.
-/
namespace Go.Proofs
open Go.Shelf
end Go.Proofs

/-
  strings.Builder: copyCheck, WriteByte, WriteString at this dump, over the kit's own predicate (Lib.IsBuilder).
-/
namespace Go.Proofs.YtcnegeggecmncaaGreatDoor
open Go.RowKit

theorem bldByte : (Tryz.prog.info? 5).map (fun i => (i.zero, i.size, i.bytes)) = some (some (.int .u8 0), 1, 1) := by kernel_rfl

end Go.Proofs.YtcnegeggecmncaaGreatDoor

/-
  octet.Bits and the reference's: truths of signs.
-/
namespace Go.Proofs.YtcnegeggecmncaaGreatDoor
open Go.RowKit

def goodAt (s : ByteArray) (i : Nat) : Prop := bt s i = 48 ∨ bt s i = 49
instance (s : ByteArray) (i : Nat) : Decidable (goodAt s i) := by unfold goodAt; infer_instance
def bitAt (s : ByteArray) (i : Nat) : Bool := bt s i == 49
/-- the first k truths -/
def bitsL (s : ByteArray) (k : Nat) : List Bool := (List.range k).map (bitAt s)
def allGood (s : ByteArray) : Prop := ∀ i, i < s.size → goodAt s i
instance (s : ByteArray) : Decidable (allGood s) := by unfold allGood; infer_instance
def bitsR (s : ByteArray) : List Bool := if allGood s then bitsL s s.size else []
def bitsC (s : ByteArray) : Nat := if allGood s then 0 else 2
def bools (l : List Bool) : Array Value := (l.map Value.bool).toArray

theorem bitsL_succ (s : ByteArray) (k : Nat) : bitsL s (k + 1) = bitsL s k ++ [bitAt s k] := by simp [bitsL, List.range_succ]
theorem bitsL_length (s : ByteArray) (k : Nat) : (bitsL s k).length = k := by simp [bitsL]
theorem bools_get (l : List Bool) (i : Nat) : (bools l)[i]? = (l[i]?).map Value.bool := by simp [bools]
theorem bools_set (l : List Bool) (i : Nat) (x : Bool) : (bools l).setIfInBounds i (.bool x) = bools (l.set i x) := by simp [bools, List.map_set]

theorem made_bools (n : Nat) : madeCells #[.bool false] n = bools (List.replicate n false) := by
  apply Array.ext
  · simp [madeCells, bools]
  · intro i h1 h2
    simp [madeCells, bools, Nat.mod_one]

/-- a block of its own is owned -/
theorem own_bools {w : World} {b base : Nat} {l : List Bool} (h : Blk w b (bools l) 4) (hb : base ≤ b) (hl : l.length ≤ maxLen) :
    Own w base 4 (.slice (some ⟨b, 0, none⟩) l.length l.length) (l.map Value.bool) := by
  refine ⟨by simp, .inr ⟨b, l.length, bools l, by simp, hb, h, by simp, hl, by simp [bools], by simp [bools]; exact List.take_of_length_le (by simp)⟩⟩

/-- a sign that is none: not all are good -/
theorem notGood {s : ByteArray} {i : Nat} (h : i < s.size) (hb : ¬ goodAt s i) : bitsR s = [] ∧ bitsC s = 2 := by
  have : ¬ allGood s := fun hg => hb (hg i h)
  simp [bitsR, bitsC, this]

theorem isGood {s : ByteArray} (h : allGood s) : bitsR s = bitsL s s.size ∧ bitsC s = 0 := by simp [bitsR, bitsC, h]

theorem bits_step {s : ByteArray} {w wr : World} {k : Nat} {l : List Bool} {x : Bool} (hlt : k < s.size) (hl : l.length = s.size) (ht : l.take k = bitsL s k) (hg : ∀ j, j < k → goodAt s j) (hB : Blk wr w.heap.size (bools l) 4) (hK : Kp (fun _ => False) w wr) (hx : bitAt s k = x) (hk : goodAt s k) :
    ∃ (k1 : Nat) (l : List Bool), k1 ≤ s.size ∧ Value.int .i64 ((k : Int) + 1) = .int .i64 k1 ∧ l.length = s.size ∧ l.take k1 = bitsL s k1 ∧ (∀ j, j < k1 → goodAt s j) ∧ Blk (wr.setCell ⟨w.heap.size, k, none⟩ (.bool x)) w.heap.size (bools l) 4 ∧ Kp (fun _ => False) w (wr.setCell ⟨w.heap.size, k, none⟩ (.bool x)) := by
  refine ⟨k + 1, l.set k x, by omega, by simp, by simp [hl], ?_, fun j hj => ?_, ?_, hK.setCell (by simp) _⟩
  · rw [bitsL_succ, ← ht, hx, List.take_add_one, List.take_set_of_le (Nat.le_refl _), List.getElem?_set_self (by omega)]; rfl
  · by_cases e : j = k
    · subst e; exact hk
    · exact hg j (by omega)
  · rw [← bools_set]; exact hB.set_same k _

set_option maxHeartbeats 1000000 in
theorem octet_Bits (s : ByteArray) (w : World) (hs : s.size ≤ 100000) :
    Calls Tryz.prog 48 #[.string s] w fun e w' => ∃ v, e = .returned (.tuple #[v, .int .i64 (bitsC s)]) ∧ Own w' w.heap.size 4 v ((bitsR s).map Value.bool) ∧ Kp (fun _ => False) w w' := by
  obtain ⟨i0, hi, hz0, hz1, hz2⟩ := info_parts (show (Tryz.prog.info? 4).map (fun i => (i.zero, i.size, i.bytes)) = some (some (.bool false), 1, 1) by kernel_rfl)
  have hmk : ∀ u : World, (Instr.makeSlice 28 (.int .i64 (s.size : Int)) (.int .i64 (s.size : Int))).run Tryz.prog u =
      .ok (.slice (some ⟨u.heap.size, 0, none⟩) s.size s.size) (u.alloc (.cells (madeCells #[.bool false] s.size) 4)) := fun u => by
    have h := run_make (P := Tryz.prog) u 28 4 i0 (.bool false) Tryz.underlying28 hi hz0 .i64 .i64 (s.size : Int) (s.size : Int) (by omega) (Int.le_refl _) (by rw [hz2]; omega) (by omega)
    simpa [hz1, Value.cells] using h
  clear hi hz0 hz1 hz2 i0
  have hmade := made_bools s.size
  go_enter Tryz.func48, Tryz.ntmps48
  go_wp2_with fail
  go_loopw [11] (fun i wr => ∃ (k : Nat) (l : List Bool), k ≤ s.size ∧ i = .int .i64 k ∧ l.length = s.size ∧ l.take k = bitsL s k ∧ (∀ j, j < k → goodAt s j) ∧ Blk wr w.heap.size (bools l) 4 ∧ Kp (fun _ => False) w wr) (fun i _ => s.size - (intOf i).toNat)
  case atStart => exact ⟨0, List.replicate s.size false, Nat.zero_le _, rfl, by simp, by simp [bitsL], fun j hj => by omega, by rw [← hmade]; exact Blk.new _ _ _, (Kp.refl _ _).alloc _⟩
  case round =>
    obtain ⟨k, l, hk, rfl, hl, htk, hgd, hB, hK⟩ := hrel
    have HL := Lib.hid hl; clear hl
    have HT := Lib.hid htk; clear htk
    have HG := Lib.hid hgd; clear hgd
    clear hmade
    by_cases hlt : k < s.size
    · have hd : decide ((k : Int) < (s.size : Int)) = true := by simp; omega
      obtain ⟨x0, hx0⟩ : ∃ x0, l[k]? = some x0 := ⟨_, List.getElem?_eq_getElem (by rw [HL.out]; exact hlt)⟩
      have hc := hB.cell (i := k) (v := .bool x0) (by rw [bools_get, hx0]; rfl)
      have HX := Lib.hid hx0; clear hx0
      have hf := hB.free k
      have hb2 := bt_lt s k
      obtain ⟨b, hb0⟩ : ∃ b, b = bt s k := ⟨_, rfl⟩
      have hb := bt_eq hlt
      rw [← hb0] at hb2 hb
      have HB := Lib.hid hb0; clear hb0
      by_cases h1 : b = 49
      · subst h1
        go_wp2_with fail
        refine ⟨bits_step hlt HL.out HT.out HG.out hB hK (by simp [bitAt, ← HB.out]) (by unfold goodAt; exact .inr HB.out.symm), ?_⟩
        simp [intOf]; omega
      · by_cases h0 : b = 48
        · subst h0
          go_wp2_with fail
          refine ⟨bits_step hlt HL.out HT.out HG.out hB hK (by simp [bitAt, ← HB.out]) (by unfold goodAt; exact .inl HB.out.symm), ?_⟩
          simp [intOf]; omega
        · have h1i : ¬ (b : Int) = 49 := by omega
          have h0i : ¬ (b : Int) = 48 := by omega
          have HN := Lib.hid (notGood hlt (by unfold goodAt; rw [← HB.out]; omega))
          go_wp2_with fail
          case roundEnd => rename_i hx; exfalso; simp at hx; omega
          go_ret2
          rw [HN.out.1, HN.out.2]
          exact ⟨_, rfl, Own.nil _ _ _, hK.setCell (by simp) _⟩
    · have hd : decide ((k : Int) < (s.size : Int)) = false := by simp; omega
      have ek : k = s.size := by omega
      have HI := Lib.hid (isGood (s := s) (fun i hi => HG.out i (by omega)))
      go_wp2_with fail
      go_ret2
      have e : l = bitsL s s.size := by rw [← ek, ← HT.out, List.take_of_length_le (by rw [HL.out]; omega)]
      rw [HI.out.1, HI.out.2, ← e]
      refine ⟨_, rfl, ?_, hK⟩
      have := own_bools hB (Nat.le_refl _) (by rw [HL.out]; unfold maxLen; omega)
      rw [HL.out] at this
      exact this

end Go.Proofs.YtcnegeggecmncaaGreatDoor

/-
  A witness as text: what is read. No program in sight.
-/
namespace Go.Proofs.YtcnegeggecmncaaGreatDoor
open Go.RowKit

structure WitD where
  kind : Nat
  prop : Nat
  start : List Bool
  ins : List (List Bool)

/-- so many values -/
def rowR (t : ByteArray) (many : Int) : Option (List Bool) := if bitsC t = 0 ∧ ((bitsR t).length : Int) = many then some (bitsR t) else none

/-- the number behind a b -/
def propR (t : ByteArray) : Option Nat :=
  if 0 < t.size ∧ bt t 0 = 98 ∧ (natN (t.extract 1 t.size) 0).2.2 = 0 ∧ (natN (t.extract 1 t.size) 0).2.1 = (t.extract 1 t.size).size then some (natN (t.extract 1 t.size) 0).1 else none

/-- the witness behind one more line; none: the line is none -/
def stepR (t : ByteArray) (k : Nat) (la inp : Int) (w : WitD) : Option WitD :=
  if k = 0 then if t.size = 1 ∧ 48 ≤ bt t 0 ∧ bt t 0 ≤ 50 then some { w with kind := bt t 0 - 48 } else none
  else if k = 1 then (propR t).map (fun n => { w with prop := n })
  else if w.kind ≠ 1 then none
  else if k = 2 then (rowR t la).map (fun l => { w with start := l })
  else (rowR t inp).map (fun l => { w with ins := w.ins ++ [l] })

/-- whether a line is the last one -/
def lastR (t : ByteArray) (k : Nat) (w : WitD) : Bool := decide (t = ⟨#[46]⟩ ∧ (k = 2 ∧ w.kind ≠ 1 ∨ 3 < k))

inductive WitO where
  | bad (at_ e : Nat)
  | ok (w : WitD)

def witR (s : ByteArray) (la inp : Int) : Nat → Nat → Nat → WitD → WitO
  | 0, p, _, _ => .bad p 3
  | f + 1, p, k, w =>
    if (lineT s (p : Nat)).2.2 ≠ 0 then .bad p (lineT s (p : Nat)).2.2
    else if lastR (lineT s (p : Nat)).1 k w then if (lineT s (p : Nat)).2.1 < s.size then .bad (lineT s (p : Nat)).2.1 2 else .ok w
    else match stepR (lineT s (p : Nat)).1 k la inp w with
      | none => .bad p 2
      | some w' => witR s la inp f (lineT s (p : Nat)).2.1 (k + 1) w'

def wit0 : WitD := ⟨0, 0, [], []⟩

/-- what is read of a text -/
def witT (s : ByteArray) (la inp : Int) : WitO := if la < 0 ∨ inp < 0 then .bad 0 1 else witR s la inp (s.size + 2) 0 0 wit0

/-- the witness, the place, the error -/
def WitO.w : WitO → WitD
  | .bad _ _ => wit0
  | .ok w => w
def WitO.at_ (s : ByteArray) : WitO → Nat
  | .bad p _ => p
  | .ok _ => s.size
def WitO.e : WitO → Nat
  | .bad _ e => e
  | .ok _ => 0

/-- lines' last: a text that is at an end has no line -/
theorem lineT_over {s : ByteArray} {p : Nat} (h : p = s.size) : (lineT s (p : Nat)).2.2 = 3 := by
  subst h
  unfold lineT
  rw [if_neg (by omega), Int.toNat_natCast]
  rcases feed_cases s s.size with ⟨i, _, h1, h2, _⟩ | ⟨hf, _⟩
  · omega
  · rw [hf]

end Go.Proofs.YtcnegeggecmncaaGreatDoor

/-
  The library's contracts at this dump, as the kit's own tool lays them.
-/
namespace Go.Proofs
open Go.Shelf
def Tryz.lays137_ren : Go.Shelf.Ren := ⟨fun | 137 => 69 | 217 => 70 | 266 => 83 | n => n, fun | 9 => 9 | 5 => 5 | 3 => 3 | n => n, fun | n => n⟩
theorem Tryz.lays137 : Go.Proofs.Lays.n137 Tryz.prog Tryz.lays137_ren := {
  mixed := by kernel_rfl
  f137 := Tryz.func69.trans (congrArg some (by kernel_rfl))
  f217 := Tryz.func70.trans (congrArg some (by kernel_rfl))
  f266 := Tryz.func83.trans (congrArg some (by kernel_rfl))
  t3 := Tryz.underlying3
  a3 := Tryz.isAgg3
  z3 := Tryz.sizeOf3
  v3 := Tryz.zeroValue3
  t5 := Tryz.underlying5
  a5 := Tryz.isAgg5
  z5 := Tryz.sizeOf5
  v5 := Tryz.zeroValue5
  t9 := Tryz.underlying9
  a9 := Tryz.isAgg9
  z9 := Tryz.sizeOf9
  v9 := Tryz.zeroValue9 }
open Go.RowKit in
theorem Tryz.strings_IndexByte (s : ByteArray) (c : Int) (w : World) :
    Calls Tryz.prog 69 #[.string s, .int .u8 c] w fun e w' => e = .returned (.int .i64 (Lib.indexByte s.data.toList c.toNat.toUInt8)) ∧ w' = w := Any.strings_IndexByte Tryz.lays137 s c w
def Tryz.lays103_ren : Go.Shelf.Ren := ⟨fun | 103 => 46 | 210 => 74 | 206 => 85 | n => n, fun | 9 => 9 | 4 => 4 | 24 => 87 | 3 => 3 | n => n, fun | n => n⟩
theorem Tryz.lays103 : Go.Proofs.Lays.n103 Tryz.prog Tryz.lays103_ren := {
  mixed := by kernel_rfl
  f103 := Tryz.func46.trans (congrArg some (by kernel_rfl))
  f206 := Tryz.func85.trans (congrArg some (by kernel_rfl))
  f210 := Tryz.func74.trans (congrArg some (by kernel_rfl))
  t3 := Tryz.underlying3
  a3 := Tryz.isAgg3
  z3 := Tryz.sizeOf3
  v3 := Tryz.zeroValue3
  t4 := Tryz.underlying4
  a4 := Tryz.isAgg4
  z4 := Tryz.sizeOf4
  v4 := Tryz.zeroValue4
  t9 := Tryz.underlying9
  a9 := Tryz.isAgg9
  z9 := Tryz.sizeOf9
  v9 := Tryz.zeroValue9
  t24 := Tryz.underlying87
  a24 := Tryz.isAgg87
  z24 := Tryz.sizeOf87
  v24 := Tryz.zeroValue87 }
open Go.RowKit in
theorem Tryz.strings_CutPrefix (s p : ByteArray) (w : World) :
    Calls Tryz.prog 46 #[.string s, .string p] w fun e w' => e = .returned (.tuple #[.string ⟨(Lib.trimPrefix s.data.toList p.data.toList).toArray⟩, .bool (Lib.hasPrefix s.data.toList p.data.toList)]) ∧ w' = w := Any.strings_CutPrefix Tryz.lays103 s p w
def Tryz.lays172_ren : Go.Shelf.Ren := ⟨fun | 172 => 76 | 244 => 86 | 245 => 87 | 247 => 96 | 279 => 97 | 280 => 98 | 281 => 99 | 282 => 100 | 287 => 103 | 316 => 104 | 171 => 106 | 205 => 105 | 321 => 108 | 322 => 109 | 243 => 110 | 246 => 111 | 283 => 112 | 284 => 113 | 285 => 114 | 286 => 115 | 129 => 117 | 317 => 116 | 318 => 118 | 319 => 119 | 320 => 120 | 337 => 121 | 338 => 122 | n => n, fun | 9 => 9 | 3 => 3 | 75 => 117 | 76 => 118 | 4 => 4 | 5 => 5 | 167 => 141 | 37 => 142 | 0 => 0 | 85 => 143 | 2 => 2 | 168 => 145 | 53 => 149 | 175 => 151 | 46 => 114 | 210 => 155 | 127 => 162 | 145 => 165 | 143 => 163 | 21 => 21 | 171 => 167 | 173 => 170 | 212 => 173 | 51 => 127 | 20 => 20 | 213 => 174 | 232 => 177 | 233 => 178 | 80 => 179 | n => n, fun | 15 => 1 | 16 => 2 | 17 => 3 | 18 => 4 | 19 => 5 | n => n⟩
theorem Tryz.lays172 : Go.Proofs.Lays.n172 Tryz.prog Tryz.lays172_ren := {
  mixed := by kernel_rfl
  f129 := Tryz.func117.trans (congrArg some (by kernel_rfl))
  f171 := Tryz.func106.trans (congrArg some (by kernel_rfl))
  f172 := Tryz.func76.trans (congrArg some (by kernel_rfl))
  f205 := Tryz.func105.trans (congrArg some (by kernel_rfl))
  f243 := Tryz.func110.trans (congrArg some (by kernel_rfl))
  f244 := Tryz.func86.trans (congrArg some (by kernel_rfl))
  f245 := Tryz.func87.trans (congrArg some (by kernel_rfl))
  f246 := Tryz.func111.trans (congrArg some (by kernel_rfl))
  f247 := Tryz.func96.trans (congrArg some (by kernel_rfl))
  f279 := Tryz.func97.trans (congrArg some (by kernel_rfl))
  f280 := Tryz.func98.trans (congrArg some (by kernel_rfl))
  f281 := Tryz.func99.trans (congrArg some (by kernel_rfl))
  f282 := Tryz.func100.trans (congrArg some (by kernel_rfl))
  f283 := Tryz.func112.trans (congrArg some (by kernel_rfl))
  f284 := Tryz.func113.trans (congrArg some (by kernel_rfl))
  f285 := Tryz.func114.trans (congrArg some (by kernel_rfl))
  f286 := Tryz.func115.trans (congrArg some (by kernel_rfl))
  f287 := Tryz.func103.trans (congrArg some (by kernel_rfl))
  f316 := Tryz.func104.trans (congrArg some (by kernel_rfl))
  f317 := Tryz.func116.trans (congrArg some (by kernel_rfl))
  f318 := Tryz.func118.trans (congrArg some (by kernel_rfl))
  f319 := Tryz.func119.trans (congrArg some (by kernel_rfl))
  f320 := Tryz.func120.trans (congrArg some (by kernel_rfl))
  f321 := Tryz.func108.trans (congrArg some (by kernel_rfl))
  f322 := Tryz.func109.trans (congrArg some (by kernel_rfl))
  f337 := Tryz.func121.trans (congrArg some (by kernel_rfl))
  f338 := Tryz.func122.trans (congrArg some (by kernel_rfl))
  t0 := Tryz.underlying0
  a0 := Tryz.isAgg0
  z0 := Tryz.sizeOf0
  v0 := Tryz.zeroValue0
  t2 := Tryz.underlying2
  a2 := Tryz.isAgg2
  z2 := Tryz.sizeOf2
  v2 := Tryz.zeroValue2
  t3 := Tryz.underlying3
  a3 := Tryz.isAgg3
  z3 := Tryz.sizeOf3
  v3 := Tryz.zeroValue3
  t4 := Tryz.underlying4
  a4 := Tryz.isAgg4
  z4 := Tryz.sizeOf4
  v4 := Tryz.zeroValue4
  t5 := Tryz.underlying5
  a5 := Tryz.isAgg5
  z5 := Tryz.sizeOf5
  v5 := Tryz.zeroValue5
  t9 := Tryz.underlying9
  a9 := Tryz.isAgg9
  z9 := Tryz.sizeOf9
  v9 := Tryz.zeroValue9
  t20 := Tryz.underlying20
  a20 := Tryz.isAgg20
  z20 := Tryz.sizeOf20
  v20 := Tryz.zeroValue20
  t21 := Tryz.underlying21
  a21 := Tryz.isAgg21
  z21 := Tryz.sizeOf21
  v21 := Tryz.zeroValue21
  t37 := Tryz.underlying142
  a37 := Tryz.isAgg142
  z37 := Tryz.sizeOf142
  v37 := Tryz.zeroValue142
  t46 := Tryz.underlying114
  a46 := Tryz.isAgg114
  z46 := Tryz.sizeOf114
  v46 := Tryz.zeroValue114
  t51 := Tryz.underlying127
  a51 := Tryz.isAgg127
  z51 := Tryz.sizeOf127
  v51 := Tryz.zeroValue127
  t53 := Tryz.underlying149
  a53 := Tryz.isAgg149
  z53 := Tryz.sizeOf149
  v53 := Tryz.zeroValue149
  t75 := Tryz.underlying117
  a75 := Tryz.isAgg117
  z75 := Tryz.sizeOf117
  v75 := Tryz.zeroValue117
  t76 := Tryz.underlying118
  a76 := Tryz.isAgg118
  z76 := Tryz.sizeOf118
  v76 := Tryz.zeroValue118
  t85 := Tryz.underlying143
  a85 := Tryz.isAgg143
  z85 := Tryz.sizeOf143
  v85 := Tryz.zeroValue143
  t127 := Tryz.underlying162
  a127 := Tryz.isAgg162
  z127 := Tryz.sizeOf162
  v127 := Tryz.zeroValue162
  t143 := Tryz.underlying163
  a143 := Tryz.isAgg163
  z143 := Tryz.sizeOf163
  v143 := Tryz.zeroValue163
  t145 := Tryz.underlying165
  a145 := Tryz.isAgg165
  z145 := Tryz.sizeOf165
  v145 := Tryz.zeroValue165
  t167 := Tryz.underlying141
  a167 := Tryz.isAgg141
  z167 := Tryz.sizeOf141
  v167 := Tryz.zeroValue141
  t168 := Tryz.underlying145
  a168 := Tryz.isAgg145
  z168 := Tryz.sizeOf145
  v168 := Tryz.zeroValue145
  t171 := Tryz.underlying167
  a171 := Tryz.isAgg167
  z171 := Tryz.sizeOf167
  v171 := Tryz.zeroValue167
  t173 := Tryz.underlying170
  a173 := Tryz.isAgg170
  z173 := Tryz.sizeOf170
  v173 := Tryz.zeroValue170
  t175 := Tryz.underlying151
  a175 := Tryz.isAgg151
  z175 := Tryz.sizeOf151
  v175 := Tryz.zeroValue151
  t210 := Tryz.underlying155
  a210 := Tryz.isAgg155
  z210 := Tryz.sizeOf155
  v210 := Tryz.zeroValue155
  t212 := Tryz.underlying173
  a212 := Tryz.isAgg173
  z212 := Tryz.sizeOf173
  v212 := Tryz.zeroValue173
  t213 := Tryz.underlying174
  a213 := Tryz.isAgg174
  z213 := Tryz.sizeOf174
  t232 := Tryz.underlying177
  a232 := Tryz.isAgg177
  z232 := Tryz.sizeOf177
  v232 := Tryz.zeroValue177
  t233 := Tryz.underlying178
  a233 := Tryz.isAgg178
  z233 := Tryz.sizeOf178
  v233 := Tryz.zeroValue178
  g15 := by kernel_rfl
  g16 := by kernel_rfl
  g17 := by kernel_rfl
  g18 := by kernel_rfl
  g19 := by kernel_rfl }
open Go.RowKit in
theorem Tryz.strconv_Atoi (s : ByteArray) (n : Int) (hl : s.size ≤ 18) (h : Lib.atoi s.data.toList = some n) (w : World) :
    Calls Tryz.prog 76 #[.string s] w fun e w' => e = .returned (.tuple #[.int .i64 n, .nilIface]) ∧ ∃ t, w' = Lib.bytesWorld w 5 t := Any.strconv_Atoi Tryz.lays172 s n hl h w
def Tryz.laysM171_ren : Go.Shelf.Ren := ⟨fun | 171 => 106 | 243 => 110 | 246 => 111 | 283 => 112 | 284 => 113 | 285 => 114 | 286 => 115 | 129 => 117 | 317 => 116 | 318 => 118 | 319 => 119 | 320 => 120 | 337 => 121 | 338 => 122 | n => n, fun | 3 => 3 | 9 => 9 | 2 => 2 | 4 => 4 | 171 => 167 | 0 => 0 | 53 => 149 | 37 => 142 | 5 => 5 | 173 => 170 | 212 => 173 | 51 => 127 | 20 => 20 | 213 => 174 | 46 => 114 | 232 => 177 | 233 => 178 | n => n, fun | 17 => 3 | 18 => 4 | 19 => 5 | n => n⟩
theorem Tryz.laysM171 : Go.Proofs.LaysM.n171 Tryz.prog Tryz.laysM171_ren := {
  mixed := by kernel_rfl
  f129 := Tryz.func117.trans (congrArg some (by kernel_rfl))
  f171 := Tryz.func106.trans (congrArg some (by kernel_rfl))
  f243 := Tryz.func110.trans (congrArg some (by kernel_rfl))
  f246 := Tryz.func111.trans (congrArg some (by kernel_rfl))
  f283 := Tryz.func112.trans (congrArg some (by kernel_rfl))
  f284 := Tryz.func113.trans (congrArg some (by kernel_rfl))
  f285 := Tryz.func114.trans (congrArg some (by kernel_rfl))
  f286 := Tryz.func115.trans (congrArg some (by kernel_rfl))
  f317 := Tryz.func116.trans (congrArg some (by kernel_rfl))
  f318 := Tryz.func118.trans (congrArg some (by kernel_rfl))
  f319 := Tryz.func119.trans (congrArg some (by kernel_rfl))
  f320 := Tryz.func120.trans (congrArg some (by kernel_rfl))
  f337 := Tryz.func121.trans (congrArg some (by kernel_rfl))
  f338 := Tryz.func122.trans (congrArg some (by kernel_rfl))
  t0 := Tryz.underlying0
  a0 := Tryz.isAgg0
  z0 := Tryz.sizeOf0
  v0 := Tryz.zeroValue0
  t2 := Tryz.underlying2
  a2 := Tryz.isAgg2
  z2 := Tryz.sizeOf2
  v2 := Tryz.zeroValue2
  t3 := Tryz.underlying3
  a3 := Tryz.isAgg3
  z3 := Tryz.sizeOf3
  v3 := Tryz.zeroValue3
  t4 := Tryz.underlying4
  a4 := Tryz.isAgg4
  z4 := Tryz.sizeOf4
  v4 := Tryz.zeroValue4
  t5 := Tryz.underlying5
  a5 := Tryz.isAgg5
  z5 := Tryz.sizeOf5
  v5 := Tryz.zeroValue5
  t9 := Tryz.underlying9
  a9 := Tryz.isAgg9
  z9 := Tryz.sizeOf9
  v9 := Tryz.zeroValue9
  t20 := Tryz.underlying20
  a20 := Tryz.isAgg20
  z20 := Tryz.sizeOf20
  v20 := Tryz.zeroValue20
  t37 := Tryz.underlying142
  a37 := Tryz.isAgg142
  z37 := Tryz.sizeOf142
  v37 := Tryz.zeroValue142
  t46 := Tryz.underlying114
  a46 := Tryz.isAgg114
  z46 := Tryz.sizeOf114
  v46 := Tryz.zeroValue114
  t51 := Tryz.underlying127
  a51 := Tryz.isAgg127
  z51 := Tryz.sizeOf127
  v51 := Tryz.zeroValue127
  t53 := Tryz.underlying149
  a53 := Tryz.isAgg149
  z53 := Tryz.sizeOf149
  v53 := Tryz.zeroValue149
  t171 := Tryz.underlying167
  a171 := Tryz.isAgg167
  z171 := Tryz.sizeOf167
  v171 := Tryz.zeroValue167
  t173 := Tryz.underlying170
  a173 := Tryz.isAgg170
  z173 := Tryz.sizeOf170
  v173 := Tryz.zeroValue170
  t212 := Tryz.underlying173
  a212 := Tryz.isAgg173
  z212 := Tryz.sizeOf173
  v212 := Tryz.zeroValue173
  t213 := Tryz.underlying174
  a213 := Tryz.isAgg174
  z213 := Tryz.sizeOf174
  t232 := Tryz.underlying177
  a232 := Tryz.isAgg177
  z232 := Tryz.sizeOf177
  v232 := Tryz.zeroValue177
  t233 := Tryz.underlying178
  a233 := Tryz.isAgg178
  z233 := Tryz.sizeOf178
  v233 := Tryz.zeroValue178
  g17 := by kernel_rfl
  g18 := by kernel_rfl
  g19 := by kernel_rfl
  i0 := by kernel_rfl
  i2 := by kernel_rfl
  i3 := by kernel_rfl
  i4 := by kernel_rfl
  i5 := by kernel_rfl
  i9 := by kernel_rfl
  i20 := by kernel_rfl
  i37 := by kernel_rfl
  i46 := by kernel_rfl
  i51 := by kernel_rfl
  i53 := by kernel_rfl
  i171 := by kernel_rfl
  i173 := by kernel_rfl
  i212 := by kernel_rfl
  i232 := by kernel_rfl
  i233 := by kernel_rfl
  m17 := by kernel_rfl
  m18 := by kernel_rfl
  m19 := by kernel_rfl }
open Go.RowKit Go.Sort Go.Lib in
theorem Tryz.strconv_Itoa (n : Int) (h0 : -9223372036854775808 ≤ n) (h1 : n ≤ 9223372036854775807) (w : World) (htab : Lib.TabIs Tryz.prog w "internal/strconv.uint64pow10" .u64 Lib.pow10Tab) :
    Calls Tryz.prog 106 #[.int .i64 n] w fun e w' => e = .returned (.string ⟨(Lib.itoa n).toArray⟩) ∧ ∃ k os, w' = grow (w.drewN k) os := Any.strconv_Itoa Tryz.laysM171 n h0 h1 w htab
def Tryz.lays171_ren : Go.Shelf.Ren := ⟨fun | 171 => 106 | 243 => 110 | 246 => 111 | 283 => 112 | 284 => 113 | 285 => 114 | 286 => 115 | 129 => 117 | 317 => 116 | 318 => 118 | 319 => 119 | 320 => 120 | 337 => 121 | 338 => 122 | n => n, fun | 3 => 3 | 9 => 9 | 2 => 2 | 4 => 4 | 171 => 167 | 0 => 0 | 53 => 149 | 37 => 142 | 5 => 5 | 173 => 170 | 212 => 173 | 51 => 127 | 20 => 20 | 213 => 174 | 46 => 114 | 232 => 177 | 233 => 178 | n => n, fun | 17 => 3 | 18 => 4 | 19 => 5 | n => n⟩
theorem Tryz.lays171 : Go.Proofs.Lays.n171 Tryz.prog Tryz.lays171_ren := {
  mixed := by kernel_rfl
  f129 := Tryz.func117.trans (congrArg some (by kernel_rfl))
  f171 := Tryz.func106.trans (congrArg some (by kernel_rfl))
  f243 := Tryz.func110.trans (congrArg some (by kernel_rfl))
  f246 := Tryz.func111.trans (congrArg some (by kernel_rfl))
  f283 := Tryz.func112.trans (congrArg some (by kernel_rfl))
  f284 := Tryz.func113.trans (congrArg some (by kernel_rfl))
  f285 := Tryz.func114.trans (congrArg some (by kernel_rfl))
  f286 := Tryz.func115.trans (congrArg some (by kernel_rfl))
  f317 := Tryz.func116.trans (congrArg some (by kernel_rfl))
  f318 := Tryz.func118.trans (congrArg some (by kernel_rfl))
  f319 := Tryz.func119.trans (congrArg some (by kernel_rfl))
  f320 := Tryz.func120.trans (congrArg some (by kernel_rfl))
  f337 := Tryz.func121.trans (congrArg some (by kernel_rfl))
  f338 := Tryz.func122.trans (congrArg some (by kernel_rfl))
  t0 := Tryz.underlying0
  a0 := Tryz.isAgg0
  z0 := Tryz.sizeOf0
  v0 := Tryz.zeroValue0
  t2 := Tryz.underlying2
  a2 := Tryz.isAgg2
  z2 := Tryz.sizeOf2
  v2 := Tryz.zeroValue2
  t3 := Tryz.underlying3
  a3 := Tryz.isAgg3
  z3 := Tryz.sizeOf3
  v3 := Tryz.zeroValue3
  t4 := Tryz.underlying4
  a4 := Tryz.isAgg4
  z4 := Tryz.sizeOf4
  v4 := Tryz.zeroValue4
  t5 := Tryz.underlying5
  a5 := Tryz.isAgg5
  z5 := Tryz.sizeOf5
  v5 := Tryz.zeroValue5
  t9 := Tryz.underlying9
  a9 := Tryz.isAgg9
  z9 := Tryz.sizeOf9
  v9 := Tryz.zeroValue9
  t20 := Tryz.underlying20
  a20 := Tryz.isAgg20
  z20 := Tryz.sizeOf20
  v20 := Tryz.zeroValue20
  t37 := Tryz.underlying142
  a37 := Tryz.isAgg142
  z37 := Tryz.sizeOf142
  v37 := Tryz.zeroValue142
  t46 := Tryz.underlying114
  a46 := Tryz.isAgg114
  z46 := Tryz.sizeOf114
  v46 := Tryz.zeroValue114
  t51 := Tryz.underlying127
  a51 := Tryz.isAgg127
  z51 := Tryz.sizeOf127
  v51 := Tryz.zeroValue127
  t53 := Tryz.underlying149
  a53 := Tryz.isAgg149
  z53 := Tryz.sizeOf149
  v53 := Tryz.zeroValue149
  t171 := Tryz.underlying167
  a171 := Tryz.isAgg167
  z171 := Tryz.sizeOf167
  v171 := Tryz.zeroValue167
  t173 := Tryz.underlying170
  a173 := Tryz.isAgg170
  z173 := Tryz.sizeOf170
  v173 := Tryz.zeroValue170
  t212 := Tryz.underlying173
  a212 := Tryz.isAgg173
  z212 := Tryz.sizeOf173
  v212 := Tryz.zeroValue173
  t213 := Tryz.underlying174
  a213 := Tryz.isAgg174
  z213 := Tryz.sizeOf174
  t232 := Tryz.underlying177
  a232 := Tryz.isAgg177
  z232 := Tryz.sizeOf177
  v232 := Tryz.zeroValue177
  t233 := Tryz.underlying178
  a233 := Tryz.isAgg178
  z233 := Tryz.sizeOf178
  v233 := Tryz.zeroValue178
  g17 := by kernel_rfl
  g18 := by kernel_rfl
  g19 := by kernel_rfl }
open Go.RowKit Go.Sort Go.Lib in
theorem Tryz.strconv_Itoa_small (i : Nat) (hi : i < 100) (w : World) :
    Calls Tryz.prog 106 #[.int .i64 i] w fun e w' => e = .returned (.string ⟨(Lib.decDigits i).toArray⟩) ∧ w' = w := Any.strconv_Itoa_small Tryz.lays171 i hi w
def Tryz.lays143_ren : Go.Shelf.Ren := ⟨fun | 143 => 26 | 219 => 45 | 217 => 70 | 225 => 71 | 224 => 72 | 267 => 73 | 266 => 83 | 314 => 84 | n => n, fun | 9 => 9 | 3 => 3 | 4 => 4 | 5 => 5 | 46 => 114 | 146 => 128 | 51 => 127 | n => n, fun | 1 => 0 | n => n⟩
theorem Tryz.lays143 : Go.Proofs.Lays.n143 Tryz.prog Tryz.lays143_ren := {
  mixed := by kernel_rfl
  f143 := Tryz.func26.trans (congrArg some (by kernel_rfl))
  f217 := Tryz.func70.trans (congrArg some (by kernel_rfl))
  f219 := Tryz.func45.trans (congrArg some (by kernel_rfl))
  f224 := Tryz.func72.trans (congrArg some (by kernel_rfl))
  f225 := Tryz.func71.trans (congrArg some (by kernel_rfl))
  f266 := Tryz.func83.trans (congrArg some (by kernel_rfl))
  f267 := Tryz.func73.trans (congrArg some (by kernel_rfl))
  f314 := Tryz.func84.trans (congrArg some (by kernel_rfl))
  t3 := Tryz.underlying3
  a3 := Tryz.isAgg3
  z3 := Tryz.sizeOf3
  v3 := Tryz.zeroValue3
  t4 := Tryz.underlying4
  a4 := Tryz.isAgg4
  z4 := Tryz.sizeOf4
  v4 := Tryz.zeroValue4
  t5 := Tryz.underlying5
  a5 := Tryz.isAgg5
  z5 := Tryz.sizeOf5
  v5 := Tryz.zeroValue5
  t9 := Tryz.underlying9
  a9 := Tryz.isAgg9
  z9 := Tryz.sizeOf9
  v9 := Tryz.zeroValue9
  t46 := Tryz.underlying114
  a46 := Tryz.isAgg114
  z46 := Tryz.sizeOf114
  v46 := Tryz.zeroValue114
  t51 := Tryz.underlying127
  a51 := Tryz.isAgg127
  z51 := Tryz.sizeOf127
  v51 := Tryz.zeroValue127
  t146 := Tryz.underlying128
  a146 := Tryz.isAgg128
  z146 := Tryz.sizeOf128
  v146 := Tryz.zeroValue128
  g1 := by kernel_rfl }
open Go.RowKit Go.Lib in
theorem Tryz.strings_Index_one (s : ByteArray) (c : UInt8) (w : World) :
    Calls Tryz.prog 26 #[.string s, .string ⟨#[c]⟩] w fun e w' => e = .returned (.int .i64 (Lib.indexByte s.data.toList c)) ∧ w' = w := Any.strings_Index_one Tryz.lays143 s c w
open Go.RowKit Go.Lib in
theorem Tryz.strings_Index (s sub : ByteArray) (m : Int) (w : World) (hs : s.size < 4294967281) (hm : w.cell? ⟨0, 0, none⟩ = some (.int .i64 m)) :
    Calls Tryz.prog 26 #[.string s, .string sub] w fun e w' => e = .returned (.int .i64 (Lib.index s.data.toList sub.data.toList)) ∧ w' = w := Any.strings_Index Tryz.lays143 s sub m w hs hm
end Go.Proofs

/-
  octet.Line and the reference's Line.
-/
namespace Go.Proofs.YtcnegeggecmncaaGreatDoor
open Go.RowKit

def lineV (t : ByteArray × Nat × Nat) : Value := .tuple #[.string t.1, .int .i64 t.2.1, .int .i64 t.2.2]

theorem lineT_out {s : ByteArray} {x : Int} (h : x < 0 ∨ (s.size : Int) < x) : lineT s x = (⟨#[]⟩, 0, 1) := by unfold lineT; rw [if_pos h]
theorem lineT_in {s : ByteArray} {at_ : Nat} (h : at_ ≤ s.size) : lineT s at_ = match feedAt s at_ with | some i => (s.extract at_ i, i + 1, 0) | none => (⟨#[]⟩, 0, 3) := by
  unfold lineT; rw [if_neg (by omega), Int.toNat_natCast] <;> rfl

set_option maxRecDepth 100000 in
set_option maxHeartbeats 1000000 in
theorem octet_Line_in (s : ByteArray) (at_ : Nat) (w : World) (hs : s.size ≤ 9223372036854775000) (ha : at_ ≤ s.size) :
    Calls Tryz.prog 44 #[.string s, .int .i64 at_] w fun e w' => e = .returned (lineV (lineT s at_)) ∧ w = w' := by
  have o1 : (decide ((at_ : Int) < 0) || decide ((s.size : Int) < (at_ : Int))) = false := by simp; omega
  have HI := Lib.hid (feed_index s at_)
  have HT := Lib.hid (lineT_in ha)
  rcases feed_cases s at_ with ⟨i, hf, h1, h2, h3, h4⟩ | ⟨hf, h4⟩
  · rw [hf] at HI HT
    clear hf h3 h4
    obtain ⟨n, rfl⟩ : ∃ n, i = at_ + n := ⟨i - at_, by omega⟩
    simp only [show at_ + n - at_ = n by omega] at HI
    go_enter Tryz.func44, Tryz.ntmps44
    go_wp2_with fail
    refine (octet_out _ _ _).mono ?_
    rintro e w' ⟨rfl, rfl⟩
    rw [o1]
    go_wp2_with fail
    refine (Tryz.strings_IndexByte _ _ _).mono ?_
    rintro e w' ⟨rfl, hw⟩
    have hw' := hw.symm; clear hw; subst hw'
    rw [show ((10 : Int).toNat.toUInt8) = 10 from rfl, HI.out]
    simp only
    go_wp2_with fail
    go_ret3
    rw [HT.out]
    exact ⟨rfl, rfl⟩
  · rw [hf] at HI HT
    clear hf h4
    go_enter Tryz.func44, Tryz.ntmps44
    go_wp2_with fail
    refine (octet_out _ _ _).mono ?_
    rintro e w' ⟨rfl, rfl⟩
    rw [o1]
    go_wp2_with fail
    refine (Tryz.strings_IndexByte _ _ _).mono ?_
    rintro e w' ⟨rfl, hw⟩
    have hw' := hw.symm; clear hw; subst hw'
    rw [show ((10 : Int).toNat.toUInt8) = 10 from rfl, HI.out]
    simp only
    go_wp2_with fail
    go_ret3
    rw [HT.out]
    exact ⟨rfl, rfl⟩

theorem octet_Line (s : ByteArray) (x : Int) (w : World) (hs : s.size ≤ 9223372036854775000) :
    Calls Tryz.prog 44 #[.string s, .int .i64 x] w fun e w' => e = .returned (lineV (lineT s x)) ∧ w = w' := by
  by_cases h : x < 0 ∨ (s.size : Int) < x
  · have HT := Lib.hid (lineT_out h)
    have o1 : (decide (x < 0) || decide ((s.size : Int) < x)) = true := by simpa using h
    clear h
    go_enter Tryz.func44, Tryz.ntmps44
    go_wp2_with fail
    refine (octet_out _ _ _).mono ?_
    rintro e w' ⟨rfl, rfl⟩
    rw [o1]
    go_wp2_with fail
    go_ret3
    rw [HT.out]
    exact ⟨rfl, rfl⟩
  · obtain ⟨at_, rfl⟩ : ∃ at_ : Nat, x = at_ := ⟨x.toNat, by omega⟩
    exact octet_Line_in s at_ w hs (by omega)

end Go.Proofs.YtcnegeggecmncaaGreatDoor

/-
  octet.Words, the reference's Words and Strings.
-/
namespace Go.Proofs.YtcnegeggecmncaaGreatDoor
open Go.RowKit

theorem bt_is {s : ByteArray} {i : Nat} {c : UInt8} : s.data.toList[i]? = some c ↔ i < s.size ∧ bt s i = c.toNat := by
  constructor
  · intro h
    have hi : i < s.data.toList.length := (List.getElem?_eq_some_iff.1 h).1
    have hi' : i < s.size := by simpa using hi
    refine ⟨hi', ?_⟩
    rw [← bt_eq hi']
    have h2 := (List.getElem?_eq_some_iff.1 h).2
    have : s[i] = c := h2
    rw [this]
  · rintro ⟨hi, hb⟩
    rw [List.getElem?_eq_getElem (by simpa using hi)]
    rw [← bt_eq hi] at hb
    have : s[i] = c := UInt8.toNat_inj.1 hb
    exact congrArg some this

def mkW (l : List UInt8) : List ByteArray := (wordsF l).map (fun x => (⟨x.toArray⟩ : ByteArray))
def wordsB (s : ByteArray) : List ByteArray := mkW s.data.toList
def noBlank (s : ByteArray) (a b : Nat) : Prop := ∀ j, a ≤ j → j < b → bt s j ≠ 32

theorem mk_data (b : ByteArray) : (⟨b.data.toList.toArray⟩ : ByteArray) = b := by apply ByteArray.ext; simp

theorem noBlank_piece {s : ByteArray} {a b : Nat} (hn : noBlank s a b) : ∀ x ∈ (s.data.toList.drop a).take (b - a), x ≠ 32 := by
  intro x hx h32
  obtain ⟨k, hk⟩ := List.mem_iff_getElem?.1 hx
  rw [List.getElem?_take] at hk
  split at hk
  · rw [List.getElem?_drop, h32] at hk
    exact hn (a + k) (by omega) (by omega) (bt_is.1 hk).2
  · cases hk

theorem words_blank {s : ByteArray} {a k : Nat} (h1 : a ≤ k) (h2 : k < s.size) (hb : bt s k = 32) (hn : noBlank s a k) :
    mkW (s.data.toList.drop a) = s.extract a k :: mkW (s.data.toList.drop (k + 1)) := by
  have hk : s.data.toList[k]? = some 32 := bt_is.2 ⟨h2, hb⟩
  have hlt : k < s.data.toList.length := (List.getElem?_eq_some_iff.1 hk).1
  have hv := (List.getElem?_eq_some_iff.1 hk).2
  have e : s.data.toList.drop a = (s.data.toList.drop a).take (k - a) ++ 32 :: s.data.toList.drop (k + 1) := by
    conv => lhs; rw [← List.take_append_drop (k - a) (s.data.toList.drop a)]
    rw [List.drop_drop, show a + (k - a) = k by omega, List.drop_eq_getElem_cons hlt, hv]
  unfold mkW
  rw [e, words_app _ (noBlank_piece hn), List.map_cons]
  congr 1
  rw [← Lib.extract_data, mk_data]

theorem words_end {s : ByteArray} {a : Nat} (hn : noBlank s a s.size) : mkW (s.data.toList.drop a) = [s.extract a s.size] := by
  have e : s.data.toList.drop a = (s.data.toList.drop a).take (s.size - a) := by
    rw [List.take_of_length_le (by rw [List.length_drop]; exact Nat.le_refl _)]
  unfold mkW
  rw [e, words_none (noBlank_piece hn), ← Lib.extract_data, List.map_cons, mk_data]; rfl

/-- the strings as cells -/
def strs (L : List ByteArray) : List Value := L.map Value.string

theorem splitB_words (s : ByteArray) : Lib.splitB ⟨#[32]⟩ 0 (Lib.countB s ⟨#[32]⟩) s = wordsB s := by
  have h := Lib.splitB_data ⟨#[32]⟩ 0 (Lib.countB s ⟨#[32]⟩) s
  have h2 := split_words _ s.data.toList (Nat.le_refl _)
  have h3 : (Lib.splitB ⟨#[32]⟩ 0 (Lib.countB s ⟨#[32]⟩) s).map (·.data.toList) = wordsF s.data.toList := h.trans h2
  unfold wordsB mkW
  rw [← h3, List.map_map]
  conv => lhs; rw [← List.map_id (Lib.splitB ⟨#[32]⟩ 0 (Lib.countB s ⟨#[32]⟩) s)]
  apply List.map_congr_left
  intro b _
  exact (mk_data b).symm

theorem count_words (s : ByteArray) : Lib.countB s ⟨#[32]⟩ + 1 = (wordsB s).length := by
  rw [← splitB_words]
  exact (Lib.splitB_all ⟨#[32]⟩ (by decide) 0 _ s rfl).symm

theorem count_le (s : ByteArray) : Lib.countB s ⟨#[32]⟩ ≤ s.size := Lib.countB_le ⟨#[32]⟩ (by decide) s.size s (Nat.le_refl _)

/-- a block of strings of its own is owned -/
theorem own_strs {w : World} {b base : Nat} {L : List ByteArray} (h : Blk w b (strs L).toArray 9) (hb : base ≤ b) (hl : L.length ≤ maxLen) :
    Own w base 9 (.slice (some ⟨b, 0, none⟩) L.length L.length) (strs L) := by
  refine ⟨by simp [strs], .inr ⟨b, L.length, (strs L).toArray, by simp [strs], hb, h, by simp [strs], hl, by simp [strs], by simp [strs]; exact List.take_of_length_le (by simp)⟩⟩

theorem strInfo : (Tryz.prog.info? 9).map (fun i => (i.zero, i.size, i.bytes)) = some (some (.string .empty), 1, 16) := by kernel_rfl

theorem strs_snoc (L : List ByteArray) (b : ByteArray) : strs (L ++ [b]) = strs L ++ [.string b] := by simp [strs]
theorem strs_length (L : List ByteArray) : (strs L).length = L.length := by simp [strs]

end Go.Proofs.YtcnegeggecmncaaGreatDoor

/-
  Literals, and a derivation's lines, as text: what is read. No program in sight.
-/
namespace Go.Proofs.YtcnegeggecmncaaGreatDoor
open Go.RowKit

/-- a literal's word begins with the sign of an inverse -/
def negW (w : ByteArray) : Bool := decide (0 < w.size ∧ bt w 0 = 33)
def digW (w : ByteArray) : ByteArray := if negW w then w.extract 1 w.size else w

/-- the literal of a word -/
def litR (w : ByteArray) : Option Nat :=
  if (natN (digW w) 0).2.2 = 0 ∧ (natN (digW w) 0).2.1 = (digW w).size ∧ (natN (digW w) 0).1 ≤ 16777216 then some (2 * (natN (digW w) 0).1 + (if negW w then 1 else 0)) else none

def litsR : List ByteArray → Option (List Nat)
  | [] => some []
  | w :: ws => match litR w, litsR ws with
    | some x, some l => some (x :: l)
    | _, _ => none

theorem litsR_append : ∀ a b : List ByteArray, litsR (a ++ b) = match litsR a, litsR b with
    | some x, some y => some (x ++ y)
    | _, _ => none
  | [], b => by simp only [List.nil_append, litsR]; cases litsR b <;> rfl
  | w :: a, b => by
    rw [List.cons_append]
    simp only [litsR]
    rw [litsR_append a b]
    cases litR w <;> cases litsR a <;> cases litsR b <;> rfl

theorem litsR_len : ∀ {a : List ByteArray} {l : List Nat}, litsR a = some l → l.length = a.length
  | [], l, h => by simp [litsR] at h; subst h; rfl
  | w :: a, l, h => by
    simp only [litsR] at h
    cases h1 : litR w with
    | none => rw [h1] at h; simp at h
    | some x =>
      cases h2 : litsR a with
      | none => rw [h1, h2] at h; simp at h
      | some y =>
        rw [h1, h2] at h
        simp at h
        subst h
        simp [litsR_len h2]

theorem litsR_bad {a : List ByteArray} {k : Nat} {w : ByteArray} (hk : a[k]? = some w) (h : litR w = none) : litsR a = none := by
  have hl : k < a.length := (List.getElem?_eq_some_iff.1 hk).1
  have e : a = a.take k ++ w :: a.drop (k + 1) := by
    have h1 := List.take_append_drop k a
    rw [List.drop_eq_getElem_cons hl] at h1
    rw [List.getElem?_eq_getElem hl] at hk
    rw [Option.some.inj hk] at h1
    exact h1.symm
  rw [e, litsR_append]
  simp only [litsR, h]
  cases litsR (a.take k) <;> rfl

theorem litsR_snoc {a : List ByteArray} {l : List Nat} {w : ByteArray} {x : Nat} (h1 : litsR a = some l) (h2 : litR w = some x) : litsR (a ++ [w]) = some (l ++ [x]) := by
  rw [litsR_append, h1]
  simp [litsR, h2]

/-- the line of a text without its end -/
def lineR (s : ByteArray) : Option (Bool × List Nat) :=
  match wordsB s with
  | [] => none
  | w :: ws => if w = ⟨#[43]⟩ then (litsR ws).map (fun l => (false, l)) else if w = ⟨#[45]⟩ then (litsR ws).map (fun l => (true, l)) else none

structure DerR where
  l : List (Bool × List Nat)
  n : Nat
  e : Nat

def derivR (s : ByteArray) : Nat → List (Bool × List Nat) → Nat → Nat → DerR
  | 0, L, _, _ => ⟨L, 0, 0⟩
  | f + 1, L, p, n =>
    if s.size ≤ p then ⟨L, 0, 0⟩
    else if (lineT s (p : Nat)).2.2 ≠ 0 then ⟨[], n + 1, (lineT s (p : Nat)).2.2⟩
    else match lineR (lineT s (p : Nat)).1 with
      | none => ⟨[], n + 1, 2⟩
      | some x => derivR s f (L ++ [x]) (lineT s (p : Nat)).2.1 (n + 1)

/-- what is read of a text -/
def derivT (s : ByteArray) : DerR := if 1048576 < s.size then ⟨[], 0, 4⟩ else derivR s (s.size + 1) [] 0 0

end Go.Proofs.YtcnegeggecmncaaGreatDoor

/-
  octet.Nat and its reference: what they compute.
-/
namespace Go.Proofs.YtcnegeggecmncaaGreatDoor
open Go.RowKit

def tripI (r : Nat × Nat × Nat) : Value := .tuple #[.int .i64 r.1, .int .i64 r.2.1, .int .i64 r.2.2]

theorem octet_digit (b : Nat) (w : World) (hb : b < 256) :
    Calls Tryz.prog 75 #[.int .u8 b] w fun e w' => e = .returned (.bool (decide (48 ≤ b ∧ b ≤ 57))) ∧ w = w' := by
  by_cases h1 : 48 ≤ b
  · by_cases h2 : b ≤ 57
    · have e := Lib.hid (show decide (48 ≤ b ∧ b ≤ 57) = true by simp [h1, h2])
      go_enter Tryz.func75, Tryz.ntmps75
      go_wp2
      go_ret
      rw [e.out]
      exact ⟨by simp; omega, rfl⟩
    · have e := Lib.hid (show decide (48 ≤ b ∧ b ≤ 57) = false by simp [h2])
      go_enter Tryz.func75, Tryz.ntmps75
      go_wp2
      go_ret
      rw [e.out]
      exact ⟨by simp; omega, rfl⟩
  · have e := Lib.hid (show decide (48 ≤ b ∧ b ≤ 57) = false by simp [h1])
    go_enter Tryz.func75, Tryz.ntmps75
    go_wp2
    go_ret
    first | exact ⟨rfl, rfl⟩ | (rw [e.out]; exact ⟨rfl, rfl⟩)

theorem Kp.freeze {S : Nat → Prop} {a w : World} (h : Kp S a w) {p : Addr} (hp : p.block < a.heap.size → S p.block) (n : Nat) : Kp S a (w.freeze p n) := by
  unfold World.freeze
  split
  · exact h
  · refine ⟨h.os, h.tape, h.output, by simpa using h.size, fun k hk hS => ?_⟩
    show (w.heap.modify p.block _)[k]? = _
    rw [Array.getElem?_modify, if_neg (fun e => hS (by subst e; exact hp hk))]
    exact h.block k hk hS

theorem kp_bytesWorld (w : World) (e : TypeId) (t : ByteArray) : Kp (fun _ => False) w (Lib.bytesWorld w e t) := by
  unfold Lib.bytesWorld
  exact Kp.freeze (((Kp.refl _ w).drew).alloc _) (fun h => absurd h (by simp)) 1

set_option maxRecDepth 100000 in
set_option maxHeartbeats 1000000 in
theorem octet_Nat_in (s : ByteArray) (at_ : Nat) (w : World) (hs : s.size ≤ 9223372036854775000) (ha : at_ ≤ s.size) :
    Calls Tryz.prog 47 #[.string s, .int .i64 at_] w fun e w' => e = .returned (tripI (natN s at_)) ∧ Kp (fun _ => False) w w' := by
  have o1 : (decide ((at_ : Int) < 0) || decide ((s.size : Int) < (at_ : Int))) = false := by simp; omega
  go_enter Tryz.func47, Tryz.ntmps47
  go_wp2_with fail
  refine (octet_out _ _ _).mono ?_
  rintro e w' ⟨rfl, rfl⟩
  rw [o1]
  go_wp2_with fail
  go_loop [7] (fun v7 => ∃ j : Nat, v7 = .int .i64 j ∧ at_ ≤ j ∧ j ≤ s.size ∧ ∀ k, at_ ≤ k → k < j → isDig s k) (fun v7 => s.size - (intOf v7).toNat)
  case atStart => exact ⟨at_, rfl, by omega, by omega, fun k h1 h2 => by omega⟩
  case round =>
    obtain ⟨j, rfl, hj1, hj2, hd⟩ := hrel
    have HD := Lib.hid hd; clear hd
    by_cases hlt : j < s.size
    · have hb2 := bt_lt s j
      obtain ⟨B, hB⟩ : ∃ B, B = bt s j := ⟨_, rfl⟩
      have hb := bt_eq hlt
      rw [← hB] at hb2 hb
      have HB := Lib.hid hB; clear hB
      by_cases hdig : 48 ≤ B ∧ B ≤ 57
      · have hb3 : decide (48 ≤ B ∧ B ≤ 57) = true := by simp [hdig]
        go_wp2_with fail
        refine (octet_digit B _ hb2).mono ?_
        rintro e w' ⟨rfl, rfl⟩
        rw [hb3]
        go_wp2_with fail
        go_round
        case rel =>
          refine ⟨j + 1, by go_num, by omega, by omega, fun k h1 h2 => ?_⟩
          by_cases e : k = j
          · subst e; unfold isDig; rw [← HB.out]; exact hdig
          · exact HD.out k h1 (by omega)
        case measure => simp [intOf]; omega
      · have hb3 : decide (48 ≤ B ∧ B ≤ 57) = false := by simp only [hdig, decide_false]
        have HE := Lib.hid (endOf_is hj1 hj2 HD.out (.inr (by unfold isDig; rw [← HB.out]; exact hdig)))
        go_wp2_with fail
        refine (octet_digit B _ hb2).mono ?_
        rintro e w' ⟨rfl, rfl⟩
        rw [hb3]
        clear hb hb3 hdig HB hb2
        obtain ⟨n, rfl⟩ : ∃ n, j = at_ + n := ⟨j - at_, by omega⟩
        have HNN : Hid (natN s at_ = if at_ = s.size then (0, 0, 3) else if n = 0 ∨ bt s at_ = 48 ∧ 1 < n then (0, 0, 2) else if 9 < n then (0, 0, 5) else (numb s at_ n, at_ + n, 0)) := by
          show natN s at_ = _
          unfold natN
          rw [HE.out, show at_ + n - at_ = n from by omega]
          simp only [show (at_ + n = at_) = (n = 0) from propext (by omega), show (at_ + 1 < at_ + n) = (1 < n) from propext (by omega)]
        clear HE
        by_cases hend : at_ = s.size
        · have t1 : ((at_ : Int) == (s.size : Int)) = true := by rw [beq_iff_eq]; omega
          rw [if_pos hend] at HNN
          clear hend
          go_wp2_with fail
          go_ret3
          rw [HNN.out]
          exact ⟨rfl, Kp.refl _ _⟩
        · have t1 : ((at_ : Int) == (s.size : Int)) = false := by rw [beq_eq_false_iff_ne]; omega
          rw [if_neg hend] at HNN
          by_cases hn0 : n = 0
          · subst hn0
            have e1 : (s.extract at_ at_).toList = [] := cut_empty s at_
            have e2 : (s.extract at_ at_).toList.isEmpty = true := by rw [e1]; rfl
            rw [if_pos (.inl rfl)] at HNN
            rw [Nat.add_zero] at *
            clear hend
            go_wp2_with fail
            go_ret3
            rw [HNN.out]
            exact ⟨rfl, Kp.refl _ _⟩
          · have hcs := cut_size (s := s) (i := at_) (n := n) hj2
            have hsz : 0 < (s.extract at_ (at_ + n)).size := by rw [hcs]; omega
            have e1 := cut_some hj2 (show 0 < n by omega)
            have e2 : (s.extract at_ (at_ + n)).toList.isEmpty = false := by simpa using e1
            have hc0 := cut_first hj2 hsz
            have hC := bt_lt s at_
            generalize bt s at_ = C at hc0 HNN hC
            have HAT := Lib.hid (show Lib.atoi (s.extract at_ (at_ + n)).data.toList = some (numb s at_ n : Int) by rw [cut_list]; exact word_atoi (by omega) hj2 (fun k hk => HD.out (at_ + k) (by omega) (by omega)))
            by_cases h48 : C = 48 ∧ 1 < n
            · obtain ⟨rfl, hn1⟩ := h48
              rw [if_pos (.inr ⟨rfl, hn1⟩)] at HNN
              have d1 : decide ((1 : Int) < (n : Int)) = true := by simp; omega
              go_wp2_with fail
              go_ret3
              rw [HNN.out]
              exact ⟨rfl, Kp.refl _ _⟩
            · rw [if_neg (by omega)] at HNN
              by_cases hn9 : 9 < n
              · rw [if_pos hn9] at HNN
                have hC48 : ¬ C = 48 := by omega
                have hC48i : ¬ (C : Int) = 48 := by omega
                have d1 : decide ((9 : Int) < (n : Int)) = true := by simp; omega
                go_wp2_with fail
                go_ret3
                rw [HNN.out]
                exact ⟨rfl, Kp.refl _ _⟩
              · rw [if_neg hn9] at HNN
                have d1 : decide ((9 : Int) < (n : Int)) = false := by simp; omega
                have hnum := numb_lt (s := s) (i := at_) n (fun k hk => HD.out (at_ + k) (by omega) (by omega))
                by_cases hC48 : C = 48
                · subst hC48
                  obtain rfl : n = 1 := by omega
                  go_wp2_with fail
                  refine (Tryz.strconv_Atoi _ _ (by rw [hcs]; omega) HAT.out _).mono ?_
                  rintro e w1 ⟨rfl, t, rfl⟩
                  go_wp2_with fail
                  go_ret3
                  rw [HNN.out]
                  exact ⟨rfl, kp_bytesWorld _ _ _⟩
                · have hC48i : ¬ (C : Int) = 48 := by omega
                  go_wp2_with fail
                  refine (Tryz.strconv_Atoi _ _ (by rw [hcs]; omega) HAT.out _).mono ?_
                  rintro e w1 ⟨rfl, t, rfl⟩
                  go_wp2_with fail
                  go_ret3
                  rw [HNN.out]
                  exact ⟨rfl, kp_bytesWorld _ _ _⟩
    · have HE := Lib.hid (endOf_is hj1 hj2 HD.out (.inl (by omega)))
      obtain ⟨n, rfl⟩ : ∃ n, j = at_ + n := ⟨j - at_, by omega⟩
      have HNN : Hid (natN s at_ = if at_ = s.size then (0, 0, 3) else if n = 0 ∨ bt s at_ = 48 ∧ 1 < n then (0, 0, 2) else if 9 < n then (0, 0, 5) else (numb s at_ n, at_ + n, 0)) := by
        show natN s at_ = _
        unfold natN
        rw [HE.out, show at_ + n - at_ = n from by omega]
        simp only [show (at_ + n = at_) = (n = 0) from propext (by omega), show (at_ + 1 < at_ + n) = (1 < n) from propext (by omega)]
      clear HE
      by_cases hend : at_ = s.size
      · have t1 : ((at_ : Int) == (s.size : Int)) = true := by rw [beq_iff_eq]; omega
        rw [if_pos hend] at HNN
        clear hend
        go_wp2_with fail
        go_ret3
        rw [HNN.out]
        exact ⟨rfl, Kp.refl _ _⟩
      · have t1 : ((at_ : Int) == (s.size : Int)) = false := by rw [beq_eq_false_iff_ne]; omega
        rw [if_neg hend] at HNN
        by_cases hn0 : n = 0
        · subst hn0
          have e1 : (s.extract at_ at_).toList = [] := cut_empty s at_
          have e2 : (s.extract at_ at_).toList.isEmpty = true := by rw [e1]; rfl
          rw [if_pos (.inl rfl)] at HNN
          rw [Nat.add_zero] at *
          clear hend
          go_wp2_with fail
          go_ret3
          rw [HNN.out]
          exact ⟨rfl, Kp.refl _ _⟩
        · have hcs := cut_size (s := s) (i := at_) (n := n) hj2
          have hsz : 0 < (s.extract at_ (at_ + n)).size := by rw [hcs]; omega
          have e1 := cut_some hj2 (show 0 < n by omega)
          have e2 : (s.extract at_ (at_ + n)).toList.isEmpty = false := by simpa using e1
          have hc0 := cut_first hj2 hsz
          have hC := bt_lt s at_
          generalize bt s at_ = C at hc0 HNN hC
          have HAT := Lib.hid (show Lib.atoi (s.extract at_ (at_ + n)).data.toList = some (numb s at_ n : Int) by rw [cut_list]; exact word_atoi (by omega) hj2 (fun k hk => HD.out (at_ + k) (by omega) (by omega)))
          by_cases h48 : C = 48 ∧ 1 < n
          · obtain ⟨rfl, hn1⟩ := h48
            rw [if_pos (.inr ⟨rfl, hn1⟩)] at HNN
            have d1 : decide ((1 : Int) < (n : Int)) = true := by simp; omega
            go_wp2_with fail
            go_ret3
            rw [HNN.out]
            exact ⟨rfl, Kp.refl _ _⟩
          · rw [if_neg (by omega)] at HNN
            by_cases hn9 : 9 < n
            · rw [if_pos hn9] at HNN
              have hC48 : ¬ C = 48 := by omega
              have hC48i : ¬ (C : Int) = 48 := by omega
              have d1 : decide ((9 : Int) < (n : Int)) = true := by simp; omega
              go_wp2_with fail
              go_ret3
              rw [HNN.out]
              exact ⟨rfl, Kp.refl _ _⟩
            · rw [if_neg hn9] at HNN
              have d1 : decide ((9 : Int) < (n : Int)) = false := by simp; omega
              have hnum := numb_lt (s := s) (i := at_) n (fun k hk => HD.out (at_ + k) (by omega) (by omega))
              by_cases hC48 : C = 48
              · subst hC48
                obtain rfl : n = 1 := by omega
                go_wp2_with fail
                refine (Tryz.strconv_Atoi _ _ (by rw [hcs]; omega) HAT.out _).mono ?_
                rintro e w1 ⟨rfl, t, rfl⟩
                go_wp2_with fail
                go_ret3
                rw [HNN.out]
                exact ⟨rfl, kp_bytesWorld _ _ _⟩
              · have hC48i : ¬ (C : Int) = 48 := by omega
                go_wp2_with fail
                refine (Tryz.strconv_Atoi _ _ (by rw [hcs]; omega) HAT.out _).mono ?_
                rintro e w1 ⟨rfl, t, rfl⟩
                go_wp2_with fail
                go_ret3
                rw [HNN.out]
                exact ⟨rfl, kp_bytesWorld _ _ _⟩

theorem octet_Nat (s : ByteArray) (x : Int) (w : World) (hs : s.size ≤ 9223372036854775000) :
    Calls Tryz.prog 47 #[.string s, .int .i64 x] w fun e w' => e = .returned (tripI (natT s x)) ∧ Kp (fun _ => False) w w' := by
  by_cases h : x < 0 ∨ (s.size : Int) < x
  · have HT := Lib.hid (show natT s x = (0, 0, 1) by unfold natT; rw [if_pos h])
    have o1 : (decide (x < 0) || decide ((s.size : Int) < x)) = true := by simpa using h
    clear h
    go_enter Tryz.func47, Tryz.ntmps47
    go_wp2_with fail
    refine (octet_out _ _ _).mono ?_
    rintro e w' ⟨rfl, rfl⟩
    rw [o1]
    go_wp2_with fail
    go_ret3
    rw [HT.out]
    exact ⟨rfl, Kp.refl _ _⟩
  · obtain ⟨at_, rfl⟩ : ∃ at_ : Nat, x = at_ := ⟨x.toNat, by omega⟩
    have e : natT s (at_ : Int) = natN s at_ := by unfold natT; rw [if_neg h, Int.toNat_natCast]
    rw [e]
    exact octet_Nat_in s at_ w hs (by omega)

end Go.Proofs.YtcnegeggecmncaaGreatDoor

/-
  octet.Num and its reference; octet.Dec: what they compute.
-/
namespace Go.Proofs.YtcnegeggecmncaaGreatDoor
open Go.RowKit

/-- a number's digits of seven bits -/
def numL : Nat → Nat → List UInt8
  | 0, n => [UInt8.ofNat n]
  | f + 1, n => if n ≤ 127 then [UInt8.ofNat n] else UInt8.ofNat (n % 128 + 128) :: numL f (n / 128)

def bytesV (l : List UInt8) : List Value := l.map (fun b => Value.int .u8 (b.toNat : Int))

theorem bytesV_length (l : List UInt8) : (bytesV l).length = l.length := by simp [bytesV]

theorem numL_length (f : Nat) : ∀ n, (numL f n).length ≤ f + 1 := by
  induction f with
  | zero => intro n; simp [numL]
  | succ f ih => intro n; simp only [numL]; split; simp; (have := ih (n / 128); simp; omega)

theorem or_128 {m : Nat} (h : m < 256) : m ||| 128 = m % 128 + 128 := by
  have : ∀ m, m < 256 → m ||| 128 = m % 128 + 128 := by decide +kernel
  exact this m h

theorem byte_or (m : Nat) : bits .or .u8 ((m : Int) % 256) 128 = (((UInt8.ofNat (m % 128 + 128)).toNat : Nat) : Int) := by
  have h := Go.u8_or_nat (m % 256) 128 (by omega) (by decide)
  rw [or_128 (by omega)] at h
  rw [show ((m : Int) % 256) = ((m % 256 : Nat) : Int) from by omega]
  refine h.trans ?_
  simp only [UInt8.toNat_ofNat']
  omega

/-- 'string(b)' of an owned row of bytes -/
theorem own_string {w : World} {base g n cap : Nat} {l : List UInt8} (h : Own w base 5 (.slice (some ⟨g, 0, none⟩) n cap) (bytesV l)) :
    (convert 142 9 (.slice (some ⟨g, 0, none⟩) n cap)).run Tryz.prog w = .ok (.string ⟨l.toArray⟩) w := by
  have hn : n = l.length := by
    obtain ⟨a, c, e, _⟩ := h.form
    simp only [Value.slice.injEq] at e
    rw [e.2.1, bytesV_length]
  subst hn
  refine run_convert_bytes_back w 142 9 5 ⟨g, 0, none⟩ cap l Tryz.underlying142 Tryz.underlying5 Tryz.underlying9 (fun j hj => ?_)
  rw [add_plain', Nat.zero_add]
  exact h.cell (by simp [bytesV, hj])

theorem Tryz.info5 : (Tryz.prog.info? 5).map (fun i => (i.zero, i.size, i.bytes)) = some (some (.int .u8 0), 1, 1) := by kernel_rfl

end Go.Proofs.YtcnegeggecmncaaGreatDoor

/-
  latchetlaw01: lives; the table that strconv.Itoa reads.
-/
namespace Go.Proofs.YtcnegeggecmncaaGreatDoor
open Go.RowKit

/-- the table of powers of ten lies as its text lays it -/
def Tab (w : World) : Prop := Lib.TabIs Tryz.prog w "internal/strconv.uint64pow10" .u64 Lib.pow10Tab

theorem gPow : Tryz.prog.globalNamed "internal/strconv.uint64pow10" = some 3 := by kernel_rfl

theorem Tab.lt {w : World} (h : Tab w) : 3 < w.heap.size :=
  World.block_lt_of_cell? w _ (Lib.TabIs.cell h gPow 0 (by decide))

theorem Tab.kp {w w' : World} (h : Tab w) (k : Kp (fun _ => False) w w') : Tab w' :=
  var?_below (k.below (Nat.le_refl _) (fun _ _ h => h)) gPow h.lt h

theorem kp_grow (w : World) (k : Nat) (os : Array Obj) : Kp (fun _ => False) w (Sort.grow (w.drewN k) os) := by
  refine ⟨rfl, rfl, rfl, ?_, fun i hi _ => ?_⟩
  · show w.heap.size ≤ (w.heap ++ os).size
    simp
  · show (w.heap ++ os)[i]? = _
    rw [Array.getElem?_append_left hi]

end Go.Proofs.YtcnegeggecmncaaGreatDoor

/-
  A number by digits of seven bits is got again.
-/
namespace Go.Proofs.YtcnegeggecmncaaGreatDoor
open Go.RowKit

theorem bt_list (l : List UInt8) (i : Nat) (b : UInt8) (h : l[i]? = some b) : bt ⟨l.toArray⟩ i = b.toNat := by
  have hi : i < l.length := (List.getElem?_eq_some_iff.1 h).1
  have hs : i < (⟨l.toArray⟩ : ByteArray).size := by simpa [ByteArray.size] using hi
  rw [← bt_eq hs]
  have : (⟨l.toArray⟩ : ByteArray)[i]'hs = l[i] := rfl
  rw [this]
  rw [List.getElem?_eq_getElem hi] at h
  simp only [Option.some.injEq] at h
  rw [h]

theorem size_list (l : List UInt8) : (⟨l.toArray⟩ : ByteArray).size = l.length := by simp [ByteArray.size]

theorem ofNat_toNat {m : Nat} (h : m < 256) : (UInt8.ofNat m).toNat = m := by
  simp only [UInt8.toNat_ofNat']; omega

theorem get_num (more : List UInt8) (r : Nat) : ∀ (k m a : Nat) (pre : List UInt8), pre.length = k → k + (r + 1) = 5 → m * 128 ^ k < 4294967296 → (0 < k → 0 < m) →
    getR ⟨(pre ++ numL (r + 1) m ++ more).toArray⟩ 0 (r + 1) k a = (a + m * 128 ^ k, k + (numL (r + 1) m).length, 0) := by
  induction r with
  | zero =>
    intro k m a pre hp hk hm h0
    have hk4 : k = 4 := by omega
    subst hk4
    have hm15 : m ≤ 15 := by omega
    have hL : numL 1 m = [UInt8.ofNat m] := by simp only [numL]; rw [if_pos (by omega)]
    have hb : bt ⟨(pre ++ numL 1 m ++ more).toArray⟩ (0 + 4) = m := by
      rw [bt_list _ _ (UInt8.ofNat m) (by rw [hL, List.append_assoc, List.getElem?_append_right (by omega), hp]; rfl), ofNat_toNat (by omega)]
    rw [getR_step, hb, if_neg (by rw [size_list]; simp [hL]; omega), if_neg (by omega), if_neg (by have := h0 (by omega); omega), if_pos (by omega), hL]
    simp only [List.length_singleton]
    rw [Nat.mod_eq_of_lt (by omega)]
  | succ r ih =>
    intro k m a pre hp hk hm h0
    by_cases hs : m ≤ 127
    · have hL : numL (r + 1 + 1) m = [UInt8.ofNat m] := by simp only [numL]; rw [if_pos hs]
      have hb : bt ⟨(pre ++ numL (r + 1 + 1) m ++ more).toArray⟩ (0 + k) = m := by
        rw [bt_list _ _ (UInt8.ofNat m) (by rw [hL, List.append_assoc, List.getElem?_append_right (by omega), hp, Nat.zero_add, Nat.sub_self]; rfl), ofNat_toNat (by omega)]
      rw [getR_step, hb, if_neg (by rw [size_list]; simp [hL]; omega), if_neg (by omega), if_neg (fun h => by have := h0 h.1; omega), if_pos (by omega), hL]
      simp only [List.length_singleton]
      rw [Nat.mod_eq_of_lt (by omega)]
      simp
    · have hL : numL (r + 1 + 1) m = UInt8.ofNat (m % 128 + 128) :: numL (r + 1) (m / 128) := by rw [numL, if_neg hs]
      have hb : bt ⟨(pre ++ numL (r + 1 + 1) m ++ more).toArray⟩ (0 + k) = m % 128 + 128 := by
        rw [bt_list _ _ (UInt8.ofNat (m % 128 + 128)) (by rw [hL, List.append_assoc, List.getElem?_append_right (by omega), hp, Nat.zero_add, Nat.sub_self]; rfl), ofNat_toNat (by omega)]
      have e : pre ++ numL (r + 1 + 1) m ++ more = (pre ++ [UInt8.ofNat (m % 128 + 128)]) ++ numL (r + 1) (m / 128) ++ more := by rw [hL]; simp
      rw [getR_step, hb, if_neg (by rw [size_list]; simp [hL]; omega), if_neg (by omega), if_neg (by omega), if_neg (by omega), e]
      rw [ih (k + 1) (m / 128) _ _ (by simp [hp]) (by omega) ?_ (fun _ => by omega)]
      · rw [hL, List.length_cons]
        refine Prod.ext ?_ (Prod.ext ?_ rfl)
        · show a + (m % 128 + 128) % 128 * 128 ^ k + m / 128 * 128 ^ (k + 1) = a + m * 128 ^ k
          have e1 : (m % 128 + 128) % 128 = m % 128 := by omega
          have e2 : m * 128 ^ k = (m % 128 + 128 * (m / 128)) * 128 ^ k := by congr 1; omega
          rw [e1, e2, Nat.pow_succ, Nat.add_mul]
          have : m / 128 * (128 ^ k * 128) = 128 * (m / 128) * 128 ^ k := by
            rw [Nat.mul_comm (128 ^ k) 128, ← Nat.mul_assoc, Nat.mul_comm (m / 128) 128]
          omega
        · show k + 1 + _ = k + (_ + 1)
          omega
      · rw [Nat.pow_succ]
        have : m / 128 * (128 ^ k * 128) = (m / 128 * 128) * 128 ^ k := by
          rw [Nat.mul_comm (128 ^ k) 128, ← Nat.mul_assoc]
        rw [this]
        exact Nat.lt_of_le_of_lt (Nat.mul_le_mul_right _ (Nat.div_mul_le_self m 128)) hm

theorem get_puts (n : Nat) (more : List UInt8) (hn : n < 4294967296) : getT ⟨(numL 5 n ++ more).toArray⟩ 0 = (n, (numL 5 n).length, 0) := by
  have h := get_num more 4 0 n 0 [] rfl rfl (by omega) (by omega)
  unfold getT
  rw [if_neg (by omega)]
  unfold getN
  simpa using h

end Go.Proofs.YtcnegeggecmncaaGreatDoor

/-
  latchetref01.Num and Dec: what they compute.
-/
namespace Go.Proofs.YtcnegeggecmncaaGreatDoor
open Go.RowKit

/-- 'string([]byte{b})' -/
theorem one_string (E : Nat) (hE : E < 256) (u : World) :
    (convert 142 9 (.slice (some ⟨u.heap.size, 0, none⟩) 1 1)).run Tryz.prog (u.alloc (.cells #[.int .u8 (E : Int)] 5)) = .ok (.string ⟨#[UInt8.ofNat E]⟩) (u.alloc (.cells #[.int .u8 (E : Int)] 5)) := by
  have h := run_convert_bytes_back (P := Tryz.prog) (u.alloc (.cells #[.int .u8 (E : Int)] 5)) 142 9 5 ⟨u.heap.size, 0, none⟩ 1 [UInt8.ofNat E] Tryz.underlying142 Tryz.underlying5 Tryz.underlying9 (fun j hj => by
    have hj0 : j = 0 := by simpa using hj
    subst hj0
    rw [add_plain', Nat.zero_add]
    refine (World.cell?_alloc_at _ _ _ _ rfl).trans ?_
    simp [ofNat_toNat hE])
  exact h

theorem cat_bytes (a b : List UInt8) : (⟨a.toArray⟩ : ByteArray) ++ ⟨b.toArray⟩ = ⟨(a ++ b).toArray⟩ := by
  apply ByteArray.ext; simp

end Go.Proofs.YtcnegeggecmncaaGreatDoor

/-
  latchetref01.Dec: what it computes: strconv.Itoa's numeral.
-/
namespace Go.Proofs.YtcnegeggecmncaaGreatDoor
open Go.RowKit

theorem decLen : ∀ (k u : Nat), u < 10 ^ (k + 1) → (Lib.decDigits u).length ≤ k + 1
  | 0, u, h => by rw [Lib.decDigits, dif_pos (by simpa using h)]; simp
  | k + 1, u, h => by
    by_cases hu : u < 10
    · rw [Lib.decDigits, dif_pos hu]; simp
    · rw [Lib.decDigits, dif_neg hu]
      have := decLen k (u / 10) (by rw [Nat.pow_succ] at h; omega)
      simp; omega

theorem itoaLen {n : Int} (h1 : -9223372036854775808 ≤ n) (h2 : n ≤ 9223372036854775807) : (Lib.itoa n).length ≤ 21 := by
  have h := decLen 19 n.natAbs (by omega)
  unfold Lib.itoa
  split
  · simp; omega
  · have e : n.toNat = n.natAbs := by omega
    rw [e]; omega

theorem itoa_one {n : Int} (h0 : ¬ n < 0) (h : n < 10) : Lib.itoa n = [UInt8.ofNat (48 + n.toNat)] := by
  unfold Lib.itoa; rw [if_neg h0, Lib.decDigits, dif_pos (by omega)]

theorem itoa_more {n : Int} (h : ¬ n < 10) : Lib.itoa n = Lib.itoa (n / 10) ++ [UInt8.ofNat (48 + (n % 10).toNat)] := by
  unfold Lib.itoa
  rw [if_neg (by omega), if_neg (by omega)]
  conv => lhs; rw [Lib.decDigits, dif_neg (by omega)]
  rw [show (n / 10).toNat = n.toNat / 10 from by omega, show (n % 10).toNat = n.toNat % 10 from by omega]

theorem itoa_neg1 {n : Int} (h : n < 0) (h1 : -10 < n) : Lib.itoa n = 45 :: [UInt8.ofNat (48 - n).toNat] := by
  unfold Lib.itoa
  rw [if_pos h, Lib.decDigits, dif_pos (by omega), show (48 - n).toNat = 48 + n.natAbs from by omega]

theorem itoa_negm {n : Int} (h1 : n ≤ -10) : Lib.itoa n = Lib.itoa (n.tdiv 10) ++ [UInt8.ofNat (48 - n.tmod 10).toNat] := by
  obtain ⟨m, rfl⟩ : ∃ m : Nat, n = -(m : Int) := ⟨n.natAbs, by omega⟩
  rw [Int.neg_tdiv, Int.neg_tmod, Int.tdiv_eq_ediv_of_nonneg (by omega), Int.tmod_eq_emod_of_nonneg (by omega)]
  unfold Lib.itoa
  rw [if_pos (by omega), if_pos (by omega)]
  conv => lhs; rw [Lib.decDigits, dif_neg (by omega)]
  rw [show (-((m : Int) / 10)).natAbs = (-(m : Int)).natAbs / 10 from by omega, show (48 - -((m : Int) % 10)).toNat = 48 + (-(m : Int)).natAbs % 10 from by omega]
  rfl

/-- 'string([]byte{b})', wherever the cell lies -/
theorem one_string_at {E : Nat} (hE : E < 256) {k : Nat} {u : World} (h : u.cell? ⟨k, 0, none⟩ = some (.int .u8 (E : Int))) :
    (convert 142 9 (.slice (some ⟨k, 0, none⟩) 1 1)).run Tryz.prog u = .ok (.string ⟨#[UInt8.ofNat E]⟩) u := by
  have h := run_convert_bytes_back (P := Tryz.prog) u 142 9 5 ⟨k, 0, none⟩ 1 [UInt8.ofNat E] Tryz.underlying142 Tryz.underlying5 Tryz.underlying9 (fun j hj => by
    have hj0 : j = 0 := by simpa using hj
    subst hj0
    rw [add_plain', Nat.zero_add]
    refine h.trans ?_
    simp [ofNat_toNat hE])
  exact h

theorem one_string_v {V : Int} {E : Nat} (hE : E < 256) (hV : V = E) (u : World) :
    (convert 142 9 (.slice (some ⟨u.heap.size, 0, none⟩) 1 1)).run Tryz.prog (u.alloc (.cells #[.int .u8 V] 5)) = .ok (.string ⟨#[UInt8.ofNat E]⟩) (u.alloc (.cells #[.int .u8 V] 5)) := by
  subst hV; exact one_string E hE u

theorem one_kept {V : Int} {E : Nat} (hE : E < 256) (hV : V = E) {u w1 : World} (hK : Kp (fun _ => False) (u.alloc (.cells #[.int .u8 V] 5)).drew w1) :
    (convert 142 9 (.slice (some ⟨u.heap.size, 0, none⟩) 1 1)).run Tryz.prog w1 = .ok (.string ⟨#[UInt8.ofNat E]⟩) w1 := by
  subst hV
  refine one_string_at hE ?_
  have hb : w1.heap[u.heap.size]? = (u.alloc (.cells #[.int .u8 (E : Int)] 5)).heap[u.heap.size]? := Kp.block hK u.heap.size (by simp) (fun h => h)
  exact (World.cell?_of_block (a := ⟨u.heap.size, 0, none⟩) hb).trans (World.cell?_alloc_at _ _ _ _ rfl)

end Go.Proofs.YtcnegeggecmncaaGreatDoor

/-
  lit and latchetref02: a literal's text, and the literal of a text.
-/
namespace Go.Proofs.YtcnegeggecmncaaGreatDoor
open Go.RowKit

def gl (l : Int) : Bool := decide (0 ≤ l ∧ l ≤ 33554433)

/-- a literal's text -/
def litText (l : Int) : List UInt8 := if gl l then (if l % 2 = 1 then 33 :: Lib.itoa (l / 2) else Lib.itoa (l / 2)) else [63]

theorem and_one (n : Int) : bits .and .i64 n 1 = n % 2 := by
  have h1 : (BitVec.ofInt 64 1).toNat = 2 ^ 1 - 1 := by decide
  have key : (BitVec.ofInt 64 n &&& BitVec.ofInt 64 1).toNat = (n % ((2 ^ 64 : Nat) : Int)).toNat % 2 ^ 1 := by
    rw [BitVec.toNat_and, BitVec.toNat_ofInt, h1, Nat.and_two_pow_sub_one_eq_mod]
  show IntKind.i64.wrap ((BitVec.ofInt 64 n &&& BitVec.ofInt 64 1).toNat : Nat) = n % 2
  rw [key, IntKind.wrap_i64]
  omega

theorem litSize (l : Int) : (litText l).length ≤ 23 := by
  unfold litText
  split
  · have := itoaLen (n := l / 2)
    rename_i hg
    have h : 0 ≤ l ∧ l ≤ 33554433 := by simpa [gl] using hg
    have := this (by omega) (by omega)
    split
    · simp; omega
    · omega
  · simp

end Go.Proofs.YtcnegeggecmncaaGreatDoor

/-
  A derivation's lines and their text, there and back. No program in sight.
-/
namespace Go.Proofs.YtcnegeggecmncaaGreatDoor
open Go.RowKit

/-- a good literal's text -/
def lt (x : Nat) : List UInt8 := if x % 2 = 1 then 33 :: Lib.decDigits (x / 2) else Lib.decDigits (x / 2)

def goodL (l : List Nat) : Prop := ∀ x ∈ l, x ≤ 33554433

theorem list_size (s : ByteArray) : s.data.toList.length = s.size := by simp

theorem negW_iff (w : ByteArray) : negW w = true ↔ ∃ r, w.data.toList = 33 :: r := by
  unfold negW
  rw [decide_eq_true_iff]
  constructor
  · rintro ⟨h0, h1⟩
    obtain ⟨b, hb, hb2⟩ := byte_at h0
    cases hl : w.data.toList with
    | nil => rw [hl] at hb; simp at hb
    | cons c r =>
      rw [hl] at hb
      simp at hb
      subst hb
      refine ⟨r, ?_⟩
      have : c = 33 := UInt8.toNat_inj.1 (by rw [hb2, h1]; rfl)
      rw [this]
  · rintro ⟨r, h⟩
    have h0 : w.data.toList[0]? = some 33 := by rw [h]; rfl
    exact bt_is.1 h0

theorem digW_pos {w : ByteArray} {r : List UInt8} (h : w.data.toList = 33 :: r) : (digW w).data.toList = r := by
  unfold digW
  rw [if_pos ((negW_iff w).2 ⟨r, h⟩), Lib.extract_to_end, h]; rfl

theorem digW_neg {w : ByteArray} (h : ¬ negW w = true) : digW w = w := by
  unfold digW; rw [if_neg h]

theorem litR_text {w : ByteArray} {x : Nat} (h : litR w = some x) : w.data.toList = lt x ∧ x ≤ 33554433 := by
  unfold litR at h
  split at h
  next hc =>
    obtain ⟨h1, h2, h3⟩ := hc
    have hN : natN (digW w) 0 = ((natN (digW w) 0).1, (digW w).size, 0) := Prod.ext rfl (Prod.ext h2 h1)
    obtain ⟨_, _, _, hl⟩ := dec_natN (Nat.zero_le _) hN
    rw [List.drop_zero, Nat.sub_zero, List.take_of_length_le (by rw [list_size]; exact Nat.le_refl _)] at hl
    generalize (natN (digW w) 0).1 = v at h h3 hl
    have h := Option.some.inj h
    by_cases hn : negW w = true
    · rw [if_pos hn] at h
      obtain ⟨r, hr⟩ := (negW_iff w).1 hn
      rw [digW_pos hr] at hl
      subst h
      refine ⟨?_, by omega⟩
      unfold lt
      rw [if_pos (by omega), hr, hl, show (2 * v + 1) / 2 = v by omega]
    · rw [if_neg hn] at h
      rw [digW_neg hn] at hl
      subst h
      refine ⟨?_, by omega⟩
      unfold lt
      rw [if_neg (by omega), hl, show (2 * v + 0) / 2 = v by omega]
  next => cases h

theorem text_litR {w : ByteArray} {x : Nat} (hx : x ≤ 33554433) (h : w.data.toList = lt x) : litR w = some x := by
  have key : ∀ v : Nat, v ≤ 16777216 → (digW w).data.toList = Lib.decDigits v → natN (digW w) 0 = (v, (digW w).size, 0) := by
    intro v hv hd
    have hl : (Lib.decDigits v).length = (digW w).size := by rw [← hd, list_size]
    have := natN_dec (s := digW w) (p := 0) (u := v) (by omega) (by rw [hl]; omega) (by rw [List.drop_zero, hd, List.take_length]) (.inl (by rw [hl]; omega))
    rw [this, hl, Nat.zero_add]
  unfold lt at h
  unfold litR
  by_cases ho : x % 2 = 1
  · rw [if_pos ho] at h
    have hn : negW w = true := (negW_iff w).2 ⟨_, h⟩
    rw [key (x / 2) (by omega) (digW_pos h), if_pos ⟨rfl, rfl, by simp only; omega⟩, if_pos hn]
    simp only [Option.some.injEq]; omega
  · rw [if_neg ho] at h
    have hn : ¬ negW w = true := by
      intro hn
      obtain ⟨r, hr⟩ := (negW_iff w).1 hn
      have := dd_digit (x / 2) 33 (by rw [← h, hr]; simp)
      simp at this
    rw [key (x / 2) (by omega) (by rw [digW_neg hn]; exact h), if_pos ⟨rfl, rfl, by simp only; omega⟩, if_neg hn]
    simp only [Option.some.injEq]; omega

theorem litsR_texts : ∀ {ws : List ByteArray} {l : List Nat}, litsR ws = some l → ws.map (·.data.toList) = l.map lt ∧ goodL l
  | [], l, h => by
    simp [litsR] at h; subst h
    exact ⟨rfl, fun x hx => by cases hx⟩
  | w :: ws, l, h => by
    simp only [litsR] at h
    cases h1 : litR w with
    | none => rw [h1] at h; simp at h
    | some x =>
      cases h2 : litsR ws with
      | none => rw [h1, h2] at h; simp at h
      | some y =>
        rw [h1, h2] at h
        simp at h
        subst h
        obtain ⟨e1, g1⟩ := litR_text h1
        obtain ⟨e2, g2⟩ := litsR_texts h2
        refine ⟨by rw [List.map_cons, List.map_cons, e1, e2], ?_⟩
        intro z hz
        rcases List.mem_cons.1 hz with rfl | hz
        · exact g1
        · exact g2 z hz

theorem texts_litsR : ∀ {ws : List ByteArray} {l : List Nat}, goodL l → ws.map (·.data.toList) = l.map lt → litsR ws = some l
  | [], l, _, h => by
    cases l with
    | nil => rfl
    | cons x l => simp at h
  | w :: ws, l, hg, h => by
    cases l with
    | nil => simp at h
    | cons x l =>
      rw [List.map_cons, List.map_cons] at h
      injection h with h1 h2
      simp only [litsR]
      rw [text_litR (hg x (by simp)) h1, texts_litsR (fun z hz => hg z (by simp [hz])) h2]

/-- a line of words behind a sign -/
def lineText (f : Bool) (c : List (List UInt8)) : List UInt8 := (if f then 45 else 43) :: c.flatMap (fun x => 32 :: x)

theorem jn_flat : ∀ (a : List UInt8) (r : List (List UInt8)), jn (a :: r) = a ++ r.flatMap (fun x => 32 :: x)
  | a, [] => by simp [jn]
  | a, b :: r => by
    rw [jn_cons (by simp), jn_flat b r, List.flatMap_cons]; simp

theorem flat_words : ∀ (a : List UInt8) (r : List (List UInt8)), (∀ b ∈ a, b ≠ 32) → (∀ x ∈ r, ∀ b ∈ x, b ≠ 32) → wordsF (a ++ r.flatMap (fun x => 32 :: x)) = a :: r
  | a, [], ha, _ => by rw [List.flatMap_nil, List.append_nil]; exact words_none ha
  | a, b :: r, ha, hr => by
    rw [List.flatMap_cons, List.cons_append, words_app _ ha, flat_words b r (hr b (by simp)) (fun x hx => hr x (by simp [hx]))]

theorem wordsB_data (s : ByteArray) : (wordsB s).map (·.data.toList) = wordsF s.data.toList := by
  unfold wordsB mkW
  rw [List.map_map]
  conv => rhs; rw [← List.map_id (wordsF s.data.toList)]
  apply List.map_congr_left
  intro b _
  simp

theorem ba_ext {a b : ByteArray} (h : a.data.toList = b.data.toList) : a = b := by
  apply ByteArray.ext; apply Array.ext'; exact h

theorem lineR_text {s : ByteArray} {f : Bool} {c : List Nat} (h : lineR s = some (f, c)) : s.data.toList = lineText f (c.map lt) ∧ goodL c := by
  unfold lineR at h
  have hw := wordsB_data s
  cases hws : wordsB s with
  | nil => rw [hws] at h; cases h
  | cons w ws =>
    rw [hws] at h hw
    rw [List.map_cons] at hw
    have hj := jn_words s.data.toList
    rw [← hw, jn_flat] at hj
    simp only at h
    have fin : ∀ (b : Bool), w.data.toList = [if b then 45 else 43] → (litsR ws).map (fun l => (b, l)) = some (f, c) → s.data.toList = lineText f (c.map lt) ∧ goodL c := by
      intro b hb hm
      cases hl : litsR ws with
      | none => rw [hl] at hm; simp at hm
      | some l =>
        rw [hl] at hm
        simp at hm
        obtain ⟨rfl, rfl⟩ := hm
        obtain ⟨e1, e2⟩ := litsR_texts hl
        refine ⟨?_, e2⟩
        rw [← hj, hb, e1]; rfl
    by_cases h1 : w = ⟨#[43]⟩
    · rw [if_pos h1] at h
      exact fin false (by rw [h1]; rfl) h
    · rw [if_neg h1] at h
      by_cases h2 : w = ⟨#[45]⟩
      · rw [if_pos h2] at h
        exact fin true (by rw [h2]; rfl) h
      · rw [if_neg h2] at h; cases h

theorem lt_byte (x : Nat) : ∀ b ∈ lt x, b ≠ 32 ∧ b ≠ 10 := by
  intro b hb
  unfold lt at hb
  have key : ∀ v, b ∈ Lib.decDigits v → b ≠ 32 ∧ b ≠ 10 := by
    intro v hv
    have := dd_digit v b hv
    constructor <;> (rintro rfl; simp at this)
  split at hb
  · rcases List.mem_cons.1 hb with rfl | hb
    · decide
    · exact key _ hb
  · exact key _ hb

theorem text_lineR {s : ByteArray} {f : Bool} {c : List Nat} (hc : goodL c) (h : s.data.toList = lineText f (c.map lt)) : lineR s = some (f, c) := by
  have hw := wordsB_data s
  have e : wordsF s.data.toList = [if f then 45 else 43] :: c.map lt := by
    rw [h]
    exact flat_words [if f then 45 else 43] (c.map lt) (by intro b hb; simp at hb; subst hb; cases f <;> decide) (by
      intro x hx b hb
      obtain ⟨y, _, rfl⟩ := List.mem_map.1 hx
      exact (lt_byte y b hb).1)
  rw [e] at hw
  unfold lineR
  cases hws : wordsB s with
  | nil => rw [hws] at hw; simp at hw
  | cons w ws =>
    rw [hws, List.map_cons] at hw
    injection hw with h1 h2
    simp only
    rw [texts_litsR hc h2]
    cases f with
    | false =>
      have : w = ⟨#[43]⟩ := ba_ext h1
      rw [if_pos this]; rfl
    | true =>
      have : w = ⟨#[45]⟩ := ba_ext h1
      rw [if_neg (by rw [this]; decide), if_pos this]; rfl

/-- lines' text -/
def linesText (L : List (Bool × List (List UInt8))) : List UInt8 := L.flatMap (fun x => lineText x.1 x.2 ++ [10])
def ltl (L : List (Bool × List Nat)) : List (Bool × List (List UInt8)) := L.map (fun x => (x.1, x.2.map lt))

theorem linesText_append (a b : List (Bool × List (List UInt8))) : linesText (a ++ b) = linesText a ++ linesText b := by simp [linesText]
theorem ltl_append (a b : List (Bool × List Nat)) : ltl (a ++ b) = ltl a ++ ltl b := by simp [ltl]
theorem linesText_one (f : Bool) (c : List (List UInt8)) : linesText [(f, c)] = lineText f c ++ [10] := by simp [linesText]

theorem line_no10 {f : Bool} {c : List Nat} : ∀ b ∈ lineText f (c.map lt), b ≠ 10 := by
  intro b hb
  unfold lineText at hb
  rcases List.mem_cons.1 hb with rfl | hb
  · cases f <;> decide
  · obtain ⟨x, hx, hb⟩ := List.mem_flatMap.1 hb
    obtain ⟨y, _, rfl⟩ := List.mem_map.1 hx
    rcases List.mem_cons.1 hb with rfl | hb
    · decide
    · exact (lt_byte y b hb).2

/-- the line at a place whose text is known -/
theorem lineT_text {s : ByteArray} {p : Nat} {a r : List UInt8} (hp : p ≤ s.size) (ha : ∀ b ∈ a, b ≠ 10) (h : s.data.toList.drop p = a ++ 10 :: r) :
    lineT s (p : Nat) = (⟨a.toArray⟩, p + a.length + 1, 0) := by
  have hl : (s.data.toList.drop p).length = s.size - p := by rw [List.length_drop, list_size]
  have hlen : a.length + 1 + r.length = s.size - p := by rw [← hl, h]; simp; omega
  have hb : ∀ j, j < a.length → bt s (p + j) ≠ 10 := by
    intro j hj e
    have h1 : s.data.toList[p + j]? = some a[j] := by rw [← List.getElem?_drop, h, List.getElem?_append_left hj, List.getElem?_eq_getElem hj]
    have h2 := (bt_is.1 h1).2
    have h3 := ha a[j] (List.getElem_mem hj)
    exact h3 (UInt8.toNat_inj.1 (by rw [← h2, e]; rfl))
  have h10 : bt s (p + a.length) = 10 := by
    have h1 : s.data.toList[p + a.length]? = some 10 := by rw [← List.getElem?_drop, h, List.getElem?_append_right (Nat.le_refl _), Nat.sub_self]; rfl
    exact (bt_is.1 h1).2
  unfold lineT
  rw [if_neg (by omega), Int.toNat_natCast, feed_some (i := p + a.length) (by omega) (by omega) h10 (fun j h1 h2 => by have := hb (j - p) (by omega); rwa [show p + (j - p) = j by omega] at this)]
  simp only [Prod.mk.injEq, and_true]
  apply ba_ext
  rw [Lib.extract_data, h, show p + a.length - p = a.length by omega, List.take_left]

/-- what is read from a place at which lines' text begins -/
theorem derivR_text {s : ByteArray} : ∀ (L2 : List (Bool × List Nat)) (f : Nat) (L1 : List (Bool × List Nat)) (p n : Nat) (r : List UInt8), (∀ x ∈ L2, goodL x.2) → p ≤ s.size →
    s.data.toList.drop p = linesText (ltl L2) ++ r → derivR s (L2.length + f) L1 p n = derivR s f (L1 ++ L2) (p + (linesText (ltl L2)).length) (n + L2.length)
  | [], f, L1, p, n, r, _, _, _ => by simp [linesText, ltl]
  | (b, c) :: L2, f, L1, p, n, r, hg, hp, h => by
    have e0 : linesText (ltl ((b, c) :: L2)) = lineText b (c.map lt) ++ 10 :: linesText (ltl L2) := by simp [linesText, ltl]
    rw [e0, List.append_assoc, List.cons_append] at h
    have hl := lineT_text hp line_no10 h
    have hlen : (s.data.toList.drop p).length = s.size - p := by rw [List.length_drop, list_size]
    rw [h] at hlen
    simp only [List.length_append, List.length_cons] at hlen
    rw [List.length_cons, show L2.length + 1 + f = (L2.length + f) + 1 by omega]
    conv => lhs; unfold derivR
    rw [if_neg (by omega), hl]
    simp only [ne_eq, not_true_eq_false, if_false]
    rw [text_lineR (s := ⟨(lineText b (c.map lt)).toArray⟩) (f := b) (hg (b, c) (by simp)) (by simp)]
    simp only
    rw [derivR_text L2 f (L1 ++ [(b, c)]) _ (n + 1) r (fun x hx => hg x (by simp [hx])) (by omega) ?_]
    · rw [e0]
      simp only [List.length_append, List.length_cons, List.append_assoc, List.singleton_append]
      congr 1 <;> omega
    · rw [Nat.add_assoc, ← List.drop_drop, h, List.drop_append]
      rw [List.drop_of_length_le (by simp), List.nil_append, show (lineText b (c.map lt)).length + 1 - (lineText b (c.map lt)).length = 1 by omega]
      rfl

theorem derivR_done {s : ByteArray} {f p n : Nat} {L : List (Bool × List Nat)} (h : s.size ≤ p) : derivR s f L p n = ⟨L, 0, 0⟩ := by
  cases f with
  | zero => rfl
  | succ f => unfold derivR; rw [if_pos h]

/-- good lines' text is read as the lines -/
theorem text_derivT {s : ByteArray} {L : List (Bool × List Nat)} (hg : ∀ x ∈ L, goodL x.2) (hs : s.data.toList = linesText (ltl L)) (hz : s.size ≤ 1048576) : derivT s = ⟨L, 0, 0⟩ := by
  unfold derivT
  rw [if_neg (by omega)]
  have hsz : s.size = (linesText (ltl L)).length := by rw [← list_size, hs]
  have hle : L.length ≤ s.size := by
    rw [hsz]
    clear hs hz hsz
    induction L with
    | nil => simp
    | cons x L ih =>
      have := ih (fun y hy => hg y (by simp [hy]))
      have e : (linesText (ltl (x :: L))).length = (lineText x.1 (x.2.map lt)).length + 1 + (linesText (ltl L)).length := by simp [linesText, ltl]; omega
      rw [e, List.length_cons]; omega
  obtain ⟨f, hf⟩ : ∃ f, s.size + 1 = L.length + f := ⟨s.size + 1 - L.length, by omega⟩
  rw [hf, derivR_text L f [] 0 0 [] hg (Nat.zero_le _) (by simpa using hs), derivR_done (by omega)]
  rfl

/-- lines that are read from a text have that text -/
theorem derivR_back {s : ByteArray} : ∀ (f : Nat) (L : List (Bool × List Nat)) (p n : Nat) (R : List (Bool × List Nat)) (m : Nat), p ≤ s.size → s.size < p + f → s.data.toList.take p = linesText (ltl L) → (∀ x ∈ L, goodL x.2) →
    derivR s f L p n = ⟨R, m, 0⟩ → s.data.toList = linesText (ltl R) ∧ (∀ x ∈ R, goodL x.2)
  | 0, L, p, n, R, m, hp, hf, _, _, _ => by omega
  | f + 1, L, p, n, R, m, hp, hf, ht, hg, h => by
    unfold derivR at h
    by_cases c1 : s.size ≤ p
    · rw [if_pos c1] at h
      injection h with h1
      subst h1
      rw [List.take_of_length_le (by rw [list_size]; exact c1)] at ht
      exact ⟨ht, hg⟩
    rw [if_neg c1] at h
    by_cases c2 : (lineT s (p : Nat)).2.2 ≠ 0
    · rw [if_pos c2] at h
      injection h with h1 h2 h3
      exact absurd h3 c2
    rw [if_neg c2] at h
    cases hl : lineR (lineT s (p : Nat)).1 with
    | none => rw [hl] at h; simp at h
    | some x =>
      obtain ⟨b, c⟩ := x
      rw [hl] at h
      simp only at h
      obtain ⟨e1, e2⟩ := lineR_text hl
      have hend := lineT_end hp (by simpa using c2)
      rcases feed_cases s p with ⟨i, hf1, hi1, hi2, hi3, _⟩ | ⟨hf1, _⟩
      · have hL : lineT s (p : Nat) = (s.extract p i, i + 1, 0) := by
          unfold lineT; rw [if_neg (by omega), Int.toNat_natCast, hf1]
        rw [hL] at h e1 hend
        simp only at h e1 hend
        refine derivR_back f (L ++ [(b, c)]) (i + 1) (n + 1) R m (by omega) (by omega) ?_ ?_ h
        · rw [ltl_append, linesText_append, ← ht]
          have e3 : linesText (ltl [(b, c)]) = lineText b (c.map lt) ++ [10] := by simp [linesText, ltl]
          rw [e3, ← e1, Lib.extract_data]
          have hi : i < s.data.toList.length := by rw [list_size]; exact hi2
          have h10 : s.data.toList[i] = 10 := by
            have := bt_is (s := s) (i := i) (c := 10) |>.2 ⟨hi2, hi3⟩
            rw [List.getElem?_eq_getElem hi] at this
            exact Option.some.inj this
          rw [List.take_succ_eq_append_getElem hi, h10, ← List.append_assoc]
          congr 1
          rw [← List.take_append_drop p (s.data.toList.take i), List.take_take, Nat.min_eq_left hi1, List.drop_take]
        · intro x hx
          rcases List.mem_append.1 hx with hx | hx
          · exact hg x hx
          · simp at hx; subst hx; exact e2
      · have hL : (lineT s (p : Nat)).2.2 = 3 := by
          unfold lineT; rw [if_neg (by omega), Int.toNat_natCast, hf1]
        rw [hL] at c2; simp at c2

theorem derivT_back {s : ByteArray} (h : (derivT s).e = 0) : s.data.toList = linesText (ltl (derivT s).l) ∧ (∀ x ∈ (derivT s).l, goodL x.2) := by
  unfold derivT at h ⊢
  by_cases c : 1048576 < s.size
  · rw [if_pos c] at h; simp at h
  · rw [if_neg c] at h ⊢
    obtain ⟨R, m, e, he⟩ : ∃ R m e, derivR s (s.size + 1) [] 0 0 = ⟨R, m, e⟩ := ⟨_, _, _, rfl⟩
    rw [he] at h ⊢
    simp only at h
    subst h
    exact derivR_back (s.size + 1) [] 0 0 R m (Nat.zero_le _) (by omega) (by simp [linesText, ltl]) (fun x hx => by cases hx) he

end Go.Proofs.YtcnegeggecmncaaGreatDoor

/-
  lit.Read and the reference's: the literal of a text.
-/
namespace Go.Proofs.YtcnegeggecmncaaGreatDoor
open Go.RowKit

theorem has33 (s : ByteArray) : Lib.hasPrefix s.data.toList [33] = negW s := by
  rw [Bool.eq_iff_iff, negW_iff]
  unfold Lib.hasPrefix
  cases s.data.toList with
  | nil => simp [List.isPrefixOf]
  | cons c r =>
    simp only [List.isPrefixOf_cons_cons, List.isPrefixOf_nil_left, Bool.and_true, beq_iff_eq, List.cons.injEq]
    constructor
    · rintro rfl; exact ⟨r, rfl, rfl⟩
    · rintro ⟨_, rfl, _⟩; rfl

theorem trim33 (s : ByteArray) : (⟨(Lib.trimPrefix s.data.toList [33]).toArray⟩ : ByteArray) = digW s := by
  apply ba_ext
  unfold Lib.trimPrefix
  rw [has33]
  by_cases h : negW s = true
  · obtain ⟨r, hr⟩ := (negW_iff s).1 h
    rw [if_pos h, digW_pos hr, hr]; rfl
  · rw [if_neg h, digW_neg h]

theorem digW_size (s : ByteArray) : (digW s).size ≤ s.size := by
  unfold digW
  split
  · rw [ByteArray.size_extract]; omega
  · exact Nat.le_refl _

theorem natT_zero (s : ByteArray) : natT s 0 = natN s 0 := by unfold natT; rw [if_neg (by omega)]; rfl

/-- a variable's literal -/
def ofL (v : Nat) (ng : Bool) : Int := if 16777216 < v then -1 else if ng then 2 * v + 1 else 2 * v

def litV : Option Nat → Value
  | some x => .tuple #[.int .i64 (x : Int), .int .i64 0]
  | none => .tuple #[.int .i64 0, .int .i64 2]

theorem litR_is {s : ByteArray} {v en er : Nat} (hN : natN (digW s) 0 = (v, en, er)) : litR s = if er = 0 ∧ en = (digW s).size ∧ v ≤ 16777216 then some (2 * v + (if negW s then 1 else 0)) else none := by
  unfold litR; rw [hN]

theorem natN_small {s : ByteArray} {p v en er : Nat} (hp : p ≤ s.size) (hN : natN s p = (v, en, er)) : v < 1000000000 ∧ en ≤ s.size := by
  by_cases he : er = 0
  · subst he
    obtain ⟨_, h2, h3, _⟩ := dec_natN hp hN
    exact ⟨h3, h2⟩
  · unfold natN at hN
    split at hN
    · simp only [Prod.mk.injEq] at hN; omega
    split at hN
    · simp only [Prod.mk.injEq] at hN; omega
    split at hN
    · simp only [Prod.mk.injEq] at hN; omega
    · simp only [Prod.mk.injEq] at hN; omega

end Go.Proofs.YtcnegeggecmncaaGreatDoor

/-
  clause.Read and deriv.line: a clause of a text, a line of a text.
-/
namespace Go.Proofs.YtcnegeggecmncaaGreatDoor
open Go.RowKit

/-- the library's MaxLen has some value -/
def ML (w : World) : Prop := ∃ m, w.cell? ⟨0, 0, none⟩ = some (.int .i64 m)

theorem ML.kp {w w' : World} (h : ML w) (k : Kp (fun _ => False) w w') : ML w' := by
  obtain ⟨m, h⟩ := h
  have hlt := World.block_lt_of_cell? w _ h
  exact ⟨m, (World.cell?_of_block (w := w) (w' := w') (k.block _ hlt (fun h => h))).trans h⟩

def nums (l : List Nat) : List Value := l.map (fun (n : Nat) => Value.int .i64 (n : Int))

theorem nums_length (l : List Nat) : (nums l).length = l.length := by simp [nums]
theorem nums_snoc (l : List Nat) (x : Nat) : nums (l ++ [x]) = nums l ++ [.int .i64 (x : Int)] := by simp [nums]

/-- the clause of a text -/
def clauseR (s : ByteArray) : Option (List Nat) := if s.size = 0 then some [] else litsR (wordsB s)

def okE (o : Option (List Nat)) : Int := match o with
  | some _ => 0
  | none => 2

theorem jn_mem : ∀ {xs : List (List UInt8)} {x : List UInt8}, x ∈ xs → x.length ≤ (jn xs).length
  | [a], x, h => by simp at h; subst h; simp [jn]
  | a :: b :: r, x, h => by
    rw [jn_cons (by simp)]
    rcases List.mem_cons.1 h with rfl | h
    · simp
    · have := jn_mem h
      simp only [List.length_append, List.length_cons]; omega

theorem word_size {s b : ByteArray} (h : b ∈ wordsB s) : b.size ≤ s.size := by
  have h1 : b.data.toList ∈ wordsF s.data.toList := by rw [← wordsB_data]; exact List.mem_map.2 ⟨b, h, rfl⟩
  have h2 := jn_mem h1
  rw [jn_words, list_size, list_size] at h2
  exact h2

theorem words_count (s : ByteArray) : (wordsB s).length ≤ s.size + 1 := by rw [← count_words]; have := count_le s; omega

theorem litsR_take {ws : List ByteArray} {k : Nat} {b : ByteArray} {l : List Nat} (hk : ws[k]? = some b) (h : litsR (ws.take k) = some l) {x : Nat} (hx : litR b = some x) : litsR (ws.take (k + 1)) = some (l ++ [x]) := by
  have hl := (List.getElem?_eq_some_iff.1 hk)
  obtain ⟨h1, h2⟩ := hl
  rw [List.take_succ_eq_append_getElem h1, h2]
  exact litsR_snoc h hx

theorem toList_nil {s : ByteArray} (h : s.size = 0) : s.toList = [] := by
  rw [Lib.toList_data]; exact List.eq_nil_of_length_eq_zero (by rw [list_size]; exact h)
theorem nil_toList {s : ByteArray} (h : s.toList = []) : s.size = 0 := by
  rw [Lib.toList_data] at h; rw [← list_size, h]; rfl

theorem intInfo : (Tryz.prog.info? 3).map (fun i => (i.zero, i.size, i.bytes)) = some (some (.int .i64 0), 1, 8) := by kernel_rfl

def sgn (f : Bool) : ByteArray := if f then ⟨#[45]⟩ else ⟨#[43]⟩

/-- what deriv.line leaves -/
def LineP (o : Option (Bool × List Nat)) (w : World) (e : Ending) (w' : World) : Prop :=
  Kp (fun _ => False) w w' ∧ match o with
    | some (f, c) => ∃ v, e = .returned (.tuple #[.agg #[.bool f, v], .bool true]) ∧ Own w' w.heap.size 3 v (nums c)
    | none => ∃ f a n c, e = .returned (.tuple #[.agg #[.bool f, .slice a n c], .bool false])

theorem has_one (s : ByteArray) (c : UInt8) : Lib.hasPrefix s.data.toList [c] = true ↔ ∃ r, s.data.toList = c :: r := by
  unfold Lib.hasPrefix
  cases s.data.toList with
  | nil => simp [List.isPrefixOf]
  | cons d r =>
    simp only [List.isPrefixOf_cons_cons, List.isPrefixOf_nil_left, Bool.and_true, beq_iff_eq, List.cons.injEq]
    constructor
    · rintro rfl; exact ⟨r, rfl, rfl⟩
    · rintro ⟨_, rfl, _⟩; rfl

theorem has_not {s : ByteArray} {c : UInt8} (h : ¬ ∃ r, s.data.toList = c :: r) : Lib.hasPrefix s.data.toList [c] = false := by
  rw [← has_one] at h; simpa using h

theorem trim_one {s : ByteArray} {c : UInt8} {r : List UInt8} (h : s.data.toList = c :: r) : (⟨(Lib.trimPrefix s.data.toList [c]).toArray⟩ : ByteArray) = ⟨r.toArray⟩ := by
  unfold Lib.trimPrefix
  rw [(has_one s c).2 ⟨r, h⟩, if_pos rfl, h]; rfl

/-- a line that does not begin with a sign is none -/
theorem line_nosign {s : ByteArray} (h1 : ¬ ∃ r, s.data.toList = 43 :: r) (h2 : ¬ ∃ r, s.data.toList = 45 :: r) : lineR s = none := by
  cases hl : lineR s with
  | none => rfl
  | some x =>
    obtain ⟨f, c⟩ := x
    have := (lineR_text hl).1
    unfold lineText at this
    cases f
    · exact absurd ⟨_, this⟩ h1
    · exact absurd ⟨_, this⟩ h2

def sgb (f : Bool) : UInt8 := if f then 45 else 43

theorem line_bare {s : ByteArray} {f : Bool} (h : s.data.toList = [sgb f]) : lineR s = some (f, []) :=
  text_lineR (fun x hx => by cases hx) (by rw [h]; rfl)

theorem line_noblank {s : ByteArray} {f : Bool} {c : UInt8} {r : List UInt8} (h : s.data.toList = sgb f :: c :: r) (hc : c ≠ 32) : lineR s = none := by
  cases hl : lineR s with
  | none => rfl
  | some x =>
    obtain ⟨g, l⟩ := x
    have := (lineR_text hl).1
    rw [h] at this
    unfold lineText at this
    cases l with
    | nil => simp at this
    | cons y l =>
      simp at this
      exact absurd this.2.1 hc

theorem line_words {s : ByteArray} {f : Bool} {r : List UInt8} (h : s.data.toList = sgb f :: 32 :: r) : lineR s = if r = [] then none else (clauseR ⟨r.toArray⟩).map (fun l => (f, l)) := by
  have hw := wordsB_data s
  have e : wordsF s.data.toList = [sgb f] :: wordsF r := by
    rw [h]
    exact words_app (a := [sgb f]) r (by intro b hb; simp at hb; subst hb; cases f <;> decide)
  have hw2 := wordsB_data ⟨r.toArray⟩
  rw [e] at hw
  unfold lineR
  cases hws : wordsB s with
  | nil => rw [hws] at hw; simp at hw
  | cons w ws =>
    rw [hws, List.map_cons] at hw
    injection hw with h1 h2
    have hwe : ws = wordsB ⟨r.toArray⟩ := by
      have h3 : ws.map (·.data.toList) = (wordsB ⟨r.toArray⟩).map (·.data.toList) := by rw [h2, hw2]
      exact List.map_inj_right (fun a b hab => ba_ext hab) |>.1 h3
    simp only
    have key : (litsR ws).map (fun l => (f, l)) = if r = [] then none else (clauseR ⟨r.toArray⟩).map (fun l => (f, l)) := by
      rw [hwe]
      by_cases hr : r = []
      · subst hr
        rw [if_pos rfl]
        have : wordsB ⟨[].toArray⟩ = [⟨#[]⟩] := by
          have h4 := wordsB_data ⟨[].toArray⟩
          cases hx : wordsB ⟨[].toArray⟩ with
          | nil => rw [hx] at h4; simp [wordsF] at h4
          | cons a b =>
            rw [hx] at h4
            simp [wordsF] at h4
            rw [h4.2, ba_ext (a := a) (b := ⟨#[]⟩) (by rw [h4.1])]
        rw [this]
        have : litR ⟨#[]⟩ = none := by
          cases hq : litR ⟨#[]⟩ with
          | none => rfl
          | some x =>
            have h5 := (litR_text hq).1
            unfold lt at h5
            split at h5
            · simp at h5
            · have := dd_pos (x / 2)
              rw [← h5] at this; simp at this
        simp [litsR, this]
      · rw [if_neg hr]
        unfold clauseR
        rw [if_neg (by intro h0; rw [← list_size] at h0; exact hr (by simpa using h0))]
    cases f with
    | false =>
      have : w = ⟨#[43]⟩ := ba_ext h1
      rw [if_pos this, key]
    | true =>
      have : w = ⟨#[45]⟩ := ba_ext h1
      rw [if_neg (by rw [this]; decide), if_pos this, key]

end Go.Proofs.YtcnegeggecmncaaGreatDoor

/-
  deriv.line.
-/
namespace Go.Proofs.YtcnegeggecmncaaGreatDoor
open Go.RowKit

theorem two_blocks (w : World) (c0 c1 : Array Value) (t : TypeId) : Blk ((w.alloc (.cells c0 t)).alloc (.cells c1 t)) w.heap.size c0 t ∧ Blk ((w.alloc (.cells c0 t)).alloc (.cells c1 t)) (w.heap.size + 1) c1 t ∧ Kp (fun _ => False) w ((w.alloc (.cells c0 t)).alloc (.cells c1 t)) := by
  refine ⟨(Blk.new w c0 t).alloc _, ?_, ((Kp.refl _ _).alloc _).alloc _⟩
  have := Blk.new (w.alloc (.cells c0 t)) c1 t
  rw [World.size_alloc] at this
  exact this

theorem sgn_data (f : Bool) : (sgn f).data.toList = [sgb f] := by cases f <;> rfl

theorem has_sign {s : ByteArray} {f : Bool} {r : List UInt8} (h : s.data.toList = sgb f :: r) : Lib.hasPrefix s.data.toList [45] = f := by
  cases f with
  | false =>
    refine has_not ?_
    rintro ⟨r', h'⟩
    rw [h] at h'
    simp [sgb] at h'
  | true => exact (has_one s 45).2 ⟨r, h⟩

theorem not_empty {s : ByteArray} (h : s.size ≠ 0) : ¬ s.toList = [] ∧ s.toList.isEmpty = false ∧ (!s.toList.isEmpty) = true := by
  have h1 : ¬ s.toList = [] := fun e => h (nil_toList e)
  have h2 : s.toList.isEmpty = false := by cases hl : s.toList with
    | nil => exact absurd hl h1
    | cons a r => rfl
  exact ⟨h1, h2, by rw [h2]; rfl⟩

theorem is_empty {s : ByteArray} (h : s.size = 0) : s.toList = [] ∧ s.toList.isEmpty = true ∧ (!s.toList.isEmpty) = false := by
  have h1 := toList_nil h
  exact ⟨h1, by rw [h1]; rfl, by rw [h1]; rfl⟩

theorem cut_blank {rest : ByteArray} {r : List UInt8} (h : rest.data.toList = 32 :: r) (u : World) : Calls Tryz.prog 46 #[.string rest, .string ⟨#[32]⟩] u fun e w' => e = .returned (.tuple #[.string ⟨r.toArray⟩, .bool true]) ∧ w' = u := by
  have HC := Tryz.strings_CutPrefix rest ⟨#[32]⟩ u
  rw [show (⟨#[32]⟩ : ByteArray).data.toList = [32] from rfl, (has_one rest 32).2 ⟨r, h⟩, trim_one h] at HC
  exact HC

theorem cut_noblank {rest : ByteArray} (h : ¬ ∃ r, rest.data.toList = 32 :: r) (u : World) : Calls Tryz.prog 46 #[.string rest, .string ⟨#[32]⟩] u fun e w' => e = .returned (.tuple #[.string rest, .bool false]) ∧ w' = u := by
  have HC := Tryz.strings_CutPrefix rest ⟨#[32]⟩ u
  rw [show (⟨#[32]⟩ : ByteArray).data.toList = [32] from rfl, has_not h] at HC
  have e : (⟨(Lib.trimPrefix rest.data.toList [32]).toArray⟩ : ByteArray) = rest := by
    apply ba_ext
    unfold Lib.trimPrefix
    rw [has_not h]; rfl
  rw [e] at HC
  exact HC

end Go.Proofs.YtcnegeggecmncaaGreatDoor

/-
  deriv.Read.
-/
namespace Go.Proofs.YtcnegeggecmncaaGreatDoor
open Go.RowKit

/-- lines as rows of two cells -/
def lrows (rs : List (Bool × Value)) : List (List Value) := rs.map (fun r => [.bool r.1, r.2])

/-- the clauses of lines lie in blocks of their own -/
def Lns (w : World) (base : Nat) (rs : List (Bool × Value)) (L : List (Bool × List Nat)) : Prop :=
  rs.length = L.length ∧ ∀ (k : Nat) (r : Bool × Value) (x : Bool × List Nat), rs[k]? = some r → L[k]? = some x → r.1 = x.1 ∧ Own w base 3 r.2 (nums x.2)

theorem Lns.nil (w : World) (base : Nat) : Lns w base [] [] := ⟨rfl, fun k r x h => by simp at h⟩

theorem Lns.kp {S : Nat → Prop} {w w' : World} {base : Nat} {rs : List (Bool × Value)} {L : List (Bool × List Nat)} (h : Lns w base rs L) (k : Kp S w w') (hS : ∀ r ∈ rs, ∀ j, r.2.ownBlock = some j → ¬ S j) : Lns w' base rs L :=
  ⟨h.1, fun i r x hr hx => ⟨(h.2 i r x hr hx).1, (h.2 i r x hr hx).2.kp k (hS r (List.mem_of_getElem? hr))⟩⟩

theorem Lns.snoc {w : World} {base : Nat} {rs : List (Bool × Value)} {L : List (Bool × List Nat)} {f : Bool} {v : Value} {c : List Nat} (h : Lns w base rs L) (hv : Own w base 3 v (nums c)) : Lns w base (rs ++ [(f, v)]) (L ++ [(f, c)]) := by
  refine ⟨by rw [List.length_append, List.length_append, h.1]; rfl, ?_⟩
  intro k r x hr hx
  by_cases hk : k < rs.length
  · rw [List.getElem?_append_left hk] at hr
    rw [List.getElem?_append_left (by rw [← h.1]; exact hk)] at hx
    exact h.2 k r x hr hx
  · rw [List.getElem?_append_right (by omega)] at hr
    rw [List.getElem?_append_right (by rw [← h.1]; omega), ← h.1] at hx
    cases hi : k - rs.length with
    | zero =>
      rw [hi] at hr hx
      simp at hr hx
      subst hr hx
      exact ⟨rfl, hv⟩
    | succ n => rw [hi] at hr; simp at hr

theorem Lns.mono {w : World} {base b' : Nat} {rs : List (Bool × Value)} {L : List (Bool × List Nat)} (h : Lns w base rs L) (hb : b' ≤ base) : Lns w b' rs L :=
  ⟨h.1, fun i r x hr hx => ⟨(h.2 i r x hr hx).1, (h.2 i r x hr hx).2.mono hb⟩⟩

/-- each clause's block, if it has one, is a block of ints -/
theorem Lns.block {w : World} {base : Nat} {rs : List (Bool × Value)} {L : List (Bool × List Nat)} (h : Lns w base rs L) {r : Bool × Value} (hr : r ∈ rs) {j : Nat} (hj : r.2.ownBlock = some j) : base ≤ j ∧ ∃ c, Blk w j c 3 := by
  obtain ⟨k, hk⟩ := List.mem_iff_getElem?.1 hr
  have hkl := (List.getElem?_eq_some_iff.1 hk).1
  have hO := (h.2 k r _ hk (List.getElem?_eq_getElem (by rw [← h.1]; exact hkl))).2
  rcases hO.2 with ⟨hv, _⟩ | ⟨g, cap, cur, hv, hb, hg, _⟩
  · rw [hv] at hj; cases hj
  · rw [hv] at hj
    have e : g = j := by simpa [Value.ownBlock] using hj
    subst e
    exact ⟨hb, cur, hg⟩

theorem OwnK.blk {w : World} {base k : Nat} {e : TypeId} {v : Value} {rows : List (List Value)} (h : OwnK w base e k v rows) {j : Nat} (hj : v.ownBlock = some j) : base ≤ j ∧ ∃ c, Blk w j c e := by
  rcases h.own.2 with ⟨hv, _⟩ | ⟨g, cap, cur, hv, hb, hg, _⟩
  · rw [hv] at hj; cases hj
  · rw [hv] at hj
    have e : g = j := by simpa [Value.ownBlock] using hj
    subst e
    exact ⟨hb, cur, hg⟩

theorem blk_type {w : World} {j : Nat} {c c' : Array Value} {t t' : TypeId} (h : Blk w j c t) (h' : Blk w j c' t') : t = t' := by
  unfold Blk at h h'
  rw [h] at h'
  simp at h'
  exact h'.2

theorem derivR_err {s : ByteArray} {f p n nx er : Nat} {t : ByteArray} {L : List (Bool × List Nat)} (hp : p < s.size) (hl : lineT s (p : Nat) = (t, nx, er)) (he : er ≠ 0) : derivR s (f + 1) L p n = ⟨[], n + 1, er⟩ := by
  unfold derivR; rw [if_neg (by omega), hl, if_pos he]
theorem derivR_form {s : ByteArray} {f p n nx er : Nat} {t : ByteArray} {L : List (Bool × List Nat)} (hp : p < s.size) (hl : lineT s (p : Nat) = (t, nx, er)) (he : er = 0) (hx : lineR t = none) : derivR s (f + 1) L p n = ⟨[], n + 1, 2⟩ := by
  unfold derivR; rw [if_neg (by omega), hl, if_neg (by simpa using he)]; simp only; rw [hx]
theorem derivR_more {s : ByteArray} {f p n nx er : Nat} {t : ByteArray} {x : Bool × List Nat} {L : List (Bool × List Nat)} (hp : p < s.size) (hl : lineT s (p : Nat) = (t, nx, er)) (he : er = 0) (hx : lineR t = some x) : derivR s (f + 1) L p n = derivR s f (L ++ [x]) nx (n + 1) := by
  conv => lhs; unfold derivR
  rw [if_neg (by omega), hl, if_neg (by simpa using he)]; simp only; rw [hx]

theorem three_blocks (w : World) (c0 c1 c2 : Array Value) (t0 t1 t2 : TypeId) :
    Blk (((w.alloc (.cells c0 t0)).alloc (.cells c1 t1)).alloc (.cells c2 t2)) w.heap.size c0 t0 ∧ Blk (((w.alloc (.cells c0 t0)).alloc (.cells c1 t1)).alloc (.cells c2 t2)) (w.heap.size + 1) c1 t1 ∧ Blk (((w.alloc (.cells c0 t0)).alloc (.cells c1 t1)).alloc (.cells c2 t2)) (w.heap.size + 2) c2 t2 := by
  refine ⟨((Blk.new w c0 t0).alloc _).alloc _, ?_, ?_⟩
  · have := (Blk.new (w.alloc (.cells c0 t0)) c1 t1).alloc (.cells c2 t2)
    rw [World.size_alloc] at this
    exact this
  · have := Blk.new ((w.alloc (.cells c0 t0)).alloc (.cells c1 t1)) c2 t2
    rw [World.size_alloc, World.size_alloc] at this
    exact this

/-- three cells of the call's own, written -/
theorem three_set {wr : World} {B : Nat} {x0 x1 x2 : Value} {t0 t1 t2 : TypeId} (b0 : Blk wr B #[x0] t0) (b1 : Blk wr (B + 1) #[x1] t1) (b2 : Blk wr (B + 2) #[x2] t2) (y0 y1 y2 : Value) :
    Blk (((wr.setCell ⟨B, 0, none⟩ y0).setCell ⟨B + 1, 0, none⟩ y1).setCell ⟨B + 1 + 1, 0, none⟩ y2).drew B #[y0] t0 ∧ Blk (((wr.setCell ⟨B, 0, none⟩ y0).setCell ⟨B + 1, 0, none⟩ y1).setCell ⟨B + 1 + 1, 0, none⟩ y2).drew (B + 1) #[y1] t1 ∧ Blk (((wr.setCell ⟨B, 0, none⟩ y0).setCell ⟨B + 1, 0, none⟩ y1).setCell ⟨B + 1 + 1, 0, none⟩ y2).drew (B + 2) #[y2] t2 ∧
    Kp (fun j => j = B ∨ j = B + 1 ∨ j = B + 2) wr (((wr.setCell ⟨B, 0, none⟩ y0).setCell ⟨B + 1, 0, none⟩ y1).setCell ⟨B + 1 + 1, 0, none⟩ y2).drew := by
  refine ⟨?_, ?_, ?_, ?_⟩
  · exact (((b0.set_same 0 y0).set_other (p := ⟨B + 1, 0, none⟩) (by simp) y1).set_other (p := ⟨B + 1 + 1, 0, none⟩) (by simp; omega) y2).drew
  · exact (((b1.set_other (p := ⟨B, 0, none⟩) (by simp) y0).set_same 0 y1).set_other (p := ⟨B + 1 + 1, 0, none⟩) (by simp) y2).drew
  · exact (((b2.set_other (p := ⟨B, 0, none⟩) (by simp) y0).set_other (p := ⟨B + 1, 0, none⟩) (by simp) y1).set_same 0 y2).drew
  · exact ((((Kp.refl _ wr).setCell (p := ⟨B, 0, none⟩) (fun _ => .inl rfl) y0).setCell (p := ⟨B + 1, 0, none⟩) (fun _ => .inr (.inl rfl)) y1).setCell (p := ⟨B + 1 + 1, 0, none⟩) (fun _ => .inr (.inr rfl)) y2).drew

end Go.Proofs.YtcnegeggecmncaaGreatDoor

/-
  strings.Builder: WriteByte, WriteString, with a sharper word on what is written.
-/
namespace Go.Proofs.YtcnegeggecmncaaGreatDoor
open Go.RowKit

/-- what writing into the builder at block b may turn: that block, and blocks of bytes -/
def BFr (b : Nat) (w : World) (j : Nat) : Prop := j = b ∨ ∃ c, Blk w j c 5

theorem BFr.not {b j : Nat} {w : World} {c : Array Value} {t : TypeId} (h : Blk w j c t) (hj : j ≠ b) (ht : t ≠ 5) : ¬ BFr b w j := by
  rintro (e | ⟨c', h'⟩)
  · exact hj e
  · unfold Blk at h h'
    rw [h] at h'
    simp at h'
    exact ht h'.2

end Go.Proofs.YtcnegeggecmncaaGreatDoor

/-
  The reference's Bits.
-/
namespace Go.Proofs.YtcnegeggecmncaaGreatDoor
open Go.RowKit

theorem boolInfo : (Tryz.prog.info? 4).map (fun i => (i.zero, i.size, i.bytes)) = some (some (.bool false), 1, 1) := by kernel_rfl

end Go.Proofs.YtcnegeggecmncaaGreatDoor

/-
  octet.Text, the reference's Text and Same: signs of truths.
-/
namespace Go.Proofs.YtcnegeggecmncaaGreatDoor
open Go.RowKit

def sign (b : Bool) : UInt8 := if b then 49 else 48
def signs (l : List Bool) : List UInt8 := l.map sign

/-- the truth at a place -/
def tb (l : List Bool) (k : Nat) : Bool := l[k]?.getD false
theorem tb_at {l : List Bool} {k : Nat} (h : k < l.length) : (l.map Value.bool)[k]? = some (.bool (tb l k)) := by
  simp [tb, List.getElem?_eq_getElem h]
theorem take_tb {l : List Bool} {k : Nat} (h : k < l.length) : l.take (k + 1) = l.take k ++ [tb l k] := by
  rw [List.take_add_one]; simp [tb, List.getElem?_eq_getElem h]

theorem signs_append (a b : List Bool) : signs (a ++ b) = signs a ++ signs b := by simp [signs]
theorem signs_succ {l : List Bool} {k : Nat} (h : k < l.length) : signs (l.take (k + 1)) = signs (l.take k) ++ [sign (tb l k)] := by
  rw [take_tb h, signs_append]; rfl
theorem signs_length (l : List Bool) : (signs l).length = l.length := by simp [signs]
theorem cells_one {l : List UInt8} {c : UInt8} {n : Int} (h : (c.toNat : Int) = n) : Lib.byteCells (l ++ [c]) = Lib.byteCells l ++ [.int .u8 n] := by
  rw [Lib.byteCells_append]; simp [Lib.byteCells, h]

end Go.Proofs.YtcnegeggecmncaaGreatDoor

/-
  clause.Text.
-/
namespace Go.Proofs.YtcnegeggecmncaaGreatDoor
open Go.RowKit

def ltxt (l : Int) : ByteArray := ⟨(litText l).toArray⟩

theorem join_jn : ∀ xs : List (List UInt8), Lib.join xs [32] = jn xs
  | [] => rfl
  | a :: r => by
    rw [jn_flat, Lib.join_cons]
    unfold Lib.joinTail
    rw [List.flatMap]
    rfl

theorem jn_len : ∀ {xs : List (List UInt8)} {m : Nat}, (∀ x ∈ xs, x.length ≤ m) → (jn xs).length ≤ (m + 1) * xs.length
  | [], m, _ => by simp [jn]
  | a :: r, m, h => by
    rw [jn_flat, List.length_append, List.length_cons]
    have h1 := h a (by simp)
    have h2 : ∀ (r : List (List UInt8)), (∀ x ∈ r, x.length ≤ m) → (r.flatMap (fun x => 32 :: x)).length ≤ (m + 1) * r.length := by
      intro r
      induction r with
      | nil => intro _; simp
      | cons b r ih =>
        intro h
        have h3 := h b (by simp)
        have h4 := ih (fun x hx => h x (by simp [hx]))
        rw [List.flatMap_cons, List.length_append, List.length_cons, List.length_cons, Nat.mul_succ]
        omega
    have := h2 r (fun x hx => h x (by simp [hx]))
    rw [Nat.mul_succ]; omega

theorem made_strs (n : Nat) : madeCells #[.string .empty] n = (strs (List.replicate n .empty)).toArray := by
  apply Array.ext
  · simp [madeCells, strs]
  · intro i h1 h2
    simp [madeCells, strs, Nat.mod_one]

theorem strs_set (L : List ByteArray) (k : Nat) (x : ByteArray) : (strs L).toArray.setIfInBounds k (.string x) = (strs (L.set k x)).toArray := by simp [strs, List.map_set]
theorem strs_at {L : List ByteArray} {k : Nat} {x : ByteArray} (h : L[k]? = some x) : (strs L).toArray[k]? = some (.string x) := by simp [strs, h]

end Go.Proofs.YtcnegeggecmncaaGreatDoor

/-
  deriv.Write.
-/
namespace Go.Proofs.YtcnegeggecmncaaGreatDoor
open Go.RowKit

/-- a slice of ints that reads l -/
def IntsSl (w : World) (v : Value) (l : List Int) : Prop := ∃ a cap, v = .slice a l.length cap ∧ l.length ≤ cap ∧ cap ≤ maxLen ∧ (a = none → cap = 0) ∧ IntsAt w a l

theorem IntsSl.kp {w w' : World} {v : Value} {l : List Int} (h : IntsSl w v l) (k : Kp (fun _ => False) w w') : IntsSl w' v l := by
  obtain ⟨a, cap, e, h1, h2, h3, h4⟩ := h
  exact ⟨a, cap, e, h1, h2, h3, h4.kp k (fun _ _ h => h)⟩

/-- rows of lines that read L -/
def LnsAt (w : World) (a : Option Addr) (L : List (Bool × List Int)) : Prop :=
  ∃ rs : List (Bool × Value), RowAt w a (lrows rs).flatten ∧ rs.length = L.length ∧ ∀ (k : Nat) (r : Bool × Value) (x : Bool × List Int), rs[k]? = some r → L[k]? = some x → r.1 = x.1 ∧ IntsSl w r.2 x.2

theorem LnsAt.kp {w w' : World} {a : Option Addr} {L : List (Bool × List Int)} (h : LnsAt w a L) (k : Kp (fun _ => False) w w') : LnsAt w' a L := by
  obtain ⟨rs, h1, h2, h3⟩ := h
  exact ⟨rs, h1.kp k (fun _ _ h => h), h2, fun i r x hr hx => ⟨(h3 i r x hr hx).1, (h3 i r x hr hx).2.kp k⟩⟩

theorem lrows_len (rs : List (Bool × Value)) : ∀ r ∈ lrows rs, r.length = 2 := by
  intro r hr
  obtain ⟨x, _, rfl⟩ := List.mem_map.1 hr
  rfl

def li (L : List (Bool × List Int)) (k : Nat) : Bool × List Int := L[k]?.getD (false, [])
theorem li_at {L : List (Bool × List Int)} {k : Nat} (h : k < L.length) : L[k]? = some (li L k) := by unfold li; rw [List.getElem?_eq_getElem h]; rfl

/-- the cells of line k -/
theorem LnsAt.line {w : World} {a : Option Addr} {L : List (Bool × List Int)} (h : LnsAt w a L) {k : Nat} (hk : k < L.length) :
    ∃ b off v, a = some ⟨b, off, none⟩ ∧ w.cell? ⟨b, off + k * 2, none⟩ = some (.bool (li L k).1) ∧ w.cell? ⟨b, off + k * 2 + 1, none⟩ = some v ∧ IntsSl w v (li L k).2 := by
  obtain ⟨rs, h1, h2, h3⟩ := h
  have hk' : k < rs.length := by rw [h2]; exact hk
  have hr : rs[k]? = some rs[k] := List.getElem?_eq_getElem hk'
  have hl : (lrows rs)[k]? = some [.bool rs[k].1, rs[k].2] := by simp [lrows, hr]
  obtain ⟨b, off, rfl, c0⟩ := h1.cellAt (lrows_len rs) (j := k) (i := 0) hl rfl
  obtain ⟨b1, off1, e1, c1⟩ := h1.cellAt (lrows_len rs) (j := k) (i := 1) hl rfl
  simp only [Option.some.injEq, Addr.mk.injEq, and_true] at e1
  obtain ⟨rfl, rfl⟩ := e1
  obtain ⟨e, hi⟩ := h3 k _ _ hr (li_at hk)
  rw [e] at c0
  exact ⟨b, off, _, rfl, c0, c1, hi⟩

/-- the lines' texts -/
def lti (L : List (Bool × List Int)) : List (Bool × List (List UInt8)) := L.map (fun x => (x.1, x.2.map litText))

theorem isbKp {T e : TypeId} {B b : Nat} {bs : List Value} {w w' : World} (h : Lib.IsBuilder T e B b bs w) (k : Kp (fun _ => False) w w') : Lib.IsBuilder T e B b bs w' := by
  have go : ∀ p, Lib.BuilderAt T e B b p bs w → Lib.BuilderAt T e B b p bs w' := by
    rintro p ⟨hB, v, hb, hown, hne⟩
    exact ⟨hB, v, (k.block b (Array.getElem?_eq_some_iff.1 hb).1 (fun h => h)).trans hb, Own.kp (cs := bs) hown k (fun _ _ h => h), hne⟩
  rcases h with h | h
  · exact .inl (go _ h)
  · exact .inr (go _ h)

theorem bcells_append (a b : List UInt8) : Lib.byteCells (a ++ b) = Lib.byteCells a ++ Lib.byteCells b := by simp [Lib.byteCells]
theorem strCells_is (s : ByteArray) : Lib.strCells s = Lib.byteCells s.data.toList := rfl

theorem words_flat {c : List (List UInt8)} (h : c ≠ []) : 32 :: jn c = c.flatMap (fun x => 32 :: x) := by
  cases c with
  | nil => exact absurd rfl h
  | cons a r => rw [jn_flat, List.flatMap_cons]; rfl

theorem linesText_take {L : List (Bool × List Int)} {k : Nat} (h : k < L.length) : linesText (lti (L.take (k + 1))) = linesText (lti (L.take k)) ++ (lineText (li L k).1 ((li L k).2.map litText) ++ [10]) := by
  have e : L.take (k + 1) = L.take k ++ [li L k] := by
    rw [List.take_succ_eq_append_getElem h]
    congr 2
    unfold li; rw [List.getElem?_eq_getElem h]; rfl
  rw [e]
  unfold lti
  rw [List.map_append, linesText_append]
  congr 1
  simp [linesText]

theorem linesText_take_le (L : List (Bool × List Int)) (k : Nat) : (linesText (lti (L.take k))).length ≤ (linesText (lti L)).length := by
  conv => rhs; rw [← List.take_append_drop k L]
  unfold lti
  rw [List.map_append, linesText_append, List.length_append]
  omega

theorem Kp.cellAt {w w' : World} (k : Kp (fun _ => False) w w') {b o : Nat} {v : Value} (h : w.cell? ⟨b, o, none⟩ = some v) : w'.cell? ⟨b, o, none⟩ = some v :=
  (World.cell?_of_block (w := w) (w' := w') (a := ⟨b, o, none⟩) (k.block b (World.block_lt_of_cell? w _ h) (fun h => h))).trans h

theorem sgn_size (f : Bool) : (sgn f).size = 1 := by cases f <;> rfl

end Go.Proofs.YtcnegeggecmncaaGreatDoor

/-
  latchetref02.Ints: whether two lists of ints are one.
-/
namespace Go.Proofs.YtcnegeggecmncaaGreatDoor
open Go.RowKit

theorem ints_ext {l l' : List Int} (hl : l.length = l'.length) (h : ∀ j, j < l.length → gi l j = gi l' j) : l = l' := by
  apply List.ext_getElem?
  intro j
  by_cases hj : j < l.length
  · have := h j hj
    unfold gi at this
    rw [List.getElem?_eq_getElem hj, List.getElem?_eq_getElem (by omega)] at this ⊢
    simpa using this
  · rw [List.getElem?_eq_none (by omega), List.getElem?_eq_none (by omega)]

end Go.Proofs.YtcnegeggecmncaaGreatDoor

/-
  latchetref28.Same, deriv.Learned; what is read, as rows of lines.
-/
namespace Go.Proofs.YtcnegeggecmncaaGreatDoor
open Go.RowKit

theorem LnsAt.drewN {w : World} {a : Option Addr} {L : List (Bool × List Int)} (h : LnsAt w a L) (q : Nat) : LnsAt (w.drewN q) a L := h.kp ((Kp.refl _ _).drewN q)

/-- how many lines are learned -/
def learnt (L : List (Bool × List Int)) : Nat := (L.filter (fun x => !x.1)).length

theorem learnt_take {L : List (Bool × List Int)} {k : Nat} (h : k < L.length) : learnt (L.take (k + 1)) = learnt (L.take k) + (if (li L k).1 then 0 else 1) := by
  have e : L.take (k + 1) = L.take k ++ [li L k] := by
    rw [List.take_succ_eq_append_getElem h]
    congr 2
    unfold li; rw [List.getElem?_eq_getElem h]; rfl
  rw [e]
  unfold learnt
  rw [List.filter_append, List.length_append]
  congr 1
  cases h : (li L k).1 <;> simp [h]

theorem learnt_le (L : List (Bool × List Int)) : learnt L ≤ L.length := List.length_filter_le _ _

/-- lines of numbers, as lines of ints -/
def toI (L : List (Bool × List Nat)) : List (Bool × List Int) := L.map (fun x => (x.1, x.2.map (fun (n : Nat) => (n : Int))))

theorem litText_lt {x : Nat} (h : x ≤ 33554433) : litText (x : Int) = lt x := by
  unfold litText lt
  rw [if_pos (by simp [gl]; omega)]
  by_cases ho : x % 2 = 1
  · rw [if_pos (by omega), if_pos ho, show (x : Int) / 2 = ((x / 2 : Nat) : Int) by omega, itoa_nat]
  · rw [if_neg (by omega), if_neg ho, show (x : Int) / 2 = ((x / 2 : Nat) : Int) by omega, itoa_nat]

theorem lti_toI {L : List (Bool × List Nat)} (hg : ∀ x ∈ L, goodL x.2) : lti (toI L) = ltl L := by
  unfold lti toI ltl
  rw [List.map_map]
  apply List.map_congr_left
  intro x hx
  simp only [Function.comp_apply, List.map_map, Prod.mk.injEq, true_and]
  apply List.map_congr_left
  intro y hy
  exact litText_lt (hg x hx y hy)

end Go.Proofs.YtcnegeggecmncaaGreatDoor

/-
  latchetlaw28.lives.
-/
namespace Go.Proofs.YtcnegeggecmncaaGreatDoor
open Go.RowKit

theorem lineT_size {s : ByteArray} {p : Nat} (hp : p ≤ s.size) : (lineT s (p : Nat)).1.size ≤ s.size := by
  unfold lineT
  rw [if_neg (by omega)]
  split
  · simp only [ByteArray.size_extract]; omega
  · exact Nat.zero_le _

def dlText : ByteArray := ⟨#[43, 32, 49, 32, 33, 50, 10, 43, 10]⟩
def dlLines : List (Bool × List Nat) := [(false, [2, 5]), (false, [])]

theorem dl_text : linesText (ltl dlLines) = [43, 32, 49, 32, 33, 50, 10, 43, 10] := by decide +kernel
theorem dl_good : ∀ x ∈ dlLines, goodL x.2 := by
  intro x hx
  simp [dlLines] at hx
  rcases hx with rfl | rfl
  · intro y hy; simp at hy; omega
  · intro y hy; cases hy
theorem dl_read : derivT dlText = ⟨dlLines, 0, 0⟩ := text_derivT dl_good (by rw [dl_text]; rfl) (by decide)

end Go.Proofs.YtcnegeggecmncaaGreatDoor

/-
  wit.lines: the lines of a text, one behind the other, up to the first that is none: the contract of a function that is ranged over.
-/
namespace Go.Proofs.YtcnegeggecmncaaGreatDoor
open Go.RowKit Go.Shelf

attribute [local go_sem] Oper.semAt_some

/-- a line, where it stands, where the next one stands, what is wrong -/
structure LX (B : Nat) where
  text : ByteArray
  at_ : Nat
  next : Nat
  e : Nat
  ht : text.size ≤ B
  ha : at_ ≤ B
  hn : next ≤ B
  he : e ≤ 3

def LX.enc {B : Nat} (x : LX B) : Array Value := #[.agg #[.string x.text, .int .i64 x.at_, .int .i64 x.next, .int .i64 x.e]]

theorem lineT_next {s : ByteArray} {p : Nat} (hp : p ≤ s.size) : (lineT s (p : Nat)).2.1 ≤ s.size := by
  rw [lineT_in hp]
  rcases feed_cases s p with ⟨i, h0, h1, h2, _⟩ | ⟨h, _⟩
  · rw [h0]; simp only; omega
  · rw [h]; simp

theorem lineT_err {s : ByteArray} {p : Nat} (hp : p ≤ s.size) : (lineT s (p : Nat)).2.2 = 0 ∨ (lineT s (p : Nat)).2.2 = 3 := by
  rw [lineT_in hp]
  rcases feed_cases s p with ⟨i, h0, h1, h2, _⟩ | ⟨h, _⟩
  · rw [h0]; exact .inl rfl
  · rw [h]; exact .inr rfl

/-- the line at a place -/
def lx (s : ByteArray) (p : Nat) (hp : p ≤ s.size) : LX s.size :=
  ⟨(lineT s (p : Nat)).1, p, (lineT s (p : Nat)).2.1, (lineT s (p : Nat)).2.2, lineT_size hp, hp, lineT_next hp, by rcases lineT_err hp with h | h <;> omega⟩

/-- the lines from a place on, up to the first that is none -/
def linesF (s : ByteArray) : Nat → (p : Nat) → p ≤ s.size → List (LX s.size)
  | 0, _, _ => []
  | f + 1, p, hp => lx s p hp :: if (lineT s (p : Nat)).2.2 = 0 then linesF s f (lineT s (p : Nat)).2.1 (lineT_next hp) else []

/-- what a round keeps: the cell in which the text lies -/
def KeepB (B : Nat) (W W' : World) : Prop := W.heap.size ≤ W'.heap.size ∧ (B < W.heap.size → W'.heap[B]? = W.heap[B]?)

theorem KeepB.trans {B : Nat} {a b c : World} (h : KeepB B a b) (k : KeepB B b c) : KeepB B a c :=
  ⟨Nat.le_trans h.1 k.1, fun hl => (k.2 (Nat.lt_of_lt_of_le hl h.1)).trans (h.2 hl)⟩

theorem KeepB.refl (B : Nat) (w : World) : KeepB B w w := ⟨Nat.le_refl _, fun _ => rfl⟩

theorem KeepB.cell {B : Nat} {W W' : World} (h : KeepB B W W') {v : Value} (hc : W.cell? ⟨B, 0, none⟩ = some v) : W'.cell? ⟨B, 0, none⟩ = some v :=
  (World.cell?_of_block (w := W) (w' := W') (a := ⟨B, 0, none⟩) (h.2 (World.block_lt_of_cell? W _ hc))).trans hc

set_option maxRecDepth 100000 in
set_option maxHeartbeats 2000000 in
theorem wit_lines (s : ByteArray) (w : World) :
    Calls Tryz.prog 25 #[.string s] w fun e w' => e = .returned (.func (.func 43) #[] #[.pointer (some ⟨w.heap.size, 0, none⟩)]) ∧ w' = w.alloc (.cells #[.string s] 9) := by
  go_enter Tryz.func25, Tryz.ntmps25
  go_wp2_with fail
  go_ret
  exact ⟨rfl, rfl⟩

set_option maxRecDepth 100000 in
set_option maxHeartbeats 4000000 in
theorem lines1_in (n : Nat) (hn : 1 ≤ n) (l Bs : Nat) (s : ByteArray) (hs : s.size ≤ 100000) (J Jx : List (LX s.size) → World → Prop)
    (hY : ∀ pre x W, J pre W → pre.length < s.size + 2 → YieldAt Fence.wide (n - 1) Tryz.prog l (LX.enc x) W fun e W' =>
      (e = .returned (.bool true) ∧ J (pre ++ [x]) W' ∧ KeepB Bs W W') ∨ (e = .returned (.bool false) ∧ Jx (pre ++ [x]) W'))
    (W : World) (hBs : W.cell? ⟨Bs, 0, none⟩ = some (.string s)) (h0 : J [] W) :
    CallsIn Fence.wide n Tryz.prog 43 #[.func (.yield l) #[] #[], .pointer (some ⟨Bs, 0, none⟩)] W fun e W' => (∃ v, e = .returned v) ∧
      ((∃ ys, ys = linesF s (s.size + 2) 0 (Nat.zero_le _) ∧ J ys W') ∨ (∃ pre, pre <+: linesF s (s.size + 2) 0 (Nat.zero_le _) ∧ Jx pre W')) := by
  have HLine := Lib.hid (fun (p : Nat) (u : World) => octet_Line s p u (by omega))
  refine callsIn_of_wp Tryz.func43 rfl trivial ?_ rfl
  simp only [Tryz.ntmps43, List.size_toArray, List.length_cons, List.length_nil, Nat.reduceAdd, Nat.reduceSub, Array.replicate_succ, Array.replicate_zero, List.push_toArray, List.append_toArray, List.nil_append, List.cons_append]
  gi_wp2
  gi_loopw [3] (fun v3 wr => ∃ (p f : Nat) (hp : p ≤ s.size) (pre : List (LX s.size)), v3 = .int .i64 p ∧ pre.length + f = s.size + 2 ∧ pre.length ≤ p ∧ pre ++ linesF s f p hp = linesF s (s.size + 2) 0 (Nat.zero_le _) ∧ J pre wr ∧ wr.cell? ⟨Bs, 0, none⟩ = some (.string s))
    (fun v3 _ => s.size - (intOf v3).toNat)
  case atStart => exact ⟨0, s.size + 2, Nat.zero_le _, [], rfl, by simp, by simp, rfl, h0, hBs⟩
  case round =>
    obtain ⟨p, f, hp, pre, rfl, hf, hpre, hall, hJ, hc⟩ := hrel
    obtain ⟨f, rfl⟩ : ∃ f', f = f' + 1 := ⟨f - 1, by omega⟩
    have hR0 := hY pre (lx s p hp) wr hJ (by omega)
    have HL := HLine.out p wr
    have HF := Lib.hid (show linesF s (f + 1) p hp = lx s p hp :: if (lineT s (p : Nat)).2.2 = 0 then linesF s f (lineT s (p : Nat)).2.1 (lineT_next hp) else [] from rfl)
    have HEnc := Lib.hid (show (lx s p hp).enc = #[.agg #[.string (lineT s (p : Nat)).1, .int .i64 p, .int .i64 (lineT s (p : Nat)).2.1, .int .i64 (lineT s (p : Nat)).2.2]] from rfl)
    have HNx := Lib.hid (lineT_next hp)
    have HEnd := Lib.hid (fun h => lineT_end hp h)
    have HEr := Lib.hid (lineT_err hp)
    have HLV := Lib.hid (show lineV (lineT s (p : Nat)) = .tuple #[.string (lineT s (p : Nat)).1, .int .i64 (lineT s (p : Nat)).2.1, .int .i64 (lineT s (p : Nat)).2.2] from rfl)
    rw [HLV.out] at HL
    clear HLV
    have HAll := Lib.hid hall
    have HFu := Lib.hid hf
    clear hall hf
    obtain ⟨X, hX⟩ : ∃ X, lx s p hp = X := ⟨_, rfl⟩
    rw [hX] at hR0 HF HEnc
    obtain ⟨fn, tmps, assign, body, hy, hR⟩ := hR0
    rw [HEnc.out] at hy
    clear hX
    have hHL : Hid (∀ (_ : Unit), CallsIn Fence.wide (n - 1) Tryz.prog 44 #[.string s, .int .i64 p] wr fun e w' => e = .returned (.tuple #[.string (lineT s (p : Nat)).1, .int .i64 (lineT s (p : Nat)).2.1, .int .i64 (lineT s (p : Nat)).2.2]) ∧ wr = w') := Lib.hid (fun _ => callsIn_wide.2 HL)
    clear HL
    obtain ⟨t, nx, er, hT⟩ : ∃ t nx er, lineT s (p : Nat) = (t, nx, er) := ⟨_, _, _, rfl⟩
    simp only [hT] at hy hHL HF HNx HEnd HEr HEnc
    gi_wp2_with (refine ⟨trivial, ?_⟩; gi_at_call 44; refine (hHL.out ()).mono ?_; rintro e w' ⟨rfl, rfl⟩)
    refine hR.mono ?_
    rintro e W3 (⟨rfl, hJ3, hk3⟩ | ⟨rfl, hJx3⟩)
    · have hc3 := hk3.cell hc
      rcases HEr.out with he | he
      · subst he
        have HE := HEnd.out rfl
        gi_wp2
        go_roundw
        case rel => exact ⟨nx, f, HNx.out, pre ++ [X], rfl, by simp; have := HFu.out; omega, by simp; omega, by have h := HAll.out; rw [HF.out] at h; simpa using h, hJ3, hc3⟩
        case measure => simp [intOf]; omega
      · subst he
        gi_wp2
        refine bodyPost_ret (results_none rfl _ _ _) rfl ?_
        exact ⟨⟨_, rfl⟩, .inl ⟨pre ++ [X], by have h := HAll.out; rw [HF.out] at h; simpa using h, hJ3⟩⟩
    · rcases HEr.out with he | he
      all_goals
        subst he
        gi_wp2
        refine bodyPost_ret (results_none rfl _ _ _) rfl ?_
        exact ⟨⟨_, rfl⟩, .inr ⟨pre ++ [X], by have h := HAll.out; rw [HF.out] at h; exact ⟨_, by rw [← h, List.append_assoc]; rfl⟩, hJx3⟩⟩

/-- the lines that are handed over: all; or those up to some round that said: no more -/
theorem lines_stops (n : Nat) (hn : 1 ≤ n) (Bs : Nat) (s : ByteArray) (hs : s.size ≤ 100000) (w : World) (hBs : w.cell? ⟨Bs, 0, none⟩ = some (.string s)) :
    SeqStopsK Fence.wide n Tryz.prog 43 #[.pointer (some ⟨Bs, 0, none⟩)] (LX.enc (B := s.size)) (KeepB Bs) (fun ys => ys = linesF s (s.size + 2) 0 (Nat.zero_le _)) (fun pre => pre <+: linesF s (s.size + 2) 0 (Nat.zero_le _)) (s.size + 2) w :=
  fun l J Jx W hW _ _ hY h0 => lines1_in n hn l Bs s hs J Jx hY W ((hW.cell (p := ⟨Bs, 0, none⟩) (World.block_lt_of_cell? w _ hBs)).trans hBs) h0

end Go.Proofs.YtcnegeggecmncaaGreatDoor

/-
  wit.prop, wit.row, and strings.Index of "012".
-/
namespace Go.Proofs.YtcnegeggecmncaaGreatDoor
open Go.RowKit

theorem one_of_size {t : ByteArray} (h : t.size = 1) : ∃ c, t = ⟨#[c]⟩ ∧ bt t 0 = c.toNat := by
  obtain ⟨⟨l⟩⟩ := t
  have h1 : l.length = 1 := by simpa [ByteArray.size] using h
  obtain ⟨c, rfl⟩ := List.length_eq_one_iff.1 h1
  exact ⟨c, rfl, rfl⟩

theorem index_012 (c : UInt8) : ((48 ≤ c.toNat ∧ c.toNat ≤ 50) → Lib.indexByte [48, 49, 50] c = (c.toNat : Int) - 48) ∧ (¬ (48 ≤ c.toNat ∧ c.toNat ≤ 50) → Lib.indexByte [48, 49, 50] c < 0) := by
  by_cases e0 : c = 48
  · subst e0; decide
  by_cases e1 : c = 49
  · subst e1; decide
  by_cases e2 : c = 50
  · subst e2; decide
  have n0 : c.toNat ≠ 48 := fun h => e0 (UInt8.toNat_inj.1 h)
  have n1 : c.toNat ≠ 49 := fun h => e1 (UInt8.toNat_inj.1 h)
  have n2 : c.toNat ≠ 50 := fun h => e2 (UInt8.toNat_inj.1 h)
  have hi : Lib.indexByte [48, 49, 50] c = -1 := by
    simp [Lib.indexByte, Ne.symm e0, Ne.symm e1, Ne.symm e2]
  rw [hi]
  exact ⟨fun h => by omega, fun _ => by omega⟩

theorem wit_index (t : ByteArray) (w : World) (hm : ML w) :
    Calls Tryz.prog 26 #[.string ⟨#[48, 49, 50]⟩, .string t] w fun e w' => (∃ i : Int, e = .returned (.int .i64 i) ∧ (t.size = 1 → ((48 ≤ bt t 0 ∧ bt t 0 ≤ 50) → i = (bt t 0 : Int) - 48) ∧ (¬ (48 ≤ bt t 0 ∧ bt t 0 ≤ 50) → i < 0))) ∧ w = w' := by
  by_cases h1 : t.size = 1
  · obtain ⟨c, rfl, hb⟩ := one_of_size h1
    refine (Tryz.strings_Index_one ⟨#[48, 49, 50]⟩ c w).mono ?_
    rintro e w' ⟨rfl, rfl⟩
    refine ⟨⟨_, rfl, fun _ => ?_⟩, rfl⟩
    rw [hb]
    exact index_012 c
  · obtain ⟨m, hm⟩ := hm
    refine (Tryz.strings_Index ⟨#[48, 49, 50]⟩ t m w (by decide) hm).mono ?_
    rintro e w' ⟨rfl, rfl⟩
    exact ⟨⟨_, rfl, fun h => absurd h h1⟩, rfl⟩

theorem rest_data {s : ByteArray} {c : UInt8} {r : List UInt8} (h : s.data.toList = c :: r) : (⟨r.toArray⟩ : ByteArray) = s.extract 1 s.size ∧ 0 < s.size ∧ bt s 0 = c.toNat := by
  have hp : 0 < s.size := by
    have : s.size = s.data.toList.length := by simp
    rw [this, h]; simp
  refine ⟨?_, hp, ?_⟩
  · apply ByteArray.ext
    apply Array.toList_inj.1
    rw [Lib.extract_to_end, h]; rfl
  · obtain ⟨b, hb, hb2⟩ := byte_at hp
    rw [h] at hb
    rw [← hb2, ← Option.some.inj hb]

set_option maxRecDepth 100000 in
set_option maxHeartbeats 2000000 in
theorem wit_prop (t : ByteArray) (w : World) (hs : t.size ≤ 9223372036854775000) :
    Calls Tryz.prog 27 #[.string t] w fun e w' => (∃ n : Nat, e = .returned (.tuple #[.int .i64 n, .bool (propR t).isSome]) ∧ (∀ m, propR t = some m → n = m)) ∧ Kp (fun _ => False) w w' := by
  have HC := Lib.hid (fun u => Tryz.strings_CutPrefix t ⟨#[98]⟩ u)
  rw [show (⟨#[98]⟩ : ByteArray).data.toList = [98] from rfl] at HC
  have HN := Lib.hid (fun (d : ByteArray) (u : World) (h : d.size ≤ 9223372036854775000) => octet_Nat_in d 0 u h (Nat.zero_le _))
  by_cases hb : ∃ r, t.data.toList = 98 :: r
  · obtain ⟨r, hr⟩ := hb
    obtain ⟨hd, hp, hb0⟩ := rest_data hr
    rw [trim_one hr, (has_one t 98).2 ⟨r, hr⟩, hd] at HC
    have HP := Lib.hid (show propR t = if (natN (t.extract 1 t.size) 0).2.2 = 0 ∧ (natN (t.extract 1 t.size) 0).2.1 = (t.extract 1 t.size).size then some (natN (t.extract 1 t.size) 0).1 else none by
      unfold propR
      simp [hp, hb0])
    have hsz : (t.extract 1 t.size).size ≤ 9223372036854775000 := by rw [ByteArray.size_extract]; omega
    clear hd hp hb0 hr
    obtain ⟨d, hD⟩ : ∃ d, t.extract 1 t.size = d := ⟨_, rfl⟩
    rw [hD] at HC HP hsz
    clear hD
    go_enter Tryz.func27, Tryz.ntmps27
    go_wp2_with fail
    refine (HC.out _).mono ?_
    rintro e w' ⟨rfl, hw⟩
    have hw' := hw.symm; clear hw; subst hw'
    have HN1 := Lib.hid (HN.out d w hsz)
    rw [show (((0 : Nat) : Int)) = 0 from rfl] at HN1
    go_wp2_with fail
    refine HN1.out.mono ?_
    rintro e w1 ⟨rfl, hK⟩
    have HK := Lib.hid hK
    clear hK HN1
    obtain ⟨n, en, er, hT⟩ : ∃ n en er, natN d 0 = (n, en, er) := ⟨_, _, _, rfl⟩
    rw [hT] at HP ⊢
    simp only at HP
    clear hT
    by_cases c0 : er = 0
    · have g0 : ((er : Int) == 0) = true := by simp [c0]
      by_cases c1 : en = d.size
      · have g1 : ((en : Int) == (d.size : Int)) = true := by simp [c1]
        have HP2 := Lib.hid (HP.out.trans (if_pos ⟨c0, c1⟩))
        clear c0 c1 HP
        unfold tripI
        go_wp2_with fail
        go_ret2
        rw [HP2.out]
        exact ⟨⟨n, rfl, fun m h => Option.some.inj h⟩, HK.out⟩
      · have g1 : ((en : Int) == (d.size : Int)) = false := by simp; omega
        have HP2 := Lib.hid (HP.out.trans (if_neg (fun h => c1 h.2)))
        clear c0 c1 HP
        unfold tripI
        go_wp2_with fail
        go_ret2
        rw [HP2.out]
        exact ⟨⟨n, rfl, fun m h => by cases h⟩, HK.out⟩
    · have g0 : ((er : Int) == 0) = false := by simp [c0]
      have HP2 := Lib.hid (HP.out.trans (if_neg (fun h => c0 h.1)))
      clear c0 HP
      unfold tripI
      go_wp2_with fail
      go_ret2
      rw [HP2.out]
      exact ⟨⟨n, rfl, fun m h => by cases h⟩, HK.out⟩
  · rw [has_not hb] at HC
    have HP2 : Hid (propR t = none) := by
      show _ = _
      unfold propR
      refine if_neg ?_
      rintro ⟨h1, h2, _⟩
      refine hb ?_
      obtain ⟨b, hb1, hb2⟩ := byte_at h1
      cases hl : t.data.toList with
      | nil => rw [hl] at hb1; cases hb1
      | cons x r =>
        rw [hl] at hb1
        have hx : x = b := Option.some.inj hb1
        exact ⟨r, by rw [hx, UInt8.toNat_inj.1 (show b.toNat = (98 : UInt8).toNat from hb2.trans h2)]⟩
    have hdz : (⟨(Lib.trimPrefix t.data.toList [98]).toArray⟩ : ByteArray).size ≤ 9223372036854775000 := by
      have h1 : (Lib.trimPrefix t.data.toList [98]).length ≤ t.data.toList.length := by
        unfold Lib.trimPrefix
        split <;> simp
      have h2 : t.data.toList.length = t.size := by simp
      simp only [ByteArray.size, List.size_toArray]
      omega
    clear hb
    obtain ⟨d, hD⟩ : ∃ d, (⟨(Lib.trimPrefix t.data.toList [98]).toArray⟩ : ByteArray) = d := ⟨_, rfl⟩
    rw [hD] at HC hdz
    clear hD
    go_enter Tryz.func27, Tryz.ntmps27
    go_wp2_with fail
    refine (HC.out _).mono ?_
    rintro e w' ⟨rfl, hw⟩
    have hw' := hw.symm; clear hw; subst hw'
    have HN1 := Lib.hid (HN.out d w hdz)
    rw [show (((0 : Nat) : Int)) = 0 from rfl] at HN1
    go_wp2_with fail
    refine HN1.out.mono ?_
    rintro e w1 ⟨rfl, hK⟩
    have HK := Lib.hid hK
    clear hK HN1
    unfold tripI
    go_wp2_with fail
    go_ret2
    rw [HP2.out]
    exact ⟨⟨_, rfl, fun m h => by cases h⟩, HK.out⟩

set_option maxRecDepth 100000 in
set_option maxHeartbeats 2000000 in
theorem wit_row (t : ByteArray) (many : Int) (w : World) (hs : t.size ≤ 100000) :
    Calls Tryz.prog 28 #[.string t, .int .i64 many] w fun e w' => (∃ v, e = .returned (.tuple #[v, .bool (rowR t many).isSome]) ∧ Own w' w.heap.size 4 v ((bitsR t).map Value.bool)) ∧ Kp (fun _ => False) w w' := by
  have HB := Lib.hid (octet_Bits t w hs)
  have hlen := Lib.hid (show (bitsR t).length ≤ t.size by
    unfold bitsR
    split
    · rw [bitsL_length]; omega
    · simp)
  go_enter Tryz.func28, Tryz.ntmps28
  go_wp2_with fail
  refine HB.out.mono ?_
  rintro e w1 ⟨v, rfl, hO, hK⟩
  obtain ⟨a, cap, rfl, h1, h2, _, _⟩ := hO.form
  have HO := Lib.hid hO
  have HK := Lib.hid hK
  have HH := Lib.hid h1
  clear hO hK h1 h2
  by_cases c0 : bitsC t = 0
  · have hb : (((bitsC t : Nat) : Int) == 0) = true := by simp [c0]
    by_cases c1 : ((bitsR t).length : Int) = many
    · have HR : Hid ((rowR t many).isSome = true) := by show _ = _; unfold rowR; rw [if_pos ⟨c0, c1⟩]; rfl
      have hb2 : ((((bitsR t).length : Nat) : Int) == many) = true := by simp [c1]
      clear c0 c1
      simp only [List.length_map]
      go_wp2_with fail
      go_ret2
      rw [HR.out]
      exact ⟨⟨_, rfl, by simpa using HO.out⟩, HK.out⟩
    · have HR : Hid ((rowR t many).isSome = false) := by show _ = _; unfold rowR; rw [if_neg (fun h => c1 h.2)]; rfl
      have hb2 : ((((bitsR t).length : Nat) : Int) == many) = false := by simp [c1]
      clear c0 c1
      simp only [List.length_map]
      go_wp2_with fail
      go_ret2
      rw [HR.out]
      exact ⟨⟨_, rfl, by simpa using HO.out⟩, HK.out⟩
  · have hb : (((bitsC t : Nat) : Int) == 0) = false := by simp [c0]
    have HR : Hid ((rowR t many).isSome = false) := by show _ = _; unfold rowR; rw [if_neg (fun h => c0 h.1)]; rfl
    clear c0
    go_wp2_with fail
    go_ret2
    rw [HR.out]
    exact ⟨⟨_, rfl, by simpa using HO.out⟩, HK.out⟩

end Go.Proofs.YtcnegeggecmncaaGreatDoor

/-
  The lines of a witness, one behind the other: what has come of them so far, or how it ends. No program in sight.
-/
namespace Go.Proofs.YtcnegeggecmncaaGreatDoor
open Go.RowKit

/-- one line more: how it ends, or what has come so far -/
def oneX {B : Nat} (la inp : Int) (k : Nat) (d : WitD) (x : LX B) : WitD ⊕ WitO :=
  if x.e ≠ 0 then .inr (.bad x.at_ x.e)
  else if lastR x.text k d then if x.next < B then .inr (.bad x.next 2) else .inr (.ok d)
  else match stepR x.text k la inp d with
    | none => .inr (.bad x.at_ 2)
    | some d' => .inl d'

def runX {B : Nat} (la inp : Int) : Nat → WitD → List (LX B) → WitD ⊕ WitO
  | _, d, [] => .inl d
  | k, d, x :: l => match oneX la inp k d x with
    | .inl d' => runX la inp (k + 1) d' l
    | .inr o => .inr o

theorem runX_snoc {B : Nat} {la inp : Int} (x : LX B) : ∀ (l : List (LX B)) (k : Nat) (d d' : WitD), runX la inp k d l = .inl d' → runX la inp k d (l ++ [x]) = oneX la inp (k + l.length) d' x
  | [], k, d, d', h => by
    simp only [runX] at h
    cases h
    simp only [List.nil_append, runX, List.length_nil, Nat.add_zero]
    cases oneX la inp k d x <;> rfl
  | y :: l, k, d, d', h => by
    simp only [runX] at h
    simp only [List.cons_append, runX, List.length_cons]
    cases hy : oneX la inp k d y with
    | inl d1 =>
      rw [hy] at h
      simp only at h ⊢
      rw [runX_snoc x l (k + 1) d1 d' h, show k + (l.length + 1) = k + 1 + l.length by omega]
    | inr o => rw [hy] at h; cases h

theorem runX_prefix {B : Nat} {la inp : Int} {o : WitO} : ∀ (l r : List (LX B)) (k : Nat) (d : WitD), runX la inp k d l = .inr o → runX la inp k d (l ++ r) = .inr o
  | [], _, _, _, h => by cases h
  | y :: l, r, k, d, h => by
    simp only [runX] at h
    simp only [List.cons_append, runX]
    cases hy : oneX la inp k d y with
    | inl d1 =>
      rw [hy] at h
      exact runX_prefix l r (k + 1) d1 h
    | inr o' => rw [hy] at h; exact h

/-- all of a text's lines: what is read of it -/
theorem runX_lines (s : ByteArray) (la inp : Int) : ∀ (f p k : Nat) (d : WitD) (hp : p ≤ s.size), s.size - p + 1 ≤ f → runX la inp k d (linesF s f p hp) = .inr (witR s la inp f p k d)
  | 0, p, k, d, hp, h => by omega
  | f + 1, p, k, d, hp, h => by
    have hx : linesF s (f + 1) p hp = lx s p hp :: if (lineT s (p : Nat)).2.2 = 0 then linesF s f (lineT s (p : Nat)).2.1 (lineT_next hp) else [] := rfl
    rw [hx]
    simp only [runX]
    have ho : oneX la inp k d (lx s p hp) = if (lineT s (p : Nat)).2.2 ≠ 0 then .inr (.bad p (lineT s (p : Nat)).2.2)
      else if lastR (lineT s (p : Nat)).1 k d then if (lineT s (p : Nat)).2.1 < s.size then .inr (.bad (lineT s (p : Nat)).2.1 2) else .inr (.ok d)
      else match stepR (lineT s (p : Nat)).1 k la inp d with
        | none => .inr (.bad p 2)
        | some d' => .inl d' := rfl
    rw [ho]
    simp only [witR]
    by_cases h0 : (lineT s (p : Nat)).2.2 = 0
    · have hE := lineT_end hp h0
      have hn : ¬ ((lineT s (p : Nat)).2.2 ≠ 0) := fun h => h h0
      rw [if_neg hn, if_neg hn, if_pos h0]
      by_cases hl : lastR (lineT s (p : Nat)).1 k d = true
      · rw [if_pos hl, if_pos hl]
        by_cases hz : (lineT s (p : Nat)).2.1 < s.size
        · rw [if_pos hz, if_pos hz]
        · rw [if_neg hz, if_neg hz]
      · rw [if_neg hl, if_neg hl]
        cases hs : stepR (lineT s (p : Nat)).1 k la inp d with
        | none => rfl
        | some d' =>
          simp only
          exact runX_lines s la inp f _ (k + 1) d' (lineT_next hp) (by omega)
    · rw [if_pos h0, if_pos h0]

end Go.Proofs.YtcnegeggecmncaaGreatDoor

/-
  The reference's Text and Same.
-/
namespace Go.Proofs.YtcnegeggecmncaaGreatDoor
open Go.RowKit

theorem bools_ext {l l' : List Bool} (hl : l.length = l'.length) (h : ∀ j, j < l.length → tb l j = tb l' j) : l = l' := by
  apply List.ext_getElem?
  intro j
  by_cases hj : j < l.length
  · have := h j hj
    unfold tb at this
    rw [List.getElem?_eq_getElem hj, List.getElem?_eq_getElem (by omega)] at this ⊢
    simpa using this
  · rw [List.getElem?_eq_none (by omega), List.getElem?_eq_none (by omega)]

theorem push_byte (l : List UInt8) (c : UInt8) : (⟨l.toArray⟩ : ByteArray) ++ ⟨#[c]⟩ = ⟨(l ++ [c]).toArray⟩ := by
  apply ByteArray.ext; simp

set_option maxHeartbeats 400000 in
theorem ref_Same (a a' : Option Addr) (n n' cap cap' : Nat) (l l' : List Bool) (w : World) (ha : RowAt w a (l.map Value.bool)) (ha' : RowAt w a' (l'.map Value.bool)) (hl : l.length = n) (hl' : l'.length = n') (hn : n ≤ 9223372036854775807) :
    Calls Tryz.prog 29 #[.slice a n cap, .slice a' n' cap'] w fun e w' => e = .returned (.bool (l == l')) ∧ ∃ n, w' = w.drewN n := by
  have HL := Lib.hid hl; clear hl
  have HL' := Lib.hid hl'; clear hl'
  by_cases hne : n = n'
  · subst hne
    have b1 : ((n : Int) != (n : Int)) = false := by simp
    go_enter Tryz.func29, Tryz.ntmps29
    go_wp2
    go_loopw [5] (fun i wr => ∃ k m : Nat, k ≤ n ∧ i = .int .i64 k ∧ (∀ j, j < k → tb l j = tb l' j) ∧ wr = w.drewN m) (fun i _ => n - (intOf i).toNat)
    case atStart => exact ⟨0, 0, Nat.zero_le _, rfl, fun j hj => by omega, rfl⟩
    case round =>
      obtain ⟨k, m, hk, rfl, he, rfl⟩ := hrel
      have HE := Lib.hid he
      clear he
      by_cases hlt : k < n
      · obtain ⟨b, off, rfl, hc⟩ := ha k _ (tb_at (by rw [HL.out]; exact hlt))
        obtain ⟨b', off', rfl, hc'⟩ := ha' k _ (tb_at (by rw [HL'.out]; exact hlt))
        have i1 : (0 : Int) ≤ (k : Int) := by omega
        have i2 : (k : Int) < (n : Int) := by omega
        by_cases hq : tb l k = tb l' k
        · have q1 : (!(tb l k == tb l' k)) = false := by simp [hq]
          have HQ := Lib.hid hq
          clear hq
          go_wp2
          go_quiet (fail)
          go_wp2
          go_roundw
          case rel =>
            refine ⟨k + 1, _, by omega, by go_num, fun j hj => ?_, rfl⟩
            by_cases e : j = k
            · subst e; exact HQ.out
            · exact HE.out j (by omega)
          case measure => simp [intOf]; omega
        · have q1 : (!(tb l k == tb l' k)) = true := by simp [hq]
          have HQ := Lib.hid hq
          clear hq
          go_wp2
          go_quiet (fail)
          go_wp2
          go_ret
          have e : (l == l') = false := by
            rw [beq_eq_false_iff_ne]
            intro e
            exact HQ.out (by rw [e])
          rw [e]
          exact ⟨rfl, _, World.drewN_drewN ..⟩
      · go_wp2
        go_ret
        have e : (l == l') = true := by
          rw [beq_iff_eq]
          exact bools_ext (by rw [HL.out, HL'.out]) (fun j hj => HE.out j (by rw [HL.out] at hj; omega))
        rw [e]
        exact ⟨rfl, _, rfl⟩
  · have b1 : ((n : Int) != (n' : Int)) = true := by simp; omega
    have e : Hid ((l == l') = false) := by
      show _ = _
      rw [beq_eq_false_iff_ne]
      intro e
      exact hne (by rw [← HL.out, ← HL'.out, e])
    clear hne
    go_enter Tryz.func29, Tryz.ntmps29
    go_wp2
    go_ret
    rw [e.out]
    exact ⟨rfl, 0, rfl⟩

end Go.Proofs.YtcnegeggecmncaaGreatDoor

/-
  A witness's text, and runs that came in. wit.Write.
-/
namespace Go.Proofs.YtcnegeggecmncaaGreatDoor
open Go.RowKit

/-- a slice of truths that reads l -/
def BoolsSl (w : World) (v : Value) (l : List Bool) : Prop := ∃ a cap, v = .slice a l.length cap ∧ l.length ≤ cap ∧ cap ≤ maxLen ∧ (a = none → cap = 0) ∧ RowAt w a (l.map Value.bool)

theorem BoolsSl.kp {w w' : World} {v : Value} {l : List Bool} (h : BoolsSl w v l) (k : Kp (fun _ => False) w w') : BoolsSl w' v l := by
  obtain ⟨a, cap, e, h1, h2, h3, h4⟩ := h
  exact ⟨a, cap, e, h1, h2, h3, h4.kp k (fun _ _ h => h)⟩

/-- rows of truths at a place -/
def GridAt (w : World) (a : Option Addr) (L : List (List Bool)) : Prop := ∃ rs : List Value, RowAt w a rs ∧ rs.length = L.length ∧ ∀ (k : Nat) (r : Value) (x : List Bool), rs[k]? = some r → L[k]? = some x → BoolsSl w r x
def GridSl (w : World) (v : Value) (L : List (List Bool)) : Prop := ∃ a cap, v = .slice a L.length cap ∧ L.length ≤ cap ∧ cap ≤ maxLen ∧ (a = none → cap = 0) ∧ GridAt w a L

theorem GridAt.kp {w w' : World} {a : Option Addr} {L : List (List Bool)} (h : GridAt w a L) (k : Kp (fun _ => False) w w') : GridAt w' a L := by
  obtain ⟨rs, h1, h2, h3⟩ := h
  exact ⟨rs, h1.kp k (fun _ _ h => h), h2, fun i r x hr hx => (h3 i r x hr hx).kp k⟩
theorem GridSl.kp {w w' : World} {v : Value} {L : List (List Bool)} (h : GridSl w v L) (k : Kp (fun _ => False) w w') : GridSl w' v L := by
  obtain ⟨a, cap, e, h1, h2, h3, h4⟩ := h
  exact ⟨a, cap, e, h1, h2, h3, h4.kp k⟩

def gb (L : List (List Bool)) (k : Nat) : List Bool := L[k]?.getD []
theorem gb_at {L : List (List Bool)} {k : Nat} (h : k < L.length) : L[k]? = some (gb L k) := by unfold gb; rw [List.getElem?_eq_getElem h]; rfl

theorem GridAt.row {w : World} {a : Option Addr} {L : List (List Bool)} (h : GridAt w a L) {k : Nat} (hk : k < L.length) : ∃ b off v, a = some ⟨b, off, none⟩ ∧ w.cell? ⟨b, off + k, none⟩ = some v ∧ BoolsSl w v (gb L k) := by
  obtain ⟨rs, h1, h2, h3⟩ := h
  have hk' : k < rs.length := by rw [h2]; exact hk
  have hr : rs[k]? = some rs[k] := List.getElem?_eq_getElem hk'
  obtain ⟨b, off, rfl, c⟩ := h1 k _ hr
  exact ⟨b, off, _, rfl, c, h3 k _ _ hr (gb_at hk)⟩

/-- the lines of a witness -/
def witLines (kind prop : Int) (start : List Bool) (ins : List (List Bool)) : List (List UInt8) :=
  [Lib.itoa kind, 98 :: Lib.itoa prop] ++ (if kind = 1 then signs start :: ins.map signs else []) ++ [[46]]

def witText (kind prop : Int) (start : List Bool) (ins : List (List Bool)) : List UInt8 :=
  if kind < 0 ∨ 2 < kind ∨ prop < 0 then [] else (witLines kind prop start ins).flatMap (fun l => l ++ [10])

theorem join_feed : ∀ {xs : List (List UInt8)}, xs ≠ [] → Lib.join xs [10] ++ [10] = xs.flatMap (fun l => l ++ [10])
  | [], h => absurd rfl h
  | x :: r, _ => by
    rw [Lib.join_cons, List.flatMap_cons]
    have : ∀ r : List (List UInt8), Lib.joinTail [10] r ++ [10] = 10 :: r.flatMap (fun l => l ++ [10]) := by
      intro r
      induction r with
      | nil => rfl
      | cons y r ih =>
        unfold Lib.joinTail at ih ⊢
        rw [List.map_cons, List.flatten_cons, List.append_assoc, ih, List.flatMap_cons]
        simp
    rw [List.append_assoc, this r]
    simp

end Go.Proofs.YtcnegeggecmncaaGreatDoor
