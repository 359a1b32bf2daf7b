/-
  The head of a circuit's file in plain words: which head a text begins with, or what is wrong and where; and a head's line. No program in sight.
-/
import Derived.Test.YtpihfgpgdjjfhaaDoorM1
import Derived.Lib.Join
import Derived.Test.YtpihfgpgdjjfhaaDoorRows
import Derived.Deep.QuietTactic
import Derived.BigQuiet
import Derived.Laws.StructEq
import Derived.Deep.CutBlock
import Derived.Deep.DeepCutAuto
import Derived.RangeFuncCalls
import Derived.Deep.RegionHeld3
import Derived.Maps.AppendAt
import Derived.Deep.AppendLies
import Derived.Shelf.Strings.Builder1
import Derived.Shelf.Strings.Builder2
import Derived.Shelf.Strings.OnBuilder
import Derived.Shelf.Small.Strs
import Derived.Shelf.Strings.BuilderF
import Derived.Shelf.Strconv.Atoi
import Derived.Shelf.Strconv.Itoa0
import Derived.Shelf.Strconv.Itoa1
import Derived.Shelf.LaysM
import Derived.Shelf.Strconv.Itoa2
import Derived.Shelf.Strconv.Itoa3
import Derived.Shelf.Strconv.AtoiErrFast
import Derived.Shelf.Strconv.ParseIntEmpty
import Derived.Shelf.Strconv.AtoiFail
import Derived.Shelf.Strconv.Clone
import Derived.Shelf.Strconv.SyntaxError
import Derived.Shelf.LaysC
import Derived.Shelf.Strconv.ToError
import Derived.Shelf.Strconv.Lower
import Derived.Shelf.Strconv.ParseUint10
import Derived.Shelf.Strconv.ParseUint10Empty
import Derived.Shelf.Strconv.ParseUint10Any
import Derived.Shelf.Strconv.ParseInt10
import Derived.Shelf.Strconv.AtoiLong
import Derived.Shelf.Strconv.AtoiInnerAll
import Derived.Shelf.Strconv.RangeError
import Derived.Shelf.Strconv.ToErrorRange
import Derived.Shelf.Strconv.AtoiAll
import Derived.Shelf.Strconv.ErrVarAll
import Derived.Shelf.Strings.Search1
import Derived.Shelf.Strings.Search2
import Derived.Shelf.Strings.Search3
import Derived.Shelf.Strings.Count
import Derived.Shelf.Strings.Shaped
import Derived.Shelf.Strings.Prefix
import Derived.Shelf.Strings.Split
import Derived.Shelf.Bits.Mul64
import Derived.Shelf.Strings.Repeat
import Derived.Shelf.Unicode.DecodeSlow
import Derived.Test.YtpihfgpgdjjfhaaDoorProg
import Derived.Laws.BitsAllLaws
import Derived.Lib.ConvBytes
import Derived.Lib.AtoiAll
import Derived.Maps.Views
import Derived.Maps.OwnSet
import Derived.Maps.StringElems
import Derived.DeepKeys4
namespace Go.Proofs.YtpihfgpgdjjfhaaDoor
open Go.RowKit

/-- the next number and the sign behind it: the number, the place behind both, the error, whether the line ends -/
def stepH (s : ByteArray) (k p : Nat) : Nat × Nat × Nat × Bool :=
  if (natN s p).2.2 ≠ 0 then (0, p, (natN s p).2.2, false)
  else if (if 7 ≤ k then 0 else 16777216) < (natN s p).1 then (0, p, 5, false)
  else if (natN s p).2.1 = s.size then (0, (natN s p).2.1, 3, false)
  else if bt s (natN s p).2.1 = 10 ∧ 4 ≤ k then ((natN s p).1, (natN s p).2.1 + 1, 0, true)
  else if bt s (natN s p).2.1 = 32 ∧ k < 8 then ((natN s p).1, (natN s p).2.1 + 1, 0, false)
  else (0, (natN s p).2.1, 2, false)

/-- the numbers of the line -/
def headL (s : ByteArray) : Nat → Nat → List Nat → List Nat × Nat × Nat
  | 0, p, l => (l, p, 0)
  | f + 1, p, l =>
    if (stepH s l.length p).2.2.1 ≠ 0 then ([], (stepH s l.length p).2.1, (stepH s l.length p).2.2.1)
    else if (stepH s l.length p).2.2.2 = true then (l ++ [(stepH s l.length p).1], (stepH s l.length p).2.1, 0)
    else headL s f (stepH s l.length p).2.1 (l ++ [(stepH s l.length p).1])

def nth (l : List Nat) (k : Nat) : Nat := l[k]?.getD 0

theorem nth_ge {l : List Nat} {k : Nat} (h : l.length ≤ k) : nth l k = 0 := by unfold nth; rw [List.getElem?_eq_none h]; rfl
theorem nth_snoc_lt {l : List Nat} {k x : Nat} (h : k < l.length) : nth (l ++ [x]) k = nth l k := by unfold nth; rw [List.getElem?_append_left h]
theorem nth_snoc {l : List Nat} {x : Nat} : nth (l ++ [x]) l.length = x := by unfold nth; simp

/-- whether a text begins as a head does -/
def isHead (s : ByteArray) : Prop := 4 ≤ s.size ∧ bt s 0 = 97 ∧ (bt s 1 = 97 ∨ bt s 1 = 105) ∧ bt s 2 = 103 ∧ bt s 3 = 32

instance (s : ByteArray) : Decidable (isHead s) := by unfold isHead; infer_instance

/-- whether the gates, latches and inputs are more than the head's variables, or, in the short form, fewer -/
def badSum (bin : Bool) (l : List Nat) : Prop := nth l 0 < nth l 1 + nth l 2 + nth l 4 ∨ bin = true ∧ nth l 1 + nth l 2 + nth l 4 < nth l 0

instance (b : Bool) (l : List Nat) : Decidable (badSum b l) := by unfold badSum; infer_instance

/-- the head with which a text begins, the place and the error -/
def headT (s : ByteArray) : Bool × List Nat × Nat × Nat :=
  if ¬ isHead s then (false, [], 0, 2)
  else if (headL s 9 4 []).2.2 ≠ 0 then (false, [], (headL s 9 4 []).2.1, (headL s 9 4 []).2.2)
  else if badSum (decide (bt s 1 = 105)) (headL s 9 4 []).1 then (false, [], 4, 5)
  else (decide (bt s 1 = 105), (headL s 9 4 []).1, (headL s 9 4 []).2.1, 0)

theorem stepH_ok {s : ByteArray} {k p : Nat} (hp : p ≤ s.size) (h : (stepH s k p).2.2.1 = 0) :
    p < (stepH s k p).2.1 ∧ (stepH s k p).2.1 ≤ s.size ∧ (stepH s k p).1 ≤ 16777216 ∧ (7 ≤ k → (stepH s k p).1 = 0) := by
  have hE := natN_end (s := s) (p := p) hp
  unfold stepH at h ⊢
  by_cases c1 : (natN s p).2.2 ≠ 0
  · rw [if_pos c1] at h; exact absurd h c1
  have hE := hE (by omega)
  rw [if_neg c1] at h ⊢
  by_cases c2 : (if 7 ≤ k then 0 else 16777216) < (natN s p).1
  · rw [if_pos c2] at h; simp at h
  rw [if_neg c2] at h ⊢
  have c2' : (natN s p).1 ≤ 16777216 ∧ (7 ≤ k → (natN s p).1 = 0) := by
    split at c2 <;> exact ⟨by omega, fun _ => by omega⟩
  by_cases c3 : (natN s p).2.1 = s.size
  · rw [if_pos c3] at h; simp at h
  rw [if_neg c3] at h ⊢
  by_cases c4 : bt s (natN s p).2.1 = 10 ∧ 4 ≤ k
  · rw [if_pos c4]
    refine ⟨?_, ?_, c2'⟩ <;> simp only <;> omega
  rw [if_neg c4] at h ⊢
  by_cases c5 : bt s (natN s p).2.1 = 32 ∧ k < 8
  · rw [if_pos c5]
    refine ⟨?_, ?_, c2'⟩ <;> simp only <;> omega
  rw [if_neg c5] at h; simp at h

/-- the byte at a place of a text's rest -/
theorem bt_drop {s : ByteArray} {p : Nat} {l : List UInt8} (h : s.data.toList.drop p = l) {j : Nat} {b : UInt8} (hj : l[j]? = some b) : bt s (p + j) = b.toNat ∧ p + j < s.size := by
  rw [← h, List.getElem?_drop] at hj
  obtain ⟨h1, h2⟩ := List.getElem?_eq_some_iff.1 hj
  rw [← Lib.size_eq] at h1
  obtain ⟨c, hc, hc2⟩ := byte_at (s := s) (i := p + j) h1
  rw [hj] at hc
  exact ⟨by rw [← hc2, Option.some.inj hc], h1⟩

theorem natN_q {s : ByteArray} {p : Nat} (h : (natN s p).2.2 = 0) : (natN s p).2.1 = endOf s p ∧ endOf s p ≠ p := by
  unfold natN at h ⊢
  by_cases c1 : p = s.size
  · rw [if_pos c1] at h; simp at h
  rw [if_neg c1] at h ⊢
  by_cases c2 : endOf s p = p ∨ bt s p = 48 ∧ p + 1 < endOf s p
  · rw [if_pos c2] at h; simp at h
  rw [if_neg c2] at h ⊢
  by_cases c3 : 9 < endOf s p - p
  · rw [if_pos c3] at h; simp at h
  rw [if_neg c3]
  exact ⟨rfl, fun e => c2 (.inl e)⟩

/-- where a number's numeral stands, and no digit behind it, that number is read, if any is -/
theorem natN_word {s : ByteArray} {p : Nat} {n : Int} {c : UInt8} {rest : List UInt8} (hd : s.data.toList.drop p = Lib.itoa n ++ c :: rest) (hc : ¬ (48 ≤ c.toNat ∧ c.toNat ≤ 57))
    (h : (natN s p).2.2 = 0) : ∃ u : Nat, n = u ∧ natN s p = (u, p + (Lib.itoa n).length, 0) := by
  obtain ⟨hq, hqp⟩ := natN_q h
  by_cases hn : n < 0
  · exfalso
    obtain ⟨r, hr⟩ : ∃ r, Lib.itoa n = 45 :: r := by unfold Lib.itoa; rw [if_pos hn]; exact ⟨_, rfl⟩
    rw [hr] at hd
    have h0 := bt_drop hd (j := 0) (b := 45) rfl
    rw [Nat.add_zero] at h0
    refine hqp (endOf_is (Nat.le_refl _) (by omega) (fun k h1 h2 => by omega) (.inr ?_))
    unfold isDig
    rw [h0.1]
    decide
  · obtain ⟨u, rfl⟩ : ∃ u : Nat, n = u := ⟨n.toNat, by omega⟩
    rw [itoa_nat] at hd ⊢
    have hB : ∀ j, j < (Lib.decDigits u).length → isDig s (p + j) ∧ p + j < s.size := by
      intro j hj
      have hm := dd_digit u _ (List.getElem_mem hj)
      have := bt_drop hd (j := j) (b := (Lib.decDigits u)[j]) (by rw [List.getElem?_append_left hj]; exact List.getElem?_eq_getElem hj)
      unfold isDig
      rw [this.1]
      exact ⟨hm, this.2⟩
    have hC := bt_drop hd (j := (Lib.decDigits u).length) (b := c) (by simp)
    have hE : endOf s p = p + (Lib.decDigits u).length := endOf_is (by omega) (by omega)
      (fun k h1 h2 => by have := (hB (k - p) (by omega)).1; rwa [show p + (k - p) = k by omega] at this) (.inr (by unfold isDig; rw [hC.1]; exact hc))
    obtain ⟨v, q, hv⟩ : ∃ v q, natN s p = (v, q, 0) := ⟨_, _, by rw [← h]⟩
    have hD := dec_natN (by omega) hv
    rw [hv] at hq
    simp only at hq
    subst hq
    rw [hE, show p + (Lib.decDigits u).length - p = (Lib.decDigits u).length by omega, hd, List.take_left] at hD
    have := dd_inj hD.2.2.2
    subst this
    exact ⟨u, rfl, by rw [hv, hE]⟩

/-- the numbers of a written line are read as they were, if they are read -/
theorem headL_text {s : ByteArray} : ∀ (ns : List Int) (f p : Nat) (l : List Nat), ns ≠ [] → s.data.toList.drop p = Lib.join (ns.map Lib.itoa) [32] ++ [10] → l.length + f = 9 → ns.length ≤ f →
    (headL s f p l).2.2 = 0 → ∃ m : List Nat, ns = m.map (fun u : Nat => (u : Int)) ∧ (headL s f p l).1 = l ++ m
  | [], _, _, _, h, _, _, _, _ => absurd rfl h
  | n :: r, 0, _, _, _, _, _, h, _ => by simp at h
  | n :: r, f + 1, p, l, _, hd, hl, hf, h => by
    obtain ⟨c, rest, hc, hd2⟩ : ∃ c rest, ((c = 10 ∧ r = []) ∨ (c = 32 ∧ r ≠ [] ∧ rest = Lib.join (r.map Lib.itoa) [32] ++ [10])) ∧ s.data.toList.drop p = Lib.itoa n ++ c :: rest := by
      cases r with
      | nil => exact ⟨10, [], .inl ⟨rfl, rfl⟩, by rw [hd, List.map_cons, List.map_nil, Lib.join_one]⟩
      | cons x y =>
        refine ⟨32, _, .inr ⟨rfl, by simp, rfl⟩, ?_⟩
        rw [hd, List.map_cons, Lib.join_cons, List.map_cons, Lib.join_cons]
        simp [Lib.joinTail]
    have hcd : ¬ (48 ≤ c.toNat ∧ c.toNat ≤ 57) := by
      rcases hc with ⟨rfl, _⟩ | ⟨rfl, _⟩ <;> decide
    unfold headL at h ⊢
    by_cases e1 : (stepH s l.length p).2.2.1 ≠ 0
    · rw [if_pos e1] at h; exact absurd h e1
    rw [if_neg e1] at h ⊢
    have hN : (natN s p).2.2 = 0 := by
      unfold stepH at e1
      by_cases c1 : (natN s p).2.2 ≠ 0
      · rw [if_pos c1] at e1; exact absurd c1 e1
      · omega
    obtain ⟨u, rfl, hv⟩ := natN_word hd2 hcd hN
    have hC := bt_drop hd2 (j := (Lib.itoa (u : Int)).length) (b := c) (by simp)
    unfold stepH at e1 h ⊢
    rw [hv] at e1 h ⊢
    simp only [ne_eq, not_true_eq_false, if_false] at e1 h ⊢
    by_cases c2 : (if 7 ≤ l.length then 0 else 16777216) < u
    · rw [if_pos c2] at e1; simp at e1
    rw [if_neg c2] at e1 h ⊢
    rw [if_neg (show ¬ p + (Lib.itoa (u : Int)).length = s.size by omega), hC.1] at e1 h ⊢
    rcases hc with ⟨rfl, rfl⟩ | ⟨rfl, hr, hrest⟩
    · rw [if_neg (show ¬ ((10 : UInt8).toNat = 32 ∧ l.length < 8) from fun h => absurd h.1 (by decide))] at e1 h ⊢
      by_cases c4 : (10 : UInt8).toNat = 10 ∧ 4 ≤ l.length
      · rw [if_pos c4] at e1 h ⊢
        exact ⟨[u], rfl, rfl⟩
      · rw [if_neg c4] at e1; simp at e1
    · rw [if_neg (show ¬ ((32 : UInt8).toNat = 10 ∧ 4 ≤ l.length) from fun h => absurd h.1 (by decide))] at e1 h ⊢
      by_cases c5 : (32 : UInt8).toNat = 32 ∧ l.length < 8
      · rw [if_pos c5] at e1 h ⊢
        simp only [if_false, Bool.false_eq_true] at h ⊢
        obtain ⟨m, hm, hm2⟩ := headL_text r f (p + (Lib.itoa (u : Int)).length + 1) (l ++ [u]) hr
          (by rw [← List.drop_drop, ← List.drop_drop, hd2, List.drop_left, List.drop_one, List.tail_cons, hrest]) (by simp; omega) (by simp at hf; omega) h
        exact ⟨u :: m, by rw [hm]; rfl, by rw [hm2]; simp⟩
      · rw [if_neg c5] at e1; simp at e1

/-- the numbers of a head's line -/
def wrow (h : List Int) : List Int := if gi h 6 ≠ 0 then h.take 7 else if gi h 5 ≠ 0 then h.take 6 else h.take 5

/-- a head's line -/
def headW (b : Bool) (h : List Int) : List UInt8 := (if b = true then [97, 105, 103, 32] else [97, 97, 103, 32]) ++ (Lib.join ((wrow h).map Lib.itoa) [32] ++ [10])

theorem wrow_length {h : List Int} (hl : h.length = 7) : 5 ≤ (wrow h).length ∧ (wrow h).length ≤ 7 := by
  unfold wrow
  split
  · simp [hl]
  · split <;> simp [hl]

theorem wrow_gi {h : List Int} (hl : h.length = 7) (k : Nat) : gi (wrow h) k = gi h k := by
  have key : ∀ m, (∀ j, m ≤ j → j < 7 → gi h j = 0) → gi (h.take m) k = gi h k := by
    intro m hz
    unfold gi
    rw [List.getElem?_take]
    split
    · rfl
    · by_cases h7 : k < 7
      · have := hz k (by omega) h7
        unfold gi at this
        rw [this]; rfl
      · rw [List.getElem?_eq_none (by omega)]
  unfold wrow
  split
  · exact key 7 (fun j h1 h2 => by omega)
  · split
    · refine key 6 (fun j h1 h2 => ?_)
      obtain rfl : j = 6 := by omega
      omega
    · refine key 5 (fun j h1 h2 => ?_)
      rcases (show j = 5 ∨ j = 6 by omega) with rfl | rfl <;> omega

/-- what is read of a written head is that head -/
theorem headT_back {s : ByteArray} {b : Bool} {h : List Int} (hl : h.length = 7) (hs : s.data.toList = headW b h) (he : (headT s).2.2.2 = 0) :
    (headT s).1 = b ∧ ∀ k, ((nth (headT s).2.1 k : Nat) : Int) = gi h k := by
  have hw := wrow_length hl
  have h1 : decide (bt s 1 = 105) = b := by
    cases b with
    | true =>
      have := bt_drop (s := s) (p := 0) (l := headW true h) (by rw [List.drop_zero, hs]) (j := 1) (b := 105) rfl
      rw [Nat.zero_add] at this
      rw [this.1]; rfl
    | false =>
      have := bt_drop (s := s) (p := 0) (l := headW false h) (by rw [List.drop_zero, hs]) (j := 1) (b := 97) rfl
      rw [Nat.zero_add] at this
      rw [this.1]; rfl
  have hd : s.data.toList.drop 4 = Lib.join ((wrow h).map Lib.itoa) [32] ++ [10] := by
    rw [hs]; unfold headW
    cases b <;> rfl
  unfold headT at he ⊢
  by_cases c1 : ¬ isHead s
  · rw [if_pos c1] at he; simp at he
  rw [if_neg c1] at he ⊢
  by_cases c2 : (headL s 9 4 []).2.2 ≠ 0
  · rw [if_pos c2] at he; exact absurd he c2
  rw [if_neg c2] at he ⊢
  by_cases c3 : badSum (decide (bt s 1 = 105)) (headL s 9 4 []).1
  · rw [if_pos c3] at he; simp at he
  rw [if_neg c3]
  obtain ⟨m, hm, hm2⟩ := headL_text (wrow h) 9 4 [] (by intro e; rw [e] at hw; simp at hw) hd (by simp) (by omega) (by omega)
  refine ⟨h1, fun k => ?_⟩
  show ((nth (headL s 9 4 []).1 k : Nat) : Int) = gi h k
  rw [hm2, List.nil_append, ← wrow_gi hl k, hm]
  unfold nth gi
  rw [List.getElem?_map]
  cases m[k]? <;> rfl

end Go.Proofs.YtpihfgpgdjjfhaaDoor

/-
  latchetref02.Ints: whether two lists of ints are one.
-/
namespace Go.Proofs.YtpihfgpgdjjfhaaDoor
open Go.RowKit

theorem ints_ext {l l' : List Int} (hl : l.length = l'.length) (h : ∀ j, j < l.length → gi l j = gi l' j) : l = l' := by
  apply List.ext_getElem?
  intro j
  by_cases hj : j < l.length
  · have := h j hj
    unfold gi at this
    rw [List.getElem?_eq_getElem hj, List.getElem?_eq_getElem (by omega)] at this ⊢
    simpa using this
  · rw [List.getElem?_eq_none (by omega), List.getElem?_eq_none (by omega)]

end Go.Proofs.YtpihfgpgdjjfhaaDoor

/-
  Heads and latches that are the same are told so; the example's circuits are the same.
-/
namespace Go.Proofs.YtpihfgpgdjjfhaaDoor
open Go.RowKit

theorem Blk.cells9' {w : World} {b : Nat} {x0 x1 x2 x3 x4 x5 x6 x7 x8 : Value} {t : TypeId} (h : Blk w b #[x0, x1, x2, x3, x4, x5, x6, x7, x8] t) :
    w.cell? ⟨b, 0, none⟩ = some x0 ∧ w.cell? ⟨b, 1, none⟩ = some x1 ∧ w.cell? ⟨b, 2, none⟩ = some x2 ∧ w.cell? ⟨b, 3, none⟩ = some x3 ∧ w.cell? ⟨b, 4, none⟩ = some x4 ∧ w.cell? ⟨b, 5, none⟩ = some x5 ∧ w.cell? ⟨b, 6, none⟩ = some x6 ∧ w.cell? ⟨b, 7, none⟩ = some x7 ∧ w.cell? ⟨b, 8, none⟩ = some x8 :=
  ⟨h.cell rfl, h.cell rfl, h.cell rfl, h.cell rfl, h.cell rfl, h.cell rfl, h.cell rfl, h.cell rfl, h.cell rfl⟩

theorem drewN_twice (w : World) (a b : Nat) : (w.drewN a).drewN b = w.drewN (a + b) := by
  simp [World.drewN, Nat.add_assoc]

end Go.Proofs.YtpihfgpgdjjfhaaDoor

/-
  latchetref39.Write. (Printed by mkoptrefw.py.)
-/
namespace Go.Proofs.YtpihfgpgdjjfhaaDoor
open Go.RowKit

def optC (o : Opt) : Array Value := #[.int .i64 o.e, .int .i64 o.b, .int .i64 o.p, .int .i64 o.f, .int .i64 o.u, .int .i64 o.k, .int .u64 (o.s : Nat), .int .u64 (o.d : Nat), .int .u64 (o.m : Nat)]

theorem cat_bytes' (a : List UInt8) (b : List UInt8) : (⟨a.toArray⟩ : ByteArray) ++ ⟨b.toArray⟩ = ⟨(a ++ b).toArray⟩ := cat_bytes a b

theorem hex39 (N : Nat) (hn : N < 18446744073709551616) (u : World) : Calls Tryd.prog 25 #[.int .u64 N] u fun e w' => e = .returned (.string ⟨(hexN 16 N).toArray⟩) ∧ Kp (fun _ => False) u w' :=
  (ref39_hex N hn u).mono fun _ _ h => ⟨h.1, h.2 ▸ Kp.refl _ _⟩
theorem text05 (N : Nat) (hn : N < 18446744073709551616) (u : World) : Calls Tryd.prog 26 #[.int .u64 N] u fun e w' => e = .returned (.string ⟨(hexN 16 (canon N)).toArray⟩) ∧ Kp (fun _ => False) u w' :=
  (ref05_Text N hn u).mono fun _ _ h => ⟨h.1, h.2 ▸ Kp.refl _ _⟩

set_option maxRecDepth 100000 in
set_option maxHeartbeats 4000000 in
theorem ref39_Write (o : Opt) (w : World) (ho : o.ok) :
    Calls Tryd.prog 7 #[.agg (optC o)] w fun e w' => e = .returned (.string ⟨(optT o).toArray⟩) ∧ Kp (fun _ => False) w w' := by
  have HTx := Lib.hid (optT_eq o)
  obtain ⟨e, b, p, f, u, k, s, d, m⟩ := o
  unfold optC
  have HE := Lib.hid (fun u' => ref_Dec e u' ho.e.1 ho.e.2)
  have lE : (⟨(Lib.itoa e).toArray⟩ : ByteArray).size ≤ 21 := itoaLen ho.e.1 ho.e.2
  obtain ⟨xE, hE⟩ : ∃ x : ByteArray, x = ⟨(Lib.itoa e).toArray⟩ := ⟨_, rfl⟩
  rw [← hE] at HE lE
  have HB := Lib.hid (fun u' => ref_Dec b u' ho.b.1 ho.b.2)
  have lB : (⟨(Lib.itoa b).toArray⟩ : ByteArray).size ≤ 21 := itoaLen ho.b.1 ho.b.2
  obtain ⟨xB, hB⟩ : ∃ x : ByteArray, x = ⟨(Lib.itoa b).toArray⟩ := ⟨_, rfl⟩
  rw [← hB] at HB lB
  have HP := Lib.hid (fun u' => ref_Dec p u' ho.p.1 ho.p.2)
  have lP : (⟨(Lib.itoa p).toArray⟩ : ByteArray).size ≤ 21 := itoaLen ho.p.1 ho.p.2
  obtain ⟨xP, hP⟩ : ∃ x : ByteArray, x = ⟨(Lib.itoa p).toArray⟩ := ⟨_, rfl⟩
  rw [← hP] at HP lP
  have HF := Lib.hid (fun u' => ref_Dec f u' ho.f.1 ho.f.2)
  have lF : (⟨(Lib.itoa f).toArray⟩ : ByteArray).size ≤ 21 := itoaLen ho.f.1 ho.f.2
  obtain ⟨xF, hF⟩ : ∃ x : ByteArray, x = ⟨(Lib.itoa f).toArray⟩ := ⟨_, rfl⟩
  rw [← hF] at HF lF
  have HU := Lib.hid (fun u' => ref_Dec u u' ho.u.1 ho.u.2)
  have lU : (⟨(Lib.itoa u).toArray⟩ : ByteArray).size ≤ 21 := itoaLen ho.u.1 ho.u.2
  obtain ⟨xU, hU⟩ : ∃ x : ByteArray, x = ⟨(Lib.itoa u).toArray⟩ := ⟨_, rfl⟩
  rw [← hU] at HU lU
  have HKk := Lib.hid (fun u' => ref_Dec k u' ho.k.1 ho.k.2)
  have lKk : (⟨(Lib.itoa k).toArray⟩ : ByteArray).size ≤ 21 := itoaLen ho.k.1 ho.k.2
  obtain ⟨xKk, hKk⟩ : ∃ x : ByteArray, x = ⟨(Lib.itoa k).toArray⟩ := ⟨_, rfl⟩
  rw [← hKk] at HKk lKk
  have HS := Lib.hid (fun u' => hex39 s ho.s u')
  have lS : (⟨(hexN 16 s).toArray⟩ : ByteArray).size ≤ 21 := by show (hexN 16 s).length ≤ 21; rw [hexN_length]; omega
  obtain ⟨xS, hS⟩ : ∃ x : ByteArray, x = ⟨(hexN 16 s).toArray⟩ := ⟨_, rfl⟩
  rw [← hS] at HS lS
  have HD := Lib.hid (fun u' => text05 d ho.d u')
  have lD : (⟨(hexN 16 (canon d)).toArray⟩ : ByteArray).size ≤ 21 := by show (hexN 16 (canon d)).length ≤ 21; rw [hexN_length]; omega
  obtain ⟨xD, hD⟩ : ∃ x : ByteArray, x = ⟨(hexN 16 (canon d)).toArray⟩ := ⟨_, rfl⟩
  rw [← hD] at HD lD
  have HM := Lib.hid (fun u' => text05 m ho.m u')
  have lM : (⟨(hexN 16 (canon m)).toArray⟩ : ByteArray).size ≤ 21 := by show (hexN 16 (canon m)).length ≤ 21; rw [hexN_length]; omega
  obtain ⟨xM, hM⟩ : ∃ x : ByteArray, x = ⟨(hexN 16 (canon m)).toArray⟩ := ⟨_, rfl⟩
  rw [← hM] at HM lM
  have HT1 : Hid (∀ t1 t2 t3 : ByteArray, t1 = ⟨#[101, 110, 103, 105, 110, 101, 32]⟩ ++ xE ++ ⟨#[32, 98, 111, 117, 110, 100, 32]⟩ ++ xB ++ ⟨#[32, 112, 114, 111, 112, 32]⟩ ++ xP ++ ⟨#[32, 115, 101, 101, 100, 32]⟩ ++ xS → t2 = t1 ++ ⟨#[32, 102, 117, 101, 108, 32]⟩ ++ xF ++ ⟨#[32, 117, 110, 105, 116, 32]⟩ ++ xU ++ ⟨#[32, 107, 101, 101, 112, 32]⟩ ++ xKk → t3 = t2 ++ ⟨#[32, 100, 101, 99, 97, 121, 32]⟩ ++ xD ++ ⟨#[32, 98, 117, 109, 112, 32]⟩ ++ xM → t3 = ⟨(optT ⟨e, b, p, f, u, k, s, d, m⟩).toArray⟩) := Lib.hid (by
    intro t1 t2 t3 h1 h2 h3
    rw [HTx.out, h3, h2, h1, hE, hB, hP, hS, hF, hU, hKk, hD, hM]
    simp only [cat_bytes', sEngine, sBound, sProp, sSeed, sFuel, sUnit, sKeep, sDecay, sBump]
    simp)
  clear HTx ho hE hB hP hS hF hU hKk hD hM
  obtain ⟨wz, hwz⟩ : ∃ wz : World, wz = w.alloc (.cells #[.int .i64 e, .int .i64 b, .int .i64 p, .int .i64 f, .int .i64 u, .int .i64 k, .int .u64 (s : Nat), .int .u64 (d : Nat), .int .u64 (m : Nat)] 31) := ⟨_, rfl⟩
  have HKz : Hid (Kp (fun _ => False) w wz) := Lib.hid (by rw [hwz]; exact (Kp.refl _ w).alloc _)
  have HX : Hid (Blk wz w.heap.size #[.int .i64 e, .int .i64 b, .int .i64 p, .int .i64 f, .int .i64 u, .int .i64 k, .int .u64 (s : Nat), .int .u64 (d : Nat), .int .u64 (m : Nat)] 31) := Lib.hid (by rw [hwz]; exact Blk.new w _ _)
  have HFirst := Lib.hid hwz
  clear hwz
  go_enter Tryd.func7, Tryd.ntmps7
  go_upto_region 1 with fail
  rw [show w.alloc (.cells #[.int .i64 e, .int .i64 b, .int .i64 p, .int .i64 f, .int .i64 u, .int .i64 k, .int .u64 (s : Nat), .int .u64 (d : Nat), .int .u64 (m : Nat)] 31) = wz from HFirst.out.symm]
  clear HFirst
  obtain ⟨wa, rfl⟩ : ∃ wa : World, wa = wz := ⟨_, rfl⟩
  go_cut [3] from 4 to 25 (fun s3 wx => s3 = .string (⟨#[101, 110, 103, 105, 110, 101, 32]⟩ ++ xE ++ ⟨#[32, 98, 111, 117, 110, 100, 32]⟩ ++ xB ++ ⟨#[32, 112, 114, 111, 112, 32]⟩ ++ xP ++ ⟨#[32, 115, 101, 101, 100, 32]⟩ ++ xS) ∧ Kp (fun _ => False) wa wx)
  case first =>
    have HHf := Lib.hid (fun u' (hK : Kp (fun _ => False) wa u') => (HX.out.kp hK (fun h => h)).cells9')
    have q0 : ¬ 9223372036854775807 < 7 + xE.size := by omega
    have q1 : ¬ 9223372036854775807 < 7 + xE.size + 7 := by omega
    have q2 : ¬ 9223372036854775807 < 7 + xE.size + 7 + xB.size := by omega
    have q3 : ¬ 9223372036854775807 < 7 + xE.size + 7 + xB.size + 6 := by omega
    have q4 : ¬ 9223372036854775807 < 7 + xE.size + 7 + xB.size + 6 + xP.size := by omega
    have q5 : ¬ 9223372036854775807 < 7 + xE.size + 7 + xB.size + 6 + xP.size + 6 := by omega
    have q6 : ¬ 9223372036854775807 < 7 + xE.size + 7 + xB.size + 6 + xP.size + 6 + xS.size := by omega
    go_region_held3 (fun u' => u'.cell? ⟨w.heap.size, 0, none⟩ = some (.int .i64 e) ∧ u'.cell? ⟨w.heap.size, 1, none⟩ = some (.int .i64 b) ∧ u'.cell? ⟨w.heap.size, 2, none⟩ = some (.int .i64 p) ∧ u'.cell? ⟨w.heap.size, 3, none⟩ = some (.int .i64 f) ∧ u'.cell? ⟨w.heap.size, 4, none⟩ = some (.int .i64 u) ∧ u'.cell? ⟨w.heap.size, 5, none⟩ = some (.int .i64 k) ∧ u'.cell? ⟨w.heap.size, 6, none⟩ = some (.int .u64 (s : Nat)) ∧ u'.cell? ⟨w.heap.size, 7, none⟩ = some (.int .u64 (d : Nat)) ∧ u'.cell? ⟨w.heap.size, 8, none⟩ = some (.int .u64 (m : Nat))) (exact HHf.out _ (by repeat (first | (with_reducible exact Kp.refl _ _) | (with_reducible exact HKa.out) | (with_reducible apply Kp.alloc) | (with_reducible apply Kp.drew)))) ((first
      | ((with_reducible refine Calls.mono (HE.out _) ?_)
         rintro o u1 ⟨rfl, hK⟩
         have HKa := Lib.hid (Kp.trans (a := wa) (by repeat (first | (with_reducible exact Kp.refl _ _) | (with_reducible exact HKa.out) | (with_reducible apply Kp.alloc) | (with_reducible apply Kp.drew))) hK (fun _ _ h => h))
         clear hK)
      | ((with_reducible refine Calls.mono (HB.out _) ?_)
         rintro o u1 ⟨rfl, hK⟩
         have HKa := Lib.hid (Kp.trans (a := wa) (by repeat (first | (with_reducible exact Kp.refl _ _) | (with_reducible exact HKa.out) | (with_reducible apply Kp.alloc) | (with_reducible apply Kp.drew))) hK (fun _ _ h => h))
         clear hK)
      | ((with_reducible refine Calls.mono (HP.out _) ?_)
         rintro o u1 ⟨rfl, hK⟩
         have HKa := Lib.hid (Kp.trans (a := wa) (by repeat (first | (with_reducible exact Kp.refl _ _) | (with_reducible exact HKa.out) | (with_reducible apply Kp.alloc) | (with_reducible apply Kp.drew))) hK (fun _ _ h => h))
         clear hK)
      | ((with_reducible refine Calls.mono (HS.out _) ?_)
         rintro o u1 ⟨rfl, hK⟩
         have HKa := Lib.hid (Kp.trans (a := wa) (by repeat (first | (with_reducible exact Kp.refl _ _) | (with_reducible exact HKa.out) | (with_reducible apply Kp.alloc) | (with_reducible apply Kp.drew))) hK (fun _ _ h => h))
         clear hK)))
    all_goals go_wp2_with fail
    all_goals go_meet
    all_goals exact ⟨rfl, by first | exact HKa.out | exact HKa.out.drew⟩
  case rest =>
  obtain ⟨rfl, hK⟩ := hcut
  have HXt1 := Lib.hid (HX.out.kp hK (fun h => h))
  have HKt1 := Lib.hid (HKz.out.trans hK (fun _ _ h => h))
  clear hK HX HKz
  rename Hid (Blk _ w.heap.size _ _) => HX
  rename Hid (Kp _ w _) => HKz
  obtain ⟨t1, ht1⟩ : ∃ t : ByteArray, t = ⟨#[101, 110, 103, 105, 110, 101, 32]⟩ ++ xE ++ ⟨#[32, 98, 111, 117, 110, 100, 32]⟩ ++ xB ++ ⟨#[32, 112, 114, 111, 112, 32]⟩ ++ xP ++ ⟨#[32, 115, 101, 101, 100, 32]⟩ ++ xS := ⟨_, rfl⟩
  have lt1 : t1.size ≤ 200 := by rw [ht1]; simp only [ByteArray.size_append]; show 7 + xE.size + 7 + xB.size + 6 + xP.size + 6 + xS.size ≤ 200; omega
  rw [← ht1]
  have Ht1 := Lib.hid ht1
  clear ht1
  obtain ⟨wb, hwb⟩ : ∃ wb : World, wb = wc := ⟨_, rfl⟩
  subst hwb
  clear wa
  obtain ⟨wa, rfl⟩ : ∃ wa : World, wa = wb := ⟨_, rfl⟩
  go_upto_region 2 with fail
  go_cut [3] from 26 to 44 (fun s3 wx => s3 = .string (t1 ++ ⟨#[32, 102, 117, 101, 108, 32]⟩ ++ xF ++ ⟨#[32, 117, 110, 105, 116, 32]⟩ ++ xU ++ ⟨#[32, 107, 101, 101, 112, 32]⟩ ++ xKk) ∧ Kp (fun _ => False) wa wx)
  case first =>
    have HHf := Lib.hid (fun u' (hK : Kp (fun _ => False) wa u') => (HX.out.kp hK (fun h => h)).cells9')
    have q0 : ¬ 9223372036854775807 < t1.size + 6 := by omega
    have q1 : ¬ 9223372036854775807 < t1.size + 6 + xF.size := by omega
    have q2 : ¬ 9223372036854775807 < t1.size + 6 + xF.size + 6 := by omega
    have q3 : ¬ 9223372036854775807 < t1.size + 6 + xF.size + 6 + xU.size := by omega
    have q4 : ¬ 9223372036854775807 < t1.size + 6 + xF.size + 6 + xU.size + 6 := by omega
    have q5 : ¬ 9223372036854775807 < t1.size + 6 + xF.size + 6 + xU.size + 6 + xKk.size := by omega
    go_region_held3 (fun u' => u'.cell? ⟨w.heap.size, 0, none⟩ = some (.int .i64 e) ∧ u'.cell? ⟨w.heap.size, 1, none⟩ = some (.int .i64 b) ∧ u'.cell? ⟨w.heap.size, 2, none⟩ = some (.int .i64 p) ∧ u'.cell? ⟨w.heap.size, 3, none⟩ = some (.int .i64 f) ∧ u'.cell? ⟨w.heap.size, 4, none⟩ = some (.int .i64 u) ∧ u'.cell? ⟨w.heap.size, 5, none⟩ = some (.int .i64 k) ∧ u'.cell? ⟨w.heap.size, 6, none⟩ = some (.int .u64 (s : Nat)) ∧ u'.cell? ⟨w.heap.size, 7, none⟩ = some (.int .u64 (d : Nat)) ∧ u'.cell? ⟨w.heap.size, 8, none⟩ = some (.int .u64 (m : Nat))) (exact HHf.out _ (by repeat (first | (with_reducible exact Kp.refl _ _) | (with_reducible exact HKa.out) | (with_reducible apply Kp.alloc) | (with_reducible apply Kp.drew)))) ((first
      | ((with_reducible refine Calls.mono (HF.out _) ?_)
         rintro o u1 ⟨rfl, hK⟩
         have HKa := Lib.hid (Kp.trans (a := wa) (by repeat (first | (with_reducible exact Kp.refl _ _) | (with_reducible exact HKa.out) | (with_reducible apply Kp.alloc) | (with_reducible apply Kp.drew))) hK (fun _ _ h => h))
         clear hK)
      | ((with_reducible refine Calls.mono (HU.out _) ?_)
         rintro o u1 ⟨rfl, hK⟩
         have HKa := Lib.hid (Kp.trans (a := wa) (by repeat (first | (with_reducible exact Kp.refl _ _) | (with_reducible exact HKa.out) | (with_reducible apply Kp.alloc) | (with_reducible apply Kp.drew))) hK (fun _ _ h => h))
         clear hK)
      | ((with_reducible refine Calls.mono (HKk.out _) ?_)
         rintro o u1 ⟨rfl, hK⟩
         have HKa := Lib.hid (Kp.trans (a := wa) (by repeat (first | (with_reducible exact Kp.refl _ _) | (with_reducible exact HKa.out) | (with_reducible apply Kp.alloc) | (with_reducible apply Kp.drew))) hK (fun _ _ h => h))
         clear hK)))
    all_goals go_wp2_with fail
    all_goals go_meet
    all_goals exact ⟨rfl, by first | exact HKa.out | exact HKa.out.drew⟩
  case rest =>
  obtain ⟨rfl, hK⟩ := hcut
  have HXt2 := Lib.hid (HX.out.kp hK (fun h => h))
  have HKt2 := Lib.hid (HKz.out.trans hK (fun _ _ h => h))
  clear hK HX HKz
  rename Hid (Blk _ w.heap.size _ _) => HX
  rename Hid (Kp _ w _) => HKz
  obtain ⟨t2, ht2⟩ : ∃ t : ByteArray, t = t1 ++ ⟨#[32, 102, 117, 101, 108, 32]⟩ ++ xF ++ ⟨#[32, 117, 110, 105, 116, 32]⟩ ++ xU ++ ⟨#[32, 107, 101, 101, 112, 32]⟩ ++ xKk := ⟨_, rfl⟩
  have lt2 : t2.size ≤ 300 := by rw [ht2]; simp only [ByteArray.size_append]; show t1.size + 6 + xF.size + 6 + xU.size + 6 + xKk.size ≤ 300; omega
  rw [← ht2]
  have Ht2 := Lib.hid ht2
  clear ht2
  obtain ⟨wb, hwb⟩ : ∃ wb : World, wb = wc := ⟨_, rfl⟩
  subst hwb
  clear wa
  obtain ⟨wa, rfl⟩ : ∃ wa : World, wa = wb := ⟨_, rfl⟩
  go_upto_region 3 with fail
  go_cut [2] from 45 to 55 (fun s3 wx => s3 = .string (t2 ++ ⟨#[32, 100, 101, 99, 97, 121, 32]⟩ ++ xD ++ ⟨#[32, 98, 117, 109, 112, 32]⟩ ++ xM) ∧ Kp (fun _ => False) wa wx)
  case first =>
    have HHf := Lib.hid (fun u' (hK : Kp (fun _ => False) wa u') => (HX.out.kp hK (fun h => h)).cells9')
    have q0 : ¬ 9223372036854775807 < t2.size + 7 := by omega
    have q1 : ¬ 9223372036854775807 < t2.size + 7 + xD.size := by omega
    have q2 : ¬ 9223372036854775807 < t2.size + 7 + xD.size + 6 := by omega
    have q3 : ¬ 9223372036854775807 < t2.size + 7 + xD.size + 6 + xM.size := by omega
    go_region_held3 (fun u' => u'.cell? ⟨w.heap.size, 0, none⟩ = some (.int .i64 e) ∧ u'.cell? ⟨w.heap.size, 1, none⟩ = some (.int .i64 b) ∧ u'.cell? ⟨w.heap.size, 2, none⟩ = some (.int .i64 p) ∧ u'.cell? ⟨w.heap.size, 3, none⟩ = some (.int .i64 f) ∧ u'.cell? ⟨w.heap.size, 4, none⟩ = some (.int .i64 u) ∧ u'.cell? ⟨w.heap.size, 5, none⟩ = some (.int .i64 k) ∧ u'.cell? ⟨w.heap.size, 6, none⟩ = some (.int .u64 (s : Nat)) ∧ u'.cell? ⟨w.heap.size, 7, none⟩ = some (.int .u64 (d : Nat)) ∧ u'.cell? ⟨w.heap.size, 8, none⟩ = some (.int .u64 (m : Nat))) (exact HHf.out _ (by repeat (first | (with_reducible exact Kp.refl _ _) | (with_reducible exact HKa.out) | (with_reducible apply Kp.alloc) | (with_reducible apply Kp.drew)))) ((first
      | ((with_reducible refine Calls.mono (HD.out _) ?_)
         rintro o u1 ⟨rfl, hK⟩
         have HKa := Lib.hid (Kp.trans (a := wa) (by repeat (first | (with_reducible exact Kp.refl _ _) | (with_reducible exact HKa.out) | (with_reducible apply Kp.alloc) | (with_reducible apply Kp.drew))) hK (fun _ _ h => h))
         clear hK)
      | ((with_reducible refine Calls.mono (HM.out _) ?_)
         rintro o u1 ⟨rfl, hK⟩
         have HKa := Lib.hid (Kp.trans (a := wa) (by repeat (first | (with_reducible exact Kp.refl _ _) | (with_reducible exact HKa.out) | (with_reducible apply Kp.alloc) | (with_reducible apply Kp.drew))) hK (fun _ _ h => h))
         clear hK)))
    all_goals go_wp2_with fail
    all_goals go_meet
    all_goals exact ⟨rfl, by first | exact HKa.out | exact HKa.out.drew⟩
  case rest =>
  obtain ⟨rfl, hK⟩ := hcut
  have HEnd := Lib.hid (HKz.out.trans hK (fun _ _ h => h))
  clear hK
  go_wp2_with fail
  go_ret
  exact ⟨congrArg (fun x => Ending.returned (Value.string x)) (HT1.out t1 t2 _ Ht1.out Ht2.out rfl), HEnd.out⟩

end Go.Proofs.YtpihfgpgdjjfhaaDoor

/-
  opts.numbers: where options' numbers are.
-/
namespace Go.Proofs.YtpihfgpgdjjfhaaDoor
open Go.RowKit

/-- the rows: a word, and where its number is -/
def numC (bo : Nat) : Array Value := #[.string ⟨#[101, 110, 103, 105, 110, 101]⟩, .pointer (some ⟨bo, 0, none⟩), .string ⟨#[98, 111, 117, 110, 100]⟩, .pointer (some ⟨bo, 1, none⟩), .string ⟨#[112, 114, 111, 112]⟩, .pointer (some ⟨bo, 2, none⟩),
  .string ⟨#[102, 117, 101, 108]⟩, .pointer (some ⟨bo, 4, none⟩), .string ⟨#[117, 110, 105, 116]⟩, .pointer (some ⟨bo, 5, none⟩), .string ⟨#[107, 101, 101, 112]⟩, .pointer (some ⟨bo, 6, none⟩)]

set_option maxRecDepth 100000 in
set_option maxHeartbeats 4000000 in
theorem opts_numbers (bo : Nat) (w : World) (hb : bo < w.heap.size) :
    Calls Tryd.prog 16 #[.pointer (some ⟨bo, 0, none⟩)] w fun e w' => ∃ g, e = .returned (.slice (some ⟨g, 0, none⟩) 6 6) ∧ w.heap.size ≤ g ∧ Blk w' g (numC bo) 51 ∧ Kp (fun _ => False) w w' := by
  go_enter Tryd.func16, Tryd.ntmps16
  go_upto_region 1 with fail
  go_region_held3 (fun u => bo < u.heap.size) (first | exact hb | (simp; omega)) (fail)
  all_goals go_wp2_with fail
  all_goals go_ret
  all_goals exact ⟨w.heap.size, rfl, Nat.le_refl _, by first | exact (Blk.new w _ _).drew | exact Blk.new w.drew _ _ | exact Blk.new w _ _, by first | exact ((Kp.refl (fun _ => False) w).alloc _).drew | exact ((Kp.refl (fun _ => False) w).drew).alloc _⟩

end Go.Proofs.YtpihfgpgdjjfhaaDoor

/-
  Slices of structs of k cells each, of the call's own. No program in sight.
-/
namespace Go.Proofs.YtpihfgpgdjjfhaaDoor
open Go.RowKit

theorem flat_length {k : Nat} : ∀ {rows : List (List Value)}, (∀ r ∈ rows, r.length = k) → rows.flatten.length = rows.length * k
  | [], _ => by simp
  | r :: rows, h => by
    rw [List.flatten_cons, List.length_append, h r (by simp), flat_length (fun x hx => h x (by simp [hx])), List.length_cons, Nat.succ_mul]
    omega

theorem flat_at {k : Nat} : ∀ {rows : List (List Value)}, (∀ r ∈ rows, r.length = k) → ∀ {j i : Nat} {r : List Value} {u : Value}, rows[j]? = some r → r[i]? = some u → rows.flatten[j * k + i]? = some u
  | [], _, j, i, r, u, hj, _ => by simp at hj
  | x :: rows, h, 0, i, r, u, hj, hi => by
    simp at hj
    subst hj
    have hl : i < x.length := (List.getElem?_eq_some_iff.1 hi).1
    rw [List.flatten_cons, List.getElem?_append_left (by omega), Nat.zero_mul, Nat.zero_add]
    exact hi
  | x :: rows, h, j + 1, i, r, u, hj, hi => by
    have hx := h x (by simp)
    rw [List.flatten_cons, List.getElem?_append_right (by rw [hx, Nat.succ_mul]; omega), hx, show (j + 1) * k + i - k = j * k + i by rw [Nat.succ_mul]; omega]
    exact flat_at (fun y hy => h y (by simp [hy])) (by simpa using hj) hi

/-- v owns rows of k cells each -/
structure OwnK (w : World) (base : Nat) (e : TypeId) (k : Nat) (v : Value) (rows : List (List Value)) : Prop where
  own : w.ownsRow base e k v rows.length rows.flatten
  len : ∀ r ∈ rows, r.length = k

section
variable {w w' : World} {base : Nat} {e : TypeId} {k : Nat} {v : Value} {rows : List (List Value)}

theorem OwnK.nil (w : World) (base : Nat) (e : TypeId) (k : Nat) : OwnK w base e k (.slice none 0 0) [] := ⟨World.ownsRow_nil _ _ _ _, fun r h => by cases h⟩

theorem OwnK.form (h : OwnK w base e k v rows) : ∃ a cap, v = .slice a rows.length cap ∧ rows.length ≤ cap ∧ cap ≤ maxLen ∧ (a = none → cap = 0) ∧ (∀ p, a = some p → ∃ g, p = ⟨g, 0, none⟩ ∧ base ≤ g ∧ g < w.heap.size) ∧ RowAt w a rows.flatten := by
  rcases h.own.2 with ⟨rfl, hn⟩ | ⟨g, cap, cur, rfl, hb, hg, hnc, hcm, hcs, htake⟩
  · refine ⟨none, 0, by rw [hn], by omega, by simp [maxLen], fun _ => rfl, fun p hp => by simp at hp, ?_⟩
    have : rows = [] := List.eq_nil_of_length_eq_zero hn
    subst this
    exact RowAt.nil _ _
  · refine ⟨_, cap, rfl, hnc, hcm, (fun h => by cases h), fun p hp => ⟨g, by simpa using hp.symm, hb, (Array.getElem?_eq_some_iff.1 hg).1⟩, ?_⟩
    have hB : Blk w g cur e := hg
    exact hB.rowAt (off := 0) (n := rows.length * k) (by simpa using htake)

theorem OwnK.kp {S : Nat → Prop} (h : OwnK w base e k v rows) (kk : Kp S w w') (hS : ∀ j, v.ownBlock = some j → ¬ S j) : OwnK w' base e k v rows := by
  refine ⟨⟨h.own.1, ?_⟩, h.len⟩
  rcases h.own.2 with hn | ⟨g, cap, cur, rfl, hb, hgg, rest⟩
  · exact .inl hn
  · refine .inr ⟨g, cap, cur, rfl, hb, ?_, rest⟩
    rw [kk.block g (Array.getElem?_eq_some_iff.1 hgg).1 (hS g rfl)]
    exact hgg

theorem OwnK.mono {b' : Nat} (h : OwnK w base e k v rows) (hb : b' ≤ base) : OwnK w b' e k v rows := by
  refine ⟨⟨h.own.1, ?_⟩, h.len⟩
  rcases h.own.2 with hn | ⟨g, cap, cur, rfl, hg, hgg, rest⟩
  · exact .inl hn
  · exact .inr ⟨g, cap, cur, rfl, by omega, hgg, rest⟩

theorem OwnK.lt (h : OwnK w base e k v rows) : ∀ j, v.ownBlock = some j → base ≤ j ∧ j < w.heap.size := World.ownsRow.lt h.own

theorem OwnK.leads (h : OwnK w base e k v rows) (hc : 0 < rows.length) : ∃ g cap, v = .slice (some ⟨g, 0, none⟩) rows.length cap ∧ base ≤ g ∧ g < w.heap.size := by
  rcases h.own.2 with ⟨rfl, hn⟩ | ⟨g, cap, cur, rfl, hb, hg, _⟩
  · omega
  · exact ⟨g, cap, rfl, hb, (Array.getElem?_eq_some_iff.1 hg).1⟩

theorem OwnK.alloc (h : OwnK w base e k v rows) (o : Obj) : OwnK (w.alloc o) base e k v rows := ⟨World.ownsRow.alloc h.own o, h.len⟩
theorem OwnK.drew (h : OwnK w base e k v rows) : OwnK w.drew base e k v rows := ⟨h.own, h.len⟩
theorem OwnK.drewN (h : OwnK w base e k v rows) (n : Nat) : OwnK (w.drewN n) base e k v rows := ⟨h.own, h.len⟩
end

/-- the row of cells at a, as rows of k cells: cell i of row j -/
theorem RowAt.cellAt {w : World} {a : Option Addr} {k : Nat} {rows : List (List Value)} (h : RowAt w a rows.flatten) (hl : ∀ r ∈ rows, r.length = k) {j i : Nat} {r : List Value} {u : Value} (hj : rows[j]? = some r) (hi : r[i]? = some u) : Elem w a (j * k + i) u :=
  h _ _ (flat_at hl hj hi)

/-- 'append(v, x)' of one struct x of k cells, which lies at the head of block ad -/
theorem wpList_appendK {P : Program} {w : World} {ops : Array Oper} {rest : List Oper} {o : Oper} {a : Act} {Q : Exit → Act → World → Prop} (hgd : o.guard = none) (s x : Operand) (t e : TypeId)
    (ho : o.op = .call { callee := .builtin .append, args := #[s, x], argTypes := #[t, t] }) {z : Value} {k bytes : Nat}
    (ht : P.underlying t = some (.slice e)) (hI : (P.info? e).map (fun i => (i.zero, i.size, i.bytes)) = some (some z, k, bytes)) (hzs : z.cells.size = k) (hk : 0 < k)
    {base : Nat} {v : Value} {rows : List (List Value)} (hown : OwnK w base e k v rows) (hs : a.eval s = v) (b : Nat) (r : List Value) (hx : a.eval x = .slice (some ⟨b, 0, none⟩) 1 1) (hr : r.length = k) (hnew : ∀ j u, r[j]? = some u → w.cell? ⟨b, j, none⟩ = some u) (h1 : ∀ u ∈ r, u.oneCell' = true)
    (hbytes : (rows.length + 1) * bytes ≤ 140737488355328) (hm : rows.length + 1 ≤ maxLen) (hbase : base ≤ w.heap.size)
    (h : ∀ v' w', OwnK w' base e k v' (rows ++ [r]) → w.grownBy w' v.ownBlock → (v'.ownBlock = v.ownBlock ∨ v'.ownBlock = some w.heap.size) → wpList P ops Q rest (a.put o.dst v') w') : wpList P ops Q (o :: rest) a w := by
  obtain ⟨i0, hi, hz0, hz1, hz2⟩ := info_parts hI
  refine wpList_append_own_at _ hgd s x t ho base e i0 z k bytes ht hi hz0 hz1 hz2 hzs hk v rows.length rows.flatten hs hown.own ⟨b, 0, none⟩ 1 1 r hx (by omega) ?_ h1 hm hbytes hbase ?_
  · intro j u hj
    rw [add_plain', Nat.zero_add]
    exact hnew j u hj
  · intro v' w' h2 h3 _ h5
    refine h v' w' ⟨?_, ?_⟩ h3 h5
    · rw [List.length_append, List.flatten_append]
      simpa using h2
    · intro x hx
      rcases List.mem_append.1 hx with h | h
      · exact hown.len x h
      · simp at h; subst h; exact hr

end Go.Proofs.YtpihfgpgdjjfhaaDoor

/-
  append of a whole slice of structs: as a step of a region that draws its order, and of one that does not.
-/
namespace Go.Proofs.YtpihfgpgdjjfhaaDoor
open Go.RowKit

theorem own_run {P : Program} {w : World} {t ty e : TypeId} {z : Value} {k bytes : Nat} (ht : P.underlying t = some (.slice e)) (hI : (P.info? e).map (fun i => (i.zero, i.size, i.bytes)) = some (some z, k, bytes)) (hzs : z.cells.size = k) (hk : 0 < k)
    {base : Nat} {v : Value} {rows : List (List Value)} (hown : OwnK w base e k v rows) {src : Option Addr} {m c : Nat} {news : List (List Value)} (hlen : ∀ r ∈ news, r.length = k) (hm : news.length = m) (hrow : RowAt w src news.flatten) (hnil : src = none → c = 0) (h1 : ∀ u ∈ news.flatten, u.oneCell' = true)
    (hbytes : (rows.length + m) * bytes ≤ 140737488355328) (hml : rows.length + m ≤ maxLen) (hbase : base ≤ w.heap.size) :
    ∃ v' w', (Builtin.append_ #[t, t] ty #[v, .slice src m c]).run P w = .ok v' w' ∧ OwnK w' base e k v' (rows ++ news) ∧ w.grownBy w' v.ownBlock ∧ (v'.ownBlock = v.ownBlock ∨ v'.ownBlock = some w.heap.size) := by
  obtain ⟨i0, hi, hz0, hz1, hz2⟩ := info_parts hI
  have hfl : news.flatten.length = m * k := by rw [flat_length hlen, hm]
  cases src with
  | none =>
    have hn : news = [] := by
      cases news with
      | nil => rfl
      | cons r rs =>
        have hr : r.length = k := hlen r (by simp)
        cases r with
        | nil => simp at hr; omega
        | cons u r => obtain ⟨_, _, h, _⟩ := hrow 0 u (by simp); cases h
    subst hn
    have hm0 : m = 0 := by simpa using hm.symm
    subst hm0
    rw [hnil rfl]
    exact ⟨v, w, run_append_owned_none (P := P) (w := w) base t ty e i0 k ht hi v rows.length rows.flatten hown.own, by rw [List.append_nil]; exact hown, ⟨rfl, rfl, rfl, Nat.le_refl _, fun _ _ _ => rfl⟩, .inl rfl⟩
  | some ad =>
    obtain ⟨v', w', hr, h2, h3, _, h5⟩ := run_append_own_at (P := P) w base t ty e i0 z k bytes ht hi hz0 hz1 hz2 hzs hk v rows.length rows.flatten hown.own ad m c news.flatten hfl (fun j u hj => by
      obtain ⟨b, off, hab, hc⟩ := hrow j u hj
      simp only [Option.some.injEq] at hab
      subst hab
      rw [add_plain']
      exact hc) h1 hml hbytes hbase
    refine ⟨v', w', hr, ⟨?_, ?_⟩, h3, h5⟩
    · rw [List.length_append, hm, List.flatten_append]; exact h2
    · intro x hx
      rcases List.mem_append.1 hx with h | h
      · exact hown.len x h
      · exact hlen x h

/-- 'append(v, xs...)' of structs of k cells: at an operation -/
theorem wp_appendAllK {P : Program} {w : World} {o : Oper} {a : Act} {K : Act → World → Prop} {Q : Exit → Act → World → Prop} (s x : Operand) (t e : TypeId)
    (ho : o.op = .call { callee := .builtin .append, args := #[s, x], argTypes := #[t, t] }) {z : Value} {k bytes : Nat}
    (ht : P.underlying t = some (.slice e)) (hI : (P.info? e).map (fun i => (i.zero, i.size, i.bytes)) = some (some z, k, bytes)) (hzs : z.cells.size = k) (hk : 0 < k)
    {base : Nat} {v : Value} {rows : List (List Value)} (hown : OwnK w base e k v rows) (hs : a.eval s = v) (src : Option Addr) (m c : Nat) (news : List (List Value)) (hx : a.eval x = .slice src m c) (hlen : ∀ r ∈ news, r.length = k) (hm : news.length = m) (hrow : RowAt w src news.flatten) (hnil : src = none → c = 0) (h1 : ∀ u ∈ news.flatten, u.oneCell' = true)
    (hbytes : (rows.length + m) * bytes ≤ 140737488355328) (hml : rows.length + m ≤ maxLen) (hbase : base ≤ w.heap.size)
    (h : ∀ v' w', OwnK w' base e k v' (rows ++ news) → w.grownBy w' v.ownBlock → (v'.ownBlock = v.ownBlock ∨ v'.ownBlock = some w.heap.size) → K (a.put o.dst v') w') : Oper.wp P o a w K Q := by
  obtain ⟨v', w', hr, h2, h3, h5⟩ := own_run (P := P) (w := w) (t := t) (ty := o.type) ht hI hzs hk hown hlen hm hrow hnil h1 hbytes hml hbase
  unfold Oper.wp execOp
  simp only [ho, resolve, invoke, builtin, Sem.run_bind, Sem.run_pure, Result.andThen_ok, List.map_toArray, List.map_cons, List.map_nil, hs, hx, hr]
  exact h v' w' h2 h3 h5

/-- .. at a list of operations -/
theorem wpList_appendAllK {P : Program} {w : World} {ops : Array Oper} {rest : List Oper} {o : Oper} {a : Act} {Q : Exit → Act → World → Prop} (hgd : o.guard = none) (s x : Operand) (t e : TypeId)
    (ho : o.op = .call { callee := .builtin .append, args := #[s, x], argTypes := #[t, t] }) {z : Value} {k bytes : Nat}
    (ht : P.underlying t = some (.slice e)) (hI : (P.info? e).map (fun i => (i.zero, i.size, i.bytes)) = some (some z, k, bytes)) (hzs : z.cells.size = k) (hk : 0 < k)
    {base : Nat} {v : Value} {rows : List (List Value)} (hown : OwnK w base e k v rows) (hs : a.eval s = v) (src : Option Addr) (m c : Nat) (news : List (List Value)) (hx : a.eval x = .slice src m c) (hlen : ∀ r ∈ news, r.length = k) (hm : news.length = m) (hrow : RowAt w src news.flatten) (hnil : src = none → c = 0) (h1 : ∀ u ∈ news.flatten, u.oneCell' = true)
    (hbytes : (rows.length + m) * bytes ≤ 140737488355328) (hml : rows.length + m ≤ maxLen) (hbase : base ≤ w.heap.size)
    (h : ∀ v' w', OwnK w' base e k v' (rows ++ news) → w.grownBy w' v.ownBlock → (v'.ownBlock = v.ownBlock ∨ v'.ownBlock = some w.heap.size) → wpList P ops Q rest (a.put o.dst v') w') : wpList P ops Q (o :: rest) a w :=
  wpList_plain hgd fun _ hK => wp_appendAllK s x t e ho ht hI hzs hk hown hs src m c news hx hlen hm hrow hnil h1 hbytes hml hbase fun v' w' h2 h3 h4 => hK _ _ (h v' w' h2 h3 h4)

/-- .. at a step of a region that draws its order -/
theorem step_appendAllK {P : Program} {w : World} {ops : Array Oper} {o : Oper} {a : Act} {K : Act → World → Prop} {Q : Exit → Act → World → Prop} {E : Prop} (hgd : o.guard = none) (s x : Operand) (t e : TypeId)
    (ho : o.op = .call { callee := .builtin .append, args := #[s, x], argTypes := #[t, t] }) {z : Value} {k bytes : Nat}
    (ht : P.underlying t = some (.slice e)) (hI : (P.info? e).map (fun i => (i.zero, i.size, i.bytes)) = some (some z, k, bytes)) (hzs : z.cells.size = k) (hk : 0 < k)
    {base : Nat} {v : Value} {rows : List (List Value)} (hown : OwnK w base e k v rows) (hs : a.eval s = v) (src : Option Addr) (m c : Nat) (news : List (List Value)) (hx : a.eval x = .slice src m c) (hlen : ∀ r ∈ news, r.length = k) (hm : news.length = m) (hrow : RowAt w src news.flatten) (hnil : src = none → c = 0) (h1 : ∀ u ∈ news.flatten, u.oneCell' = true)
    (hbytes : (rows.length + m) * bytes ≤ 140737488355328) (hml : rows.length + m ≤ maxLen) (hbase : base ≤ w.heap.size)
    (h : ∀ v' w', OwnK w' base e k v' (rows ++ news) → w.grownBy w' v.ownBlock → (v'.ownBlock = v.ownBlock ∨ v'.ownBlock = some w.heap.size) → K (a.put o.dst v') w') :
    if Region.wanted o (yielded ops a.tmps) = true then Oper.wp P o a w K Q else E := by
  have hw : Region.wanted o (yielded ops a.tmps) = true := by simp [Region.wanted, hgd]
  rw [if_pos hw]
  exact wp_appendAllK s x t e ho ht hI hzs hk hown hs src m c news hx hlen hm hrow hnil h1 hbytes hml hbase h

theorem flat_ones : ∀ cs : List Value, (cs.map (fun c => [c])).flatten = cs
  | [] => rfl
  | a :: r => by rw [List.map_cons, List.flatten_cons, flat_ones r]; rfl

/-- a row of one-cell elements, as rows of one -/
theorem Own.rows {w : World} {base : Nat} {e : TypeId} {v : Value} {cs : List Value} (h : Own w base e v cs) : OwnK w base e 1 v (cs.map (fun c => [c])) := by
  refine ⟨?_, fun r hr => by obtain ⟨x, _, rfl⟩ := List.mem_map.1 hr; rfl⟩
  have e1 := flat_ones cs
  rw [List.length_map, e1]
  exact h

theorem OwnK.row {w : World} {base : Nat} {e : TypeId} {v : Value} {cs : List Value} (h : OwnK w base e 1 v (cs.map (fun c => [c]))) : Own w base e v cs := by
  have h1 := h.own
  have e1 := flat_ones cs
  rw [List.length_map, e1] at h1
  exact h1

end Go.Proofs.YtpihfgpgdjjfhaaDoor

/-
  opts.Write: its loop.
-/
namespace Go.Proofs.YtpihfgpgdjjfhaaDoor
open Go.RowKit

def ostrs (L : List ByteArray) : List Value := L.map .string
theorem ostrs_length (L : List ByteArray) : (ostrs L).length = L.length := by simp [ostrs]
theorem ostrInfo : (Tryd.prog.info? 9).map (fun i => (i.zero, i.size, i.bytes)) = some (some (.string .empty), 1, 16) := by kernel_rfl

def optV (o : Opt) : Array Value := #[.int .i64 o.e, .int .i64 o.b, .int .i64 o.p, .int .u64 (o.s : Nat), .int .i64 o.f, .int .i64 o.u, .int .i64 o.k, .float .f64 o.d, .float .f64 o.m]
def partsB (o : Opt) : List ByteArray := (optP o).map fun l => ⟨l.toArray⟩
def cntW (i : Nat) : Nat := if i ≤ 3 then i else i + 1
def cntM (i : Nat) : Nat := if i < 3 then i else i + 1

theorem partsB_length (o : Opt) : (partsB o).length = 9 := rfl

/-- what a round reads: the word, where its number is, the number -/
structure RowI (o : Opt) (bo g i : Nat) (X : ByteArray) (off : Nat) (n : Int) : Prop where
  x : (numC bo)[i * 2]? = some (.string X)
  y : (numC bo)[i * 2 + 1]? = some (.pointer (some ⟨bo, off, none⟩))
  z : (optV o)[off]? = some (.int .i64 n)
  hn : okN n
  s : X.size ≤ 6
  f : (X.toList == [102, 117, 101, 108]) = decide (i = 3)
  p : (partsB o)[cntM i]? = some (X ++ ⟨#[32]⟩ ++ ⟨(Lib.itoa n).toArray⟩)

theorem part_eq (a b : List UInt8) : (⟨a.toArray⟩ : ByteArray) ++ ⟨#[32]⟩ ++ ⟨b.toArray⟩ = ⟨(a ++ [32] ++ b).toArray⟩ := by
  rw [show (⟨#[32]⟩ : ByteArray) = ⟨[32].toArray⟩ from rfl, cat_bytes, cat_bytes]

theorem rowI (o : Opt) (ho : o.ok) (bo g : Nat) : ∀ i, i < 6 → ∃ X off n, RowI o bo g i X off n
  | 0, _ => ⟨⟨sEngine.toArray⟩, 0, o.e, rfl, rfl, rfl, ho.e, by decide, by decide +kernel, by rw [part_eq]; rfl⟩
  | 1, _ => ⟨⟨sBound.toArray⟩, 1, o.b, rfl, rfl, rfl, ho.b, by decide, by decide +kernel, by rw [part_eq]; rfl⟩
  | 2, _ => ⟨⟨sProp.toArray⟩, 2, o.p, rfl, rfl, rfl, ho.p, by decide, by decide +kernel, by rw [part_eq]; rfl⟩
  | 3, _ => ⟨⟨sFuel.toArray⟩, 4, o.f, rfl, rfl, rfl, ho.f, by decide, by decide +kernel, by rw [part_eq]; rfl⟩
  | 4, _ => ⟨⟨sUnit.toArray⟩, 5, o.u, rfl, rfl, rfl, ho.u, by decide, by decide +kernel, by rw [part_eq]; rfl⟩
  | 5, _ => ⟨⟨sKeep.toArray⟩, 6, o.k, rfl, rfl, rfl, ho.k, by decide, by decide +kernel, by rw [part_eq]; rfl⟩
  | n + 6, h => by omega

theorem pad16 {n k z : Nat} (h : n < 16 ^ k) (hz : z + k = 16) : (⟨(Lib.repeatL (⟨#[48]⟩ : ByteArray).data.toList z).toArray⟩ : ByteArray) ++ ⟨(hexN k n).toArray⟩ = ⟨(hexN 16 n).toArray⟩ := by
  rw [cat_bytes, ← hz, hexN_zeros z k _ h]
  congr 3
  show Lib.repeatL [48] z = _
  have key : ∀ z, Lib.repeatL [(48 : UInt8)] z = List.replicate z 48 := by
    intro z
    induction z with
    | zero => rfl
    | succ z ih => simp [Lib.repeatL, List.replicate_succ, ih]
  exact key z

theorem Own.ne {w : World} {base b : Nat} {e t : TypeId} {v : Value} {cs : List Value} {c : Array Value} (h : Own w base e v cs) (hB : Blk w b c t) (ht : e ≠ t) : v.ownBlock ≠ some b := by
  obtain ⟨-, ⟨rfl, -⟩ | ⟨g, cap, cur, rfl, -, hg, -⟩⟩ := h
  · simp [Value.ownBlock]
  · intro hj
    simp only [Value.ownBlock, Option.some.injEq] at hj
    subst hj
    rw [show w.heap[g]? = some (.cells c t (0, 0)) from hB] at hg
    injection hg with hg
    injection hg with _ h2 _
    exact ht h2.symm

theorem parts_join (o : Opt) : Lib.join ((partsB o).map (·.data.toList)) (⟨#[32]⟩ : ByteArray).data.toList = optT o := by
  rw [← optP_join]
  rfl

theorem optT_len {o : Opt} (h : o.ok) : (optT o).length ≤ 400 := by
  have h1 := itoaLen h.e.1 h.e.2
  have h2 := itoaLen h.b.1 h.b.2
  have h3 := itoaLen h.p.1 h.p.2
  have h4 := itoaLen h.f.1 h.f.2
  have h5 := itoaLen h.u.1 h.u.2
  have h6 := itoaLen h.k.1 h.k.2
  rw [optT_eq]
  simp only [List.length_append, hexN_length, sEngine, sBound, sProp, sSeed, sFuel, sUnit, sKeep, sDecay, sBump, List.length_cons, List.length_nil]
  omega

theorem take_snoc {L : List ByteArray} {n : Nat} {x : ByteArray} (h : L[n]? = some x) : L.take n ++ [x] = L.take (n + 1) := by
  rw [List.take_add_one, h]; rfl

set_option maxRecDepth 100000 in
set_option maxHeartbeats 8000000 in
theorem opts_Write (o : Opt) (w : World) (ho : o.ok) (ht : Tab w) (hz : Tz w) :
    Calls Tryd.prog 10 #[.agg (optV o)] w fun e w' => e = .returned (.string ⟨(optT o).toArray⟩) ∧ Kp (fun _ => False) w w' := by
  have HO := Lib.hid ho
  have HT := Lib.hid (And.intro ht hz)
  obtain ⟨wz, hwz⟩ : ∃ wz : World, wz = w.alloc (.cells (optV o) 25) := ⟨_, rfl⟩
  have HKz : Hid (Kp (fun _ => False) w wz) := Lib.hid (by rw [hwz]; exact (Kp.refl _ w).alloc _)
  have HXz : Hid (Blk wz w.heap.size (optV o) 25) := Lib.hid (by rw [hwz]; exact Blk.new w _ _)
  have HFirst := Lib.hid hwz
  clear hwz ho ht hz
  unfold optV at HFirst
  have hV : optV o = #[.int .i64 o.e, .int .i64 o.b, .int .i64 o.p, .int .u64 (o.s : Nat), .int .i64 o.f, .int .i64 o.u, .int .i64 o.k, .float .f64 o.d, .float .f64 o.m] := rfl
  rw [hV]
  have HV := Lib.hid hV
  clear hV
  go_enter Tryd.func10, Tryd.ntmps10
  go_upto_region 2 with fail
  rw [← HFirst.out]
  clear HFirst
  go_wp2_with fail
  refine (opts_numbers w.heap.size wz HXz.out.lt).mono ?_
  rintro e wn ⟨g, rfl, hg, hN, hK⟩
  have HN := Lib.hid hN
  have HX := Lib.hid (HXz.out.kp hK (fun h => h))
  have HK := Lib.hid (HKz.out.trans hK (fun _ _ h => h))
  clear hg hN hK HKz HXz
  go_wp2_with fail
  go_loopw [3, 9] (fun v3 v9 wr => ∃ i : Nat, v9 = .int .i64 i ∧ i ≤ 6 ∧ Own wr wn.heap.size 9 v3 (ostrs ((partsB o).take (cntW i))) ∧ Kp (fun _ => False) wn wr) (fun _ v9 _ => 6 - (intOf v9).toNat)
  case atStart => exact ⟨0, rfl, by omega, Own.nil _ _ _, Kp.refl _ _⟩
  case round =>
    obtain ⟨i, rfl, hi, hO, hK⟩ := hrel
    have HOi := Lib.hid hO
    have HKi := Lib.hid hK
    obtain ⟨wi, rfl⟩ : ∃ wi : World, wi = wr := ⟨_, rfl⟩
    clear hO hK
    by_cases hlt : i < 6
    · obtain ⟨X, off, n, hR⟩ := rowI o HO.out w.heap.size g i hlt
      have HR := Lib.hid hR
      have hNi := HN.out.kp HKi.out (fun h => h)
      have x0 := hNi.cell hR.x
      have x1 := hNi.cell hR.y
      have lg := hNi.lt
      have i0 : (0 : Int) ≤ (i : Int) := by omega
      have i1 : (i : Int) < 6 := by omega
      have i2 : decide ((i : Int) < 6) = true := decide_eq_true i1
      clear hR hNi hlt
      go_upto_region 5 with fail
      obtain ⟨wx, hwx⟩ : ∃ wx : World, wx = wi.alloc (.cells #[.string X, .pointer (some ⟨w.heap.size, off, none⟩)] 51) := ⟨_, rfl⟩
      obtain ⟨bx, hbx⟩ : ∃ bx, bx = wi.heap.size := ⟨_, rfl⟩
      have HBx : Hid (Blk wx bx #[.string X, .pointer (some ⟨w.heap.size, off, none⟩)] 51) := Lib.hid (by rw [hwx, hbx]; exact Blk.new _ _ _)
      have HOx : Hid (Own wx wn.heap.size 9 u3 (ostrs ((partsB o).take (cntW i)))) := Lib.hid (by rw [hwx]; exact HOi.out.alloc _)
      have HKx : Hid (Kp (fun _ => False) wn wx) := Lib.hid (by rw [hwx]; exact HKi.out.alloc _)
      have HLt : Hid (wn.heap.size ≤ bx ∧ ∀ j, u3.ownBlock = some j → j ≠ bx) := Lib.hid ⟨by rw [hbx]; exact HKi.out.size, fun j hj => by have := (HOi.out.lt j hj).2; omega⟩
      rw [show wi.alloc (.cells #[.string X, .pointer (some ⟨w.heap.size, off, none⟩)] 51) = wx from hwx.symm, show wi.heap.size = bx from hbx.symm]
      clear hwx hbx HOi HKi x0 x1 lg
      have x0 := HBx.out.cell (i := 0) (v := .string X) rfl
      have lx := HBx.out.lt
      by_cases h3 : i = 3
      · have hq : (X.toList == [102, 117, 101, 108]) = true := by rw [HR.out.f]; exact decide_eq_true h3
        have HC := Lib.hid (show cntW i = 3 ∧ cntM i = 4 by rw [h3]; exact ⟨rfl, rfl⟩)
        clear h3
        have y3 := (HX.out.kp HKx.out (fun h => h)).cell (i := 3) (v := .int .u64 (o.s : Nat)) rfl
        have HF := Lib.hid (FormatUint_16 o.s HO.out.s wx ((HT.out.2.kp HK.out).kp HKx.out))
        go_wp2_with fail
        refine HF.out.mono ?_
        rintro e w1 ⟨⟨k, h1, h2, h3, rfl⟩, hK1⟩
        obtain ⟨z, hz⟩ : ∃ z, z + k = 16 := ⟨16 - k, by omega⟩
        have hsub : (16 : Int) - (k : Int) = (z : Int) := by omega
        have hlen : (⟨(hexN k o.s).toArray⟩ : ByteArray).size = k := hexN_length k _
        have HRep := Lib.hid (fun u => Tryd.strings_Repeat ⟨#[48]⟩ z u (by omega) (by show 1 * z ≤ _; omega))
        have hsz : (⟨(Lib.repeatL (⟨#[48]⟩ : ByteArray).data.toList z).toArray⟩ : ByteArray).size = z := by
          show (Lib.repeatL [48] z).length = z
          rw [Lib.repeatL_length]; simp
        have HE := Lib.hid (pad16 h3 hz)
        obtain ⟨R, hR⟩ : ∃ R : ByteArray, R = ⟨(Lib.repeatL (⟨#[48]⟩ : ByteArray).data.toList z).toArray⟩ := ⟨_, rfl⟩
        obtain ⟨F, hF⟩ : ∃ F : ByteArray, F = ⟨(hexN k o.s).toArray⟩ := ⟨_, rfl⟩
        rw [← hR] at HE HRep hsz
        rw [← hF] at HE hlen ⊢
        have hcat1 : ¬ 9223372036854775807 < 5 + R.size := by omega
        have hcat2 : ¬ 9223372036854775807 < 5 + R.size + F.size := by omega
        have HKa := Lib.hid (HKx.out.trans hK1 (fun _ _ h => h))
        have HOa := Lib.hid (HOx.out.kp hK1 (fun _ _ h => h))
        have HBa := Lib.hid (HBx.out.kp hK1 (fun h => h))
        clear hR hF hsz h1 h2 h3 hK1 hz y3 HF x0
        go_wp2_with fail
        refine (HRep.out _).mono ?_
        rintro e w2 ⟨rfl, hb2⟩
        have hK2 : Kp (fun _ => False) w1 w2 := Kp.of_below hb2 _
        have HKb := Lib.hid (HKa.out.trans hK2 (fun _ _ h => h))
        have HOb := Lib.hid (HOa.out.kp hK2 (fun _ _ h => h))
        have HBb := Lib.hid (HBa.out.kp hK2 (fun h => h))
        clear hb2 hK2 HKa HOa HBa
        have hlb := HBb.out.lt
        go_wp2_with (at_builtin; refine wpList_append1 rfl _ _ 45 9 rfl Tryd.underlying45 ostrInfo rfl (HOb.out.alloc _) rfl ⟨w2.heap.size, 0, none⟩ (.string (⟨#[115, 101, 101, 100, 32]⟩ ++ R ++ F)) rfl ?c1 rfl ?c2 ?c3 ?c4 ?_)
        case c1 => simp
        case c2 => rw [ostrs_length, List.length_take, partsB_length]; omega
        case c3 => rw [ostrs_length, List.length_take, partsB_length]; unfold maxLen; omega
        case c4 => have := HKb.out.size; simp; omega
        intro v1 w3 hO3 hg3
        have hlo := fun j (e : u3.ownBlock = some j) => (HOb.out.lt j e).1
        have HKc := Lib.hid ((HKb.out.alloc (.cells #[.string (⟨#[115, 101, 101, 100, 32]⟩ ++ R ++ F)] 9)).grown hg3 (fun j hj hl => by have := hlo j hj; omega))
        have HBc := Lib.hid ((HBb.out.alloc (.cells #[.string (⟨#[115, 101, 101, 100, 32]⟩ ++ R ++ F)] 9)).kp ((Kp.refl (fun j => u3.ownBlock = some j) _).grown hg3 (fun j hj _ => hj)) (fun h => HLt.out.2 _ h rfl))
        have HRel := Lib.hid (show Own w3 wn.heap.size 9 v1 (ostrs ((partsB o).take (cntM i))) by
          rw [HC.out.2, ← take_snoc (n := 3) (x := ⟨#[115, 101, 101, 100, 32]⟩ ++ R ++ F) (by rw [ByteArray.append_assoc, HE.out]; show some _ = some _; rw [show (⟨#[115, 101, 101, 100, 32]⟩ : ByteArray) = ⟨(sSeed ++ [32]).toArray⟩ from rfl, cat_bytes])]
          rw [HC.out.1] at hO3
          unfold ostrs at hO3 ⊢
          rw [List.map_append]
          exact hO3)
        clear hO3 hg3 hlo
        have HOy := Lib.hid HRel.out
        have HBy := Lib.hid HBc.out
        have HKy := Lib.hid HKc.out
        clear HRel HBc HKc HKb HOb HBb
        have y0 := HBy.out.cell (i := 0) (v := .string X) rfl
        have hform := HOy.out.form
        obtain ⟨ay, cy, E3, -⟩ := hform
        rw [ostrs_length] at E3
        obtain ⟨ny, hny⟩ : ∃ ny, ((partsB o).take (cntM i)).length = ny := ⟨_, rfl⟩
        have hny9 : ny ≤ 9 := by rw [← hny, List.length_take, partsB_length]; omega
        rw [hny] at E3
        subst E3
        have HNy := Lib.hid (And.intro hny hny9)
        clear hny hny9
        have HD := Lib.hid (fun u (hu : Tab u) => octet_Dec n u HR.out.hn.1 HR.out.hn.2 hu)
        have hdl : (⟨(Lib.itoa n).toArray⟩ : ByteArray).size ≤ 21 := itoaLen HR.out.hn.1 HR.out.hn.2
        have HP := Lib.hid HR.out.p
        have hxs := HR.out.s
        obtain ⟨D, hD⟩ : ∃ D : ByteArray, D = ⟨(Lib.itoa n).toArray⟩ := ⟨_, rfl⟩
        rw [← hD] at HD HP hdl
        clear hD
        have hcat1 : ¬ 9223372036854775807 < X.size + 1 := by omega
        have hcat2 : ¬ 9223372036854775807 < X.size + 1 + D.size := by omega
        have HZ := Lib.hid HR.out.z
        go_upto_region 8 with fail
        have HCe := Lib.hid (fun u (hK : Kp (fun _ => False) w3 u) => show u.cell? ⟨bx, 0, none⟩ = some (.string X) ∧ u.cell? ⟨bx, 1, none⟩ = some (.pointer (some ⟨w.heap.size, off, none⟩)) ∧ u.cell? ⟨w.heap.size, off, none⟩ = some (.int .i64 n) from
          ⟨(HBy.out.kp hK (fun h => h)).cell rfl, (HBy.out.kp hK (fun h => h)).cell rfl, ((HX.out.kp HKy.out (fun h => h)).kp hK (fun h => h)).cell HZ.out⟩)
        clear hxs hdl
        go_region_held3 (fun u => u.cell? ⟨bx, 0, none⟩ = some (.string X) ∧ u.cell? ⟨bx, 1, none⟩ = some (.pointer (some ⟨w.heap.size, off, none⟩)) ∧ u.cell? ⟨w.heap.size, off, none⟩ = some (.int .i64 n)) (first | exact HCz.out | exact HCe.out _ (by repeat (first | (with_reducible exact Kp.refl _ _) | (with_reducible exact HKd.out) | (with_reducible apply Kp.alloc) | (with_reducible apply Kp.drew)))) ((first
          | ((with_reducible refine Calls.mono (HD.out _ (((HT.out.1.kp HK.out).kp HKy.out).kp (by repeat (first | (with_reducible exact Kp.refl _ _) | (with_reducible exact HKd.out) | (with_reducible apply Kp.alloc) | (with_reducible apply Kp.drew))))) ?_)
             rintro o1 u1 ⟨rfl, hK⟩
             have HKd := Lib.hid (Kp.trans (a := w3) (by repeat (first | (with_reducible exact Kp.refl _ _) | (with_reducible exact HKd.out) | (with_reducible apply Kp.alloc) | (with_reducible apply Kp.drew))) hK (fun _ _ h => h))
             clear hK)
          | (refine step_appendAllK (by rfl) _ _ 45 9 (by rfl) Tryd.underlying45 ostrInfo rfl (by decide) ((HOy.out.kp HKd.out (fun _ _ h => h)).alloc _).rows (by rfl) (some ⟨u1.heap.size, 0, none⟩) 1 1 [[.string (X ++ ⟨#[32]⟩ ++ D)]] (by rfl) (by simp) (by rfl) ((Blk.new u1 #[.string (X ++ ⟨#[32]⟩ ++ D)] 9).rowAt (n := 1) rfl) (by simp) (by simp [Value.oneCell']) (by rw [List.length_map, ostrs_length, HNy.out.1]; have := HNy.out.2; omega) (by rw [List.length_map, ostrs_length, HNy.out.1]; have := HNy.out.2; unfold maxLen; omega) (by have h1 := HKy.out.size; have h2 := HKd.out.size; simp; omega) ?_
             intro v1 w9 hO3 hg3 _
             have hO4 : Own w9 wn.heap.size 9 v1 (ostrs ((partsB o).take (cntM i)) ++ [.string (X ++ ⟨#[32]⟩ ++ D)]) := OwnK.row (by rw [List.map_append]; exact hO3)
             have HO4 := Lib.hid hO4
             have hlo := fun j (e : (Value.slice ay ny cy).ownBlock = some j) => (HOy.out.lt j e)
             have HK4 := Lib.hid (((HKy.out.trans HKd.out (fun _ _ h => h)).alloc (.cells #[.string (X ++ ⟨#[32]⟩ ++ D)] 9)).grown hg3 (fun j hj hl => by have := (hlo j hj).1; omega))
             have HCz := Lib.hid (show w9.cell? ⟨bx, 0, none⟩ = some (.string X) ∧ w9.cell? ⟨bx, 1, none⟩ = some (.pointer (some ⟨w.heap.size, off, none⟩)) ∧ w9.cell? ⟨w.heap.size, off, none⟩ = some (.int .i64 n) from by
               have hB4 := ((HBy.out.kp HKd.out (fun h => h)).alloc (.cells #[.string (X ++ ⟨#[32]⟩ ++ D)] 9)).kp ((Kp.refl (fun j => (Value.slice ay ny cy).ownBlock = some j) _).grown hg3 (fun j hj _ => hj)) (fun h => HOy.out.ne HBy.out (by decide) h)
               exact ⟨hB4.cell rfl, hB4.cell rfl, (HX.out.kp HK4.out (fun h => h)).cell HZ.out⟩)
             clear hO3 hO4 hg3 hlo)))
        all_goals go_wp2_with fail
        all_goals
          have HRel := Lib.hid (show Own w9 wn.heap.size 9 v1 (ostrs ((partsB o).take (cntW (i + 1)))) by
            rw [show cntW (i + 1) = cntM i + 1 by unfold cntW cntM; split <;> split <;> omega, ← take_snoc HP.out]
            have h := HO4.out
            unfold ostrs at h ⊢
            rw [List.map_append]
            exact h)
        all_goals go_roundw
        all_goals first
          | (case rel => exact ⟨i + 1, by go_num, by omega, HRel.out, HK4.out⟩)
          | (case rel => exact ⟨i + 1, by go_num, by omega, HRel.out, HK4.out.drew⟩)
          | (case measure => simp [intOf]; omega)
      · have hq : (X.toList == [102, 117, 101, 108]) = false := by rw [HR.out.f]; exact decide_eq_false h3
        have HC := Lib.hid (show cntW i = cntM i by unfold cntW cntM; split <;> split <;> omega)
        clear h3
        have HOy := Lib.hid (HC.out ▸ HOx.out)
        have HBy := HBx
        have HKy := HKx
        have hform := HOy.out.form
        obtain ⟨ay, cy, E3, -⟩ := hform
        rw [ostrs_length] at E3
        obtain ⟨ny, hny⟩ : ∃ ny, ((partsB o).take (cntM i)).length = ny := ⟨_, rfl⟩
        have hny9 : ny ≤ 9 := by rw [← hny, List.length_take, partsB_length]; omega
        rw [hny] at E3
        subst E3
        have HNy := Lib.hid (And.intro hny hny9)
        clear hny hny9
        have HD := Lib.hid (fun u (hu : Tab u) => octet_Dec n u HR.out.hn.1 HR.out.hn.2 hu)
        have hdl : (⟨(Lib.itoa n).toArray⟩ : ByteArray).size ≤ 21 := itoaLen HR.out.hn.1 HR.out.hn.2
        have HP := Lib.hid HR.out.p
        have hxs := HR.out.s
        obtain ⟨D, hD⟩ : ∃ D : ByteArray, D = ⟨(Lib.itoa n).toArray⟩ := ⟨_, rfl⟩
        rw [← hD] at HD HP hdl
        clear hD
        have hcat1 : ¬ 9223372036854775807 < X.size + 1 := by omega
        have hcat2 : ¬ 9223372036854775807 < X.size + 1 + D.size := by omega
        have HZ := Lib.hid HR.out.z
        go_upto_region 8 with fail
        have HCe := Lib.hid (fun u (hK : Kp (fun _ => False) wx u) => show u.cell? ⟨bx, 0, none⟩ = some (.string X) ∧ u.cell? ⟨bx, 1, none⟩ = some (.pointer (some ⟨w.heap.size, off, none⟩)) ∧ u.cell? ⟨w.heap.size, off, none⟩ = some (.int .i64 n) from
          ⟨(HBy.out.kp hK (fun h => h)).cell rfl, (HBy.out.kp hK (fun h => h)).cell rfl, ((HX.out.kp HKy.out (fun h => h)).kp hK (fun h => h)).cell HZ.out⟩)
        clear hxs hdl
        go_region_held3 (fun u => u.cell? ⟨bx, 0, none⟩ = some (.string X) ∧ u.cell? ⟨bx, 1, none⟩ = some (.pointer (some ⟨w.heap.size, off, none⟩)) ∧ u.cell? ⟨w.heap.size, off, none⟩ = some (.int .i64 n)) (first | exact HCz.out | exact HCe.out _ (by repeat (first | (with_reducible exact Kp.refl _ _) | (with_reducible exact HKd.out) | (with_reducible apply Kp.alloc) | (with_reducible apply Kp.drew)))) ((first
          | ((with_reducible refine Calls.mono (HD.out _ (((HT.out.1.kp HK.out).kp HKy.out).kp (by repeat (first | (with_reducible exact Kp.refl _ _) | (with_reducible exact HKd.out) | (with_reducible apply Kp.alloc) | (with_reducible apply Kp.drew))))) ?_)
             rintro o1 u1 ⟨rfl, hK⟩
             have HKd := Lib.hid (Kp.trans (a := wx) (by repeat (first | (with_reducible exact Kp.refl _ _) | (with_reducible exact HKd.out) | (with_reducible apply Kp.alloc) | (with_reducible apply Kp.drew))) hK (fun _ _ h => h))
             clear hK)
          | (refine step_appendAllK (by rfl) _ _ 45 9 (by rfl) Tryd.underlying45 ostrInfo rfl (by decide) ((HOy.out.kp HKd.out (fun _ _ h => h)).alloc _).rows (by rfl) (some ⟨u1.heap.size, 0, none⟩) 1 1 [[.string (X ++ ⟨#[32]⟩ ++ D)]] (by rfl) (by simp) (by rfl) ((Blk.new u1 #[.string (X ++ ⟨#[32]⟩ ++ D)] 9).rowAt (n := 1) rfl) (by simp) (by simp [Value.oneCell']) (by rw [List.length_map, ostrs_length, HNy.out.1]; have := HNy.out.2; omega) (by rw [List.length_map, ostrs_length, HNy.out.1]; have := HNy.out.2; unfold maxLen; omega) (by have h1 := HKy.out.size; have h2 := HKd.out.size; simp; omega) ?_
             intro v1 w9 hO3 hg3 _
             have hO4 : Own w9 wn.heap.size 9 v1 (ostrs ((partsB o).take (cntM i)) ++ [.string (X ++ ⟨#[32]⟩ ++ D)]) := OwnK.row (by rw [List.map_append]; exact hO3)
             have HO4 := Lib.hid hO4
             have hlo := fun j (e : (Value.slice ay ny cy).ownBlock = some j) => (HOy.out.lt j e)
             have HK4 := Lib.hid (((HKy.out.trans HKd.out (fun _ _ h => h)).alloc (.cells #[.string (X ++ ⟨#[32]⟩ ++ D)] 9)).grown hg3 (fun j hj hl => by have := (hlo j hj).1; omega))
             have HCz := Lib.hid (show w9.cell? ⟨bx, 0, none⟩ = some (.string X) ∧ w9.cell? ⟨bx, 1, none⟩ = some (.pointer (some ⟨w.heap.size, off, none⟩)) ∧ w9.cell? ⟨w.heap.size, off, none⟩ = some (.int .i64 n) from by
               have hB4 := ((HBy.out.kp HKd.out (fun h => h)).alloc (.cells #[.string (X ++ ⟨#[32]⟩ ++ D)] 9)).kp ((Kp.refl (fun j => (Value.slice ay ny cy).ownBlock = some j) _).grown hg3 (fun j hj _ => hj)) (fun h => HOy.out.ne HBy.out (by decide) h)
               exact ⟨hB4.cell rfl, hB4.cell rfl, (HX.out.kp HK4.out (fun h => h)).cell HZ.out⟩)
             clear hO3 hO4 hg3 hlo)))
        all_goals go_wp2_with fail
        all_goals
          have HRel := Lib.hid (show Own w9 wn.heap.size 9 v1 (ostrs ((partsB o).take (cntW (i + 1)))) by
            rw [show cntW (i + 1) = cntM i + 1 by unfold cntW cntM; split <;> split <;> omega, ← take_snoc HP.out]
            have h := HO4.out
            unfold ostrs at h ⊢
            rw [List.map_append]
            exact h)
        all_goals go_roundw
        all_goals first
          | (case rel => exact ⟨i + 1, by go_num, by omega, HRel.out, HK4.out⟩)
          | (case rel => exact ⟨i + 1, by go_num, by omega, HRel.out, HK4.out.drew⟩)
          | (case measure => simp [intOf]; omega)
    · have i2 : decide ((i : Int) < 6) = false := by simp; omega
      have h6 : i = 6 := by omega
      subst h6
      obtain ⟨a7, c7, E7, -⟩ := HOi.out.form
      rw [ostrs_length, show ((partsB o).take (cntW 6)).length = 7 from rfl] at E7
      subst E7
      have HD := Lib.hid (fun u (hu : Tz u) => score_Text o.d HO.out.d u hu)
      have HM := Lib.hid (fun u (hu : Tz u) => score_Text o.m HO.out.m u hu)
      have ld : (⟨(hexN 16 (canon o.d)).toArray⟩ : ByteArray).size = 16 := hexN_length 16 _
      have lm : (⟨(hexN 16 (canon o.m)).toArray⟩ : ByteArray).size = 16 := hexN_length 16 _
      have HP := Lib.hid (show ostrs ((partsB o).take 7) ++ [.string (⟨#[100, 101, 99, 97, 121, 32]⟩ ++ ⟨(hexN 16 (canon o.d)).toArray⟩), .string (⟨#[98, 117, 109, 112, 32]⟩ ++ ⟨(hexN 16 (canon o.m)).toArray⟩)] = ostrs (partsB o) by
        rw [show (⟨#[100, 101, 99, 97, 121, 32]⟩ : ByteArray) = ⟨(sDecay ++ [32]).toArray⟩ from rfl, show (⟨#[98, 117, 109, 112, 32]⟩ : ByteArray) = ⟨(sBump ++ [32]).toArray⟩ from rfl, cat_bytes, cat_bytes]
        rfl)
      have HL := Lib.hid (optT_len HO.out)
      obtain ⟨xD, hD⟩ : ∃ x : ByteArray, x = ⟨(hexN 16 (canon o.d)).toArray⟩ := ⟨_, rfl⟩
      obtain ⟨xM, hM⟩ : ∃ x : ByteArray, x = ⟨(hexN 16 (canon o.m)).toArray⟩ := ⟨_, rfl⟩
      rw [← hD] at HD HP ld
      rw [← hM] at HM HP lm
      clear hD hM i2
      have hc1 : ¬ 9223372036854775807 < 6 + xD.size := by omega
      have hc2 : ¬ 9223372036854775807 < 5 + xM.size := by omega
      clear ld lm hi
      have i3 : decide ((6 : Int) < 6) = false := by decide
      go_upto_region 10 with fail
      have HCe := Lib.hid (fun u (hK : Kp (fun _ => False) wi u) => show u.cell? ⟨w.heap.size, 7, none⟩ = some (.float .f64 o.d) ∧ u.cell? ⟨w.heap.size, 8, none⟩ = some (.float .f64 o.m) from
        ⟨((HX.out.kp HKi.out (fun h => h)).kp hK (fun h => h)).cell rfl, ((HX.out.kp HKi.out (fun h => h)).kp hK (fun h => h)).cell rfl⟩)
      go_region_held3 (fun u => u.cell? ⟨w.heap.size, 7, none⟩ = some (.float .f64 o.d) ∧ u.cell? ⟨w.heap.size, 8, none⟩ = some (.float .f64 o.m)) (first | exact HCj.out | exact HCz.out | exact HCe.out _ (by repeat (first | (with_reducible exact Kp.refl _ _) | (with_reducible exact HKd.out) | (with_reducible apply Kp.alloc) | (with_reducible apply Kp.drew)))) ((first
        | ((with_reducible refine Calls.mono (HD.out _ (((HT.out.2.kp HK.out).kp HKi.out).kp (by repeat (first | (with_reducible exact Kp.refl _ _) | (with_reducible exact HKd.out) | (with_reducible apply Kp.alloc) | (with_reducible apply Kp.drew))))) ?_)
           rintro o1 u1 ⟨rfl, hK⟩
           have HKd := Lib.hid (Kp.trans (a := wi) (by repeat (first | (with_reducible exact Kp.refl _ _) | (with_reducible exact HKd.out) | (with_reducible apply Kp.alloc) | (with_reducible apply Kp.drew))) hK (fun _ _ h => h))
           clear hK)
        | ((with_reducible refine Calls.mono (HM.out _ (((HT.out.2.kp HK.out).kp HKi.out).kp (by repeat (first | (with_reducible exact Kp.refl _ _) | (with_reducible exact HKd.out) | (with_reducible apply Kp.alloc) | (with_reducible apply Kp.drew))))) ?_)
           rintro o1 u1 ⟨rfl, hK⟩
           have HKd := Lib.hid (Kp.trans (a := wi) (by repeat (first | (with_reducible exact Kp.refl _ _) | (with_reducible exact HKd.out) | (with_reducible apply Kp.alloc) | (with_reducible apply Kp.drew))) hK (fun _ _ h => h))
           clear hK)
        | ((with_reducible refine Calls.mono HJn.out ?_)
           rintro o1 u2 ⟨rfl, hb⟩
           have hK : Kp (fun _ => False) w9 u2 := Kp.of_below hb _
           have HKj := Lib.hid (HK4.out.trans hK (fun _ _ h => h))
           have HCj := Lib.hid (show u2.cell? ⟨w.heap.size, 7, none⟩ = some (.float .f64 o.d) ∧ u2.cell? ⟨w.heap.size, 8, none⟩ = some (.float .f64 o.m) from ⟨(HX.out.kp HKj.out (fun h => h)).cell rfl, (HX.out.kp HKj.out (fun h => h)).cell rfl⟩)
           clear hK hb)
        | (refine step_appendAllK (by rfl) _ _ 45 9 (by rfl) Tryd.underlying45 ostrInfo rfl (by decide) ((HOi.out.kp HKd.out (fun _ _ h => h)).alloc _).rows (by rfl) (some ⟨u1.heap.size, 0, none⟩) 2 2 [[.string (⟨#[100, 101, 99, 97, 121, 32]⟩ ++ xD)], [.string (⟨#[98, 117, 109, 112, 32]⟩ ++ xM)]] (by rfl) (by simp) (by rfl) ((Blk.new u1 #[.string (⟨#[100, 101, 99, 97, 121, 32]⟩ ++ xD), .string (⟨#[98, 117, 109, 112, 32]⟩ ++ xM)] 9).rowAt (n := 2) rfl) (by simp) (by simp [Value.oneCell']) (by rw [List.length_map, ostrs_length, show ((partsB o).take (cntW 6)).length = 7 from rfl]; omega) (by rw [List.length_map, ostrs_length, show ((partsB o).take (cntW 6)).length = 7 from rfl]; unfold maxLen; omega) (by have h1 := HKi.out.size; have h2 := HKd.out.size; simp; omega) ?_
           intro v1 w9 hO3 hg3 _
           have hO4 : Own w9 wn.heap.size 9 v1 (ostrs (partsB o)) := by
             rw [← HP.out]
             exact OwnK.row (by rw [List.map_append]; exact hO3)
           obtain ⟨gz, cz, hv, hz1, hz2⟩ := hO4.leads (by rw [ostrs_length, partsB_length]; omega)
           rw [ostrs_length, partsB_length] at hv
           subst hv
           have hcap : 9 ≤ cz := by
             obtain ⟨_, _, he, hcc, _⟩ := hO4.form
             rw [ostrs_length, partsB_length] at he hcc
             simp only [Value.slice.injEq] at he
             omega
           have hlo := fun j (e : (Value.slice a7 7 c7).ownBlock = some j) => (HOi.out.lt j e)
           have HK4 := Lib.hid (((HKi.out.trans HKd.out (fun _ _ h => h)).alloc (.cells #[.string (⟨#[100, 101, 99, 97, 121, 32]⟩ ++ xD), .string (⟨#[98, 117, 109, 112, 32]⟩ ++ xM)] 9)).grown hg3 (fun j hj hl => by have := (hlo j hj).1; omega))
           have HCz := Lib.hid (show w9.cell? ⟨w.heap.size, 7, none⟩ = some (.float .f64 o.d) ∧ w9.cell? ⟨w.heap.size, 8, none⟩ = some (.float .f64 o.m) from ⟨(HX.out.kp HK4.out (fun h => h)).cell rfl, (HX.out.kp HK4.out (fun h => h)).cell rfl⟩)
           have HJn := Lib.hid (show Calls Tryd.prog 31 #[.slice (some ⟨gz, 0, none⟩) 9 cz, .string ⟨#[32]⟩] w9 fun e w' => e = .returned (.string ⟨(optT o).toArray⟩) ∧ Below w9.heap.size w9 w' from by
             have h := Tryd.strings_Join gz 0 cz (partsB o) ⟨#[32]⟩ w9 (fun j x hx => by rw [Nat.zero_add]; exact hO4.cell (by simp [ostrs, hx])) hz2 (by rw [partsB_length]; omega) (by rw [partsB_length]; exact hcap) (by rw [parts_join]; have := HL.out; omega)
             rw [parts_join, partsB_length] at h
             exact h)
           clear hO3 hO4 hg3 hlo hz1 hz2 hcap)))
      all_goals go_wp2_with fail
      all_goals go_ret
      all_goals exact ⟨rfl, by first | exact HK.out.trans HKj.out (fun _ _ h => h) | exact (HK.out.trans HKj.out (fun _ _ h => h)).drew⟩

end Go.Proofs.YtpihfgpgdjjfhaaDoor

/-
  The library's contracts at this dump, as the kit's own tool lays them.
-/
namespace Go.Proofs
open Go.Shelf
def Tryd.laysC245_ren : Go.Shelf.Ren := ⟨fun | 245 => 37 | 279 => 53 | 280 => 54 | 281 => 55 | 282 => 56 | 316 => 74 | 171 => 50 | 205 => 75 | 243 => 70 | 246 => 84 | 283 => 61 | 284 => 62 | 285 => 63 | 286 => 64 | 129 => 78 | 317 => 77 | 318 => 79 | 319 => 80 | 320 => 81 | 337 => 89 | 338 => 90 | n => n, fun | 9 => 9 | 3 => 3 | 75 => 53 | 167 => 89 | 4 => 4 | 168 => 92 | 210 => 112 | 37 => 78 | 0 => 0 | 127 => 107 | 145 => 128 | 143 => 126 | 2 => 2 | 171 => 97 | 53 => 22 | 5 => 5 | 173 => 100 | 212 => 116 | 51 => 102 | 20 => 20 | 213 => 117 | 46 => 76 | 232 => 130 | 233 => 131 | 80 => 87 | n => n, fun | 15 => 1 | 16 => 2 | 17 => 3 | 18 => 5 | 19 => 6 | n => n⟩
theorem Tryd.laysC245 : Go.Proofs.LaysC.n245 Tryd.prog Tryd.laysC245_ren := {
  mixed := by kernel_rfl
  f129 := Tryd.func78.trans (congrArg some (by kernel_rfl))
  f171 := Tryd.func50.trans (congrArg some (by kernel_rfl))
  f205 := Tryd.func75.trans (congrArg some (by kernel_rfl))
  f243 := Tryd.func70.trans (congrArg some (by kernel_rfl))
  f245 := Tryd.func37.trans (congrArg some (by kernel_rfl))
  f246 := Tryd.func84.trans (congrArg some (by kernel_rfl))
  f279 := Tryd.func53.trans (congrArg some (by kernel_rfl))
  f280 := Tryd.func54.trans (congrArg some (by kernel_rfl))
  f281 := Tryd.func55.trans (congrArg some (by kernel_rfl))
  f282 := Tryd.func56.trans (congrArg some (by kernel_rfl))
  f283 := Tryd.func61.trans (congrArg some (by kernel_rfl))
  f284 := Tryd.func62.trans (congrArg some (by kernel_rfl))
  f285 := Tryd.func63.trans (congrArg some (by kernel_rfl))
  f286 := Tryd.func64.trans (congrArg some (by kernel_rfl))
  f316 := Tryd.func74.trans (congrArg some (by kernel_rfl))
  f317 := Tryd.func77.trans (congrArg some (by kernel_rfl))
  f318 := Tryd.func79.trans (congrArg some (by kernel_rfl))
  f319 := Tryd.func80.trans (congrArg some (by kernel_rfl))
  f320 := Tryd.func81.trans (congrArg some (by kernel_rfl))
  f337 := Tryd.func89.trans (congrArg some (by kernel_rfl))
  f338 := Tryd.func90.trans (congrArg some (by kernel_rfl))
  t0 := Tryd.underlying0
  a0 := Tryd.isAgg0
  z0 := Tryd.sizeOf0
  v0 := Tryd.zeroValue0
  t2 := Tryd.underlying2
  a2 := Tryd.isAgg2
  z2 := Tryd.sizeOf2
  v2 := Tryd.zeroValue2
  t3 := Tryd.underlying3
  a3 := Tryd.isAgg3
  z3 := Tryd.sizeOf3
  v3 := Tryd.zeroValue3
  t4 := Tryd.underlying4
  a4 := Tryd.isAgg4
  z4 := Tryd.sizeOf4
  v4 := Tryd.zeroValue4
  t5 := Tryd.underlying5
  a5 := Tryd.isAgg5
  z5 := Tryd.sizeOf5
  v5 := Tryd.zeroValue5
  t9 := Tryd.underlying9
  a9 := Tryd.isAgg9
  z9 := Tryd.sizeOf9
  v9 := Tryd.zeroValue9
  t20 := Tryd.underlying20
  a20 := Tryd.isAgg20
  z20 := Tryd.sizeOf20
  v20 := Tryd.zeroValue20
  t37 := Tryd.underlying78
  a37 := Tryd.isAgg78
  z37 := Tryd.sizeOf78
  v37 := Tryd.zeroValue78
  t46 := Tryd.underlying76
  a46 := Tryd.isAgg76
  z46 := Tryd.sizeOf76
  v46 := Tryd.zeroValue76
  t51 := Tryd.underlying102
  a51 := Tryd.isAgg102
  z51 := Tryd.sizeOf102
  v51 := Tryd.zeroValue102
  t53 := Tryd.underlying22
  a53 := Tryd.isAgg22
  z53 := Tryd.sizeOf22
  v53 := Tryd.zeroValue22
  t75 := Tryd.underlying53
  a75 := Tryd.isAgg53
  z75 := Tryd.sizeOf53
  v75 := Tryd.zeroValue53
  t127 := Tryd.underlying107
  a127 := Tryd.isAgg107
  z127 := Tryd.sizeOf107
  v127 := Tryd.zeroValue107
  t143 := Tryd.underlying126
  a143 := Tryd.isAgg126
  z143 := Tryd.sizeOf126
  v143 := Tryd.zeroValue126
  t145 := Tryd.underlying128
  a145 := Tryd.isAgg128
  z145 := Tryd.sizeOf128
  v145 := Tryd.zeroValue128
  t167 := Tryd.underlying89
  a167 := Tryd.isAgg89
  z167 := Tryd.sizeOf89
  v167 := Tryd.zeroValue89
  t168 := Tryd.underlying92
  a168 := Tryd.isAgg92
  z168 := Tryd.sizeOf92
  v168 := Tryd.zeroValue92
  t171 := Tryd.underlying97
  a171 := Tryd.isAgg97
  z171 := Tryd.sizeOf97
  v171 := Tryd.zeroValue97
  t173 := Tryd.underlying100
  a173 := Tryd.isAgg100
  z173 := Tryd.sizeOf100
  v173 := Tryd.zeroValue100
  t210 := Tryd.underlying112
  a210 := Tryd.isAgg112
  z210 := Tryd.sizeOf112
  v210 := Tryd.zeroValue112
  t212 := Tryd.underlying116
  a212 := Tryd.isAgg116
  z212 := Tryd.sizeOf116
  v212 := Tryd.zeroValue116
  t213 := Tryd.underlying117
  a213 := Tryd.isAgg117
  z213 := Tryd.sizeOf117
  t232 := Tryd.underlying130
  a232 := Tryd.isAgg130
  z232 := Tryd.sizeOf130
  v232 := Tryd.zeroValue130
  t233 := Tryd.underlying131
  a233 := Tryd.isAgg131
  z233 := Tryd.sizeOf131
  v233 := Tryd.zeroValue131
  g15 := by kernel_rfl
  g16 := by kernel_rfl
  g17 := by kernel_rfl
  g18 := by kernel_rfl
  g19 := by kernel_rfl
  t80 := Tryd.underlying87
  a80 := Tryd.isAgg87
  z80 := Tryd.sizeOf87
  v80 := Tryd.zeroValue87
  i0 := by kernel_rfl
  i2 := by kernel_rfl
  i3 := by kernel_rfl
  i4 := by kernel_rfl
  i5 := by kernel_rfl
  i9 := by kernel_rfl
  i20 := by kernel_rfl
  i37 := by kernel_rfl
  i46 := by kernel_rfl
  i51 := by kernel_rfl
  i53 := by kernel_rfl
  i75 := by kernel_rfl
  i80 := by kernel_rfl
  i127 := by kernel_rfl
  i143 := by kernel_rfl
  i145 := by kernel_rfl
  i167 := by kernel_rfl
  i168 := by kernel_rfl
  i171 := by kernel_rfl
  i173 := by kernel_rfl
  i210 := by kernel_rfl
  i212 := by kernel_rfl
  i232 := by kernel_rfl
  i233 := by kernel_rfl
  m15 := by kernel_rfl
  m16 := by kernel_rfl
  m17 := by kernel_rfl
  m18 := by kernel_rfl
  m19 := by kernel_rfl
  c0 := by kernel_rfl
  c2 := by kernel_rfl
  c3 := by kernel_rfl
  c4 := by kernel_rfl
  c5 := by kernel_rfl
  c9 := by kernel_rfl
  c20 := by kernel_rfl
  c37 := by kernel_rfl
  c46 := by kernel_rfl
  c51 := by kernel_rfl
  c53 := by kernel_rfl
  c75 := by kernel_rfl
  c80 := by kernel_rfl
  c127 := by kernel_rfl
  c143 := by kernel_rfl
  c145 := by kernel_rfl
  c167 := by kernel_rfl
  c168 := by kernel_rfl
  c171 := by kernel_rfl
  c173 := by kernel_rfl
  c210 := by kernel_rfl
  c212 := by kernel_rfl
  c213 := by kernel_rfl
  c232 := by kernel_rfl
  c233 := by kernel_rfl }
open Go.RowKit in
theorem Tryd.strconv_toError_syntax (fn s : ByteArray) (base bits : Int) (ev : Value) (w : World) (hlim : s.size ≤ 281474976710656) (hv : w.cell? ⟨1, 0, none⟩ = some ev) (hev : ev = .nilIface ∨ ∃ te pe, ev = .iface te pe) :
    Calls Tryd.prog 37 #[.string fn, .string s, .int .i64 base, .int .i64 bits, .iface 89 (.int .i64 2)] w fun e w' => ∃ N, e = .returned (.iface 92 (.pointer (some ⟨N, 0, none⟩))) ∧ w.heap.size ≤ N ∧ w'.heap[N]? = some (.cells #[.string fn, .string s, ev] 112 (0, 0)) ∧ Below w.heap.size w w' := Any.strconv_toError_syntax Tryd.laysC245 fn s base bits ev w hlim hv hev
open Go.RowKit in
theorem Tryd.strconv_toError_range (fn s : ByteArray) (base bits : Int) (ev : Value) (w : World) (hlim : s.size ≤ 281474976710656) (hv : w.cell? ⟨2, 0, none⟩ = some ev) (hev : ev = .nilIface ∨ ∃ te pe, ev = .iface te pe) :
    Calls Tryd.prog 37 #[.string fn, .string s, .int .i64 base, .int .i64 bits, .iface 89 (.int .i64 1)] w fun e w' => ∃ N, e = .returned (.iface 92 (.pointer (some ⟨N, 0, none⟩))) ∧ w.heap.size ≤ N ∧ w'.heap[N]? = some (.cells #[.string fn, .string s, ev] 112 (0, 0)) ∧ Below w.heap.size w w' := Any.strconv_toError_range Tryd.laysC245 fn s base bits ev w hlim hv hev
def Tryd.laysC172_ren : Go.Shelf.Ren := ⟨fun | 172 => 17 | 244 => 36 | 245 => 37 | 247 => 52 | 279 => 53 | 280 => 54 | 281 => 55 | 282 => 56 | 287 => 38 | 316 => 74 | 171 => 50 | 205 => 75 | 321 => 57 | 322 => 58 | 243 => 70 | 246 => 84 | 283 => 61 | 284 => 62 | 285 => 63 | 286 => 64 | 129 => 78 | 317 => 77 | 318 => 79 | 319 => 80 | 320 => 81 | 337 => 89 | 338 => 90 | n => n, fun | 9 => 9 | 3 => 3 | 75 => 53 | 76 => 54 | 4 => 4 | 5 => 5 | 167 => 89 | 37 => 78 | 0 => 0 | 85 => 90 | 2 => 2 | 168 => 92 | 53 => 22 | 175 => 56 | 46 => 76 | 210 => 112 | 127 => 107 | 145 => 128 | 143 => 126 | 21 => 21 | 171 => 97 | 173 => 100 | 212 => 116 | 51 => 102 | 20 => 20 | 213 => 117 | 232 => 130 | 233 => 131 | 80 => 87 | n => n, fun | 15 => 1 | 16 => 2 | 17 => 3 | 18 => 5 | 19 => 6 | n => n⟩
theorem Tryd.laysC172 : Go.Proofs.LaysC.n172 Tryd.prog Tryd.laysC172_ren := {
  mixed := by kernel_rfl
  f129 := Tryd.func78.trans (congrArg some (by kernel_rfl))
  f171 := Tryd.func50.trans (congrArg some (by kernel_rfl))
  f172 := Tryd.func17.trans (congrArg some (by kernel_rfl))
  f205 := Tryd.func75.trans (congrArg some (by kernel_rfl))
  f243 := Tryd.func70.trans (congrArg some (by kernel_rfl))
  f244 := Tryd.func36.trans (congrArg some (by kernel_rfl))
  f245 := Tryd.func37.trans (congrArg some (by kernel_rfl))
  f246 := Tryd.func84.trans (congrArg some (by kernel_rfl))
  f247 := Tryd.func52.trans (congrArg some (by kernel_rfl))
  f279 := Tryd.func53.trans (congrArg some (by kernel_rfl))
  f280 := Tryd.func54.trans (congrArg some (by kernel_rfl))
  f281 := Tryd.func55.trans (congrArg some (by kernel_rfl))
  f282 := Tryd.func56.trans (congrArg some (by kernel_rfl))
  f283 := Tryd.func61.trans (congrArg some (by kernel_rfl))
  f284 := Tryd.func62.trans (congrArg some (by kernel_rfl))
  f285 := Tryd.func63.trans (congrArg some (by kernel_rfl))
  f286 := Tryd.func64.trans (congrArg some (by kernel_rfl))
  f287 := Tryd.func38.trans (congrArg some (by kernel_rfl))
  f316 := Tryd.func74.trans (congrArg some (by kernel_rfl))
  f317 := Tryd.func77.trans (congrArg some (by kernel_rfl))
  f318 := Tryd.func79.trans (congrArg some (by kernel_rfl))
  f319 := Tryd.func80.trans (congrArg some (by kernel_rfl))
  f320 := Tryd.func81.trans (congrArg some (by kernel_rfl))
  f321 := Tryd.func57.trans (congrArg some (by kernel_rfl))
  f322 := Tryd.func58.trans (congrArg some (by kernel_rfl))
  f337 := Tryd.func89.trans (congrArg some (by kernel_rfl))
  f338 := Tryd.func90.trans (congrArg some (by kernel_rfl))
  t0 := Tryd.underlying0
  a0 := Tryd.isAgg0
  z0 := Tryd.sizeOf0
  v0 := Tryd.zeroValue0
  t2 := Tryd.underlying2
  a2 := Tryd.isAgg2
  z2 := Tryd.sizeOf2
  v2 := Tryd.zeroValue2
  t3 := Tryd.underlying3
  a3 := Tryd.isAgg3
  z3 := Tryd.sizeOf3
  v3 := Tryd.zeroValue3
  t4 := Tryd.underlying4
  a4 := Tryd.isAgg4
  z4 := Tryd.sizeOf4
  v4 := Tryd.zeroValue4
  t5 := Tryd.underlying5
  a5 := Tryd.isAgg5
  z5 := Tryd.sizeOf5
  v5 := Tryd.zeroValue5
  t9 := Tryd.underlying9
  a9 := Tryd.isAgg9
  z9 := Tryd.sizeOf9
  v9 := Tryd.zeroValue9
  t20 := Tryd.underlying20
  a20 := Tryd.isAgg20
  z20 := Tryd.sizeOf20
  v20 := Tryd.zeroValue20
  t21 := Tryd.underlying21
  a21 := Tryd.isAgg21
  z21 := Tryd.sizeOf21
  v21 := Tryd.zeroValue21
  t37 := Tryd.underlying78
  a37 := Tryd.isAgg78
  z37 := Tryd.sizeOf78
  v37 := Tryd.zeroValue78
  t46 := Tryd.underlying76
  a46 := Tryd.isAgg76
  z46 := Tryd.sizeOf76
  v46 := Tryd.zeroValue76
  t51 := Tryd.underlying102
  a51 := Tryd.isAgg102
  z51 := Tryd.sizeOf102
  v51 := Tryd.zeroValue102
  t53 := Tryd.underlying22
  a53 := Tryd.isAgg22
  z53 := Tryd.sizeOf22
  v53 := Tryd.zeroValue22
  t75 := Tryd.underlying53
  a75 := Tryd.isAgg53
  z75 := Tryd.sizeOf53
  v75 := Tryd.zeroValue53
  t76 := Tryd.underlying54
  a76 := Tryd.isAgg54
  z76 := Tryd.sizeOf54
  v76 := Tryd.zeroValue54
  t85 := Tryd.underlying90
  a85 := Tryd.isAgg90
  z85 := Tryd.sizeOf90
  v85 := Tryd.zeroValue90
  t127 := Tryd.underlying107
  a127 := Tryd.isAgg107
  z127 := Tryd.sizeOf107
  v127 := Tryd.zeroValue107
  t143 := Tryd.underlying126
  a143 := Tryd.isAgg126
  z143 := Tryd.sizeOf126
  v143 := Tryd.zeroValue126
  t145 := Tryd.underlying128
  a145 := Tryd.isAgg128
  z145 := Tryd.sizeOf128
  v145 := Tryd.zeroValue128
  t167 := Tryd.underlying89
  a167 := Tryd.isAgg89
  z167 := Tryd.sizeOf89
  v167 := Tryd.zeroValue89
  t168 := Tryd.underlying92
  a168 := Tryd.isAgg92
  z168 := Tryd.sizeOf92
  v168 := Tryd.zeroValue92
  t171 := Tryd.underlying97
  a171 := Tryd.isAgg97
  z171 := Tryd.sizeOf97
  v171 := Tryd.zeroValue97
  t173 := Tryd.underlying100
  a173 := Tryd.isAgg100
  z173 := Tryd.sizeOf100
  v173 := Tryd.zeroValue100
  t175 := Tryd.underlying56
  a175 := Tryd.isAgg56
  z175 := Tryd.sizeOf56
  v175 := Tryd.zeroValue56
  t210 := Tryd.underlying112
  a210 := Tryd.isAgg112
  z210 := Tryd.sizeOf112
  v210 := Tryd.zeroValue112
  t212 := Tryd.underlying116
  a212 := Tryd.isAgg116
  z212 := Tryd.sizeOf116
  v212 := Tryd.zeroValue116
  t213 := Tryd.underlying117
  a213 := Tryd.isAgg117
  z213 := Tryd.sizeOf117
  t232 := Tryd.underlying130
  a232 := Tryd.isAgg130
  z232 := Tryd.sizeOf130
  v232 := Tryd.zeroValue130
  t233 := Tryd.underlying131
  a233 := Tryd.isAgg131
  z233 := Tryd.sizeOf131
  v233 := Tryd.zeroValue131
  g15 := by kernel_rfl
  g16 := by kernel_rfl
  g17 := by kernel_rfl
  g18 := by kernel_rfl
  g19 := by kernel_rfl
  t80 := Tryd.underlying87
  a80 := Tryd.isAgg87
  z80 := Tryd.sizeOf87
  v80 := Tryd.zeroValue87
  i0 := by kernel_rfl
  i2 := by kernel_rfl
  i3 := by kernel_rfl
  i4 := by kernel_rfl
  i5 := by kernel_rfl
  i9 := by kernel_rfl
  i20 := by kernel_rfl
  i21 := by kernel_rfl
  i37 := by kernel_rfl
  i46 := by kernel_rfl
  i51 := by kernel_rfl
  i53 := by kernel_rfl
  i75 := by kernel_rfl
  i76 := by kernel_rfl
  i80 := by kernel_rfl
  i85 := by kernel_rfl
  i127 := by kernel_rfl
  i143 := by kernel_rfl
  i145 := by kernel_rfl
  i167 := by kernel_rfl
  i168 := by kernel_rfl
  i171 := by kernel_rfl
  i173 := by kernel_rfl
  i175 := by kernel_rfl
  i210 := by kernel_rfl
  i212 := by kernel_rfl
  i232 := by kernel_rfl
  i233 := by kernel_rfl
  m15 := by kernel_rfl
  m16 := by kernel_rfl
  m17 := by kernel_rfl
  m18 := by kernel_rfl
  m19 := by kernel_rfl
  c0 := by kernel_rfl
  c2 := by kernel_rfl
  c3 := by kernel_rfl
  c4 := by kernel_rfl
  c5 := by kernel_rfl
  c9 := by kernel_rfl
  c20 := by kernel_rfl
  c21 := by kernel_rfl
  c37 := by kernel_rfl
  c46 := by kernel_rfl
  c51 := by kernel_rfl
  c53 := by kernel_rfl
  c75 := by kernel_rfl
  c76 := by kernel_rfl
  c80 := by kernel_rfl
  c85 := by kernel_rfl
  c127 := by kernel_rfl
  c143 := by kernel_rfl
  c145 := by kernel_rfl
  c167 := by kernel_rfl
  c168 := by kernel_rfl
  c171 := by kernel_rfl
  c173 := by kernel_rfl
  c175 := by kernel_rfl
  c210 := by kernel_rfl
  c212 := by kernel_rfl
  c213 := by kernel_rfl
  c232 := by kernel_rfl
  c233 := by kernel_rfl }
open Go.RowKit in
theorem Tryd.strconv_Atoi_ok (s : ByteArray) (hmax : s.size ≤ 9223372036854775806) (v : Int) (h : Lib.atoiAll s.data.toList = .ok v) (w : World) :
    Calls Tryd.prog 17 #[.string s] w fun e w' => e = .returned (.tuple #[.int .i64 v, .nilIface]) ∧ (w' = w ∨ ∃ t, w' = Lib.bytesWorld w 5 t) := Any.strconv_Atoi_ok Tryd.laysC172 s hmax v h w
open Go.RowKit in
theorem Tryd.strconv_Atoi_syntax (s : ByteArray) (hlim : s.size ≤ 281474976710656) (h : Lib.atoiAll s.data.toList = Lib.NumEnd.syntax) (ev : Value) (w : World) (hv : w.cell? ⟨1, 0, none⟩ = some ev) (hev : ev = .nilIface ∨ ∃ te pe, ev = .iface te pe) :
    Calls Tryd.prog 17 #[.string s] w fun e w' => ∃ N, e = .returned (.tuple #[.int .i64 (0), .iface 92 (.pointer (some ⟨N, 0, none⟩))]) ∧ w.heap.size ≤ N ∧ w'.heap[N]? = some (.cells #[.string ⟨#[65, 116, 111, 105]⟩, .string s, ev] 112 (0, 0)) ∧ Below w.heap.size w w' := Any.strconv_Atoi_syntax Tryd.laysC172 s hlim h ev w hv hev
open Go.RowKit in
theorem Tryd.strconv_Atoi_range (s : ByteArray) (hlim : s.size ≤ 281474976710656) (h : Lib.atoiAll s.data.toList = .range) (ev : Value) (w : World) (hv : w.cell? ⟨2, 0, none⟩ = some ev) (hev : ev = .nilIface ∨ ∃ te pe, ev = .iface te pe) :
    Calls Tryd.prog 17 #[.string s] w fun e w' => ∃ N, e = .returned (.tuple #[.int .i64 (Lib.atoiSat s.data.toList), .iface 92 (.pointer (some ⟨N, 0, none⟩))]) ∧ w.heap.size ≤ N ∧ w'.heap[N]? = some (.cells #[.string ⟨#[65, 116, 111, 105]⟩, .string s, ev] 112 (0, 0)) ∧ Below w.heap.size w w' := Any.strconv_Atoi_range Tryd.laysC172 s hlim h ev w hv hev
end Go.Proofs

/-
  strconv.ParseUint of base sixteen, of any text. (Printed by mkoptparse.py.)
-/
namespace Go.Proofs.YtpihfgpgdjjfhaaDoor
open Go.RowKit

theorem lower_run (c : Nat) (hc : c < 256) (w : World) :
    Calls Tryd.prog 57 #[.int .u8 (c : Nat)] w fun e w' => e = .returned (.int .u8 ((c ||| 32 : Nat) : Int)) ∧ w' = w := by
  have h := u8_or_nat c 32 hc (by omega)
  rw [show ((32 : Nat) : Int) = 32 from rfl] at h
  go_enter Tryd.func57, Tryd.ntmps57
  go_wp2_with fail
  go_ret
  exact ⟨by first | rfl | rw [h], rfl⟩

set_option maxRecDepth 100000 in
theorem or32 : ∀ c : Fin 256, c.val ||| 32 < 256 ∧ (97 ≤ c.val → c.val ≤ 102 → c.val ||| 32 = c.val) := by decide +kernel

theorem Kp.bytes (w : World) (e : TypeId) (s : ByteArray) : Kp (fun _ => False) w (Lib.bytesWorld w e s) :=
  ⟨rfl, rfl, rfl, by rw [Lib.bytesWorld_size]; omega, fun k hk _ => Lib.bytesWorld_at_old w e s k hk⟩

theorem bytes_cell (w : World) (e : TypeId) (s : ByteArray) {j : Nat} (hj : j < s.size) : (Lib.bytesWorld w e s).cell? ⟨w.heap.size, j, none⟩ = some (.int .u8 (bt s j : Nat)) := by
  rw [Lib.bytesWorld_cell w e s j hj]
  obtain ⟨b, hb, hb2⟩ := byte_at (s := s) (i := j) hj
  rw [List.getD_eq_getElem?_getD, hb, ← hb2]
  rfl

/-- where a digit stands -/
theorem hex_at (N i : Nat) (hi : i < 16) : (hexN 16 N)[i]? = some (hexD (N / 16 ^ (15 - i) % 16)) := by
  have key : ∀ (k i : Nat), i < k → ∀ N, (hexN k N)[i]? = some (hexD (N / 16 ^ (k - 1 - i) % 16)) := by
    intro k
    induction k with
    | zero => intro i h; omega
    | succ k ih =>
      intro i h N
      rw [hexN_front]
      cases i with
      | zero => simp
      | succ i => rw [List.getElem?_cons_succ, ih i (by omega), show k + 1 - 1 - (i + 1) = k - 1 - i by omega]
  exact key 16 i hi N

theorem hexD_nat {d : Nat} (h : d < 16) : (hexD d).toNat = if d < 10 then 48 + d else 87 + d := by
  unfold hexD
  rw [UInt8.toNat_ofNat']
  split <;> omega

/-- where a text is sixteen digits of a number, the byte at a place, and the digits ahead of it -/
theorem hex_here {s : ByteArray} {N i : Nat} (h : s.data.toList = hexN 16 N) (hi : i < s.size) : i < 16 ∧ bt s i = (if N / 16 ^ (15 - i) % 16 < 10 then 48 + N / 16 ^ (15 - i) % 16 else 87 + N / 16 ^ (15 - i) % 16) ∧
    N / 16 ^ (16 - i) = N / 16 ^ (15 - i) / 16 ∧ s.size = 16 := by
  have hs : s.size = 16 := by rw [Lib.size_eq, h, hexN_length]
  have h16 : i < 16 := by omega
  refine ⟨h16, ?_, ?_, hs⟩
  · obtain ⟨b, hb, hb2⟩ := byte_at (s := s) (i := i) hi
    rw [h, hex_at N i h16] at hb
    rw [← hb2, ← Option.some.inj hb, hexD_nat (by omega)]
  · rw [show 16 - i = (15 - i) + 1 by omega, Nat.pow_succ, Nat.div_div_eq_div_mul]

/-- what ParseUint leaves -/
def ParseP (s : ByteArray) (w : World) (e : Ending) (w' : World) : Prop :=
  ∃ (v : Nat) (E : Value), e = .returned (.tuple #[.int .u64 (v : Int), E]) ∧ (E = .nilIface ∨ E = .iface 89 (.int .i64 2) ∨ E = .iface 89 (.int .i64 1)) ∧ v < 18446744073709551616 ∧
    (∀ N, N < 18446744073709551616 → s.data.toList = hexN 16 N → v = N) ∧ Kp (fun _ => False) w w'

set_option maxRecDepth 100000 in
set_option maxHeartbeats 8000000 in
theorem ParseUint_in (s : ByteArray) (w : World) (hs : s.size ≤ 100000) :
    Calls Tryd.prog 38 #[.string s, .int .i64 16, .int .i64 64] w (ParseP s w) := by
  by_cases h0 : s.size = 0
  · have hq2 : s.toList = [] := by rw [Lib.toList_data]; exact List.eq_nil_of_length_eq_zero (by rw [← Lib.size_eq]; exact h0)
    have hq : (s.toList == []) = true := by rw [hq2]; rfl
    have hq3 : s.toList.isEmpty = true := by rw [hq2]; rfl
    have HE := Lib.hid (show ParseP s w (.returned (.tuple #[.int .u64 0, .iface 89 (.int .i64 2)])) w from ⟨0, _, rfl, .inr (.inl rfl), by omega, fun N hN e => by rw [Lib.size_eq, e, hexN_length] at h0; omega, Kp.refl _ _⟩)
    clear h0 hs
    go_enter Tryd.func38, Tryd.ntmps38
    go_wp2_with fail
    go_ret2
    exact HE.out
  · obtain ⟨n1, n2, n3⟩ : ¬ s.toList = [] ∧ s.toList.isEmpty = false ∧ (!s.toList.isEmpty) = true := by
      have h1 : ¬ s.toList = [] := fun e => h0 (by rw [Lib.toList_data] at e; rw [Lib.size_eq, e]; rfl)
      have h2 : s.toList.isEmpty = false := by cases hl : s.toList with
        | nil => exact absurd hl h1
        | cons a r => rfl
      exact ⟨h1, h2, by rw [h2]; rfl⟩
    have n4 : (s.toList == []) = false := by rw [beq_eq_false_iff_ne]; exact n1
    have hcv := Lib.run_convert_string_bytes (P := Tryd.prog) w 9 78 5 s Tryd.underlying9 Tryd.underlying78 Tryd.underlying5
    obtain ⟨wb, hwb⟩ : ∃ wb, wb = Lib.bytesWorld w 5 s := ⟨_, rfl⟩
    have HKb : Hid (Kp (fun _ => False) w wb) := Lib.hid (by rw [hwb]; exact Kp.bytes w _ s)
    have HCb := Lib.hid (fun j (hj : j < s.size) => show wb.cell? ⟨w.heap.size, j, none⟩ = some (.int .u8 (bt s j : Nat)) by rw [hwb]; exact bytes_cell w _ s hj)
    rw [← hwb] at hcv
    obtain ⟨cap, hcap⟩ : ∃ cap, cap = grownCap w s.size 0 5 := ⟨_, rfl⟩
    rw [← hcap] at hcv
    have HS := Lib.hid hs
    have hmax : IntKind.u64.wrap (IntKind.u64.wrap 18446744073709551616 - 1) = 18446744073709551615 := by decide +kernel
    clear hwb hcap hs
    go_enter Tryd.func38, Tryd.ntmps38
    go_wp2_with fail
    clear hcv hmax
    go_loopw [12, 13, 101] (fun v12 v13 v101 wr => ∃ i m : Nat, v12 = .bool false ∧ v13 = .int .u64 (m : Int) ∧ v101 = .int .i64 (i : Int) ∧ i ≤ s.size ∧ m < 18446744073709551616 ∧ (∀ N, N < 18446744073709551616 → s.data.toList = hexN 16 N → m = N / 16 ^ (16 - i)) ∧ wr = wb) (fun _ _ v101 _ => s.size - (intOf v101).toNat)
    case atStart => exact ⟨0, 0, rfl, rfl, rfl, by omega, by omega, fun N hN _ => by rw [Nat.div_eq_of_lt (by omega)], rfl⟩
    case round =>
      obtain ⟨i, m, rfl, rfl, rfl, hi, hm, hr, hw⟩ := hrel
      subst hw
      have HRn := Lib.hid hr
      have HMl := Lib.hid hm
      clear hr n1 n2 n3 n4
      by_cases hlt : i < s.size
      · have hd : decide ((i : Int) < (s.size : Int)) = true := by simp; omega
        have cell := HCb.out i hlt
        have hc256 := bt_lt s i
        obtain ⟨C, hC⟩ : ∃ C, C = bt s i := ⟨_, rfl⟩
        rw [← hC] at cell hc256
        have HC := Lib.hid hC
        have HIl := Lib.hid hlt
        have i0 : (0 : Int) ≤ (i : Int) := by omega
        have i1 : (i : Int) ≤ 100000 := by have := HS.out; omega
        have lb := World.block_lt_of_cell? _ _ cell
        have HBm := Lib.hid (fun (hbig : 1152921504606846976 ≤ m) N (hN : N < 18446744073709551616) (e : s.data.toList = hexN 16 N) => show False by
          obtain ⟨q1, q2, q3, q4⟩ := hex_here e HIl.out
          have q5 := HRn.out N hN e
          have q6 : N / 16 ^ (16 - i) < 1152921504606846976 := by
            rw [Nat.div_lt_iff_lt_mul (Nat.pow_pos (by omega))]
            have : 16 ^ 15 * 16 ^ (16 - i) = 16 ^ (15 + (16 - i)) := (Nat.pow_add 16 15 (16 - i)).symm
            have h2 : 16 ^ 16 ≤ 16 ^ (15 + (16 - i)) := Nat.pow_le_pow_right (by omega) (by omega)
            omega
          omega)
        clear hC hlt hi
        by_cases hdig : 48 ≤ C ∧ C ≤ 57
        · have r95 : ((C : Int) == 95) = false := by rw [beq_eq_false_iff_ne]; omega
          have r0 : decide ((48 : Int) ≤ (C : Int)) = true := by simp; omega
          have r1 : decide ((C : Int) ≤ 57) = true := by simp; omega
          obtain ⟨d, hdd⟩ : ∃ d, d = C - 48 := ⟨_, rfl⟩
          have hs1 : (C : Int) - 48 = (d : Int) := by omega
          have hd10 : d < 10 := by omega
          have w1 : IntKind.u8.wrap (d : Int) = (d : Int) := by unfold IntKind.wrap; simp [IntKind.signed, IntKind.bits]; omega
          have HDg := Lib.hid (fun N (hN : N < 18446744073709551616) (e : s.data.toList = hexN 16 N) => show d = N / 16 ^ (15 - i) % 16 by
            obtain ⟨q1, q2, q3, q4⟩ := hex_here e HIl.out
            rw [← HC.out] at q2
            split at q2 <;> omega)
          have HBd := Lib.hid (fun (h16 : 16 ≤ d) N (_ : N < 18446744073709551616) (_ : s.data.toList = hexN 16 N) => show False by omega)
          clear hdd hdig hc256
          by_cases h16 : 16 ≤ d
          · have t0 : decide ((16 : Int) ≤ (d : Int)) = true := by simp; omega
            have HBad := Lib.hid (HBd.out h16)
            clear h16
            go_wp2_with fail
            go_ret2
            exact ⟨0, _, rfl, .inr (.inl rfl), by omega, fun N hN e => absurd e (HBad.out N hN), HKb.out⟩
          · have t0 : decide ((16 : Int) ≤ (d : Int)) = false := by simp; omega
            by_cases hbig : 1152921504606846976 ≤ m
            · have t1 : decide ((1152921504606846976 : Int) ≤ (m : Int)) = true := by simp; omega
              have HBad := Lib.hid (HBm.out hbig)
              clear h16 hbig
              go_wp2_with fail
              go_ret2
              exact ⟨18446744073709551615, _, rfl, .inr (.inr rfl), by omega, fun N hN e => absurd e (HBad.out N hN), HKb.out⟩
            · have t1 : decide ((1152921504606846976 : Int) ≤ (m : Int)) = false := by simp; omega
              obtain ⟨M, hM⟩ : ∃ M, M = m * 16 := ⟨_, rfl⟩
              obtain ⟨Z, hZ⟩ : ∃ Z, Z = M + d := ⟨_, rfl⟩
              have e1 : IntKind.u64.wrap ((m : Int) * 16) = (M : Int) := by unfold IntKind.wrap; simp [IntKind.signed, IntKind.bits]; omega
              have e2 : IntKind.u64.wrap (d : Int) = (d : Int) := by unfold IntKind.wrap; simp [IntKind.signed, IntKind.bits]; omega
              have e3 : IntKind.u64.wrap ((M : Int) + (d : Int)) = (Z : Int) := by unfold IntKind.wrap; simp [IntKind.signed, IntKind.bits]; omega
              have t2 : decide (Z < M) = false := by simp; omega
              have t3 : decide ((18446744073709551615 : Int) < (Z : Int)) = false := by simp; omega
              have HRel := Lib.hid (show Z < 18446744073709551616 ∧ ∀ N, N < 18446744073709551616 → s.data.toList = hexN 16 N → Z = N / 16 ^ (16 - (i + 1)) from ⟨by omega, fun N hN e => by
                obtain ⟨q1, q2, q3, q4⟩ := hex_here e HIl.out
                have q5 := HRn.out N hN e
                have q6 := HDg.out N hN e
                rw [show 16 - (i + 1) = 15 - i by omega]
                generalize N / 16 ^ (15 - i) = Y at *
                omega⟩)
              clear h16 hbig hM hZ
              go_wp2_with fail
              refine ⟨⟨i + 1, Z, rfl, rfl, by go_num, by have := HIl.out; omega, HRel.out.1, HRel.out.2, by first | rfl | trivial⟩, ?_⟩
              have := HIl.out
              simp [intOf]; omega
        · obtain ⟨b95, hb95⟩ : ∃ b, ((C : Int) == 95) = b := ⟨_, rfl⟩
          obtain ⟨b48, hb48⟩ : ∃ b, decide ((48 : Int) ≤ (C : Int)) = b := ⟨_, rfl⟩
          obtain ⟨b57, hb57⟩ : ∃ b, decide ((C : Int) ≤ 57) = b := ⟨_, rfl⟩
          have hbb : (b48 && b57) = false := by rw [← hb48, ← hb57]; simp; omega
          obtain ⟨L, hL⟩ : ∃ L, L = C ||| 32 := ⟨_, rfl⟩
          have hL2 := or32 ⟨C, hc256⟩
          simp only at hL2
          rw [← hL] at hL2
          have HLow := Lib.hid (lower_run C hc256)
          rw [← hL] at HLow
          have HLm := Lib.hid hL2
          have hL256 := hL2.1
          clear hL hL2
          have HNd := Lib.hid (fun N (hN : N < 18446744073709551616) (e : s.data.toList = hexN 16 N) => show L = C ∧ 97 ≤ C ∧ C ≤ 102 ∧ C = 87 + N / 16 ^ (15 - i) % 16 by
            obtain ⟨q1, q2, q3, q4⟩ := hex_here e HIl.out
            rw [← HC.out] at q2
            have hlt16 : N / 16 ^ (15 - i) % 16 < 16 := Nat.mod_lt _ (by omega)
            split at q2
            · exfalso; omega
            · exact ⟨HLm.out.2 (by omega) (by omega), by omega, by omega, q2⟩)
          clear hdig hc256
          cases b95 with
          | false =>
            cases b48 with
            | false =>
              clear hbb
              by_cases h97 : 97 ≤ L
              · by_cases h122 : L ≤ 122
                · have r0 : decide ((97 : Int) ≤ (L : Int)) = true := by simp; omega
                  have r1 : decide ((L : Int) ≤ 122) = true := by simp; omega
                  obtain ⟨D0, hD0⟩ : ∃ D0, D0 = L - 97 := ⟨_, rfl⟩
                  obtain ⟨d, hdd⟩ : ∃ d, d = D0 + 10 := ⟨_, rfl⟩
                  have hs1 : (L : Int) - 97 = (D0 : Int) := by omega
                  have hs2 : (D0 : Int) + 10 = (d : Int) := by omega
                  have hd36 : d < 36 := by omega
                  have w0 : IntKind.u8.wrap (D0 : Int) = (D0 : Int) := by unfold IntKind.wrap; simp [IntKind.signed, IntKind.bits]; omega
                  have w1 : IntKind.u8.wrap (d : Int) = (d : Int) := by unfold IntKind.wrap; simp [IntKind.signed, IntKind.bits]; omega
                  have HDg := Lib.hid (fun N (hN : N < 18446744073709551616) (e : s.data.toList = hexN 16 N) => show d = N / 16 ^ (15 - i) % 16 by
                    obtain ⟨q1, q2, q3, q4⟩ := HNd.out N hN e
                    omega)
                  have HBd := Lib.hid (fun (h16 : 16 ≤ d) N (hN : N < 18446744073709551616) (e : s.data.toList = hexN 16 N) => show False by
                    have := HDg.out N hN e
                    have := Nat.mod_lt (N / 16 ^ (15 - i)) (show 16 > 0 by omega)
                    omega)
                  clear hdd hD0 h97 h122
                  go_wp2_with fail
                  refine (HLow.out _).mono ?_
                  rintro e w' ⟨rfl, rfl⟩
                  go_wp2_with fail
                  refine (HLow.out _).mono ?_
                  rintro e w' ⟨rfl, rfl⟩
                  go_wp2_with fail
                  refine (HLow.out _).mono ?_
                  rintro e w' ⟨rfl, rfl⟩
                  by_cases h16 : 16 ≤ d
                  · have t0 : decide ((16 : Int) ≤ (d : Int)) = true := by simp; omega
                    have HBad := Lib.hid (HBd.out h16)
                    clear h16
                    go_wp2_with fail
                    go_ret2
                    exact ⟨0, _, rfl, .inr (.inl rfl), by omega, fun N hN e => absurd e (HBad.out N hN), HKb.out⟩
                  · have t0 : decide ((16 : Int) ≤ (d : Int)) = false := by simp; omega
                    by_cases hbig : 1152921504606846976 ≤ m
                    · have t1 : decide ((1152921504606846976 : Int) ≤ (m : Int)) = true := by simp; omega
                      have HBad := Lib.hid (HBm.out hbig)
                      clear h16 hbig
                      go_wp2_with fail
                      go_ret2
                      exact ⟨18446744073709551615, _, rfl, .inr (.inr rfl), by omega, fun N hN e => absurd e (HBad.out N hN), HKb.out⟩
                    · have t1 : decide ((1152921504606846976 : Int) ≤ (m : Int)) = false := by simp; omega
                      obtain ⟨M, hM⟩ : ∃ M, M = m * 16 := ⟨_, rfl⟩
                      obtain ⟨Z, hZ⟩ : ∃ Z, Z = M + d := ⟨_, rfl⟩
                      have e1 : IntKind.u64.wrap ((m : Int) * 16) = (M : Int) := by unfold IntKind.wrap; simp [IntKind.signed, IntKind.bits]; omega
                      have e2 : IntKind.u64.wrap (d : Int) = (d : Int) := by unfold IntKind.wrap; simp [IntKind.signed, IntKind.bits]; omega
                      have e3 : IntKind.u64.wrap ((M : Int) + (d : Int)) = (Z : Int) := by unfold IntKind.wrap; simp [IntKind.signed, IntKind.bits]; omega
                      have t2 : decide (Z < M) = false := by simp; omega
                      have t3 : decide ((18446744073709551615 : Int) < (Z : Int)) = false := by simp; omega
                      have HRel := Lib.hid (show Z < 18446744073709551616 ∧ ∀ N, N < 18446744073709551616 → s.data.toList = hexN 16 N → Z = N / 16 ^ (16 - (i + 1)) from ⟨by omega, fun N hN e => by
                        obtain ⟨q1, q2, q3, q4⟩ := hex_here e HIl.out
                        have q5 := HRn.out N hN e
                        have q6 := HDg.out N hN e
                        rw [show 16 - (i + 1) = 15 - i by omega]
                        generalize N / 16 ^ (15 - i) = Y at *
                        omega⟩)
                      clear h16 hbig hM hZ
                      go_wp2_with fail
                      refine ⟨⟨i + 1, Z, rfl, rfl, by go_num, by have := HIl.out; omega, HRel.out.1, HRel.out.2, by first | rfl | trivial⟩, ?_⟩
                      have := HIl.out
                      simp [intOf]; omega
                · have r0 : decide ((97 : Int) ≤ (L : Int)) = true := by simp; omega
                  have r1 : decide ((L : Int) ≤ 122) = false := by simp; omega
                  have HBad := Lib.hid (fun N (hN : N < 18446744073709551616) (e : s.data.toList = hexN 16 N) => show False by
                    obtain ⟨q1, q2, q3, q4⟩ := HNd.out N hN e
                    omega)
                  clear h97 h122
                  go_wp2_with fail
                  refine (HLow.out _).mono ?_
                  rintro e w' ⟨rfl, rfl⟩
                  go_wp2_with fail
                  refine (HLow.out _).mono ?_
                  rintro e w' ⟨rfl, rfl⟩
                  go_wp2_with fail
                  go_ret2
                  exact ⟨0, _, rfl, .inr (.inl rfl), by omega, fun N hN e => absurd e (HBad.out N hN), HKb.out⟩
              · have r0 : decide ((97 : Int) ≤ (L : Int)) = false := by simp; omega
                have HBad := Lib.hid (fun N (hN : N < 18446744073709551616) (e : s.data.toList = hexN 16 N) => show False by
                  obtain ⟨q1, q2, q3, q4⟩ := HNd.out N hN e
                  omega)
                clear h97
                go_wp2_with fail
                refine (HLow.out _).mono ?_
                rintro e w' ⟨rfl, rfl⟩
                go_wp2_with fail
                go_ret2
                exact ⟨0, _, rfl, .inr (.inl rfl), by omega, fun N hN e => absurd e (HBad.out N hN), HKb.out⟩
            | true =>
              have hb57' : b57 = false := by simpa using hbb
              subst hb57'
              clear hbb
              by_cases h97 : 97 ≤ L
              · by_cases h122 : L ≤ 122
                · have r0 : decide ((97 : Int) ≤ (L : Int)) = true := by simp; omega
                  have r1 : decide ((L : Int) ≤ 122) = true := by simp; omega
                  obtain ⟨D0, hD0⟩ : ∃ D0, D0 = L - 97 := ⟨_, rfl⟩
                  obtain ⟨d, hdd⟩ : ∃ d, d = D0 + 10 := ⟨_, rfl⟩
                  have hs1 : (L : Int) - 97 = (D0 : Int) := by omega
                  have hs2 : (D0 : Int) + 10 = (d : Int) := by omega
                  have hd36 : d < 36 := by omega
                  have w0 : IntKind.u8.wrap (D0 : Int) = (D0 : Int) := by unfold IntKind.wrap; simp [IntKind.signed, IntKind.bits]; omega
                  have w1 : IntKind.u8.wrap (d : Int) = (d : Int) := by unfold IntKind.wrap; simp [IntKind.signed, IntKind.bits]; omega
                  have HDg := Lib.hid (fun N (hN : N < 18446744073709551616) (e : s.data.toList = hexN 16 N) => show d = N / 16 ^ (15 - i) % 16 by
                    obtain ⟨q1, q2, q3, q4⟩ := HNd.out N hN e
                    omega)
                  have HBd := Lib.hid (fun (h16 : 16 ≤ d) N (hN : N < 18446744073709551616) (e : s.data.toList = hexN 16 N) => show False by
                    have := HDg.out N hN e
                    have := Nat.mod_lt (N / 16 ^ (15 - i)) (show 16 > 0 by omega)
                    omega)
                  clear hdd hD0 h97 h122
                  go_wp2_with fail
                  refine (HLow.out _).mono ?_
                  rintro e w' ⟨rfl, rfl⟩
                  go_wp2_with fail
                  refine (HLow.out _).mono ?_
                  rintro e w' ⟨rfl, rfl⟩
                  go_wp2_with fail
                  refine (HLow.out _).mono ?_
                  rintro e w' ⟨rfl, rfl⟩
                  by_cases h16 : 16 ≤ d
                  · have t0 : decide ((16 : Int) ≤ (d : Int)) = true := by simp; omega
                    have HBad := Lib.hid (HBd.out h16)
                    clear h16
                    go_wp2_with fail
                    go_ret2
                    exact ⟨0, _, rfl, .inr (.inl rfl), by omega, fun N hN e => absurd e (HBad.out N hN), HKb.out⟩
                  · have t0 : decide ((16 : Int) ≤ (d : Int)) = false := by simp; omega
                    by_cases hbig : 1152921504606846976 ≤ m
                    · have t1 : decide ((1152921504606846976 : Int) ≤ (m : Int)) = true := by simp; omega
                      have HBad := Lib.hid (HBm.out hbig)
                      clear h16 hbig
                      go_wp2_with fail
                      go_ret2
                      exact ⟨18446744073709551615, _, rfl, .inr (.inr rfl), by omega, fun N hN e => absurd e (HBad.out N hN), HKb.out⟩
                    · have t1 : decide ((1152921504606846976 : Int) ≤ (m : Int)) = false := by simp; omega
                      obtain ⟨M, hM⟩ : ∃ M, M = m * 16 := ⟨_, rfl⟩
                      obtain ⟨Z, hZ⟩ : ∃ Z, Z = M + d := ⟨_, rfl⟩
                      have e1 : IntKind.u64.wrap ((m : Int) * 16) = (M : Int) := by unfold IntKind.wrap; simp [IntKind.signed, IntKind.bits]; omega
                      have e2 : IntKind.u64.wrap (d : Int) = (d : Int) := by unfold IntKind.wrap; simp [IntKind.signed, IntKind.bits]; omega
                      have e3 : IntKind.u64.wrap ((M : Int) + (d : Int)) = (Z : Int) := by unfold IntKind.wrap; simp [IntKind.signed, IntKind.bits]; omega
                      have t2 : decide (Z < M) = false := by simp; omega
                      have t3 : decide ((18446744073709551615 : Int) < (Z : Int)) = false := by simp; omega
                      have HRel := Lib.hid (show Z < 18446744073709551616 ∧ ∀ N, N < 18446744073709551616 → s.data.toList = hexN 16 N → Z = N / 16 ^ (16 - (i + 1)) from ⟨by omega, fun N hN e => by
                        obtain ⟨q1, q2, q3, q4⟩ := hex_here e HIl.out
                        have q5 := HRn.out N hN e
                        have q6 := HDg.out N hN e
                        rw [show 16 - (i + 1) = 15 - i by omega]
                        generalize N / 16 ^ (15 - i) = Y at *
                        omega⟩)
                      clear h16 hbig hM hZ
                      go_wp2_with fail
                      refine ⟨⟨i + 1, Z, rfl, rfl, by go_num, by have := HIl.out; omega, HRel.out.1, HRel.out.2, by first | rfl | trivial⟩, ?_⟩
                      have := HIl.out
                      simp [intOf]; omega
                · have r0 : decide ((97 : Int) ≤ (L : Int)) = true := by simp; omega
                  have r1 : decide ((L : Int) ≤ 122) = false := by simp; omega
                  have HBad := Lib.hid (fun N (hN : N < 18446744073709551616) (e : s.data.toList = hexN 16 N) => show False by
                    obtain ⟨q1, q2, q3, q4⟩ := HNd.out N hN e
                    omega)
                  clear h97 h122
                  go_wp2_with fail
                  refine (HLow.out _).mono ?_
                  rintro e w' ⟨rfl, rfl⟩
                  go_wp2_with fail
                  refine (HLow.out _).mono ?_
                  rintro e w' ⟨rfl, rfl⟩
                  go_wp2_with fail
                  go_ret2
                  exact ⟨0, _, rfl, .inr (.inl rfl), by omega, fun N hN e => absurd e (HBad.out N hN), HKb.out⟩
              · have r0 : decide ((97 : Int) ≤ (L : Int)) = false := by simp; omega
                have HBad := Lib.hid (fun N (hN : N < 18446744073709551616) (e : s.data.toList = hexN 16 N) => show False by
                  obtain ⟨q1, q2, q3, q4⟩ := HNd.out N hN e
                  omega)
                clear h97
                go_wp2_with fail
                refine (HLow.out _).mono ?_
                rintro e w' ⟨rfl, rfl⟩
                go_wp2_with fail
                go_ret2
                exact ⟨0, _, rfl, .inr (.inl rfl), by omega, fun N hN e => absurd e (HBad.out N hN), HKb.out⟩
          | true =>
            cases b48 with
            | false =>
              clear hbb
              by_cases h97 : 97 ≤ L
              · by_cases h122 : L ≤ 122
                · have r0 : decide ((97 : Int) ≤ (L : Int)) = true := by simp; omega
                  have r1 : decide ((L : Int) ≤ 122) = true := by simp; omega
                  obtain ⟨D0, hD0⟩ : ∃ D0, D0 = L - 97 := ⟨_, rfl⟩
                  obtain ⟨d, hdd⟩ : ∃ d, d = D0 + 10 := ⟨_, rfl⟩
                  have hs1 : (L : Int) - 97 = (D0 : Int) := by omega
                  have hs2 : (D0 : Int) + 10 = (d : Int) := by omega
                  have hd36 : d < 36 := by omega
                  have w0 : IntKind.u8.wrap (D0 : Int) = (D0 : Int) := by unfold IntKind.wrap; simp [IntKind.signed, IntKind.bits]; omega
                  have w1 : IntKind.u8.wrap (d : Int) = (d : Int) := by unfold IntKind.wrap; simp [IntKind.signed, IntKind.bits]; omega
                  have HDg := Lib.hid (fun N (hN : N < 18446744073709551616) (e : s.data.toList = hexN 16 N) => show d = N / 16 ^ (15 - i) % 16 by
                    obtain ⟨q1, q2, q3, q4⟩ := HNd.out N hN e
                    omega)
                  have HBd := Lib.hid (fun (h16 : 16 ≤ d) N (hN : N < 18446744073709551616) (e : s.data.toList = hexN 16 N) => show False by
                    have := HDg.out N hN e
                    have := Nat.mod_lt (N / 16 ^ (15 - i)) (show 16 > 0 by omega)
                    omega)
                  clear hdd hD0 h97 h122
                  go_wp2_with fail
                  refine (HLow.out _).mono ?_
                  rintro e w' ⟨rfl, rfl⟩
                  go_wp2_with fail
                  refine (HLow.out _).mono ?_
                  rintro e w' ⟨rfl, rfl⟩
                  go_wp2_with fail
                  refine (HLow.out _).mono ?_
                  rintro e w' ⟨rfl, rfl⟩
                  by_cases h16 : 16 ≤ d
                  · have t0 : decide ((16 : Int) ≤ (d : Int)) = true := by simp; omega
                    have HBad := Lib.hid (HBd.out h16)
                    clear h16
                    go_wp2_with fail
                    go_ret2
                    exact ⟨0, _, rfl, .inr (.inl rfl), by omega, fun N hN e => absurd e (HBad.out N hN), HKb.out⟩
                  · have t0 : decide ((16 : Int) ≤ (d : Int)) = false := by simp; omega
                    by_cases hbig : 1152921504606846976 ≤ m
                    · have t1 : decide ((1152921504606846976 : Int) ≤ (m : Int)) = true := by simp; omega
                      have HBad := Lib.hid (HBm.out hbig)
                      clear h16 hbig
                      go_wp2_with fail
                      go_ret2
                      exact ⟨18446744073709551615, _, rfl, .inr (.inr rfl), by omega, fun N hN e => absurd e (HBad.out N hN), HKb.out⟩
                    · have t1 : decide ((1152921504606846976 : Int) ≤ (m : Int)) = false := by simp; omega
                      obtain ⟨M, hM⟩ : ∃ M, M = m * 16 := ⟨_, rfl⟩
                      obtain ⟨Z, hZ⟩ : ∃ Z, Z = M + d := ⟨_, rfl⟩
                      have e1 : IntKind.u64.wrap ((m : Int) * 16) = (M : Int) := by unfold IntKind.wrap; simp [IntKind.signed, IntKind.bits]; omega
                      have e2 : IntKind.u64.wrap (d : Int) = (d : Int) := by unfold IntKind.wrap; simp [IntKind.signed, IntKind.bits]; omega
                      have e3 : IntKind.u64.wrap ((M : Int) + (d : Int)) = (Z : Int) := by unfold IntKind.wrap; simp [IntKind.signed, IntKind.bits]; omega
                      have t2 : decide (Z < M) = false := by simp; omega
                      have t3 : decide ((18446744073709551615 : Int) < (Z : Int)) = false := by simp; omega
                      have HRel := Lib.hid (show Z < 18446744073709551616 ∧ ∀ N, N < 18446744073709551616 → s.data.toList = hexN 16 N → Z = N / 16 ^ (16 - (i + 1)) from ⟨by omega, fun N hN e => by
                        obtain ⟨q1, q2, q3, q4⟩ := hex_here e HIl.out
                        have q5 := HRn.out N hN e
                        have q6 := HDg.out N hN e
                        rw [show 16 - (i + 1) = 15 - i by omega]
                        generalize N / 16 ^ (15 - i) = Y at *
                        omega⟩)
                      clear h16 hbig hM hZ
                      go_wp2_with fail
                      refine ⟨⟨i + 1, Z, rfl, rfl, by go_num, by have := HIl.out; omega, HRel.out.1, HRel.out.2, by first | rfl | trivial⟩, ?_⟩
                      have := HIl.out
                      simp [intOf]; omega
                · have r0 : decide ((97 : Int) ≤ (L : Int)) = true := by simp; omega
                  have r1 : decide ((L : Int) ≤ 122) = false := by simp; omega
                  have HBad := Lib.hid (fun N (hN : N < 18446744073709551616) (e : s.data.toList = hexN 16 N) => show False by
                    obtain ⟨q1, q2, q3, q4⟩ := HNd.out N hN e
                    omega)
                  clear h97 h122
                  go_wp2_with fail
                  refine (HLow.out _).mono ?_
                  rintro e w' ⟨rfl, rfl⟩
                  go_wp2_with fail
                  refine (HLow.out _).mono ?_
                  rintro e w' ⟨rfl, rfl⟩
                  go_wp2_with fail
                  go_ret2
                  exact ⟨0, _, rfl, .inr (.inl rfl), by omega, fun N hN e => absurd e (HBad.out N hN), HKb.out⟩
              · have r0 : decide ((97 : Int) ≤ (L : Int)) = false := by simp; omega
                have HBad := Lib.hid (fun N (hN : N < 18446744073709551616) (e : s.data.toList = hexN 16 N) => show False by
                  obtain ⟨q1, q2, q3, q4⟩ := HNd.out N hN e
                  omega)
                clear h97
                go_wp2_with fail
                refine (HLow.out _).mono ?_
                rintro e w' ⟨rfl, rfl⟩
                go_wp2_with fail
                go_ret2
                exact ⟨0, _, rfl, .inr (.inl rfl), by omega, fun N hN e => absurd e (HBad.out N hN), HKb.out⟩
            | true =>
              have hb57' : b57 = false := by simpa using hbb
              subst hb57'
              clear hbb
              by_cases h97 : 97 ≤ L
              · by_cases h122 : L ≤ 122
                · have r0 : decide ((97 : Int) ≤ (L : Int)) = true := by simp; omega
                  have r1 : decide ((L : Int) ≤ 122) = true := by simp; omega
                  obtain ⟨D0, hD0⟩ : ∃ D0, D0 = L - 97 := ⟨_, rfl⟩
                  obtain ⟨d, hdd⟩ : ∃ d, d = D0 + 10 := ⟨_, rfl⟩
                  have hs1 : (L : Int) - 97 = (D0 : Int) := by omega
                  have hs2 : (D0 : Int) + 10 = (d : Int) := by omega
                  have hd36 : d < 36 := by omega
                  have w0 : IntKind.u8.wrap (D0 : Int) = (D0 : Int) := by unfold IntKind.wrap; simp [IntKind.signed, IntKind.bits]; omega
                  have w1 : IntKind.u8.wrap (d : Int) = (d : Int) := by unfold IntKind.wrap; simp [IntKind.signed, IntKind.bits]; omega
                  have HDg := Lib.hid (fun N (hN : N < 18446744073709551616) (e : s.data.toList = hexN 16 N) => show d = N / 16 ^ (15 - i) % 16 by
                    obtain ⟨q1, q2, q3, q4⟩ := HNd.out N hN e
                    omega)
                  have HBd := Lib.hid (fun (h16 : 16 ≤ d) N (hN : N < 18446744073709551616) (e : s.data.toList = hexN 16 N) => show False by
                    have := HDg.out N hN e
                    have := Nat.mod_lt (N / 16 ^ (15 - i)) (show 16 > 0 by omega)
                    omega)
                  clear hdd hD0 h97 h122
                  go_wp2_with fail
                  refine (HLow.out _).mono ?_
                  rintro e w' ⟨rfl, rfl⟩
                  go_wp2_with fail
                  refine (HLow.out _).mono ?_
                  rintro e w' ⟨rfl, rfl⟩
                  go_wp2_with fail
                  refine (HLow.out _).mono ?_
                  rintro e w' ⟨rfl, rfl⟩
                  by_cases h16 : 16 ≤ d
                  · have t0 : decide ((16 : Int) ≤ (d : Int)) = true := by simp; omega
                    have HBad := Lib.hid (HBd.out h16)
                    clear h16
                    go_wp2_with fail
                    go_ret2
                    exact ⟨0, _, rfl, .inr (.inl rfl), by omega, fun N hN e => absurd e (HBad.out N hN), HKb.out⟩
                  · have t0 : decide ((16 : Int) ≤ (d : Int)) = false := by simp; omega
                    by_cases hbig : 1152921504606846976 ≤ m
                    · have t1 : decide ((1152921504606846976 : Int) ≤ (m : Int)) = true := by simp; omega
                      have HBad := Lib.hid (HBm.out hbig)
                      clear h16 hbig
                      go_wp2_with fail
                      go_ret2
                      exact ⟨18446744073709551615, _, rfl, .inr (.inr rfl), by omega, fun N hN e => absurd e (HBad.out N hN), HKb.out⟩
                    · have t1 : decide ((1152921504606846976 : Int) ≤ (m : Int)) = false := by simp; omega
                      obtain ⟨M, hM⟩ : ∃ M, M = m * 16 := ⟨_, rfl⟩
                      obtain ⟨Z, hZ⟩ : ∃ Z, Z = M + d := ⟨_, rfl⟩
                      have e1 : IntKind.u64.wrap ((m : Int) * 16) = (M : Int) := by unfold IntKind.wrap; simp [IntKind.signed, IntKind.bits]; omega
                      have e2 : IntKind.u64.wrap (d : Int) = (d : Int) := by unfold IntKind.wrap; simp [IntKind.signed, IntKind.bits]; omega
                      have e3 : IntKind.u64.wrap ((M : Int) + (d : Int)) = (Z : Int) := by unfold IntKind.wrap; simp [IntKind.signed, IntKind.bits]; omega
                      have t2 : decide (Z < M) = false := by simp; omega
                      have t3 : decide ((18446744073709551615 : Int) < (Z : Int)) = false := by simp; omega
                      have HRel := Lib.hid (show Z < 18446744073709551616 ∧ ∀ N, N < 18446744073709551616 → s.data.toList = hexN 16 N → Z = N / 16 ^ (16 - (i + 1)) from ⟨by omega, fun N hN e => by
                        obtain ⟨q1, q2, q3, q4⟩ := hex_here e HIl.out
                        have q5 := HRn.out N hN e
                        have q6 := HDg.out N hN e
                        rw [show 16 - (i + 1) = 15 - i by omega]
                        generalize N / 16 ^ (15 - i) = Y at *
                        omega⟩)
                      clear h16 hbig hM hZ
                      go_wp2_with fail
                      refine ⟨⟨i + 1, Z, rfl, rfl, by go_num, by have := HIl.out; omega, HRel.out.1, HRel.out.2, by first | rfl | trivial⟩, ?_⟩
                      have := HIl.out
                      simp [intOf]; omega
                · have r0 : decide ((97 : Int) ≤ (L : Int)) = true := by simp; omega
                  have r1 : decide ((L : Int) ≤ 122) = false := by simp; omega
                  have HBad := Lib.hid (fun N (hN : N < 18446744073709551616) (e : s.data.toList = hexN 16 N) => show False by
                    obtain ⟨q1, q2, q3, q4⟩ := HNd.out N hN e
                    omega)
                  clear h97 h122
                  go_wp2_with fail
                  refine (HLow.out _).mono ?_
                  rintro e w' ⟨rfl, rfl⟩
                  go_wp2_with fail
                  refine (HLow.out _).mono ?_
                  rintro e w' ⟨rfl, rfl⟩
                  go_wp2_with fail
                  go_ret2
                  exact ⟨0, _, rfl, .inr (.inl rfl), by omega, fun N hN e => absurd e (HBad.out N hN), HKb.out⟩
              · have r0 : decide ((97 : Int) ≤ (L : Int)) = false := by simp; omega
                have HBad := Lib.hid (fun N (hN : N < 18446744073709551616) (e : s.data.toList = hexN 16 N) => show False by
                  obtain ⟨q1, q2, q3, q4⟩ := HNd.out N hN e
                  omega)
                clear h97
                go_wp2_with fail
                refine (HLow.out _).mono ?_
                rintro e w' ⟨rfl, rfl⟩
                go_wp2_with fail
                go_ret2
                exact ⟨0, _, rfl, .inr (.inl rfl), by omega, fun N hN e => absurd e (HBad.out N hN), HKb.out⟩
      · have hd : decide ((i : Int) < (s.size : Int)) = false := by simp; omega
        have HEnd := Lib.hid (fun N (hN : N < 18446744073709551616) (e : s.data.toList = hexN 16 N) => show m = N by
          have h1 : s.size = 16 := by rw [Lib.size_eq, e, hexN_length]
          have h2 := HRn.out N hN e
          rw [show 16 - i = 0 by omega, Nat.pow_zero, Nat.div_one] at h2
          exact h2)
        go_wp2_with fail
        go_ret2
        exact ⟨m, _, rfl, .inl rfl, HMl.out, HEnd.out, HKb.out⟩

end Go.Proofs.YtpihfgpgdjjfhaaDoor

/-
  The numbers of options' words, of any text.
-/
namespace Go.Proofs.YtpihfgpgdjjfhaaDoor
open Go.RowKit

theorem decFrom_ge : ∀ (l : List UInt8) (acc u : Nat), Lib.decFrom acc l = some u → acc ≤ u
  | [], acc, u, h => by simp only [Lib.decFrom, Option.some.injEq] at h; omega
  | c :: r, acc, u, h => by
    simp only [Lib.decFrom] at h
    cases hd : Lib.digitVal c with
    | none => rw [hd] at h; cases h
    | some d => rw [hd] at h; have := decFrom_ge r _ u h; omega

theorem parse10 : ∀ (l : List UInt8) (acc u : Nat), Lib.decFrom acc l = some u → u < 18446744073709551616 → Lib.parseUint10 acc l = .ok u
  | [], acc, u, h, _ => by simp only [Lib.decFrom, Option.some.injEq] at h; subst h; rfl
  | c :: r, acc, u, h, hu => by
    simp only [Lib.decFrom] at h
    unfold Lib.digitVal at h
    by_cases hc : 48 ≤ c.toNat ∧ c.toNat ≤ 57
    · rw [if_pos hc] at h
      simp only at h
      have h1 := decFrom_ge r _ u h
      unfold Lib.parseUint10
      rw [if_pos hc, if_neg (by omega), if_neg (by omega)]
      exact parse10 r _ u h hu
    · rw [if_neg hc] at h; cases h

theorem mag_dd {u : Nat} (hu : u < 18446744073709551616) : Lib.parseMag (Lib.decDigits u) = .ok u := by
  unfold Lib.parseMag
  rw [if_neg (fun e => by have := dd_pos u; rw [e] at this; simp at this)]
  exact parse10 _ 0 u (dd_from u) hu

theorem atoi_itoa {n : Int} (h : okN n) : Lib.atoiAll (Lib.itoa n) = .ok n := by
  obtain ⟨h1, h2⟩ := h
  by_cases hn : n < 0
  · obtain ⟨k, rfl⟩ : ∃ k : Nat, n = -(k : Int) := ⟨(-n).toNat, by omega⟩
    have e : Lib.itoa (-(k : Int)) = 45 :: Lib.decDigits k := by unfold Lib.itoa; rw [if_pos hn]; congr 2; omega
    rw [e]
    unfold Lib.atoiAll
    simp only [show (45 : UInt8).toNat = 45 from rfl, or_true, if_true]
    rw [mag_dd (by omega)]
    simp only [not_true_eq_false, false_and, if_false, true_and]
    rw [if_neg (by omega)]
  · obtain ⟨k, rfl⟩ : ∃ k : Nat, n = (k : Int) := ⟨n.toNat, by omega⟩
    rw [itoa_nat]
    obtain ⟨c, r, hcr⟩ : ∃ c r, Lib.decDigits k = c :: r := by
      cases hl : Lib.decDigits k with
      | nil => have := dd_pos k; rw [hl] at this; simp at this
      | cons c r => exact ⟨c, r, rfl⟩
    have hc := dd_digit k c (by rw [hcr]; simp)
    have hm := mag_dd (u := k) (by omega)
    rw [hcr] at hm ⊢
    unfold Lib.atoiAll
    simp only
    rw [if_neg (by omega), hm]
    simp only
    rw [if_neg (by omega), if_neg (by omega), if_neg (by omega)]

theorem atoi_ok {l : List UInt8} {v : Int} (h : Lib.atoiAll l = .ok v) : okN v := by
  unfold Lib.atoiAll at h
  cases l with
  | nil => cases h
  | cons c r =>
    simp only at h
    cases hm : Lib.parseMag (if c.toNat = 43 ∨ c.toNat = 45 then r else c :: r) with
    | ok u =>
      rw [hm] at h
      simp only at h
      by_cases hn : c.toNat = 45
      · rw [if_neg (by simp [hn])] at h
        by_cases hb : c.toNat = 45 ∧ 9223372036854775808 < u
        · rw [if_pos hb] at h; cases h
        · rw [if_neg hb, if_pos hn] at h; injection h with h; subst h; unfold okN; omega
      · by_cases hb : ¬ c.toNat = 45 ∧ 9223372036854775808 ≤ u
        · rw [if_pos hb] at h; cases h
        · rw [if_neg hb, if_neg (by simp [hn]), if_neg hn] at h; injection h with h; subst h; unfold okN; omega
    | _ => rw [hm] at h; cases h

/-- the library's two errors lie there -/
def Ev (w : World) : Prop := (∃ t p, w.cell? ⟨1, 0, none⟩ = some (.iface t p)) ∧ ∃ t p, w.cell? ⟨2, 0, none⟩ = some (.iface t p)

theorem Ev.kp {w w' : World} (h : Ev w) (k : Kp (fun _ => False) w w') : Ev w' := by
  obtain ⟨⟨t, p, h1⟩, t', p', h2⟩ := h
  exact ⟨⟨t, p, (World.cell?_of_block (a := ⟨1, 0, none⟩) (k.block _ (World.block_lt_of_cell? w _ h1) (fun h => h))).trans h1⟩,
    t', p', (World.cell?_of_block (a := ⟨2, 0, none⟩) (k.block _ (World.block_lt_of_cell? w _ h2) (fun h => h))).trans h2⟩

theorem Atoi_any (s : ByteArray) (w : World) (hs : s.size ≤ 100000) (he : Ev w) :
    Calls Tryd.prog 17 #[.string s] w fun e w' => ∃ (v : Int) (E : Value), e = .returned (.tuple #[.int .i64 v, E]) ∧ okN v ∧ (∀ n, okN n → s.data.toList = Lib.itoa n → v = n) ∧ Kp (fun _ => False) w w' := by
  obtain ⟨⟨t, p, h1⟩, t', p', h2⟩ := he
  cases h : Lib.atoiAll s.data.toList with
  | ok v =>
    refine (Tryd.strconv_Atoi_ok s (by omega) v h w).mono ?_
    rintro e w' ⟨rfl, hw⟩
    refine ⟨v, _, rfl, atoi_ok h, fun n hn e => ?_, ?_⟩
    · rw [e, atoi_itoa hn] at h; injection h with h; exact h.symm
    · rcases hw with rfl | ⟨t, rfl⟩
      · exact Kp.refl _ _
      · exact Kp.bytes _ _ _
  | range =>
    refine (Tryd.strconv_Atoi_range s (by omega) h (.iface t' p') w h2 (.inr ⟨_, _, rfl⟩)).mono ?_
    rintro e w' ⟨N, rfl, _, _, hb⟩
    refine ⟨_, _, rfl, by unfold Lib.atoiSat okN; split <;> omega, fun n hn e => ?_, Kp.of_below hb _⟩
    rw [e, atoi_itoa hn] at h; cases h
  | _ =>
    refine (Tryd.strconv_Atoi_syntax s (by omega) h (.iface t p) w h1 (.inr ⟨_, _, rfl⟩)).mono ?_
    rintro e w' ⟨N, rfl, _, _, hb⟩
    refine ⟨0, _, rfl, ⟨by omega, by omega⟩, fun n hn e => ?_, Kp.of_below hb _⟩
    rw [e, atoi_itoa hn] at h; cases h

set_option maxRecDepth 100000 in
theorem ParseUint_any (s : ByteArray) (w : World) (hs : s.size ≤ 100000) (he : Ev w) :
    Calls Tryd.prog 18 #[.string s, .int .i64 16, .int .i64 64] w fun e w' => ∃ (v : Nat) (E : Value), e = .returned (.tuple #[.int .u64 (v : Int), E]) ∧ v < 18446744073709551616 ∧
      (∀ N, N < 18446744073709551616 → s.data.toList = hexN 16 N → v = N) ∧ Kp (fun _ => False) w w' := by
  have HE := Lib.hid he
  have HP := Lib.hid (ParseUint_in s w hs)
  have HSy := Lib.hid (fun (u : World) (hu : Ev u) => show Calls Tryd.prog 37 #[.string ⟨#[80, 97, 114, 115, 101, 85, 105, 110, 116]⟩, .string s, .int .i64 16, .int .i64 64, .iface 89 (.int .i64 2)] u (fun e w' => ∃ E, e = .returned E ∧ Kp (fun _ => False) u w') from by
    obtain ⟨⟨t, p, h1⟩, -⟩ := hu
    refine (Tryd.strconv_toError_syntax ⟨#[80, 97, 114, 115, 101, 85, 105, 110, 116]⟩ s 16 64 (.iface t p) u (by omega) h1 (.inr ⟨_, _, rfl⟩)).mono ?_
    rintro e w' ⟨N, rfl, _, _, hb⟩
    exact ⟨_, rfl, Kp.of_below hb _⟩)
  have HRa := Lib.hid (fun (u : World) (hu : Ev u) => show Calls Tryd.prog 37 #[.string ⟨#[80, 97, 114, 115, 101, 85, 105, 110, 116]⟩, .string s, .int .i64 16, .int .i64 64, .iface 89 (.int .i64 1)] u (fun e w' => ∃ E, e = .returned E ∧ Kp (fun _ => False) u w') from by
    obtain ⟨-, t, p, h1⟩ := hu
    refine (Tryd.strconv_toError_range ⟨#[80, 97, 114, 115, 101, 85, 105, 110, 116]⟩ s 16 64 (.iface t p) u (by omega) h1 (.inr ⟨_, _, rfl⟩)).mono ?_
    rintro e w' ⟨N, rfl, _, _, hb⟩
    exact ⟨_, rfl, Kp.of_below hb _⟩)
  clear he hs
  go_enter Tryd.func18, Tryd.ntmps18
  go_wp2_with fail
  refine HP.out.mono ?_
  rintro e w1 ⟨v, E, rfl, hE, hv, hn, hK⟩
  have HV := Lib.hid (And.intro hv (And.intro hn hK))
  clear hv hn hK
  rcases hE with rfl | rfl | rfl
  · go_wp2_with fail
    go_ret2
    exact ⟨v, _, rfl, HV.out.1, HV.out.2.1, HV.out.2.2⟩
  · go_wp2_with fail
    refine (HSy.out _ (HE.out.kp HV.out.2.2)).mono ?_
    rintro e w2 ⟨E, rfl, hK⟩
    have HK := Lib.hid (HV.out.2.2.trans hK (fun _ _ h => h))
    clear hK
    go_wp2_with fail
    go_ret2
    exact ⟨v, _, rfl, HV.out.1, HV.out.2.1, HK.out⟩
  · go_wp2_with fail
    refine (HRa.out _ (HE.out.kp HV.out.2.2)).mono ?_
    rintro e w2 ⟨E, rfl, hK⟩
    have HK := Lib.hid (HV.out.2.2.trans hK (fun _ _ h => h))
    clear hK
    go_wp2_with fail
    go_ret2
    exact ⟨v, _, rfl, HV.out.1, HV.out.2.1, HK.out⟩

end Go.Proofs.YtpihfgpgdjjfhaaDoor

/-
  score.Read, of any text.
-/
namespace Go.Proofs.YtpihfgpgdjjfhaaDoor
open Go.RowKit

def idxV (c : Nat) : Int := if 48 ≤ c ∧ c ≤ 57 then (c : Int) - 48 else if 97 ≤ c ∧ c ≤ 102 then (c : Int) - 87 else -1

set_option maxRecDepth 100000 in
theorem idx_key : ∀ c : Fin 256, Lib.indexByte [48, 49, 50, 51, 52, 53, 54, 55, 56, 57, 97, 98, 99, 100, 101, 102] (c.val : Int).toNat.toUInt8 = idxV c.val := by decide +kernel

theorem frombits (b : Nat) (w : World) : (callFunc 40 #[.int .u64 (b : Int)]).run Tryd.prog w = .ok (.value (.float .f64 b)) w := by
  rw [run_callFunc_extern (e := Extern.MathFloatBits.float64frombits) Tryd.func40 (by kernel_rfl) (by kernel_rfl) (by kernel_rfl) (by kernel_rfl)]
  rfl

theorem or16 (m d : Nat) (hd : d < 16) : m * 16 ||| d = m * 16 + d := by
  have h := Nat.two_pow_add_eq_or_of_lt (i := 4) (b := d) (by omega) m
  rw [show 2 ^ 4 * m = m * 16 by omega] at h
  exact h.symm

/-- what Read leaves -/
def ScoreP (s : ByteArray) (w : World) (e : Ending) (w' : World) : Prop :=
  ∃ (b : Nat) (E : Int), e = .returned (.tuple #[.float .f64 b, .int .i64 E]) ∧ b < 18446744073709551616 ∧ (∀ N, N < 18446744073709551616 → canon N = N → s.data.toList = hexN 16 N → b = N) ∧ Kp (fun _ => False) w w'

set_option maxRecDepth 100000 in
set_option maxHeartbeats 4000000 in
theorem score_Read (s : ByteArray) (w : World) :
    Calls Tryd.prog 19 #[.string s] w (ScoreP s w) := by
  have hfb := fun b u => frombits b u
  by_cases h16 : s.size = 16
  · go_enter Tryd.func19, Tryd.ntmps19
    go_wp2_with fail
    go_loopw [4, 13] (fun v4 v13 wr => ∃ i m : Nat, v4 = .int .u64 (m : Int) ∧ v13 = .int .i64 (i : Int) ∧ i ≤ 16 ∧ m < 16 ^ i ∧ (∀ N, N < 18446744073709551616 → s.data.toList = hexN 16 N → m = N / 16 ^ (16 - i)) ∧ wr = w) (fun _ v13 _ => 16 - (intOf v13).toNat)
    case atStart => exact ⟨0, 0, rfl, rfl, by omega, by simp, fun N hN _ => by rw [Nat.div_eq_of_lt (by omega)], rfl⟩
    case round =>
      obtain ⟨i, m, rfl, rfl, hi, hm, hr, hw⟩ := hrel
      subst hw
      have HRn := Lib.hid hr
      have HMl := Lib.hid hm
      have hm64 : m < 18446744073709551616 := Nat.lt_of_lt_of_le hm (Nat.pow_le_pow_right (show 16 > 0 by omega) hi)
      clear hr hm
      by_cases hlt : i < 16
      · have hd : decide ((i : Int) < 16) = true := by simp; omega
        have hlt2 : i < s.size := by omega
        have hB := bt_eq hlt2
        have hc256 := bt_lt s i
        obtain ⟨C, hC⟩ : ∃ C, C = bt s i := ⟨_, rfl⟩
        rw [← hC] at hB hc256
        have HC := Lib.hid hC
        have HIl := Lib.hid hlt2
        have HIx := Lib.hid (fun u => Tryd.strings_IndexByte ⟨#[48, 49, 50, 51, 52, 53, 54, 55, 56, 57, 97, 98, 99, 100, 101, 102]⟩ (C : Int) u)
        rw [show (⟨#[48, 49, 50, 51, 52, 53, 54, 55, 56, 57, 97, 98, 99, 100, 101, 102]⟩ : ByteArray).data.toList = [48, 49, 50, 51, 52, 53, 54, 55, 56, 57, 97, 98, 99, 100, 101, 102] from rfl, idx_key ⟨C, hc256⟩] at HIx
        simp only at HIx
        have i0 : (0 : Int) ≤ (i : Int) := by omega
        have hm15 : m < 1152921504606846976 := Nat.lt_of_lt_of_le HMl.out (by have := Nat.pow_le_pow_right (show 16 > 0 by omega) (show i ≤ 15 by omega); omega)
        have HNd := Lib.hid (fun N (hN : N < 18446744073709551616) (e : s.data.toList = hexN 16 N) => show idxV C = (N / 16 ^ (15 - i) % 16 : Nat) by
          obtain ⟨q1, q2, q3, q4⟩ := hex_here e HIl.out
          rw [← HC.out] at q2
          have hlt16 : N / 16 ^ (15 - i) % 16 < 16 := Nat.mod_lt _ (by omega)
          unfold idxV
          split at q2
          · rw [if_pos (by omega)]; omega
          · rw [if_neg (by omega), if_pos (by omega)]; omega)
        clear hC
        by_cases hneg : idxV C < 0
        · have r0 : decide (idxV C < 0) = true := decide_eq_true hneg
          have HBad := Lib.hid (fun N (hN : N < 18446744073709551616) (e : s.data.toList = hexN 16 N) => show False by
            have := HNd.out N hN e
            omega)
          clear hneg
          go_wp2_with fail
          refine (HIx.out _).mono ?_
          rintro e w' ⟨rfl, rfl⟩
          go_wp2_with fail
          go_ret2
          exact ⟨0, 2, rfl, by omega, fun N hN _ e => absurd e (HBad.out N hN), Kp.refl _ _⟩
        · obtain ⟨d, hdv, hd16⟩ : ∃ d : Nat, idxV C = (d : Int) ∧ d < 16 := by
            refine ⟨(idxV C).toNat, by omega, ?_⟩
            unfold idxV
            split
            · omega
            · split <;> omega
          rw [hdv] at HIx HNd
          have r0 : decide ((d : Int) < 0) = false := by simp
          obtain ⟨M, hM⟩ : ∃ M, M = m * 16 := ⟨_, rfl⟩
          obtain ⟨Z, hZ⟩ : ∃ Z, Z = M + d := ⟨_, rfl⟩
          have e1 : IntKind.u64.wrap ((m : Int) * 16) = (M : Int) := by unfold IntKind.wrap; simp [IntKind.signed, IntKind.bits]; omega
          have e2 : IntKind.u64.wrap (d : Int) = (d : Int) := by unfold IntKind.wrap; simp [IntKind.signed, IntKind.bits]; omega
          have e3 : bits BinOp.or IntKind.u64 (M : Int) (d : Int) = (Z : Int) := by
            rw [bits_or_u64_nat M d (by omega) (by omega), hM, or16 m d hd16, hZ, hM]
          have HRel := Lib.hid (show Z < 16 ^ (i + 1) ∧ ∀ N, N < 18446744073709551616 → s.data.toList = hexN 16 N → Z = N / 16 ^ (16 - (i + 1)) from ⟨by rw [Nat.pow_succ]; have := HMl.out; omega, fun N hN e => by
            obtain ⟨q1, q2, q3, q4⟩ := hex_here e HIl.out
            have q5 := HRn.out N hN e
            have q6 := HNd.out N hN e
            rw [show 16 - (i + 1) = 15 - i by omega]
            generalize N / 16 ^ (15 - i) = Y at *
            omega⟩)
          clear hneg hdv hM hZ hm64 hm15
          go_wp2_with fail
          refine (HIx.out _).mono ?_
          rintro e w' ⟨rfl, rfl⟩
          go_wp2_with fail
          go_roundw
          case rel => exact ⟨i + 1, Z, rfl, by go_num, by omega, HRel.out.1, HRel.out.2, by first | rfl | trivial⟩
          case measure => simp [intOf]; omega
      · have hd : decide ((i : Int) < 16) = false := by simp; omega
        have HEnd := Lib.hid (fun N (hN : N < 18446744073709551616) (e : s.data.toList = hexN 16 N) => show m = N by
          have h2 := HRn.out N hN e
          rw [show 16 - i = 0 by omega, Nat.pow_zero, Nat.div_one] at h2
          exact h2)
        have HM6 := Lib.hid hm64
        obtain ⟨K, hK⟩ : ∃ K, canon m = K := ⟨_, rfl⟩
        have HSb := Lib.hid (fun u => score_bits m u)
        rw [hK] at HSb
        have HKn := Lib.hid hK
        clear hm64 hK
        by_cases hk : K = m
        · have hb : ((K : Int) == (m : Int)) = true := by rw [hk]; simp
          clear hk
          go_wp2_with fail
          refine (HSb.out _).mono ?_
          rintro e w' ⟨rfl, rfl⟩
          go_wp2_with fail
          go_ret2
          exact ⟨m, 0, rfl, HM6.out, fun N hN _ e => HEnd.out N hN e, Kp.refl _ _⟩
        · have hb : ((K : Int) == (m : Int)) = false := by rw [beq_eq_false_iff_ne]; omega
          have HBad := Lib.hid (fun N (hN : N < 18446744073709551616) (hc : canon N = N) (e : s.data.toList = hexN 16 N) => show False by
            have h1 := HEnd.out N hN e
            rw [← h1, HKn.out] at hc
            exact hk hc)
          clear hk
          go_wp2_with fail
          refine (HSb.out _).mono ?_
          rintro e w' ⟨rfl, rfl⟩
          go_wp2_with fail
          go_ret2
          exact ⟨0, 2, rfl, by omega, fun N hN hc e => absurd e (HBad.out N hN hc), Kp.refl _ _⟩
  · have hne : ((s.size : Int) != 16) = true := by simp; omega
    have HE := Lib.hid (show ScoreP s w (.returned (.tuple #[.float .f64 0, .int .i64 2])) w from ⟨0, 2, rfl, by omega, fun N hN _ e => absurd (by rw [Lib.size_eq, e, hexN_length]) h16, Kp.refl _ _⟩)
    clear h16
    go_enter Tryd.func19, Tryd.ntmps19
    go_wp2_with fail
    go_ret2
    exact HE.out

end Go.Proofs.YtpihfgpgdjjfhaaDoor

/-
  A map from texts to texts, of the call's own.
-/
namespace Go.Proofs.YtpihfgpgdjjfhaaDoor
open Go.RowKit
open Go.Maps (Keyed)

theorem str_keyed : Keyed Tryd.prog 9 :=
  Maps.string_keyed Tryd.underlying9

theorem str_key {k : ByteArray} (hk : k.size ≤ maxLen) : keyOf Tryd.prog 9 (.string k) = some (.string k.data.toList) := by
  unfold keyOf
  rw [Tryd.underlying9]
  simp only
  unfold mapKey
  rw [Tryd.underlying9]
  simp [hk]

theorem zero_str (w : World) : (zeroValue 9).run Tryd.prog w = .ok (.string .empty) w := Tryd.zeroValue9 w

/-- block b is a map in which F tells what stands by each key, or the empty text -/
def SMap (w : World) (b n : Nat) (F : ByteArray → ByteArray) : Prop :=
  ∃ D : DataW Unit, w.ownsMap Tryd.prog 9 (plainElem Tryd.prog 9) b n D ∧ Maps.IsMap D ∧
    ∀ k l, keyOf Tryd.prog 9 (.string k) = some l → D.atKey l (.lit (.string [])) = .lit (.string (F k).data.toList)

theorem SMap.made (w : World) : SMap (w.alloc (.map #[] 0)) w.heap.size 0 (fun _ => ⟨#[]⟩) :=
  ⟨.map [], World.ownsMap_made _ _ _ _, Maps.isMap_empty, fun k l _ => by simp [DataW.atKey]⟩

theorem SMap.lt {w : World} {b n : Nat} {F : ByteArray → ByteArray} (h : SMap w b n F) : b < w.heap.size := by
  obtain ⟨D, h, _⟩ := h
  exact h.lt

theorem SMap.kp {S : Nat → Prop} {w w' : World} {b n : Nat} {F : ByteArray → ByteArray} (h : SMap w b n F) (k : Kp S w w') (hS : ¬ S b) : SMap w' b n F := by
  have hb := h.lt
  obtain ⟨D, ⟨es, clock, h1, h2⟩, h3⟩ := h
  exact ⟨D, ⟨es, clock, (k.block b hb hS).trans h1, h2⟩, h3⟩

theorem SMap.look {w : World} {b n : Nat} {F : ByteArray → ByteArray} (h : SMap w b n F) {k : ByteArray} (hk : k.size ≤ maxLen) :
    (Instr.lookup 44 (.map (some b)) (.string k) false).run Tryd.prog w = .ok (.string (F k)) w := by
  obtain ⟨D, h1, _, h2⟩ := h
  have hl := str_key hk
  obtain ⟨v, ps, hr, hv⟩ := h1.lookup str_keyed Tryd.underlying44 (zero_str w) (plainElem_string Tryd.underlying9 (s := .empty) (Nat.zero_le _)) hl
  have e0 : (ByteArray.empty).data.toList = ([] : List UInt8) := rfl
  rw [e0, h2 k _ hl] at hv
  obtain ⟨s, rfl, he, _⟩ := plainElem_string_inv Tryd.underlying9 hv
  simp only [Prod.mk.injEq, DataW.lit.injEq, Lit.string.injEq] at he
  have : s = F k := by
    apply ByteArray.ext
    apply Array.ext'
    exact he.1.symm
  rw [this] at hr
  exact hr

theorem SMap.put {w : World} {b n : Nat} {F : ByteArray → ByteArray} (h : SMap w b n F) (hn : n < maxLen) {k v : ByteArray} (hk : k.size ≤ maxLen) (hv : v.size ≤ maxLen) :
    ∃ w', (Instr.mapUpdate 44 (.map (some b)) (.string k) (.string v)).run Tryd.prog w = .ok () w' ∧ SMap w' b (n + 1) (fun x => if x = k then v else F x) ∧ Kp (· = b) w w' := by
  obtain ⟨D, h1, hD, h2⟩ := h
  have hl := str_key hk
  obtain ⟨w', hr, h3, hg⟩ := h1.update str_keyed Tryd.underlying44 hn hl (plainElem_string Tryd.underlying9 hv)
  refine ⟨w', hr, ⟨_, h3, hD.put _ _, fun k' l' hl' => ?_⟩, (Kp.refl _ w).grown hg (fun j hj _ => by simpa using hj.symm)⟩
  by_cases e : k' = k
  · subst e
    obtain rfl := Option.some.inj (hl.symm.trans hl')
    rw [Maps.atKey_put_same hD (str_keyed.key hl)]
    show _ = DataW.lit (Lit.string (if k' = k' then v else F k').data.toList)
    rw [if_pos rfl]
  · have hne : l' ≠ .string k.data.toList := by
      intro e2
      subst e2
      have := str_keyed.inj hl' hl
      simp at this
      exact e this
    rw [Maps.atKey_put_other hne, h2 k' l' hl']
    show _ = DataW.lit (Lit.string (if k' = k then v else F k').data.toList)
    rw [if_neg e]

end Go.Proofs.YtpihfgpgdjjfhaaDoor

/-
  octet.Line and the reference's Line.
-/
namespace Go.Proofs.YtpihfgpgdjjfhaaDoor
open Go.RowKit

def lineV (t : ByteArray × Nat × Nat) : Value := .tuple #[.string t.1, .int .i64 t.2.1, .int .i64 t.2.2]

theorem lineT_out {s : ByteArray} {x : Int} (h : x < 0 ∨ (s.size : Int) < x) : lineT s x = (⟨#[]⟩, 0, 1) := by unfold lineT; rw [if_pos h]
theorem lineT_in {s : ByteArray} {at_ : Nat} (h : at_ ≤ s.size) : lineT s at_ = match feedAt s at_ with | some i => (s.extract at_ i, i + 1, 0) | none => (⟨#[]⟩, 0, 3) := by
  unfold lineT; rw [if_neg (by omega), Int.toNat_natCast] <;> rfl

end Go.Proofs.YtpihfgpgdjjfhaaDoor
