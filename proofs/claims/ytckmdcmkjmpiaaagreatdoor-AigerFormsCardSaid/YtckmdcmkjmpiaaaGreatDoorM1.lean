/-
  Circuits, plainly: which literals are owned and used, and the order of gates. No program in sight.
-/
import Derived.WalkKit
import Derived.WalkSpells
import Derived.WalkLawsBesides
import Derived.Lib.Hide
import Derived.Laws.AppendOwnNone
import Derived.Maps.AppendAt
import Derived.Test.YtckmdcmkjmpiaaaGreatDoorRows
import Derived.Deep.DeepCutAuto
import Derived.Deep.CutBlock
import Derived.Deep.RegionHeld3
import Derived.RangeFuncCalls
import Derived.Deep.QuietTactic
import Derived.BigQuiet
import Derived.Laws.BitsAllLaws
import Derived.Lib.Atoi
import Derived.Lib.Strings
import Derived.Shelf.Strings.Builder1
import Derived.Shelf.Strings.Builder2
import Derived.Shelf.Strings.OnBuilder
import Derived.Shelf.Small.Strs
import Derived.Shelf.Small.Wraps
import Derived.Shelf.Strconv.Atoi
import Derived.Shelf.Strconv.Itoa0
import Derived.Shelf.Strconv.Itoa1
import Derived.Shelf.LaysM
import Derived.Shelf.Strconv.Itoa2
import Derived.Shelf.Strconv.Itoa3
import Derived.Shelf.Strings.Search1
import Derived.Shelf.Strings.Prefix
import Derived.Ground.Names2Prog
import Derived.Shelf.Slices.Clone
import Derived.Test.YtckmdcmkjmpiaaaGreatDoorProg
import Derived.Lib.ConvBytes
import Derived.Lib.SplitLaws
import Derived.Lib.IndexBytes
import Derived.Lib.IndexLaws
import Derived.Lib.ItoaNum
import Derived.Deep.Quiet
import Derived.Orders
set_option linter.unusedVariables false
set_option linter.unusedSimpArgs false
namespace Go.Proofs.YtckmdcmkjmpiaaaGreatDoor

/-- a circuit, but for its symbols and its comment -/
structure Circ where
  max : Int
  ins : List Int
  lats : List (Int × Int × Int)
  outs : List Int
  bads : List Int
  cons : List Int
  gates : List (Int × Int × Int)

def Circ.owned (C : Circ) : List Int := C.ins ++ C.lats.map (fun x => x.1) ++ C.gates.map (fun x => x.1)
def Circ.used (C : Circ) : List Int := C.outs ++ C.bads ++ C.cons ++ C.lats.map (fun x => x.2.1) ++ C.gates.flatMap (fun g => [g.2.1, g.2.2])

def g3 (G : List (Int × Int × Int)) (i : Nat) : Int × Int × Int := G[i]?.getD (0, 0, 0)
theorem g3_at {G : List (Int × Int × Int)} {i : Nat} (h : i < G.length) : G[i]? = some (g3 G i) := by unfold g3; rw [List.getElem?_eq_getElem h]; rfl
theorem g3_mem {G : List (Int × Int × Int)} {i : Nat} (h : i < G.length) : g3 G i ∈ G := by
  have := g3_at h
  exact List.mem_of_getElem? this

/-- a gate of a variable is not told yet -/
def waitsB (G : List (Int × Int × Int)) (out : List Nat) (l : Int) : Bool := (List.range G.length).any fun i => !out.contains i && decide ((g3 G i).1 / 2 = l / 2)
def readyB (G : List (Int × Int × Int)) (out : List Nat) (i : Nat) : Bool := !out.contains i && !waitsB G out (g3 G i).2.1 && !waitsB G out (g3 G i).2.2
def nextO (G : List (Int × Int × Int)) (out : List Nat) : Option Nat := (List.range G.length).find? (readyB G out)
def ordFrom (G : List (Int × Int × Int)) : Nat → List Nat → List Nat
  | 0, out => out
  | f + 1, out => match nextO G out with
    | none => out
    | some i => ordFrom G f (out ++ [i])
/-- the gates' places, in order -/
def ordO (G : List (Int × Int × Int)) : List Nat := ordFrom G G.length []

/-- what stands ahead -/
structure OrdAt (G : List (Int × Int × Int)) (out : List Nat) : Prop where
  nd : out.Nodup
  lt : ∀ i, i ∈ out → i < G.length
  eq : ordFrom G (G.length - out.length) out = ordO G

theorem find_least {n : Nat} {p : Nat → Bool} {i : Nat} (hi : i < n) (hp : p i = true) (hl : ∀ j, j < i → p j = false) : (List.range n).find? p = some i := by
  rw [List.find?_range_eq_some]
  refine ⟨hp, by simpa using hi, fun j hj => by simp [hl j hj]⟩

theorem nextO_some {G : List (Int × Int × Int)} {out : List Nat} {i : Nat} (h : nextO G out = some i) : i < G.length ∧ readyB G out i = true := by
  unfold nextO at h
  have h1 := List.mem_of_find?_eq_some h
  have h2 := List.find?_some h
  exact ⟨List.mem_range.1 h1, h2⟩

theorem readyB_not_mem {G : List (Int × Int × Int)} {out : List Nat} {i : Nat} (h : readyB G out i = true) : i ∉ out := by
  unfold readyB at h
  simp at h
  exact h.1.1

theorem nodup_le : ∀ (n : Nat) {l : List Nat}, l.Nodup → (∀ i, i ∈ l → i < n) → l.length ≤ n
  | 0, l, _, h => by
    cases l with
    | nil => simp
    | cons x r => have := h x (by simp); omega
  | n + 1, l, hn, h => by
    by_cases hm : n ∈ l
    · have h1 := nodup_le n (l := l.erase n) (hn.erase n) (fun i hi => by
        have h2 := (hn.mem_erase_iff).1 hi
        have := h i h2.2
        have := h2.1
        omega)
      rw [List.length_erase_of_mem hm] at h1
      omega
    · have := nodup_le n hn (fun i hi => by
        have := h i hi
        have : i ≠ n := fun e => hm (e ▸ hi)
        omega)
      omega

theorem nodup_lt {l : List Nat} (hn : l.Nodup) {n i : Nat} (h : ∀ j, j ∈ l → j < n) (hi : i < n) (hm : i ∉ l) : l.length < n := by
  have h1 : (i :: l).Nodup := List.nodup_cons.2 ⟨hm, hn⟩
  have := nodup_le n h1 (fun j hj => by
    rcases List.mem_cons.1 hj with e | e
    · omega
    · exact h j e)
  rw [List.length_cons] at this
  omega

theorem OrdAt.start (G : List (Int × Int × Int)) : OrdAt G [] := ⟨List.nodup_nil, fun i h => by simp at h, rfl⟩

theorem OrdAt.step {G : List (Int × Int × Int)} {out : List Nat} (h : OrdAt G out) {i : Nat} (hn : nextO G out = some i) : OrdAt G (out ++ [i]) := by
  obtain ⟨hi, hr⟩ := nextO_some hn
  have hm := readyB_not_mem hr
  refine ⟨?_, ?_, ?_⟩
  · rw [List.nodup_append]
    refine ⟨h.nd, by simp, fun a ha b hb => ?_⟩
    simp at hb
    subst hb
    intro e
    subst e
    exact hm ha
  · intro j hj
    rcases List.mem_append.1 hj with e | e
    · exact h.lt j e
    · simp at e; omega
  · have hl := nodup_lt h.nd h.lt hi hm
    have he := h.eq
    rw [show G.length - out.length = (G.length - (out.length + 1)) + 1 by omega] at he
    unfold ordFrom at he
    rw [hn] at he
    rw [List.length_append]
    exact he

theorem OrdAt.done {G : List (Int × Int × Int)} {out : List Nat} (h : OrdAt G out) (hn : nextO G out = none) : ordO G = out := by
  rw [← h.eq]
  cases G.length - out.length with
  | zero => rfl
  | succ f => unfold ordFrom; rw [hn]

theorem OrdAt.len {G : List (Int × Int × Int)} {out : List Nat} (h : OrdAt G out) : out.length ≤ G.length := nodup_le _ h.nd h.lt

theorem OrdAt.lenlt {G : List (Int × Int × Int)} {out : List Nat} (h : OrdAt G out) {i : Nat} (hn : nextO G out = some i) : out.length < G.length :=
  nodup_lt h.nd h.lt (nextO_some hn).1 (readyB_not_mem (nextO_some hn).2)

theorem ordFrom_at {G : List (Int × Int × Int)} : ∀ (f : Nat) {out : List Nat}, OrdAt G out → OrdAt G (ordFrom G f out)
  | 0, _, h => h
  | f + 1, out, h => by
    unfold ordFrom
    cases hn : nextO G out with
    | none => exact h
    | some i => exact ordFrom_at f (h.step hn)

theorem ordO_at (G : List (Int × Int × Int)) : OrdAt G (ordO G) := ordFrom_at _ (OrdAt.start G)

/-- no two gates are of one variable -/
def GoodG (G : List (Int × Int × Int)) : Prop := ∀ i j, i < G.length → j < G.length → (g3 G i).1 / 2 = (g3 G j).1 / 2 → i = j

def pins (G : List (Int × Int × Int)) (k : Nat) : List Int := [(g3 G k).2.1, (g3 G k).2.2]
/-- for how many of its two literals a gate waits -/
def cntO (G : List (Int × Int × Int)) (out : List Nat) (k : Nat) : Nat := ((pins G k).filter (waitsB G out)).length

theorem ready_iff {G : List (Int × Int × Int)} {out : List Nat} {i : Nat} : readyB G out i = true ↔ i ∉ out ∧ cntO G out i = 0 := by
  unfold readyB cntO pins
  simp
  rw [and_assoc]

theorem waitsB_iff {G : List (Int × Int × Int)} {out : List Nat} {l : Int} : waitsB G out l = true ↔ ∃ i, i < G.length ∧ i ∉ out ∧ (g3 G i).1 / 2 = l / 2 := by
  unfold waitsB
  simp

/-- the gates that have gate i among their literals, as often as they have -/
def aboveL (G : List (Int × Int × Int)) (i : Nat) : Nat → List Nat
  | 0 => []
  | n + 1 => aboveL G i n ++ ((pins G n).filter (fun p => decide (p / 2 = (g3 G i).1 / 2))).map (fun _ => n)

theorem count_map_const {α : Type} (l : List α) (n k : Nat) : (l.map (fun _ => n)).count k = if k = n then l.length else 0 := by
  induction l with
  | nil => simp
  | cons x l ih =>
    rw [List.map_cons, List.count_cons, ih]
    by_cases h : k = n
    · subst h; simp
    · simp [h]; omega

theorem aboveL_count (G : List (Int × Int × Int)) (i : Nat) : ∀ n k, (aboveL G i n).count k = if k < n then ((pins G k).filter (fun p => decide (p / 2 = (g3 G i).1 / 2))).length else 0
  | 0, k => by simp [aboveL]
  | n + 1, k => by
    unfold aboveL
    rw [List.count_append, aboveL_count G i n k, count_map_const]
    by_cases h : k = n
    · subst h; simp
    · rw [if_neg h]
      by_cases h2 : k < n
      · rw [if_pos h2, if_pos (by omega)]; omega
      · rw [if_neg h2, if_neg (by omega)]

theorem aboveL_lt {G : List (Int × Int × Int)} {i : Nat} : ∀ {n k : Nat}, k ∈ aboveL G i n → k < n
  | 0, k, h => by simp [aboveL] at h
  | n + 1, k, h => by
    unfold aboveL at h
    rcases List.mem_append.1 h with h | h
    · have := aboveL_lt h; omega
    · simp at h; omega

theorem waits_step {G : List (Int × Int × Int)} (hG : GoodG G) {out : List Nat} {i : Nat} (hi : i < G.length) (hm : i ∉ out) (p : Int) :
    (if waitsB G (out ++ [i]) p = true then 1 else 0) + (if p / 2 = (g3 G i).1 / 2 then 1 else 0) = (if waitsB G out p = true then 1 else 0) := by
  by_cases hp : p / 2 = (g3 G i).1 / 2
  · have h1 : waitsB G out p = true := waitsB_iff.2 ⟨i, hi, hm, hp.symm⟩
    have h2 : ¬ waitsB G (out ++ [i]) p = true := by
      intro h
      obtain ⟨j, hj, hjm, e⟩ := waitsB_iff.1 h
      have : j = i := hG j i hj hi (e.trans hp)
      subst this
      simp at hjm
    rw [if_neg h2, if_pos hp, if_pos h1]
  · have h3 : waitsB G (out ++ [i]) p = true ↔ waitsB G out p = true := by
      rw [waitsB_iff, waitsB_iff]
      constructor
      · rintro ⟨j, hj, hjm, e⟩
        exact ⟨j, hj, fun h => hjm (List.mem_append.2 (.inl h)), e⟩
      · rintro ⟨j, hj, hjm, e⟩
        refine ⟨j, hj, fun h => ?_, e⟩
        rcases List.mem_append.1 h with h | h
        · exact hjm h
        · simp at h; subst h; exact hp e.symm
    rw [if_neg hp]
    simp only [h3]
    omega

theorem filter_two (p q : Int) (f : Int → Bool) : ([p, q].filter f).length = (if f p = true then 1 else 0) + (if f q = true then 1 else 0) := by
  by_cases h1 : f p = true <;> by_cases h2 : f q = true <;> simp [h1, h2]

theorem cnt_step {G : List (Int × Int × Int)} (hG : GoodG G) {out : List Nat} {i : Nat} (hi : i < G.length) (hm : i ∉ out) {k : Nat} (hk : k < G.length) :
    cntO G (out ++ [i]) k + (aboveL G i G.length).count k = cntO G out k := by
  rw [aboveL_count, if_pos hk]
  unfold cntO pins
  rw [filter_two, filter_two, filter_two]
  have h1 := waits_step hG hi hm (g3 G k).2.1
  have h2 := waits_step hG hi hm (g3 G k).2.2
  simp only [decide_eq_true_eq]
  omega

/-- between two takings: the gates that are told, and what is lacking -/
structure MidO (G : List (Int × Int × Int)) (out : List Nat) : Prop where
  at_ : OrdAt G out
  zero : ∀ k, k ∈ out → cntO G out k = 0

theorem MidO.start (G : List (Int × Int × Int)) : MidO G [] := ⟨OrdAt.start G, fun k h => by simp at h⟩

theorem cnt_le {G : List (Int × Int × Int)} (hG : GoodG G) {out : List Nat} {i : Nat} (hi : i < G.length) (hm : i ∉ out) {k : Nat} (hk : k < G.length) : cntO G (out ++ [i]) k ≤ cntO G out k := by
  have := cnt_step hG hi hm hk
  omega

theorem MidO.step {G : List (Int × Int × Int)} (hG : GoodG G) {out : List Nat} (h : MidO G out) {i : Nat} (hn : nextO G out = some i) : MidO G (out ++ [i]) := by
  obtain ⟨hi, hr⟩ := nextO_some hn
  obtain ⟨hm, hz⟩ := ready_iff.1 hr
  refine ⟨h.at_.step hn, fun k hk => ?_⟩
  rcases List.mem_append.1 hk with e | e
  · have := cnt_le hG hi hm (h.at_.lt k e); have := h.zero k e; omega
  · simp at e; subst e; have := cnt_le hG hi hm hi; omega

/-- the place that is taken is the least that waits for nothing -/
theorem next_of_least {G : List (Int × Int × Int)} {out : List Nat} {i : Nat} (hi : i < G.length) (hm : i ∉ out) (hz : cntO G out i = 0) (hl : ∀ j, j < i → j ∉ out → cntO G out j ≠ 0) : nextO G out = some i := by
  unfold nextO
  refine find_least hi (ready_iff.2 ⟨hm, hz⟩) (fun j hj => ?_)
  by_cases h : readyB G out j = true
  · have := ready_iff.1 h
    exact absurd this.2 (hl j hj this.1)
  · simpa using h

theorem next_none {G : List (Int × Int × Int)} {out : List Nat} (h : ∀ j, j < G.length → j ∉ out → cntO G out j ≠ 0) : nextO G out = none := by
  unfold nextO
  rw [List.find?_eq_none]
  intro j hj hr
  have := ready_iff.1 hr
  exact h j (List.mem_range.1 hj) this.1 this.2

/-- what is lacking while the gates above one are gone through -/
theorem part_count {G : List (Int × Int × Int)} (hG : GoodG G) {out : List Nat} (h : MidO G out) {i : Nat} (hn : nextO G out = some i) {P R : List Nat} {k : Nat} (e : aboveL G i G.length = P ++ k :: R) :
    k < G.length ∧ P.count k + 1 ≤ cntO G out k ∧ k ∉ out ++ [i] := by
  obtain ⟨hi, hr⟩ := nextO_some hn
  obtain ⟨hm, hz⟩ := ready_iff.1 hr
  have hk : k < G.length := aboveL_lt (i := i) (by rw [e]; simp)
  have h1 := cnt_step hG hi hm hk
  rw [e, List.count_append, List.count_cons] at h1
  simp only [beq_self_eq_true, if_true] at h1
  refine ⟨hk, by omega, fun hmem => ?_⟩
  rcases List.mem_append.1 hmem with h2 | h2
  · have := h.zero k h2; omega
  · simp at h2; subst h2; omega

end Go.Proofs.YtckmdcmkjmpiaaaGreatDoor

/-
  What is wrong with a circuit, plainly, in the program's and in the document's words. No program in sight.
-/
namespace Go.Proofs.YtckmdcmkjmpiaaaGreatDoor

def ownB (m l : Int) : Bool := decide (1 < l) && (decide (l % 2 = 0) && decide (l ≤ 2 * m))
def resB (x : Int × Int × Int) : Bool := decide (x.2.2 = 0) || (decide (x.2.2 = 1) || decide (x.2.2 = x.1))
def useB (m l : Int) : Bool := decide (0 ≤ l) && decide (l ≤ 2 * m + 1)

def rangeB (C : Circ) : Bool := C.owned.all (ownB C.max) && C.lats.all resB && C.used.all (useB C.max)
def knownB (own : List Int) (l : Int) : Bool := decide (l / 2 = 0) || own.any (fun y => decide (y / 2 = l / 2))

/-- the number of what is wrong first; 0: nothing -/
def ckCode (C : Circ) : Int :=
  if C.max < 0 ∨ 16777216 < C.max then 5
  else if rangeB C = false then 5
  else if ¬ C.owned.Nodup then 7
  else if C.used.all (knownB C.owned) = false then 9
  else if (ordO C.gates).length < C.gates.length then 8 else 0

theorem ownB_iff {m l : Int} : ownB m l = true ↔ 1 < l ∧ l % 2 = 0 ∧ l ≤ 2 * m := by simp [ownB]
theorem useB_iff {m l : Int} : useB m l = true ↔ 0 ≤ l ∧ l ≤ 2 * m + 1 := by simp [useB]
theorem resB_iff {x : Int × Int × Int} : resB x = true ↔ x.2.2 = 0 ∨ x.2.2 = 1 ∨ x.2.2 = x.1 := by simp [resB]

structure InRange (C : Circ) : Prop where
  max0 : 0 ≤ C.max
  max1 : C.max ≤ 16777216
  own : ∀ l, l ∈ C.owned → 1 < l ∧ l % 2 = 0 ∧ l ≤ 2 * C.max
  res : ∀ x, x ∈ C.lats → x.2.2 = 0 ∨ x.2.2 = 1 ∨ x.2.2 = x.1
  use : ∀ l, l ∈ C.used → 0 ≤ l ∧ l ≤ 2 * C.max + 1

theorem InRange.of {C : Circ} (h0 : 0 ≤ C.max) (h1 : C.max ≤ 16777216) (h : rangeB C = true) : InRange C := by
  unfold rangeB at h
  simp only [Bool.and_eq_true, List.all_eq_true] at h
  exact ⟨h0, h1, fun l hl => ownB_iff.1 (h.1.1 l hl), fun x hx => resB_iff.1 (h.1.2 x hx), fun l hl => useB_iff.1 (h.2 l hl)⟩

theorem gate_own {C : Circ} {i : Nat} (h : i < C.gates.length) : (g3 C.gates i).1 ∈ C.owned := by
  unfold Circ.owned
  exact List.mem_append.2 (.inr (List.mem_map.2 ⟨_, g3_mem h, rfl⟩))
theorem gate_useA {C : Circ} {i : Nat} (h : i < C.gates.length) : (g3 C.gates i).2.1 ∈ C.used := by
  unfold Circ.used
  exact List.mem_append.2 (.inr (List.mem_flatMap.2 ⟨_, g3_mem h, by simp⟩))
theorem gate_useB {C : Circ} {i : Nat} (h : i < C.gates.length) : (g3 C.gates i).2.2 ∈ C.used := by
  unfold Circ.used
  exact List.mem_append.2 (.inr (List.mem_flatMap.2 ⟨_, g3_mem h, by simp⟩))

theorem nodup_getElem {l : List Int} (h : l.Nodup) {i j : Nat} {x : Int} (hi : l[i]? = some x) (hj : l[j]? = some x) : i = j := by
  have hi' := (List.getElem?_eq_some_iff.1 hi)
  have hj' := (List.getElem?_eq_some_iff.1 hj)
  obtain ⟨hi1, hi2⟩ := hi'
  obtain ⟨hj1, hj2⟩ := hj'
  rcases Nat.lt_trichotomy i j with h1 | h1 | h1
  · exact absurd (hi2.trans hj2.symm) (List.pairwise_iff_getElem.1 h i j hi1 hj1 h1)
  · exact h1
  · exact absurd (hj2.trans hi2.symm) (List.pairwise_iff_getElem.1 h j i hj1 hi1 h1)

theorem InRange.good {C : Circ} (h : InRange C) (hn : C.owned.Nodup) : GoodG C.gates := by
  intro i j hi hj e
  have h1 := h.own _ (gate_own hi)
  have h2 := h.own _ (gate_own hj)
  have e2 : (g3 C.gates i).1 = (g3 C.gates j).1 := by omega
  have ho : C.owned = (C.ins ++ C.lats.map (fun x => x.1)) ++ C.gates.map (fun x => x.1) := rfl
  have hg : (C.gates.map (fun x => x.1)).Nodup := by
    rw [ho] at hn
    exact (List.nodup_append.1 hn).2.1
  refine nodup_getElem hg (x := (g3 C.gates i).1) ?_ ?_
  · rw [List.getElem?_map, g3_at hi]; rfl
  · rw [List.getElem?_map, g3_at hj, e2]; rfl

end Go.Proofs.YtckmdcmkjmpiaaaGreatDoor

/-
  Plain vocabulary for walks: what a block holds, and which blocks a call may have turned. No program in sight.
-/
namespace Go.Proofs.YtckmdcmkjmpiaaaGreatDoor
open Go.RowKit

/-- block b of w is a plain row of cells -/
def Blk (w : World) (b : Nat) (c : Array Value) (t : TypeId) : Prop := w.heap[b]? = some (.cells c t (0, 0))

/-- w' is w with new blocks, and with writes to blocks of S alone -/
structure Kp (S : Nat → Prop) (w w' : World) : Prop where
  os : w'.os = w.os
  tape : w'.tape = w.tape
  output : w'.output = w.output
  size : w.heap.size ≤ w'.heap.size
  block : ∀ k, k < w.heap.size → ¬ S k → w'.heap[k]? = w.heap[k]?

theorem Kp.refl (S : Nat → Prop) (w : World) : Kp S w w := ⟨rfl, rfl, rfl, Nat.le_refl _, fun _ _ _ => rfl⟩

theorem Kp.trans {S T : Nat → Prop} {a b c : World} (h : Kp S a b) (k : Kp T b c) (hT : ∀ i, i < a.heap.size → T i → S i) : Kp S a c :=
  ⟨k.os.trans h.os, k.tape.trans h.tape, k.output.trans h.output, Nat.le_trans h.size k.size,
    fun i hi hS => (k.block i (Nat.lt_of_lt_of_le hi h.size) (fun ht => hS (hT i hi ht))).trans (h.block i hi hS)⟩

theorem Kp.mono {S T : Nat → Prop} {w w' : World} (h : Kp S w w') (hs : ∀ i, i < w.heap.size → S i → T i) : Kp T w w' :=
  ⟨h.os, h.tape, h.output, h.size, fun i hi ht => h.block i hi (fun s => ht (hs i hi s))⟩

theorem Kp.drew {S : Nat → Prop} {a w : World} (h : Kp S a w) : Kp S a w.drew := ⟨h.os, h.tape, h.output, h.size, h.block⟩

theorem Kp.drewN {S : Nat → Prop} {a w : World} (h : Kp S a w) (n : Nat) : Kp S a (w.drewN n) := ⟨h.os, h.tape, h.output, h.size, h.block⟩

theorem Kp.alloc {S : Nat → Prop} {a w : World} (h : Kp S a w) (o : Obj) : Kp S a (w.alloc o) :=
  ⟨h.os, h.tape, h.output, Nat.le_trans h.size (by simp), fun k hk hS => (Below.heap_alloc w o k (Nat.lt_of_lt_of_le hk h.size)).trans (h.block k hk hS)⟩

theorem Kp.setCell {S : Nat → Prop} {a w : World} (h : Kp S a w) {p : Addr} (hp : p.block < a.heap.size → S p.block) (u : Value) : Kp S a (w.setCell p u) :=
  ⟨h.os, h.tape, h.output, by rw [show (w.setCell p u).heap.size = w.heap.size from by simp [World.setCell]]; exact h.size,
    fun k hk hS => (Below.heap_setCell w p u k (fun e => hS (by subst e; exact hp hk))).trans (h.block k hk hS)⟩

theorem Kp.set (w : World) (p : Addr) (u : Value) : Kp (· = p.block) w (w.setCell p u) := (Kp.refl (· = p.block) w).setCell (p := p) (fun _ => rfl) u

theorem Kp.grown {S : Nat → Prop} {a w w' : World} {row : Option Nat} (h : Kp S a w) (hg : w.grownBy w' row) (hr : ∀ k, row = some k → k < a.heap.size → S k) : Kp S a w' :=
  ⟨hg.os.trans h.os, hg.tape.trans h.tape, hg.output.trans h.output, Nat.le_trans h.size hg.size,
    fun k hk hS => (hg.block k (Nat.lt_of_lt_of_le hk h.size) (fun e => hS (hr k e.symm hk))).trans (h.block k hk hS)⟩

theorem Kp.below {S : Nat → Prop} {w w' : World} (h : Kp S w w') {B : Nat} (hB : B ≤ w.heap.size) (hS : ∀ k, k < B → ¬ S k) : Below B w w' :=
  ⟨h.os, h.tape, h.output, h.size, fun k hk => h.block k (by omega) (hS k hk)⟩

theorem Kp.of_below {w w' : World} (h : Below w.heap.size w w') (S : Nat → Prop) : Kp S w w' :=
  ⟨h.os, h.tape, h.output, h.size, fun k hk _ => h.block k hk⟩

section
variable {w w' : World} {b : Nat} {c : Array Value} {t : TypeId}

theorem Blk.lt (h : Blk w b c t) : b < w.heap.size := (Array.getElem?_eq_some_iff.1 h).1

theorem Blk.kp {S : Nat → Prop} (h : Blk w b c t) (k : Kp S w w') (hS : ¬ S b) : Blk w' b c t := (k.block b h.lt hS).trans h

theorem Blk.drew (h : Blk w b c t) : Blk w.drew b c t := h
theorem Blk.drewN (h : Blk w b c t) (n : Nat) : Blk (w.drewN n) b c t := h

theorem Blk.alloc (h : Blk w b c t) (o : Obj) : Blk (w.alloc o) b c t := (Below.heap_alloc w o b h.lt).trans h

theorem Blk.new (w : World) (c : Array Value) (t : TypeId) : Blk (w.alloc (.cells c t)) w.heap.size c t := heap_alloc_new w _

theorem Blk.cell (h : Blk w b c t) {i : Nat} {v : Value} (hi : c[i]? = some v) : w.cell? ⟨b, i, none⟩ = some v :=
  (cell_of_row w b i c t (0, 0) h).trans hi

theorem Blk.free (h : Blk w b c t) (i : Nat) : w.frozen? ⟨b, i, none⟩ = false := by
  unfold World.frozen?
  show (match w.heap[b]? with | some (.cells _ _ (lo, hi)) => decide (lo ≤ i) && decide (i < hi) | _ => false) = false
  rw [show w.heap[b]? = some (.cells c t (0, 0)) from h]
  simp

theorem Blk.set_same (h : Blk w b c t) (i : Nat) (v : Value) : Blk (w.setCell ⟨b, i, none⟩ v) b (c.setIfInBounds i v) t := by
  have hlt := h.lt
  unfold Blk at h ⊢
  simp only [World.setCell, Array.getElem?_modify, if_true, h, Option.map_some]
  rfl

theorem Blk.set_other (h : Blk w b c t) {p : Addr} (hp : b ≠ p.block) (v : Value) : Blk (w.setCell p v) b c t :=
  (Below.heap_setCell w p v b hp).trans h
end

theorem cell_after_set {w : World} {p q : Addr} {v : Value} (x : Value) (h : w.cell? q = some v) : ∃ v', ((w.setCell p x).drew).cell? q = some v' := by
  by_cases e : p = q
  · subst e; exact ⟨x, World.cell?_setCell_same w p x h⟩
  · exact ⟨v, (World.cell?_setCell_other w p q x e).trans h⟩

/-- the int at a place (closed to simp) -/
def gi (l : List Int) (k : Nat) : Int := l[k]?.getD 0

/-- place j of the row at a holds u -/
def Elem (w : World) (a : Option Addr) (j : Nat) (u : Value) : Prop := ∃ b off, a = some ⟨b, off, none⟩ ∧ w.cell? ⟨b, off + j, none⟩ = some u

/-- the row at a reads cs -/
def RowAt (w : World) (a : Option Addr) (cs : List Value) : Prop := ∀ j u, cs[j]? = some u → Elem w a j u

/-- the row at a reads the ints l -/
def IntsAt (w : World) (a : Option Addr) (l : List Int) : Prop := RowAt w a (l.map (Value.int .i64))

theorem IntsAt.get {w : World} {a : Option Addr} {l : List Int} (h : IntsAt w a l) {j : Nat} (hj : j < l.length) : Elem w a j (.int .i64 (gi l j)) :=
  h j _ (by simp [gi, List.getElem?_eq_getElem hj])

theorem RowAt.nil (w : World) (a : Option Addr) : RowAt w a [] := fun j u h => by simp at h

theorem Elem.kp {S : Nat → Prop} {w w' : World} {a : Option Addr} {j : Nat} {u : Value} (h : Elem w a j u) (k : Kp S w w') (hS : ∀ p, a = some p → ¬ S p.block) : Elem w' a j u := by
  obtain ⟨b, off, rfl, hc⟩ := h
  have hlt : b < w.heap.size := World.block_lt_of_cell? w _ hc
  exact ⟨b, off, rfl, (World.cell?_of_block (w := w) (w' := w') (a := ⟨b, off + j, none⟩) (k.block b hlt (hS _ rfl))).trans hc⟩

theorem RowAt.kp {S : Nat → Prop} {w w' : World} {a : Option Addr} {cs : List Value} (h : RowAt w a cs) (k : Kp S w w') (hS : ∀ p, a = some p → ¬ S p.block) : RowAt w' a cs :=
  fun j u hu => (h j u hu).kp k hS

theorem RowAt.drewN {w : World} {a : Option Addr} {cs : List Value} (h : RowAt w a cs) (n : Nat) : RowAt (w.drewN n) a cs := h

theorem Blk.rowAt {w : World} {b : Nat} {c : Array Value} {t : TypeId} (h : Blk w b c t) {off n : Nat} {cs : List Value} (hc : (c.toList.drop off).take n = cs) : RowAt w (some ⟨b, off, none⟩) cs := by
  intro j u hu
  refine ⟨b, off, rfl, h.cell ?_⟩
  subst hc
  rw [List.getElem?_take] at hu
  split at hu
  · rw [List.getElem?_drop] at hu; simpa using hu
  · cases hu

/-- v owns the row cs: a slice of one-cell elements of type e that begins a block from base on -/
def Own (w : World) (base : Nat) (e : TypeId) (v : Value) (cs : List Value) : Prop := w.ownsRow base e 1 v cs.length cs

section
variable {w w' : World} {base : Nat} {e : TypeId} {v : Value} {cs : List Value}

theorem Own.nil (w : World) (base : Nat) (e : TypeId) : Own w base e (.slice none 0 0) [] := World.ownsRow_nil _ _ _ _

theorem Own.form (h : Own w base e v cs) : ∃ a cap, v = .slice a cs.length cap ∧ cs.length ≤ cap ∧ cap ≤ maxLen ∧ (∀ p, a = some p → ∃ g, p = ⟨g, 0, none⟩ ∧ base ≤ g ∧ g < w.heap.size) ∧ RowAt w a cs := by
  rcases h.2 with ⟨rfl, hn⟩ | ⟨g, cap, cur, rfl, hb, hg, hnc, hcm, hcs, htake⟩
  · refine ⟨none, 0, by rw [hn], by omega, by simp [maxLen], fun p hp => by simp at hp, ?_⟩
    have : cs = [] := List.eq_nil_of_length_eq_zero hn
    subst this
    exact RowAt.nil _ _
  · refine ⟨_, cap, rfl, hnc, hcm, fun p hp => ⟨g, by simpa using hp.symm, hb, (Array.getElem?_eq_some_iff.1 hg).1⟩, ?_⟩
    have hB : Blk w g cur e := hg
    exact hB.rowAt (off := 0) (n := cs.length * 1) (by simpa using htake)

theorem Own.kp {S : Nat → Prop} (h : Own w base e v cs) (k : Kp S w w') (hS : ∀ j, v.ownBlock = some j → ¬ S j) : Own w' base e v cs := by
  refine ⟨h.1, ?_⟩
  rcases h.2 with hn | ⟨g, cap, cur, rfl, hb, hgg, rest⟩
  · exact .inl hn
  · refine .inr ⟨g, cap, cur, rfl, hb, ?_, rest⟩
    rw [k.block g (Array.getElem?_eq_some_iff.1 hgg).1 (hS g rfl)]
    exact hgg

theorem Own.mono {b' : Nat} (h : Own w base e v cs) (hb : b' ≤ base) : Own w b' e v cs := by
  refine ⟨h.1, ?_⟩
  rcases h.2 with hn | ⟨g, cap, cur, rfl, hg, hgg, rest⟩
  · exact .inl hn
  · exact .inr ⟨g, cap, cur, rfl, by omega, hgg, rest⟩

theorem Own.lt (h : Own w base e v cs) : ∀ k, v.ownBlock = some k → base ≤ k ∧ k < w.heap.size := World.ownsRow.lt h

/-- a slice that owns something leads somewhere -/
theorem Own.leads (h : Own w base e v cs) (hc : 0 < cs.length) : ∃ g cap, v = .slice (some ⟨g, 0, none⟩) cs.length cap ∧ base ≤ g ∧ g < w.heap.size := by
  rcases h.2 with ⟨rfl, hn⟩ | ⟨g, cap, cur, rfl, hb, hg, _⟩
  · omega
  · exact ⟨g, cap, rfl, hb, (Array.getElem?_eq_some_iff.1 hg).1⟩

theorem Own.cell {g n cap : Nat} (h : Own w base e (.slice (some ⟨g, 0, none⟩) n cap) cs) {j : Nat} {u : Value} (hj : cs[j]? = some u) : w.cell? ⟨g, j, none⟩ = some u := by
  have hl : j < cs.length := by
    rcases Nat.lt_or_ge j cs.length with h | h
    · exact h
    · rw [List.getElem?_eq_none h] at hj; cases hj
  have hn : n = cs.length := by
    obtain ⟨a, c, e, _⟩ := h.form
    simp only [Value.slice.injEq] at e
    exact e.2.1
  subst hn
  rw [World.ownsRow.cellAt (show w.ownsRow base e 1 _ _ _ from h) j (by omega), hj]

theorem Own.free {g n cap : Nat} (h : Own w base e (.slice (some ⟨g, 0, none⟩) n cap) cs) (j : Nat) : w.frozen? ⟨g, j, none⟩ = false := by
  have hn : n = cs.length := by
    obtain ⟨a, c, e, _⟩ := h.form
    simp only [Value.slice.injEq] at e
    exact e.2.1
  subst hn
  exact World.ownsRow.frozenAt (show w.ownsRow base e 1 _ _ _ from h) j

theorem Own.set {g n cap : Nat} (h : Own w base e (.slice (some ⟨g, 0, none⟩) n cap) cs) (j : Nat) (u : Value) :
    Own (w.setCell ⟨g, j, none⟩ u) base e (.slice (some ⟨g, 0, none⟩) n cap) (cs.set j u) := by
  have hn : n = cs.length := by
    obtain ⟨a, c, e, _⟩ := h.form
    simp only [Value.slice.injEq] at e
    exact e.2.1
  subst hn
  have := (World.ownsRow.stored (show w.ownsRow base e 1 _ _ _ from h) j u).1
  unfold Own
  rw [List.length_set]
  exact this

theorem Own.set_other (h : Own w base e v cs) {p : Addr} (hp : ∀ j, v.ownBlock = some j → j ≠ p.block) (u : Value) : Own (w.setCell p u) base e v cs :=
  h.kp (Kp.set w p u) (fun j hj e => hp j hj e)

theorem Own.drew (h : Own w base e v cs) : Own w.drew base e v cs := h
theorem Own.drewN (h : Own w base e v cs) (n : Nat) : Own (w.drewN n) base e v cs := h
theorem Own.alloc (h : Own w base e v cs) (o : Obj) : Own (w.alloc o) base e v cs := World.ownsRow.alloc h o
end

/-- 'append(v, u)': v owns cs; the new element lies at ad -/
theorem wpList_append1 {P : Program} {w : World} {ops : Array Oper} {rest : List Oper} {o : Oper} {a : Act} {Q : Exit → Act → World → Prop} (hgd : o.guard = none) (s x : Operand) (t e : TypeId)
    (ho : o.op = .call { callee := .builtin .append, args := #[s, x], argTypes := #[t, t] }) {z : Value} {bytes : Nat}
    (ht : P.underlying t = some (.slice e)) (hI : (P.info? e).map (fun i => (i.zero, i.size, i.bytes)) = some (some z, 1, bytes)) (hzs : z.cells.size = 1)
    {base : Nat} {v : Value} {cs : List Value} (hown : Own w base e v cs) (hs : a.eval s = v) (ad : Addr) (u : Value) (hx : a.eval x = .slice (some ad) 1 1) (hnew : w.cell? ad = some u) (h1 : u.oneCell' = true)
    (hbytes : (cs.length + 1) * bytes ≤ 140737488355328) (hm : cs.length + 1 ≤ maxLen) (hbase : base ≤ w.heap.size)
    (h : ∀ v' w', Own w' base e v' (cs ++ [u]) → w.grownBy w' v.ownBlock → wpList P ops Q rest (a.put o.dst v') w') : wpList P ops Q (o :: rest) a w := by
  obtain ⟨i0, hi, hz0, hz1, hz2⟩ := info_parts hI
  refine wpList_append_own _ hgd s x t ho base e i0 z 1 bytes ht hi hz0 hz1 hz2 hzs (by decide) v cs.length cs hs hown ad 1 1 [u] hx rfl ?_ ?_ hm hbytes hbase ?_
  · intro j u' hj
    match j, hj with
    | 0, hj =>
      have : ad.add 0 = ad := by unfold Addr.add; split <;> simp_all
      simp at hj
      rw [this, ← hj]; exact hnew
  · intro u' hu; simp at hu; subst hu; exact h1
  · intro v' w' h2 h3 _
    exact h v' w' (by unfold Own; rw [List.length_append]; exact h2) h3

theorem add_plain' (b off n : Nat) : (⟨b, off, none⟩ : Addr).add n = ⟨b, off + n, none⟩ := by
  unfold Addr.add
  split <;> simp_all

/-- 'append(v, xs...)': v owns cs; the source reads news -/
theorem wpList_appendAll {P : Program} {w : World} {ops : Array Oper} {rest : List Oper} {o : Oper} {a : Act} {Q : Exit → Act → World → Prop} (hgd : o.guard = none) (s x : Operand) (t e : TypeId)
    (ho : o.op = .call { callee := .builtin .append, args := #[s, x], argTypes := #[t, t] }) {z : Value} {bytes : Nat}
    (ht : P.underlying t = some (.slice e)) (hI : (P.info? e).map (fun i => (i.zero, i.size, i.bytes)) = some (some z, 1, bytes)) (hzs : z.cells.size = 1)
    {base : Nat} {v : Value} {cs : List Value} (hown : Own w base e v cs) (hs : a.eval s = v) (src : Option Addr) (m c : Nat) (news : List Value) (hx : a.eval x = .slice src m c) (hm : news.length = m) (hrow : RowAt w src news) (hnil : src = none → c = 0) (h1 : ∀ u ∈ news, u.oneCell' = true)
    (hbytes : (cs.length + m) * bytes ≤ 140737488355328) (hml : cs.length + m ≤ maxLen) (hbase : base ≤ w.heap.size)
    (h : ∀ v' w', Own w' base e v' (cs ++ news) → w.grownBy w' v.ownBlock → wpList P ops Q rest (a.put o.dst v') w') : wpList P ops Q (o :: rest) a w := by
  obtain ⟨i0, hi, hz0, hz1, hz2⟩ := info_parts hI
  cases src with
  | none =>
    have hn : news = [] := by
      cases news with
      | nil => rfl
      | cons u r => obtain ⟨_, _, h, _⟩ := hrow 0 u rfl; cases h
    subst hn
    have hm0 : m = 0 := by simpa using hm.symm
    subst hm0
    rw [hnil rfl] at hx
    refine wpList_append_own_none hgd s x t ho base e i0 1 ht hi v cs.length cs hs hown hx ?_
    exact h v w (by rw [List.append_nil]; exact hown) ⟨rfl, rfl, rfl, Nat.le_refl _, fun _ _ _ => rfl⟩
  | some ad =>
    refine wpList_append_own _ hgd s x t ho base e i0 z 1 bytes ht hi hz0 hz1 hz2 hzs (by decide) v cs.length cs hs hown ad m c news hx (by omega) ?_ h1 hml hbytes hbase ?_
    · intro j u hj
      obtain ⟨b, off, hab, hc⟩ := hrow j u hj
      simp only [Option.some.injEq] at hab
      subst hab
      rw [add_plain']
      exact hc
    · intro v' w' h2 h3 _
      exact h v' w' (by unfold Own; rw [List.length_append, hm]; exact h2) h3

theorem RowAt.take {w : World} {a : Option Addr} {cs : List Value} (h : RowAt w a cs) (m : Nat) : RowAt w a (cs.take m) := by
  intro j u hu
  rw [List.getElem?_take] at hu
  split at hu
  · exact h j u hu
  · cases hu

end Go.Proofs.YtckmdcmkjmpiaaaGreatDoor

/-
  Slices of structs of k cells each, of the call's own. No program in sight.
-/
namespace Go.Proofs.YtckmdcmkjmpiaaaGreatDoor
open Go.RowKit

theorem flat_length {k : Nat} : ∀ {rows : List (List Value)}, (∀ r ∈ rows, r.length = k) → rows.flatten.length = rows.length * k
  | [], _ => by simp
  | r :: rows, h => by
    rw [List.flatten_cons, List.length_append, h r (by simp), flat_length (fun x hx => h x (by simp [hx])), List.length_cons, Nat.succ_mul]
    omega

theorem flat_at {k : Nat} : ∀ {rows : List (List Value)}, (∀ r ∈ rows, r.length = k) → ∀ {j i : Nat} {r : List Value} {u : Value}, rows[j]? = some r → r[i]? = some u → rows.flatten[j * k + i]? = some u
  | [], _, j, i, r, u, hj, _ => by simp at hj
  | x :: rows, h, 0, i, r, u, hj, hi => by
    simp at hj
    subst hj
    have hl : i < x.length := (List.getElem?_eq_some_iff.1 hi).1
    rw [List.flatten_cons, List.getElem?_append_left (by omega), Nat.zero_mul, Nat.zero_add]
    exact hi
  | x :: rows, h, j + 1, i, r, u, hj, hi => by
    have hx := h x (by simp)
    rw [List.flatten_cons, List.getElem?_append_right (by rw [hx, Nat.succ_mul]; omega), hx, show (j + 1) * k + i - k = j * k + i by rw [Nat.succ_mul]; omega]
    exact flat_at (fun y hy => h y (by simp [hy])) (by simpa using hj) hi

/-- v owns rows of k cells each -/
structure OwnK (w : World) (base : Nat) (e : TypeId) (k : Nat) (v : Value) (rows : List (List Value)) : Prop where
  own : w.ownsRow base e k v rows.length rows.flatten
  len : ∀ r ∈ rows, r.length = k

section
variable {w w' : World} {base : Nat} {e : TypeId} {k : Nat} {v : Value} {rows : List (List Value)}

theorem OwnK.nil (w : World) (base : Nat) (e : TypeId) (k : Nat) : OwnK w base e k (.slice none 0 0) [] := ⟨World.ownsRow_nil _ _ _ _, fun r h => by cases h⟩

theorem OwnK.form (h : OwnK w base e k v rows) : ∃ a cap, v = .slice a rows.length cap ∧ rows.length ≤ cap ∧ cap ≤ maxLen ∧ (a = none → cap = 0) ∧ (∀ p, a = some p → ∃ g, p = ⟨g, 0, none⟩ ∧ base ≤ g ∧ g < w.heap.size) ∧ RowAt w a rows.flatten := by
  rcases h.own.2 with ⟨rfl, hn⟩ | ⟨g, cap, cur, rfl, hb, hg, hnc, hcm, hcs, htake⟩
  · refine ⟨none, 0, by rw [hn], by omega, by simp [maxLen], fun _ => rfl, fun p hp => by simp at hp, ?_⟩
    have : rows = [] := List.eq_nil_of_length_eq_zero hn
    subst this
    exact RowAt.nil _ _
  · refine ⟨_, cap, rfl, hnc, hcm, (fun h => by cases h), fun p hp => ⟨g, by simpa using hp.symm, hb, (Array.getElem?_eq_some_iff.1 hg).1⟩, ?_⟩
    have hB : Blk w g cur e := hg
    exact hB.rowAt (off := 0) (n := rows.length * k) (by simpa using htake)

theorem OwnK.kp {S : Nat → Prop} (h : OwnK w base e k v rows) (kk : Kp S w w') (hS : ∀ j, v.ownBlock = some j → ¬ S j) : OwnK w' base e k v rows := by
  refine ⟨⟨h.own.1, ?_⟩, h.len⟩
  rcases h.own.2 with hn | ⟨g, cap, cur, rfl, hb, hgg, rest⟩
  · exact .inl hn
  · refine .inr ⟨g, cap, cur, rfl, hb, ?_, rest⟩
    rw [kk.block g (Array.getElem?_eq_some_iff.1 hgg).1 (hS g rfl)]
    exact hgg

theorem OwnK.mono {b' : Nat} (h : OwnK w base e k v rows) (hb : b' ≤ base) : OwnK w b' e k v rows := by
  refine ⟨⟨h.own.1, ?_⟩, h.len⟩
  rcases h.own.2 with hn | ⟨g, cap, cur, rfl, hg, hgg, rest⟩
  · exact .inl hn
  · exact .inr ⟨g, cap, cur, rfl, by omega, hgg, rest⟩

theorem OwnK.lt (h : OwnK w base e k v rows) : ∀ j, v.ownBlock = some j → base ≤ j ∧ j < w.heap.size := World.ownsRow.lt h.own

theorem OwnK.leads (h : OwnK w base e k v rows) (hc : 0 < rows.length) : ∃ g cap, v = .slice (some ⟨g, 0, none⟩) rows.length cap ∧ base ≤ g ∧ g < w.heap.size := by
  rcases h.own.2 with ⟨rfl, hn⟩ | ⟨g, cap, cur, rfl, hb, hg, _⟩
  · omega
  · exact ⟨g, cap, rfl, hb, (Array.getElem?_eq_some_iff.1 hg).1⟩

theorem OwnK.alloc (h : OwnK w base e k v rows) (o : Obj) : OwnK (w.alloc o) base e k v rows := ⟨World.ownsRow.alloc h.own o, h.len⟩
theorem OwnK.drew (h : OwnK w base e k v rows) : OwnK w.drew base e k v rows := ⟨h.own, h.len⟩
theorem OwnK.drewN (h : OwnK w base e k v rows) (n : Nat) : OwnK (w.drewN n) base e k v rows := ⟨h.own, h.len⟩
end

/-- the row of cells at a, as rows of k cells: cell i of row j -/
theorem RowAt.cellAt {w : World} {a : Option Addr} {k : Nat} {rows : List (List Value)} (h : RowAt w a rows.flatten) (hl : ∀ r ∈ rows, r.length = k) {j i : Nat} {r : List Value} {u : Value} (hj : rows[j]? = some r) (hi : r[i]? = some u) : Elem w a (j * k + i) u :=
  h _ _ (flat_at hl hj hi)

/-- 'append(v, x)' of one struct x of k cells, which lies at the head of block ad -/
theorem wpList_appendK {P : Program} {w : World} {ops : Array Oper} {rest : List Oper} {o : Oper} {a : Act} {Q : Exit → Act → World → Prop} (hgd : o.guard = none) (s x : Operand) (t e : TypeId)
    (ho : o.op = .call { callee := .builtin .append, args := #[s, x], argTypes := #[t, t] }) {z : Value} {k bytes : Nat}
    (ht : P.underlying t = some (.slice e)) (hI : (P.info? e).map (fun i => (i.zero, i.size, i.bytes)) = some (some z, k, bytes)) (hzs : z.cells.size = k) (hk : 0 < k)
    {base : Nat} {v : Value} {rows : List (List Value)} (hown : OwnK w base e k v rows) (hs : a.eval s = v) (b : Nat) (r : List Value) (hx : a.eval x = .slice (some ⟨b, 0, none⟩) 1 1) (hr : r.length = k) (hnew : ∀ j u, r[j]? = some u → w.cell? ⟨b, j, none⟩ = some u) (h1 : ∀ u ∈ r, u.oneCell' = true)
    (hbytes : (rows.length + 1) * bytes ≤ 140737488355328) (hm : rows.length + 1 ≤ maxLen) (hbase : base ≤ w.heap.size)
    (h : ∀ v' w', OwnK w' base e k v' (rows ++ [r]) → w.grownBy w' v.ownBlock → (v'.ownBlock = v.ownBlock ∨ v'.ownBlock = some w.heap.size) → wpList P ops Q rest (a.put o.dst v') w') : wpList P ops Q (o :: rest) a w := by
  obtain ⟨i0, hi, hz0, hz1, hz2⟩ := info_parts hI
  refine wpList_append_own_at _ hgd s x t ho base e i0 z k bytes ht hi hz0 hz1 hz2 hzs hk v rows.length rows.flatten hs hown.own ⟨b, 0, none⟩ 1 1 r hx (by omega) ?_ h1 hm hbytes hbase ?_
  · intro j u hj
    rw [add_plain', Nat.zero_add]
    exact hnew j u hj
  · intro v' w' h2 h3 _ h5
    refine h v' w' ⟨?_, ?_⟩ h3 h5
    · rw [List.length_append, List.flatten_append]
      simpa using h2
    · intro x hx
      rcases List.mem_append.1 hx with h | h
      · exact hown.len x h
      · simp at h; subst h; exact hr

end Go.Proofs.YtckmdcmkjmpiaaaGreatDoor

/-
  'append(v, u)' on a row of the call's own, and where the new row lies.
-/
namespace Go.Proofs.YtckmdcmkjmpiaaaGreatDoor
open Go.RowKit

theorem wpList_append1_at {P : Program} {w : World} {ops : Array Oper} {rest : List Oper} {o : Oper} {a : Act} {Q : Exit → Act → World → Prop} (hgd : o.guard = none) (s x : Operand) (t e : TypeId)
    (ho : o.op = .call { callee := .builtin .append, args := #[s, x], argTypes := #[t, t] }) {z : Value} {bytes : Nat}
    (ht : P.underlying t = some (.slice e)) (hI : (P.info? e).map (fun i => (i.zero, i.size, i.bytes)) = some (some z, 1, bytes)) (hzs : z.cells.size = 1)
    {base : Nat} {v : Value} {cs : List Value} (hown : Own w base e v cs) (hs : a.eval s = v) (ad : Addr) (u : Value) (hx : a.eval x = .slice (some ad) 1 1) (hnew : w.cell? ad = some u) (h1 : u.oneCell' = true)
    (hbytes : (cs.length + 1) * bytes ≤ 140737488355328) (hm : cs.length + 1 ≤ maxLen) (hbase : base ≤ w.heap.size)
    (h : ∀ v' w', Own w' base e v' (cs ++ [u]) → w.grownBy w' v.ownBlock → (v'.ownBlock = v.ownBlock ∨ v'.ownBlock = some w.heap.size) → wpList P ops Q rest (a.put o.dst v') w') : wpList P ops Q (o :: rest) a w := by
  obtain ⟨i0, hi, hz0, hz1, hz2⟩ := info_parts hI
  refine wpList_append_own_at _ hgd s x t ho base e i0 z 1 bytes ht hi hz0 hz1 hz2 hzs (by decide) v cs.length cs hs hown ad 1 1 [u] hx rfl ?_ ?_ hm hbytes hbase ?_
  · intro j u' hj
    match j, hj with
    | 0, hj =>
      have : ad.add 0 = ad := by unfold Addr.add; split <;> simp_all
      simp at hj
      rw [this, ← hj]; exact hnew
  · intro u' hu; simp at hu; subst hu; exact h1
  · intro v' w' h2 h3 _ h5
    exact h v' w' (by unfold Own; rw [List.length_append]; exact h2) h3 h5

end Go.Proofs.YtckmdcmkjmpiaaaGreatDoor

/-
  Circuits in memory, and slices of structs of k cells.
-/
namespace Go.Proofs.YtckmdcmkjmpiaaaGreatDoor
open Go.RowKit

theorem Kp.cellK {w w' : World} (k : Kp (fun _ => False) w w') {b o : Nat} {v : Value} (h : w.cell? ⟨b, o, none⟩ = some v) : w'.cell? ⟨b, o, none⟩ = some v :=
  (World.cell?_of_block (w := w) (w' := w') (a := ⟨b, o, none⟩) (k.block b (World.block_lt_of_cell? w _ h) (fun h => h))).trans h

theorem Own.lit {w : World} {base g : Nat} {e : TypeId} {cs : List Value} (h : Blk w g cs.toArray e) (hg : base ≤ g) (hn : cs.length ≤ maxLen) : Own w base e (.slice (some ⟨g, 0, none⟩) cs.length cs.length) cs :=
  ⟨by simp, .inr ⟨g, cs.length, cs.toArray, rfl, hg, h, Nat.le_refl _, hn, by simp, by simp⟩⟩

theorem OwnK.lit {w : World} {base g k : Nat} {e : TypeId} {rows : List (List Value)} (h : Blk w g rows.flatten.toArray e) (hg : base ≤ g) (hl : ∀ r ∈ rows, r.length = k) (hn : rows.length ≤ maxLen) : OwnK w base e k (.slice (some ⟨g, 0, none⟩) rows.length rows.length) rows :=
  ⟨⟨by rw [flat_length hl], .inr ⟨g, rows.length, rows.flatten.toArray, rfl, hg, h, Nat.le_refl _, hn, by simp only [List.size_toArray]; exact flat_length hl, by rw [← flat_length hl]; exact List.take_length⟩⟩, hl⟩

theorem two_blk (w : World) (c0 c1 : Array Value) (t0 t1 : TypeId) : Blk ((w.alloc (.cells c0 t0)).alloc (.cells c1 t1)) (w.heap.size + 1) c1 t1 := by
  have := Blk.new (w.alloc (.cells c0 t0)) c1 t1
  rwa [World.size_alloc] at this

/-- a latch or a gate as cells -/
def tri (x : Int × Int × Int) : List Value := [.int .i64 x.1, .int .i64 x.2.1, .int .i64 x.2.2]
theorem tri_len (L : List (Int × Int × Int)) : ∀ r ∈ L.map tri, r.length = 3 := by
  intro r hr
  obtain ⟨x, _, rfl⟩ := List.mem_map.1 hr
  rfl
theorem tri_one (L : List (Int × Int × Int)) : ∀ r ∈ L.map tri, ∀ u ∈ r, u.oneCell' = true := by
  intro r hr u hu
  obtain ⟨x, _, rfl⟩ := List.mem_map.1 hr
  unfold tri at hu
  simp at hu
  rcases hu with rfl | rfl | rfl <;> rfl
theorem tri_at {L : List (Int × Int × Int)} {k : Nat} (h : k < L.length) : (L.map tri)[k]? = some (tri (g3 L k)) := by
  rw [List.getElem?_map, g3_at h]; rfl

theorem tri_cells {w : World} {a : Option Addr} {L : List (Int × Int × Int)} (h : RowAt w a (L.map tri).flatten) {k : Nat} (hk : k < L.length) :
    ∃ b off, a = some ⟨b, off, none⟩ ∧ w.cell? ⟨b, off + k * 3, none⟩ = some (.int .i64 (g3 L k).1) ∧ w.cell? ⟨b, off + k * 3 + 1, none⟩ = some (.int .i64 (g3 L k).2.1) ∧ w.cell? ⟨b, off + k * 3 + 2, none⟩ = some (.int .i64 (g3 L k).2.2) := by
  obtain ⟨b, off, e0, h0⟩ := h.cellAt (tri_len L) (j := k) (i := 0) (tri_at hk) rfl
  obtain ⟨b1, off1, e1, h1⟩ := h.cellAt (tri_len L) (j := k) (i := 1) (tri_at hk) rfl
  obtain ⟨b2, off2, e2, h2⟩ := h.cellAt (tri_len L) (j := k) (i := 2) (tri_at hk) rfl
  obtain ⟨rfl, rfl⟩ : b = b1 ∧ off = off1 := by rw [e0] at e1; simpa using e1
  obtain ⟨rfl, rfl⟩ : b = b2 ∧ off = off2 := by rw [e0] at e2; simpa using e2
  exact ⟨b, off, e0, h0, h1, h2⟩

/-- where a circuit's lists lie -/
structure CV where
  ai : Option Addr
  ci : Nat
  al : Option Addr
  cl : Nat
  ao : Option Addr
  co : Nat
  ab : Option Addr
  cb : Nat
  ac : Option Addr
  cc : Nat
  ag : Option Addr
  cg : Nat
  ay : Option Addr
  ny : Nat
  cy : Nat
  cm : ByteArray

/-- a slice's form -/
structure SlOK (a : Option Addr) (n c : Nat) : Prop where
  le : n ≤ c
  most : c ≤ maxLen
  nil : a = none → c = 0

/-- the nine cells of a circuit -/
def cvals (V : CV) (C : Circ) : Array Value := #[.int .i64 C.max, .slice V.ai C.ins.length V.ci, .slice V.al C.lats.length V.cl, .slice V.ao C.outs.length V.co, .slice V.ab C.bads.length V.cb, .slice V.ac C.cons.length V.cc, .slice V.ag C.gates.length V.cg, .slice V.ay V.ny V.cy, .string V.cm]

/-- how long a circuit's lists may be -/
structure CFew (C : Circ) (m : Nat) : Prop where
  i : C.ins.length ≤ m
  l : C.lats.length ≤ m
  o : C.outs.length ≤ m
  b : C.bads.length ≤ m
  c : C.cons.length ≤ m
  g : C.gates.length ≤ m

/-- the inputs may be more: a file need not name them -/
structure CFewI (C : Circ) : Prop where
  i : C.ins.length ≤ 20000000
  l : C.lats.length ≤ 1000000
  o : C.outs.length ≤ 1000000
  b : C.bads.length ≤ 1000000
  c : C.cons.length ≤ 1000000
  g : C.gates.length ≤ 1000000
theorem CFew.toI {C : Circ} (h : CFew C 1000000) : CFewI C := ⟨Nat.le_trans h.i (by decide), h.l, h.o, h.b, h.c, h.g⟩
instance {C : Circ} : Coe (CFew C 1000000) (CFewI C) := ⟨CFew.toI⟩

/-- a circuit in memory -/
structure CAt (w : World) (V : CV) (C : Circ) : Prop where
  i : IntsAt w V.ai C.ins
  l : RowAt w V.al (C.lats.map tri).flatten
  o : IntsAt w V.ao C.outs
  b : IntsAt w V.ab C.bads
  c : IntsAt w V.ac C.cons
  g : RowAt w V.ag (C.gates.map tri).flatten
  y : ∃ rows : List (List Value), RowAt w V.ay rows.flatten ∧ rows.length = V.ny ∧ (∀ r ∈ rows, r.length = 3) ∧ ∀ r ∈ rows, ∀ u ∈ r, u.oneCell' = true
  fi : SlOK V.ai C.ins.length V.ci
  fl : SlOK V.al C.lats.length V.cl
  fo : SlOK V.ao C.outs.length V.co
  fb : SlOK V.ab C.bads.length V.cb
  fc : SlOK V.ac C.cons.length V.cc
  fg : SlOK V.ag C.gates.length V.cg
  fy : SlOK V.ay V.ny V.cy

theorem CAt.kp {w w' : World} {V : CV} {C : Circ} (h : CAt w V C) (k : Kp (fun _ => False) w w') : CAt w' V C :=
  ⟨h.i.kp k (fun _ _ h => h), h.l.kp k (fun _ _ h => h), h.o.kp k (fun _ _ h => h), h.b.kp k (fun _ _ h => h), h.c.kp k (fun _ _ h => h), h.g.kp k (fun _ _ h => h), by
    obtain ⟨rows, h1, h2⟩ := h.y
    exact ⟨rows, h1.kp k (fun _ _ h => h), h2⟩, h.fi, h.fl, h.fo, h.fb, h.fc, h.fg, h.fy⟩

theorem SlOK.le63 {a : Option Addr} {n c : Nat} (h : SlOK a n c) : n ≤ 9223372036854775807 ∧ c ≤ 9223372036854775807 := by
  have h1 := h.le
  have h2 := h.most
  unfold maxLen at h2
  omega

theorem Blk.cells9 {w : World} {b : Nat} {x0 x1 x2 x3 x4 x5 x6 x7 x8 : Value} {t : TypeId} (h : Blk w b #[x0, x1, x2, x3, x4, x5, x6, x7, x8] t) :
    w.cell? ⟨b, 0, none⟩ = some x0 ∧ w.cell? ⟨b, 1, none⟩ = some x1 ∧ w.cell? ⟨b, 2, none⟩ = some x2 ∧ w.cell? ⟨b, 3, none⟩ = some x3 ∧ w.cell? ⟨b, 4, none⟩ = some x4 ∧ w.cell? ⟨b, 5, none⟩ = some x5 ∧ w.cell? ⟨b, 6, none⟩ = some x6 ∧ w.cell? ⟨b, 7, none⟩ = some x7 ∧ w.cell? ⟨b, 8, none⟩ = some x8 :=
  ⟨h.cell rfl, h.cell rfl, h.cell rfl, h.cell rfl, h.cell rfl, h.cell rfl, h.cell rfl, h.cell rfl, h.cell rfl⟩

end Go.Proofs.YtckmdcmkjmpiaaaGreatDoor

/-
  slices.Clone of ints, of latches, of gates, of symbols. (Printed by mkclone.py.)
-/
namespace Go.Proofs.YtckmdcmkjmpiaaaGreatDoor
open Go.RowKit

set_option maxHeartbeats 2000000 in
theorem clone_ints (a : Option Addr) (n c : Nat) (L : List Int) (w : World) (hr : IntsAt w a L) (hn : L.length = n) (ho : SlOK a n c) (hm : n ≤ 20000000) :
    Calls Tryz.prog 73 #[.slice a n c] w fun e w' => ∃ v', e = .returned v' ∧ Own w' w.heap.size 3 v' (L.map (Value.int .i64)) ∧ Kp (fun _ => False) w w' := by
  cases a with
  | none =>
    have hL : L = [] := by
      have h1 := ho.le
      have h2 := ho.nil rfl
      exact List.eq_nil_of_length_eq_zero (by omega)
    subst hL
    have q22 := fun (w : World) (a : Option Addr) (n c n' c' : Nat) => Lib.run_eql_slice_nil (P := Tryz.prog) w 22 3 a n c n' c' Tryz.underlying22
    clear hr ho hn hm
    go_enter Tryz.func73, Tryz.ntmps73
    go_wp2
    go_ret
    exact ⟨_, rfl, Own.nil _ _ _, Kp.refl _ _⟩
  | some ad =>
    have HR := Lib.hid hr
    have HN := Lib.hid hn
    have hI : (Tryz.prog.info? 3).map (fun i => (i.zero, i.size, i.bytes)) = some (some (.int .i64 0), 1, 8) := by kernel_rfl
    have HI := Lib.hid hI
    have q22 := fun (w : World) (a : Option Addr) (n c n' c' : Nat) => Lib.run_eql_slice_nil (P := Tryz.prog) w 22 3 a n c n' c' Tryz.underlying22
    have HO := Lib.hid (show Own (w.alloc (.cells #[] 3)) w.heap.size 3 (.slice (some ⟨w.heap.size, 0, none⟩) 0 0) [] from Own.lit (cs := []) (Blk.new w #[] 3) (Nat.le_refl _) (Nat.zero_le _))
    have HM := Lib.hid hm
    clear hr hn ho hI hm
    go_enter Tryz.func73, Tryz.ntmps73
    go_wp2_with (at_builtin; refine wpList_appendAll rfl _ _ 22 3 rfl Tryz.underlying22 HI.out rfl HO.out rfl (some ad) n c (L.map (Value.int .i64)) rfl (by rw [List.length_map]; exact HN.out) (HR.out.kp ((Kp.refl (fun _ => False) w).alloc _) (fun _ _ h => h)) (fun h => by cases h) (fun u hu => by obtain ⟨x, _, rfl⟩ := List.mem_map.1 hu; rfl) (by have := HM.out; simp; omega) (by have := HM.out; unfold maxLen; simp; omega) (by simp) ?_)
    intro v' w1 hown hgrow
    go_wp2
    go_ret
    exact ⟨v', rfl, by simpa using hown, ((Kp.refl (fun _ => False) w).alloc _).grown hgrow (fun j hj hlt => by simp [Value.ownBlock] at hj; omega)⟩

end Go.Proofs.YtckmdcmkjmpiaaaGreatDoor

/-
  circ.defined: the literals that are something's.
-/
namespace Go.Proofs.YtckmdcmkjmpiaaaGreatDoor
open Go.RowKit

theorem take_g3 {L : List (Int × Int × Int)} {k : Nat} (h : k < L.length) : L.take (k + 1) = L.take k ++ [g3 L k] := by
  rw [List.take_succ_eq_append_getElem h]
  unfold g3
  rw [List.getElem?_eq_getElem h]
  rfl

theorem take_gi {L : List Int} {k : Nat} (h : k < L.length) : L.take (k + 1) = L.take k ++ [gi L k] := by
  rw [List.take_succ_eq_append_getElem h]
  unfold gi
  rw [List.getElem?_eq_getElem h]
  rfl

def iv (l : List Int) : List Value := l.map (Value.int .i64)
theorem iv_append (a b : List Int) : iv (a ++ b) = iv a ++ iv b := List.map_append
theorem iv_length (a : List Int) : (iv a).length = a.length := List.length_map ..

set_option maxRecDepth 100000 in
set_option maxHeartbeats 4000000 in
theorem circ_defined (V : CV) (C : Circ) (w : World) (h : CAt w V C) (hf : CFewI C) :
    Calls Tryz.prog 38 #[.agg (cvals V C)] w fun e w' => ∃ v, e = .returned v ∧ Own w' w.heap.size 3 v (iv C.owned) ∧ Kp (fun _ => False) w w' := by
  obtain ⟨m, l63⟩ : ∃ m, m = C.lats.length := ⟨_, rfl⟩
  have hl := h.fl.le63
  have hg := h.fg.le63
  have HA := Lib.hid h
  have HF := Lib.hid hf
  have HI := Lib.hid (show (Tryz.prog.info? 3).map (fun i => (i.zero, i.size, i.bytes)) = some (some (.int .i64 0), 1, 8) by kernel_rfl)
  obtain ⟨wz, hwz⟩ : ∃ wz : World, wz = w.alloc (.cells (cvals V C) 27) := ⟨_, rfl⟩
  have HK0 : Hid (Kp (fun _ => False) w wz) := Lib.hid (by rw [hwz]; exact (Kp.refl _ w).alloc _)
  have HC0 : Hid (Blk wz w.heap.size (cvals V C) 27) := Lib.hid (by rw [hwz]; exact Blk.new w _ _)
  have HZ := Lib.hid hwz
  have hsz : w.heap.size < wz.heap.size := by rw [hwz]; simp
  have HSZ := Lib.hid hsz
  clear h hf hwz hsz l63 m
  have HCl := Lib.hid (fun u (hu : Kp (fun _ => False) w u) => clone_ints V.ai C.ins.length V.ci C.ins u ((HA.out.kp hu).i) rfl HA.out.fi HF.out.i)
  go_enter Tryz.func38, Tryz.ntmps38
  go_upto_region 1 with fail
  rw [← HZ.out]
  have c1 := HC0.out.cell (i := 1) (v := .slice V.ai C.ins.length V.ci) rfl
  go_wp2_with fail
  refine (HCl.out _ HK0.out).mono ?_
  rintro e w1 ⟨v1, rfl, hO1, hK1⟩
  have HO1 := Lib.hid (hO1.mono (b' := w.heap.size) (by have := HSZ.out; omega))
  have HC1 := Lib.hid (HC0.out.kp hK1 (fun h => h))
  have HK1 := Lib.hid (HK0.out.trans hK1 (fun _ _ h => h))
  have HB1 := Lib.hid (show ∀ j, v1.ownBlock = some j → w.heap.size < j from fun j hj => by have := (hO1.lt j hj).1; have := HSZ.out; omega)
  clear hO1 hK1 c1 HC0 HK0 HCl
  have c2 := HC1.out.cell (i := 2) (v := .slice V.al C.lats.length V.cl) rfl
  go_wp2_with fail
  go_loopw [3, 14] (fun v3 v14 wr => ∃ k : Nat, v14 = .int .i64 k ∧ k ≤ C.lats.length ∧ Own wr w.heap.size 3 v3 (iv (C.ins ++ (C.lats.take k).map (fun x => x.1))) ∧ (∀ j, v3.ownBlock = some j → w.heap.size < j) ∧ Blk wr w.heap.size (cvals V C) 27 ∧ Kp (fun _ => False) w wr) (fun _ v14 _ => C.lats.length - (intOf v14).toNat)
  case atStart => exact ⟨0, rfl, by omega, by simpa [iv] using HO1.out, HB1.out, HC1.out, HK1.out⟩
  case round =>
    obtain ⟨k, rfl, hk, hO, hB, hC, hK⟩ := hrel
    clear c2 HO1 HB1 HC1 HK1
    obtain ⟨wp, rfl⟩ : ∃ wp : World, wp = wr := ⟨_, rfl⟩
    have HO := Lib.hid hO
    have HB := Lib.hid hB
    have HC := Lib.hid hC
    have HK := Lib.hid hK
    have HSw := Lib.hid (show w.heap.size < wp.heap.size from hC.lt)
    clear hO hB hC hK
    by_cases hlt : k < C.lats.length
    · obtain ⟨b, off, ea, e0, e1, e2⟩ := tri_cells (HA.out.kp HK.out).l hlt
      have i0 : (0 : Int) ≤ (k : Int) := by omega
      have i1 : decide ((k : Int) < (C.lats.length : Int)) = true := decide_eq_true (by omega)
      obtain ⟨x0, hx0⟩ : ∃ x, (g3 C.lats k).1 = x := ⟨_, rfl⟩
      obtain ⟨x1, hx1⟩ : ∃ x, (g3 C.lats k).2.1 = x := ⟨_, rfl⟩
      obtain ⟨x2, hx2⟩ : ∃ x, (g3 C.lats k).2.2 = x := ⟨_, rfl⟩
      have HT := Lib.hid (take_g3 hlt)
      rw [hx0] at e0
      rw [hx1] at e1
      rw [hx2] at e2
      have HX := Lib.hid hx0
      have HEA := Lib.hid ea
      have i2 : (k : Int) < (C.lats.length : Int) := by omega
      clear hx0 hx1 hx2 ea
      have HNew := Lib.hid (two_blk wp #[.int .i64 x0, .int .i64 x1, .int .i64 x2] #[.int .i64 x0] 59 3)
      have HOw := Lib.hid ((HO.out.alloc (.cells #[.int .i64 x0, .int .i64 x1, .int .i64 x2] 59)).alloc (.cells #[.int .i64 x0] 3))
      rw [HEA.out]
      go_wp2_with (at_builtin; refine wpList_append1_at rfl _ _ 22 3 rfl Tryz.underlying22 HI.out rfl HOw.out rfl ⟨wp.heap.size + 1, 0, none⟩ (.int .i64 x0) rfl (HNew.out.cell rfl) rfl ?c1 ?c2 ?c3 ?_)
      case c1 => rw [iv_length]; have := HF.out.i; have := HF.out.l; simp; omega
      case c2 => rw [iv_length]; have := HF.out.i; have := HF.out.l; unfold maxLen; simp; omega
      case c3 => have := HSw.out; simp; omega
      intro v' w2 hO2 hg2 hat2
      have hrel : ∃ k' : Nat, Value.int .i64 ((k : Int) + 1) = .int .i64 k' ∧ k' ≤ C.lats.length ∧ Own w2 w.heap.size 3 v' (iv (C.ins ++ (C.lats.take k').map (fun x => x.1))) ∧ (∀ j, v'.ownBlock = some j → w.heap.size < j) ∧ Blk w2 w.heap.size (cvals V C) 27 ∧ Kp (fun _ => False) w w2 := by
        refine ⟨k + 1, by go_num, by omega, ?_, ?_, ?_, ?_⟩
        · rw [HT.out, List.map_append, ← List.append_assoc, iv_append]
          have : iv ([g3 C.lats k].map (fun x => x.1)) = [.int .i64 x0] := by simp [iv, HX.out]
          rw [this]
          simpa using hO2
        · intro j hj
          rcases hat2 with e | e
          · exact HB.out j (e ▸ hj)
          · rw [e] at hj
            have := HSw.out
            simp at hj
            omega
        · exact ((HC.out.alloc _).alloc _).kp ((Kp.refl (fun j => u3.ownBlock = some j) _).grown hg2 (fun j hj _ => hj)) (fun e => by have := HB.out _ e; omega)
        · exact ((HK.out.alloc _).alloc _).grown hg2 (fun j hj hlt => by have := HB.out j hj; omega)
      have HR := Lib.hid hrel
      clear hrel hO2 hg2 hat2 HOw HNew HT
      go_wp2_with fail
      go_roundw
      case rel => exact HR.out
      case measure => simp [intOf]; omega
    · have i1 : decide ((k : Int) < (C.lats.length : Int)) = false := decide_eq_false (by omega)
      have hk' : k = C.lats.length := by omega
      have HO' : Hid (Own wp w.heap.size 3 u3 (iv (C.ins ++ C.lats.map (fun x => x.1)))) := Lib.hid (by have := HO.out; rwa [hk', List.take_length] at this)
      have c6 := HC.out.cell (i := 6) (v := .slice V.ag C.gates.length V.cg) rfl
      clear HO hk hk'
      go_wp2_with fail
      go_loopw [3, 27] (fun v3 v27 wr => ∃ k : Nat, v27 = .int .i64 k ∧ k ≤ C.gates.length ∧ Own wr w.heap.size 3 v3 (iv (C.ins ++ C.lats.map (fun x => x.1) ++ (C.gates.take k).map (fun x => x.1))) ∧ (∀ j, v3.ownBlock = some j → w.heap.size < j) ∧ Kp (fun _ => False) w wr) (fun _ v27 _ => C.gates.length - (intOf v27).toNat)
      case atStart => exact ⟨0, rfl, by omega, by simpa [iv] using HO'.out, HB.out, HK.out⟩
      case round =>
        obtain ⟨k, rfl, hk, hO, hB, hK⟩ := hrel
        clear c6 HO' HB HC HK i1 hlt
        obtain ⟨wq, rfl⟩ : ∃ wp : World, wp = wr := ⟨_, rfl⟩
        have HO := Lib.hid hO
        have HB := Lib.hid hB
        have HK := Lib.hid hK
        have HSw := Lib.hid (show w.heap.size ≤ wq.heap.size from hK.size)
        clear hO hB hK
        by_cases hlt : k < C.gates.length
        · obtain ⟨b, off, ea, e0, e1, e2⟩ := tri_cells (HA.out.kp HK.out).g hlt
          have i0 : (0 : Int) ≤ (k : Int) := by omega
          have i1 : decide ((k : Int) < (C.gates.length : Int)) = true := decide_eq_true (by omega)
          obtain ⟨x0, hx0⟩ : ∃ x, (g3 C.gates k).1 = x := ⟨_, rfl⟩
          obtain ⟨x1, hx1⟩ : ∃ x, (g3 C.gates k).2.1 = x := ⟨_, rfl⟩
          obtain ⟨x2, hx2⟩ : ∃ x, (g3 C.gates k).2.2 = x := ⟨_, rfl⟩
          have HT := Lib.hid (take_g3 hlt)
          rw [hx0] at e0
          rw [hx1] at e1
          rw [hx2] at e2
          have HX := Lib.hid hx0
          have HEA := Lib.hid ea
          have i2 : (k : Int) < (C.gates.length : Int) := by omega
          clear hx0 hx1 hx2 ea
          have HNew := Lib.hid (two_blk wq #[.int .i64 x0, .int .i64 x1, .int .i64 x2] #[.int .i64 x0] 61 3)
          have HOw := Lib.hid ((HO.out.alloc (.cells #[.int .i64 x0, .int .i64 x1, .int .i64 x2] 61)).alloc (.cells #[.int .i64 x0] 3))
          rw [HEA.out]
          go_wp2_with (at_builtin; refine wpList_append1_at rfl _ _ 22 3 rfl Tryz.underlying22 HI.out rfl HOw.out rfl ⟨wq.heap.size + 1, 0, none⟩ (.int .i64 x0) rfl (HNew.out.cell rfl) rfl ?d1 ?d2 ?d3 ?_)
          case d1 => rw [iv_length]; have := HF.out.i; have := HF.out.l; have := HF.out.g; simp; omega
          case d2 => rw [iv_length]; have := HF.out.i; have := HF.out.l; have := HF.out.g; unfold maxLen; simp; omega
          case d3 => have := HSw.out; simp; omega
          intro v' w2 hO2 hg2 hat2
          have hrel : ∃ k' : Nat, Value.int .i64 ((k : Int) + 1) = .int .i64 k' ∧ k' ≤ C.gates.length ∧ Own w2 w.heap.size 3 v' (iv (C.ins ++ C.lats.map (fun x => x.1) ++ (C.gates.take k').map (fun x => x.1))) ∧ (∀ j, v'.ownBlock = some j → w.heap.size < j) ∧ Kp (fun _ => False) w w2 := by
            refine ⟨k + 1, by go_num, by omega, ?_, ?_, ?_⟩
            · rw [HT.out, List.map_append, ← List.append_assoc, iv_append]
              have : iv ([g3 C.gates k].map (fun x => x.1)) = [.int .i64 x0] := by simp [iv, HX.out]
              rw [this]
              simpa using hO2
            · intro j hj
              rcases hat2 with e | e
              · exact HB.out j (e ▸ hj)
              · rw [e] at hj
                have := HSw.out
                simp at hj
                omega
            · exact ((HK.out.alloc _).alloc _).grown hg2 (fun j hj hlt => by have := HB.out j hj; omega)
          have HR := Lib.hid hrel
          clear hrel hO2 hg2 hat2 HOw HNew HT
          go_wp2_with fail
          go_roundw
          case rel => exact HR.out
          case measure => simp [intOf]; omega
        · have i1 : decide ((k : Int) < (C.gates.length : Int)) = false := decide_eq_false (by omega)
          have hk' : k = C.gates.length := by omega
          have HO' : Hid (Own wq w.heap.size 3 u3 (iv C.owned)) := Lib.hid (by have := HO.out; rwa [hk', List.take_length] at this)
          clear hk' hk HO
          go_wp2_with fail
          go_ret
          exact ⟨_, rfl, HO'.out, HK.out⟩

end Go.Proofs.YtckmdcmkjmpiaaaGreatDoor

/-
  A good circuit's net, and what its variables are, plainly.
-/
namespace Go.Proofs.YtckmdcmkjmpiaaaGreatDoor

abbrev NS := List (Int × Int) × List Int

def putN (s : NS) (l : Int) (x : Int × Int) : NS := (s.1 ++ [x], s.2.set (l / 2).toNat (2 * ((s.1.length : Int) + 1)))
def net0 (m : Int) : NS := ([], 0 :: List.replicate m.toNat (-1))
/-- what is known of a net on the way: D are the variables that are placed -/
structure NInv (m : Nat) (s : NS) (D : Nat → Prop) : Prop where
  size : s.2.length = m + 1
  zero : gi s.2 0 = 0
  val : ∀ v, v ≤ m → gi s.2 v = -1 ∨ (0 ≤ gi s.2 v ∧ gi s.2 v % 2 = 0 ∧ gi s.2 v ≤ 2 * (s.1.length : Int))
  put : ∀ v, v ≤ m → D v → 0 ≤ gi s.2 v
  node : ∀ (j : Nat) (x : Int × Int), s.1[j]? = some x → x.1 < 0 ∨ (0 ≤ x.1 ∧ x.1 ≤ 2 * (j : Int) + 1 ∧ 0 ≤ x.2 ∧ x.2 ≤ 2 * (j : Int) + 1)

theorem gi_set {l : List Int} {i : Nat} {x : Int} (h : i < l.length) (k : Nat) : gi (l.set i x) k = if k = i then x else gi l k := by
  unfold gi
  rw [List.getElem?_set]
  by_cases e : i = k
  · subst e; simp [h]
  · rw [if_neg e, if_neg (fun h => e h.symm)]

theorem NInv.start (m : Nat) : NInv m (net0 (m : Int)) (fun v => v = 0) := by
  have hr : ∀ v, v ≤ m → gi (net0 (m : Int)).2 v = if v = 0 then 0 else -1 := fun v hv => by
    show gi (0 :: List.replicate (m : Int).toNat (-1)) v = _
    cases v with
    | zero => rfl
    | succ v =>
      unfold gi
      simp
      rw [List.getElem?_replicate, if_pos (by omega)]; rfl
  refine ⟨by simp [net0], by rw [hr 0 (by omega)]; rfl, fun v hv => ?_, fun v hv hd => ?_, fun j x hx => by simp [net0] at hx⟩
  · rw [hr v hv]
    by_cases e : v = 0
    · right; simp [e, net0]
    · left; simp [e]
  · rw [hr v hv]; simp [hd]

theorem NInv.step {m : Nat} {s : NS} {D : Nat → Prop} (h : NInv m s D) {l : Int} {x : Int × Int} (l0 : 2 ≤ l) (l1 : l ≤ 2 * (m : Int) + 1) (hx : x.1 < 0 ∨ (0 ≤ x.1 ∧ x.1 ≤ 2 * (s.1.length : Int) + 1 ∧ 0 ≤ x.2 ∧ x.2 ≤ 2 * (s.1.length : Int) + 1)) :
    NInv m (putN s l x) (fun v => D v ∨ v = (l / 2).toNat) := by
  have hv : (l / 2).toNat < s.2.length := by rw [h.size]; omega
  have hg := gi_set (x := 2 * ((s.1.length : Int) + 1)) hv
  refine ⟨by unfold putN; simp [h.size], ?_, fun v hv2 => ?_, fun v hv2 hd => ?_, fun j y hy => ?_⟩
  · show gi (s.2.set _ _) 0 = 0
    rw [hg 0, if_neg (by omega)]; exact h.zero
  · show gi (s.2.set _ _) v = -1 ∨ _
    have hlen : ((putN s l x).1.length : Int) = (s.1.length : Int) + 1 := by unfold putN; simp
    rw [hlen]
    show gi (s.2.set _ _) v = -1 ∨ (0 ≤ gi (s.2.set _ _) v ∧ gi (s.2.set _ _) v % 2 = 0 ∧ gi (s.2.set _ _) v ≤ _)
    rw [hg v]
    by_cases e : v = (l / 2).toNat
    · rw [if_pos e]; right; omega
    · rw [if_neg e]
      rcases h.val v hv2 with h1 | h1
      · exact .inl h1
      · right; omega
  · show 0 ≤ gi (s.2.set _ _) v
    rw [hg v]
    by_cases e : v = (l / 2).toNat
    · rw [if_pos e]; omega
    · rw [if_neg e]
      exact h.put v hv2 (hd.resolve_right e)
  · have hy' : (s.1 ++ [x])[j]? = some y := hy
    by_cases hj : j < s.1.length
    · rw [List.getElem?_append_left hj] at hy'
      exact h.node j y hy'
    · rw [List.getElem?_append_right (by omega)] at hy'
      have hj2 : j - s.1.length = 0 := by
        have := (List.getElem?_eq_some_iff.1 hy').1
        simp at this; omega
      rw [hj2] at hy'
      simp at hy'
      subst hy'
      have : j = s.1.length := by
        have := (List.getElem?_eq_some_iff.1 hy).1
        unfold putN at this
        simp at this
        omega
      rw [this]; exact hx

theorem NInv.mono {m : Nat} {s : NS} {D D' : Nat → Prop} (h : NInv m s D) (hd : ∀ v, v ≤ m → D' v → D v) : NInv m s D' :=
  ⟨h.size, h.zero, h.val, fun v hv hd' => h.put v hv (hd v hv hd'), h.node⟩

/-- a circuit with which nothing is wrong -/
structure GoodC (C : Circ) : Prop where
  rng : InRange C
  nd : C.owned.Nodup
  known : ∀ l, l ∈ C.used → knownB C.owned l = true
  ord : (ordO C.gates).length = C.gates.length

theorem GoodC.of {C : Circ} (h : ckCode C = 0) : GoodC C := by
  unfold ckCode at h
  by_cases h1 : C.max < 0 ∨ 16777216 < C.max
  · rw [if_pos h1] at h; cases h
  · rw [if_neg h1] at h
    by_cases h2 : rangeB C = false
    · rw [if_pos h2] at h; cases h
    · rw [if_neg h2] at h
      by_cases h3 : ¬ C.owned.Nodup
      · rw [if_pos h3] at h; cases h
      · rw [if_neg h3] at h
        by_cases h4 : C.used.all (knownB C.owned) = false
        · rw [if_pos h4] at h; cases h
        · rw [if_neg h4] at h
          by_cases h5 : (ordO C.gates).length < C.gates.length
          · rw [if_pos h5] at h; cases h
          · have h6 := (ordO_at C.gates).len
            refine ⟨InRange.of (by omega) (by omega) (by simpa using h2), by simpa using h3, ?_, by omega⟩
            have : C.used.all (knownB C.owned) = true := by simpa using h4
            exact List.all_eq_true.1 this

theorem GoodC.code {C : Circ} (h : GoodC C) : ckCode C = 0 := by
  unfold ckCode
  rw [if_neg (by have := h.rng.max0; have := h.rng.max1; omega), if_neg, if_neg (by simp; exact h.nd), if_neg, if_neg (by rw [h.ord]; omega)]
  · have : C.used.all (knownB C.owned) = true := List.all_eq_true.2 h.known
    simp [this]
  · have : rangeB C = true := by
      unfold rangeB
      simp only [Bool.and_eq_true, List.all_eq_true]
      exact ⟨⟨fun l hl => ownB_iff.2 (h.rng.own l hl), fun x hx => resB_iff.2 (h.rng.res x hx)⟩, fun l hl => useB_iff.2 (h.rng.use l hl)⟩
    simp [this]

end Go.Proofs.YtckmdcmkjmpiaaaGreatDoor

/-
  Layer 1 in plain words: bytes of a string, the number at a place.
-/
namespace Go.Proofs.YtckmdcmkjmpiaaaGreatDoor
open Go.RowKit

/-- the byte at a place -/
def bt (s : ByteArray) (i : Nat) : Nat := if h : i < s.size then (s[i]'h).toNat else 0

theorem bt_eq {s : ByteArray} {i : Nat} (h : i < s.size) : (s[i]'h).toNat = bt s i := by simp [bt, h]
theorem bt_lt (s : ByteArray) (i : Nat) : bt s i < 256 := by
  unfold bt
  split
  · exact UInt8.toNat_lt _
  · decide

/-- the number at a place, by digits of seven bits: r rounds are left, k are done, n is what they came to -/
def getR (s : ByteArray) (at_ : Nat) : Nat → Nat → Nat → Nat × Nat × Nat
  | 0, _, _ => (0, 0, 5)
  | r + 1, k, n =>
    if at_ + k = s.size then (0, 0, 3)
    else if k = 4 ∧ 15 < bt s (at_ + k) then (0, 0, 5)
    else if 0 < k ∧ bt s (at_ + k) = 0 then (0, 0, 2)
    else if bt s (at_ + k) < 128 then (n + bt s (at_ + k) % 128 * 128 ^ k, at_ + k + 1, 0)
    else getR s at_ r (k + 1) (n + bt s (at_ + k) % 128 * 128 ^ k)

def getN (s : ByteArray) (at_ : Nat) : Nat × Nat × Nat := getR s at_ 5 0 0

/-- what Get tells, of any place -/
def getT (s : ByteArray) (x : Int) : Nat × Nat × Nat := if x < 0 ∨ (s.size : Int) < x then (0, 0, 1) else getN s x.toNat

theorem nat_or_add {n k y : Nat} (h : n < 2 ^ k) : n ||| (y * 2 ^ k) = n + y * 2 ^ k := by
  have h1 := Nat.two_pow_add_eq_or_of_lt h y
  rw [Nat.or_comm, Nat.mul_comm y, ← h1]
  omega

theorem or_u32 {n y : Nat} (hn : n < 4294967296) (hy : y < 4294967296) : bits .or .u32 (n : Int) (y : Int) = ((n ||| y : Nat) : Int) := Go.u32_or_nat n y hn hy

theorem and_127 (b : Nat) (h : b < 256) : bits .and .u8 (b : Int) 127 = ((b % 128 : Nat) : Int) := by
  have h1 := Go.u8_and_nat b 127 h (by decide)
  have h2 : b &&& 127 = b % 128 := by
    have := Nat.and_two_pow_sub_one_eq_mod b 7
    simpa using this
  rw [h2] at h1
  exact h1

theorem pow_128 (k : Nat) : 128 ^ k = 2 ^ (7 * k) := by rw [Nat.pow_mul]

/-- one digit is put to the number -/
theorem digit_step {n c k : Nat} (hn : n < 128 ^ k) (hc : c * 128 ^ k < 4294967296) (hk : 128 ^ k ≤ 4294967296) :
    bits .or .u32 (n : Int) (((c : Nat) : Int) % 4294967296 * 2 ^ (7 * k) % 4294967296) = ((n + c * 128 ^ k : Nat) : Int) := by
  have e1 : (((c : Nat) : Int) % 4294967296 * 2 ^ (7 * k) % 4294967296) = ((c * 128 ^ k : Nat) : Int) := by
    have hc' : c < 4294967296 := by
      have : c * 1 ≤ c * 128 ^ k := Nat.mul_le_mul_left c (Nat.pos_of_ne_zero (by simp))
      omega
    rw [pow_128] at hc ⊢
    rw [show ((c : Nat) : Int) % 4294967296 = (c : Int) from Int.emod_eq_of_lt (by omega) (by omega)]
    have : ((c : Nat) : Int) * 2 ^ (7 * k) = ((c * 2 ^ (7 * k) : Nat) : Int) := by simp
    rw [this]
    generalize c * 2 ^ (7 * k) = z at hc
    omega
  rw [e1, or_u32 (by omega) hc]
  rw [pow_128] at hn ⊢
  rw [nat_or_add hn]

theorem digit_step2 {n B k : Nat} (hn : n < 128 ^ k) (hc : B % 128 * 128 ^ k < 4294967296) (hk : 128 ^ k ≤ 4294967296) :
    bits .or .u32 (n : Int) ((B : Int) % 128 * 2 ^ (7 * k) % 4294967296) = ((n + B % 128 * 128 ^ k : Nat) : Int) := by
  have h := digit_step hn hc hk
  rw [← h]
  congr 3
  omega

end Go.Proofs.YtckmdcmkjmpiaaaGreatDoor

/-
  octet.Get and its reference: what they compute.
-/
namespace Go.Proofs.YtckmdcmkjmpiaaaGreatDoor
open Go.RowKit

theorem octet_out (s : ByteArray) (x : Int) (w : World) :
    Calls Tryz.prog 84 #[.string s, .int .i64 x] w fun e w' => e = .returned (.bool (decide (x < 0) || decide ((s.size : Int) < x))) ∧ w = w' := by
  by_cases h : x < 0
  · go_enter Tryz.func84, Tryz.ntmps84
    go_wp2
    go_ret
    exact ⟨by simp [h], rfl⟩
  · go_enter Tryz.func84, Tryz.ntmps84
    go_wp2
    go_ret
    exact ⟨by simp; omega, rfl⟩

def tripV (r : Nat × Nat × Nat) : Value := .tuple #[.int .u32 r.1, .int .i64 r.2.1, .int .i64 r.2.2]

/-- what one round of getR comes to -/
theorem getR_step (s : ByteArray) (at_ r k n : Nat) :
    getR s at_ (r + 1) k n = if at_ + k = s.size then (0, 0, 3)
    else if k = 4 ∧ 15 < bt s (at_ + k) then (0, 0, 5)
    else if 0 < k ∧ bt s (at_ + k) = 0 then (0, 0, 2)
    else if bt s (at_ + k) < 128 then (n + bt s (at_ + k) % 128 * 128 ^ k, at_ + k + 1, 0)
    else getR s at_ r (k + 1) (n + bt s (at_ + k) % 128 * 128 ^ k) := rfl

theorem pow_le {k : Nat} (h : k ≤ 4) : 128 ^ k ≤ 268435456 := Nat.pow_le_pow_right (show 0 < 128 by decide) h

set_option maxRecDepth 100000 in
set_option maxHeartbeats 1000000 in
theorem octet_Get_in (s : ByteArray) (at_ : Nat) (w : World) (hs : s.size ≤ 9223372036854775000) (ha : at_ ≤ s.size) :
    Calls Tryz.prog 146 #[.string s, .int .i64 at_] w fun e w' => e = .returned (tripV (getN s at_)) ∧ w = w' := by
  have o1 : (decide ((at_ : Int) < 0) || decide ((s.size : Int) < (at_ : Int))) = false := by simp; omega
  go_enter Tryz.func146, Tryz.ntmps146
  go_wp2_with fail
  refine (octet_out _ _ _).mono ?_
  rintro e w' ⟨rfl, rfl⟩
  rw [o1]
  go_wp2_with fail
  go_loop [7, 13] (fun v7 v13 => ∃ k n : Nat, v13 = .int .i64 k ∧ v7 = .int .u32 n ∧ k ≤ 5 ∧ at_ + k ≤ s.size ∧ n < 128 ^ k ∧ getR s at_ (5 - k) k n = getN s at_) (fun _ v13 => 5 - (intOf v13).toNat)
  case atStart => exact ⟨0, 0, rfl, rfl, by omega, by omega, by decide, rfl⟩
  case round =>
    obtain ⟨k, n, rfl, rfl, hk, hak, hn, ht⟩ := hrel
    have HN := Lib.hid hn; clear hn
    by_cases h5 : k < 5
    · have HT := Lib.hid ht; clear ht
      have hst := getR_step s at_ (5 - k - 1) k n
      rw [show 5 - k - 1 + 1 = 5 - k from by omega] at hst
      have HST := Lib.hid hst; clear hst
      by_cases he : at_ + k = s.size
      · have HR := Lib.hid (show getR s at_ (5 - k) k n = (0, 0, 3) by rw [HST.out, if_pos he])
        have t1 : ((at_ : Int) + (k : Int) == (s.size : Int)) = true := by rw [beq_iff_eq]; omega
        clear he
        go_wp2_with fail
        go_ret3
        rw [← HT.out, HR.out]
        exact ⟨rfl, rfl⟩
      · have hlt : at_ + k < s.size := by omega
        have t1 : ((at_ : Int) + (k : Int) == (s.size : Int)) = false := by rw [beq_eq_false_iff_ne]; omega
        have hl2 : (at_ : Int) + (k : Int) < (s.size : Int) := by omega
        have hb2 := bt_lt s (at_ + k)
        obtain ⟨B, hB⟩ : ∃ B, B = bt s (at_ + k) := ⟨_, rfl⟩
        have hb := bt_eq hlt
        rw [if_neg he, ← hB] at HST
        rw [← hB] at hb2 hb
        clear hB
        have ea := and_127 B hb2
        have hp := pow_le (show k ≤ 4 by omega)
        by_cases h4 : k = 4
        · subst h4
          by_cases hbig : 15 < B
          · rw [if_pos ⟨rfl, hbig⟩] at HST
            go_wp2_with fail
            go_ret3
            rw [← HT.out, HST.out]
            exact ⟨rfl, rfl⟩
          · rw [if_neg (fun h => hbig h.2)] at HST
            by_cases hz : B = 0
            · subst hz
              rw [if_pos ⟨by omega, rfl⟩] at HST
              go_wp2_with fail
              go_ret3
              rw [← HT.out, HST.out]
              exact ⟨rfl, rfl⟩
            · have tz : ((B : Int) == 0) = false := by rw [beq_eq_false_iff_ne]; omega
              rw [if_neg (fun h => hz h.2), if_pos (by omega)] at HST
              have hc : B % 128 * 128 ^ 4 < 4294967296 := by omega
              have ed := digit_step2 (n := n) (B := B) (k := 4) HN.out hc (by omega)
              rw [show (2 : Int) ^ (7 * 4) = 268435456 from by decide, show ((B : Int) % 128 * 268435456 % 4294967296) = (B : Int) % 128 * 268435456 from by omega] at ed
              generalize n + B % 128 * 128 ^ 4 = X at ed HST
              clear hp hc
              go_wp2_with fail
              go_ret3
              rw [← HT.out, HST.out]
              exact ⟨rfl, rfl⟩
        · have h4i : ¬ (k : Int) = 4 := by omega
          have hp3 : 128 ^ k ≤ 2097152 := Nat.pow_le_pow_right (show 0 < 128 by decide) (show k ≤ 3 by omega)
          have hc : B % 128 * 128 ^ k < 4294967296 := by
            have := Nat.mul_le_mul (show B % 128 ≤ 127 by omega) hp3
            omega
          have ed := digit_step2 (n := n) (B := B) (k := k) HN.out hc (by omega)
          rw [if_neg (by omega)] at HST
          have HX := Lib.hid (show n + B % 128 * 128 ^ k < 128 ^ (k + 1) by
            rw [Nat.pow_succ]
            have := HN.out
            have := Nat.mul_le_mul_right (128 ^ k) (show B % 128 ≤ 127 by omega)
            omega)
          generalize n + B % 128 * 128 ^ k = X at ed HST HX
          clear hp hp3 hc
          by_cases h0 : 0 < k
          · by_cases hz : B = 0
            · subst hz
              rw [if_pos ⟨h0, rfl⟩] at HST
              go_wp2_with fail
              go_ret3
              rw [← HT.out, HST.out]
              exact ⟨rfl, rfl⟩
            · have tz : ((B : Int) == 0) = false := by rw [beq_eq_false_iff_ne]; omega
              rw [if_neg (fun h => hz h.2)] at HST
              by_cases hsm : B < 128
              · rw [if_pos hsm] at HST
                go_wp2_with fail
                go_ret3
                rw [← HT.out, HST.out]
                exact ⟨rfl, rfl⟩
              · rw [if_neg hsm] at HST
                go_wp2_with fail
                go_round
                case rel => exact ⟨k + 1, X, by go_num, rfl, by omega, by omega, HX.out, by rw [← HT.out, HST.out]; rfl⟩
                case measure => simp [intOf]; omega
          · rw [if_neg (fun h => h0 h.1)] at HST
            by_cases hsm : B < 128
            · rw [if_pos hsm] at HST
              go_wp2_with fail
              go_ret3
              rw [← HT.out, HST.out]
              exact ⟨rfl, rfl⟩
            · rw [if_neg hsm] at HST
              go_wp2_with fail
              go_round
              case rel => exact ⟨k + 1, X, by go_num, rfl, by omega, by omega, HX.out, by rw [← HT.out, HST.out]; rfl⟩
              case measure => simp [intOf]; omega
    · have hk5 : k = 5 := by omega
      subst hk5
      have HT := Lib.hid ht; clear ht
      go_wp2_with fail
      go_ret3
      rw [← HT.out]
      exact ⟨rfl, rfl⟩

end Go.Proofs.YtckmdcmkjmpiaaaGreatDoor

/-
  Layer 1 in plain words: the number whose digits stand at a place.
-/
namespace Go.Proofs.YtckmdcmkjmpiaaaGreatDoor
open Go.RowKit

/-- whether the byte at a place is a digit -/
def isDig (s : ByteArray) (i : Nat) : Prop := 48 ≤ bt s i ∧ bt s i ≤ 57

/-- how many digits stand from a place on -/
def runL (s : ByteArray) : Nat → Nat → Nat
  | 0, _ => 0
  | f + 1, i => if 48 ≤ bt s i ∧ bt s i ≤ 57 then runL s f (i + 1) + 1 else 0

def endOf (s : ByteArray) (i : Nat) : Nat := i + runL s (s.size - i) i

theorem runL_le (s : ByteArray) (f : Nat) : ∀ i, runL s f i ≤ f := by
  induction f with
  | zero => intro i; simp [runL]
  | succ f ih => intro i; simp only [runL]; split; (have := ih (i + 1); omega); omega

theorem runL_dig (s : ByteArray) (f : Nat) : ∀ i j, j < runL s f i → isDig s (i + j) := by
  induction f with
  | zero => intro i j h; simp [runL] at h
  | succ f ih =>
    intro i j h
    simp only [runL] at h
    split at h
    · rename_i hd
      cases j with
      | zero => exact hd
      | succ j => have := ih (i + 1) j (by omega); rw [show i + (j + 1) = i + 1 + j from by omega]; exact this
    · omega

theorem runL_stop (s : ByteArray) (f : Nat) : ∀ i, runL s f i < f → ¬ isDig s (i + runL s f i) := by
  induction f with
  | zero => intro i h; omega
  | succ f ih =>
    intro i h
    simp only [runL] at h ⊢
    split
    · rename_i hd
      rw [if_pos hd] at h
      have := ih (i + 1) (by omega)
      rw [show i + (runL s f (i + 1) + 1) = i + 1 + runL s f (i + 1) from by omega]
      exact this
    · rename_i hd; rw [Nat.add_zero]; exact hd

theorem endOf_ge (s : ByteArray) (i : Nat) : i ≤ endOf s i := by unfold endOf; omega
theorem endOf_le {s : ByteArray} {i : Nat} (h : i ≤ s.size) : endOf s i ≤ s.size := by
  have := runL_le s (s.size - i) i
  unfold endOf; omega

/-- where digits stand up to j and none at j, j is the end -/
theorem endOf_is {s : ByteArray} {i j : Nat} (hij : i ≤ j) (hj : j ≤ s.size) (h : ∀ k, i ≤ k → k < j → isDig s k) (hs : j = s.size ∨ ¬ isDig s j) : endOf s i = j := by
  have h1 := runL_le s (s.size - i) i
  unfold endOf
  rcases Nat.lt_trichotomy (i + runL s (s.size - i) i) j with h2 | h2 | h2
  · exact absurd (h _ (by omega) h2) (runL_stop s (s.size - i) i (by omega))
  · exact h2
  · have := runL_dig s (s.size - i) i (j - i) (by omega)
    rw [show i + (j - i) = j from by omega] at this
    rcases hs with e | e
    · omega
    · exact absurd this e

/-- the number of k digits -/
def numb (s : ByteArray) (i : Nat) : Nat → Nat
  | 0 => 0
  | k + 1 => 10 * numb s i k + (bt s (i + k) - 48)

theorem numb_lt {s : ByteArray} {i : Nat} (k : Nat) (h : ∀ j, j < k → isDig s (i + j)) : numb s i k < 10 ^ k := by
  induction k with
  | zero => simp [numb]
  | succ k ih =>
    have h1 := ih (fun j hj => h j (by omega))
    have h2 := h k (by omega)
    unfold isDig at h2
    simp only [numb]
    rw [Nat.pow_succ]
    omega

def natN (s : ByteArray) (i : Nat) : Nat × Nat × Nat :=
  if i = s.size then (0, 0, 3)
  else if endOf s i = i ∨ bt s i = 48 ∧ i + 1 < endOf s i then (0, 0, 2)
  else if 9 < endOf s i - i then (0, 0, 5)
  else (numb s i (endOf s i - i), endOf s i, 0)

theorem byte_at {s : ByteArray} {i : Nat} (h : i < s.size) : ∃ b : UInt8, s.data.toList[i]? = some b ∧ b.toNat = bt s i := by
  refine ⟨s[i]'h, ?_, bt_eq h⟩
  have h2 : i < s.data.size := h
  rw [Array.getElem?_toList, Array.getElem?_eq_getElem h2]
  rfl

theorem word_dec {s : ByteArray} {i : Nat} (k : Nat) (hk : i + k ≤ s.size) (h : ∀ j, j < k → isDig s (i + j)) : Lib.decFrom 0 ((s.data.toList.drop i).take k) = some (numb s i k) := by
  induction k with
  | zero => simp [Lib.decFrom, numb]
  | succ k ih =>
    have h1 := ih (by omega) (fun j hj => h j (by omega))
    obtain ⟨b, hb, hb2⟩ := byte_at (s := s) (i := i + k) (by omega)
    have hd := h k (by omega)
    unfold isDig at hd
    have hv : Lib.digitVal b = some (bt s (i + k) - 48) := by
      unfold Lib.digitVal
      rw [if_pos ⟨by omega, by omega⟩, hb2]
    have := Lib.decFrom_take (s.data.toList.drop i) k 0 (numb s i k) b _ h1 (by rw [List.getElem?_drop]; exact hb) hv
    rw [this]
    simp only [numb]
    congr 1
    omega

theorem word_atoi {s : ByteArray} {i k : Nat} (hk0 : 0 < k) (hk : i + k ≤ s.size) (h : ∀ j, j < k → isDig s (i + j)) : Lib.atoi ((s.data.toList.drop i).take k) = some (numb s i k : Int) := by
  obtain ⟨b, hb, hb2⟩ := byte_at (s := s) (i := i) (by omega)
  have h0 := h 0 hk0
  unfold isDig at h0
  rw [Nat.add_zero] at h0
  have hd := word_dec k hk h
  have hlen : i < s.data.toList.length := by rw [← Lib.size_eq]; omega
  have e : (s.data.toList.drop i).take k = b :: ((s.data.toList.drop (i + 1)).take (k - 1)) := by
    obtain ⟨k', rfl⟩ : ∃ k', k = k' + 1 := ⟨k - 1, by omega⟩
    rw [List.drop_eq_getElem_cons hlen, List.take_succ_cons]
    rw [List.getElem?_eq_getElem hlen] at hb
    simp only [Option.some.injEq] at hb
    rw [hb]
    rfl
  rw [e] at hd ⊢
  have n1 : (b == 45) = false := by
    rw [beq_eq_false_iff_ne]; intro h; subst h; simp at hb2; omega
  have n2 : (b == 43) = false := by
    rw [beq_eq_false_iff_ne]; intro h; subst h; simp at hb2; omega
  simp only [Lib.atoi, n1, n2, Bool.false_eq_true, if_false, Lib.decNat, List.isEmpty_cons, hd, Option.map_some]

theorem cut_size {s : ByteArray} {i n : Nat} (h : i + n ≤ s.size) : (s.extract i (i + n)).size = n := by
  rw [ByteArray.size_extract]; omega

theorem cut_list {s : ByteArray} {i n : Nat} : (s.extract i (i + n)).data.toList = (s.data.toList.drop i).take n := by
  rw [Lib.extract_data, show i + n - i = n from by omega]

theorem cut_empty (s : ByteArray) (i : Nat) : (s.extract i i).toList = [] := by
  rw [Lib.extract_toList]; simp

theorem cut_first {s : ByteArray} {i n : Nat} (h : i + n ≤ s.size) (h0 : 0 < (s.extract i (i + n)).size) : ((s.extract i (i + n))[0]'h0).toNat = bt s i := by
  have hn : 0 < n := by rw [cut_size h] at h0; exact h0
  rw [ByteArray.getElem_extract]
  simp only [Nat.add_zero]
  exact bt_eq (by omega)

theorem cut_some {s : ByteArray} {i n : Nat} (h : i + n ≤ s.size) (hn : 0 < n) : (s.extract i (i + n)).toList ≠ [] := by
  intro e
  have h1 := congrArg List.length e
  rw [Lib.toList_data, ← Lib.size_eq, cut_size h] at h1
  simp at h1
  omega

end Go.Proofs.YtckmdcmkjmpiaaaGreatDoor

/-
  The library's contracts at this dump, as the kit's own tool lays them.
-/
namespace Go.Proofs
open Go.Shelf
def Tryz.lays156_ren : Go.Shelf.Ren := ⟨fun | 156 => 81 | 165 => 96 | 166 => 57 | 169 => 59 | 240 => 80 | 241 => 101 | 276 => 95 | 277 => 109 | n => n, fun | 31 => 147 | 9 => 9 | 3 => 3 | 4 => 4 | 0 => 0 | 20 => 20 | 72 => 109 | 76 => 112 | 70 => 106 | 37 => 107 | 75 => 111 | 127 => 149 | 164 => 164 | 5 => 5 | 80 => 116 | n => n, fun | n => n⟩
theorem Tryz.lays156 : Go.Proofs.Lays.n156 Tryz.prog Tryz.lays156_ren := {
  mixed := by kernel_rfl
  f156 := Tryz.func81.trans (congrArg some (by kernel_rfl))
  f165 := Tryz.func96.trans (congrArg some (by kernel_rfl))
  f166 := Tryz.func57.trans (congrArg some (by kernel_rfl))
  f169 := Tryz.func59.trans (congrArg some (by kernel_rfl))
  f240 := Tryz.func80.trans (congrArg some (by kernel_rfl))
  f241 := Tryz.func101.trans (congrArg some (by kernel_rfl))
  f276 := Tryz.func95.trans (congrArg some (by kernel_rfl))
  f277 := Tryz.func109.trans (congrArg some (by kernel_rfl))
  t0 := Tryz.underlying0
  a0 := Tryz.isAgg0
  z0 := Tryz.sizeOf0
  v0 := Tryz.zeroValue0
  t3 := Tryz.underlying3
  a3 := Tryz.isAgg3
  z3 := Tryz.sizeOf3
  v3 := Tryz.zeroValue3
  t4 := Tryz.underlying4
  a4 := Tryz.isAgg4
  z4 := Tryz.sizeOf4
  v4 := Tryz.zeroValue4
  t9 := Tryz.underlying9
  a9 := Tryz.isAgg9
  z9 := Tryz.sizeOf9
  v9 := Tryz.zeroValue9
  t20 := Tryz.underlying20
  a20 := Tryz.isAgg20
  z20 := Tryz.sizeOf20
  v20 := Tryz.zeroValue20
  t31 := Tryz.underlying147
  a31 := Tryz.isAgg147
  z31 := Tryz.sizeOf147
  v31 := Tryz.zeroValue147
  t37 := Tryz.underlying107
  a37 := Tryz.isAgg107
  z37 := Tryz.sizeOf107
  v37 := Tryz.zeroValue107
  t70 := Tryz.underlying106
  a70 := Tryz.isAgg106
  z70 := Tryz.sizeOf106
  v70 := Tryz.zeroValue106
  t72 := Tryz.underlying109
  a72 := Tryz.isAgg109
  z72 := Tryz.sizeOf109
  v72 := Tryz.zeroValue109
  t75 := Tryz.underlying111
  a75 := Tryz.isAgg111
  z75 := Tryz.sizeOf111
  v75 := Tryz.zeroValue111
  t76 := Tryz.underlying112
  a76 := Tryz.isAgg112
  z76 := Tryz.sizeOf112
  v76 := Tryz.zeroValue112
  t127 := Tryz.underlying149
  a127 := Tryz.isAgg149
  z127 := Tryz.sizeOf149
  v127 := Tryz.zeroValue149
  t164 := Tryz.underlying164
  a164 := Tryz.isAgg164
  z164 := Tryz.sizeOf164
  v164 := Tryz.zeroValue164 }
theorem Tryz.Builder_Extra_156 : Builder.Extra Tryz.prog Tryz.lays156_ren := {
  sizeBuilder := by kernel_rfl
  liesBuilder := by kernel_rfl
  t5 := Tryz.underlying5
  a5 := Tryz.isAgg5
  z5 := Tryz.sizeOf5
  v5 := Tryz.zeroValue5
  infoByte := by kernel_rfl
  cellsByte := by kernel_rfl
  sizeByte := by kernel_rfl
  neB5 := by decide }
open Go.RowKit in
theorem Tryz.strings_Join (bk o c : Nat) (xs : List ByteArray) (sep : ByteArray) (w : World) (hcells : ∀ (j : Nat) x, xs[j]? = some x → w.cell? ⟨bk, o + j, none⟩ = some (.string x)) (hbk : bk < w.heap.size) (hN : xs.length ≤ 140737488355328) (hcap : xs.length ≤ c) (hlen : (Lib.join (xs.map (·.data.toList)) sep.data.toList).length ≤ 140737488355328) :
    Calls Tryz.prog 81 #[.slice (some ⟨bk, o, none⟩) xs.length c, .string sep] w fun e w' => e = .returned (.string ⟨(Lib.join (xs.map (·.data.toList)) sep.data.toList).toArray⟩) ∧ Below w.heap.size w w' := Any.strings_Join Tryz.lays156 Tryz.Builder_Extra_156 bk o c xs sep w hcells hbk hN hcap hlen
def Tryz.lays137_ren : Go.Shelf.Ren := ⟨fun | 137 => 56 | 217 => 79 | 266 => 94 | n => n, fun | 9 => 9 | 5 => 5 | 3 => 3 | n => n, fun | n => n⟩
theorem Tryz.lays137 : Go.Proofs.Lays.n137 Tryz.prog Tryz.lays137_ren := {
  mixed := by kernel_rfl
  f137 := Tryz.func56.trans (congrArg some (by kernel_rfl))
  f217 := Tryz.func79.trans (congrArg some (by kernel_rfl))
  f266 := Tryz.func94.trans (congrArg some (by kernel_rfl))
  t3 := Tryz.underlying3
  a3 := Tryz.isAgg3
  z3 := Tryz.sizeOf3
  v3 := Tryz.zeroValue3
  t5 := Tryz.underlying5
  a5 := Tryz.isAgg5
  z5 := Tryz.sizeOf5
  v5 := Tryz.zeroValue5
  t9 := Tryz.underlying9
  a9 := Tryz.isAgg9
  z9 := Tryz.sizeOf9
  v9 := Tryz.zeroValue9 }
open Go.RowKit in
theorem Tryz.strings_IndexByte (s : ByteArray) (c : Int) (w : World) :
    Calls Tryz.prog 56 #[.string s, .int .u8 c] w fun e w' => e = .returned (.int .i64 (Lib.indexByte s.data.toList c.toNat.toUInt8)) ∧ w' = w := Any.strings_IndexByte Tryz.lays137 s c w
def Tryz.lays103_ren : Go.Shelf.Ren := ⟨fun | 103 => 35 | 210 => 71 | 206 => 64 | n => n, fun | 9 => 9 | 4 => 4 | 24 => 67 | 3 => 3 | n => n, fun | n => n⟩
theorem Tryz.lays103 : Go.Proofs.Lays.n103 Tryz.prog Tryz.lays103_ren := {
  mixed := by kernel_rfl
  f103 := Tryz.func35.trans (congrArg some (by kernel_rfl))
  f206 := Tryz.func64.trans (congrArg some (by kernel_rfl))
  f210 := Tryz.func71.trans (congrArg some (by kernel_rfl))
  t3 := Tryz.underlying3
  a3 := Tryz.isAgg3
  z3 := Tryz.sizeOf3
  v3 := Tryz.zeroValue3
  t4 := Tryz.underlying4
  a4 := Tryz.isAgg4
  z4 := Tryz.sizeOf4
  v4 := Tryz.zeroValue4
  t9 := Tryz.underlying9
  a9 := Tryz.isAgg9
  z9 := Tryz.sizeOf9
  v9 := Tryz.zeroValue9
  t24 := Tryz.underlying67
  a24 := Tryz.isAgg67
  z24 := Tryz.sizeOf67
  v24 := Tryz.zeroValue67 }
open Go.RowKit in
theorem Tryz.strings_CutPrefix (s p : ByteArray) (w : World) :
    Calls Tryz.prog 35 #[.string s, .string p] w fun e w' => e = .returned (.tuple #[.string ⟨(Lib.trimPrefix s.data.toList p.data.toList).toArray⟩, .bool (Lib.hasPrefix s.data.toList p.data.toList)]) ∧ w' = w := Any.strings_CutPrefix Tryz.lays103 s p w
def Tryz.lays172_ren : Go.Shelf.Ren := ⟨fun | 172 => 86 | 244 => 98 | 245 => 99 | 247 => 103 | 279 => 104 | 280 => 105 | 281 => 106 | 282 => 107 | 287 => 114 | 316 => 115 | 171 => 83 | 205 => 116 | 321 => 122 | 322 => 123 | 243 => 97 | 246 => 102 | 283 => 110 | 284 => 111 | 285 => 112 | 286 => 113 | 129 => 118 | 317 => 117 | 318 => 119 | 319 => 120 | 320 => 121 | 337 => 124 | 338 => 125 | n => n, fun | 9 => 9 | 3 => 3 | 75 => 111 | 76 => 112 | 4 => 4 | 5 => 5 | 167 => 169 | 37 => 107 | 0 => 0 | 85 => 170 | 2 => 2 | 168 => 172 | 53 => 163 | 175 => 183 | 46 => 151 | 210 => 187 | 127 => 149 | 145 => 196 | 143 => 194 | 21 => 21 | 171 => 178 | 173 => 181 | 212 => 190 | 51 => 120 | 20 => 20 | 213 => 191 | 232 => 198 | 233 => 199 | 80 => 116 | n => n, fun | 15 => 1 | 16 => 2 | 17 => 3 | 18 => 4 | 19 => 5 | n => n⟩
theorem Tryz.lays172 : Go.Proofs.Lays.n172 Tryz.prog Tryz.lays172_ren := {
  mixed := by kernel_rfl
  f129 := Tryz.func118.trans (congrArg some (by kernel_rfl))
  f171 := Tryz.func83.trans (congrArg some (by kernel_rfl))
  f172 := Tryz.func86.trans (congrArg some (by kernel_rfl))
  f205 := Tryz.func116.trans (congrArg some (by kernel_rfl))
  f243 := Tryz.func97.trans (congrArg some (by kernel_rfl))
  f244 := Tryz.func98.trans (congrArg some (by kernel_rfl))
  f245 := Tryz.func99.trans (congrArg some (by kernel_rfl))
  f246 := Tryz.func102.trans (congrArg some (by kernel_rfl))
  f247 := Tryz.func103.trans (congrArg some (by kernel_rfl))
  f279 := Tryz.func104.trans (congrArg some (by kernel_rfl))
  f280 := Tryz.func105.trans (congrArg some (by kernel_rfl))
  f281 := Tryz.func106.trans (congrArg some (by kernel_rfl))
  f282 := Tryz.func107.trans (congrArg some (by kernel_rfl))
  f283 := Tryz.func110.trans (congrArg some (by kernel_rfl))
  f284 := Tryz.func111.trans (congrArg some (by kernel_rfl))
  f285 := Tryz.func112.trans (congrArg some (by kernel_rfl))
  f286 := Tryz.func113.trans (congrArg some (by kernel_rfl))
  f287 := Tryz.func114.trans (congrArg some (by kernel_rfl))
  f316 := Tryz.func115.trans (congrArg some (by kernel_rfl))
  f317 := Tryz.func117.trans (congrArg some (by kernel_rfl))
  f318 := Tryz.func119.trans (congrArg some (by kernel_rfl))
  f319 := Tryz.func120.trans (congrArg some (by kernel_rfl))
  f320 := Tryz.func121.trans (congrArg some (by kernel_rfl))
  f321 := Tryz.func122.trans (congrArg some (by kernel_rfl))
  f322 := Tryz.func123.trans (congrArg some (by kernel_rfl))
  f337 := Tryz.func124.trans (congrArg some (by kernel_rfl))
  f338 := Tryz.func125.trans (congrArg some (by kernel_rfl))
  t0 := Tryz.underlying0
  a0 := Tryz.isAgg0
  z0 := Tryz.sizeOf0
  v0 := Tryz.zeroValue0
  t2 := Tryz.underlying2
  a2 := Tryz.isAgg2
  z2 := Tryz.sizeOf2
  v2 := Tryz.zeroValue2
  t3 := Tryz.underlying3
  a3 := Tryz.isAgg3
  z3 := Tryz.sizeOf3
  v3 := Tryz.zeroValue3
  t4 := Tryz.underlying4
  a4 := Tryz.isAgg4
  z4 := Tryz.sizeOf4
  v4 := Tryz.zeroValue4
  t5 := Tryz.underlying5
  a5 := Tryz.isAgg5
  z5 := Tryz.sizeOf5
  v5 := Tryz.zeroValue5
  t9 := Tryz.underlying9
  a9 := Tryz.isAgg9
  z9 := Tryz.sizeOf9
  v9 := Tryz.zeroValue9
  t20 := Tryz.underlying20
  a20 := Tryz.isAgg20
  z20 := Tryz.sizeOf20
  v20 := Tryz.zeroValue20
  t21 := Tryz.underlying21
  a21 := Tryz.isAgg21
  z21 := Tryz.sizeOf21
  v21 := Tryz.zeroValue21
  t37 := Tryz.underlying107
  a37 := Tryz.isAgg107
  z37 := Tryz.sizeOf107
  v37 := Tryz.zeroValue107
  t46 := Tryz.underlying151
  a46 := Tryz.isAgg151
  z46 := Tryz.sizeOf151
  v46 := Tryz.zeroValue151
  t51 := Tryz.underlying120
  a51 := Tryz.isAgg120
  z51 := Tryz.sizeOf120
  v51 := Tryz.zeroValue120
  t53 := Tryz.underlying163
  a53 := Tryz.isAgg163
  z53 := Tryz.sizeOf163
  v53 := Tryz.zeroValue163
  t75 := Tryz.underlying111
  a75 := Tryz.isAgg111
  z75 := Tryz.sizeOf111
  v75 := Tryz.zeroValue111
  t76 := Tryz.underlying112
  a76 := Tryz.isAgg112
  z76 := Tryz.sizeOf112
  v76 := Tryz.zeroValue112
  t85 := Tryz.underlying170
  a85 := Tryz.isAgg170
  z85 := Tryz.sizeOf170
  v85 := Tryz.zeroValue170
  t127 := Tryz.underlying149
  a127 := Tryz.isAgg149
  z127 := Tryz.sizeOf149
  v127 := Tryz.zeroValue149
  t143 := Tryz.underlying194
  a143 := Tryz.isAgg194
  z143 := Tryz.sizeOf194
  v143 := Tryz.zeroValue194
  t145 := Tryz.underlying196
  a145 := Tryz.isAgg196
  z145 := Tryz.sizeOf196
  v145 := Tryz.zeroValue196
  t167 := Tryz.underlying169
  a167 := Tryz.isAgg169
  z167 := Tryz.sizeOf169
  v167 := Tryz.zeroValue169
  t168 := Tryz.underlying172
  a168 := Tryz.isAgg172
  z168 := Tryz.sizeOf172
  v168 := Tryz.zeroValue172
  t171 := Tryz.underlying178
  a171 := Tryz.isAgg178
  z171 := Tryz.sizeOf178
  v171 := Tryz.zeroValue178
  t173 := Tryz.underlying181
  a173 := Tryz.isAgg181
  z173 := Tryz.sizeOf181
  v173 := Tryz.zeroValue181
  t175 := Tryz.underlying183
  a175 := Tryz.isAgg183
  z175 := Tryz.sizeOf183
  v175 := Tryz.zeroValue183
  t210 := Tryz.underlying187
  a210 := Tryz.isAgg187
  z210 := Tryz.sizeOf187
  v210 := Tryz.zeroValue187
  t212 := Tryz.underlying190
  a212 := Tryz.isAgg190
  z212 := Tryz.sizeOf190
  v212 := Tryz.zeroValue190
  t213 := Tryz.underlying191
  a213 := Tryz.isAgg191
  z213 := Tryz.sizeOf191
  t232 := Tryz.underlying198
  a232 := Tryz.isAgg198
  z232 := Tryz.sizeOf198
  v232 := Tryz.zeroValue198
  t233 := Tryz.underlying199
  a233 := Tryz.isAgg199
  z233 := Tryz.sizeOf199
  v233 := Tryz.zeroValue199
  g15 := by kernel_rfl
  g16 := by kernel_rfl
  g17 := by kernel_rfl
  g18 := by kernel_rfl
  g19 := by kernel_rfl }
open Go.RowKit in
theorem Tryz.strconv_Atoi (s : ByteArray) (n : Int) (hl : s.size ≤ 18) (h : Lib.atoi s.data.toList = some n) (w : World) :
    Calls Tryz.prog 86 #[.string s] w fun e w' => e = .returned (.tuple #[.int .i64 n, .nilIface]) ∧ ∃ t, w' = Lib.bytesWorld w 5 t := Any.strconv_Atoi Tryz.lays172 s n hl h w
def Tryz.laysM171_ren : Go.Shelf.Ren := ⟨fun | 171 => 83 | 243 => 97 | 246 => 102 | 283 => 110 | 284 => 111 | 285 => 112 | 286 => 113 | 129 => 118 | 317 => 117 | 318 => 119 | 319 => 120 | 320 => 121 | 337 => 124 | 338 => 125 | n => n, fun | 3 => 3 | 9 => 9 | 2 => 2 | 4 => 4 | 171 => 178 | 0 => 0 | 53 => 163 | 37 => 107 | 5 => 5 | 173 => 181 | 212 => 190 | 51 => 120 | 20 => 20 | 213 => 191 | 46 => 151 | 232 => 198 | 233 => 199 | n => n, fun | 17 => 3 | 18 => 4 | 19 => 5 | n => n⟩
theorem Tryz.laysM171 : Go.Proofs.LaysM.n171 Tryz.prog Tryz.laysM171_ren := {
  mixed := by kernel_rfl
  f129 := Tryz.func118.trans (congrArg some (by kernel_rfl))
  f171 := Tryz.func83.trans (congrArg some (by kernel_rfl))
  f243 := Tryz.func97.trans (congrArg some (by kernel_rfl))
  f246 := Tryz.func102.trans (congrArg some (by kernel_rfl))
  f283 := Tryz.func110.trans (congrArg some (by kernel_rfl))
  f284 := Tryz.func111.trans (congrArg some (by kernel_rfl))
  f285 := Tryz.func112.trans (congrArg some (by kernel_rfl))
  f286 := Tryz.func113.trans (congrArg some (by kernel_rfl))
  f317 := Tryz.func117.trans (congrArg some (by kernel_rfl))
  f318 := Tryz.func119.trans (congrArg some (by kernel_rfl))
  f319 := Tryz.func120.trans (congrArg some (by kernel_rfl))
  f320 := Tryz.func121.trans (congrArg some (by kernel_rfl))
  f337 := Tryz.func124.trans (congrArg some (by kernel_rfl))
  f338 := Tryz.func125.trans (congrArg some (by kernel_rfl))
  t0 := Tryz.underlying0
  a0 := Tryz.isAgg0
  z0 := Tryz.sizeOf0
  v0 := Tryz.zeroValue0
  t2 := Tryz.underlying2
  a2 := Tryz.isAgg2
  z2 := Tryz.sizeOf2
  v2 := Tryz.zeroValue2
  t3 := Tryz.underlying3
  a3 := Tryz.isAgg3
  z3 := Tryz.sizeOf3
  v3 := Tryz.zeroValue3
  t4 := Tryz.underlying4
  a4 := Tryz.isAgg4
  z4 := Tryz.sizeOf4
  v4 := Tryz.zeroValue4
  t5 := Tryz.underlying5
  a5 := Tryz.isAgg5
  z5 := Tryz.sizeOf5
  v5 := Tryz.zeroValue5
  t9 := Tryz.underlying9
  a9 := Tryz.isAgg9
  z9 := Tryz.sizeOf9
  v9 := Tryz.zeroValue9
  t20 := Tryz.underlying20
  a20 := Tryz.isAgg20
  z20 := Tryz.sizeOf20
  v20 := Tryz.zeroValue20
  t37 := Tryz.underlying107
  a37 := Tryz.isAgg107
  z37 := Tryz.sizeOf107
  v37 := Tryz.zeroValue107
  t46 := Tryz.underlying151
  a46 := Tryz.isAgg151
  z46 := Tryz.sizeOf151
  v46 := Tryz.zeroValue151
  t51 := Tryz.underlying120
  a51 := Tryz.isAgg120
  z51 := Tryz.sizeOf120
  v51 := Tryz.zeroValue120
  t53 := Tryz.underlying163
  a53 := Tryz.isAgg163
  z53 := Tryz.sizeOf163
  v53 := Tryz.zeroValue163
  t171 := Tryz.underlying178
  a171 := Tryz.isAgg178
  z171 := Tryz.sizeOf178
  v171 := Tryz.zeroValue178
  t173 := Tryz.underlying181
  a173 := Tryz.isAgg181
  z173 := Tryz.sizeOf181
  v173 := Tryz.zeroValue181
  t212 := Tryz.underlying190
  a212 := Tryz.isAgg190
  z212 := Tryz.sizeOf190
  v212 := Tryz.zeroValue190
  t213 := Tryz.underlying191
  a213 := Tryz.isAgg191
  z213 := Tryz.sizeOf191
  t232 := Tryz.underlying198
  a232 := Tryz.isAgg198
  z232 := Tryz.sizeOf198
  v232 := Tryz.zeroValue198
  t233 := Tryz.underlying199
  a233 := Tryz.isAgg199
  z233 := Tryz.sizeOf199
  v233 := Tryz.zeroValue199
  g17 := by kernel_rfl
  g18 := by kernel_rfl
  g19 := by kernel_rfl
  i0 := by kernel_rfl
  i2 := by kernel_rfl
  i3 := by kernel_rfl
  i4 := by kernel_rfl
  i5 := by kernel_rfl
  i9 := by kernel_rfl
  i20 := by kernel_rfl
  i37 := by kernel_rfl
  i46 := by kernel_rfl
  i51 := by kernel_rfl
  i53 := by kernel_rfl
  i171 := by kernel_rfl
  i173 := by kernel_rfl
  i212 := by kernel_rfl
  i232 := by kernel_rfl
  i233 := by kernel_rfl
  m17 := by kernel_rfl
  m18 := by kernel_rfl
  m19 := by kernel_rfl }
open Go.RowKit Go.Sort Go.Lib in
theorem Tryz.strconv_Itoa (n : Int) (h0 : -9223372036854775808 ≤ n) (h1 : n ≤ 9223372036854775807) (w : World) (htab : Lib.TabIs Tryz.prog w "internal/strconv.uint64pow10" .u64 Lib.pow10Tab) :
    Calls Tryz.prog 83 #[.int .i64 n] w fun e w' => e = .returned (.string ⟨(Lib.itoa n).toArray⟩) ∧ ∃ k os, w' = grow (w.drewN k) os := Any.strconv_Itoa Tryz.laysM171 n h0 h1 w htab
def Tryz.lays99_ren : Go.Shelf.Ren := ⟨fun | 99 => 29 | 206 => 64 | n => n, fun | 9 => 9 | 4 => 4 | 3 => 3 | n => n, fun | n => n⟩
theorem Tryz.lays99 : Go.Proofs.Lays.n99 Tryz.prog Tryz.lays99_ren := {
  mixed := by kernel_rfl
  f99 := Tryz.func29.trans (congrArg some (by kernel_rfl))
  f206 := Tryz.func64.trans (congrArg some (by kernel_rfl))
  t3 := Tryz.underlying3
  a3 := Tryz.isAgg3
  z3 := Tryz.sizeOf3
  v3 := Tryz.zeroValue3
  t4 := Tryz.underlying4
  a4 := Tryz.isAgg4
  z4 := Tryz.sizeOf4
  v4 := Tryz.zeroValue4
  t9 := Tryz.underlying9
  a9 := Tryz.isAgg9
  z9 := Tryz.sizeOf9
  v9 := Tryz.zeroValue9 }
open Go.RowKit Go.Lib in
theorem Tryz.strings_HasPrefix (s p : ByteArray) (w : World) :
    Calls Tryz.prog 29 #[.string s, .string p] w fun e w' => e = .returned (.bool (Lib.hasPrefix s.data.toList p.data.toList)) ∧ w' = w := Any.strings_HasPrefix Tryz.lays99 s p w
end Go.Proofs

/-
  octet.Nat and its reference: what they compute.
-/
namespace Go.Proofs.YtckmdcmkjmpiaaaGreatDoor
open Go.RowKit

def tripI (r : Nat × Nat × Nat) : Value := .tuple #[.int .i64 r.1, .int .i64 r.2.1, .int .i64 r.2.2]

theorem octet_digit (b : Nat) (w : World) (hb : b < 256) :
    Calls Tryz.prog 85 #[.int .u8 b] w fun e w' => e = .returned (.bool (decide (48 ≤ b ∧ b ≤ 57))) ∧ w = w' := by
  by_cases h1 : 48 ≤ b
  · by_cases h2 : b ≤ 57
    · have e := Lib.hid (show decide (48 ≤ b ∧ b ≤ 57) = true by simp [h1, h2])
      go_enter Tryz.func85, Tryz.ntmps85
      go_wp2
      go_ret
      rw [e.out]
      exact ⟨by simp; omega, rfl⟩
    · have e := Lib.hid (show decide (48 ≤ b ∧ b ≤ 57) = false by simp [h2])
      go_enter Tryz.func85, Tryz.ntmps85
      go_wp2
      go_ret
      rw [e.out]
      exact ⟨by simp; omega, rfl⟩
  · have e := Lib.hid (show decide (48 ≤ b ∧ b ≤ 57) = false by simp [h1])
    go_enter Tryz.func85, Tryz.ntmps85
    go_wp2
    go_ret
    first | exact ⟨rfl, rfl⟩ | (rw [e.out]; exact ⟨rfl, rfl⟩)

theorem Kp.freeze {S : Nat → Prop} {a w : World} (h : Kp S a w) {p : Addr} (hp : p.block < a.heap.size → S p.block) (n : Nat) : Kp S a (w.freeze p n) := by
  unfold World.freeze
  split
  · exact h
  · refine ⟨h.os, h.tape, h.output, by simpa using h.size, fun k hk hS => ?_⟩
    show (w.heap.modify p.block _)[k]? = _
    rw [Array.getElem?_modify, if_neg (fun e => hS (by subst e; exact hp hk))]
    exact h.block k hk hS

theorem kp_bytesWorld (w : World) (e : TypeId) (t : ByteArray) : Kp (fun _ => False) w (Lib.bytesWorld w e t) := by
  unfold Lib.bytesWorld
  exact Kp.freeze (((Kp.refl _ w).drew).alloc _) (fun h => absurd h (by simp)) 1

set_option maxRecDepth 100000 in
set_option maxHeartbeats 1000000 in
theorem octet_Nat_in (s : ByteArray) (at_ : Nat) (w : World) (hs : s.size ≤ 9223372036854775000) (ha : at_ ≤ s.size) :
    Calls Tryz.prog 65 #[.string s, .int .i64 at_] w fun e w' => e = .returned (tripI (natN s at_)) ∧ Kp (fun _ => False) w w' := by
  have o1 : (decide ((at_ : Int) < 0) || decide ((s.size : Int) < (at_ : Int))) = false := by simp; omega
  go_enter Tryz.func65, Tryz.ntmps65
  go_wp2_with fail
  refine (octet_out _ _ _).mono ?_
  rintro e w' ⟨rfl, rfl⟩
  rw [o1]
  go_wp2_with fail
  go_loop [7] (fun v7 => ∃ j : Nat, v7 = .int .i64 j ∧ at_ ≤ j ∧ j ≤ s.size ∧ ∀ k, at_ ≤ k → k < j → isDig s k) (fun v7 => s.size - (intOf v7).toNat)
  case atStart => exact ⟨at_, rfl, by omega, by omega, fun k h1 h2 => by omega⟩
  case round =>
    obtain ⟨j, rfl, hj1, hj2, hd⟩ := hrel
    have HD := Lib.hid hd; clear hd
    by_cases hlt : j < s.size
    · have hb2 := bt_lt s j
      obtain ⟨B, hB⟩ : ∃ B, B = bt s j := ⟨_, rfl⟩
      have hb := bt_eq hlt
      rw [← hB] at hb2 hb
      have HB := Lib.hid hB; clear hB
      by_cases hdig : 48 ≤ B ∧ B ≤ 57
      · have hb3 : decide (48 ≤ B ∧ B ≤ 57) = true := by simp [hdig]
        go_wp2_with fail
        refine (octet_digit B _ hb2).mono ?_
        rintro e w' ⟨rfl, rfl⟩
        rw [hb3]
        go_wp2_with fail
        go_round
        case rel =>
          refine ⟨j + 1, by go_num, by omega, by omega, fun k h1 h2 => ?_⟩
          by_cases e : k = j
          · subst e; unfold isDig; rw [← HB.out]; exact hdig
          · exact HD.out k h1 (by omega)
        case measure => simp [intOf]; omega
      · have hb3 : decide (48 ≤ B ∧ B ≤ 57) = false := by simp only [hdig, decide_false]
        have HE := Lib.hid (endOf_is hj1 hj2 HD.out (.inr (by unfold isDig; rw [← HB.out]; exact hdig)))
        go_wp2_with fail
        refine (octet_digit B _ hb2).mono ?_
        rintro e w' ⟨rfl, rfl⟩
        rw [hb3]
        clear hb hb3 hdig HB hb2
        obtain ⟨n, rfl⟩ : ∃ n, j = at_ + n := ⟨j - at_, by omega⟩
        have HNN : Hid (natN s at_ = if at_ = s.size then (0, 0, 3) else if n = 0 ∨ bt s at_ = 48 ∧ 1 < n then (0, 0, 2) else if 9 < n then (0, 0, 5) else (numb s at_ n, at_ + n, 0)) := by
          show natN s at_ = _
          unfold natN
          rw [HE.out, show at_ + n - at_ = n from by omega]
          simp only [show (at_ + n = at_) = (n = 0) from propext (by omega), show (at_ + 1 < at_ + n) = (1 < n) from propext (by omega)]
        clear HE
        by_cases hend : at_ = s.size
        · have t1 : ((at_ : Int) == (s.size : Int)) = true := by rw [beq_iff_eq]; omega
          rw [if_pos hend] at HNN
          clear hend
          go_wp2_with fail
          go_ret3
          rw [HNN.out]
          exact ⟨rfl, Kp.refl _ _⟩
        · have t1 : ((at_ : Int) == (s.size : Int)) = false := by rw [beq_eq_false_iff_ne]; omega
          rw [if_neg hend] at HNN
          by_cases hn0 : n = 0
          · subst hn0
            have e1 : (s.extract at_ at_).toList = [] := cut_empty s at_
            have e2 : (s.extract at_ at_).toList.isEmpty = true := by rw [e1]; rfl
            rw [if_pos (.inl rfl)] at HNN
            rw [Nat.add_zero] at *
            clear hend
            go_wp2_with fail
            go_ret3
            rw [HNN.out]
            exact ⟨rfl, Kp.refl _ _⟩
          · have hcs := cut_size (s := s) (i := at_) (n := n) hj2
            have hsz : 0 < (s.extract at_ (at_ + n)).size := by rw [hcs]; omega
            have e1 := cut_some hj2 (show 0 < n by omega)
            have e2 : (s.extract at_ (at_ + n)).toList.isEmpty = false := by simpa using e1
            have hc0 := cut_first hj2 hsz
            have hC := bt_lt s at_
            generalize bt s at_ = C at hc0 HNN hC
            have HAT := Lib.hid (show Lib.atoi (s.extract at_ (at_ + n)).data.toList = some (numb s at_ n : Int) by rw [cut_list]; exact word_atoi (by omega) hj2 (fun k hk => HD.out (at_ + k) (by omega) (by omega)))
            by_cases h48 : C = 48 ∧ 1 < n
            · obtain ⟨rfl, hn1⟩ := h48
              rw [if_pos (.inr ⟨rfl, hn1⟩)] at HNN
              have d1 : decide ((1 : Int) < (n : Int)) = true := by simp; omega
              go_wp2_with fail
              go_ret3
              rw [HNN.out]
              exact ⟨rfl, Kp.refl _ _⟩
            · rw [if_neg (by omega)] at HNN
              by_cases hn9 : 9 < n
              · rw [if_pos hn9] at HNN
                have hC48 : ¬ C = 48 := by omega
                have hC48i : ¬ (C : Int) = 48 := by omega
                have d1 : decide ((9 : Int) < (n : Int)) = true := by simp; omega
                go_wp2_with fail
                go_ret3
                rw [HNN.out]
                exact ⟨rfl, Kp.refl _ _⟩
              · rw [if_neg hn9] at HNN
                have d1 : decide ((9 : Int) < (n : Int)) = false := by simp; omega
                have hnum := numb_lt (s := s) (i := at_) n (fun k hk => HD.out (at_ + k) (by omega) (by omega))
                by_cases hC48 : C = 48
                · subst hC48
                  obtain rfl : n = 1 := by omega
                  go_wp2_with fail
                  refine (Tryz.strconv_Atoi _ _ (by rw [hcs]; omega) HAT.out _).mono ?_
                  rintro e w1 ⟨rfl, t, rfl⟩
                  go_wp2_with fail
                  go_ret3
                  rw [HNN.out]
                  exact ⟨rfl, kp_bytesWorld _ _ _⟩
                · have hC48i : ¬ (C : Int) = 48 := by omega
                  go_wp2_with fail
                  refine (Tryz.strconv_Atoi _ _ (by rw [hcs]; omega) HAT.out _).mono ?_
                  rintro e w1 ⟨rfl, t, rfl⟩
                  go_wp2_with fail
                  go_ret3
                  rw [HNN.out]
                  exact ⟨rfl, kp_bytesWorld _ _ _⟩
    · have HE := Lib.hid (endOf_is hj1 hj2 HD.out (.inl (by omega)))
      obtain ⟨n, rfl⟩ : ∃ n, j = at_ + n := ⟨j - at_, by omega⟩
      have HNN : Hid (natN s at_ = if at_ = s.size then (0, 0, 3) else if n = 0 ∨ bt s at_ = 48 ∧ 1 < n then (0, 0, 2) else if 9 < n then (0, 0, 5) else (numb s at_ n, at_ + n, 0)) := by
        show natN s at_ = _
        unfold natN
        rw [HE.out, show at_ + n - at_ = n from by omega]
        simp only [show (at_ + n = at_) = (n = 0) from propext (by omega), show (at_ + 1 < at_ + n) = (1 < n) from propext (by omega)]
      clear HE
      by_cases hend : at_ = s.size
      · have t1 : ((at_ : Int) == (s.size : Int)) = true := by rw [beq_iff_eq]; omega
        rw [if_pos hend] at HNN
        clear hend
        go_wp2_with fail
        go_ret3
        rw [HNN.out]
        exact ⟨rfl, Kp.refl _ _⟩
      · have t1 : ((at_ : Int) == (s.size : Int)) = false := by rw [beq_eq_false_iff_ne]; omega
        rw [if_neg hend] at HNN
        by_cases hn0 : n = 0
        · subst hn0
          have e1 : (s.extract at_ at_).toList = [] := cut_empty s at_
          have e2 : (s.extract at_ at_).toList.isEmpty = true := by rw [e1]; rfl
          rw [if_pos (.inl rfl)] at HNN
          rw [Nat.add_zero] at *
          clear hend
          go_wp2_with fail
          go_ret3
          rw [HNN.out]
          exact ⟨rfl, Kp.refl _ _⟩
        · have hcs := cut_size (s := s) (i := at_) (n := n) hj2
          have hsz : 0 < (s.extract at_ (at_ + n)).size := by rw [hcs]; omega
          have e1 := cut_some hj2 (show 0 < n by omega)
          have e2 : (s.extract at_ (at_ + n)).toList.isEmpty = false := by simpa using e1
          have hc0 := cut_first hj2 hsz
          have hC := bt_lt s at_
          generalize bt s at_ = C at hc0 HNN hC
          have HAT := Lib.hid (show Lib.atoi (s.extract at_ (at_ + n)).data.toList = some (numb s at_ n : Int) by rw [cut_list]; exact word_atoi (by omega) hj2 (fun k hk => HD.out (at_ + k) (by omega) (by omega)))
          by_cases h48 : C = 48 ∧ 1 < n
          · obtain ⟨rfl, hn1⟩ := h48
            rw [if_pos (.inr ⟨rfl, hn1⟩)] at HNN
            have d1 : decide ((1 : Int) < (n : Int)) = true := by simp; omega
            go_wp2_with fail
            go_ret3
            rw [HNN.out]
            exact ⟨rfl, Kp.refl _ _⟩
          · rw [if_neg (by omega)] at HNN
            by_cases hn9 : 9 < n
            · rw [if_pos hn9] at HNN
              have hC48 : ¬ C = 48 := by omega
              have hC48i : ¬ (C : Int) = 48 := by omega
              have d1 : decide ((9 : Int) < (n : Int)) = true := by simp; omega
              go_wp2_with fail
              go_ret3
              rw [HNN.out]
              exact ⟨rfl, Kp.refl _ _⟩
            · rw [if_neg hn9] at HNN
              have d1 : decide ((9 : Int) < (n : Int)) = false := by simp; omega
              have hnum := numb_lt (s := s) (i := at_) n (fun k hk => HD.out (at_ + k) (by omega) (by omega))
              by_cases hC48 : C = 48
              · subst hC48
                obtain rfl : n = 1 := by omega
                go_wp2_with fail
                refine (Tryz.strconv_Atoi _ _ (by rw [hcs]; omega) HAT.out _).mono ?_
                rintro e w1 ⟨rfl, t, rfl⟩
                go_wp2_with fail
                go_ret3
                rw [HNN.out]
                exact ⟨rfl, kp_bytesWorld _ _ _⟩
              · have hC48i : ¬ (C : Int) = 48 := by omega
                go_wp2_with fail
                refine (Tryz.strconv_Atoi _ _ (by rw [hcs]; omega) HAT.out _).mono ?_
                rintro e w1 ⟨rfl, t, rfl⟩
                go_wp2_with fail
                go_ret3
                rw [HNN.out]
                exact ⟨rfl, kp_bytesWorld _ _ _⟩

end Go.Proofs.YtckmdcmkjmpiaaaGreatDoor

/-
  octet.Num and its reference; octet.Dec: what they compute.
-/
namespace Go.Proofs.YtckmdcmkjmpiaaaGreatDoor
open Go.RowKit

/-- a number's digits of seven bits -/
def numL : Nat → Nat → List UInt8
  | 0, n => [UInt8.ofNat n]
  | f + 1, n => if n ≤ 127 then [UInt8.ofNat n] else UInt8.ofNat (n % 128 + 128) :: numL f (n / 128)

def bytesV (l : List UInt8) : List Value := l.map (fun b => Value.int .u8 (b.toNat : Int))

theorem bytesV_length (l : List UInt8) : (bytesV l).length = l.length := by simp [bytesV]

theorem numL_length (f : Nat) : ∀ n, (numL f n).length ≤ f + 1 := by
  induction f with
  | zero => intro n; simp [numL]
  | succ f ih => intro n; simp only [numL]; split; simp; (have := ih (n / 128); simp; omega)

theorem or_128 {m : Nat} (h : m < 256) : m ||| 128 = m % 128 + 128 := by
  have : ∀ m, m < 256 → m ||| 128 = m % 128 + 128 := by decide +kernel
  exact this m h

theorem byte_or (m : Nat) : bits .or .u8 ((m : Int) % 256) 128 = (((UInt8.ofNat (m % 128 + 128)).toNat : Nat) : Int) := by
  have h := Go.u8_or_nat (m % 256) 128 (by omega) (by decide)
  rw [or_128 (by omega)] at h
  rw [show ((m : Int) % 256) = ((m % 256 : Nat) : Int) from by omega]
  refine h.trans ?_
  simp only [UInt8.toNat_ofNat']
  omega

/-- 'string(b)' of an owned row of bytes -/
theorem own_string {w : World} {base g n cap : Nat} {l : List UInt8} (h : Own w base 5 (.slice (some ⟨g, 0, none⟩) n cap) (bytesV l)) :
    (convert 107 9 (.slice (some ⟨g, 0, none⟩) n cap)).run Tryz.prog w = .ok (.string ⟨l.toArray⟩) w := by
  have hn : n = l.length := by
    obtain ⟨a, c, e, _⟩ := h.form
    simp only [Value.slice.injEq] at e
    rw [e.2.1, bytesV_length]
  subst hn
  refine run_convert_bytes_back w 107 9 5 ⟨g, 0, none⟩ cap l Tryz.underlying107 Tryz.underlying5 Tryz.underlying9 (fun j hj => ?_)
  rw [add_plain', Nat.zero_add]
  exact h.cell (by simp [bytesV, hj])

theorem Tryz.info5 : (Tryz.prog.info? 5).map (fun i => (i.zero, i.size, i.bytes)) = some (some (.int .u8 0), 1, 1) := by kernel_rfl

set_option maxHeartbeats 1000000 in
theorem octet_Num (n : Nat) (w : World) (hn : n < 4294967296) :
    Calls Tryz.prog 63 #[.int .u32 n] w fun e w' => e = .returned (.string ⟨(numL 5 n).toArray⟩) ∧ Kp (fun _ => False) w w' := by
  go_enter Tryz.func63, Tryz.ntmps63
  go_wp2
  go_loopw [0, 3] (fun v0 v3 wr => ∃ (f m : Nat) (L : List UInt8), v0 = .int .u32 m ∧ m ≤ n ∧ f ≤ 5 ∧ m < 128 ^ f ∧ L.length = 5 - f ∧ L ++ numL f m = numL 5 n ∧ Own wr w.heap.size 5 v3 (bytesV L) ∧ Kp (fun _ => False) w wr) (fun v0 _ _ => (intOf v0).toNat)
  case atStart => exact ⟨5, n, [], rfl, Nat.le_refl _, by omega, by omega, rfl, rfl, Own.nil _ _ _, Kp.refl _ _⟩
  case round =>
    obtain ⟨f, m, L, rfl, hmn, hf, hm, hL, hN, hO, hK⟩ := hrel
    have HM := Lib.hid hm; clear hm
    have HL := Lib.hid hL; clear hL
    have HN := Lib.hid hN; clear hN
    have hsz := hK.size
    by_cases h : 127 < m
    · have hd : decide ((127 : Int) < (m : Int)) = true := by simp; omega
      have hf0 : ∃ f', f = f' + 1 := by
        cases f with
        | zero => have := HM.out; simp at this; omega
        | succ f' => exact ⟨f', rfl⟩
      obtain ⟨f', rfl⟩ := hf0
      have hb := byte_or m
      obtain ⟨E, hE⟩ : ∃ E, E = (UInt8.ofNat (m % 128 + 128)).toNat := ⟨_, rfl⟩
      rw [← hE] at hb
      have HE := Lib.hid (show bytesV L ++ [.int .u8 (E : Int)] = bytesV (L ++ [UInt8.ofNat (m % 128 + 128)]) by unfold bytesV; rw [List.map_append, hE]; rfl)
      have HN2 := Lib.hid (show L ++ [UInt8.ofNat (m % 128 + 128)] ++ numL f' (m / 128) = numL 5 n by
        rw [← HN.out, List.append_assoc]; congr 1; rw [numL, if_neg (by omega)]; rfl)
      have HM2 := Lib.hid (show m / 128 < 128 ^ f' by have := HM.out; rw [Nat.pow_succ] at this; omega)
      clear hE
      go_wp2_with (at_builtin; refine wpList_append1 rfl _ _ 107 5 rfl Tryz.underlying107 Tryz.info5 rfl (hO.alloc _) rfl ⟨wr.heap.size, 0, none⟩ (.int .u8 (E : Int)) rfl ?c1 rfl ?c2 ?c3 ?c4 ?_)
      case c1 => exact World.cell?_alloc_at _ _ _ _ rfl
      case c2 => rw [bytesV_length, HL.out]; omega
      case c3 => rw [bytesV_length, HL.out]; unfold maxLen; omega
      case c4 => simp; omega
      intro v' w1 hO1 hg1
      rw [HE.out] at hO1
      have hK1 : Kp (fun _ => False) w w1 := (hK.alloc _).grown hg1 (fun j hj hlt => by have := (hO.lt j hj).1; omega)
      clear hO hg1 hb HE
      go_wp2
      go_roundw
      case rel => exact ⟨f', m / 128, L ++ [UInt8.ofNat (m % 128 + 128)], by go_num, by omega, by omega, HM2.out, by rw [List.length_append, HL.out]; simp; omega, HN2.out, hO1, hK1⟩
      case measure => simp [intOf]; omega
    · have hd : decide ((127 : Int) < (m : Int)) = false := by simp; omega
      have HE := Lib.hid (show bytesV L ++ [.int .u8 (m : Int)] = bytesV (numL 5 n) by
        rw [← HN.out]; unfold bytesV; rw [List.map_append]; congr 1
        cases f with
        | zero => simp only [numL, List.map_cons, List.map_nil, UInt8.toNat_ofNat']; congr 2; omega
        | succ f => simp only [numL]; rw [if_pos (by omega)]; simp only [List.map_cons, List.map_nil, UInt8.toNat_ofNat']; congr 2; omega)
      have hnl : (numL 5 n).length = L.length + 1 := by
        have := congrArg List.length HE.out
        rw [List.length_append, bytesV_length, bytesV_length] at this
        simpa using this.symm
      have HNL := Lib.hid hnl; clear hnl
      go_wp2_with (at_builtin; refine wpList_append1 rfl _ _ 107 5 rfl Tryz.underlying107 Tryz.info5 rfl (hO.alloc _) rfl ⟨wr.heap.size, 0, none⟩ (.int .u8 (m : Int)) rfl ?c1 rfl ?c2 ?c3 ?c4 ?_)
      case c1 => exact World.cell?_alloc_at _ _ _ _ rfl
      case c2 => rw [bytesV_length, HL.out]; omega
      case c3 => rw [bytesV_length, HL.out]; unfold maxLen; omega
      case c4 => simp; omega
      intro v' w1 hO1 hg1
      rw [HE.out] at hO1
      have hK1 : Kp (fun _ => False) w w1 := (hK.alloc _).grown hg1 (fun j hj hlt => by have := (hO.lt j hj).1; omega)
      obtain ⟨g, cap, rfl, _, _⟩ := hO1.leads (by rw [bytesV_length, HNL.out]; omega)
      have hcv := own_string hO1
      clear hO hg1 HE
      go_wp2
      go_ret
      exact ⟨rfl, hK1⟩

end Go.Proofs.YtckmdcmkjmpiaaaGreatDoor

/-
  A number by digits of seven bits is got again.
-/
namespace Go.Proofs.YtckmdcmkjmpiaaaGreatDoor
open Go.RowKit

theorem bt_list (l : List UInt8) (i : Nat) (b : UInt8) (h : l[i]? = some b) : bt ⟨l.toArray⟩ i = b.toNat := by
  have hi : i < l.length := (List.getElem?_eq_some_iff.1 h).1
  have hs : i < (⟨l.toArray⟩ : ByteArray).size := by simpa [ByteArray.size] using hi
  rw [← bt_eq hs]
  have : (⟨l.toArray⟩ : ByteArray)[i]'hs = l[i] := rfl
  rw [this]
  rw [List.getElem?_eq_getElem hi] at h
  simp only [Option.some.injEq] at h
  rw [h]

theorem size_list (l : List UInt8) : (⟨l.toArray⟩ : ByteArray).size = l.length := by simp [ByteArray.size]

theorem ofNat_toNat {m : Nat} (h : m < 256) : (UInt8.ofNat m).toNat = m := by
  simp only [UInt8.toNat_ofNat']; omega

theorem get_num (more : List UInt8) (r : Nat) : ∀ (k m a : Nat) (pre : List UInt8), pre.length = k → k + (r + 1) = 5 → m * 128 ^ k < 4294967296 → (0 < k → 0 < m) →
    getR ⟨(pre ++ numL (r + 1) m ++ more).toArray⟩ 0 (r + 1) k a = (a + m * 128 ^ k, k + (numL (r + 1) m).length, 0) := by
  induction r with
  | zero =>
    intro k m a pre hp hk hm h0
    have hk4 : k = 4 := by omega
    subst hk4
    have hm15 : m ≤ 15 := by omega
    have hL : numL 1 m = [UInt8.ofNat m] := by simp only [numL]; rw [if_pos (by omega)]
    have hb : bt ⟨(pre ++ numL 1 m ++ more).toArray⟩ (0 + 4) = m := by
      rw [bt_list _ _ (UInt8.ofNat m) (by rw [hL, List.append_assoc, List.getElem?_append_right (by omega), hp]; rfl), ofNat_toNat (by omega)]
    rw [getR_step, hb, if_neg (by rw [size_list]; simp [hL]; omega), if_neg (by omega), if_neg (by have := h0 (by omega); omega), if_pos (by omega), hL]
    simp only [List.length_singleton]
    rw [Nat.mod_eq_of_lt (by omega)]
  | succ r ih =>
    intro k m a pre hp hk hm h0
    by_cases hs : m ≤ 127
    · have hL : numL (r + 1 + 1) m = [UInt8.ofNat m] := by simp only [numL]; rw [if_pos hs]
      have hb : bt ⟨(pre ++ numL (r + 1 + 1) m ++ more).toArray⟩ (0 + k) = m := by
        rw [bt_list _ _ (UInt8.ofNat m) (by rw [hL, List.append_assoc, List.getElem?_append_right (by omega), hp, Nat.zero_add, Nat.sub_self]; rfl), ofNat_toNat (by omega)]
      rw [getR_step, hb, if_neg (by rw [size_list]; simp [hL]; omega), if_neg (by omega), if_neg (fun h => by have := h0 h.1; omega), if_pos (by omega), hL]
      simp only [List.length_singleton]
      rw [Nat.mod_eq_of_lt (by omega)]
      simp
    · have hL : numL (r + 1 + 1) m = UInt8.ofNat (m % 128 + 128) :: numL (r + 1) (m / 128) := by rw [numL, if_neg hs]
      have hb : bt ⟨(pre ++ numL (r + 1 + 1) m ++ more).toArray⟩ (0 + k) = m % 128 + 128 := by
        rw [bt_list _ _ (UInt8.ofNat (m % 128 + 128)) (by rw [hL, List.append_assoc, List.getElem?_append_right (by omega), hp, Nat.zero_add, Nat.sub_self]; rfl), ofNat_toNat (by omega)]
      have e : pre ++ numL (r + 1 + 1) m ++ more = (pre ++ [UInt8.ofNat (m % 128 + 128)]) ++ numL (r + 1) (m / 128) ++ more := by rw [hL]; simp
      rw [getR_step, hb, if_neg (by rw [size_list]; simp [hL]; omega), if_neg (by omega), if_neg (by omega), if_neg (by omega), e]
      rw [ih (k + 1) (m / 128) _ _ (by simp [hp]) (by omega) ?_ (fun _ => by omega)]
      · rw [hL, List.length_cons]
        refine Prod.ext ?_ (Prod.ext ?_ rfl)
        · show a + (m % 128 + 128) % 128 * 128 ^ k + m / 128 * 128 ^ (k + 1) = a + m * 128 ^ k
          have e1 : (m % 128 + 128) % 128 = m % 128 := by omega
          have e2 : m * 128 ^ k = (m % 128 + 128 * (m / 128)) * 128 ^ k := by congr 1; omega
          rw [e1, e2, Nat.pow_succ, Nat.add_mul]
          have : m / 128 * (128 ^ k * 128) = 128 * (m / 128) * 128 ^ k := by
            rw [Nat.mul_comm (128 ^ k) 128, ← Nat.mul_assoc, Nat.mul_comm (m / 128) 128]
          omega
        · show k + 1 + _ = k + (_ + 1)
          omega
      · rw [Nat.pow_succ]
        have : m / 128 * (128 ^ k * 128) = (m / 128 * 128) * 128 ^ k := by
          rw [Nat.mul_comm (128 ^ k) 128, ← Nat.mul_assoc]
        rw [this]
        exact Nat.lt_of_le_of_lt (Nat.mul_le_mul_right _ (Nat.div_mul_le_self m 128)) hm

theorem get_puts (n : Nat) (more : List UInt8) (hn : n < 4294967296) : getT ⟨(numL 5 n ++ more).toArray⟩ 0 = (n, (numL 5 n).length, 0) := by
  have h := get_num more 4 0 n 0 [] rfl rfl (by omega) (by omega)
  unfold getT
  rw [if_neg (by omega)]
  unfold getN
  simpa using h

end Go.Proofs.YtckmdcmkjmpiaaaGreatDoor

/-
  Lines and words in plain words.
-/
namespace Go.Proofs.YtckmdcmkjmpiaaaGreatDoor
open Go.RowKit

/-- the first feed from a place on -/
def feedAt (s : ByteArray) (at_ : Nat) : Option Nat := (List.range s.size).find? (fun i => decide (at_ ≤ i) && (bt s i == 10))

theorem feed_some {s : ByteArray} {at_ i : Nat} (hi : i < s.size) (h : at_ ≤ i) (hb : bt s i = 10) (hn : ∀ j, at_ ≤ j → j < i → bt s j ≠ 10) : feedAt s at_ = some i := by
  unfold feedAt
  rw [List.find?_range_eq_some]
  refine ⟨by simp [h, hb], by simpa using hi, fun j hj => ?_⟩
  simp
  by_cases h' : j < at_
  · exact .inl h'
  · exact .inr (hn j (by omega) hj)

theorem feed_none {s : ByteArray} {at_ : Nat} (hn : ∀ j, at_ ≤ j → j < s.size → bt s j ≠ 10) : feedAt s at_ = none := by
  unfold feedAt
  rw [List.find?_range_eq_none]
  intro j hj
  simp
  by_cases h' : j < at_
  · exact .inl h'
  · exact .inr (hn j (by omega) hj)

theorem feed_cases (s : ByteArray) (at_ : Nat) : (∃ i, feedAt s at_ = some i ∧ at_ ≤ i ∧ i < s.size ∧ bt s i = 10 ∧ ∀ j, at_ ≤ j → j < i → bt s j ≠ 10) ∨ feedAt s at_ = none ∧ ∀ j, at_ ≤ j → j < s.size → bt s j ≠ 10 := by
  cases h : feedAt s at_ with
  | some i =>
    left
    unfold feedAt at h
    rw [List.find?_range_eq_some] at h
    obtain ⟨h1, h2, h3⟩ := h
    simp at h1 h2 h3
    exact ⟨i, rfl, h1.1, h2, h1.2, fun j h4 h5 => (h3 j h5).resolve_left (by omega)⟩
  | none =>
    right
    unfold feedAt at h
    rw [List.find?_range_eq_none] at h
    simp at h
    exact ⟨rfl, fun j h1 h2 => (h j h2).resolve_left (by omega)⟩

/-- what Line tells, of any place -/
def lineT (s : ByteArray) (x : Int) : ByteArray × Nat × Nat :=
  if x < 0 ∨ (s.size : Int) < x then (⟨#[]⟩, 0, 1)
  else match feedAt s x.toNat with
    | some i => (s.extract x.toNat i, i + 1, 0)
    | none => (⟨#[]⟩, 0, 3)

theorem bt_feed {s : ByteArray} {i : Nat} : s.data.toList[i]? = some 10 ↔ i < s.size ∧ bt s i = 10 := by
  constructor
  · intro h
    have hi : i < s.data.toList.length := (List.getElem?_eq_some_iff.1 h).1
    have hi' : i < s.size := by simpa using hi
    refine ⟨hi', ?_⟩
    rw [← bt_eq hi']
    have h2 := (List.getElem?_eq_some_iff.1 h).2
    have : s[i] = 10 := h2
    rw [this]; rfl
  · rintro ⟨hi, hb⟩
    rw [List.getElem?_eq_getElem (by simpa using hi)]
    rw [← bt_eq hi] at hb
    have : s[i] = 10 := UInt8.toNat_inj.1 hb
    exact congrArg some this

/-- the library's word for the first feed behind a place -/
theorem feed_index (s : ByteArray) (at_ : Nat) : Lib.indexByte (s.extract at_ s.size).data.toList 10 = match feedAt s at_ with | some i => ((i - at_ : Nat) : Int) | none => -1 := by
  have he : (s.extract at_ s.size).data.toList = s.data.toList.drop at_ := by
    rw [Lib.extract_to_end]
  rw [he]
  have hge := Lib.indexByte_ge (s.data.toList.drop at_) 10
  rcases (show Lib.indexByte (s.data.toList.drop at_) 10 = -1 ∨ ∃ o : Nat, Lib.indexByte (s.data.toList.drop at_) 10 = o by
    by_cases e : Lib.indexByte (s.data.toList.drop at_) 10 = -1
    · exact .inl e
    · exact .inr ⟨(Lib.indexByte (s.data.toList.drop at_) 10).toNat, by omega⟩) with e | ⟨o, e⟩
  · have hn := Lib.indexByte_none e
    rw [e, feed_none]
    intro j h1 h2 hb
    refine hn (j - at_) ?_
    rw [List.getElem?_drop, show at_ + (j - at_) = j by omega]
    exact bt_feed.2 ⟨h2, hb⟩
  · obtain ⟨h1, h2⟩ := Lib.indexByte_some e
    rw [List.getElem?_drop] at h1
    obtain ⟨h3, h4⟩ := bt_feed.1 h1
    rw [e, feed_some h3 (Nat.le_add_right _ _) h4]
    · simp
    · intro j h5 h6 hb
      refine h2 (j - at_) (by omega) ?_
      rw [List.getElem?_drop, show at_ + (j - at_) = j by omega]
      exact bt_feed.2 ⟨by omega, hb⟩

end Go.Proofs.YtckmdcmkjmpiaaaGreatDoor

/-
  Symbols and a comment behind a circuit: what is read. No program in sight.
-/
namespace Go.Proofs.YtckmdcmkjmpiaaaGreatDoor
open Go.RowKit

structure Sym where
  kind : Nat
  idx : Nat
  name : ByteArray

structure Hd where
  bin : Bool
  m : Int
  i : Int
  l : Int
  o : Int
  a : Int
  b : Int
  c : Int

/-- how many there are of a kind -/
def cnt (h : Hd) (k : Nat) : Int := if k = 105 then h.i else if k = 108 then h.l else if k = 111 then h.o else if k = 98 then h.b else if k = 99 then h.c else 0

def isKind (k : Nat) : Prop := k = 105 ∨ k = 108 ∨ k = 111 ∨ k = 98 ∨ k = 99
instance (k : Nat) : Decidable (isKind k) := by unfold isKind; infer_instance

inductive SymR where
  | bad (p e : Nat)
  | ok (x : Sym) (next : Nat)

/-- the symbol of the line at a place -/
def symT (h : Hd) (s : ByteArray) (p : Nat) : SymR :=
  if ¬ isKind (bt s p) then .bad p 2
  else if (natN s (p + 1)).2.2 ≠ 0 then .bad (p + 1) (natN s (p + 1)).2.2
  else if cnt h (bt s p) ≤ (natN s (p + 1)).1 then .bad (p + 1) 5
  else if (natN s (p + 1)).2.1 = s.size then .bad (natN s (p + 1)).2.1 3
  else if bt s (natN s (p + 1)).2.1 ≠ 32 then .bad (natN s (p + 1)).2.1 2
  else if (lineT s ((natN s (p + 1)).2.1 + 1 : Nat)).2.2 ≠ 0 then .bad ((natN s (p + 1)).2.1 + 1) (lineT s ((natN s (p + 1)).2.1 + 1 : Nat)).2.2
  else if (lineT s ((natN s (p + 1)).2.1 + 1 : Nat)).1.size = 0 then .bad ((natN s (p + 1)).2.1 + 1) 2
  else if 64 < (lineT s ((natN s (p + 1)).2.1 + 1 : Nat)).1.size then .bad ((natN s (p + 1)).2.1 + 1) 4
  else .ok ⟨bt s p, (natN s (p + 1)).1, (lineT s ((natN s (p + 1)).2.1 + 1 : Nat)).1⟩ (lineT s ((natN s (p + 1)).2.1 + 1 : Nat)).2.1

def markAt (s : ByteArray) (p : Nat) : Prop := bt s p = 99 ∧ p + 1 < s.size ∧ bt s (p + 1) = 10
instance (s : ByteArray) (p : Nat) : Decidable (markAt s p) := by unfold markAt; infer_instance

def alike (x y : Sym) : Bool := x.kind == y.kind && x.idx == y.idx

structure TailR where
  l : List Sym
  c : ByteArray
  «to» : Nat
  e : Nat

def readR (h : Hd) (s : ByteArray) : Nat → List Sym → Nat → TailR
  | 0, L, _ => ⟨L, ⟨#[]⟩, s.size, 0⟩
  | f + 1, L, p =>
    if s.size ≤ p then ⟨L, ⟨#[]⟩, s.size, 0⟩
    else if markAt s p then ⟨L, s.extract (p + 2) s.size, s.size, 0⟩
    else match symT h s p with
      | .bad p' e => ⟨[], ⟨#[]⟩, p', e⟩
      | .ok x next => if L.any (fun y => alike y x) then ⟨[], ⟨#[]⟩, p, 7⟩ else readR h s f (L ++ [x]) next

/-- what is read from a place on -/
def readT (h : Hd) (s : ByteArray) (x : Int) : TailR := if x < 0 ∨ (s.size : Int) < x then ⟨[], ⟨#[]⟩, 0, 1⟩ else readR h s (s.size + 1) [] x.toNat

theorem natN_end {s : ByteArray} {p : Nat} (hp : p ≤ s.size) (h : (natN s p).2.2 = 0) : p < (natN s p).2.1 ∧ (natN s p).2.1 ≤ s.size ∧ (natN s p).1 < 1000000000 := by
  have h1 := endOf_ge s p
  have h2 := endOf_le hp
  unfold natN at h ⊢
  by_cases c1 : p = s.size
  · rw [if_pos c1] at h; simp at h
  · rw [if_neg c1] at h ⊢
    by_cases c2 : endOf s p = p ∨ bt s p = 48 ∧ p + 1 < endOf s p
    · rw [if_pos c2] at h; simp at h
    · rw [if_neg c2] at h ⊢
      by_cases c3 : 9 < endOf s p - p
      · rw [if_pos c3] at h; simp at h
      · rw [if_neg c3]
        refine ⟨by simp only; omega, h2, ?_⟩
        have hd : ∀ j, j < endOf s p - p → isDig s (p + j) := by
          intro j hj
          have : j < runL s (s.size - p) p := by unfold endOf at hj; omega
          exact runL_dig s _ p j this
        have := numb_lt (endOf s p - p) hd
        have h9 : 10 ^ (endOf s p - p) ≤ 10 ^ 9 := Nat.pow_le_pow_right (by decide) (by omega)
        simp only
        omega

theorem lineT_end {s : ByteArray} {p : Nat} (hp : p ≤ s.size) (h : (lineT s (p : Nat)).2.2 = 0) : p < (lineT s (p : Nat)).2.1 ∧ (lineT s (p : Nat)).2.1 ≤ s.size ∧ (lineT s (p : Nat)).1.size ≤ s.size := by
  unfold lineT at h ⊢
  rw [if_neg (by omega)] at h ⊢
  rw [Int.toNat_natCast] at h ⊢
  rcases feed_cases s p with ⟨i, hf, h1, h2, _⟩ | ⟨hf, _⟩
  · rw [hf]
    simp only
    refine ⟨by omega, by omega, ?_⟩
    rw [ByteArray.size_extract]
    omega
  · rw [hf] at h
    simp at h

theorem symT_ok {h : Hd} {s : ByteArray} {p : Nat} (hp : p < s.size) {x : Sym} {next : Nat} (e : symT h s p = .ok x next) : p < next ∧ next ≤ s.size ∧ x.kind < 256 ∧ x.idx < 1000000000 ∧ x.name.size ≤ 64 := by
  unfold symT at e
  by_cases c1 : ¬ isKind (bt s p)
  · rw [if_pos c1] at e; cases e
  rw [if_neg c1] at e
  by_cases c2 : (natN s (p + 1)).2.2 ≠ 0
  · rw [if_pos c2] at e; cases e
  rw [if_neg c2] at e
  have hn := natN_end (s := s) (p := p + 1) (by omega) (by simpa using c2)
  by_cases c3 : cnt h (bt s p) ≤ (natN s (p + 1)).1
  · rw [if_pos c3] at e; cases e
  rw [if_neg c3] at e
  by_cases c4 : (natN s (p + 1)).2.1 = s.size
  · rw [if_pos c4] at e; cases e
  rw [if_neg c4] at e
  by_cases c5 : bt s (natN s (p + 1)).2.1 ≠ 32
  · rw [if_pos c5] at e; cases e
  rw [if_neg c5] at e
  by_cases c6 : (lineT s ((natN s (p + 1)).2.1 + 1 : Nat)).2.2 ≠ 0
  · rw [if_pos c6] at e; cases e
  rw [if_neg c6] at e
  have hl := lineT_end (s := s) (p := (natN s (p + 1)).2.1 + 1) (by omega) (by simpa using c6)
  by_cases c7 : (lineT s ((natN s (p + 1)).2.1 + 1 : Nat)).1.size = 0
  · rw [if_pos c7] at e; cases e
  rw [if_neg c7] at e
  by_cases c8 : 64 < (lineT s ((natN s (p + 1)).2.1 + 1 : Nat)).1.size
  · rw [if_pos c8] at e; cases e
  rw [if_neg c8] at e
  injection e with e1 e2
  subst e1 e2
  exact ⟨by omega, hl.2.1, bt_lt _ _, hn.2.2, by simp only; omega⟩

section
variable {h : Hd} {s : ByteArray} {p n en er nx f : Nat} {nm : ByteArray}
theorem sym1 (c1 : isKind (bt s p)) (hN : natN s (p + 1) = (n, en, er)) (c2 : er ≠ 0) : symT h s p = .bad (p + 1) er := by
  unfold symT; rw [if_neg (by simpa using c1), hN, if_pos c2]
theorem sym2 (c1 : isKind (bt s p)) (hN : natN s (p + 1) = (n, en, er)) (c2 : er = 0) (c3 : cnt h (bt s p) ≤ n) : symT h s p = .bad (p + 1) 5 := by
  unfold symT; rw [if_neg (by simpa using c1), hN, if_neg (by simpa using c2), if_pos c3]
theorem sym3 (c1 : isKind (bt s p)) (hN : natN s (p + 1) = (n, en, er)) (c2 : er = 0) (c3 : ¬ cnt h (bt s p) ≤ n) (c4 : en = s.size) : symT h s p = .bad en 3 := by
  unfold symT; rw [if_neg (by simpa using c1), hN, if_neg (by simpa using c2), if_neg c3, if_pos c4]
theorem sym4 (c1 : isKind (bt s p)) (hN : natN s (p + 1) = (n, en, er)) (c2 : er = 0) (c3 : ¬ cnt h (bt s p) ≤ n) (c4 : ¬ en = s.size) (c5 : bt s en ≠ 32) : symT h s p = .bad en 2 := by
  unfold symT; rw [if_neg (by simpa using c1), hN, if_neg (by simpa using c2), if_neg c3, if_neg c4, if_pos c5]
theorem sym5 (c1 : isKind (bt s p)) (hN : natN s (p + 1) = (n, en, er)) (c2 : er = 0) (c3 : ¬ cnt h (bt s p) ≤ n) (c4 : ¬ en = s.size) (c5 : bt s en = 32) (hL : lineT s (en + 1 : Nat) = (nm, nx, f)) (c6 : f ≠ 0) : symT h s p = .bad (en + 1) f := by
  unfold symT; rw [if_neg (by simpa using c1), hN, if_neg (by simpa using c2), if_neg c3, if_neg c4, if_neg (by simpa using c5), hL, if_pos c6]
theorem sym6 (c1 : isKind (bt s p)) (hN : natN s (p + 1) = (n, en, er)) (c2 : er = 0) (c3 : ¬ cnt h (bt s p) ≤ n) (c4 : ¬ en = s.size) (c5 : bt s en = 32) (hL : lineT s (en + 1 : Nat) = (nm, nx, f)) (c6 : f = 0) (c7 : nm.size = 0) : symT h s p = .bad (en + 1) 2 := by
  unfold symT; rw [if_neg (by simpa using c1), hN, if_neg (by simpa using c2), if_neg c3, if_neg c4, if_neg (by simpa using c5), hL, if_neg (by simpa using c6), if_pos c7]
theorem sym7 (c1 : isKind (bt s p)) (hN : natN s (p + 1) = (n, en, er)) (c2 : er = 0) (c3 : ¬ cnt h (bt s p) ≤ n) (c4 : ¬ en = s.size) (c5 : bt s en = 32) (hL : lineT s (en + 1 : Nat) = (nm, nx, f)) (c6 : f = 0) (c7 : ¬ nm.size = 0) (c8 : 64 < nm.size) : symT h s p = .bad (en + 1) 4 := by
  unfold symT; rw [if_neg (by simpa using c1), hN, if_neg (by simpa using c2), if_neg c3, if_neg c4, if_neg (by simpa using c5), hL, if_neg (by simpa using c6), if_neg c7, if_pos c8]
theorem sym8 (c1 : isKind (bt s p)) (hN : natN s (p + 1) = (n, en, er)) (c2 : er = 0) (c3 : ¬ cnt h (bt s p) ≤ n) (c4 : ¬ en = s.size) (c5 : bt s en = 32) (hL : lineT s (en + 1 : Nat) = (nm, nx, f)) (c6 : f = 0) (c7 : ¬ nm.size = 0) (c8 : ¬ 64 < nm.size) : symT h s p = .ok ⟨bt s p, n, nm⟩ nx := by
  unfold symT; rw [if_neg (by simpa using c1), hN, if_neg (by simpa using c2), if_neg c3, if_neg c4, if_neg (by simpa using c5), hL, if_neg (by simpa using c6), if_neg c7, if_neg c8]
end

end Go.Proofs.YtckmdcmkjmpiaaaGreatDoor

/-
  Numerals: a number's digits, and the number that digits stand for, there and back. No program in sight.
-/
namespace Go.Proofs.YtckmdcmkjmpiaaaGreatDoor
open Go.RowKit

theorem dd_one {u : Nat} (h : u < 10) : Lib.decDigits u = [UInt8.ofNat (48 + u)] := Lib.decDigits_one h
theorem dd_more {u : Nat} (h : ¬ u < 10) : Lib.decDigits u = Lib.decDigits (u / 10) ++ [UInt8.ofNat (48 + u % 10)] := by
  conv => lhs; rw [Lib.decDigits, dif_neg h]

theorem dd_byte {d : Nat} (h : d < 10) : (UInt8.ofNat (48 + d)).toNat = 48 + d := by
  rw [UInt8.toNat_ofNat']; omega

theorem dd_digit : ∀ (u : Nat), ∀ b ∈ Lib.decDigits u, 48 ≤ b.toNat ∧ b.toNat ≤ 57 := by
  intro u
  induction u using Nat.strongRecOn with
  | _ u ih =>
    intro b hb
    by_cases h : u < 10
    · rw [dd_one h] at hb
      simp only [List.mem_singleton] at hb
      subst hb
      rw [dd_byte h]; omega
    · rw [dd_more h] at hb
      rcases List.mem_append.1 hb with hb | hb
      · exact ih (u / 10) (by omega) b hb
      · simp only [List.mem_singleton] at hb
        subst hb
        rw [dd_byte (by omega)]; omega

theorem dd_pos (u : Nat) : 0 < (Lib.decDigits u).length := by
  by_cases h : u < 10
  · rw [dd_one h]; simp
  · rw [dd_more h]; simp

theorem dd_head : ∀ (u : Nat), 0 < u → ∃ b r, Lib.decDigits u = b :: r ∧ b.toNat ≠ 48 := by
  intro u
  induction u using Nat.strongRecOn with
  | _ u ih =>
    intro h0
    by_cases h : u < 10
    · exact ⟨_, [], dd_one h, by rw [dd_byte h]; omega⟩
    · obtain ⟨b, r, e, hb⟩ := ih (u / 10) (by omega) (by omega)
      exact ⟨b, r ++ [UInt8.ofNat (48 + u % 10)], by rw [dd_more h, e]; rfl, hb⟩

theorem dd_len : ∀ (k u : Nat), u < 10 ^ (k + 1) → (Lib.decDigits u).length ≤ k + 1
  | 0, u, h => by rw [dd_one (by simpa using h)]; simp
  | k + 1, u, h => by
    by_cases hu : u < 10
    · rw [dd_one hu]; simp
    · rw [dd_more hu]
      have := dd_len k (u / 10) (by rw [Nat.pow_succ] at h; omega)
      simp; omega

theorem decFrom_snoc : ∀ (l : List UInt8) (acc : Nat) (b : UInt8), Lib.decFrom acc (l ++ [b]) = match Lib.decFrom acc l with
    | some n => match Lib.digitVal b with
      | some d => some (n * 10 + d)
      | none => none
    | none => none
  | [], acc, b => by
    simp only [List.nil_append, Lib.decFrom]
    cases Lib.digitVal b <;> rfl
  | c :: l, acc, b => by
    rw [List.cons_append]
    simp only [Lib.decFrom]
    cases Lib.digitVal c with
    | none => rfl
    | some d => exact decFrom_snoc l _ b

theorem digitVal_of {d : Nat} (h : d < 10) : Lib.digitVal (UInt8.ofNat (48 + d)) = some d := by
  unfold Lib.digitVal
  rw [dd_byte h, if_pos ⟨by omega, by omega⟩, show 48 + d - 48 = d by omega]

theorem dd_from : ∀ (u : Nat), Lib.decFrom 0 (Lib.decDigits u) = some u := by
  intro u
  induction u using Nat.strongRecOn with
  | _ u ih =>
    by_cases h : u < 10
    · rw [dd_one h]
      simp only [Lib.decFrom, digitVal_of h]
      simp
    · rw [dd_more h, decFrom_snoc, ih (u / 10) (by omega), digitVal_of (by omega)]
      simp only [Option.some.injEq]; omega

/-- a numeral is read as its number -/
theorem natN_dec {s : ByteArray} {p u : Nat} (hu : u < 1000000000) (hp : p + (Lib.decDigits u).length ≤ s.size)
    (hs : (s.data.toList.drop p).take (Lib.decDigits u).length = Lib.decDigits u) (he : p + (Lib.decDigits u).length = s.size ∨ ¬ isDig s (p + (Lib.decDigits u).length)) :
    natN s p = (u, p + (Lib.decDigits u).length, 0) := by
  have hpos := dd_pos u
  have hlen : (Lib.decDigits u).length ≤ 9 := dd_len 8 u (by omega)
  obtain ⟨n, hn⟩ : ∃ n, (Lib.decDigits u).length = n := ⟨_, rfl⟩
  rw [hn] at hpos hlen hp hs he ⊢
  have hbyte : ∀ j b, (Lib.decDigits u)[j]? = some b → bt s (p + j) = b.toNat := by
    intro j b hb
    have hj : j < n := by rw [← hn]; exact (List.getElem?_eq_some_iff.1 hb).1
    rw [← hs, List.getElem?_take, if_pos hj, List.getElem?_drop] at hb
    obtain ⟨c, hc, hc2⟩ := byte_at (s := s) (i := p + j) (by omega)
    rw [hb] at hc
    rw [← hc2, Option.some.inj hc]
  have hd : ∀ j, j < n → isDig s (p + j) := by
    intro j hj
    have hj' : j < (Lib.decDigits u).length := by omega
    have := dd_digit u _ (List.getElem_mem hj')
    have hb := hbyte j _ (List.getElem?_eq_getElem hj')
    unfold isDig
    rw [hb]; exact this
  have hend : endOf s p = p + n := endOf_is (by omega) hp (fun k h1 h2 => by have := hd (k - p) (by omega); rwa [show p + (k - p) = k by omega] at this) he
  unfold natN
  rw [if_neg (by omega), hend, if_neg ?_, if_neg (by omega), show p + n - p = n by omega]
  · have h1 := word_dec (s := s) (i := p) n hp hd
    rw [hs, dd_from] at h1
    rw [← Option.some.inj h1]
  · rintro (h | ⟨h1, h2⟩)
    · omega
    · have hu10 : ¬ u < 10 := by intro h; rw [dd_one h] at hn; simp at hn; omega
      obtain ⟨b, r, e, hb⟩ := dd_head u (by omega)
      have := hbyte 0 b (by rw [e]; rfl)
      rw [Nat.add_zero] at this
      omega

theorem itoa_nat (u : Nat) : Lib.itoa (u : Int) = Lib.decDigits u := by unfold Lib.itoa; rw [if_neg (by omega), Int.toNat_natCast]

end Go.Proofs.YtckmdcmkjmpiaaaGreatDoor

/-
  A number read from a place of a text is the number read from the rest of it. No program in sight.
-/
namespace Go.Proofs.YtckmdcmkjmpiaaaGreatDoor
open Go.RowKit

theorem bt_rest (s : ByteArray) (p i : Nat) : bt (s.extract p s.size) i = bt s (p + i) := by
  by_cases h : i < (s.extract p s.size).size
  · have h2 : p + i < s.size := by rw [ByteArray.size_extract] at h; omega
    obtain ⟨b, hb, hb2⟩ := byte_at h
    obtain ⟨c, hc, hc2⟩ := byte_at h2
    rw [Lib.extract_to_end, List.getElem?_drop, hc] at hb
    rw [← hb2, ← hc2, Option.some.inj hb]
  · have h2 : ¬ p + i < s.size := by rw [ByteArray.size_extract] at h; omega
    unfold bt
    rw [dif_neg h, dif_neg h2]

end Go.Proofs.YtckmdcmkjmpiaaaGreatDoor

/-
  Circuits in the short form: what is written, and what stands where. No program in sight.
-/
namespace Go.Proofs.YtckmdcmkjmpiaaaGreatDoor
open Go.RowKit

/-- the bytes l stand at p -/
def Here (s : ByteArray) (p : Nat) (l : List UInt8) : Prop := ∃ more, s.data.toList.drop p = l ++ more

section
variable {s : ByteArray} {p : Nat}
theorem Here.left {a b : List UInt8} (h : Here s p (a ++ b)) : Here s p a := by
  obtain ⟨m, h⟩ := h
  exact ⟨b ++ m, by rw [h, List.append_assoc]⟩
theorem Here.right {a b : List UInt8} (h : Here s p (a ++ b)) : Here s (p + a.length) b := by
  obtain ⟨m, h⟩ := h
  refine ⟨m, ?_⟩
  rw [← List.drop_drop, h, List.append_assoc, List.drop_left]
theorem Here.size {l : List UInt8} (h : Here s p l) (hl : l ≠ []) : p + l.length ≤ s.size := by
  obtain ⟨m, h⟩ := h
  have h1 : (s.data.toList.drop p).length = l.length + m.length := by rw [h, List.length_append]
  rw [List.length_drop] at h1
  have h2 : 0 < l.length := List.length_pos_iff.2 hl
  have h3 : s.data.toList.length = s.size := by simp
  omega
theorem Here.at {l : List UInt8} (h : Here s p l) {j : Nat} {b : UInt8} (hj : l[j]? = some b) : bt s (p + j) = b.toNat ∧ p + j < s.size := by
  obtain ⟨m, h⟩ := h
  have hj2 : (l ++ m)[j]? = some b := by rw [List.getElem?_append_left (List.getElem?_eq_some_iff.1 hj).1]; exact hj
  rw [← h, List.getElem?_drop] at hj2
  obtain ⟨h1, h2⟩ := List.getElem?_eq_some_iff.1 hj2
  have h3 : s.data.toList.length = s.size := by simp
  rw [h3] at h1
  obtain ⟨c, hc, hc2⟩ := byte_at (s := s) (i := p + j) h1
  rw [hj2] at hc
  exact ⟨by rw [← hc2, Option.some.inj hc], h1⟩
theorem Here.byte {c : UInt8} {r : List UInt8} (h : Here s p (c :: r)) : bt s p = c.toNat ∧ p < s.size := by
  have := h.at (j := 0) (b := c) rfl
  simpa using this

/-- a number's numeral, and a byte that is no digit behind it -/
theorem Here.nat {u : Nat} {c : UInt8} {r : List UInt8} (h : Here s p (Lib.itoa (u : Int) ++ c :: r)) (hc : ¬ (48 ≤ c.toNat ∧ c.toNat ≤ 57)) (hu : u < 1000000000) : natN s p = (u, p + (Lib.itoa (u : Int)).length, 0) := by
  have h0 := h
  rw [itoa_nat] at h ⊢
  have hs := h.size (by simp)
  rw [List.length_append, List.length_cons] at hs
  refine natN_dec hu (by omega) ?_ (.inr ?_)
  · obtain ⟨m, h⟩ := h
    rw [h, List.append_assoc, List.take_left]
  · have := (h.right).byte
    unfold isDig
    rw [this.1]
    exact hc

theorem ba_eq {a b : ByteArray} (h : a.data.toList = b.data.toList) : a = b := by
  obtain ⟨⟨la⟩⟩ := a
  obtain ⟨⟨lb⟩⟩ := b
  exact congrArg (fun l => (⟨⟨l⟩⟩ : ByteArray)) h

theorem getR_rest (hp : p ≤ s.size) : ∀ (r k a v q : Nat), getR (s.extract p s.size) 0 r k a = (v, q, 0) → getR s p r k a = (v, p + q, 0)
  | 0, k, a, v, q, h => by simp [getR] at h
  | r + 1, k, a, v, q, h => by
    have hsz : (s.extract p s.size).size = s.size - p := by rw [ByteArray.size_extract]; omega
    have hb : bt (s.extract p s.size) (0 + k) = bt s (p + k) := by rw [bt_rest, Nat.zero_add]
    unfold getR at h ⊢
    rw [hsz, hb] at h
    by_cases c1 : p + k = s.size
    · rw [if_pos (by omega : 0 + k = s.size - p)] at h; simp at h
    rw [if_neg (by omega : ¬ 0 + k = s.size - p)] at h
    rw [if_neg c1]
    by_cases c2 : k = 4 ∧ 15 < bt s (p + k)
    · rw [if_pos c2] at h; simp at h
    rw [if_neg c2] at h ⊢
    by_cases c3 : 0 < k ∧ bt s (p + k) = 0
    · rw [if_pos c3] at h; simp at h
    rw [if_neg c3] at h ⊢
    by_cases c4 : bt s (p + k) < 128
    · rw [if_pos c4] at h ⊢
      simp only [Prod.mk.injEq, and_true] at h ⊢
      omega
    · rw [if_neg c4] at h ⊢
      exact getR_rest hp r (k + 1) _ v q h

theorem numL_pos (f n : Nat) : numL f n ≠ [] := by
  cases f with
  | zero => simp [numL]
  | succ f => unfold numL; split <;> simp

/-- a number by digits of seven bits -/
theorem Here.num {n : Nat} {r : List UInt8} (h : Here s p (numL 5 n ++ r)) (hn : n < 4294967296) : getN s p = (n, p + (numL 5 n).length, 0) := by
  have hs := h.left.size (numL_pos 5 n)
  obtain ⟨m, h⟩ := h
  have he : s.extract p s.size = ⟨(numL 5 n ++ (r ++ m)).toArray⟩ := ba_eq (by rw [Lib.extract_to_end, h, List.append_assoc])
  have hg := get_puts n (r ++ m) hn
  unfold getT at hg
  rw [if_neg (by omega)] at hg
  unfold getN at hg ⊢
  exact getR_rest (by omega) 5 0 0 _ _ (by rw [he]; exact hg)

end

def lineB (a b : Int) : List UInt8 := Lib.itoa a ++ (if b = 0 then [10] else 32 :: (Lib.itoa b ++ [10]))
def oneB (a : Int) : List UInt8 := Lib.itoa a ++ [10]
def gateB (g : Int × Int × Int) : List UInt8 := numL 5 (g.1 - g.2.1).toNat ++ numL 5 (g.2.1 - g.2.2).toNat
def latB (x : Int × Int × Int) : List UInt8 := lineB x.2.1 x.2.2
def binB (C : Circ) : List UInt8 := C.lats.flatMap latB ++ C.outs.flatMap oneB ++ C.bads.flatMap oneB ++ C.cons.flatMap oneB ++ C.gates.flatMap gateB

theorem flat_take {α : Type} (f : α → List UInt8) {L : List α} {k : Nat} {x : α} (h : L[k]? = some x) : (L.take (k + 1)).flatMap f = (L.take k).flatMap f ++ f x := by
  have hk : k < L.length := (List.getElem?_eq_some_iff.1 h).1
  have hx : L[k] = x := (List.getElem?_eq_some_iff.1 h).2
  rw [List.take_succ_eq_append_getElem hk, List.flatMap_append, hx]
  simp
theorem g3_some {L : List (Int × Int × Int)} {k : Nat} (h : k < L.length) : L[k]? = some (g3 L k) := by unfold g3; rw [List.getElem?_eq_getElem h]; rfl
theorem gi_some {L : List Int} {k : Nat} (h : k < L.length) : L[k]? = some (gi L k) := by unfold gi; rw [List.getElem?_eq_getElem h]; rfl

/-- numbered as the short form has it -/
structure NormC (C : Circ) : Prop where
  good : GoodC C
  max : C.max = (C.owned.length : Int)
  own : ∀ i, i < C.owned.length → gi C.owned i = 2 * (i : Int) + 2
  gate : ∀ g, g ∈ C.gates → g.2.2 ≤ g.2.1 ∧ g.2.1 < g.1

section
variable {C : Circ} (h : NormC C)
include h
theorem NormC.i {k : Nat} (hk : k < C.ins.length) : gi C.ins k = 2 * (k : Int) + 2 := by
  have h1 := h.own k (by unfold Circ.owned; simp only [List.length_append]; omega)
  unfold Circ.owned gi at h1
  rw [List.append_assoc, List.getElem?_append_left hk] at h1
  exact h1
theorem NormC.l {k : Nat} (hk : k < C.lats.length) : (g3 C.lats k).1 = 2 * ((C.ins.length + k : Nat) : Int) + 2 := by
  have h1 := h.own (C.ins.length + k) (by unfold Circ.owned; simp only [List.length_append, List.length_map]; omega)
  unfold Circ.owned gi at h1
  rw [List.append_assoc, List.getElem?_append_right (by omega), Nat.add_sub_cancel_left, List.getElem?_append_left (by simpa using hk), List.getElem?_map, g3_some hk] at h1
  exact h1
theorem NormC.g {k : Nat} (hk : k < C.gates.length) : (g3 C.gates k).1 = 2 * ((C.ins.length + C.lats.length + k : Nat) : Int) + 2 := by
  have h1 := h.own (C.ins.length + C.lats.length + k) (by unfold Circ.owned; simp only [List.length_append, List.length_map]; omega)
  unfold Circ.owned gi at h1
  rw [List.getElem?_append_right (by simp)] at h1
  simp only [List.length_append, List.length_map, Nat.add_sub_cancel_left, List.getElem?_map, g3_some hk] at h1
  exact h1
end

end Go.Proofs.YtckmdcmkjmpiaaaGreatDoor

/-
  A region that draws its order, whose calls may make and turn memory of their own, and leave all old blocks alone:
  one walk, in the order of the text, in every world that keeps the old blocks.
-/
namespace Go.Proofs.YtckmdcmkjmpiaaaGreatDoor
open Go

/-- the worlds that keep all blocks of w, as the values of a function -/
theorem still_class (w : World) : ∃ F : World → World, (∀ x, Kp (fun _ => False) w (F x)) ∧ (∀ w', Kp (fun _ => False) w w' → ∃ y, w' = F y) := by
  classical
  refine ⟨fun u => if Kp (fun _ => False) w u then u else w, fun x => ?_, fun w' h => ⟨w', by simp [h]⟩⟩
  by_cases h : Kp (fun _ => False) w x
  · simp [h]
  · simp [h, Kp.refl]

theorem Calls.still_of {P : Program} {f : FuncId} {args : Array Value} {w : World} {F : World → World} (h1 : ∀ x, Kp (fun _ => False) w (F x)) (h2 : ∀ w', Kp (fun _ => False) w w' → ∃ y, w' = F y) {x : World} {v : Value}
    (h : Calls P f args (F x) fun e w' => e = .returned v ∧ Kp (fun _ => False) (F x) w') : Calls P f args (F x) fun e w'' => e = .returned v ∧ ∃ y, w'' = F y :=
  h.mono fun _ _ ⟨he, hk⟩ => ⟨he, h2 _ ((h1 x).trans hk (fun _ _ h => h))⟩

theorem wp_region_kept {P : Program} {id : Nat} {Q : Exit → Act → World → Prop} {a : Act} {w : World} {l : List Oper} {F : World → World} (hm : P.follows .mixedOrders = true) (hB : Region.lexB .any l.toArray = true)
    (h2 : ∀ w', Kp (fun _ => False) w w' → ∃ y, w' = F y)
    (h : wpQuiet P l.toArray (fun w' => ∃ x, w' = F x) (fun a' => ∀ w', (∃ x, w' = F x) → Q .normal a' w') l a) : (Code.region id l.toArray true).wp P Q a w :=
  wp_region_quiet (C := fun w' => ∃ x, w' = F x) hm hB (h2 _ (Kp.refl _ w).drew) (by simpa using h)


end Go.Proofs.YtckmdcmkjmpiaaaGreatDoor
