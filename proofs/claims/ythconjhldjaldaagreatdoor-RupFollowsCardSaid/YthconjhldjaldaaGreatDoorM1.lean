/-
  Plain vocabulary for walks: what a block holds, and which blocks a call may have turned. No program in sight.
-/
import Derived.WalkKit
import Derived.WalkSpells
import Derived.WalkLawsBesides
import Derived.Lib.Hide
import Derived.Laws.AppendOwnNone
import Ieee.Arith
import Derived.Test.YthconjhldjaldaaGreatDoorRows
import Derived.BigRegion
import Derived.Deep.QuietTactic
import Derived.BigQuiet
import Derived.Laws.Externs
import Derived.Maps.AppendAt
import Derived.Deep.DeepCutAuto
import Derived.Deep.CutBlock
import Derived.Deep.RegionHeld3
import Derived.RangeFuncCalls
import Derived.Deep.AppendLies
import Derived.Maps.Views
import Derived.Maps.OwnSet
import Derived.Deep.Quiet
import Derived.Orders
import Derived.RegionTactic
import Derived.ArgAppend
import Derived.StillTail
import Derived.Laws.BitsAllLaws
set_option linter.unusedVariables false
set_option linter.unusedSimpArgs false
namespace Go.Proofs.YthconjhldjaldaaGreatDoor
open Go.RowKit

/-- block b of w is a plain row of cells -/
def Blk (w : World) (b : Nat) (c : Array Value) (t : TypeId) : Prop := w.heap[b]? = some (.cells c t (0, 0))

/-- w' is w with new blocks, and with writes to blocks of S alone -/
structure Kp (S : Nat → Prop) (w w' : World) : Prop where
  os : w'.os = w.os
  tape : w'.tape = w.tape
  output : w'.output = w.output
  size : w.heap.size ≤ w'.heap.size
  block : ∀ k, k < w.heap.size → ¬ S k → w'.heap[k]? = w.heap[k]?

theorem Kp.refl (S : Nat → Prop) (w : World) : Kp S w w := ⟨rfl, rfl, rfl, Nat.le_refl _, fun _ _ _ => rfl⟩

theorem Kp.trans {S T : Nat → Prop} {a b c : World} (h : Kp S a b) (k : Kp T b c) (hT : ∀ i, i < a.heap.size → T i → S i) : Kp S a c :=
  ⟨k.os.trans h.os, k.tape.trans h.tape, k.output.trans h.output, Nat.le_trans h.size k.size,
    fun i hi hS => (k.block i (Nat.lt_of_lt_of_le hi h.size) (fun ht => hS (hT i hi ht))).trans (h.block i hi hS)⟩

theorem Kp.mono {S T : Nat → Prop} {w w' : World} (h : Kp S w w') (hs : ∀ i, i < w.heap.size → S i → T i) : Kp T w w' :=
  ⟨h.os, h.tape, h.output, h.size, fun i hi ht => h.block i hi (fun s => ht (hs i hi s))⟩

theorem Kp.drew {S : Nat → Prop} {a w : World} (h : Kp S a w) : Kp S a w.drew := ⟨h.os, h.tape, h.output, h.size, h.block⟩

theorem Kp.drewN {S : Nat → Prop} {a w : World} (h : Kp S a w) (n : Nat) : Kp S a (w.drewN n) := ⟨h.os, h.tape, h.output, h.size, h.block⟩

theorem Kp.alloc {S : Nat → Prop} {a w : World} (h : Kp S a w) (o : Obj) : Kp S a (w.alloc o) :=
  ⟨h.os, h.tape, h.output, Nat.le_trans h.size (by simp), fun k hk hS => (Below.heap_alloc w o k (Nat.lt_of_lt_of_le hk h.size)).trans (h.block k hk hS)⟩

theorem Kp.setCell {S : Nat → Prop} {a w : World} (h : Kp S a w) {p : Addr} (hp : p.block < a.heap.size → S p.block) (u : Value) : Kp S a (w.setCell p u) :=
  ⟨h.os, h.tape, h.output, by rw [show (w.setCell p u).heap.size = w.heap.size from by simp [World.setCell]]; exact h.size,
    fun k hk hS => (Below.heap_setCell w p u k (fun e => hS (by subst e; exact hp hk))).trans (h.block k hk hS)⟩

theorem Kp.set (w : World) (p : Addr) (u : Value) : Kp (· = p.block) w (w.setCell p u) := (Kp.refl (· = p.block) w).setCell (p := p) (fun _ => rfl) u

theorem Kp.grown {S : Nat → Prop} {a w w' : World} {row : Option Nat} (h : Kp S a w) (hg : w.grownBy w' row) (hr : ∀ k, row = some k → k < a.heap.size → S k) : Kp S a w' :=
  ⟨hg.os.trans h.os, hg.tape.trans h.tape, hg.output.trans h.output, Nat.le_trans h.size hg.size,
    fun k hk hS => (hg.block k (Nat.lt_of_lt_of_le hk h.size) (fun e => hS (hr k e.symm hk))).trans (h.block k hk hS)⟩

theorem Kp.below {S : Nat → Prop} {w w' : World} (h : Kp S w w') {B : Nat} (hB : B ≤ w.heap.size) (hS : ∀ k, k < B → ¬ S k) : Below B w w' :=
  ⟨h.os, h.tape, h.output, h.size, fun k hk => h.block k (by omega) (hS k hk)⟩

theorem Kp.of_below {w w' : World} (h : Below w.heap.size w w') (S : Nat → Prop) : Kp S w w' :=
  ⟨h.os, h.tape, h.output, h.size, fun k hk _ => h.block k hk⟩

section
variable {w w' : World} {b : Nat} {c : Array Value} {t : TypeId}

theorem Blk.lt (h : Blk w b c t) : b < w.heap.size := (Array.getElem?_eq_some_iff.1 h).1

theorem Blk.kp {S : Nat → Prop} (h : Blk w b c t) (k : Kp S w w') (hS : ¬ S b) : Blk w' b c t := (k.block b h.lt hS).trans h

theorem Blk.drew (h : Blk w b c t) : Blk w.drew b c t := h
theorem Blk.drewN (h : Blk w b c t) (n : Nat) : Blk (w.drewN n) b c t := h

theorem Blk.alloc (h : Blk w b c t) (o : Obj) : Blk (w.alloc o) b c t := (Below.heap_alloc w o b h.lt).trans h

theorem Blk.new (w : World) (c : Array Value) (t : TypeId) : Blk (w.alloc (.cells c t)) w.heap.size c t := heap_alloc_new w _

theorem Blk.cell (h : Blk w b c t) {i : Nat} {v : Value} (hi : c[i]? = some v) : w.cell? ⟨b, i, none⟩ = some v :=
  (cell_of_row w b i c t (0, 0) h).trans hi

theorem Blk.free (h : Blk w b c t) (i : Nat) : w.frozen? ⟨b, i, none⟩ = false := by
  unfold World.frozen?
  show (match w.heap[b]? with | some (.cells _ _ (lo, hi)) => decide (lo ≤ i) && decide (i < hi) | _ => false) = false
  rw [show w.heap[b]? = some (.cells c t (0, 0)) from h]
  simp

theorem Blk.set_same (h : Blk w b c t) (i : Nat) (v : Value) : Blk (w.setCell ⟨b, i, none⟩ v) b (c.setIfInBounds i v) t := by
  have hlt := h.lt
  unfold Blk at h ⊢
  simp only [World.setCell, Array.getElem?_modify, if_true, h, Option.map_some]
  rfl

theorem Blk.set_other (h : Blk w b c t) {p : Addr} (hp : b ≠ p.block) (v : Value) : Blk (w.setCell p v) b c t :=
  (Below.heap_setCell w p v b hp).trans h
end

/-- the int at a place (closed to simp) -/
def gi (l : List Int) (k : Nat) : Int := l[k]?.getD 0

/-- a row of ints -/
def ints (l : List Int) : Array Value := (l.map (Value.int .i64)).toArray

theorem ints_get (l : List Int) (i : Nat) : (ints l)[i]? = (l[i]?).map (Value.int .i64) := by simp [ints]
theorem ints_at {l : List Int} {i : Nat} (h : i < l.length) : (ints l)[i]? = some (.int .i64 (gi l i)) := by
  rw [ints_get, List.getElem?_eq_getElem h]; simp [gi, List.getElem?_eq_getElem h]
theorem ints_set (l : List Int) (i : Nat) (x : Int) : (ints l).setIfInBounds i (.int .i64 x) = ints (l.set i x) := by
  simp [ints, List.map_set]
/-- place j of the row at a holds u -/
def Elem (w : World) (a : Option Addr) (j : Nat) (u : Value) : Prop := ∃ b off, a = some ⟨b, off, none⟩ ∧ w.cell? ⟨b, off + j, none⟩ = some u

/-- the row at a reads cs -/
def RowAt (w : World) (a : Option Addr) (cs : List Value) : Prop := ∀ j u, cs[j]? = some u → Elem w a j u

/-- the row at a reads the ints l -/
def IntsAt (w : World) (a : Option Addr) (l : List Int) : Prop := RowAt w a (l.map (Value.int .i64))

theorem IntsAt.get {w : World} {a : Option Addr} {l : List Int} (h : IntsAt w a l) {j : Nat} (hj : j < l.length) : Elem w a j (.int .i64 (gi l j)) :=
  h j _ (by simp [gi, List.getElem?_eq_getElem hj])

theorem RowAt.nil (w : World) (a : Option Addr) : RowAt w a [] := fun j u h => by simp at h

theorem Elem.kp {S : Nat → Prop} {w w' : World} {a : Option Addr} {j : Nat} {u : Value} (h : Elem w a j u) (k : Kp S w w') (hS : ∀ p, a = some p → ¬ S p.block) : Elem w' a j u := by
  obtain ⟨b, off, rfl, hc⟩ := h
  have hlt : b < w.heap.size := World.block_lt_of_cell? w _ hc
  exact ⟨b, off, rfl, (World.cell?_of_block (w := w) (w' := w') (a := ⟨b, off + j, none⟩) (k.block b hlt (hS _ rfl))).trans hc⟩

theorem RowAt.kp {S : Nat → Prop} {w w' : World} {a : Option Addr} {cs : List Value} (h : RowAt w a cs) (k : Kp S w w') (hS : ∀ p, a = some p → ¬ S p.block) : RowAt w' a cs :=
  fun j u hu => (h j u hu).kp k hS

theorem RowAt.drewN {w : World} {a : Option Addr} {cs : List Value} (h : RowAt w a cs) (n : Nat) : RowAt (w.drewN n) a cs := h

theorem Blk.rowAt {w : World} {b : Nat} {c : Array Value} {t : TypeId} (h : Blk w b c t) {off n : Nat} {cs : List Value} (hc : (c.toList.drop off).take n = cs) : RowAt w (some ⟨b, off, none⟩) cs := by
  intro j u hu
  refine ⟨b, off, rfl, h.cell ?_⟩
  subst hc
  rw [List.getElem?_take] at hu
  split at hu
  · rw [List.getElem?_drop] at hu; simpa using hu
  · cases hu

theorem Blk.intsAt {w : World} {b : Nat} {l : List Int} {t : TypeId} (h : Blk w b (ints l) t) : IntsAt w (some ⟨b, 0, none⟩) l :=
  h.rowAt (n := l.length) (by simp [ints]; exact List.take_of_length_le (by simp))

/-- v owns the row cs: a slice of one-cell elements of type e that begins a block from base on -/
def Own (w : World) (base : Nat) (e : TypeId) (v : Value) (cs : List Value) : Prop := w.ownsRow base e 1 v cs.length cs

section
variable {w w' : World} {base : Nat} {e : TypeId} {v : Value} {cs : List Value}

theorem Own.nil (w : World) (base : Nat) (e : TypeId) : Own w base e (.slice none 0 0) [] := World.ownsRow_nil _ _ _ _

theorem Own.form (h : Own w base e v cs) : ∃ a cap, v = .slice a cs.length cap ∧ cs.length ≤ cap ∧ cap ≤ maxLen ∧ (∀ p, a = some p → ∃ g, p = ⟨g, 0, none⟩ ∧ base ≤ g ∧ g < w.heap.size) ∧ RowAt w a cs := by
  rcases h.2 with ⟨rfl, hn⟩ | ⟨g, cap, cur, rfl, hb, hg, hnc, hcm, hcs, htake⟩
  · refine ⟨none, 0, by rw [hn], by omega, by simp [maxLen], fun p hp => by simp at hp, ?_⟩
    have : cs = [] := List.eq_nil_of_length_eq_zero hn
    subst this
    exact RowAt.nil _ _
  · refine ⟨_, cap, rfl, hnc, hcm, fun p hp => ⟨g, by simpa using hp.symm, hb, (Array.getElem?_eq_some_iff.1 hg).1⟩, ?_⟩
    have hB : Blk w g cur e := hg
    exact hB.rowAt (off := 0) (n := cs.length * 1) (by simpa using htake)

theorem Own.kp {S : Nat → Prop} (h : Own w base e v cs) (k : Kp S w w') (hS : ∀ j, v.ownBlock = some j → ¬ S j) : Own w' base e v cs := by
  refine ⟨h.1, ?_⟩
  rcases h.2 with hn | ⟨g, cap, cur, rfl, hb, hgg, rest⟩
  · exact .inl hn
  · refine .inr ⟨g, cap, cur, rfl, hb, ?_, rest⟩
    rw [k.block g (Array.getElem?_eq_some_iff.1 hgg).1 (hS g rfl)]
    exact hgg

theorem Own.mono {b' : Nat} (h : Own w base e v cs) (hb : b' ≤ base) : Own w b' e v cs := by
  refine ⟨h.1, ?_⟩
  rcases h.2 with hn | ⟨g, cap, cur, rfl, hg, hgg, rest⟩
  · exact .inl hn
  · exact .inr ⟨g, cap, cur, rfl, by omega, hgg, rest⟩

theorem Own.lt (h : Own w base e v cs) : ∀ k, v.ownBlock = some k → base ≤ k ∧ k < w.heap.size := World.ownsRow.lt h

/-- a slice that owns something leads somewhere -/
theorem Own.leads (h : Own w base e v cs) (hc : 0 < cs.length) : ∃ g cap, v = .slice (some ⟨g, 0, none⟩) cs.length cap ∧ base ≤ g ∧ g < w.heap.size := by
  rcases h.2 with ⟨rfl, hn⟩ | ⟨g, cap, cur, rfl, hb, hg, _⟩
  · omega
  · exact ⟨g, cap, rfl, hb, (Array.getElem?_eq_some_iff.1 hg).1⟩

theorem Own.cell {g n cap : Nat} (h : Own w base e (.slice (some ⟨g, 0, none⟩) n cap) cs) {j : Nat} {u : Value} (hj : cs[j]? = some u) : w.cell? ⟨g, j, none⟩ = some u := by
  have hl : j < cs.length := by
    rcases Nat.lt_or_ge j cs.length with h | h
    · exact h
    · rw [List.getElem?_eq_none h] at hj; cases hj
  have hn : n = cs.length := by
    obtain ⟨a, c, e, _⟩ := h.form
    simp only [Value.slice.injEq] at e
    exact e.2.1
  subst hn
  rw [World.ownsRow.cellAt (show w.ownsRow base e 1 _ _ _ from h) j (by omega), hj]

theorem Own.free {g n cap : Nat} (h : Own w base e (.slice (some ⟨g, 0, none⟩) n cap) cs) (j : Nat) : w.frozen? ⟨g, j, none⟩ = false := by
  have hn : n = cs.length := by
    obtain ⟨a, c, e, _⟩ := h.form
    simp only [Value.slice.injEq] at e
    exact e.2.1
  subst hn
  exact World.ownsRow.frozenAt (show w.ownsRow base e 1 _ _ _ from h) j

theorem Own.set {g n cap : Nat} (h : Own w base e (.slice (some ⟨g, 0, none⟩) n cap) cs) (j : Nat) (u : Value) :
    Own (w.setCell ⟨g, j, none⟩ u) base e (.slice (some ⟨g, 0, none⟩) n cap) (cs.set j u) := by
  have hn : n = cs.length := by
    obtain ⟨a, c, e, _⟩ := h.form
    simp only [Value.slice.injEq] at e
    exact e.2.1
  subst hn
  have := (World.ownsRow.stored (show w.ownsRow base e 1 _ _ _ from h) j u).1
  unfold Own
  rw [List.length_set]
  exact this

theorem Own.set_other (h : Own w base e v cs) {p : Addr} (hp : ∀ j, v.ownBlock = some j → j ≠ p.block) (u : Value) : Own (w.setCell p u) base e v cs :=
  h.kp (Kp.set w p u) (fun j hj e => hp j hj e)

theorem Own.drew (h : Own w base e v cs) : Own w.drew base e v cs := h
theorem Own.drewN (h : Own w base e v cs) (n : Nat) : Own (w.drewN n) base e v cs := h
theorem Own.alloc (h : Own w base e v cs) (o : Obj) : Own (w.alloc o) base e v cs := World.ownsRow.alloc h o
end

/-- 'append(v, u)': v owns cs; the new element lies at ad -/
theorem wpList_append1 {P : Program} {w : World} {ops : Array Oper} {rest : List Oper} {o : Oper} {a : Act} {Q : Exit → Act → World → Prop} (hgd : o.guard = none) (s x : Operand) (t e : TypeId)
    (ho : o.op = .call { callee := .builtin .append, args := #[s, x], argTypes := #[t, t] }) {z : Value} {bytes : Nat}
    (ht : P.underlying t = some (.slice e)) (hI : (P.info? e).map (fun i => (i.zero, i.size, i.bytes)) = some (some z, 1, bytes)) (hzs : z.cells.size = 1)
    {base : Nat} {v : Value} {cs : List Value} (hown : Own w base e v cs) (hs : a.eval s = v) (ad : Addr) (u : Value) (hx : a.eval x = .slice (some ad) 1 1) (hnew : w.cell? ad = some u) (h1 : u.oneCell' = true)
    (hbytes : (cs.length + 1) * bytes ≤ 140737488355328) (hm : cs.length + 1 ≤ maxLen) (hbase : base ≤ w.heap.size)
    (h : ∀ v' w', Own w' base e v' (cs ++ [u]) → w.grownBy w' v.ownBlock → wpList P ops Q rest (a.put o.dst v') w') : wpList P ops Q (o :: rest) a w := by
  obtain ⟨i0, hi, hz0, hz1, hz2⟩ := info_parts hI
  refine wpList_append_own _ hgd s x t ho base e i0 z 1 bytes ht hi hz0 hz1 hz2 hzs (by decide) v cs.length cs hs hown ad 1 1 [u] hx rfl ?_ ?_ hm hbytes hbase ?_
  · intro j u' hj
    match j, hj with
    | 0, hj =>
      have : ad.add 0 = ad := by unfold Addr.add; split <;> simp_all
      simp at hj
      rw [this, ← hj]; exact hnew
  · intro u' hu; simp at hu; subst hu; exact h1
  · intro v' w' h2 h3 _
    exact h v' w' (by unfold Own; rw [List.length_append]; exact h2) h3

theorem add_plain' (b off n : Nat) : (⟨b, off, none⟩ : Addr).add n = ⟨b, off + n, none⟩ := by
  unfold Addr.add
  split <;> simp_all

/-- 'append(v, xs...)': v owns cs; the source reads news -/
theorem wpList_appendAll {P : Program} {w : World} {ops : Array Oper} {rest : List Oper} {o : Oper} {a : Act} {Q : Exit → Act → World → Prop} (hgd : o.guard = none) (s x : Operand) (t e : TypeId)
    (ho : o.op = .call { callee := .builtin .append, args := #[s, x], argTypes := #[t, t] }) {z : Value} {bytes : Nat}
    (ht : P.underlying t = some (.slice e)) (hI : (P.info? e).map (fun i => (i.zero, i.size, i.bytes)) = some (some z, 1, bytes)) (hzs : z.cells.size = 1)
    {base : Nat} {v : Value} {cs : List Value} (hown : Own w base e v cs) (hs : a.eval s = v) (src : Option Addr) (m c : Nat) (news : List Value) (hx : a.eval x = .slice src m c) (hm : news.length = m) (hrow : RowAt w src news) (hnil : src = none → c = 0) (h1 : ∀ u ∈ news, u.oneCell' = true)
    (hbytes : (cs.length + m) * bytes ≤ 140737488355328) (hml : cs.length + m ≤ maxLen) (hbase : base ≤ w.heap.size)
    (h : ∀ v' w', Own w' base e v' (cs ++ news) → w.grownBy w' v.ownBlock → wpList P ops Q rest (a.put o.dst v') w') : wpList P ops Q (o :: rest) a w := by
  obtain ⟨i0, hi, hz0, hz1, hz2⟩ := info_parts hI
  cases src with
  | none =>
    have hn : news = [] := by
      cases news with
      | nil => rfl
      | cons u r => obtain ⟨_, _, h, _⟩ := hrow 0 u rfl; cases h
    subst hn
    have hm0 : m = 0 := by simpa using hm.symm
    subst hm0
    rw [hnil rfl] at hx
    refine wpList_append_own_none hgd s x t ho base e i0 1 ht hi v cs.length cs hs hown hx ?_
    exact h v w (by rw [List.append_nil]; exact hown) ⟨rfl, rfl, rfl, Nat.le_refl _, fun _ _ _ => rfl⟩
  | some ad =>
    refine wpList_append_own _ hgd s x t ho base e i0 z 1 bytes ht hi hz0 hz1 hz2 hzs (by decide) v cs.length cs hs hown ad m c news hx (by omega) ?_ h1 hml hbytes hbase ?_
    · intro j u hj
      obtain ⟨b, off, hab, hc⟩ := hrow j u hj
      simp only [Option.some.injEq] at hab
      subst hab
      rw [add_plain']
      exact hc
    · intro v' w' h2 h3 _
      exact h v' w' (by unfold Own; rw [List.length_append, hm]; exact h2) h3

/-- a slice of ints that came in -/
def IntsArg (w : World) (v : Value) : Prop :=
  ∃ (a : Option Addr) (len cap : Nat) (l : List Int), v = .slice a len cap ∧ l.length = len ∧ len ≤ cap ∧ cap ≤ maxLen ∧ (a = none → cap = 0) ∧ IntsAt w a l ∧ ∀ x ∈ l, -9223372036854775808 ≤ x ∧ x ≤ 9223372036854775807

theorem RowAt.take {w : World} {a : Option Addr} {cs : List Value} (h : RowAt w a cs) (m : Nat) : RowAt w a (cs.take m) := by
  intro j u hu
  rw [List.getElem?_take] at hu
  split at hu
  · exact h j u hu
  · cases hu

end Go.Proofs.YthconjhldjaldaaGreatDoor

/-
  Scores' order, and a tree in a list in that order. No program in sight.
-/
namespace Go.Proofs.YthconjhldjaldaaGreatDoor
open Ieee

/-- an order as a heap needs it -/
structure Ord (A : Nat → Nat → Prop) : Prop where
  asym : ∀ {a b}, A a b → ¬ A b a
  neg : ∀ {a b c}, ¬ A b a → ¬ A c b → ¬ A c a
  irr : ∀ {a}, ¬ A a a
  tot : ∀ {a b}, a ≠ b → ¬ A a b → A b a

/-- where things stand, and which stand there -/
structure Inv (n m : Nat) (T : Nat → Nat) (Q : Nat → Int) : Prop where
  here : ∀ i, i < m → T i < n ∧ Q (T i) = i
  there : ∀ x, x < n → Q x = -1 ∨ ∃ i, i < m ∧ Q x = i ∧ T i = x

def up1 {α : Type} (f : Nat → α) (i : Nat) (x : α) : Nat → α := fun j => if j = i then x else f j

theorem up1_at {α : Type} (f : Nat → α) (i : Nat) (x : α) : up1 f i x i = x := by simp [up1]
theorem up1_off {α : Type} (f : Nat → α) {i j : Nat} (x : α) (h : j ≠ i) : up1 f i x j = f j := by simp [up1, h]

theorem Inv.inj {n m : Nat} {T : Nat → Nat} {Q : Nat → Int} (h : Inv n m T Q) {i k : Nat} (hi : i < m) (hk : k < m) (e : T i = T k) : i = k := by
  have h1 := (h.here i hi).2
  have h2 := (h.here k hk).2
  rw [e] at h1
  omega

/-- one more at the end -/
theorem Inv.push {n m : Nat} {T : Nat → Nat} {Q : Nat → Int} (h : Inv n m T Q) {x : Nat} (hx : x < n) (hq : Q x < 0) : Inv n (m + 1) (up1 T m x) (up1 Q x (m : Int)) := by
  have hno : ∀ i, i < m → T i ≠ x := fun i hi e => by have := (h.here i hi).2; rw [e] at this; omega
  refine ⟨fun i hi => ?_, fun y hy => ?_⟩
  · by_cases e : i = m
    · subst e; rw [up1_at, up1_at]; exact ⟨hx, rfl⟩
    · rw [up1_off _ _ e, up1_off _ _ (hno i (by omega))]; exact h.here i (by omega)
  · by_cases e : y = x
    · subst e; rw [up1_at]; exact .inr ⟨m, by omega, rfl, up1_at ..⟩
    · rw [up1_off _ _ e]
      rcases h.there y hy with h1 | ⟨j, hj, h1, h2⟩
      · exact .inl h1
      · exact .inr ⟨j, by omega, h1, by rw [up1_off _ _ (by omega)]; exact h2⟩

/-- the last one is let go -/
theorem Inv.drop {n m : Nat} {T : Nat → Nat} {Q : Nat → Int} (h : Inv n (m + 1) T Q) : Inv n m T (up1 Q (T m) (-1)) := by
  refine ⟨fun i hi => ?_, fun y hy => ?_⟩
  · have hne : T i ≠ T m := fun e => by have := h.inj (show i < m + 1 by omega) (show m < m + 1 by omega) e; omega
    rw [up1_off _ _ hne]
    exact h.here i (by omega)
  · by_cases e : y = T m
    · subst e; rw [up1_at]; exact .inl rfl
    · rw [up1_off _ _ e]
      rcases h.there y hy with h1 | ⟨j, hj, h1, h2⟩
      · exact .inl h1
      · refine .inr ⟨j, ?_, h1, h2⟩
        have : j ≠ m := fun e2 => e (by rw [← h2, e2])
        omega

/-- all that stands in the one stands in the other -/
def Sub (T' : Nat → Nat) (m' : Nat) (T : Nat → Nat) (m : Nat) : Prop := ∀ j, j < m' → ∃ k, k < m ∧ T' j = T k

theorem Sub.refl (T : Nat → Nat) (m : Nat) : Sub T m T m := fun j h => ⟨j, h, rfl⟩
theorem Sub.trans {T1 T2 T3 : Nat → Nat} {a b c : Nat} (h : Sub T1 a T2 b) (h' : Sub T2 b T3 c) : Sub T1 a T3 c := fun j hj => by
  obtain ⟨k, hk, e⟩ := h j hj
  obtain ⟨l, hl, e'⟩ := h' k hk
  exact ⟨l, hl, e.trans e'⟩
end Go.Proofs.YthconjhldjaldaaGreatDoor

/-
  A heap in memory; score.Less, ahead, swap.
-/
namespace Go.Proofs.YthconjhldjaldaaGreatDoor
open Go.RowKit

def rowF (f : Nat → Value) (n : Nat) : List Value := (List.range n).map f

theorem rowF_length (f : Nat → Value) (n : Nat) : (rowF f n).length = n := by simp [rowF]
theorem rowF_at {f : Nat → Value} {n i : Nat} (h : i < n) : (rowF f n)[i]? = some (f i) := by simp [rowF, h]
theorem rowF_set (f : Nat → Value) (n i : Nat) (v : Value) : (rowF f n).set i v = rowF (up1 f i v) n := by
  apply List.ext_getElem?
  intro j
  by_cases hj : j < n
  · rw [rowF_at hj, List.getElem?_set]
    by_cases e : i = j
    · subst e; simp [rowF_length, hj, up1]
    · rw [if_neg e, rowF_at hj, up1_off _ _ (fun h => e h.symm)]
  · rw [List.getElem?_eq_none (by rw [List.length_set, rowF_length]; omega), List.getElem?_eq_none (by rw [rowF_length]; omega)]
section
variable {w w' : World} {base h n m : Nat} {vs vt va : Value} {S T : Nat → Nat} {Q : Nat → Int}

end

end Go.Proofs.YthconjhldjaldaaGreatDoor

/-
  heap: what is asked of a heap without change, and of none; a score of bits.
-/
namespace Go.Proofs.YthconjhldjaldaaGreatDoor
open Go.RowKit

section
variable {w : World} {base h n m : Nat} {vs vt va : Value} {S T : Nat → Nat} {Q : Nat → Int}

end

end Go.Proofs.YthconjhldjaldaaGreatDoor

/-
  A score of bits; heap.New.
-/
namespace Go.Proofs.YthconjhldjaldaaGreatDoor
open Go.RowKit

theorem made_row (z : Value) (n : Nat) : madeCells #[z] n = (rowF (fun _ => z) n).toArray := by
  apply Array.ext
  · simp [madeCells, rowF]
  · intro i h1 h2
    simp [madeCells, rowF, Nat.mod_one]

theorem new3 (w : World) (c0 c1 c2 : Array Value) (t0 t1 t2 : TypeId) :
    Blk (((w.alloc (.cells c0 t0)).alloc (.cells c1 t1)).alloc (.cells c2 t2)).drew w.heap.size c0 t0 ∧ Blk (((w.alloc (.cells c0 t0)).alloc (.cells c1 t1)).alloc (.cells c2 t2)).drew (w.heap.size + 1) c1 t1 ∧ Blk (((w.alloc (.cells c0 t0)).alloc (.cells c1 t1)).alloc (.cells c2 t2)).drew (w.heap.size + 1 + 1) c2 t2 := by
  refine ⟨(((Blk.new w c0 t0).alloc _).alloc _).drew, ?_, ?_⟩
  · have := ((Blk.new (w.alloc (.cells c0 t0)) c1 t1).alloc (.cells c2 t2)).drew
    simpa using this
  · have := (Blk.new ((w.alloc (.cells c0 t0)).alloc (.cells c1 t1)) c2 t2).drew
    simpa using this

end Go.Proofs.YthconjhldjaldaaGreatDoor

/-
  Circuits, plainly: which literals are owned and used, and the order of gates. No program in sight.
-/
namespace Go.Proofs.YthconjhldjaldaaGreatDoor

/-- a circuit, but for its symbols and its comment -/
structure Circ where
  max : Int
  ins : List Int
  lats : List (Int × Int × Int)
  outs : List Int
  bads : List Int
  cons : List Int
  gates : List (Int × Int × Int)

def Circ.owned (C : Circ) : List Int := C.ins ++ C.lats.map (fun x => x.1) ++ C.gates.map (fun x => x.1)
def Circ.used (C : Circ) : List Int := C.outs ++ C.bads ++ C.cons ++ C.lats.map (fun x => x.2.1) ++ C.gates.flatMap (fun g => [g.2.1, g.2.2])

def g3 (G : List (Int × Int × Int)) (i : Nat) : Int × Int × Int := G[i]?.getD (0, 0, 0)
theorem g3_at {G : List (Int × Int × Int)} {i : Nat} (h : i < G.length) : G[i]? = some (g3 G i) := by unfold g3; rw [List.getElem?_eq_getElem h]; rfl
theorem g3_mem {G : List (Int × Int × Int)} {i : Nat} (h : i < G.length) : g3 G i ∈ G := by
  have := g3_at h
  exact List.mem_of_getElem? this

/-- a gate of a variable is not told yet -/
def waitsB (G : List (Int × Int × Int)) (out : List Nat) (l : Int) : Bool := (List.range G.length).any fun i => !out.contains i && decide ((g3 G i).1 / 2 = l / 2)
def readyB (G : List (Int × Int × Int)) (out : List Nat) (i : Nat) : Bool := !out.contains i && !waitsB G out (g3 G i).2.1 && !waitsB G out (g3 G i).2.2
def nextO (G : List (Int × Int × Int)) (out : List Nat) : Option Nat := (List.range G.length).find? (readyB G out)
def ordFrom (G : List (Int × Int × Int)) : Nat → List Nat → List Nat
  | 0, out => out
  | f + 1, out => match nextO G out with
    | none => out
    | some i => ordFrom G f (out ++ [i])
/-- the gates' places, in order -/
def ordO (G : List (Int × Int × Int)) : List Nat := ordFrom G G.length []

/-- what stands ahead -/
structure OrdAt (G : List (Int × Int × Int)) (out : List Nat) : Prop where
  nd : out.Nodup
  lt : ∀ i, i ∈ out → i < G.length
  eq : ordFrom G (G.length - out.length) out = ordO G

theorem nextO_some {G : List (Int × Int × Int)} {out : List Nat} {i : Nat} (h : nextO G out = some i) : i < G.length ∧ readyB G out i = true := by
  unfold nextO at h
  have h1 := List.mem_of_find?_eq_some h
  have h2 := List.find?_some h
  exact ⟨List.mem_range.1 h1, h2⟩

theorem readyB_not_mem {G : List (Int × Int × Int)} {out : List Nat} {i : Nat} (h : readyB G out i = true) : i ∉ out := by
  unfold readyB at h
  simp at h
  exact h.1.1

theorem nodup_le : ∀ (n : Nat) {l : List Nat}, l.Nodup → (∀ i, i ∈ l → i < n) → l.length ≤ n
  | 0, l, _, h => by
    cases l with
    | nil => simp
    | cons x r => have := h x (by simp); omega
  | n + 1, l, hn, h => by
    by_cases hm : n ∈ l
    · have h1 := nodup_le n (l := l.erase n) (hn.erase n) (fun i hi => by
        have h2 := (hn.mem_erase_iff).1 hi
        have := h i h2.2
        have := h2.1
        omega)
      rw [List.length_erase_of_mem hm] at h1
      omega
    · have := nodup_le n hn (fun i hi => by
        have := h i hi
        have : i ≠ n := fun e => hm (e ▸ hi)
        omega)
      omega

theorem nodup_lt {l : List Nat} (hn : l.Nodup) {n i : Nat} (h : ∀ j, j ∈ l → j < n) (hi : i < n) (hm : i ∉ l) : l.length < n := by
  have h1 : (i :: l).Nodup := List.nodup_cons.2 ⟨hm, hn⟩
  have := nodup_le n h1 (fun j hj => by
    rcases List.mem_cons.1 hj with e | e
    · omega
    · exact h j e)
  rw [List.length_cons] at this
  omega

theorem OrdAt.start (G : List (Int × Int × Int)) : OrdAt G [] := ⟨List.nodup_nil, fun i h => by simp at h, rfl⟩

theorem OrdAt.step {G : List (Int × Int × Int)} {out : List Nat} (h : OrdAt G out) {i : Nat} (hn : nextO G out = some i) : OrdAt G (out ++ [i]) := by
  obtain ⟨hi, hr⟩ := nextO_some hn
  have hm := readyB_not_mem hr
  refine ⟨?_, ?_, ?_⟩
  · rw [List.nodup_append]
    refine ⟨h.nd, by simp, fun a ha b hb => ?_⟩
    simp at hb
    subst hb
    intro e
    subst e
    exact hm ha
  · intro j hj
    rcases List.mem_append.1 hj with e | e
    · exact h.lt j e
    · simp at e; omega
  · have hl := nodup_lt h.nd h.lt hi hm
    have he := h.eq
    rw [show G.length - out.length = (G.length - (out.length + 1)) + 1 by omega] at he
    unfold ordFrom at he
    rw [hn] at he
    rw [List.length_append]
    exact he

theorem OrdAt.done {G : List (Int × Int × Int)} {out : List Nat} (h : OrdAt G out) (hn : nextO G out = none) : ordO G = out := by
  rw [← h.eq]
  cases G.length - out.length with
  | zero => rfl
  | succ f => unfold ordFrom; rw [hn]

theorem OrdAt.len {G : List (Int × Int × Int)} {out : List Nat} (h : OrdAt G out) : out.length ≤ G.length := nodup_le _ h.nd h.lt

/-- no two gates are of one variable -/
def GoodG (G : List (Int × Int × Int)) : Prop := ∀ i j, i < G.length → j < G.length → (g3 G i).1 / 2 = (g3 G j).1 / 2 → i = j

def pins (G : List (Int × Int × Int)) (k : Nat) : List Int := [(g3 G k).2.1, (g3 G k).2.2]
/-- for how many of its two literals a gate waits -/
def cntO (G : List (Int × Int × Int)) (out : List Nat) (k : Nat) : Nat := ((pins G k).filter (waitsB G out)).length

theorem ready_iff {G : List (Int × Int × Int)} {out : List Nat} {i : Nat} : readyB G out i = true ↔ i ∉ out ∧ cntO G out i = 0 := by
  unfold readyB cntO pins
  simp
  rw [and_assoc]

theorem waitsB_iff {G : List (Int × Int × Int)} {out : List Nat} {l : Int} : waitsB G out l = true ↔ ∃ i, i < G.length ∧ i ∉ out ∧ (g3 G i).1 / 2 = l / 2 := by
  unfold waitsB
  simp

/-- the gates that have gate i among their literals, as often as they have -/
def aboveL (G : List (Int × Int × Int)) (i : Nat) : Nat → List Nat
  | 0 => []
  | n + 1 => aboveL G i n ++ ((pins G n).filter (fun p => decide (p / 2 = (g3 G i).1 / 2))).map (fun _ => n)

theorem count_map_const {α : Type} (l : List α) (n k : Nat) : (l.map (fun _ => n)).count k = if k = n then l.length else 0 := by
  induction l with
  | nil => simp
  | cons x l ih =>
    rw [List.map_cons, List.count_cons, ih]
    by_cases h : k = n
    · subst h; simp
    · simp [h]; omega

theorem aboveL_count (G : List (Int × Int × Int)) (i : Nat) : ∀ n k, (aboveL G i n).count k = if k < n then ((pins G k).filter (fun p => decide (p / 2 = (g3 G i).1 / 2))).length else 0
  | 0, k => by simp [aboveL]
  | n + 1, k => by
    unfold aboveL
    rw [List.count_append, aboveL_count G i n k, count_map_const]
    by_cases h : k = n
    · subst h; simp
    · rw [if_neg h]
      by_cases h2 : k < n
      · rw [if_pos h2, if_pos (by omega)]; omega
      · rw [if_neg h2, if_neg (by omega)]

theorem waits_step {G : List (Int × Int × Int)} (hG : GoodG G) {out : List Nat} {i : Nat} (hi : i < G.length) (hm : i ∉ out) (p : Int) :
    (if waitsB G (out ++ [i]) p = true then 1 else 0) + (if p / 2 = (g3 G i).1 / 2 then 1 else 0) = (if waitsB G out p = true then 1 else 0) := by
  by_cases hp : p / 2 = (g3 G i).1 / 2
  · have h1 : waitsB G out p = true := waitsB_iff.2 ⟨i, hi, hm, hp.symm⟩
    have h2 : ¬ waitsB G (out ++ [i]) p = true := by
      intro h
      obtain ⟨j, hj, hjm, e⟩ := waitsB_iff.1 h
      have : j = i := hG j i hj hi (e.trans hp)
      subst this
      simp at hjm
    rw [if_neg h2, if_pos hp, if_pos h1]
  · have h3 : waitsB G (out ++ [i]) p = true ↔ waitsB G out p = true := by
      rw [waitsB_iff, waitsB_iff]
      constructor
      · rintro ⟨j, hj, hjm, e⟩
        exact ⟨j, hj, fun h => hjm (List.mem_append.2 (.inl h)), e⟩
      · rintro ⟨j, hj, hjm, e⟩
        refine ⟨j, hj, fun h => ?_, e⟩
        rcases List.mem_append.1 h with h | h
        · exact hjm h
        · simp at h; subst h; exact hp e.symm
    rw [if_neg hp]
    simp only [h3]
    omega

theorem filter_two (p q : Int) (f : Int → Bool) : ([p, q].filter f).length = (if f p = true then 1 else 0) + (if f q = true then 1 else 0) := by
  by_cases h1 : f p = true <;> by_cases h2 : f q = true <;> simp [h1, h2]

theorem cnt_step {G : List (Int × Int × Int)} (hG : GoodG G) {out : List Nat} {i : Nat} (hi : i < G.length) (hm : i ∉ out) {k : Nat} (hk : k < G.length) :
    cntO G (out ++ [i]) k + (aboveL G i G.length).count k = cntO G out k := by
  rw [aboveL_count, if_pos hk]
  unfold cntO pins
  rw [filter_two, filter_two, filter_two]
  have h1 := waits_step hG hi hm (g3 G k).2.1
  have h2 := waits_step hG hi hm (g3 G k).2.2
  simp only [decide_eq_true_eq]
  omega

/-- between two takings: the gates that are told, and what is lacking -/
structure MidO (G : List (Int × Int × Int)) (out : List Nat) : Prop where
  at_ : OrdAt G out
  zero : ∀ k, k ∈ out → cntO G out k = 0

theorem MidO.start (G : List (Int × Int × Int)) : MidO G [] := ⟨OrdAt.start G, fun k h => by simp at h⟩

theorem cnt_le {G : List (Int × Int × Int)} (hG : GoodG G) {out : List Nat} {i : Nat} (hi : i < G.length) (hm : i ∉ out) {k : Nat} (hk : k < G.length) : cntO G (out ++ [i]) k ≤ cntO G out k := by
  have := cnt_step hG hi hm hk
  omega

theorem MidO.step {G : List (Int × Int × Int)} (hG : GoodG G) {out : List Nat} (h : MidO G out) {i : Nat} (hn : nextO G out = some i) : MidO G (out ++ [i]) := by
  obtain ⟨hi, hr⟩ := nextO_some hn
  obtain ⟨hm, hz⟩ := ready_iff.1 hr
  refine ⟨h.at_.step hn, fun k hk => ?_⟩
  rcases List.mem_append.1 hk with e | e
  · have := cnt_le hG hi hm (h.at_.lt k e); have := h.zero k e; omega
  · simp at e; subst e; have := cnt_le hG hi hm hi; omega

end Go.Proofs.YthconjhldjaldaaGreatDoor

/-
  Slices of structs of k cells each, of the call's own. No program in sight.
-/
namespace Go.Proofs.YthconjhldjaldaaGreatDoor
open Go.RowKit

theorem flat_length {k : Nat} : ∀ {rows : List (List Value)}, (∀ r ∈ rows, r.length = k) → rows.flatten.length = rows.length * k
  | [], _ => by simp
  | r :: rows, h => by
    rw [List.flatten_cons, List.length_append, h r (by simp), flat_length (fun x hx => h x (by simp [hx])), List.length_cons, Nat.succ_mul]
    omega

theorem flat_at {k : Nat} : ∀ {rows : List (List Value)}, (∀ r ∈ rows, r.length = k) → ∀ {j i : Nat} {r : List Value} {u : Value}, rows[j]? = some r → r[i]? = some u → rows.flatten[j * k + i]? = some u
  | [], _, j, i, r, u, hj, _ => by simp at hj
  | x :: rows, h, 0, i, r, u, hj, hi => by
    simp at hj
    subst hj
    have hl : i < x.length := (List.getElem?_eq_some_iff.1 hi).1
    rw [List.flatten_cons, List.getElem?_append_left (by omega), Nat.zero_mul, Nat.zero_add]
    exact hi
  | x :: rows, h, j + 1, i, r, u, hj, hi => by
    have hx := h x (by simp)
    rw [List.flatten_cons, List.getElem?_append_right (by rw [hx, Nat.succ_mul]; omega), hx, show (j + 1) * k + i - k = j * k + i by rw [Nat.succ_mul]; omega]
    exact flat_at (fun y hy => h y (by simp [hy])) (by simpa using hj) hi

/-- v owns rows of k cells each -/
structure OwnK (w : World) (base : Nat) (e : TypeId) (k : Nat) (v : Value) (rows : List (List Value)) : Prop where
  own : w.ownsRow base e k v rows.length rows.flatten
  len : ∀ r ∈ rows, r.length = k

section
variable {w w' : World} {base : Nat} {e : TypeId} {k : Nat} {v : Value} {rows : List (List Value)}

theorem OwnK.nil (w : World) (base : Nat) (e : TypeId) (k : Nat) : OwnK w base e k (.slice none 0 0) [] := ⟨World.ownsRow_nil _ _ _ _, fun r h => by cases h⟩

theorem OwnK.form (h : OwnK w base e k v rows) : ∃ a cap, v = .slice a rows.length cap ∧ rows.length ≤ cap ∧ cap ≤ maxLen ∧ (a = none → cap = 0) ∧ (∀ p, a = some p → ∃ g, p = ⟨g, 0, none⟩ ∧ base ≤ g ∧ g < w.heap.size) ∧ RowAt w a rows.flatten := by
  rcases h.own.2 with ⟨rfl, hn⟩ | ⟨g, cap, cur, rfl, hb, hg, hnc, hcm, hcs, htake⟩
  · refine ⟨none, 0, by rw [hn], by omega, by simp [maxLen], fun _ => rfl, fun p hp => by simp at hp, ?_⟩
    have : rows = [] := List.eq_nil_of_length_eq_zero hn
    subst this
    exact RowAt.nil _ _
  · refine ⟨_, cap, rfl, hnc, hcm, (fun h => by cases h), fun p hp => ⟨g, by simpa using hp.symm, hb, (Array.getElem?_eq_some_iff.1 hg).1⟩, ?_⟩
    have hB : Blk w g cur e := hg
    exact hB.rowAt (off := 0) (n := rows.length * k) (by simpa using htake)

theorem OwnK.kp {S : Nat → Prop} (h : OwnK w base e k v rows) (kk : Kp S w w') (hS : ∀ j, v.ownBlock = some j → ¬ S j) : OwnK w' base e k v rows := by
  refine ⟨⟨h.own.1, ?_⟩, h.len⟩
  rcases h.own.2 with hn | ⟨g, cap, cur, rfl, hb, hgg, rest⟩
  · exact .inl hn
  · refine .inr ⟨g, cap, cur, rfl, hb, ?_, rest⟩
    rw [kk.block g (Array.getElem?_eq_some_iff.1 hgg).1 (hS g rfl)]
    exact hgg

theorem OwnK.mono {b' : Nat} (h : OwnK w base e k v rows) (hb : b' ≤ base) : OwnK w b' e k v rows := by
  refine ⟨⟨h.own.1, ?_⟩, h.len⟩
  rcases h.own.2 with hn | ⟨g, cap, cur, rfl, hg, hgg, rest⟩
  · exact .inl hn
  · exact .inr ⟨g, cap, cur, rfl, by omega, hgg, rest⟩

theorem OwnK.lt (h : OwnK w base e k v rows) : ∀ j, v.ownBlock = some j → base ≤ j ∧ j < w.heap.size := World.ownsRow.lt h.own

theorem OwnK.leads (h : OwnK w base e k v rows) (hc : 0 < rows.length) : ∃ g cap, v = .slice (some ⟨g, 0, none⟩) rows.length cap ∧ base ≤ g ∧ g < w.heap.size := by
  rcases h.own.2 with ⟨rfl, hn⟩ | ⟨g, cap, cur, rfl, hb, hg, _⟩
  · omega
  · exact ⟨g, cap, rfl, hb, (Array.getElem?_eq_some_iff.1 hg).1⟩

theorem OwnK.alloc (h : OwnK w base e k v rows) (o : Obj) : OwnK (w.alloc o) base e k v rows := ⟨World.ownsRow.alloc h.own o, h.len⟩
theorem OwnK.drew (h : OwnK w base e k v rows) : OwnK w.drew base e k v rows := ⟨h.own, h.len⟩
theorem OwnK.drewN (h : OwnK w base e k v rows) (n : Nat) : OwnK (w.drewN n) base e k v rows := ⟨h.own, h.len⟩
end

/-- the row of cells at a, as rows of k cells: cell i of row j -/
theorem RowAt.cellAt {w : World} {a : Option Addr} {k : Nat} {rows : List (List Value)} (h : RowAt w a rows.flatten) (hl : ∀ r ∈ rows, r.length = k) {j i : Nat} {r : List Value} {u : Value} (hj : rows[j]? = some r) (hi : r[i]? = some u) : Elem w a (j * k + i) u :=
  h _ _ (flat_at hl hj hi)

end Go.Proofs.YthconjhldjaldaaGreatDoor

/-
  'append(v, u)' on a row of the call's own, and where the new row lies.
-/
namespace Go.Proofs.YthconjhldjaldaaGreatDoor
open Go.RowKit

theorem wpList_append1_at {P : Program} {w : World} {ops : Array Oper} {rest : List Oper} {o : Oper} {a : Act} {Q : Exit → Act → World → Prop} (hgd : o.guard = none) (s x : Operand) (t e : TypeId)
    (ho : o.op = .call { callee := .builtin .append, args := #[s, x], argTypes := #[t, t] }) {z : Value} {bytes : Nat}
    (ht : P.underlying t = some (.slice e)) (hI : (P.info? e).map (fun i => (i.zero, i.size, i.bytes)) = some (some z, 1, bytes)) (hzs : z.cells.size = 1)
    {base : Nat} {v : Value} {cs : List Value} (hown : Own w base e v cs) (hs : a.eval s = v) (ad : Addr) (u : Value) (hx : a.eval x = .slice (some ad) 1 1) (hnew : w.cell? ad = some u) (h1 : u.oneCell' = true)
    (hbytes : (cs.length + 1) * bytes ≤ 140737488355328) (hm : cs.length + 1 ≤ maxLen) (hbase : base ≤ w.heap.size)
    (h : ∀ v' w', Own w' base e v' (cs ++ [u]) → w.grownBy w' v.ownBlock → (v'.ownBlock = v.ownBlock ∨ v'.ownBlock = some w.heap.size) → wpList P ops Q rest (a.put o.dst v') w') : wpList P ops Q (o :: rest) a w := by
  obtain ⟨i0, hi, hz0, hz1, hz2⟩ := info_parts hI
  refine wpList_append_own_at _ hgd s x t ho base e i0 z 1 bytes ht hi hz0 hz1 hz2 hzs (by decide) v cs.length cs hs hown ad 1 1 [u] hx rfl ?_ ?_ hm hbytes hbase ?_
  · intro j u' hj
    match j, hj with
    | 0, hj =>
      have : ad.add 0 = ad := by unfold Addr.add; split <;> simp_all
      simp at hj
      rw [this, ← hj]; exact hnew
  · intro u' hu; simp at hu; subst hu; exact h1
  · intro v' w' h2 h3 _ h5
    exact h v' w' (by unfold Own; rw [List.length_append]; exact h2) h3 h5

end Go.Proofs.YthconjhldjaldaaGreatDoor

/-
  Circuits in memory, and slices of structs of k cells.
-/
namespace Go.Proofs.YthconjhldjaldaaGreatDoor
open Go.RowKit

theorem Kp.cellK {w w' : World} (k : Kp (fun _ => False) w w') {b o : Nat} {v : Value} (h : w.cell? ⟨b, o, none⟩ = some v) : w'.cell? ⟨b, o, none⟩ = some v :=
  (World.cell?_of_block (w := w) (w' := w') (a := ⟨b, o, none⟩) (k.block b (World.block_lt_of_cell? w _ h) (fun h => h))).trans h

theorem Own.lit {w : World} {base g : Nat} {e : TypeId} {cs : List Value} (h : Blk w g cs.toArray e) (hg : base ≤ g) (hn : cs.length ≤ maxLen) : Own w base e (.slice (some ⟨g, 0, none⟩) cs.length cs.length) cs :=
  ⟨by simp, .inr ⟨g, cs.length, cs.toArray, rfl, hg, h, Nat.le_refl _, hn, by simp, by simp⟩⟩

theorem OwnK.lit {w : World} {base g k : Nat} {e : TypeId} {rows : List (List Value)} (h : Blk w g rows.flatten.toArray e) (hg : base ≤ g) (hl : ∀ r ∈ rows, r.length = k) (hn : rows.length ≤ maxLen) : OwnK w base e k (.slice (some ⟨g, 0, none⟩) rows.length rows.length) rows :=
  ⟨⟨by rw [flat_length hl], .inr ⟨g, rows.length, rows.flatten.toArray, rfl, hg, h, Nat.le_refl _, hn, by simp only [List.size_toArray]; exact flat_length hl, by rw [← flat_length hl]; exact List.take_length⟩⟩, hl⟩

/-- 'append(v, xs...)' of structs of k cells each; the source reads news -/
theorem wpList_appendNewsK {P : Program} {w : World} {ops : Array Oper} {rest : List Oper} {o : Oper} {a : Act} {Q : Exit → Act → World → Prop} (hgd : o.guard = none) (s x : Operand) (t e : TypeId)
    (ho : o.op = .call { callee := .builtin .append, args := #[s, x], argTypes := #[t, t] }) {z : Value} {k bytes : Nat}
    (ht : P.underlying t = some (.slice e)) (hI : (P.info? e).map (fun i => (i.zero, i.size, i.bytes)) = some (some z, k, bytes)) (hzs : z.cells.size = k) (hk : 0 < k)
    {base : Nat} {v : Value} {rows : List (List Value)} (hown : OwnK w base e k v rows) (hs : a.eval s = v) (src : Option Addr) (m c : Nat) (news : List (List Value)) (hx : a.eval x = .slice src m c) (hm : news.length = m) (hrow : RowAt w src news.flatten) (hnil : src = none → c = 0) (hlen : ∀ r ∈ news, r.length = k) (h1 : ∀ r ∈ news, ∀ u ∈ r, u.oneCell' = true)
    (hbytes : (rows.length + m) * bytes ≤ 140737488355328) (hml : rows.length + m ≤ maxLen) (hbase : base ≤ w.heap.size)
    (h : ∀ v' w', OwnK w' base e k v' (rows ++ news) → w.grownBy w' v.ownBlock → wpList P ops Q rest (a.put o.dst v') w') : wpList P ops Q (o :: rest) a w := by
  obtain ⟨i0, hi, hz0, hz1, hz2⟩ := info_parts hI
  have hfl := flat_length hlen
  cases src with
  | none =>
    have hn : news = [] := by
      cases news with
      | nil => rfl
      | cons r0 r =>
        have h0 := hlen r0 (by simp)
        cases r0 with
        | nil => simp at h0; omega
        | cons u r1 => obtain ⟨_, _, h, _⟩ := hrow 0 u (by simp); cases h
    subst hn
    have hm0 : m = 0 := by simpa using hm.symm
    subst hm0
    rw [hnil rfl] at hx
    refine wpList_append_own_none hgd s x t ho base e i0 k ht hi v rows.length rows.flatten hs hown.own hx ?_
    exact h v w (by rw [List.append_nil]; exact hown) ⟨rfl, rfl, rfl, Nat.le_refl _, fun _ _ _ => rfl⟩
  | some ad =>
    refine wpList_append_own _ hgd s x t ho base e i0 z k bytes ht hi hz0 hz1 hz2 hzs hk v rows.length rows.flatten hs hown.own ad m c news.flatten hx (by rw [hfl, hm]) ?_ ?_ hml hbytes hbase ?_
    · intro j u hj
      obtain ⟨b, off, hab, hc⟩ := hrow j u hj
      simp only [Option.some.injEq] at hab
      subst hab
      rw [add_plain']
      exact hc
    · intro u hu
      obtain ⟨r, hr, hur⟩ := List.mem_flatten.1 hu
      exact h1 r hr u hur
    · intro v' w' h2 h3 _
      refine h v' w' ⟨?_, ?_⟩ h3
      · rw [List.length_append, List.flatten_append, hm]; exact h2
      · intro r hr
        rcases List.mem_append.1 hr with h | h
        · exact hown.len r h
        · exact hlen r h

/-- a latch or a gate as cells -/
def tri (x : Int × Int × Int) : List Value := [.int .i64 x.1, .int .i64 x.2.1, .int .i64 x.2.2]
/-- where a circuit's lists lie -/
structure CV where
  ai : Option Addr
  ci : Nat
  al : Option Addr
  cl : Nat
  ao : Option Addr
  co : Nat
  ab : Option Addr
  cb : Nat
  ac : Option Addr
  cc : Nat
  ag : Option Addr
  cg : Nat
  ay : Option Addr
  ny : Nat
  cy : Nat
  cm : ByteArray

/-- a slice's form -/
structure SlOK (a : Option Addr) (n c : Nat) : Prop where
  le : n ≤ c
  most : c ≤ maxLen
  nil : a = none → c = 0

/-- a circuit in memory -/
structure CAt (w : World) (V : CV) (C : Circ) : Prop where
  i : IntsAt w V.ai C.ins
  l : RowAt w V.al (C.lats.map tri).flatten
  o : IntsAt w V.ao C.outs
  b : IntsAt w V.ab C.bads
  c : IntsAt w V.ac C.cons
  g : RowAt w V.ag (C.gates.map tri).flatten
  y : ∃ rows : List (List Value), RowAt w V.ay rows.flatten ∧ rows.length = V.ny ∧ (∀ r ∈ rows, r.length = 3) ∧ ∀ r ∈ rows, ∀ u ∈ r, u.oneCell' = true
  fi : SlOK V.ai C.ins.length V.ci
  fl : SlOK V.al C.lats.length V.cl
  fo : SlOK V.ao C.outs.length V.co
  fb : SlOK V.ab C.bads.length V.cb
  fc : SlOK V.ac C.cons.length V.cc
  fg : SlOK V.ag C.gates.length V.cg
  fy : SlOK V.ay V.ny V.cy

theorem CAt.kp {w w' : World} {V : CV} {C : Circ} (h : CAt w V C) (k : Kp (fun _ => False) w w') : CAt w' V C :=
  ⟨h.i.kp k (fun _ _ h => h), h.l.kp k (fun _ _ h => h), h.o.kp k (fun _ _ h => h), h.b.kp k (fun _ _ h => h), h.c.kp k (fun _ _ h => h), h.g.kp k (fun _ _ h => h), by
    obtain ⟨rows, h1, h2⟩ := h.y
    exact ⟨rows, h1.kp k (fun _ _ h => h), h2⟩, h.fi, h.fl, h.fo, h.fb, h.fc, h.fg, h.fy⟩

end Go.Proofs.YthconjhldjaldaaGreatDoor

/-
  slices.Clone of ints, of latches, of gates, of symbols. (Printed by mkclone.py.)
-/
namespace Go.Proofs.YthconjhldjaldaaGreatDoor
open Go.RowKit

set_option maxHeartbeats 2000000 in
theorem clone_ints (a : Option Addr) (n c : Nat) (L : List Int) (w : World) (hr : IntsAt w a L) (hn : L.length = n) (ho : SlOK a n c) (hm : n ≤ 1000000) :
    Calls Tryz.prog 19 #[.slice a n c] w fun e w' => ∃ v', e = .returned v' ∧ Own w' w.heap.size 3 v' (L.map (Value.int .i64)) ∧ Kp (fun _ => False) w w' := by
  cases a with
  | none =>
    have hL : L = [] := by
      have h1 := ho.le
      have h2 := ho.nil rfl
      exact List.eq_nil_of_length_eq_zero (by omega)
    subst hL
    have q22 := fun (w : World) (a : Option Addr) (n c n' c' : Nat) => Lib.run_eql_slice_nil (P := Tryz.prog) w 23 3 a n c n' c' Tryz.underlying23
    clear hr ho hn hm
    go_enter Tryz.func19, Tryz.ntmps19
    go_wp2
    go_ret
    exact ⟨_, rfl, Own.nil _ _ _, Kp.refl _ _⟩
  | some ad =>
    have HR := Lib.hid hr
    have HN := Lib.hid hn
    have hI : (Tryz.prog.info? 3).map (fun i => (i.zero, i.size, i.bytes)) = some (some (.int .i64 0), 1, 8) := by kernel_rfl
    have HI := Lib.hid hI
    have q22 := fun (w : World) (a : Option Addr) (n c n' c' : Nat) => Lib.run_eql_slice_nil (P := Tryz.prog) w 23 3 a n c n' c' Tryz.underlying23
    have HO := Lib.hid (show Own (w.alloc (.cells #[] 3)) w.heap.size 3 (.slice (some ⟨w.heap.size, 0, none⟩) 0 0) [] from Own.lit (cs := []) (Blk.new w #[] 3) (Nat.le_refl _) (Nat.zero_le _))
    have HM := Lib.hid hm
    clear hr hn ho hI hm
    go_enter Tryz.func19, Tryz.ntmps19
    go_wp2_with (at_builtin; refine wpList_appendAll rfl _ _ 23 3 rfl Tryz.underlying23 HI.out rfl HO.out rfl (some ad) n c (L.map (Value.int .i64)) rfl (by rw [List.length_map]; exact HN.out) (HR.out.kp ((Kp.refl (fun _ => False) w).alloc _) (fun _ _ h => h)) (fun h => by cases h) (fun u hu => by obtain ⟨x, _, rfl⟩ := List.mem_map.1 hu; rfl) (by have := HM.out; simp; omega) (by have := HM.out; unfold maxLen; simp; omega) (by simp) ?_)
    intro v' w1 hown hgrow
    go_wp2
    go_ret
    exact ⟨v', rfl, by simpa using hown, ((Kp.refl (fun _ => False) w).alloc _).grown hgrow (fun j hj hlt => by simp [Value.ownBlock] at hj; omega)⟩

end Go.Proofs.YthconjhldjaldaaGreatDoor

/-
  circ.defined: the literals that are something's.
-/
namespace Go.Proofs.YthconjhldjaldaaGreatDoor
open Go.RowKit

theorem take_g3 {L : List (Int × Int × Int)} {k : Nat} (h : k < L.length) : L.take (k + 1) = L.take k ++ [g3 L k] := by
  rw [List.take_succ_eq_append_getElem h]
  unfold g3
  rw [List.getElem?_eq_getElem h]
  rfl

theorem take_gi {L : List Int} {k : Nat} (h : k < L.length) : L.take (k + 1) = L.take k ++ [gi L k] := by
  rw [List.take_succ_eq_append_getElem h]
  unfold gi
  rw [List.getElem?_eq_getElem h]
  rfl

def iv (l : List Int) : List Value := l.map (Value.int .i64)
theorem iv_length (a : List Int) : (iv a).length = a.length := List.length_map ..

end Go.Proofs.YthconjhldjaldaaGreatDoor

/-
  A row of rows of ints of the call's own, each of which may grow.
-/
namespace Go.Proofs.YthconjhldjaldaaGreatDoor
open Go.RowKit

/-- block g holds m rows: row k lies at R k and reads A k -/
structure RowsM (w : World) (lo g m : Nat) (R : Nat → Value) (A : Nat → List Int) : Prop where
  blk : Blk w g (rowF R m).toArray 23
  ow : ∀ k, k < m → Own w lo 3 (R k) (iv (A k))
  lo : lo ≤ g
  ne : ∀ k, k < m → ∀ j, (R k).ownBlock = some j → j ≠ g
  dis : ∀ k k', k < m → k' < m → k ≠ k' → ∀ j, (R k).ownBlock = some j → (R k').ownBlock ≠ some j

section
variable {w w' : World} {lo g m : Nat} {R : Nat → Value} {A : Nat → List Int}

theorem RowsM.kpS {S : Nat → Prop} (h : RowsM w lo g m R A) (k : Kp S w w') (hS : ∀ j, S j → j < lo ∨ w.heap.size ≤ j) : RowsM w' lo g m R A :=
  ⟨h.blk.kp k (fun q => by have := h.blk.lt; have := h.lo; rcases hS _ q with e | e <;> omega), fun i hi => (h.ow i hi).kp k (fun j hj q => by have := (h.ow i hi).lt j hj; rcases hS _ q with e | e <;> omega), h.lo, h.ne, h.dis⟩
theorem RowsM.kp (h : RowsM w lo g m R A) (k : Kp (fun _ => False) w w') : RowsM w' lo g m R A := h.kpS k (fun _ h => h.elim)

theorem RowsM.congr {A' : Nat → List Int} (h : RowsM w lo g m R A) (e : ∀ k, k < m → A k = A' k) : RowsM w lo g m R A' :=
  ⟨h.blk, fun k hk => by rw [← e k hk]; exact h.ow k hk, h.lo, h.ne, h.dis⟩

theorem RowsM.cell (h : RowsM w lo g m R A) {k : Nat} (hk : k < m) : w.cell? ⟨g, k, none⟩ = some (R k) :=
  h.blk.cell (by have := rowF_at (f := R) hk; simpa using this)

theorem RowsM.push {w1 w2 : World} {v' : Value} {k : Nat} {x : Int} (h : RowsM w lo g m R A) (hk : k < m) (hK : Kp (fun _ => False) w w1)
    (hO : Own w2 lo 3 v' (iv (A k) ++ [.int .i64 x])) (hg : w1.grownBy w2 (R k).ownBlock) (hat : v'.ownBlock = (R k).ownBlock ∨ v'.ownBlock = some w1.heap.size) :
    RowsM (w2.setCell ⟨g, k, none⟩ v') lo g m (up1 R k v') (up1 A k (A k ++ [x])) ∧ Kp (fun j => j = g ∨ (R k).ownBlock = some j) w (w2.setCell ⟨g, k, none⟩ v') := by
  have H1 := h.kp hK
  have hKg : Kp (fun j => (R k).ownBlock = some j) w1 w2 := (Kp.refl _ w1).grown hg (fun j hj _ => hj)
  have hKs : Kp (fun j => j = g) w2 (w2.setCell ⟨g, k, none⟩ v') := Kp.set w2 ⟨g, k, none⟩ _
  have hKK : Kp (fun j => j = g ∨ (R k).ownBlock = some j) w1 (w2.setCell ⟨g, k, none⟩ v') := (hKg.mono (fun _ _ h => .inr h)).trans hKs (fun _ _ h => .inl h)
  have hgl := H1.blk.lt
  have hRlt : ∀ i, i < m → ∀ j, (R i).ownBlock = some j → j < w1.heap.size := fun i hi j hj => ((H1.ow i hi).lt j hj).2
  have hne : ∀ j, v'.ownBlock = some j → j ≠ g ∧ ∀ i, i < m → i ≠ k → (R i).ownBlock ≠ some j := fun j hj => by
    rcases hat with e | e
    · rw [e] at hj
      exact ⟨h.ne k hk j hj, fun i hi hn => h.dis k i hk hi (fun q => hn q.symm) j hj⟩
    · rw [e] at hj
      have e2 : w1.heap.size = j := by simpa using hj
      exact ⟨by omega, fun i hi _ q => by have := hRlt i hi j q; omega⟩
  refine ⟨⟨?_, fun i hi => ?_, h.lo, fun i hi j hj => ?_, fun a b ha hb hab j hj => ?_⟩, ?_⟩
  · have hB : Blk w2 g (rowF R m).toArray 23 := H1.blk.kp hKg (fun e => h.ne k hk _ e rfl)
    have := hB.set_same k v'
    have e : (rowF R m).toArray.setIfInBounds k v' = ((rowF R m).set k v').toArray := by simp
    rw [e, rowF_set] at this
    exact this
  · by_cases e : i = k
    · subst e
      rw [up1_at, up1_at, show iv (A i ++ [x]) = iv (A i) ++ [.int .i64 x] by simp [iv]]
      exact hO.kp hKs (fun j hj e => (hne j hj).1 e)
    · rw [up1_off _ _ e, up1_off _ _ e]
      refine (H1.ow i hi).kp hKK (fun j hj q => ?_)
      rcases q with q | q
      · exact h.ne i hi j hj q
      · exact h.dis i k hi hk e j hj q
  · by_cases e : i = k
    · subst e
      rw [up1_at] at hj
      exact (hne j hj).1
    · rw [up1_off _ _ e] at hj
      exact h.ne i hi j hj
  · by_cases e : a = k
    · subst e
      rw [up1_at] at hj
      rw [up1_off _ _ (fun q => hab q.symm)]
      exact (hne j hj).2 b hb (fun q => hab q.symm)
    · rw [up1_off _ _ e] at hj
      by_cases e2 : b = k
      · subst e2
        rw [up1_at]
        intro q
        exact (hne j q).2 a ha e hj
      · rw [up1_off _ _ e2]
        exact h.dis a b ha hb hab j hj
  · exact (hK.mono (fun _ _ h => h.elim)).trans hKK (fun _ _ h => h)

end

end Go.Proofs.YthconjhldjaldaaGreatDoor

/-
  What is wrong with a circuit, plainly, in the program's and in the document's words. No program in sight.
-/
namespace Go.Proofs.YthconjhldjaldaaGreatDoor

def knownB (own : List Int) (l : Int) : Bool := decide (l / 2 = 0) || own.any (fun y => decide (y / 2 = l / 2))

structure InRange (C : Circ) : Prop where
  max0 : 0 ≤ C.max
  max1 : C.max ≤ 16777216
  own : ∀ l, l ∈ C.owned → 1 < l ∧ l % 2 = 0 ∧ l ≤ 2 * C.max
  res : ∀ x, x ∈ C.lats → x.2.2 = 0 ∨ x.2.2 = 1 ∨ x.2.2 = x.1
  use : ∀ l, l ∈ C.used → 0 ≤ l ∧ l ≤ 2 * C.max + 1

theorem gate_own {C : Circ} {i : Nat} (h : i < C.gates.length) : (g3 C.gates i).1 ∈ C.owned := by
  unfold Circ.owned
  exact List.mem_append.2 (.inr (List.mem_map.2 ⟨_, g3_mem h, rfl⟩))
theorem gate_useA {C : Circ} {i : Nat} (h : i < C.gates.length) : (g3 C.gates i).2.1 ∈ C.used := by
  unfold Circ.used
  exact List.mem_append.2 (.inr (List.mem_flatMap.2 ⟨_, g3_mem h, by simp⟩))
theorem gate_useB {C : Circ} {i : Nat} (h : i < C.gates.length) : (g3 C.gates i).2.2 ∈ C.used := by
  unfold Circ.used
  exact List.mem_append.2 (.inr (List.mem_flatMap.2 ⟨_, g3_mem h, by simp⟩))

theorem nodup_getElem {l : List Int} (h : l.Nodup) {i j : Nat} {x : Int} (hi : l[i]? = some x) (hj : l[j]? = some x) : i = j := by
  have hi' := (List.getElem?_eq_some_iff.1 hi)
  have hj' := (List.getElem?_eq_some_iff.1 hj)
  obtain ⟨hi1, hi2⟩ := hi'
  obtain ⟨hj1, hj2⟩ := hj'
  rcases Nat.lt_trichotomy i j with h1 | h1 | h1
  · exact absurd (hi2.trans hj2.symm) (List.pairwise_iff_getElem.1 h i j hi1 hj1 h1)
  · exact h1
  · exact absurd (hj2.trans hi2.symm) (List.pairwise_iff_getElem.1 h j i hj1 hi1 h1)

theorem InRange.good {C : Circ} (h : InRange C) (hn : C.owned.Nodup) : GoodG C.gates := by
  intro i j hi hj e
  have h1 := h.own _ (gate_own hi)
  have h2 := h.own _ (gate_own hj)
  have e2 : (g3 C.gates i).1 = (g3 C.gates j).1 := by omega
  have ho : C.owned = (C.ins ++ C.lats.map (fun x => x.1)) ++ C.gates.map (fun x => x.1) := rfl
  have hg : (C.gates.map (fun x => x.1)).Nodup := by
    rw [ho] at hn
    exact (List.nodup_append.1 hn).2.1
  refine nodup_getElem hg (x := (g3 C.gates i).1) ?_ ?_
  · rw [List.getElem?_map, g3_at hi]; rfl
  · rw [List.getElem?_map, g3_at hj, e2]; rfl

end Go.Proofs.YthconjhldjaldaaGreatDoor

/-
  A good circuit's net, and what its variables are, plainly.
-/
namespace Go.Proofs.YthconjhldjaldaaGreatDoor

abbrev NS := List (Int × Int) × List Int

def putN (s : NS) (l : Int) (x : Int × Int) : NS := (s.1 ++ [x], s.2.set (l / 2).toNat (2 * ((s.1.length : Int) + 1)))
def net0 (m : Int) : NS := ([], 0 :: List.replicate m.toNat (-1))
def inN (s : NS) (l : Int) : NS := putN s l (-1, 0)
def ofN (at_ : List Int) (l : Int) : Int := if l % 2 = 1 then gi at_ (l / 2).toNat + 1 - 2 * (gi at_ (l / 2).toNat % 2) else gi at_ (l / 2).toNat
def gateN (G : List (Int × Int × Int)) (s : NS) (i : Nat) : NS := putN s (g3 G i).1 (ofN s.2 (g3 G i).2.1, ofN s.2 (g3 G i).2.2)
def netI (C : Circ) (k : Nat) : NS := (C.ins.take k).foldl inN (net0 C.max)
def netL (C : Circ) (k : Nat) : NS := ((C.lats.take k).map (fun x => x.1)).foldl inN (netI C C.ins.length)
def netG (C : Circ) (k : Nat) : NS := ((ordO C.gates).take k).foldl (gateN C.gates) (netL C C.lats.length)
def netOf (C : Circ) : NS := netG C (ordO C.gates).length

theorem netI_succ {C : Circ} {k : Nat} (h : k < C.ins.length) : netI C (k + 1) = inN (netI C k) (gi C.ins k) := by
  unfold netI; rw [take_gi h, List.foldl_append]; rfl
theorem netL_succ {C : Circ} {k : Nat} (h : k < C.lats.length) : netL C (k + 1) = inN (netL C k) (g3 C.lats k).1 := by
  unfold netL; rw [take_g3 h, List.map_append, List.foldl_append]; rfl
theorem netL_zero (C : Circ) : netL C 0 = netI C C.ins.length := by simp [netL]
theorem netG_zero (C : Circ) : netG C 0 = netL C C.lats.length := by simp [netG]
def gno (l : List Nat) (k : Nat) : Nat := l[k]?.getD 0
theorem take_gno {l : List Nat} {q : Nat} (h : q < l.length) : l.take (q + 1) = l.take q ++ [gno l q] := by
  rw [List.take_succ_eq_append_getElem h]
  unfold gno
  rw [List.getElem?_eq_getElem h]
  rfl
theorem netG_succ {C : Circ} {k : Nat} (h : k < (ordO C.gates).length) : netG C (k + 1) = gateN C.gates (netG C k) (gno (ordO C.gates) k) := by
  unfold netG; rw [take_gno h, List.foldl_append]; rfl

/-- what is known of a net on the way: D are the variables that are placed -/
structure NInv (m : Nat) (s : NS) (D : Nat → Prop) : Prop where
  size : s.2.length = m + 1
  zero : gi s.2 0 = 0
  val : ∀ v, v ≤ m → gi s.2 v = -1 ∨ (0 ≤ gi s.2 v ∧ gi s.2 v % 2 = 0 ∧ gi s.2 v ≤ 2 * (s.1.length : Int))
  put : ∀ v, v ≤ m → D v → 0 ≤ gi s.2 v
  node : ∀ (j : Nat) (x : Int × Int), s.1[j]? = some x → x.1 < 0 ∨ (0 ≤ x.1 ∧ x.1 ≤ 2 * (j : Int) + 1 ∧ 0 ≤ x.2 ∧ x.2 ≤ 2 * (j : Int) + 1)

theorem gi_set {l : List Int} {i : Nat} {x : Int} (h : i < l.length) (k : Nat) : gi (l.set i x) k = if k = i then x else gi l k := by
  unfold gi
  rw [List.getElem?_set]
  by_cases e : i = k
  · subst e; simp [h]
  · rw [if_neg e, if_neg (fun h => e h.symm)]

theorem NInv.start (m : Nat) : NInv m (net0 (m : Int)) (fun v => v = 0) := by
  have hr : ∀ v, v ≤ m → gi (net0 (m : Int)).2 v = if v = 0 then 0 else -1 := fun v hv => by
    show gi (0 :: List.replicate (m : Int).toNat (-1)) v = _
    cases v with
    | zero => rfl
    | succ v =>
      unfold gi
      simp
      rw [List.getElem?_replicate, if_pos (by omega)]; rfl
  refine ⟨by simp [net0], by rw [hr 0 (by omega)]; rfl, fun v hv => ?_, fun v hv hd => ?_, fun j x hx => by simp [net0] at hx⟩
  · rw [hr v hv]
    by_cases e : v = 0
    · right; simp [e, net0]
    · left; simp [e]
  · rw [hr v hv]; simp [hd]

theorem NInv.step {m : Nat} {s : NS} {D : Nat → Prop} (h : NInv m s D) {l : Int} {x : Int × Int} (l0 : 2 ≤ l) (l1 : l ≤ 2 * (m : Int) + 1) (hx : x.1 < 0 ∨ (0 ≤ x.1 ∧ x.1 ≤ 2 * (s.1.length : Int) + 1 ∧ 0 ≤ x.2 ∧ x.2 ≤ 2 * (s.1.length : Int) + 1)) :
    NInv m (putN s l x) (fun v => D v ∨ v = (l / 2).toNat) := by
  have hv : (l / 2).toNat < s.2.length := by rw [h.size]; omega
  have hg := gi_set (x := 2 * ((s.1.length : Int) + 1)) hv
  refine ⟨by unfold putN; simp [h.size], ?_, fun v hv2 => ?_, fun v hv2 hd => ?_, fun j y hy => ?_⟩
  · show gi (s.2.set _ _) 0 = 0
    rw [hg 0, if_neg (by omega)]; exact h.zero
  · show gi (s.2.set _ _) v = -1 ∨ _
    have hlen : ((putN s l x).1.length : Int) = (s.1.length : Int) + 1 := by unfold putN; simp
    rw [hlen]
    show gi (s.2.set _ _) v = -1 ∨ (0 ≤ gi (s.2.set _ _) v ∧ gi (s.2.set _ _) v % 2 = 0 ∧ gi (s.2.set _ _) v ≤ _)
    rw [hg v]
    by_cases e : v = (l / 2).toNat
    · rw [if_pos e]; right; omega
    · rw [if_neg e]
      rcases h.val v hv2 with h1 | h1
      · exact .inl h1
      · right; omega
  · show 0 ≤ gi (s.2.set _ _) v
    rw [hg v]
    by_cases e : v = (l / 2).toNat
    · rw [if_pos e]; omega
    · rw [if_neg e]
      exact h.put v hv2 (hd.resolve_right e)
  · have hy' : (s.1 ++ [x])[j]? = some y := hy
    by_cases hj : j < s.1.length
    · rw [List.getElem?_append_left hj] at hy'
      exact h.node j y hy'
    · rw [List.getElem?_append_right (by omega)] at hy'
      have hj2 : j - s.1.length = 0 := by
        have := (List.getElem?_eq_some_iff.1 hy').1
        simp at this; omega
      rw [hj2] at hy'
      simp at hy'
      subst hy'
      have : j = s.1.length := by
        have := (List.getElem?_eq_some_iff.1 hy).1
        unfold putN at this
        simp at this
        omega
      rw [this]; exact hx

theorem NInv.mono {m : Nat} {s : NS} {D D' : Nat → Prop} (h : NInv m s D) (hd : ∀ v, v ≤ m → D' v → D v) : NInv m s D' :=
  ⟨h.size, h.zero, h.val, fun v hv hd' => h.put v hv (hd v hv hd'), h.node⟩

theorem ofL_ok {m : Nat} {s : NS} {D : Nat → Prop} (h : NInv m s D) {l : Int} (l0 : 0 ≤ l) (l1 : l ≤ 2 * (m : Int) + 1) (hd : D (l / 2).toNat) :
    0 ≤ gi s.2 (l / 2).toNat ∧ gi s.2 (l / 2).toNat % 2 = 0 ∧ ofN s.2 l = gi s.2 (l / 2).toNat + l % 2 ∧ 0 ≤ ofN s.2 l ∧ ofN s.2 l ≤ 2 * (s.1.length : Int) + 1 := by
  have h1 := h.put (l / 2).toNat (by omega) hd
  rcases h.val (l / 2).toNat (by omega) with h2 | h2
  · omega
  · unfold ofN
    split <;> omega

/-- a circuit with which nothing is wrong -/
structure GoodC (C : Circ) : Prop where
  rng : InRange C
  nd : C.owned.Nodup
  known : ∀ l, l ∈ C.used → knownB C.owned l = true
  ord : (ordO C.gates).length = C.gates.length

def MX (C : Circ) : Nat := C.max.toNat
theorem GoodC.mx {C : Circ} (h : GoodC C) : (MX C : Int) = C.max := by unfold MX; have := h.rng.max0; omega

theorem netI_inv {C : Circ} (h : GoodC C) : ∀ k, k ≤ C.ins.length → NInv (MX C) (netI C k) (fun v => v = 0 ∨ ∃ l, l ∈ C.ins.take k ∧ v = (l / 2).toNat)
  | 0, _ => by
    have := NInv.start (MX C)
    rw [h.mx] at this
    exact this.mono (fun v _ hd => by simpa using hd)
  | k + 1, hk => by
    have ih := netI_inv h k (by omega)
    rw [netI_succ (by omega)]
    have hm : gi C.ins k ∈ C.owned := by
      unfold Circ.owned
      refine List.mem_append.2 (.inl (List.mem_append.2 (.inl ?_)))
      unfold gi; rw [List.getElem?_eq_getElem (by omega)]; exact List.getElem_mem _
    have hr := h.rng.own _ hm
    have hmx := h.mx
    refine (ih.step (l := gi C.ins k) (x := (-1, 0)) (by omega) (by omega) (.inl (by decide))).mono (fun v _ hd => ?_)
    rcases hd with hd | ⟨l, hl, e⟩
    · exact .inl (.inl hd)
    · rw [take_gi (by omega)] at hl
      rcases List.mem_append.1 hl with hl | hl
      · exact .inl (.inr ⟨l, hl, e⟩)
      · simp at hl; subst hl; exact .inr e

theorem netL_inv {C : Circ} (h : GoodC C) : ∀ k, k ≤ C.lats.length → NInv (MX C) (netL C k) (fun v => v = 0 ∨ (∃ l, l ∈ C.ins ∧ v = (l / 2).toNat) ∨ ∃ l, l ∈ (C.lats.take k).map (fun x => x.1) ∧ v = (l / 2).toNat)
  | 0, _ => by
    rw [netL_zero]
    refine (netI_inv h C.ins.length (Nat.le_refl _)).mono (fun v _ hd => ?_)
    rw [List.take_length]
    rcases hd with hd | hd | ⟨l, hl, _⟩
    · exact .inl hd
    · exact .inr hd
    · simp at hl
  | k + 1, hk => by
    have ih := netL_inv h k (by omega)
    rw [netL_succ (by omega)]
    have hm : (g3 C.lats k).1 ∈ C.owned := by
      unfold Circ.owned
      exact List.mem_append.2 (.inl (List.mem_append.2 (.inr (List.mem_map.2 ⟨_, g3_mem (by omega), rfl⟩))))
    have hr := h.rng.own _ hm
    have hmx := h.mx
    refine (ih.step (l := (g3 C.lats k).1) (x := (-1, 0)) (by omega) (by omega) (.inl (by decide))).mono (fun v _ hd => ?_)
    rcases hd with hd | hd | ⟨l, hl, e⟩
    · exact .inl (.inl hd)
    · exact .inl (.inr (.inl hd))
    · rw [take_g3 (by omega), List.map_append] at hl
      rcases List.mem_append.1 hl with hl | hl
      · exact .inl (.inr (.inr ⟨l, hl, e⟩))
      · simp at hl; subst hl; exact .inr e

/-- the variables that are placed when k gates are -/
def DG (C : Circ) (k : Nat) (v : Nat) : Prop := v = 0 ∨ (∃ l, l ∈ C.ins ∧ v = (l / 2).toNat) ∨ (∃ l, l ∈ C.lats.map (fun x => x.1) ∧ v = (l / 2).toNat) ∨ ∃ i, i ∈ (ordO C.gates).take k ∧ v = ((g3 C.gates i).1 / 2).toNat

/-- the orders' partial runs -/
theorem ordFrom_take {G : List (Int × Int × Int)} : ∀ (f : Nat) {out : List Nat}, OrdAt G out → ∀ k, out.length ≤ k → k ≤ (ordFrom G f out).length → OrdAt G ((ordFrom G f out).take k) ∧ (k < (ordFrom G f out).length → nextO G ((ordFrom G f out).take k) = some (gno (ordFrom G f out) k))
  | 0, out, h, k, h1, h2 => by
    unfold ordFrom at h2 ⊢
    have : k = out.length := by omega
    subst this
    rw [List.take_length]
    exact ⟨h, fun h3 => by omega⟩
  | f + 1, out, h, k, h1, h2 => by
    unfold ordFrom at h2 ⊢
    cases hn : nextO G out with
    | none =>
      rw [hn] at h2
      simp only at h2 ⊢
      have : k = out.length := by omega
      subst this
      rw [List.take_length]
      exact ⟨h, fun h3 => by omega⟩
    | some i =>
      rw [hn] at h2
      simp only at h2 ⊢
      have hst := h.step hn
      have hpre : ∀ (f : Nat) (o : List Nat), ∃ t, ordFrom G f o = o ++ t := by
        intro f
        induction f with
        | zero => intro o; exact ⟨[], by simp [ordFrom]⟩
        | succ f ih =>
          intro o
          unfold ordFrom
          cases nextO G o with
          | none => exact ⟨[], by simp⟩
          | some j =>
            obtain ⟨t, ht⟩ := ih (o ++ [j])
            exact ⟨j :: t, by simp [ht]⟩
      obtain ⟨t, ht⟩ := hpre f (out ++ [i])
      by_cases hk : k = out.length
      · subst hk
        rw [ht, List.append_assoc, List.take_left']
        · refine ⟨h, fun _ => ?_⟩
          rw [hn]
          unfold gno
          simp
        · rfl
      · exact ordFrom_take f hst k (by simp; omega) h2

theorem ordO_take {G : List (Int × Int × Int)} {k : Nat} (h : k ≤ (ordO G).length) : OrdAt G ((ordO G).take k) ∧ (k < (ordO G).length → nextO G ((ordO G).take k) = some (gno (ordO G) k)) :=
  ordFrom_take G.length (OrdAt.start G) k (Nat.zero_le _) h

/-- what a gate in turn uses is placed -/
theorem pin_placed {C : Circ} (h : GoodC C) {k : Nat} (hk : k < (ordO C.gates).length) {l : Int} (hl : l ∈ C.used) (hw : waitsB C.gates ((ordO C.gates).take k) l = false) : DG C k (l / 2).toNat := by
  have hr := h.rng.use l hl
  have hn := h.known l hl
  unfold knownB at hn
  simp only [Bool.or_eq_true, decide_eq_true_eq, List.any_eq_true] at hn
  rcases hn with e | ⟨y, hy, e⟩
  · left; omega
  · unfold Circ.owned at hy
    rcases List.mem_append.1 hy with hy | hy
    · rcases List.mem_append.1 hy with hy | hy
      · exact .inr (.inl ⟨y, hy, by rw [e]⟩)
      · exact .inr (.inr (.inl ⟨y, hy, by rw [e]⟩))
    · obtain ⟨g, hg, rfl⟩ := List.mem_map.1 hy
      obtain ⟨i, hi⟩ := List.mem_iff_getElem?.1 hg
      have hil : i < C.gates.length := (List.getElem?_eq_some_iff.1 hi).1
      have hgi : g3 C.gates i = g := by unfold g3; rw [hi]; rfl
      refine .inr (.inr (.inr ⟨i, ?_, by rw [hgi, e]⟩))
      refine Classical.byContradiction fun hm => ?_
      have : waitsB C.gates ((ordO C.gates).take k) l = true := waitsB_iff.2 ⟨i, hil, hm, by rw [hgi]; exact e⟩
      rw [hw] at this; cases this

/-- the k-th gate in turn: its literals are placed -/
theorem turn_ok {C : Circ} (h : GoodC C) {k : Nat} (hk : k < (ordO C.gates).length) :
    gno (ordO C.gates) k < C.gates.length ∧ DG C k ((g3 C.gates (gno (ordO C.gates) k)).2.1 / 2).toNat ∧ DG C k ((g3 C.gates (gno (ordO C.gates) k)).2.2 / 2).toNat := by
  obtain ⟨_, h2⟩ := ordO_take (G := C.gates) (k := k) (by omega)
  have hn := h2 hk
  obtain ⟨hi, hr⟩ := nextO_some hn
  unfold readyB at hr
  simp only [Bool.and_eq_true, Bool.not_eq_true'] at hr
  exact ⟨hi, pin_placed h hk (gate_useA hi) hr.1.2, pin_placed h hk (gate_useB hi) hr.2⟩

theorem netG_inv {C : Circ} (h : GoodC C) : ∀ k, k ≤ (ordO C.gates).length → NInv (MX C) (netG C k) (DG C k)
  | 0, _ => by
    rw [netG_zero]
    refine (netL_inv h C.lats.length (Nat.le_refl _)).mono (fun v _ hd => ?_)
    rw [List.take_length]
    rcases hd with hd | hd | hd | ⟨i, hi, _⟩
    · exact .inl hd
    · exact .inr (.inl hd)
    · exact .inr (.inr hd)
    · simp at hi
  | k + 1, hk => by
    have ih := netG_inv h k (by omega)
    obtain ⟨hi, hA, hB⟩ := turn_ok h (k := k) (by omega)
    rw [netG_succ (by omega)]
    have hr := h.rng.own _ (gate_own hi)
    have hra := h.rng.use _ (gate_useA hi)
    have hrb := h.rng.use _ (gate_useB hi)
    have hmx := h.mx
    have qa := ofL_ok ih hra.1 (by omega) hA
    have qb := ofL_ok ih hrb.1 (by omega) hB
    refine (ih.step (l := (g3 C.gates (gno (ordO C.gates) k)).1) (by omega) (by omega) (.inr ⟨qa.2.2.2.1, qa.2.2.2.2, qb.2.2.2.1, qb.2.2.2.2⟩)).mono (fun v _ hd => ?_)
    rcases hd with hd | hd | hd | ⟨i, hi2, e⟩
    · exact .inl (.inl hd)
    · exact .inl (.inr (.inl hd))
    · exact .inl (.inr (.inr (.inl hd)))
    · rw [take_gno (by omega)] at hi2
      rcases List.mem_append.1 hi2 with hi2 | hi2
      · exact .inl (.inr (.inr (.inr ⟨i, hi2, e⟩)))
      · simp at hi2; subst hi2; exact .inr e

end Go.Proofs.YthconjhldjaldaaGreatDoor

/-
  append of a whole slice of structs: as a step of a region that draws its order, and of one that does not.
-/
namespace Go.Proofs.YthconjhldjaldaaGreatDoor
open Go.RowKit

theorem flat_ones : ∀ cs : List Value, (cs.map (fun c => [c])).flatten = cs
  | [] => rfl
  | a :: r => by rw [List.map_cons, List.flatten_cons, flat_ones r]; rfl

/-- a row of one-cell elements, as rows of one -/
theorem Own.rows {w : World} {base : Nat} {e : TypeId} {v : Value} {cs : List Value} (h : Own w base e v cs) : OwnK w base e 1 v (cs.map (fun c => [c])) := by
  refine ⟨?_, fun r hr => by obtain ⟨x, _, rfl⟩ := List.mem_map.1 hr; rfl⟩
  have e1 := flat_ones cs
  rw [List.length_map, e1]
  exact h

theorem OwnK.row {w : World} {base : Nat} {e : TypeId} {v : Value} {cs : List Value} (h : OwnK w base e 1 v (cs.map (fun c => [c]))) : Own w base e v cs := by
  have h1 := h.own
  have e1 := flat_ones cs
  rw [List.length_map, e1] at h1
  exact h1

end Go.Proofs.YthconjhldjaldaaGreatDoor

/-
  append of one-cell elements as a step of a region that draws its order.
-/
namespace Go.Proofs.YthconjhldjaldaaGreatDoor
open Go.RowKit

end Go.Proofs.YthconjhldjaldaaGreatDoor

/-
  latchetref02.Has; latchetref11: Owned, Used.
-/
namespace Go.Proofs.YthconjhldjaldaaGreatDoor
open Go.RowKit

end Go.Proofs.YthconjhldjaldaaGreatDoor

/-
  latchetref11.Used.
-/
namespace Go.Proofs.YthconjhldjaldaaGreatDoor
open Go.RowKit

end Go.Proofs.YthconjhldjaldaaGreatDoor

/-
  heap.swap, with the heap's own blocks as the frame. (Printed by mkhf.py out of HeapSwap.)
-/
namespace Go.Proofs.YthconjhldjaldaaGreatDoor
open Go.RowKit

/-- the heap's own blocks -/
def HB (h : Nat) (vs vt va : Value) (j : Nat) : Prop := j = h ∨ vs.ownBlock = some j ∨ vt.ownBlock = some j ∨ va.ownBlock = some j
/-- the same things stand in both -/
def Sub2 (T' T : Nat → Nat) (m : Nat) : Prop := Sub T' m T m ∧ Sub T m T' m
theorem Sub2.refl (T : Nat → Nat) (m : Nat) : Sub2 T T m := ⟨Sub.refl _ _, Sub.refl _ _⟩
theorem Sub2.trans {T1 T2 T3 : Nat → Nat} {m : Nat} (h : Sub2 T1 T2 m) (k : Sub2 T2 T3 m) : Sub2 T1 T3 m := ⟨h.1.trans k.1, k.2.trans h.2⟩
end Go.Proofs.YthconjhldjaldaaGreatDoor

/-
  heap.up: a thing rises.
-/
namespace Go.Proofs.YthconjhldjaldaaGreatDoor
open Go.RowKit

end Go.Proofs.YthconjhldjaldaaGreatDoor

/-
  heap.down: a thing sinks.
-/
namespace Go.Proofs.YthconjhldjaldaaGreatDoor
open Go.RowKit

theorem Ord.trans {A : Nat → Nat → Prop} (hA : Ord A) {a b c : Nat} (h1 : A a b) (h2 : A b c) : A a c := by
  apply Classical.byContradiction
  intro h
  exact hA.neg (hA.asym h2) h h1

/-- what the inner loop knows: f is the first of place i and those below it, ahead of k -/
structure Fst (A : Nat → Nat → Prop) (T : Nat → Nat) (m i f k : Nat) : Prop where
  lt : f < m
  at_ : f = i ∨ (0 < f ∧ (f - 1) / 2 = i ∧ A (T f) (T i))
  none : ∀ j, 0 < j → j < m → (j - 1) / 2 = i → j < k → ¬ A (T j) (T f)

theorem Fst.start {A : Nat → Nat → Prop} {T : Nat → Nat} {m i : Nat} (hi : i < m) : Fst A T m i i (2 * i + 1) :=
  ⟨hi, .inl rfl, fun j h0 hj h1 h2 => by omega⟩

end Go.Proofs.YthconjhldjaldaaGreatDoor

/-
  heap.Push.
-/
namespace Go.Proofs.YthconjhldjaldaaGreatDoor
open Go.RowKit

end Go.Proofs.YthconjhldjaldaaGreatDoor

/-
  heap.Pop.
-/
namespace Go.Proofs.YthconjhldjaldaaGreatDoor
open Go.RowKit

end Go.Proofs.YthconjhldjaldaaGreatDoor

/-
  A heap whose scores are all 0, as a set: what is popped is the least.
-/
namespace Go.Proofs.YthconjhldjaldaaGreatDoor
open Go.RowKit

theorem Inv.most {n m : Nat} {T : Nat → Nat} {Q : Nat → Int} (h : Inv n m T Q) : m ≤ n := by
  have hnd : ((List.range m).map T).Nodup := by
    rw [List.nodup_iff_pairwise_ne, List.pairwise_map]
    refine List.Pairwise.imp_of_mem ?_ (List.nodup_range (n := m))
    intro a b ha hb hne e
    exact hne (h.inj (List.mem_range.1 ha) (List.mem_range.1 hb) e)
  have := nodup_le n hnd (fun j hj => by
    obtain ⟨k, hk, rfl⟩ := List.mem_map.1 hj
    exact (h.here k (List.mem_range.1 hk)).1)
  simpa using this

section
variable {w w' : World} {base h n : Nat} {X M : Nat → Prop}

end

end Go.Proofs.YthconjhldjaldaaGreatDoor

/-
  Maps of the call's own from numbers to truths, and to numbers.
-/
namespace Go.Proofs.YthconjhldjaldaaGreatDoor
open Go.RowKit
open Go.Maps (Keyed)

def okInt (x : Int) : Prop := -9223372036854775808 ≤ x ∧ x ≤ 9223372036854775807
theorem okInt.wf {x : Int} (h : okInt x) : (Lit.int .i64 x).wf = true := by
  unfold okInt at h
  simp [Lit.wf, IntKind.min, IntKind.max, IntKind.signed, IntKind.bits]; omega
/-- block b is a map in which F tells what stands by each number -/
def IMB (w : World) (b n : Nat) (F : Int → Bool) : Prop :=
  ∃ D : DataW Unit, w.ownsMap Tryz.prog 3 (plainElem Tryz.prog 4) b n D ∧ Maps.IsMap D ∧ ∀ x, okInt x → D.atKey (.int .i64 x) (.lit (.bool false)) = .lit (.bool (F x))

theorem IMB.made (w : World) : IMB (w.alloc (.map #[] 0)) w.heap.size 0 (fun _ => false) :=
  ⟨.map [], World.ownsMap_made _ _ _ _, Maps.isMap_empty, fun x _ => by simp [DataW.atKey]⟩

theorem IMB.lt {w : World} {b n : Nat} {F : Int → Bool} (h : IMB w b n F) : b < w.heap.size := by
  obtain ⟨D, h, _⟩ := h
  exact h.lt

theorem IMB.kp {S : Nat → Prop} {w w' : World} {b n : Nat} {F : Int → Bool} (h : IMB w b n F) (k : Kp S w w') (hS : ¬ S b) : IMB w' b n F := by
  have hb := h.lt
  obtain ⟨D, ⟨es, clock, h1, h2⟩, h3⟩ := h
  exact ⟨D, ⟨es, clock, (k.block b hb hS).trans h1, h2⟩, h3⟩

/-- block b is a map in which F tells what stands by each number, if something does -/
def IMI (w : World) (b n : Nat) (F : Int → Option Int) : Prop :=
  ∃ D : DataW Unit, w.ownsMap Tryz.prog 3 (plainElem Tryz.prog 3) b n D ∧ Maps.IsMap D ∧ ∀ x, okInt x → D.atKey (.int .i64 x) (.lit (.int .i64 0)) = .lit (.int .i64 ((F x).getD 0)) ∧ Maps.has D (.int .i64 x) = (F x).isSome

theorem IMI.made (w : World) : IMI (w.alloc (.map #[] 0)) w.heap.size 0 (fun _ => none) :=
  ⟨.map [], World.ownsMap_made _ _ _ _, Maps.isMap_empty, fun x _ => ⟨by simp [DataW.atKey], rfl⟩⟩

theorem IMI.lt {w : World} {b n : Nat} {F : Int → Option Int} (h : IMI w b n F) : b < w.heap.size := by
  obtain ⟨D, h, _⟩ := h
  exact h.lt

theorem IMI.kp {S : Nat → Prop} {w w' : World} {b n : Nat} {F : Int → Option Int} (h : IMI w b n F) (k : Kp S w w') (hS : ¬ S b) : IMI w' b n F := by
  have hb := h.lt
  obtain ⟨D, ⟨es, clock, h1, h2⟩, h3⟩ := h
  exact ⟨D, ⟨es, clock, (k.block b hb hS).trans h1, h2⟩, h3⟩

end Go.Proofs.YthconjhldjaldaaGreatDoor

/-
  What circ.Order keeps in memory: the map of places, what is lacking, what is above, the heap, and the order so far.
-/
namespace Go.Proofs.YthconjhldjaldaaGreatDoor
open Go.RowKit

section
variable {w wr wr' : World} {bp gl ga h n np : Nat} {F : Int → Option Int} {L : Nat → Int} {R : Nat → Value} {A : Nat → List Nat} {X M : Nat → Prop} {vo : Value} {out : List Nat}

end

end Go.Proofs.YthconjhldjaldaaGreatDoor

/-
  circ.Order: the gates' places, in the document's order.
-/
namespace Go.Proofs.YthconjhldjaldaaGreatDoor
open Go.RowKit

end Go.Proofs.YthconjhldjaldaaGreatDoor

/-
  A region that draws its order, whose calls may make and turn memory of their own, and leave all old blocks alone:
  one walk, in the order of the text, in every world that keeps the old blocks.
-/
namespace Go.Proofs.YthconjhldjaldaaGreatDoor
open Go

end Go.Proofs.YthconjhldjaldaaGreatDoor

/-
  latchetref11: waits, Order.
-/
namespace Go.Proofs.YthconjhldjaldaaGreatDoor
open Go.RowKit

end Go.Proofs.YthconjhldjaldaaGreatDoor

/-
  A region that draws its order, whose operations up to a row of last ones load, compute, make memory of their own, or call what
  makes memory of its own: what each yields is told by a predicate that no new memory spoils. One proof an operation, no orders.
-/
namespace Go.Proofs.YthconjhldjaldaaGreatDoor
open Go Go.RowKit

def unl (listed : Array Bool) (i : Nat) : Bool := !listed.getD i false
def cntU (n : Nat) (listed : Array Bool) : Nat := (List.range n).countP (unl listed)

theorem cntU_succ (n : Nat) (listed : Array Bool) : cntU (n + 1) listed = cntU n listed + (if unl listed n = true then 1 else 0) := by
  unfold cntU
  rw [List.range_succ, List.countP_append]
  simp [List.countP_cons]

theorem unl_set_ne {listed : Array Bool} {i j : Nat} (h : j ≠ i) : unl (listed.setIfInBounds i true) j = unl listed j := by
  unfold unl
  simp only [Array.getD_eq_getD_getElem?, Array.getElem?_setIfInBounds]
  rw [if_neg (fun e => h e.symm)]

theorem cntU_far {listed : Array Bool} {i : Nat} : ∀ n, n ≤ i → cntU n (listed.setIfInBounds i true) = cntU n listed
  | 0, _ => rfl
  | n + 1, h => by rw [cntU_succ, cntU_succ, cntU_far n (by omega), unl_set_ne (by omega)]

theorem cntU_set {listed : Array Bool} {i : Nat} (hi : i < listed.size) (hu : listed.getD i false = false) : ∀ n, i < n → cntU n (listed.setIfInBounds i true) + 1 = cntU n listed
  | 0, h => by omega
  | n + 1, h => by
    rw [cntU_succ, cntU_succ]
    by_cases e : i = n
    · subst e
      rw [cntU_far i (Nat.le_refl _)]
      have h1 : unl (listed.setIfInBounds i true) i = false := by
        unfold unl
        simp [Array.getD_eq_getD_getElem?, hi]
      have h2 : unl listed i = true := by unfold unl; rw [hu]; rfl
      rw [h1, h2]
      simp
    · have := cntU_set hi hu n (by omega)
      rw [unl_set_ne (fun h => e h.symm)]
      omega

theorem least_of {R : Nat → Prop} (h : ∃ n, R n) : ∃ n, R n ∧ ∀ m, m < n → ¬ R m := by
  obtain ⟨n, hn⟩ := h
  induction n using Nat.strongRecOn with
  | _ n ih =>
    by_cases h : ∃ m, m < n ∧ R m
    · obtain ⟨m, hm, hr⟩ := h
      exact ih m hm hr
    · exact ⟨n, hn, fun m hm hr => h ⟨m, hm, hr⟩⟩

/-- on what an operation waits -/
def edgesOf (ops : Array Oper) (i : Nat) : List Nat := match ops[i]? with
  | none => []
  | some o => (o.after.toList.filter (Region.binds .any)).map (·.on)
def cloStep (ops : Array Oper) (l : List Nat) : List Nat := (List.range ops.size).filter (fun j => l.contains j || l.any (fun i => (edgesOf ops i).contains j))
def clo (ops : Array Oper) : Nat → List Nat → List Nat
  | 0, l => l
  | n + 1, l => clo ops n (cloStep ops l)

theorem clo_listed {ops : Array Oper} {listed : Nat → Prop} (hc : ∀ j, listed j → ∀ k, k ∈ edgesOf ops j → listed k) : ∀ (n : Nat) (l : List Nat), (∀ j, j ∈ l → listed j) → ∀ j, j ∈ clo ops n l → listed j
  | 0, _, h, j, hj => h j hj
  | n + 1, l, h, j, hj => by
    refine clo_listed hc n _ (fun k hk => ?_) j hj
    unfold cloStep at hk
    have h2 := (List.mem_filter.1 hk).2
    simp only [Bool.or_eq_true, List.contains_eq_mem, decide_eq_true_eq, List.any_eq_true] at h2
    rcases h2 with h2 | ⟨i, hi, h3⟩
    · exact h k h2
    · exact hc i (h i hi) k h3

theorem mem_edgesOf {ops : Array Oper} {i : Nat} {o : Oper} (ho : ops[i]? = some o) {k : Nat} : k ∈ edgesOf ops i ↔ ∃ e ∈ o.after, Region.binds .any e = true ∧ e.on = k := by
  unfold edgesOf
  rw [ho]
  simp only [List.mem_map, List.mem_filter, Array.mem_toList_iff]
  exact ⟨fun ⟨e, ⟨h1, h2⟩, h3⟩ => ⟨e, h1, h2, h3⟩, fun ⟨e, h1, h2, h3⟩ => ⟨e, ⟨h1, h2⟩, h3⟩⟩

/-- how the operations hang together: those of p come first -/
structure LooseOK (ops : Array Oper) (p : Nat → Bool) (N : Nat) : Prop where
  ng : ∀ (i : Nat) (o : Oper), ops[i]? = some o → o.guard = none
  low : ∀ (i : Nat) (o : Oper), ops[i]? = some o → p i = true → ∀ e ∈ o.after, Region.binds .any e = true → e.on < i ∧ p e.on = true
  dst : ∀ (i : Nat) (o : Oper), ops[i]? = some o → p i = true → ∃ d, o.dst = some d ∧ d < N
  inj : ∀ (i j : Nat) (o o' : Oper), ops[i]? = some o → ops[j]? = some o' → p i = true → p j = true → o.dst = o'.dst → i = j
  bar : ∀ (i : Nat) (o : Oper), ops[i]? = some o → p i = false → ∀ j, j < ops.size → p j = true → j ∈ clo ops 6 (edgesOf ops i)

def looseB (ops : Array Oper) (p : Nat → Bool) (N : Nat) : Bool :=
  (List.range ops.size).all fun i => match ops[i]? with
    | none => true
    | some o => o.guard.isNone && (if p i then
        o.after.all (fun e => !Region.binds .any e || (decide (e.on < i) && p e.on)) &&
          (match o.dst with
            | none => false
            | some d => decide (d < N) && (List.range ops.size).all (fun j => !p j || decide (j = i) || (match ops[j]? with | none => true | some o' => decide (o'.dst ≠ some d))))
      else (List.range ops.size).all (fun j => !p j || (clo ops 6 (edgesOf ops i)).contains j))

theorem looseB_spec {ops : Array Oper} {p : Nat → Bool} {N : Nat} (h : looseB ops p N = true) : LooseOK ops p N := by
  unfold looseB at h
  rw [List.all_eq_true] at h
  have get : ∀ (i : Nat) (o : Oper), ops[i]? = some o → o.guard.isNone = true ∧ (if p i then
        o.after.all (fun e => !Region.binds .any e || (decide (e.on < i) && p e.on)) &&
          (match o.dst with
            | none => false
            | some d => decide (d < N) && (List.range ops.size).all (fun j => !p j || decide (j = i) || (match ops[j]? with | none => true | some o' => decide (o'.dst ≠ some d))))
      else (List.range ops.size).all (fun j => !p j || (clo ops 6 (edgesOf ops i)).contains j)) = true := fun i o ho => by
    have hi : i < ops.size := (Array.getElem?_eq_some_iff.1 ho).1
    have := h i (List.mem_range.2 hi)
    simp only [ho, Bool.and_eq_true] at this
    exact this
  refine ⟨fun i o ho => ?_, fun i o ho hp e he hb => ?_, fun i o ho hp => ?_, fun i j o o' ho ho' hp hp' hd => ?_, fun i o ho hp j hj hpj => ?_⟩
  · have := (get i o ho).1
    simpa using this
  · have := (get i o ho).2
    rw [if_pos hp, Bool.and_eq_true] at this
    have h1 := this.1
    rw [Array.all_eq_true_iff_forall_mem] at h1
    have h2 := h1 e he
    rw [hb] at h2
    simpa using h2
  · have := (get i o ho).2
    rw [if_pos hp, Bool.and_eq_true] at this
    have h1 := this.2
    cases hd : o.dst with
    | none => rw [hd] at h1; cases h1
    | some d =>
      rw [hd] at h1
      simp only [Bool.and_eq_true, decide_eq_true_eq] at h1
      exact ⟨d, rfl, h1.1⟩
  · have := (get i o ho).2
    rw [if_pos hp, Bool.and_eq_true] at this
    have h1 := this.2
    cases hdd : o.dst with
    | none => rw [hdd] at h1; cases h1
    | some d =>
      rw [hdd] at h1
      simp only [Bool.and_eq_true] at h1
      have h2 := h1.2
      rw [List.all_eq_true] at h2
      have h3 := h2 j (List.mem_range.2 (Array.getElem?_eq_some_iff.1 ho').1)
      rw [hp', ho'] at h3
      simp only [Bool.not_true, Bool.false_or, Bool.or_eq_true, decide_eq_true_eq] at h3
      rcases h3 with h3 | h3
      · exact h3.symm
      · exact absurd (hd.symm.trans hdd) h3
  · have := (get i o ho).2
    rw [if_neg (by simp [hp]), List.all_eq_true] at this
    have h1 := this j (List.mem_range.2 hj)
    rw [hpj, Bool.not_true, Bool.false_or] at h1
    simpa using h1

/-- behind those that are listed -/
structure LInv (ops : Array Oper) (V : Nat → World → Value → Prop) (w0 : World) (a0 : Act) (L : Nat → Prop) (a : Act) (u : World) : Prop where
  kp : Kp (fun _ => False) w0 u
  val : ∀ (i : Nat) (o : Oper) (d : Nat), ops[i]? = some o → L i → o.dst = some d → V i u (a.tmps.getD d undef)
  off : ∀ s, (∀ (i : Nat) (o : Oper), ops[i]? = some o → L i → o.dst ≠ some s) → a.tmps.getD s undef = a0.tmps.getD s undef
  size : a.tmps.size = a0.tmps.size
  defers : a.defers = a0.defers

theorem put_getD_same {a : Act} {d : Nat} {v : Value} (h : d < a.tmps.size) : (a.put (some d) v).tmps.getD d undef = v := by
  show (a.tmps.setIfInBounds d v).getD d undef = v
  simp [Array.getD_eq_getD_getElem?, h]
theorem put_getD_ne {a : Act} {x : Option Tmp} {d : Nat} {v : Value} (h : x ≠ some d) : (a.put x v).tmps.getD d undef = a.tmps.getD d undef := by
  cases x with
  | none => rfl
  | some e =>
    show (a.tmps.setIfInBounds e v).getD d undef = _
    simp only [Array.getD_eq_getD_getElem?, Array.getElem?_setIfInBounds]
    rw [if_neg (fun h' => h (by rw [h']))]
theorem put_size (a : Act) (x : Option Tmp) (v : Value) : (a.put x v).tmps.size = a.tmps.size := by
  cases x with
  | none => rfl
  | some e => show (a.tmps.setIfInBounds e v).size = _; simp
theorem put_defers (a : Act) (x : Option Tmp) (v : Value) : (a.put x v).defers = a.defers := by cases x <;> rfl

theorem getD_true_false {listed : Array Bool} {i : Nat} (h : i < listed.size) : listed.getD i true = listed.getD i false := by
  simp [Array.getD_eq_getD_getElem?, Array.getElem?_eq_getElem h]

theorem listed_ext {a b : Array Bool} (hs : a.size = b.size) (h : ∀ i, i < a.size → a.getD i false = b.getD i false) : a = b := by
  apply Array.ext hs
  intro i h1 h2
  have := h i h1
  simpa [Array.getD_eq_getD_getElem?, Array.getElem?_eq_getElem h1, Array.getElem?_eq_getElem h2] using this

theorem wpAny_loose {P : Program} {ops : Array Oper} {Q : Exit → Act → World → Prop} {p : Nat → Bool} {V : Nat → World → Value → Prop} {w0 : World} {a0 : Act} {LP : Array Bool} (L : LooseOK ops p a0.tmps.size)
    (stable : ∀ i u u' v, Kp (fun _ => False) u u' → V i u v → V i u' v)
    (hstep : ∀ (i : Nat) (o : Oper), ops[i]? = some o → p i = true → ∀ a u, Kp (fun _ => False) w0 u →
      (∀ s, (∀ (j : Nat) (oj : Oper), ops[j]? = some oj → p j = true → oj.dst ≠ some s) → a.tmps.getD s undef = a0.tmps.getD s undef) →
      (∀ e ∈ o.after, Region.binds .any e = true → ∀ (oj : Oper) (d : Nat), ops[e.on]? = some oj → oj.dst = some d → V e.on u (a.tmps.getD d undef)) →
      o.wp P a u (fun a' u' => ∃ v, a' = a.put o.dst v ∧ Kp (fun _ => False) u u' ∧ V i u' v) Q)
    (hLs : LP.size = ops.size) (hLP : ∀ i, i < ops.size → LP.getD i false = p i)
    (hend : ∀ a u, LInv ops V w0 a0 (fun i => p i = true) a u → wpAny P .any ops Q (cntU ops.size LP) LP a u) :
    ∀ (fuel : Nat) (listed : Array Bool) (a : Act) (u : World), listed.size = ops.size → fuel = cntU ops.size listed → (∀ i, i < ops.size → listed.getD i false = true → p i = true) → (∀ j, listed.getD j false = true → ∀ k, k ∈ edgesOf ops j → listed.getD k false = true) →
      LInv ops V w0 a0 (fun i => listed.getD i false = true) a u → wpAny P .any ops Q fuel listed a u := by
  intro fuel
  induction fuel with
  | zero =>
    intro listed a u hs hf hl hcl hI
    have hall : ∀ i, i < ops.size → listed.getD i false = true := fun i hi => by
      by_cases h : listed.getD i false = true
      · exact h
      · have := cntU_set (listed := listed) (by omega) (by simpa using h) ops.size hi
        omega
    have e : listed = LP := listed_ext (by omega) (fun i hi => by
      rw [hall i (by omega), hLP i (by omega)]
      exact (hl i (by omega) (hall i (by omega))).symm)
    subst e
    have := hend a u ⟨hI.kp, fun i o d ho _ hd => hI.val i o d ho (hall i (Array.getElem?_eq_some_iff.1 ho).1) hd, fun s hs' => hI.off s (fun i o ho hi => hs' i o ho (hl i (Array.getElem?_eq_some_iff.1 ho).1 hi)), hI.size, hI.defers⟩
    rwa [← hf] at this
  | succ fuel ih =>
    intro listed a u hs hf hl hcl hI
    by_cases hall : ∀ i, i < ops.size → p i = true → listed.getD i false = true
    · have e : listed = LP := listed_ext (by omega) (fun i hi => by
        rw [hLP i (by omega)]
        by_cases h : p i = true
        · rw [h, hall i (by omega) h]
        · by_cases h2 : listed.getD i false = true
          · exact absurd (hl i (by omega) h2) h
          · have h3 : p i = false := by simpa using h
            have h4 : listed.getD i false = false := by simpa using h2
            rw [h3, h4])
      subst e
      have := hend a u ⟨hI.kp, fun i o d ho hp hd => hI.val i o d ho (hall i (Array.getElem?_eq_some_iff.1 ho).1 hp) hd, fun s hs' => hI.off s (fun i o ho hi => hs' i o ho (hl i (Array.getElem?_eq_some_iff.1 ho).1 hi)), hI.size, hI.defers⟩
      rwa [← hf] at this
    · obtain ⟨i0, ⟨hi0, hp0, hu0⟩, hmin⟩ := least_of (R := fun i => i < ops.size ∧ p i = true ∧ listed.getD i false = false) (by
        refine Classical.byContradiction fun hno => hall fun i hi hp => ?_
        by_cases h : listed.getD i false = true
        · exact h
        · exact absurd ⟨i, hi, hp, by simpa using h⟩ hno)
      have hready : i0 ∈ Region.ready .any ops listed := by
        rw [mem_ready]
        refine ⟨by rw [getD_true_false (by omega)]; exact hu0, ops[i0], Array.getElem?_eq_getElem hi0, fun e he hb => ?_⟩
        obtain ⟨h1, h2⟩ := L.low i0 _ (Array.getElem?_eq_getElem hi0) hp0 e he hb
        by_cases h : listed.getD e.on false = true
        · exact h
        · exact absurd ⟨by omega, h2, by simpa using h⟩ (hmin e.on h1)
      refine ⟨fun h => (by rw [h] at hready; cases hready), fun i hi => ?_⟩
      obtain ⟨h1, o, ho, hedge⟩ := mem_ready.1 hi
      have hisz : i < ops.size := (Array.getElem?_eq_some_iff.1 ho).1
      rw [getD_true_false (by omega)] at h1
      have hpi : p i = true := by
        by_cases h : p i = true
        · exact h
        · have h3 := clo_listed (listed := fun j => listed.getD j false = true) hcl 6 (edgesOf ops i) (fun k hk => by
            obtain ⟨e, he, hb, hon⟩ := (mem_edgesOf ho).1 hk
            have := hedge e he hb
            rwa [hon] at this) i0 (L.bar i o ho (by simpa using h) i0 hi0 hp0)
          rw [hu0] at h3
          cases h3
      obtain ⟨d, hd, hdN⟩ := L.dst i o ho hpi
      have hw : Region.wanted o (yielded ops a.tmps) = true := by simp [Region.wanted, L.ng i o ho]
      unfold wpOp
      rw [ho]
      simp only
      rw [if_pos hw]
      refine .inl (Oper.wp_mono ?_ (hstep i o ho hpi a u hI.kp (fun s hs' => hI.off s (fun j oj hoj hj => hs' j oj hoj (hl j (Array.getElem?_eq_some_iff.1 hoj).1 hj))) (fun e he hb oj d' hoj hd' => hI.val e.on oj d' hoj (hedge e he hb) hd')))
      rintro a' u' ⟨v, rfl, hK, hV⟩
      have hset : ∀ j, (listed.setIfInBounds i true).getD j false = true ↔ j = i ∨ listed.getD j false = true := fun j => by
        simp only [Array.getD_eq_getD_getElem?, Array.getElem?_setIfInBounds]
        by_cases e : i = j
        · subst e; simp [show i < listed.size by omega]
        · rw [if_neg e]
          exact ⟨.inr, fun h => h.resolve_left (fun h => e h.symm)⟩
      refine ih _ _ _ (by simp [hs]) ?_ (fun j hj hlj => ?_) (fun j hj k hk => ?_) ⟨hI.kp.trans hK (fun _ _ h => h), fun j oj dj hoj hj hdj => ?_, fun s hs' => ?_, by rw [put_size]; exact hI.size, by rw [put_defers]; exact hI.defers⟩
      · have := cntU_set (listed := listed) (by omega) h1 ops.size hisz
        omega
      · rcases (hset j).1 hlj with e | e
        · rw [e]; exact hpi
        · exact hl j hj e
      · rcases (hset j).1 hj with e | e
        · subst e
          obtain ⟨e, he, hb, hon⟩ := (mem_edgesOf ho).1 hk
          refine (hset k).2 (.inr ?_)
          rw [← hon]
          exact hedge e he hb
        · exact (hset k).2 (.inr (hcl j e k hk))
      · rcases (hset j).1 hj with e | e
        · subst e
          have : oj = o := by rw [hoj] at ho; exact Option.some.inj ho
          subst this
          rw [hdj] at hd
          have : dj = d := Option.some.inj hd
          subst this
          rw [hdj, put_getD_same (by rw [hI.size]; exact hdN)]
          exact hV
        · by_cases eji : j = i
          · subst eji
            rw [h1] at e; cases e
          · rw [put_getD_ne (fun h => eji (L.inj j i oj o hoj ho (hl j (Array.getElem?_eq_some_iff.1 hoj).1 e) hpi (by rw [hdj, h])))]
            exact stable j u u' _ hK (hI.val j oj dj hoj e hdj)
      · rw [put_getD_ne (hs' i o ho ((hset i).2 (.inl rfl)))]
        exact hI.off s (fun j oj hoj hj => hs' j oj hoj ((hset j).2 (.inr hj)))

/-- the region, whose last ones (not of p) stay to be walked -/
theorem wp_region_loose {P : Program} {id : Nat} {ops : Array Oper} {Q : Exit → Act → World → Prop} {p : Nat → Bool} {V : Nat → World → Value → Prop} {w : World} {a0 : Act} {LP : Array Bool} {K : Nat} (hm : P.follows .mixedOrders = true) (hB : looseB ops p a0.tmps.size = true)
    (stable : ∀ i u u' v, Kp (fun _ => False) u u' → V i u v → V i u' v)
    (hstep : ∀ (i : Nat) (o : Oper), ops[i]? = some o → p i = true → ∀ a u, Kp (fun _ => False) w u →
      (∀ s, (∀ (j : Nat) (oj : Oper), ops[j]? = some oj → p j = true → oj.dst ≠ some s) → a.tmps.getD s undef = a0.tmps.getD s undef) →
      (∀ e ∈ o.after, Region.binds .any e = true → ∀ (oj : Oper) (d : Nat), ops[e.on]? = some oj → oj.dst = some d → V e.on u (a.tmps.getD d undef)) →
      o.wp P a u (fun a' u' => ∃ v, a' = a.put o.dst v ∧ Kp (fun _ => False) u u' ∧ V i u' v) Q)
    (hLs : LP.size = ops.size) (hLP : ∀ i, i < ops.size → LP.getD i false = p i) (hK : cntU ops.size LP = K)
    (hend : ∀ a u, LInv ops V w a0 (fun i => p i = true) a u → wpAny P .any ops Q K LP a u) : (Code.region id ops true).wp P Q a0 w := by
  refine wp_region_any hm ?_
  refine wpAny_loose (looseB_spec hB) stable hstep hLs hLP (fun a u h => by rw [hK]; exact hend a u h) ops.size _ a0 _ (by simp) ?_ (fun i hi h => ?_) (fun i h => ?_) ⟨(Kp.refl (fun _ => False) w).drew, fun i o d ho h => ?_, fun _ _ => rfl, rfl, rfl⟩
  · have : ∀ n, cntU n (Array.replicate ops.size false) = n := fun n => by
      induction n with
      | zero => rfl
      | succ n ih => rw [cntU_succ, ih]; simp [unl, Array.getD_eq_getD_getElem?, Array.getElem?_replicate]; split <;> simp
    rw [this]
  · simp [Array.getD_eq_getD_getElem?, Array.getElem?_replicate] at h
    split at h <;> simp at h
  · simp [Array.getD_eq_getD_getElem?, Array.getElem?_replicate] at h
    split at h <;> simp at h
  · simp [Array.getD_eq_getD_getElem?, Array.getElem?_replicate] at h
    split at h <;> simp at h

def noDst (ops : Array Oper) (p : Nat → Bool) (s : Nat) : Bool := (List.range ops.size).all fun j => !p j || (match ops[j]? with | none => true | some o => decide (o.dst ≠ some s))
theorem noDst_spec {ops : Array Oper} {p : Nat → Bool} {s : Nat} (h : noDst ops p s = true) : ∀ (j : Nat) (oj : Oper), ops[j]? = some oj → p j = true → oj.dst ≠ some s := by
  intro j oj hj hp
  unfold noDst at h
  rw [List.all_eq_true] at h
  have := h j (List.mem_range.2 (Array.getElem?_eq_some_iff.1 hj).1)
  rw [hp, hj] at this
  simpa using this

theorem slot_at {a : Act} {s : Nat} {v : Value} (h : a.tmps.getD s undef = v) : a.tmps[s]?.getD undef = v := by rw [← Array.getD_eq_getD_getElem?]; exact h

/-- a frame, slot by slot -/
theorem act_list (a : Act) (n : Nat) (h : a.tmps.size = n) : a = ⟨((List.range n).map (fun s => a.tmps.getD s undef)).toArray, a.defers⟩ := by
  obtain ⟨t, ds⟩ := a
  simp only at h
  subst h
  simp only [Act.mk.injEq, and_true]
  apply Array.ext
  · simp
  · intro i h1 h2
    simp [Array.getD_eq_getD_getElem?, Array.getElem?_eq_getElem h1]

end Go.Proofs.YthconjhldjaldaaGreatDoor

/-
  What the operations of a loose region yield: lists of their own, copies of lists.
-/
namespace Go.Proofs.YthconjhldjaldaaGreatDoor
open Go Go.RowKit

/-- an empty list of the call's own -/
def LitV (t : TypeId) (u : World) (v : Value) : Prop := ∃ g, v = .slice (some ⟨g, 0, none⟩) 0 0 ∧ Blk u g #[] t
/-- a list of the call's own, of n elements that are the cells cs -/
def LitC (B : Nat) (cs : Array Value) (n : Nat) (t : TypeId) (u : World) (v : Value) : Prop := ∃ g, v = .slice (some ⟨g, 0, none⟩) n n ∧ Blk u g cs t ∧ B ≤ g
/-- a slice that reads ints -/
def SlI (L : List Int) (n : Nat) (u : World) (v : Value) : Prop := ∃ a c, v = .slice a n c ∧ SlOK a n c ∧ IntsAt u a L
/-- a slice that reads rows -/
def SlK (rows : List (List Value)) (n : Nat) (u : World) (v : Value) : Prop := ∃ a c, v = .slice a n c ∧ SlOK a n c ∧ RowAt u a rows.flatten
def EqV (x : Value) (_ : World) (v : Value) : Prop := v = x
def AnyV (_ : World) (_ : Value) : Prop := True

def Stable (V : World → Value → Prop) : Prop := ∀ u u' v, Kp (fun _ => False) u u' → V u v → V u' v
theorem LitV.st (t : TypeId) : Stable (LitV t) := fun _ _ _ k ⟨g, h1, h2⟩ => ⟨g, h1, h2.kp k (fun h => h)⟩
theorem LitC.st (B : Nat) (cs : Array Value) (n : Nat) (t : TypeId) : Stable (LitC B cs n t) := fun _ _ _ k ⟨g, h1, h2, h3⟩ => ⟨g, h1, h2.kp k (fun h => h), h3⟩
theorem SlI.st (L : List Int) (n : Nat) : Stable (SlI L n) := fun _ _ _ k ⟨a, c, h1, h2, h3⟩ => ⟨a, c, h1, h2, h3.kp k (fun _ _ h => h)⟩
theorem SlK.st (L : List (List Value)) (n : Nat) : Stable (SlK L n) := fun _ _ _ k ⟨a, c, h1, h2, h3⟩ => ⟨a, c, h1, h2, h3.kp k (fun _ _ h => h)⟩
theorem EqV.st (x : Value) : Stable (EqV x) := fun _ _ _ _ h => h
theorem AnyV.st : Stable AnyV := fun _ _ _ _ _ => trivial

/-- a slice that reads rows, in memory from B on -/
def SlF (B : Nat) (rows : List (List Value)) (n : Nat) (u : World) (v : Value) : Prop := ∃ a c, v = .slice a n c ∧ SlOK a n c ∧ RowAt u a rows.flatten ∧ (rows ≠ [] → ∀ p, a = some p → B ≤ p.block)
theorem SlF.st (B : Nat) (L : List (List Value)) (n : Nat) : Stable (SlF B L n) := fun _ _ _ k ⟨a, c, h1, h2, h3, h4⟩ => ⟨a, c, h1, h2, h3.kp k (fun _ _ h => h), h4⟩
theorem SlF.kp {B n : Nat} {rows : List (List Value)} {S : Nat → Prop} {u u' : World} {v : Value} (h : SlF B rows n u v) (k : Kp S u u') (hS : ∀ j, S j → j < B) : SlF B rows n u' v := by
  obtain ⟨a, c, h1, h2, h3, h4⟩ := h
  refine ⟨a, c, h1, h2, ?_, h4⟩
  by_cases hn : rows = []
  · subst hn; exact RowAt.nil _ _
  · exact h3.kp k (fun p hp hs => by have := h4 hn p hp; have := hS _ hs; omega)
theorem SlF.low {B B' n : Nat} {rows : List (List Value)} {u : World} {v : Value} (h : SlF B rows n u v) (hb : B' ≤ B) : SlF B' rows n u v := by
  obtain ⟨a, c, h1, h2, h3, h4⟩ := h
  exact ⟨a, c, h1, h2, h3, fun hn p hp => Nat.le_trans hb (h4 hn p hp)⟩
theorem SlF.row {B n : Nat} {rows : List (List Value)} {u : World} {a : Option Addr} {c : Nat} (h : SlF B rows n u (.slice a n c)) : SlOK a n c ∧ RowAt u a rows.flatten := by
  obtain ⟨a2, c2, e, h2, h3, _⟩ := h
  simp only [Value.slice.injEq, true_and] at e
  obtain ⟨rfl, rfl⟩ := e
  exact ⟨h2, h3⟩

/-- a list of predicates, by places -/
def atV (Vs : List (World → Value → Prop)) (i : Nat) : World → Value → Prop := Vs.getD i AnyV
theorem atV_st {Vs : List (World → Value → Prop)} (h : ∀ V ∈ Vs, Stable V) : ∀ i u u' v, Kp (fun _ => False) u u' → atV Vs i u v → atV Vs i u' v := by
  intro i u u' v k
  unfold atV
  rw [List.getD_eq_getElem?_getD]
  cases hi : Vs[i]? with
  | none => exact fun _ => trivial
  | some V => exact h V (List.mem_of_getElem? hi) u u' v k

/-- the last operations of a region, that stand in one order -/
theorem wpAny_tail {P : Program} {l : List Oper} {Q : Exit → Act → World → Prop} (n : Nat) {LP : Array Bool} {a : Act} {u : World} {K : Nat} (hK : (l.drop n).length = K) (hB : Region.seqB .any l.toArray K n LP = true) (h : wpList P l.toArray Q (l.drop n) a u) : wpAny P .any l.toArray Q K LP a u := by
  subst hK
  exact wpAny_of_seq (md := .any) (Q' := Q) (l.drop n) n LP a u (fun j => by simp [List.getElem?_drop]) hB h

def upTo (n i : Nat) : Bool := decide (i < n)

theorem upTo_spec {n m : Nat} {LP : Array Bool} (h : (List.range m).all (fun i => LP.getD i false == upTo n i) = true) : ∀ i, i < m → LP.getD i false = upTo n i := by
  intro i hi
  rw [List.all_eq_true] at h
  have := h i (List.mem_range.2 hi)
  simpa using this

/-- a call of what makes memory of its own -/
theorem lw_call {P : Program} {o : Oper} {a : Act} {u : World} {Q : Exit → Act → World → Prop} {V : World → Value → Prop} {f : FuncId} {args : Array Value} (h : (execOp a.eval o).run P u = .ok (.enter f args) u)
    (hc : Calls P f args u fun e u' => ∃ v, e = .returned v ∧ Kp (fun _ => False) u u' ∧ V u' v) : o.wp P a u (fun a' u' => ∃ v, a' = a.put o.dst v ∧ Kp (fun _ => False) u u' ∧ V u' v) Q := by
  unfold Oper.wp
  rw [h]
  refine hc.mono ?_
  rintro e u' ⟨v, rfl, hK, hV⟩
  exact ⟨v, rfl, hK, hV⟩

theorem lw_value {P : Program} {o : Oper} {a : Act} {u u' : World} {Q : Exit → Act → World → Prop} {V : World → Value → Prop} {v : Value} (h : (execOp a.eval o).run P u = .ok (.value v) u') (hK : Kp (fun _ => False) u u') (hV : V u' v) :
    o.wp P a u (fun a' u' => ∃ v, a' = a.put o.dst v ∧ Kp (fun _ => False) u u' ∧ V u' v) Q := by
  unfold Oper.wp
  rw [h]
  exact ⟨v, rfl, hK, hV⟩

end Go.Proofs.YthconjhldjaldaaGreatDoor

/-
  A net on the way, in memory: its nodes, and where its circuit's variables are.
-/
namespace Go.Proofs.YthconjhldjaldaaGreatDoor
open Go.RowKit

/-- a node as cells -/
def pr2 (x : Int × Int) : List Value := [.int .i64 x.1, .int .i64 x.2]
theorem pr2_len (L : List (Int × Int)) : ∀ r ∈ L.map pr2, r.length = 2 := fun r hr => by obtain ⟨x, _, rfl⟩ := List.mem_map.1 hr; rfl
theorem pr2_one (x : Int × Int) : ∀ u ∈ pr2 x, u.oneCell' = true := fun u hu => by
  unfold pr2 at hu
  simp at hu
  rcases hu with rfl | rfl <;> rfl

theorem iv_at {l : List Int} {j : Nat} (h : j < l.length) : (iv l)[j]? = some (.int .i64 (gi l j)) := by
  unfold iv gi
  rw [List.getElem?_map, List.getElem?_eq_getElem h]; rfl

theorem iv_set (l : List Int) (j : Nat) (x : Int) : (iv l).set j (.int .i64 x) = iv (l.set j x) := by
  unfold iv; rw [List.map_set]

section
variable {V : CV} {C : Circ} {w wr wr' w2 : World} {s : NS} {v4 v5 v' : Value}

end

end Go.Proofs.YthconjhldjaldaaGreatDoor

/-
  What a net's variables are; latchetref07.Of.
-/
namespace Go.Proofs.YthconjhldjaldaaGreatDoor
open Go.RowKit

def vb (l : List Bool) (i : Nat) : Bool := l[i]?.getD false
def bv (l : List Bool) : List Value := l.map Value.bool
theorem bv_length (l : List Bool) : (bv l).length = l.length := List.length_map ..
theorem bv_append (l r : List Bool) : bv (l ++ r) = bv l ++ bv r := List.map_append
theorem bv_at {l : List Bool} {i : Nat} (h : i < l.length) : (bv l)[i]? = some (.bool (vb l i)) := by
  unfold bv vb
  rw [List.getElem?_map, List.getElem?_eq_getElem h]; rfl
theorem vb_far {l : List Bool} {i : Nat} (h : l.length ≤ i) : vb l i = false := by unfold vb; rw [List.getElem?_eq_none h]; rfl
def litN (vals : List Bool) (l : Int) : Bool := vb vals (l / 2).toNat != decide (l % 2 = 1)
def stepV (ins : List Bool) (s : List Bool × Nat) (x : Int × Int) : List Bool × Nat := if x.1 < 0 then (s.1 ++ [vb ins s.2], s.2 + 1) else (s.1 ++ [litN s.1 x.1 && litN s.1 x.2], s.2)
def valsK (N : List (Int × Int)) (ins : List Bool) (k : Nat) : List Bool × Nat := (N.take k).foldl (stepV ins) ([false], 0)
def valsOf (N : List (Int × Int)) (ins : List Bool) : List Bool := (valsK N ins N.length).1
def g2 (N : List (Int × Int)) (k : Nat) : Int × Int := N[k]?.getD (0, 0)
theorem take_g2 {N : List (Int × Int)} {q : Nat} (h : q < N.length) : N.take (q + 1) = N.take q ++ [g2 N q] := by
  rw [List.take_succ_eq_append_getElem h]
  unfold g2
  rw [List.getElem?_eq_getElem h]; rfl
theorem valsK_succ {N : List (Int × Int)} {ins : List Bool} {k : Nat} (h : k < N.length) : valsK N ins (k + 1) = stepV ins (valsK N ins k) (g2 N k) := by
  unfold valsK; rw [take_g2 h, List.foldl_append]; rfl
theorem valsK_len {N : List (Int × Int)} {ins : List Bool} : ∀ k, k ≤ N.length → (valsK N ins k).1.length = k + 1
  | 0, _ => rfl
  | k + 1, h => by
    have ih := valsK_len (N := N) (ins := ins) k (by omega)
    rw [valsK_succ (by omega)]
    unfold stepV
    split <;> simp [ih]
theorem valsK_cnt {N : List (Int × Int)} {ins : List Bool} : ∀ k, k ≤ N.length → (valsK N ins k).2 ≤ k
  | 0, _ => Nat.le_refl _
  | k + 1, h => by
    have ih := valsK_cnt (N := N) (ins := ins) k (by omega)
    rw [valsK_succ (by omega)]
    unfold stepV
    split <;> simp <;> omega
theorem valsOf_len (N : List (Int × Int)) (ins : List Bool) : (valsOf N ins).length = N.length + 1 := valsK_len _ (Nat.le_refl _)

/-- a net whose nodes stand on those ahead of them -/
def GoodN (N : List (Int × Int)) : Prop := ∀ j, j < N.length → (g2 N j).1 < 0 ∨ (0 ≤ (g2 N j).1 ∧ (g2 N j).1 ≤ 2 * (j : Int) + 1 ∧ 0 ≤ (g2 N j).2 ∧ (g2 N j).2 ≤ 2 * (j : Int) + 1)
theorem GoodC.net {C : Circ} (h : GoodC C) : GoodN (netOf C).1 := fun j hj => by
  have hi := netG_inv h (ordO C.gates).length (Nat.le_refl _)
  refine hi.node j (g2 (netOf C).1 j) ?_
  show (netOf C).1[j]? = _
  unfold g2
  rw [List.getElem?_eq_getElem hj]; rfl
theorem pr2_at {N : List (Int × Int)} {k : Nat} (h : k < N.length) : (N.map pr2)[k]? = some (pr2 (g2 N k)) := by
  rw [List.getElem?_map, List.getElem?_eq_getElem h]; unfold g2; rw [List.getElem?_eq_getElem h]; rfl
theorem pr2_cells {w : World} {a : Option Addr} {N : List (Int × Int)} (h : RowAt w a (N.map pr2).flatten) {k : Nat} (hk : k < N.length) :
    ∃ b off, a = some ⟨b, off, none⟩ ∧ w.cell? ⟨b, off + k * 2, none⟩ = some (.int .i64 (g2 N k).1) ∧ w.cell? ⟨b, off + k * 2 + 1, none⟩ = some (.int .i64 (g2 N k).2) := by
  obtain ⟨b, off, e0, h0⟩ := h.cellAt (pr2_len N) (j := k) (i := 0) (pr2_at hk) rfl
  obtain ⟨b1, off1, e1, h1⟩ := h.cellAt (pr2_len N) (j := k) (i := 1) (pr2_at hk) rfl
  obtain ⟨rfl, rfl⟩ : b = b1 ∧ off = off1 := by rw [e0] at e1; simpa using e1
  exact ⟨b, off, e0, h0, h1⟩

/-- latchetref07.Of -/
theorem ref07_Of (a : Option Addr) (n c : Nat) (vals : List Bool) (l : Int) (w : World) (hr : RowAt w a (bv vals)) (hn : vals.length = n) (hm : n ≤ 100000000) (l0 : 0 ≤ l) (l1 : (l / 2).toNat < n) :
    Calls Tryz.prog 23 #[.slice a n c, .int .i64 l] w fun e w' => e = .returned (.bool (litN vals l)) ∧ w = w' := by
  obtain ⟨q, hq⟩ : ∃ q : Nat, (l / 2).toNat = q := ⟨_, rfl⟩
  have hd : l / 2 = (q : Int) := by omega
  have hl9 : l ≤ 200000002 := by omega
  obtain ⟨r, hr0⟩ : ∃ r, litN vals l = r := ⟨_, rfl⟩
  rw [hr0]
  unfold litN at hr0
  rw [hq] at l1 hr0
  obtain ⟨b, off, rfl, hcell⟩ := hr q _ (bv_at (by omega))
  obtain ⟨x, hx⟩ : ∃ x, vb vals q = x := ⟨_, rfl⟩
  rw [hx] at hcell hr0
  have q0 : (0 : Int) ≤ (q : Int) := by omega
  have q1 : (q : Int) < (n : Int) := by omega
  clear hr hq hn hx
  have HR := Lib.hid hr0
  clear hr0
  by_cases e : l % 2 = 1
  · have e1 : (l % 2 == 1) = true := by simp [e]
    have HE := Lib.hid e
    clear e
    go_enter Tryz.func23, Tryz.ntmps23
    go_wp2_with fail
    go_ret
    refine ⟨?_, rfl⟩
    have := HR.out
    rw [decide_eq_true HE.out] at this
    rw [← this]; cases x <;> rfl
  · have e1 : (l % 2 == 1) = false := by simp [e]
    have HE := Lib.hid e
    clear e
    go_enter Tryz.func23, Tryz.ntmps23
    go_wp2_with fail
    go_ret
    refine ⟨?_, rfl⟩
    have := HR.out
    rw [decide_eq_false HE.out] at this
    rw [← this]; cases x <;> rfl

end Go.Proofs.YthconjhldjaldaaGreatDoor

/-
  What gates and clauses say of values, step by step. No program in sight.
-/
namespace Go.Proofs.YthconjhldjaldaaGreatDoor
open Go.RowKit

/-- the inverse's literal -/
def ng (x : Int) : Int := if x % 2 = 1 then x - 1 else x + 1
/-- a value's inverse: 0 no, 1 yes, 2 open -/
def flp (v : Int) : Int := if v = 0 then 1 else if v = 1 then 0 else 2
/-- a literal's value -/
def vlit (V : List Int) (x : Int) : Int := if x % 2 = 1 then flp (gi V (x / 2).toNat) else gi V (x / 2).toNat
/-- a literal is so -/
def vset (V : List Int) (x : Int) : List Int := V.set (x / 2).toNat (if x % 2 = 1 then 0 else 1)

theorem ng_var {x : Int} : ng x / 2 = x / 2 := by unfold ng; split <;> omega
/-- values of n variables and of the variable 0, which is no -/
structure TV (n : Nat) (V : List Int) : Prop where
  len : V.length = n + 1
  zero : gi V 0 = 0
  all : ∀ k, k ≤ n → gi V k = 0 ∨ gi V k = 1 ∨ gi V k = 2

/-- a literal of n variables -/
def KnL (n : Nat) (x : Int) : Prop := 0 ≤ x ∧ x ≤ 2 * (n : Int) + 1
def KnC (n : Nat) (c : List Int) : Prop := ∀ x ∈ c, KnL n x
theorem KnL.ng {n : Nat} {x : Int} (h : KnL n x) : KnL n (ng x) := by unfold KnL Go.Proofs.YthconjhldjaldaaGreatDoor.ng at *; split <;> omega
theorem KnL.var {n : Nat} {x : Int} (h : KnL n x) : (x / 2).toNat ≤ n := by unfold KnL at h; omega

theorem flp_flp {v : Int} (h : v = 0 ∨ v = 1 ∨ v = 2) : flp (flp v) = v := by rcases h with rfl | rfl | rfl <;> rfl
theorem TV.vlit {n : Nat} {V : List Int} (h : TV n V) {x : Int} (hx : KnL n x) : vlit V x = 0 ∨ vlit V x = 1 ∨ vlit V x = 2 := by
  unfold Go.Proofs.YthconjhldjaldaaGreatDoor.vlit
  rcases h.all _ hx.var with e | e | e <;> rw [e] <;> split <;> decide
theorem vlit_ng {n : Nat} {V : List Int} (h : TV n V) {x : Int} (hx : KnL n x) : vlit V (ng x) = flp (vlit V x) := by
  unfold vlit
  rw [ng_var]
  by_cases e : x % 2 = 1
  · rw [if_pos e, if_neg (by unfold ng; rw [if_pos e]; omega), flp_flp (h.all _ hx.var)]
  · rw [if_neg e, if_pos (by unfold ng; rw [if_neg e]; omega)]
theorem vlit_one {n : Nat} {V : List Int} (h : TV n V) : vlit V 1 = 1 := by unfold vlit; rw [if_pos (by decide)]; simp [h.zero, flp]
theorem vlit_zero {n : Nat} {V : List Int} (h : TV n V) : vlit V 0 = 0 := by unfold vlit; rw [if_neg (by decide)]; simp [h.zero]

theorem gi_put (V : List Int) (i k : Nat) (x : Int) (h : i < V.length) : gi (V.set i x) k = if k = i then x else gi V k := by
  unfold gi
  by_cases e : i = k
  · subst e
    rw [List.getElem?_set_self h, if_pos rfl]; rfl
  · rw [List.getElem?_set_ne e, if_neg (fun q => e q.symm)]

theorem vset_len (V : List Int) (x : Int) : (vset V x).length = V.length := List.length_set ..
theorem TV.set {n : Nat} {V : List Int} (h : TV n V) {x : Int} (hx : KnL n x) (h2 : 2 ≤ x) : TV n (vset V x) := by
  have hv := hx.var
  have hl := h.len
  refine ⟨by rw [vset_len]; exact hl, ?_, fun k hk => ?_⟩
  · unfold vset
    rw [gi_put _ _ _ _ (by omega), if_neg (by omega)]
    exact h.zero
  · unfold vset
    rw [gi_put _ _ _ _ (by omega)]
    split
    · split
      · exact .inl rfl
      · exact .inr (.inl rfl)
    · exact h.all k hk
theorem vlit_set {n : Nat} {V : List Int} (h : TV n V) {x : Int} (hx : KnL n x) {y : Int} (hy : KnL n y) : vlit (vset V x) y = if y = x then 1 else if y = ng x then 0 else vlit V y := by
  have hv := hx.var
  have hl := h.len
  unfold KnL at hx hy
  by_cases e : y / 2 = x / 2
  · unfold vlit vset
    rw [gi_put _ _ _ _ (by omega), e, if_pos rfl]
    by_cases e1 : y = x
    · rw [if_pos e1, e1]
      split <;> rfl
    · have e2 : y = ng x := by unfold ng; split <;> omega
      rw [if_neg e1, if_pos e2, e2]
      unfold ng
      split <;> split <;> first | rfl | omega
  · rw [if_neg (fun q => e (by rw [q])), if_neg (fun q => e (by rw [q, ng_var]))]
    unfold vlit vset
    rw [gi_put _ _ _ _ (by omega), if_neg (show ¬ (y / 2).toNat = (x / 2).toNat by omega)]

/-- what some clauses say of literals, step by step -/
inductive UDer (K : List (List Int)) : Int → Prop
  | one : UDer K 1
  | unit (c : List Int) (l : Int) : c ∈ K → l ∈ c → (∀ x ∈ c, x ≠ l → UDer K (ng x)) → UDer K l
/-- .. that a clause is Zero -/
def UConf (K : List (List Int)) : Prop := ∃ c ∈ K, ∀ x ∈ c, UDer K (ng x)
theorem UDer.mono {K L : List (List Int)} (hs : ∀ c ∈ K, c ∈ L) {x : Int} (h : UDer K x) : UDer L x := by
  induction h with
  | one => exact .one
  | unit c l hc hl _ ih => exact .unit c l (hs c hc) hl ih
theorem UConf.mono {K L : List (List Int)} (hs : ∀ c ∈ K, c ∈ L) (h : UConf K) : UConf L := by
  obtain ⟨c, hc, h⟩ := h
  exact ⟨c, hs c hc, fun x hx => (h x hx).mono hs⟩
theorem UConf.congr {K L : List (List Int)} (hs : ∀ c, c ∈ K ↔ c ∈ L) : UConf K ↔ UConf L := ⟨UConf.mono fun c => (hs c).1, UConf.mono fun c => (hs c).2⟩

/-- all that is set was said -/
def Told (n : Nat) (V : List Int) (K : List (List Int)) : Prop := ∀ x, KnL n x → vlit V x = 1 → UDer K x
/-- a clause says no more -/
def Done (V : List Int) (c : List Int) : Prop := (∃ x ∈ c, vlit V x = 1) ∨ ∃ x ∈ c, ∃ y ∈ c, x ≠ y ∧ vlit V x = 2 ∧ vlit V y = 2
/-- a clause that is Zero -/
def AllNo (V : List Int) (c : List Int) : Prop := ∀ x ∈ c, vlit V x = 0
/-- a clause of which one literal is left -/
def OneL (V : List Int) (c : List Int) (l : Int) : Prop := l ∈ c ∧ vlit V l = 2 ∧ ∀ x ∈ c, x ≠ l → vlit V x = 0

theorem no_ng {n : Nat} {V : List Int} (h : TV n V) {x : Int} (hx : KnL n x) (e : vlit V x = 0) : vlit V (ng x) = 1 := by rw [vlit_ng h hx, e]; rfl
theorem ng_no {n : Nat} {V : List Int} (h : TV n V) {x : Int} (hx : KnL n x) (e : vlit V (ng x) = 1) : vlit V x = 0 := by
  rw [vlit_ng h hx] at e
  rcases h.vlit hx with q | q | q <;> rw [q] at e <;> first | exact q | exact absurd e (by decide)

theorem Told.conf {n : Nat} {V : List Int} {K : List (List Int)} (h : Told n V K) (hv : TV n V) {c : List Int} (hc : c ∈ K) (hk : KnC n c) (hz : AllNo V c) : UConf K :=
  ⟨c, hc, fun x hx => h _ (hk x hx).ng (no_ng hv (hk x hx) (hz x hx))⟩
theorem Told.set {n : Nat} {V : List Int} {K : List (List Int)} (h : Told n V K) (hv : TV n V) {c : List Int} (hc : c ∈ K) (hk : KnC n c) {l : Int} (hl : OneL V c l) : Told n (vset V l) K := by
  intro x hx e
  obtain ⟨h1, h2, h3⟩ := hl
  rw [vlit_set hv (hk l h1) hx] at e
  by_cases e1 : x = l
  · subst e1
    exact .unit c x hc h1 fun y hy hn => h _ (hk y hy).ng (no_ng hv (hk y hy) (h3 y hy hn))
  · rw [if_neg e1] at e
    by_cases e2 : x = ng l
    · rw [if_pos e2] at e; exact absurd e (by decide)
    · rw [if_neg e2] at e; exact h x hx e
theorem Done.all {n : Nat} {V : List Int} {K : List (List Int)} (hv : TV n V) (hk : ∀ c ∈ K, KnC n c) (hd : ∀ c ∈ K, Done V c) {x : Int} (h : UDer K x) : KnL n x ∧ vlit V x = 1 := by
  induction h with
  | one => exact ⟨⟨by decide, by omega⟩, vlit_one hv⟩
  | unit c l hc hl _ ih =>
    have hkc := hk c hc
    refine ⟨hkc l hl, ?_⟩
    have no : ∀ y ∈ c, y ≠ l → vlit V y = 0 := fun y hy hn => ng_no hv (hkc y hy) (ih y hy hn).2
    rcases hd c hc with ⟨y, hy, e⟩ | ⟨y, hy, z, hz, hyz, e1, e2⟩
    · by_cases q : y = l
      · rw [← q]; exact e
      · rw [no y hy q] at e; exact absurd e (by decide)
    · by_cases q : y = l
      · have : z ≠ l := fun q2 => hyz (q.trans q2.symm)
        rw [no z hz this] at e2; exact absurd e2 (by decide)
      · rw [no y hy q] at e1; exact absurd e1 (by decide)
theorem Done.no_conf {n : Nat} {V : List Int} {K : List (List Int)} (hv : TV n V) (hk : ∀ c ∈ K, KnC n c) (hd : ∀ c ∈ K, Done V c) : ¬ UConf K := by
  rintro ⟨c, hc, h⟩
  have no : ∀ y ∈ c, vlit V y = 0 := fun y hy => ng_no hv (hk c hc y hy) (Done.all hv hk hd (h y hy)).2
  rcases hd c hc with ⟨y, hy, e⟩ | ⟨y, hy, z, hz, hyz, e1, e2⟩
  · rw [no y hy] at e; exact absurd e (by decide)
  · rw [no y hy] at e1; exact absurd e1 (by decide)

/-- a clause is Zero, one is left, or it says no more -/
theorem clause_ways {n : Nat} {V : List Int} (hv : TV n V) {c : List Int} (hk : KnC n c) : AllNo V c ∨ (∃ l, OneL V c l) ∨ Done V c := by
  by_cases h1 : ∃ x ∈ c, vlit V x = 1
  · exact .inr (.inr (.inl h1))
  · by_cases h2 : ∃ x ∈ c, vlit V x = 2
    · obtain ⟨l, hl, e⟩ := h2
      by_cases h3 : ∃ y ∈ c, l ≠ y ∧ vlit V y = 2
      · obtain ⟨y, hy, hn, e2⟩ := h3
        exact .inr (.inr (.inr ⟨l, hl, y, hy, hn, e, e2⟩))
      · refine .inr (.inl ⟨l, hl, e, fun x hx hn => ?_⟩)
        rcases hv.vlit (hk x hx) with q | q | q
        · exact q
        · exact absurd ⟨x, hx, q⟩ h1
        · exact absurd ⟨x, hx, fun q2 => hn q2.symm, q⟩ h3
    · refine .inl fun x hx => ?_
      rcases hv.vlit (hk x hx) with q | q | q
      · exact q
      · exact absurd ⟨x, hx, q⟩ h1
      · exact absurd ⟨x, hx, q⟩ h2
theorem OneL.uniq {V : List Int} {c : List Int} {l m : Int} (h : OneL V c l) (h' : OneL V c m) : l = m := by
  by_cases e : l = m
  · exact e
  · have := h'.2.2 l h.1 e
    rw [h.2.1] at this
    exact absurd this (by decide)

/-- the clauses of a gate -/
def gcl (o a b : Int) (k : Nat) : List Int := if k = 0 then [o + 1, a] else if k = 1 then [o + 1, b] else [o, ng a, ng b]
def gatesK (N : List (Int × Int)) : Nat → List (List Int)
  | 0 => []
  | k + 1 => gatesK N k ++ (if (g2 N k).1 < 0 then [] else [gcl (2 * (k : Int) + 2) (g2 N k).1 (g2 N k).2 0, gcl (2 * (k : Int) + 2) (g2 N k).1 (g2 N k).2 1, gcl (2 * (k : Int) + 2) (g2 N k).1 (g2 N k).2 2])
def gatesOf (N : List (Int × Int)) : List (List Int) := gatesK N N.length
theorem gatesK_mem {N : List (Int × Int)} {c : List Int} : ∀ k, c ∈ gatesK N k ↔ ∃ j, j < k ∧ 0 ≤ (g2 N j).1 ∧ ∃ i, i < 3 ∧ c = gcl (2 * (j : Int) + 2) (g2 N j).1 (g2 N j).2 i
  | 0 => by
    constructor
    · intro h; cases h
    · rintro ⟨j, h, _⟩; omega
  | k + 1 => by
    rw [gatesK, List.mem_append, gatesK_mem k]
    constructor
    · rintro (⟨j, hj, h⟩ | h)
      · exact ⟨j, by omega, h⟩
      · by_cases e : (g2 N k).1 < 0
        · rw [if_pos e] at h; cases h
        · rw [if_neg e] at h
          simp only [List.mem_cons, List.not_mem_nil, or_false] at h
          rcases h with rfl | rfl | rfl
          · exact ⟨k, by omega, by omega, 0, by omega, rfl⟩
          · exact ⟨k, by omega, by omega, 1, by omega, rfl⟩
          · exact ⟨k, by omega, by omega, 2, by omega, rfl⟩
    · rintro ⟨j, hj, h0, i, hi, rfl⟩
      by_cases e : j < k
      · exact .inl ⟨j, e, h0, i, hi, rfl⟩
      · have : j = k := by omega
        subst this
        right
        rw [if_neg (by omega)]
        have : i = 0 ∨ i = 1 ∨ i = 2 := by omega
        rcases this with rfl | rfl | rfl <;> simp
theorem gates_mem {N : List (Int × Int)} {c : List Int} : c ∈ gatesOf N ↔ ∃ j, j < N.length ∧ 0 ≤ (g2 N j).1 ∧ ∃ i, i < 3 ∧ c = gcl (2 * (j : Int) + 2) (g2 N j).1 (g2 N j).2 i := gatesK_mem _
theorem gcl_kn {N : List (Int × Int)} (hN : GoodN N) {j : Nat} (hj : j < N.length) (h0 : 0 ≤ (g2 N j).1) (i : Nat) : KnC N.length (gcl (2 * (j : Int) + 2) (g2 N j).1 (g2 N j).2 i) := by
  have h := (hN j hj).resolve_left (by omega)
  have ha : KnL N.length (g2 N j).1 := ⟨by omega, by omega⟩
  have hb : KnL N.length (g2 N j).2 := ⟨by omega, by omega⟩
  intro x hx
  unfold gcl at hx
  split at hx
  · simp at hx; rcases hx with rfl | rfl
    · unfold KnL; omega
    · exact ha
  · split at hx
    · simp at hx; rcases hx with rfl | rfl
      · unfold KnL; omega
      · exact hb
    · simp at hx; rcases hx with rfl | rfl | rfl
      · unfold KnL; omega
      · exact ha.ng
      · exact hb.ng
theorem gates_kn {N : List (Int × Int)} (hN : GoodN N) : ∀ c ∈ gatesOf N, KnC N.length c := by
  intro c hc
  obtain ⟨j, hj, h0, i, hi, rfl⟩ := gates_mem.1 hc
  exact gcl_kn hN hj h0 i

/-- all clauses: literals that are to be so, a net's gates, and more -/
def allK (N : List (Int × Int)) (want : List Int) (more : List (List Int)) : List (List Int) := want.map (fun x => [x]) ++ gatesOf N ++ more
theorem allK_kn {N : List (Int × Int)} (hN : GoodN N) {want : List Int} {more : List (List Int)} (hw : KnC N.length want) (hm : ∀ c ∈ more, KnC N.length c) : ∀ c ∈ allK N want more, KnC N.length c := by
  intro c hc
  unfold allK at hc
  rcases List.mem_append.1 hc with hc | hc
  · rcases List.mem_append.1 hc with hc | hc
    · obtain ⟨x, hx, rfl⟩ := List.mem_map.1 hc
      intro y hy
      simp at hy
      rw [hy]; exact hw x hx
    · exact gates_kn hN c hc
  · exact hm c hc

/-- a clause is so in a model -/
def mcl (m : List Bool) (c : List Int) : Prop := ∃ x ∈ c, litN m x = true
theorem litN_ng {m : List Bool} {x : Int} (h : 0 ≤ x) : litN m (ng x) = !litN m x := by
  unfold litN
  rw [ng_var]
  unfold ng
  by_cases e : x % 2 = 1
  · rw [if_pos e, decide_eq_true e, decide_eq_false (by omega)]
    cases vb m (x / 2).toNat <;> rfl
  · rw [if_neg e, decide_eq_false e, decide_eq_true (by omega)]
    cases vb m (x / 2).toNat <;> rfl
theorem UDer.so {n : Nat} {K : List (List Int)} {m : List Bool} (h1 : litN m 1 = true) (hk : ∀ c ∈ K, KnC n c) (hK : ∀ c ∈ K, mcl m c) {x : Int} (h : UDer K x) : litN m x = true := by
  induction h with
  | one => exact h1
  | unit c l hc hl _ ih =>
    obtain ⟨y, hy, e⟩ := hK c hc
    by_cases q : y = l
    · rw [← q]; exact e
    · have := ih y hy q
      rw [litN_ng (hk c hc y hy).1, e] at this
      exact absurd this (by decide)
theorem UConf.none {n : Nat} {K : List (List Int)} {m : List Bool} (h1 : litN m 1 = true) (hk : ∀ c ∈ K, KnC n c) (hK : ∀ c ∈ K, mcl m c) : ¬ UConf K := by
  rintro ⟨c, hc, h⟩
  obtain ⟨y, hy, e⟩ := hK c hc
  have := UDer.so h1 hk hK (h y hy)
  rw [litN_ng (hk c hc y hy).1, e] at this
  exact absurd this (by decide)

theorem valsK_pre {N : List (Int × Int)} {ins : List Bool} {k : Nat} : ∀ d, k + d ≤ N.length → ∀ i, i ≤ k → vb (valsK N ins (k + d)).1 i = vb (valsK N ins k).1 i
  | 0, _, _, _ => rfl
  | d + 1, h, i, hi => by
    rw [← valsK_pre d (by omega) i hi, show k + (d + 1) = k + d + 1 by omega, valsK_succ (by omega)]
    have hl := valsK_len (N := N) (ins := ins) (k + d) (by omega)
    unfold stepV vb
    split <;> simp only <;> rw [List.getElem?_append_left (by omega)]
theorem valsOf_pre {N : List (Int × Int)} {ins : List Bool} {k i : Nat} (hk : k ≤ N.length) (hi : i ≤ k) : vb (valsOf N ins) i = vb (valsK N ins k).1 i := by
  have := valsK_pre (N := N) (ins := ins) (k := k) (N.length - k) (by omega) i hi
  rw [show k + (N.length - k) = N.length by omega] at this
  exact this
theorem litN_pre {N : List (Int × Int)} {ins : List Bool} {k : Nat} {x : Int} (hk : k ≤ N.length) (h0 : 0 ≤ x) (h1 : x ≤ 2 * (k : Int) + 1) : litN (valsOf N ins) x = litN (valsK N ins k).1 x := by
  unfold litN
  rw [valsOf_pre hk (by omega)]
theorem valsOf_zero {N : List (Int × Int)} {ins : List Bool} : vb (valsOf N ins) 0 = false := by
  rw [valsOf_pre (k := 0) (Nat.zero_le _) (Nat.le_refl _)]
  rfl
theorem litN_one {N : List (Int × Int)} {ins : List Bool} : litN (valsOf N ins) 1 = true := by
  unfold litN
  rw [show ((1 : Int) / 2).toNat = 0 by decide, valsOf_zero]; rfl
theorem valsOf_gate {N : List (Int × Int)} {ins : List Bool} (hN : GoodN N) {j : Nat} (hj : j < N.length) (h0 : 0 ≤ (g2 N j).1) : litN (valsOf N ins) (2 * (j : Int) + 2) = (litN (valsOf N ins) (g2 N j).1 && litN (valsOf N ins) (g2 N j).2) := by
  have h := (hN j hj).resolve_left (by omega)
  rw [litN_pre (k := j) (by omega) h.1 h.2.1, litN_pre (k := j) (by omega) h.2.2.1 h.2.2.2]
  unfold litN
  rw [decide_eq_false (p := (2 * (j : Int) + 2) % 2 = 1) (by omega), valsOf_pre (k := j + 1) (by omega) (by omega), valsK_succ hj]
  have hl := valsK_len (N := N) (ins := ins) j (by omega)
  unfold stepV
  rw [if_neg (by omega)]
  show (vb _ _ != false) = _
  have e : ((2 * (j : Int) + 2) / 2).toNat = (valsK N ins j).1.length := by omega
  rw [e]
  unfold vb litN
  rw [List.getElem?_concat_length]
  simp [vb]
theorem gates_so {N : List (Int × Int)} (ins : List Bool) (hN : GoodN N) : ∀ c ∈ gatesOf N, mcl (valsOf N ins) c := by
  intro c hc
  obtain ⟨j, hj, h0, i, hi, rfl⟩ := gates_mem.1 hc
  have hg := valsOf_gate (ins := ins) hN hj h0
  have h := (hN j hj).resolve_left (by omega)
  have hno : litN (valsOf N ins) (2 * (j : Int) + 2 + 1) = !litN (valsOf N ins) (2 * (j : Int) + 2) := by
    rw [← litN_ng (by omega)]; unfold ng; rw [if_neg (by omega)]
  unfold gcl
  cases ea : litN (valsOf N ins) (g2 N j).1 <;> cases eb : litN (valsOf N ins) (g2 N j).2 <;> rw [ea, eb] at hg <;> simp only [Bool.and_true, Bool.and_false, Bool.and_self] at hg <;> rw [hg] at hno
  all_goals
    split
    · first
        | exact ⟨_, by simp, hno⟩
        | exact ⟨_, List.mem_cons_of_mem _ (List.mem_cons_self ..), ea⟩
    · split
      · first
          | exact ⟨_, List.mem_cons_self .., hno⟩
          | exact ⟨_, List.mem_cons_of_mem _ (List.mem_cons_self ..), eb⟩
      · first
          | exact ⟨_, List.mem_cons_self .., hg⟩
          | exact ⟨_, List.mem_cons_of_mem _ (List.mem_cons_self ..), by rw [litN_ng h.1, ea]; rfl⟩
          | exact ⟨_, List.mem_cons_of_mem _ (List.mem_cons_of_mem _ (List.mem_cons_self ..)), by rw [litN_ng h.2.2.1, eb]; rfl⟩

/-- a clause follows, step by step -/
def Fol (N : List (Int × Int)) (want : List Int) (kept : List (List Int)) (c : List Int) : Prop := UConf (allK N (want ++ c.map ng) kept)
/-- .. and is so in each model -/
theorem Fol.so {N : List (Int × Int)} {want : List Int} {kept : List (List Int)} {c : List Int} {ins : List Bool} (h : Fol N want kept c) (hN : GoodN N) (hw : KnC N.length want) (hk : ∀ d ∈ kept, KnC N.length d) (hc : KnC N.length c)
    (h1 : ∀ x ∈ want, litN (valsOf N ins) x = true) (h2 : ∀ d ∈ kept, mcl (valsOf N ins) d) : mcl (valsOf N ins) c := by
  apply Classical.byContradiction
  intro hno
  have hw2 : KnC N.length (want ++ c.map ng) := by
    intro x hx
    rcases List.mem_append.1 hx with hx | hx
    · exact hw x hx
    · obtain ⟨y, hy, rfl⟩ := List.mem_map.1 hx
      exact (hc y hy).ng
  refine UConf.none (m := valsOf N ins) litN_one (allK_kn hN hw2 hk) (fun d hd => ?_) h
  unfold allK at hd
  rcases List.mem_append.1 hd with hd | hd
  · rcases List.mem_append.1 hd with hd | hd
    · obtain ⟨x, hx, rfl⟩ := List.mem_map.1 hd
      refine ⟨x, List.mem_cons_self .., ?_⟩
      rcases List.mem_append.1 hx with hx | hx
      · exact h1 x hx
      · obtain ⟨y, hy, rfl⟩ := List.mem_map.1 hx
        rw [litN_ng (hc y hy).1]
        cases e : litN (valsOf N ins) y
        · rfl
        · exact absurd ⟨y, hy, e⟩ hno
    · exact gates_so ins hN d hd
  · exact h2 d hd

end Go.Proofs.YthconjhldjaldaaGreatDoor

/-
  A trail without levels, on the way: what was set, and which clauses are still to be looked at. No program in sight.
-/
namespace Go.Proofs.YthconjhldjaldaaGreatDoor
open Go.RowKit

/-- how many of the first k variables are open -/
def opn (V : List Int) : Nat → Nat
  | 0 => 0
  | k + 1 => opn V k + (if gi V (k + 1) = 2 then 1 else 0)
theorem opn_congr {V W : List Int} : ∀ k, (∀ j, 1 ≤ j → j ≤ k → gi V j = gi W j) → opn V k = opn W k
  | 0, _ => rfl
  | k + 1, h => by
    unfold opn
    rw [opn_congr k fun j h1 h2 => h j h1 (by omega), h (k + 1) (by omega) (Nat.le_refl _)]
theorem opn_put {V : List Int} {v : Nat} {x : Int} (hx : x ≠ 2) (h0 : 1 ≤ v) (hv : v < V.length) (h2 : gi V v = 2) : ∀ k, v ≤ k → opn (V.set v x) k + 1 = opn V k
  | 0, h => by omega
  | k + 1, h => by
    unfold opn
    by_cases e : v = k + 1
    · subst e
      rw [gi_put _ _ _ _ hv, if_pos rfl, if_neg hx, h2, if_pos rfl, opn_congr (W := V) k fun j _ hj => by rw [gi_put _ _ _ _ hv, if_neg (by omega)]]
    · have := opn_put hx h0 hv h2 k (by omega)
      rw [gi_put _ _ _ _ hv, if_neg (show ¬ k + 1 = v from fun q => e q.symm)]
      omega
theorem opn_vset {n : Nat} {V : List Int} (h : TV n V) {x : Int} (hx : KnL n x) (h2 : 2 ≤ x) (hf : vlit V x = 2) : opn (vset V x) n + 1 = opn V n := by
  have hv := hx.var
  have hl := h.len
  refine opn_put (by split <;> decide) (by unfold KnL at hx; omega) (by omega) ?_ n hv
  unfold vlit at hf
  rcases h.all _ hv with q | q | q
  · rw [q] at hf; split at hf <;> exact absurd hf (by decide)
  · rw [q] at hf; split at hf <;> exact absurd hf (by decide)
  · exact q
theorem free_two {n : Nat} {V : List Int} (h : TV n V) {x : Int} (hx : KnL n x) (hf : vlit V x = 2) : 2 ≤ x := by
  have hk := hx
  unfold KnL at hk
  by_cases e : 2 ≤ x
  · exact e
  · have : x = 0 ∨ x = 1 := by omega
    rcases this with rfl | rfl
    · rw [vlit_zero h] at hf; exact absurd hf (by decide)
    · rw [vlit_one h] at hf; exact absurd hf (by decide)

/-- a trail on the way -/
structure TrOK (n : Nat) (V L : List Int) : Prop where
  tv : TV n V
  cnt : L.length + opn V n = n
  ok : ∀ x ∈ L, KnL n x ∧ 2 ≤ x ∧ vlit V x = 1
theorem TrOK.set {n : Nat} {V L : List Int} (h : TrOK n V L) {x : Int} (hx : KnL n x) (hf : vlit V x = 2) : TrOK n (vset V x) (L ++ [x]) := by
  have h2 := free_two h.tv hx hf
  refine ⟨h.tv.set hx h2, ?_, fun y hy => ?_⟩
  · have := opn_vset h.tv hx h2 hf
    have := h.cnt
    rw [List.length_append, List.length_singleton]
    omega
  · rcases List.mem_append.1 hy with hy | hy
    · obtain ⟨a, b, c⟩ := h.ok y hy
      refine ⟨a, b, ?_⟩
      rw [vlit_set h.tv hx a]
      split
      · rfl
      · rw [if_neg]
        · exact c
        · rintro rfl
          rw [vlit_ng h.tv hx, hf] at c
          exact absurd c (by decide)
    · simp at hy
      subst hy
      refine ⟨hx, h2, ?_⟩
      rw [vlit_set h.tv hx hx, if_pos rfl]
theorem TrOK.len {n : Nat} {V L : List Int} (h : TrOK n V L) : L.length ≤ n := by have := h.cnt; omega

/-- a trail further on -/
def Ext (n : Nat) (V L V' L' : List Int) : Prop :=
  ∃ M, L' = L ++ M ∧ (∀ y, KnL n y → vlit V y ≠ 2 → vlit V' y = vlit V y) ∧ ∀ y, KnL n y → vlit V y = 2 → vlit V' y ≠ 2 → ∃ x ∈ M, x / 2 = y / 2
theorem Ext.refl (n : Nat) (V L : List Int) : Ext n V L V L := ⟨[], by simp, fun _ _ _ => rfl, fun _ _ h1 h2 => absurd h1 h2⟩
theorem Ext.trans {n : Nat} {V L V1 L1 V2 L2 : List Int} (h : Ext n V L V1 L1) (k : Ext n V1 L1 V2 L2) : Ext n V L V2 L2 := by
  obtain ⟨M, rfl, a1, a2⟩ := h
  obtain ⟨M', rfl, b1, b2⟩ := k
  refine ⟨M ++ M', by simp, fun y hy h => ?_, fun y hy h1 h2 => ?_⟩
  · have := a1 y hy h
    rw [b1 y hy (by rw [this]; exact h), this]
  · by_cases e : vlit V1 y = 2
    · obtain ⟨x, hx, q⟩ := b2 y hy e h2
      exact ⟨x, List.mem_append.2 (.inr hx), q⟩
    · obtain ⟨x, hx, q⟩ := a2 y hy h1 e
      exact ⟨x, List.mem_append.2 (.inl hx), q⟩
theorem Ext.set {n : Nat} {V L : List Int} (h : TV n V) {x : Int} (hx : KnL n x) (hf : vlit V x = 2) : Ext n V L (vset V x) (L ++ [x]) := by
  refine ⟨[x], rfl, fun y hy hn => ?_, fun y hy h1 h2 => ?_⟩
  · rw [vlit_set h hx hy, if_neg, if_neg]
    · rintro rfl; rw [vlit_ng h hx, hf] at hn; exact hn rfl
    · rintro rfl; exact hn hf
  · rw [vlit_set h hx hy] at h2
    refine ⟨x, List.mem_cons_self .., ?_⟩
    by_cases e : y = x
    · rw [e]
    · by_cases e2 : y = ng x
      · rw [e2, ng_var]
      · rw [if_neg e, if_neg e2] at h2
        exact absurd h1 h2
theorem Ext.len {n : Nat} {V L V' L' : List Int} (h : Ext n V L V' L') : L.length ≤ L'.length := by
  obtain ⟨M, rfl, -⟩ := h
  simp

/-- a clause says no more, or one of its variables is still to be looked at -/
def Look (V L : List Int) (at_ : Nat) (c : List Int) : Prop := Done V c ∨ ∃ x ∈ c, ∃ i, at_ ≤ i ∧ ∃ l, L[i]? = some l ∧ l / 2 = x / 2
theorem Look.mono {V L : List Int} {i j : Nat} {c : List Int} (h : Look V L i c) (hj : j ≤ i) : Look V L j c := by
  rcases h with h | ⟨x, hx, k, hk, r⟩
  · exact .inl h
  · exact .inr ⟨x, hx, k, by omega, r⟩
theorem Look.ext {n : Nat} {V L V' L' : List Int} {i : Nat} {c : List Int} (h : Look V L i c) (hc : KnC n c) (e : Ext n V L V' L') (hi : i ≤ L.length) : Look V' L' i c := by
  obtain ⟨M, rfl, e1, e2⟩ := e
  rcases h with (⟨x, hx, h1⟩ | ⟨x, hx, y, hy, hn, h1, h2⟩) | ⟨x, hx, k, hk, l, hl, q⟩
  · exact .inl (.inl ⟨x, hx, by rw [e1 x (hc x hx) (by rw [h1]; decide), h1]⟩)
  · have new : ∀ z ∈ c, vlit V z = 2 → vlit V' z ≠ 2 → Look V' (L ++ M) i c := by
      intro z hz a b
      obtain ⟨m, hm, q⟩ := e2 z (hc z hz) a b
      obtain ⟨t, ht, e⟩ := List.mem_iff_getElem.1 hm
      refine .inr ⟨z, hz, L.length + t, by omega, m, ?_, q⟩
      rw [List.getElem?_append_right (by omega), Nat.add_sub_cancel_left, List.getElem?_eq_getElem ht, e]
    by_cases a : vlit V' x = 2
    · by_cases b : vlit V' y = 2
      · exact .inl (.inr ⟨x, hx, y, hy, hn, a, b⟩)
      · exact new y hy h2 b
    · exact new x hx h1 a
  · refine .inr ⟨x, hx, k, hk, l, ?_, q⟩
    have : k < L.length := (List.getElem?_eq_some_iff.1 hl).1
    rw [List.getElem?_append_left this, hl]
theorem Look.fin {V L : List Int} {i : Nat} {c : List Int} (h : Look V L i c) (hi : L.length ≤ i) : Done V c := by
  rcases h with h | ⟨x, hx, k, hk, l, hl, q⟩
  · exact h
  · have : k < L.length := (List.getElem?_eq_some_iff.1 hl).1
    omega
/-- a clause whose variables are not the next one's -/
theorem Look.next {V L : List Int} {i : Nat} {c : List Int} (h : Look V L i c) (hn : ∀ l, L[i]? = some l → ∀ x ∈ c, l / 2 ≠ x / 2) : Look V L (i + 1) c := by
  rcases h with h | ⟨x, hx, k, hk, l, hl, q⟩
  · exact .inl h
  · refine .inr ⟨x, hx, k, ?_, l, hl, q⟩
    by_cases e : k = i
    · subst e; exact absurd q (hn l hl x hx)
    · omega

/-- gate j is looked at -/
def LookG (N : List (Int × Int)) (V L : List Int) (i j : Nat) : Prop := 0 ≤ (g2 N j).1 → ∀ k, k < 3 → Look V L i (gcl (2 * (j : Int) + 2) (g2 N j).1 (g2 N j).2 k)
theorem LookG.ext {N : List (Int × Int)} {V L V' L' : List Int} {i j : Nat} (h : LookG N V L i j) (hN : GoodN N) (hj : j < N.length) (e : Ext N.length V L V' L') (hi : i ≤ L.length) : LookG N V' L' i j :=
  fun h0 k hk => (h h0 k hk).ext (gcl_kn hN hj h0 k) e hi
theorem LookG.mono {N : List (Int × Int)} {V L : List Int} {i i' j : Nat} (h : LookG N V L i j) (hi : i' ≤ i) : LookG N V L i' j := fun h0 k hk => (h h0 k hk).mono hi

/-- the gates that have a variable, among the first k nodes -/
def fanK (N : List (Int × Int)) (v : Nat) : Nat → List Int
  | 0 => []
  | k + 1 => fanK N v k ++ (if 0 ≤ (g2 N k).1 ∧ ((g2 N k).1 / 2 = v ∨ (g2 N k).2 / 2 = v) then [(k : Int) + 1] else [])
theorem fanK_mem {N : List (Int × Int)} {v : Nat} {x : Int} : ∀ k, x ∈ fanK N v k ↔ ∃ j, j < k ∧ x = (j : Int) + 1 ∧ 0 ≤ (g2 N j).1 ∧ ((g2 N j).1 / 2 = v ∨ (g2 N j).2 / 2 = v)
  | 0 => by
    constructor
    · intro h; cases h
    · rintro ⟨j, h, _⟩; omega
  | k + 1 => by
    rw [fanK, List.mem_append, fanK_mem k]
    constructor
    · rintro (⟨j, hj, h⟩ | h)
      · exact ⟨j, by omega, h⟩
      · split at h
        · rename_i q
          simp at h
          exact ⟨k, by omega, h, q⟩
        · cases h
    · rintro ⟨j, hj, rfl, q⟩
      by_cases e : j < k
      · exact .inl ⟨j, e, rfl, q⟩
      · have : j = k := by omega
        subst this
        right
        rw [if_pos q]; simp
theorem fanK_len (N : List (Int × Int)) (v : Nat) : ∀ k, (fanK N v k).length ≤ k
  | 0 => Nat.le_refl _
  | k + 1 => by
    have := fanK_len N v k
    rw [fanK, List.length_append]
    split <;> simp <;> omega
/-- a gate none of whose variables is v -/
theorem gcl_far {N : List (Int × Int)} (hN : GoodN N) {j v : Nat} (hj : j < N.length) (h0 : 0 ≤ (g2 N j).1) (h1 : (j : Int) + 1 ≠ v) (h2 : ((j : Int) + 1) ∉ fanK N v N.length) (k : Nat) : ∀ x ∈ gcl (2 * (j : Int) + 2) (g2 N j).1 (g2 N j).2 k, (v : Int) ≠ x / 2 := by
  have hg := (hN j hj).resolve_left (by omega)
  have hno : ¬ ((g2 N j).1 / 2 = v ∨ (g2 N j).2 / 2 = v) := fun q => h2 ((fanK_mem _).2 ⟨j, hj, rfl, h0, q⟩)
  have ha : (v : Int) ≠ (g2 N j).1 / 2 := fun q => hno (.inl q.symm)
  have hb : (v : Int) ≠ (g2 N j).2 / 2 := fun q => hno (.inr q.symm)
  intro x hx
  unfold gcl at hx
  split at hx
  · simp at hx; rcases hx with rfl | rfl
    · omega
    · exact ha
  · split at hx
    · simp at hx; rcases hx with rfl | rfl
      · omega
      · exact hb
    · simp at hx; rcases hx with rfl | rfl | rfl
      · omega
      · rw [ng_var]; exact ha
      · rw [ng_var]; exact hb

end Go.Proofs.YthconjhldjaldaaGreatDoor

/-
  cone.Fanouts.
-/
namespace Go.Proofs.YthconjhldjaldaaGreatDoor
open Go.RowKit

theorem fanK_push {N : List (Int × Int)} {k qa qb : Nat} (h0 : 0 ≤ (g2 N k).1) (ha : (g2 N k).1 / 2 = (qa : Int)) (hb : (g2 N k).2 / 2 = (qb : Int)) (v : Nat) :
    fanK N v (k + 1) = fanK N v k ++ (if v = qa ∨ v = qb then [(k : Int) + 1] else []) := by
  rw [fanK]
  congr 1
  rw [ha, hb]
  by_cases e : v = qa ∨ v = qb
  · rw [if_pos e, if_pos ⟨h0, by rcases e with rfl | rfl <;> simp⟩]
  · rw [if_neg e, if_neg]
    rintro ⟨-, q⟩
    exact e (by rcases q with q | q <;> omega)
theorem fanK_skip {N : List (Int × Int)} {k : Nat} (h0 : (g2 N k).1 < 0) (v : Nat) : fanK N v (k + 1) = fanK N v k := by
  rw [fanK, if_neg (by omega), List.append_nil]

set_option maxRecDepth 100000 in
set_option maxHeartbeats 4000000 in
theorem cone_Fanouts (a : Option Addr) (n c : Nat) (N : List (Int × Int)) (w : World) (hr : RowAt w a (N.map pr2).flatten) (hn : N.length = n) (hm : n ≤ 900000) (hN : GoodN N) :
    Calls Tryz.prog 58 #[.slice a n c] w fun e w' => ∃ g R, e = .returned (.slice (some ⟨g, 0, none⟩) (n + 1) (n + 1)) ∧ RowsM w' w.heap.size g (n + 1) R (fun v => fanK N v n) ∧ Kp (fun _ => False) w w' := by
  obtain ⟨i0, hi, hz0, hz1, hz2⟩ := info_parts (show (Tryz.prog.info? 23).map (fun i => (i.zero, i.size, i.bytes)) = some (some (.slice none 0 0), 1, 24) by kernel_rfl)
  have hmk : ∀ u : World, (Instr.makeSlice 24 (.int .i64 ((n : Int) + 1)) (.int .i64 ((n : Int) + 1))).run Tryz.prog u =
      .ok (.slice (some ⟨u.heap.size, 0, none⟩) (n + 1) (n + 1)) (u.alloc (.cells (madeCells #[.slice none 0 0] (n + 1)) 23)) := fun u => by
    have h := run_make (P := Tryz.prog) u 24 23 i0 (.slice none 0 0) Tryz.underlying24 hi hz0 .i64 .i64 ((n + 1 : Nat) : Int) ((n + 1 : Nat) : Int) (by omega) (Int.le_refl _) (by rw [hz2]; omega) (by omega)
    simpa [hz1, Value.cells] using h
  clear hi hz0 hz1 hz2 i0
  have HI := Lib.hid (show (Tryz.prog.info? 3).map (fun i => (i.zero, i.size, i.bytes)) = some (some (.int .i64 0), 1, 8) by kernel_rfl)
  have HR := Lib.hid hr
  have HN := Lib.hid hn
  have HGN := Lib.hid hN
  obtain ⟨wz, hwz⟩ : ∃ wz : World, wz = w.alloc (.cells (madeCells #[.slice none 0 0] (n + 1)) 23) := ⟨_, rfl⟩
  have HK0 := Lib.hid (show Kp (fun _ => False) w wz by rw [hwz]; exact (Kp.refl _ w).alloc _)
  have HM0 := Lib.hid (show RowsM wz w.heap.size w.heap.size (n + 1) (fun _ => .slice none 0 0) (fun v => fanK N v 0) from
    ⟨by rw [hwz, ← made_row]; exact Blk.new w _ _, fun k hk => Own.nil _ _ _, Nat.le_refl _, fun k hk j hj => (by cases hj), fun k k' h1 h2 h3 j hj => (by cases hj)⟩)
  have HZ := Lib.hid hwz
  obtain ⟨g, hg⟩ : ∃ g, w.heap.size = g := ⟨_, rfl⟩
  obtain ⟨m, hm1⟩ : ∃ m : Nat, n + 1 = m := ⟨_, rfl⟩
  rw [hg, hm1] at HM0
  rw [hm1] at HZ hmk
  have HMk := Lib.hid hmk
  have HG := Lib.hid hg
  have HM1 := Lib.hid hm1
  rw [hm1]
  clear hr hn hN hwz hmk hg hm1
  have hmk := HMk.out
  go_enter Tryz.func58, Tryz.ntmps58
  go_upto_region 2 with fail
  rw [← HZ.out]
  clear HZ hmk
  rw [HG.out]
  go_wp2_with fail
  go_loopw [14] (fun v14 wr => ∃ (k : Nat) (R : Nat → Value), v14 = .int .i64 k ∧ k ≤ n ∧ RowsM wr g g m R (fun v => fanK N v k) ∧ Kp (fun _ => False) w wr) (fun v14 _ => n - (intOf v14).toNat)
  case atStart => exact ⟨0, _, rfl, Nat.zero_le _, HM0.out, HK0.out⟩
  case round =>
    obtain ⟨k, R, rfl, hk, hM, hK⟩ := hrel
    clear HM0 HK0
    obtain ⟨wp, rfl⟩ : ∃ wp : World, wp = wr := ⟨_, rfl⟩
    have HRM := Lib.hid hM
    have HK := Lib.hid hK
    clear hM hK
    by_cases hlt : k < n
    · have hkl : k < N.length := by rw [HN.out]; exact hlt
      obtain ⟨bb, off, rfl, e0, e1⟩ := pr2_cells (HR.out.kp HK.out (fun _ _ h => h)) hkl
      have hgn := HGN.out k hkl
      have i0 : (0 : Int) ≤ (k : Int) := by omega
      have i2 : (k : Int) < (n : Int) := by omega
      have HFS := Lib.hid (fun v => fanK_skip (N := N) (k := k) (v := v))
      have HFP := Lib.hid (fun qa qb v => fanK_push (N := N) (k := k) (qa := qa) (qb := qb) (v := v))
      obtain ⟨x1, hx1⟩ : ∃ x, (g2 N k).1 = x := ⟨_, rfl⟩
      obtain ⟨x2, hx2⟩ : ∃ x, (g2 N k).2 = x := ⟨_, rfl⟩
      simp only [hx1] at hgn e0 HFS HFP
      simp only [hx2] at hgn e1 HFP
      clear hx1 hx2 hkl
      by_cases hneg : x1 < 0
      · have q1 : decide (x1 < 0) = true := decide_eq_true hneg
        have HR1 := Lib.hid (show RowsM (wp.alloc (.cells #[.int .i64 x1, .int .i64 x2] 43)) g g m R (fun v => fanK N v (k + 1)) ∧ Kp (fun _ => False) w (wp.alloc (.cells #[.int .i64 x1, .int .i64 x2] 43)) from
          ⟨(HRM.out.kp ((Kp.refl _ wp).alloc _)).congr (fun v _ => (HFS.out v hneg).symm), HK.out.alloc _⟩)
        clear hgn hneg
        go_wp2_with fail
        go_roundw
        case rel => exact ⟨k + 1, R, by go_num, hlt, HR1.out⟩
        case measure => simp [intOf]; omega
      · have q1 : decide (x1 < 0) = false := decide_eq_false hneg
        have hgg := hgn.resolve_left hneg
        obtain ⟨qa, ha⟩ : ∃ q : Nat, x1 / 2 = (q : Int) := ⟨(x1 / 2).toNat, by omega⟩
        obtain ⟨qb, hb⟩ : ∃ q : Nat, x2 / 2 = (q : Int) := ⟨(x2 / 2).toNat, by omega⟩
        have ta : x1.tdiv 2 = (qa : Int) := by rw [Int.tdiv_eq_ediv_of_nonneg (by omega)]; exact ha
        have tb : x2.tdiv 2 = (qb : Int) := by rw [Int.tdiv_eq_ediv_of_nonneg (by omega)]; exact hb
        have wa : IntKind.i64.wrap (qa : Int) = (qa : Int) := by rw [IntKind.wrap_i64]; omega
        have wb : IntKind.i64.wrap (qb : Int) = (qb : Int) := by rw [IntKind.wrap_i64]; omega
        have ham : qa < m := by have := HM1.out; omega
        have hbm : qb < m := by have := HM1.out; omega
        have a0 : (0 : Int) ≤ (qa : Int) := by omega
        have a1 : (qa : Int) < (m : Int) := by omega
        have b0 : (0 : Int) ≤ (qb : Int) := by omega
        have b1 : (qb : Int) < (m : Int) := by omega
        have HFP2 := Lib.hid (fun v => HFP.out qa qb v (by omega) ha hb)
        obtain ⟨wq, hwq⟩ : ∃ wq : World, wq = wp.alloc (.cells #[.int .i64 x1, .int .i64 x2] 43) := ⟨_, rfl⟩
        have HKq := Lib.hid (show Kp (fun _ => False) wp wq by rw [hwq]; exact (Kp.refl _ wp).alloc _)
        have HBq := Lib.hid (show Blk wq wp.heap.size #[.int .i64 x1, .int .i64 x2] 43 by rw [hwq]; exact Blk.new _ _ _)
        have HWQ := Lib.hid hwq
        clear hwq hgn hgg HFS HFP
        go_upto_region 6 with fail
        rw [← HWQ.out]
        clear HWQ
        have y0 := HBq.out.cell (i := 0) (v := .int .i64 x1) rfl
        have y1 := HBq.out.cell (i := 1) (v := .int .i64 x2) rfl
        go_quiet (fail)
        go_upto_region 7 with fail
        have HRMq := Lib.hid (show RowsM (wq.drewN nq) g g m R (fun v => fanK N v k) from HRM.out.kp (HKq.out.drewN nq))
        have HSza := Lib.hid (show g ≤ wq.heap.size from by have := HG.out; have := HK.out.size; have := HKq.out.size; omega)
        clear y0 y1 HBq
        have HLba := Lib.hid (show ((fun v => fanK N v k) qa).length ≤ n + 1 from by have := fanK_len N qa k; show (fanK N qa k).length ≤ n + 1; omega)
        have RCa := HRMq.out.cell ham
        have HOwa := Lib.hid (HRMq.out.ow qa ham)
        obtain ⟨aaa, cca, eea, -⟩ := HOwa.out.form
        rw [eea] at RCa HOwa
        have HEEa := Lib.hid eea
        obtain ⟨lla, hlla⟩ : ∃ l, (iv ((fun v => fanK N v k) qa)).length = l := ⟨_, rfl⟩
        have HLLa := Lib.hid hlla
        rw [hlla] at RCa HOwa HEEa
        have HLea := Lib.hid (show lla ≤ n + 1 by rw [← hlla, iv_length]; exact HLba.out)
        have HNwa := Lib.hid (Blk.new (wq.drewN nq) #[.int .i64 ((k : Int) + 1)] 3)
        have HOla := Lib.hid (HOwa.out.alloc (.cells #[.int .i64 ((k : Int) + 1)] 3))
        clear eea hlla
        go_wp2_with (at_builtin; refine wpList_append1_at rfl _ _ 23 3 rfl Tryz.underlying23 HI.out rfl HOla.out rfl ⟨(wq.drewN nq).heap.size, 0, none⟩ (.int .i64 ((k : Int) + 1)) rfl (HNwa.out.cell rfl) rfl ?d1 ?d2 ?d3 ?_)
        case d1 => rw [HLLa.out]; have := HLea.out; omega
        case d2 => rw [HLLa.out]; have := HLea.out; unfold maxLen; omega
        case d3 => first | exact Nat.le_succ_of_le HSza.out | (rw [World.size_alloc]; exact Nat.le_succ_of_le HSza.out)
        intro v' w2 hO hg hat
        obtain ⟨aN, cN, eN, -⟩ := hO.form
        rw [List.length_append, List.length_singleton] at eN
        subst eN
        have HPa := Lib.hid (RowsM.push (k := qa) (x := (k : Int) + 1) HRMq.out ham (w1 := (wq.drewN nq).alloc (.cells #[.int .i64 ((k : Int) + 1)] 3)) ((Kp.refl _ _).alloc _) hO (by rw [HEEa.out]; exact hg) (by rw [HEEa.out, World.size_alloc]; exact hat))
        have hB2 : Blk w2 g _ _ := (HRMq.out.blk.alloc (.cells #[.int .i64 ((k : Int) + 1)] 3)).kp ((Kp.refl (fun j => (Value.slice aaa lla cca).ownBlock = some j) _).grown hg (fun j hj _ => hj)) (fun e => HRMq.out.ne qa ham g (by rw [HEEa.out]; exact e) rfl)
        have z2 : w2.cell? ⟨g, qa, none⟩ = some (R qa) := hB2.cell (by have := rowF_at (f := R) ham; simpa using this)
        have zf := hB2.free qa
        rw [HEEa.out] at z2
        clear hO hg hat hB2 HOla HNwa RCa
        go_upto_region 8 with fail
        obtain ⟨w3, hw3⟩ : ∃ w3 : World, w3 = w2.setCell ⟨g, qa, none⟩ (.slice aN ((iv ((fun v => fanK N v k) qa)).length + 1) cN) := ⟨_, rfl⟩
        have HRM3 := Lib.hid (show RowsM w3 g g m (up1 R qa (.slice aN ((iv ((fun v => fanK N v k) qa)).length + 1) cN)) (up1 (fun v => fanK N v k) qa (fanK N qa k ++ [(k : Int) + 1])) by rw [hw3]; exact HPa.out.1)
        have HK3 := Lib.hid (show Kp (fun _ => False) w w3 by
          rw [hw3]
          refine (HK.out.trans (HKq.out.drewN nq) (fun _ _ h => h)).trans HPa.out.2 (fun j hj q => ?_)
          have h1 := HG.out
          rcases q with q | q
          · omega
          · rw [HEEa.out] at q
            have := (HOwa.out.lt j q).1
            omega)
        try rw [← hw3]
        clear hw3 HPa z2 zf HOwa HRMq HLba
        by_cases hne : qa = qb
        · have HE := Lib.hid hne
          have b2 : ((qa : Int) == (qb : Int)) = true := by simp [hne]
          have HEnd := Lib.hid (show RowsM w3 g g m (up1 R qa (.slice aN ((iv ((fun v => fanK N v k) qa)).length + 1) cN)) (fun v => fanK N v (k + 1)) from HRM3.out.congr (fun v _ => by
            rw [HFP2.out v]
            by_cases e : v = qa
            · rw [e, up1_at, if_pos (.inl rfl)]
            · rw [up1_off _ _ e, if_neg (by rw [← HE.out]; rintro (q | q) <;> exact e q), List.append_nil]))
          clear hne HRM3
          go_wp2_with fail
          go_roundw
          case rel => exact ⟨k + 1, _, by go_num, hlt, HEnd.out, HK3.out⟩
          case measure => simp [intOf]; omega
        · have HNE := Lib.hid hne
          have b2 : ((qa : Int) == (qb : Int)) = false := by simp; omega
          have HSzb := Lib.hid (show g ≤ w3.heap.size from by have := HG.out; have := HK3.out.size; omega)
          clear hne
          obtain ⟨R3, hR3⟩ : ∃ R3, R3 = up1 R qa (.slice aN ((iv ((fun v => fanK N v k) qa)).length + 1) cN) := ⟨_, rfl⟩
          obtain ⟨A3, hA3⟩ : ∃ A3, A3 = up1 (fun v => fanK N v k) qa (fanK N qa k ++ [(k : Int) + 1]) := ⟨_, rfl⟩
          rw [← hR3, ← hA3] at HRM3
          have HA3 := Lib.hid hA3
          clear hR3 hA3
          have HLbb := Lib.hid (show (A3 qb).length ≤ n + 1 from by rw [HA3.out, up1_off _ _ (fun q => HNE.out q.symm)]; have := fanK_len N qb k; show (fanK N qb k).length ≤ n + 1; omega)
          have RCb := HRM3.out.cell hbm
          have HOwb := Lib.hid (HRM3.out.ow qb hbm)
          obtain ⟨aab, ccb, eeb, -⟩ := HOwb.out.form
          rw [eeb] at RCb HOwb
          have HEEb := Lib.hid eeb
          obtain ⟨llb, hllb⟩ : ∃ l, (iv (A3 qb)).length = l := ⟨_, rfl⟩
          have HLLb := Lib.hid hllb
          rw [hllb] at RCb HOwb HEEb
          have HLeb := Lib.hid (show llb ≤ n + 1 by rw [← hllb, iv_length]; exact HLbb.out)
          have HNwb := Lib.hid (Blk.new w3 #[.int .i64 ((k : Int) + 1)] 3)
          have HOlb := Lib.hid (HOwb.out.alloc (.cells #[.int .i64 ((k : Int) + 1)] 3))
          clear eeb hllb
          go_wp2_with (at_builtin; refine wpList_append1_at rfl _ _ 23 3 rfl Tryz.underlying23 HI.out rfl HOlb.out rfl ⟨w3.heap.size, 0, none⟩ (.int .i64 ((k : Int) + 1)) rfl (HNwb.out.cell rfl) rfl ?d1 ?d2 ?d3 ?_)
          case d1 => rw [HLLb.out]; have := HLeb.out; omega
          case d2 => rw [HLLb.out]; have := HLeb.out; unfold maxLen; omega
          case d3 => first | exact Nat.le_succ_of_le HSzb.out | (rw [World.size_alloc]; exact Nat.le_succ_of_le HSzb.out)
          intro v' w2 hO hg hat
          obtain ⟨aN, cN, eN, -⟩ := hO.form
          rw [List.length_append, List.length_singleton] at eN
          subst eN
          have HPb := Lib.hid (RowsM.push (k := qb) (x := (k : Int) + 1) HRM3.out hbm (w1 := w3.alloc (.cells #[.int .i64 ((k : Int) + 1)] 3)) ((Kp.refl _ _).alloc _) hO (by rw [HEEb.out]; exact hg) (by rw [HEEb.out, World.size_alloc]; exact hat))
          have hB2 : Blk w2 g _ _ := (HRM3.out.blk.alloc (.cells #[.int .i64 ((k : Int) + 1)] 3)).kp ((Kp.refl (fun j => (Value.slice aab llb ccb).ownBlock = some j) _).grown hg (fun j hj _ => hj)) (fun e => HRM3.out.ne qb hbm g (by rw [HEEb.out]; exact e) rfl)
          have z2 : w2.cell? ⟨g, qb, none⟩ = some (R3 qb) := hB2.cell (by have := rowF_at (f := R3) hbm; simpa using this)
          have zf := hB2.free qb
          rw [HEEb.out] at z2
          clear hO hg hat hB2 HOlb HNwb RCb
          have HEnd := Lib.hid (show RowsM (w2.setCell ⟨g, qb, none⟩ (.slice aN ((iv (A3 qb)).length + 1) cN)) g g m (up1 R3 qb (.slice aN ((iv (A3 qb)).length + 1) cN)) (fun v => fanK N v (k + 1)) from HPb.out.1.congr (fun v _ => by
            rw [HFP2.out v]
            by_cases e : v = qb
            · rw [e, up1_at, if_pos (.inr rfl), HA3.out, up1_off _ _ (fun q => HNE.out q.symm)]
            · rw [up1_off _ _ e, HA3.out]
              by_cases e2 : v = qa
              · rw [e2, up1_at, if_pos (.inl rfl)]
              · rw [up1_off _ _ e2, if_neg (by rintro (q | q); exact e2 q; exact e q), List.append_nil]))
          have HK4 := Lib.hid (show Kp (fun _ => False) w (w2.setCell ⟨g, qb, none⟩ (.slice aN ((iv (A3 qb)).length + 1) cN)) by
            refine HK3.out.trans HPb.out.2 (fun j hj q => ?_)
            have h1 := HG.out
            rcases q with q | q
            · omega
            · rw [HEEb.out] at q
              have := (HOwb.out.lt j q).1
              omega)
          clear HPb HOwb HRM3 HLbb
          go_wp2_with fail
          go_roundw
          case rel => exact ⟨k + 1, _, by go_num, hlt, HEnd.out, HK4.out⟩
          case measure => simp [intOf]; omega
    · have hk' : k = n := by omega
      subst hk'
      have hno : decide ((k : Int) < (k : Int)) = false := by simp
      go_wp2_with fail
      go_ret
      exact ⟨g, R, rfl, by rw [HG.out]; exact HRM.out, HK.out⟩

end Go.Proofs.YthconjhldjaldaaGreatDoor

/-
  Layer 1 in plain words: bytes of a string, the number at a place.
-/
namespace Go.Proofs.YthconjhldjaldaaGreatDoor
open Go.RowKit

/-- the byte at a place -/
def bt (s : ByteArray) (i : Nat) : Nat := if h : i < s.size then (s[i]'h).toNat else 0

theorem bt_eq {s : ByteArray} {i : Nat} (h : i < s.size) : (s[i]'h).toNat = bt s i := by simp [bt, h]
end Go.Proofs.YthconjhldjaldaaGreatDoor
