/-
  Plain vocabulary for walks: what a block holds, and which blocks a call may have turned. No program in sight.
-/
import Derived.WalkKit
import Derived.WalkSpells
import Derived.WalkLawsBesides
import Derived.Lib.Hide
import Derived.Laws.AppendOwnNone
import Derived.Laws.BitsAllLaws
import Derived.Test.YtjeaggfjjdfacaaDoorRows
import Derived.Recover
import Derived.Lib.Atoi
import Derived.Lib.Strings
import Derived.Shelf.Strings.Builder1
import Derived.Shelf.Strings.Builder2
import Derived.Shelf.Strings.OnBuilder
import Derived.Shelf.Small.Strs
import Derived.Shelf.Strconv.Atoi
import Derived.Shelf.Strconv.Itoa0
import Derived.Shelf.Strconv.Itoa1
import Derived.Shelf.LaysM
import Derived.Shelf.Strconv.Itoa2
import Derived.Shelf.Strconv.Itoa3
import Derived.Shelf.Strings.Search1
import Derived.Shelf.Strings.Prefix
import Derived.Test.YtjeaggfjjdfacaaDoorProg
import Derived.Deep.RegionHeld3
import Derived.Lib.SplitLaws
import Derived.Lib.IndexBytes
import Derived.Lib.IndexLaws
import Derived.Lib.ItoaNum
import Derived.Lib.Join
import Derived.RegionTactic
import Derived.Tactics2
namespace Go.Proofs.YtjeaggfjjdfacaaDoor
open Go.RowKit

/-- block b of w is a plain row of cells -/
def Blk (w : World) (b : Nat) (c : Array Value) (t : TypeId) : Prop := w.heap[b]? = some (.cells c t (0, 0))

/-- w' is w with new blocks, and with writes to blocks of S alone -/
structure Kp (S : Nat → Prop) (w w' : World) : Prop where
  os : w'.os = w.os
  tape : w'.tape = w.tape
  output : w'.output = w.output
  size : w.heap.size ≤ w'.heap.size
  block : ∀ k, k < w.heap.size → ¬ S k → w'.heap[k]? = w.heap[k]?

theorem Kp.refl (S : Nat → Prop) (w : World) : Kp S w w := ⟨rfl, rfl, rfl, Nat.le_refl _, fun _ _ _ => rfl⟩

theorem Kp.trans {S T : Nat → Prop} {a b c : World} (h : Kp S a b) (k : Kp T b c) (hT : ∀ i, i < a.heap.size → T i → S i) : Kp S a c :=
  ⟨k.os.trans h.os, k.tape.trans h.tape, k.output.trans h.output, Nat.le_trans h.size k.size,
    fun i hi hS => (k.block i (Nat.lt_of_lt_of_le hi h.size) (fun ht => hS (hT i hi ht))).trans (h.block i hi hS)⟩

theorem Kp.mono {S T : Nat → Prop} {w w' : World} (h : Kp S w w') (hs : ∀ i, i < w.heap.size → S i → T i) : Kp T w w' :=
  ⟨h.os, h.tape, h.output, h.size, fun i hi ht => h.block i hi (fun s => ht (hs i hi s))⟩

theorem Kp.drew {S : Nat → Prop} {a w : World} (h : Kp S a w) : Kp S a w.drew := ⟨h.os, h.tape, h.output, h.size, h.block⟩

theorem Kp.drewN {S : Nat → Prop} {a w : World} (h : Kp S a w) (n : Nat) : Kp S a (w.drewN n) := ⟨h.os, h.tape, h.output, h.size, h.block⟩

theorem Kp.alloc {S : Nat → Prop} {a w : World} (h : Kp S a w) (o : Obj) : Kp S a (w.alloc o) :=
  ⟨h.os, h.tape, h.output, Nat.le_trans h.size (by simp), fun k hk hS => (Below.heap_alloc w o k (Nat.lt_of_lt_of_le hk h.size)).trans (h.block k hk hS)⟩

theorem Kp.setCell {S : Nat → Prop} {a w : World} (h : Kp S a w) {p : Addr} (hp : p.block < a.heap.size → S p.block) (u : Value) : Kp S a (w.setCell p u) :=
  ⟨h.os, h.tape, h.output, by rw [show (w.setCell p u).heap.size = w.heap.size from by simp [World.setCell]]; exact h.size,
    fun k hk hS => (Below.heap_setCell w p u k (fun e => hS (by subst e; exact hp hk))).trans (h.block k hk hS)⟩

theorem Kp.set (w : World) (p : Addr) (u : Value) : Kp (· = p.block) w (w.setCell p u) := (Kp.refl (· = p.block) w).setCell (p := p) (fun _ => rfl) u

theorem Kp.grown {S : Nat → Prop} {a w w' : World} {row : Option Nat} (h : Kp S a w) (hg : w.grownBy w' row) (hr : ∀ k, row = some k → k < a.heap.size → S k) : Kp S a w' :=
  ⟨hg.os.trans h.os, hg.tape.trans h.tape, hg.output.trans h.output, Nat.le_trans h.size hg.size,
    fun k hk hS => (hg.block k (Nat.lt_of_lt_of_le hk h.size) (fun e => hS (hr k e.symm hk))).trans (h.block k hk hS)⟩

theorem Kp.below {S : Nat → Prop} {w w' : World} (h : Kp S w w') {B : Nat} (hB : B ≤ w.heap.size) (hS : ∀ k, k < B → ¬ S k) : Below B w w' :=
  ⟨h.os, h.tape, h.output, h.size, fun k hk => h.block k (by omega) (hS k hk)⟩

theorem Kp.of_below {w w' : World} (h : Below w.heap.size w w') (S : Nat → Prop) : Kp S w w' :=
  ⟨h.os, h.tape, h.output, h.size, fun k hk _ => h.block k hk⟩

section
variable {w w' : World} {b : Nat} {c : Array Value} {t : TypeId}

theorem Blk.lt (h : Blk w b c t) : b < w.heap.size := (Array.getElem?_eq_some_iff.1 h).1

theorem Blk.kp {S : Nat → Prop} (h : Blk w b c t) (k : Kp S w w') (hS : ¬ S b) : Blk w' b c t := (k.block b h.lt hS).trans h

theorem Blk.drew (h : Blk w b c t) : Blk w.drew b c t := h
theorem Blk.drewN (h : Blk w b c t) (n : Nat) : Blk (w.drewN n) b c t := h

theorem Blk.alloc (h : Blk w b c t) (o : Obj) : Blk (w.alloc o) b c t := (Below.heap_alloc w o b h.lt).trans h

theorem Blk.new (w : World) (c : Array Value) (t : TypeId) : Blk (w.alloc (.cells c t)) w.heap.size c t := heap_alloc_new w _

theorem Blk.cell (h : Blk w b c t) {i : Nat} {v : Value} (hi : c[i]? = some v) : w.cell? ⟨b, i, none⟩ = some v :=
  (cell_of_row w b i c t (0, 0) h).trans hi

theorem Blk.free (h : Blk w b c t) (i : Nat) : w.frozen? ⟨b, i, none⟩ = false := by
  unfold World.frozen?
  show (match w.heap[b]? with | some (.cells _ _ (lo, hi)) => decide (lo ≤ i) && decide (i < hi) | _ => false) = false
  rw [show w.heap[b]? = some (.cells c t (0, 0)) from h]
  simp

theorem Blk.set_same (h : Blk w b c t) (i : Nat) (v : Value) : Blk (w.setCell ⟨b, i, none⟩ v) b (c.setIfInBounds i v) t := by
  have hlt := h.lt
  unfold Blk at h ⊢
  simp only [World.setCell, Array.getElem?_modify, if_true, h, Option.map_some]
  rfl

theorem Blk.set_other (h : Blk w b c t) {p : Addr} (hp : b ≠ p.block) (v : Value) : Blk (w.setCell p v) b c t :=
  (Below.heap_setCell w p v b hp).trans h
end

theorem cell_after_set {w : World} {p q : Addr} {v : Value} (x : Value) (h : w.cell? q = some v) : ∃ v', ((w.setCell p x).drew).cell? q = some v' := by
  by_cases e : p = q
  · subst e; exact ⟨x, World.cell?_setCell_same w p x h⟩
  · exact ⟨v, (World.cell?_setCell_other w p q x e).trans h⟩

/-- the int at a place (closed to simp) -/
def gi (l : List Int) (k : Nat) : Int := l[k]?.getD 0

/-- a row of ints -/
def ints (l : List Int) : Array Value := (l.map (Value.int .i64)).toArray

theorem ints_get (l : List Int) (i : Nat) : (ints l)[i]? = (l[i]?).map (Value.int .i64) := by simp [ints]
theorem ints_at {l : List Int} {i : Nat} (h : i < l.length) : (ints l)[i]? = some (.int .i64 (gi l i)) := by
  rw [ints_get, List.getElem?_eq_getElem h]; simp [gi, List.getElem?_eq_getElem h]
theorem ints_set (l : List Int) (i : Nat) (x : Int) : (ints l).setIfInBounds i (.int .i64 x) = ints (l.set i x) := by
  simp [ints, List.map_set]
theorem ints_size (l : List Int) : (ints l).size = l.length := by simp [ints]

/-- place j of the row at a holds u -/
def Elem (w : World) (a : Option Addr) (j : Nat) (u : Value) : Prop := ∃ b off, a = some ⟨b, off, none⟩ ∧ w.cell? ⟨b, off + j, none⟩ = some u

/-- the row at a reads cs -/
def RowAt (w : World) (a : Option Addr) (cs : List Value) : Prop := ∀ j u, cs[j]? = some u → Elem w a j u

/-- the row at a reads the ints l -/
def IntsAt (w : World) (a : Option Addr) (l : List Int) : Prop := RowAt w a (l.map (Value.int .i64))

theorem IntsAt.get {w : World} {a : Option Addr} {l : List Int} (h : IntsAt w a l) {j : Nat} (hj : j < l.length) : Elem w a j (.int .i64 (gi l j)) :=
  h j _ (by simp [gi, List.getElem?_eq_getElem hj])

theorem RowAt.nil (w : World) (a : Option Addr) : RowAt w a [] := fun j u h => by simp at h

theorem Elem.kp {S : Nat → Prop} {w w' : World} {a : Option Addr} {j : Nat} {u : Value} (h : Elem w a j u) (k : Kp S w w') (hS : ∀ p, a = some p → ¬ S p.block) : Elem w' a j u := by
  obtain ⟨b, off, rfl, hc⟩ := h
  have hlt : b < w.heap.size := World.block_lt_of_cell? w _ hc
  exact ⟨b, off, rfl, (World.cell?_of_block (w := w) (w' := w') (a := ⟨b, off + j, none⟩) (k.block b hlt (hS _ rfl))).trans hc⟩

theorem RowAt.kp {S : Nat → Prop} {w w' : World} {a : Option Addr} {cs : List Value} (h : RowAt w a cs) (k : Kp S w w') (hS : ∀ p, a = some p → ¬ S p.block) : RowAt w' a cs :=
  fun j u hu => (h j u hu).kp k hS

theorem RowAt.drewN {w : World} {a : Option Addr} {cs : List Value} (h : RowAt w a cs) (n : Nat) : RowAt (w.drewN n) a cs := h

theorem Blk.rowAt {w : World} {b : Nat} {c : Array Value} {t : TypeId} (h : Blk w b c t) {off n : Nat} {cs : List Value} (hc : (c.toList.drop off).take n = cs) : RowAt w (some ⟨b, off, none⟩) cs := by
  intro j u hu
  refine ⟨b, off, rfl, h.cell ?_⟩
  subst hc
  rw [List.getElem?_take] at hu
  split at hu
  · rw [List.getElem?_drop] at hu; simpa using hu
  · cases hu

theorem Blk.intsAt {w : World} {b : Nat} {l : List Int} {t : TypeId} (h : Blk w b (ints l) t) : IntsAt w (some ⟨b, 0, none⟩) l :=
  h.rowAt (n := l.length) (by simp [ints]; exact List.take_of_length_le (by simp))

/-- v owns the row cs: a slice of one-cell elements of type e that begins a block from base on -/
def Own (w : World) (base : Nat) (e : TypeId) (v : Value) (cs : List Value) : Prop := w.ownsRow base e 1 v cs.length cs

section
variable {w w' : World} {base : Nat} {e : TypeId} {v : Value} {cs : List Value}

theorem Own.nil (w : World) (base : Nat) (e : TypeId) : Own w base e (.slice none 0 0) [] := World.ownsRow_nil _ _ _ _

theorem Own.form (h : Own w base e v cs) : ∃ a cap, v = .slice a cs.length cap ∧ cs.length ≤ cap ∧ cap ≤ maxLen ∧ (∀ p, a = some p → ∃ g, p = ⟨g, 0, none⟩ ∧ base ≤ g ∧ g < w.heap.size) ∧ RowAt w a cs := by
  rcases h.2 with ⟨rfl, hn⟩ | ⟨g, cap, cur, rfl, hb, hg, hnc, hcm, hcs, htake⟩
  · refine ⟨none, 0, by rw [hn], by omega, by simp [maxLen], fun p hp => by simp at hp, ?_⟩
    have : cs = [] := List.eq_nil_of_length_eq_zero hn
    subst this
    exact RowAt.nil _ _
  · refine ⟨_, cap, rfl, hnc, hcm, fun p hp => ⟨g, by simpa using hp.symm, hb, (Array.getElem?_eq_some_iff.1 hg).1⟩, ?_⟩
    have hB : Blk w g cur e := hg
    exact hB.rowAt (off := 0) (n := cs.length * 1) (by simpa using htake)

theorem Own.kp {S : Nat → Prop} (h : Own w base e v cs) (k : Kp S w w') (hS : ∀ j, v.ownBlock = some j → ¬ S j) : Own w' base e v cs := by
  refine ⟨h.1, ?_⟩
  rcases h.2 with hn | ⟨g, cap, cur, rfl, hb, hgg, rest⟩
  · exact .inl hn
  · refine .inr ⟨g, cap, cur, rfl, hb, ?_, rest⟩
    rw [k.block g (Array.getElem?_eq_some_iff.1 hgg).1 (hS g rfl)]
    exact hgg

theorem Own.mono {b' : Nat} (h : Own w base e v cs) (hb : b' ≤ base) : Own w b' e v cs := by
  refine ⟨h.1, ?_⟩
  rcases h.2 with hn | ⟨g, cap, cur, rfl, hg, hgg, rest⟩
  · exact .inl hn
  · exact .inr ⟨g, cap, cur, rfl, by omega, hgg, rest⟩

theorem Own.lt (h : Own w base e v cs) : ∀ k, v.ownBlock = some k → base ≤ k ∧ k < w.heap.size := World.ownsRow.lt h

/-- a slice that owns something leads somewhere -/
theorem Own.leads (h : Own w base e v cs) (hc : 0 < cs.length) : ∃ g cap, v = .slice (some ⟨g, 0, none⟩) cs.length cap ∧ base ≤ g ∧ g < w.heap.size := by
  rcases h.2 with ⟨rfl, hn⟩ | ⟨g, cap, cur, rfl, hb, hg, _⟩
  · omega
  · exact ⟨g, cap, rfl, hb, (Array.getElem?_eq_some_iff.1 hg).1⟩

theorem Own.cell {g n cap : Nat} (h : Own w base e (.slice (some ⟨g, 0, none⟩) n cap) cs) {j : Nat} {u : Value} (hj : cs[j]? = some u) : w.cell? ⟨g, j, none⟩ = some u := by
  have hl : j < cs.length := by
    rcases Nat.lt_or_ge j cs.length with h | h
    · exact h
    · rw [List.getElem?_eq_none h] at hj; cases hj
  have hn : n = cs.length := by
    obtain ⟨a, c, e, _⟩ := h.form
    simp only [Value.slice.injEq] at e
    exact e.2.1
  subst hn
  rw [World.ownsRow.cellAt (show w.ownsRow base e 1 _ _ _ from h) j (by omega), hj]

theorem Own.free {g n cap : Nat} (h : Own w base e (.slice (some ⟨g, 0, none⟩) n cap) cs) (j : Nat) : w.frozen? ⟨g, j, none⟩ = false := by
  have hn : n = cs.length := by
    obtain ⟨a, c, e, _⟩ := h.form
    simp only [Value.slice.injEq] at e
    exact e.2.1
  subst hn
  exact World.ownsRow.frozenAt (show w.ownsRow base e 1 _ _ _ from h) j

theorem Own.set {g n cap : Nat} (h : Own w base e (.slice (some ⟨g, 0, none⟩) n cap) cs) (j : Nat) (u : Value) :
    Own (w.setCell ⟨g, j, none⟩ u) base e (.slice (some ⟨g, 0, none⟩) n cap) (cs.set j u) := by
  have hn : n = cs.length := by
    obtain ⟨a, c, e, _⟩ := h.form
    simp only [Value.slice.injEq] at e
    exact e.2.1
  subst hn
  have := (World.ownsRow.stored (show w.ownsRow base e 1 _ _ _ from h) j u).1
  unfold Own
  rw [List.length_set]
  exact this

theorem Own.set_other (h : Own w base e v cs) {p : Addr} (hp : ∀ j, v.ownBlock = some j → j ≠ p.block) (u : Value) : Own (w.setCell p u) base e v cs :=
  h.kp (Kp.set w p u) (fun j hj e => hp j hj e)

theorem Own.drew (h : Own w base e v cs) : Own w.drew base e v cs := h
theorem Own.drewN (h : Own w base e v cs) (n : Nat) : Own (w.drewN n) base e v cs := h
theorem Own.alloc (h : Own w base e v cs) (o : Obj) : Own (w.alloc o) base e v cs := World.ownsRow.alloc h o
end

/-- 'append(v, u)': v owns cs; the new element lies at ad -/
theorem wpList_append1 {P : Program} {w : World} {ops : Array Oper} {rest : List Oper} {o : Oper} {a : Act} {Q : Exit → Act → World → Prop} (hgd : o.guard = none) (s x : Operand) (t e : TypeId)
    (ho : o.op = .call { callee := .builtin .append, args := #[s, x], argTypes := #[t, t] }) {z : Value} {bytes : Nat}
    (ht : P.underlying t = some (.slice e)) (hI : (P.info? e).map (fun i => (i.zero, i.size, i.bytes)) = some (some z, 1, bytes)) (hzs : z.cells.size = 1)
    {base : Nat} {v : Value} {cs : List Value} (hown : Own w base e v cs) (hs : a.eval s = v) (ad : Addr) (u : Value) (hx : a.eval x = .slice (some ad) 1 1) (hnew : w.cell? ad = some u) (h1 : u.oneCell' = true)
    (hbytes : (cs.length + 1) * bytes ≤ 140737488355328) (hm : cs.length + 1 ≤ maxLen) (hbase : base ≤ w.heap.size)
    (h : ∀ v' w', Own w' base e v' (cs ++ [u]) → w.grownBy w' v.ownBlock → wpList P ops Q rest (a.put o.dst v') w') : wpList P ops Q (o :: rest) a w := by
  obtain ⟨i0, hi, hz0, hz1, hz2⟩ := info_parts hI
  refine wpList_append_own _ hgd s x t ho base e i0 z 1 bytes ht hi hz0 hz1 hz2 hzs (by decide) v cs.length cs hs hown ad 1 1 [u] hx rfl ?_ ?_ hm hbytes hbase ?_
  · intro j u' hj
    match j, hj with
    | 0, hj =>
      have : ad.add 0 = ad := by unfold Addr.add; split <;> simp_all
      simp at hj
      rw [this, ← hj]; exact hnew
  · intro u' hu; simp at hu; subst hu; exact h1
  · intro v' w' h2 h3 _
    exact h v' w' (by unfold Own; rw [List.length_append]; exact h2) h3

theorem add_plain' (b off n : Nat) : (⟨b, off, none⟩ : Addr).add n = ⟨b, off + n, none⟩ := by
  unfold Addr.add
  split <;> simp_all

/-- 'append(v, xs...)': v owns cs; the source reads news -/
theorem wpList_appendAll {P : Program} {w : World} {ops : Array Oper} {rest : List Oper} {o : Oper} {a : Act} {Q : Exit → Act → World → Prop} (hgd : o.guard = none) (s x : Operand) (t e : TypeId)
    (ho : o.op = .call { callee := .builtin .append, args := #[s, x], argTypes := #[t, t] }) {z : Value} {bytes : Nat}
    (ht : P.underlying t = some (.slice e)) (hI : (P.info? e).map (fun i => (i.zero, i.size, i.bytes)) = some (some z, 1, bytes)) (hzs : z.cells.size = 1)
    {base : Nat} {v : Value} {cs : List Value} (hown : Own w base e v cs) (hs : a.eval s = v) (src : Option Addr) (m c : Nat) (news : List Value) (hx : a.eval x = .slice src m c) (hm : news.length = m) (hrow : RowAt w src news) (hnil : src = none → c = 0) (h1 : ∀ u ∈ news, u.oneCell' = true)
    (hbytes : (cs.length + m) * bytes ≤ 140737488355328) (hml : cs.length + m ≤ maxLen) (hbase : base ≤ w.heap.size)
    (h : ∀ v' w', Own w' base e v' (cs ++ news) → w.grownBy w' v.ownBlock → wpList P ops Q rest (a.put o.dst v') w') : wpList P ops Q (o :: rest) a w := by
  obtain ⟨i0, hi, hz0, hz1, hz2⟩ := info_parts hI
  cases src with
  | none =>
    have hn : news = [] := by
      cases news with
      | nil => rfl
      | cons u r => obtain ⟨_, _, h, _⟩ := hrow 0 u rfl; cases h
    subst hn
    have hm0 : m = 0 := by simpa using hm.symm
    subst hm0
    rw [hnil rfl] at hx
    refine wpList_append_own_none hgd s x t ho base e i0 1 ht hi v cs.length cs hs hown hx ?_
    exact h v w (by rw [List.append_nil]; exact hown) ⟨rfl, rfl, rfl, Nat.le_refl _, fun _ _ _ => rfl⟩
  | some ad =>
    refine wpList_append_own _ hgd s x t ho base e i0 z 1 bytes ht hi hz0 hz1 hz2 hzs (by decide) v cs.length cs hs hown ad m c news hx (by omega) ?_ h1 hml hbytes hbase ?_
    · intro j u hj
      obtain ⟨b, off, hab, hc⟩ := hrow j u hj
      simp only [Option.some.injEq] at hab
      subst hab
      rw [add_plain']
      exact hc
    · intro v' w' h2 h3 _
      exact h v' w' (by unfold Own; rw [List.length_append, hm]; exact h2) h3

/-- a slice of ints that came in -/
def IntsArg (w : World) (v : Value) : Prop :=
  ∃ (a : Option Addr) (len cap : Nat) (l : List Int), v = .slice a len cap ∧ l.length = len ∧ len ≤ cap ∧ cap ≤ maxLen ∧ (a = none → cap = 0) ∧ IntsAt w a l ∧ ∀ x ∈ l, -9223372036854775808 ≤ x ∧ x ≤ 9223372036854775807

theorem RowAt.take {w : World} {a : Option Addr} {cs : List Value} (h : RowAt w a cs) (m : Nat) : RowAt w a (cs.take m) := by
  intro j u hu
  rw [List.getElem?_take] at hu
  split at hu
  · exact h j u hu
  · cases hu

end Go.Proofs.YtjeaggfjjdfacaaDoor

/-
  Layer 1 in plain words: bytes of a string, the number at a place.
-/
namespace Go.Proofs.YtjeaggfjjdfacaaDoor
open Go.RowKit

/-- the byte at a place -/
def bt (s : ByteArray) (i : Nat) : Nat := if h : i < s.size then (s[i]'h).toNat else 0

theorem bt_eq {s : ByteArray} {i : Nat} (h : i < s.size) : (s[i]'h).toNat = bt s i := by simp [bt, h]
theorem bt_lt (s : ByteArray) (i : Nat) : bt s i < 256 := by
  unfold bt
  split
  · exact UInt8.toNat_lt _
  · decide

/-- the number at a place, by digits of seven bits: r rounds are left, k are done, n is what they came to -/
def getR (s : ByteArray) (at_ : Nat) : Nat → Nat → Nat → Nat × Nat × Nat
  | 0, _, _ => (0, 0, 5)
  | r + 1, k, n =>
    if at_ + k = s.size then (0, 0, 3)
    else if k = 4 ∧ 15 < bt s (at_ + k) then (0, 0, 5)
    else if 0 < k ∧ bt s (at_ + k) = 0 then (0, 0, 2)
    else if bt s (at_ + k) < 128 then (n + bt s (at_ + k) % 128 * 128 ^ k, at_ + k + 1, 0)
    else getR s at_ r (k + 1) (n + bt s (at_ + k) % 128 * 128 ^ k)

def getN (s : ByteArray) (at_ : Nat) : Nat × Nat × Nat := getR s at_ 5 0 0

/-- what Get tells, of any place -/
def getT (s : ByteArray) (x : Int) : Nat × Nat × Nat := if x < 0 ∨ (s.size : Int) < x then (0, 0, 1) else getN s x.toNat

theorem nat_or_add {n k y : Nat} (h : n < 2 ^ k) : n ||| (y * 2 ^ k) = n + y * 2 ^ k := by
  have h1 := Nat.two_pow_add_eq_or_of_lt h y
  rw [Nat.or_comm, Nat.mul_comm y, ← h1]
  omega

theorem or_u32 {n y : Nat} (hn : n < 4294967296) (hy : y < 4294967296) : bits .or .u32 (n : Int) (y : Int) = ((n ||| y : Nat) : Int) := Go.u32_or_nat n y hn hy

theorem and_127 (b : Nat) (h : b < 256) : bits .and .u8 (b : Int) 127 = ((b % 128 : Nat) : Int) := by
  have h1 := Go.u8_and_nat b 127 h (by decide)
  have h2 : b &&& 127 = b % 128 := by
    have := Nat.and_two_pow_sub_one_eq_mod b 7
    simpa using this
  rw [h2] at h1
  exact h1

theorem pow_128 (k : Nat) : 128 ^ k = 2 ^ (7 * k) := by rw [Nat.pow_mul]

/-- one digit is put to the number -/
theorem digit_step {n c k : Nat} (hn : n < 128 ^ k) (hc : c * 128 ^ k < 4294967296) (hk : 128 ^ k ≤ 4294967296) :
    bits .or .u32 (n : Int) (((c : Nat) : Int) % 4294967296 * 2 ^ (7 * k) % 4294967296) = ((n + c * 128 ^ k : Nat) : Int) := by
  have e1 : (((c : Nat) : Int) % 4294967296 * 2 ^ (7 * k) % 4294967296) = ((c * 128 ^ k : Nat) : Int) := by
    have hc' : c < 4294967296 := by
      have : c * 1 ≤ c * 128 ^ k := Nat.mul_le_mul_left c (Nat.pos_of_ne_zero (by simp))
      omega
    rw [pow_128] at hc ⊢
    rw [show ((c : Nat) : Int) % 4294967296 = (c : Int) from Int.emod_eq_of_lt (by omega) (by omega)]
    have : ((c : Nat) : Int) * 2 ^ (7 * k) = ((c * 2 ^ (7 * k) : Nat) : Int) := by simp
    rw [this]
    generalize c * 2 ^ (7 * k) = z at hc
    omega
  rw [e1, or_u32 (by omega) hc]
  rw [pow_128] at hn ⊢
  rw [nat_or_add hn]

theorem digit_step2 {n B k : Nat} (hn : n < 128 ^ k) (hc : B % 128 * 128 ^ k < 4294967296) (hk : 128 ^ k ≤ 4294967296) :
    bits .or .u32 (n : Int) ((B : Int) % 128 * 2 ^ (7 * k) % 4294967296) = ((n + B % 128 * 128 ^ k : Nat) : Int) := by
  have h := digit_step hn hc hk
  rw [← h]
  congr 3
  omega

end Go.Proofs.YtjeaggfjjdfacaaDoor

/-
  octet.Get and its reference: what they compute.
-/
namespace Go.Proofs.YtjeaggfjjdfacaaDoor
open Go.RowKit

theorem octet_out (s : ByteArray) (x : Int) (w : World) :
    Calls Tryd.prog 28 #[.string s, .int .i64 x] w fun e w' => e = .returned (.bool (decide (x < 0) || decide ((s.size : Int) < x))) ∧ w = w' := by
  by_cases h : x < 0
  · go_enter Tryd.func28, Tryd.ntmps28
    go_wp2
    go_ret
    exact ⟨by simp [h], rfl⟩
  · go_enter Tryd.func28, Tryd.ntmps28
    go_wp2
    go_ret
    exact ⟨by simp; omega, rfl⟩

def tripV (r : Nat × Nat × Nat) : Value := .tuple #[.int .u32 r.1, .int .i64 r.2.1, .int .i64 r.2.2]

/-- what one round of getR comes to -/
theorem getR_step (s : ByteArray) (at_ r k n : Nat) :
    getR s at_ (r + 1) k n = if at_ + k = s.size then (0, 0, 3)
    else if k = 4 ∧ 15 < bt s (at_ + k) then (0, 0, 5)
    else if 0 < k ∧ bt s (at_ + k) = 0 then (0, 0, 2)
    else if bt s (at_ + k) < 128 then (n + bt s (at_ + k) % 128 * 128 ^ k, at_ + k + 1, 0)
    else getR s at_ r (k + 1) (n + bt s (at_ + k) % 128 * 128 ^ k) := rfl

theorem pow_le {k : Nat} (h : k ≤ 4) : 128 ^ k ≤ 268435456 := Nat.pow_le_pow_right (show 0 < 128 by decide) h

end Go.Proofs.YtjeaggfjjdfacaaDoor

/-
  ascii's reader: numbers and signs, one behind the other; the stop with which it panics, and what recovers it.
-/
namespace Go.Proofs.YtjeaggfjjdfacaaDoor
open Go.RowKit

theorem Blk.cells1 {w : World} {b : Nat} {x0 : Value} {t : TypeId} (h : Blk w b #[x0] t) : w.cell? ⟨b, 0, none⟩ = some x0 ∧ w.frozen? ⟨b, 0, none⟩ = false := ⟨h.cell rfl, h.free 0⟩
theorem Blk.cells2 {w : World} {b : Nat} {x0 x1 : Value} {t : TypeId} (h : Blk w b #[x0, x1] t) :
    w.cell? ⟨b, 0, none⟩ = some x0 ∧ w.cell? ⟨b, 1, none⟩ = some x1 ∧ w.frozen? ⟨b, 0, none⟩ = false ∧ w.frozen? ⟨b, 1, none⟩ = false := ⟨h.cell rfl, h.cell rfl, h.free 0, h.free 1⟩

/-- what a reader stops with: an error at a place -/
def stopV (p e : Int) : Value := .iface 58 (.agg #[.int .i64 p, .int .i64 e])

theorem ascii_fail (r : Value) (p e : Int) (w : World) :
    Calls Tryd.prog 20 #[r, .int .i64 p, .int .i64 e] w fun o w' => o = .panicked [{ v := stopV p e, recovered := false }] ∧ w = w' := by
  go_enter Tryd.func20, Tryd.ntmps20
  go_wp2
  exact ⟨rfl, rfl, rfl⟩

theorem stop_is (v : Value) (u : World) : (Instr.typeAssert (.iface 58 v) 20 58 true).run Tryd.prog u = .ok (.tuple #[v, .bool true]) u := by kernel_rfl

set_option maxRecDepth 100000 in
set_option maxHeartbeats 1000000 in
/-- a deferred stopped behind a stop: the place and the error are laid -/
theorem stopped_panicking (ba be : Nat) (p e : Int) (x y : Value) (older : List PanicEntry) (w : World) (hne : ba ≠ be) (hA : Blk w ba #[x] 3) (hE : Blk w be #[y] 24) :
    CallsD Tryd.prog 10 #[.pointer (some ⟨ba, 0, none⟩), .pointer (some ⟨be, 0, none⟩)] (.panicking ({ v := stopV p e, recovered := false } :: older)) w fun o u' w' =>
      o = .returned (.tuple #[]) ∧ u' = .panicking ({ v := stopV p e, recovered := true } :: older) ∧ Blk w' ba #[.int .i64 p] 3 ∧ Blk w' be #[.int .i64 e] 24 ∧ Kp (fun j => j = ba ∨ j = be) w w' := by
  obtain ⟨a0, fa⟩ := hA.cells1
  obtain ⟨e0, fe⟩ := hE.cells1
  have la := hA.lt
  have le := hE.lt
  have HA := Lib.hid hA
  have HE := Lib.hid hE
  clear hA hE
  refine callsD_of_wpS Tryd.func10 rfl fun c₀ cs hu => ?_
  simp only [Tryd.ntmps10, List.size_toArray, List.length_cons, List.length_nil, Nat.reduceAdd, Nat.reduceSub, Array.replicate_succ,
     Array.replicate_zero, List.push_toArray, List.append_toArray, List.nil_append, List.cons_append]
  apply wpS_seq
  apply wpS_region
  simp [wpOpsS, go_sem, recoverD, hu, Exit.thenS, stopV]
  refine wpS_of_wp ?_
  have hst := fun v u => stop_is v u
  go_wp2
  go_region
  all_goals go_wp2
  refine ⟨rfl, _, rfl, _, by simp [results, Tryd.results10], rfl, rfl, ?_, ?_, ?_⟩
  · exact (((HA.out.set_same 0 _).set_other (p := ⟨be, 0, none⟩) hne _).alloc _).drew
  · exact (((HE.out.set_other (p := ⟨ba, 0, none⟩) (fun h => hne h.symm) _).set_same 0 _).alloc _).drew
  · exact ((((Kp.refl _ w).setCell (p := ⟨ba, 0, none⟩) (fun _ => .inl rfl) _).setCell (p := ⟨be, 0, none⟩) (fun _ => .inr rfl) _).alloc _).drew

/-- a deferred stopped behind a return: nothing is turned -/
theorem stopped_idle (p q : Value) (w : World) :
    CallsD Tryd.prog 10 #[p, q] .returning w fun o u' w' => o = .returned (.tuple #[]) ∧ u' = .returning ∧ w = w' := by
  refine callsD_of_wpS Tryd.func10 rfl fun c₀ cs hu => ?_
  simp only [Tryd.ntmps10, List.size_toArray, List.length_cons, List.length_nil, Nat.reduceAdd, Nat.reduceSub, Array.replicate_succ,
     Array.replicate_zero, List.push_toArray, List.append_toArray, List.nil_append, List.cons_append]
  apply wpS_seq
  apply wpS_region
  simp [wpOpsS, go_sem, recoverD, hu, Exit.thenS]
  refine wpS_of_wp ?_
  go_wp2
  cases c₀
  simp_all [bodyPostS, results, Tryd.results10]

end Go.Proofs.YtjeaggfjjdfacaaDoor

/-
  Layer 1 in plain words: the number whose digits stand at a place.
-/
namespace Go.Proofs.YtjeaggfjjdfacaaDoor
open Go.RowKit

/-- whether the byte at a place is a digit -/
def isDig (s : ByteArray) (i : Nat) : Prop := 48 ≤ bt s i ∧ bt s i ≤ 57

/-- how many digits stand from a place on -/
def runL (s : ByteArray) : Nat → Nat → Nat
  | 0, _ => 0
  | f + 1, i => if 48 ≤ bt s i ∧ bt s i ≤ 57 then runL s f (i + 1) + 1 else 0

def endOf (s : ByteArray) (i : Nat) : Nat := i + runL s (s.size - i) i

theorem runL_le (s : ByteArray) (f : Nat) : ∀ i, runL s f i ≤ f := by
  induction f with
  | zero => intro i; simp [runL]
  | succ f ih => intro i; simp only [runL]; split; (have := ih (i + 1); omega); omega

theorem runL_dig (s : ByteArray) (f : Nat) : ∀ i j, j < runL s f i → isDig s (i + j) := by
  induction f with
  | zero => intro i j h; simp [runL] at h
  | succ f ih =>
    intro i j h
    simp only [runL] at h
    split at h
    · rename_i hd
      cases j with
      | zero => exact hd
      | succ j => have := ih (i + 1) j (by omega); rw [show i + (j + 1) = i + 1 + j from by omega]; exact this
    · omega

theorem runL_stop (s : ByteArray) (f : Nat) : ∀ i, runL s f i < f → ¬ isDig s (i + runL s f i) := by
  induction f with
  | zero => intro i h; omega
  | succ f ih =>
    intro i h
    simp only [runL] at h ⊢
    split
    · rename_i hd
      rw [if_pos hd] at h
      have := ih (i + 1) (by omega)
      rw [show i + (runL s f (i + 1) + 1) = i + 1 + runL s f (i + 1) from by omega]
      exact this
    · rename_i hd; rw [Nat.add_zero]; exact hd

theorem endOf_ge (s : ByteArray) (i : Nat) : i ≤ endOf s i := by unfold endOf; omega
theorem endOf_le {s : ByteArray} {i : Nat} (h : i ≤ s.size) : endOf s i ≤ s.size := by
  have := runL_le s (s.size - i) i
  unfold endOf; omega

/-- where digits stand up to j and none at j, j is the end -/
theorem endOf_is {s : ByteArray} {i j : Nat} (hij : i ≤ j) (hj : j ≤ s.size) (h : ∀ k, i ≤ k → k < j → isDig s k) (hs : j = s.size ∨ ¬ isDig s j) : endOf s i = j := by
  have h1 := runL_le s (s.size - i) i
  unfold endOf
  rcases Nat.lt_trichotomy (i + runL s (s.size - i) i) j with h2 | h2 | h2
  · exact absurd (h _ (by omega) h2) (runL_stop s (s.size - i) i (by omega))
  · exact h2
  · have := runL_dig s (s.size - i) i (j - i) (by omega)
    rw [show i + (j - i) = j from by omega] at this
    rcases hs with e | e
    · omega
    · exact absurd this e

/-- the number of k digits -/
def numb (s : ByteArray) (i : Nat) : Nat → Nat
  | 0 => 0
  | k + 1 => 10 * numb s i k + (bt s (i + k) - 48)

theorem numb_lt {s : ByteArray} {i : Nat} (k : Nat) (h : ∀ j, j < k → isDig s (i + j)) : numb s i k < 10 ^ k := by
  induction k with
  | zero => simp [numb]
  | succ k ih =>
    have h1 := ih (fun j hj => h j (by omega))
    have h2 := h k (by omega)
    unfold isDig at h2
    simp only [numb]
    rw [Nat.pow_succ]
    omega

def natN (s : ByteArray) (i : Nat) : Nat × Nat × Nat :=
  if i = s.size then (0, 0, 3)
  else if endOf s i = i ∨ bt s i = 48 ∧ i + 1 < endOf s i then (0, 0, 2)
  else if 9 < endOf s i - i then (0, 0, 5)
  else (numb s i (endOf s i - i), endOf s i, 0)

def natT (s : ByteArray) (x : Int) : Nat × Nat × Nat := if x < 0 ∨ (s.size : Int) < x then (0, 0, 1) else natN s x.toNat

theorem byte_at {s : ByteArray} {i : Nat} (h : i < s.size) : ∃ b : UInt8, s.data.toList[i]? = some b ∧ b.toNat = bt s i := by
  refine ⟨s[i]'h, ?_, bt_eq h⟩
  have h2 : i < s.data.size := h
  rw [Array.getElem?_toList, Array.getElem?_eq_getElem h2]
  rfl

theorem word_dec {s : ByteArray} {i : Nat} (k : Nat) (hk : i + k ≤ s.size) (h : ∀ j, j < k → isDig s (i + j)) : Lib.decFrom 0 ((s.data.toList.drop i).take k) = some (numb s i k) := by
  induction k with
  | zero => simp [Lib.decFrom, numb]
  | succ k ih =>
    have h1 := ih (by omega) (fun j hj => h j (by omega))
    obtain ⟨b, hb, hb2⟩ := byte_at (s := s) (i := i + k) (by omega)
    have hd := h k (by omega)
    unfold isDig at hd
    have hv : Lib.digitVal b = some (bt s (i + k) - 48) := by
      unfold Lib.digitVal
      rw [if_pos ⟨by omega, by omega⟩, hb2]
    have := Lib.decFrom_take (s.data.toList.drop i) k 0 (numb s i k) b _ h1 (by rw [List.getElem?_drop]; exact hb) hv
    rw [this]
    simp only [numb]
    congr 1
    omega

theorem word_atoi {s : ByteArray} {i k : Nat} (hk0 : 0 < k) (hk : i + k ≤ s.size) (h : ∀ j, j < k → isDig s (i + j)) : Lib.atoi ((s.data.toList.drop i).take k) = some (numb s i k : Int) := by
  obtain ⟨b, hb, hb2⟩ := byte_at (s := s) (i := i) (by omega)
  have h0 := h 0 hk0
  unfold isDig at h0
  rw [Nat.add_zero] at h0
  have hd := word_dec k hk h
  have hlen : i < s.data.toList.length := by rw [← Lib.size_eq]; omega
  have e : (s.data.toList.drop i).take k = b :: ((s.data.toList.drop (i + 1)).take (k - 1)) := by
    obtain ⟨k', rfl⟩ : ∃ k', k = k' + 1 := ⟨k - 1, by omega⟩
    rw [List.drop_eq_getElem_cons hlen, List.take_succ_cons]
    rw [List.getElem?_eq_getElem hlen] at hb
    simp only [Option.some.injEq] at hb
    rw [hb]
    rfl
  rw [e] at hd ⊢
  have n1 : (b == 45) = false := by
    rw [beq_eq_false_iff_ne]; intro h; subst h; simp at hb2; omega
  have n2 : (b == 43) = false := by
    rw [beq_eq_false_iff_ne]; intro h; subst h; simp at hb2; omega
  simp only [Lib.atoi, n1, n2, Bool.false_eq_true, if_false, Lib.decNat, List.isEmpty_cons, hd, Option.map_some]

theorem cut_size {s : ByteArray} {i n : Nat} (h : i + n ≤ s.size) : (s.extract i (i + n)).size = n := by
  rw [ByteArray.size_extract]; omega

theorem cut_list {s : ByteArray} {i n : Nat} : (s.extract i (i + n)).data.toList = (s.data.toList.drop i).take n := by
  rw [Lib.extract_data, show i + n - i = n from by omega]

theorem cut_empty (s : ByteArray) (i : Nat) : (s.extract i i).toList = [] := by
  rw [Lib.extract_toList]; simp

theorem cut_first {s : ByteArray} {i n : Nat} (h : i + n ≤ s.size) (h0 : 0 < (s.extract i (i + n)).size) : ((s.extract i (i + n))[0]'h0).toNat = bt s i := by
  have hn : 0 < n := by rw [cut_size h] at h0; exact h0
  rw [ByteArray.getElem_extract]
  simp only [Nat.add_zero]
  exact bt_eq (by omega)

theorem cut_some {s : ByteArray} {i n : Nat} (h : i + n ≤ s.size) (hn : 0 < n) : (s.extract i (i + n)).toList ≠ [] := by
  intro e
  have h1 := congrArg List.length e
  rw [Lib.toList_data, ← Lib.size_eq, cut_size h] at h1
  simp at h1
  omega

end Go.Proofs.YtjeaggfjjdfacaaDoor

/-
  The library's contracts at this dump, as the kit's own tool lays them.
-/
namespace Go.Proofs
open Go.Shelf
def Tryd.lays156_ren : Go.Shelf.Ren := ⟨fun | 156 => 23 | 165 => 33 | 166 => 34 | 169 => 35 | 240 => 40 | 241 => 41 | 276 => 48 | 277 => 49 | n => n, fun | 31 => 63 | 9 => 9 | 3 => 3 | 4 => 4 | 0 => 0 | 20 => 20 | 72 => 83 | 76 => 78 | 70 => 80 | 37 => 81 | 75 => 77 | 127 => 87 | 164 => 95 | 5 => 5 | 80 => 85 | n => n, fun | n => n⟩
theorem Tryd.lays156 : Go.Proofs.Lays.n156 Tryd.prog Tryd.lays156_ren := {
  mixed := by kernel_rfl
  f156 := Tryd.func23.trans (congrArg some (by kernel_rfl))
  f165 := Tryd.func33.trans (congrArg some (by kernel_rfl))
  f166 := Tryd.func34.trans (congrArg some (by kernel_rfl))
  f169 := Tryd.func35.trans (congrArg some (by kernel_rfl))
  f240 := Tryd.func40.trans (congrArg some (by kernel_rfl))
  f241 := Tryd.func41.trans (congrArg some (by kernel_rfl))
  f276 := Tryd.func48.trans (congrArg some (by kernel_rfl))
  f277 := Tryd.func49.trans (congrArg some (by kernel_rfl))
  t0 := Tryd.underlying0
  a0 := Tryd.isAgg0
  z0 := Tryd.sizeOf0
  v0 := Tryd.zeroValue0
  t3 := Tryd.underlying3
  a3 := Tryd.isAgg3
  z3 := Tryd.sizeOf3
  v3 := Tryd.zeroValue3
  t4 := Tryd.underlying4
  a4 := Tryd.isAgg4
  z4 := Tryd.sizeOf4
  v4 := Tryd.zeroValue4
  t9 := Tryd.underlying9
  a9 := Tryd.isAgg9
  z9 := Tryd.sizeOf9
  v9 := Tryd.zeroValue9
  t20 := Tryd.underlying20
  a20 := Tryd.isAgg20
  z20 := Tryd.sizeOf20
  v20 := Tryd.zeroValue20
  t31 := Tryd.underlying63
  a31 := Tryd.isAgg63
  z31 := Tryd.sizeOf63
  v31 := Tryd.zeroValue63
  t37 := Tryd.underlying81
  a37 := Tryd.isAgg81
  z37 := Tryd.sizeOf81
  v37 := Tryd.zeroValue81
  t70 := Tryd.underlying80
  a70 := Tryd.isAgg80
  z70 := Tryd.sizeOf80
  v70 := Tryd.zeroValue80
  t72 := Tryd.underlying83
  a72 := Tryd.isAgg83
  z72 := Tryd.sizeOf83
  v72 := Tryd.zeroValue83
  t75 := Tryd.underlying77
  a75 := Tryd.isAgg77
  z75 := Tryd.sizeOf77
  v75 := Tryd.zeroValue77
  t76 := Tryd.underlying78
  a76 := Tryd.isAgg78
  z76 := Tryd.sizeOf78
  v76 := Tryd.zeroValue78
  t127 := Tryd.underlying87
  a127 := Tryd.isAgg87
  z127 := Tryd.sizeOf87
  v127 := Tryd.zeroValue87
  t164 := Tryd.underlying95
  a164 := Tryd.isAgg95
  z164 := Tryd.sizeOf95
  v164 := Tryd.zeroValue95 }
theorem Tryd.Builder_Extra_156 : Builder.Extra Tryd.prog Tryd.lays156_ren := {
  sizeBuilder := by kernel_rfl
  liesBuilder := by kernel_rfl
  t5 := Tryd.underlying5
  a5 := Tryd.isAgg5
  z5 := Tryd.sizeOf5
  v5 := Tryd.zeroValue5
  infoByte := by kernel_rfl
  cellsByte := by kernel_rfl
  sizeByte := by kernel_rfl
  neB5 := by decide }
open Go.RowKit in
theorem Tryd.strings_Join_none (a : Option Addr) (c : Nat) (sep : ByteArray) (w : World) :
    Calls Tryd.prog 23 #[.slice a 0 c, .string sep] w fun e w' => e = .returned (.string ⟨#[]⟩) ∧ w' = w := Any.strings_Join_none Tryd.lays156 Tryd.Builder_Extra_156 a c sep w
open Go.RowKit in
theorem Tryd.strings_Join (bk o c : Nat) (xs : List ByteArray) (sep : ByteArray) (w : World) (hcells : ∀ (j : Nat) x, xs[j]? = some x → w.cell? ⟨bk, o + j, none⟩ = some (.string x)) (hbk : bk < w.heap.size) (hN : xs.length ≤ 140737488355328) (hcap : xs.length ≤ c) (hlen : (Lib.join (xs.map (·.data.toList)) sep.data.toList).length ≤ 140737488355328) :
    Calls Tryd.prog 23 #[.slice (some ⟨bk, o, none⟩) xs.length c, .string sep] w fun e w' => e = .returned (.string ⟨(Lib.join (xs.map (·.data.toList)) sep.data.toList).toArray⟩) ∧ Below w.heap.size w w' := Any.strings_Join Tryd.lays156 Tryd.Builder_Extra_156 bk o c xs sep w hcells hbk hN hcap hlen
def Tryd.lays137_ren : Go.Shelf.Ren := ⟨fun | 137 => 21 | 217 => 31 | 266 => 38 | n => n, fun | 9 => 9 | 5 => 5 | 3 => 3 | n => n, fun | n => n⟩
theorem Tryd.lays137 : Go.Proofs.Lays.n137 Tryd.prog Tryd.lays137_ren := {
  mixed := by kernel_rfl
  f137 := Tryd.func21.trans (congrArg some (by kernel_rfl))
  f217 := Tryd.func31.trans (congrArg some (by kernel_rfl))
  f266 := Tryd.func38.trans (congrArg some (by kernel_rfl))
  t3 := Tryd.underlying3
  a3 := Tryd.isAgg3
  z3 := Tryd.sizeOf3
  v3 := Tryd.zeroValue3
  t5 := Tryd.underlying5
  a5 := Tryd.isAgg5
  z5 := Tryd.sizeOf5
  v5 := Tryd.zeroValue5
  t9 := Tryd.underlying9
  a9 := Tryd.isAgg9
  z9 := Tryd.sizeOf9
  v9 := Tryd.zeroValue9 }
open Go.RowKit in
theorem Tryd.strings_IndexByte (s : ByteArray) (c : Int) (w : World) :
    Calls Tryd.prog 21 #[.string s, .int .u8 c] w fun e w' => e = .returned (.int .i64 (Lib.indexByte s.data.toList c.toNat.toUInt8)) ∧ w' = w := Any.strings_IndexByte Tryd.lays137 s c w
def Tryd.lays172_ren : Go.Shelf.Ren := ⟨fun | 172 => 30 | 244 => 36 | 245 => 37 | 247 => 42 | 279 => 43 | 280 => 44 | 281 => 45 | 282 => 46 | 287 => 50 | 316 => 51 | 171 => 32 | 205 => 52 | 321 => 57 | 322 => 58 | 243 => 39 | 246 => 47 | 283 => 53 | 284 => 54 | 285 => 55 | 286 => 56 | 129 => 60 | 317 => 59 | 318 => 61 | 319 => 62 | 320 => 63 | 337 => 64 | 338 => 65 | n => n, fun | 9 => 9 | 3 => 3 | 75 => 77 | 76 => 78 | 4 => 4 | 5 => 5 | 167 => 88 | 37 => 81 | 0 => 0 | 85 => 89 | 2 => 2 | 168 => 91 | 53 => 98 | 175 => 99 | 46 => 101 | 210 => 104 | 127 => 87 | 145 => 115 | 143 => 113 | 21 => 21 | 171 => 106 | 173 => 109 | 212 => 117 | 51 => 118 | 20 => 20 | 213 => 119 | 232 => 123 | 233 => 124 | 80 => 85 | n => n, fun | 15 => 1 | 16 => 2 | 17 => 3 | 18 => 4 | 19 => 5 | n => n⟩
theorem Tryd.lays172 : Go.Proofs.Lays.n172 Tryd.prog Tryd.lays172_ren := {
  mixed := by kernel_rfl
  f129 := Tryd.func60.trans (congrArg some (by kernel_rfl))
  f171 := Tryd.func32.trans (congrArg some (by kernel_rfl))
  f172 := Tryd.func30.trans (congrArg some (by kernel_rfl))
  f205 := Tryd.func52.trans (congrArg some (by kernel_rfl))
  f243 := Tryd.func39.trans (congrArg some (by kernel_rfl))
  f244 := Tryd.func36.trans (congrArg some (by kernel_rfl))
  f245 := Tryd.func37.trans (congrArg some (by kernel_rfl))
  f246 := Tryd.func47.trans (congrArg some (by kernel_rfl))
  f247 := Tryd.func42.trans (congrArg some (by kernel_rfl))
  f279 := Tryd.func43.trans (congrArg some (by kernel_rfl))
  f280 := Tryd.func44.trans (congrArg some (by kernel_rfl))
  f281 := Tryd.func45.trans (congrArg some (by kernel_rfl))
  f282 := Tryd.func46.trans (congrArg some (by kernel_rfl))
  f283 := Tryd.func53.trans (congrArg some (by kernel_rfl))
  f284 := Tryd.func54.trans (congrArg some (by kernel_rfl))
  f285 := Tryd.func55.trans (congrArg some (by kernel_rfl))
  f286 := Tryd.func56.trans (congrArg some (by kernel_rfl))
  f287 := Tryd.func50.trans (congrArg some (by kernel_rfl))
  f316 := Tryd.func51.trans (congrArg some (by kernel_rfl))
  f317 := Tryd.func59.trans (congrArg some (by kernel_rfl))
  f318 := Tryd.func61.trans (congrArg some (by kernel_rfl))
  f319 := Tryd.func62.trans (congrArg some (by kernel_rfl))
  f320 := Tryd.func63.trans (congrArg some (by kernel_rfl))
  f321 := Tryd.func57.trans (congrArg some (by kernel_rfl))
  f322 := Tryd.func58.trans (congrArg some (by kernel_rfl))
  f337 := Tryd.func64.trans (congrArg some (by kernel_rfl))
  f338 := Tryd.func65.trans (congrArg some (by kernel_rfl))
  t0 := Tryd.underlying0
  a0 := Tryd.isAgg0
  z0 := Tryd.sizeOf0
  v0 := Tryd.zeroValue0
  t2 := Tryd.underlying2
  a2 := Tryd.isAgg2
  z2 := Tryd.sizeOf2
  v2 := Tryd.zeroValue2
  t3 := Tryd.underlying3
  a3 := Tryd.isAgg3
  z3 := Tryd.sizeOf3
  v3 := Tryd.zeroValue3
  t4 := Tryd.underlying4
  a4 := Tryd.isAgg4
  z4 := Tryd.sizeOf4
  v4 := Tryd.zeroValue4
  t5 := Tryd.underlying5
  a5 := Tryd.isAgg5
  z5 := Tryd.sizeOf5
  v5 := Tryd.zeroValue5
  t9 := Tryd.underlying9
  a9 := Tryd.isAgg9
  z9 := Tryd.sizeOf9
  v9 := Tryd.zeroValue9
  t20 := Tryd.underlying20
  a20 := Tryd.isAgg20
  z20 := Tryd.sizeOf20
  v20 := Tryd.zeroValue20
  t21 := Tryd.underlying21
  a21 := Tryd.isAgg21
  z21 := Tryd.sizeOf21
  v21 := Tryd.zeroValue21
  t37 := Tryd.underlying81
  a37 := Tryd.isAgg81
  z37 := Tryd.sizeOf81
  v37 := Tryd.zeroValue81
  t46 := Tryd.underlying101
  a46 := Tryd.isAgg101
  z46 := Tryd.sizeOf101
  v46 := Tryd.zeroValue101
  t51 := Tryd.underlying118
  a51 := Tryd.isAgg118
  z51 := Tryd.sizeOf118
  v51 := Tryd.zeroValue118
  t53 := Tryd.underlying98
  a53 := Tryd.isAgg98
  z53 := Tryd.sizeOf98
  v53 := Tryd.zeroValue98
  t75 := Tryd.underlying77
  a75 := Tryd.isAgg77
  z75 := Tryd.sizeOf77
  v75 := Tryd.zeroValue77
  t76 := Tryd.underlying78
  a76 := Tryd.isAgg78
  z76 := Tryd.sizeOf78
  v76 := Tryd.zeroValue78
  t85 := Tryd.underlying89
  a85 := Tryd.isAgg89
  z85 := Tryd.sizeOf89
  v85 := Tryd.zeroValue89
  t127 := Tryd.underlying87
  a127 := Tryd.isAgg87
  z127 := Tryd.sizeOf87
  v127 := Tryd.zeroValue87
  t143 := Tryd.underlying113
  a143 := Tryd.isAgg113
  z143 := Tryd.sizeOf113
  v143 := Tryd.zeroValue113
  t145 := Tryd.underlying115
  a145 := Tryd.isAgg115
  z145 := Tryd.sizeOf115
  v145 := Tryd.zeroValue115
  t167 := Tryd.underlying88
  a167 := Tryd.isAgg88
  z167 := Tryd.sizeOf88
  v167 := Tryd.zeroValue88
  t168 := Tryd.underlying91
  a168 := Tryd.isAgg91
  z168 := Tryd.sizeOf91
  v168 := Tryd.zeroValue91
  t171 := Tryd.underlying106
  a171 := Tryd.isAgg106
  z171 := Tryd.sizeOf106
  v171 := Tryd.zeroValue106
  t173 := Tryd.underlying109
  a173 := Tryd.isAgg109
  z173 := Tryd.sizeOf109
  v173 := Tryd.zeroValue109
  t175 := Tryd.underlying99
  a175 := Tryd.isAgg99
  z175 := Tryd.sizeOf99
  v175 := Tryd.zeroValue99
  t210 := Tryd.underlying104
  a210 := Tryd.isAgg104
  z210 := Tryd.sizeOf104
  v210 := Tryd.zeroValue104
  t212 := Tryd.underlying117
  a212 := Tryd.isAgg117
  z212 := Tryd.sizeOf117
  v212 := Tryd.zeroValue117
  t213 := Tryd.underlying119
  a213 := Tryd.isAgg119
  z213 := Tryd.sizeOf119
  t232 := Tryd.underlying123
  a232 := Tryd.isAgg123
  z232 := Tryd.sizeOf123
  v232 := Tryd.zeroValue123
  t233 := Tryd.underlying124
  a233 := Tryd.isAgg124
  z233 := Tryd.sizeOf124
  v233 := Tryd.zeroValue124
  g15 := by kernel_rfl
  g16 := by kernel_rfl
  g17 := by kernel_rfl
  g18 := by kernel_rfl
  g19 := by kernel_rfl }
open Go.RowKit in
theorem Tryd.strconv_Atoi (s : ByteArray) (n : Int) (hl : s.size ≤ 18) (h : Lib.atoi s.data.toList = some n) (w : World) :
    Calls Tryd.prog 30 #[.string s] w fun e w' => e = .returned (.tuple #[.int .i64 n, .nilIface]) ∧ ∃ t, w' = Lib.bytesWorld w 5 t := Any.strconv_Atoi Tryd.lays172 s n hl h w
def Tryd.laysM171_ren : Go.Shelf.Ren := ⟨fun | 171 => 32 | 243 => 39 | 246 => 47 | 283 => 53 | 284 => 54 | 285 => 55 | 286 => 56 | 129 => 60 | 317 => 59 | 318 => 61 | 319 => 62 | 320 => 63 | 337 => 64 | 338 => 65 | n => n, fun | 3 => 3 | 9 => 9 | 2 => 2 | 4 => 4 | 171 => 106 | 0 => 0 | 53 => 98 | 37 => 81 | 5 => 5 | 173 => 109 | 212 => 117 | 51 => 118 | 20 => 20 | 213 => 119 | 46 => 101 | 232 => 123 | 233 => 124 | n => n, fun | 17 => 3 | 18 => 4 | 19 => 5 | n => n⟩
theorem Tryd.laysM171 : Go.Proofs.LaysM.n171 Tryd.prog Tryd.laysM171_ren := {
  mixed := by kernel_rfl
  f129 := Tryd.func60.trans (congrArg some (by kernel_rfl))
  f171 := Tryd.func32.trans (congrArg some (by kernel_rfl))
  f243 := Tryd.func39.trans (congrArg some (by kernel_rfl))
  f246 := Tryd.func47.trans (congrArg some (by kernel_rfl))
  f283 := Tryd.func53.trans (congrArg some (by kernel_rfl))
  f284 := Tryd.func54.trans (congrArg some (by kernel_rfl))
  f285 := Tryd.func55.trans (congrArg some (by kernel_rfl))
  f286 := Tryd.func56.trans (congrArg some (by kernel_rfl))
  f317 := Tryd.func59.trans (congrArg some (by kernel_rfl))
  f318 := Tryd.func61.trans (congrArg some (by kernel_rfl))
  f319 := Tryd.func62.trans (congrArg some (by kernel_rfl))
  f320 := Tryd.func63.trans (congrArg some (by kernel_rfl))
  f337 := Tryd.func64.trans (congrArg some (by kernel_rfl))
  f338 := Tryd.func65.trans (congrArg some (by kernel_rfl))
  t0 := Tryd.underlying0
  a0 := Tryd.isAgg0
  z0 := Tryd.sizeOf0
  v0 := Tryd.zeroValue0
  t2 := Tryd.underlying2
  a2 := Tryd.isAgg2
  z2 := Tryd.sizeOf2
  v2 := Tryd.zeroValue2
  t3 := Tryd.underlying3
  a3 := Tryd.isAgg3
  z3 := Tryd.sizeOf3
  v3 := Tryd.zeroValue3
  t4 := Tryd.underlying4
  a4 := Tryd.isAgg4
  z4 := Tryd.sizeOf4
  v4 := Tryd.zeroValue4
  t5 := Tryd.underlying5
  a5 := Tryd.isAgg5
  z5 := Tryd.sizeOf5
  v5 := Tryd.zeroValue5
  t9 := Tryd.underlying9
  a9 := Tryd.isAgg9
  z9 := Tryd.sizeOf9
  v9 := Tryd.zeroValue9
  t20 := Tryd.underlying20
  a20 := Tryd.isAgg20
  z20 := Tryd.sizeOf20
  v20 := Tryd.zeroValue20
  t37 := Tryd.underlying81
  a37 := Tryd.isAgg81
  z37 := Tryd.sizeOf81
  v37 := Tryd.zeroValue81
  t46 := Tryd.underlying101
  a46 := Tryd.isAgg101
  z46 := Tryd.sizeOf101
  v46 := Tryd.zeroValue101
  t51 := Tryd.underlying118
  a51 := Tryd.isAgg118
  z51 := Tryd.sizeOf118
  v51 := Tryd.zeroValue118
  t53 := Tryd.underlying98
  a53 := Tryd.isAgg98
  z53 := Tryd.sizeOf98
  v53 := Tryd.zeroValue98
  t171 := Tryd.underlying106
  a171 := Tryd.isAgg106
  z171 := Tryd.sizeOf106
  v171 := Tryd.zeroValue106
  t173 := Tryd.underlying109
  a173 := Tryd.isAgg109
  z173 := Tryd.sizeOf109
  v173 := Tryd.zeroValue109
  t212 := Tryd.underlying117
  a212 := Tryd.isAgg117
  z212 := Tryd.sizeOf117
  v212 := Tryd.zeroValue117
  t213 := Tryd.underlying119
  a213 := Tryd.isAgg119
  z213 := Tryd.sizeOf119
  t232 := Tryd.underlying123
  a232 := Tryd.isAgg123
  z232 := Tryd.sizeOf123
  v232 := Tryd.zeroValue123
  t233 := Tryd.underlying124
  a233 := Tryd.isAgg124
  z233 := Tryd.sizeOf124
  v233 := Tryd.zeroValue124
  g17 := by kernel_rfl
  g18 := by kernel_rfl
  g19 := by kernel_rfl
  i0 := by kernel_rfl
  i2 := by kernel_rfl
  i3 := by kernel_rfl
  i4 := by kernel_rfl
  i5 := by kernel_rfl
  i9 := by kernel_rfl
  i20 := by kernel_rfl
  i37 := by kernel_rfl
  i46 := by kernel_rfl
  i51 := by kernel_rfl
  i53 := by kernel_rfl
  i171 := by kernel_rfl
  i173 := by kernel_rfl
  i212 := by kernel_rfl
  i232 := by kernel_rfl
  i233 := by kernel_rfl
  m17 := by kernel_rfl
  m18 := by kernel_rfl
  m19 := by kernel_rfl }
open Go.RowKit Go.Sort Go.Lib in
theorem Tryd.strconv_Itoa (n : Int) (h0 : -9223372036854775808 ≤ n) (h1 : n ≤ 9223372036854775807) (w : World) (htab : Lib.TabIs Tryd.prog w "internal/strconv.uint64pow10" .u64 Lib.pow10Tab) :
    Calls Tryd.prog 32 #[.int .i64 n] w fun e w' => e = .returned (.string ⟨(Lib.itoa n).toArray⟩) ∧ ∃ k os, w' = grow (w.drewN k) os := Any.strconv_Itoa Tryd.laysM171 n h0 h1 w htab
def Tryd.lays171_ren : Go.Shelf.Ren := ⟨fun | 171 => 32 | 243 => 39 | 246 => 47 | 283 => 53 | 284 => 54 | 285 => 55 | 286 => 56 | 129 => 60 | 317 => 59 | 318 => 61 | 319 => 62 | 320 => 63 | 337 => 64 | 338 => 65 | n => n, fun | 3 => 3 | 9 => 9 | 2 => 2 | 4 => 4 | 171 => 106 | 0 => 0 | 53 => 98 | 37 => 81 | 5 => 5 | 173 => 109 | 212 => 117 | 51 => 118 | 20 => 20 | 213 => 119 | 46 => 101 | 232 => 123 | 233 => 124 | n => n, fun | 17 => 3 | 18 => 4 | 19 => 5 | n => n⟩
theorem Tryd.lays171 : Go.Proofs.Lays.n171 Tryd.prog Tryd.lays171_ren := {
  mixed := by kernel_rfl
  f129 := Tryd.func60.trans (congrArg some (by kernel_rfl))
  f171 := Tryd.func32.trans (congrArg some (by kernel_rfl))
  f243 := Tryd.func39.trans (congrArg some (by kernel_rfl))
  f246 := Tryd.func47.trans (congrArg some (by kernel_rfl))
  f283 := Tryd.func53.trans (congrArg some (by kernel_rfl))
  f284 := Tryd.func54.trans (congrArg some (by kernel_rfl))
  f285 := Tryd.func55.trans (congrArg some (by kernel_rfl))
  f286 := Tryd.func56.trans (congrArg some (by kernel_rfl))
  f317 := Tryd.func59.trans (congrArg some (by kernel_rfl))
  f318 := Tryd.func61.trans (congrArg some (by kernel_rfl))
  f319 := Tryd.func62.trans (congrArg some (by kernel_rfl))
  f320 := Tryd.func63.trans (congrArg some (by kernel_rfl))
  f337 := Tryd.func64.trans (congrArg some (by kernel_rfl))
  f338 := Tryd.func65.trans (congrArg some (by kernel_rfl))
  t0 := Tryd.underlying0
  a0 := Tryd.isAgg0
  z0 := Tryd.sizeOf0
  v0 := Tryd.zeroValue0
  t2 := Tryd.underlying2
  a2 := Tryd.isAgg2
  z2 := Tryd.sizeOf2
  v2 := Tryd.zeroValue2
  t3 := Tryd.underlying3
  a3 := Tryd.isAgg3
  z3 := Tryd.sizeOf3
  v3 := Tryd.zeroValue3
  t4 := Tryd.underlying4
  a4 := Tryd.isAgg4
  z4 := Tryd.sizeOf4
  v4 := Tryd.zeroValue4
  t5 := Tryd.underlying5
  a5 := Tryd.isAgg5
  z5 := Tryd.sizeOf5
  v5 := Tryd.zeroValue5
  t9 := Tryd.underlying9
  a9 := Tryd.isAgg9
  z9 := Tryd.sizeOf9
  v9 := Tryd.zeroValue9
  t20 := Tryd.underlying20
  a20 := Tryd.isAgg20
  z20 := Tryd.sizeOf20
  v20 := Tryd.zeroValue20
  t37 := Tryd.underlying81
  a37 := Tryd.isAgg81
  z37 := Tryd.sizeOf81
  v37 := Tryd.zeroValue81
  t46 := Tryd.underlying101
  a46 := Tryd.isAgg101
  z46 := Tryd.sizeOf101
  v46 := Tryd.zeroValue101
  t51 := Tryd.underlying118
  a51 := Tryd.isAgg118
  z51 := Tryd.sizeOf118
  v51 := Tryd.zeroValue118
  t53 := Tryd.underlying98
  a53 := Tryd.isAgg98
  z53 := Tryd.sizeOf98
  v53 := Tryd.zeroValue98
  t171 := Tryd.underlying106
  a171 := Tryd.isAgg106
  z171 := Tryd.sizeOf106
  v171 := Tryd.zeroValue106
  t173 := Tryd.underlying109
  a173 := Tryd.isAgg109
  z173 := Tryd.sizeOf109
  v173 := Tryd.zeroValue109
  t212 := Tryd.underlying117
  a212 := Tryd.isAgg117
  z212 := Tryd.sizeOf117
  v212 := Tryd.zeroValue117
  t213 := Tryd.underlying119
  a213 := Tryd.isAgg119
  z213 := Tryd.sizeOf119
  t232 := Tryd.underlying123
  a232 := Tryd.isAgg123
  z232 := Tryd.sizeOf123
  v232 := Tryd.zeroValue123
  t233 := Tryd.underlying124
  a233 := Tryd.isAgg124
  z233 := Tryd.sizeOf124
  v233 := Tryd.zeroValue124
  g17 := by kernel_rfl
  g18 := by kernel_rfl
  g19 := by kernel_rfl }
open Go.RowKit Go.Sort Go.Lib in
theorem Tryd.strconv_Itoa_small (i : Nat) (hi : i < 100) (w : World) :
    Calls Tryd.prog 32 #[.int .i64 i] w fun e w' => e = .returned (.string ⟨(Lib.decDigits i).toArray⟩) ∧ w' = w := Any.strconv_Itoa_small Tryd.lays171 i hi w
def Tryd.lays99_ren : Go.Shelf.Ren := ⟨fun | 99 => 9 | 206 => 18 | n => n, fun | 9 => 9 | 4 => 4 | 3 => 3 | n => n, fun | n => n⟩
theorem Tryd.lays99 : Go.Proofs.Lays.n99 Tryd.prog Tryd.lays99_ren := {
  mixed := by kernel_rfl
  f99 := Tryd.func9.trans (congrArg some (by kernel_rfl))
  f206 := Tryd.func18.trans (congrArg some (by kernel_rfl))
  t3 := Tryd.underlying3
  a3 := Tryd.isAgg3
  z3 := Tryd.sizeOf3
  v3 := Tryd.zeroValue3
  t4 := Tryd.underlying4
  a4 := Tryd.isAgg4
  z4 := Tryd.sizeOf4
  v4 := Tryd.zeroValue4
  t9 := Tryd.underlying9
  a9 := Tryd.isAgg9
  z9 := Tryd.sizeOf9
  v9 := Tryd.zeroValue9 }
open Go.RowKit Go.Lib in
theorem Tryd.strings_HasPrefix (s p : ByteArray) (w : World) :
    Calls Tryd.prog 9 #[.string s, .string p] w fun e w' => e = .returned (.bool (Lib.hasPrefix s.data.toList p.data.toList)) ∧ w' = w := Any.strings_HasPrefix Tryd.lays99 s p w
end Go.Proofs

/-
  octet.Nat and its reference: what they compute.
-/
namespace Go.Proofs.YtjeaggfjjdfacaaDoor
open Go.RowKit

def tripI (r : Nat × Nat × Nat) : Value := .tuple #[.int .i64 r.1, .int .i64 r.2.1, .int .i64 r.2.2]

theorem octet_digit (b : Nat) (w : World) (hb : b < 256) :
    Calls Tryd.prog 29 #[.int .u8 b] w fun e w' => e = .returned (.bool (decide (48 ≤ b ∧ b ≤ 57))) ∧ w = w' := by
  by_cases h1 : 48 ≤ b
  · by_cases h2 : b ≤ 57
    · have e := Lib.hid (show decide (48 ≤ b ∧ b ≤ 57) = true by simp [h1, h2])
      go_enter Tryd.func29, Tryd.ntmps29
      go_wp2
      go_ret
      rw [e.out]
      exact ⟨by simp; omega, rfl⟩
    · have e := Lib.hid (show decide (48 ≤ b ∧ b ≤ 57) = false by simp [h2])
      go_enter Tryd.func29, Tryd.ntmps29
      go_wp2
      go_ret
      rw [e.out]
      exact ⟨by simp; omega, rfl⟩
  · have e := Lib.hid (show decide (48 ≤ b ∧ b ≤ 57) = false by simp [h1])
    go_enter Tryd.func29, Tryd.ntmps29
    go_wp2
    go_ret
    first | exact ⟨rfl, rfl⟩ | (rw [e.out]; exact ⟨rfl, rfl⟩)

theorem Kp.freeze {S : Nat → Prop} {a w : World} (h : Kp S a w) {p : Addr} (hp : p.block < a.heap.size → S p.block) (n : Nat) : Kp S a (w.freeze p n) := by
  unfold World.freeze
  split
  · exact h
  · refine ⟨h.os, h.tape, h.output, by simpa using h.size, fun k hk hS => ?_⟩
    show (w.heap.modify p.block _)[k]? = _
    rw [Array.getElem?_modify, if_neg (fun e => hS (by subst e; exact hp hk))]
    exact h.block k hk hS

theorem kp_bytesWorld (w : World) (e : TypeId) (t : ByteArray) : Kp (fun _ => False) w (Lib.bytesWorld w e t) := by
  unfold Lib.bytesWorld
  exact Kp.freeze (((Kp.refl _ w).drew).alloc _) (fun h => absurd h (by simp)) 1

set_option maxRecDepth 100000 in
set_option maxHeartbeats 1000000 in
theorem octet_Nat_in (s : ByteArray) (at_ : Nat) (w : World) (hs : s.size ≤ 9223372036854775000) (ha : at_ ≤ s.size) :
    Calls Tryd.prog 19 #[.string s, .int .i64 at_] w fun e w' => e = .returned (tripI (natN s at_)) ∧ Kp (fun _ => False) w w' := by
  have o1 : (decide ((at_ : Int) < 0) || decide ((s.size : Int) < (at_ : Int))) = false := by simp; omega
  go_enter Tryd.func19, Tryd.ntmps19
  go_wp2_with fail
  refine (octet_out _ _ _).mono ?_
  rintro e w' ⟨rfl, rfl⟩
  rw [o1]
  go_wp2_with fail
  go_loop [7] (fun v7 => ∃ j : Nat, v7 = .int .i64 j ∧ at_ ≤ j ∧ j ≤ s.size ∧ ∀ k, at_ ≤ k → k < j → isDig s k) (fun v7 => s.size - (intOf v7).toNat)
  case atStart => exact ⟨at_, rfl, by omega, by omega, fun k h1 h2 => by omega⟩
  case round =>
    obtain ⟨j, rfl, hj1, hj2, hd⟩ := hrel
    have HD := Lib.hid hd; clear hd
    by_cases hlt : j < s.size
    · have hb2 := bt_lt s j
      obtain ⟨B, hB⟩ : ∃ B, B = bt s j := ⟨_, rfl⟩
      have hb := bt_eq hlt
      rw [← hB] at hb2 hb
      have HB := Lib.hid hB; clear hB
      by_cases hdig : 48 ≤ B ∧ B ≤ 57
      · have hb3 : decide (48 ≤ B ∧ B ≤ 57) = true := by simp [hdig]
        go_wp2_with fail
        refine (octet_digit B _ hb2).mono ?_
        rintro e w' ⟨rfl, rfl⟩
        rw [hb3]
        go_wp2_with fail
        go_round
        case rel =>
          refine ⟨j + 1, by go_num, by omega, by omega, fun k h1 h2 => ?_⟩
          by_cases e : k = j
          · subst e; unfold isDig; rw [← HB.out]; exact hdig
          · exact HD.out k h1 (by omega)
        case measure => simp [intOf]; omega
      · have hb3 : decide (48 ≤ B ∧ B ≤ 57) = false := by simp only [hdig, decide_false]
        have HE := Lib.hid (endOf_is hj1 hj2 HD.out (.inr (by unfold isDig; rw [← HB.out]; exact hdig)))
        go_wp2_with fail
        refine (octet_digit B _ hb2).mono ?_
        rintro e w' ⟨rfl, rfl⟩
        rw [hb3]
        clear hb hb3 hdig HB hb2
        obtain ⟨n, rfl⟩ : ∃ n, j = at_ + n := ⟨j - at_, by omega⟩
        have HNN : Hid (natN s at_ = if at_ = s.size then (0, 0, 3) else if n = 0 ∨ bt s at_ = 48 ∧ 1 < n then (0, 0, 2) else if 9 < n then (0, 0, 5) else (numb s at_ n, at_ + n, 0)) := by
          show natN s at_ = _
          unfold natN
          rw [HE.out, show at_ + n - at_ = n from by omega]
          simp only [show (at_ + n = at_) = (n = 0) from propext (by omega), show (at_ + 1 < at_ + n) = (1 < n) from propext (by omega)]
        clear HE
        by_cases hend : at_ = s.size
        · have t1 : ((at_ : Int) == (s.size : Int)) = true := by rw [beq_iff_eq]; omega
          rw [if_pos hend] at HNN
          clear hend
          go_wp2_with fail
          go_ret3
          rw [HNN.out]
          exact ⟨rfl, Kp.refl _ _⟩
        · have t1 : ((at_ : Int) == (s.size : Int)) = false := by rw [beq_eq_false_iff_ne]; omega
          rw [if_neg hend] at HNN
          by_cases hn0 : n = 0
          · subst hn0
            have e1 : (s.extract at_ at_).toList = [] := cut_empty s at_
            have e2 : (s.extract at_ at_).toList.isEmpty = true := by rw [e1]; rfl
            rw [if_pos (.inl rfl)] at HNN
            rw [Nat.add_zero] at *
            clear hend
            go_wp2_with fail
            go_ret3
            rw [HNN.out]
            exact ⟨rfl, Kp.refl _ _⟩
          · have hcs := cut_size (s := s) (i := at_) (n := n) hj2
            have hsz : 0 < (s.extract at_ (at_ + n)).size := by rw [hcs]; omega
            have e1 := cut_some hj2 (show 0 < n by omega)
            have e2 : (s.extract at_ (at_ + n)).toList.isEmpty = false := by simpa using e1
            have hc0 := cut_first hj2 hsz
            have hC := bt_lt s at_
            generalize bt s at_ = C at hc0 HNN hC
            have HAT := Lib.hid (show Lib.atoi (s.extract at_ (at_ + n)).data.toList = some (numb s at_ n : Int) by rw [cut_list]; exact word_atoi (by omega) hj2 (fun k hk => HD.out (at_ + k) (by omega) (by omega)))
            by_cases h48 : C = 48 ∧ 1 < n
            · obtain ⟨rfl, hn1⟩ := h48
              rw [if_pos (.inr ⟨rfl, hn1⟩)] at HNN
              have d1 : decide ((1 : Int) < (n : Int)) = true := by simp; omega
              go_wp2_with fail
              go_ret3
              rw [HNN.out]
              exact ⟨rfl, Kp.refl _ _⟩
            · rw [if_neg (by omega)] at HNN
              by_cases hn9 : 9 < n
              · rw [if_pos hn9] at HNN
                have hC48 : ¬ C = 48 := by omega
                have hC48i : ¬ (C : Int) = 48 := by omega
                have d1 : decide ((9 : Int) < (n : Int)) = true := by simp; omega
                go_wp2_with fail
                go_ret3
                rw [HNN.out]
                exact ⟨rfl, Kp.refl _ _⟩
              · rw [if_neg hn9] at HNN
                have d1 : decide ((9 : Int) < (n : Int)) = false := by simp; omega
                have hnum := numb_lt (s := s) (i := at_) n (fun k hk => HD.out (at_ + k) (by omega) (by omega))
                by_cases hC48 : C = 48
                · subst hC48
                  obtain rfl : n = 1 := by omega
                  go_wp2_with fail
                  refine (Tryd.strconv_Atoi _ _ (by rw [hcs]; omega) HAT.out _).mono ?_
                  rintro e w1 ⟨rfl, t, rfl⟩
                  go_wp2_with fail
                  go_ret3
                  rw [HNN.out]
                  exact ⟨rfl, kp_bytesWorld _ _ _⟩
                · have hC48i : ¬ (C : Int) = 48 := by omega
                  go_wp2_with fail
                  refine (Tryd.strconv_Atoi _ _ (by rw [hcs]; omega) HAT.out _).mono ?_
                  rintro e w1 ⟨rfl, t, rfl⟩
                  go_wp2_with fail
                  go_ret3
                  rw [HNN.out]
                  exact ⟨rfl, kp_bytesWorld _ _ _⟩
    · have HE := Lib.hid (endOf_is hj1 hj2 HD.out (.inl (by omega)))
      obtain ⟨n, rfl⟩ : ∃ n, j = at_ + n := ⟨j - at_, by omega⟩
      have HNN : Hid (natN s at_ = if at_ = s.size then (0, 0, 3) else if n = 0 ∨ bt s at_ = 48 ∧ 1 < n then (0, 0, 2) else if 9 < n then (0, 0, 5) else (numb s at_ n, at_ + n, 0)) := by
        show natN s at_ = _
        unfold natN
        rw [HE.out, show at_ + n - at_ = n from by omega]
        simp only [show (at_ + n = at_) = (n = 0) from propext (by omega), show (at_ + 1 < at_ + n) = (1 < n) from propext (by omega)]
      clear HE
      by_cases hend : at_ = s.size
      · have t1 : ((at_ : Int) == (s.size : Int)) = true := by rw [beq_iff_eq]; omega
        rw [if_pos hend] at HNN
        clear hend
        go_wp2_with fail
        go_ret3
        rw [HNN.out]
        exact ⟨rfl, Kp.refl _ _⟩
      · have t1 : ((at_ : Int) == (s.size : Int)) = false := by rw [beq_eq_false_iff_ne]; omega
        rw [if_neg hend] at HNN
        by_cases hn0 : n = 0
        · subst hn0
          have e1 : (s.extract at_ at_).toList = [] := cut_empty s at_
          have e2 : (s.extract at_ at_).toList.isEmpty = true := by rw [e1]; rfl
          rw [if_pos (.inl rfl)] at HNN
          rw [Nat.add_zero] at *
          clear hend
          go_wp2_with fail
          go_ret3
          rw [HNN.out]
          exact ⟨rfl, Kp.refl _ _⟩
        · have hcs := cut_size (s := s) (i := at_) (n := n) hj2
          have hsz : 0 < (s.extract at_ (at_ + n)).size := by rw [hcs]; omega
          have e1 := cut_some hj2 (show 0 < n by omega)
          have e2 : (s.extract at_ (at_ + n)).toList.isEmpty = false := by simpa using e1
          have hc0 := cut_first hj2 hsz
          have hC := bt_lt s at_
          generalize bt s at_ = C at hc0 HNN hC
          have HAT := Lib.hid (show Lib.atoi (s.extract at_ (at_ + n)).data.toList = some (numb s at_ n : Int) by rw [cut_list]; exact word_atoi (by omega) hj2 (fun k hk => HD.out (at_ + k) (by omega) (by omega)))
          by_cases h48 : C = 48 ∧ 1 < n
          · obtain ⟨rfl, hn1⟩ := h48
            rw [if_pos (.inr ⟨rfl, hn1⟩)] at HNN
            have d1 : decide ((1 : Int) < (n : Int)) = true := by simp; omega
            go_wp2_with fail
            go_ret3
            rw [HNN.out]
            exact ⟨rfl, Kp.refl _ _⟩
          · rw [if_neg (by omega)] at HNN
            by_cases hn9 : 9 < n
            · rw [if_pos hn9] at HNN
              have hC48 : ¬ C = 48 := by omega
              have hC48i : ¬ (C : Int) = 48 := by omega
              have d1 : decide ((9 : Int) < (n : Int)) = true := by simp; omega
              go_wp2_with fail
              go_ret3
              rw [HNN.out]
              exact ⟨rfl, Kp.refl _ _⟩
            · rw [if_neg hn9] at HNN
              have d1 : decide ((9 : Int) < (n : Int)) = false := by simp; omega
              have hnum := numb_lt (s := s) (i := at_) n (fun k hk => HD.out (at_ + k) (by omega) (by omega))
              by_cases hC48 : C = 48
              · subst hC48
                obtain rfl : n = 1 := by omega
                go_wp2_with fail
                refine (Tryd.strconv_Atoi _ _ (by rw [hcs]; omega) HAT.out _).mono ?_
                rintro e w1 ⟨rfl, t, rfl⟩
                go_wp2_with fail
                go_ret3
                rw [HNN.out]
                exact ⟨rfl, kp_bytesWorld _ _ _⟩
              · have hC48i : ¬ (C : Int) = 48 := by omega
                go_wp2_with fail
                refine (Tryd.strconv_Atoi _ _ (by rw [hcs]; omega) HAT.out _).mono ?_
                rintro e w1 ⟨rfl, t, rfl⟩
                go_wp2_with fail
                go_ret3
                rw [HNN.out]
                exact ⟨rfl, kp_bytesWorld _ _ _⟩

theorem octet_Nat (s : ByteArray) (x : Int) (w : World) (hs : s.size ≤ 9223372036854775000) :
    Calls Tryd.prog 19 #[.string s, .int .i64 x] w fun e w' => e = .returned (tripI (natT s x)) ∧ Kp (fun _ => False) w w' := by
  by_cases h : x < 0 ∨ (s.size : Int) < x
  · have HT := Lib.hid (show natT s x = (0, 0, 1) by unfold natT; rw [if_pos h])
    have o1 : (decide (x < 0) || decide ((s.size : Int) < x)) = true := by simpa using h
    clear h
    go_enter Tryd.func19, Tryd.ntmps19
    go_wp2_with fail
    refine (octet_out _ _ _).mono ?_
    rintro e w' ⟨rfl, rfl⟩
    rw [o1]
    go_wp2_with fail
    go_ret3
    rw [HT.out]
    exact ⟨rfl, Kp.refl _ _⟩
  · obtain ⟨at_, rfl⟩ : ∃ at_ : Nat, x = at_ := ⟨x.toNat, by omega⟩
    have e : natT s (at_ : Int) = natN s at_ := by unfold natT; rw [if_neg h, Int.toNat_natCast]
    rw [e]
    exact octet_Nat_in s at_ w hs (by omega)

set_option maxRecDepth 100000 in
set_option maxHeartbeats 1000000 in
theorem ref_Nat_in (s : ByteArray) (at_ : Nat) (w : World) (hs : s.size ≤ 9223372036854775000) (ha : at_ < s.size) :
    Calls Tryd.prog 13 #[.string s, .int .i64 at_] w fun e w' => e = .returned (tripI (natN s at_)) ∧ w = w' := by
  have o1 : decide ((at_ : Int) < 0) = false := by simp
  have o2 : decide ((s.size : Int) < (at_ : Int)) = false := by simp; omega
  have o3 : decide (s.size < at_) = false := by simp; omega
  have t1 : ((at_ : Int) == (s.size : Int)) = false := by rw [beq_eq_false_iff_ne]; omega
  go_enter Tryd.func13, Tryd.ntmps13
  go_wp2_with fail
  go_loop [1, 7] (fun v1 v7 => ∃ n m : Nat, v1 = .int .i64 (at_ + n : Nat) ∧ v7 = .int .i64 m ∧ at_ + n ≤ s.size ∧ m = numb s at_ (min n 9) ∧ ∀ k, k < n → isDig s (at_ + k)) (fun v1 _ => s.size - (intOf v1).toNat)
  case atStart => exact ⟨0, 0, rfl, rfl, by omega, rfl, fun k hk => by omega⟩
  case round =>
    obtain ⟨n, m, rfl, rfl, hj2, hm, hd⟩ := hrel
    have hmb : m < 1000000000 := by
      have h1 := numb_lt (s := s) (i := at_) (min n 9) (fun k hk => hd k (by omega))
      have h2 := Nat.pow_le_pow_right (show 0 < 10 by decide) (show min n 9 ≤ 9 by omega)
      omega
    have HMV := Lib.hid hm; clear hm
    have HD := Lib.hid hd; clear hd
    have HD2 : ∀ k, at_ ≤ k → k < at_ + n → isDig s k := fun k h1 h2 => by have := HD.out (k - at_) (by omega); rw [show at_ + (k - at_) = k from by omega] at this; exact this
    have HD3 := Lib.hid HD2; clear HD2
    by_cases hlt : at_ + n < s.size
    · have hb2 := bt_lt s (at_ + n)
      obtain ⟨B, hB⟩ : ∃ B, B = bt s (at_ + n) := ⟨_, rfl⟩
      have hb := bt_eq hlt
      rw [← hB] at hb2 hb
      have HB := Lib.hid hB; clear hB
      have hli : (at_ : Int) + (n : Int) < (s.size : Int) := by omega
      have l1 : decide ((at_ : Int) + (n : Int) < (s.size : Int)) = true := by simp; omega
      by_cases hdig : 48 ≤ B ∧ B ≤ 57
      · obtain ⟨g1, g2⟩ := hdig
        have hdn : ∀ k, k < n + 1 → isDig s (at_ + k) := fun k hk => by
          by_cases e : k = n
          · subst e; unfold isDig; rw [← HB.out]; exact ⟨g1, g2⟩
          · exact HD.out k (by omega)
        have HDN := Lib.hid hdn; clear hdn
        have HNB := Lib.hid (show numb s at_ (n + 1) = 10 * numb s at_ n + (B - 48) by rw [HB.out]; rfl)
        by_cases h9 : n < 9
        · have HM2 := Lib.hid (show 10 * m + (B - 48) = numb s at_ (min (n + 1) 9) by rw [show min (n + 1) 9 = n + 1 from by omega, HNB.out, HMV.out, show min n 9 = n from by omega])
          clear HB HNB
          go_wp2_with fail
          go_round
          case rel => exact ⟨n + 1, 10 * m + (B - 48), by go_num, by go_num, by omega, HM2.out, HDN.out⟩
          case measure => simp [intOf]; omega
        · have HM2 := Lib.hid (show m = numb s at_ (min (n + 1) 9) by rw [show min (n + 1) 9 = 9 from by omega, HMV.out, show min n 9 = 9 from by omega])
          clear HB HNB
          go_wp2_with fail
          go_round
          case rel => exact ⟨n + 1, m, by go_num, rfl, by omega, HM2.out, HDN.out⟩
          case measure => simp [intOf]; omega
      · have HE := Lib.hid (endOf_is (by omega) hj2 HD3.out (.inr (by unfold isDig; rw [← HB.out]; exact hdig)))
        by_cases g1 : 48 ≤ B
        · have g2 : ¬ B ≤ 57 := fun h => hdig ⟨g1, h⟩
          clear HB hdig
          have HNN : Hid (natN s at_ = if n = 0 ∨ bt s at_ = 48 ∧ 1 < n then (0, 0, 2) else if 9 < n then (0, 0, 5) else (numb s at_ n, at_ + n, 0)) := by
            show natN s at_ = _
            unfold natN
            rw [if_neg (by omega), HE.out, show at_ + n - at_ = n from by omega]
            simp only [show (at_ + n = at_) = (n = 0) from propext (by omega), show (at_ + 1 < at_ + n) = (1 < n) from propext (by omega)]
          clear HE
          by_cases hn0 : n = 0
          · subst hn0
            simp only [Nat.add_zero] at hb hlt
            rw [if_pos (.inl rfl)] at HNN
            have t5 : ((at_ : Int) + ((0 : Nat) : Int) == (at_ : Int)) = true := by simp
            go_wp2_with fail
            go_ret3
            rw [HNN.out]
            exact ⟨rfl, rfl⟩
          · have t5 : ((at_ : Int) + (n : Int) == (at_ : Int)) = false := by rw [beq_eq_false_iff_ne]; omega
            have hC := bt_lt s at_
            have hc0 := bt_eq (s := s) (i := at_) (by omega)
            generalize bt s at_ = C at hc0 HNN hC
            by_cases h48 : C = 48 ∧ 1 < n
            · obtain ⟨rfl, hn1⟩ := h48
              rw [if_pos (.inr ⟨rfl, hn1⟩)] at HNN
              have d1 : decide ((at_ : Int) + 1 < (at_ : Int) + (n : Int)) = true := by simp; omega
              go_wp2_with fail
              go_ret3
              rw [HNN.out]
              exact ⟨rfl, rfl⟩
            · rw [if_neg (by omega)] at HNN
              by_cases hn9 : 9 < n
              · rw [if_pos hn9] at HNN
                have hC48 : ¬ C = 48 := by omega
                have hC48i : ¬ (C : Int) = 48 := by omega
                go_wp2_with fail
                go_ret3
                rw [HNN.out]
                exact ⟨rfl, rfl⟩
              · rw [if_neg hn9] at HNN
                have HM := Lib.hid (show m = numb s at_ n by rw [HMV.out]; congr 1; omega)
                by_cases hC48 : C = 48
                · subst hC48
                  obtain rfl : n = 1 := by omega
                  have d1 : decide ((at_ : Int) + 1 < (at_ : Int) + ((1 : Nat) : Int)) = false := by simp
                  go_wp2_with fail
                  go_ret3
                  rw [HNN.out, ← HM.out]
                  exact ⟨rfl, rfl⟩
                · have hC48i : ¬ (C : Int) = 48 := by omega
                  go_wp2_with fail
                  go_ret3
                  rw [HNN.out, ← HM.out]
                  exact ⟨rfl, rfl⟩
        · clear HB hdig
          have HNN : Hid (natN s at_ = if n = 0 ∨ bt s at_ = 48 ∧ 1 < n then (0, 0, 2) else if 9 < n then (0, 0, 5) else (numb s at_ n, at_ + n, 0)) := by
            show natN s at_ = _
            unfold natN
            rw [if_neg (by omega), HE.out, show at_ + n - at_ = n from by omega]
            simp only [show (at_ + n = at_) = (n = 0) from propext (by omega), show (at_ + 1 < at_ + n) = (1 < n) from propext (by omega)]
          clear HE
          by_cases hn0 : n = 0
          · subst hn0
            simp only [Nat.add_zero] at hb hlt
            rw [if_pos (.inl rfl)] at HNN
            have t5 : ((at_ : Int) + ((0 : Nat) : Int) == (at_ : Int)) = true := by simp
            go_wp2_with fail
            go_ret3
            rw [HNN.out]
            exact ⟨rfl, rfl⟩
          · have t5 : ((at_ : Int) + (n : Int) == (at_ : Int)) = false := by rw [beq_eq_false_iff_ne]; omega
            have hC := bt_lt s at_
            have hc0 := bt_eq (s := s) (i := at_) (by omega)
            generalize bt s at_ = C at hc0 HNN hC
            by_cases h48 : C = 48 ∧ 1 < n
            · obtain ⟨rfl, hn1⟩ := h48
              rw [if_pos (.inr ⟨rfl, hn1⟩)] at HNN
              have d1 : decide ((at_ : Int) + 1 < (at_ : Int) + (n : Int)) = true := by simp; omega
              go_wp2_with fail
              go_ret3
              rw [HNN.out]
              exact ⟨rfl, rfl⟩
            · rw [if_neg (by omega)] at HNN
              by_cases hn9 : 9 < n
              · rw [if_pos hn9] at HNN
                have hC48 : ¬ C = 48 := by omega
                have hC48i : ¬ (C : Int) = 48 := by omega
                go_wp2_with fail
                go_ret3
                rw [HNN.out]
                exact ⟨rfl, rfl⟩
              · rw [if_neg hn9] at HNN
                have HM := Lib.hid (show m = numb s at_ n by rw [HMV.out]; congr 1; omega)
                by_cases hC48 : C = 48
                · subst hC48
                  obtain rfl : n = 1 := by omega
                  have d1 : decide ((at_ : Int) + 1 < (at_ : Int) + ((1 : Nat) : Int)) = false := by simp
                  go_wp2_with fail
                  go_ret3
                  rw [HNN.out, ← HM.out]
                  exact ⟨rfl, rfl⟩
                · have hC48i : ¬ (C : Int) = 48 := by omega
                  go_wp2_with fail
                  go_ret3
                  rw [HNN.out, ← HM.out]
                  exact ⟨rfl, rfl⟩
    · have HE := Lib.hid (endOf_is (by omega) hj2 HD3.out (.inl (by omega)))
      have l1 : decide ((at_ : Int) + (n : Int) < (s.size : Int)) = false := by simp; omega
      have HNN : Hid (natN s at_ = if n = 0 ∨ bt s at_ = 48 ∧ 1 < n then (0, 0, 2) else if 9 < n then (0, 0, 5) else (numb s at_ n, at_ + n, 0)) := by
        show natN s at_ = _
        unfold natN
        rw [if_neg (by omega), HE.out, show at_ + n - at_ = n from by omega]
        simp only [show (at_ + n = at_) = (n = 0) from propext (by omega), show (at_ + 1 < at_ + n) = (1 < n) from propext (by omega)]
      clear HE
      by_cases hn0 : n = 0
      · exact absurd hn0 (by omega)
      · have t5 : ((at_ : Int) + (n : Int) == (at_ : Int)) = false := by rw [beq_eq_false_iff_ne]; omega
        have hC := bt_lt s at_
        have hc0 := bt_eq (s := s) (i := at_) (by omega)
        generalize bt s at_ = C at hc0 HNN hC
        by_cases h48 : C = 48 ∧ 1 < n
        · obtain ⟨rfl, hn1⟩ := h48
          rw [if_pos (.inr ⟨rfl, hn1⟩)] at HNN
          have d1 : decide ((at_ : Int) + 1 < (at_ : Int) + (n : Int)) = true := by simp; omega
          go_wp2_with fail
          go_ret3
          rw [HNN.out]
          exact ⟨rfl, rfl⟩
        · rw [if_neg (by omega)] at HNN
          by_cases hn9 : 9 < n
          · rw [if_pos hn9] at HNN
            have hC48 : ¬ C = 48 := by omega
            have hC48i : ¬ (C : Int) = 48 := by omega
            go_wp2_with fail
            go_ret3
            rw [HNN.out]
            exact ⟨rfl, rfl⟩
          · rw [if_neg hn9] at HNN
            have HM := Lib.hid (show m = numb s at_ n by rw [HMV.out]; congr 1; omega)
            by_cases hC48 : C = 48
            · subst hC48
              obtain rfl : n = 1 := by omega
              have d1 : decide ((at_ : Int) + 1 < (at_ : Int) + ((1 : Nat) : Int)) = false := by simp
              go_wp2_with fail
              go_ret3
              rw [HNN.out, ← HM.out]
              exact ⟨rfl, rfl⟩
            · have hC48i : ¬ (C : Int) = 48 := by omega
              go_wp2_with fail
              go_ret3
              rw [HNN.out, ← HM.out]
              exact ⟨rfl, rfl⟩

theorem ref_Nat (s : ByteArray) (x : Int) (w : World) (hs : s.size ≤ 9223372036854775000) :
    Calls Tryd.prog 13 #[.string s, .int .i64 x] w fun e w' => e = .returned (tripI (natT s x)) ∧ w = w' := by
  by_cases h : x < 0 ∨ (s.size : Int) < x
  · have HT := Lib.hid (show natT s x = (0, 0, 1) by unfold natT; rw [if_pos h])
    by_cases h1 : x < 0
    · have o1 : decide (x < 0) = true := by simpa using h1
      clear h
      go_enter Tryd.func13, Tryd.ntmps13
      go_wp2_with fail
      go_ret3
      rw [HT.out]
      exact ⟨rfl, rfl⟩
    · have o1 : decide (x < 0) = false := by simpa using h1
      have o2 : decide ((s.size : Int) < x) = true := by simp; omega
      clear h
      go_enter Tryd.func13, Tryd.ntmps13
      go_wp2_with fail
      go_ret3
      rw [HT.out]
      exact ⟨rfl, rfl⟩
  · obtain ⟨at_, rfl⟩ : ∃ at_ : Nat, x = at_ := ⟨x.toNat, by omega⟩
    have e : natT s (at_ : Int) = natN s at_ := by unfold natT; rw [if_neg h, Int.toNat_natCast]
    by_cases he : at_ = s.size
    · have HT := Lib.hid (show natT s (at_ : Int) = (0, 0, 3) by rw [e]; unfold natN; rw [if_pos he])
      have o1 : decide ((at_ : Int) < 0) = false := by simp
      have o3 : decide (s.size < at_) = false := by simp; omega
      have t1 : ((at_ : Int) == (s.size : Int)) = true := by rw [beq_iff_eq]; omega
      clear he h e
      go_enter Tryd.func13, Tryd.ntmps13
      go_wp2_with fail
      go_ret3
      rw [HT.out]
      exact ⟨rfl, rfl⟩
    · rw [e]
      exact ref_Nat_in s at_ w hs (by omega)

end Go.Proofs.YtjeaggfjjdfacaaDoor

/-
  ascii's reader: what a number and a sign compute, or with what they stop.
-/
namespace Go.Proofs.YtjeaggfjjdfacaaDoor
open Go.RowKit

/-- what is wrong with the number at a place, at most so much -/
def numE (s : ByteArray) (p top : Nat) : Nat := if (natN s p).2.2 ≠ 0 then (natN s p).2.2 else if top < (natN s p).1 then 5 else 0

/-- what a call of number ends with: n at the place q, or the stop with the error e -/
def NumP (s : ByteArray) (p b n q e : Nat) (w : World) (o : Ending) (w' : World) : Prop :=
  (e = 0 ∧ o = .returned (.int .i64 n) ∧ Kp (fun j => j = b) w w' ∧ Blk w' b #[.string s, .int .i64 q] 38) ∨
  (e ≠ 0 ∧ o = .panicked [{ v := stopV p e, recovered := false }] ∧ Kp (fun j => j = b) w w' ∧ Blk w' b #[.string s, .int .i64 p] 38)

set_option maxRecDepth 100000 in
set_option maxHeartbeats 1000000 in
theorem ascii_number (hNat : ∀ (s : ByteArray) (p : Nat) (u : World), s.size ≤ 9223372036854775000 → p ≤ s.size → Calls Tryd.prog 19 #[.string s, .int .i64 p] u fun e u' => e = .returned (tripI (natN s p)) ∧ Kp (fun _ => False) u u')
    (s : ByteArray) (p top b : Nat) (w : World) (hs : s.size ≤ 9223372036854775000) (hp : p ≤ s.size) (hB : Blk w b #[.string s, .int .i64 p] 38) :
    Calls Tryd.prog 11 #[.pointer (some ⟨b, 0, none⟩), .int .i64 top] w fun o w' =>
      NumP s p b (natN s p).1 (natN s p).2.1 (numE s p top) w o w' := by
  have HN := Lib.hid (fun u => hNat s p u hs hp)
  clear hNat
  unfold numE
  obtain ⟨n, q, e, hN⟩ : ∃ n q e, natN s p = (n, q, e) := ⟨_, _, _, rfl⟩
  rw [hN] at HN ⊢
  unfold tripI at HN
  simp only at HN ⊢
  clear hN
  obtain ⟨b0, b1, -, f1⟩ := hB.cells2
  have HB := Lib.hid hB
  clear hB
  have HKF := Lib.hid (fun (w1 : World) (h : Kp (fun _ => False) w.drew w1) => ((Kp.refl (fun j => j = b) w).drew).trans h (fun _ _ h => h.elim))
  have HKS := Lib.hid (fun (w1 : World) (h : Kp (fun _ => False) w.drew w1) (v : Value) => (((Kp.refl (fun j => j = b) w).drew).trans h (fun _ _ h => h.elim)).setCell (p := ⟨b, 1, none⟩) (fun _ => rfl) v)
  go_enter Tryd.func11, Tryd.ntmps11
  go_wp2_with fail
  go_region_with (go_at_call 19; refine (HN.out _).mono ?_; rintro o w1 ⟨rfl, hK1⟩)
  all_goals clear HN b0 b1 f1
  all_goals have HB1 := Lib.hid (HB.out.drew.kp hK1 (fun h => h))
  all_goals have HK1 := Lib.hid hK1
  all_goals clear hK1
  all_goals obtain ⟨c0, c1, -, g1⟩ := HB1.out.cells2
  all_goals by_cases he : e = 0
  all_goals try subst he
  · by_cases ht : top < n
    · have d1 : decide ((top : Int) < (n : Int)) = true := by simp; omega
      go_wp2_with fail
      refine (ascii_fail _ _ _ _).mono ?_
      rintro o w' ⟨rfl, rfl⟩
      go_wp2_with fail
      refine ⟨rfl, ?_⟩
      unfold NumP
      refine .inr ⟨?_, ?_, HKF.out _ HK1.out, HB1.out⟩
      · (first | exact he | rfl | decide | omega | (simp only [ht, he, ne_eq, not_true_eq_false, not_false_eq_true, if_true, if_false]; first | rfl | omega))
      · (first | exact he | rfl | decide | omega | (simp only [ht, he, ne_eq, not_true_eq_false, not_false_eq_true, if_true, if_false]; first | rfl | omega))
    · have d1 : decide ((top : Int) < (n : Int)) = false := by simp; omega
      go_wp2_with fail
      go_ret
      unfold NumP
      refine .inl ⟨?_, rfl, HKS.out _ HK1.out _, HB1.out.set_same 1 _⟩
      (first | exact he | rfl | decide | omega | (simp only [ht, he, ne_eq, not_true_eq_false, not_false_eq_true, if_true, if_false]; first | rfl | omega))
  · have e1 : ((e : Int) == 0) = false := by rw [beq_eq_false_iff_ne]; omega
    go_wp2_with fail
    refine (ascii_fail _ _ _ _).mono ?_
    rintro o w' ⟨rfl, rfl⟩
    go_wp2_with fail
    refine ⟨rfl, ?_⟩
    unfold NumP
    refine .inr ⟨?_, ?_, HKF.out _ HK1.out, HB1.out⟩
    · (first | exact he | rfl | decide | omega | (simp only [ht, he, ne_eq, not_true_eq_false, not_false_eq_true, if_true, if_false]; first | rfl | omega))
    · (first | exact he | rfl | decide | omega | (simp only [ht, he, ne_eq, not_true_eq_false, not_false_eq_true, if_true, if_false]; first | rfl | omega))
  · by_cases ht : top < n
    · have d1 : decide ((top : Int) < (n : Int)) = true := by simp; omega
      go_wp2_with fail
      refine (ascii_fail _ _ _ _).mono ?_
      rintro o w' ⟨rfl, rfl⟩
      go_wp2_with fail
      refine ⟨rfl, ?_⟩
      unfold NumP
      refine .inr ⟨?_, ?_, HKF.out _ HK1.out, HB1.out⟩
      · (first | exact he | rfl | decide | omega | (simp only [ht, he, ne_eq, not_true_eq_false, not_false_eq_true, if_true, if_false]; first | rfl | omega))
      · (first | exact he | rfl | decide | omega | (simp only [ht, he, ne_eq, not_true_eq_false, not_false_eq_true, if_true, if_false]; first | rfl | omega))
    · have d1 : decide ((top : Int) < (n : Int)) = false := by simp; omega
      go_wp2_with fail
      go_ret
      unfold NumP
      refine .inl ⟨?_, rfl, HKS.out _ HK1.out _, HB1.out.set_same 1 _⟩
      (first | exact he | rfl | decide | omega | (simp only [ht, he, ne_eq, not_true_eq_false, not_false_eq_true, if_true, if_false]; first | rfl | omega))
  · have e1 : ((e : Int) == 0) = false := by rw [beq_eq_false_iff_ne]; omega
    go_wp2_with fail
    refine (ascii_fail _ _ _ _).mono ?_
    rintro o w' ⟨rfl, rfl⟩
    go_wp2_with fail
    refine ⟨rfl, ?_⟩
    unfold NumP
    refine .inr ⟨?_, ?_, HKF.out _ HK1.out, HB1.out⟩
    · (first | exact he | rfl | decide | omega | (simp only [ht, he, ne_eq, not_true_eq_false, not_false_eq_true, if_true, if_false]; first | rfl | omega))
    · (first | exact he | rfl | decide | omega | (simp only [ht, he, ne_eq, not_true_eq_false, not_false_eq_true, if_true, if_false]; first | rfl | omega))

end Go.Proofs.YtjeaggfjjdfacaaDoor

/-
  ascii's reader: what a sign computes, or with what it stops.
-/
namespace Go.Proofs.YtjeaggfjjdfacaaDoor
open Go.RowKit

/-- what a call of sign ends with: the sign, if it is one of some, or the stop -/
def SignP (s : ByteArray) (p b : Nat) (ok : Bool) (w : World) (o : Ending) (w' : World) : Prop :=
  (p < s.size ∧ ok = true ∧ o = .returned (.int .u8 (bt s p)) ∧ Kp (fun j => j = b) w w' ∧ Blk w' b #[.string s, .int .i64 (p + 1 : Nat)] 38) ∨
  (p = s.size ∧ o = .panicked [{ v := stopV p 3, recovered := false }] ∧ Kp (fun j => j = b) w w' ∧ Blk w' b #[.string s, .int .i64 p] 38) ∨
  (p < s.size ∧ ok = false ∧ o = .panicked [{ v := stopV p 2, recovered := false }] ∧ Kp (fun j => j = b) w w' ∧ Blk w' b #[.string s, .int .i64 p] 38)

set_option maxRecDepth 100000 in
set_option maxHeartbeats 1000000 in
theorem ascii_sign (s some_ : ByteArray) (p b : Nat) (ok : Bool) (i : Int) (w : World) (hs : s.size ≤ 9223372036854775000) (hp : p ≤ s.size) (hok : p < s.size → decide (i < 0) = !ok)
    (hidx : ∀ u : World, p < s.size → Calls Tryd.prog 21 #[.string some_, .int .u8 (bt s p : Nat)] u fun e u' => e = .returned (.int .i64 i) ∧ u' = u)
    (hB : Blk w b #[.string s, .int .i64 p] 38) :
    Calls Tryd.prog 12 #[.pointer (some ⟨b, 0, none⟩), .string some_] w fun o w' => SignP s p b ok w o w' := by
  obtain ⟨b0, b1, -, f1⟩ := hB.cells2
  have HB := Lib.hid hB
  clear hB
  by_cases hlt : p < s.size
  · have t1 : ((p : Int) == (s.size : Int)) = false := by rw [beq_eq_false_iff_ne]; omega
    have l1 : (p : Int) < (s.size : Int) := by omega
    have hb := bt_eq hlt
    have HI := Lib.hid (fun u => hidx u hlt)
    have hok := hok hlt
    clear hidx
    generalize hBB : bt s p = B at hb HI
    have HBB := Lib.hid hBB
    clear hBB
    go_enter Tryd.func12, Tryd.ntmps12
    go_wp2_with fail
    go_region
    go_wp2_with fail
    go_region
    go_wp2_with fail
    refine (HI.out _).mono ?_
    rintro e u' ⟨rfl, rfl⟩
    cases ok with
    | true =>
      go_wp2_with fail
      go_ret
      unfold SignP
      rw [HBB.out]
      exact .inl ⟨hlt, rfl, rfl, ((((Kp.refl (fun j => j = b) w).setCell (p := ⟨b, 1, none⟩) (fun _ => rfl) _).drew).drew), ((HB.out.set_same 1 _).drew).drew⟩
    | false =>
      go_wp2_with fail
      refine (ascii_fail _ _ _ _).mono ?_
      rintro o w' ⟨rfl, rfl⟩
      go_wp2_with fail
      refine ⟨rfl, ?_⟩
      unfold SignP
      exact .inr (.inr ⟨hlt, rfl, rfl, ((Kp.refl _ w).drew).drew, HB.out.drew.drew⟩)
  · have t1 : ((p : Int) == (s.size : Int)) = true := by rw [beq_iff_eq]; omega
    clear hidx
    go_enter Tryd.func12, Tryd.ntmps12
    go_wp2_with fail
    go_region
    go_wp2_with fail
    refine (ascii_fail _ _ _ _).mono ?_
    rintro o w' ⟨rfl, rfl⟩
    go_wp2_with fail
    refine ⟨rfl, ?_⟩
    unfold SignP
    exact .inr (.inl ⟨by omega, rfl, (Kp.refl _ w).drew, HB.out.drew⟩)

end Go.Proofs.YtjeaggfjjdfacaaDoor

/-
  Lines and words in plain words.
-/
namespace Go.Proofs.YtjeaggfjjdfacaaDoor
open Go.RowKit

/-- the first feed from a place on -/
def feedAt (s : ByteArray) (at_ : Nat) : Option Nat := (List.range s.size).find? (fun i => decide (at_ ≤ i) && (bt s i == 10))

theorem feed_some {s : ByteArray} {at_ i : Nat} (hi : i < s.size) (h : at_ ≤ i) (hb : bt s i = 10) (hn : ∀ j, at_ ≤ j → j < i → bt s j ≠ 10) : feedAt s at_ = some i := by
  unfold feedAt
  rw [List.find?_range_eq_some]
  refine ⟨by simp [h, hb], by simpa using hi, fun j hj => ?_⟩
  simp
  by_cases h' : j < at_
  · exact .inl h'
  · exact .inr (hn j (by omega) hj)

theorem feed_none {s : ByteArray} {at_ : Nat} (hn : ∀ j, at_ ≤ j → j < s.size → bt s j ≠ 10) : feedAt s at_ = none := by
  unfold feedAt
  rw [List.find?_range_eq_none]
  intro j hj
  simp
  by_cases h' : j < at_
  · exact .inl h'
  · exact .inr (hn j (by omega) hj)

theorem feed_cases (s : ByteArray) (at_ : Nat) : (∃ i, feedAt s at_ = some i ∧ at_ ≤ i ∧ i < s.size ∧ bt s i = 10 ∧ ∀ j, at_ ≤ j → j < i → bt s j ≠ 10) ∨ feedAt s at_ = none ∧ ∀ j, at_ ≤ j → j < s.size → bt s j ≠ 10 := by
  cases h : feedAt s at_ with
  | some i =>
    left
    unfold feedAt at h
    rw [List.find?_range_eq_some] at h
    obtain ⟨h1, h2, h3⟩ := h
    simp at h1 h2 h3
    exact ⟨i, rfl, h1.1, h2, h1.2, fun j h4 h5 => (h3 j h5).resolve_left (by omega)⟩
  | none =>
    right
    unfold feedAt at h
    rw [List.find?_range_eq_none] at h
    simp at h
    exact ⟨rfl, fun j h1 h2 => (h j h2).resolve_left (by omega)⟩

/-- what Line tells, of any place -/
def lineT (s : ByteArray) (x : Int) : ByteArray × Nat × Nat :=
  if x < 0 ∨ (s.size : Int) < x then (⟨#[]⟩, 0, 1)
  else match feedAt s x.toNat with
    | some i => (s.extract x.toNat i, i + 1, 0)
    | none => (⟨#[]⟩, 0, 3)

theorem bt_feed {s : ByteArray} {i : Nat} : s.data.toList[i]? = some 10 ↔ i < s.size ∧ bt s i = 10 := by
  constructor
  · intro h
    have hi : i < s.data.toList.length := (List.getElem?_eq_some_iff.1 h).1
    have hi' : i < s.size := by simpa using hi
    refine ⟨hi', ?_⟩
    rw [← bt_eq hi']
    have h2 := (List.getElem?_eq_some_iff.1 h).2
    have : s[i] = 10 := h2
    rw [this]; rfl
  · rintro ⟨hi, hb⟩
    rw [List.getElem?_eq_getElem (by simpa using hi)]
    rw [← bt_eq hi] at hb
    have : s[i] = 10 := UInt8.toNat_inj.1 hb
    exact congrArg some this

/-- the library's word for the first feed behind a place -/
theorem feed_index (s : ByteArray) (at_ : Nat) : Lib.indexByte (s.extract at_ s.size).data.toList 10 = match feedAt s at_ with | some i => ((i - at_ : Nat) : Int) | none => -1 := by
  have he : (s.extract at_ s.size).data.toList = s.data.toList.drop at_ := by
    rw [Lib.extract_to_end]
  rw [he]
  have hge := Lib.indexByte_ge (s.data.toList.drop at_) 10
  rcases (show Lib.indexByte (s.data.toList.drop at_) 10 = -1 ∨ ∃ o : Nat, Lib.indexByte (s.data.toList.drop at_) 10 = o by
    by_cases e : Lib.indexByte (s.data.toList.drop at_) 10 = -1
    · exact .inl e
    · exact .inr ⟨(Lib.indexByte (s.data.toList.drop at_) 10).toNat, by omega⟩) with e | ⟨o, e⟩
  · have hn := Lib.indexByte_none e
    rw [e, feed_none]
    intro j h1 h2 hb
    refine hn (j - at_) ?_
    rw [List.getElem?_drop, show at_ + (j - at_) = j by omega]
    exact bt_feed.2 ⟨h2, hb⟩
  · obtain ⟨h1, h2⟩ := Lib.indexByte_some e
    rw [List.getElem?_drop] at h1
    obtain ⟨h3, h4⟩ := bt_feed.1 h1
    rw [e, feed_some h3 (Nat.le_add_right _ _) h4]
    · simp
    · intro j h5 h6 hb
      refine h2 (j - at_) (by omega) ?_
      rw [List.getElem?_drop, show at_ + (j - at_) = j by omega]
      exact bt_feed.2 ⟨by omega, hb⟩

/-- what stands between blanks -/
def wordsF : List UInt8 → List (List UInt8)
  | [] => [[]]
  | b :: l => if b = 32 then [] :: wordsF l else match wordsF l with
    | [] => [[b]]
    | x :: r => (b :: x) :: r

theorem words_app : ∀ {a : List UInt8} (r : List UInt8), (∀ b ∈ a, b ≠ 32) → wordsF (a ++ 32 :: r) = a :: wordsF r
  | [], r, _ => by simp [wordsF]
  | b :: a, r, h => by
    have hb : b ≠ 32 := h b (by simp)
    rw [List.cons_append, wordsF, if_neg hb, words_app r (fun x hx => h x (by simp [hx]))]

theorem words_none : ∀ {a : List UInt8}, (∀ b ∈ a, b ≠ 32) → wordsF a = [a]
  | [], _ => rfl
  | b :: a, h => by
    rw [wordsF, if_neg (h b (by simp)), words_none (fun x hx => h x (by simp [hx]))]

/-- words with blanks between -/
def jn : List (List UInt8) → List UInt8
  | [] => []
  | [a] => a
  | a :: b :: r => a ++ 32 :: jn (b :: r)

theorem words_ne (l : List UInt8) : wordsF l ≠ [] := by
  cases l with
  | nil => simp [wordsF]
  | cons b l => unfold wordsF; split; · simp
                split <;> simp

theorem jn_cons {a : List UInt8} {r : List (List UInt8)} (h : r ≠ []) : jn (a :: r) = a ++ 32 :: jn r := by
  cases r with
  | nil => exact absurd rfl h
  | cons b r => rfl

theorem jn_words : ∀ l : List UInt8, jn (wordsF l) = l
  | [] => rfl
  | b :: l => by
    have ih := jn_words l
    unfold wordsF
    split
    · rename_i h
      rw [jn_cons (words_ne l), ih, h]; rfl
    · cases hw : wordsF l with
      | nil => exact absurd hw (words_ne l)
      | cons x r =>
        rw [hw] at ih
        simp only
        cases r with
        | nil => simp [jn] at ih ⊢; exact ih
        | cons y r => simp [jn] at ih ⊢; exact ih

theorem jn_snoc : ∀ {xs : List (List UInt8)} {a : List UInt8}, xs ≠ [] → jn (xs ++ [a]) = jn xs ++ 32 :: a
  | [], _, h => absurd rfl h
  | [x], a, _ => by simp [jn]
  | x :: y :: r, a, _ => by
    have := jn_snoc (xs := y :: r) (a := a) (by simp)
    simp only [List.cons_append] at this ⊢
    rw [jn, this, jn]; simp

theorem split_words : ∀ (n : Nat) (l : List UInt8), l.length ≤ n → Lib.splitK [32] 0 (Lib.count l [32]) l = wordsF l
  | n, l, hl => by
    have hge := Lib.indexByte_ge l 32
    by_cases e : Lib.indexByte l 32 = -1
    · have hi : Lib.index l [32] = -1 := by rw [Lib.index_one]; exact e
      have hc : Lib.count l [32] = 0 := Lib.count_miss hi
      rw [hc, words_none]
      · rfl
      · intro b hb hb2
        obtain ⟨k, hk⟩ := List.mem_iff_getElem?.1 hb
        exact Lib.indexByte_none e k (by rw [hk, hb2])
    · obtain ⟨o, ho⟩ : ∃ o : Nat, Lib.indexByte l 32 = o := ⟨(Lib.indexByte l 32).toNat, by omega⟩
      obtain ⟨h1, h2⟩ := Lib.indexByte_some ho
      have hi : Lib.index l [32] = o := by rw [Lib.index_one]; exact ho
      have hlt : o < l.length := (List.getElem?_eq_some_iff.1 h1).1
      have hsp : l = l.take o ++ 32 :: l.drop (o + 1) := by
        have h3 := (List.getElem?_eq_some_iff.1 h1).2
        conv => lhs; rw [← List.take_append_drop o l, List.drop_eq_getElem_cons hlt, h3]
      have hw : wordsF l = l.take o :: wordsF (l.drop (o + 1)) := by
        conv => lhs; rw [hsp]
        apply words_app
        intro b hb hb2
        obtain ⟨k, hk⟩ := List.mem_iff_getElem?.1 hb
        rw [List.getElem?_take] at hk
        split at hk
        · exact h2 k (by assumption) (by rw [hk, hb2])
        · cases hk
      match n with
      | 0 => omega
      | n + 1 =>
        have hcnt : Lib.count l [32] = Lib.count (l.drop (o + 1)) [32] + 1 := by
          have := Lib.count_hit (s := l) (sub := [32]) (i := o) (by simp) hi
          simp at this
          omega
        rw [hcnt, Lib.splitK, if_neg (by rw [hi]; simp), hi, hw]
        simp only [Int.toNat_natCast, Nat.add_zero, List.length_singleton]
        rw [split_words n (l.drop (o + 1)) (by simp; omega)]

end Go.Proofs.YtjeaggfjjdfacaaDoor

/-
  Symbols and a comment behind a circuit: what is read. No program in sight.
-/
namespace Go.Proofs.YtjeaggfjjdfacaaDoor
open Go.RowKit

structure Sym where
  kind : Nat
  idx : Nat
  name : ByteArray

structure Hd where
  bin : Bool
  m : Int
  i : Int
  l : Int
  o : Int
  a : Int
  b : Int
  c : Int

/-- how many there are of a kind -/
def cnt (h : Hd) (k : Nat) : Int := if k = 105 then h.i else if k = 108 then h.l else if k = 111 then h.o else if k = 98 then h.b else if k = 99 then h.c else 0

def isKind (k : Nat) : Prop := k = 105 ∨ k = 108 ∨ k = 111 ∨ k = 98 ∨ k = 99
instance (k : Nat) : Decidable (isKind k) := by unfold isKind; infer_instance

inductive SymR where
  | bad (p e : Nat)
  | ok (x : Sym) (next : Nat)

/-- the symbol of the line at a place -/
def symT (h : Hd) (s : ByteArray) (p : Nat) : SymR :=
  if ¬ isKind (bt s p) then .bad p 2
  else if (natN s (p + 1)).2.2 ≠ 0 then .bad (p + 1) (natN s (p + 1)).2.2
  else if cnt h (bt s p) ≤ (natN s (p + 1)).1 then .bad (p + 1) 5
  else if (natN s (p + 1)).2.1 = s.size then .bad (natN s (p + 1)).2.1 3
  else if bt s (natN s (p + 1)).2.1 ≠ 32 then .bad (natN s (p + 1)).2.1 2
  else if (lineT s ((natN s (p + 1)).2.1 + 1 : Nat)).2.2 ≠ 0 then .bad ((natN s (p + 1)).2.1 + 1) (lineT s ((natN s (p + 1)).2.1 + 1 : Nat)).2.2
  else if (lineT s ((natN s (p + 1)).2.1 + 1 : Nat)).1.size = 0 then .bad ((natN s (p + 1)).2.1 + 1) 2
  else if 64 < (lineT s ((natN s (p + 1)).2.1 + 1 : Nat)).1.size then .bad ((natN s (p + 1)).2.1 + 1) 4
  else .ok ⟨bt s p, (natN s (p + 1)).1, (lineT s ((natN s (p + 1)).2.1 + 1 : Nat)).1⟩ (lineT s ((natN s (p + 1)).2.1 + 1 : Nat)).2.1

def markAt (s : ByteArray) (p : Nat) : Prop := bt s p = 99 ∧ p + 1 < s.size ∧ bt s (p + 1) = 10
instance (s : ByteArray) (p : Nat) : Decidable (markAt s p) := by unfold markAt; infer_instance

def alike (x y : Sym) : Bool := x.kind == y.kind && x.idx == y.idx

structure TailR where
  l : List Sym
  c : ByteArray
  to : Nat
  e : Nat

def readR (h : Hd) (s : ByteArray) : Nat → List Sym → Nat → TailR
  | 0, L, _ => ⟨L, ⟨#[]⟩, s.size, 0⟩
  | f + 1, L, p =>
    if s.size ≤ p then ⟨L, ⟨#[]⟩, s.size, 0⟩
    else if markAt s p then ⟨L, s.extract (p + 2) s.size, s.size, 0⟩
    else match symT h s p with
      | .bad p' e => ⟨[], ⟨#[]⟩, p', e⟩
      | .ok x next => if L.any (fun y => alike y x) then ⟨[], ⟨#[]⟩, p, 7⟩ else readR h s f (L ++ [x]) next

/-- what is read from a place on -/
def readT (h : Hd) (s : ByteArray) (x : Int) : TailR := if x < 0 ∨ (s.size : Int) < x then ⟨[], ⟨#[]⟩, 0, 1⟩ else readR h s (s.size + 1) [] x.toNat

theorem natN_end {s : ByteArray} {p : Nat} (hp : p ≤ s.size) (h : (natN s p).2.2 = 0) : p < (natN s p).2.1 ∧ (natN s p).2.1 ≤ s.size ∧ (natN s p).1 < 1000000000 := by
  have h1 := endOf_ge s p
  have h2 := endOf_le hp
  unfold natN at h ⊢
  by_cases c1 : p = s.size
  · rw [if_pos c1] at h; simp at h
  · rw [if_neg c1] at h ⊢
    by_cases c2 : endOf s p = p ∨ bt s p = 48 ∧ p + 1 < endOf s p
    · rw [if_pos c2] at h; simp at h
    · rw [if_neg c2] at h ⊢
      by_cases c3 : 9 < endOf s p - p
      · rw [if_pos c3] at h; simp at h
      · rw [if_neg c3]
        refine ⟨by simp only; omega, h2, ?_⟩
        have hd : ∀ j, j < endOf s p - p → isDig s (p + j) := by
          intro j hj
          have : j < runL s (s.size - p) p := by unfold endOf at hj; omega
          exact runL_dig s _ p j this
        have := numb_lt (endOf s p - p) hd
        have h9 : 10 ^ (endOf s p - p) ≤ 10 ^ 9 := Nat.pow_le_pow_right (by decide) (by omega)
        simp only
        omega

theorem lineT_end {s : ByteArray} {p : Nat} (hp : p ≤ s.size) (h : (lineT s (p : Nat)).2.2 = 0) : p < (lineT s (p : Nat)).2.1 ∧ (lineT s (p : Nat)).2.1 ≤ s.size ∧ (lineT s (p : Nat)).1.size ≤ s.size := by
  unfold lineT at h ⊢
  rw [if_neg (by omega)] at h ⊢
  rw [Int.toNat_natCast] at h ⊢
  rcases feed_cases s p with ⟨i, hf, h1, h2, _⟩ | ⟨hf, _⟩
  · rw [hf]
    simp only
    refine ⟨by omega, by omega, ?_⟩
    rw [ByteArray.size_extract]
    omega
  · rw [hf] at h
    simp at h

theorem symT_ok {h : Hd} {s : ByteArray} {p : Nat} (hp : p < s.size) {x : Sym} {next : Nat} (e : symT h s p = .ok x next) : p < next ∧ next ≤ s.size ∧ x.kind < 256 ∧ x.idx < 1000000000 ∧ x.name.size ≤ 64 := by
  unfold symT at e
  by_cases c1 : ¬ isKind (bt s p)
  · rw [if_pos c1] at e; cases e
  rw [if_neg c1] at e
  by_cases c2 : (natN s (p + 1)).2.2 ≠ 0
  · rw [if_pos c2] at e; cases e
  rw [if_neg c2] at e
  have hn := natN_end (s := s) (p := p + 1) (by omega) (by simpa using c2)
  by_cases c3 : cnt h (bt s p) ≤ (natN s (p + 1)).1
  · rw [if_pos c3] at e; cases e
  rw [if_neg c3] at e
  by_cases c4 : (natN s (p + 1)).2.1 = s.size
  · rw [if_pos c4] at e; cases e
  rw [if_neg c4] at e
  by_cases c5 : bt s (natN s (p + 1)).2.1 ≠ 32
  · rw [if_pos c5] at e; cases e
  rw [if_neg c5] at e
  by_cases c6 : (lineT s ((natN s (p + 1)).2.1 + 1 : Nat)).2.2 ≠ 0
  · rw [if_pos c6] at e; cases e
  rw [if_neg c6] at e
  have hl := lineT_end (s := s) (p := (natN s (p + 1)).2.1 + 1) (by omega) (by simpa using c6)
  by_cases c7 : (lineT s ((natN s (p + 1)).2.1 + 1 : Nat)).1.size = 0
  · rw [if_pos c7] at e; cases e
  rw [if_neg c7] at e
  by_cases c8 : 64 < (lineT s ((natN s (p + 1)).2.1 + 1 : Nat)).1.size
  · rw [if_pos c8] at e; cases e
  rw [if_neg c8] at e
  injection e with e1 e2
  subst e1 e2
  exact ⟨by omega, hl.2.1, bt_lt _ _, hn.2.2, by simp only; omega⟩

section
variable {h : Hd} {s : ByteArray} {p n en er nx f : Nat} {nm : ByteArray}
theorem sym1 (c1 : isKind (bt s p)) (hN : natN s (p + 1) = (n, en, er)) (c2 : er ≠ 0) : symT h s p = .bad (p + 1) er := by
  unfold symT; rw [if_neg (by simpa using c1), hN, if_pos c2]
theorem sym2 (c1 : isKind (bt s p)) (hN : natN s (p + 1) = (n, en, er)) (c2 : er = 0) (c3 : cnt h (bt s p) ≤ n) : symT h s p = .bad (p + 1) 5 := by
  unfold symT; rw [if_neg (by simpa using c1), hN, if_neg (by simpa using c2), if_pos c3]
theorem sym3 (c1 : isKind (bt s p)) (hN : natN s (p + 1) = (n, en, er)) (c2 : er = 0) (c3 : ¬ cnt h (bt s p) ≤ n) (c4 : en = s.size) : symT h s p = .bad en 3 := by
  unfold symT; rw [if_neg (by simpa using c1), hN, if_neg (by simpa using c2), if_neg c3, if_pos c4]
theorem sym4 (c1 : isKind (bt s p)) (hN : natN s (p + 1) = (n, en, er)) (c2 : er = 0) (c3 : ¬ cnt h (bt s p) ≤ n) (c4 : ¬ en = s.size) (c5 : bt s en ≠ 32) : symT h s p = .bad en 2 := by
  unfold symT; rw [if_neg (by simpa using c1), hN, if_neg (by simpa using c2), if_neg c3, if_neg c4, if_pos c5]
theorem sym5 (c1 : isKind (bt s p)) (hN : natN s (p + 1) = (n, en, er)) (c2 : er = 0) (c3 : ¬ cnt h (bt s p) ≤ n) (c4 : ¬ en = s.size) (c5 : bt s en = 32) (hL : lineT s (en + 1 : Nat) = (nm, nx, f)) (c6 : f ≠ 0) : symT h s p = .bad (en + 1) f := by
  unfold symT; rw [if_neg (by simpa using c1), hN, if_neg (by simpa using c2), if_neg c3, if_neg c4, if_neg (by simpa using c5), hL, if_pos c6]
theorem sym6 (c1 : isKind (bt s p)) (hN : natN s (p + 1) = (n, en, er)) (c2 : er = 0) (c3 : ¬ cnt h (bt s p) ≤ n) (c4 : ¬ en = s.size) (c5 : bt s en = 32) (hL : lineT s (en + 1 : Nat) = (nm, nx, f)) (c6 : f = 0) (c7 : nm.size = 0) : symT h s p = .bad (en + 1) 2 := by
  unfold symT; rw [if_neg (by simpa using c1), hN, if_neg (by simpa using c2), if_neg c3, if_neg c4, if_neg (by simpa using c5), hL, if_neg (by simpa using c6), if_pos c7]
theorem sym7 (c1 : isKind (bt s p)) (hN : natN s (p + 1) = (n, en, er)) (c2 : er = 0) (c3 : ¬ cnt h (bt s p) ≤ n) (c4 : ¬ en = s.size) (c5 : bt s en = 32) (hL : lineT s (en + 1 : Nat) = (nm, nx, f)) (c6 : f = 0) (c7 : ¬ nm.size = 0) (c8 : 64 < nm.size) : symT h s p = .bad (en + 1) 4 := by
  unfold symT; rw [if_neg (by simpa using c1), hN, if_neg (by simpa using c2), if_neg c3, if_neg c4, if_neg (by simpa using c5), hL, if_neg (by simpa using c6), if_neg c7, if_pos c8]
theorem sym8 (c1 : isKind (bt s p)) (hN : natN s (p + 1) = (n, en, er)) (c2 : er = 0) (c3 : ¬ cnt h (bt s p) ≤ n) (c4 : ¬ en = s.size) (c5 : bt s en = 32) (hL : lineT s (en + 1 : Nat) = (nm, nx, f)) (c6 : f = 0) (c7 : ¬ nm.size = 0) (c8 : ¬ 64 < nm.size) : symT h s p = .ok ⟨bt s p, n, nm⟩ nx := by
  unfold symT; rw [if_neg (by simpa using c1), hN, if_neg (by simpa using c2), if_neg c3, if_neg c4, if_neg (by simpa using c5), hL, if_neg (by simpa using c6), if_neg c7, if_neg c8]
end

theorem readR_len (h : Hd) (s : ByteArray) : ∀ (f : Nat) (L : List Sym) (p : Nat), L.length ≤ p → p ≤ s.size → (readR h s f L p).l.length ≤ s.size
  | 0, L, p, hL, hp => by simp only [readR]; omega
  | f + 1, L, p, hL, hp => by
    unfold readR
    by_cases c1 : s.size ≤ p
    · rw [if_pos c1]; simp only; omega
    rw [if_neg c1]
    by_cases c2 : markAt s p
    · rw [if_pos c2]; simp only; omega
    rw [if_neg c2]
    cases hs : symT h s p with
    | bad p' e => simp
    | ok x next =>
      have h1 := symT_ok (by omega) hs
      simp only
      by_cases c3 : L.any (fun y => alike y x) = true
      · rw [if_pos c3]; simp
      · rw [if_neg c3]
        exact readR_len h s f _ next (by rw [List.length_append]; simp; omega) h1.2.1

theorem readT_len (h : Hd) (s : ByteArray) (x : Int) : (readT h s x).l.length ≤ s.size := by
  unfold readT
  by_cases c : x < 0 ∨ (s.size : Int) < x
  · rw [if_pos c]; simp
  · rw [if_neg c]; exact readR_len h s _ _ _ (by simp) (by omega)

end Go.Proofs.YtjeaggfjjdfacaaDoor

/-
  Numerals: a number's digits, and the number that digits stand for, there and back. No program in sight.
-/
namespace Go.Proofs.YtjeaggfjjdfacaaDoor
open Go.RowKit

theorem dd_one {u : Nat} (h : u < 10) : Lib.decDigits u = [UInt8.ofNat (48 + u)] := Lib.decDigits_one h
theorem dd_more {u : Nat} (h : ¬ u < 10) : Lib.decDigits u = Lib.decDigits (u / 10) ++ [UInt8.ofNat (48 + u % 10)] := by
  conv => lhs; rw [Lib.decDigits, dif_neg h]

theorem dd_byte {d : Nat} (h : d < 10) : (UInt8.ofNat (48 + d)).toNat = 48 + d := by
  rw [UInt8.toNat_ofNat']; omega

theorem dd_digit : ∀ (u : Nat), ∀ b ∈ Lib.decDigits u, 48 ≤ b.toNat ∧ b.toNat ≤ 57 := by
  intro u
  induction u using Nat.strongRecOn with
  | _ u ih =>
    intro b hb
    by_cases h : u < 10
    · rw [dd_one h] at hb
      simp only [List.mem_singleton] at hb
      subst hb
      rw [dd_byte h]; omega
    · rw [dd_more h] at hb
      rcases List.mem_append.1 hb with hb | hb
      · exact ih (u / 10) (by omega) b hb
      · simp only [List.mem_singleton] at hb
        subst hb
        rw [dd_byte (by omega)]; omega

theorem dd_pos (u : Nat) : 0 < (Lib.decDigits u).length := by
  by_cases h : u < 10
  · rw [dd_one h]; simp
  · rw [dd_more h]; simp

theorem dd_head : ∀ (u : Nat), 0 < u → ∃ b r, Lib.decDigits u = b :: r ∧ b.toNat ≠ 48 := by
  intro u
  induction u using Nat.strongRecOn with
  | _ u ih =>
    intro h0
    by_cases h : u < 10
    · exact ⟨_, [], dd_one h, by rw [dd_byte h]; omega⟩
    · obtain ⟨b, r, e, hb⟩ := ih (u / 10) (by omega) (by omega)
      exact ⟨b, r ++ [UInt8.ofNat (48 + u % 10)], by rw [dd_more h, e]; rfl, hb⟩

theorem dd_len : ∀ (k u : Nat), u < 10 ^ (k + 1) → (Lib.decDigits u).length ≤ k + 1
  | 0, u, h => by rw [dd_one (by simpa using h)]; simp
  | k + 1, u, h => by
    by_cases hu : u < 10
    · rw [dd_one hu]; simp
    · rw [dd_more hu]
      have := dd_len k (u / 10) (by rw [Nat.pow_succ] at h; omega)
      simp; omega

theorem decFrom_snoc : ∀ (l : List UInt8) (acc : Nat) (b : UInt8), Lib.decFrom acc (l ++ [b]) = match Lib.decFrom acc l with
    | some n => match Lib.digitVal b with
      | some d => some (n * 10 + d)
      | none => none
    | none => none
  | [], acc, b => by
    simp only [List.nil_append, Lib.decFrom]
    cases Lib.digitVal b <;> rfl
  | c :: l, acc, b => by
    rw [List.cons_append]
    simp only [Lib.decFrom]
    cases Lib.digitVal c with
    | none => rfl
    | some d => exact decFrom_snoc l _ b

theorem digitVal_of {d : Nat} (h : d < 10) : Lib.digitVal (UInt8.ofNat (48 + d)) = some d := by
  unfold Lib.digitVal
  rw [dd_byte h, if_pos ⟨by omega, by omega⟩, show 48 + d - 48 = d by omega]

theorem dd_from : ∀ (u : Nat), Lib.decFrom 0 (Lib.decDigits u) = some u := by
  intro u
  induction u using Nat.strongRecOn with
  | _ u ih =>
    by_cases h : u < 10
    · rw [dd_one h]
      simp only [Lib.decFrom, digitVal_of h]
      simp
    · rw [dd_more h, decFrom_snoc, ih (u / 10) (by omega), digitVal_of (by omega)]
      simp only [Option.some.injEq]; omega

theorem dd_inj {u v : Nat} (h : Lib.decDigits u = Lib.decDigits v) : u = v := by
  have := dd_from u
  rw [h, dd_from v] at this
  exact (Option.some.inj this).symm

/-- digits without a nought ahead are their number's numeral -/
theorem numb_dd {s : ByteArray} {i : Nat} : ∀ (k : Nat), i + (k + 1) ≤ s.size → (∀ j, j < k + 1 → isDig s (i + j)) → (k = 0 ∨ bt s i ≠ 48) →
    (s.data.toList.drop i).take (k + 1) = Lib.decDigits (numb s i (k + 1)) ∧ (bt s i ≠ 48 → 0 < numb s i (k + 1))
  | 0, hs, hd, _ => by
    have h := hd 0 (by omega)
    unfold isDig at h
    rw [Nat.add_zero] at h
    obtain ⟨b, hb, hb2⟩ := byte_at (s := s) (i := i) (by omega)
    simp only [numb, Nat.mul_zero, Nat.zero_add, Nat.add_zero]
    refine ⟨?_, fun h48 => by omega⟩
    rw [dd_one (by omega), show 48 + (bt s i - 48) = b.toNat by omega]
    obtain ⟨hi, hb3⟩ := List.getElem?_eq_some_iff.1 hb
    rw [List.drop_eq_getElem_cons hi, hb3]
    simp
  | k + 1, hs, hd, hz => by
    have h48 : bt s i ≠ 48 := by rcases hz with h | h; omega; exact h
    obtain ⟨h1, h2⟩ := numb_dd k (by omega) (fun j hj => hd j (by omega)) (.inr h48)
    have h2 := h2 h48
    have h := hd (k + 1) (by omega)
    unfold isDig at h
    obtain ⟨b, hb, hb2⟩ := byte_at (s := s) (i := i + (k + 1)) (by omega)
    have e : numb s i (k + 1 + 1) = 10 * numb s i (k + 1) + (bt s (i + (k + 1)) - 48) := rfl
    refine ⟨?_, fun _ => by omega⟩
    have hl : (s.data.toList.drop i)[k + 1]? = some b := by rw [List.getElem?_drop]; exact hb
    obtain ⟨hi, hb3⟩ := List.getElem?_eq_some_iff.1 hl
    rw [List.take_succ_eq_append_getElem hi, hb3, h1, dd_more (u := numb s i (k + 1 + 1)) (by omega), e,
      show (10 * numb s i (k + 1) + (bt s (i + (k + 1)) - 48)) / 10 = numb s i (k + 1) by omega,
      show 48 + (10 * numb s i (k + 1) + (bt s (i + (k + 1)) - 48)) % 10 = b.toNat by omega]
    simp

theorem endOf_dig {s : ByteArray} {i j : Nat} (h : j < endOf s i - i) : isDig s (i + j) := by
  have : j < runL s (s.size - i) i := by unfold endOf at h; omega
  exact runL_dig s _ i j this

/-- a number that is read is the digits' numeral -/
theorem dec_natN {s : ByteArray} {p v q : Nat} (hp : p ≤ s.size) (h : natN s p = (v, q, 0)) : p < q ∧ q ≤ s.size ∧ v < 1000000000 ∧ (s.data.toList.drop p).take (q - p) = Lib.decDigits v := by
  have h0 := natN_end hp (by rw [h])
  rw [h] at h0
  simp only at h0
  refine ⟨h0.1, h0.2.1, h0.2.2, ?_⟩
  unfold natN at h
  by_cases c1 : p = s.size
  · rw [if_pos c1] at h; simp at h
  rw [if_neg c1] at h
  by_cases c2 : endOf s p = p ∨ bt s p = 48 ∧ p + 1 < endOf s p
  · rw [if_pos c2] at h; simp at h
  rw [if_neg c2] at h
  by_cases c3 : 9 < endOf s p - p
  · rw [if_pos c3] at h; simp at h
  rw [if_neg c3] at h
  simp only [Prod.mk.injEq, and_true] at h
  obtain ⟨h1, h2⟩ := h
  rw [h2] at h1 c2
  have hd : ∀ j, j < q - p → isDig s (p + j) := fun j hj => endOf_dig (by rw [h2]; exact hj)
  obtain ⟨k, hk⟩ : ∃ k, q - p = k + 1 := ⟨q - p - 1, by omega⟩
  rw [hk] at h1 hd ⊢
  rw [← h1]
  exact (numb_dd k (by omega) hd (by omega)).1

/-- a numeral is read as its number -/
theorem natN_dec {s : ByteArray} {p u : Nat} (hu : u < 1000000000) (hp : p + (Lib.decDigits u).length ≤ s.size)
    (hs : (s.data.toList.drop p).take (Lib.decDigits u).length = Lib.decDigits u) (he : p + (Lib.decDigits u).length = s.size ∨ ¬ isDig s (p + (Lib.decDigits u).length)) :
    natN s p = (u, p + (Lib.decDigits u).length, 0) := by
  have hpos := dd_pos u
  have hlen : (Lib.decDigits u).length ≤ 9 := dd_len 8 u (by omega)
  obtain ⟨n, hn⟩ : ∃ n, (Lib.decDigits u).length = n := ⟨_, rfl⟩
  rw [hn] at hpos hlen hp hs he ⊢
  have hbyte : ∀ j b, (Lib.decDigits u)[j]? = some b → bt s (p + j) = b.toNat := by
    intro j b hb
    have hj : j < n := by rw [← hn]; exact (List.getElem?_eq_some_iff.1 hb).1
    rw [← hs, List.getElem?_take, if_pos hj, List.getElem?_drop] at hb
    obtain ⟨c, hc, hc2⟩ := byte_at (s := s) (i := p + j) (by omega)
    rw [hb] at hc
    rw [← hc2, Option.some.inj hc]
  have hd : ∀ j, j < n → isDig s (p + j) := by
    intro j hj
    have hj' : j < (Lib.decDigits u).length := by omega
    have := dd_digit u _ (List.getElem_mem hj')
    have hb := hbyte j _ (List.getElem?_eq_getElem hj')
    unfold isDig
    rw [hb]; exact this
  have hend : endOf s p = p + n := endOf_is (by omega) hp (fun k h1 h2 => by have := hd (k - p) (by omega); rwa [show p + (k - p) = k by omega] at this) he
  unfold natN
  rw [if_neg (by omega), hend, if_neg ?_, if_neg (by omega), show p + n - p = n by omega]
  · have h1 := word_dec (s := s) (i := p) n hp hd
    rw [hs, dd_from] at h1
    rw [← Option.some.inj h1]
  · rintro (h | ⟨h1, h2⟩)
    · omega
    · have hu10 : ¬ u < 10 := by intro h; rw [dd_one h] at hn; simp at hn; omega
      obtain ⟨b, r, e, hb⟩ := dd_head u (by omega)
      have := hbyte 0 b (by rw [e]; rfl)
      rw [Nat.add_zero] at this
      omega

theorem itoa_nat (u : Nat) : Lib.itoa (u : Int) = Lib.decDigits u := by unfold Lib.itoa; rw [if_neg (by omega), Int.toNat_natCast]

end Go.Proofs.YtjeaggfjjdfacaaDoor

/-
  The head of a circuit's file in plain words: which head a text begins with, or what is wrong and where; and a head's line. No program in sight.
-/
namespace Go.Proofs.YtjeaggfjjdfacaaDoor
open Go.RowKit

/-- the next number and the sign behind it: the number, the place behind both, the error, whether the line ends -/
def stepH (s : ByteArray) (k p : Nat) : Nat × Nat × Nat × Bool :=
  if (natN s p).2.2 ≠ 0 then (0, p, (natN s p).2.2, false)
  else if (if 7 ≤ k then 0 else 16777216) < (natN s p).1 then (0, p, 5, false)
  else if (natN s p).2.1 = s.size then (0, (natN s p).2.1, 3, false)
  else if bt s (natN s p).2.1 = 10 ∧ 4 ≤ k then ((natN s p).1, (natN s p).2.1 + 1, 0, true)
  else if bt s (natN s p).2.1 = 32 ∧ k < 8 then ((natN s p).1, (natN s p).2.1 + 1, 0, false)
  else (0, (natN s p).2.1, 2, false)

/-- the numbers of the line -/
def headL (s : ByteArray) : Nat → Nat → List Nat → List Nat × Nat × Nat
  | 0, p, l => (l, p, 0)
  | f + 1, p, l =>
    if (stepH s l.length p).2.2.1 ≠ 0 then ([], (stepH s l.length p).2.1, (stepH s l.length p).2.2.1)
    else if (stepH s l.length p).2.2.2 = true then (l ++ [(stepH s l.length p).1], (stepH s l.length p).2.1, 0)
    else headL s f (stepH s l.length p).2.1 (l ++ [(stepH s l.length p).1])

def nth (l : List Nat) (k : Nat) : Nat := l[k]?.getD 0

theorem nth_ge {l : List Nat} {k : Nat} (h : l.length ≤ k) : nth l k = 0 := by unfold nth; rw [List.getElem?_eq_none h]; rfl
theorem nth_snoc_lt {l : List Nat} {k x : Nat} (h : k < l.length) : nth (l ++ [x]) k = nth l k := by unfold nth; rw [List.getElem?_append_left h]
theorem nth_snoc {l : List Nat} {x : Nat} : nth (l ++ [x]) l.length = x := by unfold nth; simp

/-- whether a text begins as a head does -/
def isHead (s : ByteArray) : Prop := 4 ≤ s.size ∧ bt s 0 = 97 ∧ (bt s 1 = 97 ∨ bt s 1 = 105) ∧ bt s 2 = 103 ∧ bt s 3 = 32

instance (s : ByteArray) : Decidable (isHead s) := by unfold isHead; infer_instance

/-- whether the gates, latches and inputs are more than the head's variables, or, in the short form, fewer -/
def badSum (bin : Bool) (l : List Nat) : Prop := nth l 0 < nth l 1 + nth l 2 + nth l 4 ∨ bin = true ∧ nth l 1 + nth l 2 + nth l 4 < nth l 0

instance (b : Bool) (l : List Nat) : Decidable (badSum b l) := by unfold badSum; infer_instance

/-- the head with which a text begins, the place and the error -/
def headT (s : ByteArray) : Bool × List Nat × Nat × Nat :=
  if ¬ isHead s then (false, [], 0, 2)
  else if (headL s 9 4 []).2.2 ≠ 0 then (false, [], (headL s 9 4 []).2.1, (headL s 9 4 []).2.2)
  else if badSum (decide (bt s 1 = 105)) (headL s 9 4 []).1 then (false, [], 4, 5)
  else (decide (bt s 1 = 105), (headL s 9 4 []).1, (headL s 9 4 []).2.1, 0)

theorem stepH_ok {s : ByteArray} {k p : Nat} (hp : p ≤ s.size) (h : (stepH s k p).2.2.1 = 0) :
    p < (stepH s k p).2.1 ∧ (stepH s k p).2.1 ≤ s.size ∧ (stepH s k p).1 ≤ 16777216 ∧ (7 ≤ k → (stepH s k p).1 = 0) := by
  have hE := natN_end (s := s) (p := p) hp
  unfold stepH at h ⊢
  by_cases c1 : (natN s p).2.2 ≠ 0
  · rw [if_pos c1] at h; exact absurd h c1
  have hE := hE (by omega)
  rw [if_neg c1] at h ⊢
  by_cases c2 : (if 7 ≤ k then 0 else 16777216) < (natN s p).1
  · rw [if_pos c2] at h; simp at h
  rw [if_neg c2] at h ⊢
  have c2' : (natN s p).1 ≤ 16777216 ∧ (7 ≤ k → (natN s p).1 = 0) := by
    split at c2 <;> exact ⟨by omega, fun _ => by omega⟩
  by_cases c3 : (natN s p).2.1 = s.size
  · rw [if_pos c3] at h; simp at h
  rw [if_neg c3] at h ⊢
  by_cases c4 : bt s (natN s p).2.1 = 10 ∧ 4 ≤ k
  · rw [if_pos c4]
    refine ⟨?_, ?_, c2'⟩ <;> simp only <;> omega
  rw [if_neg c4] at h ⊢
  by_cases c5 : bt s (natN s p).2.1 = 32 ∧ k < 8
  · rw [if_pos c5]
    refine ⟨?_, ?_, c2'⟩ <;> simp only <;> omega
  rw [if_neg c5] at h; simp at h

/-- the byte at a place of a text's rest -/
theorem bt_drop {s : ByteArray} {p : Nat} {l : List UInt8} (h : s.data.toList.drop p = l) {j : Nat} {b : UInt8} (hj : l[j]? = some b) : bt s (p + j) = b.toNat ∧ p + j < s.size := by
  rw [← h, List.getElem?_drop] at hj
  obtain ⟨h1, h2⟩ := List.getElem?_eq_some_iff.1 hj
  rw [← Lib.size_eq] at h1
  obtain ⟨c, hc, hc2⟩ := byte_at (s := s) (i := p + j) h1
  rw [hj] at hc
  exact ⟨by rw [← hc2, Option.some.inj hc], h1⟩

theorem natN_q {s : ByteArray} {p : Nat} (h : (natN s p).2.2 = 0) : (natN s p).2.1 = endOf s p ∧ endOf s p ≠ p := by
  unfold natN at h ⊢
  by_cases c1 : p = s.size
  · rw [if_pos c1] at h; simp at h
  rw [if_neg c1] at h ⊢
  by_cases c2 : endOf s p = p ∨ bt s p = 48 ∧ p + 1 < endOf s p
  · rw [if_pos c2] at h; simp at h
  rw [if_neg c2] at h ⊢
  by_cases c3 : 9 < endOf s p - p
  · rw [if_pos c3] at h; simp at h
  rw [if_neg c3]
  exact ⟨rfl, fun e => c2 (.inl e)⟩

/-- where a number's numeral stands, and no digit behind it, that number is read, if any is -/
theorem natN_word {s : ByteArray} {p : Nat} {n : Int} {c : UInt8} {rest : List UInt8} (hd : s.data.toList.drop p = Lib.itoa n ++ c :: rest) (hc : ¬ (48 ≤ c.toNat ∧ c.toNat ≤ 57))
    (h : (natN s p).2.2 = 0) : ∃ u : Nat, n = u ∧ natN s p = (u, p + (Lib.itoa n).length, 0) := by
  obtain ⟨hq, hqp⟩ := natN_q h
  by_cases hn : n < 0
  · exfalso
    obtain ⟨r, hr⟩ : ∃ r, Lib.itoa n = 45 :: r := by unfold Lib.itoa; rw [if_pos hn]; exact ⟨_, rfl⟩
    rw [hr] at hd
    have h0 := bt_drop hd (j := 0) (b := 45) rfl
    rw [Nat.add_zero] at h0
    refine hqp (endOf_is (Nat.le_refl _) (by omega) (fun k h1 h2 => by omega) (.inr ?_))
    unfold isDig
    rw [h0.1]
    decide
  · obtain ⟨u, rfl⟩ : ∃ u : Nat, n = u := ⟨n.toNat, by omega⟩
    rw [itoa_nat] at hd ⊢
    have hB : ∀ j, j < (Lib.decDigits u).length → isDig s (p + j) ∧ p + j < s.size := by
      intro j hj
      have hm := dd_digit u _ (List.getElem_mem hj)
      have := bt_drop hd (j := j) (b := (Lib.decDigits u)[j]) (by rw [List.getElem?_append_left hj]; exact List.getElem?_eq_getElem hj)
      unfold isDig
      rw [this.1]
      exact ⟨hm, this.2⟩
    have hC := bt_drop hd (j := (Lib.decDigits u).length) (b := c) (by simp)
    have hE : endOf s p = p + (Lib.decDigits u).length := endOf_is (by omega) (by omega)
      (fun k h1 h2 => by have := (hB (k - p) (by omega)).1; rwa [show p + (k - p) = k by omega] at this) (.inr (by unfold isDig; rw [hC.1]; exact hc))
    obtain ⟨v, q, hv⟩ : ∃ v q, natN s p = (v, q, 0) := ⟨_, _, by rw [← h]⟩
    have hD := dec_natN (by omega) hv
    rw [hv] at hq
    simp only at hq
    subst hq
    rw [hE, show p + (Lib.decDigits u).length - p = (Lib.decDigits u).length by omega, hd, List.take_left] at hD
    have := dd_inj hD.2.2.2
    subst this
    exact ⟨u, rfl, by rw [hv, hE]⟩

/-- the numbers of a written line are read as they were, if they are read -/
theorem headL_text {s : ByteArray} : ∀ (ns : List Int) (f p : Nat) (l : List Nat), ns ≠ [] → s.data.toList.drop p = Lib.join (ns.map Lib.itoa) [32] ++ [10] → l.length + f = 9 → ns.length ≤ f →
    (headL s f p l).2.2 = 0 → ∃ m : List Nat, ns = m.map (fun u : Nat => (u : Int)) ∧ (headL s f p l).1 = l ++ m
  | [], _, _, _, h, _, _, _, _ => absurd rfl h
  | n :: r, 0, _, _, _, _, _, h, _ => by simp at h
  | n :: r, f + 1, p, l, _, hd, hl, hf, h => by
    obtain ⟨c, rest, hc, hd2⟩ : ∃ c rest, ((c = 10 ∧ r = []) ∨ (c = 32 ∧ r ≠ [] ∧ rest = Lib.join (r.map Lib.itoa) [32] ++ [10])) ∧ s.data.toList.drop p = Lib.itoa n ++ c :: rest := by
      cases r with
      | nil => exact ⟨10, [], .inl ⟨rfl, rfl⟩, by rw [hd, List.map_cons, List.map_nil, Lib.join_one]⟩
      | cons x y =>
        refine ⟨32, _, .inr ⟨rfl, by simp, rfl⟩, ?_⟩
        rw [hd, List.map_cons, Lib.join_cons, List.map_cons, Lib.join_cons]
        simp [Lib.joinTail]
    have hcd : ¬ (48 ≤ c.toNat ∧ c.toNat ≤ 57) := by
      rcases hc with ⟨rfl, _⟩ | ⟨rfl, _⟩ <;> decide
    unfold headL at h ⊢
    by_cases e1 : (stepH s l.length p).2.2.1 ≠ 0
    · rw [if_pos e1] at h; exact absurd h e1
    rw [if_neg e1] at h ⊢
    have hN : (natN s p).2.2 = 0 := by
      unfold stepH at e1
      by_cases c1 : (natN s p).2.2 ≠ 0
      · rw [if_pos c1] at e1; exact absurd c1 e1
      · omega
    obtain ⟨u, rfl, hv⟩ := natN_word hd2 hcd hN
    have hC := bt_drop hd2 (j := (Lib.itoa (u : Int)).length) (b := c) (by simp)
    unfold stepH at e1 h ⊢
    rw [hv] at e1 h ⊢
    simp only [ne_eq, not_true_eq_false, if_false] at e1 h ⊢
    by_cases c2 : (if 7 ≤ l.length then 0 else 16777216) < u
    · rw [if_pos c2] at e1; simp at e1
    rw [if_neg c2] at e1 h ⊢
    rw [if_neg (show ¬ p + (Lib.itoa (u : Int)).length = s.size by omega), hC.1] at e1 h ⊢
    rcases hc with ⟨rfl, rfl⟩ | ⟨rfl, hr, hrest⟩
    · rw [if_neg (show ¬ ((10 : UInt8).toNat = 32 ∧ l.length < 8) from fun h => absurd h.1 (by decide))] at e1 h ⊢
      by_cases c4 : (10 : UInt8).toNat = 10 ∧ 4 ≤ l.length
      · rw [if_pos c4] at e1 h ⊢
        exact ⟨[u], rfl, rfl⟩
      · rw [if_neg c4] at e1; simp at e1
    · rw [if_neg (show ¬ ((32 : UInt8).toNat = 10 ∧ 4 ≤ l.length) from fun h => absurd h.1 (by decide))] at e1 h ⊢
      by_cases c5 : (32 : UInt8).toNat = 32 ∧ l.length < 8
      · rw [if_pos c5] at e1 h ⊢
        simp only [if_false, Bool.false_eq_true] at h ⊢
        obtain ⟨m, hm, hm2⟩ := headL_text r f (p + (Lib.itoa (u : Int)).length + 1) (l ++ [u]) hr
          (by rw [← List.drop_drop, ← List.drop_drop, hd2, List.drop_left, List.drop_one, List.tail_cons, hrest]) (by simp; omega) (by simp at hf; omega) h
        exact ⟨u :: m, by rw [hm]; rfl, by rw [hm2]; simp⟩
      · rw [if_neg c5] at e1; simp at e1

/-- the numbers of a head's line -/
def wrow (h : List Int) : List Int := if gi h 6 ≠ 0 then h.take 7 else if gi h 5 ≠ 0 then h.take 6 else h.take 5

/-- a head's line -/
def headW (b : Bool) (h : List Int) : List UInt8 := (if b = true then [97, 105, 103, 32] else [97, 97, 103, 32]) ++ (Lib.join ((wrow h).map Lib.itoa) [32] ++ [10])

theorem wrow_length {h : List Int} (hl : h.length = 7) : 5 ≤ (wrow h).length ∧ (wrow h).length ≤ 7 := by
  unfold wrow
  split
  · simp [hl]
  · split <;> simp [hl]

theorem wrow_gi {h : List Int} (hl : h.length = 7) (k : Nat) : gi (wrow h) k = gi h k := by
  have key : ∀ m, (∀ j, m ≤ j → j < 7 → gi h j = 0) → gi (h.take m) k = gi h k := by
    intro m hz
    unfold gi
    rw [List.getElem?_take]
    split
    · rfl
    · by_cases h7 : k < 7
      · have := hz k (by omega) h7
        unfold gi at this
        rw [this]; rfl
      · rw [List.getElem?_eq_none (by omega)]
  unfold wrow
  split
  · exact key 7 (fun j h1 h2 => by omega)
  · split
    · refine key 6 (fun j h1 h2 => ?_)
      obtain rfl : j = 6 := by omega
      omega
    · refine key 5 (fun j h1 h2 => ?_)
      rcases (show j = 5 ∨ j = 6 by omega) with rfl | rfl <;> omega

/-- what is read of a written head is that head -/
theorem headT_back {s : ByteArray} {b : Bool} {h : List Int} (hl : h.length = 7) (hs : s.data.toList = headW b h) (he : (headT s).2.2.2 = 0) :
    (headT s).1 = b ∧ ∀ k, ((nth (headT s).2.1 k : Nat) : Int) = gi h k := by
  have hw := wrow_length hl
  have h1 : decide (bt s 1 = 105) = b := by
    cases b with
    | true =>
      have := bt_drop (s := s) (p := 0) (l := headW true h) (by rw [List.drop_zero, hs]) (j := 1) (b := 105) rfl
      rw [Nat.zero_add] at this
      rw [this.1]; rfl
    | false =>
      have := bt_drop (s := s) (p := 0) (l := headW false h) (by rw [List.drop_zero, hs]) (j := 1) (b := 97) rfl
      rw [Nat.zero_add] at this
      rw [this.1]; rfl
  have hd : s.data.toList.drop 4 = Lib.join ((wrow h).map Lib.itoa) [32] ++ [10] := by
    rw [hs]; unfold headW
    cases b <;> rfl
  unfold headT at he ⊢
  by_cases c1 : ¬ isHead s
  · rw [if_pos c1] at he; simp at he
  rw [if_neg c1] at he ⊢
  by_cases c2 : (headL s 9 4 []).2.2 ≠ 0
  · rw [if_pos c2] at he; exact absurd he c2
  rw [if_neg c2] at he ⊢
  by_cases c3 : badSum (decide (bt s 1 = 105)) (headL s 9 4 []).1
  · rw [if_pos c3] at he; simp at he
  rw [if_neg c3]
  obtain ⟨m, hm, hm2⟩ := headL_text (wrow h) 9 4 [] (by intro e; rw [e] at hw; simp at hw) hd (by simp) (by omega) (by omega)
  refine ⟨h1, fun k => ?_⟩
  show ((nth (headL s 9 4 []).1 k : Nat) : Int) = gi h k
  rw [hm2, List.nil_append, ← wrow_gi hl k, hm]
  unfold nth gi
  rw [List.getElem?_map]
  cases m[k]? <;> rfl

end Go.Proofs.YtjeaggfjjdfacaaDoor

/-
  ascii.ReadHead: what it computes: the head with which a text begins.
-/
namespace Go.Proofs.YtjeaggfjjdfacaaDoor
open Go.RowKit

/-- a head as a value -/
def headV (b : Bool) (l : List Nat) : Value := .agg #[.bool b, .int .i64 (nth l 0), .int .i64 (nth l 1), .int .i64 (nth l 2), .int .i64 (nth l 3), .int .i64 (nth l 4), .int .i64 (nth l 5), .int .i64 (nth l 6)]
def headC (b : Bool) (l : List Nat) : Array Value := #[.bool b, .int .i64 (nth l 0), .int .i64 (nth l 1), .int .i64 (nth l 2), .int .i64 (nth l 3), .int .i64 (nth l 4), .int .i64 (nth l 5), .int .i64 (nth l 6)]

/-- the nine cells -/
def arr (l : List Nat) : Array Value := #[.int .i64 (nth l 0), .int .i64 (nth l 1), .int .i64 (nth l 2), .int .i64 (nth l 3), .int .i64 (nth l 4), .int .i64 (nth l 5), .int .i64 (nth l 6), .int .i64 (nth l 7), .int .i64 (nth l 8)]

theorem arr_get (l : List Nat) : ∀ i, i < 9 → (arr l)[i]? = some (.int .i64 (nth l i))
  | 0, _ => rfl | 1, _ => rfl | 2, _ => rfl | 3, _ => rfl | 4, _ => rfl | 5, _ => rfl | 6, _ => rfl | 7, _ => rfl | 8, _ => rfl
  | n + 9, h => by omega

theorem arr_set (l : List Nat) (n : Nat) (_h : l.length ≤ 8) : (arr l).setIfInBounds l.length (.int .i64 (n : Nat)) = arr (l ++ [n]) := by
  apply Array.ext_getElem?
  intro i
  by_cases hi : i < 9
  · rw [arr_get _ i hi, Array.getElem?_setIfInBounds]
    by_cases e : l.length = i
    · subst e
      rw [if_pos rfl, if_pos (show l.length < (arr l).size by show l.length < 9; omega), nth_snoc]
    · rw [if_neg e, arr_get _ i hi]
      congr 2
      rcases Nat.lt_or_ge i l.length with h1 | h1
      · rw [nth_snoc_lt h1]
      · rw [nth_ge h1, nth_ge (by simp; omega)]
  · rw [Array.getElem?_eq_none (by rw [Array.size_setIfInBounds]; show 9 ≤ i; omega), Array.getElem?_eq_none (by show 9 ≤ i; omega)]

/-- the library's contracts that a reader needs -/
structure RdK : Prop where
  nat : ∀ (s : ByteArray) (p : Nat) (u : World), s.size ≤ 9223372036854775000 → p ≤ s.size → Calls Tryd.prog 19 #[.string s, .int .i64 p] u fun e u' => e = .returned (tripI (natN s p)) ∧ Kp (fun _ => False) u u'
  idx : ∀ (s : ByteArray) (c : Int) (u : World), Calls Tryd.prog 21 #[.string s, .int .u8 c] u fun e u' => e = .returned (.int .i64 (Lib.indexByte s.data.toList c.toNat.toUInt8)) ∧ u' = u
  pre : ∀ (s p : ByteArray) (u : World), Calls Tryd.prog 9 #[.string s, .string p] u fun e u' => e = .returned (.bool (Lib.hasPrefix s.data.toList p.data.toList)) ∧ u' = u

theorem isHead_pre (s : ByteArray) : (Lib.hasPrefix s.data.toList [97, 97, 103, 32] = true ∨ Lib.hasPrefix s.data.toList [97, 105, 103, 32] = true) ↔ isHead s := by
  have hb : ∀ (i : Nat) (b : UInt8), s.data.toList[i]? = some b → bt s i = b.toNat := fun i b h => by
    have h1 := (List.getElem?_eq_some_iff.1 h).1
    rw [← Lib.size_eq] at h1
    obtain ⟨c, hc, hc2⟩ := byte_at (s := s) (i := i) h1
    rw [h] at hc
    rw [← hc2, Option.some.inj hc]
  have hz := Lib.size_eq s
  unfold isHead Lib.hasPrefix
  generalize s.data.toList = L at hb hz
  have e97 : ∀ b : UInt8, (97 == b) = true ↔ b.toNat = 97 := fun b => by rw [beq_iff_eq]; exact ⟨fun h => by rw [← h]; rfl, fun h => UInt8.toNat_inj.1 (by rw [h]; rfl)⟩
  have e105 : ∀ b : UInt8, (105 == b) = true ↔ b.toNat = 105 := fun b => by rw [beq_iff_eq]; exact ⟨fun h => by rw [← h]; rfl, fun h => UInt8.toNat_inj.1 (by rw [h]; rfl)⟩
  have e103 : ∀ b : UInt8, (103 == b) = true ↔ b.toNat = 103 := fun b => by rw [beq_iff_eq]; exact ⟨fun h => by rw [← h]; rfl, fun h => UInt8.toNat_inj.1 (by rw [h]; rfl)⟩
  have e32 : ∀ b : UInt8, (32 == b) = true ↔ b.toNat = 32 := fun b => by rw [beq_iff_eq]; exact ⟨fun h => by rw [← h]; rfl, fun h => UInt8.toNat_inj.1 (by rw [h]; rfl)⟩
  match L, hb, hz with
  | [], _, hz => simp at hz; simp [List.isPrefixOf, hz]
  | [a], _, hz => simp at hz; simp [List.isPrefixOf, hz]
  | [a, b], _, hz => simp at hz; simp [List.isPrefixOf, hz]
  | [a, b, c], _, hz => simp at hz; simp [List.isPrefixOf, hz]
  | a :: b :: c :: d :: r, hb, hz =>
    simp only [List.isPrefixOf, Bool.and_true, Bool.and_eq_true, e97, e105, e103, e32]
    rw [hb 0 a rfl, hb 1 b rfl, hb 2 c rfl, hb 3 d rfl]
    simp only [List.length_cons] at hz
    omega

theorem Blk.cells8 {w : World} {b : Nat} {x0 x1 x2 x3 x4 x5 x6 x7 : Value} {t : TypeId} (h : Blk w b #[x0, x1, x2, x3, x4, x5, x6, x7] t) :
    w.cell? ⟨b, 0, none⟩ = some x0 ∧ w.cell? ⟨b, 1, none⟩ = some x1 ∧ w.cell? ⟨b, 2, none⟩ = some x2 ∧ w.cell? ⟨b, 3, none⟩ = some x3 ∧ w.cell? ⟨b, 4, none⟩ = some x4 ∧ w.cell? ⟨b, 5, none⟩ = some x5 ∧ w.cell? ⟨b, 6, none⟩ = some x6 ∧ w.cell? ⟨b, 7, none⟩ = some x7 :=
  ⟨h.cell rfl, h.cell rfl, h.cell rfl, h.cell rfl, h.cell rfl, h.cell rfl, h.cell rfl, h.cell rfl⟩

theorem Blk.set8 {w : World} {b : Nat} {x0 x1 x2 x3 x4 x5 x6 x7 : Value} {t : TypeId} (h : Blk w b #[x0, x1, x2, x3, x4, x5, x6, x7] t) (y0 y1 y2 y3 y4 y5 y6 y7 : Value) :
    Blk ((((((((w.setCell ⟨b, 0, none⟩ y0).setCell ⟨b, 1, none⟩ y1).setCell ⟨b, 2, none⟩ y2).setCell ⟨b, 3, none⟩ y3).setCell ⟨b, 4, none⟩ y4).setCell ⟨b, 5, none⟩ y5).setCell ⟨b, 6, none⟩ y6).setCell ⟨b, 7, none⟩ y7) b #[y0, y1, y2, y3, y4, y5, y6, y7] t := by
  have h7 := (((((((h.set_same 0 y0).set_same 1 y1).set_same 2 y2).set_same 3 y3).set_same 4 y4).set_same 5 y5).set_same 6 y6).set_same 7 y7
  simpa only [List.setIfInBounds_toArray, List.set_cons_zero, List.set_cons_succ] using h7

theorem Kp.set8 {S : Nat → Prop} {a w : World} (h : Kp S a w) {b : Nat} (hb : b < a.heap.size → S b) (y0 y1 y2 y3 y4 y5 y6 y7 : Value) :
    Kp S a ((((((((w.setCell ⟨b, 0, none⟩ y0).setCell ⟨b, 1, none⟩ y1).setCell ⟨b, 2, none⟩ y2).setCell ⟨b, 3, none⟩ y3).setCell ⟨b, 4, none⟩ y4).setCell ⟨b, 5, none⟩ y5).setCell ⟨b, 6, none⟩ y6).setCell ⟨b, 7, none⟩ y7) :=
  (((((((h.setCell (p := ⟨b, 0, none⟩) hb y0).setCell (p := ⟨b, 1, none⟩) hb y1).setCell (p := ⟨b, 2, none⟩) hb y2).setCell (p := ⟨b, 3, none⟩) hb y3).setCell (p := ⟨b, 4, none⟩) hb y4).setCell (p := ⟨b, 5, none⟩) hb y5).setCell (p := ⟨b, 6, none⟩) hb y6).setCell (p := ⟨b, 7, none⟩) hb y7

/-- the blocks of a call of ReadHead: the result's head, place and error; the reader; the numbers -/
structure HBlk (s : ByteArray) (w wr : World) (p : Nat) (l : List Nat) : Prop where
  b0 : Blk wr w.heap.size (headC false []) 23
  b1 : Blk wr (w.heap.size + 1) #[.int .i64 0] 3
  b2 : Blk wr (w.heap.size + 1 + 1) #[.int .i64 0] 24
  b3 : Blk wr (w.heap.size + 1 + 1 + 1) #[.string s, .int .i64 p] 38
  b4 : Blk wr (w.heap.size + 1 + 1 + 1 + 1) (arr l) 39
  kp : Kp (fun _ => False) w wr

theorem HBlk.reader {s : ByteArray} {w wr w1 : World} {p q : Nat} {l : List Nat} (h : HBlk s w wr p l) (hK : Kp (fun j => j = w.heap.size + 1 + 1 + 1) wr w1)
    (hB : Blk w1 (w.heap.size + 1 + 1 + 1) #[.string s, .int .i64 q] 38) : HBlk s w w1 q l :=
  ⟨h.b0.kp hK (by omega), h.b1.kp hK (by omega), h.b2.kp hK (by omega), hB, h.b4.kp hK (by omega), h.kp.trans hK (fun i hi h => by omega)⟩

theorem HBlk.store {s : ByteArray} {w wr : World} {p : Nat} {l : List Nat} (h : HBlk s w wr p l) (n : Nat) (hl : l.length ≤ 8) :
    HBlk s w (wr.setCell ⟨w.heap.size + 1 + 1 + 1 + 1, l.length, none⟩ (.int .i64 (n : Nat))) p (l ++ [n]) :=
  ⟨h.b0.set_other (by simp <;> omega) _, h.b1.set_other (by simp <;> omega) _, h.b2.set_other (by simp <;> omega) _, h.b3.set_other (by simp) _,
    by have := h.b4.set_same l.length (.int .i64 (n : Nat)); rwa [arr_set l n hl] at this,
    h.kp.setCell (p := ⟨w.heap.size + 1 + 1 + 1 + 1, l.length, none⟩) (by simp; omega) _⟩

theorem HBlk.drew {s : ByteArray} {w wr : World} {p : Nat} {l : List Nat} (h : HBlk s w wr p l) : HBlk s w wr.drew p l := ⟨h.b0, h.b1, h.b2, h.b3, h.b4, h.kp.drew⟩

theorem HBlk.new (s : ByteArray) (w : World) : HBlk s w (((((w.alloc (.cells #[.bool false, .int .i64 0, .int .i64 0, .int .i64 0, .int .i64 0, .int .i64 0, .int .i64 0, .int .i64 0] 23)).alloc (.cells #[.int .i64 0] 3)).alloc
    (.cells #[.int .i64 0] 24)).alloc (.cells #[.string s, .int .i64 4] 38)).alloc (.cells #[.int .i64 0, .int .i64 0, .int .i64 0, .int .i64 0, .int .i64 0, .int .i64 0, .int .i64 0, .int .i64 0, .int .i64 0] 39)) 4 [] := by
  have key : ∀ (u : World) (c : Array Value) (t : TypeId) (n : Nat), u.heap.size = n → Blk (u.alloc (.cells c t)) n c t := fun u c t n h => by subst h; exact Blk.new u c t
  refine ⟨((((Blk.new w _ _).alloc _).alloc _).alloc _).alloc _, (((key _ _ _ _ (by simp)).alloc _).alloc _).alloc _, ((key _ _ _ _ (by simp)).alloc _).alloc _, (key _ _ _ _ (by simp)).alloc _, key _ _ _ _ (by simp),
    (((((Kp.refl _ w).alloc _).alloc _).alloc _).alloc _).alloc _⟩

/-- what ReadHead answers -/
def HeadP (s : ByteArray) (w : World) (o : Ending) (w' : World) : Prop :=
  o = .returned (.tuple #[headV (headT s).1 (headT s).2.1, .int .i64 (headT s).2.2.1, .int .i64 (headT s).2.2.2]) ∧ Kp (fun _ => False) w w'

/-- whether a sign may stand behind the number k -/
def okS (k B : Nat) : Bool := decide (B = 32 ∧ k < 8 ∨ B = 10 ∧ 4 ≤ k)

theorem byte_is {B v : Nat} (hB : B < 256) (hv : v < 256) : (v.toUInt8 == B.toUInt8) = decide (B = v) := by
  by_cases h : B = v
  · subst h; simp
  · rw [decide_eq_false h, beq_eq_false_iff_ne]
    intro e
    have := congrArg UInt8.toNat e
    rw [UInt8.toNat_ofNat', UInt8.toNat_ofNat'] at this
    omega

theorem idx_is (k B : Nat) (hB : B < 256) (some_ : ByteArray) (hk : k < 4 ∧ some_ = ⟨#[32]⟩ ∨ 4 ≤ k ∧ k < 8 ∧ some_ = ⟨#[32, 10]⟩ ∨ k = 8 ∧ some_ = ⟨#[10]⟩) :
    decide (Lib.indexByte some_.data.toList B.toUInt8 < 0) = !okS k B := by
  have e32 : ((32 : UInt8) == B.toUInt8) = decide (B = 32) := byte_is (v := 32) hB (by decide)
  have e10 : ((10 : UInt8) == B.toUInt8) = decide (B = 10) := byte_is (v := 10) hB (by decide)
  unfold okS
  by_cases h1 : B = 32 <;> by_cases h2 : B = 10 <;> rcases hk with ⟨hk, rfl⟩ | ⟨hk, hk2, rfl⟩ | ⟨hk, rfl⟩ <;> simp [Lib.indexByte, e32, e10, h1, h2] <;> omega

theorem sign_k (K : RdK) (s : ByteArray) (q b k : Nat) (u : World) (some_ : ByteArray) (hs : s.size ≤ 100000) (hq : q ≤ s.size)
    (hk : k < 4 ∧ some_ = ⟨#[32]⟩ ∨ 4 ≤ k ∧ k < 8 ∧ some_ = ⟨#[32, 10]⟩ ∨ k = 8 ∧ some_ = ⟨#[10]⟩) (hB : Blk u b #[.string s, .int .i64 q] 38) :
    Calls Tryd.prog 12 #[.pointer (some ⟨b, 0, none⟩), .string some_] u fun o w' => SignP s q b (okS k (bt s q)) u o w' := by
  refine ascii_sign s some_ q b _ _ u (by omega) hq (fun _ => ?_) (fun v _ => K.idx _ _ v) hB
  have hlt := bt_lt s q
  generalize bt s q = B at hlt
  rw [Int.toNat_natCast]
  exact idx_is k B hlt some_ hk

end Go.Proofs.YtjeaggfjjdfacaaDoor
